/- The small program logic of this seat, part 26: what a callee hands over to which own slices were lent. Under no conditions but those that each rule names. -/
import Derived.Test.YtmbgmefmkjeahaaDoorC15Rt24
set_option linter.unusedVariables false
set_option linter.unusedSimpArgs false
set_option maxRecDepth 100000
namespace Go.Proofs.YtmbgmefmkjeahaaDoor.Rt
open Go Go.RowKit
section
variable {w0 w w' : World} {D0 D D' : Stab} {ls ms : List (Nat × LR)}
theorem St.joinB {Db : Stab} (hS : St w0 D0 D ls w) (h : St w Db D' ms w') : St w0 D0 D (ms ++ ls) w' := by
  have hsz := hS.below.size
  have hold : ∀ j x, lk ls j = some x → x.holds w' := fun j x hj => LR.holds_of_eq (hS.each j x hj) fun b hb => h.below.block b (LR.holds_lt (hS.each j x hj) hb)
  refine ⟨hS.below.trans (h.below.mono hsz), hS.le, hS.new, fun b o hbo => by rw [h.below.block b (hS.stab.lt hbo)]; exact hS.stab b o hbo, fun j x hj => ?_, fun j x hj => ?_, fun i j x y hi hj hij b hb hb' => ?_⟩
  · rcases lk_append hj with hj | hj
    · exact h.each j x hj
    · exact hold j x hj
  · rcases lk_append hj with hj | hj
    · intro b hb
      have := (h.low j x hj b hb).1
      refine ⟨by omega, ?_⟩
      cases hq : D b with
      | none => rfl
      | some o => have := hS.stab.lt hq; omega
    · exact hS.low j x hj
  · rcases lk_append hi with hi | hi <;> rcases lk_append hj with hj | hj
    · exact h.sep i j x y hi hj hij b hb hb'
    · have := (h.low i x hi b hb).1
      have := LR.holds_lt (hS.each j y hj) hb'
      omega
    · have := (h.low j y hj b hb').1
      have := LR.holds_lt (hS.each i x hi) hb
      omega
    · exact hS.sep i j x y hi hj hij b hb hb'
theorem Reps.flat {α : Type} {C : Codec α} (hC : ∀ D D' x c, C.rep D x c → C.rep D' x c) : ∀ {xs : List α} {cs : List Value}, Reps C D xs cs → Reps C D' xs cs
  | [], _, hr => hr
  | _ :: _, _, ⟨c, r, e, h1, h2⟩ => ⟨c, r, e, hC _ _ _ _ h1, Reps.flat hC h2⟩
end
end Go.Proofs.YtmbgmefmkjeahaaDoor.Rt
