/- The small program logic of this seat, part 18: functions that hand back a slice of their own; calls that are lent slices for their time alone. Under no conditions but those that each rule names. -/
import Derived.Test.YtpniidbbbhbglaaDoorC14Rt17
set_option linter.unusedSimpArgs false
set_option linter.unusedVariables false
set_option maxRecDepth 100000
namespace Go.Proofs.YtpniidbbbhbglaaDoor.Rt
open Go Go.RowKit
section
variable {w0 w w' : World} {D0 D D' : Stab} {ls : List (Nat × LR)}
theorem St.one {i j : Nat} {r : LR} (h : St w0 D0 D [(i, r)] w) : St w0 D0 D [(j, r)] w := by
  have h1 := lk_same i r []
  have key : ∀ k x, lk [(j, r)] k = some x → k = j ∧ x = r := fun k x hk => by
    rcases lk_cons hk with h | ⟨_, hk⟩
    · exact h
    · simp [lk] at hk
  refine ⟨h.below, h.le, h.new, h.stab, fun k x hk => ?_, fun k x hk => ?_, fun k l x y hk hl hkl => ?_⟩
  · obtain ⟨rfl, rfl⟩ := key k x hk; exact h.each i _ h1
  · obtain ⟨rfl, rfl⟩ := key k x hk; exact h.low i _ h1
  · exact absurd ((key k x hk).1.trans (key l y hl).1.symm) hkl
end
section
variable {P : Program} {N : Nat} {rs : List Nat} {r : Option Nat} {vs : List (Nat × Value)} {a : Act} {w w0 : World} {ops : Array Oper} {Q : Exit → Act → World → Prop} {rest : List Oper}
variable {d : Nat} {dst : Option Nat} {ty : TypeId} {pos : String} {aft : Array Edge} {D0 D Db : Stab} {ls : List (Nat × LR)} {ρ α : Type} {C : Codec α}
theorem cutV {T : World → Prop} {K : Act → World → Prop} {t u : Tr} (J : Act → World → Prop) (h1 : (∀ a w, J a w → WV r P ops Q T K u a w) → WV r P ops Q T K t a w) (h2 : ∀ a w, J a w → WV r P ops Q T K u a w) : WV r P ops Q T K t a w := h1 h2
end
end Go.Proofs.YtpniidbbbhbglaaDoor.Rt
