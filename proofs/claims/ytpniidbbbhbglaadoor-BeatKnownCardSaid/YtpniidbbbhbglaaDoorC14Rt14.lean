/- The small program logic of this seat, part 14: maps of the caller's own that a callee writes. Under no conditions but those that each rule names. -/
import Derived.Test.YtpniidbbbhbglaaDoorC14Rt13
set_option linter.unusedSimpArgs false
set_option linter.unusedVariables false
namespace Go.Proofs.YtpniidbbbhbglaaDoor.Rt
open Go Go.RowKit
section
variable {P : Program} {N : Nat} {rs : List Nat} {vs : List (Nat × Value)} {a : Act} {w w0 : World} {ops : Array Oper} {Q : Exit → Act → World → Prop} {rest : List Oper}
variable {d : Nat} {ty : TypeId} {pos : String} {aft : Array Edge} {D0 D : Stab} {ls : List (Nat × LR)}
end
section
variable {P : Program} {N : Nat} {rs : List Nat} {vs : List (Nat × Value)} {a : Act} {w : World} {dst : Option Nat} {ty : TypeId} {pos : String} {aft : Array Edge} {gd : Option (Nat × Bool)}
end
section
variable {w0 w : World} {D0 D : Stab} {ls : List (Nat × LR)} {α : Type} {C : Codec α}
theorem ownElI {xs : List α} {cs : List Value} {j : Int} {e : α} (hR : Reps C D xs cs) (hi : idx xs j = some e) :
    ∃ c, C.rep D e c ∧ ∀ q u, c[q]? = some u → cs[j.toNat * C.n + q]? = some u := by
  obtain ⟨h0, h1, h2⟩ := idx_some hi
  exact hR.get h2
theorem idx_rng {xs : List α} {j : Int} {e : α} (hi : idx xs j = some e) : 0 ≤ j ∧ j < (xs.length : Int) := by
  obtain ⟨h0, h1, _⟩ := idx_some hi
  exact ⟨h0, h1⟩
theorem St.move (hS : St w0 D0 D ls w) (i j : Nat) {r : LR} (hj : lk ls j = some r) (hne : i ≠ j) : St w0 D0 D ((j, .gone) :: (i, r) :: ls) w := by
  have key : ∀ k x, lk ((j, .gone) :: (i, r) :: ls) k = some x → x = .gone ∨ ∃ k', lk ls k' = some x ∧ (k' = k ∨ (k = i ∧ k' = j)) := by
    intro k x hk
    rcases lk_cons hk with ⟨rfl, rfl⟩ | ⟨h1, hk⟩
    · exact .inl rfl
    · rcases lk_cons hk with ⟨rfl, rfl⟩ | ⟨h2, hk⟩
      · exact .inr ⟨j, hj, .inr ⟨rfl, rfl⟩⟩
      · exact .inr ⟨k, hk, .inl rfl⟩
  have keyj : ∀ k x, lk ((j, .gone) :: (i, r) :: ls) k = some x → x ≠ .gone → (k = i ∧ x = r) ∨ (k ≠ i ∧ k ≠ j ∧ lk ls k = some x) := by
    intro k x hk hx
    rcases lk_cons hk with ⟨rfl, rfl⟩ | ⟨h1, hk⟩
    · exact absurd rfl hx
    · rcases lk_cons hk with ⟨rfl, rfl⟩ | ⟨h2, hk⟩
      · exact .inl ⟨rfl, rfl⟩
      · exact .inr ⟨h2, h1, hk⟩
  refine ⟨hS.below, hS.le, hS.new, hS.stab, fun k x hk => ?_, fun k x hk => ?_, fun k l x y hk hl hkl b hb hb' => ?_⟩
  · rcases key k x hk with rfl | ⟨k', h, _⟩
    · trivial
    · exact hS.each k' x h
  · rcases key k x hk with rfl | ⟨k', h, _⟩
    · intro b hb; simp [LR.fp] at hb
    · exact hS.low k' x h
  · have hx : x ≠ .gone := fun e => by subst e; simp [LR.fp] at hb
    have hy : y ≠ .gone := fun e => by subst e; simp [LR.fp] at hb'
    rcases keyj k x hk hx with ⟨rfl, rfl⟩ | ⟨a1, a2, hk3⟩ <;> rcases keyj l y hl hy with ⟨rfl, rfl⟩ | ⟨c1, c2, hl3⟩
    · exact hkl rfl
    · exact hS.sep j l x y hj hl3 (fun e => c2 e.symm) b hb hb'
    · exact hS.sep k j x y hk3 hj a2 b hb hb'
    · exact hS.sep k l x y hk3 hl3 hkl b hb hb'
end
section
variable {w0 w w' : World} {D0 D D' : Stab} {ls : List (Nat × LR)}
end
def RetM (D : Stab) (R : Stab → World → Value → Prop) (e : Ending) (w' : World) : Prop := ∃ v D', e = .returned v ∧ D.le D' ∧ R D' w' v
section
variable {P : Program} {N : Nat} {rs : List Nat} {vs : List (Nat × Value)} {a : Act} {w w0 : World} {D0 D : Stab} {ls : List (Nat × LR)}
variable {r : Option Nat} {ops : Array Oper} {Q : Exit → Act → World → Prop} {rest : List Oper} {d : Nat} {ty : TypeId} {pos : String} {aft : Array Edge}
theorem leaveM {fn : Func} {xs : List ResultVar} {us : List Value} {Di : Stab} {R : Stab → World → Value → Prop} {ms : List (Nat × LR)} (hr : fn.results = xs.toArray) (hF : Frm N rs vs a) (hS : St w0 D0 D ls w) (h : RVs P vs ls xs us)
    (hm : rs = [] ∨ ∃ i, lk ls i = some (.marks rs) ∧ lk ms i = none) (hms : AllL ls ms) (hle : Di.le D) (hR : ∀ w', St w0 D0 D ms w' → R D w' (tup us)) : base P fn (RetM Di R) .ret a w := by
  show LeavesInM (Fw none) 0 P fn a.tmps (RetM Di R) a.defers .returning w
  rw [hF.defers]
  have hob : ∀ b ∈ rs, w.heap[b]? = some (.deferred (some [])) := fun b hb => by
    rcases hm with rfl | ⟨i, hi, _⟩
    · cases hb
    · exact (hS.each i _ hi).2 b hb
  have hfp : ∀ b ∈ rs, w0.heap.size ≤ b ∧ D b = none := fun b hb => by
    rcases hm with rfl | ⟨i, hi, _⟩
    · cases hb
    · exact hS.low i _ hi b hb
  have hnd : rs.Nodup := by
    rcases hm with rfl | ⟨i, hi, _⟩
    · exact List.nodup_nil
    · exact (hS.each i _ hi).1
  have hother : ∀ j x, lk ms j = some x → ∀ b ∈ x.fp, b ∉ rs := fun j x hj b hb hbr => by
    rcases hm with rfl | ⟨i, hi, hmi⟩
    · cases hbr
    · have hj' := hms.get j x hj
      have hne : j ≠ i := fun e => by subst e; rw [hmi] at hj; cases hj
      exact hS.sep j i x _ hj' hi hne b hb hbr
  refine leavesM (v := tup us) (fun w' h1 h2 h3 h4 h5 => ⟨run_results hr hF hS h fun i b cs E hl => h1 b fun hb => ?_, ⟨_, D, rfl, hle, hR w' ⟨⟨?_, ?_, ?_, ?_, fun k hk => ?_⟩, hS.le, hS.new, fun b o hbo => ?_, fun j x hj => ?_, fun j x hj => hS.low j x (hms.get j x hj), fun j k x y hj hk => hS.sep j k x y (hms.get j x hj) (hms.get k y hk)⟩⟩⟩) hob hnd
  · have := hob b hb
    rw [hS.each i _ hl] at this; cases this
  · rw [h3]; exact hS.below.os
  · rw [h4]; exact hS.below.tape
  · rw [h5]; exact hS.below.output
  · rw [h2]; exact hS.below.size
  · rw [h1 k fun hb => by have := (hfp k hb).1; omega]; exact hS.below.block k hk
  · rw [h1 b fun hb => by rw [(hfp b hb).2] at hbo; cases hbo]; exact hS.stab b o hbo
  · exact LR.holds_of_eq (hS.each j x (hms.get j x hj)) fun b hb => h1 b (hother j x hj b hb)
theorem O.callM {xs : List Operand} {Ts : Array TypeId} {f : FuncId} {us : List Value} {R : Stab → World → Value → Prop} (hc : callable P f = true) (hF : Frm N rs vs a)
    (hcall : Calls P f us.toArray w (RetM D R)) (hxs : evs vs xs = some us) (hd : Nat.ble (d + 1) N = true)
    (h : ∀ v D' a' w', R D' w' v → D.le D' → Frm N rs ((d, v) :: vs) a' → WL r P ops Q rest a' w') :
    WL r P ops Q (⟨some d, .call ⟨.value (.func f), xs.toArray, Ts⟩, ty, pos, aft, none⟩ :: rest) a w :=
  O.callF hc hF hxs hd hcall (fun _ _ h => ⟨h.choose, h.choose_spec.choose_spec.1⟩) fun u a' w' hR hF' => by
    obtain ⟨v, D', e, hle, hr⟩ := hR
    injection e with e
    subst e
    exact h _ D' a' w' hr hle hF'
end
end Go.Proofs.YtpniidbbbhbglaaDoor.Rt
