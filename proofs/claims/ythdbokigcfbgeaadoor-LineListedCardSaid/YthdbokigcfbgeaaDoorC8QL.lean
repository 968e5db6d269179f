/- Plain laws of the line seat, part 12: a way that is truly taken. Under the conditions that each names. -/
import Derived.Test.YthdbokigcfbgeaaDoorC8QK
set_option linter.unusedVariables false
set_option linter.unusedSimpArgs false
set_option maxRecDepth 100000
set_option maxHeartbeats 4000000
namespace Go.Proofs.YthdbokigcfbgeaaDoor.Rt
open Go Go.RowKit
def trkV (n : LineNet) : Int → List Int → List Int → Option (Int × List Int)
  | at_, V, [] => some (at_, V)
  | at_, V, e :: w => match oth n at_ e.toNat with
    | none => none
    | some t => if 0 ≤ e ∧ t ∉ V then trkV n t (t :: V) w else none
theorem trkV_fst {n : LineNet} : ∀ (w : List Int) (at_ : Int) (V : List Int), (trkV n at_ V w).map (·.1) = trk n at_ V w
  | [], _, _ => rfl
  | e :: w, at_, V => by
    simp only [trk, trkV]
    rcases oth n at_ e.toNat with _ | t
    · rfl
    · dsimp only
      split
      · exact trkV_fst w t (t :: V)
      · rfl
theorem trk_trkV {n : LineNet} {w : List Int} {at_ : Int} {V : List Int} {e : Int} (h : trk n at_ V w = some e) : ∃ U, trkV n at_ V w = some (e, U) := by
  rw [← trkV_fst] at h
  cases hv : trkV n at_ V w with
  | none => rw [hv] at h; cases h
  | some p =>
    rw [hv] at h
    have : p.1 = e := Option.some.inj h
    exact ⟨p.2, by rw [← this]⟩
theorem trkV_snoc {n : LineNet} : ∀ (w : List Int) (at_ : Int) (V : List Int) (e : Int), trkV n at_ V (w ++ [e]) = (trkV n at_ V w).bind fun p => match oth n p.1 e.toNat with | none => none | some t => if 0 ≤ e ∧ t ∉ p.2 then some (t, t :: p.2) else none
  | [], _, _, _ => rfl
  | a :: w, at_, V, e => by
    simp only [List.cons_append, trkV]
    rcases oth n at_ a.toNat with _ | t
    · rfl
    · dsimp only
      split
      · exact trkV_snoc w t (t :: V) e
      · rfl
structure Sent (n : LineNet) (to d : Int) (i : Nat) (l : List LineLoop) : Prop where
  len : l.length = i
  is : ∀ j, j < i → ∃ y, l[j]? = some y ∧ OkO1 n.Exchanges y ∧ (y.Exchange = to → loL y ≤ d ∧ d ≤ hiL y)
theorem Sent.snoc {n : LineNet} {to d : Int} {i : Nat} {l : List LineLoop} (h : Sent n to d i l) {y : LineLoop} (h1 : OkO1 n.Exchanges y) (h2 : y.Exchange = to → loL y ≤ d ∧ d ≤ hiL y) : Sent n to d (i + 1) (l ++ [y]) := by
  refine ⟨by rw [List.length_append, h.len]; rfl, fun j hj => ?_⟩
  by_cases e : j = i
  · subst e
    exact ⟨y, by rw [List.getElem?_append_right (by rw [h.len]; exact Nat.le_refl _), h.len]; simp, h1, h2⟩
  · obtain ⟨z, g1, g2⟩ := h.is j (by omega)
    exact ⟨z, by rw [List.getElem?_append_left (by rw [h.len]; omega)]; exact g1, g2⟩
end Go.Proofs.YthdbokigcfbgeaaDoor.Rt
