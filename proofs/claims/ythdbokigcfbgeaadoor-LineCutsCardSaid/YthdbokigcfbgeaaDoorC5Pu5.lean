/- What the pure function of a law comes to. Under no conditions. -/
import Derived.Test.YthdbokigcfbgeaaDoorC5L5
import Derived.Test.YthdbokigcfbgeaaDoorC5QJ
set_option linter.unusedVariables false
set_option linter.unusedSimpArgs false
set_option maxRecDepth 100000
set_option maxHeartbeats 4000000
namespace Go.Proofs.YthdbokigcfbgeaaDoor.Rt
open Go Go.RowKit
theorem CutF_len (n : LineNet) (line : Int) : ((CutF n line).1.length : Int) ≤ 100 ∧ ((CutF n line).2.1.length : Int) ≤ 100 := by
  unfold CutF
  cases hg : goodB n with
  | false => exact ⟨by show ((0 : Nat) : Int) ≤ 100; decide, by show ((0 : Nat) : Int) ≤ 100; decide⟩
  | true =>
    have hS := OkS.of hg
    have := hS.e1; have := hS.e2
    rw [if_pos rfl]
    split
    · have h1 := surelyC_len n line n.Exchanges.toNat
      have h2 := mayCs_len n line n.Exchanges.toNat
      exact ⟨by simp only; omega, by simp only; omega⟩
    · exact ⟨by show ((0 : Nat) : Int) ≤ 100; decide, by show ((0 : Nat) : Int) ≤ 100; decide⟩
theorem WrongR.len {n : LineNet} {r : List Int × Int} (h : WrongR n r) : (r.1.length : Int) ≤ 100 := by
  cases hg : goodB n with
  | false => rw [h.bad hg]; decide
  | true =>
    obtain ⟨_, h2⟩ := h.good hg
    obtain ⟨t, _, e, _⟩ := h2.is
    have := listT_len t n.Loops.length
    have := (OkS.of hg).no
    rw [e]; omega
theorem pure_5 (n : LineNet) (which : Int) (h : Ok_LineNet n) (_ : InR which) : remontoirlaw06_LineCuts n which = some true := by
  have bnI : ∀ a : Int, (a != a) = false := fun a => by rw [bneI]; exact decide_eq_false fun h => h rfl
  have beI : ∀ a : Int, (a == a) = true := fun a => by rw [beqI]; exact decide_eq_true rfl
  obtain ⟨h1, h2⟩ := CutF_len n which
  obtain ⟨r, e1, w1⟩ := Wrong_eq h
  obtain ⟨q, e2, w2⟩ := refWrong_eq h
  obtain rfl := w1.uniq w2
  have hl := w1.len
  unfold remontoirlaw06_LineCuts
  rw [Cut_eq h, bind_s, refCut_eq h, bind_s, Alike_eq _ _ (by omega), bind_s, decide_eq_true rfl, Bool.not_true, cond_false, Alike_eq _ _ (by omega), bind_s, decide_eq_true rfl, Bool.not_true, bind_s, bnI, Bool.or_false, cond_false, e1, bind_s, e2, bind_s, Alike_eq _ _ (by omega), bind_s, decide_eq_true rfl, beI, Bool.and_true, cond_true, works_eq]
  rfl
end Go.Proofs.YthdbokigcfbgeaaDoor.Rt
