/- What the pure function of a law comes to. Under no conditions. -/
import Derived.Test.YthdbokigcfbgeaaDoorC7L7
import Derived.Test.YthdbokigcfbgeaaDoorC7QK
set_option linter.unusedVariables false
set_option linter.unusedSimpArgs false
set_option maxRecDepth 100000
set_option maxHeartbeats 4000000
namespace Go.Proofs.YthdbokigcfbgeaaDoor.Rt
open Go Go.RowKit
theorem pure_7 (n : LineNet) (k : Arr3) (h : Ok_LineNet n) (_ : Ok_Arr3 k) : remontoirlaw06_LineEnds n k = some true := by
  unfold remontoirlaw06_LineEnds
  rw [sound_eq n h, bind_s]
  cases hg : goodB n with
  | false => exact work_eq
  | true =>
    have hS := OkS.of hg
    have he1 := hS.e1; have he2 := hS.e2
    obtain ⟨r, er, hr⟩ := rest_natI k.a0 (m := n.Exchanges) (by omega) (by omega)
    rw [Bool.not_true, cond_false, er, bind_s, Delay_eq h, bind_s, Correct_eq h, bind_s]
    unfold DelayF CorrectF
    rcases errF_good hS (e := (r : Int)) (by omega) hr with ⟨h0, hne⟩ | hbad
    · rw [if_pos h0, if_pos h0, show ((0 : Int) != 0) = false from rfl]
      simp only [cond_false, Can_eq h, bind_s, CanF, if_pos h0]
      have hb := span_bd hS hne
      obtain ⟨a1, a2⟩ := any_ends hS hne
      rw [a1, a2]
      have hk : ∀ d, anyF n (r : Int) d = true → (spanF n (r : Int)).Low ≤ d ∧ d ≤ (spanF n (r : Int)).High := fun d hd => span_any hne hd
      generalize hs : spanF n (r : Int) = s at hb hk
      obtain ⟨L, H⟩ := s
      dsimp only at hb hk ⊢
      rw [show ((0 : Int) != 0) = false from rfl, Bool.or_false, Bool.or_false, cond_false, valid_eq, bind_s, bind_s]
      rw [decide_eq_true (show L ≤ H by omega), decide_eq_true (show (0 : Int) ≤ L by omega), decide_eq_true (show H ≤ 6000 by omega)]
      have hsome : (cond (anyF n (r : Int) k.a2) ((r0Has ⟨L, H⟩ k.a2).bind fun rv_10 => some (!rv_10)) (some false)) = some false := by
        cases ha : anyF n (r : Int) k.a2 with
        | false => rfl
        | true =>
          have := hk _ ha
          unfold r0Has
          rw [cond_true, Lies_eq, bind_s, bind_s, inB_iff.2 this]; rfl
      simp only [Bool.and_true, Bool.not_true, Bool.or_false, cond_false, bind_s, hsome, Bool.false_or]
      unfold offF
      dsimp only
      rw [decide_eq_false (show ¬ H - (H - L + 1) / 2 < 0 by omega), cond_false]
      obtain ⟨o, eo, h1, h2⟩ := rest_any k.a1 (by_ := 6001) (by decide) (by decide)
      rw [eo, bind_s, wr_id' (n := o - L) (by omega) (by omega), wr_id' (n := H - o) (by omega) (by omega), wr_id' (n := H - (H - L + 1) / 2 - L) (by omega) (by omega), wr_id' (n := H - (H - (H - L + 1) / 2)) (by omega) (by omega)]
      rw [Size_eq (by omega) (by omega), bind_s, Size_eq (by omega) (by omega), bind_s, Size_eq (by omega) (by omega), bind_s, Size_eq (by omega) (by omega), bind_s]
      rw [if_neg (show ¬ H - (H - L + 1) / 2 - L < 0 by omega), if_neg (show ¬ H - (H - (H - L + 1) / 2) < 0 by omega)]
      have e1 : (if H - (H - (H - L + 1) / 2) > H - (H - L + 1) / 2 - L then H - (H - (H - L + 1) / 2) else H - (H - L + 1) / 2 - L) = (H - L + 1) / 2 := by split <;> omega
      rw [e1, beI, cond_true, bind_s]
      generalize hA : (if o - L < 0 then -(o - L) else o - L) = A
      generalize hB : (if H - o < 0 then -(H - o) else H - o) = B
      have hA2 : A ≥ o - L ∧ A ≥ L - o := by rw [← hA]; split <;> omega
      have hB2 : B ≥ H - o ∧ B ≥ o - H := by rw [← hB]; split <;> omega
      generalize hW : (if B > A then B else A) = W
      have hW2 : W ≥ A ∧ W ≥ B := by rw [← hW]; split <;> omega
      rw [decide_eq_true (show W ≥ (H - L + 1) / 2 by omega), cond_true]
      by_cases ho : o ≥ H - (H - L + 1) / 2
      · rw [decide_eq_true ho, cond_true, bind_s, bind_s]
        exact fin_eq rfl
      · rw [decide_eq_false ho, cond_false, decide_eq_true (show W > (H - L + 1) / 2 by omega), bind_s, bind_s]
        exact fin_eq rfl
    · have hz : errF n (r : Int) = 62 ∨ errF n (r : Int) = 4 := by
        rcases hbad with ⟨h, _⟩ | ⟨h, _⟩
        · exact .inl h
        · exact .inr h
      have hn : errF n (r : Int) ≠ 0 := by rcases hz with h | h <;> rw [h] <;> decide
      rw [if_neg hn, if_neg hn]
      dsimp only
      rw [bnI, cond_false, ne0 hn, cond_true]
      refine fin_eq ?_
      rcases hz with h | h <;> rw [h] <;> rfl
end Go.Proofs.YthdbokigcfbgeaaDoor.Rt
