/- What the pure function of the law BeatCases comes to. Under the conditions that the arguments are Go's. -/
import Derived.Test.YtpniidbbbhbglaaDoorL5
import Derived.Test.YtpniidbbbhbglaaDoorPD
import Derived.Test.YtpniidbbbhbglaaDoorPR
set_option linter.unusedVariables false
set_option linter.unusedSimpArgs false
set_option maxRecDepth 100000
set_option maxHeartbeats 4000000
namespace Go.Proofs.YtpniidbbbhbglaaDoor.Rt
open Go Go.RowKit

theorem pure_5 (c : BeatCellar) (n : Arr2) (most : Bool) (hc : Ok_BeatCellar c) (_ : Ok_Arr2 n) : remontoirlaw02_BeatCases c n most = some true := by
  unfold remontoirlaw02_BeatCases
  simp only [Case_eq c hc, ref_Offset_eq c hc, Offset_eq c hc, bind_s, ans]
  cases hx : goodB c with
  | false => simp [bind_s, works_eq]
  | true =>
    cases hs : spotB c n.a0 n.a1 with
    | false => simp [bind_s, works_eq]
    | true =>
      cases hb : canB c 0 with
      | false => simp [bind_s, works_eq]
      | true =>
        have hcan := (canB_iff hx 0).1 hb
        obtain ⟨h1, h2, h3⟩ := spotB_ok hs
        have hN0 : 0 < cnt c := by simp only [cnt]; omega
        simp only [spotB, inB, Bool.and_eq_true, decide_eq_true_eq] at hs
        have hC := OkC.of hx
        have hw := hC.w
        have hbb : (if most = true then 0 else nd c n.a0 n.a1) < cnt c := by split <;> assumption
        obtain ⟨hok, htr⟩ := caseL_ok hx hcan hbb
        obtain ⟨l, e1, e2⟩ := off_idx (caseL_shape c (if most = true then 0 else nd c n.a0 n.a1)) (k := n.a0) (h := n.a1) (by omega) (by omega) (by omega) (by omega)
        have hlen : (caseL c (if most = true then 0 else nd c n.a0 n.a1)).length = c.Rates.length := by simp [caseL, caseN]
        have hd : decide (((caseL c (if most = true then 0 else nd c n.a0 n.a1)).length : Int) ≤ n.a0) = false := by rw [hlen]; simp; omega
        have hv : off (caseL c (if most = true then 0 else nd c n.a0 n.a1)) n.a0 n.a1 = mx c 0 (nd c n.a0 n.a1) (if most = true then 0 else nd c n.a0 n.a1) - mx c 0 0 (if most = true then 0 else nd c n.a0 n.a1) := by
          have := caseL_off (c := c) (if most = true then 0 else nd c n.a0 n.a1) (k := n.a0.toNat) (h := n.a1.toNat) (by omega) (by omega)
          rw [Int.toNat_of_nonneg (by omega), Int.toNat_of_nonneg (by omega)] at this
          exact this
        have z0 := (top_case hx hcan hN0).2
        have z1 := (top_case hx hcan h2).2
        have c0 : ((0 : Int) != 0) = false := by decide
        simp only [if_true, c0, cond_false, ref_IsTruth_eq c hc _ hok, hx, htr, bind_s, hd, Bool.not_true, Bool.or_self]
        cases most with
        | true =>
          simp only [if_true] at e1 e2 hv
          simp only [if_true, cond_true, remontoirlaw02_BeatCases_k1, e1, e2, bind_s, hv, z0, works_eq, told, Int.sub_zero, beq_self_eq_true]
        | false =>
          simp only [Bool.false_eq_true, if_false] at e1 e2 hv
          have e3 : (mx c 0 (nd c n.a0 n.a1) (nd c n.a0 n.a1) - mx c 0 0 (nd c n.a0 n.a1) == -mx c 0 0 (nd c n.a0 n.a1)) = true := by rw [z1]; simp
          simp only [Bool.false_eq_true, if_false, cond_false, remontoirlaw02_BeatCases_k1, e1, e2, bind_s, hv, e3, cond_true, works_eq, told]
end Go.Proofs.YtpniidbbbhbglaaDoor.Rt
