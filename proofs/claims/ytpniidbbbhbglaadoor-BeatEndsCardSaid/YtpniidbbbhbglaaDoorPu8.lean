/- What the pure function of the law BeatEnds comes to. Under the conditions that the arguments are Go's. -/
import Derived.Test.YtpniidbbbhbglaaDoorL8
import Derived.Test.YtpniidbbbhbglaaDoorPS
set_option linter.unusedVariables false
set_option linter.unusedSimpArgs false
set_option maxRecDepth 100000
set_option maxHeartbeats 4000000
namespace Go.Proofs.YtpniidbbbhbglaaDoor.Rt
open Go Go.RowKit

theorem off_idx2 {c : BeatCellar} {o : List (List Int)} (hs : shapeB c o = true) {k : Int} (h1 : 0 ≤ k) (h2 : k < c.Rates.length) :
    ∃ l, idx o k = some l ∧ l.length = wid c ∧ ∀ h : Int, 0 ≤ h → h < wid c → idx l h = some (off o k h) := by
  have hw : 0 < wid c := by simp [wid]
  obtain ⟨l, e1, _⟩ := off_idx hs h1 h2 (h := 0) (by omega) (by omega)
  refine ⟨l, e1, ?_, fun h h3 h4 => ?_⟩
  · obtain ⟨g1, g2, g3⟩ := off_get hs (k := k.toNat) (h := 0) (by omega) hw
    have hi := idx_get g1
    rw [Int.toNat_of_nonneg h1, e1] at hi
    injection hi with hi
    simp only [shapeB, Bool.and_eq_true, decide_eq_true_eq] at hs
    have := List.all_eq_true.1 hs.2 _ (List.getElem_mem g1)
    simp only [decide_eq_true_eq] at this
    rw [hi]; exact this
  · obtain ⟨l', e2, e3⟩ := off_idx hs h1 h2 h3 h4
    rw [e1] at e2
    injection e2 with e2
    rw [e2]; exact e3

theorem pure_8 (c : BeatCellar) (n : Arr4) (hc : Ok_BeatCellar c) (_ : Ok_Arr4 n) : remontoirlaw02_BeatEnds c n = some true := by
  unfold remontoirlaw02_BeatEnds
  simp only [sound_eq c hc, bind_s]
  cases hx : goodB c with
  | false => simp [works_eq]
  | true =>
    have hC := OkC.of hx
    have h1 := hC.h1
    have h2 := hC.h2
    have k1 := hC.k1
    have k2 := hC.k2
    have hw := hC.w
    have wh : wr (c.Hours + 1) = c.Hours + 1 := wr_id' (by omega) (by omega)
    obtain ⟨k, ek, k3, k4⟩ := Rest_in n.a0 (by_ := (c.Rates.length : Int)) (by omega) (by omega)
    obtain ⟨i, ei, i1, i2⟩ := Rest_in n.a1 (by_ := (c.Rates.length : Int)) (by omega) (by omega)
    obtain ⟨h, eh, h3, h4⟩ := Rest_in n.a2 (by_ := c.Hours + 1) (by omega) (by omega)
    obtain ⟨g, eg, g1, g2⟩ := Rest_in n.a3 (by_ := c.Hours + 1) (by omega) (by omega)
    have skh := spot_in k3 k4 h3 (show h ≤ c.Hours by omega)
    have sig := spot_in i1 i2 g1 (show g ≤ c.Hours by omega)
    simp only [Bool.not_true, cond_false, wh, ei, ek, eh, eg, bind_s, Offset_eq c hc, skh, sig, ans_good hx]
    cases hb : canB c 0 with
    | false => simp [works_eq, bind_s]
    | true =>
      have hcan := (canB_iff hx 0).1 hb
      have nkh := (spotB_ok skh).2.1
      have nig := (spotB_ok sig).2.1
      have n0 : 0 < cnt c := by simp only [cnt]; omega
      have c0 : ((0 : Int) != 0) = false := by decide
      simp only [if_true, c0, Bool.or_self, cond_false]
      have hround : ∀ (m : Int), (m = 0 ∨ m = 1) → remontoirlaw02_BeatEnds_b1 c k i h g (told c 0 (nd c k h) 0, 0) (told c 0 (nd c i g) 0, 0) (false, m) = nxt (false, m + 1) := by
        intro m hm
        have hd : decide (m < 2) = true := by simp; omega
        have wm : wr (m + 1) = m + 1 := wr_id' (by omega) (by omega)
        have hbb : (if (m == 1) = true then 0 else nd c k h) < cnt c := by split <;> assumption
        obtain ⟨hok, htr⟩ := caseL_ok hx hcan hbb
        have hsh := caseL_shape c (if (m == 1) = true then 0 else nd c k h)
        have hfit := caseL_truth hx hcan hbb
        obtain ⟨lk, e1, e2, e3⟩ := off_idx2 hsh k3 k4
        obtain ⟨li, e4, e5, e6⟩ := off_idx2 hsh i1 i2
        have e3 := e3 h h3 (by omega)
        have e6 := e6 g g1 (by omega)
        have hlen : (caseL c (if (m == 1) = true then 0 else nd c k h)).length = c.Rates.length := by simp [caseL, caseN]
        have hv : off (caseL c (if (m == 1) = true then 0 else nd c k h)) k h = mx c 0 (nd c k h) (if (m == 1) = true then 0 else nd c k h) - mx c 0 0 (if (m == 1) = true then 0 else nd c k h) := by
          have := caseL_off (c := c) (if (m == 1) = true then 0 else nd c k h) (k := k.toNat) (h := h.toNat) (by omega) (by omega)
          rw [Int.toNat_of_nonneg (by omega), Int.toNat_of_nonneg (by omega)] at this
          exact this
        have z0 := mx_self hx hcan n0
        have z1 := mx_self hx hcan nkh
        -- the other offset lies between what is told
        have hin : hasB (told c 0 (nd c i g) 0) (off (caseL c (if (m == 1) = true then 0 else nd c k h)) i g) = true := by
          have := told_in hx ((fits_F hx).1 hfit) nig n0
          have ev : xo c (off (caseL c (if (m == 1) = true then 0 else nd c k h))) 0 (nd c i g) = off (caseL c (if (m == 1) = true then 0 else nd c k h)) i g := by
            have := xo_nd (c := c) (off (caseL c (if (m == 1) = true then 0 else nd c k h))) 0 (k := i.toNat) (h := g.toNat) (by omega)
            rw [Int.toNat_of_nonneg i1, Int.toNat_of_nonneg g1] at this
            exact this
          have ez : xo c (off (caseL c (if (m == 1) = true then 0 else nd c k h))) 0 0 = 0 := by simp [xo]
          rw [ev, ez] at this
          simp only [hasB, inB, Bool.and_eq_true, decide_eq_true_eq]
          omega
        have el1 : (((caseL c (if (m == 1) = true then 0 else nd c k h)).length : Int) != (c.Rates.length : Int)) = false := by rw [hlen]; simp
        have el2 : ((lk.length : Int) != c.Hours + 1) = false := by rw [e2, hw.2.2]; simp
        have el3 : ((li.length : Int) != c.Hours + 1) = false := by rw [e5, hw.2.2]; simp
        simp only [remontoirlaw02_BeatEnds_b1, hd, cond_true, Case_eq c hc, hx, skh, hb, if_true, bind_s, IsTruth_eq c hc _ hok, htr, c0, cond_false, Bool.not_true, el1, e1, wh, el2, e4, el3, e6, Has_eq, hin, e3, wm]
        rcases hm with rfl | rfl
        · have ev : (off (caseL c (if ((0 : Int) == 1) = true then 0 else nd c k h)) k h != (told c 0 (nd c k h) 0).Low) = false := by
            rw [hv]
            have : ((0 : Int) == 1) = false := by decide
            simp [this, z1, told]
          have c1 : ((0 : Int) == 0) = true := by decide
          have c2 : ((0 : Int) == 1) = false := by decide
          simp only [c2] at ev
          simp only [c1, c2, cond_true, cond_false, ev, bind_s]
        · have ev : (off (caseL c (if ((1 : Int) == 1) = true then 0 else nd c k h)) k h != (told c 0 (nd c k h) 0).High) = false := by
            rw [hv]
            have : ((1 : Int) == 1) = true := by decide
            simp [this, z0, told]
          have c1 : ((1 : Int) == 0) = false := by decide
          have c2 : ((1 : Int) == 1) = true := by decide
          simp only [c2] at ev
          simp only [c1, c2, cond_true, cond_false, ev, bind_s]
      rw [loopU_nxt (s' := (false, 1)) (hround 0 (Or.inl rfl)), loopU_nxt (s' := (false, 2)) (hround 1 (Or.inr rfl))]
      refine loopU_ext ?_
      have hd : decide ((2 : Int) < 2) = false := by decide
      simp only [remontoirlaw02_BeatEnds_b1, hd, cond_false, works_eq, bind_s]
end Go.Proofs.YtpniidbbbhbglaaDoor.Rt
