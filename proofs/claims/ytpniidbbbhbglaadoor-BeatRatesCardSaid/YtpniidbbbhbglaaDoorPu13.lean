/- What the pure function of the law BeatRates comes to. Under the conditions that the arguments are Go's. -/
import Derived.Test.YtpniidbbbhbglaaDoorL13
import Derived.Test.YtpniidbbbhbglaaDoorPT
set_option linter.unusedVariables false
set_option linter.unusedSimpArgs false
set_option maxRecDepth 100000
set_option maxHeartbeats 4000000
namespace Go.Proofs.YtpniidbbbhbglaaDoor.Rt
open Go Go.RowKit

theorem rates_loop (c : BeatCellar) (hx : goodB c = true) {k : Nat} (hk : k < c.Rates.length) (h : Int) :
    loopU (remontoirlaw02_BeatRates_b1 c (k : Int) h) (0, (c.Rates.getD k ⟨0, 0⟩).Low, (c.Rates.getD k ⟨0, 0⟩).High) = loopU (remontoirlaw02_BeatRates_b1 c (k : Int) h) ((c.Opens.length : Int), (growsSpan c (c.Rates.getD k ⟨0, 0⟩) k h).Low, (growsSpan c (c.Rates.getD k ⟨0, 0⟩) k h).High) := by
  have hc := OkC.of hx
  have ho2 := hc.o2
  have e : c.Rates.getD k ⟨0, 0⟩ = c.Rates[k] := by simp [List.getD, hk]
  rw [e]
  simp only [goodB, Bool.and_eq_true] at hx
  obtain ⟨⟨⟨_, hr⟩, hg⟩, hp⟩ := hx
  have hri : rateB c.Rates[k] = true := List.all_eq_true.1 hr _ (List.getElem_mem hk)
  simp only [rateB, spanB, Bool.and_eq_true, decide_eq_true_eq] at hri
  have hb : ∀ i, (-600000 ≤ (((c.Opens.take i).filter fun o => o.Clock == (k : Int) && o.Hour == h).map (·.Step.Low)).sum ∧ (((c.Opens.take i).filter fun o => o.Clock == (k : Int) && o.Hour == h).map (·.Step.Low)).sum ≤ 600000) ∧
      (-600000 ≤ (((c.Opens.take i).filter fun o => o.Clock == (k : Int) && o.Hour == h).map (·.Step.High)).sum ∧ (((c.Opens.take i).filter fun o => o.Clock == (k : Int) && o.Hour == h).map (·.Step.High)).sum ≤ 600000) := by
    intro i
    have hm : ∀ o ∈ (c.Opens.take i).filter fun o => o.Clock == (k : Int) && o.Hour == h, (-100000 ≤ o.Step.Low ∧ o.Step.Low ≤ 100000) ∧ (-100000 ≤ o.Step.High ∧ o.Step.High ≤ 100000) := by
      intro o ho
      have := List.all_eq_true.1 hg o (List.mem_of_mem_take (List.mem_filter.1 ho).1)
      simp only [openB, spanB, inB, Bool.and_eq_true, decide_eq_true_eq] at this
      omega
    have hl : ((c.Opens.take i).filter fun o => o.Clock == (k : Int) && o.Hour == h).length ≤ 6 := by
      have h1 := List.length_filter_le (fun o : BeatOpen => o.Clock == (k : Int) && o.Hour == h) (c.Opens.take i)
      rw [List.length_take] at h1; omega
    have s1 := sum_bound (l := ((c.Opens.take i).filter fun o => o.Clock == (k : Int) && o.Hour == h).map (·.Step.Low)) (B := 100000) (by decide) (fun n hn => by
      obtain ⟨o, ho, rfl⟩ := List.mem_map.1 hn; exact (hm o ho).1)
    have s2 := sum_bound (l := ((c.Opens.take i).filter fun o => o.Clock == (k : Int) && o.Hour == h).map (·.Step.High)) (B := 100000) (by decide) (fun n hn => by
      obtain ⟨o, ho, rfl⟩ := List.mem_map.1 hn; exact (hm o ho).2)
    simp only [List.length_map] at s1 s2
    omega
  have hrun := loopU_run0 (body := remontoirlaw02_BeatRates_b1 c (k : Int) h) (fun i => ((i : Int), c.Rates[k].Low + (((c.Opens.take i).filter fun o => o.Clock == (k : Int) && o.Hour == h).map (·.Step.Low)).sum,
      c.Rates[k].High + (((c.Opens.take i).filter fun o => o.Clock == (k : Int) && o.Hour == h).map (·.Step.High)).sum)) c.Opens.length (fun i hi => by
    have hd : decide ((i : Int) < (c.Opens.length : Int)) = true := by simp; omega
    have wi : wr ((i : Int) + 1) = ((i + 1 : Nat) : Int) := wr_id' (by omega) (by omega)
    have b1 := hb i
    have hoi := List.all_eq_true.1 hg _ (List.getElem_mem hi)
    simp only [openB, spanB, inB, Bool.and_eq_true, decide_eq_true_eq] at hoi
    simp only [remontoirlaw02_BeatRates_b1, hd, cond_true, idx_get hi, bind_s, wi, filter_take hi, remontoirref00_To]
    generalize ((c.Opens.take i).filter fun o => o.Clock == (k : Int) && o.Hour == h) = q at b1
    cases hq : (c.Opens[i].Clock == (k : Int) && c.Opens[i].Hour == h) with
    | true =>
      simp only [cond_true, if_true, List.map_append, List.map_cons, List.map_nil, List.sum_append, List.sum_cons, List.sum_nil, Int.add_zero]
      rw [wr_id' (by omega) (by omega), wr_id' (by omega) (by omega), Int.add_assoc, Int.add_assoc]
    | false => simp)
  simp only [List.take_zero, List.filter_nil, List.map_nil, List.sum_nil, Int.add_zero, Int.natCast_zero, List.take_length] at hrun
  exact hrun

/-- a cellar with an opening more, whose step is 0 -/
def plusO (c : BeatCellar) (k h : Int) : BeatCellar := ⟨c.Hours, c.Rates, c.Opens ++ [⟨k, h, ⟨0, 0⟩⟩], c.Pairs⟩
theorem plusO_grows (c : BeatCellar) (k h : Int) (r : Span) (k' h' : Int) : growsSpan (plusO c k h) r k' h' = growsSpan c r k' h' := by
  unfold growsSpan opensAt plusO
  simp only [List.filter_append, List.map_append, List.sum_append]
  have e1 : (([⟨k, h, ⟨0, 0⟩⟩] : List BeatOpen).filter fun o => o.Clock == k' && o.Hour == h').map (·.Step.Low) = [] ∨ (([⟨k, h, ⟨0, 0⟩⟩] : List BeatOpen).filter fun o => o.Clock == k' && o.Hour == h') = [⟨k, h, ⟨0, 0⟩⟩] := by
    rw [List.filter_cons]; split
    · right; rfl
    · left; rfl
  by_cases hq : (k == k' && h == h') = true
  · simp [List.filter_cons, hq]
  · simp [List.filter_cons, hq]
theorem plusO_fits (c : BeatCellar) (k h : Int) (l : Int) (y : Int → Int → Int) (z : Int) : Fits (plusO c k h) l y z ↔ Fits c l y z := by
  constructor
  · intro hf
    refine ⟨fun k' hk h' hh => ?_, hf.r, hf.b⟩
    have := hf.g k' hk h' hh
    rw [plusO_grows] at this
    exact this
  · intro hf
    refine ⟨fun k' hk h' hh => ?_, hf.r, hf.b⟩
    have := hf.g k' hk h' hh
    rw [plusO_grows]
    exact this

theorem pure_13 (c : BeatCellar) (n : Arr2) (hc : Ok_BeatCellar c) (_ : Ok_Arr2 n) : remontoirlaw02_BeatRates c n = some true := by
  unfold remontoirlaw02_BeatRates
  simp only [sound_eq c hc, bind_s]
  cases hx : goodB c with
  | false => simp [works_eq]
  | true =>
    have hC := OkC.of hx
    have h1 := hC.h1
    have h2 := hC.h2
    have k1 := hC.k1
    have k2 := hC.k2
    have o2 := hC.o2
    have hw := hC.w
    obtain ⟨k0, ek, k3, k4⟩ := Rest_in n.a0 (by_ := (c.Rates.length : Int)) (by omega) (by omega)
    obtain ⟨h, eh, h3, h4⟩ := Rest_in n.a1 (by_ := c.Hours) (by omega) (by omega)
    obtain ⟨k, rfl⟩ := Int.eq_ofNat_of_zero_le k3
    have hk : k < c.Rates.length := by omega
    have eg : c.Rates.getD k ⟨0, 0⟩ = c.Rates[k] := by simp [List.getD, hk]
    simp only [Bool.not_true, cond_false, ek, eh, bind_s, idx_get hk]
    rw [← eg, rates_loop c hx hk h]
    refine loopU_ext ?_
    have hd : decide ((c.Opens.length : Int) < (c.Opens.length : Int)) = false := by simp
    have wh : wr (h + 1) = h + 1 := wr_id' (by omega) (by omega)
    have skh := spot_in (c := c) (k := (k : Int)) k3 k4 h3 (show h ≤ c.Hours by omega)
    have skg := spot_in (c := c) (k := (k : Int)) k3 k4 (show 0 ≤ h + 1 by omega) (show h + 1 ≤ c.Hours by omega)
    have hin : inB h 0 c.Hours = true := by simp only [inB, Bool.and_eq_true, decide_eq_true_eq]; omega
    simp only [remontoirlaw02_BeatRates_b1, hd, cond_false, wh, Drift_eq c hc, Offset_eq c hc, Best_eq c hc, skh, skg, Bool.and_self, ans_good hx, hin, hx, if_true, bind_s]
    cases hb : canB c 0 with
    | false => simp [works_eq]
    | true =>
      have hcan := (canB_iff hx 0).1 hb
      have nkh := (spotB_ok skh).2.1
      have nkg := (spotB_ok skg).2.1
      have n0 : 0 < cnt c := by simp only [cnt]; omega
      obtain ⟨b, hbK, ebest, hmin, hfirst⟩ := bestF_spec (w := wOf c h) c.Rates.length (by omega)
      have sbh := spot_in (c := c) (k := (b : Int)) (by omega) (by omega) h3 (show h ≤ c.Hours by omega)
      have c0 : ((0 : Int) != 0) = false := by decide
      have wk := wOf_nonneg hx hcan hk h3 (show h ≤ c.Hours by omega)
      have wb := wOf_nonneg hx hcan hbK h3 (show h ≤ c.Hours by omega)
      have ewk : wr ((told c 0 (nd c k h) 0).High - (told c 0 (nd c k h) 0).Low) = wOf c h k := wr_id' (by unfold wOf at wk; omega) (by unfold wOf at wk; omega)
      have ewb : wr ((told c 0 (nd c b h) 0).High - (told c 0 (nd c b h) 0).Low) = wOf c h b := wr_id' (by unfold wOf at wb; omega) (by unfold wOf at wb; omega)
      have m1 := hmin k hk
      have f1 : decide (wOf c h b > wOf c h k) = false := by simp; omega
      have f2 : (decide ((k : Int) < (b : Int)) && (wOf c h k == wOf c h b)) = false := by
        by_cases hkb : k < b
        · have := hfirst k hkb
          have : (wOf c h k == wOf c h b) = false := by simp; omega
          rw [this, Bool.and_false]
        · have : decide ((k : Int) < (b : Int)) = false := by simp; omega
          rw [this, Bool.false_and]
      have hwit : remontoirref00_Within (told c 0 (nd c k (h + 1)) (nd c k h)) ⟨(growsSpan c (c.Rates.getD k ⟨0, 0⟩) k h).Low, (growsSpan c (c.Rates.getD k ⟨0, 0⟩) k h).High⟩ = some true := by
        obtain ⟨⟨x, hf, e1⟩, _⟩ := mx_most hx hcan nkg nkh
        obtain ⟨⟨y, hg, e2⟩, _⟩ := mx_most hx hcan nkh nkg
        have g1 := hf.g k hk h.toNat (by omega)
        have g2 := hg.g k hk h.toNat (by omega)
        rw [Int.toNat_of_nonneg h3] at g1 g2
        try dsimp only at g1 g2
        exact Within_t (by simp only [told]; omega) (by simp only [told]; omega)
      simp only [if_true, c0, cond_false, ebest, bind_s, sbh, ans_good hx, hb, Bool.or_self, hwit, Bool.not_true, ewk, ewb, f1, f2, bne_self_eq_false]
      by_cases ho6 : c.Opens.length = 6
      · have : ((c.Opens.length : Int) == 6) = true := by simp; omega
        simp [this, works_eq, bind_s]
      · have : ((c.Opens.length : Int) == 6) = false := by simp; omega
        simp only [this, cond_false, List.nil_append]
        rw [if_pos (by simp only [List.length_nil, lim]; omega), if_pos (by simp only [List.length_cons, List.length_nil, lim]; omega)]
        have hx' : goodB (plusO c k h) = true := by
          refine good_mk (c := plusO c k h) ⟨h1, h2⟩ ⟨k1, k2⟩ ?_ hC.p2 (fun r hr => good_rates hx r hr) ?_ (fun p hp => good_pairs hx p hp)
          · simp only [plusO, List.length_append, List.length_cons, List.length_nil]; omega
          · intro o ho
            rcases List.mem_append.1 ho with ho | ho
            · exact good_opens hx o ho
            · have e := List.mem_singleton.1 ho
              subst e
              show openB c ⟨(k : Int), h, ⟨0, 0⟩⟩ = true
              simp only [openB, inB, spanB, Bool.and_eq_true, decide_eq_true_eq]
              omega
        have hc' : Ok_BeatCellar (plusO c k h) := by
          obtain ⟨q1, q2, ⟨q3, q4⟩, q5⟩ := hc
          refine ⟨q1, q2, ⟨?_, ?_⟩, q5⟩
          · simp only [plusO, List.length_append, List.length_cons, List.length_nil]; omega
          · intro o ho
            simp only [plusO, List.mem_append, List.mem_singleton] at ho
            rcases ho with ho | rfl
            · exact q4 o ho
            · exact ⟨inr_small (n := (k : Int)) (by omega) (by omega), inr_small (n := h) (by omega) (by omega), inr_small (n := 0) (by decide) (by decide), inr_small (n := 0) (by decide) (by decide)⟩
        have hN : cnt (plusO c k h) = cnt c := rfl
        have hF : ∀ x, F (plusO c k h) 0 x ↔ F c 0 x := fun x => plusO_fits c k h 0 _ _
        have hD := Drift_eq (plusO c k h) hc' (k : Int) h (h + 1)
        have hO := Offset_eq (plusO c k h) hc' (k : Int) h
        have skh' : spotB (plusO c k h) (k : Int) h = true := skh
        have skg' : spotB (plusO c k h) (k : Int) (h + 1) = true := skg
        rw [skh', skg', Bool.and_self, ans_good hx', canB_same hx hx' hF, hb, if_pos rfl, told_same hx hx' hN hF hcan (show nd (plusO c k h) k (h + 1) < cnt c from nkg) (show nd (plusO c k h) k h < cnt c from nkh)] at hD
        rw [skh', ans_good hx', canB_same hx hx' hF, hb, if_pos rfl, told_same hx hx' hN hF hcan (show nd (plusO c k h) k h < cnt c from nkh) n0] at hO
        have hD' : beat_Drift ⟨c.Hours, c.Rates, c.Opens ++ [⟨(k : Int), h, ⟨0, 0⟩⟩], c.Pairs⟩ (k : Int) h (h + 1) = some (told c 0 (nd c k (h + 1)) (nd c k h), 0) := hD
        have hO' : beat_Offset ⟨c.Hours, c.Rates, c.Opens ++ [⟨(k : Int), h, ⟨0, 0⟩⟩], c.Pairs⟩ (k : Int) h = some (told c 0 (nd c k h) 0, 0) := hO
        simp [hD', hO', bind_s, works_eq]
end Go.Proofs.YtpniidbbbhbglaaDoor.Rt
