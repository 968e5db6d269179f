/- What the pure function of the law BeatWider comes to. Under the conditions that the arguments are Go's. -/
import Derived.Test.YtpniidbbbhbglaaDoorL10
import Derived.Test.YtpniidbbbhbglaaDoorPT
import Derived.Test.YtpniidbbbhbglaaDoorY10
set_option linter.unusedVariables false
set_option linter.unusedSimpArgs false
set_option maxRecDepth 100000
set_option maxHeartbeats 4000000
namespace Go.Proofs.YtpniidbbbhbglaaDoor.Rt
open Go Go.RowKit

/-- the end of the law: two cellars, of which the second lets more be -/
noncomputable def widerT (c c' : BeatCellar) (k h : Int) : Option Bool :=
  (beat_Offset c k h).bind fun rv_8 =>
  (beat_Offset c' k h).bind fun rv_9 =>
  (beat_Apart c k 0 h).bind fun rv_10 =>
  (beat_Apart c' k 0 h).bind fun rv_11 =>
  cond (rv_8.2 != 0)
  ((cond ((((rv_8.2 == 22) && (rv_10.2 == rv_8.2)) && ((rv_9.2 == 0) || (rv_9.2 == rv_8.2))) && (rv_11.2 == rv_9.2)) ((remontoirlaw02_works).bind fun rv_12 =>
  some rv_12) (some false)).bind fun t =>
  some t)
  ((cond (((rv_9.2 == 0) && (rv_10.2 == 0)) && (rv_11.2 == 0)) ((remontoirref00_Within rv_8.1 rv_9.1).bind fun rv_13 =>
  some rv_13) (some false)).bind fun t_1 =>
  (cond t_1 ((remontoirref00_Within rv_10.1 rv_11.1).bind fun rv_14 =>
  some rv_14) (some false)).bind fun t_2 =>
  (cond t_2 ((remontoirlaw02_works).bind fun rv_15 =>
  some rv_15) (some false)).bind fun t_3 =>
  some t_3)

theorem widerT_eq {c c' : BeatCellar} (hc : Ok_BeatCellar c) (hc' : Ok_BeatCellar c') (hx : goodB c = true) (hx' : goodB c' = true) (hH : c'.Hours = c.Hours) (hR : c'.Rates.length = c.Rates.length) (hsub : ∀ x, F c 0 x → F c' 0 x)
    {k h : Int} (h1 : 0 ≤ k) (h2 : k < c.Rates.length) (h3 : 0 ≤ h) (h4 : h ≤ c.Hours) : widerT c c' k h = some true := by
  have hC := OkC.of hx
  have k1 := hC.k1
  have s1 := spot_in (c := c) h1 h2 h3 h4
  have s0 := spot_in (c := c) (k := 0) (by omega) (by omega) h3 h4
  have s1' := spot_in (c := c') h1 (by omega) h3 (by omega)
  have s0' := spot_in (c := c') (k := 0) (h := h) (by omega) (by omega) h3 (by omega)
  have hN := cnt_same hH hR
  unfold widerT
  simp only [Offset_eq c hc, Offset_eq c' hc', Apart_eq c hc, Apart_eq c' hc', s1, s0, s1', s0', Bool.and_self, ans_good hx, ans_good hx', (nd_same hH).1, bind_s]
  have n1 := (spotB_ok s1).2.1
  have n2 := (spotB_ok s0).2.1
  have n0 : 0 < cnt c := by simp only [cnt]; omega
  cases hb : canB c 0 with
  | false =>
    rcases Bool.eq_false_or_eq_true (canB c' 0) with hb' | hb' <;> simp [hb', works_eq, bind_s]
  | true =>
    have hcan := (canB_iff hx 0).1 hb
    have hcan' := can_mono hsub hcan
    have hb' := (canB_iff hx' 0).2 hcan'
    have hle : ∀ a b, a < cnt c → b < cnt c → mx c 0 a b ≤ mx c' 0 a b := fun a b ha hb => mx_mono hx' hx hN.symm hsub hcan (hN ▸ ha) (hN ▸ hb)
    have m1 := hle _ _ n1 n0
    have m2 := hle _ _ n0 n1
    have m3 := hle _ _ n1 n2
    have m4 := hle _ _ n2 n1
    have w1 : remontoirref00_Within (told c 0 (nd c k h) 0) (told c' 0 (nd c k h) 0) = some true := Within_t (by simp only [told]; omega) (by simp only [told]; omega)
    have w2 : remontoirref00_Within (told c 0 (nd c k h) (nd c 0 h)) (told c' 0 (nd c k h) (nd c 0 h)) = some true := Within_t (by simp only [told]; omega) (by simp only [told]; omega)
    simp [hb', w1, w2, works_eq, bind_s]

theorem mem_set {α : Type} {l : List α} {i : Nat} {a b : α} (h : a ∈ l.set i b) : a ∈ l ∨ a = b := List.mem_or_eq_of_mem_set h

theorem fsum_le {f g : BeatOpen → Int} {p : BeatOpen → Bool} : ∀ (l : List BeatOpen) (i : Nat) (o : BeatOpen), (hi : i < l.length) → p o = p l[i] → f o ≤ f l[i] → (((l.set i o).filter p).map f).sum ≤ ((l.filter p).map f).sum
  | a :: l, 0, o, hi, hp, hf => by
    simp only [List.getElem_cons_zero] at hp hf
    simp only [List.set_cons_zero, List.filter_cons, hp]
    split
    · simp only [List.map_cons, List.sum_cons]; omega
    · omega
  | a :: l, i + 1, o, hi, hp, hf => by
    simp only [List.getElem_cons_succ] at hp hf
    have ih := fsum_le (f := f) (g := g) (p := p) l i o (by simpa using hi) hp hf
    simp only [List.set_cons_succ, List.filter_cons]
    split
    · simp only [List.map_cons, List.sum_cons]; omega
    · exact ih
theorem fsum_ge {f g : BeatOpen → Int} {p : BeatOpen → Bool} : ∀ (l : List BeatOpen) (i : Nat) (o : BeatOpen), (hi : i < l.length) → p o = p l[i] → f l[i] ≤ f o → ((l.filter p).map f).sum ≤ (((l.set i o).filter p).map f).sum
  | a :: l, 0, o, hi, hp, hf => by
    simp only [List.getElem_cons_zero] at hp hf
    simp only [List.set_cons_zero, List.filter_cons, hp]
    split
    · simp only [List.map_cons, List.sum_cons]; omega
    · omega
  | a :: l, i + 1, o, hi, hp, hf => by
    simp only [List.getElem_cons_succ] at hp hf
    have ih := fsum_ge (f := f) (g := g) (p := p) l i o (by simpa using hi) hp hf
    simp only [List.set_cons_succ, List.filter_cons]
    split
    · simp only [List.map_cons, List.sum_cons]; omega
    · exact ih

/-- what a step is widened to -/
theorem widen {lo hi by_ m : Int} (hm : 0 ≤ m ∧ m ≤ 200000) (h0 : -m ≤ lo ∧ lo ≤ hi ∧ hi ≤ m) (hb : 0 ≤ by_ ∧ by_ < 20) :
    ∃ a b, (if wr (lo - by_) > -m then wr (lo - by_) else -m) = a ∧ (if wr (hi + by_) < m then wr (hi + by_) else m) = b ∧ -m ≤ a ∧ a ≤ lo ∧ hi ≤ b ∧ b ≤ m := by
  refine ⟨_, _, rfl, rfl, ?_⟩
  rw [wr_id' (show -9223372036854775808 ≤ lo - by_ by omega) (by omega), wr_id' (show -9223372036854775808 ≤ hi + by_ by omega) (by omega)]
  split <;> split <;> omega

theorem pure_10 (c : BeatCellar) (n : Arr5) (hc : Ok_BeatCellar c) (_ : Ok_Arr5 n) : remontoirlaw02_BeatWider c n = some true := by
  unfold remontoirlaw02_BeatWider
  simp only [sound_eq c hc, bind_s]
  cases hx : goodB c with
  | false => simp [works_eq]
  | true =>
    have hC := OkC.of hx
    have h1 := hC.h1
    have h2 := hC.h2
    have k1 := hC.k1
    have k2 := hC.k2
    have o2 := hC.o2
    have p2 := hC.p2
    have hsm : ∀ n : Int, -1000000000 ≤ n ∧ n ≤ 1000000000 → InR n := fun n h => inr_small h.1 h.2
    have wh : wr (c.Hours + 1) = c.Hours + 1 := wr_id' (by omega) (by omega)
    obtain ⟨b, eb, b1, b2⟩ := Rest_in n.a1 (by_ := 20) (by decide) (by decide)
    obtain ⟨s, es, s1, s2⟩ := Rest_in n.a0 (by_ := 3) (by decide) (by decide)
    obtain ⟨k, ek, k3, k4⟩ := Rest_in n.a3 (by_ := (c.Rates.length : Int)) (by omega) (by omega)
    obtain ⟨h, eh, h3, h4⟩ := Rest_in n.a4 (by_ := c.Hours + 1) (by omega) (by omega)
    simp only [Bool.not_true, cond_false, eb, es, bind_s, List.nil_append]
    by_cases hs0 : s = 0
    · have e0 : (s == 0) = true := by simpa using hs0
      obtain ⟨i, ei, i1, i2⟩ := Rest_in n.a2 (by_ := (c.Rates.length : Int)) (by omega) (by omega)
      obtain ⟨i, rfl⟩ := Int.eq_ofNat_of_zero_le i1
      have hi : i < c.Rates.length := by omega
      have hr := good_rates hx _ (List.getElem_mem hi)
      simp only [rateB, spanB, Bool.and_eq_true, decide_eq_true_eq] at hr
      obtain ⟨lo, hiV, e1, e2, w1, w2, w3, w4⟩ := widen (m := 1000) (by decide) (show -1000 ≤ c.Rates[i].Low ∧ c.Rates[i].Low ≤ c.Rates[i].High ∧ c.Rates[i].High ≤ 1000 by omega) ⟨b1, b2⟩
      rw [e0, cond_true, ei, bind_s, if_pos (by simp only [List.length_nil, lim]; omega)]
      simp only [idx_get hi, bind_s, e1, e2, remontoirref00_To, wh, ek, eh]
      rw [if_pos (by omega)]
      refine widerT_eq (c' := ⟨c.Hours, c.Rates.set (Int.toNat (i : Int)) ⟨lo, hiV⟩, c.Opens, c.Pairs⟩) hc ?_ hx ?_ rfl (by simp) ?_ k3 k4 h3 (by omega)
      · obtain ⟨q1, ⟨q2, q3⟩, q4, q5⟩ := hc
        refine ⟨q1, ⟨by simpa using q2, fun r hr => ?_⟩, q4, q5⟩
        rcases mem_set hr with hr | rfl
        · exact q3 r hr
        · exact ⟨hsm _ (by simp only; omega), hsm _ (by simp only; omega)⟩
      · refine good_mk (c := ⟨c.Hours, c.Rates.set (Int.toNat (i : Int)) ⟨lo, hiV⟩, c.Opens, c.Pairs⟩) ⟨h1, h2⟩ (by simp; omega) o2 p2 (fun r hr => ?_) (fun q hq => ?_) (fun p hp => ?_)
        · rcases mem_set hr with hr | rfl
          · exact good_rates hx r hr
          · simp only [rateB, spanB, Bool.and_eq_true, decide_eq_true_eq]; omega
        · have := good_opens hx q hq
          simpa [openB] using this
        · have := good_pairs hx p hp
          simpa [pairB] using this
      · intro x hf
        refine ⟨fun j hj t ht => ?_, hf.r, fun j hj t ht => hf.b j (by simpa using hj) t ht⟩
        have hj' : j < c.Rates.length := by simpa using hj
        have := hf.g j hj' t ht
        simp only [growsSpan, opensAt] at this ⊢
        by_cases hij : i = j
        · subst hij
          have e3 : (c.Rates.set (Int.toNat (i : Int)) ⟨lo, hiV⟩).getD i ⟨0, 0⟩ = ⟨lo, hiV⟩ := by simp [hi]
          have e4 : c.Rates.getD i ⟨0, 0⟩ = c.Rates[i] := by simp [hi]
          try dsimp only at this ⊢
          rw [e3]
          rw [e4] at this
          simp only [nd, wid] at this ⊢
          omega
        · have e3 : (c.Rates.set (Int.toNat (i : Int)) ⟨lo, hiV⟩).getD j ⟨0, 0⟩ = c.Rates.getD j ⟨0, 0⟩ := by
            simp only [List.getD_eq_getElem?_getD, Int.toNat_natCast]
            rw [List.getElem?_set_ne hij]
          try dsimp only at this ⊢
          rw [e3]
          exact this
    · have e0 : (s == 0) = false := by simpa using hs0
      rw [e0, cond_false]
      by_cases hs1 : s = 1
      · have e0 : (s == 1) = true := by simpa using hs1
        rw [e0, cond_true]
        by_cases ho : c.Opens.length = 0
        · have : ((c.Opens.length : Int) == 0) = true := by rw [beq_iff_eq]; omega
          rw [this, cond_true, works_eq]; rfl
        · have : ((c.Opens.length : Int) == 0) = false := by rw [beq_eq_false_iff_ne]; omega
          rw [this, cond_false]
          obtain ⟨i, ei, i1, i2⟩ := Rest_in n.a2 (by_ := (c.Opens.length : Int)) (by omega) (by omega)
          obtain ⟨i, rfl⟩ := Int.eq_ofNat_of_zero_le i1
          have hi : i < c.Opens.length := by omega
          have hr := good_opens hx _ (List.getElem_mem hi)
          simp only [openB, inB, spanB, Bool.and_eq_true, decide_eq_true_eq] at hr
          obtain ⟨lo, hiV, e1, e2, w1, w2, w3, w4⟩ := widen (m := 100000) (by decide) (show -100000 ≤ c.Opens[i].Step.Low ∧ c.Opens[i].Step.Low ≤ c.Opens[i].Step.High ∧ c.Opens[i].Step.High ≤ 100000 by omega) ⟨b1, b2⟩
          simp only [ei, bind_s, idx_get hi, e1, e2, remontoirref00_To, wh, ek, eh]
          rw [if_pos (by simp only [List.length_nil, lim]; omega), if_pos (by omega)]
          refine widerT_eq (c' := ⟨c.Hours, c.Rates, c.Opens.set (Int.toNat (i : Int)) ⟨c.Opens[i].Clock, c.Opens[i].Hour, ⟨lo, hiV⟩⟩, c.Pairs⟩) hc ?_ hx ?_ rfl rfl ?_ k3 k4 h3 (by omega)
          · obtain ⟨q1, q2, ⟨q3, q4⟩, q5⟩ := hc
            refine ⟨q1, q2, ⟨by simpa using q3, fun q hq => ?_⟩, q5⟩
            rcases mem_set hq with hq | rfl
            · exact q4 q hq
            · exact ⟨hsm _ (by simp only; omega), hsm _ (by simp only; omega), hsm _ (by simp only; omega), hsm _ (by simp only; omega)⟩
          · refine good_mk (c := ⟨c.Hours, c.Rates, c.Opens.set (Int.toNat (i : Int)) ⟨c.Opens[i].Clock, c.Opens[i].Hour, ⟨lo, hiV⟩⟩, c.Pairs⟩) ⟨h1, h2⟩ ⟨k1, k2⟩ (by simpa using o2) p2 (fun r hr => good_rates hx r hr) (fun q hq => ?_) (fun p hp => ?_)
            · rcases mem_set hq with hq | rfl
              · have := good_opens hx q hq
                simpa [openB] using this
              · simp only [openB, inB, spanB, Bool.and_eq_true, decide_eq_true_eq]; omega
            · have := good_pairs hx p hp
              simpa [pairB] using this
          · intro x hf
            refine ⟨fun j hj t ht => ?_, hf.r, hf.b⟩
            have := hf.g j hj t ht
            simp only [growsSpan, opensAt] at this ⊢
            have f1 := fsum_le (f := fun o => o.Step.Low) (g := fun o => o.Step.Low) (p := fun o => o.Clock == (j : Int) && o.Hour == (t : Int)) c.Opens i ⟨c.Opens[i].Clock, c.Opens[i].Hour, ⟨lo, hiV⟩⟩ hi rfl w2
            have f2 := fsum_ge (f := fun o => o.Step.High) (g := fun o => o.Step.High) (p := fun o => o.Clock == (j : Int) && o.Hour == (t : Int)) c.Opens i ⟨c.Opens[i].Clock, c.Opens[i].Hour, ⟨lo, hiV⟩⟩ hi rfl w3
            simp only [nd, wid, Int.toNat_natCast] at this f1 f2 ⊢
            omega
      · have e0 : (s == 1) = false := by simpa using hs1
        rw [e0, cond_false]
        by_cases ho : c.Pairs.length = 0
        · have : ((c.Pairs.length : Int) == 0) = true := by rw [beq_iff_eq]; omega
          rw [this, cond_true, works_eq]; rfl
        · have : ((c.Pairs.length : Int) == 0) = false := by rw [beq_eq_false_iff_ne]; omega
          rw [this, cond_false]
          obtain ⟨i, ei, i1, i2⟩ := Rest_in n.a2 (by_ := (c.Pairs.length : Int)) (by omega) (by omega)
          obtain ⟨i, rfl⟩ := Int.eq_ofNat_of_zero_le i1
          have hi : i < c.Pairs.length := by omega
          have hmem : c.Pairs[i] ∈ c.Pairs := List.getElem_mem hi
          have hr := pair_ok hx hmem
          obtain ⟨lo, hiV, e1, e2, w1, w2, w3, w4⟩ := widen (m := 200000) (by decide) (show -200000 ≤ c.Pairs[i].Read.Low ∧ c.Pairs[i].Read.Low ≤ c.Pairs[i].Read.High ∧ c.Pairs[i].Read.High ≤ 200000 by omega) ⟨b1, b2⟩
          simp only [ei, bind_s, idx_get hi, e1, e2, remontoirref00_To, wh, ek, eh]
          rw [if_pos (by simp only [List.length_nil, lim]; omega), if_pos (by omega)]
          refine widerT_eq (c' := ⟨c.Hours, c.Rates, c.Opens, c.Pairs.set (Int.toNat (i : Int)) ⟨c.Pairs[i].Hour, c.Pairs[i].One, c.Pairs[i].Other, ⟨lo, hiV⟩⟩⟩) hc ?_ hx ?_ rfl rfl ?_ k3 k4 h3 (by omega)
          · obtain ⟨q1, q2, q3, ⟨q4, q5⟩⟩ := hc
            refine ⟨q1, q2, q3, ⟨by simpa using q4, fun q hq => ?_⟩⟩
            rcases mem_set hq with hq | rfl
            · exact q5 q hq
            · exact ⟨hsm _ (by simp only; omega), hsm _ (by simp only; omega), hsm _ (by simp only; omega), hsm _ (by simp only; omega), hsm _ (by simp only; omega)⟩
          · refine good_mk (c := ⟨c.Hours, c.Rates, c.Opens, c.Pairs.set (Int.toNat (i : Int)) ⟨c.Pairs[i].Hour, c.Pairs[i].One, c.Pairs[i].Other, ⟨lo, hiV⟩⟩⟩) ⟨h1, h2⟩ ⟨k1, k2⟩ o2 (by simpa using p2) (fun r hr => good_rates hx r hr) (fun q hq => ?_) (fun p hp => ?_)
            · have := good_opens hx q hq
              simpa [openB] using this
            · rcases mem_set hp with hp | rfl
              · have := good_pairs hx p hp
                simpa [pairB] using this
              · simp only [pairB, inB, spanB, Bool.and_eq_true, decide_eq_true_eq, bne_iff_ne]; omega
          · intro x hf
            refine ⟨hf.g, fun p hp hl => ?_, hf.b⟩
            rcases mem_set hp with hp | rfl
            · exact hf.r p hp hl
            · have := hf.r c.Pairs[i] hmem hl
              simp only [nd, wid] at this ⊢
              by_cases hoth : c.Pairs[i].Other ≥ 0
              · simp only [hoth, if_true] at this ⊢; omega
              · simp only [hoth, if_false] at this ⊢; omega
end Go.Proofs.YtpniidbbbhbglaaDoor.Rt
