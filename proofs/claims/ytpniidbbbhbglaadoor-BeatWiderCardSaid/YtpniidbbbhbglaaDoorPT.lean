/- Plain laws of the beat seat: two cellars of which one lets more be. Under the conditions that each names. -/
import Derived.Test.YtpniidbbbhbglaaDoorPS
set_option linter.unusedVariables false
set_option linter.unusedSimpArgs false
set_option maxRecDepth 100000
set_option maxHeartbeats 4000000
namespace Go.Proofs.YtpniidbbbhbglaaDoor.Rt
open Go Go.RowKit

theorem mx_mono {c c' : BeatCellar} (hx : goodB c = true) (hx' : goodB c' = true) (hN : cnt c' = cnt c) {l l' : Int} (hsub : ∀ x, F c' l' x → F c l x) (hcan : Can c' l') {a b : Nat} (ha : a < cnt c) (hb : b < cnt c) : mx c' l' a b ≤ mx c l a b := by
  obtain ⟨⟨x, hf, e⟩, _⟩ := mx_most hx' hcan (hN ▸ ha) (hN ▸ hb)
  have hf' := hsub x hf
  have := (mx_most hx ⟨x, hf'⟩ ha hb).2 x hf'
  omega
theorem can_mono {c c' : BeatCellar} {l l' : Int} (hsub : ∀ x, F c' l' x → F c l x) (hcan : Can c' l') : Can c l := by
  obtain ⟨x, h⟩ := hcan; exact ⟨x, hsub x h⟩
theorem mx_same {c c' : BeatCellar} (hx : goodB c = true) (hx' : goodB c' = true) (hN : cnt c' = cnt c) {l l' : Int} (hiff : ∀ x, F c' l' x ↔ F c l x) (hcan : Can c l) {a b : Nat} (ha : a < cnt c) (hb : b < cnt c) : mx c' l' a b = mx c l a b := by
  have hcan' : Can c' l' := can_mono (fun x h => (hiff x).2 h) hcan
  have h1 := mx_mono hx hx' hN (fun x h => (hiff x).1 h) hcan' ha hb
  have h2 := mx_mono hx' hx hN.symm (fun x h => (hiff x).2 h) hcan (hN ▸ ha) (hN ▸ hb)
  omega
theorem canB_same {c c' : BeatCellar} (hx : goodB c = true) (hx' : goodB c' = true) {l l' : Int} (hiff : ∀ x, F c' l' x ↔ F c l x) : canB c' l' = canB c l := by
  rw [Bool.eq_iff_iff, canB_iff hx, canB_iff hx']
  exact ⟨can_mono (fun x h => (hiff x).1 h), can_mono (fun x h => (hiff x).2 h)⟩
theorem told_same {c c' : BeatCellar} (hx : goodB c = true) (hx' : goodB c' = true) (hN : cnt c' = cnt c) {l l' : Int} (hiff : ∀ x, F c' l' x ↔ F c l x) (hcan : Can c l) {a b : Nat} (ha : a < cnt c) (hb : b < cnt c) : told c' l' a b = told c l a b := by
  simp only [told, mx_same hx hx' hN hiff hcan ha hb, mx_same hx hx' hN hiff hcan hb ha]
/-- cellars with the same hours and clocks have the same nodes -/
theorem nd_same {c c' : BeatCellar} (hH : c'.Hours = c.Hours) : nd c' = nd c ∧ wid c' = wid c := by
  have : wid c' = wid c := by simp only [wid, hH]
  exact ⟨by funext k h; simp only [nd, this], this⟩
theorem cnt_same {c c' : BeatCellar} (hH : c'.Hours = c.Hours) (hR : c'.Rates.length = c.Rates.length) : cnt c' = cnt c := by
  simp only [cnt, hR, (nd_same hH).2]
theorem F_sub {c c' : BeatCellar} (hH : c'.Hours = c.Hours) {l l' : Int} (h : ∀ y z, Fits c' l' y z → Fits c l y z) : ∀ x, F c' l' x → F c l x := by
  intro x hf
  have := h _ _ hf
  unfold F
  rw [← (nd_same hH).1]
  exact this

theorem Within_t {s w : Span} (h1 : w.Low ≤ s.Low) (h2 : s.High ≤ w.High) : remontoirref00_Within s w = some true := by
  unfold remontoirref00_Within
  rw [decide_eq_true h1, decide_eq_true h2]; rfl
theorem good_mk {c : BeatCellar} (h1 : 1 ≤ c.Hours ∧ c.Hours ≤ 12) (k : 1 ≤ c.Rates.length ∧ c.Rates.length ≤ 5) (o : c.Opens.length ≤ 6) (p : c.Pairs.length ≤ 14) (hr : ∀ r ∈ c.Rates, rateB r = true) (hg : ∀ o ∈ c.Opens, openB c o = true) (hp : ∀ p ∈ c.Pairs, pairB c p = true) : goodB c = true := by
  simp only [goodB, sizesB, inB, Bool.and_eq_true, decide_eq_true_eq]
  exact ⟨⟨⟨⟨⟨⟨h1, by omega⟩, by omega⟩, by omega⟩, List.all_eq_true.2 hr⟩, List.all_eq_true.2 hg⟩, List.all_eq_true.2 hp⟩
theorem good_rates {c : BeatCellar} (hx : goodB c = true) : ∀ r ∈ c.Rates, rateB r = true := by
  simp only [goodB, Bool.and_eq_true] at hx; exact List.all_eq_true.1 hx.1.1.2
theorem good_opens {c : BeatCellar} (hx : goodB c = true) : ∀ o ∈ c.Opens, openB c o = true := by
  simp only [goodB, Bool.and_eq_true] at hx; exact List.all_eq_true.1 hx.1.2
theorem good_pairs {c : BeatCellar} (hx : goodB c = true) : ∀ p ∈ c.Pairs, pairB c p = true := by
  simp only [goodB, Bool.and_eq_true] at hx; exact List.all_eq_true.1 hx.2
/-- what the sums of steps come to, in the order of the openings -/
theorem sumLow (c : BeatCellar) (k h : Int) (r : Span) : (growsSpan c r k h).Low = r.Low + ((c.Opens.filter fun o => o.Clock == k && o.Hour == h).map (·.Step.Low)).sum := rfl

theorem bestF_spec {w : Nat → Int} : ∀ n, 0 < n → ∃ b, b < n ∧ bestF w n = ((b : Int), w b) ∧ (∀ k, k < n → w b ≤ w k) ∧ ∀ k, k < b → w b < w k
  | 0, h => by omega
  | 1, _ => ⟨0, by omega, by simp [bestF], fun k hk => by have : k = 0 := by omega
                                                          subst this; omega, fun k hk => by omega⟩
  | n + 2, _ => by
    obtain ⟨b, h1, h2, h3, h4⟩ := bestF_spec (w := w) (n + 1) (by omega)
    rw [bestF]
    by_cases hlt : w (n + 1) < (bestF w (n + 1)).2
    · rw [if_pos (Or.inr hlt)]
      rw [h2] at hlt
      simp only at hlt
      refine ⟨n + 1, by omega, rfl, fun k hk => ?_, fun k hk => ?_⟩
      · by_cases e : k = n + 1
        · subst e; omega
        · have := h3 k (by omega); omega
      · have := h3 k (by omega); omega
    · rw [if_neg (by rintro (h | h); omega; exact hlt h)]
      rw [h2] at hlt
      simp only at hlt
      refine ⟨b, by omega, h2, fun k hk => ?_, h4⟩
      by_cases e : k = n + 1
      · subst e; omega
      · exact h3 k (by omega)
end Go.Proofs.YtpniidbbbhbglaaDoor.Rt
