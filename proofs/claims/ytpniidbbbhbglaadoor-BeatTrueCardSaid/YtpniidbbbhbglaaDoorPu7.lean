/- What the pure function of the law BeatTrue comes to. Under the conditions that the arguments are Go's. -/
import Derived.Test.YtpniidbbbhbglaaDoorL7
import Derived.Test.YtpniidbbbhbglaaDoorPT
set_option linter.unusedVariables false
set_option linter.unusedSimpArgs false
set_option maxRecDepth 100000
set_option maxHeartbeats 4000000
namespace Go.Proofs.YtpniidbbbhbglaaDoor.Rt
open Go Go.RowKit

theorem rest_any (n : Int) {by_ : Int} (h : 0 < by_) (h2 : by_ ≤ 9223372036854775807) : ∃ r, remontoirref00_Rest n by_ = some r ∧ 0 ≤ r ∧ r < by_ := by
  unfold remontoirref00_Rest
  rw [if_pos (by omega)]
  have e := Int.tmod_eq_emod (a := n) (b := by_)
  have h0 := Int.emod_nonneg n (show by_ ≠ 0 by omega)
  have h1 := Int.emod_lt_of_pos n h
  have e2 : (by_.natAbs : Int) = by_ := by omega
  by_cases ht : n.tmod by_ < 0
  · rw [decide_eq_true ht, cond_true]
    unfold remontoirref00_Rest_k1
    refine ⟨_, rfl, ?_⟩
    rw [e] at ht ⊢
    split at ht
    · omega
    · next hn =>
      rw [if_neg hn, e2, wr_id' (by omega) (by omega)]
      omega
  · rw [decide_eq_false ht, cond_false]
    unfold remontoirref00_Rest_k1
    refine ⟨_, rfl, by omega, ?_⟩
    rw [e]
    split <;> omega
theorem At_any (l : List Int) (hl : (l.length : Int) ≤ 9223372036854775807) (n : Int) : ∃ v, remontoirref00_At l n = some v := by
  unfold remontoirref00_At
  by_cases h : l.length = 0
  · have : ((l.length : Int) == 0) = true := by rw [beq_iff_eq]; omega
    rw [this]; exact ⟨0, rfl⟩
  · have e : ((l.length : Int) == 0) = false := by rw [beq_eq_false_iff_ne]; omega
    obtain ⟨r, e1, e2, e3⟩ := rest_any n (by_ := (l.length : Int)) (by omega) hl
    rw [e, cond_false, e1, bind_s, idx_int e2 e3]
    exact ⟨_, rfl⟩
theorem From_in (s : Span) (n : Int) (h1 : -1000000 ≤ s.Low) (h2 : s.Low ≤ s.High) (h3 : s.High ≤ 1000000) : ∃ v, remontoirref00_From s n = some v ∧ s.Low ≤ v ∧ v ≤ s.High := by
  unfold remontoirref00_From
  by_cases h : s.High ≤ s.Low
  · rw [decide_eq_true h, cond_true]
    exact ⟨s.Low, rfl, by omega, by omega⟩
  · rw [decide_eq_false h, cond_false]
    have e : wr (wr (s.High - s.Low) + 1) = s.High - s.Low + 1 := by
      have : wr (s.High - s.Low) = s.High - s.Low := wr_id' (by omega) (by omega)
      rw [this, wr_id' (by omega) (by omega)]
    rw [e]
    have hd : decide (s.High - s.Low + 1 < 1) = false := by simp; omega
    obtain ⟨r, e1, e2, e3⟩ := rest_any n (by_ := s.High - s.Low + 1) (by omega) (by omega)
    rw [hd, cond_false, e1, bind_s]
    refine ⟨_, rfl, ?_⟩
    rw [wr_id' (by omega) (by omega)]
    omega

def clampI (n : Int) : Int := if (if n < 500 then n else 500) > -500 then (if n < 500 then n else 500) else -500
def clip (o : BeatOpen) : BeatOpen := ⟨o.Clock, o.Hour, ⟨clampI o.Step.Low, clampI o.Step.High⟩⟩
theorem clamp_in (n : Int) : -500 ≤ clampI n ∧ clampI n ≤ 500 := by unfold clampI; split <;> split <;> omega
theorem clamp_mono {n m : Int} (h : n ≤ m) : clampI n ≤ clampI m := by
  unfold clampI
  repeat' split
  all_goals omega
/-- what a cellar's clocks can do in an hour, by its openings -/
def gS (c : BeatCellar) (l : List BeatOpen) (k h : Nat) : Span := growsSpan ⟨c.Hours, c.Rates, l, []⟩ (c.Rates.getD k ⟨0, 0⟩) k h

theorem sumF_bound {l : List BeatOpen} (hl : l.length ≤ 6) (h : ∀ o ∈ l, -500 ≤ o.Step.Low ∧ o.Step.Low ≤ o.Step.High ∧ o.Step.High ≤ 500) : -3000 ≤ (l.map (·.Step.Low)).sum ∧ (l.map (·.Step.Low)).sum ≤ (l.map (·.Step.High)).sum ∧ (l.map (·.Step.High)).sum ≤ 3000 := by
  have s1 := sum_bound (l := l.map (·.Step.Low)) (B := 500) (by decide) (fun n hn => by
    obtain ⟨o, ho, rfl⟩ := List.mem_map.1 hn; have := h o ho; omega)
  have s2 := sum_bound (l := l.map (·.Step.High)) (B := 500) (by decide) (fun n hn => by
    obtain ⟨o, ho, rfl⟩ := List.mem_map.1 hn; have := h o ho; omega)
  have s3 := sum_le_sum (l := l) (fun o ho => (h o ho).2.1)
  simp only [List.length_map] at s1 s2
  omega

structure RowOk (c : BeatCellar) (l : List BeatOpen) (k : Nat) (row : List Int) (h : Nat) (now : Int) : Prop where
  len : row.length = h + 1
  last : row.getD h 0 = now
  bnd : ∀ j, j ≤ h → -(1000 + 4000 * (j : Int)) ≤ row.getD j 0 ∧ row.getD j 0 ≤ 1000 + 4000 * (j : Int)
  gr : ∀ j, j < h → (gS c l k j).Low ≤ row.getD (j + 1) 0 - row.getD j 0 ∧ row.getD (j + 1) 0 - row.getD j 0 ≤ (gS c l k j).High

theorem getD_app {l : List Int} {a : Int} {j : Nat} : (l ++ [a]).getD j 0 = if j < l.length then l.getD j 0 else if j = l.length then a else 0 := by
  simp only [List.getD_eq_getElem?_getD, List.getElem?_append]
  split
  · rfl
  · next h =>
    by_cases e : j = l.length
    · simp [e]
    · have : ¬ (j - l.length = 0) := by omega
      rw [if_neg e, List.getElem?_eq_none (by simp; omega)]; rfl

theorem went_b4 (bits : List Int) (hb : (bits.length : Int) ≤ 9223372036854775807) (l : List BeatOpen) (hl : l.length ≤ 6) (ho : ∀ o ∈ l, -500 ≤ o.Step.Low ∧ o.Step.Low ≤ o.Step.High ∧ o.Step.High ≤ 500) (k h : Nat) (row : List Int) (hrow : row.length ≤ 100) (hh : h ≤ 20) (now : Int) (hnow : -100000 ≤ now ∧ now ≤ 100000) :
    ∃ v, loopU (remontoirlaw02_went_b4 bits l (k : Int) row (h : Int)) (now, 0) = nxt (v, row ++ [v], ((h + 1 : Nat) : Int)) ∧
      ((l.filter fun o => o.Clock == (k : Int) && o.Hour == (h : Int)).map (·.Step.Low)).sum ≤ v - now ∧ v - now ≤ ((l.filter fun o => o.Clock == (k : Int) && o.Hour == (h : Int)).map (·.Step.High)).sum := by
  refine loopU_for (s := (now, (0 : Int))) (Inv := fun i s => s.2 = (i : Int) ∧ (((l.take i).filter fun o => o.Clock == (k : Int) && o.Hour == (h : Int)).map (·.Step.Low)).sum ≤ s.1 - now ∧ s.1 - now ≤ (((l.take i).filter fun o => o.Clock == (k : Int) && o.Hour == (h : Int)).map (·.Step.High)).sum) l.length
    (Post := fun o => ∃ v, o = nxt (v, row ++ [v], ((h + 1 : Nat) : Int)) ∧ ((l.filter fun o => o.Clock == (k : Int) && o.Hour == (h : Int)).map (·.Step.Low)).sum ≤ v - now ∧ v - now ≤ ((l.filter fun o => o.Clock == (k : Int) && o.Hour == (h : Int)).map (·.Step.High)).sum) ⟨rfl, by simp, by simp⟩ ?_ ?_
  · rintro i ⟨n1, s2⟩ hi ⟨h0, h1, h2⟩
    simp only at h0 h1 h2
    subst h0
    have hd : decide ((i : Int) < (l.length : Int)) = true := by simp; omega
    have wi : wr ((i : Int) + 1) = ((i + 1 : Nat) : Int) := wr_id' (by omega) (by omega)
    have hf : ∀ o ∈ (l.take i).filter fun o => o.Clock == (k : Int) && o.Hour == (h : Int), -500 ≤ o.Step.Low ∧ o.Step.Low ≤ o.Step.High ∧ o.Step.High ≤ 500 := fun o hm => ho o (List.mem_of_mem_take (List.mem_filter.1 hm).1)
    have hlen : ((l.take i).filter fun o => o.Clock == (k : Int) && o.Hour == (h : Int)).length ≤ 6 := by
      have := List.length_filter_le (fun o : BeatOpen => o.Clock == (k : Int) && o.Hour == (h : Int)) (l.take i)
      rw [List.length_take] at this; omega
    have sb := sumF_bound hlen hf
    have hoi := ho _ (List.getElem_mem hi)
    obtain ⟨v1, ev1⟩ := At_any bits hb (wr (wr ((i : Int) + (h : Int)) + 2))
    obtain ⟨v2, ev2, g1, g2⟩ := From_in l[i].Step v1 (by omega) (by omega) (by omega)
    have ec : (cond (l[i].Clock == (k : Int)) (some (l[i].Hour == (h : Int))) (some false)) = some (l[i].Clock == (k : Int) && l[i].Hour == (h : Int)) := by
      cases (l[i].Clock == (k : Int)) <;> rfl
    simp only [remontoirlaw02_went_b4, hd, cond_true, idx_get hi, bind_s, ec, wi, filter_take hi, ev1, ev2]
    cases hq : (l[i].Clock == (k : Int) && l[i].Hour == (h : Int)) with
    | true =>
      refine ⟨(n1 + v2, ((i + 1 : Nat) : Int)), ?_, rfl, ?_⟩
      · rw [cond_true, wr_id' (by omega) (by omega)]
      · simp only [if_true, List.map_append, List.sum_append, List.map_cons, List.map_nil, List.sum_cons, List.sum_nil, Int.add_zero]
        omega
    | false =>
      refine ⟨(n1, ((i + 1 : Nat) : Int)), rfl, rfl, ?_⟩
      simp only [Bool.false_eq_true, if_false, List.append_nil]
      exact ⟨h1, h2⟩
  · rintro ⟨n1, s2⟩ ⟨h0, h1, h2⟩
    simp only [List.take_length] at h0 h1 h2
    subst h0
    have hd : decide ((l.length : Int) < (l.length : Int)) = false := by simp
    have wi : wr ((h : Int) + 1) = ((h + 1 : Nat) : Int) := wr_id' (by omega) (by omega)
    have hlim : row.length + ([n1]).length ≤ lim := by simp only [List.length_cons, List.length_nil, lim]; omega
    exact ⟨_, by simp only [remontoirlaw02_went_b4, hd, cond_false, hlim, if_true, wi], n1, rfl, h1, h2⟩

theorem gS_ok {c : BeatCellar} (hx : goodB c = true) {l : List BeatOpen} (hl : l.length ≤ 6) (ho : ∀ o ∈ l, -500 ≤ o.Step.Low ∧ o.Step.Low ≤ o.Step.High ∧ o.Step.High ≤ 500) {k : Nat} (hk : k < c.Rates.length) (h : Nat) : -4000 ≤ (gS c l k h).Low ∧ (gS c l k h).High ≤ 4000 := by
  have e : c.Rates.getD k ⟨0, 0⟩ = c.Rates[k] := by simp [List.getD, hk]
  have hr := good_rates hx _ (List.getElem_mem hk)
  simp only [rateB, spanB, Bool.and_eq_true, decide_eq_true_eq] at hr
  have hf : ∀ o ∈ l.filter fun o => o.Clock == (k : Int) && o.Hour == (h : Int), -500 ≤ o.Step.Low ∧ o.Step.Low ≤ o.Step.High ∧ o.Step.High ≤ 500 := fun o hm => ho o (List.mem_filter.1 hm).1
  have hlen : (l.filter fun o => o.Clock == (k : Int) && o.Hour == (h : Int)).length ≤ 6 := by
    have := List.length_filter_le (fun o : BeatOpen => o.Clock == (k : Int) && o.Hour == (h : Int)) l
    omega
  have sb := sumF_bound hlen hf
  simp only [gS, growsSpan, opensAt, e]
  omega

theorem went_b3 {c : BeatCellar} (hx : goodB c = true) (bits : List Int) (hb : (bits.length : Int) ≤ 9223372036854775807) (l : List BeatOpen) (hl : l.length ≤ 6) (ho : ∀ o ∈ l, -500 ≤ o.Step.Low ∧ o.Step.Low ≤ o.Step.High ∧ o.Step.High ≤ 500) {k : Nat} (hk : k < c.Rates.length) (out : List (List Int)) (hout : out.length ≤ 100) (v0 : Int) (hv0 : -1000 ≤ v0 ∧ v0 ≤ 1000) :
    ∃ row now, loopU (remontoirlaw02_went_b3 c bits l out (k : Int)) (v0, [v0], 0) = nxt (out ++ [row], ((k + 1 : Nat) : Int)) ∧ RowOk c l k row c.Hours.toNat now := by
  have hC := OkC.of hx
  have hh1 := hC.h1
  have hh2 := hC.h2
  have k2 := hC.k2
  have e : c.Rates.getD k ⟨0, 0⟩ = c.Rates[k] := by simp [List.getD, hk]
  have hr := good_rates hx _ (List.getElem_mem hk)
  simp only [rateB, spanB, Bool.and_eq_true, decide_eq_true_eq] at hr
  refine loopU_for (s := (v0, [v0], (0 : Int))) (Inv := fun h s => s.2.2 = (h : Int) ∧ RowOk c l k s.2.1 h s.1) c.Hours.toNat
    (Post := fun o => ∃ row now, o = nxt (out ++ [row], ((k + 1 : Nat) : Int)) ∧ RowOk c l k row c.Hours.toNat now) ⟨rfl, rfl, rfl, fun j hj => by
      have : j = 0 := by omega
      subst this; simp; omega, fun j hj => by omega⟩ ?_ ?_
  · rintro h ⟨now, row, s3⟩ hh ⟨h0, hro⟩
    simp only at h0 hro
    subst h0
    have hd : decide ((h : Int) < c.Hours) = true := by simp; omega
    have hbn := hro.bnd h (Nat.le_refl _)
    rw [hro.last] at hbn
    obtain ⟨v1, ev1⟩ := At_any bits hb (wr (wr ((k : Int) + wr (2 * (h : Int))) + 1))
    obtain ⟨v2, ev2, g1, g2⟩ := From_in c.Rates[k] v1 (by omega) (by omega) (by omega)
    have wn : wr (now + v2) = now + v2 := wr_id' (by omega) (by omega)
    obtain ⟨v, e4, f1, f2⟩ := went_b4 bits hb l hl ho k h row (by rw [hro.len]; omega) (by omega) (now + v2) (by omega)
    refine ⟨(v, row ++ [v], ((h + 1 : Nat) : Int)), ?_, rfl, ?_⟩
    · simp only [remontoirlaw02_went_b3, hd, cond_true, idx_get hk, bind_s, ev1, ev2, wn]
      exact e4
    · have hgs : (gS c l k h).Low ≤ v - now ∧ v - now ≤ (gS c l k h).High := by
        simp only [gS, growsSpan, opensAt, e]
        omega
      have hgb := gS_ok hx hl ho hk h
      simp only
      refine ⟨by rw [List.length_append, hro.len]; rfl, ?_, fun j hj => ?_, fun j hj => ?_⟩
      · rw [getD_app, hro.len, if_neg (by omega), if_pos rfl]
      · rw [getD_app, hro.len]
        by_cases hj2 : j < h + 1
        · rw [if_pos hj2]; exact hro.bnd j (by omega)
        · have ej : j = h + 1 := by omega
          rw [if_neg hj2, if_pos ej]
          subst ej
          omega
      · rw [getD_app, getD_app, hro.len]
        by_cases hj2 : j + 1 < h + 1
        · rw [if_pos hj2, if_pos (by omega)]; exact hro.gr j (by omega)
        · have ej : j = h := by omega
          subst ej
          rw [if_neg (by omega), if_pos rfl, if_pos (by omega), hro.last]
          exact hgs
  · rintro ⟨now, row, s3⟩ ⟨h0, hro⟩
    simp only at h0 hro
    subst h0
    have hd : decide (((c.Hours.toNat : Nat) : Int) < c.Hours) = false := by simp; omega
    have wi : wr ((k : Int) + 1) = ((k + 1 : Nat) : Int) := wr_id' (by omega) (by omega)
    have hlim : out.length + ([row]).length ≤ lim := by simp only [List.length_cons, List.length_nil, lim]; omega
    exact ⟨_, by simp only [remontoirlaw02_went_b3, hd, cond_false, hlim, if_true, wi], row, now, rfl, hro⟩

def PairOk (o : List (List Int)) (p p' : BeatPair) : Prop := (p'.Hour = p.Hour ∧ p'.One = p.One ∧ p'.Other = p.Other) ∧
  (p'.Read.Low ≤ off o p.One p.Hour - (if p.Other ≥ 0 then off o p.Other p.Hour else 0) ∧ off o p.One p.Hour - (if p.Other ≥ 0 then off o p.Other p.Hour else 0) ≤ p'.Read.High) ∧ -200000 ≤ p'.Read.Low ∧ p'.Read.High ≤ 200000

theorem went_k6 (bits : List Int) (hb : (bits.length : Int) ≤ 9223372036854775807) (i : Nat) (hi : i ≤ 20) (l1 : List BeatPair) (hl : l1.length ≤ 100) (p : BeatPair) (hp : -200000 ≤ p.Read.Low ∧ p.Read.Low ≤ p.Read.High ∧ p.Read.High ≤ 200000) (n : Int) (hn : -100000 ≤ n ∧ n ≤ 100000) :
    ∃ p' : BeatPair, remontoirlaw02_went_k6 bits (i : Int) l1 p n = nxt (((i + 1 : Nat) : Int), l1 ++ [p']) ∧ (p'.Hour = p.Hour ∧ p'.One = p.One ∧ p'.Other = p.Other) ∧ (p'.Read.Low ≤ n ∧ n ≤ p'.Read.High) ∧ -200000 ≤ p'.Read.Low ∧ p'.Read.High ≤ 200000 := by
  obtain ⟨v, ev⟩ := At_any bits hb (wr ((i : Int) + 3))
  have wi : wr ((i : Int) + 1) = ((i + 1 : Nat) : Int) := wr_id' (by omega) (by omega)
  have ww : wr (p.Read.High - p.Read.Low) = p.Read.High - p.Read.Low := wr_id' (by omega) (by omega)
  have hwide : ∃ wd, (if 200 < wr (p.Read.High - p.Read.Low) then 200 else wr (p.Read.High - p.Read.Low)) = wd ∧ 0 ≤ wd ∧ wd ≤ 200 := ⟨_, rfl, by rw [ww]; split <;> omega, by rw [ww]; split <;> omega⟩
  obtain ⟨wd, e1, w0, w1⟩ := hwide
  have e2 : wr (wd + 1) = wd + 1 := wr_id' (by omega) (by omega)
  obtain ⟨r, er, r0, r1⟩ := rest_any v (by_ := wd + 1) (by omega) (by omega)
  have e3 : wr (n - r) = n - r := wr_id' (by omega) (by omega)
  have e4 : wr (n - r + wd) = n - r + wd := wr_id' (by omega) (by omega)
  refine ⟨⟨p.Hour, p.One, p.Other, ⟨n - r, n - r + wd⟩⟩, ?_, ⟨rfl, rfl, rfl⟩, ⟨by simp only; omega, by simp only; omega⟩, by simp only; omega, by simp only; omega⟩
  unfold remontoirlaw02_went_k6
  simp only [ev, bind_s, e1, e2, er, remontoirref00_To, e3, e4, wi]
  rw [if_pos (by simp only [List.length_cons, List.length_nil, lim]; omega)]

theorem went_b5 {c : BeatCellar} (hx : goodB c = true) (bits : List Int) (hb : (bits.length : Int) ≤ 9223372036854775807) (l : List BeatOpen) {o : List (List Int)} (hs : shapeB c o = true) (hr : ∀ k h : Nat, k < c.Rates.length → h < wid c → -50000 ≤ off o k h ∧ off o k h ≤ 50000) :
    ∃ ps, loopU (remontoirlaw02_went_b5 c bits l o) (0, []) = some (o, ⟨c.Hours, c.Rates, l, ps⟩) ∧ ps.length = c.Pairs.length ∧ ∀ p' ∈ ps, ∃ p ∈ c.Pairs, PairOk o p p' := by
  have hC := OkC.of hx
  have hw := hC.w
  have p2 := hC.p2
  refine loopU_for (s := ((0 : Int), ([] : List BeatPair))) (Inv := fun i s => s.1 = (i : Int) ∧ s.2.length = i ∧ ∀ p' ∈ s.2, ∃ p ∈ c.Pairs, PairOk o p p') c.Pairs.length
    (Post := fun (q : Option (List (List Int) × BeatCellar)) => ∃ ps, q = some (o, ⟨c.Hours, c.Rates, l, ps⟩) ∧ ps.length = c.Pairs.length ∧ ∀ p' ∈ ps, ∃ p ∈ c.Pairs, PairOk o p p') ⟨rfl, rfl, by simp⟩ ?_ ?_
  · rintro i ⟨s1, l1⟩ hi ⟨h0, hlen, hall⟩
    simp only at h0 hlen hall
    subst h0
    have hd : decide ((i : Int) < (c.Pairs.length : Int)) = true := by simp; omega
    have hmem : c.Pairs[i] ∈ c.Pairs := List.getElem_mem hi
    obtain ⟨q1, q2, q3, q4, q5⟩ := pair_ok hx hmem
    have hrr : ∀ k h : Int, 0 ≤ k → k < c.Rates.length → 0 ≤ h → h ≤ c.Hours → -50000 ≤ off o k h ∧ off o k h ≤ 50000 := fun k h a1 a2 a3 a4 => by
      have := hr k.toNat h.toNat (by omega) (by omega)
      rwa [Int.toNat_of_nonneg a1, Int.toNat_of_nonneg a3] at this
    obtain ⟨r1, e1, e2⟩ := off_idx hs (k := c.Pairs[i].One) (h := c.Pairs[i].Hour) (by omega) (by omega) (by omega) (by omega)
    have b1 := hrr c.Pairs[i].One c.Pairs[i].Hour (by omega) (by omega) (by omega) (by omega)
    have key : ∀ n, n = off o c.Pairs[i].One c.Pairs[i].Hour - (if c.Pairs[i].Other ≥ 0 then off o c.Pairs[i].Other c.Pairs[i].Hour else 0) → -100000 ≤ n ∧ n ≤ 100000 →
        ∃ s', remontoirlaw02_went_k6 bits (i : Int) l1 c.Pairs[i] n = nxt s' ∧ (s'.1 = ((i + 1 : Nat) : Int) ∧ s'.2.length = i + 1 ∧ ∀ p' ∈ s'.2, ∃ p ∈ c.Pairs, PairOk o p p') := by
      intro n hn hnb
      obtain ⟨p', e3, f1, f2, f3⟩ := went_k6 bits hb i (by omega) l1 (by omega) c.Pairs[i] (by omega) n hnb
      refine ⟨_, e3, rfl, by simp [hlen], fun p hp => ?_⟩
      rcases List.mem_append.1 hp with hp | hp
      · exact hall p hp
      · have := List.mem_singleton.1 hp
        subst this
        refine ⟨_, hmem, f1, ?_, f3⟩
        rw [← hn]; exact f2
    by_cases hoth : c.Pairs[i].Other ≥ 0
    · obtain ⟨r2, e3, e4⟩ := off_idx hs (k := c.Pairs[i].Other) (h := c.Pairs[i].Hour) (by omega) (by omega) (by omega) (by omega)
      have b2 := hrr c.Pairs[i].Other c.Pairs[i].Hour (by omega) (by omega) (by omega) (by omega)
      have ewr : wr (off o c.Pairs[i].One c.Pairs[i].Hour - off o c.Pairs[i].Other c.Pairs[i].Hour) = off o c.Pairs[i].One c.Pairs[i].Hour - off o c.Pairs[i].Other c.Pairs[i].Hour := wr_id' (by omega) (by omega)
      simp only [remontoirlaw02_went_b5, hd, cond_true, idx_get hi, bind_s, e1, e2, decide_eq_true hoth, e3, e4, ewr]
      exact key _ (by rw [if_pos hoth]) (by omega)
    · simp only [remontoirlaw02_went_b5, hd, cond_true, idx_get hi, bind_s, e1, e2, decide_eq_false hoth, cond_false]
      exact key _ (by rw [if_neg hoth]; omega) (by omega)
  · rintro ⟨s1, l1⟩ ⟨h0, hlen, hall⟩
    simp only at h0 hlen hall
    subst h0
    have hd : decide ((c.Pairs.length : Int) < (c.Pairs.length : Int)) = false := by simp
    exact ⟨_, by simp only [remontoirlaw02_went_b5, hd, cond_false], l1, rfl, hlen, hall⟩

theorem getD_appL {o : List (List Int)} {r : List Int} {j : Nat} : (o ++ [r]).getD j [] = if j < o.length then o.getD j [] else if j = o.length then r else [] := by
  simp only [List.getD_eq_getElem?_getD, List.getElem?_append]
  split
  · rfl
  · next h =>
    by_cases e : j = o.length
    · simp [e]
    · rw [if_neg e, List.getElem?_eq_none (by simp; omega)]; rfl

theorem went_eq {c : BeatCellar} (hx : goodB c = true) (bits : List Int) (hb : (bits.length : Int) ≤ 9223372036854775807) :
    ∃ o ps, remontoirlaw02_went c bits = some (o, ⟨c.Hours, c.Rates, c.Opens.map clip, ps⟩) ∧ ps.length = c.Pairs.length ∧ (∀ p' ∈ ps, ∃ p ∈ c.Pairs, PairOk o p p') ∧ shapeB c o = true ∧
      ∀ k, k < c.Rates.length → ∃ now, RowOk c (c.Opens.map clip) k (o.getD k []) c.Hours.toNat now := by
  have hC := OkC.of hx
  have hw := hC.w
  have hh1 := hC.h1
  have hh2 := hC.h2
  have k2 := hC.k2
  have o2 := hC.o2
  unfold remontoirlaw02_went
  have hrun := loopU_run0 (body := remontoirlaw02_went_b1 c bits) (fun i => ((i : Int), (c.Opens.take i).map clip)) c.Opens.length (fun i hi => by
    have hd : decide ((i : Int) < (c.Opens.length : Int)) = true := by simp; omega
    have wi : wr ((i : Int) + 1) = ((i + 1 : Nat) : Int) := wr_id' (by omega) (by omega)
    simp only [remontoirlaw02_went_b1, hd, cond_true, idx_get hi, bind_s, remontoirref00_To, wi]
    rw [if_pos (by simp only [List.length_map, List.length_take, List.length_cons, List.length_nil, lim]; omega), List.take_succ_eq_append_getElem hi, List.map_append]
    rfl)
  simp only [List.take_zero, List.map_nil, Int.natCast_zero, List.take_length] at hrun
  have hlo : (c.Opens.map clip).length ≤ 6 := by simpa using o2
  have hclip : ∀ q ∈ c.Opens.map clip, -500 ≤ q.Step.Low ∧ q.Step.Low ≤ q.Step.High ∧ q.Step.High ≤ 500 := by
    intro q hq
    obtain ⟨q0, hq0, rfl⟩ := List.mem_map.1 hq
    have := good_opens hx q0 hq0
    simp only [openB, spanB, Bool.and_eq_true, decide_eq_true_eq] at this
    have h1 := clamp_in q0.Step.Low
    have h2 := clamp_in q0.Step.High
    have h3 := clamp_mono this.2.1.2
    simp only [clip]; omega
  have hmain : ∃ o ps, loopU (remontoirlaw02_went_b2 c bits (c.Opens.map clip)) (([] : List (List Int)), 0) = some (o, ⟨c.Hours, c.Rates, c.Opens.map clip, ps⟩) ∧ ps.length = c.Pairs.length ∧ (∀ p' ∈ ps, ∃ p ∈ c.Pairs, PairOk o p p') ∧ shapeB c o = true ∧
      ∀ k, k < c.Rates.length → ∃ now, RowOk c (c.Opens.map clip) k (o.getD k []) c.Hours.toNat now := by
    refine loopU_for (s := (([] : List (List Int)), (0 : Int))) (Inv := fun k s => s.2 = (k : Int) ∧ s.1.length = k ∧ ∀ j, j < k → ∃ now, RowOk c (c.Opens.map clip) j (s.1.getD j []) c.Hours.toNat now) c.Rates.length
      (Post := fun (q : Option (List (List Int) × BeatCellar)) => ∃ o ps, q = some (o, ⟨c.Hours, c.Rates, c.Opens.map clip, ps⟩) ∧ ps.length = c.Pairs.length ∧ (∀ p' ∈ ps, ∃ p ∈ c.Pairs, PairOk o p p') ∧ shapeB c o = true ∧
        ∀ k, k < c.Rates.length → ∃ now, RowOk c (c.Opens.map clip) k (o.getD k []) c.Hours.toNat now) ⟨rfl, rfl, fun j hj => by omega⟩ ?_ ?_
    · rintro k ⟨out, s2⟩ hk ⟨h0, hlen, hall⟩
      simp only at h0 hlen hall
      subst h0
      have hd : decide ((k : Int) < (c.Rates.length : Int)) = true := by simp; omega
      obtain ⟨v1, ev1⟩ := At_any bits hb (k : Int)
      obtain ⟨v2, ev2, g1, g2⟩ := From_in ⟨-1000, 1000⟩ v1 (by decide) (by decide) (by decide)
      simp only at g1 g2
      obtain ⟨row, now, e1, hro⟩ := went_b3 hx bits hb (c.Opens.map clip) hlo hclip hk out (by omega) v2 ⟨g1, g2⟩
      refine ⟨(out ++ [row], ((k + 1 : Nat) : Int)), ?_, rfl, by simp [hlen], fun j hj => ?_⟩
      · simp only [remontoirlaw02_went_b2, hd, cond_true, remontoirref00_To, bind_s, ev1, ev2]
        exact e1
      · simp only
        rw [getD_appL, hlen]
        by_cases hj2 : j < k
        · rw [if_pos hj2]; exact hall j hj2
        · have : j = k := by omega
          subst this
          rw [if_neg hj2, if_pos rfl]
          exact ⟨now, hro⟩
    · rintro ⟨out, s2⟩ ⟨h0, hlen, hall⟩
      simp only at h0 hlen hall
      subst h0
      have hd : decide ((c.Rates.length : Int) < (c.Rates.length : Int)) = false := by simp
      have hs : shapeB c out = true := by
        simp only [shapeB, Bool.and_eq_true, decide_eq_true_eq]
        refine ⟨hlen, List.all_eq_true.2 fun r hr => ?_⟩
        obtain ⟨j, hj, rfl⟩ := List.mem_iff_getElem.1 hr
        obtain ⟨now, hro⟩ := hall j (by omega)
        have e : out.getD j [] = out[j] := by simp [hj]
        rw [e] at hro
        have := hro.len
        rw [decide_eq_true_eq]; simp only [wid]; omega
      have hrng : ∀ k h : Nat, k < c.Rates.length → h < wid c → -50000 ≤ off out k h ∧ off out k h ≤ 50000 := by
        intro k h hk hh
        obtain ⟨now, hro⟩ := hall k hk
        have hle : h ≤ c.Hours.toNat := by simp only [wid] at hh; omega
        have := hro.bnd h hle
        simp only [off, Int.toNat_natCast]
        omega
      obtain ⟨ps, e1, e2, e3⟩ := went_b5 hx bits hb (c.Opens.map clip) hs hrng
      exact ⟨_, by simp only [remontoirlaw02_went_b2, hd, cond_false], out, ps, e1, e2, e3, hs, hall⟩
  obtain ⟨o, ps, e, rest⟩ := hmain
  refine ⟨o, ps, ?_, rest⟩
  refine hrun.trans (loopU_ext ?_)
  have hd : decide ((c.Opens.length : Int) < (c.Opens.length : Int)) = false := by simp
  simp only [remontoirlaw02_went_b1, hd, cond_false, e]

theorem wrongF_head {c : BeatCellar} (h : canB c 0 = true) : wrongF c = some ([], 0) := by
  unfold wrongF allc
  rw [List.range_succ_eq_map, List.flatMap_cons]
  simp only [cands, List.cons_append, List.nil_append, List.find?_cons, h]

theorem pure_7 (c : BeatCellar) (bits : (List Int)) (n : Arr4) (hc : Ok_BeatCellar c) (hbits : OkL InR bits) (_ : Ok_Arr4 n) : remontoirlaw02_BeatTrue c bits n = some true := by
  unfold remontoirlaw02_BeatTrue
  simp only [sound_eq c hc, bind_s]
  cases hx : goodB c with
  | false => simp [works_eq]
  | true =>
    have hC := OkC.of hx
    have h1 := hC.h1
    have h2 := hC.h2
    have k1 := hC.k1
    have k2 := hC.k2
    have o2 := hC.o2
    have p2 := hC.p2
    have hw := hC.w
    have wh : wr (c.Hours + 1) = c.Hours + 1 := wr_id' (by omega) (by omega)
    obtain ⟨o, ps, ew, hplen, hpairs, hsc, hrows⟩ := went_eq hx bits hbits.1
    obtain ⟨k, ek, k3, k4⟩ := Rest_in n.a0 (by_ := (c.Rates.length : Int)) (by omega) (by omega)
    obtain ⟨i, ei, i1, i2⟩ := Rest_in n.a1 (by_ := (c.Rates.length : Int)) (by omega) (by omega)
    obtain ⟨h, eh, h3, h4⟩ := Rest_in n.a2 (by_ := c.Hours + 1) (by omega) (by omega)
    obtain ⟨g, eg, g1, g2⟩ := Rest_in n.a3 (by_ := c.Hours + 1) (by omega) (by omega)
    simp only [Bool.not_true, cond_false, ew, bind_s, wh, ek, ei, eh, eg]
    generalize hxd : (⟨c.Hours, c.Rates, c.Opens.map clip, ps⟩ : BeatCellar) = x
    have xH : x.Hours = c.Hours := by rw [← hxd]
    have xR : x.Rates = c.Rates := by rw [← hxd]
    have xO : x.Opens = c.Opens.map clip := by rw [← hxd]
    have xP : x.Pairs = ps := by rw [← hxd]
    have hgx : goodB x = true := by
      refine good_mk (by rw [xH]; exact ⟨h1, h2⟩) (by rw [xR]; exact ⟨k1, k2⟩) (by rw [xO, List.length_map]; exact o2) (by rw [xP]; omega) (fun r hr => good_rates hx r (xR ▸ hr)) (fun q hq => ?_) (fun p' hp => ?_)
      · rw [xO] at hq
        obtain ⟨q0, hq0, rfl⟩ := List.mem_map.1 hq
        have := good_opens hx q0 hq0
        simp only [openB, inB, spanB, Bool.and_eq_true, decide_eq_true_eq] at this ⊢
        have c1 := clamp_in q0.Step.Low
        have c2 := clamp_in q0.Step.High
        have c3 := clamp_mono this.2.1.2
        rw [xR, xH]
        simp only [clip]
        omega
      · rw [xP] at hp
        obtain ⟨p, hpm, ⟨f1, f2, f3⟩, ⟨f4, f5⟩, f6, f7⟩ := hpairs p' hp
        obtain ⟨q1, q2, q3, q4, q5⟩ := pair_ok hx hpm
        simp only [pairB, inB, spanB, Bool.and_eq_true, decide_eq_true_eq, bne_iff_ne]
        rw [xR, xH, f1, f2, f3]
        omega
    have hcx : Ok_BeatCellar x := by
      have hi : ∀ n : Int, -1000000000 ≤ n ∧ n ≤ 1000000000 → InR n := fun n h => inr_small h.1 h.2
      refine ⟨hi _ (by rw [xH]; omega), by rw [xR]; exact hc.2.1, ⟨by rw [xO, List.length_map]; omega, fun q hq => ?_⟩, ⟨by rw [xP]; omega, fun p' hp => ?_⟩⟩
      · have := good_opens hgx q hq
        simp only [openB, inB, spanB, Bool.and_eq_true, decide_eq_true_eq] at this
        rw [xR, xH] at this
        exact ⟨hi _ (by omega), hi _ (by omega), hi _ (by omega), hi _ (by omega)⟩
      · have := pair_ok hgx hp
        rw [xR, xH] at this
        exact ⟨hi _ (by omega), hi _ (by omega), hi _ (by omega), hi _ (by omega), hi _ (by omega)⟩
    have ewid : wid x = wid c := (nd_same xH).2
    have hsx : shapeB x o = true := by
      simp only [shapeB, ewid, xR] at hsc ⊢; exact hsc
    have hfit : Fits x 0 (off o) 0 := by
      refine ⟨fun k hk h hh => ?_, fun p' hp _ => ?_, fun k hk h hh => ?_⟩
      · rw [xR] at hk
        rw [xH] at hh
        obtain ⟨now, hro⟩ := hrows k hk
        have := hro.gr h (by omega)
        have eg : growsSpan x (x.Rates.getD k ⟨0, 0⟩) (k : Int) (h : Int) = gS c (c.Opens.map clip) k h := by rw [← hxd]; rfl
        rw [eg]
        have e1 : off o (k : Int) ((h : Int) + 1) = (o.getD k []).getD (h + 1) 0 := by
          have : ((h : Int) + 1).toNat = h + 1 := by omega
          simp only [off, Int.toNat_natCast, this]
        have e2 : off o (k : Int) (h : Int) = (o.getD k []).getD h 0 := by simp only [off, Int.toNat_natCast]
        rw [e1, e2]
        exact this
      · rw [xP] at hp
        obtain ⟨p, hpm, ⟨f1, f2, f3⟩, f4, _⟩ := hpairs p' hp
        rw [f1, f2, f3]
        exact f4
      · rw [xR] at hk
        rw [xH] at hh
        obtain ⟨now, hro⟩ := hrows k hk
        have := hro.bnd h (by omega)
        simp only [off, Int.toNat_natCast]
        omega
    have hok := range_ok hgx hsx (range_of hgx hsx hfit)
    have htr := (truth_iff hgx o).2 ⟨hsx, hfit⟩
    have hF := (fits_F hgx).1 hfit
    have hcan : Can x 0 := ⟨_, hF⟩
    have hb := (canB_iff hgx 0).2 hcan
    have xRl : x.Rates.length = c.Rates.length := by rw [xR]
    have skh := spot_in (c := x) (k := k) (h := h) k3 (by omega) h3 (by omega)
    have sih := spot_in (c := x) (k := i) (h := h) i1 (by omega) h3 (by omega)
    have skg := spot_in (c := x) (k := k) (h := g) k3 (by omega) g1 (by omega)
    have nkh := (spotB_ok skh).2.1
    have nih := (spotB_ok sih).2.1
    have nkg := (spotB_ok skg).2.1
    have n0 : 0 < cnt x := by simp only [cnt]; omega
    have ev : ∀ k h : Int, 0 ≤ k → 0 ≤ h → h < wid c → xo x (off o) 0 (nd x k h) = off o k h := by
      intro k h a1 a2 a3
      have := xo_nd (c := x) (off o) 0 (k := k.toNat) (h := h.toNat) (by omega)
      rwa [Int.toNat_of_nonneg a1, Int.toNat_of_nonneg a2] at this
    have ez : xo x (off o) 0 0 = 0 := by simp [xo]
    have t1 := told_in hgx hF nkh n0
    have t2 := told_in hgx hF nkh nih
    have t3 := told_in hgx hF nkg nkh
    rw [ev k h k3 h3 (by omega), ez] at t1
    rw [ev k h k3 h3 (by omega), ev i h i1 h3 (by omega)] at t2
    rw [ev k g k3 g1 (by omega), ev k h k3 h3 (by omega)] at t3
    have hrng := range_of hgx hsx hfit
    have r1 := off_range hrng k h
    have r2 := off_range hrng i h
    have r3 := off_range hrng k g
    obtain ⟨l1, i1a, i1b⟩ := off_idx hsc (k := k) (h := h) k3 k4 h3 (by omega)
    obtain ⟨l2, i2a, i2b⟩ := off_idx hsc (k := i) (h := h) i1 i2 h3 (by omega)
    obtain ⟨l3, i3a, i3b⟩ := off_idx hsc (k := k) (h := g) k3 k4 g1 (by omega)
    have q1 : remontoirref00_Has (told x 0 (nd x k h) 0) (off o k h) = some true := by
      rw [Has_eq]; congr 1; simp only [hasB, inB, Bool.and_eq_true, decide_eq_true_eq]; omega
    have q2 : remontoirref00_Has (told x 0 (nd x k h) (nd x i h)) (wr (off o k h - off o i h)) = some true := by
      rw [Has_eq, wr_id' (by omega) (by omega)]; congr 1; simp only [hasB, inB, Bool.and_eq_true, decide_eq_true_eq]; omega
    have q3 : remontoirref00_Has (told x 0 (nd x k g) (nd x k h)) (wr (off o k g - off o k h)) = some true := by
      rw [Has_eq, wr_id' (by omega) (by omega)]; congr 1; simp only [hasB, inB, Bool.and_eq_true, decide_eq_true_eq]; omega
    have a1 : beat_Offset x k h = some (told x 0 (nd x k h) 0, 0) := by rw [Offset_eq x hcx, skh, ans_good hgx, hb, if_pos rfl]
    have a2 : beat_Apart x k i h = some (told x 0 (nd x k h) (nd x i h), 0) := by rw [Apart_eq x hcx, skh, sih, Bool.and_self, ans_good hgx, hb, if_pos rfl]
    have a3 : beat_Drift x k h g = some (told x 0 (nd x k g) (nd x k h), 0) := by rw [Drift_eq x hcx, skh, skg, Bool.and_self, ans_good hgx, hb, if_pos rfl]
    have a4 : beat_Wrong x = some ([], 0) := by rw [Wrong_eq x hcx, hgx, if_pos rfl, wrongF_head hb]
    have a5 : beat_IsTruth x o = some (true, 0) := by rw [IsTruth_eq x hcx o hok, hgx, if_pos rfl, htr]
    have i3c := i3b
    rw [i1a] at i3a
    injection i3a with i3a
    subst i3a
    simp [a1, a2, a3, a4, a5, bind_s, i1a, i1b, i2a, i2b, i3b, q1, q2, q3, works_eq]
end Go.Proofs.YtpniidbbbhbglaaDoor.Rt
