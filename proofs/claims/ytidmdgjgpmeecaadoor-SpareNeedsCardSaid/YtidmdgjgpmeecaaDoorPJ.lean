/- Plain laws of the spare seat: small questions; stores for other hours. Under the conditions that each names. -/
import Derived.Test.YtidmdgjgpmeecaaDoorPI
set_option linter.unusedVariables false
set_option linter.unusedSimpArgs false
set_option maxRecDepth 100000
set_option maxHeartbeats 4000000
namespace Go.Proofs.YtidmdgjgpmeecaaDoor.Rt
open Go Go.RowKit

theorem rest_any (n : Int) {by_ : Int} (h : 0 < by_) (h2 : by_ ≤ 9223372036854775807) : ∃ r, remontoirref00_Rest n by_ = some r ∧ 0 ≤ r ∧ r < by_ := by
  unfold remontoirref00_Rest
  rw [if_pos (by omega)]
  have e := Int.tmod_eq_emod (a := n) (b := by_)
  have h0 := Int.emod_nonneg n (show by_ ≠ 0 by omega)
  have h1 := Int.emod_lt_of_pos n h
  have e2 : (by_.natAbs : Int) = by_ := by omega
  by_cases ht : n.tmod by_ < 0
  · rw [decide_eq_true ht, cond_true]
    unfold remontoirref00_Rest_k1
    refine ⟨_, rfl, ?_⟩
    rw [e] at ht ⊢
    split at ht
    · omega
    · next hn =>
      rw [if_neg hn, e2, wr_id' (by omega) (by omega)]
      omega
  · rw [decide_eq_false ht, cond_false]
    unfold remontoirref00_Rest_k1
    refine ⟨_, rfl, by omega, ?_⟩
    rw [e]
    split <;> omega
theorem At_any (l : List Int) (hl : (l.length : Int) ≤ 9223372036854775807) (n : Int) : ∃ v, remontoirref00_At l n = some v := by
  unfold remontoirref00_At
  by_cases h : l.length = 0
  · have : ((l.length : Int) == 0) = true := by rw [beq_iff_eq]; omega
    rw [this]; exact ⟨0, rfl⟩
  · have e : ((l.length : Int) == 0) = false := by rw [beq_eq_false_iff_ne]; omega
    obtain ⟨r, e1, e2, e3⟩ := rest_any n (by_ := (l.length : Int)) (by omega) hl
    rw [e, cond_false, e1, bind_s, idx_int e2 e3]
    exact ⟨_, rfl⟩
theorem From_in (s : Span) (n : Int) (h1 : -1000000 ≤ s.Low) (h2 : s.Low ≤ s.High) (h3 : s.High ≤ 1000000) : ∃ v, remontoirref00_From s n = some v ∧ s.Low ≤ v ∧ v ≤ s.High := by
  unfold remontoirref00_From
  by_cases h : s.High ≤ s.Low
  · rw [decide_eq_true h, cond_true]
    exact ⟨s.Low, rfl, by omega, by omega⟩
  · rw [decide_eq_false h, cond_false]
    have e : wr (wr (s.High - s.Low) + 1) = s.High - s.Low + 1 := by
      have : wr (s.High - s.Low) = s.High - s.Low := wr_id' (by omega) (by omega)
      rw [this, wr_id' (by omega) (by omega)]
    rw [e]
    have hd : decide (s.High - s.Low + 1 < 1) = false := by simp; omega
    obtain ⟨r, e1, e2, e3⟩ := rest_any n (by_ := s.High - s.Low + 1) (by omega) (by omega)
    rw [hd, cond_false, e1, bind_s]
    refine ⟨_, rfl, ?_⟩
    rw [wr_id' (by omega) (by omega)]
    omega
theorem Rest_zero (d : Int) (h : 0 < d) (h2 : d ≤ 9223372036854775807) (n : Int) : remontoirref00_Rest n d = remontoirref00_Rest n d := rfl

theorem loop_find (l : List Int) (n : Int) (hl : (l.length : Int) ≤ 9223372036854775807) : ∃ r, remontoirref00_Find l n = some r ∧ decide (r ≥ 0) = l.any (· == n) := by
  have key : ∀ (k i : Nat), i + k = l.length → ∃ r, loopU (remontoirref00_Find_b1 l n) (0, (i : Int)) = some r ∧ decide (r ≥ 0) = (l.drop i).any (· == n) := by
    intro k
    induction k with
    | zero =>
      intro i h
      have e : i = l.length := by omega
      subst e
      refine ⟨-1, loopU_ext ?_, ?_⟩
      · simp only [remontoirref00_Find_b1, lt_f, cond_false]
      · simp
    | succ k ih =>
      intro i h
      have hi : i < l.length := by omega
      rw [← List.getElem_cons_drop hi, List.any_cons]
      have hb : remontoirref00_Find_b1 l n (0, (i : Int)) = cond (l[i] == n) (ext (some (i : Int))) (nxt (0, ((i + 1 : Nat) : Int))) := by
        simp only [remontoirref00_Find_b1, lt_t hi, cond_true, idx_get hi, bind_s]
        rw [wr_id' (by omega) (by omega)]; rfl
      cases hc : l[i] == n with
      | true =>
        rw [hc] at hb
        exact ⟨(i : Int), loopU_ext hb, by simp⟩
      | false =>
        rw [hc] at hb
        rw [loopU_nxt hb]
        exact ih (i + 1) (by omega)
  obtain ⟨r, h1, h2⟩ := key l.length 0 (by omega)
  exact ⟨r, h1, by rw [h2, List.drop_zero]⟩
def climbD (K : Nat) : Int → List Int → Bool
  | _, [] => true
  | least, x :: xs => decide (least ≤ x) && decide (x < K) && climbD K (x + 1) xs
theorem Climbs_eq (K : Nat) (hK : K ≤ 1000) (l : List Int) (hl : l.length ≤ 1000) (h : climbD K 0 l = true) : remontoirref00_Climbs l (K : Int) = some true := by
  have key : ∀ (m i : Nat) (least : Int), 0 ≤ least → i + m = l.length → climbD K least (l.drop i) = true → loopU (remontoirref00_Climbs_b1 l (K : Int)) (false, least, (i : Int)) = some true := by
    intro m
    induction m with
    | zero =>
      intro i least _ hi _
      have hd : decide ((i : Int) < (l.length : Int)) = false := by simp; omega
      exact loopU_ext (by simp only [remontoirref00_Climbs_b1, hd, cond_false])
    | succ m ih =>
      intro i least h0 hi hcl
      have hi' : i < l.length := by omega
      have hd : decide ((i : Int) < (l.length : Int)) = true := by simp; omega
      have wi : wr ((i : Int) + 1) = ((i + 1 : Nat) : Int) := wr_id' (by omega) (by omega)
      have wK : wr ((K : Int) - 1) = (K : Int) - 1 := wr_id' (by omega) (by omega)
      rw [← List.getElem_cons_drop hi'] at hcl
      simp only [climbD, Bool.and_eq_true, decide_eq_true_eq] at hcl
      have we : wr (l[i] + 1) = l[i] + 1 := wr_id' (by omega) (by omega)
      have hin : inB l[i] least ((K : Int) - 1) = true := by simp only [inB, Bool.and_eq_true, decide_eq_true_eq]; omega
      rw [loopU_nxt (s' := (false, l[i] + 1, ((i + 1 : Nat) : Int))) (by
        simp only [remontoirref00_Climbs_b1, hd, cond_true, idx_get hi', bind_s, Lies_eq, wK, hin, Bool.not_true, cond_false, wi, we])]
      exact ih (i + 1) _ (by omega) (by omega) hcl.2
  have := key l.length 0 0 (by omega) (by omega) (by simpa using h)
  simpa [remontoirref00_Climbs] using this
/-- what is chosen out of the numbers below one climbs -/
theorem climb_filter (K : Nat) (p : Nat → Bool) : ∀ (m k : Nat) (least : Int), k + m = K → least ≤ (k : Int) → climbD K least (((List.range' k m).filter p).map fun (h : Nat) => (h : Int)) = true
  | 0, _, _, _, _ => rfl
  | m + 1, k, least, hk, hle => by
    rw [List.range'_succ, List.filter_cons]
    split
    · simp only [List.map_cons, climbD, Bool.and_eq_true, decide_eq_true_eq]
      exact ⟨⟨hle, by omega⟩, climb_filter K p m (k + 1) _ (by omega) (by omega)⟩
    · exact climb_filter K p m (k + 1) least (by omega) (by omega)
theorem any_filter (p : Nat → Bool) (m : Nat) (h : Nat) : ((((List.range m).filter p).map fun (h : Nat) => (h : Int)).any (· == (h : Int))) = (decide (h < m) && p h) := by
  rw [Bool.eq_iff_iff, List.any_eq_true]
  simp only [List.mem_map, List.mem_filter, List.mem_range, beq_iff_eq, Bool.and_eq_true, decide_eq_true_eq]
  constructor
  · rintro ⟨x, ⟨a, ⟨h1, h2⟩, rfl⟩, e⟩
    have : a = h := by omega
    subst this; exact ⟨h1, h2⟩
  · rintro ⟨h1, h2⟩; exact ⟨(h : Int), ⟨h, ⟨h1, h2⟩, rfl⟩, rfl⟩

/-! ## other hours -/
theorem bestOf_store {s s' : SpareStore} (hm : s'.Machines = s.Machines) (len : SpareMachine → Int) (f : Nat → Int) (t : Nat) (b0 : Int) (m : Nat) : bestOf s' len f t b0 m = bestOf s len f t b0 m := by
  have : mach s' = mach s := by funext k; simp only [mach, hm]
  induction m with
  | zero => rfl
  | succ m ih =>
    rw [bestOf_succ, bestOf_succ, ih]
    unfold stepK candB valF
    rw [this]
theorem far_store {s s' : SpareStore} (hm : s'.Machines = s.Machines) (hg : s'.Gap = s.Gap) (t : Nat) : far s' t = far s t := by
  induction t using Nat.strongRecOn with
  | ind t ih =>
    rw [far_eq, far_eq, bestOf_store hm, bestOf_congr ih, hg, hm]
theorem tell_store {s s' : SpareStore} (hm : s'.Machines = s.Machines) (hg : s'.Gap = s.Gap) (t : Nat) : tell s' t = tell s t := by
  unfold tell tellP
  rw [bestOf_store hm, bestOf_congr (fun u _ => far_store hm hg u), hm]
theorem reach_store {s s' : SpareStore} (hm : s'.Machines = s.Machines) (hg : s'.Gap = s.Gap) : reachN s' = reachN s := by
  unfold reachN sets
  rw [hm, show tell s' = tell s from funext (tell_store hm hg)]
theorem few_reach {s : SpareStore} (hs : OkS s) : fewF s ≠ 100 ↔ s.Hours ≤ reachN s := by
  have h1 := hs.h1
  obtain ⟨r1, r2, r3⟩ := maxF_spec (tell s) (sets s)
  rcases minF_spec (okB s) (sets s) (sets8 hs) with ⟨a, b⟩ | ⟨a, ⟨t, ht, hp, e⟩, c⟩
  · constructor
    · intro h; exact absurd a h
    · intro h
      rcases r3 with r3 | ⟨t, ht, r3⟩
      · have : reachN s = 0 := r3
        omega
      · have h2 := b t ht
        have : reachN s = tell s t := r3
        simp only [okB, decide_eq_false_iff_not] at h2; omega
  · constructor
    · intro _
      have := r2 t ht
      simp only [okB, decide_eq_true_eq] at hp
      have : reachN s = maxF (tell s) (sets s) := rfl
      omega
    · intro _ h
      have : minF (okB s) (sets s) = 100 := h
      omega
theorem dec_popn : ∀ n < 9, ∀ t < 2 ^ n, popc t ≤ n := by decide +kernel
theorem few_le {s : SpareStore} (hs : OkS s) (h : fewF s ≠ 100) : 1 ≤ fewF s ∧ fewF s ≤ s.Machines.length := by
  have hc := few_cases hs
  refine ⟨by omega, ?_⟩
  rcases minF_spec (okB s) (sets s) (sets8 hs) with ⟨a, b⟩ | ⟨a, ⟨t, ht, hp, e⟩, c⟩
  · exact absurd a h
  · have h2 := dec_popn s.Machines.length (by have := hs.n2; omega) t ht
    have : fewF s = minF (okB s) (sets s) := rfl
    omega
theorem reach_ge (s : SpareStore) : 0 ≤ reachN s := (maxF_spec (tell s) (sets s)).1
theorem reach_le {s : SpareStore} (hs : OkS s) : reachN s ≤ 4500 := by
  have h8 := sets8 hs
  rcases (maxF_spec (tell s) (sets s)).2.2 with h | ⟨t, ht, h⟩
  · have : reachN s = 0 := h
    omega
  · have : reachN s = tell s t := h
    have := tell_le hs (t := t) (by omega)
    omega
theorem OkS.hours {s : SpareStore} (hs : OkS s) {h : Int} (h1 : 1 ≤ h) (h2 : h ≤ 500) : OkS ⟨h, s.Gap, s.Machines⟩ := ⟨h1, h2, hs.g1, hs.g2, hs.n1, hs.n2, hs.m⟩
theorem ok_mk {h g : Int} {m : List SpareMachine} (h1 : -1000 ≤ h) (h2 : h ≤ 10000) (h3 : -1000 ≤ g) (h4 : g ≤ 10000) (hm : OkL Ok_SpareMachine m) : Ok_SpareStore ⟨h, g, m⟩ := ⟨inr_small (n := h) (by omega) (by omega), inr_small (n := g) (by omega) (by omega), hm⟩
theorem fewest_good {s : SpareStore} (hs : OkS s) : fewestF s = if fewF s = 100 then (0, 4) else (fewF s, 0) := by unfold fewestF; rw [hs.good]; rfl
theorem reach_good {s : SpareStore} (hs : OkS s) : reachF s = (reachN s, 0) := by unfold reachF; rw [hs.good]; rfl
theorem wr_in (n : Int) : InR (wr n) := by
  have e : wr n = if (true && decide (n % 18446744073709551616 ≥ 9223372036854775808)) = true then n % 18446744073709551616 - 18446744073709551616 else n % 18446744073709551616 := rfl
  rw [e]
  simp only [Bool.true_and, decide_eq_true_eq]
  have h0 := Int.emod_nonneg n (show (18446744073709551616 : Int) ≠ 0 by decide)
  have h1 := Int.emod_lt_of_pos n (show (0 : Int) < 18446744073709551616 by decide)
  constructor <;> split <;> omega
end Go.Proofs.YtidmdgjgpmeecaaDoor.Rt
