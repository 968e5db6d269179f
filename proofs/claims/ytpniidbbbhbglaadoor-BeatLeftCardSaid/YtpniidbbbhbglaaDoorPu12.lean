/- What the pure function of the law BeatLeft comes to. Under the conditions that the arguments are Go's. -/
import Derived.Test.YtpniidbbbhbglaaDoorL12
import Derived.Test.YtpniidbbbhbglaaDoorPT
set_option linter.unusedVariables false
set_option linter.unusedSimpArgs false
set_option maxRecDepth 100000
set_option maxHeartbeats 4000000
namespace Go.Proofs.YtpniidbbbhbglaaDoor.Rt
open Go Go.RowKit

theorem Find_eq (l : List Int) (n : Int) (hl : (l.length : Int) ≤ 9223372036854775807) : ∃ r, remontoirref00_Find l n = some r ∧ decide (r < 0) = !l.any (· == n) := by
  obtain ⟨r, h1, h2⟩ := loop_any l (· == n) (remontoirref00_Find_b1 l n) (fun i hi => by
    have hd : decide ((i : Int) < (l.length : Int)) = true := by simp; omega
    have wi : wr ((i : Int) + 1) = ((i + 1 : Nat) : Int) := wr_id' (by omega) (by omega)
    simp only [remontoirref00_Find_b1, hd, cond_true, idx_get hi, bind_s, wi]
    cases (l[i] == n) <;> rfl) (by
    have hd : decide ((l.length : Int) < (l.length : Int)) = false := by simp
    simp only [remontoirref00_Find_b1, hd, cond_false])
  refine ⟨r, h1, ?_⟩
  rw [← h2]
  by_cases h : r < 0
  · have : ¬ r ≥ 0 := by omega
    simp [h, this]
  · have : r ≥ 0 := by omega
    simp [h, this]

def keepB (l : List Int) (p : BeatPair) : Bool := !(l.any (· == p.One)) && (decide (p.Other < 0) || !(l.any (· == p.Other)))
def withoutX (c : BeatCellar) (l : List Int) : BeatCellar := ⟨c.Hours, c.Rates, c.Opens, c.Pairs.filter (keepB l)⟩
theorem without_eq (c : BeatCellar) (l : List Int) (hl : (l.length : Int) ≤ 9223372036854775807) (hp : c.Pairs.length ≤ 1000) : remontoirlaw02_without c l = some (withoutX c l) := by
  unfold remontoirlaw02_without
  have hrun := loopU_run0 (body := remontoirlaw02_without_b1 c l) (fun i => ((i : Int), (c.Pairs.take i).filter (keepB l))) c.Pairs.length (fun i hi => by
    have hd : decide ((i : Int) < (c.Pairs.length : Int)) = true := by simp; omega
    have wi : wr ((i : Int) + 1) = ((i + 1 : Nat) : Int) := wr_id' (by omega) (by omega)
    obtain ⟨r1, e1, e2⟩ := Find_eq l c.Pairs[i].One hl
    obtain ⟨r2, e3, e4⟩ := Find_eq l c.Pairs[i].Other hl
    have hlen : ((c.Pairs.take i).filter (keepB l)).length + ([c.Pairs[i]]).length ≤ lim := by
      have := List.length_filter_le (keepB l) (c.Pairs.take i)
      rw [List.length_take] at this
      simp only [List.length_cons, List.length_nil, lim]; omega
    simp only [remontoirlaw02_without_b1, hd, cond_true, idx_get hi, bind_s, wi, e1, e2, e3, e4, filter_take hi, cond_s, hlen, if_true, keepB]
    rcases Bool.eq_false_or_eq_true (l.any (· == c.Pairs[i].One)) with h1 | h1
    · simp [h1]
    · by_cases h2 : c.Pairs[i].Other < 0
      · simp [h1, h2]
      · rcases Bool.eq_false_or_eq_true (l.any (· == c.Pairs[i].Other)) with h3 | h3 <;> simp [h1, h2, h3])
  simp only [List.take_zero, List.filter_nil, Int.natCast_zero, List.take_length] at hrun
  refine hrun.trans (loopU_ext ?_)
  have hd : decide ((c.Pairs.length : Int) < (c.Pairs.length : Int)) = false := by simp
  simp only [remontoirlaw02_without_b1, hd, cond_false]
  rfl

theorem listN_any (s : Int) {K : Nat} {k : Int} (h1 : 0 ≤ k) (h2 : k < K) : (listN s K).any (· == k) = inSetB s k := by
  obtain ⟨n, rfl⟩ := Int.eq_ofNat_of_zero_le h1
  rw [Bool.eq_iff_iff, List.any_eq_true]
  constructor
  · rintro ⟨x, hx, he⟩
    simp only [beq_iff_eq] at he
    subst he
    simp only [listN, List.mem_map, List.mem_filter, List.mem_range] at hx
    obtain ⟨a, ⟨ha, hs⟩, e⟩ := hx
    have : a = n := by omega
    subst this; exact hs
  · intro h
    refine ⟨(n : Int), ?_, by simp⟩
    simp only [listN, List.mem_map, List.mem_filter, List.mem_range]
    exact ⟨n, ⟨by omega, h⟩, rfl⟩
theorem keep_iff {c : BeatCellar} (hx : goodB c = true) (s : Int) {p : BeatPair} (hp : p ∈ c.Pairs) : keepB (listN s c.Rates.length) p = !ofB s p := by
  obtain ⟨h1, h2, h3, h4, h5⟩ := pair_ok hx hp
  unfold keepB ofB
  rw [listN_any s (by omega) (by omega)]
  by_cases ho : p.Other ≥ 0
  · have h6 : ¬ p.Other < 0 := by omega
    rw [listN_any s ho (by omega)]
    simp [ho, h6]
  · have h6 : p.Other < 0 := by omega
    simp [ho, h6]
theorem in0 (k : Int) : inSetB 0 k = false := by
  unfold inSetB
  have : gshr 0 k = 0 := by simp [gshr]
  rw [this]; decide
theorem of0 (p : BeatPair) : ofB 0 p = false := by simp [ofB, in0]

theorem withoutX_good {c : BeatCellar} (hx : goodB c = true) (l : List Int) : goodB (withoutX c l) = true := by
  have hC := OkC.of hx
  refine good_mk (c := withoutX c l) ⟨hC.h1, hC.h2⟩ ⟨hC.k1, hC.k2⟩ hC.o2 ?_ (fun r hr => good_rates hx r hr) (fun q hq => good_opens hx q hq) (fun p hp => good_pairs hx p (List.mem_filter.1 hp).1)
  have := List.length_filter_le (keepB l) c.Pairs
  have := hC.p2
  simp only [withoutX]; omega
theorem withoutX_ok {c : BeatCellar} (hc : Ok_BeatCellar c) (l : List Int) : Ok_BeatCellar (withoutX c l) := by
  obtain ⟨q1, q2, q3, ⟨q4, q5⟩⟩ := hc
  refine ⟨q1, q2, q3, ⟨?_, fun p hp => q5 p (List.mem_filter.1 hp).1⟩⟩
  have := List.length_filter_le (keepB l) c.Pairs
  simp only [withoutX]; omega
theorem withoutX_F {c : BeatCellar} (hx : goodB c = true) (s : Int) (x : Nat → Int) : F (withoutX c (listN s c.Rates.length)) 0 x ↔ F c s x := by
  constructor
  · intro hf
    refine ⟨hf.g, fun p hp hl => ?_, hf.b⟩
    refine hf.r p (List.mem_filter.2 ⟨hp, ?_⟩) (of0 p)
    rw [keep_iff hx s hp, hl]; rfl
  · intro hf
    refine ⟨hf.g, fun p hp _ => ?_, hf.b⟩
    obtain ⟨h1, h2⟩ := List.mem_filter.1 hp
    rw [keep_iff hx s h1] at h2
    exact hf.r p h1 (by simpa using h2)
theorem withoutX_can {c : BeatCellar} (hx : goodB c = true) (s : Int) : canB (withoutX c (listN s c.Rates.length)) 0 = canB c s := canB_same hx (withoutX_good hx _) (withoutX_F hx s)

def climbD (K : Nat) : Int → List Int → Bool
  | _, [] => true
  | least, x :: xs => decide (least ≤ x) && decide (x < K) && climbD K (x + 1) xs
theorem Climbs_eq (K : Nat) (hK : K ≤ 100) (l : List Int) (hl : l.length ≤ 100) (h : climbD K 0 l = true) : remontoirref00_Climbs l (K : Int) = some true := by
  have key : ∀ (m i : Nat) (least : Int), 0 ≤ least → i + m = l.length → climbD K least (l.drop i) = true → loopU (remontoirref00_Climbs_b1 l (K : Int)) (false, least, (i : Int)) = some true := by
    intro m
    induction m with
    | zero =>
      intro i least _ hi _
      have hd : decide ((i : Int) < (l.length : Int)) = false := by simp; omega
      exact loopU_ext (by simp only [remontoirref00_Climbs_b1, hd, cond_false])
    | succ m ih =>
      intro i least h0 hi hcl
      have hi' : i < l.length := by omega
      have hd : decide ((i : Int) < (l.length : Int)) = true := by simp; omega
      have wi : wr ((i : Int) + 1) = ((i + 1 : Nat) : Int) := wr_id' (by omega) (by omega)
      have wK : wr ((K : Int) - 1) = (K : Int) - 1 := wr_id' (by omega) (by omega)
      rw [← List.getElem_cons_drop hi'] at hcl
      simp only [climbD, Bool.and_eq_true, decide_eq_true_eq] at hcl
      have we : wr (l[i] + 1) = l[i] + 1 := wr_id' (by omega) (by omega)
      have hin : inB l[i] least ((K : Int) - 1) = true := by simp only [inB, Bool.and_eq_true, decide_eq_true_eq]; omega
      rw [loopU_nxt (s' := (false, l[i] + 1, ((i + 1 : Nat) : Int))) (by
        simp only [remontoirref00_Climbs_b1, hd, cond_true, idx_get hi', bind_s, Lies_eq, wK, hin, Bool.not_true, cond_false, wi, we])]
      exact ih (i + 1) _ (by omega) (by omega) hcl.2
  have := key l.length 0 0 (by omega) (by omega) (by simpa using h)
  simpa [remontoirref00_Climbs] using this

def moreB (K : Nat) : Bool := ((allc K).all fun q => climbD K 0 q.1 && (decide (q.1 ≠ []) || decide (q.2 = 0))) && decide ((allc K).head? = some ([], 0))
theorem more1 : moreB 1 = true := by decide +kernel
theorem more2 : moreB 2 = true := by decide +kernel
theorem more3 : moreB 3 = true := by decide +kernel
theorem more4 : moreB 4 = true := by decide +kernel
theorem more5 : moreB 5 = true := by decide +kernel
theorem more_of {K : Nat} (h1 : 1 ≤ K) (h5 : K ≤ 5) : moreB K = true := by
  have : K = 1 ∨ K = 2 ∨ K = 3 ∨ K = 4 ∨ K = 5 := by omega
  rcases this with rfl | rfl | rfl | rfl | rfl
  · exact more1
  · exact more2
  · exact more3
  · exact more4
  · exact more5
theorem find_le {p : List Int × Int → Bool} : ∀ (L : List (List Int × Int)) (q : List Int × Int), L.find? p = some q → (L.map (·.2)).Nodup → ∀ r ∈ L, p r = true → L.findIdx (fun s => s.2 == q.2) ≤ L.findIdx (fun s => s.2 == r.2)
  | [], q, h, _, _, _, _ => by simp at h
  | a :: L, q, h, hn, r, hr, hpr => by
    rw [List.map_cons, List.nodup_cons] at hn
    rw [List.find?_cons] at h
    rw [List.findIdx_cons, List.findIdx_cons]
    cases hpa : p a with
    | true =>
      rw [hpa] at h
      injection h with h
      subst h
      simp
    | false =>
      rw [hpa] at h
      have hq := List.mem_of_find?_eq_some h
      have hne : ∀ s ∈ L, (a.2 == s.2) = false := fun s hs => by
        rw [beq_eq_false_iff_ne]
        intro e
        exact hn.1 (e ▸ List.mem_map_of_mem hs)
      have hr' : r ∈ L := by
        rcases List.mem_cons.1 hr with rfl | hr
        · rw [hpr] at hpa; cases hpa
        · exact hr
      rw [hne q hq, hne r hr']
      have := find_le L q h hn.2 r hr' hpr
      simp only [cond_false]
      omega

theorem offW {c : BeatCellar} (hc : Ok_BeatCellar c) (hx : goodB c = true) (s : Int) : ∃ sp, beat_Offset (withoutX c (listN s c.Rates.length)) 0 0 = some (sp, if canB c s = true then 0 else 22) := by
  have hC := OkC.of hx
  have h1 := hC.h1
  have k1 := hC.k1
  have hsp : spotB (withoutX c (listN s c.Rates.length)) 0 0 = true := by
    exact spot_in (c := withoutX c (listN s c.Rates.length)) (by omega) (by show (0 : Int) < (c.Rates.length : Int); omega) (by omega) (by show (0 : Int) ≤ c.Hours; omega)
  rw [Offset_eq _ (withoutX_ok hc _), hsp, ans_good (withoutX_good hx _), withoutX_can hx s]
  cases canB c s with
  | true => exact ⟨_, rfl⟩
  | false => exact ⟨_, rfl⟩

attribute [local irreducible] canB told mx
theorem pure_12 (c : BeatCellar) (set : Int) (hc : Ok_BeatCellar c) (_ : InR set) : remontoirlaw02_BeatLeft c set = some true := by
  unfold remontoirlaw02_BeatLeft
  simp only [sound_eq c hc, Wrong_eq c hc, bind_s]
  cases hx : goodB c with
  | false => simp [works_eq, bind_s]
  | true =>
    have hC := OkC.of hx
    have h1 := hC.h1
    have h2 := hC.h2
    have k1 := hC.k1
    have k2 := hC.k2
    have p2 := hC.p2
    have hF := facts_of k1 k2
    have hM := more_of k1 k2
    simp only [moreB, Bool.and_eq_true, List.all_eq_true, Bool.or_eq_true, decide_eq_true_eq] at hM
    have hpow : 2 ^ c.Rates.length ≤ 32 := Nat.pow_le_pow_right (by decide) k2
    have hpos : 0 < 2 ^ c.Rates.length := Nat.pow_pos (by decide)
    obtain ⟨s0, es, s1, s2⟩ := Rest_in set (by_ := ((2 ^ c.Rates.length : Nat) : Int)) (by omega) (by omega)
    obtain ⟨s, rfl⟩ := Int.eq_ofNat_of_zero_le s1
    have hs : s < 2 ^ c.Rates.length := by omega
    have hneg : ¬ (c.Rates.length : Int) < 0 := by omega
    have hsp : spotB c 0 0 = true := spot_in (by omega) (by omega) (by omega) (by omega)
    have hll := listN_len (s : Int) c.Rates.length
    obtain ⟨sp, hoff⟩ := offW hc hx (s : Int)
    simp only [Bool.not_true, cond_false, if_true, Offset_eq c hc, hsp, ans_good hx, bind_s, hneg, not_false_eq_true, gshl1 k2, es, List_eq _ _ (show c.Rates.length ≤ 1000 by omega), without_eq c _ (show ((listN (s : Int) c.Rates.length).length : Int) ≤ 9223372036854775807 by omega) (by omega), hoff]
    have hmems := hF.all s hs
    have hhead : canB c 0 = true → wrongF c = some ([], 0) := by
      intro h0
      unfold wrongF
      have := hM.2
      cases ha : allc c.Rates.length with
      | nil => rw [ha] at this; simp at this
      | cons a L =>
        rw [ha] at this
        simp only [List.head?_cons, Option.some.injEq] at this
        subst this
        rw [List.find?_cons]
        simp only [h0]
    cases hw : wrongF c with
    | none =>
      have hall : ∀ q ∈ allc c.Rates.length, canB c q.2 = false := by
        intro q hq
        unfold wrongF at hw
        rw [List.find?_eq_none] at hw
        simpa using hw q hq
      have e1 := hall (listN (s : Int) c.Rates.length, (s : Int)) hmems
      simp only at e1
      have e0 : canB c 0 = false := by
        rw [Bool.eq_false_iff]
        intro h
        rw [hhead h] at hw; cases hw
      simp [e0, e1, works_eq, bind_s]
    | some q =>
      have hq := List.mem_of_find?_eq_some hw
      have hcq : canB c q.2 = true := by
        have := List.find?_some hw
        simpa using this
      obtain ⟨m1, m2, m3⟩ := hF.mem q hq
      have hlq : q.1.length ≤ 5 := by rw [m3]; have := listN_len q.2 c.Rates.length; omega
      obtain ⟨sp2, hoff2⟩ := offW hc hx q.2
      rw [← m3, hcq, if_pos rfl] at hoff2
      have hcl := (hM.1 q hq).1
      have c0 : ((0 : Int) != 0) = false := by decide
      have hemp : ((q.1.length : Int) == 0) = canB c 0 := by
        by_cases h0 : canB c 0 = true
        · rw [hhead h0] at hw
          injection hw with hw
          rw [h0, ← hw]; rfl
        · have h0' : canB c 0 = false := by simpa using h0
          rw [h0']
          have : q.1 ≠ [] := by
            intro e
            rcases (hM.1 q hq).2 with h | h
            · exact h e
            · rw [h] at hcq; exact h0 hcq
          have := List.length_pos_iff.2 this
          simp; intro e; simp [e] at this
      have hprec : precB (listN (s : Int) c.Rates.length) q.1 = true → canB c (s : Int) = false := by
        intro hp
        rw [Bool.eq_false_iff]
        intro hcs
        have hle := find_le _ q hw hF.nd _ hmems hcs
        have hq2 : q.2 = ((q.2.toNat : Nat) : Int) := (Int.toNat_of_nonneg m1).symm
        rw [m3, hq2, hF.prec s q.2.toNat hs (by
          have : ((2 : Int) ^ c.Rates.length) = ((2 ^ c.Rates.length : Nat) : Int) := by simp
          omega)] at hp
        have hp2 := of_decide_eq_true hp
        rw [← hq2] at hp2
        unfold pos at hp2
        simp only at hle
        omega
      have hskip : (cond (decide (((listN (s : Int) c.Rates.length).length : Int) > (q.1.length : Int))) (some true) ((cond (((listN (s : Int) c.Rates.length).length : Int) == (q.1.length : Int)) ((remontoirref00_Ahead (listN (s : Int) c.Rates.length) q.1).bind fun rv_12 => some (!rv_12)) (some false)).bind fun t_2 => some t_2)) = some (!precB (listN (s : Int) c.Rates.length) q.1) := by
        rw [Ahead_eq _ _ (by omega), bind_s]
        unfold precB
        by_cases h1 : (listN (s : Int) c.Rates.length).length < q.1.length
        · have e1 : decide (((listN (s : Int) c.Rates.length).length : Int) > (q.1.length : Int)) = false := by simp; omega
          have e2 : (((listN (s : Int) c.Rates.length).length : Int) == (q.1.length : Int)) = false := by simp; omega
          rw [e1, e2, decide_eq_true h1]; rfl
        · by_cases h2 : (listN (s : Int) c.Rates.length).length = q.1.length
          · have e1 : decide (((listN (s : Int) c.Rates.length).length : Int) > (q.1.length : Int)) = false := by simp; omega
            have e2 : (((listN (s : Int) c.Rates.length).length : Int) == (q.1.length : Int)) = true := by simp; omega
            rw [e1, e2, decide_eq_false h1, decide_eq_true h2]
            cases aheadB (listN (s : Int) c.Rates.length) q.1 <;> rfl
          · have e1 : decide (((listN (s : Int) c.Rates.length).length : Int) > (q.1.length : Int)) = true := by simp; omega
            rw [e1, decide_eq_false h1, decide_eq_false h2]; rfl
      simp only [c0, cond_false, without_eq c q.1 (by omega) (by omega), bind_s, hoff2, Climbs_eq c.Rates.length (by omega) q.1 (by omega) hcl, hemp, hskip]
      have hf0 : ((if canB c 0 = true then (told c 0 (nd c 0 0) 0, (0 : Int)) else (⟨0, 0⟩, 22)).2 == 0) = canB c 0 := by cases canB c 0 <;> rfl
      rw [hf0]
      cases hp : precB (listN (s : Int) c.Rates.length) q.1 with
      | false => cases canB c 0 <;> cases canB c (s : Int) <;> simp [works_eq, bind_s]
      | true =>
        rw [hprec hp]
        cases canB c 0 <;> simp [works_eq, bind_s]
end Go.Proofs.YtpniidbbbhbglaaDoor.Rt
