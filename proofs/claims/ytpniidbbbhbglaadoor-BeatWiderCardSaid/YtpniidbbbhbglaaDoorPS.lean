/- Plain laws of the beat seat: cellars that are sound, numbers that choose, what is told of three. Under the conditions that each names. -/
import Derived.Test.YtpniidbbbhbglaaDoorPD
import Derived.Test.YtpniidbbbhbglaaDoorWSZ
set_option linter.unusedVariables false
set_option linter.unusedSimpArgs false
set_option maxRecDepth 100000
set_option maxHeartbeats 4000000
namespace Go.Proofs.YtpniidbbbhbglaaDoor.Rt
open Go Go.RowKit

theorem sound_eq (c : BeatCellar) (hc : Ok_BeatCellar c) : remontoirlaw02_sound c = some (goodB c) := by
  have hcc := hc
  obtain ⟨⟨hh1, hh2⟩, ⟨hR, _⟩, ⟨hO, _⟩, ⟨hP, _⟩⟩ := hcc
  have w1 : wr ((c.Rates.length : Int) - 1) = (c.Rates.length : Int) - 1 := wr_id' (by omega) (by omega)
  have f3 : loopU (remontoirlaw02_sound_b3 c) (false, 0) = some false := loopU_ext (by simp [remontoirlaw02_sound_b3])
  have f2 : loopU (remontoirlaw02_sound_b2 c) (false, 0) = some false := loopU_ext (by simp [remontoirlaw02_sound_b2, f3])
  have f1 : loopU (remontoirlaw02_sound_b1 c) (false, 0) = some false := loopU_ext (by simp [remontoirlaw02_sound_b1, f2])
  unfold remontoirlaw02_sound
  simp only [beat_Check_eq c hc, bind_s, Lies_eq, cond_s]
  cases hx : goodB c with
  | false => simp [f1]
  | true =>
    have hC := OkC.of hx
    have h1 := hC.h1
    have h2 := hC.h2
    have k1 := hC.k1
    have k2 := hC.k2
    have o2 := hC.o2
    have p2 := hC.p2
    have hxx := hx
    simp only [goodB, Bool.and_eq_true] at hxx
    obtain ⟨⟨⟨hs, hr⟩, hg⟩, hp⟩ := hxx
    have e1 : inB c.Hours 1 12 = true := by simp only [inB, Bool.and_eq_true, decide_eq_true_eq]; omega
    have e2 : inB (c.Rates.length : Int) 1 5 = true := by simp only [inB, Bool.and_eq_true, decide_eq_true_eq]; omega
    have e3 : decide ((c.Opens.length : Int) ≤ 6) = true := by simp; omega
    have e4 : decide ((c.Pairs.length : Int) ≤ 14) = true := by simp; omega
    simp only [if_true, e1, e2, e3, e4, beq_self_eq_true, cond_true, Bool.and_self]
    have l3 : loopU (remontoirlaw02_sound_b3 c) (true, 0) = some true := by
      refine (loop_flag c.Pairs (fun p => inB p.Hour 0 c.Hours && inB p.One 0 (c.Rates.length - 1) && inB p.Other (-1) (c.Rates.length - 1) && spanB p.Read 200000) (fun b => some b) _ (fun i hi => ?_) (fun i => ?_) ?_ true).trans ?_
      · have hd : decide ((i : Int) < (c.Pairs.length : Int)) = true := by simp; omega
        have wi : wr ((i : Int) + 1) = ((i + 1 : Nat) : Int) := wr_id' (by omega) (by omega)
        simp only [remontoirlaw02_sound_b3, hd, Bool.true_and, cond_true, idx_get hi, bind_s, Lies_eq, w1, wi, Valid_eq, cond_s, nxt]
        generalize inB c.Pairs[i].Hour 0 c.Hours = b1
        generalize inB c.Pairs[i].One 0 _ = b2
        generalize inB c.Pairs[i].Other (-1) _ = b3
        generalize spanB c.Pairs[i].Read 200000 = b5
        cases b1 <;> cases b2 <;> cases b3 <;> cases b5 <;> rfl
      · simp [remontoirlaw02_sound_b3]
      · simp [remontoirlaw02_sound_b3]
      · congr 1
        rw [Bool.true_and, List.all_eq_true]
        intro p hpm
        have := List.all_eq_true.1 hp p hpm
        simp only [pairB, Bool.and_eq_true] at this ⊢
        exact ⟨this.1.1, this.2⟩
    have l2 : loopU (remontoirlaw02_sound_b2 c) (true, 0) = some true := by
      have w2 : wr (c.Hours - 1) = c.Hours - 1 := wr_id' (by omega) (by omega)
      refine (loop_flag c.Opens (openB c) (fun b => loopU (remontoirlaw02_sound_b3 c) (b, 0)) _ (fun i hi => ?_) (fun i => ?_) ?_ true).trans ?_
      · have hd : decide ((i : Int) < (c.Opens.length : Int)) = true := by simp; omega
        have wi : wr ((i : Int) + 1) = ((i + 1 : Nat) : Int) := wr_id' (by omega) (by omega)
        simp only [remontoirlaw02_sound_b2, hd, Bool.true_and, cond_true, idx_get hi, bind_s, Lies_eq, w1, w2, wi, Valid_eq, cond_s, nxt, openB]
        generalize inB c.Opens[i].Clock 0 _ = b1
        generalize inB c.Opens[i].Hour 0 _ = b2
        generalize spanB c.Opens[i].Step 100000 = b5
        cases b1 <;> cases b2 <;> cases b5 <;> rfl
      · simp [remontoirlaw02_sound_b2]
      · simp [remontoirlaw02_sound_b2]
      · rw [hg]; exact l3
    refine (loop_flag c.Rates rateB (fun b => loopU (remontoirlaw02_sound_b2 c) (b, 0)) _ (fun i hi => ?_) (fun i => ?_) ?_ true).trans ?_
    · have hd : decide ((i : Int) < (c.Rates.length : Int)) = true := by simp; omega
      have wi : wr ((i : Int) + 1) = ((i + 1 : Nat) : Int) := wr_id' (by omega) (by omega)
      simp only [remontoirlaw02_sound_b1, hd, Bool.true_and, cond_true, idx_get hi, bind_s, wi, Valid_eq, nxt, rateB]
    · simp [remontoirlaw02_sound_b1]
    · simp [remontoirlaw02_sound_b1]
    · rw [hr]; exact l2

theorem Rest_eq (n : Int) {by_ : Int} (h : 0 < by_) (h2 : by_ ≤ 1000000000) : remontoirref00_Rest n by_ = some (n.emod by_) := by
  unfold remontoirref00_Rest
  rw [if_pos (by omega)]
  have e := Int.tmod_eq_emod (a := n) (b := by_)
  have h0 := Int.emod_nonneg n (show by_ ≠ 0 by omega)
  have h1 := Int.emod_lt_of_pos n h
  have e2 : (by_.natAbs : Int) = by_ := by omega
  by_cases ht : n.tmod by_ < 0
  · rw [decide_eq_true ht, cond_true]
    unfold remontoirref00_Rest_k1
    rw [e] at ht ⊢
    split at ht
    · omega
    · rw [wr_id' (by split <;> omega) (by split <;> omega)]
      next hn =>
        rw [if_neg hn, e2]
        congr 1
        show n % by_ - by_ + by_ = n % by_
        omega
  · rw [decide_eq_false ht, cond_false]
    unfold remontoirref00_Rest_k1
    congr 1
    rw [e] at ht ⊢
    split
    · show n % by_ - 0 = n % by_
      omega
    · next hn =>
      rw [if_neg hn] at ht
      exfalso
      omega
theorem Rest_in (n : Int) {by_ : Int} (h : 0 < by_) (h2 : by_ ≤ 1000000000) : ∃ r, remontoirref00_Rest n by_ = some r ∧ 0 ≤ r ∧ r < by_ :=
  ⟨_, Rest_eq n h h2, Int.emod_nonneg n (by omega), Int.emod_lt_of_pos n h⟩

theorem mx_self {c : BeatCellar} (hx : goodB c = true) (hcan : Can c 0) {a : Nat} (ha : a < cnt c) : mx c 0 a a = 0 := (top_case hx hcan ha).2
theorem mx_tri {c : BeatCellar} (hx : goodB c = true) (hcan : Can c 0) {a b d : Nat} (ha : a < cnt c) (hb : b < cnt c) (hd : d < cnt c) : mx c 0 a b ≤ mx c 0 a d + mx c 0 d b := by
  obtain ⟨⟨x, hf, e⟩, _⟩ := mx_most hx hcan ha hb
  have h1 := (mx_most hx hcan ha hd).2 x hf
  have h2 := (mx_most hx hcan hd hb).2 x hf
  omega
theorem mx_neg {c : BeatCellar} (hx : goodB c = true) (hcan : Can c 0) {a b : Nat} (ha : a < cnt c) (hb : b < cnt c) : -mx c 0 b a ≤ mx c 0 a b := by
  have := mx_tri hx hcan ha ha hb
  have := mx_self hx hcan ha
  omega
theorem ans_good {c : BeatCellar} (hx : goodB c = true) (s : Span) : ans c true s = if canB c 0 = true then (s, 0) else (⟨0, 0⟩, 22) := by simp [ans, hx]
theorem spot_in {c : BeatCellar} {k h : Int} (h1 : 0 ≤ k) (h2 : k < c.Rates.length) (h3 : 0 ≤ h) (h4 : h ≤ c.Hours) : spotB c k h = true := by
  simp only [spotB, inB, Bool.and_eq_true, decide_eq_true_eq]; omega
end Go.Proofs.YtpniidbbbhbglaaDoor.Rt
