/- What the pure function of a law comes to. Under the conditions that it names. -/
import Derived.Test.YtidmdgjgpmeecaaDoorL8
import Derived.Test.YtidmdgjgpmeecaaDoorPJ
set_option linter.unusedVariables false
set_option linter.unusedSimpArgs false
set_option maxRecDepth 100000
set_option maxHeartbeats 4000000
namespace Go.Proofs.YtidmdgjgpmeecaaDoor.Rt
open Go Go.RowKit

/-- turns that numbers choose -/
theorem tried_some {sv : SpareStore} (hs : Ok_SpareStore sv) (hS : OkS sv) {bits : List Int} (hb : OkL InR bits) : ∃ l, remontoirlaw08_tried sv bits = some l ∧ OkL Ok_SpareTurn l := by
  have hn := hS.n2; have hn1 := hS.n1
  unfold remontoirlaw08_tried
  have key : ∀ (k i : Nat) (out : List SpareTurn) (now used : Int), i + k = sv.Machines.length → out.length ≤ i → (∀ t ∈ out, Ok_SpareTurn t) → InR now →
      ∃ l, loopU (remontoirlaw08_tried_b2 sv bits) (out, now, used, (i : Int)) = some l ∧ OkL Ok_SpareTurn l := by
    intro k
    induction k with
    | zero =>
      intro i out now used h hl ho hnow
      have e : i = sv.Machines.length := by omega
      subst e
      exact ⟨out, loopU_ext (by simp only [remontoirlaw08_tried_b2, lt_f, cond_false, remontoirlaw08_tried_k1]), by omega, ho⟩
    | succ k ih =>
      intro i out now used h hl ho hnow
      have hi : i < sv.Machines.length := by omega
      have wi : wr ((i : Int) + 1) = ((i + 1 : Nat) : Int) := wr_id' (by omega) (by omega)
      obtain ⟨v1, a1⟩ := At_any bits hb.1 (wr (2 * (i : Int)))
      obtain ⟨v2, a2, a3, a4⟩ := rest_any v1 (by_ := (sv.Machines.length : Int)) (by omega) (by omega)
      obtain ⟨m, rfl⟩ := Int.eq_ofNat_of_zero_le a3
      have hm : m < sv.Machines.length := by omega
      obtain ⟨v3, b1⟩ := At_any bits hb.1 (wr (wr (2 * (i : Int)) + 1))
      obtain ⟨v4, b2, b3, b4⟩ := rest_any v3 (by_ := 3) (by decide) (by decide)
      obtain ⟨v5, c1⟩ := At_any bits hb.1 (wr ((i : Int) + 3))
      have hin := In_eq used (show (0 : Int) ≤ (m : Int) by omega)
      cases hu : inSetB used (m : Int) with
      | true =>
        rw [loopU_nxt (s' := (out, now, used, ((i + 1 : Nat) : Int))) (by
          simp only [remontoirlaw08_tried_b2, lt_t hi, cond_true, a1, a2, bind_s]
          rw [hin, hu]
          simp only [bind_s, cond_true, remontoirlaw08_tried_k3, wi])]
        exact ih (i + 1) out now used (by omega) (by omega) ho hnow
      | false =>
        have hmx : ∀ z : Int, 0 < (if (if z > 1 then z else 1) < sv.Hours then (if z > 1 then z else 1) else sv.Hours) ∧ (if (if z > 1 then z else 1) < sv.Hours then (if z > 1 then z else 1) else sv.Hours) ≤ 9223372036854775807 := fun z => by
          have := hS.h1; have := hS.h2
          constructor <;> (repeat' split) <;> omega
        have hM := hS.mach hm
        have hturn : Ok_SpareTurn (SpareTurn.mk (m : Int) (if (mach sv m).From > wr (wr (now - (mach sv m).Warm) - v4) then (mach sv m).From else wr (wr (now - (mach sv m).Warm) - v4)) now) := by
          refine ⟨inr_small (n := (m : Int)) (by omega) (by omega), ?_, hnow⟩
          show InR (if _ then _ else _)
          split
          · have := hM.f1; have := hM.f2; exact inr_small (by omega) (by omega)
          · exact wr_in _
        have hout : ∀ t ∈ out ++ [SpareTurn.mk (m : Int) (if (mach sv m).From > wr (wr (now - (mach sv m).Warm) - v4) then (mach sv m).From else wr (wr (now - (mach sv m).Warm) - v4)) now], Ok_SpareTurn t := fun t ht => by
          rcases List.mem_append.1 ht with ht | ht
          · exact ho t ht
          · rw [List.mem_singleton.1 ht]; exact hturn
        obtain ⟨v6, d1, d2, d3⟩ := rest_any v5 (hmx (wr (wr (wr (wr (now - (mach sv m).Warm) - v4) + (mach sv m).Life.Low) - now))).1 (hmx _).2
        have hlen : out.length + ([SpareTurn.mk (m : Int) (if (mach sv m).From > wr (wr (now - (mach sv m).Warm) - v4) then (mach sv m).From else wr (wr (now - (mach sv m).Warm) - v4)) now]).length ≤ lim := by
          simp only [List.length_singleton, lim]; omega
        cases hd : decide (wr (now + wr (1 + v6)) ≥ sv.Hours) with
        | true =>
          refine ⟨_, loopU_ext (o := some (out ++ [SpareTurn.mk (m : Int) (if (mach sv m).From > wr (wr (now - (mach sv m).Warm) - v4) then (mach sv m).From else wr (wr (now - (mach sv m).Warm) - v4)) now])) ?_, ?_, hout⟩
          · simp only [remontoirlaw08_tried_b2, lt_t hi, cond_true, a1, a2, bind_s]
            rw [hin, hu]
            simp only [bind_s, cond_false, idx_mach hm, b1, b2]
            rw [if_pos hlen, if_pos (by omega)]
            simp only [c1, d1, bind_s]
            rw [hd]; rfl
          · simp only [List.length_append, List.length_singleton]; omega
        | false =>
          rw [loopU_nxt (s' := (out ++ [SpareTurn.mk (m : Int) (if (mach sv m).From > wr (wr (now - (mach sv m).Warm) - v4) then (mach sv m).From else wr (wr (now - (mach sv m).Warm) - v4)) now], wr (now + wr (1 + v6)), bitsOp .or used (gshl 1 (m : Int)), ((i + 1 : Nat) : Int))) (by
            simp only [remontoirlaw08_tried_b2, lt_t hi, cond_true, a1, a2, bind_s]
            rw [hin, hu]
            simp only [bind_s, cond_false, idx_mach hm, b1, b2]
            rw [if_pos hlen, if_pos (by omega)]
            simp only [c1, d1, bind_s]
            rw [hd]
            simp only [cond_false, remontoirlaw08_tried_k3, wi])]
          exact ih (i + 1) _ _ _ (by omega) (by simp only [List.length_append, List.length_singleton]; omega) hout (wr_in _)
  have := key sv.Machines.length 0 [] 0 0 (by omega) (by simp) (fun t ht => by simp at ht) ⟨by decide, by decide⟩
  simpa using this
theorem pure_8 (sv : SpareStore) (bits : (List Int)) (hs : Ok_SpareStore sv) (hb : OkL InR bits) : remontoirlaw08_SpareFewest sv bits = some true := by
  unfold remontoirlaw08_SpareFewest
  simp only [Fewest_eq sv hs, Reach_eq sv hs, sound_eq sv hs, bind_s, works_eq]
  cases hg : goodB sv with
  | false => unfold fewestF reachF; rw [hg]; rfl
  | true =>
    have hS := OkS.of hg
    obtain ⟨l, hl, hlo⟩ := tried_some hs hS hb
    have hr0 := reach_ge sv; have hr1 := reach_le hS
    have hfr := few_reach hS
    have h1 := hS.h1; have h2 := hS.h2
    rw [reach_good hS, fewest_good hS, hl]
    simp only [bind_s, IsPlan_eq sv hs l hlo]
    unfold isPlanF
    rw [hg]
    simp only [if_true]
    -- what numbers choose
    have htr : planB sv l sv.Hours = true → fewF sv ≠ 100 ∧ fewF sv ≤ l.length := fun h => few_plan hS ((plan_iff _ _ _).1 h)
    -- other hours
    have hx : ∀ h : Int, 1 ≤ h → h ≤ 500 → spare_Fewest ⟨h, sv.Gap, sv.Machines⟩ = some (if reachN sv < h then (0, 4) else (fewF ⟨h, sv.Gap, sv.Machines⟩, 0)) := fun h h1 h2 => by
      have hSx := hS.hours h1 h2
      rw [Fewest_eq _ (ok_mk (by omega) (by omega) (by have := hS.g1; omega) (by have := hS.g2; omega) hs.2.2), fewest_good hSx]
      have h3 := few_reach hSx
      rw [reach_store (s := sv) (s' := ⟨h, sv.Gap, sv.Machines⟩) rfl rfl] at h3
      by_cases hf : fewF ⟨h, sv.Gap, sv.Machines⟩ = 100
      · rw [if_pos hf, if_pos (by
          refine Int.not_le.1 fun hle => ?_
          exact (h3.2 hle) hf)]
      · rw [if_neg hf, if_neg (by have := h3.1 hf; simp only at this; omega)]
    have hend : (cond (inB (reachN sv) 1 499) ((spare_Fewest (SpareStore.mk (reachN sv) sv.Gap sv.Machines)).bind fun rv_9 =>
        (spare_Fewest (SpareStore.mk (wr (reachN sv + 1)) sv.Gap sv.Machines)).bind fun rv_10 =>
        cond ((rv_9.2 != 0) || (rv_10.2 != 4)) (some false) (remontoirlaw08_SpareFewest_k1 false)) (remontoirlaw08_SpareFewest_k1 false)) = some true := by
      have hk : remontoirlaw08_SpareFewest_k1 false = some true := by unfold remontoirlaw08_SpareFewest_k1; rw [works_eq]; rfl
      rw [hk]
      cases hb2 : inB (reachN sv) 1 499 with
      | false => rfl
      | true =>
        simp only [inB, Bool.and_eq_true, decide_eq_true_eq] at hb2
        rw [wr_id' (by omega) (by omega), hx _ (by omega) (by omega), hx _ (by omega) (by omega), if_neg (by omega), if_pos (by omega)]
        rfl
    by_cases hf : fewF sv = 100
    · have hp : planB sv l sv.Hours = false := by
        cases h : planB sv l sv.Hours with
        | false => rfl
        | true => exact absurd hf (htr h).1
      have hlt : ¬ sv.Hours ≤ reachN sv := fun h => (hfr.2 h) hf
      rw [if_pos hf, hp, show decide (reachN sv ≥ sv.Hours) = false by simpa using hlt, show decide (reachN sv < 0) = false by simp; omega]
      exact hend
    · have hle := few_le hS hf
      have hge := hfr.1 hf
      rw [if_neg hf, show decide (reachN sv ≥ sv.Hours) = true by simpa using hge, show decide (reachN sv < 0) = false by simp; omega]
      simp only [Lies_eq, bind_s]
      rw [show inB (fewF sv) 1 (sv.Machines.length : Int) = true by simp only [inB, Bool.and_eq_true, decide_eq_true_eq]; omega]
      have hc : (planB sv l sv.Hours && (((0 : Int) != 0) || decide ((l.length : Int) < fewF sv))) = false := by
        cases h : planB sv l sv.Hours with
        | false => rfl
        | true =>
          have := (htr h).2
          rw [show decide ((l.length : Int) < fewF sv) = false by simp; omega]; rfl
      rw [hc]
      exact hend
end Go.Proofs.YtidmdgjgpmeecaaDoor.Rt
