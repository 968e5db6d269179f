/- Plain laws of the beat seat: the clocks that must be wrong, by the reference. Under the conditions that each names. -/
import Derived.Test.YtpniidbbbhbglaaDoorPR
import Derived.Test.YtpniidbbbhbglaaDoorWQZ
set_option linter.unusedVariables false
set_option linter.unusedSimpArgs false
set_option maxRecDepth 100000
set_option maxHeartbeats 4000000
namespace Go.Proofs.YtpniidbbbhbglaaDoor.Rt
open Go Go.RowKit

theorem most_can (c : BeatCellar) (hx : goodB c = true) (s : Int) : ∃ m, remontoirref02_most c s = some (m, canB c s) := by
  rcases most_eq c hx s with ⟨h, m, e, _⟩ | ⟨h, e⟩
  · exact ⟨m, by rw [e, (canB_iff hx s).2 h]⟩
  · exact ⟨[], by rw [e, (canB_ff hx s).2 h]⟩


def WInv (c : BeatCellar) (i : Nat) (s : List Int × Bool × Int) : Prop := s.2.2 = (i : Int) ∧
  ((s.2.1 = false ∧ s.1 = [] ∧ ∀ j : Nat, j < i → canB c (j : Int) = false) ∨
   (s.2.1 = true ∧ ∃ q : Nat, q < i ∧ canB c (q : Int) = true ∧ s.1 = listN (q : Int) c.Rates.length ∧ ∀ j : Nat, j < i → canB c (j : Int) = true → pos c.Rates.length (q : Int) ≤ pos c.Rates.length (j : Int)))

theorem ref_Wrong_eq (c : BeatCellar) (hc : Ok_BeatCellar c) : remontoirref02_Wrong c = beat_Wrong c := by
  rw [Wrong_eq c hc]
  unfold remontoirref02_Wrong
  simp only [ref_Check_eq c hc, bind_s]
  cases hx : goodB c with
  | false => rfl
  | true =>
    have hC := OkC.of hx
    have k1 := hC.k1
    have k2 := hC.k2
    have hF := facts_of k1 k2
    have c0 : ((0 : Int) != 0) = false := by decide
    simp only [if_true, c0, cond_false]
    have hneg : ¬ (c.Rates.length : Int) < 0 := by omega
    have hsh := gshl1 k2
    have hpow : 2 ^ c.Rates.length ≤ 32 := Nat.pow_le_pow_right (by decide) k2
    refine loopU_for (s := (([] : List Int), false, (0 : Int))) (Inv := WInv c) (2 ^ c.Rates.length)
      (Post := fun o => o = some (match wrongF c with | some q => (q.1, (0 : Int)) | none => ([], 22))) ⟨rfl, Or.inl ⟨rfl, rfl, fun j hj => by omega⟩⟩ ?_ ?_
    · rintro i ⟨best, found, s3⟩ hi ⟨h0, hinv⟩
      simp only at h0 hinv
      subst h0
      have hd : decide ((i : Int) < ((2 ^ c.Rates.length : Nat) : Int)) = true := by simp only [decide_eq_true_eq]; omega
      have wi : wr ((i : Int) + 1) = ((i + 1 : Nat) : Int) := wr_id' (by omega) (by omega)
      obtain ⟨m, em⟩ := most_can c hx (i : Int)
      have hll := listN_len (i : Int) c.Rates.length
      have hskip : ((cond found ((cond (decide (((listN (i : Int) c.Rates.length).length : Int) > (best.length : Int))) (some true) ((cond (((listN (i : Int) c.Rates.length).length : Int) == (best.length : Int)) ((remontoirref00_Ahead (listN (i : Int) c.Rates.length) best).bind fun rv_2 => some (!rv_2)) (some false)).bind fun t => some t)).bind fun t_1 => some t_1) (some false))) = some (found && !precB (listN (i : Int) c.Rates.length) best) := by
        cases found with
        | false => rfl
        | true =>
          rw [cond_true, Ahead_eq _ _ (by omega), bind_s, Bool.true_and]
          unfold precB
          by_cases h1 : (listN (i : Int) c.Rates.length).length < best.length
          · have e1 : decide (((listN (i : Int) c.Rates.length).length : Int) > (best.length : Int)) = false := by simp; omega
            have e2 : (((listN (i : Int) c.Rates.length).length : Int) == (best.length : Int)) = false := by simp; omega
            rw [e1, e2, decide_eq_true h1]; rfl
          · by_cases h2 : (listN (i : Int) c.Rates.length).length = best.length
            · have e1 : decide (((listN (i : Int) c.Rates.length).length : Int) > (best.length : Int)) = false := by simp; omega
              have e2 : (((listN (i : Int) c.Rates.length).length : Int) == (best.length : Int)) = true := by simp; omega
              rw [e1, e2, decide_eq_false h1, decide_eq_true h2]
              cases aheadB (listN (i : Int) c.Rates.length) best <;> rfl
            · have e1 : decide (((listN (i : Int) c.Rates.length).length : Int) > (best.length : Int)) = true := by simp; omega
              rw [e1, decide_eq_false h1, decide_eq_false h2]; rfl
      have hstep : remontoirref02_Wrong_b1 c (best, found, (i : Int)) = cond (found && !precB (listN (i : Int) c.Rates.length) best) (nxt (best, found, ((i + 1 : Nat) : Int))) (cond (canB c (i : Int)) (nxt (listN (i : Int) c.Rates.length, true, ((i + 1 : Nat) : Int))) (nxt (best, found, ((i + 1 : Nat) : Int)))) := by
        simp only [remontoirref02_Wrong_b1, hsh, hd, cond_true, List_eq _ _ (show c.Rates.length ≤ 1000 by omega), bind_s, em, remontoirref02_Wrong_k2, wi]
        rw [if_pos hneg, hskip, bind_s]
      rw [hstep]
      rcases hinv with ⟨hf, hbest, hno⟩ | ⟨hf, q, hq, hcq, hbest, hmin⟩
      · subst hf; subst hbest
        rw [Bool.false_and, cond_false]
        cases hci : canB c (i : Int) with
        | true =>
          refine ⟨_, rfl, rfl, Or.inr ⟨rfl, i, by omega, hci, rfl, fun j hj hcj => ?_⟩⟩
          by_cases e : j = i
          · subst e; exact Nat.le_refl _
          · have := hno j (by omega)
            rw [hcj] at this; cases this
        | false =>
          refine ⟨_, rfl, rfl, Or.inl ⟨rfl, rfl, fun j hj => ?_⟩⟩
          by_cases e : j = i
          · subst e; exact hci
          · exact hno j (by omega)
      · subst hf; subst hbest
        rw [Bool.true_and, hF.prec i q hi (by omega)]
        by_cases hlt : pos c.Rates.length (i : Int) < pos c.Rates.length (q : Int)
        · rw [decide_eq_true hlt, Bool.not_true, cond_false]
          cases hci : canB c (i : Int) with
          | true =>
            refine ⟨_, rfl, rfl, Or.inr ⟨rfl, i, by omega, hci, rfl, fun j hj hcj => ?_⟩⟩
            by_cases e : j = i
            · subst e; exact Nat.le_refl _
            · have := hmin j (by omega) hcj
              omega
          | false =>
            refine ⟨_, rfl, rfl, Or.inr ⟨rfl, q, by omega, hcq, rfl, fun j hj hcj => ?_⟩⟩
            by_cases e : j = i
            · subst e; rw [hci] at hcj; cases hcj
            · exact hmin j (by omega) hcj
        · rw [decide_eq_false hlt, Bool.not_false, cond_true]
          refine ⟨_, rfl, rfl, Or.inr ⟨rfl, q, by omega, hcq, rfl, fun j hj hcj => ?_⟩⟩
          by_cases e : j = i
          · subst e; omega
          · exact hmin j (by omega) hcj
    · rintro ⟨best, found, s3⟩ ⟨h0, hinv⟩
      simp only at h0 hinv
      subst h0
      have hd : decide (((2 ^ c.Rates.length : Nat) : Int) < ((2 ^ c.Rates.length : Nat) : Int)) = false := by simp
      have hend : remontoirref02_Wrong_b1 c (best, found, ((2 ^ c.Rates.length : Nat) : Int)) = ext (cond (!found) (some (([] : List Int), 22)) (some (best, 0))) := by
        simp only [remontoirref02_Wrong_b1, hsh, hd, cond_false]
        rw [if_pos hneg]
      refine ⟨_, hend, ?_⟩
      rcases hinv with ⟨hf, hbest, hno⟩ | ⟨hf, q, hq, hcq, hbest, hmin⟩
      · subst hf
        have : wrongF c = none := by
          unfold wrongF
          rw [List.find?_eq_none]
          intro r hr
          obtain ⟨h1, h2, h3⟩ := hF.mem r hr
          have := hno r.2.toNat (by
            have : ((2 : Int) ^ c.Rates.length) = ((2 ^ c.Rates.length : Nat) : Int) := by simp
            omega)
          rw [Int.toNat_of_nonneg h1] at this
          simp [this]
        rw [this]; rfl
      · subst hf
        have : wrongF c = some (listN (q : Int) c.Rates.length, (q : Int)) := by
          unfold wrongF
          refine find_min _ _ (hF.all q hq) hcq hF.nd (fun r hr hcr => ?_)
          obtain ⟨h1, h2, h3⟩ := hF.mem r hr
          have := hmin r.2.toNat (by
            have : ((2 : Int) ^ c.Rates.length) = ((2 ^ c.Rates.length : Nat) : Int) := by simp
            omega)
          rw [Int.toNat_of_nonneg h1] at this
          exact this hcr
        rw [this, hbest]; rfl
end Go.Proofs.YtpniidbbbhbglaaDoor.Rt
