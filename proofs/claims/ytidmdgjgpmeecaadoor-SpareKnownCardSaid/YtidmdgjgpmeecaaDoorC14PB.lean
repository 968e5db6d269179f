/- Plain laws of the spare seat: sets as bits, how many, all within one. Under the conditions that each names. -/
import Derived.Test.YtidmdgjgpmeecaaDoorC14PA
set_option linter.unusedVariables false
set_option linter.unusedSimpArgs false
set_option maxRecDepth 100000
set_option maxHeartbeats 4000000
namespace Go.Proofs.YtidmdgjgpmeecaaDoor.Rt
open Go Go.RowKit
theorem band (a b : Nat) (ha : a < 256) : bitsOp .and (a : Int) (b : Int) = ((a &&& b : Nat) : Int) := by
  unfold bitsOp
  simp only [BitVec.ofInt_natCast, BitVec.toNat_and, BitVec.toNat_ofNat]
  have h : a % 2 ^ 64 &&& b % 2 ^ 64 = a &&& b := by
    rw [← Nat.and_mod_two_pow, Nat.mod_eq_of_lt]
    exact Nat.lt_of_le_of_lt Nat.and_le_left (by omega)
  rw [h]
  have := @Nat.and_le_left a b
  exact wr_id' (by omega) (by omega)
theorem dec_in : ∀ t < 256, ∀ k < 8, bitsOp .and (gshr ((t : Nat) : Int) ((k : Nat) : Int)) 1 = if t.testBit k then 1 else 0 := by decide +kernel
theorem dec_andNot : ∀ t < 256, ∀ k < 8, bitsOp .andNot ((t : Nat) : Int) (gshl 1 ((k : Nat) : Int)) = ((if t.testBit k then t - 2 ^ k else t : Nat) : Int) := by decide +kernel
theorem dec_shl : ∀ k < 9, gshl 1 ((k : Nat) : Int) = ((2 ^ k : Nat) : Int) := by decide +kernel
theorem dec_one : ∀ k < 8, ∀ i < 8, (2 ^ k).testBit i = decide (i = k) := by decide +kernel
theorem dec_sub : ∀ t < 256, ∀ k < 8, t.testBit k = true → 2 ^ k ≤ t ∧ ∀ i < 8, (t - 2 ^ k).testBit i = (t.testBit i && decide (i ≠ k)) := by decide +kernel
def popc (t : Nat) : Nat := ((List.range 8).filter (t.testBit ·)).length
theorem dec_low : ∀ t < 256, 0 < t → t &&& (t - 1) < t ∧ popc (t &&& (t - 1)) + 1 = popc t := by decide +kernel
theorem dec_pop : ∀ t < 256, ∀ k < 8, t.testBit k = true → popc (t - 2 ^ k) + 1 = popc t := by decide +kernel
theorem dec_pop0 : ∀ t < 256, (popc t = 0 ↔ t = 0) ∧ popc t ≤ 8 := by decide +kernel
theorem dec_full : ∀ n < 9, ∀ t < 2 ^ n, (∀ k < 8, t.testBit k = true → k < n) ∧ bitsOp .andNot ((2 ^ n - 1 : Nat) : Int) ((t : Nat) : Int) = ((2 ^ n - 1 - t : Nat) : Int) := by decide +kernel
theorem in_eq {t k : Nat} (ht : t < 256) (hk : k < 8) : (bitsOp .and (gshr (t : Int) (k : Int)) 1 == 0) = !t.testBit k := by
  rw [dec_in t ht k hk]; cases t.testBit k <;> rfl
theorem pow_n {n : Nat} (hn : n ≤ 8) : 2 ^ n ≤ 256 := by
  have : 2 ^ n ≤ 2 ^ 8 := Nat.pow_le_pow_right (show 0 < 2 by decide) hn
  omega
theorem count_eq : ∀ (t : Nat) (n : Int), t < 256 → 0 ≤ n → n + popc t ≤ 100 → loopU spare_count_b1 ((t : Int), n) = some (n + (popc t : Int)) := by
  intro t
  induction t using Nat.strongRecOn with
  | ind t ih =>
    intro n ht h0 h1
    by_cases hz : t = 0
    · subst hz
      refine (loopU_ext (show spare_count_b1 (((0 : Nat) : Int), n) = ext (some n) from rfl)).trans ?_
      rw [show popc 0 = 0 from rfl]; simp
    · have hl := dec_low t ht (by omega)
      have hb : spare_count_b1 ((t : Int), n) = nxt (((t &&& (t - 1) : Nat) : Int), n + 1) := by
        have hd : decide ((t : Int) > 0) = true := by simp; omega
        simp only [spare_count_b1, hd, cond_true]
        rw [wr_id' (by omega) (by omega), wr_id' (by omega) (by omega), show (t : Int) - 1 = ((t - 1 : Nat) : Int) by omega, band t _ ht]
      rw [loopU_nxt hb]
      have hp := dec_pop0 (t &&& (t - 1)) (by omega)
      have ht8 := (dec_pop0 t ht).2
      rw [ih _ hl.1 _ (by omega) (by omega) (by omega)]; congr 1; omega
theorem countE {t : Nat} (ht : t < 256) : spare_count (t : Int) = some (popc t : Int) := by
  unfold spare_count
  rw [count_eq t 0 ht (by decide) (by have := (dec_pop0 t ht).2; omega)]; simp
theorem dec_disj : ∀ n < 9, ∀ u < 2 ^ n, ∀ t < 2 ^ n, (t &&& (2 ^ n - 1 - u) == t) = (t &&& u == 0) := by decide +kernel
theorem dec_all : ∀ n < 9, ∀ k < n, (2 ^ n - 1).testBit k = true ∧ 2 ^ k < 2 ^ n := by decide +kernel
end Go.Proofs.YtidmdgjgpmeecaaDoor.Rt
