/- Plain laws of the beat seat: the examples of the chapter. Under the conditions that each names. -/
import Derived.Test.YtpniidbbbhbglaaDoorC14PC
set_option linter.unusedVariables false
set_option linter.unusedSimpArgs false
set_option maxRecDepth 100000
set_option maxHeartbeats 4000000
namespace Go.Proofs.YtpniidbbbhbglaaDoor.Rt
open Go Go.RowKit
def cellX (more : List BeatPair) : BeatCellar := ⟨3, [⟨-2, 3⟩, ⟨0, 1⟩, ⟨-10, 10⟩], [⟨2, 1, ⟨-50, 50⟩⟩], [⟨0, 0, -1, ⟨100, 104⟩⟩, ⟨1, 0, 1, ⟨40, 44⟩⟩, ⟨3, 1, -1, ⟨60, 61⟩⟩, ⟨3, 2, 1, ⟨5, 5⟩⟩] ++ more⟩
def tornX : List BeatPair := [⟨1, 1, -1, ⟨80, 90⟩⟩]
theorem cell_eq (more : List BeatPair) (h : more.length ≤ 1000) : remontoirlaw02_cellar more = some (cellX more) := by
  unfold remontoirlaw02_cellar
  simp only [r0To, bind_s]
  rw [if_pos (by simp only [List.length_cons, List.length_nil, lim]; omega)]
  rfl
theorem torn_eq : remontoirlaw02_torn = some tornX := rfl
theorem inr_small {n : Int} (h1 : -1000000000 ≤ n) (h2 : n ≤ 1000000000) : InR n := ⟨by omega, by omega⟩
theorem ok_cellX {more : List BeatPair} (hm : ∀ p ∈ more, Ok_BeatPair p) (hl : more.length ≤ 1000) : Ok_BeatCellar (cellX more) := by
  have r : ∀ n : Int, -1000000000 ≤ n ∧ n ≤ 1000000000 → InR n := fun n h => inr_small h.1 h.2
  refine ⟨r _ (by simp [cellX]), ⟨by simp [cellX], ?_⟩, ⟨by simp [cellX], ?_⟩, ⟨by simp [cellX]; omega, ?_⟩⟩
  · intro x hx
    simp only [cellX, List.mem_cons, List.not_mem_nil, or_false] at hx
    rcases hx with rfl | rfl | rfl <;> exact ⟨r _ (by decide), r _ (by decide)⟩
  · intro x hx
    simp only [cellX, List.mem_cons, List.not_mem_nil, or_false] at hx
    subst hx
    exact ⟨r _ (by decide), r _ (by decide), r _ (by decide), r _ (by decide)⟩
  · intro x hx
    simp only [cellX, List.mem_append, List.mem_cons, List.not_mem_nil, or_false] at hx
    rcases hx with (rfl | rfl | rfl | rfl) | hx
    · exact ⟨r _ (by decide), r _ (by decide), r _ (by decide), r _ (by decide), r _ (by decide)⟩
    · exact ⟨r _ (by decide), r _ (by decide), r _ (by decide), r _ (by decide), r _ (by decide)⟩
    · exact ⟨r _ (by decide), r _ (by decide), r _ (by decide), r _ (by decide), r _ (by decide)⟩
    · exact ⟨r _ (by decide), r _ (by decide), r _ (by decide), r _ (by decide), r _ (by decide)⟩
    · exact hm x hx
theorem ok_cell0 : Ok_BeatCellar (cellX []) := ok_cellX (by simp) (by simp)
theorem ok_cell1 : Ok_BeatCellar (cellX tornX) := ok_cellX (by
  intro p hp
  simp only [tornX, List.mem_cons, List.not_mem_nil, or_false] at hp
  subst hp
  exact ⟨inr_small (by decide) (by decide), inr_small (by decide) (by decide), inr_small (by decide) (by decide), inr_small (by decide) (by decide), inr_small (by decide) (by decide)⟩) (by simp [tornX])
def numsA (a : Span × Int) : List Int := [a.1.Low, a.1.High, a.2]
theorem of_numsA {a : Span × Int} {l h e : Int} (k : numsA a = [l, h, e]) : a = (⟨l, h⟩, e) := by
  obtain ⟨⟨x, y⟩, z⟩ := a
  simp only [numsA, List.cons.injEq, and_true] at k
  obtain ⟨rfl, rfl, rfl⟩ := k; rfl
theorem x_offset : beat_Offset (cellX []) 0 1 = some (⟨98, 105⟩, 0) := by
  rw [Offset_eq _ ok_cell0]; exact congrArg some (of_numsA (by decide +kernel))
theorem x_apart : beat_Apart (cellX []) 0 1 3 = some (⟨34, 50⟩, 0) := by
  rw [Apart_eq _ ok_cell0]; exact congrArg some (of_numsA (by decide +kernel))
theorem x_drift : beat_Drift (cellX []) 2 1 2 = some (⟨-60, 60⟩, 0) := by
  rw [Drift_eq _ ok_cell0]; exact congrArg some (of_numsA (by decide +kernel))
theorem x_good : goodB (cellX []) = true := by decide +kernel
theorem x_can : canB (cellX []) 0 = true := by decide +kernel
theorem x_case : beat_Case (cellX []) 2 1 false = some (caseL (cellX []) (nd (cellX []) 2 1), 0) := by
  rw [Case_eq _ ok_cell0, x_good, x_can]
  rw [show spotB (cellX []) 2 1 = true by decide +kernel]
  rfl
theorem x_case5 : off (caseL (cellX []) (nd (cellX []) 2 1)) 2 1 = -5 := by decide +kernel
theorem x_wrong : beat_Wrong (cellX tornX) = some ([1], 0) := by
  rw [Wrong_eq _ ok_cell1]
  have h1 : goodB (cellX tornX) = true := by decide +kernel
  have h2 : wrongF (cellX tornX) = some ([1], 2) := by decide +kernel
  rw [h1, h2]; rfl
theorem x_best : beat_Best (cellX []) 3 = some (1, 1, 0) := by
  rw [Best_eq _ ok_cell0, x_good, x_can]
  have h1 : inB 3 0 (cellX []).Hours = true := by decide
  have h2 : bestF (wOf (cellX []) 3) (cellX []).Rates.length = (1, 1) := by decide +kernel
  rw [h1, h2]; rfl
theorem range_ok {c : BeatCellar} {o : List (List Int)} (hx : goodB c = true) (hs : shapeB c o = true) (hr : rangeB o = true) : OkL (OkL InR) o := by
  have hC := OkC.of hx
  have hw := hC.w
  have k2 := hC.k2
  simp only [shapeB, Bool.and_eq_true, decide_eq_true_eq] at hs
  refine ⟨by omega, fun l hl => ?_⟩
  have h1 := List.all_eq_true.1 hs.2 l hl
  simp only [decide_eq_true_eq] at h1
  refine ⟨by omega, fun n hn => ?_⟩
  have h2 := List.all_eq_true.1 (List.all_eq_true.1 hr l hl) n hn
  simp only [inB, Bool.and_eq_true, decide_eq_true_eq] at h2
  exact inr_small (by omega) (by omega)
theorem caseL_ok {c : BeatCellar} (hx : goodB c = true) (hcan : Can c 0) {b : Nat} (hb : b < cnt c) : OkL (OkL InR) (caseL c b) ∧ truthB c (caseL c b) = true := by
  have hf := caseL_truth hx hcan hb
  exact ⟨range_ok hx (caseL_shape c b) (range_of hx (caseL_shape c b) hf), (truth_iff hx _).2 ⟨caseL_shape c b, hf⟩⟩
theorem off_idx {c : BeatCellar} {o : List (List Int)} (hs : shapeB c o = true) {k h : Int} (h1 : 0 ≤ k) (h2 : k < c.Rates.length) (h3 : 0 ≤ h) (h4 : h < wid c) : ∃ l, idx o k = some l ∧ idx l h = some (off o k h) := by
  obtain ⟨g1, g2, g3⟩ := off_get hs (k := k.toNat) (h := h.toNat) (by omega) (by omega)
  rw [Int.toNat_of_nonneg h1, Int.toNat_of_nonneg h3] at g3
  refine ⟨o[k.toNat], ?_, ?_⟩
  · have := idx_get g1; rwa [Int.toNat_of_nonneg h1] at this
  · have := idx_get g2; rwa [Int.toNat_of_nonneg h3, ← g3] at this
theorem works_eq : remontoirlaw02_works = some true := by
  have hcan := (canB_iff x_good 0).1 x_can
  have hb : nd (cellX []) 2 1 < cnt (cellX []) := by decide +kernel
  obtain ⟨hok, htr⟩ := caseL_ok x_good hcan hb
  obtain ⟨l, e1, e2⟩ := off_idx (caseL_shape (cellX []) (nd (cellX []) 2 1)) (k := 2) (h := 1) (by decide) (by decide) (by decide) (by decide)
  rw [x_case5] at e2
  unfold remontoirlaw02_works
  simp only [cell_eq [] (by simp), cell_eq tornX (by simp [tornX]), torn_eq, bind_s, x_offset, x_apart, x_drift, x_case, x_wrong, x_best, r0To, Alike_eq [1] [1] (by decide), IsTruth_eq _ ok_cell0 _ hok, x_good, htr, if_true, e1, e2]
  rfl
end Go.Proofs.YtpniidbbbhbglaaDoor.Rt
