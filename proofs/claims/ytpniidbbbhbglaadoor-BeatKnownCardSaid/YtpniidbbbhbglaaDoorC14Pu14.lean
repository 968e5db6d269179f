/- What the pure function of BeatKnown comes to: true. Under no conditions. -/
import Derived.Test.YtpniidbbbhbglaaDoorC14L14a
import Derived.Test.YtpniidbbbhbglaaDoorC14PD
set_option linter.unusedVariables false
set_option linter.unusedSimpArgs false
set_option maxRecDepth 100000
set_option maxHeartbeats 4000000
namespace Go.Proofs.YtpniidbbbhbglaaDoor.Rt
open Go Go.RowKit
def smB (x : Int) : Bool := decide (-1000000 ≤ x) && decide (x ≤ 1000000)
theorem smB_ok {x : Int} (h : smB x = true) : InR x := by
  simp only [smB, Bool.and_eq_true, decide_eq_true_eq] at h
  exact inr_small (by omega) (by omega)
def smS (s : Span) : Bool := smB s.Low && smB s.High
theorem smS_ok {s : Span} (h : smS s = true) : Ok_Span s := by
  simp only [smS, Bool.and_eq_true] at h
  exact ⟨smB_ok h.1, smB_ok h.2⟩
def okCB (c : BeatCellar) : Bool := smB c.Hours && (decide (c.Rates.length ≤ 100) && c.Rates.all smS) && (decide (c.Opens.length ≤ 100) && c.Opens.all fun o => smB o.Clock && smB o.Hour && smS o.Step) && (decide (c.Pairs.length ≤ 100) && c.Pairs.all fun p => smB p.Hour && smB p.One && smB p.Other && smS p.Read)
theorem okCB_ok {c : BeatCellar} (h : okCB c = true) : Ok_BeatCellar c := by
  simp only [okCB, Bool.and_eq_true, decide_eq_true_eq, List.all_eq_true] at h
  obtain ⟨⟨⟨h1, h2, h3⟩, h4, h5⟩, h6, h7⟩ := h
  refine ⟨smB_ok h1, ⟨by omega, fun x hx => smS_ok (h3 x hx)⟩, ⟨by omega, fun x hx => ?_⟩, ⟨by omega, fun x hx => ?_⟩⟩
  · obtain ⟨⟨a, b⟩, d⟩ := h5 x hx
    exact ⟨smB_ok a, smB_ok b, smS_ok d⟩
  · obtain ⟨⟨⟨a, b⟩, d⟩, e⟩ := h7 x hx
    exact ⟨smB_ok a, smB_ok b, smB_ok d, smS_ok e⟩
def okOB (o : List (List Int)) : Bool := decide (o.length ≤ 100) && o.all fun l => decide (l.length ≤ 100) && l.all smB
theorem okOB_ok {o : List (List Int)} (h : okOB o = true) : OkL (OkL InR) o := by
  simp only [okOB, Bool.and_eq_true, decide_eq_true_eq, List.all_eq_true] at h
  refine ⟨by omega, fun l hl => ?_⟩
  obtain ⟨a, b⟩ := h.2 l hl
  exact ⟨by omega, fun n hn => smB_ok (b n hn)⟩
def rX : List Span := [⟨-2, 3⟩, ⟨0, 1⟩, ⟨-10, 10⟩]
def oX : List BeatOpen := [⟨2, 1, ⟨-50, 50⟩⟩]
def pX : List BeatPair := [⟨0, 0, -1, ⟨100, 104⟩⟩, ⟨1, 0, 1, ⟨40, 44⟩⟩, ⟨3, 1, -1, ⟨60, 61⟩⟩, ⟨3, 2, 1, ⟨5, 5⟩⟩]
def badC : List BeatCellar := [⟨0, [], [], []⟩, ⟨13, rX, oX, pX⟩, ⟨3, [⟨0, 1001⟩, ⟨0, 1⟩, ⟨-10, 10⟩], oX, pX⟩, ⟨3, rX, [⟨3, 1, ⟨-50, 50⟩⟩], pX⟩, ⟨3, rX, [⟨2, 3, ⟨-50, 50⟩⟩], pX⟩, ⟨3, rX, [⟨2, 1, ⟨1, 0⟩⟩], pX⟩,
  ⟨3, rX, oX, [⟨4, 0, -1, ⟨100, 104⟩⟩, ⟨1, 0, 1, ⟨40, 44⟩⟩, ⟨3, 1, -1, ⟨60, 61⟩⟩, ⟨3, 2, 1, ⟨5, 5⟩⟩]⟩, ⟨3, rX, oX, [⟨0, 0, -1, ⟨100, 104⟩⟩, ⟨1, 0, 0, ⟨40, 44⟩⟩, ⟨3, 1, -1, ⟨60, 61⟩⟩, ⟨3, 2, 1, ⟨5, 5⟩⟩]⟩,
  ⟨3, rX, oX, [⟨0, 0, -1, ⟨100, 104⟩⟩, ⟨1, -1, 1, ⟨40, 44⟩⟩, ⟨3, 1, -1, ⟨60, 61⟩⟩, ⟨3, 2, 1, ⟨5, 5⟩⟩]⟩, ⟨3, rX, oX, [⟨0, 0, -1, ⟨100, 104⟩⟩, ⟨1, 0, 1, ⟨40, 44⟩⟩, ⟨3, 1, -1, ⟨0, 200001⟩⟩, ⟨3, 2, 1, ⟨5, 5⟩⟩]⟩]
theorem kn_bad : (badC.all fun c => okCB c && !goodB c) = true := by decide +kernel
def far3 : BeatCellar := ⟨1, [⟨0, 0⟩], [⟨0, 0, ⟨100000, 100000⟩⟩, ⟨0, 0, ⟨100000, 100000⟩⟩, ⟨0, 0, ⟨1, 1⟩⟩], []⟩
def far2 : BeatCellar := ⟨1, [⟨0, 0⟩], [⟨0, 0, ⟨100000, 100000⟩⟩, ⟨0, 0, ⟨100000, 100000⟩⟩], []⟩
theorem kn_far : okCB far3 = true ∧ okCB far2 = true ∧ goodB far3 = true ∧ wrongF far3 = none := by decide +kernel
theorem kn_good1 : goodB (cellX tornX) = true ∧ canB (cellX tornX) 0 = false := by decide +kernel
theorem kn_spots : spotB (cellX tornX) 3 0 = false ∧ spotB (cellX []) 0 4 = false ∧ (spotB (cellX []) 0 0 && spotB (cellX []) (-1) 0) = false ∧ (spotB (cellX []) 0 (-1) && spotB (cellX []) (-1) 0) = false ∧ (spotB (cellX []) 0 0 && spotB (cellX []) 0 4) = false ∧ spotB (cellX []) (-1) 0 = false ∧ inB (-1) 0 (cellX tornX).Hours = false ∧ spotB (cellX tornX) 0 0 = true ∧ inB 0 0 (cellX tornX).Hours = true ∧ inB 0 0 (cellX []).Hours = true := by decide +kernel
theorem kn_apart : (spotB (cellX []) 0 0 && spotB (cellX []) (-1) 0) = false := by decide +kernel
theorem a1 : (ans (cellX tornX) (spotB (cellX tornX) 3 0) (told (cellX tornX) 0 (nd (cellX tornX) 3 0) 0)).2 = 21 := by unfold ans; rw [kn_good1.1, kn_spots.1]; rfl
theorem a2 : (ans (cellX []) (spotB (cellX []) 0 4) (told (cellX []) 0 (nd (cellX []) 0 4) 0)).2 = 21 := by unfold ans; rw [x_good, kn_spots.2.1]; rfl
theorem ans_no {c : BeatCellar} (hg : goodB c = true) {b : Bool} (hb : b = false) (s : Span) : (ans c b s).2 = 21 := by subst hb; unfold ans; rw [hg]; rfl
theorem ans_false {c : BeatCellar} (hg : goodB c = true) (hc : canB c 0 = false) {b : Bool} (hb : b = true) (s : Span) : (ans c b s).2 = 22 := by subst hb; unfold ans; rw [hg, hc]; rfl
theorem ans_bad {c : BeatCellar} (hg : goodB c = false) (b : Bool) (s : Span) : (ans c b s).2 = 20 := by unfold ans; rw [hg]; rfl
theorem k_off1 : beat_Offset far2 0 1 = some (⟨100000, 100000⟩, 0) := by
  rw [Offset_eq _ (okCB_ok kn_far.2.1)]; exact congrArg some (of_numsA (by decide +kernel))
theorem k_off2 : beat_Offset (cellX []) 2 1 = some (⟨-5, 136⟩, 0) := by
  rw [Offset_eq _ ok_cell0]; exact congrArg some (of_numsA (by decide +kernel))
theorem k_apart : beat_Apart (cellX []) 1 1 2 = some (⟨0, 0⟩, 0) := by
  rw [Apart_eq _ ok_cell0]; exact congrArg some (of_numsA (by decide +kernel))
theorem k_drift : beat_Drift (cellX []) 1 3 0 = some (⟨-3, 0⟩, 0) := by
  rw [Drift_eq _ ok_cell0]; exact congrArg some (of_numsA (by decide +kernel))
theorem k_wrong : ∃ q, wrongF (cellX []) = some q ∧ q.1 = [] := ⟨([], 0), by decide +kernel, rfl⟩
theorem k_wrong' : beat_Wrong (cellX []) = some ([], 0) := by
  obtain ⟨q, h1, h2⟩ := k_wrong
  rw [Wrong_eq _ ok_cell0, x_good, h1]
  show some (q.1, (0 : Int)) = _
  rw [h2]
theorem k_best : beat_Best (cellX []) 0 = some (0, 4, 0) := by
  rw [Best_eq _ ok_cell0, x_good, x_can, kn_spots.2.2.2.2.2.2.2.2.2]
  have h2 : bestF (wOf (cellX []) 0) (cellX []).Rates.length = (0, 4) := by decide +kernel
  rw [h2]; rfl
def t1 : List (List Int) := [[100, 98, 98, 98], [57, 58, 59, 60], [65, 65, 65]]
def t2 : List (List Int) := [[100, 98, 98, 98], [57, 58, 59, 60], [65, 65, 65, 65]]
theorem k_truth : okOB t1 = true ∧ okOB t2 = true ∧ truthB (cellX []) t1 = false ∧ truthB (cellX []) t2 = true := by decide +kernel
theorem k_t1 : beat_IsTruth (cellX []) t1 = some (false, 0) := by rw [IsTruth_eq _ ok_cell0 _ (okOB_ok k_truth.1), x_good, if_pos rfl, k_truth.2.2.1]
theorem k_t2 : beat_IsTruth (cellX []) t2 = some (true, 0) := by rw [IsTruth_eq _ ok_cell0 _ (okOB_ok k_truth.2.1), x_good, if_pos rfl, k_truth.2.2.2]
theorem known_k2 : remontoirlaw02_BeatKnown_k2 (⟨100000, 100000⟩, 0) (⟨-5, 136⟩, 0) (⟨0, 0⟩, 0) (⟨-3, 0⟩, 0) ([], 0) (0, 4, 0) (false, 0) true 0 = some true := by
  unfold remontoirlaw02_BeatKnown_k2
  rw [works_eq]
  rfl
theorem k_case1 : beat_Case (cellX []) (-1) 0 true = some ([], 21) := by rw [Case_eq _ ok_cell0, x_good, kn_spots.2.2.2.2.2.1]; rfl
theorem k_case2 : beat_Case (cellX tornX) 0 0 true = some ([], 22) := by rw [Case_eq _ ok_cell1, kn_good1.1, kn_good1.2, kn_spots.2.2.2.2.2.2.2.1]; rfl
theorem k_best1 : beat_Best (cellX tornX) (-1) = some (0, 0, 21) := by rw [Best_eq _ ok_cell1, kn_good1.1, kn_spots.2.2.2.2.2.2.1]; rfl
theorem k_best2 : beat_Best (cellX tornX) 0 = some (0, 0, 22) := by rw [Best_eq _ ok_cell1, kn_good1.1, kn_good1.2, kn_spots.2.2.2.2.2.2.2.2.1]; rfl
theorem k_wrong3 : beat_Wrong far3 = some ([], 22) := by rw [Wrong_eq _ (okCB_ok kn_far.1), kn_far.2.2.1, kn_far.2.2.2]; rfl
theorem known_s1 (v : Bool) : remontoirlaw02_BeatKnown_s1 v = some true := by
  have c0 := cell_eq [] (by simp)
  have c1 := cell_eq tornX (by simp [tornX])
  have e3 : (spotB (cellX []) 0 0 && spotB (cellX []) (-1) 0) = false := kn_apart
  unfold remontoirlaw02_BeatKnown_s1
  rw [torn_eq, bind_s, c1, bind_s, Offset_eq _ ok_cell1, bind_s, c0, bind_s, Offset_eq _ ok_cell0, bind_s, bind_s, Apart_eq _ ok_cell0, bind_s, bind_s, Drift_eq _ ok_cell0, bind_s, bind_s, k_case1, bind_s, bind_s, c1, bind_s, k_best1, bind_s]
  rw [a1, a2, ans_no x_good (by decide +kernel), ans_no x_good (by decide +kernel)]
  simp only [bne_self_eq_false, Bool.or_self, cond_false]
  rw [bind_s, c1, bind_s, Offset_eq _ ok_cell1, bind_s, bind_s, c1, bind_s, Apart_eq _ ok_cell1, bind_s, bind_s, c1, bind_s, Drift_eq _ ok_cell1, bind_s, bind_s, c1, bind_s, k_case2, bind_s, bind_s, c1, bind_s, k_best2, bind_s]
  rw [ans_false kn_good1.1 kn_good1.2 (by decide +kernel), ans_false kn_good1.1 kn_good1.2 (by decide +kernel)]
  rw [show r0To 100000 100000 = some ⟨100000, 100000⟩ from rfl, show r0To 1 1 = some ⟨1, 1⟩ from rfl, bind_s, bind_s, bind_s]
  rw [show BeatCellar.mk 1 [Span.mk 0 0] [BeatOpen.mk 0 0 ⟨100000, 100000⟩, BeatOpen.mk 0 0 ⟨100000, 100000⟩, BeatOpen.mk 0 0 ⟨1, 1⟩] [] = far3 from rfl, k_wrong3, bind_s]
  simp only [bne_self_eq_false, Bool.or_self, cond_false]
  show (if (0 : Int) ≤ 2 ∧ (2 : Int) ≤ ((3 : Nat) : Int) then ((beat_Offset far2 0 1).bind _) else none) = _
  rw [if_pos (by decide), k_off1, bind_s, bind_s, k_off2, bind_s, bind_s, k_apart, bind_s, bind_s, k_drift, bind_s, bind_s, k_wrong', bind_s, bind_s, k_best, bind_s, bind_s]
  show ((beat_IsTruth (cellX []) t1).bind _) = _
  rw [k_t1, bind_s, bind_s]
  show ((beat_IsTruth (cellX []) t2).bind _) = _
  rw [k_t2, bind_s]
  exact known_k2
theorem pure_14 : remontoirlaw02_BeatKnown = some true := by
  have key : loopU (remontoirlaw02_BeatKnown_b1 badC) (false, 0) = some true := by
    refine loopU_for (fun i (s : Bool × Int) => s = (false, (i : Int))) badC.length (Post := fun o => o = some true) rfl ?_ ?_
    · rintro i _ hi rfl
      refine ⟨(false, ((i + 1 : Nat) : Int)), ?_, rfl⟩
      unfold remontoirlaw02_BeatKnown_b1
      have hp := List.all_eq_true.1 kn_bad _ (List.getElem_mem hi)
      simp only [show decide ((i : Int) < (badC.length : Int)) = true from by simp; omega, cond_true, idx_get hi, bind_s]
      generalize badC[i] = c at hp
      simp only [Bool.and_eq_true, Bool.not_eq_true'] at hp
      have hO := okCB_ok hp.1
      have hb := hp.2
      simp only [IsTruth_eq _ hO _ (okOB_ok (o := []) (by decide)), Offset_eq _ hO, Apart_eq _ hO, Drift_eq _ hO, Case_eq _ hO, Wrong_eq _ hO, Best_eq _ hO, beat_Check_eq _ hO, bind_s, hb, ans_bad hb]
      show nxt (false, wr ((i : Int) + 1)) = _
      rw [wr_id' (by omega) (by have : badC.length = 10 := rfl; omega)]
      rfl
    · rintro _ rfl
      refine ⟨some true, ?_, rfl⟩
      unfold remontoirlaw02_BeatKnown_b1
      simp only [show decide ((badC.length : Int) < (badC.length : Int)) = false from by simp, cond_false, known_s1]
  unfold remontoirlaw02_BeatKnown
  simp only [cell_eq [] (by simp), bind_s]
  exact key
end Go.Proofs.YtpniidbbbhbglaaDoor.Rt
