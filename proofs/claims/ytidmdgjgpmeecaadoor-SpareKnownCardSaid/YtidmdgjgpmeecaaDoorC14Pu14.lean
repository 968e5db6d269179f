/- What the pure function of SpareKnown comes to: true. Under no conditions. -/
import Derived.Test.YtidmdgjgpmeecaaDoorC14L14a
import Derived.Test.YtidmdgjgpmeecaaDoorC14PI
set_option linter.unusedVariables false
set_option linter.unusedSimpArgs false
set_option maxRecDepth 100000
set_option maxHeartbeats 4000000
namespace Go.Proofs.YtidmdgjgpmeecaaDoor.Rt
open Go Go.RowKit
def smB (x : Int) : Bool := decide (-1000000 ≤ x) && decide (x ≤ 1000000)
theorem smB_ok {x : Int} (h : smB x = true) : InR x := by
  simp only [smB, Bool.and_eq_true, decide_eq_true_eq] at h
  exact inr_small (by omega) (by omega)
def okSB (s : SpareStore) : Bool := smB s.Hours && smB s.Gap && (decide (s.Machines.length ≤ 100) && s.Machines.all fun m => smB m.From && smB m.Warm && smB m.Life.Low && smB m.Life.High && smB m.Drift)
theorem okSB_ok {s : SpareStore} (h : okSB s = true) : Ok_SpareStore s := by
  simp only [okSB, Bool.and_eq_true, decide_eq_true_eq, List.all_eq_true] at h
  obtain ⟨⟨h1, h2⟩, h3, h4⟩ := h
  refine ⟨smB_ok h1, smB_ok h2, ⟨by omega, fun x hx => ?_⟩⟩
  obtain ⟨⟨⟨⟨a, b⟩, c⟩, d⟩, e⟩ := h4 x hx
  exact ⟨smB_ok a, smB_ok b, ⟨smB_ok c, smB_ok d⟩, smB_ok e⟩
def okTB (l : List SpareTurn) : Bool := decide (l.length ≤ 100) && l.all fun t => smB t.Machine && smB t.Start && smB t.Over
theorem okTB_ok {l : List SpareTurn} (h : okTB l = true) : OkL Ok_SpareTurn l := by
  simp only [okTB, Bool.and_eq_true, decide_eq_true_eq, List.all_eq_true] at h
  refine ⟨by omega, fun x hx => ?_⟩
  obtain ⟨⟨a, b⟩, c⟩ := h.2 x hx
  exact ⟨smB_ok a, smB_ok b, smB_ok c⟩
def badS : List SpareStore := [⟨0, 0, []⟩, storeX 0, storeX 501, ⟨20, 1001, (storeX 20).Machines⟩, ⟨20, 10, [⟨-501, 2, ⟨12, 20⟩, 1⟩, ⟨5, 3, ⟨9, 30⟩, 0⟩, ⟨-4, 4, ⟨10, 10⟩, 3⟩]⟩, ⟨20, 10, [⟨-10, 501, ⟨12, 20⟩, 1⟩, ⟨5, 3, ⟨9, 30⟩, 0⟩, ⟨-4, 4, ⟨10, 10⟩, 3⟩]⟩,
  ⟨20, 10, [⟨-10, 2, ⟨12, 20⟩, 1⟩, ⟨5, 3, ⟨9, 8⟩, 0⟩, ⟨-4, 4, ⟨10, 10⟩, 3⟩]⟩, ⟨20, 10, [⟨-10, 2, ⟨12, 20⟩, 1⟩, ⟨5, 3, ⟨9, 501⟩, 0⟩, ⟨-4, 4, ⟨10, 10⟩, 3⟩]⟩, ⟨20, 10, [⟨-10, 2, ⟨12, 20⟩, 1⟩, ⟨5, 3, ⟨9, 30⟩, 0⟩, ⟨-4, 4, ⟨10, 10⟩, -1⟩]⟩]
theorem kn_bad : (badS.all fun s => okSB s && !goodB s) = true := by decide +kernel
def noP : List (List SpareTurn) := [[], [⟨0, -2, 0⟩, ⟨1, 6, 10⟩, ⟨2, 12, 16⟩], [⟨0, -2, 0⟩, ⟨1, 7, 9⟩, ⟨2, 12, 16⟩], [⟨0, -3, 0⟩, ⟨1, 7, 10⟩, ⟨2, 12, 16⟩], [⟨0, -2, 0⟩, ⟨1, 7, 10⟩, ⟨2, 8, 16⟩], [⟨0, -2, 0⟩, ⟨1, 7, 10⟩, ⟨1, 12, 16⟩],
  [⟨0, -2, 0⟩, ⟨3, 7, 10⟩, ⟨2, 12, 16⟩], [⟨0, -2, 0⟩, ⟨1, 7, 10⟩], [⟨0, -2, 1⟩]]
theorem kn_no : (noP.all fun l => okTB l && decide (isPlanF (storeX 20) l = (false, 0))) = true := by decide +kernel
def oneX : SpareStore := ⟨1, 0, [⟨1, 0, ⟨9, 9⟩, 0⟩]⟩
theorem kn_s1 : (lastsF (storeX 20) 3).2.2 = 81 ∧ (silentF (storeX 20) [] []).2 = 81 ∧ (silentF (storeX 20) turnsX [12, 9]).2 = 81 ∧ (silentF (storeX 20) turnsX [12, 9, 501]).2 = 81 := by decide +kernel
theorem kn_few : (fewestF (storeX 23)).2 = 4 ∧ fewF (storeX 23) = 100 ∧ goodB (storeX 23) = true := by decide +kernel
theorem kn_need : (needF (storeX 23)).2 = 4 := by decide +kernel
theorem kn_pair : (pairF (storeX 20)).2 = 4 := by decide +kernel
theorem kn_lasts : lastsF (storeX 20) 0 = (10, 10, 0) := by decide +kernel
theorem kn_fewest : fewestF (storeX 16) = (2, 0) ∧ fewestF (storeX 6) = (1, 0) ∧ fewestF (storeX 22) = (3, 0) := by decide +kernel
theorem kn_need6 : needF (storeX 6) = ([], 0) := by decide +kernel
theorem kn_silent : silentF (storeX 20) turnsX [12, 9, 10] = ([], 0) := by decide +kernel
theorem kn_reach : reachF oneX = (0, 0) ∧ okSB oneX = true := by decide +kernel
theorem known_s2 (v : Bool) (a b c d e f g : Int) : remontoirlaw08_SpareKnown_s2 v a b c d e f g = some true := by
  have h20 := ok_storeX (h := 20) (by decide) (by decide)
  have h16 := ok_storeX (h := 16) (by decide) (by decide)
  have h22 := ok_storeX (h := 22) (by decide) (by decide)
  have h6 := ok_storeX (h := 6) (by decide) (by decide)
  unfold remontoirlaw08_SpareKnown_s2
  simp only [store_eq, turns_eq, bind_s, Lasts_eq _ h20, Fewest_eq _ h16, Fewest_eq _ h6, Fewest_eq _ h22, Need_eq _ h6, Silent_eq _ h20 _ ok_turnsX [12, 9, 10] (by decide), kn_lasts, kn_fewest.1, kn_fewest.2.1, kn_fewest.2.2, kn_need6, kn_silent]
  show ((spare_Reach oneX).bind _) = _
  rw [Reach_eq _ (okSB_ok kn_reach.2), kn_reach.1, bind_s]
  unfold remontoirlaw08_SpareKnown_k3
  rw [works_eq]
  rfl
theorem known_b2 {r20 : Int × Int × Int} {r22 r25 r28 r34 : List Int × Int} {r30 : Int × Int} {r32 : List SpareTurn × Int} (v : Bool) : loopU (remontoirlaw08_SpareKnown_b2 r20 r22 r25 r28 r30 r32 r34 noP) (v, 0) = some true := by
  have h20 := ok_storeX (h := 20) (by decide) (by decide)
  refine loopU_for (fun i (s : Bool × Int) => s = (v, (i : Int))) noP.length (Post := fun o => o = some true) rfl ?_ ?_
  · rintro i _ hi rfl
    refine ⟨(v, ((i + 1 : Nat) : Int)), ?_, rfl⟩
    unfold remontoirlaw08_SpareKnown_b2
    have hp := List.all_eq_true.1 kn_no _ (List.getElem_mem hi)
    simp only [Bool.and_eq_true, decide_eq_true_eq] at hp
    simp only [lt_t hi, cond_true, store_eq, bind_s, idx_get hi, IsPlan_eq _ h20 _ (okTB_ok hp.1), hp.2]
    show nxt (v, wr ((i : Int) + 1)) = _
    rw [wr_id' (by omega) (by have : noP.length = 9 := rfl; omega)]
    rfl
  · rintro _ rfl
    refine ⟨some true, ?_, rfl⟩
    unfold remontoirlaw08_SpareKnown_b2
    simp only [lt_f, cond_false, known_s2]
theorem known_s1 (v : Bool) : remontoirlaw08_SpareKnown_s1 v = some true := by
  have h20 := ok_storeX (h := 20) (by decide) (by decide)
  have h23 := ok_storeX (h := 23) (by decide) (by decide)
  obtain ⟨hp, hq⟩ : fewF (storeX 23) = 100 ∧ spare_Plan (storeX 23) = some ([], 4) := by
    rcases Plan_good h23 (OkS.of kn_few.2.2) with h | ⟨h, _⟩
    · exact h
    · exact absurd kn_few.2.1 h
  unfold remontoirlaw08_SpareKnown_s1
  simp only [store_eq, turns_eq, bind_s, Lasts_eq _ h20, Silent_eq _ h20 _ (okTB_ok (l := []) (by decide)) [] (by decide), Silent_eq _ h20 _ ok_turnsX [12, 9] (by decide), Silent_eq _ h20 _ ok_turnsX [12, 9, 501] (by decide), Fewest_eq _ h23, hq, Need_eq _ h23, Pair_eq _ h20, kn_s1.1, kn_s1.2.1, kn_s1.2.2.1, kn_s1.2.2.2, kn_few.1, kn_need, kn_pair]
  show (if (0 : Int) ≤ 2 ∧ 2 ≤ (turnsX.length : Int) then _ else none) = _
  rw [if_pos (by decide)]
  exact known_b2 v
theorem pure_14 : remontoirlaw08_SpareKnown = some true := by
  have key : loopU (remontoirlaw08_SpareKnown_b1 badS) (false, 0) = some true := by
    refine loopU_for (fun i (s : Bool × Int) => s = (false, (i : Int))) badS.length (Post := fun o => o = some true) rfl ?_ ?_
    · rintro i _ hi rfl
      refine ⟨(false, ((i + 1 : Nat) : Int)), ?_, rfl⟩
      unfold remontoirlaw08_SpareKnown_b1
      have hp := List.all_eq_true.1 kn_bad _ (List.getElem_mem hi)
      simp only [lt_t hi, cond_true, idx_get hi, bind_s]
      generalize badS[i] = s at hp
      simp only [Bool.and_eq_true, Bool.not_eq_true'] at hp
      have hO := okSB_ok hp.1
      have hb := hp.2
      have n0 : OkL Ok_SpareTurn [] := okTB_ok (by decide)
      have e1 : (lastsF s (-1)).2.2 = 80 := by unfold lastsF; rw [hb]; rfl
      have e2 : (isPlanF s []).2 = 80 := by unfold isPlanF; rw [hb]; rfl
      have e3 : (fewestF s).2 = 80 := by unfold fewestF; rw [hb]; rfl
      have e4 : (reachF s).2 = 80 := by unfold reachF; rw [hb]; rfl
      have e5 : (needF s).2 = 80 := by unfold needF; rw [hb]; rfl
      have e6 : (pairF s).2 = 80 := by unfold pairF; rw [hb]; rfl
      have e7 : (silentF s [] []).2 = 80 := by unfold silentF; rw [hb]; rfl
      simp only [Lasts_eq _ hO, IsPlan_eq _ hO _ n0, Fewest_eq _ hO, Plan_bad _ hO hb, Reach_eq _ hO, Need_eq _ hO, Pair_eq _ hO, Silent_eq _ hO _ n0 [] (by decide), spare_Check_eq _ hO, bind_s, hb, e1, e2, e3, e4, e5, e6, e7]
      show nxt (false, wr ((i : Int) + 1)) = _
      rw [wr_id' (by omega) (by have : badS.length = 9 := rfl; omega)]
      rfl
    · rintro _ rfl
      refine ⟨some true, ?_, rfl⟩
      unfold remontoirlaw08_SpareKnown_b1
      simp only [lt_f, cond_false, known_s1]
  exact key
end Go.Proofs.YtidmdgjgpmeecaaDoor.Rt
