/- What the pure function of LineKnown comes to: true. Under no conditions. -/
import Derived.Test.YthdbokigcfbgeaaDoorC14L14
import Derived.Test.YthdbokigcfbgeaaDoorC14QJ
set_option linter.unusedVariables false
set_option linter.unusedSimpArgs false
set_option maxRecDepth 100000
set_option maxHeartbeats 4000000
namespace Go.Proofs.YthdbokigcfbgeaaDoor.Rt
open Go Go.RowKit
def smB (x : Int) : Bool := decide (-1000000 ≤ x) && decide (x ≤ 1000000)
theorem smB_ok {x : Int} (h : smB x = true) : InR x := by
  simp only [smB, Bool.and_eq_true, decide_eq_true_eq] at h
  exact inR_c h.1 h.2
def okNB (n : LineNet) : Bool := smB n.Exchanges && smB n.Hops && (decide (n.Lines.length ≤ 100) && n.Lines.all fun x => smB x.From && smB x.To && smB x.Delay.Low && smB x.Delay.High) && (decide (n.Loops.length ≤ 100) && n.Loops.all fun x => smB x.Exchange && smB x.Read.Low && smB x.Read.High)
theorem okNB_ok {n : LineNet} (h : okNB n = true) : Ok_LineNet n := by
  simp only [okNB, Bool.and_eq_true, decide_eq_true_eq, List.all_eq_true] at h
  obtain ⟨⟨⟨h1, h2⟩, h3, h4⟩, h5, h6⟩ := h
  refine ⟨smB_ok h1, ⟨by omega, fun x hx => ?_⟩, smB_ok h2, ⟨by omega, fun x hx => ?_⟩⟩
  · obtain ⟨⟨⟨a, b⟩, c⟩, d⟩ := h4 x hx
    exact ⟨smB_ok a, smB_ok b, smB_ok c, smB_ok d⟩
  · obtain ⟨⟨a, b⟩, c⟩ := h6 x hx
    exact ⟨smB_ok a, smB_ok b, smB_ok c⟩
def l0 : LineLine := ⟨0, 1, ⟨10, 12⟩⟩
def l1 : LineLine := ⟨1, 2, ⟨5, 6⟩⟩
def l2 : LineLine := ⟨0, 2, ⟨20, 30⟩⟩
def l3 : LineLine := ⟨2, 3, ⟨7, 7⟩⟩
def q0 : LineLoop := ⟨2, ⟨36, 50⟩⟩
def q1 : LineLoop := ⟨3, ⟨0, 100⟩⟩
def badN : List LineNet := [⟨0, [], 0, []⟩, ⟨8, [l0, l1, l2, l3], 3, [q0, q1]⟩, ⟨3, [l0, l1, l2, l3], 3, [q0, q1]⟩, ⟨5, [l0, l1, l2, l3], 7, [q0, q1]⟩, ⟨5, [⟨0, 0, ⟨10, 12⟩⟩, l1, l2, l3], 3, [q0, q1]⟩,
  ⟨5, [l0, ⟨-1, 2, ⟨5, 6⟩⟩, l2, l3], 3, [q0, q1]⟩, ⟨5, [l0, l1, ⟨0, 2, ⟨0, 1001⟩⟩, l3], 3, [q0, q1]⟩, ⟨5, [l0, l1, l2, l3], 3, [⟨5, ⟨36, 50⟩⟩, q1]⟩, ⟨5, [l0, l1, l2, l3], 3, [q0, ⟨3, ⟨0, 12001⟩⟩]⟩]
def lostF : LineNet := netF [⟨4, ⟨0, 12000⟩⟩]
def oneF : LineNet := ⟨(netF []).Exchanges, (netF []).Lines, 1, (netF []).Loops⟩
theorem kn_bad : (badN.all fun n => okNB n && !goodB n) = true := by decide +kernel
theorem kn_good : goodB (netF []) = true ∧ goodB (netF tornF) = true ∧ goodB lostF = true ∧ goodB oneF = true := by decide +kernel
theorem kn_err : errF (netF []) 4 = 4 ∧ errF (netF []) 5 = 61 ∧ errF (netF tornF) 2 = 62 ∧ errF lostF 4 = 4 ∧ errF (netF []) 0 = 0 ∧ errF (netF tornF) 3 = 0 ∧ errF (netF []) 2 = 0 ∧ errF (netF []) 1 = 0 ∧ errF oneF 2 = 0 ∧ errF oneF 3 = 4 := by decide +kernel
theorem kn_routes : routesF (netF []) 0 0 = [[]] ∧ routesF (netF []) 1 0 = [[0], [2, 1]] ∧ routesF oneF 2 0 = [[2]] := by decide +kernel
theorem kn_span : (spanF (netF []) 0).Low = 0 ∧ (spanF (netF []) 0).High = 0 ∧ (spanF (netF tornF) 3).Low = 22 ∧ (spanF (netF tornF) 3).High = 37 := by decide +kernel
theorem kn_can : anyF (netF []) 2 19 = false := by decide +kernel
theorem kn_corr : (spanF (netF []) 1).High - offF (spanF (netF []) 1) = 23 ∧ offF (spanF (netF []) 1) = 13 := by decide +kernel
theorem kn_cut : CutF (netF []) 4 = ([], [], 61) ∧ CutF (netF []) 3 = ([3], [], 0) := by decide +kernel
theorem kn_ok1 : okT lostF 4 = true ∧ listT 4 3 = [2] := by decide +kernel
theorem kn_min1 : ∀ u < 8, okT lostF u = true → leSB [2] (listT u 3) = true := by decide +kernel
theorem kn_left1 : IsLeft lostF [2] := ⟨⟨4, by decide, kn_ok1.2.symm, kn_ok1.1⟩, fun u hu ho => leSB_iff _ _ (kn_min1 u hu ho)⟩
theorem kn_ok2 : okT (netF []) 0 = true ∧ listT 0 2 = [] := by decide +kernel
theorem kn_min2 : ∀ u < 4, okT (netF []) u = true → leSB [] (listT u 2) = true := by decide +kernel
theorem kn_left2 : IsLeft (netF []) [] := ⟨⟨0, by decide, kn_ok2.2.symm, kn_ok2.1⟩, fun u hu ho => leSB_iff _ _ (kn_min2 u hu ho)⟩
theorem kn_ok3 : okT oneF 2 = true ∧ listT 2 2 = [1] := by decide +kernel
theorem kn_min3 : ∀ u < 4, okT oneF u = true → leSB [1] (listT u 2) = true := by decide +kernel
theorem kn_left3 : IsLeft oneF [1] := ⟨⟨2, by decide, kn_ok3.2.symm, kn_ok3.1⟩, fun u hu ho => leSB_iff _ _ (kn_min3 u hu ho)⟩
theorem wrong_is {n : LineNet} {R : List Int} (h : Ok_LineNet n) (hg : goodB n = true) (hl : IsLeft n R) : line_Wrong n = some (R, 0) := by
  obtain ⟨r, w1, w2⟩ := Wrong_eq h
  obtain ⟨w3, w4⟩ := w2.good hg
  rw [w1, show r = (R, 0) from Prod.ext (w4.uniq hl) w3]
theorem errF_bad {n : LineNet} (hg : goodB n = false) (e : Int) : errF n e = 60 := by unfold errF; rw [hg]; rfl
theorem known_k2 : remontoirlaw06_LineKnown_k2 ([[]], 0) (⟨0, 0⟩, 0) (⟨22, 37⟩, 0) (false, 0) (23, 13, 0) ([2], 0) ([], 0) ([[0], [2, 1]], 0) ([3], [], 0) ([[2]], 0) ([], 4) [1] 0 = some true := by
  have hB : ∀ l : List Int, l.length ≤ 10 → r0Alike l l = some true := fun l hl => by rw [Alike_eq l l (by omega), decide_eq_true rfl]
  have hA1 : r0AlikeRows [[0], [2, 1]] [[0], [2, 1]] = some true := by
    rw [AlikeRows_eq _ _ (by decide) (fun r hr => by
      simp only [List.mem_cons, List.not_mem_nil, or_false] at hr
      rcases hr with rfl | rfl <;> decide)]; rfl
  have hA2 : r0AlikeRows [[2]] [[2]] = some true := by
    rw [AlikeRows_eq _ _ (by decide) (fun r hr => by
      simp only [List.mem_cons, List.not_mem_nil, or_false] at hr
      rcases hr with rfl; decide)]; rfl
  unfold remontoirlaw06_LineKnown_k2
  simp only [hA1, hA2, hB [2] (by decide), hB [3] (by decide), hB [1] (by decide), works_eq, r0To]
  rfl
theorem known_loop : loopU (remontoirlaw06_LineKnown_b1 badN) (false, 0) = some true := by
  have hbad := kn_bad
  rw [List.all_eq_true] at hbad
  have hG := kn_good
  have o1 := good_Ok (OkS.of hG.1)
  have o2 := good_Ok (OkS.of hG.2.1)
  have o3 := good_Ok (OkS.of hG.2.2.1)
  have o4 := good_Ok (OkS.of hG.2.2.2)
  obtain ⟨e1, e2, e3, e4, e5, e6, e7, e8, e9, e10⟩ := kn_err
  refine loopU_for (fun i (q : Bool × Int) => q = (false, (i : Int))) badN.length (Post := fun o => o = some true) rfl ?_ ?_
  · rintro i _ hi rfl
    have hb := hbad _ (List.getElem_mem hi)
    rw [Bool.and_eq_true, Bool.not_eq_true'] at hb
    obtain ⟨hb1, hb2⟩ := hb
    have o := okNB_ok hb1
    obtain ⟨r, w1, w2⟩ := Wrong_eq o
    have hlen : badN.length = 9 := rfl
    refine ⟨_, ?_, rfl⟩
    unfold remontoirlaw06_LineKnown_b1
    dsimp only
    rw [lt_t hi, cond_true, idx_get hi, bind_s, Routes_eq o, Delay_eq o, Can_eq o, Correct_eq o, Surely_eq o, Cut_eq o, w1, line_Check_eq _ o, w2.bad hb2]
    simp only [RoutesF, DelayF, CanF, CorrectF, SurelyF, CutF, errF_bad hb2, hb2, bind_s]
    rw [wr_succ (by omega)]
    rfl
  · rintro _ rfl
    refine ⟨_, by unfold remontoirlaw06_LineKnown_b1; dsimp only; rw [lt_f, cond_false], ?_⟩
    have hR1 : RoutesF (netF []) 4 = ([], 4) := by unfold RoutesF; rw [e1]; rfl
    have hD1 : DelayF (netF []) 5 = (⟨0, 0⟩, 61) := by unfold DelayF; rw [e2]; rfl
    have hC1 : CanF (netF tornF) 2 20 = (false, 62) := by unfold CanF; rw [e3]; rfl
    have hK1 : CorrectF (netF []) 4 = (0, 0, 4) := by unfold CorrectF; rw [e1]; rfl
    have hU1 : SurelyF (netF tornF) 2 = ([], 62) := by unfold SurelyF; rw [e3]; rfl
    have hD2 : DelayF (netF tornF) 2 = (⟨0, 0⟩, 62) := by unfold DelayF; rw [e3]; rfl
    have hD3 : DelayF lostF 4 = (⟨0, 0⟩, 4) := by unfold DelayF; rw [e4]; rfl
    have hR2 : RoutesF (netF []) 0 = ([[]], 0) := by rw [RoutesF_ok e5, kn_routes.1]
    have hD4 : DelayF (netF []) 0 = (⟨0, 0⟩, 0) := by
      unfold DelayF; rw [if_pos e5, show spanF (netF []) 0 = ⟨(spanF (netF []) 0).Low, (spanF (netF []) 0).High⟩ from rfl, kn_span.1, kn_span.2.1]
    have hD5 : DelayF (netF tornF) 3 = (⟨22, 37⟩, 0) := by
      unfold DelayF; rw [if_pos e6, show spanF (netF tornF) 3 = ⟨(spanF (netF tornF) 3).Low, (spanF (netF tornF) 3).High⟩ from rfl, kn_span.2.2.1, kn_span.2.2.2]
    have hC2 : CanF (netF []) 2 19 = (false, 0) := by unfold CanF; rw [if_pos e7, kn_can]
    have hK2 : CorrectF (netF []) 1 = (23, 13, 0) := by unfold CorrectF; rw [if_pos e8, kn_corr.1, kn_corr.2]
    have hW1 := wrong_is o3 hG.2.2.1 kn_left1
    have hW2 := wrong_is o1 hG.1 kn_left2
    have hR3 : RoutesF (netF []) 1 = ([[0], [2, 1]], 0) := by rw [RoutesF_ok e8, kn_routes.2.1]
    have hR4 : RoutesF oneF 2 = ([[2]], 0) := by rw [RoutesF_ok e9, kn_routes.2.2]
    have hR5 : RoutesF oneF 3 = ([], 4) := by unfold RoutesF; rw [e10]; rfl
    have hW3 := wrong_is o4 hG.2.2.2 kn_left3
    have n1 : remontoirlaw06_net ([] : List LineLoop) = some (netF []) := net_eq [] (by simp)
    have n2 : remontoirlaw06_net tornF = some (netF tornF) := net_eq tornF (by decide)
    have n3 : remontoirlaw06_net [⟨4, ⟨0, 12000⟩⟩] = some lostF := net_eq _ (by decide)
    have r4 : ∀ e, line_Routes ⟨(netF []).Exchanges, (netF []).Lines, 1, (netF []).Loops⟩ e = some (RoutesF oneF e) := fun e => Routes_eq o4 e
    have w4 : line_Wrong ⟨(netF []).Exchanges, (netF []).Lines, 1, (netF []).Loops⟩ = some ([1], 0) := hW3
    simp only [n1, n2, torn_eq, bind_s, r0To, n3, Routes_eq o1, Delay_eq o1, Can_eq o1, Correct_eq o1, Surely_eq o1, Cut_eq o1, Delay_eq o2, Can_eq o2, Surely_eq o2, Delay_eq o3, hR1, hD1, hC1, hK1, hU1, kn_cut.1, hD2, hD3, hR2, hD4, hD5, hC2, hK2, hW1, hW2, hR3, kn_cut.2, r4, w4, hR4, hR5]
    exact known_k2
theorem pure_14 : remontoirlaw06_LineKnown = some true := by
  unfold remontoirlaw06_LineKnown
  have n1 : remontoirlaw06_net ([] : List LineLoop) = some (netF []) := net_eq [] (by simp)
  simp only [n1, bind_s]
  exact known_loop
end Go.Proofs.YthdbokigcfbgeaaDoor.Rt
