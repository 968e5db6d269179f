/- Plain laws of the line seat, part 10: the chapter's examples. Under the conditions that each names. -/
import Derived.Test.YthdbokigcfbgeaaDoorC14QI
set_option linter.unusedVariables false
set_option linter.unusedSimpArgs false
set_option maxRecDepth 100000
set_option maxHeartbeats 4000000
namespace Go.Proofs.YthdbokigcfbgeaaDoor.Rt
open Go Go.RowKit
def netF (more : List LineLoop) : LineNet := ⟨5, [⟨0, 1, ⟨10, 12⟩⟩, ⟨1, 2, ⟨5, 6⟩⟩, ⟨0, 2, ⟨20, 30⟩⟩, ⟨2, 3, ⟨7, 7⟩⟩], 3, [⟨2, ⟨36, 50⟩⟩, ⟨3, ⟨0, 100⟩⟩] ++ more⟩
def tornF : List LineLoop := [⟨2, ⟨70, 80⟩⟩]
theorem net_eq (more : List LineLoop) (h : more.length ≤ 1000) : remontoirlaw06_net more = some (netF more) := by
  unfold remontoirlaw06_net r0To
  simp only [bind_s]
  rw [if_pos (by simp only [List.length_cons, List.length_nil]; unfold lim; omega)]
  rfl
theorem torn_eq : remontoirlaw06_torn = some tornF := rfl
theorem ex_good : goodB (netF []) = true ∧ goodB (netF tornF) = true := by decide +kernel
theorem ex_err : errF (netF []) 3 = 0 ∧ errF (netF []) 2 = 0 := by decide +kernel
theorem ex_routes : routesF (netF []) 3 0 = [[2, 3], [0, 1, 3]] := by decide +kernel
theorem ex_span : (spanF (netF []) 3).Low = 22 ∧ (spanF (netF []) 3).High = 37 := by decide +kernel
theorem ex_can : anyF (netF []) 3 26 = false := by decide +kernel
theorem ex_corr : (spanF (netF []) 2).High - offF (spanF (netF []) 2) = 21 ∧ offF (spanF (netF []) 2) = 4 := by decide +kernel
theorem ex_sure : surelyF (netF []) 3 = [3] := by decide +kernel
theorem ex_cut : CutF (netF []) 2 = ([], [1, 2, 3], 0) := by decide +kernel
theorem ex_okT : okT (netF tornF) 4 = true ∧ listT 4 3 = [2] := by decide +kernel
def leSB (S T : List Int) : Bool := decide (S.length < T.length) || (decide (S.length = T.length) && (decide (S = T) || lexB S T))
theorem leSB_iff (S T : List Int) (h : leSB S T = true) : leS S T := by
  simp only [leSB, Bool.or_eq_true, Bool.and_eq_true, decide_eq_true_eq] at h
  exact h
theorem ex_min : ∀ u < 8, okT (netF tornF) u = true → leSB [2] (listT u 3) = true := by decide +kernel
theorem ex_left : IsLeft (netF tornF) [2] := ⟨⟨4, by decide, ex_okT.2.symm, ex_okT.1⟩, fun u hu ho => leSB_iff _ _ (ex_min u hu ho)⟩
theorem inR_c {x : Int} (h1 : -1000000 ≤ x) (h2 : x ≤ 1000000) : InR x := ⟨by omega, by omega⟩
theorem good_Ok {n : LineNet} (hS : OkS n) : Ok_LineNet n := by
  have := hS.e1; have := hS.e2; have := hS.h1; have := hS.h2; have := hS.nl; have := hS.no
  refine ⟨⟨by omega, by omega⟩, ⟨by omega, fun x hx => ?_⟩, ⟨by omega, by omega⟩, ⟨by omega, fun x hx => ?_⟩⟩
  · have h := OkL1.of (hS.l x hx)
    have := h.f1; have := h.f2; have := h.t1; have := h.t2; have := h.d1; have := h.d2; have := h.d3
    exact ⟨⟨by omega, by omega⟩, ⟨by omega, by omega⟩, ⟨by omega, by omega⟩, ⟨by omega, by omega⟩⟩
  · have h := OkO1.of (hS.o x hx)
    have := h.e1; have := h.e2; have := h.r1; have := h.r2; have := h.r3
    exact ⟨⟨by omega, by omega⟩, ⟨by omega, by omega⟩, ⟨by omega, by omega⟩⟩
theorem works_eq : remontoirlaw06_works = some true := by
  have hS1 := OkS.of ex_good.1
  have hS2 := OkS.of ex_good.2
  have o1 := good_Ok hS1
  have o2 := good_Ok hS2
  obtain ⟨r, w1, w2⟩ := Wrong_eq o2
  obtain ⟨w3, w4⟩ := w2.good ex_good.2
  have w5 := w4.uniq ex_left
  have er : r = ([2], 0) := Prod.ext w5 w3
  unfold remontoirlaw06_works
  have hR : RoutesF (netF []) 3 = ([[2, 3], [0, 1, 3]], 0) := by rw [RoutesF_ok ex_err.1, ex_routes]
  have hD : DelayF (netF []) 3 = (⟨22, 37⟩, 0) := by
    unfold DelayF
    rw [if_pos ex_err.1, ← ex_span.1, ← ex_span.2]
  have hC : CanF (netF []) 3 26 = (false, 0) := by unfold CanF; rw [if_pos ex_err.1, ex_can]
  have hK : CorrectF (netF []) 2 = (21, 4, 0) := by unfold CorrectF; rw [if_pos ex_err.2, ex_corr.1, ex_corr.2]
  have hU : SurelyF (netF []) 3 = ([3], 0) := by unfold SurelyF; rw [if_pos ex_err.1, ex_sure]
  have hA : r0AlikeRows [[2, 3], [0, 1, 3]] [[2, 3], [0, 1, 3]] = some true := by
    rw [AlikeRows_eq _ _ (by decide) (fun r hr => by
      simp only [List.mem_cons, List.not_mem_nil, or_false] at hr
      rcases hr with rfl | rfl <;> decide)]; rfl
  have hB : ∀ l : List Int, l.length ≤ 10 → r0Alike l l = some true := fun l hl => by rw [Alike_eq l l (by omega), decide_eq_true rfl]
  rw [net_eq [] (by simp)]
  simp only [bind_s, Routes_eq o1, Delay_eq o1, Can_eq o1, Correct_eq o1, Surely_eq o1, Cut_eq o1, torn_eq, net_eq tornF (by decide), w1, er, hR, hD, hC, hK, hU, ex_cut, hA, r0To, hB [3] (by decide), hB [1, 2, 3] (by decide), hB [2] (by decide)]
  rfl
end Go.Proofs.YthdbokigcfbgeaaDoor.Rt
