/- What the pure function of a law comes to. Under no conditions. -/
import Derived.Test.YthdbokigcfbgeaaDoorC9L9
import Derived.Test.YthdbokigcfbgeaaDoorC9QM
set_option linter.unusedVariables false
set_option linter.unusedSimpArgs false
set_option maxRecDepth 100000
set_option maxHeartbeats 4000000
namespace Go.Proofs.YthdbokigcfbgeaaDoor.Rt
open Go Go.RowKit
theorem pure_9 (n : LineNet) (more : LineLoop) (delay : Int) (h : Ok_LineNet n) (hm : Ok_LineLoop more) (_ : InR delay) : remontoirlaw06_LineMore n more delay = some true := by
  unfold remontoirlaw06_LineMore
  rw [sound_eq n h, bind_s]
  cases hg : goodB n with
  | false => exact work_eq
  | true =>
    have hS := OkS.of hg
    have he1 := hS.e1; have he2 := hS.e2; have hno := hS.no
    rw [Bool.not_true, Bool.false_or, beqI]
    by_cases h10 : (n.Loops.length : Int) = 10
    · rw [decide_eq_true h10, cond_true]; exact work_eq
    · rw [decide_eq_false h10, cond_false, List.nil_append, if_pos (by simp only [List.length_nil]; unfold lim; omega), if_pos (by simp only [List.length_singleton]; unfold lim; omega)]
      obtain ⟨r, er, hr⟩ := rest_natI more.Exchange (m := n.Exchanges) (by omega) (by omega)
      rw [er, bind_s]
      generalize hx : LineNet.mk n.Exchanges n.Lines n.Hops (n.Loops ++ [more]) = x
      have hxl : x.Lines = n.Lines := by rw [← hx]
      have hxo : x.Loops = n.Loops ++ [more] := by rw [← hx]
      have hxh : x.Hops = n.Hops := by rw [← hx]
      have hxe : x.Exchanges = n.Exchanges := by rw [← hx]
      have hOx : Ok_LineNet x := by
        refine ⟨by rw [hxe]; exact h.1, by rw [hxl]; exact h.2.1, by rw [hxh]; exact h.2.2.1, ?_, fun y hy => ?_⟩
        · rw [hxo, List.length_append, List.length_singleton]; omega
        · rw [hxo] at hy
          rcases List.mem_append.1 hy with hy | hy
          · exact h.2.2.2.2 y hy
          · rw [List.mem_singleton.1 hy]; exact hm
      have hW : Wid x n := ⟨hxe.symm, by rw [hxh]; exact Int.le_refl _, fun w e hw => by rw [← trk_congr hxl]; exact hw, fun e w d _ hi => ⟨by rw [← (low_congr hxl w).1]; exact hi.lo, by rw [← (low_congr hxl w).2]; exact hi.hi, fun j y hy hb he => hi.lp j y (by rw [hxo, List.getElem?_append_left (List.getElem?_eq_some_iff.1 hy).1]; exact hy) hb he⟩⟩
      rw [Routes_eq h, bind_s, Routes_eq hOx, bind_s, Can_eq h, bind_s, Can_eq hOx, bind_s, RoutesF_err, RoutesF_err, CanF_err, CanF_err, bnI, bnI, Bool.or_false, cond_false]
      by_cases hz : errF x (r : Int) = 0
      · obtain ⟨hSx, _⟩ := errF_ok hz
        have hn0 := hW.err hS hz
        obtain ⟨a1, a2⟩ := RoutesF_bd n (r : Int)
        obtain ⟨b1, b2⟩ := RoutesF_bd x (r : Int)
        rw [hz, show ((0 : Int) != 0) = false from rfl, cond_false, hn0, beI, cond_true, lawAll_eq _ _ (by omega) (by omega) (fun w hw => by have := a2 w hw; omega), bind_s, bind_s]
        refine fin_eq ?_
        rw [Bool.and_eq_true]
        constructor
        · rw [List.all_eq_true]
          intro w hw
          rw [RoutesF_ok hz] at hw
          rw [RoutesF_ok hn0, decide_eq_true_eq]
          exact hW.routes hSx hS hw
        · rw [show CanF n (r : Int) delay = (anyF n (r : Int) delay, 0) from if_pos hn0, show CanF x (r : Int) delay = (anyF x (r : Int) delay, 0) from if_pos hz]
          dsimp only
          cases ha : anyF x (r : Int) delay with
          | false => simp
          | true => rw [hW.any hSx hS ha]; rfl
      · rw [ne0 hz, cond_true]
        refine fin_eq ?_
        rw [show RoutesF x (r : Int) = ([], errF x (r : Int)) from RoutesF_bad hz, show CanF x (r : Int) delay = (false, errF x (r : Int)) from if_neg hz]
        rcases errF_any x (e := (r : Int)) (by omega) (by rw [hxe]; exact hr) with g | g | g | g
        · exact absurd g hz
        · rw [g]; rfl
        · rw [g]; rfl
        · rw [g]; rfl
end Go.Proofs.YthdbokigcfbgeaaDoor.Rt
