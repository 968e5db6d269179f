/- What the pure function of a law comes to. Under no conditions. -/
import Derived.Test.YthdbokigcfbgeaaDoorC6L6
import Derived.Test.YthdbokigcfbgeaaDoorC6QL
set_option linter.unusedVariables false
set_option linter.unusedSimpArgs false
set_option maxRecDepth 100000
set_option maxHeartbeats 4000000
namespace Go.Proofs.YthdbokigcfbgeaaDoor.Rt
open Go Go.RowKit
theorem mem_surely {n : LineNet} {e x : Int} (h : x ∈ surelyF n e) : ∀ w ∈ routesF n e 0, x ∈ w := by
  unfold surelyF at h
  obtain ⟨k, _, h⟩ := List.mem_flatMap.1 h
  split at h
  · next hc =>
    rw [List.mem_singleton.1 h]
    intro w hw
    have := List.all_eq_true.1 hc w hw
    simpa using this
  · cases h
theorem pure_6 (n : LineNet) (bits : List Int) (h : Ok_LineNet n) (hb : OkL InR bits) : remontoirlaw06_LineTrue n bits = some true := by
  unfold remontoirlaw06_LineTrue
  rw [sound_eq n h, bind_s]
  cases hg : goodB n with
  | false => exact work_eq
  | true =>
    have hS := OkS.of hg
    have hh1 := hS.h1; have hh2 := hS.h2
    obtain ⟨way, to, e1, hT, hlen⟩ := gone_eq hS bits
    have hw : WOk n way := ⟨by omega, trk_lines way 0 [0] to hT⟩
    obtain ⟨l, d, e2, d1, d2, hs⟩ := sent_eq hS hw to bits hb.1
    rw [Bool.not_true, cond_false, e1, bind_s]
    dsimp only
    rw [e2, bind_s]
    dsimp only
    generalize hx : LineNet.mk n.Exchanges n.Lines n.Hops l = x
    have hxl : x.Lines = n.Lines := by rw [← hx]
    have hxo : x.Loops = l := by rw [← hx]
    have hxh : x.Hops = n.Hops := by rw [← hx]
    have hxe : x.Exchanges = n.Exchanges := by rw [← hx]
    have hSx : OkS x := ⟨by rw [hxe]; exact hS.e1, by rw [hxe]; exact hS.e2, by rw [hxl]; exact hS.nl, by rw [hxh]; exact hS.h1, by rw [hxh]; exact hS.h2, by rw [hxo, hs.len]; exact hS.no, by rw [hxl, hxe]; exact hS.l, fun y hy => by
      rw [hxo] at hy
      obtain ⟨j, hj, rfl⟩ := List.getElem_of_mem hy
      obtain ⟨z, g1, g2, _⟩ := hs.is j (by rw [← hs.len]; exact hj)
      rw [List.getElem?_eq_getElem hj] at g1
      have g1 := Option.some.inj g1
      rw [g1, hxe]; exact g2.is⟩
    have hOx := good_Ok hSx
    have hin : InSp x to 0 way d := ⟨by rw [(low_congr hxl way).1]; exact d1, by rw [(low_congr hxl way).2]; exact d2, fun j y hy _ he => by
      rw [hxo] at hy
      have hj := (List.getElem?_eq_some_iff.1 hy).1
      obtain ⟨z, g1, _, g3⟩ := hs.is j (by rw [← hs.len]; exact hj)
      rw [hy] at g1
      have g1 := Option.some.inj g1
      rw [g1] at he ⊢
      exact g3 he⟩
    have hmem : way ∈ routesF x to 0 := (mem_routesF hSx to 0 way).2 ⟨by rw [hxh]; exact hlen, by rw [trk_congr hxl]; exact hT, (canW_iff to 0 way).2 ⟨d, hin⟩⟩
    have hne : routesF x to 0 ≠ [] := fun g => by rw [g] at hmem; cases hmem
    obtain ⟨U, hU⟩ := trk_trkV hT
    have hto := trkV_end hS way 0 [0] (to, U) (Int.le_refl 0) (by have := hS.e1; omega) hU
    have h0 : errF x to = 0 := errF_zero hSx hto.1 (by rw [hxe]; exact hto.2) hne
    have hany : anyF x to d = true := (anyF_iff to d).2 ⟨way, hmem, hin⟩
    have hsp := span_any hne hany
    have hb2 := span_bd hSx hne
    obtain ⟨q1, q2⟩ := RoutesF_bd x to
    rw [Routes_eq hOx, bind_s, Delay_eq hOx, bind_s, Can_eq hOx, bind_s, Correct_eq hOx, bind_s, Surely_eq hOx, bind_s, has_eq _ _ (by omega) (fun r hr => by have := q2 r hr; omega)]
    rw [RoutesF_ok h0, show DelayF x to = (spanF x to, 0) from if_pos h0, show CanF x to d = (anyF x to d, 0) from if_pos h0, show CorrectF x to = ((spanF x to).High - offF (spanF x to), offF (spanF x to), 0) from if_pos h0, show SurelyF x to = (surelyF x to, 0) from if_pos h0, hany, decide_eq_true hmem]
    dsimp only
    rw [show ((0 : Int) != 0) = false from rfl]
    simp only [Bool.or_false, cond_false, bind_s, Bool.not_true]
    generalize hsv : spanF x to = s at hsp hb2
    obtain ⟨L, H⟩ := s
    dsimp only at hsp hb2
    unfold r0Has offF
    dsimp only
    rw [Lies_eq, bind_s, bind_s, inB_iff.2 hsp, Bool.not_true, bind_s, cond_false, wr_id' (by omega) (by omega), Size_eq (by omega) (by omega), bind_s, bind_s, decide_eq_false (by split <;> omega), cond_false]
    have hsl : (surelyF x to).length ≤ 12 := by
      have := flatM_len (List.range x.Lines.length) (fun (k : Nat) => if (routesF x to 0).all (fun w => decide ((k : Int) ∈ w)) then [(k : Int)] else []) 1 fun k _ => by split <;> simp
      rw [List.length_range] at this
      have := hSx.nl
      unfold surelyF; omega
    have h := loop_anyL (body := remontoirlaw06_LineTrue_b1 (way, to) (surelyF x to, 0)) (fun i : Nat => ((false : Bool), (i : Int))) (surelyF x to) (fun _ => false) (some false) (some true) (fun i hi => by
      unfold remontoirlaw06_LineTrue_b1
      dsimp only
      obtain ⟨r, e3, e4⟩ := find_neg way (surelyF x to)[i] (by have := hw.len; omega)
      rw [lt_t hi, cond_true, idx_get hi, bind_s, e3, bind_s, e4, decide_eq_true (mem_surely (List.getElem_mem hi) way hmem), wr_succ (by omega)]
      rfl) (by
      unfold remontoirlaw06_LineTrue_b1
      dsimp only
      rw [lt_f, cond_false, work_eq])
    have h : loopU (remontoirlaw06_LineTrue_b1 (way, to) (surelyF x to, 0)) (false, 0) = _ := h
    rw [h]
    have : ((surelyF x to).any fun _ => false) = false := by rw [List.any_eq_false]; intro _ _ h; cases h
    rw [this]; rfl
end Go.Proofs.YthdbokigcfbgeaaDoor.Rt
