/- What the pure function of a law comes to. Under no conditions. -/
import Derived.Test.YthdbokigcfbgeaaDoorC10L10
import Derived.Test.YthdbokigcfbgeaaDoorC10QM
set_option linter.unusedVariables false
set_option linter.unusedSimpArgs false
set_option maxRecDepth 100000
set_option maxHeartbeats 4000000
namespace Go.Proofs.YthdbokigcfbgeaaDoor.Rt
open Go Go.RowKit
theorem trk_ext {n x : LineNet} (h : ∀ at_ i t, oth n at_ i = some t → oth x at_ i = some t) : ∀ (w : List Int) (at_ : Int) (V : List Int) (e : Int), trk n at_ V w = some e → trk x at_ V w = some e
  | [], _, _, _, g => g
  | a :: w, at_, V, e, g => by
    simp only [trk] at g ⊢
    rcases ho : oth n at_ a.toNat with _ | t
    · rw [ho] at g; cases g
    · rw [ho] at g
      rw [h _ _ _ ho]
      dsimp only at g ⊢
      split at g
      · next hc => rw [if_pos hc]; exact trk_ext h w _ _ e g
      · cases g
theorem sums_ext {n x : LineNet} : ∀ (w : List Int), (∀ e ∈ w, (delayAt x e).Low ≤ (delayAt n e).Low ∧ (delayAt n e).High ≤ (delayAt x e).High) → lowF x w ≤ lowF n w ∧ highF n w ≤ highF x w
  | [], _ => ⟨Int.le_refl _, Int.le_refl _⟩
  | e :: w, h => by
    have h1 := h e (by simp)
    have h2 := sums_ext w fun y hy => h y (by simp [hy])
    unfold lowF highF at *
    rw [List.map_cons, List.map_cons, List.map_cons, List.map_cons, List.sum_cons, List.sum_cons, List.sum_cons, List.sum_cons]
    omega
theorem wider_tail {n x : LineNet} (h : Ok_LineNet n) (hS : OkS n) (hOx : Ok_LineNet x) (hW : OkS x → Wid n x) {r : Int} (h0 : 0 ≤ r) (h1 : r < n.Exchanges) (d : Int) (q : Option Int) (hb : goodB x = false → q = some 2) :
    ((line_Routes n r).bind fun rv_8 => (line_Routes x r).bind fun rv_9 => cond (rv_8.2 != 0)
      ((cond ((rv_8.2 == 4) || (rv_8.2 == 62)) ((remontoirlaw06_works).bind fun rv_10 => some rv_10) (some false)).bind fun t => some t)
      (cond (rv_9.2 == 60)
        ((line_Check x).bind fun rv_11 => (cond (rv_11 == rv_9.2) (q.bind fun rv_12 => some (rv_12 == 2)) (some false)).bind fun t_1 => (cond t_1 ((remontoirlaw06_works).bind fun rv_13 => some rv_13) (some false)).bind fun t_2 => some t_2)
        ((line_Can n r d).bind fun rv_14 => (line_Can x r d).bind fun rv_15 => (cond (((rv_9.2 == 0) && (rv_14.2 == 0)) && (rv_15.2 == 0)) ((remontoirlaw06_all rv_8.1 rv_9.1).bind fun rv_16 => some rv_16) (some false)).bind fun t_3 => (cond (t_3 && ((!rv_14.1) || rv_15.1)) ((remontoirlaw06_works).bind fun rv_17 => some rv_17) (some false)).bind fun t_4 => some t_4))) = some true := by
  rw [Routes_eq h, bind_s, Routes_eq hOx, bind_s, RoutesF_err, RoutesF_err]
  rcases errF_good hS h0 h1 with ⟨hz, hne⟩ | ⟨hz, _⟩ | ⟨hz, _⟩
  · rw [hz, show ((0 : Int) != 0) = false from rfl, cond_false]
    cases hg : goodB x with
    | false =>
      rw [errF_bad hg, beI, cond_true, line_Check_eq x hOx, bind_s, hg, hb hg]
      exact fin_eq rfl
    | true =>
      have hSx := OkS.of hg
      have hWx := hW hSx
      have hzx := hWx.err hSx hz
      obtain ⟨a1, a2⟩ := RoutesF_bd n r
      obtain ⟨b1, b2⟩ := RoutesF_bd x r
      rw [hzx, show ((0 : Int) == 60) = false from rfl, cond_false, Can_eq h, bind_s, Can_eq hOx, bind_s, CanF_err, CanF_err, hz, hzx, beI, Bool.and_true, Bool.and_true, cond_true, lawAll_eq _ _ (by omega) (by omega) (fun w hw => by have := b2 w hw; omega), bind_s, bind_s]
      refine fin_eq ?_
      rw [Bool.and_eq_true]
      constructor
      · rw [List.all_eq_true]
        intro w hw
        rw [RoutesF_ok hz] at hw
        rw [RoutesF_ok hzx, decide_eq_true_eq]
        exact hWx.routes hS hSx hw
      · rw [show CanF n r d = (anyF n r d, 0) from if_pos hz, show CanF x r d = (anyF x r d, 0) from if_pos hzx]
        dsimp only
        cases ha : anyF n r d with
        | false => rfl
        | true => rw [hWx.any hS hSx ha]; rfl
  · rw [hz, show ((62 : Int) != 0) = true from rfl, cond_true]; exact fin_eq rfl
  · rw [hz, show ((4 : Int) != 0) = true from rfl, cond_true]; exact fin_eq rfl
theorem pure_10 (n : LineNet) (more : LineLine) (k : Arr5) (h : Ok_LineNet n) (hm : Ok_LineLine more) (_ : Ok_Arr5 k) : remontoirlaw06_LineWider n more k = some true := by
  unfold remontoirlaw06_LineWider
  rw [sound_eq n h, bind_s]
  cases hg : goodB n with
  | false => exact work_eq
  | true =>
    have hS := OkS.of hg
    have he1 := hS.e1; have he2 := hS.e2; have hno := hS.no; have hnl := hS.nl; have hh1 := hS.h1; have hh2 := hS.h2
    obtain ⟨b, eb, hb⟩ := rest_nat k.a1 (m := 20) (by decide) (by decide)
    have eb : r0Rest k.a1 20 = some (b : Int) := eb
    obtain ⟨c, ec, hc⟩ := rest_nat k.a0 (m := 4) (by decide) (by decide)
    have ec : r0Rest k.a0 4 = some (c : Int) := ec
    obtain ⟨r, er, hr⟩ := rest_natI k.a3 (m := n.Exchanges) (by omega) (by omega)
    rw [Bool.not_true, cond_false, eb, bind_s, ec, bind_s, beqI (c : Int) 0, beqI (c : Int) 1, beqI (c : Int) 2]
    simp only [List.nil_append]
    by_cases c0 : c = 0
    · rw [decide_eq_true (show (c : Int) = 0 by omega), cond_true, beqI]
      by_cases hL0 : n.Lines.length = 0
      · rw [decide_eq_true (show (n.Lines.length : Int) = 0 by omega), cond_true]; exact work_eq
      · rw [decide_eq_false (show ¬ (n.Lines.length : Int) = 0 by omega), cond_false]
        obtain ⟨i, ei, hi⟩ := rest_nat k.a2 (m := n.Lines.length) (by omega) (by omega)
        have hl := hS.at hi
        have d1 := hl.d1; have d2 := hl.d2; have d3 := hl.d3
        rw [ei, bind_s, idx_get hi, bind_s]
        unfold r0To
        rw [bind_s, if_pos (by simp only [List.length_nil]; unfold lim; omega), if_pos (by omega), er, bind_s, wr_id' (n := n.Lines[i].Delay.Low - (b : Int)) (by omega) (by omega), wr_id' (n := n.Lines[i].Delay.High + (b : Int)) (by omega) (by omega), Int.toNat_natCast]
        generalize hlo : (if n.Lines[i].Delay.Low - (b : Int) > 0 then n.Lines[i].Delay.Low - (b : Int) else 0) = lo
        generalize hhi : (if n.Lines[i].Delay.High + (b : Int) < 1000 then n.Lines[i].Delay.High + (b : Int) else 1000) = hi_
        have hlo2 : 0 ≤ lo ∧ lo ≤ n.Lines[i].Delay.Low := by rw [← hlo]; split <;> omega
        have hhi2 : n.Lines[i].Delay.High ≤ hi_ ∧ hi_ ≤ 1000 := by rw [← hhi]; split <;> omega
        have hSx : OkS (LineNet.mk n.Exchanges (n.Lines.set i ⟨n.Lines[i].From, n.Lines[i].To, ⟨lo, hi_⟩⟩) n.Hops n.Loops) := ⟨he1, he2, by rw [List.length_set]; exact hnl, hh1, hh2, hno, fun y hy => by
          rcases List.mem_or_eq_of_mem_set hy with hy | rfl
          · exact hS.l y hy
          · exact OkL1.is ⟨hl.f1, hl.f2, hl.t1, hl.t2, hl.ne, hlo2.1, by show lo ≤ hi_; omega, hhi2.2⟩, hS.o⟩
        refine wider_tail h hS (good_Ok hSx) (fun _ => ⟨rfl, Int.le_refl _, fun w e hw => ?_, fun e w d hw hsp => ?_⟩) (by omega) hr k.a4 (some (c : Int)) (fun g => by rw [hSx.good] at g; cases g)
        · refine trk_ext (fun at_ j t ho => ?_) w 0 [0] e hw
          unfold oth at ho ⊢
          dsimp only
          rw [List.getElem?_set]
          by_cases ej : i = j
          · subst ej
            rw [if_pos rfl, if_pos hi]
            rw [List.getElem?_eq_getElem hi] at ho
            exact ho
          · rw [if_neg ej]; exact ho
        · have hs := sums_ext (n := n) (x := LineNet.mk n.Exchanges (n.Lines.set i ⟨n.Lines[i].From, n.Lines[i].To, ⟨lo, hi_⟩⟩) n.Hops n.Loops) w fun a _ => by
            unfold delayAt
            dsimp only
            rw [List.getElem?_set]
            by_cases ej : i = a.toNat
            · rw [if_pos ej, if_pos hi, ← ej, List.getElem?_eq_getElem hi]
              exact ⟨hlo2.2, hhi2.1⟩
            · rw [if_neg ej]; exact ⟨Int.le_refl _, Int.le_refl _⟩
          exact ⟨Int.le_trans hs.1 hsp.lo, Int.le_trans hsp.hi hs.2, hsp.lp⟩
    · rw [decide_eq_false (show ¬ (c : Int) = 0 by omega), cond_false]
      by_cases c1 : c = 1
      · rw [decide_eq_true (show (c : Int) = 1 by omega), cond_true, beqI]
        by_cases hL0 : n.Loops.length = 0
        · rw [decide_eq_true (show (n.Loops.length : Int) = 0 by omega), cond_true]; exact work_eq
        · rw [decide_eq_false (show ¬ (n.Loops.length : Int) = 0 by omega), cond_false]
          obtain ⟨i, ei, hi⟩ := rest_nat k.a2 (m := n.Loops.length) (by omega) (by omega)
          have hl := hS.lo hi
          have d1 := hl.r1; have d2 := hl.r2; have d3 := hl.r3
          rw [ei, bind_s, idx_get hi, bind_s]
          unfold r0To
          rw [bind_s, if_pos (by simp only [List.length_nil]; unfold lim; omega), if_pos (by omega), er, bind_s, wr_id' (n := n.Loops[i].Read.Low - (b : Int)) (by omega) (by omega), wr_id' (n := n.Loops[i].Read.High + (b : Int)) (by omega) (by omega), Int.toNat_natCast]
          generalize hlo : (if n.Loops[i].Read.Low - (b : Int) > 0 then n.Loops[i].Read.Low - (b : Int) else 0) = lo
          generalize hhi : (if n.Loops[i].Read.High + (b : Int) < 12000 then n.Loops[i].Read.High + (b : Int) else 12000) = hi_
          have hlo2 : 0 ≤ lo ∧ lo ≤ n.Loops[i].Read.Low := by rw [← hlo]; split <;> omega
          have hhi2 : n.Loops[i].Read.High ≤ hi_ ∧ hi_ ≤ 12000 := by rw [← hhi]; split <;> omega
          have hSx : OkS (LineNet.mk n.Exchanges n.Lines n.Hops (n.Loops.set i ⟨n.Loops[i].Exchange, ⟨lo, hi_⟩⟩)) := ⟨he1, he2, hnl, hh1, hh2, by rw [List.length_set]; exact hno, hS.l, fun y hy => by
            rcases List.mem_or_eq_of_mem_set hy with hy | rfl
            · exact hS.o y hy
            · exact OkO1.is ⟨hl.e1, hl.e2, hlo2.1, by show lo ≤ hi_; omega, hhi2.2⟩⟩
          refine wider_tail h hS (good_Ok hSx) (fun _ => ⟨rfl, Int.le_refl _, fun w e hw => (by refine trk_ext (n := n) ?_ w 0 [0] e hw; exact fun at_ j t ho => ho), fun e w d hw hsp => ⟨hsp.lo, hsp.hi, fun j y hy hbt he => ?_⟩⟩) (by omega) hr k.a4 (some (c : Int)) (fun g => by rw [hSx.good] at g; cases g)
          dsimp only at hy
          rw [List.getElem?_set] at hy
          by_cases ej : i = j
          · subst ej
            rw [if_pos rfl, if_pos hi] at hy
            have hy := Option.some.inj hy
            have := hsp.lp i n.Loops[i] (List.getElem?_eq_getElem hi) hbt (by rw [← hy] at he; exact he)
            rw [← hy]
            unfold loL hiL at *
            dsimp only
            omega
          · rw [if_neg ej] at hy
            exact hsp.lp j y hy hbt he
      · rw [decide_eq_false (show ¬ (c : Int) = 1 by omega), cond_false]
        by_cases c2 : c = 2
        · rw [decide_eq_true (show (c : Int) = 2 by omega), cond_true, if_pos (by simp only [List.length_nil]; unfold lim; omega), if_pos (by simp only [List.length_singleton]; unfold lim; omega), er, bind_s]
          have hOx : Ok_LineNet (LineNet.mk n.Exchanges (n.Lines ++ [more]) n.Hops n.Loops) := by
            refine ⟨h.1, ⟨?_, fun y hy => ?_⟩, h.2.2.1, h.2.2.2⟩
            · rw [List.length_append, List.length_singleton]; omega
            · rcases List.mem_append.1 hy with hy | hy
              · exact h.2.1.2 y hy
              · rw [List.mem_singleton.1 hy]; exact hm
          refine wider_tail h hS hOx (fun _ => ⟨rfl, Int.le_refl _, fun w e hw => ?_, fun e w d hw hsp => ?_⟩) (by omega) hr k.a4 (some (c : Int)) (fun _ => by rw [c2]; rfl)
          · refine trk_ext (fun at_ j t ho => ?_) w 0 [0] e hw
            unfold oth at ho ⊢
            dsimp only
            have hj : j < n.Lines.length := by
              rcases hx : n.Lines[j]? with _ | y
              · rw [hx] at ho; cases ho
              · exact (List.getElem?_eq_some_iff.1 hx).1
            rw [List.getElem?_append_left hj]; exact ho
          · have hs := sums_ext (n := n) (x := LineNet.mk n.Exchanges (n.Lines ++ [more]) n.Hops n.Loops) w fun a ha => by
              obtain ⟨j, rfl, hj⟩ := trk_lines w 0 [0] e hw a ha
              unfold delayAt
              dsimp only
              rw [Int.toNat_natCast, List.getElem?_append_left hj]
              exact ⟨Int.le_refl _, Int.le_refl _⟩
            exact ⟨Int.le_trans hs.1 hsp.lo, Int.le_trans hsp.hi hs.2, hsp.lp⟩
        · rw [decide_eq_false (show ¬ (c : Int) = 2 by omega), cond_false, er, bind_s, wr_id' (n := n.Hops + 1) (by omega) (by omega)]
          generalize hhp : (if n.Hops + 1 < 6 then n.Hops + 1 else 6) = hp
          have hhp2 : n.Hops ≤ hp ∧ hp ≤ 6 := by rw [← hhp]; split <;> omega
          have hSx : OkS (LineNet.mk n.Exchanges n.Lines hp n.Loops) := ⟨he1, he2, hnl, by show 1 ≤ hp; omega, hhp2.2, hno, hS.l, hS.o⟩
          exact wider_tail h hS (good_Ok hSx) (fun _ => ⟨rfl, hhp2.1, fun w e hw => (by refine trk_ext (n := n) ?_ w 0 [0] e hw; exact fun at_ j t ho => ho), fun e w d hw hsp => ⟨hsp.lo, hsp.hi, hsp.lp⟩⟩) (by omega) hr k.a4 (some (c : Int)) (fun g => by rw [hSx.good] at g; cases g)
end Go.Proofs.YthdbokigcfbgeaaDoor.Rt
