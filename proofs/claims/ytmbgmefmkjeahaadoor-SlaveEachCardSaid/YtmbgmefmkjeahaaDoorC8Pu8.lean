/- What the pure function of a law comes to. Under no conditions. -/
import Derived.Test.YtmbgmefmkjeahaaDoorC8L8
import Derived.Test.YtmbgmefmkjeahaaDoorC8PU
set_option linter.unusedVariables false
set_option linter.unusedSimpArgs false
set_option maxRecDepth 100000
set_option maxHeartbeats 4000000
namespace Go.Proofs.YtmbgmefmkjeahaaDoor.Rt
open Go Go.RowKit
theorem pure_8 (l : SlaveLine) (n : Arr2) (h1 : Ok_SlaveLine l) (h2 : Ok_Arr2 n) : w7SlaveEach l n (fun b => b = true) := by
  refine Tells.is (m := w7SlaveEach l n) ?_
  unfold w7SlaveEach
  refine tdet (sound_eq l h1) ?_
  cases hg : goodB l with
  | false => exact work1_tells
  | true =>
    have hS := OkS.of hg
    have h10 := hS.e
    rw [beqI]
    by_cases hl : l.Events.length = 10
    · rw [decide_eq_true (show (l.Events.length : Int) = 10 by omega)]
      exact work1_tells
    · rw [decide_eq_false (show ¬ (l.Events.length : Int) = 10 by omega)]
      show Tells (cond false _ _) _
      rw [cond_false]
      have hn1 := hS.n1; have hn2 := hS.n2; have hr1 := hS.r1; have hr2 := hS.r2
      obtain ⟨w, ew, hw⟩ := rest_nat n.a0 (m := l.Starts.length) (by omega) (by omega)
      obtain ⟨k, ek, hk⟩ := rest_natI n.a1 (m := l.Ring) (by omega) (by omega)
      refine tdet ew (tdet ek (tbnd (Can_tells h1 (w : Int)) fun r4 e4 => tbnd (Lost_tells h1 (w : Int)) fun r5 e5 => ?_))
      refine tgrd (by simp only [List.length_nil]; unfold lim; omega) (tdet (look_eq _ _) (tgrd (by simp only [List.nil_append, List.length_singleton]; unfold lim; omega) ?_))
      rw [show SlaveLine.mk l.Ring l.Starts ((([] : List SlaveEvent) ++ l.Events) ++ [lookE (w : Int) (k : Int)]) = snocL l (lookE (w : Int) (k : Int)) from rfl]
      have hS' : OkS (snocL l (lookE (w : Int) (k : Int))) := snoc_ok hS (by omega) ⟨.inr (.inr rfl), fun h => (by cases h), fun h => absurd rfl h, fun _ => (by unfold lookE; dsimp only; omega)⟩
      have hO' : Ok_SlaveLine (snocL l (lookE (w : Int) (k : Int))) := snoc_Ok h1 (Ok_look (inR_s (by omega) (by omega)) (inR_s (by omega) (by omega))) (by omega)
      refine tbnd (Can_tells hO' (w : Int)) fun r7 e7 => tbnd (Lost_tells hO' (w : Int)) fun r8 e8 => ?_
      have hw' : w < (snocL l (lookE (w : Int) (k : Int))).Starts.length := hw
      rw [canF_of hS hw] at e4
      rw [lostF_of hS hw] at e5
      rw [canF_of hS' hw'] at e7
      rw [lostF_of hS' hw'] at e8
      have hT : ∀ st s, Tale (snocL l (lookE (w : Int) (k : Int))) w wo0 st s ↔ ∃ st0, st = st0 ++ [[]] ∧ Tale l w wo0 st0 s ∧ (k : Int) = s.Shown := fun st s => by
        rw [tale_look (x := lookE (w : Int) (k : Int)) rfl]
        exact ⟨fun ⟨st0, a, b, c⟩ => ⟨st0, a, b, c rfl⟩, fun ⟨st0, a, b, c⟩ => ⟨st0, a, b, fun _ => c⟩⟩
      have hc' : canB (snocL l (lookE (w : Int) (k : Int))) w wo0 = true ↔ (k : Int) ∈ canN l w 60 := by
        rw [canB_iff hS' hw', mem_canN' hS hw]
        constructor
        · rintro ⟨st, s, h⟩
          obtain ⟨st0, _, h, e⟩ := (hT st s).1 h
          exact ⟨st0, s, h, e.symm⟩
        · rintro ⟨st, s, h, e⟩
          exact ⟨_, s, (hT _ s).2 ⟨st, rfl, h, e.symm⟩⟩
      cases hc : canB l w wo0 with
      | false =>
        rw [hc] at e4 e5
        have hcn : canB (snocL l (lookE (w : Int) (k : Int))) w wo0 = false := by
          rw [Bool.eq_false_iff]
          intro h
          obtain ⟨st, s, h, _⟩ := (mem_canN' hS hw _).1 (hc'.1 h)
          rw [(canB_iff hS hw).2 ⟨st, s, h⟩] at hc; cases hc
        rw [hcn] at e7 e8
        subst e4; subst e5; subst e7; subst e8
        exact tdet (a := true) rfl (fin_tells rfl)
      | true =>
        rw [hc] at e4 e5
        subst e4; subst e5
        rw [if_pos rfl, if_pos rfl]
        cases hcn : canB (snocL l (lookE (w : Int) (k : Int))) w wo0 with
        | false =>
          rw [hcn] at e7 e8
          subst e7; subst e8
          show Tells (ND.det _ _) _
          obtain ⟨r, f1, f2⟩ := find_neg (canN l w 60) (k : Int) (by have := canN_len l w 60; omega)
          have hm : (k : Int) ∉ canN l w 60 := fun h => by rw [hc'.2 h] at hcn; cases hcn
          refine tdet f1 ?_
          rw [f2, decide_eq_false hm]
          exact fin_tells rfl
        | true =>
          rw [hcn] at e7 e8
          subst e7; subst e8
          show Tells (ND.det _ _) _
          obtain ⟨r, f1, f2⟩ := find_neg (canN l w 60) (k : Int) (by have := canN_len l w 60; omega)
          refine tdet f1 ?_
          rw [f2, decide_eq_true (hc'.1 hcn)]
          show Tells (ND.det _ _) _
          have hone : canN (snocL l (lookE (w : Int) (k : Int))) w 60 = [(k : Int)] := by
            rw [canN_one k (fun k' => ?_) 60, if_pos (by omega)]
            rw [Bool.eq_iff_iff, show_iff hS' hw', decide_eq_true_eq]
            constructor
            · rintro ⟨st, s, h, e⟩
              obtain ⟨_, _, _, e2⟩ := (hT st s).1 h
              omega
            · rintro rfl
              obtain ⟨st, s, h, e⟩ := (mem_canN' hS hw _).1 (hc'.1 hcn)
              exact ⟨_, s, (hT _ s).2 ⟨st, rfl, h, e.symm⟩, e⟩
          refine tdet (a := true) ?_ (tdet (a := true) ?_ (fin_tells rfl))
          · show (r0Alike (canN _ w 60) [(k : Int)]).bind _ = _
            rw [hone, Alike_eq _ _ (by simp)]
            simp
          · show (r0Within (spanE _ w wo0) (spanE l w wo0)).bind _ = _
            obtain ⟨⟨s1, x1, t1, f1⟩, ⟨s2, x2, t2, f2⟩, _⟩ := spanE_low hS' hw' hcn
            obtain ⟨_, _, hb⟩ := spanE_low hS hw hc
            obtain ⟨u1, rfl, g1, _⟩ := (hT _ _).1 t1
            obtain ⟨u2, rfl, g2, _⟩ := (hT _ _).1 t2
            rw [lostN_snoc] at f1 f2
            have b1 := hb _ u1 ⟨x1, g1, rfl⟩
            have b2 := hb _ u2 ⟨x2, g2, rfl⟩
            simp only [List.length_nil, Nat.add_zero] at f1 f2
            unfold r0Within
            rw [decide_eq_true (show (spanE l w wo0).Low ≤ _ by omega), decide_eq_true (show _ ≤ (spanE l w wo0).High by omega)]
            rfl
end Go.Proofs.YtmbgmefmkjeahaaDoor.Rt
