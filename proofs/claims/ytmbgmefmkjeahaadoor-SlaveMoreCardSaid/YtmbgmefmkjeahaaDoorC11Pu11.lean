/- What the pure function of a law comes to. Under no conditions. -/
import Derived.Test.YtmbgmefmkjeahaaDoorC11L11
import Derived.Test.YtmbgmefmkjeahaaDoorC11PU
set_option linter.unusedVariables false
set_option linter.unusedSimpArgs false
set_option maxRecDepth 100000
set_option maxHeartbeats 4000000
namespace Go.Proofs.YtmbgmefmkjeahaaDoor.Rt
open Go Go.RowKit
theorem canF_two (l : SlaveLine) (who : Int) : (canF l who).2 = 0 ∨ (canF l who).1 = [] := by
  unfold canF; split
  · exact .inl rfl
  · exact .inr rfl
theorem more_k1 {l : SlaveLine} (h1 : Ok_SlaveLine l) (hS : OkS l) {w : Nat} (hw : w < l.Starts.length) {y : SlaveEvent} (hy : Ok_SlaveEvent y) (v6 : Bool) : Tells (w7SlaveMore_k1 l y (w : Int) (canF l (w : Int)) v6) (fun b => b = true) := by
  have h10 := hS.e
  unfold w7SlaveMore_k1
  rw [beqI]
  by_cases hl : l.Events.length = 10
  · rw [decide_eq_true (show (l.Events.length : Int) = 10 by omega), cond_true]
    exact work1_tells
  · rw [decide_eq_false (show ¬ (l.Events.length : Int) = 10 by omega), cond_false]
    refine tgrd (by simp only [List.length_nil]; unfold lim; omega) (tgrd (by simp only [List.nil_append, List.length_singleton]; unfold lim; omega) ?_)
    rw [show SlaveLine.mk l.Ring l.Starts ((([] : List SlaveEvent) ++ l.Events) ++ [SlaveEvent.mk 2 0 0 0 y.Who y.Shown]) = snocL l (lookE y.Who y.Shown) from rfl]
    have hO' : Ok_SlaveLine (snocL l (lookE y.Who y.Shown)) := snoc_Ok h1 (Ok_look hy.2.2.2.2.1 hy.2.2.2.2.2) (by omega)
    refine tbnd (Can_tells hO' (w : Int)) fun r6 e6 => ?_
    subst e6
    have hw' : w < (snocL l (lookE y.Who y.Shown)).Starts.length := hw
    have hlen1 := canF_len l (w : Int)
    have hlen := canF_len (snocL l (lookE y.Who y.Shown)) (w : Int)
    -- what it can show, the line could
    have hsub : (canF (snocL l (lookE y.Who y.Shown)) (w : Int)).2 = 0 → (canF l (w : Int)).2 = 0 ∧ ∀ x ∈ (canF (snocL l (lookE y.Who y.Shown)) (w : Int)).1, x ∈ (canF l (w : Int)).1 := by
      intro h0
      cases hg : goodB (snocL l (lookE y.Who y.Shown)) with
      | false =>
        have : askF (snocL l (lookE y.Who y.Shown)) (w : Int) = 70 := by unfold askF; rw [hg]; rfl
        unfold canF at h0
        rw [this] at h0
        cases h0
      | true =>
        have hS' := OkS.of hg
        rw [canF_of hS' hw'] at h0 ⊢
        rw [canF_of hS hw]
        cases hc : canB (snocL l (lookE y.Who y.Shown)) w wo0 with
        | false => rw [hc] at h0; cases h0
        | true =>
          obtain ⟨st, s, h⟩ := (canB_iff hS' hw').1 hc
          obtain ⟨st0, _, h, _⟩ := (tale_look (x := lookE y.Who y.Shown) rfl).1 h
          rw [(canB_iff hS hw).2 ⟨st0, s, h⟩]
          refine ⟨rfl, fun x hx => ?_⟩
          rw [if_pos rfl] at hx ⊢
          obtain ⟨st, s, h, e⟩ := (mem_canN' hS' hw' x).1 hx
          obtain ⟨st0, _, h, _⟩ := (tale_look (x := lookE y.Who y.Shown) rfl).1 h
          exact (mem_canN' hS hw x).2 ⟨st0, s, h, e⟩
    have htwo := canF_two (snocL l (lookE y.Who y.Shown)) (w : Int)
    generalize canF (snocL l (lookE y.Who y.Shown)) (w : Int) = r at hlen hsub htwo
    generalize canF l (w : Int) = q at hlen1 hsub
    refine tfor0 r.1.length (fun i s => s = (v6, (i : Int))) rfl ?_ ?_
    · rintro i _ hi rfl
      unfold w7SlaveMore_b2
      dsimp only
      rw [lt_t hi, cond_true]
      obtain ⟨f, f1, f2⟩ := find_neg q.1 r.1[i] (by omega)
      have hr0 : r.2 = 0 := by
        rcases htwo with h | h
        · exact h
        · rw [h] at hi; simp at hi
      refine tdet (idx_get hi) (tdet f1 ?_)
      rw [f2, decide_eq_true ((hsub hr0).2 _ (List.getElem_mem hi)), Bool.not_true, cond_false]
      exact tnxt (by rw [wr_succ (by omega)])
    · rintro _ rfl
      unfold w7SlaveMore_b2
      dsimp only
      rw [lt_f, cond_false]
      refine tend (fin_tells ?_)
      rw [beqI, beqI, bneI, beqI]
      by_cases h0 : r.2 = 0
      · rw [(hsub h0).1, h0]; simp
      · rcases htwo with h | h
        · exact absurd h h0
        · rw [h]; simp [h0]
def moreE (x : SlaveEvent) : SlaveEvent := ⟨x.Kind, x.First, x.Count, if wr (x.Lost + 1) < 3 then wr (x.Lost + 1) else 3, x.Who, x.Shown⟩
theorem more_le {n R : Int} {x : SlaveEvent} (hx : OkE n R x) : EvLe x (moreE x) := by
  refine ⟨rfl, rfl, rfl, rfl, rfl, fun hk => ?_⟩
  have hc := hx.c hk
  unfold moreE
  dsimp only
  rw [wr_id' (by omega) (by omega)]
  split <;> omega
theorem more_ok {n R : Int} {x : SlaveEvent} (hx : OkE n R x) : OkE n R (moreE x) := by
  refine ⟨hx.k, hx.f, fun hk => ?_, hx.w⟩
  have hc := hx.c hk
  unfold moreE
  dsimp only
  rw [wr_id' (by omega) (by omega)]
  split <;> omega
theorem pure_11 (l : SlaveLine) (y : SlaveEvent) (n : Arr2) (h1 : Ok_SlaveLine l) (h2 : Ok_SlaveEvent y) (h3 : Ok_Arr2 n) : w7SlaveMore l y n (fun b => b = true) := by
  refine Tells.is (m := w7SlaveMore l y n) ?_
  unfold w7SlaveMore
  refine tdet (sound_eq l h1) ?_
  cases hg : goodB l with
  | false => exact work1_tells
  | true =>
    have hS := OkS.of hg
    have h10 := hS.e
    have hn1 := hS.n1; have hn2 := hS.n2; have hr1 := hS.r1; have hr2 := hS.r2
    rw [Bool.not_true, cond_false]
    obtain ⟨w, ew, hw⟩ := rest_nat n.a0 (m := l.Starts.length) (by omega) (by omega)
    refine tdet ew (tbnd (Can_tells h1 (w : Int)) fun r3 e3 => tbnd (Lost_tells h1 (w : Int)) fun r4 e4 => ?_)
    subst e3
    have e34 : (canF l (w : Int)).2 = r4.2 := by
      rw [e4, canF_of hS hw, lostF_of hS hw]
      cases canB l w wo0 <;> rfl
    rw [bneI, decide_eq_false (fun h => h e34), cond_false]
    have hlen1 := canF_len l (w : Int)
    by_cases hz : 0 < l.Events.length
    · rw [decide_eq_true (show (l.Events.length : Int) > 0 by omega), cond_true]
      refine tgrd (by simp only [List.length_nil]; unfold lim; omega) ?_
      obtain ⟨k, ek, hk⟩ := rest_nat n.a1 (m := l.Events.length) hz (by omega)
      refine tdet ek (tdet (idx_get hk) (tgrd (by simp only [List.nil_append]; omega) ?_))
      have hx := hS.at hk
      have hml := more_le hx
      have hmo := more_ok hx
      rw [List.nil_append, Int.toNat_natCast]
      rw [show SlaveEvent.mk l.Events[k].Kind l.Events[k].First l.Events[k].Count (if wr (l.Events[k].Lost + 1) < 3 then wr (l.Events[k].Lost + 1) else 3) l.Events[k].Who l.Events[k].Shown = moreE l.Events[k] from rfl]
      generalize hl' : SlaveLine.mk l.Ring l.Starts (l.Events.set k (moreE l.Events[k])) = l'
      have hR : l'.Ring = l.Ring := by rw [← hl']
      have hSt : l'.Starts = l.Starts := by rw [← hl']
      have hEv : l'.Events = l.Events.set k (moreE l.Events[k]) := by rw [← hl']
      have hmem : ∀ x ∈ l'.Events, x ∈ l.Events ∨ x = moreE l.Events[k] := fun x hx => by rw [hEv] at hx; exact List.mem_or_eq_of_mem_set hx
      have hS' : OkS l' := by
        refine ⟨by rw [hR]; exact hr1, by rw [hR]; exact hr2, by rw [hSt]; exact hn1, by rw [hSt]; exact hn2, by rw [hEv, List.length_set]; exact h10, by rw [hSt, hR]; exact hS.s, fun x hx => ?_⟩
        rw [hSt, hR]
        rcases hmem x hx with h | rfl
        · exact hS.ev x h
        · exact hmo.is
      have hO' : Ok_SlaveLine l' := by
        refine ⟨by rw [hR]; exact h1.1, by rw [hSt]; exact h1.2.1, by rw [hEv, List.length_set]; omega, fun x hx => ?_⟩
        rcases hmem x hx with h | rfl
        · exact h1.2.2.2 x h
        · obtain ⟨a, b, c, d, e, f⟩ := Ok_ev h1 hk
          refine ⟨a, b, c, ?_, e, f⟩
          show InR (if wr (l.Events[k].Lost + 1) < 3 then wr (l.Events[k].Lost + 1) else 3)
          split
          · exact wr_in _
          · exact inR_s (by decide) (by decide)
      have hw' : w < l'.Starts.length := by rw [hSt]; exact hw
      have hlift : ∀ st s, Tale l w wo0 st s → Tale l' w wo0 st s := by
        intro st s h
        have e : l'.Events.length = l.Events.length := by rw [hEv, List.length_set]
        show Sto _ _ _ _ _ _
        rw [e]
        refine h.lift hR hSt fun j e hj he => ?_
        rw [hEv, List.getElem?_set]
        by_cases e2 : k = j
        · subst e2
          rw [List.getElem?_eq_getElem hk] at he
          injection he with he
          subst he
          rw [if_pos rfl, if_pos hk]
          exact ⟨_, rfl, hml⟩
        · rw [if_neg e2]
          exact ⟨e, he, .refl e⟩
      refine tbnd (Can_tells hO' (w : Int)) fun r11 e11 => tbnd (Lost_tells hO' (w : Int)) fun r12 e12 => ?_
      subst e11
      rw [canF_of hS' hw', lostF_of hS' hw'] at *
      have hlen2 := canF_len l' (w : Int)
      rw [canF_of hS' hw'] at hlen2
      cases hc : canB l w wo0 with
      | false =>
        have e3 : canF l (w : Int) = ([], 72) := by rw [canF_of hS hw, hc]; rfl
        refine tdet (a := false) (by rw [e3]; rfl) ?_
        rw [cond_false]
        refine tfor0 0 (fun i s => s = (false, (0 : Int))) rfl (fun i s h => by omega) ?_
        rintro _ rfl
        unfold w7SlaveMore_b3
        dsimp only
        rw [e3]
        show Tells (cond (decide ((0 : Int) < ((0 : Nat) : Int))) _ _) _
        rw [decide_eq_false (by decide), cond_false]
        refine tend ?_
        have := more_k1 h1 hS hw h2 false
        rw [e3] at this
        exact this
      | true =>
        have e3 : canF l (w : Int) = (canN l w 60, 0) := by rw [canF_of hS hw, hc]; rfl
        obtain ⟨st, s, h⟩ := (canB_iff hS hw).1 hc
        have hc' : canB l' w wo0 = true := (canB_iff hS' hw').2 ⟨st, s, hlift st s h⟩
        rw [hc'] at e12 hlen2 ⊢
        rw [if_pos rfl] at e12 hlen2 ⊢
        rw [lostF_of hS hw, hc, if_pos rfl] at e4
        subst e4; subst e12
        refine tdet (a := false) ?_ ?_
        · rw [e3]
          obtain ⟨⟨s1, x1, t1, f1⟩, ⟨s2, x2, t2, f2⟩, _⟩ := spanE_low hS hw hc
          obtain ⟨_, _, hb⟩ := spanE_low hS' hw' hc'
          have b1 := hb _ s1 ⟨x1, hlift _ _ t1, rfl⟩
          have b2 := hb _ s2 ⟨x2, hlift _ _ t2, rfl⟩
          show (((r0Within (spanE l w wo0) (spanE l' w wo0)).bind fun rv_13 => some (!rv_13)).bind fun t_1 => some t_1) = some false
          unfold r0Within
          rw [decide_eq_true (show (spanE l' w wo0).Low ≤ _ by omega), decide_eq_true (show _ ≤ (spanE l' w wo0).High by omega)]
          rfl
        · rw [cond_false]
          refine tfor0 (canF l (w : Int)).1.length (fun i s => s = (false, (i : Int))) rfl ?_ ?_
          · rintro i _ hi rfl
            unfold w7SlaveMore_b3
            dsimp only
            rw [lt_t hi, cond_true]
            obtain ⟨f, f1, f2⟩ := find_neg (canN l' w 60) (canF l (w : Int)).1[i] (by dsimp only at hlen2; omega)
            refine tdet (idx_get hi) (tdet f1 ?_)
            have hm : (canF l (w : Int)).1[i] ∈ canN l' w 60 := by
              have hin : ∀ x ∈ (canF l (w : Int)).1, x ∈ canN l' w 60 := by
                rw [e3]
                intro x hx
                obtain ⟨st, s, h, e⟩ := (mem_canN' hS hw x).1 hx
                exact (mem_canN' hS' hw' x).2 ⟨st, s, hlift _ _ h, e⟩
              exact hin _ (List.getElem_mem hi)
            rw [f2, decide_eq_true hm, Bool.not_true, cond_false]
            exact tnxt (by rw [wr_succ (by omega)])
          · rintro _ rfl
            unfold w7SlaveMore_b3
            dsimp only
            rw [lt_f, cond_false]
            exact tend (more_k1 h1 hS hw h2 false)
    · rw [decide_eq_false (show ¬ (l.Events.length : Int) > 0 by omega), cond_false]
      exact more_k1 h1 hS hw h2 false
end Go.Proofs.YtmbgmefmkjeahaaDoor.Rt
