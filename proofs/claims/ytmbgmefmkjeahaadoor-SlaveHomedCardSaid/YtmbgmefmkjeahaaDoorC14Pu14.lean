/- What the pure function of SlaveHomed comes to: true. Under no conditions. -/
import Derived.Test.YtmbgmefmkjeahaaDoorC14L14
import Derived.Test.YtmbgmefmkjeahaaDoorC14PW
set_option linter.unusedVariables false
set_option linter.unusedSimpArgs false
set_option maxRecDepth 100000
set_option maxHeartbeats 4000000
namespace Go.Proofs.YtmbgmefmkjeahaaDoor.Rt
open Go Go.RowKit
def homeE (n k : Int) : SlaveEvent := SlaveEvent.mk 1 0 n k 0 0
theorem homeAll_tells {l : SlaveLine} (h1 : Ok_SlaveLine l) (hS : OkS l) : Tells (w7all l) (fun b => b = allCan l wo0) := by
  unfold w7all
  refine tfor0 l.Starts.length (fun w s => s = (false, (w : Int)) ∧ ∀ j, j < w → canB l j wo0 = true) ⟨rfl, fun j h => by omega⟩ ?_ ?_
  · rintro w _ hw ⟨rfl, hj⟩
    unfold w7all_b1
    dsimp only
    rw [lt_t hw, cond_true]
    refine tbnd (Can_tells h1 (w : Int)) fun r e => ?_
    rw [canF_of hS hw] at e
    cases hc : canB l w wo0 with
    | false =>
      rw [hc] at e
      subst e
      refine tend (tret ?_)
      rw [eq_comm, Bool.eq_false_iff, Ne, allCan_iff]
      intro h
      rw [h w hw] at hc; cases hc
    | true =>
      rw [hc] at e
      subst e
      refine tnxt ⟨by rw [wr_succ (by have := hS.n2; omega)], fun j hj2 => ?_⟩
      by_cases e : j = w
      · subst e; exact hc
      · exact hj j (by omega)
  · rintro _ ⟨rfl, hj⟩
    unfold w7all_b1
    dsimp only
    rw [lt_f, cond_false]
    exact tend (tret (allCan_iff.2 hj).symm)
theorem homeF_0 {R z : Int} (h1 : z < R) : homeF R ((0 : Nat) : Int) z = z := by
  unfold homeF
  split
  · omega
  · rw [if_neg (by omega)]; omega
theorem run_home {R : Int} (hR : 2 ≤ R) {x : SlaveEvent} (hk : x.Kind = 1) {s : SlaveStart} (hs : OkT R s) : ∀ (p : Nat) (ls : List Int), Loss p ls →
    ls.length ≤ p ∧ runP R x ls p s = ⟨homeF R ((p - ls.length : Nat) : Int) s.Shown, s.Last⟩
  | 0, ls, h => by
    obtain rfl := h.zero
    refine ⟨Nat.le_refl _, ?_⟩
    rw [runP_0, List.length_nil, homeF_0 hs.b]
  | p + 1, ls, h => by
    rcases h.cases with h' | ⟨ls', rfl, h'⟩
    · obtain ⟨i1, i2⟩ := run_home hR hk hs p ls h'
      refine ⟨by omega, ?_⟩
      rw [runP, if_neg h'.notin, i2]
      unfold stepF signF afterF
      rw [if_pos hk, if_pos rfl]
      dsimp only
      rw [show p + 1 - ls.length = (p - ls.length) + 1 by omega]
      by_cases h0 : homeF R ((p - ls.length : Nat) : Int) s.Shown = 0
      · rw [if_neg (by simp [h0]), homeF_stay hs.a (p - ls.length) (p - ls.length + 1) (by omega) h0, h0]
      · rw [if_pos h0, homeF_succ hR hs.a hs.b _ h0]
    · obtain ⟨i1, i2⟩ := run_home hR hk hs p ls' h'
      refine ⟨by simp; omega, ?_⟩
      rw [runP, if_pos (by simp), runP_snoc _ _ _ _ _ _ (Int.le_refl _), i2, List.length_append, List.length_singleton, show p + 1 - (ls'.length + 1) = p - ls'.length by omega]
def firsts (k : Nat) : List Int := (List.range k).map fun i : Nat => (i : Int)
theorem firsts_loss {k p : Nat} (h : k ≤ p) : Loss p (firsts k) := by
  refine ⟨?_, fun x hx => ?_⟩
  · unfold firsts
    rw [List.pairwise_map]
    exact List.pairwise_lt_range.imp fun h => by omega
  · simp only [firsts, List.mem_map, List.mem_range] at hx
    obtain ⟨i, hi, rfl⟩ := hx
    omega
theorem firsts_len (k : Nat) : (firsts k).length = k := by simp [firsts]
section
variable {l : SlaveLine} {k n : Int}
theorem homeE_ok (hS : OkS l) (h10 : l.Events.length < 10) (hk0 : 0 ≤ k) (hk3 : k ≤ 3) (hn0 : 0 ≤ n) (hn : n ≤ 60) : OkS (snocL l (homeE n k)) :=
  snoc_ok hS h10 ⟨.inr (.inl rfl), fun h => (by cases h), fun _ => (by unfold homeE; dsimp only; omega), fun h => (by cases h)⟩
theorem homeE_Ok (h1 : Ok_SlaveLine l) (h10 : l.Events.length ≤ 1000) (hk0 : 0 ≤ k) (hk3 : k ≤ 3) (hn0 : 0 ≤ n) (hn : n ≤ 60) : Ok_SlaveLine (snocL l (homeE n k)) :=
  snoc_Ok h1 ⟨(⟨by decide, by decide⟩ : InR 1), inR0, inR_s (by show -1000000000 ≤ n; omega) (by show n ≤ 1000000000; omega), inR_s (by show -1000000000 ≤ k; omega) (by show k ≤ 1000000000; omega), inR0, inR0⟩ h10
theorem home_tale (hS : OkS l) {w : Nat} (hw : w < l.Starts.length) (z : Int) : (∃ st s, Tale (snocL l (homeE n k)) w wo0 st s ∧ s.Shown = z) ↔
    ∃ st0 s0 ls, Tale l w wo0 st0 s0 ∧ Loss n.toNat ls ∧ (ls.length : Int) ≤ k ∧ z = homeF l.Ring ((n.toNat - ls.length : Nat) : Int) s0.Shown := by
  constructor
  · rintro ⟨st, s, h, rfl⟩
    obtain ⟨st0, s0, ls, _, ht, h1, h2, rfl⟩ := (tale_send (x := homeE n k) (show (1 : Int) ≠ 2 by decide)).1 h
    have hT := statesE_ok hS ((mem_statesE hS s0).2 ⟨w, hw, st0, ht⟩)
    exact ⟨st0, s0, ls, ht, h1, h2, by have e := (run_home (x := homeE n k) hS.r1 rfl hT _ _ h1).2; rw [show (homeE n k).Count.toNat = n.toNat from rfl] at e ⊢; rw [e]⟩
  · rintro ⟨st0, s0, ls, ht, h1, h2, rfl⟩
    have hT := statesE_ok hS ((mem_statesE hS s0).2 ⟨w, hw, st0, ht⟩)
    exact ⟨_, _, (tale_send (x := homeE n k) (show (1 : Int) ≠ 2 by decide)).2 ⟨st0, s0, ls, rfl, ht, h1, h2, rfl⟩, by have e := (run_home (x := homeE n k) hS.r1 rfl hT _ _ h1).2; rw [show (homeE n k).Count.toNat = n.toNat from rfl, e]⟩
theorem home_can (hS : OkS l) (h10 : l.Events.length < 10) (hk0 : 0 ≤ k) (hk3 : k ≤ 3) (hn0 : 0 ≤ n) (hn : n ≤ 60) {w : Nat} (hw : w < l.Starts.length) (hc : canB l w wo0 = true) : canB (snocL l (homeE n k)) w wo0 = true := by
  obtain ⟨st, s, h⟩ := (canB_iff hS hw).1 hc
  obtain ⟨st', s', h', _⟩ := (home_tale (n := n) (k := k) hS hw _).2 ⟨st, s, [], h, Loss.nil _, by simpa using hk0, rfl⟩
  exact (canB_iff (homeE_ok hS h10 hk0 hk3 hn0 hn) hw).2 ⟨st', s', h'⟩
theorem home_zero (hS : OkS l) (h10 : l.Events.length < 10) (hk0 : 0 ≤ k) (hk3 : k ≤ 3) (hn0 : 0 ≤ n) (hn : n ≤ 60) (hmax : ∀ s ∈ statesE l, homeV l.Ring k s ≤ n) {w : Nat} (hw : w < l.Starts.length) (hc : canB l w wo0 = true) :
    canN (snocL l (homeE n k)) w 60 = [0] := by
  have hS' := homeE_ok hS h10 hk0 hk3 hn0 hn
  have hw' : w < (snocL l (homeE n k)).Starts.length := hw
  have hz : ∀ st0 s0 ls, Tale l w wo0 st0 s0 → Loss n.toNat ls → (ls.length : Int) ≤ k → homeF l.Ring ((n.toNat - ls.length : Nat) : Int) s0.Shown = 0 := by
    intro st0 s0 ls ht hl hlk
    have hm := hmax s0 ((mem_statesE hS s0).2 ⟨w, hw, st0, ht⟩)
    have hT := statesE_ok hS ((mem_statesE hS s0).2 ⟨w, hw, st0, ht⟩)
    have ha := hT.a
    have hle := (run_home hS.r1 (x := homeE n k) rfl hT _ _ hl).1
    unfold homeV at hm
    unfold homeF
    split
    · rfl
    · rw [if_pos (by omega)] at hm
      rw [if_pos (by omega)]
  rw [canN_one 0 (fun k' => ?_) 60, if_pos (by decide)]
  · rfl
  · rw [Bool.eq_iff_iff, show_iff hS' hw', decide_eq_true_eq, home_tale hS hw]
    constructor
    · rintro ⟨st0, s0, ls, ht, hl, hlk, e⟩
      rw [hz st0 s0 ls ht hl hlk] at e
      omega
    · rintro rfl
      obtain ⟨st, s, h⟩ := (canB_iff hS hw).1 hc
      exact ⟨st, s, [], h, Loss.nil _, by simpa using hk0, (hz st s [] h (Loss.nil _) (by simpa using hk0)).symm⟩
theorem home_less (hS : OkS l) (h10 : l.Events.length < 10) (hk0 : 0 ≤ k) (hk3 : k ≤ 3) (hn0 : 0 < n) (hn : n ≤ 60) {s0 : SlaveStart} (hs0 : s0 ∈ statesE l) (he : n = homeV l.Ring k s0) :
    ∃ w, w < l.Starts.length ∧ canN (snocL l (homeE (n - 1) k)) w 60 ≠ [0] := by
  obtain ⟨w, hw, st0, ht⟩ := (mem_statesE hS s0).1 hs0
  have hT := statesE_ok hS hs0
  have hb := hT.b
  have hr1 := hS.r1
  refine ⟨w, hw, fun h => ?_⟩
  have hS' := homeE_ok (n := n - 1) hS h10 hk0 hk3 (by omega) (by omega)
  have hw' : w < (snocL l (homeE (n - 1) k)).Starts.length := hw
  unfold homeV at he
  by_cases h0 : 0 < s0.Shown
  · rw [if_pos h0] at he
    have hm : l.Ring - 1 ∈ canN (snocL l (homeE (n - 1) k)) w 60 := by
      rw [mem_canN' hS' hw', home_tale hS hw]
      refine ⟨st0, s0, firsts k.toNat, ht, firsts_loss (by omega), by rw [firsts_len]; omega, ?_⟩
      rw [firsts_len]
      unfold homeF
      rw [if_neg (by omega), if_neg (by omega)]
      omega
    rw [h, List.mem_singleton] at hm
    omega
  · rw [if_neg h0] at he; omega
end
theorem pure_14 (l : SlaveLine) (lost : Int) (h1 : Ok_SlaveLine l) (h2 : InR lost) : w7SlaveHomed l lost (fun b => b = true) := by
  refine Tells.is (m := w7SlaveHomed l lost) ?_
  unfold w7SlaveHomed
  refine tdet (sound_eq l h1) ?_
  cases hg : goodB l with
  | false => exact work1_tells
  | true =>
    have hS := OkS.of hg
    have h10 := hS.e
    rw [beqI]
    by_cases hl : l.Events.length = 10
    · rw [decide_eq_true (show (l.Events.length : Int) = 10 by omega)]
      exact work1_tells
    · rw [decide_eq_false (show ¬ (l.Events.length : Int) = 10 by omega)]
      show Tells (cond false _ _) _
      rw [cond_false]
      have hn1 := hS.n1; have hn2 := hS.n2; have hr1 := hS.r1; have hr2 := hS.r2
      obtain ⟨k, ek, hk⟩ := rest_nat lost (m := 4) (by decide) (by decide)
      refine tdet ek (tbnd (Homes_tells h1 (k : Int)) fun r3 e3 => ?_)
      unfold HomesF at e3
      have hop : openF l (inB (k : Int) 0 3) = if allCan l wo0 then 0 else 72 := by
        unfold openF
        rw [hg, if_pos rfl, if_pos (inB_iff.2 ⟨by omega, by omega⟩)]
      rw [hop] at e3
      cases hc : allCan l wo0 with
      | false =>
        rw [hc, if_neg (by decide)] at e3
        subst e3
        show Tells (cond true _ _) _
        rw [cond_true]
        refine tbnd (R := fun b => b = true) ?_ fun b hb => ?_
        · show Tells (cond true _ _) _
          rw [cond_true]
          exact tbnd (homeAll_tells h1 hS) fun b hb => tret (by rw [hb, hc]; rfl)
        · subst hb
          exact fin_tells rfl
      | true =>
        rw [hc, if_pos rfl, if_pos rfl] at e3
        obtain ⟨m1, m2, m3⟩ := maxS_spec (homeV l.Ring (k : Int)) (statesE l)
        generalize hn : maxS (homeV l.Ring (k : Int)) (statesE l) = n at *
        subst e3
        have hnb : n ≤ l.Ring + (k : Int) := by
          rcases m3 with m3 | ⟨s, hs, m3⟩
          · omega
          · have ha := (statesE_ok hS hs).a
            unfold homeV at m3
            split at m3 <;> omega
        have hcan : ∀ w, w < l.Starts.length → canB l w wo0 = true := allCan_iff.1 hc
        show Tells (ND.det _ _) _
        refine tdet (Lies_eq _ _ _) ?_
        rw [wr_id' (n := l.Ring + (k : Int)) (by omega) (by omega), inB_iff.2 ⟨m2, hnb⟩]
        show Tells (cond (decide (n > 60)) _ _) _
        by_cases h60 : n > 60
        · rw [decide_eq_true h60]
          exact work1_tells
        · rw [decide_eq_false h60, cond_false]
          refine tgrd (by simp only [List.length_nil]; unfold lim; omega) (tgrd (by simp only [List.nil_append, List.length_singleton]; unfold lim; omega) ?_)
          have e1 : SlaveLine.mk l.Ring l.Starts ((([] : List SlaveEvent) ++ l.Events) ++ [(SlaveEvent.mk 1 0 n (k : Int) 0 0)]) = snocL l (homeE n (k : Int)) := rfl
          have e2 : SlaveLine.mk l.Ring l.Starts (((([] : List SlaveEvent) ++ l.Events) ++ [(SlaveEvent.mk 1 0 n (k : Int) 0 0)]).set (Int.toNat (l.Events.length : Int)) (SlaveEvent.mk 1 0 (wr (n - 1)) (k : Int) 0 0)) = snocL l (homeE (wr (n - 1)) (k : Int)) := by
            unfold snocL homeE
            simp
          refine tfor0 l.Starts.length (fun i s => s = (false, (i : Int))) rfl ?_ ?_
          · rintro i _ hi rfl
            unfold w7SlaveHomed_b1
            dsimp only
            rw [e1, lt_t hi, cond_true]
            have hS' := homeE_ok (n := n) (k := (k : Int)) hS (by omega) (by omega) (by omega) m2 (by omega)
            refine tbnd (Can_tells (homeE_Ok (n := n) (k := (k : Int)) h1 (by omega) (by omega) (by omega) m2 (by omega)) (i : Int)) fun r10 e10 => ?_
            rw [canF_of hS' (show i < (snocL l (homeE n (k : Int))).Starts.length from hi), home_can hS (by omega) (by omega) (by omega) m2 (by omega) hi (hcan i hi), if_pos rfl, home_zero hS (by omega) (by omega) (by omega) m2 (by omega) m1 hi (hcan i hi)] at e10
            subst e10
            refine tdet (a := false) ?_ ?_
            · show (r0Alike [0] [0]).bind _ = _
              rw [Alike_eq _ _ (by decide)]
              rfl
            · rw [cond_false]
              exact tnxt (by rw [wr_succ (by omega)])
          · rintro _ rfl
            unfold w7SlaveHomed_b1
            dsimp only
            rw [lt_f, cond_false]
            refine tend ?_
            rw [beqI]
            by_cases h0 : n = 0
            · rw [decide_eq_true h0, cond_true]
              exact work1_tells
            · rw [decide_eq_false h0, cond_false]
              refine tgrd ⟨by omega, by simp only [List.nil_append, List.length_append, List.length_singleton]; omega⟩ ?_
              obtain ⟨s0, hs0, he0⟩ : ∃ s ∈ statesE l, n = homeV l.Ring (k : Int) s := by
                rcases m3 with m3 | m3
                · exact absurd m3 h0
                · exact m3
              obtain ⟨w0, hw0, hne⟩ := home_less (k := (k : Int)) hS (by omega) (by omega) (by omega) (by omega) (by omega) hs0 he0
              refine tfor0 l.Starts.length (fun i s => s = (false, (i : Int)) ∧ ∀ j, j < i → canN (snocL l (homeE (n - 1) (k : Int))) j 60 = [0]) ⟨rfl, fun j h => by omega⟩ ?_ ?_
              · rintro i _ hi ⟨rfl, hj⟩
                unfold w7SlaveHomed_b2
                dsimp only
                rw [e2, lt_t hi, cond_true, wr_id' (n := n - 1) (by omega) (by omega)]
                have hS' := homeE_ok (n := n - 1) (k := (k : Int)) hS (by omega) (by omega) (by omega) (by omega) (by omega)
                refine tbnd (Can_tells (homeE_Ok (n := n - 1) (k := (k : Int)) h1 (by omega) (by omega) (by omega) (by omega) (by omega)) (i : Int)) fun r13 e13 => ?_
                rw [canF_of hS' (show i < (snocL l (homeE (n - 1) (k : Int))).Starts.length from hi), home_can hS (by omega) (by omega) (by omega) (by omega) (by omega) hi (hcan i hi), if_pos rfl] at e13
                subst e13
                refine tdet (a := !decide (canN (snocL l (homeE (n - 1) (k : Int))) i 60 = [0])) ?_ ?_
                · show (r0Alike _ [0]).bind _ = _
                  rw [Alike_eq _ _ (Int.le_trans (show ((canN (snocL l (homeE (n - 1) (k : Int))) i 60).length : Int) ≤ 60 from by have := canN_len (snocL l (homeE (n - 1) (k : Int))) i 60; omega) (by decide))]
                  rfl
                · by_cases hz : canN (snocL l (homeE (n - 1) (k : Int))) i 60 = [0]
                  · rw [decide_eq_true hz]
                    refine tnxt ⟨by rw [wr_succ (by omega)], fun j hj2 => ?_⟩
                    by_cases e : j = i
                    · subst e; exact hz
                    · exact hj j (by omega)
                  · rw [decide_eq_false hz]
                    show Tells (cond true _ _) _
                    rw [cond_true]
                    refine tbnd (R := fun b => b = true) ?_ fun b hb => tend (tret hb)
                    show Tells (cond true _ _) _
                    rw [cond_true]
                    exact work1_tells
              · rintro _ ⟨rfl, hj⟩
                exact absurd (hj w0 hw0) hne
end Go.Proofs.YtmbgmefmkjeahaaDoor.Rt
