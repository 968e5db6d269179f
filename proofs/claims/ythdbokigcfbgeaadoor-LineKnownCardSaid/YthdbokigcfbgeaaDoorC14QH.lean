/- Plain laws of the line seat, part 8: lines on all routes, cuts, loops that must be wrong. Under the conditions that each names. -/
import Derived.Test.YthdbokigcfbgeaaDoorC14QG
set_option linter.unusedVariables false
set_option linter.unusedSimpArgs false
set_option maxRecDepth 100000
set_option maxHeartbeats 4000000
namespace Go.Proofs.YthdbokigcfbgeaaDoor.Rt
open Go Go.RowKit
def cntF (l : List (List Int)) (k : Int) : Nat := (l.filter fun w => decide (k ∈ w)).length
theorem cntF_len (l : List (List Int)) (k : Int) : cntF l k ≤ l.length := List.length_filter_le _ _
theorem cntF_all (l : List (List Int)) (k : Int) : cntF l k = l.length ↔ l.all (fun w => decide (k ∈ w)) = true := by
  unfold cntF
  rw [List.length_filter_eq_length_iff, List.all_eq_true]
theorem cntF_take {l : List (List Int)} {k : Int} {i : Nat} (hi : i < l.length) : cntF (l.take (i + 1)) k = cntF (l.take i) k + (if k ∈ l[i] then 1 else 0) := by
  unfold cntF
  rw [List.take_succ_eq_append_getElem hi, List.filter_append, List.length_append]
  congr 1
  by_cases h : k ∈ l[i]
  · rw [if_pos h, List.filter_cons_of_pos (by simpa using h)]; rfl
  · rw [if_neg h, List.filter_cons_of_neg (by simpa using h)]; rfl
theorem on_eq (l : List (List Int)) (k : Int) (hl : l.length ≤ 100000000) (hr : ∀ w ∈ l, w.length ≤ 1000) : line_on l k = some (cntF l k : Int) := by
  unfold line_on
  refine loopU_for (fun i (s : Int × Int) => s = ((cntF (l.take i) k : Int), (i : Int))) l.length (Post := fun o => o = some (cntF l k : Int)) rfl ?_ ?_
  · rintro i _ hi rfl
    refine ⟨_, ?_, rfl⟩
    unfold line_on_b1
    dsimp only
    have hc := cntF_len (l.take i) k
    rw [List.length_take] at hc
    rw [lt_t hi, cond_true, idx_get hi, bind_s, contains_eq _ _ (by have := hr _ (List.getElem_mem hi); omega), bind_s, wr_succ (i := i) (by omega), cntF_take hi]
    by_cases h : k ∈ l[i]
    · rw [decide_eq_true h, cond_true, if_pos h, wr_succ (by omega)]
    · rw [decide_eq_false h, cond_false, if_neg h]; rfl
  · rintro _ rfl
    refine ⟨_, ?_, rfl⟩
    unfold line_on_b1
    dsimp only
    rw [lt_f, cond_false, List.take_length]
def surelyF (n : LineNet) (e : Int) : List Int := (List.range n.Lines.length).flatMap fun (k : Nat) => if (routesF n e 0).all (fun w => decide ((k : Int) ∈ w)) then [(k : Int)] else []
def SurelyF (n : LineNet) (e : Int) : List Int × Int := if errF n e = 0 then (surelyF n e, 0) else ([], errF n e)
theorem Surely_eq {n : LineNet} (h : Ok_LineNet n) (e : Int) : line_Surely n e = some (SurelyF n e) := by
  unfold line_Surely SurelyF
  obtain ⟨r, h1, h2, h3⟩ := asked_eq h e
  rw [h1, bind_s, h2]
  by_cases he : errF n e = 0
  · obtain ⟨hS, _, _, hne⟩ := errF_ok he
    obtain ⟨h5, h4⟩ := h3 he
    have hp := p126
    have hl := routes_len hS e 0
    have hL := hS.nl
    rw [if_pos he, he, show ((0 : Int) != 0) = false from rfl, cond_false]
    rw [loop_cat0 (fin := fun l => some (l, (0 : Int))) (fun (k : Nat) => if (routesF n e 0).all (fun w => decide ((k : Int) ∈ w)) then [(k : Int)] else []) n.Lines.length 1 (fun i out hi ho => ?_) (fun out => ?_) (fun i _ => by split <;> simp)]
    · rfl
    · unfold line_Surely_b1
      dsimp only
      rw [lt_t hi, cond_true, h4, on_eq _ _ (by omega) (fun w hw => by have := (routes_ok hS hw).len; omega), bind_s, beqI, wr_succ (by omega)]
      have hc := cntF_all (routesF n e 0) (i : Int)
      cases ha : (routesF n e 0).all (fun w => decide ((i : Int) ∈ w)) with
      | true =>
        have := hc.2 ha
        rw [decide_eq_true (by omega), cond_true, if_pos rfl, if_pos (by simp only [List.length_singleton]; unfold lim; omega)]
      | false =>
        have : ¬ cntF (routesF n e 0) (i : Int) = (routesF n e 0).length := fun g => by rw [hc.1 g] at ha; cases ha
        rw [decide_eq_false (by omega), cond_false, if_neg (by simp), List.append_nil]
    · unfold line_Surely_b1
      dsimp only
      rw [lt_f, cond_false]
  · rw [if_neg he, ne0 he, cond_true]
def sureC (n : LineNet) (line : Int) (k : Nat) : List Int := if cntF (routesF n (k : Int) 0) line = 0 then [] else if cntF (routesF n (k : Int) 0) line = (routesF n (k : Int) 0).length then [(k : Int)] else []
def mayC (n : LineNet) (line : Int) (k : Nat) : List Int := if cntF (routesF n (k : Int) 0) line = 0 then [] else if cntF (routesF n (k : Int) 0) line = (routesF n (k : Int) 0).length then [] else [(k : Int)]
def surelyC (n : LineNet) (line : Int) (m : Nat) : List Int := (List.range m).flatMap (sureC n line)
def mayCs (n : LineNet) (line : Int) (m : Nat) : List Int := (List.range m).flatMap (mayC n line)
theorem surelyC_succ (n : LineNet) (line : Int) (m : Nat) : surelyC n line (m + 1) = surelyC n line m ++ sureC n line m := by unfold surelyC; rw [List.range_succ, List.flatMap_append]; simp
theorem mayCs_succ (n : LineNet) (line : Int) (m : Nat) : mayCs n line (m + 1) = mayCs n line m ++ mayC n line m := by unfold mayCs; rw [List.range_succ, List.flatMap_append]; simp
theorem sureC_len (n : LineNet) (line : Int) (k : Nat) : (sureC n line k).length ≤ 1 := by
  unfold sureC; split
  · simp
  · split <;> simp
theorem mayC_len (n : LineNet) (line : Int) (k : Nat) : (mayC n line k).length ≤ 1 := by
  unfold mayC; split
  · simp
  · split <;> simp
theorem surelyC_len (n : LineNet) (line : Int) : ∀ m, (surelyC n line m).length ≤ m
  | 0 => Nat.le_refl _
  | m + 1 => by rw [surelyC_succ, List.length_append]; have := surelyC_len n line m; have := sureC_len n line m; omega
theorem mayCs_len (n : LineNet) (line : Int) : ∀ m, (mayCs n line m).length ≤ m
  | 0 => Nat.le_refl _
  | m + 1 => by rw [mayCs_succ, List.length_append]; have := mayCs_len n line m; have := mayC_len n line m; omega
def CutF (n : LineNet) (line : Int) : List Int × List Int × Int := if goodB n then if inB line 0 ((n.Lines.length : Int) - 1) then (surelyC n line n.Exchanges.toNat, mayCs n line n.Exchanges.toNat, 0) else ([], [], 61) else ([], [], 60)
theorem Cut_eq {n : LineNet} (h : Ok_LineNet n) (line : Int) : line_Cut n line = some (CutF n line) := by
  unfold line_Cut CutF
  rw [line_Check_eq n h, bind_s]
  cases hg : goodB n with
  | false => rfl
  | true =>
    have hS := OkS.of hg
    have hL := hS.nl; have he1 := hS.e1; have he2 := hS.e2
    rw [if_pos rfl, show ((0 : Int) != 0) = false from rfl, cond_false, lies_eq, bind_s, wr_id' (n := (n.Lines.length : Int) - 1) (by omega) (by omega)]
    cases h1 : inB line 0 ((n.Lines.length : Int) - 1) with
    | false => rfl
    | true =>
      rw [Bool.not_true, cond_false, opened_eq hS 0, bind_s, if_pos rfl, if_pos rfl]
      have hp := p126
      refine loopU_for (fun i (s : List Int × List Int × Int) => s = (surelyC n line i, mayCs n line i, (i : Int))) n.Exchanges.toNat (Post := fun o => o = some (surelyC n line n.Exchanges.toNat, mayCs n line n.Exchanges.toNat, 0)) rfl ?_ ?_
      · rintro i _ hi rfl
        refine ⟨(surelyC n line (i + 1), mayCs n line (i + 1), ((i + 1 : Nat) : Int)), ?_, rfl⟩
        unfold line_Cut_b1
        dsimp only
        have hl := routes_len hS (i : Int) 0
        have l1 := surelyC_len n line i; have l2 := mayCs_len n line i
        rw [show decide ((i : Int) < n.Exchanges) = true by simp; omega, cond_true, routes0 hS, bind_s, on_eq _ _ (by omega) (fun w hw => by have := (routes_ok hS hw).len; omega), bind_s, beqI, beqI, wr_succ (by omega), surelyC_succ, mayCs_succ]
        unfold sureC mayC
        by_cases c0 : cntF (routesF n (i : Int) 0) line = 0
        · rw [decide_eq_true (by omega), cond_true, if_pos c0, if_pos c0, List.append_nil, List.append_nil]
        · rw [decide_eq_false (by omega), cond_false, if_neg c0, if_neg c0]
          by_cases c1 : cntF (routesF n (i : Int) 0) line = (routesF n (i : Int) 0).length
          · rw [decide_eq_true (by omega), cond_true, if_pos c1, if_pos c1, if_pos (by simp only [List.length_singleton]; unfold lim; omega), List.append_nil]
          · rw [decide_eq_false (by omega), cond_false, if_neg c1, if_neg c1, if_pos (by simp only [List.length_singleton]; unfold lim; omega), List.append_nil]
      · rintro _ rfl
        refine ⟨_, ?_, rfl⟩
        unfold line_Cut_b1
        dsimp only
        rw [show decide (((n.Exchanges.toNat : Nat) : Int) < n.Exchanges) = false by simp; omega, cond_false]
end Go.Proofs.YthdbokigcfbgeaaDoor.Rt
