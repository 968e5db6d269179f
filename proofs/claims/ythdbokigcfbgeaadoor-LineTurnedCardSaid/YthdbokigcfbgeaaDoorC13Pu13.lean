/- What the pure function of a law comes to. Under no conditions. -/
import Derived.Test.YthdbokigcfbgeaaDoorC13L13
import Derived.Test.YthdbokigcfbgeaaDoorC13QO
set_option linter.unusedVariables false
set_option linter.unusedSimpArgs false
set_option maxRecDepth 100000
set_option maxHeartbeats 4000000
namespace Go.Proofs.YthdbokigcfbgeaaDoor.Rt
open Go Go.RowKit
theorem get_snoc {α : Type} {l : List α} {i : Nat} (hl : l.length = i) (a : α) (j : Nat) : (l ++ [a])[j]? = if j = i then some a else l[j]? := by
  by_cases h : j = i
  · subst h
    rw [if_pos rfl, List.getElem?_append_right (by omega), hl]; simp
  · rw [if_neg h]
    by_cases h2 : j < l.length
    · rw [List.getElem?_append_left h2]
    · rw [List.getElem?_append_right (by omega), List.getElem?_eq_none (l := l) (by omega), List.getElem?_eq_none (by simp only [List.length_singleton]; omega)]
structure PartL (n : LineNet) (b : Int) (s i : Nat) (l : List LineLine) : Prop where
  len : l.length = i
  is : ∀ j, j < i → l[j]? = (n.Lines[j]?).map (turnL n b s j)
structure PartO (n : LineNet) (b : Int) (i : Nat) (l : List LineLoop) : Prop where
  len : l.length = i
  is : ∀ j, j < i → l[j]? = (n.Loops[j]?).map fun (y : LineLoop) => LineLoop.mk (turnF n b y.Exchange) y.Read
theorem pure_13 (n : LineNet) (k : Arr3) (h : Ok_LineNet n) (_ : Ok_Arr3 k) : remontoirlaw06_LineTurned n k = some true := by
  unfold remontoirlaw06_LineTurned
  rw [sound_eq n h, bind_s]
  cases hg : goodB n with
  | false => exact work_eq
  | true =>
    have hS := OkS.of hg
    have he1 := hS.e1; have he2 := hS.e2; have hnl := hS.nl; have hno := hS.no
    rw [Bool.not_true, cond_false, wr_id' (n := n.Exchanges - 1) (by omega) (by omega)]
    obtain ⟨b, eb, hb0, hb1⟩ := rest_any k.a1 (by_ := if n.Exchanges - 1 > 1 then n.Exchanges - 1 else 1) (by split <;> omega) (by split <;> omega)
    have hb2 : b ≤ 100 := by
      have : (if n.Exchanges - 1 > 1 then n.Exchanges - 1 else 1) ≤ 6 := by split <;> omega
      omega
    rw [eb, bind_s]
    have hs : ∃ s : Nat, n.Lines.length ≠ 0 → r0Rest k.a0 (n.Lines.length : Int) = some (s : Int) := by
      by_cases h0 : n.Lines.length = 0
      · exact ⟨0, fun g => absurd h0 g⟩
      · obtain ⟨s, es, _⟩ := rest_nat k.a0 (m := n.Lines.length) (by omega) (by omega)
        exact ⟨s, fun _ => es⟩
    obtain ⟨s, es⟩ := hs
    refine loopU_for (fun i (q : Int × List LineLine) => q.1 = (i : Int) ∧ PartL n b s i q.2) n.Lines.length (Post := fun o => o = some true) ⟨rfl, rfl, fun j hj => by omega⟩ ?_ ?_
    · rintro i ⟨_, l⟩ hi ⟨rfl, hp⟩
      simp only at hp
      have ho := hS.at hi
      have hl := hp.len
      refine ⟨(((i + 1 : Nat) : Int), l ++ [turnL n b s i n.Lines[i]]), ?_, rfl, by simp only [List.length_append, List.length_singleton]; omega, fun j hj => ?_⟩
      · have hk2 : ∀ z z1 : Int, remontoirlaw06_LineTurned_k2 (i : Int) l n.Lines[i] z z1 = nxt (((i + 1 : Nat) : Int), l ++ [⟨z, z1, n.Lines[i].Delay⟩]) := fun z z1 => by
          unfold remontoirlaw06_LineTurned_k2
          rw [if_pos (by simp only [List.length_singleton]; unfold lim; omega), wr_succ (by omega)]
        unfold remontoirlaw06_LineTurned_b1
        dsimp only
        rw [lt_t hi, cond_true, idx_get hi, bind_s, turned_eq hS hb0 hb2 ho.f1 ho.f2, bind_s, turned_eq hS hb0 hb2 ho.t1 ho.t2, bind_s, es (by omega), bind_s, beqI, hk2, hk2]
        unfold turnL
        by_cases hc : i = s
        · rw [decide_eq_true (show (i : Int) = (s : Int) by omega), if_pos hc]; rfl
        · rw [decide_eq_false (show ¬ (i : Int) = (s : Int) by omega), if_neg hc]; rfl
      · simp only
        rw [get_snoc hl]
        by_cases e : j = i
        · subst e; rw [if_pos rfl, List.getElem?_eq_getElem hi]; rfl
        · rw [if_neg e]; exact hp.is j (by omega)
    · rintro ⟨_, l⟩ ⟨rfl, hp⟩
      simp only at hp
      refine ⟨loopU (remontoirlaw06_LineTurned_b3 n k b l) (0, ([] : List LineLoop)), by unfold remontoirlaw06_LineTurned_b1; dsimp only; rw [lt_f, cond_false], ?_⟩
      refine loopU_for (fun i (q : Int × List LineLoop) => q.1 = (i : Int) ∧ PartO n b i q.2) n.Loops.length (Post := fun o => o = some true) ⟨rfl, rfl, fun j hj => by omega⟩ ?_ ?_
      · rintro i ⟨_, l1⟩ hi ⟨rfl, hq⟩
        simp only at hq
        have ho := hS.lo hi
        have hl := hq.len
        refine ⟨(((i + 1 : Nat) : Int), l1 ++ [⟨turnF n b n.Loops[i].Exchange, n.Loops[i].Read⟩]), ?_, rfl, by simp only [List.length_append, List.length_singleton]; omega, fun j hj => ?_⟩
        · unfold remontoirlaw06_LineTurned_b3
          dsimp only
          rw [lt_t hi, cond_true, idx_get hi, bind_s, turned_eq hS hb0 hb2 ho.e1 ho.e2, bind_s, if_pos (by simp only [List.length_singleton]; unfold lim; omega), wr_succ (by omega)]
        · simp only
          rw [get_snoc hl]
          by_cases e : j = i
          · subst e; rw [if_pos rfl, List.getElem?_eq_getElem hi]; rfl
          · rw [if_neg e]; exact hq.is j (by omega)
      · rintro ⟨_, l1⟩ ⟨rfl, hq⟩
        simp only at hq
        refine ⟨some true, ?_, rfl⟩
        unfold remontoirlaw06_LineTurned_b3
        dsimp only
        rw [lt_f, cond_false]
        congr 1
        have hT : Turn n b s (LineNet.mk n.Exchanges l n.Hops l1) := ⟨rfl, rfl, fun j => by
          by_cases hj : j < n.Lines.length
          · exact hp.is j hj
          · rw [List.getElem?_eq_none (l := n.Lines) (by omega)]
            exact List.getElem?_eq_none (by have := hp.len; show l.length ≤ j; omega), fun j => by
          by_cases hj : j < n.Loops.length
          · exact hq.is j hj
          · rw [List.getElem?_eq_none (l := n.Loops) (by omega)]
            exact List.getElem?_eq_none (by have := hq.len; show l1.length ≤ j; omega)⟩
        generalize LineNet.mk n.Exchanges l n.Hops l1 = x at hT
        have hSx := hT.ok hS
        have hOx := good_Ok hSx
        obtain ⟨e, ee, he⟩ := rest_natI k.a2 (m := n.Exchanges) (by omega) (by omega)
        obtain ⟨r, er, hW⟩ := Wrong_eq h
        obtain ⟨q, eq_, hWx⟩ := Wrong_eq hOx
        obtain ⟨g1, g2⟩ := hW.good hg
        obtain ⟨g3, g4⟩ := hWx.good hSx.good
        have hrq : r.1 = q.1 := g2.uniq (hT.left hS g4)
        have hrl : (r.1.length : Int) ≤ 100 := by
          obtain ⟨t, _, e5, _⟩ := g2.is
          have := listT_len t n.Loops.length
          rw [e5]; omega
        obtain ⟨a1, a2⟩ := RoutesF_bd n (e : Int)
        rw [ee, bind_s, Routes_eq h, bind_s, turned_eq hS hb0 hb2 (by omega) he, bind_s, Routes_eq hOx, bind_s, Delay_eq h, bind_s, bind_s, Delay_eq hOx, bind_s, er, bind_s, eq_, bind_s, hT.RoutesF hS (by omega) he, hT.DelayF hS (by omega) he, g1, g3, RoutesF_err, DelayF_err, beI, beI]
        simp only [Bool.and_self, cond_true]
        rw [AlikeRows_eq _ _ (by omega) (fun w hw => by have := a2 w hw; omega), bind_s, decide_eq_true rfl, bind_s, beq_self_eq_true, Bool.and_true, cond_true, hrq, Alike_eq _ _ (by rw [← hrq]; omega), bind_s, decide_eq_true rfl, bind_s]
        exact fin_eq rfl
end Go.Proofs.YthdbokigcfbgeaaDoor.Rt
