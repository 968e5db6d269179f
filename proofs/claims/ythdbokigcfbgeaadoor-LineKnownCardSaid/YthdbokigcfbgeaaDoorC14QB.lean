/- Plain laws of the line seat, part 2: the checks of a net. Under the conditions that each names. -/
import Derived.Test.YthdbokigcfbgeaaDoorC14QA
set_option linter.unusedVariables false
set_option linter.unusedSimpArgs false
set_option maxRecDepth 100000
set_option maxHeartbeats 4000000
namespace Go.Proofs.YthdbokigcfbgeaaDoor.Rt
open Go Go.RowKit
theorem lies_eq (n a b : Int) : line_lies n a b = some (inB n a b) := rfl
def spanB (s : Span) (most : Int) : Bool := (decide (0 ≤ s.Low) && decide (s.Low ≤ s.High)) && decide (s.High ≤ most)
theorem isSpan_eq (s : Span) (m : Int) : line_isSpan s m = some (spanB s m) := rfl
def lineW (hi : Int) (x : LineLine) : Bool := inB x.From 0 hi && inB x.To 0 hi && decide (x.From ≠ x.To) && spanB x.Delay 1000
def loopW (hi : Int) (x : LineLoop) : Bool := inB x.Exchange 0 hi && spanB x.Read 12000
def sizesB (n : LineNet) : Bool := inB n.Exchanges 1 7 && decide ((n.Lines.length : Int) ≤ 12) && inB n.Hops 1 6 && decide ((n.Loops.length : Int) ≤ 10)
def goodB (n : LineNet) : Bool := sizesB n && n.Lines.all (lineW (n.Exchanges - 1)) && n.Loops.all (loopW (n.Exchanges - 1))
theorem goodW (n : LineNet) : (sizesB n && n.Lines.all (lineW (wr (n.Exchanges - 1))) && n.Loops.all (loopW (wr (n.Exchanges - 1)))) = goodB n := by
  unfold goodB
  cases h : sizesB n with
  | false => rfl
  | true =>
    simp only [sizesB, Bool.and_eq_true, inB_iff, decide_eq_true_eq] at h
    rw [wr_id' (n := n.Exchanges - 1) (by omega) (by omega)]
theorem Ok_net {n : LineNet} (h : Ok_LineNet n) : (n.Lines.length : Int) ≤ 9223372036854775807 ∧ (n.Loops.length : Int) ≤ 9223372036854775807 := ⟨h.2.1.1, h.2.2.2.1⟩
theorem neB (a b : Int) : (a != b) = decide (a ≠ b) := bneI a b
theorem line_Check_eq (n : LineNet) (h : Ok_LineNet n) : line_Check n = some (if goodB n then 0 else 60) := by
  obtain ⟨hs, he⟩ := Ok_net h
  have b2 : ∀ b, loopU (line_Check_b2 n) (b, 0) = some (if b && n.Loops.all (loopW (wr (n.Exchanges - 1))) then 0 else 60) := by
    intro b
    refine loop_and n.Loops (loopW (wr (n.Exchanges - 1))) (fun b => some (if b then 0 else 60)) _ (fun i hi b => ?_) (fun b => ?_) b
    · unfold line_Check_b2
      simp only [lt_t hi, cond_true, idx_get hi, bind_s, lies_eq, isSpan_eq, cond_b_some, wr_succ (i := i) (by omega)]
      unfold loopW
      rw [Bool.and_assoc]
    · unfold line_Check_b2
      simp only [lt_f, cond_false]
      cases b <;> rfl
  have b1 : ∀ b, loopU (line_Check_b1 n) (b, 0) = some (if b && n.Lines.all (lineW (wr (n.Exchanges - 1))) && n.Loops.all (loopW (wr (n.Exchanges - 1))) then 0 else 60) := by
    intro b
    refine loop_and n.Lines (lineW (wr (n.Exchanges - 1))) (fun b => some (if b && n.Loops.all (loopW (wr (n.Exchanges - 1))) then 0 else 60)) _ (fun i hi b => ?_) (fun b => ?_) b
    · unfold line_Check_b1
      simp only [lt_t hi, cond_true, idx_get hi, bind_s, lies_eq, isSpan_eq, cond_b_some, wr_succ (i := i) (by omega), neB]
      unfold lineW
      simp only [Bool.and_assoc]
    · unfold line_Check_b1
      simp only [lt_f, cond_false]
      rw [b2]
  unfold line_Check
  simp only [lies_eq, bind_s, cond_b_some]
  rw [b1, ← goodW]
  unfold sizesB
  simp only [Bool.and_assoc]
structure OkS (n : LineNet) : Prop where
  e1 : 1 ≤ n.Exchanges
  e2 : n.Exchanges ≤ 7
  nl : n.Lines.length ≤ 12
  h1 : 1 ≤ n.Hops
  h2 : n.Hops ≤ 6
  no : n.Loops.length ≤ 10
  l : ∀ x ∈ n.Lines, lineW (n.Exchanges - 1) x = true
  o : ∀ x ∈ n.Loops, loopW (n.Exchanges - 1) x = true
theorem OkS.of {n : LineNet} (h : goodB n = true) : OkS n := by
  simp only [goodB, sizesB, Bool.and_eq_true, inB_iff, decide_eq_true_eq, List.all_eq_true] at h
  obtain ⟨⟨⟨⟨⟨⟨a, b⟩, c⟩, d⟩, e⟩, f⟩, g⟩ := h
  exact ⟨a, b, by omega, by omega, by omega, by omega, f, g⟩
theorem OkS.good {n : LineNet} (h : OkS n) : goodB n = true := by
  simp only [goodB, sizesB, Bool.and_eq_true, inB_iff, decide_eq_true_eq, List.all_eq_true]
  have := h.e1; have := h.e2; have := h.nl; have := h.h1; have := h.h2; have := h.no
  exact ⟨⟨⟨⟨⟨by omega, by omega⟩, by omega⟩, by omega⟩, h.l⟩, h.o⟩
structure OkL1 (E : Int) (x : LineLine) : Prop where
  f1 : 0 ≤ x.From
  f2 : x.From < E
  t1 : 0 ≤ x.To
  t2 : x.To < E
  ne : x.From ≠ x.To
  d1 : 0 ≤ x.Delay.Low
  d2 : x.Delay.Low ≤ x.Delay.High
  d3 : x.Delay.High ≤ 1000
theorem OkL1.of {E : Int} {x : LineLine} (h : lineW (E - 1) x = true) : OkL1 E x := by
  simp only [lineW, spanB, Bool.and_eq_true, inB_iff, decide_eq_true_eq] at h
  obtain ⟨⟨⟨⟨a, b⟩, c, d⟩, e⟩, ⟨f, g⟩, i⟩ := h
  exact ⟨a, by omega, c, by omega, e, f, g, i⟩
theorem OkL1.is {E : Int} {x : LineLine} (h : OkL1 E x) : lineW (E - 1) x = true := by
  simp only [lineW, spanB, Bool.and_eq_true, inB_iff, decide_eq_true_eq]
  have := h.f1; have := h.f2; have := h.t1; have := h.t2
  exact ⟨⟨⟨⟨by omega, by omega⟩, by omega, by omega⟩, h.ne⟩, ⟨h.d1, h.d2⟩, h.d3⟩
structure OkO1 (E : Int) (x : LineLoop) : Prop where
  e1 : 0 ≤ x.Exchange
  e2 : x.Exchange < E
  r1 : 0 ≤ x.Read.Low
  r2 : x.Read.Low ≤ x.Read.High
  r3 : x.Read.High ≤ 12000
theorem OkO1.of {E : Int} {x : LineLoop} (h : loopW (E - 1) x = true) : OkO1 E x := by
  simp only [loopW, spanB, Bool.and_eq_true, inB_iff, decide_eq_true_eq] at h
  obtain ⟨⟨a, b⟩, ⟨f, g⟩, i⟩ := h
  exact ⟨a, by omega, f, g, i⟩
theorem OkO1.is {E : Int} {x : LineLoop} (h : OkO1 E x) : loopW (E - 1) x = true := by
  simp only [loopW, spanB, Bool.and_eq_true, inB_iff, decide_eq_true_eq]
  have := h.e1; have := h.e2
  exact ⟨⟨by omega, by omega⟩, ⟨h.r1, h.r2⟩, h.r3⟩
theorem OkS.at {n : LineNet} (h : OkS n) {i : Nat} (hi : i < n.Lines.length) : OkL1 n.Exchanges n.Lines[i] := OkL1.of (h.l _ (List.getElem_mem hi))
theorem OkS.lo {n : LineNet} (h : OkS n) {i : Nat} (hi : i < n.Loops.length) : OkO1 n.Exchanges n.Loops[i] := OkO1.of (h.o _ (List.getElem_mem hi))
end Go.Proofs.YthdbokigcfbgeaaDoor.Rt
