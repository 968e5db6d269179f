/- Walks of the functions of this seat: what each Go function comes to, as a Lean function, and the proof. Arguments read as data. Under no conditions. -/
import Derived.Test.YtidmdgjgpmeecaaDoorW0
import Derived.Test.YtidmdgjgpmeecaaDoorRt13
set_option linter.unusedVariables false
set_option linter.unusedSimpArgs false
set_option maxRecDepth 100000
set_option maxHeartbeats 4000000
namespace Go.Proofs.YtidmdgjgpmeecaaDoor.Rt
open Go Go.RowKit Go.ChangeShapes Go.WideShapes
theorem op_3 : Opens Tryd.prog 3 C_int InR := Opens.int u_3
def Ok_Span (x : Span) : Prop := InR x.Low ∧ InR x.High
theorem op_50 : Opens Tryd.prog 50 C_Span Ok_Span := by
  intro H enc w base sp held fuel cs x h
  have hl := struct_len ft_50 h cz_50
  obtain ⟨m0, y0, h0⟩ := field_of ft_50 h 0 (U := 3) (o := 0) (by kernel_rfl) cz_3
  obtain ⟨v0, r0, k0⟩ := op_3 _ _ _ _ _ _ _ _ _ h0
  obtain ⟨m1, y1, h1⟩ := field_of ft_50 h 1 (U := 3) (o := 1) (by kernel_rfl) cz_3
  obtain ⟨v1, r1, k1⟩ := op_3 _ _ _ _ _ _ _ _ _ h1
  match cs, hl with
  | [c0, c1], _ =>
    have e0 : [c0] = [.int .i64 v0] := r0
    simp only [List.cons.injEq, and_true] at e0; subst e0
    have e1 : [c1] = [.int .i64 v1] := r1
    simp only [List.cons.injEq, and_true] at e1; subst e1
    exact ⟨⟨v0, v1⟩, rfl, ⟨k0, k1⟩⟩
def Ok_SpareMachine (x : SpareMachine) : Prop := InR x.From ∧ InR x.Warm ∧ Ok_Span x.Life ∧ InR x.Drift
theorem op_52 : Opens Tryd.prog 52 C_SpareMachine Ok_SpareMachine := by
  intro H enc w base sp held fuel cs x h
  have hl := struct_len ft_52 h cz_52
  obtain ⟨m0, y0, h0⟩ := field_of ft_52 h 0 (U := 3) (o := 0) (by kernel_rfl) cz_3
  obtain ⟨v0, r0, k0⟩ := op_3 _ _ _ _ _ _ _ _ _ h0
  obtain ⟨m1, y1, h1⟩ := field_of ft_52 h 1 (U := 3) (o := 1) (by kernel_rfl) cz_3
  obtain ⟨v1, r1, k1⟩ := op_3 _ _ _ _ _ _ _ _ _ h1
  obtain ⟨m2, y2, h2⟩ := field_of ft_52 h 2 (U := 50) (o := 2) (by kernel_rfl) cz_50
  obtain ⟨v2, r2, k2⟩ := op_50 _ _ _ _ _ _ _ _ _ h2
  obtain ⟨m3, y3, h3⟩ := field_of ft_52 h 3 (U := 3) (o := 4) (by kernel_rfl) cz_3
  obtain ⟨v3, r3, k3⟩ := op_3 _ _ _ _ _ _ _ _ _ h3
  match cs, hl with
  | [c0, c1, c2, c3, c4], _ =>
    have e0 : [c0] = [.int .i64 v0] := r0
    simp only [List.cons.injEq, and_true] at e0; subst e0
    have e1 : [c1] = [.int .i64 v1] := r1
    simp only [List.cons.injEq, and_true] at e1; subst e1
    have e2 : [c2, c3] = [.int .i64 v2.Low, .int .i64 v2.High] := r2
    simp only [List.cons.injEq, and_true] at e2
    obtain ⟨rfl, rfl⟩ := e2
    have e3 : [c4] = [.int .i64 v3] := r3
    simp only [List.cons.injEq, and_true] at e3; subst e3
    exact ⟨⟨v0, v1, v2, v3⟩, rfl, ⟨k0, k1, k2, k3⟩⟩
theorem op_22 : Opens Tryd.prog 22 (C_sl C_SpareMachine) (OkL Ok_SpareMachine) := Opens.slice u_22 cz_52 (Nat.succ_pos _) op_52
def Ok_SpareStore (x : SpareStore) : Prop := InR x.Hours ∧ InR x.Gap ∧ (OkL Ok_SpareMachine x.Machines)
theorem op_24 : Opens Tryd.prog 24 C_SpareStore Ok_SpareStore := by
  intro H enc w base sp held fuel cs x h
  have hl := struct_len ft_24 h cz_24
  obtain ⟨m0, y0, h0⟩ := field_of ft_24 h 0 (U := 3) (o := 0) (by kernel_rfl) cz_3
  obtain ⟨v0, r0, k0⟩ := op_3 _ _ _ _ _ _ _ _ _ h0
  obtain ⟨m1, y1, h1⟩ := field_of ft_24 h 1 (U := 3) (o := 1) (by kernel_rfl) cz_3
  obtain ⟨v1, r1, k1⟩ := op_3 _ _ _ _ _ _ _ _ _ h1
  obtain ⟨m2, y2, h2⟩ := field_of ft_24 h 2 (U := 22) (o := 2) (by kernel_rfl) cz_22
  obtain ⟨v2, r2, k2⟩ := op_22 _ _ _ _ _ _ _ _ _ h2
  match cs, hl with
  | [c0, c1, c2], _ =>
    have e0 : [c0] = [.int .i64 v0] := r0
    simp only [List.cons.injEq, and_true] at e0; subst e0
    have e1 : [c1] = [.int .i64 v1] := r1
    simp only [List.cons.injEq, and_true] at e1; subst e1
    obtain ⟨p2, q2, e2, s2⟩ := r2
    replace e2 : [c2] = [.slice p2 v2.length q2] := e2
    simp only [List.cons.injEq, and_true] at e2; subst e2
    exact ⟨⟨v0, v1, v2⟩, ⟨p2, q2, rfl, s2⟩, ⟨k0, k1, k2⟩⟩
def Ok_SpareTurn (x : SpareTurn) : Prop := InR x.Machine ∧ InR x.Start ∧ InR x.Over
theorem op_46 : Opens Tryd.prog 46 C_SpareTurn Ok_SpareTurn := by
  intro H enc w base sp held fuel cs x h
  have hl := struct_len ft_46 h cz_46
  obtain ⟨m0, y0, h0⟩ := field_of ft_46 h 0 (U := 3) (o := 0) (by kernel_rfl) cz_3
  obtain ⟨v0, r0, k0⟩ := op_3 _ _ _ _ _ _ _ _ _ h0
  obtain ⟨m1, y1, h1⟩ := field_of ft_46 h 1 (U := 3) (o := 1) (by kernel_rfl) cz_3
  obtain ⟨v1, r1, k1⟩ := op_3 _ _ _ _ _ _ _ _ _ h1
  obtain ⟨m2, y2, h2⟩ := field_of ft_46 h 2 (U := 3) (o := 2) (by kernel_rfl) cz_3
  obtain ⟨v2, r2, k2⟩ := op_3 _ _ _ _ _ _ _ _ _ h2
  match cs, hl with
  | [c0, c1, c2], _ =>
    have e0 : [c0] = [.int .i64 v0] := r0
    simp only [List.cons.injEq, and_true] at e0; subst e0
    have e1 : [c1] = [.int .i64 v1] := r1
    simp only [List.cons.injEq, and_true] at e1; subst e1
    have e2 : [c2] = [.int .i64 v2] := r2
    simp only [List.cons.injEq, and_true] at e2; subst e2
    exact ⟨⟨v0, v1, v2⟩, rfl, ⟨k0, k1, k2⟩⟩
theorem op_25 : Opens Tryd.prog 25 (C_sl C_SpareTurn) (OkL Ok_SpareTurn) := Opens.slice u_25 cz_46 (Nat.succ_pos _) op_46
theorem op_39 : Opens Tryd.prog 39 (C_sl C_int) (OkL InR) := Opens.slice u_39 cz_3 (Nat.succ_pos _) op_3
def Ok_Arr3 (x : Arr3) : Prop := InR x.a0 ∧ InR x.a1 ∧ InR x.a2
theorem op_61 : Opens Tryd.prog 61 C_Arr3 Ok_Arr3 := by
  intro H enc w base sp held fuel cs x h
  have hl := array_len u_61 cz_61 h
  obtain ⟨m0, y0, h0⟩ := item_of u_61 cz_3 h 0 (by decide)
  obtain ⟨v0, r0, k0⟩ := op_3 _ _ _ _ _ _ _ _ _ h0
  obtain ⟨m1, y1, h1⟩ := item_of u_61 cz_3 h 1 (by decide)
  obtain ⟨v1, r1, k1⟩ := op_3 _ _ _ _ _ _ _ _ _ h1
  obtain ⟨m2, y2, h2⟩ := item_of u_61 cz_3 h 2 (by decide)
  obtain ⟨v2, r2, k2⟩ := op_3 _ _ _ _ _ _ _ _ _ h2
  match cs, hl with
  | [c0, c1, c2], _ =>
    have e0 : [c0] = [.int .i64 v0] := r0
    simp only [List.cons.injEq, and_true] at e0; subst e0
    have e1 : [c1] = [.int .i64 v1] := r1
    simp only [List.cons.injEq, and_true] at e1; subst e1
    have e2 : [c2] = [.int .i64 v2] := r2
    simp only [List.cons.injEq, and_true] at e2; subst e2
    exact ⟨⟨v0, v1, v2⟩, rfl, ⟨k0, k1, k2⟩⟩
end Go.Proofs.YtidmdgjgpmeecaaDoor.Rt
