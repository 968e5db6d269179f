/- Walks of the functions of this seat: what each Go function comes to, as a Lean function, and the proof. Arguments read as data. Under no conditions. -/
import Derived.Test.YtpniidbbbhbglaaDoorW0
import Derived.Test.YtpniidbbbhbglaaDoorRt13
set_option linter.unusedVariables false
set_option linter.unusedSimpArgs false
set_option maxRecDepth 100000
set_option maxHeartbeats 4000000
namespace Go.Proofs.YtpniidbbbhbglaaDoor.Rt
open Go Go.RowKit Go.ChangeShapes Go.WideShapes
theorem op_3 : Opens Tryd.prog 3 C_int InR := Opens.int u_3
def Ok_Span (x : Span) : Prop := InR x.Low ∧ InR x.High
theorem op_34 : Opens Tryd.prog 34 C_Span Ok_Span := by
  intro H enc w base sp held fuel cs x h
  have hl := struct_len ft_34 h cz_34
  obtain ⟨m0, y0, h0⟩ := field_of ft_34 h 0 (U := 3) (o := 0) (by kernel_rfl) cz_3
  obtain ⟨v0, r0, k0⟩ := op_3 _ _ _ _ _ _ _ _ _ h0
  obtain ⟨m1, y1, h1⟩ := field_of ft_34 h 1 (U := 3) (o := 1) (by kernel_rfl) cz_3
  obtain ⟨v1, r1, k1⟩ := op_3 _ _ _ _ _ _ _ _ _ h1
  match cs, hl with
  | [c0, c1], _ =>
    have e0 : [c0] = [.int .i64 v0] := r0
    simp only [List.cons.injEq, and_true] at e0; subst e0
    have e1 : [c1] = [.int .i64 v1] := r1
    simp only [List.cons.injEq, and_true] at e1; subst e1
    exact ⟨⟨v0, v1⟩, rfl, ⟨k0, k1⟩⟩
theorem op_22 : Opens Tryd.prog 22 (C_sl C_Span) (OkL Ok_Span) := Opens.slice u_22 cz_34 (Nat.succ_pos _) op_34
def Ok_BeatOpen (x : BeatOpen) : Prop := InR x.Clock ∧ InR x.Hour ∧ Ok_Span x.Step
theorem op_63 : Opens Tryd.prog 63 C_BeatOpen Ok_BeatOpen := by
  intro H enc w base sp held fuel cs x h
  have hl := struct_len ft_63 h cz_63
  obtain ⟨m0, y0, h0⟩ := field_of ft_63 h 0 (U := 3) (o := 0) (by kernel_rfl) cz_3
  obtain ⟨v0, r0, k0⟩ := op_3 _ _ _ _ _ _ _ _ _ h0
  obtain ⟨m1, y1, h1⟩ := field_of ft_63 h 1 (U := 3) (o := 1) (by kernel_rfl) cz_3
  obtain ⟨v1, r1, k1⟩ := op_3 _ _ _ _ _ _ _ _ _ h1
  obtain ⟨m2, y2, h2⟩ := field_of ft_63 h 2 (U := 34) (o := 2) (by kernel_rfl) cz_34
  obtain ⟨v2, r2, k2⟩ := op_34 _ _ _ _ _ _ _ _ _ h2
  match cs, hl with
  | [c0, c1, c2, c3], _ =>
    have e0 : [c0] = [.int .i64 v0] := r0
    simp only [List.cons.injEq, and_true] at e0; subst e0
    have e1 : [c1] = [.int .i64 v1] := r1
    simp only [List.cons.injEq, and_true] at e1; subst e1
    have e2 : [c2, c3] = [.int .i64 v2.Low, .int .i64 v2.High] := r2
    simp only [List.cons.injEq, and_true] at e2
    obtain ⟨rfl, rfl⟩ := e2
    exact ⟨⟨v0, v1, v2⟩, rfl, ⟨k0, k1, k2⟩⟩
theorem op_23 : Opens Tryd.prog 23 (C_sl C_BeatOpen) (OkL Ok_BeatOpen) := Opens.slice u_23 cz_63 (Nat.succ_pos _) op_63
def Ok_BeatPair (x : BeatPair) : Prop := InR x.Hour ∧ InR x.One ∧ InR x.Other ∧ Ok_Span x.Read
theorem op_61 : Opens Tryd.prog 61 C_BeatPair Ok_BeatPair := by
  intro H enc w base sp held fuel cs x h
  have hl := struct_len ft_61 h cz_61
  obtain ⟨m0, y0, h0⟩ := field_of ft_61 h 0 (U := 3) (o := 0) (by kernel_rfl) cz_3
  obtain ⟨v0, r0, k0⟩ := op_3 _ _ _ _ _ _ _ _ _ h0
  obtain ⟨m1, y1, h1⟩ := field_of ft_61 h 1 (U := 3) (o := 1) (by kernel_rfl) cz_3
  obtain ⟨v1, r1, k1⟩ := op_3 _ _ _ _ _ _ _ _ _ h1
  obtain ⟨m2, y2, h2⟩ := field_of ft_61 h 2 (U := 3) (o := 2) (by kernel_rfl) cz_3
  obtain ⟨v2, r2, k2⟩ := op_3 _ _ _ _ _ _ _ _ _ h2
  obtain ⟨m3, y3, h3⟩ := field_of ft_61 h 3 (U := 34) (o := 3) (by kernel_rfl) cz_34
  obtain ⟨v3, r3, k3⟩ := op_34 _ _ _ _ _ _ _ _ _ h3
  match cs, hl with
  | [c0, c1, c2, c3, c4], _ =>
    have e0 : [c0] = [.int .i64 v0] := r0
    simp only [List.cons.injEq, and_true] at e0; subst e0
    have e1 : [c1] = [.int .i64 v1] := r1
    simp only [List.cons.injEq, and_true] at e1; subst e1
    have e2 : [c2] = [.int .i64 v2] := r2
    simp only [List.cons.injEq, and_true] at e2; subst e2
    have e3 : [c3, c4] = [.int .i64 v3.Low, .int .i64 v3.High] := r3
    simp only [List.cons.injEq, and_true] at e3
    obtain ⟨rfl, rfl⟩ := e3
    exact ⟨⟨v0, v1, v2, v3⟩, rfl, ⟨k0, k1, k2, k3⟩⟩
theorem op_24 : Opens Tryd.prog 24 (C_sl C_BeatPair) (OkL Ok_BeatPair) := Opens.slice u_24 cz_61 (Nat.succ_pos _) op_61
def Ok_BeatCellar (x : BeatCellar) : Prop := InR x.Hours ∧ (OkL Ok_Span x.Rates) ∧ (OkL Ok_BeatOpen x.Opens) ∧ (OkL Ok_BeatPair x.Pairs)
theorem op_26 : Opens Tryd.prog 26 C_BeatCellar Ok_BeatCellar := by
  intro H enc w base sp held fuel cs x h
  have hl := struct_len ft_26 h cz_26
  obtain ⟨m0, y0, h0⟩ := field_of ft_26 h 0 (U := 3) (o := 0) (by kernel_rfl) cz_3
  obtain ⟨v0, r0, k0⟩ := op_3 _ _ _ _ _ _ _ _ _ h0
  obtain ⟨m1, y1, h1⟩ := field_of ft_26 h 1 (U := 22) (o := 1) (by kernel_rfl) cz_22
  obtain ⟨v1, r1, k1⟩ := op_22 _ _ _ _ _ _ _ _ _ h1
  obtain ⟨m2, y2, h2⟩ := field_of ft_26 h 2 (U := 23) (o := 2) (by kernel_rfl) cz_23
  obtain ⟨v2, r2, k2⟩ := op_23 _ _ _ _ _ _ _ _ _ h2
  obtain ⟨m3, y3, h3⟩ := field_of ft_26 h 3 (U := 24) (o := 3) (by kernel_rfl) cz_24
  obtain ⟨v3, r3, k3⟩ := op_24 _ _ _ _ _ _ _ _ _ h3
  match cs, hl with
  | [c0, c1, c2, c3], _ =>
    have e0 : [c0] = [.int .i64 v0] := r0
    simp only [List.cons.injEq, and_true] at e0; subst e0
    obtain ⟨p1, q1, e1, s1⟩ := r1
    replace e1 : [c1] = [.slice p1 v1.length q1] := e1
    simp only [List.cons.injEq, and_true] at e1; subst e1
    obtain ⟨p2, q2, e2, s2⟩ := r2
    replace e2 : [c2] = [.slice p2 v2.length q2] := e2
    simp only [List.cons.injEq, and_true] at e2; subst e2
    obtain ⟨p3, q3, e3, s3⟩ := r3
    replace e3 : [c3] = [.slice p3 v3.length q3] := e3
    simp only [List.cons.injEq, and_true] at e3; subst e3
    exact ⟨⟨v0, v1, v2, v3⟩, ⟨p1, q1, p2, q2, p3, q3, rfl, s1, s2, s3⟩, ⟨k0, k1, k2, k3⟩⟩
theorem op_44 : Opens Tryd.prog 44 (C_sl C_int) (OkL InR) := Opens.slice u_44 cz_3 (Nat.succ_pos _) op_3
theorem op_27 : Opens Tryd.prog 27 (C_sl (C_sl C_int)) (OkL (OkL InR)) := Opens.slice u_27 cz_44 (Nat.succ_pos _) op_44
def Ok_Arr2 (x : Arr2) : Prop := InR x.a0 ∧ InR x.a1
theorem op_28 : Opens Tryd.prog 28 C_Arr2 Ok_Arr2 := by
  intro H enc w base sp held fuel cs x h
  have hl := array_len u_28 cz_28 h
  obtain ⟨m0, y0, h0⟩ := item_of u_28 cz_3 h 0 (by decide)
  obtain ⟨v0, r0, k0⟩ := op_3 _ _ _ _ _ _ _ _ _ h0
  obtain ⟨m1, y1, h1⟩ := item_of u_28 cz_3 h 1 (by decide)
  obtain ⟨v1, r1, k1⟩ := op_3 _ _ _ _ _ _ _ _ _ h1
  match cs, hl with
  | [c0, c1], _ =>
    have e0 : [c0] = [.int .i64 v0] := r0
    simp only [List.cons.injEq, and_true] at e0; subst e0
    have e1 : [c1] = [.int .i64 v1] := r1
    simp only [List.cons.injEq, and_true] at e1; subst e1
    exact ⟨⟨v0, v1⟩, rfl, ⟨k0, k1⟩⟩
def Ok_Arr3 (x : Arr3) : Prop := InR x.a0 ∧ InR x.a1 ∧ InR x.a2
theorem op_39 : Opens Tryd.prog 39 C_Arr3 Ok_Arr3 := by
  intro H enc w base sp held fuel cs x h
  have hl := array_len u_39 cz_39 h
  obtain ⟨m0, y0, h0⟩ := item_of u_39 cz_3 h 0 (by decide)
  obtain ⟨v0, r0, k0⟩ := op_3 _ _ _ _ _ _ _ _ _ h0
  obtain ⟨m1, y1, h1⟩ := item_of u_39 cz_3 h 1 (by decide)
  obtain ⟨v1, r1, k1⟩ := op_3 _ _ _ _ _ _ _ _ _ h1
  obtain ⟨m2, y2, h2⟩ := item_of u_39 cz_3 h 2 (by decide)
  obtain ⟨v2, r2, k2⟩ := op_3 _ _ _ _ _ _ _ _ _ h2
  match cs, hl with
  | [c0, c1, c2], _ =>
    have e0 : [c0] = [.int .i64 v0] := r0
    simp only [List.cons.injEq, and_true] at e0; subst e0
    have e1 : [c1] = [.int .i64 v1] := r1
    simp only [List.cons.injEq, and_true] at e1; subst e1
    have e2 : [c2] = [.int .i64 v2] := r2
    simp only [List.cons.injEq, and_true] at e2; subst e2
    exact ⟨⟨v0, v1, v2⟩, rfl, ⟨k0, k1, k2⟩⟩
theorem op_4 : Opens Tryd.prog 4 C_bool (fun _ => True) := Opens.bool u_4
def Ok_Arr4 (x : Arr4) : Prop := InR x.a0 ∧ InR x.a1 ∧ InR x.a2 ∧ InR x.a3
theorem op_52 : Opens Tryd.prog 52 C_Arr4 Ok_Arr4 := by
  intro H enc w base sp held fuel cs x h
  have hl := array_len u_52 cz_52 h
  obtain ⟨m0, y0, h0⟩ := item_of u_52 cz_3 h 0 (by decide)
  obtain ⟨v0, r0, k0⟩ := op_3 _ _ _ _ _ _ _ _ _ h0
  obtain ⟨m1, y1, h1⟩ := item_of u_52 cz_3 h 1 (by decide)
  obtain ⟨v1, r1, k1⟩ := op_3 _ _ _ _ _ _ _ _ _ h1
  obtain ⟨m2, y2, h2⟩ := item_of u_52 cz_3 h 2 (by decide)
  obtain ⟨v2, r2, k2⟩ := op_3 _ _ _ _ _ _ _ _ _ h2
  obtain ⟨m3, y3, h3⟩ := item_of u_52 cz_3 h 3 (by decide)
  obtain ⟨v3, r3, k3⟩ := op_3 _ _ _ _ _ _ _ _ _ h3
  match cs, hl with
  | [c0, c1, c2, c3], _ =>
    have e0 : [c0] = [.int .i64 v0] := r0
    simp only [List.cons.injEq, and_true] at e0; subst e0
    have e1 : [c1] = [.int .i64 v1] := r1
    simp only [List.cons.injEq, and_true] at e1; subst e1
    have e2 : [c2] = [.int .i64 v2] := r2
    simp only [List.cons.injEq, and_true] at e2; subst e2
    have e3 : [c3] = [.int .i64 v3] := r3
    simp only [List.cons.injEq, and_true] at e3; subst e3
    exact ⟨⟨v0, v1, v2, v3⟩, rfl, ⟨k0, k1, k2, k3⟩⟩
end Go.Proofs.YtpniidbbbhbglaaDoor.Rt
