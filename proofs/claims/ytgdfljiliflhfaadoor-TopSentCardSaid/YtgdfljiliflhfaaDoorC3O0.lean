/- Walks of the functions of this seat: what each Go function comes to, as a Lean function, and the proof. Arguments read as data. Under no conditions. -/
import Derived.Test.YtgdfljiliflhfaaDoorC3W0
import Derived.Test.YtgdfljiliflhfaaDoorC3Rt13
set_option linter.unusedVariables false
set_option linter.unusedSimpArgs false
set_option maxRecDepth 100000
set_option maxHeartbeats 4000000
namespace Go.Proofs.YtgdfljiliflhfaaDoor.Rt
open Go Go.RowKit Go.ChangeShapes Go.WideShapes
theorem op_3 : Opens Tryd.prog 3 C_int InR := Opens.int u_3
def Ok_Span (x : Span) : Prop := InR x.Low ∧ InR x.High
theorem op_27 : Opens Tryd.prog 27 C_Span Ok_Span := by
  intro H enc w base sp held fuel cs x h
  have hl := struct_len ft_27 h cz_27
  obtain ⟨m0, y0, h0⟩ := field_of ft_27 h 0 (U := 3) (o := 0) (by kernel_rfl) cz_3
  obtain ⟨v0, r0, k0⟩ := op_3 _ _ _ _ _ _ _ _ _ h0
  obtain ⟨m1, y1, h1⟩ := field_of ft_27 h 1 (U := 3) (o := 1) (by kernel_rfl) cz_3
  obtain ⟨v1, r1, k1⟩ := op_3 _ _ _ _ _ _ _ _ _ h1
  match cs, hl with
  | [c0, c1], _ =>
    have e0 : [c0] = [iv v0] := r0
    simp only [List.cons.injEq, and_true] at e0; subst e0
    have e1 : [c1] = [iv v1] := r1
    simp only [List.cons.injEq, and_true] at e1; subst e1
    exact ⟨⟨v0, v1⟩, rfl, ⟨k0, k1⟩⟩
def Ok_LineLine (x : LineLine) : Prop := InR x.From ∧ InR x.To ∧ Ok_Span x.Delay
theorem op_55 : Opens Tryd.prog 55 C_LineLine Ok_LineLine := by
  intro H enc w base sp held fuel cs x h
  have hl := struct_len ft_55 h cz_55
  obtain ⟨m0, y0, h0⟩ := field_of ft_55 h 0 (U := 3) (o := 0) (by kernel_rfl) cz_3
  obtain ⟨v0, r0, k0⟩ := op_3 _ _ _ _ _ _ _ _ _ h0
  obtain ⟨m1, y1, h1⟩ := field_of ft_55 h 1 (U := 3) (o := 1) (by kernel_rfl) cz_3
  obtain ⟨v1, r1, k1⟩ := op_3 _ _ _ _ _ _ _ _ _ h1
  obtain ⟨m2, y2, h2⟩ := field_of ft_55 h 2 (U := 27) (o := 2) (by kernel_rfl) cz_27
  obtain ⟨v2, r2, k2⟩ := op_27 _ _ _ _ _ _ _ _ _ h2
  match cs, hl with
  | [c0, c1, c2, c3], _ =>
    have e0 : [c0] = [iv v0] := r0
    simp only [List.cons.injEq, and_true] at e0; subst e0
    have e1 : [c1] = [iv v1] := r1
    simp only [List.cons.injEq, and_true] at e1; subst e1
    have e2 : [c2, c3] = [iv v2.Low, iv v2.High] := r2
    simp only [List.cons.injEq, and_true] at e2
    obtain ⟨rfl, rfl⟩ := e2
    exact ⟨⟨v0, v1, v2⟩, rfl, ⟨k0, k1, k2⟩⟩
theorem op_22 : Opens Tryd.prog 22 (C_sl C_LineLine) (OkL Ok_LineLine) := Opens.slice u_22 cz_55 (Nat.succ_pos _) op_55
def Ok_LineLoop (x : LineLoop) : Prop := InR x.Exchange ∧ Ok_Span x.Read
theorem op_58 : Opens Tryd.prog 58 C_LineLoop Ok_LineLoop := by
  intro H enc w base sp held fuel cs x h
  have hl := struct_len ft_58 h cz_58
  obtain ⟨m0, y0, h0⟩ := field_of ft_58 h 0 (U := 3) (o := 0) (by kernel_rfl) cz_3
  obtain ⟨v0, r0, k0⟩ := op_3 _ _ _ _ _ _ _ _ _ h0
  obtain ⟨m1, y1, h1⟩ := field_of ft_58 h 1 (U := 27) (o := 1) (by kernel_rfl) cz_27
  obtain ⟨v1, r1, k1⟩ := op_27 _ _ _ _ _ _ _ _ _ h1
  match cs, hl with
  | [c0, c1, c2], _ =>
    have e0 : [c0] = [iv v0] := r0
    simp only [List.cons.injEq, and_true] at e0; subst e0
    have e1 : [c1, c2] = [iv v1.Low, iv v1.High] := r1
    simp only [List.cons.injEq, and_true] at e1
    obtain ⟨rfl, rfl⟩ := e1
    exact ⟨⟨v0, v1⟩, rfl, ⟨k0, k1⟩⟩
theorem op_23 : Opens Tryd.prog 23 (C_sl C_LineLoop) (OkL Ok_LineLoop) := Opens.slice u_23 cz_58 (Nat.succ_pos _) op_58
def Ok_LineNet (x : LineNet) : Prop := InR x.Exchanges ∧ (OkL Ok_LineLine x.Lines) ∧ InR x.Hops ∧ (OkL Ok_LineLoop x.Loops)
theorem op_25 : Opens Tryd.prog 25 C_LineNet Ok_LineNet := by
  intro H enc w base sp held fuel cs x h
  have hl := struct_len ft_25 h cz_25
  obtain ⟨m0, y0, h0⟩ := field_of ft_25 h 0 (U := 3) (o := 0) (by kernel_rfl) cz_3
  obtain ⟨v0, r0, k0⟩ := op_3 _ _ _ _ _ _ _ _ _ h0
  obtain ⟨m1, y1, h1⟩ := field_of ft_25 h 1 (U := 22) (o := 1) (by kernel_rfl) cz_22
  obtain ⟨v1, r1, k1⟩ := op_22 _ _ _ _ _ _ _ _ _ h1
  obtain ⟨m2, y2, h2⟩ := field_of ft_25 h 2 (U := 3) (o := 2) (by kernel_rfl) cz_3
  obtain ⟨v2, r2, k2⟩ := op_3 _ _ _ _ _ _ _ _ _ h2
  obtain ⟨m3, y3, h3⟩ := field_of ft_25 h 3 (U := 23) (o := 3) (by kernel_rfl) cz_23
  obtain ⟨v3, r3, k3⟩ := op_23 _ _ _ _ _ _ _ _ _ h3
  match cs, hl with
  | [c0, c1, c2, c3], _ =>
    have e0 : [c0] = [iv v0] := r0
    simp only [List.cons.injEq, and_true] at e0; subst e0
    obtain ⟨p1, q1, e1, s1⟩ := r1
    replace e1 : [c1] = [.slice p1 v1.length q1] := e1
    simp only [List.cons.injEq, and_true] at e1; subst e1
    have e2 : [c2] = [iv v2] := r2
    simp only [List.cons.injEq, and_true] at e2; subst e2
    obtain ⟨p3, q3, e3, s3⟩ := r3
    replace e3 : [c3] = [.slice p3 v3.length q3] := e3
    simp only [List.cons.injEq, and_true] at e3; subst e3
    exact ⟨⟨v0, v1, v2, v3⟩, ⟨p1, q1, p3, q3, rfl, s1, s3⟩, ⟨k0, k1, k2, k3⟩⟩
def Ok_ScaleRule (x : ScaleRule) : Prop := InR x.Fast ∧ InR x.Slow ∧ InR x.Jerk ∧ Ok_Span x.Drift
theorem op_29 : Opens Tryd.prog 29 C_ScaleRule Ok_ScaleRule := by
  intro H enc w base sp held fuel cs x h
  have hl := struct_len ft_29 h cz_29
  obtain ⟨m0, y0, h0⟩ := field_of ft_29 h 0 (U := 3) (o := 0) (by kernel_rfl) cz_3
  obtain ⟨v0, r0, k0⟩ := op_3 _ _ _ _ _ _ _ _ _ h0
  obtain ⟨m1, y1, h1⟩ := field_of ft_29 h 1 (U := 3) (o := 1) (by kernel_rfl) cz_3
  obtain ⟨v1, r1, k1⟩ := op_3 _ _ _ _ _ _ _ _ _ h1
  obtain ⟨m2, y2, h2⟩ := field_of ft_29 h 2 (U := 3) (o := 2) (by kernel_rfl) cz_3
  obtain ⟨v2, r2, k2⟩ := op_3 _ _ _ _ _ _ _ _ _ h2
  obtain ⟨m3, y3, h3⟩ := field_of ft_29 h 3 (U := 27) (o := 3) (by kernel_rfl) cz_27
  obtain ⟨v3, r3, k3⟩ := op_27 _ _ _ _ _ _ _ _ _ h3
  match cs, hl with
  | [c0, c1, c2, c3, c4], _ =>
    have e0 : [c0] = [iv v0] := r0
    simp only [List.cons.injEq, and_true] at e0; subst e0
    have e1 : [c1] = [iv v1] := r1
    simp only [List.cons.injEq, and_true] at e1; subst e1
    have e2 : [c2] = [iv v2] := r2
    simp only [List.cons.injEq, and_true] at e2; subst e2
    have e3 : [c3, c4] = [iv v3.Low, iv v3.High] := r3
    simp only [List.cons.injEq, and_true] at e3
    obtain ⟨rfl, rfl⟩ := e3
    exact ⟨⟨v0, v1, v2, v3⟩, rfl, ⟨k0, k1, k2, k3⟩⟩
theorem op_30 : Opens Tryd.prog 30 (C_sl C_int) (OkL InR) := Opens.slice u_30 cz_3 (Nat.succ_pos _) op_3
def Ok_ScaleLook (x : ScaleLook) : Prop := InR x.Tick ∧ Ok_Span x.Off
theorem op_66 : Opens Tryd.prog 66 C_ScaleLook Ok_ScaleLook := by
  intro H enc w base sp held fuel cs x h
  have hl := struct_len ft_66 h cz_66
  obtain ⟨m0, y0, h0⟩ := field_of ft_66 h 0 (U := 3) (o := 0) (by kernel_rfl) cz_3
  obtain ⟨v0, r0, k0⟩ := op_3 _ _ _ _ _ _ _ _ _ h0
  obtain ⟨m1, y1, h1⟩ := field_of ft_66 h 1 (U := 27) (o := 1) (by kernel_rfl) cz_27
  obtain ⟨v1, r1, k1⟩ := op_27 _ _ _ _ _ _ _ _ _ h1
  match cs, hl with
  | [c0, c1, c2], _ =>
    have e0 : [c0] = [iv v0] := r0
    simp only [List.cons.injEq, and_true] at e0; subst e0
    have e1 : [c1, c2] = [iv v1.Low, iv v1.High] := r1
    simp only [List.cons.injEq, and_true] at e1
    obtain ⟨rfl, rfl⟩ := e1
    exact ⟨⟨v0, v1⟩, rfl, ⟨k0, k1⟩⟩
theorem op_31 : Opens Tryd.prog 31 (C_sl C_ScaleLook) (OkL Ok_ScaleLook) := Opens.slice u_31 cz_66 (Nat.succ_pos _) op_66
def Ok_ScaleBook (x : ScaleBook) : Prop := Ok_ScaleRule x.Rule ∧ InR x.Ticks ∧ (OkL InR x.Steer) ∧ (OkL Ok_ScaleLook x.Looks)
theorem op_33 : Opens Tryd.prog 33 C_ScaleBook Ok_ScaleBook := by
  intro H enc w base sp held fuel cs x h
  have hl := struct_len ft_33 h cz_33
  obtain ⟨m0, y0, h0⟩ := field_of ft_33 h 0 (U := 29) (o := 0) (by kernel_rfl) cz_29
  obtain ⟨v0, r0, k0⟩ := op_29 _ _ _ _ _ _ _ _ _ h0
  obtain ⟨m1, y1, h1⟩ := field_of ft_33 h 1 (U := 3) (o := 5) (by kernel_rfl) cz_3
  obtain ⟨v1, r1, k1⟩ := op_3 _ _ _ _ _ _ _ _ _ h1
  obtain ⟨m2, y2, h2⟩ := field_of ft_33 h 2 (U := 30) (o := 6) (by kernel_rfl) cz_30
  obtain ⟨v2, r2, k2⟩ := op_30 _ _ _ _ _ _ _ _ _ h2
  obtain ⟨m3, y3, h3⟩ := field_of ft_33 h 3 (U := 31) (o := 7) (by kernel_rfl) cz_31
  obtain ⟨v3, r3, k3⟩ := op_31 _ _ _ _ _ _ _ _ _ h3
  match cs, hl with
  | [c0, c1, c2, c3, c4, c5, c6, c7], _ =>
    have e0 : [c0, c1, c2, c3, c4] = [iv v0.Fast, iv v0.Slow, iv v0.Jerk, iv v0.Drift.Low, iv v0.Drift.High] := r0
    simp only [List.cons.injEq, and_true] at e0
    obtain ⟨rfl, rfl, rfl, rfl, rfl⟩ := e0
    have e1 : [c5] = [iv v1] := r1
    simp only [List.cons.injEq, and_true] at e1; subst e1
    obtain ⟨p2, q2, e2, s2⟩ := r2
    replace e2 : [c6] = [.slice p2 v2.length q2] := e2
    simp only [List.cons.injEq, and_true] at e2; subst e2
    obtain ⟨p3, q3, e3, s3⟩ := r3
    replace e3 : [c7] = [.slice p3 v3.length q3] := e3
    simp only [List.cons.injEq, and_true] at e3; subst e3
    exact ⟨⟨v0, v1, v2, v3⟩, ⟨p2, q2, p3, q3, rfl, s2, s3⟩, ⟨k0, k1, k2, k3⟩⟩
def Ok_Arr4 (x : Arr4) : Prop := InR x.a0 ∧ InR x.a1 ∧ InR x.a2 ∧ InR x.a3
theorem op_34 : Opens Tryd.prog 34 C_Arr4 Ok_Arr4 := by
  intro H enc w base sp held fuel cs x h
  have hl := array_len u_34 cz_34 h
  obtain ⟨m0, y0, h0⟩ := item_of u_34 cz_3 h 0 (by decide)
  obtain ⟨v0, r0, k0⟩ := op_3 _ _ _ _ _ _ _ _ _ h0
  obtain ⟨m1, y1, h1⟩ := item_of u_34 cz_3 h 1 (by decide)
  obtain ⟨v1, r1, k1⟩ := op_3 _ _ _ _ _ _ _ _ _ h1
  obtain ⟨m2, y2, h2⟩ := item_of u_34 cz_3 h 2 (by decide)
  obtain ⟨v2, r2, k2⟩ := op_3 _ _ _ _ _ _ _ _ _ h2
  obtain ⟨m3, y3, h3⟩ := item_of u_34 cz_3 h 3 (by decide)
  obtain ⟨v3, r3, k3⟩ := op_3 _ _ _ _ _ _ _ _ _ h3
  match cs, hl with
  | [c0, c1, c2, c3], _ =>
    have e0 : [c0] = [iv v0] := r0
    simp only [List.cons.injEq, and_true] at e0; subst e0
    have e1 : [c1] = [iv v1] := r1
    simp only [List.cons.injEq, and_true] at e1; subst e1
    have e2 : [c2] = [iv v2] := r2
    simp only [List.cons.injEq, and_true] at e2; subst e2
    have e3 : [c3] = [iv v3] := r3
    simp only [List.cons.injEq, and_true] at e3; subst e3
    exact ⟨⟨v0, v1, v2, v3⟩, rfl, ⟨k0, k1, k2, k3⟩⟩
end Go.Proofs.YtgdfljiliflhfaaDoor.Rt
