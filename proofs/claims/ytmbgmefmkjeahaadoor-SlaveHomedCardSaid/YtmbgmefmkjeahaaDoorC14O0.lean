/- Walks of the functions of this seat: what each Go function comes to, as a Lean function, and the proof. Arguments read as data. Under no conditions. -/
import Derived.Test.YtmbgmefmkjeahaaDoorC14W0
import Derived.Test.YtmbgmefmkjeahaaDoorC14Rt13
set_option linter.unusedVariables false
set_option linter.unusedSimpArgs false
set_option maxRecDepth 100000
set_option maxHeartbeats 4000000
namespace Go.Proofs.YtmbgmefmkjeahaaDoor.Rt
open Go Go.RowKit Go.ChangeShapes Go.WideShapes
theorem op_3 : Opens Tryd.prog 3 C_int InR := Opens.int u_3
def Ok_SlaveStart (x : SlaveStart) : Prop := InR x.Shown ∧ InR x.Last
theorem op_57 : Opens Tryd.prog 57 C_SlaveStart Ok_SlaveStart := by
  intro H enc w base sp held fuel cs x h
  have hl := struct_len ft_57 h cz_57
  obtain ⟨m0, y0, h0⟩ := field_of ft_57 h 0 (U := 3) (o := 0) (by kernel_rfl) cz_3
  obtain ⟨v0, r0, k0⟩ := op_3 _ _ _ _ _ _ _ _ _ h0
  obtain ⟨m1, y1, h1⟩ := field_of ft_57 h 1 (U := 3) (o := 1) (by kernel_rfl) cz_3
  obtain ⟨v1, r1, k1⟩ := op_3 _ _ _ _ _ _ _ _ _ h1
  match cs, hl with
  | [c0, c1], _ =>
    have e0 : [c0] = [.int .i64 v0] := r0
    simp only [List.cons.injEq, and_true] at e0; subst e0
    have e1 : [c1] = [.int .i64 v1] := r1
    simp only [List.cons.injEq, and_true] at e1; subst e1
    exact ⟨⟨v0, v1⟩, rfl, ⟨k0, k1⟩⟩
theorem op_22 : Opens Tryd.prog 22 (C_sl C_SlaveStart) (OkL Ok_SlaveStart) := Opens.slice u_22 cz_57 (Nat.succ_pos _) op_57
def Ok_SlaveEvent (x : SlaveEvent) : Prop := InR x.Kind ∧ InR x.First ∧ InR x.Count ∧ InR x.Lost ∧ InR x.Who ∧ InR x.Shown
theorem op_66 : Opens Tryd.prog 66 C_SlaveEvent Ok_SlaveEvent := by
  intro H enc w base sp held fuel cs x h
  have hl := struct_len ft_66 h cz_66
  obtain ⟨m0, y0, h0⟩ := field_of ft_66 h 0 (U := 3) (o := 0) (by kernel_rfl) cz_3
  obtain ⟨v0, r0, k0⟩ := op_3 _ _ _ _ _ _ _ _ _ h0
  obtain ⟨m1, y1, h1⟩ := field_of ft_66 h 1 (U := 3) (o := 1) (by kernel_rfl) cz_3
  obtain ⟨v1, r1, k1⟩ := op_3 _ _ _ _ _ _ _ _ _ h1
  obtain ⟨m2, y2, h2⟩ := field_of ft_66 h 2 (U := 3) (o := 2) (by kernel_rfl) cz_3
  obtain ⟨v2, r2, k2⟩ := op_3 _ _ _ _ _ _ _ _ _ h2
  obtain ⟨m3, y3, h3⟩ := field_of ft_66 h 3 (U := 3) (o := 3) (by kernel_rfl) cz_3
  obtain ⟨v3, r3, k3⟩ := op_3 _ _ _ _ _ _ _ _ _ h3
  obtain ⟨m4, y4, h4⟩ := field_of ft_66 h 4 (U := 3) (o := 4) (by kernel_rfl) cz_3
  obtain ⟨v4, r4, k4⟩ := op_3 _ _ _ _ _ _ _ _ _ h4
  obtain ⟨m5, y5, h5⟩ := field_of ft_66 h 5 (U := 3) (o := 5) (by kernel_rfl) cz_3
  obtain ⟨v5, r5, k5⟩ := op_3 _ _ _ _ _ _ _ _ _ h5
  match cs, hl with
  | [c0, c1, c2, c3, c4, c5], _ =>
    have e0 : [c0] = [.int .i64 v0] := r0
    simp only [List.cons.injEq, and_true] at e0; subst e0
    have e1 : [c1] = [.int .i64 v1] := r1
    simp only [List.cons.injEq, and_true] at e1; subst e1
    have e2 : [c2] = [.int .i64 v2] := r2
    simp only [List.cons.injEq, and_true] at e2; subst e2
    have e3 : [c3] = [.int .i64 v3] := r3
    simp only [List.cons.injEq, and_true] at e3; subst e3
    have e4 : [c4] = [.int .i64 v4] := r4
    simp only [List.cons.injEq, and_true] at e4; subst e4
    have e5 : [c5] = [.int .i64 v5] := r5
    simp only [List.cons.injEq, and_true] at e5; subst e5
    exact ⟨⟨v0, v1, v2, v3, v4, v5⟩, rfl, ⟨k0, k1, k2, k3, k4, k5⟩⟩
theorem op_23 : Opens Tryd.prog 23 (C_sl C_SlaveEvent) (OkL Ok_SlaveEvent) := Opens.slice u_23 cz_66 (Nat.succ_pos _) op_66
def Ok_SlaveLine (x : SlaveLine) : Prop := InR x.Ring ∧ (OkL Ok_SlaveStart x.Starts) ∧ (OkL Ok_SlaveEvent x.Events)
theorem op_25 : Opens Tryd.prog 25 C_SlaveLine Ok_SlaveLine := by
  intro H enc w base sp held fuel cs x h
  have hl := struct_len ft_25 h cz_25
  obtain ⟨m0, y0, h0⟩ := field_of ft_25 h 0 (U := 3) (o := 0) (by kernel_rfl) cz_3
  obtain ⟨v0, r0, k0⟩ := op_3 _ _ _ _ _ _ _ _ _ h0
  obtain ⟨m1, y1, h1⟩ := field_of ft_25 h 1 (U := 22) (o := 1) (by kernel_rfl) cz_22
  obtain ⟨v1, r1, k1⟩ := op_22 _ _ _ _ _ _ _ _ _ h1
  obtain ⟨m2, y2, h2⟩ := field_of ft_25 h 2 (U := 23) (o := 2) (by kernel_rfl) cz_23
  obtain ⟨v2, r2, k2⟩ := op_23 _ _ _ _ _ _ _ _ _ h2
  match cs, hl with
  | [c0, c1, c2], _ =>
    have e0 : [c0] = [.int .i64 v0] := r0
    simp only [List.cons.injEq, and_true] at e0; subst e0
    obtain ⟨p1, q1, e1, s1⟩ := r1
    replace e1 : [c1] = [.slice p1 v1.length q1] := e1
    simp only [List.cons.injEq, and_true] at e1; subst e1
    obtain ⟨p2, q2, e2, s2⟩ := r2
    replace e2 : [c2] = [.slice p2 v2.length q2] := e2
    simp only [List.cons.injEq, and_true] at e2; subst e2
    exact ⟨⟨v0, v1, v2⟩, ⟨p1, q1, p2, q2, rfl, s1, s2⟩, ⟨k0, k1, k2⟩⟩
end Go.Proofs.YtmbgmefmkjeahaaDoor.Rt
