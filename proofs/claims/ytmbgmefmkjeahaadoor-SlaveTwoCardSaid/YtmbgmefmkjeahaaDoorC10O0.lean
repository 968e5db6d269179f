/- Walks of the functions of this seat: what each Go function comes to, as a Lean function, and the proof. Arguments read as data. Under no conditions. -/
import Derived.Test.YtmbgmefmkjeahaaDoorC10W0
import Derived.Test.YtmbgmefmkjeahaaDoorC10Rt13
set_option linter.unusedVariables false
set_option linter.unusedSimpArgs false
set_option maxRecDepth 100000
set_option maxHeartbeats 4000000
namespace Go.Proofs.YtmbgmefmkjeahaaDoor.Rt
open Go Go.RowKit Go.ChangeShapes Go.WideShapes
theorem op_3 : Opens Tryd.prog 3 C_int InR := Opens.int u_3
def Ok_SlaveStart (x : SlaveStart) : Prop := InR x.Shown ∧ InR x.Last
theorem op_57 : Opens Tryd.prog 57 C_SlaveStart Ok_SlaveStart := by
  intro H enc w base sp held fuel cs x h
  have hl := struct_len ft_57 h cz_57
  obtain ⟨m0, y0, h0⟩ := field_of ft_57 h 0 (U := 3) (o := 0) (by kernel_rfl) cz_3
  obtain ⟨v0, r0, k0⟩ := op_3 _ _ _ _ _ _ _ _ _ h0
  obtain ⟨m1, y1, h1⟩ := field_of ft_57 h 1 (U := 3) (o := 1) (by kernel_rfl) cz_3
  obtain ⟨v1, r1, k1⟩ := op_3 _ _ _ _ _ _ _ _ _ h1
  match cs, hl with
  | [c0, c1], _ =>
    have e0 : [c0] = [.int .i64 v0] := r0
    simp only [List.cons.injEq, and_true] at e0; subst e0
    have e1 : [c1] = [.int .i64 v1] := r1
    simp only [List.cons.injEq, and_true] at e1; subst e1
    exact ⟨⟨v0, v1⟩, rfl, ⟨k0, k1⟩⟩
def Ok_SlaveEvent (x : SlaveEvent) : Prop := InR x.Kind ∧ InR x.First ∧ InR x.Count ∧ InR x.Lost ∧ InR x.Who ∧ InR x.Shown
def Ok_SlaveLine (x : SlaveLine) : Prop := InR x.Ring ∧ (OkL Ok_SlaveStart x.Starts) ∧ (OkL Ok_SlaveEvent x.Events)
def Ok_Arr2 (x : Arr2) : Prop := InR x.a0 ∧ InR x.a1
theorem op_64 : Opens Tryd.prog 64 C_Arr2 Ok_Arr2 := by
  intro H enc w base sp held fuel cs x h
  have hl := array_len u_64 cz_64 h
  obtain ⟨m0, y0, h0⟩ := item_of u_64 cz_3 h 0 (by decide)
  obtain ⟨v0, r0, k0⟩ := op_3 _ _ _ _ _ _ _ _ _ h0
  obtain ⟨m1, y1, h1⟩ := item_of u_64 cz_3 h 1 (by decide)
  obtain ⟨v1, r1, k1⟩ := op_3 _ _ _ _ _ _ _ _ _ h1
  match cs, hl with
  | [c0, c1], _ =>
    have e0 : [c0] = [.int .i64 v0] := r0
    simp only [List.cons.injEq, and_true] at e0; subst e0
    have e1 : [c1] = [.int .i64 v1] := r1
    simp only [List.cons.injEq, and_true] at e1; subst e1
    exact ⟨⟨v0, v1⟩, rfl, ⟨k0, k1⟩⟩
end Go.Proofs.YtmbgmefmkjeahaaDoor.Rt
