/- Arguments of law BeatWider read as data. Under no conditions. -/
import Derived.Test.YtpniidbbbhbglaaDoorO0
import Derived.Test.YtpniidbbbhbglaaDoorX10
set_option linter.unusedVariables false
set_option linter.unusedSimpArgs false
set_option maxRecDepth 100000
set_option maxHeartbeats 4000000
namespace Go.Proofs.YtpniidbbbhbglaaDoor.Rt
open Go Go.RowKit Go.ChangeShapes Go.WideShapes
def Ok_Arr5 (x : Arr5) : Prop := InR x.a0 ∧ InR x.a1 ∧ InR x.a2 ∧ InR x.a3 ∧ InR x.a4
theorem op_66 : Opens Tryd.prog 66 C_Arr5 Ok_Arr5 := by
  intro H enc w base sp held fuel cs x h
  have hl := array_len u_66 cz_66 h
  obtain ⟨m0, y0, h0⟩ := item_of u_66 cz_3 h 0 (by decide)
  obtain ⟨v0, r0, k0⟩ := op_3 _ _ _ _ _ _ _ _ _ h0
  obtain ⟨m1, y1, h1⟩ := item_of u_66 cz_3 h 1 (by decide)
  obtain ⟨v1, r1, k1⟩ := op_3 _ _ _ _ _ _ _ _ _ h1
  obtain ⟨m2, y2, h2⟩ := item_of u_66 cz_3 h 2 (by decide)
  obtain ⟨v2, r2, k2⟩ := op_3 _ _ _ _ _ _ _ _ _ h2
  obtain ⟨m3, y3, h3⟩ := item_of u_66 cz_3 h 3 (by decide)
  obtain ⟨v3, r3, k3⟩ := op_3 _ _ _ _ _ _ _ _ _ h3
  obtain ⟨m4, y4, h4⟩ := item_of u_66 cz_3 h 4 (by decide)
  obtain ⟨v4, r4, k4⟩ := op_3 _ _ _ _ _ _ _ _ _ h4
  match cs, hl with
  | [c0, c1, c2, c3, c4], _ =>
    have e0 : [c0] = [.int .i64 v0] := r0
    simp only [List.cons.injEq, and_true] at e0; subst e0
    have e1 : [c1] = [.int .i64 v1] := r1
    simp only [List.cons.injEq, and_true] at e1; subst e1
    have e2 : [c2] = [.int .i64 v2] := r2
    simp only [List.cons.injEq, and_true] at e2; subst e2
    have e3 : [c3] = [.int .i64 v3] := r3
    simp only [List.cons.injEq, and_true] at e3; subst e3
    have e4 : [c4] = [.int .i64 v4] := r4
    simp only [List.cons.injEq, and_true] at e4; subst e4
    exact ⟨⟨v0, v1, v2, v3, v4⟩, rfl, ⟨k0, k1, k2, k3, k4⟩⟩
end Go.Proofs.YtpniidbbbhbglaaDoor.Rt
