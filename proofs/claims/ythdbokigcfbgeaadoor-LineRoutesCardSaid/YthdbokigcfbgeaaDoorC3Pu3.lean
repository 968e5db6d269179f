/- What the pure function of a law comes to. Under no conditions. -/
import Derived.Test.YthdbokigcfbgeaaDoorC3L3
import Derived.Test.YthdbokigcfbgeaaDoorC3QJ
set_option linter.unusedVariables false
set_option linter.unusedSimpArgs false
set_option maxRecDepth 100000
set_option maxHeartbeats 4000000
namespace Go.Proofs.YthdbokigcfbgeaaDoor.Rt
open Go Go.RowKit
theorem rows_self {n : LineNet} {e : Int} : r0AlikeRows (RoutesF n e).1 (RoutesF n e).1 = some true := by
  have h : ((RoutesF n e).1.length : Int) ≤ 100000000 ∧ ∀ r ∈ (RoutesF n e).1, (r.length : Int) ≤ 1000 := by
    by_cases he : errF n e = 0
    · rw [RoutesF_ok he]
      obtain ⟨hS, _⟩ := errF_ok he
      have hp := p126
      have := routes_len hS e 0
      exact ⟨by simp only; omega, fun r hr => by have := (routes_ok hS hr).len; omega⟩
    · rw [RoutesF_bad he]
      exact ⟨by simp, fun r hr => by cases hr⟩
  rw [AlikeRows_eq _ _ (by omega) (fun r hr => by have := h.2 r hr; omega), decide_eq_true rfl]
theorem surelyF_len {n : LineNet} (hS : OkS n) (e : Int) : (surelyF n e).length ≤ 12 := by
  have := flatM_len (List.range n.Lines.length) (fun (k : Nat) => if (routesF n e 0).all (fun w => decide ((k : Int) ∈ w)) then [(k : Int)] else []) 1 fun k _ => by split <;> simp
  rw [List.length_range] at this
  have := hS.nl
  unfold surelyF; omega
theorem SurelyF_len (n : LineNet) (e : Int) : ((SurelyF n e).1.length : Int) ≤ 100 := by
  unfold SurelyF
  by_cases he : errF n e = 0
  · obtain ⟨hS, _⟩ := errF_ok he
    have := surelyF_len hS e
    rw [if_pos he]; simp only; omega
  · rw [if_neg he]; show ((0 : Nat) : Int) ≤ 100; decide
theorem fin_eq {b : Bool} (hb : b = true) : ((cond b ((remontoirlaw06_works).bind fun rv => some rv) (some false)).bind fun t => some t) = some true := by
  subst hb; rw [cond_true, works_eq]; rfl
theorem bnI (a : Int) : (a != a) = false := by rw [bneI]; exact decide_eq_false fun h => h rfl
theorem beI (a : Int) : (a == a) = true := by rw [beqI]; exact decide_eq_true rfl
theorem pure_3 (n : LineNet) (exchange : Int) (h : Ok_LineNet n) (_ : InR exchange) : remontoirlaw06_LineRoutes n exchange = some true := by
  unfold remontoirlaw06_LineRoutes
  rw [Routes_eq h, bind_s, refRoutesP_eq h, bind_s, rows_self, bind_s, line_Check_eq n h, Check_eq n h, Bool.not_true, cond_false, bind_s, bnI]
  simp only [cond_false, bind_s, bnI]
  rw [Surely_eq h, bind_s, refSurely_eq h, bind_s, Alike_eq _ _ (by have := SurelyF_len n exchange; omega), bind_s, decide_eq_true rfl, beI]
  exact fin_eq rfl
end Go.Proofs.YthdbokigcfbgeaaDoor.Rt
