/- Plain laws of the line seat, part 13: wider nets, nets without loops. Under the conditions that each names. -/
import Derived.Test.YthdbokigcfbgeaaDoorC8QK
set_option linter.unusedVariables false
set_option linter.unusedSimpArgs false
set_option maxRecDepth 100000
set_option maxHeartbeats 4000000
namespace Go.Proofs.YthdbokigcfbgeaaDoor.Rt
open Go Go.RowKit
theorem RoutesF_err (n : LineNet) (e : Int) : (RoutesF n e).2 = errF n e := by
  by_cases h : errF n e = 0
  · rw [RoutesF_ok h, h]
  · rw [RoutesF_bad h]
theorem SurelyF_err (n : LineNet) (e : Int) : (SurelyF n e).2 = errF n e := by
  unfold SurelyF
  by_cases h : errF n e = 0
  · rw [if_pos h, h]
  · rw [if_neg h]
structure Wid (n x : LineNet) : Prop where
  ex : x.Exchanges = n.Exchanges
  hp : n.Hops ≤ x.Hops
  tr : ∀ w e, trk n 0 [0] w = some e → trk x 0 [0] w = some e
  sp : ∀ e w d, trk n 0 [0] w = some e → InSp n e 0 w d → InSp x e 0 w d
theorem Wid.routes {n x : LineNet} (h : Wid n x) (hn : OkS n) (hx : OkS x) {e : Int} {w : List Int} (hw : w ∈ routesF n e 0) : w ∈ routesF x e 0 := by
  obtain ⟨h1, h2, h3⟩ := (mem_routesF hn e 0 w).1 hw
  obtain ⟨d, h4⟩ := (canW_iff e 0 w).1 h3
  exact (mem_routesF hx e 0 w).2 ⟨by have := h.hp; omega, h.tr w e h2, (canW_iff e 0 w).2 ⟨d, h.sp e w d h2 h4⟩⟩
theorem Wid.any {n x : LineNet} (h : Wid n x) (hn : OkS n) (hx : OkS x) {e d : Int} (ha : anyF n e d = true) : anyF x e d = true := by
  obtain ⟨w, hw, h1⟩ := (anyF_iff e d).1 ha
  exact (anyF_iff e d).2 ⟨w, h.routes hn hx hw, h.sp e w d ((mem_routesF hn e 0 w).1 hw).2.1 h1⟩
theorem Wid.err {n x : LineNet} (h : Wid n x) (hx : OkS x) {e : Int} (he : errF n e = 0) : errF x e = 0 := by
  obtain ⟨hn, hi, _, hne⟩ := errF_ok he
  obtain ⟨h0, h1⟩ := inB_iff.1 hi
  cases hr : routesF n e 0 with
  | nil => exact absurd hr hne
  | cons w l =>
    have hw := h.routes hn hx (e := e) (w := w) (by rw [hr]; simp)
    exact errF_zero hx h0 (by rw [h.ex]; omega) fun g => by rw [g] at hw; cases hw
end Go.Proofs.YthdbokigcfbgeaaDoor.Rt
