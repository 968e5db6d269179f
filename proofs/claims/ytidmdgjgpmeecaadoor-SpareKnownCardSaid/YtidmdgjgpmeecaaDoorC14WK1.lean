/- Walks of the functions of this seat: what each Go function comes to, as a Lean function, and the proof. Part WK1. Under no conditions. -/
import Derived.Test.YtidmdgjgpmeecaaDoorC14WBZ
import Derived.Test.YtidmdgjgpmeecaaDoorC14W0b
set_option linter.unusedVariables false
set_option linter.unusedSimpArgs false
set_option maxRecDepth 100000
set_option maxHeartbeats 4000000
namespace Go.Proofs.YtidmdgjgpmeecaaDoor.Rt
open Go Go.RowKit
theorem remontoirlaw08_store_keep {w0 : World} {D0 : Stab} (hD : D0.on w0) (hours : Int) (out : SpareStore) (h : remontoirlaw08_store hours = some out) : Calls Tryd.prog 46 [iv hours].toArray w0 (RetM D0 fun D w v => ∃ (p_1 : Option Addr) (c_1 : Nat) (kcs0 : List Value), St w0 D0 D [(900, .own p_1 out.Machines.length c_1 kcs0 52 5)] w ∧ v = .agg #[iv out.Hours, iv out.Gap, .slice p_1 out.Machines.length c_1] ∧ Reps C_SpareMachine D out.Machines kcs0) := by
 refine enter _ 12 Tryd.func46 rfl Tryd.ntmps46 rfl fun a hF => ?_
 replace hF : Frm 12 [] [(0, iv hours)] a := hF
 have hS := St.start hD
 unfold remontoirlaw08_store at h
 refine seq (region (O.alloc 1 zc_24 hF hS rfl fun b a w hF hS => nT (seq (region (step hF (Y.move hF rfl) rfl fun a hF => ?_)))))
 obtain ⟨rv, hx, h⟩ := bind_some h
 refine O.callP (us := [iv 12, iv 20]) ca_39 hF hS (r0To_ok hS.stab 12 20 rv hx) rfl rfl fun a w hF hS => step hF (Y.build (parts := [(0, (.const (iv (-10)))), (1, (.const (iv 2))), (2, (.tmp 4)), (3, (.const (iv 1)))]) (cs := #[iv (-10), iv 2, iv rv.Low, iv rv.High, iv 1]) hF rfl (by kernel_rfl)) rfl fun a hF => ?_
 obtain ⟨rv_1, hx_1, h⟩ := bind_some h
 refine O.callP (us := [iv 9, iv 30]) ca_39 hF hS (r0To_ok hS.stab 9 30 rv_1 hx_1) rfl rfl fun a w hF hS => step hF (Y.build (parts := [(0, (.const (iv 5))), (1, (.const (iv 3))), (2, (.tmp 6))]) (cs := #[iv 5, iv 3, iv rv_1.Low, iv rv_1.High, iv 0]) hF rfl (by kernel_rfl)) rfl fun a hF => ?_
 obtain ⟨rv_2, hx_2, h⟩ := bind_some h
 refine O.callP (us := [iv 10, iv 10]) ca_39 hF hS (r0To_ok hS.stab 10 10 rv_2 hx_2) rfl rfl fun a w hF hS => step hF (Y.build (parts := [(0, (.const (iv (-4)))), (1, (.const (iv 4))), (2, (.tmp 8)), (3, (.const (iv 3)))]) (cs := #[iv (-4), iv 4, iv rv_2.Low, iv rv_2.High, iv 3]) hF rfl (by kernel_rfl)) rfl fun a hF => ?_
 have hr : Reps C_SpareMachine D0 [(SpareMachine.mk (-10) 2 rv 1), (SpareMachine.mk 5 3 rv_1 0), (SpareMachine.mk (-4) 4 rv_2 3)] [iv (-10), iv 2, iv rv.Low, iv rv.High, iv 1, iv 5, iv 3, iv rv_1.Low, iv rv_1.High, iv 0, iv (-4), iv 4, iv rv_2.Low, iv rv_2.High, iv 3] := Reps.cons (C := C_SpareMachine) (x := (SpareMachine.mk (-10) 2 rv 1)) (c := [iv (-10), iv 2, iv rv.Low, iv rv.High, iv 1]) (r := [iv 5, iv 3, iv rv_1.Low, iv rv_1.High, iv 0, iv (-4), iv 4, iv rv_2.Low, iv rv_2.High, iv 3]) rfl (Reps.cons (C := C_SpareMachine) (x := (SpareMachine.mk 5 3 rv_1 0)) (c := [iv 5, iv 3, iv rv_1.Low, iv rv_1.High, iv 0]) (r := [iv (-4), iv 4, iv rv_2.Low, iv rv_2.High, iv 3]) rfl (Reps.cons (C := C_SpareMachine) (x := (SpareMachine.mk (-4) 4 rv_2 3)) (c := [iv (-4), iv 4, iv rv_2.Low, iv rv_2.High, iv 3]) (r := []) rfl (Reps.nil)))
 refine O.buildSlice (E := 52) (C := C_SpareMachine) (xs := [(SpareMachine.mk (-10) 2 rv 1), (SpareMachine.mk 5 3 rv_1 0), (SpareMachine.mk (-4) 4 rv_2 3)]) (cs := [iv (-10), iv 2, iv rv.Low, iv rv.High, iv 1, iv 5, iv 3, iv rv_1.Low, iv rv_1.High, iv 0, iv (-4), iv 4, iv rv_2.Low, iv rv_2.High, iv 3]) (us := [.agg #[iv (-10), iv 2, iv rv.Low, iv rv.High, iv 1], .agg #[iv 5, iv 3, iv rv_1.Low, iv rv_1.High, iv 0], .agg #[iv (-4), iv 4, iv rv_2.Low, iv rv_2.High, iv 3]]) (parts := [(0, (.tmp 5)), (1, (.tmp 7)), (2, (.tmp 9))]) 2 hF hS rfl (by kernel_rfl) hr rfl rfl rfl fun p c a w hF hS => step hF (Y.build (parts := [(0, (.tmp 3)), (1, (.const (iv 10))), (2, (.tmp 10))]) (cs := #[iv hours, iv 10, .slice p ([(SpareMachine.mk (-10) 2 rv 1), (SpareMachine.mk 5 3 rv_1 0), (SpareMachine.mk (-4) 4 rv_2 3)]).length c]) hF rfl (by kernel_rfl)) rfl fun a hF => O.store (us := [iv hours, iv 10, .slice p ([(SpareMachine.mk (-10) 2 rv 1), (SpareMachine.mk 5 3 rv_1 0), (SpareMachine.mk (-4) 4 rv_2 3)]).length c]) 1 sz_24 hF rfl rfl rfl rfl hS rfl rfl fun a w hF hS => nT (ret_ ?_)
 replace hS := hS.move 900 2 rfl (by decide)
 obtain rfl := some_inj h
 exact leaveM (ms := [(900, .own p ([(SpareMachine.mk (-10) 2 rv 1), (SpareMachine.mk 5 3 rv_1 0), (SpareMachine.mk (-4) 4 rv_2 3)]).length c ([iv (-10), iv 2, iv rv.Low, iv rv.High, iv 1, iv 5, iv 3, iv rv_1.Low, iv rv_1.High, iv 0, iv (-4), iv 4, iv rv_2.Low, iv rv_2.High, iv 3]) 52 5)]) Tryd.results46 hF hS (.cons (.cellN 1 sz_24 rfl rfl rfl) .nil) (.inl rfl) ⟨rfl, trivial⟩ (Stab.le.refl _) fun w hS => ⟨_, _, _, hS, rfl, hr⟩
theorem remontoirlaw08_turns_keep {w0 : World} {D0 : Stab} (hD : D0.on w0) (out : (List SpareTurn)) (h : remontoirlaw08_turns = some out) : Calls Tryd.prog 47 [].toArray w0 (RetM D0 fun D w v => ∃ (p_1 : Option Addr) (c_1 : Nat) (kcs0 : List Value), St w0 D0 D [(900, .own p_1 out.length c_1 kcs0 46 3)] w ∧ v = .slice p_1 out.length c_1 ∧ Reps C_SpareTurn D out kcs0) := by
 refine enter _ 5 Tryd.func47 rfl Tryd.ntmps47 rfl fun a hF => ?_
 replace hF : Frm 5 [] [] a := hF
 have hS := St.start hD
 unfold remontoirlaw08_turns at h
 refine seq (region (step hF (Y.assign hF rfl) rfl fun a hF => nT (seq (region (step hF (Y.build (parts := [(0, (.const (iv 0))), (1, (.const (iv (-2))))]) (cs := #[iv 0, iv (-2), iv 0]) hF rfl (by kernel_rfl)) rfl fun a hF => step hF (Y.build (parts := [(0, (.const (iv 1))), (1, (.const (iv 7))), (2, (.const (iv 10)))]) (cs := #[iv 1, iv 7, iv 10]) hF rfl (by kernel_rfl)) rfl fun a hF => step hF (Y.build (parts := [(0, (.const (iv 2))), (1, (.const (iv 12))), (2, (.const (iv 16)))]) (cs := #[iv 2, iv 12, iv 16]) hF rfl (by kernel_rfl)) rfl fun a hF => ?_)))))
 have hr : Reps C_SpareTurn D0 [(SpareTurn.mk 0 (-2) 0), (SpareTurn.mk 1 7 10), (SpareTurn.mk 2 12 16)] [iv 0, iv (-2), iv 0, iv 1, iv 7, iv 10, iv 2, iv 12, iv 16] := Reps.cons (C := C_SpareTurn) (x := (SpareTurn.mk 0 (-2) 0)) (c := [iv 0, iv (-2), iv 0]) (r := [iv 1, iv 7, iv 10, iv 2, iv 12, iv 16]) rfl (Reps.cons (C := C_SpareTurn) (x := (SpareTurn.mk 1 7 10)) (c := [iv 1, iv 7, iv 10]) (r := [iv 2, iv 12, iv 16]) rfl (Reps.cons (C := C_SpareTurn) (x := (SpareTurn.mk 2 12 16)) (c := [iv 2, iv 12, iv 16]) (r := []) rfl (Reps.nil)))
 refine O.buildSlice (E := 46) (C := C_SpareTurn) (xs := [(SpareTurn.mk 0 (-2) 0), (SpareTurn.mk 1 7 10), (SpareTurn.mk 2 12 16)]) (cs := [iv 0, iv (-2), iv 0, iv 1, iv 7, iv 10, iv 2, iv 12, iv 16]) (us := [.agg #[iv 0, iv (-2), iv 0], .agg #[iv 1, iv 7, iv 10], .agg #[iv 2, iv 12, iv 16]]) (parts := [(0, (.tmp 1)), (1, (.tmp 2)), (2, (.tmp 3))]) 1 hF hS rfl (by kernel_rfl) hr rfl rfl rfl fun p c a w hF hS => step hF (Y.assign hF rfl) rfl fun a hF => nT (ret_ ?_)
 replace hS := hS.move 900 1 rfl (by decide)
 obtain rfl := some_inj h
 exact leaveM (ms := [(900, .own p ([(SpareTurn.mk 0 (-2) 0), (SpareTurn.mk 1 7 10), (SpareTurn.mk 2 12 16)]).length c ([iv 0, iv (-2), iv 0, iv 1, iv 7, iv 10, iv 2, iv 12, iv 16]) 46 3)]) Tryd.results47 hF hS (.cons (.tmp rfl) .nil) (.inl rfl) ⟨rfl, trivial⟩ (Stab.le.refl _) fun w hS => ⟨_, _, _, hS, rfl, hr⟩
end Go.Proofs.YtidmdgjgpmeecaaDoor.Rt
