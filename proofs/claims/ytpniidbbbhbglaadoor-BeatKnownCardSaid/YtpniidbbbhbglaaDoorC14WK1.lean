/- Walks of the functions of this seat: what each Go function comes to, as a Lean function, and the proof. Part WK1. Under no conditions. -/
import Derived.Test.YtpniidbbbhbglaaDoorC14WBZ
import Derived.Test.YtpniidbbbhbglaaDoorC14W0b
set_option linter.unusedVariables false
set_option linter.unusedSimpArgs false
set_option maxRecDepth 100000
set_option maxHeartbeats 4000000
namespace Go.Proofs.YtpniidbbbhbglaaDoor.Rt
open Go Go.RowKit
theorem remontoirlaw02_cellar_keep {w0 : World} {D0 : Stab} (hD : D0.on w0) (more : (List BeatPair)) {p : Option Addr} {c : Nat} (hs : SRc C_BeatPair D0 more p c) (out : BeatCellar) (h : remontoirlaw02_cellar more = some out) : Calls Tryd.prog 42 [.slice p more.length c].toArray w0 (RetM D0 fun D w v => ∃ (p_5 : Option Addr) (c_5 : Nat) (kcs0 : List Value) (p_6 : Option Addr) (c_6 : Nat) (kcs1 : List Value) (p_7 : Option Addr) (c_7 : Nat) (kcs2 : List Value), St w0 D0 D [(900, .own p_5 out.Rates.length c_5 kcs0 34 2), (901, .own p_6 out.Opens.length c_6 kcs1 63 4), (902, .own p_7 out.Pairs.length c_7 kcs2 61 5)] w ∧ v = .agg #[iv out.Hours, .slice p_5 out.Rates.length c_5, .slice p_6 out.Opens.length c_6, .slice p_7 out.Pairs.length c_7] ∧ Reps C_Span D out.Rates kcs0 ∧ Reps C_BeatOpen D out.Opens kcs1 ∧ Reps C_BeatPair D out.Pairs kcs2) := by
 refine enter _ 27 Tryd.func42 rfl Tryd.ntmps42 rfl fun a hF => ?_
 replace hF : Frm 27 [] [(0, .slice p more.length c)] a := hF
 have hS := St.start hD
 unfold remontoirlaw02_cellar at h
 refine seq (region (O.alloc 1 zc_26 hF hS rfl fun b a w hF hS => nT (seq (region ?_))))
 obtain ⟨rv, hx, h⟩ := bind_some h
 refine O.callP (us := [iv (-2), iv 3]) ca_37 hF hS (r0To_ok hS.stab (-2) 3 rv hx) rfl rfl fun a w hF hS => ?_
 obtain ⟨rv_1, hx_1, h⟩ := bind_some h
 refine O.callP (us := [iv 0, iv 1]) ca_37 hF hS (r0To_ok hS.stab 0 1 rv_1 hx_1) rfl rfl fun a w hF hS => ?_
 obtain ⟨rv_2, hx_2, h⟩ := bind_some h
 refine O.callP (us := [iv (-10), iv 10]) ca_37 hF hS (r0To_ok hS.stab (-10) 10 rv_2 hx_2) rfl rfl fun a w hF hS => ?_
 have hr : Reps C_Span D0 [rv, rv_1, rv_2] [iv rv.Low, iv rv.High, iv rv_1.Low, iv rv_1.High, iv rv_2.Low, iv rv_2.High] := Reps.cons (C := C_Span) (x := rv) (c := [iv rv.Low, iv rv.High]) (r := [iv rv_1.Low, iv rv_1.High, iv rv_2.Low, iv rv_2.High]) rfl (Reps.cons (C := C_Span) (x := rv_1) (c := [iv rv_1.Low, iv rv_1.High]) (r := [iv rv_2.Low, iv rv_2.High]) rfl (Reps.cons (C := C_Span) (x := rv_2) (c := [iv rv_2.Low, iv rv_2.High]) (r := []) rfl (Reps.nil)))
 refine O.buildSlice (E := 34) (C := C_Span) (xs := [rv, rv_1, rv_2]) (cs := [iv rv.Low, iv rv.High, iv rv_1.Low, iv rv_1.High, iv rv_2.Low, iv rv_2.High]) (us := [.agg #[iv rv.Low, iv rv.High], .agg #[iv rv_1.Low, iv rv_1.High], .agg #[iv rv_2.Low, iv rv_2.High]]) (parts := [(0, (.tmp 4)), (1, (.tmp 5)), (2, (.tmp 6))]) 2 hF hS rfl (by kernel_rfl) hr rfl rfl rfl fun p_1 c_1 a w hF hS => ?_
 obtain ⟨rv_3, hx_3, h⟩ := bind_some h
 refine O.callP (us := [iv (-50), iv 50]) ca_37 hF hS (r0To_ok hS.stab (-50) 50 rv_3 hx_3) rfl rfl fun a w hF hS => step hF (Y.build (parts := [(0, (.const (iv 2))), (1, (.const (iv 1))), (2, (.tmp 8))]) (cs := #[iv 2, iv 1, iv rv_3.Low, iv rv_3.High]) hF rfl (by kernel_rfl)) rfl fun a hF => ?_
 have hr_1 : Reps C_BeatOpen D0 [(BeatOpen.mk 2 1 rv_3)] [iv 2, iv 1, iv rv_3.Low, iv rv_3.High] := Reps.cons (C := C_BeatOpen) (x := (BeatOpen.mk 2 1 rv_3)) (c := [iv 2, iv 1, iv rv_3.Low, iv rv_3.High]) (r := []) rfl (Reps.nil)
 refine O.buildSlice (E := 63) (C := C_BeatOpen) (xs := [(BeatOpen.mk 2 1 rv_3)]) (cs := [iv 2, iv 1, iv rv_3.Low, iv rv_3.High]) (us := [.agg #[iv 2, iv 1, iv rv_3.Low, iv rv_3.High]]) (parts := [(0, (.tmp 9))]) 3 hF hS rfl (by kernel_rfl) hr_1 rfl rfl rfl fun p_2 c_2 a w hF hS => ?_
 obtain ⟨rv_4, hx_4, h⟩ := bind_some h
 refine O.callP (us := [iv 100, iv 104]) ca_37 hF hS (r0To_ok hS.stab 100 104 rv_4 hx_4) rfl rfl fun a w hF hS => step hF (Y.build (parts := [(2, (.const (iv (-1)))), (3, (.tmp 11))]) (cs := #[iv 0, iv 0, iv (-1), iv rv_4.Low, iv rv_4.High]) hF rfl (by kernel_rfl)) rfl fun a hF => ?_
 obtain ⟨rv_5, hx_5, h⟩ := bind_some h
 refine O.callP (us := [iv 40, iv 44]) ca_37 hF hS (r0To_ok hS.stab 40 44 rv_5 hx_5) rfl rfl fun a w hF hS => step hF (Y.build (parts := [(0, (.const (iv 1))), (2, (.const (iv 1))), (3, (.tmp 13))]) (cs := #[iv 1, iv 0, iv 1, iv rv_5.Low, iv rv_5.High]) hF rfl (by kernel_rfl)) rfl fun a hF => ?_
 obtain ⟨rv_6, hx_6, h⟩ := bind_some h
 refine O.callP (us := [iv 60, iv 61]) ca_37 hF hS (r0To_ok hS.stab 60 61 rv_6 hx_6) rfl rfl fun a w hF hS => step hF (Y.build (parts := [(0, (.const (iv 3))), (1, (.const (iv 1))), (2, (.const (iv (-1)))), (3, (.tmp 15))]) (cs := #[iv 3, iv 1, iv (-1), iv rv_6.Low, iv rv_6.High]) hF rfl (by kernel_rfl)) rfl fun a hF => ?_
 obtain ⟨rv_7, hx_7, h⟩ := bind_some h
 refine O.callP (us := [iv 5, iv 5]) ca_37 hF hS (r0To_ok hS.stab 5 5 rv_7 hx_7) rfl rfl fun a w hF hS => step hF (Y.build (parts := [(0, (.const (iv 3))), (1, (.const (iv 2))), (2, (.const (iv 1))), (3, (.tmp 17))]) (cs := #[iv 3, iv 2, iv 1, iv rv_7.Low, iv rv_7.High]) hF rfl (by kernel_rfl)) rfl fun a hF => ?_
 have hr_2 : Reps C_BeatPair D0 [(BeatPair.mk 0 0 (-1) rv_4), (BeatPair.mk 1 0 1 rv_5), (BeatPair.mk 3 1 (-1) rv_6), (BeatPair.mk 3 2 1 rv_7)] [iv 0, iv 0, iv (-1), iv rv_4.Low, iv rv_4.High, iv 1, iv 0, iv 1, iv rv_5.Low, iv rv_5.High, iv 3, iv 1, iv (-1), iv rv_6.Low, iv rv_6.High, iv 3, iv 2, iv 1, iv rv_7.Low, iv rv_7.High] := Reps.cons (C := C_BeatPair) (x := (BeatPair.mk 0 0 (-1) rv_4)) (c := [iv 0, iv 0, iv (-1), iv rv_4.Low, iv rv_4.High]) (r := [iv 1, iv 0, iv 1, iv rv_5.Low, iv rv_5.High, iv 3, iv 1, iv (-1), iv rv_6.Low, iv rv_6.High, iv 3, iv 2, iv 1, iv rv_7.Low, iv rv_7.High]) rfl (Reps.cons (C := C_BeatPair) (x := (BeatPair.mk 1 0 1 rv_5)) (c := [iv 1, iv 0, iv 1, iv rv_5.Low, iv rv_5.High]) (r := [iv 3, iv 1, iv (-1), iv rv_6.Low, iv rv_6.High, iv 3, iv 2, iv 1, iv rv_7.Low, iv rv_7.High]) rfl (Reps.cons (C := C_BeatPair) (x := (BeatPair.mk 3 1 (-1) rv_6)) (c := [iv 3, iv 1, iv (-1), iv rv_6.Low, iv rv_6.High]) (r := [iv 3, iv 2, iv 1, iv rv_7.Low, iv rv_7.High]) rfl (Reps.cons (C := C_BeatPair) (x := (BeatPair.mk 3 2 1 rv_7)) (c := [iv 3, iv 2, iv 1, iv rv_7.Low, iv rv_7.High]) (r := []) rfl (Reps.nil))))
 refine O.buildSlice (E := 61) (C := C_BeatPair) (xs := [(BeatPair.mk 0 0 (-1) rv_4), (BeatPair.mk 1 0 1 rv_5), (BeatPair.mk 3 1 (-1) rv_6), (BeatPair.mk 3 2 1 rv_7)]) (cs := [iv 0, iv 0, iv (-1), iv rv_4.Low, iv rv_4.High, iv 1, iv 0, iv 1, iv rv_5.Low, iv rv_5.High, iv 3, iv 1, iv (-1), iv rv_6.Low, iv rv_6.High, iv 3, iv 2, iv 1, iv rv_7.Low, iv rv_7.High]) (us := [.agg #[iv 0, iv 0, iv (-1), iv rv_4.Low, iv rv_4.High], .agg #[iv 1, iv 0, iv 1, iv rv_5.Low, iv rv_5.High], .agg #[iv 3, iv 1, iv (-1), iv rv_6.Low, iv rv_6.High], .agg #[iv 3, iv 2, iv 1, iv rv_7.Low, iv rv_7.High]]) (parts := [(0, (.tmp 12)), (1, (.tmp 14)), (2, (.tmp 16)), (3, (.tmp 18))]) 4 hF hS rfl (by kernel_rfl) hr_2 rfl rfl rfl fun p_3 c_3 a w hF hS => step hF (Y.build (parts := [(0, (.const (iv 3))), (1, (.tmp 7)), (2, (.tmp 10)), (3, (.tmp 19))]) (cs := #[iv 3, .slice p_1 ([rv, rv_1, rv_2]).length c_1, .slice p_2 ([(BeatOpen.mk 2 1 rv_3)]).length c_2, .slice p_3 ([(BeatPair.mk 0 0 (-1) rv_4), (BeatPair.mk 1 0 1 rv_5), (BeatPair.mk 3 1 (-1) rv_6), (BeatPair.mk 3 2 1 rv_7)]).length c_3]) hF rfl (by kernel_rfl)) rfl fun a hF => O.alloc 5 zc_26 hF hS rfl fun b_1 a w hF hS => ?_
 replace hS := hS.ownNil 6 61 5
 refine O.store (us := [iv 3, .slice p_1 ([rv, rv_1, rv_2]).length c_1, .slice p_2 ([(BeatOpen.mk 2 1 rv_3)]).length c_2, .slice p_3 ([(BeatPair.mk 0 0 (-1) rv_4), (BeatPair.mk 1 0 1 rv_5), (BeatPair.mk 3 1 (-1) rv_6), (BeatPair.mk 3 2 1 rv_7)]).length c_3]) 5 sz_26 hF rfl rfl rfl rfl hS rfl rfl fun a w hF hS => nT (seq (region (step hF (Y.fieldAddr fo_26_3 hF rfl) rfl fun a hF => step hF (Y.load1L 5 sz_24 hF rfl hS rfl rfl) rfl fun a hF => step hF (Y.move hF rfl) rfl fun a hF => ?_)))
 obtain ⟨hg, h⟩ := ite_some h
 obtain ⟨ds, hds, hsrc⟩ := src_stab (C := C_BeatPair) (xs := more) (hs).1 hS.stab
 refine O.append (C := C_BeatPair) (xs := [(BeatPair.mk 0 0 (-1) rv_4), (BeatPair.mk 1 0 1 rv_5), (BeatPair.mk 3 1 (-1) rv_6), (BeatPair.mk 3 2 1 rv_7)]) (ys := more) 4 gr_24 hF rfl rfl hS rfl hsrc hr_2 hds hg rfl fun p_4 c_4 a w hF hS hr_3 => step hF (Y.fieldAddr fo_26_3 hF rfl) rfl fun a hF => O.store (us := [.slice p_4 ([(BeatPair.mk 0 0 (-1) rv_4), (BeatPair.mk 1 0 1 rv_5), (BeatPair.mk 3 1 (-1) rv_6), (BeatPair.mk 3 2 1 rv_7)] ++ more).length c_4]) 5 sz_24 hF rfl rfl rfl rfl hS rfl rfl fun a w hF hS => nT (seq (region (step hF (Y.loadNL 5 sz_26 hF rfl hS rfl rfl rfl) rfl fun a hF => O.store (us := [iv 3, .slice p_1 ([rv, rv_1, rv_2]).length c_1, .slice p_2 ([(BeatOpen.mk 2 1 rv_3)]).length c_2, .slice p_4 ([(BeatPair.mk 0 0 (-1) rv_4), (BeatPair.mk 1 0 1 rv_5), (BeatPair.mk 3 1 (-1) rv_6), (BeatPair.mk 3 2 1 rv_7)] ++ more).length c_4]) 1 sz_26 hF rfl rfl rfl rfl hS rfl rfl fun a w hF hS => nT (ret_ ?_))))
 replace hS := hS.move 900 2 rfl (by decide)
 replace hS := hS.move 901 3 rfl (by decide)
 replace hS := hS.move 902 4 rfl (by decide)
 obtain rfl := some_inj h
 exact leaveM (ms := [(900, .own p_1 ([rv, rv_1, rv_2]).length c_1 ([iv rv.Low, iv rv.High, iv rv_1.Low, iv rv_1.High, iv rv_2.Low, iv rv_2.High]) 34 2), (901, .own p_2 ([(BeatOpen.mk 2 1 rv_3)]).length c_2 ([iv 2, iv 1, iv rv_3.Low, iv rv_3.High]) 63 4), (902, .own p_4 ([(BeatPair.mk 0 0 (-1) rv_4), (BeatPair.mk 1 0 1 rv_5), (BeatPair.mk 3 1 (-1) rv_6), (BeatPair.mk 3 2 1 rv_7)] ++ more).length c_4 ([iv 0, iv 0, iv (-1), iv rv_4.Low, iv rv_4.High, iv 1, iv 0, iv 1, iv rv_5.Low, iv rv_5.High, iv 3, iv 1, iv (-1), iv rv_6.Low, iv rv_6.High, iv 3, iv 2, iv 1, iv rv_7.Low, iv rv_7.High] ++ ds) 61 5)]) Tryd.results42 hF hS (.cons (.cellN 1 sz_26 rfl rfl rfl) .nil) (.inl rfl) ⟨rfl, rfl, rfl, trivial⟩ (Stab.le.refl _) fun w hS => ⟨_, _, _, _, _, _, _, _, _, hS, rfl, hr, hr_1, hr_3⟩
theorem remontoirlaw02_torn_keep {w0 : World} {D0 : Stab} (hD : D0.on w0) (out : (List BeatPair)) (h : remontoirlaw02_torn = some out) : Calls Tryd.prog 43 [].toArray w0 (RetM D0 fun D w v => ∃ (p_1 : Option Addr) (c_1 : Nat) (kcs0 : List Value), St w0 D0 D [(900, .own p_1 out.length c_1 kcs0 61 5)] w ∧ v = .slice p_1 out.length c_1 ∧ Reps C_BeatPair D out kcs0) := by
 refine enter _ 4 Tryd.func43 rfl Tryd.ntmps43 rfl fun a hF => ?_
 replace hF : Frm 4 [] [] a := hF
 have hS := St.start hD
 unfold remontoirlaw02_torn at h
 refine seq (region (step hF (Y.assign hF rfl) rfl fun a hF => nT (seq (region ?_))))
 obtain ⟨rv, hx, h⟩ := bind_some h
 refine O.callP (us := [iv 80, iv 90]) ca_37 hF hS (r0To_ok hS.stab 80 90 rv hx) rfl rfl fun a w hF hS => step hF (Y.build (parts := [(0, (.const (iv 1))), (1, (.const (iv 1))), (2, (.const (iv (-1)))), (3, (.tmp 1))]) (cs := #[iv 1, iv 1, iv (-1), iv rv.Low, iv rv.High]) hF rfl (by kernel_rfl)) rfl fun a hF => ?_
 have hr : Reps C_BeatPair D0 [(BeatPair.mk 1 1 (-1) rv)] [iv 1, iv 1, iv (-1), iv rv.Low, iv rv.High] := Reps.cons (C := C_BeatPair) (x := (BeatPair.mk 1 1 (-1) rv)) (c := [iv 1, iv 1, iv (-1), iv rv.Low, iv rv.High]) (r := []) rfl (Reps.nil)
 refine O.buildSlice (E := 61) (C := C_BeatPair) (xs := [(BeatPair.mk 1 1 (-1) rv)]) (cs := [iv 1, iv 1, iv (-1), iv rv.Low, iv rv.High]) (us := [.agg #[iv 1, iv 1, iv (-1), iv rv.Low, iv rv.High]]) (parts := [(0, (.tmp 2))]) 1 hF hS rfl (by kernel_rfl) hr rfl rfl rfl fun p c a w hF hS => step hF (Y.assign hF rfl) rfl fun a hF => nT (ret_ ?_)
 replace hS := hS.move 900 1 rfl (by decide)
 obtain rfl := some_inj h
 exact leaveM (ms := [(900, .own p ([(BeatPair.mk 1 1 (-1) rv)]).length c ([iv 1, iv 1, iv (-1), iv rv.Low, iv rv.High]) 61 5)]) Tryd.results43 hF hS (.cons (.tmp rfl) .nil) (.inl rfl) ⟨rfl, trivial⟩ (Stab.le.refl _) fun w hS => ⟨_, _, _, hS, rfl, hr⟩
end Go.Proofs.YtpniidbbbhbglaaDoor.Rt
