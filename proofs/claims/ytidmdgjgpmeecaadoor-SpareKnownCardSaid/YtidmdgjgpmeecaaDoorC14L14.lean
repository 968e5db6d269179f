/- Walks of the functions of this seat: what each Go function comes to, as a Lean function, and the proof. A law. Under no conditions. -/
import Derived.Test.YtidmdgjgpmeecaaDoorC14L14a
set_option linter.unusedVariables false
set_option linter.unusedSimpArgs false
set_option maxRecDepth 100000
set_option maxHeartbeats 40000000
namespace Go.Proofs.YtidmdgjgpmeecaaDoor.Rt
open Go Go.RowKit
theorem remontoirlaw08_SpareKnown_ok {w0 : World} {D0 : Stab} (hD : D0.on w0) (hG : Glob D0) (out : Bool) (h : remontoirlaw08_SpareKnown = some out) : Calls Tryd.prog 14 [].toArray w0 (RetP D0 w0 (.bool out)) := by
 refine enter _ 445 Tryd.func14 rfl Tryd.ntmps14 rfl fun a hF => ?_
 replace hF : Frm 445 [] [] a := hF
 have hS := St.start hD
 unfold remontoirlaw08_SpareKnown at h
 refine seq (region (step hF (Y.assign hF rfl) rfl fun a hF => nT (seq (region (step hF (Y.build (parts := []) (cs := #[iv 0, iv 0, .slice none 0 0]) hF rfl (by kernel_rfl)) rfl fun a hF => ?_)))))
 replace h := bind_some h
 obtain ⟨rv, hx, h⟩ := h
 refine O.callM (us := [iv 0]) ca_46 hF (remontoirlaw08_store_keep hS.stab 0 rv hx) rfl rfl fun v Dv a w hK hlev hF => ?_
 replace hG := hG.mono hlev
 obtain ⟨p, c, cs, hS2_0, rfl, hr⟩ := hK
 replace hS := hS.join hS2_0
 replace hS := hS.move 1 900 rfl (by decide)
 replace hS := hS.weak (ms := [(1, .own p rv.Machines.length c cs 52 5)]) ⟨rfl, trivial⟩
 replace h := bind_some h
 obtain ⟨rv_1, hx_1, h⟩ := h
 refine O.callM (us := [iv 501]) ca_46 hF (remontoirlaw08_store_keep hS.stab 501 rv_1 hx_1) rfl rfl fun v_1 Dv_1 a w hK_1 hlev_1 hF => ?_
 replace hG := hG.mono hlev_1
 replace hr := hr.mono hlev_1
 obtain ⟨p_1, c_1, cs_1, hS2_1, rfl, hr_1⟩ := hK_1
 replace hS := hS.join hS2_1
 replace hS := hS.move 2 900 rfl (by decide)
 replace hS := hS.weak (ms := [(1, .own p rv.Machines.length c cs 52 5), (2, .own p_1 rv_1.Machines.length c_1 cs_1 52 5)]) ⟨rfl, rfl, trivial⟩
 replace h := bind_some h
 obtain ⟨rv_2, hx_2, h⟩ := h
 refine O.callM (us := [iv 20]) ca_46 hF (remontoirlaw08_store_keep hS.stab 20 rv_2 hx_2) rfl rfl fun v_2 Dv_2 a w hK_2 hlev_2 hF => ?_
 replace hG := hG.mono hlev_2
 replace hr := hr.mono hlev_2
 replace hr_1 := hr_1.mono hlev_2
 obtain ⟨p_2, c_2, cs_2, hS2_2, rfl, hr_2⟩ := hK_2
 replace hS := hS.join hS2_2
 replace hS := hS.move 3 900 rfl (by decide)
 replace hS := hS.weak (ms := [(1, .own p rv.Machines.length c cs 52 5), (2, .own p_1 rv_1.Machines.length c_1 cs_1 52 5), (3, .own p_2 rv_2.Machines.length c_2 cs_2 52 5)]) (AL rfl)
 replace h := bind_some h
 obtain ⟨rv_3, hx_3, h⟩ := h
 refine O.callM (us := [iv 20]) ca_46 hF (remontoirlaw08_store_keep hS.stab 20 rv_3 hx_3) rfl rfl fun v_3 Dv_3 a w hK_3 hlev_3 hF => ?_
 replace hG := hG.mono hlev_3
 replace hr := hr.mono hlev_3
 replace hr_1 := hr_1.mono hlev_3
 replace hr_2 := hr_2.mono hlev_3
 obtain ⟨p_3, c_3, cs_3, hS2_3, rfl, hr_3⟩ := hK_3
 replace hS := hS.join hS2_3
 replace hS := hS.move 4 900 rfl (by decide)
 replace hS := hS.weak (ms := [(1, .own p rv.Machines.length c cs 52 5), (2, .own p_1 rv_1.Machines.length c_1 cs_1 52 5), (3, .own p_2 rv_2.Machines.length c_2 cs_2 52 5), (4, .own p_3 rv_3.Machines.length c_3 cs_3 52 5)]) (AL rfl)
 replace h := bind_some h
 obtain ⟨rv_4, hx_4, h⟩ := h
 refine O.callM (us := [iv 20]) ca_46 hF (remontoirlaw08_store_keep hS.stab 20 rv_4 hx_4) rfl rfl fun v_4 Dv_4 a w hK_4 hlev_4 hF => ?_
 replace hG := hG.mono hlev_4
 replace hr := hr.mono hlev_4
 replace hr_1 := hr_1.mono hlev_4
 replace hr_2 := hr_2.mono hlev_4
 replace hr_3 := hr_3.mono hlev_4
 obtain ⟨p_4, c_4, cs_4, hS2_4, rfl, hr_4⟩ := hK_4
 replace hS := hS.join hS2_4
 replace hS := hS.move 5 900 rfl (by decide)
 replace hS := hS.weak (ms := [(1, .own p rv.Machines.length c cs 52 5), (2, .own p_1 rv_1.Machines.length c_1 cs_1 52 5), (3, .own p_2 rv_2.Machines.length c_2 cs_2 52 5), (4, .own p_3 rv_3.Machines.length c_3 cs_3 52 5), (5, .own p_4 rv_4.Machines.length c_4 cs_4 52 5)]) (AL rfl)
 replace h := bind_some h
 obtain ⟨rv_5, hx_5, h⟩ := h
 refine O.callM (us := [iv 20]) ca_46 hF (remontoirlaw08_store_keep hS.stab 20 rv_5 hx_5) rfl rfl fun v_5 Dv_5 a w hK_5 hlev_5 hF => ?_
 replace hG := hG.mono hlev_5
 replace hr := hr.mono hlev_5
 replace hr_1 := hr_1.mono hlev_5
 replace hr_2 := hr_2.mono hlev_5
 replace hr_3 := hr_3.mono hlev_5
 replace hr_4 := hr_4.mono hlev_5
 obtain ⟨p_5, c_5, cs_5, hS2_5, rfl, hr_5⟩ := hK_5
 replace hS := hS.join hS2_5
 replace hS := hS.move 6 900 rfl (by decide)
 replace hS := hS.weak (ms := [(1, .own p rv.Machines.length c cs 52 5), (2, .own p_1 rv_1.Machines.length c_1 cs_1 52 5), (3, .own p_2 rv_2.Machines.length c_2 cs_2 52 5), (4, .own p_3 rv_3.Machines.length c_3 cs_3 52 5), (5, .own p_4 rv_4.Machines.length c_4 cs_4 52 5), (6, .own p_5 rv_5.Machines.length c_5 cs_5 52 5)]) (AL rfl)
 replace h := bind_some h
 obtain ⟨rv_6, hx_6, h⟩ := h
 refine O.callM (us := [iv 20]) ca_46 hF (remontoirlaw08_store_keep hS.stab 20 rv_6 hx_6) rfl rfl fun v_6 Dv_6 a w hK_6 hlev_6 hF => ?_
 replace hG := hG.mono hlev_6
 replace hr := hr.mono hlev_6
 replace hr_1 := hr_1.mono hlev_6
 replace hr_2 := hr_2.mono hlev_6
 replace hr_3 := hr_3.mono hlev_6
 replace hr_4 := hr_4.mono hlev_6
 replace hr_5 := hr_5.mono hlev_6
 obtain ⟨p_6, c_6, cs_6, hS2_6, rfl, hr_6⟩ := hK_6
 replace hS := hS.join hS2_6
 replace hS := hS.move 7 900 rfl (by decide)
 replace hS := hS.weak (ms := [(1, .own p rv.Machines.length c cs 52 5), (2, .own p_1 rv_1.Machines.length c_1 cs_1 52 5), (3, .own p_2 rv_2.Machines.length c_2 cs_2 52 5), (4, .own p_3 rv_3.Machines.length c_3 cs_3 52 5), (5, .own p_4 rv_4.Machines.length c_4 cs_4 52 5), (6, .own p_5 rv_5.Machines.length c_5 cs_5 52 5), (7, .own p_6 rv_6.Machines.length c_6 cs_6 52 5)]) (AL rfl)
 replace h := bind_some h
 obtain ⟨rv_7, hx_7, h⟩ := h
 refine O.callM (us := [iv 20]) ca_46 hF (remontoirlaw08_store_keep hS.stab 20 rv_7 hx_7) rfl rfl fun v_7 Dv_7 a w hK_7 hlev_7 hF => ?_
 replace hG := hG.mono hlev_7
 replace hr := hr.mono hlev_7
 replace hr_1 := hr_1.mono hlev_7
 replace hr_2 := hr_2.mono hlev_7
 replace hr_3 := hr_3.mono hlev_7
 replace hr_4 := hr_4.mono hlev_7
 replace hr_5 := hr_5.mono hlev_7
 replace hr_6 := hr_6.mono hlev_7
 obtain ⟨p_7, c_7, cs_7, hS2_7, rfl, hr_7⟩ := hK_7
 replace hS := hS.join hS2_7
 replace hS := hS.move 8 900 rfl (by decide)
 replace hS := hS.weak (ms := [(1, .own p rv.Machines.length c cs 52 5), (2, .own p_1 rv_1.Machines.length c_1 cs_1 52 5), (3, .own p_2 rv_2.Machines.length c_2 cs_2 52 5), (4, .own p_3 rv_3.Machines.length c_3 cs_3 52 5), (5, .own p_4 rv_4.Machines.length c_4 cs_4 52 5), (6, .own p_5 rv_5.Machines.length c_5 cs_5 52 5), (7, .own p_6 rv_6.Machines.length c_6 cs_6 52 5), (8, .own p_7 rv_7.Machines.length c_7 cs_7 52 5)]) (AL rfl)
 refine O.buildLit (E := 24) (cs := [iv 0, iv 0, .slice none 0 0, iv rv.Hours, iv rv.Gap, .slice p rv.Machines.length c, iv rv_1.Hours, iv rv_1.Gap, .slice p_1 rv_1.Machines.length c_1, iv rv_2.Hours, iv rv_2.Gap, .slice p_2 rv_2.Machines.length c_2, iv rv_3.Hours, iv rv_3.Gap, .slice p_3 rv_3.Machines.length c_3, iv rv_4.Hours, iv rv_4.Gap, .slice p_4 rv_4.Machines.length c_4, iv rv_5.Hours, iv rv_5.Gap, .slice p_5 rv_5.Machines.length c_5, iv rv_6.Hours, iv rv_6.Gap, .slice p_6 rv_6.Machines.length c_6, iv rv_7.Hours, iv rv_7.Gap, .slice p_7 rv_7.Machines.length c_7]) (us := [.agg #[iv 0, iv 0, .slice none 0 0], .agg #[iv rv.Hours, iv rv.Gap, .slice p rv.Machines.length c], .agg #[iv rv_1.Hours, iv rv_1.Gap, .slice p_1 rv_1.Machines.length c_1], .agg #[iv rv_2.Hours, iv rv_2.Gap, .slice p_2 rv_2.Machines.length c_2], .agg #[iv rv_3.Hours, iv rv_3.Gap, .slice p_3 rv_3.Machines.length c_3], .agg #[iv rv_4.Hours, iv rv_4.Gap, .slice p_4 rv_4.Machines.length c_4], .agg #[iv rv_5.Hours, iv rv_5.Gap, .slice p_5 rv_5.Machines.length c_5], .agg #[iv rv_6.Hours, iv rv_6.Gap, .slice p_6 rv_6.Machines.length c_6], .agg #[iv rv_7.Hours, iv rv_7.Gap, .slice p_7 rv_7.Machines.length c_7]]) (parts := [(0, (.tmp 49)), (1, (.tmp 50)), (2, (.tmp 51)), (3, (.tmp 52)), (4, (.tmp 53)), (5, (.tmp 54)), (6, (.tmp 55)), (7, (.tmp 56)), (8, (.tmp 57))]) 9 hF hS rfl (by kernel_rfl) rfl fun b a w hF hS => step hF (Y.assign hF rfl) rfl fun a hF => nT (seq (region (step hF (Y.move hF rfl) rfl fun a hF => step hF (Y.indexSl u_66 sz_24 hF rfl rfl (by decide) (by decide)) rfl fun a hF => step hF (Y.fieldAddr fo_24_1 hF rfl) rfl fun a hF => O.store (us := [iv 1001]) 9 sz_3 hF rfl rfl rfl rfl hS rfl rfl fun a w hF hS => nT (seq (region (step hF (Y.move hF rfl) rfl fun a hF => step hF (Y.indexSl u_66 sz_24 hF rfl rfl (by decide) (by decide)) rfl fun a hF => step hF (Y.fieldAddr fo_24_2 hF rfl) rfl fun a hF => step hF (Y.load1L 9 sz_22 hF rfl hS rfl rfl) rfl fun a hF => ?_))))))
 replace h := bind_some h
 obtain ⟨e, hx_8, h⟩ := h
 obtain ⟨b_1, hp⟩ := hS.ownPtr (i := 4) rfl (idx_rng hx_8)
 obtain ⟨cc, hc, hsub⟩ := ownElI (C := C_SpareMachine) hr_3 hx_8
 obtain rfl := C_SpareMachine.open hc
 refine step hF (Y.indexOwn hp u_22 sz_52 (idx_rng hx_8) hF rfl rfl) rfl fun a hF => step hF (Y.fieldAddr fo_52_0 hF rfl) rfl fun a hF => O.storePart (C := C_SpareMachine) (v0 := (SpareMachine.mk (-501) e.Warm e.Life e.Drift)) (x0 := e) (xs := rv_3.Machines) (us := [iv (-501)]) (k := 0) 4 hp sz_3 (idx_rng hx_8) hF rfl rfl rfl rfl hx_8 (fun c0 h => by obtain rfl := C_SpareMachine.open h; rfl) (show 0 + 1 ≤ 5 by decide) hS rfl hr_3 fun cs_8 a w hF hS hr_8 => ?_
 try rw [show rv_3.Machines.length = (rv_3.Machines.set (Int.toNat 0) (SpareMachine.mk (-501) e.Warm e.Life e.Drift)).length from List.length_set.symm] at hF
 try rw [show rv_3.Machines.length = (rv_3.Machines.set (Int.toNat 0) (SpareMachine.mk (-501) e.Warm e.Life e.Drift)).length from List.length_set.symm] at hS
 refine nT (seq (region (step hF (Y.move hF rfl) rfl fun a hF => step hF (Y.indexSl u_66 sz_24 hF rfl rfl (by decide) (by decide)) rfl fun a hF => step hF (Y.fieldAddr fo_24_2 hF rfl) rfl fun a hF => step hF (Y.load1L 9 sz_22 hF rfl hS rfl rfl) rfl fun a hF => ?_)))
 replace h := bind_some h
 obtain ⟨e_1, hx_9, h⟩ := h
 obtain ⟨b_2, hp_1⟩ := hS.ownPtr (i := 5) rfl (idx_rng hx_9)
 obtain ⟨cc_1, hc_1, hsub_1⟩ := ownElI (C := C_SpareMachine) hr_4 hx_9
 obtain rfl := C_SpareMachine.open hc_1
 refine step hF (Y.indexOwn hp_1 u_22 sz_52 (idx_rng hx_9) hF rfl rfl) rfl fun a hF => step hF (Y.fieldAddr fo_52_1 hF rfl) rfl fun a hF => O.storePart (C := C_SpareMachine) (v0 := (SpareMachine.mk e_1.From 501 e_1.Life e_1.Drift)) (x0 := e_1) (xs := rv_4.Machines) (us := [iv 501]) (k := 1) 5 hp_1 sz_3 (idx_rng hx_9) hF rfl rfl rfl rfl hx_9 (fun c0 h => by obtain rfl := C_SpareMachine.open h; rfl) (show 1 + 1 ≤ 5 by decide) hS rfl hr_4 fun cs_9 a w hF hS hr_9 => ?_
 try rw [show rv_4.Machines.length = (rv_4.Machines.set (Int.toNat 0) (SpareMachine.mk e_1.From 501 e_1.Life e_1.Drift)).length from List.length_set.symm] at hF
 try rw [show rv_4.Machines.length = (rv_4.Machines.set (Int.toNat 0) (SpareMachine.mk e_1.From 501 e_1.Life e_1.Drift)).length from List.length_set.symm] at hS
 refine nT (seq ?_)
 replace h := bind_some h
 obtain ⟨rv_8, hx_10, h⟩ := h
 refine drawsV 5 (.flt 0 (.flt 1 (.flt 2 (.flt 3 (.alt 4 .done .stop))))) mixed_ (by kernel_rfl) (fun w => St w0 D0 Dv_7 [(1, .own p rv.Machines.length c cs 52 5), (2, .own p_1 rv_1.Machines.length c_1 cs_1 52 5), (3, .own p_2 rv_2.Machines.length c_2 cs_2 52 5), (4, .own p_3 (rv_3.Machines.set (Int.toNat 0) (SpareMachine.mk (-501) e.Warm e.Life e.Drift)).length c_3 cs_8 52 5), (5, .own p_4 (rv_4.Machines.set (Int.toNat 0) (SpareMachine.mk e_1.From 501 e_1.Life e_1.Drift)).length c_4 cs_9 52 5), (6, .own p_5 rv_5.Machines.length c_5 cs_5 52 5), (7, .own p_6 rv_6.Machines.length c_6 cs_6 52 5), (8, .own p_7 rv_7.Machines.length c_7 cs_7 52 5), (9, .cells b [iv 0, iv 0, .slice none 0 0, iv rv.Hours, iv rv.Gap, .slice p rv.Machines.length c, iv rv_1.Hours, iv rv_1.Gap, .slice p_1 rv_1.Machines.length c_1, iv rv_2.Hours, iv 1001, .slice p_2 rv_2.Machines.length c_2, iv rv_3.Hours, iv rv_3.Gap, .slice p_3 (rv_3.Machines.set (Int.toNat 0) (SpareMachine.mk (-501) e.Warm e.Life e.Drift)).length c_3, iv rv_4.Hours, iv rv_4.Gap, .slice p_4 (rv_4.Machines.set (Int.toNat 0) (SpareMachine.mk e_1.From 501 e_1.Life e_1.Drift)).length c_4, iv rv_5.Hours, iv rv_5.Gap, .slice p_5 rv_5.Machines.length c_5, iv rv_6.Hours, iv rv_6.Gap, .slice p_6 rv_6.Machines.length c_6, iv rv_7.Hours, iv rv_7.Gap, .slice p_7 rv_7.Machines.length c_7] 24)] w) (fun a w => Frm 445 [] [(0, .bool false), (1, .slice (some ⟨b, 0, none⟩) 9 9), (77, .slice p_5 rv_5.Machines.length c_5), (78, .agg #[iv rv_8.Low, iv rv_8.High])] a ∧ St w0 D0 Dv_7 [(1, .own p rv.Machines.length c cs 52 5), (2, .own p_1 rv_1.Machines.length c_1 cs_1 52 5), (3, .own p_2 rv_2.Machines.length c_2 cs_2 52 5), (4, .own p_3 (rv_3.Machines.set (Int.toNat 0) (SpareMachine.mk (-501) e.Warm e.Life e.Drift)).length c_3 cs_8 52 5), (5, .own p_4 (rv_4.Machines.set (Int.toNat 0) (SpareMachine.mk e_1.From 501 e_1.Life e_1.Drift)).length c_4 cs_9 52 5), (6, .own p_5 rv_5.Machines.length c_5 cs_5 52 5), (7, .own p_6 rv_6.Machines.length c_6 cs_6 52 5), (8, .own p_7 rv_7.Machines.length c_7 cs_7 52 5), (9, .cells b [iv 0, iv 0, .slice none 0 0, iv rv.Hours, iv rv.Gap, .slice p rv.Machines.length c, iv rv_1.Hours, iv rv_1.Gap, .slice p_1 rv_1.Machines.length c_1, iv rv_2.Hours, iv 1001, .slice p_2 rv_2.Machines.length c_2, iv rv_3.Hours, iv rv_3.Gap, .slice p_3 (rv_3.Machines.set (Int.toNat 0) (SpareMachine.mk (-501) e.Warm e.Life e.Drift)).length c_3, iv rv_4.Hours, iv rv_4.Gap, .slice p_4 (rv_4.Machines.set (Int.toNat 0) (SpareMachine.mk e_1.From 501 e_1.Life e_1.Drift)).length c_4, iv rv_5.Hours, iv rv_5.Gap, .slice p_5 rv_5.Machines.length c_5, iv rv_6.Hours, iv rv_6.Gap, .slice p_6 rv_6.Machines.length c_6, iv rv_7.Hours, iv rv_7.Gap, .slice p_7 rv_7.Machines.length c_7] 24)] w) (hS.weak (ms := [(1, .own p rv.Machines.length c cs 52 5), (2, .own p_1 rv_1.Machines.length c_1 cs_1 52 5), (3, .own p_2 rv_2.Machines.length c_2 cs_2 52 5), (4, .own p_3 (rv_3.Machines.set (Int.toNat 0) (SpareMachine.mk (-501) e.Warm e.Life e.Drift)).length c_3 cs_8 52 5), (5, .own p_4 (rv_4.Machines.set (Int.toNat 0) (SpareMachine.mk e_1.From 501 e_1.Life e_1.Drift)).length c_4 cs_9 52 5), (6, .own p_5 rv_5.Machines.length c_5 cs_5 52 5), (7, .own p_6 rv_6.Machines.length c_6 cs_6 52 5), (8, .own p_7 rv_7.Machines.length c_7 cs_7 52 5), (9, .cells b [iv 0, iv 0, .slice none 0 0, iv rv.Hours, iv rv.Gap, .slice p rv.Machines.length c, iv rv_1.Hours, iv rv_1.Gap, .slice p_1 rv_1.Machines.length c_1, iv rv_2.Hours, iv 1001, .slice p_2 rv_2.Machines.length c_2, iv rv_3.Hours, iv rv_3.Gap, .slice p_3 (rv_3.Machines.set (Int.toNat 0) (SpareMachine.mk (-501) e.Warm e.Life e.Drift)).length c_3, iv rv_4.Hours, iv rv_4.Gap, .slice p_4 (rv_4.Machines.set (Int.toNat 0) (SpareMachine.mk e_1.From 501 e_1.Life e_1.Drift)).length c_4, iv rv_5.Hours, iv rv_5.Gap, .slice p_5 rv_5.Machines.length c_5, iv rv_6.Hours, iv rv_6.Gap, .slice p_6 rv_6.Machines.length c_6, iv rv_7.Hours, iv rv_7.Gap, .slice p_7 rv_7.Machines.length c_7] 24)]) (AL rfl)).drew (fun _ _ _ _ h => h) ?_ ?_
 ·replace hS := hS.drew
  have hle0 := hS.le
  refine stepV (i := 0) rfl hF (fun w hS => Y.move hF rfl) rfl fun a hF => stepV (i := 1) rfl hF (fun w hS => Y.indexSl u_66 sz_24 hF rfl rfl (by decide) (by decide)) rfl fun a hF => stepV (i := 2) rfl hF (fun w hS => Y.fieldAddr fo_24_2 hF rfl) rfl fun a hF => stepV (i := 3) rfl hF (fun w hS => Y.load1L 9 sz_22 hF rfl hS rfl rfl) rfl fun a hF => oneV (i := 4) rfl ?_ trivial
  refine O.callP (us := [iv 9, iv 8]) ca_39 hF hS (r0To_ok hS.stab 9 8 rv_8 hx_10) rfl rfl fun a w hF hS => nT ⟨hS.weak (AL rfl), ?_⟩
  exact toTailV ⟨hF.weak (AF rfl), hS.weak (AL rfl)⟩
 rintro a w ⟨hF, hS⟩
 replace h := bind_some h
 obtain ⟨e_2, hx_11, h⟩ := h
 obtain ⟨b_3, hp_2⟩ := hS.ownPtr (i := 6) rfl (idx_rng hx_11)
 obtain ⟨cc_2, hc_2, hsub_2⟩ := ownElI (C := C_SpareMachine) hr_5 hx_11
 obtain rfl := C_SpareMachine.open hc_2
 refine step hF (Y.indexOwn hp_2 u_22 sz_52 (idx_rng hx_11) hF rfl rfl) rfl fun a hF => step hF (Y.fieldAddr fo_52_2 hF rfl) rfl fun a hF => O.storePart (C := C_SpareMachine) (v0 := (SpareMachine.mk e_2.From e_2.Warm rv_8 e_2.Drift)) (x0 := e_2) (xs := rv_5.Machines) (us := [iv rv_8.Low, iv rv_8.High]) (k := 2) 6 hp_2 sz_50 (idx_rng hx_11) hF rfl rfl rfl rfl hx_11 (fun c0 h => by obtain rfl := C_SpareMachine.open h; rfl) (show 2 + 2 ≤ 5 by decide) hS rfl hr_5 fun cs_10 a w hF hS hr_10 => ?_
 try rw [show rv_5.Machines.length = (rv_5.Machines.set (Int.toNat 1) (SpareMachine.mk e_2.From e_2.Warm rv_8 e_2.Drift)).length from List.length_set.symm] at hF
 try rw [show rv_5.Machines.length = (rv_5.Machines.set (Int.toNat 1) (SpareMachine.mk e_2.From e_2.Warm rv_8 e_2.Drift)).length from List.length_set.symm] at hS
 refine nT (seq ?_)
 replace h := bind_some h
 obtain ⟨rv_9, hx_12, h⟩ := h
 refine drawsV 5 (.flt 0 (.flt 1 (.flt 2 (.flt 3 (.alt 4 .done .stop))))) mixed_ (by kernel_rfl) (fun w => St w0 D0 Dv_7 [(1, .own p rv.Machines.length c cs 52 5), (2, .own p_1 rv_1.Machines.length c_1 cs_1 52 5), (3, .own p_2 rv_2.Machines.length c_2 cs_2 52 5), (4, .own p_3 (rv_3.Machines.set (Int.toNat 0) (SpareMachine.mk (-501) e.Warm e.Life e.Drift)).length c_3 cs_8 52 5), (5, .own p_4 (rv_4.Machines.set (Int.toNat 0) (SpareMachine.mk e_1.From 501 e_1.Life e_1.Drift)).length c_4 cs_9 52 5), (6, .own p_5 (rv_5.Machines.set (Int.toNat 1) (SpareMachine.mk e_2.From e_2.Warm rv_8 e_2.Drift)).length c_5 cs_10 52 5), (7, .own p_6 rv_6.Machines.length c_6 cs_6 52 5), (8, .own p_7 rv_7.Machines.length c_7 cs_7 52 5), (9, .cells b [iv 0, iv 0, .slice none 0 0, iv rv.Hours, iv rv.Gap, .slice p rv.Machines.length c, iv rv_1.Hours, iv rv_1.Gap, .slice p_1 rv_1.Machines.length c_1, iv rv_2.Hours, iv 1001, .slice p_2 rv_2.Machines.length c_2, iv rv_3.Hours, iv rv_3.Gap, .slice p_3 (rv_3.Machines.set (Int.toNat 0) (SpareMachine.mk (-501) e.Warm e.Life e.Drift)).length c_3, iv rv_4.Hours, iv rv_4.Gap, .slice p_4 (rv_4.Machines.set (Int.toNat 0) (SpareMachine.mk e_1.From 501 e_1.Life e_1.Drift)).length c_4, iv rv_5.Hours, iv rv_5.Gap, .slice p_5 (rv_5.Machines.set (Int.toNat 1) (SpareMachine.mk e_2.From e_2.Warm rv_8 e_2.Drift)).length c_5, iv rv_6.Hours, iv rv_6.Gap, .slice p_6 rv_6.Machines.length c_6, iv rv_7.Hours, iv rv_7.Gap, .slice p_7 rv_7.Machines.length c_7] 24)] w) (fun a w => Frm 445 [] [(0, .bool false), (1, .slice (some ⟨b, 0, none⟩) 9 9), (84, .slice p_6 rv_6.Machines.length c_6), (85, .agg #[iv rv_9.Low, iv rv_9.High])] a ∧ St w0 D0 Dv_7 [(1, .own p rv.Machines.length c cs 52 5), (2, .own p_1 rv_1.Machines.length c_1 cs_1 52 5), (3, .own p_2 rv_2.Machines.length c_2 cs_2 52 5), (4, .own p_3 (rv_3.Machines.set (Int.toNat 0) (SpareMachine.mk (-501) e.Warm e.Life e.Drift)).length c_3 cs_8 52 5), (5, .own p_4 (rv_4.Machines.set (Int.toNat 0) (SpareMachine.mk e_1.From 501 e_1.Life e_1.Drift)).length c_4 cs_9 52 5), (6, .own p_5 (rv_5.Machines.set (Int.toNat 1) (SpareMachine.mk e_2.From e_2.Warm rv_8 e_2.Drift)).length c_5 cs_10 52 5), (7, .own p_6 rv_6.Machines.length c_6 cs_6 52 5), (8, .own p_7 rv_7.Machines.length c_7 cs_7 52 5), (9, .cells b [iv 0, iv 0, .slice none 0 0, iv rv.Hours, iv rv.Gap, .slice p rv.Machines.length c, iv rv_1.Hours, iv rv_1.Gap, .slice p_1 rv_1.Machines.length c_1, iv rv_2.Hours, iv 1001, .slice p_2 rv_2.Machines.length c_2, iv rv_3.Hours, iv rv_3.Gap, .slice p_3 (rv_3.Machines.set (Int.toNat 0) (SpareMachine.mk (-501) e.Warm e.Life e.Drift)).length c_3, iv rv_4.Hours, iv rv_4.Gap, .slice p_4 (rv_4.Machines.set (Int.toNat 0) (SpareMachine.mk e_1.From 501 e_1.Life e_1.Drift)).length c_4, iv rv_5.Hours, iv rv_5.Gap, .slice p_5 (rv_5.Machines.set (Int.toNat 1) (SpareMachine.mk e_2.From e_2.Warm rv_8 e_2.Drift)).length c_5, iv rv_6.Hours, iv rv_6.Gap, .slice p_6 rv_6.Machines.length c_6, iv rv_7.Hours, iv rv_7.Gap, .slice p_7 rv_7.Machines.length c_7] 24)] w) (hS.weak (ms := [(1, .own p rv.Machines.length c cs 52 5), (2, .own p_1 rv_1.Machines.length c_1 cs_1 52 5), (3, .own p_2 rv_2.Machines.length c_2 cs_2 52 5), (4, .own p_3 (rv_3.Machines.set (Int.toNat 0) (SpareMachine.mk (-501) e.Warm e.Life e.Drift)).length c_3 cs_8 52 5), (5, .own p_4 (rv_4.Machines.set (Int.toNat 0) (SpareMachine.mk e_1.From 501 e_1.Life e_1.Drift)).length c_4 cs_9 52 5), (6, .own p_5 (rv_5.Machines.set (Int.toNat 1) (SpareMachine.mk e_2.From e_2.Warm rv_8 e_2.Drift)).length c_5 cs_10 52 5), (7, .own p_6 rv_6.Machines.length c_6 cs_6 52 5), (8, .own p_7 rv_7.Machines.length c_7 cs_7 52 5), (9, .cells b [iv 0, iv 0, .slice none 0 0, iv rv.Hours, iv rv.Gap, .slice p rv.Machines.length c, iv rv_1.Hours, iv rv_1.Gap, .slice p_1 rv_1.Machines.length c_1, iv rv_2.Hours, iv 1001, .slice p_2 rv_2.Machines.length c_2, iv rv_3.Hours, iv rv_3.Gap, .slice p_3 (rv_3.Machines.set (Int.toNat 0) (SpareMachine.mk (-501) e.Warm e.Life e.Drift)).length c_3, iv rv_4.Hours, iv rv_4.Gap, .slice p_4 (rv_4.Machines.set (Int.toNat 0) (SpareMachine.mk e_1.From 501 e_1.Life e_1.Drift)).length c_4, iv rv_5.Hours, iv rv_5.Gap, .slice p_5 (rv_5.Machines.set (Int.toNat 1) (SpareMachine.mk e_2.From e_2.Warm rv_8 e_2.Drift)).length c_5, iv rv_6.Hours, iv rv_6.Gap, .slice p_6 rv_6.Machines.length c_6, iv rv_7.Hours, iv rv_7.Gap, .slice p_7 rv_7.Machines.length c_7] 24)]) (AL rfl)).drew (fun _ _ _ _ h => h) ?_ ?_
 ·replace hS := hS.drew
  have hle0 := hS.le
  refine stepV (i := 0) rfl hF (fun w hS => Y.move hF rfl) rfl fun a hF => stepV (i := 1) rfl hF (fun w hS => Y.indexSl u_66 sz_24 hF rfl rfl (by decide) (by decide)) rfl fun a hF => stepV (i := 2) rfl hF (fun w hS => Y.fieldAddr fo_24_2 hF rfl) rfl fun a hF => stepV (i := 3) rfl hF (fun w hS => Y.load1L 9 sz_22 hF rfl hS rfl rfl) rfl fun a hF => oneV (i := 4) rfl ?_ trivial
  refine O.callP (us := [iv 9, iv 501]) ca_39 hF hS (r0To_ok hS.stab 9 501 rv_9 hx_12) rfl rfl fun a w hF hS => nT ⟨hS.weak (AL rfl), ?_⟩
  exact toTailV ⟨hF.weak (AF rfl), hS.weak (AL rfl)⟩
 rintro a w ⟨hF, hS⟩
 replace h := bind_some h
 obtain ⟨e_3, hx_13, h⟩ := h
 obtain ⟨b_4, hp_3⟩ := hS.ownPtr (i := 7) rfl (idx_rng hx_13)
 obtain ⟨cc_3, hc_3, hsub_3⟩ := ownElI (C := C_SpareMachine) hr_6 hx_13
 obtain rfl := C_SpareMachine.open hc_3
 refine step hF (Y.indexOwn hp_3 u_22 sz_52 (idx_rng hx_13) hF rfl rfl) rfl fun a hF => step hF (Y.fieldAddr fo_52_2 hF rfl) rfl fun a hF => O.storePart (C := C_SpareMachine) (v0 := (SpareMachine.mk e_3.From e_3.Warm rv_9 e_3.Drift)) (x0 := e_3) (xs := rv_6.Machines) (us := [iv rv_9.Low, iv rv_9.High]) (k := 2) 7 hp_3 sz_50 (idx_rng hx_13) hF rfl rfl rfl rfl hx_13 (fun c0 h => by obtain rfl := C_SpareMachine.open h; rfl) (show 2 + 2 ≤ 5 by decide) hS rfl hr_6 fun cs_11 a w hF hS hr_11 => ?_
 try rw [show rv_6.Machines.length = (rv_6.Machines.set (Int.toNat 1) (SpareMachine.mk e_3.From e_3.Warm rv_9 e_3.Drift)).length from List.length_set.symm] at hF
 try rw [show rv_6.Machines.length = (rv_6.Machines.set (Int.toNat 1) (SpareMachine.mk e_3.From e_3.Warm rv_9 e_3.Drift)).length from List.length_set.symm] at hS
 refine nT (seq (region (step hF (Y.move hF rfl) rfl fun a hF => step hF (Y.indexSl u_66 sz_24 hF rfl rfl (by decide) (by decide)) rfl fun a hF => step hF (Y.fieldAddr fo_24_2 hF rfl) rfl fun a hF => step hF (Y.load1L 9 sz_22 hF rfl hS rfl rfl) rfl fun a hF => ?_)))
 replace h := bind_some h
 obtain ⟨e_4, hx_14, h⟩ := h
 obtain ⟨b_5, hp_4⟩ := hS.ownPtr (i := 8) rfl (idx_rng hx_14)
 obtain ⟨cc_4, hc_4, hsub_4⟩ := ownElI (C := C_SpareMachine) hr_7 hx_14
 obtain rfl := C_SpareMachine.open hc_4
 refine step hF (Y.indexOwn hp_4 u_22 sz_52 (idx_rng hx_14) hF rfl rfl) rfl fun a hF => step hF (Y.fieldAddr fo_52_3 hF rfl) rfl fun a hF => O.storePart (C := C_SpareMachine) (v0 := (SpareMachine.mk e_4.From e_4.Warm e_4.Life (-1))) (x0 := e_4) (xs := rv_7.Machines) (us := [iv (-1)]) (k := 4) 8 hp_4 sz_3 (idx_rng hx_14) hF rfl rfl rfl rfl hx_14 (fun c0 h => by obtain rfl := C_SpareMachine.open h; rfl) (show 4 + 1 ≤ 5 by decide) hS rfl hr_7 fun cs_12 a w hF hS hr_12 => ?_
 try rw [show rv_7.Machines.length = (rv_7.Machines.set (Int.toNat 2) (SpareMachine.mk e_4.From e_4.Warm e_4.Life (-1))).length from List.length_set.symm] at hF
 try rw [show rv_7.Machines.length = (rv_7.Machines.set (Int.toNat 2) (SpareMachine.mk e_4.From e_4.Warm e_4.Life (-1))).length from List.length_set.symm] at hS
 refine nT (seq (seq (region (step hF (Y.assign hF rfl) rfl fun a hF => nT (block ?_)))))
 obtain ⟨Dv_8, hlev_8, hs_8, hS⟩ := hS.freezeC (C := C_SpareMachine) (i := 1) (xs := rv.Machines) rfl hr
 replace hG := hG.mono hlev_8
 replace hr_1 := hr_1.mono hlev_8
 replace hr_2 := hr_2.mono hlev_8
 replace hr_8 := hr_8.mono hlev_8
 replace hr_9 := hr_9.mono hlev_8
 replace hr_10 := hr_10.mono hlev_8
 replace hr_11 := hr_11.mono hlev_8
 replace hr_12 := hr_12.mono hlev_8
 obtain ⟨Dv_9, hlev_9, hs_9, hS⟩ := hS.freezeC (C := C_SpareMachine) (i := 2) (xs := rv_1.Machines) rfl hr_1
 replace hG := hG.mono hlev_9
 replace hr_2 := hr_2.mono hlev_9
 replace hr_8 := hr_8.mono hlev_9
 replace hr_9 := hr_9.mono hlev_9
 replace hr_10 := hr_10.mono hlev_9
 replace hr_11 := hr_11.mono hlev_9
 replace hr_12 := hr_12.mono hlev_9
 replace hs_8 := hs_8.mono hlev_9
 obtain ⟨Dv_10, hlev_10, hs_10, hS⟩ := hS.freezeC (C := C_SpareMachine) (i := 3) (xs := rv_2.Machines) rfl hr_2
 replace hG := hG.mono hlev_10
 replace hr_8 := hr_8.mono hlev_10
 replace hr_9 := hr_9.mono hlev_10
 replace hr_10 := hr_10.mono hlev_10
 replace hr_11 := hr_11.mono hlev_10
 replace hr_12 := hr_12.mono hlev_10
 replace hs_8 := hs_8.mono hlev_10
 replace hs_9 := hs_9.mono hlev_10
 obtain ⟨Dv_11, hlev_11, hs_11, hS⟩ := hS.freezeC (C := C_SpareMachine) (i := 4) (xs := (rv_3.Machines.set (Int.toNat 0) (SpareMachine.mk (-501) e.Warm e.Life e.Drift))) rfl hr_8
 replace hG := hG.mono hlev_11
 replace hr_9 := hr_9.mono hlev_11
 replace hr_10 := hr_10.mono hlev_11
 replace hr_11 := hr_11.mono hlev_11
 replace hr_12 := hr_12.mono hlev_11
 replace hs_8 := hs_8.mono hlev_11
 replace hs_9 := hs_9.mono hlev_11
 replace hs_10 := hs_10.mono hlev_11
 obtain ⟨Dv_12, hlev_12, hs_12, hS⟩ := hS.freezeC (C := C_SpareMachine) (i := 5) (xs := (rv_4.Machines.set (Int.toNat 0) (SpareMachine.mk e_1.From 501 e_1.Life e_1.Drift))) rfl hr_9
 replace hG := hG.mono hlev_12
 replace hr_10 := hr_10.mono hlev_12
 replace hr_11 := hr_11.mono hlev_12
 replace hr_12 := hr_12.mono hlev_12
 replace hs_8 := hs_8.mono hlev_12
 replace hs_9 := hs_9.mono hlev_12
 replace hs_10 := hs_10.mono hlev_12
 replace hs_11 := hs_11.mono hlev_12
 obtain ⟨Dv_13, hlev_13, hs_13, hS⟩ := hS.freezeC (C := C_SpareMachine) (i := 6) (xs := (rv_5.Machines.set (Int.toNat 1) (SpareMachine.mk e_2.From e_2.Warm rv_8 e_2.Drift))) rfl hr_10
 replace hG := hG.mono hlev_13
 replace hr_11 := hr_11.mono hlev_13
 replace hr_12 := hr_12.mono hlev_13
 replace hs_8 := hs_8.mono hlev_13
 replace hs_9 := hs_9.mono hlev_13
 replace hs_10 := hs_10.mono hlev_13
 replace hs_11 := hs_11.mono hlev_13
 replace hs_12 := hs_12.mono hlev_13
 obtain ⟨Dv_14, hlev_14, hs_14, hS⟩ := hS.freezeC (C := C_SpareMachine) (i := 7) (xs := (rv_6.Machines.set (Int.toNat 1) (SpareMachine.mk e_3.From e_3.Warm rv_9 e_3.Drift))) rfl hr_11
 replace hG := hG.mono hlev_14
 replace hr_12 := hr_12.mono hlev_14
 replace hs_8 := hs_8.mono hlev_14
 replace hs_9 := hs_9.mono hlev_14
 replace hs_10 := hs_10.mono hlev_14
 replace hs_11 := hs_11.mono hlev_14
 replace hs_12 := hs_12.mono hlev_14
 replace hs_13 := hs_13.mono hlev_14
 obtain ⟨Dv_15, hlev_15, hs_15, hS⟩ := hS.freezeC (C := C_SpareMachine) (i := 8) (xs := (rv_7.Machines.set (Int.toNat 2) (SpareMachine.mk e_4.From e_4.Warm e_4.Life (-1)))) rfl hr_12
 replace hG := hG.mono hlev_15
 replace hs_8 := hs_8.mono hlev_15
 replace hs_9 := hs_9.mono hlev_15
 replace hs_10 := hs_10.mono hlev_15
 replace hs_11 := hs_11.mono hlev_15
 replace hs_12 := hs_12.mono hlev_15
 replace hs_13 := hs_13.mono hlev_15
 replace hs_14 := hs_14.mono hlev_15
 obtain ⟨Dv_16, hlev_16, hbv, hS⟩ := hS.freezeB (i := 9) rfl
 replace hG := hG.mono hlev_16
 replace hs_8 := hs_8.mono hlev_16
 replace hs_9 := hs_9.mono hlev_16
 replace hs_10 := hs_10.mono hlev_16
 replace hs_11 := hs_11.mono hlev_16
 replace hs_12 := hs_12.mono hlev_16
 replace hs_13 := hs_13.mono hlev_16
 replace hs_14 := hs_14.mono hlev_16
 replace hs_15 := hs_15.mono hlev_16
 have hr_13 : Reps C_SpareStore Dv_16 ([(SpareStore.mk 0 0 ([] : List SpareMachine)), rv, rv_1, (SpareStore.mk rv_2.Hours 1001 rv_2.Machines), (SpareStore.mk rv_3.Hours rv_3.Gap (rv_3.Machines.set (Int.toNat 0) (SpareMachine.mk (-501) e.Warm e.Life e.Drift))), (SpareStore.mk rv_4.Hours rv_4.Gap (rv_4.Machines.set (Int.toNat 0) (SpareMachine.mk e_1.From 501 e_1.Life e_1.Drift))), (SpareStore.mk rv_5.Hours rv_5.Gap (rv_5.Machines.set (Int.toNat 1) (SpareMachine.mk e_2.From e_2.Warm rv_8 e_2.Drift))), (SpareStore.mk rv_6.Hours rv_6.Gap (rv_6.Machines.set (Int.toNat 1) (SpareMachine.mk e_3.From e_3.Warm rv_9 e_3.Drift))), (SpareStore.mk rv_7.Hours rv_7.Gap (rv_7.Machines.set (Int.toNat 2) (SpareMachine.mk e_4.From e_4.Warm e_4.Life (-1))))] : List SpareStore) [iv 0, iv 0, .slice none 0 0, iv rv.Hours, iv rv.Gap, .slice p rv.Machines.length c, iv rv_1.Hours, iv rv_1.Gap, .slice p_1 rv_1.Machines.length c_1, iv rv_2.Hours, iv 1001, .slice p_2 rv_2.Machines.length c_2, iv rv_3.Hours, iv rv_3.Gap, .slice p_3 (rv_3.Machines.set (Int.toNat 0) (SpareMachine.mk (-501) e.Warm e.Life e.Drift)).length c_3, iv rv_4.Hours, iv rv_4.Gap, .slice p_4 (rv_4.Machines.set (Int.toNat 0) (SpareMachine.mk e_1.From 501 e_1.Life e_1.Drift)).length c_4, iv rv_5.Hours, iv rv_5.Gap, .slice p_5 (rv_5.Machines.set (Int.toNat 1) (SpareMachine.mk e_2.From e_2.Warm rv_8 e_2.Drift)).length c_5, iv rv_6.Hours, iv rv_6.Gap, .slice p_6 (rv_6.Machines.set (Int.toNat 1) (SpareMachine.mk e_3.From e_3.Warm rv_9 e_3.Drift)).length c_6, iv rv_7.Hours, iv rv_7.Gap, .slice p_7 (rv_7.Machines.set (Int.toNat 2) (SpareMachine.mk e_4.From e_4.Warm e_4.Life (-1))).length c_7] := Reps.cons (C := C_SpareStore) (x := (SpareStore.mk 0 0 ([] : List SpareMachine))) (c := [iv 0, iv 0, .slice none 0 0]) (⟨_, _, rfl, SRc.nil⟩) (Reps.cons (C := C_SpareStore) (x := rv) (c := [iv rv.Hours, iv rv.Gap, .slice p rv.Machines.length c]) (⟨_, _, rfl, hs_8⟩) (Reps.cons (C := C_SpareStore) (x := rv_1) (c := [iv rv_1.Hours, iv rv_1.Gap, .slice p_1 rv_1.Machines.length c_1]) (⟨_, _, rfl, hs_9⟩) (Reps.cons (C := C_SpareStore) (x := (SpareStore.mk rv_2.Hours 1001 rv_2.Machines)) (c := [iv rv_2.Hours, iv 1001, .slice p_2 rv_2.Machines.length c_2]) (⟨_, _, rfl, hs_10⟩) (Reps.cons (C := C_SpareStore) (x := (SpareStore.mk rv_3.Hours rv_3.Gap (rv_3.Machines.set (Int.toNat 0) (SpareMachine.mk (-501) e.Warm e.Life e.Drift)))) (c := [iv rv_3.Hours, iv rv_3.Gap, .slice p_3 (rv_3.Machines.set (Int.toNat 0) (SpareMachine.mk (-501) e.Warm e.Life e.Drift)).length c_3]) (⟨_, _, rfl, hs_11⟩) (Reps.cons (C := C_SpareStore) (x := (SpareStore.mk rv_4.Hours rv_4.Gap (rv_4.Machines.set (Int.toNat 0) (SpareMachine.mk e_1.From 501 e_1.Life e_1.Drift)))) (c := [iv rv_4.Hours, iv rv_4.Gap, .slice p_4 (rv_4.Machines.set (Int.toNat 0) (SpareMachine.mk e_1.From 501 e_1.Life e_1.Drift)).length c_4]) (⟨_, _, rfl, hs_12⟩) (Reps.cons (C := C_SpareStore) (x := (SpareStore.mk rv_5.Hours rv_5.Gap (rv_5.Machines.set (Int.toNat 1) (SpareMachine.mk e_2.From e_2.Warm rv_8 e_2.Drift)))) (c := [iv rv_5.Hours, iv rv_5.Gap, .slice p_5 (rv_5.Machines.set (Int.toNat 1) (SpareMachine.mk e_2.From e_2.Warm rv_8 e_2.Drift)).length c_5]) (⟨_, _, rfl, hs_13⟩) (Reps.cons (C := C_SpareStore) (x := (SpareStore.mk rv_6.Hours rv_6.Gap (rv_6.Machines.set (Int.toNat 1) (SpareMachine.mk e_3.From e_3.Warm rv_9 e_3.Drift)))) (c := [iv rv_6.Hours, iv rv_6.Gap, .slice p_6 (rv_6.Machines.set (Int.toNat 1) (SpareMachine.mk e_3.From e_3.Warm rv_9 e_3.Drift)).length c_6]) (⟨_, _, rfl, hs_14⟩) (Reps.cons (C := C_SpareStore) (x := (SpareStore.mk rv_7.Hours rv_7.Gap (rv_7.Machines.set (Int.toNat 2) (SpareMachine.mk e_4.From e_4.Warm e_4.Life (-1))))) (c := [iv rv_7.Hours, iv rv_7.Gap, .slice p_7 (rv_7.Machines.set (Int.toNat 2) (SpareMachine.mk e_4.From e_4.Warm e_4.Life (-1))).length c_7]) (⟨_, _, rfl, hs_15⟩) (Reps.nil)))))))))
 have hs_16 : SRc C_SpareStore Dv_16 ([(SpareStore.mk 0 0 ([] : List SpareMachine)), rv, rv_1, (SpareStore.mk rv_2.Hours 1001 rv_2.Machines), (SpareStore.mk rv_3.Hours rv_3.Gap (rv_3.Machines.set (Int.toNat 0) (SpareMachine.mk (-501) e.Warm e.Life e.Drift))), (SpareStore.mk rv_4.Hours rv_4.Gap (rv_4.Machines.set (Int.toNat 0) (SpareMachine.mk e_1.From 501 e_1.Life e_1.Drift))), (SpareStore.mk rv_5.Hours rv_5.Gap (rv_5.Machines.set (Int.toNat 1) (SpareMachine.mk e_2.From e_2.Warm rv_8 e_2.Drift))), (SpareStore.mk rv_6.Hours rv_6.Gap (rv_6.Machines.set (Int.toNat 1) (SpareMachine.mk e_3.From e_3.Warm rv_9 e_3.Drift))), (SpareStore.mk rv_7.Hours rv_7.Gap (rv_7.Machines.set (Int.toNat 2) (SpareMachine.mk e_4.From e_4.Warm e_4.Life (-1))))] : List SpareStore) (some ⟨b, 0, none⟩) 9 := SRc.ofCells hbv hr_13 (Nat.le_refl 9)
 replace hF := hF.weak (us := [(0, .bool false), (1, .slice (some ⟨b, 0, none⟩) ([(SpareStore.mk 0 0 ([] : List SpareMachine)), rv, rv_1, (SpareStore.mk rv_2.Hours 1001 rv_2.Machines), (SpareStore.mk rv_3.Hours rv_3.Gap (rv_3.Machines.set (Int.toNat 0) (SpareMachine.mk (-501) e.Warm e.Life e.Drift))), (SpareStore.mk rv_4.Hours rv_4.Gap (rv_4.Machines.set (Int.toNat 0) (SpareMachine.mk e_1.From 501 e_1.Life e_1.Drift))), (SpareStore.mk rv_5.Hours rv_5.Gap (rv_5.Machines.set (Int.toNat 1) (SpareMachine.mk e_2.From e_2.Warm rv_8 e_2.Drift))), (SpareStore.mk rv_6.Hours rv_6.Gap (rv_6.Machines.set (Int.toNat 1) (SpareMachine.mk e_3.From e_3.Warm rv_9 e_3.Drift))), (SpareStore.mk rv_7.Hours rv_7.Gap (rv_7.Machines.set (Int.toNat 2) (SpareMachine.mk e_4.From e_4.Warm e_4.Life (-1))))] : List SpareStore).length 9), (2, iv 0)]) (AF rfl)
 replace h := bind_some h
 obtain ⟨bad, hx_15, h⟩ := h
 rw [some_inj hx_15] at hs_16 hF
 refine loop_cut (body := remontoirlaw08_SpareKnown_b1 bad) (out := out) (fun s a w => ∃ (v0_0 : Bool) (i : Int), ∃ (Dv_17 : Stab), s = (v0_0, i) ∧ Dv_16.le Dv_17 ∧ Frm 445 [] [(0, .bool v0_0), (1, .slice (some ⟨b, 0, none⟩) bad.length 9), (2, iv i)] a ∧ St w0 D0 Dv_17 [] w) (false, 0) h ⟨false, 0, Dv_16, rfl, Stab.le.refl _, hF.weak (AF rfl), hS.weak trivial⟩ ?_
 rintro s a w xo ⟨v0_0, i, Dv_17, rfl, hlev_17, hF, hS⟩ h hxo
 unfold remontoirlaw08_SpareKnown_b1 at h
 dsimp only at h
 replace hG := hG.mono hlev_17
 replace hs_16 := hs_16.mono hlev_17
 refine seq (seq (region (step hF (Y.move hF rfl) rfl fun a hF => step hF (Y.move hF rfl) rfl fun a hF => step hF (Y.lenSl u_66 hF rfl) rfl fun a hF => step hF (Y.lss hF rfl rfl) rfl fun a hF => nT (cond_b hF rfl (fun hbv_1 => ?_) (fun hbv_1 => ?_)))))
 ·replace h := cond_t h hbv_1
  refine skip_ (then_n (seq (block (seq (region (step hF (Y.move hF rfl) rfl fun a hF => step hF (Y.move hF rfl) rfl fun a hF => ?_))))))
  replace h := bind_some h
  obtain ⟨e_5, hx_16, h⟩ := h
  obtain ⟨b_6, o, hE, hY⟩ := Y.indexS (P := Tryd.prog) (C := C_SpareStore) (xs := bad) (T := 66) (x := (.tmp 101)) (y := (.tmp 102)) u_66 sz_24 hF rfl rfl (hs_16).1 hx_16
  obtain ⟨cc_5, hc_5, hcell⟩ := hE.open
  obtain ⟨p_8, c_8, rfl, hs_17⟩ := C_SpareStore.open hc_5
  refine step hF (hY) rfl fun a hF => step hF (Y.loadNE (o := o) (k := 0) sz_24 hF rfl (hcell _ hS.stab) rfl rfl) rfl fun a hF => ?_
  replace h := bind_some h
  obtain ⟨rv_10, hx_17, h⟩ := h
  refine O.callP (us := [.agg #[iv e_5.Hours, iv e_5.Gap, .slice p_8 e_5.Machines.length c_8], iv (-1)]) ca_15 hF hS (spare_Lasts_ok hS.stab e_5 (-1) hs_17 hG rv_10 hx_17) rfl rfl fun a w hF hS => step hF (Y.move hF rfl) rfl fun a hF => step hF (Y.extract hF rfl rfl) rfl fun a hF => step hF (Y.extract hF rfl rfl) rfl fun a hF => step hF (Y.extract hF rfl rfl) rfl fun a hF => step hF (Y.assign hF rfl) rfl fun a hF => step hF (Y.assign hF rfl) rfl fun a hF => step hF (Y.assign hF rfl) rfl fun a hF => nT (seq (region (step hF (Y.move hF rfl) rfl fun a hF => step hF (Y.move hF rfl) rfl fun a hF => ?_)))
  obtain ⟨b_7, o_1, hE_1, hY_1⟩ := Y.indexS (P := Tryd.prog) (C := C_SpareStore) (xs := bad) (T := 66) (x := (.tmp 110)) (y := (.tmp 111)) u_66 sz_24 hF rfl rfl (hs_16).1 hx_16
  obtain ⟨cc_6, hc_6, hcell_1⟩ := hE_1.open
  obtain ⟨p_9, c_9, rfl, hs_18⟩ := C_SpareStore.open hc_6
  refine step hF (hY_1) rfl fun a hF => step hF (Y.loadNE (o := o_1) (k := 0) sz_24 hF rfl (hcell_1 _ hS.stab) rfl rfl) rfl fun a hF => ?_
  replace h := bind_some h
  obtain ⟨rv_11, hx_18, h⟩ := h
  refine O.callP (us := [.agg #[iv e_5.Hours, iv e_5.Gap, .slice p_9 e_5.Machines.length c_9], .slice none 0 0]) ca_19 hF hS (spare_IsPlan_ok hS.stab e_5 ([] : List SpareTurn) hs_18 SRc.nil rv_11 hx_18) rfl rfl fun a w hF hS => step hF (Y.move hF rfl) rfl fun a hF => step hF (Y.extract hF rfl rfl) rfl fun a hF => step hF (Y.extract hF rfl rfl) rfl fun a hF => step hF (Y.assign hF rfl) rfl fun a hF => step hF (Y.assign hF rfl) rfl fun a hF => nT (seq (region (step hF (Y.move hF rfl) rfl fun a hF => step hF (Y.move hF rfl) rfl fun a hF => ?_)))
  obtain ⟨b_8, o_2, hE_2, hY_2⟩ := Y.indexS (P := Tryd.prog) (C := C_SpareStore) (xs := bad) (T := 66) (x := (.tmp 118)) (y := (.tmp 119)) u_66 sz_24 hF rfl rfl (hs_16).1 hx_16
  obtain ⟨cc_7, hc_7, hcell_2⟩ := hE_2.open
  obtain ⟨p_10, c_10, rfl, hs_19⟩ := C_SpareStore.open hc_7
  refine step hF (hY_2) rfl fun a hF => step hF (Y.loadNE (o := o_2) (k := 0) sz_24 hF rfl (hcell_2 _ hS.stab) rfl rfl) rfl fun a hF => ?_
  replace h := bind_some h
  obtain ⟨rv_12, hx_19, h⟩ := h
  refine O.callP (us := [.agg #[iv e_5.Hours, iv e_5.Gap, .slice p_10 e_5.Machines.length c_10]]) ca_22 hF hS (spare_Fewest_ok hS.stab e_5 hs_19 hG rv_12 hx_19) rfl rfl fun a w hF hS => step hF (Y.move hF rfl) rfl fun a hF => step hF (Y.extract hF rfl rfl) rfl fun a hF => step hF (Y.extract hF rfl rfl) rfl fun a hF => step hF (Y.assign hF rfl) rfl fun a hF => step hF (Y.assign hF rfl) rfl fun a hF => nT (seq (region (step hF (Y.move hF rfl) rfl fun a hF => step hF (Y.move hF rfl) rfl fun a hF => ?_)))
  obtain ⟨b_9, o_3, hE_3, hY_3⟩ := Y.indexS (P := Tryd.prog) (C := C_SpareStore) (xs := bad) (T := 66) (x := (.tmp 126)) (y := (.tmp 127)) u_66 sz_24 hF rfl rfl (hs_16).1 hx_16
  obtain ⟨cc_8, hc_8, hcell_3⟩ := hE_3.open
  obtain ⟨p_11, c_11, rfl, hs_20⟩ := C_SpareStore.open hc_8
  refine step hF (hY_3) rfl fun a hF => step hF (Y.loadNE (o := o_3) (k := 0) sz_24 hF rfl (hcell_3 _ hS.stab) rfl rfl) rfl fun a hF => ?_
  replace h := bind_some h
  obtain ⟨rv_13, hx_20, h⟩ := h
  refine O.callS (us := [.agg #[iv e_5.Hours, iv e_5.Gap, .slice p_11 e_5.Machines.length c_11]]) ca_24 hF hS (spare_Plan_ok hS.stab e_5 hs_20 hG rv_13 hx_20) rfl rfl fun v_8 Dv_18 a w hR hlev_18 hF hS => ?_
  replace hG := hG.mono hlev_18
  replace hs_16 := hs_16.mono hlev_18
  obtain ⟨p_12, c_12, rfl, hs_21⟩ := hR
  refine step hF (Y.move hF rfl) rfl fun a hF => step hF (Y.extract hF rfl rfl) rfl fun a hF => step hF (Y.extract hF rfl rfl) rfl fun a hF => step hF (Y.assign hF rfl) rfl fun a hF => step hF (Y.assign hF rfl) rfl fun a hF => nT (seq (region (step hF (Y.move hF rfl) rfl fun a hF => step hF (Y.move hF rfl) rfl fun a hF => ?_)))
  obtain ⟨b_10, o_4, hE_4, hY_4⟩ := Y.indexS (P := Tryd.prog) (C := C_SpareStore) (xs := bad) (T := 66) (x := (.tmp 134)) (y := (.tmp 135)) u_66 sz_24 hF rfl rfl (hs_16).1 hx_16
  obtain ⟨cc_9, hc_9, hcell_4⟩ := hE_4.open
  obtain ⟨p_13, c_13, rfl, hs_22⟩ := C_SpareStore.open hc_9
  refine step hF (hY_4) rfl fun a hF => step hF (Y.loadNE (o := o_4) (k := 0) sz_24 hF rfl (hcell_4 _ hS.stab) rfl rfl) rfl fun a hF => ?_
  replace h := bind_some h
  obtain ⟨rv_14, hx_21, h⟩ := h
  refine O.callP (us := [.agg #[iv e_5.Hours, iv e_5.Gap, .slice p_13 e_5.Machines.length c_13]]) ca_25 hF hS (spare_Reach_ok hS.stab e_5 hs_22 hG rv_14 hx_21) rfl rfl fun a w hF hS => step hF (Y.move hF rfl) rfl fun a hF => step hF (Y.extract hF rfl rfl) rfl fun a hF => step hF (Y.extract hF rfl rfl) rfl fun a hF => step hF (Y.assign hF rfl) rfl fun a hF => step hF (Y.assign hF rfl) rfl fun a hF => nT (seq (region (step hF (Y.move hF rfl) rfl fun a hF => step hF (Y.move hF rfl) rfl fun a hF => ?_)))
  obtain ⟨b_11, o_5, hE_5, hY_5⟩ := Y.indexS (P := Tryd.prog) (C := C_SpareStore) (xs := bad) (T := 66) (x := (.tmp 142)) (y := (.tmp 143)) u_66 sz_24 hF rfl rfl (hs_16).1 hx_16
  obtain ⟨cc_10, hc_10, hcell_5⟩ := hE_5.open
  obtain ⟨p_14, c_14, rfl, hs_23⟩ := C_SpareStore.open hc_10
  refine step hF (hY_5) rfl fun a hF => step hF (Y.loadNE (o := o_5) (k := 0) sz_24 hF rfl (hcell_5 _ hS.stab) rfl rfl) rfl fun a hF => ?_
  replace h := bind_some h
  obtain ⟨rv_15, hx_22, h⟩ := h
  refine O.callS (us := [.agg #[iv e_5.Hours, iv e_5.Gap, .slice p_14 e_5.Machines.length c_14]]) ca_27 hF hS (spare_Need_ok hS.stab e_5 hs_23 hG rv_15 hx_22) rfl rfl fun v_9 Dv_19 a w hR_1 hlev_19 hF hS => ?_
  replace hG := hG.mono hlev_19
  replace hs_16 := hs_16.mono hlev_19
  obtain ⟨p_15, c_15, rfl, hs_24⟩ := hR_1
  refine step hF (Y.move hF rfl) rfl fun a hF => step hF (Y.extract hF rfl rfl) rfl fun a hF => step hF (Y.extract hF rfl rfl) rfl fun a hF => step hF (Y.assign hF rfl) rfl fun a hF => step hF (Y.assign hF rfl) rfl fun a hF => nT (seq (region (step hF (Y.move hF rfl) rfl fun a hF => step hF (Y.move hF rfl) rfl fun a hF => ?_)))
  obtain ⟨b_12, o_6, hE_6, hY_6⟩ := Y.indexS (P := Tryd.prog) (C := C_SpareStore) (xs := bad) (T := 66) (x := (.tmp 150)) (y := (.tmp 151)) u_66 sz_24 hF rfl rfl (hs_16).1 hx_16
  obtain ⟨cc_11, hc_11, hcell_6⟩ := hE_6.open
  obtain ⟨p_16, c_16, rfl, hs_25⟩ := C_SpareStore.open hc_11
  refine step hF (hY_6) rfl fun a hF => step hF (Y.loadNE (o := o_6) (k := 0) sz_24 hF rfl (hcell_6 _ hS.stab) rfl rfl) rfl fun a hF => ?_
  replace h := bind_some h
  obtain ⟨rv_16, hx_23, h⟩ := h
  refine O.callP (us := [.agg #[iv e_5.Hours, iv e_5.Gap, .slice p_16 e_5.Machines.length c_16]]) ca_30 hF hS (spare_Pair_ok hS.stab e_5 hs_25 hG rv_16 hx_23) rfl rfl fun a w hF hS => step hF (Y.move hF rfl) rfl fun a hF => step hF (Y.extract hF rfl rfl) rfl fun a hF => step hF (Y.extract hF rfl rfl) rfl fun a hF => step hF (Y.assign hF rfl) rfl fun a hF => step hF (Y.assign hF rfl) rfl fun a hF => nT (seq (region (step hF (Y.move hF rfl) rfl fun a hF => step hF (Y.move hF rfl) rfl fun a hF => ?_)))
  obtain ⟨b_13, o_7, hE_7, hY_7⟩ := Y.indexS (P := Tryd.prog) (C := C_SpareStore) (xs := bad) (T := 66) (x := (.tmp 158)) (y := (.tmp 159)) u_66 sz_24 hF rfl rfl (hs_16).1 hx_16
  obtain ⟨cc_12, hc_12, hcell_7⟩ := hE_7.open
  obtain ⟨p_17, c_17, rfl, hs_26⟩ := C_SpareStore.open hc_12
  refine step hF (hY_7) rfl fun a hF => step hF (Y.loadNE (o := o_7) (k := 0) sz_24 hF rfl (hcell_7 _ hS.stab) rfl rfl) rfl fun a hF => ?_
  replace h := bind_some h
  obtain ⟨rv_17, hx_24, h⟩ := h
  refine O.callS (us := [.agg #[iv e_5.Hours, iv e_5.Gap, .slice p_17 e_5.Machines.length c_17], .slice none 0 0, .slice none 0 0]) ca_32 hF hS (spare_Silent_ok hS.stab e_5 ([] : List SpareTurn) ([] : List Int) hs_26 SRc.nil SRc.nil rv_17 hx_24) rfl rfl fun v_10 Dv_20 a w hR_2 hlev_20 hF hS => ?_
  replace hs_16 := hs_16.mono hlev_20
  obtain ⟨p_18, c_18, rfl, hs_27⟩ := hR_2
  refine step hF (Y.move hF rfl) rfl fun a hF => step hF (Y.extract hF rfl rfl) rfl fun a hF => step hF (Y.extract hF rfl rfl) rfl fun a hF => step hF (Y.assign hF rfl) rfl fun a hF => step hF (Y.assign hF rfl) rfl fun a hF => nT (seq (region (step hF (Y.move hF rfl) rfl fun a hF => step hF (Y.move hF rfl) rfl fun a hF => ?_)))
  obtain ⟨b_14, o_8, hE_8, hY_8⟩ := Y.indexS (P := Tryd.prog) (C := C_SpareStore) (xs := bad) (T := 66) (x := (.tmp 165)) (y := (.tmp 166)) u_66 sz_24 hF rfl rfl (hs_16).1 hx_16
  obtain ⟨cc_13, hc_13, hcell_8⟩ := hE_8.open
  obtain ⟨p_19, c_19, rfl, hs_28⟩ := C_SpareStore.open hc_13
  refine step hF (hY_8) rfl fun a hF => step hF (Y.loadNE (o := o_8) (k := 0) sz_24 hF rfl (hcell_8 _ hS.stab) rfl rfl) rfl fun a hF => ?_
  replace h := bind_some h
  obtain ⟨rv_18, hx_25, h⟩ := h
  refine O.callP (us := [.agg #[iv e_5.Hours, iv e_5.Gap, .slice p_19 e_5.Machines.length c_19]]) ca_17 hF hS (spare_Check_ok hS.stab e_5 hs_28 rv_18 hx_25) rfl rfl fun a w hF hS => step hF (Y.neq hF rfl rfl) rfl fun a hF => step hF (Y.move hF rfl) rfl fun a hF => join (N := 445) (rs := []) (w0 := w0) (D0 := D0) 3 (us := [(0, .bool v0_0), (1, .slice (some ⟨b, 0, none⟩) bad.length 9), (2, iv i), (7, iv rv_11.2), (9, iv rv_12.2), (11, iv rv_13.2), (13, iv rv_14.2), (15, iv rv_15.2), (17, iv rv_16.2), (19, iv rv_17.2), (174, .bool ((rv_18 != 80) || (rv_10.2.2 != 80)))]) (ms := []) (D' := Dv_20) ?_ ?_
  ·rcases bcases (rv_18 != 80) with hbv_2 | hbv_2
   ·skip
    refine guard_off hF rfl rfl hbv_2 rfl fun a hF => guard_off hF rfl rfl hbv_2 rfl fun a hF => step hF (Y.pick_t hF rfl hbv_2 rfl) rfl fun a hF => nT ⟨hF.weak ⟨rfl, rfl, rfl, rfl, rfl, rfl, rfl, rfl, rfl, rfl, (by rw [hbv_2]; rfl), trivial⟩, hS.weak trivial⟩
   refine guard_on hF rfl rfl hbv_2 (step hF (Y.move hF rfl) rfl fun a hF => guard_on hF rfl rfl hbv_2 (step hF (Y.neq hF rfl rfl) rfl fun a hF => step hF (Y.pick_f hF rfl hbv_2 rfl) rfl fun a hF => nT ⟨hF.weak ⟨rfl, rfl, rfl, rfl, rfl, rfl, rfl, rfl, rfl, rfl, (by rw [hbv_2]; rfl), trivial⟩, hS.weak trivial⟩))
  intro a w hF hS
  refine step hF (Y.move hF rfl) rfl fun a hF => join (N := 445) (rs := []) (w0 := w0) (D0 := D0) 3 (us := [(0, .bool v0_0), (1, .slice (some ⟨b, 0, none⟩) bad.length 9), (2, iv i), (9, iv rv_12.2), (11, iv rv_13.2), (13, iv rv_14.2), (15, iv rv_15.2), (17, iv rv_16.2), (19, iv rv_17.2), (178, .bool (((rv_18 != 80) || (rv_10.2.2 != 80)) || (rv_11.2 != 80)))]) (ms := []) (D' := Dv_20) ?_ ?_
  ·rcases bcases ((rv_18 != 80) || (rv_10.2.2 != 80)) with hbv_3 | hbv_3
   ·skip
    refine guard_off hF rfl rfl hbv_3 rfl fun a hF => guard_off hF rfl rfl hbv_3 rfl fun a hF => step hF (Y.pick_t hF rfl hbv_3 rfl) rfl fun a hF => nT ⟨hF.weak ⟨rfl, rfl, rfl, rfl, rfl, rfl, rfl, rfl, rfl, (by rw [hbv_3]; rfl), trivial⟩, hS.weak trivial⟩
   refine guard_on hF rfl rfl hbv_3 (step hF (Y.move hF rfl) rfl fun a hF => guard_on hF rfl rfl hbv_3 (step hF (Y.neq hF rfl rfl) rfl fun a hF => step hF (Y.pick_f hF rfl hbv_3 rfl) rfl fun a hF => nT ⟨hF.weak ⟨rfl, rfl, rfl, rfl, rfl, rfl, rfl, rfl, rfl, (by rw [hbv_3]; rfl), trivial⟩, hS.weak trivial⟩))
  intro a w hF hS
  refine step hF (Y.move hF rfl) rfl fun a hF => join (N := 445) (rs := []) (w0 := w0) (D0 := D0) 3 (us := [(0, .bool v0_0), (1, .slice (some ⟨b, 0, none⟩) bad.length 9), (2, iv i), (11, iv rv_13.2), (13, iv rv_14.2), (15, iv rv_15.2), (17, iv rv_16.2), (19, iv rv_17.2), (182, .bool ((((rv_18 != 80) || (rv_10.2.2 != 80)) || (rv_11.2 != 80)) || (rv_12.2 != 80)))]) (ms := []) (D' := Dv_20) ?_ ?_
  ·rcases bcases (((rv_18 != 80) || (rv_10.2.2 != 80)) || (rv_11.2 != 80)) with hbv_4 | hbv_4
   ·skip
    refine guard_off hF rfl rfl hbv_4 rfl fun a hF => guard_off hF rfl rfl hbv_4 rfl fun a hF => step hF (Y.pick_t hF rfl hbv_4 rfl) rfl fun a hF => nT ⟨hF.weak ⟨rfl, rfl, rfl, rfl, rfl, rfl, rfl, rfl, (by rw [hbv_4]; rfl), trivial⟩, hS.weak trivial⟩
   refine guard_on hF rfl rfl hbv_4 (step hF (Y.move hF rfl) rfl fun a hF => guard_on hF rfl rfl hbv_4 (step hF (Y.neq hF rfl rfl) rfl fun a hF => step hF (Y.pick_f hF rfl hbv_4 rfl) rfl fun a hF => nT ⟨hF.weak ⟨rfl, rfl, rfl, rfl, rfl, rfl, rfl, rfl, (by rw [hbv_4]; rfl), trivial⟩, hS.weak trivial⟩))
  intro a w hF hS
  refine step hF (Y.move hF rfl) rfl fun a hF => join (N := 445) (rs := []) (w0 := w0) (D0 := D0) 3 (us := [(0, .bool v0_0), (1, .slice (some ⟨b, 0, none⟩) bad.length 9), (2, iv i), (13, iv rv_14.2), (15, iv rv_15.2), (17, iv rv_16.2), (19, iv rv_17.2), (186, .bool (((((rv_18 != 80) || (rv_10.2.2 != 80)) || (rv_11.2 != 80)) || (rv_12.2 != 80)) || (rv_13.2 != 80)))]) (ms := []) (D' := Dv_20) ?_ ?_
  ·rcases bcases ((((rv_18 != 80) || (rv_10.2.2 != 80)) || (rv_11.2 != 80)) || (rv_12.2 != 80)) with hbv_5 | hbv_5
   ·skip
    refine guard_off hF rfl rfl hbv_5 rfl fun a hF => guard_off hF rfl rfl hbv_5 rfl fun a hF => step hF (Y.pick_t hF rfl hbv_5 rfl) rfl fun a hF => nT ⟨hF.weak ⟨rfl, rfl, rfl, rfl, rfl, rfl, rfl, (by rw [hbv_5]; rfl), trivial⟩, hS.weak trivial⟩
   refine guard_on hF rfl rfl hbv_5 (step hF (Y.move hF rfl) rfl fun a hF => guard_on hF rfl rfl hbv_5 (step hF (Y.neq hF rfl rfl) rfl fun a hF => step hF (Y.pick_f hF rfl hbv_5 rfl) rfl fun a hF => nT ⟨hF.weak ⟨rfl, rfl, rfl, rfl, rfl, rfl, rfl, (by rw [hbv_5]; rfl), trivial⟩, hS.weak trivial⟩))
  intro a w hF hS
  refine step hF (Y.move hF rfl) rfl fun a hF => join (N := 445) (rs := []) (w0 := w0) (D0 := D0) 3 (us := [(0, .bool v0_0), (1, .slice (some ⟨b, 0, none⟩) bad.length 9), (2, iv i), (15, iv rv_15.2), (17, iv rv_16.2), (19, iv rv_17.2), (190, .bool ((((((rv_18 != 80) || (rv_10.2.2 != 80)) || (rv_11.2 != 80)) || (rv_12.2 != 80)) || (rv_13.2 != 80)) || (rv_14.2 != 80)))]) (ms := []) (D' := Dv_20) ?_ ?_
  ·rcases bcases (((((rv_18 != 80) || (rv_10.2.2 != 80)) || (rv_11.2 != 80)) || (rv_12.2 != 80)) || (rv_13.2 != 80)) with hbv_6 | hbv_6
   ·skip
    refine guard_off hF rfl rfl hbv_6 rfl fun a hF => guard_off hF rfl rfl hbv_6 rfl fun a hF => step hF (Y.pick_t hF rfl hbv_6 rfl) rfl fun a hF => nT ⟨hF.weak ⟨rfl, rfl, rfl, rfl, rfl, rfl, (by rw [hbv_6]; rfl), trivial⟩, hS.weak trivial⟩
   refine guard_on hF rfl rfl hbv_6 (step hF (Y.move hF rfl) rfl fun a hF => guard_on hF rfl rfl hbv_6 (step hF (Y.neq hF rfl rfl) rfl fun a hF => step hF (Y.pick_f hF rfl hbv_6 rfl) rfl fun a hF => nT ⟨hF.weak ⟨rfl, rfl, rfl, rfl, rfl, rfl, (by rw [hbv_6]; rfl), trivial⟩, hS.weak trivial⟩))
  intro a w hF hS
  refine step hF (Y.move hF rfl) rfl fun a hF => join (N := 445) (rs := []) (w0 := w0) (D0 := D0) 3 (us := [(0, .bool v0_0), (1, .slice (some ⟨b, 0, none⟩) bad.length 9), (2, iv i), (17, iv rv_16.2), (19, iv rv_17.2), (194, .bool (((((((rv_18 != 80) || (rv_10.2.2 != 80)) || (rv_11.2 != 80)) || (rv_12.2 != 80)) || (rv_13.2 != 80)) || (rv_14.2 != 80)) || (rv_15.2 != 80)))]) (ms := []) (D' := Dv_20) ?_ ?_
  ·rcases bcases ((((((rv_18 != 80) || (rv_10.2.2 != 80)) || (rv_11.2 != 80)) || (rv_12.2 != 80)) || (rv_13.2 != 80)) || (rv_14.2 != 80)) with hbv_7 | hbv_7
   ·skip
    refine guard_off hF rfl rfl hbv_7 rfl fun a hF => guard_off hF rfl rfl hbv_7 rfl fun a hF => step hF (Y.pick_t hF rfl hbv_7 rfl) rfl fun a hF => nT ⟨hF.weak ⟨rfl, rfl, rfl, rfl, rfl, (by rw [hbv_7]; rfl), trivial⟩, hS.weak trivial⟩
   refine guard_on hF rfl rfl hbv_7 (step hF (Y.move hF rfl) rfl fun a hF => guard_on hF rfl rfl hbv_7 (step hF (Y.neq hF rfl rfl) rfl fun a hF => step hF (Y.pick_f hF rfl hbv_7 rfl) rfl fun a hF => nT ⟨hF.weak ⟨rfl, rfl, rfl, rfl, rfl, (by rw [hbv_7]; rfl), trivial⟩, hS.weak trivial⟩))
  intro a w hF hS
  refine step hF (Y.move hF rfl) rfl fun a hF => join (N := 445) (rs := []) (w0 := w0) (D0 := D0) 3 (us := [(0, .bool v0_0), (1, .slice (some ⟨b, 0, none⟩) bad.length 9), (2, iv i), (19, iv rv_17.2), (198, .bool ((((((((rv_18 != 80) || (rv_10.2.2 != 80)) || (rv_11.2 != 80)) || (rv_12.2 != 80)) || (rv_13.2 != 80)) || (rv_14.2 != 80)) || (rv_15.2 != 80)) || (rv_16.2 != 80)))]) (ms := []) (D' := Dv_20) ?_ ?_
  ·rcases bcases (((((((rv_18 != 80) || (rv_10.2.2 != 80)) || (rv_11.2 != 80)) || (rv_12.2 != 80)) || (rv_13.2 != 80)) || (rv_14.2 != 80)) || (rv_15.2 != 80)) with hbv_8 | hbv_8
   ·skip
    refine guard_off hF rfl rfl hbv_8 rfl fun a hF => guard_off hF rfl rfl hbv_8 rfl fun a hF => step hF (Y.pick_t hF rfl hbv_8 rfl) rfl fun a hF => nT ⟨hF.weak ⟨rfl, rfl, rfl, rfl, (by rw [hbv_8]; rfl), trivial⟩, hS.weak trivial⟩
   refine guard_on hF rfl rfl hbv_8 (step hF (Y.move hF rfl) rfl fun a hF => guard_on hF rfl rfl hbv_8 (step hF (Y.neq hF rfl rfl) rfl fun a hF => step hF (Y.pick_f hF rfl hbv_8 rfl) rfl fun a hF => nT ⟨hF.weak ⟨rfl, rfl, rfl, rfl, (by rw [hbv_8]; rfl), trivial⟩, hS.weak trivial⟩))
  intro a w hF hS
  refine step hF (Y.move hF rfl) rfl fun a hF => join (N := 445) (rs := []) (w0 := w0) (D0 := D0) 3 (us := [(0, .bool v0_0), (1, .slice (some ⟨b, 0, none⟩) bad.length 9), (2, iv i), (202, .bool (((((((((rv_18 != 80) || (rv_10.2.2 != 80)) || (rv_11.2 != 80)) || (rv_12.2 != 80)) || (rv_13.2 != 80)) || (rv_14.2 != 80)) || (rv_15.2 != 80)) || (rv_16.2 != 80)) || (rv_17.2 != 80)))]) (ms := []) (D' := Dv_20) ?_ ?_
  ·rcases bcases ((((((((rv_18 != 80) || (rv_10.2.2 != 80)) || (rv_11.2 != 80)) || (rv_12.2 != 80)) || (rv_13.2 != 80)) || (rv_14.2 != 80)) || (rv_15.2 != 80)) || (rv_16.2 != 80)) with hbv_9 | hbv_9
   ·skip
    refine guard_off hF rfl rfl hbv_9 rfl fun a hF => guard_off hF rfl rfl hbv_9 rfl fun a hF => step hF (Y.pick_t hF rfl hbv_9 rfl) rfl fun a hF => nT ⟨hF.weak ⟨rfl, rfl, rfl, (by rw [hbv_9]; rfl), trivial⟩, hS.weak trivial⟩
   refine guard_on hF rfl rfl hbv_9 (step hF (Y.move hF rfl) rfl fun a hF => guard_on hF rfl rfl hbv_9 (step hF (Y.neq hF rfl rfl) rfl fun a hF => step hF (Y.pick_f hF rfl hbv_9 rfl) rfl fun a hF => nT ⟨hF.weak ⟨rfl, rfl, rfl, (by rw [hbv_9]; rfl), trivial⟩, hS.weak trivial⟩))
  intro a w hF hS
  refine nT (cond_b hF rfl (fun hbv_10 => ?_) (fun hbv_10 => ?_))
  ·replace h := cond_t h hbv_10
   refine seq (region (step hF (Y.assign hF rfl) rfl fun a hF => nT (ret_ (blk_r (then_r (then_r (blk_r (then_r ?_))))))))
   replace h := ext_some h hxo
   obtain rfl := some_inj h
   exact leaveP Tryd.results14 hF hS (.cons (.tmp rfl) .nil) .nil rfl
  replace h := cond_f h hbv_10
  refine skip_ (blk_n (then_n (region (step hF (Y.move hF rfl) rfl fun a hF => step hF (Y.add hF rfl rfl) rfl fun a hF => step hF (Y.assign hF rfl) rfl fun a hF => nT (⟨_, nxt_some h, v0_0, (wr (i + 1)), Dv_20, rfl, hlev_17.trans (hlev_18.trans (hlev_19.trans hlev_20)), hF.weak (AF rfl), hS.weak trivial⟩)))))
 replace h := cond_f h hbv_1
 refine exit_ (then_x (then_x (blk_hit (then_n ?_))))
 replace h := ext_some h hxo
 exact remontoirlaw08_SpareKnown_s1_ok v0_0 (hlev.trans (hlev_1.trans (hlev_2.trans (hlev_3.trans (hlev_4.trans (hlev_5.trans (hlev_6.trans (hlev_7.trans (hlev_8.trans (hlev_9.trans (hlev_10.trans (hlev_11.trans (hlev_12.trans (hlev_13.trans (hlev_14.trans (hlev_15.trans (hlev_16.trans hlev_17))))))))))))))))) hG out h (hF.weak (us := [(0, .bool v0_0)]) ⟨rfl, trivial⟩) (hS.weak (ms := []) trivial)
end Go.Proofs.YtidmdgjgpmeecaaDoor.Rt
