/- Walks of the functions of this seat: what each Go function comes to, as a Lean function, and the proof. A part of a law. Under no conditions. -/
import Derived.Test.YtidmdgjgpmeecaaDoorC14WKZ
set_option linter.unusedVariables false
set_option linter.unusedSimpArgs false
set_option maxRecDepth 100000
set_option maxHeartbeats 40000000
namespace Go.Proofs.YtidmdgjgpmeecaaDoor.Rt
open Go Go.RowKit
noncomputable def remontoirlaw08_SpareKnown_k3 (rv_47 : (Int × Int × Int)) (rv_49 : (Int × Int)) (rv_51 : (Int × Int)) (rv_53 : ((List Int) × Int)) (rv_56 : ((List Int) × Int)) (rv_58 : (Int × Int)) (g : Int) (rv_59 : Int) : Option Bool :=
  (cond (((((((((((((((rv_47.2.2 == 0) && (rv_47.1 == 10)) && (rv_47.2.1 == 10)) && (rv_49.2 == 0)) && (rv_49.1 == 2)) && (rv_51.2 == 0)) && (rv_51.1 == 1)) && (rv_53.2 == 0)) && ((rv_53.1.length : Int) == 0)) && (rv_56.2 == 0)) && ((rv_56.1.length : Int) == 0)) && (rv_58.2 == 0)) && (rv_58.1 == 3)) && (g == 0)) && (rv_59 == 0)) ((remontoirlaw08_works).bind fun rv_60 =>
  some rv_60) (some false)).bind fun t =>
  some t
noncomputable def remontoirlaw08_SpareKnown_s2 (sv_1 : Bool) (sv_2 : Int) (sv_3 : Int) (sv_4 : Int) (sv_5 : Int) (sv_6 : Int) (sv_7 : Int) (sv_8 : Int) : Option Bool :=
  (remontoirlaw08_store 20).bind fun rv_46 =>
  (spare_Lasts rv_46 0).bind fun rv_47 =>
  (remontoirlaw08_store 16).bind fun rv_48 =>
  (spare_Fewest rv_48).bind fun rv_49 =>
  (remontoirlaw08_store 6).bind fun rv_50 =>
  (spare_Fewest rv_50).bind fun rv_51 =>
  (remontoirlaw08_store 6).bind fun rv_52 =>
  (spare_Need rv_52).bind fun rv_53 =>
  (remontoirlaw08_store 20).bind fun rv_54 =>
  (remontoirlaw08_turns).bind fun rv_55 =>
  (spare_Silent rv_54 rv_55 ([12, 9, 10])).bind fun rv_56 =>
  (remontoirlaw08_store 22).bind fun rv_57 =>
  (spare_Fewest rv_57).bind fun rv_58 =>
  (r0To 9 9).bind fun rv_61 =>
  (spare_Reach (SpareStore.mk 1 0 ([(SpareMachine.mk 1 0 rv_61 0)]))).bind fun rv_62 =>
  remontoirlaw08_SpareKnown_k3 rv_47 rv_49 rv_51 rv_53 rv_56 rv_58 rv_62.2 rv_62.1
noncomputable def remontoirlaw08_SpareKnown_b2 (rv_20 : (Int × Int × Int)) (rv_22 : ((List Int) × Int)) (rv_25 : ((List Int) × Int)) (rv_28 : ((List Int) × Int)) (rv_30 : (Int × Int)) (rv_32 : ((List SpareTurn) × Int)) (rv_34 : ((List Int) × Int)) (no : (List (List SpareTurn))) : (Bool × Int) → Option ((Bool × Int) ⊕ Bool)
 | (v0_1, i_1) =>
  cond (decide (i_1 < (no.length : Int)))
  ((remontoirlaw08_store 20).bind fun rv_44 =>
  (idx no i_1).bind fun e_12 =>
  (spare_IsPlan rv_44 e_12).bind fun rv_45 =>
  cond (rv_45.1 || (rv_45.2 != 0))
  (ext (some false))
  (nxt (v0_1, wr (i_1 + 1))))
  (ext (remontoirlaw08_SpareKnown_s2 v0_1 rv_20.2.2 rv_22.2 rv_25.2 rv_28.2 rv_30.2 rv_32.2 rv_34.2))
noncomputable def remontoirlaw08_SpareKnown_s1 (sv : Bool) : Option Bool :=
  (remontoirlaw08_store 20).bind fun rv_19 =>
  (spare_Lasts rv_19 3).bind fun rv_20 =>
  (remontoirlaw08_store 20).bind fun rv_21 =>
  (spare_Silent rv_21 ([] : List SpareTurn) ([] : List Int)).bind fun rv_22 =>
  (remontoirlaw08_store 20).bind fun rv_23 =>
  (remontoirlaw08_turns).bind fun rv_24 =>
  (spare_Silent rv_23 rv_24 ([12, 9])).bind fun rv_25 =>
  (remontoirlaw08_store 20).bind fun rv_26 =>
  (remontoirlaw08_turns).bind fun rv_27 =>
  (spare_Silent rv_26 rv_27 ([12, 9, 501])).bind fun rv_28 =>
  (remontoirlaw08_store 23).bind fun rv_29 =>
  (spare_Fewest rv_29).bind fun rv_30 =>
  (remontoirlaw08_store 23).bind fun rv_31 =>
  (spare_Plan rv_31).bind fun rv_32 =>
  (remontoirlaw08_store 23).bind fun rv_33 =>
  (spare_Need rv_33).bind fun rv_34 =>
  (remontoirlaw08_store 20).bind fun rv_35 =>
  (spare_Pair rv_35).bind fun rv_36 =>
  cond ((((((((rv_20.2.2 != 81) || (rv_22.2 != 81)) || (rv_25.2 != 81)) || (rv_28.2 != 81)) || (rv_30.2 != 4)) || (rv_32.2 != 4)) || (rv_34.2 != 4)) || (rv_36.2 != 4))
  (some false)
  ((remontoirlaw08_turns).bind fun rv_37 =>
  (remontoirlaw08_turns).bind fun rv_38 =>
  (remontoirlaw08_turns).bind fun rv_39 =>
  (remontoirlaw08_turns).bind fun rv_40 =>
  (remontoirlaw08_turns).bind fun rv_41 =>
  (remontoirlaw08_turns).bind fun rv_42 =>
  (remontoirlaw08_turns).bind fun rv_43 =>
  if (0 : Int) ≤ 2 ∧ 2 ≤ (rv_43.length : Int) then
  (idx rv_37 1).bind fun e_6 =>
  (idx rv_38 1).bind fun e_7 =>
  (idx rv_39 0).bind fun e_8 =>
  (idx rv_40 2).bind fun e_9 =>
  (idx rv_41 2).bind fun e_10 =>
  (idx rv_42 1).bind fun e_11 =>
  (some ([([] : List SpareTurn), (rv_37.set (Int.toNat 1) (SpareTurn.mk e_6.Machine 6 e_6.Over)), (rv_38.set (Int.toNat 1) (SpareTurn.mk e_7.Machine e_7.Start 9)), (rv_39.set (Int.toNat 0) (SpareTurn.mk e_8.Machine (-3) e_8.Over)), (rv_40.set (Int.toNat 2) (SpareTurn.mk e_9.Machine 8 e_9.Over)), (rv_41.set (Int.toNat 2) (SpareTurn.mk 1 e_10.Start e_10.Over)), (rv_42.set (Int.toNat 1) (SpareTurn.mk 3 e_11.Start e_11.Over)), (rv_43.take (Int.toNat 2)), [(SpareTurn.mk 0 (-2) 1)]] : List (List SpareTurn))).bind fun no =>
  loopU (remontoirlaw08_SpareKnown_b2 rv_20 rv_22 rv_25 rv_28 rv_30 rv_32 rv_34 no) (sv, 0)
  else none)
noncomputable def remontoirlaw08_SpareKnown_b1 (bad : (List SpareStore)) : (Bool × Int) → Option ((Bool × Int) ⊕ Bool)
 | (v0_0, i) =>
  cond (decide (i < (bad.length : Int)))
  ((idx bad i).bind fun e_5 =>
  (spare_Lasts e_5 (-1)).bind fun rv_10 =>
  (spare_IsPlan e_5 ([] : List SpareTurn)).bind fun rv_11 =>
  (spare_Fewest e_5).bind fun rv_12 =>
  (spare_Plan e_5).bind fun rv_13 =>
  (spare_Reach e_5).bind fun rv_14 =>
  (spare_Need e_5).bind fun rv_15 =>
  (spare_Pair e_5).bind fun rv_16 =>
  (spare_Silent e_5 ([] : List SpareTurn) ([] : List Int)).bind fun rv_17 =>
  (spare_Check e_5).bind fun rv_18 =>
  cond (((((((((rv_18 != 80) || (rv_10.2.2 != 80)) || (rv_11.2 != 80)) || (rv_12.2 != 80)) || (rv_13.2 != 80)) || (rv_14.2 != 80)) || (rv_15.2 != 80)) || (rv_16.2 != 80)) || (rv_17.2 != 80))
  (ext (some false))
  (nxt (v0_0, wr (i + 1))))
  (ext (remontoirlaw08_SpareKnown_s1 v0_0))
noncomputable def remontoirlaw08_SpareKnown : Option Bool :=
  (remontoirlaw08_store 0).bind fun rv =>
  (remontoirlaw08_store 501).bind fun rv_1 =>
  (remontoirlaw08_store 20).bind fun rv_2 =>
  (remontoirlaw08_store 20).bind fun rv_3 =>
  (remontoirlaw08_store 20).bind fun rv_4 =>
  (remontoirlaw08_store 20).bind fun rv_5 =>
  (remontoirlaw08_store 20).bind fun rv_6 =>
  (remontoirlaw08_store 20).bind fun rv_7 =>
  (idx rv_3.Machines 0).bind fun e =>
  (idx rv_4.Machines 0).bind fun e_1 =>
  (r0To 9 8).bind fun rv_8 =>
  (idx rv_5.Machines 1).bind fun e_2 =>
  (r0To 9 501).bind fun rv_9 =>
  (idx rv_6.Machines 1).bind fun e_3 =>
  (idx rv_7.Machines 2).bind fun e_4 =>
  (some ([(SpareStore.mk 0 0 ([] : List SpareMachine)), rv, rv_1, (SpareStore.mk rv_2.Hours 1001 rv_2.Machines), (SpareStore.mk rv_3.Hours rv_3.Gap (rv_3.Machines.set (Int.toNat 0) (SpareMachine.mk (-501) e.Warm e.Life e.Drift))), (SpareStore.mk rv_4.Hours rv_4.Gap (rv_4.Machines.set (Int.toNat 0) (SpareMachine.mk e_1.From 501 e_1.Life e_1.Drift))), (SpareStore.mk rv_5.Hours rv_5.Gap (rv_5.Machines.set (Int.toNat 1) (SpareMachine.mk e_2.From e_2.Warm rv_8 e_2.Drift))), (SpareStore.mk rv_6.Hours rv_6.Gap (rv_6.Machines.set (Int.toNat 1) (SpareMachine.mk e_3.From e_3.Warm rv_9 e_3.Drift))), (SpareStore.mk rv_7.Hours rv_7.Gap (rv_7.Machines.set (Int.toNat 2) (SpareMachine.mk e_4.From e_4.Warm e_4.Life (-1))))] : List SpareStore)).bind fun bad =>
  loopU (remontoirlaw08_SpareKnown_b1 bad) (false, 0)
theorem remontoirlaw08_SpareKnown_s2_ok {w0 : World} {D0 : Stab} (sv_1 : Bool) (sv_2 : Int) (sv_3 : Int) (sv_4 : Int) (sv_5 : Int) (sv_6 : Int) (sv_7 : Int) (sv_8 : Int) {Dv_69 : Stab} (hle0_ : D0.le Dv_69) (hG : Glob Dv_69) (out : Bool) (h : remontoirlaw08_SpareKnown_s2 sv_1 sv_2 sv_3 sv_4 sv_5 sv_6 sv_7 sv_8 = some out) {a : Act} {w : World} (hF : Frm 445 [] [(0, .bool sv_1), (22, iv sv_2), (24, iv sv_3), (26, iv sv_4), (28, iv sv_5), (30, iv sv_6), (32, iv sv_7), (34, iv sv_8)] a) (hS : St w0 D0 Dv_69 [] w) : WP none Tryd.prog (dropSeq 26 (Tryd.f14.body.getD .skip)) (base Tryd.prog Tryd.f14 (RetP D0 w0 (.bool out))) a w := by
 unfold remontoirlaw08_SpareKnown_s2 at h
 refine seq ?_
 refine region ?_
 replace h := bind_some h
 obtain ⟨rv_46, hx_61, h⟩ := h
 refine O.callM (us := [iv 20]) ca_46 hF (remontoirlaw08_store_keep hS.stab 20 rv_46 hx_61) rfl rfl fun v_35 Dv_70 a w hK_25 hlev_68 hF => ?_
 replace hG := hG.mono hlev_68
 obtain ⟨p_49, c_49, cs_36, hS2_25, rfl, hr_41⟩ := hK_25
 replace hS := hS.join hS2_25
 replace hS := hS.move 31 900 rfl (by decide)
 replace hS := hS.weak (ms := [(31, .own p_49 rv_46.Machines.length c_49 cs_36 52 5)]) ⟨rfl, trivial⟩
 obtain ⟨Dv_71, hlev_69, hs_77, hS⟩ := hS.freezeC (C := C_SpareMachine) (i := 31) (xs := rv_46.Machines) rfl hr_41
 replace hG := hG.mono hlev_69
 replace h := bind_some h
 obtain ⟨rv_47, hx_62, h⟩ := h
 refine O.callP (us := [.agg #[iv rv_46.Hours, iv rv_46.Gap, .slice p_49 rv_46.Machines.length c_49], iv 0]) ca_15 hF hS (spare_Lasts_ok hS.stab rv_46 0 hs_77 hG rv_47 hx_62) rfl rfl fun a w hF hS => ?_
 refine step hF (Y.move hF rfl) rfl fun a hF => ?_
 refine step hF (Y.extract hF rfl rfl) rfl fun a hF => ?_
 refine step hF (Y.extract hF rfl rfl) rfl fun a hF => ?_
 refine step hF (Y.extract hF rfl rfl) rfl fun a hF => ?_
 refine step hF (Y.assign hF rfl) rfl fun a hF => ?_
 refine step hF (Y.assign hF rfl) rfl fun a hF => ?_
 refine step hF (Y.assign hF rfl) rfl fun a hF => ?_
 refine nT ?_
 refine seq ?_
 refine region ?_
 replace h := bind_some h
 obtain ⟨rv_48, hx_63, h⟩ := h
 refine O.callM (us := [iv 16]) ca_46 hF (remontoirlaw08_store_keep hS.stab 16 rv_48 hx_63) rfl rfl fun v_36 Dv_72 a w hK_26 hlev_70 hF => ?_
 replace hG := hG.mono hlev_70
 obtain ⟨p_50, c_50, cs_37, hS2_26, rfl, hr_42⟩ := hK_26
 replace hS := hS.join hS2_26
 replace hS := hS.move 32 900 rfl (by decide)
 replace hS := hS.weak (ms := [(32, .own p_50 rv_48.Machines.length c_50 cs_37 52 5)]) ⟨rfl, trivial⟩
 obtain ⟨Dv_73, hlev_71, hs_79, hS⟩ := hS.freezeC (C := C_SpareMachine) (i := 32) (xs := rv_48.Machines) rfl hr_42
 replace hG := hG.mono hlev_71
 replace h := bind_some h
 obtain ⟨rv_49, hx_64, h⟩ := h
 refine O.callP (us := [.agg #[iv rv_48.Hours, iv rv_48.Gap, .slice p_50 rv_48.Machines.length c_50]]) ca_22 hF hS (spare_Fewest_ok hS.stab rv_48 hs_79 hG rv_49 hx_64) rfl rfl fun a w hF hS => ?_
 refine step hF (Y.move hF rfl) rfl fun a hF => ?_
 refine step hF (Y.extract hF rfl rfl) rfl fun a hF => ?_
 refine step hF (Y.extract hF rfl rfl) rfl fun a hF => ?_
 refine step hF (Y.assign hF rfl) rfl fun a hF => ?_
 refine step hF (Y.assign hF rfl) rfl fun a hF => ?_
 refine nT ?_
 refine seq ?_
 refine region ?_
 replace h := bind_some h
 obtain ⟨rv_50, hx_65, h⟩ := h
 refine O.callM (us := [iv 6]) ca_46 hF (remontoirlaw08_store_keep hS.stab 6 rv_50 hx_65) rfl rfl fun v_37 Dv_74 a w hK_27 hlev_72 hF => ?_
 replace hG := hG.mono hlev_72
 obtain ⟨p_51, c_51, cs_38, hS2_27, rfl, hr_43⟩ := hK_27
 replace hS := hS.join hS2_27
 replace hS := hS.move 33 900 rfl (by decide)
 replace hS := hS.weak (ms := [(33, .own p_51 rv_50.Machines.length c_51 cs_38 52 5)]) ⟨rfl, trivial⟩
 obtain ⟨Dv_75, hlev_73, hs_81, hS⟩ := hS.freezeC (C := C_SpareMachine) (i := 33) (xs := rv_50.Machines) rfl hr_43
 replace hG := hG.mono hlev_73
 replace h := bind_some h
 obtain ⟨rv_51, hx_66, h⟩ := h
 refine O.callP (us := [.agg #[iv rv_50.Hours, iv rv_50.Gap, .slice p_51 rv_50.Machines.length c_51]]) ca_22 hF hS (spare_Fewest_ok hS.stab rv_50 hs_81 hG rv_51 hx_66) rfl rfl fun a w hF hS => ?_
 refine step hF (Y.move hF rfl) rfl fun a hF => ?_
 refine step hF (Y.extract hF rfl rfl) rfl fun a hF => ?_
 refine step hF (Y.extract hF rfl rfl) rfl fun a hF => ?_
 refine step hF (Y.assign hF rfl) rfl fun a hF => ?_
 refine step hF (Y.assign hF rfl) rfl fun a hF => ?_
 refine nT ?_
 refine seq ?_
 refine region ?_
 replace h := bind_some h
 obtain ⟨rv_52, hx_67, h⟩ := h
 refine O.callM (us := [iv 6]) ca_46 hF (remontoirlaw08_store_keep hS.stab 6 rv_52 hx_67) rfl rfl fun v_38 Dv_76 a w hK_28 hlev_74 hF => ?_
 replace hG := hG.mono hlev_74
 obtain ⟨p_52, c_52, cs_39, hS2_28, rfl, hr_44⟩ := hK_28
 replace hS := hS.join hS2_28
 replace hS := hS.move 34 900 rfl (by decide)
 replace hS := hS.weak (ms := [(34, .own p_52 rv_52.Machines.length c_52 cs_39 52 5)]) ⟨rfl, trivial⟩
 obtain ⟨Dv_77, hlev_75, hs_83, hS⟩ := hS.freezeC (C := C_SpareMachine) (i := 34) (xs := rv_52.Machines) rfl hr_44
 replace hG := hG.mono hlev_75
 replace h := bind_some h
 obtain ⟨rv_53, hx_68, h⟩ := h
 refine O.callS (us := [.agg #[iv rv_52.Hours, iv rv_52.Gap, .slice p_52 rv_52.Machines.length c_52]]) ca_27 hF hS (spare_Need_ok hS.stab rv_52 hs_83 hG rv_53 hx_68) rfl rfl fun v_39 Dv_78 a w hR_10 hlev_76 hF hS => ?_
 replace hG := hG.mono hlev_76
 obtain ⟨p_53, c_53, rfl, hs_84⟩ := hR_10
 refine step hF (Y.move hF rfl) rfl fun a hF => ?_
 refine step hF (Y.extract hF rfl rfl) rfl fun a hF => ?_
 refine step hF (Y.extract hF rfl rfl) rfl fun a hF => ?_
 refine step hF (Y.assign hF rfl) rfl fun a hF => ?_
 refine step hF (Y.assign hF rfl) rfl fun a hF => ?_
 refine nT ?_
 refine seq ?_
 refine region ?_
 replace h := bind_some h
 obtain ⟨rv_54, hx_69, h⟩ := h
 refine O.callM (us := [iv 20]) ca_46 hF (remontoirlaw08_store_keep hS.stab 20 rv_54 hx_69) rfl rfl fun v_40 Dv_79 a w hK_29 hlev_77 hF => ?_
 replace hG := hG.mono hlev_77
 obtain ⟨p_54, c_54, cs_40, hS2_29, rfl, hr_45⟩ := hK_29
 replace hS := hS.join hS2_29
 replace hS := hS.move 35 900 rfl (by decide)
 replace hS := hS.weak (ms := [(35, .own p_54 rv_54.Machines.length c_54 cs_40 52 5)]) ⟨rfl, trivial⟩
 replace h := bind_some h
 obtain ⟨rv_55, hx_70, h⟩ := h
 refine O.callM (us := []) ca_47 hF (remontoirlaw08_turns_keep hS.stab rv_55 hx_70) rfl rfl fun v_41 Dv_80 a w hK_30 hlev_78 hF => ?_
 replace hG := hG.mono hlev_78
 replace hr_45 := hr_45.mono hlev_78
 obtain ⟨p_55, c_55, cs_41, hS2_30, rfl, hr_46⟩ := hK_30
 replace hS := hS.join hS2_30
 replace hS := hS.move 36 900 rfl (by decide)
 replace hS := hS.weak (ms := [(35, .own p_54 rv_54.Machines.length c_54 cs_40 52 5), (36, .own p_55 rv_55.length c_55 cs_41 46 3)]) ⟨rfl, rfl, trivial⟩
 have hr_47 : Reps C_int Dv_80 [12, 9, 10] [iv 12, iv 9, iv 10] := Reps.cons (C := C_int) (x := 12) (c := [iv 12]) (r := [iv 9, iv 10]) rfl (Reps.cons (C := C_int) (x := 9) (c := [iv 9]) (r := [iv 10]) rfl (Reps.cons (C := C_int) (x := 10) (c := [iv 10]) (r := []) rfl (Reps.nil)))
 refine O.buildSlice (E := 3) (C := C_int) (xs := [12, 9, 10]) (cs := [iv 12, iv 9, iv 10]) (us := [iv 12, iv 9, iv 10]) (parts := [(0, (.const (iv 12))), (1, (.const (iv 9))), (2, (.const (iv 10)))]) 37 hF hS rfl (by kernel_rfl) hr_47 rfl rfl rfl fun p_56 c_56 a w hF hS => ?_
 obtain ⟨Dv_81, hlev_79, hs_87, hS⟩ := hS.freezeC (C := C_SpareMachine) (i := 35) (xs := rv_54.Machines) rfl hr_45
 replace hG := hG.mono hlev_79
 replace hr_46 := hr_46.mono hlev_79
 replace hr_47 := hr_47.mono hlev_79
 obtain ⟨Dv_82, hlev_80, hs_88, hS⟩ := hS.freezeC (C := C_SpareTurn) (i := 36) (xs := rv_55) rfl hr_46
 replace hG := hG.mono hlev_80
 replace hr_47 := hr_47.mono hlev_80
 replace hs_87 := hs_87.mono hlev_80
 obtain ⟨Dv_83, hlev_81, hs_89, hS⟩ := hS.freezeC (C := C_int) (i := 37) (xs := [12, 9, 10]) rfl hr_47
 replace hG := hG.mono hlev_81
 replace hs_87 := hs_87.mono hlev_81
 replace hs_88 := hs_88.mono hlev_81
 replace h := bind_some h
 obtain ⟨rv_56, hx_71, h⟩ := h
 refine O.callS (us := [.agg #[iv rv_54.Hours, iv rv_54.Gap, .slice p_54 rv_54.Machines.length c_54], .slice p_55 rv_55.length c_55, .slice p_56 ([12, 9, 10]).length c_56]) ca_32 hF hS (spare_Silent_ok hS.stab rv_54 rv_55 ([12, 9, 10]) hs_87 hs_88 hs_89 rv_56 hx_71) rfl rfl fun v_42 Dv_84 a w hR_11 hlev_82 hF hS => ?_
 replace hG := hG.mono hlev_82
 obtain ⟨p_57, c_57, rfl, hs_90⟩ := hR_11
 refine step hF (Y.move hF rfl) rfl fun a hF => ?_
 refine step hF (Y.extract hF rfl rfl) rfl fun a hF => ?_
 refine step hF (Y.extract hF rfl rfl) rfl fun a hF => ?_
 refine step hF (Y.assign hF rfl) rfl fun a hF => ?_
 refine step hF (Y.assign hF rfl) rfl fun a hF => ?_
 refine nT ?_
 refine seq ?_
 refine region ?_
 replace h := bind_some h
 obtain ⟨rv_57, hx_72, h⟩ := h
 refine O.callM (us := [iv 22]) ca_46 hF (remontoirlaw08_store_keep hS.stab 22 rv_57 hx_72) rfl rfl fun v_43 Dv_85 a w hK_31 hlev_83 hF => ?_
 replace hG := hG.mono hlev_83
 obtain ⟨p_58, c_58, cs_42, hS2_31, rfl, hr_48⟩ := hK_31
 replace hS := hS.join hS2_31
 replace hS := hS.move 38 900 rfl (by decide)
 replace hS := hS.weak (ms := [(38, .own p_58 rv_57.Machines.length c_58 cs_42 52 5)]) ⟨rfl, trivial⟩
 obtain ⟨Dv_86, hlev_84, hs_92, hS⟩ := hS.freezeC (C := C_SpareMachine) (i := 38) (xs := rv_57.Machines) rfl hr_48
 replace hG := hG.mono hlev_84
 replace h := bind_some h
 obtain ⟨rv_58, hx_73, h⟩ := h
 refine O.callP (us := [.agg #[iv rv_57.Hours, iv rv_57.Gap, .slice p_58 rv_57.Machines.length c_58]]) ca_22 hF hS (spare_Fewest_ok hS.stab rv_57 hs_92 hG rv_58 hx_73) rfl rfl fun a w hF hS => ?_
 refine step hF (Y.move hF rfl) rfl fun a hF => ?_
 refine step hF (Y.extract hF rfl rfl) rfl fun a hF => ?_
 refine step hF (Y.extract hF rfl rfl) rfl fun a hF => ?_
 refine step hF (Y.assign hF rfl) rfl fun a hF => ?_
 refine step hF (Y.assign hF rfl) rfl fun a hF => ?_
 refine nT ?_
 refine seq_cut (fun a w => ∃ (g : Int) (rv_59 : Int), ∃ (Dv_87 : Stab), Dv_86.le Dv_87 ∧ Frm 445 [] [(0, .bool sv_1), (22, iv rv_47.2.2), (24, iv rv_49.2), (26, iv rv_51.2), (28, iv rv_53.2), (30, iv rv_56.2), (32, iv rv_58.2), (34, iv g), (41, iv rv_47.1), (42, iv rv_47.2.1), (43, iv rv_49.1), (44, iv rv_51.1), (45, .slice p_53 rv_53.1.length c_53), (46, .slice p_57 rv_56.1.length c_57), (47, iv rv_58.1), (48, iv rv_59)] a ∧ St w0 D0 Dv_87 [] w ∧ remontoirlaw08_SpareKnown_k3 rv_47 rv_49 rv_51 rv_53 rv_56 rv_58 g rv_59 = some out) ?_ ?_
 ·skip
  refine region ?_
  replace h := bind_some h
  obtain ⟨rv_61, hx_75, h⟩ := h
  refine O.callP (us := [iv 9, iv 9]) ca_39 hF hS (r0To_ok hS.stab 9 9 rv_61 hx_75) rfl rfl fun a w hF hS => ?_
  refine step hF (Y.build (parts := [(0, (.const (iv 1))), (2, (.tmp 373))]) (cs := #[iv 1, iv 0, iv rv_61.Low, iv rv_61.High, iv 0]) hF rfl (by kernel_rfl)) rfl fun a hF => ?_
  have hr_49 : Reps C_SpareMachine Dv_86 [(SpareMachine.mk 1 0 rv_61 0)] [iv 1, iv 0, iv rv_61.Low, iv rv_61.High, iv 0] := Reps.cons (C := C_SpareMachine) (x := (SpareMachine.mk 1 0 rv_61 0)) (c := [iv 1, iv 0, iv rv_61.Low, iv rv_61.High, iv 0]) (r := []) rfl (Reps.nil)
  refine O.buildSlice (E := 52) (C := C_SpareMachine) (xs := [(SpareMachine.mk 1 0 rv_61 0)]) (cs := [iv 1, iv 0, iv rv_61.Low, iv rv_61.High, iv 0]) (us := [.agg #[iv 1, iv 0, iv rv_61.Low, iv rv_61.High, iv 0]]) (parts := [(0, (.tmp 374))]) 39 hF hS rfl (by kernel_rfl) hr_49 rfl rfl rfl fun p_59 c_59 a w hF hS => ?_
  refine step hF (Y.build (parts := [(0, (.const (iv 1))), (2, (.tmp 375))]) (cs := #[iv 1, iv 0, .slice p_59 ([(SpareMachine.mk 1 0 rv_61 0)]).length c_59]) hF rfl (by kernel_rfl)) rfl fun a hF => ?_
  obtain ⟨Dv_88, hlev_86, hs_93, hS⟩ := hS.freezeC (C := C_SpareMachine) (i := 39) (xs := [(SpareMachine.mk 1 0 rv_61 0)]) rfl hr_49
  replace hG := hG.mono hlev_86
  replace h := bind_some h
  obtain ⟨rv_62, hx_76, h⟩ := h
  refine O.callP (us := [.agg #[iv 1, iv 0, .slice p_59 ([(SpareMachine.mk 1 0 rv_61 0)]).length c_59]]) ca_25 hF hS (spare_Reach_ok hS.stab (SpareStore.mk 1 0 ([(SpareMachine.mk 1 0 rv_61 0)])) hs_93 hG rv_62 hx_76) rfl rfl fun a w hF hS => ?_
  refine step hF (Y.move hF rfl) rfl fun a hF => ?_
  refine step hF (Y.extract hF rfl rfl) rfl fun a hF => ?_
  refine step hF (Y.extract hF rfl rfl) rfl fun a hF => ?_
  refine step hF (Y.assign hF rfl) rfl fun a hF => ?_
  refine step hF (Y.assign hF rfl) rfl fun a hF => ?_
  refine nT ?_
  exact ⟨rv_62.2, rv_62.1, Dv_88, hlev_86, hF.weak (AF rfl), hS.weak trivial, h⟩
 ·rintro a w ⟨g, rv_59, Dv_87, hlev_85, hF, hS, h⟩
  unfold remontoirlaw08_SpareKnown_k3 at h
  replace hG := hG.mono hlev_85
  refine seq ?_
  refine region ?_
  refine step hF (Y.move hF rfl) rfl fun a hF => ?_
  refine step hF (Y.eql hF rfl rfl) rfl fun a hF => ?_
  refine step hF (Y.move hF rfl) rfl fun a hF => ?_
  refine join (N := 445) (rs := []) (w0 := w0) (D0 := D0) 3 (us := [(0, .bool sv_1), (24, iv rv_49.2), (26, iv rv_51.2), (28, iv rv_53.2), (30, iv rv_56.2), (32, iv rv_58.2), (34, iv g), (42, iv rv_47.2.1), (43, iv rv_49.1), (44, iv rv_51.1), (45, .slice p_53 rv_53.1.length c_53), (46, .slice p_57 rv_56.1.length c_57), (47, iv rv_58.1), (48, iv rv_59), (385, .bool ((rv_47.2.2 == 0) && (rv_47.1 == 10)))]) (ms := []) (D' := Dv_87) ?_ ?_
  ·rcases bcases (rv_47.2.2 == 0) with hbv_23 | hbv_23
   ·-- true
    refine guard_on hF rfl rfl hbv_23 ?_
    refine step hF (Y.move hF rfl) rfl fun a hF => ?_
    refine guard_on hF rfl rfl hbv_23 ?_
    refine step hF (Y.eql hF rfl rfl) rfl fun a hF => ?_
    refine step hF (Y.pick_t hF rfl hbv_23 rfl) rfl fun a hF => ?_
    exact nT ⟨hF.weak ⟨rfl, rfl, rfl, rfl, rfl, rfl, rfl, rfl, rfl, rfl, rfl, rfl, rfl, rfl, (by rw [hbv_23]; rfl), trivial⟩, hS.weak trivial⟩
   ·-- false
    refine guard_off hF rfl rfl hbv_23 rfl fun a hF => ?_
    refine guard_off hF rfl rfl hbv_23 rfl fun a hF => ?_
    refine step hF (Y.pick_f hF rfl hbv_23 rfl) rfl fun a hF => ?_
    exact nT ⟨hF.weak ⟨rfl, rfl, rfl, rfl, rfl, rfl, rfl, rfl, rfl, rfl, rfl, rfl, rfl, rfl, (by rw [hbv_23]; rfl), trivial⟩, hS.weak trivial⟩
  intro a w hF hS
  refine step hF (Y.move hF rfl) rfl fun a hF => ?_
  refine join (N := 445) (rs := []) (w0 := w0) (D0 := D0) 3 (us := [(0, .bool sv_1), (24, iv rv_49.2), (26, iv rv_51.2), (28, iv rv_53.2), (30, iv rv_56.2), (32, iv rv_58.2), (34, iv g), (43, iv rv_49.1), (44, iv rv_51.1), (45, .slice p_53 rv_53.1.length c_53), (46, .slice p_57 rv_56.1.length c_57), (47, iv rv_58.1), (48, iv rv_59), (389, .bool (((rv_47.2.2 == 0) && (rv_47.1 == 10)) && (rv_47.2.1 == 10)))]) (ms := []) (D' := Dv_87) ?_ ?_
  ·rcases bcases ((rv_47.2.2 == 0) && (rv_47.1 == 10)) with hbv_24 | hbv_24
   ·-- true
    refine guard_on hF rfl rfl hbv_24 ?_
    refine step hF (Y.move hF rfl) rfl fun a hF => ?_
    refine guard_on hF rfl rfl hbv_24 ?_
    refine step hF (Y.eql hF rfl rfl) rfl fun a hF => ?_
    refine step hF (Y.pick_t hF rfl hbv_24 rfl) rfl fun a hF => ?_
    exact nT ⟨hF.weak ⟨rfl, rfl, rfl, rfl, rfl, rfl, rfl, rfl, rfl, rfl, rfl, rfl, rfl, (by rw [hbv_24]; rfl), trivial⟩, hS.weak trivial⟩
   ·-- false
    refine guard_off hF rfl rfl hbv_24 rfl fun a hF => ?_
    refine guard_off hF rfl rfl hbv_24 rfl fun a hF => ?_
    refine step hF (Y.pick_f hF rfl hbv_24 rfl) rfl fun a hF => ?_
    exact nT ⟨hF.weak ⟨rfl, rfl, rfl, rfl, rfl, rfl, rfl, rfl, rfl, rfl, rfl, rfl, rfl, (by rw [hbv_24]; rfl), trivial⟩, hS.weak trivial⟩
  intro a w hF hS
  refine step hF (Y.move hF rfl) rfl fun a hF => ?_
  refine join (N := 445) (rs := []) (w0 := w0) (D0 := D0) 3 (us := [(0, .bool sv_1), (26, iv rv_51.2), (28, iv rv_53.2), (30, iv rv_56.2), (32, iv rv_58.2), (34, iv g), (43, iv rv_49.1), (44, iv rv_51.1), (45, .slice p_53 rv_53.1.length c_53), (46, .slice p_57 rv_56.1.length c_57), (47, iv rv_58.1), (48, iv rv_59), (393, .bool ((((rv_47.2.2 == 0) && (rv_47.1 == 10)) && (rv_47.2.1 == 10)) && (rv_49.2 == 0)))]) (ms := []) (D' := Dv_87) ?_ ?_
  ·rcases bcases (((rv_47.2.2 == 0) && (rv_47.1 == 10)) && (rv_47.2.1 == 10)) with hbv_25 | hbv_25
   ·-- true
    refine guard_on hF rfl rfl hbv_25 ?_
    refine step hF (Y.move hF rfl) rfl fun a hF => ?_
    refine guard_on hF rfl rfl hbv_25 ?_
    refine step hF (Y.eql hF rfl rfl) rfl fun a hF => ?_
    refine step hF (Y.pick_t hF rfl hbv_25 rfl) rfl fun a hF => ?_
    exact nT ⟨hF.weak ⟨rfl, rfl, rfl, rfl, rfl, rfl, rfl, rfl, rfl, rfl, rfl, rfl, (by rw [hbv_25]; rfl), trivial⟩, hS.weak trivial⟩
   ·-- false
    refine guard_off hF rfl rfl hbv_25 rfl fun a hF => ?_
    refine guard_off hF rfl rfl hbv_25 rfl fun a hF => ?_
    refine step hF (Y.pick_f hF rfl hbv_25 rfl) rfl fun a hF => ?_
    exact nT ⟨hF.weak ⟨rfl, rfl, rfl, rfl, rfl, rfl, rfl, rfl, rfl, rfl, rfl, rfl, (by rw [hbv_25]; rfl), trivial⟩, hS.weak trivial⟩
  intro a w hF hS
  refine step hF (Y.move hF rfl) rfl fun a hF => ?_
  refine join (N := 445) (rs := []) (w0 := w0) (D0 := D0) 3 (us := [(0, .bool sv_1), (26, iv rv_51.2), (28, iv rv_53.2), (30, iv rv_56.2), (32, iv rv_58.2), (34, iv g), (44, iv rv_51.1), (45, .slice p_53 rv_53.1.length c_53), (46, .slice p_57 rv_56.1.length c_57), (47, iv rv_58.1), (48, iv rv_59), (397, .bool (((((rv_47.2.2 == 0) && (rv_47.1 == 10)) && (rv_47.2.1 == 10)) && (rv_49.2 == 0)) && (rv_49.1 == 2)))]) (ms := []) (D' := Dv_87) ?_ ?_
  ·rcases bcases ((((rv_47.2.2 == 0) && (rv_47.1 == 10)) && (rv_47.2.1 == 10)) && (rv_49.2 == 0)) with hbv_26 | hbv_26
   ·-- true
    refine guard_on hF rfl rfl hbv_26 ?_
    refine step hF (Y.move hF rfl) rfl fun a hF => ?_
    refine guard_on hF rfl rfl hbv_26 ?_
    refine step hF (Y.eql hF rfl rfl) rfl fun a hF => ?_
    refine step hF (Y.pick_t hF rfl hbv_26 rfl) rfl fun a hF => ?_
    exact nT ⟨hF.weak ⟨rfl, rfl, rfl, rfl, rfl, rfl, rfl, rfl, rfl, rfl, rfl, (by rw [hbv_26]; rfl), trivial⟩, hS.weak trivial⟩
   ·-- false
    refine guard_off hF rfl rfl hbv_26 rfl fun a hF => ?_
    refine guard_off hF rfl rfl hbv_26 rfl fun a hF => ?_
    refine step hF (Y.pick_f hF rfl hbv_26 rfl) rfl fun a hF => ?_
    exact nT ⟨hF.weak ⟨rfl, rfl, rfl, rfl, rfl, rfl, rfl, rfl, rfl, rfl, rfl, (by rw [hbv_26]; rfl), trivial⟩, hS.weak trivial⟩
  intro a w hF hS
  refine step hF (Y.move hF rfl) rfl fun a hF => ?_
  refine join (N := 445) (rs := []) (w0 := w0) (D0 := D0) 3 (us := [(0, .bool sv_1), (28, iv rv_53.2), (30, iv rv_56.2), (32, iv rv_58.2), (34, iv g), (44, iv rv_51.1), (45, .slice p_53 rv_53.1.length c_53), (46, .slice p_57 rv_56.1.length c_57), (47, iv rv_58.1), (48, iv rv_59), (401, .bool ((((((rv_47.2.2 == 0) && (rv_47.1 == 10)) && (rv_47.2.1 == 10)) && (rv_49.2 == 0)) && (rv_49.1 == 2)) && (rv_51.2 == 0)))]) (ms := []) (D' := Dv_87) ?_ ?_
  ·rcases bcases (((((rv_47.2.2 == 0) && (rv_47.1 == 10)) && (rv_47.2.1 == 10)) && (rv_49.2 == 0)) && (rv_49.1 == 2)) with hbv_27 | hbv_27
   ·-- true
    refine guard_on hF rfl rfl hbv_27 ?_
    refine step hF (Y.move hF rfl) rfl fun a hF => ?_
    refine guard_on hF rfl rfl hbv_27 ?_
    refine step hF (Y.eql hF rfl rfl) rfl fun a hF => ?_
    refine step hF (Y.pick_t hF rfl hbv_27 rfl) rfl fun a hF => ?_
    exact nT ⟨hF.weak ⟨rfl, rfl, rfl, rfl, rfl, rfl, rfl, rfl, rfl, rfl, (by rw [hbv_27]; rfl), trivial⟩, hS.weak trivial⟩
   ·-- false
    refine guard_off hF rfl rfl hbv_27 rfl fun a hF => ?_
    refine guard_off hF rfl rfl hbv_27 rfl fun a hF => ?_
    refine step hF (Y.pick_f hF rfl hbv_27 rfl) rfl fun a hF => ?_
    exact nT ⟨hF.weak ⟨rfl, rfl, rfl, rfl, rfl, rfl, rfl, rfl, rfl, rfl, (by rw [hbv_27]; rfl), trivial⟩, hS.weak trivial⟩
  intro a w hF hS
  refine step hF (Y.move hF rfl) rfl fun a hF => ?_
  refine join (N := 445) (rs := []) (w0 := w0) (D0 := D0) 3 (us := [(0, .bool sv_1), (28, iv rv_53.2), (30, iv rv_56.2), (32, iv rv_58.2), (34, iv g), (45, .slice p_53 rv_53.1.length c_53), (46, .slice p_57 rv_56.1.length c_57), (47, iv rv_58.1), (48, iv rv_59), (405, .bool (((((((rv_47.2.2 == 0) && (rv_47.1 == 10)) && (rv_47.2.1 == 10)) && (rv_49.2 == 0)) && (rv_49.1 == 2)) && (rv_51.2 == 0)) && (rv_51.1 == 1)))]) (ms := []) (D' := Dv_87) ?_ ?_
  ·rcases bcases ((((((rv_47.2.2 == 0) && (rv_47.1 == 10)) && (rv_47.2.1 == 10)) && (rv_49.2 == 0)) && (rv_49.1 == 2)) && (rv_51.2 == 0)) with hbv_28 | hbv_28
   ·-- true
    refine guard_on hF rfl rfl hbv_28 ?_
    refine step hF (Y.move hF rfl) rfl fun a hF => ?_
    refine guard_on hF rfl rfl hbv_28 ?_
    refine step hF (Y.eql hF rfl rfl) rfl fun a hF => ?_
    refine step hF (Y.pick_t hF rfl hbv_28 rfl) rfl fun a hF => ?_
    exact nT ⟨hF.weak ⟨rfl, rfl, rfl, rfl, rfl, rfl, rfl, rfl, rfl, (by rw [hbv_28]; rfl), trivial⟩, hS.weak trivial⟩
   ·-- false
    refine guard_off hF rfl rfl hbv_28 rfl fun a hF => ?_
    refine guard_off hF rfl rfl hbv_28 rfl fun a hF => ?_
    refine step hF (Y.pick_f hF rfl hbv_28 rfl) rfl fun a hF => ?_
    exact nT ⟨hF.weak ⟨rfl, rfl, rfl, rfl, rfl, rfl, rfl, rfl, rfl, (by rw [hbv_28]; rfl), trivial⟩, hS.weak trivial⟩
  intro a w hF hS
  refine step hF (Y.move hF rfl) rfl fun a hF => ?_
  refine join (N := 445) (rs := []) (w0 := w0) (D0 := D0) 3 (us := [(0, .bool sv_1), (30, iv rv_56.2), (32, iv rv_58.2), (34, iv g), (45, .slice p_53 rv_53.1.length c_53), (46, .slice p_57 rv_56.1.length c_57), (47, iv rv_58.1), (48, iv rv_59), (409, .bool ((((((((rv_47.2.2 == 0) && (rv_47.1 == 10)) && (rv_47.2.1 == 10)) && (rv_49.2 == 0)) && (rv_49.1 == 2)) && (rv_51.2 == 0)) && (rv_51.1 == 1)) && (rv_53.2 == 0)))]) (ms := []) (D' := Dv_87) ?_ ?_
  ·rcases bcases (((((((rv_47.2.2 == 0) && (rv_47.1 == 10)) && (rv_47.2.1 == 10)) && (rv_49.2 == 0)) && (rv_49.1 == 2)) && (rv_51.2 == 0)) && (rv_51.1 == 1)) with hbv_29 | hbv_29
   ·-- true
    refine guard_on hF rfl rfl hbv_29 ?_
    refine step hF (Y.move hF rfl) rfl fun a hF => ?_
    refine guard_on hF rfl rfl hbv_29 ?_
    refine step hF (Y.eql hF rfl rfl) rfl fun a hF => ?_
    refine step hF (Y.pick_t hF rfl hbv_29 rfl) rfl fun a hF => ?_
    exact nT ⟨hF.weak ⟨rfl, rfl, rfl, rfl, rfl, rfl, rfl, rfl, (by rw [hbv_29]; rfl), trivial⟩, hS.weak trivial⟩
   ·-- false
    refine guard_off hF rfl rfl hbv_29 rfl fun a hF => ?_
    refine guard_off hF rfl rfl hbv_29 rfl fun a hF => ?_
    refine step hF (Y.pick_f hF rfl hbv_29 rfl) rfl fun a hF => ?_
    exact nT ⟨hF.weak ⟨rfl, rfl, rfl, rfl, rfl, rfl, rfl, rfl, (by rw [hbv_29]; rfl), trivial⟩, hS.weak trivial⟩
  intro a w hF hS
  refine step hF (Y.move hF rfl) rfl fun a hF => ?_
  refine join (N := 445) (rs := []) (w0 := w0) (D0 := D0) 4 (us := [(0, .bool sv_1), (30, iv rv_56.2), (32, iv rv_58.2), (34, iv g), (46, .slice p_57 rv_56.1.length c_57), (47, iv rv_58.1), (48, iv rv_59), (414, .bool (((((((((rv_47.2.2 == 0) && (rv_47.1 == 10)) && (rv_47.2.1 == 10)) && (rv_49.2 == 0)) && (rv_49.1 == 2)) && (rv_51.2 == 0)) && (rv_51.1 == 1)) && (rv_53.2 == 0)) && ((rv_53.1.length : Int) == 0)))]) (ms := []) (D' := Dv_87) ?_ ?_
  ·rcases bcases ((((((((rv_47.2.2 == 0) && (rv_47.1 == 10)) && (rv_47.2.1 == 10)) && (rv_49.2 == 0)) && (rv_49.1 == 2)) && (rv_51.2 == 0)) && (rv_51.1 == 1)) && (rv_53.2 == 0)) with hbv_30 | hbv_30
   ·-- true
    refine guard_on hF rfl rfl hbv_30 ?_
    refine step hF (Y.move hF rfl) rfl fun a hF => ?_
    refine guard_on hF rfl rfl hbv_30 ?_
    refine step hF (Y.lenSl u_39 hF rfl) rfl fun a hF => ?_
    refine guard_on hF rfl rfl hbv_30 ?_
    refine step hF (Y.eql hF rfl rfl) rfl fun a hF => ?_
    refine step hF (Y.pick_t hF rfl hbv_30 rfl) rfl fun a hF => ?_
    exact nT ⟨hF.weak ⟨rfl, rfl, rfl, rfl, rfl, rfl, rfl, (by rw [hbv_30]; rfl), trivial⟩, hS.weak trivial⟩
   ·-- false
    refine guard_off hF rfl rfl hbv_30 rfl fun a hF => ?_
    refine guard_off hF rfl rfl hbv_30 rfl fun a hF => ?_
    refine guard_off hF rfl rfl hbv_30 rfl fun a hF => ?_
    refine step hF (Y.pick_f hF rfl hbv_30 rfl) rfl fun a hF => ?_
    exact nT ⟨hF.weak ⟨rfl, rfl, rfl, rfl, rfl, rfl, rfl, (by rw [hbv_30]; rfl), trivial⟩, hS.weak trivial⟩
  intro a w hF hS
  refine step hF (Y.move hF rfl) rfl fun a hF => ?_
  refine join (N := 445) (rs := []) (w0 := w0) (D0 := D0) 3 (us := [(0, .bool sv_1), (32, iv rv_58.2), (34, iv g), (46, .slice p_57 rv_56.1.length c_57), (47, iv rv_58.1), (48, iv rv_59), (418, .bool ((((((((((rv_47.2.2 == 0) && (rv_47.1 == 10)) && (rv_47.2.1 == 10)) && (rv_49.2 == 0)) && (rv_49.1 == 2)) && (rv_51.2 == 0)) && (rv_51.1 == 1)) && (rv_53.2 == 0)) && ((rv_53.1.length : Int) == 0)) && (rv_56.2 == 0)))]) (ms := []) (D' := Dv_87) ?_ ?_
  ·rcases bcases (((((((((rv_47.2.2 == 0) && (rv_47.1 == 10)) && (rv_47.2.1 == 10)) && (rv_49.2 == 0)) && (rv_49.1 == 2)) && (rv_51.2 == 0)) && (rv_51.1 == 1)) && (rv_53.2 == 0)) && ((rv_53.1.length : Int) == 0)) with hbv_31 | hbv_31
   ·-- true
    refine guard_on hF rfl rfl hbv_31 ?_
    refine step hF (Y.move hF rfl) rfl fun a hF => ?_
    refine guard_on hF rfl rfl hbv_31 ?_
    refine step hF (Y.eql hF rfl rfl) rfl fun a hF => ?_
    refine step hF (Y.pick_t hF rfl hbv_31 rfl) rfl fun a hF => ?_
    exact nT ⟨hF.weak ⟨rfl, rfl, rfl, rfl, rfl, rfl, (by rw [hbv_31]; rfl), trivial⟩, hS.weak trivial⟩
   ·-- false
    refine guard_off hF rfl rfl hbv_31 rfl fun a hF => ?_
    refine guard_off hF rfl rfl hbv_31 rfl fun a hF => ?_
    refine step hF (Y.pick_f hF rfl hbv_31 rfl) rfl fun a hF => ?_
    exact nT ⟨hF.weak ⟨rfl, rfl, rfl, rfl, rfl, rfl, (by rw [hbv_31]; rfl), trivial⟩, hS.weak trivial⟩
  intro a w hF hS
  refine step hF (Y.move hF rfl) rfl fun a hF => ?_
  refine join (N := 445) (rs := []) (w0 := w0) (D0 := D0) 4 (us := [(0, .bool sv_1), (32, iv rv_58.2), (34, iv g), (47, iv rv_58.1), (48, iv rv_59), (423, .bool (((((((((((rv_47.2.2 == 0) && (rv_47.1 == 10)) && (rv_47.2.1 == 10)) && (rv_49.2 == 0)) && (rv_49.1 == 2)) && (rv_51.2 == 0)) && (rv_51.1 == 1)) && (rv_53.2 == 0)) && ((rv_53.1.length : Int) == 0)) && (rv_56.2 == 0)) && ((rv_56.1.length : Int) == 0)))]) (ms := []) (D' := Dv_87) ?_ ?_
  ·rcases bcases ((((((((((rv_47.2.2 == 0) && (rv_47.1 == 10)) && (rv_47.2.1 == 10)) && (rv_49.2 == 0)) && (rv_49.1 == 2)) && (rv_51.2 == 0)) && (rv_51.1 == 1)) && (rv_53.2 == 0)) && ((rv_53.1.length : Int) == 0)) && (rv_56.2 == 0)) with hbv_32 | hbv_32
   ·-- true
    refine guard_on hF rfl rfl hbv_32 ?_
    refine step hF (Y.move hF rfl) rfl fun a hF => ?_
    refine guard_on hF rfl rfl hbv_32 ?_
    refine step hF (Y.lenSl u_39 hF rfl) rfl fun a hF => ?_
    refine guard_on hF rfl rfl hbv_32 ?_
    refine step hF (Y.eql hF rfl rfl) rfl fun a hF => ?_
    refine step hF (Y.pick_t hF rfl hbv_32 rfl) rfl fun a hF => ?_
    exact nT ⟨hF.weak ⟨rfl, rfl, rfl, rfl, rfl, (by rw [hbv_32]; rfl), trivial⟩, hS.weak trivial⟩
   ·-- false
    refine guard_off hF rfl rfl hbv_32 rfl fun a hF => ?_
    refine guard_off hF rfl rfl hbv_32 rfl fun a hF => ?_
    refine guard_off hF rfl rfl hbv_32 rfl fun a hF => ?_
    refine step hF (Y.pick_f hF rfl hbv_32 rfl) rfl fun a hF => ?_
    exact nT ⟨hF.weak ⟨rfl, rfl, rfl, rfl, rfl, (by rw [hbv_32]; rfl), trivial⟩, hS.weak trivial⟩
  intro a w hF hS
  refine step hF (Y.move hF rfl) rfl fun a hF => ?_
  refine join (N := 445) (rs := []) (w0 := w0) (D0 := D0) 3 (us := [(0, .bool sv_1), (34, iv g), (47, iv rv_58.1), (48, iv rv_59), (427, .bool ((((((((((((rv_47.2.2 == 0) && (rv_47.1 == 10)) && (rv_47.2.1 == 10)) && (rv_49.2 == 0)) && (rv_49.1 == 2)) && (rv_51.2 == 0)) && (rv_51.1 == 1)) && (rv_53.2 == 0)) && ((rv_53.1.length : Int) == 0)) && (rv_56.2 == 0)) && ((rv_56.1.length : Int) == 0)) && (rv_58.2 == 0)))]) (ms := []) (D' := Dv_87) ?_ ?_
  ·rcases bcases (((((((((((rv_47.2.2 == 0) && (rv_47.1 == 10)) && (rv_47.2.1 == 10)) && (rv_49.2 == 0)) && (rv_49.1 == 2)) && (rv_51.2 == 0)) && (rv_51.1 == 1)) && (rv_53.2 == 0)) && ((rv_53.1.length : Int) == 0)) && (rv_56.2 == 0)) && ((rv_56.1.length : Int) == 0)) with hbv_33 | hbv_33
   ·-- true
    refine guard_on hF rfl rfl hbv_33 ?_
    refine step hF (Y.move hF rfl) rfl fun a hF => ?_
    refine guard_on hF rfl rfl hbv_33 ?_
    refine step hF (Y.eql hF rfl rfl) rfl fun a hF => ?_
    refine step hF (Y.pick_t hF rfl hbv_33 rfl) rfl fun a hF => ?_
    exact nT ⟨hF.weak ⟨rfl, rfl, rfl, rfl, (by rw [hbv_33]; rfl), trivial⟩, hS.weak trivial⟩
   ·-- false
    refine guard_off hF rfl rfl hbv_33 rfl fun a hF => ?_
    refine guard_off hF rfl rfl hbv_33 rfl fun a hF => ?_
    refine step hF (Y.pick_f hF rfl hbv_33 rfl) rfl fun a hF => ?_
    exact nT ⟨hF.weak ⟨rfl, rfl, rfl, rfl, (by rw [hbv_33]; rfl), trivial⟩, hS.weak trivial⟩
  intro a w hF hS
  refine step hF (Y.move hF rfl) rfl fun a hF => ?_
  refine join (N := 445) (rs := []) (w0 := w0) (D0 := D0) 3 (us := [(0, .bool sv_1), (34, iv g), (48, iv rv_59), (431, .bool (((((((((((((rv_47.2.2 == 0) && (rv_47.1 == 10)) && (rv_47.2.1 == 10)) && (rv_49.2 == 0)) && (rv_49.1 == 2)) && (rv_51.2 == 0)) && (rv_51.1 == 1)) && (rv_53.2 == 0)) && ((rv_53.1.length : Int) == 0)) && (rv_56.2 == 0)) && ((rv_56.1.length : Int) == 0)) && (rv_58.2 == 0)) && (rv_58.1 == 3)))]) (ms := []) (D' := Dv_87) ?_ ?_
  ·rcases bcases ((((((((((((rv_47.2.2 == 0) && (rv_47.1 == 10)) && (rv_47.2.1 == 10)) && (rv_49.2 == 0)) && (rv_49.1 == 2)) && (rv_51.2 == 0)) && (rv_51.1 == 1)) && (rv_53.2 == 0)) && ((rv_53.1.length : Int) == 0)) && (rv_56.2 == 0)) && ((rv_56.1.length : Int) == 0)) && (rv_58.2 == 0)) with hbv_34 | hbv_34
   ·-- true
    refine guard_on hF rfl rfl hbv_34 ?_
    refine step hF (Y.move hF rfl) rfl fun a hF => ?_
    refine guard_on hF rfl rfl hbv_34 ?_
    refine step hF (Y.eql hF rfl rfl) rfl fun a hF => ?_
    refine step hF (Y.pick_t hF rfl hbv_34 rfl) rfl fun a hF => ?_
    exact nT ⟨hF.weak ⟨rfl, rfl, rfl, (by rw [hbv_34]; rfl), trivial⟩, hS.weak trivial⟩
   ·-- false
    refine guard_off hF rfl rfl hbv_34 rfl fun a hF => ?_
    refine guard_off hF rfl rfl hbv_34 rfl fun a hF => ?_
    refine step hF (Y.pick_f hF rfl hbv_34 rfl) rfl fun a hF => ?_
    exact nT ⟨hF.weak ⟨rfl, rfl, rfl, (by rw [hbv_34]; rfl), trivial⟩, hS.weak trivial⟩
  intro a w hF hS
  refine step hF (Y.move hF rfl) rfl fun a hF => ?_
  refine join (N := 445) (rs := []) (w0 := w0) (D0 := D0) 3 (us := [(0, .bool sv_1), (48, iv rv_59), (435, .bool ((((((((((((((rv_47.2.2 == 0) && (rv_47.1 == 10)) && (rv_47.2.1 == 10)) && (rv_49.2 == 0)) && (rv_49.1 == 2)) && (rv_51.2 == 0)) && (rv_51.1 == 1)) && (rv_53.2 == 0)) && ((rv_53.1.length : Int) == 0)) && (rv_56.2 == 0)) && ((rv_56.1.length : Int) == 0)) && (rv_58.2 == 0)) && (rv_58.1 == 3)) && (g == 0)))]) (ms := []) (D' := Dv_87) ?_ ?_
  ·rcases bcases (((((((((((((rv_47.2.2 == 0) && (rv_47.1 == 10)) && (rv_47.2.1 == 10)) && (rv_49.2 == 0)) && (rv_49.1 == 2)) && (rv_51.2 == 0)) && (rv_51.1 == 1)) && (rv_53.2 == 0)) && ((rv_53.1.length : Int) == 0)) && (rv_56.2 == 0)) && ((rv_56.1.length : Int) == 0)) && (rv_58.2 == 0)) && (rv_58.1 == 3)) with hbv_35 | hbv_35
   ·-- true
    refine guard_on hF rfl rfl hbv_35 ?_
    refine step hF (Y.move hF rfl) rfl fun a hF => ?_
    refine guard_on hF rfl rfl hbv_35 ?_
    refine step hF (Y.eql hF rfl rfl) rfl fun a hF => ?_
    refine step hF (Y.pick_t hF rfl hbv_35 rfl) rfl fun a hF => ?_
    exact nT ⟨hF.weak ⟨rfl, rfl, (by rw [hbv_35]; rfl), trivial⟩, hS.weak trivial⟩
   ·-- false
    refine guard_off hF rfl rfl hbv_35 rfl fun a hF => ?_
    refine guard_off hF rfl rfl hbv_35 rfl fun a hF => ?_
    refine step hF (Y.pick_f hF rfl hbv_35 rfl) rfl fun a hF => ?_
    exact nT ⟨hF.weak ⟨rfl, rfl, (by rw [hbv_35]; rfl), trivial⟩, hS.weak trivial⟩
  intro a w hF hS
  refine step hF (Y.move hF rfl) rfl fun a hF => ?_
  refine join (N := 445) (rs := []) (w0 := w0) (D0 := D0) 3 (us := [(0, .bool sv_1), (439, .bool (((((((((((((((rv_47.2.2 == 0) && (rv_47.1 == 10)) && (rv_47.2.1 == 10)) && (rv_49.2 == 0)) && (rv_49.1 == 2)) && (rv_51.2 == 0)) && (rv_51.1 == 1)) && (rv_53.2 == 0)) && ((rv_53.1.length : Int) == 0)) && (rv_56.2 == 0)) && ((rv_56.1.length : Int) == 0)) && (rv_58.2 == 0)) && (rv_58.1 == 3)) && (g == 0)) && (rv_59 == 0)))]) (ms := []) (D' := Dv_87) ?_ ?_
  ·rcases bcases ((((((((((((((rv_47.2.2 == 0) && (rv_47.1 == 10)) && (rv_47.2.1 == 10)) && (rv_49.2 == 0)) && (rv_49.1 == 2)) && (rv_51.2 == 0)) && (rv_51.1 == 1)) && (rv_53.2 == 0)) && ((rv_53.1.length : Int) == 0)) && (rv_56.2 == 0)) && ((rv_56.1.length : Int) == 0)) && (rv_58.2 == 0)) && (rv_58.1 == 3)) && (g == 0)) with hbv_36 | hbv_36
   ·-- true
    refine guard_on hF rfl rfl hbv_36 ?_
    refine step hF (Y.move hF rfl) rfl fun a hF => ?_
    refine guard_on hF rfl rfl hbv_36 ?_
    refine step hF (Y.eql hF rfl rfl) rfl fun a hF => ?_
    refine step hF (Y.pick_t hF rfl hbv_36 rfl) rfl fun a hF => ?_
    exact nT ⟨hF.weak ⟨rfl, (by rw [hbv_36]; rfl), trivial⟩, hS.weak trivial⟩
   ·-- false
    refine guard_off hF rfl rfl hbv_36 rfl fun a hF => ?_
    refine guard_off hF rfl rfl hbv_36 rfl fun a hF => ?_
    refine step hF (Y.pick_f hF rfl hbv_36 rfl) rfl fun a hF => ?_
    exact nT ⟨hF.weak ⟨rfl, (by rw [hbv_36]; rfl), trivial⟩, hS.weak trivial⟩
  intro a w hF hS
  refine step hF (Y.move hF rfl) rfl fun a hF => ?_
  refine step hF (Y.pickTF hF rfl) rfl fun a hF => ?_
  refine step hF (Y.move hF rfl) rfl fun a hF => ?_
  replace h := bind_some h
  obtain ⟨t, ht, h⟩ := h
  refine join (N := 445) (rs := []) (w0 := w0) (D0 := D0) 2 (us := [(0, .bool sv_1), (444, .bool t)]) (ms := []) (D' := Dv_87) ?_ ?_
  ·rcases bcases (((((((((((((((rv_47.2.2 == 0) && (rv_47.1 == 10)) && (rv_47.2.1 == 10)) && (rv_49.2 == 0)) && (rv_49.1 == 2)) && (rv_51.2 == 0)) && (rv_51.1 == 1)) && (rv_53.2 == 0)) && ((rv_53.1.length : Int) == 0)) && (rv_56.2 == 0)) && ((rv_56.1.length : Int) == 0)) && (rv_58.2 == 0)) && (rv_58.1 == 3)) && (g == 0)) && (rv_59 == 0)) with hbv_37 | hbv_37
   ·-- true
    replace h := cond_t ht hbv_37
    refine guard_on hF rfl rfl hbv_37 ?_
    replace h := bind_some h
    obtain ⟨rv_60, hx_74, h⟩ := h
    refine O.callP (us := []) ca_21 hF hS (remontoirlaw08_works_ok hS.stab hG rv_60 hx_74) rfl rfl fun a w hF hS => ?_
    refine step hF (Y.pick_t hF rfl hbv_37 rfl) rfl fun a hF => ?_
    obtain rfl := some_inj h
    exact nT ⟨hF.weak ⟨rfl, rfl, trivial⟩, hS.weak trivial⟩
   ·-- false
    replace h := cond_f ht hbv_37
    refine guard_off hF rfl rfl hbv_37 rfl fun a hF => ?_
    refine step hF (Y.pick_f hF rfl hbv_37 rfl) rfl fun a hF => ?_
    obtain rfl := some_inj h
    exact nT ⟨hF.weak ⟨rfl, rfl, trivial⟩, hS.weak trivial⟩
  intro a w hF hS
  refine step hF (Y.assign hF rfl) rfl fun a hF => ?_
  refine nT ?_
  refine ret_ ?_
  obtain rfl := some_inj h
  exact leaveP Tryd.results14 hF hS (.cons (.tmp rfl) .nil) .nil rfl
theorem remontoirlaw08_SpareKnown_s1_ok {w0 : World} {D0 : Stab} (sv : Bool) {Dv_21 : Stab} (hle0_ : D0.le Dv_21) (hG : Glob Dv_21) (out : Bool) (h : remontoirlaw08_SpareKnown_s1 sv = some out) {a : Act} {w : World} (hF : Frm 445 [] [(0, .bool sv)] a) (hS : St w0 D0 Dv_21 [] w) : WP none Tryd.prog (dropSeq 9 (Tryd.f14.body.getD .skip)) (base Tryd.prog Tryd.f14 (RetP D0 w0 (.bool out))) a w := by
 unfold remontoirlaw08_SpareKnown_s1 at h
 refine seq ?_
 refine region ?_
 replace h := bind_some h
 obtain ⟨rv_19, hx_26, h⟩ := h
 refine O.callM (us := [iv 20]) ca_46 hF (remontoirlaw08_store_keep hS.stab 20 rv_19 hx_26) rfl rfl fun v_11 Dv_22 a w hK_8 hlev_21 hF => ?_
 replace hG := hG.mono hlev_21
 obtain ⟨p_20, c_20, cs_13, hS2_8, rfl, hr_14⟩ := hK_8
 replace hS := hS.join hS2_8
 replace hS := hS.move 10 900 rfl (by decide)
 replace hS := hS.weak (ms := [(10, .own p_20 rv_19.Machines.length c_20 cs_13 52 5)]) ⟨rfl, trivial⟩
 obtain ⟨Dv_23, hlev_22, hs_30, hS⟩ := hS.freezeC (C := C_SpareMachine) (i := 10) (xs := rv_19.Machines) rfl hr_14
 replace hG := hG.mono hlev_22
 replace h := bind_some h
 obtain ⟨rv_20, hx_27, h⟩ := h
 refine O.callP (us := [.agg #[iv rv_19.Hours, iv rv_19.Gap, .slice p_20 rv_19.Machines.length c_20], iv 3]) ca_15 hF hS (spare_Lasts_ok hS.stab rv_19 3 hs_30 hG rv_20 hx_27) rfl rfl fun a w hF hS => ?_
 refine step hF (Y.move hF rfl) rfl fun a hF => ?_
 refine step hF (Y.extract hF rfl rfl) rfl fun a hF => ?_
 refine step hF (Y.extract hF rfl rfl) rfl fun a hF => ?_
 refine step hF (Y.extract hF rfl rfl) rfl fun a hF => ?_
 refine step hF (Y.assign hF rfl) rfl fun a hF => ?_
 refine step hF (Y.assign hF rfl) rfl fun a hF => ?_
 refine step hF (Y.assign hF rfl) rfl fun a hF => ?_
 refine nT ?_
 refine seq ?_
 refine region ?_
 replace h := bind_some h
 obtain ⟨rv_21, hx_28, h⟩ := h
 refine O.callM (us := [iv 20]) ca_46 hF (remontoirlaw08_store_keep hS.stab 20 rv_21 hx_28) rfl rfl fun v_12 Dv_24 a w hK_9 hlev_23 hF => ?_
 replace hG := hG.mono hlev_23
 obtain ⟨p_21, c_21, cs_14, hS2_9, rfl, hr_15⟩ := hK_9
 replace hS := hS.join hS2_9
 replace hS := hS.move 11 900 rfl (by decide)
 replace hS := hS.weak (ms := [(11, .own p_21 rv_21.Machines.length c_21 cs_14 52 5)]) ⟨rfl, trivial⟩
 obtain ⟨Dv_25, hlev_24, hs_32, hS⟩ := hS.freezeC (C := C_SpareMachine) (i := 11) (xs := rv_21.Machines) rfl hr_15
 replace hG := hG.mono hlev_24
 replace h := bind_some h
 obtain ⟨rv_22, hx_29, h⟩ := h
 refine O.callS (us := [.agg #[iv rv_21.Hours, iv rv_21.Gap, .slice p_21 rv_21.Machines.length c_21], .slice none 0 0, .slice none 0 0]) ca_32 hF hS (spare_Silent_ok hS.stab rv_21 ([] : List SpareTurn) ([] : List Int) hs_32 SRc.nil SRc.nil rv_22 hx_29) rfl rfl fun v_13 Dv_26 a w hR_3 hlev_25 hF hS => ?_
 replace hG := hG.mono hlev_25
 obtain ⟨p_22, c_22, rfl, hs_33⟩ := hR_3
 refine step hF (Y.move hF rfl) rfl fun a hF => ?_
 refine step hF (Y.extract hF rfl rfl) rfl fun a hF => ?_
 refine step hF (Y.extract hF rfl rfl) rfl fun a hF => ?_
 refine step hF (Y.assign hF rfl) rfl fun a hF => ?_
 refine step hF (Y.assign hF rfl) rfl fun a hF => ?_
 refine nT ?_
 refine seq ?_
 refine region ?_
 replace h := bind_some h
 obtain ⟨rv_23, hx_30, h⟩ := h
 refine O.callM (us := [iv 20]) ca_46 hF (remontoirlaw08_store_keep hS.stab 20 rv_23 hx_30) rfl rfl fun v_14 Dv_27 a w hK_10 hlev_26 hF => ?_
 replace hG := hG.mono hlev_26
 obtain ⟨p_23, c_23, cs_15, hS2_10, rfl, hr_16⟩ := hK_10
 replace hS := hS.join hS2_10
 replace hS := hS.move 12 900 rfl (by decide)
 replace hS := hS.weak (ms := [(12, .own p_23 rv_23.Machines.length c_23 cs_15 52 5)]) ⟨rfl, trivial⟩
 replace h := bind_some h
 obtain ⟨rv_24, hx_31, h⟩ := h
 refine O.callM (us := []) ca_47 hF (remontoirlaw08_turns_keep hS.stab rv_24 hx_31) rfl rfl fun v_15 Dv_28 a w hK_11 hlev_27 hF => ?_
 replace hG := hG.mono hlev_27
 replace hr_16 := hr_16.mono hlev_27
 obtain ⟨p_24, c_24, cs_16, hS2_11, rfl, hr_17⟩ := hK_11
 replace hS := hS.join hS2_11
 replace hS := hS.move 13 900 rfl (by decide)
 replace hS := hS.weak (ms := [(12, .own p_23 rv_23.Machines.length c_23 cs_15 52 5), (13, .own p_24 rv_24.length c_24 cs_16 46 3)]) ⟨rfl, rfl, trivial⟩
 have hr_18 : Reps C_int Dv_28 [12, 9] [iv 12, iv 9] := Reps.cons (C := C_int) (x := 12) (c := [iv 12]) (r := [iv 9]) rfl (Reps.cons (C := C_int) (x := 9) (c := [iv 9]) (r := []) rfl (Reps.nil))
 refine O.buildSlice (E := 3) (C := C_int) (xs := [12, 9]) (cs := [iv 12, iv 9]) (us := [iv 12, iv 9]) (parts := [(0, (.const (iv 12))), (1, (.const (iv 9)))]) 14 hF hS rfl (by kernel_rfl) hr_18 rfl rfl rfl fun p_25 c_25 a w hF hS => ?_
 obtain ⟨Dv_29, hlev_28, hs_36, hS⟩ := hS.freezeC (C := C_SpareMachine) (i := 12) (xs := rv_23.Machines) rfl hr_16
 replace hG := hG.mono hlev_28
 replace hr_17 := hr_17.mono hlev_28
 replace hr_18 := hr_18.mono hlev_28
 obtain ⟨Dv_30, hlev_29, hs_37, hS⟩ := hS.freezeC (C := C_SpareTurn) (i := 13) (xs := rv_24) rfl hr_17
 replace hG := hG.mono hlev_29
 replace hr_18 := hr_18.mono hlev_29
 replace hs_36 := hs_36.mono hlev_29
 obtain ⟨Dv_31, hlev_30, hs_38, hS⟩ := hS.freezeC (C := C_int) (i := 14) (xs := [12, 9]) rfl hr_18
 replace hG := hG.mono hlev_30
 replace hs_36 := hs_36.mono hlev_30
 replace hs_37 := hs_37.mono hlev_30
 replace h := bind_some h
 obtain ⟨rv_25, hx_32, h⟩ := h
 refine O.callS (us := [.agg #[iv rv_23.Hours, iv rv_23.Gap, .slice p_23 rv_23.Machines.length c_23], .slice p_24 rv_24.length c_24, .slice p_25 ([12, 9]).length c_25]) ca_32 hF hS (spare_Silent_ok hS.stab rv_23 rv_24 ([12, 9]) hs_36 hs_37 hs_38 rv_25 hx_32) rfl rfl fun v_16 Dv_32 a w hR_4 hlev_31 hF hS => ?_
 replace hG := hG.mono hlev_31
 obtain ⟨p_26, c_26, rfl, hs_39⟩ := hR_4
 refine step hF (Y.move hF rfl) rfl fun a hF => ?_
 refine step hF (Y.extract hF rfl rfl) rfl fun a hF => ?_
 refine step hF (Y.extract hF rfl rfl) rfl fun a hF => ?_
 refine step hF (Y.assign hF rfl) rfl fun a hF => ?_
 refine step hF (Y.assign hF rfl) rfl fun a hF => ?_
 refine nT ?_
 refine seq ?_
 refine region ?_
 replace h := bind_some h
 obtain ⟨rv_26, hx_33, h⟩ := h
 refine O.callM (us := [iv 20]) ca_46 hF (remontoirlaw08_store_keep hS.stab 20 rv_26 hx_33) rfl rfl fun v_17 Dv_33 a w hK_12 hlev_32 hF => ?_
 replace hG := hG.mono hlev_32
 obtain ⟨p_27, c_27, cs_17, hS2_12, rfl, hr_19⟩ := hK_12
 replace hS := hS.join hS2_12
 replace hS := hS.move 15 900 rfl (by decide)
 replace hS := hS.weak (ms := [(15, .own p_27 rv_26.Machines.length c_27 cs_17 52 5)]) ⟨rfl, trivial⟩
 replace h := bind_some h
 obtain ⟨rv_27, hx_34, h⟩ := h
 refine O.callM (us := []) ca_47 hF (remontoirlaw08_turns_keep hS.stab rv_27 hx_34) rfl rfl fun v_18 Dv_34 a w hK_13 hlev_33 hF => ?_
 replace hG := hG.mono hlev_33
 replace hr_19 := hr_19.mono hlev_33
 obtain ⟨p_28, c_28, cs_18, hS2_13, rfl, hr_20⟩ := hK_13
 replace hS := hS.join hS2_13
 replace hS := hS.move 16 900 rfl (by decide)
 replace hS := hS.weak (ms := [(15, .own p_27 rv_26.Machines.length c_27 cs_17 52 5), (16, .own p_28 rv_27.length c_28 cs_18 46 3)]) ⟨rfl, rfl, trivial⟩
 have hr_21 : Reps C_int Dv_34 [12, 9, 501] [iv 12, iv 9, iv 501] := Reps.cons (C := C_int) (x := 12) (c := [iv 12]) (r := [iv 9, iv 501]) rfl (Reps.cons (C := C_int) (x := 9) (c := [iv 9]) (r := [iv 501]) rfl (Reps.cons (C := C_int) (x := 501) (c := [iv 501]) (r := []) rfl (Reps.nil)))
 refine O.buildSlice (E := 3) (C := C_int) (xs := [12, 9, 501]) (cs := [iv 12, iv 9, iv 501]) (us := [iv 12, iv 9, iv 501]) (parts := [(0, (.const (iv 12))), (1, (.const (iv 9))), (2, (.const (iv 501)))]) 17 hF hS rfl (by kernel_rfl) hr_21 rfl rfl rfl fun p_29 c_29 a w hF hS => ?_
 obtain ⟨Dv_35, hlev_34, hs_42, hS⟩ := hS.freezeC (C := C_SpareMachine) (i := 15) (xs := rv_26.Machines) rfl hr_19
 replace hG := hG.mono hlev_34
 replace hr_20 := hr_20.mono hlev_34
 replace hr_21 := hr_21.mono hlev_34
 obtain ⟨Dv_36, hlev_35, hs_43, hS⟩ := hS.freezeC (C := C_SpareTurn) (i := 16) (xs := rv_27) rfl hr_20
 replace hG := hG.mono hlev_35
 replace hr_21 := hr_21.mono hlev_35
 replace hs_42 := hs_42.mono hlev_35
 obtain ⟨Dv_37, hlev_36, hs_44, hS⟩ := hS.freezeC (C := C_int) (i := 17) (xs := [12, 9, 501]) rfl hr_21
 replace hG := hG.mono hlev_36
 replace hs_42 := hs_42.mono hlev_36
 replace hs_43 := hs_43.mono hlev_36
 replace h := bind_some h
 obtain ⟨rv_28, hx_35, h⟩ := h
 refine O.callS (us := [.agg #[iv rv_26.Hours, iv rv_26.Gap, .slice p_27 rv_26.Machines.length c_27], .slice p_28 rv_27.length c_28, .slice p_29 ([12, 9, 501]).length c_29]) ca_32 hF hS (spare_Silent_ok hS.stab rv_26 rv_27 ([12, 9, 501]) hs_42 hs_43 hs_44 rv_28 hx_35) rfl rfl fun v_19 Dv_38 a w hR_5 hlev_37 hF hS => ?_
 replace hG := hG.mono hlev_37
 obtain ⟨p_30, c_30, rfl, hs_45⟩ := hR_5
 refine step hF (Y.move hF rfl) rfl fun a hF => ?_
 refine step hF (Y.extract hF rfl rfl) rfl fun a hF => ?_
 refine step hF (Y.extract hF rfl rfl) rfl fun a hF => ?_
 refine step hF (Y.assign hF rfl) rfl fun a hF => ?_
 refine step hF (Y.assign hF rfl) rfl fun a hF => ?_
 refine nT ?_
 refine seq ?_
 refine region ?_
 replace h := bind_some h
 obtain ⟨rv_29, hx_36, h⟩ := h
 refine O.callM (us := [iv 23]) ca_46 hF (remontoirlaw08_store_keep hS.stab 23 rv_29 hx_36) rfl rfl fun v_20 Dv_39 a w hK_14 hlev_38 hF => ?_
 replace hG := hG.mono hlev_38
 obtain ⟨p_31, c_31, cs_19, hS2_14, rfl, hr_22⟩ := hK_14
 replace hS := hS.join hS2_14
 replace hS := hS.move 18 900 rfl (by decide)
 replace hS := hS.weak (ms := [(18, .own p_31 rv_29.Machines.length c_31 cs_19 52 5)]) ⟨rfl, trivial⟩
 obtain ⟨Dv_40, hlev_39, hs_47, hS⟩ := hS.freezeC (C := C_SpareMachine) (i := 18) (xs := rv_29.Machines) rfl hr_22
 replace hG := hG.mono hlev_39
 replace h := bind_some h
 obtain ⟨rv_30, hx_37, h⟩ := h
 refine O.callP (us := [.agg #[iv rv_29.Hours, iv rv_29.Gap, .slice p_31 rv_29.Machines.length c_31]]) ca_22 hF hS (spare_Fewest_ok hS.stab rv_29 hs_47 hG rv_30 hx_37) rfl rfl fun a w hF hS => ?_
 refine step hF (Y.move hF rfl) rfl fun a hF => ?_
 refine step hF (Y.extract hF rfl rfl) rfl fun a hF => ?_
 refine step hF (Y.extract hF rfl rfl) rfl fun a hF => ?_
 refine step hF (Y.assign hF rfl) rfl fun a hF => ?_
 refine step hF (Y.assign hF rfl) rfl fun a hF => ?_
 refine nT ?_
 refine seq ?_
 refine region ?_
 replace h := bind_some h
 obtain ⟨rv_31, hx_38, h⟩ := h
 refine O.callM (us := [iv 23]) ca_46 hF (remontoirlaw08_store_keep hS.stab 23 rv_31 hx_38) rfl rfl fun v_21 Dv_41 a w hK_15 hlev_40 hF => ?_
 replace hG := hG.mono hlev_40
 obtain ⟨p_32, c_32, cs_20, hS2_15, rfl, hr_23⟩ := hK_15
 replace hS := hS.join hS2_15
 replace hS := hS.move 19 900 rfl (by decide)
 replace hS := hS.weak (ms := [(19, .own p_32 rv_31.Machines.length c_32 cs_20 52 5)]) ⟨rfl, trivial⟩
 obtain ⟨Dv_42, hlev_41, hs_49, hS⟩ := hS.freezeC (C := C_SpareMachine) (i := 19) (xs := rv_31.Machines) rfl hr_23
 replace hG := hG.mono hlev_41
 replace h := bind_some h
 obtain ⟨rv_32, hx_39, h⟩ := h
 refine O.callS (us := [.agg #[iv rv_31.Hours, iv rv_31.Gap, .slice p_32 rv_31.Machines.length c_32]]) ca_24 hF hS (spare_Plan_ok hS.stab rv_31 hs_49 hG rv_32 hx_39) rfl rfl fun v_22 Dv_43 a w hR_6 hlev_42 hF hS => ?_
 replace hG := hG.mono hlev_42
 obtain ⟨p_33, c_33, rfl, hs_50⟩ := hR_6
 refine step hF (Y.move hF rfl) rfl fun a hF => ?_
 refine step hF (Y.extract hF rfl rfl) rfl fun a hF => ?_
 refine step hF (Y.extract hF rfl rfl) rfl fun a hF => ?_
 refine step hF (Y.assign hF rfl) rfl fun a hF => ?_
 refine step hF (Y.assign hF rfl) rfl fun a hF => ?_
 refine nT ?_
 refine seq ?_
 refine region ?_
 replace h := bind_some h
 obtain ⟨rv_33, hx_40, h⟩ := h
 refine O.callM (us := [iv 23]) ca_46 hF (remontoirlaw08_store_keep hS.stab 23 rv_33 hx_40) rfl rfl fun v_23 Dv_44 a w hK_16 hlev_43 hF => ?_
 replace hG := hG.mono hlev_43
 obtain ⟨p_34, c_34, cs_21, hS2_16, rfl, hr_24⟩ := hK_16
 replace hS := hS.join hS2_16
 replace hS := hS.move 20 900 rfl (by decide)
 replace hS := hS.weak (ms := [(20, .own p_34 rv_33.Machines.length c_34 cs_21 52 5)]) ⟨rfl, trivial⟩
 obtain ⟨Dv_45, hlev_44, hs_52, hS⟩ := hS.freezeC (C := C_SpareMachine) (i := 20) (xs := rv_33.Machines) rfl hr_24
 replace hG := hG.mono hlev_44
 replace h := bind_some h
 obtain ⟨rv_34, hx_41, h⟩ := h
 refine O.callS (us := [.agg #[iv rv_33.Hours, iv rv_33.Gap, .slice p_34 rv_33.Machines.length c_34]]) ca_27 hF hS (spare_Need_ok hS.stab rv_33 hs_52 hG rv_34 hx_41) rfl rfl fun v_24 Dv_46 a w hR_7 hlev_45 hF hS => ?_
 replace hG := hG.mono hlev_45
 obtain ⟨p_35, c_35, rfl, hs_53⟩ := hR_7
 refine step hF (Y.move hF rfl) rfl fun a hF => ?_
 refine step hF (Y.extract hF rfl rfl) rfl fun a hF => ?_
 refine step hF (Y.extract hF rfl rfl) rfl fun a hF => ?_
 refine step hF (Y.assign hF rfl) rfl fun a hF => ?_
 refine step hF (Y.assign hF rfl) rfl fun a hF => ?_
 refine nT ?_
 refine seq ?_
 refine region ?_
 replace h := bind_some h
 obtain ⟨rv_35, hx_42, h⟩ := h
 refine O.callM (us := [iv 20]) ca_46 hF (remontoirlaw08_store_keep hS.stab 20 rv_35 hx_42) rfl rfl fun v_25 Dv_47 a w hK_17 hlev_46 hF => ?_
 replace hG := hG.mono hlev_46
 obtain ⟨p_36, c_36, cs_22, hS2_17, rfl, hr_25⟩ := hK_17
 replace hS := hS.join hS2_17
 replace hS := hS.move 21 900 rfl (by decide)
 replace hS := hS.weak (ms := [(21, .own p_36 rv_35.Machines.length c_36 cs_22 52 5)]) ⟨rfl, trivial⟩
 obtain ⟨Dv_48, hlev_47, hs_55, hS⟩ := hS.freezeC (C := C_SpareMachine) (i := 21) (xs := rv_35.Machines) rfl hr_25
 replace hG := hG.mono hlev_47
 replace h := bind_some h
 obtain ⟨rv_36, hx_43, h⟩ := h
 refine O.callP (us := [.agg #[iv rv_35.Hours, iv rv_35.Gap, .slice p_36 rv_35.Machines.length c_36]]) ca_30 hF hS (spare_Pair_ok hS.stab rv_35 hs_55 hG rv_36 hx_43) rfl rfl fun a w hF hS => ?_
 refine step hF (Y.move hF rfl) rfl fun a hF => ?_
 refine step hF (Y.extract hF rfl rfl) rfl fun a hF => ?_
 refine step hF (Y.extract hF rfl rfl) rfl fun a hF => ?_
 refine step hF (Y.assign hF rfl) rfl fun a hF => ?_
 refine step hF (Y.assign hF rfl) rfl fun a hF => ?_
 refine nT ?_
 refine seq ?_
 refine seq ?_
 refine region ?_
 refine step hF (Y.move hF rfl) rfl fun a hF => ?_
 refine step hF (Y.neq hF rfl rfl) rfl fun a hF => ?_
 refine step hF (Y.move hF rfl) rfl fun a hF => ?_
 refine join (N := 445) (rs := []) (w0 := w0) (D0 := D0) 3 (us := [(0, .bool sv), (22, iv rv_20.2.2), (24, iv rv_22.2), (26, iv rv_25.2), (28, iv rv_28.2), (30, iv rv_30.2), (32, iv rv_32.2), (34, iv rv_34.2), (36, iv rv_36.2), (253, .bool ((rv_20.2.2 != 81) || (rv_22.2 != 81)))]) (ms := []) (D' := Dv_48) ?_ ?_
 ·rcases bcases (rv_20.2.2 != 81) with hbv_11 | hbv_11
  ·-- true
   refine guard_off hF rfl rfl hbv_11 rfl fun a hF => ?_
   refine guard_off hF rfl rfl hbv_11 rfl fun a hF => ?_
   refine step hF (Y.pick_t hF rfl hbv_11 rfl) rfl fun a hF => ?_
   exact nT ⟨hF.weak ⟨rfl, rfl, rfl, rfl, rfl, rfl, rfl, rfl, rfl, (by rw [hbv_11]; rfl), trivial⟩, hS.weak trivial⟩
  ·-- false
   refine guard_on hF rfl rfl hbv_11 ?_
   refine step hF (Y.move hF rfl) rfl fun a hF => ?_
   refine guard_on hF rfl rfl hbv_11 ?_
   refine step hF (Y.neq hF rfl rfl) rfl fun a hF => ?_
   refine step hF (Y.pick_f hF rfl hbv_11 rfl) rfl fun a hF => ?_
   exact nT ⟨hF.weak ⟨rfl, rfl, rfl, rfl, rfl, rfl, rfl, rfl, rfl, (by rw [hbv_11]; rfl), trivial⟩, hS.weak trivial⟩
 intro a w hF hS
 refine step hF (Y.move hF rfl) rfl fun a hF => ?_
 refine join (N := 445) (rs := []) (w0 := w0) (D0 := D0) 3 (us := [(0, .bool sv), (22, iv rv_20.2.2), (24, iv rv_22.2), (26, iv rv_25.2), (28, iv rv_28.2), (30, iv rv_30.2), (32, iv rv_32.2), (34, iv rv_34.2), (36, iv rv_36.2), (257, .bool (((rv_20.2.2 != 81) || (rv_22.2 != 81)) || (rv_25.2 != 81)))]) (ms := []) (D' := Dv_48) ?_ ?_
 ·rcases bcases ((rv_20.2.2 != 81) || (rv_22.2 != 81)) with hbv_12 | hbv_12
  ·-- true
   refine guard_off hF rfl rfl hbv_12 rfl fun a hF => ?_
   refine guard_off hF rfl rfl hbv_12 rfl fun a hF => ?_
   refine step hF (Y.pick_t hF rfl hbv_12 rfl) rfl fun a hF => ?_
   exact nT ⟨hF.weak ⟨rfl, rfl, rfl, rfl, rfl, rfl, rfl, rfl, rfl, (by rw [hbv_12]; rfl), trivial⟩, hS.weak trivial⟩
  ·-- false
   refine guard_on hF rfl rfl hbv_12 ?_
   refine step hF (Y.move hF rfl) rfl fun a hF => ?_
   refine guard_on hF rfl rfl hbv_12 ?_
   refine step hF (Y.neq hF rfl rfl) rfl fun a hF => ?_
   refine step hF (Y.pick_f hF rfl hbv_12 rfl) rfl fun a hF => ?_
   exact nT ⟨hF.weak ⟨rfl, rfl, rfl, rfl, rfl, rfl, rfl, rfl, rfl, (by rw [hbv_12]; rfl), trivial⟩, hS.weak trivial⟩
 intro a w hF hS
 refine step hF (Y.move hF rfl) rfl fun a hF => ?_
 refine join (N := 445) (rs := []) (w0 := w0) (D0 := D0) 3 (us := [(0, .bool sv), (22, iv rv_20.2.2), (24, iv rv_22.2), (26, iv rv_25.2), (28, iv rv_28.2), (30, iv rv_30.2), (32, iv rv_32.2), (34, iv rv_34.2), (36, iv rv_36.2), (261, .bool ((((rv_20.2.2 != 81) || (rv_22.2 != 81)) || (rv_25.2 != 81)) || (rv_28.2 != 81)))]) (ms := []) (D' := Dv_48) ?_ ?_
 ·rcases bcases (((rv_20.2.2 != 81) || (rv_22.2 != 81)) || (rv_25.2 != 81)) with hbv_13 | hbv_13
  ·-- true
   refine guard_off hF rfl rfl hbv_13 rfl fun a hF => ?_
   refine guard_off hF rfl rfl hbv_13 rfl fun a hF => ?_
   refine step hF (Y.pick_t hF rfl hbv_13 rfl) rfl fun a hF => ?_
   exact nT ⟨hF.weak ⟨rfl, rfl, rfl, rfl, rfl, rfl, rfl, rfl, rfl, (by rw [hbv_13]; rfl), trivial⟩, hS.weak trivial⟩
  ·-- false
   refine guard_on hF rfl rfl hbv_13 ?_
   refine step hF (Y.move hF rfl) rfl fun a hF => ?_
   refine guard_on hF rfl rfl hbv_13 ?_
   refine step hF (Y.neq hF rfl rfl) rfl fun a hF => ?_
   refine step hF (Y.pick_f hF rfl hbv_13 rfl) rfl fun a hF => ?_
   exact nT ⟨hF.weak ⟨rfl, rfl, rfl, rfl, rfl, rfl, rfl, rfl, rfl, (by rw [hbv_13]; rfl), trivial⟩, hS.weak trivial⟩
 intro a w hF hS
 refine step hF (Y.move hF rfl) rfl fun a hF => ?_
 refine join (N := 445) (rs := []) (w0 := w0) (D0 := D0) 3 (us := [(0, .bool sv), (22, iv rv_20.2.2), (24, iv rv_22.2), (26, iv rv_25.2), (28, iv rv_28.2), (30, iv rv_30.2), (32, iv rv_32.2), (34, iv rv_34.2), (36, iv rv_36.2), (265, .bool (((((rv_20.2.2 != 81) || (rv_22.2 != 81)) || (rv_25.2 != 81)) || (rv_28.2 != 81)) || (rv_30.2 != 4)))]) (ms := []) (D' := Dv_48) ?_ ?_
 ·rcases bcases ((((rv_20.2.2 != 81) || (rv_22.2 != 81)) || (rv_25.2 != 81)) || (rv_28.2 != 81)) with hbv_14 | hbv_14
  ·-- true
   refine guard_off hF rfl rfl hbv_14 rfl fun a hF => ?_
   refine guard_off hF rfl rfl hbv_14 rfl fun a hF => ?_
   refine step hF (Y.pick_t hF rfl hbv_14 rfl) rfl fun a hF => ?_
   exact nT ⟨hF.weak ⟨rfl, rfl, rfl, rfl, rfl, rfl, rfl, rfl, rfl, (by rw [hbv_14]; rfl), trivial⟩, hS.weak trivial⟩
  ·-- false
   refine guard_on hF rfl rfl hbv_14 ?_
   refine step hF (Y.move hF rfl) rfl fun a hF => ?_
   refine guard_on hF rfl rfl hbv_14 ?_
   refine step hF (Y.neq hF rfl rfl) rfl fun a hF => ?_
   refine step hF (Y.pick_f hF rfl hbv_14 rfl) rfl fun a hF => ?_
   exact nT ⟨hF.weak ⟨rfl, rfl, rfl, rfl, rfl, rfl, rfl, rfl, rfl, (by rw [hbv_14]; rfl), trivial⟩, hS.weak trivial⟩
 intro a w hF hS
 refine step hF (Y.move hF rfl) rfl fun a hF => ?_
 refine join (N := 445) (rs := []) (w0 := w0) (D0 := D0) 3 (us := [(0, .bool sv), (22, iv rv_20.2.2), (24, iv rv_22.2), (26, iv rv_25.2), (28, iv rv_28.2), (30, iv rv_30.2), (32, iv rv_32.2), (34, iv rv_34.2), (36, iv rv_36.2), (269, .bool ((((((rv_20.2.2 != 81) || (rv_22.2 != 81)) || (rv_25.2 != 81)) || (rv_28.2 != 81)) || (rv_30.2 != 4)) || (rv_32.2 != 4)))]) (ms := []) (D' := Dv_48) ?_ ?_
 ·rcases bcases (((((rv_20.2.2 != 81) || (rv_22.2 != 81)) || (rv_25.2 != 81)) || (rv_28.2 != 81)) || (rv_30.2 != 4)) with hbv_15 | hbv_15
  ·-- true
   refine guard_off hF rfl rfl hbv_15 rfl fun a hF => ?_
   refine guard_off hF rfl rfl hbv_15 rfl fun a hF => ?_
   refine step hF (Y.pick_t hF rfl hbv_15 rfl) rfl fun a hF => ?_
   exact nT ⟨hF.weak ⟨rfl, rfl, rfl, rfl, rfl, rfl, rfl, rfl, rfl, (by rw [hbv_15]; rfl), trivial⟩, hS.weak trivial⟩
  ·-- false
   refine guard_on hF rfl rfl hbv_15 ?_
   refine step hF (Y.move hF rfl) rfl fun a hF => ?_
   refine guard_on hF rfl rfl hbv_15 ?_
   refine step hF (Y.neq hF rfl rfl) rfl fun a hF => ?_
   refine step hF (Y.pick_f hF rfl hbv_15 rfl) rfl fun a hF => ?_
   exact nT ⟨hF.weak ⟨rfl, rfl, rfl, rfl, rfl, rfl, rfl, rfl, rfl, (by rw [hbv_15]; rfl), trivial⟩, hS.weak trivial⟩
 intro a w hF hS
 refine step hF (Y.move hF rfl) rfl fun a hF => ?_
 refine join (N := 445) (rs := []) (w0 := w0) (D0 := D0) 3 (us := [(0, .bool sv), (22, iv rv_20.2.2), (24, iv rv_22.2), (26, iv rv_25.2), (28, iv rv_28.2), (30, iv rv_30.2), (32, iv rv_32.2), (34, iv rv_34.2), (36, iv rv_36.2), (273, .bool (((((((rv_20.2.2 != 81) || (rv_22.2 != 81)) || (rv_25.2 != 81)) || (rv_28.2 != 81)) || (rv_30.2 != 4)) || (rv_32.2 != 4)) || (rv_34.2 != 4)))]) (ms := []) (D' := Dv_48) ?_ ?_
 ·rcases bcases ((((((rv_20.2.2 != 81) || (rv_22.2 != 81)) || (rv_25.2 != 81)) || (rv_28.2 != 81)) || (rv_30.2 != 4)) || (rv_32.2 != 4)) with hbv_16 | hbv_16
  ·-- true
   refine guard_off hF rfl rfl hbv_16 rfl fun a hF => ?_
   refine guard_off hF rfl rfl hbv_16 rfl fun a hF => ?_
   refine step hF (Y.pick_t hF rfl hbv_16 rfl) rfl fun a hF => ?_
   exact nT ⟨hF.weak ⟨rfl, rfl, rfl, rfl, rfl, rfl, rfl, rfl, rfl, (by rw [hbv_16]; rfl), trivial⟩, hS.weak trivial⟩
  ·-- false
   refine guard_on hF rfl rfl hbv_16 ?_
   refine step hF (Y.move hF rfl) rfl fun a hF => ?_
   refine guard_on hF rfl rfl hbv_16 ?_
   refine step hF (Y.neq hF rfl rfl) rfl fun a hF => ?_
   refine step hF (Y.pick_f hF rfl hbv_16 rfl) rfl fun a hF => ?_
   exact nT ⟨hF.weak ⟨rfl, rfl, rfl, rfl, rfl, rfl, rfl, rfl, rfl, (by rw [hbv_16]; rfl), trivial⟩, hS.weak trivial⟩
 intro a w hF hS
 refine step hF (Y.move hF rfl) rfl fun a hF => ?_
 refine join (N := 445) (rs := []) (w0 := w0) (D0 := D0) 3 (us := [(0, .bool sv), (22, iv rv_20.2.2), (24, iv rv_22.2), (26, iv rv_25.2), (28, iv rv_28.2), (30, iv rv_30.2), (32, iv rv_32.2), (34, iv rv_34.2), (277, .bool ((((((((rv_20.2.2 != 81) || (rv_22.2 != 81)) || (rv_25.2 != 81)) || (rv_28.2 != 81)) || (rv_30.2 != 4)) || (rv_32.2 != 4)) || (rv_34.2 != 4)) || (rv_36.2 != 4)))]) (ms := []) (D' := Dv_48) ?_ ?_
 ·rcases bcases (((((((rv_20.2.2 != 81) || (rv_22.2 != 81)) || (rv_25.2 != 81)) || (rv_28.2 != 81)) || (rv_30.2 != 4)) || (rv_32.2 != 4)) || (rv_34.2 != 4)) with hbv_17 | hbv_17
  ·-- true
   refine guard_off hF rfl rfl hbv_17 rfl fun a hF => ?_
   refine guard_off hF rfl rfl hbv_17 rfl fun a hF => ?_
   refine step hF (Y.pick_t hF rfl hbv_17 rfl) rfl fun a hF => ?_
   exact nT ⟨hF.weak ⟨rfl, rfl, rfl, rfl, rfl, rfl, rfl, rfl, (by rw [hbv_17]; rfl), trivial⟩, hS.weak trivial⟩
  ·-- false
   refine guard_on hF rfl rfl hbv_17 ?_
   refine step hF (Y.move hF rfl) rfl fun a hF => ?_
   refine guard_on hF rfl rfl hbv_17 ?_
   refine step hF (Y.neq hF rfl rfl) rfl fun a hF => ?_
   refine step hF (Y.pick_f hF rfl hbv_17 rfl) rfl fun a hF => ?_
   exact nT ⟨hF.weak ⟨rfl, rfl, rfl, rfl, rfl, rfl, rfl, rfl, (by rw [hbv_17]; rfl), trivial⟩, hS.weak trivial⟩
 intro a w hF hS
 refine nT ?_
 refine cond_b hF rfl (fun hbv_18 => ?_) (fun hbv_18 => ?_)
 ·replace h := cond_t h hbv_18
  refine seq ?_
  refine region ?_
  refine step hF (Y.assign hF rfl) rfl fun a hF => ?_
  refine nT ?_
  refine ret_ (then_r ?_)
  obtain rfl := some_inj h
  exact leaveP Tryd.results14 hF hS (.cons (.tmp rfl) .nil) .nil rfl
 ·replace h := cond_f h hbv_18
  refine skip_ (then_n ?_)
  refine seq ?_
  refine region ?_
  replace h := bind_some h
  obtain ⟨rv_37, hx_44, h⟩ := h
  refine O.callM (us := []) ca_47 hF (remontoirlaw08_turns_keep hS.stab rv_37 hx_44) rfl rfl fun v_26 Dv_49 a w hK_18 hlev_48 hF => ?_
  replace hG := hG.mono hlev_48
  obtain ⟨p_37, c_37, cs_23, hS2_18, rfl, hr_26⟩ := hK_18
  replace hS := hS.join hS2_18
  replace hS := hS.move 22 900 rfl (by decide)
  replace hS := hS.weak (ms := [(22, .own p_37 rv_37.length c_37 cs_23 46 3)]) ⟨rfl, trivial⟩
  replace h := bind_some h
  obtain ⟨rv_38, hx_45, h⟩ := h
  refine O.callM (us := []) ca_47 hF (remontoirlaw08_turns_keep hS.stab rv_38 hx_45) rfl rfl fun v_27 Dv_50 a w hK_19 hlev_49 hF => ?_
  replace hG := hG.mono hlev_49
  replace hr_26 := hr_26.mono hlev_49
  obtain ⟨p_38, c_38, cs_24, hS2_19, rfl, hr_27⟩ := hK_19
  replace hS := hS.join hS2_19
  replace hS := hS.move 23 900 rfl (by decide)
  replace hS := hS.weak (ms := [(22, .own p_37 rv_37.length c_37 cs_23 46 3), (23, .own p_38 rv_38.length c_38 cs_24 46 3)]) ⟨rfl, rfl, trivial⟩
  replace h := bind_some h
  obtain ⟨rv_39, hx_46, h⟩ := h
  refine O.callM (us := []) ca_47 hF (remontoirlaw08_turns_keep hS.stab rv_39 hx_46) rfl rfl fun v_28 Dv_51 a w hK_20 hlev_50 hF => ?_
  replace hG := hG.mono hlev_50
  replace hr_26 := hr_26.mono hlev_50
  replace hr_27 := hr_27.mono hlev_50
  obtain ⟨p_39, c_39, cs_25, hS2_20, rfl, hr_28⟩ := hK_20
  replace hS := hS.join hS2_20
  replace hS := hS.move 24 900 rfl (by decide)
  replace hS := hS.weak (ms := [(22, .own p_37 rv_37.length c_37 cs_23 46 3), (23, .own p_38 rv_38.length c_38 cs_24 46 3), (24, .own p_39 rv_39.length c_39 cs_25 46 3)]) (AL rfl)
  replace h := bind_some h
  obtain ⟨rv_40, hx_47, h⟩ := h
  refine O.callM (us := []) ca_47 hF (remontoirlaw08_turns_keep hS.stab rv_40 hx_47) rfl rfl fun v_29 Dv_52 a w hK_21 hlev_51 hF => ?_
  replace hG := hG.mono hlev_51
  replace hr_26 := hr_26.mono hlev_51
  replace hr_27 := hr_27.mono hlev_51
  replace hr_28 := hr_28.mono hlev_51
  obtain ⟨p_40, c_40, cs_26, hS2_21, rfl, hr_29⟩ := hK_21
  replace hS := hS.join hS2_21
  replace hS := hS.move 25 900 rfl (by decide)
  replace hS := hS.weak (ms := [(22, .own p_37 rv_37.length c_37 cs_23 46 3), (23, .own p_38 rv_38.length c_38 cs_24 46 3), (24, .own p_39 rv_39.length c_39 cs_25 46 3), (25, .own p_40 rv_40.length c_40 cs_26 46 3)]) (AL rfl)
  replace h := bind_some h
  obtain ⟨rv_41, hx_48, h⟩ := h
  refine O.callM (us := []) ca_47 hF (remontoirlaw08_turns_keep hS.stab rv_41 hx_48) rfl rfl fun v_30 Dv_53 a w hK_22 hlev_52 hF => ?_
  replace hG := hG.mono hlev_52
  replace hr_26 := hr_26.mono hlev_52
  replace hr_27 := hr_27.mono hlev_52
  replace hr_28 := hr_28.mono hlev_52
  replace hr_29 := hr_29.mono hlev_52
  obtain ⟨p_41, c_41, cs_27, hS2_22, rfl, hr_30⟩ := hK_22
  replace hS := hS.join hS2_22
  replace hS := hS.move 26 900 rfl (by decide)
  replace hS := hS.weak (ms := [(22, .own p_37 rv_37.length c_37 cs_23 46 3), (23, .own p_38 rv_38.length c_38 cs_24 46 3), (24, .own p_39 rv_39.length c_39 cs_25 46 3), (25, .own p_40 rv_40.length c_40 cs_26 46 3), (26, .own p_41 rv_41.length c_41 cs_27 46 3)]) (AL rfl)
  replace h := bind_some h
  obtain ⟨rv_42, hx_49, h⟩ := h
  refine O.callM (us := []) ca_47 hF (remontoirlaw08_turns_keep hS.stab rv_42 hx_49) rfl rfl fun v_31 Dv_54 a w hK_23 hlev_53 hF => ?_
  replace hG := hG.mono hlev_53
  replace hr_26 := hr_26.mono hlev_53
  replace hr_27 := hr_27.mono hlev_53
  replace hr_28 := hr_28.mono hlev_53
  replace hr_29 := hr_29.mono hlev_53
  replace hr_30 := hr_30.mono hlev_53
  obtain ⟨p_42, c_42, cs_28, hS2_23, rfl, hr_31⟩ := hK_23
  replace hS := hS.join hS2_23
  replace hS := hS.move 27 900 rfl (by decide)
  replace hS := hS.weak (ms := [(22, .own p_37 rv_37.length c_37 cs_23 46 3), (23, .own p_38 rv_38.length c_38 cs_24 46 3), (24, .own p_39 rv_39.length c_39 cs_25 46 3), (25, .own p_40 rv_40.length c_40 cs_26 46 3), (26, .own p_41 rv_41.length c_41 cs_27 46 3), (27, .own p_42 rv_42.length c_42 cs_28 46 3)]) (AL rfl)
  replace h := bind_some h
  obtain ⟨rv_43, hx_50, h⟩ := h
  refine O.callM (us := []) ca_47 hF (remontoirlaw08_turns_keep hS.stab rv_43 hx_50) rfl rfl fun v_32 Dv_55 a w hK_24 hlev_54 hF => ?_
  replace hG := hG.mono hlev_54
  replace hr_26 := hr_26.mono hlev_54
  replace hr_27 := hr_27.mono hlev_54
  replace hr_28 := hr_28.mono hlev_54
  replace hr_29 := hr_29.mono hlev_54
  replace hr_30 := hr_30.mono hlev_54
  replace hr_31 := hr_31.mono hlev_54
  obtain ⟨p_43, c_43, cs_29, hS2_24, rfl, hr_32⟩ := hK_24
  replace hS := hS.join hS2_24
  replace hS := hS.move 28 900 rfl (by decide)
  replace hS := hS.weak (ms := [(22, .own p_37 rv_37.length c_37 cs_23 46 3), (23, .own p_38 rv_38.length c_38 cs_24 46 3), (24, .own p_39 rv_39.length c_39 cs_25 46 3), (25, .own p_40 rv_40.length c_40 cs_26 46 3), (26, .own p_41 rv_41.length c_41 cs_27 46 3), (27, .own p_42 rv_42.length c_42 cs_28 46 3), (28, .own p_43 rv_43.length c_43 cs_29 46 3)]) (AL rfl)
  obtain ⟨Dv_56, hlev_55, hs_63, hS⟩ := hS.freezeC (C := C_SpareTurn) (i := 28) (xs := rv_43) rfl hr_32
  replace hG := hG.mono hlev_55
  replace hr_26 := hr_26.mono hlev_55
  replace hr_27 := hr_27.mono hlev_55
  replace hr_28 := hr_28.mono hlev_55
  replace hr_29 := hr_29.mono hlev_55
  replace hr_30 := hr_30.mono hlev_55
  replace hr_31 := hr_31.mono hlev_55
  replace h := ite_some h
  obtain ⟨hg, h⟩ := h
  refine step hF (Y.sliceHi (xs := rv_43) u_25 sz_46 hF rfl rfl hg hs_63.2) rfl fun a hF => ?_
  refine step hF (Y.build (parts := [(0, (.const (iv 0))), (1, (.const (iv (-2)))), (2, (.const (iv 1)))]) (cs := #[iv 0, iv (-2), iv 1]) hF rfl (by kernel_rfl)) rfl fun a hF => ?_
  have hr_33 : Reps C_SpareTurn Dv_56 [(SpareTurn.mk 0 (-2) 1)] [iv 0, iv (-2), iv 1] := Reps.cons (C := C_SpareTurn) (x := (SpareTurn.mk 0 (-2) 1)) (c := [iv 0, iv (-2), iv 1]) (r := []) rfl (Reps.nil)
  refine O.buildSlice (E := 46) (C := C_SpareTurn) (xs := [(SpareTurn.mk 0 (-2) 1)]) (cs := [iv 0, iv (-2), iv 1]) (us := [.agg #[iv 0, iv (-2), iv 1]]) (parts := [(0, (.tmp 286))]) 29 hF hS rfl (by kernel_rfl) hr_33 rfl rfl rfl fun p_44 c_44 a w hF hS => ?_
  refine O.buildLit (E := 25) (cs := [.slice none 0 0, .slice p_37 rv_37.length c_37, .slice p_38 rv_38.length c_38, .slice p_39 rv_39.length c_39, .slice p_40 rv_40.length c_40, .slice p_41 rv_41.length c_41, .slice p_42 rv_42.length c_42, .slice p_43 (rv_43.take (Int.toNat 2)).length c_43, .slice p_44 ([(SpareTurn.mk 0 (-2) 1)]).length c_44]) (us := [.slice none 0 0, .slice p_37 rv_37.length c_37, .slice p_38 rv_38.length c_38, .slice p_39 rv_39.length c_39, .slice p_40 rv_40.length c_40, .slice p_41 rv_41.length c_41, .slice p_42 rv_42.length c_42, .slice p_43 (rv_43.take (Int.toNat 2)).length c_43, .slice p_44 ([(SpareTurn.mk 0 (-2) 1)]).length c_44]) (parts := [(0, (.const (.slice none 0 0))), (1, (.tmp 278)), (2, (.tmp 279)), (3, (.tmp 280)), (4, (.tmp 281)), (5, (.tmp 282)), (6, (.tmp 283)), (7, (.tmp 285)), (8, (.tmp 287))]) 30 hF hS rfl (by kernel_rfl) rfl fun b_15 a w hF hS => ?_
  refine step hF (Y.assign hF rfl) rfl fun a hF => ?_
  refine nT ?_
  refine seq ?_
  refine region ?_
  refine step hF (Y.move hF rfl) rfl fun a hF => ?_
  refine step hF (Y.indexSl u_68 sz_25 hF rfl rfl (by decide) (by decide)) rfl fun a hF => ?_
  refine step hF (Y.load1L 30 sz_25 hF rfl hS rfl rfl) rfl fun a hF => ?_
  replace h := bind_some h
  obtain ⟨e_6, hx_51, h⟩ := h
  obtain ⟨b_16, hp_5⟩ := hS.ownPtr (i := 22) rfl (idx_rng hx_51)
  obtain ⟨cc_14, hc_14, hsub_5⟩ := ownElI (C := C_SpareTurn) hr_26 hx_51
  obtain rfl := C_SpareTurn.open hc_14
  refine step hF (Y.indexOwn hp_5 u_25 sz_46 (idx_rng hx_51) hF rfl rfl) rfl fun a hF => ?_
  refine step hF (Y.fieldAddr fo_46_1 hF rfl) rfl fun a hF => ?_
  refine O.storePart (C := C_SpareTurn) (v0 := (SpareTurn.mk e_6.Machine 6 e_6.Over)) (x0 := e_6) (xs := rv_37) (us := [iv 6]) (k := 1) 22 hp_5 sz_3 (idx_rng hx_51) hF rfl rfl rfl rfl hx_51 (fun c0 h => by obtain rfl := C_SpareTurn.open h; rfl) (show 1 + 1 ≤ 3 by decide) hS rfl hr_26 fun cs_30 a w hF hS hr_34 => ?_
  try rw [show rv_37.length = (rv_37.set (Int.toNat 1) (SpareTurn.mk e_6.Machine 6 e_6.Over)).length from List.length_set.symm] at hF
  try rw [show rv_37.length = (rv_37.set (Int.toNat 1) (SpareTurn.mk e_6.Machine 6 e_6.Over)).length from List.length_set.symm] at hS
  refine nT ?_
  refine seq ?_
  refine region ?_
  refine step hF (Y.move hF rfl) rfl fun a hF => ?_
  refine step hF (Y.indexSl u_68 sz_25 hF rfl rfl (by decide) (by decide)) rfl fun a hF => ?_
  refine step hF (Y.load1L 30 sz_25 hF rfl hS rfl rfl) rfl fun a hF => ?_
  replace h := bind_some h
  obtain ⟨e_7, hx_52, h⟩ := h
  obtain ⟨b_17, hp_6⟩ := hS.ownPtr (i := 23) rfl (idx_rng hx_52)
  obtain ⟨cc_15, hc_15, hsub_6⟩ := ownElI (C := C_SpareTurn) hr_27 hx_52
  obtain rfl := C_SpareTurn.open hc_15
  refine step hF (Y.indexOwn hp_6 u_25 sz_46 (idx_rng hx_52) hF rfl rfl) rfl fun a hF => ?_
  refine step hF (Y.fieldAddr fo_46_2 hF rfl) rfl fun a hF => ?_
  refine O.storePart (C := C_SpareTurn) (v0 := (SpareTurn.mk e_7.Machine e_7.Start 9)) (x0 := e_7) (xs := rv_38) (us := [iv 9]) (k := 2) 23 hp_6 sz_3 (idx_rng hx_52) hF rfl rfl rfl rfl hx_52 (fun c0 h => by obtain rfl := C_SpareTurn.open h; rfl) (show 2 + 1 ≤ 3 by decide) hS rfl hr_27 fun cs_31 a w hF hS hr_35 => ?_
  try rw [show rv_38.length = (rv_38.set (Int.toNat 1) (SpareTurn.mk e_7.Machine e_7.Start 9)).length from List.length_set.symm] at hF
  try rw [show rv_38.length = (rv_38.set (Int.toNat 1) (SpareTurn.mk e_7.Machine e_7.Start 9)).length from List.length_set.symm] at hS
  refine nT ?_
  refine seq ?_
  refine region ?_
  refine step hF (Y.move hF rfl) rfl fun a hF => ?_
  refine step hF (Y.indexSl u_68 sz_25 hF rfl rfl (by decide) (by decide)) rfl fun a hF => ?_
  refine step hF (Y.load1L 30 sz_25 hF rfl hS rfl rfl) rfl fun a hF => ?_
  replace h := bind_some h
  obtain ⟨e_8, hx_53, h⟩ := h
  obtain ⟨b_18, hp_7⟩ := hS.ownPtr (i := 24) rfl (idx_rng hx_53)
  obtain ⟨cc_16, hc_16, hsub_7⟩ := ownElI (C := C_SpareTurn) hr_28 hx_53
  obtain rfl := C_SpareTurn.open hc_16
  refine step hF (Y.indexOwn hp_7 u_25 sz_46 (idx_rng hx_53) hF rfl rfl) rfl fun a hF => ?_
  refine step hF (Y.fieldAddr fo_46_1 hF rfl) rfl fun a hF => ?_
  refine O.storePart (C := C_SpareTurn) (v0 := (SpareTurn.mk e_8.Machine (-3) e_8.Over)) (x0 := e_8) (xs := rv_39) (us := [iv (-3)]) (k := 1) 24 hp_7 sz_3 (idx_rng hx_53) hF rfl rfl rfl rfl hx_53 (fun c0 h => by obtain rfl := C_SpareTurn.open h; rfl) (show 1 + 1 ≤ 3 by decide) hS rfl hr_28 fun cs_32 a w hF hS hr_36 => ?_
  try rw [show rv_39.length = (rv_39.set (Int.toNat 0) (SpareTurn.mk e_8.Machine (-3) e_8.Over)).length from List.length_set.symm] at hF
  try rw [show rv_39.length = (rv_39.set (Int.toNat 0) (SpareTurn.mk e_8.Machine (-3) e_8.Over)).length from List.length_set.symm] at hS
  refine nT ?_
  refine seq ?_
  refine region ?_
  refine step hF (Y.move hF rfl) rfl fun a hF => ?_
  refine step hF (Y.indexSl u_68 sz_25 hF rfl rfl (by decide) (by decide)) rfl fun a hF => ?_
  refine step hF (Y.load1L 30 sz_25 hF rfl hS rfl rfl) rfl fun a hF => ?_
  replace h := bind_some h
  obtain ⟨e_9, hx_54, h⟩ := h
  obtain ⟨b_19, hp_8⟩ := hS.ownPtr (i := 25) rfl (idx_rng hx_54)
  obtain ⟨cc_17, hc_17, hsub_8⟩ := ownElI (C := C_SpareTurn) hr_29 hx_54
  obtain rfl := C_SpareTurn.open hc_17
  refine step hF (Y.indexOwn hp_8 u_25 sz_46 (idx_rng hx_54) hF rfl rfl) rfl fun a hF => ?_
  refine step hF (Y.fieldAddr fo_46_1 hF rfl) rfl fun a hF => ?_
  refine O.storePart (C := C_SpareTurn) (v0 := (SpareTurn.mk e_9.Machine 8 e_9.Over)) (x0 := e_9) (xs := rv_40) (us := [iv 8]) (k := 1) 25 hp_8 sz_3 (idx_rng hx_54) hF rfl rfl rfl rfl hx_54 (fun c0 h => by obtain rfl := C_SpareTurn.open h; rfl) (show 1 + 1 ≤ 3 by decide) hS rfl hr_29 fun cs_33 a w hF hS hr_37 => ?_
  try rw [show rv_40.length = (rv_40.set (Int.toNat 2) (SpareTurn.mk e_9.Machine 8 e_9.Over)).length from List.length_set.symm] at hF
  try rw [show rv_40.length = (rv_40.set (Int.toNat 2) (SpareTurn.mk e_9.Machine 8 e_9.Over)).length from List.length_set.symm] at hS
  refine nT ?_
  refine seq ?_
  refine region ?_
  refine step hF (Y.move hF rfl) rfl fun a hF => ?_
  refine step hF (Y.indexSl u_68 sz_25 hF rfl rfl (by decide) (by decide)) rfl fun a hF => ?_
  refine step hF (Y.load1L 30 sz_25 hF rfl hS rfl rfl) rfl fun a hF => ?_
  replace h := bind_some h
  obtain ⟨e_10, hx_55, h⟩ := h
  obtain ⟨b_20, hp_9⟩ := hS.ownPtr (i := 26) rfl (idx_rng hx_55)
  obtain ⟨cc_18, hc_18, hsub_9⟩ := ownElI (C := C_SpareTurn) hr_30 hx_55
  obtain rfl := C_SpareTurn.open hc_18
  refine step hF (Y.indexOwn hp_9 u_25 sz_46 (idx_rng hx_55) hF rfl rfl) rfl fun a hF => ?_
  refine step hF (Y.fieldAddr fo_46_0 hF rfl) rfl fun a hF => ?_
  refine O.storePart (C := C_SpareTurn) (v0 := (SpareTurn.mk 1 e_10.Start e_10.Over)) (x0 := e_10) (xs := rv_41) (us := [iv 1]) (k := 0) 26 hp_9 sz_3 (idx_rng hx_55) hF rfl rfl rfl rfl hx_55 (fun c0 h => by obtain rfl := C_SpareTurn.open h; rfl) (show 0 + 1 ≤ 3 by decide) hS rfl hr_30 fun cs_34 a w hF hS hr_38 => ?_
  try rw [show rv_41.length = (rv_41.set (Int.toNat 2) (SpareTurn.mk 1 e_10.Start e_10.Over)).length from List.length_set.symm] at hF
  try rw [show rv_41.length = (rv_41.set (Int.toNat 2) (SpareTurn.mk 1 e_10.Start e_10.Over)).length from List.length_set.symm] at hS
  refine nT ?_
  refine seq ?_
  refine region ?_
  refine step hF (Y.move hF rfl) rfl fun a hF => ?_
  refine step hF (Y.indexSl u_68 sz_25 hF rfl rfl (by decide) (by decide)) rfl fun a hF => ?_
  refine step hF (Y.load1L 30 sz_25 hF rfl hS rfl rfl) rfl fun a hF => ?_
  replace h := bind_some h
  obtain ⟨e_11, hx_56, h⟩ := h
  obtain ⟨b_21, hp_10⟩ := hS.ownPtr (i := 27) rfl (idx_rng hx_56)
  obtain ⟨cc_19, hc_19, hsub_10⟩ := ownElI (C := C_SpareTurn) hr_31 hx_56
  obtain rfl := C_SpareTurn.open hc_19
  refine step hF (Y.indexOwn hp_10 u_25 sz_46 (idx_rng hx_56) hF rfl rfl) rfl fun a hF => ?_
  refine step hF (Y.fieldAddr fo_46_0 hF rfl) rfl fun a hF => ?_
  refine O.storePart (C := C_SpareTurn) (v0 := (SpareTurn.mk 3 e_11.Start e_11.Over)) (x0 := e_11) (xs := rv_42) (us := [iv 3]) (k := 0) 27 hp_10 sz_3 (idx_rng hx_56) hF rfl rfl rfl rfl hx_56 (fun c0 h => by obtain rfl := C_SpareTurn.open h; rfl) (show 0 + 1 ≤ 3 by decide) hS rfl hr_31 fun cs_35 a w hF hS hr_39 => ?_
  try rw [show rv_42.length = (rv_42.set (Int.toNat 1) (SpareTurn.mk 3 e_11.Start e_11.Over)).length from List.length_set.symm] at hF
  try rw [show rv_42.length = (rv_42.set (Int.toNat 1) (SpareTurn.mk 3 e_11.Start e_11.Over)).length from List.length_set.symm] at hS
  refine nT ?_
  refine seq ?_
  refine seq ?_
  refine region ?_
  refine step hF (Y.assign hF rfl) rfl fun a hF => ?_
  refine nT ?_
  refine block ?_
  obtain ⟨Dv_57, hlev_56, hs_64, hS⟩ := hS.freezeC (C := C_SpareTurn) (i := 22) (xs := (rv_37.set (Int.toNat 1) (SpareTurn.mk e_6.Machine 6 e_6.Over))) rfl hr_34
  replace hG := hG.mono hlev_56
  replace hs_63 := hs_63.mono hlev_56
  replace hr_33 := hr_33.mono hlev_56
  replace hr_35 := hr_35.mono hlev_56
  replace hr_36 := hr_36.mono hlev_56
  replace hr_37 := hr_37.mono hlev_56
  replace hr_38 := hr_38.mono hlev_56
  replace hr_39 := hr_39.mono hlev_56
  obtain ⟨Dv_58, hlev_57, hs_65, hS⟩ := hS.freezeC (C := C_SpareTurn) (i := 23) (xs := (rv_38.set (Int.toNat 1) (SpareTurn.mk e_7.Machine e_7.Start 9))) rfl hr_35
  replace hG := hG.mono hlev_57
  replace hs_63 := hs_63.mono hlev_57
  replace hr_33 := hr_33.mono hlev_57
  replace hr_36 := hr_36.mono hlev_57
  replace hr_37 := hr_37.mono hlev_57
  replace hr_38 := hr_38.mono hlev_57
  replace hr_39 := hr_39.mono hlev_57
  replace hs_64 := hs_64.mono hlev_57
  obtain ⟨Dv_59, hlev_58, hs_66, hS⟩ := hS.freezeC (C := C_SpareTurn) (i := 24) (xs := (rv_39.set (Int.toNat 0) (SpareTurn.mk e_8.Machine (-3) e_8.Over))) rfl hr_36
  replace hG := hG.mono hlev_58
  replace hs_63 := hs_63.mono hlev_58
  replace hr_33 := hr_33.mono hlev_58
  replace hr_37 := hr_37.mono hlev_58
  replace hr_38 := hr_38.mono hlev_58
  replace hr_39 := hr_39.mono hlev_58
  replace hs_64 := hs_64.mono hlev_58
  replace hs_65 := hs_65.mono hlev_58
  obtain ⟨Dv_60, hlev_59, hs_67, hS⟩ := hS.freezeC (C := C_SpareTurn) (i := 25) (xs := (rv_40.set (Int.toNat 2) (SpareTurn.mk e_9.Machine 8 e_9.Over))) rfl hr_37
  replace hG := hG.mono hlev_59
  replace hs_63 := hs_63.mono hlev_59
  replace hr_33 := hr_33.mono hlev_59
  replace hr_38 := hr_38.mono hlev_59
  replace hr_39 := hr_39.mono hlev_59
  replace hs_64 := hs_64.mono hlev_59
  replace hs_65 := hs_65.mono hlev_59
  replace hs_66 := hs_66.mono hlev_59
  obtain ⟨Dv_61, hlev_60, hs_68, hS⟩ := hS.freezeC (C := C_SpareTurn) (i := 26) (xs := (rv_41.set (Int.toNat 2) (SpareTurn.mk 1 e_10.Start e_10.Over))) rfl hr_38
  replace hG := hG.mono hlev_60
  replace hs_63 := hs_63.mono hlev_60
  replace hr_33 := hr_33.mono hlev_60
  replace hr_39 := hr_39.mono hlev_60
  replace hs_64 := hs_64.mono hlev_60
  replace hs_65 := hs_65.mono hlev_60
  replace hs_66 := hs_66.mono hlev_60
  replace hs_67 := hs_67.mono hlev_60
  obtain ⟨Dv_62, hlev_61, hs_69, hS⟩ := hS.freezeC (C := C_SpareTurn) (i := 27) (xs := (rv_42.set (Int.toNat 1) (SpareTurn.mk 3 e_11.Start e_11.Over))) rfl hr_39
  replace hG := hG.mono hlev_61
  replace hs_63 := hs_63.mono hlev_61
  replace hr_33 := hr_33.mono hlev_61
  replace hs_64 := hs_64.mono hlev_61
  replace hs_65 := hs_65.mono hlev_61
  replace hs_66 := hs_66.mono hlev_61
  replace hs_67 := hs_67.mono hlev_61
  replace hs_68 := hs_68.mono hlev_61
  obtain ⟨Dv_63, hlev_62, hs_70, hS⟩ := hS.freezeC (C := C_SpareTurn) (i := 29) (xs := [(SpareTurn.mk 0 (-2) 1)]) rfl hr_33
  replace hG := hG.mono hlev_62
  replace hs_63 := hs_63.mono hlev_62
  replace hs_64 := hs_64.mono hlev_62
  replace hs_65 := hs_65.mono hlev_62
  replace hs_66 := hs_66.mono hlev_62
  replace hs_67 := hs_67.mono hlev_62
  replace hs_68 := hs_68.mono hlev_62
  replace hs_69 := hs_69.mono hlev_62
  obtain ⟨Dv_64, hlev_63, hbv_19, hS⟩ := hS.freezeB (i := 30) rfl
  replace hG := hG.mono hlev_63
  replace hs_63 := hs_63.mono hlev_63
  replace hs_64 := hs_64.mono hlev_63
  replace hs_65 := hs_65.mono hlev_63
  replace hs_66 := hs_66.mono hlev_63
  replace hs_67 := hs_67.mono hlev_63
  replace hs_68 := hs_68.mono hlev_63
  replace hs_69 := hs_69.mono hlev_63
  replace hs_70 := hs_70.mono hlev_63
  have hr_40 : Reps (C_sl C_SpareTurn) Dv_64 ([([] : List SpareTurn), (rv_37.set (Int.toNat 1) (SpareTurn.mk e_6.Machine 6 e_6.Over)), (rv_38.set (Int.toNat 1) (SpareTurn.mk e_7.Machine e_7.Start 9)), (rv_39.set (Int.toNat 0) (SpareTurn.mk e_8.Machine (-3) e_8.Over)), (rv_40.set (Int.toNat 2) (SpareTurn.mk e_9.Machine 8 e_9.Over)), (rv_41.set (Int.toNat 2) (SpareTurn.mk 1 e_10.Start e_10.Over)), (rv_42.set (Int.toNat 1) (SpareTurn.mk 3 e_11.Start e_11.Over)), (rv_43.take (Int.toNat 2)), [(SpareTurn.mk 0 (-2) 1)]] : List (List SpareTurn)) [.slice none 0 0, .slice p_37 (rv_37.set (Int.toNat 1) (SpareTurn.mk e_6.Machine 6 e_6.Over)).length c_37, .slice p_38 (rv_38.set (Int.toNat 1) (SpareTurn.mk e_7.Machine e_7.Start 9)).length c_38, .slice p_39 (rv_39.set (Int.toNat 0) (SpareTurn.mk e_8.Machine (-3) e_8.Over)).length c_39, .slice p_40 (rv_40.set (Int.toNat 2) (SpareTurn.mk e_9.Machine 8 e_9.Over)).length c_40, .slice p_41 (rv_41.set (Int.toNat 2) (SpareTurn.mk 1 e_10.Start e_10.Over)).length c_41, .slice p_42 (rv_42.set (Int.toNat 1) (SpareTurn.mk 3 e_11.Start e_11.Over)).length c_42, .slice p_43 (rv_43.take (Int.toNat 2)).length c_43, .slice p_44 ([(SpareTurn.mk 0 (-2) 1)]).length c_44] := Reps.cons (C := (C_sl C_SpareTurn)) (x := ([] : List SpareTurn)) (c := [.slice none 0 0]) (⟨_, _, rfl, SRc.nil⟩) (Reps.cons (C := (C_sl C_SpareTurn)) (x := (rv_37.set (Int.toNat 1) (SpareTurn.mk e_6.Machine 6 e_6.Over))) (c := [.slice p_37 (rv_37.set (Int.toNat 1) (SpareTurn.mk e_6.Machine 6 e_6.Over)).length c_37]) (⟨_, _, rfl, hs_64⟩) (Reps.cons (C := (C_sl C_SpareTurn)) (x := (rv_38.set (Int.toNat 1) (SpareTurn.mk e_7.Machine e_7.Start 9))) (c := [.slice p_38 (rv_38.set (Int.toNat 1) (SpareTurn.mk e_7.Machine e_7.Start 9)).length c_38]) (⟨_, _, rfl, hs_65⟩) (Reps.cons (C := (C_sl C_SpareTurn)) (x := (rv_39.set (Int.toNat 0) (SpareTurn.mk e_8.Machine (-3) e_8.Over))) (c := [.slice p_39 (rv_39.set (Int.toNat 0) (SpareTurn.mk e_8.Machine (-3) e_8.Over)).length c_39]) (⟨_, _, rfl, hs_66⟩) (Reps.cons (C := (C_sl C_SpareTurn)) (x := (rv_40.set (Int.toNat 2) (SpareTurn.mk e_9.Machine 8 e_9.Over))) (c := [.slice p_40 (rv_40.set (Int.toNat 2) (SpareTurn.mk e_9.Machine 8 e_9.Over)).length c_40]) (⟨_, _, rfl, hs_67⟩) (Reps.cons (C := (C_sl C_SpareTurn)) (x := (rv_41.set (Int.toNat 2) (SpareTurn.mk 1 e_10.Start e_10.Over))) (c := [.slice p_41 (rv_41.set (Int.toNat 2) (SpareTurn.mk 1 e_10.Start e_10.Over)).length c_41]) (⟨_, _, rfl, hs_68⟩) (Reps.cons (C := (C_sl C_SpareTurn)) (x := (rv_42.set (Int.toNat 1) (SpareTurn.mk 3 e_11.Start e_11.Over))) (c := [.slice p_42 (rv_42.set (Int.toNat 1) (SpareTurn.mk 3 e_11.Start e_11.Over)).length c_42]) (⟨_, _, rfl, hs_69⟩) (Reps.cons (C := (C_sl C_SpareTurn)) (x := (rv_43.take (Int.toNat 2))) (c := [.slice p_43 (rv_43.take (Int.toNat 2)).length c_43]) (⟨_, _, rfl, (SRc.take hs_63 (Int.toNat 2))⟩) (Reps.cons (C := (C_sl C_SpareTurn)) (x := [(SpareTurn.mk 0 (-2) 1)]) (c := [.slice p_44 ([(SpareTurn.mk 0 (-2) 1)]).length c_44]) (⟨_, _, rfl, hs_70⟩) (Reps.nil)))))))))
  have hs_71 : SRc (C_sl C_SpareTurn) Dv_64 ([([] : List SpareTurn), (rv_37.set (Int.toNat 1) (SpareTurn.mk e_6.Machine 6 e_6.Over)), (rv_38.set (Int.toNat 1) (SpareTurn.mk e_7.Machine e_7.Start 9)), (rv_39.set (Int.toNat 0) (SpareTurn.mk e_8.Machine (-3) e_8.Over)), (rv_40.set (Int.toNat 2) (SpareTurn.mk e_9.Machine 8 e_9.Over)), (rv_41.set (Int.toNat 2) (SpareTurn.mk 1 e_10.Start e_10.Over)), (rv_42.set (Int.toNat 1) (SpareTurn.mk 3 e_11.Start e_11.Over)), (rv_43.take (Int.toNat 2)), [(SpareTurn.mk 0 (-2) 1)]] : List (List SpareTurn)) (some ⟨b_15, 0, none⟩) 9 := SRc.ofCells hbv_19 hr_40 (Nat.le_refl 9)
  replace hF := hF.weak (us := [(0, .bool sv), (22, iv rv_20.2.2), (24, iv rv_22.2), (26, iv rv_25.2), (28, iv rv_28.2), (30, iv rv_30.2), (32, iv rv_32.2), (34, iv rv_34.2), (37, .slice (some ⟨b_15, 0, none⟩) ([([] : List SpareTurn), (rv_37.set (Int.toNat 1) (SpareTurn.mk e_6.Machine 6 e_6.Over)), (rv_38.set (Int.toNat 1) (SpareTurn.mk e_7.Machine e_7.Start 9)), (rv_39.set (Int.toNat 0) (SpareTurn.mk e_8.Machine (-3) e_8.Over)), (rv_40.set (Int.toNat 2) (SpareTurn.mk e_9.Machine 8 e_9.Over)), (rv_41.set (Int.toNat 2) (SpareTurn.mk 1 e_10.Start e_10.Over)), (rv_42.set (Int.toNat 1) (SpareTurn.mk 3 e_11.Start e_11.Over)), (rv_43.take (Int.toNat 2)), [(SpareTurn.mk 0 (-2) 1)]] : List (List SpareTurn)).length 9), (38, iv 0)]) (AF rfl)
  replace h := bind_some h
  obtain ⟨no, hx_57, h⟩ := h
  rw [some_inj hx_57] at hs_71 hF
  refine loop_cut (body := remontoirlaw08_SpareKnown_b2 rv_20 rv_22 rv_25 rv_28 rv_30 rv_32 rv_34 no) (out := out) (fun s a w => ∃ (v0_1 : Bool) (i_1 : Int), ∃ (Dv_65 : Stab), s = (v0_1, i_1) ∧ Dv_64.le Dv_65 ∧ Frm 445 [] [(0, .bool v0_1), (22, iv rv_20.2.2), (24, iv rv_22.2), (26, iv rv_25.2), (28, iv rv_28.2), (30, iv rv_30.2), (32, iv rv_32.2), (34, iv rv_34.2), (37, .slice (some ⟨b_15, 0, none⟩) no.length 9), (38, iv i_1)] a ∧ St w0 D0 Dv_65 [] w) (sv, 0) h ⟨sv, 0, Dv_64, rfl, Stab.le.refl _, hF.weak (AF rfl), hS.weak trivial⟩ ?_
  rintro s a w xo_1 ⟨v0_1, i_1, Dv_65, rfl, hlev_64, hF, hS⟩ h hxo_1
  unfold remontoirlaw08_SpareKnown_b2 at h
  dsimp only at h
  replace hG := hG.mono hlev_64
  replace hs_71 := hs_71.mono hlev_64
  refine seq ?_
  refine seq ?_
  refine region ?_
  refine step hF (Y.move hF rfl) rfl fun a hF => ?_
  refine step hF (Y.move hF rfl) rfl fun a hF => ?_
  refine step hF (Y.lenSl u_68 hF rfl) rfl fun a hF => ?_
  refine step hF (Y.lss hF rfl rfl) rfl fun a hF => ?_
  refine nT ?_
  refine cond_b hF rfl (fun hbv_20 => ?_) (fun hbv_20 => ?_)
  ·replace h := cond_t h hbv_20
   refine skip_ (then_n ?_)
   refine seq ?_
   refine block ?_
   refine seq ?_
   replace h := bind_some h
   obtain ⟨rv_44, hx_58, h⟩ := h
   replace h := bind_some h
   obtain ⟨e_12, hx_59, h⟩ := h
   replace h := bind_some h
   obtain ⟨rv_45, hx_60, h⟩ := h
   refine drawsV 10 (.flt 1 (.flt 2 (.flt 3 (.flt 4 (.alt 0 (.alt 5 (.flt 6 (.flt 7 (.flt 8 (.flt 9 .done)))) .stop) .stop))))) mixed_ (by kernel_rfl) (fun w => St w0 D0 Dv_65 [] w) (fun a w => ∃ (Dv_67 : Stab), Dv_65.le Dv_67 ∧ Frm 445 [] [(0, .bool v0_1), (22, iv rv_20.2.2), (24, iv rv_22.2), (26, iv rv_25.2), (28, iv rv_28.2), (30, iv rv_30.2), (32, iv rv_32.2), (34, iv rv_34.2), (37, .slice (some ⟨b_15, 0, none⟩) no.length 9), (38, iv i_1), (39, .bool rv_45.1), (333, iv rv_45.2)] a ∧ St w0 D0 Dv_67 [] w) (hS.weak (ms := []) trivial).drew (fun _ _ _ _ h => h) ?_ ?_
   ·replace hS := hS.drew
    have hle0 := hS.le
    refine stepV (i := 1) rfl hF (fun w hS => Y.move hF rfl) rfl fun a hF => ?_
    refine stepV (i := 2) rfl hF (fun w hS => Y.move hF rfl) rfl fun a hF => ?_
    obtain ⟨b_23, o_10, hE_10, hY_10⟩ := Y.indexS (P := Tryd.prog) (C := (C_sl C_SpareTurn)) (xs := no) (T := 68) (x := (.tmp 327)) (y := (.tmp 328)) u_68 sz_25 hF rfl rfl (hs_71).1 hx_59
    obtain ⟨cc_21, hc_21, hcell_10⟩ := hE_10.open
    obtain ⟨p_47, c_47, rfl, hs_74⟩ := hc_21
    refine stepV (i := 3) rfl hF (fun w hS => hY_10) rfl fun a hF => ?_
    refine stepV (i := 4) rfl hF (fun w hS => Y.load1 sz_25 hF rfl (hcell_10 _ hS.stab 0 _ rfl)) rfl fun a hF => ?_
    refine oneV (i := 0) rfl ?_ trivial
    refine O.callS (us := [iv 20]) ca_46 hF hS (remontoirlaw08_store_ok hS.stab 20 rv_44 hx_58) rfl rfl fun v_34 Dv_68 a w hR_9 hlev_66 hF hS => ?_
    replace hG := hG.mono hlev_66
    replace hs_74 := hs_74.mono hlev_66
    replace hcell_10 := fun w hw => hcell_10 w (Stab.on.le hw hlev_66)
    obtain ⟨p_48, c_48, rfl, hs_75⟩ := hR_9
    refine nT ⟨(hS.weak (ms := []) trivial).weakD hlev_66 hle0, ?_⟩
    refine oneV (i := 5) rfl ?_ trivial
    refine O.callP (us := [.agg #[iv rv_44.Hours, iv rv_44.Gap, .slice p_48 rv_44.Machines.length c_48], .slice p_47 e_12.length c_47]) ca_19 hF hS (spare_IsPlan_ok hS.stab rv_44 e_12 hs_75 hs_74 rv_45 hx_60) rfl rfl fun a w hF hS => ?_
    refine nT ⟨(hS.weak (ms := []) trivial).weakD hlev_66 hle0, ?_⟩
    refine stepV (i := 6) rfl hF (fun w hS => Y.move hF rfl) rfl fun a hF => ?_
    refine stepV (i := 7) rfl hF (fun w hS => Y.extract hF rfl rfl) rfl fun a hF => ?_
    refine stepV (i := 8) rfl hF (fun w hS => Y.extract hF rfl rfl) rfl fun a hF => ?_
    refine stepV (i := 9) rfl hF (fun w hS => Y.assign hF rfl) rfl fun a hF => ?_
    exact toTailV ⟨Dv_68, hlev_66, hF.weak (AF rfl), hS.weak trivial⟩
   rintro a w ⟨Dv_67, hle, hF, hS⟩
   have hlev_67 := hle
   replace hG := hG.mono hlev_67
   refine step hF (Y.assign hF rfl) rfl fun a hF => ?_
   refine nT ?_
   refine seq ?_
   refine region ?_
   refine step hF (Y.move hF rfl) rfl fun a hF => ?_
   refine step hF (Y.move hF rfl) rfl fun a hF => ?_
   refine join (N := 445) (rs := []) (w0 := w0) (D0 := D0) 3 (us := [(0, .bool v0_1), (22, iv rv_20.2.2), (24, iv rv_22.2), (26, iv rv_25.2), (28, iv rv_28.2), (30, iv rv_30.2), (32, iv rv_32.2), (34, iv rv_34.2), (37, .slice (some ⟨b_15, 0, none⟩) no.length 9), (38, iv i_1), (338, .bool (rv_45.1 || (rv_45.2 != 0)))]) (ms := []) (D' := Dv_67) ?_ ?_
   ·rcases bcases rv_45.1 with hbv_21 | hbv_21
    ·-- true
     refine guard_off hF rfl rfl hbv_21 rfl fun a hF => ?_
     refine guard_off hF rfl rfl hbv_21 rfl fun a hF => ?_
     refine step hF (Y.pick_t hF rfl hbv_21 rfl) rfl fun a hF => ?_
     exact nT ⟨hF.weak ⟨rfl, rfl, rfl, rfl, rfl, rfl, rfl, rfl, rfl, rfl, (by rw [hbv_21]; rfl), trivial⟩, hS.weak trivial⟩
    ·-- false
     refine guard_on hF rfl rfl hbv_21 ?_
     refine step hF (Y.move hF rfl) rfl fun a hF => ?_
     refine guard_on hF rfl rfl hbv_21 ?_
     refine step hF (Y.neq hF rfl rfl) rfl fun a hF => ?_
     refine step hF (Y.pick_f hF rfl hbv_21 rfl) rfl fun a hF => ?_
     exact nT ⟨hF.weak ⟨rfl, rfl, rfl, rfl, rfl, rfl, rfl, rfl, rfl, rfl, (by rw [hbv_21]; rfl), trivial⟩, hS.weak trivial⟩
   intro a w hF hS
   refine nT ?_
   refine cond_b hF rfl (fun hbv_22 => ?_) (fun hbv_22 => ?_)
   ·replace h := cond_t h hbv_22
    refine seq ?_
    refine region ?_
    refine step hF (Y.assign hF rfl) rfl fun a hF => ?_
    refine nT ?_
    refine ret_ (blk_r (then_r (then_r (blk_r (then_r ?_)))))
    replace h := ext_some h hxo_1
    obtain rfl := some_inj h
    exact leaveP Tryd.results14 hF hS (.cons (.tmp rfl) .nil) .nil rfl
   ·replace h := cond_f h hbv_22
    refine skip_ (blk_n (then_n ?_))
    refine region ?_
    refine step hF (Y.move hF rfl) rfl fun a hF => ?_
    refine step hF (Y.add hF rfl rfl) rfl fun a hF => ?_
    refine step hF (Y.assign hF rfl) rfl fun a hF => ?_
    refine nT ?_
    exact ⟨_, nxt_some h, v0_1, (wr (i_1 + 1)), Dv_67, rfl, hlev_64.trans hlev_67, hF.weak (AF rfl), hS.weak trivial⟩
  ·replace h := cond_f h hbv_20
   refine exit_ (then_x (then_x (blk_hit (then_n ?_))))
   replace h := ext_some h hxo_1
   exact remontoirlaw08_SpareKnown_s2_ok v0_1 rv_20.2.2 rv_22.2 rv_25.2 rv_28.2 rv_30.2 rv_32.2 rv_34.2 (hle0_.trans (hlev_21.trans (hlev_22.trans (hlev_23.trans (hlev_24.trans (hlev_25.trans (hlev_26.trans (hlev_27.trans (hlev_28.trans (hlev_29.trans (hlev_30.trans (hlev_31.trans (hlev_32.trans (hlev_33.trans (hlev_34.trans (hlev_35.trans (hlev_36.trans (hlev_37.trans (hlev_38.trans (hlev_39.trans (hlev_40.trans (hlev_41.trans (hlev_42.trans (hlev_43.trans (hlev_44.trans (hlev_45.trans (hlev_46.trans (hlev_47.trans (hlev_48.trans (hlev_49.trans (hlev_50.trans (hlev_51.trans (hlev_52.trans (hlev_53.trans (hlev_54.trans (hlev_55.trans (hlev_56.trans (hlev_57.trans (hlev_58.trans (hlev_59.trans (hlev_60.trans (hlev_61.trans (hlev_62.trans (hlev_63.trans hlev_64)))))))))))))))))))))))))))))))))))))))))))) hG out h (hF.weak (us := [(0, .bool v0_1), (22, iv rv_20.2.2), (24, iv rv_22.2), (26, iv rv_25.2), (28, iv rv_28.2), (30, iv rv_30.2), (32, iv rv_32.2), (34, iv rv_34.2)]) (AF rfl)) (hS.weak (ms := []) trivial)
end Go.Proofs.YtidmdgjgpmeecaaDoor.Rt
