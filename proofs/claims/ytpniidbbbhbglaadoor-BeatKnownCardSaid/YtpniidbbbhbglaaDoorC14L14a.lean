/- Walks of the functions of this seat: what each Go function comes to, as a Lean function, and the proof. A part of a law. Under no conditions. -/
import Derived.Test.YtpniidbbbhbglaaDoorC14WKZ
set_option linter.unusedVariables false
set_option linter.unusedSimpArgs false
set_option maxRecDepth 100000
set_option maxHeartbeats 40000000
namespace Go.Proofs.YtpniidbbbhbglaaDoor.Rt
open Go Go.RowKit
def remontoirlaw02_BeatKnown_tr3_75 : Tr := .flt 75 .done
def remontoirlaw02_BeatKnown_tr3_74 : Tr := .flt 74 remontoirlaw02_BeatKnown_tr3_75
def remontoirlaw02_BeatKnown_tr3_73 : Tr := .alt 73 remontoirlaw02_BeatKnown_tr3_74 .stop
def remontoirlaw02_BeatKnown_tr3_72 : Tr := .flt 72 remontoirlaw02_BeatKnown_tr3_73
def remontoirlaw02_BeatKnown_tr3_71 : Tr := .flt 71 remontoirlaw02_BeatKnown_tr3_72
def remontoirlaw02_BeatKnown_tr3_70 : Tr := .flt 70 remontoirlaw02_BeatKnown_tr3_71
def remontoirlaw02_BeatKnown_tr3_69 : Tr := .flt 69 remontoirlaw02_BeatKnown_tr3_70
def remontoirlaw02_BeatKnown_tr3_68 : Tr := .flt 68 remontoirlaw02_BeatKnown_tr3_69
def remontoirlaw02_BeatKnown_tr3_67 : Tr := .flt 67 remontoirlaw02_BeatKnown_tr3_68
def remontoirlaw02_BeatKnown_tr3_66 : Tr := .flt 66 remontoirlaw02_BeatKnown_tr3_67
def remontoirlaw02_BeatKnown_tr3_65 : Tr := .flt 65 remontoirlaw02_BeatKnown_tr3_66
def remontoirlaw02_BeatKnown_tr3_64 : Tr := .flt 64 remontoirlaw02_BeatKnown_tr3_65
def remontoirlaw02_BeatKnown_tr3_63 : Tr := .flt 63 remontoirlaw02_BeatKnown_tr3_64
def remontoirlaw02_BeatKnown_tr3_62 : Tr := .flt 62 remontoirlaw02_BeatKnown_tr3_63
def remontoirlaw02_BeatKnown_tr3_61 : Tr := .flt 61 remontoirlaw02_BeatKnown_tr3_62
def remontoirlaw02_BeatKnown_tr3_60 : Tr := .flt 60 remontoirlaw02_BeatKnown_tr3_61
def remontoirlaw02_BeatKnown_tr3_59 : Tr := .flt 59 remontoirlaw02_BeatKnown_tr3_60
def remontoirlaw02_BeatKnown_tr3_58 : Tr := .flt 58 remontoirlaw02_BeatKnown_tr3_59
def remontoirlaw02_BeatKnown_tr3_57 : Tr := .flt 57 remontoirlaw02_BeatKnown_tr3_58
def remontoirlaw02_BeatKnown_tr3_56 : Tr := .flt 56 remontoirlaw02_BeatKnown_tr3_57
def remontoirlaw02_BeatKnown_tr3_55 : Tr := .flt 55 remontoirlaw02_BeatKnown_tr3_56
def remontoirlaw02_BeatKnown_tr3_54 : Tr := .flt 54 remontoirlaw02_BeatKnown_tr3_55
def remontoirlaw02_BeatKnown_tr3_53 : Tr := .flt 53 remontoirlaw02_BeatKnown_tr3_54
def remontoirlaw02_BeatKnown_tr3_52 : Tr := .flt 52 remontoirlaw02_BeatKnown_tr3_53
def remontoirlaw02_BeatKnown_tr3_51 : Tr := .flt 51 remontoirlaw02_BeatKnown_tr3_52
def remontoirlaw02_BeatKnown_tr3_50 : Tr := .flt 50 remontoirlaw02_BeatKnown_tr3_51
def remontoirlaw02_BeatKnown_tr3_49 : Tr := .flt 49 remontoirlaw02_BeatKnown_tr3_50
def remontoirlaw02_BeatKnown_tr3_48 : Tr := .flt 48 remontoirlaw02_BeatKnown_tr3_49
def remontoirlaw02_BeatKnown_tr3_47 : Tr := .flt 47 remontoirlaw02_BeatKnown_tr3_48
def remontoirlaw02_BeatKnown_tr3_46 : Tr := .flt 46 remontoirlaw02_BeatKnown_tr3_47
def remontoirlaw02_BeatKnown_tr3_45 : Tr := .flt 45 remontoirlaw02_BeatKnown_tr3_46
def remontoirlaw02_BeatKnown_tr3_44 : Tr := .flt 44 remontoirlaw02_BeatKnown_tr3_45
def remontoirlaw02_BeatKnown_tr3_43 : Tr := .flt 43 remontoirlaw02_BeatKnown_tr3_44
def remontoirlaw02_BeatKnown_tr3_42 : Tr := .flt 42 remontoirlaw02_BeatKnown_tr3_43
def remontoirlaw02_BeatKnown_tr3_41 : Tr := .flt 41 remontoirlaw02_BeatKnown_tr3_42
def remontoirlaw02_BeatKnown_tr3_40 : Tr := .flt 40 remontoirlaw02_BeatKnown_tr3_41
def remontoirlaw02_BeatKnown_tr3_39 : Tr := .flt 39 remontoirlaw02_BeatKnown_tr3_40
def remontoirlaw02_BeatKnown_tr3_38 : Tr := .flt 38 remontoirlaw02_BeatKnown_tr3_39
def remontoirlaw02_BeatKnown_tr3_37 : Tr := .flt 37 remontoirlaw02_BeatKnown_tr3_38
def remontoirlaw02_BeatKnown_tr3_36 : Tr := .flt 36 remontoirlaw02_BeatKnown_tr3_37
def remontoirlaw02_BeatKnown_tr3_35 : Tr := .flt 35 remontoirlaw02_BeatKnown_tr3_36
def remontoirlaw02_BeatKnown_tr3_34 : Tr := .flt 34 remontoirlaw02_BeatKnown_tr3_35
def remontoirlaw02_BeatKnown_tr3_33 : Tr := .flt 33 remontoirlaw02_BeatKnown_tr3_34
def remontoirlaw02_BeatKnown_tr3_32 : Tr := .flt 32 remontoirlaw02_BeatKnown_tr3_33
def remontoirlaw02_BeatKnown_tr3_31 : Tr := .alt 31 remontoirlaw02_BeatKnown_tr3_32 .stop
def remontoirlaw02_BeatKnown_tr3_30 : Tr := .flt 30 remontoirlaw02_BeatKnown_tr3_31
def remontoirlaw02_BeatKnown_tr3_29 : Tr := .flt 29 remontoirlaw02_BeatKnown_tr3_30
def remontoirlaw02_BeatKnown_tr3_28 : Tr := .flt 28 remontoirlaw02_BeatKnown_tr3_29
def remontoirlaw02_BeatKnown_tr3_27 : Tr := .flt 27 remontoirlaw02_BeatKnown_tr3_28
def remontoirlaw02_BeatKnown_tr3_26 : Tr := .flt 26 remontoirlaw02_BeatKnown_tr3_27
def remontoirlaw02_BeatKnown_tr3_25 : Tr := .flt 25 remontoirlaw02_BeatKnown_tr3_26
def remontoirlaw02_BeatKnown_tr3_24 : Tr := .flt 24 remontoirlaw02_BeatKnown_tr3_25
def remontoirlaw02_BeatKnown_tr3_23 : Tr := .flt 23 remontoirlaw02_BeatKnown_tr3_24
def remontoirlaw02_BeatKnown_tr3_22 : Tr := .alt 22 remontoirlaw02_BeatKnown_tr3_23 .stop
def remontoirlaw02_BeatKnown_tr3_21 : Tr := .flt 21 remontoirlaw02_BeatKnown_tr3_22
def remontoirlaw02_BeatKnown_tr3_20 : Tr := .flt 20 remontoirlaw02_BeatKnown_tr3_21
def remontoirlaw02_BeatKnown_tr3_19 : Tr := .flt 19 remontoirlaw02_BeatKnown_tr3_20
def remontoirlaw02_BeatKnown_tr3_18 : Tr := .flt 18 remontoirlaw02_BeatKnown_tr3_19
def remontoirlaw02_BeatKnown_tr3_17 : Tr := .flt 17 remontoirlaw02_BeatKnown_tr3_18
def remontoirlaw02_BeatKnown_tr3_16 : Tr := .flt 16 remontoirlaw02_BeatKnown_tr3_17
def remontoirlaw02_BeatKnown_tr3_15 : Tr := .flt 15 remontoirlaw02_BeatKnown_tr3_16
def remontoirlaw02_BeatKnown_tr3_14 : Tr := .flt 14 remontoirlaw02_BeatKnown_tr3_15
def remontoirlaw02_BeatKnown_tr3_13 : Tr := .alt 13 remontoirlaw02_BeatKnown_tr3_14 .stop
def remontoirlaw02_BeatKnown_tr3_12 : Tr := .flt 12 remontoirlaw02_BeatKnown_tr3_13
def remontoirlaw02_BeatKnown_tr3_11 : Tr := .flt 11 remontoirlaw02_BeatKnown_tr3_12
def remontoirlaw02_BeatKnown_tr3_10 : Tr := .flt 10 remontoirlaw02_BeatKnown_tr3_11
def remontoirlaw02_BeatKnown_tr3_9 : Tr := .flt 9 remontoirlaw02_BeatKnown_tr3_10
def remontoirlaw02_BeatKnown_tr3_8 : Tr := .flt 8 remontoirlaw02_BeatKnown_tr3_9
def remontoirlaw02_BeatKnown_tr3_7 : Tr := .flt 7 remontoirlaw02_BeatKnown_tr3_8
def remontoirlaw02_BeatKnown_tr3_6 : Tr := .flt 6 remontoirlaw02_BeatKnown_tr3_7
def remontoirlaw02_BeatKnown_tr3_5 : Tr := .flt 5 remontoirlaw02_BeatKnown_tr3_6
def remontoirlaw02_BeatKnown_tr3_4 : Tr := .alt 4 remontoirlaw02_BeatKnown_tr3_5 .stop
def remontoirlaw02_BeatKnown_tr3_3 : Tr := .flt 3 remontoirlaw02_BeatKnown_tr3_4
def remontoirlaw02_BeatKnown_tr3_2 : Tr := .flt 2 remontoirlaw02_BeatKnown_tr3_3
def remontoirlaw02_BeatKnown_tr3_1 : Tr := .flt 1 remontoirlaw02_BeatKnown_tr3_2
def remontoirlaw02_BeatKnown_tr3_0 : Tr := .flt 0 remontoirlaw02_BeatKnown_tr3_1
noncomputable def remontoirlaw02_BeatKnown_k2 (rv_53 : (Span × Int)) (rv_55 : (Span × Int)) (rv_57 : (Span × Int)) (rv_59 : (Span × Int)) (rv_61 : ((List Int) × Int)) (rv_63 : (Int × Int × Int)) (rv_65 : (Bool × Int)) (is : Bool) (hv : Int) : Option Bool :=
  (cond (rv_53.2 == 0) ((r0To 100000 100000).bind fun rv_71 =>
  some ([rv_53.1.Low, rv_53.1.High] == [rv_71.Low, rv_71.High])) (some false)).bind fun t_5 =>
  (cond (t_5 && (rv_55.2 == 0)) ((r0To (-5) 136).bind fun rv_72 =>
  some ([rv_55.1.Low, rv_55.1.High] == [rv_72.Low, rv_72.High])) (some false)).bind fun t_6 =>
  (cond (t_6 && (rv_57.2 == 0)) ((r0To 0 0).bind fun rv_73 =>
  some ([rv_57.1.Low, rv_57.1.High] == [rv_73.Low, rv_73.High])) (some false)).bind fun t_7 =>
  (cond (t_7 && (rv_59.2 == 0)) ((r0To (-3) 0).bind fun rv_74 =>
  some ([rv_59.1.Low, rv_59.1.High] == [rv_74.Low, rv_74.High])) (some false)).bind fun t_8 =>
  (cond (((((((((t_8 && (rv_61.2 == 0)) && ((rv_61.1.length : Int) == 0)) && (rv_63.2.2 == 0)) && (rv_63.1 == 0)) && (rv_63.2.1 == 4)) && (rv_65.2 == 0)) && (!rv_65.1)) && (hv == 0)) && is) ((remontoirlaw02_works).bind fun rv_75 =>
  some rv_75) (some false)).bind fun t_9 =>
  some t_9
noncomputable def remontoirlaw02_BeatKnown_s1 (sv : Bool) : Option Bool :=
  (remontoirlaw02_torn).bind fun rv_20 =>
  (remontoirlaw02_cellar rv_20).bind fun rv_21 =>
  (beat_Offset rv_21 3 0).bind fun rv_22 =>
  (remontoirlaw02_cellar ([] : List BeatPair)).bind fun rv_23 =>
  (beat_Offset rv_23 0 4).bind fun rv_24 =>
  (remontoirlaw02_cellar ([] : List BeatPair)).bind fun rv_25 =>
  (beat_Apart rv_25 0 (-1) 0).bind fun rv_26 =>
  (remontoirlaw02_cellar ([] : List BeatPair)).bind fun rv_27 =>
  (beat_Drift rv_27 0 0 4).bind fun rv_28 =>
  (remontoirlaw02_cellar ([] : List BeatPair)).bind fun rv_29 =>
  (beat_Case rv_29 (-1) 0 true).bind fun rv_30 =>
  (remontoirlaw02_torn).bind fun rv_31 =>
  (remontoirlaw02_cellar rv_31).bind fun rv_32 =>
  (beat_Best rv_32 (-1)).bind fun rv_33 =>
  cond ((((((rv_22.2 != 21) || (rv_24.2 != 21)) || (rv_26.2 != 21)) || (rv_28.2 != 21)) || (rv_30.2 != 21)) || (rv_33.2.2 != 21))
  (some false)
  ((remontoirlaw02_torn).bind fun rv_34 =>
  (remontoirlaw02_cellar rv_34).bind fun rv_35 =>
  (beat_Offset rv_35 0 0).bind fun rv_36 =>
  (remontoirlaw02_torn).bind fun rv_37 =>
  (remontoirlaw02_cellar rv_37).bind fun rv_38 =>
  (beat_Apart rv_38 0 0 0).bind fun rv_39 =>
  (remontoirlaw02_torn).bind fun rv_40 =>
  (remontoirlaw02_cellar rv_40).bind fun rv_41 =>
  (beat_Drift rv_41 0 0 0).bind fun rv_42 =>
  (remontoirlaw02_torn).bind fun rv_43 =>
  (remontoirlaw02_cellar rv_43).bind fun rv_44 =>
  (beat_Case rv_44 0 0 true).bind fun rv_45 =>
  (remontoirlaw02_torn).bind fun rv_46 =>
  (remontoirlaw02_cellar rv_46).bind fun rv_47 =>
  (beat_Best rv_47 0).bind fun rv_48 =>
  (r0To 100000 100000).bind fun rv_49 =>
  (r0To 100000 100000).bind fun rv_50 =>
  (r0To 1 1).bind fun rv_51 =>
  (beat_Wrong (BeatCellar.mk 1 ([(Span.mk 0 0)]) ([(BeatOpen.mk 0 0 rv_49), (BeatOpen.mk 0 0 rv_50), (BeatOpen.mk 0 0 rv_51)]) ([] : List BeatPair))).bind fun rv_52 =>
  cond ((((((rv_36.2 != 22) || (rv_39.2 != 22)) || (rv_42.2 != 22)) || (rv_45.2 != 22)) || (rv_48.2.2 != 22)) || (rv_52.2 != 22))
  (some false)
  (if (0 : Int) ≤ 2 ∧ 2 ≤ (([(BeatOpen.mk 0 0 rv_49), (BeatOpen.mk 0 0 rv_50), (BeatOpen.mk 0 0 rv_51)]).length : Int) then
  (beat_Offset (BeatCellar.mk 1 ([(Span.mk 0 0)]) (([(BeatOpen.mk 0 0 rv_49), (BeatOpen.mk 0 0 rv_50), (BeatOpen.mk 0 0 rv_51)]).take (Int.toNat 2)) ([] : List BeatPair)) 0 1).bind fun rv_53 =>
  (remontoirlaw02_cellar ([] : List BeatPair)).bind fun rv_54 =>
  (beat_Offset rv_54 2 1).bind fun rv_55 =>
  (remontoirlaw02_cellar ([] : List BeatPair)).bind fun rv_56 =>
  (beat_Apart rv_56 1 1 2).bind fun rv_57 =>
  (remontoirlaw02_cellar ([] : List BeatPair)).bind fun rv_58 =>
  (beat_Drift rv_58 1 3 0).bind fun rv_59 =>
  (remontoirlaw02_cellar ([] : List BeatPair)).bind fun rv_60 =>
  (beat_Wrong rv_60).bind fun rv_61 =>
  (remontoirlaw02_cellar ([] : List BeatPair)).bind fun rv_62 =>
  (beat_Best rv_62 0).bind fun rv_63 =>
  (remontoirlaw02_cellar ([] : List BeatPair)).bind fun rv_64 =>
  (beat_IsTruth rv_64 ([[100, 98, 98, 98], [57, 58, 59, 60], [65, 65, 65]])).bind fun rv_65 =>
  (remontoirlaw02_cellar ([] : List BeatPair)).bind fun rv_76 =>
  (beat_IsTruth rv_76 ([[100, 98, 98, 98], [57, 58, 59, 60], [65, 65, 65, 65]])).bind fun rv_77 =>
  remontoirlaw02_BeatKnown_k2 rv_53 rv_55 rv_57 rv_59 rv_61 rv_63 rv_65 rv_77.1 rv_77.2
  else none))
noncomputable def remontoirlaw02_BeatKnown_b1 (bad : (List BeatCellar)) : (Bool × Int) → Option ((Bool × Int) ⊕ Bool)
 | (v0_0, i) =>
  cond (decide (i < (bad.length : Int)))
  ((idx bad i).bind fun e_7 =>
  (beat_IsTruth e_7 ([] : List (List Int))).bind fun rv_12 =>
  (beat_Offset e_7 (-1) 0).bind fun rv_13 =>
  (beat_Apart e_7 (-1) 0 0).bind fun rv_14 =>
  (beat_Drift e_7 (-1) 0 0).bind fun rv_15 =>
  (beat_Case e_7 (-1) 0 true).bind fun rv_16 =>
  (beat_Wrong e_7).bind fun rv_17 =>
  (beat_Best e_7 (-1)).bind fun rv_18 =>
  (beat_Check e_7).bind fun rv_19 =>
  cond ((((((((rv_19 != 20) || (rv_12.2 != 20)) || (rv_13.2 != 20)) || (rv_14.2 != 20)) || (rv_15.2 != 20)) || (rv_16.2 != 20)) || (rv_17.2 != 20)) || (rv_18.2.2 != 20))
  (ext (some false))
  (nxt (v0_0, wr (i + 1))))
  (ext (remontoirlaw02_BeatKnown_s1 v0_0))
noncomputable def remontoirlaw02_BeatKnown : Option Bool :=
  (remontoirlaw02_cellar ([] : List BeatPair)).bind fun rv =>
  (remontoirlaw02_cellar ([] : List BeatPair)).bind fun rv_1 =>
  (remontoirlaw02_cellar ([] : List BeatPair)).bind fun rv_2 =>
  (remontoirlaw02_cellar ([] : List BeatPair)).bind fun rv_3 =>
  (remontoirlaw02_cellar ([] : List BeatPair)).bind fun rv_4 =>
  (remontoirlaw02_cellar ([] : List BeatPair)).bind fun rv_5 =>
  (remontoirlaw02_cellar ([] : List BeatPair)).bind fun rv_6 =>
  (remontoirlaw02_cellar ([] : List BeatPair)).bind fun rv_7 =>
  (remontoirlaw02_cellar ([] : List BeatPair)).bind fun rv_8 =>
  (r0To 0 1001).bind fun rv_9 =>
  if (0 : Int) ≤ 0 ∧ 0 < (rv_1.Rates.length : Int) then
  (idx rv_2.Opens 0).bind fun e =>
  (idx rv_3.Opens 0).bind fun e_1 =>
  (r0To 1 0).bind fun rv_10 =>
  (idx rv_4.Opens 0).bind fun e_2 =>
  (idx rv_5.Pairs 0).bind fun e_3 =>
  (idx rv_6.Pairs 1).bind fun e_4 =>
  (idx rv_7.Pairs 1).bind fun e_5 =>
  (r0To 0 200001).bind fun rv_11 =>
  (idx rv_8.Pairs 2).bind fun e_6 =>
  (some ([(BeatCellar.mk 0 ([] : List Span) ([] : List BeatOpen) ([] : List BeatPair)), (BeatCellar.mk 13 rv.Rates rv.Opens rv.Pairs), (BeatCellar.mk rv_1.Hours (rv_1.Rates.set (Int.toNat 0) rv_9) rv_1.Opens rv_1.Pairs), (BeatCellar.mk rv_2.Hours rv_2.Rates (rv_2.Opens.set (Int.toNat 0) (BeatOpen.mk 3 e.Hour e.Step)) rv_2.Pairs), (BeatCellar.mk rv_3.Hours rv_3.Rates (rv_3.Opens.set (Int.toNat 0) (BeatOpen.mk e_1.Clock 3 e_1.Step)) rv_3.Pairs), (BeatCellar.mk rv_4.Hours rv_4.Rates (rv_4.Opens.set (Int.toNat 0) (BeatOpen.mk e_2.Clock e_2.Hour rv_10)) rv_4.Pairs), (BeatCellar.mk rv_5.Hours rv_5.Rates rv_5.Opens (rv_5.Pairs.set (Int.toNat 0) (BeatPair.mk 4 e_3.One e_3.Other e_3.Read))), (BeatCellar.mk rv_6.Hours rv_6.Rates rv_6.Opens (rv_6.Pairs.set (Int.toNat 1) (BeatPair.mk e_4.Hour e_4.One 0 e_4.Read))), (BeatCellar.mk rv_7.Hours rv_7.Rates rv_7.Opens (rv_7.Pairs.set (Int.toNat 1) (BeatPair.mk e_5.Hour (-1) e_5.Other e_5.Read))), (BeatCellar.mk rv_8.Hours rv_8.Rates rv_8.Opens (rv_8.Pairs.set (Int.toNat 2) (BeatPair.mk e_6.Hour e_6.One e_6.Other rv_11)))] : List BeatCellar)).bind fun bad =>
  loopU (remontoirlaw02_BeatKnown_b1 bad) (false, 0)
  else none
theorem remontoirlaw02_BeatKnown_s1_ok {w0 : World} {D0 : Stab} (sv : Bool) {Dv_40 : Stab} (hle0_ : D0.le Dv_40) (hG : Glob Dv_40) (out : Bool) (h : remontoirlaw02_BeatKnown_s1 sv = some out) {a : Act} {w : World} (hF : Frm 455 [] [(0, .bool sv)] a) (hS : St w0 D0 Dv_40 [] w) : WP none Tryd.prog (dropSeq 12 (Tryd.f14.body.getD .skip)) (base Tryd.prog Tryd.f14 (RetP D0 w0 (.bool out))) a w := by
 unfold remontoirlaw02_BeatKnown_s1 at h
 refine seq ?_
 refine region ?_
 replace h := bind_some h
 obtain ⟨rv_20, hx_29, h⟩ := h
 refine O.callM (us := []) ca_43 hF (remontoirlaw02_torn_keep hS.stab rv_20 hx_29) rfl rfl fun v_11 Dv_41 a w hK_9 hlev_40 hF => ?_
 replace hG := hG.mono hlev_40
 obtain ⟨p_53, c_53, cs_35, hS2_9, rfl, hr_36⟩ := hK_9
 replace hS := hS.join hS2_9
 replace hS := hS.move 32 900 rfl (by decide)
 replace hS := hS.weak (ms := [(32, .own p_53 rv_20.length c_53 cs_35 61 5)]) ⟨rfl, trivial⟩
 obtain ⟨Dv_42, hlev_41, hs_82, hS⟩ := hS.freezeC (C := C_BeatPair) (i := 32) (xs := rv_20) rfl hr_36
 replace hG := hG.mono hlev_41
 replace h := bind_some h
 obtain ⟨rv_21, hx_30, h⟩ := h
 refine O.callM (us := [.slice p_53 rv_20.length c_53]) ca_42 hF (remontoirlaw02_cellar_keep hS.stab rv_20 hs_82 rv_21 hx_30) rfl rfl fun v_12 Dv_43 a w hK_10 hlev_42 hF => ?_
 replace hG := hG.mono hlev_42
 obtain ⟨p_54, c_54, cs_36, p_55, c_55, cs_37, p_56, c_56, cs_38, hS2_10, rfl, hr_37, hr_38, hr_39⟩ := hK_10
 replace hS := hS.join hS2_10
 replace hS := hS.move 33 900 rfl (by decide)
 replace hS := hS.move 34 901 rfl (by decide)
 replace hS := hS.move 35 902 rfl (by decide)
 replace hS := hS.weak (ms := [(33, .own p_54 rv_21.Rates.length c_54 cs_36 34 2), (34, .own p_55 rv_21.Opens.length c_55 cs_37 63 4), (35, .own p_56 rv_21.Pairs.length c_56 cs_38 61 5)]) (AL rfl)
 obtain ⟨Dv_44, hlev_43, hs_86, hS⟩ := hS.freezeC (C := C_Span) (i := 33) (xs := rv_21.Rates) rfl hr_37
 replace hG := hG.mono hlev_43
 replace hr_38 := hr_38.mono hlev_43
 replace hr_39 := hr_39.mono hlev_43
 obtain ⟨Dv_45, hlev_44, hs_87, hS⟩ := hS.freezeC (C := C_BeatOpen) (i := 34) (xs := rv_21.Opens) rfl hr_38
 replace hG := hG.mono hlev_44
 replace hr_39 := hr_39.mono hlev_44
 replace hs_86 := hs_86.mono hlev_44
 obtain ⟨Dv_46, hlev_45, hs_88, hS⟩ := hS.freezeC (C := C_BeatPair) (i := 35) (xs := rv_21.Pairs) rfl hr_39
 replace hG := hG.mono hlev_45
 replace hs_86 := hs_86.mono hlev_45
 replace hs_87 := hs_87.mono hlev_45
 replace h := bind_some h
 obtain ⟨rv_22, hx_31, h⟩ := h
 refine O.callP (us := [.agg #[iv rv_21.Hours, .slice p_54 rv_21.Rates.length c_54, .slice p_55 rv_21.Opens.length c_55, .slice p_56 rv_21.Pairs.length c_56], iv 3, iv 0]) ca_19 hF hS (beat_Offset_ok hS.stab rv_21 3 0 hs_86 hs_87 hs_88 hG rv_22 hx_31) rfl rfl fun a w hF hS => ?_
 refine step hF (Y.move hF rfl) rfl fun a hF => ?_
 refine step hF (Y.extract hF rfl rfl) rfl fun a hF => ?_
 refine step hF (Y.extract hF rfl rfl) rfl fun a hF => ?_
 refine O.alloc 36 zc_34 hF hS rfl fun b_20 a w hF hS => ?_
 refine O.store (us := [iv rv_22.1.Low, iv rv_22.1.High]) 36 sz_34 hF rfl rfl rfl rfl hS rfl rfl fun a w hF hS => ?_
 refine step hF (Y.assign hF rfl) rfl fun a hF => ?_
 refine nT ?_
 refine seq ?_
 refine region ?_
 replace h := bind_some h
 obtain ⟨rv_23, hx_32, h⟩ := h
 refine O.callM (us := [.slice none 0 0]) ca_42 hF (remontoirlaw02_cellar_keep hS.stab ([] : List BeatPair) SRc.nil rv_23 hx_32) rfl rfl fun v_13 Dv_47 a w hK_11 hlev_46 hF => ?_
 replace hG := hG.mono hlev_46
 obtain ⟨p_57, c_57, cs_39, p_58, c_58, cs_40, p_59, c_59, cs_41, hS2_11, rfl, hr_40, hr_41, hr_42⟩ := hK_11
 replace hS := hS.join hS2_11
 replace hS := hS.move 37 900 rfl (by decide)
 replace hS := hS.move 38 901 rfl (by decide)
 replace hS := hS.move 39 902 rfl (by decide)
 replace hS := hS.weak (ms := [(36, .cells b_20 [iv rv_22.1.Low, iv rv_22.1.High] 34), (37, .own p_57 rv_23.Rates.length c_57 cs_39 34 2), (38, .own p_58 rv_23.Opens.length c_58 cs_40 63 4), (39, .own p_59 rv_23.Pairs.length c_59 cs_41 61 5)]) (AL rfl)
 obtain ⟨Dv_48, hlev_47, hs_92, hS⟩ := hS.freezeC (C := C_Span) (i := 37) (xs := rv_23.Rates) rfl hr_40
 replace hG := hG.mono hlev_47
 replace hr_41 := hr_41.mono hlev_47
 replace hr_42 := hr_42.mono hlev_47
 obtain ⟨Dv_49, hlev_48, hs_93, hS⟩ := hS.freezeC (C := C_BeatOpen) (i := 38) (xs := rv_23.Opens) rfl hr_41
 replace hG := hG.mono hlev_48
 replace hr_42 := hr_42.mono hlev_48
 replace hs_92 := hs_92.mono hlev_48
 obtain ⟨Dv_50, hlev_49, hs_94, hS⟩ := hS.freezeC (C := C_BeatPair) (i := 39) (xs := rv_23.Pairs) rfl hr_42
 replace hG := hG.mono hlev_49
 replace hs_92 := hs_92.mono hlev_49
 replace hs_93 := hs_93.mono hlev_49
 replace h := bind_some h
 obtain ⟨rv_24, hx_33, h⟩ := h
 refine O.callP (us := [.agg #[iv rv_23.Hours, .slice p_57 rv_23.Rates.length c_57, .slice p_58 rv_23.Opens.length c_58, .slice p_59 rv_23.Pairs.length c_59], iv 0, iv 4]) ca_19 hF hS (beat_Offset_ok hS.stab rv_23 0 4 hs_92 hs_93 hs_94 hG rv_24 hx_33) rfl rfl fun a w hF hS => ?_
 refine step hF (Y.move hF rfl) rfl fun a hF => ?_
 refine step hF (Y.extract hF rfl rfl) rfl fun a hF => ?_
 refine step hF (Y.extract hF rfl rfl) rfl fun a hF => ?_
 refine O.alloc 40 zc_34 hF hS rfl fun b_21 a w hF hS => ?_
 refine O.store (us := [iv rv_24.1.Low, iv rv_24.1.High]) 40 sz_34 hF rfl rfl rfl rfl hS rfl rfl fun a w hF hS => ?_
 refine step hF (Y.assign hF rfl) rfl fun a hF => ?_
 refine nT ?_
 refine seq ?_
 refine region ?_
 replace h := bind_some h
 obtain ⟨rv_25, hx_34, h⟩ := h
 refine O.callM (us := [.slice none 0 0]) ca_42 hF (remontoirlaw02_cellar_keep hS.stab ([] : List BeatPair) SRc.nil rv_25 hx_34) rfl rfl fun v_14 Dv_51 a w hK_12 hlev_50 hF => ?_
 replace hG := hG.mono hlev_50
 obtain ⟨p_60, c_60, cs_42, p_61, c_61, cs_43, p_62, c_62, cs_44, hS2_12, rfl, hr_43, hr_44, hr_45⟩ := hK_12
 replace hS := hS.join hS2_12
 replace hS := hS.move 41 900 rfl (by decide)
 replace hS := hS.move 42 901 rfl (by decide)
 replace hS := hS.move 43 902 rfl (by decide)
 replace hS := hS.weak (ms := [(36, .cells b_20 [iv rv_22.1.Low, iv rv_22.1.High] 34), (40, .cells b_21 [iv rv_24.1.Low, iv rv_24.1.High] 34), (41, .own p_60 rv_25.Rates.length c_60 cs_42 34 2), (42, .own p_61 rv_25.Opens.length c_61 cs_43 63 4), (43, .own p_62 rv_25.Pairs.length c_62 cs_44 61 5)]) (AL rfl)
 obtain ⟨Dv_52, hlev_51, hs_98, hS⟩ := hS.freezeC (C := C_Span) (i := 41) (xs := rv_25.Rates) rfl hr_43
 replace hG := hG.mono hlev_51
 replace hr_44 := hr_44.mono hlev_51
 replace hr_45 := hr_45.mono hlev_51
 obtain ⟨Dv_53, hlev_52, hs_99, hS⟩ := hS.freezeC (C := C_BeatOpen) (i := 42) (xs := rv_25.Opens) rfl hr_44
 replace hG := hG.mono hlev_52
 replace hr_45 := hr_45.mono hlev_52
 replace hs_98 := hs_98.mono hlev_52
 obtain ⟨Dv_54, hlev_53, hs_100, hS⟩ := hS.freezeC (C := C_BeatPair) (i := 43) (xs := rv_25.Pairs) rfl hr_45
 replace hG := hG.mono hlev_53
 replace hs_98 := hs_98.mono hlev_53
 replace hs_99 := hs_99.mono hlev_53
 replace h := bind_some h
 obtain ⟨rv_26, hx_35, h⟩ := h
 refine O.callP (us := [.agg #[iv rv_25.Hours, .slice p_60 rv_25.Rates.length c_60, .slice p_61 rv_25.Opens.length c_61, .slice p_62 rv_25.Pairs.length c_62], iv 0, iv (-1), iv 0]) ca_22 hF hS (beat_Apart_ok hS.stab rv_25 0 (-1) 0 hs_98 hs_99 hs_100 hG rv_26 hx_35) rfl rfl fun a w hF hS => ?_
 refine step hF (Y.move hF rfl) rfl fun a hF => ?_
 refine step hF (Y.extract hF rfl rfl) rfl fun a hF => ?_
 refine step hF (Y.extract hF rfl rfl) rfl fun a hF => ?_
 refine O.alloc 44 zc_34 hF hS rfl fun b_22 a w hF hS => ?_
 refine O.store (us := [iv rv_26.1.Low, iv rv_26.1.High]) 44 sz_34 hF rfl rfl rfl rfl hS rfl rfl fun a w hF hS => ?_
 refine step hF (Y.assign hF rfl) rfl fun a hF => ?_
 refine nT ?_
 refine seq ?_
 refine region ?_
 replace h := bind_some h
 obtain ⟨rv_27, hx_36, h⟩ := h
 refine O.callM (us := [.slice none 0 0]) ca_42 hF (remontoirlaw02_cellar_keep hS.stab ([] : List BeatPair) SRc.nil rv_27 hx_36) rfl rfl fun v_15 Dv_55 a w hK_13 hlev_54 hF => ?_
 replace hG := hG.mono hlev_54
 obtain ⟨p_63, c_63, cs_45, p_64, c_64, cs_46, p_65, c_65, cs_47, hS2_13, rfl, hr_46, hr_47, hr_48⟩ := hK_13
 replace hS := hS.join hS2_13
 replace hS := hS.move 45 900 rfl (by decide)
 replace hS := hS.move 46 901 rfl (by decide)
 replace hS := hS.move 47 902 rfl (by decide)
 replace hS := hS.weak (ms := [(36, .cells b_20 [iv rv_22.1.Low, iv rv_22.1.High] 34), (40, .cells b_21 [iv rv_24.1.Low, iv rv_24.1.High] 34), (44, .cells b_22 [iv rv_26.1.Low, iv rv_26.1.High] 34), (45, .own p_63 rv_27.Rates.length c_63 cs_45 34 2), (46, .own p_64 rv_27.Opens.length c_64 cs_46 63 4), (47, .own p_65 rv_27.Pairs.length c_65 cs_47 61 5)]) (AL rfl)
 obtain ⟨Dv_56, hlev_55, hs_104, hS⟩ := hS.freezeC (C := C_Span) (i := 45) (xs := rv_27.Rates) rfl hr_46
 replace hG := hG.mono hlev_55
 replace hr_47 := hr_47.mono hlev_55
 replace hr_48 := hr_48.mono hlev_55
 obtain ⟨Dv_57, hlev_56, hs_105, hS⟩ := hS.freezeC (C := C_BeatOpen) (i := 46) (xs := rv_27.Opens) rfl hr_47
 replace hG := hG.mono hlev_56
 replace hr_48 := hr_48.mono hlev_56
 replace hs_104 := hs_104.mono hlev_56
 obtain ⟨Dv_58, hlev_57, hs_106, hS⟩ := hS.freezeC (C := C_BeatPair) (i := 47) (xs := rv_27.Pairs) rfl hr_48
 replace hG := hG.mono hlev_57
 replace hs_104 := hs_104.mono hlev_57
 replace hs_105 := hs_105.mono hlev_57
 replace h := bind_some h
 obtain ⟨rv_28, hx_37, h⟩ := h
 refine O.callP (us := [.agg #[iv rv_27.Hours, .slice p_63 rv_27.Rates.length c_63, .slice p_64 rv_27.Opens.length c_64, .slice p_65 rv_27.Pairs.length c_65], iv 0, iv 0, iv 4]) ca_24 hF hS (beat_Drift_ok hS.stab rv_27 0 0 4 hs_104 hs_105 hs_106 hG rv_28 hx_37) rfl rfl fun a w hF hS => ?_
 refine step hF (Y.move hF rfl) rfl fun a hF => ?_
 refine step hF (Y.extract hF rfl rfl) rfl fun a hF => ?_
 refine step hF (Y.extract hF rfl rfl) rfl fun a hF => ?_
 refine O.alloc 48 zc_34 hF hS rfl fun b_23 a w hF hS => ?_
 refine O.store (us := [iv rv_28.1.Low, iv rv_28.1.High]) 48 sz_34 hF rfl rfl rfl rfl hS rfl rfl fun a w hF hS => ?_
 refine step hF (Y.assign hF rfl) rfl fun a hF => ?_
 refine nT ?_
 refine seq ?_
 refine region ?_
 replace h := bind_some h
 obtain ⟨rv_29, hx_38, h⟩ := h
 refine O.callM (us := [.slice none 0 0]) ca_42 hF (remontoirlaw02_cellar_keep hS.stab ([] : List BeatPair) SRc.nil rv_29 hx_38) rfl rfl fun v_16 Dv_59 a w hK_14 hlev_58 hF => ?_
 replace hG := hG.mono hlev_58
 obtain ⟨p_66, c_66, cs_48, p_67, c_67, cs_49, p_68, c_68, cs_50, hS2_14, rfl, hr_49, hr_50, hr_51⟩ := hK_14
 replace hS := hS.join hS2_14
 replace hS := hS.move 49 900 rfl (by decide)
 replace hS := hS.move 50 901 rfl (by decide)
 replace hS := hS.move 51 902 rfl (by decide)
 replace hS := hS.weak (ms := [(36, .cells b_20 [iv rv_22.1.Low, iv rv_22.1.High] 34), (40, .cells b_21 [iv rv_24.1.Low, iv rv_24.1.High] 34), (44, .cells b_22 [iv rv_26.1.Low, iv rv_26.1.High] 34), (48, .cells b_23 [iv rv_28.1.Low, iv rv_28.1.High] 34), (49, .own p_66 rv_29.Rates.length c_66 cs_48 34 2), (50, .own p_67 rv_29.Opens.length c_67 cs_49 63 4), (51, .own p_68 rv_29.Pairs.length c_68 cs_50 61 5)]) (AL rfl)
 obtain ⟨Dv_60, hlev_59, hs_110, hS⟩ := hS.freezeC (C := C_Span) (i := 49) (xs := rv_29.Rates) rfl hr_49
 replace hG := hG.mono hlev_59
 replace hr_50 := hr_50.mono hlev_59
 replace hr_51 := hr_51.mono hlev_59
 obtain ⟨Dv_61, hlev_60, hs_111, hS⟩ := hS.freezeC (C := C_BeatOpen) (i := 50) (xs := rv_29.Opens) rfl hr_50
 replace hG := hG.mono hlev_60
 replace hr_51 := hr_51.mono hlev_60
 replace hs_110 := hs_110.mono hlev_60
 obtain ⟨Dv_62, hlev_61, hs_112, hS⟩ := hS.freezeC (C := C_BeatPair) (i := 51) (xs := rv_29.Pairs) rfl hr_51
 replace hG := hG.mono hlev_61
 replace hs_110 := hs_110.mono hlev_61
 replace hs_111 := hs_111.mono hlev_61
 replace h := bind_some h
 obtain ⟨rv_30, hx_39, h⟩ := h
 refine O.callS (us := [.agg #[iv rv_29.Hours, .slice p_66 rv_29.Rates.length c_66, .slice p_67 rv_29.Opens.length c_67, .slice p_68 rv_29.Pairs.length c_68], iv (-1), iv 0, .bool true]) ca_26 hF hS (beat_Case_ok hS.stab rv_29 (-1) 0 true hs_110 hs_111 hs_112 hG rv_30 hx_39) rfl rfl fun v_17 Dv_63 a w hR_2 hlev_62 hF hS => ?_
 replace hG := hG.mono hlev_62
 obtain ⟨p_69, c_69, rfl, hs_113⟩ := hR_2
 refine step hF (Y.move hF rfl) rfl fun a hF => ?_
 refine step hF (Y.extract hF rfl rfl) rfl fun a hF => ?_
 refine step hF (Y.extract hF rfl rfl) rfl fun a hF => ?_
 refine step hF (Y.assign hF rfl) rfl fun a hF => ?_
 refine step hF (Y.assign hF rfl) rfl fun a hF => ?_
 refine nT ?_
 refine seq ?_
 refine region ?_
 replace h := bind_some h
 obtain ⟨rv_31, hx_40, h⟩ := h
 refine O.callM (us := []) ca_43 hF (remontoirlaw02_torn_keep hS.stab rv_31 hx_40) rfl rfl fun v_18 Dv_64 a w hK_15 hlev_63 hF => ?_
 replace hG := hG.mono hlev_63
 obtain ⟨p_70, c_70, cs_51, hS2_15, rfl, hr_52⟩ := hK_15
 replace hS := hS.join hS2_15
 replace hS := hS.move 52 900 rfl (by decide)
 replace hS := hS.weak (ms := [(36, .cells b_20 [iv rv_22.1.Low, iv rv_22.1.High] 34), (40, .cells b_21 [iv rv_24.1.Low, iv rv_24.1.High] 34), (44, .cells b_22 [iv rv_26.1.Low, iv rv_26.1.High] 34), (48, .cells b_23 [iv rv_28.1.Low, iv rv_28.1.High] 34), (52, .own p_70 rv_31.length c_70 cs_51 61 5)]) (AL rfl)
 obtain ⟨Dv_65, hlev_64, hs_115, hS⟩ := hS.freezeC (C := C_BeatPair) (i := 52) (xs := rv_31) rfl hr_52
 replace hG := hG.mono hlev_64
 replace h := bind_some h
 obtain ⟨rv_32, hx_41, h⟩ := h
 refine O.callM (us := [.slice p_70 rv_31.length c_70]) ca_42 hF (remontoirlaw02_cellar_keep hS.stab rv_31 hs_115 rv_32 hx_41) rfl rfl fun v_19 Dv_66 a w hK_16 hlev_65 hF => ?_
 replace hG := hG.mono hlev_65
 obtain ⟨p_71, c_71, cs_52, p_72, c_72, cs_53, p_73, c_73, cs_54, hS2_16, rfl, hr_53, hr_54, hr_55⟩ := hK_16
 replace hS := hS.join hS2_16
 replace hS := hS.move 53 900 rfl (by decide)
 replace hS := hS.move 54 901 rfl (by decide)
 replace hS := hS.move 55 902 rfl (by decide)
 replace hS := hS.weak (ms := [(36, .cells b_20 [iv rv_22.1.Low, iv rv_22.1.High] 34), (40, .cells b_21 [iv rv_24.1.Low, iv rv_24.1.High] 34), (44, .cells b_22 [iv rv_26.1.Low, iv rv_26.1.High] 34), (48, .cells b_23 [iv rv_28.1.Low, iv rv_28.1.High] 34), (53, .own p_71 rv_32.Rates.length c_71 cs_52 34 2), (54, .own p_72 rv_32.Opens.length c_72 cs_53 63 4), (55, .own p_73 rv_32.Pairs.length c_73 cs_54 61 5)]) (AL rfl)
 obtain ⟨Dv_67, hlev_66, hs_119, hS⟩ := hS.freezeC (C := C_Span) (i := 53) (xs := rv_32.Rates) rfl hr_53
 replace hG := hG.mono hlev_66
 replace hr_54 := hr_54.mono hlev_66
 replace hr_55 := hr_55.mono hlev_66
 obtain ⟨Dv_68, hlev_67, hs_120, hS⟩ := hS.freezeC (C := C_BeatOpen) (i := 54) (xs := rv_32.Opens) rfl hr_54
 replace hG := hG.mono hlev_67
 replace hr_55 := hr_55.mono hlev_67
 replace hs_119 := hs_119.mono hlev_67
 obtain ⟨Dv_69, hlev_68, hs_121, hS⟩ := hS.freezeC (C := C_BeatPair) (i := 55) (xs := rv_32.Pairs) rfl hr_55
 replace hG := hG.mono hlev_68
 replace hs_119 := hs_119.mono hlev_68
 replace hs_120 := hs_120.mono hlev_68
 replace h := bind_some h
 obtain ⟨rv_33, hx_42, h⟩ := h
 refine O.callP (us := [.agg #[iv rv_32.Hours, .slice p_71 rv_32.Rates.length c_71, .slice p_72 rv_32.Opens.length c_72, .slice p_73 rv_32.Pairs.length c_73], iv (-1)]) ca_30 hF hS (beat_Best_ok hS.stab rv_32 (-1) hs_119 hs_120 hs_121 hG rv_33 hx_42) rfl rfl fun a w hF hS => ?_
 refine step hF (Y.move hF rfl) rfl fun a hF => ?_
 refine step hF (Y.extract hF rfl rfl) rfl fun a hF => ?_
 refine step hF (Y.extract hF rfl rfl) rfl fun a hF => ?_
 refine step hF (Y.extract hF rfl rfl) rfl fun a hF => ?_
 refine step hF (Y.assign hF rfl) rfl fun a hF => ?_
 refine step hF (Y.assign hF rfl) rfl fun a hF => ?_
 refine step hF (Y.assign hF rfl) rfl fun a hF => ?_
 refine nT ?_
 refine seq ?_
 refine seq ?_
 refine region ?_
 refine step hF (Y.move hF rfl) rfl fun a hF => ?_
 refine step hF (Y.neq hF rfl rfl) rfl fun a hF => ?_
 refine step hF (Y.move hF rfl) rfl fun a hF => ?_
 refine join (N := 455) (rs := []) (w0 := w0) (D0 := D0) 3 (us := [(0, .bool sv), (19, iv rv_22.2), (21, iv rv_24.2), (23, iv rv_26.2), (25, iv rv_28.2), (27, iv rv_30.2), (30, iv rv_33.2.2), (242, .bool ((rv_22.2 != 21) || (rv_24.2 != 21)))]) (ms := [(36, .cells b_20 [iv rv_22.1.Low, iv rv_22.1.High] 34), (40, .cells b_21 [iv rv_24.1.Low, iv rv_24.1.High] 34), (44, .cells b_22 [iv rv_26.1.Low, iv rv_26.1.High] 34), (48, .cells b_23 [iv rv_28.1.Low, iv rv_28.1.High] 34)]) (D' := Dv_69) ?_ ?_
 ·rcases bcases (rv_22.2 != 21) with hbv_10 | hbv_10
  ·-- true
   refine guard_off hF rfl rfl hbv_10 rfl fun a hF => ?_
   refine guard_off hF rfl rfl hbv_10 rfl fun a hF => ?_
   refine step hF (Y.pick_t hF rfl hbv_10 rfl) rfl fun a hF => ?_
   exact nT ⟨hF.weak ⟨rfl, rfl, rfl, rfl, rfl, rfl, rfl, (by rw [hbv_10]; rfl), trivial⟩, hS.weak (AL rfl)⟩
  ·-- false
   refine guard_on hF rfl rfl hbv_10 ?_
   refine step hF (Y.move hF rfl) rfl fun a hF => ?_
   refine guard_on hF rfl rfl hbv_10 ?_
   refine step hF (Y.neq hF rfl rfl) rfl fun a hF => ?_
   refine step hF (Y.pick_f hF rfl hbv_10 rfl) rfl fun a hF => ?_
   exact nT ⟨hF.weak ⟨rfl, rfl, rfl, rfl, rfl, rfl, rfl, (by rw [hbv_10]; rfl), trivial⟩, hS.weak (AL rfl)⟩
 intro a w hF hS
 refine step hF (Y.move hF rfl) rfl fun a hF => ?_
 refine join (N := 455) (rs := []) (w0 := w0) (D0 := D0) 3 (us := [(0, .bool sv), (19, iv rv_22.2), (21, iv rv_24.2), (23, iv rv_26.2), (25, iv rv_28.2), (27, iv rv_30.2), (30, iv rv_33.2.2), (246, .bool (((rv_22.2 != 21) || (rv_24.2 != 21)) || (rv_26.2 != 21)))]) (ms := [(36, .cells b_20 [iv rv_22.1.Low, iv rv_22.1.High] 34), (40, .cells b_21 [iv rv_24.1.Low, iv rv_24.1.High] 34), (44, .cells b_22 [iv rv_26.1.Low, iv rv_26.1.High] 34), (48, .cells b_23 [iv rv_28.1.Low, iv rv_28.1.High] 34)]) (D' := Dv_69) ?_ ?_
 ·rcases bcases ((rv_22.2 != 21) || (rv_24.2 != 21)) with hbv_11 | hbv_11
  ·-- true
   refine guard_off hF rfl rfl hbv_11 rfl fun a hF => ?_
   refine guard_off hF rfl rfl hbv_11 rfl fun a hF => ?_
   refine step hF (Y.pick_t hF rfl hbv_11 rfl) rfl fun a hF => ?_
   exact nT ⟨hF.weak ⟨rfl, rfl, rfl, rfl, rfl, rfl, rfl, (by rw [hbv_11]; rfl), trivial⟩, hS.weak (AL rfl)⟩
  ·-- false
   refine guard_on hF rfl rfl hbv_11 ?_
   refine step hF (Y.move hF rfl) rfl fun a hF => ?_
   refine guard_on hF rfl rfl hbv_11 ?_
   refine step hF (Y.neq hF rfl rfl) rfl fun a hF => ?_
   refine step hF (Y.pick_f hF rfl hbv_11 rfl) rfl fun a hF => ?_
   exact nT ⟨hF.weak ⟨rfl, rfl, rfl, rfl, rfl, rfl, rfl, (by rw [hbv_11]; rfl), trivial⟩, hS.weak (AL rfl)⟩
 intro a w hF hS
 refine step hF (Y.move hF rfl) rfl fun a hF => ?_
 refine join (N := 455) (rs := []) (w0 := w0) (D0 := D0) 3 (us := [(0, .bool sv), (19, iv rv_22.2), (21, iv rv_24.2), (23, iv rv_26.2), (25, iv rv_28.2), (27, iv rv_30.2), (30, iv rv_33.2.2), (250, .bool ((((rv_22.2 != 21) || (rv_24.2 != 21)) || (rv_26.2 != 21)) || (rv_28.2 != 21)))]) (ms := [(36, .cells b_20 [iv rv_22.1.Low, iv rv_22.1.High] 34), (40, .cells b_21 [iv rv_24.1.Low, iv rv_24.1.High] 34), (44, .cells b_22 [iv rv_26.1.Low, iv rv_26.1.High] 34), (48, .cells b_23 [iv rv_28.1.Low, iv rv_28.1.High] 34)]) (D' := Dv_69) ?_ ?_
 ·rcases bcases (((rv_22.2 != 21) || (rv_24.2 != 21)) || (rv_26.2 != 21)) with hbv_12 | hbv_12
  ·-- true
   refine guard_off hF rfl rfl hbv_12 rfl fun a hF => ?_
   refine guard_off hF rfl rfl hbv_12 rfl fun a hF => ?_
   refine step hF (Y.pick_t hF rfl hbv_12 rfl) rfl fun a hF => ?_
   exact nT ⟨hF.weak ⟨rfl, rfl, rfl, rfl, rfl, rfl, rfl, (by rw [hbv_12]; rfl), trivial⟩, hS.weak (AL rfl)⟩
  ·-- false
   refine guard_on hF rfl rfl hbv_12 ?_
   refine step hF (Y.move hF rfl) rfl fun a hF => ?_
   refine guard_on hF rfl rfl hbv_12 ?_
   refine step hF (Y.neq hF rfl rfl) rfl fun a hF => ?_
   refine step hF (Y.pick_f hF rfl hbv_12 rfl) rfl fun a hF => ?_
   exact nT ⟨hF.weak ⟨rfl, rfl, rfl, rfl, rfl, rfl, rfl, (by rw [hbv_12]; rfl), trivial⟩, hS.weak (AL rfl)⟩
 intro a w hF hS
 refine step hF (Y.move hF rfl) rfl fun a hF => ?_
 refine join (N := 455) (rs := []) (w0 := w0) (D0 := D0) 3 (us := [(0, .bool sv), (19, iv rv_22.2), (21, iv rv_24.2), (23, iv rv_26.2), (25, iv rv_28.2), (27, iv rv_30.2), (30, iv rv_33.2.2), (254, .bool (((((rv_22.2 != 21) || (rv_24.2 != 21)) || (rv_26.2 != 21)) || (rv_28.2 != 21)) || (rv_30.2 != 21)))]) (ms := [(36, .cells b_20 [iv rv_22.1.Low, iv rv_22.1.High] 34), (40, .cells b_21 [iv rv_24.1.Low, iv rv_24.1.High] 34), (44, .cells b_22 [iv rv_26.1.Low, iv rv_26.1.High] 34), (48, .cells b_23 [iv rv_28.1.Low, iv rv_28.1.High] 34)]) (D' := Dv_69) ?_ ?_
 ·rcases bcases ((((rv_22.2 != 21) || (rv_24.2 != 21)) || (rv_26.2 != 21)) || (rv_28.2 != 21)) with hbv_13 | hbv_13
  ·-- true
   refine guard_off hF rfl rfl hbv_13 rfl fun a hF => ?_
   refine guard_off hF rfl rfl hbv_13 rfl fun a hF => ?_
   refine step hF (Y.pick_t hF rfl hbv_13 rfl) rfl fun a hF => ?_
   exact nT ⟨hF.weak ⟨rfl, rfl, rfl, rfl, rfl, rfl, rfl, (by rw [hbv_13]; rfl), trivial⟩, hS.weak (AL rfl)⟩
  ·-- false
   refine guard_on hF rfl rfl hbv_13 ?_
   refine step hF (Y.move hF rfl) rfl fun a hF => ?_
   refine guard_on hF rfl rfl hbv_13 ?_
   refine step hF (Y.neq hF rfl rfl) rfl fun a hF => ?_
   refine step hF (Y.pick_f hF rfl hbv_13 rfl) rfl fun a hF => ?_
   exact nT ⟨hF.weak ⟨rfl, rfl, rfl, rfl, rfl, rfl, rfl, (by rw [hbv_13]; rfl), trivial⟩, hS.weak (AL rfl)⟩
 intro a w hF hS
 refine step hF (Y.move hF rfl) rfl fun a hF => ?_
 refine join (N := 455) (rs := []) (w0 := w0) (D0 := D0) 3 (us := [(0, .bool sv), (19, iv rv_22.2), (21, iv rv_24.2), (23, iv rv_26.2), (25, iv rv_28.2), (27, iv rv_30.2), (30, iv rv_33.2.2), (258, .bool ((((((rv_22.2 != 21) || (rv_24.2 != 21)) || (rv_26.2 != 21)) || (rv_28.2 != 21)) || (rv_30.2 != 21)) || (rv_33.2.2 != 21)))]) (ms := [(36, .cells b_20 [iv rv_22.1.Low, iv rv_22.1.High] 34), (40, .cells b_21 [iv rv_24.1.Low, iv rv_24.1.High] 34), (44, .cells b_22 [iv rv_26.1.Low, iv rv_26.1.High] 34), (48, .cells b_23 [iv rv_28.1.Low, iv rv_28.1.High] 34)]) (D' := Dv_69) ?_ ?_
 ·rcases bcases (((((rv_22.2 != 21) || (rv_24.2 != 21)) || (rv_26.2 != 21)) || (rv_28.2 != 21)) || (rv_30.2 != 21)) with hbv_14 | hbv_14
  ·-- true
   refine guard_off hF rfl rfl hbv_14 rfl fun a hF => ?_
   refine guard_off hF rfl rfl hbv_14 rfl fun a hF => ?_
   refine step hF (Y.pick_t hF rfl hbv_14 rfl) rfl fun a hF => ?_
   exact nT ⟨hF.weak ⟨rfl, rfl, rfl, rfl, rfl, rfl, rfl, (by rw [hbv_14]; rfl), trivial⟩, hS.weak (AL rfl)⟩
  ·-- false
   refine guard_on hF rfl rfl hbv_14 ?_
   refine step hF (Y.move hF rfl) rfl fun a hF => ?_
   refine guard_on hF rfl rfl hbv_14 ?_
   refine step hF (Y.neq hF rfl rfl) rfl fun a hF => ?_
   refine step hF (Y.pick_f hF rfl hbv_14 rfl) rfl fun a hF => ?_
   exact nT ⟨hF.weak ⟨rfl, rfl, rfl, rfl, rfl, rfl, rfl, (by rw [hbv_14]; rfl), trivial⟩, hS.weak (AL rfl)⟩
 intro a w hF hS
 refine nT ?_
 refine cond_b hF rfl (fun hbv_15 => ?_) (fun hbv_15 => ?_)
 ·replace h := cond_t h hbv_15
  refine seq ?_
  refine region ?_
  refine step hF (Y.assign hF rfl) rfl fun a hF => ?_
  refine nT ?_
  refine ret_ (then_r ?_)
  obtain rfl := some_inj h
  exact leaveP Tryd.results14 hF hS (.cons (.tmp rfl) .nil) .nil rfl
 ·replace h := cond_f h hbv_15
  refine skip_ (then_n ?_)
  refine seq ?_
  refine region ?_
  replace h := bind_some h
  obtain ⟨rv_34, hx_43, h⟩ := h
  refine O.callM (us := []) ca_43 hF (remontoirlaw02_torn_keep hS.stab rv_34 hx_43) rfl rfl fun v_20 Dv_70 a w hK_17 hlev_69 hF => ?_
  replace hG := hG.mono hlev_69
  obtain ⟨p_74, c_74, cs_55, hS2_17, rfl, hr_56⟩ := hK_17
  replace hS := hS.join hS2_17
  replace hS := hS.move 56 900 rfl (by decide)
  replace hS := hS.weak (ms := [(36, .cells b_20 [iv rv_22.1.Low, iv rv_22.1.High] 34), (40, .cells b_21 [iv rv_24.1.Low, iv rv_24.1.High] 34), (44, .cells b_22 [iv rv_26.1.Low, iv rv_26.1.High] 34), (48, .cells b_23 [iv rv_28.1.Low, iv rv_28.1.High] 34), (56, .own p_74 rv_34.length c_74 cs_55 61 5)]) (AL rfl)
  obtain ⟨Dv_71, hlev_70, hs_123, hS⟩ := hS.freezeC (C := C_BeatPair) (i := 56) (xs := rv_34) rfl hr_56
  replace hG := hG.mono hlev_70
  replace h := bind_some h
  obtain ⟨rv_35, hx_44, h⟩ := h
  refine O.callM (us := [.slice p_74 rv_34.length c_74]) ca_42 hF (remontoirlaw02_cellar_keep hS.stab rv_34 hs_123 rv_35 hx_44) rfl rfl fun v_21 Dv_72 a w hK_18 hlev_71 hF => ?_
  replace hG := hG.mono hlev_71
  obtain ⟨p_75, c_75, cs_56, p_76, c_76, cs_57, p_77, c_77, cs_58, hS2_18, rfl, hr_57, hr_58, hr_59⟩ := hK_18
  replace hS := hS.join hS2_18
  replace hS := hS.move 57 900 rfl (by decide)
  replace hS := hS.move 58 901 rfl (by decide)
  replace hS := hS.move 59 902 rfl (by decide)
  replace hS := hS.weak (ms := [(36, .cells b_20 [iv rv_22.1.Low, iv rv_22.1.High] 34), (40, .cells b_21 [iv rv_24.1.Low, iv rv_24.1.High] 34), (44, .cells b_22 [iv rv_26.1.Low, iv rv_26.1.High] 34), (48, .cells b_23 [iv rv_28.1.Low, iv rv_28.1.High] 34), (57, .own p_75 rv_35.Rates.length c_75 cs_56 34 2), (58, .own p_76 rv_35.Opens.length c_76 cs_57 63 4), (59, .own p_77 rv_35.Pairs.length c_77 cs_58 61 5)]) (AL rfl)
  obtain ⟨Dv_73, hlev_72, hs_127, hS⟩ := hS.freezeC (C := C_Span) (i := 57) (xs := rv_35.Rates) rfl hr_57
  replace hG := hG.mono hlev_72
  replace hr_58 := hr_58.mono hlev_72
  replace hr_59 := hr_59.mono hlev_72
  obtain ⟨Dv_74, hlev_73, hs_128, hS⟩ := hS.freezeC (C := C_BeatOpen) (i := 58) (xs := rv_35.Opens) rfl hr_58
  replace hG := hG.mono hlev_73
  replace hr_59 := hr_59.mono hlev_73
  replace hs_127 := hs_127.mono hlev_73
  obtain ⟨Dv_75, hlev_74, hs_129, hS⟩ := hS.freezeC (C := C_BeatPair) (i := 59) (xs := rv_35.Pairs) rfl hr_59
  replace hG := hG.mono hlev_74
  replace hs_127 := hs_127.mono hlev_74
  replace hs_128 := hs_128.mono hlev_74
  replace h := bind_some h
  obtain ⟨rv_36, hx_45, h⟩ := h
  refine O.callP (us := [.agg #[iv rv_35.Hours, .slice p_75 rv_35.Rates.length c_75, .slice p_76 rv_35.Opens.length c_76, .slice p_77 rv_35.Pairs.length c_77], iv 0, iv 0]) ca_19 hF hS (beat_Offset_ok hS.stab rv_35 0 0 hs_127 hs_128 hs_129 hG rv_36 hx_45) rfl rfl fun a w hF hS => ?_
  refine step hF (Y.move hF rfl) rfl fun a hF => ?_
  refine step hF (Y.extract hF rfl rfl) rfl fun a hF => ?_
  refine step hF (Y.extract hF rfl rfl) rfl fun a hF => ?_
  refine step hF (Y.assign hF rfl) rfl fun a hF => ?_
  refine nT ?_
  refine seq ?_
  refine region ?_
  replace h := bind_some h
  obtain ⟨rv_37, hx_46, h⟩ := h
  refine O.callM (us := []) ca_43 hF (remontoirlaw02_torn_keep hS.stab rv_37 hx_46) rfl rfl fun v_22 Dv_76 a w hK_19 hlev_75 hF => ?_
  replace hG := hG.mono hlev_75
  obtain ⟨p_78, c_78, cs_59, hS2_19, rfl, hr_60⟩ := hK_19
  replace hS := hS.join hS2_19
  replace hS := hS.move 60 900 rfl (by decide)
  replace hS := hS.weak (ms := [(36, .cells b_20 [iv rv_22.1.Low, iv rv_22.1.High] 34), (40, .cells b_21 [iv rv_24.1.Low, iv rv_24.1.High] 34), (44, .cells b_22 [iv rv_26.1.Low, iv rv_26.1.High] 34), (48, .cells b_23 [iv rv_28.1.Low, iv rv_28.1.High] 34), (60, .own p_78 rv_37.length c_78 cs_59 61 5)]) (AL rfl)
  obtain ⟨Dv_77, hlev_76, hs_131, hS⟩ := hS.freezeC (C := C_BeatPair) (i := 60) (xs := rv_37) rfl hr_60
  replace hG := hG.mono hlev_76
  replace h := bind_some h
  obtain ⟨rv_38, hx_47, h⟩ := h
  refine O.callM (us := [.slice p_78 rv_37.length c_78]) ca_42 hF (remontoirlaw02_cellar_keep hS.stab rv_37 hs_131 rv_38 hx_47) rfl rfl fun v_23 Dv_78 a w hK_20 hlev_77 hF => ?_
  replace hG := hG.mono hlev_77
  obtain ⟨p_79, c_79, cs_60, p_80, c_80, cs_61, p_81, c_81, cs_62, hS2_20, rfl, hr_61, hr_62, hr_63⟩ := hK_20
  replace hS := hS.join hS2_20
  replace hS := hS.move 61 900 rfl (by decide)
  replace hS := hS.move 62 901 rfl (by decide)
  replace hS := hS.move 63 902 rfl (by decide)
  replace hS := hS.weak (ms := [(36, .cells b_20 [iv rv_22.1.Low, iv rv_22.1.High] 34), (40, .cells b_21 [iv rv_24.1.Low, iv rv_24.1.High] 34), (44, .cells b_22 [iv rv_26.1.Low, iv rv_26.1.High] 34), (48, .cells b_23 [iv rv_28.1.Low, iv rv_28.1.High] 34), (61, .own p_79 rv_38.Rates.length c_79 cs_60 34 2), (62, .own p_80 rv_38.Opens.length c_80 cs_61 63 4), (63, .own p_81 rv_38.Pairs.length c_81 cs_62 61 5)]) (AL rfl)
  obtain ⟨Dv_79, hlev_78, hs_135, hS⟩ := hS.freezeC (C := C_Span) (i := 61) (xs := rv_38.Rates) rfl hr_61
  replace hG := hG.mono hlev_78
  replace hr_62 := hr_62.mono hlev_78
  replace hr_63 := hr_63.mono hlev_78
  obtain ⟨Dv_80, hlev_79, hs_136, hS⟩ := hS.freezeC (C := C_BeatOpen) (i := 62) (xs := rv_38.Opens) rfl hr_62
  replace hG := hG.mono hlev_79
  replace hr_63 := hr_63.mono hlev_79
  replace hs_135 := hs_135.mono hlev_79
  obtain ⟨Dv_81, hlev_80, hs_137, hS⟩ := hS.freezeC (C := C_BeatPair) (i := 63) (xs := rv_38.Pairs) rfl hr_63
  replace hG := hG.mono hlev_80
  replace hs_135 := hs_135.mono hlev_80
  replace hs_136 := hs_136.mono hlev_80
  replace h := bind_some h
  obtain ⟨rv_39, hx_48, h⟩ := h
  refine O.callP (us := [.agg #[iv rv_38.Hours, .slice p_79 rv_38.Rates.length c_79, .slice p_80 rv_38.Opens.length c_80, .slice p_81 rv_38.Pairs.length c_81], iv 0, iv 0, iv 0]) ca_22 hF hS (beat_Apart_ok hS.stab rv_38 0 0 0 hs_135 hs_136 hs_137 hG rv_39 hx_48) rfl rfl fun a w hF hS => ?_
  refine step hF (Y.move hF rfl) rfl fun a hF => ?_
  refine step hF (Y.extract hF rfl rfl) rfl fun a hF => ?_
  refine step hF (Y.extract hF rfl rfl) rfl fun a hF => ?_
  refine step hF (Y.assign hF rfl) rfl fun a hF => ?_
  refine nT ?_
  refine seq ?_
  refine region ?_
  replace h := bind_some h
  obtain ⟨rv_40, hx_49, h⟩ := h
  refine O.callM (us := []) ca_43 hF (remontoirlaw02_torn_keep hS.stab rv_40 hx_49) rfl rfl fun v_24 Dv_82 a w hK_21 hlev_81 hF => ?_
  replace hG := hG.mono hlev_81
  obtain ⟨p_82, c_82, cs_63, hS2_21, rfl, hr_64⟩ := hK_21
  replace hS := hS.join hS2_21
  replace hS := hS.move 64 900 rfl (by decide)
  replace hS := hS.weak (ms := [(36, .cells b_20 [iv rv_22.1.Low, iv rv_22.1.High] 34), (40, .cells b_21 [iv rv_24.1.Low, iv rv_24.1.High] 34), (44, .cells b_22 [iv rv_26.1.Low, iv rv_26.1.High] 34), (48, .cells b_23 [iv rv_28.1.Low, iv rv_28.1.High] 34), (64, .own p_82 rv_40.length c_82 cs_63 61 5)]) (AL rfl)
  obtain ⟨Dv_83, hlev_82, hs_139, hS⟩ := hS.freezeC (C := C_BeatPair) (i := 64) (xs := rv_40) rfl hr_64
  replace hG := hG.mono hlev_82
  replace h := bind_some h
  obtain ⟨rv_41, hx_50, h⟩ := h
  refine O.callM (us := [.slice p_82 rv_40.length c_82]) ca_42 hF (remontoirlaw02_cellar_keep hS.stab rv_40 hs_139 rv_41 hx_50) rfl rfl fun v_25 Dv_84 a w hK_22 hlev_83 hF => ?_
  replace hG := hG.mono hlev_83
  obtain ⟨p_83, c_83, cs_64, p_84, c_84, cs_65, p_85, c_85, cs_66, hS2_22, rfl, hr_65, hr_66, hr_67⟩ := hK_22
  replace hS := hS.join hS2_22
  replace hS := hS.move 65 900 rfl (by decide)
  replace hS := hS.move 66 901 rfl (by decide)
  replace hS := hS.move 67 902 rfl (by decide)
  replace hS := hS.weak (ms := [(36, .cells b_20 [iv rv_22.1.Low, iv rv_22.1.High] 34), (40, .cells b_21 [iv rv_24.1.Low, iv rv_24.1.High] 34), (44, .cells b_22 [iv rv_26.1.Low, iv rv_26.1.High] 34), (48, .cells b_23 [iv rv_28.1.Low, iv rv_28.1.High] 34), (65, .own p_83 rv_41.Rates.length c_83 cs_64 34 2), (66, .own p_84 rv_41.Opens.length c_84 cs_65 63 4), (67, .own p_85 rv_41.Pairs.length c_85 cs_66 61 5)]) (AL rfl)
  obtain ⟨Dv_85, hlev_84, hs_143, hS⟩ := hS.freezeC (C := C_Span) (i := 65) (xs := rv_41.Rates) rfl hr_65
  replace hG := hG.mono hlev_84
  replace hr_66 := hr_66.mono hlev_84
  replace hr_67 := hr_67.mono hlev_84
  obtain ⟨Dv_86, hlev_85, hs_144, hS⟩ := hS.freezeC (C := C_BeatOpen) (i := 66) (xs := rv_41.Opens) rfl hr_66
  replace hG := hG.mono hlev_85
  replace hr_67 := hr_67.mono hlev_85
  replace hs_143 := hs_143.mono hlev_85
  obtain ⟨Dv_87, hlev_86, hs_145, hS⟩ := hS.freezeC (C := C_BeatPair) (i := 67) (xs := rv_41.Pairs) rfl hr_67
  replace hG := hG.mono hlev_86
  replace hs_143 := hs_143.mono hlev_86
  replace hs_144 := hs_144.mono hlev_86
  replace h := bind_some h
  obtain ⟨rv_42, hx_51, h⟩ := h
  refine O.callP (us := [.agg #[iv rv_41.Hours, .slice p_83 rv_41.Rates.length c_83, .slice p_84 rv_41.Opens.length c_84, .slice p_85 rv_41.Pairs.length c_85], iv 0, iv 0, iv 0]) ca_24 hF hS (beat_Drift_ok hS.stab rv_41 0 0 0 hs_143 hs_144 hs_145 hG rv_42 hx_51) rfl rfl fun a w hF hS => ?_
  refine step hF (Y.move hF rfl) rfl fun a hF => ?_
  refine step hF (Y.extract hF rfl rfl) rfl fun a hF => ?_
  refine step hF (Y.extract hF rfl rfl) rfl fun a hF => ?_
  refine step hF (Y.assign hF rfl) rfl fun a hF => ?_
  refine nT ?_
  refine seq ?_
  refine region ?_
  replace h := bind_some h
  obtain ⟨rv_43, hx_52, h⟩ := h
  refine O.callM (us := []) ca_43 hF (remontoirlaw02_torn_keep hS.stab rv_43 hx_52) rfl rfl fun v_26 Dv_88 a w hK_23 hlev_87 hF => ?_
  replace hG := hG.mono hlev_87
  obtain ⟨p_86, c_86, cs_67, hS2_23, rfl, hr_68⟩ := hK_23
  replace hS := hS.join hS2_23
  replace hS := hS.move 68 900 rfl (by decide)
  replace hS := hS.weak (ms := [(36, .cells b_20 [iv rv_22.1.Low, iv rv_22.1.High] 34), (40, .cells b_21 [iv rv_24.1.Low, iv rv_24.1.High] 34), (44, .cells b_22 [iv rv_26.1.Low, iv rv_26.1.High] 34), (48, .cells b_23 [iv rv_28.1.Low, iv rv_28.1.High] 34), (68, .own p_86 rv_43.length c_86 cs_67 61 5)]) (AL rfl)
  obtain ⟨Dv_89, hlev_88, hs_147, hS⟩ := hS.freezeC (C := C_BeatPair) (i := 68) (xs := rv_43) rfl hr_68
  replace hG := hG.mono hlev_88
  replace h := bind_some h
  obtain ⟨rv_44, hx_53, h⟩ := h
  refine O.callM (us := [.slice p_86 rv_43.length c_86]) ca_42 hF (remontoirlaw02_cellar_keep hS.stab rv_43 hs_147 rv_44 hx_53) rfl rfl fun v_27 Dv_90 a w hK_24 hlev_89 hF => ?_
  replace hG := hG.mono hlev_89
  obtain ⟨p_87, c_87, cs_68, p_88, c_88, cs_69, p_89, c_89, cs_70, hS2_24, rfl, hr_69, hr_70, hr_71⟩ := hK_24
  replace hS := hS.join hS2_24
  replace hS := hS.move 69 900 rfl (by decide)
  replace hS := hS.move 70 901 rfl (by decide)
  replace hS := hS.move 71 902 rfl (by decide)
  replace hS := hS.weak (ms := [(36, .cells b_20 [iv rv_22.1.Low, iv rv_22.1.High] 34), (40, .cells b_21 [iv rv_24.1.Low, iv rv_24.1.High] 34), (44, .cells b_22 [iv rv_26.1.Low, iv rv_26.1.High] 34), (48, .cells b_23 [iv rv_28.1.Low, iv rv_28.1.High] 34), (69, .own p_87 rv_44.Rates.length c_87 cs_68 34 2), (70, .own p_88 rv_44.Opens.length c_88 cs_69 63 4), (71, .own p_89 rv_44.Pairs.length c_89 cs_70 61 5)]) (AL rfl)
  obtain ⟨Dv_91, hlev_90, hs_151, hS⟩ := hS.freezeC (C := C_Span) (i := 69) (xs := rv_44.Rates) rfl hr_69
  replace hG := hG.mono hlev_90
  replace hr_70 := hr_70.mono hlev_90
  replace hr_71 := hr_71.mono hlev_90
  obtain ⟨Dv_92, hlev_91, hs_152, hS⟩ := hS.freezeC (C := C_BeatOpen) (i := 70) (xs := rv_44.Opens) rfl hr_70
  replace hG := hG.mono hlev_91
  replace hr_71 := hr_71.mono hlev_91
  replace hs_151 := hs_151.mono hlev_91
  obtain ⟨Dv_93, hlev_92, hs_153, hS⟩ := hS.freezeC (C := C_BeatPair) (i := 71) (xs := rv_44.Pairs) rfl hr_71
  replace hG := hG.mono hlev_92
  replace hs_151 := hs_151.mono hlev_92
  replace hs_152 := hs_152.mono hlev_92
  replace h := bind_some h
  obtain ⟨rv_45, hx_54, h⟩ := h
  refine O.callS (us := [.agg #[iv rv_44.Hours, .slice p_87 rv_44.Rates.length c_87, .slice p_88 rv_44.Opens.length c_88, .slice p_89 rv_44.Pairs.length c_89], iv 0, iv 0, .bool true]) ca_26 hF hS (beat_Case_ok hS.stab rv_44 0 0 true hs_151 hs_152 hs_153 hG rv_45 hx_54) rfl rfl fun v_28 Dv_94 a w hR_3 hlev_93 hF hS => ?_
  replace hG := hG.mono hlev_93
  obtain ⟨p_90, c_90, rfl, hs_154⟩ := hR_3
  refine step hF (Y.move hF rfl) rfl fun a hF => ?_
  refine step hF (Y.extract hF rfl rfl) rfl fun a hF => ?_
  refine step hF (Y.extract hF rfl rfl) rfl fun a hF => ?_
  refine step hF (Y.assign hF rfl) rfl fun a hF => ?_
  refine nT ?_
  refine seq ?_
  refine region ?_
  replace h := bind_some h
  obtain ⟨rv_46, hx_55, h⟩ := h
  refine O.callM (us := []) ca_43 hF (remontoirlaw02_torn_keep hS.stab rv_46 hx_55) rfl rfl fun v_29 Dv_95 a w hK_25 hlev_94 hF => ?_
  replace hG := hG.mono hlev_94
  obtain ⟨p_91, c_91, cs_71, hS2_25, rfl, hr_72⟩ := hK_25
  replace hS := hS.join hS2_25
  replace hS := hS.move 72 900 rfl (by decide)
  replace hS := hS.weak (ms := [(36, .cells b_20 [iv rv_22.1.Low, iv rv_22.1.High] 34), (40, .cells b_21 [iv rv_24.1.Low, iv rv_24.1.High] 34), (44, .cells b_22 [iv rv_26.1.Low, iv rv_26.1.High] 34), (48, .cells b_23 [iv rv_28.1.Low, iv rv_28.1.High] 34), (72, .own p_91 rv_46.length c_91 cs_71 61 5)]) (AL rfl)
  obtain ⟨Dv_96, hlev_95, hs_156, hS⟩ := hS.freezeC (C := C_BeatPair) (i := 72) (xs := rv_46) rfl hr_72
  replace hG := hG.mono hlev_95
  replace h := bind_some h
  obtain ⟨rv_47, hx_56, h⟩ := h
  refine O.callM (us := [.slice p_91 rv_46.length c_91]) ca_42 hF (remontoirlaw02_cellar_keep hS.stab rv_46 hs_156 rv_47 hx_56) rfl rfl fun v_30 Dv_97 a w hK_26 hlev_96 hF => ?_
  replace hG := hG.mono hlev_96
  obtain ⟨p_92, c_92, cs_72, p_93, c_93, cs_73, p_94, c_94, cs_74, hS2_26, rfl, hr_73, hr_74, hr_75⟩ := hK_26
  replace hS := hS.join hS2_26
  replace hS := hS.move 73 900 rfl (by decide)
  replace hS := hS.move 74 901 rfl (by decide)
  replace hS := hS.move 75 902 rfl (by decide)
  replace hS := hS.weak (ms := [(36, .cells b_20 [iv rv_22.1.Low, iv rv_22.1.High] 34), (40, .cells b_21 [iv rv_24.1.Low, iv rv_24.1.High] 34), (44, .cells b_22 [iv rv_26.1.Low, iv rv_26.1.High] 34), (48, .cells b_23 [iv rv_28.1.Low, iv rv_28.1.High] 34), (73, .own p_92 rv_47.Rates.length c_92 cs_72 34 2), (74, .own p_93 rv_47.Opens.length c_93 cs_73 63 4), (75, .own p_94 rv_47.Pairs.length c_94 cs_74 61 5)]) (AL rfl)
  obtain ⟨Dv_98, hlev_97, hs_160, hS⟩ := hS.freezeC (C := C_Span) (i := 73) (xs := rv_47.Rates) rfl hr_73
  replace hG := hG.mono hlev_97
  replace hr_74 := hr_74.mono hlev_97
  replace hr_75 := hr_75.mono hlev_97
  obtain ⟨Dv_99, hlev_98, hs_161, hS⟩ := hS.freezeC (C := C_BeatOpen) (i := 74) (xs := rv_47.Opens) rfl hr_74
  replace hG := hG.mono hlev_98
  replace hr_75 := hr_75.mono hlev_98
  replace hs_160 := hs_160.mono hlev_98
  obtain ⟨Dv_100, hlev_99, hs_162, hS⟩ := hS.freezeC (C := C_BeatPair) (i := 75) (xs := rv_47.Pairs) rfl hr_75
  replace hG := hG.mono hlev_99
  replace hs_160 := hs_160.mono hlev_99
  replace hs_161 := hs_161.mono hlev_99
  replace h := bind_some h
  obtain ⟨rv_48, hx_57, h⟩ := h
  refine O.callP (us := [.agg #[iv rv_47.Hours, .slice p_92 rv_47.Rates.length c_92, .slice p_93 rv_47.Opens.length c_93, .slice p_94 rv_47.Pairs.length c_94], iv 0]) ca_30 hF hS (beat_Best_ok hS.stab rv_47 0 hs_160 hs_161 hs_162 hG rv_48 hx_57) rfl rfl fun a w hF hS => ?_
  refine step hF (Y.move hF rfl) rfl fun a hF => ?_
  refine step hF (Y.extract hF rfl rfl) rfl fun a hF => ?_
  refine step hF (Y.extract hF rfl rfl) rfl fun a hF => ?_
  refine step hF (Y.extract hF rfl rfl) rfl fun a hF => ?_
  refine step hF (Y.assign hF rfl) rfl fun a hF => ?_
  refine nT ?_
  refine seq ?_
  refine region ?_
  refine step hF (Y.build (parts := []) (cs := #[iv 0, iv 0]) hF rfl (by kernel_rfl)) rfl fun a hF => ?_
  have hr_76 : Reps C_Span Dv_100 [(Span.mk 0 0)] [iv 0, iv 0] := Reps.cons (C := C_Span) (x := (Span.mk 0 0)) (c := [iv 0, iv 0]) (r := []) rfl (Reps.nil)
  refine O.buildSlice (E := 34) (C := C_Span) (xs := [(Span.mk 0 0)]) (cs := [iv 0, iv 0]) (us := [.agg #[iv 0, iv 0]]) (parts := [(0, (.tmp 290))]) 76 hF hS rfl (by kernel_rfl) hr_76 rfl rfl rfl fun p_95 c_95 a w hF hS => ?_
  replace h := bind_some h
  obtain ⟨rv_49, hx_58, h⟩ := h
  refine O.callP (us := [iv 100000, iv 100000]) ca_37 hF hS (r0To_ok hS.stab 100000 100000 rv_49 hx_58) rfl rfl fun a w hF hS => ?_
  refine step hF (Y.build (parts := [(2, (.tmp 292))]) (cs := #[iv 0, iv 0, iv rv_49.Low, iv rv_49.High]) hF rfl (by kernel_rfl)) rfl fun a hF => ?_
  replace h := bind_some h
  obtain ⟨rv_50, hx_59, h⟩ := h
  refine O.callP (us := [iv 100000, iv 100000]) ca_37 hF hS (r0To_ok hS.stab 100000 100000 rv_50 hx_59) rfl rfl fun a w hF hS => ?_
  refine step hF (Y.build (parts := [(2, (.tmp 294))]) (cs := #[iv 0, iv 0, iv rv_50.Low, iv rv_50.High]) hF rfl (by kernel_rfl)) rfl fun a hF => ?_
  replace h := bind_some h
  obtain ⟨rv_51, hx_60, h⟩ := h
  refine O.callP (us := [iv 1, iv 1]) ca_37 hF hS (r0To_ok hS.stab 1 1 rv_51 hx_60) rfl rfl fun a w hF hS => ?_
  refine step hF (Y.build (parts := [(2, (.tmp 296))]) (cs := #[iv 0, iv 0, iv rv_51.Low, iv rv_51.High]) hF rfl (by kernel_rfl)) rfl fun a hF => ?_
  have hr_77 : Reps C_BeatOpen Dv_100 [(BeatOpen.mk 0 0 rv_49), (BeatOpen.mk 0 0 rv_50), (BeatOpen.mk 0 0 rv_51)] [iv 0, iv 0, iv rv_49.Low, iv rv_49.High, iv 0, iv 0, iv rv_50.Low, iv rv_50.High, iv 0, iv 0, iv rv_51.Low, iv rv_51.High] := Reps.cons (C := C_BeatOpen) (x := (BeatOpen.mk 0 0 rv_49)) (c := [iv 0, iv 0, iv rv_49.Low, iv rv_49.High]) (r := [iv 0, iv 0, iv rv_50.Low, iv rv_50.High, iv 0, iv 0, iv rv_51.Low, iv rv_51.High]) rfl (Reps.cons (C := C_BeatOpen) (x := (BeatOpen.mk 0 0 rv_50)) (c := [iv 0, iv 0, iv rv_50.Low, iv rv_50.High]) (r := [iv 0, iv 0, iv rv_51.Low, iv rv_51.High]) rfl (Reps.cons (C := C_BeatOpen) (x := (BeatOpen.mk 0 0 rv_51)) (c := [iv 0, iv 0, iv rv_51.Low, iv rv_51.High]) (r := []) rfl (Reps.nil)))
  refine O.buildSlice (E := 63) (C := C_BeatOpen) (xs := [(BeatOpen.mk 0 0 rv_49), (BeatOpen.mk 0 0 rv_50), (BeatOpen.mk 0 0 rv_51)]) (cs := [iv 0, iv 0, iv rv_49.Low, iv rv_49.High, iv 0, iv 0, iv rv_50.Low, iv rv_50.High, iv 0, iv 0, iv rv_51.Low, iv rv_51.High]) (us := [.agg #[iv 0, iv 0, iv rv_49.Low, iv rv_49.High], .agg #[iv 0, iv 0, iv rv_50.Low, iv rv_50.High], .agg #[iv 0, iv 0, iv rv_51.Low, iv rv_51.High]]) (parts := [(0, (.tmp 293)), (1, (.tmp 295)), (2, (.tmp 297))]) 77 hF hS rfl (by kernel_rfl) hr_77 rfl rfl rfl fun p_96 c_96 a w hF hS => ?_
  refine step hF (Y.build (parts := [(0, (.const (iv 1))), (1, (.tmp 291)), (2, (.tmp 298))]) (cs := #[iv 1, .slice p_95 ([(Span.mk 0 0)]).length c_95, .slice p_96 ([(BeatOpen.mk 0 0 rv_49), (BeatOpen.mk 0 0 rv_50), (BeatOpen.mk 0 0 rv_51)]).length c_96, .slice none 0 0]) hF rfl (by kernel_rfl)) rfl fun a hF => ?_
  refine O.alloc 78 zc_26 hF hS rfl fun b_24 a w hF hS => ?_
  refine O.store (us := [iv 1, .slice p_95 ([(Span.mk 0 0)]).length c_95, .slice p_96 ([(BeatOpen.mk 0 0 rv_49), (BeatOpen.mk 0 0 rv_50), (BeatOpen.mk 0 0 rv_51)]).length c_96, .slice none 0 0]) 78 sz_26 hF rfl rfl rfl rfl hS rfl rfl fun a w hF hS => ?_
  refine nT ?_
  refine seq ?_
  refine region ?_
  refine step hF (Y.loadNL 78 sz_26 hF rfl hS rfl rfl rfl) rfl fun a hF => ?_
  obtain ⟨Dv_101, hlev_100, hs_163, hS⟩ := hS.freezeC (C := C_Span) (i := 76) (xs := [(Span.mk 0 0)]) rfl hr_76
  replace hG := hG.mono hlev_100
  replace hr_77 := hr_77.mono hlev_100
  obtain ⟨Dv_102, hlev_101, hs_164, hS⟩ := hS.freezeC (C := C_BeatOpen) (i := 77) (xs := [(BeatOpen.mk 0 0 rv_49), (BeatOpen.mk 0 0 rv_50), (BeatOpen.mk 0 0 rv_51)]) rfl hr_77
  replace hG := hG.mono hlev_101
  replace hs_163 := hs_163.mono hlev_101
  replace h := bind_some h
  obtain ⟨rv_52, hx_61, h⟩ := h
  refine O.callS (us := [.agg #[iv 1, .slice p_95 ([(Span.mk 0 0)]).length c_95, .slice p_96 ([(BeatOpen.mk 0 0 rv_49), (BeatOpen.mk 0 0 rv_50), (BeatOpen.mk 0 0 rv_51)]).length c_96, .slice none 0 0]]) ca_27 hF hS (beat_Wrong_ok hS.stab (BeatCellar.mk 1 ([(Span.mk 0 0)]) ([(BeatOpen.mk 0 0 rv_49), (BeatOpen.mk 0 0 rv_50), (BeatOpen.mk 0 0 rv_51)]) ([] : List BeatPair)) hs_163 hs_164 SRc.nil hG rv_52 hx_61) rfl rfl fun v_31 Dv_103 a w hR_4 hlev_102 hF hS => ?_
  replace hG := hG.mono hlev_102
  replace hs_163 := hs_163.mono hlev_102
  replace hs_164 := hs_164.mono hlev_102
  obtain ⟨p_97, c_97, rfl, hs_165⟩ := hR_4
  refine step hF (Y.move hF rfl) rfl fun a hF => ?_
  refine step hF (Y.extract hF rfl rfl) rfl fun a hF => ?_
  refine step hF (Y.extract hF rfl rfl) rfl fun a hF => ?_
  refine step hF (Y.assign hF rfl) rfl fun a hF => ?_
  refine nT ?_
  refine seq ?_
  refine seq ?_
  refine region ?_
  refine step hF (Y.move hF rfl) rfl fun a hF => ?_
  refine step hF (Y.neq hF rfl rfl) rfl fun a hF => ?_
  refine step hF (Y.move hF rfl) rfl fun a hF => ?_
  refine join (N := 455) (rs := []) (w0 := w0) (D0 := D0) 3 (us := [(0, .bool sv), (19, iv rv_36.2), (21, iv rv_39.2), (23, iv rv_42.2), (25, iv rv_45.2), (27, iv rv_48.2.2), (30, iv rv_52.2), (31, .pointer (some ⟨b_24, 0, none⟩)), (310, .bool ((rv_36.2 != 22) || (rv_39.2 != 22)))]) (ms := [(36, .cells b_20 [iv rv_22.1.Low, iv rv_22.1.High] 34), (40, .cells b_21 [iv rv_24.1.Low, iv rv_24.1.High] 34), (44, .cells b_22 [iv rv_26.1.Low, iv rv_26.1.High] 34), (48, .cells b_23 [iv rv_28.1.Low, iv rv_28.1.High] 34), (78, .cells b_24 [iv 1, .slice p_95 ([(Span.mk 0 0)]).length c_95, .slice p_96 ([(BeatOpen.mk 0 0 rv_49), (BeatOpen.mk 0 0 rv_50), (BeatOpen.mk 0 0 rv_51)]).length c_96, .slice none 0 0] 26)]) (D' := Dv_103) ?_ ?_
  ·rcases bcases (rv_36.2 != 22) with hbv_16 | hbv_16
   ·-- true
    refine guard_off hF rfl rfl hbv_16 rfl fun a hF => ?_
    refine guard_off hF rfl rfl hbv_16 rfl fun a hF => ?_
    refine step hF (Y.pick_t hF rfl hbv_16 rfl) rfl fun a hF => ?_
    exact nT ⟨hF.weak ⟨rfl, rfl, rfl, rfl, rfl, rfl, rfl, rfl, (by rw [hbv_16]; rfl), trivial⟩, hS.weak (AL rfl)⟩
   ·-- false
    refine guard_on hF rfl rfl hbv_16 ?_
    refine step hF (Y.move hF rfl) rfl fun a hF => ?_
    refine guard_on hF rfl rfl hbv_16 ?_
    refine step hF (Y.neq hF rfl rfl) rfl fun a hF => ?_
    refine step hF (Y.pick_f hF rfl hbv_16 rfl) rfl fun a hF => ?_
    exact nT ⟨hF.weak ⟨rfl, rfl, rfl, rfl, rfl, rfl, rfl, rfl, (by rw [hbv_16]; rfl), trivial⟩, hS.weak (AL rfl)⟩
  intro a w hF hS
  refine step hF (Y.move hF rfl) rfl fun a hF => ?_
  refine join (N := 455) (rs := []) (w0 := w0) (D0 := D0) 3 (us := [(0, .bool sv), (19, iv rv_36.2), (21, iv rv_39.2), (23, iv rv_42.2), (25, iv rv_45.2), (27, iv rv_48.2.2), (30, iv rv_52.2), (31, .pointer (some ⟨b_24, 0, none⟩)), (314, .bool (((rv_36.2 != 22) || (rv_39.2 != 22)) || (rv_42.2 != 22)))]) (ms := [(36, .cells b_20 [iv rv_22.1.Low, iv rv_22.1.High] 34), (40, .cells b_21 [iv rv_24.1.Low, iv rv_24.1.High] 34), (44, .cells b_22 [iv rv_26.1.Low, iv rv_26.1.High] 34), (48, .cells b_23 [iv rv_28.1.Low, iv rv_28.1.High] 34), (78, .cells b_24 [iv 1, .slice p_95 ([(Span.mk 0 0)]).length c_95, .slice p_96 ([(BeatOpen.mk 0 0 rv_49), (BeatOpen.mk 0 0 rv_50), (BeatOpen.mk 0 0 rv_51)]).length c_96, .slice none 0 0] 26)]) (D' := Dv_103) ?_ ?_
  ·rcases bcases ((rv_36.2 != 22) || (rv_39.2 != 22)) with hbv_17 | hbv_17
   ·-- true
    refine guard_off hF rfl rfl hbv_17 rfl fun a hF => ?_
    refine guard_off hF rfl rfl hbv_17 rfl fun a hF => ?_
    refine step hF (Y.pick_t hF rfl hbv_17 rfl) rfl fun a hF => ?_
    exact nT ⟨hF.weak ⟨rfl, rfl, rfl, rfl, rfl, rfl, rfl, rfl, (by rw [hbv_17]; rfl), trivial⟩, hS.weak (AL rfl)⟩
   ·-- false
    refine guard_on hF rfl rfl hbv_17 ?_
    refine step hF (Y.move hF rfl) rfl fun a hF => ?_
    refine guard_on hF rfl rfl hbv_17 ?_
    refine step hF (Y.neq hF rfl rfl) rfl fun a hF => ?_
    refine step hF (Y.pick_f hF rfl hbv_17 rfl) rfl fun a hF => ?_
    exact nT ⟨hF.weak ⟨rfl, rfl, rfl, rfl, rfl, rfl, rfl, rfl, (by rw [hbv_17]; rfl), trivial⟩, hS.weak (AL rfl)⟩
  intro a w hF hS
  refine step hF (Y.move hF rfl) rfl fun a hF => ?_
  refine join (N := 455) (rs := []) (w0 := w0) (D0 := D0) 3 (us := [(0, .bool sv), (19, iv rv_36.2), (21, iv rv_39.2), (23, iv rv_42.2), (25, iv rv_45.2), (27, iv rv_48.2.2), (30, iv rv_52.2), (31, .pointer (some ⟨b_24, 0, none⟩)), (318, .bool ((((rv_36.2 != 22) || (rv_39.2 != 22)) || (rv_42.2 != 22)) || (rv_45.2 != 22)))]) (ms := [(36, .cells b_20 [iv rv_22.1.Low, iv rv_22.1.High] 34), (40, .cells b_21 [iv rv_24.1.Low, iv rv_24.1.High] 34), (44, .cells b_22 [iv rv_26.1.Low, iv rv_26.1.High] 34), (48, .cells b_23 [iv rv_28.1.Low, iv rv_28.1.High] 34), (78, .cells b_24 [iv 1, .slice p_95 ([(Span.mk 0 0)]).length c_95, .slice p_96 ([(BeatOpen.mk 0 0 rv_49), (BeatOpen.mk 0 0 rv_50), (BeatOpen.mk 0 0 rv_51)]).length c_96, .slice none 0 0] 26)]) (D' := Dv_103) ?_ ?_
  ·rcases bcases (((rv_36.2 != 22) || (rv_39.2 != 22)) || (rv_42.2 != 22)) with hbv_18 | hbv_18
   ·-- true
    refine guard_off hF rfl rfl hbv_18 rfl fun a hF => ?_
    refine guard_off hF rfl rfl hbv_18 rfl fun a hF => ?_
    refine step hF (Y.pick_t hF rfl hbv_18 rfl) rfl fun a hF => ?_
    exact nT ⟨hF.weak ⟨rfl, rfl, rfl, rfl, rfl, rfl, rfl, rfl, (by rw [hbv_18]; rfl), trivial⟩, hS.weak (AL rfl)⟩
   ·-- false
    refine guard_on hF rfl rfl hbv_18 ?_
    refine step hF (Y.move hF rfl) rfl fun a hF => ?_
    refine guard_on hF rfl rfl hbv_18 ?_
    refine step hF (Y.neq hF rfl rfl) rfl fun a hF => ?_
    refine step hF (Y.pick_f hF rfl hbv_18 rfl) rfl fun a hF => ?_
    exact nT ⟨hF.weak ⟨rfl, rfl, rfl, rfl, rfl, rfl, rfl, rfl, (by rw [hbv_18]; rfl), trivial⟩, hS.weak (AL rfl)⟩
  intro a w hF hS
  refine step hF (Y.move hF rfl) rfl fun a hF => ?_
  refine join (N := 455) (rs := []) (w0 := w0) (D0 := D0) 3 (us := [(0, .bool sv), (19, iv rv_36.2), (21, iv rv_39.2), (23, iv rv_42.2), (25, iv rv_45.2), (27, iv rv_48.2.2), (30, iv rv_52.2), (31, .pointer (some ⟨b_24, 0, none⟩)), (322, .bool (((((rv_36.2 != 22) || (rv_39.2 != 22)) || (rv_42.2 != 22)) || (rv_45.2 != 22)) || (rv_48.2.2 != 22)))]) (ms := [(36, .cells b_20 [iv rv_22.1.Low, iv rv_22.1.High] 34), (40, .cells b_21 [iv rv_24.1.Low, iv rv_24.1.High] 34), (44, .cells b_22 [iv rv_26.1.Low, iv rv_26.1.High] 34), (48, .cells b_23 [iv rv_28.1.Low, iv rv_28.1.High] 34), (78, .cells b_24 [iv 1, .slice p_95 ([(Span.mk 0 0)]).length c_95, .slice p_96 ([(BeatOpen.mk 0 0 rv_49), (BeatOpen.mk 0 0 rv_50), (BeatOpen.mk 0 0 rv_51)]).length c_96, .slice none 0 0] 26)]) (D' := Dv_103) ?_ ?_
  ·rcases bcases ((((rv_36.2 != 22) || (rv_39.2 != 22)) || (rv_42.2 != 22)) || (rv_45.2 != 22)) with hbv_19 | hbv_19
   ·-- true
    refine guard_off hF rfl rfl hbv_19 rfl fun a hF => ?_
    refine guard_off hF rfl rfl hbv_19 rfl fun a hF => ?_
    refine step hF (Y.pick_t hF rfl hbv_19 rfl) rfl fun a hF => ?_
    exact nT ⟨hF.weak ⟨rfl, rfl, rfl, rfl, rfl, rfl, rfl, rfl, (by rw [hbv_19]; rfl), trivial⟩, hS.weak (AL rfl)⟩
   ·-- false
    refine guard_on hF rfl rfl hbv_19 ?_
    refine step hF (Y.move hF rfl) rfl fun a hF => ?_
    refine guard_on hF rfl rfl hbv_19 ?_
    refine step hF (Y.neq hF rfl rfl) rfl fun a hF => ?_
    refine step hF (Y.pick_f hF rfl hbv_19 rfl) rfl fun a hF => ?_
    exact nT ⟨hF.weak ⟨rfl, rfl, rfl, rfl, rfl, rfl, rfl, rfl, (by rw [hbv_19]; rfl), trivial⟩, hS.weak (AL rfl)⟩
  intro a w hF hS
  refine step hF (Y.move hF rfl) rfl fun a hF => ?_
  refine join (N := 455) (rs := []) (w0 := w0) (D0 := D0) 3 (us := [(0, .bool sv), (19, iv rv_36.2), (21, iv rv_39.2), (23, iv rv_42.2), (25, iv rv_45.2), (27, iv rv_48.2.2), (30, iv rv_52.2), (31, .pointer (some ⟨b_24, 0, none⟩)), (326, .bool ((((((rv_36.2 != 22) || (rv_39.2 != 22)) || (rv_42.2 != 22)) || (rv_45.2 != 22)) || (rv_48.2.2 != 22)) || (rv_52.2 != 22)))]) (ms := [(36, .cells b_20 [iv rv_22.1.Low, iv rv_22.1.High] 34), (40, .cells b_21 [iv rv_24.1.Low, iv rv_24.1.High] 34), (44, .cells b_22 [iv rv_26.1.Low, iv rv_26.1.High] 34), (48, .cells b_23 [iv rv_28.1.Low, iv rv_28.1.High] 34), (78, .cells b_24 [iv 1, .slice p_95 ([(Span.mk 0 0)]).length c_95, .slice p_96 ([(BeatOpen.mk 0 0 rv_49), (BeatOpen.mk 0 0 rv_50), (BeatOpen.mk 0 0 rv_51)]).length c_96, .slice none 0 0] 26)]) (D' := Dv_103) ?_ ?_
  ·rcases bcases (((((rv_36.2 != 22) || (rv_39.2 != 22)) || (rv_42.2 != 22)) || (rv_45.2 != 22)) || (rv_48.2.2 != 22)) with hbv_20 | hbv_20
   ·-- true
    refine guard_off hF rfl rfl hbv_20 rfl fun a hF => ?_
    refine guard_off hF rfl rfl hbv_20 rfl fun a hF => ?_
    refine step hF (Y.pick_t hF rfl hbv_20 rfl) rfl fun a hF => ?_
    exact nT ⟨hF.weak ⟨rfl, rfl, rfl, rfl, rfl, rfl, rfl, rfl, (by rw [hbv_20]; rfl), trivial⟩, hS.weak (AL rfl)⟩
   ·-- false
    refine guard_on hF rfl rfl hbv_20 ?_
    refine step hF (Y.move hF rfl) rfl fun a hF => ?_
    refine guard_on hF rfl rfl hbv_20 ?_
    refine step hF (Y.neq hF rfl rfl) rfl fun a hF => ?_
    refine step hF (Y.pick_f hF rfl hbv_20 rfl) rfl fun a hF => ?_
    exact nT ⟨hF.weak ⟨rfl, rfl, rfl, rfl, rfl, rfl, rfl, rfl, (by rw [hbv_20]; rfl), trivial⟩, hS.weak (AL rfl)⟩
  intro a w hF hS
  refine nT ?_
  refine cond_b hF rfl (fun hbv_21 => ?_) (fun hbv_21 => ?_)
  ·replace h := cond_t h hbv_21
   refine seq ?_
   refine region ?_
   refine step hF (Y.assign hF rfl) rfl fun a hF => ?_
   refine nT ?_
   refine ret_ (then_r ?_)
   obtain rfl := some_inj h
   exact leaveP Tryd.results14 hF hS (.cons (.tmp rfl) .nil) .nil rfl
  ·replace h := cond_f h hbv_21
   refine skip_ (then_n ?_)
   refine seq ?_
   refine region ?_
   refine step hF (Y.fieldAddr fo_26_2 hF rfl) rfl fun a hF => ?_
   refine step hF (Y.load1L 78 sz_23 hF rfl hS rfl rfl) rfl fun a hF => ?_
   replace h := ite_some h
   obtain ⟨hg_1, h⟩ := h
   refine step hF (Y.sliceHi (xs := [(BeatOpen.mk 0 0 rv_49), (BeatOpen.mk 0 0 rv_50), (BeatOpen.mk 0 0 rv_51)]) u_23 sz_63 hF rfl rfl hg_1 hs_164.2) rfl fun a hF => ?_
   refine step hF (Y.fieldAddr fo_26_2 hF rfl) rfl fun a hF => ?_
   refine O.store (us := [.slice p_96 (([(BeatOpen.mk 0 0 rv_49), (BeatOpen.mk 0 0 rv_50), (BeatOpen.mk 0 0 rv_51)]).take (Int.toNat 2)).length c_96]) 78 sz_23 hF rfl rfl rfl rfl hS rfl rfl fun a w hF hS => ?_
   refine nT ?_
   refine seq ?_
   refine region ?_
   refine step hF (Y.loadNL 78 sz_26 hF rfl hS rfl rfl rfl) rfl fun a hF => ?_
   replace h := bind_some h
   obtain ⟨rv_53, hx_62, h⟩ := h
   refine O.callP (us := [.agg #[iv 1, .slice p_95 ([(Span.mk 0 0)]).length c_95, .slice p_96 (([(BeatOpen.mk 0 0 rv_49), (BeatOpen.mk 0 0 rv_50), (BeatOpen.mk 0 0 rv_51)]).take (Int.toNat 2)).length c_96, .slice none 0 0], iv 0, iv 1]) ca_19 hF hS (beat_Offset_ok hS.stab (BeatCellar.mk 1 ([(Span.mk 0 0)]) (([(BeatOpen.mk 0 0 rv_49), (BeatOpen.mk 0 0 rv_50), (BeatOpen.mk 0 0 rv_51)]).take (Int.toNat 2)) ([] : List BeatPair)) 0 1 hs_163 (SRc.take hs_164 (Int.toNat 2)) SRc.nil hG rv_53 hx_62) rfl rfl fun a w hF hS => ?_
   refine step hF (Y.move hF rfl) rfl fun a hF => ?_
   refine step hF (Y.extract hF rfl rfl) rfl fun a hF => ?_
   refine step hF (Y.extract hF rfl rfl) rfl fun a hF => ?_
   refine O.alloc 79 zc_34 hF hS rfl fun b_25 a w hF hS => ?_
   refine O.store (us := [iv rv_53.1.Low, iv rv_53.1.High]) 79 sz_34 hF rfl rfl rfl rfl hS rfl rfl fun a w hF hS => ?_
   refine step hF (Y.assign hF rfl) rfl fun a hF => ?_
   refine nT ?_
   refine seq ?_
   refine region ?_
   replace h := bind_some h
   obtain ⟨rv_54, hx_63, h⟩ := h
   refine O.callM (us := [.slice none 0 0]) ca_42 hF (remontoirlaw02_cellar_keep hS.stab ([] : List BeatPair) SRc.nil rv_54 hx_63) rfl rfl fun v_32 Dv_104 a w hK_27 hlev_103 hF => ?_
   replace hG := hG.mono hlev_103
   obtain ⟨p_98, c_98, cs_75, p_99, c_99, cs_76, p_100, c_100, cs_77, hS2_27, rfl, hr_78, hr_79, hr_80⟩ := hK_27
   replace hS := hS.join hS2_27
   replace hS := hS.move 80 900 rfl (by decide)
   replace hS := hS.move 81 901 rfl (by decide)
   replace hS := hS.move 82 902 rfl (by decide)
   replace hS := hS.weak (ms := [(36, .cells b_20 [iv rv_22.1.Low, iv rv_22.1.High] 34), (40, .cells b_21 [iv rv_24.1.Low, iv rv_24.1.High] 34), (44, .cells b_22 [iv rv_26.1.Low, iv rv_26.1.High] 34), (48, .cells b_23 [iv rv_28.1.Low, iv rv_28.1.High] 34), (78, .cells b_24 [iv 1, .slice p_95 ([(Span.mk 0 0)]).length c_95, .slice p_96 (([(BeatOpen.mk 0 0 rv_49), (BeatOpen.mk 0 0 rv_50), (BeatOpen.mk 0 0 rv_51)]).take (Int.toNat 2)).length c_96, .slice none 0 0] 26), (79, .cells b_25 [iv rv_53.1.Low, iv rv_53.1.High] 34), (80, .own p_98 rv_54.Rates.length c_98 cs_75 34 2), (81, .own p_99 rv_54.Opens.length c_99 cs_76 63 4), (82, .own p_100 rv_54.Pairs.length c_100 cs_77 61 5)]) (AL rfl)
   obtain ⟨Dv_105, hlev_104, hs_169, hS⟩ := hS.freezeC (C := C_Span) (i := 80) (xs := rv_54.Rates) rfl hr_78
   replace hG := hG.mono hlev_104
   replace hr_79 := hr_79.mono hlev_104
   replace hr_80 := hr_80.mono hlev_104
   obtain ⟨Dv_106, hlev_105, hs_170, hS⟩ := hS.freezeC (C := C_BeatOpen) (i := 81) (xs := rv_54.Opens) rfl hr_79
   replace hG := hG.mono hlev_105
   replace hr_80 := hr_80.mono hlev_105
   replace hs_169 := hs_169.mono hlev_105
   obtain ⟨Dv_107, hlev_106, hs_171, hS⟩ := hS.freezeC (C := C_BeatPair) (i := 82) (xs := rv_54.Pairs) rfl hr_80
   replace hG := hG.mono hlev_106
   replace hs_169 := hs_169.mono hlev_106
   replace hs_170 := hs_170.mono hlev_106
   replace h := bind_some h
   obtain ⟨rv_55, hx_64, h⟩ := h
   refine O.callP (us := [.agg #[iv rv_54.Hours, .slice p_98 rv_54.Rates.length c_98, .slice p_99 rv_54.Opens.length c_99, .slice p_100 rv_54.Pairs.length c_100], iv 2, iv 1]) ca_19 hF hS (beat_Offset_ok hS.stab rv_54 2 1 hs_169 hs_170 hs_171 hG rv_55 hx_64) rfl rfl fun a w hF hS => ?_
   refine step hF (Y.move hF rfl) rfl fun a hF => ?_
   refine step hF (Y.extract hF rfl rfl) rfl fun a hF => ?_
   refine step hF (Y.extract hF rfl rfl) rfl fun a hF => ?_
   refine O.alloc 83 zc_34 hF hS rfl fun b_26 a w hF hS => ?_
   refine O.store (us := [iv rv_55.1.Low, iv rv_55.1.High]) 83 sz_34 hF rfl rfl rfl rfl hS rfl rfl fun a w hF hS => ?_
   refine step hF (Y.assign hF rfl) rfl fun a hF => ?_
   refine nT ?_
   refine seq ?_
   refine region ?_
   replace h := bind_some h
   obtain ⟨rv_56, hx_65, h⟩ := h
   refine O.callM (us := [.slice none 0 0]) ca_42 hF (remontoirlaw02_cellar_keep hS.stab ([] : List BeatPair) SRc.nil rv_56 hx_65) rfl rfl fun v_33 Dv_108 a w hK_28 hlev_107 hF => ?_
   replace hG := hG.mono hlev_107
   obtain ⟨p_101, c_101, cs_78, p_102, c_102, cs_79, p_103, c_103, cs_80, hS2_28, rfl, hr_81, hr_82, hr_83⟩ := hK_28
   replace hS := hS.join hS2_28
   replace hS := hS.move 84 900 rfl (by decide)
   replace hS := hS.move 85 901 rfl (by decide)
   replace hS := hS.move 86 902 rfl (by decide)
   replace hS := hS.weak (ms := [(36, .cells b_20 [iv rv_22.1.Low, iv rv_22.1.High] 34), (40, .cells b_21 [iv rv_24.1.Low, iv rv_24.1.High] 34), (44, .cells b_22 [iv rv_26.1.Low, iv rv_26.1.High] 34), (48, .cells b_23 [iv rv_28.1.Low, iv rv_28.1.High] 34), (78, .cells b_24 [iv 1, .slice p_95 ([(Span.mk 0 0)]).length c_95, .slice p_96 (([(BeatOpen.mk 0 0 rv_49), (BeatOpen.mk 0 0 rv_50), (BeatOpen.mk 0 0 rv_51)]).take (Int.toNat 2)).length c_96, .slice none 0 0] 26), (79, .cells b_25 [iv rv_53.1.Low, iv rv_53.1.High] 34), (83, .cells b_26 [iv rv_55.1.Low, iv rv_55.1.High] 34), (84, .own p_101 rv_56.Rates.length c_101 cs_78 34 2), (85, .own p_102 rv_56.Opens.length c_102 cs_79 63 4), (86, .own p_103 rv_56.Pairs.length c_103 cs_80 61 5)]) (AL rfl)
   obtain ⟨Dv_109, hlev_108, hs_175, hS⟩ := hS.freezeC (C := C_Span) (i := 84) (xs := rv_56.Rates) rfl hr_81
   replace hG := hG.mono hlev_108
   replace hr_82 := hr_82.mono hlev_108
   replace hr_83 := hr_83.mono hlev_108
   obtain ⟨Dv_110, hlev_109, hs_176, hS⟩ := hS.freezeC (C := C_BeatOpen) (i := 85) (xs := rv_56.Opens) rfl hr_82
   replace hG := hG.mono hlev_109
   replace hr_83 := hr_83.mono hlev_109
   replace hs_175 := hs_175.mono hlev_109
   obtain ⟨Dv_111, hlev_110, hs_177, hS⟩ := hS.freezeC (C := C_BeatPair) (i := 86) (xs := rv_56.Pairs) rfl hr_83
   replace hG := hG.mono hlev_110
   replace hs_175 := hs_175.mono hlev_110
   replace hs_176 := hs_176.mono hlev_110
   replace h := bind_some h
   obtain ⟨rv_57, hx_66, h⟩ := h
   refine O.callP (us := [.agg #[iv rv_56.Hours, .slice p_101 rv_56.Rates.length c_101, .slice p_102 rv_56.Opens.length c_102, .slice p_103 rv_56.Pairs.length c_103], iv 1, iv 1, iv 2]) ca_22 hF hS (beat_Apart_ok hS.stab rv_56 1 1 2 hs_175 hs_176 hs_177 hG rv_57 hx_66) rfl rfl fun a w hF hS => ?_
   refine step hF (Y.move hF rfl) rfl fun a hF => ?_
   refine step hF (Y.extract hF rfl rfl) rfl fun a hF => ?_
   refine step hF (Y.extract hF rfl rfl) rfl fun a hF => ?_
   refine O.alloc 87 zc_34 hF hS rfl fun b_27 a w hF hS => ?_
   refine O.store (us := [iv rv_57.1.Low, iv rv_57.1.High]) 87 sz_34 hF rfl rfl rfl rfl hS rfl rfl fun a w hF hS => ?_
   refine step hF (Y.assign hF rfl) rfl fun a hF => ?_
   refine nT ?_
   refine seq ?_
   refine region ?_
   replace h := bind_some h
   obtain ⟨rv_58, hx_67, h⟩ := h
   refine O.callM (us := [.slice none 0 0]) ca_42 hF (remontoirlaw02_cellar_keep hS.stab ([] : List BeatPair) SRc.nil rv_58 hx_67) rfl rfl fun v_34 Dv_112 a w hK_29 hlev_111 hF => ?_
   replace hG := hG.mono hlev_111
   obtain ⟨p_104, c_104, cs_81, p_105, c_105, cs_82, p_106, c_106, cs_83, hS2_29, rfl, hr_84, hr_85, hr_86⟩ := hK_29
   replace hS := hS.join hS2_29
   replace hS := hS.move 88 900 rfl (by decide)
   replace hS := hS.move 89 901 rfl (by decide)
   replace hS := hS.move 90 902 rfl (by decide)
   replace hS := hS.weak (ms := [(36, .cells b_20 [iv rv_22.1.Low, iv rv_22.1.High] 34), (40, .cells b_21 [iv rv_24.1.Low, iv rv_24.1.High] 34), (44, .cells b_22 [iv rv_26.1.Low, iv rv_26.1.High] 34), (48, .cells b_23 [iv rv_28.1.Low, iv rv_28.1.High] 34), (78, .cells b_24 [iv 1, .slice p_95 ([(Span.mk 0 0)]).length c_95, .slice p_96 (([(BeatOpen.mk 0 0 rv_49), (BeatOpen.mk 0 0 rv_50), (BeatOpen.mk 0 0 rv_51)]).take (Int.toNat 2)).length c_96, .slice none 0 0] 26), (79, .cells b_25 [iv rv_53.1.Low, iv rv_53.1.High] 34), (83, .cells b_26 [iv rv_55.1.Low, iv rv_55.1.High] 34), (87, .cells b_27 [iv rv_57.1.Low, iv rv_57.1.High] 34), (88, .own p_104 rv_58.Rates.length c_104 cs_81 34 2), (89, .own p_105 rv_58.Opens.length c_105 cs_82 63 4), (90, .own p_106 rv_58.Pairs.length c_106 cs_83 61 5)]) (AL rfl)
   obtain ⟨Dv_113, hlev_112, hs_181, hS⟩ := hS.freezeC (C := C_Span) (i := 88) (xs := rv_58.Rates) rfl hr_84
   replace hG := hG.mono hlev_112
   replace hr_85 := hr_85.mono hlev_112
   replace hr_86 := hr_86.mono hlev_112
   obtain ⟨Dv_114, hlev_113, hs_182, hS⟩ := hS.freezeC (C := C_BeatOpen) (i := 89) (xs := rv_58.Opens) rfl hr_85
   replace hG := hG.mono hlev_113
   replace hr_86 := hr_86.mono hlev_113
   replace hs_181 := hs_181.mono hlev_113
   obtain ⟨Dv_115, hlev_114, hs_183, hS⟩ := hS.freezeC (C := C_BeatPair) (i := 90) (xs := rv_58.Pairs) rfl hr_86
   replace hG := hG.mono hlev_114
   replace hs_181 := hs_181.mono hlev_114
   replace hs_182 := hs_182.mono hlev_114
   replace h := bind_some h
   obtain ⟨rv_59, hx_68, h⟩ := h
   refine O.callP (us := [.agg #[iv rv_58.Hours, .slice p_104 rv_58.Rates.length c_104, .slice p_105 rv_58.Opens.length c_105, .slice p_106 rv_58.Pairs.length c_106], iv 1, iv 3, iv 0]) ca_24 hF hS (beat_Drift_ok hS.stab rv_58 1 3 0 hs_181 hs_182 hs_183 hG rv_59 hx_68) rfl rfl fun a w hF hS => ?_
   refine step hF (Y.move hF rfl) rfl fun a hF => ?_
   refine step hF (Y.extract hF rfl rfl) rfl fun a hF => ?_
   refine step hF (Y.extract hF rfl rfl) rfl fun a hF => ?_
   refine O.alloc 91 zc_34 hF hS rfl fun b_28 a w hF hS => ?_
   refine O.store (us := [iv rv_59.1.Low, iv rv_59.1.High]) 91 sz_34 hF rfl rfl rfl rfl hS rfl rfl fun a w hF hS => ?_
   refine step hF (Y.assign hF rfl) rfl fun a hF => ?_
   refine nT ?_
   refine seq ?_
   refine region ?_
   replace h := bind_some h
   obtain ⟨rv_60, hx_69, h⟩ := h
   refine O.callM (us := [.slice none 0 0]) ca_42 hF (remontoirlaw02_cellar_keep hS.stab ([] : List BeatPair) SRc.nil rv_60 hx_69) rfl rfl fun v_35 Dv_116 a w hK_30 hlev_115 hF => ?_
   replace hG := hG.mono hlev_115
   obtain ⟨p_107, c_107, cs_84, p_108, c_108, cs_85, p_109, c_109, cs_86, hS2_30, rfl, hr_87, hr_88, hr_89⟩ := hK_30
   replace hS := hS.join hS2_30
   replace hS := hS.move 92 900 rfl (by decide)
   replace hS := hS.move 93 901 rfl (by decide)
   replace hS := hS.move 94 902 rfl (by decide)
   replace hS := hS.weak (ms := [(36, .cells b_20 [iv rv_22.1.Low, iv rv_22.1.High] 34), (40, .cells b_21 [iv rv_24.1.Low, iv rv_24.1.High] 34), (44, .cells b_22 [iv rv_26.1.Low, iv rv_26.1.High] 34), (48, .cells b_23 [iv rv_28.1.Low, iv rv_28.1.High] 34), (78, .cells b_24 [iv 1, .slice p_95 ([(Span.mk 0 0)]).length c_95, .slice p_96 (([(BeatOpen.mk 0 0 rv_49), (BeatOpen.mk 0 0 rv_50), (BeatOpen.mk 0 0 rv_51)]).take (Int.toNat 2)).length c_96, .slice none 0 0] 26), (79, .cells b_25 [iv rv_53.1.Low, iv rv_53.1.High] 34), (83, .cells b_26 [iv rv_55.1.Low, iv rv_55.1.High] 34), (87, .cells b_27 [iv rv_57.1.Low, iv rv_57.1.High] 34), (91, .cells b_28 [iv rv_59.1.Low, iv rv_59.1.High] 34), (92, .own p_107 rv_60.Rates.length c_107 cs_84 34 2), (93, .own p_108 rv_60.Opens.length c_108 cs_85 63 4), (94, .own p_109 rv_60.Pairs.length c_109 cs_86 61 5)]) (AL rfl)
   obtain ⟨Dv_117, hlev_116, hs_187, hS⟩ := hS.freezeC (C := C_Span) (i := 92) (xs := rv_60.Rates) rfl hr_87
   replace hG := hG.mono hlev_116
   replace hr_88 := hr_88.mono hlev_116
   replace hr_89 := hr_89.mono hlev_116
   obtain ⟨Dv_118, hlev_117, hs_188, hS⟩ := hS.freezeC (C := C_BeatOpen) (i := 93) (xs := rv_60.Opens) rfl hr_88
   replace hG := hG.mono hlev_117
   replace hr_89 := hr_89.mono hlev_117
   replace hs_187 := hs_187.mono hlev_117
   obtain ⟨Dv_119, hlev_118, hs_189, hS⟩ := hS.freezeC (C := C_BeatPair) (i := 94) (xs := rv_60.Pairs) rfl hr_89
   replace hG := hG.mono hlev_118
   replace hs_187 := hs_187.mono hlev_118
   replace hs_188 := hs_188.mono hlev_118
   replace h := bind_some h
   obtain ⟨rv_61, hx_70, h⟩ := h
   refine O.callS (us := [.agg #[iv rv_60.Hours, .slice p_107 rv_60.Rates.length c_107, .slice p_108 rv_60.Opens.length c_108, .slice p_109 rv_60.Pairs.length c_109]]) ca_27 hF hS (beat_Wrong_ok hS.stab rv_60 hs_187 hs_188 hs_189 hG rv_61 hx_70) rfl rfl fun v_36 Dv_120 a w hR_5 hlev_119 hF hS => ?_
   replace hG := hG.mono hlev_119
   obtain ⟨p_110, c_110, rfl, hs_190⟩ := hR_5
   refine step hF (Y.move hF rfl) rfl fun a hF => ?_
   refine step hF (Y.extract hF rfl rfl) rfl fun a hF => ?_
   refine step hF (Y.extract hF rfl rfl) rfl fun a hF => ?_
   refine step hF (Y.assign hF rfl) rfl fun a hF => ?_
   refine step hF (Y.assign hF rfl) rfl fun a hF => ?_
   refine nT ?_
   refine seq ?_
   refine region ?_
   replace h := bind_some h
   obtain ⟨rv_62, hx_71, h⟩ := h
   refine O.callM (us := [.slice none 0 0]) ca_42 hF (remontoirlaw02_cellar_keep hS.stab ([] : List BeatPair) SRc.nil rv_62 hx_71) rfl rfl fun v_37 Dv_121 a w hK_31 hlev_120 hF => ?_
   replace hG := hG.mono hlev_120
   obtain ⟨p_111, c_111, cs_87, p_112, c_112, cs_88, p_113, c_113, cs_89, hS2_31, rfl, hr_90, hr_91, hr_92⟩ := hK_31
   replace hS := hS.join hS2_31
   replace hS := hS.move 95 900 rfl (by decide)
   replace hS := hS.move 96 901 rfl (by decide)
   replace hS := hS.move 97 902 rfl (by decide)
   replace hS := hS.weak (ms := [(36, .cells b_20 [iv rv_22.1.Low, iv rv_22.1.High] 34), (40, .cells b_21 [iv rv_24.1.Low, iv rv_24.1.High] 34), (44, .cells b_22 [iv rv_26.1.Low, iv rv_26.1.High] 34), (48, .cells b_23 [iv rv_28.1.Low, iv rv_28.1.High] 34), (78, .cells b_24 [iv 1, .slice p_95 ([(Span.mk 0 0)]).length c_95, .slice p_96 (([(BeatOpen.mk 0 0 rv_49), (BeatOpen.mk 0 0 rv_50), (BeatOpen.mk 0 0 rv_51)]).take (Int.toNat 2)).length c_96, .slice none 0 0] 26), (79, .cells b_25 [iv rv_53.1.Low, iv rv_53.1.High] 34), (83, .cells b_26 [iv rv_55.1.Low, iv rv_55.1.High] 34), (87, .cells b_27 [iv rv_57.1.Low, iv rv_57.1.High] 34), (91, .cells b_28 [iv rv_59.1.Low, iv rv_59.1.High] 34), (95, .own p_111 rv_62.Rates.length c_111 cs_87 34 2), (96, .own p_112 rv_62.Opens.length c_112 cs_88 63 4), (97, .own p_113 rv_62.Pairs.length c_113 cs_89 61 5)]) (AL rfl)
   obtain ⟨Dv_122, hlev_121, hs_194, hS⟩ := hS.freezeC (C := C_Span) (i := 95) (xs := rv_62.Rates) rfl hr_90
   replace hG := hG.mono hlev_121
   replace hr_91 := hr_91.mono hlev_121
   replace hr_92 := hr_92.mono hlev_121
   obtain ⟨Dv_123, hlev_122, hs_195, hS⟩ := hS.freezeC (C := C_BeatOpen) (i := 96) (xs := rv_62.Opens) rfl hr_91
   replace hG := hG.mono hlev_122
   replace hr_92 := hr_92.mono hlev_122
   replace hs_194 := hs_194.mono hlev_122
   obtain ⟨Dv_124, hlev_123, hs_196, hS⟩ := hS.freezeC (C := C_BeatPair) (i := 97) (xs := rv_62.Pairs) rfl hr_92
   replace hG := hG.mono hlev_123
   replace hs_194 := hs_194.mono hlev_123
   replace hs_195 := hs_195.mono hlev_123
   replace h := bind_some h
   obtain ⟨rv_63, hx_72, h⟩ := h
   refine O.callP (us := [.agg #[iv rv_62.Hours, .slice p_111 rv_62.Rates.length c_111, .slice p_112 rv_62.Opens.length c_112, .slice p_113 rv_62.Pairs.length c_113], iv 0]) ca_30 hF hS (beat_Best_ok hS.stab rv_62 0 hs_194 hs_195 hs_196 hG rv_63 hx_72) rfl rfl fun a w hF hS => ?_
   refine step hF (Y.move hF rfl) rfl fun a hF => ?_
   refine step hF (Y.extract hF rfl rfl) rfl fun a hF => ?_
   refine step hF (Y.extract hF rfl rfl) rfl fun a hF => ?_
   refine step hF (Y.extract hF rfl rfl) rfl fun a hF => ?_
   refine step hF (Y.assign hF rfl) rfl fun a hF => ?_
   refine step hF (Y.assign hF rfl) rfl fun a hF => ?_
   refine step hF (Y.assign hF rfl) rfl fun a hF => ?_
   refine nT ?_
   refine seq ?_
   refine region ?_
   replace h := bind_some h
   obtain ⟨rv_64, hx_73, h⟩ := h
   refine O.callM (us := [.slice none 0 0]) ca_42 hF (remontoirlaw02_cellar_keep hS.stab ([] : List BeatPair) SRc.nil rv_64 hx_73) rfl rfl fun v_38 Dv_125 a w hK_32 hlev_124 hF => ?_
   replace hG := hG.mono hlev_124
   obtain ⟨p_114, c_114, cs_90, p_115, c_115, cs_91, p_116, c_116, cs_92, hS2_32, rfl, hr_93, hr_94, hr_95⟩ := hK_32
   replace hS := hS.join hS2_32
   replace hS := hS.move 98 900 rfl (by decide)
   replace hS := hS.move 99 901 rfl (by decide)
   replace hS := hS.move 100 902 rfl (by decide)
   replace hS := hS.weak (ms := [(36, .cells b_20 [iv rv_22.1.Low, iv rv_22.1.High] 34), (40, .cells b_21 [iv rv_24.1.Low, iv rv_24.1.High] 34), (44, .cells b_22 [iv rv_26.1.Low, iv rv_26.1.High] 34), (48, .cells b_23 [iv rv_28.1.Low, iv rv_28.1.High] 34), (78, .cells b_24 [iv 1, .slice p_95 ([(Span.mk 0 0)]).length c_95, .slice p_96 (([(BeatOpen.mk 0 0 rv_49), (BeatOpen.mk 0 0 rv_50), (BeatOpen.mk 0 0 rv_51)]).take (Int.toNat 2)).length c_96, .slice none 0 0] 26), (79, .cells b_25 [iv rv_53.1.Low, iv rv_53.1.High] 34), (83, .cells b_26 [iv rv_55.1.Low, iv rv_55.1.High] 34), (87, .cells b_27 [iv rv_57.1.Low, iv rv_57.1.High] 34), (91, .cells b_28 [iv rv_59.1.Low, iv rv_59.1.High] 34), (98, .own p_114 rv_64.Rates.length c_114 cs_90 34 2), (99, .own p_115 rv_64.Opens.length c_115 cs_91 63 4), (100, .own p_116 rv_64.Pairs.length c_116 cs_92 61 5)]) (AL rfl)
   have hr_96 : Reps C_int Dv_125 [100, 98, 98, 98] [iv 100, iv 98, iv 98, iv 98] := Reps.cons (C := C_int) (x := 100) (c := [iv 100]) (r := [iv 98, iv 98, iv 98]) rfl (Reps.cons (C := C_int) (x := 98) (c := [iv 98]) (r := [iv 98, iv 98]) rfl (Reps.cons (C := C_int) (x := 98) (c := [iv 98]) (r := [iv 98]) rfl (Reps.cons (C := C_int) (x := 98) (c := [iv 98]) (r := []) rfl (Reps.nil))))
   refine O.buildSlice (E := 3) (C := C_int) (xs := [100, 98, 98, 98]) (cs := [iv 100, iv 98, iv 98, iv 98]) (us := [iv 100, iv 98, iv 98, iv 98]) (parts := [(0, (.const (iv 100))), (1, (.const (iv 98))), (2, (.const (iv 98))), (3, (.const (iv 98)))]) 101 hF hS rfl (by kernel_rfl) hr_96 rfl rfl rfl fun p_117 c_117 a w hF hS => ?_
   have hr_97 : Reps C_int Dv_125 [57, 58, 59, 60] [iv 57, iv 58, iv 59, iv 60] := Reps.cons (C := C_int) (x := 57) (c := [iv 57]) (r := [iv 58, iv 59, iv 60]) rfl (Reps.cons (C := C_int) (x := 58) (c := [iv 58]) (r := [iv 59, iv 60]) rfl (Reps.cons (C := C_int) (x := 59) (c := [iv 59]) (r := [iv 60]) rfl (Reps.cons (C := C_int) (x := 60) (c := [iv 60]) (r := []) rfl (Reps.nil))))
   refine O.buildSlice (E := 3) (C := C_int) (xs := [57, 58, 59, 60]) (cs := [iv 57, iv 58, iv 59, iv 60]) (us := [iv 57, iv 58, iv 59, iv 60]) (parts := [(0, (.const (iv 57))), (1, (.const (iv 58))), (2, (.const (iv 59))), (3, (.const (iv 60)))]) 102 hF hS rfl (by kernel_rfl) hr_97 rfl rfl rfl fun p_118 c_118 a w hF hS => ?_
   have hr_98 : Reps C_int Dv_125 [65, 65, 65] [iv 65, iv 65, iv 65] := Reps.cons (C := C_int) (x := 65) (c := [iv 65]) (r := [iv 65, iv 65]) rfl (Reps.cons (C := C_int) (x := 65) (c := [iv 65]) (r := [iv 65]) rfl (Reps.cons (C := C_int) (x := 65) (c := [iv 65]) (r := []) rfl (Reps.nil)))
   refine O.buildSlice (E := 3) (C := C_int) (xs := [65, 65, 65]) (cs := [iv 65, iv 65, iv 65]) (us := [iv 65, iv 65, iv 65]) (parts := [(0, (.const (iv 65))), (1, (.const (iv 65))), (2, (.const (iv 65)))]) 103 hF hS rfl (by kernel_rfl) hr_98 rfl rfl rfl fun p_119 c_119 a w hF hS => ?_
   obtain ⟨Dv_126, hlev_125, hs_200, hS⟩ := hS.freezeC (C := C_int) (i := 101) (xs := [100, 98, 98, 98]) rfl hr_96
   replace hG := hG.mono hlev_125
   replace hr_93 := hr_93.mono hlev_125
   replace hr_94 := hr_94.mono hlev_125
   replace hr_95 := hr_95.mono hlev_125
   replace hr_97 := hr_97.mono hlev_125
   replace hr_98 := hr_98.mono hlev_125
   obtain ⟨Dv_127, hlev_126, hs_201, hS⟩ := hS.freezeC (C := C_int) (i := 102) (xs := [57, 58, 59, 60]) rfl hr_97
   replace hG := hG.mono hlev_126
   replace hr_93 := hr_93.mono hlev_126
   replace hr_94 := hr_94.mono hlev_126
   replace hr_95 := hr_95.mono hlev_126
   replace hr_98 := hr_98.mono hlev_126
   replace hs_200 := hs_200.mono hlev_126
   obtain ⟨Dv_128, hlev_127, hs_202, hS⟩ := hS.freezeC (C := C_int) (i := 103) (xs := [65, 65, 65]) rfl hr_98
   replace hG := hG.mono hlev_127
   replace hr_93 := hr_93.mono hlev_127
   replace hr_94 := hr_94.mono hlev_127
   replace hr_95 := hr_95.mono hlev_127
   replace hs_200 := hs_200.mono hlev_127
   replace hs_201 := hs_201.mono hlev_127
   have hr_99 : Reps (C_sl C_int) Dv_128 [[100, 98, 98, 98], [57, 58, 59, 60], [65, 65, 65]] [.slice p_117 ([100, 98, 98, 98]).length c_117, .slice p_118 ([57, 58, 59, 60]).length c_118, .slice p_119 ([65, 65, 65]).length c_119] := Reps.cons (C := (C_sl C_int)) (x := [100, 98, 98, 98]) (c := [.slice p_117 ([100, 98, 98, 98]).length c_117]) (r := [.slice p_118 ([57, 58, 59, 60]).length c_118, .slice p_119 ([65, 65, 65]).length c_119]) (⟨_, _, rfl, hs_200⟩) (Reps.cons (C := (C_sl C_int)) (x := [57, 58, 59, 60]) (c := [.slice p_118 ([57, 58, 59, 60]).length c_118]) (r := [.slice p_119 ([65, 65, 65]).length c_119]) (⟨_, _, rfl, hs_201⟩) (Reps.cons (C := (C_sl C_int)) (x := [65, 65, 65]) (c := [.slice p_119 ([65, 65, 65]).length c_119]) (r := []) (⟨_, _, rfl, hs_202⟩) (Reps.nil)))
   refine O.buildSlice (E := 44) (C := (C_sl C_int)) (xs := [[100, 98, 98, 98], [57, 58, 59, 60], [65, 65, 65]]) (cs := [.slice p_117 ([100, 98, 98, 98]).length c_117, .slice p_118 ([57, 58, 59, 60]).length c_118, .slice p_119 ([65, 65, 65]).length c_119]) (us := [.slice p_117 ([100, 98, 98, 98]).length c_117, .slice p_118 ([57, 58, 59, 60]).length c_118, .slice p_119 ([65, 65, 65]).length c_119]) (parts := [(0, (.tmp 364)), (1, (.tmp 365)), (2, (.tmp 366))]) 104 hF hS rfl (by kernel_rfl) hr_99 rfl rfl rfl fun p_120 c_120 a w hF hS => ?_
   obtain ⟨Dv_129, hlev_128, hs_203, hS⟩ := hS.freezeC (C := C_Span) (i := 98) (xs := rv_64.Rates) rfl hr_93
   replace hG := hG.mono hlev_128
   replace hr_94 := hr_94.mono hlev_128
   replace hr_95 := hr_95.mono hlev_128
   replace hr_99 := hr_99.mono hlev_128
   obtain ⟨Dv_130, hlev_129, hs_204, hS⟩ := hS.freezeC (C := C_BeatOpen) (i := 99) (xs := rv_64.Opens) rfl hr_94
   replace hG := hG.mono hlev_129
   replace hr_95 := hr_95.mono hlev_129
   replace hr_99 := hr_99.mono hlev_129
   replace hs_203 := hs_203.mono hlev_129
   obtain ⟨Dv_131, hlev_130, hs_205, hS⟩ := hS.freezeC (C := C_BeatPair) (i := 100) (xs := rv_64.Pairs) rfl hr_95
   replace hG := hG.mono hlev_130
   replace hr_99 := hr_99.mono hlev_130
   replace hs_203 := hs_203.mono hlev_130
   replace hs_204 := hs_204.mono hlev_130
   obtain ⟨Dv_132, hlev_131, hs_206, hS⟩ := hS.freezeC (C := (C_sl C_int)) (i := 104) (xs := [[100, 98, 98, 98], [57, 58, 59, 60], [65, 65, 65]]) rfl hr_99
   replace hG := hG.mono hlev_131
   replace hs_203 := hs_203.mono hlev_131
   replace hs_204 := hs_204.mono hlev_131
   replace hs_205 := hs_205.mono hlev_131
   replace h := bind_some h
   obtain ⟨rv_65, hx_74, h⟩ := h
   refine O.callP (us := [.agg #[iv rv_64.Hours, .slice p_114 rv_64.Rates.length c_114, .slice p_115 rv_64.Opens.length c_115, .slice p_116 rv_64.Pairs.length c_116], .slice p_120 ([[100, 98, 98, 98], [57, 58, 59, 60], [65, 65, 65]]).length c_120]) ca_15 hF hS (beat_IsTruth_ok hS.stab rv_64 ([[100, 98, 98, 98], [57, 58, 59, 60], [65, 65, 65]]) hs_203 hs_204 hs_205 hs_206 hG rv_65 hx_74) rfl rfl fun a w hF hS => ?_
   refine step hF (Y.move hF rfl) rfl fun a hF => ?_
   refine step hF (Y.extract hF rfl rfl) rfl fun a hF => ?_
   refine step hF (Y.extract hF rfl rfl) rfl fun a hF => ?_
   refine step hF (Y.assign hF rfl) rfl fun a hF => ?_
   refine step hF (Y.assign hF rfl) rfl fun a hF => ?_
   refine nT ?_
   refine seq_cut (fun a w => ∃ (is : Bool) (hv : Int), ∃ (Dv_133 : Stab), Dv_132.le Dv_133 ∧ Frm 455 [] [(0, .bool sv), (19, iv rv_53.2), (21, iv rv_55.2), (23, iv rv_57.2), (25, iv rv_59.2), (27, iv rv_61.2), (30, iv rv_63.2.2), (32, .pointer (some ⟨b_25, 0, none⟩)), (33, .pointer (some ⟨b_26, 0, none⟩)), (34, .pointer (some ⟨b_27, 0, none⟩)), (35, .pointer (some ⟨b_28, 0, none⟩)), (36, .slice p_110 rv_61.1.length c_110), (37, iv rv_63.1), (38, iv rv_63.2.1), (39, .bool rv_65.1), (40, iv rv_65.2), (41, .bool is), (42, iv hv)] a ∧ St w0 D0 Dv_133 [(36, .cells b_20 [iv rv_22.1.Low, iv rv_22.1.High] 34), (40, .cells b_21 [iv rv_24.1.Low, iv rv_24.1.High] 34), (44, .cells b_22 [iv rv_26.1.Low, iv rv_26.1.High] 34), (48, .cells b_23 [iv rv_28.1.Low, iv rv_28.1.High] 34), (78, .cells b_24 [iv 1, .slice p_95 ([(Span.mk 0 0)]).length c_95, .slice p_96 (([(BeatOpen.mk 0 0 rv_49), (BeatOpen.mk 0 0 rv_50), (BeatOpen.mk 0 0 rv_51)]).take (Int.toNat 2)).length c_96, .slice none 0 0] 26), (79, .cells b_25 [iv rv_53.1.Low, iv rv_53.1.High] 34), (83, .cells b_26 [iv rv_55.1.Low, iv rv_55.1.High] 34), (87, .cells b_27 [iv rv_57.1.Low, iv rv_57.1.High] 34), (91, .cells b_28 [iv rv_59.1.Low, iv rv_59.1.High] 34)] w ∧ remontoirlaw02_BeatKnown_k2 rv_53 rv_55 rv_57 rv_59 rv_61 rv_63 rv_65 is hv = some out) ?_ ?_
   ·skip
    refine region ?_
    replace h := bind_some h
    obtain ⟨rv_76, hx_85, h⟩ := h
    refine O.callM (us := [.slice none 0 0]) ca_42 hF (remontoirlaw02_cellar_keep hS.stab ([] : List BeatPair) SRc.nil rv_76 hx_85) rfl rfl fun v_39 Dv_134 a w hK_33 hlev_133 hF => ?_
    replace hG := hG.mono hlev_133
    obtain ⟨p_121, c_121, cs_93, p_122, c_122, cs_94, p_123, c_123, cs_95, hS2_33, rfl, hr_100, hr_101, hr_102⟩ := hK_33
    replace hS := hS.join hS2_33
    replace hS := hS.move 105 900 rfl (by decide)
    replace hS := hS.move 106 901 rfl (by decide)
    replace hS := hS.move 107 902 rfl (by decide)
    replace hS := hS.weak (ms := [(36, .cells b_20 [iv rv_22.1.Low, iv rv_22.1.High] 34), (40, .cells b_21 [iv rv_24.1.Low, iv rv_24.1.High] 34), (44, .cells b_22 [iv rv_26.1.Low, iv rv_26.1.High] 34), (48, .cells b_23 [iv rv_28.1.Low, iv rv_28.1.High] 34), (78, .cells b_24 [iv 1, .slice p_95 ([(Span.mk 0 0)]).length c_95, .slice p_96 (([(BeatOpen.mk 0 0 rv_49), (BeatOpen.mk 0 0 rv_50), (BeatOpen.mk 0 0 rv_51)]).take (Int.toNat 2)).length c_96, .slice none 0 0] 26), (79, .cells b_25 [iv rv_53.1.Low, iv rv_53.1.High] 34), (83, .cells b_26 [iv rv_55.1.Low, iv rv_55.1.High] 34), (87, .cells b_27 [iv rv_57.1.Low, iv rv_57.1.High] 34), (91, .cells b_28 [iv rv_59.1.Low, iv rv_59.1.High] 34), (105, .own p_121 rv_76.Rates.length c_121 cs_93 34 2), (106, .own p_122 rv_76.Opens.length c_122 cs_94 63 4), (107, .own p_123 rv_76.Pairs.length c_123 cs_95 61 5)]) (AL rfl)
    have hr_103 : Reps C_int Dv_134 [100, 98, 98, 98] [iv 100, iv 98, iv 98, iv 98] := Reps.cons (C := C_int) (x := 100) (c := [iv 100]) (r := [iv 98, iv 98, iv 98]) rfl (Reps.cons (C := C_int) (x := 98) (c := [iv 98]) (r := [iv 98, iv 98]) rfl (Reps.cons (C := C_int) (x := 98) (c := [iv 98]) (r := [iv 98]) rfl (Reps.cons (C := C_int) (x := 98) (c := [iv 98]) (r := []) rfl (Reps.nil))))
    refine O.buildSlice (E := 3) (C := C_int) (xs := [100, 98, 98, 98]) (cs := [iv 100, iv 98, iv 98, iv 98]) (us := [iv 100, iv 98, iv 98, iv 98]) (parts := [(0, (.const (iv 100))), (1, (.const (iv 98))), (2, (.const (iv 98))), (3, (.const (iv 98)))]) 108 hF hS rfl (by kernel_rfl) hr_103 rfl rfl rfl fun p_124 c_124 a w hF hS => ?_
    have hr_104 : Reps C_int Dv_134 [57, 58, 59, 60] [iv 57, iv 58, iv 59, iv 60] := Reps.cons (C := C_int) (x := 57) (c := [iv 57]) (r := [iv 58, iv 59, iv 60]) rfl (Reps.cons (C := C_int) (x := 58) (c := [iv 58]) (r := [iv 59, iv 60]) rfl (Reps.cons (C := C_int) (x := 59) (c := [iv 59]) (r := [iv 60]) rfl (Reps.cons (C := C_int) (x := 60) (c := [iv 60]) (r := []) rfl (Reps.nil))))
    refine O.buildSlice (E := 3) (C := C_int) (xs := [57, 58, 59, 60]) (cs := [iv 57, iv 58, iv 59, iv 60]) (us := [iv 57, iv 58, iv 59, iv 60]) (parts := [(0, (.const (iv 57))), (1, (.const (iv 58))), (2, (.const (iv 59))), (3, (.const (iv 60)))]) 109 hF hS rfl (by kernel_rfl) hr_104 rfl rfl rfl fun p_125 c_125 a w hF hS => ?_
    have hr_105 : Reps C_int Dv_134 [65, 65, 65, 65] [iv 65, iv 65, iv 65, iv 65] := Reps.cons (C := C_int) (x := 65) (c := [iv 65]) (r := [iv 65, iv 65, iv 65]) rfl (Reps.cons (C := C_int) (x := 65) (c := [iv 65]) (r := [iv 65, iv 65]) rfl (Reps.cons (C := C_int) (x := 65) (c := [iv 65]) (r := [iv 65]) rfl (Reps.cons (C := C_int) (x := 65) (c := [iv 65]) (r := []) rfl (Reps.nil))))
    refine O.buildSlice (E := 3) (C := C_int) (xs := [65, 65, 65, 65]) (cs := [iv 65, iv 65, iv 65, iv 65]) (us := [iv 65, iv 65, iv 65, iv 65]) (parts := [(0, (.const (iv 65))), (1, (.const (iv 65))), (2, (.const (iv 65))), (3, (.const (iv 65)))]) 110 hF hS rfl (by kernel_rfl) hr_105 rfl rfl rfl fun p_126 c_126 a w hF hS => ?_
    obtain ⟨Dv_135, hlev_134, hs_210, hS⟩ := hS.freezeC (C := C_int) (i := 108) (xs := [100, 98, 98, 98]) rfl hr_103
    replace hG := hG.mono hlev_134
    replace hr_100 := hr_100.mono hlev_134
    replace hr_101 := hr_101.mono hlev_134
    replace hr_102 := hr_102.mono hlev_134
    replace hr_104 := hr_104.mono hlev_134
    replace hr_105 := hr_105.mono hlev_134
    obtain ⟨Dv_136, hlev_135, hs_211, hS⟩ := hS.freezeC (C := C_int) (i := 109) (xs := [57, 58, 59, 60]) rfl hr_104
    replace hG := hG.mono hlev_135
    replace hr_100 := hr_100.mono hlev_135
    replace hr_101 := hr_101.mono hlev_135
    replace hr_102 := hr_102.mono hlev_135
    replace hr_105 := hr_105.mono hlev_135
    replace hs_210 := hs_210.mono hlev_135
    obtain ⟨Dv_137, hlev_136, hs_212, hS⟩ := hS.freezeC (C := C_int) (i := 110) (xs := [65, 65, 65, 65]) rfl hr_105
    replace hG := hG.mono hlev_136
    replace hr_100 := hr_100.mono hlev_136
    replace hr_101 := hr_101.mono hlev_136
    replace hr_102 := hr_102.mono hlev_136
    replace hs_210 := hs_210.mono hlev_136
    replace hs_211 := hs_211.mono hlev_136
    have hr_106 : Reps (C_sl C_int) Dv_137 [[100, 98, 98, 98], [57, 58, 59, 60], [65, 65, 65, 65]] [.slice p_124 ([100, 98, 98, 98]).length c_124, .slice p_125 ([57, 58, 59, 60]).length c_125, .slice p_126 ([65, 65, 65, 65]).length c_126] := Reps.cons (C := (C_sl C_int)) (x := [100, 98, 98, 98]) (c := [.slice p_124 ([100, 98, 98, 98]).length c_124]) (r := [.slice p_125 ([57, 58, 59, 60]).length c_125, .slice p_126 ([65, 65, 65, 65]).length c_126]) (⟨_, _, rfl, hs_210⟩) (Reps.cons (C := (C_sl C_int)) (x := [57, 58, 59, 60]) (c := [.slice p_125 ([57, 58, 59, 60]).length c_125]) (r := [.slice p_126 ([65, 65, 65, 65]).length c_126]) (⟨_, _, rfl, hs_211⟩) (Reps.cons (C := (C_sl C_int)) (x := [65, 65, 65, 65]) (c := [.slice p_126 ([65, 65, 65, 65]).length c_126]) (r := []) (⟨_, _, rfl, hs_212⟩) (Reps.nil)))
    refine O.buildSlice (E := 44) (C := (C_sl C_int)) (xs := [[100, 98, 98, 98], [57, 58, 59, 60], [65, 65, 65, 65]]) (cs := [.slice p_124 ([100, 98, 98, 98]).length c_124, .slice p_125 ([57, 58, 59, 60]).length c_125, .slice p_126 ([65, 65, 65, 65]).length c_126]) (us := [.slice p_124 ([100, 98, 98, 98]).length c_124, .slice p_125 ([57, 58, 59, 60]).length c_125, .slice p_126 ([65, 65, 65, 65]).length c_126]) (parts := [(0, (.tmp 373)), (1, (.tmp 374)), (2, (.tmp 375))]) 111 hF hS rfl (by kernel_rfl) hr_106 rfl rfl rfl fun p_127 c_127 a w hF hS => ?_
    obtain ⟨Dv_138, hlev_137, hs_213, hS⟩ := hS.freezeC (C := C_Span) (i := 105) (xs := rv_76.Rates) rfl hr_100
    replace hG := hG.mono hlev_137
    replace hr_101 := hr_101.mono hlev_137
    replace hr_102 := hr_102.mono hlev_137
    replace hr_106 := hr_106.mono hlev_137
    obtain ⟨Dv_139, hlev_138, hs_214, hS⟩ := hS.freezeC (C := C_BeatOpen) (i := 106) (xs := rv_76.Opens) rfl hr_101
    replace hG := hG.mono hlev_138
    replace hr_102 := hr_102.mono hlev_138
    replace hr_106 := hr_106.mono hlev_138
    replace hs_213 := hs_213.mono hlev_138
    obtain ⟨Dv_140, hlev_139, hs_215, hS⟩ := hS.freezeC (C := C_BeatPair) (i := 107) (xs := rv_76.Pairs) rfl hr_102
    replace hG := hG.mono hlev_139
    replace hr_106 := hr_106.mono hlev_139
    replace hs_213 := hs_213.mono hlev_139
    replace hs_214 := hs_214.mono hlev_139
    obtain ⟨Dv_141, hlev_140, hs_216, hS⟩ := hS.freezeC (C := (C_sl C_int)) (i := 111) (xs := [[100, 98, 98, 98], [57, 58, 59, 60], [65, 65, 65, 65]]) rfl hr_106
    replace hG := hG.mono hlev_140
    replace hs_213 := hs_213.mono hlev_140
    replace hs_214 := hs_214.mono hlev_140
    replace hs_215 := hs_215.mono hlev_140
    replace h := bind_some h
    obtain ⟨rv_77, hx_86, h⟩ := h
    refine O.callP (us := [.agg #[iv rv_76.Hours, .slice p_121 rv_76.Rates.length c_121, .slice p_122 rv_76.Opens.length c_122, .slice p_123 rv_76.Pairs.length c_123], .slice p_127 ([[100, 98, 98, 98], [57, 58, 59, 60], [65, 65, 65, 65]]).length c_127]) ca_15 hF hS (beat_IsTruth_ok hS.stab rv_76 ([[100, 98, 98, 98], [57, 58, 59, 60], [65, 65, 65, 65]]) hs_213 hs_214 hs_215 hs_216 hG rv_77 hx_86) rfl rfl fun a w hF hS => ?_
    refine step hF (Y.move hF rfl) rfl fun a hF => ?_
    refine step hF (Y.extract hF rfl rfl) rfl fun a hF => ?_
    refine step hF (Y.extract hF rfl rfl) rfl fun a hF => ?_
    refine step hF (Y.assign hF rfl) rfl fun a hF => ?_
    refine step hF (Y.assign hF rfl) rfl fun a hF => ?_
    refine nT ?_
    exact ⟨rv_77.1, rv_77.2, Dv_141, hlev_133.trans (hlev_134.trans (hlev_135.trans (hlev_136.trans (hlev_137.trans (hlev_138.trans (hlev_139.trans hlev_140)))))), hF.weak (AF rfl), hS.weak (AL rfl), h⟩
   ·rintro a w ⟨is, hv, Dv_133, hlev_132, hF, hS, h⟩
    unfold remontoirlaw02_BeatKnown_k2 at h
    replace hG := hG.mono hlev_132
    refine seq ?_
    refine drawsV 76 remontoirlaw02_BeatKnown_tr3_0 mixed_ (drawOkF [(381, msk [19], msk []), (382, msk [380], msk [0]), (383, msk [381], msk [1]), (384, msk [32, 382], msk [2]), (385, msk [382], msk [2]), (386, msk [382, 383, 384], msk [2, 3, 4]), (387, msk [382, 385], msk [2, 5]), (388, msk [386], msk [4, 6]), (389, msk [21, 387], msk [7]), (390, msk [387, 388], msk [7, 8]), (391, msk [387, 389], msk [7, 9]), (392, msk [390], msk [7, 10]), (393, msk [33, 391], msk [11]), (394, msk [391], msk [11]), (395, msk [391, 392, 393], msk [11, 12, 13]), (396, msk [391, 394], msk [11, 14]), (397, msk [395], msk [13, 15]), (398, msk [23, 396], msk [16]), (399, msk [396, 397], msk [16, 17]), (400, msk [396, 398], msk [16, 18]), (401, msk [399], msk [16, 19]), (402, msk [34, 400], msk [20]), (403, msk [400], msk [20]), (404, msk [400, 401, 402], msk [20, 21, 22]), (405, msk [400, 403], msk [20, 23]), (406, msk [404], msk [22, 24]), (407, msk [25, 405], msk [25]), (408, msk [405, 406], msk [25, 26]), (409, msk [405, 407], msk [25, 27]), (410, msk [408], msk [25, 28]), (411, msk [35, 409], msk [29]), (412, msk [409], msk [29]), (413, msk [409, 410, 411], msk [29, 30, 31]), (414, msk [409, 412], msk [29, 32]), (415, msk [413], msk [31, 33]), (416, msk [27, 414], msk [34]), (417, msk [414, 415], msk [34, 35]), (418, msk [414, 416], msk [34, 36]), (419, msk [417], msk [34, 37]), (420, msk [36, 418], msk [38]), (421, msk [418, 419], msk [38, 39]), (422, msk [418, 420], msk [38, 40]), (423, msk [418, 421], msk [38, 41]), (424, msk [422], msk [38, 42]), (425, msk [30, 423], msk [43]), (426, msk [423, 424], msk [43, 44]), (427, msk [423, 425], msk [43, 45]), (428, msk [426], msk [43, 46]), (429, msk [37, 427], msk [47]), (430, msk [427, 428], msk [47, 48]), (431, msk [427, 429], msk [47, 49]), (432, msk [430], msk [47, 50]), (433, msk [38, 431], msk [51]), (434, msk [431, 432], msk [51, 52]), (435, msk [431, 433], msk [51, 53]), (436, msk [434], msk [51, 54]), (437, msk [40, 435], msk [55]), (438, msk [435, 436], msk [55, 56]), (439, msk [435, 437], msk [55, 57]), (440, msk [438], msk [55, 58]), (441, msk [39, 439], msk [59]), (442, msk [439, 440], msk [59, 60]), (443, msk [439, 441], msk [59, 61]), (444, msk [442], msk [59, 62]), (445, msk [42, 443], msk [63]), (446, msk [443, 444], msk [63, 64]), (447, msk [443, 445], msk [63, 65]), (448, msk [446], msk [63, 66]), (449, msk [41, 447], msk [67]), (450, msk [447, 448], msk [67, 68]), (451, msk [449], msk [67, 69]), (452, msk [450], msk [70]), (453, msk [451], msk [70, 71]), (454, msk [452], msk [72]), (455, msk [452, 453], msk [72, 73]), (1, msk [454], msk (List.range 75))] _ 76 (by kernel_rfl) (by kernel_rfl) (by kernel_rfl) (by kernel_rfl) (by kernel_rfl)) (fun w => St w0 D0 Dv_133 [(36, .cells b_20 [iv rv_22.1.Low, iv rv_22.1.High] 34), (40, .cells b_21 [iv rv_24.1.Low, iv rv_24.1.High] 34), (44, .cells b_22 [iv rv_26.1.Low, iv rv_26.1.High] 34), (48, .cells b_23 [iv rv_28.1.Low, iv rv_28.1.High] 34), (78, .cells b_24 [iv 1, .slice p_95 ([(Span.mk 0 0)]).length c_95, .slice p_96 (([(BeatOpen.mk 0 0 rv_49), (BeatOpen.mk 0 0 rv_50), (BeatOpen.mk 0 0 rv_51)]).take (Int.toNat 2)).length c_96, .slice none 0 0] 26), (79, .cells b_25 [iv rv_53.1.Low, iv rv_53.1.High] 34), (83, .cells b_26 [iv rv_55.1.Low, iv rv_55.1.High] 34), (87, .cells b_27 [iv rv_57.1.Low, iv rv_57.1.High] 34), (91, .cells b_28 [iv rv_59.1.Low, iv rv_59.1.High] 34)] w) _ (hS.weak (ms := [(36, .cells b_20 [iv rv_22.1.Low, iv rv_22.1.High] 34), (40, .cells b_21 [iv rv_24.1.Low, iv rv_24.1.High] 34), (44, .cells b_22 [iv rv_26.1.Low, iv rv_26.1.High] 34), (48, .cells b_23 [iv rv_28.1.Low, iv rv_28.1.High] 34), (78, .cells b_24 [iv 1, .slice p_95 ([(Span.mk 0 0)]).length c_95, .slice p_96 (([(BeatOpen.mk 0 0 rv_49), (BeatOpen.mk 0 0 rv_50), (BeatOpen.mk 0 0 rv_51)]).take (Int.toNat 2)).length c_96, .slice none 0 0] 26), (79, .cells b_25 [iv rv_53.1.Low, iv rv_53.1.High] 34), (83, .cells b_26 [iv rv_55.1.Low, iv rv_55.1.High] 34), (87, .cells b_27 [iv rv_57.1.Low, iv rv_57.1.High] 34), (91, .cells b_28 [iv rv_59.1.Low, iv rv_59.1.High] 34)]) (AL rfl)).drew (fun _ _ _ _ h => h) ?_ (fun _ _ h => h)
    replace hS := hS.drew
    have hle0 := hS.le
    refine stepV (i := 0) rfl hF (fun w hS => Y.move hF rfl) rfl fun a hF => ?_
    refine stepV (i := 1) rfl hF (fun w hS => Y.eql hF rfl rfl) rfl fun a hF => ?_
    refine stepV (i := 2) rfl hF (fun w hS => Y.move hF rfl) rfl fun a hF => ?_
    replace h := bind_some h
    obtain ⟨t_5, ht_5, h⟩ := h
    refine cutV (u := remontoirlaw02_BeatKnown_tr3_7) (fun a w => Frm 455 [] [(0, .bool sv), (21, iv rv_55.2), (23, iv rv_57.2), (25, iv rv_59.2), (27, iv rv_61.2), (30, iv rv_63.2.2), (33, .pointer (some ⟨b_26, 0, none⟩)), (34, .pointer (some ⟨b_27, 0, none⟩)), (35, .pointer (some ⟨b_28, 0, none⟩)), (36, .slice p_110 rv_61.1.length c_110), (37, iv rv_63.1), (38, iv rv_63.2.1), (39, .bool rv_65.1), (40, iv rv_65.2), (41, .bool is), (42, iv hv), (386, .bool t_5)] a ∧ St w0 D0 Dv_133 [(36, .cells b_20 [iv rv_22.1.Low, iv rv_22.1.High] 34), (40, .cells b_21 [iv rv_24.1.Low, iv rv_24.1.High] 34), (44, .cells b_22 [iv rv_26.1.Low, iv rv_26.1.High] 34), (48, .cells b_23 [iv rv_28.1.Low, iv rv_28.1.High] 34), (78, .cells b_24 [iv 1, .slice p_95 ([(Span.mk 0 0)]).length c_95, .slice p_96 (([(BeatOpen.mk 0 0 rv_49), (BeatOpen.mk 0 0 rv_50), (BeatOpen.mk 0 0 rv_51)]).take (Int.toNat 2)).length c_96, .slice none 0 0] 26), (79, .cells b_25 [iv rv_53.1.Low, iv rv_53.1.High] 34), (83, .cells b_26 [iv rv_55.1.Low, iv rv_55.1.High] 34), (87, .cells b_27 [iv rv_57.1.Low, iv rv_57.1.High] 34), (91, .cells b_28 [iv rv_59.1.Low, iv rv_59.1.High] 34)] w) ?_ ?_
    ·intro hcut
     rcases bcases (rv_53.2 == 0) with hbv_39 | hbv_39
     ·-- true
      replace h := cond_t ht_5 hbv_39
      refine stepV_on (i := 3) rfl hF rfl rfl hbv_39 (fun w hS => Y.loadNL 79 sz_34 hF rfl hS rfl rfl rfl) rfl fun a hF => ?_
      refine oneV (i := 4) rfl ?_ trivial
      refine guard_on hF rfl rfl hbv_39 ?_
      replace h := bind_some h
      obtain ⟨rv_71, hx_80, h⟩ := h
      refine O.callP (us := [iv 100000, iv 100000]) ca_37 hF hS (r0To_ok hS.stab 100000 100000 rv_71 hx_80) rfl rfl fun a w hF hS => ?_
      refine nT ⟨hS.weak (AL rfl), ?_⟩
      refine stepV_on (i := 5) rfl hF rfl rfl hbv_39 (fun w hS => Y.eqst (fun w => eqT_34.equal (by decide) (l := [rv_53.1.Low, rv_53.1.High]) (m := [rv_71.Low, rv_71.High]) rfl rfl) (fun w => run_eqGuard_agg _ _ _ _ _ _ _ eg_34) hF rfl rfl) rfl fun a hF => ?_
      refine stepV (i := 6) rfl hF (fun w hS => Y.pick_t hF rfl hbv_39 rfl) rfl fun a hF => ?_
      obtain rfl := some_inj h
      exact hcut _ _ ⟨hF.weak (AF rfl), hS.weak (AL rfl)⟩
     ·-- false
      replace h := cond_f ht_5 hbv_39
      refine stepV_off (i := 3) rfl hF rfl rfl hbv_39 rfl fun a hF => ?_
      refine oneV (i := 4) rfl (guard_off hF rfl rfl hbv_39 rfl fun a hF => nT ⟨hS.weak (AL rfl), ?_⟩) trivial
      refine stepV_off (i := 5) rfl hF rfl rfl hbv_39 rfl fun a hF => ?_
      refine stepV (i := 6) rfl hF (fun w hS => Y.pick_f hF rfl hbv_39 rfl) rfl fun a hF => ?_
      obtain rfl := some_inj h
      exact hcut _ _ ⟨hF.weak (AF rfl), hS.weak (AL rfl)⟩
    ·skip
     rintro a w ⟨hF, hS⟩
     refine stepV (i := 7) rfl hF (fun w hS => Y.move hF rfl) rfl fun a hF => ?_
     refine cutV (u := remontoirlaw02_BeatKnown_tr3_11) (fun a w => Frm 455 [] [(0, .bool sv), (23, iv rv_57.2), (25, iv rv_59.2), (27, iv rv_61.2), (30, iv rv_63.2.2), (33, .pointer (some ⟨b_26, 0, none⟩)), (34, .pointer (some ⟨b_27, 0, none⟩)), (35, .pointer (some ⟨b_28, 0, none⟩)), (36, .slice p_110 rv_61.1.length c_110), (37, iv rv_63.1), (38, iv rv_63.2.1), (39, .bool rv_65.1), (40, iv rv_65.2), (41, .bool is), (42, iv hv), (390, .bool (t_5 && (rv_55.2 == 0)))] a ∧ St w0 D0 Dv_133 [(36, .cells b_20 [iv rv_22.1.Low, iv rv_22.1.High] 34), (40, .cells b_21 [iv rv_24.1.Low, iv rv_24.1.High] 34), (44, .cells b_22 [iv rv_26.1.Low, iv rv_26.1.High] 34), (48, .cells b_23 [iv rv_28.1.Low, iv rv_28.1.High] 34), (78, .cells b_24 [iv 1, .slice p_95 ([(Span.mk 0 0)]).length c_95, .slice p_96 (([(BeatOpen.mk 0 0 rv_49), (BeatOpen.mk 0 0 rv_50), (BeatOpen.mk 0 0 rv_51)]).take (Int.toNat 2)).length c_96, .slice none 0 0] 26), (79, .cells b_25 [iv rv_53.1.Low, iv rv_53.1.High] 34), (83, .cells b_26 [iv rv_55.1.Low, iv rv_55.1.High] 34), (87, .cells b_27 [iv rv_57.1.Low, iv rv_57.1.High] 34), (91, .cells b_28 [iv rv_59.1.Low, iv rv_59.1.High] 34)] w) ?_ ?_
     ·intro hcut
      rcases bcases t_5 with hbv_40 | hbv_40
      ·-- true
       refine stepV_on (i := 8) rfl hF rfl rfl hbv_40 (fun w hS => Y.move hF rfl) rfl fun a hF => ?_
       refine stepV_on (i := 9) rfl hF rfl rfl hbv_40 (fun w hS => Y.eql hF rfl rfl) rfl fun a hF => ?_
       refine stepV (i := 10) rfl hF (fun w hS => Y.pick_t hF rfl hbv_40 rfl) rfl fun a hF => ?_
       exact hcut _ _ ⟨hF.weak ⟨rfl, rfl, rfl, rfl, rfl, rfl, rfl, rfl, rfl, rfl, rfl, rfl, rfl, rfl, rfl, (by rw [hbv_40]; rfl), trivial⟩, hS.weak (AL rfl)⟩
      ·-- false
       refine stepV_off (i := 8) rfl hF rfl rfl hbv_40 rfl fun a hF => ?_
       refine stepV_off (i := 9) rfl hF rfl rfl hbv_40 rfl fun a hF => ?_
       refine stepV (i := 10) rfl hF (fun w hS => Y.pick_f hF rfl hbv_40 rfl) rfl fun a hF => ?_
       exact hcut _ _ ⟨hF.weak ⟨rfl, rfl, rfl, rfl, rfl, rfl, rfl, rfl, rfl, rfl, rfl, rfl, rfl, rfl, rfl, (by rw [hbv_40]; rfl), trivial⟩, hS.weak (AL rfl)⟩
     ·skip
      rintro a w ⟨hF, hS⟩
      refine stepV (i := 11) rfl hF (fun w hS => Y.move hF rfl) rfl fun a hF => ?_
      replace h := bind_some h
      obtain ⟨t_6, ht_6, h⟩ := h
      refine cutV (u := remontoirlaw02_BeatKnown_tr3_16) (fun a w => Frm 455 [] [(0, .bool sv), (23, iv rv_57.2), (25, iv rv_59.2), (27, iv rv_61.2), (30, iv rv_63.2.2), (34, .pointer (some ⟨b_27, 0, none⟩)), (35, .pointer (some ⟨b_28, 0, none⟩)), (36, .slice p_110 rv_61.1.length c_110), (37, iv rv_63.1), (38, iv rv_63.2.1), (39, .bool rv_65.1), (40, iv rv_65.2), (41, .bool is), (42, iv hv), (395, .bool t_6)] a ∧ St w0 D0 Dv_133 [(36, .cells b_20 [iv rv_22.1.Low, iv rv_22.1.High] 34), (40, .cells b_21 [iv rv_24.1.Low, iv rv_24.1.High] 34), (44, .cells b_22 [iv rv_26.1.Low, iv rv_26.1.High] 34), (48, .cells b_23 [iv rv_28.1.Low, iv rv_28.1.High] 34), (78, .cells b_24 [iv 1, .slice p_95 ([(Span.mk 0 0)]).length c_95, .slice p_96 (([(BeatOpen.mk 0 0 rv_49), (BeatOpen.mk 0 0 rv_50), (BeatOpen.mk 0 0 rv_51)]).take (Int.toNat 2)).length c_96, .slice none 0 0] 26), (79, .cells b_25 [iv rv_53.1.Low, iv rv_53.1.High] 34), (83, .cells b_26 [iv rv_55.1.Low, iv rv_55.1.High] 34), (87, .cells b_27 [iv rv_57.1.Low, iv rv_57.1.High] 34), (91, .cells b_28 [iv rv_59.1.Low, iv rv_59.1.High] 34)] w) ?_ ?_
      ·intro hcut
       rcases bcases (t_5 && (rv_55.2 == 0)) with hbv_41 | hbv_41
       ·-- true
        replace h := cond_t ht_6 hbv_41
        refine stepV_on (i := 12) rfl hF rfl rfl hbv_41 (fun w hS => Y.loadNL 83 sz_34 hF rfl hS rfl rfl rfl) rfl fun a hF => ?_
        refine oneV (i := 13) rfl ?_ trivial
        refine guard_on hF rfl rfl hbv_41 ?_
        replace h := bind_some h
        obtain ⟨rv_72, hx_81, h⟩ := h
        refine O.callP (us := [iv (-5), iv 136]) ca_37 hF hS (r0To_ok hS.stab (-5) 136 rv_72 hx_81) rfl rfl fun a w hF hS => ?_
        refine nT ⟨hS.weak (AL rfl), ?_⟩
        refine stepV_on (i := 14) rfl hF rfl rfl hbv_41 (fun w hS => Y.eqst (fun w => eqT_34.equal (by decide) (l := [rv_55.1.Low, rv_55.1.High]) (m := [rv_72.Low, rv_72.High]) rfl rfl) (fun w => run_eqGuard_agg _ _ _ _ _ _ _ eg_34) hF rfl rfl) rfl fun a hF => ?_
        refine stepV (i := 15) rfl hF (fun w hS => Y.pick_t hF rfl hbv_41 rfl) rfl fun a hF => ?_
        obtain rfl := some_inj h
        exact hcut _ _ ⟨hF.weak (AF rfl), hS.weak (AL rfl)⟩
       ·-- false
        replace h := cond_f ht_6 hbv_41
        refine stepV_off (i := 12) rfl hF rfl rfl hbv_41 rfl fun a hF => ?_
        refine oneV (i := 13) rfl (guard_off hF rfl rfl hbv_41 rfl fun a hF => nT ⟨hS.weak (AL rfl), ?_⟩) trivial
        refine stepV_off (i := 14) rfl hF rfl rfl hbv_41 rfl fun a hF => ?_
        refine stepV (i := 15) rfl hF (fun w hS => Y.pick_f hF rfl hbv_41 rfl) rfl fun a hF => ?_
        obtain rfl := some_inj h
        exact hcut _ _ ⟨hF.weak (AF rfl), hS.weak (AL rfl)⟩
      ·skip
       rintro a w ⟨hF, hS⟩
       refine stepV (i := 16) rfl hF (fun w hS => Y.move hF rfl) rfl fun a hF => ?_
       refine cutV (u := remontoirlaw02_BeatKnown_tr3_20) (fun a w => Frm 455 [] [(0, .bool sv), (25, iv rv_59.2), (27, iv rv_61.2), (30, iv rv_63.2.2), (34, .pointer (some ⟨b_27, 0, none⟩)), (35, .pointer (some ⟨b_28, 0, none⟩)), (36, .slice p_110 rv_61.1.length c_110), (37, iv rv_63.1), (38, iv rv_63.2.1), (39, .bool rv_65.1), (40, iv rv_65.2), (41, .bool is), (42, iv hv), (399, .bool (t_6 && (rv_57.2 == 0)))] a ∧ St w0 D0 Dv_133 [(36, .cells b_20 [iv rv_22.1.Low, iv rv_22.1.High] 34), (40, .cells b_21 [iv rv_24.1.Low, iv rv_24.1.High] 34), (44, .cells b_22 [iv rv_26.1.Low, iv rv_26.1.High] 34), (48, .cells b_23 [iv rv_28.1.Low, iv rv_28.1.High] 34), (78, .cells b_24 [iv 1, .slice p_95 ([(Span.mk 0 0)]).length c_95, .slice p_96 (([(BeatOpen.mk 0 0 rv_49), (BeatOpen.mk 0 0 rv_50), (BeatOpen.mk 0 0 rv_51)]).take (Int.toNat 2)).length c_96, .slice none 0 0] 26), (79, .cells b_25 [iv rv_53.1.Low, iv rv_53.1.High] 34), (83, .cells b_26 [iv rv_55.1.Low, iv rv_55.1.High] 34), (87, .cells b_27 [iv rv_57.1.Low, iv rv_57.1.High] 34), (91, .cells b_28 [iv rv_59.1.Low, iv rv_59.1.High] 34)] w) ?_ ?_
       ·intro hcut
        rcases bcases t_6 with hbv_42 | hbv_42
        ·-- true
         refine stepV_on (i := 17) rfl hF rfl rfl hbv_42 (fun w hS => Y.move hF rfl) rfl fun a hF => ?_
         refine stepV_on (i := 18) rfl hF rfl rfl hbv_42 (fun w hS => Y.eql hF rfl rfl) rfl fun a hF => ?_
         refine stepV (i := 19) rfl hF (fun w hS => Y.pick_t hF rfl hbv_42 rfl) rfl fun a hF => ?_
         exact hcut _ _ ⟨hF.weak ⟨rfl, rfl, rfl, rfl, rfl, rfl, rfl, rfl, rfl, rfl, rfl, rfl, rfl, (by rw [hbv_42]; rfl), trivial⟩, hS.weak (AL rfl)⟩
        ·-- false
         refine stepV_off (i := 17) rfl hF rfl rfl hbv_42 rfl fun a hF => ?_
         refine stepV_off (i := 18) rfl hF rfl rfl hbv_42 rfl fun a hF => ?_
         refine stepV (i := 19) rfl hF (fun w hS => Y.pick_f hF rfl hbv_42 rfl) rfl fun a hF => ?_
         exact hcut _ _ ⟨hF.weak ⟨rfl, rfl, rfl, rfl, rfl, rfl, rfl, rfl, rfl, rfl, rfl, rfl, rfl, (by rw [hbv_42]; rfl), trivial⟩, hS.weak (AL rfl)⟩
       ·skip
        rintro a w ⟨hF, hS⟩
        refine stepV (i := 20) rfl hF (fun w hS => Y.move hF rfl) rfl fun a hF => ?_
        replace h := bind_some h
        obtain ⟨t_7, ht_7, h⟩ := h
        refine cutV (u := remontoirlaw02_BeatKnown_tr3_25) (fun a w => Frm 455 [] [(0, .bool sv), (25, iv rv_59.2), (27, iv rv_61.2), (30, iv rv_63.2.2), (35, .pointer (some ⟨b_28, 0, none⟩)), (36, .slice p_110 rv_61.1.length c_110), (37, iv rv_63.1), (38, iv rv_63.2.1), (39, .bool rv_65.1), (40, iv rv_65.2), (41, .bool is), (42, iv hv), (404, .bool t_7)] a ∧ St w0 D0 Dv_133 [(36, .cells b_20 [iv rv_22.1.Low, iv rv_22.1.High] 34), (40, .cells b_21 [iv rv_24.1.Low, iv rv_24.1.High] 34), (44, .cells b_22 [iv rv_26.1.Low, iv rv_26.1.High] 34), (48, .cells b_23 [iv rv_28.1.Low, iv rv_28.1.High] 34), (78, .cells b_24 [iv 1, .slice p_95 ([(Span.mk 0 0)]).length c_95, .slice p_96 (([(BeatOpen.mk 0 0 rv_49), (BeatOpen.mk 0 0 rv_50), (BeatOpen.mk 0 0 rv_51)]).take (Int.toNat 2)).length c_96, .slice none 0 0] 26), (79, .cells b_25 [iv rv_53.1.Low, iv rv_53.1.High] 34), (83, .cells b_26 [iv rv_55.1.Low, iv rv_55.1.High] 34), (87, .cells b_27 [iv rv_57.1.Low, iv rv_57.1.High] 34), (91, .cells b_28 [iv rv_59.1.Low, iv rv_59.1.High] 34)] w) ?_ ?_
        ·intro hcut
         rcases bcases (t_6 && (rv_57.2 == 0)) with hbv_43 | hbv_43
         ·-- true
          replace h := cond_t ht_7 hbv_43
          refine stepV_on (i := 21) rfl hF rfl rfl hbv_43 (fun w hS => Y.loadNL 87 sz_34 hF rfl hS rfl rfl rfl) rfl fun a hF => ?_
          refine oneV (i := 22) rfl ?_ trivial
          refine guard_on hF rfl rfl hbv_43 ?_
          replace h := bind_some h
          obtain ⟨rv_73, hx_82, h⟩ := h
          refine O.callP (us := [iv 0, iv 0]) ca_37 hF hS (r0To_ok hS.stab 0 0 rv_73 hx_82) rfl rfl fun a w hF hS => ?_
          refine nT ⟨hS.weak (AL rfl), ?_⟩
          refine stepV_on (i := 23) rfl hF rfl rfl hbv_43 (fun w hS => Y.eqst (fun w => eqT_34.equal (by decide) (l := [rv_57.1.Low, rv_57.1.High]) (m := [rv_73.Low, rv_73.High]) rfl rfl) (fun w => run_eqGuard_agg _ _ _ _ _ _ _ eg_34) hF rfl rfl) rfl fun a hF => ?_
          refine stepV (i := 24) rfl hF (fun w hS => Y.pick_t hF rfl hbv_43 rfl) rfl fun a hF => ?_
          obtain rfl := some_inj h
          exact hcut _ _ ⟨hF.weak (AF rfl), hS.weak (AL rfl)⟩
         ·-- false
          replace h := cond_f ht_7 hbv_43
          refine stepV_off (i := 21) rfl hF rfl rfl hbv_43 rfl fun a hF => ?_
          refine oneV (i := 22) rfl (guard_off hF rfl rfl hbv_43 rfl fun a hF => nT ⟨hS.weak (AL rfl), ?_⟩) trivial
          refine stepV_off (i := 23) rfl hF rfl rfl hbv_43 rfl fun a hF => ?_
          refine stepV (i := 24) rfl hF (fun w hS => Y.pick_f hF rfl hbv_43 rfl) rfl fun a hF => ?_
          obtain rfl := some_inj h
          exact hcut _ _ ⟨hF.weak (AF rfl), hS.weak (AL rfl)⟩
        ·skip
         rintro a w ⟨hF, hS⟩
         refine stepV (i := 25) rfl hF (fun w hS => Y.move hF rfl) rfl fun a hF => ?_
         refine cutV (u := remontoirlaw02_BeatKnown_tr3_29) (fun a w => Frm 455 [] [(0, .bool sv), (27, iv rv_61.2), (30, iv rv_63.2.2), (35, .pointer (some ⟨b_28, 0, none⟩)), (36, .slice p_110 rv_61.1.length c_110), (37, iv rv_63.1), (38, iv rv_63.2.1), (39, .bool rv_65.1), (40, iv rv_65.2), (41, .bool is), (42, iv hv), (408, .bool (t_7 && (rv_59.2 == 0)))] a ∧ St w0 D0 Dv_133 [(36, .cells b_20 [iv rv_22.1.Low, iv rv_22.1.High] 34), (40, .cells b_21 [iv rv_24.1.Low, iv rv_24.1.High] 34), (44, .cells b_22 [iv rv_26.1.Low, iv rv_26.1.High] 34), (48, .cells b_23 [iv rv_28.1.Low, iv rv_28.1.High] 34), (78, .cells b_24 [iv 1, .slice p_95 ([(Span.mk 0 0)]).length c_95, .slice p_96 (([(BeatOpen.mk 0 0 rv_49), (BeatOpen.mk 0 0 rv_50), (BeatOpen.mk 0 0 rv_51)]).take (Int.toNat 2)).length c_96, .slice none 0 0] 26), (79, .cells b_25 [iv rv_53.1.Low, iv rv_53.1.High] 34), (83, .cells b_26 [iv rv_55.1.Low, iv rv_55.1.High] 34), (87, .cells b_27 [iv rv_57.1.Low, iv rv_57.1.High] 34), (91, .cells b_28 [iv rv_59.1.Low, iv rv_59.1.High] 34)] w) ?_ ?_
         ·intro hcut
          rcases bcases t_7 with hbv_44 | hbv_44
          ·-- true
           refine stepV_on (i := 26) rfl hF rfl rfl hbv_44 (fun w hS => Y.move hF rfl) rfl fun a hF => ?_
           refine stepV_on (i := 27) rfl hF rfl rfl hbv_44 (fun w hS => Y.eql hF rfl rfl) rfl fun a hF => ?_
           refine stepV (i := 28) rfl hF (fun w hS => Y.pick_t hF rfl hbv_44 rfl) rfl fun a hF => ?_
           exact hcut _ _ ⟨hF.weak ⟨rfl, rfl, rfl, rfl, rfl, rfl, rfl, rfl, rfl, rfl, rfl, (by rw [hbv_44]; rfl), trivial⟩, hS.weak (AL rfl)⟩
          ·-- false
           refine stepV_off (i := 26) rfl hF rfl rfl hbv_44 rfl fun a hF => ?_
           refine stepV_off (i := 27) rfl hF rfl rfl hbv_44 rfl fun a hF => ?_
           refine stepV (i := 28) rfl hF (fun w hS => Y.pick_f hF rfl hbv_44 rfl) rfl fun a hF => ?_
           exact hcut _ _ ⟨hF.weak ⟨rfl, rfl, rfl, rfl, rfl, rfl, rfl, rfl, rfl, rfl, rfl, (by rw [hbv_44]; rfl), trivial⟩, hS.weak (AL rfl)⟩
         ·skip
          rintro a w ⟨hF, hS⟩
          refine stepV (i := 29) rfl hF (fun w hS => Y.move hF rfl) rfl fun a hF => ?_
          replace h := bind_some h
          obtain ⟨t_8, ht_8, h⟩ := h
          refine cutV (u := remontoirlaw02_BeatKnown_tr3_34) (fun a w => Frm 455 [] [(0, .bool sv), (27, iv rv_61.2), (30, iv rv_63.2.2), (36, .slice p_110 rv_61.1.length c_110), (37, iv rv_63.1), (38, iv rv_63.2.1), (39, .bool rv_65.1), (40, iv rv_65.2), (41, .bool is), (42, iv hv), (413, .bool t_8)] a ∧ St w0 D0 Dv_133 [(36, .cells b_20 [iv rv_22.1.Low, iv rv_22.1.High] 34), (40, .cells b_21 [iv rv_24.1.Low, iv rv_24.1.High] 34), (44, .cells b_22 [iv rv_26.1.Low, iv rv_26.1.High] 34), (48, .cells b_23 [iv rv_28.1.Low, iv rv_28.1.High] 34), (78, .cells b_24 [iv 1, .slice p_95 ([(Span.mk 0 0)]).length c_95, .slice p_96 (([(BeatOpen.mk 0 0 rv_49), (BeatOpen.mk 0 0 rv_50), (BeatOpen.mk 0 0 rv_51)]).take (Int.toNat 2)).length c_96, .slice none 0 0] 26), (79, .cells b_25 [iv rv_53.1.Low, iv rv_53.1.High] 34), (83, .cells b_26 [iv rv_55.1.Low, iv rv_55.1.High] 34), (87, .cells b_27 [iv rv_57.1.Low, iv rv_57.1.High] 34), (91, .cells b_28 [iv rv_59.1.Low, iv rv_59.1.High] 34)] w) ?_ ?_
          ·intro hcut
           rcases bcases (t_7 && (rv_59.2 == 0)) with hbv_45 | hbv_45
           ·-- true
            replace h := cond_t ht_8 hbv_45
            refine stepV_on (i := 30) rfl hF rfl rfl hbv_45 (fun w hS => Y.loadNL 91 sz_34 hF rfl hS rfl rfl rfl) rfl fun a hF => ?_
            refine oneV (i := 31) rfl ?_ trivial
            refine guard_on hF rfl rfl hbv_45 ?_
            replace h := bind_some h
            obtain ⟨rv_74, hx_83, h⟩ := h
            refine O.callP (us := [iv (-3), iv 0]) ca_37 hF hS (r0To_ok hS.stab (-3) 0 rv_74 hx_83) rfl rfl fun a w hF hS => ?_
            refine nT ⟨hS.weak (AL rfl), ?_⟩
            refine stepV_on (i := 32) rfl hF rfl rfl hbv_45 (fun w hS => Y.eqst (fun w => eqT_34.equal (by decide) (l := [rv_59.1.Low, rv_59.1.High]) (m := [rv_74.Low, rv_74.High]) rfl rfl) (fun w => run_eqGuard_agg _ _ _ _ _ _ _ eg_34) hF rfl rfl) rfl fun a hF => ?_
            refine stepV (i := 33) rfl hF (fun w hS => Y.pick_t hF rfl hbv_45 rfl) rfl fun a hF => ?_
            obtain rfl := some_inj h
            exact hcut _ _ ⟨hF.weak (AF rfl), hS.weak (AL rfl)⟩
           ·-- false
            replace h := cond_f ht_8 hbv_45
            refine stepV_off (i := 30) rfl hF rfl rfl hbv_45 rfl fun a hF => ?_
            refine oneV (i := 31) rfl (guard_off hF rfl rfl hbv_45 rfl fun a hF => nT ⟨hS.weak (AL rfl), ?_⟩) trivial
            refine stepV_off (i := 32) rfl hF rfl rfl hbv_45 rfl fun a hF => ?_
            refine stepV (i := 33) rfl hF (fun w hS => Y.pick_f hF rfl hbv_45 rfl) rfl fun a hF => ?_
            obtain rfl := some_inj h
            exact hcut _ _ ⟨hF.weak (AF rfl), hS.weak (AL rfl)⟩
          ·skip
           rintro a w ⟨hF, hS⟩
           refine stepV (i := 34) rfl hF (fun w hS => Y.move hF rfl) rfl fun a hF => ?_
           refine cutV (u := remontoirlaw02_BeatKnown_tr3_38) (fun a w => Frm 455 [] [(0, .bool sv), (30, iv rv_63.2.2), (36, .slice p_110 rv_61.1.length c_110), (37, iv rv_63.1), (38, iv rv_63.2.1), (39, .bool rv_65.1), (40, iv rv_65.2), (41, .bool is), (42, iv hv), (417, .bool (t_8 && (rv_61.2 == 0)))] a ∧ St w0 D0 Dv_133 [(36, .cells b_20 [iv rv_22.1.Low, iv rv_22.1.High] 34), (40, .cells b_21 [iv rv_24.1.Low, iv rv_24.1.High] 34), (44, .cells b_22 [iv rv_26.1.Low, iv rv_26.1.High] 34), (48, .cells b_23 [iv rv_28.1.Low, iv rv_28.1.High] 34), (78, .cells b_24 [iv 1, .slice p_95 ([(Span.mk 0 0)]).length c_95, .slice p_96 (([(BeatOpen.mk 0 0 rv_49), (BeatOpen.mk 0 0 rv_50), (BeatOpen.mk 0 0 rv_51)]).take (Int.toNat 2)).length c_96, .slice none 0 0] 26), (79, .cells b_25 [iv rv_53.1.Low, iv rv_53.1.High] 34), (83, .cells b_26 [iv rv_55.1.Low, iv rv_55.1.High] 34), (87, .cells b_27 [iv rv_57.1.Low, iv rv_57.1.High] 34), (91, .cells b_28 [iv rv_59.1.Low, iv rv_59.1.High] 34)] w) ?_ ?_
           ·intro hcut
            rcases bcases t_8 with hbv_46 | hbv_46
            ·-- true
             refine stepV_on (i := 35) rfl hF rfl rfl hbv_46 (fun w hS => Y.move hF rfl) rfl fun a hF => ?_
             refine stepV_on (i := 36) rfl hF rfl rfl hbv_46 (fun w hS => Y.eql hF rfl rfl) rfl fun a hF => ?_
             refine stepV (i := 37) rfl hF (fun w hS => Y.pick_t hF rfl hbv_46 rfl) rfl fun a hF => ?_
             exact hcut _ _ ⟨hF.weak ⟨rfl, rfl, rfl, rfl, rfl, rfl, rfl, rfl, rfl, (by rw [hbv_46]; rfl), trivial⟩, hS.weak (AL rfl)⟩
            ·-- false
             refine stepV_off (i := 35) rfl hF rfl rfl hbv_46 rfl fun a hF => ?_
             refine stepV_off (i := 36) rfl hF rfl rfl hbv_46 rfl fun a hF => ?_
             refine stepV (i := 37) rfl hF (fun w hS => Y.pick_f hF rfl hbv_46 rfl) rfl fun a hF => ?_
             exact hcut _ _ ⟨hF.weak ⟨rfl, rfl, rfl, rfl, rfl, rfl, rfl, rfl, rfl, (by rw [hbv_46]; rfl), trivial⟩, hS.weak (AL rfl)⟩
           ·skip
            rintro a w ⟨hF, hS⟩
            refine stepV (i := 38) rfl hF (fun w hS => Y.move hF rfl) rfl fun a hF => ?_
            refine cutV (u := remontoirlaw02_BeatKnown_tr3_43) (fun a w => Frm 455 [] [(0, .bool sv), (30, iv rv_63.2.2), (37, iv rv_63.1), (38, iv rv_63.2.1), (39, .bool rv_65.1), (40, iv rv_65.2), (41, .bool is), (42, iv hv), (422, .bool ((t_8 && (rv_61.2 == 0)) && ((rv_61.1.length : Int) == 0)))] a ∧ St w0 D0 Dv_133 [(36, .cells b_20 [iv rv_22.1.Low, iv rv_22.1.High] 34), (40, .cells b_21 [iv rv_24.1.Low, iv rv_24.1.High] 34), (44, .cells b_22 [iv rv_26.1.Low, iv rv_26.1.High] 34), (48, .cells b_23 [iv rv_28.1.Low, iv rv_28.1.High] 34), (78, .cells b_24 [iv 1, .slice p_95 ([(Span.mk 0 0)]).length c_95, .slice p_96 (([(BeatOpen.mk 0 0 rv_49), (BeatOpen.mk 0 0 rv_50), (BeatOpen.mk 0 0 rv_51)]).take (Int.toNat 2)).length c_96, .slice none 0 0] 26), (79, .cells b_25 [iv rv_53.1.Low, iv rv_53.1.High] 34), (83, .cells b_26 [iv rv_55.1.Low, iv rv_55.1.High] 34), (87, .cells b_27 [iv rv_57.1.Low, iv rv_57.1.High] 34), (91, .cells b_28 [iv rv_59.1.Low, iv rv_59.1.High] 34)] w) ?_ ?_
            ·intro hcut
             rcases bcases (t_8 && (rv_61.2 == 0)) with hbv_47 | hbv_47
             ·-- true
              refine stepV_on (i := 39) rfl hF rfl rfl hbv_47 (fun w hS => Y.move hF rfl) rfl fun a hF => ?_
              refine stepV_on (i := 40) rfl hF rfl rfl hbv_47 (fun w hS => Y.lenSl u_44 hF rfl) rfl fun a hF => ?_
              refine stepV_on (i := 41) rfl hF rfl rfl hbv_47 (fun w hS => Y.eql hF rfl rfl) rfl fun a hF => ?_
              refine stepV (i := 42) rfl hF (fun w hS => Y.pick_t hF rfl hbv_47 rfl) rfl fun a hF => ?_
              exact hcut _ _ ⟨hF.weak ⟨rfl, rfl, rfl, rfl, rfl, rfl, rfl, rfl, (by rw [hbv_47]; rfl), trivial⟩, hS.weak (AL rfl)⟩
             ·-- false
              refine stepV_off (i := 39) rfl hF rfl rfl hbv_47 rfl fun a hF => ?_
              refine stepV_off (i := 40) rfl hF rfl rfl hbv_47 rfl fun a hF => ?_
              refine stepV_off (i := 41) rfl hF rfl rfl hbv_47 rfl fun a hF => ?_
              refine stepV (i := 42) rfl hF (fun w hS => Y.pick_f hF rfl hbv_47 rfl) rfl fun a hF => ?_
              exact hcut _ _ ⟨hF.weak ⟨rfl, rfl, rfl, rfl, rfl, rfl, rfl, rfl, (by rw [hbv_47]; rfl), trivial⟩, hS.weak (AL rfl)⟩
            ·skip
             rintro a w ⟨hF, hS⟩
             refine stepV (i := 43) rfl hF (fun w hS => Y.move hF rfl) rfl fun a hF => ?_
             refine cutV (u := remontoirlaw02_BeatKnown_tr3_47) (fun a w => Frm 455 [] [(0, .bool sv), (37, iv rv_63.1), (38, iv rv_63.2.1), (39, .bool rv_65.1), (40, iv rv_65.2), (41, .bool is), (42, iv hv), (426, .bool (((t_8 && (rv_61.2 == 0)) && ((rv_61.1.length : Int) == 0)) && (rv_63.2.2 == 0)))] a ∧ St w0 D0 Dv_133 [(36, .cells b_20 [iv rv_22.1.Low, iv rv_22.1.High] 34), (40, .cells b_21 [iv rv_24.1.Low, iv rv_24.1.High] 34), (44, .cells b_22 [iv rv_26.1.Low, iv rv_26.1.High] 34), (48, .cells b_23 [iv rv_28.1.Low, iv rv_28.1.High] 34), (78, .cells b_24 [iv 1, .slice p_95 ([(Span.mk 0 0)]).length c_95, .slice p_96 (([(BeatOpen.mk 0 0 rv_49), (BeatOpen.mk 0 0 rv_50), (BeatOpen.mk 0 0 rv_51)]).take (Int.toNat 2)).length c_96, .slice none 0 0] 26), (79, .cells b_25 [iv rv_53.1.Low, iv rv_53.1.High] 34), (83, .cells b_26 [iv rv_55.1.Low, iv rv_55.1.High] 34), (87, .cells b_27 [iv rv_57.1.Low, iv rv_57.1.High] 34), (91, .cells b_28 [iv rv_59.1.Low, iv rv_59.1.High] 34)] w) ?_ ?_
             ·intro hcut
              rcases bcases ((t_8 && (rv_61.2 == 0)) && ((rv_61.1.length : Int) == 0)) with hbv_48 | hbv_48
              ·-- true
               refine stepV_on (i := 44) rfl hF rfl rfl hbv_48 (fun w hS => Y.move hF rfl) rfl fun a hF => ?_
               refine stepV_on (i := 45) rfl hF rfl rfl hbv_48 (fun w hS => Y.eql hF rfl rfl) rfl fun a hF => ?_
               refine stepV (i := 46) rfl hF (fun w hS => Y.pick_t hF rfl hbv_48 rfl) rfl fun a hF => ?_
               exact hcut _ _ ⟨hF.weak ⟨rfl, rfl, rfl, rfl, rfl, rfl, rfl, (by rw [hbv_48]; rfl), trivial⟩, hS.weak (AL rfl)⟩
              ·-- false
               refine stepV_off (i := 44) rfl hF rfl rfl hbv_48 rfl fun a hF => ?_
               refine stepV_off (i := 45) rfl hF rfl rfl hbv_48 rfl fun a hF => ?_
               refine stepV (i := 46) rfl hF (fun w hS => Y.pick_f hF rfl hbv_48 rfl) rfl fun a hF => ?_
               exact hcut _ _ ⟨hF.weak ⟨rfl, rfl, rfl, rfl, rfl, rfl, rfl, (by rw [hbv_48]; rfl), trivial⟩, hS.weak (AL rfl)⟩
             ·skip
              rintro a w ⟨hF, hS⟩
              refine stepV (i := 47) rfl hF (fun w hS => Y.move hF rfl) rfl fun a hF => ?_
              refine cutV (u := remontoirlaw02_BeatKnown_tr3_51) (fun a w => Frm 455 [] [(0, .bool sv), (38, iv rv_63.2.1), (39, .bool rv_65.1), (40, iv rv_65.2), (41, .bool is), (42, iv hv), (430, .bool ((((t_8 && (rv_61.2 == 0)) && ((rv_61.1.length : Int) == 0)) && (rv_63.2.2 == 0)) && (rv_63.1 == 0)))] a ∧ St w0 D0 Dv_133 [(36, .cells b_20 [iv rv_22.1.Low, iv rv_22.1.High] 34), (40, .cells b_21 [iv rv_24.1.Low, iv rv_24.1.High] 34), (44, .cells b_22 [iv rv_26.1.Low, iv rv_26.1.High] 34), (48, .cells b_23 [iv rv_28.1.Low, iv rv_28.1.High] 34), (78, .cells b_24 [iv 1, .slice p_95 ([(Span.mk 0 0)]).length c_95, .slice p_96 (([(BeatOpen.mk 0 0 rv_49), (BeatOpen.mk 0 0 rv_50), (BeatOpen.mk 0 0 rv_51)]).take (Int.toNat 2)).length c_96, .slice none 0 0] 26), (79, .cells b_25 [iv rv_53.1.Low, iv rv_53.1.High] 34), (83, .cells b_26 [iv rv_55.1.Low, iv rv_55.1.High] 34), (87, .cells b_27 [iv rv_57.1.Low, iv rv_57.1.High] 34), (91, .cells b_28 [iv rv_59.1.Low, iv rv_59.1.High] 34)] w) ?_ ?_
              ·intro hcut
               rcases bcases (((t_8 && (rv_61.2 == 0)) && ((rv_61.1.length : Int) == 0)) && (rv_63.2.2 == 0)) with hbv_49 | hbv_49
               ·-- true
                refine stepV_on (i := 48) rfl hF rfl rfl hbv_49 (fun w hS => Y.move hF rfl) rfl fun a hF => ?_
                refine stepV_on (i := 49) rfl hF rfl rfl hbv_49 (fun w hS => Y.eql hF rfl rfl) rfl fun a hF => ?_
                refine stepV (i := 50) rfl hF (fun w hS => Y.pick_t hF rfl hbv_49 rfl) rfl fun a hF => ?_
                exact hcut _ _ ⟨hF.weak ⟨rfl, rfl, rfl, rfl, rfl, rfl, (by rw [hbv_49]; rfl), trivial⟩, hS.weak (AL rfl)⟩
               ·-- false
                refine stepV_off (i := 48) rfl hF rfl rfl hbv_49 rfl fun a hF => ?_
                refine stepV_off (i := 49) rfl hF rfl rfl hbv_49 rfl fun a hF => ?_
                refine stepV (i := 50) rfl hF (fun w hS => Y.pick_f hF rfl hbv_49 rfl) rfl fun a hF => ?_
                exact hcut _ _ ⟨hF.weak ⟨rfl, rfl, rfl, rfl, rfl, rfl, (by rw [hbv_49]; rfl), trivial⟩, hS.weak (AL rfl)⟩
              ·skip
               rintro a w ⟨hF, hS⟩
               refine stepV (i := 51) rfl hF (fun w hS => Y.move hF rfl) rfl fun a hF => ?_
               refine cutV (u := remontoirlaw02_BeatKnown_tr3_55) (fun a w => Frm 455 [] [(0, .bool sv), (39, .bool rv_65.1), (40, iv rv_65.2), (41, .bool is), (42, iv hv), (434, .bool (((((t_8 && (rv_61.2 == 0)) && ((rv_61.1.length : Int) == 0)) && (rv_63.2.2 == 0)) && (rv_63.1 == 0)) && (rv_63.2.1 == 4)))] a ∧ St w0 D0 Dv_133 [(36, .cells b_20 [iv rv_22.1.Low, iv rv_22.1.High] 34), (40, .cells b_21 [iv rv_24.1.Low, iv rv_24.1.High] 34), (44, .cells b_22 [iv rv_26.1.Low, iv rv_26.1.High] 34), (48, .cells b_23 [iv rv_28.1.Low, iv rv_28.1.High] 34), (78, .cells b_24 [iv 1, .slice p_95 ([(Span.mk 0 0)]).length c_95, .slice p_96 (([(BeatOpen.mk 0 0 rv_49), (BeatOpen.mk 0 0 rv_50), (BeatOpen.mk 0 0 rv_51)]).take (Int.toNat 2)).length c_96, .slice none 0 0] 26), (79, .cells b_25 [iv rv_53.1.Low, iv rv_53.1.High] 34), (83, .cells b_26 [iv rv_55.1.Low, iv rv_55.1.High] 34), (87, .cells b_27 [iv rv_57.1.Low, iv rv_57.1.High] 34), (91, .cells b_28 [iv rv_59.1.Low, iv rv_59.1.High] 34)] w) ?_ ?_
               ·intro hcut
                rcases bcases ((((t_8 && (rv_61.2 == 0)) && ((rv_61.1.length : Int) == 0)) && (rv_63.2.2 == 0)) && (rv_63.1 == 0)) with hbv_50 | hbv_50
                ·-- true
                 refine stepV_on (i := 52) rfl hF rfl rfl hbv_50 (fun w hS => Y.move hF rfl) rfl fun a hF => ?_
                 refine stepV_on (i := 53) rfl hF rfl rfl hbv_50 (fun w hS => Y.eql hF rfl rfl) rfl fun a hF => ?_
                 refine stepV (i := 54) rfl hF (fun w hS => Y.pick_t hF rfl hbv_50 rfl) rfl fun a hF => ?_
                 exact hcut _ _ ⟨hF.weak ⟨rfl, rfl, rfl, rfl, rfl, (by rw [hbv_50]; rfl), trivial⟩, hS.weak (AL rfl)⟩
                ·-- false
                 refine stepV_off (i := 52) rfl hF rfl rfl hbv_50 rfl fun a hF => ?_
                 refine stepV_off (i := 53) rfl hF rfl rfl hbv_50 rfl fun a hF => ?_
                 refine stepV (i := 54) rfl hF (fun w hS => Y.pick_f hF rfl hbv_50 rfl) rfl fun a hF => ?_
                 exact hcut _ _ ⟨hF.weak ⟨rfl, rfl, rfl, rfl, rfl, (by rw [hbv_50]; rfl), trivial⟩, hS.weak (AL rfl)⟩
               ·skip
                rintro a w ⟨hF, hS⟩
                refine stepV (i := 55) rfl hF (fun w hS => Y.move hF rfl) rfl fun a hF => ?_
                refine cutV (u := remontoirlaw02_BeatKnown_tr3_59) (fun a w => Frm 455 [] [(0, .bool sv), (39, .bool rv_65.1), (41, .bool is), (42, iv hv), (438, .bool ((((((t_8 && (rv_61.2 == 0)) && ((rv_61.1.length : Int) == 0)) && (rv_63.2.2 == 0)) && (rv_63.1 == 0)) && (rv_63.2.1 == 4)) && (rv_65.2 == 0)))] a ∧ St w0 D0 Dv_133 [(36, .cells b_20 [iv rv_22.1.Low, iv rv_22.1.High] 34), (40, .cells b_21 [iv rv_24.1.Low, iv rv_24.1.High] 34), (44, .cells b_22 [iv rv_26.1.Low, iv rv_26.1.High] 34), (48, .cells b_23 [iv rv_28.1.Low, iv rv_28.1.High] 34), (78, .cells b_24 [iv 1, .slice p_95 ([(Span.mk 0 0)]).length c_95, .slice p_96 (([(BeatOpen.mk 0 0 rv_49), (BeatOpen.mk 0 0 rv_50), (BeatOpen.mk 0 0 rv_51)]).take (Int.toNat 2)).length c_96, .slice none 0 0] 26), (79, .cells b_25 [iv rv_53.1.Low, iv rv_53.1.High] 34), (83, .cells b_26 [iv rv_55.1.Low, iv rv_55.1.High] 34), (87, .cells b_27 [iv rv_57.1.Low, iv rv_57.1.High] 34), (91, .cells b_28 [iv rv_59.1.Low, iv rv_59.1.High] 34)] w) ?_ ?_
                ·intro hcut
                 rcases bcases (((((t_8 && (rv_61.2 == 0)) && ((rv_61.1.length : Int) == 0)) && (rv_63.2.2 == 0)) && (rv_63.1 == 0)) && (rv_63.2.1 == 4)) with hbv_51 | hbv_51
                 ·-- true
                  refine stepV_on (i := 56) rfl hF rfl rfl hbv_51 (fun w hS => Y.move hF rfl) rfl fun a hF => ?_
                  refine stepV_on (i := 57) rfl hF rfl rfl hbv_51 (fun w hS => Y.eql hF rfl rfl) rfl fun a hF => ?_
                  refine stepV (i := 58) rfl hF (fun w hS => Y.pick_t hF rfl hbv_51 rfl) rfl fun a hF => ?_
                  exact hcut _ _ ⟨hF.weak ⟨rfl, rfl, rfl, rfl, (by rw [hbv_51]; rfl), trivial⟩, hS.weak (AL rfl)⟩
                 ·-- false
                  refine stepV_off (i := 56) rfl hF rfl rfl hbv_51 rfl fun a hF => ?_
                  refine stepV_off (i := 57) rfl hF rfl rfl hbv_51 rfl fun a hF => ?_
                  refine stepV (i := 58) rfl hF (fun w hS => Y.pick_f hF rfl hbv_51 rfl) rfl fun a hF => ?_
                  exact hcut _ _ ⟨hF.weak ⟨rfl, rfl, rfl, rfl, (by rw [hbv_51]; rfl), trivial⟩, hS.weak (AL rfl)⟩
                ·skip
                 rintro a w ⟨hF, hS⟩
                 refine stepV (i := 59) rfl hF (fun w hS => Y.move hF rfl) rfl fun a hF => ?_
                 refine cutV (u := remontoirlaw02_BeatKnown_tr3_63) (fun a w => Frm 455 [] [(0, .bool sv), (41, .bool is), (42, iv hv), (442, .bool (((((((t_8 && (rv_61.2 == 0)) && ((rv_61.1.length : Int) == 0)) && (rv_63.2.2 == 0)) && (rv_63.1 == 0)) && (rv_63.2.1 == 4)) && (rv_65.2 == 0)) && (!rv_65.1)))] a ∧ St w0 D0 Dv_133 [(36, .cells b_20 [iv rv_22.1.Low, iv rv_22.1.High] 34), (40, .cells b_21 [iv rv_24.1.Low, iv rv_24.1.High] 34), (44, .cells b_22 [iv rv_26.1.Low, iv rv_26.1.High] 34), (48, .cells b_23 [iv rv_28.1.Low, iv rv_28.1.High] 34), (78, .cells b_24 [iv 1, .slice p_95 ([(Span.mk 0 0)]).length c_95, .slice p_96 (([(BeatOpen.mk 0 0 rv_49), (BeatOpen.mk 0 0 rv_50), (BeatOpen.mk 0 0 rv_51)]).take (Int.toNat 2)).length c_96, .slice none 0 0] 26), (79, .cells b_25 [iv rv_53.1.Low, iv rv_53.1.High] 34), (83, .cells b_26 [iv rv_55.1.Low, iv rv_55.1.High] 34), (87, .cells b_27 [iv rv_57.1.Low, iv rv_57.1.High] 34), (91, .cells b_28 [iv rv_59.1.Low, iv rv_59.1.High] 34)] w) ?_ ?_
                 ·intro hcut
                  rcases bcases ((((((t_8 && (rv_61.2 == 0)) && ((rv_61.1.length : Int) == 0)) && (rv_63.2.2 == 0)) && (rv_63.1 == 0)) && (rv_63.2.1 == 4)) && (rv_65.2 == 0)) with hbv_52 | hbv_52
                  ·-- true
                   refine stepV_on (i := 60) rfl hF rfl rfl hbv_52 (fun w hS => Y.move hF rfl) rfl fun a hF => ?_
                   refine stepV_on (i := 61) rfl hF rfl rfl hbv_52 (fun w hS => Y.not hF rfl) rfl fun a hF => ?_
                   refine stepV (i := 62) rfl hF (fun w hS => Y.pick_t hF rfl hbv_52 rfl) rfl fun a hF => ?_
                   exact hcut _ _ ⟨hF.weak ⟨rfl, rfl, rfl, (by rw [hbv_52]; rfl), trivial⟩, hS.weak (AL rfl)⟩
                  ·-- false
                   refine stepV_off (i := 60) rfl hF rfl rfl hbv_52 rfl fun a hF => ?_
                   refine stepV_off (i := 61) rfl hF rfl rfl hbv_52 rfl fun a hF => ?_
                   refine stepV (i := 62) rfl hF (fun w hS => Y.pick_f hF rfl hbv_52 rfl) rfl fun a hF => ?_
                   exact hcut _ _ ⟨hF.weak ⟨rfl, rfl, rfl, (by rw [hbv_52]; rfl), trivial⟩, hS.weak (AL rfl)⟩
                 ·skip
                  rintro a w ⟨hF, hS⟩
                  refine stepV (i := 63) rfl hF (fun w hS => Y.move hF rfl) rfl fun a hF => ?_
                  refine cutV (u := remontoirlaw02_BeatKnown_tr3_67) (fun a w => Frm 455 [] [(0, .bool sv), (41, .bool is), (446, .bool ((((((((t_8 && (rv_61.2 == 0)) && ((rv_61.1.length : Int) == 0)) && (rv_63.2.2 == 0)) && (rv_63.1 == 0)) && (rv_63.2.1 == 4)) && (rv_65.2 == 0)) && (!rv_65.1)) && (hv == 0)))] a ∧ St w0 D0 Dv_133 [(36, .cells b_20 [iv rv_22.1.Low, iv rv_22.1.High] 34), (40, .cells b_21 [iv rv_24.1.Low, iv rv_24.1.High] 34), (44, .cells b_22 [iv rv_26.1.Low, iv rv_26.1.High] 34), (48, .cells b_23 [iv rv_28.1.Low, iv rv_28.1.High] 34), (78, .cells b_24 [iv 1, .slice p_95 ([(Span.mk 0 0)]).length c_95, .slice p_96 (([(BeatOpen.mk 0 0 rv_49), (BeatOpen.mk 0 0 rv_50), (BeatOpen.mk 0 0 rv_51)]).take (Int.toNat 2)).length c_96, .slice none 0 0] 26), (79, .cells b_25 [iv rv_53.1.Low, iv rv_53.1.High] 34), (83, .cells b_26 [iv rv_55.1.Low, iv rv_55.1.High] 34), (87, .cells b_27 [iv rv_57.1.Low, iv rv_57.1.High] 34), (91, .cells b_28 [iv rv_59.1.Low, iv rv_59.1.High] 34)] w) ?_ ?_
                  ·intro hcut
                   rcases bcases (((((((t_8 && (rv_61.2 == 0)) && ((rv_61.1.length : Int) == 0)) && (rv_63.2.2 == 0)) && (rv_63.1 == 0)) && (rv_63.2.1 == 4)) && (rv_65.2 == 0)) && (!rv_65.1)) with hbv_53 | hbv_53
                   ·-- true
                    refine stepV_on (i := 64) rfl hF rfl rfl hbv_53 (fun w hS => Y.move hF rfl) rfl fun a hF => ?_
                    refine stepV_on (i := 65) rfl hF rfl rfl hbv_53 (fun w hS => Y.eql hF rfl rfl) rfl fun a hF => ?_
                    refine stepV (i := 66) rfl hF (fun w hS => Y.pick_t hF rfl hbv_53 rfl) rfl fun a hF => ?_
                    exact hcut _ _ ⟨hF.weak ⟨rfl, rfl, (by rw [hbv_53]; rfl), trivial⟩, hS.weak (AL rfl)⟩
                   ·-- false
                    refine stepV_off (i := 64) rfl hF rfl rfl hbv_53 rfl fun a hF => ?_
                    refine stepV_off (i := 65) rfl hF rfl rfl hbv_53 rfl fun a hF => ?_
                    refine stepV (i := 66) rfl hF (fun w hS => Y.pick_f hF rfl hbv_53 rfl) rfl fun a hF => ?_
                    exact hcut _ _ ⟨hF.weak ⟨rfl, rfl, (by rw [hbv_53]; rfl), trivial⟩, hS.weak (AL rfl)⟩
                  ·skip
                   rintro a w ⟨hF, hS⟩
                   refine stepV (i := 67) rfl hF (fun w hS => Y.move hF rfl) rfl fun a hF => ?_
                   refine cutV (u := remontoirlaw02_BeatKnown_tr3_70) (fun a w => Frm 455 [] [(0, .bool sv), (449, .bool (((((((((t_8 && (rv_61.2 == 0)) && ((rv_61.1.length : Int) == 0)) && (rv_63.2.2 == 0)) && (rv_63.1 == 0)) && (rv_63.2.1 == 4)) && (rv_65.2 == 0)) && (!rv_65.1)) && (hv == 0)) && is))] a ∧ St w0 D0 Dv_133 [(36, .cells b_20 [iv rv_22.1.Low, iv rv_22.1.High] 34), (40, .cells b_21 [iv rv_24.1.Low, iv rv_24.1.High] 34), (44, .cells b_22 [iv rv_26.1.Low, iv rv_26.1.High] 34), (48, .cells b_23 [iv rv_28.1.Low, iv rv_28.1.High] 34), (78, .cells b_24 [iv 1, .slice p_95 ([(Span.mk 0 0)]).length c_95, .slice p_96 (([(BeatOpen.mk 0 0 rv_49), (BeatOpen.mk 0 0 rv_50), (BeatOpen.mk 0 0 rv_51)]).take (Int.toNat 2)).length c_96, .slice none 0 0] 26), (79, .cells b_25 [iv rv_53.1.Low, iv rv_53.1.High] 34), (83, .cells b_26 [iv rv_55.1.Low, iv rv_55.1.High] 34), (87, .cells b_27 [iv rv_57.1.Low, iv rv_57.1.High] 34), (91, .cells b_28 [iv rv_59.1.Low, iv rv_59.1.High] 34)] w) ?_ ?_
                   ·intro hcut
                    rcases bcases ((((((((t_8 && (rv_61.2 == 0)) && ((rv_61.1.length : Int) == 0)) && (rv_63.2.2 == 0)) && (rv_63.1 == 0)) && (rv_63.2.1 == 4)) && (rv_65.2 == 0)) && (!rv_65.1)) && (hv == 0)) with hbv_54 | hbv_54
                    ·-- true
                     refine stepV_on (i := 68) rfl hF rfl rfl hbv_54 (fun w hS => Y.move hF rfl) rfl fun a hF => ?_
                     refine stepV (i := 69) rfl hF (fun w hS => Y.pick_t hF rfl hbv_54 rfl) rfl fun a hF => ?_
                     exact hcut _ _ ⟨hF.weak ⟨rfl, (by rw [hbv_54]; rfl), trivial⟩, hS.weak (AL rfl)⟩
                    ·-- false
                     refine stepV_off (i := 68) rfl hF rfl rfl hbv_54 rfl fun a hF => ?_
                     refine stepV (i := 69) rfl hF (fun w hS => Y.pick_f hF rfl hbv_54 rfl) rfl fun a hF => ?_
                     exact hcut _ _ ⟨hF.weak ⟨rfl, (by rw [hbv_54]; rfl), trivial⟩, hS.weak (AL rfl)⟩
                   ·skip
                    rintro a w ⟨hF, hS⟩
                    refine stepV (i := 70) rfl hF (fun w hS => Y.move hF rfl) rfl fun a hF => ?_
                    refine stepV (i := 71) rfl hF (fun w hS => Y.pickTF hF rfl) rfl fun a hF => ?_
                    refine stepV (i := 72) rfl hF (fun w hS => Y.move hF rfl) rfl fun a hF => ?_
                    replace h := bind_some h
                    obtain ⟨t_9, ht_9, h⟩ := h
                    refine cutV (u := remontoirlaw02_BeatKnown_tr3_75) (fun a w => Frm 455 [] [(0, .bool sv), (454, .bool t_9)] a ∧ St w0 D0 Dv_133 [(36, .cells b_20 [iv rv_22.1.Low, iv rv_22.1.High] 34), (40, .cells b_21 [iv rv_24.1.Low, iv rv_24.1.High] 34), (44, .cells b_22 [iv rv_26.1.Low, iv rv_26.1.High] 34), (48, .cells b_23 [iv rv_28.1.Low, iv rv_28.1.High] 34), (78, .cells b_24 [iv 1, .slice p_95 ([(Span.mk 0 0)]).length c_95, .slice p_96 (([(BeatOpen.mk 0 0 rv_49), (BeatOpen.mk 0 0 rv_50), (BeatOpen.mk 0 0 rv_51)]).take (Int.toNat 2)).length c_96, .slice none 0 0] 26), (79, .cells b_25 [iv rv_53.1.Low, iv rv_53.1.High] 34), (83, .cells b_26 [iv rv_55.1.Low, iv rv_55.1.High] 34), (87, .cells b_27 [iv rv_57.1.Low, iv rv_57.1.High] 34), (91, .cells b_28 [iv rv_59.1.Low, iv rv_59.1.High] 34)] w) ?_ ?_
                    ·intro hcut
                     rcases bcases (((((((((t_8 && (rv_61.2 == 0)) && ((rv_61.1.length : Int) == 0)) && (rv_63.2.2 == 0)) && (rv_63.1 == 0)) && (rv_63.2.1 == 4)) && (rv_65.2 == 0)) && (!rv_65.1)) && (hv == 0)) && is) with hbv_55 | hbv_55
                     ·-- true
                      replace h := cond_t ht_9 hbv_55
                      refine oneV (i := 73) rfl ?_ trivial
                      refine guard_on hF rfl rfl hbv_55 ?_
                      replace h := bind_some h
                      obtain ⟨rv_75, hx_84, h⟩ := h
                      refine O.callP (us := []) ca_21 hF hS (remontoirlaw02_works_ok hS.stab hG rv_75 hx_84) rfl rfl fun a w hF hS => ?_
                      refine nT ⟨hS.weak (AL rfl), ?_⟩
                      refine stepV (i := 74) rfl hF (fun w hS => Y.pick_t hF rfl hbv_55 rfl) rfl fun a hF => ?_
                      obtain rfl := some_inj h
                      exact hcut _ _ ⟨hF.weak ⟨rfl, rfl, trivial⟩, hS.weak (AL rfl)⟩
                     ·-- false
                      replace h := cond_f ht_9 hbv_55
                      refine oneV (i := 73) rfl (guard_off hF rfl rfl hbv_55 rfl fun a hF => nT ⟨hS.weak (AL rfl), ?_⟩) trivial
                      refine stepV (i := 74) rfl hF (fun w hS => Y.pick_f hF rfl hbv_55 rfl) rfl fun a hF => ?_
                      obtain rfl := some_inj h
                      exact hcut _ _ ⟨hF.weak ⟨rfl, rfl, trivial⟩, hS.weak (AL rfl)⟩
                    ·skip
                     rintro a w ⟨hF, hS⟩
                     refine stepV (i := 75) rfl hF (fun w hS => Y.assign hF rfl) rfl fun a hF => ?_
                     refine toTailV ?_
                     refine nT ?_
                     refine ret_ ?_
                     obtain rfl := some_inj h
                     exact leaveP Tryd.results14 hF hS (.cons (.tmp rfl) .nil) .nil rfl
end Go.Proofs.YtpniidbbbhbglaaDoor.Rt
