/- Walks of the functions of this seat: what each Go function comes to, as a Lean function, and the proof. A part of a law. Under no conditions. -/
import Derived.Test.YtmbgmefmkjeahaaDoorC15WKZ
set_option linter.unusedVariables false
set_option linter.unusedSimpArgs false
set_option maxRecDepth 100000
set_option maxHeartbeats 40000000
namespace Go.Proofs.YtmbgmefmkjeahaaDoor.Rt
open Go Go.RowKit
def w7SlaveKnown_tr1_1 : Tr := .flt 15 .done
def w7SlaveKnown_tr1_2 : Tr := .alt 14 w7SlaveKnown_tr1_1 .stop
def w7SlaveKnown_tr1_3 : Tr := .alt 13 w7SlaveKnown_tr1_2 .stop
def w7SlaveKnown_tr1_4 : Tr := .alt 12 w7SlaveKnown_tr1_3 .stop
def w7SlaveKnown_tr1_5 : Tr := .alt 11 w7SlaveKnown_tr1_3 .stop
def w7SlaveKnown_tr1_6 : Tr := .alt 11 w7SlaveKnown_tr1_4 (.alt 12 w7SlaveKnown_tr1_5 .stop)
def w7SlaveKnown_tr1_7 : Tr := .alt 10 w7SlaveKnown_tr1_5 .stop
def w7SlaveKnown_tr1_8 : Tr := .alt 9 w7SlaveKnown_tr1_5 .stop
def w7SlaveKnown_tr1_9 : Tr := .alt 10 w7SlaveKnown_tr1_6 (.alt 12 w7SlaveKnown_tr1_7 .stop)
def w7SlaveKnown_tr1_10 : Tr := .alt 9 w7SlaveKnown_tr1_6 (.alt 12 w7SlaveKnown_tr1_8 .stop)
def w7SlaveKnown_tr1_11 : Tr := .alt 9 w7SlaveKnown_tr1_7 (.alt 10 w7SlaveKnown_tr1_8 .stop)
def w7SlaveKnown_tr1_12 : Tr := .alt 8 w7SlaveKnown_tr1_8 .stop
def w7SlaveKnown_tr1_13 : Tr := .alt 9 w7SlaveKnown_tr1_9 (.alt 10 w7SlaveKnown_tr1_10 (.alt 12 w7SlaveKnown_tr1_11 .stop))
def w7SlaveKnown_tr1_14 : Tr := .alt 8 w7SlaveKnown_tr1_10 (.alt 12 w7SlaveKnown_tr1_12 .stop)
def w7SlaveKnown_tr1_15 : Tr := .alt 8 w7SlaveKnown_tr1_11 (.alt 10 w7SlaveKnown_tr1_12 .stop)
def w7SlaveKnown_tr1_16 : Tr := .alt 7 w7SlaveKnown_tr1_12 .stop
def w7SlaveKnown_tr1_17 : Tr := .alt 8 w7SlaveKnown_tr1_13 (.alt 10 w7SlaveKnown_tr1_14 (.alt 12 w7SlaveKnown_tr1_15 .stop))
def w7SlaveKnown_tr1_18 : Tr := .alt 7 w7SlaveKnown_tr1_14 (.alt 12 w7SlaveKnown_tr1_16 .stop)
def w7SlaveKnown_tr1_19 : Tr := .alt 7 w7SlaveKnown_tr1_15 (.alt 10 w7SlaveKnown_tr1_16 .stop)
def w7SlaveKnown_tr1_20 : Tr := .alt 6 w7SlaveKnown_tr1_16 .stop
def w7SlaveKnown_tr1_21 : Tr := .alt 7 w7SlaveKnown_tr1_17 (.alt 10 w7SlaveKnown_tr1_18 (.alt 12 w7SlaveKnown_tr1_19 .stop))
def w7SlaveKnown_tr1_22 : Tr := .alt 6 w7SlaveKnown_tr1_18 (.alt 12 w7SlaveKnown_tr1_20 .stop)
def w7SlaveKnown_tr1_23 : Tr := .alt 6 w7SlaveKnown_tr1_19 (.alt 10 w7SlaveKnown_tr1_20 .stop)
def w7SlaveKnown_tr1_24 : Tr := .alt 5 w7SlaveKnown_tr1_20 .stop
def w7SlaveKnown_tr1_25 : Tr := .alt 6 w7SlaveKnown_tr1_21 (.alt 10 w7SlaveKnown_tr1_22 (.alt 12 w7SlaveKnown_tr1_23 .stop))
def w7SlaveKnown_tr1_26 : Tr := .alt 5 w7SlaveKnown_tr1_22 (.alt 12 w7SlaveKnown_tr1_24 .stop)
def w7SlaveKnown_tr1_27 : Tr := .alt 5 w7SlaveKnown_tr1_23 (.alt 10 w7SlaveKnown_tr1_24 .stop)
def w7SlaveKnown_tr1_28 : Tr := .alt 4 w7SlaveKnown_tr1_24 .stop
def w7SlaveKnown_tr1_29 : Tr := .alt 5 w7SlaveKnown_tr1_25 (.alt 10 w7SlaveKnown_tr1_26 (.alt 12 w7SlaveKnown_tr1_27 .stop))
def w7SlaveKnown_tr1_30 : Tr := .alt 4 w7SlaveKnown_tr1_26 (.alt 12 w7SlaveKnown_tr1_28 .stop)
def w7SlaveKnown_tr1_31 : Tr := .alt 4 w7SlaveKnown_tr1_27 (.alt 10 w7SlaveKnown_tr1_28 .stop)
def w7SlaveKnown_tr1_32 : Tr := .alt 3 w7SlaveKnown_tr1_28 .stop
def w7SlaveKnown_tr1_33 : Tr := .alt 4 w7SlaveKnown_tr1_29 (.alt 10 w7SlaveKnown_tr1_30 (.alt 12 w7SlaveKnown_tr1_31 .stop))
def w7SlaveKnown_tr1_34 : Tr := .alt 3 w7SlaveKnown_tr1_30 (.alt 12 w7SlaveKnown_tr1_32 .stop)
def w7SlaveKnown_tr1_35 : Tr := .alt 3 w7SlaveKnown_tr1_31 (.alt 10 w7SlaveKnown_tr1_32 .stop)
def w7SlaveKnown_tr1_36 : Tr := .alt 2 w7SlaveKnown_tr1_32 .stop
def w7SlaveKnown_tr1_37 : Tr := .alt 3 w7SlaveKnown_tr1_33 (.alt 10 w7SlaveKnown_tr1_34 (.alt 12 w7SlaveKnown_tr1_35 .stop))
def w7SlaveKnown_tr1_38 : Tr := .alt 2 w7SlaveKnown_tr1_34 (.alt 12 w7SlaveKnown_tr1_36 .stop)
def w7SlaveKnown_tr1_39 : Tr := .alt 2 w7SlaveKnown_tr1_35 (.alt 10 w7SlaveKnown_tr1_36 .stop)
def w7SlaveKnown_tr1_40 : Tr := .alt 1 w7SlaveKnown_tr1_36 .stop
def w7SlaveKnown_tr1_41 : Tr := .alt 2 w7SlaveKnown_tr1_37 (.alt 10 w7SlaveKnown_tr1_38 (.alt 12 w7SlaveKnown_tr1_39 .stop))
def w7SlaveKnown_tr1_42 : Tr := .alt 1 w7SlaveKnown_tr1_38 (.alt 12 w7SlaveKnown_tr1_40 .stop)
def w7SlaveKnown_tr1_43 : Tr := .alt 1 w7SlaveKnown_tr1_39 (.alt 10 w7SlaveKnown_tr1_40 .stop)
def w7SlaveKnown_tr1_44 : Tr := .alt 1 w7SlaveKnown_tr1_41 (.alt 10 w7SlaveKnown_tr1_42 (.alt 12 w7SlaveKnown_tr1_43 .stop))
def w7SlaveKnown_tr1_45 : Tr := .flt 0 w7SlaveKnown_tr1_44
def w7SlaveKnown_tr6_81 : Tr := .flt 81 .done
def w7SlaveKnown_tr6_80 : Tr := .flt 80 w7SlaveKnown_tr6_81
def w7SlaveKnown_tr6_79 : Tr := .alt 79 w7SlaveKnown_tr6_80 .stop
def w7SlaveKnown_tr6_78 : Tr := .flt 78 w7SlaveKnown_tr6_79
def w7SlaveKnown_tr6_77 : Tr := .flt 77 w7SlaveKnown_tr6_78
def w7SlaveKnown_tr6_76 : Tr := .flt 76 w7SlaveKnown_tr6_77
def w7SlaveKnown_tr6_75 : Tr := .flt 75 w7SlaveKnown_tr6_76
def w7SlaveKnown_tr6_74 : Tr := .flt 74 w7SlaveKnown_tr6_75
def w7SlaveKnown_tr6_73 : Tr := .flt 73 w7SlaveKnown_tr6_74
def w7SlaveKnown_tr6_72 : Tr := .flt 72 w7SlaveKnown_tr6_73
def w7SlaveKnown_tr6_71 : Tr := .flt 71 w7SlaveKnown_tr6_72
def w7SlaveKnown_tr6_70 : Tr := .flt 70 w7SlaveKnown_tr6_71
def w7SlaveKnown_tr6_69 : Tr := .flt 69 w7SlaveKnown_tr6_70
def w7SlaveKnown_tr6_68 : Tr := .flt 68 w7SlaveKnown_tr6_69
def w7SlaveKnown_tr6_67 : Tr := .flt 67 w7SlaveKnown_tr6_68
def w7SlaveKnown_tr6_66 : Tr := .flt 66 w7SlaveKnown_tr6_67
def w7SlaveKnown_tr6_65 : Tr := .flt 65 w7SlaveKnown_tr6_66
def w7SlaveKnown_tr6_64 : Tr := .flt 64 w7SlaveKnown_tr6_65
def w7SlaveKnown_tr6_63 : Tr := .flt 63 w7SlaveKnown_tr6_64
def w7SlaveKnown_tr6_62 : Tr := .flt 62 w7SlaveKnown_tr6_63
def w7SlaveKnown_tr6_61 : Tr := .flt 61 w7SlaveKnown_tr6_62
def w7SlaveKnown_tr6_60 : Tr := .flt 60 w7SlaveKnown_tr6_61
def w7SlaveKnown_tr6_59 : Tr := .flt 59 w7SlaveKnown_tr6_60
def w7SlaveKnown_tr6_58 : Tr := .alt 58 w7SlaveKnown_tr6_59 .stop
def w7SlaveKnown_tr6_57 : Tr := .alt 57 w7SlaveKnown_tr6_58 .stop
def w7SlaveKnown_tr6_56 : Tr := .flt 56 w7SlaveKnown_tr6_57
def w7SlaveKnown_tr6_55 : Tr := .flt 55 w7SlaveKnown_tr6_56
def w7SlaveKnown_tr6_54 : Tr := .flt 54 w7SlaveKnown_tr6_55
def w7SlaveKnown_tr6_53 : Tr := .flt 53 w7SlaveKnown_tr6_54
def w7SlaveKnown_tr6_52 : Tr := .flt 52 w7SlaveKnown_tr6_53
def w7SlaveKnown_tr6_51 : Tr := .flt 51 w7SlaveKnown_tr6_52
def w7SlaveKnown_tr6_50 : Tr := .flt 50 w7SlaveKnown_tr6_51
def w7SlaveKnown_tr6_49 : Tr := .flt 49 w7SlaveKnown_tr6_50
def w7SlaveKnown_tr6_48 : Tr := .flt 48 w7SlaveKnown_tr6_49
def w7SlaveKnown_tr6_47 : Tr := .flt 47 w7SlaveKnown_tr6_48
def w7SlaveKnown_tr6_46 : Tr := .flt 46 w7SlaveKnown_tr6_47
def w7SlaveKnown_tr6_45 : Tr := .flt 45 w7SlaveKnown_tr6_46
def w7SlaveKnown_tr6_44 : Tr := .flt 44 w7SlaveKnown_tr6_45
def w7SlaveKnown_tr6_43 : Tr := .flt 43 w7SlaveKnown_tr6_44
def w7SlaveKnown_tr6_42 : Tr := .flt 42 w7SlaveKnown_tr6_43
def w7SlaveKnown_tr6_41 : Tr := .flt 41 w7SlaveKnown_tr6_42
def w7SlaveKnown_tr6_40 : Tr := .flt 40 w7SlaveKnown_tr6_41
def w7SlaveKnown_tr6_39 : Tr := .flt 39 w7SlaveKnown_tr6_40
def w7SlaveKnown_tr6_38 : Tr := .flt 38 w7SlaveKnown_tr6_39
def w7SlaveKnown_tr6_37 : Tr := .flt 37 w7SlaveKnown_tr6_38
def w7SlaveKnown_tr6_36 : Tr := .flt 36 w7SlaveKnown_tr6_37
def w7SlaveKnown_tr6_35 : Tr := .flt 35 w7SlaveKnown_tr6_36
def w7SlaveKnown_tr6_34 : Tr := .flt 34 w7SlaveKnown_tr6_35
def w7SlaveKnown_tr6_33 : Tr := .flt 33 w7SlaveKnown_tr6_34
def w7SlaveKnown_tr6_32 : Tr := .flt 32 w7SlaveKnown_tr6_33
def w7SlaveKnown_tr6_31 : Tr := .flt 31 w7SlaveKnown_tr6_32
def w7SlaveKnown_tr6_30 : Tr := .flt 30 w7SlaveKnown_tr6_31
def w7SlaveKnown_tr6_29 : Tr := .flt 29 w7SlaveKnown_tr6_30
def w7SlaveKnown_tr6_28 : Tr := .flt 28 w7SlaveKnown_tr6_29
def w7SlaveKnown_tr6_27 : Tr := .flt 27 w7SlaveKnown_tr6_28
def w7SlaveKnown_tr6_26 : Tr := .flt 26 w7SlaveKnown_tr6_27
def w7SlaveKnown_tr6_25 : Tr := .flt 25 w7SlaveKnown_tr6_26
def w7SlaveKnown_tr6_24 : Tr := .flt 24 w7SlaveKnown_tr6_25
def w7SlaveKnown_tr6_23 : Tr := .alt 23 w7SlaveKnown_tr6_24 .stop
def w7SlaveKnown_tr6_22 : Tr := .alt 22 w7SlaveKnown_tr6_23 .stop
def w7SlaveKnown_tr6_21 : Tr := .flt 21 w7SlaveKnown_tr6_22
def w7SlaveKnown_tr6_20 : Tr := .flt 20 w7SlaveKnown_tr6_21
def w7SlaveKnown_tr6_19 : Tr := .flt 19 w7SlaveKnown_tr6_20
def w7SlaveKnown_tr6_18 : Tr := .flt 18 w7SlaveKnown_tr6_19
def w7SlaveKnown_tr6_17 : Tr := .flt 17 w7SlaveKnown_tr6_18
def w7SlaveKnown_tr6_16 : Tr := .flt 16 w7SlaveKnown_tr6_17
def w7SlaveKnown_tr6_15 : Tr := .flt 15 w7SlaveKnown_tr6_16
def w7SlaveKnown_tr6_14 : Tr := .flt 14 w7SlaveKnown_tr6_15
def w7SlaveKnown_tr6_13 : Tr := .alt 13 w7SlaveKnown_tr6_14 .stop
def w7SlaveKnown_tr6_12 : Tr := .flt 12 w7SlaveKnown_tr6_13
def w7SlaveKnown_tr6_11 : Tr := .flt 11 w7SlaveKnown_tr6_12
def w7SlaveKnown_tr6_10 : Tr := .flt 10 w7SlaveKnown_tr6_11
def w7SlaveKnown_tr6_9 : Tr := .flt 9 w7SlaveKnown_tr6_10
def w7SlaveKnown_tr6_8 : Tr := .flt 8 w7SlaveKnown_tr6_9
def w7SlaveKnown_tr6_7 : Tr := .flt 7 w7SlaveKnown_tr6_8
def w7SlaveKnown_tr6_6 : Tr := .flt 6 w7SlaveKnown_tr6_7
def w7SlaveKnown_tr6_5 : Tr := .alt 5 w7SlaveKnown_tr6_6 .stop
def w7SlaveKnown_tr6_4 : Tr := .alt 4 w7SlaveKnown_tr6_5 .stop
def w7SlaveKnown_tr6_3 : Tr := .flt 3 w7SlaveKnown_tr6_4
def w7SlaveKnown_tr6_2 : Tr := .flt 2 w7SlaveKnown_tr6_3
def w7SlaveKnown_tr6_1 : Tr := .flt 1 w7SlaveKnown_tr6_2
def w7SlaveKnown_tr6_0 : Tr := .flt 0 w7SlaveKnown_tr6_1
noncomputable def w7SlaveKnown_k5 (rv_43 : ((List Int) × Int)) (rv_45 : (Span × Int)) (rv_46 : ((List Int) × Int)) (rv_48 : (SlavePlan × Int)) (rv_50 : (SlavePlan × Int)) (rv_52 : (Int × Int)) (rv_53 : ((List Int) × Int)) (rv_55 : (Bool × Int)) (i_3 : Int) (nonev : Int) : ND Bool :=
  (ND.det (cond (rv_43.2 == 0) ((r0Alike rv_43.1 ([0])).bind fun rv_62 =>
  some rv_62) (some false)) fun t_5 =>
  (ND.det (cond (t_5 && (rv_45.2 == 0)) ((r0To 0 1).bind fun rv_63 =>
  some ([rv_45.1.Low, rv_45.1.High] == [rv_63.Low, rv_63.High])) (some false)) fun t_6 =>
  (ND.det (cond (t_6 && (rv_46.2 == 0)) ((r0Alike rv_46.1 ([1])).bind fun rv_64 =>
  some rv_64) (some false)) fun t_7 =>
  (ND.det (cond (((((((t_7 && (rv_48.2 == 0)) && ([rv_48.1.Pre, rv_48.1.Home, rv_48.1.First, rv_48.1.Send] == [(-1), 10, 1, 1])) && (rv_50.2 == 0)) && ([rv_50.1.Pre, rv_50.1.Home, rv_50.1.First, rv_50.1.Send] == [(-1), 0, 0, 5])) && (rv_52.2 == 0)) && (rv_52.1 == 11)) && (rv_53.2 == 0)) ((r0Alike rv_53.1 ([0, 10, 11])).bind fun rv_65 =>
  some rv_65) (some false)) fun t_8 =>
  (ND.bnd (cond ((((t_8 && (rv_55.2 == 0)) && (!rv_55.1)) && (i_3 == 0)) && (nonev == 0)) ((ND.bnd (w7works) fun rv_67 =>
  ND.ret rv_67)) (ND.ret false)) fun t_9 =>
  ND.ret t_9)))))
noncomputable def w7SlaveKnown_s3 (sv_2 : Bool) : ND Bool :=
  (ND.det (w7line ([7])) fun rv_27 =>
  (ND.det (w7line ([] : List Int)) fun rv_28 =>
  (ND.bnd (slave_Can rv_28 1) fun rv_29 =>
  (ND.det (w7line ([] : List Int)) fun rv_30 =>
  (ND.det (slave_IsStory rv_30 (-1) ([] : List (List Int))) fun rv_31 =>
  (ND.bnd (slave_Sets rv_27 12 (SlavePlan.mk 0 0 0 0)) fun rv_32 =>
  (ND.bnd (slave_Set rv_27 (-1)) fun rv_33 =>
  (ND.bnd (slave_Homes rv_27 4) fun rv_34 =>
  (ND.bnd (slave_Can rv_27 0) fun rv_35 =>
  (ND.bnd (slave_Lost rv_27 0) fun rv_36 =>
  (ND.bnd (slave_Story rv_27 0) fun rv_37 =>
  (ND.bnd (slave_Sets rv_27 5 (SlavePlan.mk 0 0 0 0)) fun rv_38 =>
  (ND.bnd (slave_Set rv_27 5) fun rv_39 =>
  (ND.bnd (slave_Homes rv_27 0) fun rv_40 =>
  cond (((((((((((rv_29.2 != 71) || (rv_31.2 != 71)) || (rv_32.2 != 71)) || (rv_33.2 != 71)) || (rv_34.2 != 71)) || (rv_35.2 != 72)) || (rv_36.2 != 72)) || (rv_37.2 != 72)) || (rv_38.2 != 72)) || (rv_39.2 != 72)) || (rv_40.2 != 72))
  (ND.ret false)
  ((ND.det (w7line ([] : List Int)) fun rv_41 =>
  (ND.grd (rv_41.Events.length + ([(SlaveEvent.mk 1 0 10 1 0 0)]).length ≤ lim) (
  (ND.det (w7line ([0])) fun rv_42 =>
  (ND.bnd (slave_Can rv_42 0) fun rv_43 =>
  (ND.det (w7line ([] : List Int)) fun rv_44 =>
  (ND.bnd (slave_Lost rv_44 0) fun rv_45 =>
  (ND.bnd (slave_Wrong rv_27) fun rv_46 =>
  (ND.det (w7line ([] : List Int)) fun rv_47 =>
  (ND.bnd (slave_Set rv_47 0) fun rv_48 =>
  (ND.det (w7line ([0])) fun rv_49 =>
  (ND.bnd (slave_Set rv_49 5) fun rv_50 =>
  (ND.det (w7line ([] : List Int)) fun rv_51 =>
  (ND.bnd (slave_Homes rv_51 0) fun rv_52 =>
  (ND.bnd (slave_Can (SlaveLine.mk rv_41.Ring rv_41.Starts (rv_41.Events ++ [(SlaveEvent.mk 1 0 10 1 0 0)])) 0) fun rv_53 =>
  (ND.det (w7line ([] : List Int)) fun rv_54 =>
  (ND.bnd (slave_Sets rv_54 5 (SlavePlan.mk (-1) 11 0 5)) fun rv_55 =>
  (ND.det (w7line ([0])) fun rv_68 =>
  (ND.bnd (slave_Homes rv_68 3) fun rv_69 =>
  w7SlaveKnown_k5 rv_43 rv_45 rv_46 rv_48 rv_50 rv_52 rv_53 rv_55 rv_69.2 rv_69.1))))))))))))))))))))))))))))))))))
noncomputable def w7SlaveKnown_b4  : (Bool × Int) → ND ((Bool × Int) ⊕ Bool)
 | (v0_2, i_2) =>
  cond (decide (i_2 < (([(SlavePlan.mk (-2) 0 0 0), (SlavePlan.mk 2 0 0 0), (SlavePlan.mk 0 61 0 0), (SlavePlan.mk 0 (-1) 0 0), (SlavePlan.mk 0 0 2 0), (SlavePlan.mk 0 0 0 61)]).length : Int)))
  ((ND.det (idx ([(SlavePlan.mk (-2) 0 0 0), (SlavePlan.mk 2 0 0 0), (SlavePlan.mk 0 61 0 0), (SlavePlan.mk 0 (-1) 0 0), (SlavePlan.mk 0 0 2 0), (SlavePlan.mk 0 0 0 61)]) i_2) fun e_9 =>
  (ND.det (w7line ([7])) fun rv_25 =>
  (ND.bnd (slave_Sets rv_25 5 e_9) fun rv_26 =>
  cond (rv_26.1 || (rv_26.2 != 71))
  (next_ (ND.ret false))
  (nnxt (v0_2, wr (i_2 + 1)))))))
  (next_ (w7SlaveKnown_s3 v0_2))
noncomputable def w7SlaveKnown_s2 (sv_1 : Bool) : ND Bool :=
  loopN (w7SlaveKnown_b4) (sv_1, 0)
noncomputable def w7SlaveKnown_b3  : (Bool × Int) → ND ((Bool × Int) ⊕ Bool)
 | (v0_1, i_1) =>
  cond (decide (i_1 < (([([] : List (List Int)), [[1, 2]], [[4]], [[-1]], [([] : List Int), ([] : List Int)]]).length : Int)))
  ((ND.det (w7line ([] : List Int)) fun rv_21 =>
  (ND.det (idx ([([] : List (List Int)), [[1, 2]], [[4]], [[-1]], [([] : List Int), ([] : List Int)]]) i_1) fun e_7 =>
  (ND.det (slave_IsStory rv_21 0 e_7) fun rv_22 =>
  cond (rv_22.1 || (rv_22.2 != 0))
  (next_ (ND.ret false))
  (nnxt (v0_1, wr (i_1 + 1)))))))
  (next_ (w7SlaveKnown_s2 v0_1))
noncomputable def w7SlaveKnown_s1 (sv : Bool) : ND Bool :=
  loopN (w7SlaveKnown_b3) (sv, 0)
noncomputable def w7SlaveKnown_b2 (bad : (List SlaveLine)) : (Bool × Int) → ND ((Bool × Int) ⊕ Bool)
 | (v0_0, i) =>
  cond (decide (i < (bad.length : Int)))
  ((ND.det (idx bad i) fun e_6 =>
  (ND.bnd (slave_Can e_6 (-1)) fun rv_12 =>
  (ND.bnd (slave_Lost e_6 (-1)) fun rv_13 =>
  (ND.det (slave_IsStory e_6 (-1) ([] : List (List Int))) fun rv_14 =>
  (ND.bnd (slave_Story e_6 (-1)) fun rv_15 =>
  (ND.bnd (slave_Wrong e_6) fun rv_16 =>
  (ND.bnd (slave_Sets e_6 (-1) (SlavePlan.mk 0 0 0 0)) fun rv_17 =>
  (ND.bnd (slave_Set e_6 (-1)) fun rv_18 =>
  (ND.bnd (slave_Homes e_6 (-1)) fun rv_19 =>
  (ND.det (slave_Check e_6) fun rv_20 =>
  cond (((((((((rv_20 != 70) || (rv_12.2 != 70)) || (rv_13.2 != 70)) || (rv_14.2 != 70)) || (rv_15.2 != 70)) || (rv_16.2 != 70)) || (rv_17.2 != 70)) || (rv_18.2 != 70)) || (rv_19.2 != 70))
  (next_ (ND.ret false))
  (nnxt (v0_0, wr (i + 1))))))))))))))
  (next_ (w7SlaveKnown_s1 v0_0))
noncomputable def w7SlaveKnown : ND Bool :=
  (ND.det (w7line ([] : List Int)) fun rv =>
  (ND.det (w7line ([] : List Int)) fun rv_1 =>
  (ND.det (w7line ([] : List Int)) fun rv_2 =>
  (ND.det (w7line ([] : List Int)) fun rv_3 =>
  (ND.det (w7line ([] : List Int)) fun rv_4 =>
  (ND.det (w7line ([] : List Int)) fun rv_5 =>
  (ND.det (w7line ([] : List Int)) fun rv_6 =>
  (ND.det (w7line ([] : List Int)) fun rv_7 =>
  (ND.det (w7line ([] : List Int)) fun rv_8 =>
  (ND.det (w7line ([12])) fun rv_9 =>
  (ND.grd ((0 : Int) ≤ 10 ∧ 10 ≤ (mlim : Int)) (
  (ND.det (w7line (List.replicate (Int.toNat 10) (0 : Int))) fun rv_10 =>
  (ND.det (idx rv_2.Starts 0) fun e =>
  (ND.det (idx rv_3.Starts 0) fun e_1 =>
  (ND.det (idx rv_4.Events 0) fun e_2 =>
  (ND.det (idx rv_5.Events 0) fun e_3 =>
  (ND.det (idx rv_6.Events 0) fun e_4 =>
  (ND.det (idx rv_7.Events 0) fun e_5 =>
  (ND.det (w7look 1 0) fun rv_11 =>
  (ND.det (some ([(SlaveLine.mk 0 ([] : List SlaveStart) ([] : List SlaveEvent)), (SlaveLine.mk 61 rv.Starts rv.Events), (SlaveLine.mk rv_1.Ring ([] : List SlaveStart) rv_1.Events), (SlaveLine.mk rv_2.Ring (rv_2.Starts.set (Int.toNat 0) (SlaveStart.mk 12 e.Last)) rv_2.Events), (SlaveLine.mk rv_3.Ring (rv_3.Starts.set (Int.toNat 0) (SlaveStart.mk e_1.Shown 2)) rv_3.Events), (SlaveLine.mk rv_4.Ring rv_4.Starts (rv_4.Events.set (Int.toNat 0) (SlaveEvent.mk 3 e_2.First e_2.Count e_2.Lost e_2.Who e_2.Shown))), (SlaveLine.mk rv_5.Ring rv_5.Starts (rv_5.Events.set (Int.toNat 0) (SlaveEvent.mk e_3.Kind 2 e_3.Count e_3.Lost e_3.Who e_3.Shown))), (SlaveLine.mk rv_6.Ring rv_6.Starts (rv_6.Events.set (Int.toNat 0) (SlaveEvent.mk e_4.Kind e_4.First 61 e_4.Lost e_4.Who e_4.Shown))), (SlaveLine.mk rv_7.Ring rv_7.Starts (rv_7.Events.set (Int.toNat 0) (SlaveEvent.mk e_5.Kind e_5.First e_5.Count 4 e_5.Who e_5.Shown))), (SlaveLine.mk rv_8.Ring rv_8.Starts ([rv_11])), rv_9, rv_10] : List SlaveLine)) fun bad =>
  loopN (w7SlaveKnown_b2 bad) (false, 0))))))))))))))))))))))
theorem w7SlaveKnown_s3_ok {w0 : World} {D0 : Stab} (sv_2 : Bool) {Dv_294 : Stab} (hle0_ : D0.le Dv_294) (hG : Glob Dv_294) (out : Bool → Prop) (h : w7SlaveKnown_s3 sv_2 out) {a : Act} {w : World} (hF : Frm 527 [] [(0, .bool sv_2)] a) (hS : St w0 D0 Dv_294 [] w) : WP none Tryd.prog (dropSeq 16 (Tryd.f15.body.getD .skip)) (base Tryd.prog Tryd.f15 (RetPN D0 w0 out fun (out : Bool) => .bool out)) a w := by
 unfold w7SlaveKnown_s3 at h
 refine seq ?_
 refine region ?_
 have hr_522 : Reps C_int Dv_294 [7] [iv 7] := Reps.cons (C := C_int) (x := 7) (c := [iv 7]) (r := []) rfl (Reps.nil)
 refine O.buildSlice (E := 3) (C := C_int) (xs := [7]) (cs := [iv 7]) (us := [iv 7]) (parts := [(0, (.const (iv 7)))]) 47 hF hS rfl (by kernel_rfl) hr_522 rfl rfl rfl fun p_542 c_499 a w hF hS => ?_
 obtain ⟨Dv_295, hlev_293, hs_489, hS⟩ := hS.freezeC (C := C_int) (i := 47) (xs := [7]) rfl hr_522
 replace hG := hG.mono hlev_293
 replace h := ndet h
 obtain ⟨rv_27, hx_38, h⟩ := h
 refine O.callM (us := [.slice p_542 ([7]).length c_499]) ca_55 hF (w7line_keep hS.stab ([7]) hs_489 rv_27 hx_38) rfl rfl fun v_213 Dv_296 a w hK_208 hlev_294 hF => ?_
 replace hG := hG.mono hlev_294
 obtain ⟨p_543, c_500, cs_465, p_544, c_501, cs_466, hS2_208, rfl, hr_523, hr_524⟩ := hK_208
 replace hS := hS.join hS2_208
 replace hS := hS.move 48 900 rfl (by decide)
 replace hS := hS.move 49 901 rfl (by decide)
 replace hS := hS.weak (ms := [(48, .own p_543 rv_27.Starts.length c_500 cs_465 57 2), (49, .own p_544 rv_27.Events.length c_501 cs_466 66 6)]) ⟨rfl, rfl, trivial⟩
 refine O.alloc 50 zc_25 hF hS rfl fun b_24 a w hF hS => ?_
 refine O.store (us := [iv rv_27.Ring, .slice p_543 rv_27.Starts.length c_500, .slice p_544 rv_27.Events.length c_501]) 50 sz_25 hF rfl rfl rfl rfl hS rfl rfl fun a w hF hS => ?_
 refine nT ?_
 refine seq ?_
 refine region ?_
 replace h := ndet h
 obtain ⟨rv_28, hx_39, h⟩ := h
 refine O.callM (us := [.slice none 0 0]) ca_55 hF (w7line_keep hS.stab ([] : List Int) SRc.nil rv_28 hx_39) rfl rfl fun v_214 Dv_297 a w hK_209 hlev_295 hF => ?_
 replace hG := hG.mono hlev_295
 replace hr_523 := hr_523.mono hlev_295
 replace hr_524 := hr_524.mono hlev_295
 obtain ⟨p_545, c_502, cs_467, p_546, c_503, cs_468, hS2_209, rfl, hr_525, hr_526⟩ := hK_209
 replace hS := hS.join hS2_209
 replace hS := hS.move 51 900 rfl (by decide)
 replace hS := hS.move 52 901 rfl (by decide)
 replace hS := hS.weak (ms := [(48, .own p_543 rv_27.Starts.length c_500 cs_465 57 2), (49, .own p_544 rv_27.Events.length c_501 cs_466 66 6), (50, .cells b_24 [iv rv_27.Ring, .slice p_543 rv_27.Starts.length c_500, .slice p_544 rv_27.Events.length c_501] 25), (51, .own p_545 rv_28.Starts.length c_502 cs_467 57 2), (52, .own p_546 rv_28.Events.length c_503 cs_468 66 6)]) (AL rfl)
 obtain ⟨Dv_298, hlev_296, hs_494, hS⟩ := hS.freezeC (C := C_SlaveStart) (i := 51) (xs := rv_28.Starts) rfl hr_525
 replace hG := hG.mono hlev_296
 replace hr_523 := hr_523.mono hlev_296
 replace hr_524 := hr_524.mono hlev_296
 replace hr_526 := hr_526.mono hlev_296
 obtain ⟨Dv_299, hlev_297, hs_495, hS⟩ := hS.freezeC (C := C_SlaveEvent) (i := 52) (xs := rv_28.Events) rfl hr_526
 replace hG := hG.mono hlev_297
 replace hr_523 := hr_523.mono hlev_297
 replace hr_524 := hr_524.mono hlev_297
 replace hs_494 := hs_494.mono hlev_297
 obtain ⟨KQ_9, hx_40, hk_9⟩ := nbnd_ex h
 refine O.callSN (us := [.agg #[iv rv_28.Ring, .slice p_545 rv_28.Starts.length c_502, .slice p_546 rv_28.Events.length c_503], iv 1]) ca_16 hF hS (slave_Can_ok hS.stab rv_28 1 hs_494 hs_495 hG KQ_9 hx_40) rfl rfl fun rv_29 h v_215 Dv_300 a w hR_5 hlev_298 hF hS => ?_
 replace h := hk_9 _ h
 replace hG := hG.mono hlev_298
 replace hr_523 := hr_523.mono hlev_298
 replace hr_524 := hr_524.mono hlev_298
 obtain ⟨p_547, c_504, rfl, hs_496⟩ := hR_5
 refine step hF (Y.move hF rfl) rfl fun a hF => ?_
 refine step hF (Y.extract hF rfl rfl) rfl fun a hF => ?_
 refine step hF (Y.extract hF rfl rfl) rfl fun a hF => ?_
 refine step hF (Y.assign hF rfl) rfl fun a hF => ?_
 refine step hF (Y.assign hF rfl) rfl fun a hF => ?_
 refine nT ?_
 refine seq ?_
 refine region ?_
 replace h := ndet h
 obtain ⟨rv_30, hx_41, h⟩ := h
 refine O.callM (us := [.slice none 0 0]) ca_55 hF (w7line_keep hS.stab ([] : List Int) SRc.nil rv_30 hx_41) rfl rfl fun v_216 Dv_301 a w hK_210 hlev_299 hF => ?_
 replace hG := hG.mono hlev_299
 replace hr_523 := hr_523.mono hlev_299
 replace hr_524 := hr_524.mono hlev_299
 obtain ⟨p_548, c_505, cs_469, p_549, c_506, cs_470, hS2_210, rfl, hr_527, hr_528⟩ := hK_210
 replace hS := hS.join hS2_210
 replace hS := hS.move 53 900 rfl (by decide)
 replace hS := hS.move 54 901 rfl (by decide)
 replace hS := hS.weak (ms := [(48, .own p_543 rv_27.Starts.length c_500 cs_465 57 2), (49, .own p_544 rv_27.Events.length c_501 cs_466 66 6), (50, .cells b_24 [iv rv_27.Ring, .slice p_543 rv_27.Starts.length c_500, .slice p_544 rv_27.Events.length c_501] 25), (53, .own p_548 rv_30.Starts.length c_505 cs_469 57 2), (54, .own p_549 rv_30.Events.length c_506 cs_470 66 6)]) (AL rfl)
 obtain ⟨Dv_302, hlev_300, hs_499, hS⟩ := hS.freezeC (C := C_SlaveStart) (i := 53) (xs := rv_30.Starts) rfl hr_527
 replace hG := hG.mono hlev_300
 replace hr_523 := hr_523.mono hlev_300
 replace hr_524 := hr_524.mono hlev_300
 replace hr_528 := hr_528.mono hlev_300
 obtain ⟨Dv_303, hlev_301, hs_500, hS⟩ := hS.freezeC (C := C_SlaveEvent) (i := 54) (xs := rv_30.Events) rfl hr_528
 replace hG := hG.mono hlev_301
 replace hr_523 := hr_523.mono hlev_301
 replace hr_524 := hr_524.mono hlev_301
 replace hs_499 := hs_499.mono hlev_301
 replace h := ndet h
 obtain ⟨rv_31, hx_42, h⟩ := h
 refine O.callP (us := [.agg #[iv rv_30.Ring, .slice p_548 rv_30.Starts.length c_505, .slice p_549 rv_30.Events.length c_506], iv (-1), .slice none 0 0]) ca_24 hF hS (slave_IsStory_ok hS.stab rv_30 (-1) ([] : List (List Int)) hs_499 hs_500 SRc.nil hG rv_31 hx_42) rfl rfl fun a w hF hS => ?_
 refine step hF (Y.move hF rfl) rfl fun a hF => ?_
 refine step hF (Y.extract hF rfl rfl) rfl fun a hF => ?_
 refine step hF (Y.extract hF rfl rfl) rfl fun a hF => ?_
 refine step hF (Y.assign hF rfl) rfl fun a hF => ?_
 refine step hF (Y.assign hF rfl) rfl fun a hF => ?_
 refine nT ?_
 refine seq ?_
 refine region ?_
 refine step hF (Y.loadNL 50 sz_25 hF rfl hS rfl rfl rfl) rfl fun a hF => ?_
 refine step hF (Y.build (parts := []) (cs := #[iv 0, iv 0, iv 0, iv 0]) hF rfl (by kernel_rfl)) rfl fun a hF => ?_
 obtain ⟨Dv_304, hlev_302, hs_501, hS⟩ := hS.freezeC (C := C_SlaveStart) (i := 48) (xs := rv_27.Starts) rfl hr_523
 replace hG := hG.mono hlev_302
 replace hr_524 := hr_524.mono hlev_302
 obtain ⟨Dv_305, hlev_303, hs_502, hS⟩ := hS.freezeC (C := C_SlaveEvent) (i := 49) (xs := rv_27.Events) rfl hr_524
 replace hG := hG.mono hlev_303
 replace hs_501 := hs_501.mono hlev_303
 obtain ⟨KQ_10, hx_43, hk_10⟩ := nbnd_ex h
 refine O.callPN (us := [.agg #[iv rv_27.Ring, .slice p_543 rv_27.Starts.length c_500, .slice p_544 rv_27.Events.length c_501], iv 12, .agg #[iv 0, iv 0, iv 0, iv 0]]) ca_32 hF hS (slave_Sets_ok hS.stab rv_27 12 (SlavePlan.mk 0 0 0 0) hs_501 hs_502 hG KQ_10 hx_43) rfl rfl fun rv_32 h a w hF hS => ?_
 replace h := hk_10 _ h
 refine step hF (Y.move hF rfl) rfl fun a hF => ?_
 refine step hF (Y.extract hF rfl rfl) rfl fun a hF => ?_
 refine step hF (Y.extract hF rfl rfl) rfl fun a hF => ?_
 refine step hF (Y.assign hF rfl) rfl fun a hF => ?_
 refine step hF (Y.assign hF rfl) rfl fun a hF => ?_
 refine nT ?_
 refine seq ?_
 refine region ?_
 refine step hF (Y.loadNL 50 sz_25 hF rfl hS rfl rfl rfl) rfl fun a hF => ?_
 obtain ⟨KQ_11, hx_44, hk_11⟩ := nbnd_ex h
 refine O.callPN (us := [.agg #[iv rv_27.Ring, .slice p_543 rv_27.Starts.length c_500, .slice p_544 rv_27.Events.length c_501], iv (-1)]) ca_34 hF hS (slave_Set_ok hS.stab rv_27 (-1) hs_501 hs_502 hG KQ_11 hx_44) rfl rfl fun rv_33 h a w hF hS => ?_
 replace h := hk_11 _ h
 refine step hF (Y.move hF rfl) rfl fun a hF => ?_
 refine step hF (Y.extract hF rfl rfl) rfl fun a hF => ?_
 refine step hF (Y.extract hF rfl rfl) rfl fun a hF => ?_
 refine O.alloc 55 zc_49 hF hS rfl fun b_25 a w hF hS => ?_
 refine O.store (us := [iv rv_33.1.Pre, iv rv_33.1.Home, iv rv_33.1.First, iv rv_33.1.Send]) 55 sz_49 hF rfl rfl rfl rfl hS rfl rfl fun a w hF hS => ?_
 refine step hF (Y.assign hF rfl) rfl fun a hF => ?_
 refine nT ?_
 refine seq ?_
 refine region ?_
 refine step hF (Y.loadNL 50 sz_25 hF rfl hS rfl rfl rfl) rfl fun a hF => ?_
 obtain ⟨KQ_12, hx_45, hk_12⟩ := nbnd_ex h
 refine O.callPN (us := [.agg #[iv rv_27.Ring, .slice p_543 rv_27.Starts.length c_500, .slice p_544 rv_27.Events.length c_501], iv 4]) ca_30 hF hS (slave_Homes_ok hS.stab rv_27 4 hs_501 hs_502 hG KQ_12 hx_45) rfl rfl fun rv_34 h a w hF hS => ?_
 replace h := hk_12 _ h
 refine step hF (Y.move hF rfl) rfl fun a hF => ?_
 refine step hF (Y.extract hF rfl rfl) rfl fun a hF => ?_
 refine step hF (Y.extract hF rfl rfl) rfl fun a hF => ?_
 refine step hF (Y.assign hF rfl) rfl fun a hF => ?_
 refine step hF (Y.assign hF rfl) rfl fun a hF => ?_
 refine nT ?_
 refine seq ?_
 refine region ?_
 refine step hF (Y.loadNL 50 sz_25 hF rfl hS rfl rfl rfl) rfl fun a hF => ?_
 obtain ⟨KQ_13, hx_46, hk_13⟩ := nbnd_ex h
 refine O.callSN (us := [.agg #[iv rv_27.Ring, .slice p_543 rv_27.Starts.length c_500, .slice p_544 rv_27.Events.length c_501], iv 0]) ca_16 hF hS (slave_Can_ok hS.stab rv_27 0 hs_501 hs_502 hG KQ_13 hx_46) rfl rfl fun rv_35 h v_217 Dv_306 a w hR_6 hlev_304 hF hS => ?_
 replace h := hk_13 _ h
 replace hG := hG.mono hlev_304
 replace hs_501 := hs_501.mono hlev_304
 replace hs_502 := hs_502.mono hlev_304
 obtain ⟨p_550, c_507, rfl, hs_503⟩ := hR_6
 refine step hF (Y.move hF rfl) rfl fun a hF => ?_
 refine step hF (Y.extract hF rfl rfl) rfl fun a hF => ?_
 refine step hF (Y.extract hF rfl rfl) rfl fun a hF => ?_
 refine step hF (Y.assign hF rfl) rfl fun a hF => ?_
 refine step hF (Y.assign hF rfl) rfl fun a hF => ?_
 refine nT ?_
 refine seq ?_
 refine region ?_
 refine step hF (Y.loadNL 50 sz_25 hF rfl hS rfl rfl rfl) rfl fun a hF => ?_
 obtain ⟨KQ_14, hx_47, hk_14⟩ := nbnd_ex h
 refine O.callPN (us := [.agg #[iv rv_27.Ring, .slice p_543 rv_27.Starts.length c_500, .slice p_544 rv_27.Events.length c_501], iv 0]) ca_21 hF hS (slave_Lost_ok hS.stab rv_27 0 hs_501 hs_502 hG KQ_14 hx_47) rfl rfl fun rv_36 h a w hF hS => ?_
 replace h := hk_14 _ h
 refine step hF (Y.move hF rfl) rfl fun a hF => ?_
 refine step hF (Y.extract hF rfl rfl) rfl fun a hF => ?_
 refine step hF (Y.extract hF rfl rfl) rfl fun a hF => ?_
 refine O.alloc 56 zc_33 hF hS rfl fun b_26 a w hF hS => ?_
 refine O.store (us := [iv rv_36.1.Low, iv rv_36.1.High]) 56 sz_33 hF rfl rfl rfl rfl hS rfl rfl fun a w hF hS => ?_
 refine step hF (Y.assign hF rfl) rfl fun a hF => ?_
 refine nT ?_
 refine seq ?_
 refine region ?_
 refine step hF (Y.loadNL 50 sz_25 hF rfl hS rfl rfl rfl) rfl fun a hF => ?_
 obtain ⟨KQ_15, hx_48, hk_15⟩ := nbnd_ex h
 refine O.callSN (us := [.agg #[iv rv_27.Ring, .slice p_543 rv_27.Starts.length c_500, .slice p_544 rv_27.Events.length c_501], iv 0]) ca_26 hF hS (slave_Story_ok hS.stab rv_27 0 hs_501 hs_502 hG KQ_15 hx_48) rfl rfl fun rv_37 h v_218 Dv_307 a w hR_7 hlev_305 hF hS => ?_
 replace h := hk_15 _ h
 replace hG := hG.mono hlev_305
 replace hs_501 := hs_501.mono hlev_305
 replace hs_502 := hs_502.mono hlev_305
 obtain ⟨p_551, c_508, rfl, hs_504⟩ := hR_7
 refine step hF (Y.move hF rfl) rfl fun a hF => ?_
 refine step hF (Y.extract hF rfl rfl) rfl fun a hF => ?_
 refine step hF (Y.extract hF rfl rfl) rfl fun a hF => ?_
 refine step hF (Y.assign hF rfl) rfl fun a hF => ?_
 refine step hF (Y.assign hF rfl) rfl fun a hF => ?_
 refine nT ?_
 refine seq ?_
 refine region ?_
 refine step hF (Y.loadNL 50 sz_25 hF rfl hS rfl rfl rfl) rfl fun a hF => ?_
 refine step hF (Y.build (parts := []) (cs := #[iv 0, iv 0, iv 0, iv 0]) hF rfl (by kernel_rfl)) rfl fun a hF => ?_
 obtain ⟨KQ_16, hx_49, hk_16⟩ := nbnd_ex h
 refine O.callPN (us := [.agg #[iv rv_27.Ring, .slice p_543 rv_27.Starts.length c_500, .slice p_544 rv_27.Events.length c_501], iv 5, .agg #[iv 0, iv 0, iv 0, iv 0]]) ca_32 hF hS (slave_Sets_ok hS.stab rv_27 5 (SlavePlan.mk 0 0 0 0) hs_501 hs_502 hG KQ_16 hx_49) rfl rfl fun rv_38 h a w hF hS => ?_
 replace h := hk_16 _ h
 refine step hF (Y.move hF rfl) rfl fun a hF => ?_
 refine step hF (Y.extract hF rfl rfl) rfl fun a hF => ?_
 refine step hF (Y.extract hF rfl rfl) rfl fun a hF => ?_
 refine step hF (Y.assign hF rfl) rfl fun a hF => ?_
 refine step hF (Y.assign hF rfl) rfl fun a hF => ?_
 refine nT ?_
 refine seq ?_
 refine region ?_
 refine step hF (Y.loadNL 50 sz_25 hF rfl hS rfl rfl rfl) rfl fun a hF => ?_
 obtain ⟨KQ_17, hx_50, hk_17⟩ := nbnd_ex h
 refine O.callPN (us := [.agg #[iv rv_27.Ring, .slice p_543 rv_27.Starts.length c_500, .slice p_544 rv_27.Events.length c_501], iv 5]) ca_34 hF hS (slave_Set_ok hS.stab rv_27 5 hs_501 hs_502 hG KQ_17 hx_50) rfl rfl fun rv_39 h a w hF hS => ?_
 replace h := hk_17 _ h
 refine step hF (Y.move hF rfl) rfl fun a hF => ?_
 refine step hF (Y.extract hF rfl rfl) rfl fun a hF => ?_
 refine step hF (Y.extract hF rfl rfl) rfl fun a hF => ?_
 refine O.alloc 57 zc_49 hF hS rfl fun b_27 a w hF hS => ?_
 refine O.store (us := [iv rv_39.1.Pre, iv rv_39.1.Home, iv rv_39.1.First, iv rv_39.1.Send]) 57 sz_49 hF rfl rfl rfl rfl hS rfl rfl fun a w hF hS => ?_
 refine step hF (Y.assign hF rfl) rfl fun a hF => ?_
 refine nT ?_
 refine seq ?_
 refine region ?_
 refine step hF (Y.loadNL 50 sz_25 hF rfl hS rfl rfl rfl) rfl fun a hF => ?_
 obtain ⟨KQ_18, hx_51, hk_18⟩ := nbnd_ex h
 refine O.callPN (us := [.agg #[iv rv_27.Ring, .slice p_543 rv_27.Starts.length c_500, .slice p_544 rv_27.Events.length c_501], iv 0]) ca_30 hF hS (slave_Homes_ok hS.stab rv_27 0 hs_501 hs_502 hG KQ_18 hx_51) rfl rfl fun rv_40 h a w hF hS => ?_
 replace h := hk_18 _ h
 refine step hF (Y.move hF rfl) rfl fun a hF => ?_
 refine step hF (Y.extract hF rfl rfl) rfl fun a hF => ?_
 refine step hF (Y.extract hF rfl rfl) rfl fun a hF => ?_
 refine step hF (Y.assign hF rfl) rfl fun a hF => ?_
 refine step hF (Y.assign hF rfl) rfl fun a hF => ?_
 refine nT ?_
 refine seq ?_
 refine seq ?_
 refine region ?_
 refine step hF (Y.move hF rfl) rfl fun a hF => ?_
 refine step hF (Y.neq hF rfl rfl) rfl fun a hF => ?_
 refine step hF (Y.move hF rfl) rfl fun a hF => ?_
 refine join (N := 527) (rs := []) (w0 := w0) (D0 := D0) 3 (us := [(0, .bool sv_2), (27, .pointer (some ⟨b_24, 0, none⟩)), (29, iv rv_29.2), (31, iv rv_31.2), (33, iv rv_32.2), (35, iv rv_33.2), (37, iv rv_34.2), (39, iv rv_35.2), (41, iv rv_36.2), (43, iv rv_37.2), (45, iv rv_38.2), (47, iv rv_39.2), (49, iv rv_40.2), (353, .bool ((rv_29.2 != 71) || (rv_31.2 != 71)))]) (ms := [(50, .cells b_24 [iv rv_27.Ring, .slice p_543 rv_27.Starts.length c_500, .slice p_544 rv_27.Events.length c_501] 25), (55, .cells b_25 [iv rv_33.1.Pre, iv rv_33.1.Home, iv rv_33.1.First, iv rv_33.1.Send] 49), (56, .cells b_26 [iv rv_36.1.Low, iv rv_36.1.High] 33), (57, .cells b_27 [iv rv_39.1.Pre, iv rv_39.1.Home, iv rv_39.1.First, iv rv_39.1.Send] 49)]) (D' := Dv_307) ?_ ?_
 ·rcases bcases (rv_29.2 != 71) with hbv_17 | hbv_17
  ·-- true
   refine guard_off hF rfl rfl hbv_17 rfl fun a hF => ?_
   refine guard_off hF rfl rfl hbv_17 rfl fun a hF => ?_
   refine step hF (Y.pick_t hF rfl hbv_17 rfl) rfl fun a hF => ?_
   exact nT ⟨hF.weak ⟨rfl, rfl, rfl, rfl, rfl, rfl, rfl, rfl, rfl, rfl, rfl, rfl, rfl, (by rw [hbv_17]; rfl), trivial⟩, hS.weak (AL rfl)⟩
  ·-- false
   refine guard_on hF rfl rfl hbv_17 ?_
   refine step hF (Y.move hF rfl) rfl fun a hF => ?_
   refine guard_on hF rfl rfl hbv_17 ?_
   refine step hF (Y.neq hF rfl rfl) rfl fun a hF => ?_
   refine step hF (Y.pick_f hF rfl hbv_17 rfl) rfl fun a hF => ?_
   exact nT ⟨hF.weak ⟨rfl, rfl, rfl, rfl, rfl, rfl, rfl, rfl, rfl, rfl, rfl, rfl, rfl, (by rw [hbv_17]; rfl), trivial⟩, hS.weak (AL rfl)⟩
 intro a w hF hS
 refine step hF (Y.move hF rfl) rfl fun a hF => ?_
 refine join (N := 527) (rs := []) (w0 := w0) (D0 := D0) 3 (us := [(0, .bool sv_2), (27, .pointer (some ⟨b_24, 0, none⟩)), (29, iv rv_29.2), (31, iv rv_31.2), (33, iv rv_32.2), (35, iv rv_33.2), (37, iv rv_34.2), (39, iv rv_35.2), (41, iv rv_36.2), (43, iv rv_37.2), (45, iv rv_38.2), (47, iv rv_39.2), (49, iv rv_40.2), (357, .bool (((rv_29.2 != 71) || (rv_31.2 != 71)) || (rv_32.2 != 71)))]) (ms := [(50, .cells b_24 [iv rv_27.Ring, .slice p_543 rv_27.Starts.length c_500, .slice p_544 rv_27.Events.length c_501] 25), (55, .cells b_25 [iv rv_33.1.Pre, iv rv_33.1.Home, iv rv_33.1.First, iv rv_33.1.Send] 49), (56, .cells b_26 [iv rv_36.1.Low, iv rv_36.1.High] 33), (57, .cells b_27 [iv rv_39.1.Pre, iv rv_39.1.Home, iv rv_39.1.First, iv rv_39.1.Send] 49)]) (D' := Dv_307) ?_ ?_
 ·rcases bcases ((rv_29.2 != 71) || (rv_31.2 != 71)) with hbv_18 | hbv_18
  ·-- true
   refine guard_off hF rfl rfl hbv_18 rfl fun a hF => ?_
   refine guard_off hF rfl rfl hbv_18 rfl fun a hF => ?_
   refine step hF (Y.pick_t hF rfl hbv_18 rfl) rfl fun a hF => ?_
   exact nT ⟨hF.weak ⟨rfl, rfl, rfl, rfl, rfl, rfl, rfl, rfl, rfl, rfl, rfl, rfl, rfl, (by rw [hbv_18]; rfl), trivial⟩, hS.weak (AL rfl)⟩
  ·-- false
   refine guard_on hF rfl rfl hbv_18 ?_
   refine step hF (Y.move hF rfl) rfl fun a hF => ?_
   refine guard_on hF rfl rfl hbv_18 ?_
   refine step hF (Y.neq hF rfl rfl) rfl fun a hF => ?_
   refine step hF (Y.pick_f hF rfl hbv_18 rfl) rfl fun a hF => ?_
   exact nT ⟨hF.weak ⟨rfl, rfl, rfl, rfl, rfl, rfl, rfl, rfl, rfl, rfl, rfl, rfl, rfl, (by rw [hbv_18]; rfl), trivial⟩, hS.weak (AL rfl)⟩
 intro a w hF hS
 refine step hF (Y.move hF rfl) rfl fun a hF => ?_
 refine join (N := 527) (rs := []) (w0 := w0) (D0 := D0) 3 (us := [(0, .bool sv_2), (27, .pointer (some ⟨b_24, 0, none⟩)), (29, iv rv_29.2), (31, iv rv_31.2), (33, iv rv_32.2), (35, iv rv_33.2), (37, iv rv_34.2), (39, iv rv_35.2), (41, iv rv_36.2), (43, iv rv_37.2), (45, iv rv_38.2), (47, iv rv_39.2), (49, iv rv_40.2), (361, .bool ((((rv_29.2 != 71) || (rv_31.2 != 71)) || (rv_32.2 != 71)) || (rv_33.2 != 71)))]) (ms := [(50, .cells b_24 [iv rv_27.Ring, .slice p_543 rv_27.Starts.length c_500, .slice p_544 rv_27.Events.length c_501] 25), (55, .cells b_25 [iv rv_33.1.Pre, iv rv_33.1.Home, iv rv_33.1.First, iv rv_33.1.Send] 49), (56, .cells b_26 [iv rv_36.1.Low, iv rv_36.1.High] 33), (57, .cells b_27 [iv rv_39.1.Pre, iv rv_39.1.Home, iv rv_39.1.First, iv rv_39.1.Send] 49)]) (D' := Dv_307) ?_ ?_
 ·rcases bcases (((rv_29.2 != 71) || (rv_31.2 != 71)) || (rv_32.2 != 71)) with hbv_19 | hbv_19
  ·-- true
   refine guard_off hF rfl rfl hbv_19 rfl fun a hF => ?_
   refine guard_off hF rfl rfl hbv_19 rfl fun a hF => ?_
   refine step hF (Y.pick_t hF rfl hbv_19 rfl) rfl fun a hF => ?_
   exact nT ⟨hF.weak ⟨rfl, rfl, rfl, rfl, rfl, rfl, rfl, rfl, rfl, rfl, rfl, rfl, rfl, (by rw [hbv_19]; rfl), trivial⟩, hS.weak (AL rfl)⟩
  ·-- false
   refine guard_on hF rfl rfl hbv_19 ?_
   refine step hF (Y.move hF rfl) rfl fun a hF => ?_
   refine guard_on hF rfl rfl hbv_19 ?_
   refine step hF (Y.neq hF rfl rfl) rfl fun a hF => ?_
   refine step hF (Y.pick_f hF rfl hbv_19 rfl) rfl fun a hF => ?_
   exact nT ⟨hF.weak ⟨rfl, rfl, rfl, rfl, rfl, rfl, rfl, rfl, rfl, rfl, rfl, rfl, rfl, (by rw [hbv_19]; rfl), trivial⟩, hS.weak (AL rfl)⟩
 intro a w hF hS
 refine step hF (Y.move hF rfl) rfl fun a hF => ?_
 refine join (N := 527) (rs := []) (w0 := w0) (D0 := D0) 3 (us := [(0, .bool sv_2), (27, .pointer (some ⟨b_24, 0, none⟩)), (29, iv rv_29.2), (31, iv rv_31.2), (33, iv rv_32.2), (35, iv rv_33.2), (37, iv rv_34.2), (39, iv rv_35.2), (41, iv rv_36.2), (43, iv rv_37.2), (45, iv rv_38.2), (47, iv rv_39.2), (49, iv rv_40.2), (365, .bool (((((rv_29.2 != 71) || (rv_31.2 != 71)) || (rv_32.2 != 71)) || (rv_33.2 != 71)) || (rv_34.2 != 71)))]) (ms := [(50, .cells b_24 [iv rv_27.Ring, .slice p_543 rv_27.Starts.length c_500, .slice p_544 rv_27.Events.length c_501] 25), (55, .cells b_25 [iv rv_33.1.Pre, iv rv_33.1.Home, iv rv_33.1.First, iv rv_33.1.Send] 49), (56, .cells b_26 [iv rv_36.1.Low, iv rv_36.1.High] 33), (57, .cells b_27 [iv rv_39.1.Pre, iv rv_39.1.Home, iv rv_39.1.First, iv rv_39.1.Send] 49)]) (D' := Dv_307) ?_ ?_
 ·rcases bcases ((((rv_29.2 != 71) || (rv_31.2 != 71)) || (rv_32.2 != 71)) || (rv_33.2 != 71)) with hbv_20 | hbv_20
  ·-- true
   refine guard_off hF rfl rfl hbv_20 rfl fun a hF => ?_
   refine guard_off hF rfl rfl hbv_20 rfl fun a hF => ?_
   refine step hF (Y.pick_t hF rfl hbv_20 rfl) rfl fun a hF => ?_
   exact nT ⟨hF.weak ⟨rfl, rfl, rfl, rfl, rfl, rfl, rfl, rfl, rfl, rfl, rfl, rfl, rfl, (by rw [hbv_20]; rfl), trivial⟩, hS.weak (AL rfl)⟩
  ·-- false
   refine guard_on hF rfl rfl hbv_20 ?_
   refine step hF (Y.move hF rfl) rfl fun a hF => ?_
   refine guard_on hF rfl rfl hbv_20 ?_
   refine step hF (Y.neq hF rfl rfl) rfl fun a hF => ?_
   refine step hF (Y.pick_f hF rfl hbv_20 rfl) rfl fun a hF => ?_
   exact nT ⟨hF.weak ⟨rfl, rfl, rfl, rfl, rfl, rfl, rfl, rfl, rfl, rfl, rfl, rfl, rfl, (by rw [hbv_20]; rfl), trivial⟩, hS.weak (AL rfl)⟩
 intro a w hF hS
 refine step hF (Y.move hF rfl) rfl fun a hF => ?_
 refine join (N := 527) (rs := []) (w0 := w0) (D0 := D0) 3 (us := [(0, .bool sv_2), (27, .pointer (some ⟨b_24, 0, none⟩)), (29, iv rv_29.2), (31, iv rv_31.2), (33, iv rv_32.2), (35, iv rv_33.2), (37, iv rv_34.2), (39, iv rv_35.2), (41, iv rv_36.2), (43, iv rv_37.2), (45, iv rv_38.2), (47, iv rv_39.2), (49, iv rv_40.2), (369, .bool ((((((rv_29.2 != 71) || (rv_31.2 != 71)) || (rv_32.2 != 71)) || (rv_33.2 != 71)) || (rv_34.2 != 71)) || (rv_35.2 != 72)))]) (ms := [(50, .cells b_24 [iv rv_27.Ring, .slice p_543 rv_27.Starts.length c_500, .slice p_544 rv_27.Events.length c_501] 25), (55, .cells b_25 [iv rv_33.1.Pre, iv rv_33.1.Home, iv rv_33.1.First, iv rv_33.1.Send] 49), (56, .cells b_26 [iv rv_36.1.Low, iv rv_36.1.High] 33), (57, .cells b_27 [iv rv_39.1.Pre, iv rv_39.1.Home, iv rv_39.1.First, iv rv_39.1.Send] 49)]) (D' := Dv_307) ?_ ?_
 ·rcases bcases (((((rv_29.2 != 71) || (rv_31.2 != 71)) || (rv_32.2 != 71)) || (rv_33.2 != 71)) || (rv_34.2 != 71)) with hbv_21 | hbv_21
  ·-- true
   refine guard_off hF rfl rfl hbv_21 rfl fun a hF => ?_
   refine guard_off hF rfl rfl hbv_21 rfl fun a hF => ?_
   refine step hF (Y.pick_t hF rfl hbv_21 rfl) rfl fun a hF => ?_
   exact nT ⟨hF.weak ⟨rfl, rfl, rfl, rfl, rfl, rfl, rfl, rfl, rfl, rfl, rfl, rfl, rfl, (by rw [hbv_21]; rfl), trivial⟩, hS.weak (AL rfl)⟩
  ·-- false
   refine guard_on hF rfl rfl hbv_21 ?_
   refine step hF (Y.move hF rfl) rfl fun a hF => ?_
   refine guard_on hF rfl rfl hbv_21 ?_
   refine step hF (Y.neq hF rfl rfl) rfl fun a hF => ?_
   refine step hF (Y.pick_f hF rfl hbv_21 rfl) rfl fun a hF => ?_
   exact nT ⟨hF.weak ⟨rfl, rfl, rfl, rfl, rfl, rfl, rfl, rfl, rfl, rfl, rfl, rfl, rfl, (by rw [hbv_21]; rfl), trivial⟩, hS.weak (AL rfl)⟩
 intro a w hF hS
 refine step hF (Y.move hF rfl) rfl fun a hF => ?_
 refine join (N := 527) (rs := []) (w0 := w0) (D0 := D0) 3 (us := [(0, .bool sv_2), (27, .pointer (some ⟨b_24, 0, none⟩)), (29, iv rv_29.2), (31, iv rv_31.2), (33, iv rv_32.2), (35, iv rv_33.2), (37, iv rv_34.2), (39, iv rv_35.2), (41, iv rv_36.2), (43, iv rv_37.2), (45, iv rv_38.2), (47, iv rv_39.2), (49, iv rv_40.2), (373, .bool (((((((rv_29.2 != 71) || (rv_31.2 != 71)) || (rv_32.2 != 71)) || (rv_33.2 != 71)) || (rv_34.2 != 71)) || (rv_35.2 != 72)) || (rv_36.2 != 72)))]) (ms := [(50, .cells b_24 [iv rv_27.Ring, .slice p_543 rv_27.Starts.length c_500, .slice p_544 rv_27.Events.length c_501] 25), (55, .cells b_25 [iv rv_33.1.Pre, iv rv_33.1.Home, iv rv_33.1.First, iv rv_33.1.Send] 49), (56, .cells b_26 [iv rv_36.1.Low, iv rv_36.1.High] 33), (57, .cells b_27 [iv rv_39.1.Pre, iv rv_39.1.Home, iv rv_39.1.First, iv rv_39.1.Send] 49)]) (D' := Dv_307) ?_ ?_
 ·rcases bcases ((((((rv_29.2 != 71) || (rv_31.2 != 71)) || (rv_32.2 != 71)) || (rv_33.2 != 71)) || (rv_34.2 != 71)) || (rv_35.2 != 72)) with hbv_22 | hbv_22
  ·-- true
   refine guard_off hF rfl rfl hbv_22 rfl fun a hF => ?_
   refine guard_off hF rfl rfl hbv_22 rfl fun a hF => ?_
   refine step hF (Y.pick_t hF rfl hbv_22 rfl) rfl fun a hF => ?_
   exact nT ⟨hF.weak ⟨rfl, rfl, rfl, rfl, rfl, rfl, rfl, rfl, rfl, rfl, rfl, rfl, rfl, (by rw [hbv_22]; rfl), trivial⟩, hS.weak (AL rfl)⟩
  ·-- false
   refine guard_on hF rfl rfl hbv_22 ?_
   refine step hF (Y.move hF rfl) rfl fun a hF => ?_
   refine guard_on hF rfl rfl hbv_22 ?_
   refine step hF (Y.neq hF rfl rfl) rfl fun a hF => ?_
   refine step hF (Y.pick_f hF rfl hbv_22 rfl) rfl fun a hF => ?_
   exact nT ⟨hF.weak ⟨rfl, rfl, rfl, rfl, rfl, rfl, rfl, rfl, rfl, rfl, rfl, rfl, rfl, (by rw [hbv_22]; rfl), trivial⟩, hS.weak (AL rfl)⟩
 intro a w hF hS
 refine step hF (Y.move hF rfl) rfl fun a hF => ?_
 refine join (N := 527) (rs := []) (w0 := w0) (D0 := D0) 3 (us := [(0, .bool sv_2), (27, .pointer (some ⟨b_24, 0, none⟩)), (29, iv rv_29.2), (31, iv rv_31.2), (33, iv rv_32.2), (35, iv rv_33.2), (37, iv rv_34.2), (39, iv rv_35.2), (41, iv rv_36.2), (43, iv rv_37.2), (45, iv rv_38.2), (47, iv rv_39.2), (49, iv rv_40.2), (377, .bool ((((((((rv_29.2 != 71) || (rv_31.2 != 71)) || (rv_32.2 != 71)) || (rv_33.2 != 71)) || (rv_34.2 != 71)) || (rv_35.2 != 72)) || (rv_36.2 != 72)) || (rv_37.2 != 72)))]) (ms := [(50, .cells b_24 [iv rv_27.Ring, .slice p_543 rv_27.Starts.length c_500, .slice p_544 rv_27.Events.length c_501] 25), (55, .cells b_25 [iv rv_33.1.Pre, iv rv_33.1.Home, iv rv_33.1.First, iv rv_33.1.Send] 49), (56, .cells b_26 [iv rv_36.1.Low, iv rv_36.1.High] 33), (57, .cells b_27 [iv rv_39.1.Pre, iv rv_39.1.Home, iv rv_39.1.First, iv rv_39.1.Send] 49)]) (D' := Dv_307) ?_ ?_
 ·rcases bcases (((((((rv_29.2 != 71) || (rv_31.2 != 71)) || (rv_32.2 != 71)) || (rv_33.2 != 71)) || (rv_34.2 != 71)) || (rv_35.2 != 72)) || (rv_36.2 != 72)) with hbv_23 | hbv_23
  ·-- true
   refine guard_off hF rfl rfl hbv_23 rfl fun a hF => ?_
   refine guard_off hF rfl rfl hbv_23 rfl fun a hF => ?_
   refine step hF (Y.pick_t hF rfl hbv_23 rfl) rfl fun a hF => ?_
   exact nT ⟨hF.weak ⟨rfl, rfl, rfl, rfl, rfl, rfl, rfl, rfl, rfl, rfl, rfl, rfl, rfl, (by rw [hbv_23]; rfl), trivial⟩, hS.weak (AL rfl)⟩
  ·-- false
   refine guard_on hF rfl rfl hbv_23 ?_
   refine step hF (Y.move hF rfl) rfl fun a hF => ?_
   refine guard_on hF rfl rfl hbv_23 ?_
   refine step hF (Y.neq hF rfl rfl) rfl fun a hF => ?_
   refine step hF (Y.pick_f hF rfl hbv_23 rfl) rfl fun a hF => ?_
   exact nT ⟨hF.weak ⟨rfl, rfl, rfl, rfl, rfl, rfl, rfl, rfl, rfl, rfl, rfl, rfl, rfl, (by rw [hbv_23]; rfl), trivial⟩, hS.weak (AL rfl)⟩
 intro a w hF hS
 refine step hF (Y.move hF rfl) rfl fun a hF => ?_
 refine join (N := 527) (rs := []) (w0 := w0) (D0 := D0) 3 (us := [(0, .bool sv_2), (27, .pointer (some ⟨b_24, 0, none⟩)), (29, iv rv_29.2), (31, iv rv_31.2), (33, iv rv_32.2), (35, iv rv_33.2), (37, iv rv_34.2), (39, iv rv_35.2), (41, iv rv_36.2), (43, iv rv_37.2), (45, iv rv_38.2), (47, iv rv_39.2), (49, iv rv_40.2), (381, .bool (((((((((rv_29.2 != 71) || (rv_31.2 != 71)) || (rv_32.2 != 71)) || (rv_33.2 != 71)) || (rv_34.2 != 71)) || (rv_35.2 != 72)) || (rv_36.2 != 72)) || (rv_37.2 != 72)) || (rv_38.2 != 72)))]) (ms := [(50, .cells b_24 [iv rv_27.Ring, .slice p_543 rv_27.Starts.length c_500, .slice p_544 rv_27.Events.length c_501] 25), (55, .cells b_25 [iv rv_33.1.Pre, iv rv_33.1.Home, iv rv_33.1.First, iv rv_33.1.Send] 49), (56, .cells b_26 [iv rv_36.1.Low, iv rv_36.1.High] 33), (57, .cells b_27 [iv rv_39.1.Pre, iv rv_39.1.Home, iv rv_39.1.First, iv rv_39.1.Send] 49)]) (D' := Dv_307) ?_ ?_
 ·rcases bcases ((((((((rv_29.2 != 71) || (rv_31.2 != 71)) || (rv_32.2 != 71)) || (rv_33.2 != 71)) || (rv_34.2 != 71)) || (rv_35.2 != 72)) || (rv_36.2 != 72)) || (rv_37.2 != 72)) with hbv_24 | hbv_24
  ·-- true
   refine guard_off hF rfl rfl hbv_24 rfl fun a hF => ?_
   refine guard_off hF rfl rfl hbv_24 rfl fun a hF => ?_
   refine step hF (Y.pick_t hF rfl hbv_24 rfl) rfl fun a hF => ?_
   exact nT ⟨hF.weak ⟨rfl, rfl, rfl, rfl, rfl, rfl, rfl, rfl, rfl, rfl, rfl, rfl, rfl, (by rw [hbv_24]; rfl), trivial⟩, hS.weak (AL rfl)⟩
  ·-- false
   refine guard_on hF rfl rfl hbv_24 ?_
   refine step hF (Y.move hF rfl) rfl fun a hF => ?_
   refine guard_on hF rfl rfl hbv_24 ?_
   refine step hF (Y.neq hF rfl rfl) rfl fun a hF => ?_
   refine step hF (Y.pick_f hF rfl hbv_24 rfl) rfl fun a hF => ?_
   exact nT ⟨hF.weak ⟨rfl, rfl, rfl, rfl, rfl, rfl, rfl, rfl, rfl, rfl, rfl, rfl, rfl, (by rw [hbv_24]; rfl), trivial⟩, hS.weak (AL rfl)⟩
 intro a w hF hS
 refine step hF (Y.move hF rfl) rfl fun a hF => ?_
 refine join (N := 527) (rs := []) (w0 := w0) (D0 := D0) 3 (us := [(0, .bool sv_2), (27, .pointer (some ⟨b_24, 0, none⟩)), (29, iv rv_29.2), (31, iv rv_31.2), (33, iv rv_32.2), (35, iv rv_33.2), (37, iv rv_34.2), (39, iv rv_35.2), (41, iv rv_36.2), (43, iv rv_37.2), (45, iv rv_38.2), (49, iv rv_40.2), (385, .bool ((((((((((rv_29.2 != 71) || (rv_31.2 != 71)) || (rv_32.2 != 71)) || (rv_33.2 != 71)) || (rv_34.2 != 71)) || (rv_35.2 != 72)) || (rv_36.2 != 72)) || (rv_37.2 != 72)) || (rv_38.2 != 72)) || (rv_39.2 != 72)))]) (ms := [(50, .cells b_24 [iv rv_27.Ring, .slice p_543 rv_27.Starts.length c_500, .slice p_544 rv_27.Events.length c_501] 25), (55, .cells b_25 [iv rv_33.1.Pre, iv rv_33.1.Home, iv rv_33.1.First, iv rv_33.1.Send] 49), (56, .cells b_26 [iv rv_36.1.Low, iv rv_36.1.High] 33), (57, .cells b_27 [iv rv_39.1.Pre, iv rv_39.1.Home, iv rv_39.1.First, iv rv_39.1.Send] 49)]) (D' := Dv_307) ?_ ?_
 ·rcases bcases (((((((((rv_29.2 != 71) || (rv_31.2 != 71)) || (rv_32.2 != 71)) || (rv_33.2 != 71)) || (rv_34.2 != 71)) || (rv_35.2 != 72)) || (rv_36.2 != 72)) || (rv_37.2 != 72)) || (rv_38.2 != 72)) with hbv_25 | hbv_25
  ·-- true
   refine guard_off hF rfl rfl hbv_25 rfl fun a hF => ?_
   refine guard_off hF rfl rfl hbv_25 rfl fun a hF => ?_
   refine step hF (Y.pick_t hF rfl hbv_25 rfl) rfl fun a hF => ?_
   exact nT ⟨hF.weak ⟨rfl, rfl, rfl, rfl, rfl, rfl, rfl, rfl, rfl, rfl, rfl, rfl, (by rw [hbv_25]; rfl), trivial⟩, hS.weak (AL rfl)⟩
  ·-- false
   refine guard_on hF rfl rfl hbv_25 ?_
   refine step hF (Y.move hF rfl) rfl fun a hF => ?_
   refine guard_on hF rfl rfl hbv_25 ?_
   refine step hF (Y.neq hF rfl rfl) rfl fun a hF => ?_
   refine step hF (Y.pick_f hF rfl hbv_25 rfl) rfl fun a hF => ?_
   exact nT ⟨hF.weak ⟨rfl, rfl, rfl, rfl, rfl, rfl, rfl, rfl, rfl, rfl, rfl, rfl, (by rw [hbv_25]; rfl), trivial⟩, hS.weak (AL rfl)⟩
 intro a w hF hS
 refine step hF (Y.move hF rfl) rfl fun a hF => ?_
 refine join (N := 527) (rs := []) (w0 := w0) (D0 := D0) 3 (us := [(0, .bool sv_2), (27, .pointer (some ⟨b_24, 0, none⟩)), (29, iv rv_29.2), (31, iv rv_31.2), (33, iv rv_32.2), (35, iv rv_33.2), (37, iv rv_34.2), (39, iv rv_35.2), (41, iv rv_36.2), (43, iv rv_37.2), (45, iv rv_38.2), (389, .bool (((((((((((rv_29.2 != 71) || (rv_31.2 != 71)) || (rv_32.2 != 71)) || (rv_33.2 != 71)) || (rv_34.2 != 71)) || (rv_35.2 != 72)) || (rv_36.2 != 72)) || (rv_37.2 != 72)) || (rv_38.2 != 72)) || (rv_39.2 != 72)) || (rv_40.2 != 72)))]) (ms := [(50, .cells b_24 [iv rv_27.Ring, .slice p_543 rv_27.Starts.length c_500, .slice p_544 rv_27.Events.length c_501] 25), (55, .cells b_25 [iv rv_33.1.Pre, iv rv_33.1.Home, iv rv_33.1.First, iv rv_33.1.Send] 49), (56, .cells b_26 [iv rv_36.1.Low, iv rv_36.1.High] 33), (57, .cells b_27 [iv rv_39.1.Pre, iv rv_39.1.Home, iv rv_39.1.First, iv rv_39.1.Send] 49)]) (D' := Dv_307) ?_ ?_
 ·rcases bcases ((((((((((rv_29.2 != 71) || (rv_31.2 != 71)) || (rv_32.2 != 71)) || (rv_33.2 != 71)) || (rv_34.2 != 71)) || (rv_35.2 != 72)) || (rv_36.2 != 72)) || (rv_37.2 != 72)) || (rv_38.2 != 72)) || (rv_39.2 != 72)) with hbv_26 | hbv_26
  ·-- true
   refine guard_off hF rfl rfl hbv_26 rfl fun a hF => ?_
   refine guard_off hF rfl rfl hbv_26 rfl fun a hF => ?_
   refine step hF (Y.pick_t hF rfl hbv_26 rfl) rfl fun a hF => ?_
   exact nT ⟨hF.weak ⟨rfl, rfl, rfl, rfl, rfl, rfl, rfl, rfl, rfl, rfl, rfl, (by rw [hbv_26]; rfl), trivial⟩, hS.weak (AL rfl)⟩
  ·-- false
   refine guard_on hF rfl rfl hbv_26 ?_
   refine step hF (Y.move hF rfl) rfl fun a hF => ?_
   refine guard_on hF rfl rfl hbv_26 ?_
   refine step hF (Y.neq hF rfl rfl) rfl fun a hF => ?_
   refine step hF (Y.pick_f hF rfl hbv_26 rfl) rfl fun a hF => ?_
   exact nT ⟨hF.weak ⟨rfl, rfl, rfl, rfl, rfl, rfl, rfl, rfl, rfl, rfl, rfl, (by rw [hbv_26]; rfl), trivial⟩, hS.weak (AL rfl)⟩
 intro a w hF hS
 refine nT ?_
 refine cond_b hF rfl (fun hbv_27 => ?_) (fun hbv_27 => ?_)
 ·replace h := ncond_t h hbv_27
  refine seq ?_
  refine region ?_
  refine step hF (Y.assign hF rfl) rfl fun a hF => ?_
  refine nT ?_
  refine ret_ (then_r ?_)
  exact leavePN _ (nret h) Tryd.results15 hF hS (.cons (.tmp rfl) .nil) .nil rfl
 ·replace h := ncond_f h hbv_27
  refine skip_ (then_n ?_)
  refine seq ?_
  refine region ?_
  replace h := ndet h
  obtain ⟨rv_41, hx_52, h⟩ := h
  refine O.callM (us := [.slice none 0 0]) ca_55 hF (w7line_keep hS.stab ([] : List Int) SRc.nil rv_41 hx_52) rfl rfl fun v_219 Dv_308 a w hK_211 hlev_306 hF => ?_
  replace hG := hG.mono hlev_306
  replace hs_501 := hs_501.mono hlev_306
  replace hs_502 := hs_502.mono hlev_306
  obtain ⟨p_552, c_509, cs_471, p_553, c_510, cs_472, hS2_211, rfl, hr_529, hr_530⟩ := hK_211
  replace hS := hS.join hS2_211
  replace hS := hS.move 58 900 rfl (by decide)
  replace hS := hS.move 59 901 rfl (by decide)
  replace hS := hS.weak (ms := [(50, .cells b_24 [iv rv_27.Ring, .slice p_543 rv_27.Starts.length c_500, .slice p_544 rv_27.Events.length c_501] 25), (55, .cells b_25 [iv rv_33.1.Pre, iv rv_33.1.Home, iv rv_33.1.First, iv rv_33.1.Send] 49), (56, .cells b_26 [iv rv_36.1.Low, iv rv_36.1.High] 33), (57, .cells b_27 [iv rv_39.1.Pre, iv rv_39.1.Home, iv rv_39.1.First, iv rv_39.1.Send] 49), (58, .own p_552 rv_41.Starts.length c_509 cs_471 57 2), (59, .own p_553 rv_41.Events.length c_510 cs_472 66 6)]) (AL rfl)
  refine O.alloc 60 zc_25 hF hS rfl fun b_28 a w hF hS => ?_
  replace hS := hS.ownNil 61 66 6
  refine O.store (us := [iv rv_41.Ring, .slice p_552 rv_41.Starts.length c_509, .slice p_553 rv_41.Events.length c_510]) 60 sz_25 hF rfl rfl rfl rfl hS rfl rfl fun a w hF hS => ?_
  refine nT ?_
  refine seq ?_
  refine region ?_
  refine step hF (Y.fieldAddr fo_25_2 hF rfl) rfl fun a hF => ?_
  refine step hF (Y.load1L 60 sz_23 hF rfl hS rfl rfl) rfl fun a hF => ?_
  refine step hF (Y.build (parts := [(0, (.const (iv 1))), (2, (.const (iv 10))), (3, (.const (iv 1)))]) (cs := #[iv 1, iv 0, iv 10, iv 1, iv 0, iv 0]) hF rfl (by kernel_rfl)) rfl fun a hF => ?_
  have hr_531 : Reps C_SlaveEvent Dv_308 [(SlaveEvent.mk 1 0 10 1 0 0)] [iv 1, iv 0, iv 10, iv 1, iv 0, iv 0] := Reps.cons (C := C_SlaveEvent) (x := (SlaveEvent.mk 1 0 10 1 0 0)) (c := [iv 1, iv 0, iv 10, iv 1, iv 0, iv 0]) (r := []) rfl (Reps.nil)
  refine O.buildSlice (E := 66) (C := C_SlaveEvent) (xs := [(SlaveEvent.mk 1 0 10 1 0 0)]) (cs := [iv 1, iv 0, iv 10, iv 1, iv 0, iv 0]) (us := [.agg #[iv 1, iv 0, iv 10, iv 1, iv 0, iv 0]]) (parts := [(0, (.tmp 393))]) 62 hF hS rfl (by kernel_rfl) hr_531 rfl rfl rfl fun p_554 c_511 a w hF hS => ?_
  replace h := ngrd h
  obtain ⟨hg_1, h⟩ := h
  refine O.append (C := C_SlaveEvent) (xs := rv_41.Events) (ys := [(SlaveEvent.mk 1 0 10 1 0 0)]) 59 gr_23 hF rfl rfl hS rfl (src_own (i := 62) hS rfl) hr_530 hr_531 hg_1 rfl fun p_555 c_512 a w hF hS hr_532 => ?_
  refine step hF (Y.fieldAddr fo_25_2 hF rfl) rfl fun a hF => ?_
  refine O.store (us := [.slice p_555 (rv_41.Events ++ [(SlaveEvent.mk 1 0 10 1 0 0)]).length c_512]) 60 sz_23 hF rfl rfl rfl rfl hS rfl rfl fun a w hF hS => ?_
  refine nT ?_
  refine seq ?_
  refine region ?_
  have hr_533 : Reps C_int Dv_308 [0] [iv 0] := Reps.cons (C := C_int) (x := 0) (c := [iv 0]) (r := []) rfl (Reps.nil)
  refine O.buildSlice (E := 3) (C := C_int) (xs := [0]) (cs := [iv 0]) (us := [iv 0]) (parts := [(0, (.const (iv 0)))]) 63 hF hS rfl (by kernel_rfl) hr_533 rfl rfl rfl fun p_556 c_513 a w hF hS => ?_
  obtain ⟨Dv_309, hlev_307, hs_507, hS⟩ := hS.freezeC (C := C_int) (i := 63) (xs := [0]) rfl hr_533
  replace hG := hG.mono hlev_307
  replace hs_501 := hs_501.mono hlev_307
  replace hs_502 := hs_502.mono hlev_307
  replace hr_529 := hr_529.mono hlev_307
  replace hr_532 := hr_532.mono hlev_307
  replace h := ndet h
  obtain ⟨rv_42, hx_53, h⟩ := h
  refine O.callM (us := [.slice p_556 ([0]).length c_513]) ca_55 hF (w7line_keep hS.stab ([0]) hs_507 rv_42 hx_53) rfl rfl fun v_220 Dv_310 a w hK_212 hlev_308 hF => ?_
  replace hG := hG.mono hlev_308
  replace hs_501 := hs_501.mono hlev_308
  replace hs_502 := hs_502.mono hlev_308
  replace hr_529 := hr_529.mono hlev_308
  replace hr_532 := hr_532.mono hlev_308
  obtain ⟨p_557, c_514, cs_473, p_558, c_515, cs_474, hS2_212, rfl, hr_534, hr_535⟩ := hK_212
  replace hS := hS.join hS2_212
  replace hS := hS.move 64 900 rfl (by decide)
  replace hS := hS.move 65 901 rfl (by decide)
  replace hS := hS.weak (ms := [(50, .cells b_24 [iv rv_27.Ring, .slice p_543 rv_27.Starts.length c_500, .slice p_544 rv_27.Events.length c_501] 25), (55, .cells b_25 [iv rv_33.1.Pre, iv rv_33.1.Home, iv rv_33.1.First, iv rv_33.1.Send] 49), (56, .cells b_26 [iv rv_36.1.Low, iv rv_36.1.High] 33), (57, .cells b_27 [iv rv_39.1.Pre, iv rv_39.1.Home, iv rv_39.1.First, iv rv_39.1.Send] 49), (58, .own p_552 rv_41.Starts.length c_509 cs_471 57 2), (59, .own p_555 (rv_41.Events ++ [(SlaveEvent.mk 1 0 10 1 0 0)]).length c_512 (cs_472 ++ [iv 1, iv 0, iv 10, iv 1, iv 0, iv 0]) 66 6), (60, .cells b_28 [iv rv_41.Ring, .slice p_552 rv_41.Starts.length c_509, .slice p_555 (rv_41.Events ++ [(SlaveEvent.mk 1 0 10 1 0 0)]).length c_512] 25), (61, .own none ([] : List SlaveEvent).length 0 ([]) 66 6), (62, .own p_554 ([(SlaveEvent.mk 1 0 10 1 0 0)]).length c_511 ([iv 1, iv 0, iv 10, iv 1, iv 0, iv 0]) 66 6), (64, .own p_557 rv_42.Starts.length c_514 cs_473 57 2), (65, .own p_558 rv_42.Events.length c_515 cs_474 66 6)]) (AL rfl)
  obtain ⟨Dv_311, hlev_309, hs_510, hS⟩ := hS.freezeC (C := C_SlaveStart) (i := 64) (xs := rv_42.Starts) rfl hr_534
  replace hG := hG.mono hlev_309
  replace hs_501 := hs_501.mono hlev_309
  replace hs_502 := hs_502.mono hlev_309
  replace hr_529 := hr_529.mono hlev_309
  replace hr_532 := hr_532.mono hlev_309
  replace hr_535 := hr_535.mono hlev_309
  obtain ⟨Dv_312, hlev_310, hs_511, hS⟩ := hS.freezeC (C := C_SlaveEvent) (i := 65) (xs := rv_42.Events) rfl hr_535
  replace hG := hG.mono hlev_310
  replace hs_501 := hs_501.mono hlev_310
  replace hs_502 := hs_502.mono hlev_310
  replace hr_529 := hr_529.mono hlev_310
  replace hr_532 := hr_532.mono hlev_310
  replace hs_510 := hs_510.mono hlev_310
  obtain ⟨KQ_19, hx_54, hk_19⟩ := nbnd_ex h
  refine O.callSN (us := [.agg #[iv rv_42.Ring, .slice p_557 rv_42.Starts.length c_514, .slice p_558 rv_42.Events.length c_515], iv 0]) ca_16 hF hS (slave_Can_ok hS.stab rv_42 0 hs_510 hs_511 hG KQ_19 hx_54) rfl rfl fun rv_43 h v_221 Dv_313 a w hR_8 hlev_311 hF hS => ?_
  replace h := hk_19 _ h
  replace hG := hG.mono hlev_311
  replace hs_501 := hs_501.mono hlev_311
  replace hs_502 := hs_502.mono hlev_311
  replace hr_529 := hr_529.mono hlev_311
  replace hr_532 := hr_532.mono hlev_311
  obtain ⟨p_559, c_516, rfl, hs_512⟩ := hR_8
  refine step hF (Y.move hF rfl) rfl fun a hF => ?_
  refine step hF (Y.extract hF rfl rfl) rfl fun a hF => ?_
  refine step hF (Y.extract hF rfl rfl) rfl fun a hF => ?_
  refine step hF (Y.assign hF rfl) rfl fun a hF => ?_
  refine step hF (Y.assign hF rfl) rfl fun a hF => ?_
  refine nT ?_
  refine seq ?_
  refine region ?_
  replace h := ndet h
  obtain ⟨rv_44, hx_55, h⟩ := h
  refine O.callM (us := [.slice none 0 0]) ca_55 hF (w7line_keep hS.stab ([] : List Int) SRc.nil rv_44 hx_55) rfl rfl fun v_222 Dv_314 a w hK_213 hlev_312 hF => ?_
  replace hG := hG.mono hlev_312
  replace hs_501 := hs_501.mono hlev_312
  replace hs_502 := hs_502.mono hlev_312
  replace hr_529 := hr_529.mono hlev_312
  replace hr_532 := hr_532.mono hlev_312
  replace hs_512 := hs_512.mono hlev_312
  obtain ⟨p_560, c_517, cs_475, p_561, c_518, cs_476, hS2_213, rfl, hr_536, hr_537⟩ := hK_213
  replace hS := hS.join hS2_213
  replace hS := hS.move 66 900 rfl (by decide)
  replace hS := hS.move 67 901 rfl (by decide)
  replace hS := hS.weak (ms := [(50, .cells b_24 [iv rv_27.Ring, .slice p_543 rv_27.Starts.length c_500, .slice p_544 rv_27.Events.length c_501] 25), (55, .cells b_25 [iv rv_33.1.Pre, iv rv_33.1.Home, iv rv_33.1.First, iv rv_33.1.Send] 49), (56, .cells b_26 [iv rv_36.1.Low, iv rv_36.1.High] 33), (57, .cells b_27 [iv rv_39.1.Pre, iv rv_39.1.Home, iv rv_39.1.First, iv rv_39.1.Send] 49), (58, .own p_552 rv_41.Starts.length c_509 cs_471 57 2), (59, .own p_555 (rv_41.Events ++ [(SlaveEvent.mk 1 0 10 1 0 0)]).length c_512 (cs_472 ++ [iv 1, iv 0, iv 10, iv 1, iv 0, iv 0]) 66 6), (60, .cells b_28 [iv rv_41.Ring, .slice p_552 rv_41.Starts.length c_509, .slice p_555 (rv_41.Events ++ [(SlaveEvent.mk 1 0 10 1 0 0)]).length c_512] 25), (61, .own none ([] : List SlaveEvent).length 0 ([]) 66 6), (62, .own p_554 ([(SlaveEvent.mk 1 0 10 1 0 0)]).length c_511 ([iv 1, iv 0, iv 10, iv 1, iv 0, iv 0]) 66 6), (66, .own p_560 rv_44.Starts.length c_517 cs_475 57 2), (67, .own p_561 rv_44.Events.length c_518 cs_476 66 6)]) (AL rfl)
  obtain ⟨Dv_315, hlev_313, hs_515, hS⟩ := hS.freezeC (C := C_SlaveStart) (i := 66) (xs := rv_44.Starts) rfl hr_536
  replace hG := hG.mono hlev_313
  replace hs_501 := hs_501.mono hlev_313
  replace hs_502 := hs_502.mono hlev_313
  replace hr_529 := hr_529.mono hlev_313
  replace hr_532 := hr_532.mono hlev_313
  replace hs_512 := hs_512.mono hlev_313
  replace hr_537 := hr_537.mono hlev_313
  obtain ⟨Dv_316, hlev_314, hs_516, hS⟩ := hS.freezeC (C := C_SlaveEvent) (i := 67) (xs := rv_44.Events) rfl hr_537
  replace hG := hG.mono hlev_314
  replace hs_501 := hs_501.mono hlev_314
  replace hs_502 := hs_502.mono hlev_314
  replace hr_529 := hr_529.mono hlev_314
  replace hr_532 := hr_532.mono hlev_314
  replace hs_512 := hs_512.mono hlev_314
  replace hs_515 := hs_515.mono hlev_314
  obtain ⟨KQ_20, hx_56, hk_20⟩ := nbnd_ex h
  refine O.callPN (us := [.agg #[iv rv_44.Ring, .slice p_560 rv_44.Starts.length c_517, .slice p_561 rv_44.Events.length c_518], iv 0]) ca_21 hF hS (slave_Lost_ok hS.stab rv_44 0 hs_515 hs_516 hG KQ_20 hx_56) rfl rfl fun rv_45 h a w hF hS => ?_
  replace h := hk_20 _ h
  refine step hF (Y.move hF rfl) rfl fun a hF => ?_
  refine step hF (Y.extract hF rfl rfl) rfl fun a hF => ?_
  refine step hF (Y.extract hF rfl rfl) rfl fun a hF => ?_
  refine O.alloc 68 zc_33 hF hS rfl fun b_29 a w hF hS => ?_
  refine O.store (us := [iv rv_45.1.Low, iv rv_45.1.High]) 68 sz_33 hF rfl rfl rfl rfl hS rfl rfl fun a w hF hS => ?_
  refine step hF (Y.assign hF rfl) rfl fun a hF => ?_
  refine nT ?_
  refine seq ?_
  refine region ?_
  refine step hF (Y.loadNL 50 sz_25 hF rfl hS rfl rfl rfl) rfl fun a hF => ?_
  obtain ⟨KQ_21, hx_57, hk_21⟩ := nbnd_ex h
  refine O.callSN (us := [.agg #[iv rv_27.Ring, .slice p_543 rv_27.Starts.length c_500, .slice p_544 rv_27.Events.length c_501]]) ca_28 hF hS (slave_Wrong_ok hS.stab rv_27 hs_501 hs_502 hG KQ_21 hx_57) rfl rfl fun rv_46 h v_223 Dv_317 a w hR_9 hlev_315 hF hS => ?_
  replace h := hk_21 _ h
  replace hG := hG.mono hlev_315
  replace hr_529 := hr_529.mono hlev_315
  replace hr_532 := hr_532.mono hlev_315
  replace hs_512 := hs_512.mono hlev_315
  obtain ⟨p_562, c_519, rfl, hs_517⟩ := hR_9
  refine step hF (Y.move hF rfl) rfl fun a hF => ?_
  refine step hF (Y.extract hF rfl rfl) rfl fun a hF => ?_
  refine step hF (Y.extract hF rfl rfl) rfl fun a hF => ?_
  refine step hF (Y.assign hF rfl) rfl fun a hF => ?_
  refine step hF (Y.assign hF rfl) rfl fun a hF => ?_
  refine nT ?_
  refine seq ?_
  refine region ?_
  replace h := ndet h
  obtain ⟨rv_47, hx_58, h⟩ := h
  refine O.callM (us := [.slice none 0 0]) ca_55 hF (w7line_keep hS.stab ([] : List Int) SRc.nil rv_47 hx_58) rfl rfl fun v_224 Dv_318 a w hK_214 hlev_316 hF => ?_
  replace hG := hG.mono hlev_316
  replace hr_529 := hr_529.mono hlev_316
  replace hr_532 := hr_532.mono hlev_316
  replace hs_512 := hs_512.mono hlev_316
  replace hs_517 := hs_517.mono hlev_316
  obtain ⟨p_563, c_520, cs_477, p_564, c_521, cs_478, hS2_214, rfl, hr_538, hr_539⟩ := hK_214
  replace hS := hS.join hS2_214
  replace hS := hS.move 69 900 rfl (by decide)
  replace hS := hS.move 70 901 rfl (by decide)
  replace hS := hS.weak (ms := [(50, .cells b_24 [iv rv_27.Ring, .slice p_543 rv_27.Starts.length c_500, .slice p_544 rv_27.Events.length c_501] 25), (55, .cells b_25 [iv rv_33.1.Pre, iv rv_33.1.Home, iv rv_33.1.First, iv rv_33.1.Send] 49), (56, .cells b_26 [iv rv_36.1.Low, iv rv_36.1.High] 33), (57, .cells b_27 [iv rv_39.1.Pre, iv rv_39.1.Home, iv rv_39.1.First, iv rv_39.1.Send] 49), (58, .own p_552 rv_41.Starts.length c_509 cs_471 57 2), (59, .own p_555 (rv_41.Events ++ [(SlaveEvent.mk 1 0 10 1 0 0)]).length c_512 (cs_472 ++ [iv 1, iv 0, iv 10, iv 1, iv 0, iv 0]) 66 6), (60, .cells b_28 [iv rv_41.Ring, .slice p_552 rv_41.Starts.length c_509, .slice p_555 (rv_41.Events ++ [(SlaveEvent.mk 1 0 10 1 0 0)]).length c_512] 25), (61, .own none ([] : List SlaveEvent).length 0 ([]) 66 6), (62, .own p_554 ([(SlaveEvent.mk 1 0 10 1 0 0)]).length c_511 ([iv 1, iv 0, iv 10, iv 1, iv 0, iv 0]) 66 6), (68, .cells b_29 [iv rv_45.1.Low, iv rv_45.1.High] 33), (69, .own p_563 rv_47.Starts.length c_520 cs_477 57 2), (70, .own p_564 rv_47.Events.length c_521 cs_478 66 6)]) (AL rfl)
  obtain ⟨Dv_319, hlev_317, hs_520, hS⟩ := hS.freezeC (C := C_SlaveStart) (i := 69) (xs := rv_47.Starts) rfl hr_538
  replace hG := hG.mono hlev_317
  replace hr_529 := hr_529.mono hlev_317
  replace hr_532 := hr_532.mono hlev_317
  replace hs_512 := hs_512.mono hlev_317
  replace hs_517 := hs_517.mono hlev_317
  replace hr_539 := hr_539.mono hlev_317
  obtain ⟨Dv_320, hlev_318, hs_521, hS⟩ := hS.freezeC (C := C_SlaveEvent) (i := 70) (xs := rv_47.Events) rfl hr_539
  replace hG := hG.mono hlev_318
  replace hr_529 := hr_529.mono hlev_318
  replace hr_532 := hr_532.mono hlev_318
  replace hs_512 := hs_512.mono hlev_318
  replace hs_517 := hs_517.mono hlev_318
  replace hs_520 := hs_520.mono hlev_318
  obtain ⟨KQ_22, hx_59, hk_22⟩ := nbnd_ex h
  refine O.callPN (us := [.agg #[iv rv_47.Ring, .slice p_563 rv_47.Starts.length c_520, .slice p_564 rv_47.Events.length c_521], iv 0]) ca_34 hF hS (slave_Set_ok hS.stab rv_47 0 hs_520 hs_521 hG KQ_22 hx_59) rfl rfl fun rv_48 h a w hF hS => ?_
  replace h := hk_22 _ h
  refine step hF (Y.move hF rfl) rfl fun a hF => ?_
  refine step hF (Y.extract hF rfl rfl) rfl fun a hF => ?_
  refine step hF (Y.extract hF rfl rfl) rfl fun a hF => ?_
  refine O.alloc 71 zc_49 hF hS rfl fun b_30 a w hF hS => ?_
  refine O.store (us := [iv rv_48.1.Pre, iv rv_48.1.Home, iv rv_48.1.First, iv rv_48.1.Send]) 71 sz_49 hF rfl rfl rfl rfl hS rfl rfl fun a w hF hS => ?_
  refine step hF (Y.assign hF rfl) rfl fun a hF => ?_
  refine nT ?_
  refine seq ?_
  refine region ?_
  have hr_540 : Reps C_int Dv_320 [0] [iv 0] := Reps.cons (C := C_int) (x := 0) (c := [iv 0]) (r := []) rfl (Reps.nil)
  refine O.buildSlice (E := 3) (C := C_int) (xs := [0]) (cs := [iv 0]) (us := [iv 0]) (parts := [(0, (.const (iv 0)))]) 72 hF hS rfl (by kernel_rfl) hr_540 rfl rfl rfl fun p_565 c_522 a w hF hS => ?_
  obtain ⟨Dv_321, hlev_319, hs_522, hS⟩ := hS.freezeC (C := C_int) (i := 72) (xs := [0]) rfl hr_540
  replace hG := hG.mono hlev_319
  replace hr_529 := hr_529.mono hlev_319
  replace hr_532 := hr_532.mono hlev_319
  replace hs_512 := hs_512.mono hlev_319
  replace hs_517 := hs_517.mono hlev_319
  replace h := ndet h
  obtain ⟨rv_49, hx_60, h⟩ := h
  refine O.callM (us := [.slice p_565 ([0]).length c_522]) ca_55 hF (w7line_keep hS.stab ([0]) hs_522 rv_49 hx_60) rfl rfl fun v_225 Dv_322 a w hK_215 hlev_320 hF => ?_
  replace hG := hG.mono hlev_320
  replace hr_529 := hr_529.mono hlev_320
  replace hr_532 := hr_532.mono hlev_320
  replace hs_512 := hs_512.mono hlev_320
  replace hs_517 := hs_517.mono hlev_320
  obtain ⟨p_566, c_523, cs_479, p_567, c_524, cs_480, hS2_215, rfl, hr_541, hr_542⟩ := hK_215
  replace hS := hS.join hS2_215
  replace hS := hS.move 73 900 rfl (by decide)
  replace hS := hS.move 74 901 rfl (by decide)
  replace hS := hS.weak (ms := [(50, .cells b_24 [iv rv_27.Ring, .slice p_543 rv_27.Starts.length c_500, .slice p_544 rv_27.Events.length c_501] 25), (55, .cells b_25 [iv rv_33.1.Pre, iv rv_33.1.Home, iv rv_33.1.First, iv rv_33.1.Send] 49), (56, .cells b_26 [iv rv_36.1.Low, iv rv_36.1.High] 33), (57, .cells b_27 [iv rv_39.1.Pre, iv rv_39.1.Home, iv rv_39.1.First, iv rv_39.1.Send] 49), (58, .own p_552 rv_41.Starts.length c_509 cs_471 57 2), (59, .own p_555 (rv_41.Events ++ [(SlaveEvent.mk 1 0 10 1 0 0)]).length c_512 (cs_472 ++ [iv 1, iv 0, iv 10, iv 1, iv 0, iv 0]) 66 6), (60, .cells b_28 [iv rv_41.Ring, .slice p_552 rv_41.Starts.length c_509, .slice p_555 (rv_41.Events ++ [(SlaveEvent.mk 1 0 10 1 0 0)]).length c_512] 25), (61, .own none ([] : List SlaveEvent).length 0 ([]) 66 6), (62, .own p_554 ([(SlaveEvent.mk 1 0 10 1 0 0)]).length c_511 ([iv 1, iv 0, iv 10, iv 1, iv 0, iv 0]) 66 6), (68, .cells b_29 [iv rv_45.1.Low, iv rv_45.1.High] 33), (71, .cells b_30 [iv rv_48.1.Pre, iv rv_48.1.Home, iv rv_48.1.First, iv rv_48.1.Send] 49), (73, .own p_566 rv_49.Starts.length c_523 cs_479 57 2), (74, .own p_567 rv_49.Events.length c_524 cs_480 66 6)]) (AL rfl)
  obtain ⟨Dv_323, hlev_321, hs_525, hS⟩ := hS.freezeC (C := C_SlaveStart) (i := 73) (xs := rv_49.Starts) rfl hr_541
  replace hG := hG.mono hlev_321
  replace hr_529 := hr_529.mono hlev_321
  replace hr_532 := hr_532.mono hlev_321
  replace hs_512 := hs_512.mono hlev_321
  replace hs_517 := hs_517.mono hlev_321
  replace hr_542 := hr_542.mono hlev_321
  obtain ⟨Dv_324, hlev_322, hs_526, hS⟩ := hS.freezeC (C := C_SlaveEvent) (i := 74) (xs := rv_49.Events) rfl hr_542
  replace hG := hG.mono hlev_322
  replace hr_529 := hr_529.mono hlev_322
  replace hr_532 := hr_532.mono hlev_322
  replace hs_512 := hs_512.mono hlev_322
  replace hs_517 := hs_517.mono hlev_322
  replace hs_525 := hs_525.mono hlev_322
  obtain ⟨KQ_23, hx_61, hk_23⟩ := nbnd_ex h
  refine O.callPN (us := [.agg #[iv rv_49.Ring, .slice p_566 rv_49.Starts.length c_523, .slice p_567 rv_49.Events.length c_524], iv 5]) ca_34 hF hS (slave_Set_ok hS.stab rv_49 5 hs_525 hs_526 hG KQ_23 hx_61) rfl rfl fun rv_50 h a w hF hS => ?_
  replace h := hk_23 _ h
  refine step hF (Y.move hF rfl) rfl fun a hF => ?_
  refine step hF (Y.extract hF rfl rfl) rfl fun a hF => ?_
  refine step hF (Y.extract hF rfl rfl) rfl fun a hF => ?_
  refine O.alloc 75 zc_49 hF hS rfl fun b_31 a w hF hS => ?_
  refine O.store (us := [iv rv_50.1.Pre, iv rv_50.1.Home, iv rv_50.1.First, iv rv_50.1.Send]) 75 sz_49 hF rfl rfl rfl rfl hS rfl rfl fun a w hF hS => ?_
  refine step hF (Y.assign hF rfl) rfl fun a hF => ?_
  refine nT ?_
  refine seq ?_
  refine region ?_
  replace h := ndet h
  obtain ⟨rv_51, hx_62, h⟩ := h
  refine O.callM (us := [.slice none 0 0]) ca_55 hF (w7line_keep hS.stab ([] : List Int) SRc.nil rv_51 hx_62) rfl rfl fun v_226 Dv_325 a w hK_216 hlev_323 hF => ?_
  replace hG := hG.mono hlev_323
  replace hr_529 := hr_529.mono hlev_323
  replace hr_532 := hr_532.mono hlev_323
  replace hs_512 := hs_512.mono hlev_323
  replace hs_517 := hs_517.mono hlev_323
  obtain ⟨p_568, c_525, cs_481, p_569, c_526, cs_482, hS2_216, rfl, hr_543, hr_544⟩ := hK_216
  replace hS := hS.join hS2_216
  replace hS := hS.move 76 900 rfl (by decide)
  replace hS := hS.move 77 901 rfl (by decide)
  replace hS := hS.weak (ms := [(50, .cells b_24 [iv rv_27.Ring, .slice p_543 rv_27.Starts.length c_500, .slice p_544 rv_27.Events.length c_501] 25), (55, .cells b_25 [iv rv_33.1.Pre, iv rv_33.1.Home, iv rv_33.1.First, iv rv_33.1.Send] 49), (56, .cells b_26 [iv rv_36.1.Low, iv rv_36.1.High] 33), (57, .cells b_27 [iv rv_39.1.Pre, iv rv_39.1.Home, iv rv_39.1.First, iv rv_39.1.Send] 49), (58, .own p_552 rv_41.Starts.length c_509 cs_471 57 2), (59, .own p_555 (rv_41.Events ++ [(SlaveEvent.mk 1 0 10 1 0 0)]).length c_512 (cs_472 ++ [iv 1, iv 0, iv 10, iv 1, iv 0, iv 0]) 66 6), (60, .cells b_28 [iv rv_41.Ring, .slice p_552 rv_41.Starts.length c_509, .slice p_555 (rv_41.Events ++ [(SlaveEvent.mk 1 0 10 1 0 0)]).length c_512] 25), (61, .own none ([] : List SlaveEvent).length 0 ([]) 66 6), (62, .own p_554 ([(SlaveEvent.mk 1 0 10 1 0 0)]).length c_511 ([iv 1, iv 0, iv 10, iv 1, iv 0, iv 0]) 66 6), (68, .cells b_29 [iv rv_45.1.Low, iv rv_45.1.High] 33), (71, .cells b_30 [iv rv_48.1.Pre, iv rv_48.1.Home, iv rv_48.1.First, iv rv_48.1.Send] 49), (75, .cells b_31 [iv rv_50.1.Pre, iv rv_50.1.Home, iv rv_50.1.First, iv rv_50.1.Send] 49), (76, .own p_568 rv_51.Starts.length c_525 cs_481 57 2), (77, .own p_569 rv_51.Events.length c_526 cs_482 66 6)]) (AL rfl)
  obtain ⟨Dv_326, hlev_324, hs_529, hS⟩ := hS.freezeC (C := C_SlaveStart) (i := 76) (xs := rv_51.Starts) rfl hr_543
  replace hG := hG.mono hlev_324
  replace hr_529 := hr_529.mono hlev_324
  replace hr_532 := hr_532.mono hlev_324
  replace hs_512 := hs_512.mono hlev_324
  replace hs_517 := hs_517.mono hlev_324
  replace hr_544 := hr_544.mono hlev_324
  obtain ⟨Dv_327, hlev_325, hs_530, hS⟩ := hS.freezeC (C := C_SlaveEvent) (i := 77) (xs := rv_51.Events) rfl hr_544
  replace hG := hG.mono hlev_325
  replace hr_529 := hr_529.mono hlev_325
  replace hr_532 := hr_532.mono hlev_325
  replace hs_512 := hs_512.mono hlev_325
  replace hs_517 := hs_517.mono hlev_325
  replace hs_529 := hs_529.mono hlev_325
  obtain ⟨KQ_24, hx_63, hk_24⟩ := nbnd_ex h
  refine O.callPN (us := [.agg #[iv rv_51.Ring, .slice p_568 rv_51.Starts.length c_525, .slice p_569 rv_51.Events.length c_526], iv 0]) ca_30 hF hS (slave_Homes_ok hS.stab rv_51 0 hs_529 hs_530 hG KQ_24 hx_63) rfl rfl fun rv_52 h a w hF hS => ?_
  replace h := hk_24 _ h
  refine step hF (Y.move hF rfl) rfl fun a hF => ?_
  refine step hF (Y.extract hF rfl rfl) rfl fun a hF => ?_
  refine step hF (Y.extract hF rfl rfl) rfl fun a hF => ?_
  refine step hF (Y.assign hF rfl) rfl fun a hF => ?_
  refine step hF (Y.assign hF rfl) rfl fun a hF => ?_
  refine nT ?_
  refine seq ?_
  refine region ?_
  refine step hF (Y.loadNL 60 sz_25 hF rfl hS rfl rfl rfl) rfl fun a hF => ?_
  obtain ⟨Dv_328, hlev_326, hs_531, hS⟩ := hS.freezeC (C := C_SlaveStart) (i := 58) (xs := rv_41.Starts) rfl hr_529
  replace hG := hG.mono hlev_326
  replace hr_532 := hr_532.mono hlev_326
  replace hs_512 := hs_512.mono hlev_326
  replace hs_517 := hs_517.mono hlev_326
  obtain ⟨Dv_329, hlev_327, hs_532, hS⟩ := hS.freezeC (C := C_SlaveEvent) (i := 59) (xs := (rv_41.Events ++ [(SlaveEvent.mk 1 0 10 1 0 0)])) rfl hr_532
  replace hG := hG.mono hlev_327
  replace hs_512 := hs_512.mono hlev_327
  replace hs_517 := hs_517.mono hlev_327
  replace hs_531 := hs_531.mono hlev_327
  obtain ⟨KQ_25, hx_64, hk_25⟩ := nbnd_ex h
  refine O.callSN (us := [.agg #[iv rv_41.Ring, .slice p_552 rv_41.Starts.length c_509, .slice p_555 (rv_41.Events ++ [(SlaveEvent.mk 1 0 10 1 0 0)]).length c_512], iv 0]) ca_16 hF hS (slave_Can_ok hS.stab (SlaveLine.mk rv_41.Ring rv_41.Starts (rv_41.Events ++ [(SlaveEvent.mk 1 0 10 1 0 0)])) 0 hs_531 hs_532 hG KQ_25 hx_64) rfl rfl fun rv_53 h v_227 Dv_330 a w hR_10 hlev_328 hF hS => ?_
  replace h := hk_25 _ h
  replace hG := hG.mono hlev_328
  replace hs_512 := hs_512.mono hlev_328
  replace hs_517 := hs_517.mono hlev_328
  obtain ⟨p_570, c_527, rfl, hs_533⟩ := hR_10
  refine step hF (Y.move hF rfl) rfl fun a hF => ?_
  refine step hF (Y.extract hF rfl rfl) rfl fun a hF => ?_
  refine step hF (Y.extract hF rfl rfl) rfl fun a hF => ?_
  refine step hF (Y.assign hF rfl) rfl fun a hF => ?_
  refine step hF (Y.assign hF rfl) rfl fun a hF => ?_
  refine nT ?_
  refine seq ?_
  refine region ?_
  replace h := ndet h
  obtain ⟨rv_54, hx_65, h⟩ := h
  refine O.callM (us := [.slice none 0 0]) ca_55 hF (w7line_keep hS.stab ([] : List Int) SRc.nil rv_54 hx_65) rfl rfl fun v_228 Dv_331 a w hK_217 hlev_329 hF => ?_
  replace hG := hG.mono hlev_329
  replace hs_512 := hs_512.mono hlev_329
  replace hs_517 := hs_517.mono hlev_329
  replace hs_533 := hs_533.mono hlev_329
  obtain ⟨p_571, c_528, cs_483, p_572, c_529, cs_484, hS2_217, rfl, hr_545, hr_546⟩ := hK_217
  replace hS := hS.join hS2_217
  replace hS := hS.move 78 900 rfl (by decide)
  replace hS := hS.move 79 901 rfl (by decide)
  replace hS := hS.weak (ms := [(50, .cells b_24 [iv rv_27.Ring, .slice p_543 rv_27.Starts.length c_500, .slice p_544 rv_27.Events.length c_501] 25), (55, .cells b_25 [iv rv_33.1.Pre, iv rv_33.1.Home, iv rv_33.1.First, iv rv_33.1.Send] 49), (56, .cells b_26 [iv rv_36.1.Low, iv rv_36.1.High] 33), (57, .cells b_27 [iv rv_39.1.Pre, iv rv_39.1.Home, iv rv_39.1.First, iv rv_39.1.Send] 49), (60, .cells b_28 [iv rv_41.Ring, .slice p_552 rv_41.Starts.length c_509, .slice p_555 (rv_41.Events ++ [(SlaveEvent.mk 1 0 10 1 0 0)]).length c_512] 25), (61, .own none ([] : List SlaveEvent).length 0 ([]) 66 6), (62, .own p_554 ([(SlaveEvent.mk 1 0 10 1 0 0)]).length c_511 ([iv 1, iv 0, iv 10, iv 1, iv 0, iv 0]) 66 6), (68, .cells b_29 [iv rv_45.1.Low, iv rv_45.1.High] 33), (71, .cells b_30 [iv rv_48.1.Pre, iv rv_48.1.Home, iv rv_48.1.First, iv rv_48.1.Send] 49), (75, .cells b_31 [iv rv_50.1.Pre, iv rv_50.1.Home, iv rv_50.1.First, iv rv_50.1.Send] 49), (78, .own p_571 rv_54.Starts.length c_528 cs_483 57 2), (79, .own p_572 rv_54.Events.length c_529 cs_484 66 6)]) (AL rfl)
  refine step hF (Y.build (parts := [(0, (.const (iv (-1)))), (1, (.const (iv 11))), (3, (.const (iv 5)))]) (cs := #[iv (-1), iv 11, iv 0, iv 5]) hF rfl (by kernel_rfl)) rfl fun a hF => ?_
  obtain ⟨Dv_332, hlev_330, hs_536, hS⟩ := hS.freezeC (C := C_SlaveStart) (i := 78) (xs := rv_54.Starts) rfl hr_545
  replace hG := hG.mono hlev_330
  replace hs_512 := hs_512.mono hlev_330
  replace hs_517 := hs_517.mono hlev_330
  replace hs_533 := hs_533.mono hlev_330
  replace hr_546 := hr_546.mono hlev_330
  obtain ⟨Dv_333, hlev_331, hs_537, hS⟩ := hS.freezeC (C := C_SlaveEvent) (i := 79) (xs := rv_54.Events) rfl hr_546
  replace hG := hG.mono hlev_331
  replace hs_512 := hs_512.mono hlev_331
  replace hs_517 := hs_517.mono hlev_331
  replace hs_533 := hs_533.mono hlev_331
  replace hs_536 := hs_536.mono hlev_331
  obtain ⟨KQ_26, hx_66, hk_26⟩ := nbnd_ex h
  refine O.callPN (us := [.agg #[iv rv_54.Ring, .slice p_571 rv_54.Starts.length c_528, .slice p_572 rv_54.Events.length c_529], iv 5, .agg #[iv (-1), iv 11, iv 0, iv 5]]) ca_32 hF hS (slave_Sets_ok hS.stab rv_54 5 (SlavePlan.mk (-1) 11 0 5) hs_536 hs_537 hG KQ_26 hx_66) rfl rfl fun rv_55 h a w hF hS => ?_
  replace h := hk_26 _ h
  refine step hF (Y.move hF rfl) rfl fun a hF => ?_
  refine step hF (Y.extract hF rfl rfl) rfl fun a hF => ?_
  refine step hF (Y.extract hF rfl rfl) rfl fun a hF => ?_
  refine step hF (Y.assign hF rfl) rfl fun a hF => ?_
  refine step hF (Y.assign hF rfl) rfl fun a hF => ?_
  refine nT ?_
  refine seq_cut (fun a w => ∃ (i_3 : Int) (nonev : Int), ∃ (Dv_334 : Stab), Dv_333.le Dv_334 ∧ Frm 527 [] [(0, .bool sv_2), (29, iv rv_43.2), (31, iv rv_45.2), (33, iv rv_46.2), (35, iv rv_48.2), (37, iv rv_50.2), (39, iv rv_52.2), (41, iv rv_53.2), (43, iv rv_55.2), (45, iv i_3), (51, .slice p_559 rv_43.1.length c_516), (52, .pointer (some ⟨b_29, 0, none⟩)), (53, .slice p_562 rv_46.1.length c_519), (54, .pointer (some ⟨b_30, 0, none⟩)), (55, .pointer (some ⟨b_31, 0, none⟩)), (56, iv rv_52.1), (57, .slice p_570 rv_53.1.length c_527), (58, .bool rv_55.1), (59, iv nonev)] a ∧ St w0 D0 Dv_334 [(50, .cells b_24 [iv rv_27.Ring, .slice p_543 rv_27.Starts.length c_500, .slice p_544 rv_27.Events.length c_501] 25), (55, .cells b_25 [iv rv_33.1.Pre, iv rv_33.1.Home, iv rv_33.1.First, iv rv_33.1.Send] 49), (56, .cells b_26 [iv rv_36.1.Low, iv rv_36.1.High] 33), (57, .cells b_27 [iv rv_39.1.Pre, iv rv_39.1.Home, iv rv_39.1.First, iv rv_39.1.Send] 49), (60, .cells b_28 [iv rv_41.Ring, .slice p_552 rv_41.Starts.length c_509, .slice p_555 (rv_41.Events ++ [(SlaveEvent.mk 1 0 10 1 0 0)]).length c_512] 25), (61, .own none ([] : List SlaveEvent).length 0 ([]) 66 6), (62, .own p_554 ([(SlaveEvent.mk 1 0 10 1 0 0)]).length c_511 ([iv 1, iv 0, iv 10, iv 1, iv 0, iv 0]) 66 6), (68, .cells b_29 [iv rv_45.1.Low, iv rv_45.1.High] 33), (71, .cells b_30 [iv rv_48.1.Pre, iv rv_48.1.Home, iv rv_48.1.First, iv rv_48.1.Send] 49), (75, .cells b_31 [iv rv_50.1.Pre, iv rv_50.1.Home, iv rv_50.1.First, iv rv_50.1.Send] 49)] w ∧ (w7SlaveKnown_k5 rv_43 rv_45 rv_46 rv_48 rv_50 rv_52 rv_53 rv_55 i_3 nonev) out) ?_ ?_
  ·skip
   refine region ?_
   have hr_553 : Reps C_int Dv_333 [0] [iv 0] := Reps.cons (C := C_int) (x := 0) (c := [iv 0]) (r := []) rfl (Reps.nil)
   refine O.buildSlice (E := 3) (C := C_int) (xs := [0]) (cs := [iv 0]) (us := [iv 0]) (parts := [(0, (.const (iv 0)))]) 86 hF hS rfl (by kernel_rfl) hr_553 rfl rfl rfl fun p_579 c_536 a w hF hS => ?_
   obtain ⟨Dv_349, hlev_347, hs_544, hS⟩ := hS.freezeC (C := C_int) (i := 86) (xs := [0]) rfl hr_553
   replace hG := hG.mono hlev_347
   replace hs_512 := hs_512.mono hlev_347
   replace hs_517 := hs_517.mono hlev_347
   replace hs_533 := hs_533.mono hlev_347
   replace h := ndet h
   obtain ⟨rv_68, hx_77, h⟩ := h
   refine O.callM (us := [.slice p_579 ([0]).length c_536]) ca_55 hF (w7line_keep hS.stab ([0]) hs_544 rv_68 hx_77) rfl rfl fun v_229 Dv_350 a w hK_218 hlev_348 hF => ?_
   replace hG := hG.mono hlev_348
   replace hs_512 := hs_512.mono hlev_348
   replace hs_517 := hs_517.mono hlev_348
   replace hs_533 := hs_533.mono hlev_348
   obtain ⟨p_580, c_537, cs_485, p_581, c_538, cs_486, hS2_218, rfl, hr_554, hr_555⟩ := hK_218
   replace hS := hS.join hS2_218
   replace hS := hS.move 87 900 rfl (by decide)
   replace hS := hS.move 88 901 rfl (by decide)
   replace hS := hS.weak (ms := [(50, .cells b_24 [iv rv_27.Ring, .slice p_543 rv_27.Starts.length c_500, .slice p_544 rv_27.Events.length c_501] 25), (55, .cells b_25 [iv rv_33.1.Pre, iv rv_33.1.Home, iv rv_33.1.First, iv rv_33.1.Send] 49), (56, .cells b_26 [iv rv_36.1.Low, iv rv_36.1.High] 33), (57, .cells b_27 [iv rv_39.1.Pre, iv rv_39.1.Home, iv rv_39.1.First, iv rv_39.1.Send] 49), (60, .cells b_28 [iv rv_41.Ring, .slice p_552 rv_41.Starts.length c_509, .slice p_555 (rv_41.Events ++ [(SlaveEvent.mk 1 0 10 1 0 0)]).length c_512] 25), (61, .own none ([] : List SlaveEvent).length 0 ([]) 66 6), (62, .own p_554 ([(SlaveEvent.mk 1 0 10 1 0 0)]).length c_511 ([iv 1, iv 0, iv 10, iv 1, iv 0, iv 0]) 66 6), (68, .cells b_29 [iv rv_45.1.Low, iv rv_45.1.High] 33), (71, .cells b_30 [iv rv_48.1.Pre, iv rv_48.1.Home, iv rv_48.1.First, iv rv_48.1.Send] 49), (75, .cells b_31 [iv rv_50.1.Pre, iv rv_50.1.Home, iv rv_50.1.First, iv rv_50.1.Send] 49), (87, .own p_580 rv_68.Starts.length c_537 cs_485 57 2), (88, .own p_581 rv_68.Events.length c_538 cs_486 66 6)]) (AL rfl)
   obtain ⟨Dv_351, hlev_349, hs_547, hS⟩ := hS.freezeC (C := C_SlaveStart) (i := 87) (xs := rv_68.Starts) rfl hr_554
   replace hG := hG.mono hlev_349
   replace hs_512 := hs_512.mono hlev_349
   replace hs_517 := hs_517.mono hlev_349
   replace hs_533 := hs_533.mono hlev_349
   replace hr_555 := hr_555.mono hlev_349
   obtain ⟨Dv_352, hlev_350, hs_548, hS⟩ := hS.freezeC (C := C_SlaveEvent) (i := 88) (xs := rv_68.Events) rfl hr_555
   replace hG := hG.mono hlev_350
   replace hs_512 := hs_512.mono hlev_350
   replace hs_517 := hs_517.mono hlev_350
   replace hs_533 := hs_533.mono hlev_350
   replace hs_547 := hs_547.mono hlev_350
   obtain ⟨KQ_31, hx_78, hk_31⟩ := nbnd_ex h
   refine O.callPN (us := [.agg #[iv rv_68.Ring, .slice p_580 rv_68.Starts.length c_537, .slice p_581 rv_68.Events.length c_538], iv 3]) ca_30 hF hS (slave_Homes_ok hS.stab rv_68 3 hs_547 hs_548 hG KQ_31 hx_78) rfl rfl fun rv_69 h a w hF hS => ?_
   replace h := hk_31 _ h
   refine step hF (Y.move hF rfl) rfl fun a hF => ?_
   refine step hF (Y.extract hF rfl rfl) rfl fun a hF => ?_
   refine step hF (Y.extract hF rfl rfl) rfl fun a hF => ?_
   refine step hF (Y.assign hF rfl) rfl fun a hF => ?_
   refine step hF (Y.assign hF rfl) rfl fun a hF => ?_
   refine nT ?_
   exact ⟨rv_69.2, rv_69.1, Dv_352, hlev_347.trans (hlev_348.trans (hlev_349.trans hlev_350)), hF.weak (AF rfl), hS.weak (AL rfl), h⟩
  ·rintro a w ⟨i_3, nonev, Dv_334, hlev_332, hF, hS, h⟩
   unfold w7SlaveKnown_k5 at h
   replace hG := hG.mono hlev_332
   replace hs_512 := hs_512.mono hlev_332
   replace hs_517 := hs_517.mono hlev_332
   replace hs_533 := hs_533.mono hlev_332
   refine seq ?_
   refine drawsV 82 w7SlaveKnown_tr6_0 mixed_ (drawOkF [(447, msk [29], msk []), (448, msk [446], msk [0]), (449, msk [447], msk [1]), (450, msk [51, 448], msk [2]), (451, msk [448], msk [2]), (452, msk [448, 449, 450], msk [2, 3, 4]), (453, msk [448, 451], msk [2, 5]), (454, msk [452], msk [5, 6]), (455, msk [31, 453], msk [7]), (456, msk [453, 454], msk [7, 8]), (457, msk [453, 455], msk [7, 9]), (458, msk [456], msk [7, 10]), (459, msk [52, 457], msk [11]), (460, msk [457], msk [11]), (461, msk [457, 458, 459], msk [11, 12, 13]), (462, msk [457, 460], msk [11, 14]), (463, msk [461], msk [13, 15]), (464, msk [33, 462], msk [16]), (465, msk [462, 463], msk [16, 17]), (466, msk [462, 464], msk [16, 18]), (467, msk [465], msk [16, 19]), (468, msk [53, 466], msk [20]), (469, msk [466], msk [20]), (470, msk [466, 467, 468], msk [20, 21, 22]), (471, msk [466, 469], msk [20, 23]), (472, msk [470], msk [23, 24]), (473, msk [35, 471], msk [25]), (474, msk [471, 472], msk [25, 26]), (475, msk [471, 473], msk [25, 27]), (476, msk [474], msk [25, 28]), (477, msk [54, 475], msk [29]), (478, msk [475], msk [29]), (479, msk [475, 476, 477], msk [29, 30, 31]), (480, msk [475, 478], msk [29, 32]), (481, msk [479], msk [29, 33]), (482, msk [37, 480], msk [34]), (483, msk [480, 481], msk [34, 35]), (484, msk [480, 482], msk [34, 36]), (485, msk [483], msk [34, 37]), (486, msk [55, 484], msk [38]), (487, msk [484], msk [38]), (488, msk [484, 485, 486], msk [38, 39, 40]), (489, msk [484, 487], msk [38, 41]), (490, msk [488], msk [38, 42]), (491, msk [39, 489], msk [43]), (492, msk [489, 490], msk [43, 44]), (493, msk [489, 491], msk [43, 45]), (494, msk [492], msk [43, 46]), (495, msk [56, 493], msk [47]), (496, msk [493, 494], msk [47, 48]), (497, msk [493, 495], msk [47, 49]), (498, msk [496], msk [47, 50]), (499, msk [41, 497], msk [51]), (500, msk [497, 498], msk [51, 52]), (501, msk [497, 499], msk [51, 53]), (502, msk [500], msk [51, 54]), (503, msk [57, 501], msk [55]), (504, msk [501], msk [55]), (505, msk [501, 502, 503], msk [55, 56, 57]), (506, msk [501, 504], msk [55, 58]), (507, msk [505], msk [58, 59]), (508, msk [43, 506], msk [60]), (509, msk [506, 507], msk [60, 61]), (510, msk [506, 508], msk [60, 62]), (511, msk [509], msk [60, 63]), (512, msk [58, 510], msk [64]), (513, msk [510, 511], msk [64, 65]), (514, msk [510, 512], msk [64, 66]), (515, msk [513], msk [64, 67]), (516, msk [45, 514], msk [68]), (517, msk [514, 515], msk [68, 69]), (518, msk [514, 516], msk [68, 70]), (519, msk [517], msk [68, 71]), (520, msk [59, 518], msk [72]), (521, msk [518, 519], msk [72, 73]), (522, msk [518, 520], msk [72, 74]), (523, msk [521], msk [72, 75]), (524, msk [522], msk [76]), (525, msk [523], msk [76, 77]), (526, msk [524], msk [78]), (527, msk [524, 525], msk [78, 79]), (1, msk [526], msk (List.range 81))] _ 82 (by kernel_rfl) (by kernel_rfl) (by kernel_rfl) (by kernel_rfl) (by kernel_rfl)) (fun w => St w0 D0 Dv_334 [(50, .cells b_24 [iv rv_27.Ring, .slice p_543 rv_27.Starts.length c_500, .slice p_544 rv_27.Events.length c_501] 25), (55, .cells b_25 [iv rv_33.1.Pre, iv rv_33.1.Home, iv rv_33.1.First, iv rv_33.1.Send] 49), (56, .cells b_26 [iv rv_36.1.Low, iv rv_36.1.High] 33), (57, .cells b_27 [iv rv_39.1.Pre, iv rv_39.1.Home, iv rv_39.1.First, iv rv_39.1.Send] 49), (60, .cells b_28 [iv rv_41.Ring, .slice p_552 rv_41.Starts.length c_509, .slice p_555 (rv_41.Events ++ [(SlaveEvent.mk 1 0 10 1 0 0)]).length c_512] 25), (61, .own none ([] : List SlaveEvent).length 0 ([]) 66 6), (62, .own p_554 ([(SlaveEvent.mk 1 0 10 1 0 0)]).length c_511 ([iv 1, iv 0, iv 10, iv 1, iv 0, iv 0]) 66 6), (68, .cells b_29 [iv rv_45.1.Low, iv rv_45.1.High] 33), (71, .cells b_30 [iv rv_48.1.Pre, iv rv_48.1.Home, iv rv_48.1.First, iv rv_48.1.Send] 49), (75, .cells b_31 [iv rv_50.1.Pre, iv rv_50.1.Home, iv rv_50.1.First, iv rv_50.1.Send] 49)] w) _ (hS.weak (ms := [(50, .cells b_24 [iv rv_27.Ring, .slice p_543 rv_27.Starts.length c_500, .slice p_544 rv_27.Events.length c_501] 25), (55, .cells b_25 [iv rv_33.1.Pre, iv rv_33.1.Home, iv rv_33.1.First, iv rv_33.1.Send] 49), (56, .cells b_26 [iv rv_36.1.Low, iv rv_36.1.High] 33), (57, .cells b_27 [iv rv_39.1.Pre, iv rv_39.1.Home, iv rv_39.1.First, iv rv_39.1.Send] 49), (60, .cells b_28 [iv rv_41.Ring, .slice p_552 rv_41.Starts.length c_509, .slice p_555 (rv_41.Events ++ [(SlaveEvent.mk 1 0 10 1 0 0)]).length c_512] 25), (61, .own none ([] : List SlaveEvent).length 0 ([]) 66 6), (62, .own p_554 ([(SlaveEvent.mk 1 0 10 1 0 0)]).length c_511 ([iv 1, iv 0, iv 10, iv 1, iv 0, iv 0]) 66 6), (68, .cells b_29 [iv rv_45.1.Low, iv rv_45.1.High] 33), (71, .cells b_30 [iv rv_48.1.Pre, iv rv_48.1.Home, iv rv_48.1.First, iv rv_48.1.Send] 49), (75, .cells b_31 [iv rv_50.1.Pre, iv rv_50.1.Home, iv rv_50.1.First, iv rv_50.1.Send] 49)]) (AL rfl)).drew (fun _ _ _ _ h => h) ?_ (fun _ _ h => h)
   replace hS := hS.drew
   have hle0 := hS.le
   refine stepV (i := 0) rfl hF (fun w hS => Y.move hF rfl) rfl fun a hF => ?_
   refine stepV (i := 1) rfl hF (fun w hS => Y.eql hF rfl rfl) rfl fun a hF => ?_
   refine stepV (i := 2) rfl hF (fun w hS => Y.move hF rfl) rfl fun a hF => ?_
   replace h := ndet h
   obtain ⟨t_5, ht_5, h⟩ := h
   refine cutV (u := w7SlaveKnown_tr6_7) (fun a w => ∃ (D : Stab), Dv_334.le D ∧ Frm 527 [] [(0, .bool sv_2), (31, iv rv_45.2), (33, iv rv_46.2), (35, iv rv_48.2), (37, iv rv_50.2), (39, iv rv_52.2), (41, iv rv_53.2), (43, iv rv_55.2), (45, iv i_3), (52, .pointer (some ⟨b_29, 0, none⟩)), (53, .slice p_562 rv_46.1.length c_519), (54, .pointer (some ⟨b_30, 0, none⟩)), (55, .pointer (some ⟨b_31, 0, none⟩)), (56, iv rv_52.1), (57, .slice p_570 rv_53.1.length c_527), (58, .bool rv_55.1), (59, iv nonev), (452, .bool t_5)] a ∧ St w0 D0 D [(50, .cells b_24 [iv rv_27.Ring, .slice p_543 rv_27.Starts.length c_500, .slice p_544 rv_27.Events.length c_501] 25), (55, .cells b_25 [iv rv_33.1.Pre, iv rv_33.1.Home, iv rv_33.1.First, iv rv_33.1.Send] 49), (56, .cells b_26 [iv rv_36.1.Low, iv rv_36.1.High] 33), (57, .cells b_27 [iv rv_39.1.Pre, iv rv_39.1.Home, iv rv_39.1.First, iv rv_39.1.Send] 49), (60, .cells b_28 [iv rv_41.Ring, .slice p_552 rv_41.Starts.length c_509, .slice p_555 (rv_41.Events ++ [(SlaveEvent.mk 1 0 10 1 0 0)]).length c_512] 25), (61, .own none ([] : List SlaveEvent).length 0 ([]) 66 6), (62, .own p_554 ([(SlaveEvent.mk 1 0 10 1 0 0)]).length c_511 ([iv 1, iv 0, iv 10, iv 1, iv 0, iv 0]) 66 6), (68, .cells b_29 [iv rv_45.1.Low, iv rv_45.1.High] 33), (71, .cells b_30 [iv rv_48.1.Pre, iv rv_48.1.Home, iv rv_48.1.First, iv rv_48.1.Send] 49), (75, .cells b_31 [iv rv_50.1.Pre, iv rv_50.1.Home, iv rv_50.1.First, iv rv_50.1.Send] 49)] w) ?_ ?_
   ·intro hcut
    rcases bcases (rv_43.2 == 0) with hbv_46 | hbv_46
    ·-- true
     replace h := cond_t ht_5 hbv_46
     refine stepV_on (i := 3) rfl hF rfl rfl hbv_46 (fun w hS => Y.move hF rfl) rfl fun a hF => ?_
     refine oneV (i := 4) rfl ?_ trivial
     refine guard_on hF rfl rfl hbv_46 ?_
     have hr_550 : Reps C_int Dv_334 [0] [iv 0] := Reps.cons (C := C_int) (x := 0) (c := [iv 0]) (r := []) rfl (Reps.nil)
     refine O.buildSlice (E := 3) (C := C_int) (xs := [0]) (cs := [iv 0]) (us := [iv 0]) (parts := [(0, (.const (iv 0)))]) 83 hF hS rfl (by kernel_rfl) hr_550 rfl rfl rfl fun p_576 c_533 a w hF hS => ?_
     refine nT ⟨hS.weak (AL rfl), ?_⟩
     refine oneV (i := 5) rfl ?_ trivial
     refine guard_on hF rfl rfl hbv_46 ?_
     obtain ⟨Dv_342, hlev_340, hs_541, hS⟩ := hS.freezeC (C := C_int) (i := 83) (xs := [0]) rfl hr_550
     replace hG := hG.mono hlev_340
     replace hs_512 := hs_512.mono hlev_340
     replace hs_517 := hs_517.mono hlev_340
     replace hs_533 := hs_533.mono hlev_340
     replace h := bind_some h
     obtain ⟨rv_62, hx_72, h⟩ := h
     refine O.callP (us := [.slice p_559 rv_43.1.length c_516, .slice p_576 ([0]).length c_533]) ca_18 hF hS (r0Alike_ok hS.stab rv_43.1 ([0]) hs_512 hs_541 rv_62 hx_72) rfl rfl fun a w hF hS => ?_
     refine nT ⟨(hS.weak (ms := [(50, .cells b_24 [iv rv_27.Ring, .slice p_543 rv_27.Starts.length c_500, .slice p_544 rv_27.Events.length c_501] 25), (55, .cells b_25 [iv rv_33.1.Pre, iv rv_33.1.Home, iv rv_33.1.First, iv rv_33.1.Send] 49), (56, .cells b_26 [iv rv_36.1.Low, iv rv_36.1.High] 33), (57, .cells b_27 [iv rv_39.1.Pre, iv rv_39.1.Home, iv rv_39.1.First, iv rv_39.1.Send] 49), (60, .cells b_28 [iv rv_41.Ring, .slice p_552 rv_41.Starts.length c_509, .slice p_555 (rv_41.Events ++ [(SlaveEvent.mk 1 0 10 1 0 0)]).length c_512] 25), (61, .own none ([] : List SlaveEvent).length 0 ([]) 66 6), (62, .own p_554 ([(SlaveEvent.mk 1 0 10 1 0 0)]).length c_511 ([iv 1, iv 0, iv 10, iv 1, iv 0, iv 0]) 66 6), (68, .cells b_29 [iv rv_45.1.Low, iv rv_45.1.High] 33), (71, .cells b_30 [iv rv_48.1.Pre, iv rv_48.1.Home, iv rv_48.1.First, iv rv_48.1.Send] 49), (75, .cells b_31 [iv rv_50.1.Pre, iv rv_50.1.Home, iv rv_50.1.First, iv rv_50.1.Send] 49)]) (AL rfl)).weakD hlev_340 hle0, ?_⟩
     refine stepV (i := 6) rfl hF (fun w hS => Y.pick_t hF rfl hbv_46 rfl) rfl fun a hF => ?_
     obtain rfl := some_inj h
     exact hcut _ _ ⟨Dv_342, hlev_340, hF.weak (AF rfl), hS.weak (AL rfl)⟩
    ·-- false
     replace h := cond_f ht_5 hbv_46
     refine stepV_off (i := 3) rfl hF rfl rfl hbv_46 rfl fun a hF => ?_
     refine oneV (i := 4) rfl (guard_off hF rfl rfl hbv_46 rfl fun a hF => nT ⟨hS.weak (AL rfl), ?_⟩) trivial
     refine oneV (i := 5) rfl (guard_off hF rfl rfl hbv_46 rfl fun a hF => nT ⟨hS.weak (AL rfl), ?_⟩) trivial
     refine stepV (i := 6) rfl hF (fun w hS => Y.pick_f hF rfl hbv_46 rfl) rfl fun a hF => ?_
     obtain rfl := some_inj h
     exact hcut _ _ ⟨Dv_334, Stab.le.refl _, hF.weak (AF rfl), hS.weak (AL rfl)⟩
   ·skip
    rintro a w ⟨Dv_343, hlev_341, hF, hS⟩
    replace hG := hG.mono hlev_341
    replace hs_517 := hs_517.mono hlev_341
    replace hs_533 := hs_533.mono hlev_341
    refine stepV (i := 7) rfl hF (fun w hS => Y.move hF rfl) rfl fun a hF => ?_
    refine cutV (u := w7SlaveKnown_tr6_11) (fun a w => Frm 527 [] [(0, .bool sv_2), (33, iv rv_46.2), (35, iv rv_48.2), (37, iv rv_50.2), (39, iv rv_52.2), (41, iv rv_53.2), (43, iv rv_55.2), (45, iv i_3), (52, .pointer (some ⟨b_29, 0, none⟩)), (53, .slice p_562 rv_46.1.length c_519), (54, .pointer (some ⟨b_30, 0, none⟩)), (55, .pointer (some ⟨b_31, 0, none⟩)), (56, iv rv_52.1), (57, .slice p_570 rv_53.1.length c_527), (58, .bool rv_55.1), (59, iv nonev), (456, .bool (t_5 && (rv_45.2 == 0)))] a ∧ St w0 D0 Dv_343 [(50, .cells b_24 [iv rv_27.Ring, .slice p_543 rv_27.Starts.length c_500, .slice p_544 rv_27.Events.length c_501] 25), (55, .cells b_25 [iv rv_33.1.Pre, iv rv_33.1.Home, iv rv_33.1.First, iv rv_33.1.Send] 49), (56, .cells b_26 [iv rv_36.1.Low, iv rv_36.1.High] 33), (57, .cells b_27 [iv rv_39.1.Pre, iv rv_39.1.Home, iv rv_39.1.First, iv rv_39.1.Send] 49), (60, .cells b_28 [iv rv_41.Ring, .slice p_552 rv_41.Starts.length c_509, .slice p_555 (rv_41.Events ++ [(SlaveEvent.mk 1 0 10 1 0 0)]).length c_512] 25), (61, .own none ([] : List SlaveEvent).length 0 ([]) 66 6), (62, .own p_554 ([(SlaveEvent.mk 1 0 10 1 0 0)]).length c_511 ([iv 1, iv 0, iv 10, iv 1, iv 0, iv 0]) 66 6), (68, .cells b_29 [iv rv_45.1.Low, iv rv_45.1.High] 33), (71, .cells b_30 [iv rv_48.1.Pre, iv rv_48.1.Home, iv rv_48.1.First, iv rv_48.1.Send] 49), (75, .cells b_31 [iv rv_50.1.Pre, iv rv_50.1.Home, iv rv_50.1.First, iv rv_50.1.Send] 49)] w) ?_ ?_
    ·intro hcut
     rcases bcases t_5 with hbv_47 | hbv_47
     ·-- true
      refine stepV_on (i := 8) rfl hF rfl rfl hbv_47 (fun w hS => Y.move hF rfl) rfl fun a hF => ?_
      refine stepV_on (i := 9) rfl hF rfl rfl hbv_47 (fun w hS => Y.eql hF rfl rfl) rfl fun a hF => ?_
      refine stepV (i := 10) rfl hF (fun w hS => Y.pick_t hF rfl hbv_47 rfl) rfl fun a hF => ?_
      exact hcut _ _ ⟨hF.weak ⟨rfl, rfl, rfl, rfl, rfl, rfl, rfl, rfl, rfl, rfl, rfl, rfl, rfl, rfl, rfl, rfl, (by rw [hbv_47]; rfl), trivial⟩, hS.weak (AL rfl)⟩
     ·-- false
      refine stepV_off (i := 8) rfl hF rfl rfl hbv_47 rfl fun a hF => ?_
      refine stepV_off (i := 9) rfl hF rfl rfl hbv_47 rfl fun a hF => ?_
      refine stepV (i := 10) rfl hF (fun w hS => Y.pick_f hF rfl hbv_47 rfl) rfl fun a hF => ?_
      exact hcut _ _ ⟨hF.weak ⟨rfl, rfl, rfl, rfl, rfl, rfl, rfl, rfl, rfl, rfl, rfl, rfl, rfl, rfl, rfl, rfl, (by rw [hbv_47]; rfl), trivial⟩, hS.weak (AL rfl)⟩
    ·skip
     rintro a w ⟨hF, hS⟩
     refine stepV (i := 11) rfl hF (fun w hS => Y.move hF rfl) rfl fun a hF => ?_
     replace h := ndet h
     obtain ⟨t_6, ht_6, h⟩ := h
     refine cutV (u := w7SlaveKnown_tr6_16) (fun a w => Frm 527 [] [(0, .bool sv_2), (33, iv rv_46.2), (35, iv rv_48.2), (37, iv rv_50.2), (39, iv rv_52.2), (41, iv rv_53.2), (43, iv rv_55.2), (45, iv i_3), (53, .slice p_562 rv_46.1.length c_519), (54, .pointer (some ⟨b_30, 0, none⟩)), (55, .pointer (some ⟨b_31, 0, none⟩)), (56, iv rv_52.1), (57, .slice p_570 rv_53.1.length c_527), (58, .bool rv_55.1), (59, iv nonev), (461, .bool t_6)] a ∧ St w0 D0 Dv_343 [(50, .cells b_24 [iv rv_27.Ring, .slice p_543 rv_27.Starts.length c_500, .slice p_544 rv_27.Events.length c_501] 25), (55, .cells b_25 [iv rv_33.1.Pre, iv rv_33.1.Home, iv rv_33.1.First, iv rv_33.1.Send] 49), (56, .cells b_26 [iv rv_36.1.Low, iv rv_36.1.High] 33), (57, .cells b_27 [iv rv_39.1.Pre, iv rv_39.1.Home, iv rv_39.1.First, iv rv_39.1.Send] 49), (60, .cells b_28 [iv rv_41.Ring, .slice p_552 rv_41.Starts.length c_509, .slice p_555 (rv_41.Events ++ [(SlaveEvent.mk 1 0 10 1 0 0)]).length c_512] 25), (61, .own none ([] : List SlaveEvent).length 0 ([]) 66 6), (62, .own p_554 ([(SlaveEvent.mk 1 0 10 1 0 0)]).length c_511 ([iv 1, iv 0, iv 10, iv 1, iv 0, iv 0]) 66 6), (68, .cells b_29 [iv rv_45.1.Low, iv rv_45.1.High] 33), (71, .cells b_30 [iv rv_48.1.Pre, iv rv_48.1.Home, iv rv_48.1.First, iv rv_48.1.Send] 49), (75, .cells b_31 [iv rv_50.1.Pre, iv rv_50.1.Home, iv rv_50.1.First, iv rv_50.1.Send] 49)] w) ?_ ?_
     ·intro hcut
      rcases bcases (t_5 && (rv_45.2 == 0)) with hbv_48 | hbv_48
      ·-- true
       replace h := cond_t ht_6 hbv_48
       refine stepV_on (i := 12) rfl hF rfl rfl hbv_48 (fun w hS => Y.loadNL 68 sz_33 hF rfl hS rfl rfl rfl) rfl fun a hF => ?_
       refine oneV (i := 13) rfl ?_ trivial
       refine guard_on hF rfl rfl hbv_48 ?_
       replace h := bind_some h
       obtain ⟨rv_63, hx_73, h⟩ := h
       refine O.callP (us := [iv 0, iv 1]) ca_43 hF hS (r0To_ok hS.stab 0 1 rv_63 hx_73) rfl rfl fun a w hF hS => ?_
       refine nT ⟨(hS.weak (ms := [(50, .cells b_24 [iv rv_27.Ring, .slice p_543 rv_27.Starts.length c_500, .slice p_544 rv_27.Events.length c_501] 25), (55, .cells b_25 [iv rv_33.1.Pre, iv rv_33.1.Home, iv rv_33.1.First, iv rv_33.1.Send] 49), (56, .cells b_26 [iv rv_36.1.Low, iv rv_36.1.High] 33), (57, .cells b_27 [iv rv_39.1.Pre, iv rv_39.1.Home, iv rv_39.1.First, iv rv_39.1.Send] 49), (60, .cells b_28 [iv rv_41.Ring, .slice p_552 rv_41.Starts.length c_509, .slice p_555 (rv_41.Events ++ [(SlaveEvent.mk 1 0 10 1 0 0)]).length c_512] 25), (61, .own none ([] : List SlaveEvent).length 0 ([]) 66 6), (62, .own p_554 ([(SlaveEvent.mk 1 0 10 1 0 0)]).length c_511 ([iv 1, iv 0, iv 10, iv 1, iv 0, iv 0]) 66 6), (68, .cells b_29 [iv rv_45.1.Low, iv rv_45.1.High] 33), (71, .cells b_30 [iv rv_48.1.Pre, iv rv_48.1.Home, iv rv_48.1.First, iv rv_48.1.Send] 49), (75, .cells b_31 [iv rv_50.1.Pre, iv rv_50.1.Home, iv rv_50.1.First, iv rv_50.1.Send] 49)]) (AL rfl)).weakD hlev_341 hle0, ?_⟩
       refine stepV_on (i := 14) rfl hF rfl rfl hbv_48 (fun w hS => Y.eqst (fun w => eqT_33.equal (by decide) (l := [rv_45.1.Low, rv_45.1.High]) (m := [rv_63.Low, rv_63.High]) rfl rfl) (fun w => run_eqGuard_agg _ _ _ _ _ _ _ eg_33) hF rfl rfl) rfl fun a hF => ?_
       refine stepV (i := 15) rfl hF (fun w hS => Y.pick_t hF rfl hbv_48 rfl) rfl fun a hF => ?_
       obtain rfl := some_inj h
       exact hcut _ _ ⟨hF.weak (AF rfl), hS.weak (AL rfl)⟩
      ·-- false
       replace h := cond_f ht_6 hbv_48
       refine stepV_off (i := 12) rfl hF rfl rfl hbv_48 rfl fun a hF => ?_
       refine oneV (i := 13) rfl (guard_off hF rfl rfl hbv_48 rfl fun a hF => nT ⟨(hS.weak (ms := [(50, .cells b_24 [iv rv_27.Ring, .slice p_543 rv_27.Starts.length c_500, .slice p_544 rv_27.Events.length c_501] 25), (55, .cells b_25 [iv rv_33.1.Pre, iv rv_33.1.Home, iv rv_33.1.First, iv rv_33.1.Send] 49), (56, .cells b_26 [iv rv_36.1.Low, iv rv_36.1.High] 33), (57, .cells b_27 [iv rv_39.1.Pre, iv rv_39.1.Home, iv rv_39.1.First, iv rv_39.1.Send] 49), (60, .cells b_28 [iv rv_41.Ring, .slice p_552 rv_41.Starts.length c_509, .slice p_555 (rv_41.Events ++ [(SlaveEvent.mk 1 0 10 1 0 0)]).length c_512] 25), (61, .own none ([] : List SlaveEvent).length 0 ([]) 66 6), (62, .own p_554 ([(SlaveEvent.mk 1 0 10 1 0 0)]).length c_511 ([iv 1, iv 0, iv 10, iv 1, iv 0, iv 0]) 66 6), (68, .cells b_29 [iv rv_45.1.Low, iv rv_45.1.High] 33), (71, .cells b_30 [iv rv_48.1.Pre, iv rv_48.1.Home, iv rv_48.1.First, iv rv_48.1.Send] 49), (75, .cells b_31 [iv rv_50.1.Pre, iv rv_50.1.Home, iv rv_50.1.First, iv rv_50.1.Send] 49)]) (AL rfl)).weakD hlev_341 hle0, ?_⟩) trivial
       refine stepV_off (i := 14) rfl hF rfl rfl hbv_48 rfl fun a hF => ?_
       refine stepV (i := 15) rfl hF (fun w hS => Y.pick_f hF rfl hbv_48 rfl) rfl fun a hF => ?_
       obtain rfl := some_inj h
       exact hcut _ _ ⟨hF.weak (AF rfl), hS.weak (AL rfl)⟩
     ·skip
      rintro a w ⟨hF, hS⟩
      refine stepV (i := 16) rfl hF (fun w hS => Y.move hF rfl) rfl fun a hF => ?_
      refine cutV (u := w7SlaveKnown_tr6_20) (fun a w => Frm 527 [] [(0, .bool sv_2), (35, iv rv_48.2), (37, iv rv_50.2), (39, iv rv_52.2), (41, iv rv_53.2), (43, iv rv_55.2), (45, iv i_3), (53, .slice p_562 rv_46.1.length c_519), (54, .pointer (some ⟨b_30, 0, none⟩)), (55, .pointer (some ⟨b_31, 0, none⟩)), (56, iv rv_52.1), (57, .slice p_570 rv_53.1.length c_527), (58, .bool rv_55.1), (59, iv nonev), (465, .bool (t_6 && (rv_46.2 == 0)))] a ∧ St w0 D0 Dv_343 [(50, .cells b_24 [iv rv_27.Ring, .slice p_543 rv_27.Starts.length c_500, .slice p_544 rv_27.Events.length c_501] 25), (55, .cells b_25 [iv rv_33.1.Pre, iv rv_33.1.Home, iv rv_33.1.First, iv rv_33.1.Send] 49), (56, .cells b_26 [iv rv_36.1.Low, iv rv_36.1.High] 33), (57, .cells b_27 [iv rv_39.1.Pre, iv rv_39.1.Home, iv rv_39.1.First, iv rv_39.1.Send] 49), (60, .cells b_28 [iv rv_41.Ring, .slice p_552 rv_41.Starts.length c_509, .slice p_555 (rv_41.Events ++ [(SlaveEvent.mk 1 0 10 1 0 0)]).length c_512] 25), (61, .own none ([] : List SlaveEvent).length 0 ([]) 66 6), (62, .own p_554 ([(SlaveEvent.mk 1 0 10 1 0 0)]).length c_511 ([iv 1, iv 0, iv 10, iv 1, iv 0, iv 0]) 66 6), (68, .cells b_29 [iv rv_45.1.Low, iv rv_45.1.High] 33), (71, .cells b_30 [iv rv_48.1.Pre, iv rv_48.1.Home, iv rv_48.1.First, iv rv_48.1.Send] 49), (75, .cells b_31 [iv rv_50.1.Pre, iv rv_50.1.Home, iv rv_50.1.First, iv rv_50.1.Send] 49)] w) ?_ ?_
      ·intro hcut
       rcases bcases t_6 with hbv_49 | hbv_49
       ·-- true
        refine stepV_on (i := 17) rfl hF rfl rfl hbv_49 (fun w hS => Y.move hF rfl) rfl fun a hF => ?_
        refine stepV_on (i := 18) rfl hF rfl rfl hbv_49 (fun w hS => Y.eql hF rfl rfl) rfl fun a hF => ?_
        refine stepV (i := 19) rfl hF (fun w hS => Y.pick_t hF rfl hbv_49 rfl) rfl fun a hF => ?_
        exact hcut _ _ ⟨hF.weak ⟨rfl, rfl, rfl, rfl, rfl, rfl, rfl, rfl, rfl, rfl, rfl, rfl, rfl, rfl, (by rw [hbv_49]; rfl), trivial⟩, hS.weak (AL rfl)⟩
       ·-- false
        refine stepV_off (i := 17) rfl hF rfl rfl hbv_49 rfl fun a hF => ?_
        refine stepV_off (i := 18) rfl hF rfl rfl hbv_49 rfl fun a hF => ?_
        refine stepV (i := 19) rfl hF (fun w hS => Y.pick_f hF rfl hbv_49 rfl) rfl fun a hF => ?_
        exact hcut _ _ ⟨hF.weak ⟨rfl, rfl, rfl, rfl, rfl, rfl, rfl, rfl, rfl, rfl, rfl, rfl, rfl, rfl, (by rw [hbv_49]; rfl), trivial⟩, hS.weak (AL rfl)⟩
      ·skip
       rintro a w ⟨hF, hS⟩
       refine stepV (i := 20) rfl hF (fun w hS => Y.move hF rfl) rfl fun a hF => ?_
       replace h := ndet h
       obtain ⟨t_7, ht_7, h⟩ := h
       refine cutV (u := w7SlaveKnown_tr6_25) (fun a w => ∃ (D : Stab), Dv_343.le D ∧ Frm 527 [] [(0, .bool sv_2), (35, iv rv_48.2), (37, iv rv_50.2), (39, iv rv_52.2), (41, iv rv_53.2), (43, iv rv_55.2), (45, iv i_3), (54, .pointer (some ⟨b_30, 0, none⟩)), (55, .pointer (some ⟨b_31, 0, none⟩)), (56, iv rv_52.1), (57, .slice p_570 rv_53.1.length c_527), (58, .bool rv_55.1), (59, iv nonev), (470, .bool t_7)] a ∧ St w0 D0 D [(50, .cells b_24 [iv rv_27.Ring, .slice p_543 rv_27.Starts.length c_500, .slice p_544 rv_27.Events.length c_501] 25), (55, .cells b_25 [iv rv_33.1.Pre, iv rv_33.1.Home, iv rv_33.1.First, iv rv_33.1.Send] 49), (56, .cells b_26 [iv rv_36.1.Low, iv rv_36.1.High] 33), (57, .cells b_27 [iv rv_39.1.Pre, iv rv_39.1.Home, iv rv_39.1.First, iv rv_39.1.Send] 49), (60, .cells b_28 [iv rv_41.Ring, .slice p_552 rv_41.Starts.length c_509, .slice p_555 (rv_41.Events ++ [(SlaveEvent.mk 1 0 10 1 0 0)]).length c_512] 25), (61, .own none ([] : List SlaveEvent).length 0 ([]) 66 6), (62, .own p_554 ([(SlaveEvent.mk 1 0 10 1 0 0)]).length c_511 ([iv 1, iv 0, iv 10, iv 1, iv 0, iv 0]) 66 6), (68, .cells b_29 [iv rv_45.1.Low, iv rv_45.1.High] 33), (71, .cells b_30 [iv rv_48.1.Pre, iv rv_48.1.Home, iv rv_48.1.First, iv rv_48.1.Send] 49), (75, .cells b_31 [iv rv_50.1.Pre, iv rv_50.1.Home, iv rv_50.1.First, iv rv_50.1.Send] 49)] w) ?_ ?_
       ·intro hcut
        rcases bcases (t_6 && (rv_46.2 == 0)) with hbv_50 | hbv_50
        ·-- true
         replace h := cond_t ht_7 hbv_50
         refine stepV_on (i := 21) rfl hF rfl rfl hbv_50 (fun w hS => Y.move hF rfl) rfl fun a hF => ?_
         refine oneV (i := 22) rfl ?_ trivial
         refine guard_on hF rfl rfl hbv_50 ?_
         have hr_551 : Reps C_int Dv_343 [1] [iv 1] := Reps.cons (C := C_int) (x := 1) (c := [iv 1]) (r := []) rfl (Reps.nil)
         refine O.buildSlice (E := 3) (C := C_int) (xs := [1]) (cs := [iv 1]) (us := [iv 1]) (parts := [(0, (.const (iv 1)))]) 84 hF hS rfl (by kernel_rfl) hr_551 rfl rfl rfl fun p_577 c_534 a w hF hS => ?_
         refine nT ⟨(hS.weak (ms := [(50, .cells b_24 [iv rv_27.Ring, .slice p_543 rv_27.Starts.length c_500, .slice p_544 rv_27.Events.length c_501] 25), (55, .cells b_25 [iv rv_33.1.Pre, iv rv_33.1.Home, iv rv_33.1.First, iv rv_33.1.Send] 49), (56, .cells b_26 [iv rv_36.1.Low, iv rv_36.1.High] 33), (57, .cells b_27 [iv rv_39.1.Pre, iv rv_39.1.Home, iv rv_39.1.First, iv rv_39.1.Send] 49), (60, .cells b_28 [iv rv_41.Ring, .slice p_552 rv_41.Starts.length c_509, .slice p_555 (rv_41.Events ++ [(SlaveEvent.mk 1 0 10 1 0 0)]).length c_512] 25), (61, .own none ([] : List SlaveEvent).length 0 ([]) 66 6), (62, .own p_554 ([(SlaveEvent.mk 1 0 10 1 0 0)]).length c_511 ([iv 1, iv 0, iv 10, iv 1, iv 0, iv 0]) 66 6), (68, .cells b_29 [iv rv_45.1.Low, iv rv_45.1.High] 33), (71, .cells b_30 [iv rv_48.1.Pre, iv rv_48.1.Home, iv rv_48.1.First, iv rv_48.1.Send] 49), (75, .cells b_31 [iv rv_50.1.Pre, iv rv_50.1.Home, iv rv_50.1.First, iv rv_50.1.Send] 49)]) (AL rfl)).weakD hlev_341 hle0, ?_⟩
         refine oneV (i := 23) rfl ?_ trivial
         refine guard_on hF rfl rfl hbv_50 ?_
         obtain ⟨Dv_344, hlev_342, hs_542, hS⟩ := hS.freezeC (C := C_int) (i := 84) (xs := [1]) rfl hr_551
         replace hG := hG.mono hlev_342
         replace hs_517 := hs_517.mono hlev_342
         replace hs_533 := hs_533.mono hlev_342
         replace h := bind_some h
         obtain ⟨rv_64, hx_74, h⟩ := h
         refine O.callP (us := [.slice p_562 rv_46.1.length c_519, .slice p_577 ([1]).length c_534]) ca_18 hF hS (r0Alike_ok hS.stab rv_46.1 ([1]) hs_517 hs_542 rv_64 hx_74) rfl rfl fun a w hF hS => ?_
         refine nT ⟨(hS.weak (ms := [(50, .cells b_24 [iv rv_27.Ring, .slice p_543 rv_27.Starts.length c_500, .slice p_544 rv_27.Events.length c_501] 25), (55, .cells b_25 [iv rv_33.1.Pre, iv rv_33.1.Home, iv rv_33.1.First, iv rv_33.1.Send] 49), (56, .cells b_26 [iv rv_36.1.Low, iv rv_36.1.High] 33), (57, .cells b_27 [iv rv_39.1.Pre, iv rv_39.1.Home, iv rv_39.1.First, iv rv_39.1.Send] 49), (60, .cells b_28 [iv rv_41.Ring, .slice p_552 rv_41.Starts.length c_509, .slice p_555 (rv_41.Events ++ [(SlaveEvent.mk 1 0 10 1 0 0)]).length c_512] 25), (61, .own none ([] : List SlaveEvent).length 0 ([]) 66 6), (62, .own p_554 ([(SlaveEvent.mk 1 0 10 1 0 0)]).length c_511 ([iv 1, iv 0, iv 10, iv 1, iv 0, iv 0]) 66 6), (68, .cells b_29 [iv rv_45.1.Low, iv rv_45.1.High] 33), (71, .cells b_30 [iv rv_48.1.Pre, iv rv_48.1.Home, iv rv_48.1.First, iv rv_48.1.Send] 49), (75, .cells b_31 [iv rv_50.1.Pre, iv rv_50.1.Home, iv rv_50.1.First, iv rv_50.1.Send] 49)]) (AL rfl)).weakD (hlev_341.trans hlev_342) hle0, ?_⟩
         refine stepV (i := 24) rfl hF (fun w hS => Y.pick_t hF rfl hbv_50 rfl) rfl fun a hF => ?_
         obtain rfl := some_inj h
         exact hcut _ _ ⟨Dv_344, hlev_342, hF.weak (AF rfl), hS.weak (AL rfl)⟩
        ·-- false
         replace h := cond_f ht_7 hbv_50
         refine stepV_off (i := 21) rfl hF rfl rfl hbv_50 rfl fun a hF => ?_
         refine oneV (i := 22) rfl (guard_off hF rfl rfl hbv_50 rfl fun a hF => nT ⟨(hS.weak (ms := [(50, .cells b_24 [iv rv_27.Ring, .slice p_543 rv_27.Starts.length c_500, .slice p_544 rv_27.Events.length c_501] 25), (55, .cells b_25 [iv rv_33.1.Pre, iv rv_33.1.Home, iv rv_33.1.First, iv rv_33.1.Send] 49), (56, .cells b_26 [iv rv_36.1.Low, iv rv_36.1.High] 33), (57, .cells b_27 [iv rv_39.1.Pre, iv rv_39.1.Home, iv rv_39.1.First, iv rv_39.1.Send] 49), (60, .cells b_28 [iv rv_41.Ring, .slice p_552 rv_41.Starts.length c_509, .slice p_555 (rv_41.Events ++ [(SlaveEvent.mk 1 0 10 1 0 0)]).length c_512] 25), (61, .own none ([] : List SlaveEvent).length 0 ([]) 66 6), (62, .own p_554 ([(SlaveEvent.mk 1 0 10 1 0 0)]).length c_511 ([iv 1, iv 0, iv 10, iv 1, iv 0, iv 0]) 66 6), (68, .cells b_29 [iv rv_45.1.Low, iv rv_45.1.High] 33), (71, .cells b_30 [iv rv_48.1.Pre, iv rv_48.1.Home, iv rv_48.1.First, iv rv_48.1.Send] 49), (75, .cells b_31 [iv rv_50.1.Pre, iv rv_50.1.Home, iv rv_50.1.First, iv rv_50.1.Send] 49)]) (AL rfl)).weakD hlev_341 hle0, ?_⟩) trivial
         refine oneV (i := 23) rfl (guard_off hF rfl rfl hbv_50 rfl fun a hF => nT ⟨(hS.weak (ms := [(50, .cells b_24 [iv rv_27.Ring, .slice p_543 rv_27.Starts.length c_500, .slice p_544 rv_27.Events.length c_501] 25), (55, .cells b_25 [iv rv_33.1.Pre, iv rv_33.1.Home, iv rv_33.1.First, iv rv_33.1.Send] 49), (56, .cells b_26 [iv rv_36.1.Low, iv rv_36.1.High] 33), (57, .cells b_27 [iv rv_39.1.Pre, iv rv_39.1.Home, iv rv_39.1.First, iv rv_39.1.Send] 49), (60, .cells b_28 [iv rv_41.Ring, .slice p_552 rv_41.Starts.length c_509, .slice p_555 (rv_41.Events ++ [(SlaveEvent.mk 1 0 10 1 0 0)]).length c_512] 25), (61, .own none ([] : List SlaveEvent).length 0 ([]) 66 6), (62, .own p_554 ([(SlaveEvent.mk 1 0 10 1 0 0)]).length c_511 ([iv 1, iv 0, iv 10, iv 1, iv 0, iv 0]) 66 6), (68, .cells b_29 [iv rv_45.1.Low, iv rv_45.1.High] 33), (71, .cells b_30 [iv rv_48.1.Pre, iv rv_48.1.Home, iv rv_48.1.First, iv rv_48.1.Send] 49), (75, .cells b_31 [iv rv_50.1.Pre, iv rv_50.1.Home, iv rv_50.1.First, iv rv_50.1.Send] 49)]) (AL rfl)).weakD hlev_341 hle0, ?_⟩) trivial
         refine stepV (i := 24) rfl hF (fun w hS => Y.pick_f hF rfl hbv_50 rfl) rfl fun a hF => ?_
         obtain rfl := some_inj h
         exact hcut _ _ ⟨Dv_343, Stab.le.refl _, hF.weak (AF rfl), hS.weak (AL rfl)⟩
       ·skip
        rintro a w ⟨Dv_345, hlev_343, hF, hS⟩
        replace hG := hG.mono hlev_343
        replace hs_533 := hs_533.mono hlev_343
        refine stepV (i := 25) rfl hF (fun w hS => Y.move hF rfl) rfl fun a hF => ?_
        refine cutV (u := w7SlaveKnown_tr6_29) (fun a w => Frm 527 [] [(0, .bool sv_2), (37, iv rv_50.2), (39, iv rv_52.2), (41, iv rv_53.2), (43, iv rv_55.2), (45, iv i_3), (54, .pointer (some ⟨b_30, 0, none⟩)), (55, .pointer (some ⟨b_31, 0, none⟩)), (56, iv rv_52.1), (57, .slice p_570 rv_53.1.length c_527), (58, .bool rv_55.1), (59, iv nonev), (474, .bool (t_7 && (rv_48.2 == 0)))] a ∧ St w0 D0 Dv_345 [(50, .cells b_24 [iv rv_27.Ring, .slice p_543 rv_27.Starts.length c_500, .slice p_544 rv_27.Events.length c_501] 25), (55, .cells b_25 [iv rv_33.1.Pre, iv rv_33.1.Home, iv rv_33.1.First, iv rv_33.1.Send] 49), (56, .cells b_26 [iv rv_36.1.Low, iv rv_36.1.High] 33), (57, .cells b_27 [iv rv_39.1.Pre, iv rv_39.1.Home, iv rv_39.1.First, iv rv_39.1.Send] 49), (60, .cells b_28 [iv rv_41.Ring, .slice p_552 rv_41.Starts.length c_509, .slice p_555 (rv_41.Events ++ [(SlaveEvent.mk 1 0 10 1 0 0)]).length c_512] 25), (61, .own none ([] : List SlaveEvent).length 0 ([]) 66 6), (62, .own p_554 ([(SlaveEvent.mk 1 0 10 1 0 0)]).length c_511 ([iv 1, iv 0, iv 10, iv 1, iv 0, iv 0]) 66 6), (68, .cells b_29 [iv rv_45.1.Low, iv rv_45.1.High] 33), (71, .cells b_30 [iv rv_48.1.Pre, iv rv_48.1.Home, iv rv_48.1.First, iv rv_48.1.Send] 49), (75, .cells b_31 [iv rv_50.1.Pre, iv rv_50.1.Home, iv rv_50.1.First, iv rv_50.1.Send] 49)] w) ?_ ?_
        ·intro hcut
         rcases bcases t_7 with hbv_51 | hbv_51
         ·-- true
          refine stepV_on (i := 26) rfl hF rfl rfl hbv_51 (fun w hS => Y.move hF rfl) rfl fun a hF => ?_
          refine stepV_on (i := 27) rfl hF rfl rfl hbv_51 (fun w hS => Y.eql hF rfl rfl) rfl fun a hF => ?_
          refine stepV (i := 28) rfl hF (fun w hS => Y.pick_t hF rfl hbv_51 rfl) rfl fun a hF => ?_
          exact hcut _ _ ⟨hF.weak ⟨rfl, rfl, rfl, rfl, rfl, rfl, rfl, rfl, rfl, rfl, rfl, rfl, (by rw [hbv_51]; rfl), trivial⟩, hS.weak (AL rfl)⟩
         ·-- false
          refine stepV_off (i := 26) rfl hF rfl rfl hbv_51 rfl fun a hF => ?_
          refine stepV_off (i := 27) rfl hF rfl rfl hbv_51 rfl fun a hF => ?_
          refine stepV (i := 28) rfl hF (fun w hS => Y.pick_f hF rfl hbv_51 rfl) rfl fun a hF => ?_
          exact hcut _ _ ⟨hF.weak ⟨rfl, rfl, rfl, rfl, rfl, rfl, rfl, rfl, rfl, rfl, rfl, rfl, (by rw [hbv_51]; rfl), trivial⟩, hS.weak (AL rfl)⟩
        ·skip
         rintro a w ⟨hF, hS⟩
         refine stepV (i := 29) rfl hF (fun w hS => Y.move hF rfl) rfl fun a hF => ?_
         refine cutV (u := w7SlaveKnown_tr6_34) (fun a w => Frm 527 [] [(0, .bool sv_2), (37, iv rv_50.2), (39, iv rv_52.2), (41, iv rv_53.2), (43, iv rv_55.2), (45, iv i_3), (55, .pointer (some ⟨b_31, 0, none⟩)), (56, iv rv_52.1), (57, .slice p_570 rv_53.1.length c_527), (58, .bool rv_55.1), (59, iv nonev), (479, .bool ((t_7 && (rv_48.2 == 0)) && ([rv_48.1.Pre, rv_48.1.Home, rv_48.1.First, rv_48.1.Send] == [(-1), 10, 1, 1])))] a ∧ St w0 D0 Dv_345 [(50, .cells b_24 [iv rv_27.Ring, .slice p_543 rv_27.Starts.length c_500, .slice p_544 rv_27.Events.length c_501] 25), (55, .cells b_25 [iv rv_33.1.Pre, iv rv_33.1.Home, iv rv_33.1.First, iv rv_33.1.Send] 49), (56, .cells b_26 [iv rv_36.1.Low, iv rv_36.1.High] 33), (57, .cells b_27 [iv rv_39.1.Pre, iv rv_39.1.Home, iv rv_39.1.First, iv rv_39.1.Send] 49), (60, .cells b_28 [iv rv_41.Ring, .slice p_552 rv_41.Starts.length c_509, .slice p_555 (rv_41.Events ++ [(SlaveEvent.mk 1 0 10 1 0 0)]).length c_512] 25), (61, .own none ([] : List SlaveEvent).length 0 ([]) 66 6), (62, .own p_554 ([(SlaveEvent.mk 1 0 10 1 0 0)]).length c_511 ([iv 1, iv 0, iv 10, iv 1, iv 0, iv 0]) 66 6), (68, .cells b_29 [iv rv_45.1.Low, iv rv_45.1.High] 33), (71, .cells b_30 [iv rv_48.1.Pre, iv rv_48.1.Home, iv rv_48.1.First, iv rv_48.1.Send] 49), (75, .cells b_31 [iv rv_50.1.Pre, iv rv_50.1.Home, iv rv_50.1.First, iv rv_50.1.Send] 49)] w) ?_ ?_
         ·intro hcut
          rcases bcases (t_7 && (rv_48.2 == 0)) with hbv_52 | hbv_52
          ·-- true
           refine stepV_on (i := 30) rfl hF rfl rfl hbv_52 (fun w hS => Y.loadNL 71 sz_49 hF rfl hS rfl rfl rfl) rfl fun a hF => ?_
           refine stepV_on (i := 31) rfl hF rfl rfl hbv_52 (fun w hS => Y.build (parts := [(0, (.const (iv (-1)))), (1, (.const (iv 10))), (2, (.const (iv 1))), (3, (.const (iv 1)))]) (cs := #[iv (-1), iv 10, iv 1, iv 1]) hF rfl (by kernel_rfl)) rfl fun a hF => ?_
           refine stepV_on (i := 32) rfl hF rfl rfl hbv_52 (fun w hS => Y.eqst (fun w => eqT_49.equal (by decide) (l := [rv_48.1.Pre, rv_48.1.Home, rv_48.1.First, rv_48.1.Send]) (m := [(-1), 10, 1, 1]) rfl rfl) (fun w => run_eqGuard_agg _ _ _ _ _ _ _ eg_49) hF rfl rfl) rfl fun a hF => ?_
           refine stepV (i := 33) rfl hF (fun w hS => Y.pick_t hF rfl hbv_52 rfl) rfl fun a hF => ?_
           exact hcut _ _ ⟨hF.weak ⟨rfl, rfl, rfl, rfl, rfl, rfl, rfl, rfl, rfl, rfl, rfl, (by rw [hbv_52]; rfl), trivial⟩, hS.weak (AL rfl)⟩
          ·-- false
           refine stepV_off (i := 30) rfl hF rfl rfl hbv_52 rfl fun a hF => ?_
           refine stepV_off (i := 31) rfl hF rfl rfl hbv_52 rfl fun a hF => ?_
           refine stepV_off (i := 32) rfl hF rfl rfl hbv_52 rfl fun a hF => ?_
           refine stepV (i := 33) rfl hF (fun w hS => Y.pick_f hF rfl hbv_52 rfl) rfl fun a hF => ?_
           exact hcut _ _ ⟨hF.weak ⟨rfl, rfl, rfl, rfl, rfl, rfl, rfl, rfl, rfl, rfl, rfl, (by rw [hbv_52]; rfl), trivial⟩, hS.weak (AL rfl)⟩
         ·skip
          rintro a w ⟨hF, hS⟩
          refine stepV (i := 34) rfl hF (fun w hS => Y.move hF rfl) rfl fun a hF => ?_
          refine cutV (u := w7SlaveKnown_tr6_38) (fun a w => Frm 527 [] [(0, .bool sv_2), (39, iv rv_52.2), (41, iv rv_53.2), (43, iv rv_55.2), (45, iv i_3), (55, .pointer (some ⟨b_31, 0, none⟩)), (56, iv rv_52.1), (57, .slice p_570 rv_53.1.length c_527), (58, .bool rv_55.1), (59, iv nonev), (483, .bool (((t_7 && (rv_48.2 == 0)) && ([rv_48.1.Pre, rv_48.1.Home, rv_48.1.First, rv_48.1.Send] == [(-1), 10, 1, 1])) && (rv_50.2 == 0)))] a ∧ St w0 D0 Dv_345 [(50, .cells b_24 [iv rv_27.Ring, .slice p_543 rv_27.Starts.length c_500, .slice p_544 rv_27.Events.length c_501] 25), (55, .cells b_25 [iv rv_33.1.Pre, iv rv_33.1.Home, iv rv_33.1.First, iv rv_33.1.Send] 49), (56, .cells b_26 [iv rv_36.1.Low, iv rv_36.1.High] 33), (57, .cells b_27 [iv rv_39.1.Pre, iv rv_39.1.Home, iv rv_39.1.First, iv rv_39.1.Send] 49), (60, .cells b_28 [iv rv_41.Ring, .slice p_552 rv_41.Starts.length c_509, .slice p_555 (rv_41.Events ++ [(SlaveEvent.mk 1 0 10 1 0 0)]).length c_512] 25), (61, .own none ([] : List SlaveEvent).length 0 ([]) 66 6), (62, .own p_554 ([(SlaveEvent.mk 1 0 10 1 0 0)]).length c_511 ([iv 1, iv 0, iv 10, iv 1, iv 0, iv 0]) 66 6), (68, .cells b_29 [iv rv_45.1.Low, iv rv_45.1.High] 33), (71, .cells b_30 [iv rv_48.1.Pre, iv rv_48.1.Home, iv rv_48.1.First, iv rv_48.1.Send] 49), (75, .cells b_31 [iv rv_50.1.Pre, iv rv_50.1.Home, iv rv_50.1.First, iv rv_50.1.Send] 49)] w) ?_ ?_
          ·intro hcut
           rcases bcases ((t_7 && (rv_48.2 == 0)) && ([rv_48.1.Pre, rv_48.1.Home, rv_48.1.First, rv_48.1.Send] == [(-1), 10, 1, 1])) with hbv_53 | hbv_53
           ·-- true
            refine stepV_on (i := 35) rfl hF rfl rfl hbv_53 (fun w hS => Y.move hF rfl) rfl fun a hF => ?_
            refine stepV_on (i := 36) rfl hF rfl rfl hbv_53 (fun w hS => Y.eql hF rfl rfl) rfl fun a hF => ?_
            refine stepV (i := 37) rfl hF (fun w hS => Y.pick_t hF rfl hbv_53 rfl) rfl fun a hF => ?_
            exact hcut _ _ ⟨hF.weak ⟨rfl, rfl, rfl, rfl, rfl, rfl, rfl, rfl, rfl, rfl, (by rw [hbv_53]; rfl), trivial⟩, hS.weak (AL rfl)⟩
           ·-- false
            refine stepV_off (i := 35) rfl hF rfl rfl hbv_53 rfl fun a hF => ?_
            refine stepV_off (i := 36) rfl hF rfl rfl hbv_53 rfl fun a hF => ?_
            refine stepV (i := 37) rfl hF (fun w hS => Y.pick_f hF rfl hbv_53 rfl) rfl fun a hF => ?_
            exact hcut _ _ ⟨hF.weak ⟨rfl, rfl, rfl, rfl, rfl, rfl, rfl, rfl, rfl, rfl, (by rw [hbv_53]; rfl), trivial⟩, hS.weak (AL rfl)⟩
          ·skip
           rintro a w ⟨hF, hS⟩
           refine stepV (i := 38) rfl hF (fun w hS => Y.move hF rfl) rfl fun a hF => ?_
           refine cutV (u := w7SlaveKnown_tr6_43) (fun a w => Frm 527 [] [(0, .bool sv_2), (39, iv rv_52.2), (41, iv rv_53.2), (43, iv rv_55.2), (45, iv i_3), (56, iv rv_52.1), (57, .slice p_570 rv_53.1.length c_527), (58, .bool rv_55.1), (59, iv nonev), (488, .bool ((((t_7 && (rv_48.2 == 0)) && ([rv_48.1.Pre, rv_48.1.Home, rv_48.1.First, rv_48.1.Send] == [(-1), 10, 1, 1])) && (rv_50.2 == 0)) && ([rv_50.1.Pre, rv_50.1.Home, rv_50.1.First, rv_50.1.Send] == [(-1), 0, 0, 5])))] a ∧ St w0 D0 Dv_345 [(50, .cells b_24 [iv rv_27.Ring, .slice p_543 rv_27.Starts.length c_500, .slice p_544 rv_27.Events.length c_501] 25), (55, .cells b_25 [iv rv_33.1.Pre, iv rv_33.1.Home, iv rv_33.1.First, iv rv_33.1.Send] 49), (56, .cells b_26 [iv rv_36.1.Low, iv rv_36.1.High] 33), (57, .cells b_27 [iv rv_39.1.Pre, iv rv_39.1.Home, iv rv_39.1.First, iv rv_39.1.Send] 49), (60, .cells b_28 [iv rv_41.Ring, .slice p_552 rv_41.Starts.length c_509, .slice p_555 (rv_41.Events ++ [(SlaveEvent.mk 1 0 10 1 0 0)]).length c_512] 25), (61, .own none ([] : List SlaveEvent).length 0 ([]) 66 6), (62, .own p_554 ([(SlaveEvent.mk 1 0 10 1 0 0)]).length c_511 ([iv 1, iv 0, iv 10, iv 1, iv 0, iv 0]) 66 6), (68, .cells b_29 [iv rv_45.1.Low, iv rv_45.1.High] 33), (71, .cells b_30 [iv rv_48.1.Pre, iv rv_48.1.Home, iv rv_48.1.First, iv rv_48.1.Send] 49), (75, .cells b_31 [iv rv_50.1.Pre, iv rv_50.1.Home, iv rv_50.1.First, iv rv_50.1.Send] 49)] w) ?_ ?_
           ·intro hcut
            rcases bcases (((t_7 && (rv_48.2 == 0)) && ([rv_48.1.Pre, rv_48.1.Home, rv_48.1.First, rv_48.1.Send] == [(-1), 10, 1, 1])) && (rv_50.2 == 0)) with hbv_54 | hbv_54
            ·-- true
             refine stepV_on (i := 39) rfl hF rfl rfl hbv_54 (fun w hS => Y.loadNL 75 sz_49 hF rfl hS rfl rfl rfl) rfl fun a hF => ?_
             refine stepV_on (i := 40) rfl hF rfl rfl hbv_54 (fun w hS => Y.build (parts := [(0, (.const (iv (-1)))), (3, (.const (iv 5)))]) (cs := #[iv (-1), iv 0, iv 0, iv 5]) hF rfl (by kernel_rfl)) rfl fun a hF => ?_
             refine stepV_on (i := 41) rfl hF rfl rfl hbv_54 (fun w hS => Y.eqst (fun w => eqT_49.equal (by decide) (l := [rv_50.1.Pre, rv_50.1.Home, rv_50.1.First, rv_50.1.Send]) (m := [(-1), 0, 0, 5]) rfl rfl) (fun w => run_eqGuard_agg _ _ _ _ _ _ _ eg_49) hF rfl rfl) rfl fun a hF => ?_
             refine stepV (i := 42) rfl hF (fun w hS => Y.pick_t hF rfl hbv_54 rfl) rfl fun a hF => ?_
             exact hcut _ _ ⟨hF.weak ⟨rfl, rfl, rfl, rfl, rfl, rfl, rfl, rfl, rfl, (by rw [hbv_54]; rfl), trivial⟩, hS.weak (AL rfl)⟩
            ·-- false
             refine stepV_off (i := 39) rfl hF rfl rfl hbv_54 rfl fun a hF => ?_
             refine stepV_off (i := 40) rfl hF rfl rfl hbv_54 rfl fun a hF => ?_
             refine stepV_off (i := 41) rfl hF rfl rfl hbv_54 rfl fun a hF => ?_
             refine stepV (i := 42) rfl hF (fun w hS => Y.pick_f hF rfl hbv_54 rfl) rfl fun a hF => ?_
             exact hcut _ _ ⟨hF.weak ⟨rfl, rfl, rfl, rfl, rfl, rfl, rfl, rfl, rfl, (by rw [hbv_54]; rfl), trivial⟩, hS.weak (AL rfl)⟩
           ·skip
            rintro a w ⟨hF, hS⟩
            refine stepV (i := 43) rfl hF (fun w hS => Y.move hF rfl) rfl fun a hF => ?_
            refine cutV (u := w7SlaveKnown_tr6_47) (fun a w => Frm 527 [] [(0, .bool sv_2), (41, iv rv_53.2), (43, iv rv_55.2), (45, iv i_3), (56, iv rv_52.1), (57, .slice p_570 rv_53.1.length c_527), (58, .bool rv_55.1), (59, iv nonev), (492, .bool (((((t_7 && (rv_48.2 == 0)) && ([rv_48.1.Pre, rv_48.1.Home, rv_48.1.First, rv_48.1.Send] == [(-1), 10, 1, 1])) && (rv_50.2 == 0)) && ([rv_50.1.Pre, rv_50.1.Home, rv_50.1.First, rv_50.1.Send] == [(-1), 0, 0, 5])) && (rv_52.2 == 0)))] a ∧ St w0 D0 Dv_345 [(50, .cells b_24 [iv rv_27.Ring, .slice p_543 rv_27.Starts.length c_500, .slice p_544 rv_27.Events.length c_501] 25), (55, .cells b_25 [iv rv_33.1.Pre, iv rv_33.1.Home, iv rv_33.1.First, iv rv_33.1.Send] 49), (56, .cells b_26 [iv rv_36.1.Low, iv rv_36.1.High] 33), (57, .cells b_27 [iv rv_39.1.Pre, iv rv_39.1.Home, iv rv_39.1.First, iv rv_39.1.Send] 49), (60, .cells b_28 [iv rv_41.Ring, .slice p_552 rv_41.Starts.length c_509, .slice p_555 (rv_41.Events ++ [(SlaveEvent.mk 1 0 10 1 0 0)]).length c_512] 25), (61, .own none ([] : List SlaveEvent).length 0 ([]) 66 6), (62, .own p_554 ([(SlaveEvent.mk 1 0 10 1 0 0)]).length c_511 ([iv 1, iv 0, iv 10, iv 1, iv 0, iv 0]) 66 6), (68, .cells b_29 [iv rv_45.1.Low, iv rv_45.1.High] 33), (71, .cells b_30 [iv rv_48.1.Pre, iv rv_48.1.Home, iv rv_48.1.First, iv rv_48.1.Send] 49), (75, .cells b_31 [iv rv_50.1.Pre, iv rv_50.1.Home, iv rv_50.1.First, iv rv_50.1.Send] 49)] w) ?_ ?_
            ·intro hcut
             rcases bcases ((((t_7 && (rv_48.2 == 0)) && ([rv_48.1.Pre, rv_48.1.Home, rv_48.1.First, rv_48.1.Send] == [(-1), 10, 1, 1])) && (rv_50.2 == 0)) && ([rv_50.1.Pre, rv_50.1.Home, rv_50.1.First, rv_50.1.Send] == [(-1), 0, 0, 5])) with hbv_55 | hbv_55
             ·-- true
              refine stepV_on (i := 44) rfl hF rfl rfl hbv_55 (fun w hS => Y.move hF rfl) rfl fun a hF => ?_
              refine stepV_on (i := 45) rfl hF rfl rfl hbv_55 (fun w hS => Y.eql hF rfl rfl) rfl fun a hF => ?_
              refine stepV (i := 46) rfl hF (fun w hS => Y.pick_t hF rfl hbv_55 rfl) rfl fun a hF => ?_
              exact hcut _ _ ⟨hF.weak ⟨rfl, rfl, rfl, rfl, rfl, rfl, rfl, rfl, (by rw [hbv_55]; rfl), trivial⟩, hS.weak (AL rfl)⟩
             ·-- false
              refine stepV_off (i := 44) rfl hF rfl rfl hbv_55 rfl fun a hF => ?_
              refine stepV_off (i := 45) rfl hF rfl rfl hbv_55 rfl fun a hF => ?_
              refine stepV (i := 46) rfl hF (fun w hS => Y.pick_f hF rfl hbv_55 rfl) rfl fun a hF => ?_
              exact hcut _ _ ⟨hF.weak ⟨rfl, rfl, rfl, rfl, rfl, rfl, rfl, rfl, (by rw [hbv_55]; rfl), trivial⟩, hS.weak (AL rfl)⟩
            ·skip
             rintro a w ⟨hF, hS⟩
             refine stepV (i := 47) rfl hF (fun w hS => Y.move hF rfl) rfl fun a hF => ?_
             refine cutV (u := w7SlaveKnown_tr6_51) (fun a w => Frm 527 [] [(0, .bool sv_2), (41, iv rv_53.2), (43, iv rv_55.2), (45, iv i_3), (57, .slice p_570 rv_53.1.length c_527), (58, .bool rv_55.1), (59, iv nonev), (496, .bool ((((((t_7 && (rv_48.2 == 0)) && ([rv_48.1.Pre, rv_48.1.Home, rv_48.1.First, rv_48.1.Send] == [(-1), 10, 1, 1])) && (rv_50.2 == 0)) && ([rv_50.1.Pre, rv_50.1.Home, rv_50.1.First, rv_50.1.Send] == [(-1), 0, 0, 5])) && (rv_52.2 == 0)) && (rv_52.1 == 11)))] a ∧ St w0 D0 Dv_345 [(50, .cells b_24 [iv rv_27.Ring, .slice p_543 rv_27.Starts.length c_500, .slice p_544 rv_27.Events.length c_501] 25), (55, .cells b_25 [iv rv_33.1.Pre, iv rv_33.1.Home, iv rv_33.1.First, iv rv_33.1.Send] 49), (56, .cells b_26 [iv rv_36.1.Low, iv rv_36.1.High] 33), (57, .cells b_27 [iv rv_39.1.Pre, iv rv_39.1.Home, iv rv_39.1.First, iv rv_39.1.Send] 49), (60, .cells b_28 [iv rv_41.Ring, .slice p_552 rv_41.Starts.length c_509, .slice p_555 (rv_41.Events ++ [(SlaveEvent.mk 1 0 10 1 0 0)]).length c_512] 25), (61, .own none ([] : List SlaveEvent).length 0 ([]) 66 6), (62, .own p_554 ([(SlaveEvent.mk 1 0 10 1 0 0)]).length c_511 ([iv 1, iv 0, iv 10, iv 1, iv 0, iv 0]) 66 6), (68, .cells b_29 [iv rv_45.1.Low, iv rv_45.1.High] 33), (71, .cells b_30 [iv rv_48.1.Pre, iv rv_48.1.Home, iv rv_48.1.First, iv rv_48.1.Send] 49), (75, .cells b_31 [iv rv_50.1.Pre, iv rv_50.1.Home, iv rv_50.1.First, iv rv_50.1.Send] 49)] w) ?_ ?_
             ·intro hcut
              rcases bcases (((((t_7 && (rv_48.2 == 0)) && ([rv_48.1.Pre, rv_48.1.Home, rv_48.1.First, rv_48.1.Send] == [(-1), 10, 1, 1])) && (rv_50.2 == 0)) && ([rv_50.1.Pre, rv_50.1.Home, rv_50.1.First, rv_50.1.Send] == [(-1), 0, 0, 5])) && (rv_52.2 == 0)) with hbv_56 | hbv_56
              ·-- true
               refine stepV_on (i := 48) rfl hF rfl rfl hbv_56 (fun w hS => Y.move hF rfl) rfl fun a hF => ?_
               refine stepV_on (i := 49) rfl hF rfl rfl hbv_56 (fun w hS => Y.eql hF rfl rfl) rfl fun a hF => ?_
               refine stepV (i := 50) rfl hF (fun w hS => Y.pick_t hF rfl hbv_56 rfl) rfl fun a hF => ?_
               exact hcut _ _ ⟨hF.weak ⟨rfl, rfl, rfl, rfl, rfl, rfl, rfl, (by rw [hbv_56]; rfl), trivial⟩, hS.weak (AL rfl)⟩
              ·-- false
               refine stepV_off (i := 48) rfl hF rfl rfl hbv_56 rfl fun a hF => ?_
               refine stepV_off (i := 49) rfl hF rfl rfl hbv_56 rfl fun a hF => ?_
               refine stepV (i := 50) rfl hF (fun w hS => Y.pick_f hF rfl hbv_56 rfl) rfl fun a hF => ?_
               exact hcut _ _ ⟨hF.weak ⟨rfl, rfl, rfl, rfl, rfl, rfl, rfl, (by rw [hbv_56]; rfl), trivial⟩, hS.weak (AL rfl)⟩
             ·skip
              rintro a w ⟨hF, hS⟩
              refine stepV (i := 51) rfl hF (fun w hS => Y.move hF rfl) rfl fun a hF => ?_
              refine cutV (u := w7SlaveKnown_tr6_55) (fun a w => Frm 527 [] [(0, .bool sv_2), (43, iv rv_55.2), (45, iv i_3), (57, .slice p_570 rv_53.1.length c_527), (58, .bool rv_55.1), (59, iv nonev), (500, .bool (((((((t_7 && (rv_48.2 == 0)) && ([rv_48.1.Pre, rv_48.1.Home, rv_48.1.First, rv_48.1.Send] == [(-1), 10, 1, 1])) && (rv_50.2 == 0)) && ([rv_50.1.Pre, rv_50.1.Home, rv_50.1.First, rv_50.1.Send] == [(-1), 0, 0, 5])) && (rv_52.2 == 0)) && (rv_52.1 == 11)) && (rv_53.2 == 0)))] a ∧ St w0 D0 Dv_345 [(50, .cells b_24 [iv rv_27.Ring, .slice p_543 rv_27.Starts.length c_500, .slice p_544 rv_27.Events.length c_501] 25), (55, .cells b_25 [iv rv_33.1.Pre, iv rv_33.1.Home, iv rv_33.1.First, iv rv_33.1.Send] 49), (56, .cells b_26 [iv rv_36.1.Low, iv rv_36.1.High] 33), (57, .cells b_27 [iv rv_39.1.Pre, iv rv_39.1.Home, iv rv_39.1.First, iv rv_39.1.Send] 49), (60, .cells b_28 [iv rv_41.Ring, .slice p_552 rv_41.Starts.length c_509, .slice p_555 (rv_41.Events ++ [(SlaveEvent.mk 1 0 10 1 0 0)]).length c_512] 25), (61, .own none ([] : List SlaveEvent).length 0 ([]) 66 6), (62, .own p_554 ([(SlaveEvent.mk 1 0 10 1 0 0)]).length c_511 ([iv 1, iv 0, iv 10, iv 1, iv 0, iv 0]) 66 6), (68, .cells b_29 [iv rv_45.1.Low, iv rv_45.1.High] 33), (71, .cells b_30 [iv rv_48.1.Pre, iv rv_48.1.Home, iv rv_48.1.First, iv rv_48.1.Send] 49), (75, .cells b_31 [iv rv_50.1.Pre, iv rv_50.1.Home, iv rv_50.1.First, iv rv_50.1.Send] 49)] w) ?_ ?_
              ·intro hcut
               rcases bcases ((((((t_7 && (rv_48.2 == 0)) && ([rv_48.1.Pre, rv_48.1.Home, rv_48.1.First, rv_48.1.Send] == [(-1), 10, 1, 1])) && (rv_50.2 == 0)) && ([rv_50.1.Pre, rv_50.1.Home, rv_50.1.First, rv_50.1.Send] == [(-1), 0, 0, 5])) && (rv_52.2 == 0)) && (rv_52.1 == 11)) with hbv_57 | hbv_57
               ·-- true
                refine stepV_on (i := 52) rfl hF rfl rfl hbv_57 (fun w hS => Y.move hF rfl) rfl fun a hF => ?_
                refine stepV_on (i := 53) rfl hF rfl rfl hbv_57 (fun w hS => Y.eql hF rfl rfl) rfl fun a hF => ?_
                refine stepV (i := 54) rfl hF (fun w hS => Y.pick_t hF rfl hbv_57 rfl) rfl fun a hF => ?_
                exact hcut _ _ ⟨hF.weak ⟨rfl, rfl, rfl, rfl, rfl, rfl, (by rw [hbv_57]; rfl), trivial⟩, hS.weak (AL rfl)⟩
               ·-- false
                refine stepV_off (i := 52) rfl hF rfl rfl hbv_57 rfl fun a hF => ?_
                refine stepV_off (i := 53) rfl hF rfl rfl hbv_57 rfl fun a hF => ?_
                refine stepV (i := 54) rfl hF (fun w hS => Y.pick_f hF rfl hbv_57 rfl) rfl fun a hF => ?_
                exact hcut _ _ ⟨hF.weak ⟨rfl, rfl, rfl, rfl, rfl, rfl, (by rw [hbv_57]; rfl), trivial⟩, hS.weak (AL rfl)⟩
              ·skip
               rintro a w ⟨hF, hS⟩
               refine stepV (i := 55) rfl hF (fun w hS => Y.move hF rfl) rfl fun a hF => ?_
               replace h := ndet h
               obtain ⟨t_8, ht_8, h⟩ := h
               refine cutV (u := w7SlaveKnown_tr6_60) (fun a w => ∃ (D : Stab), Dv_345.le D ∧ Frm 527 [] [(0, .bool sv_2), (43, iv rv_55.2), (45, iv i_3), (58, .bool rv_55.1), (59, iv nonev), (505, .bool t_8)] a ∧ St w0 D0 D [(50, .cells b_24 [iv rv_27.Ring, .slice p_543 rv_27.Starts.length c_500, .slice p_544 rv_27.Events.length c_501] 25), (55, .cells b_25 [iv rv_33.1.Pre, iv rv_33.1.Home, iv rv_33.1.First, iv rv_33.1.Send] 49), (56, .cells b_26 [iv rv_36.1.Low, iv rv_36.1.High] 33), (57, .cells b_27 [iv rv_39.1.Pre, iv rv_39.1.Home, iv rv_39.1.First, iv rv_39.1.Send] 49), (60, .cells b_28 [iv rv_41.Ring, .slice p_552 rv_41.Starts.length c_509, .slice p_555 (rv_41.Events ++ [(SlaveEvent.mk 1 0 10 1 0 0)]).length c_512] 25), (61, .own none ([] : List SlaveEvent).length 0 ([]) 66 6), (62, .own p_554 ([(SlaveEvent.mk 1 0 10 1 0 0)]).length c_511 ([iv 1, iv 0, iv 10, iv 1, iv 0, iv 0]) 66 6), (68, .cells b_29 [iv rv_45.1.Low, iv rv_45.1.High] 33), (71, .cells b_30 [iv rv_48.1.Pre, iv rv_48.1.Home, iv rv_48.1.First, iv rv_48.1.Send] 49), (75, .cells b_31 [iv rv_50.1.Pre, iv rv_50.1.Home, iv rv_50.1.First, iv rv_50.1.Send] 49)] w) ?_ ?_
               ·intro hcut
                rcases bcases (((((((t_7 && (rv_48.2 == 0)) && ([rv_48.1.Pre, rv_48.1.Home, rv_48.1.First, rv_48.1.Send] == [(-1), 10, 1, 1])) && (rv_50.2 == 0)) && ([rv_50.1.Pre, rv_50.1.Home, rv_50.1.First, rv_50.1.Send] == [(-1), 0, 0, 5])) && (rv_52.2 == 0)) && (rv_52.1 == 11)) && (rv_53.2 == 0)) with hbv_58 | hbv_58
                ·-- true
                 replace h := cond_t ht_8 hbv_58
                 refine stepV_on (i := 56) rfl hF rfl rfl hbv_58 (fun w hS => Y.move hF rfl) rfl fun a hF => ?_
                 refine oneV (i := 57) rfl ?_ trivial
                 refine guard_on hF rfl rfl hbv_58 ?_
                 have hr_552 : Reps C_int Dv_345 [0, 10, 11] [iv 0, iv 10, iv 11] := Reps.cons (C := C_int) (x := 0) (c := [iv 0]) (r := [iv 10, iv 11]) rfl (Reps.cons (C := C_int) (x := 10) (c := [iv 10]) (r := [iv 11]) rfl (Reps.cons (C := C_int) (x := 11) (c := [iv 11]) (r := []) rfl (Reps.nil)))
                 refine O.buildSlice (E := 3) (C := C_int) (xs := [0, 10, 11]) (cs := [iv 0, iv 10, iv 11]) (us := [iv 0, iv 10, iv 11]) (parts := [(0, (.const (iv 0))), (1, (.const (iv 10))), (2, (.const (iv 11)))]) 85 hF hS rfl (by kernel_rfl) hr_552 rfl rfl rfl fun p_578 c_535 a w hF hS => ?_
                 refine nT ⟨(hS.weak (ms := [(50, .cells b_24 [iv rv_27.Ring, .slice p_543 rv_27.Starts.length c_500, .slice p_544 rv_27.Events.length c_501] 25), (55, .cells b_25 [iv rv_33.1.Pre, iv rv_33.1.Home, iv rv_33.1.First, iv rv_33.1.Send] 49), (56, .cells b_26 [iv rv_36.1.Low, iv rv_36.1.High] 33), (57, .cells b_27 [iv rv_39.1.Pre, iv rv_39.1.Home, iv rv_39.1.First, iv rv_39.1.Send] 49), (60, .cells b_28 [iv rv_41.Ring, .slice p_552 rv_41.Starts.length c_509, .slice p_555 (rv_41.Events ++ [(SlaveEvent.mk 1 0 10 1 0 0)]).length c_512] 25), (61, .own none ([] : List SlaveEvent).length 0 ([]) 66 6), (62, .own p_554 ([(SlaveEvent.mk 1 0 10 1 0 0)]).length c_511 ([iv 1, iv 0, iv 10, iv 1, iv 0, iv 0]) 66 6), (68, .cells b_29 [iv rv_45.1.Low, iv rv_45.1.High] 33), (71, .cells b_30 [iv rv_48.1.Pre, iv rv_48.1.Home, iv rv_48.1.First, iv rv_48.1.Send] 49), (75, .cells b_31 [iv rv_50.1.Pre, iv rv_50.1.Home, iv rv_50.1.First, iv rv_50.1.Send] 49)]) (AL rfl)).weakD (hlev_341.trans hlev_343) hle0, ?_⟩
                 refine oneV (i := 58) rfl ?_ trivial
                 refine guard_on hF rfl rfl hbv_58 ?_
                 obtain ⟨Dv_346, hlev_344, hs_543, hS⟩ := hS.freezeC (C := C_int) (i := 85) (xs := [0, 10, 11]) rfl hr_552
                 replace hG := hG.mono hlev_344
                 replace hs_533 := hs_533.mono hlev_344
                 replace h := bind_some h
                 obtain ⟨rv_65, hx_75, h⟩ := h
                 refine O.callP (us := [.slice p_570 rv_53.1.length c_527, .slice p_578 ([0, 10, 11]).length c_535]) ca_18 hF hS (r0Alike_ok hS.stab rv_53.1 ([0, 10, 11]) hs_533 hs_543 rv_65 hx_75) rfl rfl fun a w hF hS => ?_
                 refine nT ⟨(hS.weak (ms := [(50, .cells b_24 [iv rv_27.Ring, .slice p_543 rv_27.Starts.length c_500, .slice p_544 rv_27.Events.length c_501] 25), (55, .cells b_25 [iv rv_33.1.Pre, iv rv_33.1.Home, iv rv_33.1.First, iv rv_33.1.Send] 49), (56, .cells b_26 [iv rv_36.1.Low, iv rv_36.1.High] 33), (57, .cells b_27 [iv rv_39.1.Pre, iv rv_39.1.Home, iv rv_39.1.First, iv rv_39.1.Send] 49), (60, .cells b_28 [iv rv_41.Ring, .slice p_552 rv_41.Starts.length c_509, .slice p_555 (rv_41.Events ++ [(SlaveEvent.mk 1 0 10 1 0 0)]).length c_512] 25), (61, .own none ([] : List SlaveEvent).length 0 ([]) 66 6), (62, .own p_554 ([(SlaveEvent.mk 1 0 10 1 0 0)]).length c_511 ([iv 1, iv 0, iv 10, iv 1, iv 0, iv 0]) 66 6), (68, .cells b_29 [iv rv_45.1.Low, iv rv_45.1.High] 33), (71, .cells b_30 [iv rv_48.1.Pre, iv rv_48.1.Home, iv rv_48.1.First, iv rv_48.1.Send] 49), (75, .cells b_31 [iv rv_50.1.Pre, iv rv_50.1.Home, iv rv_50.1.First, iv rv_50.1.Send] 49)]) (AL rfl)).weakD (hlev_341.trans (hlev_343.trans hlev_344)) hle0, ?_⟩
                 refine stepV (i := 59) rfl hF (fun w hS => Y.pick_t hF rfl hbv_58 rfl) rfl fun a hF => ?_
                 obtain rfl := some_inj h
                 exact hcut _ _ ⟨Dv_346, hlev_344, hF.weak (AF rfl), hS.weak (AL rfl)⟩
                ·-- false
                 replace h := cond_f ht_8 hbv_58
                 refine stepV_off (i := 56) rfl hF rfl rfl hbv_58 rfl fun a hF => ?_
                 refine oneV (i := 57) rfl (guard_off hF rfl rfl hbv_58 rfl fun a hF => nT ⟨(hS.weak (ms := [(50, .cells b_24 [iv rv_27.Ring, .slice p_543 rv_27.Starts.length c_500, .slice p_544 rv_27.Events.length c_501] 25), (55, .cells b_25 [iv rv_33.1.Pre, iv rv_33.1.Home, iv rv_33.1.First, iv rv_33.1.Send] 49), (56, .cells b_26 [iv rv_36.1.Low, iv rv_36.1.High] 33), (57, .cells b_27 [iv rv_39.1.Pre, iv rv_39.1.Home, iv rv_39.1.First, iv rv_39.1.Send] 49), (60, .cells b_28 [iv rv_41.Ring, .slice p_552 rv_41.Starts.length c_509, .slice p_555 (rv_41.Events ++ [(SlaveEvent.mk 1 0 10 1 0 0)]).length c_512] 25), (61, .own none ([] : List SlaveEvent).length 0 ([]) 66 6), (62, .own p_554 ([(SlaveEvent.mk 1 0 10 1 0 0)]).length c_511 ([iv 1, iv 0, iv 10, iv 1, iv 0, iv 0]) 66 6), (68, .cells b_29 [iv rv_45.1.Low, iv rv_45.1.High] 33), (71, .cells b_30 [iv rv_48.1.Pre, iv rv_48.1.Home, iv rv_48.1.First, iv rv_48.1.Send] 49), (75, .cells b_31 [iv rv_50.1.Pre, iv rv_50.1.Home, iv rv_50.1.First, iv rv_50.1.Send] 49)]) (AL rfl)).weakD (hlev_341.trans hlev_343) hle0, ?_⟩) trivial
                 refine oneV (i := 58) rfl (guard_off hF rfl rfl hbv_58 rfl fun a hF => nT ⟨(hS.weak (ms := [(50, .cells b_24 [iv rv_27.Ring, .slice p_543 rv_27.Starts.length c_500, .slice p_544 rv_27.Events.length c_501] 25), (55, .cells b_25 [iv rv_33.1.Pre, iv rv_33.1.Home, iv rv_33.1.First, iv rv_33.1.Send] 49), (56, .cells b_26 [iv rv_36.1.Low, iv rv_36.1.High] 33), (57, .cells b_27 [iv rv_39.1.Pre, iv rv_39.1.Home, iv rv_39.1.First, iv rv_39.1.Send] 49), (60, .cells b_28 [iv rv_41.Ring, .slice p_552 rv_41.Starts.length c_509, .slice p_555 (rv_41.Events ++ [(SlaveEvent.mk 1 0 10 1 0 0)]).length c_512] 25), (61, .own none ([] : List SlaveEvent).length 0 ([]) 66 6), (62, .own p_554 ([(SlaveEvent.mk 1 0 10 1 0 0)]).length c_511 ([iv 1, iv 0, iv 10, iv 1, iv 0, iv 0]) 66 6), (68, .cells b_29 [iv rv_45.1.Low, iv rv_45.1.High] 33), (71, .cells b_30 [iv rv_48.1.Pre, iv rv_48.1.Home, iv rv_48.1.First, iv rv_48.1.Send] 49), (75, .cells b_31 [iv rv_50.1.Pre, iv rv_50.1.Home, iv rv_50.1.First, iv rv_50.1.Send] 49)]) (AL rfl)).weakD (hlev_341.trans hlev_343) hle0, ?_⟩) trivial
                 refine stepV (i := 59) rfl hF (fun w hS => Y.pick_f hF rfl hbv_58 rfl) rfl fun a hF => ?_
                 obtain rfl := some_inj h
                 exact hcut _ _ ⟨Dv_345, Stab.le.refl _, hF.weak (AF rfl), hS.weak (AL rfl)⟩
               ·skip
                rintro a w ⟨Dv_347, hlev_345, hF, hS⟩
                replace hG := hG.mono hlev_345
                refine stepV (i := 60) rfl hF (fun w hS => Y.move hF rfl) rfl fun a hF => ?_
                refine cutV (u := w7SlaveKnown_tr6_64) (fun a w => Frm 527 [] [(0, .bool sv_2), (45, iv i_3), (58, .bool rv_55.1), (59, iv nonev), (509, .bool (t_8 && (rv_55.2 == 0)))] a ∧ St w0 D0 Dv_347 [(50, .cells b_24 [iv rv_27.Ring, .slice p_543 rv_27.Starts.length c_500, .slice p_544 rv_27.Events.length c_501] 25), (55, .cells b_25 [iv rv_33.1.Pre, iv rv_33.1.Home, iv rv_33.1.First, iv rv_33.1.Send] 49), (56, .cells b_26 [iv rv_36.1.Low, iv rv_36.1.High] 33), (57, .cells b_27 [iv rv_39.1.Pre, iv rv_39.1.Home, iv rv_39.1.First, iv rv_39.1.Send] 49), (60, .cells b_28 [iv rv_41.Ring, .slice p_552 rv_41.Starts.length c_509, .slice p_555 (rv_41.Events ++ [(SlaveEvent.mk 1 0 10 1 0 0)]).length c_512] 25), (61, .own none ([] : List SlaveEvent).length 0 ([]) 66 6), (62, .own p_554 ([(SlaveEvent.mk 1 0 10 1 0 0)]).length c_511 ([iv 1, iv 0, iv 10, iv 1, iv 0, iv 0]) 66 6), (68, .cells b_29 [iv rv_45.1.Low, iv rv_45.1.High] 33), (71, .cells b_30 [iv rv_48.1.Pre, iv rv_48.1.Home, iv rv_48.1.First, iv rv_48.1.Send] 49), (75, .cells b_31 [iv rv_50.1.Pre, iv rv_50.1.Home, iv rv_50.1.First, iv rv_50.1.Send] 49)] w) ?_ ?_
                ·intro hcut
                 rcases bcases t_8 with hbv_59 | hbv_59
                 ·-- true
                  refine stepV_on (i := 61) rfl hF rfl rfl hbv_59 (fun w hS => Y.move hF rfl) rfl fun a hF => ?_
                  refine stepV_on (i := 62) rfl hF rfl rfl hbv_59 (fun w hS => Y.eql hF rfl rfl) rfl fun a hF => ?_
                  refine stepV (i := 63) rfl hF (fun w hS => Y.pick_t hF rfl hbv_59 rfl) rfl fun a hF => ?_
                  exact hcut _ _ ⟨hF.weak ⟨rfl, rfl, rfl, rfl, (by rw [hbv_59]; rfl), trivial⟩, hS.weak (AL rfl)⟩
                 ·-- false
                  refine stepV_off (i := 61) rfl hF rfl rfl hbv_59 rfl fun a hF => ?_
                  refine stepV_off (i := 62) rfl hF rfl rfl hbv_59 rfl fun a hF => ?_
                  refine stepV (i := 63) rfl hF (fun w hS => Y.pick_f hF rfl hbv_59 rfl) rfl fun a hF => ?_
                  exact hcut _ _ ⟨hF.weak ⟨rfl, rfl, rfl, rfl, (by rw [hbv_59]; rfl), trivial⟩, hS.weak (AL rfl)⟩
                ·skip
                 rintro a w ⟨hF, hS⟩
                 refine stepV (i := 64) rfl hF (fun w hS => Y.move hF rfl) rfl fun a hF => ?_
                 refine cutV (u := w7SlaveKnown_tr6_68) (fun a w => Frm 527 [] [(0, .bool sv_2), (45, iv i_3), (59, iv nonev), (513, .bool ((t_8 && (rv_55.2 == 0)) && (!rv_55.1)))] a ∧ St w0 D0 Dv_347 [(50, .cells b_24 [iv rv_27.Ring, .slice p_543 rv_27.Starts.length c_500, .slice p_544 rv_27.Events.length c_501] 25), (55, .cells b_25 [iv rv_33.1.Pre, iv rv_33.1.Home, iv rv_33.1.First, iv rv_33.1.Send] 49), (56, .cells b_26 [iv rv_36.1.Low, iv rv_36.1.High] 33), (57, .cells b_27 [iv rv_39.1.Pre, iv rv_39.1.Home, iv rv_39.1.First, iv rv_39.1.Send] 49), (60, .cells b_28 [iv rv_41.Ring, .slice p_552 rv_41.Starts.length c_509, .slice p_555 (rv_41.Events ++ [(SlaveEvent.mk 1 0 10 1 0 0)]).length c_512] 25), (61, .own none ([] : List SlaveEvent).length 0 ([]) 66 6), (62, .own p_554 ([(SlaveEvent.mk 1 0 10 1 0 0)]).length c_511 ([iv 1, iv 0, iv 10, iv 1, iv 0, iv 0]) 66 6), (68, .cells b_29 [iv rv_45.1.Low, iv rv_45.1.High] 33), (71, .cells b_30 [iv rv_48.1.Pre, iv rv_48.1.Home, iv rv_48.1.First, iv rv_48.1.Send] 49), (75, .cells b_31 [iv rv_50.1.Pre, iv rv_50.1.Home, iv rv_50.1.First, iv rv_50.1.Send] 49)] w) ?_ ?_
                 ·intro hcut
                  rcases bcases (t_8 && (rv_55.2 == 0)) with hbv_60 | hbv_60
                  ·-- true
                   refine stepV_on (i := 65) rfl hF rfl rfl hbv_60 (fun w hS => Y.move hF rfl) rfl fun a hF => ?_
                   refine stepV_on (i := 66) rfl hF rfl rfl hbv_60 (fun w hS => Y.not hF rfl) rfl fun a hF => ?_
                   refine stepV (i := 67) rfl hF (fun w hS => Y.pick_t hF rfl hbv_60 rfl) rfl fun a hF => ?_
                   exact hcut _ _ ⟨hF.weak ⟨rfl, rfl, rfl, (by rw [hbv_60]; rfl), trivial⟩, hS.weak (AL rfl)⟩
                  ·-- false
                   refine stepV_off (i := 65) rfl hF rfl rfl hbv_60 rfl fun a hF => ?_
                   refine stepV_off (i := 66) rfl hF rfl rfl hbv_60 rfl fun a hF => ?_
                   refine stepV (i := 67) rfl hF (fun w hS => Y.pick_f hF rfl hbv_60 rfl) rfl fun a hF => ?_
                   exact hcut _ _ ⟨hF.weak ⟨rfl, rfl, rfl, (by rw [hbv_60]; rfl), trivial⟩, hS.weak (AL rfl)⟩
                 ·skip
                  rintro a w ⟨hF, hS⟩
                  refine stepV (i := 68) rfl hF (fun w hS => Y.move hF rfl) rfl fun a hF => ?_
                  refine cutV (u := w7SlaveKnown_tr6_72) (fun a w => Frm 527 [] [(0, .bool sv_2), (59, iv nonev), (517, .bool (((t_8 && (rv_55.2 == 0)) && (!rv_55.1)) && (i_3 == 0)))] a ∧ St w0 D0 Dv_347 [(50, .cells b_24 [iv rv_27.Ring, .slice p_543 rv_27.Starts.length c_500, .slice p_544 rv_27.Events.length c_501] 25), (55, .cells b_25 [iv rv_33.1.Pre, iv rv_33.1.Home, iv rv_33.1.First, iv rv_33.1.Send] 49), (56, .cells b_26 [iv rv_36.1.Low, iv rv_36.1.High] 33), (57, .cells b_27 [iv rv_39.1.Pre, iv rv_39.1.Home, iv rv_39.1.First, iv rv_39.1.Send] 49), (60, .cells b_28 [iv rv_41.Ring, .slice p_552 rv_41.Starts.length c_509, .slice p_555 (rv_41.Events ++ [(SlaveEvent.mk 1 0 10 1 0 0)]).length c_512] 25), (61, .own none ([] : List SlaveEvent).length 0 ([]) 66 6), (62, .own p_554 ([(SlaveEvent.mk 1 0 10 1 0 0)]).length c_511 ([iv 1, iv 0, iv 10, iv 1, iv 0, iv 0]) 66 6), (68, .cells b_29 [iv rv_45.1.Low, iv rv_45.1.High] 33), (71, .cells b_30 [iv rv_48.1.Pre, iv rv_48.1.Home, iv rv_48.1.First, iv rv_48.1.Send] 49), (75, .cells b_31 [iv rv_50.1.Pre, iv rv_50.1.Home, iv rv_50.1.First, iv rv_50.1.Send] 49)] w) ?_ ?_
                  ·intro hcut
                   rcases bcases ((t_8 && (rv_55.2 == 0)) && (!rv_55.1)) with hbv_61 | hbv_61
                   ·-- true
                    refine stepV_on (i := 69) rfl hF rfl rfl hbv_61 (fun w hS => Y.move hF rfl) rfl fun a hF => ?_
                    refine stepV_on (i := 70) rfl hF rfl rfl hbv_61 (fun w hS => Y.eql hF rfl rfl) rfl fun a hF => ?_
                    refine stepV (i := 71) rfl hF (fun w hS => Y.pick_t hF rfl hbv_61 rfl) rfl fun a hF => ?_
                    exact hcut _ _ ⟨hF.weak ⟨rfl, rfl, (by rw [hbv_61]; rfl), trivial⟩, hS.weak (AL rfl)⟩
                   ·-- false
                    refine stepV_off (i := 69) rfl hF rfl rfl hbv_61 rfl fun a hF => ?_
                    refine stepV_off (i := 70) rfl hF rfl rfl hbv_61 rfl fun a hF => ?_
                    refine stepV (i := 71) rfl hF (fun w hS => Y.pick_f hF rfl hbv_61 rfl) rfl fun a hF => ?_
                    exact hcut _ _ ⟨hF.weak ⟨rfl, rfl, (by rw [hbv_61]; rfl), trivial⟩, hS.weak (AL rfl)⟩
                  ·skip
                   rintro a w ⟨hF, hS⟩
                   refine stepV (i := 72) rfl hF (fun w hS => Y.move hF rfl) rfl fun a hF => ?_
                   refine cutV (u := w7SlaveKnown_tr6_76) (fun a w => Frm 527 [] [(0, .bool sv_2), (521, .bool ((((t_8 && (rv_55.2 == 0)) && (!rv_55.1)) && (i_3 == 0)) && (nonev == 0)))] a ∧ St w0 D0 Dv_347 [(50, .cells b_24 [iv rv_27.Ring, .slice p_543 rv_27.Starts.length c_500, .slice p_544 rv_27.Events.length c_501] 25), (55, .cells b_25 [iv rv_33.1.Pre, iv rv_33.1.Home, iv rv_33.1.First, iv rv_33.1.Send] 49), (56, .cells b_26 [iv rv_36.1.Low, iv rv_36.1.High] 33), (57, .cells b_27 [iv rv_39.1.Pre, iv rv_39.1.Home, iv rv_39.1.First, iv rv_39.1.Send] 49), (60, .cells b_28 [iv rv_41.Ring, .slice p_552 rv_41.Starts.length c_509, .slice p_555 (rv_41.Events ++ [(SlaveEvent.mk 1 0 10 1 0 0)]).length c_512] 25), (61, .own none ([] : List SlaveEvent).length 0 ([]) 66 6), (62, .own p_554 ([(SlaveEvent.mk 1 0 10 1 0 0)]).length c_511 ([iv 1, iv 0, iv 10, iv 1, iv 0, iv 0]) 66 6), (68, .cells b_29 [iv rv_45.1.Low, iv rv_45.1.High] 33), (71, .cells b_30 [iv rv_48.1.Pre, iv rv_48.1.Home, iv rv_48.1.First, iv rv_48.1.Send] 49), (75, .cells b_31 [iv rv_50.1.Pre, iv rv_50.1.Home, iv rv_50.1.First, iv rv_50.1.Send] 49)] w) ?_ ?_
                   ·intro hcut
                    rcases bcases (((t_8 && (rv_55.2 == 0)) && (!rv_55.1)) && (i_3 == 0)) with hbv_62 | hbv_62
                    ·-- true
                     refine stepV_on (i := 73) rfl hF rfl rfl hbv_62 (fun w hS => Y.move hF rfl) rfl fun a hF => ?_
                     refine stepV_on (i := 74) rfl hF rfl rfl hbv_62 (fun w hS => Y.eql hF rfl rfl) rfl fun a hF => ?_
                     refine stepV (i := 75) rfl hF (fun w hS => Y.pick_t hF rfl hbv_62 rfl) rfl fun a hF => ?_
                     exact hcut _ _ ⟨hF.weak ⟨rfl, (by rw [hbv_62]; rfl), trivial⟩, hS.weak (AL rfl)⟩
                    ·-- false
                     refine stepV_off (i := 73) rfl hF rfl rfl hbv_62 rfl fun a hF => ?_
                     refine stepV_off (i := 74) rfl hF rfl rfl hbv_62 rfl fun a hF => ?_
                     refine stepV (i := 75) rfl hF (fun w hS => Y.pick_f hF rfl hbv_62 rfl) rfl fun a hF => ?_
                     exact hcut _ _ ⟨hF.weak ⟨rfl, (by rw [hbv_62]; rfl), trivial⟩, hS.weak (AL rfl)⟩
                   ·skip
                    rintro a w ⟨hF, hS⟩
                    refine stepV (i := 76) rfl hF (fun w hS => Y.move hF rfl) rfl fun a hF => ?_
                    refine stepV (i := 77) rfl hF (fun w hS => Y.pickTF hF rfl) rfl fun a hF => ?_
                    refine stepV (i := 78) rfl hF (fun w hS => Y.move hF rfl) rfl fun a hF => ?_
                    obtain ⟨KQ_30, ht_9, hk_30⟩ := nbnd_ex h
                    refine cutV (u := w7SlaveKnown_tr6_81) (fun a w => ∃ (t_9 : Bool) (D : Stab), Dv_347.le D ∧ Frm 527 [] [(0, .bool sv_2), (526, .bool t_9)] a ∧ St w0 D0 D [(50, .cells b_24 [iv rv_27.Ring, .slice p_543 rv_27.Starts.length c_500, .slice p_544 rv_27.Events.length c_501] 25), (55, .cells b_25 [iv rv_33.1.Pre, iv rv_33.1.Home, iv rv_33.1.First, iv rv_33.1.Send] 49), (56, .cells b_26 [iv rv_36.1.Low, iv rv_36.1.High] 33), (57, .cells b_27 [iv rv_39.1.Pre, iv rv_39.1.Home, iv rv_39.1.First, iv rv_39.1.Send] 49), (60, .cells b_28 [iv rv_41.Ring, .slice p_552 rv_41.Starts.length c_509, .slice p_555 (rv_41.Events ++ [(SlaveEvent.mk 1 0 10 1 0 0)]).length c_512] 25), (61, .own none ([] : List SlaveEvent).length 0 ([]) 66 6), (62, .own p_554 ([(SlaveEvent.mk 1 0 10 1 0 0)]).length c_511 ([iv 1, iv 0, iv 10, iv 1, iv 0, iv 0]) 66 6), (68, .cells b_29 [iv rv_45.1.Low, iv rv_45.1.High] 33), (71, .cells b_30 [iv rv_48.1.Pre, iv rv_48.1.Home, iv rv_48.1.First, iv rv_48.1.Send] 49), (75, .cells b_31 [iv rv_50.1.Pre, iv rv_50.1.Home, iv rv_50.1.First, iv rv_50.1.Send] 49)] w ∧ KQ_30 t_9) ?_ ?_
                    ·intro hcut
                     rcases bcases ((((t_8 && (rv_55.2 == 0)) && (!rv_55.1)) && (i_3 == 0)) && (nonev == 0)) with hbv_63 | hbv_63
                     ·-- true
                      replace h := ncond_t ht_9 hbv_63
                      refine oneV (i := 79) rfl ?_ trivial
                      refine guard_on hF rfl rfl hbv_63 ?_
                      obtain ⟨KQ_29, hx_76, hk_29⟩ := nbnd_ex h
                      refine O.callPN (us := []) ca_23 hF hS (w7works_ok hS.stab hG KQ_29 hx_76) rfl rfl fun rv_67 h a w hF hS => ?_
                      replace h := hk_29 _ h
                      refine nT ⟨(hS.weak (ms := [(50, .cells b_24 [iv rv_27.Ring, .slice p_543 rv_27.Starts.length c_500, .slice p_544 rv_27.Events.length c_501] 25), (55, .cells b_25 [iv rv_33.1.Pre, iv rv_33.1.Home, iv rv_33.1.First, iv rv_33.1.Send] 49), (56, .cells b_26 [iv rv_36.1.Low, iv rv_36.1.High] 33), (57, .cells b_27 [iv rv_39.1.Pre, iv rv_39.1.Home, iv rv_39.1.First, iv rv_39.1.Send] 49), (60, .cells b_28 [iv rv_41.Ring, .slice p_552 rv_41.Starts.length c_509, .slice p_555 (rv_41.Events ++ [(SlaveEvent.mk 1 0 10 1 0 0)]).length c_512] 25), (61, .own none ([] : List SlaveEvent).length 0 ([]) 66 6), (62, .own p_554 ([(SlaveEvent.mk 1 0 10 1 0 0)]).length c_511 ([iv 1, iv 0, iv 10, iv 1, iv 0, iv 0]) 66 6), (68, .cells b_29 [iv rv_45.1.Low, iv rv_45.1.High] 33), (71, .cells b_30 [iv rv_48.1.Pre, iv rv_48.1.Home, iv rv_48.1.First, iv rv_48.1.Send] 49), (75, .cells b_31 [iv rv_50.1.Pre, iv rv_50.1.Home, iv rv_50.1.First, iv rv_50.1.Send] 49)]) (AL rfl)).weakD (hlev_341.trans (hlev_343.trans hlev_345)) hle0, ?_⟩
                      refine stepV (i := 80) rfl hF (fun w hS => Y.pick_t hF rfl hbv_63 rfl) rfl fun a hF => ?_
                      exact hcut _ _ ⟨_, Dv_347, Stab.le.refl _, hF.weak ⟨rfl, rfl, trivial⟩, hS.weak (AL rfl), nret h⟩
                     ·-- false
                      replace h := ncond_f ht_9 hbv_63
                      refine oneV (i := 79) rfl (guard_off hF rfl rfl hbv_63 rfl fun a hF => nT ⟨(hS.weak (ms := [(50, .cells b_24 [iv rv_27.Ring, .slice p_543 rv_27.Starts.length c_500, .slice p_544 rv_27.Events.length c_501] 25), (55, .cells b_25 [iv rv_33.1.Pre, iv rv_33.1.Home, iv rv_33.1.First, iv rv_33.1.Send] 49), (56, .cells b_26 [iv rv_36.1.Low, iv rv_36.1.High] 33), (57, .cells b_27 [iv rv_39.1.Pre, iv rv_39.1.Home, iv rv_39.1.First, iv rv_39.1.Send] 49), (60, .cells b_28 [iv rv_41.Ring, .slice p_552 rv_41.Starts.length c_509, .slice p_555 (rv_41.Events ++ [(SlaveEvent.mk 1 0 10 1 0 0)]).length c_512] 25), (61, .own none ([] : List SlaveEvent).length 0 ([]) 66 6), (62, .own p_554 ([(SlaveEvent.mk 1 0 10 1 0 0)]).length c_511 ([iv 1, iv 0, iv 10, iv 1, iv 0, iv 0]) 66 6), (68, .cells b_29 [iv rv_45.1.Low, iv rv_45.1.High] 33), (71, .cells b_30 [iv rv_48.1.Pre, iv rv_48.1.Home, iv rv_48.1.First, iv rv_48.1.Send] 49), (75, .cells b_31 [iv rv_50.1.Pre, iv rv_50.1.Home, iv rv_50.1.First, iv rv_50.1.Send] 49)]) (AL rfl)).weakD (hlev_341.trans (hlev_343.trans hlev_345)) hle0, ?_⟩) trivial
                      refine stepV (i := 80) rfl hF (fun w hS => Y.pick_f hF rfl hbv_63 rfl) rfl fun a hF => ?_
                      exact hcut _ _ ⟨_, Dv_347, Stab.le.refl _, hF.weak ⟨rfl, rfl, trivial⟩, hS.weak (AL rfl), nret h⟩
                    ·skip
                     rintro a w ⟨t_9, Dv_348, hlev_346, hF, hS, h⟩
                     replace h := hk_30 _ h
                     refine stepV (i := 81) rfl hF (fun w hS => Y.assign hF rfl) rfl fun a hF => ?_
                     refine toTailV ?_
                     refine nT ?_
                     refine ret_ ?_
                     exact leavePN _ (nret h) Tryd.results15 hF hS (.cons (.tmp rfl) .nil) .nil rfl
theorem w7SlaveKnown_s2_ok {w0 : World} {D0 : Stab} (sv_1 : Bool) {Dv_284 : Stab} (hle0_ : D0.le Dv_284) (hG : Glob Dv_284) (out : Bool → Prop) (h : w7SlaveKnown_s2 sv_1 out) {a : Act} {w : World} (hF : Frm 527 [] [(0, .bool sv_1)] a) (hS : St w0 D0 Dv_284 [] w) : WP none Tryd.prog (dropSeq 14 (Tryd.f15.body.getD .skip)) (base Tryd.prog Tryd.f15 (RetPN D0 w0 out fun (out : Bool) => .bool out)) a w := by
 unfold w7SlaveKnown_s2 at h
 refine seq ?_
 refine region ?_
 refine step hF (Y.build (parts := [(0, (.const (iv (-2))))]) (cs := #[iv (-2), iv 0, iv 0, iv 0]) hF rfl (by kernel_rfl)) rfl fun a hF => ?_
 refine step hF (Y.build (parts := [(0, (.const (iv 2)))]) (cs := #[iv 2, iv 0, iv 0, iv 0]) hF rfl (by kernel_rfl)) rfl fun a hF => ?_
 refine step hF (Y.build (parts := [(1, (.const (iv 61)))]) (cs := #[iv 0, iv 61, iv 0, iv 0]) hF rfl (by kernel_rfl)) rfl fun a hF => ?_
 refine step hF (Y.build (parts := [(1, (.const (iv (-1))))]) (cs := #[iv 0, iv (-1), iv 0, iv 0]) hF rfl (by kernel_rfl)) rfl fun a hF => ?_
 refine step hF (Y.build (parts := [(2, (.const (iv 2)))]) (cs := #[iv 0, iv 0, iv 2, iv 0]) hF rfl (by kernel_rfl)) rfl fun a hF => ?_
 refine step hF (Y.build (parts := [(3, (.const (iv 61)))]) (cs := #[iv 0, iv 0, iv 0, iv 61]) hF rfl (by kernel_rfl)) rfl fun a hF => ?_
 have hr_515 : Reps C_SlavePlan Dv_284 [(SlavePlan.mk (-2) 0 0 0), (SlavePlan.mk 2 0 0 0), (SlavePlan.mk 0 61 0 0), (SlavePlan.mk 0 (-1) 0 0), (SlavePlan.mk 0 0 2 0), (SlavePlan.mk 0 0 0 61)] [iv (-2), iv 0, iv 0, iv 0, iv 2, iv 0, iv 0, iv 0, iv 0, iv 61, iv 0, iv 0, iv 0, iv (-1), iv 0, iv 0, iv 0, iv 0, iv 2, iv 0, iv 0, iv 0, iv 0, iv 61] := Reps.cons (C := C_SlavePlan) (x := (SlavePlan.mk (-2) 0 0 0)) (c := [iv (-2), iv 0, iv 0, iv 0]) (r := [iv 2, iv 0, iv 0, iv 0, iv 0, iv 61, iv 0, iv 0, iv 0, iv (-1), iv 0, iv 0, iv 0, iv 0, iv 2, iv 0, iv 0, iv 0, iv 0, iv 61]) rfl (Reps.cons (C := C_SlavePlan) (x := (SlavePlan.mk 2 0 0 0)) (c := [iv 2, iv 0, iv 0, iv 0]) (r := [iv 0, iv 61, iv 0, iv 0, iv 0, iv (-1), iv 0, iv 0, iv 0, iv 0, iv 2, iv 0, iv 0, iv 0, iv 0, iv 61]) rfl (Reps.cons (C := C_SlavePlan) (x := (SlavePlan.mk 0 61 0 0)) (c := [iv 0, iv 61, iv 0, iv 0]) (r := [iv 0, iv (-1), iv 0, iv 0, iv 0, iv 0, iv 2, iv 0, iv 0, iv 0, iv 0, iv 61]) rfl (Reps.cons (C := C_SlavePlan) (x := (SlavePlan.mk 0 (-1) 0 0)) (c := [iv 0, iv (-1), iv 0, iv 0]) (r := [iv 0, iv 0, iv 2, iv 0, iv 0, iv 0, iv 0, iv 61]) rfl (Reps.cons (C := C_SlavePlan) (x := (SlavePlan.mk 0 0 2 0)) (c := [iv 0, iv 0, iv 2, iv 0]) (r := [iv 0, iv 0, iv 0, iv 61]) rfl (Reps.cons (C := C_SlavePlan) (x := (SlavePlan.mk 0 0 0 61)) (c := [iv 0, iv 0, iv 0, iv 61]) (r := []) rfl (Reps.nil))))))
 refine O.buildSlice (E := 49) (C := C_SlavePlan) (xs := [(SlavePlan.mk (-2) 0 0 0), (SlavePlan.mk 2 0 0 0), (SlavePlan.mk 0 61 0 0), (SlavePlan.mk 0 (-1) 0 0), (SlavePlan.mk 0 0 2 0), (SlavePlan.mk 0 0 0 61)]) (cs := [iv (-2), iv 0, iv 0, iv 0, iv 2, iv 0, iv 0, iv 0, iv 0, iv 61, iv 0, iv 0, iv 0, iv (-1), iv 0, iv 0, iv 0, iv 0, iv 2, iv 0, iv 0, iv 0, iv 0, iv 61]) (us := [.agg #[iv (-2), iv 0, iv 0, iv 0], .agg #[iv 2, iv 0, iv 0, iv 0], .agg #[iv 0, iv 61, iv 0, iv 0], .agg #[iv 0, iv (-1), iv 0, iv 0], .agg #[iv 0, iv 0, iv 2, iv 0], .agg #[iv 0, iv 0, iv 0, iv 61]]) (parts := [(0, (.tmp 261)), (1, (.tmp 262)), (2, (.tmp 263)), (3, (.tmp 264)), (4, (.tmp 265)), (5, (.tmp 266))]) 40 hF hS rfl (by kernel_rfl) hr_515 rfl rfl rfl fun p_535 c_492 a w hF hS => ?_
 refine step hF (Y.assign hF rfl) rfl fun a hF => ?_
 refine nT ?_
 refine seq ?_
 refine seq ?_
 refine region ?_
 refine step hF (Y.assign hF rfl) rfl fun a hF => ?_
 refine nT ?_
 refine block ?_
 refine loop_cutN (body := w7SlaveKnown_b4) (out := out) (fun s a w => ∃ (v0_2 : Bool) (i_2 : Int), ∃ (Dv_285 : Stab), s = (v0_2, i_2) ∧ Dv_284.le Dv_285 ∧ Frm 527 [] [(0, .bool v0_2), (23, .slice p_535 ([(SlavePlan.mk (-2) 0 0 0), (SlavePlan.mk 2 0 0 0), (SlavePlan.mk 0 61 0 0), (SlavePlan.mk 0 (-1) 0 0), (SlavePlan.mk 0 0 2 0), (SlavePlan.mk 0 0 0 61)]).length c_492), (24, iv i_2)] a ∧ St w0 D0 Dv_285 [(40, .own p_535 ([(SlavePlan.mk (-2) 0 0 0), (SlavePlan.mk 2 0 0 0), (SlavePlan.mk 0 61 0 0), (SlavePlan.mk 0 (-1) 0 0), (SlavePlan.mk 0 0 2 0), (SlavePlan.mk 0 0 0 61)]).length c_492 ([iv (-2), iv 0, iv 0, iv 0, iv 2, iv 0, iv 0, iv 0, iv 0, iv 61, iv 0, iv 0, iv 0, iv (-1), iv 0, iv 0, iv 0, iv 0, iv 2, iv 0, iv 0, iv 0, iv 0, iv 61]) 49 4)] w) (sv_1, 0) h ⟨sv_1, 0, Dv_284, rfl, Stab.le.refl _, hF.weak (AF rfl), hS.weak ⟨rfl, trivial⟩⟩ ?_
 rintro s a w xo_2 ⟨v0_2, i_2, Dv_285, rfl, hlev_284, hF, hS⟩ h
 unfold w7SlaveKnown_b4 at h
 try dsimp only at h
 replace hG := hG.mono hlev_284
 replace hr_515 := hr_515.mono hlev_284
 refine seq ?_
 refine seq ?_
 refine region ?_
 refine step hF (Y.move hF rfl) rfl fun a hF => ?_
 refine step hF (Y.move hF rfl) rfl fun a hF => ?_
 refine step hF (Y.lenSl u_84 hF rfl) rfl fun a hF => ?_
 refine step hF (Y.lss hF rfl rfl) rfl fun a hF => ?_
 refine nT ?_
 refine cond_b hF rfl (fun hbv_14 => ?_) (fun hbv_14 => ?_)
 ·replace h := ncond_t h hbv_14
  refine skip_ (then_n ?_)
  refine seq ?_
  refine block ?_
  refine seq ?_
  refine drawsV 12 (.flt 2 (.flt 3 (.flt 4 (.flt 5 (.alt 0 (.alt 1 (.alt 6 (.flt 7 (.flt 8 (.flt 9 (.flt 10 (.flt 11 .done))))) .stop) .stop) .stop))))) mixed_ (by kernel_rfl) (fun w => St w0 D0 Dv_285 [(40, .own p_535 ([(SlavePlan.mk (-2) 0 0 0), (SlavePlan.mk 2 0 0 0), (SlavePlan.mk 0 61 0 0), (SlavePlan.mk 0 (-1) 0 0), (SlavePlan.mk 0 0 2 0), (SlavePlan.mk 0 0 0 61)]).length c_492 ([iv (-2), iv 0, iv 0, iv 0, iv 2, iv 0, iv 0, iv 0, iv 0, iv 61, iv 0, iv 0, iv 0, iv (-1), iv 0, iv 0, iv 0, iv 0, iv 2, iv 0, iv 0, iv 0, iv 0, iv 61]) 49 4)] w) _ (hS.weak (ms := [(40, .own p_535 ([(SlavePlan.mk (-2) 0 0 0), (SlavePlan.mk 2 0 0 0), (SlavePlan.mk 0 61 0 0), (SlavePlan.mk 0 (-1) 0 0), (SlavePlan.mk 0 0 2 0), (SlavePlan.mk 0 0 0 61)]).length c_492 ([iv (-2), iv 0, iv 0, iv 0, iv 2, iv 0, iv 0, iv 0, iv 0, iv 61, iv 0, iv 0, iv 0, iv (-1), iv 0, iv 0, iv 0, iv 0, iv 2, iv 0, iv 0, iv 0, iv 0, iv 61]) 49 4)]) ⟨rfl, trivial⟩).drew (fun _ _ _ _ h => h) ?_ (fun _ _ h => h)
  replace hS := hS.drew
  have hle0 := hS.le
  refine stepV (i := 2) rfl hF (fun w hS => Y.move hF rfl) rfl fun a hF => ?_
  refine stepV (i := 3) rfl hF (fun w hS => Y.move hF rfl) rfl fun a hF => ?_
  replace h := ndet h
  obtain ⟨e_9, hx_35, h⟩ := h
  obtain ⟨b_23, hp_9⟩ := hS.ownPtr (i := 40) rfl (idx_rng hx_35)
  obtain ⟨cc_18, hc_18, hsub_9⟩ := ownElI (C := C_SlavePlan) hr_515 hx_35
  obtain rfl := C_SlavePlan.open hc_18
  refine stepV (i := 4) rfl hF (fun w hS => Y.indexOwn hp_9 u_84 sz_49 (idx_rng hx_35) hF rfl rfl) rfl fun a hF => ?_
  refine stepV (i := 5) rfl hF (fun w hS => Y.loadNE (o := 0 + Int.toNat i_2 * 4) (k := 0) sz_49 hF rfl (ownElCell (C := C_SlavePlan) (i := 40) hS rfl hp_9 hsub_9) rfl rfl) rfl fun a hF => ?_
  refine oneV (i := 0) rfl ?_ trivial
  have hr_519 : Reps C_int Dv_285 [7] [iv 7] := Reps.cons (C := C_int) (x := 7) (c := [iv 7]) (r := []) rfl (Reps.nil)
  refine O.buildSlice (E := 3) (C := C_int) (xs := [7]) (cs := [iv 7]) (us := [iv 7]) (parts := [(0, (.const (iv 7)))]) 44 hF hS rfl (by kernel_rfl) hr_519 rfl rfl rfl fun p_539 c_496 a w hF hS => ?_
  refine nT ⟨hS.weak ⟨rfl, trivial⟩, ?_⟩
  refine oneV (i := 1) rfl ?_ trivial
  obtain ⟨Dv_290, hlev_289, hs_484, hS⟩ := hS.freezeC (C := C_int) (i := 44) (xs := [7]) rfl hr_519
  replace hG := hG.mono hlev_289
  replace h := ndet h
  obtain ⟨rv_25, hx_36, h⟩ := h
  refine O.callM (us := [.slice p_539 ([7]).length c_496]) ca_55 hF (w7line_keep hS.stab ([7]) hs_484 rv_25 hx_36) rfl rfl fun v_212 Dv_291 a w hK_207 hlev_290 hF => ?_
  replace hG := hG.mono hlev_290
  obtain ⟨p_540, c_497, cs_463, p_541, c_498, cs_464, hS2_207, rfl, hr_520, hr_521⟩ := hK_207
  replace hS := hS.join hS2_207
  replace hS := hS.move 45 900 rfl (by decide)
  replace hS := hS.move 46 901 rfl (by decide)
  replace hS := hS.weak (ms := [(40, .own p_535 ([(SlavePlan.mk (-2) 0 0 0), (SlavePlan.mk 2 0 0 0), (SlavePlan.mk 0 61 0 0), (SlavePlan.mk 0 (-1) 0 0), (SlavePlan.mk 0 0 2 0), (SlavePlan.mk 0 0 0 61)]).length c_492 ([iv (-2), iv 0, iv 0, iv 0, iv 2, iv 0, iv 0, iv 0, iv 0, iv 61, iv 0, iv 0, iv 0, iv (-1), iv 0, iv 0, iv 0, iv 0, iv 2, iv 0, iv 0, iv 0, iv 0, iv 61]) 49 4), (45, .own p_540 rv_25.Starts.length c_497 cs_463 57 2), (46, .own p_541 rv_25.Events.length c_498 cs_464 66 6)]) (AL rfl)
  refine nT ⟨(hS.weak (ms := [(40, .own p_535 ([(SlavePlan.mk (-2) 0 0 0), (SlavePlan.mk 2 0 0 0), (SlavePlan.mk 0 61 0 0), (SlavePlan.mk 0 (-1) 0 0), (SlavePlan.mk 0 0 2 0), (SlavePlan.mk 0 0 0 61)]).length c_492 ([iv (-2), iv 0, iv 0, iv 0, iv 2, iv 0, iv 0, iv 0, iv 0, iv 61, iv 0, iv 0, iv 0, iv (-1), iv 0, iv 0, iv 0, iv 0, iv 2, iv 0, iv 0, iv 0, iv 0, iv 61]) 49 4)]) ⟨rfl, trivial⟩).weakD (hlev_289.trans hlev_290) hle0, ?_⟩
  refine oneV (i := 6) rfl ?_ trivial
  obtain ⟨Dv_292, hlev_291, hs_487, hS⟩ := hS.freezeC (C := C_SlaveStart) (i := 45) (xs := rv_25.Starts) rfl hr_520
  replace hG := hG.mono hlev_291
  replace hr_521 := hr_521.mono hlev_291
  obtain ⟨Dv_293, hlev_292, hs_488, hS⟩ := hS.freezeC (C := C_SlaveEvent) (i := 46) (xs := rv_25.Events) rfl hr_521
  replace hG := hG.mono hlev_292
  replace hs_487 := hs_487.mono hlev_292
  obtain ⟨KQ_8, hx_37, hk_8⟩ := nbnd_ex h
  refine O.callPN (us := [.agg #[iv rv_25.Ring, .slice p_540 rv_25.Starts.length c_497, .slice p_541 rv_25.Events.length c_498], iv 5, .agg #[iv e_9.Pre, iv e_9.Home, iv e_9.First, iv e_9.Send]]) ca_32 hF hS (slave_Sets_ok hS.stab rv_25 5 e_9 hs_487 hs_488 hG KQ_8 hx_37) rfl rfl fun rv_26 h a w hF hS => ?_
  replace h := hk_8 _ h
  refine nT ⟨(hS.weak (ms := [(40, .own p_535 ([(SlavePlan.mk (-2) 0 0 0), (SlavePlan.mk 2 0 0 0), (SlavePlan.mk 0 61 0 0), (SlavePlan.mk 0 (-1) 0 0), (SlavePlan.mk 0 0 2 0), (SlavePlan.mk 0 0 0 61)]).length c_492 ([iv (-2), iv 0, iv 0, iv 0, iv 2, iv 0, iv 0, iv 0, iv 0, iv 61, iv 0, iv 0, iv 0, iv (-1), iv 0, iv 0, iv 0, iv 0, iv 2, iv 0, iv 0, iv 0, iv 0, iv 61]) 49 4)]) ⟨rfl, trivial⟩).weakD (hlev_289.trans (hlev_290.trans (hlev_291.trans hlev_292))) hle0, ?_⟩
  refine stepV (i := 7) rfl hF (fun w hS => Y.move hF rfl) rfl fun a hF => ?_
  refine stepV (i := 8) rfl hF (fun w hS => Y.extract hF rfl rfl) rfl fun a hF => ?_
  refine stepV (i := 9) rfl hF (fun w hS => Y.extract hF rfl rfl) rfl fun a hF => ?_
  refine stepV (i := 10) rfl hF (fun w hS => Y.assign hF rfl) rfl fun a hF => ?_
  refine stepV (i := 11) rfl hF (fun w hS => Y.assign hF rfl) rfl fun a hF => ?_
  refine toTailV ?_
  refine nT ?_
  refine seq ?_
  refine region ?_
  refine step hF (Y.move hF rfl) rfl fun a hF => ?_
  refine step hF (Y.move hF rfl) rfl fun a hF => ?_
  refine join (N := 527) (rs := []) (w0 := w0) (D0 := D0) 3 (us := [(0, .bool v0_2), (23, .slice p_535 ([(SlavePlan.mk (-2) 0 0 0), (SlavePlan.mk 2 0 0 0), (SlavePlan.mk 0 61 0 0), (SlavePlan.mk 0 (-1) 0 0), (SlavePlan.mk 0 0 2 0), (SlavePlan.mk 0 0 0 61)]).length c_492), (24, iv i_2), (288, .bool (rv_26.1 || (rv_26.2 != 71)))]) (ms := [(40, .own p_535 ([(SlavePlan.mk (-2) 0 0 0), (SlavePlan.mk 2 0 0 0), (SlavePlan.mk 0 61 0 0), (SlavePlan.mk 0 (-1) 0 0), (SlavePlan.mk 0 0 2 0), (SlavePlan.mk 0 0 0 61)]).length c_492 ([iv (-2), iv 0, iv 0, iv 0, iv 2, iv 0, iv 0, iv 0, iv 0, iv 61, iv 0, iv 0, iv 0, iv (-1), iv 0, iv 0, iv 0, iv 0, iv 2, iv 0, iv 0, iv 0, iv 0, iv 61]) 49 4)]) (D' := Dv_293) ?_ ?_
  ·rcases bcases rv_26.1 with hbv_15 | hbv_15
   ·-- true
    refine guard_off hF rfl rfl hbv_15 rfl fun a hF => ?_
    refine guard_off hF rfl rfl hbv_15 rfl fun a hF => ?_
    refine step hF (Y.pick_t hF rfl hbv_15 rfl) rfl fun a hF => ?_
    exact nT ⟨hF.weak ⟨rfl, rfl, rfl, (by rw [hbv_15]; rfl), trivial⟩, hS.weak ⟨rfl, trivial⟩⟩
   ·-- false
    refine guard_on hF rfl rfl hbv_15 ?_
    refine step hF (Y.move hF rfl) rfl fun a hF => ?_
    refine guard_on hF rfl rfl hbv_15 ?_
    refine step hF (Y.neq hF rfl rfl) rfl fun a hF => ?_
    refine step hF (Y.pick_f hF rfl hbv_15 rfl) rfl fun a hF => ?_
    exact nT ⟨hF.weak ⟨rfl, rfl, rfl, (by rw [hbv_15]; rfl), trivial⟩, hS.weak ⟨rfl, trivial⟩⟩
  intro a w hF hS
  refine nT ?_
  refine cond_b hF rfl (fun hbv_16 => ?_) (fun hbv_16 => ?_)
  ·replace h := ncond_t h hbv_16
   refine seq ?_
   refine region ?_
   refine step hF (Y.assign hF rfl) rfl fun a hF => ?_
   refine nT ?_
   refine ret_ (blk_r (then_r (then_r (blk_r (then_r ?_)))))
   replace h := next_h h
   exact leavePN _ (nret h) Tryd.results15 hF hS (.cons (.tmp rfl) .nil) .nil rfl
  ·replace h := ncond_f h hbv_16
   refine skip_ (blk_n (then_n ?_))
   refine region ?_
   refine step hF (Y.move hF rfl) rfl fun a hF => ?_
   refine step hF (Y.add hF rfl rfl) rfl fun a hF => ?_
   refine step hF (Y.assign hF rfl) rfl fun a hF => ?_
   refine nT ?_
   exact ⟨_, nnxt_h h, v0_2, (wr (i_2 + 1)), Dv_293, rfl, hlev_284.trans (hlev_289.trans (hlev_290.trans (hlev_291.trans hlev_292))), hF.weak (AF rfl), hS.weak ⟨rfl, trivial⟩⟩
 ·replace h := ncond_f h hbv_14
  refine exit_ (then_x (then_x (blk_hit (then_n ?_))))
  replace h := next_h h
  exact w7SlaveKnown_s3_ok v0_2 (hle0_.trans hlev_284) hG out h (hF.weak (us := [(0, .bool v0_2)]) ⟨rfl, trivial⟩) (hS.weak (ms := []) trivial)
theorem w7SlaveKnown_s1_ok {w0 : World} {D0 : Stab} (sv : Bool) {Dv_270 : Stab} (hle0_ : D0.le Dv_270) (hG : Glob Dv_270) (out : Bool → Prop) (h : w7SlaveKnown_s1 sv out) {a : Act} {w : World} (hF : Frm 527 [] [(0, .bool sv)] a) (hS : St w0 D0 Dv_270 [] w) : WP none Tryd.prog (dropSeq 12 (Tryd.f15.body.getD .skip)) (base Tryd.prog Tryd.f15 (RetPN D0 w0 out fun (out : Bool) => .bool out)) a w := by
 unfold w7SlaveKnown_s1 at h
 refine seq ?_
 refine region ?_
 have hr_505 : Reps C_int Dv_270 [1, 2] [iv 1, iv 2] := Reps.cons (C := C_int) (x := 1) (c := [iv 1]) (r := [iv 2]) rfl (Reps.cons (C := C_int) (x := 2) (c := [iv 2]) (r := []) rfl (Reps.nil))
 refine O.buildSlice (E := 3) (C := C_int) (xs := [1, 2]) (cs := [iv 1, iv 2]) (us := [iv 1, iv 2]) (parts := [(0, (.const (iv 1))), (1, (.const (iv 2)))]) 30 hF hS rfl (by kernel_rfl) hr_505 rfl rfl rfl fun p_519 c_476 a w hF hS => ?_
 obtain ⟨Dv_271, hlev_271, hs_464, hS⟩ := hS.freezeC (C := C_int) (i := 30) (xs := [1, 2]) rfl hr_505
 replace hG := hG.mono hlev_271
 have hr_506 : Reps (C_sl C_int) Dv_271 [[1, 2]] [.slice p_519 ([1, 2]).length c_476] := Reps.cons (C := (C_sl C_int)) (x := [1, 2]) (c := [.slice p_519 ([1, 2]).length c_476]) (r := []) (⟨_, _, rfl, hs_464⟩) (Reps.nil)
 refine O.buildSlice (E := 26) (C := (C_sl C_int)) (xs := [[1, 2]]) (cs := [.slice p_519 ([1, 2]).length c_476]) (us := [.slice p_519 ([1, 2]).length c_476]) (parts := [(0, (.tmp 231))]) 31 hF hS rfl (by kernel_rfl) hr_506 rfl rfl rfl fun p_520 c_477 a w hF hS => ?_
 have hr_507 : Reps C_int Dv_271 [4] [iv 4] := Reps.cons (C := C_int) (x := 4) (c := [iv 4]) (r := []) rfl (Reps.nil)
 refine O.buildSlice (E := 3) (C := C_int) (xs := [4]) (cs := [iv 4]) (us := [iv 4]) (parts := [(0, (.const (iv 4)))]) 32 hF hS rfl (by kernel_rfl) hr_507 rfl rfl rfl fun p_521 c_478 a w hF hS => ?_
 obtain ⟨Dv_272, hlev_272, hs_465, hS⟩ := hS.freezeC (C := C_int) (i := 32) (xs := [4]) rfl hr_507
 replace hG := hG.mono hlev_272
 replace hr_506 := hr_506.mono hlev_272
 have hr_508 : Reps (C_sl C_int) Dv_272 [[4]] [.slice p_521 ([4]).length c_478] := Reps.cons (C := (C_sl C_int)) (x := [4]) (c := [.slice p_521 ([4]).length c_478]) (r := []) (⟨_, _, rfl, hs_465⟩) (Reps.nil)
 refine O.buildSlice (E := 26) (C := (C_sl C_int)) (xs := [[4]]) (cs := [.slice p_521 ([4]).length c_478]) (us := [.slice p_521 ([4]).length c_478]) (parts := [(0, (.tmp 233))]) 33 hF hS rfl (by kernel_rfl) hr_508 rfl rfl rfl fun p_522 c_479 a w hF hS => ?_
 have hr_509 : Reps C_int Dv_272 [-1] [iv (-1)] := Reps.cons (C := C_int) (x := -1) (c := [iv (-1)]) (r := []) rfl (Reps.nil)
 refine O.buildSlice (E := 3) (C := C_int) (xs := [-1]) (cs := [iv (-1)]) (us := [iv (-1)]) (parts := [(0, (.const (iv (-1))))]) 34 hF hS rfl (by kernel_rfl) hr_509 rfl rfl rfl fun p_523 c_480 a w hF hS => ?_
 obtain ⟨Dv_273, hlev_273, hs_466, hS⟩ := hS.freezeC (C := C_int) (i := 34) (xs := [-1]) rfl hr_509
 replace hG := hG.mono hlev_273
 replace hr_506 := hr_506.mono hlev_273
 replace hr_508 := hr_508.mono hlev_273
 have hr_510 : Reps (C_sl C_int) Dv_273 [[-1]] [.slice p_523 ([-1]).length c_480] := Reps.cons (C := (C_sl C_int)) (x := [-1]) (c := [.slice p_523 ([-1]).length c_480]) (r := []) (⟨_, _, rfl, hs_466⟩) (Reps.nil)
 refine O.buildSlice (E := 26) (C := (C_sl C_int)) (xs := [[-1]]) (cs := [.slice p_523 ([-1]).length c_480]) (us := [.slice p_523 ([-1]).length c_480]) (parts := [(0, (.tmp 235))]) 35 hF hS rfl (by kernel_rfl) hr_510 rfl rfl rfl fun p_524 c_481 a w hF hS => ?_
 have hr_511 : Reps C_int Dv_273 ([] : List Int) [] := Reps.nil
 refine O.buildSlice (E := 3) (C := C_int) (xs := ([] : List Int)) (cs := []) (us := []) (parts := []) 36 hF hS rfl (by kernel_rfl) hr_511 rfl rfl rfl fun p_525 c_482 a w hF hS => ?_
 have hr_512 : Reps C_int Dv_273 ([] : List Int) [] := Reps.nil
 refine O.buildSlice (E := 3) (C := C_int) (xs := ([] : List Int)) (cs := []) (us := []) (parts := []) 37 hF hS rfl (by kernel_rfl) hr_512 rfl rfl rfl fun p_526 c_483 a w hF hS => ?_
 obtain ⟨Dv_274, hlev_274, hs_467, hS⟩ := hS.freezeC (C := C_int) (i := 36) (xs := ([] : List Int)) rfl hr_511
 replace hG := hG.mono hlev_274
 replace hr_506 := hr_506.mono hlev_274
 replace hr_508 := hr_508.mono hlev_274
 replace hr_510 := hr_510.mono hlev_274
 replace hr_512 := hr_512.mono hlev_274
 obtain ⟨Dv_275, hlev_275, hs_468, hS⟩ := hS.freezeC (C := C_int) (i := 37) (xs := ([] : List Int)) rfl hr_512
 replace hG := hG.mono hlev_275
 replace hr_506 := hr_506.mono hlev_275
 replace hr_508 := hr_508.mono hlev_275
 replace hr_510 := hr_510.mono hlev_275
 replace hs_467 := hs_467.mono hlev_275
 have hr_513 : Reps (C_sl C_int) Dv_275 [([] : List Int), ([] : List Int)] [.slice p_525 ([] : List Int).length c_482, .slice p_526 ([] : List Int).length c_483] := Reps.cons (C := (C_sl C_int)) (x := ([] : List Int)) (c := [.slice p_525 ([] : List Int).length c_482]) (r := [.slice p_526 ([] : List Int).length c_483]) (⟨_, _, rfl, hs_467⟩) (Reps.cons (C := (C_sl C_int)) (x := ([] : List Int)) (c := [.slice p_526 ([] : List Int).length c_483]) (r := []) (⟨_, _, rfl, hs_468⟩) (Reps.nil))
 refine O.buildSlice (E := 26) (C := (C_sl C_int)) (xs := [([] : List Int), ([] : List Int)]) (cs := [.slice p_525 ([] : List Int).length c_482, .slice p_526 ([] : List Int).length c_483]) (us := [.slice p_525 ([] : List Int).length c_482, .slice p_526 ([] : List Int).length c_483]) (parts := [(0, (.tmp 237)), (1, (.tmp 238))]) 38 hF hS rfl (by kernel_rfl) hr_513 rfl rfl rfl fun p_527 c_484 a w hF hS => ?_
 obtain ⟨Dv_276, hlev_276, hs_469, hS⟩ := hS.freezeC (C := (C_sl C_int)) (i := 31) (xs := [[1, 2]]) rfl hr_506
 replace hG := hG.mono hlev_276
 replace hr_508 := hr_508.mono hlev_276
 replace hr_510 := hr_510.mono hlev_276
 replace hr_513 := hr_513.mono hlev_276
 obtain ⟨Dv_277, hlev_277, hs_470, hS⟩ := hS.freezeC (C := (C_sl C_int)) (i := 33) (xs := [[4]]) rfl hr_508
 replace hG := hG.mono hlev_277
 replace hr_510 := hr_510.mono hlev_277
 replace hr_513 := hr_513.mono hlev_277
 replace hs_469 := hs_469.mono hlev_277
 obtain ⟨Dv_278, hlev_278, hs_471, hS⟩ := hS.freezeC (C := (C_sl C_int)) (i := 35) (xs := [[-1]]) rfl hr_510
 replace hG := hG.mono hlev_278
 replace hr_513 := hr_513.mono hlev_278
 replace hs_469 := hs_469.mono hlev_278
 replace hs_470 := hs_470.mono hlev_278
 obtain ⟨Dv_279, hlev_279, hs_472, hS⟩ := hS.freezeC (C := (C_sl C_int)) (i := 38) (xs := [([] : List Int), ([] : List Int)]) rfl hr_513
 replace hG := hG.mono hlev_279
 replace hs_469 := hs_469.mono hlev_279
 replace hs_470 := hs_470.mono hlev_279
 replace hs_471 := hs_471.mono hlev_279
 have hr_514 : Reps (C_sl (C_sl C_int)) Dv_279 [([] : List (List Int)), [[1, 2]], [[4]], [[-1]], [([] : List Int), ([] : List Int)]] [.slice none 0 0, .slice p_520 ([[1, 2]]).length c_477, .slice p_522 ([[4]]).length c_479, .slice p_524 ([[-1]]).length c_481, .slice p_527 ([([] : List Int), ([] : List Int)]).length c_484] := Reps.cons (C := (C_sl (C_sl C_int))) (x := ([] : List (List Int))) (c := [.slice none 0 0]) (r := [.slice p_520 ([[1, 2]]).length c_477, .slice p_522 ([[4]]).length c_479, .slice p_524 ([[-1]]).length c_481, .slice p_527 ([([] : List Int), ([] : List Int)]).length c_484]) (⟨_, _, rfl, SRc.nil⟩) (Reps.cons (C := (C_sl (C_sl C_int))) (x := [[1, 2]]) (c := [.slice p_520 ([[1, 2]]).length c_477]) (r := [.slice p_522 ([[4]]).length c_479, .slice p_524 ([[-1]]).length c_481, .slice p_527 ([([] : List Int), ([] : List Int)]).length c_484]) (⟨_, _, rfl, hs_469⟩) (Reps.cons (C := (C_sl (C_sl C_int))) (x := [[4]]) (c := [.slice p_522 ([[4]]).length c_479]) (r := [.slice p_524 ([[-1]]).length c_481, .slice p_527 ([([] : List Int), ([] : List Int)]).length c_484]) (⟨_, _, rfl, hs_470⟩) (Reps.cons (C := (C_sl (C_sl C_int))) (x := [[-1]]) (c := [.slice p_524 ([[-1]]).length c_481]) (r := [.slice p_527 ([([] : List Int), ([] : List Int)]).length c_484]) (⟨_, _, rfl, hs_471⟩) (Reps.cons (C := (C_sl (C_sl C_int))) (x := [([] : List Int), ([] : List Int)]) (c := [.slice p_527 ([([] : List Int), ([] : List Int)]).length c_484]) (r := []) (⟨_, _, rfl, hs_472⟩) (Reps.nil)))))
 refine O.buildSlice (E := 38) (C := (C_sl (C_sl C_int))) (xs := [([] : List (List Int)), [[1, 2]], [[4]], [[-1]], [([] : List Int), ([] : List Int)]]) (cs := [.slice none 0 0, .slice p_520 ([[1, 2]]).length c_477, .slice p_522 ([[4]]).length c_479, .slice p_524 ([[-1]]).length c_481, .slice p_527 ([([] : List Int), ([] : List Int)]).length c_484]) (us := [.slice none 0 0, .slice p_520 ([[1, 2]]).length c_477, .slice p_522 ([[4]]).length c_479, .slice p_524 ([[-1]]).length c_481, .slice p_527 ([([] : List Int), ([] : List Int)]).length c_484]) (parts := [(0, (.const (.slice none 0 0))), (1, (.tmp 232)), (2, (.tmp 234)), (3, (.tmp 236)), (4, (.tmp 239))]) 39 hF hS rfl (by kernel_rfl) hr_514 rfl rfl rfl fun p_528 c_485 a w hF hS => ?_
 refine step hF (Y.assign hF rfl) rfl fun a hF => ?_
 refine nT ?_
 refine seq ?_
 refine seq ?_
 refine region ?_
 refine step hF (Y.assign hF rfl) rfl fun a hF => ?_
 refine nT ?_
 refine block ?_
 refine loop_cutN (body := w7SlaveKnown_b3) (out := out) (fun s a w => ∃ (v0_1 : Bool) (i_1 : Int), ∃ (Dv_280 : Stab), s = (v0_1, i_1) ∧ Dv_279.le Dv_280 ∧ Frm 527 [] [(0, .bool v0_1), (19, .slice p_528 ([([] : List (List Int)), [[1, 2]], [[4]], [[-1]], [([] : List Int), ([] : List Int)]]).length c_485), (20, iv i_1)] a ∧ St w0 D0 Dv_280 [(39, .own p_528 ([([] : List (List Int)), [[1, 2]], [[4]], [[-1]], [([] : List Int), ([] : List Int)]]).length c_485 ([.slice none 0 0, .slice p_520 ([[1, 2]]).length c_477, .slice p_522 ([[4]]).length c_479, .slice p_524 ([[-1]]).length c_481, .slice p_527 ([([] : List Int), ([] : List Int)]).length c_484]) 38 1)] w) (sv, 0) h ⟨sv, 0, Dv_279, rfl, Stab.le.refl _, hF.weak (AF rfl), hS.weak ⟨rfl, trivial⟩⟩ ?_
 rintro s a w xo_1 ⟨v0_1, i_1, Dv_280, rfl, hlev_280, hF, hS⟩ h
 unfold w7SlaveKnown_b3 at h
 try dsimp only at h
 replace hG := hG.mono hlev_280
 replace hr_514 := hr_514.mono hlev_280
 refine seq ?_
 refine seq ?_
 refine region ?_
 refine step hF (Y.move hF rfl) rfl fun a hF => ?_
 refine step hF (Y.move hF rfl) rfl fun a hF => ?_
 refine step hF (Y.lenSl u_83 hF rfl) rfl fun a hF => ?_
 refine step hF (Y.lss hF rfl rfl) rfl fun a hF => ?_
 refine nT ?_
 refine cond_b hF rfl (fun hbv_11 => ?_) (fun hbv_11 => ?_)
 ·replace h := ncond_t h hbv_11
  refine skip_ (then_n ?_)
  refine seq ?_
  refine block ?_
  refine seq ?_
  replace h := ndet h
  obtain ⟨rv_21, hx_29, h⟩ := h
  replace h := ndet h
  obtain ⟨e_7, hx_30, h⟩ := h
  replace h := ndet h
  obtain ⟨rv_22, hx_31, h⟩ := h
  refine drawsV 10 (.flt 1 (.flt 2 (.flt 3 (.flt 4 (.alt 0 (.alt 5 (.flt 6 (.flt 7 (.flt 8 (.flt 9 .done)))) .stop) .stop))))) mixed_ (by kernel_rfl) (fun w => St w0 D0 Dv_280 [(39, .own p_528 ([([] : List (List Int)), [[1, 2]], [[4]], [[-1]], [([] : List Int), ([] : List Int)]]).length c_485 ([.slice none 0 0, .slice p_520 ([[1, 2]]).length c_477, .slice p_522 ([[4]]).length c_479, .slice p_524 ([[-1]]).length c_481, .slice p_527 ([([] : List Int), ([] : List Int)]).length c_484]) 38 1)] w) (fun a w => ∃ (Dv_282 : Stab), Dv_280.le Dv_282 ∧ Frm 527 [] [(0, .bool v0_1), (19, .slice p_528 ([([] : List (List Int)), [[1, 2]], [[4]], [[-1]], [([] : List Int), ([] : List Int)]]).length c_485), (20, iv i_1), (21, .bool rv_22.1), (255, iv rv_22.2)] a ∧ St w0 D0 Dv_282 [(39, .own p_528 ([([] : List (List Int)), [[1, 2]], [[4]], [[-1]], [([] : List Int), ([] : List Int)]]).length c_485 ([.slice none 0 0, .slice p_520 ([[1, 2]]).length c_477, .slice p_522 ([[4]]).length c_479, .slice p_524 ([[-1]]).length c_481, .slice p_527 ([([] : List Int), ([] : List Int)]).length c_484]) 38 1)] w) (hS.weak (ms := [(39, .own p_528 ([([] : List (List Int)), [[1, 2]], [[4]], [[-1]], [([] : List Int), ([] : List Int)]]).length c_485 ([.slice none 0 0, .slice p_520 ([[1, 2]]).length c_477, .slice p_522 ([[4]]).length c_479, .slice p_524 ([[-1]]).length c_481, .slice p_527 ([([] : List Int), ([] : List Int)]).length c_484]) 38 1)]) ⟨rfl, trivial⟩).drew (fun _ _ _ _ h => h) ?_ ?_
  ·replace hS := hS.drew
   have hle0 := hS.le
   refine stepV (i := 1) rfl hF (fun w hS => Y.move hF rfl) rfl fun a hF => ?_
   refine stepV (i := 2) rfl hF (fun w hS => Y.move hF rfl) rfl fun a hF => ?_
   obtain ⟨b_21, hp_7⟩ := hS.ownPtr (i := 39) rfl (idx_rng hx_30)
   obtain ⟨cc_16, hc_16, hsub_7⟩ := ownElI (C := (C_sl (C_sl C_int))) hr_514 hx_30
   obtain ⟨p_532, c_489, rfl, hs_476⟩ := hc_16
   refine stepV (i := 3) rfl hF (fun w hS => Y.indexOwn hp_7 u_83 sz_38 (idx_rng hx_30) hF rfl rfl) rfl fun a hF => ?_
   refine stepV (i := 4) rfl hF (fun w hS => Y.load1 sz_38 hF rfl (ownElCell (C := (C_sl (C_sl C_int))) (i := 39) hS rfl hp_7 hsub_7 0 _ rfl)) rfl fun a hF => ?_
   refine oneV (i := 0) rfl ?_ trivial
   refine O.callS (us := [.slice none 0 0]) ca_55 hF hS (w7line_ok hS.stab ([] : List Int) SRc.nil rv_21 hx_29) rfl rfl fun v_210 Dv_283 a w hR_4 hlev_282 hF hS => ?_
   replace hG := hG.mono hlev_282
   replace hs_476 := hs_476.mono hlev_282
   obtain ⟨p_533, c_490, p_534, c_491, rfl, hs_477, hs_478⟩ := hR_4
   refine nT ⟨(hS.weak (ms := [(39, .own p_528 ([([] : List (List Int)), [[1, 2]], [[4]], [[-1]], [([] : List Int), ([] : List Int)]]).length c_485 ([.slice none 0 0, .slice p_520 ([[1, 2]]).length c_477, .slice p_522 ([[4]]).length c_479, .slice p_524 ([[-1]]).length c_481, .slice p_527 ([([] : List Int), ([] : List Int)]).length c_484]) 38 1)]) ⟨rfl, trivial⟩).weakD hlev_282 hle0, ?_⟩
   refine oneV (i := 5) rfl ?_ trivial
   refine O.callP (us := [.agg #[iv rv_21.Ring, .slice p_533 rv_21.Starts.length c_490, .slice p_534 rv_21.Events.length c_491], iv 0, .slice p_532 e_7.length c_489]) ca_24 hF hS (slave_IsStory_ok hS.stab rv_21 0 e_7 hs_477 hs_478 hs_476 hG rv_22 hx_31) rfl rfl fun a w hF hS => ?_
   refine nT ⟨(hS.weak (ms := [(39, .own p_528 ([([] : List (List Int)), [[1, 2]], [[4]], [[-1]], [([] : List Int), ([] : List Int)]]).length c_485 ([.slice none 0 0, .slice p_520 ([[1, 2]]).length c_477, .slice p_522 ([[4]]).length c_479, .slice p_524 ([[-1]]).length c_481, .slice p_527 ([([] : List Int), ([] : List Int)]).length c_484]) 38 1)]) ⟨rfl, trivial⟩).weakD hlev_282 hle0, ?_⟩
   refine stepV (i := 6) rfl hF (fun w hS => Y.move hF rfl) rfl fun a hF => ?_
   refine stepV (i := 7) rfl hF (fun w hS => Y.extract hF rfl rfl) rfl fun a hF => ?_
   refine stepV (i := 8) rfl hF (fun w hS => Y.extract hF rfl rfl) rfl fun a hF => ?_
   refine stepV (i := 9) rfl hF (fun w hS => Y.assign hF rfl) rfl fun a hF => ?_
   exact toTailV ⟨Dv_283, hlev_282, hF.weak (AF rfl), hS.weak ⟨rfl, trivial⟩⟩
  rintro a w ⟨Dv_282, hle, hF, hS⟩
  have hlev_283 := hle
  replace hG := hG.mono hlev_283
  refine step hF (Y.assign hF rfl) rfl fun a hF => ?_
  refine nT ?_
  refine seq ?_
  refine region ?_
  refine step hF (Y.move hF rfl) rfl fun a hF => ?_
  refine step hF (Y.move hF rfl) rfl fun a hF => ?_
  refine join (N := 527) (rs := []) (w0 := w0) (D0 := D0) 3 (us := [(0, .bool v0_1), (19, .slice p_528 ([([] : List (List Int)), [[1, 2]], [[4]], [[-1]], [([] : List Int), ([] : List Int)]]).length c_485), (20, iv i_1), (260, .bool (rv_22.1 || (rv_22.2 != 0)))]) (ms := [(39, .own p_528 ([([] : List (List Int)), [[1, 2]], [[4]], [[-1]], [([] : List Int), ([] : List Int)]]).length c_485 ([.slice none 0 0, .slice p_520 ([[1, 2]]).length c_477, .slice p_522 ([[4]]).length c_479, .slice p_524 ([[-1]]).length c_481, .slice p_527 ([([] : List Int), ([] : List Int)]).length c_484]) 38 1)]) (D' := Dv_282) ?_ ?_
  ·rcases bcases rv_22.1 with hbv_12 | hbv_12
   ·-- true
    refine guard_off hF rfl rfl hbv_12 rfl fun a hF => ?_
    refine guard_off hF rfl rfl hbv_12 rfl fun a hF => ?_
    refine step hF (Y.pick_t hF rfl hbv_12 rfl) rfl fun a hF => ?_
    exact nT ⟨hF.weak ⟨rfl, rfl, rfl, (by rw [hbv_12]; rfl), trivial⟩, hS.weak ⟨rfl, trivial⟩⟩
   ·-- false
    refine guard_on hF rfl rfl hbv_12 ?_
    refine step hF (Y.move hF rfl) rfl fun a hF => ?_
    refine guard_on hF rfl rfl hbv_12 ?_
    refine step hF (Y.neq hF rfl rfl) rfl fun a hF => ?_
    refine step hF (Y.pick_f hF rfl hbv_12 rfl) rfl fun a hF => ?_
    exact nT ⟨hF.weak ⟨rfl, rfl, rfl, (by rw [hbv_12]; rfl), trivial⟩, hS.weak ⟨rfl, trivial⟩⟩
  intro a w hF hS
  refine nT ?_
  refine cond_b hF rfl (fun hbv_13 => ?_) (fun hbv_13 => ?_)
  ·replace h := ncond_t h hbv_13
   refine seq ?_
   refine region ?_
   refine step hF (Y.assign hF rfl) rfl fun a hF => ?_
   refine nT ?_
   refine ret_ (blk_r (then_r (then_r (blk_r (then_r ?_)))))
   replace h := next_h h
   exact leavePN _ (nret h) Tryd.results15 hF hS (.cons (.tmp rfl) .nil) .nil rfl
  ·replace h := ncond_f h hbv_13
   refine skip_ (blk_n (then_n ?_))
   refine region ?_
   refine step hF (Y.move hF rfl) rfl fun a hF => ?_
   refine step hF (Y.add hF rfl rfl) rfl fun a hF => ?_
   refine step hF (Y.assign hF rfl) rfl fun a hF => ?_
   refine nT ?_
   exact ⟨_, nnxt_h h, v0_1, (wr (i_1 + 1)), Dv_282, rfl, hlev_280.trans hlev_283, hF.weak (AF rfl), hS.weak ⟨rfl, trivial⟩⟩
 ·replace h := ncond_f h hbv_11
  refine exit_ (then_x (then_x (blk_hit (then_n ?_))))
  replace h := next_h h
  exact w7SlaveKnown_s2_ok v0_1 (hle0_.trans (hlev_271.trans (hlev_272.trans (hlev_273.trans (hlev_274.trans (hlev_275.trans (hlev_276.trans (hlev_277.trans (hlev_278.trans (hlev_279.trans hlev_280)))))))))) hG out h (hF.weak (us := [(0, .bool v0_1)]) ⟨rfl, trivial⟩) (hS.weak (ms := []) trivial)
end Go.Proofs.YtmbgmefmkjeahaaDoor.Rt
