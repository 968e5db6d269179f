/- Walks of the functions of this seat: what each Go function comes to, as a Lean function, and the proof. A law. Under no conditions. -/
import Derived.Test.YthdbokigcfbgeaaDoorC14WKZ
set_option linter.unusedVariables false
set_option linter.unusedSimpArgs false
set_option maxRecDepth 100000
set_option maxHeartbeats 4000000
namespace Go.Proofs.YthdbokigcfbgeaaDoor.Rt
open Go Go.RowKit
def remontoirlaw06_LineKnown_tr3_123 : Tr := .flt 123 .done
def remontoirlaw06_LineKnown_tr3_122 : Tr := .flt 122 remontoirlaw06_LineKnown_tr3_123
def remontoirlaw06_LineKnown_tr3_121 : Tr := .alt 121 remontoirlaw06_LineKnown_tr3_122 .stop
def remontoirlaw06_LineKnown_tr3_120 : Tr := .flt 120 remontoirlaw06_LineKnown_tr3_121
def remontoirlaw06_LineKnown_tr3_119 : Tr := .flt 119 remontoirlaw06_LineKnown_tr3_120
def remontoirlaw06_LineKnown_tr3_118 : Tr := .flt 118 remontoirlaw06_LineKnown_tr3_119
def remontoirlaw06_LineKnown_tr3_117 : Tr := .flt 117 remontoirlaw06_LineKnown_tr3_118
def remontoirlaw06_LineKnown_tr3_116 : Tr := .alt 116 remontoirlaw06_LineKnown_tr3_117 .stop
def remontoirlaw06_LineKnown_tr3_115 : Tr := .alt 115 remontoirlaw06_LineKnown_tr3_116 .stop
def remontoirlaw06_LineKnown_tr3_114 : Tr := .flt 114 remontoirlaw06_LineKnown_tr3_115
def remontoirlaw06_LineKnown_tr3_113 : Tr := .flt 113 remontoirlaw06_LineKnown_tr3_114
def remontoirlaw06_LineKnown_tr3_112 : Tr := .flt 112 remontoirlaw06_LineKnown_tr3_113
def remontoirlaw06_LineKnown_tr3_111 : Tr := .flt 111 remontoirlaw06_LineKnown_tr3_112
def remontoirlaw06_LineKnown_tr3_110 : Tr := .flt 110 remontoirlaw06_LineKnown_tr3_111
def remontoirlaw06_LineKnown_tr3_109 : Tr := .flt 109 remontoirlaw06_LineKnown_tr3_110
def remontoirlaw06_LineKnown_tr3_108 : Tr := .flt 108 remontoirlaw06_LineKnown_tr3_109
def remontoirlaw06_LineKnown_tr3_107 : Tr := .flt 107 remontoirlaw06_LineKnown_tr3_108
def remontoirlaw06_LineKnown_tr3_106 : Tr := .flt 106 remontoirlaw06_LineKnown_tr3_107
def remontoirlaw06_LineKnown_tr3_105 : Tr := .flt 105 remontoirlaw06_LineKnown_tr3_106
def remontoirlaw06_LineKnown_tr3_104 : Tr := .flt 104 remontoirlaw06_LineKnown_tr3_105
def remontoirlaw06_LineKnown_tr3_103 : Tr := .alt 103 remontoirlaw06_LineKnown_tr3_104 .stop
def remontoirlaw06_LineKnown_tr3_102 : Tr := .alt 102 remontoirlaw06_LineKnown_tr3_103 .stop
def remontoirlaw06_LineKnown_tr3_101 : Tr := .alt 101 remontoirlaw06_LineKnown_tr3_102 .stop
def remontoirlaw06_LineKnown_tr3_100 : Tr := .flt 100 remontoirlaw06_LineKnown_tr3_101
def remontoirlaw06_LineKnown_tr3_99 : Tr := .flt 99 remontoirlaw06_LineKnown_tr3_100
def remontoirlaw06_LineKnown_tr3_98 : Tr := .flt 98 remontoirlaw06_LineKnown_tr3_99
def remontoirlaw06_LineKnown_tr3_97 : Tr := .flt 97 remontoirlaw06_LineKnown_tr3_98
def remontoirlaw06_LineKnown_tr3_96 : Tr := .flt 96 remontoirlaw06_LineKnown_tr3_97
def remontoirlaw06_LineKnown_tr3_95 : Tr := .flt 95 remontoirlaw06_LineKnown_tr3_96
def remontoirlaw06_LineKnown_tr3_94 : Tr := .flt 94 remontoirlaw06_LineKnown_tr3_95
def remontoirlaw06_LineKnown_tr3_93 : Tr := .flt 93 remontoirlaw06_LineKnown_tr3_94
def remontoirlaw06_LineKnown_tr3_92 : Tr := .flt 92 remontoirlaw06_LineKnown_tr3_93
def remontoirlaw06_LineKnown_tr3_91 : Tr := .flt 91 remontoirlaw06_LineKnown_tr3_92
def remontoirlaw06_LineKnown_tr3_90 : Tr := .flt 90 remontoirlaw06_LineKnown_tr3_91
def remontoirlaw06_LineKnown_tr3_89 : Tr := .flt 89 remontoirlaw06_LineKnown_tr3_90
def remontoirlaw06_LineKnown_tr3_88 : Tr := .alt 88 remontoirlaw06_LineKnown_tr3_89 .stop
def remontoirlaw06_LineKnown_tr3_87 : Tr := .alt 87 remontoirlaw06_LineKnown_tr3_88 .stop
def remontoirlaw06_LineKnown_tr3_86 : Tr := .flt 86 remontoirlaw06_LineKnown_tr3_87
def remontoirlaw06_LineKnown_tr3_85 : Tr := .flt 85 remontoirlaw06_LineKnown_tr3_86
def remontoirlaw06_LineKnown_tr3_84 : Tr := .flt 84 remontoirlaw06_LineKnown_tr3_85
def remontoirlaw06_LineKnown_tr3_83 : Tr := .flt 83 remontoirlaw06_LineKnown_tr3_84
def remontoirlaw06_LineKnown_tr3_82 : Tr := .flt 82 remontoirlaw06_LineKnown_tr3_83
def remontoirlaw06_LineKnown_tr3_81 : Tr := .flt 81 remontoirlaw06_LineKnown_tr3_82
def remontoirlaw06_LineKnown_tr3_80 : Tr := .flt 80 remontoirlaw06_LineKnown_tr3_81
def remontoirlaw06_LineKnown_tr3_79 : Tr := .alt 79 remontoirlaw06_LineKnown_tr3_80 .stop
def remontoirlaw06_LineKnown_tr3_78 : Tr := .alt 78 remontoirlaw06_LineKnown_tr3_79 .stop
def remontoirlaw06_LineKnown_tr3_76 : Tr := .alt 76 (.alt 77 remontoirlaw06_LineKnown_tr3_78 .stop) (.alt 77 (.alt 76 remontoirlaw06_LineKnown_tr3_78 .stop) .stop)
def remontoirlaw06_LineKnown_tr3_75 : Tr := .flt 75 remontoirlaw06_LineKnown_tr3_76
def remontoirlaw06_LineKnown_tr3_74 : Tr := .flt 74 remontoirlaw06_LineKnown_tr3_75
def remontoirlaw06_LineKnown_tr3_73 : Tr := .flt 73 remontoirlaw06_LineKnown_tr3_74
def remontoirlaw06_LineKnown_tr3_72 : Tr := .flt 72 remontoirlaw06_LineKnown_tr3_73
def remontoirlaw06_LineKnown_tr3_71 : Tr := .flt 71 remontoirlaw06_LineKnown_tr3_72
def remontoirlaw06_LineKnown_tr3_70 : Tr := .flt 70 remontoirlaw06_LineKnown_tr3_71
def remontoirlaw06_LineKnown_tr3_69 : Tr := .flt 69 remontoirlaw06_LineKnown_tr3_70
def remontoirlaw06_LineKnown_tr3_68 : Tr := .flt 68 remontoirlaw06_LineKnown_tr3_69
def remontoirlaw06_LineKnown_tr3_67 : Tr := .flt 67 remontoirlaw06_LineKnown_tr3_68
def remontoirlaw06_LineKnown_tr3_66 : Tr := .flt 66 remontoirlaw06_LineKnown_tr3_67
def remontoirlaw06_LineKnown_tr3_65 : Tr := .flt 65 remontoirlaw06_LineKnown_tr3_66
def remontoirlaw06_LineKnown_tr3_64 : Tr := .flt 64 remontoirlaw06_LineKnown_tr3_65
def remontoirlaw06_LineKnown_tr3_63 : Tr := .flt 63 remontoirlaw06_LineKnown_tr3_64
def remontoirlaw06_LineKnown_tr3_62 : Tr := .flt 62 remontoirlaw06_LineKnown_tr3_63
def remontoirlaw06_LineKnown_tr3_61 : Tr := .flt 61 remontoirlaw06_LineKnown_tr3_62
def remontoirlaw06_LineKnown_tr3_60 : Tr := .flt 60 remontoirlaw06_LineKnown_tr3_61
def remontoirlaw06_LineKnown_tr3_59 : Tr := .alt 59 remontoirlaw06_LineKnown_tr3_60 .stop
def remontoirlaw06_LineKnown_tr3_58 : Tr := .alt 58 remontoirlaw06_LineKnown_tr3_59 .stop
def remontoirlaw06_LineKnown_tr3_57 : Tr := .flt 57 remontoirlaw06_LineKnown_tr3_58
def remontoirlaw06_LineKnown_tr3_56 : Tr := .flt 56 remontoirlaw06_LineKnown_tr3_57
def remontoirlaw06_LineKnown_tr3_55 : Tr := .flt 55 remontoirlaw06_LineKnown_tr3_56
def remontoirlaw06_LineKnown_tr3_54 : Tr := .flt 54 remontoirlaw06_LineKnown_tr3_55
def remontoirlaw06_LineKnown_tr3_53 : Tr := .flt 53 remontoirlaw06_LineKnown_tr3_54
def remontoirlaw06_LineKnown_tr3_52 : Tr := .flt 52 remontoirlaw06_LineKnown_tr3_53
def remontoirlaw06_LineKnown_tr3_51 : Tr := .flt 51 remontoirlaw06_LineKnown_tr3_52
def remontoirlaw06_LineKnown_tr3_50 : Tr := .flt 50 remontoirlaw06_LineKnown_tr3_51
def remontoirlaw06_LineKnown_tr3_49 : Tr := .flt 49 remontoirlaw06_LineKnown_tr3_50
def remontoirlaw06_LineKnown_tr3_48 : Tr := .flt 48 remontoirlaw06_LineKnown_tr3_49
def remontoirlaw06_LineKnown_tr3_47 : Tr := .flt 47 remontoirlaw06_LineKnown_tr3_48
def remontoirlaw06_LineKnown_tr3_46 : Tr := .flt 46 remontoirlaw06_LineKnown_tr3_47
def remontoirlaw06_LineKnown_tr3_45 : Tr := .flt 45 remontoirlaw06_LineKnown_tr3_46
def remontoirlaw06_LineKnown_tr3_44 : Tr := .flt 44 remontoirlaw06_LineKnown_tr3_45
def remontoirlaw06_LineKnown_tr3_43 : Tr := .flt 43 remontoirlaw06_LineKnown_tr3_44
def remontoirlaw06_LineKnown_tr3_42 : Tr := .flt 42 remontoirlaw06_LineKnown_tr3_43
def remontoirlaw06_LineKnown_tr3_41 : Tr := .flt 41 remontoirlaw06_LineKnown_tr3_42
def remontoirlaw06_LineKnown_tr3_40 : Tr := .flt 40 remontoirlaw06_LineKnown_tr3_41
def remontoirlaw06_LineKnown_tr3_39 : Tr := .flt 39 remontoirlaw06_LineKnown_tr3_40
def remontoirlaw06_LineKnown_tr3_38 : Tr := .flt 38 remontoirlaw06_LineKnown_tr3_39
def remontoirlaw06_LineKnown_tr3_37 : Tr := .flt 37 remontoirlaw06_LineKnown_tr3_38
def remontoirlaw06_LineKnown_tr3_36 : Tr := .flt 36 remontoirlaw06_LineKnown_tr3_37
def remontoirlaw06_LineKnown_tr3_35 : Tr := .flt 35 remontoirlaw06_LineKnown_tr3_36
def remontoirlaw06_LineKnown_tr3_34 : Tr := .flt 34 remontoirlaw06_LineKnown_tr3_35
def remontoirlaw06_LineKnown_tr3_33 : Tr := .flt 33 remontoirlaw06_LineKnown_tr3_34
def remontoirlaw06_LineKnown_tr3_32 : Tr := .flt 32 remontoirlaw06_LineKnown_tr3_33
def remontoirlaw06_LineKnown_tr3_31 : Tr := .flt 31 remontoirlaw06_LineKnown_tr3_32
def remontoirlaw06_LineKnown_tr3_30 : Tr := .flt 30 remontoirlaw06_LineKnown_tr3_31
def remontoirlaw06_LineKnown_tr3_29 : Tr := .alt 29 remontoirlaw06_LineKnown_tr3_30 .stop
def remontoirlaw06_LineKnown_tr3_28 : Tr := .flt 28 remontoirlaw06_LineKnown_tr3_29
def remontoirlaw06_LineKnown_tr3_27 : Tr := .flt 27 remontoirlaw06_LineKnown_tr3_28
def remontoirlaw06_LineKnown_tr3_26 : Tr := .flt 26 remontoirlaw06_LineKnown_tr3_27
def remontoirlaw06_LineKnown_tr3_25 : Tr := .flt 25 remontoirlaw06_LineKnown_tr3_26
def remontoirlaw06_LineKnown_tr3_24 : Tr := .flt 24 remontoirlaw06_LineKnown_tr3_25
def remontoirlaw06_LineKnown_tr3_23 : Tr := .flt 23 remontoirlaw06_LineKnown_tr3_24
def remontoirlaw06_LineKnown_tr3_22 : Tr := .flt 22 remontoirlaw06_LineKnown_tr3_23
def remontoirlaw06_LineKnown_tr3_21 : Tr := .flt 21 remontoirlaw06_LineKnown_tr3_22
def remontoirlaw06_LineKnown_tr3_20 : Tr := .alt 20 remontoirlaw06_LineKnown_tr3_21 .stop
def remontoirlaw06_LineKnown_tr3_19 : Tr := .flt 19 remontoirlaw06_LineKnown_tr3_20
def remontoirlaw06_LineKnown_tr3_18 : Tr := .flt 18 remontoirlaw06_LineKnown_tr3_19
def remontoirlaw06_LineKnown_tr3_17 : Tr := .flt 17 remontoirlaw06_LineKnown_tr3_18
def remontoirlaw06_LineKnown_tr3_16 : Tr := .flt 16 remontoirlaw06_LineKnown_tr3_17
def remontoirlaw06_LineKnown_tr3_15 : Tr := .flt 15 remontoirlaw06_LineKnown_tr3_16
def remontoirlaw06_LineKnown_tr3_14 : Tr := .flt 14 remontoirlaw06_LineKnown_tr3_15
def remontoirlaw06_LineKnown_tr3_13 : Tr := .flt 13 remontoirlaw06_LineKnown_tr3_14
def remontoirlaw06_LineKnown_tr3_12 : Tr := .flt 12 remontoirlaw06_LineKnown_tr3_13
def remontoirlaw06_LineKnown_tr3_11 : Tr := .flt 11 remontoirlaw06_LineKnown_tr3_12
def remontoirlaw06_LineKnown_tr3_10 : Tr := .flt 10 remontoirlaw06_LineKnown_tr3_11
def remontoirlaw06_LineKnown_tr3_9 : Tr := .flt 9 remontoirlaw06_LineKnown_tr3_10
def remontoirlaw06_LineKnown_tr3_8 : Tr := .flt 8 remontoirlaw06_LineKnown_tr3_9
def remontoirlaw06_LineKnown_tr3_7 : Tr := .flt 7 remontoirlaw06_LineKnown_tr3_8
def remontoirlaw06_LineKnown_tr3_6 : Tr := .flt 6 remontoirlaw06_LineKnown_tr3_7
def remontoirlaw06_LineKnown_tr3_5 : Tr := .flt 5 remontoirlaw06_LineKnown_tr3_6
def remontoirlaw06_LineKnown_tr3_4 : Tr := .flt 4 remontoirlaw06_LineKnown_tr3_5
def remontoirlaw06_LineKnown_tr3_3 : Tr := .flt 3 remontoirlaw06_LineKnown_tr3_4
def remontoirlaw06_LineKnown_tr3_2 : Tr := .flt 2 remontoirlaw06_LineKnown_tr3_3
def remontoirlaw06_LineKnown_tr3_1 : Tr := .flt 1 remontoirlaw06_LineKnown_tr3_2
def remontoirlaw06_LineKnown_tr3_0 : Tr := .flt 0 remontoirlaw06_LineKnown_tr3_1
noncomputable def remontoirlaw06_LineKnown_k2 (rv_39 : ((List (List Int)) × Int)) (rv_41 : (Span × Int)) (rv_44 : (Span × Int)) (rv_46 : (Bool × Int)) (rv_48 : (Int × Int × Int)) (rv_49 : ((List Int) × Int)) (rv_51 : ((List Int) × Int)) (rv_53 : ((List (List Int)) × Int)) (rv_55 : ((List Int) × (List Int) × Int)) (rv_57 : ((List (List Int)) × Int)) (rv_58 : ((List (List Int)) × Int)) (y : (List Int)) (z : Int) : Option Bool :=
  (cond ((rv_39.2 == 0) && ((rv_39.1.length : Int) == 1)) ((idx rv_39.1 0).bind fun e_7 =>
  some ((e_7.length : Int) == 0)) (some false)).bind fun t_9 =>
  (cond (t_9 && (rv_41.2 == 0)) ((r0To 0 0).bind fun rv_67 =>
  some ([rv_41.1.Low, rv_41.1.High] == [rv_67.Low, rv_67.High])) (some false)).bind fun t_10 =>
  (cond (t_10 && (rv_44.2 == 0)) ((r0To 22 37).bind fun rv_68 =>
  some ([rv_44.1.Low, rv_44.1.High] == [rv_68.Low, rv_68.High])) (some false)).bind fun t_11 =>
  (cond ((((((t_11 && (rv_46.2 == 0)) && (!rv_46.1)) && (rv_48.2.2 == 0)) && (rv_48.1 == 23)) && (rv_48.2.1 == 13)) && (rv_49.2 == 0)) ((r0Alike rv_49.1 ([2])).bind fun rv_69 =>
  some rv_69) (some false)).bind fun t_12 =>
  (cond (((t_12 && (rv_51.2 == 0)) && ((rv_51.1.length : Int) == 0)) && (rv_53.2 == 0)) ((r0AlikeRows rv_53.1 ([[0], [2, 1]])).bind fun rv_70 =>
  some rv_70) (some false)).bind fun t_13 =>
  (cond (t_13 && (rv_55.2.2 == 0)) ((r0Alike rv_55.1 ([3])).bind fun rv_72 =>
  some rv_72) (some false)).bind fun t_14 =>
  (cond ((t_14 && ((rv_55.2.1.length : Int) == 0)) && (rv_57.2 == 0)) ((r0AlikeRows rv_57.1 ([[2]])).bind fun rv_73 =>
  some rv_73) (some false)).bind fun t_15 =>
  (cond ((t_15 && (rv_58.2 == 4)) && (z == 0)) ((r0Alike y ([1])).bind fun rv_74 =>
  some rv_74) (some false)).bind fun t_16 =>
  (cond t_16 ((remontoirlaw06_works).bind fun rv_75 =>
  some rv_75) (some false)).bind fun t_17 =>
  some t_17
noncomputable def remontoirlaw06_LineKnown_b1 (bad : (List LineNet)) : (Bool × Int) → Option ((Bool × Int) ⊕ Bool)
 | (v0_0, i) =>
  cond (decide (i < (bad.length : Int)))
  ((idx bad i).bind fun e_5 =>
  (line_Routes e_5 (-1)).bind fun rv_10 =>
  (line_Delay e_5 (-1)).bind fun rv_11 =>
  (line_Can e_5 (-1) 0).bind fun rv_12 =>
  (line_Correct e_5 (-1)).bind fun rv_13 =>
  (line_Surely e_5 (-1)).bind fun rv_14 =>
  (line_Cut e_5 (-1)).bind fun rv_15 =>
  (line_Wrong e_5).bind fun rv_16 =>
  (line_Check e_5).bind fun rv_17 =>
  cond ((((((((rv_17 != 60) || (rv_10.2 != 60)) || (rv_11.2 != 60)) || (rv_12.2 != 60)) || (rv_13.2.2 != 60)) || (rv_14.2 != 60)) || (rv_15.2.2 != 60)) || (rv_16.2 != 60))
  (ext (some false))
  (nxt (v0_0, wr (i + 1))))
  (ext ((remontoirlaw06_net ([] : List LineLoop)).bind fun rv_18 =>
  (line_Routes rv_18 4).bind fun rv_19 =>
  (remontoirlaw06_net ([] : List LineLoop)).bind fun rv_20 =>
  (line_Delay rv_20 5).bind fun rv_21 =>
  (remontoirlaw06_torn).bind fun rv_22 =>
  (remontoirlaw06_net rv_22).bind fun rv_23 =>
  (line_Can rv_23 2 20).bind fun rv_24 =>
  (remontoirlaw06_net ([] : List LineLoop)).bind fun rv_25 =>
  (line_Correct rv_25 4).bind fun rv_26 =>
  (remontoirlaw06_torn).bind fun rv_27 =>
  (remontoirlaw06_net rv_27).bind fun rv_28 =>
  (line_Surely rv_28 2).bind fun rv_29 =>
  (remontoirlaw06_net ([] : List LineLoop)).bind fun rv_30 =>
  (line_Cut rv_30 4).bind fun rv_31 =>
  (remontoirlaw06_torn).bind fun rv_32 =>
  (remontoirlaw06_net rv_32).bind fun rv_33 =>
  (line_Delay rv_33 2).bind fun rv_34 =>
  (r0To 0 12000).bind fun rv_35 =>
  (remontoirlaw06_net ([(LineLoop.mk 4 rv_35)])).bind fun rv_36 =>
  (line_Delay rv_36 4).bind fun rv_37 =>
  cond ((((((((rv_19.2 != 4) || (rv_21.2 != 61)) || (rv_24.2 != 62)) || (rv_26.2.2 != 4)) || (rv_29.2 != 62)) || (rv_31.2.2 != 61)) || (rv_34.2 != 62)) || (rv_37.2 != 4))
  (some false)
  ((remontoirlaw06_net ([] : List LineLoop)).bind fun rv_38 =>
  (line_Routes rv_38 0).bind fun rv_39 =>
  (remontoirlaw06_net ([] : List LineLoop)).bind fun rv_40 =>
  (line_Delay rv_40 0).bind fun rv_41 =>
  (remontoirlaw06_torn).bind fun rv_42 =>
  (remontoirlaw06_net rv_42).bind fun rv_43 =>
  (line_Delay rv_43 3).bind fun rv_44 =>
  (remontoirlaw06_net ([] : List LineLoop)).bind fun rv_45 =>
  (line_Can rv_45 2 19).bind fun rv_46 =>
  (remontoirlaw06_net ([] : List LineLoop)).bind fun rv_47 =>
  (line_Correct rv_47 1).bind fun rv_48 =>
  (line_Wrong rv_36).bind fun rv_49 =>
  (remontoirlaw06_net ([] : List LineLoop)).bind fun rv_50 =>
  (line_Wrong rv_50).bind fun rv_51 =>
  (remontoirlaw06_net ([] : List LineLoop)).bind fun rv_52 =>
  (line_Routes rv_52 1).bind fun rv_53 =>
  (remontoirlaw06_net ([] : List LineLoop)).bind fun rv_54 =>
  (line_Cut rv_54 3).bind fun rv_55 =>
  (remontoirlaw06_net ([] : List LineLoop)).bind fun rv_56 =>
  (line_Routes (LineNet.mk rv_56.Exchanges rv_56.Lines 1 rv_56.Loops) 2).bind fun rv_57 =>
  (line_Routes (LineNet.mk rv_56.Exchanges rv_56.Lines 1 rv_56.Loops) 3).bind fun rv_58 =>
  (line_Wrong (LineNet.mk rv_56.Exchanges rv_56.Lines 1 rv_56.Loops)).bind fun rv_76 =>
  remontoirlaw06_LineKnown_k2 rv_39 rv_41 rv_44 rv_46 rv_48 rv_49 rv_51 rv_53 rv_55 rv_57 rv_58 rv_76.1 rv_76.2)))
noncomputable def remontoirlaw06_LineKnown : Option Bool :=
  (remontoirlaw06_net ([] : List LineLoop)).bind fun rv =>
  (remontoirlaw06_net ([] : List LineLoop)).bind fun rv_1 =>
  (remontoirlaw06_net ([] : List LineLoop)).bind fun rv_2 =>
  (remontoirlaw06_net ([] : List LineLoop)).bind fun rv_3 =>
  (remontoirlaw06_net ([] : List LineLoop)).bind fun rv_4 =>
  (remontoirlaw06_net ([] : List LineLoop)).bind fun rv_5 =>
  (remontoirlaw06_net ([] : List LineLoop)).bind fun rv_6 =>
  (remontoirlaw06_net ([] : List LineLoop)).bind fun rv_7 =>
  (idx rv_3.Lines 0).bind fun e =>
  (idx rv_4.Lines 1).bind fun e_1 =>
  (r0To 0 1001).bind fun rv_8 =>
  (idx rv_5.Lines 2).bind fun e_2 =>
  (idx rv_6.Loops 0).bind fun e_3 =>
  (r0To 0 12001).bind fun rv_9 =>
  (idx rv_7.Loops 1).bind fun e_4 =>
  (some ([(LineNet.mk 0 ([] : List LineLine) 0 ([] : List LineLoop)), (LineNet.mk 8 rv.Lines rv.Hops rv.Loops), (LineNet.mk 3 rv_1.Lines rv_1.Hops rv_1.Loops), (LineNet.mk rv_2.Exchanges rv_2.Lines 7 rv_2.Loops), (LineNet.mk rv_3.Exchanges (rv_3.Lines.set (Int.toNat 0) (LineLine.mk e.From 0 e.Delay)) rv_3.Hops rv_3.Loops), (LineNet.mk rv_4.Exchanges (rv_4.Lines.set (Int.toNat 1) (LineLine.mk (-1) e_1.To e_1.Delay)) rv_4.Hops rv_4.Loops), (LineNet.mk rv_5.Exchanges (rv_5.Lines.set (Int.toNat 2) (LineLine.mk e_2.From e_2.To rv_8)) rv_5.Hops rv_5.Loops), (LineNet.mk rv_6.Exchanges rv_6.Lines rv_6.Hops (rv_6.Loops.set (Int.toNat 0) (LineLoop.mk 5 e_3.Read))), (LineNet.mk rv_7.Exchanges rv_7.Lines rv_7.Hops (rv_7.Loops.set (Int.toNat 1) (LineLoop.mk e_4.Exchange rv_9)))] : List LineNet)).bind fun bad =>
  loopU (remontoirlaw06_LineKnown_b1 bad) (false, 0)
theorem remontoirlaw06_LineKnown_ok {w0 : World} {D0 : Stab} (hD : D0.on w0) (hG : Glob D0) (out : Bool) (h : remontoirlaw06_LineKnown = some out) : Calls Tryd.prog 14 [].toArray w0 (RetP D0 w0 (.bool out)) := by
 refine enter _ 473 Tryd.func14 rfl Tryd.ntmps14 rfl fun a hF => ?_
 replace hF : Frm 473 [] [] a := hF
 have hS := St.start hD
 unfold remontoirlaw06_LineKnown at h
 refine seq (region (step hF (Y.assign hF rfl) rfl fun a hF => nil (then_n (seq (region (step hF (Y.build (parts := []) (cs := #[.int .i64 0, .slice none 0 0, .int .i64 0, .slice none 0 0]) hF rfl (by kernel_rfl)) rfl fun a hF => ?_))))))
 obtain ⟨rv, hx, h⟩ := bind_some h
 refine O.callM (us := [.slice none 0 0]) ca_56 hF (remontoirlaw06_net_keep hS.stab ([] : List LineLoop) SRc.nil rv hx) rfl rfl fun v Dv a w hK hlev hF => ?_
 replace hG := hG.mono hlev
 obtain ⟨p, c, cs, p_1, c_1, cs_1, hS2_0, rfl, hr, hr_1⟩ := hK
 replace hS := hS.join hS2_0
 replace hS := hS.move 1 900 rfl (by decide)
 replace hS := hS.move 2 901 rfl (by decide)
 replace hS := hS.weak (ms := [(1, .own p rv.Lines.length c cs 68 4), (2, .own p_1 rv.Loops.length c_1 cs_1 71 3)]) ⟨rfl, rfl, trivial⟩
 obtain ⟨rv_1, hx_1, h⟩ := bind_some h
 refine O.callM (us := [.slice none 0 0]) ca_56 hF (remontoirlaw06_net_keep hS.stab ([] : List LineLoop) SRc.nil rv_1 hx_1) rfl rfl fun v_1 Dv_1 a w hK_1 hlev_1 hF => ?_
 replace hG := hG.mono hlev_1
 replace hr := hr.mono hlev_1
 replace hr_1 := hr_1.mono hlev_1
 obtain ⟨p_2, c_2, cs_2, p_3, c_3, cs_3, hS2_1, rfl, hr_2, hr_3⟩ := hK_1
 replace hS := hS.join hS2_1
 replace hS := hS.move 3 900 rfl (by decide)
 replace hS := hS.move 4 901 rfl (by decide)
 replace hS := hS.weak (ms := [(1, .own p rv.Lines.length c cs 68 4), (2, .own p_1 rv.Loops.length c_1 cs_1 71 3), (3, .own p_2 rv_1.Lines.length c_2 cs_2 68 4), (4, .own p_3 rv_1.Loops.length c_3 cs_3 71 3)]) ⟨rfl, rfl, rfl, rfl, trivial⟩
 obtain ⟨rv_2, hx_2, h⟩ := bind_some h
 refine O.callM (us := [.slice none 0 0]) ca_56 hF (remontoirlaw06_net_keep hS.stab ([] : List LineLoop) SRc.nil rv_2 hx_2) rfl rfl fun v_2 Dv_2 a w hK_2 hlev_2 hF => ?_
 replace hG := hG.mono hlev_2
 replace hr := hr.mono hlev_2
 replace hr_1 := hr_1.mono hlev_2
 replace hr_2 := hr_2.mono hlev_2
 replace hr_3 := hr_3.mono hlev_2
 obtain ⟨p_4, c_4, cs_4, p_5, c_5, cs_5, hS2_2, rfl, hr_4, hr_5⟩ := hK_2
 replace hS := hS.join hS2_2
 replace hS := hS.move 5 900 rfl (by decide)
 replace hS := hS.move 6 901 rfl (by decide)
 replace hS := hS.weak (ms := [(1, .own p rv.Lines.length c cs 68 4), (2, .own p_1 rv.Loops.length c_1 cs_1 71 3), (3, .own p_2 rv_1.Lines.length c_2 cs_2 68 4), (4, .own p_3 rv_1.Loops.length c_3 cs_3 71 3), (5, .own p_4 rv_2.Lines.length c_4 cs_4 68 4), (6, .own p_5 rv_2.Loops.length c_5 cs_5 71 3)]) ⟨rfl, rfl, rfl, rfl, rfl, rfl, trivial⟩
 obtain ⟨rv_3, hx_3, h⟩ := bind_some h
 refine O.callM (us := [.slice none 0 0]) ca_56 hF (remontoirlaw06_net_keep hS.stab ([] : List LineLoop) SRc.nil rv_3 hx_3) rfl rfl fun v_3 Dv_3 a w hK_3 hlev_3 hF => ?_
 replace hG := hG.mono hlev_3
 replace hr := hr.mono hlev_3
 replace hr_1 := hr_1.mono hlev_3
 replace hr_2 := hr_2.mono hlev_3
 replace hr_3 := hr_3.mono hlev_3
 replace hr_4 := hr_4.mono hlev_3
 replace hr_5 := hr_5.mono hlev_3
 obtain ⟨p_6, c_6, cs_6, p_7, c_7, cs_7, hS2_3, rfl, hr_6, hr_7⟩ := hK_3
 replace hS := hS.join hS2_3
 replace hS := hS.move 7 900 rfl (by decide)
 replace hS := hS.move 8 901 rfl (by decide)
 replace hS := hS.weak (ms := [(1, .own p rv.Lines.length c cs 68 4), (2, .own p_1 rv.Loops.length c_1 cs_1 71 3), (3, .own p_2 rv_1.Lines.length c_2 cs_2 68 4), (4, .own p_3 rv_1.Loops.length c_3 cs_3 71 3), (5, .own p_4 rv_2.Lines.length c_4 cs_4 68 4), (6, .own p_5 rv_2.Loops.length c_5 cs_5 71 3), (7, .own p_6 rv_3.Lines.length c_6 cs_6 68 4), (8, .own p_7 rv_3.Loops.length c_7 cs_7 71 3)]) ⟨rfl, rfl, rfl, rfl, rfl, rfl, rfl, rfl, trivial⟩
 obtain ⟨rv_4, hx_4, h⟩ := bind_some h
 refine O.callM (us := [.slice none 0 0]) ca_56 hF (remontoirlaw06_net_keep hS.stab ([] : List LineLoop) SRc.nil rv_4 hx_4) rfl rfl fun v_4 Dv_4 a w hK_4 hlev_4 hF => ?_
 replace hG := hG.mono hlev_4
 replace hr := hr.mono hlev_4
 replace hr_1 := hr_1.mono hlev_4
 replace hr_2 := hr_2.mono hlev_4
 replace hr_3 := hr_3.mono hlev_4
 replace hr_4 := hr_4.mono hlev_4
 replace hr_5 := hr_5.mono hlev_4
 replace hr_6 := hr_6.mono hlev_4
 replace hr_7 := hr_7.mono hlev_4
 obtain ⟨p_8, c_8, cs_8, p_9, c_9, cs_9, hS2_4, rfl, hr_8, hr_9⟩ := hK_4
 replace hS := hS.join hS2_4
 replace hS := hS.move 9 900 rfl (by decide)
 replace hS := hS.move 10 901 rfl (by decide)
 replace hS := hS.weak (ms := [(1, .own p rv.Lines.length c cs 68 4), (2, .own p_1 rv.Loops.length c_1 cs_1 71 3), (3, .own p_2 rv_1.Lines.length c_2 cs_2 68 4), (4, .own p_3 rv_1.Loops.length c_3 cs_3 71 3), (5, .own p_4 rv_2.Lines.length c_4 cs_4 68 4), (6, .own p_5 rv_2.Loops.length c_5 cs_5 71 3), (7, .own p_6 rv_3.Lines.length c_6 cs_6 68 4), (8, .own p_7 rv_3.Loops.length c_7 cs_7 71 3), (9, .own p_8 rv_4.Lines.length c_8 cs_8 68 4), (10, .own p_9 rv_4.Loops.length c_9 cs_9 71 3)]) ⟨rfl, rfl, rfl, rfl, rfl, rfl, rfl, rfl, rfl, rfl, trivial⟩
 obtain ⟨rv_5, hx_5, h⟩ := bind_some h
 refine O.callM (us := [.slice none 0 0]) ca_56 hF (remontoirlaw06_net_keep hS.stab ([] : List LineLoop) SRc.nil rv_5 hx_5) rfl rfl fun v_5 Dv_5 a w hK_5 hlev_5 hF => ?_
 replace hG := hG.mono hlev_5
 replace hr := hr.mono hlev_5
 replace hr_1 := hr_1.mono hlev_5
 replace hr_2 := hr_2.mono hlev_5
 replace hr_3 := hr_3.mono hlev_5
 replace hr_4 := hr_4.mono hlev_5
 replace hr_5 := hr_5.mono hlev_5
 replace hr_6 := hr_6.mono hlev_5
 replace hr_7 := hr_7.mono hlev_5
 replace hr_8 := hr_8.mono hlev_5
 replace hr_9 := hr_9.mono hlev_5
 obtain ⟨p_10, c_10, cs_10, p_11, c_11, cs_11, hS2_5, rfl, hr_10, hr_11⟩ := hK_5
 replace hS := hS.join hS2_5
 replace hS := hS.move 11 900 rfl (by decide)
 replace hS := hS.move 12 901 rfl (by decide)
 replace hS := hS.weak (ms := [(1, .own p rv.Lines.length c cs 68 4), (2, .own p_1 rv.Loops.length c_1 cs_1 71 3), (3, .own p_2 rv_1.Lines.length c_2 cs_2 68 4), (4, .own p_3 rv_1.Loops.length c_3 cs_3 71 3), (5, .own p_4 rv_2.Lines.length c_4 cs_4 68 4), (6, .own p_5 rv_2.Loops.length c_5 cs_5 71 3), (7, .own p_6 rv_3.Lines.length c_6 cs_6 68 4), (8, .own p_7 rv_3.Loops.length c_7 cs_7 71 3), (9, .own p_8 rv_4.Lines.length c_8 cs_8 68 4), (10, .own p_9 rv_4.Loops.length c_9 cs_9 71 3), (11, .own p_10 rv_5.Lines.length c_10 cs_10 68 4), (12, .own p_11 rv_5.Loops.length c_11 cs_11 71 3)]) ⟨rfl, rfl, rfl, rfl, rfl, rfl, rfl, rfl, rfl, rfl, rfl, rfl, trivial⟩
 obtain ⟨rv_6, hx_6, h⟩ := bind_some h
 refine O.callM (us := [.slice none 0 0]) ca_56 hF (remontoirlaw06_net_keep hS.stab ([] : List LineLoop) SRc.nil rv_6 hx_6) rfl rfl fun v_6 Dv_6 a w hK_6 hlev_6 hF => ?_
 replace hG := hG.mono hlev_6
 replace hr := hr.mono hlev_6
 replace hr_1 := hr_1.mono hlev_6
 replace hr_2 := hr_2.mono hlev_6
 replace hr_3 := hr_3.mono hlev_6
 replace hr_4 := hr_4.mono hlev_6
 replace hr_5 := hr_5.mono hlev_6
 replace hr_6 := hr_6.mono hlev_6
 replace hr_7 := hr_7.mono hlev_6
 replace hr_8 := hr_8.mono hlev_6
 replace hr_9 := hr_9.mono hlev_6
 replace hr_10 := hr_10.mono hlev_6
 replace hr_11 := hr_11.mono hlev_6
 obtain ⟨p_12, c_12, cs_12, p_13, c_13, cs_13, hS2_6, rfl, hr_12, hr_13⟩ := hK_6
 replace hS := hS.join hS2_6
 replace hS := hS.move 13 900 rfl (by decide)
 replace hS := hS.move 14 901 rfl (by decide)
 replace hS := hS.weak (ms := [(1, .own p rv.Lines.length c cs 68 4), (2, .own p_1 rv.Loops.length c_1 cs_1 71 3), (3, .own p_2 rv_1.Lines.length c_2 cs_2 68 4), (4, .own p_3 rv_1.Loops.length c_3 cs_3 71 3), (5, .own p_4 rv_2.Lines.length c_4 cs_4 68 4), (6, .own p_5 rv_2.Loops.length c_5 cs_5 71 3), (7, .own p_6 rv_3.Lines.length c_6 cs_6 68 4), (8, .own p_7 rv_3.Loops.length c_7 cs_7 71 3), (9, .own p_8 rv_4.Lines.length c_8 cs_8 68 4), (10, .own p_9 rv_4.Loops.length c_9 cs_9 71 3), (11, .own p_10 rv_5.Lines.length c_10 cs_10 68 4), (12, .own p_11 rv_5.Loops.length c_11 cs_11 71 3), (13, .own p_12 rv_6.Lines.length c_12 cs_12 68 4), (14, .own p_13 rv_6.Loops.length c_13 cs_13 71 3)]) ⟨rfl, rfl, rfl, rfl, rfl, rfl, rfl, rfl, rfl, rfl, rfl, rfl, rfl, rfl, trivial⟩
 obtain ⟨rv_7, hx_7, h⟩ := bind_some h
 refine O.callM (us := [.slice none 0 0]) ca_56 hF (remontoirlaw06_net_keep hS.stab ([] : List LineLoop) SRc.nil rv_7 hx_7) rfl rfl fun v_7 Dv_7 a w hK_7 hlev_7 hF => ?_
 replace hG := hG.mono hlev_7
 replace hr := hr.mono hlev_7
 replace hr_1 := hr_1.mono hlev_7
 replace hr_2 := hr_2.mono hlev_7
 replace hr_3 := hr_3.mono hlev_7
 replace hr_4 := hr_4.mono hlev_7
 replace hr_5 := hr_5.mono hlev_7
 replace hr_6 := hr_6.mono hlev_7
 replace hr_7 := hr_7.mono hlev_7
 replace hr_8 := hr_8.mono hlev_7
 replace hr_9 := hr_9.mono hlev_7
 replace hr_10 := hr_10.mono hlev_7
 replace hr_11 := hr_11.mono hlev_7
 replace hr_12 := hr_12.mono hlev_7
 replace hr_13 := hr_13.mono hlev_7
 obtain ⟨p_14, c_14, cs_14, p_15, c_15, cs_15, hS2_7, rfl, hr_14, hr_15⟩ := hK_7
 replace hS := hS.join hS2_7
 replace hS := hS.move 15 900 rfl (by decide)
 replace hS := hS.move 16 901 rfl (by decide)
 replace hS := hS.weak (ms := [(1, .own p rv.Lines.length c cs 68 4), (2, .own p_1 rv.Loops.length c_1 cs_1 71 3), (3, .own p_2 rv_1.Lines.length c_2 cs_2 68 4), (4, .own p_3 rv_1.Loops.length c_3 cs_3 71 3), (5, .own p_4 rv_2.Lines.length c_4 cs_4 68 4), (6, .own p_5 rv_2.Loops.length c_5 cs_5 71 3), (7, .own p_6 rv_3.Lines.length c_6 cs_6 68 4), (8, .own p_7 rv_3.Loops.length c_7 cs_7 71 3), (9, .own p_8 rv_4.Lines.length c_8 cs_8 68 4), (10, .own p_9 rv_4.Loops.length c_9 cs_9 71 3), (11, .own p_10 rv_5.Lines.length c_10 cs_10 68 4), (12, .own p_11 rv_5.Loops.length c_11 cs_11 71 3), (13, .own p_12 rv_6.Lines.length c_12 cs_12 68 4), (14, .own p_13 rv_6.Loops.length c_13 cs_13 71 3), (15, .own p_14 rv_7.Lines.length c_14 cs_14 68 4), (16, .own p_15 rv_7.Loops.length c_15 cs_15 71 3)]) ⟨rfl, rfl, rfl, rfl, rfl, rfl, rfl, rfl, rfl, rfl, rfl, rfl, rfl, rfl, rfl, rfl, trivial⟩
 refine O.buildLit (E := 25) (cs := [.int .i64 0, .slice none 0 0, .int .i64 0, .slice none 0 0, .int .i64 rv.Exchanges, .slice p rv.Lines.length c, .int .i64 rv.Hops, .slice p_1 rv.Loops.length c_1, .int .i64 rv_1.Exchanges, .slice p_2 rv_1.Lines.length c_2, .int .i64 rv_1.Hops, .slice p_3 rv_1.Loops.length c_3, .int .i64 rv_2.Exchanges, .slice p_4 rv_2.Lines.length c_4, .int .i64 rv_2.Hops, .slice p_5 rv_2.Loops.length c_5, .int .i64 rv_3.Exchanges, .slice p_6 rv_3.Lines.length c_6, .int .i64 rv_3.Hops, .slice p_7 rv_3.Loops.length c_7, .int .i64 rv_4.Exchanges, .slice p_8 rv_4.Lines.length c_8, .int .i64 rv_4.Hops, .slice p_9 rv_4.Loops.length c_9, .int .i64 rv_5.Exchanges, .slice p_10 rv_5.Lines.length c_10, .int .i64 rv_5.Hops, .slice p_11 rv_5.Loops.length c_11, .int .i64 rv_6.Exchanges, .slice p_12 rv_6.Lines.length c_12, .int .i64 rv_6.Hops, .slice p_13 rv_6.Loops.length c_13, .int .i64 rv_7.Exchanges, .slice p_14 rv_7.Lines.length c_14, .int .i64 rv_7.Hops, .slice p_15 rv_7.Loops.length c_15]) (us := [.agg #[.int .i64 0, .slice none 0 0, .int .i64 0, .slice none 0 0], .agg #[.int .i64 rv.Exchanges, .slice p rv.Lines.length c, .int .i64 rv.Hops, .slice p_1 rv.Loops.length c_1], .agg #[.int .i64 rv_1.Exchanges, .slice p_2 rv_1.Lines.length c_2, .int .i64 rv_1.Hops, .slice p_3 rv_1.Loops.length c_3], .agg #[.int .i64 rv_2.Exchanges, .slice p_4 rv_2.Lines.length c_4, .int .i64 rv_2.Hops, .slice p_5 rv_2.Loops.length c_5], .agg #[.int .i64 rv_3.Exchanges, .slice p_6 rv_3.Lines.length c_6, .int .i64 rv_3.Hops, .slice p_7 rv_3.Loops.length c_7], .agg #[.int .i64 rv_4.Exchanges, .slice p_8 rv_4.Lines.length c_8, .int .i64 rv_4.Hops, .slice p_9 rv_4.Loops.length c_9], .agg #[.int .i64 rv_5.Exchanges, .slice p_10 rv_5.Lines.length c_10, .int .i64 rv_5.Hops, .slice p_11 rv_5.Loops.length c_11], .agg #[.int .i64 rv_6.Exchanges, .slice p_12 rv_6.Lines.length c_12, .int .i64 rv_6.Hops, .slice p_13 rv_6.Loops.length c_13], .agg #[.int .i64 rv_7.Exchanges, .slice p_14 rv_7.Lines.length c_14, .int .i64 rv_7.Hops, .slice p_15 rv_7.Loops.length c_15]]) (parts := [(0, (.tmp 57)), (1, (.tmp 58)), (2, (.tmp 59)), (3, (.tmp 60)), (4, (.tmp 61)), (5, (.tmp 62)), (6, (.tmp 63)), (7, (.tmp 64)), (8, (.tmp 65))]) 17 hF hS rfl (by kernel_rfl) rfl fun b a w hF hS => step hF (Y.assign hF rfl) rfl fun a hF => nil (then_n (seq (region (step hF (Y.move hF rfl) rfl fun a hF => step hF (Y.indexSl u_81 sz_25 hF rfl rfl (by decide) (by decide)) rfl fun a hF => step hF (Y.fieldAddr fo_25_0 hF rfl) rfl fun a hF => O.store (us := [.int .i64 8]) 17 sz_3 hF rfl rfl rfl rfl hS rfl rfl fun a w hF hS => nil (then_n (seq (region (step hF (Y.move hF rfl) rfl fun a hF => step hF (Y.indexSl u_81 sz_25 hF rfl rfl (by decide) (by decide)) rfl fun a hF => step hF (Y.fieldAddr fo_25_0 hF rfl) rfl fun a hF => O.store (us := [.int .i64 3]) 17 sz_3 hF rfl rfl rfl rfl hS rfl rfl fun a w hF hS => nil (then_n (seq (region (step hF (Y.move hF rfl) rfl fun a hF => step hF (Y.indexSl u_81 sz_25 hF rfl rfl (by decide) (by decide)) rfl fun a hF => step hF (Y.fieldAddr fo_25_2 hF rfl) rfl fun a hF => O.store (us := [.int .i64 7]) 17 sz_3 hF rfl rfl rfl rfl hS rfl rfl fun a w hF hS => nil (then_n (seq (region (step hF (Y.move hF rfl) rfl fun a hF => step hF (Y.indexSl u_81 sz_25 hF rfl rfl (by decide) (by decide)) rfl fun a hF => step hF (Y.fieldAddr fo_25_1 hF rfl) rfl fun a hF => step hF (Y.load1L 17 sz_22 hF rfl hS rfl rfl) rfl fun a hF => ?_))))))))))))))))
 obtain ⟨e, hx_8, h⟩ := bind_some h
 obtain ⟨b_1, hp⟩ := hS.ownPtr (i := 7) rfl (idx_rng hx_8)
 obtain ⟨cc, hc, hsub⟩ := ownElI (C := C_LineLine) hr_6 hx_8
 obtain rfl := C_LineLine.open hc
 refine step hF (Y.indexOwn hp u_22 sz_68 (idx_rng hx_8) hF rfl rfl) rfl fun a hF => step hF (Y.fieldAddr fo_68_1 hF rfl) rfl fun a hF => O.storePart (C := C_LineLine) (v0 := (LineLine.mk e.From 0 e.Delay)) (x0 := e) (xs := rv_3.Lines) (us := [.int .i64 0]) (k := 1) 7 hp sz_3 (idx_rng hx_8) hF rfl rfl rfl rfl hx_8 (fun c0 h => by obtain rfl := C_LineLine.open h; rfl) (show 1 + 1 ≤ 4 by decide) hS rfl hr_6 fun cs_16 a w hF hS hr_16 => ?_
 try rw [show rv_3.Lines.length = (rv_3.Lines.set (Int.toNat 0) (LineLine.mk e.From 0 e.Delay)).length from List.length_set.symm] at hF
 try rw [show rv_3.Lines.length = (rv_3.Lines.set (Int.toNat 0) (LineLine.mk e.From 0 e.Delay)).length from List.length_set.symm] at hS
 refine nil (then_n (seq (region (step hF (Y.move hF rfl) rfl fun a hF => step hF (Y.indexSl u_81 sz_25 hF rfl rfl (by decide) (by decide)) rfl fun a hF => step hF (Y.fieldAddr fo_25_1 hF rfl) rfl fun a hF => step hF (Y.load1L 17 sz_22 hF rfl hS rfl rfl) rfl fun a hF => ?_))))
 obtain ⟨e_1, hx_9, h⟩ := bind_some h
 obtain ⟨b_2, hp_1⟩ := hS.ownPtr (i := 9) rfl (idx_rng hx_9)
 obtain ⟨cc_1, hc_1, hsub_1⟩ := ownElI (C := C_LineLine) hr_8 hx_9
 obtain rfl := C_LineLine.open hc_1
 refine step hF (Y.indexOwn hp_1 u_22 sz_68 (idx_rng hx_9) hF rfl rfl) rfl fun a hF => step hF (Y.fieldAddr fo_68_0 hF rfl) rfl fun a hF => O.storePart (C := C_LineLine) (v0 := (LineLine.mk (-1) e_1.To e_1.Delay)) (x0 := e_1) (xs := rv_4.Lines) (us := [.int .i64 (-1)]) (k := 0) 9 hp_1 sz_3 (idx_rng hx_9) hF rfl rfl rfl rfl hx_9 (fun c0 h => by obtain rfl := C_LineLine.open h; rfl) (show 0 + 1 ≤ 4 by decide) hS rfl hr_8 fun cs_17 a w hF hS hr_17 => ?_
 try rw [show rv_4.Lines.length = (rv_4.Lines.set (Int.toNat 1) (LineLine.mk (-1) e_1.To e_1.Delay)).length from List.length_set.symm] at hF
 try rw [show rv_4.Lines.length = (rv_4.Lines.set (Int.toNat 1) (LineLine.mk (-1) e_1.To e_1.Delay)).length from List.length_set.symm] at hS
 refine nil (then_n (seq ?_))
 obtain ⟨rv_8, hx_10, h⟩ := bind_some h
 refine drawsV 5 (.flt 0 (.flt 1 (.flt 2 (.flt 3 (.alt 4 .done .stop))))) mixed_ (by kernel_rfl) (fun w => St w0 D0 Dv_7 [(1, .own p rv.Lines.length c cs 68 4), (2, .own p_1 rv.Loops.length c_1 cs_1 71 3), (3, .own p_2 rv_1.Lines.length c_2 cs_2 68 4), (4, .own p_3 rv_1.Loops.length c_3 cs_3 71 3), (5, .own p_4 rv_2.Lines.length c_4 cs_4 68 4), (6, .own p_5 rv_2.Loops.length c_5 cs_5 71 3), (7, .own p_6 (rv_3.Lines.set (Int.toNat 0) (LineLine.mk e.From 0 e.Delay)).length c_6 cs_16 68 4), (8, .own p_7 rv_3.Loops.length c_7 cs_7 71 3), (9, .own p_8 (rv_4.Lines.set (Int.toNat 1) (LineLine.mk (-1) e_1.To e_1.Delay)).length c_8 cs_17 68 4), (10, .own p_9 rv_4.Loops.length c_9 cs_9 71 3), (11, .own p_10 rv_5.Lines.length c_10 cs_10 68 4), (12, .own p_11 rv_5.Loops.length c_11 cs_11 71 3), (13, .own p_12 rv_6.Lines.length c_12 cs_12 68 4), (14, .own p_13 rv_6.Loops.length c_13 cs_13 71 3), (15, .own p_14 rv_7.Lines.length c_14 cs_14 68 4), (16, .own p_15 rv_7.Loops.length c_15 cs_15 71 3), (17, .cells b [.int .i64 0, .slice none 0 0, .int .i64 0, .slice none 0 0, .int .i64 8, .slice p rv.Lines.length c, .int .i64 rv.Hops, .slice p_1 rv.Loops.length c_1, .int .i64 3, .slice p_2 rv_1.Lines.length c_2, .int .i64 rv_1.Hops, .slice p_3 rv_1.Loops.length c_3, .int .i64 rv_2.Exchanges, .slice p_4 rv_2.Lines.length c_4, .int .i64 7, .slice p_5 rv_2.Loops.length c_5, .int .i64 rv_3.Exchanges, .slice p_6 (rv_3.Lines.set (Int.toNat 0) (LineLine.mk e.From 0 e.Delay)).length c_6, .int .i64 rv_3.Hops, .slice p_7 rv_3.Loops.length c_7, .int .i64 rv_4.Exchanges, .slice p_8 (rv_4.Lines.set (Int.toNat 1) (LineLine.mk (-1) e_1.To e_1.Delay)).length c_8, .int .i64 rv_4.Hops, .slice p_9 rv_4.Loops.length c_9, .int .i64 rv_5.Exchanges, .slice p_10 rv_5.Lines.length c_10, .int .i64 rv_5.Hops, .slice p_11 rv_5.Loops.length c_11, .int .i64 rv_6.Exchanges, .slice p_12 rv_6.Lines.length c_12, .int .i64 rv_6.Hops, .slice p_13 rv_6.Loops.length c_13, .int .i64 rv_7.Exchanges, .slice p_14 rv_7.Lines.length c_14, .int .i64 rv_7.Hops, .slice p_15 rv_7.Loops.length c_15] 25)] w) (fun a w => Frm 473 [] [(0, .bool false), (1, .slice (some ⟨b, 0, none⟩) 9 9), (91, .slice p_10 rv_5.Lines.length c_10), (92, .agg #[.int .i64 rv_8.Low, .int .i64 rv_8.High])] a ∧ St w0 D0 Dv_7 [(1, .own p rv.Lines.length c cs 68 4), (2, .own p_1 rv.Loops.length c_1 cs_1 71 3), (3, .own p_2 rv_1.Lines.length c_2 cs_2 68 4), (4, .own p_3 rv_1.Loops.length c_3 cs_3 71 3), (5, .own p_4 rv_2.Lines.length c_4 cs_4 68 4), (6, .own p_5 rv_2.Loops.length c_5 cs_5 71 3), (7, .own p_6 (rv_3.Lines.set (Int.toNat 0) (LineLine.mk e.From 0 e.Delay)).length c_6 cs_16 68 4), (8, .own p_7 rv_3.Loops.length c_7 cs_7 71 3), (9, .own p_8 (rv_4.Lines.set (Int.toNat 1) (LineLine.mk (-1) e_1.To e_1.Delay)).length c_8 cs_17 68 4), (10, .own p_9 rv_4.Loops.length c_9 cs_9 71 3), (11, .own p_10 rv_5.Lines.length c_10 cs_10 68 4), (12, .own p_11 rv_5.Loops.length c_11 cs_11 71 3), (13, .own p_12 rv_6.Lines.length c_12 cs_12 68 4), (14, .own p_13 rv_6.Loops.length c_13 cs_13 71 3), (15, .own p_14 rv_7.Lines.length c_14 cs_14 68 4), (16, .own p_15 rv_7.Loops.length c_15 cs_15 71 3), (17, .cells b [.int .i64 0, .slice none 0 0, .int .i64 0, .slice none 0 0, .int .i64 8, .slice p rv.Lines.length c, .int .i64 rv.Hops, .slice p_1 rv.Loops.length c_1, .int .i64 3, .slice p_2 rv_1.Lines.length c_2, .int .i64 rv_1.Hops, .slice p_3 rv_1.Loops.length c_3, .int .i64 rv_2.Exchanges, .slice p_4 rv_2.Lines.length c_4, .int .i64 7, .slice p_5 rv_2.Loops.length c_5, .int .i64 rv_3.Exchanges, .slice p_6 (rv_3.Lines.set (Int.toNat 0) (LineLine.mk e.From 0 e.Delay)).length c_6, .int .i64 rv_3.Hops, .slice p_7 rv_3.Loops.length c_7, .int .i64 rv_4.Exchanges, .slice p_8 (rv_4.Lines.set (Int.toNat 1) (LineLine.mk (-1) e_1.To e_1.Delay)).length c_8, .int .i64 rv_4.Hops, .slice p_9 rv_4.Loops.length c_9, .int .i64 rv_5.Exchanges, .slice p_10 rv_5.Lines.length c_10, .int .i64 rv_5.Hops, .slice p_11 rv_5.Loops.length c_11, .int .i64 rv_6.Exchanges, .slice p_12 rv_6.Lines.length c_12, .int .i64 rv_6.Hops, .slice p_13 rv_6.Loops.length c_13, .int .i64 rv_7.Exchanges, .slice p_14 rv_7.Lines.length c_14, .int .i64 rv_7.Hops, .slice p_15 rv_7.Loops.length c_15] 25)] w) (hS.weak (ms := [(1, .own p rv.Lines.length c cs 68 4), (2, .own p_1 rv.Loops.length c_1 cs_1 71 3), (3, .own p_2 rv_1.Lines.length c_2 cs_2 68 4), (4, .own p_3 rv_1.Loops.length c_3 cs_3 71 3), (5, .own p_4 rv_2.Lines.length c_4 cs_4 68 4), (6, .own p_5 rv_2.Loops.length c_5 cs_5 71 3), (7, .own p_6 (rv_3.Lines.set (Int.toNat 0) (LineLine.mk e.From 0 e.Delay)).length c_6 cs_16 68 4), (8, .own p_7 rv_3.Loops.length c_7 cs_7 71 3), (9, .own p_8 (rv_4.Lines.set (Int.toNat 1) (LineLine.mk (-1) e_1.To e_1.Delay)).length c_8 cs_17 68 4), (10, .own p_9 rv_4.Loops.length c_9 cs_9 71 3), (11, .own p_10 rv_5.Lines.length c_10 cs_10 68 4), (12, .own p_11 rv_5.Loops.length c_11 cs_11 71 3), (13, .own p_12 rv_6.Lines.length c_12 cs_12 68 4), (14, .own p_13 rv_6.Loops.length c_13 cs_13 71 3), (15, .own p_14 rv_7.Lines.length c_14 cs_14 68 4), (16, .own p_15 rv_7.Loops.length c_15 cs_15 71 3), (17, .cells b [.int .i64 0, .slice none 0 0, .int .i64 0, .slice none 0 0, .int .i64 8, .slice p rv.Lines.length c, .int .i64 rv.Hops, .slice p_1 rv.Loops.length c_1, .int .i64 3, .slice p_2 rv_1.Lines.length c_2, .int .i64 rv_1.Hops, .slice p_3 rv_1.Loops.length c_3, .int .i64 rv_2.Exchanges, .slice p_4 rv_2.Lines.length c_4, .int .i64 7, .slice p_5 rv_2.Loops.length c_5, .int .i64 rv_3.Exchanges, .slice p_6 (rv_3.Lines.set (Int.toNat 0) (LineLine.mk e.From 0 e.Delay)).length c_6, .int .i64 rv_3.Hops, .slice p_7 rv_3.Loops.length c_7, .int .i64 rv_4.Exchanges, .slice p_8 (rv_4.Lines.set (Int.toNat 1) (LineLine.mk (-1) e_1.To e_1.Delay)).length c_8, .int .i64 rv_4.Hops, .slice p_9 rv_4.Loops.length c_9, .int .i64 rv_5.Exchanges, .slice p_10 rv_5.Lines.length c_10, .int .i64 rv_5.Hops, .slice p_11 rv_5.Loops.length c_11, .int .i64 rv_6.Exchanges, .slice p_12 rv_6.Lines.length c_12, .int .i64 rv_6.Hops, .slice p_13 rv_6.Loops.length c_13, .int .i64 rv_7.Exchanges, .slice p_14 rv_7.Lines.length c_14, .int .i64 rv_7.Hops, .slice p_15 rv_7.Loops.length c_15] 25)]) ⟨rfl, rfl, rfl, rfl, rfl, rfl, rfl, rfl, rfl, rfl, rfl, rfl, rfl, rfl, rfl, rfl, rfl, trivial⟩).drew (fun _ _ _ _ h => h) ?_ ?_
 ·replace hS := hS.drew
  have hle0 := hS.le
  refine stepV (i := 0) rfl hF (fun w hS => Y.move hF rfl) rfl fun a hF => stepV (i := 1) rfl hF (fun w hS => Y.indexSl u_81 sz_25 hF rfl rfl (by decide) (by decide)) rfl fun a hF => stepV (i := 2) rfl hF (fun w hS => Y.fieldAddr fo_25_1 hF rfl) rfl fun a hF => stepV (i := 3) rfl hF (fun w hS => Y.load1L 17 sz_22 hF rfl hS rfl rfl) rfl fun a hF => oneV (i := 4) rfl ?_ trivial
  refine O.callP (us := [.int .i64 0, .int .i64 1001]) ca_44 hF hS (r0To_ok hS.stab 0 1001 rv_8 hx_10) rfl rfl fun a w hF hS => nil (then_n ⟨hS.weak ⟨rfl, rfl, rfl, rfl, rfl, rfl, rfl, rfl, rfl, rfl, rfl, rfl, rfl, rfl, rfl, rfl, rfl, trivial⟩, ?_⟩)
  exact toTailV ⟨hF.weak ⟨rfl, rfl, rfl, rfl, trivial⟩, hS.weak ⟨rfl, rfl, rfl, rfl, rfl, rfl, rfl, rfl, rfl, rfl, rfl, rfl, rfl, rfl, rfl, rfl, rfl, trivial⟩⟩
 rintro a w ⟨hF, hS⟩
 obtain ⟨e_2, hx_11, h⟩ := bind_some h
 obtain ⟨b_3, hp_2⟩ := hS.ownPtr (i := 11) rfl (idx_rng hx_11)
 obtain ⟨cc_2, hc_2, hsub_2⟩ := ownElI (C := C_LineLine) hr_10 hx_11
 obtain rfl := C_LineLine.open hc_2
 refine step hF (Y.indexOwn hp_2 u_22 sz_68 (idx_rng hx_11) hF rfl rfl) rfl fun a hF => step hF (Y.fieldAddr fo_68_2 hF rfl) rfl fun a hF => O.storePart (C := C_LineLine) (v0 := (LineLine.mk e_2.From e_2.To rv_8)) (x0 := e_2) (xs := rv_5.Lines) (us := [.int .i64 rv_8.Low, .int .i64 rv_8.High]) (k := 2) 11 hp_2 sz_40 (idx_rng hx_11) hF rfl rfl rfl rfl hx_11 (fun c0 h => by obtain rfl := C_LineLine.open h; rfl) (show 2 + 2 ≤ 4 by decide) hS rfl hr_10 fun cs_18 a w hF hS hr_18 => ?_
 try rw [show rv_5.Lines.length = (rv_5.Lines.set (Int.toNat 2) (LineLine.mk e_2.From e_2.To rv_8)).length from List.length_set.symm] at hF
 try rw [show rv_5.Lines.length = (rv_5.Lines.set (Int.toNat 2) (LineLine.mk e_2.From e_2.To rv_8)).length from List.length_set.symm] at hS
 refine nil (then_n (seq (region (step hF (Y.move hF rfl) rfl fun a hF => step hF (Y.indexSl u_81 sz_25 hF rfl rfl (by decide) (by decide)) rfl fun a hF => step hF (Y.fieldAddr fo_25_3 hF rfl) rfl fun a hF => step hF (Y.load1L 17 sz_23 hF rfl hS rfl rfl) rfl fun a hF => ?_))))
 obtain ⟨e_3, hx_12, h⟩ := bind_some h
 obtain ⟨b_4, hp_3⟩ := hS.ownPtr (i := 14) rfl (idx_rng hx_12)
 obtain ⟨cc_3, hc_3, hsub_3⟩ := ownElI (C := C_LineLoop) hr_13 hx_12
 obtain rfl := C_LineLoop.open hc_3
 refine step hF (Y.indexOwn hp_3 u_23 sz_71 (idx_rng hx_12) hF rfl rfl) rfl fun a hF => step hF (Y.fieldAddr fo_71_0 hF rfl) rfl fun a hF => O.storePart (C := C_LineLoop) (v0 := (LineLoop.mk 5 e_3.Read)) (x0 := e_3) (xs := rv_6.Loops) (us := [.int .i64 5]) (k := 0) 14 hp_3 sz_3 (idx_rng hx_12) hF rfl rfl rfl rfl hx_12 (fun c0 h => by obtain rfl := C_LineLoop.open h; rfl) (show 0 + 1 ≤ 3 by decide) hS rfl hr_13 fun cs_19 a w hF hS hr_19 => ?_
 try rw [show rv_6.Loops.length = (rv_6.Loops.set (Int.toNat 0) (LineLoop.mk 5 e_3.Read)).length from List.length_set.symm] at hF
 try rw [show rv_6.Loops.length = (rv_6.Loops.set (Int.toNat 0) (LineLoop.mk 5 e_3.Read)).length from List.length_set.symm] at hS
 refine nil (then_n (seq ?_))
 obtain ⟨rv_9, hx_13, h⟩ := bind_some h
 refine drawsV 5 (.flt 0 (.flt 1 (.flt 2 (.flt 3 (.alt 4 .done .stop))))) mixed_ (by kernel_rfl) (fun w => St w0 D0 Dv_7 [(1, .own p rv.Lines.length c cs 68 4), (2, .own p_1 rv.Loops.length c_1 cs_1 71 3), (3, .own p_2 rv_1.Lines.length c_2 cs_2 68 4), (4, .own p_3 rv_1.Loops.length c_3 cs_3 71 3), (5, .own p_4 rv_2.Lines.length c_4 cs_4 68 4), (6, .own p_5 rv_2.Loops.length c_5 cs_5 71 3), (7, .own p_6 (rv_3.Lines.set (Int.toNat 0) (LineLine.mk e.From 0 e.Delay)).length c_6 cs_16 68 4), (8, .own p_7 rv_3.Loops.length c_7 cs_7 71 3), (9, .own p_8 (rv_4.Lines.set (Int.toNat 1) (LineLine.mk (-1) e_1.To e_1.Delay)).length c_8 cs_17 68 4), (10, .own p_9 rv_4.Loops.length c_9 cs_9 71 3), (11, .own p_10 (rv_5.Lines.set (Int.toNat 2) (LineLine.mk e_2.From e_2.To rv_8)).length c_10 cs_18 68 4), (12, .own p_11 rv_5.Loops.length c_11 cs_11 71 3), (13, .own p_12 rv_6.Lines.length c_12 cs_12 68 4), (14, .own p_13 (rv_6.Loops.set (Int.toNat 0) (LineLoop.mk 5 e_3.Read)).length c_13 cs_19 71 3), (15, .own p_14 rv_7.Lines.length c_14 cs_14 68 4), (16, .own p_15 rv_7.Loops.length c_15 cs_15 71 3), (17, .cells b [.int .i64 0, .slice none 0 0, .int .i64 0, .slice none 0 0, .int .i64 8, .slice p rv.Lines.length c, .int .i64 rv.Hops, .slice p_1 rv.Loops.length c_1, .int .i64 3, .slice p_2 rv_1.Lines.length c_2, .int .i64 rv_1.Hops, .slice p_3 rv_1.Loops.length c_3, .int .i64 rv_2.Exchanges, .slice p_4 rv_2.Lines.length c_4, .int .i64 7, .slice p_5 rv_2.Loops.length c_5, .int .i64 rv_3.Exchanges, .slice p_6 (rv_3.Lines.set (Int.toNat 0) (LineLine.mk e.From 0 e.Delay)).length c_6, .int .i64 rv_3.Hops, .slice p_7 rv_3.Loops.length c_7, .int .i64 rv_4.Exchanges, .slice p_8 (rv_4.Lines.set (Int.toNat 1) (LineLine.mk (-1) e_1.To e_1.Delay)).length c_8, .int .i64 rv_4.Hops, .slice p_9 rv_4.Loops.length c_9, .int .i64 rv_5.Exchanges, .slice p_10 (rv_5.Lines.set (Int.toNat 2) (LineLine.mk e_2.From e_2.To rv_8)).length c_10, .int .i64 rv_5.Hops, .slice p_11 rv_5.Loops.length c_11, .int .i64 rv_6.Exchanges, .slice p_12 rv_6.Lines.length c_12, .int .i64 rv_6.Hops, .slice p_13 (rv_6.Loops.set (Int.toNat 0) (LineLoop.mk 5 e_3.Read)).length c_13, .int .i64 rv_7.Exchanges, .slice p_14 rv_7.Lines.length c_14, .int .i64 rv_7.Hops, .slice p_15 rv_7.Loops.length c_15] 25)] w) (fun a w => Frm 473 [] [(0, .bool false), (1, .slice (some ⟨b, 0, none⟩) 9 9), (104, .slice p_15 rv_7.Loops.length c_15), (105, .agg #[.int .i64 rv_9.Low, .int .i64 rv_9.High])] a ∧ St w0 D0 Dv_7 [(1, .own p rv.Lines.length c cs 68 4), (2, .own p_1 rv.Loops.length c_1 cs_1 71 3), (3, .own p_2 rv_1.Lines.length c_2 cs_2 68 4), (4, .own p_3 rv_1.Loops.length c_3 cs_3 71 3), (5, .own p_4 rv_2.Lines.length c_4 cs_4 68 4), (6, .own p_5 rv_2.Loops.length c_5 cs_5 71 3), (7, .own p_6 (rv_3.Lines.set (Int.toNat 0) (LineLine.mk e.From 0 e.Delay)).length c_6 cs_16 68 4), (8, .own p_7 rv_3.Loops.length c_7 cs_7 71 3), (9, .own p_8 (rv_4.Lines.set (Int.toNat 1) (LineLine.mk (-1) e_1.To e_1.Delay)).length c_8 cs_17 68 4), (10, .own p_9 rv_4.Loops.length c_9 cs_9 71 3), (11, .own p_10 (rv_5.Lines.set (Int.toNat 2) (LineLine.mk e_2.From e_2.To rv_8)).length c_10 cs_18 68 4), (12, .own p_11 rv_5.Loops.length c_11 cs_11 71 3), (13, .own p_12 rv_6.Lines.length c_12 cs_12 68 4), (14, .own p_13 (rv_6.Loops.set (Int.toNat 0) (LineLoop.mk 5 e_3.Read)).length c_13 cs_19 71 3), (15, .own p_14 rv_7.Lines.length c_14 cs_14 68 4), (16, .own p_15 rv_7.Loops.length c_15 cs_15 71 3), (17, .cells b [.int .i64 0, .slice none 0 0, .int .i64 0, .slice none 0 0, .int .i64 8, .slice p rv.Lines.length c, .int .i64 rv.Hops, .slice p_1 rv.Loops.length c_1, .int .i64 3, .slice p_2 rv_1.Lines.length c_2, .int .i64 rv_1.Hops, .slice p_3 rv_1.Loops.length c_3, .int .i64 rv_2.Exchanges, .slice p_4 rv_2.Lines.length c_4, .int .i64 7, .slice p_5 rv_2.Loops.length c_5, .int .i64 rv_3.Exchanges, .slice p_6 (rv_3.Lines.set (Int.toNat 0) (LineLine.mk e.From 0 e.Delay)).length c_6, .int .i64 rv_3.Hops, .slice p_7 rv_3.Loops.length c_7, .int .i64 rv_4.Exchanges, .slice p_8 (rv_4.Lines.set (Int.toNat 1) (LineLine.mk (-1) e_1.To e_1.Delay)).length c_8, .int .i64 rv_4.Hops, .slice p_9 rv_4.Loops.length c_9, .int .i64 rv_5.Exchanges, .slice p_10 (rv_5.Lines.set (Int.toNat 2) (LineLine.mk e_2.From e_2.To rv_8)).length c_10, .int .i64 rv_5.Hops, .slice p_11 rv_5.Loops.length c_11, .int .i64 rv_6.Exchanges, .slice p_12 rv_6.Lines.length c_12, .int .i64 rv_6.Hops, .slice p_13 (rv_6.Loops.set (Int.toNat 0) (LineLoop.mk 5 e_3.Read)).length c_13, .int .i64 rv_7.Exchanges, .slice p_14 rv_7.Lines.length c_14, .int .i64 rv_7.Hops, .slice p_15 rv_7.Loops.length c_15] 25)] w) (hS.weak (ms := [(1, .own p rv.Lines.length c cs 68 4), (2, .own p_1 rv.Loops.length c_1 cs_1 71 3), (3, .own p_2 rv_1.Lines.length c_2 cs_2 68 4), (4, .own p_3 rv_1.Loops.length c_3 cs_3 71 3), (5, .own p_4 rv_2.Lines.length c_4 cs_4 68 4), (6, .own p_5 rv_2.Loops.length c_5 cs_5 71 3), (7, .own p_6 (rv_3.Lines.set (Int.toNat 0) (LineLine.mk e.From 0 e.Delay)).length c_6 cs_16 68 4), (8, .own p_7 rv_3.Loops.length c_7 cs_7 71 3), (9, .own p_8 (rv_4.Lines.set (Int.toNat 1) (LineLine.mk (-1) e_1.To e_1.Delay)).length c_8 cs_17 68 4), (10, .own p_9 rv_4.Loops.length c_9 cs_9 71 3), (11, .own p_10 (rv_5.Lines.set (Int.toNat 2) (LineLine.mk e_2.From e_2.To rv_8)).length c_10 cs_18 68 4), (12, .own p_11 rv_5.Loops.length c_11 cs_11 71 3), (13, .own p_12 rv_6.Lines.length c_12 cs_12 68 4), (14, .own p_13 (rv_6.Loops.set (Int.toNat 0) (LineLoop.mk 5 e_3.Read)).length c_13 cs_19 71 3), (15, .own p_14 rv_7.Lines.length c_14 cs_14 68 4), (16, .own p_15 rv_7.Loops.length c_15 cs_15 71 3), (17, .cells b [.int .i64 0, .slice none 0 0, .int .i64 0, .slice none 0 0, .int .i64 8, .slice p rv.Lines.length c, .int .i64 rv.Hops, .slice p_1 rv.Loops.length c_1, .int .i64 3, .slice p_2 rv_1.Lines.length c_2, .int .i64 rv_1.Hops, .slice p_3 rv_1.Loops.length c_3, .int .i64 rv_2.Exchanges, .slice p_4 rv_2.Lines.length c_4, .int .i64 7, .slice p_5 rv_2.Loops.length c_5, .int .i64 rv_3.Exchanges, .slice p_6 (rv_3.Lines.set (Int.toNat 0) (LineLine.mk e.From 0 e.Delay)).length c_6, .int .i64 rv_3.Hops, .slice p_7 rv_3.Loops.length c_7, .int .i64 rv_4.Exchanges, .slice p_8 (rv_4.Lines.set (Int.toNat 1) (LineLine.mk (-1) e_1.To e_1.Delay)).length c_8, .int .i64 rv_4.Hops, .slice p_9 rv_4.Loops.length c_9, .int .i64 rv_5.Exchanges, .slice p_10 (rv_5.Lines.set (Int.toNat 2) (LineLine.mk e_2.From e_2.To rv_8)).length c_10, .int .i64 rv_5.Hops, .slice p_11 rv_5.Loops.length c_11, .int .i64 rv_6.Exchanges, .slice p_12 rv_6.Lines.length c_12, .int .i64 rv_6.Hops, .slice p_13 (rv_6.Loops.set (Int.toNat 0) (LineLoop.mk 5 e_3.Read)).length c_13, .int .i64 rv_7.Exchanges, .slice p_14 rv_7.Lines.length c_14, .int .i64 rv_7.Hops, .slice p_15 rv_7.Loops.length c_15] 25)]) ⟨rfl, rfl, rfl, rfl, rfl, rfl, rfl, rfl, rfl, rfl, rfl, rfl, rfl, rfl, rfl, rfl, rfl, trivial⟩).drew (fun _ _ _ _ h => h) ?_ ?_
 ·replace hS := hS.drew
  have hle0 := hS.le
  refine stepV (i := 0) rfl hF (fun w hS => Y.move hF rfl) rfl fun a hF => stepV (i := 1) rfl hF (fun w hS => Y.indexSl u_81 sz_25 hF rfl rfl (by decide) (by decide)) rfl fun a hF => stepV (i := 2) rfl hF (fun w hS => Y.fieldAddr fo_25_3 hF rfl) rfl fun a hF => stepV (i := 3) rfl hF (fun w hS => Y.load1L 17 sz_23 hF rfl hS rfl rfl) rfl fun a hF => oneV (i := 4) rfl ?_ trivial
  refine O.callP (us := [.int .i64 0, .int .i64 12001]) ca_44 hF hS (r0To_ok hS.stab 0 12001 rv_9 hx_13) rfl rfl fun a w hF hS => nil (then_n ⟨hS.weak ⟨rfl, rfl, rfl, rfl, rfl, rfl, rfl, rfl, rfl, rfl, rfl, rfl, rfl, rfl, rfl, rfl, rfl, trivial⟩, ?_⟩)
  exact toTailV ⟨hF.weak ⟨rfl, rfl, rfl, rfl, trivial⟩, hS.weak ⟨rfl, rfl, rfl, rfl, rfl, rfl, rfl, rfl, rfl, rfl, rfl, rfl, rfl, rfl, rfl, rfl, rfl, trivial⟩⟩
 rintro a w ⟨hF, hS⟩
 obtain ⟨e_4, hx_14, h⟩ := bind_some h
 obtain ⟨b_5, hp_4⟩ := hS.ownPtr (i := 16) rfl (idx_rng hx_14)
 obtain ⟨cc_4, hc_4, hsub_4⟩ := ownElI (C := C_LineLoop) hr_15 hx_14
 obtain rfl := C_LineLoop.open hc_4
 refine step hF (Y.indexOwn hp_4 u_23 sz_71 (idx_rng hx_14) hF rfl rfl) rfl fun a hF => step hF (Y.fieldAddr fo_71_1 hF rfl) rfl fun a hF => O.storePart (C := C_LineLoop) (v0 := (LineLoop.mk e_4.Exchange rv_9)) (x0 := e_4) (xs := rv_7.Loops) (us := [.int .i64 rv_9.Low, .int .i64 rv_9.High]) (k := 1) 16 hp_4 sz_40 (idx_rng hx_14) hF rfl rfl rfl rfl hx_14 (fun c0 h => by obtain rfl := C_LineLoop.open h; rfl) (show 1 + 2 ≤ 3 by decide) hS rfl hr_15 fun cs_20 a w hF hS hr_20 => ?_
 try rw [show rv_7.Loops.length = (rv_7.Loops.set (Int.toNat 1) (LineLoop.mk e_4.Exchange rv_9)).length from List.length_set.symm] at hF
 try rw [show rv_7.Loops.length = (rv_7.Loops.set (Int.toNat 1) (LineLoop.mk e_4.Exchange rv_9)).length from List.length_set.symm] at hS
 refine nil (then_n (seq (seq (region (step hF (Y.assign hF rfl) rfl fun a hF => nil (then_n (block ?_)))))))
 obtain ⟨Dv_8, hlev_8, hs_16, hS⟩ := hS.freezeC (C := C_LineLine) (i := 1) (xs := rv.Lines) rfl hr
 replace hG := hG.mono hlev_8
 replace hr_1 := hr_1.mono hlev_8
 replace hr_2 := hr_2.mono hlev_8
 replace hr_3 := hr_3.mono hlev_8
 replace hr_4 := hr_4.mono hlev_8
 replace hr_5 := hr_5.mono hlev_8
 replace hr_7 := hr_7.mono hlev_8
 replace hr_9 := hr_9.mono hlev_8
 replace hr_11 := hr_11.mono hlev_8
 replace hr_12 := hr_12.mono hlev_8
 replace hr_14 := hr_14.mono hlev_8
 replace hr_16 := hr_16.mono hlev_8
 replace hr_17 := hr_17.mono hlev_8
 replace hr_18 := hr_18.mono hlev_8
 replace hr_19 := hr_19.mono hlev_8
 replace hr_20 := hr_20.mono hlev_8
 obtain ⟨Dv_9, hlev_9, hs_17, hS⟩ := hS.freezeC (C := C_LineLoop) (i := 2) (xs := rv.Loops) rfl hr_1
 replace hG := hG.mono hlev_9
 replace hr_2 := hr_2.mono hlev_9
 replace hr_3 := hr_3.mono hlev_9
 replace hr_4 := hr_4.mono hlev_9
 replace hr_5 := hr_5.mono hlev_9
 replace hr_7 := hr_7.mono hlev_9
 replace hr_9 := hr_9.mono hlev_9
 replace hr_11 := hr_11.mono hlev_9
 replace hr_12 := hr_12.mono hlev_9
 replace hr_14 := hr_14.mono hlev_9
 replace hr_16 := hr_16.mono hlev_9
 replace hr_17 := hr_17.mono hlev_9
 replace hr_18 := hr_18.mono hlev_9
 replace hr_19 := hr_19.mono hlev_9
 replace hr_20 := hr_20.mono hlev_9
 replace hs_16 := hs_16.mono hlev_9
 obtain ⟨Dv_10, hlev_10, hs_18, hS⟩ := hS.freezeC (C := C_LineLine) (i := 3) (xs := rv_1.Lines) rfl hr_2
 replace hG := hG.mono hlev_10
 replace hr_3 := hr_3.mono hlev_10
 replace hr_4 := hr_4.mono hlev_10
 replace hr_5 := hr_5.mono hlev_10
 replace hr_7 := hr_7.mono hlev_10
 replace hr_9 := hr_9.mono hlev_10
 replace hr_11 := hr_11.mono hlev_10
 replace hr_12 := hr_12.mono hlev_10
 replace hr_14 := hr_14.mono hlev_10
 replace hr_16 := hr_16.mono hlev_10
 replace hr_17 := hr_17.mono hlev_10
 replace hr_18 := hr_18.mono hlev_10
 replace hr_19 := hr_19.mono hlev_10
 replace hr_20 := hr_20.mono hlev_10
 replace hs_16 := hs_16.mono hlev_10
 replace hs_17 := hs_17.mono hlev_10
 obtain ⟨Dv_11, hlev_11, hs_19, hS⟩ := hS.freezeC (C := C_LineLoop) (i := 4) (xs := rv_1.Loops) rfl hr_3
 replace hG := hG.mono hlev_11
 replace hr_4 := hr_4.mono hlev_11
 replace hr_5 := hr_5.mono hlev_11
 replace hr_7 := hr_7.mono hlev_11
 replace hr_9 := hr_9.mono hlev_11
 replace hr_11 := hr_11.mono hlev_11
 replace hr_12 := hr_12.mono hlev_11
 replace hr_14 := hr_14.mono hlev_11
 replace hr_16 := hr_16.mono hlev_11
 replace hr_17 := hr_17.mono hlev_11
 replace hr_18 := hr_18.mono hlev_11
 replace hr_19 := hr_19.mono hlev_11
 replace hr_20 := hr_20.mono hlev_11
 replace hs_16 := hs_16.mono hlev_11
 replace hs_17 := hs_17.mono hlev_11
 replace hs_18 := hs_18.mono hlev_11
 obtain ⟨Dv_12, hlev_12, hs_20, hS⟩ := hS.freezeC (C := C_LineLine) (i := 5) (xs := rv_2.Lines) rfl hr_4
 replace hG := hG.mono hlev_12
 replace hr_5 := hr_5.mono hlev_12
 replace hr_7 := hr_7.mono hlev_12
 replace hr_9 := hr_9.mono hlev_12
 replace hr_11 := hr_11.mono hlev_12
 replace hr_12 := hr_12.mono hlev_12
 replace hr_14 := hr_14.mono hlev_12
 replace hr_16 := hr_16.mono hlev_12
 replace hr_17 := hr_17.mono hlev_12
 replace hr_18 := hr_18.mono hlev_12
 replace hr_19 := hr_19.mono hlev_12
 replace hr_20 := hr_20.mono hlev_12
 replace hs_16 := hs_16.mono hlev_12
 replace hs_17 := hs_17.mono hlev_12
 replace hs_18 := hs_18.mono hlev_12
 replace hs_19 := hs_19.mono hlev_12
 obtain ⟨Dv_13, hlev_13, hs_21, hS⟩ := hS.freezeC (C := C_LineLoop) (i := 6) (xs := rv_2.Loops) rfl hr_5
 replace hG := hG.mono hlev_13
 replace hr_7 := hr_7.mono hlev_13
 replace hr_9 := hr_9.mono hlev_13
 replace hr_11 := hr_11.mono hlev_13
 replace hr_12 := hr_12.mono hlev_13
 replace hr_14 := hr_14.mono hlev_13
 replace hr_16 := hr_16.mono hlev_13
 replace hr_17 := hr_17.mono hlev_13
 replace hr_18 := hr_18.mono hlev_13
 replace hr_19 := hr_19.mono hlev_13
 replace hr_20 := hr_20.mono hlev_13
 replace hs_16 := hs_16.mono hlev_13
 replace hs_17 := hs_17.mono hlev_13
 replace hs_18 := hs_18.mono hlev_13
 replace hs_19 := hs_19.mono hlev_13
 replace hs_20 := hs_20.mono hlev_13
 obtain ⟨Dv_14, hlev_14, hs_22, hS⟩ := hS.freezeC (C := C_LineLine) (i := 7) (xs := (rv_3.Lines.set (Int.toNat 0) (LineLine.mk e.From 0 e.Delay))) rfl hr_16
 replace hG := hG.mono hlev_14
 replace hr_7 := hr_7.mono hlev_14
 replace hr_9 := hr_9.mono hlev_14
 replace hr_11 := hr_11.mono hlev_14
 replace hr_12 := hr_12.mono hlev_14
 replace hr_14 := hr_14.mono hlev_14
 replace hr_17 := hr_17.mono hlev_14
 replace hr_18 := hr_18.mono hlev_14
 replace hr_19 := hr_19.mono hlev_14
 replace hr_20 := hr_20.mono hlev_14
 replace hs_16 := hs_16.mono hlev_14
 replace hs_17 := hs_17.mono hlev_14
 replace hs_18 := hs_18.mono hlev_14
 replace hs_19 := hs_19.mono hlev_14
 replace hs_20 := hs_20.mono hlev_14
 replace hs_21 := hs_21.mono hlev_14
 obtain ⟨Dv_15, hlev_15, hs_23, hS⟩ := hS.freezeC (C := C_LineLoop) (i := 8) (xs := rv_3.Loops) rfl hr_7
 replace hG := hG.mono hlev_15
 replace hr_9 := hr_9.mono hlev_15
 replace hr_11 := hr_11.mono hlev_15
 replace hr_12 := hr_12.mono hlev_15
 replace hr_14 := hr_14.mono hlev_15
 replace hr_17 := hr_17.mono hlev_15
 replace hr_18 := hr_18.mono hlev_15
 replace hr_19 := hr_19.mono hlev_15
 replace hr_20 := hr_20.mono hlev_15
 replace hs_16 := hs_16.mono hlev_15
 replace hs_17 := hs_17.mono hlev_15
 replace hs_18 := hs_18.mono hlev_15
 replace hs_19 := hs_19.mono hlev_15
 replace hs_20 := hs_20.mono hlev_15
 replace hs_21 := hs_21.mono hlev_15
 replace hs_22 := hs_22.mono hlev_15
 obtain ⟨Dv_16, hlev_16, hs_24, hS⟩ := hS.freezeC (C := C_LineLine) (i := 9) (xs := (rv_4.Lines.set (Int.toNat 1) (LineLine.mk (-1) e_1.To e_1.Delay))) rfl hr_17
 replace hG := hG.mono hlev_16
 replace hr_9 := hr_9.mono hlev_16
 replace hr_11 := hr_11.mono hlev_16
 replace hr_12 := hr_12.mono hlev_16
 replace hr_14 := hr_14.mono hlev_16
 replace hr_18 := hr_18.mono hlev_16
 replace hr_19 := hr_19.mono hlev_16
 replace hr_20 := hr_20.mono hlev_16
 replace hs_16 := hs_16.mono hlev_16
 replace hs_17 := hs_17.mono hlev_16
 replace hs_18 := hs_18.mono hlev_16
 replace hs_19 := hs_19.mono hlev_16
 replace hs_20 := hs_20.mono hlev_16
 replace hs_21 := hs_21.mono hlev_16
 replace hs_22 := hs_22.mono hlev_16
 replace hs_23 := hs_23.mono hlev_16
 obtain ⟨Dv_17, hlev_17, hs_25, hS⟩ := hS.freezeC (C := C_LineLoop) (i := 10) (xs := rv_4.Loops) rfl hr_9
 replace hG := hG.mono hlev_17
 replace hr_11 := hr_11.mono hlev_17
 replace hr_12 := hr_12.mono hlev_17
 replace hr_14 := hr_14.mono hlev_17
 replace hr_18 := hr_18.mono hlev_17
 replace hr_19 := hr_19.mono hlev_17
 replace hr_20 := hr_20.mono hlev_17
 replace hs_16 := hs_16.mono hlev_17
 replace hs_17 := hs_17.mono hlev_17
 replace hs_18 := hs_18.mono hlev_17
 replace hs_19 := hs_19.mono hlev_17
 replace hs_20 := hs_20.mono hlev_17
 replace hs_21 := hs_21.mono hlev_17
 replace hs_22 := hs_22.mono hlev_17
 replace hs_23 := hs_23.mono hlev_17
 replace hs_24 := hs_24.mono hlev_17
 obtain ⟨Dv_18, hlev_18, hs_26, hS⟩ := hS.freezeC (C := C_LineLine) (i := 11) (xs := (rv_5.Lines.set (Int.toNat 2) (LineLine.mk e_2.From e_2.To rv_8))) rfl hr_18
 replace hG := hG.mono hlev_18
 replace hr_11 := hr_11.mono hlev_18
 replace hr_12 := hr_12.mono hlev_18
 replace hr_14 := hr_14.mono hlev_18
 replace hr_19 := hr_19.mono hlev_18
 replace hr_20 := hr_20.mono hlev_18
 replace hs_16 := hs_16.mono hlev_18
 replace hs_17 := hs_17.mono hlev_18
 replace hs_18 := hs_18.mono hlev_18
 replace hs_19 := hs_19.mono hlev_18
 replace hs_20 := hs_20.mono hlev_18
 replace hs_21 := hs_21.mono hlev_18
 replace hs_22 := hs_22.mono hlev_18
 replace hs_23 := hs_23.mono hlev_18
 replace hs_24 := hs_24.mono hlev_18
 replace hs_25 := hs_25.mono hlev_18
 obtain ⟨Dv_19, hlev_19, hs_27, hS⟩ := hS.freezeC (C := C_LineLoop) (i := 12) (xs := rv_5.Loops) rfl hr_11
 replace hG := hG.mono hlev_19
 replace hr_12 := hr_12.mono hlev_19
 replace hr_14 := hr_14.mono hlev_19
 replace hr_19 := hr_19.mono hlev_19
 replace hr_20 := hr_20.mono hlev_19
 replace hs_16 := hs_16.mono hlev_19
 replace hs_17 := hs_17.mono hlev_19
 replace hs_18 := hs_18.mono hlev_19
 replace hs_19 := hs_19.mono hlev_19
 replace hs_20 := hs_20.mono hlev_19
 replace hs_21 := hs_21.mono hlev_19
 replace hs_22 := hs_22.mono hlev_19
 replace hs_23 := hs_23.mono hlev_19
 replace hs_24 := hs_24.mono hlev_19
 replace hs_25 := hs_25.mono hlev_19
 replace hs_26 := hs_26.mono hlev_19
 obtain ⟨Dv_20, hlev_20, hs_28, hS⟩ := hS.freezeC (C := C_LineLine) (i := 13) (xs := rv_6.Lines) rfl hr_12
 replace hG := hG.mono hlev_20
 replace hr_14 := hr_14.mono hlev_20
 replace hr_19 := hr_19.mono hlev_20
 replace hr_20 := hr_20.mono hlev_20
 replace hs_16 := hs_16.mono hlev_20
 replace hs_17 := hs_17.mono hlev_20
 replace hs_18 := hs_18.mono hlev_20
 replace hs_19 := hs_19.mono hlev_20
 replace hs_20 := hs_20.mono hlev_20
 replace hs_21 := hs_21.mono hlev_20
 replace hs_22 := hs_22.mono hlev_20
 replace hs_23 := hs_23.mono hlev_20
 replace hs_24 := hs_24.mono hlev_20
 replace hs_25 := hs_25.mono hlev_20
 replace hs_26 := hs_26.mono hlev_20
 replace hs_27 := hs_27.mono hlev_20
 obtain ⟨Dv_21, hlev_21, hs_29, hS⟩ := hS.freezeC (C := C_LineLoop) (i := 14) (xs := (rv_6.Loops.set (Int.toNat 0) (LineLoop.mk 5 e_3.Read))) rfl hr_19
 replace hG := hG.mono hlev_21
 replace hr_14 := hr_14.mono hlev_21
 replace hr_20 := hr_20.mono hlev_21
 replace hs_16 := hs_16.mono hlev_21
 replace hs_17 := hs_17.mono hlev_21
 replace hs_18 := hs_18.mono hlev_21
 replace hs_19 := hs_19.mono hlev_21
 replace hs_20 := hs_20.mono hlev_21
 replace hs_21 := hs_21.mono hlev_21
 replace hs_22 := hs_22.mono hlev_21
 replace hs_23 := hs_23.mono hlev_21
 replace hs_24 := hs_24.mono hlev_21
 replace hs_25 := hs_25.mono hlev_21
 replace hs_26 := hs_26.mono hlev_21
 replace hs_27 := hs_27.mono hlev_21
 replace hs_28 := hs_28.mono hlev_21
 obtain ⟨Dv_22, hlev_22, hs_30, hS⟩ := hS.freezeC (C := C_LineLine) (i := 15) (xs := rv_7.Lines) rfl hr_14
 replace hG := hG.mono hlev_22
 replace hr_20 := hr_20.mono hlev_22
 replace hs_16 := hs_16.mono hlev_22
 replace hs_17 := hs_17.mono hlev_22
 replace hs_18 := hs_18.mono hlev_22
 replace hs_19 := hs_19.mono hlev_22
 replace hs_20 := hs_20.mono hlev_22
 replace hs_21 := hs_21.mono hlev_22
 replace hs_22 := hs_22.mono hlev_22
 replace hs_23 := hs_23.mono hlev_22
 replace hs_24 := hs_24.mono hlev_22
 replace hs_25 := hs_25.mono hlev_22
 replace hs_26 := hs_26.mono hlev_22
 replace hs_27 := hs_27.mono hlev_22
 replace hs_28 := hs_28.mono hlev_22
 replace hs_29 := hs_29.mono hlev_22
 obtain ⟨Dv_23, hlev_23, hs_31, hS⟩ := hS.freezeC (C := C_LineLoop) (i := 16) (xs := (rv_7.Loops.set (Int.toNat 1) (LineLoop.mk e_4.Exchange rv_9))) rfl hr_20
 replace hG := hG.mono hlev_23
 replace hs_16 := hs_16.mono hlev_23
 replace hs_17 := hs_17.mono hlev_23
 replace hs_18 := hs_18.mono hlev_23
 replace hs_19 := hs_19.mono hlev_23
 replace hs_20 := hs_20.mono hlev_23
 replace hs_21 := hs_21.mono hlev_23
 replace hs_22 := hs_22.mono hlev_23
 replace hs_23 := hs_23.mono hlev_23
 replace hs_24 := hs_24.mono hlev_23
 replace hs_25 := hs_25.mono hlev_23
 replace hs_26 := hs_26.mono hlev_23
 replace hs_27 := hs_27.mono hlev_23
 replace hs_28 := hs_28.mono hlev_23
 replace hs_29 := hs_29.mono hlev_23
 replace hs_30 := hs_30.mono hlev_23
 obtain ⟨Dv_24, hlev_24, hbv, hS⟩ := hS.freezeB (i := 17) rfl
 replace hG := hG.mono hlev_24
 replace hs_16 := hs_16.mono hlev_24
 replace hs_17 := hs_17.mono hlev_24
 replace hs_18 := hs_18.mono hlev_24
 replace hs_19 := hs_19.mono hlev_24
 replace hs_20 := hs_20.mono hlev_24
 replace hs_21 := hs_21.mono hlev_24
 replace hs_22 := hs_22.mono hlev_24
 replace hs_23 := hs_23.mono hlev_24
 replace hs_24 := hs_24.mono hlev_24
 replace hs_25 := hs_25.mono hlev_24
 replace hs_26 := hs_26.mono hlev_24
 replace hs_27 := hs_27.mono hlev_24
 replace hs_28 := hs_28.mono hlev_24
 replace hs_29 := hs_29.mono hlev_24
 replace hs_30 := hs_30.mono hlev_24
 replace hs_31 := hs_31.mono hlev_24
 have hr_21 : Reps C_LineNet Dv_24 ([(LineNet.mk 0 ([] : List LineLine) 0 ([] : List LineLoop)), (LineNet.mk 8 rv.Lines rv.Hops rv.Loops), (LineNet.mk 3 rv_1.Lines rv_1.Hops rv_1.Loops), (LineNet.mk rv_2.Exchanges rv_2.Lines 7 rv_2.Loops), (LineNet.mk rv_3.Exchanges (rv_3.Lines.set (Int.toNat 0) (LineLine.mk e.From 0 e.Delay)) rv_3.Hops rv_3.Loops), (LineNet.mk rv_4.Exchanges (rv_4.Lines.set (Int.toNat 1) (LineLine.mk (-1) e_1.To e_1.Delay)) rv_4.Hops rv_4.Loops), (LineNet.mk rv_5.Exchanges (rv_5.Lines.set (Int.toNat 2) (LineLine.mk e_2.From e_2.To rv_8)) rv_5.Hops rv_5.Loops), (LineNet.mk rv_6.Exchanges rv_6.Lines rv_6.Hops (rv_6.Loops.set (Int.toNat 0) (LineLoop.mk 5 e_3.Read))), (LineNet.mk rv_7.Exchanges rv_7.Lines rv_7.Hops (rv_7.Loops.set (Int.toNat 1) (LineLoop.mk e_4.Exchange rv_9)))] : List LineNet) [.int .i64 0, .slice none 0 0, .int .i64 0, .slice none 0 0, .int .i64 8, .slice p rv.Lines.length c, .int .i64 rv.Hops, .slice p_1 rv.Loops.length c_1, .int .i64 3, .slice p_2 rv_1.Lines.length c_2, .int .i64 rv_1.Hops, .slice p_3 rv_1.Loops.length c_3, .int .i64 rv_2.Exchanges, .slice p_4 rv_2.Lines.length c_4, .int .i64 7, .slice p_5 rv_2.Loops.length c_5, .int .i64 rv_3.Exchanges, .slice p_6 (rv_3.Lines.set (Int.toNat 0) (LineLine.mk e.From 0 e.Delay)).length c_6, .int .i64 rv_3.Hops, .slice p_7 rv_3.Loops.length c_7, .int .i64 rv_4.Exchanges, .slice p_8 (rv_4.Lines.set (Int.toNat 1) (LineLine.mk (-1) e_1.To e_1.Delay)).length c_8, .int .i64 rv_4.Hops, .slice p_9 rv_4.Loops.length c_9, .int .i64 rv_5.Exchanges, .slice p_10 (rv_5.Lines.set (Int.toNat 2) (LineLine.mk e_2.From e_2.To rv_8)).length c_10, .int .i64 rv_5.Hops, .slice p_11 rv_5.Loops.length c_11, .int .i64 rv_6.Exchanges, .slice p_12 rv_6.Lines.length c_12, .int .i64 rv_6.Hops, .slice p_13 (rv_6.Loops.set (Int.toNat 0) (LineLoop.mk 5 e_3.Read)).length c_13, .int .i64 rv_7.Exchanges, .slice p_14 rv_7.Lines.length c_14, .int .i64 rv_7.Hops, .slice p_15 (rv_7.Loops.set (Int.toNat 1) (LineLoop.mk e_4.Exchange rv_9)).length c_15] := Reps.cons (C := C_LineNet) (x := (LineNet.mk 0 ([] : List LineLine) 0 ([] : List LineLoop))) (c := [.int .i64 0, .slice none 0 0, .int .i64 0, .slice none 0 0]) (r := [.int .i64 8, .slice p rv.Lines.length c, .int .i64 rv.Hops, .slice p_1 rv.Loops.length c_1, .int .i64 3, .slice p_2 rv_1.Lines.length c_2, .int .i64 rv_1.Hops, .slice p_3 rv_1.Loops.length c_3, .int .i64 rv_2.Exchanges, .slice p_4 rv_2.Lines.length c_4, .int .i64 7, .slice p_5 rv_2.Loops.length c_5, .int .i64 rv_3.Exchanges, .slice p_6 (rv_3.Lines.set (Int.toNat 0) (LineLine.mk e.From 0 e.Delay)).length c_6, .int .i64 rv_3.Hops, .slice p_7 rv_3.Loops.length c_7, .int .i64 rv_4.Exchanges, .slice p_8 (rv_4.Lines.set (Int.toNat 1) (LineLine.mk (-1) e_1.To e_1.Delay)).length c_8, .int .i64 rv_4.Hops, .slice p_9 rv_4.Loops.length c_9, .int .i64 rv_5.Exchanges, .slice p_10 (rv_5.Lines.set (Int.toNat 2) (LineLine.mk e_2.From e_2.To rv_8)).length c_10, .int .i64 rv_5.Hops, .slice p_11 rv_5.Loops.length c_11, .int .i64 rv_6.Exchanges, .slice p_12 rv_6.Lines.length c_12, .int .i64 rv_6.Hops, .slice p_13 (rv_6.Loops.set (Int.toNat 0) (LineLoop.mk 5 e_3.Read)).length c_13, .int .i64 rv_7.Exchanges, .slice p_14 rv_7.Lines.length c_14, .int .i64 rv_7.Hops, .slice p_15 (rv_7.Loops.set (Int.toNat 1) (LineLoop.mk e_4.Exchange rv_9)).length c_15]) (⟨_, _, _, _, rfl, SRc.nil, SRc.nil⟩) (Reps.cons (C := C_LineNet) (x := (LineNet.mk 8 rv.Lines rv.Hops rv.Loops)) (c := [.int .i64 8, .slice p rv.Lines.length c, .int .i64 rv.Hops, .slice p_1 rv.Loops.length c_1]) (r := [.int .i64 3, .slice p_2 rv_1.Lines.length c_2, .int .i64 rv_1.Hops, .slice p_3 rv_1.Loops.length c_3, .int .i64 rv_2.Exchanges, .slice p_4 rv_2.Lines.length c_4, .int .i64 7, .slice p_5 rv_2.Loops.length c_5, .int .i64 rv_3.Exchanges, .slice p_6 (rv_3.Lines.set (Int.toNat 0) (LineLine.mk e.From 0 e.Delay)).length c_6, .int .i64 rv_3.Hops, .slice p_7 rv_3.Loops.length c_7, .int .i64 rv_4.Exchanges, .slice p_8 (rv_4.Lines.set (Int.toNat 1) (LineLine.mk (-1) e_1.To e_1.Delay)).length c_8, .int .i64 rv_4.Hops, .slice p_9 rv_4.Loops.length c_9, .int .i64 rv_5.Exchanges, .slice p_10 (rv_5.Lines.set (Int.toNat 2) (LineLine.mk e_2.From e_2.To rv_8)).length c_10, .int .i64 rv_5.Hops, .slice p_11 rv_5.Loops.length c_11, .int .i64 rv_6.Exchanges, .slice p_12 rv_6.Lines.length c_12, .int .i64 rv_6.Hops, .slice p_13 (rv_6.Loops.set (Int.toNat 0) (LineLoop.mk 5 e_3.Read)).length c_13, .int .i64 rv_7.Exchanges, .slice p_14 rv_7.Lines.length c_14, .int .i64 rv_7.Hops, .slice p_15 (rv_7.Loops.set (Int.toNat 1) (LineLoop.mk e_4.Exchange rv_9)).length c_15]) (⟨_, _, _, _, rfl, hs_16, hs_17⟩) (Reps.cons (C := C_LineNet) (x := (LineNet.mk 3 rv_1.Lines rv_1.Hops rv_1.Loops)) (c := [.int .i64 3, .slice p_2 rv_1.Lines.length c_2, .int .i64 rv_1.Hops, .slice p_3 rv_1.Loops.length c_3]) (r := [.int .i64 rv_2.Exchanges, .slice p_4 rv_2.Lines.length c_4, .int .i64 7, .slice p_5 rv_2.Loops.length c_5, .int .i64 rv_3.Exchanges, .slice p_6 (rv_3.Lines.set (Int.toNat 0) (LineLine.mk e.From 0 e.Delay)).length c_6, .int .i64 rv_3.Hops, .slice p_7 rv_3.Loops.length c_7, .int .i64 rv_4.Exchanges, .slice p_8 (rv_4.Lines.set (Int.toNat 1) (LineLine.mk (-1) e_1.To e_1.Delay)).length c_8, .int .i64 rv_4.Hops, .slice p_9 rv_4.Loops.length c_9, .int .i64 rv_5.Exchanges, .slice p_10 (rv_5.Lines.set (Int.toNat 2) (LineLine.mk e_2.From e_2.To rv_8)).length c_10, .int .i64 rv_5.Hops, .slice p_11 rv_5.Loops.length c_11, .int .i64 rv_6.Exchanges, .slice p_12 rv_6.Lines.length c_12, .int .i64 rv_6.Hops, .slice p_13 (rv_6.Loops.set (Int.toNat 0) (LineLoop.mk 5 e_3.Read)).length c_13, .int .i64 rv_7.Exchanges, .slice p_14 rv_7.Lines.length c_14, .int .i64 rv_7.Hops, .slice p_15 (rv_7.Loops.set (Int.toNat 1) (LineLoop.mk e_4.Exchange rv_9)).length c_15]) (⟨_, _, _, _, rfl, hs_18, hs_19⟩) (Reps.cons (C := C_LineNet) (x := (LineNet.mk rv_2.Exchanges rv_2.Lines 7 rv_2.Loops)) (c := [.int .i64 rv_2.Exchanges, .slice p_4 rv_2.Lines.length c_4, .int .i64 7, .slice p_5 rv_2.Loops.length c_5]) (r := [.int .i64 rv_3.Exchanges, .slice p_6 (rv_3.Lines.set (Int.toNat 0) (LineLine.mk e.From 0 e.Delay)).length c_6, .int .i64 rv_3.Hops, .slice p_7 rv_3.Loops.length c_7, .int .i64 rv_4.Exchanges, .slice p_8 (rv_4.Lines.set (Int.toNat 1) (LineLine.mk (-1) e_1.To e_1.Delay)).length c_8, .int .i64 rv_4.Hops, .slice p_9 rv_4.Loops.length c_9, .int .i64 rv_5.Exchanges, .slice p_10 (rv_5.Lines.set (Int.toNat 2) (LineLine.mk e_2.From e_2.To rv_8)).length c_10, .int .i64 rv_5.Hops, .slice p_11 rv_5.Loops.length c_11, .int .i64 rv_6.Exchanges, .slice p_12 rv_6.Lines.length c_12, .int .i64 rv_6.Hops, .slice p_13 (rv_6.Loops.set (Int.toNat 0) (LineLoop.mk 5 e_3.Read)).length c_13, .int .i64 rv_7.Exchanges, .slice p_14 rv_7.Lines.length c_14, .int .i64 rv_7.Hops, .slice p_15 (rv_7.Loops.set (Int.toNat 1) (LineLoop.mk e_4.Exchange rv_9)).length c_15]) (⟨_, _, _, _, rfl, hs_20, hs_21⟩) (Reps.cons (C := C_LineNet) (x := (LineNet.mk rv_3.Exchanges (rv_3.Lines.set (Int.toNat 0) (LineLine.mk e.From 0 e.Delay)) rv_3.Hops rv_3.Loops)) (c := [.int .i64 rv_3.Exchanges, .slice p_6 (rv_3.Lines.set (Int.toNat 0) (LineLine.mk e.From 0 e.Delay)).length c_6, .int .i64 rv_3.Hops, .slice p_7 rv_3.Loops.length c_7]) (r := [.int .i64 rv_4.Exchanges, .slice p_8 (rv_4.Lines.set (Int.toNat 1) (LineLine.mk (-1) e_1.To e_1.Delay)).length c_8, .int .i64 rv_4.Hops, .slice p_9 rv_4.Loops.length c_9, .int .i64 rv_5.Exchanges, .slice p_10 (rv_5.Lines.set (Int.toNat 2) (LineLine.mk e_2.From e_2.To rv_8)).length c_10, .int .i64 rv_5.Hops, .slice p_11 rv_5.Loops.length c_11, .int .i64 rv_6.Exchanges, .slice p_12 rv_6.Lines.length c_12, .int .i64 rv_6.Hops, .slice p_13 (rv_6.Loops.set (Int.toNat 0) (LineLoop.mk 5 e_3.Read)).length c_13, .int .i64 rv_7.Exchanges, .slice p_14 rv_7.Lines.length c_14, .int .i64 rv_7.Hops, .slice p_15 (rv_7.Loops.set (Int.toNat 1) (LineLoop.mk e_4.Exchange rv_9)).length c_15]) (⟨_, _, _, _, rfl, hs_22, hs_23⟩) (Reps.cons (C := C_LineNet) (x := (LineNet.mk rv_4.Exchanges (rv_4.Lines.set (Int.toNat 1) (LineLine.mk (-1) e_1.To e_1.Delay)) rv_4.Hops rv_4.Loops)) (c := [.int .i64 rv_4.Exchanges, .slice p_8 (rv_4.Lines.set (Int.toNat 1) (LineLine.mk (-1) e_1.To e_1.Delay)).length c_8, .int .i64 rv_4.Hops, .slice p_9 rv_4.Loops.length c_9]) (r := [.int .i64 rv_5.Exchanges, .slice p_10 (rv_5.Lines.set (Int.toNat 2) (LineLine.mk e_2.From e_2.To rv_8)).length c_10, .int .i64 rv_5.Hops, .slice p_11 rv_5.Loops.length c_11, .int .i64 rv_6.Exchanges, .slice p_12 rv_6.Lines.length c_12, .int .i64 rv_6.Hops, .slice p_13 (rv_6.Loops.set (Int.toNat 0) (LineLoop.mk 5 e_3.Read)).length c_13, .int .i64 rv_7.Exchanges, .slice p_14 rv_7.Lines.length c_14, .int .i64 rv_7.Hops, .slice p_15 (rv_7.Loops.set (Int.toNat 1) (LineLoop.mk e_4.Exchange rv_9)).length c_15]) (⟨_, _, _, _, rfl, hs_24, hs_25⟩) (Reps.cons (C := C_LineNet) (x := (LineNet.mk rv_5.Exchanges (rv_5.Lines.set (Int.toNat 2) (LineLine.mk e_2.From e_2.To rv_8)) rv_5.Hops rv_5.Loops)) (c := [.int .i64 rv_5.Exchanges, .slice p_10 (rv_5.Lines.set (Int.toNat 2) (LineLine.mk e_2.From e_2.To rv_8)).length c_10, .int .i64 rv_5.Hops, .slice p_11 rv_5.Loops.length c_11]) (r := [.int .i64 rv_6.Exchanges, .slice p_12 rv_6.Lines.length c_12, .int .i64 rv_6.Hops, .slice p_13 (rv_6.Loops.set (Int.toNat 0) (LineLoop.mk 5 e_3.Read)).length c_13, .int .i64 rv_7.Exchanges, .slice p_14 rv_7.Lines.length c_14, .int .i64 rv_7.Hops, .slice p_15 (rv_7.Loops.set (Int.toNat 1) (LineLoop.mk e_4.Exchange rv_9)).length c_15]) (⟨_, _, _, _, rfl, hs_26, hs_27⟩) (Reps.cons (C := C_LineNet) (x := (LineNet.mk rv_6.Exchanges rv_6.Lines rv_6.Hops (rv_6.Loops.set (Int.toNat 0) (LineLoop.mk 5 e_3.Read)))) (c := [.int .i64 rv_6.Exchanges, .slice p_12 rv_6.Lines.length c_12, .int .i64 rv_6.Hops, .slice p_13 (rv_6.Loops.set (Int.toNat 0) (LineLoop.mk 5 e_3.Read)).length c_13]) (r := [.int .i64 rv_7.Exchanges, .slice p_14 rv_7.Lines.length c_14, .int .i64 rv_7.Hops, .slice p_15 (rv_7.Loops.set (Int.toNat 1) (LineLoop.mk e_4.Exchange rv_9)).length c_15]) (⟨_, _, _, _, rfl, hs_28, hs_29⟩) (Reps.cons (C := C_LineNet) (x := (LineNet.mk rv_7.Exchanges rv_7.Lines rv_7.Hops (rv_7.Loops.set (Int.toNat 1) (LineLoop.mk e_4.Exchange rv_9)))) (c := [.int .i64 rv_7.Exchanges, .slice p_14 rv_7.Lines.length c_14, .int .i64 rv_7.Hops, .slice p_15 (rv_7.Loops.set (Int.toNat 1) (LineLoop.mk e_4.Exchange rv_9)).length c_15]) (r := []) (⟨_, _, _, _, rfl, hs_30, hs_31⟩) (Reps.nil)))))))))
 have hs_32 : SRc C_LineNet Dv_24 ([(LineNet.mk 0 ([] : List LineLine) 0 ([] : List LineLoop)), (LineNet.mk 8 rv.Lines rv.Hops rv.Loops), (LineNet.mk 3 rv_1.Lines rv_1.Hops rv_1.Loops), (LineNet.mk rv_2.Exchanges rv_2.Lines 7 rv_2.Loops), (LineNet.mk rv_3.Exchanges (rv_3.Lines.set (Int.toNat 0) (LineLine.mk e.From 0 e.Delay)) rv_3.Hops rv_3.Loops), (LineNet.mk rv_4.Exchanges (rv_4.Lines.set (Int.toNat 1) (LineLine.mk (-1) e_1.To e_1.Delay)) rv_4.Hops rv_4.Loops), (LineNet.mk rv_5.Exchanges (rv_5.Lines.set (Int.toNat 2) (LineLine.mk e_2.From e_2.To rv_8)) rv_5.Hops rv_5.Loops), (LineNet.mk rv_6.Exchanges rv_6.Lines rv_6.Hops (rv_6.Loops.set (Int.toNat 0) (LineLoop.mk 5 e_3.Read))), (LineNet.mk rv_7.Exchanges rv_7.Lines rv_7.Hops (rv_7.Loops.set (Int.toNat 1) (LineLoop.mk e_4.Exchange rv_9)))] : List LineNet) (some ⟨b, 0, none⟩) 9 := SRc.ofCells hbv hr_21 (Nat.le_refl 9)
 replace hF := hF.weak (us := [(0, .bool false), (1, .slice (some ⟨b, 0, none⟩) ([(LineNet.mk 0 ([] : List LineLine) 0 ([] : List LineLoop)), (LineNet.mk 8 rv.Lines rv.Hops rv.Loops), (LineNet.mk 3 rv_1.Lines rv_1.Hops rv_1.Loops), (LineNet.mk rv_2.Exchanges rv_2.Lines 7 rv_2.Loops), (LineNet.mk rv_3.Exchanges (rv_3.Lines.set (Int.toNat 0) (LineLine.mk e.From 0 e.Delay)) rv_3.Hops rv_3.Loops), (LineNet.mk rv_4.Exchanges (rv_4.Lines.set (Int.toNat 1) (LineLine.mk (-1) e_1.To e_1.Delay)) rv_4.Hops rv_4.Loops), (LineNet.mk rv_5.Exchanges (rv_5.Lines.set (Int.toNat 2) (LineLine.mk e_2.From e_2.To rv_8)) rv_5.Hops rv_5.Loops), (LineNet.mk rv_6.Exchanges rv_6.Lines rv_6.Hops (rv_6.Loops.set (Int.toNat 0) (LineLoop.mk 5 e_3.Read))), (LineNet.mk rv_7.Exchanges rv_7.Lines rv_7.Hops (rv_7.Loops.set (Int.toNat 1) (LineLoop.mk e_4.Exchange rv_9)))] : List LineNet).length 9), (2, .int .i64 0)]) ⟨rfl, rfl, rfl, trivial⟩
 obtain ⟨bad, hx_15, h⟩ := bind_some h
 rw [some_inj hx_15] at hs_32 hF
 refine loop_cut (body := remontoirlaw06_LineKnown_b1 bad) (out := out) (fun s a w => ∃ (v0_0 : Bool) (i : Int), ∃ (Dv_25 : Stab), s = (v0_0, i) ∧ Dv_24.le Dv_25 ∧ Frm 473 [] [(0, .bool v0_0), (1, .slice (some ⟨b, 0, none⟩) bad.length 9), (2, .int .i64 i)] a ∧ St w0 D0 Dv_25 [] w) (false, 0) h ⟨false, 0, Dv_24, rfl, Stab.le.refl _, hF.weak ⟨rfl, rfl, rfl, trivial⟩, hS.weak trivial⟩ ?_
 rintro s a w xo ⟨v0_0, i, Dv_25, rfl, hlev_25, hF, hS⟩ h hxo
 unfold remontoirlaw06_LineKnown_b1 at h
 dsimp only at h
 replace hG := hG.mono hlev_25
 replace hs_32 := hs_32.mono hlev_25
 refine seq (seq (region (step hF (Y.move hF rfl) rfl fun a hF => step hF (Y.move hF rfl) rfl fun a hF => step hF (Y.lenSl u_81 hF rfl) rfl fun a hF => step hF (Y.lss hF rfl rfl) rfl fun a hF => nil (then_n (cond_b hF rfl (fun hbv_1 => ?_) (fun hbv_1 => ?_))))))
 ·as_aux_lemma =>
   replace h := cond_t h hbv_1
   refine skip_ (then_n (seq (block (seq (region (step hF (Y.move hF rfl) rfl fun a hF => step hF (Y.move hF rfl) rfl fun a hF => ?_))))))
   obtain ⟨e_5, hx_16, h⟩ := bind_some h
   obtain ⟨b_6, o, hE, hY⟩ := Y.indexS (P := Tryd.prog) (C := C_LineNet) (xs := bad) (T := 81) (x := (.tmp 115)) (y := (.tmp 116)) u_81 sz_25 hF rfl rfl (hs_32).1 hx_16
   obtain ⟨cc_5, hc_5, hcell⟩ := hE.open
   obtain ⟨p_16, c_16, p_17, c_17, rfl, hs_33, hs_34⟩ := C_LineNet.open hc_5
   refine step hF (hY) rfl fun a hF => step hF (Y.loadNE (o := o) (k := 0) sz_25 hF rfl (hcell _ hS.stab) rfl rfl) rfl fun a hF => ?_
   obtain ⟨rv_10, hx_17, h⟩ := bind_some h
   refine O.callS (us := [.agg #[.int .i64 e_5.Exchanges, .slice p_16 e_5.Lines.length c_16, .int .i64 e_5.Hops, .slice p_17 e_5.Loops.length c_17], .int .i64 (-1)]) ca_15 hF hS (line_Routes_ok hS.stab e_5 (-1) hs_33 hs_34 hG rv_10 hx_17) rfl rfl fun v_8 Dv_26 a w hR hlev_26 hF hS => ?_
   replace hG := hG.mono hlev_26
   replace hs_32 := hs_32.mono hlev_26
   obtain ⟨p_18, c_18, rfl, hs_35⟩ := hR
   refine step hF (Y.move hF rfl) rfl fun a hF => step hF (Y.extract hF rfl rfl) rfl fun a hF => step hF (Y.extract hF rfl rfl) rfl fun a hF => step hF (Y.assign hF rfl) rfl fun a hF => step hF (Y.assign hF rfl) rfl fun a hF => nil (then_n (seq (region (step hF (Y.move hF rfl) rfl fun a hF => step hF (Y.move hF rfl) rfl fun a hF => ?_))))
   obtain ⟨b_7, o_1, hE_1, hY_1⟩ := Y.indexS (P := Tryd.prog) (C := C_LineNet) (xs := bad) (T := 81) (x := (.tmp 123)) (y := (.tmp 124)) u_81 sz_25 hF rfl rfl (hs_32).1 hx_16
   obtain ⟨cc_6, hc_6, hcell_1⟩ := hE_1.open
   obtain ⟨p_19, c_19, p_20, c_20, rfl, hs_36, hs_37⟩ := C_LineNet.open hc_6
   refine step hF (hY_1) rfl fun a hF => step hF (Y.loadNE (o := o_1) (k := 0) sz_25 hF rfl (hcell_1 _ hS.stab) rfl rfl) rfl fun a hF => ?_
   obtain ⟨rv_11, hx_18, h⟩ := bind_some h
   refine O.callP (us := [.agg #[.int .i64 e_5.Exchanges, .slice p_19 e_5.Lines.length c_19, .int .i64 e_5.Hops, .slice p_20 e_5.Loops.length c_20], .int .i64 (-1)]) ca_24 hF hS (line_Delay_ok hS.stab e_5 (-1) hs_36 hs_37 hG rv_11 hx_18) rfl rfl fun a w hF hS => step hF (Y.move hF rfl) rfl fun a hF => step hF (Y.extract hF rfl rfl) rfl fun a hF => step hF (Y.extract hF rfl rfl) rfl fun a hF => O.alloc 18 zc_40 hF hS rfl fun b_8 a w hF hS => O.store (us := [.int .i64 rv_11.1.Low, .int .i64 rv_11.1.High]) 18 sz_40 hF rfl rfl rfl rfl hS rfl rfl fun a w hF hS => step hF (Y.assign hF rfl) rfl fun a hF => nil (then_n (seq (region (step hF (Y.move hF rfl) rfl fun a hF => step hF (Y.move hF rfl) rfl fun a hF => ?_))))
   obtain ⟨b_9, o_2, hE_2, hY_2⟩ := Y.indexS (P := Tryd.prog) (C := C_LineNet) (xs := bad) (T := 81) (x := (.tmp 131)) (y := (.tmp 132)) u_81 sz_25 hF rfl rfl (hs_32).1 hx_16
   obtain ⟨cc_7, hc_7, hcell_2⟩ := hE_2.open
   obtain ⟨p_21, c_21, p_22, c_22, rfl, hs_38, hs_39⟩ := C_LineNet.open hc_7
   refine step hF (hY_2) rfl fun a hF => step hF (Y.loadNE (o := o_2) (k := 0) sz_25 hF rfl (hcell_2 _ hS.stab) rfl rfl) rfl fun a hF => ?_
   obtain ⟨rv_12, hx_19, h⟩ := bind_some h
   refine O.callP (us := [.agg #[.int .i64 e_5.Exchanges, .slice p_21 e_5.Lines.length c_21, .int .i64 e_5.Hops, .slice p_22 e_5.Loops.length c_22], .int .i64 (-1), .int .i64 0]) ca_26 hF hS (line_Can_ok hS.stab e_5 (-1) 0 hs_38 hs_39 hG rv_12 hx_19) rfl rfl fun a w hF hS => step hF (Y.move hF rfl) rfl fun a hF => step hF (Y.extract hF rfl rfl) rfl fun a hF => step hF (Y.extract hF rfl rfl) rfl fun a hF => step hF (Y.assign hF rfl) rfl fun a hF => step hF (Y.assign hF rfl) rfl fun a hF => nil (then_n (seq (region (step hF (Y.move hF rfl) rfl fun a hF => step hF (Y.move hF rfl) rfl fun a hF => ?_))))
   obtain ⟨b_10, o_3, hE_3, hY_3⟩ := Y.indexS (P := Tryd.prog) (C := C_LineNet) (xs := bad) (T := 81) (x := (.tmp 139)) (y := (.tmp 140)) u_81 sz_25 hF rfl rfl (hs_32).1 hx_16
   obtain ⟨cc_8, hc_8, hcell_3⟩ := hE_3.open
   obtain ⟨p_23, c_23, p_24, c_24, rfl, hs_40, hs_41⟩ := C_LineNet.open hc_8
   refine step hF (hY_3) rfl fun a hF => step hF (Y.loadNE (o := o_3) (k := 0) sz_25 hF rfl (hcell_3 _ hS.stab) rfl rfl) rfl fun a hF => ?_
   obtain ⟨rv_13, hx_20, h⟩ := bind_some h
   refine O.callP (us := [.agg #[.int .i64 e_5.Exchanges, .slice p_23 e_5.Lines.length c_23, .int .i64 e_5.Hops, .slice p_24 e_5.Loops.length c_24], .int .i64 (-1)]) ca_28 hF hS (line_Correct_ok hS.stab e_5 (-1) hs_40 hs_41 hG rv_13 hx_20) rfl rfl fun a w hF hS => step hF (Y.move hF rfl) rfl fun a hF => step hF (Y.extract hF rfl rfl) rfl fun a hF => step hF (Y.extract hF rfl rfl) rfl fun a hF => step hF (Y.extract hF rfl rfl) rfl fun a hF => step hF (Y.assign hF rfl) rfl fun a hF => step hF (Y.assign hF rfl) rfl fun a hF => step hF (Y.assign hF rfl) rfl fun a hF => nil (then_n (seq (region (step hF (Y.move hF rfl) rfl fun a hF => step hF (Y.move hF rfl) rfl fun a hF => ?_))))
   obtain ⟨b_11, o_4, hE_4, hY_4⟩ := Y.indexS (P := Tryd.prog) (C := C_LineNet) (xs := bad) (T := 81) (x := (.tmp 148)) (y := (.tmp 149)) u_81 sz_25 hF rfl rfl (hs_32).1 hx_16
   obtain ⟨cc_9, hc_9, hcell_4⟩ := hE_4.open
   obtain ⟨p_25, c_25, p_26, c_26, rfl, hs_42, hs_43⟩ := C_LineNet.open hc_9
   refine step hF (hY_4) rfl fun a hF => step hF (Y.loadNE (o := o_4) (k := 0) sz_25 hF rfl (hcell_4 _ hS.stab) rfl rfl) rfl fun a hF => ?_
   obtain ⟨rv_14, hx_21, h⟩ := bind_some h
   refine O.callS (us := [.agg #[.int .i64 e_5.Exchanges, .slice p_25 e_5.Lines.length c_25, .int .i64 e_5.Hops, .slice p_26 e_5.Loops.length c_26], .int .i64 (-1)]) ca_20 hF hS (line_Surely_ok hS.stab e_5 (-1) hs_42 hs_43 hG rv_14 hx_21) rfl rfl fun v_9 Dv_27 a w hR_1 hlev_27 hF hS => ?_
   replace hG := hG.mono hlev_27
   replace hs_32 := hs_32.mono hlev_27
   obtain ⟨p_27, c_27, rfl, hs_44⟩ := hR_1
   refine step hF (Y.move hF rfl) rfl fun a hF => step hF (Y.extract hF rfl rfl) rfl fun a hF => step hF (Y.extract hF rfl rfl) rfl fun a hF => step hF (Y.assign hF rfl) rfl fun a hF => step hF (Y.assign hF rfl) rfl fun a hF => nil (then_n (seq (region (step hF (Y.move hF rfl) rfl fun a hF => step hF (Y.move hF rfl) rfl fun a hF => ?_))))
   obtain ⟨b_12, o_5, hE_5, hY_5⟩ := Y.indexS (P := Tryd.prog) (C := C_LineNet) (xs := bad) (T := 81) (x := (.tmp 156)) (y := (.tmp 157)) u_81 sz_25 hF rfl rfl (hs_32).1 hx_16
   obtain ⟨cc_10, hc_10, hcell_5⟩ := hE_5.open
   obtain ⟨p_28, c_28, p_29, c_29, rfl, hs_45, hs_46⟩ := C_LineNet.open hc_10
   refine step hF (hY_5) rfl fun a hF => step hF (Y.loadNE (o := o_5) (k := 0) sz_25 hF rfl (hcell_5 _ hS.stab) rfl rfl) rfl fun a hF => ?_
   obtain ⟨rv_15, hx_22, h⟩ := bind_some h
   refine O.callS (us := [.agg #[.int .i64 e_5.Exchanges, .slice p_28 e_5.Lines.length c_28, .int .i64 e_5.Hops, .slice p_29 e_5.Loops.length c_29], .int .i64 (-1)]) ca_30 hF hS (line_Cut_ok hS.stab e_5 (-1) hs_45 hs_46 hG rv_15 hx_22) rfl rfl fun v_10 Dv_28 a w hR_2 hlev_28 hF hS => ?_
   replace hG := hG.mono hlev_28
   replace hs_32 := hs_32.mono hlev_28
   obtain ⟨p_30, c_30, p_31, c_31, rfl, hs_47, hs_48⟩ := hR_2
   refine step hF (Y.move hF rfl) rfl fun a hF => step hF (Y.extract hF rfl rfl) rfl fun a hF => step hF (Y.extract hF rfl rfl) rfl fun a hF => step hF (Y.extract hF rfl rfl) rfl fun a hF => step hF (Y.assign hF rfl) rfl fun a hF => step hF (Y.assign hF rfl) rfl fun a hF => step hF (Y.assign hF rfl) rfl fun a hF => nil (then_n (seq (region (step hF (Y.move hF rfl) rfl fun a hF => step hF (Y.move hF rfl) rfl fun a hF => ?_))))
   obtain ⟨b_13, o_6, hE_6, hY_6⟩ := Y.indexS (P := Tryd.prog) (C := C_LineNet) (xs := bad) (T := 81) (x := (.tmp 165)) (y := (.tmp 166)) u_81 sz_25 hF rfl rfl (hs_32).1 hx_16
   obtain ⟨cc_11, hc_11, hcell_6⟩ := hE_6.open
   obtain ⟨p_32, c_32, p_33, c_33, rfl, hs_49, hs_50⟩ := C_LineNet.open hc_11
   refine step hF (hY_6) rfl fun a hF => step hF (Y.loadNE (o := o_6) (k := 0) sz_25 hF rfl (hcell_6 _ hS.stab) rfl rfl) rfl fun a hF => ?_
   obtain ⟨rv_16, hx_23, h⟩ := bind_some h
   refine O.callS (us := [.agg #[.int .i64 e_5.Exchanges, .slice p_32 e_5.Lines.length c_32, .int .i64 e_5.Hops, .slice p_33 e_5.Loops.length c_33]]) ca_32 hF hS (line_Wrong_ok hS.stab e_5 hs_49 hs_50 hG rv_16 hx_23) rfl rfl fun v_11 Dv_29 a w hR_3 hlev_29 hF hS => ?_
   replace hs_32 := hs_32.mono hlev_29
   obtain ⟨p_34, c_34, rfl, hs_51⟩ := hR_3
   refine step hF (Y.move hF rfl) rfl fun a hF => step hF (Y.extract hF rfl rfl) rfl fun a hF => step hF (Y.extract hF rfl rfl) rfl fun a hF => step hF (Y.assign hF rfl) rfl fun a hF => step hF (Y.assign hF rfl) rfl fun a hF => nil (then_n (seq (region (step hF (Y.move hF rfl) rfl fun a hF => step hF (Y.move hF rfl) rfl fun a hF => ?_))))
   obtain ⟨b_14, o_7, hE_7, hY_7⟩ := Y.indexS (P := Tryd.prog) (C := C_LineNet) (xs := bad) (T := 81) (x := (.tmp 172)) (y := (.tmp 173)) u_81 sz_25 hF rfl rfl (hs_32).1 hx_16
   obtain ⟨cc_12, hc_12, hcell_7⟩ := hE_7.open
   obtain ⟨p_35, c_35, p_36, c_36, rfl, hs_52, hs_53⟩ := C_LineNet.open hc_12
   refine step hF (hY_7) rfl fun a hF => step hF (Y.loadNE (o := o_7) (k := 0) sz_25 hF rfl (hcell_7 _ hS.stab) rfl rfl) rfl fun a hF => ?_
   obtain ⟨rv_17, hx_24, h⟩ := bind_some h
   refine O.callP (us := [.agg #[.int .i64 e_5.Exchanges, .slice p_35 e_5.Lines.length c_35, .int .i64 e_5.Hops, .slice p_36 e_5.Loops.length c_36]]) ca_18 hF hS (line_Check_ok hS.stab e_5 hs_52 hs_53 rv_17 hx_24) rfl rfl fun a w hF hS => step hF (Y.neq hF rfl rfl) rfl fun a hF => step hF (Y.move hF rfl) rfl fun a hF => join (N := 473) (rs := []) (w0 := w0) (D0 := D0) 3 (us := [(0, .bool v0_0), (1, .slice (some ⟨b, 0, none⟩) bad.length 9), (2, .int .i64 i), (6, .int .i64 rv_11.2), (8, .int .i64 rv_12.2), (11, .int .i64 rv_13.2.2), (13, .int .i64 rv_14.2), (16, .int .i64 rv_15.2.2), (18, .int .i64 rv_16.2), (181, .bool ((rv_17 != 60) || (rv_10.2 != 60)))]) (ms := [(18, .cells b_8 [.int .i64 rv_11.1.Low, .int .i64 rv_11.1.High] 40)]) (D' := Dv_29) ?_ ?_
   ·rcases bcases (rv_17 != 60) with hbv_2 | hbv_2
    ·skip
     refine guard_off hF rfl rfl hbv_2 rfl fun a hF => guard_off hF rfl rfl hbv_2 rfl fun a hF => step hF (Y.pick_t hF rfl hbv_2 rfl) rfl fun a hF => nil (then_n ⟨hF.weak ⟨rfl, rfl, rfl, rfl, rfl, rfl, rfl, rfl, rfl, (by rw [hbv_2]; rfl), trivial⟩, hS.weak ⟨rfl, trivial⟩⟩)
    refine guard_on hF rfl rfl hbv_2 (step hF (Y.move hF rfl) rfl fun a hF => guard_on hF rfl rfl hbv_2 (step hF (Y.neq hF rfl rfl) rfl fun a hF => step hF (Y.pick_f hF rfl hbv_2 rfl) rfl fun a hF => nil (then_n ⟨hF.weak ⟨rfl, rfl, rfl, rfl, rfl, rfl, rfl, rfl, rfl, (by rw [hbv_2]; rfl), trivial⟩, hS.weak ⟨rfl, trivial⟩⟩)))
   intro a w hF hS
   refine step hF (Y.move hF rfl) rfl fun a hF => join (N := 473) (rs := []) (w0 := w0) (D0 := D0) 3 (us := [(0, .bool v0_0), (1, .slice (some ⟨b, 0, none⟩) bad.length 9), (2, .int .i64 i), (8, .int .i64 rv_12.2), (11, .int .i64 rv_13.2.2), (13, .int .i64 rv_14.2), (16, .int .i64 rv_15.2.2), (18, .int .i64 rv_16.2), (185, .bool (((rv_17 != 60) || (rv_10.2 != 60)) || (rv_11.2 != 60)))]) (ms := [(18, .cells b_8 [.int .i64 rv_11.1.Low, .int .i64 rv_11.1.High] 40)]) (D' := Dv_29) ?_ ?_
   ·rcases bcases ((rv_17 != 60) || (rv_10.2 != 60)) with hbv_3 | hbv_3
    ·skip
     refine guard_off hF rfl rfl hbv_3 rfl fun a hF => guard_off hF rfl rfl hbv_3 rfl fun a hF => step hF (Y.pick_t hF rfl hbv_3 rfl) rfl fun a hF => nil (then_n ⟨hF.weak ⟨rfl, rfl, rfl, rfl, rfl, rfl, rfl, rfl, (by rw [hbv_3]; rfl), trivial⟩, hS.weak ⟨rfl, trivial⟩⟩)
    refine guard_on hF rfl rfl hbv_3 (step hF (Y.move hF rfl) rfl fun a hF => guard_on hF rfl rfl hbv_3 (step hF (Y.neq hF rfl rfl) rfl fun a hF => step hF (Y.pick_f hF rfl hbv_3 rfl) rfl fun a hF => nil (then_n ⟨hF.weak ⟨rfl, rfl, rfl, rfl, rfl, rfl, rfl, rfl, (by rw [hbv_3]; rfl), trivial⟩, hS.weak ⟨rfl, trivial⟩⟩)))
   intro a w hF hS
   refine step hF (Y.move hF rfl) rfl fun a hF => join (N := 473) (rs := []) (w0 := w0) (D0 := D0) 3 (us := [(0, .bool v0_0), (1, .slice (some ⟨b, 0, none⟩) bad.length 9), (2, .int .i64 i), (11, .int .i64 rv_13.2.2), (13, .int .i64 rv_14.2), (16, .int .i64 rv_15.2.2), (18, .int .i64 rv_16.2), (189, .bool ((((rv_17 != 60) || (rv_10.2 != 60)) || (rv_11.2 != 60)) || (rv_12.2 != 60)))]) (ms := [(18, .cells b_8 [.int .i64 rv_11.1.Low, .int .i64 rv_11.1.High] 40)]) (D' := Dv_29) ?_ ?_
   ·rcases bcases (((rv_17 != 60) || (rv_10.2 != 60)) || (rv_11.2 != 60)) with hbv_4 | hbv_4
    ·skip
     refine guard_off hF rfl rfl hbv_4 rfl fun a hF => guard_off hF rfl rfl hbv_4 rfl fun a hF => step hF (Y.pick_t hF rfl hbv_4 rfl) rfl fun a hF => nil (then_n ⟨hF.weak ⟨rfl, rfl, rfl, rfl, rfl, rfl, rfl, (by rw [hbv_4]; rfl), trivial⟩, hS.weak ⟨rfl, trivial⟩⟩)
    refine guard_on hF rfl rfl hbv_4 (step hF (Y.move hF rfl) rfl fun a hF => guard_on hF rfl rfl hbv_4 (step hF (Y.neq hF rfl rfl) rfl fun a hF => step hF (Y.pick_f hF rfl hbv_4 rfl) rfl fun a hF => nil (then_n ⟨hF.weak ⟨rfl, rfl, rfl, rfl, rfl, rfl, rfl, (by rw [hbv_4]; rfl), trivial⟩, hS.weak ⟨rfl, trivial⟩⟩)))
   intro a w hF hS
   refine step hF (Y.move hF rfl) rfl fun a hF => join (N := 473) (rs := []) (w0 := w0) (D0 := D0) 3 (us := [(0, .bool v0_0), (1, .slice (some ⟨b, 0, none⟩) bad.length 9), (2, .int .i64 i), (13, .int .i64 rv_14.2), (16, .int .i64 rv_15.2.2), (18, .int .i64 rv_16.2), (193, .bool (((((rv_17 != 60) || (rv_10.2 != 60)) || (rv_11.2 != 60)) || (rv_12.2 != 60)) || (rv_13.2.2 != 60)))]) (ms := [(18, .cells b_8 [.int .i64 rv_11.1.Low, .int .i64 rv_11.1.High] 40)]) (D' := Dv_29) ?_ ?_
   ·rcases bcases ((((rv_17 != 60) || (rv_10.2 != 60)) || (rv_11.2 != 60)) || (rv_12.2 != 60)) with hbv_5 | hbv_5
    ·skip
     refine guard_off hF rfl rfl hbv_5 rfl fun a hF => guard_off hF rfl rfl hbv_5 rfl fun a hF => step hF (Y.pick_t hF rfl hbv_5 rfl) rfl fun a hF => nil (then_n ⟨hF.weak ⟨rfl, rfl, rfl, rfl, rfl, rfl, (by rw [hbv_5]; rfl), trivial⟩, hS.weak ⟨rfl, trivial⟩⟩)
    refine guard_on hF rfl rfl hbv_5 (step hF (Y.move hF rfl) rfl fun a hF => guard_on hF rfl rfl hbv_5 (step hF (Y.neq hF rfl rfl) rfl fun a hF => step hF (Y.pick_f hF rfl hbv_5 rfl) rfl fun a hF => nil (then_n ⟨hF.weak ⟨rfl, rfl, rfl, rfl, rfl, rfl, (by rw [hbv_5]; rfl), trivial⟩, hS.weak ⟨rfl, trivial⟩⟩)))
   intro a w hF hS
   refine step hF (Y.move hF rfl) rfl fun a hF => join (N := 473) (rs := []) (w0 := w0) (D0 := D0) 3 (us := [(0, .bool v0_0), (1, .slice (some ⟨b, 0, none⟩) bad.length 9), (2, .int .i64 i), (16, .int .i64 rv_15.2.2), (18, .int .i64 rv_16.2), (197, .bool ((((((rv_17 != 60) || (rv_10.2 != 60)) || (rv_11.2 != 60)) || (rv_12.2 != 60)) || (rv_13.2.2 != 60)) || (rv_14.2 != 60)))]) (ms := [(18, .cells b_8 [.int .i64 rv_11.1.Low, .int .i64 rv_11.1.High] 40)]) (D' := Dv_29) ?_ ?_
   ·rcases bcases (((((rv_17 != 60) || (rv_10.2 != 60)) || (rv_11.2 != 60)) || (rv_12.2 != 60)) || (rv_13.2.2 != 60)) with hbv_6 | hbv_6
    ·skip
     refine guard_off hF rfl rfl hbv_6 rfl fun a hF => guard_off hF rfl rfl hbv_6 rfl fun a hF => step hF (Y.pick_t hF rfl hbv_6 rfl) rfl fun a hF => nil (then_n ⟨hF.weak ⟨rfl, rfl, rfl, rfl, rfl, (by rw [hbv_6]; rfl), trivial⟩, hS.weak ⟨rfl, trivial⟩⟩)
    refine guard_on hF rfl rfl hbv_6 (step hF (Y.move hF rfl) rfl fun a hF => guard_on hF rfl rfl hbv_6 (step hF (Y.neq hF rfl rfl) rfl fun a hF => step hF (Y.pick_f hF rfl hbv_6 rfl) rfl fun a hF => nil (then_n ⟨hF.weak ⟨rfl, rfl, rfl, rfl, rfl, (by rw [hbv_6]; rfl), trivial⟩, hS.weak ⟨rfl, trivial⟩⟩)))
   intro a w hF hS
   refine step hF (Y.move hF rfl) rfl fun a hF => join (N := 473) (rs := []) (w0 := w0) (D0 := D0) 3 (us := [(0, .bool v0_0), (1, .slice (some ⟨b, 0, none⟩) bad.length 9), (2, .int .i64 i), (18, .int .i64 rv_16.2), (201, .bool (((((((rv_17 != 60) || (rv_10.2 != 60)) || (rv_11.2 != 60)) || (rv_12.2 != 60)) || (rv_13.2.2 != 60)) || (rv_14.2 != 60)) || (rv_15.2.2 != 60)))]) (ms := [(18, .cells b_8 [.int .i64 rv_11.1.Low, .int .i64 rv_11.1.High] 40)]) (D' := Dv_29) ?_ ?_
   ·rcases bcases ((((((rv_17 != 60) || (rv_10.2 != 60)) || (rv_11.2 != 60)) || (rv_12.2 != 60)) || (rv_13.2.2 != 60)) || (rv_14.2 != 60)) with hbv_7 | hbv_7
    ·skip
     refine guard_off hF rfl rfl hbv_7 rfl fun a hF => guard_off hF rfl rfl hbv_7 rfl fun a hF => step hF (Y.pick_t hF rfl hbv_7 rfl) rfl fun a hF => nil (then_n ⟨hF.weak ⟨rfl, rfl, rfl, rfl, (by rw [hbv_7]; rfl), trivial⟩, hS.weak ⟨rfl, trivial⟩⟩)
    refine guard_on hF rfl rfl hbv_7 (step hF (Y.move hF rfl) rfl fun a hF => guard_on hF rfl rfl hbv_7 (step hF (Y.neq hF rfl rfl) rfl fun a hF => step hF (Y.pick_f hF rfl hbv_7 rfl) rfl fun a hF => nil (then_n ⟨hF.weak ⟨rfl, rfl, rfl, rfl, (by rw [hbv_7]; rfl), trivial⟩, hS.weak ⟨rfl, trivial⟩⟩)))
   intro a w hF hS
   refine step hF (Y.move hF rfl) rfl fun a hF => join (N := 473) (rs := []) (w0 := w0) (D0 := D0) 3 (us := [(0, .bool v0_0), (1, .slice (some ⟨b, 0, none⟩) bad.length 9), (2, .int .i64 i), (205, .bool ((((((((rv_17 != 60) || (rv_10.2 != 60)) || (rv_11.2 != 60)) || (rv_12.2 != 60)) || (rv_13.2.2 != 60)) || (rv_14.2 != 60)) || (rv_15.2.2 != 60)) || (rv_16.2 != 60)))]) (ms := [(18, .cells b_8 [.int .i64 rv_11.1.Low, .int .i64 rv_11.1.High] 40)]) (D' := Dv_29) ?_ ?_
   ·rcases bcases (((((((rv_17 != 60) || (rv_10.2 != 60)) || (rv_11.2 != 60)) || (rv_12.2 != 60)) || (rv_13.2.2 != 60)) || (rv_14.2 != 60)) || (rv_15.2.2 != 60)) with hbv_8 | hbv_8
    ·skip
     refine guard_off hF rfl rfl hbv_8 rfl fun a hF => guard_off hF rfl rfl hbv_8 rfl fun a hF => step hF (Y.pick_t hF rfl hbv_8 rfl) rfl fun a hF => nil (then_n ⟨hF.weak ⟨rfl, rfl, rfl, (by rw [hbv_8]; rfl), trivial⟩, hS.weak ⟨rfl, trivial⟩⟩)
    refine guard_on hF rfl rfl hbv_8 (step hF (Y.move hF rfl) rfl fun a hF => guard_on hF rfl rfl hbv_8 (step hF (Y.neq hF rfl rfl) rfl fun a hF => step hF (Y.pick_f hF rfl hbv_8 rfl) rfl fun a hF => nil (then_n ⟨hF.weak ⟨rfl, rfl, rfl, (by rw [hbv_8]; rfl), trivial⟩, hS.weak ⟨rfl, trivial⟩⟩)))
   intro a w hF hS
   refine nil (then_n (cond_b hF rfl (fun hbv_9 => ?_) (fun hbv_9 => ?_)))
   ·replace h := cond_t h hbv_9
    refine seq (region (step hF (Y.assign hF rfl) rfl fun a hF => nil (then_n (ret_ (blk_r (then_r (then_r (blk_r (then_r ?_)))))))))
    replace h := ext_some h hxo
    obtain rfl := some_inj h
    exact leaveP Tryd.results14 hF hS (.cons (.tmp rfl) .nil) .nil rfl
   replace h := cond_f h hbv_9
   refine skip_ (blk_n (then_n (region (step hF (Y.move hF rfl) rfl fun a hF => step hF (Y.add hF rfl rfl) rfl fun a hF => step hF (Y.assign hF rfl) rfl fun a hF => nil (then_n (⟨_, nxt_some h, v0_0, (wr (i + 1)), Dv_29, rfl, hlev_25.trans (hlev_26.trans (hlev_27.trans (hlev_28.trans hlev_29))), hF.weak ⟨rfl, rfl, rfl, trivial⟩, hS.weak trivial⟩))))))
 as_aux_lemma =>
  replace h := cond_f h hbv_1
  refine exit_ (then_x (then_x (blk_hit (then_n ?_))))
  replace h := ext_some h hxo
  refine seq (region ?_)
  obtain ⟨rv_18, hx_25, h⟩ := bind_some h
  refine O.callM (us := [.slice none 0 0]) ca_56 hF (remontoirlaw06_net_keep hS.stab ([] : List LineLoop) SRc.nil rv_18 hx_25) rfl rfl fun v_12 Dv_30 a w hK_8 hlev_30 hF => ?_
  replace hG := hG.mono hlev_30
  obtain ⟨p_37, c_37, cs_21, p_38, c_38, cs_22, hS2_8, rfl, hr_22, hr_23⟩ := hK_8
  replace hS := hS.join hS2_8
  replace hS := hS.move 19 900 rfl (by decide)
  replace hS := hS.move 20 901 rfl (by decide)
  replace hS := hS.weak (ms := [(19, .own p_37 rv_18.Lines.length c_37 cs_21 68 4), (20, .own p_38 rv_18.Loops.length c_38 cs_22 71 3)]) ⟨rfl, rfl, trivial⟩
  obtain ⟨Dv_31, hlev_31, hs_56, hS⟩ := hS.freezeC (C := C_LineLine) (i := 19) (xs := rv_18.Lines) rfl hr_22
  replace hG := hG.mono hlev_31
  replace hr_23 := hr_23.mono hlev_31
  obtain ⟨Dv_32, hlev_32, hs_57, hS⟩ := hS.freezeC (C := C_LineLoop) (i := 20) (xs := rv_18.Loops) rfl hr_23
  replace hG := hG.mono hlev_32
  replace hs_56 := hs_56.mono hlev_32
  obtain ⟨rv_19, hx_26, h⟩ := bind_some h
  refine O.callS (us := [.agg #[.int .i64 rv_18.Exchanges, .slice p_37 rv_18.Lines.length c_37, .int .i64 rv_18.Hops, .slice p_38 rv_18.Loops.length c_38], .int .i64 4]) ca_15 hF hS (line_Routes_ok hS.stab rv_18 4 hs_56 hs_57 hG rv_19 hx_26) rfl rfl fun v_13 Dv_33 a w hR_4 hlev_33 hF hS => ?_
  replace hG := hG.mono hlev_33
  obtain ⟨p_39, c_39, rfl, hs_58⟩ := hR_4
  refine step hF (Y.move hF rfl) rfl fun a hF => step hF (Y.extract hF rfl rfl) rfl fun a hF => step hF (Y.extract hF rfl rfl) rfl fun a hF => step hF (Y.assign hF rfl) rfl fun a hF => step hF (Y.assign hF rfl) rfl fun a hF => nil (then_n (seq (region ?_)))
  obtain ⟨rv_20, hx_27, h⟩ := bind_some h
  refine O.callM (us := [.slice none 0 0]) ca_56 hF (remontoirlaw06_net_keep hS.stab ([] : List LineLoop) SRc.nil rv_20 hx_27) rfl rfl fun v_14 Dv_34 a w hK_9 hlev_34 hF => ?_
  replace hG := hG.mono hlev_34
  obtain ⟨p_40, c_40, cs_23, p_41, c_41, cs_24, hS2_9, rfl, hr_24, hr_25⟩ := hK_9
  replace hS := hS.join hS2_9
  replace hS := hS.move 21 900 rfl (by decide)
  replace hS := hS.move 22 901 rfl (by decide)
  replace hS := hS.weak (ms := [(21, .own p_40 rv_20.Lines.length c_40 cs_23 68 4), (22, .own p_41 rv_20.Loops.length c_41 cs_24 71 3)]) ⟨rfl, rfl, trivial⟩
  obtain ⟨Dv_35, hlev_35, hs_61, hS⟩ := hS.freezeC (C := C_LineLine) (i := 21) (xs := rv_20.Lines) rfl hr_24
  replace hG := hG.mono hlev_35
  replace hr_25 := hr_25.mono hlev_35
  obtain ⟨Dv_36, hlev_36, hs_62, hS⟩ := hS.freezeC (C := C_LineLoop) (i := 22) (xs := rv_20.Loops) rfl hr_25
  replace hG := hG.mono hlev_36
  replace hs_61 := hs_61.mono hlev_36
  obtain ⟨rv_21, hx_28, h⟩ := bind_some h
  refine O.callP (us := [.agg #[.int .i64 rv_20.Exchanges, .slice p_40 rv_20.Lines.length c_40, .int .i64 rv_20.Hops, .slice p_41 rv_20.Loops.length c_41], .int .i64 5]) ca_24 hF hS (line_Delay_ok hS.stab rv_20 5 hs_61 hs_62 hG rv_21 hx_28) rfl rfl fun a w hF hS => step hF (Y.move hF rfl) rfl fun a hF => step hF (Y.extract hF rfl rfl) rfl fun a hF => step hF (Y.extract hF rfl rfl) rfl fun a hF => O.alloc 23 zc_40 hF hS rfl fun b_15 a w hF hS => O.store (us := [.int .i64 rv_21.1.Low, .int .i64 rv_21.1.High]) 23 sz_40 hF rfl rfl rfl rfl hS rfl rfl fun a w hF hS => step hF (Y.assign hF rfl) rfl fun a hF => nil (then_n (seq (region ?_)))
  obtain ⟨rv_22, hx_29, h⟩ := bind_some h
  refine O.callS (us := []) ca_57 hF hS (remontoirlaw06_torn_ok hS.stab rv_22 hx_29) rfl rfl fun v_15 Dv_37 a w hR_5 hlev_37 hF hS => ?_
  replace hG := hG.mono hlev_37
  obtain ⟨p_42, c_42, rfl, hs_63⟩ := hR_5
  obtain ⟨rv_23, hx_30, h⟩ := bind_some h
  refine O.callM (us := [.slice p_42 rv_22.length c_42]) ca_56 hF (remontoirlaw06_net_keep hS.stab rv_22 hs_63 rv_23 hx_30) rfl rfl fun v_16 Dv_38 a w hK_10 hlev_38 hF => ?_
  replace hG := hG.mono hlev_38
  obtain ⟨p_43, c_43, cs_25, p_44, c_44, cs_26, hS2_10, rfl, hr_26, hr_27⟩ := hK_10
  replace hS := hS.join hS2_10
  replace hS := hS.move 24 900 rfl (by decide)
  replace hS := hS.move 25 901 rfl (by decide)
  replace hS := hS.weak (ms := [(23, .cells b_15 [.int .i64 rv_21.1.Low, .int .i64 rv_21.1.High] 40), (24, .own p_43 rv_23.Lines.length c_43 cs_25 68 4), (25, .own p_44 rv_23.Loops.length c_44 cs_26 71 3)]) ⟨rfl, rfl, rfl, trivial⟩
  obtain ⟨Dv_39, hlev_39, hs_66, hS⟩ := hS.freezeC (C := C_LineLine) (i := 24) (xs := rv_23.Lines) rfl hr_26
  replace hG := hG.mono hlev_39
  replace hr_27 := hr_27.mono hlev_39
  obtain ⟨Dv_40, hlev_40, hs_67, hS⟩ := hS.freezeC (C := C_LineLoop) (i := 25) (xs := rv_23.Loops) rfl hr_27
  replace hG := hG.mono hlev_40
  replace hs_66 := hs_66.mono hlev_40
  obtain ⟨rv_24, hx_31, h⟩ := bind_some h
  refine O.callP (us := [.agg #[.int .i64 rv_23.Exchanges, .slice p_43 rv_23.Lines.length c_43, .int .i64 rv_23.Hops, .slice p_44 rv_23.Loops.length c_44], .int .i64 2, .int .i64 20]) ca_26 hF hS (line_Can_ok hS.stab rv_23 2 20 hs_66 hs_67 hG rv_24 hx_31) rfl rfl fun a w hF hS => step hF (Y.move hF rfl) rfl fun a hF => step hF (Y.extract hF rfl rfl) rfl fun a hF => step hF (Y.extract hF rfl rfl) rfl fun a hF => step hF (Y.assign hF rfl) rfl fun a hF => step hF (Y.assign hF rfl) rfl fun a hF => nil (then_n (seq (region ?_)))
  obtain ⟨rv_25, hx_32, h⟩ := bind_some h
  refine O.callM (us := [.slice none 0 0]) ca_56 hF (remontoirlaw06_net_keep hS.stab ([] : List LineLoop) SRc.nil rv_25 hx_32) rfl rfl fun v_17 Dv_41 a w hK_11 hlev_41 hF => ?_
  replace hG := hG.mono hlev_41
  obtain ⟨p_45, c_45, cs_27, p_46, c_46, cs_28, hS2_11, rfl, hr_28, hr_29⟩ := hK_11
  replace hS := hS.join hS2_11
  replace hS := hS.move 26 900 rfl (by decide)
  replace hS := hS.move 27 901 rfl (by decide)
  replace hS := hS.weak (ms := [(23, .cells b_15 [.int .i64 rv_21.1.Low, .int .i64 rv_21.1.High] 40), (26, .own p_45 rv_25.Lines.length c_45 cs_27 68 4), (27, .own p_46 rv_25.Loops.length c_46 cs_28 71 3)]) ⟨rfl, rfl, rfl, trivial⟩
  obtain ⟨Dv_42, hlev_42, hs_70, hS⟩ := hS.freezeC (C := C_LineLine) (i := 26) (xs := rv_25.Lines) rfl hr_28
  replace hG := hG.mono hlev_42
  replace hr_29 := hr_29.mono hlev_42
  obtain ⟨Dv_43, hlev_43, hs_71, hS⟩ := hS.freezeC (C := C_LineLoop) (i := 27) (xs := rv_25.Loops) rfl hr_29
  replace hG := hG.mono hlev_43
  replace hs_70 := hs_70.mono hlev_43
  obtain ⟨rv_26, hx_33, h⟩ := bind_some h
  refine O.callP (us := [.agg #[.int .i64 rv_25.Exchanges, .slice p_45 rv_25.Lines.length c_45, .int .i64 rv_25.Hops, .slice p_46 rv_25.Loops.length c_46], .int .i64 4]) ca_28 hF hS (line_Correct_ok hS.stab rv_25 4 hs_70 hs_71 hG rv_26 hx_33) rfl rfl fun a w hF hS => step hF (Y.move hF rfl) rfl fun a hF => step hF (Y.extract hF rfl rfl) rfl fun a hF => step hF (Y.extract hF rfl rfl) rfl fun a hF => step hF (Y.extract hF rfl rfl) rfl fun a hF => step hF (Y.assign hF rfl) rfl fun a hF => step hF (Y.assign hF rfl) rfl fun a hF => step hF (Y.assign hF rfl) rfl fun a hF => nil (then_n (seq (region ?_)))
  obtain ⟨rv_27, hx_34, h⟩ := bind_some h
  refine O.callS (us := []) ca_57 hF hS (remontoirlaw06_torn_ok hS.stab rv_27 hx_34) rfl rfl fun v_18 Dv_44 a w hR_6 hlev_44 hF hS => ?_
  replace hG := hG.mono hlev_44
  obtain ⟨p_47, c_47, rfl, hs_72⟩ := hR_6
  obtain ⟨rv_28, hx_35, h⟩ := bind_some h
  refine O.callM (us := [.slice p_47 rv_27.length c_47]) ca_56 hF (remontoirlaw06_net_keep hS.stab rv_27 hs_72 rv_28 hx_35) rfl rfl fun v_19 Dv_45 a w hK_12 hlev_45 hF => ?_
  replace hG := hG.mono hlev_45
  obtain ⟨p_48, c_48, cs_29, p_49, c_49, cs_30, hS2_12, rfl, hr_30, hr_31⟩ := hK_12
  replace hS := hS.join hS2_12
  replace hS := hS.move 28 900 rfl (by decide)
  replace hS := hS.move 29 901 rfl (by decide)
  replace hS := hS.weak (ms := [(23, .cells b_15 [.int .i64 rv_21.1.Low, .int .i64 rv_21.1.High] 40), (28, .own p_48 rv_28.Lines.length c_48 cs_29 68 4), (29, .own p_49 rv_28.Loops.length c_49 cs_30 71 3)]) ⟨rfl, rfl, rfl, trivial⟩
  obtain ⟨Dv_46, hlev_46, hs_75, hS⟩ := hS.freezeC (C := C_LineLine) (i := 28) (xs := rv_28.Lines) rfl hr_30
  replace hG := hG.mono hlev_46
  replace hr_31 := hr_31.mono hlev_46
  obtain ⟨Dv_47, hlev_47, hs_76, hS⟩ := hS.freezeC (C := C_LineLoop) (i := 29) (xs := rv_28.Loops) rfl hr_31
  replace hG := hG.mono hlev_47
  replace hs_75 := hs_75.mono hlev_47
  obtain ⟨rv_29, hx_36, h⟩ := bind_some h
  refine O.callS (us := [.agg #[.int .i64 rv_28.Exchanges, .slice p_48 rv_28.Lines.length c_48, .int .i64 rv_28.Hops, .slice p_49 rv_28.Loops.length c_49], .int .i64 2]) ca_20 hF hS (line_Surely_ok hS.stab rv_28 2 hs_75 hs_76 hG rv_29 hx_36) rfl rfl fun v_20 Dv_48 a w hR_7 hlev_48 hF hS => ?_
  replace hG := hG.mono hlev_48
  obtain ⟨p_50, c_50, rfl, hs_77⟩ := hR_7
  refine step hF (Y.move hF rfl) rfl fun a hF => step hF (Y.extract hF rfl rfl) rfl fun a hF => step hF (Y.extract hF rfl rfl) rfl fun a hF => step hF (Y.assign hF rfl) rfl fun a hF => step hF (Y.assign hF rfl) rfl fun a hF => nil (then_n (seq (region ?_)))
  obtain ⟨rv_30, hx_37, h⟩ := bind_some h
  refine O.callM (us := [.slice none 0 0]) ca_56 hF (remontoirlaw06_net_keep hS.stab ([] : List LineLoop) SRc.nil rv_30 hx_37) rfl rfl fun v_21 Dv_49 a w hK_13 hlev_49 hF => ?_
  replace hG := hG.mono hlev_49
  obtain ⟨p_51, c_51, cs_31, p_52, c_52, cs_32, hS2_13, rfl, hr_32, hr_33⟩ := hK_13
  replace hS := hS.join hS2_13
  replace hS := hS.move 30 900 rfl (by decide)
  replace hS := hS.move 31 901 rfl (by decide)
  replace hS := hS.weak (ms := [(23, .cells b_15 [.int .i64 rv_21.1.Low, .int .i64 rv_21.1.High] 40), (30, .own p_51 rv_30.Lines.length c_51 cs_31 68 4), (31, .own p_52 rv_30.Loops.length c_52 cs_32 71 3)]) ⟨rfl, rfl, rfl, trivial⟩
  obtain ⟨Dv_50, hlev_50, hs_80, hS⟩ := hS.freezeC (C := C_LineLine) (i := 30) (xs := rv_30.Lines) rfl hr_32
  replace hG := hG.mono hlev_50
  replace hr_33 := hr_33.mono hlev_50
  obtain ⟨Dv_51, hlev_51, hs_81, hS⟩ := hS.freezeC (C := C_LineLoop) (i := 31) (xs := rv_30.Loops) rfl hr_33
  replace hG := hG.mono hlev_51
  replace hs_80 := hs_80.mono hlev_51
  obtain ⟨rv_31, hx_38, h⟩ := bind_some h
  refine O.callS (us := [.agg #[.int .i64 rv_30.Exchanges, .slice p_51 rv_30.Lines.length c_51, .int .i64 rv_30.Hops, .slice p_52 rv_30.Loops.length c_52], .int .i64 4]) ca_30 hF hS (line_Cut_ok hS.stab rv_30 4 hs_80 hs_81 hG rv_31 hx_38) rfl rfl fun v_22 Dv_52 a w hR_8 hlev_52 hF hS => ?_
  replace hG := hG.mono hlev_52
  obtain ⟨p_53, c_53, p_54, c_54, rfl, hs_82, hs_83⟩ := hR_8
  refine step hF (Y.move hF rfl) rfl fun a hF => step hF (Y.extract hF rfl rfl) rfl fun a hF => step hF (Y.extract hF rfl rfl) rfl fun a hF => step hF (Y.extract hF rfl rfl) rfl fun a hF => step hF (Y.assign hF rfl) rfl fun a hF => step hF (Y.assign hF rfl) rfl fun a hF => step hF (Y.assign hF rfl) rfl fun a hF => nil (then_n (seq (region ?_)))
  obtain ⟨rv_32, hx_39, h⟩ := bind_some h
  refine O.callS (us := []) ca_57 hF hS (remontoirlaw06_torn_ok hS.stab rv_32 hx_39) rfl rfl fun v_23 Dv_53 a w hR_9 hlev_53 hF hS => ?_
  replace hG := hG.mono hlev_53
  obtain ⟨p_55, c_55, rfl, hs_84⟩ := hR_9
  obtain ⟨rv_33, hx_40, h⟩ := bind_some h
  refine O.callM (us := [.slice p_55 rv_32.length c_55]) ca_56 hF (remontoirlaw06_net_keep hS.stab rv_32 hs_84 rv_33 hx_40) rfl rfl fun v_24 Dv_54 a w hK_14 hlev_54 hF => ?_
  replace hG := hG.mono hlev_54
  obtain ⟨p_56, c_56, cs_33, p_57, c_57, cs_34, hS2_14, rfl, hr_34, hr_35⟩ := hK_14
  replace hS := hS.join hS2_14
  replace hS := hS.move 32 900 rfl (by decide)
  replace hS := hS.move 33 901 rfl (by decide)
  replace hS := hS.weak (ms := [(23, .cells b_15 [.int .i64 rv_21.1.Low, .int .i64 rv_21.1.High] 40), (32, .own p_56 rv_33.Lines.length c_56 cs_33 68 4), (33, .own p_57 rv_33.Loops.length c_57 cs_34 71 3)]) ⟨rfl, rfl, rfl, trivial⟩
  obtain ⟨Dv_55, hlev_55, hs_87, hS⟩ := hS.freezeC (C := C_LineLine) (i := 32) (xs := rv_33.Lines) rfl hr_34
  replace hG := hG.mono hlev_55
  replace hr_35 := hr_35.mono hlev_55
  obtain ⟨Dv_56, hlev_56, hs_88, hS⟩ := hS.freezeC (C := C_LineLoop) (i := 33) (xs := rv_33.Loops) rfl hr_35
  replace hG := hG.mono hlev_56
  replace hs_87 := hs_87.mono hlev_56
  obtain ⟨rv_34, hx_41, h⟩ := bind_some h
  refine O.callP (us := [.agg #[.int .i64 rv_33.Exchanges, .slice p_56 rv_33.Lines.length c_56, .int .i64 rv_33.Hops, .slice p_57 rv_33.Loops.length c_57], .int .i64 2]) ca_24 hF hS (line_Delay_ok hS.stab rv_33 2 hs_87 hs_88 hG rv_34 hx_41) rfl rfl fun a w hF hS => step hF (Y.move hF rfl) rfl fun a hF => step hF (Y.extract hF rfl rfl) rfl fun a hF => step hF (Y.extract hF rfl rfl) rfl fun a hF => O.alloc 34 zc_40 hF hS rfl fun b_16 a w hF hS => O.store (us := [.int .i64 rv_34.1.Low, .int .i64 rv_34.1.High]) 34 sz_40 hF rfl rfl rfl rfl hS rfl rfl fun a w hF hS => step hF (Y.assign hF rfl) rfl fun a hF => nil (then_n (seq (region ?_)))
  obtain ⟨rv_35, hx_42, h⟩ := bind_some h
  refine O.callP (us := [.int .i64 0, .int .i64 12000]) ca_44 hF hS (r0To_ok hS.stab 0 12000 rv_35 hx_42) rfl rfl fun a w hF hS => step hF (Y.build (parts := [(0, (.const (.int .i64 4))), (1, (.tmp 246))]) (cs := #[.int .i64 4, .int .i64 rv_35.Low, .int .i64 rv_35.High]) hF rfl (by kernel_rfl)) rfl fun a hF => ?_
  have hr_36 : Reps C_LineLoop Dv_56 [(LineLoop.mk 4 rv_35)] [.int .i64 4, .int .i64 rv_35.Low, .int .i64 rv_35.High] := Reps.cons (C := C_LineLoop) (x := (LineLoop.mk 4 rv_35)) (c := [.int .i64 4, .int .i64 rv_35.Low, .int .i64 rv_35.High]) (r := []) rfl (Reps.nil)
  refine O.buildSlice (E := 71) (C := C_LineLoop) (xs := [(LineLoop.mk 4 rv_35)]) (cs := [.int .i64 4, .int .i64 rv_35.Low, .int .i64 rv_35.High]) (us := [.agg #[.int .i64 4, .int .i64 rv_35.Low, .int .i64 rv_35.High]]) (parts := [(0, (.tmp 247))]) 35 hF hS rfl (by kernel_rfl) hr_36 rfl rfl rfl fun p_58 c_58 a w hF hS => ?_
  obtain ⟨Dv_57, hlev_57, hs_89, hS⟩ := hS.freezeC (C := C_LineLoop) (i := 35) (xs := [(LineLoop.mk 4 rv_35)]) rfl hr_36
  replace hG := hG.mono hlev_57
  obtain ⟨rv_36, hx_43, h⟩ := bind_some h
  refine O.callM (us := [.slice p_58 ([(LineLoop.mk 4 rv_35)]).length c_58]) ca_56 hF (remontoirlaw06_net_keep hS.stab ([(LineLoop.mk 4 rv_35)]) hs_89 rv_36 hx_43) rfl rfl fun v_25 Dv_58 a w hK_15 hlev_58 hF => ?_
  replace hG := hG.mono hlev_58
  obtain ⟨p_59, c_59, cs_35, p_60, c_60, cs_36, hS2_15, rfl, hr_37, hr_38⟩ := hK_15
  replace hS := hS.join hS2_15
  replace hS := hS.move 36 900 rfl (by decide)
  replace hS := hS.move 37 901 rfl (by decide)
  replace hS := hS.weak (ms := [(23, .cells b_15 [.int .i64 rv_21.1.Low, .int .i64 rv_21.1.High] 40), (34, .cells b_16 [.int .i64 rv_34.1.Low, .int .i64 rv_34.1.High] 40), (36, .own p_59 rv_36.Lines.length c_59 cs_35 68 4), (37, .own p_60 rv_36.Loops.length c_60 cs_36 71 3)]) ⟨rfl, rfl, rfl, rfl, trivial⟩
  refine O.alloc 38 zc_25 hF hS rfl fun b_17 a w hF hS => O.store (us := [.int .i64 rv_36.Exchanges, .slice p_59 rv_36.Lines.length c_59, .int .i64 rv_36.Hops, .slice p_60 rv_36.Loops.length c_60]) 38 sz_25 hF rfl rfl rfl rfl hS rfl rfl fun a w hF hS => nil (then_n (seq (region (step hF (Y.loadNL 38 sz_25 hF rfl hS rfl rfl rfl) rfl fun a hF => ?_))))
  obtain ⟨Dv_59, hlev_59, hs_92, hS⟩ := hS.freezeC (C := C_LineLine) (i := 36) (xs := rv_36.Lines) rfl hr_37
  replace hG := hG.mono hlev_59
  replace hr_38 := hr_38.mono hlev_59
  obtain ⟨Dv_60, hlev_60, hs_93, hS⟩ := hS.freezeC (C := C_LineLoop) (i := 37) (xs := rv_36.Loops) rfl hr_38
  replace hG := hG.mono hlev_60
  replace hs_92 := hs_92.mono hlev_60
  obtain ⟨rv_37, hx_44, h⟩ := bind_some h
  refine O.callP (us := [.agg #[.int .i64 rv_36.Exchanges, .slice p_59 rv_36.Lines.length c_59, .int .i64 rv_36.Hops, .slice p_60 rv_36.Loops.length c_60], .int .i64 4]) ca_24 hF hS (line_Delay_ok hS.stab rv_36 4 hs_92 hs_93 hG rv_37 hx_44) rfl rfl fun a w hF hS => step hF (Y.move hF rfl) rfl fun a hF => step hF (Y.extract hF rfl rfl) rfl fun a hF => step hF (Y.extract hF rfl rfl) rfl fun a hF => O.alloc 39 zc_40 hF hS rfl fun b_18 a w hF hS => O.store (us := [.int .i64 rv_37.1.Low, .int .i64 rv_37.1.High]) 39 sz_40 hF rfl rfl rfl rfl hS rfl rfl fun a w hF hS => step hF (Y.assign hF rfl) rfl fun a hF => nil (then_n (seq (seq (region (step hF (Y.move hF rfl) rfl fun a hF => step hF (Y.neq hF rfl rfl) rfl fun a hF => step hF (Y.move hF rfl) rfl fun a hF => join (N := 473) (rs := []) (w0 := w0) (D0 := D0) 3 (us := [(0, .bool v0_0), (20, .int .i64 rv_19.2), (22, .int .i64 rv_21.2), (24, .int .i64 rv_24.2), (27, .int .i64 rv_26.2.2), (29, .int .i64 rv_29.2), (32, .int .i64 rv_31.2.2), (34, .int .i64 rv_34.2), (35, .pointer (some ⟨b_17, 0, none⟩)), (37, .int .i64 rv_37.2), (260, .bool ((rv_19.2 != 4) || (rv_21.2 != 61)))]) (ms := [(23, .cells b_15 [.int .i64 rv_21.1.Low, .int .i64 rv_21.1.High] 40), (34, .cells b_16 [.int .i64 rv_34.1.Low, .int .i64 rv_34.1.High] 40), (38, .cells b_17 [.int .i64 rv_36.Exchanges, .slice p_59 rv_36.Lines.length c_59, .int .i64 rv_36.Hops, .slice p_60 rv_36.Loops.length c_60] 25), (39, .cells b_18 [.int .i64 rv_37.1.Low, .int .i64 rv_37.1.High] 40)]) (D' := Dv_60) ?_ ?_)))))
  ·rcases bcases (rv_19.2 != 4) with hbv_10 | hbv_10
   ·skip
    refine guard_off hF rfl rfl hbv_10 rfl fun a hF => guard_off hF rfl rfl hbv_10 rfl fun a hF => step hF (Y.pick_t hF rfl hbv_10 rfl) rfl fun a hF => nil (then_n ⟨hF.weak ⟨rfl, rfl, rfl, rfl, rfl, rfl, rfl, rfl, rfl, rfl, (by rw [hbv_10]; rfl), trivial⟩, hS.weak ⟨rfl, rfl, rfl, rfl, trivial⟩⟩)
   refine guard_on hF rfl rfl hbv_10 (step hF (Y.move hF rfl) rfl fun a hF => guard_on hF rfl rfl hbv_10 (step hF (Y.neq hF rfl rfl) rfl fun a hF => step hF (Y.pick_f hF rfl hbv_10 rfl) rfl fun a hF => nil (then_n ⟨hF.weak ⟨rfl, rfl, rfl, rfl, rfl, rfl, rfl, rfl, rfl, rfl, (by rw [hbv_10]; rfl), trivial⟩, hS.weak ⟨rfl, rfl, rfl, rfl, trivial⟩⟩)))
  intro a w hF hS
  refine step hF (Y.move hF rfl) rfl fun a hF => join (N := 473) (rs := []) (w0 := w0) (D0 := D0) 3 (us := [(0, .bool v0_0), (20, .int .i64 rv_19.2), (22, .int .i64 rv_21.2), (24, .int .i64 rv_24.2), (27, .int .i64 rv_26.2.2), (29, .int .i64 rv_29.2), (32, .int .i64 rv_31.2.2), (34, .int .i64 rv_34.2), (35, .pointer (some ⟨b_17, 0, none⟩)), (37, .int .i64 rv_37.2), (264, .bool (((rv_19.2 != 4) || (rv_21.2 != 61)) || (rv_24.2 != 62)))]) (ms := [(23, .cells b_15 [.int .i64 rv_21.1.Low, .int .i64 rv_21.1.High] 40), (34, .cells b_16 [.int .i64 rv_34.1.Low, .int .i64 rv_34.1.High] 40), (38, .cells b_17 [.int .i64 rv_36.Exchanges, .slice p_59 rv_36.Lines.length c_59, .int .i64 rv_36.Hops, .slice p_60 rv_36.Loops.length c_60] 25), (39, .cells b_18 [.int .i64 rv_37.1.Low, .int .i64 rv_37.1.High] 40)]) (D' := Dv_60) ?_ ?_
  ·rcases bcases ((rv_19.2 != 4) || (rv_21.2 != 61)) with hbv_11 | hbv_11
   ·skip
    refine guard_off hF rfl rfl hbv_11 rfl fun a hF => guard_off hF rfl rfl hbv_11 rfl fun a hF => step hF (Y.pick_t hF rfl hbv_11 rfl) rfl fun a hF => nil (then_n ⟨hF.weak ⟨rfl, rfl, rfl, rfl, rfl, rfl, rfl, rfl, rfl, rfl, (by rw [hbv_11]; rfl), trivial⟩, hS.weak ⟨rfl, rfl, rfl, rfl, trivial⟩⟩)
   refine guard_on hF rfl rfl hbv_11 (step hF (Y.move hF rfl) rfl fun a hF => guard_on hF rfl rfl hbv_11 (step hF (Y.neq hF rfl rfl) rfl fun a hF => step hF (Y.pick_f hF rfl hbv_11 rfl) rfl fun a hF => nil (then_n ⟨hF.weak ⟨rfl, rfl, rfl, rfl, rfl, rfl, rfl, rfl, rfl, rfl, (by rw [hbv_11]; rfl), trivial⟩, hS.weak ⟨rfl, rfl, rfl, rfl, trivial⟩⟩)))
  intro a w hF hS
  refine step hF (Y.move hF rfl) rfl fun a hF => join (N := 473) (rs := []) (w0 := w0) (D0 := D0) 3 (us := [(0, .bool v0_0), (20, .int .i64 rv_19.2), (22, .int .i64 rv_21.2), (24, .int .i64 rv_24.2), (27, .int .i64 rv_26.2.2), (29, .int .i64 rv_29.2), (32, .int .i64 rv_31.2.2), (34, .int .i64 rv_34.2), (35, .pointer (some ⟨b_17, 0, none⟩)), (37, .int .i64 rv_37.2), (268, .bool ((((rv_19.2 != 4) || (rv_21.2 != 61)) || (rv_24.2 != 62)) || (rv_26.2.2 != 4)))]) (ms := [(23, .cells b_15 [.int .i64 rv_21.1.Low, .int .i64 rv_21.1.High] 40), (34, .cells b_16 [.int .i64 rv_34.1.Low, .int .i64 rv_34.1.High] 40), (38, .cells b_17 [.int .i64 rv_36.Exchanges, .slice p_59 rv_36.Lines.length c_59, .int .i64 rv_36.Hops, .slice p_60 rv_36.Loops.length c_60] 25), (39, .cells b_18 [.int .i64 rv_37.1.Low, .int .i64 rv_37.1.High] 40)]) (D' := Dv_60) ?_ ?_
  ·rcases bcases (((rv_19.2 != 4) || (rv_21.2 != 61)) || (rv_24.2 != 62)) with hbv_12 | hbv_12
   ·skip
    refine guard_off hF rfl rfl hbv_12 rfl fun a hF => guard_off hF rfl rfl hbv_12 rfl fun a hF => step hF (Y.pick_t hF rfl hbv_12 rfl) rfl fun a hF => nil (then_n ⟨hF.weak ⟨rfl, rfl, rfl, rfl, rfl, rfl, rfl, rfl, rfl, rfl, (by rw [hbv_12]; rfl), trivial⟩, hS.weak ⟨rfl, rfl, rfl, rfl, trivial⟩⟩)
   refine guard_on hF rfl rfl hbv_12 (step hF (Y.move hF rfl) rfl fun a hF => guard_on hF rfl rfl hbv_12 (step hF (Y.neq hF rfl rfl) rfl fun a hF => step hF (Y.pick_f hF rfl hbv_12 rfl) rfl fun a hF => nil (then_n ⟨hF.weak ⟨rfl, rfl, rfl, rfl, rfl, rfl, rfl, rfl, rfl, rfl, (by rw [hbv_12]; rfl), trivial⟩, hS.weak ⟨rfl, rfl, rfl, rfl, trivial⟩⟩)))
  intro a w hF hS
  refine step hF (Y.move hF rfl) rfl fun a hF => join (N := 473) (rs := []) (w0 := w0) (D0 := D0) 3 (us := [(0, .bool v0_0), (20, .int .i64 rv_19.2), (22, .int .i64 rv_21.2), (24, .int .i64 rv_24.2), (27, .int .i64 rv_26.2.2), (29, .int .i64 rv_29.2), (32, .int .i64 rv_31.2.2), (34, .int .i64 rv_34.2), (35, .pointer (some ⟨b_17, 0, none⟩)), (37, .int .i64 rv_37.2), (272, .bool (((((rv_19.2 != 4) || (rv_21.2 != 61)) || (rv_24.2 != 62)) || (rv_26.2.2 != 4)) || (rv_29.2 != 62)))]) (ms := [(23, .cells b_15 [.int .i64 rv_21.1.Low, .int .i64 rv_21.1.High] 40), (34, .cells b_16 [.int .i64 rv_34.1.Low, .int .i64 rv_34.1.High] 40), (38, .cells b_17 [.int .i64 rv_36.Exchanges, .slice p_59 rv_36.Lines.length c_59, .int .i64 rv_36.Hops, .slice p_60 rv_36.Loops.length c_60] 25), (39, .cells b_18 [.int .i64 rv_37.1.Low, .int .i64 rv_37.1.High] 40)]) (D' := Dv_60) ?_ ?_
  ·rcases bcases ((((rv_19.2 != 4) || (rv_21.2 != 61)) || (rv_24.2 != 62)) || (rv_26.2.2 != 4)) with hbv_13 | hbv_13
   ·skip
    refine guard_off hF rfl rfl hbv_13 rfl fun a hF => guard_off hF rfl rfl hbv_13 rfl fun a hF => step hF (Y.pick_t hF rfl hbv_13 rfl) rfl fun a hF => nil (then_n ⟨hF.weak ⟨rfl, rfl, rfl, rfl, rfl, rfl, rfl, rfl, rfl, rfl, (by rw [hbv_13]; rfl), trivial⟩, hS.weak ⟨rfl, rfl, rfl, rfl, trivial⟩⟩)
   refine guard_on hF rfl rfl hbv_13 (step hF (Y.move hF rfl) rfl fun a hF => guard_on hF rfl rfl hbv_13 (step hF (Y.neq hF rfl rfl) rfl fun a hF => step hF (Y.pick_f hF rfl hbv_13 rfl) rfl fun a hF => nil (then_n ⟨hF.weak ⟨rfl, rfl, rfl, rfl, rfl, rfl, rfl, rfl, rfl, rfl, (by rw [hbv_13]; rfl), trivial⟩, hS.weak ⟨rfl, rfl, rfl, rfl, trivial⟩⟩)))
  intro a w hF hS
  refine step hF (Y.move hF rfl) rfl fun a hF => join (N := 473) (rs := []) (w0 := w0) (D0 := D0) 3 (us := [(0, .bool v0_0), (20, .int .i64 rv_19.2), (22, .int .i64 rv_21.2), (24, .int .i64 rv_24.2), (27, .int .i64 rv_26.2.2), (29, .int .i64 rv_29.2), (32, .int .i64 rv_31.2.2), (34, .int .i64 rv_34.2), (35, .pointer (some ⟨b_17, 0, none⟩)), (37, .int .i64 rv_37.2), (276, .bool ((((((rv_19.2 != 4) || (rv_21.2 != 61)) || (rv_24.2 != 62)) || (rv_26.2.2 != 4)) || (rv_29.2 != 62)) || (rv_31.2.2 != 61)))]) (ms := [(23, .cells b_15 [.int .i64 rv_21.1.Low, .int .i64 rv_21.1.High] 40), (34, .cells b_16 [.int .i64 rv_34.1.Low, .int .i64 rv_34.1.High] 40), (38, .cells b_17 [.int .i64 rv_36.Exchanges, .slice p_59 rv_36.Lines.length c_59, .int .i64 rv_36.Hops, .slice p_60 rv_36.Loops.length c_60] 25), (39, .cells b_18 [.int .i64 rv_37.1.Low, .int .i64 rv_37.1.High] 40)]) (D' := Dv_60) ?_ ?_
  ·rcases bcases (((((rv_19.2 != 4) || (rv_21.2 != 61)) || (rv_24.2 != 62)) || (rv_26.2.2 != 4)) || (rv_29.2 != 62)) with hbv_14 | hbv_14
   ·skip
    refine guard_off hF rfl rfl hbv_14 rfl fun a hF => guard_off hF rfl rfl hbv_14 rfl fun a hF => step hF (Y.pick_t hF rfl hbv_14 rfl) rfl fun a hF => nil (then_n ⟨hF.weak ⟨rfl, rfl, rfl, rfl, rfl, rfl, rfl, rfl, rfl, rfl, (by rw [hbv_14]; rfl), trivial⟩, hS.weak ⟨rfl, rfl, rfl, rfl, trivial⟩⟩)
   refine guard_on hF rfl rfl hbv_14 (step hF (Y.move hF rfl) rfl fun a hF => guard_on hF rfl rfl hbv_14 (step hF (Y.neq hF rfl rfl) rfl fun a hF => step hF (Y.pick_f hF rfl hbv_14 rfl) rfl fun a hF => nil (then_n ⟨hF.weak ⟨rfl, rfl, rfl, rfl, rfl, rfl, rfl, rfl, rfl, rfl, (by rw [hbv_14]; rfl), trivial⟩, hS.weak ⟨rfl, rfl, rfl, rfl, trivial⟩⟩)))
  intro a w hF hS
  refine step hF (Y.move hF rfl) rfl fun a hF => join (N := 473) (rs := []) (w0 := w0) (D0 := D0) 3 (us := [(0, .bool v0_0), (20, .int .i64 rv_19.2), (22, .int .i64 rv_21.2), (24, .int .i64 rv_24.2), (27, .int .i64 rv_26.2.2), (29, .int .i64 rv_29.2), (32, .int .i64 rv_31.2.2), (34, .int .i64 rv_34.2), (35, .pointer (some ⟨b_17, 0, none⟩)), (37, .int .i64 rv_37.2), (280, .bool (((((((rv_19.2 != 4) || (rv_21.2 != 61)) || (rv_24.2 != 62)) || (rv_26.2.2 != 4)) || (rv_29.2 != 62)) || (rv_31.2.2 != 61)) || (rv_34.2 != 62)))]) (ms := [(23, .cells b_15 [.int .i64 rv_21.1.Low, .int .i64 rv_21.1.High] 40), (34, .cells b_16 [.int .i64 rv_34.1.Low, .int .i64 rv_34.1.High] 40), (38, .cells b_17 [.int .i64 rv_36.Exchanges, .slice p_59 rv_36.Lines.length c_59, .int .i64 rv_36.Hops, .slice p_60 rv_36.Loops.length c_60] 25), (39, .cells b_18 [.int .i64 rv_37.1.Low, .int .i64 rv_37.1.High] 40)]) (D' := Dv_60) ?_ ?_
  ·rcases bcases ((((((rv_19.2 != 4) || (rv_21.2 != 61)) || (rv_24.2 != 62)) || (rv_26.2.2 != 4)) || (rv_29.2 != 62)) || (rv_31.2.2 != 61)) with hbv_15 | hbv_15
   ·skip
    refine guard_off hF rfl rfl hbv_15 rfl fun a hF => guard_off hF rfl rfl hbv_15 rfl fun a hF => step hF (Y.pick_t hF rfl hbv_15 rfl) rfl fun a hF => nil (then_n ⟨hF.weak ⟨rfl, rfl, rfl, rfl, rfl, rfl, rfl, rfl, rfl, rfl, (by rw [hbv_15]; rfl), trivial⟩, hS.weak ⟨rfl, rfl, rfl, rfl, trivial⟩⟩)
   refine guard_on hF rfl rfl hbv_15 (step hF (Y.move hF rfl) rfl fun a hF => guard_on hF rfl rfl hbv_15 (step hF (Y.neq hF rfl rfl) rfl fun a hF => step hF (Y.pick_f hF rfl hbv_15 rfl) rfl fun a hF => nil (then_n ⟨hF.weak ⟨rfl, rfl, rfl, rfl, rfl, rfl, rfl, rfl, rfl, rfl, (by rw [hbv_15]; rfl), trivial⟩, hS.weak ⟨rfl, rfl, rfl, rfl, trivial⟩⟩)))
  intro a w hF hS
  refine step hF (Y.move hF rfl) rfl fun a hF => join (N := 473) (rs := []) (w0 := w0) (D0 := D0) 3 (us := [(0, .bool v0_0), (20, .int .i64 rv_19.2), (22, .int .i64 rv_21.2), (24, .int .i64 rv_24.2), (27, .int .i64 rv_26.2.2), (29, .int .i64 rv_29.2), (32, .int .i64 rv_31.2.2), (34, .int .i64 rv_34.2), (35, .pointer (some ⟨b_17, 0, none⟩)), (37, .int .i64 rv_37.2), (284, .bool ((((((((rv_19.2 != 4) || (rv_21.2 != 61)) || (rv_24.2 != 62)) || (rv_26.2.2 != 4)) || (rv_29.2 != 62)) || (rv_31.2.2 != 61)) || (rv_34.2 != 62)) || (rv_37.2 != 4)))]) (ms := [(23, .cells b_15 [.int .i64 rv_21.1.Low, .int .i64 rv_21.1.High] 40), (34, .cells b_16 [.int .i64 rv_34.1.Low, .int .i64 rv_34.1.High] 40), (38, .cells b_17 [.int .i64 rv_36.Exchanges, .slice p_59 rv_36.Lines.length c_59, .int .i64 rv_36.Hops, .slice p_60 rv_36.Loops.length c_60] 25), (39, .cells b_18 [.int .i64 rv_37.1.Low, .int .i64 rv_37.1.High] 40)]) (D' := Dv_60) ?_ ?_
  ·rcases bcases (((((((rv_19.2 != 4) || (rv_21.2 != 61)) || (rv_24.2 != 62)) || (rv_26.2.2 != 4)) || (rv_29.2 != 62)) || (rv_31.2.2 != 61)) || (rv_34.2 != 62)) with hbv_16 | hbv_16
   ·skip
    refine guard_off hF rfl rfl hbv_16 rfl fun a hF => guard_off hF rfl rfl hbv_16 rfl fun a hF => step hF (Y.pick_t hF rfl hbv_16 rfl) rfl fun a hF => nil (then_n ⟨hF.weak ⟨rfl, rfl, rfl, rfl, rfl, rfl, rfl, rfl, rfl, rfl, (by rw [hbv_16]; rfl), trivial⟩, hS.weak ⟨rfl, rfl, rfl, rfl, trivial⟩⟩)
   refine guard_on hF rfl rfl hbv_16 (step hF (Y.move hF rfl) rfl fun a hF => guard_on hF rfl rfl hbv_16 (step hF (Y.neq hF rfl rfl) rfl fun a hF => step hF (Y.pick_f hF rfl hbv_16 rfl) rfl fun a hF => nil (then_n ⟨hF.weak ⟨rfl, rfl, rfl, rfl, rfl, rfl, rfl, rfl, rfl, rfl, (by rw [hbv_16]; rfl), trivial⟩, hS.weak ⟨rfl, rfl, rfl, rfl, trivial⟩⟩)))
  intro a w hF hS
  refine nil (then_n (cond_b hF rfl (fun hbv_17 => ?_) (fun hbv_17 => ?_)))
  ·replace h := cond_t h hbv_17
   refine seq (region (step hF (Y.assign hF rfl) rfl fun a hF => nil (then_n (ret_ (then_r ?_)))))
   obtain rfl := some_inj h
   exact leaveP Tryd.results14 hF hS (.cons (.tmp rfl) .nil) .nil rfl
  as_aux_lemma =>
   replace h := cond_f h hbv_17
   refine skip_ (then_n (seq (region ?_)))
   obtain ⟨rv_38, hx_45, h⟩ := bind_some h
   refine O.callM (us := [.slice none 0 0]) ca_56 hF (remontoirlaw06_net_keep hS.stab ([] : List LineLoop) SRc.nil rv_38 hx_45) rfl rfl fun v_26 Dv_61 a w hK_16 hlev_61 hF => ?_
   replace hG := hG.mono hlev_61
   replace hs_92 := hs_92.mono hlev_61
   replace hs_93 := hs_93.mono hlev_61
   obtain ⟨p_61, c_61, cs_37, p_62, c_62, cs_38, hS2_16, rfl, hr_39, hr_40⟩ := hK_16
   replace hS := hS.join hS2_16
   replace hS := hS.move 40 900 rfl (by decide)
   replace hS := hS.move 41 901 rfl (by decide)
   replace hS := hS.weak (ms := [(23, .cells b_15 [.int .i64 rv_21.1.Low, .int .i64 rv_21.1.High] 40), (34, .cells b_16 [.int .i64 rv_34.1.Low, .int .i64 rv_34.1.High] 40), (38, .cells b_17 [.int .i64 rv_36.Exchanges, .slice p_59 rv_36.Lines.length c_59, .int .i64 rv_36.Hops, .slice p_60 rv_36.Loops.length c_60] 25), (39, .cells b_18 [.int .i64 rv_37.1.Low, .int .i64 rv_37.1.High] 40), (40, .own p_61 rv_38.Lines.length c_61 cs_37 68 4), (41, .own p_62 rv_38.Loops.length c_62 cs_38 71 3)]) ⟨rfl, rfl, rfl, rfl, rfl, rfl, trivial⟩
   obtain ⟨Dv_62, hlev_62, hs_96, hS⟩ := hS.freezeC (C := C_LineLine) (i := 40) (xs := rv_38.Lines) rfl hr_39
   replace hG := hG.mono hlev_62
   replace hs_92 := hs_92.mono hlev_62
   replace hs_93 := hs_93.mono hlev_62
   replace hr_40 := hr_40.mono hlev_62
   obtain ⟨Dv_63, hlev_63, hs_97, hS⟩ := hS.freezeC (C := C_LineLoop) (i := 41) (xs := rv_38.Loops) rfl hr_40
   replace hG := hG.mono hlev_63
   replace hs_92 := hs_92.mono hlev_63
   replace hs_93 := hs_93.mono hlev_63
   replace hs_96 := hs_96.mono hlev_63
   obtain ⟨rv_39, hx_46, h⟩ := bind_some h
   refine O.callS (us := [.agg #[.int .i64 rv_38.Exchanges, .slice p_61 rv_38.Lines.length c_61, .int .i64 rv_38.Hops, .slice p_62 rv_38.Loops.length c_62], .int .i64 0]) ca_15 hF hS (line_Routes_ok hS.stab rv_38 0 hs_96 hs_97 hG rv_39 hx_46) rfl rfl fun v_27 Dv_64 a w hR_10 hlev_64 hF hS => ?_
   replace hG := hG.mono hlev_64
   replace hs_92 := hs_92.mono hlev_64
   replace hs_93 := hs_93.mono hlev_64
   obtain ⟨p_63, c_63, rfl, hs_98⟩ := hR_10
   refine step hF (Y.move hF rfl) rfl fun a hF => step hF (Y.extract hF rfl rfl) rfl fun a hF => step hF (Y.extract hF rfl rfl) rfl fun a hF => step hF (Y.assign hF rfl) rfl fun a hF => step hF (Y.assign hF rfl) rfl fun a hF => nil (then_n (seq (region ?_)))
   obtain ⟨rv_40, hx_47, h⟩ := bind_some h
   refine O.callM (us := [.slice none 0 0]) ca_56 hF (remontoirlaw06_net_keep hS.stab ([] : List LineLoop) SRc.nil rv_40 hx_47) rfl rfl fun v_28 Dv_65 a w hK_17 hlev_65 hF => ?_
   replace hG := hG.mono hlev_65
   replace hs_92 := hs_92.mono hlev_65
   replace hs_93 := hs_93.mono hlev_65
   replace hs_98 := hs_98.mono hlev_65
   obtain ⟨p_64, c_64, cs_39, p_65, c_65, cs_40, hS2_17, rfl, hr_41, hr_42⟩ := hK_17
   replace hS := hS.join hS2_17
   replace hS := hS.move 42 900 rfl (by decide)
   replace hS := hS.move 43 901 rfl (by decide)
   replace hS := hS.weak (ms := [(23, .cells b_15 [.int .i64 rv_21.1.Low, .int .i64 rv_21.1.High] 40), (34, .cells b_16 [.int .i64 rv_34.1.Low, .int .i64 rv_34.1.High] 40), (38, .cells b_17 [.int .i64 rv_36.Exchanges, .slice p_59 rv_36.Lines.length c_59, .int .i64 rv_36.Hops, .slice p_60 rv_36.Loops.length c_60] 25), (39, .cells b_18 [.int .i64 rv_37.1.Low, .int .i64 rv_37.1.High] 40), (42, .own p_64 rv_40.Lines.length c_64 cs_39 68 4), (43, .own p_65 rv_40.Loops.length c_65 cs_40 71 3)]) ⟨rfl, rfl, rfl, rfl, rfl, rfl, trivial⟩
   obtain ⟨Dv_66, hlev_66, hs_101, hS⟩ := hS.freezeC (C := C_LineLine) (i := 42) (xs := rv_40.Lines) rfl hr_41
   replace hG := hG.mono hlev_66
   replace hs_92 := hs_92.mono hlev_66
   replace hs_93 := hs_93.mono hlev_66
   replace hs_98 := hs_98.mono hlev_66
   replace hr_42 := hr_42.mono hlev_66
   obtain ⟨Dv_67, hlev_67, hs_102, hS⟩ := hS.freezeC (C := C_LineLoop) (i := 43) (xs := rv_40.Loops) rfl hr_42
   replace hG := hG.mono hlev_67
   replace hs_92 := hs_92.mono hlev_67
   replace hs_93 := hs_93.mono hlev_67
   replace hs_98 := hs_98.mono hlev_67
   replace hs_101 := hs_101.mono hlev_67
   obtain ⟨rv_41, hx_48, h⟩ := bind_some h
   refine O.callP (us := [.agg #[.int .i64 rv_40.Exchanges, .slice p_64 rv_40.Lines.length c_64, .int .i64 rv_40.Hops, .slice p_65 rv_40.Loops.length c_65], .int .i64 0]) ca_24 hF hS (line_Delay_ok hS.stab rv_40 0 hs_101 hs_102 hG rv_41 hx_48) rfl rfl fun a w hF hS => step hF (Y.move hF rfl) rfl fun a hF => step hF (Y.extract hF rfl rfl) rfl fun a hF => step hF (Y.extract hF rfl rfl) rfl fun a hF => O.alloc 44 zc_40 hF hS rfl fun b_19 a w hF hS => O.store (us := [.int .i64 rv_41.1.Low, .int .i64 rv_41.1.High]) 44 sz_40 hF rfl rfl rfl rfl hS rfl rfl fun a w hF hS => step hF (Y.assign hF rfl) rfl fun a hF => nil (then_n (seq (region ?_)))
   obtain ⟨rv_42, hx_49, h⟩ := bind_some h
   refine O.callS (us := []) ca_57 hF hS (remontoirlaw06_torn_ok hS.stab rv_42 hx_49) rfl rfl fun v_29 Dv_68 a w hR_11 hlev_68 hF hS => ?_
   replace hG := hG.mono hlev_68
   replace hs_92 := hs_92.mono hlev_68
   replace hs_93 := hs_93.mono hlev_68
   replace hs_98 := hs_98.mono hlev_68
   obtain ⟨p_66, c_66, rfl, hs_103⟩ := hR_11
   obtain ⟨rv_43, hx_50, h⟩ := bind_some h
   refine O.callM (us := [.slice p_66 rv_42.length c_66]) ca_56 hF (remontoirlaw06_net_keep hS.stab rv_42 hs_103 rv_43 hx_50) rfl rfl fun v_30 Dv_69 a w hK_18 hlev_69 hF => ?_
   replace hG := hG.mono hlev_69
   replace hs_92 := hs_92.mono hlev_69
   replace hs_93 := hs_93.mono hlev_69
   replace hs_98 := hs_98.mono hlev_69
   obtain ⟨p_67, c_67, cs_41, p_68, c_68, cs_42, hS2_18, rfl, hr_43, hr_44⟩ := hK_18
   replace hS := hS.join hS2_18
   replace hS := hS.move 45 900 rfl (by decide)
   replace hS := hS.move 46 901 rfl (by decide)
   replace hS := hS.weak (ms := [(23, .cells b_15 [.int .i64 rv_21.1.Low, .int .i64 rv_21.1.High] 40), (34, .cells b_16 [.int .i64 rv_34.1.Low, .int .i64 rv_34.1.High] 40), (38, .cells b_17 [.int .i64 rv_36.Exchanges, .slice p_59 rv_36.Lines.length c_59, .int .i64 rv_36.Hops, .slice p_60 rv_36.Loops.length c_60] 25), (39, .cells b_18 [.int .i64 rv_37.1.Low, .int .i64 rv_37.1.High] 40), (44, .cells b_19 [.int .i64 rv_41.1.Low, .int .i64 rv_41.1.High] 40), (45, .own p_67 rv_43.Lines.length c_67 cs_41 68 4), (46, .own p_68 rv_43.Loops.length c_68 cs_42 71 3)]) ⟨rfl, rfl, rfl, rfl, rfl, rfl, rfl, trivial⟩
   obtain ⟨Dv_70, hlev_70, hs_106, hS⟩ := hS.freezeC (C := C_LineLine) (i := 45) (xs := rv_43.Lines) rfl hr_43
   replace hG := hG.mono hlev_70
   replace hs_92 := hs_92.mono hlev_70
   replace hs_93 := hs_93.mono hlev_70
   replace hs_98 := hs_98.mono hlev_70
   replace hr_44 := hr_44.mono hlev_70
   obtain ⟨Dv_71, hlev_71, hs_107, hS⟩ := hS.freezeC (C := C_LineLoop) (i := 46) (xs := rv_43.Loops) rfl hr_44
   replace hG := hG.mono hlev_71
   replace hs_92 := hs_92.mono hlev_71
   replace hs_93 := hs_93.mono hlev_71
   replace hs_98 := hs_98.mono hlev_71
   replace hs_106 := hs_106.mono hlev_71
   obtain ⟨rv_44, hx_51, h⟩ := bind_some h
   refine O.callP (us := [.agg #[.int .i64 rv_43.Exchanges, .slice p_67 rv_43.Lines.length c_67, .int .i64 rv_43.Hops, .slice p_68 rv_43.Loops.length c_68], .int .i64 3]) ca_24 hF hS (line_Delay_ok hS.stab rv_43 3 hs_106 hs_107 hG rv_44 hx_51) rfl rfl fun a w hF hS => step hF (Y.move hF rfl) rfl fun a hF => step hF (Y.extract hF rfl rfl) rfl fun a hF => step hF (Y.extract hF rfl rfl) rfl fun a hF => O.alloc 47 zc_40 hF hS rfl fun b_20 a w hF hS => O.store (us := [.int .i64 rv_44.1.Low, .int .i64 rv_44.1.High]) 47 sz_40 hF rfl rfl rfl rfl hS rfl rfl fun a w hF hS => step hF (Y.assign hF rfl) rfl fun a hF => nil (then_n (seq (region ?_)))
   obtain ⟨rv_45, hx_52, h⟩ := bind_some h
   refine O.callM (us := [.slice none 0 0]) ca_56 hF (remontoirlaw06_net_keep hS.stab ([] : List LineLoop) SRc.nil rv_45 hx_52) rfl rfl fun v_31 Dv_72 a w hK_19 hlev_72 hF => ?_
   replace hG := hG.mono hlev_72
   replace hs_92 := hs_92.mono hlev_72
   replace hs_93 := hs_93.mono hlev_72
   replace hs_98 := hs_98.mono hlev_72
   obtain ⟨p_69, c_69, cs_43, p_70, c_70, cs_44, hS2_19, rfl, hr_45, hr_46⟩ := hK_19
   replace hS := hS.join hS2_19
   replace hS := hS.move 48 900 rfl (by decide)
   replace hS := hS.move 49 901 rfl (by decide)
   replace hS := hS.weak (ms := [(23, .cells b_15 [.int .i64 rv_21.1.Low, .int .i64 rv_21.1.High] 40), (34, .cells b_16 [.int .i64 rv_34.1.Low, .int .i64 rv_34.1.High] 40), (38, .cells b_17 [.int .i64 rv_36.Exchanges, .slice p_59 rv_36.Lines.length c_59, .int .i64 rv_36.Hops, .slice p_60 rv_36.Loops.length c_60] 25), (39, .cells b_18 [.int .i64 rv_37.1.Low, .int .i64 rv_37.1.High] 40), (44, .cells b_19 [.int .i64 rv_41.1.Low, .int .i64 rv_41.1.High] 40), (47, .cells b_20 [.int .i64 rv_44.1.Low, .int .i64 rv_44.1.High] 40), (48, .own p_69 rv_45.Lines.length c_69 cs_43 68 4), (49, .own p_70 rv_45.Loops.length c_70 cs_44 71 3)]) ⟨rfl, rfl, rfl, rfl, rfl, rfl, rfl, rfl, trivial⟩
   obtain ⟨Dv_73, hlev_73, hs_110, hS⟩ := hS.freezeC (C := C_LineLine) (i := 48) (xs := rv_45.Lines) rfl hr_45
   replace hG := hG.mono hlev_73
   replace hs_92 := hs_92.mono hlev_73
   replace hs_93 := hs_93.mono hlev_73
   replace hs_98 := hs_98.mono hlev_73
   replace hr_46 := hr_46.mono hlev_73
   obtain ⟨Dv_74, hlev_74, hs_111, hS⟩ := hS.freezeC (C := C_LineLoop) (i := 49) (xs := rv_45.Loops) rfl hr_46
   replace hG := hG.mono hlev_74
   replace hs_92 := hs_92.mono hlev_74
   replace hs_93 := hs_93.mono hlev_74
   replace hs_98 := hs_98.mono hlev_74
   replace hs_110 := hs_110.mono hlev_74
   obtain ⟨rv_46, hx_53, h⟩ := bind_some h
   refine O.callP (us := [.agg #[.int .i64 rv_45.Exchanges, .slice p_69 rv_45.Lines.length c_69, .int .i64 rv_45.Hops, .slice p_70 rv_45.Loops.length c_70], .int .i64 2, .int .i64 19]) ca_26 hF hS (line_Can_ok hS.stab rv_45 2 19 hs_110 hs_111 hG rv_46 hx_53) rfl rfl fun a w hF hS => step hF (Y.move hF rfl) rfl fun a hF => step hF (Y.extract hF rfl rfl) rfl fun a hF => step hF (Y.extract hF rfl rfl) rfl fun a hF => step hF (Y.assign hF rfl) rfl fun a hF => step hF (Y.assign hF rfl) rfl fun a hF => nil (then_n (seq (region ?_)))
   obtain ⟨rv_47, hx_54, h⟩ := bind_some h
   refine O.callM (us := [.slice none 0 0]) ca_56 hF (remontoirlaw06_net_keep hS.stab ([] : List LineLoop) SRc.nil rv_47 hx_54) rfl rfl fun v_32 Dv_75 a w hK_20 hlev_75 hF => ?_
   replace hG := hG.mono hlev_75
   replace hs_92 := hs_92.mono hlev_75
   replace hs_93 := hs_93.mono hlev_75
   replace hs_98 := hs_98.mono hlev_75
   obtain ⟨p_71, c_71, cs_45, p_72, c_72, cs_46, hS2_20, rfl, hr_47, hr_48⟩ := hK_20
   replace hS := hS.join hS2_20
   replace hS := hS.move 50 900 rfl (by decide)
   replace hS := hS.move 51 901 rfl (by decide)
   replace hS := hS.weak (ms := [(23, .cells b_15 [.int .i64 rv_21.1.Low, .int .i64 rv_21.1.High] 40), (34, .cells b_16 [.int .i64 rv_34.1.Low, .int .i64 rv_34.1.High] 40), (38, .cells b_17 [.int .i64 rv_36.Exchanges, .slice p_59 rv_36.Lines.length c_59, .int .i64 rv_36.Hops, .slice p_60 rv_36.Loops.length c_60] 25), (39, .cells b_18 [.int .i64 rv_37.1.Low, .int .i64 rv_37.1.High] 40), (44, .cells b_19 [.int .i64 rv_41.1.Low, .int .i64 rv_41.1.High] 40), (47, .cells b_20 [.int .i64 rv_44.1.Low, .int .i64 rv_44.1.High] 40), (50, .own p_71 rv_47.Lines.length c_71 cs_45 68 4), (51, .own p_72 rv_47.Loops.length c_72 cs_46 71 3)]) ⟨rfl, rfl, rfl, rfl, rfl, rfl, rfl, rfl, trivial⟩
   obtain ⟨Dv_76, hlev_76, hs_114, hS⟩ := hS.freezeC (C := C_LineLine) (i := 50) (xs := rv_47.Lines) rfl hr_47
   replace hG := hG.mono hlev_76
   replace hs_92 := hs_92.mono hlev_76
   replace hs_93 := hs_93.mono hlev_76
   replace hs_98 := hs_98.mono hlev_76
   replace hr_48 := hr_48.mono hlev_76
   obtain ⟨Dv_77, hlev_77, hs_115, hS⟩ := hS.freezeC (C := C_LineLoop) (i := 51) (xs := rv_47.Loops) rfl hr_48
   replace hG := hG.mono hlev_77
   replace hs_92 := hs_92.mono hlev_77
   replace hs_93 := hs_93.mono hlev_77
   replace hs_98 := hs_98.mono hlev_77
   replace hs_114 := hs_114.mono hlev_77
   obtain ⟨rv_48, hx_55, h⟩ := bind_some h
   refine O.callP (us := [.agg #[.int .i64 rv_47.Exchanges, .slice p_71 rv_47.Lines.length c_71, .int .i64 rv_47.Hops, .slice p_72 rv_47.Loops.length c_72], .int .i64 1]) ca_28 hF hS (line_Correct_ok hS.stab rv_47 1 hs_114 hs_115 hG rv_48 hx_55) rfl rfl fun a w hF hS => step hF (Y.move hF rfl) rfl fun a hF => step hF (Y.extract hF rfl rfl) rfl fun a hF => step hF (Y.extract hF rfl rfl) rfl fun a hF => step hF (Y.extract hF rfl rfl) rfl fun a hF => step hF (Y.assign hF rfl) rfl fun a hF => step hF (Y.assign hF rfl) rfl fun a hF => step hF (Y.assign hF rfl) rfl fun a hF => nil (then_n (seq (region (step hF (Y.loadNL 38 sz_25 hF rfl hS rfl rfl rfl) rfl fun a hF => ?_))))
   obtain ⟨rv_49, hx_56, h⟩ := bind_some h
   refine O.callS (us := [.agg #[.int .i64 rv_36.Exchanges, .slice p_59 rv_36.Lines.length c_59, .int .i64 rv_36.Hops, .slice p_60 rv_36.Loops.length c_60]]) ca_32 hF hS (line_Wrong_ok hS.stab rv_36 hs_92 hs_93 hG rv_49 hx_56) rfl rfl fun v_33 Dv_78 a w hR_12 hlev_78 hF hS => ?_
   replace hG := hG.mono hlev_78
   replace hs_98 := hs_98.mono hlev_78
   obtain ⟨p_73, c_73, rfl, hs_116⟩ := hR_12
   refine step hF (Y.move hF rfl) rfl fun a hF => step hF (Y.extract hF rfl rfl) rfl fun a hF => step hF (Y.extract hF rfl rfl) rfl fun a hF => step hF (Y.assign hF rfl) rfl fun a hF => step hF (Y.assign hF rfl) rfl fun a hF => nil (then_n (seq (region ?_)))
   obtain ⟨rv_50, hx_57, h⟩ := bind_some h
   refine O.callM (us := [.slice none 0 0]) ca_56 hF (remontoirlaw06_net_keep hS.stab ([] : List LineLoop) SRc.nil rv_50 hx_57) rfl rfl fun v_34 Dv_79 a w hK_21 hlev_79 hF => ?_
   replace hG := hG.mono hlev_79
   replace hs_98 := hs_98.mono hlev_79
   replace hs_116 := hs_116.mono hlev_79
   obtain ⟨p_74, c_74, cs_47, p_75, c_75, cs_48, hS2_21, rfl, hr_49, hr_50⟩ := hK_21
   replace hS := hS.join hS2_21
   replace hS := hS.move 52 900 rfl (by decide)
   replace hS := hS.move 53 901 rfl (by decide)
   replace hS := hS.weak (ms := [(23, .cells b_15 [.int .i64 rv_21.1.Low, .int .i64 rv_21.1.High] 40), (34, .cells b_16 [.int .i64 rv_34.1.Low, .int .i64 rv_34.1.High] 40), (38, .cells b_17 [.int .i64 rv_36.Exchanges, .slice p_59 rv_36.Lines.length c_59, .int .i64 rv_36.Hops, .slice p_60 rv_36.Loops.length c_60] 25), (39, .cells b_18 [.int .i64 rv_37.1.Low, .int .i64 rv_37.1.High] 40), (44, .cells b_19 [.int .i64 rv_41.1.Low, .int .i64 rv_41.1.High] 40), (47, .cells b_20 [.int .i64 rv_44.1.Low, .int .i64 rv_44.1.High] 40), (52, .own p_74 rv_50.Lines.length c_74 cs_47 68 4), (53, .own p_75 rv_50.Loops.length c_75 cs_48 71 3)]) ⟨rfl, rfl, rfl, rfl, rfl, rfl, rfl, rfl, trivial⟩
   obtain ⟨Dv_80, hlev_80, hs_119, hS⟩ := hS.freezeC (C := C_LineLine) (i := 52) (xs := rv_50.Lines) rfl hr_49
   replace hG := hG.mono hlev_80
   replace hs_98 := hs_98.mono hlev_80
   replace hs_116 := hs_116.mono hlev_80
   replace hr_50 := hr_50.mono hlev_80
   obtain ⟨Dv_81, hlev_81, hs_120, hS⟩ := hS.freezeC (C := C_LineLoop) (i := 53) (xs := rv_50.Loops) rfl hr_50
   replace hG := hG.mono hlev_81
   replace hs_98 := hs_98.mono hlev_81
   replace hs_116 := hs_116.mono hlev_81
   replace hs_119 := hs_119.mono hlev_81
   obtain ⟨rv_51, hx_58, h⟩ := bind_some h
   refine O.callS (us := [.agg #[.int .i64 rv_50.Exchanges, .slice p_74 rv_50.Lines.length c_74, .int .i64 rv_50.Hops, .slice p_75 rv_50.Loops.length c_75]]) ca_32 hF hS (line_Wrong_ok hS.stab rv_50 hs_119 hs_120 hG rv_51 hx_58) rfl rfl fun v_35 Dv_82 a w hR_13 hlev_82 hF hS => ?_
   replace hG := hG.mono hlev_82
   replace hs_98 := hs_98.mono hlev_82
   replace hs_116 := hs_116.mono hlev_82
   obtain ⟨p_76, c_76, rfl, hs_121⟩ := hR_13
   refine step hF (Y.move hF rfl) rfl fun a hF => step hF (Y.extract hF rfl rfl) rfl fun a hF => step hF (Y.extract hF rfl rfl) rfl fun a hF => step hF (Y.assign hF rfl) rfl fun a hF => step hF (Y.assign hF rfl) rfl fun a hF => nil (then_n (seq (region ?_)))
   obtain ⟨rv_52, hx_59, h⟩ := bind_some h
   refine O.callM (us := [.slice none 0 0]) ca_56 hF (remontoirlaw06_net_keep hS.stab ([] : List LineLoop) SRc.nil rv_52 hx_59) rfl rfl fun v_36 Dv_83 a w hK_22 hlev_83 hF => ?_
   replace hG := hG.mono hlev_83
   replace hs_98 := hs_98.mono hlev_83
   replace hs_116 := hs_116.mono hlev_83
   obtain ⟨p_77, c_77, cs_49, p_78, c_78, cs_50, hS2_22, rfl, hr_51, hr_52⟩ := hK_22
   replace hS := hS.join hS2_22
   replace hS := hS.move 54 900 rfl (by decide)
   replace hS := hS.move 55 901 rfl (by decide)
   replace hS := hS.weak (ms := [(23, .cells b_15 [.int .i64 rv_21.1.Low, .int .i64 rv_21.1.High] 40), (34, .cells b_16 [.int .i64 rv_34.1.Low, .int .i64 rv_34.1.High] 40), (38, .cells b_17 [.int .i64 rv_36.Exchanges, .slice p_59 rv_36.Lines.length c_59, .int .i64 rv_36.Hops, .slice p_60 rv_36.Loops.length c_60] 25), (39, .cells b_18 [.int .i64 rv_37.1.Low, .int .i64 rv_37.1.High] 40), (44, .cells b_19 [.int .i64 rv_41.1.Low, .int .i64 rv_41.1.High] 40), (47, .cells b_20 [.int .i64 rv_44.1.Low, .int .i64 rv_44.1.High] 40), (54, .own p_77 rv_52.Lines.length c_77 cs_49 68 4), (55, .own p_78 rv_52.Loops.length c_78 cs_50 71 3)]) ⟨rfl, rfl, rfl, rfl, rfl, rfl, rfl, rfl, trivial⟩
   obtain ⟨Dv_84, hlev_84, hs_124, hS⟩ := hS.freezeC (C := C_LineLine) (i := 54) (xs := rv_52.Lines) rfl hr_51
   replace hG := hG.mono hlev_84
   replace hs_98 := hs_98.mono hlev_84
   replace hs_116 := hs_116.mono hlev_84
   replace hr_52 := hr_52.mono hlev_84
   obtain ⟨Dv_85, hlev_85, hs_125, hS⟩ := hS.freezeC (C := C_LineLoop) (i := 55) (xs := rv_52.Loops) rfl hr_52
   replace hG := hG.mono hlev_85
   replace hs_98 := hs_98.mono hlev_85
   replace hs_116 := hs_116.mono hlev_85
   replace hs_124 := hs_124.mono hlev_85
   obtain ⟨rv_53, hx_60, h⟩ := bind_some h
   refine O.callS (us := [.agg #[.int .i64 rv_52.Exchanges, .slice p_77 rv_52.Lines.length c_77, .int .i64 rv_52.Hops, .slice p_78 rv_52.Loops.length c_78], .int .i64 1]) ca_15 hF hS (line_Routes_ok hS.stab rv_52 1 hs_124 hs_125 hG rv_53 hx_60) rfl rfl fun v_37 Dv_86 a w hR_14 hlev_86 hF hS => ?_
   replace hG := hG.mono hlev_86
   replace hs_98 := hs_98.mono hlev_86
   replace hs_116 := hs_116.mono hlev_86
   obtain ⟨p_79, c_79, rfl, hs_126⟩ := hR_14
   refine step hF (Y.move hF rfl) rfl fun a hF => step hF (Y.extract hF rfl rfl) rfl fun a hF => step hF (Y.extract hF rfl rfl) rfl fun a hF => step hF (Y.assign hF rfl) rfl fun a hF => step hF (Y.assign hF rfl) rfl fun a hF => nil (then_n (seq (region ?_)))
   obtain ⟨rv_54, hx_61, h⟩ := bind_some h
   refine O.callM (us := [.slice none 0 0]) ca_56 hF (remontoirlaw06_net_keep hS.stab ([] : List LineLoop) SRc.nil rv_54 hx_61) rfl rfl fun v_38 Dv_87 a w hK_23 hlev_87 hF => ?_
   replace hG := hG.mono hlev_87
   replace hs_98 := hs_98.mono hlev_87
   replace hs_116 := hs_116.mono hlev_87
   replace hs_126 := hs_126.mono hlev_87
   obtain ⟨p_80, c_80, cs_51, p_81, c_81, cs_52, hS2_23, rfl, hr_53, hr_54⟩ := hK_23
   replace hS := hS.join hS2_23
   replace hS := hS.move 56 900 rfl (by decide)
   replace hS := hS.move 57 901 rfl (by decide)
   replace hS := hS.weak (ms := [(23, .cells b_15 [.int .i64 rv_21.1.Low, .int .i64 rv_21.1.High] 40), (34, .cells b_16 [.int .i64 rv_34.1.Low, .int .i64 rv_34.1.High] 40), (38, .cells b_17 [.int .i64 rv_36.Exchanges, .slice p_59 rv_36.Lines.length c_59, .int .i64 rv_36.Hops, .slice p_60 rv_36.Loops.length c_60] 25), (39, .cells b_18 [.int .i64 rv_37.1.Low, .int .i64 rv_37.1.High] 40), (44, .cells b_19 [.int .i64 rv_41.1.Low, .int .i64 rv_41.1.High] 40), (47, .cells b_20 [.int .i64 rv_44.1.Low, .int .i64 rv_44.1.High] 40), (56, .own p_80 rv_54.Lines.length c_80 cs_51 68 4), (57, .own p_81 rv_54.Loops.length c_81 cs_52 71 3)]) ⟨rfl, rfl, rfl, rfl, rfl, rfl, rfl, rfl, trivial⟩
   obtain ⟨Dv_88, hlev_88, hs_129, hS⟩ := hS.freezeC (C := C_LineLine) (i := 56) (xs := rv_54.Lines) rfl hr_53
   replace hG := hG.mono hlev_88
   replace hs_98 := hs_98.mono hlev_88
   replace hs_116 := hs_116.mono hlev_88
   replace hs_126 := hs_126.mono hlev_88
   replace hr_54 := hr_54.mono hlev_88
   obtain ⟨Dv_89, hlev_89, hs_130, hS⟩ := hS.freezeC (C := C_LineLoop) (i := 57) (xs := rv_54.Loops) rfl hr_54
   replace hG := hG.mono hlev_89
   replace hs_98 := hs_98.mono hlev_89
   replace hs_116 := hs_116.mono hlev_89
   replace hs_126 := hs_126.mono hlev_89
   replace hs_129 := hs_129.mono hlev_89
   obtain ⟨rv_55, hx_62, h⟩ := bind_some h
   refine O.callS (us := [.agg #[.int .i64 rv_54.Exchanges, .slice p_80 rv_54.Lines.length c_80, .int .i64 rv_54.Hops, .slice p_81 rv_54.Loops.length c_81], .int .i64 3]) ca_30 hF hS (line_Cut_ok hS.stab rv_54 3 hs_129 hs_130 hG rv_55 hx_62) rfl rfl fun v_39 Dv_90 a w hR_15 hlev_90 hF hS => ?_
   replace hG := hG.mono hlev_90
   replace hs_98 := hs_98.mono hlev_90
   replace hs_116 := hs_116.mono hlev_90
   replace hs_126 := hs_126.mono hlev_90
   obtain ⟨p_82, c_82, p_83, c_83, rfl, hs_131, hs_132⟩ := hR_15
   refine step hF (Y.move hF rfl) rfl fun a hF => step hF (Y.extract hF rfl rfl) rfl fun a hF => step hF (Y.extract hF rfl rfl) rfl fun a hF => step hF (Y.extract hF rfl rfl) rfl fun a hF => step hF (Y.assign hF rfl) rfl fun a hF => step hF (Y.assign hF rfl) rfl fun a hF => step hF (Y.assign hF rfl) rfl fun a hF => nil (then_n (seq (region ?_)))
   obtain ⟨rv_56, hx_63, h⟩ := bind_some h
   refine O.callM (us := [.slice none 0 0]) ca_56 hF (remontoirlaw06_net_keep hS.stab ([] : List LineLoop) SRc.nil rv_56 hx_63) rfl rfl fun v_40 Dv_91 a w hK_24 hlev_91 hF => ?_
   replace hG := hG.mono hlev_91
   replace hs_98 := hs_98.mono hlev_91
   replace hs_116 := hs_116.mono hlev_91
   replace hs_126 := hs_126.mono hlev_91
   replace hs_131 := hs_131.mono hlev_91
   obtain ⟨p_84, c_84, cs_53, p_85, c_85, cs_54, hS2_24, rfl, hr_55, hr_56⟩ := hK_24
   replace hS := hS.join hS2_24
   replace hS := hS.move 58 900 rfl (by decide)
   replace hS := hS.move 59 901 rfl (by decide)
   replace hS := hS.weak (ms := [(23, .cells b_15 [.int .i64 rv_21.1.Low, .int .i64 rv_21.1.High] 40), (34, .cells b_16 [.int .i64 rv_34.1.Low, .int .i64 rv_34.1.High] 40), (38, .cells b_17 [.int .i64 rv_36.Exchanges, .slice p_59 rv_36.Lines.length c_59, .int .i64 rv_36.Hops, .slice p_60 rv_36.Loops.length c_60] 25), (39, .cells b_18 [.int .i64 rv_37.1.Low, .int .i64 rv_37.1.High] 40), (44, .cells b_19 [.int .i64 rv_41.1.Low, .int .i64 rv_41.1.High] 40), (47, .cells b_20 [.int .i64 rv_44.1.Low, .int .i64 rv_44.1.High] 40), (58, .own p_84 rv_56.Lines.length c_84 cs_53 68 4), (59, .own p_85 rv_56.Loops.length c_85 cs_54 71 3)]) ⟨rfl, rfl, rfl, rfl, rfl, rfl, rfl, rfl, trivial⟩
   refine O.alloc 60 zc_25 hF hS rfl fun b_21 a w hF hS => O.store (us := [.int .i64 rv_56.Exchanges, .slice p_84 rv_56.Lines.length c_84, .int .i64 rv_56.Hops, .slice p_85 rv_56.Loops.length c_85]) 60 sz_25 hF rfl rfl rfl rfl hS rfl rfl fun a w hF hS => nil (then_n (seq (region (step hF (Y.fieldAddr fo_25_2 hF rfl) rfl fun a hF => O.store (us := [.int .i64 1]) 60 sz_3 hF rfl rfl rfl rfl hS rfl rfl fun a w hF hS => nil (then_n (seq (region (step hF (Y.loadNL 60 sz_25 hF rfl hS rfl rfl rfl) rfl fun a hF => ?_))))))))
   obtain ⟨Dv_92, hlev_92, hs_135, hS⟩ := hS.freezeC (C := C_LineLine) (i := 58) (xs := rv_56.Lines) rfl hr_55
   replace hG := hG.mono hlev_92
   replace hs_98 := hs_98.mono hlev_92
   replace hs_116 := hs_116.mono hlev_92
   replace hs_126 := hs_126.mono hlev_92
   replace hs_131 := hs_131.mono hlev_92
   replace hr_56 := hr_56.mono hlev_92
   obtain ⟨Dv_93, hlev_93, hs_136, hS⟩ := hS.freezeC (C := C_LineLoop) (i := 59) (xs := rv_56.Loops) rfl hr_56
   replace hG := hG.mono hlev_93
   replace hs_98 := hs_98.mono hlev_93
   replace hs_116 := hs_116.mono hlev_93
   replace hs_126 := hs_126.mono hlev_93
   replace hs_131 := hs_131.mono hlev_93
   replace hs_135 := hs_135.mono hlev_93
   obtain ⟨rv_57, hx_64, h⟩ := bind_some h
   refine O.callS (us := [.agg #[.int .i64 rv_56.Exchanges, .slice p_84 rv_56.Lines.length c_84, .int .i64 1, .slice p_85 rv_56.Loops.length c_85], .int .i64 2]) ca_15 hF hS (line_Routes_ok hS.stab (LineNet.mk rv_56.Exchanges rv_56.Lines 1 rv_56.Loops) 2 hs_135 hs_136 hG rv_57 hx_64) rfl rfl fun v_41 Dv_94 a w hR_16 hlev_94 hF hS => ?_
   replace hG := hG.mono hlev_94
   replace hs_98 := hs_98.mono hlev_94
   replace hs_116 := hs_116.mono hlev_94
   replace hs_126 := hs_126.mono hlev_94
   replace hs_131 := hs_131.mono hlev_94
   replace hs_135 := hs_135.mono hlev_94
   replace hs_136 := hs_136.mono hlev_94
   obtain ⟨p_86, c_86, rfl, hs_137⟩ := hR_16
   refine step hF (Y.move hF rfl) rfl fun a hF => step hF (Y.extract hF rfl rfl) rfl fun a hF => step hF (Y.extract hF rfl rfl) rfl fun a hF => step hF (Y.assign hF rfl) rfl fun a hF => step hF (Y.assign hF rfl) rfl fun a hF => nil (then_n (seq (region (step hF (Y.loadNL 60 sz_25 hF rfl hS rfl rfl rfl) rfl fun a hF => ?_))))
   obtain ⟨rv_58, hx_65, h⟩ := bind_some h
   refine O.callS (us := [.agg #[.int .i64 rv_56.Exchanges, .slice p_84 rv_56.Lines.length c_84, .int .i64 1, .slice p_85 rv_56.Loops.length c_85], .int .i64 3]) ca_15 hF hS (line_Routes_ok hS.stab (LineNet.mk rv_56.Exchanges rv_56.Lines 1 rv_56.Loops) 3 hs_135 hs_136 hG rv_58 hx_65) rfl rfl fun v_42 Dv_95 a w hR_17 hlev_95 hF hS => ?_
   replace hG := hG.mono hlev_95
   replace hs_98 := hs_98.mono hlev_95
   replace hs_116 := hs_116.mono hlev_95
   replace hs_126 := hs_126.mono hlev_95
   replace hs_131 := hs_131.mono hlev_95
   replace hs_135 := hs_135.mono hlev_95
   replace hs_136 := hs_136.mono hlev_95
   replace hs_137 := hs_137.mono hlev_95
   obtain ⟨p_87, c_87, rfl, hs_138⟩ := hR_17
   refine step hF (Y.move hF rfl) rfl fun a hF => step hF (Y.extract hF rfl rfl) rfl fun a hF => step hF (Y.extract hF rfl rfl) rfl fun a hF => step hF (Y.assign hF rfl) rfl fun a hF => step hF (Y.assign hF rfl) rfl fun a hF => nil (then_n (seq_cut (fun a w => ∃ (y : (List Int)) (z : Int), ∃ (Dv_96 : Stab), ∃ p_88 c_88, Dv_95.le Dv_96 ∧ Frm 473 [] [(0, .bool v0_0), (20, .int .i64 rv_39.2), (22, .int .i64 rv_41.2), (24, .int .i64 rv_44.2), (27, .int .i64 rv_46.2), (29, .int .i64 rv_48.2.2), (32, .int .i64 rv_49.2), (34, .int .i64 rv_51.2), (37, .int .i64 rv_53.2), (38, .slice p_63 rv_39.1.length c_63), (39, .pointer (some ⟨b_19, 0, none⟩)), (40, .pointer (some ⟨b_20, 0, none⟩)), (41, .bool rv_46.1), (42, .int .i64 rv_48.1), (43, .int .i64 rv_48.2.1), (44, .slice p_73 rv_49.1.length c_73), (45, .slice p_76 rv_51.1.length c_76), (46, .slice p_79 rv_53.1.length c_79), (47, .slice p_82 rv_55.1.length c_82), (48, .slice p_83 rv_55.2.1.length c_83), (49, .int .i64 rv_55.2.2), (51, .slice p_86 rv_57.1.length c_86), (52, .int .i64 rv_57.2), (54, .int .i64 rv_58.2), (55, .slice p_88 y.length c_88), (56, .int .i64 z)] a ∧ St w0 D0 Dv_96 [(23, .cells b_15 [.int .i64 rv_21.1.Low, .int .i64 rv_21.1.High] 40), (34, .cells b_16 [.int .i64 rv_34.1.Low, .int .i64 rv_34.1.High] 40), (38, .cells b_17 [.int .i64 rv_36.Exchanges, .slice p_59 rv_36.Lines.length c_59, .int .i64 rv_36.Hops, .slice p_60 rv_36.Loops.length c_60] 25), (39, .cells b_18 [.int .i64 rv_37.1.Low, .int .i64 rv_37.1.High] 40), (44, .cells b_19 [.int .i64 rv_41.1.Low, .int .i64 rv_41.1.High] 40), (47, .cells b_20 [.int .i64 rv_44.1.Low, .int .i64 rv_44.1.High] 40), (60, .cells b_21 [.int .i64 rv_56.Exchanges, .slice p_84 rv_56.Lines.length c_84, .int .i64 1, .slice p_85 rv_56.Loops.length c_85] 25)] w ∧ SRc C_int Dv_96 y p_88 c_88 ∧ remontoirlaw06_LineKnown_k2 rv_39 rv_41 rv_44 rv_46 rv_48 rv_49 rv_51 rv_53 rv_55 rv_57 rv_58 y z = some out) ?_ ?_))
   ·skip
    refine region (step hF (Y.loadNL 60 sz_25 hF rfl hS rfl rfl rfl) rfl fun a hF => ?_)
    obtain ⟨rv_76, hx_85, h⟩ := bind_some h
    refine O.callS (us := [.agg #[.int .i64 rv_56.Exchanges, .slice p_84 rv_56.Lines.length c_84, .int .i64 1, .slice p_85 rv_56.Loops.length c_85]]) ca_32 hF hS (line_Wrong_ok hS.stab (LineNet.mk rv_56.Exchanges rv_56.Lines 1 rv_56.Loops) hs_135 hs_136 hG rv_76 hx_85) rfl rfl fun v_43 Dv_126 a w hR_18 hlev_126 hF hS => ?_
    obtain ⟨p_110, c_110, rfl, hs_161⟩ := hR_18
    refine step hF (Y.move hF rfl) rfl fun a hF => step hF (Y.extract hF rfl rfl) rfl fun a hF => step hF (Y.extract hF rfl rfl) rfl fun a hF => step hF (Y.assign hF rfl) rfl fun a hF => step hF (Y.assign hF rfl) rfl fun a hF => nil (then_n (⟨rv_76.1, rv_76.2, Dv_126, p_110, c_110, hlev_126, hF.weak ⟨rfl, rfl, rfl, rfl, rfl, rfl, rfl, rfl, rfl, rfl, rfl, rfl, rfl, rfl, rfl, rfl, rfl, rfl, rfl, rfl, rfl, rfl, rfl, rfl, rfl, rfl, trivial⟩, hS.weak ⟨rfl, rfl, rfl, rfl, rfl, rfl, rfl, trivial⟩, hs_161, h⟩))
   as_aux_lemma =>
    rintro a w ⟨y, z, Dv_96, p_88, c_88, hlev_96, hF, hS, hs_139, h⟩
    unfold remontoirlaw06_LineKnown_k2 at h
    replace hG := hG.mono hlev_96
    replace hs_98 := hs_98.mono hlev_96
    replace hs_116 := hs_116.mono hlev_96
    replace hs_126 := hs_126.mono hlev_96
    replace hs_131 := hs_131.mono hlev_96
    replace hs_137 := hs_137.mono hlev_96
    refine seq ?_
    refine drawsV 124 remontoirlaw06_LineKnown_tr3_0 mixed_ (drawOkF [(351, 1048576, 0), (352, 2293498615990071511610820895302086940796564989168281123737588839386922876088484808070018553110125686554624, 1), (353, 4586997231980143023221641790604173881593129978336562247475177678773845752176969616140037106220251373109248, 2), (354, 9173994463960286046443283581208347763186259956673124494950355357547691504353939232280074212440777624125440, 4), (355, 27521983391880858139329850743625043289558779870019373484851066072643074513061817696840222637321508238655488, 12), (356, 45869972319801430232216417906041738815931299783365622474751776787738457521769696161400371062202513731092480, 20), (357, 82565950175642574417989552230875129868676339610058120454553198217929223539185453090520667911964524715966464, 36), (358, 146783911423364576743092537299333564210980159306769991919205685720763064069663027716481187399048043939495936, 68), (359, 293567822846729153486185074598667128421960318613539983838411371441526128139326055432962374798096362756898816, 128), (360, 880703468540187460458555223796001385265880955840619951515234114324578384417978166298887124394288263636975616, 384), (361, 1467839114233645767430925372993335642109801593067699919192056857207630640696630277164811873990480439394959360, 640), (362, 2642110405620562381375665671388004155797642867521859854545702342973735153253934498896661373182864790910926848, 1152), (363, 4990652988394395609265146268177341183173325416430179725252993314505944178368542942360360371567633493942861824, 2176), (364, 9687738153942062065044107461756015237924690514246819466667575257570362228597759829287758368337170900006731776, 4224), (365, 18788340662190665823115844774314696219005460391266558965658327772257672200916867547709591987078149624255479808, 8320), (366, 37576681324381331646231689548629392438010920782533117931316655544515344401833735095419183974156299248515153920, 16384), (367, 112730043973143994938695068645888177314032762347599353793949966633546033205501205286257551922468897745532878848, 49152), (368, 187883406621906658231158447743146962190054603912665589656583277722576722009168675477095919870781496242554798080, 81920), (369, 300613450595050653169853516389035139504087366260264943450533244356122755214669880763353471793250393988087676928, 147456), (370, 601226901190101306339707032778070279008174732520529886901066488712245510429339761526706943586500788525931167744, 262144), (371, 601226901190101306339707032778070279008174732520529886901066488712245510429339761526706943586500787976175353856, 262144), (372, 4208588308330709144377949229446491953057223127643709208307465420985718573005378330686948605105505515833227476992, 1835008), (373, 5411042110710911757057363295002632511073572592684768982109598398410209593864057853740362492278507091785578184704, 2359296), (374, 9619630419041620901435312524449124464130795720328478190417063819395928166869436184427311097384012607618805661696, 5242880), (375, 19239260838083241802870625048898248928261591440656956380834127638791856333738872368854622194768025215237628100608, 8388608), (376, 57717782514249725408611875146694746784784774321970869142502382916375569001216617106563866584304075645712833970176, 25165824), (377, 96196304190416209014353125244491244641307957203284781904170638193959281668694361844273110973840126076188056616960, 41943040), (378, 153914086704665934422965000391185991426092731525255651046673021110334850669910978950836977558144201721900890587136, 75497472), (379, 307828173409331868845930000782371982852185463050511302093346042220669701339821957901673955116288403444901292802048, 134217728), (380, 307828173409331868845930000782371982852185463050511302093346042220669701339821957901673955116288403443801781174272, 134217728), (381, 2154797213865323081921510005476603879965298241353579114653422295544687909378753705311717685814018824106612468219904, 939524096), (382, 2770453560683986819613370007041347845669669167454601718840114379986027312058397621115065596046595630994216030568448, 1207959552), (383, 4925250774549309901534880012517951725634967408808180833493536675530715221437151326426783281860614455100828498788352, 2684354560), (384, 9850501549098619803069760025035903451269934817616361666987073351061430442874302652853566563721228910201657131794432, 4294967296), (385, 29551504647295859409209280075107710353809804452849085000961220053184291328622907958560699691163686730604970992730112, 12884901888), (386, 49252507745493099015348800125179517256349674088081808334935366755307152214371513264267832818606144551008284987883520, 21474836480), (387, 78804012392788958424558080200287227610159478540930893335896586808491443542994421222828532509769831281613255980613632, 38654705664), (388, 157608024785577916849116160400574455220318957081861786671793173616982887085988842445657065019539662563228710984482816, 68719476736), (389, 472824074356733750547348481201723365660956871245585360015379520850948661257966527336971195058618987689679535883681792, 206158430208), (390, 788040123927889584245580802002872276101594785409308933358965868084914435429944212228285325097698312816132559806136320, 343597383680), (391, 1260864198284623334792929283204595641762551656654894293374345388935863096687910739565256520156317300505812095689818112, 618475290624), (392, 2521728396569246669585858566409191283525103313309788586748690777871726193375821479130513040312634601011624191916507136, 1099511627776), (393, 7565185189707740008757575699227573850575309939929365760246072333615178580127464437391539120937903803034872574138908672, 3298534883328), (394, 12608641982846233347929292832045956417625516566548942933743453889358630966879107395652565201563173005058120956898181120, 5497558138880), (395, 20173827172553973356686868531273530268200826506478308693989526222973809547006571833044104322501076808092993531037089792, 9895604649984), (396, 40347654345107946713373737062547060536401653012956617387979052445947619094013143666088208645002153616185991460120690688, 17592186044416), (397, 121042963035323840140121211187641181609204959038869852163937157337842857282039430998264625935006460848557961186222538752, 52776558133248), (398, 201738271725539733566868685312735302682008265064783086939895262229738095470065718330441043225010768080929935310370897920, 87960930222080), (399, 322781234760863573706989896500376484291213224103652939103832419567580952752105149328705669160017228929487896496593436672, 158329674399744), (400, 645562469521727147413979793000752968582426448207305878207664839135161905504210298657411338320034457858975801789279895552, 281474976710656), (401, 1936687408565181442241939379002258905747279344621917634622994517405485716512630895972234014960103373576927378979560620032, 844424930131968), (402, 3227812347608635737069898965003764842912132241036529391038324195675809527521051493287056691600172289294878964965934366720, 1407374883553280), (403, 5164499756173817179311838344006023748659411585658447025661318713081295244033682389259290706560275662871806343945494986752, 2533274790395904), (404, 10328999512347634358623676688012047497318823171316894051322637426162590488067364778518581413120551325743612687895284940800, 4503599627370496), (405, 30986998537042903075871030064036142491956469513950682153967912278487771464202094335555744239361653977230838063672969920512, 13510798882111488), (406, 51644997561738171793118383440060237486594115856584470256613187130812952440336823892592907065602756628718063439454949867520, 22517998136852480), (407, 82631996098781074868989413504096379978550585370535152410581099409300723904538918228148651304964410605948901503127919788032, 40532396646334464), (408, 165263992197562149737978827008192759957101170741070304821162198818601447809077836456297302609928821211897803023848025620480, 72057594037927936), (409, 165263992197562149737978827008192759957101170741070304821162198818601447809077836456297302609928821211897803006255839576064, 72057594037927936), (410, 1156847945382935048165851789057349319699708195187492133748135391730210134663544855194081118269501748483284621043790877032448, 504403158265495552), (411, 1487375929778059347641809443073734839613910536669632743390459789367413030281700528106675723489359390907080227056302556184576, 648518346341351424), (412, 2644223875160994395807661232131084159313618731857124877138595181097623164945245383300756841758861139390364848100093433217024, 1729382256910270464), (413, 5288447750321988791615322464262168318627237463714249754277190362195246329890490766601513683517722278780729696200204046303232, 2305843009213693952), (414, 15865343250965966374845967392786504955881712391142749262831571086585738989671472299804541050553166836342189088600560599302144, 6917529027641081856), (415, 26442238751609943958076612321310841593136187318571248771385951810976231649452453833007568417588611393903648481000934332170240, 11529215046068469760), (416, 42307582002575910332922579714097346549017899709713998034217522897561970639123926132812109468141778230245837569601494931472384, 20752587082923245568), (417, 84615164005151820665845159428194693098035799419427996068435045795123941278247852265624218936283556460491675139238174235033600, 36893488147419103232), (418, 253845492015455461997535478284584079294107398258283988205305137385371823834743556796872656808850669381475025417608969588834304, 110680464442257309696), (419, 423075820025759103329225797140973465490178997097139980342175228975619706391239261328121094681417782302458375696014949314723840, 184467440737095516160), (420, 761536476046366385992606434853752237882322194774851964615915412156115471504230670390617970426552008144425076252826908766502912, 332041393326771929088), (421, 1353842624082429130653522550851115089568572790710847937094960732721983060451965636249987502980536903367866802227247837807116288, 627189298506124754944), (422, 2707685248164858261307045101702230179137145581421695874189921465443966120903931272499975005961073806735733604454495813053186048, 1180591620717411303424), (423, 8123055744494574783921135305106690537411436744265087622569764396331898362711793817499925017883221420207200813363487026842697728, 3541774862152233910272), (424, 13538426240824291306535225508511150895685727907108479370949607327219830604519656362499875029805369033678668022272478378071162880, 5902958103587056517120), (425, 21661481985318866090456360813617841433097164651373566993519371723551728967231450179999800047688590453885868835635965404913860608, 10625324586456701730816), (426, 43322963970637732180912721627235682866194329302747133987038743447103457934462900359999600095377180907771737671272001178571898880, 18889465931478580854784), (427, 43322963970637732180912721627235682866194329302747133987038743447103457934462900359999600095377180907771737671271930809827721216, 18889465931478580854784), (428, 43322963970637732180912721627235682866194329302747133987038743447103457934462900359999600095377180907771737671271930809827721216, 18889465931478580854784), (429, 563198531618290518351865381154063877260526280935712741831503664812344953148017704679994801239903351801032589726535100527760375808, 245563057109221551112192), (430, 823136315442116911437341710917477974457692256752195545753736125494965700754795106839992401812166437247663015754166685386726703104, 358899852698093036240896), (431, 1429657811031045161970119813698777534584412866990655421572278533754414111837275711879986803147446969956467343151973716724314800128, 623352375738793168207872), (432, 2772669694120814859578414184143083703436437075375816575170479580614621307805625623039974406104139578097391210961403571828974157824, 1813388729421943762059264), (433, 5545339388241629719156828368286167406872874150751633150340959161229242615611251246079948812208279156194782421922807706607901736960, 2417851639229258349412352), (434, 16636018164724889157470485104858502220618622452254899451022877483687727846833753738239846436624837468584347265768421430973844946944, 7253554917687775048237056), (435, 27726696941208148595784141841430837034364370753758165751704795806146213078056256230399744061041395780973912109614035718289741578240, 12089258196146291747061760), (436, 44362715105933037753254626946289339254982993206013065202727673289833940924890009968639590497666233249558259375382457149263586525184, 21760664753063325144711168), (437, 88725430211866075506509253892578678509965986412026130405455346579667881849780019937279180995332466499116518750764914439264661405696, 38685626227668133590597632), (438, 88725430211866075506509253892578678509965986412026130405455346579667881849780019937279180995332466499116518750764914298527173050368, 38685626227668133590597632), (439, 621078011483062528545564777248050749569761904884182912838187426057675172948460139560954266967327265493815631255354400089690211352576, 270799383593676935134183424), (440, 798528871906794679558583285033208106589693877708235173649098119217010936648020179435512628957992198492048668756884228686744557453312, 348170636049013202315378688), (441, 1419606883389857208104148062281258856159455782592418086487285545274686109596480318996466895925319463985864300012238628776434768805888, 928455029464035206174343168), (442, 2839213766779714416208296124562517712318911565184836172974571090549372219192960637992933791850638927971728600024477257834344514322432, 1237940039285380274899124224), (443, 8517641300339143248624888373687553136956734695554508518923713271648116657578881913978801375551916783915185800073431772658608612835328, 3713820117856140824697372672), (444, 14196068833898572081041480622812588561594557825924180864872855452746861095964803189964668959253194639858643000122386287764347688058880, 6189700196426901374495621120), (445, 25552923901017429745874665121062659410870204086663525556771139814944349972736645741936404126655750351745557400220295317975825838505984, 11141460353568422474092118016), (446, 45427420268475430659332737993000283397102585042957378767593137448789955507087370207886940669610222847547657600391636120845912601788416, 21044980667851464673285111808), (447, 90854840536950861318665475986000566794205170085914757535186274897579911014174740415773881339220445695095315200783272246195424830947328, 39614081257132168796771975168), (448, 272564521610852583955996427958001700382615510257744272605558824692739733042524221247321644017661337085285945602349816725075475610730496, 118842243771396506390315925504), (449, 454274202684754306593327379930002833971025850429573787675931374487899555070873702078869406696102228475476576003916361208459126017884160, 198070406285660843983859875840), (450, 726838724295606890549323807888004534353641360687318060281490199180639288113397923326191050713763565560762521606266177933534601628614656, 356526731314189519170947776512), (451, 1453677448591213781098647615776009068707282721374636120562980398361278576226795846652382101427527131121525043212532355869321003070914560, 633825300114114700748351602688), (452, 1453677448591213781098647615776009068707282721374636120562980398361278576226795846652382101427527131121525043212532355867069203257229312, 633825300114114700748351602688), (453, 7268387242956068905493238078880045343536413606873180602814901991806392881133979233261910507137635655607625216062661779335346016286146560, 3169126500570573503741758013440), (454, 15990451934503351592085123773536099755780109935120997326192784381974064338494754313176203115702798442336775475337855914537761235829522432, 6972078301255261708231867629568), (455, 24712516626050634278677009468192154168023806263368814049570666772141735795855529393090495724267961229065925734613050049740176455372898304, 10775030101939949912721977245696), (456, 46517678354918840995156723704832290198633047083988355858015372747560914439257467092876227245680868195888801382801035387746214504231337984, 30423614405477505635920876929024), (457, 93035356709837681990313447409664580397266094167976711716030745495121828878514934185752454491361736391777602765602070775510443406972157952, 40564819207303340847894502572032), (458, 279106070129513045970940342228993741191798282503930135148092236485365486635544802557257363474085209175332808296806212326477287025388027904, 121694457621910022543683507716096), (459, 465176783549188409951567237048322901986330470839883558580153727475609144392574670928762272456808681958888013828010353877462145042313379840, 202824096036516704239472512860160), (460, 744282853678701455922507579277316643178128753343813693728245963960974631028119473486019635930893891134220822124816566203939432067701407744, 365083372865730067631050523148288), (461, 1488565707357402911845015158554633286356257506687627387456491927921949262056238946972039271861787782268441644249633132407950921729440743424, 649037107316853453566312041152512), (462, 4465697122072208735535045475663899859068772520062882162369475783765847786168716840916117815585363346805324932748899397223636592406208446464, 1947111321950560360698936123457536), (463, 7442828536787014559225075792773166431781287533438136937282459639609746310281194734860196359308938911342208221248165662039394320677014077440, 3245185536584267267831560205762560), (464, 11908525658859223294760121268437066290850060053501019099651935423375594096449911575776314174894302258147533153997065059263030913083222523904, 5841333965851681082096808370372608), (465, 23817051317718446589520242536874132581700120107002038199303870846751188192899823151552628349788604516295066307994130118526097854963464011776, 10384593717069655257060992658440192), (466, 23817051317718446589520242536874132581700120107002038199303870846751188192899823151552628349788604516295066307994130118526061826166445047808, 10384593717069655257060992658440192), (467, 166719359224029126126641697758118928071900840749014267395127095927258317350298762060868398448520231614065464155958910829682432783165115334656, 72692156019487586799426948609081344), (468, 214353461859466019305682182831867193235301080963018343793734837620760693736098408363973655148097440646655596771947171066734556435498005430272, 93461343453626897313548933925961728), (469, 381072821083495145432323880589986121307201921712032611188861933548019011086397170424842053596617672260721060927906081896416989218663120764928, 249230249209671726169463823802564608), (470, 762145642166990290864647761179972242614403843424065222377723867096038022172794340849684107193235344521442121855812163792833978437326241529856, 332306998946228968225951765070086144), (471, 1524291284333980581729295522359944485228807686848130444755447734192076044345588681699368214386470689042884243711624327585667956874652483059712, 996920996838686904677855295210258432), (472, 3048582568667961163458591044719888970457615373696260889510895468384152088691177363398736428772941378085768487423248655171335913749304966119424, 1329227995784915872903807060280344576), (473, 9145747706003883490375773134159666911372846121088782668532686405152456266073532090196209286318824134257305462269745965514007741247914898358272, 3987683987354747618711421180841033728), (1, 12194330274671844653834364178879555881830461494785043558043581873536608354764709453594945715091765512343073949692994620685343654997219864477696, 10633823966279326983230456482242756607)] _ 124 (by kernel_rfl) (by kernel_rfl) (by kernel_rfl) (by kernel_rfl) (by kernel_rfl)) (fun w => St w0 D0 Dv_96 [(23, .cells b_15 [.int .i64 rv_21.1.Low, .int .i64 rv_21.1.High] 40), (34, .cells b_16 [.int .i64 rv_34.1.Low, .int .i64 rv_34.1.High] 40), (38, .cells b_17 [.int .i64 rv_36.Exchanges, .slice p_59 rv_36.Lines.length c_59, .int .i64 rv_36.Hops, .slice p_60 rv_36.Loops.length c_60] 25), (39, .cells b_18 [.int .i64 rv_37.1.Low, .int .i64 rv_37.1.High] 40), (44, .cells b_19 [.int .i64 rv_41.1.Low, .int .i64 rv_41.1.High] 40), (47, .cells b_20 [.int .i64 rv_44.1.Low, .int .i64 rv_44.1.High] 40), (60, .cells b_21 [.int .i64 rv_56.Exchanges, .slice p_84 rv_56.Lines.length c_84, .int .i64 1, .slice p_85 rv_56.Loops.length c_85] 25)] w) _ (hS.weak (ms := [(23, .cells b_15 [.int .i64 rv_21.1.Low, .int .i64 rv_21.1.High] 40), (34, .cells b_16 [.int .i64 rv_34.1.Low, .int .i64 rv_34.1.High] 40), (38, .cells b_17 [.int .i64 rv_36.Exchanges, .slice p_59 rv_36.Lines.length c_59, .int .i64 rv_36.Hops, .slice p_60 rv_36.Loops.length c_60] 25), (39, .cells b_18 [.int .i64 rv_37.1.Low, .int .i64 rv_37.1.High] 40), (44, .cells b_19 [.int .i64 rv_41.1.Low, .int .i64 rv_41.1.High] 40), (47, .cells b_20 [.int .i64 rv_44.1.Low, .int .i64 rv_44.1.High] 40), (60, .cells b_21 [.int .i64 rv_56.Exchanges, .slice p_84 rv_56.Lines.length c_84, .int .i64 1, .slice p_85 rv_56.Loops.length c_85] 25)]) ⟨rfl, rfl, rfl, rfl, rfl, rfl, rfl, trivial⟩).drew (fun _ _ _ _ h => h) ?_ (fun _ _ h => h)
    replace hS := hS.drew
    have hle0 := hS.le
    refine stepV (i := 0) rfl hF (fun w hS => Y.move hF rfl) rfl fun a hF => stepV (i := 1) rfl hF (fun w hS => Y.eql hF rfl rfl) rfl fun a hF => stepV (i := 2) rfl hF (fun w hS => Y.move hF rfl) rfl fun a hF => cutV (u := remontoirlaw06_LineKnown_tr3_7) (fun a w => Frm 473 [] [(0, .bool v0_0), (22, .int .i64 rv_41.2), (24, .int .i64 rv_44.2), (27, .int .i64 rv_46.2), (29, .int .i64 rv_48.2.2), (32, .int .i64 rv_49.2), (34, .int .i64 rv_51.2), (37, .int .i64 rv_53.2), (38, .slice p_63 rv_39.1.length c_63), (39, .pointer (some ⟨b_19, 0, none⟩)), (40, .pointer (some ⟨b_20, 0, none⟩)), (41, .bool rv_46.1), (42, .int .i64 rv_48.1), (43, .int .i64 rv_48.2.1), (44, .slice p_73 rv_49.1.length c_73), (45, .slice p_76 rv_51.1.length c_76), (46, .slice p_79 rv_53.1.length c_79), (47, .slice p_82 rv_55.1.length c_82), (48, .slice p_83 rv_55.2.1.length c_83), (49, .int .i64 rv_55.2.2), (51, .slice p_86 rv_57.1.length c_86), (52, .int .i64 rv_57.2), (54, .int .i64 rv_58.2), (55, .slice p_88 y.length c_88), (56, .int .i64 z), (356, .bool ((rv_39.2 == 0) && ((rv_39.1.length : Int) == 1)))] a ∧ St w0 D0 Dv_96 [(23, .cells b_15 [.int .i64 rv_21.1.Low, .int .i64 rv_21.1.High] 40), (34, .cells b_16 [.int .i64 rv_34.1.Low, .int .i64 rv_34.1.High] 40), (38, .cells b_17 [.int .i64 rv_36.Exchanges, .slice p_59 rv_36.Lines.length c_59, .int .i64 rv_36.Hops, .slice p_60 rv_36.Loops.length c_60] 25), (39, .cells b_18 [.int .i64 rv_37.1.Low, .int .i64 rv_37.1.High] 40), (44, .cells b_19 [.int .i64 rv_41.1.Low, .int .i64 rv_41.1.High] 40), (47, .cells b_20 [.int .i64 rv_44.1.Low, .int .i64 rv_44.1.High] 40), (60, .cells b_21 [.int .i64 rv_56.Exchanges, .slice p_84 rv_56.Lines.length c_84, .int .i64 1, .slice p_85 rv_56.Loops.length c_85] 25)] w) ?_ ?_
    ·intro hcut
     rcases bcases (rv_39.2 == 0) with hbv_44 | hbv_44
     ·skip
      refine stepV_on (i := 3) rfl hF rfl rfl hbv_44 (fun w hS => Y.move hF rfl) rfl fun a hF => stepV_on (i := 4) rfl hF rfl rfl hbv_44 (fun w hS => Y.lenSl u_26 hF rfl) rfl fun a hF => stepV_on (i := 5) rfl hF rfl rfl hbv_44 (fun w hS => Y.eql hF rfl rfl) rfl fun a hF => stepV (i := 6) rfl hF (fun w hS => Y.pick_t hF rfl hbv_44 rfl) rfl fun a hF => hcut _ _ ⟨hF.weak ⟨rfl, rfl, rfl, rfl, rfl, rfl, rfl, rfl, rfl, rfl, rfl, rfl, rfl, rfl, rfl, rfl, rfl, rfl, rfl, rfl, rfl, rfl, rfl, rfl, rfl, (by rw [hbv_44]; rfl), trivial⟩, hS.weak ⟨rfl, rfl, rfl, rfl, rfl, rfl, rfl, trivial⟩⟩
     refine stepV_off (i := 3) rfl hF rfl rfl hbv_44 rfl fun a hF => stepV_off (i := 4) rfl hF rfl rfl hbv_44 rfl fun a hF => stepV_off (i := 5) rfl hF rfl rfl hbv_44 rfl fun a hF => stepV (i := 6) rfl hF (fun w hS => Y.pick_f hF rfl hbv_44 rfl) rfl fun a hF => hcut _ _ ⟨hF.weak ⟨rfl, rfl, rfl, rfl, rfl, rfl, rfl, rfl, rfl, rfl, rfl, rfl, rfl, rfl, rfl, rfl, rfl, rfl, rfl, rfl, rfl, rfl, rfl, rfl, rfl, (by rw [hbv_44]; rfl), trivial⟩, hS.weak ⟨rfl, rfl, rfl, rfl, rfl, rfl, rfl, trivial⟩⟩
    as_aux_lemma =>
     skip
     rintro a w ⟨hF, hS⟩
     refine stepV (i := 7) rfl hF (fun w hS => Y.move hF rfl) rfl fun a hF => ?_
     obtain ⟨t_9, ht_9, h⟩ := bind_some h
     refine cutV (u := remontoirlaw06_LineKnown_tr3_14) (fun a w => Frm 473 [] [(0, .bool v0_0), (22, .int .i64 rv_41.2), (24, .int .i64 rv_44.2), (27, .int .i64 rv_46.2), (29, .int .i64 rv_48.2.2), (32, .int .i64 rv_49.2), (34, .int .i64 rv_51.2), (37, .int .i64 rv_53.2), (39, .pointer (some ⟨b_19, 0, none⟩)), (40, .pointer (some ⟨b_20, 0, none⟩)), (41, .bool rv_46.1), (42, .int .i64 rv_48.1), (43, .int .i64 rv_48.2.1), (44, .slice p_73 rv_49.1.length c_73), (45, .slice p_76 rv_51.1.length c_76), (46, .slice p_79 rv_53.1.length c_79), (47, .slice p_82 rv_55.1.length c_82), (48, .slice p_83 rv_55.2.1.length c_83), (49, .int .i64 rv_55.2.2), (51, .slice p_86 rv_57.1.length c_86), (52, .int .i64 rv_57.2), (54, .int .i64 rv_58.2), (55, .slice p_88 y.length c_88), (56, .int .i64 z), (363, .bool t_9)] a ∧ St w0 D0 Dv_96 [(23, .cells b_15 [.int .i64 rv_21.1.Low, .int .i64 rv_21.1.High] 40), (34, .cells b_16 [.int .i64 rv_34.1.Low, .int .i64 rv_34.1.High] 40), (38, .cells b_17 [.int .i64 rv_36.Exchanges, .slice p_59 rv_36.Lines.length c_59, .int .i64 rv_36.Hops, .slice p_60 rv_36.Loops.length c_60] 25), (39, .cells b_18 [.int .i64 rv_37.1.Low, .int .i64 rv_37.1.High] 40), (44, .cells b_19 [.int .i64 rv_41.1.Low, .int .i64 rv_41.1.High] 40), (47, .cells b_20 [.int .i64 rv_44.1.Low, .int .i64 rv_44.1.High] 40), (60, .cells b_21 [.int .i64 rv_56.Exchanges, .slice p_84 rv_56.Lines.length c_84, .int .i64 1, .slice p_85 rv_56.Loops.length c_85] 25)] w) ?_ ?_
     ·intro hcut
      rcases bcases ((rv_39.2 == 0) && ((rv_39.1.length : Int) == 1)) with hbv_45 | hbv_45
      ·skip
       replace h := cond_t ht_9 hbv_45
       refine stepV_on (i := 8) rfl hF rfl rfl hbv_45 (fun w hS => Y.move hF rfl) rfl fun a hF => ?_
       obtain ⟨e_7, hx_75, h⟩ := bind_some h
       obtain ⟨b_23, o_9, hE_9, hY_9⟩ := Y.indexS (P := Tryd.prog) (C := (C_sl C_int)) (xs := rv_39.1) (T := 26) (x := (.tmp 358)) (y := (.const (.int .i64 0))) u_26 sz_32 hF rfl rfl (hs_98).1 hx_75
       obtain ⟨cc_14, hc_14, hcell_9⟩ := hE_9.open
       obtain ⟨p_98, c_98, rfl, hs_149⟩ := hc_14
       refine stepV_on (i := 9) rfl hF rfl rfl hbv_45 (fun w hS => hY_9) rfl fun a hF => stepV_on (i := 10) rfl hF rfl rfl hbv_45 (fun w hS => Y.load1 sz_32 hF rfl (hcell_9 _ hS.stab 0 _ rfl)) rfl fun a hF => stepV_on (i := 11) rfl hF rfl rfl hbv_45 (fun w hS => Y.lenSl u_32 hF rfl) rfl fun a hF => stepV_on (i := 12) rfl hF rfl rfl hbv_45 (fun w hS => Y.eql hF rfl rfl) rfl fun a hF => stepV (i := 13) rfl hF (fun w hS => Y.pick_t hF rfl hbv_45 rfl) rfl fun a hF => ?_
       obtain rfl := some_inj h
       exact hcut _ _ ⟨hF.weak ⟨rfl, rfl, rfl, rfl, rfl, rfl, rfl, rfl, rfl, rfl, rfl, rfl, rfl, rfl, rfl, rfl, rfl, rfl, rfl, rfl, rfl, rfl, rfl, rfl, rfl, trivial⟩, hS.weak ⟨rfl, rfl, rfl, rfl, rfl, rfl, rfl, trivial⟩⟩
      replace h := cond_f ht_9 hbv_45
      refine stepV_off (i := 8) rfl hF rfl rfl hbv_45 rfl fun a hF => stepV_off (i := 9) rfl hF rfl rfl hbv_45 rfl fun a hF => stepV_off (i := 10) rfl hF rfl rfl hbv_45 rfl fun a hF => stepV_off (i := 11) rfl hF rfl rfl hbv_45 rfl fun a hF => stepV_off (i := 12) rfl hF rfl rfl hbv_45 rfl fun a hF => stepV (i := 13) rfl hF (fun w hS => Y.pick_f hF rfl hbv_45 rfl) rfl fun a hF => ?_
      obtain rfl := some_inj h
      exact hcut _ _ ⟨hF.weak ⟨rfl, rfl, rfl, rfl, rfl, rfl, rfl, rfl, rfl, rfl, rfl, rfl, rfl, rfl, rfl, rfl, rfl, rfl, rfl, rfl, rfl, rfl, rfl, rfl, rfl, trivial⟩, hS.weak ⟨rfl, rfl, rfl, rfl, rfl, rfl, rfl, trivial⟩⟩
     as_aux_lemma =>
      skip
      rintro a w ⟨hF, hS⟩
      refine stepV (i := 14) rfl hF (fun w hS => Y.move hF rfl) rfl fun a hF => cutV (u := remontoirlaw06_LineKnown_tr3_18) (fun a w => Frm 473 [] [(0, .bool v0_0), (24, .int .i64 rv_44.2), (27, .int .i64 rv_46.2), (29, .int .i64 rv_48.2.2), (32, .int .i64 rv_49.2), (34, .int .i64 rv_51.2), (37, .int .i64 rv_53.2), (39, .pointer (some ⟨b_19, 0, none⟩)), (40, .pointer (some ⟨b_20, 0, none⟩)), (41, .bool rv_46.1), (42, .int .i64 rv_48.1), (43, .int .i64 rv_48.2.1), (44, .slice p_73 rv_49.1.length c_73), (45, .slice p_76 rv_51.1.length c_76), (46, .slice p_79 rv_53.1.length c_79), (47, .slice p_82 rv_55.1.length c_82), (48, .slice p_83 rv_55.2.1.length c_83), (49, .int .i64 rv_55.2.2), (51, .slice p_86 rv_57.1.length c_86), (52, .int .i64 rv_57.2), (54, .int .i64 rv_58.2), (55, .slice p_88 y.length c_88), (56, .int .i64 z), (367, .bool (t_9 && (rv_41.2 == 0)))] a ∧ St w0 D0 Dv_96 [(23, .cells b_15 [.int .i64 rv_21.1.Low, .int .i64 rv_21.1.High] 40), (34, .cells b_16 [.int .i64 rv_34.1.Low, .int .i64 rv_34.1.High] 40), (38, .cells b_17 [.int .i64 rv_36.Exchanges, .slice p_59 rv_36.Lines.length c_59, .int .i64 rv_36.Hops, .slice p_60 rv_36.Loops.length c_60] 25), (39, .cells b_18 [.int .i64 rv_37.1.Low, .int .i64 rv_37.1.High] 40), (44, .cells b_19 [.int .i64 rv_41.1.Low, .int .i64 rv_41.1.High] 40), (47, .cells b_20 [.int .i64 rv_44.1.Low, .int .i64 rv_44.1.High] 40), (60, .cells b_21 [.int .i64 rv_56.Exchanges, .slice p_84 rv_56.Lines.length c_84, .int .i64 1, .slice p_85 rv_56.Loops.length c_85] 25)] w) ?_ ?_
      ·intro hcut
       rcases bcases t_9 with hbv_46 | hbv_46
       ·skip
        refine stepV_on (i := 15) rfl hF rfl rfl hbv_46 (fun w hS => Y.move hF rfl) rfl fun a hF => stepV_on (i := 16) rfl hF rfl rfl hbv_46 (fun w hS => Y.eql hF rfl rfl) rfl fun a hF => stepV (i := 17) rfl hF (fun w hS => Y.pick_t hF rfl hbv_46 rfl) rfl fun a hF => hcut _ _ ⟨hF.weak ⟨rfl, rfl, rfl, rfl, rfl, rfl, rfl, rfl, rfl, rfl, rfl, rfl, rfl, rfl, rfl, rfl, rfl, rfl, rfl, rfl, rfl, rfl, rfl, (by rw [hbv_46]; rfl), trivial⟩, hS.weak ⟨rfl, rfl, rfl, rfl, rfl, rfl, rfl, trivial⟩⟩
       refine stepV_off (i := 15) rfl hF rfl rfl hbv_46 rfl fun a hF => stepV_off (i := 16) rfl hF rfl rfl hbv_46 rfl fun a hF => stepV (i := 17) rfl hF (fun w hS => Y.pick_f hF rfl hbv_46 rfl) rfl fun a hF => hcut _ _ ⟨hF.weak ⟨rfl, rfl, rfl, rfl, rfl, rfl, rfl, rfl, rfl, rfl, rfl, rfl, rfl, rfl, rfl, rfl, rfl, rfl, rfl, rfl, rfl, rfl, rfl, (by rw [hbv_46]; rfl), trivial⟩, hS.weak ⟨rfl, rfl, rfl, rfl, rfl, rfl, rfl, trivial⟩⟩
      as_aux_lemma =>
       skip
       rintro a w ⟨hF, hS⟩
       refine stepV (i := 18) rfl hF (fun w hS => Y.move hF rfl) rfl fun a hF => ?_
       obtain ⟨t_10, ht_10, h⟩ := bind_some h
       refine cutV (u := remontoirlaw06_LineKnown_tr3_23) (fun a w => Frm 473 [] [(0, .bool v0_0), (24, .int .i64 rv_44.2), (27, .int .i64 rv_46.2), (29, .int .i64 rv_48.2.2), (32, .int .i64 rv_49.2), (34, .int .i64 rv_51.2), (37, .int .i64 rv_53.2), (40, .pointer (some ⟨b_20, 0, none⟩)), (41, .bool rv_46.1), (42, .int .i64 rv_48.1), (43, .int .i64 rv_48.2.1), (44, .slice p_73 rv_49.1.length c_73), (45, .slice p_76 rv_51.1.length c_76), (46, .slice p_79 rv_53.1.length c_79), (47, .slice p_82 rv_55.1.length c_82), (48, .slice p_83 rv_55.2.1.length c_83), (49, .int .i64 rv_55.2.2), (51, .slice p_86 rv_57.1.length c_86), (52, .int .i64 rv_57.2), (54, .int .i64 rv_58.2), (55, .slice p_88 y.length c_88), (56, .int .i64 z), (372, .bool t_10)] a ∧ St w0 D0 Dv_96 [(23, .cells b_15 [.int .i64 rv_21.1.Low, .int .i64 rv_21.1.High] 40), (34, .cells b_16 [.int .i64 rv_34.1.Low, .int .i64 rv_34.1.High] 40), (38, .cells b_17 [.int .i64 rv_36.Exchanges, .slice p_59 rv_36.Lines.length c_59, .int .i64 rv_36.Hops, .slice p_60 rv_36.Loops.length c_60] 25), (39, .cells b_18 [.int .i64 rv_37.1.Low, .int .i64 rv_37.1.High] 40), (44, .cells b_19 [.int .i64 rv_41.1.Low, .int .i64 rv_41.1.High] 40), (47, .cells b_20 [.int .i64 rv_44.1.Low, .int .i64 rv_44.1.High] 40), (60, .cells b_21 [.int .i64 rv_56.Exchanges, .slice p_84 rv_56.Lines.length c_84, .int .i64 1, .slice p_85 rv_56.Loops.length c_85] 25)] w) ?_ ?_
       ·intro hcut
        rcases bcases (t_9 && (rv_41.2 == 0)) with hbv_47 | hbv_47
        ·skip
         replace h := cond_t ht_10 hbv_47
         refine stepV_on (i := 19) rfl hF rfl rfl hbv_47 (fun w hS => Y.loadNL 44 sz_40 hF rfl hS rfl rfl rfl) rfl fun a hF => oneV (i := 20) rfl ?_ trivial
         refine guard_on hF rfl rfl hbv_47 ?_
         obtain ⟨rv_67, hx_76, h⟩ := bind_some h
         refine O.callP (us := [.int .i64 0, .int .i64 0]) ca_44 hF hS (r0To_ok hS.stab 0 0 rv_67 hx_76) rfl rfl fun a w hF hS => nil (then_n ⟨hS.weak ⟨rfl, rfl, rfl, rfl, rfl, rfl, rfl, trivial⟩, ?_⟩)
         refine stepV_on (i := 21) rfl hF rfl rfl hbv_47 (fun w hS => Y.eqst (fun w => eqT_40.equal (by decide) (l := [rv_41.1.Low, rv_41.1.High]) (m := [rv_67.Low, rv_67.High]) rfl rfl) (fun w => run_eqGuard_agg _ _ _ _ _ _ _ eg_40) hF rfl rfl) rfl fun a hF => stepV (i := 22) rfl hF (fun w hS => Y.pick_t hF rfl hbv_47 rfl) rfl fun a hF => ?_
         obtain rfl := some_inj h
         exact hcut _ _ ⟨hF.weak ⟨rfl, rfl, rfl, rfl, rfl, rfl, rfl, rfl, rfl, rfl, rfl, rfl, rfl, rfl, rfl, rfl, rfl, rfl, rfl, rfl, rfl, rfl, rfl, trivial⟩, hS.weak ⟨rfl, rfl, rfl, rfl, rfl, rfl, rfl, trivial⟩⟩
        replace h := cond_f ht_10 hbv_47
        refine stepV_off (i := 19) rfl hF rfl rfl hbv_47 rfl fun a hF => oneV (i := 20) rfl (guard_off hF rfl rfl hbv_47 rfl fun a hF => nil (then_n ⟨hS.weak ⟨rfl, rfl, rfl, rfl, rfl, rfl, rfl, trivial⟩, ?_⟩)) trivial
        refine stepV_off (i := 21) rfl hF rfl rfl hbv_47 rfl fun a hF => stepV (i := 22) rfl hF (fun w hS => Y.pick_f hF rfl hbv_47 rfl) rfl fun a hF => ?_
        obtain rfl := some_inj h
        exact hcut _ _ ⟨hF.weak ⟨rfl, rfl, rfl, rfl, rfl, rfl, rfl, rfl, rfl, rfl, rfl, rfl, rfl, rfl, rfl, rfl, rfl, rfl, rfl, rfl, rfl, rfl, rfl, trivial⟩, hS.weak ⟨rfl, rfl, rfl, rfl, rfl, rfl, rfl, trivial⟩⟩
       as_aux_lemma =>
        skip
        rintro a w ⟨hF, hS⟩
        refine stepV (i := 23) rfl hF (fun w hS => Y.move hF rfl) rfl fun a hF => cutV (u := remontoirlaw06_LineKnown_tr3_27) (fun a w => Frm 473 [] [(0, .bool v0_0), (27, .int .i64 rv_46.2), (29, .int .i64 rv_48.2.2), (32, .int .i64 rv_49.2), (34, .int .i64 rv_51.2), (37, .int .i64 rv_53.2), (40, .pointer (some ⟨b_20, 0, none⟩)), (41, .bool rv_46.1), (42, .int .i64 rv_48.1), (43, .int .i64 rv_48.2.1), (44, .slice p_73 rv_49.1.length c_73), (45, .slice p_76 rv_51.1.length c_76), (46, .slice p_79 rv_53.1.length c_79), (47, .slice p_82 rv_55.1.length c_82), (48, .slice p_83 rv_55.2.1.length c_83), (49, .int .i64 rv_55.2.2), (51, .slice p_86 rv_57.1.length c_86), (52, .int .i64 rv_57.2), (54, .int .i64 rv_58.2), (55, .slice p_88 y.length c_88), (56, .int .i64 z), (376, .bool (t_10 && (rv_44.2 == 0)))] a ∧ St w0 D0 Dv_96 [(23, .cells b_15 [.int .i64 rv_21.1.Low, .int .i64 rv_21.1.High] 40), (34, .cells b_16 [.int .i64 rv_34.1.Low, .int .i64 rv_34.1.High] 40), (38, .cells b_17 [.int .i64 rv_36.Exchanges, .slice p_59 rv_36.Lines.length c_59, .int .i64 rv_36.Hops, .slice p_60 rv_36.Loops.length c_60] 25), (39, .cells b_18 [.int .i64 rv_37.1.Low, .int .i64 rv_37.1.High] 40), (44, .cells b_19 [.int .i64 rv_41.1.Low, .int .i64 rv_41.1.High] 40), (47, .cells b_20 [.int .i64 rv_44.1.Low, .int .i64 rv_44.1.High] 40), (60, .cells b_21 [.int .i64 rv_56.Exchanges, .slice p_84 rv_56.Lines.length c_84, .int .i64 1, .slice p_85 rv_56.Loops.length c_85] 25)] w) ?_ ?_
        ·intro hcut
         rcases bcases t_10 with hbv_48 | hbv_48
         ·skip
          refine stepV_on (i := 24) rfl hF rfl rfl hbv_48 (fun w hS => Y.move hF rfl) rfl fun a hF => stepV_on (i := 25) rfl hF rfl rfl hbv_48 (fun w hS => Y.eql hF rfl rfl) rfl fun a hF => stepV (i := 26) rfl hF (fun w hS => Y.pick_t hF rfl hbv_48 rfl) rfl fun a hF => hcut _ _ ⟨hF.weak ⟨rfl, rfl, rfl, rfl, rfl, rfl, rfl, rfl, rfl, rfl, rfl, rfl, rfl, rfl, rfl, rfl, rfl, rfl, rfl, rfl, rfl, (by rw [hbv_48]; rfl), trivial⟩, hS.weak ⟨rfl, rfl, rfl, rfl, rfl, rfl, rfl, trivial⟩⟩
         refine stepV_off (i := 24) rfl hF rfl rfl hbv_48 rfl fun a hF => stepV_off (i := 25) rfl hF rfl rfl hbv_48 rfl fun a hF => stepV (i := 26) rfl hF (fun w hS => Y.pick_f hF rfl hbv_48 rfl) rfl fun a hF => hcut _ _ ⟨hF.weak ⟨rfl, rfl, rfl, rfl, rfl, rfl, rfl, rfl, rfl, rfl, rfl, rfl, rfl, rfl, rfl, rfl, rfl, rfl, rfl, rfl, rfl, (by rw [hbv_48]; rfl), trivial⟩, hS.weak ⟨rfl, rfl, rfl, rfl, rfl, rfl, rfl, trivial⟩⟩
        as_aux_lemma =>
         skip
         rintro a w ⟨hF, hS⟩
         refine stepV (i := 27) rfl hF (fun w hS => Y.move hF rfl) rfl fun a hF => ?_
         obtain ⟨t_11, ht_11, h⟩ := bind_some h
         refine cutV (u := remontoirlaw06_LineKnown_tr3_32) (fun a w => Frm 473 [] [(0, .bool v0_0), (27, .int .i64 rv_46.2), (29, .int .i64 rv_48.2.2), (32, .int .i64 rv_49.2), (34, .int .i64 rv_51.2), (37, .int .i64 rv_53.2), (41, .bool rv_46.1), (42, .int .i64 rv_48.1), (43, .int .i64 rv_48.2.1), (44, .slice p_73 rv_49.1.length c_73), (45, .slice p_76 rv_51.1.length c_76), (46, .slice p_79 rv_53.1.length c_79), (47, .slice p_82 rv_55.1.length c_82), (48, .slice p_83 rv_55.2.1.length c_83), (49, .int .i64 rv_55.2.2), (51, .slice p_86 rv_57.1.length c_86), (52, .int .i64 rv_57.2), (54, .int .i64 rv_58.2), (55, .slice p_88 y.length c_88), (56, .int .i64 z), (381, .bool t_11)] a ∧ St w0 D0 Dv_96 [(23, .cells b_15 [.int .i64 rv_21.1.Low, .int .i64 rv_21.1.High] 40), (34, .cells b_16 [.int .i64 rv_34.1.Low, .int .i64 rv_34.1.High] 40), (38, .cells b_17 [.int .i64 rv_36.Exchanges, .slice p_59 rv_36.Lines.length c_59, .int .i64 rv_36.Hops, .slice p_60 rv_36.Loops.length c_60] 25), (39, .cells b_18 [.int .i64 rv_37.1.Low, .int .i64 rv_37.1.High] 40), (44, .cells b_19 [.int .i64 rv_41.1.Low, .int .i64 rv_41.1.High] 40), (47, .cells b_20 [.int .i64 rv_44.1.Low, .int .i64 rv_44.1.High] 40), (60, .cells b_21 [.int .i64 rv_56.Exchanges, .slice p_84 rv_56.Lines.length c_84, .int .i64 1, .slice p_85 rv_56.Loops.length c_85] 25)] w) ?_ ?_
         ·intro hcut
          rcases bcases (t_10 && (rv_44.2 == 0)) with hbv_49 | hbv_49
          ·skip
           replace h := cond_t ht_11 hbv_49
           refine stepV_on (i := 28) rfl hF rfl rfl hbv_49 (fun w hS => Y.loadNL 47 sz_40 hF rfl hS rfl rfl rfl) rfl fun a hF => oneV (i := 29) rfl ?_ trivial
           refine guard_on hF rfl rfl hbv_49 ?_
           obtain ⟨rv_68, hx_77, h⟩ := bind_some h
           refine O.callP (us := [.int .i64 22, .int .i64 37]) ca_44 hF hS (r0To_ok hS.stab 22 37 rv_68 hx_77) rfl rfl fun a w hF hS => nil (then_n ⟨hS.weak ⟨rfl, rfl, rfl, rfl, rfl, rfl, rfl, trivial⟩, ?_⟩)
           refine stepV_on (i := 30) rfl hF rfl rfl hbv_49 (fun w hS => Y.eqst (fun w => eqT_40.equal (by decide) (l := [rv_44.1.Low, rv_44.1.High]) (m := [rv_68.Low, rv_68.High]) rfl rfl) (fun w => run_eqGuard_agg _ _ _ _ _ _ _ eg_40) hF rfl rfl) rfl fun a hF => stepV (i := 31) rfl hF (fun w hS => Y.pick_t hF rfl hbv_49 rfl) rfl fun a hF => ?_
           obtain rfl := some_inj h
           exact hcut _ _ ⟨hF.weak ⟨rfl, rfl, rfl, rfl, rfl, rfl, rfl, rfl, rfl, rfl, rfl, rfl, rfl, rfl, rfl, rfl, rfl, rfl, rfl, rfl, rfl, trivial⟩, hS.weak ⟨rfl, rfl, rfl, rfl, rfl, rfl, rfl, trivial⟩⟩
          replace h := cond_f ht_11 hbv_49
          refine stepV_off (i := 28) rfl hF rfl rfl hbv_49 rfl fun a hF => oneV (i := 29) rfl (guard_off hF rfl rfl hbv_49 rfl fun a hF => nil (then_n ⟨hS.weak ⟨rfl, rfl, rfl, rfl, rfl, rfl, rfl, trivial⟩, ?_⟩)) trivial
          refine stepV_off (i := 30) rfl hF rfl rfl hbv_49 rfl fun a hF => stepV (i := 31) rfl hF (fun w hS => Y.pick_f hF rfl hbv_49 rfl) rfl fun a hF => ?_
          obtain rfl := some_inj h
          exact hcut _ _ ⟨hF.weak ⟨rfl, rfl, rfl, rfl, rfl, rfl, rfl, rfl, rfl, rfl, rfl, rfl, rfl, rfl, rfl, rfl, rfl, rfl, rfl, rfl, rfl, trivial⟩, hS.weak ⟨rfl, rfl, rfl, rfl, rfl, rfl, rfl, trivial⟩⟩
         as_aux_lemma =>
          skip
          rintro a w ⟨hF, hS⟩
          refine stepV (i := 32) rfl hF (fun w hS => Y.move hF rfl) rfl fun a hF => cutV (u := remontoirlaw06_LineKnown_tr3_36) (fun a w => Frm 473 [] [(0, .bool v0_0), (29, .int .i64 rv_48.2.2), (32, .int .i64 rv_49.2), (34, .int .i64 rv_51.2), (37, .int .i64 rv_53.2), (41, .bool rv_46.1), (42, .int .i64 rv_48.1), (43, .int .i64 rv_48.2.1), (44, .slice p_73 rv_49.1.length c_73), (45, .slice p_76 rv_51.1.length c_76), (46, .slice p_79 rv_53.1.length c_79), (47, .slice p_82 rv_55.1.length c_82), (48, .slice p_83 rv_55.2.1.length c_83), (49, .int .i64 rv_55.2.2), (51, .slice p_86 rv_57.1.length c_86), (52, .int .i64 rv_57.2), (54, .int .i64 rv_58.2), (55, .slice p_88 y.length c_88), (56, .int .i64 z), (385, .bool (t_11 && (rv_46.2 == 0)))] a ∧ St w0 D0 Dv_96 [(23, .cells b_15 [.int .i64 rv_21.1.Low, .int .i64 rv_21.1.High] 40), (34, .cells b_16 [.int .i64 rv_34.1.Low, .int .i64 rv_34.1.High] 40), (38, .cells b_17 [.int .i64 rv_36.Exchanges, .slice p_59 rv_36.Lines.length c_59, .int .i64 rv_36.Hops, .slice p_60 rv_36.Loops.length c_60] 25), (39, .cells b_18 [.int .i64 rv_37.1.Low, .int .i64 rv_37.1.High] 40), (44, .cells b_19 [.int .i64 rv_41.1.Low, .int .i64 rv_41.1.High] 40), (47, .cells b_20 [.int .i64 rv_44.1.Low, .int .i64 rv_44.1.High] 40), (60, .cells b_21 [.int .i64 rv_56.Exchanges, .slice p_84 rv_56.Lines.length c_84, .int .i64 1, .slice p_85 rv_56.Loops.length c_85] 25)] w) ?_ ?_
          ·intro hcut
           rcases bcases t_11 with hbv_50 | hbv_50
           ·skip
            refine stepV_on (i := 33) rfl hF rfl rfl hbv_50 (fun w hS => Y.move hF rfl) rfl fun a hF => stepV_on (i := 34) rfl hF rfl rfl hbv_50 (fun w hS => Y.eql hF rfl rfl) rfl fun a hF => stepV (i := 35) rfl hF (fun w hS => Y.pick_t hF rfl hbv_50 rfl) rfl fun a hF => hcut _ _ ⟨hF.weak ⟨rfl, rfl, rfl, rfl, rfl, rfl, rfl, rfl, rfl, rfl, rfl, rfl, rfl, rfl, rfl, rfl, rfl, rfl, rfl, (by rw [hbv_50]; rfl), trivial⟩, hS.weak ⟨rfl, rfl, rfl, rfl, rfl, rfl, rfl, trivial⟩⟩
           refine stepV_off (i := 33) rfl hF rfl rfl hbv_50 rfl fun a hF => stepV_off (i := 34) rfl hF rfl rfl hbv_50 rfl fun a hF => stepV (i := 35) rfl hF (fun w hS => Y.pick_f hF rfl hbv_50 rfl) rfl fun a hF => hcut _ _ ⟨hF.weak ⟨rfl, rfl, rfl, rfl, rfl, rfl, rfl, rfl, rfl, rfl, rfl, rfl, rfl, rfl, rfl, rfl, rfl, rfl, rfl, (by rw [hbv_50]; rfl), trivial⟩, hS.weak ⟨rfl, rfl, rfl, rfl, rfl, rfl, rfl, trivial⟩⟩
          as_aux_lemma =>
           skip
           rintro a w ⟨hF, hS⟩
           refine stepV (i := 36) rfl hF (fun w hS => Y.move hF rfl) rfl fun a hF => cutV (u := remontoirlaw06_LineKnown_tr3_40) (fun a w => Frm 473 [] [(0, .bool v0_0), (29, .int .i64 rv_48.2.2), (32, .int .i64 rv_49.2), (34, .int .i64 rv_51.2), (37, .int .i64 rv_53.2), (42, .int .i64 rv_48.1), (43, .int .i64 rv_48.2.1), (44, .slice p_73 rv_49.1.length c_73), (45, .slice p_76 rv_51.1.length c_76), (46, .slice p_79 rv_53.1.length c_79), (47, .slice p_82 rv_55.1.length c_82), (48, .slice p_83 rv_55.2.1.length c_83), (49, .int .i64 rv_55.2.2), (51, .slice p_86 rv_57.1.length c_86), (52, .int .i64 rv_57.2), (54, .int .i64 rv_58.2), (55, .slice p_88 y.length c_88), (56, .int .i64 z), (389, .bool ((t_11 && (rv_46.2 == 0)) && (!rv_46.1)))] a ∧ St w0 D0 Dv_96 [(23, .cells b_15 [.int .i64 rv_21.1.Low, .int .i64 rv_21.1.High] 40), (34, .cells b_16 [.int .i64 rv_34.1.Low, .int .i64 rv_34.1.High] 40), (38, .cells b_17 [.int .i64 rv_36.Exchanges, .slice p_59 rv_36.Lines.length c_59, .int .i64 rv_36.Hops, .slice p_60 rv_36.Loops.length c_60] 25), (39, .cells b_18 [.int .i64 rv_37.1.Low, .int .i64 rv_37.1.High] 40), (44, .cells b_19 [.int .i64 rv_41.1.Low, .int .i64 rv_41.1.High] 40), (47, .cells b_20 [.int .i64 rv_44.1.Low, .int .i64 rv_44.1.High] 40), (60, .cells b_21 [.int .i64 rv_56.Exchanges, .slice p_84 rv_56.Lines.length c_84, .int .i64 1, .slice p_85 rv_56.Loops.length c_85] 25)] w) ?_ ?_
           ·intro hcut
            rcases bcases (t_11 && (rv_46.2 == 0)) with hbv_51 | hbv_51
            ·skip
             refine stepV_on (i := 37) rfl hF rfl rfl hbv_51 (fun w hS => Y.move hF rfl) rfl fun a hF => stepV_on (i := 38) rfl hF rfl rfl hbv_51 (fun w hS => Y.not hF rfl) rfl fun a hF => stepV (i := 39) rfl hF (fun w hS => Y.pick_t hF rfl hbv_51 rfl) rfl fun a hF => hcut _ _ ⟨hF.weak ⟨rfl, rfl, rfl, rfl, rfl, rfl, rfl, rfl, rfl, rfl, rfl, rfl, rfl, rfl, rfl, rfl, rfl, rfl, (by rw [hbv_51]; rfl), trivial⟩, hS.weak ⟨rfl, rfl, rfl, rfl, rfl, rfl, rfl, trivial⟩⟩
            refine stepV_off (i := 37) rfl hF rfl rfl hbv_51 rfl fun a hF => stepV_off (i := 38) rfl hF rfl rfl hbv_51 rfl fun a hF => stepV (i := 39) rfl hF (fun w hS => Y.pick_f hF rfl hbv_51 rfl) rfl fun a hF => hcut _ _ ⟨hF.weak ⟨rfl, rfl, rfl, rfl, rfl, rfl, rfl, rfl, rfl, rfl, rfl, rfl, rfl, rfl, rfl, rfl, rfl, rfl, (by rw [hbv_51]; rfl), trivial⟩, hS.weak ⟨rfl, rfl, rfl, rfl, rfl, rfl, rfl, trivial⟩⟩
           as_aux_lemma =>
            skip
            rintro a w ⟨hF, hS⟩
            refine stepV (i := 40) rfl hF (fun w hS => Y.move hF rfl) rfl fun a hF => cutV (u := remontoirlaw06_LineKnown_tr3_44) (fun a w => Frm 473 [] [(0, .bool v0_0), (32, .int .i64 rv_49.2), (34, .int .i64 rv_51.2), (37, .int .i64 rv_53.2), (42, .int .i64 rv_48.1), (43, .int .i64 rv_48.2.1), (44, .slice p_73 rv_49.1.length c_73), (45, .slice p_76 rv_51.1.length c_76), (46, .slice p_79 rv_53.1.length c_79), (47, .slice p_82 rv_55.1.length c_82), (48, .slice p_83 rv_55.2.1.length c_83), (49, .int .i64 rv_55.2.2), (51, .slice p_86 rv_57.1.length c_86), (52, .int .i64 rv_57.2), (54, .int .i64 rv_58.2), (55, .slice p_88 y.length c_88), (56, .int .i64 z), (393, .bool (((t_11 && (rv_46.2 == 0)) && (!rv_46.1)) && (rv_48.2.2 == 0)))] a ∧ St w0 D0 Dv_96 [(23, .cells b_15 [.int .i64 rv_21.1.Low, .int .i64 rv_21.1.High] 40), (34, .cells b_16 [.int .i64 rv_34.1.Low, .int .i64 rv_34.1.High] 40), (38, .cells b_17 [.int .i64 rv_36.Exchanges, .slice p_59 rv_36.Lines.length c_59, .int .i64 rv_36.Hops, .slice p_60 rv_36.Loops.length c_60] 25), (39, .cells b_18 [.int .i64 rv_37.1.Low, .int .i64 rv_37.1.High] 40), (44, .cells b_19 [.int .i64 rv_41.1.Low, .int .i64 rv_41.1.High] 40), (47, .cells b_20 [.int .i64 rv_44.1.Low, .int .i64 rv_44.1.High] 40), (60, .cells b_21 [.int .i64 rv_56.Exchanges, .slice p_84 rv_56.Lines.length c_84, .int .i64 1, .slice p_85 rv_56.Loops.length c_85] 25)] w) ?_ ?_
            ·intro hcut
             rcases bcases ((t_11 && (rv_46.2 == 0)) && (!rv_46.1)) with hbv_52 | hbv_52
             ·skip
              refine stepV_on (i := 41) rfl hF rfl rfl hbv_52 (fun w hS => Y.move hF rfl) rfl fun a hF => stepV_on (i := 42) rfl hF rfl rfl hbv_52 (fun w hS => Y.eql hF rfl rfl) rfl fun a hF => stepV (i := 43) rfl hF (fun w hS => Y.pick_t hF rfl hbv_52 rfl) rfl fun a hF => hcut _ _ ⟨hF.weak ⟨rfl, rfl, rfl, rfl, rfl, rfl, rfl, rfl, rfl, rfl, rfl, rfl, rfl, rfl, rfl, rfl, rfl, (by rw [hbv_52]; rfl), trivial⟩, hS.weak ⟨rfl, rfl, rfl, rfl, rfl, rfl, rfl, trivial⟩⟩
             refine stepV_off (i := 41) rfl hF rfl rfl hbv_52 rfl fun a hF => stepV_off (i := 42) rfl hF rfl rfl hbv_52 rfl fun a hF => stepV (i := 43) rfl hF (fun w hS => Y.pick_f hF rfl hbv_52 rfl) rfl fun a hF => hcut _ _ ⟨hF.weak ⟨rfl, rfl, rfl, rfl, rfl, rfl, rfl, rfl, rfl, rfl, rfl, rfl, rfl, rfl, rfl, rfl, rfl, (by rw [hbv_52]; rfl), trivial⟩, hS.weak ⟨rfl, rfl, rfl, rfl, rfl, rfl, rfl, trivial⟩⟩
            as_aux_lemma =>
             skip
             rintro a w ⟨hF, hS⟩
             refine stepV (i := 44) rfl hF (fun w hS => Y.move hF rfl) rfl fun a hF => cutV (u := remontoirlaw06_LineKnown_tr3_48) (fun a w => Frm 473 [] [(0, .bool v0_0), (32, .int .i64 rv_49.2), (34, .int .i64 rv_51.2), (37, .int .i64 rv_53.2), (43, .int .i64 rv_48.2.1), (44, .slice p_73 rv_49.1.length c_73), (45, .slice p_76 rv_51.1.length c_76), (46, .slice p_79 rv_53.1.length c_79), (47, .slice p_82 rv_55.1.length c_82), (48, .slice p_83 rv_55.2.1.length c_83), (49, .int .i64 rv_55.2.2), (51, .slice p_86 rv_57.1.length c_86), (52, .int .i64 rv_57.2), (54, .int .i64 rv_58.2), (55, .slice p_88 y.length c_88), (56, .int .i64 z), (397, .bool ((((t_11 && (rv_46.2 == 0)) && (!rv_46.1)) && (rv_48.2.2 == 0)) && (rv_48.1 == 23)))] a ∧ St w0 D0 Dv_96 [(23, .cells b_15 [.int .i64 rv_21.1.Low, .int .i64 rv_21.1.High] 40), (34, .cells b_16 [.int .i64 rv_34.1.Low, .int .i64 rv_34.1.High] 40), (38, .cells b_17 [.int .i64 rv_36.Exchanges, .slice p_59 rv_36.Lines.length c_59, .int .i64 rv_36.Hops, .slice p_60 rv_36.Loops.length c_60] 25), (39, .cells b_18 [.int .i64 rv_37.1.Low, .int .i64 rv_37.1.High] 40), (44, .cells b_19 [.int .i64 rv_41.1.Low, .int .i64 rv_41.1.High] 40), (47, .cells b_20 [.int .i64 rv_44.1.Low, .int .i64 rv_44.1.High] 40), (60, .cells b_21 [.int .i64 rv_56.Exchanges, .slice p_84 rv_56.Lines.length c_84, .int .i64 1, .slice p_85 rv_56.Loops.length c_85] 25)] w) ?_ ?_
             ·intro hcut
              rcases bcases (((t_11 && (rv_46.2 == 0)) && (!rv_46.1)) && (rv_48.2.2 == 0)) with hbv_53 | hbv_53
              ·skip
               refine stepV_on (i := 45) rfl hF rfl rfl hbv_53 (fun w hS => Y.move hF rfl) rfl fun a hF => stepV_on (i := 46) rfl hF rfl rfl hbv_53 (fun w hS => Y.eql hF rfl rfl) rfl fun a hF => stepV (i := 47) rfl hF (fun w hS => Y.pick_t hF rfl hbv_53 rfl) rfl fun a hF => hcut _ _ ⟨hF.weak ⟨rfl, rfl, rfl, rfl, rfl, rfl, rfl, rfl, rfl, rfl, rfl, rfl, rfl, rfl, rfl, rfl, (by rw [hbv_53]; rfl), trivial⟩, hS.weak ⟨rfl, rfl, rfl, rfl, rfl, rfl, rfl, trivial⟩⟩
              refine stepV_off (i := 45) rfl hF rfl rfl hbv_53 rfl fun a hF => stepV_off (i := 46) rfl hF rfl rfl hbv_53 rfl fun a hF => stepV (i := 47) rfl hF (fun w hS => Y.pick_f hF rfl hbv_53 rfl) rfl fun a hF => hcut _ _ ⟨hF.weak ⟨rfl, rfl, rfl, rfl, rfl, rfl, rfl, rfl, rfl, rfl, rfl, rfl, rfl, rfl, rfl, rfl, (by rw [hbv_53]; rfl), trivial⟩, hS.weak ⟨rfl, rfl, rfl, rfl, rfl, rfl, rfl, trivial⟩⟩
             as_aux_lemma =>
              skip
              rintro a w ⟨hF, hS⟩
              refine stepV (i := 48) rfl hF (fun w hS => Y.move hF rfl) rfl fun a hF => cutV (u := remontoirlaw06_LineKnown_tr3_52) (fun a w => Frm 473 [] [(0, .bool v0_0), (32, .int .i64 rv_49.2), (34, .int .i64 rv_51.2), (37, .int .i64 rv_53.2), (44, .slice p_73 rv_49.1.length c_73), (45, .slice p_76 rv_51.1.length c_76), (46, .slice p_79 rv_53.1.length c_79), (47, .slice p_82 rv_55.1.length c_82), (48, .slice p_83 rv_55.2.1.length c_83), (49, .int .i64 rv_55.2.2), (51, .slice p_86 rv_57.1.length c_86), (52, .int .i64 rv_57.2), (54, .int .i64 rv_58.2), (55, .slice p_88 y.length c_88), (56, .int .i64 z), (401, .bool (((((t_11 && (rv_46.2 == 0)) && (!rv_46.1)) && (rv_48.2.2 == 0)) && (rv_48.1 == 23)) && (rv_48.2.1 == 13)))] a ∧ St w0 D0 Dv_96 [(23, .cells b_15 [.int .i64 rv_21.1.Low, .int .i64 rv_21.1.High] 40), (34, .cells b_16 [.int .i64 rv_34.1.Low, .int .i64 rv_34.1.High] 40), (38, .cells b_17 [.int .i64 rv_36.Exchanges, .slice p_59 rv_36.Lines.length c_59, .int .i64 rv_36.Hops, .slice p_60 rv_36.Loops.length c_60] 25), (39, .cells b_18 [.int .i64 rv_37.1.Low, .int .i64 rv_37.1.High] 40), (44, .cells b_19 [.int .i64 rv_41.1.Low, .int .i64 rv_41.1.High] 40), (47, .cells b_20 [.int .i64 rv_44.1.Low, .int .i64 rv_44.1.High] 40), (60, .cells b_21 [.int .i64 rv_56.Exchanges, .slice p_84 rv_56.Lines.length c_84, .int .i64 1, .slice p_85 rv_56.Loops.length c_85] 25)] w) ?_ ?_
              ·intro hcut
               rcases bcases ((((t_11 && (rv_46.2 == 0)) && (!rv_46.1)) && (rv_48.2.2 == 0)) && (rv_48.1 == 23)) with hbv_54 | hbv_54
               ·skip
                refine stepV_on (i := 49) rfl hF rfl rfl hbv_54 (fun w hS => Y.move hF rfl) rfl fun a hF => stepV_on (i := 50) rfl hF rfl rfl hbv_54 (fun w hS => Y.eql hF rfl rfl) rfl fun a hF => stepV (i := 51) rfl hF (fun w hS => Y.pick_t hF rfl hbv_54 rfl) rfl fun a hF => hcut _ _ ⟨hF.weak ⟨rfl, rfl, rfl, rfl, rfl, rfl, rfl, rfl, rfl, rfl, rfl, rfl, rfl, rfl, rfl, (by rw [hbv_54]; rfl), trivial⟩, hS.weak ⟨rfl, rfl, rfl, rfl, rfl, rfl, rfl, trivial⟩⟩
               refine stepV_off (i := 49) rfl hF rfl rfl hbv_54 rfl fun a hF => stepV_off (i := 50) rfl hF rfl rfl hbv_54 rfl fun a hF => stepV (i := 51) rfl hF (fun w hS => Y.pick_f hF rfl hbv_54 rfl) rfl fun a hF => hcut _ _ ⟨hF.weak ⟨rfl, rfl, rfl, rfl, rfl, rfl, rfl, rfl, rfl, rfl, rfl, rfl, rfl, rfl, rfl, (by rw [hbv_54]; rfl), trivial⟩, hS.weak ⟨rfl, rfl, rfl, rfl, rfl, rfl, rfl, trivial⟩⟩
              as_aux_lemma =>
               skip
               rintro a w ⟨hF, hS⟩
               refine stepV (i := 52) rfl hF (fun w hS => Y.move hF rfl) rfl fun a hF => cutV (u := remontoirlaw06_LineKnown_tr3_56) (fun a w => Frm 473 [] [(0, .bool v0_0), (34, .int .i64 rv_51.2), (37, .int .i64 rv_53.2), (44, .slice p_73 rv_49.1.length c_73), (45, .slice p_76 rv_51.1.length c_76), (46, .slice p_79 rv_53.1.length c_79), (47, .slice p_82 rv_55.1.length c_82), (48, .slice p_83 rv_55.2.1.length c_83), (49, .int .i64 rv_55.2.2), (51, .slice p_86 rv_57.1.length c_86), (52, .int .i64 rv_57.2), (54, .int .i64 rv_58.2), (55, .slice p_88 y.length c_88), (56, .int .i64 z), (405, .bool ((((((t_11 && (rv_46.2 == 0)) && (!rv_46.1)) && (rv_48.2.2 == 0)) && (rv_48.1 == 23)) && (rv_48.2.1 == 13)) && (rv_49.2 == 0)))] a ∧ St w0 D0 Dv_96 [(23, .cells b_15 [.int .i64 rv_21.1.Low, .int .i64 rv_21.1.High] 40), (34, .cells b_16 [.int .i64 rv_34.1.Low, .int .i64 rv_34.1.High] 40), (38, .cells b_17 [.int .i64 rv_36.Exchanges, .slice p_59 rv_36.Lines.length c_59, .int .i64 rv_36.Hops, .slice p_60 rv_36.Loops.length c_60] 25), (39, .cells b_18 [.int .i64 rv_37.1.Low, .int .i64 rv_37.1.High] 40), (44, .cells b_19 [.int .i64 rv_41.1.Low, .int .i64 rv_41.1.High] 40), (47, .cells b_20 [.int .i64 rv_44.1.Low, .int .i64 rv_44.1.High] 40), (60, .cells b_21 [.int .i64 rv_56.Exchanges, .slice p_84 rv_56.Lines.length c_84, .int .i64 1, .slice p_85 rv_56.Loops.length c_85] 25)] w) ?_ ?_
               ·intro hcut
                rcases bcases (((((t_11 && (rv_46.2 == 0)) && (!rv_46.1)) && (rv_48.2.2 == 0)) && (rv_48.1 == 23)) && (rv_48.2.1 == 13)) with hbv_55 | hbv_55
                ·skip
                 refine stepV_on (i := 53) rfl hF rfl rfl hbv_55 (fun w hS => Y.move hF rfl) rfl fun a hF => stepV_on (i := 54) rfl hF rfl rfl hbv_55 (fun w hS => Y.eql hF rfl rfl) rfl fun a hF => stepV (i := 55) rfl hF (fun w hS => Y.pick_t hF rfl hbv_55 rfl) rfl fun a hF => hcut _ _ ⟨hF.weak ⟨rfl, rfl, rfl, rfl, rfl, rfl, rfl, rfl, rfl, rfl, rfl, rfl, rfl, rfl, (by rw [hbv_55]; rfl), trivial⟩, hS.weak ⟨rfl, rfl, rfl, rfl, rfl, rfl, rfl, trivial⟩⟩
                refine stepV_off (i := 53) rfl hF rfl rfl hbv_55 rfl fun a hF => stepV_off (i := 54) rfl hF rfl rfl hbv_55 rfl fun a hF => stepV (i := 55) rfl hF (fun w hS => Y.pick_f hF rfl hbv_55 rfl) rfl fun a hF => hcut _ _ ⟨hF.weak ⟨rfl, rfl, rfl, rfl, rfl, rfl, rfl, rfl, rfl, rfl, rfl, rfl, rfl, rfl, (by rw [hbv_55]; rfl), trivial⟩, hS.weak ⟨rfl, rfl, rfl, rfl, rfl, rfl, rfl, trivial⟩⟩
               as_aux_lemma =>
                skip
                rintro a w ⟨hF, hS⟩
                refine stepV (i := 56) rfl hF (fun w hS => Y.move hF rfl) rfl fun a hF => ?_
                obtain ⟨t_12, ht_12, h⟩ := bind_some h
                refine cutV (u := remontoirlaw06_LineKnown_tr3_61) (fun a w => ∃ (D : Stab), Dv_96.le D ∧ Frm 473 [] [(0, .bool v0_0), (34, .int .i64 rv_51.2), (37, .int .i64 rv_53.2), (45, .slice p_76 rv_51.1.length c_76), (46, .slice p_79 rv_53.1.length c_79), (47, .slice p_82 rv_55.1.length c_82), (48, .slice p_83 rv_55.2.1.length c_83), (49, .int .i64 rv_55.2.2), (51, .slice p_86 rv_57.1.length c_86), (52, .int .i64 rv_57.2), (54, .int .i64 rv_58.2), (55, .slice p_88 y.length c_88), (56, .int .i64 z), (410, .bool t_12)] a ∧ St w0 D0 D [(23, .cells b_15 [.int .i64 rv_21.1.Low, .int .i64 rv_21.1.High] 40), (34, .cells b_16 [.int .i64 rv_34.1.Low, .int .i64 rv_34.1.High] 40), (38, .cells b_17 [.int .i64 rv_36.Exchanges, .slice p_59 rv_36.Lines.length c_59, .int .i64 rv_36.Hops, .slice p_60 rv_36.Loops.length c_60] 25), (39, .cells b_18 [.int .i64 rv_37.1.Low, .int .i64 rv_37.1.High] 40), (44, .cells b_19 [.int .i64 rv_41.1.Low, .int .i64 rv_41.1.High] 40), (47, .cells b_20 [.int .i64 rv_44.1.Low, .int .i64 rv_44.1.High] 40), (60, .cells b_21 [.int .i64 rv_56.Exchanges, .slice p_84 rv_56.Lines.length c_84, .int .i64 1, .slice p_85 rv_56.Loops.length c_85] 25)] w) ?_ ?_
                ·intro hcut
                 rcases bcases ((((((t_11 && (rv_46.2 == 0)) && (!rv_46.1)) && (rv_48.2.2 == 0)) && (rv_48.1 == 23)) && (rv_48.2.1 == 13)) && (rv_49.2 == 0)) with hbv_56 | hbv_56
                 ·skip
                  replace h := cond_t ht_12 hbv_56
                  refine stepV_on (i := 57) rfl hF rfl rfl hbv_56 (fun w hS => Y.move hF rfl) rfl fun a hF => oneV (i := 58) rfl ?_ trivial
                  refine guard_on hF rfl rfl hbv_56 ?_
                  have hr_65 : Reps C_int Dv_96 [2] [.int .i64 2] := Reps.cons (C := C_int) (x := 2) (c := [.int .i64 2]) (r := []) rfl (Reps.nil)
                  refine O.buildSlice (E := 3) (C := C_int) (xs := [2]) (cs := [.int .i64 2]) (us := [.int .i64 2]) (parts := [(0, (.const (.int .i64 2)))]) 69 hF hS rfl (by kernel_rfl) hr_65 rfl rfl rfl fun p_99 c_99 a w hF hS => nil (then_n ⟨hS.weak ⟨rfl, rfl, rfl, rfl, rfl, rfl, rfl, trivial⟩, ?_⟩)
                  refine oneV (i := 59) rfl ?_ trivial
                  refine guard_on hF rfl rfl hbv_56 ?_
                  obtain ⟨Dv_110, hlev_110, hs_150, hS⟩ := hS.freezeC (C := C_int) (i := 69) (xs := [2]) rfl hr_65
                  replace hs_116 := hs_116.mono hlev_110
                  obtain ⟨rv_69, hx_78, h⟩ := bind_some h
                  refine O.callP (us := [.slice p_73 rv_49.1.length c_73, .slice p_99 ([2]).length c_99]) ca_22 hF hS (r0Alike_ok hS.stab rv_49.1 ([2]) hs_116 hs_150 rv_69 hx_78) rfl rfl fun a w hF hS => nil (then_n ⟨(hS.weak (ms := [(23, .cells b_15 [.int .i64 rv_21.1.Low, .int .i64 rv_21.1.High] 40), (34, .cells b_16 [.int .i64 rv_34.1.Low, .int .i64 rv_34.1.High] 40), (38, .cells b_17 [.int .i64 rv_36.Exchanges, .slice p_59 rv_36.Lines.length c_59, .int .i64 rv_36.Hops, .slice p_60 rv_36.Loops.length c_60] 25), (39, .cells b_18 [.int .i64 rv_37.1.Low, .int .i64 rv_37.1.High] 40), (44, .cells b_19 [.int .i64 rv_41.1.Low, .int .i64 rv_41.1.High] 40), (47, .cells b_20 [.int .i64 rv_44.1.Low, .int .i64 rv_44.1.High] 40), (60, .cells b_21 [.int .i64 rv_56.Exchanges, .slice p_84 rv_56.Lines.length c_84, .int .i64 1, .slice p_85 rv_56.Loops.length c_85] 25)]) ⟨rfl, rfl, rfl, rfl, rfl, rfl, rfl, trivial⟩).weakD hlev_110 hle0, ?_⟩)
                  refine stepV (i := 60) rfl hF (fun w hS => Y.pick_t hF rfl hbv_56 rfl) rfl fun a hF => ?_
                  obtain rfl := some_inj h
                  exact hcut _ _ ⟨Dv_110, hlev_110, hF.weak ⟨rfl, rfl, rfl, rfl, rfl, rfl, rfl, rfl, rfl, rfl, rfl, rfl, rfl, rfl, trivial⟩, hS.weak ⟨rfl, rfl, rfl, rfl, rfl, rfl, rfl, trivial⟩⟩
                 replace h := cond_f ht_12 hbv_56
                 refine stepV_off (i := 57) rfl hF rfl rfl hbv_56 rfl fun a hF => oneV (i := 58) rfl (guard_off hF rfl rfl hbv_56 rfl fun a hF => nil (then_n ⟨hS.weak ⟨rfl, rfl, rfl, rfl, rfl, rfl, rfl, trivial⟩, ?_⟩)) trivial
                 refine oneV (i := 59) rfl (guard_off hF rfl rfl hbv_56 rfl fun a hF => nil (then_n ⟨hS.weak ⟨rfl, rfl, rfl, rfl, rfl, rfl, rfl, trivial⟩, ?_⟩)) trivial
                 refine stepV (i := 60) rfl hF (fun w hS => Y.pick_f hF rfl hbv_56 rfl) rfl fun a hF => ?_
                 obtain rfl := some_inj h
                 exact hcut _ _ ⟨Dv_96, Stab.le.refl _, hF.weak ⟨rfl, rfl, rfl, rfl, rfl, rfl, rfl, rfl, rfl, rfl, rfl, rfl, rfl, rfl, trivial⟩, hS.weak ⟨rfl, rfl, rfl, rfl, rfl, rfl, rfl, trivial⟩⟩
                as_aux_lemma =>
                 skip
                 rintro a w ⟨Dv_111, hlev_111, hF, hS⟩
                 replace hG := hG.mono hlev_111
                 replace hs_126 := hs_126.mono hlev_111
                 replace hs_131 := hs_131.mono hlev_111
                 replace hs_137 := hs_137.mono hlev_111
                 replace hs_139 := hs_139.mono hlev_111
                 refine stepV (i := 61) rfl hF (fun w hS => Y.move hF rfl) rfl fun a hF => cutV (u := remontoirlaw06_LineKnown_tr3_65) (fun a w => Frm 473 [] [(0, .bool v0_0), (37, .int .i64 rv_53.2), (45, .slice p_76 rv_51.1.length c_76), (46, .slice p_79 rv_53.1.length c_79), (47, .slice p_82 rv_55.1.length c_82), (48, .slice p_83 rv_55.2.1.length c_83), (49, .int .i64 rv_55.2.2), (51, .slice p_86 rv_57.1.length c_86), (52, .int .i64 rv_57.2), (54, .int .i64 rv_58.2), (55, .slice p_88 y.length c_88), (56, .int .i64 z), (414, .bool (t_12 && (rv_51.2 == 0)))] a ∧ St w0 D0 Dv_111 [(23, .cells b_15 [.int .i64 rv_21.1.Low, .int .i64 rv_21.1.High] 40), (34, .cells b_16 [.int .i64 rv_34.1.Low, .int .i64 rv_34.1.High] 40), (38, .cells b_17 [.int .i64 rv_36.Exchanges, .slice p_59 rv_36.Lines.length c_59, .int .i64 rv_36.Hops, .slice p_60 rv_36.Loops.length c_60] 25), (39, .cells b_18 [.int .i64 rv_37.1.Low, .int .i64 rv_37.1.High] 40), (44, .cells b_19 [.int .i64 rv_41.1.Low, .int .i64 rv_41.1.High] 40), (47, .cells b_20 [.int .i64 rv_44.1.Low, .int .i64 rv_44.1.High] 40), (60, .cells b_21 [.int .i64 rv_56.Exchanges, .slice p_84 rv_56.Lines.length c_84, .int .i64 1, .slice p_85 rv_56.Loops.length c_85] 25)] w) ?_ ?_
                 ·intro hcut
                  rcases bcases t_12 with hbv_57 | hbv_57
                  ·skip
                   refine stepV_on (i := 62) rfl hF rfl rfl hbv_57 (fun w hS => Y.move hF rfl) rfl fun a hF => stepV_on (i := 63) rfl hF rfl rfl hbv_57 (fun w hS => Y.eql hF rfl rfl) rfl fun a hF => stepV (i := 64) rfl hF (fun w hS => Y.pick_t hF rfl hbv_57 rfl) rfl fun a hF => hcut _ _ ⟨hF.weak ⟨rfl, rfl, rfl, rfl, rfl, rfl, rfl, rfl, rfl, rfl, rfl, rfl, (by rw [hbv_57]; rfl), trivial⟩, hS.weak ⟨rfl, rfl, rfl, rfl, rfl, rfl, rfl, trivial⟩⟩
                  refine stepV_off (i := 62) rfl hF rfl rfl hbv_57 rfl fun a hF => stepV_off (i := 63) rfl hF rfl rfl hbv_57 rfl fun a hF => stepV (i := 64) rfl hF (fun w hS => Y.pick_f hF rfl hbv_57 rfl) rfl fun a hF => hcut _ _ ⟨hF.weak ⟨rfl, rfl, rfl, rfl, rfl, rfl, rfl, rfl, rfl, rfl, rfl, rfl, (by rw [hbv_57]; rfl), trivial⟩, hS.weak ⟨rfl, rfl, rfl, rfl, rfl, rfl, rfl, trivial⟩⟩
                 as_aux_lemma =>
                  skip
                  rintro a w ⟨hF, hS⟩
                  refine stepV (i := 65) rfl hF (fun w hS => Y.move hF rfl) rfl fun a hF => cutV (u := remontoirlaw06_LineKnown_tr3_70) (fun a w => Frm 473 [] [(0, .bool v0_0), (37, .int .i64 rv_53.2), (46, .slice p_79 rv_53.1.length c_79), (47, .slice p_82 rv_55.1.length c_82), (48, .slice p_83 rv_55.2.1.length c_83), (49, .int .i64 rv_55.2.2), (51, .slice p_86 rv_57.1.length c_86), (52, .int .i64 rv_57.2), (54, .int .i64 rv_58.2), (55, .slice p_88 y.length c_88), (56, .int .i64 z), (419, .bool ((t_12 && (rv_51.2 == 0)) && ((rv_51.1.length : Int) == 0)))] a ∧ St w0 D0 Dv_111 [(23, .cells b_15 [.int .i64 rv_21.1.Low, .int .i64 rv_21.1.High] 40), (34, .cells b_16 [.int .i64 rv_34.1.Low, .int .i64 rv_34.1.High] 40), (38, .cells b_17 [.int .i64 rv_36.Exchanges, .slice p_59 rv_36.Lines.length c_59, .int .i64 rv_36.Hops, .slice p_60 rv_36.Loops.length c_60] 25), (39, .cells b_18 [.int .i64 rv_37.1.Low, .int .i64 rv_37.1.High] 40), (44, .cells b_19 [.int .i64 rv_41.1.Low, .int .i64 rv_41.1.High] 40), (47, .cells b_20 [.int .i64 rv_44.1.Low, .int .i64 rv_44.1.High] 40), (60, .cells b_21 [.int .i64 rv_56.Exchanges, .slice p_84 rv_56.Lines.length c_84, .int .i64 1, .slice p_85 rv_56.Loops.length c_85] 25)] w) ?_ ?_
                  ·intro hcut
                   rcases bcases (t_12 && (rv_51.2 == 0)) with hbv_58 | hbv_58
                   ·skip
                    refine stepV_on (i := 66) rfl hF rfl rfl hbv_58 (fun w hS => Y.move hF rfl) rfl fun a hF => stepV_on (i := 67) rfl hF rfl rfl hbv_58 (fun w hS => Y.lenSl u_32 hF rfl) rfl fun a hF => stepV_on (i := 68) rfl hF rfl rfl hbv_58 (fun w hS => Y.eql hF rfl rfl) rfl fun a hF => stepV (i := 69) rfl hF (fun w hS => Y.pick_t hF rfl hbv_58 rfl) rfl fun a hF => hcut _ _ ⟨hF.weak ⟨rfl, rfl, rfl, rfl, rfl, rfl, rfl, rfl, rfl, rfl, rfl, (by rw [hbv_58]; rfl), trivial⟩, hS.weak ⟨rfl, rfl, rfl, rfl, rfl, rfl, rfl, trivial⟩⟩
                   refine stepV_off (i := 66) rfl hF rfl rfl hbv_58 rfl fun a hF => stepV_off (i := 67) rfl hF rfl rfl hbv_58 rfl fun a hF => stepV_off (i := 68) rfl hF rfl rfl hbv_58 rfl fun a hF => stepV (i := 69) rfl hF (fun w hS => Y.pick_f hF rfl hbv_58 rfl) rfl fun a hF => hcut _ _ ⟨hF.weak ⟨rfl, rfl, rfl, rfl, rfl, rfl, rfl, rfl, rfl, rfl, rfl, (by rw [hbv_58]; rfl), trivial⟩, hS.weak ⟨rfl, rfl, rfl, rfl, rfl, rfl, rfl, trivial⟩⟩
                  as_aux_lemma =>
                   skip
                   rintro a w ⟨hF, hS⟩
                   refine stepV (i := 70) rfl hF (fun w hS => Y.move hF rfl) rfl fun a hF => cutV (u := remontoirlaw06_LineKnown_tr3_74) (fun a w => Frm 473 [] [(0, .bool v0_0), (46, .slice p_79 rv_53.1.length c_79), (47, .slice p_82 rv_55.1.length c_82), (48, .slice p_83 rv_55.2.1.length c_83), (49, .int .i64 rv_55.2.2), (51, .slice p_86 rv_57.1.length c_86), (52, .int .i64 rv_57.2), (54, .int .i64 rv_58.2), (55, .slice p_88 y.length c_88), (56, .int .i64 z), (423, .bool (((t_12 && (rv_51.2 == 0)) && ((rv_51.1.length : Int) == 0)) && (rv_53.2 == 0)))] a ∧ St w0 D0 Dv_111 [(23, .cells b_15 [.int .i64 rv_21.1.Low, .int .i64 rv_21.1.High] 40), (34, .cells b_16 [.int .i64 rv_34.1.Low, .int .i64 rv_34.1.High] 40), (38, .cells b_17 [.int .i64 rv_36.Exchanges, .slice p_59 rv_36.Lines.length c_59, .int .i64 rv_36.Hops, .slice p_60 rv_36.Loops.length c_60] 25), (39, .cells b_18 [.int .i64 rv_37.1.Low, .int .i64 rv_37.1.High] 40), (44, .cells b_19 [.int .i64 rv_41.1.Low, .int .i64 rv_41.1.High] 40), (47, .cells b_20 [.int .i64 rv_44.1.Low, .int .i64 rv_44.1.High] 40), (60, .cells b_21 [.int .i64 rv_56.Exchanges, .slice p_84 rv_56.Lines.length c_84, .int .i64 1, .slice p_85 rv_56.Loops.length c_85] 25)] w) ?_ ?_
                   ·intro hcut
                    rcases bcases ((t_12 && (rv_51.2 == 0)) && ((rv_51.1.length : Int) == 0)) with hbv_59 | hbv_59
                    ·skip
                     refine stepV_on (i := 71) rfl hF rfl rfl hbv_59 (fun w hS => Y.move hF rfl) rfl fun a hF => stepV_on (i := 72) rfl hF rfl rfl hbv_59 (fun w hS => Y.eql hF rfl rfl) rfl fun a hF => stepV (i := 73) rfl hF (fun w hS => Y.pick_t hF rfl hbv_59 rfl) rfl fun a hF => hcut _ _ ⟨hF.weak ⟨rfl, rfl, rfl, rfl, rfl, rfl, rfl, rfl, rfl, rfl, (by rw [hbv_59]; rfl), trivial⟩, hS.weak ⟨rfl, rfl, rfl, rfl, rfl, rfl, rfl, trivial⟩⟩
                    refine stepV_off (i := 71) rfl hF rfl rfl hbv_59 rfl fun a hF => stepV_off (i := 72) rfl hF rfl rfl hbv_59 rfl fun a hF => stepV (i := 73) rfl hF (fun w hS => Y.pick_f hF rfl hbv_59 rfl) rfl fun a hF => hcut _ _ ⟨hF.weak ⟨rfl, rfl, rfl, rfl, rfl, rfl, rfl, rfl, rfl, rfl, (by rw [hbv_59]; rfl), trivial⟩, hS.weak ⟨rfl, rfl, rfl, rfl, rfl, rfl, rfl, trivial⟩⟩
                   as_aux_lemma =>
                    skip
                    rintro a w ⟨hF, hS⟩
                    refine stepV (i := 74) rfl hF (fun w hS => Y.move hF rfl) rfl fun a hF => ?_
                    obtain ⟨t_13, ht_13, h⟩ := bind_some h
                    refine cutV (u := remontoirlaw06_LineKnown_tr3_81) (fun a w => ∃ (D : Stab), Dv_111.le D ∧ Frm 473 [] [(0, .bool v0_0), (47, .slice p_82 rv_55.1.length c_82), (48, .slice p_83 rv_55.2.1.length c_83), (49, .int .i64 rv_55.2.2), (51, .slice p_86 rv_57.1.length c_86), (52, .int .i64 rv_57.2), (54, .int .i64 rv_58.2), (55, .slice p_88 y.length c_88), (56, .int .i64 z), (430, .bool t_13)] a ∧ St w0 D0 D [(23, .cells b_15 [.int .i64 rv_21.1.Low, .int .i64 rv_21.1.High] 40), (34, .cells b_16 [.int .i64 rv_34.1.Low, .int .i64 rv_34.1.High] 40), (38, .cells b_17 [.int .i64 rv_36.Exchanges, .slice p_59 rv_36.Lines.length c_59, .int .i64 rv_36.Hops, .slice p_60 rv_36.Loops.length c_60] 25), (39, .cells b_18 [.int .i64 rv_37.1.Low, .int .i64 rv_37.1.High] 40), (44, .cells b_19 [.int .i64 rv_41.1.Low, .int .i64 rv_41.1.High] 40), (47, .cells b_20 [.int .i64 rv_44.1.Low, .int .i64 rv_44.1.High] 40), (60, .cells b_21 [.int .i64 rv_56.Exchanges, .slice p_84 rv_56.Lines.length c_84, .int .i64 1, .slice p_85 rv_56.Loops.length c_85] 25)] w) ?_ ?_
                    ·as_aux_lemma =>
                      intro hcut
                      rcases bcases (((t_12 && (rv_51.2 == 0)) && ((rv_51.1.length : Int) == 0)) && (rv_53.2 == 0)) with hbv_60 | hbv_60
                      ·as_aux_lemma =>
                        replace h := cond_t ht_13 hbv_60
                        refine stepV_on (i := 75) rfl hF rfl rfl hbv_60 (fun w hS => Y.move hF rfl) rfl fun a hF => oneV (i := 76) rfl ?_ ?_
                        ·skip
                         refine guard_on hF rfl rfl hbv_60 ?_
                         have hr_66 : Reps C_int Dv_111 [0] [.int .i64 0] := Reps.cons (C := C_int) (x := 0) (c := [.int .i64 0]) (r := []) rfl (Reps.nil)
                         refine O.buildSlice (E := 3) (C := C_int) (xs := [0]) (cs := [.int .i64 0]) (us := [.int .i64 0]) (parts := [(0, (.const (.int .i64 0)))]) 70 hF hS rfl (by kernel_rfl) hr_66 rfl rfl rfl fun p_100 c_100 a w hF hS => nil (then_n ⟨(hS.weak (ms := [(23, .cells b_15 [.int .i64 rv_21.1.Low, .int .i64 rv_21.1.High] 40), (34, .cells b_16 [.int .i64 rv_34.1.Low, .int .i64 rv_34.1.High] 40), (38, .cells b_17 [.int .i64 rv_36.Exchanges, .slice p_59 rv_36.Lines.length c_59, .int .i64 rv_36.Hops, .slice p_60 rv_36.Loops.length c_60] 25), (39, .cells b_18 [.int .i64 rv_37.1.Low, .int .i64 rv_37.1.High] 40), (44, .cells b_19 [.int .i64 rv_41.1.Low, .int .i64 rv_41.1.High] 40), (47, .cells b_20 [.int .i64 rv_44.1.Low, .int .i64 rv_44.1.High] 40), (60, .cells b_21 [.int .i64 rv_56.Exchanges, .slice p_84 rv_56.Lines.length c_84, .int .i64 1, .slice p_85 rv_56.Loops.length c_85] 25)]) ⟨rfl, rfl, rfl, rfl, rfl, rfl, rfl, trivial⟩).weakD hlev_111 hle0, ?_⟩)
                         refine oneV (i := 77) rfl ?_ trivial
                         refine guard_on hF rfl rfl hbv_60 ?_
                         have hr_67 : Reps C_int Dv_111 [2, 1] [.int .i64 2, .int .i64 1] := Reps.cons (C := C_int) (x := 2) (c := [.int .i64 2]) (r := [.int .i64 1]) rfl (Reps.cons (C := C_int) (x := 1) (c := [.int .i64 1]) (r := []) rfl (Reps.nil))
                         refine O.buildSlice (E := 3) (C := C_int) (xs := [2, 1]) (cs := [.int .i64 2, .int .i64 1]) (us := [.int .i64 2, .int .i64 1]) (parts := [(0, (.const (.int .i64 2))), (1, (.const (.int .i64 1)))]) 71 hF hS rfl (by kernel_rfl) hr_67 rfl rfl rfl fun p_101 c_101 a w hF hS => nil (then_n ⟨(hS.weak (ms := [(23, .cells b_15 [.int .i64 rv_21.1.Low, .int .i64 rv_21.1.High] 40), (34, .cells b_16 [.int .i64 rv_34.1.Low, .int .i64 rv_34.1.High] 40), (38, .cells b_17 [.int .i64 rv_36.Exchanges, .slice p_59 rv_36.Lines.length c_59, .int .i64 rv_36.Hops, .slice p_60 rv_36.Loops.length c_60] 25), (39, .cells b_18 [.int .i64 rv_37.1.Low, .int .i64 rv_37.1.High] 40), (44, .cells b_19 [.int .i64 rv_41.1.Low, .int .i64 rv_41.1.High] 40), (47, .cells b_20 [.int .i64 rv_44.1.Low, .int .i64 rv_44.1.High] 40), (60, .cells b_21 [.int .i64 rv_56.Exchanges, .slice p_84 rv_56.Lines.length c_84, .int .i64 1, .slice p_85 rv_56.Loops.length c_85] 25)]) ⟨rfl, rfl, rfl, rfl, rfl, rfl, rfl, trivial⟩).weakD hlev_111 hle0, ?_⟩)
                         refine oneV (i := 78) rfl ?_ trivial
                         refine guard_on hF rfl rfl hbv_60 ?_
                         obtain ⟨Dv_112, hlev_112, hs_151, hS⟩ := hS.freezeC (C := C_int) (i := 70) (xs := [0]) rfl hr_66
                         replace hs_126 := hs_126.mono hlev_112
                         replace hr_67 := hr_67.mono hlev_112
                         obtain ⟨Dv_113, hlev_113, hs_152, hS⟩ := hS.freezeC (C := C_int) (i := 71) (xs := [2, 1]) rfl hr_67
                         replace hs_126 := hs_126.mono hlev_113
                         replace hs_151 := hs_151.mono hlev_113
                         have hr_68 : Reps (C_sl C_int) Dv_113 [[0], [2, 1]] [.slice p_100 ([0]).length c_100, .slice p_101 ([2, 1]).length c_101] := Reps.cons (C := (C_sl C_int)) (x := [0]) (c := [.slice p_100 ([0]).length c_100]) (r := [.slice p_101 ([2, 1]).length c_101]) (⟨_, _, rfl, hs_151⟩) (Reps.cons (C := (C_sl C_int)) (x := [2, 1]) (c := [.slice p_101 ([2, 1]).length c_101]) (r := []) (⟨_, _, rfl, hs_152⟩) (Reps.nil))
                         refine O.buildSlice (E := 32) (C := (C_sl C_int)) (xs := [[0], [2, 1]]) (cs := [.slice p_100 ([0]).length c_100, .slice p_101 ([2, 1]).length c_101]) (us := [.slice p_100 ([0]).length c_100, .slice p_101 ([2, 1]).length c_101]) (parts := [(0, (.tmp 426)), (1, (.tmp 427))]) 72 hF hS rfl (by kernel_rfl) hr_68 rfl rfl rfl fun p_102 c_102 a w hF hS => nil (then_n ⟨(hS.weak (ms := [(23, .cells b_15 [.int .i64 rv_21.1.Low, .int .i64 rv_21.1.High] 40), (34, .cells b_16 [.int .i64 rv_34.1.Low, .int .i64 rv_34.1.High] 40), (38, .cells b_17 [.int .i64 rv_36.Exchanges, .slice p_59 rv_36.Lines.length c_59, .int .i64 rv_36.Hops, .slice p_60 rv_36.Loops.length c_60] 25), (39, .cells b_18 [.int .i64 rv_37.1.Low, .int .i64 rv_37.1.High] 40), (44, .cells b_19 [.int .i64 rv_41.1.Low, .int .i64 rv_41.1.High] 40), (47, .cells b_20 [.int .i64 rv_44.1.Low, .int .i64 rv_44.1.High] 40), (60, .cells b_21 [.int .i64 rv_56.Exchanges, .slice p_84 rv_56.Lines.length c_84, .int .i64 1, .slice p_85 rv_56.Loops.length c_85] 25)]) ⟨rfl, rfl, rfl, rfl, rfl, rfl, rfl, trivial⟩).weakD (hlev_111.trans (hlev_112.trans hlev_113)) hle0, ?_⟩)
                         refine oneV (i := 79) rfl ?_ trivial
                         refine guard_on hF rfl rfl hbv_60 ?_
                         obtain ⟨Dv_114, hlev_114, hs_153, hS⟩ := hS.freezeC (C := (C_sl C_int)) (i := 72) (xs := [[0], [2, 1]]) rfl hr_68
                         replace hs_126 := hs_126.mono hlev_114
                         obtain ⟨rv_70, hx_79, h⟩ := bind_some h
                         refine O.callP (us := [.slice p_79 rv_53.1.length c_79, .slice p_102 ([[0], [2, 1]]).length c_102]) ca_17 hF hS (r0AlikeRows_ok hS.stab rv_53.1 ([[0], [2, 1]]) hs_126 hs_153 rv_70 hx_79) rfl rfl fun a w hF hS => nil (then_n ⟨(hS.weak (ms := [(23, .cells b_15 [.int .i64 rv_21.1.Low, .int .i64 rv_21.1.High] 40), (34, .cells b_16 [.int .i64 rv_34.1.Low, .int .i64 rv_34.1.High] 40), (38, .cells b_17 [.int .i64 rv_36.Exchanges, .slice p_59 rv_36.Lines.length c_59, .int .i64 rv_36.Hops, .slice p_60 rv_36.Loops.length c_60] 25), (39, .cells b_18 [.int .i64 rv_37.1.Low, .int .i64 rv_37.1.High] 40), (44, .cells b_19 [.int .i64 rv_41.1.Low, .int .i64 rv_41.1.High] 40), (47, .cells b_20 [.int .i64 rv_44.1.Low, .int .i64 rv_44.1.High] 40), (60, .cells b_21 [.int .i64 rv_56.Exchanges, .slice p_84 rv_56.Lines.length c_84, .int .i64 1, .slice p_85 rv_56.Loops.length c_85] 25)]) ⟨rfl, rfl, rfl, rfl, rfl, rfl, rfl, trivial⟩).weakD (hlev_111.trans (hlev_112.trans (hlev_113.trans hlev_114))) hle0, ?_⟩)
                         refine stepV (i := 80) rfl hF (fun w hS => Y.pick_t hF rfl hbv_60 rfl) rfl fun a hF => ?_
                         obtain rfl := some_inj h
                         exact hcut _ _ ⟨Dv_114, hlev_112.trans (hlev_113.trans hlev_114), hF.weak ⟨rfl, rfl, rfl, rfl, rfl, rfl, rfl, rfl, rfl, rfl, trivial⟩, hS.weak ⟨rfl, rfl, rfl, rfl, rfl, rfl, rfl, trivial⟩⟩
                        refine oneV (i := 77) rfl ?_ trivial
                        refine guard_on hF rfl rfl hbv_60 ?_
                        have hr_69 : Reps C_int Dv_111 [2, 1] [.int .i64 2, .int .i64 1] := Reps.cons (C := C_int) (x := 2) (c := [.int .i64 2]) (r := [.int .i64 1]) rfl (Reps.cons (C := C_int) (x := 1) (c := [.int .i64 1]) (r := []) rfl (Reps.nil))
                        refine O.buildSlice (E := 3) (C := C_int) (xs := [2, 1]) (cs := [.int .i64 2, .int .i64 1]) (us := [.int .i64 2, .int .i64 1]) (parts := [(0, (.const (.int .i64 2))), (1, (.const (.int .i64 1)))]) 73 hF hS rfl (by kernel_rfl) hr_69 rfl rfl rfl fun p_103 c_103 a w hF hS => nil (then_n ⟨(hS.weak (ms := [(23, .cells b_15 [.int .i64 rv_21.1.Low, .int .i64 rv_21.1.High] 40), (34, .cells b_16 [.int .i64 rv_34.1.Low, .int .i64 rv_34.1.High] 40), (38, .cells b_17 [.int .i64 rv_36.Exchanges, .slice p_59 rv_36.Lines.length c_59, .int .i64 rv_36.Hops, .slice p_60 rv_36.Loops.length c_60] 25), (39, .cells b_18 [.int .i64 rv_37.1.Low, .int .i64 rv_37.1.High] 40), (44, .cells b_19 [.int .i64 rv_41.1.Low, .int .i64 rv_41.1.High] 40), (47, .cells b_20 [.int .i64 rv_44.1.Low, .int .i64 rv_44.1.High] 40), (60, .cells b_21 [.int .i64 rv_56.Exchanges, .slice p_84 rv_56.Lines.length c_84, .int .i64 1, .slice p_85 rv_56.Loops.length c_85] 25)]) ⟨rfl, rfl, rfl, rfl, rfl, rfl, rfl, trivial⟩).weakD hlev_111 hle0, ?_⟩)
                        refine oneV (i := 76) rfl ?_ trivial
                        refine guard_on hF rfl rfl hbv_60 ?_
                        have hr_70 : Reps C_int Dv_111 [0] [.int .i64 0] := Reps.cons (C := C_int) (x := 0) (c := [.int .i64 0]) (r := []) rfl (Reps.nil)
                        refine O.buildSlice (E := 3) (C := C_int) (xs := [0]) (cs := [.int .i64 0]) (us := [.int .i64 0]) (parts := [(0, (.const (.int .i64 0)))]) 74 hF hS rfl (by kernel_rfl) hr_70 rfl rfl rfl fun p_104 c_104 a w hF hS => nil (then_n ⟨(hS.weak (ms := [(23, .cells b_15 [.int .i64 rv_21.1.Low, .int .i64 rv_21.1.High] 40), (34, .cells b_16 [.int .i64 rv_34.1.Low, .int .i64 rv_34.1.High] 40), (38, .cells b_17 [.int .i64 rv_36.Exchanges, .slice p_59 rv_36.Lines.length c_59, .int .i64 rv_36.Hops, .slice p_60 rv_36.Loops.length c_60] 25), (39, .cells b_18 [.int .i64 rv_37.1.Low, .int .i64 rv_37.1.High] 40), (44, .cells b_19 [.int .i64 rv_41.1.Low, .int .i64 rv_41.1.High] 40), (47, .cells b_20 [.int .i64 rv_44.1.Low, .int .i64 rv_44.1.High] 40), (60, .cells b_21 [.int .i64 rv_56.Exchanges, .slice p_84 rv_56.Lines.length c_84, .int .i64 1, .slice p_85 rv_56.Loops.length c_85] 25)]) ⟨rfl, rfl, rfl, rfl, rfl, rfl, rfl, trivial⟩).weakD hlev_111 hle0, ?_⟩)
                        refine oneV (i := 78) rfl ?_ trivial
                        refine guard_on hF rfl rfl hbv_60 ?_
                        obtain ⟨Dv_115, hlev_115, hs_154, hS⟩ := hS.freezeC (C := C_int) (i := 74) (xs := [0]) rfl hr_70
                        replace hs_126 := hs_126.mono hlev_115
                        replace hr_69 := hr_69.mono hlev_115
                        obtain ⟨Dv_116, hlev_116, hs_155, hS⟩ := hS.freezeC (C := C_int) (i := 73) (xs := [2, 1]) rfl hr_69
                        replace hs_126 := hs_126.mono hlev_116
                        replace hs_154 := hs_154.mono hlev_116
                        have hr_71 : Reps (C_sl C_int) Dv_116 [[0], [2, 1]] [.slice p_104 ([0]).length c_104, .slice p_103 ([2, 1]).length c_103] := Reps.cons (C := (C_sl C_int)) (x := [0]) (c := [.slice p_104 ([0]).length c_104]) (r := [.slice p_103 ([2, 1]).length c_103]) (⟨_, _, rfl, hs_154⟩) (Reps.cons (C := (C_sl C_int)) (x := [2, 1]) (c := [.slice p_103 ([2, 1]).length c_103]) (r := []) (⟨_, _, rfl, hs_155⟩) (Reps.nil))
                        refine O.buildSlice (E := 32) (C := (C_sl C_int)) (xs := [[0], [2, 1]]) (cs := [.slice p_104 ([0]).length c_104, .slice p_103 ([2, 1]).length c_103]) (us := [.slice p_104 ([0]).length c_104, .slice p_103 ([2, 1]).length c_103]) (parts := [(0, (.tmp 426)), (1, (.tmp 427))]) 75 hF hS rfl (by kernel_rfl) hr_71 rfl rfl rfl fun p_105 c_105 a w hF hS => nil (then_n ⟨(hS.weak (ms := [(23, .cells b_15 [.int .i64 rv_21.1.Low, .int .i64 rv_21.1.High] 40), (34, .cells b_16 [.int .i64 rv_34.1.Low, .int .i64 rv_34.1.High] 40), (38, .cells b_17 [.int .i64 rv_36.Exchanges, .slice p_59 rv_36.Lines.length c_59, .int .i64 rv_36.Hops, .slice p_60 rv_36.Loops.length c_60] 25), (39, .cells b_18 [.int .i64 rv_37.1.Low, .int .i64 rv_37.1.High] 40), (44, .cells b_19 [.int .i64 rv_41.1.Low, .int .i64 rv_41.1.High] 40), (47, .cells b_20 [.int .i64 rv_44.1.Low, .int .i64 rv_44.1.High] 40), (60, .cells b_21 [.int .i64 rv_56.Exchanges, .slice p_84 rv_56.Lines.length c_84, .int .i64 1, .slice p_85 rv_56.Loops.length c_85] 25)]) ⟨rfl, rfl, rfl, rfl, rfl, rfl, rfl, trivial⟩).weakD (hlev_111.trans (hlev_115.trans hlev_116)) hle0, ?_⟩)
                        refine oneV (i := 79) rfl ?_ trivial
                        refine guard_on hF rfl rfl hbv_60 ?_
                        obtain ⟨Dv_117, hlev_117, hs_156, hS⟩ := hS.freezeC (C := (C_sl C_int)) (i := 75) (xs := [[0], [2, 1]]) rfl hr_71
                        replace hs_126 := hs_126.mono hlev_117
                        obtain ⟨rv_71, hx_80, h⟩ := bind_some h
                        refine O.callP (us := [.slice p_79 rv_53.1.length c_79, .slice p_105 ([[0], [2, 1]]).length c_105]) ca_17 hF hS (r0AlikeRows_ok hS.stab rv_53.1 ([[0], [2, 1]]) hs_126 hs_156 rv_71 hx_80) rfl rfl fun a w hF hS => nil (then_n ⟨(hS.weak (ms := [(23, .cells b_15 [.int .i64 rv_21.1.Low, .int .i64 rv_21.1.High] 40), (34, .cells b_16 [.int .i64 rv_34.1.Low, .int .i64 rv_34.1.High] 40), (38, .cells b_17 [.int .i64 rv_36.Exchanges, .slice p_59 rv_36.Lines.length c_59, .int .i64 rv_36.Hops, .slice p_60 rv_36.Loops.length c_60] 25), (39, .cells b_18 [.int .i64 rv_37.1.Low, .int .i64 rv_37.1.High] 40), (44, .cells b_19 [.int .i64 rv_41.1.Low, .int .i64 rv_41.1.High] 40), (47, .cells b_20 [.int .i64 rv_44.1.Low, .int .i64 rv_44.1.High] 40), (60, .cells b_21 [.int .i64 rv_56.Exchanges, .slice p_84 rv_56.Lines.length c_84, .int .i64 1, .slice p_85 rv_56.Loops.length c_85] 25)]) ⟨rfl, rfl, rfl, rfl, rfl, rfl, rfl, trivial⟩).weakD (hlev_111.trans (hlev_115.trans (hlev_116.trans hlev_117))) hle0, ?_⟩)
                        refine stepV (i := 80) rfl hF (fun w hS => Y.pick_t hF rfl hbv_60 rfl) rfl fun a hF => ?_
                        obtain rfl := some_inj h
                        exact hcut _ _ ⟨Dv_117, hlev_115.trans (hlev_116.trans hlev_117), hF.weak ⟨rfl, rfl, rfl, rfl, rfl, rfl, rfl, rfl, rfl, rfl, trivial⟩, hS.weak ⟨rfl, rfl, rfl, rfl, rfl, rfl, rfl, trivial⟩⟩
                      replace h := cond_f ht_13 hbv_60
                      refine stepV_off (i := 75) rfl hF rfl rfl hbv_60 rfl fun a hF => oneV (i := 76) rfl (guard_off hF rfl rfl hbv_60 rfl fun a hF => nil (then_n ⟨(hS.weak (ms := [(23, .cells b_15 [.int .i64 rv_21.1.Low, .int .i64 rv_21.1.High] 40), (34, .cells b_16 [.int .i64 rv_34.1.Low, .int .i64 rv_34.1.High] 40), (38, .cells b_17 [.int .i64 rv_36.Exchanges, .slice p_59 rv_36.Lines.length c_59, .int .i64 rv_36.Hops, .slice p_60 rv_36.Loops.length c_60] 25), (39, .cells b_18 [.int .i64 rv_37.1.Low, .int .i64 rv_37.1.High] 40), (44, .cells b_19 [.int .i64 rv_41.1.Low, .int .i64 rv_41.1.High] 40), (47, .cells b_20 [.int .i64 rv_44.1.Low, .int .i64 rv_44.1.High] 40), (60, .cells b_21 [.int .i64 rv_56.Exchanges, .slice p_84 rv_56.Lines.length c_84, .int .i64 1, .slice p_85 rv_56.Loops.length c_85] 25)]) ⟨rfl, rfl, rfl, rfl, rfl, rfl, rfl, trivial⟩).weakD hlev_111 hle0, ?_⟩)) ?_
                      ·skip
                       refine oneV (i := 77) rfl (guard_off hF rfl rfl hbv_60 rfl fun a hF => nil (then_n ⟨(hS.weak (ms := [(23, .cells b_15 [.int .i64 rv_21.1.Low, .int .i64 rv_21.1.High] 40), (34, .cells b_16 [.int .i64 rv_34.1.Low, .int .i64 rv_34.1.High] 40), (38, .cells b_17 [.int .i64 rv_36.Exchanges, .slice p_59 rv_36.Lines.length c_59, .int .i64 rv_36.Hops, .slice p_60 rv_36.Loops.length c_60] 25), (39, .cells b_18 [.int .i64 rv_37.1.Low, .int .i64 rv_37.1.High] 40), (44, .cells b_19 [.int .i64 rv_41.1.Low, .int .i64 rv_41.1.High] 40), (47, .cells b_20 [.int .i64 rv_44.1.Low, .int .i64 rv_44.1.High] 40), (60, .cells b_21 [.int .i64 rv_56.Exchanges, .slice p_84 rv_56.Lines.length c_84, .int .i64 1, .slice p_85 rv_56.Loops.length c_85] 25)]) ⟨rfl, rfl, rfl, rfl, rfl, rfl, rfl, trivial⟩).weakD hlev_111 hle0, ?_⟩)) trivial
                       refine oneV (i := 78) rfl (guard_off hF rfl rfl hbv_60 rfl fun a hF => nil (then_n ⟨(hS.weak (ms := [(23, .cells b_15 [.int .i64 rv_21.1.Low, .int .i64 rv_21.1.High] 40), (34, .cells b_16 [.int .i64 rv_34.1.Low, .int .i64 rv_34.1.High] 40), (38, .cells b_17 [.int .i64 rv_36.Exchanges, .slice p_59 rv_36.Lines.length c_59, .int .i64 rv_36.Hops, .slice p_60 rv_36.Loops.length c_60] 25), (39, .cells b_18 [.int .i64 rv_37.1.Low, .int .i64 rv_37.1.High] 40), (44, .cells b_19 [.int .i64 rv_41.1.Low, .int .i64 rv_41.1.High] 40), (47, .cells b_20 [.int .i64 rv_44.1.Low, .int .i64 rv_44.1.High] 40), (60, .cells b_21 [.int .i64 rv_56.Exchanges, .slice p_84 rv_56.Lines.length c_84, .int .i64 1, .slice p_85 rv_56.Loops.length c_85] 25)]) ⟨rfl, rfl, rfl, rfl, rfl, rfl, rfl, trivial⟩).weakD hlev_111 hle0, ?_⟩)) trivial
                       refine oneV (i := 79) rfl (guard_off hF rfl rfl hbv_60 rfl fun a hF => nil (then_n ⟨(hS.weak (ms := [(23, .cells b_15 [.int .i64 rv_21.1.Low, .int .i64 rv_21.1.High] 40), (34, .cells b_16 [.int .i64 rv_34.1.Low, .int .i64 rv_34.1.High] 40), (38, .cells b_17 [.int .i64 rv_36.Exchanges, .slice p_59 rv_36.Lines.length c_59, .int .i64 rv_36.Hops, .slice p_60 rv_36.Loops.length c_60] 25), (39, .cells b_18 [.int .i64 rv_37.1.Low, .int .i64 rv_37.1.High] 40), (44, .cells b_19 [.int .i64 rv_41.1.Low, .int .i64 rv_41.1.High] 40), (47, .cells b_20 [.int .i64 rv_44.1.Low, .int .i64 rv_44.1.High] 40), (60, .cells b_21 [.int .i64 rv_56.Exchanges, .slice p_84 rv_56.Lines.length c_84, .int .i64 1, .slice p_85 rv_56.Loops.length c_85] 25)]) ⟨rfl, rfl, rfl, rfl, rfl, rfl, rfl, trivial⟩).weakD hlev_111 hle0, ?_⟩)) trivial
                       refine stepV (i := 80) rfl hF (fun w hS => Y.pick_f hF rfl hbv_60 rfl) rfl fun a hF => ?_
                       obtain rfl := some_inj h
                       exact hcut _ _ ⟨Dv_111, Stab.le.refl _, hF.weak ⟨rfl, rfl, rfl, rfl, rfl, rfl, rfl, rfl, rfl, rfl, trivial⟩, hS.weak ⟨rfl, rfl, rfl, rfl, rfl, rfl, rfl, trivial⟩⟩
                      refine oneV (i := 77) rfl (guard_off hF rfl rfl hbv_60 rfl fun a hF => nil (then_n ⟨(hS.weak (ms := [(23, .cells b_15 [.int .i64 rv_21.1.Low, .int .i64 rv_21.1.High] 40), (34, .cells b_16 [.int .i64 rv_34.1.Low, .int .i64 rv_34.1.High] 40), (38, .cells b_17 [.int .i64 rv_36.Exchanges, .slice p_59 rv_36.Lines.length c_59, .int .i64 rv_36.Hops, .slice p_60 rv_36.Loops.length c_60] 25), (39, .cells b_18 [.int .i64 rv_37.1.Low, .int .i64 rv_37.1.High] 40), (44, .cells b_19 [.int .i64 rv_41.1.Low, .int .i64 rv_41.1.High] 40), (47, .cells b_20 [.int .i64 rv_44.1.Low, .int .i64 rv_44.1.High] 40), (60, .cells b_21 [.int .i64 rv_56.Exchanges, .slice p_84 rv_56.Lines.length c_84, .int .i64 1, .slice p_85 rv_56.Loops.length c_85] 25)]) ⟨rfl, rfl, rfl, rfl, rfl, rfl, rfl, trivial⟩).weakD hlev_111 hle0, ?_⟩)) trivial
                      refine oneV (i := 76) rfl (guard_off hF rfl rfl hbv_60 rfl fun a hF => nil (then_n ⟨(hS.weak (ms := [(23, .cells b_15 [.int .i64 rv_21.1.Low, .int .i64 rv_21.1.High] 40), (34, .cells b_16 [.int .i64 rv_34.1.Low, .int .i64 rv_34.1.High] 40), (38, .cells b_17 [.int .i64 rv_36.Exchanges, .slice p_59 rv_36.Lines.length c_59, .int .i64 rv_36.Hops, .slice p_60 rv_36.Loops.length c_60] 25), (39, .cells b_18 [.int .i64 rv_37.1.Low, .int .i64 rv_37.1.High] 40), (44, .cells b_19 [.int .i64 rv_41.1.Low, .int .i64 rv_41.1.High] 40), (47, .cells b_20 [.int .i64 rv_44.1.Low, .int .i64 rv_44.1.High] 40), (60, .cells b_21 [.int .i64 rv_56.Exchanges, .slice p_84 rv_56.Lines.length c_84, .int .i64 1, .slice p_85 rv_56.Loops.length c_85] 25)]) ⟨rfl, rfl, rfl, rfl, rfl, rfl, rfl, trivial⟩).weakD hlev_111 hle0, ?_⟩)) trivial
                      refine oneV (i := 78) rfl (guard_off hF rfl rfl hbv_60 rfl fun a hF => nil (then_n ⟨(hS.weak (ms := [(23, .cells b_15 [.int .i64 rv_21.1.Low, .int .i64 rv_21.1.High] 40), (34, .cells b_16 [.int .i64 rv_34.1.Low, .int .i64 rv_34.1.High] 40), (38, .cells b_17 [.int .i64 rv_36.Exchanges, .slice p_59 rv_36.Lines.length c_59, .int .i64 rv_36.Hops, .slice p_60 rv_36.Loops.length c_60] 25), (39, .cells b_18 [.int .i64 rv_37.1.Low, .int .i64 rv_37.1.High] 40), (44, .cells b_19 [.int .i64 rv_41.1.Low, .int .i64 rv_41.1.High] 40), (47, .cells b_20 [.int .i64 rv_44.1.Low, .int .i64 rv_44.1.High] 40), (60, .cells b_21 [.int .i64 rv_56.Exchanges, .slice p_84 rv_56.Lines.length c_84, .int .i64 1, .slice p_85 rv_56.Loops.length c_85] 25)]) ⟨rfl, rfl, rfl, rfl, rfl, rfl, rfl, trivial⟩).weakD hlev_111 hle0, ?_⟩)) trivial
                      refine oneV (i := 79) rfl (guard_off hF rfl rfl hbv_60 rfl fun a hF => nil (then_n ⟨(hS.weak (ms := [(23, .cells b_15 [.int .i64 rv_21.1.Low, .int .i64 rv_21.1.High] 40), (34, .cells b_16 [.int .i64 rv_34.1.Low, .int .i64 rv_34.1.High] 40), (38, .cells b_17 [.int .i64 rv_36.Exchanges, .slice p_59 rv_36.Lines.length c_59, .int .i64 rv_36.Hops, .slice p_60 rv_36.Loops.length c_60] 25), (39, .cells b_18 [.int .i64 rv_37.1.Low, .int .i64 rv_37.1.High] 40), (44, .cells b_19 [.int .i64 rv_41.1.Low, .int .i64 rv_41.1.High] 40), (47, .cells b_20 [.int .i64 rv_44.1.Low, .int .i64 rv_44.1.High] 40), (60, .cells b_21 [.int .i64 rv_56.Exchanges, .slice p_84 rv_56.Lines.length c_84, .int .i64 1, .slice p_85 rv_56.Loops.length c_85] 25)]) ⟨rfl, rfl, rfl, rfl, rfl, rfl, rfl, trivial⟩).weakD hlev_111 hle0, ?_⟩)) trivial
                      refine stepV (i := 80) rfl hF (fun w hS => Y.pick_f hF rfl hbv_60 rfl) rfl fun a hF => ?_
                      obtain rfl := some_inj h
                      exact hcut _ _ ⟨Dv_111, Stab.le.refl _, hF.weak ⟨rfl, rfl, rfl, rfl, rfl, rfl, rfl, rfl, rfl, rfl, trivial⟩, hS.weak ⟨rfl, rfl, rfl, rfl, rfl, rfl, rfl, trivial⟩⟩
                    as_aux_lemma =>
                     skip
                     rintro a w ⟨Dv_118, hlev_118, hF, hS⟩
                     replace hG := hG.mono hlev_118
                     replace hs_131 := hs_131.mono hlev_118
                     replace hs_137 := hs_137.mono hlev_118
                     replace hs_139 := hs_139.mono hlev_118
                     refine stepV (i := 81) rfl hF (fun w hS => Y.move hF rfl) rfl fun a hF => cutV (u := remontoirlaw06_LineKnown_tr3_85) (fun a w => Frm 473 [] [(0, .bool v0_0), (47, .slice p_82 rv_55.1.length c_82), (48, .slice p_83 rv_55.2.1.length c_83), (51, .slice p_86 rv_57.1.length c_86), (52, .int .i64 rv_57.2), (54, .int .i64 rv_58.2), (55, .slice p_88 y.length c_88), (56, .int .i64 z), (434, .bool (t_13 && (rv_55.2.2 == 0)))] a ∧ St w0 D0 Dv_118 [(23, .cells b_15 [.int .i64 rv_21.1.Low, .int .i64 rv_21.1.High] 40), (34, .cells b_16 [.int .i64 rv_34.1.Low, .int .i64 rv_34.1.High] 40), (38, .cells b_17 [.int .i64 rv_36.Exchanges, .slice p_59 rv_36.Lines.length c_59, .int .i64 rv_36.Hops, .slice p_60 rv_36.Loops.length c_60] 25), (39, .cells b_18 [.int .i64 rv_37.1.Low, .int .i64 rv_37.1.High] 40), (44, .cells b_19 [.int .i64 rv_41.1.Low, .int .i64 rv_41.1.High] 40), (47, .cells b_20 [.int .i64 rv_44.1.Low, .int .i64 rv_44.1.High] 40), (60, .cells b_21 [.int .i64 rv_56.Exchanges, .slice p_84 rv_56.Lines.length c_84, .int .i64 1, .slice p_85 rv_56.Loops.length c_85] 25)] w) ?_ ?_
                     ·intro hcut
                      rcases bcases t_13 with hbv_61 | hbv_61
                      ·skip
                       refine stepV_on (i := 82) rfl hF rfl rfl hbv_61 (fun w hS => Y.move hF rfl) rfl fun a hF => stepV_on (i := 83) rfl hF rfl rfl hbv_61 (fun w hS => Y.eql hF rfl rfl) rfl fun a hF => stepV (i := 84) rfl hF (fun w hS => Y.pick_t hF rfl hbv_61 rfl) rfl fun a hF => hcut _ _ ⟨hF.weak ⟨rfl, rfl, rfl, rfl, rfl, rfl, rfl, rfl, (by rw [hbv_61]; rfl), trivial⟩, hS.weak ⟨rfl, rfl, rfl, rfl, rfl, rfl, rfl, trivial⟩⟩
                      refine stepV_off (i := 82) rfl hF rfl rfl hbv_61 rfl fun a hF => stepV_off (i := 83) rfl hF rfl rfl hbv_61 rfl fun a hF => stepV (i := 84) rfl hF (fun w hS => Y.pick_f hF rfl hbv_61 rfl) rfl fun a hF => hcut _ _ ⟨hF.weak ⟨rfl, rfl, rfl, rfl, rfl, rfl, rfl, rfl, (by rw [hbv_61]; rfl), trivial⟩, hS.weak ⟨rfl, rfl, rfl, rfl, rfl, rfl, rfl, trivial⟩⟩
                     as_aux_lemma =>
                      skip
                      rintro a w ⟨hF, hS⟩
                      refine stepV (i := 85) rfl hF (fun w hS => Y.move hF rfl) rfl fun a hF => ?_
                      obtain ⟨t_14, ht_14, h⟩ := bind_some h
                      refine cutV (u := remontoirlaw06_LineKnown_tr3_90) (fun a w => ∃ (D : Stab), Dv_118.le D ∧ Frm 473 [] [(0, .bool v0_0), (48, .slice p_83 rv_55.2.1.length c_83), (51, .slice p_86 rv_57.1.length c_86), (52, .int .i64 rv_57.2), (54, .int .i64 rv_58.2), (55, .slice p_88 y.length c_88), (56, .int .i64 z), (439, .bool t_14)] a ∧ St w0 D0 D [(23, .cells b_15 [.int .i64 rv_21.1.Low, .int .i64 rv_21.1.High] 40), (34, .cells b_16 [.int .i64 rv_34.1.Low, .int .i64 rv_34.1.High] 40), (38, .cells b_17 [.int .i64 rv_36.Exchanges, .slice p_59 rv_36.Lines.length c_59, .int .i64 rv_36.Hops, .slice p_60 rv_36.Loops.length c_60] 25), (39, .cells b_18 [.int .i64 rv_37.1.Low, .int .i64 rv_37.1.High] 40), (44, .cells b_19 [.int .i64 rv_41.1.Low, .int .i64 rv_41.1.High] 40), (47, .cells b_20 [.int .i64 rv_44.1.Low, .int .i64 rv_44.1.High] 40), (60, .cells b_21 [.int .i64 rv_56.Exchanges, .slice p_84 rv_56.Lines.length c_84, .int .i64 1, .slice p_85 rv_56.Loops.length c_85] 25)] w) ?_ ?_
                      ·intro hcut
                       rcases bcases (t_13 && (rv_55.2.2 == 0)) with hbv_62 | hbv_62
                       ·skip
                        replace h := cond_t ht_14 hbv_62
                        refine stepV_on (i := 86) rfl hF rfl rfl hbv_62 (fun w hS => Y.move hF rfl) rfl fun a hF => oneV (i := 87) rfl ?_ trivial
                        refine guard_on hF rfl rfl hbv_62 ?_
                        have hr_72 : Reps C_int Dv_118 [3] [.int .i64 3] := Reps.cons (C := C_int) (x := 3) (c := [.int .i64 3]) (r := []) rfl (Reps.nil)
                        refine O.buildSlice (E := 3) (C := C_int) (xs := [3]) (cs := [.int .i64 3]) (us := [.int .i64 3]) (parts := [(0, (.const (.int .i64 3)))]) 76 hF hS rfl (by kernel_rfl) hr_72 rfl rfl rfl fun p_106 c_106 a w hF hS => nil (then_n ⟨(hS.weak (ms := [(23, .cells b_15 [.int .i64 rv_21.1.Low, .int .i64 rv_21.1.High] 40), (34, .cells b_16 [.int .i64 rv_34.1.Low, .int .i64 rv_34.1.High] 40), (38, .cells b_17 [.int .i64 rv_36.Exchanges, .slice p_59 rv_36.Lines.length c_59, .int .i64 rv_36.Hops, .slice p_60 rv_36.Loops.length c_60] 25), (39, .cells b_18 [.int .i64 rv_37.1.Low, .int .i64 rv_37.1.High] 40), (44, .cells b_19 [.int .i64 rv_41.1.Low, .int .i64 rv_41.1.High] 40), (47, .cells b_20 [.int .i64 rv_44.1.Low, .int .i64 rv_44.1.High] 40), (60, .cells b_21 [.int .i64 rv_56.Exchanges, .slice p_84 rv_56.Lines.length c_84, .int .i64 1, .slice p_85 rv_56.Loops.length c_85] 25)]) ⟨rfl, rfl, rfl, rfl, rfl, rfl, rfl, trivial⟩).weakD (hlev_111.trans hlev_118) hle0, ?_⟩)
                        refine oneV (i := 88) rfl ?_ trivial
                        refine guard_on hF rfl rfl hbv_62 ?_
                        obtain ⟨Dv_119, hlev_119, hs_157, hS⟩ := hS.freezeC (C := C_int) (i := 76) (xs := [3]) rfl hr_72
                        replace hs_131 := hs_131.mono hlev_119
                        obtain ⟨rv_72, hx_81, h⟩ := bind_some h
                        refine O.callP (us := [.slice p_82 rv_55.1.length c_82, .slice p_106 ([3]).length c_106]) ca_22 hF hS (r0Alike_ok hS.stab rv_55.1 ([3]) hs_131 hs_157 rv_72 hx_81) rfl rfl fun a w hF hS => nil (then_n ⟨(hS.weak (ms := [(23, .cells b_15 [.int .i64 rv_21.1.Low, .int .i64 rv_21.1.High] 40), (34, .cells b_16 [.int .i64 rv_34.1.Low, .int .i64 rv_34.1.High] 40), (38, .cells b_17 [.int .i64 rv_36.Exchanges, .slice p_59 rv_36.Lines.length c_59, .int .i64 rv_36.Hops, .slice p_60 rv_36.Loops.length c_60] 25), (39, .cells b_18 [.int .i64 rv_37.1.Low, .int .i64 rv_37.1.High] 40), (44, .cells b_19 [.int .i64 rv_41.1.Low, .int .i64 rv_41.1.High] 40), (47, .cells b_20 [.int .i64 rv_44.1.Low, .int .i64 rv_44.1.High] 40), (60, .cells b_21 [.int .i64 rv_56.Exchanges, .slice p_84 rv_56.Lines.length c_84, .int .i64 1, .slice p_85 rv_56.Loops.length c_85] 25)]) ⟨rfl, rfl, rfl, rfl, rfl, rfl, rfl, trivial⟩).weakD (hlev_111.trans (hlev_118.trans hlev_119)) hle0, ?_⟩)
                        refine stepV (i := 89) rfl hF (fun w hS => Y.pick_t hF rfl hbv_62 rfl) rfl fun a hF => ?_
                        obtain rfl := some_inj h
                        exact hcut _ _ ⟨Dv_119, hlev_119, hF.weak ⟨rfl, rfl, rfl, rfl, rfl, rfl, rfl, rfl, trivial⟩, hS.weak ⟨rfl, rfl, rfl, rfl, rfl, rfl, rfl, trivial⟩⟩
                       replace h := cond_f ht_14 hbv_62
                       refine stepV_off (i := 86) rfl hF rfl rfl hbv_62 rfl fun a hF => oneV (i := 87) rfl (guard_off hF rfl rfl hbv_62 rfl fun a hF => nil (then_n ⟨(hS.weak (ms := [(23, .cells b_15 [.int .i64 rv_21.1.Low, .int .i64 rv_21.1.High] 40), (34, .cells b_16 [.int .i64 rv_34.1.Low, .int .i64 rv_34.1.High] 40), (38, .cells b_17 [.int .i64 rv_36.Exchanges, .slice p_59 rv_36.Lines.length c_59, .int .i64 rv_36.Hops, .slice p_60 rv_36.Loops.length c_60] 25), (39, .cells b_18 [.int .i64 rv_37.1.Low, .int .i64 rv_37.1.High] 40), (44, .cells b_19 [.int .i64 rv_41.1.Low, .int .i64 rv_41.1.High] 40), (47, .cells b_20 [.int .i64 rv_44.1.Low, .int .i64 rv_44.1.High] 40), (60, .cells b_21 [.int .i64 rv_56.Exchanges, .slice p_84 rv_56.Lines.length c_84, .int .i64 1, .slice p_85 rv_56.Loops.length c_85] 25)]) ⟨rfl, rfl, rfl, rfl, rfl, rfl, rfl, trivial⟩).weakD (hlev_111.trans hlev_118) hle0, ?_⟩)) trivial
                       refine oneV (i := 88) rfl (guard_off hF rfl rfl hbv_62 rfl fun a hF => nil (then_n ⟨(hS.weak (ms := [(23, .cells b_15 [.int .i64 rv_21.1.Low, .int .i64 rv_21.1.High] 40), (34, .cells b_16 [.int .i64 rv_34.1.Low, .int .i64 rv_34.1.High] 40), (38, .cells b_17 [.int .i64 rv_36.Exchanges, .slice p_59 rv_36.Lines.length c_59, .int .i64 rv_36.Hops, .slice p_60 rv_36.Loops.length c_60] 25), (39, .cells b_18 [.int .i64 rv_37.1.Low, .int .i64 rv_37.1.High] 40), (44, .cells b_19 [.int .i64 rv_41.1.Low, .int .i64 rv_41.1.High] 40), (47, .cells b_20 [.int .i64 rv_44.1.Low, .int .i64 rv_44.1.High] 40), (60, .cells b_21 [.int .i64 rv_56.Exchanges, .slice p_84 rv_56.Lines.length c_84, .int .i64 1, .slice p_85 rv_56.Loops.length c_85] 25)]) ⟨rfl, rfl, rfl, rfl, rfl, rfl, rfl, trivial⟩).weakD (hlev_111.trans hlev_118) hle0, ?_⟩)) trivial
                       refine stepV (i := 89) rfl hF (fun w hS => Y.pick_f hF rfl hbv_62 rfl) rfl fun a hF => ?_
                       obtain rfl := some_inj h
                       exact hcut _ _ ⟨Dv_118, Stab.le.refl _, hF.weak ⟨rfl, rfl, rfl, rfl, rfl, rfl, rfl, rfl, trivial⟩, hS.weak ⟨rfl, rfl, rfl, rfl, rfl, rfl, rfl, trivial⟩⟩
                      as_aux_lemma =>
                       skip
                       rintro a w ⟨Dv_120, hlev_120, hF, hS⟩
                       replace hG := hG.mono hlev_120
                       replace hs_137 := hs_137.mono hlev_120
                       replace hs_139 := hs_139.mono hlev_120
                       refine stepV (i := 90) rfl hF (fun w hS => Y.move hF rfl) rfl fun a hF => cutV (u := remontoirlaw06_LineKnown_tr3_95) (fun a w => Frm 473 [] [(0, .bool v0_0), (51, .slice p_86 rv_57.1.length c_86), (52, .int .i64 rv_57.2), (54, .int .i64 rv_58.2), (55, .slice p_88 y.length c_88), (56, .int .i64 z), (444, .bool (t_14 && ((rv_55.2.1.length : Int) == 0)))] a ∧ St w0 D0 Dv_120 [(23, .cells b_15 [.int .i64 rv_21.1.Low, .int .i64 rv_21.1.High] 40), (34, .cells b_16 [.int .i64 rv_34.1.Low, .int .i64 rv_34.1.High] 40), (38, .cells b_17 [.int .i64 rv_36.Exchanges, .slice p_59 rv_36.Lines.length c_59, .int .i64 rv_36.Hops, .slice p_60 rv_36.Loops.length c_60] 25), (39, .cells b_18 [.int .i64 rv_37.1.Low, .int .i64 rv_37.1.High] 40), (44, .cells b_19 [.int .i64 rv_41.1.Low, .int .i64 rv_41.1.High] 40), (47, .cells b_20 [.int .i64 rv_44.1.Low, .int .i64 rv_44.1.High] 40), (60, .cells b_21 [.int .i64 rv_56.Exchanges, .slice p_84 rv_56.Lines.length c_84, .int .i64 1, .slice p_85 rv_56.Loops.length c_85] 25)] w) ?_ ?_
                       ·intro hcut
                        rcases bcases t_14 with hbv_63 | hbv_63
                        ·skip
                         refine stepV_on (i := 91) rfl hF rfl rfl hbv_63 (fun w hS => Y.move hF rfl) rfl fun a hF => stepV_on (i := 92) rfl hF rfl rfl hbv_63 (fun w hS => Y.lenSl u_32 hF rfl) rfl fun a hF => stepV_on (i := 93) rfl hF rfl rfl hbv_63 (fun w hS => Y.eql hF rfl rfl) rfl fun a hF => stepV (i := 94) rfl hF (fun w hS => Y.pick_t hF rfl hbv_63 rfl) rfl fun a hF => hcut _ _ ⟨hF.weak ⟨rfl, rfl, rfl, rfl, rfl, rfl, (by rw [hbv_63]; rfl), trivial⟩, hS.weak ⟨rfl, rfl, rfl, rfl, rfl, rfl, rfl, trivial⟩⟩
                        refine stepV_off (i := 91) rfl hF rfl rfl hbv_63 rfl fun a hF => stepV_off (i := 92) rfl hF rfl rfl hbv_63 rfl fun a hF => stepV_off (i := 93) rfl hF rfl rfl hbv_63 rfl fun a hF => stepV (i := 94) rfl hF (fun w hS => Y.pick_f hF rfl hbv_63 rfl) rfl fun a hF => hcut _ _ ⟨hF.weak ⟨rfl, rfl, rfl, rfl, rfl, rfl, (by rw [hbv_63]; rfl), trivial⟩, hS.weak ⟨rfl, rfl, rfl, rfl, rfl, rfl, rfl, trivial⟩⟩
                       as_aux_lemma =>
                        skip
                        rintro a w ⟨hF, hS⟩
                        refine stepV (i := 95) rfl hF (fun w hS => Y.move hF rfl) rfl fun a hF => cutV (u := remontoirlaw06_LineKnown_tr3_99) (fun a w => Frm 473 [] [(0, .bool v0_0), (51, .slice p_86 rv_57.1.length c_86), (54, .int .i64 rv_58.2), (55, .slice p_88 y.length c_88), (56, .int .i64 z), (448, .bool ((t_14 && ((rv_55.2.1.length : Int) == 0)) && (rv_57.2 == 0)))] a ∧ St w0 D0 Dv_120 [(23, .cells b_15 [.int .i64 rv_21.1.Low, .int .i64 rv_21.1.High] 40), (34, .cells b_16 [.int .i64 rv_34.1.Low, .int .i64 rv_34.1.High] 40), (38, .cells b_17 [.int .i64 rv_36.Exchanges, .slice p_59 rv_36.Lines.length c_59, .int .i64 rv_36.Hops, .slice p_60 rv_36.Loops.length c_60] 25), (39, .cells b_18 [.int .i64 rv_37.1.Low, .int .i64 rv_37.1.High] 40), (44, .cells b_19 [.int .i64 rv_41.1.Low, .int .i64 rv_41.1.High] 40), (47, .cells b_20 [.int .i64 rv_44.1.Low, .int .i64 rv_44.1.High] 40), (60, .cells b_21 [.int .i64 rv_56.Exchanges, .slice p_84 rv_56.Lines.length c_84, .int .i64 1, .slice p_85 rv_56.Loops.length c_85] 25)] w) ?_ ?_
                        ·intro hcut
                         rcases bcases (t_14 && ((rv_55.2.1.length : Int) == 0)) with hbv_64 | hbv_64
                         ·skip
                          refine stepV_on (i := 96) rfl hF rfl rfl hbv_64 (fun w hS => Y.move hF rfl) rfl fun a hF => stepV_on (i := 97) rfl hF rfl rfl hbv_64 (fun w hS => Y.eql hF rfl rfl) rfl fun a hF => stepV (i := 98) rfl hF (fun w hS => Y.pick_t hF rfl hbv_64 rfl) rfl fun a hF => hcut _ _ ⟨hF.weak ⟨rfl, rfl, rfl, rfl, rfl, (by rw [hbv_64]; rfl), trivial⟩, hS.weak ⟨rfl, rfl, rfl, rfl, rfl, rfl, rfl, trivial⟩⟩
                         refine stepV_off (i := 96) rfl hF rfl rfl hbv_64 rfl fun a hF => stepV_off (i := 97) rfl hF rfl rfl hbv_64 rfl fun a hF => stepV (i := 98) rfl hF (fun w hS => Y.pick_f hF rfl hbv_64 rfl) rfl fun a hF => hcut _ _ ⟨hF.weak ⟨rfl, rfl, rfl, rfl, rfl, (by rw [hbv_64]; rfl), trivial⟩, hS.weak ⟨rfl, rfl, rfl, rfl, rfl, rfl, rfl, trivial⟩⟩
                        as_aux_lemma =>
                         skip
                         rintro a w ⟨hF, hS⟩
                         refine stepV (i := 99) rfl hF (fun w hS => Y.move hF rfl) rfl fun a hF => ?_
                         obtain ⟨t_15, ht_15, h⟩ := bind_some h
                         refine cutV (u := remontoirlaw06_LineKnown_tr3_105) (fun a w => ∃ (D : Stab), Dv_120.le D ∧ Frm 473 [] [(0, .bool v0_0), (54, .int .i64 rv_58.2), (55, .slice p_88 y.length c_88), (56, .int .i64 z), (454, .bool t_15)] a ∧ St w0 D0 D [(23, .cells b_15 [.int .i64 rv_21.1.Low, .int .i64 rv_21.1.High] 40), (34, .cells b_16 [.int .i64 rv_34.1.Low, .int .i64 rv_34.1.High] 40), (38, .cells b_17 [.int .i64 rv_36.Exchanges, .slice p_59 rv_36.Lines.length c_59, .int .i64 rv_36.Hops, .slice p_60 rv_36.Loops.length c_60] 25), (39, .cells b_18 [.int .i64 rv_37.1.Low, .int .i64 rv_37.1.High] 40), (44, .cells b_19 [.int .i64 rv_41.1.Low, .int .i64 rv_41.1.High] 40), (47, .cells b_20 [.int .i64 rv_44.1.Low, .int .i64 rv_44.1.High] 40), (60, .cells b_21 [.int .i64 rv_56.Exchanges, .slice p_84 rv_56.Lines.length c_84, .int .i64 1, .slice p_85 rv_56.Loops.length c_85] 25)] w) ?_ ?_
                         ·intro hcut
                          rcases bcases ((t_14 && ((rv_55.2.1.length : Int) == 0)) && (rv_57.2 == 0)) with hbv_65 | hbv_65
                          ·skip
                           replace h := cond_t ht_15 hbv_65
                           refine stepV_on (i := 100) rfl hF rfl rfl hbv_65 (fun w hS => Y.move hF rfl) rfl fun a hF => oneV (i := 101) rfl ?_ trivial
                           refine guard_on hF rfl rfl hbv_65 ?_
                           have hr_73 : Reps C_int Dv_120 [2] [.int .i64 2] := Reps.cons (C := C_int) (x := 2) (c := [.int .i64 2]) (r := []) rfl (Reps.nil)
                           refine O.buildSlice (E := 3) (C := C_int) (xs := [2]) (cs := [.int .i64 2]) (us := [.int .i64 2]) (parts := [(0, (.const (.int .i64 2)))]) 77 hF hS rfl (by kernel_rfl) hr_73 rfl rfl rfl fun p_107 c_107 a w hF hS => nil (then_n ⟨(hS.weak (ms := [(23, .cells b_15 [.int .i64 rv_21.1.Low, .int .i64 rv_21.1.High] 40), (34, .cells b_16 [.int .i64 rv_34.1.Low, .int .i64 rv_34.1.High] 40), (38, .cells b_17 [.int .i64 rv_36.Exchanges, .slice p_59 rv_36.Lines.length c_59, .int .i64 rv_36.Hops, .slice p_60 rv_36.Loops.length c_60] 25), (39, .cells b_18 [.int .i64 rv_37.1.Low, .int .i64 rv_37.1.High] 40), (44, .cells b_19 [.int .i64 rv_41.1.Low, .int .i64 rv_41.1.High] 40), (47, .cells b_20 [.int .i64 rv_44.1.Low, .int .i64 rv_44.1.High] 40), (60, .cells b_21 [.int .i64 rv_56.Exchanges, .slice p_84 rv_56.Lines.length c_84, .int .i64 1, .slice p_85 rv_56.Loops.length c_85] 25)]) ⟨rfl, rfl, rfl, rfl, rfl, rfl, rfl, trivial⟩).weakD (hlev_111.trans (hlev_118.trans hlev_120)) hle0, ?_⟩)
                           refine oneV (i := 102) rfl ?_ trivial
                           refine guard_on hF rfl rfl hbv_65 ?_
                           obtain ⟨Dv_121, hlev_121, hs_158, hS⟩ := hS.freezeC (C := C_int) (i := 77) (xs := [2]) rfl hr_73
                           replace hs_137 := hs_137.mono hlev_121
                           have hr_74 : Reps (C_sl C_int) Dv_121 [[2]] [.slice p_107 ([2]).length c_107] := Reps.cons (C := (C_sl C_int)) (x := [2]) (c := [.slice p_107 ([2]).length c_107]) (r := []) (⟨_, _, rfl, hs_158⟩) (Reps.nil)
                           refine O.buildSlice (E := 32) (C := (C_sl C_int)) (xs := [[2]]) (cs := [.slice p_107 ([2]).length c_107]) (us := [.slice p_107 ([2]).length c_107]) (parts := [(0, (.tmp 451))]) 78 hF hS rfl (by kernel_rfl) hr_74 rfl rfl rfl fun p_108 c_108 a w hF hS => nil (then_n ⟨(hS.weak (ms := [(23, .cells b_15 [.int .i64 rv_21.1.Low, .int .i64 rv_21.1.High] 40), (34, .cells b_16 [.int .i64 rv_34.1.Low, .int .i64 rv_34.1.High] 40), (38, .cells b_17 [.int .i64 rv_36.Exchanges, .slice p_59 rv_36.Lines.length c_59, .int .i64 rv_36.Hops, .slice p_60 rv_36.Loops.length c_60] 25), (39, .cells b_18 [.int .i64 rv_37.1.Low, .int .i64 rv_37.1.High] 40), (44, .cells b_19 [.int .i64 rv_41.1.Low, .int .i64 rv_41.1.High] 40), (47, .cells b_20 [.int .i64 rv_44.1.Low, .int .i64 rv_44.1.High] 40), (60, .cells b_21 [.int .i64 rv_56.Exchanges, .slice p_84 rv_56.Lines.length c_84, .int .i64 1, .slice p_85 rv_56.Loops.length c_85] 25)]) ⟨rfl, rfl, rfl, rfl, rfl, rfl, rfl, trivial⟩).weakD (hlev_111.trans (hlev_118.trans (hlev_120.trans hlev_121))) hle0, ?_⟩)
                           refine oneV (i := 103) rfl ?_ trivial
                           refine guard_on hF rfl rfl hbv_65 ?_
                           obtain ⟨Dv_122, hlev_122, hs_159, hS⟩ := hS.freezeC (C := (C_sl C_int)) (i := 78) (xs := [[2]]) rfl hr_74
                           replace hs_137 := hs_137.mono hlev_122
                           obtain ⟨rv_73, hx_82, h⟩ := bind_some h
                           refine O.callP (us := [.slice p_86 rv_57.1.length c_86, .slice p_108 ([[2]]).length c_108]) ca_17 hF hS (r0AlikeRows_ok hS.stab rv_57.1 ([[2]]) hs_137 hs_159 rv_73 hx_82) rfl rfl fun a w hF hS => nil (then_n ⟨(hS.weak (ms := [(23, .cells b_15 [.int .i64 rv_21.1.Low, .int .i64 rv_21.1.High] 40), (34, .cells b_16 [.int .i64 rv_34.1.Low, .int .i64 rv_34.1.High] 40), (38, .cells b_17 [.int .i64 rv_36.Exchanges, .slice p_59 rv_36.Lines.length c_59, .int .i64 rv_36.Hops, .slice p_60 rv_36.Loops.length c_60] 25), (39, .cells b_18 [.int .i64 rv_37.1.Low, .int .i64 rv_37.1.High] 40), (44, .cells b_19 [.int .i64 rv_41.1.Low, .int .i64 rv_41.1.High] 40), (47, .cells b_20 [.int .i64 rv_44.1.Low, .int .i64 rv_44.1.High] 40), (60, .cells b_21 [.int .i64 rv_56.Exchanges, .slice p_84 rv_56.Lines.length c_84, .int .i64 1, .slice p_85 rv_56.Loops.length c_85] 25)]) ⟨rfl, rfl, rfl, rfl, rfl, rfl, rfl, trivial⟩).weakD (hlev_111.trans (hlev_118.trans (hlev_120.trans (hlev_121.trans hlev_122)))) hle0, ?_⟩)
                           refine stepV (i := 104) rfl hF (fun w hS => Y.pick_t hF rfl hbv_65 rfl) rfl fun a hF => ?_
                           obtain rfl := some_inj h
                           exact hcut _ _ ⟨Dv_122, hlev_121.trans hlev_122, hF.weak ⟨rfl, rfl, rfl, rfl, rfl, trivial⟩, hS.weak ⟨rfl, rfl, rfl, rfl, rfl, rfl, rfl, trivial⟩⟩
                          replace h := cond_f ht_15 hbv_65
                          refine stepV_off (i := 100) rfl hF rfl rfl hbv_65 rfl fun a hF => oneV (i := 101) rfl (guard_off hF rfl rfl hbv_65 rfl fun a hF => nil (then_n ⟨(hS.weak (ms := [(23, .cells b_15 [.int .i64 rv_21.1.Low, .int .i64 rv_21.1.High] 40), (34, .cells b_16 [.int .i64 rv_34.1.Low, .int .i64 rv_34.1.High] 40), (38, .cells b_17 [.int .i64 rv_36.Exchanges, .slice p_59 rv_36.Lines.length c_59, .int .i64 rv_36.Hops, .slice p_60 rv_36.Loops.length c_60] 25), (39, .cells b_18 [.int .i64 rv_37.1.Low, .int .i64 rv_37.1.High] 40), (44, .cells b_19 [.int .i64 rv_41.1.Low, .int .i64 rv_41.1.High] 40), (47, .cells b_20 [.int .i64 rv_44.1.Low, .int .i64 rv_44.1.High] 40), (60, .cells b_21 [.int .i64 rv_56.Exchanges, .slice p_84 rv_56.Lines.length c_84, .int .i64 1, .slice p_85 rv_56.Loops.length c_85] 25)]) ⟨rfl, rfl, rfl, rfl, rfl, rfl, rfl, trivial⟩).weakD (hlev_111.trans (hlev_118.trans hlev_120)) hle0, ?_⟩)) trivial
                          refine oneV (i := 102) rfl (guard_off hF rfl rfl hbv_65 rfl fun a hF => nil (then_n ⟨(hS.weak (ms := [(23, .cells b_15 [.int .i64 rv_21.1.Low, .int .i64 rv_21.1.High] 40), (34, .cells b_16 [.int .i64 rv_34.1.Low, .int .i64 rv_34.1.High] 40), (38, .cells b_17 [.int .i64 rv_36.Exchanges, .slice p_59 rv_36.Lines.length c_59, .int .i64 rv_36.Hops, .slice p_60 rv_36.Loops.length c_60] 25), (39, .cells b_18 [.int .i64 rv_37.1.Low, .int .i64 rv_37.1.High] 40), (44, .cells b_19 [.int .i64 rv_41.1.Low, .int .i64 rv_41.1.High] 40), (47, .cells b_20 [.int .i64 rv_44.1.Low, .int .i64 rv_44.1.High] 40), (60, .cells b_21 [.int .i64 rv_56.Exchanges, .slice p_84 rv_56.Lines.length c_84, .int .i64 1, .slice p_85 rv_56.Loops.length c_85] 25)]) ⟨rfl, rfl, rfl, rfl, rfl, rfl, rfl, trivial⟩).weakD (hlev_111.trans (hlev_118.trans hlev_120)) hle0, ?_⟩)) trivial
                          refine oneV (i := 103) rfl (guard_off hF rfl rfl hbv_65 rfl fun a hF => nil (then_n ⟨(hS.weak (ms := [(23, .cells b_15 [.int .i64 rv_21.1.Low, .int .i64 rv_21.1.High] 40), (34, .cells b_16 [.int .i64 rv_34.1.Low, .int .i64 rv_34.1.High] 40), (38, .cells b_17 [.int .i64 rv_36.Exchanges, .slice p_59 rv_36.Lines.length c_59, .int .i64 rv_36.Hops, .slice p_60 rv_36.Loops.length c_60] 25), (39, .cells b_18 [.int .i64 rv_37.1.Low, .int .i64 rv_37.1.High] 40), (44, .cells b_19 [.int .i64 rv_41.1.Low, .int .i64 rv_41.1.High] 40), (47, .cells b_20 [.int .i64 rv_44.1.Low, .int .i64 rv_44.1.High] 40), (60, .cells b_21 [.int .i64 rv_56.Exchanges, .slice p_84 rv_56.Lines.length c_84, .int .i64 1, .slice p_85 rv_56.Loops.length c_85] 25)]) ⟨rfl, rfl, rfl, rfl, rfl, rfl, rfl, trivial⟩).weakD (hlev_111.trans (hlev_118.trans hlev_120)) hle0, ?_⟩)) trivial
                          refine stepV (i := 104) rfl hF (fun w hS => Y.pick_f hF rfl hbv_65 rfl) rfl fun a hF => ?_
                          obtain rfl := some_inj h
                          exact hcut _ _ ⟨Dv_120, Stab.le.refl _, hF.weak ⟨rfl, rfl, rfl, rfl, rfl, trivial⟩, hS.weak ⟨rfl, rfl, rfl, rfl, rfl, rfl, rfl, trivial⟩⟩
                         as_aux_lemma =>
                          skip
                          rintro a w ⟨Dv_123, hlev_123, hF, hS⟩
                          replace hG := hG.mono hlev_123
                          replace hs_139 := hs_139.mono hlev_123
                          refine stepV (i := 105) rfl hF (fun w hS => Y.move hF rfl) rfl fun a hF => cutV (u := remontoirlaw06_LineKnown_tr3_109) (fun a w => Frm 473 [] [(0, .bool v0_0), (55, .slice p_88 y.length c_88), (56, .int .i64 z), (458, .bool (t_15 && (rv_58.2 == 4)))] a ∧ St w0 D0 Dv_123 [(23, .cells b_15 [.int .i64 rv_21.1.Low, .int .i64 rv_21.1.High] 40), (34, .cells b_16 [.int .i64 rv_34.1.Low, .int .i64 rv_34.1.High] 40), (38, .cells b_17 [.int .i64 rv_36.Exchanges, .slice p_59 rv_36.Lines.length c_59, .int .i64 rv_36.Hops, .slice p_60 rv_36.Loops.length c_60] 25), (39, .cells b_18 [.int .i64 rv_37.1.Low, .int .i64 rv_37.1.High] 40), (44, .cells b_19 [.int .i64 rv_41.1.Low, .int .i64 rv_41.1.High] 40), (47, .cells b_20 [.int .i64 rv_44.1.Low, .int .i64 rv_44.1.High] 40), (60, .cells b_21 [.int .i64 rv_56.Exchanges, .slice p_84 rv_56.Lines.length c_84, .int .i64 1, .slice p_85 rv_56.Loops.length c_85] 25)] w) ?_ ?_
                          ·intro hcut
                           rcases bcases t_15 with hbv_66 | hbv_66
                           ·skip
                            refine stepV_on (i := 106) rfl hF rfl rfl hbv_66 (fun w hS => Y.move hF rfl) rfl fun a hF => stepV_on (i := 107) rfl hF rfl rfl hbv_66 (fun w hS => Y.eql hF rfl rfl) rfl fun a hF => stepV (i := 108) rfl hF (fun w hS => Y.pick_t hF rfl hbv_66 rfl) rfl fun a hF => hcut _ _ ⟨hF.weak ⟨rfl, rfl, rfl, (by rw [hbv_66]; rfl), trivial⟩, hS.weak ⟨rfl, rfl, rfl, rfl, rfl, rfl, rfl, trivial⟩⟩
                           refine stepV_off (i := 106) rfl hF rfl rfl hbv_66 rfl fun a hF => stepV_off (i := 107) rfl hF rfl rfl hbv_66 rfl fun a hF => stepV (i := 108) rfl hF (fun w hS => Y.pick_f hF rfl hbv_66 rfl) rfl fun a hF => hcut _ _ ⟨hF.weak ⟨rfl, rfl, rfl, (by rw [hbv_66]; rfl), trivial⟩, hS.weak ⟨rfl, rfl, rfl, rfl, rfl, rfl, rfl, trivial⟩⟩
                          as_aux_lemma =>
                           skip
                           rintro a w ⟨hF, hS⟩
                           refine stepV (i := 109) rfl hF (fun w hS => Y.move hF rfl) rfl fun a hF => cutV (u := remontoirlaw06_LineKnown_tr3_113) (fun a w => Frm 473 [] [(0, .bool v0_0), (55, .slice p_88 y.length c_88), (462, .bool ((t_15 && (rv_58.2 == 4)) && (z == 0)))] a ∧ St w0 D0 Dv_123 [(23, .cells b_15 [.int .i64 rv_21.1.Low, .int .i64 rv_21.1.High] 40), (34, .cells b_16 [.int .i64 rv_34.1.Low, .int .i64 rv_34.1.High] 40), (38, .cells b_17 [.int .i64 rv_36.Exchanges, .slice p_59 rv_36.Lines.length c_59, .int .i64 rv_36.Hops, .slice p_60 rv_36.Loops.length c_60] 25), (39, .cells b_18 [.int .i64 rv_37.1.Low, .int .i64 rv_37.1.High] 40), (44, .cells b_19 [.int .i64 rv_41.1.Low, .int .i64 rv_41.1.High] 40), (47, .cells b_20 [.int .i64 rv_44.1.Low, .int .i64 rv_44.1.High] 40), (60, .cells b_21 [.int .i64 rv_56.Exchanges, .slice p_84 rv_56.Lines.length c_84, .int .i64 1, .slice p_85 rv_56.Loops.length c_85] 25)] w) ?_ ?_
                           ·intro hcut
                            rcases bcases (t_15 && (rv_58.2 == 4)) with hbv_67 | hbv_67
                            ·skip
                             refine stepV_on (i := 110) rfl hF rfl rfl hbv_67 (fun w hS => Y.move hF rfl) rfl fun a hF => stepV_on (i := 111) rfl hF rfl rfl hbv_67 (fun w hS => Y.eql hF rfl rfl) rfl fun a hF => stepV (i := 112) rfl hF (fun w hS => Y.pick_t hF rfl hbv_67 rfl) rfl fun a hF => hcut _ _ ⟨hF.weak ⟨rfl, rfl, (by rw [hbv_67]; rfl), trivial⟩, hS.weak ⟨rfl, rfl, rfl, rfl, rfl, rfl, rfl, trivial⟩⟩
                            refine stepV_off (i := 110) rfl hF rfl rfl hbv_67 rfl fun a hF => stepV_off (i := 111) rfl hF rfl rfl hbv_67 rfl fun a hF => stepV (i := 112) rfl hF (fun w hS => Y.pick_f hF rfl hbv_67 rfl) rfl fun a hF => hcut _ _ ⟨hF.weak ⟨rfl, rfl, (by rw [hbv_67]; rfl), trivial⟩, hS.weak ⟨rfl, rfl, rfl, rfl, rfl, rfl, rfl, trivial⟩⟩
                           as_aux_lemma =>
                            skip
                            rintro a w ⟨hF, hS⟩
                            refine stepV (i := 113) rfl hF (fun w hS => Y.move hF rfl) rfl fun a hF => ?_
                            obtain ⟨t_16, ht_16, h⟩ := bind_some h
                            refine cutV (u := remontoirlaw06_LineKnown_tr3_118) (fun a w => ∃ (D : Stab), Dv_123.le D ∧ Frm 473 [] [(0, .bool v0_0), (467, .bool t_16)] a ∧ St w0 D0 D [(23, .cells b_15 [.int .i64 rv_21.1.Low, .int .i64 rv_21.1.High] 40), (34, .cells b_16 [.int .i64 rv_34.1.Low, .int .i64 rv_34.1.High] 40), (38, .cells b_17 [.int .i64 rv_36.Exchanges, .slice p_59 rv_36.Lines.length c_59, .int .i64 rv_36.Hops, .slice p_60 rv_36.Loops.length c_60] 25), (39, .cells b_18 [.int .i64 rv_37.1.Low, .int .i64 rv_37.1.High] 40), (44, .cells b_19 [.int .i64 rv_41.1.Low, .int .i64 rv_41.1.High] 40), (47, .cells b_20 [.int .i64 rv_44.1.Low, .int .i64 rv_44.1.High] 40), (60, .cells b_21 [.int .i64 rv_56.Exchanges, .slice p_84 rv_56.Lines.length c_84, .int .i64 1, .slice p_85 rv_56.Loops.length c_85] 25)] w) ?_ ?_
                            ·intro hcut
                             rcases bcases ((t_15 && (rv_58.2 == 4)) && (z == 0)) with hbv_68 | hbv_68
                             ·skip
                              replace h := cond_t ht_16 hbv_68
                              refine stepV_on (i := 114) rfl hF rfl rfl hbv_68 (fun w hS => Y.move hF rfl) rfl fun a hF => oneV (i := 115) rfl ?_ trivial
                              refine guard_on hF rfl rfl hbv_68 ?_
                              have hr_75 : Reps C_int Dv_123 [1] [.int .i64 1] := Reps.cons (C := C_int) (x := 1) (c := [.int .i64 1]) (r := []) rfl (Reps.nil)
                              refine O.buildSlice (E := 3) (C := C_int) (xs := [1]) (cs := [.int .i64 1]) (us := [.int .i64 1]) (parts := [(0, (.const (.int .i64 1)))]) 79 hF hS rfl (by kernel_rfl) hr_75 rfl rfl rfl fun p_109 c_109 a w hF hS => nil (then_n ⟨(hS.weak (ms := [(23, .cells b_15 [.int .i64 rv_21.1.Low, .int .i64 rv_21.1.High] 40), (34, .cells b_16 [.int .i64 rv_34.1.Low, .int .i64 rv_34.1.High] 40), (38, .cells b_17 [.int .i64 rv_36.Exchanges, .slice p_59 rv_36.Lines.length c_59, .int .i64 rv_36.Hops, .slice p_60 rv_36.Loops.length c_60] 25), (39, .cells b_18 [.int .i64 rv_37.1.Low, .int .i64 rv_37.1.High] 40), (44, .cells b_19 [.int .i64 rv_41.1.Low, .int .i64 rv_41.1.High] 40), (47, .cells b_20 [.int .i64 rv_44.1.Low, .int .i64 rv_44.1.High] 40), (60, .cells b_21 [.int .i64 rv_56.Exchanges, .slice p_84 rv_56.Lines.length c_84, .int .i64 1, .slice p_85 rv_56.Loops.length c_85] 25)]) ⟨rfl, rfl, rfl, rfl, rfl, rfl, rfl, trivial⟩).weakD (hlev_111.trans (hlev_118.trans (hlev_120.trans hlev_123))) hle0, ?_⟩)
                              refine oneV (i := 116) rfl ?_ trivial
                              refine guard_on hF rfl rfl hbv_68 ?_
                              obtain ⟨Dv_124, hlev_124, hs_160, hS⟩ := hS.freezeC (C := C_int) (i := 79) (xs := [1]) rfl hr_75
                              replace hs_139 := hs_139.mono hlev_124
                              obtain ⟨rv_74, hx_83, h⟩ := bind_some h
                              refine O.callP (us := [.slice p_88 y.length c_88, .slice p_109 ([1]).length c_109]) ca_22 hF hS (r0Alike_ok hS.stab y ([1]) hs_139 hs_160 rv_74 hx_83) rfl rfl fun a w hF hS => nil (then_n ⟨(hS.weak (ms := [(23, .cells b_15 [.int .i64 rv_21.1.Low, .int .i64 rv_21.1.High] 40), (34, .cells b_16 [.int .i64 rv_34.1.Low, .int .i64 rv_34.1.High] 40), (38, .cells b_17 [.int .i64 rv_36.Exchanges, .slice p_59 rv_36.Lines.length c_59, .int .i64 rv_36.Hops, .slice p_60 rv_36.Loops.length c_60] 25), (39, .cells b_18 [.int .i64 rv_37.1.Low, .int .i64 rv_37.1.High] 40), (44, .cells b_19 [.int .i64 rv_41.1.Low, .int .i64 rv_41.1.High] 40), (47, .cells b_20 [.int .i64 rv_44.1.Low, .int .i64 rv_44.1.High] 40), (60, .cells b_21 [.int .i64 rv_56.Exchanges, .slice p_84 rv_56.Lines.length c_84, .int .i64 1, .slice p_85 rv_56.Loops.length c_85] 25)]) ⟨rfl, rfl, rfl, rfl, rfl, rfl, rfl, trivial⟩).weakD (hlev_111.trans (hlev_118.trans (hlev_120.trans (hlev_123.trans hlev_124)))) hle0, ?_⟩)
                              refine stepV (i := 117) rfl hF (fun w hS => Y.pick_t hF rfl hbv_68 rfl) rfl fun a hF => ?_
                              obtain rfl := some_inj h
                              exact hcut _ _ ⟨Dv_124, hlev_124, hF.weak ⟨rfl, rfl, trivial⟩, hS.weak ⟨rfl, rfl, rfl, rfl, rfl, rfl, rfl, trivial⟩⟩
                             replace h := cond_f ht_16 hbv_68
                             refine stepV_off (i := 114) rfl hF rfl rfl hbv_68 rfl fun a hF => oneV (i := 115) rfl (guard_off hF rfl rfl hbv_68 rfl fun a hF => nil (then_n ⟨(hS.weak (ms := [(23, .cells b_15 [.int .i64 rv_21.1.Low, .int .i64 rv_21.1.High] 40), (34, .cells b_16 [.int .i64 rv_34.1.Low, .int .i64 rv_34.1.High] 40), (38, .cells b_17 [.int .i64 rv_36.Exchanges, .slice p_59 rv_36.Lines.length c_59, .int .i64 rv_36.Hops, .slice p_60 rv_36.Loops.length c_60] 25), (39, .cells b_18 [.int .i64 rv_37.1.Low, .int .i64 rv_37.1.High] 40), (44, .cells b_19 [.int .i64 rv_41.1.Low, .int .i64 rv_41.1.High] 40), (47, .cells b_20 [.int .i64 rv_44.1.Low, .int .i64 rv_44.1.High] 40), (60, .cells b_21 [.int .i64 rv_56.Exchanges, .slice p_84 rv_56.Lines.length c_84, .int .i64 1, .slice p_85 rv_56.Loops.length c_85] 25)]) ⟨rfl, rfl, rfl, rfl, rfl, rfl, rfl, trivial⟩).weakD (hlev_111.trans (hlev_118.trans (hlev_120.trans hlev_123))) hle0, ?_⟩)) trivial
                             refine oneV (i := 116) rfl (guard_off hF rfl rfl hbv_68 rfl fun a hF => nil (then_n ⟨(hS.weak (ms := [(23, .cells b_15 [.int .i64 rv_21.1.Low, .int .i64 rv_21.1.High] 40), (34, .cells b_16 [.int .i64 rv_34.1.Low, .int .i64 rv_34.1.High] 40), (38, .cells b_17 [.int .i64 rv_36.Exchanges, .slice p_59 rv_36.Lines.length c_59, .int .i64 rv_36.Hops, .slice p_60 rv_36.Loops.length c_60] 25), (39, .cells b_18 [.int .i64 rv_37.1.Low, .int .i64 rv_37.1.High] 40), (44, .cells b_19 [.int .i64 rv_41.1.Low, .int .i64 rv_41.1.High] 40), (47, .cells b_20 [.int .i64 rv_44.1.Low, .int .i64 rv_44.1.High] 40), (60, .cells b_21 [.int .i64 rv_56.Exchanges, .slice p_84 rv_56.Lines.length c_84, .int .i64 1, .slice p_85 rv_56.Loops.length c_85] 25)]) ⟨rfl, rfl, rfl, rfl, rfl, rfl, rfl, trivial⟩).weakD (hlev_111.trans (hlev_118.trans (hlev_120.trans hlev_123))) hle0, ?_⟩)) trivial
                             refine stepV (i := 117) rfl hF (fun w hS => Y.pick_f hF rfl hbv_68 rfl) rfl fun a hF => ?_
                             obtain rfl := some_inj h
                             exact hcut _ _ ⟨Dv_123, Stab.le.refl _, hF.weak ⟨rfl, rfl, trivial⟩, hS.weak ⟨rfl, rfl, rfl, rfl, rfl, rfl, rfl, trivial⟩⟩
                            rintro a w ⟨Dv_125, hlev_125, hF, hS⟩
                            replace hG := hG.mono hlev_125
                            refine stepV (i := 118) rfl hF (fun w hS => Y.move hF rfl) rfl fun a hF => stepV (i := 119) rfl hF (fun w hS => Y.pickTF hF rfl) rfl fun a hF => stepV (i := 120) rfl hF (fun w hS => Y.move hF rfl) rfl fun a hF => ?_
                            obtain ⟨t_17, ht_17, h⟩ := bind_some h
                            refine cutV (u := remontoirlaw06_LineKnown_tr3_123) (fun a w => Frm 473 [] [(0, .bool v0_0), (472, .bool t_17)] a ∧ St w0 D0 Dv_125 [(23, .cells b_15 [.int .i64 rv_21.1.Low, .int .i64 rv_21.1.High] 40), (34, .cells b_16 [.int .i64 rv_34.1.Low, .int .i64 rv_34.1.High] 40), (38, .cells b_17 [.int .i64 rv_36.Exchanges, .slice p_59 rv_36.Lines.length c_59, .int .i64 rv_36.Hops, .slice p_60 rv_36.Loops.length c_60] 25), (39, .cells b_18 [.int .i64 rv_37.1.Low, .int .i64 rv_37.1.High] 40), (44, .cells b_19 [.int .i64 rv_41.1.Low, .int .i64 rv_41.1.High] 40), (47, .cells b_20 [.int .i64 rv_44.1.Low, .int .i64 rv_44.1.High] 40), (60, .cells b_21 [.int .i64 rv_56.Exchanges, .slice p_84 rv_56.Lines.length c_84, .int .i64 1, .slice p_85 rv_56.Loops.length c_85] 25)] w) ?_ ?_
                            ·intro hcut
                             rcases bcases t_16 with hbv_69 | hbv_69
                             ·skip
                              replace h := cond_t ht_17 hbv_69
                              refine oneV (i := 121) rfl ?_ trivial
                              refine guard_on hF rfl rfl hbv_69 ?_
                              obtain ⟨rv_75, hx_84, h⟩ := bind_some h
                              refine O.callP (us := []) ca_23 hF hS (remontoirlaw06_works_ok hS.stab hG rv_75 hx_84) rfl rfl fun a w hF hS => nil (then_n ⟨(hS.weak (ms := [(23, .cells b_15 [.int .i64 rv_21.1.Low, .int .i64 rv_21.1.High] 40), (34, .cells b_16 [.int .i64 rv_34.1.Low, .int .i64 rv_34.1.High] 40), (38, .cells b_17 [.int .i64 rv_36.Exchanges, .slice p_59 rv_36.Lines.length c_59, .int .i64 rv_36.Hops, .slice p_60 rv_36.Loops.length c_60] 25), (39, .cells b_18 [.int .i64 rv_37.1.Low, .int .i64 rv_37.1.High] 40), (44, .cells b_19 [.int .i64 rv_41.1.Low, .int .i64 rv_41.1.High] 40), (47, .cells b_20 [.int .i64 rv_44.1.Low, .int .i64 rv_44.1.High] 40), (60, .cells b_21 [.int .i64 rv_56.Exchanges, .slice p_84 rv_56.Lines.length c_84, .int .i64 1, .slice p_85 rv_56.Loops.length c_85] 25)]) ⟨rfl, rfl, rfl, rfl, rfl, rfl, rfl, trivial⟩).weakD (hlev_111.trans (hlev_118.trans (hlev_120.trans (hlev_123.trans hlev_125)))) hle0, ?_⟩)
                              refine stepV (i := 122) rfl hF (fun w hS => Y.pick_t hF rfl hbv_69 rfl) rfl fun a hF => ?_
                              obtain rfl := some_inj h
                              exact hcut _ _ ⟨hF.weak ⟨rfl, rfl, trivial⟩, hS.weak ⟨rfl, rfl, rfl, rfl, rfl, rfl, rfl, trivial⟩⟩
                             replace h := cond_f ht_17 hbv_69
                             refine oneV (i := 121) rfl (guard_off hF rfl rfl hbv_69 rfl fun a hF => nil (then_n ⟨(hS.weak (ms := [(23, .cells b_15 [.int .i64 rv_21.1.Low, .int .i64 rv_21.1.High] 40), (34, .cells b_16 [.int .i64 rv_34.1.Low, .int .i64 rv_34.1.High] 40), (38, .cells b_17 [.int .i64 rv_36.Exchanges, .slice p_59 rv_36.Lines.length c_59, .int .i64 rv_36.Hops, .slice p_60 rv_36.Loops.length c_60] 25), (39, .cells b_18 [.int .i64 rv_37.1.Low, .int .i64 rv_37.1.High] 40), (44, .cells b_19 [.int .i64 rv_41.1.Low, .int .i64 rv_41.1.High] 40), (47, .cells b_20 [.int .i64 rv_44.1.Low, .int .i64 rv_44.1.High] 40), (60, .cells b_21 [.int .i64 rv_56.Exchanges, .slice p_84 rv_56.Lines.length c_84, .int .i64 1, .slice p_85 rv_56.Loops.length c_85] 25)]) ⟨rfl, rfl, rfl, rfl, rfl, rfl, rfl, trivial⟩).weakD (hlev_111.trans (hlev_118.trans (hlev_120.trans (hlev_123.trans hlev_125)))) hle0, ?_⟩)) trivial
                             refine stepV (i := 122) rfl hF (fun w hS => Y.pick_f hF rfl hbv_69 rfl) rfl fun a hF => ?_
                             obtain rfl := some_inj h
                             exact hcut _ _ ⟨hF.weak ⟨rfl, rfl, trivial⟩, hS.weak ⟨rfl, rfl, rfl, rfl, rfl, rfl, rfl, trivial⟩⟩
                            rintro a w ⟨hF, hS⟩
                            refine stepV (i := 123) rfl hF (fun w hS => Y.assign hF rfl) rfl fun a hF => toTailV (nil (then_n (ret_ ?_)))
                            obtain rfl := some_inj h
                            exact leaveP Tryd.results14 hF hS (.cons (.tmp rfl) .nil) .nil rfl
end Go.Proofs.YthdbokigcfbgeaaDoor.Rt
