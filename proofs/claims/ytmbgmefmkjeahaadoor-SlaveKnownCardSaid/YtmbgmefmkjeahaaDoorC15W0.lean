/- Walks of the functions of this seat: what each Go function comes to, as a Lean function, and the proof. Types and facts. Under no conditions. -/
import Derived.Test.YtmbgmefmkjeahaaDoorC15Rt18
import Derived.Test.YtmbgmefmkjeahaaDoorProg
set_option linter.unusedVariables false
set_option linter.unusedSimpArgs false
set_option maxRecDepth 100000
set_option maxHeartbeats 4000000
namespace Go.Proofs.YtmbgmefmkjeahaaDoor.Rt
open Go Go.RowKit
def tab_0 : List Value := [.func (.func 114) #[] #[], .func (.func 115) #[] #[]]
def Glob (D : Stab) : Prop := ∃ E fr, D 0 = some (.cells tab_0.toArray E fr)
theorem Glob.mono {D D' : Stab} (h : Glob D) (hle : D.le D') : Glob D' := by obtain ⟨E, fr, h⟩ := h; exact ⟨E, fr, hle _ _ h⟩
structure Span where
  Low : Int
  High : Int
def C_Span : Codec Span := ⟨2, fun _ x cs => cs = [iv x.Low, iv x.High], by rintro _ _ _ rfl; rfl, fun _ h => h, by rintro _ _ _ rfl; rfl⟩
theorem C_Span.open {D : Stab} {x : Span} {cs : List Value} (h : C_Span.rep D x cs) : cs = [iv x.Low, iv x.High] := h
theorem C_Span.mk {D : Stab} (x : Span) : C_Span.rep D x [iv x.Low, iv x.High] := rfl
structure SlaveStart where
  Shown : Int
  Last : Int
def kl_57 (x : SlaveStart) : List Int := [x.Shown, x.Last]
def C_SlaveStart : Codec SlaveStart := ⟨2, fun _ x cs => cs = [iv x.Shown, iv x.Last], by rintro _ _ _ rfl; rfl, fun _ h => h, by rintro _ _ _ rfl; rfl⟩
theorem C_SlaveStart.open {D : Stab} {x : SlaveStart} {cs : List Value} (h : C_SlaveStart.rep D x cs) : cs = [iv x.Shown, iv x.Last] := h
theorem C_SlaveStart.mk {D : Stab} (x : SlaveStart) : C_SlaveStart.rep D x [iv x.Shown, iv x.Last] := rfl
structure SlaveEvent where
  Kind : Int
  First : Int
  Count : Int
  Lost : Int
  Who : Int
  Shown : Int
def C_SlaveEvent : Codec SlaveEvent := ⟨6, fun _ x cs => cs = [iv x.Kind, iv x.First, iv x.Count, iv x.Lost, iv x.Who, iv x.Shown], by rintro _ _ _ rfl; rfl, fun _ h => h, by rintro _ _ _ rfl; rfl⟩
theorem C_SlaveEvent.open {D : Stab} {x : SlaveEvent} {cs : List Value} (h : C_SlaveEvent.rep D x cs) : cs = [iv x.Kind, iv x.First, iv x.Count, iv x.Lost, iv x.Who, iv x.Shown] := h
theorem C_SlaveEvent.mk {D : Stab} (x : SlaveEvent) : C_SlaveEvent.rep D x [iv x.Kind, iv x.First, iv x.Count, iv x.Lost, iv x.Who, iv x.Shown] := rfl
structure SlaveLine where
  Ring : Int
  Starts : (List SlaveStart)
  Events : (List SlaveEvent)
def C_SlaveLine : Codec SlaveLine := ⟨3, fun D x cs => ∃ p1 c1 p2 c2, cs = [iv x.Ring, .slice p1 x.Starts.length c1, .slice p2 x.Events.length c2] ∧ SRc C_SlaveStart D x.Starts p1 c1 ∧ SRc C_SlaveEvent D x.Events p2 c2, by rintro _ _ _ ⟨p1, c1, p2, c2, rfl, _⟩; rfl, by rintro _ _ _ _ hle ⟨p1, c1, p2, c2, rfl, h1, h2⟩; exact ⟨p1, c1, p2, c2, rfl, h1.mono hle, h2.mono hle⟩, by rintro _ _ _ ⟨p1, c1, p2, c2, rfl, _⟩; rfl⟩
theorem C_SlaveLine.open {D : Stab} {x : SlaveLine} {cs : List Value} (h : C_SlaveLine.rep D x cs) : ∃ p1 c1 p2 c2, cs = [iv x.Ring, .slice p1 x.Starts.length c1, .slice p2 x.Events.length c2] ∧ SRc C_SlaveStart D x.Starts p1 c1 ∧ SRc C_SlaveEvent D x.Events p2 c2 := h
structure slave_line where
  SlaveLine : SlaveLine
  without : (List Int)
def C_slave_line : Codec slave_line := ⟨4, fun D x cs => ∃ p1 c1 p2 c2 p3 c3, cs = [iv x.SlaveLine.Ring, .slice p1 x.SlaveLine.Starts.length c1, .slice p2 x.SlaveLine.Events.length c2, .slice p3 x.without.length c3] ∧ SRc C_SlaveStart D x.SlaveLine.Starts p1 c1 ∧ SRc C_SlaveEvent D x.SlaveLine.Events p2 c2 ∧ SRc C_int D x.without p3 c3, by rintro _ _ _ ⟨p1, c1, p2, c2, p3, c3, rfl, _⟩; rfl, by rintro _ _ _ _ hle ⟨p1, c1, p2, c2, p3, c3, rfl, h1, h2, h3⟩; exact ⟨p1, c1, p2, c2, p3, c3, rfl, h1.mono hle, h2.mono hle, h3.mono hle⟩, by rintro _ _ _ ⟨p1, c1, p2, c2, p3, c3, rfl, _⟩; rfl⟩
theorem C_slave_line.open {D : Stab} {x : slave_line} {cs : List Value} (h : C_slave_line.rep D x cs) : ∃ p1 c1 p2 c2 p3 c3, cs = [iv x.SlaveLine.Ring, .slice p1 x.SlaveLine.Starts.length c1, .slice p2 x.SlaveLine.Events.length c2, .slice p3 x.without.length c3] ∧ SRc C_SlaveStart D x.SlaveLine.Starts p1 c1 ∧ SRc C_SlaveEvent D x.SlaveLine.Events p2 c2 ∧ SRc C_int D x.without p3 c3 := h
structure slave_way where
  lost : Span
  story : (List (List Int))
def C_slave_way : Codec slave_way := ⟨3, fun D x cs => ∃ p1 c1, cs = [iv x.lost.Low, iv x.lost.High, .slice p1 x.story.length c1] ∧ SRc (C_sl C_int) D x.story p1 c1, by rintro _ _ _ ⟨p1, c1, rfl, _⟩; rfl, by rintro _ _ _ _ hle ⟨p1, c1, rfl, h1⟩; exact ⟨p1, c1, rfl, h1.mono hle⟩, by rintro _ _ _ ⟨p1, c1, rfl, _⟩; rfl⟩
theorem C_slave_way.open {D : Stab} {x : slave_way} {cs : List Value} (h : C_slave_way.rep D x cs) : ∃ p1 c1, cs = [iv x.lost.Low, iv x.lost.High, .slice p1 x.story.length c1] ∧ SRc (C_sl C_int) D x.story p1 c1 := h
structure slave_spot where
  state : SlaveStart
  lost : Int
def kl_143 (x : slave_spot) : List Int := [x.state.Shown, x.state.Last, x.lost]
def C_slave_spot : Codec slave_spot := ⟨3, fun _ x cs => cs = [iv x.state.Shown, iv x.state.Last, iv x.lost], by rintro _ _ _ rfl; rfl, fun _ h => h, by rintro _ _ _ rfl; rfl⟩
theorem C_slave_spot.open {D : Stab} {x : slave_spot} {cs : List Value} (h : C_slave_spot.rep D x cs) : cs = [iv x.state.Shown, iv x.state.Last, iv x.lost] := h
theorem C_slave_spot.mk {D : Stab} (x : slave_spot) : C_slave_spot.rep D x [iv x.state.Shown, iv x.state.Last, iv x.lost] := rfl
structure SlavePlan where
  Pre : Int
  Home : Int
  First : Int
  Send : Int
def C_SlavePlan : Codec SlavePlan := ⟨4, fun _ x cs => cs = [iv x.Pre, iv x.Home, iv x.First, iv x.Send], by rintro _ _ _ rfl; rfl, fun _ h => h, by rintro _ _ _ rfl; rfl⟩
theorem C_SlavePlan.open {D : Stab} {x : SlavePlan} {cs : List Value} (h : C_SlavePlan.rep D x cs) : cs = [iv x.Pre, iv x.Home, iv x.First, iv x.Send] := h
theorem C_SlavePlan.mk {D : Stab} (x : SlavePlan) : C_SlavePlan.rep D x [iv x.Pre, iv x.Home, iv x.First, iv x.Send] := rfl
structure slave_setter where
  line : slave_line
  states : (List SlaveStart)
  minute : Int
def C_slave_setter : Codec slave_setter := ⟨6, fun D x cs => ∃ p1 c1 p2 c2 p3 c3 p4 c4, cs = [iv x.line.SlaveLine.Ring, .slice p1 x.line.SlaveLine.Starts.length c1, .slice p2 x.line.SlaveLine.Events.length c2, .slice p3 x.line.without.length c3, .slice p4 x.states.length c4, iv x.minute] ∧ SRc C_SlaveStart D x.line.SlaveLine.Starts p1 c1 ∧ SRc C_SlaveEvent D x.line.SlaveLine.Events p2 c2 ∧ SRc C_int D x.line.without p3 c3 ∧ SRc C_SlaveStart D x.states p4 c4, by rintro _ _ _ ⟨p1, c1, p2, c2, p3, c3, p4, c4, rfl, _⟩; rfl, by rintro _ _ _ _ hle ⟨p1, c1, p2, c2, p3, c3, p4, c4, rfl, h1, h2, h3, h4⟩; exact ⟨p1, c1, p2, c2, p3, c3, p4, c4, rfl, h1.mono hle, h2.mono hle, h3.mono hle, h4.mono hle⟩, by rintro _ _ _ ⟨p1, c1, p2, c2, p3, c3, p4, c4, rfl, _⟩; rfl⟩
theorem C_slave_setter.open {D : Stab} {x : slave_setter} {cs : List Value} (h : C_slave_setter.rep D x cs) : ∃ p1 c1 p2 c2 p3 c3 p4 c4, cs = [iv x.line.SlaveLine.Ring, .slice p1 x.line.SlaveLine.Starts.length c1, .slice p2 x.line.SlaveLine.Events.length c2, .slice p3 x.line.without.length c3, .slice p4 x.states.length c4, iv x.minute] ∧ SRc C_SlaveStart D x.line.SlaveLine.Starts p1 c1 ∧ SRc C_SlaveEvent D x.line.SlaveLine.Events p2 c2 ∧ SRc C_int D x.line.without p3 c3 ∧ SRc C_SlaveStart D x.states p4 c4 := h
structure r7could where
  is : Bool
  lost : Span
def C_remontoirref07_could : Codec r7could := ⟨3, fun _ x cs => cs = [.bool x.is, iv x.lost.Low, iv x.lost.High], by rintro _ _ _ rfl; rfl, fun _ h => h, by rintro _ _ _ rfl; rfl⟩
theorem C_remontoirref07_could.open {D : Stab} {x : r7could} {cs : List Value} (h : C_remontoirref07_could.rep D x cs) : cs = [.bool x.is, iv x.lost.Low, iv x.lost.High] := h
theorem C_remontoirref07_could.mk {D : Stab} (x : r7could) : C_remontoirref07_could.rep D x [.bool x.is, iv x.lost.Low, iv x.lost.High] := rfl
structure Arr2 where
  a0 : Int
  a1 : Int
def C_Arr2 : Codec Arr2 := ⟨2, fun _ x cs => cs = [iv x.a0, iv x.a1], by rintro _ _ _ rfl; rfl, fun _ h => h, by rintro _ _ _ rfl; rfl⟩
theorem C_Arr2.open {D : Stab} {x : Arr2} {cs : List Value} (h : C_Arr2.rep D x cs) : cs = [iv x.a0, iv x.a1] := h
theorem C_Arr2.mk {D : Stab} (x : Arr2) : C_Arr2.rep D x [iv x.a0, iv x.a1] := rfl
structure slave_order where
  takes : (SlavePlan → Option Bool)
theorem zc_33 : zeroCells Tryd.prog 33 = some [iv 0, iv 0] := by kernel_rfl
theorem sz_33 : tsz Tryd.prog 33 = some (true, 2) := by kernel_rfl
theorem fo_33_0 : fieldOff Tryd.prog 33 0 = some 0 := by kernel_rfl
theorem sz_3 : tsz Tryd.prog 3 = some (false, 1) := by kernel_rfl
theorem fo_33_1 : fieldOff Tryd.prog 33 1 = some 1 := by kernel_rfl
theorem u_26 : Tryd.prog.underlying 26 = some (.slice 3) := by kernel_rfl
theorem mixed_ : Tryd.prog.follows .mixedOrders = true := by kernel_rfl
theorem ca_59 : callable Tryd.prog 59 = true := by kernel_rfl
theorem u_38 : Tryd.prog.underlying 38 = some (.slice 26) := by kernel_rfl
theorem sz_26 : tsz Tryd.prog 26 = some (false, 1) := by kernel_rfl
theorem ca_18 : callable Tryd.prog 18 = true := by kernel_rfl
theorem fo_25_0 : fieldOff Tryd.prog 25 0 = some 0 := by kernel_rfl
theorem ca_60 : callable Tryd.prog 60 = true := by kernel_rfl
theorem fo_25_1 : fieldOff Tryd.prog 25 1 = some 1 := by kernel_rfl
theorem sz_22 : tsz Tryd.prog 22 = some (false, 1) := by kernel_rfl
theorem u_22 : Tryd.prog.underlying 22 = some (.slice 57) := by kernel_rfl
theorem fo_25_2 : fieldOff Tryd.prog 25 2 = some 2 := by kernel_rfl
theorem sz_23 : tsz Tryd.prog 23 = some (false, 1) := by kernel_rfl
theorem u_23 : Tryd.prog.underlying 23 = some (.slice 66) := by kernel_rfl
theorem sz_57 : tsz Tryd.prog 57 = some (true, 2) := by kernel_rfl
theorem zc_57 : zeroCells Tryd.prog 57 = some [iv 0, iv 0] := by kernel_rfl
theorem fo_57_0 : fieldOff Tryd.prog 57 0 = some 0 := by kernel_rfl
theorem fo_57_1 : fieldOff Tryd.prog 57 1 = some 1 := by kernel_rfl
theorem sz_66 : tsz Tryd.prog 66 = some (true, 6) := by kernel_rfl
theorem zc_66 : zeroCells Tryd.prog 66 = some [iv 0, iv 0, iv 0, iv 0, iv 0, iv 0] := by kernel_rfl
theorem fo_66_0 : fieldOff Tryd.prog 66 0 = some 0 := by kernel_rfl
theorem fo_66_1 : fieldOff Tryd.prog 66 1 = some 1 := by kernel_rfl
theorem fo_66_2 : fieldOff Tryd.prog 66 2 = some 2 := by kernel_rfl
theorem fo_66_3 : fieldOff Tryd.prog 66 3 = some 3 := by kernel_rfl
theorem fo_66_4 : fieldOff Tryd.prog 66 4 = some 4 := by kernel_rfl
theorem fo_66_5 : fieldOff Tryd.prog 66 5 = some 5 := by kernel_rfl
theorem fo_103_0 : fieldOff Tryd.prog 103 0 = some 0 := by kernel_rfl
theorem ca_114 : callable Tryd.prog 114 = true := by kernel_rfl
theorem ca_115 : callable Tryd.prog 115 = true := by kernel_rfl
theorem u_134 : Tryd.prog.underlying 134 = some (.array 2 133) := by kernel_rfl
theorem sz_133 : tsz Tryd.prog 133 = some (false, 1) := by kernel_rfl
theorem sz_103 : tsz Tryd.prog 103 = some (true, 4) := by kernel_rfl
theorem zc_98 : zeroCells Tryd.prog 98 = some [iv 0, iv 0, .slice none 0 0] := by kernel_rfl
theorem fo_98_0 : fieldOff Tryd.prog 98 0 = some 0 := by kernel_rfl
theorem sz_98 : tsz Tryd.prog 98 = some (true, 3) := by kernel_rfl
theorem fo_98_1 : fieldOff Tryd.prog 98 1 = some 2 := by kernel_rfl
theorem sz_38 : tsz Tryd.prog 38 = some (false, 1) := by kernel_rfl
theorem u_3 : Tryd.prog.underlying 3 = some (.int .i64) := by kernel_rfl
theorem sz_143 : tsz Tryd.prog 143 = some (true, 3) := by kernel_rfl
theorem u_141 : Tryd.prog.underlying 141 = some (.map 143 98) := by kernel_rfl
theorem ca_84 : callable Tryd.prog 84 = true := by kernel_rfl
theorem gr_38 : growable Tryd.prog 38 26 1 = true := by kernel_rfl
theorem gr_26 : growable Tryd.prog 26 3 1 = true := by kernel_rfl
theorem ca_97 : callable Tryd.prog 97 = true := by kernel_rfl
theorem ca_86 : callable Tryd.prog 86 = true := by kernel_rfl
theorem u_85 : Tryd.prog.underlying 85 = some (.map 57 98) := by kernel_rfl
theorem zc_141 : zeroCells Tryd.prog 141 = some [.map none] := by kernel_rfl
theorem sz_141 : tsz Tryd.prog 141 = some (false, 1) := by kernel_rfl
theorem sz_140 : tsz Tryd.prog 140 = some (false, 1) := by kernel_rfl
theorem ca_93 : callable Tryd.prog 93 = true := by kernel_rfl
theorem zc_143 : zeroCells Tryd.prog 143 = some [iv 0, iv 0, iv 0] := by kernel_rfl
theorem fo_143_0 : fieldOff Tryd.prog 143 0 = some 0 := by kernel_rfl
theorem ca_64 : callable Tryd.prog 64 = true := by kernel_rfl
theorem ca_65 : callable Tryd.prog 65 = true := by kernel_rfl
theorem fo_143_1 : fieldOff Tryd.prog 143 1 = some 2 := by kernel_rfl
theorem ca_94 : callable Tryd.prog 94 = true := by kernel_rfl
theorem ca_95 : callable Tryd.prog 95 = true := by kernel_rfl
theorem ca_85 : callable Tryd.prog 85 = true := by kernel_rfl
theorem fo_103_1 : fieldOff Tryd.prog 103 1 = some 3 := by kernel_rfl
theorem ca_66 : callable Tryd.prog 66 = true := by kernel_rfl
theorem zc_140 : zeroCells Tryd.prog 140 = some [.nilFunc] := by kernel_rfl
theorem sz_85 : tsz Tryd.prog 85 = some (false, 1) := by kernel_rfl
theorem zc_89 : zeroCells Tryd.prog 89 = some (arr celB (List.replicate 60 false)) := by kernel_rfl
theorem ca_83 : callable Tryd.prog 83 = true := by kernel_rfl
theorem u_89 : Tryd.prog.underlying 89 = some (.array 60 4) := by kernel_rfl
theorem sz_4 : tsz Tryd.prog 4 = some (false, 1) := by kernel_rfl
theorem ca_96 : callable Tryd.prog 96 = true := by kernel_rfl
theorem sz_89 : tsz Tryd.prog 89 = some (true, 60) := by kernel_rfl
theorem ca_82 : callable Tryd.prog 82 = true := by kernel_rfl
theorem ca_57 : callable Tryd.prog 57 = true := by kernel_rfl
theorem eg_89 : Tryd.prog.eqGuardType Tryd.prog.depth 89 = false := by kernel_rfl
theorem u_4 : Tryd.prog.underlying 4 = some .bool := by kernel_rfl
theorem sz_25 : tsz Tryd.prog 25 = some (true, 3) := by kernel_rfl
theorem ca_19 : callable Tryd.prog 19 = true := by kernel_rfl
theorem ca_56 : callable Tryd.prog 56 = true := by kernel_rfl
theorem ca_61 : callable Tryd.prog 61 = true := by kernel_rfl
theorem fT_98_0 : fieldT Tryd.prog 98 0 = some (0, true, 2) := by kernel_rfl
theorem fT_98_1 : fieldT Tryd.prog 98 1 = some (2, false, 1) := by kernel_rfl
theorem ca_68 : callable Tryd.prog 68 = true := by kernel_rfl
theorem zc_103 : zeroCells Tryd.prog 103 = some [iv 0, .slice none 0 0, .slice none 0 0, .slice none 0 0] := by kernel_rfl
theorem zc_3 : zeroCells Tryd.prog 3 = some [iv 0] := by kernel_rfl
theorem eg_57 : Tryd.prog.eqGuardType Tryd.prog.depth 57 = false := by kernel_rfl
theorem ca_70 : callable Tryd.prog 70 = true := by kernel_rfl
theorem sz_109 : tsz Tryd.prog 109 = some (false, 1) := by kernel_rfl
theorem ca_69 : callable Tryd.prog 69 = true := by kernel_rfl
theorem zc_26 : zeroCells Tryd.prog 26 = some [.slice none 0 0] := by kernel_rfl
theorem zc_109 : zeroCells Tryd.prog 109 = some [.nilFunc] := by kernel_rfl
theorem fo_49_3 : fieldOff Tryd.prog 49 3 = some 3 := by kernel_rfl
theorem fo_49_2 : fieldOff Tryd.prog 49 2 = some 2 := by kernel_rfl
theorem fo_49_1 : fieldOff Tryd.prog 49 1 = some 1 := by kernel_rfl
theorem fo_49_0 : fieldOff Tryd.prog 49 0 = some 0 := by kernel_rfl
theorem fo_116_1 : fieldOff Tryd.prog 116 1 = some 4 := by kernel_rfl
theorem fo_116_0 : fieldOff Tryd.prog 116 0 = some 0 := by kernel_rfl
theorem sz_49 : tsz Tryd.prog 49 = some (true, 4) := by kernel_rfl
theorem ca_91 : callable Tryd.prog 91 = true := by kernel_rfl
theorem fT_57_0 : fieldT Tryd.prog 57 0 = some (0, false, 1) := by kernel_rfl
theorem fo_116_2 : fieldOff Tryd.prog 116 2 = some 5 := by kernel_rfl
theorem gr_22 : growable Tryd.prog 22 57 2 = true := by kernel_rfl
theorem zc_116 : zeroCells Tryd.prog 116 = some [iv 0, .slice none 0 0, .slice none 0 0, .slice none 0 0, .slice none 0 0, iv 0] := by kernel_rfl
theorem sz_116 : tsz Tryd.prog 116 = some (true, 6) := by kernel_rfl
theorem ca_90 : callable Tryd.prog 90 = true := by kernel_rfl
theorem ca_74 : callable Tryd.prog 74 = true := by kernel_rfl
theorem ca_77 : callable Tryd.prog 77 = true := by kernel_rfl
theorem sz_122 : tsz Tryd.prog 122 = some (false, 1) := by kernel_rfl
theorem zc_49 : zeroCells Tryd.prog 49 = some [iv 0, iv 0, iv 0, iv 0] := by kernel_rfl
theorem fo_125_0 : fieldOff Tryd.prog 125 0 = some 0 := by kernel_rfl
theorem zc_122 : zeroCells Tryd.prog 122 = some [.nilFunc] := by kernel_rfl
theorem zc_125 : zeroCells Tryd.prog 125 = some [.nilFunc] := by kernel_rfl
theorem sz_125 : tsz Tryd.prog 125 = some (true, 1) := by kernel_rfl
theorem ca_79 : callable Tryd.prog 79 = true := by kernel_rfl
theorem ca_80 : callable Tryd.prog 80 = true := by kernel_rfl
theorem ca_75 : callable Tryd.prog 75 = true := by kernel_rfl
theorem zc_25 : zeroCells Tryd.prog 25 = some [iv 0, .slice none 0 0, .slice none 0 0] := by kernel_rfl
theorem ca_45 : callable Tryd.prog 45 = true := by kernel_rfl
theorem ca_42 : callable Tryd.prog 42 = true := by kernel_rfl
theorem gr_23 : growable Tryd.prog 23 66 6 = true := by kernel_rfl
theorem ca_55 : callable Tryd.prog 55 = true := by kernel_rfl
theorem ca_16 : callable Tryd.prog 16 = true := by kernel_rfl
theorem ca_21 : callable Tryd.prog 21 = true := by kernel_rfl
theorem ca_24 : callable Tryd.prog 24 = true := by kernel_rfl
theorem ca_26 : callable Tryd.prog 26 = true := by kernel_rfl
theorem ca_43 : callable Tryd.prog 43 = true := by kernel_rfl
theorem eg_33 : Tryd.prog.eqGuardType Tryd.prog.depth 33 = false := by kernel_rfl
theorem ca_63 : callable Tryd.prog 63 = true := by kernel_rfl
theorem ca_28 : callable Tryd.prog 28 = true := by kernel_rfl
theorem ca_34 : callable Tryd.prog 34 = true := by kernel_rfl
theorem ca_32 : callable Tryd.prog 32 = true := by kernel_rfl
theorem ca_30 : callable Tryd.prog 30 = true := by kernel_rfl
theorem eg_49 : Tryd.prog.eqGuardType Tryd.prog.depth 49 = false := by kernel_rfl
theorem ca_23 : callable Tryd.prog 23 = true := by kernel_rfl
theorem eqT_57 : EqT Tryd.prog 57 true 2 2 := EqT.struct sz_57 (by kernel_rfl) (by kernel_rfl) (fl := [(false, 3, 0), (false, 3, 1)]) (by kernel_rfl) ⟨rfl, rfl, false, 1, EqT.int u_3 sz_3, rfl, rfl, false, 1, EqT.int u_3 sz_3, rfl⟩
theorem eqT_143 : EqT Tryd.prog 143 true 3 3 := EqT.struct sz_143 (by kernel_rfl) (by kernel_rfl) (fl := [(false, 57, 0), (false, 3, 2)]) (by kernel_rfl) ⟨rfl, rfl, true, 2, eqT_57, rfl, rfl, false, 1, (EqT.int u_3 sz_3).up, rfl⟩
theorem ckT_57 : CkT Tryd.prog 57 true 2 2 := CkT.struct sz_57 (by kernel_rfl) (fl := [(false, 3, 0), (false, 3, 1)]) (by kernel_rfl) ⟨rfl, rfl, false, 1, CkT.int u_3 sz_3, rfl, rfl, false, 1, CkT.int u_3 sz_3, rfl⟩
theorem ckT_143 : CkT Tryd.prog 143 true 3 3 := CkT.struct sz_143 (by kernel_rfl) (fl := [(false, 57, 0), (false, 3, 2)]) (by kernel_rfl) ⟨rfl, rfl, true, 2, ckT_57, rfl, rfl, false, 1, (CkT.int u_3 sz_3).up, rfl⟩
theorem mt_141 : MapT Tryd.prog 141 143 98 3 true [iv 0, iv 0, .slice none 0 0] := MapT.mk' u_141 (by kernel_rfl) eqT_143 (by decide) ckT_143 (by decide) (by kernel_rfl)
theorem mt_85 : MapT Tryd.prog 85 57 98 2 true [iv 0, iv 0, .slice none 0 0] := MapT.mk' u_85 (by kernel_rfl) eqT_57 (by decide) ckT_57 (by decide) (by kernel_rfl)
theorem eqT_33 : EqT Tryd.prog 33 true 2 2 := EqT.struct sz_33 (by kernel_rfl) (by kernel_rfl) (fl := [(false, 3, 0), (false, 3, 1)]) (by kernel_rfl) ⟨rfl, rfl, false, 1, EqT.int u_3 sz_3, rfl, rfl, false, 1, EqT.int u_3 sz_3, rfl⟩
theorem eqT_49 : EqT Tryd.prog 49 true 4 2 := EqT.struct sz_49 (by kernel_rfl) (by kernel_rfl) (fl := [(false, 3, 0), (false, 3, 1), (false, 3, 2), (false, 3, 3)]) (by kernel_rfl) ⟨rfl, rfl, false, 1, EqT.int u_3 sz_3, rfl, rfl, false, 1, EqT.int u_3 sz_3, rfl, rfl, false, 1, EqT.int u_3 sz_3, rfl, rfl, false, 1, EqT.int u_3 sz_3, rfl⟩
def FnOk_122 (w0 : World) (D0 : Stab) (fid : FuncId) (first cap : List Value) (f : (SlavePlan → Option Bool)) : Prop := callable Tryd.prog fid = true ∧ ∀ (w : World) (D : Stab), Below w0.heap.size w0 w → D0.le D → D.on w → ∀ (z : SlavePlan) (r : Bool), f z = some r → Calls Tryd.prog fid (first ++ ([.agg #[iv z.Pre, iv z.Home, iv z.First, iv z.Send]] : List Value) ++ cap).toArray w (RetP D w (.bool r : Value))
end Go.Proofs.YtmbgmefmkjeahaaDoor.Rt
