/- Walks of the functions of this seat: what each Go function comes to, as a Lean function, and the proof. Types and facts. Under no conditions. -/
import Derived.Test.YtpniidbbbhbglaaDoorC14Rt12
import Derived.Test.YtpniidbbbhbglaaDoorProg
set_option linter.unusedVariables false
set_option linter.unusedSimpArgs false
set_option maxRecDepth 100000
set_option maxHeartbeats 4000000
namespace Go.Proofs.YtpniidbbbhbglaaDoor.Rt
open Go Go.RowKit
def tab_0 : List Value := [.func (.func 90) #[] #[], .func (.func 91) #[] #[], .func (.func 92) #[] #[]]
def Glob (D : Stab) : Prop := ∃ E fr, D 0 = some (.cells tab_0.toArray E fr)
theorem Glob.mono {D D' : Stab} (h : Glob D) (hle : D.le D') : Glob D' := by obtain ⟨E, fr, h⟩ := h; exact ⟨E, fr, hle _ _ h⟩
structure Span where
  Low : Int
  High : Int
def C_Span : Codec Span := ⟨2, fun _ x cs => cs = [iv x.Low, iv x.High], by rintro _ _ _ rfl; rfl, fun _ h => h, by rintro _ _ _ rfl; rfl⟩
theorem C_Span.open {D : Stab} {x : Span} {cs : List Value} (h : C_Span.rep D x cs) : cs = [iv x.Low, iv x.High] := h
theorem C_Span.mk {D : Stab} (x : Span) : C_Span.rep D x [iv x.Low, iv x.High] := rfl
structure BeatOpen where
  Clock : Int
  Hour : Int
  Step : Span
def C_BeatOpen : Codec BeatOpen := ⟨4, fun _ x cs => cs = [iv x.Clock, iv x.Hour, iv x.Step.Low, iv x.Step.High], by rintro _ _ _ rfl; rfl, fun _ h => h, by rintro _ _ _ rfl; rfl⟩
theorem C_BeatOpen.open {D : Stab} {x : BeatOpen} {cs : List Value} (h : C_BeatOpen.rep D x cs) : cs = [iv x.Clock, iv x.Hour, iv x.Step.Low, iv x.Step.High] := h
theorem C_BeatOpen.mk {D : Stab} (x : BeatOpen) : C_BeatOpen.rep D x [iv x.Clock, iv x.Hour, iv x.Step.Low, iv x.Step.High] := rfl
structure BeatPair where
  Hour : Int
  One : Int
  Other : Int
  Read : Span
def C_BeatPair : Codec BeatPair := ⟨5, fun _ x cs => cs = [iv x.Hour, iv x.One, iv x.Other, iv x.Read.Low, iv x.Read.High], by rintro _ _ _ rfl; rfl, fun _ h => h, by rintro _ _ _ rfl; rfl⟩
theorem C_BeatPair.open {D : Stab} {x : BeatPair} {cs : List Value} (h : C_BeatPair.rep D x cs) : cs = [iv x.Hour, iv x.One, iv x.Other, iv x.Read.Low, iv x.Read.High] := h
theorem C_BeatPair.mk {D : Stab} (x : BeatPair) : C_BeatPair.rep D x [iv x.Hour, iv x.One, iv x.Other, iv x.Read.Low, iv x.Read.High] := rfl
structure BeatCellar where
  Hours : Int
  Rates : (List Span)
  Opens : (List BeatOpen)
  Pairs : (List BeatPair)
def C_BeatCellar : Codec BeatCellar := ⟨4, fun D x cs => ∃ p1 c1 p2 c2 p3 c3, cs = [iv x.Hours, .slice p1 x.Rates.length c1, .slice p2 x.Opens.length c2, .slice p3 x.Pairs.length c3] ∧ SRc C_Span D x.Rates p1 c1 ∧ SRc C_BeatOpen D x.Opens p2 c2 ∧ SRc C_BeatPair D x.Pairs p3 c3, by rintro _ _ _ ⟨p1, c1, p2, c2, p3, c3, rfl, _⟩; rfl, by rintro _ _ _ _ hle ⟨p1, c1, p2, c2, p3, c3, rfl, h1, h2, h3⟩; exact ⟨p1, c1, p2, c2, p3, c3, rfl, h1.mono hle, h2.mono hle, h3.mono hle⟩, by rintro _ _ _ ⟨p1, c1, p2, c2, p3, c3, rfl, _⟩; rfl⟩
theorem C_BeatCellar.open {D : Stab} {x : BeatCellar} {cs : List Value} (h : C_BeatCellar.rep D x cs) : ∃ p1 c1 p2 c2 p3 c3, cs = [iv x.Hours, .slice p1 x.Rates.length c1, .slice p2 x.Opens.length c2, .slice p3 x.Pairs.length c3] ∧ SRc C_Span D x.Rates p1 c1 ∧ SRc C_BeatOpen D x.Opens p2 c2 ∧ SRc C_BeatPair D x.Pairs p3 c3 := h
structure beat_spot where
  clock : Int
  hour : Int
def kl_86 (x : beat_spot) : List Int := [x.clock, x.hour]
def C_beat_spot : Codec beat_spot := ⟨2, fun _ x cs => cs = [iv x.clock, iv x.hour], by rintro _ _ _ rfl; rfl, fun _ h => h, by rintro _ _ _ rfl; rfl⟩
theorem C_beat_spot.open {D : Stab} {x : beat_spot} {cs : List Value} (h : C_beat_spot.rep D x cs) : cs = [iv x.clock, iv x.hour] := h
theorem C_beat_spot.mk {D : Stab} (x : beat_spot) : C_beat_spot.rep D x [iv x.clock, iv x.hour] := rfl
structure beat_bound where
  of_ : beat_spot
  over : beat_spot
  by_ : Int
def C_beat_bound : Codec beat_bound := ⟨5, fun _ x cs => cs = [iv x.of_.clock, iv x.of_.hour, iv x.over.clock, iv x.over.hour, iv x.by_], by rintro _ _ _ rfl; rfl, fun _ h => h, by rintro _ _ _ rfl; rfl⟩
theorem C_beat_bound.open {D : Stab} {x : beat_bound} {cs : List Value} (h : C_beat_bound.rep D x cs) : cs = [iv x.of_.clock, iv x.of_.hour, iv x.over.clock, iv x.over.hour, iv x.by_] := h
theorem C_beat_bound.mk {D : Stab} (x : beat_bound) : C_beat_bound.rep D x [iv x.of_.clock, iv x.of_.hour, iv x.over.clock, iv x.over.hour, iv x.by_] := rfl
structure beat_cellar where
  BeatCellar : BeatCellar
  left : Int
  place : (List (beat_spot × Int))
def C_beat_cellar : Codec beat_cellar := ⟨6, fun D x cs => ∃ p1 c1 p2 c2 p3 c3 b4, cs = [iv x.BeatCellar.Hours, .slice p1 x.BeatCellar.Rates.length c1, .slice p2 x.BeatCellar.Opens.length c2, .slice p3 x.BeatCellar.Pairs.length c3, iv x.left, .map b4] ∧ SRc C_Span D x.BeatCellar.Rates p1 c1 ∧ SRc C_BeatOpen D x.BeatCellar.Opens p2 c2 ∧ SRc C_BeatPair D x.BeatCellar.Pairs p3 c3 ∧ MapS kl_86 C_int false D x.place b4, by rintro _ _ _ ⟨p1, c1, p2, c2, p3, c3, b4, rfl, _⟩; rfl, by rintro _ _ _ _ hle ⟨p1, c1, p2, c2, p3, c3, b4, rfl, h1, h2, h3, h4⟩; exact ⟨p1, c1, p2, c2, p3, c3, b4, rfl, h1.mono hle, h2.mono hle, h3.mono hle, h4.mono hle⟩, by rintro _ _ _ ⟨p1, c1, p2, c2, p3, c3, b4, rfl, _⟩; rfl⟩
theorem C_beat_cellar.open {D : Stab} {x : beat_cellar} {cs : List Value} (h : C_beat_cellar.rep D x cs) : ∃ p1 c1 p2 c2 p3 c3 b4, cs = [iv x.BeatCellar.Hours, .slice p1 x.BeatCellar.Rates.length c1, .slice p2 x.BeatCellar.Opens.length c2, .slice p3 x.BeatCellar.Pairs.length c3, iv x.left, .map b4] ∧ SRc C_Span D x.BeatCellar.Rates p1 c1 ∧ SRc C_BeatOpen D x.BeatCellar.Opens p2 c2 ∧ SRc C_BeatPair D x.BeatCellar.Pairs p3 c3 ∧ MapS kl_86 C_int false D x.place b4 := h
structure Arr2 where
  a0 : Int
  a1 : Int
def C_Arr2 : Codec Arr2 := ⟨2, fun _ x cs => cs = [iv x.a0, iv x.a1], by rintro _ _ _ rfl; rfl, fun _ h => h, by rintro _ _ _ rfl; rfl⟩
theorem C_Arr2.open {D : Stab} {x : Arr2} {cs : List Value} (h : C_Arr2.rep D x cs) : cs = [iv x.a0, iv x.a1] := h
theorem C_Arr2.mk {D : Stab} (x : Arr2) : C_Arr2.rep D x [iv x.a0, iv x.a1] := rfl
structure Arr3 where
  a0 : Int
  a1 : Int
  a2 : Int
def C_Arr3 : Codec Arr3 := ⟨3, fun _ x cs => cs = [iv x.a0, iv x.a1, iv x.a2], by rintro _ _ _ rfl; rfl, fun _ h => h, by rintro _ _ _ rfl; rfl⟩
theorem C_Arr3.open {D : Stab} {x : Arr3} {cs : List Value} (h : C_Arr3.rep D x cs) : cs = [iv x.a0, iv x.a1, iv x.a2] := h
theorem C_Arr3.mk {D : Stab} (x : Arr3) : C_Arr3.rep D x [iv x.a0, iv x.a1, iv x.a2] := rfl
structure Arr4 where
  a0 : Int
  a1 : Int
  a2 : Int
  a3 : Int
def C_Arr4 : Codec Arr4 := ⟨4, fun _ x cs => cs = [iv x.a0, iv x.a1, iv x.a2, iv x.a3], by rintro _ _ _ rfl; rfl, fun _ h => h, by rintro _ _ _ rfl; rfl⟩
theorem C_Arr4.open {D : Stab} {x : Arr4} {cs : List Value} (h : C_Arr4.rep D x cs) : cs = [iv x.a0, iv x.a1, iv x.a2, iv x.a3] := h
theorem C_Arr4.mk {D : Stab} (x : Arr4) : C_Arr4.rep D x [iv x.a0, iv x.a1, iv x.a2, iv x.a3] := rfl
theorem fo_34_0 : fieldOff Tryd.prog 34 0 = some 0 := by kernel_rfl
theorem sz_3 : tsz Tryd.prog 3 = some (false, 1) := by kernel_rfl
theorem fo_34_1 : fieldOff Tryd.prog 34 1 = some 1 := by kernel_rfl
theorem zc_34 : zeroCells Tryd.prog 34 = some [iv 0, iv 0] := by kernel_rfl
theorem sz_34 : tsz Tryd.prog 34 = some (true, 2) := by kernel_rfl
theorem fo_26_0 : fieldOff Tryd.prog 26 0 = some 0 := by kernel_rfl
theorem ca_48 : callable Tryd.prog 48 = true := by kernel_rfl
theorem fo_26_1 : fieldOff Tryd.prog 26 1 = some 1 := by kernel_rfl
theorem sz_22 : tsz Tryd.prog 22 = some (false, 1) := by kernel_rfl
theorem u_22 : Tryd.prog.underlying 22 = some (.slice 34) := by kernel_rfl
theorem fo_26_2 : fieldOff Tryd.prog 26 2 = some 2 := by kernel_rfl
theorem sz_23 : tsz Tryd.prog 23 = some (false, 1) := by kernel_rfl
theorem u_23 : Tryd.prog.underlying 23 = some (.slice 63) := by kernel_rfl
theorem fo_26_3 : fieldOff Tryd.prog 26 3 = some 3 := by kernel_rfl
theorem sz_24 : tsz Tryd.prog 24 = some (false, 1) := by kernel_rfl
theorem u_24 : Tryd.prog.underlying 24 = some (.slice 61) := by kernel_rfl
theorem ca_54 : callable Tryd.prog 54 = true := by kernel_rfl
theorem sz_63 : tsz Tryd.prog 63 = some (true, 4) := by kernel_rfl
theorem zc_63 : zeroCells Tryd.prog 63 = some [iv 0, iv 0, iv 0, iv 0] := by kernel_rfl
theorem fo_63_0 : fieldOff Tryd.prog 63 0 = some 0 := by kernel_rfl
theorem fo_63_1 : fieldOff Tryd.prog 63 1 = some 1 := by kernel_rfl
theorem fo_63_2 : fieldOff Tryd.prog 63 2 = some 2 := by kernel_rfl
theorem sz_61 : tsz Tryd.prog 61 = some (true, 5) := by kernel_rfl
theorem zc_61 : zeroCells Tryd.prog 61 = some [iv 0, iv 0, iv 0, iv 0, iv 0] := by kernel_rfl
theorem fo_61_0 : fieldOff Tryd.prog 61 0 = some 0 := by kernel_rfl
theorem fo_61_1 : fieldOff Tryd.prog 61 1 = some 1 := by kernel_rfl
theorem fo_61_2 : fieldOff Tryd.prog 61 2 = some 2 := by kernel_rfl
theorem fo_61_3 : fieldOff Tryd.prog 61 3 = some 3 := by kernel_rfl
theorem zc_86 : zeroCells Tryd.prog 86 = some [iv 0, iv 0] := by kernel_rfl
theorem sz_86 : tsz Tryd.prog 86 = some (true, 2) := by kernel_rfl
theorem u_44 : Tryd.prog.underlying 44 = some (.slice 3) := by kernel_rfl
theorem mixed_ : Tryd.prog.follows .mixedOrders = true := by kernel_rfl
theorem gr_44 : growable Tryd.prog 44 3 1 = true := by kernel_rfl
theorem ca_64 : callable Tryd.prog 64 = true := by kernel_rfl
theorem ca_37 : callable Tryd.prog 37 = true := by kernel_rfl
theorem zc_26 : zeroCells Tryd.prog 26 = some [iv 0, .slice none 0 0, .slice none 0 0, .slice none 0 0] := by kernel_rfl
theorem sz_26 : tsz Tryd.prog 26 = some (true, 4) := by kernel_rfl
theorem gr_24 : growable Tryd.prog 24 61 5 = true := by kernel_rfl
theorem zc_83 : zeroCells Tryd.prog 83 = some [iv 0, .slice none 0 0, .slice none 0 0, .slice none 0 0, iv 0, .map none] := by kernel_rfl
theorem u_3 : Tryd.prog.underlying 3 = some (.int .i64) := by kernel_rfl
theorem u_81 : Tryd.prog.underlying 81 = some (.map 86 3) := by kernel_rfl
theorem sz_83 : tsz Tryd.prog 83 = some (true, 6) := by kernel_rfl
theorem fo_83_2 : fieldOff Tryd.prog 83 2 = some 5 := by kernel_rfl
theorem sz_81 : tsz Tryd.prog 81 = some (false, 1) := by kernel_rfl
theorem fo_83_0 : fieldOff Tryd.prog 83 0 = some 0 := by kernel_rfl
theorem ca_94 : callable Tryd.prog 94 = true := by kernel_rfl
theorem ca_93 : callable Tryd.prog 93 = true := by kernel_rfl
theorem gr_91 : growable Tryd.prog 91 93 5 = true := by kernel_rfl
theorem fo_83_1 : fieldOff Tryd.prog 83 1 = some 4 := by kernel_rfl
theorem ca_97 : callable Tryd.prog 97 = true := by kernel_rfl
theorem zc_91 : zeroCells Tryd.prog 91 = some [.slice none 0 0] := by kernel_rfl
theorem zc_3 : zeroCells Tryd.prog 3 = some [iv 0] := by kernel_rfl
theorem ca_95 : callable Tryd.prog 95 = true := by kernel_rfl
theorem ca_51 : callable Tryd.prog 51 = true := by kernel_rfl
theorem sz_91 : tsz Tryd.prog 91 = some (false, 1) := by kernel_rfl
theorem ca_96 : callable Tryd.prog 96 = true := by kernel_rfl
theorem ca_90 : callable Tryd.prog 90 = true := by kernel_rfl
theorem ca_91 : callable Tryd.prog 91 = true := by kernel_rfl
theorem ca_92 : callable Tryd.prog 92 = true := by kernel_rfl
theorem zc_102 : zeroCells Tryd.prog 102 = some (arr celI (List.replicate 66 (0 : Int))) := by kernel_rfl
theorem u_102 : Tryd.prog.underlying 102 = some (.array 66 3) := by kernel_rfl
theorem sz_90 : tsz Tryd.prog 90 = some (true, 3) := by kernel_rfl
theorem u_90 : Tryd.prog.underlying 90 = some (.array 3 89) := by kernel_rfl
theorem sz_89 : tsz Tryd.prog 89 = some (false, 1) := by kernel_rfl
theorem sz_102 : tsz Tryd.prog 102 = some (true, 66) := by kernel_rfl
theorem u_91 : Tryd.prog.underlying 91 = some (.slice 93) := by kernel_rfl
theorem sz_93 : tsz Tryd.prog 93 = some (true, 5) := by kernel_rfl
theorem zc_93 : zeroCells Tryd.prog 93 = some [iv 0, iv 0, iv 0, iv 0, iv 0] := by kernel_rfl
theorem fo_93_1 : fieldOff Tryd.prog 93 1 = some 2 := by kernel_rfl
theorem fo_93_0 : fieldOff Tryd.prog 93 0 = some 0 := by kernel_rfl
theorem fo_93_2 : fieldOff Tryd.prog 93 2 = some 4 := by kernel_rfl
theorem eg_102 : Tryd.prog.eqGuardType Tryd.prog.depth 102 = false := by kernel_rfl
theorem ca_60 : callable Tryd.prog 60 = true := by kernel_rfl
theorem ca_17 : callable Tryd.prog 17 = true := by kernel_rfl
theorem ca_49 : callable Tryd.prog 49 = true := by kernel_rfl
theorem ca_62 : callable Tryd.prog 62 = true := by kernel_rfl
theorem ca_57 : callable Tryd.prog 57 = true := by kernel_rfl
theorem ca_56 : callable Tryd.prog 56 = true := by kernel_rfl
theorem ca_58 : callable Tryd.prog 58 = true := by kernel_rfl
theorem gr_27 : growable Tryd.prog 27 44 1 = true := by kernel_rfl
theorem u_27 : Tryd.prog.underlying 27 = some (.slice 44) := by kernel_rfl
theorem sz_44 : tsz Tryd.prog 44 = some (false, 1) := by kernel_rfl
theorem sz_105 : tsz Tryd.prog 105 = some (false, 1) := by kernel_rfl
theorem ca_61 : callable Tryd.prog 61 = true := by kernel_rfl
theorem zc_105 : zeroCells Tryd.prog 105 = some [.nilFunc] := by kernel_rfl
theorem ca_71 : callable Tryd.prog 71 = true := by kernel_rfl
theorem ca_72 : callable Tryd.prog 72 = true := by kernel_rfl
theorem eg_86 : Tryd.prog.eqGuardType Tryd.prog.depth 86 = false := by kernel_rfl
theorem sz_27 : tsz Tryd.prog 27 = some (false, 1) := by kernel_rfl
theorem fo_86_0 : fieldOff Tryd.prog 86 0 = some 0 := by kernel_rfl
theorem fo_86_1 : fieldOff Tryd.prog 86 1 = some 1 := by kernel_rfl
theorem ca_45 : callable Tryd.prog 45 = true := by kernel_rfl
theorem ca_44 : callable Tryd.prog 44 = true := by kernel_rfl
theorem ca_47 : callable Tryd.prog 47 = true := by kernel_rfl
theorem ca_46 : callable Tryd.prog 46 = true := by kernel_rfl
theorem ca_50 : callable Tryd.prog 50 = true := by kernel_rfl
theorem zc_112 : zeroCells Tryd.prog 112 = some [.nilFunc] := by kernel_rfl
theorem sz_112 : tsz Tryd.prog 112 = some (true, 1) := by kernel_rfl
theorem fo_112_0 : fieldOff Tryd.prog 112 0 = some 0 := by kernel_rfl
theorem sz_110 : tsz Tryd.prog 110 = some (false, 1) := by kernel_rfl
theorem ca_66 : callable Tryd.prog 66 = true := by kernel_rfl
theorem ca_65 : callable Tryd.prog 65 = true := by kernel_rfl
theorem ca_42 : callable Tryd.prog 42 = true := by kernel_rfl
theorem ca_19 : callable Tryd.prog 19 = true := by kernel_rfl
theorem ca_22 : callable Tryd.prog 22 = true := by kernel_rfl
theorem ca_24 : callable Tryd.prog 24 = true := by kernel_rfl
theorem ca_26 : callable Tryd.prog 26 = true := by kernel_rfl
theorem ca_43 : callable Tryd.prog 43 = true := by kernel_rfl
theorem ca_27 : callable Tryd.prog 27 = true := by kernel_rfl
theorem ca_30 : callable Tryd.prog 30 = true := by kernel_rfl
theorem eg_34 : Tryd.prog.eqGuardType Tryd.prog.depth 34 = false := by kernel_rfl
theorem ca_29 : callable Tryd.prog 29 = true := by kernel_rfl
theorem ca_15 : callable Tryd.prog 15 = true := by kernel_rfl
theorem u_4 : Tryd.prog.underlying 4 = some .bool := by kernel_rfl
theorem ca_21 : callable Tryd.prog 21 = true := by kernel_rfl
theorem eqT_86 : EqT Tryd.prog 86 true 2 2 := EqT.struct sz_86 (by kernel_rfl) (by kernel_rfl) (fl := [(false, 3, 0), (false, 3, 1)]) (by kernel_rfl) ⟨rfl, rfl, false, 1, EqT.int u_3 sz_3, rfl, rfl, false, 1, EqT.int u_3 sz_3, rfl⟩
theorem ckT_86 : CkT Tryd.prog 86 true 2 2 := CkT.struct sz_86 (by kernel_rfl) (fl := [(false, 3, 0), (false, 3, 1)]) (by kernel_rfl) ⟨rfl, rfl, false, 1, CkT.int u_3 sz_3, rfl, rfl, false, 1, CkT.int u_3 sz_3, rfl⟩
theorem mt_81 : MapT Tryd.prog 81 86 3 2 false [iv 0] := MapT.mk' u_81 (by kernel_rfl) eqT_86 (by decide) ckT_86 (by decide) (by kernel_rfl)
theorem eqT_34 : EqT Tryd.prog 34 true 2 2 := EqT.struct sz_34 (by kernel_rfl) (by kernel_rfl) (fl := [(false, 3, 0), (false, 3, 1)]) (by kernel_rfl) ⟨rfl, rfl, false, 1, EqT.int u_3 sz_3, rfl, rfl, false, 1, EqT.int u_3 sz_3, rfl⟩
def FnOk_77 (w0 : World) (D0 : Stab) (fid : FuncId) (first cap : List Value) (f : ((List Int) → Option Bool)) : Prop := callable Tryd.prog fid = true ∧ ∀ (w : World) (D : Stab), Below w0.heap.size w0 w → D0.le D → D.on w → ∀ (z : (List Int)) (p : Option Addr) (c : Nat) (hs : SRc C_int D z p c) (r : Bool), f z = some r → Calls Tryd.prog fid (first ++ ([.slice p z.length c] : List Value) ++ cap).toArray w (RetP D w (.bool r : Value))
def FnOk_80 (w0 : World) (D0 : Stab) (fid : FuncId) (first cap : List Value) (f : (Int → Option Bool)) : Prop := callable Tryd.prog fid = true ∧ ∀ (w : World) (D : Stab), Below w0.heap.size w0 w → D0.le D → D.on w → ∀ (z : Int) (r : Bool), f z = some r → Calls Tryd.prog fid (first ++ ([iv z] : List Value) ++ cap).toArray w (RetP D w (.bool r : Value))
end Go.Proofs.YtpniidbbbhbglaaDoor.Rt
