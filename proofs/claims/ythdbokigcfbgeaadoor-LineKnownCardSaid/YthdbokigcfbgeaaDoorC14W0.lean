/- Walks of the functions of this seat: what each Go function comes to, as a Lean function, and the proof. Types and facts. Under no conditions. -/
import Derived.Test.YthdbokigcfbgeaaDoorC14Rt23
import Derived.Test.YthdbokigcfbgeaaDoorProg
set_option linter.unusedVariables false
set_option linter.unusedSimpArgs false
set_option maxRecDepth 100000
set_option maxHeartbeats 4000000
namespace Go.Proofs.YthdbokigcfbgeaaDoor.Rt
open Go Go.RowKit
def tab_0 : List Value := [.func (.func 133) #[] #[], .func (.func 134) #[] #[]]
def Glob (D : Stab) : Prop := ∃ E fr, D 0 = some (.cells tab_0.toArray E fr)
theorem Glob.mono {D D' : Stab} (h : Glob D) (hle : D.le D') : Glob D' := by obtain ⟨E, fr, h⟩ := h; exact ⟨E, fr, hle _ _ h⟩
structure Span where
  Low : Int
  High : Int
def C_Span : Codec Span := ⟨2, fun _ x cs => cs = [.int .i64 x.Low, .int .i64 x.High], by rintro _ _ _ rfl; rfl, fun _ h => h, by rintro _ _ _ rfl; rfl⟩
theorem C_Span.open {D : Stab} {x : Span} {cs : List Value} (h : C_Span.rep D x cs) : cs = [.int .i64 x.Low, .int .i64 x.High] := h
theorem C_Span.mk {D : Stab} (x : Span) : C_Span.rep D x [.int .i64 x.Low, .int .i64 x.High] := rfl
structure LineLine where
  From : Int
  To : Int
  Delay : Span
def C_LineLine : Codec LineLine := ⟨4, fun _ x cs => cs = [.int .i64 x.From, .int .i64 x.To, .int .i64 x.Delay.Low, .int .i64 x.Delay.High], by rintro _ _ _ rfl; rfl, fun _ h => h, by rintro _ _ _ rfl; rfl⟩
theorem C_LineLine.open {D : Stab} {x : LineLine} {cs : List Value} (h : C_LineLine.rep D x cs) : cs = [.int .i64 x.From, .int .i64 x.To, .int .i64 x.Delay.Low, .int .i64 x.Delay.High] := h
theorem C_LineLine.mk {D : Stab} (x : LineLine) : C_LineLine.rep D x [.int .i64 x.From, .int .i64 x.To, .int .i64 x.Delay.Low, .int .i64 x.Delay.High] := rfl
structure LineLoop where
  Exchange : Int
  Read : Span
def C_LineLoop : Codec LineLoop := ⟨3, fun _ x cs => cs = [.int .i64 x.Exchange, .int .i64 x.Read.Low, .int .i64 x.Read.High], by rintro _ _ _ rfl; rfl, fun _ h => h, by rintro _ _ _ rfl; rfl⟩
theorem C_LineLoop.open {D : Stab} {x : LineLoop} {cs : List Value} (h : C_LineLoop.rep D x cs) : cs = [.int .i64 x.Exchange, .int .i64 x.Read.Low, .int .i64 x.Read.High] := h
theorem C_LineLoop.mk {D : Stab} (x : LineLoop) : C_LineLoop.rep D x [.int .i64 x.Exchange, .int .i64 x.Read.Low, .int .i64 x.Read.High] := rfl
structure LineNet where
  Exchanges : Int
  Lines : (List LineLine)
  Hops : Int
  Loops : (List LineLoop)
def C_LineNet : Codec LineNet := ⟨4, fun D x cs => ∃ p1 c1 p2 c2, cs = [.int .i64 x.Exchanges, .slice p1 x.Lines.length c1, .int .i64 x.Hops, .slice p2 x.Loops.length c2] ∧ SRc C_LineLine D x.Lines p1 c1 ∧ SRc C_LineLoop D x.Loops p2 c2, by rintro _ _ _ ⟨p1, c1, p2, c2, rfl, _⟩; rfl, by rintro _ _ _ _ hle ⟨p1, c1, p2, c2, rfl, h1, h2⟩; exact ⟨p1, c1, p2, c2, rfl, h1.mono hle, h2.mono hle⟩, by rintro _ _ _ ⟨p1, c1, p2, c2, rfl, _⟩; rfl⟩
theorem C_LineNet.open {D : Stab} {x : LineNet} {cs : List Value} (h : C_LineNet.rep D x cs) : ∃ p1 c1 p2 c2, cs = [.int .i64 x.Exchanges, .slice p1 x.Lines.length c1, .int .i64 x.Hops, .slice p2 x.Loops.length c2] ∧ SRc C_LineLine D x.Lines p1 c1 ∧ SRc C_LineLoop D x.Loops p2 c2 := h
structure line_kind where
  exchange : Int
  lines : Int
def kl_115 (x : line_kind) : List Int := [x.exchange, x.lines]
def C_line_kind : Codec line_kind := ⟨2, fun _ x cs => cs = [.int .i64 x.exchange, .int .i64 x.lines], by rintro _ _ _ rfl; rfl, fun _ h => h, by rintro _ _ _ rfl; rfl⟩
theorem C_line_kind.open {D : Stab} {x : line_kind} {cs : List Value} (h : C_line_kind.rep D x cs) : cs = [.int .i64 x.exchange, .int .i64 x.lines] := h
theorem C_line_kind.mk {D : Stab} (x : line_kind) : C_line_kind.rep D x [.int .i64 x.exchange, .int .i64 x.lines] := rfl
structure line_net where
  LineNet : LineNet
  ways : (List (line_kind × (List (List Int))))
  left : Int
def C_line_net : Codec line_net := ⟨6, fun D x cs => ∃ p1 c1 p2 c2 b3, cs = [.int .i64 x.LineNet.Exchanges, .slice p1 x.LineNet.Lines.length c1, .int .i64 x.LineNet.Hops, .slice p2 x.LineNet.Loops.length c2, .map b3, .int .i64 x.left] ∧ SRc C_LineLine D x.LineNet.Lines p1 c1 ∧ SRc C_LineLoop D x.LineNet.Loops p2 c2 ∧ MapB kl_115 (C_sl (C_sl C_int)) false D x.ways b3, by rintro _ _ _ ⟨p1, c1, p2, c2, b3, rfl, _⟩; rfl, by rintro _ _ _ _ hle ⟨p1, c1, p2, c2, b3, rfl, h1, h2, h3⟩; exact ⟨p1, c1, p2, c2, b3, rfl, h1.mono hle, h2.mono hle, h3.mono hle⟩, by rintro _ _ _ ⟨p1, c1, p2, c2, b3, rfl, _⟩; rfl⟩
theorem C_line_net.open {D : Stab} {x : line_net} {cs : List Value} (h : C_line_net.rep D x cs) : ∃ p1 c1 p2 c2 b3, cs = [.int .i64 x.LineNet.Exchanges, .slice p1 x.LineNet.Lines.length c1, .int .i64 x.LineNet.Hops, .slice p2 x.LineNet.Loops.length c2, .map b3, .int .i64 x.left] ∧ SRc C_LineLine D x.LineNet.Lines p1 c1 ∧ SRc C_LineLoop D x.LineNet.Loops p2 c2 ∧ MapB kl_115 (C_sl (C_sl C_int)) false D x.ways b3 := h
structure Arr2 where
  a0 : Int
  a1 : Int
def C_Arr2 : Codec Arr2 := ⟨2, fun _ x cs => cs = [.int .i64 x.a0, .int .i64 x.a1], by rintro _ _ _ rfl; rfl, fun _ h => h, by rintro _ _ _ rfl; rfl⟩
theorem C_Arr2.open {D : Stab} {x : Arr2} {cs : List Value} (h : C_Arr2.rep D x cs) : cs = [.int .i64 x.a0, .int .i64 x.a1] := h
theorem C_Arr2.mk {D : Stab} (x : Arr2) : C_Arr2.rep D x [.int .i64 x.a0, .int .i64 x.a1] := rfl
structure Arr3 where
  a0 : Int
  a1 : Int
  a2 : Int
def C_Arr3 : Codec Arr3 := ⟨3, fun _ x cs => cs = [.int .i64 x.a0, .int .i64 x.a1, .int .i64 x.a2], by rintro _ _ _ rfl; rfl, fun _ h => h, by rintro _ _ _ rfl; rfl⟩
theorem C_Arr3.open {D : Stab} {x : Arr3} {cs : List Value} (h : C_Arr3.rep D x cs) : cs = [.int .i64 x.a0, .int .i64 x.a1, .int .i64 x.a2] := h
theorem C_Arr3.mk {D : Stab} (x : Arr3) : C_Arr3.rep D x [.int .i64 x.a0, .int .i64 x.a1, .int .i64 x.a2] := rfl
structure Arr5 where
  a0 : Int
  a1 : Int
  a2 : Int
  a3 : Int
  a4 : Int
def C_Arr5 : Codec Arr5 := ⟨5, fun _ x cs => cs = [.int .i64 x.a0, .int .i64 x.a1, .int .i64 x.a2, .int .i64 x.a3, .int .i64 x.a4], by rintro _ _ _ rfl; rfl, fun _ h => h, by rintro _ _ _ rfl; rfl⟩
theorem C_Arr5.open {D : Stab} {x : Arr5} {cs : List Value} (h : C_Arr5.rep D x cs) : cs = [.int .i64 x.a0, .int .i64 x.a1, .int .i64 x.a2, .int .i64 x.a3, .int .i64 x.a4] := h
theorem C_Arr5.mk {D : Stab} (x : Arr5) : C_Arr5.rep D x [.int .i64 x.a0, .int .i64 x.a1, .int .i64 x.a2, .int .i64 x.a3, .int .i64 x.a4] := rfl
structure line_side where
  of_ : (Span → Option Int)
theorem zc_40 : zeroCells Tryd.prog 40 = some [.int .i64 0, .int .i64 0] := by kernel_rfl
theorem sz_40 : tsz Tryd.prog 40 = some (true, 2) := by kernel_rfl
theorem fo_40_0 : fieldOff Tryd.prog 40 0 = some 0 := by kernel_rfl
theorem sz_3 : tsz Tryd.prog 3 = some (false, 1) := by kernel_rfl
theorem fo_40_1 : fieldOff Tryd.prog 40 1 = some 1 := by kernel_rfl
theorem u_32 : Tryd.prog.underlying 32 = some (.slice 3) := by kernel_rfl
theorem mixed_ : Tryd.prog.follows .mixedOrders = true := by kernel_rfl
theorem ca_66 : callable Tryd.prog 66 = true := by kernel_rfl
theorem u_26 : Tryd.prog.underlying 26 = some (.slice 32) := by kernel_rfl
theorem sz_32 : tsz Tryd.prog 32 = some (false, 1) := by kernel_rfl
theorem ca_22 : callable Tryd.prog 22 = true := by kernel_rfl
theorem ca_44 : callable Tryd.prog 44 = true := by kernel_rfl
theorem gr_32 : growable Tryd.prog 32 3 1 = true := by kernel_rfl
theorem fo_25_0 : fieldOff Tryd.prog 25 0 = some 0 := by kernel_rfl
theorem ca_62 : callable Tryd.prog 62 = true := by kernel_rfl
theorem fo_25_1 : fieldOff Tryd.prog 25 1 = some 1 := by kernel_rfl
theorem sz_22 : tsz Tryd.prog 22 = some (false, 1) := by kernel_rfl
theorem u_22 : Tryd.prog.underlying 22 = some (.slice 68) := by kernel_rfl
theorem fo_25_2 : fieldOff Tryd.prog 25 2 = some 2 := by kernel_rfl
theorem fo_25_3 : fieldOff Tryd.prog 25 3 = some 3 := by kernel_rfl
theorem sz_23 : tsz Tryd.prog 23 = some (false, 1) := by kernel_rfl
theorem u_23 : Tryd.prog.underlying 23 = some (.slice 71) := by kernel_rfl
theorem sz_68 : tsz Tryd.prog 68 = some (true, 4) := by kernel_rfl
theorem zc_68 : zeroCells Tryd.prog 68 = some [.int .i64 0, .int .i64 0, .int .i64 0, .int .i64 0] := by kernel_rfl
theorem fo_68_0 : fieldOff Tryd.prog 68 0 = some 0 := by kernel_rfl
theorem fo_68_1 : fieldOff Tryd.prog 68 1 = some 1 := by kernel_rfl
theorem fo_68_2 : fieldOff Tryd.prog 68 2 = some 2 := by kernel_rfl
theorem ca_63 : callable Tryd.prog 63 = true := by kernel_rfl
theorem sz_71 : tsz Tryd.prog 71 = some (true, 3) := by kernel_rfl
theorem zc_71 : zeroCells Tryd.prog 71 = some [.int .i64 0, .int .i64 0, .int .i64 0] := by kernel_rfl
theorem fo_71_0 : fieldOff Tryd.prog 71 0 = some 0 := by kernel_rfl
theorem fo_71_1 : fieldOff Tryd.prog 71 1 = some 1 := by kernel_rfl
theorem ca_94 : callable Tryd.prog 94 = true := by kernel_rfl
theorem ca_82 : callable Tryd.prog 82 = true := by kernel_rfl
theorem zc_108 : zeroCells Tryd.prog 108 = some [.nilFunc] := by kernel_rfl
theorem sz_108 : tsz Tryd.prog 108 = some (true, 1) := by kernel_rfl
theorem fo_85_0 : fieldOff Tryd.prog 85 0 = some 0 := by kernel_rfl
theorem ca_133 : callable Tryd.prog 133 = true := by kernel_rfl
theorem ca_134 : callable Tryd.prog 134 = true := by kernel_rfl
theorem sz_122 : tsz Tryd.prog 122 = some (true, 2) := by kernel_rfl
theorem u_122 : Tryd.prog.underlying 122 = some (.array 2 121) := by kernel_rfl
theorem sz_121 : tsz Tryd.prog 121 = some (false, 1) := by kernel_rfl
theorem sz_85 : tsz Tryd.prog 85 = some (true, 6) := by kernel_rfl
theorem u_3 : Tryd.prog.underlying 3 = some (.int .i64) := by kernel_rfl
theorem sz_115 : tsz Tryd.prog 115 = some (true, 2) := by kernel_rfl
theorem u_83 : Tryd.prog.underlying 83 = some (.map 115 26) := by kernel_rfl
theorem fo_108_0 : fieldOff Tryd.prog 108 0 = some 0 := by kernel_rfl
theorem sz_106 : tsz Tryd.prog 106 = some (false, 1) := by kernel_rfl
theorem ca_95 : callable Tryd.prog 95 = true := by kernel_rfl
theorem ca_85 : callable Tryd.prog 85 = true := by kernel_rfl
theorem ca_96 : callable Tryd.prog 96 = true := by kernel_rfl
theorem ca_84 : callable Tryd.prog 84 = true := by kernel_rfl
theorem ca_86 : callable Tryd.prog 86 = true := by kernel_rfl
theorem ca_97 : callable Tryd.prog 97 = true := by kernel_rfl
theorem fo_85_2 : fieldOff Tryd.prog 85 2 = some 5 := by kernel_rfl
theorem fo_85_1 : fieldOff Tryd.prog 85 1 = some 4 := by kernel_rfl
theorem sz_83 : tsz Tryd.prog 83 = some (false, 1) := by kernel_rfl
theorem sz_25 : tsz Tryd.prog 25 = some (true, 4) := by kernel_rfl
theorem gr_26 : growable Tryd.prog 26 32 1 = true := by kernel_rfl
theorem ca_91 : callable Tryd.prog 91 = true := by kernel_rfl
theorem ca_74 : callable Tryd.prog 74 = true := by kernel_rfl
theorem ca_90 : callable Tryd.prog 90 = true := by kernel_rfl
theorem ca_75 : callable Tryd.prog 75 = true := by kernel_rfl
theorem ca_18 : callable Tryd.prog 18 = true := by kernel_rfl
theorem zc_25 : zeroCells Tryd.prog 25 = some [.int .i64 0, .slice none 0 0, .int .i64 0, .slice none 0 0] := by kernel_rfl
theorem gr_23 : growable Tryd.prog 23 71 3 = true := by kernel_rfl
theorem sz_113 : tsz Tryd.prog 113 = some (true, 7) := by kernel_rfl
theorem eg_113 : Tryd.prog.eqGuardType Tryd.prog.depth 113 = false := by kernel_rfl
theorem u_113 : Tryd.prog.underlying 113 = some (.array 7 4) := by kernel_rfl
theorem sz_4 : tsz Tryd.prog 4 = some (false, 1) := by kernel_rfl
theorem u_4 : Tryd.prog.underlying 4 = some .bool := by kernel_rfl
theorem zc_115 : zeroCells Tryd.prog 115 = some [.int .i64 0, .int .i64 0] := by kernel_rfl
theorem ca_89 : callable Tryd.prog 89 = true := by kernel_rfl
theorem sz_111 : tsz Tryd.prog 111 = some (false, 1) := by kernel_rfl
theorem ca_88 : callable Tryd.prog 88 = true := by kernel_rfl
theorem ca_98 : callable Tryd.prog 98 = true := by kernel_rfl
theorem zc_85 : zeroCells Tryd.prog 85 = some [.int .i64 0, .slice none 0 0, .int .i64 0, .slice none 0 0, .map none, .int .i64 0] := by kernel_rfl
theorem zc_111 : zeroCells Tryd.prog 111 = some [.nilFunc] := by kernel_rfl
theorem ca_67 : callable Tryd.prog 67 = true := by kernel_rfl
theorem ca_80 : callable Tryd.prog 80 = true := by kernel_rfl
theorem ca_72 : callable Tryd.prog 72 = true := by kernel_rfl
theorem ca_71 : callable Tryd.prog 71 = true := by kernel_rfl
theorem ca_58 : callable Tryd.prog 58 = true := by kernel_rfl
theorem ca_59 : callable Tryd.prog 59 = true := by kernel_rfl
theorem ca_87 : callable Tryd.prog 87 = true := by kernel_rfl
theorem ca_70 : callable Tryd.prog 70 = true := by kernel_rfl
theorem ca_69 : callable Tryd.prog 69 = true := by kernel_rfl
theorem ca_24 : callable Tryd.prog 24 = true := by kernel_rfl
theorem ca_64 : callable Tryd.prog 64 = true := by kernel_rfl
theorem ca_73 : callable Tryd.prog 73 = true := by kernel_rfl
theorem ca_76 : callable Tryd.prog 76 = true := by kernel_rfl
theorem ca_56 : callable Tryd.prog 56 = true := by kernel_rfl
theorem ca_15 : callable Tryd.prog 15 = true := by kernel_rfl
theorem ca_26 : callable Tryd.prog 26 = true := by kernel_rfl
theorem ca_28 : callable Tryd.prog 28 = true := by kernel_rfl
theorem ca_17 : callable Tryd.prog 17 = true := by kernel_rfl
theorem eg_40 : Tryd.prog.eqGuardType Tryd.prog.depth 40 = false := by kernel_rfl
theorem ca_20 : callable Tryd.prog 20 = true := by kernel_rfl
theorem ca_30 : callable Tryd.prog 30 = true := by kernel_rfl
theorem ca_57 : callable Tryd.prog 57 = true := by kernel_rfl
theorem ca_32 : callable Tryd.prog 32 = true := by kernel_rfl
theorem ca_23 : callable Tryd.prog 23 = true := by kernel_rfl
theorem eqT_115 : EqT Tryd.prog 115 true 2 2 := EqT.struct sz_115 (by kernel_rfl) (by kernel_rfl) (fl := [(false, 3, 0), (false, 3, 1)]) (by kernel_rfl) ⟨rfl, rfl, false, 1, EqT.int u_3 sz_3, rfl, rfl, false, 1, EqT.int u_3 sz_3, rfl⟩
theorem ckT_115 : CkT Tryd.prog 115 true 2 2 := CkT.struct sz_115 (by kernel_rfl) (fl := [(false, 3, 0), (false, 3, 1)]) (by kernel_rfl) ⟨rfl, rfl, false, 1, CkT.int u_3 sz_3, rfl, rfl, false, 1, CkT.int u_3 sz_3, rfl⟩
theorem mt_83 : MapT Tryd.prog 83 115 26 2 false [.slice none 0 0] := MapT.mk' u_83 (by kernel_rfl) eqT_115 (by decide) ckT_115 (by decide) (by kernel_rfl)
theorem eqT_40 : EqT Tryd.prog 40 true 2 2 := EqT.struct sz_40 (by kernel_rfl) (by kernel_rfl) (fl := [(false, 3, 0), (false, 3, 1)]) (by kernel_rfl) ⟨rfl, rfl, false, 1, EqT.int u_3 sz_3, rfl, rfl, false, 1, EqT.int u_3 sz_3, rfl⟩
def FnOk_106 (w0 : World) (D0 : Stab) (fid : FuncId) (first cap : List Value) (f : (Span → Option Int)) : Prop := callable Tryd.prog fid = true ∧ ∀ (w : World) (D : Stab), Below w0.heap.size w0 w → D0.le D → D.on w → ∀ (z : Span) (r : Int), f z = some r → Calls Tryd.prog fid (first ++ ([.agg #[.int .i64 z.Low, .int .i64 z.High]] : List Value) ++ cap).toArray w (RetP D w (.int .i64 r : Value))
def FnOk_98 (w0 : World) (D0 : Stab) (fid : FuncId) (first cap : List Value) (f : ((List Int) → Option Bool)) : Prop := callable Tryd.prog fid = true ∧ ∀ (w : World) (D : Stab), Below w0.heap.size w0 w → D0.le D → D.on w → ∀ (z : (List Int)) (p : Option Addr) (c : Nat) (hs : SRc C_int D z p c) (r : Bool), f z = some r → Calls Tryd.prog fid (first ++ ([.slice p z.length c] : List Value) ++ cap).toArray w (RetP D w (.bool r : Value))
end Go.Proofs.YthdbokigcfbgeaaDoor.Rt
