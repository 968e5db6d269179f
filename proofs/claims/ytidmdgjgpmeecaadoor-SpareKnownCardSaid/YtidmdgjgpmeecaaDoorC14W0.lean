/- Walks of the functions of this seat: what each Go function comes to, as a Lean function, and the proof. Types and facts. Under no conditions. -/
import Derived.Test.YtidmdgjgpmeecaaDoorC14Rt15
import Derived.Test.YtidmdgjgpmeecaaDoorProg
set_option linter.unusedVariables false
set_option linter.unusedSimpArgs false
set_option maxRecDepth 100000
set_option maxHeartbeats 4000000
namespace Go.Proofs.YtidmdgjgpmeecaaDoor.Rt
open Go Go.RowKit
def tab_0 : List Value := [.func (.func 62) #[] #[], .func (.func 73) #[] #[]]
def Glob (D : Stab) : Prop := ∃ E fr, D 0 = some (.cells tab_0.toArray E fr)
theorem Glob.mono {D D' : Stab} (h : Glob D) (hle : D.le D') : Glob D' := by obtain ⟨E, fr, h⟩ := h; exact ⟨E, fr, hle _ _ h⟩
structure Span where
  Low : Int
  High : Int
def C_Span : Codec Span := ⟨2, fun _ x cs => cs = [iv x.Low, iv x.High], by rintro _ _ _ rfl; rfl, fun _ h => h, by rintro _ _ _ rfl; rfl⟩
theorem C_Span.open {D : Stab} {x : Span} {cs : List Value} (h : C_Span.rep D x cs) : cs = [iv x.Low, iv x.High] := h
theorem C_Span.mk {D : Stab} (x : Span) : C_Span.rep D x [iv x.Low, iv x.High] := rfl
structure SpareMachine where
  From : Int
  Warm : Int
  Life : Span
  Drift : Int
def C_SpareMachine : Codec SpareMachine := ⟨5, fun _ x cs => cs = [iv x.From, iv x.Warm, iv x.Life.Low, iv x.Life.High, iv x.Drift], by rintro _ _ _ rfl; rfl, fun _ h => h, by rintro _ _ _ rfl; rfl⟩
theorem C_SpareMachine.open {D : Stab} {x : SpareMachine} {cs : List Value} (h : C_SpareMachine.rep D x cs) : cs = [iv x.From, iv x.Warm, iv x.Life.Low, iv x.Life.High, iv x.Drift] := h
theorem C_SpareMachine.mk {D : Stab} (x : SpareMachine) : C_SpareMachine.rep D x [iv x.From, iv x.Warm, iv x.Life.Low, iv x.Life.High, iv x.Drift] := rfl
structure SpareStore where
  Hours : Int
  Gap : Int
  Machines : (List SpareMachine)
def C_SpareStore : Codec SpareStore := ⟨3, fun D x cs => ∃ p1 c1, cs = [iv x.Hours, iv x.Gap, .slice p1 x.Machines.length c1] ∧ SRc C_SpareMachine D x.Machines p1 c1, by rintro _ _ _ ⟨p1, c1, rfl, _⟩; rfl, by rintro _ _ _ _ hle ⟨p1, c1, rfl, h1⟩; exact ⟨p1, c1, rfl, h1.mono hle⟩, by rintro _ _ _ ⟨p1, c1, rfl, _⟩; rfl⟩
theorem C_SpareStore.open {D : Stab} {x : SpareStore} {cs : List Value} (h : C_SpareStore.rep D x cs) : ∃ p1 c1, cs = [iv x.Hours, iv x.Gap, .slice p1 x.Machines.length c1] ∧ SRc C_SpareMachine D x.Machines p1 c1 := h
structure spare_machine where
  SpareMachine : SpareMachine
  gap : Int
def C_spare_machine : Codec spare_machine := ⟨6, fun _ x cs => cs = [iv x.SpareMachine.From, iv x.SpareMachine.Warm, iv x.SpareMachine.Life.Low, iv x.SpareMachine.Life.High, iv x.SpareMachine.Drift, iv x.gap], by rintro _ _ _ rfl; rfl, fun _ h => h, by rintro _ _ _ rfl; rfl⟩
theorem C_spare_machine.open {D : Stab} {x : spare_machine} {cs : List Value} (h : C_spare_machine.rep D x cs) : cs = [iv x.SpareMachine.From, iv x.SpareMachine.Warm, iv x.SpareMachine.Life.Low, iv x.SpareMachine.Life.High, iv x.SpareMachine.Drift, iv x.gap] := h
theorem C_spare_machine.mk {D : Stab} (x : spare_machine) : C_spare_machine.rep D x [iv x.SpareMachine.From, iv x.SpareMachine.Warm, iv x.SpareMachine.Life.Low, iv x.SpareMachine.Life.High, iv x.SpareMachine.Drift, iv x.gap] := rfl
structure SpareTurn where
  Machine : Int
  Start : Int
  Over : Int
def C_SpareTurn : Codec SpareTurn := ⟨3, fun _ x cs => cs = [iv x.Machine, iv x.Start, iv x.Over], by rintro _ _ _ rfl; rfl, fun _ h => h, by rintro _ _ _ rfl; rfl⟩
theorem C_SpareTurn.open {D : Stab} {x : SpareTurn} {cs : List Value} (h : C_SpareTurn.rep D x cs) : cs = [iv x.Machine, iv x.Start, iv x.Over] := h
theorem C_SpareTurn.mk {D : Stab} (x : SpareTurn) : C_SpareTurn.rep D x [iv x.Machine, iv x.Start, iv x.Over] := rfl
structure spare_some where
  set : Int
  turns : Int
def kl_88 (x : spare_some) : List Int := [x.set, x.turns]
def C_spare_some : Codec spare_some := ⟨2, fun _ x cs => cs = [iv x.set, iv x.turns], by rintro _ _ _ rfl; rfl, fun _ h => h, by rintro _ _ _ rfl; rfl⟩
theorem C_spare_some.open {D : Stab} {x : spare_some} {cs : List Value} (h : C_spare_some.rep D x cs) : cs = [iv x.set, iv x.turns] := h
theorem C_spare_some.mk {D : Stab} (x : spare_some) : C_spare_some.rep D x [iv x.set, iv x.turns] := rfl
structure spare_store where
  SpareStore : SpareStore
  far : (List (spare_some × Int))
  last : (List (spare_some × Int))
def C_spare_store : Codec spare_store := ⟨5, fun D x cs => ∃ p1 c1 b2 b3, cs = [iv x.SpareStore.Hours, iv x.SpareStore.Gap, .slice p1 x.SpareStore.Machines.length c1, .map b2, .map b3] ∧ SRc C_SpareMachine D x.SpareStore.Machines p1 c1 ∧ MapS kl_88 C_int false D x.far b2 ∧ MapS kl_88 C_int false D x.last b3, by rintro _ _ _ ⟨p1, c1, b2, b3, rfl, _⟩; rfl, by rintro _ _ _ _ hle ⟨p1, c1, b2, b3, rfl, h1, h2, h3⟩; exact ⟨p1, c1, b2, b3, rfl, h1.mono hle, h2.mono hle, h3.mono hle⟩, by rintro _ _ _ ⟨p1, c1, b2, b3, rfl, _⟩; rfl⟩
theorem C_spare_store.open {D : Stab} {x : spare_store} {cs : List Value} (h : C_spare_store.rep D x cs) : ∃ p1 c1 b2 b3, cs = [iv x.SpareStore.Hours, iv x.SpareStore.Gap, .slice p1 x.SpareStore.Machines.length c1, .map b2, .map b3] ∧ SRc C_SpareMachine D x.SpareStore.Machines p1 c1 ∧ MapS kl_88 C_int false D x.far b2 ∧ MapS kl_88 C_int false D x.last b3 := h
structure Arr3 where
  a0 : Int
  a1 : Int
  a2 : Int
def C_Arr3 : Codec Arr3 := ⟨3, fun _ x cs => cs = [iv x.a0, iv x.a1, iv x.a2], by rintro _ _ _ rfl; rfl, fun _ h => h, by rintro _ _ _ rfl; rfl⟩
theorem C_Arr3.open {D : Stab} {x : Arr3} {cs : List Value} (h : C_Arr3.rep D x cs) : cs = [iv x.a0, iv x.a1, iv x.a2] := h
theorem C_Arr3.mk {D : Stab} (x : Arr3) : C_Arr3.rep D x [iv x.a0, iv x.a1, iv x.a2] := rfl
theorem fo_50_0 : fieldOff Tryd.prog 50 0 = some 0 := by kernel_rfl
theorem sz_3 : tsz Tryd.prog 3 = some (false, 1) := by kernel_rfl
theorem fo_50_1 : fieldOff Tryd.prog 50 1 = some 1 := by kernel_rfl
theorem zc_50 : zeroCells Tryd.prog 50 = some [iv 0, iv 0] := by kernel_rfl
theorem sz_50 : tsz Tryd.prog 50 = some (true, 2) := by kernel_rfl
theorem u_39 : Tryd.prog.underlying 39 = some (.slice 3) := by kernel_rfl
theorem mixed_ : Tryd.prog.follows .mixedOrders = true := by kernel_rfl
theorem ca_64 : callable Tryd.prog 64 = true := by kernel_rfl
theorem gr_39 : growable Tryd.prog 39 3 1 = true := by kernel_rfl
theorem fo_24_0 : fieldOff Tryd.prog 24 0 = some 0 := by kernel_rfl
theorem ca_48 : callable Tryd.prog 48 = true := by kernel_rfl
theorem fo_24_1 : fieldOff Tryd.prog 24 1 = some 1 := by kernel_rfl
theorem fo_24_2 : fieldOff Tryd.prog 24 2 = some 2 := by kernel_rfl
theorem sz_22 : tsz Tryd.prog 22 = some (false, 1) := by kernel_rfl
theorem u_22 : Tryd.prog.underlying 22 = some (.slice 52) := by kernel_rfl
theorem sz_52 : tsz Tryd.prog 52 = some (true, 5) := by kernel_rfl
theorem zc_52 : zeroCells Tryd.prog 52 = some [iv 0, iv 0, iv 0, iv 0, iv 0] := by kernel_rfl
theorem fo_52_0 : fieldOff Tryd.prog 52 0 = some 0 := by kernel_rfl
theorem fo_52_1 : fieldOff Tryd.prog 52 1 = some 1 := by kernel_rfl
theorem fo_52_2 : fieldOff Tryd.prog 52 2 = some 2 := by kernel_rfl
theorem fo_52_3 : fieldOff Tryd.prog 52 3 = some 4 := by kernel_rfl
theorem zc_70 : zeroCells Tryd.prog 70 = some [iv 0, iv 0, iv 0, iv 0, iv 0, iv 0] := by kernel_rfl
theorem sz_70 : tsz Tryd.prog 70 = some (true, 6) := by kernel_rfl
theorem zc_104 : zeroCells Tryd.prog 104 = some [.nilFunc] := by kernel_rfl
theorem sz_104 : tsz Tryd.prog 104 = some (true, 1) := by kernel_rfl
theorem ca_77 : callable Tryd.prog 77 = true := by kernel_rfl
theorem fT_104_0 : fieldT Tryd.prog 104 0 = some (0, false, 1) := by kernel_rfl
theorem fo_70_0 : fieldOff Tryd.prog 70 0 = some 0 := by kernel_rfl
theorem ca_78 : callable Tryd.prog 78 = true := by kernel_rfl
theorem ca_73 : callable Tryd.prog 73 = true := by kernel_rfl
theorem fo_70_1 : fieldOff Tryd.prog 70 1 = some 5 := by kernel_rfl
theorem ca_74 : callable Tryd.prog 74 = true := by kernel_rfl
theorem ca_62 : callable Tryd.prog 62 = true := by kernel_rfl
theorem sz_24 : tsz Tryd.prog 24 = some (true, 3) := by kernel_rfl
theorem ca_17 : callable Tryd.prog 17 = true := by kernel_rfl
theorem ca_49 : callable Tryd.prog 49 = true := by kernel_rfl
theorem u_73 : Tryd.prog.underlying 73 = some (.array 2 72) := by kernel_rfl
theorem sz_72 : tsz Tryd.prog 72 = some (false, 1) := by kernel_rfl
theorem fo_46_0 : fieldOff Tryd.prog 46 0 = some 0 := by kernel_rfl
theorem fo_46_1 : fieldOff Tryd.prog 46 1 = some 1 := by kernel_rfl
theorem zc_95 : zeroCells Tryd.prog 95 = some (arr celB (List.replicate 8 false)) := by kernel_rfl
theorem u_25 : Tryd.prog.underlying 25 = some (.slice 46) := by kernel_rfl
theorem sz_46 : tsz Tryd.prog 46 = some (true, 3) := by kernel_rfl
theorem zc_46 : zeroCells Tryd.prog 46 = some [iv 0, iv 0, iv 0] := by kernel_rfl
theorem u_95 : Tryd.prog.underlying 95 = some (.array 8 4) := by kernel_rfl
theorem sz_4 : tsz Tryd.prog 4 = some (false, 1) := by kernel_rfl
theorem fo_46_2 : fieldOff Tryd.prog 46 2 = some 2 := by kernel_rfl
theorem ca_68 : callable Tryd.prog 68 = true := by kernel_rfl
theorem sz_95 : tsz Tryd.prog 95 = some (true, 8) := by kernel_rfl
theorem eg_95 : Tryd.prog.eqGuardType Tryd.prog.depth 95 = false := by kernel_rfl
theorem u_4 : Tryd.prog.underlying 4 = some .bool := by kernel_rfl
theorem ca_53 : callable Tryd.prog 53 = true := by kernel_rfl
theorem fo_80_0 : fieldOff Tryd.prog 80 0 = some 0 := by kernel_rfl
theorem u_3 : Tryd.prog.underlying 3 = some (.int .i64) := by kernel_rfl
theorem sz_88 : tsz Tryd.prog 88 = some (true, 2) := by kernel_rfl
theorem u_78 : Tryd.prog.underlying 78 = some (.map 88 3) := by kernel_rfl
theorem ca_58 : callable Tryd.prog 58 = true := by kernel_rfl
theorem zc_88 : zeroCells Tryd.prog 88 = some [iv 0, iv 0] := by kernel_rfl
theorem fo_80_1 : fieldOff Tryd.prog 80 1 = some 3 := by kernel_rfl
theorem sz_78 : tsz Tryd.prog 78 = some (false, 1) := by kernel_rfl
theorem zc_3 : zeroCells Tryd.prog 3 = some [iv 0] := by kernel_rfl
theorem sz_56 : tsz Tryd.prog 56 = some (false, 1) := by kernel_rfl
theorem ca_70 : callable Tryd.prog 70 = true := by kernel_rfl
theorem sz_80 : tsz Tryd.prog 80 = some (true, 5) := by kernel_rfl
theorem ca_71 : callable Tryd.prog 71 = true := by kernel_rfl
theorem fo_80_2 : fieldOff Tryd.prog 80 2 = some 4 := by kernel_rfl
theorem ca_76 : callable Tryd.prog 76 = true := by kernel_rfl
theorem zc_80 : zeroCells Tryd.prog 80 = some [iv 0, iv 0, .slice none 0 0, .map none, .map none] := by kernel_rfl
theorem zc_56 : zeroCells Tryd.prog 56 = some [.nilFunc] := by kernel_rfl
theorem ca_61 : callable Tryd.prog 61 = true := by kernel_rfl
theorem ca_55 : callable Tryd.prog 55 = true := by kernel_rfl
theorem ca_57 : callable Tryd.prog 57 = true := by kernel_rfl
theorem ca_56 : callable Tryd.prog 56 = true := by kernel_rfl
theorem gr_25 : growable Tryd.prog 25 46 3 = true := by kernel_rfl
theorem ca_63 : callable Tryd.prog 63 = true := by kernel_rfl
theorem ca_75 : callable Tryd.prog 75 = true := by kernel_rfl
theorem ca_67 : callable Tryd.prog 67 = true := by kernel_rfl
theorem ca_66 : callable Tryd.prog 66 = true := by kernel_rfl
theorem zc_24 : zeroCells Tryd.prog 24 = some [iv 0, iv 0, .slice none 0 0] := by kernel_rfl
theorem ca_39 : callable Tryd.prog 39 = true := by kernel_rfl
theorem ca_46 : callable Tryd.prog 46 = true := by kernel_rfl
theorem ca_15 : callable Tryd.prog 15 = true := by kernel_rfl
theorem ca_47 : callable Tryd.prog 47 = true := by kernel_rfl
theorem ca_19 : callable Tryd.prog 19 = true := by kernel_rfl
theorem ca_22 : callable Tryd.prog 22 = true := by kernel_rfl
theorem ca_24 : callable Tryd.prog 24 = true := by kernel_rfl
theorem ca_25 : callable Tryd.prog 25 = true := by kernel_rfl
theorem ca_27 : callable Tryd.prog 27 = true := by kernel_rfl
theorem ca_30 : callable Tryd.prog 30 = true := by kernel_rfl
theorem ca_32 : callable Tryd.prog 32 = true := by kernel_rfl
theorem ca_29 : callable Tryd.prog 29 = true := by kernel_rfl
theorem ca_21 : callable Tryd.prog 21 = true := by kernel_rfl
theorem eqT_88 : EqT Tryd.prog 88 true 2 2 := EqT.struct sz_88 (by kernel_rfl) (by kernel_rfl) (fl := [(false, 3, 0), (false, 3, 1)]) (by kernel_rfl) ⟨rfl, rfl, false, 1, EqT.int u_3 sz_3, rfl, rfl, false, 1, EqT.int u_3 sz_3, rfl⟩
theorem ckT_88 : CkT Tryd.prog 88 true 2 2 := CkT.struct sz_88 (by kernel_rfl) (fl := [(false, 3, 0), (false, 3, 1)]) (by kernel_rfl) ⟨rfl, rfl, false, 1, CkT.int u_3 sz_3, rfl, rfl, false, 1, CkT.int u_3 sz_3, rfl⟩
theorem mt_78 : MapT Tryd.prog 78 88 3 2 false [iv 0] := MapT.mk' u_78 (by kernel_rfl) eqT_88 (by decide) ckT_88 (by decide) (by kernel_rfl)
def FnOk_93 (w0 : World) (D0 : Stab) (fid : FuncId) (first cap : List Value) (f : (Int → Option Bool)) : Prop := callable Tryd.prog fid = true ∧ ∀ (w : World) (D : Stab), Below w0.heap.size w0 w → D0.le D → D.on w → ∀ (z : Int) (r : Bool), f z = some r → Calls Tryd.prog fid (first ++ ([iv z] : List Value) ++ cap).toArray w (RetP D w (.bool r : Value))
end Go.Proofs.YtidmdgjgpmeecaaDoor.Rt
