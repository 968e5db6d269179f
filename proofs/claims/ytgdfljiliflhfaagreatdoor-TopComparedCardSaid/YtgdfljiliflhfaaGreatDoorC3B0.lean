/- The rows of the seat: what the laid tables of functions give; the witness's world. Under no conditions. -/
import Derived.Test.YtgdfljiliflhfaaGreatDoorRows
import Derived.Test.YtgdfljiliflhfaaGreatDoorC3Rt13
import Derived.Test.YtgdfljiliflhfaaGreatDoorC3W0
import Derived.ProofKit
import Derived.LaidMore
import Derived.Stop.Joined
set_option maxRecDepth 100000
namespace Go.Proofs.YtgdfljiliflhfaaGreatDoor.Rt
open Go Go.RowKit Go.ChangeShapes Go.WideShapes Go.ChangeAt
theorem own:ownKnob Tryz.prog.godebug=none:=by kernel_rfl
def laid : List (String × DataW Unit) := [("remontoir/beat.kinds", Rows.laid_remontoir_beat_kinds), ("remontoir/line.ends", Rows.laid_remontoir_line_ends)]
theorem door_met (os:Os) (args:Array Value):laidMetH Tryz.prog laid ((World.doorLaid Tryz.prog 600 os).forCall (fun _ _=>0) ⟨#[],args,[]⟩).memory:=
  laidMetH_of_parts3 (fuel:=8) (laidMet_of_run' 8 (by kernel_rfl) (by kernel_rfl)) (by kernel_rfl) (by kernel_rfl)
theorem gTab_0 : Tryz.prog.globalNamed "remontoir/beat.kinds" = some 0 := by kernel_rfl
theorem tTab_0:(Tryz.prog.globals[0]?).map (·.type)=some 103:=by kernel_rfl
theorem cellsF_0:Tryz.prog.cellsOf 102=1:=by kernel_rfl
theorem cellsA_0:Tryz.prog.cellsOf 103=3:=by kernel_rfl
theorem glob_of_0 {W:World} (h:laidMetH Tryz.prog laid W):Glob_0 (Heap W):=by
  obtain ⟨g, t, cs, fuel, p, hg, ht, hv, hd⟩ := h.funcs (show ("remontoir/beat.kinds", Rows.laid_remontoir_beat_kinds) ∈ laid from .head _)
  obtain rfl:=Option.some.inj (gTab_0.symm.trans hg)
  obtain rfl:=Option.some.inj (tTab_0.symm.trans ht)
  obtain ⟨xs,m,_,hx,hlen,hn,hel⟩:=DataW.trod_array Tryz.underlying103 hd
  rw [cellsA_0] at hlen
  have e0:=hel 0 (by decide)
  have e1:=hel 1 (by decide)
  have e2:=hel 2 (by decide)
  rw [cellsF_0] at e0 e1 e2
  match xs,hn,hx,e0,e1,e2 with
  | [x0,x1,x2],_,hx,e0,e1,e2=>
    have hx1 : DataW.agg [x0.1, x1.1, x2.1] = DataW.funcsOut (.agg [.iface "func" (.lit (.string [40, 114, 101, 109, 111, 110, 116, 111, 105, 114, 47, 98, 101, 97, 116, 46, 99, 101, 108, 108, 97, 114, 41, 46, 103, 114, 111, 119, 115])), .iface "func" (.lit (.string [40, 114, 101, 109, 111, 110, 116, 111, 105, 114, 47, 98, 101, 97, 116, 46, 99, 101, 108, 108, 97, 114, 41, 46, 114, 101, 97, 100, 115])), .iface "func" (.lit (.string [40, 114, 101, 109, 111, 110, 116, 111, 105, 114, 47, 98, 101, 97, 116, 46, 99, 101, 108, 108, 97, 114, 41, 46, 104, 111, 108, 100, 115]))]) := (congrArg Prod.fst hx).symm
    have hx2:[x0.1,x1.1,x2.1]=[DataW.held [40,114,101,109,111,110,116,111,105,114,47,98,101,97,116,46,99,101,108,108,97,114,41,46,103,114,111,119,115],DataW.held [40,114,101,109,111,110,116,111,105,114,47,98,101,97,116,46,99,101,108,108,97,114,41,46,114,101,97,100,115],DataW.held [40,114,101,109,111,110,116,111,105,114,47,98,101,97,116,46,99,101,108,108,97,114,41,46,104,111,108,100,115]]:=by
      injection hx1
    obtain ⟨d0,q0⟩:=x0
    obtain ⟨d1,q1⟩:=x1
    obtain ⟨d2,q2⟩:=x2
    simp only [List.cons.injEq,and_true] at hx2
    obtain ⟨rfl,rfl,rfl⟩:=hx2
    obtain ⟨l⟩:=cs
    match l,hlen with
    | [c0,c1,c2],_=>
      obtain rfl:=func_of_trod (f0:=126) Tryz.underlying102 (by kernel_rfl) (v:=c0) e0
      obtain rfl:=func_of_trod (f0:=127) Tryz.underlying102 (by kernel_rfl) (v:=c1) e1
      obtain rfl:=func_of_trod (f0:=128) Tryz.underlying102 (by kernel_rfl) (v:=c2) e2
      simp only [World.var?,hg,Option.bind_some] at hv
      split at hv
      · rename_i cs' E fr hh
        injection hv with hv
        subst hv
        exact ⟨E,fr,hh⟩
      · cases hv
theorem gTab_1 : Tryz.prog.globalNamed "remontoir/line.ends" = some 1 := by kernel_rfl
theorem tTab_1:(Tryz.prog.globals[1]?).map (·.type)=some 164:=by kernel_rfl
theorem cellsF_1:Tryz.prog.cellsOf 163=1:=by kernel_rfl
theorem cellsA_1:Tryz.prog.cellsOf 164=2:=by kernel_rfl
theorem glob_of_1 {W:World} (h:laidMetH Tryz.prog laid W):Glob_1 (Heap W):=by
  obtain ⟨g, t, cs, fuel, p, hg, ht, hv, hd⟩ := h.funcs (show ("remontoir/line.ends", Rows.laid_remontoir_line_ends) ∈ laid from .tail _ (.head _))
  obtain rfl:=Option.some.inj (gTab_1.symm.trans hg)
  obtain rfl:=Option.some.inj (tTab_1.symm.trans ht)
  obtain ⟨xs,m,_,hx,hlen,hn,hel⟩:=DataW.trod_array Tryz.underlying164 hd
  rw [cellsA_1] at hlen
  have e0:=hel 0 (by decide)
  have e1:=hel 1 (by decide)
  rw [cellsF_1] at e0 e1
  match xs,hn,hx,e0,e1 with
  | [x0,x1],_,hx,e0,e1=>
    have hx1 : DataW.agg [x0.1, x1.1] = DataW.funcsOut (.agg [.iface "func" (.lit (.string [40, 114, 101, 109, 111, 110, 116, 111, 105, 114, 47, 108, 105, 110, 101, 46, 110, 101, 116, 41, 46, 98, 101, 103, 105, 110])), .iface "func" (.lit (.string [40, 114, 101, 109, 111, 110, 116, 111, 105, 114, 47, 108, 105, 110, 101, 46, 110, 101, 116, 41, 46, 101, 110, 100]))]) := (congrArg Prod.fst hx).symm
    have hx2:[x0.1,x1.1]=[DataW.held [40,114,101,109,111,110,116,111,105,114,47,108,105,110,101,46,110,101,116,41,46,98,101,103,105,110],DataW.held [40,114,101,109,111,110,116,111,105,114,47,108,105,110,101,46,110,101,116,41,46,101,110,100]]:=by
      injection hx1
    obtain ⟨d0,q0⟩:=x0
    obtain ⟨d1,q1⟩:=x1
    simp only [List.cons.injEq,and_true] at hx2
    obtain ⟨rfl,rfl⟩:=hx2
    obtain ⟨l⟩:=cs
    match l,hlen with
    | [c0,c1],_=>
      obtain rfl:=func_of_trod (f0:=134) Tryz.underlying163 (by kernel_rfl) (v:=c0) e0
      obtain rfl:=func_of_trod (f0:=135) Tryz.underlying163 (by kernel_rfl) (v:=c1) e1
      simp only [World.var?,hg,Option.bind_some] at hv
      split at hv
      · rename_i cs' E fr hh
        injection hv with hv
        subst hv
        exact ⟨E,fr,hh⟩
      · cases hv
theorem glob_of {W:World} (h:laidMetH Tryz.prog laid W):Glob (Heap W):=⟨glob_of_0 h,glob_of_1 h⟩
end Go.Proofs.YtgdfljiliflhfaaGreatDoor.Rt
