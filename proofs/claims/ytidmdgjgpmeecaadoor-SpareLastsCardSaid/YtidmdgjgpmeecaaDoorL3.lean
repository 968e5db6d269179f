/- Walks of the functions of this seat: what each Go function comes to, as a Lean function, and the proof. A law. Under no conditions. -/
import Derived.Test.YtidmdgjgpmeecaaDoorWRZ
set_option linter.unusedVariables false
set_option linter.unusedSimpArgs false
set_option maxRecDepth 100000
set_option maxHeartbeats 4000000
namespace Go.Proofs.YtidmdgjgpmeecaaDoor.Rt
open Go Go.RowKit
noncomputable def remontoirlaw08_SpareLasts (sv : SpareStore) (machine : Int) (plan : (List SpareTurn)) : Option Bool :=
  (spare_Lasts sv machine).bind fun rv =>
  (remontoirref08_Lasts sv machine).bind fun rv_1 =>
  (cond (rv.1 != rv_1.1) (some true) (some (rv.2.1 != rv_1.2.1))).bind fun t =>
  (cond t (some true) (some (rv.2.2 != rv_1.2.2))).bind fun t_1 =>
  (cond t_1 (some true) ((spare_Check sv).bind fun rv_2 =>
  (remontoirref08_Check sv).bind fun rv_3 =>
  some (rv_2 != rv_3))).bind fun t_2 =>
  cond t_2
  (some false)
  ((spare_IsPlan sv plan).bind fun rv_4 =>
  (remontoirref08_IsPlan sv plan).bind fun rv_5 =>
  (cond ((rv_4.1 == rv_5.1) && (rv_4.2 == rv_5.2)) ((remontoirlaw08_works).bind fun rv_6 =>
  some rv_6) (some false)).bind fun t_3 =>
  some t_3)
theorem remontoirlaw08_SpareLasts_ok {w0 : World} {D0 : Stab} (hD : D0.on w0) (sv : SpareStore) (machine : Int) (plan : (List SpareTurn)) {p : Option Addr} {c : Nat} {p_1 : Option Addr} {c_1 : Nat} (hs : SRc C_SpareMachine D0 sv.Machines p c) (hs_1 : SRc C_SpareTurn D0 plan p_1 c_1) (hG : Glob D0) (out : Bool) (h : remontoirlaw08_SpareLasts sv machine plan = some out) : Calls Tryd.prog 3 [.agg #[.int .i64 sv.Hours, .int .i64 sv.Gap, .slice p sv.Machines.length c], .int .i64 machine, .slice p_1 plan.length c_1].toArray w0 (RetP D0 w0 (.bool out)) := by
 refine enter _ 72 Tryd.func3 rfl Tryd.ntmps3 rfl fun a hF => ?_
 replace hF : Frm 72 [] [(0, .agg #[.int .i64 sv.Hours, .int .i64 sv.Gap, .slice p sv.Machines.length c]), (1, .int .i64 machine), (2, .slice p_1 plan.length c_1)] a := hF
 have hS := St.start hD
 unfold remontoirlaw08_SpareLasts at h
 refine seq ?_
 refine region ?_
 refine O.box (cs := [.int .i64 sv.Hours, .int .i64 sv.Gap, .slice p sv.Machines.length c]) 1 hF rfl rfl hS rfl fun b a w hF hS => ?_
 refine step hF (Y.assign hF rfl) rfl fun a hF => ?_
 refine nil (then_n ?_)
 refine seq ?_
 refine region ?_
 refine step hF (Y.loadNL 1 sz_24 hF rfl hS rfl rfl rfl) rfl fun a hF => ?_
 refine step hF (Y.move hF rfl) rfl fun a hF => ?_
 obtain ⟨rv, hx, h⟩ := bind_some h
 refine O.callP (us := [.agg #[.int .i64 sv.Hours, .int .i64 sv.Gap, .slice p sv.Machines.length c], .int .i64 machine]) ca_15 hF hS (spare_Lasts_ok hS.stab sv machine hs hG rv hx) rfl rfl fun a w hF hS => ?_
 refine step hF (Y.move hF rfl) rfl fun a hF => ?_
 refine step hF (Y.extract hF rfl rfl) rfl fun a hF => ?_
 refine step hF (Y.extract hF rfl rfl) rfl fun a hF => ?_
 refine step hF (Y.extract hF rfl rfl) rfl fun a hF => ?_
 refine step hF (Y.assign hF rfl) rfl fun a hF => ?_
 refine step hF (Y.assign hF rfl) rfl fun a hF => ?_
 refine step hF (Y.assign hF rfl) rfl fun a hF => ?_
 refine nil (then_n ?_)
 refine seq ?_
 refine region ?_
 refine step hF (Y.loadNL 1 sz_24 hF rfl hS rfl rfl rfl) rfl fun a hF => ?_
 refine step hF (Y.move hF rfl) rfl fun a hF => ?_
 obtain ⟨rv_1, hx_1, h⟩ := bind_some h
 refine O.callP (us := [.agg #[.int .i64 sv.Hours, .int .i64 sv.Gap, .slice p sv.Machines.length c], .int .i64 machine]) ca_16 hF hS (remontoirref08_Lasts_ok hS.stab sv machine hs rv_1 hx_1) rfl rfl fun a w hF hS => ?_
 refine step hF (Y.move hF rfl) rfl fun a hF => ?_
 refine step hF (Y.extract hF rfl rfl) rfl fun a hF => ?_
 refine step hF (Y.extract hF rfl rfl) rfl fun a hF => ?_
 refine step hF (Y.extract hF rfl rfl) rfl fun a hF => ?_
 refine step hF (Y.assign hF rfl) rfl fun a hF => ?_
 refine step hF (Y.assign hF rfl) rfl fun a hF => ?_
 refine step hF (Y.assign hF rfl) rfl fun a hF => ?_
 refine nil (then_n ?_)
 refine seq ?_
 refine seq ?_
 obtain ⟨t, ht, h⟩ := bind_some h
 obtain ⟨t_1, ht_1, h⟩ := bind_some h
 obtain ⟨t_2, ht_2, h⟩ := bind_some h
 refine drawsV 20 (.flt 0 (.flt 1 (.flt 2 (.flt 3 (.flt 4 (.flt 5 (.flt 6 (.flt 7 (.flt 8 (.flt 9 (.flt 10 (.flt 11 (.flt 12 (.flt 13 (.flt 14 (.flt 16 (.alt 15 (.alt 17 (.flt 18 (.flt 19 .done)) .stop) .stop))))))))))))))))) mixed_ (by kernel_rfl) (fun w => St w0 D0 D0 [(1, .cells b [.int .i64 sv.Hours, .int .i64 sv.Gap, .slice p sv.Machines.length c] 24)] w) (fun a w => Frm 72 [] [(2, .slice p_1 plan.length c_1), (3, .pointer (some ⟨b, 0, none⟩)), (6, .bool false), (9, .int .i64 rv.2.2), (12, .int .i64 rv_1.2.2), (48, .bool t_2)] a ∧ St w0 D0 D0 [(1, .cells b [.int .i64 sv.Hours, .int .i64 sv.Gap, .slice p sv.Machines.length c] 24)] w) (hS.weak (ms := [(1, .cells b [.int .i64 sv.Hours, .int .i64 sv.Gap, .slice p sv.Machines.length c] 24)]) ⟨rfl, trivial⟩).drew (fun _ _ _ _ h => h) ?_ ?_
 ·replace hS := hS.drew
  have hle0 := hS.le
  rcases bcases (rv.1 != rv_1.1) with hbv | hbv
  ·skip
   replace ht := cond_t ht hbv
   obtain rfl := some_inj ht
   replace ht_1 := cond_t ht_1 rfl
   obtain rfl := some_inj ht_1
   replace ht_2 := cond_t ht_2 rfl
   obtain rfl := some_inj ht_2
   refine stepV (i := 0) rfl hF (fun w hS => Y.move hF rfl) rfl fun a hF => ?_
   refine stepV (i := 1) rfl hF (fun w hS => Y.move hF rfl) rfl fun a hF => ?_
   refine stepV (i := 2) rfl hF (fun w hS => Y.neq hF rfl rfl) rfl fun a hF => ?_
   refine stepV (i := 3) rfl hF (fun w hS => Y.move hF rfl) rfl fun a hF => ?_
   refine stepV_off (i := 4) rfl hF rfl rfl hbv rfl fun a hF => ?_
   refine stepV_off (i := 5) rfl hF rfl rfl hbv rfl fun a hF => ?_
   refine stepV_off (i := 6) rfl hF rfl rfl hbv rfl fun a hF => ?_
   refine stepV (i := 7) rfl hF (fun w hS => Y.pick_t hF rfl hbv rfl) rfl fun a hF => ?_
   refine stepV (i := 8) rfl hF (fun w hS => Y.move hF rfl) rfl fun a hF => ?_
   refine stepV_off (i := 9) rfl hF rfl rfl rfl rfl fun a hF => ?_
   refine stepV_off (i := 10) rfl hF rfl rfl rfl rfl fun a hF => ?_
   refine stepV_off (i := 11) rfl hF rfl rfl rfl rfl fun a hF => ?_
   refine stepV (i := 12) rfl hF (fun w hS => Y.pick_t hF rfl rfl rfl) rfl fun a hF => ?_
   refine stepV (i := 13) rfl hF (fun w hS => Y.move hF rfl) rfl fun a hF => ?_
   refine stepV_off (i := 14) rfl hF rfl rfl rfl rfl fun a hF => ?_
   refine stepV_off (i := 16) rfl hF rfl rfl rfl rfl fun a hF => ?_
   refine oneV (i := 15) rfl ?_ trivial
   refine guard_off hF rfl rfl rfl rfl fun a hF => nil (then_n ⟨hS.weak ⟨rfl, trivial⟩, ?_⟩)
   refine oneV (i := 17) rfl ?_ trivial
   refine guard_off hF rfl rfl rfl rfl fun a hF => nil (then_n ⟨hS.weak ⟨rfl, trivial⟩, ?_⟩)
   refine stepV_off (i := 18) rfl hF rfl rfl rfl rfl fun a hF => ?_
   refine stepV (i := 19) rfl hF (fun w hS => Y.pick_t hF rfl rfl rfl) rfl fun a hF => ?_
   exact toTailV ⟨hF.weak ⟨rfl, rfl, rfl, rfl, rfl, rfl, trivial⟩, hS.weak ⟨rfl, trivial⟩⟩
  ·skip
   replace ht := cond_f ht hbv
   obtain rfl := some_inj ht
   rcases bcases (rv.2.1 != rv_1.2.1) with hbv_1 | hbv_1
   ·skip
    replace ht_1 := cond_t ht_1 hbv_1
    obtain rfl := some_inj ht_1
    replace ht_2 := cond_t ht_2 rfl
    obtain rfl := some_inj ht_2
    refine stepV (i := 0) rfl hF (fun w hS => Y.move hF rfl) rfl fun a hF => ?_
    refine stepV (i := 1) rfl hF (fun w hS => Y.move hF rfl) rfl fun a hF => ?_
    refine stepV (i := 2) rfl hF (fun w hS => Y.neq hF rfl rfl) rfl fun a hF => ?_
    refine stepV (i := 3) rfl hF (fun w hS => Y.move hF rfl) rfl fun a hF => ?_
    refine stepV_on (i := 4) rfl hF rfl rfl hbv (fun w hS => Y.move hF rfl) rfl fun a hF => ?_
    refine stepV_on (i := 5) rfl hF rfl rfl hbv (fun w hS => Y.move hF rfl) rfl fun a hF => ?_
    refine stepV_on (i := 6) rfl hF rfl rfl hbv (fun w hS => Y.neq hF rfl rfl) rfl fun a hF => ?_
    refine stepV (i := 7) rfl hF (fun w hS => Y.pick_f hF rfl hbv rfl) rfl fun a hF => ?_
    refine stepV (i := 8) rfl hF (fun w hS => Y.move hF rfl) rfl fun a hF => ?_
    refine stepV_off (i := 9) rfl hF rfl rfl hbv_1 rfl fun a hF => ?_
    refine stepV_off (i := 10) rfl hF rfl rfl hbv_1 rfl fun a hF => ?_
    refine stepV_off (i := 11) rfl hF rfl rfl hbv_1 rfl fun a hF => ?_
    refine stepV (i := 12) rfl hF (fun w hS => Y.pick_t hF rfl hbv_1 rfl) rfl fun a hF => ?_
    refine stepV (i := 13) rfl hF (fun w hS => Y.move hF rfl) rfl fun a hF => ?_
    refine stepV_off (i := 14) rfl hF rfl rfl rfl rfl fun a hF => ?_
    refine stepV_off (i := 16) rfl hF rfl rfl rfl rfl fun a hF => ?_
    refine oneV (i := 15) rfl ?_ trivial
    refine guard_off hF rfl rfl rfl rfl fun a hF => nil (then_n ⟨hS.weak ⟨rfl, trivial⟩, ?_⟩)
    refine oneV (i := 17) rfl ?_ trivial
    refine guard_off hF rfl rfl rfl rfl fun a hF => nil (then_n ⟨hS.weak ⟨rfl, trivial⟩, ?_⟩)
    refine stepV_off (i := 18) rfl hF rfl rfl rfl rfl fun a hF => ?_
    refine stepV (i := 19) rfl hF (fun w hS => Y.pick_t hF rfl rfl rfl) rfl fun a hF => ?_
    exact toTailV ⟨hF.weak ⟨rfl, rfl, rfl, rfl, rfl, rfl, trivial⟩, hS.weak ⟨rfl, trivial⟩⟩
   ·skip
    replace ht_1 := cond_f ht_1 hbv_1
    obtain rfl := some_inj ht_1
    rcases bcases (rv.2.2 != rv_1.2.2) with hbv_2 | hbv_2
    ·skip
     replace ht_2 := cond_t ht_2 hbv_2
     obtain rfl := some_inj ht_2
     refine stepV (i := 0) rfl hF (fun w hS => Y.move hF rfl) rfl fun a hF => ?_
     refine stepV (i := 1) rfl hF (fun w hS => Y.move hF rfl) rfl fun a hF => ?_
     refine stepV (i := 2) rfl hF (fun w hS => Y.neq hF rfl rfl) rfl fun a hF => ?_
     refine stepV (i := 3) rfl hF (fun w hS => Y.move hF rfl) rfl fun a hF => ?_
     refine stepV_on (i := 4) rfl hF rfl rfl hbv (fun w hS => Y.move hF rfl) rfl fun a hF => ?_
     refine stepV_on (i := 5) rfl hF rfl rfl hbv (fun w hS => Y.move hF rfl) rfl fun a hF => ?_
     refine stepV_on (i := 6) rfl hF rfl rfl hbv (fun w hS => Y.neq hF rfl rfl) rfl fun a hF => ?_
     refine stepV (i := 7) rfl hF (fun w hS => Y.pick_f hF rfl hbv rfl) rfl fun a hF => ?_
     refine stepV (i := 8) rfl hF (fun w hS => Y.move hF rfl) rfl fun a hF => ?_
     refine stepV_on (i := 9) rfl hF rfl rfl hbv_1 (fun w hS => Y.move hF rfl) rfl fun a hF => ?_
     refine stepV_on (i := 10) rfl hF rfl rfl hbv_1 (fun w hS => Y.move hF rfl) rfl fun a hF => ?_
     refine stepV_on (i := 11) rfl hF rfl rfl hbv_1 (fun w hS => Y.neq hF rfl rfl) rfl fun a hF => ?_
     refine stepV (i := 12) rfl hF (fun w hS => Y.pick_f hF rfl hbv_1 rfl) rfl fun a hF => ?_
     refine stepV (i := 13) rfl hF (fun w hS => Y.move hF rfl) rfl fun a hF => ?_
     refine stepV_off (i := 14) rfl hF rfl rfl hbv_2 rfl fun a hF => ?_
     refine stepV_off (i := 16) rfl hF rfl rfl hbv_2 rfl fun a hF => ?_
     refine oneV (i := 15) rfl ?_ trivial
     refine guard_off hF rfl rfl hbv_2 rfl fun a hF => nil (then_n ⟨hS.weak ⟨rfl, trivial⟩, ?_⟩)
     refine oneV (i := 17) rfl ?_ trivial
     refine guard_off hF rfl rfl hbv_2 rfl fun a hF => nil (then_n ⟨hS.weak ⟨rfl, trivial⟩, ?_⟩)
     refine stepV_off (i := 18) rfl hF rfl rfl hbv_2 rfl fun a hF => ?_
     refine stepV (i := 19) rfl hF (fun w hS => Y.pick_t hF rfl hbv_2 rfl) rfl fun a hF => ?_
     exact toTailV ⟨hF.weak ⟨rfl, rfl, rfl, rfl, rfl, rfl, trivial⟩, hS.weak ⟨rfl, trivial⟩⟩
    ·skip
     replace ht_2 := cond_f ht_2 hbv_2
     obtain ⟨rv_2, hx_2, ht_2⟩ := bind_some ht_2
     obtain ⟨rv_3, hx_3, ht_2⟩ := bind_some ht_2
     obtain rfl := some_inj ht_2
     refine stepV (i := 0) rfl hF (fun w hS => Y.move hF rfl) rfl fun a hF => ?_
     refine stepV (i := 1) rfl hF (fun w hS => Y.move hF rfl) rfl fun a hF => ?_
     refine stepV (i := 2) rfl hF (fun w hS => Y.neq hF rfl rfl) rfl fun a hF => ?_
     refine stepV (i := 3) rfl hF (fun w hS => Y.move hF rfl) rfl fun a hF => ?_
     refine stepV_on (i := 4) rfl hF rfl rfl hbv (fun w hS => Y.move hF rfl) rfl fun a hF => ?_
     refine stepV_on (i := 5) rfl hF rfl rfl hbv (fun w hS => Y.move hF rfl) rfl fun a hF => ?_
     refine stepV_on (i := 6) rfl hF rfl rfl hbv (fun w hS => Y.neq hF rfl rfl) rfl fun a hF => ?_
     refine stepV (i := 7) rfl hF (fun w hS => Y.pick_f hF rfl hbv rfl) rfl fun a hF => ?_
     refine stepV (i := 8) rfl hF (fun w hS => Y.move hF rfl) rfl fun a hF => ?_
     refine stepV_on (i := 9) rfl hF rfl rfl hbv_1 (fun w hS => Y.move hF rfl) rfl fun a hF => ?_
     refine stepV_on (i := 10) rfl hF rfl rfl hbv_1 (fun w hS => Y.move hF rfl) rfl fun a hF => ?_
     refine stepV_on (i := 11) rfl hF rfl rfl hbv_1 (fun w hS => Y.neq hF rfl rfl) rfl fun a hF => ?_
     refine stepV (i := 12) rfl hF (fun w hS => Y.pick_f hF rfl hbv_1 rfl) rfl fun a hF => ?_
     refine stepV (i := 13) rfl hF (fun w hS => Y.move hF rfl) rfl fun a hF => ?_
     refine stepV_on (i := 14) rfl hF rfl rfl hbv_2 (fun w hS => Y.loadNL 1 sz_24 hF rfl hS rfl rfl rfl) rfl fun a hF => ?_
     refine stepV_on (i := 16) rfl hF rfl rfl hbv_2 (fun w hS => Y.loadNL 1 sz_24 hF rfl hS rfl rfl rfl) rfl fun a hF => ?_
     refine oneV (i := 15) rfl ?_ trivial
     refine guard_on hF rfl rfl hbv_2 ?_
     refine O.callP (us := [.agg #[.int .i64 sv.Hours, .int .i64 sv.Gap, .slice p sv.Machines.length c]]) ca_17 hF hS (spare_Check_ok hS.stab sv hs rv_2 hx_2) rfl rfl fun a w hF hS => ?_
     refine nil (then_n ⟨hS.weak ⟨rfl, trivial⟩, ?_⟩)
     refine oneV (i := 17) rfl ?_ trivial
     refine guard_on hF rfl rfl hbv_2 ?_
     refine O.callP (us := [.agg #[.int .i64 sv.Hours, .int .i64 sv.Gap, .slice p sv.Machines.length c]]) ca_18 hF hS (remontoirref08_Check_ok hS.stab sv hs rv_3 hx_3) rfl rfl fun a w hF hS => ?_
     refine nil (then_n ⟨hS.weak ⟨rfl, trivial⟩, ?_⟩)
     refine stepV_on (i := 18) rfl hF rfl rfl hbv_2 (fun w hS => Y.neq hF rfl rfl) rfl fun a hF => ?_
     refine stepV (i := 19) rfl hF (fun w hS => Y.pick_f hF rfl hbv_2 rfl) rfl fun a hF => ?_
     exact toTailV ⟨hF.weak ⟨rfl, rfl, rfl, rfl, rfl, rfl, trivial⟩, hS.weak ⟨rfl, trivial⟩⟩
 rintro a w ⟨hF, hS⟩
 refine nil (then_n ?_)
 refine cond_b hF rfl (fun hbv_3 => ?_) (fun hbv_3 => ?_)
 ·replace h := cond_t h hbv_3
  refine seq ?_
  refine region ?_
  refine step hF (Y.assign hF rfl) rfl fun a hF => ?_
  refine nil (then_n ?_)
  refine ret_ (then_r ?_)
  obtain rfl := some_inj h
  exact leaveP Tryd.results3 hF hS (.cons (.tmp rfl) .nil) .nil rfl
 ·replace h := cond_f h hbv_3
  refine skip_ (then_n ?_)
  refine seq ?_
  refine region ?_
  refine step hF (Y.loadNL 1 sz_24 hF rfl hS rfl rfl rfl) rfl fun a hF => ?_
  refine step hF (Y.move hF rfl) rfl fun a hF => ?_
  obtain ⟨rv_4, hx_4, h⟩ := bind_some h
  refine O.callP (us := [.agg #[.int .i64 sv.Hours, .int .i64 sv.Gap, .slice p sv.Machines.length c], .slice p_1 plan.length c_1]) ca_19 hF hS (spare_IsPlan_ok hS.stab sv plan hs hs_1 rv_4 hx_4) rfl rfl fun a w hF hS => ?_
  refine step hF (Y.move hF rfl) rfl fun a hF => ?_
  refine step hF (Y.extract hF rfl rfl) rfl fun a hF => ?_
  refine step hF (Y.extract hF rfl rfl) rfl fun a hF => ?_
  refine step hF (Y.assign hF rfl) rfl fun a hF => ?_
  refine step hF (Y.assign hF rfl) rfl fun a hF => ?_
  refine nil (then_n ?_)
  refine seq ?_
  refine region ?_
  refine step hF (Y.loadNL 1 sz_24 hF rfl hS rfl rfl rfl) rfl fun a hF => ?_
  refine step hF (Y.move hF rfl) rfl fun a hF => ?_
  obtain ⟨rv_5, hx_5, h⟩ := bind_some h
  refine O.callP (us := [.agg #[.int .i64 sv.Hours, .int .i64 sv.Gap, .slice p sv.Machines.length c], .slice p_1 plan.length c_1]) ca_20 hF hS (remontoirref08_IsPlan_ok hS.stab sv plan hs hs_1 rv_5 hx_5) rfl rfl fun a w hF hS => ?_
  refine step hF (Y.move hF rfl) rfl fun a hF => ?_
  refine step hF (Y.extract hF rfl rfl) rfl fun a hF => ?_
  refine step hF (Y.extract hF rfl rfl) rfl fun a hF => ?_
  refine step hF (Y.assign hF rfl) rfl fun a hF => ?_
  refine step hF (Y.assign hF rfl) rfl fun a hF => ?_
  refine nil (then_n ?_)
  refine seq ?_
  refine region ?_
  refine step hF (Y.move hF rfl) rfl fun a hF => ?_
  refine step hF (Y.move hF rfl) rfl fun a hF => ?_
  refine step hF (Y.eqb u_4 hF rfl rfl) rfl fun a hF => ?_
  refine step hF (Y.move hF rfl) rfl fun a hF => ?_
  refine join (N := 72) (rs := []) (w0 := w0) (D0 := D0) 4 (us := [(6, .bool false), (68, .bool ((rv_4.1 == rv_5.1) && (rv_4.2 == rv_5.2)))]) (ms := [(1, .cells b [.int .i64 sv.Hours, .int .i64 sv.Gap, .slice p sv.Machines.length c] 24)]) (D' := D0) ?_ ?_
  ·rcases bcases (rv_4.1 == rv_5.1) with hbv_4 | hbv_4
   ·-- true
    refine guard_on hF rfl rfl hbv_4 ?_
    refine step hF (Y.move hF rfl) rfl fun a hF => ?_
    refine guard_on hF rfl rfl hbv_4 ?_
    refine step hF (Y.move hF rfl) rfl fun a hF => ?_
    refine guard_on hF rfl rfl hbv_4 ?_
    refine step hF (Y.eql hF rfl rfl) rfl fun a hF => ?_
    refine step hF (Y.pick_t hF rfl hbv_4 rfl) rfl fun a hF => ?_
    exact nil (then_n ⟨hF.weak ⟨rfl, (by rw [hbv_4]; rfl), trivial⟩, hS.weak ⟨rfl, trivial⟩⟩)
   ·-- false
    refine guard_off hF rfl rfl hbv_4 rfl fun a hF => ?_
    refine guard_off hF rfl rfl hbv_4 rfl fun a hF => ?_
    refine guard_off hF rfl rfl hbv_4 rfl fun a hF => ?_
    refine step hF (Y.pick_f hF rfl hbv_4 rfl) rfl fun a hF => ?_
    exact nil (then_n ⟨hF.weak ⟨rfl, (by rw [hbv_4]; rfl), trivial⟩, hS.weak ⟨rfl, trivial⟩⟩)
  intro a w hF hS
  refine step hF (Y.move hF rfl) rfl fun a hF => ?_
  obtain ⟨t_3, ht_3, h⟩ := bind_some h
  refine join (N := 72) (rs := []) (w0 := w0) (D0 := D0) 2 (us := [(6, .bool false), (71, .bool t_3)]) (ms := [(1, .cells b [.int .i64 sv.Hours, .int .i64 sv.Gap, .slice p sv.Machines.length c] 24)]) (D' := D0) ?_ ?_
  ·rcases bcases ((rv_4.1 == rv_5.1) && (rv_4.2 == rv_5.2)) with hbv_5 | hbv_5
   ·-- true
    replace h := cond_t ht_3 hbv_5
    refine guard_on hF rfl rfl hbv_5 ?_
    obtain ⟨rv_6, hx_6, h⟩ := bind_some h
    refine O.callP (us := []) ca_21 hF hS (remontoirlaw08_works_ok hS.stab hG rv_6 hx_6) rfl rfl fun a w hF hS => ?_
    refine step hF (Y.pick_t hF rfl hbv_5 rfl) rfl fun a hF => ?_
    obtain rfl := some_inj h
    exact nil (then_n ⟨hF.weak ⟨rfl, rfl, trivial⟩, hS.weak ⟨rfl, trivial⟩⟩)
   ·-- false
    replace h := cond_f ht_3 hbv_5
    refine guard_off hF rfl rfl hbv_5 rfl fun a hF => ?_
    refine step hF (Y.pick_f hF rfl hbv_5 rfl) rfl fun a hF => ?_
    obtain rfl := some_inj h
    exact nil (then_n ⟨hF.weak ⟨rfl, rfl, trivial⟩, hS.weak ⟨rfl, trivial⟩⟩)
  intro a w hF hS
  refine step hF (Y.assign hF rfl) rfl fun a hF => ?_
  refine nil (then_n ?_)
  refine ret_ ?_
  obtain rfl := some_inj h
  exact leaveP Tryd.results3 hF hS (.cons (.tmp rfl) .nil) .nil rfl

end Go.Proofs.YtidmdgjgpmeecaaDoor.Rt
