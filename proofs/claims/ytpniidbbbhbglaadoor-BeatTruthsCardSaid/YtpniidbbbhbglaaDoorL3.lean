/- Walks of the functions of this seat: what each Go function comes to, as a Lean function, and the proof. A law. Under no conditions. -/
import Derived.Test.YtpniidbbbhbglaaDoorWRZ
set_option linter.unusedVariables false
set_option linter.unusedSimpArgs false
set_option maxRecDepth 100000
set_option maxHeartbeats 4000000
namespace Go.Proofs.YtpniidbbbhbglaaDoor.Rt
open Go Go.RowKit
noncomputable def remontoirlaw02_BeatTruths (c : BeatCellar) (offsets : (List (List Int))) (n : Arr2) : Option Bool :=
  (beat_IsTruth c offsets).bind fun rv =>
  (remontoirref02_IsTruth c offsets).bind fun rv_1 =>
  (cond (rv.1 != rv_1.1) (some true) (some (rv.2 != rv_1.2))).bind fun t =>
  (cond t (some true) ((beat_Check c).bind fun rv_2 =>
  (remontoirref02_Check c).bind fun rv_3 =>
  some (rv_2 != rv_3))).bind fun t_1 =>
  cond t_1
  (some false)
  ((beat_Offset c n.a0 n.a1).bind fun rv_4 =>
  (remontoirref02_Offset c n.a0 n.a1).bind fun rv_5 =>
  (cond (([rv_4.1.Low, rv_4.1.High] == [rv_5.1.Low, rv_5.1.High]) && (rv_4.2 == rv_5.2)) ((remontoirlaw02_works).bind fun rv_6 =>
  some rv_6) (some false)).bind fun t_2 =>
  some t_2)
theorem remontoirlaw02_BeatTruths_ok {w0 : World} {D0 : Stab} (hD : D0.on w0) (c : BeatCellar) (offsets : (List (List Int))) (n : Arr2) {p : Option Addr} {c_1 : Nat} {p_1 : Option Addr} {c_2 : Nat} {p_2 : Option Addr} {c_3 : Nat} {p_3 : Option Addr} {c_4 : Nat} (hs : SRc C_Span D0 c.Rates p c_1) (hs_1 : SRc C_BeatOpen D0 c.Opens p_1 c_2) (hs_2 : SRc C_BeatPair D0 c.Pairs p_2 c_3) (hs_3 : SRc (C_sl C_int) D0 offsets p_3 c_4) (hG : Glob D0) (out : Bool) (h : remontoirlaw02_BeatTruths c offsets n = some out) : Calls Tryd.prog 3 [.agg #[.int .i64 c.Hours, .slice p c.Rates.length c_1, .slice p_1 c.Opens.length c_2, .slice p_2 c.Pairs.length c_3], .slice p_3 offsets.length c_4, .agg #[.int .i64 n.a0, .int .i64 n.a1]].toArray w0 (RetP D0 w0 (.bool out)) := by
 refine enter _ 69 Tryd.func3 rfl Tryd.ntmps3 rfl fun a hF => ?_
 replace hF : Frm 69 [] [(0, .agg #[.int .i64 c.Hours, .slice p c.Rates.length c_1, .slice p_1 c.Opens.length c_2, .slice p_2 c.Pairs.length c_3]), (1, .slice p_3 offsets.length c_4), (2, .agg #[.int .i64 n.a0, .int .i64 n.a1])] a := hF
 have hS := St.start hD
 unfold remontoirlaw02_BeatTruths at h
 refine seq ?_
 refine region ?_
 refine O.box (cs := [.int .i64 c.Hours, .slice p c.Rates.length c_1, .slice p_1 c.Opens.length c_2, .slice p_2 c.Pairs.length c_3]) 1 hF rfl rfl hS rfl fun b a w hF hS => ?_
 refine O.box (cs := [.int .i64 n.a0, .int .i64 n.a1]) 2 hF rfl rfl hS rfl fun b_1 a w hF hS => ?_
 refine step hF (Y.assign hF rfl) rfl fun a hF => ?_
 refine nil (then_n ?_)
 refine seq ?_
 refine region ?_
 refine step hF (Y.loadNL 1 sz_26 hF rfl hS rfl rfl rfl) rfl fun a hF => ?_
 refine step hF (Y.move hF rfl) rfl fun a hF => ?_
 obtain ⟨rv, hx, h⟩ := bind_some h
 refine O.callP (us := [.agg #[.int .i64 c.Hours, .slice p c.Rates.length c_1, .slice p_1 c.Opens.length c_2, .slice p_2 c.Pairs.length c_3], .slice p_3 offsets.length c_4]) ca_15 hF hS (beat_IsTruth_ok hS.stab c offsets hs hs_1 hs_2 hs_3 hG rv hx) rfl rfl fun a w hF hS => ?_
 refine step hF (Y.move hF rfl) rfl fun a hF => ?_
 refine step hF (Y.extract hF rfl rfl) rfl fun a hF => ?_
 refine step hF (Y.extract hF rfl rfl) rfl fun a hF => ?_
 refine step hF (Y.assign hF rfl) rfl fun a hF => ?_
 refine step hF (Y.assign hF rfl) rfl fun a hF => ?_
 refine nil (then_n ?_)
 refine seq ?_
 refine region ?_
 refine step hF (Y.loadNL 1 sz_26 hF rfl hS rfl rfl rfl) rfl fun a hF => ?_
 refine step hF (Y.move hF rfl) rfl fun a hF => ?_
 obtain ⟨rv_1, hx_1, h⟩ := bind_some h
 refine O.callP (us := [.agg #[.int .i64 c.Hours, .slice p c.Rates.length c_1, .slice p_1 c.Opens.length c_2, .slice p_2 c.Pairs.length c_3], .slice p_3 offsets.length c_4]) ca_16 hF hS (remontoirref02_IsTruth_ok hS.stab c offsets hs hs_1 hs_2 hs_3 rv_1 hx_1) rfl rfl fun a w hF hS => ?_
 refine step hF (Y.move hF rfl) rfl fun a hF => ?_
 refine step hF (Y.extract hF rfl rfl) rfl fun a hF => ?_
 refine step hF (Y.extract hF rfl rfl) rfl fun a hF => ?_
 refine step hF (Y.assign hF rfl) rfl fun a hF => ?_
 refine step hF (Y.assign hF rfl) rfl fun a hF => ?_
 refine nil (then_n ?_)
 refine seq ?_
 refine seq ?_
 obtain ⟨t, ht, h⟩ := bind_some h
 obtain ⟨t_1, ht_1, h⟩ := bind_some h
 refine drawsV 15 (.flt 0 (.flt 1 (.flt 2 (.flt 3 (.flt 4 (.flt 5 (.flt 6 (.flt 7 (.flt 8 (.flt 9 (.flt 11 (.alt 10 (.alt 12 (.flt 13 (.flt 14 .done)) .stop) .stop)))))))))))) mixed_ (by kernel_rfl) (fun w => St w0 D0 D0 [(1, .cells b [.int .i64 c.Hours, .slice p c.Rates.length c_1, .slice p_1 c.Opens.length c_2, .slice p_2 c.Pairs.length c_3] 26), (2, .cells b_1 [.int .i64 n.a0, .int .i64 n.a1] 28)] w) (fun a w => Frm 69 [] [(3, .pointer (some ⟨b, 0, none⟩)), (5, .pointer (some ⟨b_1, 0, none⟩)), (6, .bool false), (8, .int .i64 rv.2), (10, .int .i64 rv_1.2), (39, .bool t_1)] a ∧ St w0 D0 D0 [(1, .cells b [.int .i64 c.Hours, .slice p c.Rates.length c_1, .slice p_1 c.Opens.length c_2, .slice p_2 c.Pairs.length c_3] 26), (2, .cells b_1 [.int .i64 n.a0, .int .i64 n.a1] 28)] w) (hS.weak (ms := [(1, .cells b [.int .i64 c.Hours, .slice p c.Rates.length c_1, .slice p_1 c.Opens.length c_2, .slice p_2 c.Pairs.length c_3] 26), (2, .cells b_1 [.int .i64 n.a0, .int .i64 n.a1] 28)]) ⟨rfl, rfl, trivial⟩).drew (fun _ _ _ _ h => h) ?_ ?_
 ·replace hS := hS.drew
  have hle0 := hS.le
  rcases bcases (rv.1 != rv_1.1) with hbv | hbv
  ·skip
   replace ht := cond_t ht hbv
   obtain rfl := some_inj ht
   replace ht_1 := cond_t ht_1 rfl
   obtain rfl := some_inj ht_1
   refine stepV (i := 0) rfl hF (fun w hS => Y.move hF rfl) rfl fun a hF => ?_
   refine stepV (i := 1) rfl hF (fun w hS => Y.move hF rfl) rfl fun a hF => ?_
   refine stepV (i := 2) rfl hF (fun w hS => Y.neb u_4 hF rfl rfl) rfl fun a hF => ?_
   refine stepV (i := 3) rfl hF (fun w hS => Y.move hF rfl) rfl fun a hF => ?_
   refine stepV_off (i := 4) rfl hF rfl rfl hbv rfl fun a hF => ?_
   refine stepV_off (i := 5) rfl hF rfl rfl hbv rfl fun a hF => ?_
   refine stepV_off (i := 6) rfl hF rfl rfl hbv rfl fun a hF => ?_
   refine stepV (i := 7) rfl hF (fun w hS => Y.pick_t hF rfl hbv rfl) rfl fun a hF => ?_
   refine stepV (i := 8) rfl hF (fun w hS => Y.move hF rfl) rfl fun a hF => ?_
   refine stepV_off (i := 9) rfl hF rfl rfl rfl rfl fun a hF => ?_
   refine stepV_off (i := 11) rfl hF rfl rfl rfl rfl fun a hF => ?_
   refine oneV (i := 10) rfl ?_ trivial
   refine guard_off hF rfl rfl rfl rfl fun a hF => nil (then_n ⟨hS.weak (ms := [(1, .cells b [.int .i64 c.Hours, .slice p c.Rates.length c_1, .slice p_1 c.Opens.length c_2, .slice p_2 c.Pairs.length c_3] 26), (2, .cells b_1 [.int .i64 n.a0, .int .i64 n.a1] 28)]) ⟨rfl, rfl, trivial⟩, ?_⟩)
   refine oneV (i := 12) rfl ?_ trivial
   refine guard_off hF rfl rfl rfl rfl fun a hF => nil (then_n ⟨hS.weak (ms := [(1, .cells b [.int .i64 c.Hours, .slice p c.Rates.length c_1, .slice p_1 c.Opens.length c_2, .slice p_2 c.Pairs.length c_3] 26), (2, .cells b_1 [.int .i64 n.a0, .int .i64 n.a1] 28)]) ⟨rfl, rfl, trivial⟩, ?_⟩)
   refine stepV_off (i := 13) rfl hF rfl rfl rfl rfl fun a hF => ?_
   refine stepV (i := 14) rfl hF (fun w hS => Y.pick_t hF rfl rfl rfl) rfl fun a hF => ?_
   exact toTailV ⟨hF.weak ⟨rfl, rfl, rfl, rfl, rfl, rfl, trivial⟩, hS.weak ⟨rfl, rfl, trivial⟩⟩
  ·skip
   replace ht := cond_f ht hbv
   obtain rfl := some_inj ht
   rcases bcases (rv.2 != rv_1.2) with hbv_1 | hbv_1
   ·skip
    replace ht_1 := cond_t ht_1 hbv_1
    obtain rfl := some_inj ht_1
    refine stepV (i := 0) rfl hF (fun w hS => Y.move hF rfl) rfl fun a hF => ?_
    refine stepV (i := 1) rfl hF (fun w hS => Y.move hF rfl) rfl fun a hF => ?_
    refine stepV (i := 2) rfl hF (fun w hS => Y.neb u_4 hF rfl rfl) rfl fun a hF => ?_
    refine stepV (i := 3) rfl hF (fun w hS => Y.move hF rfl) rfl fun a hF => ?_
    refine stepV_on (i := 4) rfl hF rfl rfl hbv (fun w hS => Y.move hF rfl) rfl fun a hF => ?_
    refine stepV_on (i := 5) rfl hF rfl rfl hbv (fun w hS => Y.move hF rfl) rfl fun a hF => ?_
    refine stepV_on (i := 6) rfl hF rfl rfl hbv (fun w hS => Y.neq hF rfl rfl) rfl fun a hF => ?_
    refine stepV (i := 7) rfl hF (fun w hS => Y.pick_f hF rfl hbv rfl) rfl fun a hF => ?_
    refine stepV (i := 8) rfl hF (fun w hS => Y.move hF rfl) rfl fun a hF => ?_
    refine stepV_off (i := 9) rfl hF rfl rfl hbv_1 rfl fun a hF => ?_
    refine stepV_off (i := 11) rfl hF rfl rfl hbv_1 rfl fun a hF => ?_
    refine oneV (i := 10) rfl ?_ trivial
    refine guard_off hF rfl rfl hbv_1 rfl fun a hF => nil (then_n ⟨hS.weak (ms := [(1, .cells b [.int .i64 c.Hours, .slice p c.Rates.length c_1, .slice p_1 c.Opens.length c_2, .slice p_2 c.Pairs.length c_3] 26), (2, .cells b_1 [.int .i64 n.a0, .int .i64 n.a1] 28)]) ⟨rfl, rfl, trivial⟩, ?_⟩)
    refine oneV (i := 12) rfl ?_ trivial
    refine guard_off hF rfl rfl hbv_1 rfl fun a hF => nil (then_n ⟨hS.weak (ms := [(1, .cells b [.int .i64 c.Hours, .slice p c.Rates.length c_1, .slice p_1 c.Opens.length c_2, .slice p_2 c.Pairs.length c_3] 26), (2, .cells b_1 [.int .i64 n.a0, .int .i64 n.a1] 28)]) ⟨rfl, rfl, trivial⟩, ?_⟩)
    refine stepV_off (i := 13) rfl hF rfl rfl hbv_1 rfl fun a hF => ?_
    refine stepV (i := 14) rfl hF (fun w hS => Y.pick_t hF rfl hbv_1 rfl) rfl fun a hF => ?_
    exact toTailV ⟨hF.weak ⟨rfl, rfl, rfl, rfl, rfl, rfl, trivial⟩, hS.weak ⟨rfl, rfl, trivial⟩⟩
   ·skip
    replace ht_1 := cond_f ht_1 hbv_1
    obtain ⟨rv_2, hx_2, ht_1⟩ := bind_some ht_1
    obtain ⟨rv_3, hx_3, ht_1⟩ := bind_some ht_1
    obtain rfl := some_inj ht_1
    refine stepV (i := 0) rfl hF (fun w hS => Y.move hF rfl) rfl fun a hF => ?_
    refine stepV (i := 1) rfl hF (fun w hS => Y.move hF rfl) rfl fun a hF => ?_
    refine stepV (i := 2) rfl hF (fun w hS => Y.neb u_4 hF rfl rfl) rfl fun a hF => ?_
    refine stepV (i := 3) rfl hF (fun w hS => Y.move hF rfl) rfl fun a hF => ?_
    refine stepV_on (i := 4) rfl hF rfl rfl hbv (fun w hS => Y.move hF rfl) rfl fun a hF => ?_
    refine stepV_on (i := 5) rfl hF rfl rfl hbv (fun w hS => Y.move hF rfl) rfl fun a hF => ?_
    refine stepV_on (i := 6) rfl hF rfl rfl hbv (fun w hS => Y.neq hF rfl rfl) rfl fun a hF => ?_
    refine stepV (i := 7) rfl hF (fun w hS => Y.pick_f hF rfl hbv rfl) rfl fun a hF => ?_
    refine stepV (i := 8) rfl hF (fun w hS => Y.move hF rfl) rfl fun a hF => ?_
    refine stepV_on (i := 9) rfl hF rfl rfl hbv_1 (fun w hS => Y.loadNL 1 sz_26 hF rfl hS rfl rfl rfl) rfl fun a hF => ?_
    refine stepV_on (i := 11) rfl hF rfl rfl hbv_1 (fun w hS => Y.loadNL 1 sz_26 hF rfl hS rfl rfl rfl) rfl fun a hF => ?_
    refine oneV (i := 10) rfl ?_ trivial
    refine guard_on hF rfl rfl hbv_1 ?_
    refine O.callP (us := [.agg #[.int .i64 c.Hours, .slice p c.Rates.length c_1, .slice p_1 c.Opens.length c_2, .slice p_2 c.Pairs.length c_3]]) ca_17 hF hS (beat_Check_ok hS.stab c hs hs_1 hs_2 rv_2 hx_2) rfl rfl fun a w hF hS => ?_
    refine nil (then_n ⟨hS.weak (ms := [(1, .cells b [.int .i64 c.Hours, .slice p c.Rates.length c_1, .slice p_1 c.Opens.length c_2, .slice p_2 c.Pairs.length c_3] 26), (2, .cells b_1 [.int .i64 n.a0, .int .i64 n.a1] 28)]) ⟨rfl, rfl, trivial⟩, ?_⟩)
    refine oneV (i := 12) rfl ?_ trivial
    refine guard_on hF rfl rfl hbv_1 ?_
    refine O.callP (us := [.agg #[.int .i64 c.Hours, .slice p c.Rates.length c_1, .slice p_1 c.Opens.length c_2, .slice p_2 c.Pairs.length c_3]]) ca_18 hF hS (remontoirref02_Check_ok hS.stab c hs hs_1 hs_2 rv_3 hx_3) rfl rfl fun a w hF hS => ?_
    refine nil (then_n ⟨hS.weak (ms := [(1, .cells b [.int .i64 c.Hours, .slice p c.Rates.length c_1, .slice p_1 c.Opens.length c_2, .slice p_2 c.Pairs.length c_3] 26), (2, .cells b_1 [.int .i64 n.a0, .int .i64 n.a1] 28)]) ⟨rfl, rfl, trivial⟩, ?_⟩)
    refine stepV_on (i := 13) rfl hF rfl rfl hbv_1 (fun w hS => Y.neq hF rfl rfl) rfl fun a hF => ?_
    refine stepV (i := 14) rfl hF (fun w hS => Y.pick_f hF rfl hbv_1 rfl) rfl fun a hF => ?_
    exact toTailV ⟨hF.weak ⟨rfl, rfl, rfl, rfl, rfl, rfl, trivial⟩, hS.weak ⟨rfl, rfl, trivial⟩⟩
 rintro a w ⟨hF, hS⟩
 refine nil (then_n ?_)
 refine cond_b hF rfl (fun hbv_2 => ?_) (fun hbv_2 => ?_)
 ·replace h := cond_t h hbv_2
  refine seq ?_
  refine region ?_
  refine step hF (Y.assign hF rfl) rfl fun a hF => ?_
  refine nil (then_n ?_)
  refine ret_ (then_r ?_)
  obtain rfl := some_inj h
  exact leaveP Tryd.results3 hF hS (.cons (.tmp rfl) .nil) .nil rfl
 ·replace h := cond_f h hbv_2
  refine skip_ (then_n ?_)
  refine seq ?_
  refine region ?_
  refine step hF (Y.loadNL 1 sz_26 hF rfl hS rfl rfl rfl) rfl fun a hF => ?_
  refine step hF (Y.indexArr u_28 sz_3 hF rfl rfl (by decide) (by decide)) rfl fun a hF => ?_
  refine step hF (Y.load1L 2 sz_3 hF rfl hS rfl rfl) rfl fun a hF => ?_
  refine step hF (Y.indexArr u_28 sz_3 hF rfl rfl (by decide) (by decide)) rfl fun a hF => ?_
  refine step hF (Y.load1L 2 sz_3 hF rfl hS rfl rfl) rfl fun a hF => ?_
  obtain ⟨rv_4, hx_4, h⟩ := bind_some h
  refine O.callP (us := [.agg #[.int .i64 c.Hours, .slice p c.Rates.length c_1, .slice p_1 c.Opens.length c_2, .slice p_2 c.Pairs.length c_3], .int .i64 n.a0, .int .i64 n.a1]) ca_19 hF hS (beat_Offset_ok hS.stab c n.a0 n.a1 hs hs_1 hs_2 hG rv_4 hx_4) rfl rfl fun a w hF hS => ?_
  refine step hF (Y.move hF rfl) rfl fun a hF => ?_
  refine step hF (Y.extract hF rfl rfl) rfl fun a hF => ?_
  refine step hF (Y.extract hF rfl rfl) rfl fun a hF => ?_
  refine O.alloc 3 zc_34 hF hS rfl fun b_2 a w hF hS => ?_
  refine O.store (us := [.int .i64 rv_4.1.Low, .int .i64 rv_4.1.High]) 3 sz_34 hF rfl rfl rfl rfl hS rfl rfl fun a w hF hS => ?_
  refine step hF (Y.assign hF rfl) rfl fun a hF => ?_
  refine nil (then_n ?_)
  refine seq ?_
  refine region ?_
  refine step hF (Y.loadNL 1 sz_26 hF rfl hS rfl rfl rfl) rfl fun a hF => ?_
  refine step hF (Y.indexArr u_28 sz_3 hF rfl rfl (by decide) (by decide)) rfl fun a hF => ?_
  refine step hF (Y.load1L 2 sz_3 hF rfl hS rfl rfl) rfl fun a hF => ?_
  refine step hF (Y.indexArr u_28 sz_3 hF rfl rfl (by decide) (by decide)) rfl fun a hF => ?_
  refine step hF (Y.load1L 2 sz_3 hF rfl hS rfl rfl) rfl fun a hF => ?_
  obtain ⟨rv_5, hx_5, h⟩ := bind_some h
  refine O.callP (us := [.agg #[.int .i64 c.Hours, .slice p c.Rates.length c_1, .slice p_1 c.Opens.length c_2, .slice p_2 c.Pairs.length c_3], .int .i64 n.a0, .int .i64 n.a1]) ca_20 hF hS (remontoirref02_Offset_ok hS.stab c n.a0 n.a1 hs hs_1 hs_2 rv_5 hx_5) rfl rfl fun a w hF hS => ?_
  refine step hF (Y.move hF rfl) rfl fun a hF => ?_
  refine step hF (Y.extract hF rfl rfl) rfl fun a hF => ?_
  refine step hF (Y.extract hF rfl rfl) rfl fun a hF => ?_
  refine O.alloc 4 zc_34 hF hS rfl fun b_3 a w hF hS => ?_
  refine O.store (us := [.int .i64 rv_5.1.Low, .int .i64 rv_5.1.High]) 4 sz_34 hF rfl rfl rfl rfl hS rfl rfl fun a w hF hS => ?_
  refine step hF (Y.assign hF rfl) rfl fun a hF => ?_
  refine nil (then_n ?_)
  refine seq ?_
  refine region ?_
  refine step hF (Y.loadNL 3 sz_34 hF rfl hS rfl rfl rfl) rfl fun a hF => ?_
  refine step hF (Y.loadNL 4 sz_34 hF rfl hS rfl rfl rfl) rfl fun a hF => ?_
  refine step hF (Y.eqst (fun w => eqT_34.equal (by decide) (l := [rv_4.1.Low, rv_4.1.High]) (m := [rv_5.1.Low, rv_5.1.High]) rfl rfl) (fun w => run_eqGuard_agg _ _ _ _ _ _ _ eg_34) hF rfl rfl) rfl fun a hF => ?_
  refine step hF (Y.move hF rfl) rfl fun a hF => ?_
  refine join (N := 69) (rs := []) (w0 := w0) (D0 := D0) 4 (us := [(6, .bool false), (65, .bool (([rv_4.1.Low, rv_4.1.High] == [rv_5.1.Low, rv_5.1.High]) && (rv_4.2 == rv_5.2)))]) (ms := [(1, .cells b [.int .i64 c.Hours, .slice p c.Rates.length c_1, .slice p_1 c.Opens.length c_2, .slice p_2 c.Pairs.length c_3] 26), (2, .cells b_1 [.int .i64 n.a0, .int .i64 n.a1] 28), (3, .cells b_2 [.int .i64 rv_4.1.Low, .int .i64 rv_4.1.High] 34), (4, .cells b_3 [.int .i64 rv_5.1.Low, .int .i64 rv_5.1.High] 34)]) (D' := D0) ?_ ?_
  ·rcases bcases ([rv_4.1.Low, rv_4.1.High] == [rv_5.1.Low, rv_5.1.High]) with hbv_3 | hbv_3
   ·-- true
    refine guard_on hF rfl rfl hbv_3 ?_
    refine step hF (Y.move hF rfl) rfl fun a hF => ?_
    refine guard_on hF rfl rfl hbv_3 ?_
    refine step hF (Y.move hF rfl) rfl fun a hF => ?_
    refine guard_on hF rfl rfl hbv_3 ?_
    refine step hF (Y.eql hF rfl rfl) rfl fun a hF => ?_
    refine step hF (Y.pick_t hF rfl hbv_3 rfl) rfl fun a hF => ?_
    exact nil (then_n ⟨hF.weak ⟨rfl, (by rw [hbv_3]; rfl), trivial⟩, hS.weak ⟨rfl, rfl, rfl, rfl, trivial⟩⟩)
   ·-- false
    refine guard_off hF rfl rfl hbv_3 rfl fun a hF => ?_
    refine guard_off hF rfl rfl hbv_3 rfl fun a hF => ?_
    refine guard_off hF rfl rfl hbv_3 rfl fun a hF => ?_
    refine step hF (Y.pick_f hF rfl hbv_3 rfl) rfl fun a hF => ?_
    exact nil (then_n ⟨hF.weak ⟨rfl, (by rw [hbv_3]; rfl), trivial⟩, hS.weak ⟨rfl, rfl, rfl, rfl, trivial⟩⟩)
  intro a w hF hS
  refine step hF (Y.move hF rfl) rfl fun a hF => ?_
  obtain ⟨t_2, ht_2, h⟩ := bind_some h
  refine join (N := 69) (rs := []) (w0 := w0) (D0 := D0) 2 (us := [(6, .bool false), (68, .bool t_2)]) (ms := [(1, .cells b [.int .i64 c.Hours, .slice p c.Rates.length c_1, .slice p_1 c.Opens.length c_2, .slice p_2 c.Pairs.length c_3] 26), (2, .cells b_1 [.int .i64 n.a0, .int .i64 n.a1] 28), (3, .cells b_2 [.int .i64 rv_4.1.Low, .int .i64 rv_4.1.High] 34), (4, .cells b_3 [.int .i64 rv_5.1.Low, .int .i64 rv_5.1.High] 34)]) (D' := D0) ?_ ?_
  ·rcases bcases (([rv_4.1.Low, rv_4.1.High] == [rv_5.1.Low, rv_5.1.High]) && (rv_4.2 == rv_5.2)) with hbv_4 | hbv_4
   ·-- true
    replace h := cond_t ht_2 hbv_4
    refine guard_on hF rfl rfl hbv_4 ?_
    obtain ⟨rv_6, hx_6, h⟩ := bind_some h
    refine O.callP (us := []) ca_21 hF hS (remontoirlaw02_works_ok hS.stab hG rv_6 hx_6) rfl rfl fun a w hF hS => ?_
    refine step hF (Y.pick_t hF rfl hbv_4 rfl) rfl fun a hF => ?_
    obtain rfl := some_inj h
    exact nil (then_n ⟨hF.weak ⟨rfl, rfl, trivial⟩, hS.weak ⟨rfl, rfl, rfl, rfl, trivial⟩⟩)
   ·-- false
    replace h := cond_f ht_2 hbv_4
    refine guard_off hF rfl rfl hbv_4 rfl fun a hF => ?_
    refine step hF (Y.pick_f hF rfl hbv_4 rfl) rfl fun a hF => ?_
    obtain rfl := some_inj h
    exact nil (then_n ⟨hF.weak ⟨rfl, rfl, trivial⟩, hS.weak ⟨rfl, rfl, rfl, rfl, trivial⟩⟩)
  intro a w hF hS
  refine step hF (Y.assign hF rfl) rfl fun a hF => ?_
  refine nil (then_n ?_)
  refine ret_ ?_
  obtain rfl := some_inj h
  exact leaveP Tryd.results3 hF hS (.cons (.tmp rfl) .nil) .nil rfl

end Go.Proofs.YtpniidbbbhbglaaDoor.Rt
