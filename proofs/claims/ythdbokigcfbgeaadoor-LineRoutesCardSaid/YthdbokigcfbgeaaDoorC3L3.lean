/- Walks of the functions of this seat: what each Go function comes to, as a Lean function, and the proof. A law. Under no conditions. -/
import Derived.Test.YthdbokigcfbgeaaDoorC3WBZ
set_option linter.unusedVariables false
set_option linter.unusedSimpArgs false
set_option maxRecDepth 100000
set_option maxHeartbeats 4000000
namespace Go.Proofs.YthdbokigcfbgeaaDoor.Rt
open Go Go.RowKit
noncomputable def remontoirlaw06_LineRoutes (n : LineNet) (exchange : Int) : Option Bool :=
  (line_Routes n exchange).bind fun rv =>
  (remontoirref06_Routes n exchange).bind fun rv_1 =>
  (r0AlikeRows rv.1 rv_1.1).bind fun rv_2 =>
  (cond (!rv_2) (some true) (some (rv.2 != rv_1.2))).bind fun t =>
  (cond t (some true) ((line_Check n).bind fun rv_3 =>
  (remontoirref06_Check n).bind fun rv_4 =>
  some (rv_3 != rv_4))).bind fun t_1 =>
  cond t_1
  (some false)
  ((line_Surely n exchange).bind fun rv_5 =>
  (remontoirref06_Surely n exchange).bind fun rv_6 =>
  (r0Alike rv_5.1 rv_6.1).bind fun rv_7 =>
  (cond (rv_7 && (rv_5.2 == rv_6.2)) ((remontoirlaw06_works).bind fun rv_8 =>
  some rv_8) (some false)).bind fun t_2 =>
  some t_2)
theorem remontoirlaw06_LineRoutes_ok {w0 : World} {D0 : Stab} (hD : D0.on w0) (n : LineNet) (exchange : Int) {p : Option Addr} {c : Nat} {p_1 : Option Addr} {c_1 : Nat} (hs : SRc C_LineLine D0 n.Lines p c) (hs_1 : SRc C_LineLoop D0 n.Loops p_1 c_1) (hG : Glob D0) (out : Bool) (h : remontoirlaw06_LineRoutes n exchange = some out) : Calls Tryd.prog 3 [.agg #[.int .i64 n.Exchanges, .slice p n.Lines.length c, .int .i64 n.Hops, .slice p_1 n.Loops.length c_1], .int .i64 exchange].toArray w0 (RetP D0 w0 (.bool out)) := by
 refine enter _ 62 Tryd.func3 rfl Tryd.ntmps3 rfl fun a hF => ?_
 replace hF : Frm 62 [] [(0, .agg #[.int .i64 n.Exchanges, .slice p n.Lines.length c, .int .i64 n.Hops, .slice p_1 n.Loops.length c_1]), (1, .int .i64 exchange)] a := hF
 have hS := St.start hD
 unfold remontoirlaw06_LineRoutes at h
 refine seq (region (O.box (cs := [.int .i64 n.Exchanges, .slice p n.Lines.length c, .int .i64 n.Hops, .slice p_1 n.Loops.length c_1]) 1 hF rfl rfl hS rfl fun b a w hF hS => step hF (Y.assign hF rfl) rfl fun a hF => nil (then_n (seq (region (step hF (Y.loadNL 1 sz_25 hF rfl hS rfl rfl rfl) rfl fun a hF => step hF (Y.move hF rfl) rfl fun a hF => ?_))))))
 obtain ⟨rv, hx, h⟩ := bind_some h
 refine O.callS (us := [.agg #[.int .i64 n.Exchanges, .slice p n.Lines.length c, .int .i64 n.Hops, .slice p_1 n.Loops.length c_1], .int .i64 exchange]) ca_15 hF hS (line_Routes_ok hS.stab n exchange hs hs_1 hG rv hx) rfl rfl fun v Dv a w hR hlev hF hS => ?_
 replace hs := hs.mono hlev
 replace hs_1 := hs_1.mono hlev
 replace hG := hG.mono hlev
 obtain ⟨p_2, c_2, rfl, hs_2⟩ := hR
 refine step hF (Y.move hF rfl) rfl fun a hF => step hF (Y.extract hF rfl rfl) rfl fun a hF => step hF (Y.extract hF rfl rfl) rfl fun a hF => step hF (Y.assign hF rfl) rfl fun a hF => step hF (Y.assign hF rfl) rfl fun a hF => nil (then_n (seq (region (step hF (Y.loadNL 1 sz_25 hF rfl hS rfl rfl rfl) rfl fun a hF => step hF (Y.move hF rfl) rfl fun a hF => ?_))))
 obtain ⟨rv_1, hx_1, h⟩ := bind_some h
 refine O.callS (us := [.agg #[.int .i64 n.Exchanges, .slice p n.Lines.length c, .int .i64 n.Hops, .slice p_1 n.Loops.length c_1], .int .i64 exchange]) ca_16 hF hS (remontoirref06_Routes_ok hS.stab n exchange hs hs_1 hG rv_1 hx_1) rfl rfl fun v_1 Dv_1 a w hR_1 hlev_1 hF hS => ?_
 replace hs := hs.mono hlev_1
 replace hs_1 := hs_1.mono hlev_1
 replace hG := hG.mono hlev_1
 replace hs_2 := hs_2.mono hlev_1
 obtain ⟨p_3, c_3, rfl, hs_3⟩ := hR_1
 refine step hF (Y.move hF rfl) rfl fun a hF => step hF (Y.extract hF rfl rfl) rfl fun a hF => step hF (Y.extract hF rfl rfl) rfl fun a hF => step hF (Y.assign hF rfl) rfl fun a hF => step hF (Y.assign hF rfl) rfl fun a hF => nil (then_n (seq (seq ?_)))
 obtain ⟨rv_2, hx_2, h⟩ := bind_some h
 obtain ⟨t, ht, h⟩ := bind_some h
 obtain ⟨t_1, ht_1, h⟩ := bind_some h
 refine drawsV 16 (.flt 0 (.flt 1 (.alt 2 (.flt 3 (.flt 4 (.flt 5 (.flt 6 (.flt 7 (.flt 8 (.flt 9 (.flt 10 (.flt 12 (.alt 11 (.alt 13 (.flt 14 (.flt 15 .done)) .stop) .stop)))))))))) .stop))) mixed_ (by kernel_rfl) (fun w => St w0 D0 Dv_1 [(1, .cells b [.int .i64 n.Exchanges, .slice p n.Lines.length c, .int .i64 n.Hops, .slice p_1 n.Loops.length c_1] 25)] w) (fun a w => Frm 62 [] [(1, .int .i64 exchange), (2, .pointer (some ⟨b, 0, none⟩)), (4, .bool false), (6, .int .i64 rv.2), (8, .int .i64 rv_1.2), (38, .bool t_1)] a ∧ St w0 D0 Dv_1 [(1, .cells b [.int .i64 n.Exchanges, .slice p n.Lines.length c, .int .i64 n.Hops, .slice p_1 n.Loops.length c_1] 25)] w) (hS.weak (ms := [(1, .cells b [.int .i64 n.Exchanges, .slice p n.Lines.length c, .int .i64 n.Hops, .slice p_1 n.Loops.length c_1] 25)]) ⟨rfl, trivial⟩).drew (fun _ _ _ _ h => h) ?_ ?_
 ·replace hS := hS.drew
  have hle0 := hS.le
  rcases bcases (!rv_2) with hbv | hbv
  ·skip
   replace ht := cond_t ht hbv
   obtain rfl := some_inj ht
   replace ht_1 := cond_t ht_1 rfl
   obtain rfl := some_inj ht_1
   refine stepV (i := 0) rfl hF (fun w hS => Y.move hF rfl) rfl fun a hF => stepV (i := 1) rfl hF (fun w hS => Y.move hF rfl) rfl fun a hF => oneV (i := 2) rfl ?_ trivial
   refine O.callP (us := [.slice p_2 rv.1.length c_2, .slice p_3 rv_1.1.length c_3]) ca_17 hF hS (r0AlikeRows_ok hS.stab rv.1 rv_1.1 hs_2 hs_3 rv_2 hx_2) rfl rfl fun a w hF hS => nil (then_n ⟨hS.weak ⟨rfl, trivial⟩, ?_⟩)
   refine stepV (i := 3) rfl hF (fun w hS => Y.not hF rfl) rfl fun a hF => stepV (i := 4) rfl hF (fun w hS => Y.move hF rfl) rfl fun a hF => stepV_off (i := 5) rfl hF rfl rfl hbv rfl fun a hF => stepV_off (i := 6) rfl hF rfl rfl hbv rfl fun a hF => stepV_off (i := 7) rfl hF rfl rfl hbv rfl fun a hF => stepV (i := 8) rfl hF (fun w hS => Y.pick_t hF rfl hbv rfl) rfl fun a hF => stepV (i := 9) rfl hF (fun w hS => Y.move hF rfl) rfl fun a hF => stepV_off (i := 10) rfl hF rfl rfl rfl rfl fun a hF => stepV_off (i := 12) rfl hF rfl rfl rfl rfl fun a hF => oneV (i := 11) rfl ?_ trivial
   refine guard_off hF rfl rfl rfl rfl fun a hF => nil (then_n ⟨hS.weak ⟨rfl, trivial⟩, ?_⟩)
   refine oneV (i := 13) rfl ?_ trivial
   refine guard_off hF rfl rfl rfl rfl fun a hF => nil (then_n ⟨hS.weak ⟨rfl, trivial⟩, ?_⟩)
   refine stepV_off (i := 14) rfl hF rfl rfl rfl rfl fun a hF => stepV (i := 15) rfl hF (fun w hS => Y.pick_t hF rfl rfl rfl) rfl fun a hF => toTailV ⟨hF.weak ⟨rfl, rfl, rfl, rfl, rfl, rfl, trivial⟩, hS.weak ⟨rfl, trivial⟩⟩
  replace ht := cond_f ht hbv
  obtain rfl := some_inj ht
  rcases bcases (rv.2 != rv_1.2) with hbv_1 | hbv_1
  ·skip
   replace ht_1 := cond_t ht_1 hbv_1
   obtain rfl := some_inj ht_1
   refine stepV (i := 0) rfl hF (fun w hS => Y.move hF rfl) rfl fun a hF => stepV (i := 1) rfl hF (fun w hS => Y.move hF rfl) rfl fun a hF => oneV (i := 2) rfl ?_ trivial
   refine O.callP (us := [.slice p_2 rv.1.length c_2, .slice p_3 rv_1.1.length c_3]) ca_17 hF hS (r0AlikeRows_ok hS.stab rv.1 rv_1.1 hs_2 hs_3 rv_2 hx_2) rfl rfl fun a w hF hS => nil (then_n ⟨hS.weak ⟨rfl, trivial⟩, ?_⟩)
   refine stepV (i := 3) rfl hF (fun w hS => Y.not hF rfl) rfl fun a hF => stepV (i := 4) rfl hF (fun w hS => Y.move hF rfl) rfl fun a hF => stepV_on (i := 5) rfl hF rfl rfl hbv (fun w hS => Y.move hF rfl) rfl fun a hF => stepV_on (i := 6) rfl hF rfl rfl hbv (fun w hS => Y.move hF rfl) rfl fun a hF => stepV_on (i := 7) rfl hF rfl rfl hbv (fun w hS => Y.neq hF rfl rfl) rfl fun a hF => stepV (i := 8) rfl hF (fun w hS => Y.pick_f hF rfl hbv rfl) rfl fun a hF => stepV (i := 9) rfl hF (fun w hS => Y.move hF rfl) rfl fun a hF => stepV_off (i := 10) rfl hF rfl rfl hbv_1 rfl fun a hF => stepV_off (i := 12) rfl hF rfl rfl hbv_1 rfl fun a hF => oneV (i := 11) rfl ?_ trivial
   refine guard_off hF rfl rfl hbv_1 rfl fun a hF => nil (then_n ⟨hS.weak ⟨rfl, trivial⟩, ?_⟩)
   refine oneV (i := 13) rfl ?_ trivial
   refine guard_off hF rfl rfl hbv_1 rfl fun a hF => nil (then_n ⟨hS.weak ⟨rfl, trivial⟩, ?_⟩)
   refine stepV_off (i := 14) rfl hF rfl rfl hbv_1 rfl fun a hF => stepV (i := 15) rfl hF (fun w hS => Y.pick_t hF rfl hbv_1 rfl) rfl fun a hF => toTailV ⟨hF.weak ⟨rfl, rfl, rfl, rfl, rfl, rfl, trivial⟩, hS.weak ⟨rfl, trivial⟩⟩
  replace ht_1 := cond_f ht_1 hbv_1
  obtain ⟨rv_3, hx_3, ht_1⟩ := bind_some ht_1
  obtain ⟨rv_4, hx_4, ht_1⟩ := bind_some ht_1
  obtain rfl := some_inj ht_1
  refine stepV (i := 0) rfl hF (fun w hS => Y.move hF rfl) rfl fun a hF => stepV (i := 1) rfl hF (fun w hS => Y.move hF rfl) rfl fun a hF => oneV (i := 2) rfl ?_ trivial
  refine O.callP (us := [.slice p_2 rv.1.length c_2, .slice p_3 rv_1.1.length c_3]) ca_17 hF hS (r0AlikeRows_ok hS.stab rv.1 rv_1.1 hs_2 hs_3 rv_2 hx_2) rfl rfl fun a w hF hS => nil (then_n ⟨hS.weak ⟨rfl, trivial⟩, ?_⟩)
  refine stepV (i := 3) rfl hF (fun w hS => Y.not hF rfl) rfl fun a hF => stepV (i := 4) rfl hF (fun w hS => Y.move hF rfl) rfl fun a hF => stepV_on (i := 5) rfl hF rfl rfl hbv (fun w hS => Y.move hF rfl) rfl fun a hF => stepV_on (i := 6) rfl hF rfl rfl hbv (fun w hS => Y.move hF rfl) rfl fun a hF => stepV_on (i := 7) rfl hF rfl rfl hbv (fun w hS => Y.neq hF rfl rfl) rfl fun a hF => stepV (i := 8) rfl hF (fun w hS => Y.pick_f hF rfl hbv rfl) rfl fun a hF => stepV (i := 9) rfl hF (fun w hS => Y.move hF rfl) rfl fun a hF => stepV_on (i := 10) rfl hF rfl rfl hbv_1 (fun w hS => Y.loadNL 1 sz_25 hF rfl hS rfl rfl rfl) rfl fun a hF => stepV_on (i := 12) rfl hF rfl rfl hbv_1 (fun w hS => Y.loadNL 1 sz_25 hF rfl hS rfl rfl rfl) rfl fun a hF => oneV (i := 11) rfl ?_ trivial
  refine guard_on hF rfl rfl hbv_1 (O.callP (us := [.agg #[.int .i64 n.Exchanges, .slice p n.Lines.length c, .int .i64 n.Hops, .slice p_1 n.Loops.length c_1]]) ca_18 hF hS (line_Check_ok hS.stab n hs hs_1 rv_3 hx_3) rfl rfl fun a w hF hS => nil (then_n ⟨hS.weak ⟨rfl, trivial⟩, ?_⟩))
  refine oneV (i := 13) rfl ?_ trivial
  refine guard_on hF rfl rfl hbv_1 (O.callP (us := [.agg #[.int .i64 n.Exchanges, .slice p n.Lines.length c, .int .i64 n.Hops, .slice p_1 n.Loops.length c_1]]) ca_19 hF hS (remontoirref06_Check_ok hS.stab n hs hs_1 rv_4 hx_4) rfl rfl fun a w hF hS => nil (then_n ⟨hS.weak ⟨rfl, trivial⟩, ?_⟩))
  refine stepV_on (i := 14) rfl hF rfl rfl hbv_1 (fun w hS => Y.neq hF rfl rfl) rfl fun a hF => stepV (i := 15) rfl hF (fun w hS => Y.pick_f hF rfl hbv_1 rfl) rfl fun a hF => toTailV ⟨hF.weak ⟨rfl, rfl, rfl, rfl, rfl, rfl, trivial⟩, hS.weak ⟨rfl, trivial⟩⟩
 rintro a w ⟨hF, hS⟩
 refine nil (then_n (cond_b hF rfl (fun hbv_2 => ?_) (fun hbv_2 => ?_)))
 ·replace h := cond_t h hbv_2
  refine seq (region (step hF (Y.assign hF rfl) rfl fun a hF => nil (then_n (ret_ (then_r ?_)))))
  obtain rfl := some_inj h
  exact leaveP Tryd.results3 hF hS (.cons (.tmp rfl) .nil) .nil rfl
 replace h := cond_f h hbv_2
 refine skip_ (then_n (seq (region (step hF (Y.loadNL 1 sz_25 hF rfl hS rfl rfl rfl) rfl fun a hF => step hF (Y.move hF rfl) rfl fun a hF => ?_))))
 obtain ⟨rv_5, hx_5, h⟩ := bind_some h
 refine O.callS (us := [.agg #[.int .i64 n.Exchanges, .slice p n.Lines.length c, .int .i64 n.Hops, .slice p_1 n.Loops.length c_1], .int .i64 exchange]) ca_20 hF hS (line_Surely_ok hS.stab n exchange hs hs_1 hG rv_5 hx_5) rfl rfl fun v_2 Dv_2 a w hR_2 hlev_2 hF hS => ?_
 replace hs := hs.mono hlev_2
 replace hs_1 := hs_1.mono hlev_2
 replace hG := hG.mono hlev_2
 obtain ⟨p_4, c_4, rfl, hs_4⟩ := hR_2
 refine step hF (Y.move hF rfl) rfl fun a hF => step hF (Y.extract hF rfl rfl) rfl fun a hF => step hF (Y.extract hF rfl rfl) rfl fun a hF => step hF (Y.assign hF rfl) rfl fun a hF => step hF (Y.assign hF rfl) rfl fun a hF => nil (then_n (seq (region (step hF (Y.loadNL 1 sz_25 hF rfl hS rfl rfl rfl) rfl fun a hF => step hF (Y.move hF rfl) rfl fun a hF => ?_))))
 obtain ⟨rv_6, hx_6, h⟩ := bind_some h
 refine O.callS (us := [.agg #[.int .i64 n.Exchanges, .slice p n.Lines.length c, .int .i64 n.Hops, .slice p_1 n.Loops.length c_1], .int .i64 exchange]) ca_21 hF hS (remontoirref06_Surely_ok hS.stab n exchange hs hs_1 hG rv_6 hx_6) rfl rfl fun v_3 Dv_3 a w hR_3 hlev_3 hF hS => ?_
 replace hG := hG.mono hlev_3
 replace hs_4 := hs_4.mono hlev_3
 obtain ⟨p_5, c_5, rfl, hs_5⟩ := hR_3
 refine step hF (Y.move hF rfl) rfl fun a hF => step hF (Y.extract hF rfl rfl) rfl fun a hF => step hF (Y.extract hF rfl rfl) rfl fun a hF => step hF (Y.assign hF rfl) rfl fun a hF => step hF (Y.assign hF rfl) rfl fun a hF => nil (then_n (seq (region (step hF (Y.move hF rfl) rfl fun a hF => step hF (Y.move hF rfl) rfl fun a hF => ?_))))
 obtain ⟨rv_7, hx_7, h⟩ := bind_some h
 refine O.callP (us := [.slice p_4 rv_5.1.length c_4, .slice p_5 rv_6.1.length c_5]) ca_22 hF hS (r0Alike_ok hS.stab rv_5.1 rv_6.1 hs_4 hs_5 rv_7 hx_7) rfl rfl fun a w hF hS => step hF (Y.move hF rfl) rfl fun a hF => join (N := 62) (rs := []) (w0 := w0) (D0 := D0) 4 (us := [(4, .bool false), (58, .bool (rv_7 && (rv_5.2 == rv_6.2)))]) (ms := [(1, .cells b [.int .i64 n.Exchanges, .slice p n.Lines.length c, .int .i64 n.Hops, .slice p_1 n.Loops.length c_1] 25)]) (D' := Dv_3) ?_ ?_
 ·rcases bcases rv_7 with hbv_3 | hbv_3
  ·skip
   refine guard_on hF rfl rfl hbv_3 (step hF (Y.move hF rfl) rfl fun a hF => guard_on hF rfl rfl hbv_3 (step hF (Y.move hF rfl) rfl fun a hF => guard_on hF rfl rfl hbv_3 (step hF (Y.eql hF rfl rfl) rfl fun a hF => step hF (Y.pick_t hF rfl hbv_3 rfl) rfl fun a hF => nil (then_n ⟨hF.weak ⟨rfl, (by rw [hbv_3]; rfl), trivial⟩, hS.weak ⟨rfl, trivial⟩⟩))))
  refine guard_off hF rfl rfl hbv_3 rfl fun a hF => guard_off hF rfl rfl hbv_3 rfl fun a hF => guard_off hF rfl rfl hbv_3 rfl fun a hF => step hF (Y.pick_f hF rfl hbv_3 rfl) rfl fun a hF => nil (then_n ⟨hF.weak ⟨rfl, (by rw [hbv_3]; rfl), trivial⟩, hS.weak ⟨rfl, trivial⟩⟩)
 intro a w hF hS
 refine step hF (Y.move hF rfl) rfl fun a hF => ?_
 obtain ⟨t_2, ht_2, h⟩ := bind_some h
 refine join (N := 62) (rs := []) (w0 := w0) (D0 := D0) 2 (us := [(4, .bool false), (61, .bool t_2)]) (ms := [(1, .cells b [.int .i64 n.Exchanges, .slice p n.Lines.length c, .int .i64 n.Hops, .slice p_1 n.Loops.length c_1] 25)]) (D' := Dv_3) ?_ ?_
 ·rcases bcases (rv_7 && (rv_5.2 == rv_6.2)) with hbv_4 | hbv_4
  ·skip
   replace h := cond_t ht_2 hbv_4
   refine guard_on hF rfl rfl hbv_4 ?_
   obtain ⟨rv_8, hx_8, h⟩ := bind_some h
   refine O.callP (us := []) ca_23 hF hS (remontoirlaw06_works_ok hS.stab hG rv_8 hx_8) rfl rfl fun a w hF hS => step hF (Y.pick_t hF rfl hbv_4 rfl) rfl fun a hF => ?_
   obtain rfl := some_inj h
   exact nil (then_n ⟨hF.weak ⟨rfl, rfl, trivial⟩, hS.weak ⟨rfl, trivial⟩⟩)
  replace h := cond_f ht_2 hbv_4
  refine guard_off hF rfl rfl hbv_4 rfl fun a hF => step hF (Y.pick_f hF rfl hbv_4 rfl) rfl fun a hF => ?_
  obtain rfl := some_inj h
  exact nil (then_n ⟨hF.weak ⟨rfl, rfl, trivial⟩, hS.weak ⟨rfl, trivial⟩⟩)
 intro a w hF hS
 refine step hF (Y.assign hF rfl) rfl fun a hF => nil (then_n (ret_ ?_))
 obtain rfl := some_inj h
 exact leaveP Tryd.results3 hF hS (.cons (.tmp rfl) .nil) .nil rfl
end Go.Proofs.YthdbokigcfbgeaaDoor.Rt
