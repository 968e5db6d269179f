/- Walks of the functions of this seat: what each Go function comes to, as a Lean function, and the proof. A law. Under no conditions. -/
import Derived.Test.YthdbokigcfbgeaaDoorC4WBZ
set_option linter.unusedVariables false
set_option linter.unusedSimpArgs false
set_option maxRecDepth 100000
set_option maxHeartbeats 4000000
namespace Go.Proofs.YthdbokigcfbgeaaDoor.Rt
open Go Go.RowKit
noncomputable def remontoirlaw06_LineDelays (n : LineNet) (k : Arr2) : Option Bool :=
  (line_Delay n k.a0).bind fun rv =>
  (remontoirref06_Delay n k.a0).bind fun rv_1 =>
  cond ((!([rv.1.Low, rv.1.High] == [rv_1.1.Low, rv_1.1.High])) || (rv.2 != rv_1.2))
  (some false)
  ((line_Can n k.a0 k.a1).bind fun rv_2 =>
  (remontoirref06_Can n k.a0 k.a1).bind fun rv_3 =>
  cond ((rv_2.1 != rv_3.1) || (rv_2.2 != rv_3.2))
  (some false)
  ((line_Correct n k.a0).bind fun rv_4 =>
  (remontoirref06_Correct n k.a0).bind fun rv_5 =>
  (cond (((rv_4.1 == rv_5.1) && (rv_4.2.1 == rv_5.2.1)) && (rv_4.2.2 == rv_5.2.2)) ((remontoirlaw06_works).bind fun rv_6 =>
  some rv_6) (some false)).bind fun t =>
  some t))
theorem remontoirlaw06_LineDelays_ok {w0 : World} {D0 : Stab} (hD : D0.on w0) (n : LineNet) (k : Arr2) {p : Option Addr} {c : Nat} {p_1 : Option Addr} {c_1 : Nat} (hs : SRc C_LineLine D0 n.Lines p c) (hs_1 : SRc C_LineLoop D0 n.Loops p_1 c_1) (hG : Glob D0) (out : Bool) (h : remontoirlaw06_LineDelays n k = some out) : Calls Tryd.prog 4 [.agg #[.int .i64 n.Exchanges, .slice p n.Lines.length c, .int .i64 n.Hops, .slice p_1 n.Loops.length c_1], .agg #[.int .i64 k.a0, .int .i64 k.a1]].toArray w0 (RetP D0 w0 (.bool out)) := by
 refine enter _ 95 Tryd.func4 rfl Tryd.ntmps4 rfl fun a hF => ?_
 replace hF : Frm 95 [] [(0, .agg #[.int .i64 n.Exchanges, .slice p n.Lines.length c, .int .i64 n.Hops, .slice p_1 n.Loops.length c_1]), (1, .agg #[.int .i64 k.a0, .int .i64 k.a1])] a := hF
 have hS := St.start hD
 unfold remontoirlaw06_LineDelays at h
 refine seq (region (O.box (cs := [.int .i64 n.Exchanges, .slice p n.Lines.length c, .int .i64 n.Hops, .slice p_1 n.Loops.length c_1]) 1 hF rfl rfl hS rfl fun b a w hF hS => O.box (cs := [.int .i64 k.a0, .int .i64 k.a1]) 2 hF rfl rfl hS rfl fun b_1 a w hF hS => step hF (Y.assign hF rfl) rfl fun a hF => nil (then_n (seq (region (step hF (Y.loadNL 1 sz_25 hF rfl hS rfl rfl rfl) rfl fun a hF => step hF (Y.indexArr u_38 sz_3 hF rfl rfl (by decide) (by decide)) rfl fun a hF => step hF (Y.load1L 2 sz_3 hF rfl hS rfl rfl) rfl fun a hF => ?_))))))
 obtain ⟨rv, hx, h⟩ := bind_some h
 refine O.callP (us := [.agg #[.int .i64 n.Exchanges, .slice p n.Lines.length c, .int .i64 n.Hops, .slice p_1 n.Loops.length c_1], .int .i64 k.a0]) ca_24 hF hS (line_Delay_ok hS.stab n k.a0 hs hs_1 hG rv hx) rfl rfl fun a w hF hS => step hF (Y.move hF rfl) rfl fun a hF => step hF (Y.extract hF rfl rfl) rfl fun a hF => step hF (Y.extract hF rfl rfl) rfl fun a hF => O.alloc 3 zc_40 hF hS rfl fun b_2 a w hF hS => O.store (us := [.int .i64 rv.1.Low, .int .i64 rv.1.High]) 3 sz_40 hF rfl rfl rfl rfl hS rfl rfl fun a w hF hS => step hF (Y.assign hF rfl) rfl fun a hF => nil (then_n (seq (region (step hF (Y.loadNL 1 sz_25 hF rfl hS rfl rfl rfl) rfl fun a hF => step hF (Y.indexArr u_38 sz_3 hF rfl rfl (by decide) (by decide)) rfl fun a hF => step hF (Y.load1L 2 sz_3 hF rfl hS rfl rfl) rfl fun a hF => ?_))))
 obtain ⟨rv_1, hx_1, h⟩ := bind_some h
 refine O.callP (us := [.agg #[.int .i64 n.Exchanges, .slice p n.Lines.length c, .int .i64 n.Hops, .slice p_1 n.Loops.length c_1], .int .i64 k.a0]) ca_25 hF hS (remontoirref06_Delay_ok hS.stab n k.a0 hs hs_1 hG rv_1 hx_1) rfl rfl fun a w hF hS => step hF (Y.move hF rfl) rfl fun a hF => step hF (Y.extract hF rfl rfl) rfl fun a hF => step hF (Y.extract hF rfl rfl) rfl fun a hF => O.alloc 4 zc_40 hF hS rfl fun b_3 a w hF hS => O.store (us := [.int .i64 rv_1.1.Low, .int .i64 rv_1.1.High]) 4 sz_40 hF rfl rfl rfl rfl hS rfl rfl fun a w hF hS => step hF (Y.assign hF rfl) rfl fun a hF => nil (then_n (seq (seq (region (step hF (Y.loadNL 3 sz_40 hF rfl hS rfl rfl rfl) rfl fun a hF => step hF (Y.loadNL 4 sz_40 hF rfl hS rfl rfl rfl) rfl fun a hF => step hF (Y.nest (fun w => eqT_40.equal (by decide) (l := [rv.1.Low, rv.1.High]) (m := [rv_1.1.Low, rv_1.1.High]) rfl rfl) (fun w => run_eqGuard_agg _ _ _ _ _ _ _ eg_40) hF rfl rfl) rfl fun a hF => step hF (Y.move hF rfl) rfl fun a hF => join (N := 95) (rs := []) (w0 := w0) (D0 := D0) 4 (us := [(2, .pointer (some ⟨b, 0, none⟩)), (3, .pointer (some ⟨b_1, 0, none⟩)), (4, .bool false), (6, .int .i64 rv.2), (8, .int .i64 rv_1.2), (36, .bool ((!([rv.1.Low, rv.1.High] == [rv_1.1.Low, rv_1.1.High])) || (rv.2 != rv_1.2)))]) (ms := [(1, .cells b [.int .i64 n.Exchanges, .slice p n.Lines.length c, .int .i64 n.Hops, .slice p_1 n.Loops.length c_1] 25), (2, .cells b_1 [.int .i64 k.a0, .int .i64 k.a1] 38), (3, .cells b_2 [.int .i64 rv.1.Low, .int .i64 rv.1.High] 40), (4, .cells b_3 [.int .i64 rv_1.1.Low, .int .i64 rv_1.1.High] 40)]) (D' := D0) ?_ ?_)))))
 ·rcases bcases (!([rv.1.Low, rv.1.High] == [rv_1.1.Low, rv_1.1.High])) with hbv | hbv
  ·skip
   refine guard_off hF rfl rfl hbv rfl fun a hF => guard_off hF rfl rfl hbv rfl fun a hF => guard_off hF rfl rfl hbv rfl fun a hF => step hF (Y.pick_t hF rfl hbv rfl) rfl fun a hF => nil (then_n ⟨hF.weak ⟨rfl, rfl, rfl, rfl, rfl, (by rw [hbv]; rfl), trivial⟩, hS.weak ⟨rfl, rfl, rfl, rfl, trivial⟩⟩)
  refine guard_on hF rfl rfl hbv (step hF (Y.move hF rfl) rfl fun a hF => guard_on hF rfl rfl hbv (step hF (Y.move hF rfl) rfl fun a hF => guard_on hF rfl rfl hbv (step hF (Y.neq hF rfl rfl) rfl fun a hF => step hF (Y.pick_f hF rfl hbv rfl) rfl fun a hF => nil (then_n ⟨hF.weak ⟨rfl, rfl, rfl, rfl, rfl, (by rw [hbv]; rfl), trivial⟩, hS.weak ⟨rfl, rfl, rfl, rfl, trivial⟩⟩))))
 intro a w hF hS
 refine nil (then_n (cond_b hF rfl (fun hbv_1 => ?_) (fun hbv_1 => ?_)))
 ·replace h := cond_t h hbv_1
  refine seq (region (step hF (Y.assign hF rfl) rfl fun a hF => nil (then_n (ret_ (then_r ?_)))))
  obtain rfl := some_inj h
  exact leaveP Tryd.results4 hF hS (.cons (.tmp rfl) .nil) .nil rfl
 replace h := cond_f h hbv_1
 refine skip_ (then_n (seq (region (step hF (Y.loadNL 1 sz_25 hF rfl hS rfl rfl rfl) rfl fun a hF => step hF (Y.indexArr u_38 sz_3 hF rfl rfl (by decide) (by decide)) rfl fun a hF => step hF (Y.load1L 2 sz_3 hF rfl hS rfl rfl) rfl fun a hF => step hF (Y.indexArr u_38 sz_3 hF rfl rfl (by decide) (by decide)) rfl fun a hF => step hF (Y.load1L 2 sz_3 hF rfl hS rfl rfl) rfl fun a hF => ?_))))
 obtain ⟨rv_2, hx_2, h⟩ := bind_some h
 refine O.callP (us := [.agg #[.int .i64 n.Exchanges, .slice p n.Lines.length c, .int .i64 n.Hops, .slice p_1 n.Loops.length c_1], .int .i64 k.a0, .int .i64 k.a1]) ca_26 hF hS (line_Can_ok hS.stab n k.a0 k.a1 hs hs_1 hG rv_2 hx_2) rfl rfl fun a w hF hS => step hF (Y.move hF rfl) rfl fun a hF => step hF (Y.extract hF rfl rfl) rfl fun a hF => step hF (Y.extract hF rfl rfl) rfl fun a hF => step hF (Y.assign hF rfl) rfl fun a hF => step hF (Y.assign hF rfl) rfl fun a hF => nil (then_n (seq (region (step hF (Y.loadNL 1 sz_25 hF rfl hS rfl rfl rfl) rfl fun a hF => step hF (Y.indexArr u_38 sz_3 hF rfl rfl (by decide) (by decide)) rfl fun a hF => step hF (Y.load1L 2 sz_3 hF rfl hS rfl rfl) rfl fun a hF => step hF (Y.indexArr u_38 sz_3 hF rfl rfl (by decide) (by decide)) rfl fun a hF => step hF (Y.load1L 2 sz_3 hF rfl hS rfl rfl) rfl fun a hF => ?_))))
 obtain ⟨rv_3, hx_3, h⟩ := bind_some h
 refine O.callP (us := [.agg #[.int .i64 n.Exchanges, .slice p n.Lines.length c, .int .i64 n.Hops, .slice p_1 n.Loops.length c_1], .int .i64 k.a0, .int .i64 k.a1]) ca_27 hF hS (remontoirref06_Can_ok hS.stab n k.a0 k.a1 hs hs_1 hG rv_3 hx_3) rfl rfl fun a w hF hS => step hF (Y.move hF rfl) rfl fun a hF => step hF (Y.extract hF rfl rfl) rfl fun a hF => step hF (Y.extract hF rfl rfl) rfl fun a hF => step hF (Y.assign hF rfl) rfl fun a hF => step hF (Y.assign hF rfl) rfl fun a hF => nil (then_n (seq (seq (region (step hF (Y.move hF rfl) rfl fun a hF => step hF (Y.move hF rfl) rfl fun a hF => step hF (Y.neb u_4 hF rfl rfl) rfl fun a hF => step hF (Y.move hF rfl) rfl fun a hF => join (N := 95) (rs := []) (w0 := w0) (D0 := D0) 4 (us := [(2, .pointer (some ⟨b, 0, none⟩)), (3, .pointer (some ⟨b_1, 0, none⟩)), (4, .bool false), (6, .int .i64 rv_2.2), (8, .int .i64 rv_3.2), (62, .bool ((rv_2.1 != rv_3.1) || (rv_2.2 != rv_3.2)))]) (ms := [(1, .cells b [.int .i64 n.Exchanges, .slice p n.Lines.length c, .int .i64 n.Hops, .slice p_1 n.Loops.length c_1] 25), (2, .cells b_1 [.int .i64 k.a0, .int .i64 k.a1] 38), (3, .cells b_2 [.int .i64 rv.1.Low, .int .i64 rv.1.High] 40), (4, .cells b_3 [.int .i64 rv_1.1.Low, .int .i64 rv_1.1.High] 40)]) (D' := D0) ?_ ?_)))))
 ·rcases bcases (rv_2.1 != rv_3.1) with hbv_2 | hbv_2
  ·skip
   refine guard_off hF rfl rfl hbv_2 rfl fun a hF => guard_off hF rfl rfl hbv_2 rfl fun a hF => guard_off hF rfl rfl hbv_2 rfl fun a hF => step hF (Y.pick_t hF rfl hbv_2 rfl) rfl fun a hF => nil (then_n ⟨hF.weak ⟨rfl, rfl, rfl, rfl, rfl, (by rw [hbv_2]; rfl), trivial⟩, hS.weak ⟨rfl, rfl, rfl, rfl, trivial⟩⟩)
  refine guard_on hF rfl rfl hbv_2 (step hF (Y.move hF rfl) rfl fun a hF => guard_on hF rfl rfl hbv_2 (step hF (Y.move hF rfl) rfl fun a hF => guard_on hF rfl rfl hbv_2 (step hF (Y.neq hF rfl rfl) rfl fun a hF => step hF (Y.pick_f hF rfl hbv_2 rfl) rfl fun a hF => nil (then_n ⟨hF.weak ⟨rfl, rfl, rfl, rfl, rfl, (by rw [hbv_2]; rfl), trivial⟩, hS.weak ⟨rfl, rfl, rfl, rfl, trivial⟩⟩))))
 intro a w hF hS
 refine nil (then_n (cond_b hF rfl (fun hbv_3 => ?_) (fun hbv_3 => ?_)))
 ·replace h := cond_t h hbv_3
  refine seq (region (step hF (Y.assign hF rfl) rfl fun a hF => nil (then_n (ret_ (then_r ?_)))))
  obtain rfl := some_inj h
  exact leaveP Tryd.results4 hF hS (.cons (.tmp rfl) .nil) .nil rfl
 replace h := cond_f h hbv_3
 refine skip_ (then_n (seq (region (step hF (Y.loadNL 1 sz_25 hF rfl hS rfl rfl rfl) rfl fun a hF => step hF (Y.indexArr u_38 sz_3 hF rfl rfl (by decide) (by decide)) rfl fun a hF => step hF (Y.load1L 2 sz_3 hF rfl hS rfl rfl) rfl fun a hF => ?_))))
 obtain ⟨rv_4, hx_4, h⟩ := bind_some h
 refine O.callP (us := [.agg #[.int .i64 n.Exchanges, .slice p n.Lines.length c, .int .i64 n.Hops, .slice p_1 n.Loops.length c_1], .int .i64 k.a0]) ca_28 hF hS (line_Correct_ok hS.stab n k.a0 hs hs_1 hG rv_4 hx_4) rfl rfl fun a w hF hS => step hF (Y.move hF rfl) rfl fun a hF => step hF (Y.extract hF rfl rfl) rfl fun a hF => step hF (Y.extract hF rfl rfl) rfl fun a hF => step hF (Y.extract hF rfl rfl) rfl fun a hF => step hF (Y.assign hF rfl) rfl fun a hF => step hF (Y.assign hF rfl) rfl fun a hF => step hF (Y.assign hF rfl) rfl fun a hF => nil (then_n (seq (region (step hF (Y.loadNL 1 sz_25 hF rfl hS rfl rfl rfl) rfl fun a hF => step hF (Y.indexArr u_38 sz_3 hF rfl rfl (by decide) (by decide)) rfl fun a hF => step hF (Y.load1L 2 sz_3 hF rfl hS rfl rfl) rfl fun a hF => ?_))))
 obtain ⟨rv_5, hx_5, h⟩ := bind_some h
 refine O.callP (us := [.agg #[.int .i64 n.Exchanges, .slice p n.Lines.length c, .int .i64 n.Hops, .slice p_1 n.Loops.length c_1], .int .i64 k.a0]) ca_29 hF hS (remontoirref06_Correct_ok hS.stab n k.a0 hs hs_1 hG rv_5 hx_5) rfl rfl fun a w hF hS => step hF (Y.move hF rfl) rfl fun a hF => step hF (Y.extract hF rfl rfl) rfl fun a hF => step hF (Y.extract hF rfl rfl) rfl fun a hF => step hF (Y.extract hF rfl rfl) rfl fun a hF => step hF (Y.assign hF rfl) rfl fun a hF => step hF (Y.assign hF rfl) rfl fun a hF => step hF (Y.assign hF rfl) rfl fun a hF => nil (then_n (seq (region (step hF (Y.move hF rfl) rfl fun a hF => step hF (Y.move hF rfl) rfl fun a hF => step hF (Y.eql hF rfl rfl) rfl fun a hF => step hF (Y.move hF rfl) rfl fun a hF => join (N := 95) (rs := []) (w0 := w0) (D0 := D0) 4 (us := [(4, .bool false), (6, .int .i64 rv_4.2.2), (8, .int .i64 rv_5.2.2), (86, .bool ((rv_4.1 == rv_5.1) && (rv_4.2.1 == rv_5.2.1)))]) (ms := [(1, .cells b [.int .i64 n.Exchanges, .slice p n.Lines.length c, .int .i64 n.Hops, .slice p_1 n.Loops.length c_1] 25), (2, .cells b_1 [.int .i64 k.a0, .int .i64 k.a1] 38), (3, .cells b_2 [.int .i64 rv.1.Low, .int .i64 rv.1.High] 40), (4, .cells b_3 [.int .i64 rv_1.1.Low, .int .i64 rv_1.1.High] 40)]) (D' := D0) ?_ ?_))))
 ·rcases bcases (rv_4.1 == rv_5.1) with hbv_4 | hbv_4
  ·skip
   refine guard_on hF rfl rfl hbv_4 (step hF (Y.move hF rfl) rfl fun a hF => guard_on hF rfl rfl hbv_4 (step hF (Y.move hF rfl) rfl fun a hF => guard_on hF rfl rfl hbv_4 (step hF (Y.eql hF rfl rfl) rfl fun a hF => step hF (Y.pick_t hF rfl hbv_4 rfl) rfl fun a hF => nil (then_n ⟨hF.weak ⟨rfl, rfl, rfl, (by rw [hbv_4]; rfl), trivial⟩, hS.weak ⟨rfl, rfl, rfl, rfl, trivial⟩⟩))))
  refine guard_off hF rfl rfl hbv_4 rfl fun a hF => guard_off hF rfl rfl hbv_4 rfl fun a hF => guard_off hF rfl rfl hbv_4 rfl fun a hF => step hF (Y.pick_f hF rfl hbv_4 rfl) rfl fun a hF => nil (then_n ⟨hF.weak ⟨rfl, rfl, rfl, (by rw [hbv_4]; rfl), trivial⟩, hS.weak ⟨rfl, rfl, rfl, rfl, trivial⟩⟩)
 intro a w hF hS
 refine step hF (Y.move hF rfl) rfl fun a hF => join (N := 95) (rs := []) (w0 := w0) (D0 := D0) 4 (us := [(4, .bool false), (91, .bool (((rv_4.1 == rv_5.1) && (rv_4.2.1 == rv_5.2.1)) && (rv_4.2.2 == rv_5.2.2)))]) (ms := [(1, .cells b [.int .i64 n.Exchanges, .slice p n.Lines.length c, .int .i64 n.Hops, .slice p_1 n.Loops.length c_1] 25), (2, .cells b_1 [.int .i64 k.a0, .int .i64 k.a1] 38), (3, .cells b_2 [.int .i64 rv.1.Low, .int .i64 rv.1.High] 40), (4, .cells b_3 [.int .i64 rv_1.1.Low, .int .i64 rv_1.1.High] 40)]) (D' := D0) ?_ ?_
 ·rcases bcases ((rv_4.1 == rv_5.1) && (rv_4.2.1 == rv_5.2.1)) with hbv_5 | hbv_5
  ·skip
   refine guard_on hF rfl rfl hbv_5 (step hF (Y.move hF rfl) rfl fun a hF => guard_on hF rfl rfl hbv_5 (step hF (Y.move hF rfl) rfl fun a hF => guard_on hF rfl rfl hbv_5 (step hF (Y.eql hF rfl rfl) rfl fun a hF => step hF (Y.pick_t hF rfl hbv_5 rfl) rfl fun a hF => nil (then_n ⟨hF.weak ⟨rfl, (by rw [hbv_5]; rfl), trivial⟩, hS.weak ⟨rfl, rfl, rfl, rfl, trivial⟩⟩))))
  refine guard_off hF rfl rfl hbv_5 rfl fun a hF => guard_off hF rfl rfl hbv_5 rfl fun a hF => guard_off hF rfl rfl hbv_5 rfl fun a hF => step hF (Y.pick_f hF rfl hbv_5 rfl) rfl fun a hF => nil (then_n ⟨hF.weak ⟨rfl, (by rw [hbv_5]; rfl), trivial⟩, hS.weak ⟨rfl, rfl, rfl, rfl, trivial⟩⟩)
 intro a w hF hS
 refine step hF (Y.move hF rfl) rfl fun a hF => ?_
 obtain ⟨t, ht, h⟩ := bind_some h
 refine join (N := 95) (rs := []) (w0 := w0) (D0 := D0) 2 (us := [(4, .bool false), (94, .bool t)]) (ms := [(1, .cells b [.int .i64 n.Exchanges, .slice p n.Lines.length c, .int .i64 n.Hops, .slice p_1 n.Loops.length c_1] 25), (2, .cells b_1 [.int .i64 k.a0, .int .i64 k.a1] 38), (3, .cells b_2 [.int .i64 rv.1.Low, .int .i64 rv.1.High] 40), (4, .cells b_3 [.int .i64 rv_1.1.Low, .int .i64 rv_1.1.High] 40)]) (D' := D0) ?_ ?_
 ·rcases bcases (((rv_4.1 == rv_5.1) && (rv_4.2.1 == rv_5.2.1)) && (rv_4.2.2 == rv_5.2.2)) with hbv_6 | hbv_6
  ·skip
   replace h := cond_t ht hbv_6
   refine guard_on hF rfl rfl hbv_6 ?_
   obtain ⟨rv_6, hx_6, h⟩ := bind_some h
   refine O.callP (us := []) ca_23 hF hS (remontoirlaw06_works_ok hS.stab hG rv_6 hx_6) rfl rfl fun a w hF hS => step hF (Y.pick_t hF rfl hbv_6 rfl) rfl fun a hF => ?_
   obtain rfl := some_inj h
   exact nil (then_n ⟨hF.weak ⟨rfl, rfl, trivial⟩, hS.weak ⟨rfl, rfl, rfl, rfl, trivial⟩⟩)
  replace h := cond_f ht hbv_6
  refine guard_off hF rfl rfl hbv_6 rfl fun a hF => step hF (Y.pick_f hF rfl hbv_6 rfl) rfl fun a hF => ?_
  obtain rfl := some_inj h
  exact nil (then_n ⟨hF.weak ⟨rfl, rfl, trivial⟩, hS.weak ⟨rfl, rfl, rfl, rfl, trivial⟩⟩)
 intro a w hF hS
 refine step hF (Y.assign hF rfl) rfl fun a hF => nil (then_n (ret_ ?_))
 obtain rfl := some_inj h
 exact leaveP Tryd.results4 hF hS (.cons (.tmp rfl) .nil) .nil rfl
end Go.Proofs.YthdbokigcfbgeaaDoor.Rt
