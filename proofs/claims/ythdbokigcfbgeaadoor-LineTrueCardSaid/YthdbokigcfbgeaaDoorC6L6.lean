/- Walks of the functions of this seat: what each Go function comes to, as a Lean function, and the proof. A law. Under no conditions. -/
import Derived.Test.YthdbokigcfbgeaaDoorC6WBZ
set_option linter.unusedVariables false
set_option linter.unusedSimpArgs false
set_option maxRecDepth 100000
set_option maxHeartbeats 4000000
namespace Go.Proofs.YthdbokigcfbgeaaDoor.Rt
open Go Go.RowKit
noncomputable def remontoirlaw06_LineTrue_b1 (rv_2 : ((List Int) × Int)) (rv_8 : ((List Int) × Int)) : (Bool × Int) → Option ((Bool × Int) ⊕ Bool)
 | (v4_0, k) =>
  cond (decide (k < (rv_8.1.length : Int)))
  ((idx rv_8.1 k).bind fun e =>
  (r0Find rv_2.1 e).bind fun rv_12 =>
  cond (decide (rv_12 < 0))
  (ext (some false))
  (nxt (v4_0, wr (k + 1))))
  (ext ((remontoirlaw06_works).bind fun rv_13 =>
  some rv_13))
noncomputable def remontoirlaw06_LineTrue (n : LineNet) (bits : (List Int)) : Option Bool :=
  (remontoirlaw06_sound n).bind fun rv =>
  cond (!rv)
  ((remontoirlaw06_works).bind fun rv_1 =>
  some rv_1)
  ((remontoirlaw06_gone n bits).bind fun rv_2 =>
  (remontoirlaw06_sent n rv_2.1 rv_2.2 bits).bind fun rv_3 =>
  (line_Routes rv_3.1 rv_2.2).bind fun rv_4 =>
  (line_Delay rv_3.1 rv_2.2).bind fun rv_5 =>
  (line_Can rv_3.1 rv_2.2 rv_3.2).bind fun rv_6 =>
  (line_Correct rv_3.1 rv_2.2).bind fun rv_7 =>
  (line_Surely rv_3.1 rv_2.2).bind fun rv_8 =>
  (cond (((((rv_4.2 != 0) || (rv_5.2 != 0)) || (rv_6.2 != 0)) || (rv_7.2.2 != 0)) || (rv_8.2 != 0)) (some true) ((remontoirlaw06_has rv_4.1 rv_2.1).bind fun rv_9 =>
  some (!rv_9))).bind fun t =>
  (cond (t || (!rv_6.1)) (some true) ((r0Has rv_5.1 rv_3.2).bind fun rv_10 =>
  some (!rv_10))).bind fun t_1 =>
  (cond t_1 (some true) ((r0Size (wr (rv_7.1 - rv_3.2))).bind fun rv_11 =>
  some (decide (rv_11 > rv_7.2.1)))).bind fun t_2 =>
  cond t_2
  (some false)
  (loopU (remontoirlaw06_LineTrue_b1 rv_2 rv_8) (false, 0)))
theorem remontoirlaw06_LineTrue_ok {w0 : World} {D0 : Stab} (hD : D0.on w0) (n : LineNet) (bits : (List Int)) {p : Option Addr} {c : Nat} {p_1 : Option Addr} {c_1 : Nat} {p_2 : Option Addr} {c_2 : Nat} (hs : SRc C_LineLine D0 n.Lines p c) (hs_1 : SRc C_LineLoop D0 n.Loops p_1 c_1) (hs_2 : SRc C_int D0 bits p_2 c_2) (hG : Glob D0) (out : Bool) (h : remontoirlaw06_LineTrue n bits = some out) : Calls Tryd.prog 6 [.agg #[.int .i64 n.Exchanges, .slice p n.Lines.length c, .int .i64 n.Hops, .slice p_1 n.Loops.length c_1], .slice p_2 bits.length c_2].toArray w0 (RetP D0 w0 (.bool out)) := by
 refine enter _ 127 Tryd.func6 rfl Tryd.ntmps6 rfl fun a hF => ?_
 replace hF : Frm 127 [] [(0, .agg #[.int .i64 n.Exchanges, .slice p n.Lines.length c, .int .i64 n.Hops, .slice p_1 n.Loops.length c_1]), (1, .slice p_2 bits.length c_2)] a := hF
 have hS := St.start hD
 unfold remontoirlaw06_LineTrue at h
 refine seq (region (O.box (cs := [.int .i64 n.Exchanges, .slice p n.Lines.length c, .int .i64 n.Hops, .slice p_1 n.Loops.length c_1]) 1 hF rfl rfl hS rfl fun b a w hF hS => step hF (Y.assign hF rfl) rfl fun a hF => nil (then_n (seq (seq (region (step hF (Y.loadNL 1 sz_25 hF rfl hS rfl rfl rfl) rfl fun a hF => ?_)))))))
 obtain ⟨rv, hx, h⟩ := bind_some h
 refine O.callP (us := [.agg #[.int .i64 n.Exchanges, .slice p n.Lines.length c, .int .i64 n.Hops, .slice p_1 n.Loops.length c_1]]) ca_34 hF hS (remontoirlaw06_sound_ok hS.stab n hs hs_1 rv hx) rfl rfl fun a w hF hS => step hF (Y.not hF rfl) rfl fun a hF => nil (then_n (cond_b hF rfl (fun hbv => ?_) (fun hbv => ?_)))
 ·replace h := cond_t h hbv
  refine seq (region ?_)
  obtain ⟨rv_1, hx_1, h⟩ := bind_some h
  refine O.callP (us := []) ca_23 hF hS (remontoirlaw06_works_ok hS.stab hG rv_1 hx_1) rfl rfl fun a w hF hS => step hF (Y.assign hF rfl) rfl fun a hF => nil (then_n (ret_ (then_r ?_)))
  obtain rfl := some_inj h
  exact leaveP Tryd.results6 hF hS (.cons (.tmp rfl) .nil) .nil rfl
 replace h := cond_f h hbv
 refine skip_ (then_n (seq (region (step hF (Y.loadNL 1 sz_25 hF rfl hS rfl rfl rfl) rfl fun a hF => step hF (Y.move hF rfl) rfl fun a hF => ?_))))
 obtain ⟨rv_2, hx_2, h⟩ := bind_some h
 refine O.callS (us := [.agg #[.int .i64 n.Exchanges, .slice p n.Lines.length c, .int .i64 n.Hops, .slice p_1 n.Loops.length c_1], .slice p_2 bits.length c_2]) ca_35 hF hS (remontoirlaw06_gone_ok hS.stab n bits hs hs_1 hs_2 rv_2 hx_2) rfl rfl fun v Dv a w hR hlev hF hS => ?_
 replace hs := hs.mono hlev
 replace hs_1 := hs_1.mono hlev
 replace hs_2 := hs_2.mono hlev
 replace hG := hG.mono hlev
 obtain ⟨p_3, c_3, rfl, hs_3⟩ := hR
 refine step hF (Y.move hF rfl) rfl fun a hF => step hF (Y.extract hF rfl rfl) rfl fun a hF => step hF (Y.extract hF rfl rfl) rfl fun a hF => step hF (Y.assign hF rfl) rfl fun a hF => step hF (Y.assign hF rfl) rfl fun a hF => nil (then_n (seq (region (step hF (Y.loadNL 1 sz_25 hF rfl hS rfl rfl rfl) rfl fun a hF => step hF (Y.move hF rfl) rfl fun a hF => step hF (Y.move hF rfl) rfl fun a hF => step hF (Y.move hF rfl) rfl fun a hF => ?_))))
 obtain ⟨rv_3, hx_3, h⟩ := bind_some h
 refine O.callS (us := [.agg #[.int .i64 n.Exchanges, .slice p n.Lines.length c, .int .i64 n.Hops, .slice p_1 n.Loops.length c_1], .slice p_3 rv_2.1.length c_3, .int .i64 rv_2.2, .slice p_2 bits.length c_2]) ca_36 hF hS (remontoirlaw06_sent_ok hS.stab n rv_2.1 rv_2.2 bits hs hs_1 hs_3 hs_2 rv_3 hx_3) rfl rfl fun v_1 Dv_1 a w hR_1 hlev_1 hF hS => ?_
 replace hG := hG.mono hlev_1
 replace hs_3 := hs_3.mono hlev_1
 obtain ⟨p_4, c_4, p_5, c_5, rfl, hs_4, hs_5⟩ := hR_1
 refine step hF (Y.move hF rfl) rfl fun a hF => step hF (Y.extract hF rfl rfl) rfl fun a hF => step hF (Y.extract hF rfl rfl) rfl fun a hF => O.alloc 2 zc_25 hF hS rfl fun b_1 a w hF hS => O.store (us := [.int .i64 rv_3.1.Exchanges, .slice p_4 rv_3.1.Lines.length c_4, .int .i64 rv_3.1.Hops, .slice p_5 rv_3.1.Loops.length c_5]) 2 sz_25 hF rfl rfl rfl rfl hS rfl rfl fun a w hF hS => step hF (Y.assign hF rfl) rfl fun a hF => nil (then_n (seq (region (step hF (Y.loadNL 2 sz_25 hF rfl hS rfl rfl rfl) rfl fun a hF => step hF (Y.move hF rfl) rfl fun a hF => ?_))))
 obtain ⟨rv_4, hx_4, h⟩ := bind_some h
 refine O.callS (us := [.agg #[.int .i64 rv_3.1.Exchanges, .slice p_4 rv_3.1.Lines.length c_4, .int .i64 rv_3.1.Hops, .slice p_5 rv_3.1.Loops.length c_5], .int .i64 rv_2.2]) ca_15 hF hS (line_Routes_ok hS.stab rv_3.1 rv_2.2 hs_4 hs_5 hG rv_4 hx_4) rfl rfl fun v_2 Dv_2 a w hR_2 hlev_2 hF hS => ?_
 replace hG := hG.mono hlev_2
 replace hs_3 := hs_3.mono hlev_2
 replace hs_4 := hs_4.mono hlev_2
 replace hs_5 := hs_5.mono hlev_2
 obtain ⟨p_6, c_6, rfl, hs_6⟩ := hR_2
 refine step hF (Y.move hF rfl) rfl fun a hF => step hF (Y.extract hF rfl rfl) rfl fun a hF => step hF (Y.extract hF rfl rfl) rfl fun a hF => step hF (Y.assign hF rfl) rfl fun a hF => step hF (Y.assign hF rfl) rfl fun a hF => nil (then_n (seq (region (step hF (Y.loadNL 2 sz_25 hF rfl hS rfl rfl rfl) rfl fun a hF => step hF (Y.move hF rfl) rfl fun a hF => ?_))))
 obtain ⟨rv_5, hx_5, h⟩ := bind_some h
 refine O.callP (us := [.agg #[.int .i64 rv_3.1.Exchanges, .slice p_4 rv_3.1.Lines.length c_4, .int .i64 rv_3.1.Hops, .slice p_5 rv_3.1.Loops.length c_5], .int .i64 rv_2.2]) ca_24 hF hS (line_Delay_ok hS.stab rv_3.1 rv_2.2 hs_4 hs_5 hG rv_5 hx_5) rfl rfl fun a w hF hS => step hF (Y.move hF rfl) rfl fun a hF => step hF (Y.extract hF rfl rfl) rfl fun a hF => step hF (Y.extract hF rfl rfl) rfl fun a hF => O.alloc 3 zc_40 hF hS rfl fun b_2 a w hF hS => O.store (us := [.int .i64 rv_5.1.Low, .int .i64 rv_5.1.High]) 3 sz_40 hF rfl rfl rfl rfl hS rfl rfl fun a w hF hS => step hF (Y.assign hF rfl) rfl fun a hF => nil (then_n (seq (region (step hF (Y.loadNL 2 sz_25 hF rfl hS rfl rfl rfl) rfl fun a hF => step hF (Y.move hF rfl) rfl fun a hF => step hF (Y.move hF rfl) rfl fun a hF => ?_))))
 obtain ⟨rv_6, hx_6, h⟩ := bind_some h
 refine O.callP (us := [.agg #[.int .i64 rv_3.1.Exchanges, .slice p_4 rv_3.1.Lines.length c_4, .int .i64 rv_3.1.Hops, .slice p_5 rv_3.1.Loops.length c_5], .int .i64 rv_2.2, .int .i64 rv_3.2]) ca_26 hF hS (line_Can_ok hS.stab rv_3.1 rv_2.2 rv_3.2 hs_4 hs_5 hG rv_6 hx_6) rfl rfl fun a w hF hS => step hF (Y.move hF rfl) rfl fun a hF => step hF (Y.extract hF rfl rfl) rfl fun a hF => step hF (Y.extract hF rfl rfl) rfl fun a hF => step hF (Y.assign hF rfl) rfl fun a hF => step hF (Y.assign hF rfl) rfl fun a hF => nil (then_n (seq (region (step hF (Y.loadNL 2 sz_25 hF rfl hS rfl rfl rfl) rfl fun a hF => step hF (Y.move hF rfl) rfl fun a hF => ?_))))
 obtain ⟨rv_7, hx_7, h⟩ := bind_some h
 refine O.callP (us := [.agg #[.int .i64 rv_3.1.Exchanges, .slice p_4 rv_3.1.Lines.length c_4, .int .i64 rv_3.1.Hops, .slice p_5 rv_3.1.Loops.length c_5], .int .i64 rv_2.2]) ca_28 hF hS (line_Correct_ok hS.stab rv_3.1 rv_2.2 hs_4 hs_5 hG rv_7 hx_7) rfl rfl fun a w hF hS => step hF (Y.move hF rfl) rfl fun a hF => step hF (Y.extract hF rfl rfl) rfl fun a hF => step hF (Y.extract hF rfl rfl) rfl fun a hF => step hF (Y.extract hF rfl rfl) rfl fun a hF => step hF (Y.assign hF rfl) rfl fun a hF => step hF (Y.assign hF rfl) rfl fun a hF => step hF (Y.assign hF rfl) rfl fun a hF => nil (then_n (seq (region (step hF (Y.loadNL 2 sz_25 hF rfl hS rfl rfl rfl) rfl fun a hF => step hF (Y.move hF rfl) rfl fun a hF => ?_))))
 obtain ⟨rv_8, hx_8, h⟩ := bind_some h
 refine O.callS (us := [.agg #[.int .i64 rv_3.1.Exchanges, .slice p_4 rv_3.1.Lines.length c_4, .int .i64 rv_3.1.Hops, .slice p_5 rv_3.1.Loops.length c_5], .int .i64 rv_2.2]) ca_20 hF hS (line_Surely_ok hS.stab rv_3.1 rv_2.2 hs_4 hs_5 hG rv_8 hx_8) rfl rfl fun v_3 Dv_3 a w hR_3 hlev_3 hF hS => ?_
 replace hG := hG.mono hlev_3
 replace hs_3 := hs_3.mono hlev_3
 replace hs_6 := hs_6.mono hlev_3
 obtain ⟨p_7, c_7, rfl, hs_7⟩ := hR_3
 refine step hF (Y.move hF rfl) rfl fun a hF => step hF (Y.extract hF rfl rfl) rfl fun a hF => step hF (Y.extract hF rfl rfl) rfl fun a hF => step hF (Y.assign hF rfl) rfl fun a hF => step hF (Y.assign hF rfl) rfl fun a hF => nil (then_n (seq (seq (region (step hF (Y.move hF rfl) rfl fun a hF => step hF (Y.neq hF rfl rfl) rfl fun a hF => step hF (Y.move hF rfl) rfl fun a hF => join (N := 127) (rs := []) (w0 := w0) (D0 := D0) 3 (us := [(4, .bool false), (5, .slice p_3 rv_2.1.length c_3), (8, .int .i64 rv_3.2), (9, .slice p_6 rv_4.1.length c_6), (11, .pointer (some ⟨b_2, 0, none⟩)), (13, .bool rv_6.1), (14, .int .i64 rv_6.2), (15, .int .i64 rv_7.1), (16, .int .i64 rv_7.2.1), (17, .int .i64 rv_7.2.2), (18, .slice p_7 rv_8.1.length c_7), (19, .int .i64 rv_8.2), (76, .bool ((rv_4.2 != 0) || (rv_5.2 != 0)))]) (ms := [(1, .cells b [.int .i64 n.Exchanges, .slice p n.Lines.length c, .int .i64 n.Hops, .slice p_1 n.Loops.length c_1] 25), (2, .cells b_1 [.int .i64 rv_3.1.Exchanges, .slice p_4 rv_3.1.Lines.length c_4, .int .i64 rv_3.1.Hops, .slice p_5 rv_3.1.Loops.length c_5] 25), (3, .cells b_2 [.int .i64 rv_5.1.Low, .int .i64 rv_5.1.High] 40)]) (D' := Dv_3) ?_ ?_)))))
 ·rcases bcases (rv_4.2 != 0) with hbv_1 | hbv_1
  ·skip
   refine guard_off hF rfl rfl hbv_1 rfl fun a hF => guard_off hF rfl rfl hbv_1 rfl fun a hF => step hF (Y.pick_t hF rfl hbv_1 rfl) rfl fun a hF => nil (then_n ⟨hF.weak ⟨rfl, rfl, rfl, rfl, rfl, rfl, rfl, rfl, rfl, rfl, rfl, rfl, (by rw [hbv_1]; rfl), trivial⟩, hS.weak ⟨rfl, rfl, rfl, trivial⟩⟩)
  refine guard_on hF rfl rfl hbv_1 (step hF (Y.move hF rfl) rfl fun a hF => guard_on hF rfl rfl hbv_1 (step hF (Y.neq hF rfl rfl) rfl fun a hF => step hF (Y.pick_f hF rfl hbv_1 rfl) rfl fun a hF => nil (then_n ⟨hF.weak ⟨rfl, rfl, rfl, rfl, rfl, rfl, rfl, rfl, rfl, rfl, rfl, rfl, (by rw [hbv_1]; rfl), trivial⟩, hS.weak ⟨rfl, rfl, rfl, trivial⟩⟩)))
 intro a w hF hS
 refine step hF (Y.move hF rfl) rfl fun a hF => join (N := 127) (rs := []) (w0 := w0) (D0 := D0) 3 (us := [(4, .bool false), (5, .slice p_3 rv_2.1.length c_3), (8, .int .i64 rv_3.2), (9, .slice p_6 rv_4.1.length c_6), (11, .pointer (some ⟨b_2, 0, none⟩)), (13, .bool rv_6.1), (15, .int .i64 rv_7.1), (16, .int .i64 rv_7.2.1), (17, .int .i64 rv_7.2.2), (18, .slice p_7 rv_8.1.length c_7), (19, .int .i64 rv_8.2), (80, .bool (((rv_4.2 != 0) || (rv_5.2 != 0)) || (rv_6.2 != 0)))]) (ms := [(1, .cells b [.int .i64 n.Exchanges, .slice p n.Lines.length c, .int .i64 n.Hops, .slice p_1 n.Loops.length c_1] 25), (2, .cells b_1 [.int .i64 rv_3.1.Exchanges, .slice p_4 rv_3.1.Lines.length c_4, .int .i64 rv_3.1.Hops, .slice p_5 rv_3.1.Loops.length c_5] 25), (3, .cells b_2 [.int .i64 rv_5.1.Low, .int .i64 rv_5.1.High] 40)]) (D' := Dv_3) ?_ ?_
 ·rcases bcases ((rv_4.2 != 0) || (rv_5.2 != 0)) with hbv_2 | hbv_2
  ·skip
   refine guard_off hF rfl rfl hbv_2 rfl fun a hF => guard_off hF rfl rfl hbv_2 rfl fun a hF => step hF (Y.pick_t hF rfl hbv_2 rfl) rfl fun a hF => nil (then_n ⟨hF.weak ⟨rfl, rfl, rfl, rfl, rfl, rfl, rfl, rfl, rfl, rfl, rfl, (by rw [hbv_2]; rfl), trivial⟩, hS.weak ⟨rfl, rfl, rfl, trivial⟩⟩)
  refine guard_on hF rfl rfl hbv_2 (step hF (Y.move hF rfl) rfl fun a hF => guard_on hF rfl rfl hbv_2 (step hF (Y.neq hF rfl rfl) rfl fun a hF => step hF (Y.pick_f hF rfl hbv_2 rfl) rfl fun a hF => nil (then_n ⟨hF.weak ⟨rfl, rfl, rfl, rfl, rfl, rfl, rfl, rfl, rfl, rfl, rfl, (by rw [hbv_2]; rfl), trivial⟩, hS.weak ⟨rfl, rfl, rfl, trivial⟩⟩)))
 intro a w hF hS
 refine step hF (Y.move hF rfl) rfl fun a hF => join (N := 127) (rs := []) (w0 := w0) (D0 := D0) 3 (us := [(4, .bool false), (5, .slice p_3 rv_2.1.length c_3), (8, .int .i64 rv_3.2), (9, .slice p_6 rv_4.1.length c_6), (11, .pointer (some ⟨b_2, 0, none⟩)), (13, .bool rv_6.1), (15, .int .i64 rv_7.1), (16, .int .i64 rv_7.2.1), (18, .slice p_7 rv_8.1.length c_7), (19, .int .i64 rv_8.2), (84, .bool ((((rv_4.2 != 0) || (rv_5.2 != 0)) || (rv_6.2 != 0)) || (rv_7.2.2 != 0)))]) (ms := [(1, .cells b [.int .i64 n.Exchanges, .slice p n.Lines.length c, .int .i64 n.Hops, .slice p_1 n.Loops.length c_1] 25), (2, .cells b_1 [.int .i64 rv_3.1.Exchanges, .slice p_4 rv_3.1.Lines.length c_4, .int .i64 rv_3.1.Hops, .slice p_5 rv_3.1.Loops.length c_5] 25), (3, .cells b_2 [.int .i64 rv_5.1.Low, .int .i64 rv_5.1.High] 40)]) (D' := Dv_3) ?_ ?_
 ·rcases bcases (((rv_4.2 != 0) || (rv_5.2 != 0)) || (rv_6.2 != 0)) with hbv_3 | hbv_3
  ·skip
   refine guard_off hF rfl rfl hbv_3 rfl fun a hF => guard_off hF rfl rfl hbv_3 rfl fun a hF => step hF (Y.pick_t hF rfl hbv_3 rfl) rfl fun a hF => nil (then_n ⟨hF.weak ⟨rfl, rfl, rfl, rfl, rfl, rfl, rfl, rfl, rfl, rfl, (by rw [hbv_3]; rfl), trivial⟩, hS.weak ⟨rfl, rfl, rfl, trivial⟩⟩)
  refine guard_on hF rfl rfl hbv_3 (step hF (Y.move hF rfl) rfl fun a hF => guard_on hF rfl rfl hbv_3 (step hF (Y.neq hF rfl rfl) rfl fun a hF => step hF (Y.pick_f hF rfl hbv_3 rfl) rfl fun a hF => nil (then_n ⟨hF.weak ⟨rfl, rfl, rfl, rfl, rfl, rfl, rfl, rfl, rfl, rfl, (by rw [hbv_3]; rfl), trivial⟩, hS.weak ⟨rfl, rfl, rfl, trivial⟩⟩)))
 intro a w hF hS
 refine step hF (Y.move hF rfl) rfl fun a hF => join (N := 127) (rs := []) (w0 := w0) (D0 := D0) 3 (us := [(4, .bool false), (5, .slice p_3 rv_2.1.length c_3), (8, .int .i64 rv_3.2), (9, .slice p_6 rv_4.1.length c_6), (11, .pointer (some ⟨b_2, 0, none⟩)), (13, .bool rv_6.1), (15, .int .i64 rv_7.1), (16, .int .i64 rv_7.2.1), (18, .slice p_7 rv_8.1.length c_7), (88, .bool (((((rv_4.2 != 0) || (rv_5.2 != 0)) || (rv_6.2 != 0)) || (rv_7.2.2 != 0)) || (rv_8.2 != 0)))]) (ms := [(1, .cells b [.int .i64 n.Exchanges, .slice p n.Lines.length c, .int .i64 n.Hops, .slice p_1 n.Loops.length c_1] 25), (2, .cells b_1 [.int .i64 rv_3.1.Exchanges, .slice p_4 rv_3.1.Lines.length c_4, .int .i64 rv_3.1.Hops, .slice p_5 rv_3.1.Loops.length c_5] 25), (3, .cells b_2 [.int .i64 rv_5.1.Low, .int .i64 rv_5.1.High] 40)]) (D' := Dv_3) ?_ ?_
 ·rcases bcases ((((rv_4.2 != 0) || (rv_5.2 != 0)) || (rv_6.2 != 0)) || (rv_7.2.2 != 0)) with hbv_4 | hbv_4
  ·skip
   refine guard_off hF rfl rfl hbv_4 rfl fun a hF => guard_off hF rfl rfl hbv_4 rfl fun a hF => step hF (Y.pick_t hF rfl hbv_4 rfl) rfl fun a hF => nil (then_n ⟨hF.weak ⟨rfl, rfl, rfl, rfl, rfl, rfl, rfl, rfl, rfl, (by rw [hbv_4]; rfl), trivial⟩, hS.weak ⟨rfl, rfl, rfl, trivial⟩⟩)
  refine guard_on hF rfl rfl hbv_4 (step hF (Y.move hF rfl) rfl fun a hF => guard_on hF rfl rfl hbv_4 (step hF (Y.neq hF rfl rfl) rfl fun a hF => step hF (Y.pick_f hF rfl hbv_4 rfl) rfl fun a hF => nil (then_n ⟨hF.weak ⟨rfl, rfl, rfl, rfl, rfl, rfl, rfl, rfl, rfl, (by rw [hbv_4]; rfl), trivial⟩, hS.weak ⟨rfl, rfl, rfl, trivial⟩⟩)))
 intro a w hF hS
 refine step hF (Y.move hF rfl) rfl fun a hF => ?_
 obtain ⟨t, ht, h⟩ := bind_some h
 refine join (N := 127) (rs := []) (w0 := w0) (D0 := D0) 5 (us := [(4, .bool false), (5, .slice p_3 rv_2.1.length c_3), (8, .int .i64 rv_3.2), (11, .pointer (some ⟨b_2, 0, none⟩)), (13, .bool rv_6.1), (15, .int .i64 rv_7.1), (16, .int .i64 rv_7.2.1), (18, .slice p_7 rv_8.1.length c_7), (94, .bool t)]) (ms := [(1, .cells b [.int .i64 n.Exchanges, .slice p n.Lines.length c, .int .i64 n.Hops, .slice p_1 n.Loops.length c_1] 25), (2, .cells b_1 [.int .i64 rv_3.1.Exchanges, .slice p_4 rv_3.1.Lines.length c_4, .int .i64 rv_3.1.Hops, .slice p_5 rv_3.1.Loops.length c_5] 25), (3, .cells b_2 [.int .i64 rv_5.1.Low, .int .i64 rv_5.1.High] 40)]) (D' := Dv_3) ?_ ?_
 ·rcases bcases (((((rv_4.2 != 0) || (rv_5.2 != 0)) || (rv_6.2 != 0)) || (rv_7.2.2 != 0)) || (rv_8.2 != 0)) with hbv_5 | hbv_5
  ·skip
   replace h := cond_t ht hbv_5
   refine guard_off hF rfl rfl hbv_5 rfl fun a hF => guard_off hF rfl rfl hbv_5 rfl fun a hF => guard_off hF rfl rfl hbv_5 rfl fun a hF => guard_off hF rfl rfl hbv_5 rfl fun a hF => step hF (Y.pick_t hF rfl hbv_5 rfl) rfl fun a hF => ?_
   obtain rfl := some_inj h
   exact nil (then_n ⟨hF.weak ⟨rfl, rfl, rfl, rfl, rfl, rfl, rfl, rfl, rfl, trivial⟩, hS.weak ⟨rfl, rfl, rfl, trivial⟩⟩)
  replace h := cond_f ht hbv_5
  refine guard_on hF rfl rfl hbv_5 (step hF (Y.move hF rfl) rfl fun a hF => guard_on hF rfl rfl hbv_5 (step hF (Y.move hF rfl) rfl fun a hF => guard_on hF rfl rfl hbv_5 ?_))
  obtain ⟨rv_9, hx_9, h⟩ := bind_some h
  refine O.callP (us := [.slice p_6 rv_4.1.length c_6, .slice p_3 rv_2.1.length c_3]) ca_37 hF hS (remontoirlaw06_has_ok hS.stab rv_4.1 rv_2.1 hs_6 hs_3 rv_9 hx_9) rfl rfl fun a w hF hS => guard_on hF rfl rfl hbv_5 (step hF (Y.not hF rfl) rfl fun a hF => step hF (Y.pick_f hF rfl hbv_5 rfl) rfl fun a hF => ?_)
  obtain rfl := some_inj h
  exact nil (then_n ⟨hF.weak ⟨rfl, rfl, rfl, rfl, rfl, rfl, rfl, rfl, rfl, trivial⟩, hS.weak ⟨rfl, rfl, rfl, trivial⟩⟩)
 intro a w hF hS
 refine step hF (Y.move hF rfl) rfl fun a hF => join (N := 127) (rs := []) (w0 := w0) (D0 := D0) 3 (us := [(4, .bool false), (5, .slice p_3 rv_2.1.length c_3), (8, .int .i64 rv_3.2), (11, .pointer (some ⟨b_2, 0, none⟩)), (15, .int .i64 rv_7.1), (16, .int .i64 rv_7.2.1), (18, .slice p_7 rv_8.1.length c_7), (98, .bool (t || (!rv_6.1)))]) (ms := [(1, .cells b [.int .i64 n.Exchanges, .slice p n.Lines.length c, .int .i64 n.Hops, .slice p_1 n.Loops.length c_1] 25), (2, .cells b_1 [.int .i64 rv_3.1.Exchanges, .slice p_4 rv_3.1.Lines.length c_4, .int .i64 rv_3.1.Hops, .slice p_5 rv_3.1.Loops.length c_5] 25), (3, .cells b_2 [.int .i64 rv_5.1.Low, .int .i64 rv_5.1.High] 40)]) (D' := Dv_3) ?_ ?_
 ·rcases bcases t with hbv_6 | hbv_6
  ·skip
   refine guard_off hF rfl rfl hbv_6 rfl fun a hF => guard_off hF rfl rfl hbv_6 rfl fun a hF => step hF (Y.pick_t hF rfl hbv_6 rfl) rfl fun a hF => nil (then_n ⟨hF.weak ⟨rfl, rfl, rfl, rfl, rfl, rfl, rfl, (by rw [hbv_6]; rfl), trivial⟩, hS.weak ⟨rfl, rfl, rfl, trivial⟩⟩)
  refine guard_on hF rfl rfl hbv_6 (step hF (Y.move hF rfl) rfl fun a hF => guard_on hF rfl rfl hbv_6 (step hF (Y.not hF rfl) rfl fun a hF => step hF (Y.pick_f hF rfl hbv_6 rfl) rfl fun a hF => nil (then_n ⟨hF.weak ⟨rfl, rfl, rfl, rfl, rfl, rfl, rfl, (by rw [hbv_6]; rfl), trivial⟩, hS.weak ⟨rfl, rfl, rfl, trivial⟩⟩)))
 intro a w hF hS
 refine step hF (Y.move hF rfl) rfl fun a hF => ?_
 obtain ⟨t_1, ht_1, h⟩ := bind_some h
 refine join (N := 127) (rs := []) (w0 := w0) (D0 := D0) 5 (us := [(4, .bool false), (5, .slice p_3 rv_2.1.length c_3), (8, .int .i64 rv_3.2), (15, .int .i64 rv_7.1), (16, .int .i64 rv_7.2.1), (18, .slice p_7 rv_8.1.length c_7), (104, .bool t_1)]) (ms := [(1, .cells b [.int .i64 n.Exchanges, .slice p n.Lines.length c, .int .i64 n.Hops, .slice p_1 n.Loops.length c_1] 25), (2, .cells b_1 [.int .i64 rv_3.1.Exchanges, .slice p_4 rv_3.1.Lines.length c_4, .int .i64 rv_3.1.Hops, .slice p_5 rv_3.1.Loops.length c_5] 25), (3, .cells b_2 [.int .i64 rv_5.1.Low, .int .i64 rv_5.1.High] 40)]) (D' := Dv_3) ?_ ?_
 ·rcases bcases (t || (!rv_6.1)) with hbv_7 | hbv_7
  ·skip
   replace h := cond_t ht_1 hbv_7
   refine guard_off hF rfl rfl hbv_7 rfl fun a hF => guard_off hF rfl rfl hbv_7 rfl fun a hF => guard_off hF rfl rfl hbv_7 rfl fun a hF => guard_off hF rfl rfl hbv_7 rfl fun a hF => step hF (Y.pick_t hF rfl hbv_7 rfl) rfl fun a hF => ?_
   obtain rfl := some_inj h
   exact nil (then_n ⟨hF.weak ⟨rfl, rfl, rfl, rfl, rfl, rfl, rfl, trivial⟩, hS.weak ⟨rfl, rfl, rfl, trivial⟩⟩)
  replace h := cond_f ht_1 hbv_7
  refine guard_on hF rfl rfl hbv_7 (step hF (Y.loadNL 3 sz_40 hF rfl hS rfl rfl rfl) rfl fun a hF => guard_on hF rfl rfl hbv_7 (step hF (Y.move hF rfl) rfl fun a hF => guard_on hF rfl rfl hbv_7 ?_))
  obtain ⟨rv_10, hx_10, h⟩ := bind_some h
  refine O.callP (us := [.agg #[.int .i64 rv_5.1.Low, .int .i64 rv_5.1.High], .int .i64 rv_3.2]) ca_38 hF hS (r0Has_ok hS.stab rv_5.1 rv_3.2 rv_10 hx_10) rfl rfl fun a w hF hS => guard_on hF rfl rfl hbv_7 (step hF (Y.not hF rfl) rfl fun a hF => step hF (Y.pick_f hF rfl hbv_7 rfl) rfl fun a hF => ?_)
  obtain rfl := some_inj h
  exact nil (then_n ⟨hF.weak ⟨rfl, rfl, rfl, rfl, rfl, rfl, rfl, trivial⟩, hS.weak ⟨rfl, rfl, rfl, trivial⟩⟩)
 intro a w hF hS
 refine step hF (Y.move hF rfl) rfl fun a hF => ?_
 obtain ⟨t_2, ht_2, h⟩ := bind_some h
 refine join (N := 127) (rs := []) (w0 := w0) (D0 := D0) 7 (us := [(4, .bool false), (5, .slice p_3 rv_2.1.length c_3), (18, .slice p_7 rv_8.1.length c_7), (112, .bool t_2)]) (ms := [(1, .cells b [.int .i64 n.Exchanges, .slice p n.Lines.length c, .int .i64 n.Hops, .slice p_1 n.Loops.length c_1] 25), (2, .cells b_1 [.int .i64 rv_3.1.Exchanges, .slice p_4 rv_3.1.Lines.length c_4, .int .i64 rv_3.1.Hops, .slice p_5 rv_3.1.Loops.length c_5] 25), (3, .cells b_2 [.int .i64 rv_5.1.Low, .int .i64 rv_5.1.High] 40)]) (D' := Dv_3) ?_ ?_
 ·rcases bcases t_1 with hbv_8 | hbv_8
  ·skip
   replace h := cond_t ht_2 hbv_8
   refine guard_off hF rfl rfl hbv_8 rfl fun a hF => guard_off hF rfl rfl hbv_8 rfl fun a hF => guard_off hF rfl rfl hbv_8 rfl fun a hF => guard_off hF rfl rfl hbv_8 rfl fun a hF => guard_off hF rfl rfl hbv_8 rfl fun a hF => guard_off hF rfl rfl hbv_8 rfl fun a hF => step hF (Y.pick_t hF rfl hbv_8 rfl) rfl fun a hF => ?_
   obtain rfl := some_inj h
   exact nil (then_n ⟨hF.weak ⟨rfl, rfl, rfl, rfl, trivial⟩, hS.weak ⟨rfl, rfl, rfl, trivial⟩⟩)
  replace h := cond_f ht_2 hbv_8
  refine guard_on hF rfl rfl hbv_8 (step hF (Y.move hF rfl) rfl fun a hF => guard_on hF rfl rfl hbv_8 (step hF (Y.move hF rfl) rfl fun a hF => guard_on hF rfl rfl hbv_8 (step hF (Y.sub hF rfl rfl) rfl fun a hF => guard_on hF rfl rfl hbv_8 ?_)))
  obtain ⟨rv_11, hx_11, h⟩ := bind_some h
  refine O.callP (us := [.int .i64 (wr (rv_7.1 - rv_3.2))]) ca_39 hF hS (r0Size_ok hS.stab (wr (rv_7.1 - rv_3.2)) rv_11 hx_11) rfl rfl fun a w hF hS => guard_on hF rfl rfl hbv_8 (step hF (Y.move hF rfl) rfl fun a hF => guard_on hF rfl rfl hbv_8 (step hF (Y.gtr hF rfl rfl) rfl fun a hF => step hF (Y.pick_f hF rfl hbv_8 rfl) rfl fun a hF => ?_))
  obtain rfl := some_inj h
  exact nil (then_n ⟨hF.weak ⟨rfl, rfl, rfl, rfl, trivial⟩, hS.weak ⟨rfl, rfl, rfl, trivial⟩⟩)
 intro a w hF hS
 refine nil (then_n (cond_b hF rfl (fun hbv_9 => ?_) (fun hbv_9 => ?_)))
 ·replace h := cond_t h hbv_9
  refine seq (region (step hF (Y.assign hF rfl) rfl fun a hF => nil (then_n (ret_ (then_r ?_)))))
  obtain rfl := some_inj h
  exact leaveP Tryd.results6 hF hS (.cons (.tmp rfl) .nil) .nil rfl
 replace h := cond_f h hbv_9
 refine skip_ (then_n (seq (seq (region (step hF (Y.assign hF rfl) rfl fun a hF => nil (then_n (block (loop_cut (body := remontoirlaw06_LineTrue_b1 rv_2 rv_8) (out := out) (fun s a w => ∃ (v4_0 : Bool) (k : Int), ∃ (Dv_4 : Stab), s = (v4_0, k) ∧ Dv_3.le Dv_4 ∧ Frm 127 [] [(4, .bool v4_0), (5, .slice p_3 rv_2.1.length c_3), (18, .slice p_7 rv_8.1.length c_7), (20, .int .i64 k)] a ∧ St w0 D0 Dv_4 [(1, .cells b [.int .i64 n.Exchanges, .slice p n.Lines.length c, .int .i64 n.Hops, .slice p_1 n.Loops.length c_1] 25), (2, .cells b_1 [.int .i64 rv_3.1.Exchanges, .slice p_4 rv_3.1.Lines.length c_4, .int .i64 rv_3.1.Hops, .slice p_5 rv_3.1.Loops.length c_5] 25), (3, .cells b_2 [.int .i64 rv_5.1.Low, .int .i64 rv_5.1.High] 40)] w) (false, 0) h ⟨false, 0, Dv_3, rfl, Stab.le.refl _, hF.weak ⟨rfl, rfl, rfl, rfl, trivial⟩, hS.weak ⟨rfl, rfl, rfl, trivial⟩⟩ ?_))))))))
 rintro s a w xo ⟨v4_0, k, Dv_4, rfl, hlev_4, hF, hS⟩ h hxo
 unfold remontoirlaw06_LineTrue_b1 at h
 dsimp only at h
 replace hG := hG.mono hlev_4
 replace hs_3 := hs_3.mono hlev_4
 replace hs_7 := hs_7.mono hlev_4
 refine seq (seq (region (step hF (Y.move hF rfl) rfl fun a hF => step hF (Y.move hF rfl) rfl fun a hF => step hF (Y.lenSl u_32 hF rfl) rfl fun a hF => step hF (Y.lss hF rfl rfl) rfl fun a hF => nil (then_n (cond_b hF rfl (fun hbv_10 => ?_) (fun hbv_10 => ?_))))))
 ·replace h := cond_t h hbv_10
  refine skip_ (then_n (seq (block (seq (region (step hF (Y.move hF rfl) rfl fun a hF => step hF (Y.move hF rfl) rfl fun a hF => step hF (Y.move hF rfl) rfl fun a hF => ?_))))))
  obtain ⟨e, hx_12, h⟩ := bind_some h
  obtain ⟨b_3, o, hE, hY⟩ := Y.indexS (P := Tryd.prog) (C := C_int) (xs := rv_8.1) (T := 32) (x := (.tmp 120)) (y := (.tmp 121)) u_32 sz_3 hF rfl rfl (hs_7).1 hx_12
  obtain ⟨cc, hc, hcell⟩ := hE.open
  obtain rfl := hc
  refine step hF (hY) rfl fun a hF => step hF (Y.load1 sz_3 hF rfl (hcell _ hS.stab 0 _ rfl)) rfl fun a hF => ?_
  obtain ⟨rv_12, hx_13, h⟩ := bind_some h
  refine O.callP (us := [.slice p_3 rv_2.1.length c_3, .int .i64 e]) ca_40 hF hS (r0Find_ok hS.stab rv_2.1 e hs_3 rv_12 hx_13) rfl rfl fun a w hF hS => step hF (Y.lss hF rfl rfl) rfl fun a hF => nil (then_n (cond_b hF rfl (fun hbv_11 => ?_) (fun hbv_11 => ?_)))
  ·replace h := cond_t h hbv_11
   refine seq (region (step hF (Y.assign hF rfl) rfl fun a hF => nil (then_n (ret_ (blk_r (then_r (then_r (blk_r (then_r ?_)))))))))
   replace h := ext_some h hxo
   obtain rfl := some_inj h
   exact leaveP Tryd.results6 hF hS (.cons (.tmp rfl) .nil) .nil rfl
  replace h := cond_f h hbv_11
  refine skip_ (blk_n (then_n (region (step hF (Y.move hF rfl) rfl fun a hF => step hF (Y.add hF rfl rfl) rfl fun a hF => step hF (Y.assign hF rfl) rfl fun a hF => nil (then_n (⟨_, nxt_some h, v4_0, (wr (k + 1)), Dv_4, rfl, hlev_4, hF.weak ⟨rfl, rfl, rfl, rfl, trivial⟩, hS.weak ⟨rfl, rfl, rfl, trivial⟩⟩))))))
 replace h := cond_f h hbv_10
 refine exit_ (then_x (then_x (blk_hit (then_n ?_))))
 replace h := ext_some h hxo
 refine seq (region ?_)
 obtain ⟨rv_13, hx_14, h⟩ := bind_some h
 refine O.callP (us := []) ca_23 hF hS (remontoirlaw06_works_ok hS.stab hG rv_13 hx_14) rfl rfl fun a w hF hS => step hF (Y.assign hF rfl) rfl fun a hF => nil (then_n (ret_ ?_))
 obtain rfl := some_inj h
 exact leaveP Tryd.results6 hF hS (.cons (.tmp rfl) .nil) .nil rfl
end Go.Proofs.YthdbokigcfbgeaaDoor.Rt
