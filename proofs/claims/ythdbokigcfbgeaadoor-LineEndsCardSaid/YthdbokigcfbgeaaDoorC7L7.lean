/- Walks of the functions of this seat: what each Go function comes to, as a Lean function, and the proof. A law. Under no conditions. -/
import Derived.Test.YthdbokigcfbgeaaDoorC7WBZ
set_option linter.unusedVariables false
set_option linter.unusedSimpArgs false
set_option maxRecDepth 100000
set_option maxHeartbeats 4000000
namespace Go.Proofs.YthdbokigcfbgeaaDoor.Rt
open Go Go.RowKit
noncomputable def remontoirlaw06_LineEnds (n : LineNet) (k : Arr3) : Option Bool :=
  (remontoirlaw06_sound n).bind fun rv =>
  cond (!rv)
  ((remontoirlaw06_works).bind fun rv_1 =>
  some rv_1)
  ((r0Rest k.a0 n.Exchanges).bind fun rv_2 =>
  (line_Delay n rv_2).bind fun rv_3 =>
  (line_Correct n rv_2).bind fun rv_4 =>
  cond (rv_3.2 != rv_4.2.2)
  (some false)
  (cond (rv_3.2 != 0)
  ((cond (((((rv_3.2 == 4) || (rv_3.2 == 62)) && ([rv_3.1.Low, rv_3.1.High] == [0, 0])) && (rv_4.1 == 0)) && (rv_4.2.1 == 0)) ((remontoirlaw06_works).bind fun rv_5 =>
  some rv_5) (some false)).bind fun t =>
  some t)
  ((line_Can n rv_2 rv_3.1.Low).bind fun rv_6 =>
  (line_Can n rv_2 rv_3.1.High).bind fun rv_7 =>
  (line_Can n rv_2 k.a2).bind fun rv_8 =>
  (cond (((rv_6.2 != 0) || (rv_7.2 != 0)) || (rv_8.2 != 0)) (some true) ((r0Valid rv_3.1 0 6000).bind fun rv_9 =>
  some (!rv_9))).bind fun t_1 =>
  (cond ((t_1 || (!rv_6.1)) || (!rv_7.1)) (some true) ((cond rv_8.1 ((r0Has rv_3.1 k.a2).bind fun rv_10 =>
  some (!rv_10)) (some false)).bind fun t_2 =>
  some t_2)).bind fun t_3 =>
  cond (t_3 || (decide (rv_4.1 < 0)))
  (some false)
  ((r0Rest k.a1 6001).bind fun rv_11 =>
  (r0Size (wr (rv_11 - rv_3.1.Low))).bind fun rv_12 =>
  (r0Size (wr (rv_3.1.High - rv_11))).bind fun rv_13 =>
  (r0Size (wr (rv_4.1 - rv_3.1.Low))).bind fun rv_14 =>
  (r0Size (wr (rv_3.1.High - rv_4.1))).bind fun rv_15 =>
  (cond (rv_4.2.1 == (if rv_15 > rv_14 then rv_15 else rv_14)) (some (decide ((if rv_13 > rv_12 then rv_13 else rv_12) ≥ rv_4.2.1))) (some false)).bind fun t_4 =>
  (cond t_4 ((cond (decide (rv_11 ≥ rv_4.1)) (some true) (some (decide ((if rv_13 > rv_12 then rv_13 else rv_12) > rv_4.2.1)))).bind fun t_5 =>
  some t_5) (some false)).bind fun t_6 =>
  (cond t_6 ((remontoirlaw06_works).bind fun rv_16 =>
  some rv_16) (some false)).bind fun t_7 =>
  some t_7))))
theorem remontoirlaw06_LineEnds_ok {w0 : World} {D0 : Stab} (hD : D0.on w0) (n : LineNet) (k : Arr3) {p : Option Addr} {c : Nat} {p_1 : Option Addr} {c_1 : Nat} (hs : SRc C_LineLine D0 n.Lines p c) (hs_1 : SRc C_LineLoop D0 n.Loops p_1 c_1) (hG : Glob D0) (out : Bool) (h : remontoirlaw06_LineEnds n k = some out) : Calls Tryd.prog 7 [.agg #[.int .i64 n.Exchanges, .slice p n.Lines.length c, .int .i64 n.Hops, .slice p_1 n.Loops.length c_1], .agg #[.int .i64 k.a0, .int .i64 k.a1, .int .i64 k.a2]].toArray w0 (RetP D0 w0 (.bool out)) := by
 refine enter _ 173 Tryd.func7 rfl Tryd.ntmps7 rfl fun a hF => ?_
 replace hF : Frm 173 [] [(0, .agg #[.int .i64 n.Exchanges, .slice p n.Lines.length c, .int .i64 n.Hops, .slice p_1 n.Loops.length c_1]), (1, .agg #[.int .i64 k.a0, .int .i64 k.a1, .int .i64 k.a2])] a := hF
 have hS := St.start hD
 unfold remontoirlaw06_LineEnds at h
 refine seq (region (O.box (cs := [.int .i64 n.Exchanges, .slice p n.Lines.length c, .int .i64 n.Hops, .slice p_1 n.Loops.length c_1]) 1 hF rfl rfl hS rfl fun b a w hF hS => O.box (cs := [.int .i64 k.a0, .int .i64 k.a1, .int .i64 k.a2]) 2 hF rfl rfl hS rfl fun b_1 a w hF hS => step hF (Y.assign hF rfl) rfl fun a hF => nil (then_n (seq (seq (region (step hF (Y.loadNL 1 sz_25 hF rfl hS rfl rfl rfl) rfl fun a hF => ?_)))))))
 obtain ⟨rv, hx, h⟩ := bind_some h
 refine O.callP (us := [.agg #[.int .i64 n.Exchanges, .slice p n.Lines.length c, .int .i64 n.Hops, .slice p_1 n.Loops.length c_1]]) ca_34 hF hS (remontoirlaw06_sound_ok hS.stab n hs hs_1 rv hx) rfl rfl fun a w hF hS => step hF (Y.not hF rfl) rfl fun a hF => nil (then_n (cond_b hF rfl (fun hbv => ?_) (fun hbv => ?_)))
 ·replace h := cond_t h hbv
  refine seq (region ?_)
  obtain ⟨rv_1, hx_1, h⟩ := bind_some h
  refine O.callP (us := []) ca_23 hF hS (remontoirlaw06_works_ok hS.stab hG rv_1 hx_1) rfl rfl fun a w hF hS => step hF (Y.assign hF rfl) rfl fun a hF => nil (then_n (ret_ (then_r ?_)))
  obtain rfl := some_inj h
  exact leaveP Tryd.results7 hF hS (.cons (.tmp rfl) .nil) .nil rfl
 replace h := cond_f h hbv
 refine skip_ (then_n (seq (region (step hF (Y.indexArr u_61 sz_3 hF rfl rfl (by decide) (by decide)) rfl fun a hF => step hF (Y.load1L 2 sz_3 hF rfl hS rfl rfl) rfl fun a hF => step hF (Y.fieldAddr fo_25_0 hF rfl) rfl fun a hF => step hF (Y.load1L 1 sz_3 hF rfl hS rfl rfl) rfl fun a hF => ?_))))
 obtain ⟨rv_2, hx_2, h⟩ := bind_some h
 refine O.callP (us := [.int .i64 k.a0, .int .i64 n.Exchanges]) ca_41 hF hS (r0Rest_ok hS.stab k.a0 n.Exchanges rv_2 hx_2) rfl rfl fun a w hF hS => step hF (Y.assign hF rfl) rfl fun a hF => nil (then_n (seq (region (step hF (Y.loadNL 1 sz_25 hF rfl hS rfl rfl rfl) rfl fun a hF => step hF (Y.move hF rfl) rfl fun a hF => ?_))))
 obtain ⟨rv_3, hx_3, h⟩ := bind_some h
 refine O.callP (us := [.agg #[.int .i64 n.Exchanges, .slice p n.Lines.length c, .int .i64 n.Hops, .slice p_1 n.Loops.length c_1], .int .i64 rv_2]) ca_24 hF hS (line_Delay_ok hS.stab n rv_2 hs hs_1 hG rv_3 hx_3) rfl rfl fun a w hF hS => step hF (Y.move hF rfl) rfl fun a hF => step hF (Y.extract hF rfl rfl) rfl fun a hF => step hF (Y.extract hF rfl rfl) rfl fun a hF => O.alloc 3 zc_40 hF hS rfl fun b_2 a w hF hS => O.store (us := [.int .i64 rv_3.1.Low, .int .i64 rv_3.1.High]) 3 sz_40 hF rfl rfl rfl rfl hS rfl rfl fun a w hF hS => step hF (Y.assign hF rfl) rfl fun a hF => nil (then_n (seq (region (step hF (Y.loadNL 1 sz_25 hF rfl hS rfl rfl rfl) rfl fun a hF => step hF (Y.move hF rfl) rfl fun a hF => ?_))))
 obtain ⟨rv_4, hx_4, h⟩ := bind_some h
 refine O.callP (us := [.agg #[.int .i64 n.Exchanges, .slice p n.Lines.length c, .int .i64 n.Hops, .slice p_1 n.Loops.length c_1], .int .i64 rv_2]) ca_28 hF hS (line_Correct_ok hS.stab n rv_2 hs hs_1 hG rv_4 hx_4) rfl rfl fun a w hF hS => step hF (Y.move hF rfl) rfl fun a hF => step hF (Y.extract hF rfl rfl) rfl fun a hF => step hF (Y.extract hF rfl rfl) rfl fun a hF => step hF (Y.extract hF rfl rfl) rfl fun a hF => step hF (Y.assign hF rfl) rfl fun a hF => step hF (Y.assign hF rfl) rfl fun a hF => step hF (Y.assign hF rfl) rfl fun a hF => nil (then_n (seq (seq (region (step hF (Y.move hF rfl) rfl fun a hF => step hF (Y.move hF rfl) rfl fun a hF => step hF (Y.neq hF rfl rfl) rfl fun a hF => nil (then_n (cond_b hF rfl (fun hbv_1 => ?_) (fun hbv_1 => ?_))))))))
 ·replace h := cond_t h hbv_1
  refine seq (region (step hF (Y.assign hF rfl) rfl fun a hF => nil (then_n (ret_ (then_r ?_)))))
  obtain rfl := some_inj h
  exact leaveP Tryd.results7 hF hS (.cons (.tmp rfl) .nil) .nil rfl
 replace h := cond_f h hbv_1
 refine skip_ (then_n (seq (seq (region (step hF (Y.move hF rfl) rfl fun a hF => step hF (Y.neq hF rfl rfl) rfl fun a hF => nil (then_n (cond_b hF rfl (fun hbv_2 => ?_) (fun hbv_2 => ?_))))))))
 ·replace h := cond_t h hbv_2
  refine seq (region (step hF (Y.move hF rfl) rfl fun a hF => step hF (Y.eql hF rfl rfl) rfl fun a hF => step hF (Y.move hF rfl) rfl fun a hF => join (N := 173) (rs := []) (w0 := w0) (D0 := D0) 3 (us := [(2, .pointer (some ⟨b, 0, none⟩)), (3, .pointer (some ⟨b_1, 0, none⟩)), (4, .bool false), (5, .int .i64 rv_2), (6, .pointer (some ⟨b_2, 0, none⟩)), (8, .int .i64 rv_4.1), (9, .int .i64 rv_4.2.1), (10, .int .i64 rv_4.2.2), (50, .bool ((rv_3.2 == 4) || (rv_3.2 == 62)))]) (ms := [(1, .cells b [.int .i64 n.Exchanges, .slice p n.Lines.length c, .int .i64 n.Hops, .slice p_1 n.Loops.length c_1] 25), (2, .cells b_1 [.int .i64 k.a0, .int .i64 k.a1, .int .i64 k.a2] 61), (3, .cells b_2 [.int .i64 rv_3.1.Low, .int .i64 rv_3.1.High] 40)]) (D' := D0) ?_ ?_))
  ·rcases bcases (rv_3.2 == 4) with hbv_3 | hbv_3
   ·skip
    refine guard_off hF rfl rfl hbv_3 rfl fun a hF => guard_off hF rfl rfl hbv_3 rfl fun a hF => step hF (Y.pick_t hF rfl hbv_3 rfl) rfl fun a hF => nil (then_n ⟨hF.weak ⟨rfl, rfl, rfl, rfl, rfl, rfl, rfl, rfl, (by rw [hbv_3]; rfl), trivial⟩, hS.weak ⟨rfl, rfl, rfl, trivial⟩⟩)
   refine guard_on hF rfl rfl hbv_3 (step hF (Y.move hF rfl) rfl fun a hF => guard_on hF rfl rfl hbv_3 (step hF (Y.eql hF rfl rfl) rfl fun a hF => step hF (Y.pick_f hF rfl hbv_3 rfl) rfl fun a hF => nil (then_n ⟨hF.weak ⟨rfl, rfl, rfl, rfl, rfl, rfl, rfl, rfl, (by rw [hbv_3]; rfl), trivial⟩, hS.weak ⟨rfl, rfl, rfl, trivial⟩⟩)))
  intro a w hF hS
  refine step hF (Y.move hF rfl) rfl fun a hF => join (N := 173) (rs := []) (w0 := w0) (D0 := D0) 4 (us := [(2, .pointer (some ⟨b, 0, none⟩)), (3, .pointer (some ⟨b_1, 0, none⟩)), (4, .bool false), (5, .int .i64 rv_2), (6, .pointer (some ⟨b_2, 0, none⟩)), (8, .int .i64 rv_4.1), (9, .int .i64 rv_4.2.1), (10, .int .i64 rv_4.2.2), (55, .bool (((rv_3.2 == 4) || (rv_3.2 == 62)) && ([rv_3.1.Low, rv_3.1.High] == [0, 0])))]) (ms := [(1, .cells b [.int .i64 n.Exchanges, .slice p n.Lines.length c, .int .i64 n.Hops, .slice p_1 n.Loops.length c_1] 25), (2, .cells b_1 [.int .i64 k.a0, .int .i64 k.a1, .int .i64 k.a2] 61), (3, .cells b_2 [.int .i64 rv_3.1.Low, .int .i64 rv_3.1.High] 40)]) (D' := D0) ?_ ?_
  ·rcases bcases ((rv_3.2 == 4) || (rv_3.2 == 62)) with hbv_4 | hbv_4
   ·skip
    refine guard_on hF rfl rfl hbv_4 (step hF (Y.loadNL 3 sz_40 hF rfl hS rfl rfl rfl) rfl fun a hF => guard_on hF rfl rfl hbv_4 (step hF (Y.build (parts := []) (cs := #[.int .i64 0, .int .i64 0]) hF rfl (by kernel_rfl)) rfl fun a hF => guard_on hF rfl rfl hbv_4 (step hF (Y.eqst (fun w => eqT_40.equal (by decide) (l := [rv_3.1.Low, rv_3.1.High]) (m := [0, 0]) rfl rfl) (fun w => run_eqGuard_agg _ _ _ _ _ _ _ eg_40) hF rfl rfl) rfl fun a hF => step hF (Y.pick_t hF rfl hbv_4 rfl) rfl fun a hF => nil (then_n ⟨hF.weak ⟨rfl, rfl, rfl, rfl, rfl, rfl, rfl, rfl, (by rw [hbv_4]; rfl), trivial⟩, hS.weak ⟨rfl, rfl, rfl, trivial⟩⟩))))
   refine guard_off hF rfl rfl hbv_4 rfl fun a hF => guard_off hF rfl rfl hbv_4 rfl fun a hF => guard_off hF rfl rfl hbv_4 rfl fun a hF => step hF (Y.pick_f hF rfl hbv_4 rfl) rfl fun a hF => nil (then_n ⟨hF.weak ⟨rfl, rfl, rfl, rfl, rfl, rfl, rfl, rfl, (by rw [hbv_4]; rfl), trivial⟩, hS.weak ⟨rfl, rfl, rfl, trivial⟩⟩)
  intro a w hF hS
  refine step hF (Y.move hF rfl) rfl fun a hF => join (N := 173) (rs := []) (w0 := w0) (D0 := D0) 3 (us := [(2, .pointer (some ⟨b, 0, none⟩)), (3, .pointer (some ⟨b_1, 0, none⟩)), (4, .bool false), (5, .int .i64 rv_2), (6, .pointer (some ⟨b_2, 0, none⟩)), (8, .int .i64 rv_4.1), (9, .int .i64 rv_4.2.1), (10, .int .i64 rv_4.2.2), (59, .bool ((((rv_3.2 == 4) || (rv_3.2 == 62)) && ([rv_3.1.Low, rv_3.1.High] == [0, 0])) && (rv_4.1 == 0)))]) (ms := [(1, .cells b [.int .i64 n.Exchanges, .slice p n.Lines.length c, .int .i64 n.Hops, .slice p_1 n.Loops.length c_1] 25), (2, .cells b_1 [.int .i64 k.a0, .int .i64 k.a1, .int .i64 k.a2] 61), (3, .cells b_2 [.int .i64 rv_3.1.Low, .int .i64 rv_3.1.High] 40)]) (D' := D0) ?_ ?_
  ·rcases bcases (((rv_3.2 == 4) || (rv_3.2 == 62)) && ([rv_3.1.Low, rv_3.1.High] == [0, 0])) with hbv_5 | hbv_5
   ·skip
    refine guard_on hF rfl rfl hbv_5 (step hF (Y.move hF rfl) rfl fun a hF => guard_on hF rfl rfl hbv_5 (step hF (Y.eql hF rfl rfl) rfl fun a hF => step hF (Y.pick_t hF rfl hbv_5 rfl) rfl fun a hF => nil (then_n ⟨hF.weak ⟨rfl, rfl, rfl, rfl, rfl, rfl, rfl, rfl, (by rw [hbv_5]; rfl), trivial⟩, hS.weak ⟨rfl, rfl, rfl, trivial⟩⟩)))
   refine guard_off hF rfl rfl hbv_5 rfl fun a hF => guard_off hF rfl rfl hbv_5 rfl fun a hF => step hF (Y.pick_f hF rfl hbv_5 rfl) rfl fun a hF => nil (then_n ⟨hF.weak ⟨rfl, rfl, rfl, rfl, rfl, rfl, rfl, rfl, (by rw [hbv_5]; rfl), trivial⟩, hS.weak ⟨rfl, rfl, rfl, trivial⟩⟩)
  intro a w hF hS
  refine step hF (Y.move hF rfl) rfl fun a hF => join (N := 173) (rs := []) (w0 := w0) (D0 := D0) 3 (us := [(2, .pointer (some ⟨b, 0, none⟩)), (3, .pointer (some ⟨b_1, 0, none⟩)), (4, .bool false), (5, .int .i64 rv_2), (6, .pointer (some ⟨b_2, 0, none⟩)), (8, .int .i64 rv_4.1), (9, .int .i64 rv_4.2.1), (10, .int .i64 rv_4.2.2), (63, .bool (((((rv_3.2 == 4) || (rv_3.2 == 62)) && ([rv_3.1.Low, rv_3.1.High] == [0, 0])) && (rv_4.1 == 0)) && (rv_4.2.1 == 0)))]) (ms := [(1, .cells b [.int .i64 n.Exchanges, .slice p n.Lines.length c, .int .i64 n.Hops, .slice p_1 n.Loops.length c_1] 25), (2, .cells b_1 [.int .i64 k.a0, .int .i64 k.a1, .int .i64 k.a2] 61), (3, .cells b_2 [.int .i64 rv_3.1.Low, .int .i64 rv_3.1.High] 40)]) (D' := D0) ?_ ?_
  ·rcases bcases ((((rv_3.2 == 4) || (rv_3.2 == 62)) && ([rv_3.1.Low, rv_3.1.High] == [0, 0])) && (rv_4.1 == 0)) with hbv_6 | hbv_6
   ·skip
    refine guard_on hF rfl rfl hbv_6 (step hF (Y.move hF rfl) rfl fun a hF => guard_on hF rfl rfl hbv_6 (step hF (Y.eql hF rfl rfl) rfl fun a hF => step hF (Y.pick_t hF rfl hbv_6 rfl) rfl fun a hF => nil (then_n ⟨hF.weak ⟨rfl, rfl, rfl, rfl, rfl, rfl, rfl, rfl, (by rw [hbv_6]; rfl), trivial⟩, hS.weak ⟨rfl, rfl, rfl, trivial⟩⟩)))
   refine guard_off hF rfl rfl hbv_6 rfl fun a hF => guard_off hF rfl rfl hbv_6 rfl fun a hF => step hF (Y.pick_f hF rfl hbv_6 rfl) rfl fun a hF => nil (then_n ⟨hF.weak ⟨rfl, rfl, rfl, rfl, rfl, rfl, rfl, rfl, (by rw [hbv_6]; rfl), trivial⟩, hS.weak ⟨rfl, rfl, rfl, trivial⟩⟩)
  intro a w hF hS
  refine step hF (Y.move hF rfl) rfl fun a hF => ?_
  obtain ⟨t, ht, h⟩ := bind_some h
  refine join (N := 173) (rs := []) (w0 := w0) (D0 := D0) 2 (us := [(2, .pointer (some ⟨b, 0, none⟩)), (3, .pointer (some ⟨b_1, 0, none⟩)), (4, .bool false), (5, .int .i64 rv_2), (6, .pointer (some ⟨b_2, 0, none⟩)), (8, .int .i64 rv_4.1), (9, .int .i64 rv_4.2.1), (10, .int .i64 rv_4.2.2), (66, .bool t)]) (ms := [(1, .cells b [.int .i64 n.Exchanges, .slice p n.Lines.length c, .int .i64 n.Hops, .slice p_1 n.Loops.length c_1] 25), (2, .cells b_1 [.int .i64 k.a0, .int .i64 k.a1, .int .i64 k.a2] 61), (3, .cells b_2 [.int .i64 rv_3.1.Low, .int .i64 rv_3.1.High] 40)]) (D' := D0) ?_ ?_
  ·rcases bcases (((((rv_3.2 == 4) || (rv_3.2 == 62)) && ([rv_3.1.Low, rv_3.1.High] == [0, 0])) && (rv_4.1 == 0)) && (rv_4.2.1 == 0)) with hbv_7 | hbv_7
   ·skip
    replace h := cond_t ht hbv_7
    refine guard_on hF rfl rfl hbv_7 ?_
    obtain ⟨rv_5, hx_5, h⟩ := bind_some h
    refine O.callP (us := []) ca_23 hF hS (remontoirlaw06_works_ok hS.stab hG rv_5 hx_5) rfl rfl fun a w hF hS => step hF (Y.pick_t hF rfl hbv_7 rfl) rfl fun a hF => ?_
    obtain rfl := some_inj h
    exact nil (then_n ⟨hF.weak ⟨rfl, rfl, rfl, rfl, rfl, rfl, rfl, rfl, rfl, trivial⟩, hS.weak ⟨rfl, rfl, rfl, trivial⟩⟩)
   replace h := cond_f ht hbv_7
   refine guard_off hF rfl rfl hbv_7 rfl fun a hF => step hF (Y.pick_f hF rfl hbv_7 rfl) rfl fun a hF => ?_
   obtain rfl := some_inj h
   exact nil (then_n ⟨hF.weak ⟨rfl, rfl, rfl, rfl, rfl, rfl, rfl, rfl, rfl, trivial⟩, hS.weak ⟨rfl, rfl, rfl, trivial⟩⟩)
  intro a w hF hS
  refine step hF (Y.assign hF rfl) rfl fun a hF => nil (then_n (ret_ (then_r ?_)))
  obtain rfl := some_inj h
  exact leaveP Tryd.results7 hF hS (.cons (.tmp rfl) .nil) .nil rfl
 replace h := cond_f h hbv_2
 refine skip_ (then_n (seq (region (step hF (Y.loadNL 1 sz_25 hF rfl hS rfl rfl rfl) rfl fun a hF => step hF (Y.move hF rfl) rfl fun a hF => step hF (Y.fieldAddr fo_40_0 hF rfl) rfl fun a hF => step hF (Y.load1L 3 sz_3 hF rfl hS rfl rfl) rfl fun a hF => ?_))))
 obtain ⟨rv_6, hx_6, h⟩ := bind_some h
 refine O.callP (us := [.agg #[.int .i64 n.Exchanges, .slice p n.Lines.length c, .int .i64 n.Hops, .slice p_1 n.Loops.length c_1], .int .i64 rv_2, .int .i64 rv_3.1.Low]) ca_26 hF hS (line_Can_ok hS.stab n rv_2 rv_3.1.Low hs hs_1 hG rv_6 hx_6) rfl rfl fun a w hF hS => step hF (Y.move hF rfl) rfl fun a hF => step hF (Y.extract hF rfl rfl) rfl fun a hF => step hF (Y.extract hF rfl rfl) rfl fun a hF => step hF (Y.assign hF rfl) rfl fun a hF => step hF (Y.assign hF rfl) rfl fun a hF => nil (then_n (seq (region (step hF (Y.loadNL 1 sz_25 hF rfl hS rfl rfl rfl) rfl fun a hF => step hF (Y.move hF rfl) rfl fun a hF => step hF (Y.fieldAddr fo_40_1 hF rfl) rfl fun a hF => step hF (Y.load1L 3 sz_3 hF rfl hS rfl rfl) rfl fun a hF => ?_))))
 obtain ⟨rv_7, hx_7, h⟩ := bind_some h
 refine O.callP (us := [.agg #[.int .i64 n.Exchanges, .slice p n.Lines.length c, .int .i64 n.Hops, .slice p_1 n.Loops.length c_1], .int .i64 rv_2, .int .i64 rv_3.1.High]) ca_26 hF hS (line_Can_ok hS.stab n rv_2 rv_3.1.High hs hs_1 hG rv_7 hx_7) rfl rfl fun a w hF hS => step hF (Y.move hF rfl) rfl fun a hF => step hF (Y.extract hF rfl rfl) rfl fun a hF => step hF (Y.extract hF rfl rfl) rfl fun a hF => step hF (Y.assign hF rfl) rfl fun a hF => step hF (Y.assign hF rfl) rfl fun a hF => nil (then_n (seq (region (step hF (Y.loadNL 1 sz_25 hF rfl hS rfl rfl rfl) rfl fun a hF => step hF (Y.move hF rfl) rfl fun a hF => step hF (Y.indexArr u_61 sz_3 hF rfl rfl (by decide) (by decide)) rfl fun a hF => step hF (Y.load1L 2 sz_3 hF rfl hS rfl rfl) rfl fun a hF => ?_))))
 obtain ⟨rv_8, hx_8, h⟩ := bind_some h
 refine O.callP (us := [.agg #[.int .i64 n.Exchanges, .slice p n.Lines.length c, .int .i64 n.Hops, .slice p_1 n.Loops.length c_1], .int .i64 rv_2, .int .i64 k.a2]) ca_26 hF hS (line_Can_ok hS.stab n rv_2 k.a2 hs hs_1 hG rv_8 hx_8) rfl rfl fun a w hF hS => step hF (Y.move hF rfl) rfl fun a hF => step hF (Y.extract hF rfl rfl) rfl fun a hF => step hF (Y.extract hF rfl rfl) rfl fun a hF => step hF (Y.assign hF rfl) rfl fun a hF => step hF (Y.assign hF rfl) rfl fun a hF => nil (then_n (seq (seq (region (step hF (Y.move hF rfl) rfl fun a hF => step hF (Y.neq hF rfl rfl) rfl fun a hF => step hF (Y.move hF rfl) rfl fun a hF => join (N := 173) (rs := []) (w0 := w0) (D0 := D0) 3 (us := [(3, .pointer (some ⟨b_1, 0, none⟩)), (4, .bool false), (6, .pointer (some ⟨b_2, 0, none⟩)), (8, .int .i64 rv_4.1), (9, .int .i64 rv_4.2.1), (11, .bool rv_6.1), (12, .bool rv_7.1), (14, .bool rv_8.1), (15, .int .i64 rv_8.2), (96, .bool ((rv_6.2 != 0) || (rv_7.2 != 0)))]) (ms := [(1, .cells b [.int .i64 n.Exchanges, .slice p n.Lines.length c, .int .i64 n.Hops, .slice p_1 n.Loops.length c_1] 25), (2, .cells b_1 [.int .i64 k.a0, .int .i64 k.a1, .int .i64 k.a2] 61), (3, .cells b_2 [.int .i64 rv_3.1.Low, .int .i64 rv_3.1.High] 40)]) (D' := D0) ?_ ?_)))))
 ·rcases bcases (rv_6.2 != 0) with hbv_8 | hbv_8
  ·skip
   refine guard_off hF rfl rfl hbv_8 rfl fun a hF => guard_off hF rfl rfl hbv_8 rfl fun a hF => step hF (Y.pick_t hF rfl hbv_8 rfl) rfl fun a hF => nil (then_n ⟨hF.weak ⟨rfl, rfl, rfl, rfl, rfl, rfl, rfl, rfl, rfl, (by rw [hbv_8]; rfl), trivial⟩, hS.weak ⟨rfl, rfl, rfl, trivial⟩⟩)
  refine guard_on hF rfl rfl hbv_8 (step hF (Y.move hF rfl) rfl fun a hF => guard_on hF rfl rfl hbv_8 (step hF (Y.neq hF rfl rfl) rfl fun a hF => step hF (Y.pick_f hF rfl hbv_8 rfl) rfl fun a hF => nil (then_n ⟨hF.weak ⟨rfl, rfl, rfl, rfl, rfl, rfl, rfl, rfl, rfl, (by rw [hbv_8]; rfl), trivial⟩, hS.weak ⟨rfl, rfl, rfl, trivial⟩⟩)))
 intro a w hF hS
 refine step hF (Y.move hF rfl) rfl fun a hF => join (N := 173) (rs := []) (w0 := w0) (D0 := D0) 3 (us := [(3, .pointer (some ⟨b_1, 0, none⟩)), (4, .bool false), (6, .pointer (some ⟨b_2, 0, none⟩)), (8, .int .i64 rv_4.1), (9, .int .i64 rv_4.2.1), (11, .bool rv_6.1), (12, .bool rv_7.1), (14, .bool rv_8.1), (100, .bool (((rv_6.2 != 0) || (rv_7.2 != 0)) || (rv_8.2 != 0)))]) (ms := [(1, .cells b [.int .i64 n.Exchanges, .slice p n.Lines.length c, .int .i64 n.Hops, .slice p_1 n.Loops.length c_1] 25), (2, .cells b_1 [.int .i64 k.a0, .int .i64 k.a1, .int .i64 k.a2] 61), (3, .cells b_2 [.int .i64 rv_3.1.Low, .int .i64 rv_3.1.High] 40)]) (D' := D0) ?_ ?_
 ·rcases bcases ((rv_6.2 != 0) || (rv_7.2 != 0)) with hbv_9 | hbv_9
  ·skip
   refine guard_off hF rfl rfl hbv_9 rfl fun a hF => guard_off hF rfl rfl hbv_9 rfl fun a hF => step hF (Y.pick_t hF rfl hbv_9 rfl) rfl fun a hF => nil (then_n ⟨hF.weak ⟨rfl, rfl, rfl, rfl, rfl, rfl, rfl, rfl, (by rw [hbv_9]; rfl), trivial⟩, hS.weak ⟨rfl, rfl, rfl, trivial⟩⟩)
  refine guard_on hF rfl rfl hbv_9 (step hF (Y.move hF rfl) rfl fun a hF => guard_on hF rfl rfl hbv_9 (step hF (Y.neq hF rfl rfl) rfl fun a hF => step hF (Y.pick_f hF rfl hbv_9 rfl) rfl fun a hF => nil (then_n ⟨hF.weak ⟨rfl, rfl, rfl, rfl, rfl, rfl, rfl, rfl, (by rw [hbv_9]; rfl), trivial⟩, hS.weak ⟨rfl, rfl, rfl, trivial⟩⟩)))
 intro a w hF hS
 refine step hF (Y.move hF rfl) rfl fun a hF => ?_
 obtain ⟨t_1, ht_1, h⟩ := bind_some h
 refine join (N := 173) (rs := []) (w0 := w0) (D0 := D0) 4 (us := [(3, .pointer (some ⟨b_1, 0, none⟩)), (4, .bool false), (6, .pointer (some ⟨b_2, 0, none⟩)), (8, .int .i64 rv_4.1), (9, .int .i64 rv_4.2.1), (11, .bool rv_6.1), (12, .bool rv_7.1), (14, .bool rv_8.1), (105, .bool t_1)]) (ms := [(1, .cells b [.int .i64 n.Exchanges, .slice p n.Lines.length c, .int .i64 n.Hops, .slice p_1 n.Loops.length c_1] 25), (2, .cells b_1 [.int .i64 k.a0, .int .i64 k.a1, .int .i64 k.a2] 61), (3, .cells b_2 [.int .i64 rv_3.1.Low, .int .i64 rv_3.1.High] 40)]) (D' := D0) ?_ ?_
 ·rcases bcases (((rv_6.2 != 0) || (rv_7.2 != 0)) || (rv_8.2 != 0)) with hbv_10 | hbv_10
  ·skip
   replace h := cond_t ht_1 hbv_10
   refine guard_off hF rfl rfl hbv_10 rfl fun a hF => guard_off hF rfl rfl hbv_10 rfl fun a hF => guard_off hF rfl rfl hbv_10 rfl fun a hF => step hF (Y.pick_t hF rfl hbv_10 rfl) rfl fun a hF => ?_
   obtain rfl := some_inj h
   exact nil (then_n ⟨hF.weak ⟨rfl, rfl, rfl, rfl, rfl, rfl, rfl, rfl, rfl, trivial⟩, hS.weak ⟨rfl, rfl, rfl, trivial⟩⟩)
  replace h := cond_f ht_1 hbv_10
  refine guard_on hF rfl rfl hbv_10 (step hF (Y.loadNL 3 sz_40 hF rfl hS rfl rfl rfl) rfl fun a hF => guard_on hF rfl rfl hbv_10 ?_)
  obtain ⟨rv_9, hx_9, h⟩ := bind_some h
  refine O.callP (us := [.agg #[.int .i64 rv_3.1.Low, .int .i64 rv_3.1.High], .int .i64 0, .int .i64 6000]) ca_42 hF hS (r0Valid_ok hS.stab rv_3.1 0 6000 rv_9 hx_9) rfl rfl fun a w hF hS => guard_on hF rfl rfl hbv_10 (step hF (Y.not hF rfl) rfl fun a hF => step hF (Y.pick_f hF rfl hbv_10 rfl) rfl fun a hF => ?_)
  obtain rfl := some_inj h
  exact nil (then_n ⟨hF.weak ⟨rfl, rfl, rfl, rfl, rfl, rfl, rfl, rfl, rfl, trivial⟩, hS.weak ⟨rfl, rfl, rfl, trivial⟩⟩)
 intro a w hF hS
 refine step hF (Y.move hF rfl) rfl fun a hF => join (N := 173) (rs := []) (w0 := w0) (D0 := D0) 3 (us := [(3, .pointer (some ⟨b_1, 0, none⟩)), (4, .bool false), (6, .pointer (some ⟨b_2, 0, none⟩)), (8, .int .i64 rv_4.1), (9, .int .i64 rv_4.2.1), (12, .bool rv_7.1), (14, .bool rv_8.1), (109, .bool (t_1 || (!rv_6.1)))]) (ms := [(1, .cells b [.int .i64 n.Exchanges, .slice p n.Lines.length c, .int .i64 n.Hops, .slice p_1 n.Loops.length c_1] 25), (2, .cells b_1 [.int .i64 k.a0, .int .i64 k.a1, .int .i64 k.a2] 61), (3, .cells b_2 [.int .i64 rv_3.1.Low, .int .i64 rv_3.1.High] 40)]) (D' := D0) ?_ ?_
 ·rcases bcases t_1 with hbv_11 | hbv_11
  ·skip
   refine guard_off hF rfl rfl hbv_11 rfl fun a hF => guard_off hF rfl rfl hbv_11 rfl fun a hF => step hF (Y.pick_t hF rfl hbv_11 rfl) rfl fun a hF => nil (then_n ⟨hF.weak ⟨rfl, rfl, rfl, rfl, rfl, rfl, rfl, (by rw [hbv_11]; rfl), trivial⟩, hS.weak ⟨rfl, rfl, rfl, trivial⟩⟩)
  refine guard_on hF rfl rfl hbv_11 (step hF (Y.move hF rfl) rfl fun a hF => guard_on hF rfl rfl hbv_11 (step hF (Y.not hF rfl) rfl fun a hF => step hF (Y.pick_f hF rfl hbv_11 rfl) rfl fun a hF => nil (then_n ⟨hF.weak ⟨rfl, rfl, rfl, rfl, rfl, rfl, rfl, (by rw [hbv_11]; rfl), trivial⟩, hS.weak ⟨rfl, rfl, rfl, trivial⟩⟩)))
 intro a w hF hS
 refine step hF (Y.move hF rfl) rfl fun a hF => join (N := 173) (rs := []) (w0 := w0) (D0 := D0) 3 (us := [(3, .pointer (some ⟨b_1, 0, none⟩)), (4, .bool false), (6, .pointer (some ⟨b_2, 0, none⟩)), (8, .int .i64 rv_4.1), (9, .int .i64 rv_4.2.1), (14, .bool rv_8.1), (113, .bool ((t_1 || (!rv_6.1)) || (!rv_7.1)))]) (ms := [(1, .cells b [.int .i64 n.Exchanges, .slice p n.Lines.length c, .int .i64 n.Hops, .slice p_1 n.Loops.length c_1] 25), (2, .cells b_1 [.int .i64 k.a0, .int .i64 k.a1, .int .i64 k.a2] 61), (3, .cells b_2 [.int .i64 rv_3.1.Low, .int .i64 rv_3.1.High] 40)]) (D' := D0) ?_ ?_
 ·rcases bcases (t_1 || (!rv_6.1)) with hbv_12 | hbv_12
  ·skip
   refine guard_off hF rfl rfl hbv_12 rfl fun a hF => guard_off hF rfl rfl hbv_12 rfl fun a hF => step hF (Y.pick_t hF rfl hbv_12 rfl) rfl fun a hF => nil (then_n ⟨hF.weak ⟨rfl, rfl, rfl, rfl, rfl, rfl, (by rw [hbv_12]; rfl), trivial⟩, hS.weak ⟨rfl, rfl, rfl, trivial⟩⟩)
  refine guard_on hF rfl rfl hbv_12 (step hF (Y.move hF rfl) rfl fun a hF => guard_on hF rfl rfl hbv_12 (step hF (Y.not hF rfl) rfl fun a hF => step hF (Y.pick_f hF rfl hbv_12 rfl) rfl fun a hF => nil (then_n ⟨hF.weak ⟨rfl, rfl, rfl, rfl, rfl, rfl, (by rw [hbv_12]; rfl), trivial⟩, hS.weak ⟨rfl, rfl, rfl, trivial⟩⟩)))
 intro a w hF hS
 refine step hF (Y.move hF rfl) rfl fun a hF => ?_
 obtain ⟨t_3, ht_3, h⟩ := bind_some h
 refine join (N := 173) (rs := []) (w0 := w0) (D0 := D0) 9 (us := [(3, .pointer (some ⟨b_1, 0, none⟩)), (4, .bool false), (6, .pointer (some ⟨b_2, 0, none⟩)), (8, .int .i64 rv_4.1), (9, .int .i64 rv_4.2.1), (123, .bool t_3)]) (ms := [(1, .cells b [.int .i64 n.Exchanges, .slice p n.Lines.length c, .int .i64 n.Hops, .slice p_1 n.Loops.length c_1] 25), (2, .cells b_1 [.int .i64 k.a0, .int .i64 k.a1, .int .i64 k.a2] 61), (3, .cells b_2 [.int .i64 rv_3.1.Low, .int .i64 rv_3.1.High] 40)]) (D' := D0) ?_ ?_
 ·rcases bcases ((t_1 || (!rv_6.1)) || (!rv_7.1)) with hbv_13 | hbv_13
  ·skip
   replace h := cond_t ht_3 hbv_13
   refine guard_off hF rfl rfl hbv_13 rfl fun a hF => guard_off hF rfl rfl hbv_13 rfl fun a hF => guard_offu hF rfl rfl rfl fun a hF => guard_offu hF rfl rfl rfl fun a hF => guard_offu hF rfl rfl rfl fun a hF => guard_offu hF rfl rfl rfl fun a hF => guard_offu hF rfl rfl rfl fun a hF => guard_off hF rfl rfl hbv_13 rfl fun a hF => step hF (Y.pick_t hF rfl hbv_13 rfl) rfl fun a hF => ?_
   obtain rfl := some_inj h
   exact nil (then_n ⟨hF.weak ⟨rfl, rfl, rfl, rfl, rfl, rfl, trivial⟩, hS.weak ⟨rfl, rfl, rfl, trivial⟩⟩)
  replace h := cond_f ht_3 hbv_13
  refine guard_on hF rfl rfl hbv_13 (step hF (Y.move hF rfl) rfl fun a hF => guard_on hF rfl rfl hbv_13 (step hF (Y.move hF rfl) rfl fun a hF => ?_))
  obtain ⟨t_2, ht_2, h⟩ := bind_some h
  refine join (N := 173) (rs := []) (w0 := w0) (D0 := D0) 6 (us := [(3, .pointer (some ⟨b_1, 0, none⟩)), (4, .bool false), (6, .pointer (some ⟨b_2, 0, none⟩)), (8, .int .i64 rv_4.1), (9, .int .i64 rv_4.2.1), (114, .bool ((t_1 || (!rv_6.1)) || (!rv_7.1))), (122, .bool t_2)]) (ms := [(1, .cells b [.int .i64 n.Exchanges, .slice p n.Lines.length c, .int .i64 n.Hops, .slice p_1 n.Loops.length c_1] 25), (2, .cells b_1 [.int .i64 k.a0, .int .i64 k.a1, .int .i64 k.a2] 61), (3, .cells b_2 [.int .i64 rv_3.1.Low, .int .i64 rv_3.1.High] 40)]) (D' := D0) ?_ ?_
  ·rcases bcases rv_8.1 with hbv_14 | hbv_14
   ·skip
    replace h := cond_t ht_2 hbv_14
    refine guard_on hF rfl rfl hbv_14 (step hF (Y.loadNL 3 sz_40 hF rfl hS rfl rfl rfl) rfl fun a hF => guard_on hF rfl rfl hbv_14 (step hF (Y.indexArr u_61 sz_3 hF rfl rfl (by decide) (by decide)) rfl fun a hF => guard_on hF rfl rfl hbv_14 (step hF (Y.load1L 2 sz_3 hF rfl hS rfl rfl) rfl fun a hF => guard_on hF rfl rfl hbv_14 ?_)))
    obtain ⟨rv_10, hx_10, h⟩ := bind_some h
    refine O.callP (us := [.agg #[.int .i64 rv_3.1.Low, .int .i64 rv_3.1.High], .int .i64 k.a2]) ca_38 hF hS (r0Has_ok hS.stab rv_3.1 k.a2 rv_10 hx_10) rfl rfl fun a w hF hS => guard_on hF rfl rfl hbv_14 (step hF (Y.not hF rfl) rfl fun a hF => guard_on hF rfl rfl hbv_13 (step hF (Y.pick_t hF rfl hbv_14 rfl) rfl fun a hF => ?_))
    obtain rfl := some_inj h
    exact nil (then_n ⟨hF.weak ⟨rfl, rfl, rfl, rfl, rfl, rfl, rfl, trivial⟩, hS.weak ⟨rfl, rfl, rfl, trivial⟩⟩)
   replace h := cond_f ht_2 hbv_14
   refine guard_off hF rfl rfl hbv_14 rfl fun a hF => guard_off hF rfl rfl hbv_14 rfl fun a hF => guard_off hF rfl rfl hbv_14 rfl fun a hF => guard_off hF rfl rfl hbv_14 rfl fun a hF => guard_off hF rfl rfl hbv_14 rfl fun a hF => guard_on hF rfl rfl hbv_13 (step hF (Y.pick_f hF rfl hbv_14 rfl) rfl fun a hF => ?_)
   obtain rfl := some_inj h
   exact nil (then_n ⟨hF.weak ⟨rfl, rfl, rfl, rfl, rfl, rfl, rfl, trivial⟩, hS.weak ⟨rfl, rfl, rfl, trivial⟩⟩)
  intro a w hF hS
  refine step hF (Y.pick_f hF rfl hbv_13 rfl) rfl fun a hF => ?_
  obtain rfl := some_inj h
  exact nil (then_n ⟨hF.weak ⟨rfl, rfl, rfl, rfl, rfl, rfl, trivial⟩, hS.weak ⟨rfl, rfl, rfl, trivial⟩⟩)
 intro a w hF hS
 refine step hF (Y.move hF rfl) rfl fun a hF => join (N := 173) (rs := []) (w0 := w0) (D0 := D0) 3 (us := [(3, .pointer (some ⟨b_1, 0, none⟩)), (4, .bool false), (6, .pointer (some ⟨b_2, 0, none⟩)), (8, .int .i64 rv_4.1), (9, .int .i64 rv_4.2.1), (127, .bool (t_3 || (decide (rv_4.1 < 0))))]) (ms := [(1, .cells b [.int .i64 n.Exchanges, .slice p n.Lines.length c, .int .i64 n.Hops, .slice p_1 n.Loops.length c_1] 25), (2, .cells b_1 [.int .i64 k.a0, .int .i64 k.a1, .int .i64 k.a2] 61), (3, .cells b_2 [.int .i64 rv_3.1.Low, .int .i64 rv_3.1.High] 40)]) (D' := D0) ?_ ?_
 ·rcases bcases t_3 with hbv_15 | hbv_15
  ·skip
   refine guard_off hF rfl rfl hbv_15 rfl fun a hF => guard_off hF rfl rfl hbv_15 rfl fun a hF => step hF (Y.pick_t hF rfl hbv_15 rfl) rfl fun a hF => nil (then_n ⟨hF.weak ⟨rfl, rfl, rfl, rfl, rfl, (by rw [hbv_15]; rfl), trivial⟩, hS.weak ⟨rfl, rfl, rfl, trivial⟩⟩)
  refine guard_on hF rfl rfl hbv_15 (step hF (Y.move hF rfl) rfl fun a hF => guard_on hF rfl rfl hbv_15 (step hF (Y.lss hF rfl rfl) rfl fun a hF => step hF (Y.pick_f hF rfl hbv_15 rfl) rfl fun a hF => nil (then_n ⟨hF.weak ⟨rfl, rfl, rfl, rfl, rfl, (by rw [hbv_15]; rfl), trivial⟩, hS.weak ⟨rfl, rfl, rfl, trivial⟩⟩)))
 intro a w hF hS
 refine nil (then_n (cond_b hF rfl (fun hbv_16 => ?_) (fun hbv_16 => ?_)))
 ·replace h := cond_t h hbv_16
  refine seq (region (step hF (Y.assign hF rfl) rfl fun a hF => nil (then_n (ret_ (then_r ?_)))))
  obtain rfl := some_inj h
  exact leaveP Tryd.results7 hF hS (.cons (.tmp rfl) .nil) .nil rfl
 replace h := cond_f h hbv_16
 refine skip_ (then_n (seq (region (step hF (Y.indexArr u_61 sz_3 hF rfl rfl (by decide) (by decide)) rfl fun a hF => step hF (Y.load1L 2 sz_3 hF rfl hS rfl rfl) rfl fun a hF => ?_))))
 obtain ⟨rv_11, hx_11, h⟩ := bind_some h
 refine O.callP (us := [.int .i64 k.a1, .int .i64 6001]) ca_41 hF hS (r0Rest_ok hS.stab k.a1 6001 rv_11 hx_11) rfl rfl fun a w hF hS => step hF (Y.assign hF rfl) rfl fun a hF => nil (then_n (seq ?_))
 obtain ⟨rv_12, hx_12, h⟩ := bind_some h
 refine drawsV 9 (.flt 0 (.flt 1 (.flt 2 (.flt 3 (.flt 5 (.flt 6 (.flt 7 (.flt 8 (.alt 4 .done .stop))))))))) mixed_ (by kernel_rfl) (fun w => St w0 D0 D0 [(1, .cells b [.int .i64 n.Exchanges, .slice p n.Lines.length c, .int .i64 n.Hops, .slice p_1 n.Loops.length c_1] 25), (2, .cells b_1 [.int .i64 k.a0, .int .i64 k.a1, .int .i64 k.a2] 61), (3, .cells b_2 [.int .i64 rv_3.1.Low, .int .i64 rv_3.1.High] 40)] w) (fun a w => Frm 173 [] [(4, .bool false), (6, .pointer (some ⟨b_2, 0, none⟩)), (8, .int .i64 rv_4.1), (9, .int .i64 rv_4.2.1), (16, .int .i64 rv_11), (135, .int .i64 rv_12), (139, .int .i64 (wr (rv_3.1.High - rv_11)))] a ∧ St w0 D0 D0 [(1, .cells b [.int .i64 n.Exchanges, .slice p n.Lines.length c, .int .i64 n.Hops, .slice p_1 n.Loops.length c_1] 25), (2, .cells b_1 [.int .i64 k.a0, .int .i64 k.a1, .int .i64 k.a2] 61), (3, .cells b_2 [.int .i64 rv_3.1.Low, .int .i64 rv_3.1.High] 40)] w) (hS.weak (ms := [(1, .cells b [.int .i64 n.Exchanges, .slice p n.Lines.length c, .int .i64 n.Hops, .slice p_1 n.Loops.length c_1] 25), (2, .cells b_1 [.int .i64 k.a0, .int .i64 k.a1, .int .i64 k.a2] 61), (3, .cells b_2 [.int .i64 rv_3.1.Low, .int .i64 rv_3.1.High] 40)]) ⟨rfl, rfl, rfl, trivial⟩).drew (fun _ _ _ _ h => h) ?_ ?_
 ·replace hS := hS.drew
  have hle0 := hS.le
  refine stepV (i := 0) rfl hF (fun w hS => Y.move hF rfl) rfl fun a hF => stepV (i := 1) rfl hF (fun w hS => Y.fieldAddr fo_40_0 hF rfl) rfl fun a hF => stepV (i := 2) rfl hF (fun w hS => Y.load1L 3 sz_3 hF rfl hS rfl rfl) rfl fun a hF => stepV (i := 3) rfl hF (fun w hS => Y.sub hF rfl rfl) rfl fun a hF => stepV (i := 5) rfl hF (fun w hS => Y.fieldAddr fo_40_1 hF rfl) rfl fun a hF => stepV (i := 6) rfl hF (fun w hS => Y.load1L 3 sz_3 hF rfl hS rfl rfl) rfl fun a hF => stepV (i := 7) rfl hF (fun w hS => Y.move hF rfl) rfl fun a hF => stepV (i := 8) rfl hF (fun w hS => Y.sub hF rfl rfl) rfl fun a hF => oneV (i := 4) rfl ?_ trivial
  refine O.callP (us := [.int .i64 (wr (rv_11 - rv_3.1.Low))]) ca_39 hF hS (r0Size_ok hS.stab (wr (rv_11 - rv_3.1.Low)) rv_12 hx_12) rfl rfl fun a w hF hS => nil (then_n ⟨hS.weak ⟨rfl, rfl, rfl, trivial⟩, ?_⟩)
  exact toTailV ⟨hF.weak ⟨rfl, rfl, rfl, rfl, rfl, rfl, rfl, trivial⟩, hS.weak ⟨rfl, rfl, rfl, trivial⟩⟩
 rintro a w ⟨hF, hS⟩
 obtain ⟨rv_13, hx_13, h⟩ := bind_some h
 refine O.callP (us := [.int .i64 (wr (rv_3.1.High - rv_11))]) ca_39 hF hS (r0Size_ok hS.stab (wr (rv_3.1.High - rv_11)) rv_13 hx_13) rfl rfl fun a w hF hS => step hF (Y.max2 hF rfl rfl) rfl fun a hF => step hF (Y.assign hF rfl) rfl fun a hF => nil (then_n (seq ?_))
 obtain ⟨rv_14, hx_14, h⟩ := bind_some h
 obtain ⟨rv_15, hx_15, h⟩ := bind_some h
 obtain ⟨t_4, ht_4, h⟩ := bind_some h
 obtain ⟨t_6, ht_6, h⟩ := bind_some h
 refine drawsV 28 (.flt 0 (.flt 1 (.flt 2 (.flt 3 (.flt 4 (.flt 6 (.flt 7 (.flt 8 (.flt 9 (.alt 5 (.alt 10 (.flt 11 (.flt 12 (.flt 13 (.flt 14 (.flt 15 (.flt 16 (.flt 17 (.flt 18 (.flt 19 (.flt 20 (.flt 21 (.flt 22 (.flt 23 (.flt 24 (.flt 25 (.flt 26 (.flt 27 .done))))))))))))))))) .stop) .stop)))))))))) mixed_ (by kernel_rfl) (fun w => St w0 D0 D0 [(1, .cells b [.int .i64 n.Exchanges, .slice p n.Lines.length c, .int .i64 n.Hops, .slice p_1 n.Loops.length c_1] 25), (2, .cells b_1 [.int .i64 k.a0, .int .i64 k.a1, .int .i64 k.a2] 61), (3, .cells b_2 [.int .i64 rv_3.1.Low, .int .i64 rv_3.1.High] 40)] w) (fun a w => Frm 173 [] [(4, .bool false), (169, .bool t_6)] a ∧ St w0 D0 D0 [(1, .cells b [.int .i64 n.Exchanges, .slice p n.Lines.length c, .int .i64 n.Hops, .slice p_1 n.Loops.length c_1] 25), (2, .cells b_1 [.int .i64 k.a0, .int .i64 k.a1, .int .i64 k.a2] 61), (3, .cells b_2 [.int .i64 rv_3.1.Low, .int .i64 rv_3.1.High] 40)] w) (hS.weak (ms := [(1, .cells b [.int .i64 n.Exchanges, .slice p n.Lines.length c, .int .i64 n.Hops, .slice p_1 n.Loops.length c_1] 25), (2, .cells b_1 [.int .i64 k.a0, .int .i64 k.a1, .int .i64 k.a2] 61), (3, .cells b_2 [.int .i64 rv_3.1.Low, .int .i64 rv_3.1.High] 40)]) ⟨rfl, rfl, rfl, trivial⟩).drew (fun _ _ _ _ h => h) ?_ ?_
 ·replace hS := hS.drew
  have hle0 := hS.le
  rcases bcases (rv_4.2.1 == (if rv_15 > rv_14 then rv_15 else rv_14)) with hbv_17 | hbv_17
  ·skip
   replace ht_4 := cond_t ht_4 hbv_17
   obtain rfl := some_inj ht_4
   rcases bcases (decide ((if rv_13 > rv_12 then rv_13 else rv_12) ≥ rv_4.2.1)) with hbv_18 | hbv_18
   ·skip
    replace ht_6 := cond_t ht_6 hbv_18
    obtain ⟨t_5, ht_5, ht_6⟩ := bind_some ht_6
    obtain rfl := some_inj ht_6
    rcases bcases (decide (rv_11 ≥ rv_4.1)) with hbv_19 | hbv_19
    ·skip
     replace ht_5 := cond_t ht_5 hbv_19
     obtain rfl := some_inj ht_5
     refine stepV (i := 0) rfl hF (fun w hS => Y.move hF rfl) rfl fun a hF => stepV (i := 1) rfl hF (fun w hS => Y.move hF rfl) rfl fun a hF => stepV (i := 2) rfl hF (fun w hS => Y.fieldAddr fo_40_0 hF rfl) rfl fun a hF => stepV (i := 3) rfl hF (fun w hS => Y.load1L 3 sz_3 hF rfl hS rfl rfl) rfl fun a hF => stepV (i := 4) rfl hF (fun w hS => Y.sub hF rfl rfl) rfl fun a hF => stepV (i := 6) rfl hF (fun w hS => Y.fieldAddr fo_40_1 hF rfl) rfl fun a hF => stepV (i := 7) rfl hF (fun w hS => Y.load1L 3 sz_3 hF rfl hS rfl rfl) rfl fun a hF => stepV (i := 8) rfl hF (fun w hS => Y.move hF rfl) rfl fun a hF => stepV (i := 9) rfl hF (fun w hS => Y.sub hF rfl rfl) rfl fun a hF => oneV (i := 5) rfl ?_ trivial
     refine O.callP (us := [.int .i64 (wr (rv_4.1 - rv_3.1.Low))]) ca_39 hF hS (r0Size_ok hS.stab (wr (rv_4.1 - rv_3.1.Low)) rv_14 hx_14) rfl rfl fun a w hF hS => nil (then_n ⟨hS.weak ⟨rfl, rfl, rfl, trivial⟩, ?_⟩)
     refine oneV (i := 10) rfl ?_ trivial
     refine O.callP (us := [.int .i64 (wr (rv_3.1.High - rv_4.1))]) ca_39 hF hS (r0Size_ok hS.stab (wr (rv_3.1.High - rv_4.1)) rv_15 hx_15) rfl rfl fun a w hF hS => nil (then_n ⟨hS.weak ⟨rfl, rfl, rfl, trivial⟩, ?_⟩)
     refine stepV (i := 11) rfl hF (fun w hS => Y.max2 hF rfl rfl) rfl fun a hF => stepV (i := 12) rfl hF (fun w hS => Y.eql hF rfl rfl) rfl fun a hF => stepV (i := 13) rfl hF (fun w hS => Y.move hF rfl) rfl fun a hF => stepV_on (i := 14) rfl hF rfl rfl hbv_17 (fun w hS => Y.move hF rfl) rfl fun a hF => stepV_on (i := 15) rfl hF rfl rfl hbv_17 (fun w hS => Y.move hF rfl) rfl fun a hF => stepV_on (i := 16) rfl hF rfl rfl hbv_17 (fun w hS => Y.geq hF rfl rfl) rfl fun a hF => stepV (i := 17) rfl hF (fun w hS => Y.pick_t hF rfl hbv_17 rfl) rfl fun a hF => stepV (i := 18) rfl hF (fun w hS => Y.move hF rfl) rfl fun a hF => stepV_on (i := 19) rfl hF rfl rfl hbv_18 (fun w hS => Y.move hF rfl) rfl fun a hF => stepV_on (i := 20) rfl hF rfl rfl hbv_18 (fun w hS => Y.move hF rfl) rfl fun a hF => stepV_on (i := 21) rfl hF rfl rfl hbv_18 (fun w hS => Y.geq hF rfl rfl) rfl fun a hF => stepV_on (i := 22) rfl hF rfl rfl hbv_18 (fun w hS => Y.move hF rfl) rfl fun a hF => stepV_off (i := 23) rfl hF rfl rfl hbv_19 rfl fun a hF => stepV_off (i := 24) rfl hF rfl rfl hbv_19 rfl fun a hF => stepV_off (i := 25) rfl hF rfl rfl hbv_19 rfl fun a hF => stepV_on (i := 26) rfl hF rfl rfl hbv_18 (fun w hS => Y.pick_t hF rfl hbv_19 rfl) rfl fun a hF => stepV (i := 27) rfl hF (fun w hS => Y.pick_t hF rfl hbv_18 rfl) rfl fun a hF => toTailV ⟨hF.weak ⟨rfl, rfl, trivial⟩, hS.weak ⟨rfl, rfl, rfl, trivial⟩⟩
    replace ht_5 := cond_f ht_5 hbv_19
    obtain rfl := some_inj ht_5
    refine stepV (i := 0) rfl hF (fun w hS => Y.move hF rfl) rfl fun a hF => stepV (i := 1) rfl hF (fun w hS => Y.move hF rfl) rfl fun a hF => stepV (i := 2) rfl hF (fun w hS => Y.fieldAddr fo_40_0 hF rfl) rfl fun a hF => stepV (i := 3) rfl hF (fun w hS => Y.load1L 3 sz_3 hF rfl hS rfl rfl) rfl fun a hF => stepV (i := 4) rfl hF (fun w hS => Y.sub hF rfl rfl) rfl fun a hF => stepV (i := 6) rfl hF (fun w hS => Y.fieldAddr fo_40_1 hF rfl) rfl fun a hF => stepV (i := 7) rfl hF (fun w hS => Y.load1L 3 sz_3 hF rfl hS rfl rfl) rfl fun a hF => stepV (i := 8) rfl hF (fun w hS => Y.move hF rfl) rfl fun a hF => stepV (i := 9) rfl hF (fun w hS => Y.sub hF rfl rfl) rfl fun a hF => oneV (i := 5) rfl ?_ trivial
    refine O.callP (us := [.int .i64 (wr (rv_4.1 - rv_3.1.Low))]) ca_39 hF hS (r0Size_ok hS.stab (wr (rv_4.1 - rv_3.1.Low)) rv_14 hx_14) rfl rfl fun a w hF hS => nil (then_n ⟨hS.weak ⟨rfl, rfl, rfl, trivial⟩, ?_⟩)
    refine oneV (i := 10) rfl ?_ trivial
    refine O.callP (us := [.int .i64 (wr (rv_3.1.High - rv_4.1))]) ca_39 hF hS (r0Size_ok hS.stab (wr (rv_3.1.High - rv_4.1)) rv_15 hx_15) rfl rfl fun a w hF hS => nil (then_n ⟨hS.weak ⟨rfl, rfl, rfl, trivial⟩, ?_⟩)
    refine stepV (i := 11) rfl hF (fun w hS => Y.max2 hF rfl rfl) rfl fun a hF => stepV (i := 12) rfl hF (fun w hS => Y.eql hF rfl rfl) rfl fun a hF => stepV (i := 13) rfl hF (fun w hS => Y.move hF rfl) rfl fun a hF => stepV_on (i := 14) rfl hF rfl rfl hbv_17 (fun w hS => Y.move hF rfl) rfl fun a hF => stepV_on (i := 15) rfl hF rfl rfl hbv_17 (fun w hS => Y.move hF rfl) rfl fun a hF => stepV_on (i := 16) rfl hF rfl rfl hbv_17 (fun w hS => Y.geq hF rfl rfl) rfl fun a hF => stepV (i := 17) rfl hF (fun w hS => Y.pick_t hF rfl hbv_17 rfl) rfl fun a hF => stepV (i := 18) rfl hF (fun w hS => Y.move hF rfl) rfl fun a hF => stepV_on (i := 19) rfl hF rfl rfl hbv_18 (fun w hS => Y.move hF rfl) rfl fun a hF => stepV_on (i := 20) rfl hF rfl rfl hbv_18 (fun w hS => Y.move hF rfl) rfl fun a hF => stepV_on (i := 21) rfl hF rfl rfl hbv_18 (fun w hS => Y.geq hF rfl rfl) rfl fun a hF => stepV_on (i := 22) rfl hF rfl rfl hbv_18 (fun w hS => Y.move hF rfl) rfl fun a hF => stepV_on (i := 23) rfl hF rfl rfl hbv_19 (fun w hS => Y.move hF rfl) rfl fun a hF => stepV_on (i := 24) rfl hF rfl rfl hbv_19 (fun w hS => Y.move hF rfl) rfl fun a hF => stepV_on (i := 25) rfl hF rfl rfl hbv_19 (fun w hS => Y.gtr hF rfl rfl) rfl fun a hF => stepV_on (i := 26) rfl hF rfl rfl hbv_18 (fun w hS => Y.pick_f hF rfl hbv_19 rfl) rfl fun a hF => stepV (i := 27) rfl hF (fun w hS => Y.pick_t hF rfl hbv_18 rfl) rfl fun a hF => toTailV ⟨hF.weak ⟨rfl, rfl, trivial⟩, hS.weak ⟨rfl, rfl, rfl, trivial⟩⟩
   replace ht_6 := cond_f ht_6 hbv_18
   obtain rfl := some_inj ht_6
   refine stepV (i := 0) rfl hF (fun w hS => Y.move hF rfl) rfl fun a hF => stepV (i := 1) rfl hF (fun w hS => Y.move hF rfl) rfl fun a hF => stepV (i := 2) rfl hF (fun w hS => Y.fieldAddr fo_40_0 hF rfl) rfl fun a hF => stepV (i := 3) rfl hF (fun w hS => Y.load1L 3 sz_3 hF rfl hS rfl rfl) rfl fun a hF => stepV (i := 4) rfl hF (fun w hS => Y.sub hF rfl rfl) rfl fun a hF => stepV (i := 6) rfl hF (fun w hS => Y.fieldAddr fo_40_1 hF rfl) rfl fun a hF => stepV (i := 7) rfl hF (fun w hS => Y.load1L 3 sz_3 hF rfl hS rfl rfl) rfl fun a hF => stepV (i := 8) rfl hF (fun w hS => Y.move hF rfl) rfl fun a hF => stepV (i := 9) rfl hF (fun w hS => Y.sub hF rfl rfl) rfl fun a hF => oneV (i := 5) rfl ?_ trivial
   refine O.callP (us := [.int .i64 (wr (rv_4.1 - rv_3.1.Low))]) ca_39 hF hS (r0Size_ok hS.stab (wr (rv_4.1 - rv_3.1.Low)) rv_14 hx_14) rfl rfl fun a w hF hS => nil (then_n ⟨hS.weak ⟨rfl, rfl, rfl, trivial⟩, ?_⟩)
   refine oneV (i := 10) rfl ?_ trivial
   refine O.callP (us := [.int .i64 (wr (rv_3.1.High - rv_4.1))]) ca_39 hF hS (r0Size_ok hS.stab (wr (rv_3.1.High - rv_4.1)) rv_15 hx_15) rfl rfl fun a w hF hS => nil (then_n ⟨hS.weak ⟨rfl, rfl, rfl, trivial⟩, ?_⟩)
   refine stepV (i := 11) rfl hF (fun w hS => Y.max2 hF rfl rfl) rfl fun a hF => stepV (i := 12) rfl hF (fun w hS => Y.eql hF rfl rfl) rfl fun a hF => stepV (i := 13) rfl hF (fun w hS => Y.move hF rfl) rfl fun a hF => stepV_on (i := 14) rfl hF rfl rfl hbv_17 (fun w hS => Y.move hF rfl) rfl fun a hF => stepV_on (i := 15) rfl hF rfl rfl hbv_17 (fun w hS => Y.move hF rfl) rfl fun a hF => stepV_on (i := 16) rfl hF rfl rfl hbv_17 (fun w hS => Y.geq hF rfl rfl) rfl fun a hF => stepV (i := 17) rfl hF (fun w hS => Y.pick_t hF rfl hbv_17 rfl) rfl fun a hF => stepV (i := 18) rfl hF (fun w hS => Y.move hF rfl) rfl fun a hF => stepV_off (i := 19) rfl hF rfl rfl hbv_18 rfl fun a hF => stepV_off (i := 20) rfl hF rfl rfl hbv_18 rfl fun a hF => stepV_off (i := 21) rfl hF rfl rfl hbv_18 rfl fun a hF => stepV_off (i := 22) rfl hF rfl rfl hbv_18 rfl fun a hF => stepV_offu (i := 23) rfl hF rfl rfl rfl fun a hF => stepV_offu (i := 24) rfl hF rfl rfl rfl fun a hF => stepV_offu (i := 25) rfl hF rfl rfl rfl fun a hF => stepV_off (i := 26) rfl hF rfl rfl hbv_18 rfl fun a hF => stepV (i := 27) rfl hF (fun w hS => Y.pick_f hF rfl hbv_18 rfl) rfl fun a hF => toTailV ⟨hF.weak ⟨rfl, rfl, trivial⟩, hS.weak ⟨rfl, rfl, rfl, trivial⟩⟩
  replace ht_4 := cond_f ht_4 hbv_17
  obtain rfl := some_inj ht_4
  replace ht_6 := cond_f ht_6 rfl
  obtain rfl := some_inj ht_6
  refine stepV (i := 0) rfl hF (fun w hS => Y.move hF rfl) rfl fun a hF => stepV (i := 1) rfl hF (fun w hS => Y.move hF rfl) rfl fun a hF => stepV (i := 2) rfl hF (fun w hS => Y.fieldAddr fo_40_0 hF rfl) rfl fun a hF => stepV (i := 3) rfl hF (fun w hS => Y.load1L 3 sz_3 hF rfl hS rfl rfl) rfl fun a hF => stepV (i := 4) rfl hF (fun w hS => Y.sub hF rfl rfl) rfl fun a hF => stepV (i := 6) rfl hF (fun w hS => Y.fieldAddr fo_40_1 hF rfl) rfl fun a hF => stepV (i := 7) rfl hF (fun w hS => Y.load1L 3 sz_3 hF rfl hS rfl rfl) rfl fun a hF => stepV (i := 8) rfl hF (fun w hS => Y.move hF rfl) rfl fun a hF => stepV (i := 9) rfl hF (fun w hS => Y.sub hF rfl rfl) rfl fun a hF => oneV (i := 5) rfl ?_ trivial
  refine O.callP (us := [.int .i64 (wr (rv_4.1 - rv_3.1.Low))]) ca_39 hF hS (r0Size_ok hS.stab (wr (rv_4.1 - rv_3.1.Low)) rv_14 hx_14) rfl rfl fun a w hF hS => nil (then_n ⟨hS.weak ⟨rfl, rfl, rfl, trivial⟩, ?_⟩)
  refine oneV (i := 10) rfl ?_ trivial
  refine O.callP (us := [.int .i64 (wr (rv_3.1.High - rv_4.1))]) ca_39 hF hS (r0Size_ok hS.stab (wr (rv_3.1.High - rv_4.1)) rv_15 hx_15) rfl rfl fun a w hF hS => nil (then_n ⟨hS.weak ⟨rfl, rfl, rfl, trivial⟩, ?_⟩)
  refine stepV (i := 11) rfl hF (fun w hS => Y.max2 hF rfl rfl) rfl fun a hF => stepV (i := 12) rfl hF (fun w hS => Y.eql hF rfl rfl) rfl fun a hF => stepV (i := 13) rfl hF (fun w hS => Y.move hF rfl) rfl fun a hF => stepV_off (i := 14) rfl hF rfl rfl hbv_17 rfl fun a hF => stepV_off (i := 15) rfl hF rfl rfl hbv_17 rfl fun a hF => stepV_off (i := 16) rfl hF rfl rfl hbv_17 rfl fun a hF => stepV (i := 17) rfl hF (fun w hS => Y.pick_f hF rfl hbv_17 rfl) rfl fun a hF => stepV (i := 18) rfl hF (fun w hS => Y.move hF rfl) rfl fun a hF => stepV_off (i := 19) rfl hF rfl rfl rfl rfl fun a hF => stepV_off (i := 20) rfl hF rfl rfl rfl rfl fun a hF => stepV_off (i := 21) rfl hF rfl rfl rfl rfl fun a hF => stepV_off (i := 22) rfl hF rfl rfl rfl rfl fun a hF => stepV_offu (i := 23) rfl hF rfl rfl rfl fun a hF => stepV_offu (i := 24) rfl hF rfl rfl rfl fun a hF => stepV_offu (i := 25) rfl hF rfl rfl rfl fun a hF => stepV_off (i := 26) rfl hF rfl rfl rfl rfl fun a hF => stepV (i := 27) rfl hF (fun w hS => Y.pick_f hF rfl rfl rfl) rfl fun a hF => toTailV ⟨hF.weak ⟨rfl, rfl, trivial⟩, hS.weak ⟨rfl, rfl, rfl, trivial⟩⟩
 rintro a w ⟨hF, hS⟩
 refine step hF (Y.move hF rfl) rfl fun a hF => ?_
 obtain ⟨t_7, ht_7, h⟩ := bind_some h
 refine join (N := 173) (rs := []) (w0 := w0) (D0 := D0) 2 (us := [(4, .bool false), (172, .bool t_7)]) (ms := [(1, .cells b [.int .i64 n.Exchanges, .slice p n.Lines.length c, .int .i64 n.Hops, .slice p_1 n.Loops.length c_1] 25), (2, .cells b_1 [.int .i64 k.a0, .int .i64 k.a1, .int .i64 k.a2] 61), (3, .cells b_2 [.int .i64 rv_3.1.Low, .int .i64 rv_3.1.High] 40)]) (D' := D0) ?_ ?_
 ·rcases bcases t_6 with hbv_20 | hbv_20
  ·skip
   replace h := cond_t ht_7 hbv_20
   refine guard_on hF rfl rfl hbv_20 ?_
   obtain ⟨rv_16, hx_16, h⟩ := bind_some h
   refine O.callP (us := []) ca_23 hF hS (remontoirlaw06_works_ok hS.stab hG rv_16 hx_16) rfl rfl fun a w hF hS => step hF (Y.pick_t hF rfl hbv_20 rfl) rfl fun a hF => ?_
   obtain rfl := some_inj h
   exact nil (then_n ⟨hF.weak ⟨rfl, rfl, trivial⟩, hS.weak ⟨rfl, rfl, rfl, trivial⟩⟩)
  replace h := cond_f ht_7 hbv_20
  refine guard_off hF rfl rfl hbv_20 rfl fun a hF => step hF (Y.pick_f hF rfl hbv_20 rfl) rfl fun a hF => ?_
  obtain rfl := some_inj h
  exact nil (then_n ⟨hF.weak ⟨rfl, rfl, trivial⟩, hS.weak ⟨rfl, rfl, rfl, trivial⟩⟩)
 intro a w hF hS
 refine step hF (Y.assign hF rfl) rfl fun a hF => nil (then_n (ret_ ?_))
 obtain rfl := some_inj h
 exact leaveP Tryd.results7 hF hS (.cons (.tmp rfl) .nil) .nil rfl
end Go.Proofs.YthdbokigcfbgeaaDoor.Rt
