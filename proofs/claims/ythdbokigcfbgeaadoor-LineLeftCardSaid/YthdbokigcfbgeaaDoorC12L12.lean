/- Walks of the functions of this seat: what each Go function comes to, as a Lean function, and the proof. A law. Under no conditions. -/
import Derived.Test.YthdbokigcfbgeaaDoorC12WBZ
set_option linter.unusedVariables false
set_option linter.unusedSimpArgs false
set_option maxRecDepth 100000
set_option maxHeartbeats 4000000
namespace Go.Proofs.YthdbokigcfbgeaaDoor.Rt
open Go Go.RowKit
noncomputable def remontoirlaw06_LineLeft (n : LineNet) (set : Int) : Option Bool :=
  (line_Wrong n).bind fun rv =>
  (remontoirlaw06_sound n).bind fun rv_1 =>
  cond (!rv_1)
  ((cond ((rv.2 == 60) && ((rv.1.length : Int) == 0)) ((remontoirlaw06_works).bind fun rv_2 =>
  some rv_2) (some false)).bind fun t =>
  some t)
  ((cond (rv.2 != 0) (some true) ((r0Climbs rv.1 (n.Loops.length : Int)).bind fun rv_3 =>
  some (!rv_3))).bind fun t_1 =>
  (cond t_1 (some true) ((remontoirlaw06_holds n).bind fun rv_4 =>
  some (((rv.1.length : Int) == 0) != rv_4))).bind fun t_2 =>
  (cond t_2 (some true) ((remontoirlaw06_without n rv.1).bind fun rv_5 =>
  (remontoirlaw06_holds rv_5).bind fun rv_6 =>
  some (!rv_6))).bind fun t_3 =>
  cond t_3
  (some false)
  (if ¬ (n.Loops.length : Int) < 0 then
  (r0Rest set (gshl 1 (n.Loops.length : Int))).bind fun rv_7 =>
  (r0List rv_7 (n.Loops.length : Int)).bind fun rv_8 =>
  (cond (decide ((rv_8.length : Int) > (rv.1.length : Int))) (some true) ((cond ((rv_8.length : Int) == (rv.1.length : Int)) ((r0Ahead rv_8 rv.1).bind fun rv_9 =>
  some (!rv_9)) (some false)).bind fun t_4 =>
  some t_4)).bind fun t_5 =>
  cond t_5
  ((remontoirlaw06_works).bind fun rv_10 =>
  some rv_10)
  ((remontoirlaw06_without n rv_8).bind fun rv_11 =>
  (remontoirlaw06_holds rv_11).bind fun rv_12 =>
  (cond (!rv_12) ((remontoirlaw06_works).bind fun rv_13 =>
  some rv_13) (some false)).bind fun t_6 =>
  some t_6)
  else none))
theorem remontoirlaw06_LineLeft_ok {w0 : World} {D0 : Stab} (hD : D0.on w0) (n : LineNet) (set : Int) {p : Option Addr} {c : Nat} {p_1 : Option Addr} {c_1 : Nat} (hs : SRc C_LineLine D0 n.Lines p c) (hs_1 : SRc C_LineLoop D0 n.Loops p_1 c_1) (hG : Glob D0) (out : Bool) (h : remontoirlaw06_LineLeft n set = some out) : Calls Tryd.prog 12 [.agg #[.int .i64 n.Exchanges, .slice p n.Lines.length c, .int .i64 n.Hops, .slice p_1 n.Loops.length c_1], .int .i64 set].toArray w0 (RetP D0 w0 (.bool out)) := by
 refine enter _ 88 Tryd.func12 rfl Tryd.ntmps12 rfl fun a hF => ?_
 replace hF : Frm 88 [] [(0, .agg #[.int .i64 n.Exchanges, .slice p n.Lines.length c, .int .i64 n.Hops, .slice p_1 n.Loops.length c_1]), (1, .int .i64 set)] a := hF
 have hS := St.start hD
 unfold remontoirlaw06_LineLeft at h
 refine seq (region (O.box (cs := [.int .i64 n.Exchanges, .slice p n.Lines.length c, .int .i64 n.Hops, .slice p_1 n.Loops.length c_1]) 1 hF rfl rfl hS rfl fun b a w hF hS => step hF (Y.assign hF rfl) rfl fun a hF => nil (then_n (seq (region (step hF (Y.loadNL 1 sz_25 hF rfl hS rfl rfl rfl) rfl fun a hF => ?_))))))
 obtain ⟨rv, hx, h⟩ := bind_some h
 refine O.callS (us := [.agg #[.int .i64 n.Exchanges, .slice p n.Lines.length c, .int .i64 n.Hops, .slice p_1 n.Loops.length c_1]]) ca_32 hF hS (line_Wrong_ok hS.stab n hs hs_1 hG rv hx) rfl rfl fun v Dv a w hR hlev hF hS => ?_
 replace hs := hs.mono hlev
 replace hs_1 := hs_1.mono hlev
 replace hG := hG.mono hlev
 obtain ⟨p_2, c_2, rfl, hs_2⟩ := hR
 refine step hF (Y.move hF rfl) rfl fun a hF => step hF (Y.extract hF rfl rfl) rfl fun a hF => step hF (Y.extract hF rfl rfl) rfl fun a hF => step hF (Y.assign hF rfl) rfl fun a hF => step hF (Y.assign hF rfl) rfl fun a hF => nil (then_n (seq (seq (region (step hF (Y.loadNL 1 sz_25 hF rfl hS rfl rfl rfl) rfl fun a hF => ?_)))))
 obtain ⟨rv_1, hx_1, h⟩ := bind_some h
 refine O.callP (us := [.agg #[.int .i64 n.Exchanges, .slice p n.Lines.length c, .int .i64 n.Hops, .slice p_1 n.Loops.length c_1]]) ca_34 hF hS (remontoirlaw06_sound_ok hS.stab n hs hs_1 rv_1 hx_1) rfl rfl fun a w hF hS => step hF (Y.not hF rfl) rfl fun a hF => nil (then_n (cond_b hF rfl (fun hbv => ?_) (fun hbv => ?_)))
 ·replace h := cond_t h hbv
  refine seq (region (step hF (Y.move hF rfl) rfl fun a hF => step hF (Y.eql hF rfl rfl) rfl fun a hF => step hF (Y.move hF rfl) rfl fun a hF => join (N := 88) (rs := []) (w0 := w0) (D0 := D0) 4 (us := [(1, .int .i64 set), (2, .pointer (some ⟨b, 0, none⟩)), (4, .bool false), (5, .slice p_2 rv.1.length c_2), (6, .int .i64 rv.2), (22, .bool ((rv.2 == 60) && ((rv.1.length : Int) == 0)))]) (ms := [(1, .cells b [.int .i64 n.Exchanges, .slice p n.Lines.length c, .int .i64 n.Hops, .slice p_1 n.Loops.length c_1] 25)]) (D' := Dv) ?_ ?_))
  ·rcases bcases (rv.2 == 60) with hbv_1 | hbv_1
   ·skip
    refine guard_on hF rfl rfl hbv_1 (step hF (Y.move hF rfl) rfl fun a hF => guard_on hF rfl rfl hbv_1 (step hF (Y.lenSl u_32 hF rfl) rfl fun a hF => guard_on hF rfl rfl hbv_1 (step hF (Y.eql hF rfl rfl) rfl fun a hF => step hF (Y.pick_t hF rfl hbv_1 rfl) rfl fun a hF => nil (then_n ⟨hF.weak ⟨rfl, rfl, rfl, rfl, rfl, (by rw [hbv_1]; rfl), trivial⟩, hS.weak ⟨rfl, trivial⟩⟩))))
   refine guard_off hF rfl rfl hbv_1 rfl fun a hF => guard_off hF rfl rfl hbv_1 rfl fun a hF => guard_off hF rfl rfl hbv_1 rfl fun a hF => step hF (Y.pick_f hF rfl hbv_1 rfl) rfl fun a hF => nil (then_n ⟨hF.weak ⟨rfl, rfl, rfl, rfl, rfl, (by rw [hbv_1]; rfl), trivial⟩, hS.weak ⟨rfl, trivial⟩⟩)
  intro a w hF hS
  refine step hF (Y.move hF rfl) rfl fun a hF => ?_
  obtain ⟨t, ht, h⟩ := bind_some h
  refine join (N := 88) (rs := []) (w0 := w0) (D0 := D0) 2 (us := [(1, .int .i64 set), (2, .pointer (some ⟨b, 0, none⟩)), (4, .bool false), (5, .slice p_2 rv.1.length c_2), (6, .int .i64 rv.2), (25, .bool t)]) (ms := [(1, .cells b [.int .i64 n.Exchanges, .slice p n.Lines.length c, .int .i64 n.Hops, .slice p_1 n.Loops.length c_1] 25)]) (D' := Dv) ?_ ?_
  ·rcases bcases ((rv.2 == 60) && ((rv.1.length : Int) == 0)) with hbv_2 | hbv_2
   ·skip
    replace h := cond_t ht hbv_2
    refine guard_on hF rfl rfl hbv_2 ?_
    obtain ⟨rv_2, hx_2, h⟩ := bind_some h
    refine O.callP (us := []) ca_23 hF hS (remontoirlaw06_works_ok hS.stab hG rv_2 hx_2) rfl rfl fun a w hF hS => step hF (Y.pick_t hF rfl hbv_2 rfl) rfl fun a hF => ?_
    obtain rfl := some_inj h
    exact nil (then_n ⟨hF.weak ⟨rfl, rfl, rfl, rfl, rfl, rfl, trivial⟩, hS.weak ⟨rfl, trivial⟩⟩)
   replace h := cond_f ht hbv_2
   refine guard_off hF rfl rfl hbv_2 rfl fun a hF => step hF (Y.pick_f hF rfl hbv_2 rfl) rfl fun a hF => ?_
   obtain rfl := some_inj h
   exact nil (then_n ⟨hF.weak ⟨rfl, rfl, rfl, rfl, rfl, rfl, trivial⟩, hS.weak ⟨rfl, trivial⟩⟩)
  intro a w hF hS
  refine step hF (Y.assign hF rfl) rfl fun a hF => nil (then_n (ret_ (then_r ?_)))
  obtain rfl := some_inj h
  exact leaveP Tryd.results12 hF hS (.cons (.tmp rfl) .nil) .nil rfl
 replace h := cond_f h hbv
 refine skip_ (then_n (seq (seq (region (step hF (Y.move hF rfl) rfl fun a hF => step hF (Y.neq hF rfl rfl) rfl fun a hF => step hF (Y.move hF rfl) rfl fun a hF => ?_)))))
 obtain ⟨t_1, ht_1, h⟩ := bind_some h
 refine join (N := 88) (rs := []) (w0 := w0) (D0 := D0) 7 (us := [(1, .int .i64 set), (2, .pointer (some ⟨b, 0, none⟩)), (4, .bool false), (5, .slice p_2 rv.1.length c_2), (35, .bool t_1)]) (ms := [(1, .cells b [.int .i64 n.Exchanges, .slice p n.Lines.length c, .int .i64 n.Hops, .slice p_1 n.Loops.length c_1] 25)]) (D' := Dv) ?_ ?_
 ·rcases bcases (rv.2 != 0) with hbv_3 | hbv_3
  ·skip
   replace h := cond_t ht_1 hbv_3
   refine guard_off hF rfl rfl hbv_3 rfl fun a hF => guard_off hF rfl rfl hbv_3 rfl fun a hF => guard_off hF rfl rfl hbv_3 rfl fun a hF => guard_off hF rfl rfl hbv_3 rfl fun a hF => guard_off hF rfl rfl hbv_3 rfl fun a hF => guard_off hF rfl rfl hbv_3 rfl fun a hF => step hF (Y.pick_t hF rfl hbv_3 rfl) rfl fun a hF => ?_
   obtain rfl := some_inj h
   exact nil (then_n ⟨hF.weak ⟨rfl, rfl, rfl, rfl, rfl, trivial⟩, hS.weak ⟨rfl, trivial⟩⟩)
  replace h := cond_f ht_1 hbv_3
  refine guard_on hF rfl rfl hbv_3 (step hF (Y.move hF rfl) rfl fun a hF => guard_on hF rfl rfl hbv_3 (step hF (Y.fieldAddr fo_25_3 hF rfl) rfl fun a hF => guard_on hF rfl rfl hbv_3 (step hF (Y.load1L 1 sz_23 hF rfl hS rfl rfl) rfl fun a hF => guard_on hF rfl rfl hbv_3 (step hF (Y.lenSl u_23 hF rfl) rfl fun a hF => guard_on hF rfl rfl hbv_3 ?_))))
  obtain ⟨rv_3, hx_3, h⟩ := bind_some h
  refine O.callP (us := [.slice p_2 rv.1.length c_2, .int .i64 (n.Loops.length : Int)]) ca_50 hF hS (r0Climbs_ok hS.stab rv.1 (n.Loops.length : Int) hs_2 rv_3 hx_3) rfl rfl fun a w hF hS => guard_on hF rfl rfl hbv_3 (step hF (Y.not hF rfl) rfl fun a hF => step hF (Y.pick_f hF rfl hbv_3 rfl) rfl fun a hF => ?_)
  obtain rfl := some_inj h
  exact nil (then_n ⟨hF.weak ⟨rfl, rfl, rfl, rfl, rfl, trivial⟩, hS.weak ⟨rfl, trivial⟩⟩)
 intro a w hF hS
 refine step hF (Y.move hF rfl) rfl fun a hF => ?_
 obtain ⟨t_2, ht_2, h⟩ := bind_some h
 refine join (N := 88) (rs := []) (w0 := w0) (D0 := D0) 7 (us := [(1, .int .i64 set), (2, .pointer (some ⟨b, 0, none⟩)), (4, .bool false), (5, .slice p_2 rv.1.length c_2), (43, .bool t_2)]) (ms := [(1, .cells b [.int .i64 n.Exchanges, .slice p n.Lines.length c, .int .i64 n.Hops, .slice p_1 n.Loops.length c_1] 25)]) (D' := Dv) ?_ ?_
 ·rcases bcases t_1 with hbv_4 | hbv_4
  ·skip
   replace h := cond_t ht_2 hbv_4
   refine guard_off hF rfl rfl hbv_4 rfl fun a hF => guard_off hF rfl rfl hbv_4 rfl fun a hF => guard_off hF rfl rfl hbv_4 rfl fun a hF => guard_off hF rfl rfl hbv_4 rfl fun a hF => guard_off hF rfl rfl hbv_4 rfl fun a hF => guard_off hF rfl rfl hbv_4 rfl fun a hF => step hF (Y.pick_t hF rfl hbv_4 rfl) rfl fun a hF => ?_
   obtain rfl := some_inj h
   exact nil (then_n ⟨hF.weak ⟨rfl, rfl, rfl, rfl, rfl, trivial⟩, hS.weak ⟨rfl, trivial⟩⟩)
  replace h := cond_f ht_2 hbv_4
  refine guard_on hF rfl rfl hbv_4 (step hF (Y.move hF rfl) rfl fun a hF => guard_on hF rfl rfl hbv_4 (step hF (Y.lenSl u_32 hF rfl) rfl fun a hF => guard_on hF rfl rfl hbv_4 (step hF (Y.eql hF rfl rfl) rfl fun a hF => guard_on hF rfl rfl hbv_4 (step hF (Y.loadNL 1 sz_25 hF rfl hS rfl rfl rfl) rfl fun a hF => guard_on hF rfl rfl hbv_4 ?_))))
  obtain ⟨rv_4, hx_4, h⟩ := bind_some h
  refine O.callP (us := [.agg #[.int .i64 n.Exchanges, .slice p n.Lines.length c, .int .i64 n.Hops, .slice p_1 n.Loops.length c_1]]) ca_52 hF hS (remontoirlaw06_holds_ok hS.stab n hs hs_1 hG rv_4 hx_4) rfl rfl fun a w hF hS => guard_on hF rfl rfl hbv_4 (step hF (Y.neb u_4 hF rfl rfl) rfl fun a hF => step hF (Y.pick_f hF rfl hbv_4 rfl) rfl fun a hF => ?_)
  obtain rfl := some_inj h
  exact nil (then_n ⟨hF.weak ⟨rfl, rfl, rfl, rfl, rfl, trivial⟩, hS.weak ⟨rfl, trivial⟩⟩)
 intro a w hF hS
 refine step hF (Y.move hF rfl) rfl fun a hF => ?_
 obtain ⟨t_3, ht_3, h⟩ := bind_some h
 refine list_cut 6 (fun a w => ∃ D, Dv.le D ∧ Frm 88 [] [(1, .int .i64 set), (2, .pointer (some ⟨b, 0, none⟩)), (4, .bool false), (5, .slice p_2 rv.1.length c_2), (50, .bool t_3)] a ∧ St w0 D0 D [(1, .cells b [.int .i64 n.Exchanges, .slice p n.Lines.length c, .int .i64 n.Hops, .slice p_1 n.Loops.length c_1] 25)] w) ?_ ?_
 ·rcases bcases t_2 with hbv_5 | hbv_5
  ·skip
   replace h := cond_t ht_3 hbv_5
   refine guard_off hF rfl rfl hbv_5 rfl fun a hF => guard_off hF rfl rfl hbv_5 rfl fun a hF => guard_off hF rfl rfl hbv_5 rfl fun a hF => guard_off hF rfl rfl hbv_5 rfl fun a hF => guard_off hF rfl rfl hbv_5 rfl fun a hF => step hF (Y.pick_t hF rfl hbv_5 rfl) rfl fun a hF => ?_
   obtain rfl := some_inj h
   exact nil (then_n ⟨Dv, Stab.le.refl _, hF.weak ⟨rfl, rfl, rfl, rfl, rfl, trivial⟩, hS.weak ⟨rfl, trivial⟩⟩)
  replace h := cond_f ht_3 hbv_5
  refine guard_on hF rfl rfl hbv_5 (step hF (Y.loadNL 1 sz_25 hF rfl hS rfl rfl rfl) rfl fun a hF => guard_on hF rfl rfl hbv_5 (step hF (Y.move hF rfl) rfl fun a hF => guard_on hF rfl rfl hbv_5 ?_))
  obtain ⟨rv_5, hx_5, h⟩ := bind_some h
  refine O.callS (us := [.agg #[.int .i64 n.Exchanges, .slice p n.Lines.length c, .int .i64 n.Hops, .slice p_1 n.Loops.length c_1], .slice p_2 rv.1.length c_2]) ca_53 hF hS (remontoirlaw06_without_ok hS.stab n rv.1 hs hs_1 hs_2 rv_5 hx_5) rfl rfl fun v_1 Dv_1 a w hR_1 hlev_1 hF hS => ?_
  replace hG := hG.mono hlev_1
  obtain ⟨p_3, c_3, p_4, c_4, rfl, hs_3, hs_4⟩ := hR_1
  refine guard_on hF rfl rfl hbv_5 ?_
  obtain ⟨rv_6, hx_6, h⟩ := bind_some h
  refine O.callP (us := [.agg #[.int .i64 rv_5.Exchanges, .slice p_3 rv_5.Lines.length c_3, .int .i64 rv_5.Hops, .slice p_4 rv_5.Loops.length c_4]]) ca_52 hF hS (remontoirlaw06_holds_ok hS.stab rv_5 hs_3 hs_4 hG rv_6 hx_6) rfl rfl fun a w hF hS => guard_on hF rfl rfl hbv_5 (step hF (Y.not hF rfl) rfl fun a hF => step hF (Y.pick_f hF rfl hbv_5 rfl) rfl fun a hF => ?_)
  obtain rfl := some_inj h
  exact nil (then_n ⟨Dv_1, hlev_1, hF.weak ⟨rfl, rfl, rfl, rfl, rfl, trivial⟩, hS.weak ⟨rfl, trivial⟩⟩)
 rintro a w ⟨Dv_2, hlev_2, hF, hS⟩
 replace hs := hs.mono hlev_2
 replace hs_1 := hs_1.mono hlev_2
 replace hG := hG.mono hlev_2
 replace hs_2 := hs_2.mono hlev_2
 refine nil (then_n (cond_b hF rfl (fun hbv_6 => ?_) (fun hbv_6 => ?_)))
 ·replace h := cond_t h hbv_6
  refine seq (region (step hF (Y.assign hF rfl) rfl fun a hF => nil (then_n (ret_ (then_r ?_)))))
  obtain rfl := some_inj h
  exact leaveP Tryd.results12 hF hS (.cons (.tmp rfl) .nil) .nil rfl
 replace h := cond_f h hbv_6
 refine skip_ (then_n (seq ?_))
 obtain ⟨hg, h⟩ := ite_some h
 obtain ⟨rv_7, hx_7, h⟩ := bind_some h
 refine drawsV 9 (.flt 0 (.flt 1 (.flt 2 (.flt 3 (.flt 4 (.flt 6 (.flt 7 (.flt 8 (.alt 5 .done .stop))))))))) mixed_ (by kernel_rfl) (fun w => St w0 D0 Dv_2 [(1, .cells b [.int .i64 n.Exchanges, .slice p n.Lines.length c, .int .i64 n.Hops, .slice p_1 n.Loops.length c_1] 25)] w) (fun a w => Frm 88 [] [(2, .pointer (some ⟨b, 0, none⟩)), (4, .bool false), (5, .slice p_2 rv.1.length c_2), (56, .int .i64 rv_7), (59, .int .i64 (n.Loops.length : Int))] a ∧ St w0 D0 Dv_2 [(1, .cells b [.int .i64 n.Exchanges, .slice p n.Lines.length c, .int .i64 n.Hops, .slice p_1 n.Loops.length c_1] 25)] w) (hS.weak (ms := [(1, .cells b [.int .i64 n.Exchanges, .slice p n.Lines.length c, .int .i64 n.Hops, .slice p_1 n.Loops.length c_1] 25)]) ⟨rfl, trivial⟩).drew (fun _ _ _ _ h => h) ?_ ?_
 ·replace hS := hS.drew
  have hle0 := hS.le
  refine stepV (i := 0) rfl hF (fun w hS => Y.move hF rfl) rfl fun a hF => stepV (i := 1) rfl hF (fun w hS => Y.fieldAddr fo_25_3 hF rfl) rfl fun a hF => stepV (i := 2) rfl hF (fun w hS => Y.load1L 1 sz_23 hF rfl hS rfl rfl) rfl fun a hF => stepV (i := 3) rfl hF (fun w hS => Y.lenSl u_23 hF rfl) rfl fun a hF => stepV (i := 4) rfl hF (fun w hS => Y.shl hF rfl rfl hg) rfl fun a hF => stepV (i := 6) rfl hF (fun w hS => Y.fieldAddr fo_25_3 hF rfl) rfl fun a hF => stepV (i := 7) rfl hF (fun w hS => Y.load1L 1 sz_23 hF rfl hS rfl rfl) rfl fun a hF => stepV (i := 8) rfl hF (fun w hS => Y.lenSl u_23 hF rfl) rfl fun a hF => oneV (i := 5) rfl ?_ trivial
  refine O.callP (us := [.int .i64 set, .int .i64 (gshl 1 (n.Loops.length : Int))]) ca_41 hF hS (r0Rest_ok hS.stab set (gshl 1 (n.Loops.length : Int)) rv_7 hx_7) rfl rfl fun a w hF hS => nil (then_n ⟨hS.weak ⟨rfl, trivial⟩, ?_⟩)
  exact toTailV ⟨hF.weak ⟨rfl, rfl, rfl, rfl, rfl, trivial⟩, hS.weak ⟨rfl, trivial⟩⟩
 rintro a w ⟨hF, hS⟩
 obtain ⟨rv_8, hx_8, h⟩ := bind_some h
 refine O.callS (us := [.int .i64 rv_7, .int .i64 (n.Loops.length : Int)]) ca_54 hF hS (r0List_ok hS.stab rv_7 (n.Loops.length : Int) rv_8 hx_8) rfl rfl fun v_2 Dv_3 a w hR_2 hlev_3 hF hS => ?_
 replace hs := hs.mono hlev_3
 replace hs_1 := hs_1.mono hlev_3
 replace hG := hG.mono hlev_3
 replace hs_2 := hs_2.mono hlev_3
 obtain ⟨p_5, c_5, rfl, hs_5⟩ := hR_2
 refine step hF (Y.assign hF rfl) rfl fun a hF => nil (then_n (seq (seq (region (step hF (Y.move hF rfl) rfl fun a hF => step hF (Y.lenSl u_32 hF rfl) rfl fun a hF => step hF (Y.move hF rfl) rfl fun a hF => step hF (Y.lenSl u_32 hF rfl) rfl fun a hF => step hF (Y.gtr hF rfl rfl) rfl fun a hF => step hF (Y.move hF rfl) rfl fun a hF => ?_)))))
 obtain ⟨t_5, ht_5, h⟩ := bind_some h
 refine join (N := 88) (rs := []) (w0 := w0) (D0 := D0) 12 (us := [(2, .pointer (some ⟨b, 0, none⟩)), (4, .bool false), (7, .slice p_5 rv_8.length c_5), (78, .bool t_5)]) (ms := [(1, .cells b [.int .i64 n.Exchanges, .slice p n.Lines.length c, .int .i64 n.Hops, .slice p_1 n.Loops.length c_1] 25)]) (D' := Dv_3) ?_ ?_
 ·rcases bcases (decide ((rv_8.length : Int) > (rv.1.length : Int))) with hbv_7 | hbv_7
  ·skip
   replace h := cond_t ht_5 hbv_7
   refine guard_off hF rfl rfl hbv_7 rfl fun a hF => guard_off hF rfl rfl hbv_7 rfl fun a hF => guard_off hF rfl rfl hbv_7 rfl fun a hF => guard_off hF rfl rfl hbv_7 rfl fun a hF => guard_off hF rfl rfl hbv_7 rfl fun a hF => guard_off hF rfl rfl hbv_7 rfl fun a hF => guard_offu hF rfl rfl rfl fun a hF => guard_offu hF rfl rfl rfl fun a hF => guard_offu hF rfl rfl rfl fun a hF => guard_offu hF rfl rfl rfl fun a hF => guard_off hF rfl rfl hbv_7 rfl fun a hF => step hF (Y.pick_t hF rfl hbv_7 rfl) rfl fun a hF => ?_
   obtain rfl := some_inj h
   exact nil (then_n ⟨hF.weak ⟨rfl, rfl, rfl, rfl, trivial⟩, hS.weak ⟨rfl, trivial⟩⟩)
  replace h := cond_f ht_5 hbv_7
  refine guard_on hF rfl rfl hbv_7 (step hF (Y.move hF rfl) rfl fun a hF => guard_on hF rfl rfl hbv_7 (step hF (Y.lenSl u_32 hF rfl) rfl fun a hF => guard_on hF rfl rfl hbv_7 (step hF (Y.move hF rfl) rfl fun a hF => guard_on hF rfl rfl hbv_7 (step hF (Y.lenSl u_32 hF rfl) rfl fun a hF => guard_on hF rfl rfl hbv_7 (step hF (Y.eql hF rfl rfl) rfl fun a hF => guard_on hF rfl rfl hbv_7 (step hF (Y.move hF rfl) rfl fun a hF => ?_))))))
  obtain ⟨t_4, ht_4, h⟩ := bind_some h
  refine join (N := 88) (rs := []) (w0 := w0) (D0 := D0) 5 (us := [(2, .pointer (some ⟨b, 0, none⟩)), (4, .bool false), (7, .slice p_5 rv_8.length c_5), (66, .bool (decide ((rv_8.length : Int) > (rv.1.length : Int)))), (77, .bool t_4)]) (ms := [(1, .cells b [.int .i64 n.Exchanges, .slice p n.Lines.length c, .int .i64 n.Hops, .slice p_1 n.Loops.length c_1] 25)]) (D' := Dv_3) ?_ ?_
  ·rcases bcases ((rv_8.length : Int) == (rv.1.length : Int)) with hbv_8 | hbv_8
   ·skip
    replace h := cond_t ht_4 hbv_8
    refine guard_on hF rfl rfl hbv_8 (step hF (Y.move hF rfl) rfl fun a hF => guard_on hF rfl rfl hbv_8 (step hF (Y.move hF rfl) rfl fun a hF => guard_on hF rfl rfl hbv_8 ?_))
    obtain ⟨rv_9, hx_9, h⟩ := bind_some h
    refine O.callP (us := [.slice p_5 rv_8.length c_5, .slice p_2 rv.1.length c_2]) ca_43 hF hS (r0Ahead_ok hS.stab rv_8 rv.1 hs_5 hs_2 rv_9 hx_9) rfl rfl fun a w hF hS => guard_on hF rfl rfl hbv_8 (step hF (Y.not hF rfl) rfl fun a hF => guard_on hF rfl rfl hbv_7 (step hF (Y.pick_t hF rfl hbv_8 rfl) rfl fun a hF => ?_))
    obtain rfl := some_inj h
    exact nil (then_n ⟨hF.weak ⟨rfl, rfl, rfl, rfl, rfl, trivial⟩, hS.weak ⟨rfl, trivial⟩⟩)
   replace h := cond_f ht_4 hbv_8
   refine guard_off hF rfl rfl hbv_8 rfl fun a hF => guard_off hF rfl rfl hbv_8 rfl fun a hF => guard_off hF rfl rfl hbv_8 rfl fun a hF => guard_off hF rfl rfl hbv_8 rfl fun a hF => guard_on hF rfl rfl hbv_7 (step hF (Y.pick_f hF rfl hbv_8 rfl) rfl fun a hF => ?_)
   obtain rfl := some_inj h
   exact nil (then_n ⟨hF.weak ⟨rfl, rfl, rfl, rfl, rfl, trivial⟩, hS.weak ⟨rfl, trivial⟩⟩)
  intro a w hF hS
  refine step hF (Y.pick_f hF rfl hbv_7 rfl) rfl fun a hF => ?_
  obtain rfl := some_inj h
  exact nil (then_n ⟨hF.weak ⟨rfl, rfl, rfl, rfl, trivial⟩, hS.weak ⟨rfl, trivial⟩⟩)
 intro a w hF hS
 refine nil (then_n (cond_b hF rfl (fun hbv_9 => ?_) (fun hbv_9 => ?_)))
 ·replace h := cond_t h hbv_9
  refine seq (region ?_)
  obtain ⟨rv_10, hx_10, h⟩ := bind_some h
  refine O.callP (us := []) ca_23 hF hS (remontoirlaw06_works_ok hS.stab hG rv_10 hx_10) rfl rfl fun a w hF hS => step hF (Y.assign hF rfl) rfl fun a hF => nil (then_n (ret_ (then_r ?_)))
  obtain rfl := some_inj h
  exact leaveP Tryd.results12 hF hS (.cons (.tmp rfl) .nil) .nil rfl
 replace h := cond_f h hbv_9
 refine skip_ (then_n (seq (region (step hF (Y.loadNL 1 sz_25 hF rfl hS rfl rfl rfl) rfl fun a hF => step hF (Y.move hF rfl) rfl fun a hF => ?_))))
 obtain ⟨rv_11, hx_11, h⟩ := bind_some h
 refine O.callS (us := [.agg #[.int .i64 n.Exchanges, .slice p n.Lines.length c, .int .i64 n.Hops, .slice p_1 n.Loops.length c_1], .slice p_5 rv_8.length c_5]) ca_53 hF hS (remontoirlaw06_without_ok hS.stab n rv_8 hs hs_1 hs_5 rv_11 hx_11) rfl rfl fun v_3 Dv_4 a w hR_3 hlev_4 hF hS => ?_
 replace hG := hG.mono hlev_4
 obtain ⟨p_6, c_6, p_7, c_7, rfl, hs_6, hs_7⟩ := hR_3
 obtain ⟨rv_12, hx_12, h⟩ := bind_some h
 refine O.callP (us := [.agg #[.int .i64 rv_11.Exchanges, .slice p_6 rv_11.Lines.length c_6, .int .i64 rv_11.Hops, .slice p_7 rv_11.Loops.length c_7]]) ca_52 hF hS (remontoirlaw06_holds_ok hS.stab rv_11 hs_6 hs_7 hG rv_12 hx_12) rfl rfl fun a w hF hS => step hF (Y.not hF rfl) rfl fun a hF => step hF (Y.move hF rfl) rfl fun a hF => ?_
 obtain ⟨t_6, ht_6, h⟩ := bind_some h
 refine join (N := 88) (rs := []) (w0 := w0) (D0 := D0) 2 (us := [(4, .bool false), (87, .bool t_6)]) (ms := [(1, .cells b [.int .i64 n.Exchanges, .slice p n.Lines.length c, .int .i64 n.Hops, .slice p_1 n.Loops.length c_1] 25)]) (D' := Dv_4) ?_ ?_
 ·rcases bcases (!rv_12) with hbv_10 | hbv_10
  ·skip
   replace h := cond_t ht_6 hbv_10
   refine guard_on hF rfl rfl hbv_10 ?_
   obtain ⟨rv_13, hx_13, h⟩ := bind_some h
   refine O.callP (us := []) ca_23 hF hS (remontoirlaw06_works_ok hS.stab hG rv_13 hx_13) rfl rfl fun a w hF hS => step hF (Y.pick_t hF rfl hbv_10 rfl) rfl fun a hF => ?_
   obtain rfl := some_inj h
   exact nil (then_n ⟨hF.weak ⟨rfl, rfl, trivial⟩, hS.weak ⟨rfl, trivial⟩⟩)
  replace h := cond_f ht_6 hbv_10
  refine guard_off hF rfl rfl hbv_10 rfl fun a hF => step hF (Y.pick_f hF rfl hbv_10 rfl) rfl fun a hF => ?_
  obtain rfl := some_inj h
  exact nil (then_n ⟨hF.weak ⟨rfl, rfl, trivial⟩, hS.weak ⟨rfl, trivial⟩⟩)
 intro a w hF hS
 refine step hF (Y.assign hF rfl) rfl fun a hF => nil (then_n (ret_ ?_))
 obtain rfl := some_inj h
 exact leaveP Tryd.results12 hF hS (.cons (.tmp rfl) .nil) .nil rfl
end Go.Proofs.YthdbokigcfbgeaaDoor.Rt
