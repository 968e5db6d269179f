/- Walks of the functions of this seat: what each Go function comes to, as a Lean function, and the proof. A law. Under no conditions. -/
import Derived.Test.YthdbokigcfbgeaaDoorC9WBZ
set_option linter.unusedVariables false
set_option linter.unusedSimpArgs false
set_option maxRecDepth 100000
set_option maxHeartbeats 4000000
namespace Go.Proofs.YthdbokigcfbgeaaDoor.Rt
open Go Go.RowKit
noncomputable def remontoirlaw06_LineMore (n : LineNet) (more : LineLoop) (delay : Int) : Option Bool :=
  (remontoirlaw06_sound n).bind fun rv =>
  cond ((!rv) || ((n.Loops.length : Int) == 10))
  ((remontoirlaw06_works).bind fun rv_1 =>
  some rv_1)
  (if ([] : List LineLoop).length + n.Loops.length ≤ lim then
  if (([] : List LineLoop) ++ n.Loops).length + ([more]).length ≤ lim then
  (r0Rest more.Exchange n.Exchanges).bind fun rv_2 =>
  (line_Routes n rv_2).bind fun rv_3 =>
  (line_Routes (LineNet.mk n.Exchanges n.Lines n.Hops ((([] : List LineLoop) ++ n.Loops) ++ [more])) rv_2).bind fun rv_4 =>
  (line_Can n rv_2 delay).bind fun rv_5 =>
  (line_Can (LineNet.mk n.Exchanges n.Lines n.Hops ((([] : List LineLoop) ++ n.Loops) ++ [more])) rv_2 delay).bind fun rv_6 =>
  cond ((rv_5.2 != rv_3.2) || (rv_6.2 != rv_4.2))
  (some false)
  (cond (rv_4.2 != 0)
  ((cond (((((rv_4.2 == 60) || (rv_4.2 == 4)) || (rv_4.2 == 62)) && ((rv_4.1.length : Int) == 0)) && (!rv_6.1)) ((remontoirlaw06_works).bind fun rv_7 =>
  some rv_7) (some false)).bind fun t =>
  some t)
  ((cond (rv_3.2 == 0) ((remontoirlaw06_all rv_4.1 rv_3.1).bind fun rv_8 =>
  some rv_8) (some false)).bind fun t_1 =>
  (cond (t_1 && (rv_5.1 || (!rv_6.1))) ((remontoirlaw06_works).bind fun rv_9 =>
  some rv_9) (some false)).bind fun t_2 =>
  some t_2))
  else none
  else none)
theorem remontoirlaw06_LineMore_ok {w0 : World} {D0 : Stab} (hD : D0.on w0) (n : LineNet) (more : LineLoop) (delay : Int) {p : Option Addr} {c : Nat} {p_1 : Option Addr} {c_1 : Nat} (hs : SRc C_LineLine D0 n.Lines p c) (hs_1 : SRc C_LineLoop D0 n.Loops p_1 c_1) (hG : Glob D0) (out : Bool) (h : remontoirlaw06_LineMore n more delay = some out) : Calls Tryd.prog 9 [.agg #[.int .i64 n.Exchanges, .slice p n.Lines.length c, .int .i64 n.Hops, .slice p_1 n.Loops.length c_1], .agg #[.int .i64 more.Exchange, .int .i64 more.Read.Low, .int .i64 more.Read.High], .int .i64 delay].toArray w0 (RetP D0 w0 (.bool out)) := by
 refine enter _ 116 Tryd.func9 rfl Tryd.ntmps9 rfl fun a hF => ?_
 replace hF : Frm 116 [] [(0, .agg #[.int .i64 n.Exchanges, .slice p n.Lines.length c, .int .i64 n.Hops, .slice p_1 n.Loops.length c_1]), (1, .agg #[.int .i64 more.Exchange, .int .i64 more.Read.Low, .int .i64 more.Read.High]), (2, .int .i64 delay)] a := hF
 have hS := St.start hD
 unfold remontoirlaw06_LineMore at h
 refine seq (region (O.box (cs := [.int .i64 n.Exchanges, .slice p n.Lines.length c, .int .i64 n.Hops, .slice p_1 n.Loops.length c_1]) 1 hF rfl rfl hS rfl fun b a w hF hS => O.box (cs := [.int .i64 more.Exchange, .int .i64 more.Read.Low, .int .i64 more.Read.High]) 2 hF rfl rfl hS rfl fun b_1 a w hF hS => step hF (Y.assign hF rfl) rfl fun a hF => nil (then_n (seq (seq (region (step hF (Y.loadNL 1 sz_25 hF rfl hS rfl rfl rfl) rfl fun a hF => ?_)))))))
 obtain ⟨rv, hx, h⟩ := bind_some h
 refine O.callP (us := [.agg #[.int .i64 n.Exchanges, .slice p n.Lines.length c, .int .i64 n.Hops, .slice p_1 n.Loops.length c_1]]) ca_34 hF hS (remontoirlaw06_sound_ok hS.stab n hs hs_1 rv hx) rfl rfl fun a w hF hS => step hF (Y.not hF rfl) rfl fun a hF => step hF (Y.move hF rfl) rfl fun a hF => join (N := 116) (rs := []) (w0 := w0) (D0 := D0) 5 (us := [(2, .int .i64 delay), (3, .pointer (some ⟨b, 0, none⟩)), (4, .pointer (some ⟨b_1, 0, none⟩)), (6, .bool false), (25, .bool ((!rv) || ((n.Loops.length : Int) == 10)))]) (ms := [(1, .cells b [.int .i64 n.Exchanges, .slice p n.Lines.length c, .int .i64 n.Hops, .slice p_1 n.Loops.length c_1] 25), (2, .cells b_1 [.int .i64 more.Exchange, .int .i64 more.Read.Low, .int .i64 more.Read.High] 71)]) (D' := D0) ?_ ?_
 ·rcases bcases (!rv) with hbv | hbv
  ·skip
   refine guard_off hF rfl rfl hbv rfl fun a hF => guard_off hF rfl rfl hbv rfl fun a hF => guard_off hF rfl rfl hbv rfl fun a hF => guard_off hF rfl rfl hbv rfl fun a hF => step hF (Y.pick_t hF rfl hbv rfl) rfl fun a hF => nil (then_n ⟨hF.weak ⟨rfl, rfl, rfl, rfl, (by rw [hbv]; rfl), trivial⟩, hS.weak ⟨rfl, rfl, trivial⟩⟩)
  refine guard_on hF rfl rfl hbv (step hF (Y.fieldAddr fo_25_3 hF rfl) rfl fun a hF => guard_on hF rfl rfl hbv (step hF (Y.load1L 1 sz_23 hF rfl hS rfl rfl) rfl fun a hF => guard_on hF rfl rfl hbv (step hF (Y.lenSl u_23 hF rfl) rfl fun a hF => guard_on hF rfl rfl hbv (step hF (Y.eql hF rfl rfl) rfl fun a hF => step hF (Y.pick_f hF rfl hbv rfl) rfl fun a hF => nil (then_n ⟨hF.weak ⟨rfl, rfl, rfl, rfl, (by rw [hbv]; rfl), trivial⟩, hS.weak ⟨rfl, rfl, trivial⟩⟩)))))
 intro a w hF hS
 refine nil (then_n (cond_b hF rfl (fun hbv_1 => ?_) (fun hbv_1 => ?_)))
 ·replace h := cond_t h hbv_1
  refine seq (region ?_)
  obtain ⟨rv_1, hx_1, h⟩ := bind_some h
  refine O.callP (us := []) ca_23 hF hS (remontoirlaw06_works_ok hS.stab hG rv_1 hx_1) rfl rfl fun a w hF hS => step hF (Y.assign hF rfl) rfl fun a hF => nil (then_n (ret_ (then_r ?_)))
  obtain rfl := some_inj h
  exact leaveP Tryd.results9 hF hS (.cons (.tmp rfl) .nil) .nil rfl
 replace h := cond_f h hbv_1
 refine skip_ (then_n (seq (region (step hF (Y.loadNL 1 sz_25 hF rfl hS rfl rfl rfl) rfl fun a hF => O.alloc 3 zc_25 hF hS rfl fun b_2 a w hF hS => O.store (us := [.int .i64 n.Exchanges, .slice p n.Lines.length c, .int .i64 n.Hops, .slice p_1 n.Loops.length c_1]) 3 sz_25 hF rfl rfl rfl rfl hS rfl rfl fun a w hF hS => nil (then_n (seq ?_))))))
 obtain ⟨hg, h⟩ := ite_some h
 refine drawsV 6 (.flt 1 (.flt 2 (.flt 4 (.alt 0 (.alt 3 (.alt 5 .done .stop) (.alt 5 (.alt 3 .done .stop) .stop)) (.alt 5 (.alt 0 (.alt 3 .done .stop) .stop) .stop))))) mixed_ (by kernel_rfl) (fun w => St w0 D0 D0 [(1, .cells b [.int .i64 n.Exchanges, .slice p n.Lines.length c, .int .i64 n.Hops, .slice p_1 n.Loops.length c_1] 25), (2, .cells b_1 [.int .i64 more.Exchange, .int .i64 more.Read.Low, .int .i64 more.Read.High] 71), (3, .cells b_2 [.int .i64 n.Exchanges, .slice p n.Lines.length c, .int .i64 n.Hops, .slice p_1 n.Loops.length c_1] 25)] w) (fun a w => ∃ (p_3 : Option Addr) (c_3 : Nat) (p_4 : Option Addr) (c_4 : Nat) (cs : List Value), Frm 116 [] [(2, .int .i64 delay), (3, .pointer (some ⟨b, 0, none⟩)), (4, .pointer (some ⟨b_1, 0, none⟩)), (6, .bool false), (7, .pointer (some ⟨b_2, 0, none⟩)), (31, .slice p_3 (([] : List LineLoop) ++ n.Loops).length c_3), (33, .slice p_4 ([more]).length c_4)] a ∧ St w0 D0 D0 [(1, .cells b [.int .i64 n.Exchanges, .slice p n.Lines.length c, .int .i64 n.Hops, .slice p_1 n.Loops.length c_1] 25), (2, .cells b_1 [.int .i64 more.Exchange, .int .i64 more.Read.Low, .int .i64 more.Read.High] 71), (3, .cells b_2 [.int .i64 n.Exchanges, .slice p n.Lines.length c, .int .i64 n.Hops, .slice p_1 n.Loops.length c_1] 25), (4, .own p_3 (([] : List LineLoop) ++ n.Loops).length c_3 cs 71 3), (5, .own p_4 ([more]).length c_4 ([.int .i64 more.Exchange, .int .i64 more.Read.Low, .int .i64 more.Read.High]) 71 3)] w ∧ Reps C_LineLoop D0 (([] : List LineLoop) ++ n.Loops) cs ∧ Reps C_LineLoop D0 ([more]) ([.int .i64 more.Exchange, .int .i64 more.Read.Low, .int .i64 more.Read.High])) (hS.weak (ms := [(1, .cells b [.int .i64 n.Exchanges, .slice p n.Lines.length c, .int .i64 n.Hops, .slice p_1 n.Loops.length c_1] 25), (2, .cells b_1 [.int .i64 more.Exchange, .int .i64 more.Read.Low, .int .i64 more.Read.High] 71), (3, .cells b_2 [.int .i64 n.Exchanges, .slice p n.Lines.length c, .int .i64 n.Hops, .slice p_1 n.Loops.length c_1] 25)]) ⟨rfl, rfl, rfl, trivial⟩).drew (fun _ _ _ _ h => h) ?_ ?_
 ·replace hS := hS.drew
  have hle0 := hS.le
  refine stepV (i := 1) rfl hF (fun w hS => Y.fieldAddr fo_25_3 hF rfl) rfl fun a hF => stepV (i := 2) rfl hF (fun w hS => Y.load1L 1 sz_23 hF rfl hS rfl rfl) rfl fun a hF => stepV (i := 4) rfl hF (fun w hS => Y.loadNL 2 sz_71 hF rfl hS rfl rfl rfl) rfl fun a hF => oneV (i := 0) rfl ?_ ?_
  ·skip
   have hr_3 : Reps C_LineLoop D0 ([] : List LineLoop) [] := Reps.nil
   refine O.buildSlice (E := 71) (C := C_LineLoop) (xs := ([] : List LineLoop)) (cs := []) (us := []) (parts := []) 4 hF hS rfl (by kernel_rfl) hr_3 rfl rfl rfl fun p_5 c_5 a w hF hS => nil (then_n ⟨hS.weak ⟨rfl, rfl, rfl, trivial⟩, ?_⟩)
   refine oneV (i := 3) rfl ?_ ?_
   ·skip
    obtain ⟨ds_1, hds_1, hsrc_1⟩ := src_stab (C := C_LineLoop) (xs := n.Loops) (hs_1).1 hS.stab
    refine O.append (C := C_LineLoop) (xs := ([] : List LineLoop)) (ys := n.Loops) 4 gr_23 hF rfl rfl hS rfl hsrc_1 hr_3 hds_1 hg rfl fun p_6 c_6 a w hF hS hr_4 => nil (then_n ⟨hS.weak ⟨rfl, rfl, rfl, trivial⟩, ?_⟩)
    refine oneV (i := 5) rfl ?_ trivial
    have hr_5 : Reps C_LineLoop D0 [more] [.int .i64 more.Exchange, .int .i64 more.Read.Low, .int .i64 more.Read.High] := Reps.cons (C := C_LineLoop) (x := more) (c := [.int .i64 more.Exchange, .int .i64 more.Read.Low, .int .i64 more.Read.High]) (r := []) rfl (Reps.nil)
    refine O.buildSlice (E := 71) (C := C_LineLoop) (xs := [more]) (cs := [.int .i64 more.Exchange, .int .i64 more.Read.Low, .int .i64 more.Read.High]) (us := [.agg #[.int .i64 more.Exchange, .int .i64 more.Read.Low, .int .i64 more.Read.High]]) (parts := [(0, (.tmp 32))]) 5 hF hS rfl (by kernel_rfl) hr_5 rfl rfl rfl fun p_7 c_7 a w hF hS => nil (then_n ⟨hS.weak ⟨rfl, rfl, rfl, trivial⟩, ?_⟩)
    exact toTailV ⟨p_6, c_6, p_7, c_7, ([] ++ ds_1), hF.weak ⟨rfl, rfl, rfl, rfl, rfl, rfl, rfl, trivial⟩, hS.weak ⟨rfl, rfl, rfl, rfl, rfl, trivial⟩, hr_4, hr_5⟩
   refine oneV (i := 5) rfl ?_ trivial
   have hr_6 : Reps C_LineLoop D0 [more] [.int .i64 more.Exchange, .int .i64 more.Read.Low, .int .i64 more.Read.High] := Reps.cons (C := C_LineLoop) (x := more) (c := [.int .i64 more.Exchange, .int .i64 more.Read.Low, .int .i64 more.Read.High]) (r := []) rfl (Reps.nil)
   refine O.buildSlice (E := 71) (C := C_LineLoop) (xs := [more]) (cs := [.int .i64 more.Exchange, .int .i64 more.Read.Low, .int .i64 more.Read.High]) (us := [.agg #[.int .i64 more.Exchange, .int .i64 more.Read.Low, .int .i64 more.Read.High]]) (parts := [(0, (.tmp 32))]) 5 hF hS rfl (by kernel_rfl) hr_6 rfl rfl rfl fun p_8 c_8 a w hF hS => nil (then_n ⟨hS.weak ⟨rfl, rfl, rfl, trivial⟩, ?_⟩)
   refine oneV (i := 3) rfl ?_ trivial
   obtain ⟨ds_2, hds_2, hsrc_2⟩ := src_stab (C := C_LineLoop) (xs := n.Loops) (hs_1).1 hS.stab
   refine O.append (C := C_LineLoop) (xs := ([] : List LineLoop)) (ys := n.Loops) 4 gr_23 hF rfl rfl hS rfl hsrc_2 hr_3 hds_2 hg rfl fun p_9 c_9 a w hF hS hr_7 => nil (then_n ⟨hS.weak ⟨rfl, rfl, rfl, trivial⟩, ?_⟩)
   exact toTailV ⟨p_9, c_9, p_8, c_8, ([] ++ ds_2), hF.weak ⟨rfl, rfl, rfl, rfl, rfl, rfl, rfl, trivial⟩, hS.weak ⟨rfl, rfl, rfl, rfl, rfl, trivial⟩, hr_7, hr_6⟩
  refine oneV (i := 5) rfl ?_ trivial
  have hr_8 : Reps C_LineLoop D0 [more] [.int .i64 more.Exchange, .int .i64 more.Read.Low, .int .i64 more.Read.High] := Reps.cons (C := C_LineLoop) (x := more) (c := [.int .i64 more.Exchange, .int .i64 more.Read.Low, .int .i64 more.Read.High]) (r := []) rfl (Reps.nil)
  refine O.buildSlice (E := 71) (C := C_LineLoop) (xs := [more]) (cs := [.int .i64 more.Exchange, .int .i64 more.Read.Low, .int .i64 more.Read.High]) (us := [.agg #[.int .i64 more.Exchange, .int .i64 more.Read.Low, .int .i64 more.Read.High]]) (parts := [(0, (.tmp 32))]) 5 hF hS rfl (by kernel_rfl) hr_8 rfl rfl rfl fun p_10 c_10 a w hF hS => nil (then_n ⟨hS.weak ⟨rfl, rfl, rfl, trivial⟩, ?_⟩)
  refine oneV (i := 0) rfl ?_ trivial
  have hr_9 : Reps C_LineLoop D0 ([] : List LineLoop) [] := Reps.nil
  refine O.buildSlice (E := 71) (C := C_LineLoop) (xs := ([] : List LineLoop)) (cs := []) (us := []) (parts := []) 4 hF hS rfl (by kernel_rfl) hr_9 rfl rfl rfl fun p_11 c_11 a w hF hS => nil (then_n ⟨hS.weak ⟨rfl, rfl, rfl, trivial⟩, ?_⟩)
  refine oneV (i := 3) rfl ?_ trivial
  obtain ⟨ds_3, hds_3, hsrc_3⟩ := src_stab (C := C_LineLoop) (xs := n.Loops) (hs_1).1 hS.stab
  refine O.append (C := C_LineLoop) (xs := ([] : List LineLoop)) (ys := n.Loops) 4 gr_23 hF rfl rfl hS rfl hsrc_3 hr_9 hds_3 hg rfl fun p_12 c_12 a w hF hS hr_10 => nil (then_n ⟨hS.weak ⟨rfl, rfl, rfl, trivial⟩, ?_⟩)
  exact toTailV ⟨p_12, c_12, p_10, c_10, ([] ++ ds_3), hF.weak ⟨rfl, rfl, rfl, rfl, rfl, rfl, rfl, trivial⟩, hS.weak ⟨rfl, rfl, rfl, rfl, rfl, trivial⟩, hr_10, hr_8⟩
 rintro a w ⟨p_3, c_3, p_4, c_4, cs, hF, hS, hj, hj_1⟩
 obtain ⟨hg_1, h⟩ := ite_some h
 refine O.append (C := C_LineLoop) (xs := (([] : List LineLoop) ++ n.Loops)) (ys := [more]) 4 gr_23 hF rfl rfl hS rfl (src_own (i := 5) hS rfl) hj hj_1 hg_1 rfl fun p_13 c_13 a w hF hS hr_11 => step hF (Y.fieldAddr fo_25_3 hF rfl) rfl fun a hF => O.store (us := [.slice p_13 ((([] : List LineLoop) ++ n.Loops) ++ [more]).length c_13]) 3 sz_23 hF rfl rfl rfl rfl hS rfl rfl fun a w hF hS => nil (then_n (seq (region (step hF (Y.fieldAddr fo_71_0 hF rfl) rfl fun a hF => step hF (Y.load1L 2 sz_3 hF rfl hS rfl rfl) rfl fun a hF => step hF (Y.fieldAddr fo_25_0 hF rfl) rfl fun a hF => step hF (Y.load1L 1 sz_3 hF rfl hS rfl rfl) rfl fun a hF => ?_))))
 obtain ⟨rv_2, hx_2, h⟩ := bind_some h
 refine O.callP (us := [.int .i64 more.Exchange, .int .i64 n.Exchanges]) ca_41 hF hS (r0Rest_ok hS.stab more.Exchange n.Exchanges rv_2 hx_2) rfl rfl fun a w hF hS => step hF (Y.assign hF rfl) rfl fun a hF => nil (then_n (seq (region (step hF (Y.loadNL 1 sz_25 hF rfl hS rfl rfl rfl) rfl fun a hF => step hF (Y.move hF rfl) rfl fun a hF => ?_))))
 obtain ⟨rv_3, hx_3, h⟩ := bind_some h
 refine O.callS (us := [.agg #[.int .i64 n.Exchanges, .slice p n.Lines.length c, .int .i64 n.Hops, .slice p_1 n.Loops.length c_1], .int .i64 rv_2]) ca_15 hF hS (line_Routes_ok hS.stab n rv_2 hs hs_1 hG rv_3 hx_3) rfl rfl fun v Dv a w hR hlev hF hS => ?_
 replace hs := hs.mono hlev
 replace hs_1 := hs_1.mono hlev
 replace hG := hG.mono hlev
 replace hr_11 := hr_11.mono hlev
 obtain ⟨p_14, c_14, rfl, hs_2⟩ := hR
 refine step hF (Y.move hF rfl) rfl fun a hF => step hF (Y.extract hF rfl rfl) rfl fun a hF => step hF (Y.extract hF rfl rfl) rfl fun a hF => step hF (Y.assign hF rfl) rfl fun a hF => step hF (Y.assign hF rfl) rfl fun a hF => nil (then_n (seq (region (step hF (Y.loadNL 3 sz_25 hF rfl hS rfl rfl rfl) rfl fun a hF => step hF (Y.move hF rfl) rfl fun a hF => ?_))))
 obtain ⟨Dv_1, hlev_1, hs_3, hS⟩ := hS.freezeC (C := C_LineLoop) (i := 4) (xs := ((([] : List LineLoop) ++ n.Loops) ++ [more])) rfl hr_11
 replace hs := hs.mono hlev_1
 replace hs_1 := hs_1.mono hlev_1
 replace hG := hG.mono hlev_1
 replace hs_2 := hs_2.mono hlev_1
 obtain ⟨rv_4, hx_4, h⟩ := bind_some h
 refine O.callS (us := [.agg #[.int .i64 n.Exchanges, .slice p n.Lines.length c, .int .i64 n.Hops, .slice p_13 ((([] : List LineLoop) ++ n.Loops) ++ [more]).length c_13], .int .i64 rv_2]) ca_15 hF hS (line_Routes_ok hS.stab (LineNet.mk n.Exchanges n.Lines n.Hops ((([] : List LineLoop) ++ n.Loops) ++ [more])) rv_2 hs hs_3 hG rv_4 hx_4) rfl rfl fun v_1 Dv_2 a w hR_1 hlev_2 hF hS => ?_
 replace hs := hs.mono hlev_2
 replace hs_1 := hs_1.mono hlev_2
 replace hG := hG.mono hlev_2
 replace hs_2 := hs_2.mono hlev_2
 replace hs_3 := hs_3.mono hlev_2
 obtain ⟨p_15, c_15, rfl, hs_4⟩ := hR_1
 refine step hF (Y.move hF rfl) rfl fun a hF => step hF (Y.extract hF rfl rfl) rfl fun a hF => step hF (Y.extract hF rfl rfl) rfl fun a hF => step hF (Y.assign hF rfl) rfl fun a hF => step hF (Y.assign hF rfl) rfl fun a hF => nil (then_n (seq (region (step hF (Y.loadNL 1 sz_25 hF rfl hS rfl rfl rfl) rfl fun a hF => step hF (Y.move hF rfl) rfl fun a hF => step hF (Y.move hF rfl) rfl fun a hF => ?_))))
 obtain ⟨rv_5, hx_5, h⟩ := bind_some h
 refine O.callP (us := [.agg #[.int .i64 n.Exchanges, .slice p n.Lines.length c, .int .i64 n.Hops, .slice p_1 n.Loops.length c_1], .int .i64 rv_2, .int .i64 delay]) ca_26 hF hS (line_Can_ok hS.stab n rv_2 delay hs hs_1 hG rv_5 hx_5) rfl rfl fun a w hF hS => step hF (Y.move hF rfl) rfl fun a hF => step hF (Y.extract hF rfl rfl) rfl fun a hF => step hF (Y.extract hF rfl rfl) rfl fun a hF => step hF (Y.assign hF rfl) rfl fun a hF => step hF (Y.assign hF rfl) rfl fun a hF => nil (then_n (seq (region (step hF (Y.loadNL 3 sz_25 hF rfl hS rfl rfl rfl) rfl fun a hF => step hF (Y.move hF rfl) rfl fun a hF => step hF (Y.move hF rfl) rfl fun a hF => ?_))))
 obtain ⟨rv_6, hx_6, h⟩ := bind_some h
 refine O.callP (us := [.agg #[.int .i64 n.Exchanges, .slice p n.Lines.length c, .int .i64 n.Hops, .slice p_13 ((([] : List LineLoop) ++ n.Loops) ++ [more]).length c_13], .int .i64 rv_2, .int .i64 delay]) ca_26 hF hS (line_Can_ok hS.stab (LineNet.mk n.Exchanges n.Lines n.Hops ((([] : List LineLoop) ++ n.Loops) ++ [more])) rv_2 delay hs hs_3 hG rv_6 hx_6) rfl rfl fun a w hF hS => step hF (Y.move hF rfl) rfl fun a hF => step hF (Y.extract hF rfl rfl) rfl fun a hF => step hF (Y.extract hF rfl rfl) rfl fun a hF => step hF (Y.assign hF rfl) rfl fun a hF => step hF (Y.assign hF rfl) rfl fun a hF => nil (then_n (seq (seq (region (step hF (Y.move hF rfl) rfl fun a hF => step hF (Y.move hF rfl) rfl fun a hF => step hF (Y.neq hF rfl rfl) rfl fun a hF => step hF (Y.move hF rfl) rfl fun a hF => join (N := 116) (rs := []) (w0 := w0) (D0 := D0) 4 (us := [(6, .bool false), (9, .slice p_14 rv_3.1.length c_14), (10, .int .i64 rv_3.2), (11, .slice p_15 rv_4.1.length c_15), (12, .int .i64 rv_4.2), (13, .bool rv_5.1), (15, .bool rv_6.1), (74, .bool ((rv_5.2 != rv_3.2) || (rv_6.2 != rv_4.2)))]) (ms := [(1, .cells b [.int .i64 n.Exchanges, .slice p n.Lines.length c, .int .i64 n.Hops, .slice p_1 n.Loops.length c_1] 25), (2, .cells b_1 [.int .i64 more.Exchange, .int .i64 more.Read.Low, .int .i64 more.Read.High] 71), (3, .cells b_2 [.int .i64 n.Exchanges, .slice p n.Lines.length c, .int .i64 n.Hops, .slice p_13 ((([] : List LineLoop) ++ n.Loops) ++ [more]).length c_13] 25), (5, .own p_4 ([more]).length c_4 ([.int .i64 more.Exchange, .int .i64 more.Read.Low, .int .i64 more.Read.High]) 71 3)]) (D' := Dv_2) ?_ ?_)))))
 ·rcases bcases (rv_5.2 != rv_3.2) with hbv_2 | hbv_2
  ·skip
   refine guard_off hF rfl rfl hbv_2 rfl fun a hF => guard_off hF rfl rfl hbv_2 rfl fun a hF => guard_off hF rfl rfl hbv_2 rfl fun a hF => step hF (Y.pick_t hF rfl hbv_2 rfl) rfl fun a hF => nil (then_n ⟨hF.weak ⟨rfl, rfl, rfl, rfl, rfl, rfl, rfl, (by rw [hbv_2]; rfl), trivial⟩, hS.weak ⟨rfl, rfl, rfl, rfl, trivial⟩⟩)
  refine guard_on hF rfl rfl hbv_2 (step hF (Y.move hF rfl) rfl fun a hF => guard_on hF rfl rfl hbv_2 (step hF (Y.move hF rfl) rfl fun a hF => guard_on hF rfl rfl hbv_2 (step hF (Y.neq hF rfl rfl) rfl fun a hF => step hF (Y.pick_f hF rfl hbv_2 rfl) rfl fun a hF => nil (then_n ⟨hF.weak ⟨rfl, rfl, rfl, rfl, rfl, rfl, rfl, (by rw [hbv_2]; rfl), trivial⟩, hS.weak ⟨rfl, rfl, rfl, rfl, trivial⟩⟩))))
 intro a w hF hS
 refine nil (then_n (cond_b hF rfl (fun hbv_3 => ?_) (fun hbv_3 => ?_)))
 ·replace h := cond_t h hbv_3
  refine seq (region (step hF (Y.assign hF rfl) rfl fun a hF => nil (then_n (ret_ (then_r ?_)))))
  obtain rfl := some_inj h
  exact leaveP Tryd.results9 hF hS (.cons (.tmp rfl) .nil) .nil rfl
 replace h := cond_f h hbv_3
 refine skip_ (then_n (seq (seq (region (step hF (Y.move hF rfl) rfl fun a hF => step hF (Y.neq hF rfl rfl) rfl fun a hF => nil (then_n (cond_b hF rfl (fun hbv_4 => ?_) (fun hbv_4 => ?_))))))))
 ·replace h := cond_t h hbv_4
  refine seq (region (step hF (Y.move hF rfl) rfl fun a hF => step hF (Y.eql hF rfl rfl) rfl fun a hF => step hF (Y.move hF rfl) rfl fun a hF => join (N := 116) (rs := []) (w0 := w0) (D0 := D0) 3 (us := [(6, .bool false), (9, .slice p_14 rv_3.1.length c_14), (10, .int .i64 rv_3.2), (11, .slice p_15 rv_4.1.length c_15), (12, .int .i64 rv_4.2), (13, .bool rv_5.1), (15, .bool rv_6.1), (82, .bool ((rv_4.2 == 60) || (rv_4.2 == 4)))]) (ms := [(1, .cells b [.int .i64 n.Exchanges, .slice p n.Lines.length c, .int .i64 n.Hops, .slice p_1 n.Loops.length c_1] 25), (2, .cells b_1 [.int .i64 more.Exchange, .int .i64 more.Read.Low, .int .i64 more.Read.High] 71), (3, .cells b_2 [.int .i64 n.Exchanges, .slice p n.Lines.length c, .int .i64 n.Hops, .slice p_13 ((([] : List LineLoop) ++ n.Loops) ++ [more]).length c_13] 25), (5, .own p_4 ([more]).length c_4 ([.int .i64 more.Exchange, .int .i64 more.Read.Low, .int .i64 more.Read.High]) 71 3)]) (D' := Dv_2) ?_ ?_))
  ·rcases bcases (rv_4.2 == 60) with hbv_5 | hbv_5
   ·skip
    refine guard_off hF rfl rfl hbv_5 rfl fun a hF => guard_off hF rfl rfl hbv_5 rfl fun a hF => step hF (Y.pick_t hF rfl hbv_5 rfl) rfl fun a hF => nil (then_n ⟨hF.weak ⟨rfl, rfl, rfl, rfl, rfl, rfl, rfl, (by rw [hbv_5]; rfl), trivial⟩, hS.weak ⟨rfl, rfl, rfl, rfl, trivial⟩⟩)
   refine guard_on hF rfl rfl hbv_5 (step hF (Y.move hF rfl) rfl fun a hF => guard_on hF rfl rfl hbv_5 (step hF (Y.eql hF rfl rfl) rfl fun a hF => step hF (Y.pick_f hF rfl hbv_5 rfl) rfl fun a hF => nil (then_n ⟨hF.weak ⟨rfl, rfl, rfl, rfl, rfl, rfl, rfl, (by rw [hbv_5]; rfl), trivial⟩, hS.weak ⟨rfl, rfl, rfl, rfl, trivial⟩⟩)))
  intro a w hF hS
  refine step hF (Y.move hF rfl) rfl fun a hF => join (N := 116) (rs := []) (w0 := w0) (D0 := D0) 3 (us := [(6, .bool false), (9, .slice p_14 rv_3.1.length c_14), (10, .int .i64 rv_3.2), (11, .slice p_15 rv_4.1.length c_15), (13, .bool rv_5.1), (15, .bool rv_6.1), (86, .bool (((rv_4.2 == 60) || (rv_4.2 == 4)) || (rv_4.2 == 62)))]) (ms := [(1, .cells b [.int .i64 n.Exchanges, .slice p n.Lines.length c, .int .i64 n.Hops, .slice p_1 n.Loops.length c_1] 25), (2, .cells b_1 [.int .i64 more.Exchange, .int .i64 more.Read.Low, .int .i64 more.Read.High] 71), (3, .cells b_2 [.int .i64 n.Exchanges, .slice p n.Lines.length c, .int .i64 n.Hops, .slice p_13 ((([] : List LineLoop) ++ n.Loops) ++ [more]).length c_13] 25), (5, .own p_4 ([more]).length c_4 ([.int .i64 more.Exchange, .int .i64 more.Read.Low, .int .i64 more.Read.High]) 71 3)]) (D' := Dv_2) ?_ ?_
  ·rcases bcases ((rv_4.2 == 60) || (rv_4.2 == 4)) with hbv_6 | hbv_6
   ·skip
    refine guard_off hF rfl rfl hbv_6 rfl fun a hF => guard_off hF rfl rfl hbv_6 rfl fun a hF => step hF (Y.pick_t hF rfl hbv_6 rfl) rfl fun a hF => nil (then_n ⟨hF.weak ⟨rfl, rfl, rfl, rfl, rfl, rfl, (by rw [hbv_6]; rfl), trivial⟩, hS.weak ⟨rfl, rfl, rfl, rfl, trivial⟩⟩)
   refine guard_on hF rfl rfl hbv_6 (step hF (Y.move hF rfl) rfl fun a hF => guard_on hF rfl rfl hbv_6 (step hF (Y.eql hF rfl rfl) rfl fun a hF => step hF (Y.pick_f hF rfl hbv_6 rfl) rfl fun a hF => nil (then_n ⟨hF.weak ⟨rfl, rfl, rfl, rfl, rfl, rfl, (by rw [hbv_6]; rfl), trivial⟩, hS.weak ⟨rfl, rfl, rfl, rfl, trivial⟩⟩)))
  intro a w hF hS
  refine step hF (Y.move hF rfl) rfl fun a hF => join (N := 116) (rs := []) (w0 := w0) (D0 := D0) 4 (us := [(6, .bool false), (9, .slice p_14 rv_3.1.length c_14), (10, .int .i64 rv_3.2), (11, .slice p_15 rv_4.1.length c_15), (13, .bool rv_5.1), (15, .bool rv_6.1), (91, .bool ((((rv_4.2 == 60) || (rv_4.2 == 4)) || (rv_4.2 == 62)) && ((rv_4.1.length : Int) == 0)))]) (ms := [(1, .cells b [.int .i64 n.Exchanges, .slice p n.Lines.length c, .int .i64 n.Hops, .slice p_1 n.Loops.length c_1] 25), (2, .cells b_1 [.int .i64 more.Exchange, .int .i64 more.Read.Low, .int .i64 more.Read.High] 71), (3, .cells b_2 [.int .i64 n.Exchanges, .slice p n.Lines.length c, .int .i64 n.Hops, .slice p_13 ((([] : List LineLoop) ++ n.Loops) ++ [more]).length c_13] 25), (5, .own p_4 ([more]).length c_4 ([.int .i64 more.Exchange, .int .i64 more.Read.Low, .int .i64 more.Read.High]) 71 3)]) (D' := Dv_2) ?_ ?_
  ·rcases bcases (((rv_4.2 == 60) || (rv_4.2 == 4)) || (rv_4.2 == 62)) with hbv_7 | hbv_7
   ·skip
    refine guard_on hF rfl rfl hbv_7 (step hF (Y.move hF rfl) rfl fun a hF => guard_on hF rfl rfl hbv_7 (step hF (Y.lenSl u_26 hF rfl) rfl fun a hF => guard_on hF rfl rfl hbv_7 (step hF (Y.eql hF rfl rfl) rfl fun a hF => step hF (Y.pick_t hF rfl hbv_7 rfl) rfl fun a hF => nil (then_n ⟨hF.weak ⟨rfl, rfl, rfl, rfl, rfl, rfl, (by rw [hbv_7]; rfl), trivial⟩, hS.weak ⟨rfl, rfl, rfl, rfl, trivial⟩⟩))))
   refine guard_off hF rfl rfl hbv_7 rfl fun a hF => guard_off hF rfl rfl hbv_7 rfl fun a hF => guard_off hF rfl rfl hbv_7 rfl fun a hF => step hF (Y.pick_f hF rfl hbv_7 rfl) rfl fun a hF => nil (then_n ⟨hF.weak ⟨rfl, rfl, rfl, rfl, rfl, rfl, (by rw [hbv_7]; rfl), trivial⟩, hS.weak ⟨rfl, rfl, rfl, rfl, trivial⟩⟩)
  intro a w hF hS
  refine step hF (Y.move hF rfl) rfl fun a hF => join (N := 116) (rs := []) (w0 := w0) (D0 := D0) 3 (us := [(6, .bool false), (9, .slice p_14 rv_3.1.length c_14), (10, .int .i64 rv_3.2), (11, .slice p_15 rv_4.1.length c_15), (13, .bool rv_5.1), (15, .bool rv_6.1), (95, .bool (((((rv_4.2 == 60) || (rv_4.2 == 4)) || (rv_4.2 == 62)) && ((rv_4.1.length : Int) == 0)) && (!rv_6.1)))]) (ms := [(1, .cells b [.int .i64 n.Exchanges, .slice p n.Lines.length c, .int .i64 n.Hops, .slice p_1 n.Loops.length c_1] 25), (2, .cells b_1 [.int .i64 more.Exchange, .int .i64 more.Read.Low, .int .i64 more.Read.High] 71), (3, .cells b_2 [.int .i64 n.Exchanges, .slice p n.Lines.length c, .int .i64 n.Hops, .slice p_13 ((([] : List LineLoop) ++ n.Loops) ++ [more]).length c_13] 25), (5, .own p_4 ([more]).length c_4 ([.int .i64 more.Exchange, .int .i64 more.Read.Low, .int .i64 more.Read.High]) 71 3)]) (D' := Dv_2) ?_ ?_
  ·rcases bcases ((((rv_4.2 == 60) || (rv_4.2 == 4)) || (rv_4.2 == 62)) && ((rv_4.1.length : Int) == 0)) with hbv_8 | hbv_8
   ·skip
    refine guard_on hF rfl rfl hbv_8 (step hF (Y.move hF rfl) rfl fun a hF => guard_on hF rfl rfl hbv_8 (step hF (Y.not hF rfl) rfl fun a hF => step hF (Y.pick_t hF rfl hbv_8 rfl) rfl fun a hF => nil (then_n ⟨hF.weak ⟨rfl, rfl, rfl, rfl, rfl, rfl, (by rw [hbv_8]; rfl), trivial⟩, hS.weak ⟨rfl, rfl, rfl, rfl, trivial⟩⟩)))
   refine guard_off hF rfl rfl hbv_8 rfl fun a hF => guard_off hF rfl rfl hbv_8 rfl fun a hF => step hF (Y.pick_f hF rfl hbv_8 rfl) rfl fun a hF => nil (then_n ⟨hF.weak ⟨rfl, rfl, rfl, rfl, rfl, rfl, (by rw [hbv_8]; rfl), trivial⟩, hS.weak ⟨rfl, rfl, rfl, rfl, trivial⟩⟩)
  intro a w hF hS
  refine step hF (Y.move hF rfl) rfl fun a hF => ?_
  obtain ⟨t, ht, h⟩ := bind_some h
  refine join (N := 116) (rs := []) (w0 := w0) (D0 := D0) 2 (us := [(6, .bool false), (9, .slice p_14 rv_3.1.length c_14), (10, .int .i64 rv_3.2), (11, .slice p_15 rv_4.1.length c_15), (13, .bool rv_5.1), (15, .bool rv_6.1), (98, .bool t)]) (ms := [(1, .cells b [.int .i64 n.Exchanges, .slice p n.Lines.length c, .int .i64 n.Hops, .slice p_1 n.Loops.length c_1] 25), (2, .cells b_1 [.int .i64 more.Exchange, .int .i64 more.Read.Low, .int .i64 more.Read.High] 71), (3, .cells b_2 [.int .i64 n.Exchanges, .slice p n.Lines.length c, .int .i64 n.Hops, .slice p_13 ((([] : List LineLoop) ++ n.Loops) ++ [more]).length c_13] 25), (5, .own p_4 ([more]).length c_4 ([.int .i64 more.Exchange, .int .i64 more.Read.Low, .int .i64 more.Read.High]) 71 3)]) (D' := Dv_2) ?_ ?_
  ·rcases bcases (((((rv_4.2 == 60) || (rv_4.2 == 4)) || (rv_4.2 == 62)) && ((rv_4.1.length : Int) == 0)) && (!rv_6.1)) with hbv_9 | hbv_9
   ·skip
    replace h := cond_t ht hbv_9
    refine guard_on hF rfl rfl hbv_9 ?_
    obtain ⟨rv_7, hx_7, h⟩ := bind_some h
    refine O.callP (us := []) ca_23 hF hS (remontoirlaw06_works_ok hS.stab hG rv_7 hx_7) rfl rfl fun a w hF hS => step hF (Y.pick_t hF rfl hbv_9 rfl) rfl fun a hF => ?_
    obtain rfl := some_inj h
    exact nil (then_n ⟨hF.weak ⟨rfl, rfl, rfl, rfl, rfl, rfl, rfl, trivial⟩, hS.weak ⟨rfl, rfl, rfl, rfl, trivial⟩⟩)
   replace h := cond_f ht hbv_9
   refine guard_off hF rfl rfl hbv_9 rfl fun a hF => step hF (Y.pick_f hF rfl hbv_9 rfl) rfl fun a hF => ?_
   obtain rfl := some_inj h
   exact nil (then_n ⟨hF.weak ⟨rfl, rfl, rfl, rfl, rfl, rfl, rfl, trivial⟩, hS.weak ⟨rfl, rfl, rfl, rfl, trivial⟩⟩)
  intro a w hF hS
  refine step hF (Y.assign hF rfl) rfl fun a hF => nil (then_n (ret_ (then_r ?_)))
  obtain rfl := some_inj h
  exact leaveP Tryd.results9 hF hS (.cons (.tmp rfl) .nil) .nil rfl
 replace h := cond_f h hbv_4
 refine skip_ (then_n (seq (region (step hF (Y.move hF rfl) rfl fun a hF => step hF (Y.eql hF rfl rfl) rfl fun a hF => step hF (Y.move hF rfl) rfl fun a hF => ?_))))
 obtain ⟨t_1, ht_1, h⟩ := bind_some h
 refine join (N := 116) (rs := []) (w0 := w0) (D0 := D0) 4 (us := [(6, .bool false), (13, .bool rv_5.1), (15, .bool rv_6.1), (105, .bool t_1)]) (ms := [(1, .cells b [.int .i64 n.Exchanges, .slice p n.Lines.length c, .int .i64 n.Hops, .slice p_1 n.Loops.length c_1] 25), (2, .cells b_1 [.int .i64 more.Exchange, .int .i64 more.Read.Low, .int .i64 more.Read.High] 71), (3, .cells b_2 [.int .i64 n.Exchanges, .slice p n.Lines.length c, .int .i64 n.Hops, .slice p_13 ((([] : List LineLoop) ++ n.Loops) ++ [more]).length c_13] 25), (5, .own p_4 ([more]).length c_4 ([.int .i64 more.Exchange, .int .i64 more.Read.Low, .int .i64 more.Read.High]) 71 3)]) (D' := Dv_2) ?_ ?_
 ·rcases bcases (rv_3.2 == 0) with hbv_10 | hbv_10
  ·skip
   replace h := cond_t ht_1 hbv_10
   refine guard_on hF rfl rfl hbv_10 (step hF (Y.move hF rfl) rfl fun a hF => guard_on hF rfl rfl hbv_10 (step hF (Y.move hF rfl) rfl fun a hF => guard_on hF rfl rfl hbv_10 ?_))
   obtain ⟨rv_8, hx_8, h⟩ := bind_some h
   refine O.callP (us := [.slice p_15 rv_4.1.length c_15, .slice p_14 rv_3.1.length c_14]) ca_51 hF hS (remontoirlaw06_all_ok hS.stab rv_4.1 rv_3.1 hs_4 hs_2 rv_8 hx_8) rfl rfl fun a w hF hS => step hF (Y.pick_t hF rfl hbv_10 rfl) rfl fun a hF => ?_
   obtain rfl := some_inj h
   exact nil (then_n ⟨hF.weak ⟨rfl, rfl, rfl, rfl, trivial⟩, hS.weak ⟨rfl, rfl, rfl, rfl, trivial⟩⟩)
  replace h := cond_f ht_1 hbv_10
  refine guard_off hF rfl rfl hbv_10 rfl fun a hF => guard_off hF rfl rfl hbv_10 rfl fun a hF => guard_off hF rfl rfl hbv_10 rfl fun a hF => step hF (Y.pick_f hF rfl hbv_10 rfl) rfl fun a hF => ?_
  obtain rfl := some_inj h
  exact nil (then_n ⟨hF.weak ⟨rfl, rfl, rfl, rfl, trivial⟩, hS.weak ⟨rfl, rfl, rfl, rfl, trivial⟩⟩)
 intro a w hF hS
 refine step hF (Y.move hF rfl) rfl fun a hF => join (N := 116) (rs := []) (w0 := w0) (D0 := D0) 6 (us := [(6, .bool false), (112, .bool (t_1 && (rv_5.1 || (!rv_6.1))))]) (ms := [(1, .cells b [.int .i64 n.Exchanges, .slice p n.Lines.length c, .int .i64 n.Hops, .slice p_1 n.Loops.length c_1] 25), (2, .cells b_1 [.int .i64 more.Exchange, .int .i64 more.Read.Low, .int .i64 more.Read.High] 71), (3, .cells b_2 [.int .i64 n.Exchanges, .slice p n.Lines.length c, .int .i64 n.Hops, .slice p_13 ((([] : List LineLoop) ++ n.Loops) ++ [more]).length c_13] 25), (5, .own p_4 ([more]).length c_4 ([.int .i64 more.Exchange, .int .i64 more.Read.Low, .int .i64 more.Read.High]) 71 3)]) (D' := Dv_2) ?_ ?_
 ·rcases bcases t_1 with hbv_11 | hbv_11
  ·skip
   refine guard_on hF rfl rfl hbv_11 (step hF (Y.move hF rfl) rfl fun a hF => guard_on hF rfl rfl hbv_11 (step hF (Y.move hF rfl) rfl fun a hF => join (N := 116) (rs := []) (w0 := w0) (D0 := D0) 3 (us := [(6, .bool false), (106, .bool t_1), (111, .bool (rv_5.1 || (!rv_6.1)))]) (ms := [(1, .cells b [.int .i64 n.Exchanges, .slice p n.Lines.length c, .int .i64 n.Hops, .slice p_1 n.Loops.length c_1] 25), (2, .cells b_1 [.int .i64 more.Exchange, .int .i64 more.Read.Low, .int .i64 more.Read.High] 71), (3, .cells b_2 [.int .i64 n.Exchanges, .slice p n.Lines.length c, .int .i64 n.Hops, .slice p_13 ((([] : List LineLoop) ++ n.Loops) ++ [more]).length c_13] 25), (5, .own p_4 ([more]).length c_4 ([.int .i64 more.Exchange, .int .i64 more.Read.Low, .int .i64 more.Read.High]) 71 3)]) (D' := Dv_2) ?_ ?_))
   ·rcases bcases rv_5.1 with hbv_12 | hbv_12
    ·skip
     refine guard_off hF rfl rfl hbv_12 rfl fun a hF => guard_off hF rfl rfl hbv_12 rfl fun a hF => guard_on hF rfl rfl hbv_11 (step hF (Y.pick_t hF rfl hbv_12 rfl) rfl fun a hF => nil (then_n ⟨hF.weak ⟨rfl, rfl, (by rw [hbv_12]; rfl), trivial⟩, hS.weak ⟨rfl, rfl, rfl, rfl, trivial⟩⟩))
    refine guard_on hF rfl rfl hbv_12 (step hF (Y.move hF rfl) rfl fun a hF => guard_on hF rfl rfl hbv_12 (step hF (Y.not hF rfl) rfl fun a hF => guard_on hF rfl rfl hbv_11 (step hF (Y.pick_f hF rfl hbv_12 rfl) rfl fun a hF => nil (then_n ⟨hF.weak ⟨rfl, rfl, (by rw [hbv_12]; rfl), trivial⟩, hS.weak ⟨rfl, rfl, rfl, rfl, trivial⟩⟩))))
   intro a w hF hS
   refine step hF (Y.pick_t hF rfl hbv_11 rfl) rfl fun a hF => nil (then_n ⟨hF.weak ⟨rfl, (by rw [hbv_11]; rfl), trivial⟩, hS.weak ⟨rfl, rfl, rfl, rfl, trivial⟩⟩)
  refine guard_off hF rfl rfl hbv_11 rfl fun a hF => guard_off hF rfl rfl hbv_11 rfl fun a hF => guard_offu hF rfl rfl rfl fun a hF => guard_offu hF rfl rfl rfl fun a hF => guard_off hF rfl rfl hbv_11 rfl fun a hF => step hF (Y.pick_f hF rfl hbv_11 rfl) rfl fun a hF => nil (then_n ⟨hF.weak ⟨rfl, (by rw [hbv_11]; rfl), trivial⟩, hS.weak ⟨rfl, rfl, rfl, rfl, trivial⟩⟩)
 intro a w hF hS
 refine step hF (Y.move hF rfl) rfl fun a hF => ?_
 obtain ⟨t_2, ht_2, h⟩ := bind_some h
 refine join (N := 116) (rs := []) (w0 := w0) (D0 := D0) 2 (us := [(6, .bool false), (115, .bool t_2)]) (ms := [(1, .cells b [.int .i64 n.Exchanges, .slice p n.Lines.length c, .int .i64 n.Hops, .slice p_1 n.Loops.length c_1] 25), (2, .cells b_1 [.int .i64 more.Exchange, .int .i64 more.Read.Low, .int .i64 more.Read.High] 71), (3, .cells b_2 [.int .i64 n.Exchanges, .slice p n.Lines.length c, .int .i64 n.Hops, .slice p_13 ((([] : List LineLoop) ++ n.Loops) ++ [more]).length c_13] 25), (5, .own p_4 ([more]).length c_4 ([.int .i64 more.Exchange, .int .i64 more.Read.Low, .int .i64 more.Read.High]) 71 3)]) (D' := Dv_2) ?_ ?_
 ·rcases bcases (t_1 && (rv_5.1 || (!rv_6.1))) with hbv_13 | hbv_13
  ·skip
   replace h := cond_t ht_2 hbv_13
   refine guard_on hF rfl rfl hbv_13 ?_
   obtain ⟨rv_9, hx_9, h⟩ := bind_some h
   refine O.callP (us := []) ca_23 hF hS (remontoirlaw06_works_ok hS.stab hG rv_9 hx_9) rfl rfl fun a w hF hS => step hF (Y.pick_t hF rfl hbv_13 rfl) rfl fun a hF => ?_
   obtain rfl := some_inj h
   exact nil (then_n ⟨hF.weak ⟨rfl, rfl, trivial⟩, hS.weak ⟨rfl, rfl, rfl, rfl, trivial⟩⟩)
  replace h := cond_f ht_2 hbv_13
  refine guard_off hF rfl rfl hbv_13 rfl fun a hF => step hF (Y.pick_f hF rfl hbv_13 rfl) rfl fun a hF => ?_
  obtain rfl := some_inj h
  exact nil (then_n ⟨hF.weak ⟨rfl, rfl, trivial⟩, hS.weak ⟨rfl, rfl, rfl, rfl, trivial⟩⟩)
 intro a w hF hS
 refine step hF (Y.assign hF rfl) rfl fun a hF => nil (then_n (ret_ ?_))
 obtain rfl := some_inj h
 exact leaveP Tryd.results9 hF hS (.cons (.tmp rfl) .nil) .nil rfl
end Go.Proofs.YthdbokigcfbgeaaDoor.Rt
