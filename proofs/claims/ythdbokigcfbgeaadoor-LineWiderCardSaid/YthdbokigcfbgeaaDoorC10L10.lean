/- Walks of the functions of this seat: what each Go function comes to, as a Lean function, and the proof. A law. Under no conditions. -/
import Derived.Test.YthdbokigcfbgeaaDoorC10WBZ
set_option linter.unusedVariables false
set_option linter.unusedSimpArgs false
set_option maxRecDepth 100000
set_option maxHeartbeats 4000000
namespace Go.Proofs.YthdbokigcfbgeaaDoor.Rt
open Go Go.RowKit
noncomputable def remontoirlaw06_LineWider (n : LineNet) (more : LineLine) (k : Arr5) : Option Bool :=
  (remontoirlaw06_sound n).bind fun rv =>
  cond (!rv)
  ((remontoirlaw06_works).bind fun rv_1 =>
  some rv_1)
  ((r0Rest k.a1 20).bind fun rv_2 =>
  (r0Rest k.a0 4).bind fun rv_3 =>
  cond (rv_3 == 0)
  (cond ((n.Lines.length : Int) == 0)
  ((remontoirlaw06_works).bind fun rv_4 =>
  some rv_4)
  ((r0Rest k.a2 (n.Lines.length : Int)).bind fun rv_5 =>
  (idx n.Lines rv_5).bind fun e =>
  (r0To (if wr (e.Delay.Low - rv_2) > 0 then wr (e.Delay.Low - rv_2) else 0) (if wr (e.Delay.High + rv_2) < 1000 then wr (e.Delay.High + rv_2) else 1000)).bind fun rv_6 =>
  if ([] : List LineLine).length + n.Lines.length ≤ lim then
  if (0 : Int) ≤ rv_5 ∧ rv_5 < ((([] : List LineLine) ++ n.Lines).length : Int) then
  (r0Rest k.a3 n.Exchanges).bind fun rv_7 =>
  (line_Routes n rv_7).bind fun rv_8 =>
  (line_Routes (LineNet.mk n.Exchanges ((([] : List LineLine) ++ n.Lines).set (Int.toNat rv_5) (LineLine.mk e.From e.To rv_6)) n.Hops n.Loops) rv_7).bind fun rv_9 =>
  cond (rv_8.2 != 0)
  ((cond ((rv_8.2 == 4) || (rv_8.2 == 62)) ((remontoirlaw06_works).bind fun rv_10 =>
  some rv_10) (some false)).bind fun t =>
  some t)
  (cond (rv_9.2 == 60)
  ((line_Check (LineNet.mk n.Exchanges ((([] : List LineLine) ++ n.Lines).set (Int.toNat rv_5) (LineLine.mk e.From e.To rv_6)) n.Hops n.Loops)).bind fun rv_11 =>
  (cond (rv_11 == rv_9.2) ((r0Rest k.a0 4).bind fun rv_12 =>
  some (rv_12 == 2)) (some false)).bind fun t_1 =>
  (cond t_1 ((remontoirlaw06_works).bind fun rv_13 =>
  some rv_13) (some false)).bind fun t_2 =>
  some t_2)
  ((line_Can n rv_7 k.a4).bind fun rv_14 =>
  (line_Can (LineNet.mk n.Exchanges ((([] : List LineLine) ++ n.Lines).set (Int.toNat rv_5) (LineLine.mk e.From e.To rv_6)) n.Hops n.Loops) rv_7 k.a4).bind fun rv_15 =>
  (cond (((rv_9.2 == 0) && (rv_14.2 == 0)) && (rv_15.2 == 0)) ((remontoirlaw06_all rv_8.1 rv_9.1).bind fun rv_16 =>
  some rv_16) (some false)).bind fun t_3 =>
  (cond (t_3 && ((!rv_14.1) || rv_15.1)) ((remontoirlaw06_works).bind fun rv_17 =>
  some rv_17) (some false)).bind fun t_4 =>
  some t_4))
  else none
  else none))
  (cond (rv_3 == 1)
  (cond ((n.Loops.length : Int) == 0)
  ((remontoirlaw06_works).bind fun rv_18 =>
  some rv_18)
  ((r0Rest k.a2 (n.Loops.length : Int)).bind fun rv_19 =>
  (idx n.Loops rv_19).bind fun e_1 =>
  (r0To (if wr (e_1.Read.Low - rv_2) > 0 then wr (e_1.Read.Low - rv_2) else 0) (if wr (e_1.Read.High + rv_2) < 12000 then wr (e_1.Read.High + rv_2) else 12000)).bind fun rv_20 =>
  if ([] : List LineLoop).length + n.Loops.length ≤ lim then
  if (0 : Int) ≤ rv_19 ∧ rv_19 < ((([] : List LineLoop) ++ n.Loops).length : Int) then
  (r0Rest k.a3 n.Exchanges).bind fun rv_21 =>
  (line_Routes n rv_21).bind fun rv_22 =>
  (line_Routes (LineNet.mk n.Exchanges n.Lines n.Hops ((([] : List LineLoop) ++ n.Loops).set (Int.toNat rv_19) (LineLoop.mk e_1.Exchange rv_20))) rv_21).bind fun rv_23 =>
  cond (rv_22.2 != 0)
  ((cond ((rv_22.2 == 4) || (rv_22.2 == 62)) ((remontoirlaw06_works).bind fun rv_24 =>
  some rv_24) (some false)).bind fun t_5 =>
  some t_5)
  (cond (rv_23.2 == 60)
  ((line_Check (LineNet.mk n.Exchanges n.Lines n.Hops ((([] : List LineLoop) ++ n.Loops).set (Int.toNat rv_19) (LineLoop.mk e_1.Exchange rv_20)))).bind fun rv_25 =>
  (cond (rv_25 == rv_23.2) ((r0Rest k.a0 4).bind fun rv_26 =>
  some (rv_26 == 2)) (some false)).bind fun t_6 =>
  (cond t_6 ((remontoirlaw06_works).bind fun rv_27 =>
  some rv_27) (some false)).bind fun t_7 =>
  some t_7)
  ((line_Can n rv_21 k.a4).bind fun rv_28 =>
  (line_Can (LineNet.mk n.Exchanges n.Lines n.Hops ((([] : List LineLoop) ++ n.Loops).set (Int.toNat rv_19) (LineLoop.mk e_1.Exchange rv_20))) rv_21 k.a4).bind fun rv_29 =>
  (cond (((rv_23.2 == 0) && (rv_28.2 == 0)) && (rv_29.2 == 0)) ((remontoirlaw06_all rv_22.1 rv_23.1).bind fun rv_30 =>
  some rv_30) (some false)).bind fun t_8 =>
  (cond (t_8 && ((!rv_28.1) || rv_29.1)) ((remontoirlaw06_works).bind fun rv_31 =>
  some rv_31) (some false)).bind fun t_9 =>
  some t_9))
  else none
  else none))
  (cond (rv_3 == 2)
  (if ([] : List LineLine).length + n.Lines.length ≤ lim then
  if (([] : List LineLine) ++ n.Lines).length + ([more]).length ≤ lim then
  (r0Rest k.a3 n.Exchanges).bind fun rv_32 =>
  (line_Routes n rv_32).bind fun rv_33 =>
  (line_Routes (LineNet.mk n.Exchanges ((([] : List LineLine) ++ n.Lines) ++ [more]) n.Hops n.Loops) rv_32).bind fun rv_34 =>
  cond (rv_33.2 != 0)
  ((cond ((rv_33.2 == 4) || (rv_33.2 == 62)) ((remontoirlaw06_works).bind fun rv_35 =>
  some rv_35) (some false)).bind fun t_10 =>
  some t_10)
  (cond (rv_34.2 == 60)
  ((line_Check (LineNet.mk n.Exchanges ((([] : List LineLine) ++ n.Lines) ++ [more]) n.Hops n.Loops)).bind fun rv_36 =>
  (cond (rv_36 == rv_34.2) ((r0Rest k.a0 4).bind fun rv_37 =>
  some (rv_37 == 2)) (some false)).bind fun t_11 =>
  (cond t_11 ((remontoirlaw06_works).bind fun rv_38 =>
  some rv_38) (some false)).bind fun t_12 =>
  some t_12)
  ((line_Can n rv_32 k.a4).bind fun rv_39 =>
  (line_Can (LineNet.mk n.Exchanges ((([] : List LineLine) ++ n.Lines) ++ [more]) n.Hops n.Loops) rv_32 k.a4).bind fun rv_40 =>
  (cond (((rv_34.2 == 0) && (rv_39.2 == 0)) && (rv_40.2 == 0)) ((remontoirlaw06_all rv_33.1 rv_34.1).bind fun rv_41 =>
  some rv_41) (some false)).bind fun t_13 =>
  (cond (t_13 && ((!rv_39.1) || rv_40.1)) ((remontoirlaw06_works).bind fun rv_42 =>
  some rv_42) (some false)).bind fun t_14 =>
  some t_14))
  else none
  else none)
  ((r0Rest k.a3 n.Exchanges).bind fun rv_43 =>
  (line_Routes n rv_43).bind fun rv_44 =>
  (line_Routes (LineNet.mk n.Exchanges n.Lines (if wr (n.Hops + 1) < 6 then wr (n.Hops + 1) else 6) n.Loops) rv_43).bind fun rv_45 =>
  cond (rv_44.2 != 0)
  ((cond ((rv_44.2 == 4) || (rv_44.2 == 62)) ((remontoirlaw06_works).bind fun rv_46 =>
  some rv_46) (some false)).bind fun t_15 =>
  some t_15)
  (cond (rv_45.2 == 60)
  ((line_Check (LineNet.mk n.Exchanges n.Lines (if wr (n.Hops + 1) < 6 then wr (n.Hops + 1) else 6) n.Loops)).bind fun rv_47 =>
  (cond (rv_47 == rv_45.2) ((r0Rest k.a0 4).bind fun rv_48 =>
  some (rv_48 == 2)) (some false)).bind fun t_16 =>
  (cond t_16 ((remontoirlaw06_works).bind fun rv_49 =>
  some rv_49) (some false)).bind fun t_17 =>
  some t_17)
  ((line_Can n rv_43 k.a4).bind fun rv_50 =>
  (line_Can (LineNet.mk n.Exchanges n.Lines (if wr (n.Hops + 1) < 6 then wr (n.Hops + 1) else 6) n.Loops) rv_43 k.a4).bind fun rv_51 =>
  (cond (((rv_45.2 == 0) && (rv_50.2 == 0)) && (rv_51.2 == 0)) ((remontoirlaw06_all rv_44.1 rv_45.1).bind fun rv_52 =>
  some rv_52) (some false)).bind fun t_18 =>
  (cond (t_18 && ((!rv_50.1) || rv_51.1)) ((remontoirlaw06_works).bind fun rv_53 =>
  some rv_53) (some false)).bind fun t_19 =>
  some t_19))))))
theorem remontoirlaw06_LineWider_ok {w0 : World} {D0 : Stab} (hD : D0.on w0) (n : LineNet) (more : LineLine) (k : Arr5) {p : Option Addr} {c : Nat} {p_1 : Option Addr} {c_1 : Nat} (hs : SRc C_LineLine D0 n.Lines p c) (hs_1 : SRc C_LineLoop D0 n.Loops p_1 c_1) (hG : Glob D0) (out : Bool) (h : remontoirlaw06_LineWider n more k = some out) : Calls Tryd.prog 10 [.agg #[.int .i64 n.Exchanges, .slice p n.Lines.length c, .int .i64 n.Hops, .slice p_1 n.Loops.length c_1], .agg #[.int .i64 more.From, .int .i64 more.To, .int .i64 more.Delay.Low, .int .i64 more.Delay.High], .agg #[.int .i64 k.a0, .int .i64 k.a1, .int .i64 k.a2, .int .i64 k.a3, .int .i64 k.a4]].toArray w0 (RetP D0 w0 (.bool out)) := by
 refine enter _ 216 Tryd.func10 rfl Tryd.ntmps10 rfl fun a hF => ?_
 replace hF : Frm 216 [] [(0, .agg #[.int .i64 n.Exchanges, .slice p n.Lines.length c, .int .i64 n.Hops, .slice p_1 n.Loops.length c_1]), (1, .agg #[.int .i64 more.From, .int .i64 more.To, .int .i64 more.Delay.Low, .int .i64 more.Delay.High]), (2, .agg #[.int .i64 k.a0, .int .i64 k.a1, .int .i64 k.a2, .int .i64 k.a3, .int .i64 k.a4])] a := hF
 have hS := St.start hD
 unfold remontoirlaw06_LineWider at h
 refine seq (region (O.box (cs := [.int .i64 n.Exchanges, .slice p n.Lines.length c, .int .i64 n.Hops, .slice p_1 n.Loops.length c_1]) 1 hF rfl rfl hS rfl fun b a w hF hS => O.box (cs := [.int .i64 more.From, .int .i64 more.To, .int .i64 more.Delay.Low, .int .i64 more.Delay.High]) 2 hF rfl rfl hS rfl fun b_1 a w hF hS => O.box (cs := [.int .i64 k.a0, .int .i64 k.a1, .int .i64 k.a2, .int .i64 k.a3, .int .i64 k.a4]) 3 hF rfl rfl hS rfl fun b_2 a w hF hS => step hF (Y.assign hF rfl) rfl fun a hF => nil (then_n (seq (seq (region (step hF (Y.loadNL 1 sz_25 hF rfl hS rfl rfl rfl) rfl fun a hF => ?_)))))))
 obtain ⟨rv, hx, h⟩ := bind_some h
 refine O.callP (us := [.agg #[.int .i64 n.Exchanges, .slice p n.Lines.length c, .int .i64 n.Hops, .slice p_1 n.Loops.length c_1]]) ca_34 hF hS (remontoirlaw06_sound_ok hS.stab n hs hs_1 rv hx) rfl rfl fun a w hF hS => step hF (Y.not hF rfl) rfl fun a hF => nil (then_n (cond_b hF rfl (fun hbv => ?_) (fun hbv => ?_)))
 ·replace h := cond_t h hbv
  refine seq (region ?_)
  obtain ⟨rv_1, hx_1, h⟩ := bind_some h
  refine O.callP (us := []) ca_23 hF hS (remontoirlaw06_works_ok hS.stab hG rv_1 hx_1) rfl rfl fun a w hF hS => step hF (Y.assign hF rfl) rfl fun a hF => nil (then_n (ret_ (then_r ?_)))
  obtain rfl := some_inj h
  exact leaveP Tryd.results10 hF hS (.cons (.tmp rfl) .nil) .nil rfl
 as_aux_lemma =>
  replace h := cond_f h hbv
  refine skip_ (then_n (seq (region (step hF (Y.loadNL 1 sz_25 hF rfl hS rfl rfl rfl) rfl fun a hF => O.alloc 4 zc_25 hF hS rfl fun b_3 a w hF hS => O.store (us := [.int .i64 n.Exchanges, .slice p n.Lines.length c, .int .i64 n.Hops, .slice p_1 n.Loops.length c_1]) 4 sz_25 hF rfl rfl rfl rfl hS rfl rfl fun a w hF hS => nil (then_n (seq (region (step hF (Y.indexArr u_75 sz_3 hF rfl rfl (by decide) (by decide)) rfl fun a hF => step hF (Y.load1L 3 sz_3 hF rfl hS rfl rfl) rfl fun a hF => ?_))))))))
  obtain ⟨rv_2, hx_2, h⟩ := bind_some h
  refine O.callP (us := [.int .i64 k.a1, .int .i64 20]) ca_41 hF hS (r0Rest_ok hS.stab k.a1 20 rv_2 hx_2) rfl rfl fun a w hF hS => step hF (Y.assign hF rfl) rfl fun a hF => nil (then_n (seq (seq (region (step hF (Y.indexArr u_75 sz_3 hF rfl rfl (by decide) (by decide)) rfl fun a hF => step hF (Y.load1L 3 sz_3 hF rfl hS rfl rfl) rfl fun a hF => ?_)))))
  obtain ⟨rv_3, hx_3, h⟩ := bind_some h
  refine O.callP (us := [.int .i64 k.a0, .int .i64 4]) ca_41 hF hS (r0Rest_ok hS.stab k.a0 4 rv_3 hx_3) rfl rfl fun a w hF hS => nil (then_n (block (seq (region (step hF (Y.eql hF rfl rfl) rfl fun a hF => step hF (Y.assign hF rfl) rfl fun a hF => nil (then_n (cond_b hF rfl (fun hbv_1 => ?_) (fun hbv_1 => ?_))))))))
  ·as_aux_lemma =>
    replace h := cond_t h hbv_1
    refine seq (seq (region (step hF (Y.fieldAddr fo_25_1 hF rfl) rfl fun a hF => step hF (Y.load1L 1 sz_22 hF rfl hS rfl rfl) rfl fun a hF => step hF (Y.lenSl u_22 hF rfl) rfl fun a hF => step hF (Y.eql hF rfl rfl) rfl fun a hF => nil (then_n (cond_b hF rfl (fun hbv_2 => ?_) (fun hbv_2 => ?_))))))
    ·replace h := cond_t h hbv_2
     refine seq (region ?_)
     obtain ⟨rv_4, hx_4, h⟩ := bind_some h
     refine O.callP (us := []) ca_23 hF hS (remontoirlaw06_works_ok hS.stab hG rv_4 hx_4) rfl rfl fun a w hF hS => step hF (Y.assign hF rfl) rfl fun a hF => nil (then_n (ret_ (then_r (blk_r (then_r ?_)))))
     obtain rfl := some_inj h
     exact leaveP Tryd.results10 hF hS (.cons (.tmp rfl) .nil) .nil rfl
    as_aux_lemma =>
     replace h := cond_f h hbv_2
     refine skip_ (then_n (seq (region (step hF (Y.indexArr u_75 sz_3 hF rfl rfl (by decide) (by decide)) rfl fun a hF => step hF (Y.load1L 3 sz_3 hF rfl hS rfl rfl) rfl fun a hF => step hF (Y.fieldAddr fo_25_1 hF rfl) rfl fun a hF => step hF (Y.load1L 1 sz_22 hF rfl hS rfl rfl) rfl fun a hF => step hF (Y.lenSl u_22 hF rfl) rfl fun a hF => ?_))))
     obtain ⟨rv_5, hx_5, h⟩ := bind_some h
     refine O.callP (us := [.int .i64 k.a2, .int .i64 (n.Lines.length : Int)]) ca_41 hF hS (r0Rest_ok hS.stab k.a2 (n.Lines.length : Int) rv_5 hx_5) rfl rfl fun a w hF hS => step hF (Y.assign hF rfl) rfl fun a hF => nil (then_n (seq (region (step hF (Y.fieldAddr fo_25_1 hF rfl) rfl fun a hF => step hF (Y.load1L 1 sz_22 hF rfl hS rfl rfl) rfl fun a hF => step hF (Y.move hF rfl) rfl fun a hF => ?_))))
     obtain ⟨e, hx_6, h⟩ := bind_some h
     obtain ⟨b_4, o, hE, hY⟩ := Y.indexS (P := Tryd.prog) (C := C_LineLine) (xs := n.Lines) (T := 22) (x := (.tmp 52)) (y := (.tmp 53)) u_22 sz_68 hF rfl rfl (hs).1 hx_6
     obtain ⟨cc, hc, hcell⟩ := hE.open
     obtain rfl := C_LineLine.open hc
     refine step hF (hY) rfl fun a hF => step hF (Y.loadNE (o := o) (k := 0) sz_68 hF rfl (hcell _ hS.stab) rfl rfl) rfl fun a hF => O.alloc 5 zc_68 hF hS rfl fun b_5 a w hF hS => O.store (us := [.int .i64 e.From, .int .i64 e.To, .int .i64 e.Delay.Low, .int .i64 e.Delay.High]) 5 sz_68 hF rfl rfl rfl rfl hS rfl rfl fun a w hF hS => nil (then_n (seq (region (step hF (Y.fieldAddr fo_68_2 hF rfl) rfl fun a hF => step hF (Y.fieldAddr fo_40_0 hF rfl) rfl fun a hF => step hF (Y.load1L 5 sz_3 hF rfl hS rfl rfl) rfl fun a hF => step hF (Y.move hF rfl) rfl fun a hF => step hF (Y.sub hF rfl rfl) rfl fun a hF => step hF (Y.max2 hF rfl rfl) rfl fun a hF => step hF (Y.fieldAddr fo_68_2 hF rfl) rfl fun a hF => step hF (Y.fieldAddr fo_40_1 hF rfl) rfl fun a hF => step hF (Y.load1L 5 sz_3 hF rfl hS rfl rfl) rfl fun a hF => step hF (Y.move hF rfl) rfl fun a hF => step hF (Y.add hF rfl rfl) rfl fun a hF => step hF (Y.min2 hF rfl rfl) rfl fun a hF => ?_))))
     obtain ⟨rv_6, hx_7, h⟩ := bind_some h
     refine O.callP (us := [.int .i64 (if wr (e.Delay.Low - rv_2) > 0 then wr (e.Delay.Low - rv_2) else 0), .int .i64 (if wr (e.Delay.High + rv_2) < 1000 then wr (e.Delay.High + rv_2) else 1000)]) ca_44 hF hS (r0To_ok hS.stab (if wr (e.Delay.Low - rv_2) > 0 then wr (e.Delay.Low - rv_2) else 0) (if wr (e.Delay.High + rv_2) < 1000 then wr (e.Delay.High + rv_2) else 1000) rv_6 hx_7) rfl rfl fun a w hF hS => step hF (Y.fieldAddr fo_68_2 hF rfl) rfl fun a hF => O.store (us := [.int .i64 rv_6.Low, .int .i64 rv_6.High]) 5 sz_40 hF rfl rfl rfl rfl hS rfl rfl fun a w hF hS => nil (then_n (seq (region ?_)))
     have hr : Reps C_LineLine D0 ([] : List LineLine) [] := Reps.nil
     refine O.buildSlice (E := 68) (C := C_LineLine) (xs := ([] : List LineLine)) (cs := []) (us := []) (parts := []) 6 hF hS rfl (by kernel_rfl) hr rfl rfl rfl fun p_2 c_2 a w hF hS => step hF (Y.fieldAddr fo_25_1 hF rfl) rfl fun a hF => step hF (Y.load1L 1 sz_22 hF rfl hS rfl rfl) rfl fun a hF => ?_
     obtain ⟨hg, h⟩ := ite_some h
     obtain ⟨ds, hds, hsrc⟩ := src_stab (C := C_LineLine) (xs := n.Lines) (hs).1 hS.stab
     refine O.append (C := C_LineLine) (xs := ([] : List LineLine)) (ys := n.Lines) 6 gr_22 hF rfl rfl hS rfl hsrc hr hds hg rfl fun p_3 c_3 a w hF hS hr_1 => step hF (Y.fieldAddr fo_25_1 hF rfl) rfl fun a hF => O.store (us := [.slice p_3 (([] : List LineLine) ++ n.Lines).length c_3]) 4 sz_22 hF rfl rfl rfl rfl hS rfl rfl fun a w hF hS => nil (then_n (region (step hF (Y.fieldAddr fo_25_1 hF rfl) rfl fun a hF => step hF (Y.load1L 4 sz_22 hF rfl hS rfl rfl) rfl fun a hF => step hF (Y.move hF rfl) rfl fun a hF => step hF (Y.loadNL 5 sz_68 hF rfl hS rfl rfl rfl) rfl fun a hF => ?_)))
     obtain ⟨hg_1, h⟩ := ite_some h
     obtain ⟨b_6, hp⟩ := hS.ownPtr (i := 6) rfl hg_1
     refine step hF (Y.indexOwn hp u_22 sz_68 hg_1 hF rfl rfl) rfl fun a hF => O.storeOwnP (C := C_LineLine) (v0 := (LineLine.mk e.From e.To rv_6)) (xs := (([] : List LineLine) ++ n.Lines)) (us := [.int .i64 e.From, .int .i64 e.To, .int .i64 rv_6.Low, .int .i64 rv_6.High]) 6 hp sz_68 hg_1 hF rfl rfl rfl rfl hS rfl hr_1 fun cs a w hF hS hr_2 => ?_
     try rw [show (([] : List LineLine) ++ n.Lines).length = ((([] : List LineLine) ++ n.Lines).set (Int.toNat rv_5) (LineLine.mk e.From e.To rv_6)).length from List.length_set.symm] at hF
     try rw [show (([] : List LineLine) ++ n.Lines).length = ((([] : List LineLine) ++ n.Lines).set (Int.toNat rv_5) (LineLine.mk e.From e.To rv_6)).length from List.length_set.symm] at hS
     refine nil (blk_n (then_n (seq (region (step hF (Y.indexArr u_75 sz_3 hF rfl rfl (by decide) (by decide)) rfl fun a hF => step hF (Y.load1L 3 sz_3 hF rfl hS rfl rfl) rfl fun a hF => step hF (Y.fieldAddr fo_25_0 hF rfl) rfl fun a hF => step hF (Y.load1L 1 sz_3 hF rfl hS rfl rfl) rfl fun a hF => ?_)))))
     obtain ⟨rv_7, hx_8, h⟩ := bind_some h
     refine O.callP (us := [.int .i64 k.a3, .int .i64 n.Exchanges]) ca_41 hF hS (r0Rest_ok hS.stab k.a3 n.Exchanges rv_7 hx_8) rfl rfl fun a w hF hS => step hF (Y.assign hF rfl) rfl fun a hF => nil (then_n (seq (region (step hF (Y.loadNL 1 sz_25 hF rfl hS rfl rfl rfl) rfl fun a hF => step hF (Y.move hF rfl) rfl fun a hF => ?_))))
     obtain ⟨rv_8, hx_9, h⟩ := bind_some h
     refine O.callS (us := [.agg #[.int .i64 n.Exchanges, .slice p n.Lines.length c, .int .i64 n.Hops, .slice p_1 n.Loops.length c_1], .int .i64 rv_7]) ca_15 hF hS (line_Routes_ok hS.stab n rv_7 hs hs_1 hG rv_8 hx_9) rfl rfl fun v Dv a w hR hlev hF hS => ?_
     replace hs := hs.mono hlev
     replace hs_1 := hs_1.mono hlev
     replace hG := hG.mono hlev
     replace hr_2 := hr_2.mono hlev
     obtain ⟨p_4, c_4, rfl, hs_2⟩ := hR
     refine step hF (Y.move hF rfl) rfl fun a hF => step hF (Y.extract hF rfl rfl) rfl fun a hF => step hF (Y.extract hF rfl rfl) rfl fun a hF => step hF (Y.assign hF rfl) rfl fun a hF => step hF (Y.assign hF rfl) rfl fun a hF => nil (then_n (seq (region (step hF (Y.loadNL 4 sz_25 hF rfl hS rfl rfl rfl) rfl fun a hF => step hF (Y.move hF rfl) rfl fun a hF => ?_))))
     obtain ⟨Dv_1, hlev_1, hs_3, hS⟩ := hS.freezeC (C := C_LineLine) (i := 6) (xs := ((([] : List LineLine) ++ n.Lines).set (Int.toNat rv_5) (LineLine.mk e.From e.To rv_6))) rfl hr_2
     replace hs := hs.mono hlev_1
     replace hs_1 := hs_1.mono hlev_1
     replace hG := hG.mono hlev_1
     replace hs_2 := hs_2.mono hlev_1
     obtain ⟨rv_9, hx_10, h⟩ := bind_some h
     refine O.callS (us := [.agg #[.int .i64 n.Exchanges, .slice p_3 ((([] : List LineLine) ++ n.Lines).set (Int.toNat rv_5) (LineLine.mk e.From e.To rv_6)).length c_3, .int .i64 n.Hops, .slice p_1 n.Loops.length c_1], .int .i64 rv_7]) ca_15 hF hS (line_Routes_ok hS.stab (LineNet.mk n.Exchanges ((([] : List LineLine) ++ n.Lines).set (Int.toNat rv_5) (LineLine.mk e.From e.To rv_6)) n.Hops n.Loops) rv_7 hs_3 hs_1 hG rv_9 hx_10) rfl rfl fun v_1 Dv_2 a w hR_1 hlev_2 hF hS => ?_
     replace hs := hs.mono hlev_2
     replace hs_1 := hs_1.mono hlev_2
     replace hG := hG.mono hlev_2
     replace hs_2 := hs_2.mono hlev_2
     replace hs_3 := hs_3.mono hlev_2
     obtain ⟨p_5, c_5, rfl, hs_4⟩ := hR_1
     refine step hF (Y.move hF rfl) rfl fun a hF => step hF (Y.extract hF rfl rfl) rfl fun a hF => step hF (Y.extract hF rfl rfl) rfl fun a hF => step hF (Y.assign hF rfl) rfl fun a hF => step hF (Y.assign hF rfl) rfl fun a hF => nil (then_n (seq (seq (region (step hF (Y.move hF rfl) rfl fun a hF => step hF (Y.neq hF rfl rfl) rfl fun a hF => nil (then_n (cond_b hF rfl (fun hbv_3 => ?_) (fun hbv_3 => ?_))))))))
     ·replace h := cond_t h hbv_3
      refine seq (region (step hF (Y.move hF rfl) rfl fun a hF => step hF (Y.eql hF rfl rfl) rfl fun a hF => step hF (Y.move hF rfl) rfl fun a hF => join (N := 216) (rs := []) (w0 := w0) (D0 := D0) 3 (us := [(3, .pointer (some ⟨b, 0, none⟩)), (5, .pointer (some ⟨b_2, 0, none⟩)), (6, .bool false), (7, .pointer (some ⟨b_3, 0, none⟩)), (13, .int .i64 rv_7), (14, .slice p_4 rv_8.1.length c_4), (16, .slice p_5 rv_9.1.length c_5), (17, .int .i64 rv_9.2), (156, .bool ((rv_8.2 == 4) || (rv_8.2 == 62)))]) (ms := [(1, .cells b [.int .i64 n.Exchanges, .slice p n.Lines.length c, .int .i64 n.Hops, .slice p_1 n.Loops.length c_1] 25), (2, .cells b_1 [.int .i64 more.From, .int .i64 more.To, .int .i64 more.Delay.Low, .int .i64 more.Delay.High] 68), (3, .cells b_2 [.int .i64 k.a0, .int .i64 k.a1, .int .i64 k.a2, .int .i64 k.a3, .int .i64 k.a4] 75), (4, .cells b_3 [.int .i64 n.Exchanges, .slice p_3 ((([] : List LineLine) ++ n.Lines).set (Int.toNat rv_5) (LineLine.mk e.From e.To rv_6)).length c_3, .int .i64 n.Hops, .slice p_1 n.Loops.length c_1] 25), (5, .cells b_5 [.int .i64 e.From, .int .i64 e.To, .int .i64 rv_6.Low, .int .i64 rv_6.High] 68)]) (D' := Dv_2) ?_ ?_))
      ·rcases bcases (rv_8.2 == 4) with hbv_4 | hbv_4
       ·skip
        refine guard_off hF rfl rfl hbv_4 rfl fun a hF => guard_off hF rfl rfl hbv_4 rfl fun a hF => step hF (Y.pick_t hF rfl hbv_4 rfl) rfl fun a hF => nil (then_n ⟨hF.weak ⟨rfl, rfl, rfl, rfl, rfl, rfl, rfl, rfl, (by rw [hbv_4]; rfl), trivial⟩, hS.weak ⟨rfl, rfl, rfl, rfl, rfl, trivial⟩⟩)
       refine guard_on hF rfl rfl hbv_4 (step hF (Y.move hF rfl) rfl fun a hF => guard_on hF rfl rfl hbv_4 (step hF (Y.eql hF rfl rfl) rfl fun a hF => step hF (Y.pick_f hF rfl hbv_4 rfl) rfl fun a hF => nil (then_n ⟨hF.weak ⟨rfl, rfl, rfl, rfl, rfl, rfl, rfl, rfl, (by rw [hbv_4]; rfl), trivial⟩, hS.weak ⟨rfl, rfl, rfl, rfl, rfl, trivial⟩⟩)))
      intro a w hF hS
      refine step hF (Y.move hF rfl) rfl fun a hF => ?_
      obtain ⟨t, ht, h⟩ := bind_some h
      refine join (N := 216) (rs := []) (w0 := w0) (D0 := D0) 2 (us := [(3, .pointer (some ⟨b, 0, none⟩)), (5, .pointer (some ⟨b_2, 0, none⟩)), (6, .bool false), (7, .pointer (some ⟨b_3, 0, none⟩)), (13, .int .i64 rv_7), (14, .slice p_4 rv_8.1.length c_4), (16, .slice p_5 rv_9.1.length c_5), (17, .int .i64 rv_9.2), (159, .bool t)]) (ms := [(1, .cells b [.int .i64 n.Exchanges, .slice p n.Lines.length c, .int .i64 n.Hops, .slice p_1 n.Loops.length c_1] 25), (2, .cells b_1 [.int .i64 more.From, .int .i64 more.To, .int .i64 more.Delay.Low, .int .i64 more.Delay.High] 68), (3, .cells b_2 [.int .i64 k.a0, .int .i64 k.a1, .int .i64 k.a2, .int .i64 k.a3, .int .i64 k.a4] 75), (4, .cells b_3 [.int .i64 n.Exchanges, .slice p_3 ((([] : List LineLine) ++ n.Lines).set (Int.toNat rv_5) (LineLine.mk e.From e.To rv_6)).length c_3, .int .i64 n.Hops, .slice p_1 n.Loops.length c_1] 25), (5, .cells b_5 [.int .i64 e.From, .int .i64 e.To, .int .i64 rv_6.Low, .int .i64 rv_6.High] 68)]) (D' := Dv_2) ?_ ?_
      ·rcases bcases ((rv_8.2 == 4) || (rv_8.2 == 62)) with hbv_5 | hbv_5
       ·skip
        replace h := cond_t ht hbv_5
        refine guard_on hF rfl rfl hbv_5 ?_
        obtain ⟨rv_10, hx_11, h⟩ := bind_some h
        refine O.callP (us := []) ca_23 hF hS (remontoirlaw06_works_ok hS.stab hG rv_10 hx_11) rfl rfl fun a w hF hS => step hF (Y.pick_t hF rfl hbv_5 rfl) rfl fun a hF => ?_
        obtain rfl := some_inj h
        exact nil (then_n ⟨hF.weak ⟨rfl, rfl, rfl, rfl, rfl, rfl, rfl, rfl, rfl, trivial⟩, hS.weak ⟨rfl, rfl, rfl, rfl, rfl, trivial⟩⟩)
       replace h := cond_f ht hbv_5
       refine guard_off hF rfl rfl hbv_5 rfl fun a hF => step hF (Y.pick_f hF rfl hbv_5 rfl) rfl fun a hF => ?_
       obtain rfl := some_inj h
       exact nil (then_n ⟨hF.weak ⟨rfl, rfl, rfl, rfl, rfl, rfl, rfl, rfl, rfl, trivial⟩, hS.weak ⟨rfl, rfl, rfl, rfl, rfl, trivial⟩⟩)
      intro a w hF hS
      refine step hF (Y.assign hF rfl) rfl fun a hF => nil (then_n (ret_ (then_r ?_)))
      obtain rfl := some_inj h
      exact leaveP Tryd.results10 hF hS (.cons (.tmp rfl) .nil) .nil rfl
     as_aux_lemma =>
      replace h := cond_f h hbv_3
      refine skip_ (then_n (seq (seq (region (step hF (Y.move hF rfl) rfl fun a hF => step hF (Y.eql hF rfl rfl) rfl fun a hF => nil (then_n (cond_b hF rfl (fun hbv_6 => ?_) (fun hbv_6 => ?_))))))))
      ·as_aux_lemma =>
        replace h := cond_t h hbv_6
        refine seq (region (step hF (Y.loadNL 4 sz_25 hF rfl hS rfl rfl rfl) rfl fun a hF => ?_))
        obtain ⟨rv_11, hx_12, h⟩ := bind_some h
        refine O.callP (us := [.agg #[.int .i64 n.Exchanges, .slice p_3 ((([] : List LineLine) ++ n.Lines).set (Int.toNat rv_5) (LineLine.mk e.From e.To rv_6)).length c_3, .int .i64 n.Hops, .slice p_1 n.Loops.length c_1]]) ca_18 hF hS (line_Check_ok hS.stab (LineNet.mk n.Exchanges ((([] : List LineLine) ++ n.Lines).set (Int.toNat rv_5) (LineLine.mk e.From e.To rv_6)) n.Hops n.Loops) hs_3 hs_1 rv_11 hx_12) rfl rfl fun a w hF hS => step hF (Y.move hF rfl) rfl fun a hF => step hF (Y.eql hF rfl rfl) rfl fun a hF => step hF (Y.move hF rfl) rfl fun a hF => ?_
        obtain ⟨t_1, ht_1, h⟩ := bind_some h
        refine join (N := 216) (rs := []) (w0 := w0) (D0 := D0) 5 (us := [(3, .pointer (some ⟨b, 0, none⟩)), (5, .pointer (some ⟨b_2, 0, none⟩)), (6, .bool false), (7, .pointer (some ⟨b_3, 0, none⟩)), (13, .int .i64 rv_7), (14, .slice p_4 rv_8.1.length c_4), (16, .slice p_5 rv_9.1.length c_5), (17, .int .i64 rv_9.2), (171, .bool t_1)]) (ms := [(1, .cells b [.int .i64 n.Exchanges, .slice p n.Lines.length c, .int .i64 n.Hops, .slice p_1 n.Loops.length c_1] 25), (2, .cells b_1 [.int .i64 more.From, .int .i64 more.To, .int .i64 more.Delay.Low, .int .i64 more.Delay.High] 68), (3, .cells b_2 [.int .i64 k.a0, .int .i64 k.a1, .int .i64 k.a2, .int .i64 k.a3, .int .i64 k.a4] 75), (4, .cells b_3 [.int .i64 n.Exchanges, .slice p_3 ((([] : List LineLine) ++ n.Lines).set (Int.toNat rv_5) (LineLine.mk e.From e.To rv_6)).length c_3, .int .i64 n.Hops, .slice p_1 n.Loops.length c_1] 25), (5, .cells b_5 [.int .i64 e.From, .int .i64 e.To, .int .i64 rv_6.Low, .int .i64 rv_6.High] 68)]) (D' := Dv_2) ?_ ?_
        ·rcases bcases (rv_11 == rv_9.2) with hbv_7 | hbv_7
         ·skip
          replace h := cond_t ht_1 hbv_7
          refine guard_on hF rfl rfl hbv_7 (step hF (Y.indexArr u_75 sz_3 hF rfl rfl (by decide) (by decide)) rfl fun a hF => guard_on hF rfl rfl hbv_7 (step hF (Y.load1L 3 sz_3 hF rfl hS rfl rfl) rfl fun a hF => guard_on hF rfl rfl hbv_7 ?_))
          obtain ⟨rv_12, hx_13, h⟩ := bind_some h
          refine O.callP (us := [.int .i64 k.a0, .int .i64 4]) ca_41 hF hS (r0Rest_ok hS.stab k.a0 4 rv_12 hx_13) rfl rfl fun a w hF hS => guard_on hF rfl rfl hbv_7 (step hF (Y.eql hF rfl rfl) rfl fun a hF => step hF (Y.pick_t hF rfl hbv_7 rfl) rfl fun a hF => ?_)
          obtain rfl := some_inj h
          exact nil (then_n ⟨hF.weak ⟨rfl, rfl, rfl, rfl, rfl, rfl, rfl, rfl, rfl, trivial⟩, hS.weak ⟨rfl, rfl, rfl, rfl, rfl, trivial⟩⟩)
         replace h := cond_f ht_1 hbv_7
         refine guard_off hF rfl rfl hbv_7 rfl fun a hF => guard_off hF rfl rfl hbv_7 rfl fun a hF => guard_off hF rfl rfl hbv_7 rfl fun a hF => guard_off hF rfl rfl hbv_7 rfl fun a hF => step hF (Y.pick_f hF rfl hbv_7 rfl) rfl fun a hF => ?_
         obtain rfl := some_inj h
         exact nil (then_n ⟨hF.weak ⟨rfl, rfl, rfl, rfl, rfl, rfl, rfl, rfl, rfl, trivial⟩, hS.weak ⟨rfl, rfl, rfl, rfl, rfl, trivial⟩⟩)
        intro a w hF hS
        refine step hF (Y.move hF rfl) rfl fun a hF => ?_
        obtain ⟨t_2, ht_2, h⟩ := bind_some h
        refine join (N := 216) (rs := []) (w0 := w0) (D0 := D0) 2 (us := [(3, .pointer (some ⟨b, 0, none⟩)), (5, .pointer (some ⟨b_2, 0, none⟩)), (6, .bool false), (7, .pointer (some ⟨b_3, 0, none⟩)), (13, .int .i64 rv_7), (14, .slice p_4 rv_8.1.length c_4), (16, .slice p_5 rv_9.1.length c_5), (17, .int .i64 rv_9.2), (174, .bool t_2)]) (ms := [(1, .cells b [.int .i64 n.Exchanges, .slice p n.Lines.length c, .int .i64 n.Hops, .slice p_1 n.Loops.length c_1] 25), (2, .cells b_1 [.int .i64 more.From, .int .i64 more.To, .int .i64 more.Delay.Low, .int .i64 more.Delay.High] 68), (3, .cells b_2 [.int .i64 k.a0, .int .i64 k.a1, .int .i64 k.a2, .int .i64 k.a3, .int .i64 k.a4] 75), (4, .cells b_3 [.int .i64 n.Exchanges, .slice p_3 ((([] : List LineLine) ++ n.Lines).set (Int.toNat rv_5) (LineLine.mk e.From e.To rv_6)).length c_3, .int .i64 n.Hops, .slice p_1 n.Loops.length c_1] 25), (5, .cells b_5 [.int .i64 e.From, .int .i64 e.To, .int .i64 rv_6.Low, .int .i64 rv_6.High] 68)]) (D' := Dv_2) ?_ ?_
        ·rcases bcases t_1 with hbv_8 | hbv_8
         ·skip
          replace h := cond_t ht_2 hbv_8
          refine guard_on hF rfl rfl hbv_8 ?_
          obtain ⟨rv_13, hx_14, h⟩ := bind_some h
          refine O.callP (us := []) ca_23 hF hS (remontoirlaw06_works_ok hS.stab hG rv_13 hx_14) rfl rfl fun a w hF hS => step hF (Y.pick_t hF rfl hbv_8 rfl) rfl fun a hF => ?_
          obtain rfl := some_inj h
          exact nil (then_n ⟨hF.weak ⟨rfl, rfl, rfl, rfl, rfl, rfl, rfl, rfl, rfl, trivial⟩, hS.weak ⟨rfl, rfl, rfl, rfl, rfl, trivial⟩⟩)
         replace h := cond_f ht_2 hbv_8
         refine guard_off hF rfl rfl hbv_8 rfl fun a hF => step hF (Y.pick_f hF rfl hbv_8 rfl) rfl fun a hF => ?_
         obtain rfl := some_inj h
         exact nil (then_n ⟨hF.weak ⟨rfl, rfl, rfl, rfl, rfl, rfl, rfl, rfl, rfl, trivial⟩, hS.weak ⟨rfl, rfl, rfl, rfl, rfl, trivial⟩⟩)
        intro a w hF hS
        refine step hF (Y.assign hF rfl) rfl fun a hF => nil (then_n (ret_ (then_r ?_)))
        obtain rfl := some_inj h
        exact leaveP Tryd.results10 hF hS (.cons (.tmp rfl) .nil) .nil rfl
      as_aux_lemma =>
       replace h := cond_f h hbv_6
       refine skip_ (then_n (seq (region (step hF (Y.loadNL 1 sz_25 hF rfl hS rfl rfl rfl) rfl fun a hF => step hF (Y.move hF rfl) rfl fun a hF => step hF (Y.indexArr u_75 sz_3 hF rfl rfl (by decide) (by decide)) rfl fun a hF => step hF (Y.load1L 3 sz_3 hF rfl hS rfl rfl) rfl fun a hF => ?_))))
       obtain ⟨rv_14, hx_15, h⟩ := bind_some h
       refine O.callP (us := [.agg #[.int .i64 n.Exchanges, .slice p n.Lines.length c, .int .i64 n.Hops, .slice p_1 n.Loops.length c_1], .int .i64 rv_7, .int .i64 k.a4]) ca_26 hF hS (line_Can_ok hS.stab n rv_7 k.a4 hs hs_1 hG rv_14 hx_15) rfl rfl fun a w hF hS => step hF (Y.move hF rfl) rfl fun a hF => step hF (Y.extract hF rfl rfl) rfl fun a hF => step hF (Y.extract hF rfl rfl) rfl fun a hF => step hF (Y.assign hF rfl) rfl fun a hF => step hF (Y.assign hF rfl) rfl fun a hF => nil (then_n (seq (region (step hF (Y.loadNL 4 sz_25 hF rfl hS rfl rfl rfl) rfl fun a hF => step hF (Y.move hF rfl) rfl fun a hF => step hF (Y.indexArr u_75 sz_3 hF rfl rfl (by decide) (by decide)) rfl fun a hF => step hF (Y.load1L 3 sz_3 hF rfl hS rfl rfl) rfl fun a hF => ?_))))
       obtain ⟨rv_15, hx_16, h⟩ := bind_some h
       refine O.callP (us := [.agg #[.int .i64 n.Exchanges, .slice p_3 ((([] : List LineLine) ++ n.Lines).set (Int.toNat rv_5) (LineLine.mk e.From e.To rv_6)).length c_3, .int .i64 n.Hops, .slice p_1 n.Loops.length c_1], .int .i64 rv_7, .int .i64 k.a4]) ca_26 hF hS (line_Can_ok hS.stab (LineNet.mk n.Exchanges ((([] : List LineLine) ++ n.Lines).set (Int.toNat rv_5) (LineLine.mk e.From e.To rv_6)) n.Hops n.Loops) rv_7 k.a4 hs_3 hs_1 hG rv_15 hx_16) rfl rfl fun a w hF hS => step hF (Y.move hF rfl) rfl fun a hF => step hF (Y.extract hF rfl rfl) rfl fun a hF => step hF (Y.extract hF rfl rfl) rfl fun a hF => step hF (Y.assign hF rfl) rfl fun a hF => step hF (Y.assign hF rfl) rfl fun a hF => nil (then_n (seq (region (step hF (Y.move hF rfl) rfl fun a hF => step hF (Y.eql hF rfl rfl) rfl fun a hF => step hF (Y.move hF rfl) rfl fun a hF => join (N := 216) (rs := []) (w0 := w0) (D0 := D0) 3 (us := [(6, .bool false), (14, .slice p_4 rv_8.1.length c_4), (16, .slice p_5 rv_9.1.length c_5), (18, .bool rv_14.1), (20, .bool rv_15.1), (21, .int .i64 rv_15.2), (196, .bool ((rv_9.2 == 0) && (rv_14.2 == 0)))]) (ms := [(1, .cells b [.int .i64 n.Exchanges, .slice p n.Lines.length c, .int .i64 n.Hops, .slice p_1 n.Loops.length c_1] 25), (2, .cells b_1 [.int .i64 more.From, .int .i64 more.To, .int .i64 more.Delay.Low, .int .i64 more.Delay.High] 68), (3, .cells b_2 [.int .i64 k.a0, .int .i64 k.a1, .int .i64 k.a2, .int .i64 k.a3, .int .i64 k.a4] 75), (4, .cells b_3 [.int .i64 n.Exchanges, .slice p_3 ((([] : List LineLine) ++ n.Lines).set (Int.toNat rv_5) (LineLine.mk e.From e.To rv_6)).length c_3, .int .i64 n.Hops, .slice p_1 n.Loops.length c_1] 25), (5, .cells b_5 [.int .i64 e.From, .int .i64 e.To, .int .i64 rv_6.Low, .int .i64 rv_6.High] 68)]) (D' := Dv_2) ?_ ?_))))
       ·rcases bcases (rv_9.2 == 0) with hbv_9 | hbv_9
        ·skip
         refine guard_on hF rfl rfl hbv_9 (step hF (Y.move hF rfl) rfl fun a hF => guard_on hF rfl rfl hbv_9 (step hF (Y.eql hF rfl rfl) rfl fun a hF => step hF (Y.pick_t hF rfl hbv_9 rfl) rfl fun a hF => nil (then_n ⟨hF.weak ⟨rfl, rfl, rfl, rfl, rfl, rfl, (by rw [hbv_9]; rfl), trivial⟩, hS.weak ⟨rfl, rfl, rfl, rfl, rfl, trivial⟩⟩)))
        refine guard_off hF rfl rfl hbv_9 rfl fun a hF => guard_off hF rfl rfl hbv_9 rfl fun a hF => step hF (Y.pick_f hF rfl hbv_9 rfl) rfl fun a hF => nil (then_n ⟨hF.weak ⟨rfl, rfl, rfl, rfl, rfl, rfl, (by rw [hbv_9]; rfl), trivial⟩, hS.weak ⟨rfl, rfl, rfl, rfl, rfl, trivial⟩⟩)
       intro a w hF hS
       refine step hF (Y.move hF rfl) rfl fun a hF => join (N := 216) (rs := []) (w0 := w0) (D0 := D0) 3 (us := [(6, .bool false), (14, .slice p_4 rv_8.1.length c_4), (16, .slice p_5 rv_9.1.length c_5), (18, .bool rv_14.1), (20, .bool rv_15.1), (200, .bool (((rv_9.2 == 0) && (rv_14.2 == 0)) && (rv_15.2 == 0)))]) (ms := [(1, .cells b [.int .i64 n.Exchanges, .slice p n.Lines.length c, .int .i64 n.Hops, .slice p_1 n.Loops.length c_1] 25), (2, .cells b_1 [.int .i64 more.From, .int .i64 more.To, .int .i64 more.Delay.Low, .int .i64 more.Delay.High] 68), (3, .cells b_2 [.int .i64 k.a0, .int .i64 k.a1, .int .i64 k.a2, .int .i64 k.a3, .int .i64 k.a4] 75), (4, .cells b_3 [.int .i64 n.Exchanges, .slice p_3 ((([] : List LineLine) ++ n.Lines).set (Int.toNat rv_5) (LineLine.mk e.From e.To rv_6)).length c_3, .int .i64 n.Hops, .slice p_1 n.Loops.length c_1] 25), (5, .cells b_5 [.int .i64 e.From, .int .i64 e.To, .int .i64 rv_6.Low, .int .i64 rv_6.High] 68)]) (D' := Dv_2) ?_ ?_
       ·rcases bcases ((rv_9.2 == 0) && (rv_14.2 == 0)) with hbv_10 | hbv_10
        ·skip
         refine guard_on hF rfl rfl hbv_10 (step hF (Y.move hF rfl) rfl fun a hF => guard_on hF rfl rfl hbv_10 (step hF (Y.eql hF rfl rfl) rfl fun a hF => step hF (Y.pick_t hF rfl hbv_10 rfl) rfl fun a hF => nil (then_n ⟨hF.weak ⟨rfl, rfl, rfl, rfl, rfl, (by rw [hbv_10]; rfl), trivial⟩, hS.weak ⟨rfl, rfl, rfl, rfl, rfl, trivial⟩⟩)))
        refine guard_off hF rfl rfl hbv_10 rfl fun a hF => guard_off hF rfl rfl hbv_10 rfl fun a hF => step hF (Y.pick_f hF rfl hbv_10 rfl) rfl fun a hF => nil (then_n ⟨hF.weak ⟨rfl, rfl, rfl, rfl, rfl, (by rw [hbv_10]; rfl), trivial⟩, hS.weak ⟨rfl, rfl, rfl, rfl, rfl, trivial⟩⟩)
       intro a w hF hS
       refine step hF (Y.move hF rfl) rfl fun a hF => ?_
       obtain ⟨t_3, ht_3, h⟩ := bind_some h
       refine join (N := 216) (rs := []) (w0 := w0) (D0 := D0) 4 (us := [(6, .bool false), (18, .bool rv_14.1), (20, .bool rv_15.1), (205, .bool t_3)]) (ms := [(1, .cells b [.int .i64 n.Exchanges, .slice p n.Lines.length c, .int .i64 n.Hops, .slice p_1 n.Loops.length c_1] 25), (2, .cells b_1 [.int .i64 more.From, .int .i64 more.To, .int .i64 more.Delay.Low, .int .i64 more.Delay.High] 68), (3, .cells b_2 [.int .i64 k.a0, .int .i64 k.a1, .int .i64 k.a2, .int .i64 k.a3, .int .i64 k.a4] 75), (4, .cells b_3 [.int .i64 n.Exchanges, .slice p_3 ((([] : List LineLine) ++ n.Lines).set (Int.toNat rv_5) (LineLine.mk e.From e.To rv_6)).length c_3, .int .i64 n.Hops, .slice p_1 n.Loops.length c_1] 25), (5, .cells b_5 [.int .i64 e.From, .int .i64 e.To, .int .i64 rv_6.Low, .int .i64 rv_6.High] 68)]) (D' := Dv_2) ?_ ?_
       ·rcases bcases (((rv_9.2 == 0) && (rv_14.2 == 0)) && (rv_15.2 == 0)) with hbv_11 | hbv_11
        ·skip
         replace h := cond_t ht_3 hbv_11
         refine guard_on hF rfl rfl hbv_11 (step hF (Y.move hF rfl) rfl fun a hF => guard_on hF rfl rfl hbv_11 (step hF (Y.move hF rfl) rfl fun a hF => guard_on hF rfl rfl hbv_11 ?_))
         obtain ⟨rv_16, hx_17, h⟩ := bind_some h
         refine O.callP (us := [.slice p_4 rv_8.1.length c_4, .slice p_5 rv_9.1.length c_5]) ca_51 hF hS (remontoirlaw06_all_ok hS.stab rv_8.1 rv_9.1 hs_2 hs_4 rv_16 hx_17) rfl rfl fun a w hF hS => step hF (Y.pick_t hF rfl hbv_11 rfl) rfl fun a hF => ?_
         obtain rfl := some_inj h
         exact nil (then_n ⟨hF.weak ⟨rfl, rfl, rfl, rfl, trivial⟩, hS.weak ⟨rfl, rfl, rfl, rfl, rfl, trivial⟩⟩)
        replace h := cond_f ht_3 hbv_11
        refine guard_off hF rfl rfl hbv_11 rfl fun a hF => guard_off hF rfl rfl hbv_11 rfl fun a hF => guard_off hF rfl rfl hbv_11 rfl fun a hF => step hF (Y.pick_f hF rfl hbv_11 rfl) rfl fun a hF => ?_
        obtain rfl := some_inj h
        exact nil (then_n ⟨hF.weak ⟨rfl, rfl, rfl, rfl, trivial⟩, hS.weak ⟨rfl, rfl, rfl, rfl, rfl, trivial⟩⟩)
       intro a w hF hS
       refine step hF (Y.move hF rfl) rfl fun a hF => join (N := 216) (rs := []) (w0 := w0) (D0 := D0) 6 (us := [(6, .bool false), (212, .bool (t_3 && ((!rv_14.1) || rv_15.1)))]) (ms := [(1, .cells b [.int .i64 n.Exchanges, .slice p n.Lines.length c, .int .i64 n.Hops, .slice p_1 n.Loops.length c_1] 25), (2, .cells b_1 [.int .i64 more.From, .int .i64 more.To, .int .i64 more.Delay.Low, .int .i64 more.Delay.High] 68), (3, .cells b_2 [.int .i64 k.a0, .int .i64 k.a1, .int .i64 k.a2, .int .i64 k.a3, .int .i64 k.a4] 75), (4, .cells b_3 [.int .i64 n.Exchanges, .slice p_3 ((([] : List LineLine) ++ n.Lines).set (Int.toNat rv_5) (LineLine.mk e.From e.To rv_6)).length c_3, .int .i64 n.Hops, .slice p_1 n.Loops.length c_1] 25), (5, .cells b_5 [.int .i64 e.From, .int .i64 e.To, .int .i64 rv_6.Low, .int .i64 rv_6.High] 68)]) (D' := Dv_2) ?_ ?_
       ·rcases bcases t_3 with hbv_12 | hbv_12
        ·skip
         refine guard_on hF rfl rfl hbv_12 (step hF (Y.move hF rfl) rfl fun a hF => guard_on hF rfl rfl hbv_12 (step hF (Y.not hF rfl) rfl fun a hF => guard_on hF rfl rfl hbv_12 (step hF (Y.move hF rfl) rfl fun a hF => join (N := 216) (rs := []) (w0 := w0) (D0 := D0) 2 (us := [(6, .bool false), (206, .bool t_3), (211, .bool ((!rv_14.1) || rv_15.1))]) (ms := [(1, .cells b [.int .i64 n.Exchanges, .slice p n.Lines.length c, .int .i64 n.Hops, .slice p_1 n.Loops.length c_1] 25), (2, .cells b_1 [.int .i64 more.From, .int .i64 more.To, .int .i64 more.Delay.Low, .int .i64 more.Delay.High] 68), (3, .cells b_2 [.int .i64 k.a0, .int .i64 k.a1, .int .i64 k.a2, .int .i64 k.a3, .int .i64 k.a4] 75), (4, .cells b_3 [.int .i64 n.Exchanges, .slice p_3 ((([] : List LineLine) ++ n.Lines).set (Int.toNat rv_5) (LineLine.mk e.From e.To rv_6)).length c_3, .int .i64 n.Hops, .slice p_1 n.Loops.length c_1] 25), (5, .cells b_5 [.int .i64 e.From, .int .i64 e.To, .int .i64 rv_6.Low, .int .i64 rv_6.High] 68)]) (D' := Dv_2) ?_ ?_)))
         ·rcases bcases (!rv_14.1) with hbv_13 | hbv_13
          ·skip
           refine guard_off hF rfl rfl hbv_13 rfl fun a hF => guard_on hF rfl rfl hbv_12 (step hF (Y.pick_t hF rfl hbv_13 rfl) rfl fun a hF => nil (then_n ⟨hF.weak ⟨rfl, rfl, (by rw [hbv_13]; rfl), trivial⟩, hS.weak ⟨rfl, rfl, rfl, rfl, rfl, trivial⟩⟩))
          refine guard_on hF rfl rfl hbv_13 (step hF (Y.move hF rfl) rfl fun a hF => guard_on hF rfl rfl hbv_12 (step hF (Y.pick_f hF rfl hbv_13 rfl) rfl fun a hF => nil (then_n ⟨hF.weak ⟨rfl, rfl, (by rw [hbv_13]; rfl), trivial⟩, hS.weak ⟨rfl, rfl, rfl, rfl, rfl, trivial⟩⟩)))
         intro a w hF hS
         refine step hF (Y.pick_t hF rfl hbv_12 rfl) rfl fun a hF => nil (then_n ⟨hF.weak ⟨rfl, (by rw [hbv_12]; rfl), trivial⟩, hS.weak ⟨rfl, rfl, rfl, rfl, rfl, trivial⟩⟩)
        refine guard_off hF rfl rfl hbv_12 rfl fun a hF => guard_off hF rfl rfl hbv_12 rfl fun a hF => guard_off hF rfl rfl hbv_12 rfl fun a hF => guard_offu hF rfl rfl rfl fun a hF => guard_off hF rfl rfl hbv_12 rfl fun a hF => step hF (Y.pick_f hF rfl hbv_12 rfl) rfl fun a hF => nil (then_n ⟨hF.weak ⟨rfl, (by rw [hbv_12]; rfl), trivial⟩, hS.weak ⟨rfl, rfl, rfl, rfl, rfl, trivial⟩⟩)
       intro a w hF hS
       refine step hF (Y.move hF rfl) rfl fun a hF => ?_
       obtain ⟨t_4, ht_4, h⟩ := bind_some h
       refine join (N := 216) (rs := []) (w0 := w0) (D0 := D0) 2 (us := [(6, .bool false), (215, .bool t_4)]) (ms := [(1, .cells b [.int .i64 n.Exchanges, .slice p n.Lines.length c, .int .i64 n.Hops, .slice p_1 n.Loops.length c_1] 25), (2, .cells b_1 [.int .i64 more.From, .int .i64 more.To, .int .i64 more.Delay.Low, .int .i64 more.Delay.High] 68), (3, .cells b_2 [.int .i64 k.a0, .int .i64 k.a1, .int .i64 k.a2, .int .i64 k.a3, .int .i64 k.a4] 75), (4, .cells b_3 [.int .i64 n.Exchanges, .slice p_3 ((([] : List LineLine) ++ n.Lines).set (Int.toNat rv_5) (LineLine.mk e.From e.To rv_6)).length c_3, .int .i64 n.Hops, .slice p_1 n.Loops.length c_1] 25), (5, .cells b_5 [.int .i64 e.From, .int .i64 e.To, .int .i64 rv_6.Low, .int .i64 rv_6.High] 68)]) (D' := Dv_2) ?_ ?_
       ·rcases bcases (t_3 && ((!rv_14.1) || rv_15.1)) with hbv_14 | hbv_14
        ·skip
         replace h := cond_t ht_4 hbv_14
         refine guard_on hF rfl rfl hbv_14 ?_
         obtain ⟨rv_17, hx_18, h⟩ := bind_some h
         refine O.callP (us := []) ca_23 hF hS (remontoirlaw06_works_ok hS.stab hG rv_17 hx_18) rfl rfl fun a w hF hS => step hF (Y.pick_t hF rfl hbv_14 rfl) rfl fun a hF => ?_
         obtain rfl := some_inj h
         exact nil (then_n ⟨hF.weak ⟨rfl, rfl, trivial⟩, hS.weak ⟨rfl, rfl, rfl, rfl, rfl, trivial⟩⟩)
        replace h := cond_f ht_4 hbv_14
        refine guard_off hF rfl rfl hbv_14 rfl fun a hF => step hF (Y.pick_f hF rfl hbv_14 rfl) rfl fun a hF => ?_
        obtain rfl := some_inj h
        exact nil (then_n ⟨hF.weak ⟨rfl, rfl, trivial⟩, hS.weak ⟨rfl, rfl, rfl, rfl, rfl, trivial⟩⟩)
       intro a w hF hS
       refine step hF (Y.assign hF rfl) rfl fun a hF => nil (then_n (ret_ ?_))
       obtain rfl := some_inj h
       exact leaveP Tryd.results10 hF hS (.cons (.tmp rfl) .nil) .nil rfl
  as_aux_lemma =>
   replace h := cond_f h hbv_1
   refine seq (region (step hF (Y.eql hF rfl rfl) rfl fun a hF => step hF (Y.assign hF rfl) rfl fun a hF => nil (then_n (cond_b hF rfl (fun hbv_15 => ?_) (fun hbv_15 => ?_)))))
   ·as_aux_lemma =>
     replace h := cond_t h hbv_15
     refine seq (seq (region (step hF (Y.fieldAddr fo_25_3 hF rfl) rfl fun a hF => step hF (Y.load1L 1 sz_23 hF rfl hS rfl rfl) rfl fun a hF => step hF (Y.lenSl u_23 hF rfl) rfl fun a hF => step hF (Y.eql hF rfl rfl) rfl fun a hF => nil (then_n (cond_b hF rfl (fun hbv_16 => ?_) (fun hbv_16 => ?_))))))
     ·replace h := cond_t h hbv_16
      refine seq (region ?_)
      obtain ⟨rv_18, hx_19, h⟩ := bind_some h
      refine O.callP (us := []) ca_23 hF hS (remontoirlaw06_works_ok hS.stab hG rv_18 hx_19) rfl rfl fun a w hF hS => step hF (Y.assign hF rfl) rfl fun a hF => nil (then_n (ret_ (then_r (blk_r (then_r ?_)))))
      obtain rfl := some_inj h
      exact leaveP Tryd.results10 hF hS (.cons (.tmp rfl) .nil) .nil rfl
     as_aux_lemma =>
      replace h := cond_f h hbv_16
      refine skip_ (then_n (seq (region (step hF (Y.indexArr u_75 sz_3 hF rfl rfl (by decide) (by decide)) rfl fun a hF => step hF (Y.load1L 3 sz_3 hF rfl hS rfl rfl) rfl fun a hF => step hF (Y.fieldAddr fo_25_3 hF rfl) rfl fun a hF => step hF (Y.load1L 1 sz_23 hF rfl hS rfl rfl) rfl fun a hF => step hF (Y.lenSl u_23 hF rfl) rfl fun a hF => ?_))))
      obtain ⟨rv_19, hx_20, h⟩ := bind_some h
      refine O.callP (us := [.int .i64 k.a2, .int .i64 (n.Loops.length : Int)]) ca_41 hF hS (r0Rest_ok hS.stab k.a2 (n.Loops.length : Int) rv_19 hx_20) rfl rfl fun a w hF hS => step hF (Y.assign hF rfl) rfl fun a hF => nil (then_n (seq (region (step hF (Y.fieldAddr fo_25_3 hF rfl) rfl fun a hF => step hF (Y.load1L 1 sz_23 hF rfl hS rfl rfl) rfl fun a hF => step hF (Y.move hF rfl) rfl fun a hF => ?_))))
      obtain ⟨e_1, hx_21, h⟩ := bind_some h
      obtain ⟨b_7, o_1, hE_1, hY_1⟩ := Y.indexS (P := Tryd.prog) (C := C_LineLoop) (xs := n.Loops) (T := 23) (x := (.tmp 94)) (y := (.tmp 95)) u_23 sz_71 hF rfl rfl (hs_1).1 hx_21
      obtain ⟨cc_1, hc_1, hcell_1⟩ := hE_1.open
      obtain rfl := C_LineLoop.open hc_1
      refine step hF (hY_1) rfl fun a hF => step hF (Y.loadNE (o := o_1) (k := 0) sz_71 hF rfl (hcell_1 _ hS.stab) rfl rfl) rfl fun a hF => O.alloc 7 zc_71 hF hS rfl fun b_8 a w hF hS => O.store (us := [.int .i64 e_1.Exchange, .int .i64 e_1.Read.Low, .int .i64 e_1.Read.High]) 7 sz_71 hF rfl rfl rfl rfl hS rfl rfl fun a w hF hS => nil (then_n (seq (region (step hF (Y.fieldAddr fo_71_1 hF rfl) rfl fun a hF => step hF (Y.fieldAddr fo_40_0 hF rfl) rfl fun a hF => step hF (Y.load1L 7 sz_3 hF rfl hS rfl rfl) rfl fun a hF => step hF (Y.move hF rfl) rfl fun a hF => step hF (Y.sub hF rfl rfl) rfl fun a hF => step hF (Y.max2 hF rfl rfl) rfl fun a hF => step hF (Y.fieldAddr fo_71_1 hF rfl) rfl fun a hF => step hF (Y.fieldAddr fo_40_1 hF rfl) rfl fun a hF => step hF (Y.load1L 7 sz_3 hF rfl hS rfl rfl) rfl fun a hF => step hF (Y.move hF rfl) rfl fun a hF => step hF (Y.add hF rfl rfl) rfl fun a hF => step hF (Y.min2 hF rfl rfl) rfl fun a hF => ?_))))
      obtain ⟨rv_20, hx_22, h⟩ := bind_some h
      refine O.callP (us := [.int .i64 (if wr (e_1.Read.Low - rv_2) > 0 then wr (e_1.Read.Low - rv_2) else 0), .int .i64 (if wr (e_1.Read.High + rv_2) < 12000 then wr (e_1.Read.High + rv_2) else 12000)]) ca_44 hF hS (r0To_ok hS.stab (if wr (e_1.Read.Low - rv_2) > 0 then wr (e_1.Read.Low - rv_2) else 0) (if wr (e_1.Read.High + rv_2) < 12000 then wr (e_1.Read.High + rv_2) else 12000) rv_20 hx_22) rfl rfl fun a w hF hS => step hF (Y.fieldAddr fo_71_1 hF rfl) rfl fun a hF => O.store (us := [.int .i64 rv_20.Low, .int .i64 rv_20.High]) 7 sz_40 hF rfl rfl rfl rfl hS rfl rfl fun a w hF hS => nil (then_n (seq (region ?_)))
      have hr_3 : Reps C_LineLoop D0 ([] : List LineLoop) [] := Reps.nil
      refine O.buildSlice (E := 71) (C := C_LineLoop) (xs := ([] : List LineLoop)) (cs := []) (us := []) (parts := []) 8 hF hS rfl (by kernel_rfl) hr_3 rfl rfl rfl fun p_6 c_6 a w hF hS => step hF (Y.fieldAddr fo_25_3 hF rfl) rfl fun a hF => step hF (Y.load1L 1 sz_23 hF rfl hS rfl rfl) rfl fun a hF => ?_
      obtain ⟨hg_2, h⟩ := ite_some h
      obtain ⟨ds_1, hds_1, hsrc_1⟩ := src_stab (C := C_LineLoop) (xs := n.Loops) (hs_1).1 hS.stab
      refine O.append (C := C_LineLoop) (xs := ([] : List LineLoop)) (ys := n.Loops) 8 gr_23 hF rfl rfl hS rfl hsrc_1 hr_3 hds_1 hg_2 rfl fun p_7 c_7 a w hF hS hr_4 => step hF (Y.fieldAddr fo_25_3 hF rfl) rfl fun a hF => O.store (us := [.slice p_7 (([] : List LineLoop) ++ n.Loops).length c_7]) 4 sz_23 hF rfl rfl rfl rfl hS rfl rfl fun a w hF hS => nil (then_n (region (step hF (Y.fieldAddr fo_25_3 hF rfl) rfl fun a hF => step hF (Y.load1L 4 sz_23 hF rfl hS rfl rfl) rfl fun a hF => step hF (Y.move hF rfl) rfl fun a hF => step hF (Y.loadNL 7 sz_71 hF rfl hS rfl rfl rfl) rfl fun a hF => ?_)))
      obtain ⟨hg_3, h⟩ := ite_some h
      obtain ⟨b_9, hp_1⟩ := hS.ownPtr (i := 8) rfl hg_3
      refine step hF (Y.indexOwn hp_1 u_23 sz_71 hg_3 hF rfl rfl) rfl fun a hF => O.storeOwnP (C := C_LineLoop) (v0 := (LineLoop.mk e_1.Exchange rv_20)) (xs := (([] : List LineLoop) ++ n.Loops)) (us := [.int .i64 e_1.Exchange, .int .i64 rv_20.Low, .int .i64 rv_20.High]) 8 hp_1 sz_71 hg_3 hF rfl rfl rfl rfl hS rfl hr_4 fun cs_1 a w hF hS hr_5 => ?_
      try rw [show (([] : List LineLoop) ++ n.Loops).length = ((([] : List LineLoop) ++ n.Loops).set (Int.toNat rv_19) (LineLoop.mk e_1.Exchange rv_20)).length from List.length_set.symm] at hF
      try rw [show (([] : List LineLoop) ++ n.Loops).length = ((([] : List LineLoop) ++ n.Loops).set (Int.toNat rv_19) (LineLoop.mk e_1.Exchange rv_20)).length from List.length_set.symm] at hS
      refine nil (blk_n (then_n (seq (region (step hF (Y.indexArr u_75 sz_3 hF rfl rfl (by decide) (by decide)) rfl fun a hF => step hF (Y.load1L 3 sz_3 hF rfl hS rfl rfl) rfl fun a hF => step hF (Y.fieldAddr fo_25_0 hF rfl) rfl fun a hF => step hF (Y.load1L 1 sz_3 hF rfl hS rfl rfl) rfl fun a hF => ?_)))))
      obtain ⟨rv_21, hx_23, h⟩ := bind_some h
      refine O.callP (us := [.int .i64 k.a3, .int .i64 n.Exchanges]) ca_41 hF hS (r0Rest_ok hS.stab k.a3 n.Exchanges rv_21 hx_23) rfl rfl fun a w hF hS => step hF (Y.assign hF rfl) rfl fun a hF => nil (then_n (seq (region (step hF (Y.loadNL 1 sz_25 hF rfl hS rfl rfl rfl) rfl fun a hF => step hF (Y.move hF rfl) rfl fun a hF => ?_))))
      obtain ⟨rv_22, hx_24, h⟩ := bind_some h
      refine O.callS (us := [.agg #[.int .i64 n.Exchanges, .slice p n.Lines.length c, .int .i64 n.Hops, .slice p_1 n.Loops.length c_1], .int .i64 rv_21]) ca_15 hF hS (line_Routes_ok hS.stab n rv_21 hs hs_1 hG rv_22 hx_24) rfl rfl fun v_2 Dv_3 a w hR_2 hlev_3 hF hS => ?_
      replace hs := hs.mono hlev_3
      replace hs_1 := hs_1.mono hlev_3
      replace hG := hG.mono hlev_3
      replace hr_5 := hr_5.mono hlev_3
      obtain ⟨p_8, c_8, rfl, hs_5⟩ := hR_2
      refine step hF (Y.move hF rfl) rfl fun a hF => step hF (Y.extract hF rfl rfl) rfl fun a hF => step hF (Y.extract hF rfl rfl) rfl fun a hF => step hF (Y.assign hF rfl) rfl fun a hF => step hF (Y.assign hF rfl) rfl fun a hF => nil (then_n (seq (region (step hF (Y.loadNL 4 sz_25 hF rfl hS rfl rfl rfl) rfl fun a hF => step hF (Y.move hF rfl) rfl fun a hF => ?_))))
      obtain ⟨Dv_4, hlev_4, hs_6, hS⟩ := hS.freezeC (C := C_LineLoop) (i := 8) (xs := ((([] : List LineLoop) ++ n.Loops).set (Int.toNat rv_19) (LineLoop.mk e_1.Exchange rv_20))) rfl hr_5
      replace hs := hs.mono hlev_4
      replace hs_1 := hs_1.mono hlev_4
      replace hG := hG.mono hlev_4
      replace hs_5 := hs_5.mono hlev_4
      obtain ⟨rv_23, hx_25, h⟩ := bind_some h
      refine O.callS (us := [.agg #[.int .i64 n.Exchanges, .slice p n.Lines.length c, .int .i64 n.Hops, .slice p_7 ((([] : List LineLoop) ++ n.Loops).set (Int.toNat rv_19) (LineLoop.mk e_1.Exchange rv_20)).length c_7], .int .i64 rv_21]) ca_15 hF hS (line_Routes_ok hS.stab (LineNet.mk n.Exchanges n.Lines n.Hops ((([] : List LineLoop) ++ n.Loops).set (Int.toNat rv_19) (LineLoop.mk e_1.Exchange rv_20))) rv_21 hs hs_6 hG rv_23 hx_25) rfl rfl fun v_3 Dv_5 a w hR_3 hlev_5 hF hS => ?_
      replace hs := hs.mono hlev_5
      replace hs_1 := hs_1.mono hlev_5
      replace hG := hG.mono hlev_5
      replace hs_5 := hs_5.mono hlev_5
      replace hs_6 := hs_6.mono hlev_5
      obtain ⟨p_9, c_9, rfl, hs_7⟩ := hR_3
      refine step hF (Y.move hF rfl) rfl fun a hF => step hF (Y.extract hF rfl rfl) rfl fun a hF => step hF (Y.extract hF rfl rfl) rfl fun a hF => step hF (Y.assign hF rfl) rfl fun a hF => step hF (Y.assign hF rfl) rfl fun a hF => nil (then_n (seq (seq (region (step hF (Y.move hF rfl) rfl fun a hF => step hF (Y.neq hF rfl rfl) rfl fun a hF => nil (then_n (cond_b hF rfl (fun hbv_17 => ?_) (fun hbv_17 => ?_))))))))
      ·replace h := cond_t h hbv_17
       refine seq (region (step hF (Y.move hF rfl) rfl fun a hF => step hF (Y.eql hF rfl rfl) rfl fun a hF => step hF (Y.move hF rfl) rfl fun a hF => join (N := 216) (rs := []) (w0 := w0) (D0 := D0) 3 (us := [(3, .pointer (some ⟨b, 0, none⟩)), (5, .pointer (some ⟨b_2, 0, none⟩)), (6, .bool false), (7, .pointer (some ⟨b_3, 0, none⟩)), (13, .int .i64 rv_21), (14, .slice p_8 rv_22.1.length c_8), (16, .slice p_9 rv_23.1.length c_9), (17, .int .i64 rv_23.2), (156, .bool ((rv_22.2 == 4) || (rv_22.2 == 62)))]) (ms := [(1, .cells b [.int .i64 n.Exchanges, .slice p n.Lines.length c, .int .i64 n.Hops, .slice p_1 n.Loops.length c_1] 25), (2, .cells b_1 [.int .i64 more.From, .int .i64 more.To, .int .i64 more.Delay.Low, .int .i64 more.Delay.High] 68), (3, .cells b_2 [.int .i64 k.a0, .int .i64 k.a1, .int .i64 k.a2, .int .i64 k.a3, .int .i64 k.a4] 75), (4, .cells b_3 [.int .i64 n.Exchanges, .slice p n.Lines.length c, .int .i64 n.Hops, .slice p_7 ((([] : List LineLoop) ++ n.Loops).set (Int.toNat rv_19) (LineLoop.mk e_1.Exchange rv_20)).length c_7] 25), (7, .cells b_8 [.int .i64 e_1.Exchange, .int .i64 rv_20.Low, .int .i64 rv_20.High] 71)]) (D' := Dv_5) ?_ ?_))
       ·rcases bcases (rv_22.2 == 4) with hbv_18 | hbv_18
        ·skip
         refine guard_off hF rfl rfl hbv_18 rfl fun a hF => guard_off hF rfl rfl hbv_18 rfl fun a hF => step hF (Y.pick_t hF rfl hbv_18 rfl) rfl fun a hF => nil (then_n ⟨hF.weak ⟨rfl, rfl, rfl, rfl, rfl, rfl, rfl, rfl, (by rw [hbv_18]; rfl), trivial⟩, hS.weak ⟨rfl, rfl, rfl, rfl, rfl, trivial⟩⟩)
        refine guard_on hF rfl rfl hbv_18 (step hF (Y.move hF rfl) rfl fun a hF => guard_on hF rfl rfl hbv_18 (step hF (Y.eql hF rfl rfl) rfl fun a hF => step hF (Y.pick_f hF rfl hbv_18 rfl) rfl fun a hF => nil (then_n ⟨hF.weak ⟨rfl, rfl, rfl, rfl, rfl, rfl, rfl, rfl, (by rw [hbv_18]; rfl), trivial⟩, hS.weak ⟨rfl, rfl, rfl, rfl, rfl, trivial⟩⟩)))
       intro a w hF hS
       refine step hF (Y.move hF rfl) rfl fun a hF => ?_
       obtain ⟨t_5, ht_5, h⟩ := bind_some h
       refine join (N := 216) (rs := []) (w0 := w0) (D0 := D0) 2 (us := [(3, .pointer (some ⟨b, 0, none⟩)), (5, .pointer (some ⟨b_2, 0, none⟩)), (6, .bool false), (7, .pointer (some ⟨b_3, 0, none⟩)), (13, .int .i64 rv_21), (14, .slice p_8 rv_22.1.length c_8), (16, .slice p_9 rv_23.1.length c_9), (17, .int .i64 rv_23.2), (159, .bool t_5)]) (ms := [(1, .cells b [.int .i64 n.Exchanges, .slice p n.Lines.length c, .int .i64 n.Hops, .slice p_1 n.Loops.length c_1] 25), (2, .cells b_1 [.int .i64 more.From, .int .i64 more.To, .int .i64 more.Delay.Low, .int .i64 more.Delay.High] 68), (3, .cells b_2 [.int .i64 k.a0, .int .i64 k.a1, .int .i64 k.a2, .int .i64 k.a3, .int .i64 k.a4] 75), (4, .cells b_3 [.int .i64 n.Exchanges, .slice p n.Lines.length c, .int .i64 n.Hops, .slice p_7 ((([] : List LineLoop) ++ n.Loops).set (Int.toNat rv_19) (LineLoop.mk e_1.Exchange rv_20)).length c_7] 25), (7, .cells b_8 [.int .i64 e_1.Exchange, .int .i64 rv_20.Low, .int .i64 rv_20.High] 71)]) (D' := Dv_5) ?_ ?_
       ·rcases bcases ((rv_22.2 == 4) || (rv_22.2 == 62)) with hbv_19 | hbv_19
        ·skip
         replace h := cond_t ht_5 hbv_19
         refine guard_on hF rfl rfl hbv_19 ?_
         obtain ⟨rv_24, hx_26, h⟩ := bind_some h
         refine O.callP (us := []) ca_23 hF hS (remontoirlaw06_works_ok hS.stab hG rv_24 hx_26) rfl rfl fun a w hF hS => step hF (Y.pick_t hF rfl hbv_19 rfl) rfl fun a hF => ?_
         obtain rfl := some_inj h
         exact nil (then_n ⟨hF.weak ⟨rfl, rfl, rfl, rfl, rfl, rfl, rfl, rfl, rfl, trivial⟩, hS.weak ⟨rfl, rfl, rfl, rfl, rfl, trivial⟩⟩)
        replace h := cond_f ht_5 hbv_19
        refine guard_off hF rfl rfl hbv_19 rfl fun a hF => step hF (Y.pick_f hF rfl hbv_19 rfl) rfl fun a hF => ?_
        obtain rfl := some_inj h
        exact nil (then_n ⟨hF.weak ⟨rfl, rfl, rfl, rfl, rfl, rfl, rfl, rfl, rfl, trivial⟩, hS.weak ⟨rfl, rfl, rfl, rfl, rfl, trivial⟩⟩)
       intro a w hF hS
       refine step hF (Y.assign hF rfl) rfl fun a hF => nil (then_n (ret_ (then_r ?_)))
       obtain rfl := some_inj h
       exact leaveP Tryd.results10 hF hS (.cons (.tmp rfl) .nil) .nil rfl
      as_aux_lemma =>
       replace h := cond_f h hbv_17
       refine skip_ (then_n (seq (seq (region (step hF (Y.move hF rfl) rfl fun a hF => step hF (Y.eql hF rfl rfl) rfl fun a hF => nil (then_n (cond_b hF rfl (fun hbv_20 => ?_) (fun hbv_20 => ?_))))))))
       ·as_aux_lemma =>
         replace h := cond_t h hbv_20
         refine seq (region (step hF (Y.loadNL 4 sz_25 hF rfl hS rfl rfl rfl) rfl fun a hF => ?_))
         obtain ⟨rv_25, hx_27, h⟩ := bind_some h
         refine O.callP (us := [.agg #[.int .i64 n.Exchanges, .slice p n.Lines.length c, .int .i64 n.Hops, .slice p_7 ((([] : List LineLoop) ++ n.Loops).set (Int.toNat rv_19) (LineLoop.mk e_1.Exchange rv_20)).length c_7]]) ca_18 hF hS (line_Check_ok hS.stab (LineNet.mk n.Exchanges n.Lines n.Hops ((([] : List LineLoop) ++ n.Loops).set (Int.toNat rv_19) (LineLoop.mk e_1.Exchange rv_20))) hs hs_6 rv_25 hx_27) rfl rfl fun a w hF hS => step hF (Y.move hF rfl) rfl fun a hF => step hF (Y.eql hF rfl rfl) rfl fun a hF => step hF (Y.move hF rfl) rfl fun a hF => ?_
         obtain ⟨t_6, ht_6, h⟩ := bind_some h
         refine join (N := 216) (rs := []) (w0 := w0) (D0 := D0) 5 (us := [(3, .pointer (some ⟨b, 0, none⟩)), (5, .pointer (some ⟨b_2, 0, none⟩)), (6, .bool false), (7, .pointer (some ⟨b_3, 0, none⟩)), (13, .int .i64 rv_21), (14, .slice p_8 rv_22.1.length c_8), (16, .slice p_9 rv_23.1.length c_9), (17, .int .i64 rv_23.2), (171, .bool t_6)]) (ms := [(1, .cells b [.int .i64 n.Exchanges, .slice p n.Lines.length c, .int .i64 n.Hops, .slice p_1 n.Loops.length c_1] 25), (2, .cells b_1 [.int .i64 more.From, .int .i64 more.To, .int .i64 more.Delay.Low, .int .i64 more.Delay.High] 68), (3, .cells b_2 [.int .i64 k.a0, .int .i64 k.a1, .int .i64 k.a2, .int .i64 k.a3, .int .i64 k.a4] 75), (4, .cells b_3 [.int .i64 n.Exchanges, .slice p n.Lines.length c, .int .i64 n.Hops, .slice p_7 ((([] : List LineLoop) ++ n.Loops).set (Int.toNat rv_19) (LineLoop.mk e_1.Exchange rv_20)).length c_7] 25), (7, .cells b_8 [.int .i64 e_1.Exchange, .int .i64 rv_20.Low, .int .i64 rv_20.High] 71)]) (D' := Dv_5) ?_ ?_
         ·rcases bcases (rv_25 == rv_23.2) with hbv_21 | hbv_21
          ·skip
           replace h := cond_t ht_6 hbv_21
           refine guard_on hF rfl rfl hbv_21 (step hF (Y.indexArr u_75 sz_3 hF rfl rfl (by decide) (by decide)) rfl fun a hF => guard_on hF rfl rfl hbv_21 (step hF (Y.load1L 3 sz_3 hF rfl hS rfl rfl) rfl fun a hF => guard_on hF rfl rfl hbv_21 ?_))
           obtain ⟨rv_26, hx_28, h⟩ := bind_some h
           refine O.callP (us := [.int .i64 k.a0, .int .i64 4]) ca_41 hF hS (r0Rest_ok hS.stab k.a0 4 rv_26 hx_28) rfl rfl fun a w hF hS => guard_on hF rfl rfl hbv_21 (step hF (Y.eql hF rfl rfl) rfl fun a hF => step hF (Y.pick_t hF rfl hbv_21 rfl) rfl fun a hF => ?_)
           obtain rfl := some_inj h
           exact nil (then_n ⟨hF.weak ⟨rfl, rfl, rfl, rfl, rfl, rfl, rfl, rfl, rfl, trivial⟩, hS.weak ⟨rfl, rfl, rfl, rfl, rfl, trivial⟩⟩)
          replace h := cond_f ht_6 hbv_21
          refine guard_off hF rfl rfl hbv_21 rfl fun a hF => guard_off hF rfl rfl hbv_21 rfl fun a hF => guard_off hF rfl rfl hbv_21 rfl fun a hF => guard_off hF rfl rfl hbv_21 rfl fun a hF => step hF (Y.pick_f hF rfl hbv_21 rfl) rfl fun a hF => ?_
          obtain rfl := some_inj h
          exact nil (then_n ⟨hF.weak ⟨rfl, rfl, rfl, rfl, rfl, rfl, rfl, rfl, rfl, trivial⟩, hS.weak ⟨rfl, rfl, rfl, rfl, rfl, trivial⟩⟩)
         intro a w hF hS
         refine step hF (Y.move hF rfl) rfl fun a hF => ?_
         obtain ⟨t_7, ht_7, h⟩ := bind_some h
         refine join (N := 216) (rs := []) (w0 := w0) (D0 := D0) 2 (us := [(3, .pointer (some ⟨b, 0, none⟩)), (5, .pointer (some ⟨b_2, 0, none⟩)), (6, .bool false), (7, .pointer (some ⟨b_3, 0, none⟩)), (13, .int .i64 rv_21), (14, .slice p_8 rv_22.1.length c_8), (16, .slice p_9 rv_23.1.length c_9), (17, .int .i64 rv_23.2), (174, .bool t_7)]) (ms := [(1, .cells b [.int .i64 n.Exchanges, .slice p n.Lines.length c, .int .i64 n.Hops, .slice p_1 n.Loops.length c_1] 25), (2, .cells b_1 [.int .i64 more.From, .int .i64 more.To, .int .i64 more.Delay.Low, .int .i64 more.Delay.High] 68), (3, .cells b_2 [.int .i64 k.a0, .int .i64 k.a1, .int .i64 k.a2, .int .i64 k.a3, .int .i64 k.a4] 75), (4, .cells b_3 [.int .i64 n.Exchanges, .slice p n.Lines.length c, .int .i64 n.Hops, .slice p_7 ((([] : List LineLoop) ++ n.Loops).set (Int.toNat rv_19) (LineLoop.mk e_1.Exchange rv_20)).length c_7] 25), (7, .cells b_8 [.int .i64 e_1.Exchange, .int .i64 rv_20.Low, .int .i64 rv_20.High] 71)]) (D' := Dv_5) ?_ ?_
         ·rcases bcases t_6 with hbv_22 | hbv_22
          ·skip
           replace h := cond_t ht_7 hbv_22
           refine guard_on hF rfl rfl hbv_22 ?_
           obtain ⟨rv_27, hx_29, h⟩ := bind_some h
           refine O.callP (us := []) ca_23 hF hS (remontoirlaw06_works_ok hS.stab hG rv_27 hx_29) rfl rfl fun a w hF hS => step hF (Y.pick_t hF rfl hbv_22 rfl) rfl fun a hF => ?_
           obtain rfl := some_inj h
           exact nil (then_n ⟨hF.weak ⟨rfl, rfl, rfl, rfl, rfl, rfl, rfl, rfl, rfl, trivial⟩, hS.weak ⟨rfl, rfl, rfl, rfl, rfl, trivial⟩⟩)
          replace h := cond_f ht_7 hbv_22
          refine guard_off hF rfl rfl hbv_22 rfl fun a hF => step hF (Y.pick_f hF rfl hbv_22 rfl) rfl fun a hF => ?_
          obtain rfl := some_inj h
          exact nil (then_n ⟨hF.weak ⟨rfl, rfl, rfl, rfl, rfl, rfl, rfl, rfl, rfl, trivial⟩, hS.weak ⟨rfl, rfl, rfl, rfl, rfl, trivial⟩⟩)
         intro a w hF hS
         refine step hF (Y.assign hF rfl) rfl fun a hF => nil (then_n (ret_ (then_r ?_)))
         obtain rfl := some_inj h
         exact leaveP Tryd.results10 hF hS (.cons (.tmp rfl) .nil) .nil rfl
       as_aux_lemma =>
        replace h := cond_f h hbv_20
        refine skip_ (then_n (seq (region (step hF (Y.loadNL 1 sz_25 hF rfl hS rfl rfl rfl) rfl fun a hF => step hF (Y.move hF rfl) rfl fun a hF => step hF (Y.indexArr u_75 sz_3 hF rfl rfl (by decide) (by decide)) rfl fun a hF => step hF (Y.load1L 3 sz_3 hF rfl hS rfl rfl) rfl fun a hF => ?_))))
        obtain ⟨rv_28, hx_30, h⟩ := bind_some h
        refine O.callP (us := [.agg #[.int .i64 n.Exchanges, .slice p n.Lines.length c, .int .i64 n.Hops, .slice p_1 n.Loops.length c_1], .int .i64 rv_21, .int .i64 k.a4]) ca_26 hF hS (line_Can_ok hS.stab n rv_21 k.a4 hs hs_1 hG rv_28 hx_30) rfl rfl fun a w hF hS => step hF (Y.move hF rfl) rfl fun a hF => step hF (Y.extract hF rfl rfl) rfl fun a hF => step hF (Y.extract hF rfl rfl) rfl fun a hF => step hF (Y.assign hF rfl) rfl fun a hF => step hF (Y.assign hF rfl) rfl fun a hF => nil (then_n (seq (region (step hF (Y.loadNL 4 sz_25 hF rfl hS rfl rfl rfl) rfl fun a hF => step hF (Y.move hF rfl) rfl fun a hF => step hF (Y.indexArr u_75 sz_3 hF rfl rfl (by decide) (by decide)) rfl fun a hF => step hF (Y.load1L 3 sz_3 hF rfl hS rfl rfl) rfl fun a hF => ?_))))
        obtain ⟨rv_29, hx_31, h⟩ := bind_some h
        refine O.callP (us := [.agg #[.int .i64 n.Exchanges, .slice p n.Lines.length c, .int .i64 n.Hops, .slice p_7 ((([] : List LineLoop) ++ n.Loops).set (Int.toNat rv_19) (LineLoop.mk e_1.Exchange rv_20)).length c_7], .int .i64 rv_21, .int .i64 k.a4]) ca_26 hF hS (line_Can_ok hS.stab (LineNet.mk n.Exchanges n.Lines n.Hops ((([] : List LineLoop) ++ n.Loops).set (Int.toNat rv_19) (LineLoop.mk e_1.Exchange rv_20))) rv_21 k.a4 hs hs_6 hG rv_29 hx_31) rfl rfl fun a w hF hS => step hF (Y.move hF rfl) rfl fun a hF => step hF (Y.extract hF rfl rfl) rfl fun a hF => step hF (Y.extract hF rfl rfl) rfl fun a hF => step hF (Y.assign hF rfl) rfl fun a hF => step hF (Y.assign hF rfl) rfl fun a hF => nil (then_n (seq (region (step hF (Y.move hF rfl) rfl fun a hF => step hF (Y.eql hF rfl rfl) rfl fun a hF => step hF (Y.move hF rfl) rfl fun a hF => join (N := 216) (rs := []) (w0 := w0) (D0 := D0) 3 (us := [(6, .bool false), (14, .slice p_8 rv_22.1.length c_8), (16, .slice p_9 rv_23.1.length c_9), (18, .bool rv_28.1), (20, .bool rv_29.1), (21, .int .i64 rv_29.2), (196, .bool ((rv_23.2 == 0) && (rv_28.2 == 0)))]) (ms := [(1, .cells b [.int .i64 n.Exchanges, .slice p n.Lines.length c, .int .i64 n.Hops, .slice p_1 n.Loops.length c_1] 25), (2, .cells b_1 [.int .i64 more.From, .int .i64 more.To, .int .i64 more.Delay.Low, .int .i64 more.Delay.High] 68), (3, .cells b_2 [.int .i64 k.a0, .int .i64 k.a1, .int .i64 k.a2, .int .i64 k.a3, .int .i64 k.a4] 75), (4, .cells b_3 [.int .i64 n.Exchanges, .slice p n.Lines.length c, .int .i64 n.Hops, .slice p_7 ((([] : List LineLoop) ++ n.Loops).set (Int.toNat rv_19) (LineLoop.mk e_1.Exchange rv_20)).length c_7] 25), (7, .cells b_8 [.int .i64 e_1.Exchange, .int .i64 rv_20.Low, .int .i64 rv_20.High] 71)]) (D' := Dv_5) ?_ ?_))))
        ·rcases bcases (rv_23.2 == 0) with hbv_23 | hbv_23
         ·skip
          refine guard_on hF rfl rfl hbv_23 (step hF (Y.move hF rfl) rfl fun a hF => guard_on hF rfl rfl hbv_23 (step hF (Y.eql hF rfl rfl) rfl fun a hF => step hF (Y.pick_t hF rfl hbv_23 rfl) rfl fun a hF => nil (then_n ⟨hF.weak ⟨rfl, rfl, rfl, rfl, rfl, rfl, (by rw [hbv_23]; rfl), trivial⟩, hS.weak ⟨rfl, rfl, rfl, rfl, rfl, trivial⟩⟩)))
         refine guard_off hF rfl rfl hbv_23 rfl fun a hF => guard_off hF rfl rfl hbv_23 rfl fun a hF => step hF (Y.pick_f hF rfl hbv_23 rfl) rfl fun a hF => nil (then_n ⟨hF.weak ⟨rfl, rfl, rfl, rfl, rfl, rfl, (by rw [hbv_23]; rfl), trivial⟩, hS.weak ⟨rfl, rfl, rfl, rfl, rfl, trivial⟩⟩)
        intro a w hF hS
        refine step hF (Y.move hF rfl) rfl fun a hF => join (N := 216) (rs := []) (w0 := w0) (D0 := D0) 3 (us := [(6, .bool false), (14, .slice p_8 rv_22.1.length c_8), (16, .slice p_9 rv_23.1.length c_9), (18, .bool rv_28.1), (20, .bool rv_29.1), (200, .bool (((rv_23.2 == 0) && (rv_28.2 == 0)) && (rv_29.2 == 0)))]) (ms := [(1, .cells b [.int .i64 n.Exchanges, .slice p n.Lines.length c, .int .i64 n.Hops, .slice p_1 n.Loops.length c_1] 25), (2, .cells b_1 [.int .i64 more.From, .int .i64 more.To, .int .i64 more.Delay.Low, .int .i64 more.Delay.High] 68), (3, .cells b_2 [.int .i64 k.a0, .int .i64 k.a1, .int .i64 k.a2, .int .i64 k.a3, .int .i64 k.a4] 75), (4, .cells b_3 [.int .i64 n.Exchanges, .slice p n.Lines.length c, .int .i64 n.Hops, .slice p_7 ((([] : List LineLoop) ++ n.Loops).set (Int.toNat rv_19) (LineLoop.mk e_1.Exchange rv_20)).length c_7] 25), (7, .cells b_8 [.int .i64 e_1.Exchange, .int .i64 rv_20.Low, .int .i64 rv_20.High] 71)]) (D' := Dv_5) ?_ ?_
        ·rcases bcases ((rv_23.2 == 0) && (rv_28.2 == 0)) with hbv_24 | hbv_24
         ·skip
          refine guard_on hF rfl rfl hbv_24 (step hF (Y.move hF rfl) rfl fun a hF => guard_on hF rfl rfl hbv_24 (step hF (Y.eql hF rfl rfl) rfl fun a hF => step hF (Y.pick_t hF rfl hbv_24 rfl) rfl fun a hF => nil (then_n ⟨hF.weak ⟨rfl, rfl, rfl, rfl, rfl, (by rw [hbv_24]; rfl), trivial⟩, hS.weak ⟨rfl, rfl, rfl, rfl, rfl, trivial⟩⟩)))
         refine guard_off hF rfl rfl hbv_24 rfl fun a hF => guard_off hF rfl rfl hbv_24 rfl fun a hF => step hF (Y.pick_f hF rfl hbv_24 rfl) rfl fun a hF => nil (then_n ⟨hF.weak ⟨rfl, rfl, rfl, rfl, rfl, (by rw [hbv_24]; rfl), trivial⟩, hS.weak ⟨rfl, rfl, rfl, rfl, rfl, trivial⟩⟩)
        intro a w hF hS
        refine step hF (Y.move hF rfl) rfl fun a hF => ?_
        obtain ⟨t_8, ht_8, h⟩ := bind_some h
        refine join (N := 216) (rs := []) (w0 := w0) (D0 := D0) 4 (us := [(6, .bool false), (18, .bool rv_28.1), (20, .bool rv_29.1), (205, .bool t_8)]) (ms := [(1, .cells b [.int .i64 n.Exchanges, .slice p n.Lines.length c, .int .i64 n.Hops, .slice p_1 n.Loops.length c_1] 25), (2, .cells b_1 [.int .i64 more.From, .int .i64 more.To, .int .i64 more.Delay.Low, .int .i64 more.Delay.High] 68), (3, .cells b_2 [.int .i64 k.a0, .int .i64 k.a1, .int .i64 k.a2, .int .i64 k.a3, .int .i64 k.a4] 75), (4, .cells b_3 [.int .i64 n.Exchanges, .slice p n.Lines.length c, .int .i64 n.Hops, .slice p_7 ((([] : List LineLoop) ++ n.Loops).set (Int.toNat rv_19) (LineLoop.mk e_1.Exchange rv_20)).length c_7] 25), (7, .cells b_8 [.int .i64 e_1.Exchange, .int .i64 rv_20.Low, .int .i64 rv_20.High] 71)]) (D' := Dv_5) ?_ ?_
        ·rcases bcases (((rv_23.2 == 0) && (rv_28.2 == 0)) && (rv_29.2 == 0)) with hbv_25 | hbv_25
         ·skip
          replace h := cond_t ht_8 hbv_25
          refine guard_on hF rfl rfl hbv_25 (step hF (Y.move hF rfl) rfl fun a hF => guard_on hF rfl rfl hbv_25 (step hF (Y.move hF rfl) rfl fun a hF => guard_on hF rfl rfl hbv_25 ?_))
          obtain ⟨rv_30, hx_32, h⟩ := bind_some h
          refine O.callP (us := [.slice p_8 rv_22.1.length c_8, .slice p_9 rv_23.1.length c_9]) ca_51 hF hS (remontoirlaw06_all_ok hS.stab rv_22.1 rv_23.1 hs_5 hs_7 rv_30 hx_32) rfl rfl fun a w hF hS => step hF (Y.pick_t hF rfl hbv_25 rfl) rfl fun a hF => ?_
          obtain rfl := some_inj h
          exact nil (then_n ⟨hF.weak ⟨rfl, rfl, rfl, rfl, trivial⟩, hS.weak ⟨rfl, rfl, rfl, rfl, rfl, trivial⟩⟩)
         replace h := cond_f ht_8 hbv_25
         refine guard_off hF rfl rfl hbv_25 rfl fun a hF => guard_off hF rfl rfl hbv_25 rfl fun a hF => guard_off hF rfl rfl hbv_25 rfl fun a hF => step hF (Y.pick_f hF rfl hbv_25 rfl) rfl fun a hF => ?_
         obtain rfl := some_inj h
         exact nil (then_n ⟨hF.weak ⟨rfl, rfl, rfl, rfl, trivial⟩, hS.weak ⟨rfl, rfl, rfl, rfl, rfl, trivial⟩⟩)
        intro a w hF hS
        refine step hF (Y.move hF rfl) rfl fun a hF => join (N := 216) (rs := []) (w0 := w0) (D0 := D0) 6 (us := [(6, .bool false), (212, .bool (t_8 && ((!rv_28.1) || rv_29.1)))]) (ms := [(1, .cells b [.int .i64 n.Exchanges, .slice p n.Lines.length c, .int .i64 n.Hops, .slice p_1 n.Loops.length c_1] 25), (2, .cells b_1 [.int .i64 more.From, .int .i64 more.To, .int .i64 more.Delay.Low, .int .i64 more.Delay.High] 68), (3, .cells b_2 [.int .i64 k.a0, .int .i64 k.a1, .int .i64 k.a2, .int .i64 k.a3, .int .i64 k.a4] 75), (4, .cells b_3 [.int .i64 n.Exchanges, .slice p n.Lines.length c, .int .i64 n.Hops, .slice p_7 ((([] : List LineLoop) ++ n.Loops).set (Int.toNat rv_19) (LineLoop.mk e_1.Exchange rv_20)).length c_7] 25), (7, .cells b_8 [.int .i64 e_1.Exchange, .int .i64 rv_20.Low, .int .i64 rv_20.High] 71)]) (D' := Dv_5) ?_ ?_
        ·rcases bcases t_8 with hbv_26 | hbv_26
         ·skip
          refine guard_on hF rfl rfl hbv_26 (step hF (Y.move hF rfl) rfl fun a hF => guard_on hF rfl rfl hbv_26 (step hF (Y.not hF rfl) rfl fun a hF => guard_on hF rfl rfl hbv_26 (step hF (Y.move hF rfl) rfl fun a hF => join (N := 216) (rs := []) (w0 := w0) (D0 := D0) 2 (us := [(6, .bool false), (206, .bool t_8), (211, .bool ((!rv_28.1) || rv_29.1))]) (ms := [(1, .cells b [.int .i64 n.Exchanges, .slice p n.Lines.length c, .int .i64 n.Hops, .slice p_1 n.Loops.length c_1] 25), (2, .cells b_1 [.int .i64 more.From, .int .i64 more.To, .int .i64 more.Delay.Low, .int .i64 more.Delay.High] 68), (3, .cells b_2 [.int .i64 k.a0, .int .i64 k.a1, .int .i64 k.a2, .int .i64 k.a3, .int .i64 k.a4] 75), (4, .cells b_3 [.int .i64 n.Exchanges, .slice p n.Lines.length c, .int .i64 n.Hops, .slice p_7 ((([] : List LineLoop) ++ n.Loops).set (Int.toNat rv_19) (LineLoop.mk e_1.Exchange rv_20)).length c_7] 25), (7, .cells b_8 [.int .i64 e_1.Exchange, .int .i64 rv_20.Low, .int .i64 rv_20.High] 71)]) (D' := Dv_5) ?_ ?_)))
          ·rcases bcases (!rv_28.1) with hbv_27 | hbv_27
           ·skip
            refine guard_off hF rfl rfl hbv_27 rfl fun a hF => guard_on hF rfl rfl hbv_26 (step hF (Y.pick_t hF rfl hbv_27 rfl) rfl fun a hF => nil (then_n ⟨hF.weak ⟨rfl, rfl, (by rw [hbv_27]; rfl), trivial⟩, hS.weak ⟨rfl, rfl, rfl, rfl, rfl, trivial⟩⟩))
           refine guard_on hF rfl rfl hbv_27 (step hF (Y.move hF rfl) rfl fun a hF => guard_on hF rfl rfl hbv_26 (step hF (Y.pick_f hF rfl hbv_27 rfl) rfl fun a hF => nil (then_n ⟨hF.weak ⟨rfl, rfl, (by rw [hbv_27]; rfl), trivial⟩, hS.weak ⟨rfl, rfl, rfl, rfl, rfl, trivial⟩⟩)))
          intro a w hF hS
          refine step hF (Y.pick_t hF rfl hbv_26 rfl) rfl fun a hF => nil (then_n ⟨hF.weak ⟨rfl, (by rw [hbv_26]; rfl), trivial⟩, hS.weak ⟨rfl, rfl, rfl, rfl, rfl, trivial⟩⟩)
         refine guard_off hF rfl rfl hbv_26 rfl fun a hF => guard_off hF rfl rfl hbv_26 rfl fun a hF => guard_off hF rfl rfl hbv_26 rfl fun a hF => guard_offu hF rfl rfl rfl fun a hF => guard_off hF rfl rfl hbv_26 rfl fun a hF => step hF (Y.pick_f hF rfl hbv_26 rfl) rfl fun a hF => nil (then_n ⟨hF.weak ⟨rfl, (by rw [hbv_26]; rfl), trivial⟩, hS.weak ⟨rfl, rfl, rfl, rfl, rfl, trivial⟩⟩)
        intro a w hF hS
        refine step hF (Y.move hF rfl) rfl fun a hF => ?_
        obtain ⟨t_9, ht_9, h⟩ := bind_some h
        refine join (N := 216) (rs := []) (w0 := w0) (D0 := D0) 2 (us := [(6, .bool false), (215, .bool t_9)]) (ms := [(1, .cells b [.int .i64 n.Exchanges, .slice p n.Lines.length c, .int .i64 n.Hops, .slice p_1 n.Loops.length c_1] 25), (2, .cells b_1 [.int .i64 more.From, .int .i64 more.To, .int .i64 more.Delay.Low, .int .i64 more.Delay.High] 68), (3, .cells b_2 [.int .i64 k.a0, .int .i64 k.a1, .int .i64 k.a2, .int .i64 k.a3, .int .i64 k.a4] 75), (4, .cells b_3 [.int .i64 n.Exchanges, .slice p n.Lines.length c, .int .i64 n.Hops, .slice p_7 ((([] : List LineLoop) ++ n.Loops).set (Int.toNat rv_19) (LineLoop.mk e_1.Exchange rv_20)).length c_7] 25), (7, .cells b_8 [.int .i64 e_1.Exchange, .int .i64 rv_20.Low, .int .i64 rv_20.High] 71)]) (D' := Dv_5) ?_ ?_
        ·rcases bcases (t_8 && ((!rv_28.1) || rv_29.1)) with hbv_28 | hbv_28
         ·skip
          replace h := cond_t ht_9 hbv_28
          refine guard_on hF rfl rfl hbv_28 ?_
          obtain ⟨rv_31, hx_33, h⟩ := bind_some h
          refine O.callP (us := []) ca_23 hF hS (remontoirlaw06_works_ok hS.stab hG rv_31 hx_33) rfl rfl fun a w hF hS => step hF (Y.pick_t hF rfl hbv_28 rfl) rfl fun a hF => ?_
          obtain rfl := some_inj h
          exact nil (then_n ⟨hF.weak ⟨rfl, rfl, trivial⟩, hS.weak ⟨rfl, rfl, rfl, rfl, rfl, trivial⟩⟩)
         replace h := cond_f ht_9 hbv_28
         refine guard_off hF rfl rfl hbv_28 rfl fun a hF => step hF (Y.pick_f hF rfl hbv_28 rfl) rfl fun a hF => ?_
         obtain rfl := some_inj h
         exact nil (then_n ⟨hF.weak ⟨rfl, rfl, trivial⟩, hS.weak ⟨rfl, rfl, rfl, rfl, rfl, trivial⟩⟩)
        intro a w hF hS
        refine step hF (Y.assign hF rfl) rfl fun a hF => nil (then_n (ret_ ?_))
        obtain rfl := some_inj h
        exact leaveP Tryd.results10 hF hS (.cons (.tmp rfl) .nil) .nil rfl
   as_aux_lemma =>
    replace h := cond_f h hbv_15
    refine seq (region (step hF (Y.eql hF rfl rfl) rfl fun a hF => step hF (Y.assign hF rfl) rfl fun a hF => nil (then_n (cond_b hF rfl (fun hbv_29 => ?_) (fun hbv_29 => ?_)))))
    ·as_aux_lemma =>
      replace h := cond_t h hbv_29
      obtain ⟨hg_4, h⟩ := ite_some h
      refine drawsV 6 (.flt 1 (.flt 2 (.flt 4 (.alt 0 (.alt 3 (.alt 5 .done .stop) (.alt 5 (.alt 3 .done .stop) .stop)) (.alt 5 (.alt 0 (.alt 3 .done .stop) .stop) .stop))))) mixed_ (by kernel_rfl) (fun w => St w0 D0 D0 [(1, .cells b [.int .i64 n.Exchanges, .slice p n.Lines.length c, .int .i64 n.Hops, .slice p_1 n.Loops.length c_1] 25), (2, .cells b_1 [.int .i64 more.From, .int .i64 more.To, .int .i64 more.Delay.Low, .int .i64 more.Delay.High] 68), (3, .cells b_2 [.int .i64 k.a0, .int .i64 k.a1, .int .i64 k.a2, .int .i64 k.a3, .int .i64 k.a4] 75), (4, .cells b_3 [.int .i64 n.Exchanges, .slice p n.Lines.length c, .int .i64 n.Hops, .slice p_1 n.Loops.length c_1] 25)] w) (fun a w => ∃ (p_11 : Option Addr) (c_11 : Nat) (p_12 : Option Addr) (c_12 : Nat) (cs_2 : List Value), Frm 216 [] [(3, .pointer (some ⟨b, 0, none⟩)), (5, .pointer (some ⟨b_2, 0, none⟩)), (6, .bool false), (7, .pointer (some ⟨b_3, 0, none⟩)), (127, .slice p_11 (([] : List LineLine) ++ n.Lines).length c_11), (129, .slice p_12 ([more]).length c_12)] a ∧ St w0 D0 D0 [(1, .cells b [.int .i64 n.Exchanges, .slice p n.Lines.length c, .int .i64 n.Hops, .slice p_1 n.Loops.length c_1] 25), (2, .cells b_1 [.int .i64 more.From, .int .i64 more.To, .int .i64 more.Delay.Low, .int .i64 more.Delay.High] 68), (3, .cells b_2 [.int .i64 k.a0, .int .i64 k.a1, .int .i64 k.a2, .int .i64 k.a3, .int .i64 k.a4] 75), (4, .cells b_3 [.int .i64 n.Exchanges, .slice p n.Lines.length c, .int .i64 n.Hops, .slice p_1 n.Loops.length c_1] 25), (9, .own p_11 (([] : List LineLine) ++ n.Lines).length c_11 cs_2 68 4), (10, .own p_12 ([more]).length c_12 ([.int .i64 more.From, .int .i64 more.To, .int .i64 more.Delay.Low, .int .i64 more.Delay.High]) 68 4)] w ∧ Reps C_LineLine D0 (([] : List LineLine) ++ n.Lines) cs_2 ∧ Reps C_LineLine D0 ([more]) ([.int .i64 more.From, .int .i64 more.To, .int .i64 more.Delay.Low, .int .i64 more.Delay.High])) (hS.weak (ms := [(1, .cells b [.int .i64 n.Exchanges, .slice p n.Lines.length c, .int .i64 n.Hops, .slice p_1 n.Loops.length c_1] 25), (2, .cells b_1 [.int .i64 more.From, .int .i64 more.To, .int .i64 more.Delay.Low, .int .i64 more.Delay.High] 68), (3, .cells b_2 [.int .i64 k.a0, .int .i64 k.a1, .int .i64 k.a2, .int .i64 k.a3, .int .i64 k.a4] 75), (4, .cells b_3 [.int .i64 n.Exchanges, .slice p n.Lines.length c, .int .i64 n.Hops, .slice p_1 n.Loops.length c_1] 25)]) ⟨rfl, rfl, rfl, rfl, trivial⟩).drew (fun _ _ _ _ h => h) ?_ ?_
      ·replace hS := hS.drew
       have hle0 := hS.le
       refine stepV (i := 1) rfl hF (fun w hS => Y.fieldAddr fo_25_1 hF rfl) rfl fun a hF => stepV (i := 2) rfl hF (fun w hS => Y.load1L 1 sz_22 hF rfl hS rfl rfl) rfl fun a hF => stepV (i := 4) rfl hF (fun w hS => Y.loadNL 2 sz_68 hF rfl hS rfl rfl rfl) rfl fun a hF => oneV (i := 0) rfl ?_ ?_
       ·skip
        have hr_9 : Reps C_LineLine D0 ([] : List LineLine) [] := Reps.nil
        refine O.buildSlice (E := 68) (C := C_LineLine) (xs := ([] : List LineLine)) (cs := []) (us := []) (parts := []) 9 hF hS rfl (by kernel_rfl) hr_9 rfl rfl rfl fun p_13 c_13 a w hF hS => nil (then_n ⟨hS.weak ⟨rfl, rfl, rfl, rfl, trivial⟩, ?_⟩)
        refine oneV (i := 3) rfl ?_ ?_
        ·skip
         obtain ⟨ds_3, hds_3, hsrc_3⟩ := src_stab (C := C_LineLine) (xs := n.Lines) (hs).1 hS.stab
         refine O.append (C := C_LineLine) (xs := ([] : List LineLine)) (ys := n.Lines) 9 gr_22 hF rfl rfl hS rfl hsrc_3 hr_9 hds_3 hg_4 rfl fun p_14 c_14 a w hF hS hr_10 => nil (then_n ⟨hS.weak ⟨rfl, rfl, rfl, rfl, trivial⟩, ?_⟩)
         refine oneV (i := 5) rfl ?_ trivial
         have hr_11 : Reps C_LineLine D0 [more] [.int .i64 more.From, .int .i64 more.To, .int .i64 more.Delay.Low, .int .i64 more.Delay.High] := Reps.cons (C := C_LineLine) (x := more) (c := [.int .i64 more.From, .int .i64 more.To, .int .i64 more.Delay.Low, .int .i64 more.Delay.High]) (r := []) rfl (Reps.nil)
         refine O.buildSlice (E := 68) (C := C_LineLine) (xs := [more]) (cs := [.int .i64 more.From, .int .i64 more.To, .int .i64 more.Delay.Low, .int .i64 more.Delay.High]) (us := [.agg #[.int .i64 more.From, .int .i64 more.To, .int .i64 more.Delay.Low, .int .i64 more.Delay.High]]) (parts := [(0, (.tmp 128))]) 10 hF hS rfl (by kernel_rfl) hr_11 rfl rfl rfl fun p_15 c_15 a w hF hS => nil (then_n ⟨hS.weak ⟨rfl, rfl, rfl, rfl, trivial⟩, ?_⟩)
         exact toTailV ⟨p_14, c_14, p_15, c_15, ([] ++ ds_3), hF.weak ⟨rfl, rfl, rfl, rfl, rfl, rfl, trivial⟩, hS.weak ⟨rfl, rfl, rfl, rfl, rfl, rfl, trivial⟩, hr_10, hr_11⟩
        refine oneV (i := 5) rfl ?_ trivial
        have hr_12 : Reps C_LineLine D0 [more] [.int .i64 more.From, .int .i64 more.To, .int .i64 more.Delay.Low, .int .i64 more.Delay.High] := Reps.cons (C := C_LineLine) (x := more) (c := [.int .i64 more.From, .int .i64 more.To, .int .i64 more.Delay.Low, .int .i64 more.Delay.High]) (r := []) rfl (Reps.nil)
        refine O.buildSlice (E := 68) (C := C_LineLine) (xs := [more]) (cs := [.int .i64 more.From, .int .i64 more.To, .int .i64 more.Delay.Low, .int .i64 more.Delay.High]) (us := [.agg #[.int .i64 more.From, .int .i64 more.To, .int .i64 more.Delay.Low, .int .i64 more.Delay.High]]) (parts := [(0, (.tmp 128))]) 10 hF hS rfl (by kernel_rfl) hr_12 rfl rfl rfl fun p_16 c_16 a w hF hS => nil (then_n ⟨hS.weak ⟨rfl, rfl, rfl, rfl, trivial⟩, ?_⟩)
        refine oneV (i := 3) rfl ?_ trivial
        obtain ⟨ds_4, hds_4, hsrc_4⟩ := src_stab (C := C_LineLine) (xs := n.Lines) (hs).1 hS.stab
        refine O.append (C := C_LineLine) (xs := ([] : List LineLine)) (ys := n.Lines) 9 gr_22 hF rfl rfl hS rfl hsrc_4 hr_9 hds_4 hg_4 rfl fun p_17 c_17 a w hF hS hr_13 => nil (then_n ⟨hS.weak ⟨rfl, rfl, rfl, rfl, trivial⟩, ?_⟩)
        exact toTailV ⟨p_17, c_17, p_16, c_16, ([] ++ ds_4), hF.weak ⟨rfl, rfl, rfl, rfl, rfl, rfl, trivial⟩, hS.weak ⟨rfl, rfl, rfl, rfl, rfl, rfl, trivial⟩, hr_13, hr_12⟩
       refine oneV (i := 5) rfl ?_ trivial
       have hr_14 : Reps C_LineLine D0 [more] [.int .i64 more.From, .int .i64 more.To, .int .i64 more.Delay.Low, .int .i64 more.Delay.High] := Reps.cons (C := C_LineLine) (x := more) (c := [.int .i64 more.From, .int .i64 more.To, .int .i64 more.Delay.Low, .int .i64 more.Delay.High]) (r := []) rfl (Reps.nil)
       refine O.buildSlice (E := 68) (C := C_LineLine) (xs := [more]) (cs := [.int .i64 more.From, .int .i64 more.To, .int .i64 more.Delay.Low, .int .i64 more.Delay.High]) (us := [.agg #[.int .i64 more.From, .int .i64 more.To, .int .i64 more.Delay.Low, .int .i64 more.Delay.High]]) (parts := [(0, (.tmp 128))]) 10 hF hS rfl (by kernel_rfl) hr_14 rfl rfl rfl fun p_18 c_18 a w hF hS => nil (then_n ⟨hS.weak ⟨rfl, rfl, rfl, rfl, trivial⟩, ?_⟩)
       refine oneV (i := 0) rfl ?_ trivial
       have hr_15 : Reps C_LineLine D0 ([] : List LineLine) [] := Reps.nil
       refine O.buildSlice (E := 68) (C := C_LineLine) (xs := ([] : List LineLine)) (cs := []) (us := []) (parts := []) 9 hF hS rfl (by kernel_rfl) hr_15 rfl rfl rfl fun p_19 c_19 a w hF hS => nil (then_n ⟨hS.weak ⟨rfl, rfl, rfl, rfl, trivial⟩, ?_⟩)
       refine oneV (i := 3) rfl ?_ trivial
       obtain ⟨ds_5, hds_5, hsrc_5⟩ := src_stab (C := C_LineLine) (xs := n.Lines) (hs).1 hS.stab
       refine O.append (C := C_LineLine) (xs := ([] : List LineLine)) (ys := n.Lines) 9 gr_22 hF rfl rfl hS rfl hsrc_5 hr_15 hds_5 hg_4 rfl fun p_20 c_20 a w hF hS hr_16 => nil (then_n ⟨hS.weak ⟨rfl, rfl, rfl, rfl, trivial⟩, ?_⟩)
       exact toTailV ⟨p_20, c_20, p_18, c_18, ([] ++ ds_5), hF.weak ⟨rfl, rfl, rfl, rfl, rfl, rfl, trivial⟩, hS.weak ⟨rfl, rfl, rfl, rfl, rfl, rfl, trivial⟩, hr_16, hr_14⟩
      rintro a w ⟨p_11, c_11, p_12, c_12, cs_2, hF, hS, hj, hj_1⟩
      obtain ⟨hg_5, h⟩ := ite_some h
      refine O.append (C := C_LineLine) (xs := (([] : List LineLine) ++ n.Lines)) (ys := [more]) 9 gr_22 hF rfl rfl hS rfl (src_own (i := 10) hS rfl) hj hj_1 hg_5 rfl fun p_21 c_21 a w hF hS hr_17 => step hF (Y.fieldAddr fo_25_1 hF rfl) rfl fun a hF => O.store (us := [.slice p_21 ((([] : List LineLine) ++ n.Lines) ++ [more]).length c_21]) 4 sz_22 hF rfl rfl rfl rfl hS rfl rfl fun a w hF hS => nil (blk_n (then_n (seq (region (step hF (Y.indexArr u_75 sz_3 hF rfl rfl (by decide) (by decide)) rfl fun a hF => step hF (Y.load1L 3 sz_3 hF rfl hS rfl rfl) rfl fun a hF => step hF (Y.fieldAddr fo_25_0 hF rfl) rfl fun a hF => step hF (Y.load1L 1 sz_3 hF rfl hS rfl rfl) rfl fun a hF => ?_)))))
      obtain ⟨rv_32, hx_34, h⟩ := bind_some h
      refine O.callP (us := [.int .i64 k.a3, .int .i64 n.Exchanges]) ca_41 hF hS (r0Rest_ok hS.stab k.a3 n.Exchanges rv_32 hx_34) rfl rfl fun a w hF hS => step hF (Y.assign hF rfl) rfl fun a hF => nil (then_n (seq (region (step hF (Y.loadNL 1 sz_25 hF rfl hS rfl rfl rfl) rfl fun a hF => step hF (Y.move hF rfl) rfl fun a hF => ?_))))
      obtain ⟨rv_33, hx_35, h⟩ := bind_some h
      refine O.callS (us := [.agg #[.int .i64 n.Exchanges, .slice p n.Lines.length c, .int .i64 n.Hops, .slice p_1 n.Loops.length c_1], .int .i64 rv_32]) ca_15 hF hS (line_Routes_ok hS.stab n rv_32 hs hs_1 hG rv_33 hx_35) rfl rfl fun v_4 Dv_6 a w hR_4 hlev_6 hF hS => ?_
      replace hs := hs.mono hlev_6
      replace hs_1 := hs_1.mono hlev_6
      replace hG := hG.mono hlev_6
      replace hr_17 := hr_17.mono hlev_6
      obtain ⟨p_22, c_22, rfl, hs_8⟩ := hR_4
      refine step hF (Y.move hF rfl) rfl fun a hF => step hF (Y.extract hF rfl rfl) rfl fun a hF => step hF (Y.extract hF rfl rfl) rfl fun a hF => step hF (Y.assign hF rfl) rfl fun a hF => step hF (Y.assign hF rfl) rfl fun a hF => nil (then_n (seq (region (step hF (Y.loadNL 4 sz_25 hF rfl hS rfl rfl rfl) rfl fun a hF => step hF (Y.move hF rfl) rfl fun a hF => ?_))))
      obtain ⟨Dv_7, hlev_7, hs_9, hS⟩ := hS.freezeC (C := C_LineLine) (i := 9) (xs := ((([] : List LineLine) ++ n.Lines) ++ [more])) rfl hr_17
      replace hs := hs.mono hlev_7
      replace hs_1 := hs_1.mono hlev_7
      replace hG := hG.mono hlev_7
      replace hs_8 := hs_8.mono hlev_7
      obtain ⟨rv_34, hx_36, h⟩ := bind_some h
      refine O.callS (us := [.agg #[.int .i64 n.Exchanges, .slice p_21 ((([] : List LineLine) ++ n.Lines) ++ [more]).length c_21, .int .i64 n.Hops, .slice p_1 n.Loops.length c_1], .int .i64 rv_32]) ca_15 hF hS (line_Routes_ok hS.stab (LineNet.mk n.Exchanges ((([] : List LineLine) ++ n.Lines) ++ [more]) n.Hops n.Loops) rv_32 hs_9 hs_1 hG rv_34 hx_36) rfl rfl fun v_5 Dv_8 a w hR_5 hlev_8 hF hS => ?_
      replace hs := hs.mono hlev_8
      replace hs_1 := hs_1.mono hlev_8
      replace hG := hG.mono hlev_8
      replace hs_8 := hs_8.mono hlev_8
      replace hs_9 := hs_9.mono hlev_8
      obtain ⟨p_23, c_23, rfl, hs_10⟩ := hR_5
      refine step hF (Y.move hF rfl) rfl fun a hF => step hF (Y.extract hF rfl rfl) rfl fun a hF => step hF (Y.extract hF rfl rfl) rfl fun a hF => step hF (Y.assign hF rfl) rfl fun a hF => step hF (Y.assign hF rfl) rfl fun a hF => nil (then_n (seq (seq (region (step hF (Y.move hF rfl) rfl fun a hF => step hF (Y.neq hF rfl rfl) rfl fun a hF => nil (then_n (cond_b hF rfl (fun hbv_30 => ?_) (fun hbv_30 => ?_))))))))
      ·replace h := cond_t h hbv_30
       refine seq (region (step hF (Y.move hF rfl) rfl fun a hF => step hF (Y.eql hF rfl rfl) rfl fun a hF => step hF (Y.move hF rfl) rfl fun a hF => join (N := 216) (rs := []) (w0 := w0) (D0 := D0) 3 (us := [(3, .pointer (some ⟨b, 0, none⟩)), (5, .pointer (some ⟨b_2, 0, none⟩)), (6, .bool false), (7, .pointer (some ⟨b_3, 0, none⟩)), (13, .int .i64 rv_32), (14, .slice p_22 rv_33.1.length c_22), (16, .slice p_23 rv_34.1.length c_23), (17, .int .i64 rv_34.2), (156, .bool ((rv_33.2 == 4) || (rv_33.2 == 62)))]) (ms := [(1, .cells b [.int .i64 n.Exchanges, .slice p n.Lines.length c, .int .i64 n.Hops, .slice p_1 n.Loops.length c_1] 25), (2, .cells b_1 [.int .i64 more.From, .int .i64 more.To, .int .i64 more.Delay.Low, .int .i64 more.Delay.High] 68), (3, .cells b_2 [.int .i64 k.a0, .int .i64 k.a1, .int .i64 k.a2, .int .i64 k.a3, .int .i64 k.a4] 75), (4, .cells b_3 [.int .i64 n.Exchanges, .slice p_21 ((([] : List LineLine) ++ n.Lines) ++ [more]).length c_21, .int .i64 n.Hops, .slice p_1 n.Loops.length c_1] 25), (10, .own p_12 ([more]).length c_12 ([.int .i64 more.From, .int .i64 more.To, .int .i64 more.Delay.Low, .int .i64 more.Delay.High]) 68 4)]) (D' := Dv_8) ?_ ?_))
       ·rcases bcases (rv_33.2 == 4) with hbv_31 | hbv_31
        ·skip
         refine guard_off hF rfl rfl hbv_31 rfl fun a hF => guard_off hF rfl rfl hbv_31 rfl fun a hF => step hF (Y.pick_t hF rfl hbv_31 rfl) rfl fun a hF => nil (then_n ⟨hF.weak ⟨rfl, rfl, rfl, rfl, rfl, rfl, rfl, rfl, (by rw [hbv_31]; rfl), trivial⟩, hS.weak ⟨rfl, rfl, rfl, rfl, rfl, trivial⟩⟩)
        refine guard_on hF rfl rfl hbv_31 (step hF (Y.move hF rfl) rfl fun a hF => guard_on hF rfl rfl hbv_31 (step hF (Y.eql hF rfl rfl) rfl fun a hF => step hF (Y.pick_f hF rfl hbv_31 rfl) rfl fun a hF => nil (then_n ⟨hF.weak ⟨rfl, rfl, rfl, rfl, rfl, rfl, rfl, rfl, (by rw [hbv_31]; rfl), trivial⟩, hS.weak ⟨rfl, rfl, rfl, rfl, rfl, trivial⟩⟩)))
       intro a w hF hS
       refine step hF (Y.move hF rfl) rfl fun a hF => ?_
       obtain ⟨t_10, ht_10, h⟩ := bind_some h
       refine join (N := 216) (rs := []) (w0 := w0) (D0 := D0) 2 (us := [(3, .pointer (some ⟨b, 0, none⟩)), (5, .pointer (some ⟨b_2, 0, none⟩)), (6, .bool false), (7, .pointer (some ⟨b_3, 0, none⟩)), (13, .int .i64 rv_32), (14, .slice p_22 rv_33.1.length c_22), (16, .slice p_23 rv_34.1.length c_23), (17, .int .i64 rv_34.2), (159, .bool t_10)]) (ms := [(1, .cells b [.int .i64 n.Exchanges, .slice p n.Lines.length c, .int .i64 n.Hops, .slice p_1 n.Loops.length c_1] 25), (2, .cells b_1 [.int .i64 more.From, .int .i64 more.To, .int .i64 more.Delay.Low, .int .i64 more.Delay.High] 68), (3, .cells b_2 [.int .i64 k.a0, .int .i64 k.a1, .int .i64 k.a2, .int .i64 k.a3, .int .i64 k.a4] 75), (4, .cells b_3 [.int .i64 n.Exchanges, .slice p_21 ((([] : List LineLine) ++ n.Lines) ++ [more]).length c_21, .int .i64 n.Hops, .slice p_1 n.Loops.length c_1] 25), (10, .own p_12 ([more]).length c_12 ([.int .i64 more.From, .int .i64 more.To, .int .i64 more.Delay.Low, .int .i64 more.Delay.High]) 68 4)]) (D' := Dv_8) ?_ ?_
       ·rcases bcases ((rv_33.2 == 4) || (rv_33.2 == 62)) with hbv_32 | hbv_32
        ·skip
         replace h := cond_t ht_10 hbv_32
         refine guard_on hF rfl rfl hbv_32 ?_
         obtain ⟨rv_35, hx_37, h⟩ := bind_some h
         refine O.callP (us := []) ca_23 hF hS (remontoirlaw06_works_ok hS.stab hG rv_35 hx_37) rfl rfl fun a w hF hS => step hF (Y.pick_t hF rfl hbv_32 rfl) rfl fun a hF => ?_
         obtain rfl := some_inj h
         exact nil (then_n ⟨hF.weak ⟨rfl, rfl, rfl, rfl, rfl, rfl, rfl, rfl, rfl, trivial⟩, hS.weak ⟨rfl, rfl, rfl, rfl, rfl, trivial⟩⟩)
        replace h := cond_f ht_10 hbv_32
        refine guard_off hF rfl rfl hbv_32 rfl fun a hF => step hF (Y.pick_f hF rfl hbv_32 rfl) rfl fun a hF => ?_
        obtain rfl := some_inj h
        exact nil (then_n ⟨hF.weak ⟨rfl, rfl, rfl, rfl, rfl, rfl, rfl, rfl, rfl, trivial⟩, hS.weak ⟨rfl, rfl, rfl, rfl, rfl, trivial⟩⟩)
       intro a w hF hS
       refine step hF (Y.assign hF rfl) rfl fun a hF => nil (then_n (ret_ (then_r ?_)))
       obtain rfl := some_inj h
       exact leaveP Tryd.results10 hF hS (.cons (.tmp rfl) .nil) .nil rfl
      as_aux_lemma =>
       replace h := cond_f h hbv_30
       refine skip_ (then_n (seq (seq (region (step hF (Y.move hF rfl) rfl fun a hF => step hF (Y.eql hF rfl rfl) rfl fun a hF => nil (then_n (cond_b hF rfl (fun hbv_33 => ?_) (fun hbv_33 => ?_))))))))
       ·as_aux_lemma =>
         replace h := cond_t h hbv_33
         refine seq (region (step hF (Y.loadNL 4 sz_25 hF rfl hS rfl rfl rfl) rfl fun a hF => ?_))
         obtain ⟨rv_36, hx_38, h⟩ := bind_some h
         refine O.callP (us := [.agg #[.int .i64 n.Exchanges, .slice p_21 ((([] : List LineLine) ++ n.Lines) ++ [more]).length c_21, .int .i64 n.Hops, .slice p_1 n.Loops.length c_1]]) ca_18 hF hS (line_Check_ok hS.stab (LineNet.mk n.Exchanges ((([] : List LineLine) ++ n.Lines) ++ [more]) n.Hops n.Loops) hs_9 hs_1 rv_36 hx_38) rfl rfl fun a w hF hS => step hF (Y.move hF rfl) rfl fun a hF => step hF (Y.eql hF rfl rfl) rfl fun a hF => step hF (Y.move hF rfl) rfl fun a hF => ?_
         obtain ⟨t_11, ht_11, h⟩ := bind_some h
         refine join (N := 216) (rs := []) (w0 := w0) (D0 := D0) 5 (us := [(3, .pointer (some ⟨b, 0, none⟩)), (5, .pointer (some ⟨b_2, 0, none⟩)), (6, .bool false), (7, .pointer (some ⟨b_3, 0, none⟩)), (13, .int .i64 rv_32), (14, .slice p_22 rv_33.1.length c_22), (16, .slice p_23 rv_34.1.length c_23), (17, .int .i64 rv_34.2), (171, .bool t_11)]) (ms := [(1, .cells b [.int .i64 n.Exchanges, .slice p n.Lines.length c, .int .i64 n.Hops, .slice p_1 n.Loops.length c_1] 25), (2, .cells b_1 [.int .i64 more.From, .int .i64 more.To, .int .i64 more.Delay.Low, .int .i64 more.Delay.High] 68), (3, .cells b_2 [.int .i64 k.a0, .int .i64 k.a1, .int .i64 k.a2, .int .i64 k.a3, .int .i64 k.a4] 75), (4, .cells b_3 [.int .i64 n.Exchanges, .slice p_21 ((([] : List LineLine) ++ n.Lines) ++ [more]).length c_21, .int .i64 n.Hops, .slice p_1 n.Loops.length c_1] 25), (10, .own p_12 ([more]).length c_12 ([.int .i64 more.From, .int .i64 more.To, .int .i64 more.Delay.Low, .int .i64 more.Delay.High]) 68 4)]) (D' := Dv_8) ?_ ?_
         ·rcases bcases (rv_36 == rv_34.2) with hbv_34 | hbv_34
          ·skip
           replace h := cond_t ht_11 hbv_34
           refine guard_on hF rfl rfl hbv_34 (step hF (Y.indexArr u_75 sz_3 hF rfl rfl (by decide) (by decide)) rfl fun a hF => guard_on hF rfl rfl hbv_34 (step hF (Y.load1L 3 sz_3 hF rfl hS rfl rfl) rfl fun a hF => guard_on hF rfl rfl hbv_34 ?_))
           obtain ⟨rv_37, hx_39, h⟩ := bind_some h
           refine O.callP (us := [.int .i64 k.a0, .int .i64 4]) ca_41 hF hS (r0Rest_ok hS.stab k.a0 4 rv_37 hx_39) rfl rfl fun a w hF hS => guard_on hF rfl rfl hbv_34 (step hF (Y.eql hF rfl rfl) rfl fun a hF => step hF (Y.pick_t hF rfl hbv_34 rfl) rfl fun a hF => ?_)
           obtain rfl := some_inj h
           exact nil (then_n ⟨hF.weak ⟨rfl, rfl, rfl, rfl, rfl, rfl, rfl, rfl, rfl, trivial⟩, hS.weak ⟨rfl, rfl, rfl, rfl, rfl, trivial⟩⟩)
          replace h := cond_f ht_11 hbv_34
          refine guard_off hF rfl rfl hbv_34 rfl fun a hF => guard_off hF rfl rfl hbv_34 rfl fun a hF => guard_off hF rfl rfl hbv_34 rfl fun a hF => guard_off hF rfl rfl hbv_34 rfl fun a hF => step hF (Y.pick_f hF rfl hbv_34 rfl) rfl fun a hF => ?_
          obtain rfl := some_inj h
          exact nil (then_n ⟨hF.weak ⟨rfl, rfl, rfl, rfl, rfl, rfl, rfl, rfl, rfl, trivial⟩, hS.weak ⟨rfl, rfl, rfl, rfl, rfl, trivial⟩⟩)
         intro a w hF hS
         refine step hF (Y.move hF rfl) rfl fun a hF => ?_
         obtain ⟨t_12, ht_12, h⟩ := bind_some h
         refine join (N := 216) (rs := []) (w0 := w0) (D0 := D0) 2 (us := [(3, .pointer (some ⟨b, 0, none⟩)), (5, .pointer (some ⟨b_2, 0, none⟩)), (6, .bool false), (7, .pointer (some ⟨b_3, 0, none⟩)), (13, .int .i64 rv_32), (14, .slice p_22 rv_33.1.length c_22), (16, .slice p_23 rv_34.1.length c_23), (17, .int .i64 rv_34.2), (174, .bool t_12)]) (ms := [(1, .cells b [.int .i64 n.Exchanges, .slice p n.Lines.length c, .int .i64 n.Hops, .slice p_1 n.Loops.length c_1] 25), (2, .cells b_1 [.int .i64 more.From, .int .i64 more.To, .int .i64 more.Delay.Low, .int .i64 more.Delay.High] 68), (3, .cells b_2 [.int .i64 k.a0, .int .i64 k.a1, .int .i64 k.a2, .int .i64 k.a3, .int .i64 k.a4] 75), (4, .cells b_3 [.int .i64 n.Exchanges, .slice p_21 ((([] : List LineLine) ++ n.Lines) ++ [more]).length c_21, .int .i64 n.Hops, .slice p_1 n.Loops.length c_1] 25), (10, .own p_12 ([more]).length c_12 ([.int .i64 more.From, .int .i64 more.To, .int .i64 more.Delay.Low, .int .i64 more.Delay.High]) 68 4)]) (D' := Dv_8) ?_ ?_
         ·rcases bcases t_11 with hbv_35 | hbv_35
          ·skip
           replace h := cond_t ht_12 hbv_35
           refine guard_on hF rfl rfl hbv_35 ?_
           obtain ⟨rv_38, hx_40, h⟩ := bind_some h
           refine O.callP (us := []) ca_23 hF hS (remontoirlaw06_works_ok hS.stab hG rv_38 hx_40) rfl rfl fun a w hF hS => step hF (Y.pick_t hF rfl hbv_35 rfl) rfl fun a hF => ?_
           obtain rfl := some_inj h
           exact nil (then_n ⟨hF.weak ⟨rfl, rfl, rfl, rfl, rfl, rfl, rfl, rfl, rfl, trivial⟩, hS.weak ⟨rfl, rfl, rfl, rfl, rfl, trivial⟩⟩)
          replace h := cond_f ht_12 hbv_35
          refine guard_off hF rfl rfl hbv_35 rfl fun a hF => step hF (Y.pick_f hF rfl hbv_35 rfl) rfl fun a hF => ?_
          obtain rfl := some_inj h
          exact nil (then_n ⟨hF.weak ⟨rfl, rfl, rfl, rfl, rfl, rfl, rfl, rfl, rfl, trivial⟩, hS.weak ⟨rfl, rfl, rfl, rfl, rfl, trivial⟩⟩)
         intro a w hF hS
         refine step hF (Y.assign hF rfl) rfl fun a hF => nil (then_n (ret_ (then_r ?_)))
         obtain rfl := some_inj h
         exact leaveP Tryd.results10 hF hS (.cons (.tmp rfl) .nil) .nil rfl
       as_aux_lemma =>
        replace h := cond_f h hbv_33
        refine skip_ (then_n (seq (region (step hF (Y.loadNL 1 sz_25 hF rfl hS rfl rfl rfl) rfl fun a hF => step hF (Y.move hF rfl) rfl fun a hF => step hF (Y.indexArr u_75 sz_3 hF rfl rfl (by decide) (by decide)) rfl fun a hF => step hF (Y.load1L 3 sz_3 hF rfl hS rfl rfl) rfl fun a hF => ?_))))
        obtain ⟨rv_39, hx_41, h⟩ := bind_some h
        refine O.callP (us := [.agg #[.int .i64 n.Exchanges, .slice p n.Lines.length c, .int .i64 n.Hops, .slice p_1 n.Loops.length c_1], .int .i64 rv_32, .int .i64 k.a4]) ca_26 hF hS (line_Can_ok hS.stab n rv_32 k.a4 hs hs_1 hG rv_39 hx_41) rfl rfl fun a w hF hS => step hF (Y.move hF rfl) rfl fun a hF => step hF (Y.extract hF rfl rfl) rfl fun a hF => step hF (Y.extract hF rfl rfl) rfl fun a hF => step hF (Y.assign hF rfl) rfl fun a hF => step hF (Y.assign hF rfl) rfl fun a hF => nil (then_n (seq (region (step hF (Y.loadNL 4 sz_25 hF rfl hS rfl rfl rfl) rfl fun a hF => step hF (Y.move hF rfl) rfl fun a hF => step hF (Y.indexArr u_75 sz_3 hF rfl rfl (by decide) (by decide)) rfl fun a hF => step hF (Y.load1L 3 sz_3 hF rfl hS rfl rfl) rfl fun a hF => ?_))))
        obtain ⟨rv_40, hx_42, h⟩ := bind_some h
        refine O.callP (us := [.agg #[.int .i64 n.Exchanges, .slice p_21 ((([] : List LineLine) ++ n.Lines) ++ [more]).length c_21, .int .i64 n.Hops, .slice p_1 n.Loops.length c_1], .int .i64 rv_32, .int .i64 k.a4]) ca_26 hF hS (line_Can_ok hS.stab (LineNet.mk n.Exchanges ((([] : List LineLine) ++ n.Lines) ++ [more]) n.Hops n.Loops) rv_32 k.a4 hs_9 hs_1 hG rv_40 hx_42) rfl rfl fun a w hF hS => step hF (Y.move hF rfl) rfl fun a hF => step hF (Y.extract hF rfl rfl) rfl fun a hF => step hF (Y.extract hF rfl rfl) rfl fun a hF => step hF (Y.assign hF rfl) rfl fun a hF => step hF (Y.assign hF rfl) rfl fun a hF => nil (then_n (seq (region (step hF (Y.move hF rfl) rfl fun a hF => step hF (Y.eql hF rfl rfl) rfl fun a hF => step hF (Y.move hF rfl) rfl fun a hF => join (N := 216) (rs := []) (w0 := w0) (D0 := D0) 3 (us := [(6, .bool false), (14, .slice p_22 rv_33.1.length c_22), (16, .slice p_23 rv_34.1.length c_23), (18, .bool rv_39.1), (20, .bool rv_40.1), (21, .int .i64 rv_40.2), (196, .bool ((rv_34.2 == 0) && (rv_39.2 == 0)))]) (ms := [(1, .cells b [.int .i64 n.Exchanges, .slice p n.Lines.length c, .int .i64 n.Hops, .slice p_1 n.Loops.length c_1] 25), (2, .cells b_1 [.int .i64 more.From, .int .i64 more.To, .int .i64 more.Delay.Low, .int .i64 more.Delay.High] 68), (3, .cells b_2 [.int .i64 k.a0, .int .i64 k.a1, .int .i64 k.a2, .int .i64 k.a3, .int .i64 k.a4] 75), (4, .cells b_3 [.int .i64 n.Exchanges, .slice p_21 ((([] : List LineLine) ++ n.Lines) ++ [more]).length c_21, .int .i64 n.Hops, .slice p_1 n.Loops.length c_1] 25), (10, .own p_12 ([more]).length c_12 ([.int .i64 more.From, .int .i64 more.To, .int .i64 more.Delay.Low, .int .i64 more.Delay.High]) 68 4)]) (D' := Dv_8) ?_ ?_))))
        ·rcases bcases (rv_34.2 == 0) with hbv_36 | hbv_36
         ·skip
          refine guard_on hF rfl rfl hbv_36 (step hF (Y.move hF rfl) rfl fun a hF => guard_on hF rfl rfl hbv_36 (step hF (Y.eql hF rfl rfl) rfl fun a hF => step hF (Y.pick_t hF rfl hbv_36 rfl) rfl fun a hF => nil (then_n ⟨hF.weak ⟨rfl, rfl, rfl, rfl, rfl, rfl, (by rw [hbv_36]; rfl), trivial⟩, hS.weak ⟨rfl, rfl, rfl, rfl, rfl, trivial⟩⟩)))
         refine guard_off hF rfl rfl hbv_36 rfl fun a hF => guard_off hF rfl rfl hbv_36 rfl fun a hF => step hF (Y.pick_f hF rfl hbv_36 rfl) rfl fun a hF => nil (then_n ⟨hF.weak ⟨rfl, rfl, rfl, rfl, rfl, rfl, (by rw [hbv_36]; rfl), trivial⟩, hS.weak ⟨rfl, rfl, rfl, rfl, rfl, trivial⟩⟩)
        intro a w hF hS
        refine step hF (Y.move hF rfl) rfl fun a hF => join (N := 216) (rs := []) (w0 := w0) (D0 := D0) 3 (us := [(6, .bool false), (14, .slice p_22 rv_33.1.length c_22), (16, .slice p_23 rv_34.1.length c_23), (18, .bool rv_39.1), (20, .bool rv_40.1), (200, .bool (((rv_34.2 == 0) && (rv_39.2 == 0)) && (rv_40.2 == 0)))]) (ms := [(1, .cells b [.int .i64 n.Exchanges, .slice p n.Lines.length c, .int .i64 n.Hops, .slice p_1 n.Loops.length c_1] 25), (2, .cells b_1 [.int .i64 more.From, .int .i64 more.To, .int .i64 more.Delay.Low, .int .i64 more.Delay.High] 68), (3, .cells b_2 [.int .i64 k.a0, .int .i64 k.a1, .int .i64 k.a2, .int .i64 k.a3, .int .i64 k.a4] 75), (4, .cells b_3 [.int .i64 n.Exchanges, .slice p_21 ((([] : List LineLine) ++ n.Lines) ++ [more]).length c_21, .int .i64 n.Hops, .slice p_1 n.Loops.length c_1] 25), (10, .own p_12 ([more]).length c_12 ([.int .i64 more.From, .int .i64 more.To, .int .i64 more.Delay.Low, .int .i64 more.Delay.High]) 68 4)]) (D' := Dv_8) ?_ ?_
        ·rcases bcases ((rv_34.2 == 0) && (rv_39.2 == 0)) with hbv_37 | hbv_37
         ·skip
          refine guard_on hF rfl rfl hbv_37 (step hF (Y.move hF rfl) rfl fun a hF => guard_on hF rfl rfl hbv_37 (step hF (Y.eql hF rfl rfl) rfl fun a hF => step hF (Y.pick_t hF rfl hbv_37 rfl) rfl fun a hF => nil (then_n ⟨hF.weak ⟨rfl, rfl, rfl, rfl, rfl, (by rw [hbv_37]; rfl), trivial⟩, hS.weak ⟨rfl, rfl, rfl, rfl, rfl, trivial⟩⟩)))
         refine guard_off hF rfl rfl hbv_37 rfl fun a hF => guard_off hF rfl rfl hbv_37 rfl fun a hF => step hF (Y.pick_f hF rfl hbv_37 rfl) rfl fun a hF => nil (then_n ⟨hF.weak ⟨rfl, rfl, rfl, rfl, rfl, (by rw [hbv_37]; rfl), trivial⟩, hS.weak ⟨rfl, rfl, rfl, rfl, rfl, trivial⟩⟩)
        intro a w hF hS
        refine step hF (Y.move hF rfl) rfl fun a hF => ?_
        obtain ⟨t_13, ht_13, h⟩ := bind_some h
        refine join (N := 216) (rs := []) (w0 := w0) (D0 := D0) 4 (us := [(6, .bool false), (18, .bool rv_39.1), (20, .bool rv_40.1), (205, .bool t_13)]) (ms := [(1, .cells b [.int .i64 n.Exchanges, .slice p n.Lines.length c, .int .i64 n.Hops, .slice p_1 n.Loops.length c_1] 25), (2, .cells b_1 [.int .i64 more.From, .int .i64 more.To, .int .i64 more.Delay.Low, .int .i64 more.Delay.High] 68), (3, .cells b_2 [.int .i64 k.a0, .int .i64 k.a1, .int .i64 k.a2, .int .i64 k.a3, .int .i64 k.a4] 75), (4, .cells b_3 [.int .i64 n.Exchanges, .slice p_21 ((([] : List LineLine) ++ n.Lines) ++ [more]).length c_21, .int .i64 n.Hops, .slice p_1 n.Loops.length c_1] 25), (10, .own p_12 ([more]).length c_12 ([.int .i64 more.From, .int .i64 more.To, .int .i64 more.Delay.Low, .int .i64 more.Delay.High]) 68 4)]) (D' := Dv_8) ?_ ?_
        ·rcases bcases (((rv_34.2 == 0) && (rv_39.2 == 0)) && (rv_40.2 == 0)) with hbv_38 | hbv_38
         ·skip
          replace h := cond_t ht_13 hbv_38
          refine guard_on hF rfl rfl hbv_38 (step hF (Y.move hF rfl) rfl fun a hF => guard_on hF rfl rfl hbv_38 (step hF (Y.move hF rfl) rfl fun a hF => guard_on hF rfl rfl hbv_38 ?_))
          obtain ⟨rv_41, hx_43, h⟩ := bind_some h
          refine O.callP (us := [.slice p_22 rv_33.1.length c_22, .slice p_23 rv_34.1.length c_23]) ca_51 hF hS (remontoirlaw06_all_ok hS.stab rv_33.1 rv_34.1 hs_8 hs_10 rv_41 hx_43) rfl rfl fun a w hF hS => step hF (Y.pick_t hF rfl hbv_38 rfl) rfl fun a hF => ?_
          obtain rfl := some_inj h
          exact nil (then_n ⟨hF.weak ⟨rfl, rfl, rfl, rfl, trivial⟩, hS.weak ⟨rfl, rfl, rfl, rfl, rfl, trivial⟩⟩)
         replace h := cond_f ht_13 hbv_38
         refine guard_off hF rfl rfl hbv_38 rfl fun a hF => guard_off hF rfl rfl hbv_38 rfl fun a hF => guard_off hF rfl rfl hbv_38 rfl fun a hF => step hF (Y.pick_f hF rfl hbv_38 rfl) rfl fun a hF => ?_
         obtain rfl := some_inj h
         exact nil (then_n ⟨hF.weak ⟨rfl, rfl, rfl, rfl, trivial⟩, hS.weak ⟨rfl, rfl, rfl, rfl, rfl, trivial⟩⟩)
        intro a w hF hS
        refine step hF (Y.move hF rfl) rfl fun a hF => join (N := 216) (rs := []) (w0 := w0) (D0 := D0) 6 (us := [(6, .bool false), (212, .bool (t_13 && ((!rv_39.1) || rv_40.1)))]) (ms := [(1, .cells b [.int .i64 n.Exchanges, .slice p n.Lines.length c, .int .i64 n.Hops, .slice p_1 n.Loops.length c_1] 25), (2, .cells b_1 [.int .i64 more.From, .int .i64 more.To, .int .i64 more.Delay.Low, .int .i64 more.Delay.High] 68), (3, .cells b_2 [.int .i64 k.a0, .int .i64 k.a1, .int .i64 k.a2, .int .i64 k.a3, .int .i64 k.a4] 75), (4, .cells b_3 [.int .i64 n.Exchanges, .slice p_21 ((([] : List LineLine) ++ n.Lines) ++ [more]).length c_21, .int .i64 n.Hops, .slice p_1 n.Loops.length c_1] 25), (10, .own p_12 ([more]).length c_12 ([.int .i64 more.From, .int .i64 more.To, .int .i64 more.Delay.Low, .int .i64 more.Delay.High]) 68 4)]) (D' := Dv_8) ?_ ?_
        ·rcases bcases t_13 with hbv_39 | hbv_39
         ·skip
          refine guard_on hF rfl rfl hbv_39 (step hF (Y.move hF rfl) rfl fun a hF => guard_on hF rfl rfl hbv_39 (step hF (Y.not hF rfl) rfl fun a hF => guard_on hF rfl rfl hbv_39 (step hF (Y.move hF rfl) rfl fun a hF => join (N := 216) (rs := []) (w0 := w0) (D0 := D0) 2 (us := [(6, .bool false), (206, .bool t_13), (211, .bool ((!rv_39.1) || rv_40.1))]) (ms := [(1, .cells b [.int .i64 n.Exchanges, .slice p n.Lines.length c, .int .i64 n.Hops, .slice p_1 n.Loops.length c_1] 25), (2, .cells b_1 [.int .i64 more.From, .int .i64 more.To, .int .i64 more.Delay.Low, .int .i64 more.Delay.High] 68), (3, .cells b_2 [.int .i64 k.a0, .int .i64 k.a1, .int .i64 k.a2, .int .i64 k.a3, .int .i64 k.a4] 75), (4, .cells b_3 [.int .i64 n.Exchanges, .slice p_21 ((([] : List LineLine) ++ n.Lines) ++ [more]).length c_21, .int .i64 n.Hops, .slice p_1 n.Loops.length c_1] 25), (10, .own p_12 ([more]).length c_12 ([.int .i64 more.From, .int .i64 more.To, .int .i64 more.Delay.Low, .int .i64 more.Delay.High]) 68 4)]) (D' := Dv_8) ?_ ?_)))
          ·rcases bcases (!rv_39.1) with hbv_40 | hbv_40
           ·skip
            refine guard_off hF rfl rfl hbv_40 rfl fun a hF => guard_on hF rfl rfl hbv_39 (step hF (Y.pick_t hF rfl hbv_40 rfl) rfl fun a hF => nil (then_n ⟨hF.weak ⟨rfl, rfl, (by rw [hbv_40]; rfl), trivial⟩, hS.weak ⟨rfl, rfl, rfl, rfl, rfl, trivial⟩⟩))
           refine guard_on hF rfl rfl hbv_40 (step hF (Y.move hF rfl) rfl fun a hF => guard_on hF rfl rfl hbv_39 (step hF (Y.pick_f hF rfl hbv_40 rfl) rfl fun a hF => nil (then_n ⟨hF.weak ⟨rfl, rfl, (by rw [hbv_40]; rfl), trivial⟩, hS.weak ⟨rfl, rfl, rfl, rfl, rfl, trivial⟩⟩)))
          intro a w hF hS
          refine step hF (Y.pick_t hF rfl hbv_39 rfl) rfl fun a hF => nil (then_n ⟨hF.weak ⟨rfl, (by rw [hbv_39]; rfl), trivial⟩, hS.weak ⟨rfl, rfl, rfl, rfl, rfl, trivial⟩⟩)
         refine guard_off hF rfl rfl hbv_39 rfl fun a hF => guard_off hF rfl rfl hbv_39 rfl fun a hF => guard_off hF rfl rfl hbv_39 rfl fun a hF => guard_offu hF rfl rfl rfl fun a hF => guard_off hF rfl rfl hbv_39 rfl fun a hF => step hF (Y.pick_f hF rfl hbv_39 rfl) rfl fun a hF => nil (then_n ⟨hF.weak ⟨rfl, (by rw [hbv_39]; rfl), trivial⟩, hS.weak ⟨rfl, rfl, rfl, rfl, rfl, trivial⟩⟩)
        intro a w hF hS
        refine step hF (Y.move hF rfl) rfl fun a hF => ?_
        obtain ⟨t_14, ht_14, h⟩ := bind_some h
        refine join (N := 216) (rs := []) (w0 := w0) (D0 := D0) 2 (us := [(6, .bool false), (215, .bool t_14)]) (ms := [(1, .cells b [.int .i64 n.Exchanges, .slice p n.Lines.length c, .int .i64 n.Hops, .slice p_1 n.Loops.length c_1] 25), (2, .cells b_1 [.int .i64 more.From, .int .i64 more.To, .int .i64 more.Delay.Low, .int .i64 more.Delay.High] 68), (3, .cells b_2 [.int .i64 k.a0, .int .i64 k.a1, .int .i64 k.a2, .int .i64 k.a3, .int .i64 k.a4] 75), (4, .cells b_3 [.int .i64 n.Exchanges, .slice p_21 ((([] : List LineLine) ++ n.Lines) ++ [more]).length c_21, .int .i64 n.Hops, .slice p_1 n.Loops.length c_1] 25), (10, .own p_12 ([more]).length c_12 ([.int .i64 more.From, .int .i64 more.To, .int .i64 more.Delay.Low, .int .i64 more.Delay.High]) 68 4)]) (D' := Dv_8) ?_ ?_
        ·rcases bcases (t_13 && ((!rv_39.1) || rv_40.1)) with hbv_41 | hbv_41
         ·skip
          replace h := cond_t ht_14 hbv_41
          refine guard_on hF rfl rfl hbv_41 ?_
          obtain ⟨rv_42, hx_44, h⟩ := bind_some h
          refine O.callP (us := []) ca_23 hF hS (remontoirlaw06_works_ok hS.stab hG rv_42 hx_44) rfl rfl fun a w hF hS => step hF (Y.pick_t hF rfl hbv_41 rfl) rfl fun a hF => ?_
          obtain rfl := some_inj h
          exact nil (then_n ⟨hF.weak ⟨rfl, rfl, trivial⟩, hS.weak ⟨rfl, rfl, rfl, rfl, rfl, trivial⟩⟩)
         replace h := cond_f ht_14 hbv_41
         refine guard_off hF rfl rfl hbv_41 rfl fun a hF => step hF (Y.pick_f hF rfl hbv_41 rfl) rfl fun a hF => ?_
         obtain rfl := some_inj h
         exact nil (then_n ⟨hF.weak ⟨rfl, rfl, trivial⟩, hS.weak ⟨rfl, rfl, rfl, rfl, rfl, trivial⟩⟩)
        intro a w hF hS
        refine step hF (Y.assign hF rfl) rfl fun a hF => nil (then_n (ret_ ?_))
        obtain rfl := some_inj h
        exact leaveP Tryd.results10 hF hS (.cons (.tmp rfl) .nil) .nil rfl
    as_aux_lemma =>
     replace h := cond_f h hbv_29
     refine region (step hF (Y.fieldAddr fo_25_2 hF rfl) rfl fun a hF => step hF (Y.load1L 1 sz_3 hF rfl hS rfl rfl) rfl fun a hF => step hF (Y.add hF rfl rfl) rfl fun a hF => step hF (Y.min2 hF rfl rfl) rfl fun a hF => step hF (Y.fieldAddr fo_25_2 hF rfl) rfl fun a hF => O.store (us := [.int .i64 (if wr (n.Hops + 1) < 6 then wr (n.Hops + 1) else 6)]) 4 sz_3 hF rfl rfl rfl rfl hS rfl rfl fun a w hF hS => nil (blk_n (then_n (seq (region (step hF (Y.indexArr u_75 sz_3 hF rfl rfl (by decide) (by decide)) rfl fun a hF => step hF (Y.load1L 3 sz_3 hF rfl hS rfl rfl) rfl fun a hF => step hF (Y.fieldAddr fo_25_0 hF rfl) rfl fun a hF => step hF (Y.load1L 1 sz_3 hF rfl hS rfl rfl) rfl fun a hF => ?_))))))
     obtain ⟨rv_43, hx_45, h⟩ := bind_some h
     refine O.callP (us := [.int .i64 k.a3, .int .i64 n.Exchanges]) ca_41 hF hS (r0Rest_ok hS.stab k.a3 n.Exchanges rv_43 hx_45) rfl rfl fun a w hF hS => step hF (Y.assign hF rfl) rfl fun a hF => nil (then_n (seq (region (step hF (Y.loadNL 1 sz_25 hF rfl hS rfl rfl rfl) rfl fun a hF => step hF (Y.move hF rfl) rfl fun a hF => ?_))))
     obtain ⟨rv_44, hx_46, h⟩ := bind_some h
     refine O.callS (us := [.agg #[.int .i64 n.Exchanges, .slice p n.Lines.length c, .int .i64 n.Hops, .slice p_1 n.Loops.length c_1], .int .i64 rv_43]) ca_15 hF hS (line_Routes_ok hS.stab n rv_43 hs hs_1 hG rv_44 hx_46) rfl rfl fun v_6 Dv_9 a w hR_6 hlev_9 hF hS => ?_
     replace hs := hs.mono hlev_9
     replace hs_1 := hs_1.mono hlev_9
     replace hG := hG.mono hlev_9
     obtain ⟨p_24, c_24, rfl, hs_11⟩ := hR_6
     refine step hF (Y.move hF rfl) rfl fun a hF => step hF (Y.extract hF rfl rfl) rfl fun a hF => step hF (Y.extract hF rfl rfl) rfl fun a hF => step hF (Y.assign hF rfl) rfl fun a hF => step hF (Y.assign hF rfl) rfl fun a hF => nil (then_n (seq (region (step hF (Y.loadNL 4 sz_25 hF rfl hS rfl rfl rfl) rfl fun a hF => step hF (Y.move hF rfl) rfl fun a hF => ?_))))
     obtain ⟨rv_45, hx_47, h⟩ := bind_some h
     refine O.callS (us := [.agg #[.int .i64 n.Exchanges, .slice p n.Lines.length c, .int .i64 (if wr (n.Hops + 1) < 6 then wr (n.Hops + 1) else 6), .slice p_1 n.Loops.length c_1], .int .i64 rv_43]) ca_15 hF hS (line_Routes_ok hS.stab (LineNet.mk n.Exchanges n.Lines (if wr (n.Hops + 1) < 6 then wr (n.Hops + 1) else 6) n.Loops) rv_43 hs hs_1 hG rv_45 hx_47) rfl rfl fun v_7 Dv_10 a w hR_7 hlev_10 hF hS => ?_
     replace hs := hs.mono hlev_10
     replace hs_1 := hs_1.mono hlev_10
     replace hG := hG.mono hlev_10
     replace hs_11 := hs_11.mono hlev_10
     obtain ⟨p_25, c_25, rfl, hs_12⟩ := hR_7
     refine step hF (Y.move hF rfl) rfl fun a hF => step hF (Y.extract hF rfl rfl) rfl fun a hF => step hF (Y.extract hF rfl rfl) rfl fun a hF => step hF (Y.assign hF rfl) rfl fun a hF => step hF (Y.assign hF rfl) rfl fun a hF => nil (then_n (seq (seq (region (step hF (Y.move hF rfl) rfl fun a hF => step hF (Y.neq hF rfl rfl) rfl fun a hF => nil (then_n (cond_b hF rfl (fun hbv_42 => ?_) (fun hbv_42 => ?_))))))))
     ·replace h := cond_t h hbv_42
      refine seq (region (step hF (Y.move hF rfl) rfl fun a hF => step hF (Y.eql hF rfl rfl) rfl fun a hF => step hF (Y.move hF rfl) rfl fun a hF => join (N := 216) (rs := []) (w0 := w0) (D0 := D0) 3 (us := [(3, .pointer (some ⟨b, 0, none⟩)), (5, .pointer (some ⟨b_2, 0, none⟩)), (6, .bool false), (7, .pointer (some ⟨b_3, 0, none⟩)), (13, .int .i64 rv_43), (14, .slice p_24 rv_44.1.length c_24), (16, .slice p_25 rv_45.1.length c_25), (17, .int .i64 rv_45.2), (156, .bool ((rv_44.2 == 4) || (rv_44.2 == 62)))]) (ms := [(1, .cells b [.int .i64 n.Exchanges, .slice p n.Lines.length c, .int .i64 n.Hops, .slice p_1 n.Loops.length c_1] 25), (2, .cells b_1 [.int .i64 more.From, .int .i64 more.To, .int .i64 more.Delay.Low, .int .i64 more.Delay.High] 68), (3, .cells b_2 [.int .i64 k.a0, .int .i64 k.a1, .int .i64 k.a2, .int .i64 k.a3, .int .i64 k.a4] 75), (4, .cells b_3 [.int .i64 n.Exchanges, .slice p n.Lines.length c, .int .i64 (if wr (n.Hops + 1) < 6 then wr (n.Hops + 1) else 6), .slice p_1 n.Loops.length c_1] 25)]) (D' := Dv_10) ?_ ?_))
      ·rcases bcases (rv_44.2 == 4) with hbv_43 | hbv_43
       ·skip
        refine guard_off hF rfl rfl hbv_43 rfl fun a hF => guard_off hF rfl rfl hbv_43 rfl fun a hF => step hF (Y.pick_t hF rfl hbv_43 rfl) rfl fun a hF => nil (then_n ⟨hF.weak ⟨rfl, rfl, rfl, rfl, rfl, rfl, rfl, rfl, (by rw [hbv_43]; rfl), trivial⟩, hS.weak ⟨rfl, rfl, rfl, rfl, trivial⟩⟩)
       refine guard_on hF rfl rfl hbv_43 (step hF (Y.move hF rfl) rfl fun a hF => guard_on hF rfl rfl hbv_43 (step hF (Y.eql hF rfl rfl) rfl fun a hF => step hF (Y.pick_f hF rfl hbv_43 rfl) rfl fun a hF => nil (then_n ⟨hF.weak ⟨rfl, rfl, rfl, rfl, rfl, rfl, rfl, rfl, (by rw [hbv_43]; rfl), trivial⟩, hS.weak ⟨rfl, rfl, rfl, rfl, trivial⟩⟩)))
      intro a w hF hS
      refine step hF (Y.move hF rfl) rfl fun a hF => ?_
      obtain ⟨t_15, ht_15, h⟩ := bind_some h
      refine join (N := 216) (rs := []) (w0 := w0) (D0 := D0) 2 (us := [(3, .pointer (some ⟨b, 0, none⟩)), (5, .pointer (some ⟨b_2, 0, none⟩)), (6, .bool false), (7, .pointer (some ⟨b_3, 0, none⟩)), (13, .int .i64 rv_43), (14, .slice p_24 rv_44.1.length c_24), (16, .slice p_25 rv_45.1.length c_25), (17, .int .i64 rv_45.2), (159, .bool t_15)]) (ms := [(1, .cells b [.int .i64 n.Exchanges, .slice p n.Lines.length c, .int .i64 n.Hops, .slice p_1 n.Loops.length c_1] 25), (2, .cells b_1 [.int .i64 more.From, .int .i64 more.To, .int .i64 more.Delay.Low, .int .i64 more.Delay.High] 68), (3, .cells b_2 [.int .i64 k.a0, .int .i64 k.a1, .int .i64 k.a2, .int .i64 k.a3, .int .i64 k.a4] 75), (4, .cells b_3 [.int .i64 n.Exchanges, .slice p n.Lines.length c, .int .i64 (if wr (n.Hops + 1) < 6 then wr (n.Hops + 1) else 6), .slice p_1 n.Loops.length c_1] 25)]) (D' := Dv_10) ?_ ?_
      ·rcases bcases ((rv_44.2 == 4) || (rv_44.2 == 62)) with hbv_44 | hbv_44
       ·skip
        replace h := cond_t ht_15 hbv_44
        refine guard_on hF rfl rfl hbv_44 ?_
        obtain ⟨rv_46, hx_48, h⟩ := bind_some h
        refine O.callP (us := []) ca_23 hF hS (remontoirlaw06_works_ok hS.stab hG rv_46 hx_48) rfl rfl fun a w hF hS => step hF (Y.pick_t hF rfl hbv_44 rfl) rfl fun a hF => ?_
        obtain rfl := some_inj h
        exact nil (then_n ⟨hF.weak ⟨rfl, rfl, rfl, rfl, rfl, rfl, rfl, rfl, rfl, trivial⟩, hS.weak ⟨rfl, rfl, rfl, rfl, trivial⟩⟩)
       replace h := cond_f ht_15 hbv_44
       refine guard_off hF rfl rfl hbv_44 rfl fun a hF => step hF (Y.pick_f hF rfl hbv_44 rfl) rfl fun a hF => ?_
       obtain rfl := some_inj h
       exact nil (then_n ⟨hF.weak ⟨rfl, rfl, rfl, rfl, rfl, rfl, rfl, rfl, rfl, trivial⟩, hS.weak ⟨rfl, rfl, rfl, rfl, trivial⟩⟩)
      intro a w hF hS
      refine step hF (Y.assign hF rfl) rfl fun a hF => nil (then_n (ret_ (then_r ?_)))
      obtain rfl := some_inj h
      exact leaveP Tryd.results10 hF hS (.cons (.tmp rfl) .nil) .nil rfl
     as_aux_lemma =>
      replace h := cond_f h hbv_42
      refine skip_ (then_n (seq (seq (region (step hF (Y.move hF rfl) rfl fun a hF => step hF (Y.eql hF rfl rfl) rfl fun a hF => nil (then_n (cond_b hF rfl (fun hbv_45 => ?_) (fun hbv_45 => ?_))))))))
      ·as_aux_lemma =>
        replace h := cond_t h hbv_45
        refine seq (region (step hF (Y.loadNL 4 sz_25 hF rfl hS rfl rfl rfl) rfl fun a hF => ?_))
        obtain ⟨rv_47, hx_49, h⟩ := bind_some h
        refine O.callP (us := [.agg #[.int .i64 n.Exchanges, .slice p n.Lines.length c, .int .i64 (if wr (n.Hops + 1) < 6 then wr (n.Hops + 1) else 6), .slice p_1 n.Loops.length c_1]]) ca_18 hF hS (line_Check_ok hS.stab (LineNet.mk n.Exchanges n.Lines (if wr (n.Hops + 1) < 6 then wr (n.Hops + 1) else 6) n.Loops) hs hs_1 rv_47 hx_49) rfl rfl fun a w hF hS => step hF (Y.move hF rfl) rfl fun a hF => step hF (Y.eql hF rfl rfl) rfl fun a hF => step hF (Y.move hF rfl) rfl fun a hF => ?_
        obtain ⟨t_16, ht_16, h⟩ := bind_some h
        refine join (N := 216) (rs := []) (w0 := w0) (D0 := D0) 5 (us := [(3, .pointer (some ⟨b, 0, none⟩)), (5, .pointer (some ⟨b_2, 0, none⟩)), (6, .bool false), (7, .pointer (some ⟨b_3, 0, none⟩)), (13, .int .i64 rv_43), (14, .slice p_24 rv_44.1.length c_24), (16, .slice p_25 rv_45.1.length c_25), (17, .int .i64 rv_45.2), (171, .bool t_16)]) (ms := [(1, .cells b [.int .i64 n.Exchanges, .slice p n.Lines.length c, .int .i64 n.Hops, .slice p_1 n.Loops.length c_1] 25), (2, .cells b_1 [.int .i64 more.From, .int .i64 more.To, .int .i64 more.Delay.Low, .int .i64 more.Delay.High] 68), (3, .cells b_2 [.int .i64 k.a0, .int .i64 k.a1, .int .i64 k.a2, .int .i64 k.a3, .int .i64 k.a4] 75), (4, .cells b_3 [.int .i64 n.Exchanges, .slice p n.Lines.length c, .int .i64 (if wr (n.Hops + 1) < 6 then wr (n.Hops + 1) else 6), .slice p_1 n.Loops.length c_1] 25)]) (D' := Dv_10) ?_ ?_
        ·rcases bcases (rv_47 == rv_45.2) with hbv_46 | hbv_46
         ·skip
          replace h := cond_t ht_16 hbv_46
          refine guard_on hF rfl rfl hbv_46 (step hF (Y.indexArr u_75 sz_3 hF rfl rfl (by decide) (by decide)) rfl fun a hF => guard_on hF rfl rfl hbv_46 (step hF (Y.load1L 3 sz_3 hF rfl hS rfl rfl) rfl fun a hF => guard_on hF rfl rfl hbv_46 ?_))
          obtain ⟨rv_48, hx_50, h⟩ := bind_some h
          refine O.callP (us := [.int .i64 k.a0, .int .i64 4]) ca_41 hF hS (r0Rest_ok hS.stab k.a0 4 rv_48 hx_50) rfl rfl fun a w hF hS => guard_on hF rfl rfl hbv_46 (step hF (Y.eql hF rfl rfl) rfl fun a hF => step hF (Y.pick_t hF rfl hbv_46 rfl) rfl fun a hF => ?_)
          obtain rfl := some_inj h
          exact nil (then_n ⟨hF.weak ⟨rfl, rfl, rfl, rfl, rfl, rfl, rfl, rfl, rfl, trivial⟩, hS.weak ⟨rfl, rfl, rfl, rfl, trivial⟩⟩)
         replace h := cond_f ht_16 hbv_46
         refine guard_off hF rfl rfl hbv_46 rfl fun a hF => guard_off hF rfl rfl hbv_46 rfl fun a hF => guard_off hF rfl rfl hbv_46 rfl fun a hF => guard_off hF rfl rfl hbv_46 rfl fun a hF => step hF (Y.pick_f hF rfl hbv_46 rfl) rfl fun a hF => ?_
         obtain rfl := some_inj h
         exact nil (then_n ⟨hF.weak ⟨rfl, rfl, rfl, rfl, rfl, rfl, rfl, rfl, rfl, trivial⟩, hS.weak ⟨rfl, rfl, rfl, rfl, trivial⟩⟩)
        intro a w hF hS
        refine step hF (Y.move hF rfl) rfl fun a hF => ?_
        obtain ⟨t_17, ht_17, h⟩ := bind_some h
        refine join (N := 216) (rs := []) (w0 := w0) (D0 := D0) 2 (us := [(3, .pointer (some ⟨b, 0, none⟩)), (5, .pointer (some ⟨b_2, 0, none⟩)), (6, .bool false), (7, .pointer (some ⟨b_3, 0, none⟩)), (13, .int .i64 rv_43), (14, .slice p_24 rv_44.1.length c_24), (16, .slice p_25 rv_45.1.length c_25), (17, .int .i64 rv_45.2), (174, .bool t_17)]) (ms := [(1, .cells b [.int .i64 n.Exchanges, .slice p n.Lines.length c, .int .i64 n.Hops, .slice p_1 n.Loops.length c_1] 25), (2, .cells b_1 [.int .i64 more.From, .int .i64 more.To, .int .i64 more.Delay.Low, .int .i64 more.Delay.High] 68), (3, .cells b_2 [.int .i64 k.a0, .int .i64 k.a1, .int .i64 k.a2, .int .i64 k.a3, .int .i64 k.a4] 75), (4, .cells b_3 [.int .i64 n.Exchanges, .slice p n.Lines.length c, .int .i64 (if wr (n.Hops + 1) < 6 then wr (n.Hops + 1) else 6), .slice p_1 n.Loops.length c_1] 25)]) (D' := Dv_10) ?_ ?_
        ·rcases bcases t_16 with hbv_47 | hbv_47
         ·skip
          replace h := cond_t ht_17 hbv_47
          refine guard_on hF rfl rfl hbv_47 ?_
          obtain ⟨rv_49, hx_51, h⟩ := bind_some h
          refine O.callP (us := []) ca_23 hF hS (remontoirlaw06_works_ok hS.stab hG rv_49 hx_51) rfl rfl fun a w hF hS => step hF (Y.pick_t hF rfl hbv_47 rfl) rfl fun a hF => ?_
          obtain rfl := some_inj h
          exact nil (then_n ⟨hF.weak ⟨rfl, rfl, rfl, rfl, rfl, rfl, rfl, rfl, rfl, trivial⟩, hS.weak ⟨rfl, rfl, rfl, rfl, trivial⟩⟩)
         replace h := cond_f ht_17 hbv_47
         refine guard_off hF rfl rfl hbv_47 rfl fun a hF => step hF (Y.pick_f hF rfl hbv_47 rfl) rfl fun a hF => ?_
         obtain rfl := some_inj h
         exact nil (then_n ⟨hF.weak ⟨rfl, rfl, rfl, rfl, rfl, rfl, rfl, rfl, rfl, trivial⟩, hS.weak ⟨rfl, rfl, rfl, rfl, trivial⟩⟩)
        intro a w hF hS
        refine step hF (Y.assign hF rfl) rfl fun a hF => nil (then_n (ret_ (then_r ?_)))
        obtain rfl := some_inj h
        exact leaveP Tryd.results10 hF hS (.cons (.tmp rfl) .nil) .nil rfl
      as_aux_lemma =>
       replace h := cond_f h hbv_45
       refine skip_ (then_n (seq (region (step hF (Y.loadNL 1 sz_25 hF rfl hS rfl rfl rfl) rfl fun a hF => step hF (Y.move hF rfl) rfl fun a hF => step hF (Y.indexArr u_75 sz_3 hF rfl rfl (by decide) (by decide)) rfl fun a hF => step hF (Y.load1L 3 sz_3 hF rfl hS rfl rfl) rfl fun a hF => ?_))))
       obtain ⟨rv_50, hx_52, h⟩ := bind_some h
       refine O.callP (us := [.agg #[.int .i64 n.Exchanges, .slice p n.Lines.length c, .int .i64 n.Hops, .slice p_1 n.Loops.length c_1], .int .i64 rv_43, .int .i64 k.a4]) ca_26 hF hS (line_Can_ok hS.stab n rv_43 k.a4 hs hs_1 hG rv_50 hx_52) rfl rfl fun a w hF hS => step hF (Y.move hF rfl) rfl fun a hF => step hF (Y.extract hF rfl rfl) rfl fun a hF => step hF (Y.extract hF rfl rfl) rfl fun a hF => step hF (Y.assign hF rfl) rfl fun a hF => step hF (Y.assign hF rfl) rfl fun a hF => nil (then_n (seq (region (step hF (Y.loadNL 4 sz_25 hF rfl hS rfl rfl rfl) rfl fun a hF => step hF (Y.move hF rfl) rfl fun a hF => step hF (Y.indexArr u_75 sz_3 hF rfl rfl (by decide) (by decide)) rfl fun a hF => step hF (Y.load1L 3 sz_3 hF rfl hS rfl rfl) rfl fun a hF => ?_))))
       obtain ⟨rv_51, hx_53, h⟩ := bind_some h
       refine O.callP (us := [.agg #[.int .i64 n.Exchanges, .slice p n.Lines.length c, .int .i64 (if wr (n.Hops + 1) < 6 then wr (n.Hops + 1) else 6), .slice p_1 n.Loops.length c_1], .int .i64 rv_43, .int .i64 k.a4]) ca_26 hF hS (line_Can_ok hS.stab (LineNet.mk n.Exchanges n.Lines (if wr (n.Hops + 1) < 6 then wr (n.Hops + 1) else 6) n.Loops) rv_43 k.a4 hs hs_1 hG rv_51 hx_53) rfl rfl fun a w hF hS => step hF (Y.move hF rfl) rfl fun a hF => step hF (Y.extract hF rfl rfl) rfl fun a hF => step hF (Y.extract hF rfl rfl) rfl fun a hF => step hF (Y.assign hF rfl) rfl fun a hF => step hF (Y.assign hF rfl) rfl fun a hF => nil (then_n (seq (region (step hF (Y.move hF rfl) rfl fun a hF => step hF (Y.eql hF rfl rfl) rfl fun a hF => step hF (Y.move hF rfl) rfl fun a hF => join (N := 216) (rs := []) (w0 := w0) (D0 := D0) 3 (us := [(6, .bool false), (14, .slice p_24 rv_44.1.length c_24), (16, .slice p_25 rv_45.1.length c_25), (18, .bool rv_50.1), (20, .bool rv_51.1), (21, .int .i64 rv_51.2), (196, .bool ((rv_45.2 == 0) && (rv_50.2 == 0)))]) (ms := [(1, .cells b [.int .i64 n.Exchanges, .slice p n.Lines.length c, .int .i64 n.Hops, .slice p_1 n.Loops.length c_1] 25), (2, .cells b_1 [.int .i64 more.From, .int .i64 more.To, .int .i64 more.Delay.Low, .int .i64 more.Delay.High] 68), (3, .cells b_2 [.int .i64 k.a0, .int .i64 k.a1, .int .i64 k.a2, .int .i64 k.a3, .int .i64 k.a4] 75), (4, .cells b_3 [.int .i64 n.Exchanges, .slice p n.Lines.length c, .int .i64 (if wr (n.Hops + 1) < 6 then wr (n.Hops + 1) else 6), .slice p_1 n.Loops.length c_1] 25)]) (D' := Dv_10) ?_ ?_))))
       ·rcases bcases (rv_45.2 == 0) with hbv_48 | hbv_48
        ·skip
         refine guard_on hF rfl rfl hbv_48 (step hF (Y.move hF rfl) rfl fun a hF => guard_on hF rfl rfl hbv_48 (step hF (Y.eql hF rfl rfl) rfl fun a hF => step hF (Y.pick_t hF rfl hbv_48 rfl) rfl fun a hF => nil (then_n ⟨hF.weak ⟨rfl, rfl, rfl, rfl, rfl, rfl, (by rw [hbv_48]; rfl), trivial⟩, hS.weak ⟨rfl, rfl, rfl, rfl, trivial⟩⟩)))
        refine guard_off hF rfl rfl hbv_48 rfl fun a hF => guard_off hF rfl rfl hbv_48 rfl fun a hF => step hF (Y.pick_f hF rfl hbv_48 rfl) rfl fun a hF => nil (then_n ⟨hF.weak ⟨rfl, rfl, rfl, rfl, rfl, rfl, (by rw [hbv_48]; rfl), trivial⟩, hS.weak ⟨rfl, rfl, rfl, rfl, trivial⟩⟩)
       intro a w hF hS
       refine step hF (Y.move hF rfl) rfl fun a hF => join (N := 216) (rs := []) (w0 := w0) (D0 := D0) 3 (us := [(6, .bool false), (14, .slice p_24 rv_44.1.length c_24), (16, .slice p_25 rv_45.1.length c_25), (18, .bool rv_50.1), (20, .bool rv_51.1), (200, .bool (((rv_45.2 == 0) && (rv_50.2 == 0)) && (rv_51.2 == 0)))]) (ms := [(1, .cells b [.int .i64 n.Exchanges, .slice p n.Lines.length c, .int .i64 n.Hops, .slice p_1 n.Loops.length c_1] 25), (2, .cells b_1 [.int .i64 more.From, .int .i64 more.To, .int .i64 more.Delay.Low, .int .i64 more.Delay.High] 68), (3, .cells b_2 [.int .i64 k.a0, .int .i64 k.a1, .int .i64 k.a2, .int .i64 k.a3, .int .i64 k.a4] 75), (4, .cells b_3 [.int .i64 n.Exchanges, .slice p n.Lines.length c, .int .i64 (if wr (n.Hops + 1) < 6 then wr (n.Hops + 1) else 6), .slice p_1 n.Loops.length c_1] 25)]) (D' := Dv_10) ?_ ?_
       ·rcases bcases ((rv_45.2 == 0) && (rv_50.2 == 0)) with hbv_49 | hbv_49
        ·skip
         refine guard_on hF rfl rfl hbv_49 (step hF (Y.move hF rfl) rfl fun a hF => guard_on hF rfl rfl hbv_49 (step hF (Y.eql hF rfl rfl) rfl fun a hF => step hF (Y.pick_t hF rfl hbv_49 rfl) rfl fun a hF => nil (then_n ⟨hF.weak ⟨rfl, rfl, rfl, rfl, rfl, (by rw [hbv_49]; rfl), trivial⟩, hS.weak ⟨rfl, rfl, rfl, rfl, trivial⟩⟩)))
        refine guard_off hF rfl rfl hbv_49 rfl fun a hF => guard_off hF rfl rfl hbv_49 rfl fun a hF => step hF (Y.pick_f hF rfl hbv_49 rfl) rfl fun a hF => nil (then_n ⟨hF.weak ⟨rfl, rfl, rfl, rfl, rfl, (by rw [hbv_49]; rfl), trivial⟩, hS.weak ⟨rfl, rfl, rfl, rfl, trivial⟩⟩)
       intro a w hF hS
       refine step hF (Y.move hF rfl) rfl fun a hF => ?_
       obtain ⟨t_18, ht_18, h⟩ := bind_some h
       refine join (N := 216) (rs := []) (w0 := w0) (D0 := D0) 4 (us := [(6, .bool false), (18, .bool rv_50.1), (20, .bool rv_51.1), (205, .bool t_18)]) (ms := [(1, .cells b [.int .i64 n.Exchanges, .slice p n.Lines.length c, .int .i64 n.Hops, .slice p_1 n.Loops.length c_1] 25), (2, .cells b_1 [.int .i64 more.From, .int .i64 more.To, .int .i64 more.Delay.Low, .int .i64 more.Delay.High] 68), (3, .cells b_2 [.int .i64 k.a0, .int .i64 k.a1, .int .i64 k.a2, .int .i64 k.a3, .int .i64 k.a4] 75), (4, .cells b_3 [.int .i64 n.Exchanges, .slice p n.Lines.length c, .int .i64 (if wr (n.Hops + 1) < 6 then wr (n.Hops + 1) else 6), .slice p_1 n.Loops.length c_1] 25)]) (D' := Dv_10) ?_ ?_
       ·rcases bcases (((rv_45.2 == 0) && (rv_50.2 == 0)) && (rv_51.2 == 0)) with hbv_50 | hbv_50
        ·skip
         replace h := cond_t ht_18 hbv_50
         refine guard_on hF rfl rfl hbv_50 (step hF (Y.move hF rfl) rfl fun a hF => guard_on hF rfl rfl hbv_50 (step hF (Y.move hF rfl) rfl fun a hF => guard_on hF rfl rfl hbv_50 ?_))
         obtain ⟨rv_52, hx_54, h⟩ := bind_some h
         refine O.callP (us := [.slice p_24 rv_44.1.length c_24, .slice p_25 rv_45.1.length c_25]) ca_51 hF hS (remontoirlaw06_all_ok hS.stab rv_44.1 rv_45.1 hs_11 hs_12 rv_52 hx_54) rfl rfl fun a w hF hS => step hF (Y.pick_t hF rfl hbv_50 rfl) rfl fun a hF => ?_
         obtain rfl := some_inj h
         exact nil (then_n ⟨hF.weak ⟨rfl, rfl, rfl, rfl, trivial⟩, hS.weak ⟨rfl, rfl, rfl, rfl, trivial⟩⟩)
        replace h := cond_f ht_18 hbv_50
        refine guard_off hF rfl rfl hbv_50 rfl fun a hF => guard_off hF rfl rfl hbv_50 rfl fun a hF => guard_off hF rfl rfl hbv_50 rfl fun a hF => step hF (Y.pick_f hF rfl hbv_50 rfl) rfl fun a hF => ?_
        obtain rfl := some_inj h
        exact nil (then_n ⟨hF.weak ⟨rfl, rfl, rfl, rfl, trivial⟩, hS.weak ⟨rfl, rfl, rfl, rfl, trivial⟩⟩)
       intro a w hF hS
       refine step hF (Y.move hF rfl) rfl fun a hF => join (N := 216) (rs := []) (w0 := w0) (D0 := D0) 6 (us := [(6, .bool false), (212, .bool (t_18 && ((!rv_50.1) || rv_51.1)))]) (ms := [(1, .cells b [.int .i64 n.Exchanges, .slice p n.Lines.length c, .int .i64 n.Hops, .slice p_1 n.Loops.length c_1] 25), (2, .cells b_1 [.int .i64 more.From, .int .i64 more.To, .int .i64 more.Delay.Low, .int .i64 more.Delay.High] 68), (3, .cells b_2 [.int .i64 k.a0, .int .i64 k.a1, .int .i64 k.a2, .int .i64 k.a3, .int .i64 k.a4] 75), (4, .cells b_3 [.int .i64 n.Exchanges, .slice p n.Lines.length c, .int .i64 (if wr (n.Hops + 1) < 6 then wr (n.Hops + 1) else 6), .slice p_1 n.Loops.length c_1] 25)]) (D' := Dv_10) ?_ ?_
       ·rcases bcases t_18 with hbv_51 | hbv_51
        ·skip
         refine guard_on hF rfl rfl hbv_51 (step hF (Y.move hF rfl) rfl fun a hF => guard_on hF rfl rfl hbv_51 (step hF (Y.not hF rfl) rfl fun a hF => guard_on hF rfl rfl hbv_51 (step hF (Y.move hF rfl) rfl fun a hF => join (N := 216) (rs := []) (w0 := w0) (D0 := D0) 2 (us := [(6, .bool false), (206, .bool t_18), (211, .bool ((!rv_50.1) || rv_51.1))]) (ms := [(1, .cells b [.int .i64 n.Exchanges, .slice p n.Lines.length c, .int .i64 n.Hops, .slice p_1 n.Loops.length c_1] 25), (2, .cells b_1 [.int .i64 more.From, .int .i64 more.To, .int .i64 more.Delay.Low, .int .i64 more.Delay.High] 68), (3, .cells b_2 [.int .i64 k.a0, .int .i64 k.a1, .int .i64 k.a2, .int .i64 k.a3, .int .i64 k.a4] 75), (4, .cells b_3 [.int .i64 n.Exchanges, .slice p n.Lines.length c, .int .i64 (if wr (n.Hops + 1) < 6 then wr (n.Hops + 1) else 6), .slice p_1 n.Loops.length c_1] 25)]) (D' := Dv_10) ?_ ?_)))
         ·rcases bcases (!rv_50.1) with hbv_52 | hbv_52
          ·skip
           refine guard_off hF rfl rfl hbv_52 rfl fun a hF => guard_on hF rfl rfl hbv_51 (step hF (Y.pick_t hF rfl hbv_52 rfl) rfl fun a hF => nil (then_n ⟨hF.weak ⟨rfl, rfl, (by rw [hbv_52]; rfl), trivial⟩, hS.weak ⟨rfl, rfl, rfl, rfl, trivial⟩⟩))
          refine guard_on hF rfl rfl hbv_52 (step hF (Y.move hF rfl) rfl fun a hF => guard_on hF rfl rfl hbv_51 (step hF (Y.pick_f hF rfl hbv_52 rfl) rfl fun a hF => nil (then_n ⟨hF.weak ⟨rfl, rfl, (by rw [hbv_52]; rfl), trivial⟩, hS.weak ⟨rfl, rfl, rfl, rfl, trivial⟩⟩)))
         intro a w hF hS
         refine step hF (Y.pick_t hF rfl hbv_51 rfl) rfl fun a hF => nil (then_n ⟨hF.weak ⟨rfl, (by rw [hbv_51]; rfl), trivial⟩, hS.weak ⟨rfl, rfl, rfl, rfl, trivial⟩⟩)
        refine guard_off hF rfl rfl hbv_51 rfl fun a hF => guard_off hF rfl rfl hbv_51 rfl fun a hF => guard_off hF rfl rfl hbv_51 rfl fun a hF => guard_offu hF rfl rfl rfl fun a hF => guard_off hF rfl rfl hbv_51 rfl fun a hF => step hF (Y.pick_f hF rfl hbv_51 rfl) rfl fun a hF => nil (then_n ⟨hF.weak ⟨rfl, (by rw [hbv_51]; rfl), trivial⟩, hS.weak ⟨rfl, rfl, rfl, rfl, trivial⟩⟩)
       intro a w hF hS
       refine step hF (Y.move hF rfl) rfl fun a hF => ?_
       obtain ⟨t_19, ht_19, h⟩ := bind_some h
       refine join (N := 216) (rs := []) (w0 := w0) (D0 := D0) 2 (us := [(6, .bool false), (215, .bool t_19)]) (ms := [(1, .cells b [.int .i64 n.Exchanges, .slice p n.Lines.length c, .int .i64 n.Hops, .slice p_1 n.Loops.length c_1] 25), (2, .cells b_1 [.int .i64 more.From, .int .i64 more.To, .int .i64 more.Delay.Low, .int .i64 more.Delay.High] 68), (3, .cells b_2 [.int .i64 k.a0, .int .i64 k.a1, .int .i64 k.a2, .int .i64 k.a3, .int .i64 k.a4] 75), (4, .cells b_3 [.int .i64 n.Exchanges, .slice p n.Lines.length c, .int .i64 (if wr (n.Hops + 1) < 6 then wr (n.Hops + 1) else 6), .slice p_1 n.Loops.length c_1] 25)]) (D' := Dv_10) ?_ ?_
       ·rcases bcases (t_18 && ((!rv_50.1) || rv_51.1)) with hbv_53 | hbv_53
        ·skip
         replace h := cond_t ht_19 hbv_53
         refine guard_on hF rfl rfl hbv_53 ?_
         obtain ⟨rv_53, hx_55, h⟩ := bind_some h
         refine O.callP (us := []) ca_23 hF hS (remontoirlaw06_works_ok hS.stab hG rv_53 hx_55) rfl rfl fun a w hF hS => step hF (Y.pick_t hF rfl hbv_53 rfl) rfl fun a hF => ?_
         obtain rfl := some_inj h
         exact nil (then_n ⟨hF.weak ⟨rfl, rfl, trivial⟩, hS.weak ⟨rfl, rfl, rfl, rfl, trivial⟩⟩)
        replace h := cond_f ht_19 hbv_53
        refine guard_off hF rfl rfl hbv_53 rfl fun a hF => step hF (Y.pick_f hF rfl hbv_53 rfl) rfl fun a hF => ?_
        obtain rfl := some_inj h
        exact nil (then_n ⟨hF.weak ⟨rfl, rfl, trivial⟩, hS.weak ⟨rfl, rfl, rfl, rfl, trivial⟩⟩)
       intro a w hF hS
       refine step hF (Y.assign hF rfl) rfl fun a hF => nil (then_n (ret_ ?_))
       obtain rfl := some_inj h
       exact leaveP Tryd.results10 hF hS (.cons (.tmp rfl) .nil) .nil rfl
end Go.Proofs.YthdbokigcfbgeaaDoor.Rt
