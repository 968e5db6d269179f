/- Walks of the functions of this seat: what each Go function comes to, as a Lean function, and the proof. A law. Under no conditions. -/
import Derived.Test.YthdbokigcfbgeaaDoorC13WBZ
set_option linter.unusedVariables false
set_option linter.unusedSimpArgs false
set_option maxRecDepth 100000
set_option maxHeartbeats 4000000
namespace Go.Proofs.YthdbokigcfbgeaaDoor.Rt
open Go Go.RowKit
noncomputable def remontoirlaw06_LineTurned_k2 (i : Int) (l : (List LineLine)) (e : LineLine) (z : Int) (z_1 : Int) : Option ((Int × (List LineLine)) ⊕ Bool) :=
  if l.length + ([(LineLine.mk z z_1 e.Delay)]).length ≤ lim then
  nxt (wr (i + 1), (l ++ [(LineLine.mk z z_1 e.Delay)]))
  else none
noncomputable def remontoirlaw06_LineTurned_b3 (n : LineNet) (k : Arr3) (rv_2 : Int) (l : (List LineLine)) : (Int × (List LineLoop)) → Option ((Int × (List LineLoop)) ⊕ Bool)
 | (i_1, l_1) =>
  cond (decide (i_1 < (n.Loops.length : Int)))
  ((idx n.Loops i_1).bind fun e_1 =>
  (remontoirlaw06_turned n e_1.Exchange rv_2).bind fun rv_6 =>
  if l_1.length + ([(LineLoop.mk rv_6 e_1.Read)]).length ≤ lim then
  nxt (wr (i_1 + 1), (l_1 ++ [(LineLoop.mk rv_6 e_1.Read)]))
  else none)
  (ext ((r0Rest k.a2 n.Exchanges).bind fun rv_7 =>
  (line_Routes n rv_7).bind fun rv_8 =>
  (remontoirlaw06_turned n rv_7 rv_2).bind fun rv_9 =>
  (line_Routes (LineNet.mk n.Exchanges l n.Hops l_1) rv_9).bind fun rv_10 =>
  (line_Delay n rv_7).bind fun rv_11 =>
  (remontoirlaw06_turned n rv_7 rv_2).bind fun rv_12 =>
  (line_Delay (LineNet.mk n.Exchanges l n.Hops l_1) rv_12).bind fun rv_13 =>
  (line_Wrong n).bind fun rv_14 =>
  (line_Wrong (LineNet.mk n.Exchanges l n.Hops l_1)).bind fun rv_15 =>
  (cond (((((rv_8.2 == rv_10.2) && (rv_11.2 == rv_8.2)) && (rv_13.2 == rv_8.2)) && (rv_14.2 == 0)) && (rv_15.2 == rv_14.2)) ((r0AlikeRows rv_8.1 rv_10.1).bind fun rv_16 =>
  some rv_16) (some false)).bind fun t =>
  (cond (t && ([rv_11.1.Low, rv_11.1.High] == [rv_13.1.Low, rv_13.1.High])) ((r0Alike rv_14.1 rv_15.1).bind fun rv_17 =>
  some rv_17) (some false)).bind fun t_1 =>
  (cond t_1 ((remontoirlaw06_works).bind fun rv_18 =>
  some rv_18) (some false)).bind fun t_2 =>
  some t_2))
noncomputable def remontoirlaw06_LineTurned_b1 (n : LineNet) (k : Arr3) (rv_2 : Int) : (Int × (List LineLine)) → Option ((Int × (List LineLine)) ⊕ Bool)
 | (i, l) =>
  cond (decide (i < (n.Lines.length : Int)))
  ((idx n.Lines i).bind fun e =>
  (remontoirlaw06_turned n e.From rv_2).bind fun rv_3 =>
  (remontoirlaw06_turned n e.To rv_2).bind fun rv_4 =>
  (r0Rest k.a0 (n.Lines.length : Int)).bind fun rv_5 =>
  cond (i == rv_5)
  (remontoirlaw06_LineTurned_k2 i l e rv_4 rv_3)
  (remontoirlaw06_LineTurned_k2 i l e rv_3 rv_4))
  (ext (loopU (remontoirlaw06_LineTurned_b3 n k rv_2 l) (0, ([] : List LineLoop))))
noncomputable def remontoirlaw06_LineTurned (n : LineNet) (k : Arr3) : Option Bool :=
  (remontoirlaw06_sound n).bind fun rv =>
  cond (!rv)
  ((remontoirlaw06_works).bind fun rv_1 =>
  some rv_1)
  ((r0Rest k.a1 (if wr (n.Exchanges - 1) > 1 then wr (n.Exchanges - 1) else 1)).bind fun rv_2 =>
  loopU (remontoirlaw06_LineTurned_b1 n k rv_2) (0, ([] : List LineLine)))
theorem remontoirlaw06_LineTurned_ok {w0 : World} {D0 : Stab} (hD : D0.on w0) (n : LineNet) (k : Arr3) {p : Option Addr} {c : Nat} {p_1 : Option Addr} {c_1 : Nat} (hs : SRc C_LineLine D0 n.Lines p c) (hs_1 : SRc C_LineLoop D0 n.Loops p_1 c_1) (hG : Glob D0) (out : Bool) (h : remontoirlaw06_LineTurned n k = some out) : Calls Tryd.prog 13 [.agg #[.int .i64 n.Exchanges, .slice p n.Lines.length c, .int .i64 n.Hops, .slice p_1 n.Loops.length c_1], .agg #[.int .i64 k.a0, .int .i64 k.a1, .int .i64 k.a2]].toArray w0 (RetP D0 w0 (.bool out)) := by
 refine enter _ 193 Tryd.func13 rfl Tryd.ntmps13 rfl fun a hF => ?_
 replace hF : Frm 193 [] [(0, .agg #[.int .i64 n.Exchanges, .slice p n.Lines.length c, .int .i64 n.Hops, .slice p_1 n.Loops.length c_1]), (1, .agg #[.int .i64 k.a0, .int .i64 k.a1, .int .i64 k.a2])] a := hF
 have hS := St.start hD
 unfold remontoirlaw06_LineTurned at h
 refine seq (region (O.box (cs := [.int .i64 n.Exchanges, .slice p n.Lines.length c, .int .i64 n.Hops, .slice p_1 n.Loops.length c_1]) 1 hF rfl rfl hS rfl fun b a w hF hS => O.box (cs := [.int .i64 k.a0, .int .i64 k.a1, .int .i64 k.a2]) 2 hF rfl rfl hS rfl fun b_1 a w hF hS => step hF (Y.assign hF rfl) rfl fun a hF => nil (then_n (seq (seq (region (step hF (Y.loadNL 1 sz_25 hF rfl hS rfl rfl rfl) rfl fun a hF => ?_)))))))
 obtain ⟨rv, hx, h⟩ := bind_some h
 refine O.callP (us := [.agg #[.int .i64 n.Exchanges, .slice p n.Lines.length c, .int .i64 n.Hops, .slice p_1 n.Loops.length c_1]]) ca_34 hF hS (remontoirlaw06_sound_ok hS.stab n hs hs_1 rv hx) rfl rfl fun a w hF hS => step hF (Y.not hF rfl) rfl fun a hF => nil (then_n (cond_b hF rfl (fun hbv => ?_) (fun hbv => ?_)))
 ·replace h := cond_t h hbv
  refine seq (region ?_)
  obtain ⟨rv_1, hx_1, h⟩ := bind_some h
  refine O.callP (us := []) ca_23 hF hS (remontoirlaw06_works_ok hS.stab hG rv_1 hx_1) rfl rfl fun a w hF hS => step hF (Y.assign hF rfl) rfl fun a hF => nil (then_n (ret_ (then_r ?_)))
  obtain rfl := some_inj h
  exact leaveP Tryd.results13 hF hS (.cons (.tmp rfl) .nil) .nil rfl
 replace h := cond_f h hbv
 refine skip_ (then_n (seq (region (step hF (Y.loadNL 1 sz_25 hF rfl hS rfl rfl rfl) rfl fun a hF => O.alloc 3 zc_25 hF hS rfl fun b_2 a w hF hS => ?_))))
 replace hS := hS.ownNil 4 68 4
 replace hS := hS.ownNil 5 71 3
 refine O.store (us := [.int .i64 n.Exchanges, .slice p n.Lines.length c, .int .i64 n.Hops, .slice p_1 n.Loops.length c_1]) 3 sz_25 hF rfl rfl rfl rfl hS rfl rfl fun a w hF hS => nil (then_n (seq (region (step hF (Y.fieldAddr fo_25_1 hF rfl) rfl fun a hF => O.store (us := [.slice none 0 0]) 3 sz_22 hF rfl rfl rfl rfl hS rfl rfl fun a w hF hS => ?_))))
 replace hS := hS.ownNil 6 68 4
 refine step hF (Y.fieldAddr fo_25_3 hF rfl) rfl fun a hF => O.store (us := [.slice none 0 0]) 3 sz_23 hF rfl rfl rfl rfl hS rfl rfl fun a w hF hS => ?_
 replace hS := hS.ownNil 7 71 3
 refine nil (then_n (seq (region (step hF (Y.indexArr u_61 sz_3 hF rfl rfl (by decide) (by decide)) rfl fun a hF => step hF (Y.load1L 2 sz_3 hF rfl hS rfl rfl) rfl fun a hF => step hF (Y.fieldAddr fo_25_0 hF rfl) rfl fun a hF => step hF (Y.load1L 1 sz_3 hF rfl hS rfl rfl) rfl fun a hF => step hF (Y.sub hF rfl rfl) rfl fun a hF => step hF (Y.max2 hF rfl rfl) rfl fun a hF => ?_))))
 obtain ⟨rv_2, hx_2, h⟩ := bind_some h
 refine O.callP (us := [.int .i64 k.a1, .int .i64 (if wr (n.Exchanges - 1) > 1 then wr (n.Exchanges - 1) else 1)]) ca_41 hF hS (r0Rest_ok hS.stab k.a1 (if wr (n.Exchanges - 1) > 1 then wr (n.Exchanges - 1) else 1) rv_2 hx_2) rfl rfl fun a w hF hS => step hF (Y.assign hF rfl) rfl fun a hF => nil (then_n (seq (seq (region (step hF (Y.assign hF rfl) rfl fun a hF => nil (then_n (block (loop_cut (body := remontoirlaw06_LineTurned_b1 n k rv_2) (out := out) (fun s a w => ∃ (i : Int) (l : (List LineLine)), ∃ (Dv : Stab), ∃ p_2 c_2 cs, s = (i, l) ∧ D0.le Dv ∧ Frm 193 [] [(2, .pointer (some ⟨b, 0, none⟩)), (3, .pointer (some ⟨b_1, 0, none⟩)), (4, .bool false), (5, .pointer (some ⟨b_2, 0, none⟩)), (6, .int .i64 rv_2), (7, .int .i64 i)] a ∧ St w0 D0 Dv [(1, .cells b [.int .i64 n.Exchanges, .slice p n.Lines.length c, .int .i64 n.Hops, .slice p_1 n.Loops.length c_1] 25), (2, .cells b_1 [.int .i64 k.a0, .int .i64 k.a1, .int .i64 k.a2] 61), (3, .cells b_2 [.int .i64 n.Exchanges, .slice p_2 l.length c_2, .int .i64 n.Hops, .slice none ([] : List LineLoop).length 0] 25), (4, .own none ([] : List LineLine).length 0 ([]) 68 4), (5, .own none ([] : List LineLoop).length 0 ([]) 71 3), (6, .own p_2 l.length c_2 cs 68 4), (7, .own none ([] : List LineLoop).length 0 ([]) 71 3)] w ∧ Reps C_LineLine Dv l cs) (0, ([] : List LineLine)) h ⟨0, ([] : List LineLine), D0, none, 0, ([]), rfl, Stab.le.refl _, hF.weak ⟨rfl, rfl, rfl, rfl, rfl, rfl, trivial⟩, hS.weak ⟨rfl, rfl, rfl, rfl, rfl, rfl, rfl, trivial⟩, Reps.nil⟩ ?_))))))))
 rintro s a w xo ⟨i, l, Dv, p_2, c_2, cs, rfl, hlev, hF, hS, hr⟩ h hxo
 unfold remontoirlaw06_LineTurned_b1 at h
 dsimp only at h
 replace hs := hs.mono hlev
 replace hs_1 := hs_1.mono hlev
 replace hG := hG.mono hlev
 refine seq (seq (region (step hF (Y.move hF rfl) rfl fun a hF => step hF (Y.fieldAddr fo_25_1 hF rfl) rfl fun a hF => step hF (Y.load1L 1 sz_22 hF rfl hS rfl rfl) rfl fun a hF => step hF (Y.lenSl u_22 hF rfl) rfl fun a hF => step hF (Y.lss hF rfl rfl) rfl fun a hF => nil (then_n (cond_b hF rfl (fun hbv_1 => ?_) (fun hbv_1 => ?_))))))
 ·replace h := cond_t h hbv_1
  refine skip_ (then_n (seq (block (seq (region (step hF (Y.fieldAddr fo_25_1 hF rfl) rfl fun a hF => step hF (Y.load1L 1 sz_22 hF rfl hS rfl rfl) rfl fun a hF => step hF (Y.move hF rfl) rfl fun a hF => ?_))))))
  obtain ⟨e, hx_3, h⟩ := bind_some h
  obtain ⟨b_3, o, hE, hY⟩ := Y.indexS (P := Tryd.prog) (C := C_LineLine) (xs := n.Lines) (T := 22) (x := (.tmp 47)) (y := (.tmp 48)) u_22 sz_68 hF rfl rfl (hs).1 hx_3
  obtain ⟨cc, hc, hcell⟩ := hE.open
  obtain rfl := C_LineLine.open hc
  refine step hF (hY) rfl fun a hF => step hF (Y.loadNE (o := o) (k := 0) sz_68 hF rfl (hcell _ hS.stab) rfl rfl) rfl fun a hF => O.alloc 8 zc_68 hF hS rfl fun b_4 a w hF hS => O.store (us := [.int .i64 e.From, .int .i64 e.To, .int .i64 e.Delay.Low, .int .i64 e.Delay.High]) 8 sz_68 hF rfl rfl rfl rfl hS rfl rfl fun a w hF hS => nil (then_n (seq ?_))
  obtain ⟨rv_3, hx_4, h⟩ := bind_some h
  obtain ⟨rv_4, hx_5, h⟩ := bind_some h
  refine drawsV 11 (.flt 0 (.flt 1 (.flt 2 (.flt 3 (.flt 5 (.flt 6 (.flt 7 (.flt 8 (.alt 4 (.flt 10 (.alt 9 .done .stop)) .stop))))))))) mixed_ (by kernel_rfl) (fun w => St w0 D0 Dv [(1, .cells b [.int .i64 n.Exchanges, .slice p n.Lines.length c, .int .i64 n.Hops, .slice p_1 n.Loops.length c_1] 25), (2, .cells b_1 [.int .i64 k.a0, .int .i64 k.a1, .int .i64 k.a2] 61), (3, .cells b_2 [.int .i64 n.Exchanges, .slice p_2 l.length c_2, .int .i64 n.Hops, .slice none ([] : List LineLoop).length 0] 25), (4, .own none ([] : List LineLine).length 0 ([]) 68 4), (5, .own none ([] : List LineLoop).length 0 ([]) 71 3), (6, .own p_2 l.length c_2 cs 68 4), (7, .own none ([] : List LineLoop).length 0 ([]) 71 3), (8, .cells b_4 [.int .i64 e.From, .int .i64 e.To, .int .i64 e.Delay.Low, .int .i64 e.Delay.High] 68)] w) (fun a w => Frm 193 [] [(2, .pointer (some ⟨b, 0, none⟩)), (3, .pointer (some ⟨b_1, 0, none⟩)), (4, .bool false), (5, .pointer (some ⟨b_2, 0, none⟩)), (6, .int .i64 rv_2), (7, .int .i64 i), (8, .pointer (some ⟨b_4, 0, none⟩)), (55, .int .i64 rv_3), (60, .int .i64 rv_4), (61, .pointer (some ⟨b_4, 0 + 0, none⟩))] a ∧ St w0 D0 Dv [(1, .cells b [.int .i64 n.Exchanges, .slice p n.Lines.length c, .int .i64 n.Hops, .slice p_1 n.Loops.length c_1] 25), (2, .cells b_1 [.int .i64 k.a0, .int .i64 k.a1, .int .i64 k.a2] 61), (3, .cells b_2 [.int .i64 n.Exchanges, .slice p_2 l.length c_2, .int .i64 n.Hops, .slice none ([] : List LineLoop).length 0] 25), (4, .own none ([] : List LineLine).length 0 ([]) 68 4), (5, .own none ([] : List LineLoop).length 0 ([]) 71 3), (6, .own p_2 l.length c_2 cs 68 4), (7, .own none ([] : List LineLoop).length 0 ([]) 71 3), (8, .cells b_4 [.int .i64 e.From, .int .i64 e.To, .int .i64 e.Delay.Low, .int .i64 e.Delay.High] 68)] w) (hS.weak (ms := [(1, .cells b [.int .i64 n.Exchanges, .slice p n.Lines.length c, .int .i64 n.Hops, .slice p_1 n.Loops.length c_1] 25), (2, .cells b_1 [.int .i64 k.a0, .int .i64 k.a1, .int .i64 k.a2] 61), (3, .cells b_2 [.int .i64 n.Exchanges, .slice p_2 l.length c_2, .int .i64 n.Hops, .slice none ([] : List LineLoop).length 0] 25), (4, .own none ([] : List LineLine).length 0 ([]) 68 4), (5, .own none ([] : List LineLoop).length 0 ([]) 71 3), (6, .own p_2 l.length c_2 cs 68 4), (7, .own none ([] : List LineLoop).length 0 ([]) 71 3), (8, .cells b_4 [.int .i64 e.From, .int .i64 e.To, .int .i64 e.Delay.Low, .int .i64 e.Delay.High] 68)]) ⟨rfl, rfl, rfl, rfl, rfl, rfl, rfl, rfl, trivial⟩).drew (fun _ _ _ _ h => h) ?_ ?_
  ·replace hS := hS.drew
   have hle0 := hS.le
   refine stepV (i := 0) rfl hF (fun w hS => Y.loadNL 1 sz_25 hF rfl hS rfl rfl rfl) rfl fun a hF => stepV (i := 1) rfl hF (fun w hS => Y.fieldAddr fo_68_0 hF rfl) rfl fun a hF => stepV (i := 2) rfl hF (fun w hS => Y.load1L 8 sz_3 hF rfl hS rfl rfl) rfl fun a hF => stepV (i := 3) rfl hF (fun w hS => Y.move hF rfl) rfl fun a hF => stepV (i := 5) rfl hF (fun w hS => Y.loadNL 1 sz_25 hF rfl hS rfl rfl rfl) rfl fun a hF => stepV (i := 6) rfl hF (fun w hS => Y.fieldAddr fo_68_1 hF rfl) rfl fun a hF => stepV (i := 7) rfl hF (fun w hS => Y.load1L 8 sz_3 hF rfl hS rfl rfl) rfl fun a hF => stepV (i := 8) rfl hF (fun w hS => Y.move hF rfl) rfl fun a hF => oneV (i := 4) rfl ?_ trivial
   refine O.callP (us := [.agg #[.int .i64 n.Exchanges, .slice p n.Lines.length c, .int .i64 n.Hops, .slice p_1 n.Loops.length c_1], .int .i64 e.From, .int .i64 rv_2]) ca_55 hF hS (remontoirlaw06_turned_ok hS.stab n e.From rv_2 hs hs_1 rv_3 hx_4) rfl rfl fun a w hF hS => nil (then_n ⟨hS.weak ⟨rfl, rfl, rfl, rfl, rfl, rfl, rfl, rfl, trivial⟩, ?_⟩)
   refine stepV (i := 10) rfl hF (fun w hS => Y.fieldAddr fo_68_0 hF rfl) rfl fun a hF => oneV (i := 9) rfl ?_ trivial
   refine O.callP (us := [.agg #[.int .i64 n.Exchanges, .slice p n.Lines.length c, .int .i64 n.Hops, .slice p_1 n.Loops.length c_1], .int .i64 e.To, .int .i64 rv_2]) ca_55 hF hS (remontoirlaw06_turned_ok hS.stab n e.To rv_2 hs hs_1 rv_4 hx_5) rfl rfl fun a w hF hS => nil (then_n ⟨hS.weak ⟨rfl, rfl, rfl, rfl, rfl, rfl, rfl, rfl, trivial⟩, ?_⟩)
   exact toTailV ⟨hF.weak ⟨rfl, rfl, rfl, rfl, rfl, rfl, rfl, rfl, rfl, rfl, trivial⟩, hS.weak ⟨rfl, rfl, rfl, rfl, rfl, rfl, rfl, rfl, trivial⟩⟩
  rintro a w ⟨hF, hS⟩
  refine O.store (us := [.int .i64 rv_3]) 8 sz_3 hF rfl rfl rfl rfl hS rfl rfl fun a w hF hS => step hF (Y.fieldAddr fo_68_1 hF rfl) rfl fun a hF => O.store (us := [.int .i64 rv_4]) 8 sz_3 hF rfl rfl rfl rfl hS rfl rfl fun a w hF hS => nil (then_n (seq_cut (fun a w => ∃ (z : Int) (z_1 : Int), Frm 193 [] [(2, .pointer (some ⟨b, 0, none⟩)), (3, .pointer (some ⟨b_1, 0, none⟩)), (4, .bool false), (5, .pointer (some ⟨b_2, 0, none⟩)), (6, .int .i64 rv_2), (7, .int .i64 i), (8, .pointer (some ⟨b_4, 0, none⟩))] a ∧ St w0 D0 Dv [(1, .cells b [.int .i64 n.Exchanges, .slice p n.Lines.length c, .int .i64 n.Hops, .slice p_1 n.Loops.length c_1] 25), (2, .cells b_1 [.int .i64 k.a0, .int .i64 k.a1, .int .i64 k.a2] 61), (3, .cells b_2 [.int .i64 n.Exchanges, .slice p_2 l.length c_2, .int .i64 n.Hops, .slice none ([] : List LineLoop).length 0] 25), (4, .own none ([] : List LineLine).length 0 ([]) 68 4), (5, .own none ([] : List LineLoop).length 0 ([]) 71 3), (6, .own p_2 l.length c_2 cs 68 4), (7, .own none ([] : List LineLoop).length 0 ([]) 71 3), (8, .cells b_4 [.int .i64 z, .int .i64 z_1, .int .i64 e.Delay.Low, .int .i64 e.Delay.High] 68)] w ∧ remontoirlaw06_LineTurned_k2 i l e z z_1 = some xo) ?_ ?_))
  ·skip
   refine seq (region (step hF (Y.move hF rfl) rfl fun a hF => step hF (Y.indexArr u_61 sz_3 hF rfl rfl (by decide) (by decide)) rfl fun a hF => step hF (Y.load1L 2 sz_3 hF rfl hS rfl rfl) rfl fun a hF => step hF (Y.fieldAddr fo_25_1 hF rfl) rfl fun a hF => step hF (Y.load1L 1 sz_22 hF rfl hS rfl rfl) rfl fun a hF => step hF (Y.lenSl u_22 hF rfl) rfl fun a hF => ?_))
   obtain ⟨rv_5, hx_6, h⟩ := bind_some h
   refine O.callP (us := [.int .i64 k.a0, .int .i64 (n.Lines.length : Int)]) ca_41 hF hS (r0Rest_ok hS.stab k.a0 (n.Lines.length : Int) rv_5 hx_6) rfl rfl fun a w hF hS => step hF (Y.eql hF rfl rfl) rfl fun a hF => nil (then_n (cond_b hF rfl (fun hbv_2 => ?_) (fun hbv_2 => ?_)))
   ·replace h := cond_t h hbv_2
    refine seq (region (step hF (Y.fieldAddr fo_68_0 hF rfl) rfl fun a hF => step hF (Y.load1L 8 sz_3 hF rfl hS rfl rfl) rfl fun a hF => step hF (Y.assign hF rfl) rfl fun a hF => nil (then_n (seq (region (step hF (Y.fieldAddr fo_68_1 hF rfl) rfl fun a hF => step hF (Y.load1L 8 sz_3 hF rfl hS rfl rfl) rfl fun a hF => step hF (Y.fieldAddr fo_68_0 hF rfl) rfl fun a hF => O.store (us := [.int .i64 rv_4]) 8 sz_3 hF rfl rfl rfl rfl hS rfl rfl fun a w hF hS => nil (then_n (region (step hF (Y.move hF rfl) rfl fun a hF => step hF (Y.fieldAddr fo_68_1 hF rfl) rfl fun a hF => O.store (us := [.int .i64 rv_3]) 8 sz_3 hF rfl rfl rfl rfl hS rfl rfl fun a w hF hS => nil (then_n (⟨rv_4, rv_3, hF.weak ⟨rfl, rfl, rfl, rfl, rfl, rfl, rfl, trivial⟩, hS.weak ⟨rfl, rfl, rfl, rfl, rfl, rfl, rfl, rfl, trivial⟩, h⟩)))))))))))
   replace h := cond_f h hbv_2
   refine skip_ (then_n (⟨rv_3, rv_4, hF.weak ⟨rfl, rfl, rfl, rfl, rfl, rfl, rfl, trivial⟩, hS.weak ⟨rfl, rfl, rfl, rfl, rfl, rfl, rfl, rfl, trivial⟩, h⟩))
  rintro a w ⟨z, z_1, hF, hS, h⟩
  unfold remontoirlaw06_LineTurned_k2 at h
  refine region (step hF (Y.fieldAddr fo_25_1 hF rfl) rfl fun a hF => step hF (Y.load1L 3 sz_22 hF rfl hS rfl rfl) rfl fun a hF => step hF (Y.loadNL 8 sz_68 hF rfl hS rfl rfl rfl) rfl fun a hF => ?_)
  have hr_1 : Reps C_LineLine Dv [(LineLine.mk z z_1 e.Delay)] [.int .i64 z, .int .i64 z_1, .int .i64 e.Delay.Low, .int .i64 e.Delay.High] := Reps.cons (C := C_LineLine) (x := (LineLine.mk z z_1 e.Delay)) (c := [.int .i64 z, .int .i64 z_1, .int .i64 e.Delay.Low, .int .i64 e.Delay.High]) (r := []) rfl (Reps.nil)
  refine O.buildSlice (E := 68) (C := C_LineLine) (xs := [(LineLine.mk z z_1 e.Delay)]) (cs := [.int .i64 z, .int .i64 z_1, .int .i64 e.Delay.Low, .int .i64 e.Delay.High]) (us := [.agg #[.int .i64 z, .int .i64 z_1, .int .i64 e.Delay.Low, .int .i64 e.Delay.High]]) (parts := [(0, (.tmp 80))]) 9 hF hS rfl (by kernel_rfl) hr_1 rfl rfl rfl fun p_3 c_3 a w hF hS => ?_
  obtain ⟨hg, h⟩ := ite_some h
  refine O.append (C := C_LineLine) (xs := l) (ys := [(LineLine.mk z z_1 e.Delay)]) 6 gr_22 hF rfl rfl hS rfl (src_own (i := 9) hS rfl) hr hr_1 hg rfl fun p_4 c_4 a w hF hS hr_2 => step hF (Y.fieldAddr fo_25_1 hF rfl) rfl fun a hF => O.store (us := [.slice p_4 (l ++ [(LineLine.mk z z_1 e.Delay)]).length c_4]) 3 sz_22 hF rfl rfl rfl rfl hS rfl rfl fun a w hF hS => nil (blk_n (then_n (region (step hF (Y.move hF rfl) rfl fun a hF => step hF (Y.add hF rfl rfl) rfl fun a hF => step hF (Y.assign hF rfl) rfl fun a hF => nil (then_n (⟨_, nxt_some h, (wr (i + 1)), (l ++ [(LineLine.mk z z_1 e.Delay)]), Dv, p_4, c_4, (cs ++ [.int .i64 z, .int .i64 z_1, .int .i64 e.Delay.Low, .int .i64 e.Delay.High]), rfl, hlev, hF.weak ⟨rfl, rfl, rfl, rfl, rfl, rfl, trivial⟩, hS.weak ⟨rfl, rfl, rfl, rfl, rfl, rfl, rfl, trivial⟩, hr_2⟩))))))
 replace h := cond_f h hbv_1
 refine exit_ (then_x (then_x (blk_hit (then_n ?_))))
 replace h := ext_some h hxo
 refine seq (seq (region (step hF (Y.assign hF rfl) rfl fun a hF => nil (then_n (block (loop_cut (body := remontoirlaw06_LineTurned_b3 n k rv_2 l) (out := out) (fun s a w => ∃ (i_1 : Int) (l_1 : (List LineLoop)), ∃ (Dv_1 : Stab), ∃ p_5 c_5 cs_1, s = (i_1, l_1) ∧ Dv.le Dv_1 ∧ Frm 193 [] [(2, .pointer (some ⟨b, 0, none⟩)), (3, .pointer (some ⟨b_1, 0, none⟩)), (4, .bool false), (5, .pointer (some ⟨b_2, 0, none⟩)), (6, .int .i64 rv_2), (10, .int .i64 i_1)] a ∧ St w0 D0 Dv_1 [(1, .cells b [.int .i64 n.Exchanges, .slice p n.Lines.length c, .int .i64 n.Hops, .slice p_1 n.Loops.length c_1] 25), (2, .cells b_1 [.int .i64 k.a0, .int .i64 k.a1, .int .i64 k.a2] 61), (3, .cells b_2 [.int .i64 n.Exchanges, .slice p_2 l.length c_2, .int .i64 n.Hops, .slice p_5 l_1.length c_5] 25), (4, .own none ([] : List LineLine).length 0 ([]) 68 4), (5, .own none ([] : List LineLoop).length 0 ([]) 71 3), (6, .own p_2 l.length c_2 cs 68 4), (7, .own p_5 l_1.length c_5 cs_1 71 3)] w ∧ Reps C_LineLoop Dv_1 l_1 cs_1) (0, ([] : List LineLoop)) h ⟨0, ([] : List LineLoop), Dv, none, 0, ([]), rfl, Stab.le.refl _, hF.weak ⟨rfl, rfl, rfl, rfl, rfl, rfl, trivial⟩, hS.weak ⟨rfl, rfl, rfl, rfl, rfl, rfl, rfl, trivial⟩, Reps.nil⟩ ?_))))))
 rintro s a w xo_1 ⟨i_1, l_1, Dv_1, p_5, c_5, cs_1, rfl, hlev_1, hF, hS, hr_3⟩ h hxo_1
 unfold remontoirlaw06_LineTurned_b3 at h
 dsimp only at h
 replace hs := hs.mono hlev_1
 replace hs_1 := hs_1.mono hlev_1
 replace hG := hG.mono hlev_1
 replace hr := hr.mono hlev_1
 refine seq (seq (region (step hF (Y.move hF rfl) rfl fun a hF => step hF (Y.fieldAddr fo_25_3 hF rfl) rfl fun a hF => step hF (Y.load1L 1 sz_23 hF rfl hS rfl rfl) rfl fun a hF => step hF (Y.lenSl u_23 hF rfl) rfl fun a hF => step hF (Y.lss hF rfl rfl) rfl fun a hF => nil (then_n (cond_b hF rfl (fun hbv_3 => ?_) (fun hbv_3 => ?_))))))
 ·replace h := cond_t h hbv_3
  refine skip_ (then_n (seq (block (seq (region (step hF (Y.fieldAddr fo_25_3 hF rfl) rfl fun a hF => step hF (Y.load1L 1 sz_23 hF rfl hS rfl rfl) rfl fun a hF => step hF (Y.move hF rfl) rfl fun a hF => ?_))))))
  obtain ⟨e_1, hx_7, h⟩ := bind_some h
  obtain ⟨b_5, o_1, hE_1, hY_1⟩ := Y.indexS (P := Tryd.prog) (C := C_LineLoop) (xs := n.Loops) (T := 23) (x := (.tmp 92)) (y := (.tmp 93)) u_23 sz_71 hF rfl rfl (hs_1).1 hx_7
  obtain ⟨cc_1, hc_1, hcell_1⟩ := hE_1.open
  obtain rfl := C_LineLoop.open hc_1
  refine step hF (hY_1) rfl fun a hF => step hF (Y.loadNE (o := o_1) (k := 0) sz_71 hF rfl (hcell_1 _ hS.stab) rfl rfl) rfl fun a hF => O.alloc 10 zc_71 hF hS rfl fun b_6 a w hF hS => O.store (us := [.int .i64 e_1.Exchange, .int .i64 e_1.Read.Low, .int .i64 e_1.Read.High]) 10 sz_71 hF rfl rfl rfl rfl hS rfl rfl fun a w hF hS => nil (then_n (seq (region (step hF (Y.loadNL 1 sz_25 hF rfl hS rfl rfl rfl) rfl fun a hF => step hF (Y.fieldAddr fo_71_0 hF rfl) rfl fun a hF => step hF (Y.load1L 10 sz_3 hF rfl hS rfl rfl) rfl fun a hF => step hF (Y.move hF rfl) rfl fun a hF => ?_))))
  obtain ⟨rv_6, hx_8, h⟩ := bind_some h
  refine O.callP (us := [.agg #[.int .i64 n.Exchanges, .slice p n.Lines.length c, .int .i64 n.Hops, .slice p_1 n.Loops.length c_1], .int .i64 e_1.Exchange, .int .i64 rv_2]) ca_55 hF hS (remontoirlaw06_turned_ok hS.stab n e_1.Exchange rv_2 hs hs_1 rv_6 hx_8) rfl rfl fun a w hF hS => step hF (Y.fieldAddr fo_71_0 hF rfl) rfl fun a hF => O.store (us := [.int .i64 rv_6]) 10 sz_3 hF rfl rfl rfl rfl hS rfl rfl fun a w hF hS => nil (then_n (region (step hF (Y.fieldAddr fo_25_3 hF rfl) rfl fun a hF => step hF (Y.load1L 3 sz_23 hF rfl hS rfl rfl) rfl fun a hF => step hF (Y.loadNL 10 sz_71 hF rfl hS rfl rfl rfl) rfl fun a hF => ?_)))
  have hr_4 : Reps C_LineLoop Dv_1 [(LineLoop.mk rv_6 e_1.Read)] [.int .i64 rv_6, .int .i64 e_1.Read.Low, .int .i64 e_1.Read.High] := Reps.cons (C := C_LineLoop) (x := (LineLoop.mk rv_6 e_1.Read)) (c := [.int .i64 rv_6, .int .i64 e_1.Read.Low, .int .i64 e_1.Read.High]) (r := []) rfl (Reps.nil)
  refine O.buildSlice (E := 71) (C := C_LineLoop) (xs := [(LineLoop.mk rv_6 e_1.Read)]) (cs := [.int .i64 rv_6, .int .i64 e_1.Read.Low, .int .i64 e_1.Read.High]) (us := [.agg #[.int .i64 rv_6, .int .i64 e_1.Read.Low, .int .i64 e_1.Read.High]]) (parts := [(0, (.tmp 104))]) 11 hF hS rfl (by kernel_rfl) hr_4 rfl rfl rfl fun p_6 c_6 a w hF hS => ?_
  obtain ⟨hg_1, h⟩ := ite_some h
  refine O.append (C := C_LineLoop) (xs := l_1) (ys := [(LineLoop.mk rv_6 e_1.Read)]) 7 gr_23 hF rfl rfl hS rfl (src_own (i := 11) hS rfl) hr_3 hr_4 hg_1 rfl fun p_7 c_7 a w hF hS hr_5 => step hF (Y.fieldAddr fo_25_3 hF rfl) rfl fun a hF => O.store (us := [.slice p_7 (l_1 ++ [(LineLoop.mk rv_6 e_1.Read)]).length c_7]) 3 sz_23 hF rfl rfl rfl rfl hS rfl rfl fun a w hF hS => nil (blk_n (then_n (region (step hF (Y.move hF rfl) rfl fun a hF => step hF (Y.add hF rfl rfl) rfl fun a hF => step hF (Y.assign hF rfl) rfl fun a hF => nil (then_n (⟨_, nxt_some h, (wr (i_1 + 1)), (l_1 ++ [(LineLoop.mk rv_6 e_1.Read)]), Dv_1, p_7, c_7, (cs_1 ++ [.int .i64 rv_6, .int .i64 e_1.Read.Low, .int .i64 e_1.Read.High]), rfl, hlev_1, hF.weak ⟨rfl, rfl, rfl, rfl, rfl, rfl, trivial⟩, hS.weak ⟨rfl, rfl, rfl, rfl, rfl, rfl, rfl, trivial⟩, hr_5⟩))))))
 replace h := cond_f h hbv_3
 refine exit_ (then_x (then_x (blk_hit (then_n ?_))))
 replace h := ext_some h hxo_1
 refine seq (region (step hF (Y.indexArr u_61 sz_3 hF rfl rfl (by decide) (by decide)) rfl fun a hF => step hF (Y.load1L 2 sz_3 hF rfl hS rfl rfl) rfl fun a hF => step hF (Y.fieldAddr fo_25_0 hF rfl) rfl fun a hF => step hF (Y.load1L 1 sz_3 hF rfl hS rfl rfl) rfl fun a hF => ?_))
 obtain ⟨rv_7, hx_9, h⟩ := bind_some h
 refine O.callP (us := [.int .i64 k.a2, .int .i64 n.Exchanges]) ca_41 hF hS (r0Rest_ok hS.stab k.a2 n.Exchanges rv_7 hx_9) rfl rfl fun a w hF hS => step hF (Y.assign hF rfl) rfl fun a hF => nil (then_n (seq (region (step hF (Y.loadNL 1 sz_25 hF rfl hS rfl rfl rfl) rfl fun a hF => step hF (Y.move hF rfl) rfl fun a hF => ?_))))
 obtain ⟨rv_8, hx_10, h⟩ := bind_some h
 refine O.callS (us := [.agg #[.int .i64 n.Exchanges, .slice p n.Lines.length c, .int .i64 n.Hops, .slice p_1 n.Loops.length c_1], .int .i64 rv_7]) ca_15 hF hS (line_Routes_ok hS.stab n rv_7 hs hs_1 hG rv_8 hx_10) rfl rfl fun v Dv_2 a w hR hlev_2 hF hS => ?_
 replace hs := hs.mono hlev_2
 replace hs_1 := hs_1.mono hlev_2
 replace hG := hG.mono hlev_2
 replace hr := hr.mono hlev_2
 replace hr_3 := hr_3.mono hlev_2
 obtain ⟨p_8, c_8, rfl, hs_2⟩ := hR
 refine step hF (Y.move hF rfl) rfl fun a hF => step hF (Y.extract hF rfl rfl) rfl fun a hF => step hF (Y.extract hF rfl rfl) rfl fun a hF => step hF (Y.assign hF rfl) rfl fun a hF => step hF (Y.assign hF rfl) rfl fun a hF => nil (then_n (seq ?_))
 obtain ⟨rv_9, hx_11, h⟩ := bind_some h
 obtain ⟨rv_10, hx_12, h⟩ := bind_some h
 refine drawsV 10 (.flt 0 (.flt 1 (.flt 2 (.flt 3 (.alt 4 (.alt 5 (.flt 6 (.flt 7 (.flt 8 (.flt 9 .done)))) .stop) .stop))))) mixed_ (by kernel_rfl) (fun w => St w0 D0 Dv_2 [(1, .cells b [.int .i64 n.Exchanges, .slice p n.Lines.length c, .int .i64 n.Hops, .slice p_1 n.Loops.length c_1] 25), (2, .cells b_1 [.int .i64 k.a0, .int .i64 k.a1, .int .i64 k.a2] 61), (3, .cells b_2 [.int .i64 n.Exchanges, .slice p_2 l.length c_2, .int .i64 n.Hops, .slice p_5 l_1.length c_5] 25), (4, .own none ([] : List LineLine).length 0 ([]) 68 4), (5, .own none ([] : List LineLoop).length 0 ([]) 71 3)] w) (fun a w => ∃ (Dv_6 : Stab) (p_9 : Option Addr) (c_9 : Nat), Dv_2.le Dv_6 ∧ Frm 193 [] [(2, .pointer (some ⟨b, 0, none⟩)), (4, .bool false), (5, .pointer (some ⟨b_2, 0, none⟩)), (6, .int .i64 rv_2), (12, .int .i64 rv_7), (13, .slice p_8 rv_8.1.length c_8), (14, .int .i64 rv_8.2), (15, .slice p_9 rv_10.1.length c_9), (127, .int .i64 rv_10.2)] a ∧ St w0 D0 Dv_6 [(1, .cells b [.int .i64 n.Exchanges, .slice p n.Lines.length c, .int .i64 n.Hops, .slice p_1 n.Loops.length c_1] 25), (2, .cells b_1 [.int .i64 k.a0, .int .i64 k.a1, .int .i64 k.a2] 61), (3, .cells b_2 [.int .i64 n.Exchanges, .slice p_2 l.length c_2, .int .i64 n.Hops, .slice p_5 l_1.length c_5] 25), (4, .own none ([] : List LineLine).length 0 ([]) 68 4), (5, .own none ([] : List LineLoop).length 0 ([]) 71 3)] w ∧ SRc (C_sl C_int) Dv_6 rv_10.1 p_9 c_9 ∧ SRc C_LineLine Dv_6 l p_2 c_2 ∧ SRc C_LineLoop Dv_6 l_1 p_5 c_5) (hS.weak (ms := [(1, .cells b [.int .i64 n.Exchanges, .slice p n.Lines.length c, .int .i64 n.Hops, .slice p_1 n.Loops.length c_1] 25), (2, .cells b_1 [.int .i64 k.a0, .int .i64 k.a1, .int .i64 k.a2] 61), (3, .cells b_2 [.int .i64 n.Exchanges, .slice p_2 l.length c_2, .int .i64 n.Hops, .slice p_5 l_1.length c_5] 25), (4, .own none ([] : List LineLine).length 0 ([]) 68 4), (5, .own none ([] : List LineLoop).length 0 ([]) 71 3)]) ⟨rfl, rfl, rfl, rfl, rfl, trivial⟩).drew (fun _ _ _ _ h => h) ?_ ?_
 ·replace hS := hS.drew
  have hle0 := hS.le
  refine stepV (i := 0) rfl hF (fun w hS => Y.loadNL 3 sz_25 hF rfl hS rfl rfl rfl) rfl fun a hF => stepV (i := 1) rfl hF (fun w hS => Y.loadNL 1 sz_25 hF rfl hS rfl rfl rfl) rfl fun a hF => stepV (i := 2) rfl hF (fun w hS => Y.move hF rfl) rfl fun a hF => stepV (i := 3) rfl hF (fun w hS => Y.move hF rfl) rfl fun a hF => oneV (i := 4) rfl ?_ trivial
  refine O.callP (us := [.agg #[.int .i64 n.Exchanges, .slice p n.Lines.length c, .int .i64 n.Hops, .slice p_1 n.Loops.length c_1], .int .i64 rv_7, .int .i64 rv_2]) ca_55 hF hS (remontoirlaw06_turned_ok hS.stab n rv_7 rv_2 hs hs_1 rv_9 hx_11) rfl rfl fun a w hF hS => nil (then_n ⟨hS.weak ⟨rfl, rfl, rfl, rfl, rfl, trivial⟩, ?_⟩)
  refine oneV (i := 5) rfl ?_ trivial
  obtain ⟨Dv_7, hlev_6, hs_6, hS⟩ := hS.freezeC (C := C_LineLine) (i := 6) (xs := l) rfl hr
  replace hG := hG.mono hlev_6
  replace hr_3 := hr_3.mono hlev_6
  obtain ⟨Dv_8, hlev_7, hs_7, hS⟩ := hS.freezeC (C := C_LineLoop) (i := 7) (xs := l_1) rfl hr_3
  replace hG := hG.mono hlev_7
  replace hs_6 := hs_6.mono hlev_7
  refine O.callS (us := [.agg #[.int .i64 n.Exchanges, .slice p_2 l.length c_2, .int .i64 n.Hops, .slice p_5 l_1.length c_5], .int .i64 rv_9]) ca_15 hF hS (line_Routes_ok hS.stab (LineNet.mk n.Exchanges l n.Hops l_1) rv_9 hs_6 hs_7 hG rv_10 hx_12) rfl rfl fun v_2 Dv_9 a w hR_2 hlev_8 hF hS => ?_
  replace hs_6 := hs_6.mono hlev_8
  replace hs_7 := hs_7.mono hlev_8
  obtain ⟨p_10, c_10, rfl, hs_8⟩ := hR_2
  refine nil (then_n ⟨(hS.weak (ms := [(1, .cells b [.int .i64 n.Exchanges, .slice p n.Lines.length c, .int .i64 n.Hops, .slice p_1 n.Loops.length c_1] 25), (2, .cells b_1 [.int .i64 k.a0, .int .i64 k.a1, .int .i64 k.a2] 61), (3, .cells b_2 [.int .i64 n.Exchanges, .slice p_2 l.length c_2, .int .i64 n.Hops, .slice p_5 l_1.length c_5] 25), (4, .own none ([] : List LineLine).length 0 ([]) 68 4), (5, .own none ([] : List LineLoop).length 0 ([]) 71 3)]) ⟨rfl, rfl, rfl, rfl, rfl, trivial⟩).weakD (hlev_6.trans (hlev_7.trans hlev_8)) hle0, ?_⟩)
  refine stepV (i := 6) rfl hF (fun w hS => Y.move hF rfl) rfl fun a hF => stepV (i := 7) rfl hF (fun w hS => Y.extract hF rfl rfl) rfl fun a hF => stepV (i := 8) rfl hF (fun w hS => Y.extract hF rfl rfl) rfl fun a hF => stepV (i := 9) rfl hF (fun w hS => Y.assign hF rfl) rfl fun a hF => toTailV ⟨Dv_9, p_10, c_10, hlev_6.trans (hlev_7.trans hlev_8), hF.weak ⟨rfl, rfl, rfl, rfl, rfl, rfl, rfl, rfl, rfl, trivial⟩, hS.weak ⟨rfl, rfl, rfl, rfl, rfl, trivial⟩, hs_8, hs_6, hs_7⟩
 rintro a w ⟨Dv_6, p_9, c_9, hle, hF, hS, hj, hj_1, hj_2⟩
 have hlev_9 := hle
 replace hs := hs.mono hlev_9
 replace hs_1 := hs_1.mono hlev_9
 replace hG := hG.mono hlev_9
 replace hs_2 := hs_2.mono hlev_9
 refine step hF (Y.assign hF rfl) rfl fun a hF => nil (then_n (seq (region (step hF (Y.loadNL 1 sz_25 hF rfl hS rfl rfl rfl) rfl fun a hF => step hF (Y.move hF rfl) rfl fun a hF => ?_))))
 obtain ⟨rv_11, hx_13, h⟩ := bind_some h
 refine O.callP (us := [.agg #[.int .i64 n.Exchanges, .slice p n.Lines.length c, .int .i64 n.Hops, .slice p_1 n.Loops.length c_1], .int .i64 rv_7]) ca_24 hF hS (line_Delay_ok hS.stab n rv_7 hs hs_1 hG rv_11 hx_13) rfl rfl fun a w hF hS => step hF (Y.move hF rfl) rfl fun a hF => step hF (Y.extract hF rfl rfl) rfl fun a hF => step hF (Y.extract hF rfl rfl) rfl fun a hF => O.alloc 12 zc_40 hF hS rfl fun b_7 a w hF hS => O.store (us := [.int .i64 rv_11.1.Low, .int .i64 rv_11.1.High]) 12 sz_40 hF rfl rfl rfl rfl hS rfl rfl fun a w hF hS => step hF (Y.assign hF rfl) rfl fun a hF => nil (then_n (seq ?_))
 obtain ⟨rv_12, hx_14, h⟩ := bind_some h
 obtain ⟨rv_13, hx_15, h⟩ := bind_some h
 refine drawsV 11 (.flt 0 (.flt 1 (.flt 2 (.flt 3 (.alt 4 (.alt 5 (.flt 6 (.flt 7 (.flt 8 (.alt 9 (.alt 10 .done .stop) .stop)))) (.alt 9 (.alt 5 (.flt 6 (.flt 7 (.flt 8 (.alt 10 .done .stop)))) .stop) .stop)) (.alt 9 (.alt 4 (.alt 5 (.flt 6 (.flt 7 (.flt 8 (.alt 10 .done .stop)))) .stop) .stop) .stop)))))) mixed_ (by kernel_rfl) (fun w => St w0 D0 Dv_6 [(1, .cells b [.int .i64 n.Exchanges, .slice p n.Lines.length c, .int .i64 n.Hops, .slice p_1 n.Loops.length c_1] 25), (2, .cells b_1 [.int .i64 k.a0, .int .i64 k.a1, .int .i64 k.a2] 61), (3, .cells b_2 [.int .i64 n.Exchanges, .slice p_2 l.length c_2, .int .i64 n.Hops, .slice p_5 l_1.length c_5] 25), (4, .own none ([] : List LineLine).length 0 ([]) 68 4), (5, .own none ([] : List LineLoop).length 0 ([]) 71 3), (12, .cells b_7 [.int .i64 rv_11.1.Low, .int .i64 rv_11.1.High] 40)] w) (fun a w => ∃ (b_8 : Nat), Frm 193 [] [(2, .pointer (some ⟨b, 0, none⟩)), (4, .bool false), (5, .pointer (some ⟨b_2, 0, none⟩)), (13, .slice p_8 rv_8.1.length c_8), (14, .int .i64 rv_8.2), (15, .slice p_9 rv_10.1.length c_9), (16, .int .i64 rv_10.2), (17, .pointer (some ⟨b_7, 0, none⟩)), (18, .int .i64 rv_11.2), (19, .pointer (some ⟨b_8, 0, none⟩)), (142, .int .i64 rv_13.2)] a ∧ St w0 D0 Dv_6 [(1, .cells b [.int .i64 n.Exchanges, .slice p n.Lines.length c, .int .i64 n.Hops, .slice p_1 n.Loops.length c_1] 25), (2, .cells b_1 [.int .i64 k.a0, .int .i64 k.a1, .int .i64 k.a2] 61), (3, .cells b_2 [.int .i64 n.Exchanges, .slice p_2 l.length c_2, .int .i64 n.Hops, .slice p_5 l_1.length c_5] 25), (4, .own none ([] : List LineLine).length 0 ([]) 68 4), (5, .own none ([] : List LineLoop).length 0 ([]) 71 3), (12, .cells b_7 [.int .i64 rv_11.1.Low, .int .i64 rv_11.1.High] 40), (13, .cells b_8 [.int .i64 rv_13.1.Low, .int .i64 rv_13.1.High] 40)] w) (hS.weak (ms := [(1, .cells b [.int .i64 n.Exchanges, .slice p n.Lines.length c, .int .i64 n.Hops, .slice p_1 n.Loops.length c_1] 25), (2, .cells b_1 [.int .i64 k.a0, .int .i64 k.a1, .int .i64 k.a2] 61), (3, .cells b_2 [.int .i64 n.Exchanges, .slice p_2 l.length c_2, .int .i64 n.Hops, .slice p_5 l_1.length c_5] 25), (4, .own none ([] : List LineLine).length 0 ([]) 68 4), (5, .own none ([] : List LineLoop).length 0 ([]) 71 3), (12, .cells b_7 [.int .i64 rv_11.1.Low, .int .i64 rv_11.1.High] 40)]) ⟨rfl, rfl, rfl, rfl, rfl, rfl, trivial⟩).drew (fun _ _ _ _ h => h) ?_ ?_
 ·replace hS := hS.drew
  have hle0 := hS.le
  refine stepV (i := 0) rfl hF (fun w hS => Y.loadNL 3 sz_25 hF rfl hS rfl rfl rfl) rfl fun a hF => stepV (i := 1) rfl hF (fun w hS => Y.loadNL 1 sz_25 hF rfl hS rfl rfl rfl) rfl fun a hF => stepV (i := 2) rfl hF (fun w hS => Y.move hF rfl) rfl fun a hF => stepV (i := 3) rfl hF (fun w hS => Y.move hF rfl) rfl fun a hF => oneV (i := 4) rfl ?_ ?_
  ·skip
   refine O.callP (us := [.agg #[.int .i64 n.Exchanges, .slice p n.Lines.length c, .int .i64 n.Hops, .slice p_1 n.Loops.length c_1], .int .i64 rv_7, .int .i64 rv_2]) ca_55 hF hS (remontoirlaw06_turned_ok hS.stab n rv_7 rv_2 hs hs_1 rv_12 hx_14) rfl rfl fun a w hF hS => nil (then_n ⟨hS.weak ⟨rfl, rfl, rfl, rfl, rfl, rfl, trivial⟩, ?_⟩)
   refine oneV (i := 5) rfl ?_ ?_
   ·skip
    refine O.callP (us := [.agg #[.int .i64 n.Exchanges, .slice p_2 l.length c_2, .int .i64 n.Hops, .slice p_5 l_1.length c_5], .int .i64 rv_12]) ca_24 hF hS (line_Delay_ok hS.stab (LineNet.mk n.Exchanges l n.Hops l_1) rv_12 hj_1 hj_2 hG rv_13 hx_15) rfl rfl fun a w hF hS => nil (then_n ⟨hS.weak ⟨rfl, rfl, rfl, rfl, rfl, rfl, trivial⟩, ?_⟩)
    refine stepV (i := 6) rfl hF (fun w hS => Y.move hF rfl) rfl fun a hF => stepV (i := 7) rfl hF (fun w hS => Y.extract hF rfl rfl) rfl fun a hF => stepV (i := 8) rfl hF (fun w hS => Y.extract hF rfl rfl) rfl fun a hF => oneV (i := 9) rfl ?_ trivial
    refine O.alloc 13 zc_40 hF hS rfl fun b_9 a w hF hS => nil (then_n ⟨hS.weak ⟨rfl, rfl, rfl, rfl, rfl, rfl, trivial⟩, ?_⟩)
    refine oneV (i := 10) rfl ?_ trivial
    refine O.store (us := [.int .i64 rv_13.1.Low, .int .i64 rv_13.1.High]) 13 sz_40 hF rfl rfl rfl rfl hS rfl rfl fun a w hF hS => nil (then_n ⟨hS.weak ⟨rfl, rfl, rfl, rfl, rfl, rfl, trivial⟩, ?_⟩)
    exact toTailV ⟨b_9, hF.weak ⟨rfl, rfl, rfl, rfl, rfl, rfl, rfl, rfl, rfl, rfl, rfl, trivial⟩, hS.weak ⟨rfl, rfl, rfl, rfl, rfl, rfl, rfl, trivial⟩⟩
   refine oneV (i := 9) rfl ?_ trivial
   refine O.alloc 13 zc_40 hF hS rfl fun b_10 a w hF hS => nil (then_n ⟨hS.weak ⟨rfl, rfl, rfl, rfl, rfl, rfl, trivial⟩, ?_⟩)
   refine oneV (i := 5) rfl ?_ trivial
   refine O.callP (us := [.agg #[.int .i64 n.Exchanges, .slice p_2 l.length c_2, .int .i64 n.Hops, .slice p_5 l_1.length c_5], .int .i64 rv_12]) ca_24 hF hS (line_Delay_ok hS.stab (LineNet.mk n.Exchanges l n.Hops l_1) rv_12 hj_1 hj_2 hG rv_13 hx_15) rfl rfl fun a w hF hS => nil (then_n ⟨hS.weak ⟨rfl, rfl, rfl, rfl, rfl, rfl, trivial⟩, ?_⟩)
   refine stepV (i := 6) rfl hF (fun w hS => Y.move hF rfl) rfl fun a hF => stepV (i := 7) rfl hF (fun w hS => Y.extract hF rfl rfl) rfl fun a hF => stepV (i := 8) rfl hF (fun w hS => Y.extract hF rfl rfl) rfl fun a hF => oneV (i := 10) rfl ?_ trivial
   refine O.store (us := [.int .i64 rv_13.1.Low, .int .i64 rv_13.1.High]) 13 sz_40 hF rfl rfl rfl rfl hS rfl rfl fun a w hF hS => nil (then_n ⟨hS.weak ⟨rfl, rfl, rfl, rfl, rfl, rfl, trivial⟩, ?_⟩)
   exact toTailV ⟨b_10, hF.weak ⟨rfl, rfl, rfl, rfl, rfl, rfl, rfl, rfl, rfl, rfl, rfl, trivial⟩, hS.weak ⟨rfl, rfl, rfl, rfl, rfl, rfl, rfl, trivial⟩⟩
  refine oneV (i := 9) rfl ?_ trivial
  refine O.alloc 13 zc_40 hF hS rfl fun b_11 a w hF hS => nil (then_n ⟨hS.weak ⟨rfl, rfl, rfl, rfl, rfl, rfl, trivial⟩, ?_⟩)
  refine oneV (i := 4) rfl ?_ trivial
  refine O.callP (us := [.agg #[.int .i64 n.Exchanges, .slice p n.Lines.length c, .int .i64 n.Hops, .slice p_1 n.Loops.length c_1], .int .i64 rv_7, .int .i64 rv_2]) ca_55 hF hS (remontoirlaw06_turned_ok hS.stab n rv_7 rv_2 hs hs_1 rv_12 hx_14) rfl rfl fun a w hF hS => nil (then_n ⟨hS.weak ⟨rfl, rfl, rfl, rfl, rfl, rfl, trivial⟩, ?_⟩)
  refine oneV (i := 5) rfl ?_ trivial
  refine O.callP (us := [.agg #[.int .i64 n.Exchanges, .slice p_2 l.length c_2, .int .i64 n.Hops, .slice p_5 l_1.length c_5], .int .i64 rv_12]) ca_24 hF hS (line_Delay_ok hS.stab (LineNet.mk n.Exchanges l n.Hops l_1) rv_12 hj_1 hj_2 hG rv_13 hx_15) rfl rfl fun a w hF hS => nil (then_n ⟨hS.weak ⟨rfl, rfl, rfl, rfl, rfl, rfl, trivial⟩, ?_⟩)
  refine stepV (i := 6) rfl hF (fun w hS => Y.move hF rfl) rfl fun a hF => stepV (i := 7) rfl hF (fun w hS => Y.extract hF rfl rfl) rfl fun a hF => stepV (i := 8) rfl hF (fun w hS => Y.extract hF rfl rfl) rfl fun a hF => oneV (i := 10) rfl ?_ trivial
  refine O.store (us := [.int .i64 rv_13.1.Low, .int .i64 rv_13.1.High]) 13 sz_40 hF rfl rfl rfl rfl hS rfl rfl fun a w hF hS => nil (then_n ⟨hS.weak ⟨rfl, rfl, rfl, rfl, rfl, rfl, trivial⟩, ?_⟩)
  exact toTailV ⟨b_11, hF.weak ⟨rfl, rfl, rfl, rfl, rfl, rfl, rfl, rfl, rfl, rfl, rfl, trivial⟩, hS.weak ⟨rfl, rfl, rfl, rfl, rfl, rfl, rfl, trivial⟩⟩
 rintro a w ⟨b_8, hF, hS⟩
 refine step hF (Y.assign hF rfl) rfl fun a hF => nil (then_n (seq (region (step hF (Y.loadNL 1 sz_25 hF rfl hS rfl rfl rfl) rfl fun a hF => ?_))))
 obtain ⟨rv_14, hx_16, h⟩ := bind_some h
 refine O.callS (us := [.agg #[.int .i64 n.Exchanges, .slice p n.Lines.length c, .int .i64 n.Hops, .slice p_1 n.Loops.length c_1]]) ca_32 hF hS (line_Wrong_ok hS.stab n hs hs_1 hG rv_14 hx_16) rfl rfl fun v_3 Dv_10 a w hR_3 hlev_10 hF hS => ?_
 replace hG := hG.mono hlev_10
 replace hs_2 := hs_2.mono hlev_10
 replace hj := hj.mono hlev_10
 replace hj_1 := hj_1.mono hlev_10
 replace hj_2 := hj_2.mono hlev_10
 obtain ⟨p_11, c_11, rfl, hs_9⟩ := hR_3
 refine step hF (Y.move hF rfl) rfl fun a hF => step hF (Y.extract hF rfl rfl) rfl fun a hF => step hF (Y.extract hF rfl rfl) rfl fun a hF => step hF (Y.assign hF rfl) rfl fun a hF => step hF (Y.assign hF rfl) rfl fun a hF => nil (then_n (seq (region (step hF (Y.loadNL 3 sz_25 hF rfl hS rfl rfl rfl) rfl fun a hF => ?_))))
 obtain ⟨rv_15, hx_17, h⟩ := bind_some h
 refine O.callS (us := [.agg #[.int .i64 n.Exchanges, .slice p_2 l.length c_2, .int .i64 n.Hops, .slice p_5 l_1.length c_5]]) ca_32 hF hS (line_Wrong_ok hS.stab (LineNet.mk n.Exchanges l n.Hops l_1) hj_1 hj_2 hG rv_15 hx_17) rfl rfl fun v_4 Dv_11 a w hR_4 hlev_11 hF hS => ?_
 replace hG := hG.mono hlev_11
 replace hs_2 := hs_2.mono hlev_11
 replace hj := hj.mono hlev_11
 replace hs_9 := hs_9.mono hlev_11
 obtain ⟨p_12, c_12, rfl, hs_10⟩ := hR_4
 refine step hF (Y.move hF rfl) rfl fun a hF => step hF (Y.extract hF rfl rfl) rfl fun a hF => step hF (Y.extract hF rfl rfl) rfl fun a hF => step hF (Y.assign hF rfl) rfl fun a hF => step hF (Y.assign hF rfl) rfl fun a hF => nil (then_n (seq (region (step hF (Y.move hF rfl) rfl fun a hF => step hF (Y.move hF rfl) rfl fun a hF => step hF (Y.eql hF rfl rfl) rfl fun a hF => step hF (Y.move hF rfl) rfl fun a hF => join (N := 193) (rs := []) (w0 := w0) (D0 := D0) 4 (us := [(4, .bool false), (13, .slice p_8 rv_8.1.length c_8), (14, .int .i64 rv_8.2), (15, .slice p_9 rv_10.1.length c_9), (17, .pointer (some ⟨b_7, 0, none⟩)), (19, .pointer (some ⟨b_8, 0, none⟩)), (20, .int .i64 rv_13.2), (21, .slice p_11 rv_14.1.length c_11), (22, .int .i64 rv_14.2), (23, .slice p_12 rv_15.1.length c_12), (24, .int .i64 rv_15.2), (160, .bool ((rv_8.2 == rv_10.2) && (rv_11.2 == rv_8.2)))]) (ms := [(1, .cells b [.int .i64 n.Exchanges, .slice p n.Lines.length c, .int .i64 n.Hops, .slice p_1 n.Loops.length c_1] 25), (2, .cells b_1 [.int .i64 k.a0, .int .i64 k.a1, .int .i64 k.a2] 61), (3, .cells b_2 [.int .i64 n.Exchanges, .slice p_2 l.length c_2, .int .i64 n.Hops, .slice p_5 l_1.length c_5] 25), (4, .own none ([] : List LineLine).length 0 ([]) 68 4), (5, .own none ([] : List LineLoop).length 0 ([]) 71 3), (12, .cells b_7 [.int .i64 rv_11.1.Low, .int .i64 rv_11.1.High] 40), (13, .cells b_8 [.int .i64 rv_13.1.Low, .int .i64 rv_13.1.High] 40)]) (D' := Dv_11) ?_ ?_))))
 ·rcases bcases (rv_8.2 == rv_10.2) with hbv_4 | hbv_4
  ·skip
   refine guard_on hF rfl rfl hbv_4 (step hF (Y.move hF rfl) rfl fun a hF => guard_on hF rfl rfl hbv_4 (step hF (Y.move hF rfl) rfl fun a hF => guard_on hF rfl rfl hbv_4 (step hF (Y.eql hF rfl rfl) rfl fun a hF => step hF (Y.pick_t hF rfl hbv_4 rfl) rfl fun a hF => nil (then_n ⟨hF.weak ⟨rfl, rfl, rfl, rfl, rfl, rfl, rfl, rfl, rfl, rfl, rfl, (by rw [hbv_4]; rfl), trivial⟩, hS.weak ⟨rfl, rfl, rfl, rfl, rfl, rfl, rfl, trivial⟩⟩))))
  refine guard_off hF rfl rfl hbv_4 rfl fun a hF => guard_off hF rfl rfl hbv_4 rfl fun a hF => guard_off hF rfl rfl hbv_4 rfl fun a hF => step hF (Y.pick_f hF rfl hbv_4 rfl) rfl fun a hF => nil (then_n ⟨hF.weak ⟨rfl, rfl, rfl, rfl, rfl, rfl, rfl, rfl, rfl, rfl, rfl, (by rw [hbv_4]; rfl), trivial⟩, hS.weak ⟨rfl, rfl, rfl, rfl, rfl, rfl, rfl, trivial⟩⟩)
 intro a w hF hS
 refine step hF (Y.move hF rfl) rfl fun a hF => join (N := 193) (rs := []) (w0 := w0) (D0 := D0) 4 (us := [(4, .bool false), (13, .slice p_8 rv_8.1.length c_8), (15, .slice p_9 rv_10.1.length c_9), (17, .pointer (some ⟨b_7, 0, none⟩)), (19, .pointer (some ⟨b_8, 0, none⟩)), (21, .slice p_11 rv_14.1.length c_11), (22, .int .i64 rv_14.2), (23, .slice p_12 rv_15.1.length c_12), (24, .int .i64 rv_15.2), (165, .bool (((rv_8.2 == rv_10.2) && (rv_11.2 == rv_8.2)) && (rv_13.2 == rv_8.2)))]) (ms := [(1, .cells b [.int .i64 n.Exchanges, .slice p n.Lines.length c, .int .i64 n.Hops, .slice p_1 n.Loops.length c_1] 25), (2, .cells b_1 [.int .i64 k.a0, .int .i64 k.a1, .int .i64 k.a2] 61), (3, .cells b_2 [.int .i64 n.Exchanges, .slice p_2 l.length c_2, .int .i64 n.Hops, .slice p_5 l_1.length c_5] 25), (4, .own none ([] : List LineLine).length 0 ([]) 68 4), (5, .own none ([] : List LineLoop).length 0 ([]) 71 3), (12, .cells b_7 [.int .i64 rv_11.1.Low, .int .i64 rv_11.1.High] 40), (13, .cells b_8 [.int .i64 rv_13.1.Low, .int .i64 rv_13.1.High] 40)]) (D' := Dv_11) ?_ ?_
 ·rcases bcases ((rv_8.2 == rv_10.2) && (rv_11.2 == rv_8.2)) with hbv_5 | hbv_5
  ·skip
   refine guard_on hF rfl rfl hbv_5 (step hF (Y.move hF rfl) rfl fun a hF => guard_on hF rfl rfl hbv_5 (step hF (Y.move hF rfl) rfl fun a hF => guard_on hF rfl rfl hbv_5 (step hF (Y.eql hF rfl rfl) rfl fun a hF => step hF (Y.pick_t hF rfl hbv_5 rfl) rfl fun a hF => nil (then_n ⟨hF.weak ⟨rfl, rfl, rfl, rfl, rfl, rfl, rfl, rfl, rfl, (by rw [hbv_5]; rfl), trivial⟩, hS.weak ⟨rfl, rfl, rfl, rfl, rfl, rfl, rfl, trivial⟩⟩))))
  refine guard_off hF rfl rfl hbv_5 rfl fun a hF => guard_off hF rfl rfl hbv_5 rfl fun a hF => guard_off hF rfl rfl hbv_5 rfl fun a hF => step hF (Y.pick_f hF rfl hbv_5 rfl) rfl fun a hF => nil (then_n ⟨hF.weak ⟨rfl, rfl, rfl, rfl, rfl, rfl, rfl, rfl, rfl, (by rw [hbv_5]; rfl), trivial⟩, hS.weak ⟨rfl, rfl, rfl, rfl, rfl, rfl, rfl, trivial⟩⟩)
 intro a w hF hS
 refine step hF (Y.move hF rfl) rfl fun a hF => join (N := 193) (rs := []) (w0 := w0) (D0 := D0) 3 (us := [(4, .bool false), (13, .slice p_8 rv_8.1.length c_8), (15, .slice p_9 rv_10.1.length c_9), (17, .pointer (some ⟨b_7, 0, none⟩)), (19, .pointer (some ⟨b_8, 0, none⟩)), (21, .slice p_11 rv_14.1.length c_11), (22, .int .i64 rv_14.2), (23, .slice p_12 rv_15.1.length c_12), (24, .int .i64 rv_15.2), (169, .bool ((((rv_8.2 == rv_10.2) && (rv_11.2 == rv_8.2)) && (rv_13.2 == rv_8.2)) && (rv_14.2 == 0)))]) (ms := [(1, .cells b [.int .i64 n.Exchanges, .slice p n.Lines.length c, .int .i64 n.Hops, .slice p_1 n.Loops.length c_1] 25), (2, .cells b_1 [.int .i64 k.a0, .int .i64 k.a1, .int .i64 k.a2] 61), (3, .cells b_2 [.int .i64 n.Exchanges, .slice p_2 l.length c_2, .int .i64 n.Hops, .slice p_5 l_1.length c_5] 25), (4, .own none ([] : List LineLine).length 0 ([]) 68 4), (5, .own none ([] : List LineLoop).length 0 ([]) 71 3), (12, .cells b_7 [.int .i64 rv_11.1.Low, .int .i64 rv_11.1.High] 40), (13, .cells b_8 [.int .i64 rv_13.1.Low, .int .i64 rv_13.1.High] 40)]) (D' := Dv_11) ?_ ?_
 ·rcases bcases (((rv_8.2 == rv_10.2) && (rv_11.2 == rv_8.2)) && (rv_13.2 == rv_8.2)) with hbv_6 | hbv_6
  ·skip
   refine guard_on hF rfl rfl hbv_6 (step hF (Y.move hF rfl) rfl fun a hF => guard_on hF rfl rfl hbv_6 (step hF (Y.eql hF rfl rfl) rfl fun a hF => step hF (Y.pick_t hF rfl hbv_6 rfl) rfl fun a hF => nil (then_n ⟨hF.weak ⟨rfl, rfl, rfl, rfl, rfl, rfl, rfl, rfl, rfl, (by rw [hbv_6]; rfl), trivial⟩, hS.weak ⟨rfl, rfl, rfl, rfl, rfl, rfl, rfl, trivial⟩⟩)))
  refine guard_off hF rfl rfl hbv_6 rfl fun a hF => guard_off hF rfl rfl hbv_6 rfl fun a hF => step hF (Y.pick_f hF rfl hbv_6 rfl) rfl fun a hF => nil (then_n ⟨hF.weak ⟨rfl, rfl, rfl, rfl, rfl, rfl, rfl, rfl, rfl, (by rw [hbv_6]; rfl), trivial⟩, hS.weak ⟨rfl, rfl, rfl, rfl, rfl, rfl, rfl, trivial⟩⟩)
 intro a w hF hS
 refine step hF (Y.move hF rfl) rfl fun a hF => join (N := 193) (rs := []) (w0 := w0) (D0 := D0) 4 (us := [(4, .bool false), (13, .slice p_8 rv_8.1.length c_8), (15, .slice p_9 rv_10.1.length c_9), (17, .pointer (some ⟨b_7, 0, none⟩)), (19, .pointer (some ⟨b_8, 0, none⟩)), (21, .slice p_11 rv_14.1.length c_11), (23, .slice p_12 rv_15.1.length c_12), (174, .bool (((((rv_8.2 == rv_10.2) && (rv_11.2 == rv_8.2)) && (rv_13.2 == rv_8.2)) && (rv_14.2 == 0)) && (rv_15.2 == rv_14.2)))]) (ms := [(1, .cells b [.int .i64 n.Exchanges, .slice p n.Lines.length c, .int .i64 n.Hops, .slice p_1 n.Loops.length c_1] 25), (2, .cells b_1 [.int .i64 k.a0, .int .i64 k.a1, .int .i64 k.a2] 61), (3, .cells b_2 [.int .i64 n.Exchanges, .slice p_2 l.length c_2, .int .i64 n.Hops, .slice p_5 l_1.length c_5] 25), (4, .own none ([] : List LineLine).length 0 ([]) 68 4), (5, .own none ([] : List LineLoop).length 0 ([]) 71 3), (12, .cells b_7 [.int .i64 rv_11.1.Low, .int .i64 rv_11.1.High] 40), (13, .cells b_8 [.int .i64 rv_13.1.Low, .int .i64 rv_13.1.High] 40)]) (D' := Dv_11) ?_ ?_
 ·rcases bcases ((((rv_8.2 == rv_10.2) && (rv_11.2 == rv_8.2)) && (rv_13.2 == rv_8.2)) && (rv_14.2 == 0)) with hbv_7 | hbv_7
  ·skip
   refine guard_on hF rfl rfl hbv_7 (step hF (Y.move hF rfl) rfl fun a hF => guard_on hF rfl rfl hbv_7 (step hF (Y.move hF rfl) rfl fun a hF => guard_on hF rfl rfl hbv_7 (step hF (Y.eql hF rfl rfl) rfl fun a hF => step hF (Y.pick_t hF rfl hbv_7 rfl) rfl fun a hF => nil (then_n ⟨hF.weak ⟨rfl, rfl, rfl, rfl, rfl, rfl, rfl, (by rw [hbv_7]; rfl), trivial⟩, hS.weak ⟨rfl, rfl, rfl, rfl, rfl, rfl, rfl, trivial⟩⟩))))
  refine guard_off hF rfl rfl hbv_7 rfl fun a hF => guard_off hF rfl rfl hbv_7 rfl fun a hF => guard_off hF rfl rfl hbv_7 rfl fun a hF => step hF (Y.pick_f hF rfl hbv_7 rfl) rfl fun a hF => nil (then_n ⟨hF.weak ⟨rfl, rfl, rfl, rfl, rfl, rfl, rfl, (by rw [hbv_7]; rfl), trivial⟩, hS.weak ⟨rfl, rfl, rfl, rfl, rfl, rfl, rfl, trivial⟩⟩)
 intro a w hF hS
 refine step hF (Y.move hF rfl) rfl fun a hF => ?_
 obtain ⟨t, ht, h⟩ := bind_some h
 refine join (N := 193) (rs := []) (w0 := w0) (D0 := D0) 4 (us := [(4, .bool false), (17, .pointer (some ⟨b_7, 0, none⟩)), (19, .pointer (some ⟨b_8, 0, none⟩)), (21, .slice p_11 rv_14.1.length c_11), (23, .slice p_12 rv_15.1.length c_12), (179, .bool t)]) (ms := [(1, .cells b [.int .i64 n.Exchanges, .slice p n.Lines.length c, .int .i64 n.Hops, .slice p_1 n.Loops.length c_1] 25), (2, .cells b_1 [.int .i64 k.a0, .int .i64 k.a1, .int .i64 k.a2] 61), (3, .cells b_2 [.int .i64 n.Exchanges, .slice p_2 l.length c_2, .int .i64 n.Hops, .slice p_5 l_1.length c_5] 25), (4, .own none ([] : List LineLine).length 0 ([]) 68 4), (5, .own none ([] : List LineLoop).length 0 ([]) 71 3), (12, .cells b_7 [.int .i64 rv_11.1.Low, .int .i64 rv_11.1.High] 40), (13, .cells b_8 [.int .i64 rv_13.1.Low, .int .i64 rv_13.1.High] 40)]) (D' := Dv_11) ?_ ?_
 ·rcases bcases (((((rv_8.2 == rv_10.2) && (rv_11.2 == rv_8.2)) && (rv_13.2 == rv_8.2)) && (rv_14.2 == 0)) && (rv_15.2 == rv_14.2)) with hbv_8 | hbv_8
  ·skip
   replace h := cond_t ht hbv_8
   refine guard_on hF rfl rfl hbv_8 (step hF (Y.move hF rfl) rfl fun a hF => guard_on hF rfl rfl hbv_8 (step hF (Y.move hF rfl) rfl fun a hF => guard_on hF rfl rfl hbv_8 ?_))
   obtain ⟨rv_16, hx_18, h⟩ := bind_some h
   refine O.callP (us := [.slice p_8 rv_8.1.length c_8, .slice p_9 rv_10.1.length c_9]) ca_17 hF hS (r0AlikeRows_ok hS.stab rv_8.1 rv_10.1 hs_2 hj rv_16 hx_18) rfl rfl fun a w hF hS => step hF (Y.pick_t hF rfl hbv_8 rfl) rfl fun a hF => ?_
   obtain rfl := some_inj h
   exact nil (then_n ⟨hF.weak ⟨rfl, rfl, rfl, rfl, rfl, rfl, trivial⟩, hS.weak ⟨rfl, rfl, rfl, rfl, rfl, rfl, rfl, trivial⟩⟩)
  replace h := cond_f ht hbv_8
  refine guard_off hF rfl rfl hbv_8 rfl fun a hF => guard_off hF rfl rfl hbv_8 rfl fun a hF => guard_off hF rfl rfl hbv_8 rfl fun a hF => step hF (Y.pick_f hF rfl hbv_8 rfl) rfl fun a hF => ?_
  obtain rfl := some_inj h
  exact nil (then_n ⟨hF.weak ⟨rfl, rfl, rfl, rfl, rfl, rfl, trivial⟩, hS.weak ⟨rfl, rfl, rfl, rfl, rfl, rfl, rfl, trivial⟩⟩)
 intro a w hF hS
 refine step hF (Y.move hF rfl) rfl fun a hF => join (N := 193) (rs := []) (w0 := w0) (D0 := D0) 4 (us := [(4, .bool false), (21, .slice p_11 rv_14.1.length c_11), (23, .slice p_12 rv_15.1.length c_12), (184, .bool (t && ([rv_11.1.Low, rv_11.1.High] == [rv_13.1.Low, rv_13.1.High])))]) (ms := [(1, .cells b [.int .i64 n.Exchanges, .slice p n.Lines.length c, .int .i64 n.Hops, .slice p_1 n.Loops.length c_1] 25), (2, .cells b_1 [.int .i64 k.a0, .int .i64 k.a1, .int .i64 k.a2] 61), (3, .cells b_2 [.int .i64 n.Exchanges, .slice p_2 l.length c_2, .int .i64 n.Hops, .slice p_5 l_1.length c_5] 25), (4, .own none ([] : List LineLine).length 0 ([]) 68 4), (5, .own none ([] : List LineLoop).length 0 ([]) 71 3), (12, .cells b_7 [.int .i64 rv_11.1.Low, .int .i64 rv_11.1.High] 40), (13, .cells b_8 [.int .i64 rv_13.1.Low, .int .i64 rv_13.1.High] 40)]) (D' := Dv_11) ?_ ?_
 ·rcases bcases t with hbv_9 | hbv_9
  ·skip
   refine guard_on hF rfl rfl hbv_9 (step hF (Y.loadNL 12 sz_40 hF rfl hS rfl rfl rfl) rfl fun a hF => guard_on hF rfl rfl hbv_9 (step hF (Y.loadNL 13 sz_40 hF rfl hS rfl rfl rfl) rfl fun a hF => guard_on hF rfl rfl hbv_9 (step hF (Y.eqst (fun w => eqT_40.equal (by decide) (l := [rv_11.1.Low, rv_11.1.High]) (m := [rv_13.1.Low, rv_13.1.High]) rfl rfl) (fun w => run_eqGuard_agg _ _ _ _ _ _ _ eg_40) hF rfl rfl) rfl fun a hF => step hF (Y.pick_t hF rfl hbv_9 rfl) rfl fun a hF => nil (then_n ⟨hF.weak ⟨rfl, rfl, rfl, (by rw [hbv_9]; rfl), trivial⟩, hS.weak ⟨rfl, rfl, rfl, rfl, rfl, rfl, rfl, trivial⟩⟩))))
  refine guard_off hF rfl rfl hbv_9 rfl fun a hF => guard_off hF rfl rfl hbv_9 rfl fun a hF => guard_off hF rfl rfl hbv_9 rfl fun a hF => step hF (Y.pick_f hF rfl hbv_9 rfl) rfl fun a hF => nil (then_n ⟨hF.weak ⟨rfl, rfl, rfl, (by rw [hbv_9]; rfl), trivial⟩, hS.weak ⟨rfl, rfl, rfl, rfl, rfl, rfl, rfl, trivial⟩⟩)
 intro a w hF hS
 refine step hF (Y.move hF rfl) rfl fun a hF => ?_
 obtain ⟨t_1, ht_1, h⟩ := bind_some h
 refine join (N := 193) (rs := []) (w0 := w0) (D0 := D0) 4 (us := [(4, .bool false), (189, .bool t_1)]) (ms := [(1, .cells b [.int .i64 n.Exchanges, .slice p n.Lines.length c, .int .i64 n.Hops, .slice p_1 n.Loops.length c_1] 25), (2, .cells b_1 [.int .i64 k.a0, .int .i64 k.a1, .int .i64 k.a2] 61), (3, .cells b_2 [.int .i64 n.Exchanges, .slice p_2 l.length c_2, .int .i64 n.Hops, .slice p_5 l_1.length c_5] 25), (4, .own none ([] : List LineLine).length 0 ([]) 68 4), (5, .own none ([] : List LineLoop).length 0 ([]) 71 3), (12, .cells b_7 [.int .i64 rv_11.1.Low, .int .i64 rv_11.1.High] 40), (13, .cells b_8 [.int .i64 rv_13.1.Low, .int .i64 rv_13.1.High] 40)]) (D' := Dv_11) ?_ ?_
 ·rcases bcases (t && ([rv_11.1.Low, rv_11.1.High] == [rv_13.1.Low, rv_13.1.High])) with hbv_10 | hbv_10
  ·skip
   replace h := cond_t ht_1 hbv_10
   refine guard_on hF rfl rfl hbv_10 (step hF (Y.move hF rfl) rfl fun a hF => guard_on hF rfl rfl hbv_10 (step hF (Y.move hF rfl) rfl fun a hF => guard_on hF rfl rfl hbv_10 ?_))
   obtain ⟨rv_17, hx_19, h⟩ := bind_some h
   refine O.callP (us := [.slice p_11 rv_14.1.length c_11, .slice p_12 rv_15.1.length c_12]) ca_22 hF hS (r0Alike_ok hS.stab rv_14.1 rv_15.1 hs_9 hs_10 rv_17 hx_19) rfl rfl fun a w hF hS => step hF (Y.pick_t hF rfl hbv_10 rfl) rfl fun a hF => ?_
   obtain rfl := some_inj h
   exact nil (then_n ⟨hF.weak ⟨rfl, rfl, trivial⟩, hS.weak ⟨rfl, rfl, rfl, rfl, rfl, rfl, rfl, trivial⟩⟩)
  replace h := cond_f ht_1 hbv_10
  refine guard_off hF rfl rfl hbv_10 rfl fun a hF => guard_off hF rfl rfl hbv_10 rfl fun a hF => guard_off hF rfl rfl hbv_10 rfl fun a hF => step hF (Y.pick_f hF rfl hbv_10 rfl) rfl fun a hF => ?_
  obtain rfl := some_inj h
  exact nil (then_n ⟨hF.weak ⟨rfl, rfl, trivial⟩, hS.weak ⟨rfl, rfl, rfl, rfl, rfl, rfl, rfl, trivial⟩⟩)
 intro a w hF hS
 refine step hF (Y.move hF rfl) rfl fun a hF => ?_
 obtain ⟨t_2, ht_2, h⟩ := bind_some h
 refine join (N := 193) (rs := []) (w0 := w0) (D0 := D0) 2 (us := [(4, .bool false), (192, .bool t_2)]) (ms := [(1, .cells b [.int .i64 n.Exchanges, .slice p n.Lines.length c, .int .i64 n.Hops, .slice p_1 n.Loops.length c_1] 25), (2, .cells b_1 [.int .i64 k.a0, .int .i64 k.a1, .int .i64 k.a2] 61), (3, .cells b_2 [.int .i64 n.Exchanges, .slice p_2 l.length c_2, .int .i64 n.Hops, .slice p_5 l_1.length c_5] 25), (4, .own none ([] : List LineLine).length 0 ([]) 68 4), (5, .own none ([] : List LineLoop).length 0 ([]) 71 3), (12, .cells b_7 [.int .i64 rv_11.1.Low, .int .i64 rv_11.1.High] 40), (13, .cells b_8 [.int .i64 rv_13.1.Low, .int .i64 rv_13.1.High] 40)]) (D' := Dv_11) ?_ ?_
 ·rcases bcases t_1 with hbv_11 | hbv_11
  ·skip
   replace h := cond_t ht_2 hbv_11
   refine guard_on hF rfl rfl hbv_11 ?_
   obtain ⟨rv_18, hx_20, h⟩ := bind_some h
   refine O.callP (us := []) ca_23 hF hS (remontoirlaw06_works_ok hS.stab hG rv_18 hx_20) rfl rfl fun a w hF hS => step hF (Y.pick_t hF rfl hbv_11 rfl) rfl fun a hF => ?_
   obtain rfl := some_inj h
   exact nil (then_n ⟨hF.weak ⟨rfl, rfl, trivial⟩, hS.weak ⟨rfl, rfl, rfl, rfl, rfl, rfl, rfl, trivial⟩⟩)
  replace h := cond_f ht_2 hbv_11
  refine guard_off hF rfl rfl hbv_11 rfl fun a hF => step hF (Y.pick_f hF rfl hbv_11 rfl) rfl fun a hF => ?_
  obtain rfl := some_inj h
  exact nil (then_n ⟨hF.weak ⟨rfl, rfl, trivial⟩, hS.weak ⟨rfl, rfl, rfl, rfl, rfl, rfl, rfl, trivial⟩⟩)
 intro a w hF hS
 refine step hF (Y.assign hF rfl) rfl fun a hF => nil (then_n (ret_ ?_))
 obtain rfl := some_inj h
 exact leaveP Tryd.results13 hF hS (.cons (.tmp rfl) .nil) .nil rfl
end Go.Proofs.YthdbokigcfbgeaaDoor.Rt
