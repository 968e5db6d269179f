/- Walks of the functions of this seat: what each Go function comes to, as a Lean function, and the proof. A law. Under no conditions. -/
import Derived.Test.YtpniidbbbhbglaaDoorWSZ
set_option linter.unusedVariables false
set_option linter.unusedSimpArgs false
set_option maxRecDepth 100000
set_option maxHeartbeats 4000000
namespace Go.Proofs.YtpniidbbbhbglaaDoor.Rt
open Go Go.RowKit
noncomputable def remontoirlaw02_BeatRates_b1 (c : BeatCellar) (rv_2 : Int) (rv_3 : Int) : (Int × Int × Int) → Option ((Int × Int × Int) ⊕ Bool)
 | (i, z, z_1) =>
  cond (decide (i < (c.Opens.length : Int)))
  ((idx c.Opens i).bind fun e_1 =>
  cond ((e_1.Clock == rv_2) && (e_1.Hour == rv_3))
  ((remontoirref00_To (wr (z + e_1.Step.Low)) (wr (z_1 + e_1.Step.High))).bind fun rv_4 =>
  nxt (wr (i + 1), rv_4.Low, rv_4.High))
  (nxt (wr (i + 1), z, z_1)))
  (ext ((beat_Drift c rv_2 rv_3 (wr (rv_3 + 1))).bind fun rv_5 =>
  (beat_Offset c rv_2 rv_3).bind fun rv_6 =>
  (beat_Best c rv_3).bind fun rv_7 =>
  cond (rv_5.2 != 0)
  ((cond (((((rv_5.2 == 22) && (rv_6.2 == rv_5.2)) && (rv_7.2.2 == rv_5.2)) && (rv_7.1 == 0)) && (rv_7.2.1 == 0)) ((remontoirlaw02_works).bind fun rv_8 =>
  some rv_8) (some false)).bind fun t =>
  some t)
  ((beat_Offset c rv_7.1 rv_3).bind fun rv_9 =>
  (cond (((rv_6.2 != 0) || (rv_7.2.2 != 0)) || (rv_9.2 != 0)) (some true) ((remontoirref00_Within rv_5.1 (Span.mk z z_1)).bind fun rv_10 =>
  some (!rv_10))).bind fun t_1 =>
  cond (((t_1 || (decide (rv_7.2.1 > (wr (rv_6.1.High - rv_6.1.Low))))) || ((wr (rv_9.1.High - rv_9.1.Low)) != rv_7.2.1)) || ((decide (rv_2 < rv_7.1)) && ((wr (rv_6.1.High - rv_6.1.Low)) == rv_7.2.1)))
  (some false)
  (cond ((c.Opens.length : Int) == 6)
  ((remontoirlaw02_works).bind fun rv_11 =>
  some rv_11)
  (if ([] : List BeatOpen).length + c.Opens.length ≤ lim then
  if (([] : List BeatOpen) ++ c.Opens).length + ([(BeatOpen.mk rv_2 rv_3 (Span.mk 0 0))]).length ≤ lim then
  (beat_Drift (BeatCellar.mk c.Hours c.Rates ((([] : List BeatOpen) ++ c.Opens) ++ [(BeatOpen.mk rv_2 rv_3 (Span.mk 0 0))]) c.Pairs) rv_2 rv_3 (wr (rv_3 + 1))).bind fun rv_12 =>
  (beat_Offset (BeatCellar.mk c.Hours c.Rates ((([] : List BeatOpen) ++ c.Opens) ++ [(BeatOpen.mk rv_2 rv_3 (Span.mk 0 0))]) c.Pairs) rv_2 rv_3).bind fun rv_13 =>
  (cond ((((rv_12.2 == 0) && (rv_13.2 == 0)) && ([rv_12.1.Low, rv_12.1.High] == [rv_5.1.Low, rv_5.1.High])) && ([rv_13.1.Low, rv_13.1.High] == [rv_6.1.Low, rv_6.1.High])) ((remontoirlaw02_works).bind fun rv_14 =>
  some rv_14) (some false)).bind fun t_2 =>
  some t_2
  else none
  else none)))))
noncomputable def remontoirlaw02_BeatRates (c : BeatCellar) (n : Arr2) : Option Bool :=
  (remontoirlaw02_sound c).bind fun rv =>
  cond (!rv)
  ((remontoirlaw02_works).bind fun rv_1 =>
  some rv_1)
  ((remontoirref00_Rest n.a0 (c.Rates.length : Int)).bind fun rv_2 =>
  (remontoirref00_Rest n.a1 c.Hours).bind fun rv_3 =>
  (idx c.Rates rv_2).bind fun e =>
  loopU (remontoirlaw02_BeatRates_b1 c rv_2 rv_3) (0, e.Low, e.High))
theorem remontoirlaw02_BeatRates_ok {w0 : World} {D0 : Stab} (hD : D0.on w0) (c : BeatCellar) (n : Arr2) {p : Option Addr} {c_1 : Nat} {p_1 : Option Addr} {c_2 : Nat} {p_2 : Option Addr} {c_3 : Nat} (hs : SRc C_Span D0 c.Rates p c_1) (hs_1 : SRc C_BeatOpen D0 c.Opens p_1 c_2) (hs_2 : SRc C_BeatPair D0 c.Pairs p_2 c_3) (hG : Glob D0) (out : Bool) (h : remontoirlaw02_BeatRates c n = some out) : Calls Tryd.prog 13 [.agg #[.int .i64 c.Hours, .slice p c.Rates.length c_1, .slice p_1 c.Opens.length c_2, .slice p_2 c.Pairs.length c_3], .agg #[.int .i64 n.a0, .int .i64 n.a1]].toArray w0 (RetP D0 w0 (.bool out)) := by
 refine enter _ 231 Tryd.func13 rfl Tryd.ntmps13 rfl fun a hF => ?_
 replace hF : Frm 231 [] [(0, .agg #[.int .i64 c.Hours, .slice p c.Rates.length c_1, .slice p_1 c.Opens.length c_2, .slice p_2 c.Pairs.length c_3]), (1, .agg #[.int .i64 n.a0, .int .i64 n.a1])] a := hF
 have hS := St.start hD
 unfold remontoirlaw02_BeatRates at h
 refine seq ?_
 refine region ?_
 refine O.box (cs := [.int .i64 c.Hours, .slice p c.Rates.length c_1, .slice p_1 c.Opens.length c_2, .slice p_2 c.Pairs.length c_3]) 1 hF rfl rfl hS rfl fun b a w hF hS => ?_
 refine O.box (cs := [.int .i64 n.a0, .int .i64 n.a1]) 2 hF rfl rfl hS rfl fun b_1 a w hF hS => ?_
 refine step hF (Y.assign hF rfl) rfl fun a hF => ?_
 refine nil (then_n ?_)
 refine seq ?_
 refine seq ?_
 refine region ?_
 refine step hF (Y.loadNL 1 sz_26 hF rfl hS rfl rfl rfl) rfl fun a hF => ?_
 obtain ⟨rv, hx, h⟩ := bind_some h
 refine O.callP (us := [.agg #[.int .i64 c.Hours, .slice p c.Rates.length c_1, .slice p_1 c.Opens.length c_2, .slice p_2 c.Pairs.length c_3]]) ca_32 hF hS (remontoirlaw02_sound_ok hS.stab c hs hs_1 hs_2 rv hx) rfl rfl fun a w hF hS => ?_
 refine step hF (Y.not hF rfl) rfl fun a hF => ?_
 refine nil (then_n ?_)
 refine cond_b hF rfl (fun hbv => ?_) (fun hbv => ?_)
 ·replace h := cond_t h hbv
  refine seq ?_
  refine region ?_
  obtain ⟨rv_1, hx_1, h⟩ := bind_some h
  refine O.callP (us := []) ca_21 hF hS (remontoirlaw02_works_ok hS.stab hG rv_1 hx_1) rfl rfl fun a w hF hS => ?_
  refine step hF (Y.assign hF rfl) rfl fun a hF => ?_
  refine nil (then_n ?_)
  refine ret_ (then_r ?_)
  obtain rfl := some_inj h
  exact leaveP Tryd.results13 hF hS (.cons (.tmp rfl) .nil) .nil rfl
 ·replace h := cond_f h hbv
  refine skip_ (then_n ?_)
  refine seq ?_
  obtain ⟨rv_2, hx_2, h⟩ := bind_some h
  refine drawsV 10 (.flt 0 (.flt 1 (.flt 2 (.flt 3 (.flt 4 (.flt 6 (.flt 7 (.flt 8 (.flt 9 (.alt 5 .done .stop)))))))))) mixed_ (by kernel_rfl) (fun w => St w0 D0 D0 [(1, .cells b [.int .i64 c.Hours, .slice p c.Rates.length c_1, .slice p_1 c.Opens.length c_2, .slice p_2 c.Pairs.length c_3] 26), (2, .cells b_1 [.int .i64 n.a0, .int .i64 n.a1] 28)] w) (fun a w => Frm 231 [] [(2, .pointer (some ⟨b, 0, none⟩)), (4, .bool false), (31, .int .i64 rv_2), (33, .int .i64 n.a1), (35, .int .i64 c.Hours)] a ∧ St w0 D0 D0 [(1, .cells b [.int .i64 c.Hours, .slice p c.Rates.length c_1, .slice p_1 c.Opens.length c_2, .slice p_2 c.Pairs.length c_3] 26), (2, .cells b_1 [.int .i64 n.a0, .int .i64 n.a1] 28)] w) (hS.weak (ms := [(1, .cells b [.int .i64 c.Hours, .slice p c.Rates.length c_1, .slice p_1 c.Opens.length c_2, .slice p_2 c.Pairs.length c_3] 26), (2, .cells b_1 [.int .i64 n.a0, .int .i64 n.a1] 28)]) ⟨rfl, rfl, trivial⟩).drew (fun _ _ _ _ h => h) ?_ ?_
  ·replace hS := hS.drew
   have hle0 := hS.le
   refine stepV (i := 0) rfl hF (fun w hS => Y.indexArr u_28 sz_3 hF rfl rfl (by decide) (by decide)) rfl fun a hF => ?_
   refine stepV (i := 1) rfl hF (fun w hS => Y.load1L 2 sz_3 hF rfl hS rfl rfl) rfl fun a hF => ?_
   refine stepV (i := 2) rfl hF (fun w hS => Y.fieldAddr fo_26_1 hF rfl) rfl fun a hF => ?_
   refine stepV (i := 3) rfl hF (fun w hS => Y.load1L 1 sz_22 hF rfl hS rfl rfl) rfl fun a hF => ?_
   refine stepV (i := 4) rfl hF (fun w hS => Y.lenSl u_22 hF rfl) rfl fun a hF => ?_
   refine stepV (i := 6) rfl hF (fun w hS => Y.indexArr u_28 sz_3 hF rfl rfl (by decide) (by decide)) rfl fun a hF => ?_
   refine stepV (i := 7) rfl hF (fun w hS => Y.load1L 2 sz_3 hF rfl hS rfl rfl) rfl fun a hF => ?_
   refine stepV (i := 8) rfl hF (fun w hS => Y.fieldAddr fo_26_0 hF rfl) rfl fun a hF => ?_
   refine stepV (i := 9) rfl hF (fun w hS => Y.load1L 1 sz_3 hF rfl hS rfl rfl) rfl fun a hF => ?_
   refine oneV (i := 5) rfl ?_ trivial
   refine O.callP (us := [.int .i64 n.a0, .int .i64 (c.Rates.length : Int)]) ca_34 hF hS (remontoirref00_Rest_ok hS.stab n.a0 (c.Rates.length : Int) rv_2 hx_2) rfl rfl fun a w hF hS => ?_
   refine nil (then_n ⟨hS.weak (ms := [(1, .cells b [.int .i64 c.Hours, .slice p c.Rates.length c_1, .slice p_1 c.Opens.length c_2, .slice p_2 c.Pairs.length c_3] 26), (2, .cells b_1 [.int .i64 n.a0, .int .i64 n.a1] 28)]) ⟨rfl, rfl, trivial⟩, ?_⟩)
   exact toTailV ⟨hF.weak ⟨rfl, rfl, rfl, rfl, rfl, trivial⟩, hS.weak ⟨rfl, rfl, trivial⟩⟩
  rintro a w ⟨hF, hS⟩
  obtain ⟨rv_3, hx_3, h⟩ := bind_some h
  refine O.callP (us := [.int .i64 n.a1, .int .i64 c.Hours]) ca_34 hF hS (remontoirref00_Rest_ok hS.stab n.a1 c.Hours rv_3 hx_3) rfl rfl fun a w hF hS => ?_
  refine step hF (Y.assign hF rfl) rfl fun a hF => ?_
  refine step hF (Y.assign hF rfl) rfl fun a hF => ?_
  refine nil (then_n ?_)
  refine seq ?_
  refine region ?_
  refine step hF (Y.fieldAddr fo_26_1 hF rfl) rfl fun a hF => ?_
  refine step hF (Y.load1L 1 sz_22 hF rfl hS rfl rfl) rfl fun a hF => ?_
  refine step hF (Y.move hF rfl) rfl fun a hF => ?_
  obtain ⟨e, hx_4, h⟩ := bind_some h
  obtain ⟨b_2, o, hE, hY⟩ := Y.indexS (P := Tryd.prog) (C := C_Span) (xs := c.Rates) (T := 22) (x := (.tmp 38)) (y := (.tmp 39)) u_22 sz_34 hF rfl rfl (hs).1 hx_4
  obtain ⟨cc, hc, hcell⟩ := hE.open
  obtain rfl := C_Span.open hc
  refine step hF (hY) rfl fun a hF => ?_
  refine step hF (Y.loadNE (o := o) (k := 0) sz_34 hF rfl (hcell _ hS.stab) rfl rfl) rfl fun a hF => ?_
  refine O.alloc 3 zc_34 hF hS rfl fun b_3 a w hF hS => ?_
  refine O.store (us := [.int .i64 e.Low, .int .i64 e.High]) 3 sz_34 hF rfl rfl rfl rfl hS rfl rfl fun a w hF hS => ?_
  refine nil (then_n ?_)
  refine seq ?_
  refine seq ?_
  refine region ?_
  refine step hF (Y.assign hF rfl) rfl fun a hF => ?_
  refine nil (then_n ?_)
  refine block ?_
  refine loop_cut (body := remontoirlaw02_BeatRates_b1 c rv_2 rv_3) (out := out) (fun s a w => ∃ (i : Int) (z : Int) (z_1 : Int), s = (i, z, z_1) ∧ Frm 231 [] [(2, .pointer (some ⟨b, 0, none⟩)), (4, .bool false), (5, .int .i64 rv_2), (6, .int .i64 rv_3), (7, .pointer (some ⟨b_3, 0, none⟩)), (8, .int .i64 i)] a ∧ St w0 D0 D0 [(1, .cells b [.int .i64 c.Hours, .slice p c.Rates.length c_1, .slice p_1 c.Opens.length c_2, .slice p_2 c.Pairs.length c_3] 26), (2, .cells b_1 [.int .i64 n.a0, .int .i64 n.a1] 28), (3, .cells b_3 [.int .i64 z, .int .i64 z_1] 34)] w) (0, e.Low, e.High) h ⟨0, e.Low, e.High, rfl, hF.weak ⟨rfl, rfl, rfl, rfl, rfl, rfl, trivial⟩, hS.weak ⟨rfl, rfl, rfl, trivial⟩⟩ ?_
  rintro s a w xo ⟨i, z, z_1, rfl, hF, hS⟩ h hxo
  unfold remontoirlaw02_BeatRates_b1 at h
  dsimp only at h
  refine seq ?_
  refine seq ?_
  refine region ?_
  refine step hF (Y.move hF rfl) rfl fun a hF => ?_
  refine step hF (Y.fieldAddr fo_26_2 hF rfl) rfl fun a hF => ?_
  refine step hF (Y.load1L 1 sz_23 hF rfl hS rfl rfl) rfl fun a hF => ?_
  refine step hF (Y.lenSl u_23 hF rfl) rfl fun a hF => ?_
  refine step hF (Y.lss hF rfl rfl) rfl fun a hF => ?_
  refine nil (then_n ?_)
  refine cond_b hF rfl (fun hbv_1 => ?_) (fun hbv_1 => ?_)
  ·replace h := cond_t h hbv_1
   refine skip_ (then_n ?_)
   refine seq ?_
   refine block ?_
   refine seq ?_
   refine region ?_
   refine step hF (Y.fieldAddr fo_26_2 hF rfl) rfl fun a hF => ?_
   refine step hF (Y.load1L 1 sz_23 hF rfl hS rfl rfl) rfl fun a hF => ?_
   refine step hF (Y.move hF rfl) rfl fun a hF => ?_
   obtain ⟨e_1, hx_5, h⟩ := bind_some h
   obtain ⟨b_4, o_1, hE_1, hY_1⟩ := Y.indexS (P := Tryd.prog) (C := C_BeatOpen) (xs := c.Opens) (T := 23) (x := (.tmp 50)) (y := (.tmp 51)) u_23 sz_63 hF rfl rfl (hs_1).1 hx_5
   obtain ⟨cc_1, hc_1, hcell_1⟩ := hE_1.open
   obtain rfl := C_BeatOpen.open hc_1
   refine step hF (hY_1) rfl fun a hF => ?_
   refine step hF (Y.loadNE (o := o_1) (k := 0) sz_63 hF rfl (hcell_1 _ hS.stab) rfl rfl) rfl fun a hF => ?_
   refine O.alloc 4 zc_63 hF hS rfl fun b_5 a w hF hS => ?_
   refine O.store (us := [.int .i64 e_1.Clock, .int .i64 e_1.Hour, .int .i64 e_1.Step.Low, .int .i64 e_1.Step.High]) 4 sz_63 hF rfl rfl rfl rfl hS rfl rfl fun a w hF hS => ?_
   refine nil (then_n ?_)
   refine seq ?_
   refine region ?_
   refine step hF (Y.fieldAddr fo_63_0 hF rfl) rfl fun a hF => ?_
   refine step hF (Y.load1L 4 sz_3 hF rfl hS rfl rfl) rfl fun a hF => ?_
   refine step hF (Y.move hF rfl) rfl fun a hF => ?_
   refine step hF (Y.eql hF rfl rfl) rfl fun a hF => ?_
   refine step hF (Y.move hF rfl) rfl fun a hF => ?_
   refine join (N := 231) (rs := []) (w0 := w0) (D0 := D0) 5 (us := [(2, .pointer (some ⟨b, 0, none⟩)), (4, .bool false), (5, .int .i64 rv_2), (6, .int .i64 rv_3), (7, .pointer (some ⟨b_3, 0, none⟩)), (8, .int .i64 i), (9, .pointer (some ⟨b_5, 0, none⟩)), (63, .bool ((e_1.Clock == rv_2) && (e_1.Hour == rv_3)))]) (ms := [(1, .cells b [.int .i64 c.Hours, .slice p c.Rates.length c_1, .slice p_1 c.Opens.length c_2, .slice p_2 c.Pairs.length c_3] 26), (2, .cells b_1 [.int .i64 n.a0, .int .i64 n.a1] 28), (3, .cells b_3 [.int .i64 z, .int .i64 z_1] 34), (4, .cells b_5 [.int .i64 e_1.Clock, .int .i64 e_1.Hour, .int .i64 e_1.Step.Low, .int .i64 e_1.Step.High] 63)]) (D' := D0) ?_ ?_
   ·rcases bcases (e_1.Clock == rv_2) with hbv_2 | hbv_2
    ·-- true
     refine guard_on hF rfl rfl hbv_2 ?_
     refine step hF (Y.fieldAddr fo_63_1 hF rfl) rfl fun a hF => ?_
     refine guard_on hF rfl rfl hbv_2 ?_
     refine step hF (Y.load1L 4 sz_3 hF rfl hS rfl rfl) rfl fun a hF => ?_
     refine guard_on hF rfl rfl hbv_2 ?_
     refine step hF (Y.move hF rfl) rfl fun a hF => ?_
     refine guard_on hF rfl rfl hbv_2 ?_
     refine step hF (Y.eql hF rfl rfl) rfl fun a hF => ?_
     refine step hF (Y.pick_t hF rfl hbv_2 rfl) rfl fun a hF => ?_
     exact nil (then_n ⟨hF.weak ⟨rfl, rfl, rfl, rfl, rfl, rfl, rfl, (by rw [hbv_2]; rfl), trivial⟩, hS.weak ⟨rfl, rfl, rfl, rfl, trivial⟩⟩)
    ·-- false
     refine guard_off hF rfl rfl hbv_2 rfl fun a hF => ?_
     refine guard_off hF rfl rfl hbv_2 rfl fun a hF => ?_
     refine guard_off hF rfl rfl hbv_2 rfl fun a hF => ?_
     refine guard_off hF rfl rfl hbv_2 rfl fun a hF => ?_
     refine step hF (Y.pick_f hF rfl hbv_2 rfl) rfl fun a hF => ?_
     exact nil (then_n ⟨hF.weak ⟨rfl, rfl, rfl, rfl, rfl, rfl, rfl, (by rw [hbv_2]; rfl), trivial⟩, hS.weak ⟨rfl, rfl, rfl, rfl, trivial⟩⟩)
   intro a w hF hS
   refine nil (then_n ?_)
   refine cond_b hF rfl (fun hbv_3 => ?_) (fun hbv_3 => ?_)
   ·replace h := cond_t h hbv_3
    refine region ?_
    refine step hF (Y.fieldAddr fo_34_0 hF rfl) rfl fun a hF => ?_
    refine step hF (Y.load1L 3 sz_3 hF rfl hS rfl rfl) rfl fun a hF => ?_
    refine step hF (Y.fieldAddr fo_63_2 hF rfl) rfl fun a hF => ?_
    refine step hF (Y.fieldAddr fo_34_0 hF rfl) rfl fun a hF => ?_
    refine step hF (Y.load1L 4 sz_3 hF rfl hS rfl rfl) rfl fun a hF => ?_
    refine step hF (Y.add hF rfl rfl) rfl fun a hF => ?_
    refine step hF (Y.fieldAddr fo_34_1 hF rfl) rfl fun a hF => ?_
    refine step hF (Y.load1L 3 sz_3 hF rfl hS rfl rfl) rfl fun a hF => ?_
    refine step hF (Y.fieldAddr fo_63_2 hF rfl) rfl fun a hF => ?_
    refine step hF (Y.fieldAddr fo_34_1 hF rfl) rfl fun a hF => ?_
    refine step hF (Y.load1L 4 sz_3 hF rfl hS rfl rfl) rfl fun a hF => ?_
    refine step hF (Y.add hF rfl rfl) rfl fun a hF => ?_
    obtain ⟨rv_4, hx_6, h⟩ := bind_some h
    refine O.callP (us := [.int .i64 (wr (z + e_1.Step.Low)), .int .i64 (wr (z_1 + e_1.Step.High))]) ca_37 hF hS (remontoirref00_To_ok hS.stab (wr (z + e_1.Step.Low)) (wr (z_1 + e_1.Step.High)) rv_4 hx_6) rfl rfl fun a w hF hS => ?_
    refine O.store (us := [.int .i64 rv_4.Low, .int .i64 rv_4.High]) 3 sz_34 hF rfl rfl rfl rfl hS rfl rfl fun a w hF hS => ?_
    refine nil (blk_n (then_n ?_))
    refine region ?_
    refine step hF (Y.move hF rfl) rfl fun a hF => ?_
    refine step hF (Y.add hF rfl rfl) rfl fun a hF => ?_
    refine step hF (Y.assign hF rfl) rfl fun a hF => ?_
    refine nil (then_n ?_)
    exact ⟨_, nxt_some h, (wr (i + 1)), rv_4.Low, rv_4.High, rfl, hF.weak ⟨rfl, rfl, rfl, rfl, rfl, rfl, trivial⟩, hS.weak ⟨rfl, rfl, rfl, trivial⟩⟩
   ·replace h := cond_f h hbv_3
    refine skip_ (blk_n (then_n ?_))
    refine region ?_
    refine step hF (Y.move hF rfl) rfl fun a hF => ?_
    refine step hF (Y.add hF rfl rfl) rfl fun a hF => ?_
    refine step hF (Y.assign hF rfl) rfl fun a hF => ?_
    refine nil (then_n ?_)
    exact ⟨_, nxt_some h, (wr (i + 1)), z, z_1, rfl, hF.weak ⟨rfl, rfl, rfl, rfl, rfl, rfl, trivial⟩, hS.weak ⟨rfl, rfl, rfl, trivial⟩⟩
  ·replace h := cond_f h hbv_1
   refine exit_ (then_x (then_x (blk_hit (then_n ?_))))
   replace h := ext_some h hxo
   refine seq ?_
   refine region ?_
   refine step hF (Y.loadNL 1 sz_26 hF rfl hS rfl rfl rfl) rfl fun a hF => ?_
   refine step hF (Y.move hF rfl) rfl fun a hF => ?_
   refine step hF (Y.move hF rfl) rfl fun a hF => ?_
   refine step hF (Y.move hF rfl) rfl fun a hF => ?_
   refine step hF (Y.add hF rfl rfl) rfl fun a hF => ?_
   obtain ⟨rv_5, hx_7, h⟩ := bind_some h
   refine O.callP (us := [.agg #[.int .i64 c.Hours, .slice p c.Rates.length c_1, .slice p_1 c.Opens.length c_2, .slice p_2 c.Pairs.length c_3], .int .i64 rv_2, .int .i64 rv_3, .int .i64 (wr (rv_3 + 1))]) ca_24 hF hS (beat_Drift_ok hS.stab c rv_2 rv_3 (wr (rv_3 + 1)) hs hs_1 hs_2 hG rv_5 hx_7) rfl rfl fun a w hF hS => ?_
   refine step hF (Y.move hF rfl) rfl fun a hF => ?_
   refine step hF (Y.extract hF rfl rfl) rfl fun a hF => ?_
   refine step hF (Y.extract hF rfl rfl) rfl fun a hF => ?_
   refine O.alloc 5 zc_34 hF hS rfl fun b_6 a w hF hS => ?_
   refine O.store (us := [.int .i64 rv_5.1.Low, .int .i64 rv_5.1.High]) 5 sz_34 hF rfl rfl rfl rfl hS rfl rfl fun a w hF hS => ?_
   refine step hF (Y.assign hF rfl) rfl fun a hF => ?_
   refine nil (then_n ?_)
   refine seq ?_
   refine region ?_
   refine step hF (Y.loadNL 1 sz_26 hF rfl hS rfl rfl rfl) rfl fun a hF => ?_
   refine step hF (Y.move hF rfl) rfl fun a hF => ?_
   refine step hF (Y.move hF rfl) rfl fun a hF => ?_
   obtain ⟨rv_6, hx_8, h⟩ := bind_some h
   refine O.callP (us := [.agg #[.int .i64 c.Hours, .slice p c.Rates.length c_1, .slice p_1 c.Opens.length c_2, .slice p_2 c.Pairs.length c_3], .int .i64 rv_2, .int .i64 rv_3]) ca_19 hF hS (beat_Offset_ok hS.stab c rv_2 rv_3 hs hs_1 hs_2 hG rv_6 hx_8) rfl rfl fun a w hF hS => ?_
   refine step hF (Y.move hF rfl) rfl fun a hF => ?_
   refine step hF (Y.extract hF rfl rfl) rfl fun a hF => ?_
   refine step hF (Y.extract hF rfl rfl) rfl fun a hF => ?_
   refine O.alloc 6 zc_34 hF hS rfl fun b_7 a w hF hS => ?_
   refine O.store (us := [.int .i64 rv_6.1.Low, .int .i64 rv_6.1.High]) 6 sz_34 hF rfl rfl rfl rfl hS rfl rfl fun a w hF hS => ?_
   refine step hF (Y.assign hF rfl) rfl fun a hF => ?_
   refine nil (then_n ?_)
   refine seq ?_
   refine region ?_
   refine step hF (Y.loadNL 1 sz_26 hF rfl hS rfl rfl rfl) rfl fun a hF => ?_
   refine step hF (Y.move hF rfl) rfl fun a hF => ?_
   obtain ⟨rv_7, hx_9, h⟩ := bind_some h
   refine O.callP (us := [.agg #[.int .i64 c.Hours, .slice p c.Rates.length c_1, .slice p_1 c.Opens.length c_2, .slice p_2 c.Pairs.length c_3], .int .i64 rv_3]) ca_30 hF hS (beat_Best_ok hS.stab c rv_3 hs hs_1 hs_2 hG rv_7 hx_9) rfl rfl fun a w hF hS => ?_
   refine step hF (Y.move hF rfl) rfl fun a hF => ?_
   refine step hF (Y.extract hF rfl rfl) rfl fun a hF => ?_
   refine step hF (Y.extract hF rfl rfl) rfl fun a hF => ?_
   refine step hF (Y.extract hF rfl rfl) rfl fun a hF => ?_
   refine step hF (Y.assign hF rfl) rfl fun a hF => ?_
   refine step hF (Y.assign hF rfl) rfl fun a hF => ?_
   refine step hF (Y.assign hF rfl) rfl fun a hF => ?_
   refine nil (then_n ?_)
   refine seq ?_
   refine seq ?_
   refine region ?_
   refine step hF (Y.move hF rfl) rfl fun a hF => ?_
   refine step hF (Y.neq hF rfl rfl) rfl fun a hF => ?_
   refine nil (then_n ?_)
   refine cond_b hF rfl (fun hbv_4 => ?_) (fun hbv_4 => ?_)
   ·replace h := cond_t h hbv_4
    refine seq ?_
    refine region ?_
    refine step hF (Y.move hF rfl) rfl fun a hF => ?_
    refine step hF (Y.eql hF rfl rfl) rfl fun a hF => ?_
    refine step hF (Y.move hF rfl) rfl fun a hF => ?_
    refine join (N := 231) (rs := []) (w0 := w0) (D0 := D0) 4 (us := [(2, .pointer (some ⟨b, 0, none⟩)), (4, .bool false), (5, .int .i64 rv_2), (6, .int .i64 rv_3), (7, .pointer (some ⟨b_3, 0, none⟩)), (10, .pointer (some ⟨b_6, 0, none⟩)), (11, .int .i64 rv_5.2), (12, .pointer (some ⟨b_7, 0, none⟩)), (13, .int .i64 rv_6.2), (14, .int .i64 rv_7.1), (15, .int .i64 rv_7.2.1), (16, .int .i64 rv_7.2.2), (108, .bool ((rv_5.2 == 22) && (rv_6.2 == rv_5.2)))]) (ms := [(1, .cells b [.int .i64 c.Hours, .slice p c.Rates.length c_1, .slice p_1 c.Opens.length c_2, .slice p_2 c.Pairs.length c_3] 26), (2, .cells b_1 [.int .i64 n.a0, .int .i64 n.a1] 28), (3, .cells b_3 [.int .i64 z, .int .i64 z_1] 34), (5, .cells b_6 [.int .i64 rv_5.1.Low, .int .i64 rv_5.1.High] 34), (6, .cells b_7 [.int .i64 rv_6.1.Low, .int .i64 rv_6.1.High] 34)]) (D' := D0) ?_ ?_
    ·rcases bcases (rv_5.2 == 22) with hbv_5 | hbv_5
     ·-- true
      refine guard_on hF rfl rfl hbv_5 ?_
      refine step hF (Y.move hF rfl) rfl fun a hF => ?_
      refine guard_on hF rfl rfl hbv_5 ?_
      refine step hF (Y.move hF rfl) rfl fun a hF => ?_
      refine guard_on hF rfl rfl hbv_5 ?_
      refine step hF (Y.eql hF rfl rfl) rfl fun a hF => ?_
      refine step hF (Y.pick_t hF rfl hbv_5 rfl) rfl fun a hF => ?_
      exact nil (then_n ⟨hF.weak ⟨rfl, rfl, rfl, rfl, rfl, rfl, rfl, rfl, rfl, rfl, rfl, rfl, (by rw [hbv_5]; rfl), trivial⟩, hS.weak ⟨rfl, rfl, rfl, rfl, rfl, trivial⟩⟩)
     ·-- false
      refine guard_off hF rfl rfl hbv_5 rfl fun a hF => ?_
      refine guard_off hF rfl rfl hbv_5 rfl fun a hF => ?_
      refine guard_off hF rfl rfl hbv_5 rfl fun a hF => ?_
      refine step hF (Y.pick_f hF rfl hbv_5 rfl) rfl fun a hF => ?_
      exact nil (then_n ⟨hF.weak ⟨rfl, rfl, rfl, rfl, rfl, rfl, rfl, rfl, rfl, rfl, rfl, rfl, (by rw [hbv_5]; rfl), trivial⟩, hS.weak ⟨rfl, rfl, rfl, rfl, rfl, trivial⟩⟩)
    intro a w hF hS
    refine step hF (Y.move hF rfl) rfl fun a hF => ?_
    refine join (N := 231) (rs := []) (w0 := w0) (D0 := D0) 4 (us := [(2, .pointer (some ⟨b, 0, none⟩)), (4, .bool false), (5, .int .i64 rv_2), (6, .int .i64 rv_3), (7, .pointer (some ⟨b_3, 0, none⟩)), (10, .pointer (some ⟨b_6, 0, none⟩)), (11, .int .i64 rv_5.2), (12, .pointer (some ⟨b_7, 0, none⟩)), (13, .int .i64 rv_6.2), (14, .int .i64 rv_7.1), (15, .int .i64 rv_7.2.1), (16, .int .i64 rv_7.2.2), (113, .bool (((rv_5.2 == 22) && (rv_6.2 == rv_5.2)) && (rv_7.2.2 == rv_5.2)))]) (ms := [(1, .cells b [.int .i64 c.Hours, .slice p c.Rates.length c_1, .slice p_1 c.Opens.length c_2, .slice p_2 c.Pairs.length c_3] 26), (2, .cells b_1 [.int .i64 n.a0, .int .i64 n.a1] 28), (3, .cells b_3 [.int .i64 z, .int .i64 z_1] 34), (5, .cells b_6 [.int .i64 rv_5.1.Low, .int .i64 rv_5.1.High] 34), (6, .cells b_7 [.int .i64 rv_6.1.Low, .int .i64 rv_6.1.High] 34)]) (D' := D0) ?_ ?_
    ·rcases bcases ((rv_5.2 == 22) && (rv_6.2 == rv_5.2)) with hbv_6 | hbv_6
     ·-- true
      refine guard_on hF rfl rfl hbv_6 ?_
      refine step hF (Y.move hF rfl) rfl fun a hF => ?_
      refine guard_on hF rfl rfl hbv_6 ?_
      refine step hF (Y.move hF rfl) rfl fun a hF => ?_
      refine guard_on hF rfl rfl hbv_6 ?_
      refine step hF (Y.eql hF rfl rfl) rfl fun a hF => ?_
      refine step hF (Y.pick_t hF rfl hbv_6 rfl) rfl fun a hF => ?_
      exact nil (then_n ⟨hF.weak ⟨rfl, rfl, rfl, rfl, rfl, rfl, rfl, rfl, rfl, rfl, rfl, rfl, (by rw [hbv_6]; rfl), trivial⟩, hS.weak ⟨rfl, rfl, rfl, rfl, rfl, trivial⟩⟩)
     ·-- false
      refine guard_off hF rfl rfl hbv_6 rfl fun a hF => ?_
      refine guard_off hF rfl rfl hbv_6 rfl fun a hF => ?_
      refine guard_off hF rfl rfl hbv_6 rfl fun a hF => ?_
      refine step hF (Y.pick_f hF rfl hbv_6 rfl) rfl fun a hF => ?_
      exact nil (then_n ⟨hF.weak ⟨rfl, rfl, rfl, rfl, rfl, rfl, rfl, rfl, rfl, rfl, rfl, rfl, (by rw [hbv_6]; rfl), trivial⟩, hS.weak ⟨rfl, rfl, rfl, rfl, rfl, trivial⟩⟩)
    intro a w hF hS
    refine step hF (Y.move hF rfl) rfl fun a hF => ?_
    refine join (N := 231) (rs := []) (w0 := w0) (D0 := D0) 3 (us := [(2, .pointer (some ⟨b, 0, none⟩)), (4, .bool false), (5, .int .i64 rv_2), (6, .int .i64 rv_3), (7, .pointer (some ⟨b_3, 0, none⟩)), (10, .pointer (some ⟨b_6, 0, none⟩)), (11, .int .i64 rv_5.2), (12, .pointer (some ⟨b_7, 0, none⟩)), (13, .int .i64 rv_6.2), (14, .int .i64 rv_7.1), (15, .int .i64 rv_7.2.1), (16, .int .i64 rv_7.2.2), (117, .bool ((((rv_5.2 == 22) && (rv_6.2 == rv_5.2)) && (rv_7.2.2 == rv_5.2)) && (rv_7.1 == 0)))]) (ms := [(1, .cells b [.int .i64 c.Hours, .slice p c.Rates.length c_1, .slice p_1 c.Opens.length c_2, .slice p_2 c.Pairs.length c_3] 26), (2, .cells b_1 [.int .i64 n.a0, .int .i64 n.a1] 28), (3, .cells b_3 [.int .i64 z, .int .i64 z_1] 34), (5, .cells b_6 [.int .i64 rv_5.1.Low, .int .i64 rv_5.1.High] 34), (6, .cells b_7 [.int .i64 rv_6.1.Low, .int .i64 rv_6.1.High] 34)]) (D' := D0) ?_ ?_
    ·rcases bcases (((rv_5.2 == 22) && (rv_6.2 == rv_5.2)) && (rv_7.2.2 == rv_5.2)) with hbv_7 | hbv_7
     ·-- true
      refine guard_on hF rfl rfl hbv_7 ?_
      refine step hF (Y.move hF rfl) rfl fun a hF => ?_
      refine guard_on hF rfl rfl hbv_7 ?_
      refine step hF (Y.eql hF rfl rfl) rfl fun a hF => ?_
      refine step hF (Y.pick_t hF rfl hbv_7 rfl) rfl fun a hF => ?_
      exact nil (then_n ⟨hF.weak ⟨rfl, rfl, rfl, rfl, rfl, rfl, rfl, rfl, rfl, rfl, rfl, rfl, (by rw [hbv_7]; rfl), trivial⟩, hS.weak ⟨rfl, rfl, rfl, rfl, rfl, trivial⟩⟩)
     ·-- false
      refine guard_off hF rfl rfl hbv_7 rfl fun a hF => ?_
      refine guard_off hF rfl rfl hbv_7 rfl fun a hF => ?_
      refine step hF (Y.pick_f hF rfl hbv_7 rfl) rfl fun a hF => ?_
      exact nil (then_n ⟨hF.weak ⟨rfl, rfl, rfl, rfl, rfl, rfl, rfl, rfl, rfl, rfl, rfl, rfl, (by rw [hbv_7]; rfl), trivial⟩, hS.weak ⟨rfl, rfl, rfl, rfl, rfl, trivial⟩⟩)
    intro a w hF hS
    refine step hF (Y.move hF rfl) rfl fun a hF => ?_
    refine join (N := 231) (rs := []) (w0 := w0) (D0 := D0) 3 (us := [(2, .pointer (some ⟨b, 0, none⟩)), (4, .bool false), (5, .int .i64 rv_2), (6, .int .i64 rv_3), (7, .pointer (some ⟨b_3, 0, none⟩)), (10, .pointer (some ⟨b_6, 0, none⟩)), (11, .int .i64 rv_5.2), (12, .pointer (some ⟨b_7, 0, none⟩)), (13, .int .i64 rv_6.2), (14, .int .i64 rv_7.1), (15, .int .i64 rv_7.2.1), (16, .int .i64 rv_7.2.2), (121, .bool (((((rv_5.2 == 22) && (rv_6.2 == rv_5.2)) && (rv_7.2.2 == rv_5.2)) && (rv_7.1 == 0)) && (rv_7.2.1 == 0)))]) (ms := [(1, .cells b [.int .i64 c.Hours, .slice p c.Rates.length c_1, .slice p_1 c.Opens.length c_2, .slice p_2 c.Pairs.length c_3] 26), (2, .cells b_1 [.int .i64 n.a0, .int .i64 n.a1] 28), (3, .cells b_3 [.int .i64 z, .int .i64 z_1] 34), (5, .cells b_6 [.int .i64 rv_5.1.Low, .int .i64 rv_5.1.High] 34), (6, .cells b_7 [.int .i64 rv_6.1.Low, .int .i64 rv_6.1.High] 34)]) (D' := D0) ?_ ?_
    ·rcases bcases ((((rv_5.2 == 22) && (rv_6.2 == rv_5.2)) && (rv_7.2.2 == rv_5.2)) && (rv_7.1 == 0)) with hbv_8 | hbv_8
     ·-- true
      refine guard_on hF rfl rfl hbv_8 ?_
      refine step hF (Y.move hF rfl) rfl fun a hF => ?_
      refine guard_on hF rfl rfl hbv_8 ?_
      refine step hF (Y.eql hF rfl rfl) rfl fun a hF => ?_
      refine step hF (Y.pick_t hF rfl hbv_8 rfl) rfl fun a hF => ?_
      exact nil (then_n ⟨hF.weak ⟨rfl, rfl, rfl, rfl, rfl, rfl, rfl, rfl, rfl, rfl, rfl, rfl, (by rw [hbv_8]; rfl), trivial⟩, hS.weak ⟨rfl, rfl, rfl, rfl, rfl, trivial⟩⟩)
     ·-- false
      refine guard_off hF rfl rfl hbv_8 rfl fun a hF => ?_
      refine guard_off hF rfl rfl hbv_8 rfl fun a hF => ?_
      refine step hF (Y.pick_f hF rfl hbv_8 rfl) rfl fun a hF => ?_
      exact nil (then_n ⟨hF.weak ⟨rfl, rfl, rfl, rfl, rfl, rfl, rfl, rfl, rfl, rfl, rfl, rfl, (by rw [hbv_8]; rfl), trivial⟩, hS.weak ⟨rfl, rfl, rfl, rfl, rfl, trivial⟩⟩)
    intro a w hF hS
    refine step hF (Y.move hF rfl) rfl fun a hF => ?_
    obtain ⟨t, ht, h⟩ := bind_some h
    refine join (N := 231) (rs := []) (w0 := w0) (D0 := D0) 2 (us := [(2, .pointer (some ⟨b, 0, none⟩)), (4, .bool false), (5, .int .i64 rv_2), (6, .int .i64 rv_3), (7, .pointer (some ⟨b_3, 0, none⟩)), (10, .pointer (some ⟨b_6, 0, none⟩)), (11, .int .i64 rv_5.2), (12, .pointer (some ⟨b_7, 0, none⟩)), (13, .int .i64 rv_6.2), (14, .int .i64 rv_7.1), (15, .int .i64 rv_7.2.1), (16, .int .i64 rv_7.2.2), (124, .bool t)]) (ms := [(1, .cells b [.int .i64 c.Hours, .slice p c.Rates.length c_1, .slice p_1 c.Opens.length c_2, .slice p_2 c.Pairs.length c_3] 26), (2, .cells b_1 [.int .i64 n.a0, .int .i64 n.a1] 28), (3, .cells b_3 [.int .i64 z, .int .i64 z_1] 34), (5, .cells b_6 [.int .i64 rv_5.1.Low, .int .i64 rv_5.1.High] 34), (6, .cells b_7 [.int .i64 rv_6.1.Low, .int .i64 rv_6.1.High] 34)]) (D' := D0) ?_ ?_
    ·rcases bcases (((((rv_5.2 == 22) && (rv_6.2 == rv_5.2)) && (rv_7.2.2 == rv_5.2)) && (rv_7.1 == 0)) && (rv_7.2.1 == 0)) with hbv_9 | hbv_9
     ·-- true
      replace h := cond_t ht hbv_9
      refine guard_on hF rfl rfl hbv_9 ?_
      obtain ⟨rv_8, hx_10, h⟩ := bind_some h
      refine O.callP (us := []) ca_21 hF hS (remontoirlaw02_works_ok hS.stab hG rv_8 hx_10) rfl rfl fun a w hF hS => ?_
      refine step hF (Y.pick_t hF rfl hbv_9 rfl) rfl fun a hF => ?_
      obtain rfl := some_inj h
      exact nil (then_n ⟨hF.weak ⟨rfl, rfl, rfl, rfl, rfl, rfl, rfl, rfl, rfl, rfl, rfl, rfl, rfl, trivial⟩, hS.weak ⟨rfl, rfl, rfl, rfl, rfl, trivial⟩⟩)
     ·-- false
      replace h := cond_f ht hbv_9
      refine guard_off hF rfl rfl hbv_9 rfl fun a hF => ?_
      refine step hF (Y.pick_f hF rfl hbv_9 rfl) rfl fun a hF => ?_
      obtain rfl := some_inj h
      exact nil (then_n ⟨hF.weak ⟨rfl, rfl, rfl, rfl, rfl, rfl, rfl, rfl, rfl, rfl, rfl, rfl, rfl, trivial⟩, hS.weak ⟨rfl, rfl, rfl, rfl, rfl, trivial⟩⟩)
    intro a w hF hS
    refine step hF (Y.assign hF rfl) rfl fun a hF => ?_
    refine nil (then_n ?_)
    refine ret_ (then_r ?_)
    obtain rfl := some_inj h
    exact leaveP Tryd.results13 hF hS (.cons (.tmp rfl) .nil) .nil rfl
   ·replace h := cond_f h hbv_4
    refine skip_ (then_n ?_)
    refine seq ?_
    refine region ?_
    refine step hF (Y.loadNL 1 sz_26 hF rfl hS rfl rfl rfl) rfl fun a hF => ?_
    refine step hF (Y.move hF rfl) rfl fun a hF => ?_
    refine step hF (Y.move hF rfl) rfl fun a hF => ?_
    obtain ⟨rv_9, hx_11, h⟩ := bind_some h
    refine O.callP (us := [.agg #[.int .i64 c.Hours, .slice p c.Rates.length c_1, .slice p_1 c.Opens.length c_2, .slice p_2 c.Pairs.length c_3], .int .i64 rv_7.1, .int .i64 rv_3]) ca_19 hF hS (beat_Offset_ok hS.stab c rv_7.1 rv_3 hs hs_1 hs_2 hG rv_9 hx_11) rfl rfl fun a w hF hS => ?_
    refine step hF (Y.move hF rfl) rfl fun a hF => ?_
    refine step hF (Y.extract hF rfl rfl) rfl fun a hF => ?_
    refine step hF (Y.extract hF rfl rfl) rfl fun a hF => ?_
    refine O.alloc 7 zc_34 hF hS rfl fun b_8 a w hF hS => ?_
    refine O.store (us := [.int .i64 rv_9.1.Low, .int .i64 rv_9.1.High]) 7 sz_34 hF rfl rfl rfl rfl hS rfl rfl fun a w hF hS => ?_
    refine step hF (Y.assign hF rfl) rfl fun a hF => ?_
    refine nil (then_n ?_)
    refine seq ?_
    refine seq ?_
    refine region ?_
    refine step hF (Y.move hF rfl) rfl fun a hF => ?_
    refine step hF (Y.neq hF rfl rfl) rfl fun a hF => ?_
    refine step hF (Y.move hF rfl) rfl fun a hF => ?_
    refine join (N := 231) (rs := []) (w0 := w0) (D0 := D0) 3 (us := [(2, .pointer (some ⟨b, 0, none⟩)), (4, .bool false), (5, .int .i64 rv_2), (6, .int .i64 rv_3), (7, .pointer (some ⟨b_3, 0, none⟩)), (10, .pointer (some ⟨b_6, 0, none⟩)), (11, .int .i64 rv_5.2), (12, .pointer (some ⟨b_7, 0, none⟩)), (13, .int .i64 rv_6.2), (14, .int .i64 rv_7.1), (15, .int .i64 rv_7.2.1), (17, .pointer (some ⟨b_8, 0, none⟩)), (18, .int .i64 rv_9.2), (137, .bool ((rv_6.2 != 0) || (rv_7.2.2 != 0)))]) (ms := [(1, .cells b [.int .i64 c.Hours, .slice p c.Rates.length c_1, .slice p_1 c.Opens.length c_2, .slice p_2 c.Pairs.length c_3] 26), (2, .cells b_1 [.int .i64 n.a0, .int .i64 n.a1] 28), (3, .cells b_3 [.int .i64 z, .int .i64 z_1] 34), (5, .cells b_6 [.int .i64 rv_5.1.Low, .int .i64 rv_5.1.High] 34), (6, .cells b_7 [.int .i64 rv_6.1.Low, .int .i64 rv_6.1.High] 34), (7, .cells b_8 [.int .i64 rv_9.1.Low, .int .i64 rv_9.1.High] 34)]) (D' := D0) ?_ ?_
    ·rcases bcases (rv_6.2 != 0) with hbv_10 | hbv_10
     ·-- true
      refine guard_off hF rfl rfl hbv_10 rfl fun a hF => ?_
      refine guard_off hF rfl rfl hbv_10 rfl fun a hF => ?_
      refine step hF (Y.pick_t hF rfl hbv_10 rfl) rfl fun a hF => ?_
      exact nil (then_n ⟨hF.weak ⟨rfl, rfl, rfl, rfl, rfl, rfl, rfl, rfl, rfl, rfl, rfl, rfl, rfl, (by rw [hbv_10]; rfl), trivial⟩, hS.weak ⟨rfl, rfl, rfl, rfl, rfl, rfl, trivial⟩⟩)
     ·-- false
      refine guard_on hF rfl rfl hbv_10 ?_
      refine step hF (Y.move hF rfl) rfl fun a hF => ?_
      refine guard_on hF rfl rfl hbv_10 ?_
      refine step hF (Y.neq hF rfl rfl) rfl fun a hF => ?_
      refine step hF (Y.pick_f hF rfl hbv_10 rfl) rfl fun a hF => ?_
      exact nil (then_n ⟨hF.weak ⟨rfl, rfl, rfl, rfl, rfl, rfl, rfl, rfl, rfl, rfl, rfl, rfl, rfl, (by rw [hbv_10]; rfl), trivial⟩, hS.weak ⟨rfl, rfl, rfl, rfl, rfl, rfl, trivial⟩⟩)
    intro a w hF hS
    refine step hF (Y.move hF rfl) rfl fun a hF => ?_
    refine join (N := 231) (rs := []) (w0 := w0) (D0 := D0) 3 (us := [(2, .pointer (some ⟨b, 0, none⟩)), (4, .bool false), (5, .int .i64 rv_2), (6, .int .i64 rv_3), (7, .pointer (some ⟨b_3, 0, none⟩)), (10, .pointer (some ⟨b_6, 0, none⟩)), (11, .int .i64 rv_5.2), (12, .pointer (some ⟨b_7, 0, none⟩)), (13, .int .i64 rv_6.2), (14, .int .i64 rv_7.1), (15, .int .i64 rv_7.2.1), (17, .pointer (some ⟨b_8, 0, none⟩)), (141, .bool (((rv_6.2 != 0) || (rv_7.2.2 != 0)) || (rv_9.2 != 0)))]) (ms := [(1, .cells b [.int .i64 c.Hours, .slice p c.Rates.length c_1, .slice p_1 c.Opens.length c_2, .slice p_2 c.Pairs.length c_3] 26), (2, .cells b_1 [.int .i64 n.a0, .int .i64 n.a1] 28), (3, .cells b_3 [.int .i64 z, .int .i64 z_1] 34), (5, .cells b_6 [.int .i64 rv_5.1.Low, .int .i64 rv_5.1.High] 34), (6, .cells b_7 [.int .i64 rv_6.1.Low, .int .i64 rv_6.1.High] 34), (7, .cells b_8 [.int .i64 rv_9.1.Low, .int .i64 rv_9.1.High] 34)]) (D' := D0) ?_ ?_
    ·rcases bcases ((rv_6.2 != 0) || (rv_7.2.2 != 0)) with hbv_11 | hbv_11
     ·-- true
      refine guard_off hF rfl rfl hbv_11 rfl fun a hF => ?_
      refine guard_off hF rfl rfl hbv_11 rfl fun a hF => ?_
      refine step hF (Y.pick_t hF rfl hbv_11 rfl) rfl fun a hF => ?_
      exact nil (then_n ⟨hF.weak ⟨rfl, rfl, rfl, rfl, rfl, rfl, rfl, rfl, rfl, rfl, rfl, rfl, (by rw [hbv_11]; rfl), trivial⟩, hS.weak ⟨rfl, rfl, rfl, rfl, rfl, rfl, trivial⟩⟩)
     ·-- false
      refine guard_on hF rfl rfl hbv_11 ?_
      refine step hF (Y.move hF rfl) rfl fun a hF => ?_
      refine guard_on hF rfl rfl hbv_11 ?_
      refine step hF (Y.neq hF rfl rfl) rfl fun a hF => ?_
      refine step hF (Y.pick_f hF rfl hbv_11 rfl) rfl fun a hF => ?_
      exact nil (then_n ⟨hF.weak ⟨rfl, rfl, rfl, rfl, rfl, rfl, rfl, rfl, rfl, rfl, rfl, rfl, (by rw [hbv_11]; rfl), trivial⟩, hS.weak ⟨rfl, rfl, rfl, rfl, rfl, rfl, trivial⟩⟩)
    intro a w hF hS
    refine step hF (Y.move hF rfl) rfl fun a hF => ?_
    obtain ⟨t_1, ht_1, h⟩ := bind_some h
    refine join (N := 231) (rs := []) (w0 := w0) (D0 := D0) 5 (us := [(2, .pointer (some ⟨b, 0, none⟩)), (4, .bool false), (5, .int .i64 rv_2), (6, .int .i64 rv_3), (10, .pointer (some ⟨b_6, 0, none⟩)), (11, .int .i64 rv_5.2), (12, .pointer (some ⟨b_7, 0, none⟩)), (13, .int .i64 rv_6.2), (14, .int .i64 rv_7.1), (15, .int .i64 rv_7.2.1), (17, .pointer (some ⟨b_8, 0, none⟩)), (147, .bool t_1)]) (ms := [(1, .cells b [.int .i64 c.Hours, .slice p c.Rates.length c_1, .slice p_1 c.Opens.length c_2, .slice p_2 c.Pairs.length c_3] 26), (2, .cells b_1 [.int .i64 n.a0, .int .i64 n.a1] 28), (3, .cells b_3 [.int .i64 z, .int .i64 z_1] 34), (5, .cells b_6 [.int .i64 rv_5.1.Low, .int .i64 rv_5.1.High] 34), (6, .cells b_7 [.int .i64 rv_6.1.Low, .int .i64 rv_6.1.High] 34), (7, .cells b_8 [.int .i64 rv_9.1.Low, .int .i64 rv_9.1.High] 34)]) (D' := D0) ?_ ?_
    ·rcases bcases (((rv_6.2 != 0) || (rv_7.2.2 != 0)) || (rv_9.2 != 0)) with hbv_12 | hbv_12
     ·-- true
      replace h := cond_t ht_1 hbv_12
      refine guard_off hF rfl rfl hbv_12 rfl fun a hF => ?_
      refine guard_off hF rfl rfl hbv_12 rfl fun a hF => ?_
      refine guard_off hF rfl rfl hbv_12 rfl fun a hF => ?_
      refine guard_off hF rfl rfl hbv_12 rfl fun a hF => ?_
      refine step hF (Y.pick_t hF rfl hbv_12 rfl) rfl fun a hF => ?_
      obtain rfl := some_inj h
      exact nil (then_n ⟨hF.weak ⟨rfl, rfl, rfl, rfl, rfl, rfl, rfl, rfl, rfl, rfl, rfl, rfl, trivial⟩, hS.weak ⟨rfl, rfl, rfl, rfl, rfl, rfl, trivial⟩⟩)
     ·-- false
      replace h := cond_f ht_1 hbv_12
      refine guard_on hF rfl rfl hbv_12 ?_
      refine step hF (Y.loadNL 5 sz_34 hF rfl hS rfl rfl rfl) rfl fun a hF => ?_
      refine guard_on hF rfl rfl hbv_12 ?_
      refine step hF (Y.loadNL 3 sz_34 hF rfl hS rfl rfl rfl) rfl fun a hF => ?_
      refine guard_on hF rfl rfl hbv_12 ?_
      obtain ⟨rv_10, hx_12, h⟩ := bind_some h
      refine O.callP (us := [.agg #[.int .i64 rv_5.1.Low, .int .i64 rv_5.1.High], .agg #[.int .i64 z, .int .i64 z_1]]) ca_36 hF hS (remontoirref00_Within_ok hS.stab rv_5.1 (Span.mk z z_1) rv_10 hx_12) rfl rfl fun a w hF hS => ?_
      refine guard_on hF rfl rfl hbv_12 ?_
      refine step hF (Y.not hF rfl) rfl fun a hF => ?_
      refine step hF (Y.pick_f hF rfl hbv_12 rfl) rfl fun a hF => ?_
      obtain rfl := some_inj h
      exact nil (then_n ⟨hF.weak ⟨rfl, rfl, rfl, rfl, rfl, rfl, rfl, rfl, rfl, rfl, rfl, rfl, trivial⟩, hS.weak ⟨rfl, rfl, rfl, rfl, rfl, rfl, trivial⟩⟩)
    intro a w hF hS
    refine step hF (Y.move hF rfl) rfl fun a hF => ?_
    refine join (N := 231) (rs := []) (w0 := w0) (D0 := D0) 8 (us := [(2, .pointer (some ⟨b, 0, none⟩)), (4, .bool false), (5, .int .i64 rv_2), (6, .int .i64 rv_3), (10, .pointer (some ⟨b_6, 0, none⟩)), (11, .int .i64 rv_5.2), (12, .pointer (some ⟨b_7, 0, none⟩)), (13, .int .i64 rv_6.2), (14, .int .i64 rv_7.1), (15, .int .i64 rv_7.2.1), (17, .pointer (some ⟨b_8, 0, none⟩)), (156, .bool (t_1 || (decide (rv_7.2.1 > (wr (rv_6.1.High - rv_6.1.Low))))))]) (ms := [(1, .cells b [.int .i64 c.Hours, .slice p c.Rates.length c_1, .slice p_1 c.Opens.length c_2, .slice p_2 c.Pairs.length c_3] 26), (2, .cells b_1 [.int .i64 n.a0, .int .i64 n.a1] 28), (3, .cells b_3 [.int .i64 z, .int .i64 z_1] 34), (5, .cells b_6 [.int .i64 rv_5.1.Low, .int .i64 rv_5.1.High] 34), (6, .cells b_7 [.int .i64 rv_6.1.Low, .int .i64 rv_6.1.High] 34), (7, .cells b_8 [.int .i64 rv_9.1.Low, .int .i64 rv_9.1.High] 34)]) (D' := D0) ?_ ?_
    ·rcases bcases t_1 with hbv_13 | hbv_13
     ·-- true
      refine guard_off hF rfl rfl hbv_13 rfl fun a hF => ?_
      refine guard_off hF rfl rfl hbv_13 rfl fun a hF => ?_
      refine guard_off hF rfl rfl hbv_13 rfl fun a hF => ?_
      refine guard_off hF rfl rfl hbv_13 rfl fun a hF => ?_
      refine guard_off hF rfl rfl hbv_13 rfl fun a hF => ?_
      refine guard_off hF rfl rfl hbv_13 rfl fun a hF => ?_
      refine guard_off hF rfl rfl hbv_13 rfl fun a hF => ?_
      refine step hF (Y.pick_t hF rfl hbv_13 rfl) rfl fun a hF => ?_
      exact nil (then_n ⟨hF.weak ⟨rfl, rfl, rfl, rfl, rfl, rfl, rfl, rfl, rfl, rfl, rfl, (by rw [hbv_13]; rfl), trivial⟩, hS.weak ⟨rfl, rfl, rfl, rfl, rfl, rfl, trivial⟩⟩)
     ·-- false
      refine guard_on hF rfl rfl hbv_13 ?_
      refine step hF (Y.move hF rfl) rfl fun a hF => ?_
      refine guard_on hF rfl rfl hbv_13 ?_
      refine step hF (Y.fieldAddr fo_34_1 hF rfl) rfl fun a hF => ?_
      refine guard_on hF rfl rfl hbv_13 ?_
      refine step hF (Y.load1L 6 sz_3 hF rfl hS rfl rfl) rfl fun a hF => ?_
      refine guard_on hF rfl rfl hbv_13 ?_
      refine step hF (Y.fieldAddr fo_34_0 hF rfl) rfl fun a hF => ?_
      refine guard_on hF rfl rfl hbv_13 ?_
      refine step hF (Y.load1L 6 sz_3 hF rfl hS rfl rfl) rfl fun a hF => ?_
      refine guard_on hF rfl rfl hbv_13 ?_
      refine step hF (Y.sub hF rfl rfl) rfl fun a hF => ?_
      refine guard_on hF rfl rfl hbv_13 ?_
      refine step hF (Y.gtr hF rfl rfl) rfl fun a hF => ?_
      refine step hF (Y.pick_f hF rfl hbv_13 rfl) rfl fun a hF => ?_
      exact nil (then_n ⟨hF.weak ⟨rfl, rfl, rfl, rfl, rfl, rfl, rfl, rfl, rfl, rfl, rfl, (by rw [hbv_13]; rfl), trivial⟩, hS.weak ⟨rfl, rfl, rfl, rfl, rfl, rfl, trivial⟩⟩)
    intro a w hF hS
    refine step hF (Y.move hF rfl) rfl fun a hF => ?_
    refine join (N := 231) (rs := []) (w0 := w0) (D0 := D0) 8 (us := [(2, .pointer (some ⟨b, 0, none⟩)), (4, .bool false), (5, .int .i64 rv_2), (6, .int .i64 rv_3), (10, .pointer (some ⟨b_6, 0, none⟩)), (11, .int .i64 rv_5.2), (12, .pointer (some ⟨b_7, 0, none⟩)), (13, .int .i64 rv_6.2), (14, .int .i64 rv_7.1), (15, .int .i64 rv_7.2.1), (165, .bool ((t_1 || (decide (rv_7.2.1 > (wr (rv_6.1.High - rv_6.1.Low))))) || ((wr (rv_9.1.High - rv_9.1.Low)) != rv_7.2.1)))]) (ms := [(1, .cells b [.int .i64 c.Hours, .slice p c.Rates.length c_1, .slice p_1 c.Opens.length c_2, .slice p_2 c.Pairs.length c_3] 26), (2, .cells b_1 [.int .i64 n.a0, .int .i64 n.a1] 28), (3, .cells b_3 [.int .i64 z, .int .i64 z_1] 34), (5, .cells b_6 [.int .i64 rv_5.1.Low, .int .i64 rv_5.1.High] 34), (6, .cells b_7 [.int .i64 rv_6.1.Low, .int .i64 rv_6.1.High] 34), (7, .cells b_8 [.int .i64 rv_9.1.Low, .int .i64 rv_9.1.High] 34)]) (D' := D0) ?_ ?_
    ·rcases bcases (t_1 || (decide (rv_7.2.1 > (wr (rv_6.1.High - rv_6.1.Low))))) with hbv_14 | hbv_14
     ·-- true
      refine guard_off hF rfl rfl hbv_14 rfl fun a hF => ?_
      refine guard_off hF rfl rfl hbv_14 rfl fun a hF => ?_
      refine guard_off hF rfl rfl hbv_14 rfl fun a hF => ?_
      refine guard_off hF rfl rfl hbv_14 rfl fun a hF => ?_
      refine guard_off hF rfl rfl hbv_14 rfl fun a hF => ?_
      refine guard_off hF rfl rfl hbv_14 rfl fun a hF => ?_
      refine guard_off hF rfl rfl hbv_14 rfl fun a hF => ?_
      refine step hF (Y.pick_t hF rfl hbv_14 rfl) rfl fun a hF => ?_
      exact nil (then_n ⟨hF.weak ⟨rfl, rfl, rfl, rfl, rfl, rfl, rfl, rfl, rfl, rfl, (by rw [hbv_14]; rfl), trivial⟩, hS.weak ⟨rfl, rfl, rfl, rfl, rfl, rfl, trivial⟩⟩)
     ·-- false
      refine guard_on hF rfl rfl hbv_14 ?_
      refine step hF (Y.fieldAddr fo_34_1 hF rfl) rfl fun a hF => ?_
      refine guard_on hF rfl rfl hbv_14 ?_
      refine step hF (Y.load1L 7 sz_3 hF rfl hS rfl rfl) rfl fun a hF => ?_
      refine guard_on hF rfl rfl hbv_14 ?_
      refine step hF (Y.fieldAddr fo_34_0 hF rfl) rfl fun a hF => ?_
      refine guard_on hF rfl rfl hbv_14 ?_
      refine step hF (Y.load1L 7 sz_3 hF rfl hS rfl rfl) rfl fun a hF => ?_
      refine guard_on hF rfl rfl hbv_14 ?_
      refine step hF (Y.sub hF rfl rfl) rfl fun a hF => ?_
      refine guard_on hF rfl rfl hbv_14 ?_
      refine step hF (Y.move hF rfl) rfl fun a hF => ?_
      refine guard_on hF rfl rfl hbv_14 ?_
      refine step hF (Y.neq hF rfl rfl) rfl fun a hF => ?_
      refine step hF (Y.pick_f hF rfl hbv_14 rfl) rfl fun a hF => ?_
      exact nil (then_n ⟨hF.weak ⟨rfl, rfl, rfl, rfl, rfl, rfl, rfl, rfl, rfl, rfl, (by rw [hbv_14]; rfl), trivial⟩, hS.weak ⟨rfl, rfl, rfl, rfl, rfl, rfl, trivial⟩⟩)
    intro a w hF hS
    refine step hF (Y.move hF rfl) rfl fun a hF => ?_
    refine join (N := 231) (rs := []) (w0 := w0) (D0 := D0) 13 (us := [(2, .pointer (some ⟨b, 0, none⟩)), (4, .bool false), (5, .int .i64 rv_2), (6, .int .i64 rv_3), (10, .pointer (some ⟨b_6, 0, none⟩)), (11, .int .i64 rv_5.2), (12, .pointer (some ⟨b_7, 0, none⟩)), (13, .int .i64 rv_6.2), (179, .bool (((t_1 || (decide (rv_7.2.1 > (wr (rv_6.1.High - rv_6.1.Low))))) || ((wr (rv_9.1.High - rv_9.1.Low)) != rv_7.2.1)) || ((decide (rv_2 < rv_7.1)) && ((wr (rv_6.1.High - rv_6.1.Low)) == rv_7.2.1))))]) (ms := [(1, .cells b [.int .i64 c.Hours, .slice p c.Rates.length c_1, .slice p_1 c.Opens.length c_2, .slice p_2 c.Pairs.length c_3] 26), (2, .cells b_1 [.int .i64 n.a0, .int .i64 n.a1] 28), (3, .cells b_3 [.int .i64 z, .int .i64 z_1] 34), (5, .cells b_6 [.int .i64 rv_5.1.Low, .int .i64 rv_5.1.High] 34), (6, .cells b_7 [.int .i64 rv_6.1.Low, .int .i64 rv_6.1.High] 34), (7, .cells b_8 [.int .i64 rv_9.1.Low, .int .i64 rv_9.1.High] 34)]) (D' := D0) ?_ ?_
    ·rcases bcases ((t_1 || (decide (rv_7.2.1 > (wr (rv_6.1.High - rv_6.1.Low))))) || ((wr (rv_9.1.High - rv_9.1.Low)) != rv_7.2.1)) with hbv_15 | hbv_15
     ·-- true
      refine guard_off hF rfl rfl hbv_15 rfl fun a hF => ?_
      refine guard_off hF rfl rfl hbv_15 rfl fun a hF => ?_
      refine guard_off hF rfl rfl hbv_15 rfl fun a hF => ?_
      refine guard_off hF rfl rfl hbv_15 rfl fun a hF => ?_
      refine guard_offu hF rfl rfl rfl fun a hF => ?_
      refine guard_offu hF rfl rfl rfl fun a hF => ?_
      refine guard_offu hF rfl rfl rfl fun a hF => ?_
      refine guard_offu hF rfl rfl rfl fun a hF => ?_
      refine guard_offu hF rfl rfl rfl fun a hF => ?_
      refine guard_offu hF rfl rfl rfl fun a hF => ?_
      refine guard_offu hF rfl rfl rfl fun a hF => ?_
      refine guard_off hF rfl rfl hbv_15 rfl fun a hF => ?_
      refine step hF (Y.pick_t hF rfl hbv_15 rfl) rfl fun a hF => ?_
      exact nil (then_n ⟨hF.weak ⟨rfl, rfl, rfl, rfl, rfl, rfl, rfl, rfl, (by rw [hbv_15]; rfl), trivial⟩, hS.weak ⟨rfl, rfl, rfl, rfl, rfl, rfl, trivial⟩⟩)
     ·-- false
      refine guard_on hF rfl rfl hbv_15 ?_
      refine step hF (Y.move hF rfl) rfl fun a hF => ?_
      refine guard_on hF rfl rfl hbv_15 ?_
      refine step hF (Y.move hF rfl) rfl fun a hF => ?_
      refine guard_on hF rfl rfl hbv_15 ?_
      refine step hF (Y.lss hF rfl rfl) rfl fun a hF => ?_
      refine guard_on hF rfl rfl hbv_15 ?_
      refine step hF (Y.move hF rfl) rfl fun a hF => ?_
      refine join (N := 231) (rs := []) (w0 := w0) (D0 := D0) 8 (us := [(2, .pointer (some ⟨b, 0, none⟩)), (4, .bool false), (5, .int .i64 rv_2), (6, .int .i64 rv_3), (10, .pointer (some ⟨b_6, 0, none⟩)), (11, .int .i64 rv_5.2), (12, .pointer (some ⟨b_7, 0, none⟩)), (13, .int .i64 rv_6.2), (166, .bool ((t_1 || (decide (rv_7.2.1 > (wr (rv_6.1.High - rv_6.1.Low))))) || ((wr (rv_9.1.High - rv_9.1.Low)) != rv_7.2.1))), (178, .bool ((decide (rv_2 < rv_7.1)) && ((wr (rv_6.1.High - rv_6.1.Low)) == rv_7.2.1)))]) (ms := [(1, .cells b [.int .i64 c.Hours, .slice p c.Rates.length c_1, .slice p_1 c.Opens.length c_2, .slice p_2 c.Pairs.length c_3] 26), (2, .cells b_1 [.int .i64 n.a0, .int .i64 n.a1] 28), (3, .cells b_3 [.int .i64 z, .int .i64 z_1] 34), (5, .cells b_6 [.int .i64 rv_5.1.Low, .int .i64 rv_5.1.High] 34), (6, .cells b_7 [.int .i64 rv_6.1.Low, .int .i64 rv_6.1.High] 34), (7, .cells b_8 [.int .i64 rv_9.1.Low, .int .i64 rv_9.1.High] 34)]) (D' := D0) ?_ ?_
      ·rcases bcases (decide (rv_2 < rv_7.1)) with hbv_16 | hbv_16
       ·-- true
        refine guard_on hF rfl rfl hbv_16 ?_
        refine step hF (Y.fieldAddr fo_34_1 hF rfl) rfl fun a hF => ?_
        refine guard_on hF rfl rfl hbv_16 ?_
        refine step hF (Y.load1L 6 sz_3 hF rfl hS rfl rfl) rfl fun a hF => ?_
        refine guard_on hF rfl rfl hbv_16 ?_
        refine step hF (Y.fieldAddr fo_34_0 hF rfl) rfl fun a hF => ?_
        refine guard_on hF rfl rfl hbv_16 ?_
        refine step hF (Y.load1L 6 sz_3 hF rfl hS rfl rfl) rfl fun a hF => ?_
        refine guard_on hF rfl rfl hbv_16 ?_
        refine step hF (Y.sub hF rfl rfl) rfl fun a hF => ?_
        refine guard_on hF rfl rfl hbv_16 ?_
        refine step hF (Y.move hF rfl) rfl fun a hF => ?_
        refine guard_on hF rfl rfl hbv_16 ?_
        refine step hF (Y.eql hF rfl rfl) rfl fun a hF => ?_
        refine guard_on hF rfl rfl hbv_15 ?_
        refine step hF (Y.pick_t hF rfl hbv_16 rfl) rfl fun a hF => ?_
        exact nil (then_n ⟨hF.weak ⟨rfl, rfl, rfl, rfl, rfl, rfl, rfl, rfl, rfl, (by rw [hbv_16]; rfl), trivial⟩, hS.weak ⟨rfl, rfl, rfl, rfl, rfl, rfl, trivial⟩⟩)
       ·-- false
        refine guard_off hF rfl rfl hbv_16 rfl fun a hF => ?_
        refine guard_off hF rfl rfl hbv_16 rfl fun a hF => ?_
        refine guard_off hF rfl rfl hbv_16 rfl fun a hF => ?_
        refine guard_off hF rfl rfl hbv_16 rfl fun a hF => ?_
        refine guard_off hF rfl rfl hbv_16 rfl fun a hF => ?_
        refine guard_off hF rfl rfl hbv_16 rfl fun a hF => ?_
        refine guard_off hF rfl rfl hbv_16 rfl fun a hF => ?_
        refine guard_on hF rfl rfl hbv_15 ?_
        refine step hF (Y.pick_f hF rfl hbv_16 rfl) rfl fun a hF => ?_
        exact nil (then_n ⟨hF.weak ⟨rfl, rfl, rfl, rfl, rfl, rfl, rfl, rfl, rfl, (by rw [hbv_16]; rfl), trivial⟩, hS.weak ⟨rfl, rfl, rfl, rfl, rfl, rfl, trivial⟩⟩)
      intro a w hF hS
      refine step hF (Y.pick_f hF rfl hbv_15 rfl) rfl fun a hF => ?_
      exact nil (then_n ⟨hF.weak ⟨rfl, rfl, rfl, rfl, rfl, rfl, rfl, rfl, (by rw [hbv_15]; rfl), trivial⟩, hS.weak ⟨rfl, rfl, rfl, rfl, rfl, rfl, trivial⟩⟩)
    intro a w hF hS
    refine nil (then_n ?_)
    refine cond_b hF rfl (fun hbv_17 => ?_) (fun hbv_17 => ?_)
    ·replace h := cond_t h hbv_17
     refine seq ?_
     refine region ?_
     refine step hF (Y.assign hF rfl) rfl fun a hF => ?_
     refine nil (then_n ?_)
     refine ret_ (then_r ?_)
     obtain rfl := some_inj h
     exact leaveP Tryd.results13 hF hS (.cons (.tmp rfl) .nil) .nil rfl
    ·replace h := cond_f h hbv_17
     refine skip_ (then_n ?_)
     refine seq ?_
     refine seq ?_
     refine region ?_
     refine step hF (Y.fieldAddr fo_26_2 hF rfl) rfl fun a hF => ?_
     refine step hF (Y.load1L 1 sz_23 hF rfl hS rfl rfl) rfl fun a hF => ?_
     refine step hF (Y.lenSl u_23 hF rfl) rfl fun a hF => ?_
     refine step hF (Y.eql hF rfl rfl) rfl fun a hF => ?_
     refine nil (then_n ?_)
     refine cond_b hF rfl (fun hbv_18 => ?_) (fun hbv_18 => ?_)
     ·replace h := cond_t h hbv_18
      refine seq ?_
      refine region ?_
      obtain ⟨rv_11, hx_13, h⟩ := bind_some h
      refine O.callP (us := []) ca_21 hF hS (remontoirlaw02_works_ok hS.stab hG rv_11 hx_13) rfl rfl fun a w hF hS => ?_
      refine step hF (Y.assign hF rfl) rfl fun a hF => ?_
      refine nil (then_n ?_)
      refine ret_ (then_r ?_)
      obtain rfl := some_inj h
      exact leaveP Tryd.results13 hF hS (.cons (.tmp rfl) .nil) .nil rfl
     ·replace h := cond_f h hbv_18
      refine skip_ (then_n ?_)
      refine seq ?_
      refine region ?_
      refine step hF (Y.loadNL 1 sz_26 hF rfl hS rfl rfl rfl) rfl fun a hF => ?_
      refine O.alloc 8 zc_26 hF hS rfl fun b_9 a w hF hS => ?_
      refine O.store (us := [.int .i64 c.Hours, .slice p c.Rates.length c_1, .slice p_1 c.Opens.length c_2, .slice p_2 c.Pairs.length c_3]) 8 sz_26 hF rfl rfl rfl rfl hS rfl rfl fun a w hF hS => ?_
      refine nil (then_n ?_)
      refine seq ?_
      refine region ?_
      have hr : Reps C_BeatOpen D0 ([] : List BeatOpen) [] := Reps.nil
      refine O.buildSlice (E := 63) (C := C_BeatOpen) (xs := ([] : List BeatOpen)) (cs := []) (us := []) (parts := []) 9 hF hS rfl (by kernel_rfl) hr rfl rfl rfl fun p_3 c_4 a w hF hS => ?_
      refine step hF (Y.fieldAddr fo_26_2 hF rfl) rfl fun a hF => ?_
      refine step hF (Y.load1L 1 sz_23 hF rfl hS rfl rfl) rfl fun a hF => ?_
      obtain ⟨hg, h⟩ := ite_some h
      obtain ⟨ds, hds, hsrc⟩ := src_stab (C := C_BeatOpen) (xs := c.Opens) (hs_1).1 hS.stab
      refine O.append (C := C_BeatOpen) (xs := ([] : List BeatOpen)) (ys := c.Opens) 9 gr_23 hF rfl rfl hS rfl hsrc hr hds hg rfl fun p_4 c_5 a w hF hS hr_1 => ?_
      refine step hF (Y.move hF rfl) rfl fun a hF => ?_
      refine step hF (Y.move hF rfl) rfl fun a hF => ?_
      refine step hF (Y.build (parts := [(0, (.tmp 190)), (1, (.tmp 191))]) (cs := #[.int .i64 rv_2, .int .i64 rv_3, .int .i64 0, .int .i64 0]) hF rfl (by kernel_rfl)) rfl fun a hF => ?_
      have hr_2 : Reps C_BeatOpen D0 [(BeatOpen.mk rv_2 rv_3 (Span.mk 0 0))] [.int .i64 rv_2, .int .i64 rv_3, .int .i64 0, .int .i64 0] := Reps.cons (C := C_BeatOpen) (x := (BeatOpen.mk rv_2 rv_3 (Span.mk 0 0))) (c := [.int .i64 rv_2, .int .i64 rv_3, .int .i64 0, .int .i64 0]) (r := []) rfl (Reps.nil)
      refine O.buildSlice (E := 63) (C := C_BeatOpen) (xs := [(BeatOpen.mk rv_2 rv_3 (Span.mk 0 0))]) (cs := [.int .i64 rv_2, .int .i64 rv_3, .int .i64 0, .int .i64 0]) (us := [.agg #[.int .i64 rv_2, .int .i64 rv_3, .int .i64 0, .int .i64 0]]) (parts := [(0, (.tmp 192))]) 10 hF hS rfl (by kernel_rfl) hr_2 rfl rfl rfl fun p_5 c_6 a w hF hS => ?_
      obtain ⟨hg_1, h⟩ := ite_some h
      refine O.append (C := C_BeatOpen) (xs := (([] : List BeatOpen) ++ c.Opens)) (ys := [(BeatOpen.mk rv_2 rv_3 (Span.mk 0 0))]) 9 gr_23 hF rfl rfl hS rfl (src_own (i := 10) hS rfl) hr_1 hr_2 hg_1 rfl fun p_6 c_7 a w hF hS hr_3 => ?_
      refine step hF (Y.fieldAddr fo_26_2 hF rfl) rfl fun a hF => ?_
      refine O.store (us := [.slice p_6 ((([] : List BeatOpen) ++ c.Opens) ++ [(BeatOpen.mk rv_2 rv_3 (Span.mk 0 0))]).length c_7]) 8 sz_23 hF rfl rfl rfl rfl hS rfl rfl fun a w hF hS => ?_
      refine nil (then_n ?_)
      refine seq ?_
      refine region ?_
      refine step hF (Y.loadNL 8 sz_26 hF rfl hS rfl rfl rfl) rfl fun a hF => ?_
      refine step hF (Y.move hF rfl) rfl fun a hF => ?_
      refine step hF (Y.move hF rfl) rfl fun a hF => ?_
      refine step hF (Y.move hF rfl) rfl fun a hF => ?_
      refine step hF (Y.add hF rfl rfl) rfl fun a hF => ?_
      obtain ⟨Dv, hlev, hs_3, hS⟩ := hS.freezeC (i := 9) (xs := ((([] : List BeatOpen) ++ c.Opens) ++ [(BeatOpen.mk rv_2 rv_3 (Span.mk 0 0))])) rfl hr_3
      replace hs := hs.mono hlev
      replace hs_1 := hs_1.mono hlev
      replace hs_2 := hs_2.mono hlev
      replace hG := hG.mono hlev
      replace hcell := fun w hw => hcell w (Stab.on.le hw hlev)
      replace hr := hr.mono hlev
      replace hr_1 := hr_1.mono hlev
      replace hr_2 := hr_2.mono hlev
      replace hr_3 := hr_3.mono hlev
      obtain ⟨rv_12, hx_14, h⟩ := bind_some h
      refine O.callP (us := [.agg #[.int .i64 c.Hours, .slice p c.Rates.length c_1, .slice p_6 ((([] : List BeatOpen) ++ c.Opens) ++ [(BeatOpen.mk rv_2 rv_3 (Span.mk 0 0))]).length c_7, .slice p_2 c.Pairs.length c_3], .int .i64 rv_2, .int .i64 rv_3, .int .i64 (wr (rv_3 + 1))]) ca_24 hF hS (beat_Drift_ok hS.stab (BeatCellar.mk c.Hours c.Rates ((([] : List BeatOpen) ++ c.Opens) ++ [(BeatOpen.mk rv_2 rv_3 (Span.mk 0 0))]) c.Pairs) rv_2 rv_3 (wr (rv_3 + 1)) hs hs_3 hs_2 hG rv_12 hx_14) rfl rfl fun a w hF hS => ?_
      refine step hF (Y.move hF rfl) rfl fun a hF => ?_
      refine step hF (Y.extract hF rfl rfl) rfl fun a hF => ?_
      refine step hF (Y.extract hF rfl rfl) rfl fun a hF => ?_
      refine O.alloc 11 zc_34 hF hS rfl fun b_10 a w hF hS => ?_
      refine O.store (us := [.int .i64 rv_12.1.Low, .int .i64 rv_12.1.High]) 11 sz_34 hF rfl rfl rfl rfl hS rfl rfl fun a w hF hS => ?_
      refine step hF (Y.assign hF rfl) rfl fun a hF => ?_
      refine nil (then_n ?_)
      refine seq ?_
      refine region ?_
      refine step hF (Y.loadNL 8 sz_26 hF rfl hS rfl rfl rfl) rfl fun a hF => ?_
      refine step hF (Y.move hF rfl) rfl fun a hF => ?_
      refine step hF (Y.move hF rfl) rfl fun a hF => ?_
      obtain ⟨rv_13, hx_15, h⟩ := bind_some h
      refine O.callP (us := [.agg #[.int .i64 c.Hours, .slice p c.Rates.length c_1, .slice p_6 ((([] : List BeatOpen) ++ c.Opens) ++ [(BeatOpen.mk rv_2 rv_3 (Span.mk 0 0))]).length c_7, .slice p_2 c.Pairs.length c_3], .int .i64 rv_2, .int .i64 rv_3]) ca_19 hF hS (beat_Offset_ok hS.stab (BeatCellar.mk c.Hours c.Rates ((([] : List BeatOpen) ++ c.Opens) ++ [(BeatOpen.mk rv_2 rv_3 (Span.mk 0 0))]) c.Pairs) rv_2 rv_3 hs hs_3 hs_2 hG rv_13 hx_15) rfl rfl fun a w hF hS => ?_
      refine step hF (Y.move hF rfl) rfl fun a hF => ?_
      refine step hF (Y.extract hF rfl rfl) rfl fun a hF => ?_
      refine step hF (Y.extract hF rfl rfl) rfl fun a hF => ?_
      refine O.alloc 12 zc_34 hF hS rfl fun b_11 a w hF hS => ?_
      refine O.store (us := [.int .i64 rv_13.1.Low, .int .i64 rv_13.1.High]) 12 sz_34 hF rfl rfl rfl rfl hS rfl rfl fun a w hF hS => ?_
      refine step hF (Y.assign hF rfl) rfl fun a hF => ?_
      refine nil (then_n ?_)
      refine seq ?_
      refine region ?_
      refine step hF (Y.move hF rfl) rfl fun a hF => ?_
      refine step hF (Y.eql hF rfl rfl) rfl fun a hF => ?_
      refine step hF (Y.move hF rfl) rfl fun a hF => ?_
      refine join (N := 231) (rs := []) (w0 := w0) (D0 := D0) 3 (us := [(4, .bool false), (10, .pointer (some ⟨b_6, 0, none⟩)), (12, .pointer (some ⟨b_7, 0, none⟩)), (20, .pointer (some ⟨b_10, 0, none⟩)), (21, .pointer (some ⟨b_11, 0, none⟩)), (217, .bool ((rv_12.2 == 0) && (rv_13.2 == 0)))]) (ms := [(1, .cells b [.int .i64 c.Hours, .slice p c.Rates.length c_1, .slice p_1 c.Opens.length c_2, .slice p_2 c.Pairs.length c_3] 26), (2, .cells b_1 [.int .i64 n.a0, .int .i64 n.a1] 28), (3, .cells b_3 [.int .i64 z, .int .i64 z_1] 34), (5, .cells b_6 [.int .i64 rv_5.1.Low, .int .i64 rv_5.1.High] 34), (6, .cells b_7 [.int .i64 rv_6.1.Low, .int .i64 rv_6.1.High] 34), (7, .cells b_8 [.int .i64 rv_9.1.Low, .int .i64 rv_9.1.High] 34), (8, .cells b_9 [.int .i64 c.Hours, .slice p c.Rates.length c_1, .slice p_6 ((([] : List BeatOpen) ++ c.Opens) ++ [(BeatOpen.mk rv_2 rv_3 (Span.mk 0 0))]).length c_7, .slice p_2 c.Pairs.length c_3] 26), (10, .own p_5 ([(BeatOpen.mk rv_2 rv_3 (Span.mk 0 0))]).length c_6 ([.int .i64 rv_2, .int .i64 rv_3, .int .i64 0, .int .i64 0]) 63 4), (11, .cells b_10 [.int .i64 rv_12.1.Low, .int .i64 rv_12.1.High] 34), (12, .cells b_11 [.int .i64 rv_13.1.Low, .int .i64 rv_13.1.High] 34)]) (D' := Dv) ?_ ?_
      ·rcases bcases (rv_12.2 == 0) with hbv_19 | hbv_19
       ·-- true
        refine guard_on hF rfl rfl hbv_19 ?_
        refine step hF (Y.move hF rfl) rfl fun a hF => ?_
        refine guard_on hF rfl rfl hbv_19 ?_
        refine step hF (Y.eql hF rfl rfl) rfl fun a hF => ?_
        refine step hF (Y.pick_t hF rfl hbv_19 rfl) rfl fun a hF => ?_
        exact nil (then_n ⟨hF.weak ⟨rfl, rfl, rfl, rfl, rfl, (by rw [hbv_19]; rfl), trivial⟩, hS.weak ⟨rfl, rfl, rfl, rfl, rfl, rfl, rfl, rfl, rfl, rfl, trivial⟩⟩)
       ·-- false
        refine guard_off hF rfl rfl hbv_19 rfl fun a hF => ?_
        refine guard_off hF rfl rfl hbv_19 rfl fun a hF => ?_
        refine step hF (Y.pick_f hF rfl hbv_19 rfl) rfl fun a hF => ?_
        exact nil (then_n ⟨hF.weak ⟨rfl, rfl, rfl, rfl, rfl, (by rw [hbv_19]; rfl), trivial⟩, hS.weak ⟨rfl, rfl, rfl, rfl, rfl, rfl, rfl, rfl, rfl, rfl, trivial⟩⟩)
      intro a w hF hS
      refine step hF (Y.move hF rfl) rfl fun a hF => ?_
      refine join (N := 231) (rs := []) (w0 := w0) (D0 := D0) 4 (us := [(4, .bool false), (12, .pointer (some ⟨b_7, 0, none⟩)), (21, .pointer (some ⟨b_11, 0, none⟩)), (222, .bool (((rv_12.2 == 0) && (rv_13.2 == 0)) && ([rv_12.1.Low, rv_12.1.High] == [rv_5.1.Low, rv_5.1.High])))]) (ms := [(1, .cells b [.int .i64 c.Hours, .slice p c.Rates.length c_1, .slice p_1 c.Opens.length c_2, .slice p_2 c.Pairs.length c_3] 26), (2, .cells b_1 [.int .i64 n.a0, .int .i64 n.a1] 28), (3, .cells b_3 [.int .i64 z, .int .i64 z_1] 34), (5, .cells b_6 [.int .i64 rv_5.1.Low, .int .i64 rv_5.1.High] 34), (6, .cells b_7 [.int .i64 rv_6.1.Low, .int .i64 rv_6.1.High] 34), (7, .cells b_8 [.int .i64 rv_9.1.Low, .int .i64 rv_9.1.High] 34), (8, .cells b_9 [.int .i64 c.Hours, .slice p c.Rates.length c_1, .slice p_6 ((([] : List BeatOpen) ++ c.Opens) ++ [(BeatOpen.mk rv_2 rv_3 (Span.mk 0 0))]).length c_7, .slice p_2 c.Pairs.length c_3] 26), (10, .own p_5 ([(BeatOpen.mk rv_2 rv_3 (Span.mk 0 0))]).length c_6 ([.int .i64 rv_2, .int .i64 rv_3, .int .i64 0, .int .i64 0]) 63 4), (11, .cells b_10 [.int .i64 rv_12.1.Low, .int .i64 rv_12.1.High] 34), (12, .cells b_11 [.int .i64 rv_13.1.Low, .int .i64 rv_13.1.High] 34)]) (D' := Dv) ?_ ?_
      ·rcases bcases ((rv_12.2 == 0) && (rv_13.2 == 0)) with hbv_20 | hbv_20
       ·-- true
        refine guard_on hF rfl rfl hbv_20 ?_
        refine step hF (Y.loadNL 11 sz_34 hF rfl hS rfl rfl rfl) rfl fun a hF => ?_
        refine guard_on hF rfl rfl hbv_20 ?_
        refine step hF (Y.loadNL 5 sz_34 hF rfl hS rfl rfl rfl) rfl fun a hF => ?_
        refine guard_on hF rfl rfl hbv_20 ?_
        refine step hF (Y.eqst (fun w => eqT_34.equal (by decide) (l := [rv_12.1.Low, rv_12.1.High]) (m := [rv_5.1.Low, rv_5.1.High]) rfl rfl) (fun w => run_eqGuard_agg _ _ _ _ _ _ _ eg_34) hF rfl rfl) rfl fun a hF => ?_
        refine step hF (Y.pick_t hF rfl hbv_20 rfl) rfl fun a hF => ?_
        exact nil (then_n ⟨hF.weak ⟨rfl, rfl, rfl, (by rw [hbv_20]; rfl), trivial⟩, hS.weak ⟨rfl, rfl, rfl, rfl, rfl, rfl, rfl, rfl, rfl, rfl, trivial⟩⟩)
       ·-- false
        refine guard_off hF rfl rfl hbv_20 rfl fun a hF => ?_
        refine guard_off hF rfl rfl hbv_20 rfl fun a hF => ?_
        refine guard_off hF rfl rfl hbv_20 rfl fun a hF => ?_
        refine step hF (Y.pick_f hF rfl hbv_20 rfl) rfl fun a hF => ?_
        exact nil (then_n ⟨hF.weak ⟨rfl, rfl, rfl, (by rw [hbv_20]; rfl), trivial⟩, hS.weak ⟨rfl, rfl, rfl, rfl, rfl, rfl, rfl, rfl, rfl, rfl, trivial⟩⟩)
      intro a w hF hS
      refine step hF (Y.move hF rfl) rfl fun a hF => ?_
      refine join (N := 231) (rs := []) (w0 := w0) (D0 := D0) 4 (us := [(4, .bool false), (227, .bool ((((rv_12.2 == 0) && (rv_13.2 == 0)) && ([rv_12.1.Low, rv_12.1.High] == [rv_5.1.Low, rv_5.1.High])) && ([rv_13.1.Low, rv_13.1.High] == [rv_6.1.Low, rv_6.1.High])))]) (ms := [(1, .cells b [.int .i64 c.Hours, .slice p c.Rates.length c_1, .slice p_1 c.Opens.length c_2, .slice p_2 c.Pairs.length c_3] 26), (2, .cells b_1 [.int .i64 n.a0, .int .i64 n.a1] 28), (3, .cells b_3 [.int .i64 z, .int .i64 z_1] 34), (5, .cells b_6 [.int .i64 rv_5.1.Low, .int .i64 rv_5.1.High] 34), (6, .cells b_7 [.int .i64 rv_6.1.Low, .int .i64 rv_6.1.High] 34), (7, .cells b_8 [.int .i64 rv_9.1.Low, .int .i64 rv_9.1.High] 34), (8, .cells b_9 [.int .i64 c.Hours, .slice p c.Rates.length c_1, .slice p_6 ((([] : List BeatOpen) ++ c.Opens) ++ [(BeatOpen.mk rv_2 rv_3 (Span.mk 0 0))]).length c_7, .slice p_2 c.Pairs.length c_3] 26), (10, .own p_5 ([(BeatOpen.mk rv_2 rv_3 (Span.mk 0 0))]).length c_6 ([.int .i64 rv_2, .int .i64 rv_3, .int .i64 0, .int .i64 0]) 63 4), (11, .cells b_10 [.int .i64 rv_12.1.Low, .int .i64 rv_12.1.High] 34), (12, .cells b_11 [.int .i64 rv_13.1.Low, .int .i64 rv_13.1.High] 34)]) (D' := Dv) ?_ ?_
      ·rcases bcases (((rv_12.2 == 0) && (rv_13.2 == 0)) && ([rv_12.1.Low, rv_12.1.High] == [rv_5.1.Low, rv_5.1.High])) with hbv_21 | hbv_21
       ·-- true
        refine guard_on hF rfl rfl hbv_21 ?_
        refine step hF (Y.loadNL 12 sz_34 hF rfl hS rfl rfl rfl) rfl fun a hF => ?_
        refine guard_on hF rfl rfl hbv_21 ?_
        refine step hF (Y.loadNL 6 sz_34 hF rfl hS rfl rfl rfl) rfl fun a hF => ?_
        refine guard_on hF rfl rfl hbv_21 ?_
        refine step hF (Y.eqst (fun w => eqT_34.equal (by decide) (l := [rv_13.1.Low, rv_13.1.High]) (m := [rv_6.1.Low, rv_6.1.High]) rfl rfl) (fun w => run_eqGuard_agg _ _ _ _ _ _ _ eg_34) hF rfl rfl) rfl fun a hF => ?_
        refine step hF (Y.pick_t hF rfl hbv_21 rfl) rfl fun a hF => ?_
        exact nil (then_n ⟨hF.weak ⟨rfl, (by rw [hbv_21]; rfl), trivial⟩, hS.weak ⟨rfl, rfl, rfl, rfl, rfl, rfl, rfl, rfl, rfl, rfl, trivial⟩⟩)
       ·-- false
        refine guard_off hF rfl rfl hbv_21 rfl fun a hF => ?_
        refine guard_off hF rfl rfl hbv_21 rfl fun a hF => ?_
        refine guard_off hF rfl rfl hbv_21 rfl fun a hF => ?_
        refine step hF (Y.pick_f hF rfl hbv_21 rfl) rfl fun a hF => ?_
        exact nil (then_n ⟨hF.weak ⟨rfl, (by rw [hbv_21]; rfl), trivial⟩, hS.weak ⟨rfl, rfl, rfl, rfl, rfl, rfl, rfl, rfl, rfl, rfl, trivial⟩⟩)
      intro a w hF hS
      refine step hF (Y.move hF rfl) rfl fun a hF => ?_
      obtain ⟨t_2, ht_2, h⟩ := bind_some h
      refine join (N := 231) (rs := []) (w0 := w0) (D0 := D0) 2 (us := [(4, .bool false), (230, .bool t_2)]) (ms := [(1, .cells b [.int .i64 c.Hours, .slice p c.Rates.length c_1, .slice p_1 c.Opens.length c_2, .slice p_2 c.Pairs.length c_3] 26), (2, .cells b_1 [.int .i64 n.a0, .int .i64 n.a1] 28), (3, .cells b_3 [.int .i64 z, .int .i64 z_1] 34), (5, .cells b_6 [.int .i64 rv_5.1.Low, .int .i64 rv_5.1.High] 34), (6, .cells b_7 [.int .i64 rv_6.1.Low, .int .i64 rv_6.1.High] 34), (7, .cells b_8 [.int .i64 rv_9.1.Low, .int .i64 rv_9.1.High] 34), (8, .cells b_9 [.int .i64 c.Hours, .slice p c.Rates.length c_1, .slice p_6 ((([] : List BeatOpen) ++ c.Opens) ++ [(BeatOpen.mk rv_2 rv_3 (Span.mk 0 0))]).length c_7, .slice p_2 c.Pairs.length c_3] 26), (10, .own p_5 ([(BeatOpen.mk rv_2 rv_3 (Span.mk 0 0))]).length c_6 ([.int .i64 rv_2, .int .i64 rv_3, .int .i64 0, .int .i64 0]) 63 4), (11, .cells b_10 [.int .i64 rv_12.1.Low, .int .i64 rv_12.1.High] 34), (12, .cells b_11 [.int .i64 rv_13.1.Low, .int .i64 rv_13.1.High] 34)]) (D' := Dv) ?_ ?_
      ·rcases bcases ((((rv_12.2 == 0) && (rv_13.2 == 0)) && ([rv_12.1.Low, rv_12.1.High] == [rv_5.1.Low, rv_5.1.High])) && ([rv_13.1.Low, rv_13.1.High] == [rv_6.1.Low, rv_6.1.High])) with hbv_22 | hbv_22
       ·-- true
        replace h := cond_t ht_2 hbv_22
        refine guard_on hF rfl rfl hbv_22 ?_
        obtain ⟨rv_14, hx_16, h⟩ := bind_some h
        refine O.callP (us := []) ca_21 hF hS (remontoirlaw02_works_ok hS.stab hG rv_14 hx_16) rfl rfl fun a w hF hS => ?_
        refine step hF (Y.pick_t hF rfl hbv_22 rfl) rfl fun a hF => ?_
        obtain rfl := some_inj h
        exact nil (then_n ⟨hF.weak ⟨rfl, rfl, trivial⟩, hS.weak ⟨rfl, rfl, rfl, rfl, rfl, rfl, rfl, rfl, rfl, rfl, trivial⟩⟩)
       ·-- false
        replace h := cond_f ht_2 hbv_22
        refine guard_off hF rfl rfl hbv_22 rfl fun a hF => ?_
        refine step hF (Y.pick_f hF rfl hbv_22 rfl) rfl fun a hF => ?_
        obtain rfl := some_inj h
        exact nil (then_n ⟨hF.weak ⟨rfl, rfl, trivial⟩, hS.weak ⟨rfl, rfl, rfl, rfl, rfl, rfl, rfl, rfl, rfl, rfl, trivial⟩⟩)
      intro a w hF hS
      refine step hF (Y.assign hF rfl) rfl fun a hF => ?_
      refine nil (then_n ?_)
      refine ret_ ?_
      obtain rfl := some_inj h
      exact leaveP Tryd.results13 hF hS (.cons (.tmp rfl) .nil) .nil rfl

end Go.Proofs.YtpniidbbbhbglaaDoor.Rt
