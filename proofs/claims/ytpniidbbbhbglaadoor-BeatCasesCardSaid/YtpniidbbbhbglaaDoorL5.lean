/- Walks of the functions of this seat: what each Go function comes to, as a Lean function, and the proof. A law. Under no conditions. -/
import Derived.Test.YtpniidbbbhbglaaDoorWRZ
set_option linter.unusedVariables false
set_option linter.unusedSimpArgs false
set_option maxRecDepth 100000
set_option maxHeartbeats 4000000
namespace Go.Proofs.YtpniidbbbhbglaaDoor.Rt
open Go Go.RowKit
noncomputable def remontoirlaw02_BeatCases_k1 (n : Arr2) (rv : ((List (List Int)) × Int)) (want : Int) : Option Bool :=
  (idx rv.1 n.a0).bind fun e =>
  (idx e n.a1).bind fun e_1 =>
  (cond (e_1 == want) ((remontoirlaw02_works).bind fun rv_4 =>
  some rv_4) (some false)).bind fun t_1 =>
  some t_1
noncomputable def remontoirlaw02_BeatCases (c : BeatCellar) (n : Arr2) (most : Bool) : Option Bool :=
  (beat_Case c n.a0 n.a1 most).bind fun rv =>
  (remontoirref02_Offset c n.a0 n.a1).bind fun rv_1 =>
  cond (rv.2 != rv_1.2)
  (some false)
  (cond (rv_1.2 != 0)
  ((cond ((rv.1.length : Int) == 0) ((remontoirlaw02_works).bind fun rv_2 =>
  some rv_2) (some false)).bind fun t =>
  some t)
  ((remontoirref02_IsTruth c rv.1).bind fun rv_3 =>
  cond ((!rv_3.1) || (decide ((rv.1.length : Int) ≤ n.a0)))
  (some false)
  (cond most
  (remontoirlaw02_BeatCases_k1 n rv rv_1.1.High)
  (remontoirlaw02_BeatCases_k1 n rv rv_1.1.Low))))
theorem remontoirlaw02_BeatCases_ok {w0 : World} {D0 : Stab} (hD : D0.on w0) (c : BeatCellar) (n : Arr2) (most : Bool) {p : Option Addr} {c_1 : Nat} {p_1 : Option Addr} {c_2 : Nat} {p_2 : Option Addr} {c_3 : Nat} (hs : SRc C_Span D0 c.Rates p c_1) (hs_1 : SRc C_BeatOpen D0 c.Opens p_1 c_2) (hs_2 : SRc C_BeatPair D0 c.Pairs p_2 c_3) (hG : Glob D0) (out : Bool) (h : remontoirlaw02_BeatCases c n most = some out) : Calls Tryd.prog 5 [.agg #[.int .i64 c.Hours, .slice p c.Rates.length c_1, .slice p_1 c.Opens.length c_2, .slice p_2 c.Pairs.length c_3], .agg #[.int .i64 n.a0, .int .i64 n.a1], .bool most].toArray w0 (RetP D0 w0 (.bool out)) := by
 refine enter _ 78 Tryd.func5 rfl Tryd.ntmps5 rfl fun a hF => ?_
 replace hF : Frm 78 [] [(0, .agg #[.int .i64 c.Hours, .slice p c.Rates.length c_1, .slice p_1 c.Opens.length c_2, .slice p_2 c.Pairs.length c_3]), (1, .agg #[.int .i64 n.a0, .int .i64 n.a1]), (2, .bool most)] a := hF
 have hS := St.start hD
 unfold remontoirlaw02_BeatCases at h
 refine seq ?_
 refine region ?_
 refine O.box (cs := [.int .i64 c.Hours, .slice p c.Rates.length c_1, .slice p_1 c.Opens.length c_2, .slice p_2 c.Pairs.length c_3]) 1 hF rfl rfl hS rfl fun b a w hF hS => ?_
 refine O.box (cs := [.int .i64 n.a0, .int .i64 n.a1]) 2 hF rfl rfl hS rfl fun b_1 a w hF hS => ?_
 refine step hF (Y.assign hF rfl) rfl fun a hF => ?_
 refine nil (then_n ?_)
 refine seq ?_
 refine region ?_
 refine step hF (Y.loadNL 1 sz_26 hF rfl hS rfl rfl rfl) rfl fun a hF => ?_
 refine step hF (Y.indexArr u_28 sz_3 hF rfl rfl (by decide) (by decide)) rfl fun a hF => ?_
 refine step hF (Y.load1L 2 sz_3 hF rfl hS rfl rfl) rfl fun a hF => ?_
 refine step hF (Y.indexArr u_28 sz_3 hF rfl rfl (by decide) (by decide)) rfl fun a hF => ?_
 refine step hF (Y.load1L 2 sz_3 hF rfl hS rfl rfl) rfl fun a hF => ?_
 refine step hF (Y.move hF rfl) rfl fun a hF => ?_
 obtain ⟨rv, hx, h⟩ := bind_some h
 refine O.callS (us := [.agg #[.int .i64 c.Hours, .slice p c.Rates.length c_1, .slice p_1 c.Opens.length c_2, .slice p_2 c.Pairs.length c_3], .int .i64 n.a0, .int .i64 n.a1, .bool most]) ca_26 hF hS (beat_Case_ok hS.stab c n.a0 n.a1 most hs hs_1 hs_2 hG rv hx) rfl rfl fun v Dv a w hR hlev hF hS => ?_
 replace hs := hs.mono hlev
 replace hs_1 := hs_1.mono hlev
 replace hs_2 := hs_2.mono hlev
 replace hG := hG.mono hlev
 obtain ⟨p_3, c_4, rfl, hs_3⟩ := hR
 refine step hF (Y.move hF rfl) rfl fun a hF => ?_
 refine step hF (Y.extract hF rfl rfl) rfl fun a hF => ?_
 refine step hF (Y.extract hF rfl rfl) rfl fun a hF => ?_
 refine step hF (Y.assign hF rfl) rfl fun a hF => ?_
 refine step hF (Y.assign hF rfl) rfl fun a hF => ?_
 refine nil (then_n ?_)
 refine seq ?_
 refine region ?_
 refine step hF (Y.loadNL 1 sz_26 hF rfl hS rfl rfl rfl) rfl fun a hF => ?_
 refine step hF (Y.indexArr u_28 sz_3 hF rfl rfl (by decide) (by decide)) rfl fun a hF => ?_
 refine step hF (Y.load1L 2 sz_3 hF rfl hS rfl rfl) rfl fun a hF => ?_
 refine step hF (Y.indexArr u_28 sz_3 hF rfl rfl (by decide) (by decide)) rfl fun a hF => ?_
 refine step hF (Y.load1L 2 sz_3 hF rfl hS rfl rfl) rfl fun a hF => ?_
 obtain ⟨rv_1, hx_1, h⟩ := bind_some h
 refine O.callP (us := [.agg #[.int .i64 c.Hours, .slice p c.Rates.length c_1, .slice p_1 c.Opens.length c_2, .slice p_2 c.Pairs.length c_3], .int .i64 n.a0, .int .i64 n.a1]) ca_20 hF hS (remontoirref02_Offset_ok hS.stab c n.a0 n.a1 hs hs_1 hs_2 rv_1 hx_1) rfl rfl fun a w hF hS => ?_
 refine step hF (Y.move hF rfl) rfl fun a hF => ?_
 refine step hF (Y.extract hF rfl rfl) rfl fun a hF => ?_
 refine step hF (Y.extract hF rfl rfl) rfl fun a hF => ?_
 refine O.alloc 3 zc_34 hF hS rfl fun b_2 a w hF hS => ?_
 refine O.store (us := [.int .i64 rv_1.1.Low, .int .i64 rv_1.1.High]) 3 sz_34 hF rfl rfl rfl rfl hS rfl rfl fun a w hF hS => ?_
 refine step hF (Y.assign hF rfl) rfl fun a hF => ?_
 refine nil (then_n ?_)
 refine seq ?_
 refine seq ?_
 refine region ?_
 refine step hF (Y.move hF rfl) rfl fun a hF => ?_
 refine step hF (Y.move hF rfl) rfl fun a hF => ?_
 refine step hF (Y.neq hF rfl rfl) rfl fun a hF => ?_
 refine nil (then_n ?_)
 refine cond_b hF rfl (fun hbv => ?_) (fun hbv => ?_)
 ·replace h := cond_t h hbv
  refine seq ?_
  refine region ?_
  refine step hF (Y.assign hF rfl) rfl fun a hF => ?_
  refine nil (then_n ?_)
  refine ret_ (then_r ?_)
  obtain rfl := some_inj h
  exact leaveP Tryd.results5 hF hS (.cons (.tmp rfl) .nil) .nil rfl
 ·replace h := cond_f h hbv
  refine skip_ (then_n ?_)
  refine seq ?_
  refine seq ?_
  refine region ?_
  refine step hF (Y.move hF rfl) rfl fun a hF => ?_
  refine step hF (Y.neq hF rfl rfl) rfl fun a hF => ?_
  refine nil (then_n ?_)
  refine cond_b hF rfl (fun hbv_1 => ?_) (fun hbv_1 => ?_)
  ·replace h := cond_t h hbv_1
   refine seq ?_
   refine region ?_
   refine step hF (Y.move hF rfl) rfl fun a hF => ?_
   refine step hF (Y.lenSl u_27 hF rfl) rfl fun a hF => ?_
   refine step hF (Y.eql hF rfl rfl) rfl fun a hF => ?_
   refine step hF (Y.move hF rfl) rfl fun a hF => ?_
   obtain ⟨t, ht, h⟩ := bind_some h
   refine join (N := 78) (rs := []) (w0 := w0) (D0 := D0) 2 (us := [(2, .bool most), (3, .pointer (some ⟨b, 0, none⟩)), (4, .pointer (some ⟨b_1, 0, none⟩)), (6, .bool false), (7, .slice p_3 rv.1.length c_4), (9, .pointer (some ⟨b_2, 0, none⟩)), (43, .bool t)]) (ms := [(1, .cells b [.int .i64 c.Hours, .slice p c.Rates.length c_1, .slice p_1 c.Opens.length c_2, .slice p_2 c.Pairs.length c_3] 26), (2, .cells b_1 [.int .i64 n.a0, .int .i64 n.a1] 28), (3, .cells b_2 [.int .i64 rv_1.1.Low, .int .i64 rv_1.1.High] 34)]) (D' := Dv) ?_ ?_
   ·rcases bcases ((rv.1.length : Int) == 0) with hbv_2 | hbv_2
    ·-- true
     replace h := cond_t ht hbv_2
     refine guard_on hF rfl rfl hbv_2 ?_
     obtain ⟨rv_2, hx_2, h⟩ := bind_some h
     refine O.callP (us := []) ca_21 hF hS (remontoirlaw02_works_ok hS.stab hG rv_2 hx_2) rfl rfl fun a w hF hS => ?_
     refine step hF (Y.pick_t hF rfl hbv_2 rfl) rfl fun a hF => ?_
     obtain rfl := some_inj h
     exact nil (then_n ⟨hF.weak ⟨rfl, rfl, rfl, rfl, rfl, rfl, rfl, trivial⟩, hS.weak ⟨rfl, rfl, rfl, trivial⟩⟩)
    ·-- false
     replace h := cond_f ht hbv_2
     refine guard_off hF rfl rfl hbv_2 rfl fun a hF => ?_
     refine step hF (Y.pick_f hF rfl hbv_2 rfl) rfl fun a hF => ?_
     obtain rfl := some_inj h
     exact nil (then_n ⟨hF.weak ⟨rfl, rfl, rfl, rfl, rfl, rfl, rfl, trivial⟩, hS.weak ⟨rfl, rfl, rfl, trivial⟩⟩)
   intro a w hF hS
   refine step hF (Y.assign hF rfl) rfl fun a hF => ?_
   refine nil (then_n ?_)
   refine ret_ (then_r ?_)
   obtain rfl := some_inj h
   exact leaveP Tryd.results5 hF hS (.cons (.tmp rfl) .nil) .nil rfl
  ·replace h := cond_f h hbv_1
   refine skip_ (then_n ?_)
   refine seq ?_
   refine seq ?_
   refine region ?_
   refine step hF (Y.loadNL 1 sz_26 hF rfl hS rfl rfl rfl) rfl fun a hF => ?_
   refine step hF (Y.move hF rfl) rfl fun a hF => ?_
   obtain ⟨rv_3, hx_3, h⟩ := bind_some h
   refine O.callP (us := [.agg #[.int .i64 c.Hours, .slice p c.Rates.length c_1, .slice p_1 c.Opens.length c_2, .slice p_2 c.Pairs.length c_3], .slice p_3 rv.1.length c_4]) ca_16 hF hS (remontoirref02_IsTruth_ok hS.stab c rv.1 hs hs_1 hs_2 hs_3 rv_3 hx_3) rfl rfl fun a w hF hS => ?_
   refine step hF (Y.move hF rfl) rfl fun a hF => ?_
   refine step hF (Y.extract hF rfl rfl) rfl fun a hF => ?_
   refine step hF (Y.extract hF rfl rfl) rfl fun a hF => ?_
   refine step hF (Y.assign hF rfl) rfl fun a hF => ?_
   refine step hF (Y.assign hF rfl) rfl fun a hF => ?_
   refine nil (then_n ?_)
   refine seq ?_
   refine region ?_
   refine step hF (Y.move hF rfl) rfl fun a hF => ?_
   refine step hF (Y.not hF rfl) rfl fun a hF => ?_
   refine step hF (Y.move hF rfl) rfl fun a hF => ?_
   refine join (N := 78) (rs := []) (w0 := w0) (D0 := D0) 6 (us := [(2, .bool most), (4, .pointer (some ⟨b_1, 0, none⟩)), (6, .bool false), (7, .slice p_3 rv.1.length c_4), (9, .pointer (some ⟨b_2, 0, none⟩)), (58, .bool ((!rv_3.1) || (decide ((rv.1.length : Int) ≤ n.a0))))]) (ms := [(1, .cells b [.int .i64 c.Hours, .slice p c.Rates.length c_1, .slice p_1 c.Opens.length c_2, .slice p_2 c.Pairs.length c_3] 26), (2, .cells b_1 [.int .i64 n.a0, .int .i64 n.a1] 28), (3, .cells b_2 [.int .i64 rv_1.1.Low, .int .i64 rv_1.1.High] 34)]) (D' := Dv) ?_ ?_
   ·rcases bcases (!rv_3.1) with hbv_3 | hbv_3
    ·-- true
     refine guard_off hF rfl rfl hbv_3 rfl fun a hF => ?_
     refine guard_off hF rfl rfl hbv_3 rfl fun a hF => ?_
     refine guard_off hF rfl rfl hbv_3 rfl fun a hF => ?_
     refine guard_off hF rfl rfl hbv_3 rfl fun a hF => ?_
     refine guard_off hF rfl rfl hbv_3 rfl fun a hF => ?_
     refine step hF (Y.pick_t hF rfl hbv_3 rfl) rfl fun a hF => ?_
     exact nil (then_n ⟨hF.weak ⟨rfl, rfl, rfl, rfl, rfl, (by rw [hbv_3]; rfl), trivial⟩, hS.weak ⟨rfl, rfl, rfl, trivial⟩⟩)
    ·-- false
     refine guard_on hF rfl rfl hbv_3 ?_
     refine step hF (Y.move hF rfl) rfl fun a hF => ?_
     refine guard_on hF rfl rfl hbv_3 ?_
     refine step hF (Y.lenSl u_27 hF rfl) rfl fun a hF => ?_
     refine guard_on hF rfl rfl hbv_3 ?_
     refine step hF (Y.indexArr u_28 sz_3 hF rfl rfl (by decide) (by decide)) rfl fun a hF => ?_
     refine guard_on hF rfl rfl hbv_3 ?_
     refine step hF (Y.load1L 2 sz_3 hF rfl hS rfl rfl) rfl fun a hF => ?_
     refine guard_on hF rfl rfl hbv_3 ?_
     refine step hF (Y.leq hF rfl rfl) rfl fun a hF => ?_
     refine step hF (Y.pick_f hF rfl hbv_3 rfl) rfl fun a hF => ?_
     exact nil (then_n ⟨hF.weak ⟨rfl, rfl, rfl, rfl, rfl, (by rw [hbv_3]; rfl), trivial⟩, hS.weak ⟨rfl, rfl, rfl, trivial⟩⟩)
   intro a w hF hS
   refine nil (then_n ?_)
   refine cond_b hF rfl (fun hbv_4 => ?_) (fun hbv_4 => ?_)
   ·replace h := cond_t h hbv_4
    refine seq ?_
    refine region ?_
    refine step hF (Y.assign hF rfl) rfl fun a hF => ?_
    refine nil (then_n ?_)
    refine ret_ (then_r ?_)
    obtain rfl := some_inj h
    exact leaveP Tryd.results5 hF hS (.cons (.tmp rfl) .nil) .nil rfl
   ·replace h := cond_f h hbv_4
    refine skip_ (then_n ?_)
    refine seq ?_
    refine region ?_
    refine step hF (Y.fieldAddr fo_34_0 hF rfl) rfl fun a hF => ?_
    refine step hF (Y.load1L 3 sz_3 hF rfl hS rfl rfl) rfl fun a hF => ?_
    refine step hF (Y.assign hF rfl) rfl fun a hF => ?_
    refine nil (then_n ?_)
    refine seq_cut (fun a w => ∃ (want : Int), Frm 78 [] [(4, .pointer (some ⟨b_1, 0, none⟩)), (6, .bool false), (7, .slice p_3 rv.1.length c_4), (13, .int .i64 want)] a ∧ St w0 D0 Dv [(1, .cells b [.int .i64 c.Hours, .slice p c.Rates.length c_1, .slice p_1 c.Opens.length c_2, .slice p_2 c.Pairs.length c_3] 26), (2, .cells b_1 [.int .i64 n.a0, .int .i64 n.a1] 28), (3, .cells b_2 [.int .i64 rv_1.1.Low, .int .i64 rv_1.1.High] 34)] w ∧ remontoirlaw02_BeatCases_k1 n rv want = some out) ?_ ?_
    ·skip
     refine seq ?_
     refine region ?_
     refine step hF (Y.move hF rfl) rfl fun a hF => ?_
     refine nil (then_n ?_)
     refine cond_b hF rfl (fun hbv_6 => ?_) (fun hbv_6 => ?_)
     ·replace h := cond_t h hbv_6
      refine region ?_
      refine step hF (Y.fieldAddr fo_34_1 hF rfl) rfl fun a hF => ?_
      refine step hF (Y.load1L 3 sz_3 hF rfl hS rfl rfl) rfl fun a hF => ?_
      refine step hF (Y.assign hF rfl) rfl fun a hF => ?_
      refine nil (then_n ?_)
      exact ⟨rv_1.1.High, hF.weak ⟨rfl, rfl, rfl, rfl, trivial⟩, hS.weak ⟨rfl, rfl, rfl, trivial⟩, h⟩
     ·replace h := cond_f h hbv_6
      refine skip_ (then_n ?_)
      exact ⟨rv_1.1.Low, hF.weak ⟨rfl, rfl, rfl, rfl, trivial⟩, hS.weak ⟨rfl, rfl, rfl, trivial⟩, h⟩
    ·rintro a w ⟨want, hF, hS, h⟩
     unfold remontoirlaw02_BeatCases_k1 at h
     refine seq ?_
     obtain ⟨e, hx_4, h⟩ := bind_some h
     obtain ⟨e_1, hx_5, h⟩ := bind_some h
     refine drawsV 10 (.flt 0 (.flt 1 (.flt 2 (.flt 3 (.flt 4 (.flt 5 (.flt 6 (.flt 7 (.flt 8 (.flt 9 .done)))))))))) mixed_ (by kernel_rfl) (fun w => St w0 D0 Dv [(1, .cells b [.int .i64 c.Hours, .slice p c.Rates.length c_1, .slice p_1 c.Opens.length c_2, .slice p_2 c.Pairs.length c_3] 26), (2, .cells b_1 [.int .i64 n.a0, .int .i64 n.a1] 28), (3, .cells b_2 [.int .i64 rv_1.1.Low, .int .i64 rv_1.1.High] 34)] w) (fun a w => Frm 78 [] [(6, .bool false), (72, .int .i64 e_1), (73, .int .i64 want)] a ∧ St w0 D0 Dv [(1, .cells b [.int .i64 c.Hours, .slice p c.Rates.length c_1, .slice p_1 c.Opens.length c_2, .slice p_2 c.Pairs.length c_3] 26), (2, .cells b_1 [.int .i64 n.a0, .int .i64 n.a1] 28), (3, .cells b_2 [.int .i64 rv_1.1.Low, .int .i64 rv_1.1.High] 34)] w) (hS.weak (ms := [(1, .cells b [.int .i64 c.Hours, .slice p c.Rates.length c_1, .slice p_1 c.Opens.length c_2, .slice p_2 c.Pairs.length c_3] 26), (2, .cells b_1 [.int .i64 n.a0, .int .i64 n.a1] 28), (3, .cells b_2 [.int .i64 rv_1.1.Low, .int .i64 rv_1.1.High] 34)]) ⟨rfl, rfl, rfl, trivial⟩).drew (fun _ _ _ _ h => h) ?_ ?_
     ·replace hS := hS.drew
      have hle0 := hS.le
      refine stepV (i := 0) rfl hF (fun w hS => Y.move hF rfl) rfl fun a hF => ?_
      refine stepV (i := 1) rfl hF (fun w hS => Y.indexArr u_28 sz_3 hF rfl rfl (by decide) (by decide)) rfl fun a hF => ?_
      refine stepV (i := 2) rfl hF (fun w hS => Y.load1L 2 sz_3 hF rfl hS rfl rfl) rfl fun a hF => ?_
      obtain ⟨b_5, o_2, hE_2, hY_2⟩ := Y.indexS (P := Tryd.prog) (C := (C_sl C_int)) (xs := rv.1) (T := 27) (x := (.tmp 64)) (y := (.tmp 66)) u_27 sz_44 hF rfl rfl (hs_3).1 hx_4
      obtain ⟨cc_2, hc_2, hcell_2⟩ := hE_2.open
      obtain ⟨p_5, c_6, rfl, hs_5⟩ := hc_2
      refine stepV (i := 3) rfl hF (fun w hS => hY_2) rfl fun a hF => ?_
      refine stepV (i := 4) rfl hF (fun w hS => Y.load1 sz_44 hF rfl (hcell_2 _ hS.stab 0 _ rfl)) rfl fun a hF => ?_
      refine stepV (i := 5) rfl hF (fun w hS => Y.indexArr u_28 sz_3 hF rfl rfl (by decide) (by decide)) rfl fun a hF => ?_
      refine stepV (i := 6) rfl hF (fun w hS => Y.load1L 2 sz_3 hF rfl hS rfl rfl) rfl fun a hF => ?_
      obtain ⟨b_6, o_3, hE_3, hY_3⟩ := Y.indexS (P := Tryd.prog) (C := C_int) (xs := e) (T := 44) (x := (.tmp 68)) (y := (.tmp 70)) u_44 sz_3 hF rfl rfl (hs_5).1 hx_5
      obtain ⟨cc_3, hc_3, hcell_3⟩ := hE_3.open
      obtain rfl := hc_3
      refine stepV (i := 7) rfl hF (fun w hS => hY_3) rfl fun a hF => ?_
      refine stepV (i := 8) rfl hF (fun w hS => Y.load1 sz_3 hF rfl (hcell_3 _ hS.stab 0 _ rfl)) rfl fun a hF => ?_
      refine stepV (i := 9) rfl hF (fun w hS => Y.move hF rfl) rfl fun a hF => ?_
      exact toTailV ⟨hF.weak ⟨rfl, rfl, rfl, trivial⟩, hS.weak ⟨rfl, rfl, rfl, trivial⟩⟩
     rintro a w ⟨hF, hS⟩
     refine step hF (Y.eql hF rfl rfl) rfl fun a hF => ?_
     refine step hF (Y.move hF rfl) rfl fun a hF => ?_
     obtain ⟨t_1, ht_1, h⟩ := bind_some h
     refine join (N := 78) (rs := []) (w0 := w0) (D0 := D0) 2 (us := [(6, .bool false), (77, .bool t_1)]) (ms := [(1, .cells b [.int .i64 c.Hours, .slice p c.Rates.length c_1, .slice p_1 c.Opens.length c_2, .slice p_2 c.Pairs.length c_3] 26), (2, .cells b_1 [.int .i64 n.a0, .int .i64 n.a1] 28), (3, .cells b_2 [.int .i64 rv_1.1.Low, .int .i64 rv_1.1.High] 34)]) (D' := Dv) ?_ ?_
     ·rcases bcases (e_1 == want) with hbv_5 | hbv_5
      ·-- true
       replace h := cond_t ht_1 hbv_5
       refine guard_on hF rfl rfl hbv_5 ?_
       obtain ⟨rv_4, hx_6, h⟩ := bind_some h
       refine O.callP (us := []) ca_21 hF hS (remontoirlaw02_works_ok hS.stab hG rv_4 hx_6) rfl rfl fun a w hF hS => ?_
       refine step hF (Y.pick_t hF rfl hbv_5 rfl) rfl fun a hF => ?_
       obtain rfl := some_inj h
       exact nil (then_n ⟨hF.weak ⟨rfl, rfl, trivial⟩, hS.weak ⟨rfl, rfl, rfl, trivial⟩⟩)
      ·-- false
       replace h := cond_f ht_1 hbv_5
       refine guard_off hF rfl rfl hbv_5 rfl fun a hF => ?_
       refine step hF (Y.pick_f hF rfl hbv_5 rfl) rfl fun a hF => ?_
       obtain rfl := some_inj h
       exact nil (then_n ⟨hF.weak ⟨rfl, rfl, trivial⟩, hS.weak ⟨rfl, rfl, rfl, trivial⟩⟩)
     intro a w hF hS
     refine step hF (Y.assign hF rfl) rfl fun a hF => ?_
     refine nil (then_n ?_)
     refine ret_ ?_
     obtain rfl := some_inj h
     exact leaveP Tryd.results5 hF hS (.cons (.tmp rfl) .nil) .nil rfl

end Go.Proofs.YtpniidbbbhbglaaDoor.Rt
