/- Walks of the functions of this seat: what each Go function comes to, as a Lean function, and the proof. Part WS1. Under no conditions. -/
import Derived.Test.YtpniidbbbhbglaaDoorWBZ
set_option linter.unusedVariables false
set_option linter.unusedSimpArgs false
set_option maxRecDepth 100000
set_option maxHeartbeats 4000000
namespace Go.Proofs.YtpniidbbbhbglaaDoor.Rt
open Go Go.RowKit
noncomputable def remontoirlaw02_sound_b3 (c : BeatCellar) : (Bool × Int) → Option ((Bool × Int) ⊕ Bool)
 | (ok_2, i_2) =>
  cond (ok_2 && (decide (i_2 < (c.Pairs.length : Int))))
  ((idx c.Pairs i_2).bind fun e_2 =>
  (remontoirref00_Lies e_2.Hour 0 c.Hours).bind fun rv_7 =>
  (cond rv_7 ((remontoirref00_Lies e_2.One 0 (wr ((c.Rates.length : Int) - 1))).bind fun rv_8 =>
  some rv_8) (some false)).bind fun t_4 =>
  (cond t_4 ((remontoirref00_Lies e_2.Other (-1) (wr ((c.Rates.length : Int) - 1))).bind fun rv_9 =>
  some rv_9) (some false)).bind fun t_5 =>
  (cond t_5 ((remontoirref00_Valid e_2.Read (-200000) 200000).bind fun rv_10 =>
  some rv_10) (some false)).bind fun t_6 =>
  nxt (t_6, wr (i_2 + 1)))
  (ext (some ok_2))
noncomputable def remontoirlaw02_sound_b2 (c : BeatCellar) : (Bool × Int) → Option ((Bool × Int) ⊕ Bool)
 | (ok_1, i_1) =>
  cond (ok_1 && (decide (i_1 < (c.Opens.length : Int))))
  ((idx c.Opens i_1).bind fun e_1 =>
  (remontoirref00_Lies e_1.Clock 0 (wr ((c.Rates.length : Int) - 1))).bind fun rv_4 =>
  (cond rv_4 ((remontoirref00_Lies e_1.Hour 0 (wr (c.Hours - 1))).bind fun rv_5 =>
  some rv_5) (some false)).bind fun t_2 =>
  (cond t_2 ((remontoirref00_Valid e_1.Step (-100000) 100000).bind fun rv_6 =>
  some rv_6) (some false)).bind fun t_3 =>
  nxt (t_3, wr (i_1 + 1)))
  (ext (loopU (remontoirlaw02_sound_b3 c) (ok_1, 0)))
noncomputable def remontoirlaw02_sound_b1 (c : BeatCellar) : (Bool × Int) → Option ((Bool × Int) ⊕ Bool)
 | (ok, i) =>
  cond (ok && (decide (i < (c.Rates.length : Int))))
  ((idx c.Rates i).bind fun e =>
  (remontoirref00_Valid e (-1000) 1000).bind fun rv_3 =>
  nxt (rv_3, wr (i + 1)))
  (ext (loopU (remontoirlaw02_sound_b2 c) (ok, 0)))
noncomputable def remontoirlaw02_sound (c : BeatCellar) : Option Bool :=
  (beat_Check c).bind fun rv =>
  (cond (rv == 0) ((remontoirref00_Lies c.Hours 1 12).bind fun rv_1 =>
  some rv_1) (some false)).bind fun t =>
  (cond t ((remontoirref00_Lies (c.Rates.length : Int) 1 5).bind fun rv_2 =>
  some rv_2) (some false)).bind fun t_1 =>
  loopU (remontoirlaw02_sound_b1 c) (((t_1 && (decide ((c.Opens.length : Int) ≤ 6))) && (decide ((c.Pairs.length : Int) ≤ 14))), 0)
theorem remontoirlaw02_sound_ok {w0 : World} {D0 : Stab} (hD : D0.on w0) (c : BeatCellar) {p : Option Addr} {c_1 : Nat} {p_1 : Option Addr} {c_2 : Nat} {p_2 : Option Addr} {c_3 : Nat} (hs : SRc C_Span D0 c.Rates p c_1) (hs_1 : SRc C_BeatOpen D0 c.Opens p_1 c_2) (hs_2 : SRc C_BeatPair D0 c.Pairs p_2 c_3) (out : Bool) (h : remontoirlaw02_sound c = some out) : Calls Tryd.prog 32 [.agg #[.int .i64 c.Hours, .slice p c.Rates.length c_1, .slice p_1 c.Opens.length c_2, .slice p_2 c.Pairs.length c_3]].toArray w0 (RetP D0 w0 (.bool out)) := by
 refine enter _ 130 Tryd.func32 rfl Tryd.ntmps32 rfl fun a hF => ?_
 replace hF : Frm 130 [] [(0, .agg #[.int .i64 c.Hours, .slice p c.Rates.length c_1, .slice p_1 c.Opens.length c_2, .slice p_2 c.Pairs.length c_3])] a := hF
 have hS := St.start hD
 unfold remontoirlaw02_sound at h
 refine seq ?_
 refine region ?_
 refine O.box (cs := [.int .i64 c.Hours, .slice p c.Rates.length c_1, .slice p_1 c.Opens.length c_2, .slice p_2 c.Pairs.length c_3]) 1 hF rfl rfl hS rfl fun b a w hF hS => ?_
 refine step hF (Y.assign hF rfl) rfl fun a hF => ?_
 refine nil (then_n ?_)
 refine seq ?_
 refine region ?_
 refine step hF (Y.loadNL 1 sz_26 hF rfl hS rfl rfl rfl) rfl fun a hF => ?_
 obtain ⟨rv, hx, h⟩ := bind_some h
 refine O.callP (us := [.agg #[.int .i64 c.Hours, .slice p c.Rates.length c_1, .slice p_1 c.Opens.length c_2, .slice p_2 c.Pairs.length c_3]]) ca_17 hF hS (beat_Check_ok hS.stab c hs hs_1 hs_2 rv hx) rfl rfl fun a w hF hS => ?_
 refine step hF (Y.eql hF rfl rfl) rfl fun a hF => ?_
 refine step hF (Y.move hF rfl) rfl fun a hF => ?_
 obtain ⟨t, ht, h⟩ := bind_some h
 refine join (N := 130) (rs := []) (w0 := w0) (D0 := D0) 4 (us := [(1, .pointer (some ⟨b, 0, none⟩)), (2, .bool false), (16, .bool t)]) (ms := [(1, .cells b [.int .i64 c.Hours, .slice p c.Rates.length c_1, .slice p_1 c.Opens.length c_2, .slice p_2 c.Pairs.length c_3] 26)]) (D' := D0) ?_ ?_
 ·rcases bcases (rv == 0) with hbv | hbv
  ·-- true
   replace h := cond_t ht hbv
   refine guard_on hF rfl rfl hbv ?_
   refine step hF (Y.fieldAddr fo_26_0 hF rfl) rfl fun a hF => ?_
   refine guard_on hF rfl rfl hbv ?_
   refine step hF (Y.load1L 1 sz_3 hF rfl hS rfl rfl) rfl fun a hF => ?_
   refine guard_on hF rfl rfl hbv ?_
   obtain ⟨rv_1, hx_1, h⟩ := bind_some h
   refine O.callP (us := [.int .i64 c.Hours, .int .i64 1, .int .i64 12]) ca_52 hF hS (remontoirref00_Lies_ok hS.stab c.Hours 1 12 rv_1 hx_1) rfl rfl fun a w hF hS => ?_
   refine step hF (Y.pick_t hF rfl hbv rfl) rfl fun a hF => ?_
   obtain rfl := some_inj h
   exact nil (then_n ⟨hF.weak ⟨rfl, rfl, rfl, trivial⟩, hS.weak ⟨rfl, trivial⟩⟩)
  ·-- false
   replace h := cond_f ht hbv
   refine guard_off hF rfl rfl hbv rfl fun a hF => ?_
   refine guard_off hF rfl rfl hbv rfl fun a hF => ?_
   refine guard_off hF rfl rfl hbv rfl fun a hF => ?_
   refine step hF (Y.pick_f hF rfl hbv rfl) rfl fun a hF => ?_
   obtain rfl := some_inj h
   exact nil (then_n ⟨hF.weak ⟨rfl, rfl, rfl, trivial⟩, hS.weak ⟨rfl, trivial⟩⟩)
 intro a w hF hS
 refine step hF (Y.move hF rfl) rfl fun a hF => ?_
 obtain ⟨t_1, ht_1, h⟩ := bind_some h
 refine join (N := 130) (rs := []) (w0 := w0) (D0 := D0) 5 (us := [(1, .pointer (some ⟨b, 0, none⟩)), (2, .bool false), (22, .bool t_1)]) (ms := [(1, .cells b [.int .i64 c.Hours, .slice p c.Rates.length c_1, .slice p_1 c.Opens.length c_2, .slice p_2 c.Pairs.length c_3] 26)]) (D' := D0) ?_ ?_
 ·rcases bcases t with hbv_1 | hbv_1
  ·-- true
   replace h := cond_t ht_1 hbv_1
   refine guard_on hF rfl rfl hbv_1 ?_
   refine step hF (Y.fieldAddr fo_26_1 hF rfl) rfl fun a hF => ?_
   refine guard_on hF rfl rfl hbv_1 ?_
   refine step hF (Y.load1L 1 sz_22 hF rfl hS rfl rfl) rfl fun a hF => ?_
   refine guard_on hF rfl rfl hbv_1 ?_
   refine step hF (Y.lenSl u_22 hF rfl) rfl fun a hF => ?_
   refine guard_on hF rfl rfl hbv_1 ?_
   obtain ⟨rv_2, hx_2, h⟩ := bind_some h
   refine O.callP (us := [.int .i64 (c.Rates.length : Int), .int .i64 1, .int .i64 5]) ca_52 hF hS (remontoirref00_Lies_ok hS.stab (c.Rates.length : Int) 1 5 rv_2 hx_2) rfl rfl fun a w hF hS => ?_
   refine step hF (Y.pick_t hF rfl hbv_1 rfl) rfl fun a hF => ?_
   obtain rfl := some_inj h
   exact nil (then_n ⟨hF.weak ⟨rfl, rfl, rfl, trivial⟩, hS.weak ⟨rfl, trivial⟩⟩)
  ·-- false
   replace h := cond_f ht_1 hbv_1
   refine guard_off hF rfl rfl hbv_1 rfl fun a hF => ?_
   refine guard_off hF rfl rfl hbv_1 rfl fun a hF => ?_
   refine guard_off hF rfl rfl hbv_1 rfl fun a hF => ?_
   refine guard_off hF rfl rfl hbv_1 rfl fun a hF => ?_
   refine step hF (Y.pick_f hF rfl hbv_1 rfl) rfl fun a hF => ?_
   obtain rfl := some_inj h
   exact nil (then_n ⟨hF.weak ⟨rfl, rfl, rfl, trivial⟩, hS.weak ⟨rfl, trivial⟩⟩)
 intro a w hF hS
 refine step hF (Y.move hF rfl) rfl fun a hF => ?_
 refine join (N := 130) (rs := []) (w0 := w0) (D0 := D0) 5 (us := [(1, .pointer (some ⟨b, 0, none⟩)), (2, .bool false), (28, .bool (t_1 && (decide ((c.Opens.length : Int) ≤ 6))))]) (ms := [(1, .cells b [.int .i64 c.Hours, .slice p c.Rates.length c_1, .slice p_1 c.Opens.length c_2, .slice p_2 c.Pairs.length c_3] 26)]) (D' := D0) ?_ ?_
 ·rcases bcases t_1 with hbv_2 | hbv_2
  ·-- true
   refine guard_on hF rfl rfl hbv_2 ?_
   refine step hF (Y.fieldAddr fo_26_2 hF rfl) rfl fun a hF => ?_
   refine guard_on hF rfl rfl hbv_2 ?_
   refine step hF (Y.load1L 1 sz_23 hF rfl hS rfl rfl) rfl fun a hF => ?_
   refine guard_on hF rfl rfl hbv_2 ?_
   refine step hF (Y.lenSl u_23 hF rfl) rfl fun a hF => ?_
   refine guard_on hF rfl rfl hbv_2 ?_
   refine step hF (Y.leq hF rfl rfl) rfl fun a hF => ?_
   refine step hF (Y.pick_t hF rfl hbv_2 rfl) rfl fun a hF => ?_
   exact nil (then_n ⟨hF.weak ⟨rfl, rfl, (by rw [hbv_2]; rfl), trivial⟩, hS.weak ⟨rfl, trivial⟩⟩)
  ·-- false
   refine guard_off hF rfl rfl hbv_2 rfl fun a hF => ?_
   refine guard_off hF rfl rfl hbv_2 rfl fun a hF => ?_
   refine guard_off hF rfl rfl hbv_2 rfl fun a hF => ?_
   refine guard_off hF rfl rfl hbv_2 rfl fun a hF => ?_
   refine step hF (Y.pick_f hF rfl hbv_2 rfl) rfl fun a hF => ?_
   exact nil (then_n ⟨hF.weak ⟨rfl, rfl, (by rw [hbv_2]; rfl), trivial⟩, hS.weak ⟨rfl, trivial⟩⟩)
 intro a w hF hS
 refine step hF (Y.move hF rfl) rfl fun a hF => ?_
 refine join (N := 130) (rs := []) (w0 := w0) (D0 := D0) 5 (us := [(1, .pointer (some ⟨b, 0, none⟩)), (2, .bool false), (34, .bool ((t_1 && (decide ((c.Opens.length : Int) ≤ 6))) && (decide ((c.Pairs.length : Int) ≤ 14))))]) (ms := [(1, .cells b [.int .i64 c.Hours, .slice p c.Rates.length c_1, .slice p_1 c.Opens.length c_2, .slice p_2 c.Pairs.length c_3] 26)]) (D' := D0) ?_ ?_
 ·rcases bcases (t_1 && (decide ((c.Opens.length : Int) ≤ 6))) with hbv_3 | hbv_3
  ·-- true
   refine guard_on hF rfl rfl hbv_3 ?_
   refine step hF (Y.fieldAddr fo_26_3 hF rfl) rfl fun a hF => ?_
   refine guard_on hF rfl rfl hbv_3 ?_
   refine step hF (Y.load1L 1 sz_24 hF rfl hS rfl rfl) rfl fun a hF => ?_
   refine guard_on hF rfl rfl hbv_3 ?_
   refine step hF (Y.lenSl u_24 hF rfl) rfl fun a hF => ?_
   refine guard_on hF rfl rfl hbv_3 ?_
   refine step hF (Y.leq hF rfl rfl) rfl fun a hF => ?_
   refine step hF (Y.pick_t hF rfl hbv_3 rfl) rfl fun a hF => ?_
   exact nil (then_n ⟨hF.weak ⟨rfl, rfl, (by rw [hbv_3]; rfl), trivial⟩, hS.weak ⟨rfl, trivial⟩⟩)
  ·-- false
   refine guard_off hF rfl rfl hbv_3 rfl fun a hF => ?_
   refine guard_off hF rfl rfl hbv_3 rfl fun a hF => ?_
   refine guard_off hF rfl rfl hbv_3 rfl fun a hF => ?_
   refine guard_off hF rfl rfl hbv_3 rfl fun a hF => ?_
   refine step hF (Y.pick_f hF rfl hbv_3 rfl) rfl fun a hF => ?_
   exact nil (then_n ⟨hF.weak ⟨rfl, rfl, (by rw [hbv_3]; rfl), trivial⟩, hS.weak ⟨rfl, trivial⟩⟩)
 intro a w hF hS
 refine step hF (Y.assign hF rfl) rfl fun a hF => ?_
 refine nil (then_n ?_)
 refine seq ?_
 refine seq ?_
 refine region ?_
 refine step hF (Y.assign hF rfl) rfl fun a hF => ?_
 refine nil (then_n ?_)
 refine block ?_
 refine loop_cut (body := remontoirlaw02_sound_b1 c) (out := out) (fun s a w => ∃ (ok : Bool) (i : Int), s = (ok, i) ∧ Frm 130 [] [(1, .pointer (some ⟨b, 0, none⟩)), (2, .bool false), (3, .bool ok), (4, .int .i64 i)] a ∧ St w0 D0 D0 [(1, .cells b [.int .i64 c.Hours, .slice p c.Rates.length c_1, .slice p_1 c.Opens.length c_2, .slice p_2 c.Pairs.length c_3] 26)] w) (((t_1 && (decide ((c.Opens.length : Int) ≤ 6))) && (decide ((c.Pairs.length : Int) ≤ 14))), 0) h ⟨((t_1 && (decide ((c.Opens.length : Int) ≤ 6))) && (decide ((c.Pairs.length : Int) ≤ 14))), 0, rfl, hF.weak ⟨rfl, rfl, rfl, rfl, trivial⟩, hS.weak ⟨rfl, trivial⟩⟩ ?_
 rintro s a w xo ⟨ok, i, rfl, hF, hS⟩ h hxo
 unfold remontoirlaw02_sound_b1 at h
 dsimp only at h
 refine seq ?_
 refine seq ?_
 refine region ?_
 refine step hF (Y.move hF rfl) rfl fun a hF => ?_
 refine step hF (Y.move hF rfl) rfl fun a hF => ?_
 refine join (N := 130) (rs := []) (w0 := w0) (D0 := D0) 6 (us := [(1, .pointer (some ⟨b, 0, none⟩)), (2, .bool false), (3, .bool ok), (4, .int .i64 i), (42, .bool (ok && (decide (i < (c.Rates.length : Int)))))]) (ms := [(1, .cells b [.int .i64 c.Hours, .slice p c.Rates.length c_1, .slice p_1 c.Opens.length c_2, .slice p_2 c.Pairs.length c_3] 26)]) (D' := D0) ?_ ?_
 ·rcases bcases ok with hbv_4 | hbv_4
  ·-- true
   refine guard_on hF rfl rfl hbv_4 ?_
   refine step hF (Y.move hF rfl) rfl fun a hF => ?_
   refine guard_on hF rfl rfl hbv_4 ?_
   refine step hF (Y.fieldAddr fo_26_1 hF rfl) rfl fun a hF => ?_
   refine guard_on hF rfl rfl hbv_4 ?_
   refine step hF (Y.load1L 1 sz_22 hF rfl hS rfl rfl) rfl fun a hF => ?_
   refine guard_on hF rfl rfl hbv_4 ?_
   refine step hF (Y.lenSl u_22 hF rfl) rfl fun a hF => ?_
   refine guard_on hF rfl rfl hbv_4 ?_
   refine step hF (Y.lss hF rfl rfl) rfl fun a hF => ?_
   refine step hF (Y.pick_t hF rfl hbv_4 rfl) rfl fun a hF => ?_
   exact nil (then_n ⟨hF.weak ⟨rfl, rfl, rfl, rfl, (by rw [hbv_4]; rfl), trivial⟩, hS.weak ⟨rfl, trivial⟩⟩)
  ·-- false
   refine guard_off hF rfl rfl hbv_4 rfl fun a hF => ?_
   refine guard_off hF rfl rfl hbv_4 rfl fun a hF => ?_
   refine guard_off hF rfl rfl hbv_4 rfl fun a hF => ?_
   refine guard_off hF rfl rfl hbv_4 rfl fun a hF => ?_
   refine guard_off hF rfl rfl hbv_4 rfl fun a hF => ?_
   refine step hF (Y.pick_f hF rfl hbv_4 rfl) rfl fun a hF => ?_
   exact nil (then_n ⟨hF.weak ⟨rfl, rfl, rfl, rfl, (by rw [hbv_4]; rfl), trivial⟩, hS.weak ⟨rfl, trivial⟩⟩)
 intro a w hF hS
 refine nil (then_n ?_)
 refine cond_b hF rfl (fun hbv_5 => ?_) (fun hbv_5 => ?_)
 ·replace h := cond_t h hbv_5
  refine skip_ (then_n ?_)
  refine seq ?_
  refine block ?_
  refine region ?_
  refine step hF (Y.fieldAddr fo_26_1 hF rfl) rfl fun a hF => ?_
  refine step hF (Y.load1L 1 sz_22 hF rfl hS rfl rfl) rfl fun a hF => ?_
  refine step hF (Y.move hF rfl) rfl fun a hF => ?_
  obtain ⟨e, hx_3, h⟩ := bind_some h
  obtain ⟨b_1, o, hE, hY⟩ := Y.indexS (P := Tryd.prog) (C := C_Span) (xs := c.Rates) (T := 22) (x := (.tmp 46)) (y := (.tmp 47)) u_22 sz_34 hF rfl rfl (hs).1 hx_3
  obtain ⟨cc, hc, hcell⟩ := hE.open
  obtain rfl := C_Span.open hc
  refine step hF (hY) rfl fun a hF => ?_
  refine step hF (Y.loadNE (o := o) (k := 0) sz_34 hF rfl (hcell _ hS.stab) rfl rfl) rfl fun a hF => ?_
  obtain ⟨rv_3, hx_4, h⟩ := bind_some h
  refine O.callP (us := [.agg #[.int .i64 e.Low, .int .i64 e.High], .int .i64 (-1000), .int .i64 1000]) ca_55 hF hS (remontoirref00_Valid_ok hS.stab e (-1000) 1000 rv_3 hx_4) rfl rfl fun a w hF hS => ?_
  refine step hF (Y.assign hF rfl) rfl fun a hF => ?_
  refine nil (blk_n (then_n ?_))
  refine region ?_
  refine step hF (Y.move hF rfl) rfl fun a hF => ?_
  refine step hF (Y.add hF rfl rfl) rfl fun a hF => ?_
  refine step hF (Y.assign hF rfl) rfl fun a hF => ?_
  refine nil (then_n ?_)
  exact ⟨_, nxt_some h, rv_3, (wr (i + 1)), rfl, hF.weak ⟨rfl, rfl, rfl, rfl, trivial⟩, hS.weak ⟨rfl, trivial⟩⟩
 ·replace h := cond_f h hbv_5
  refine exit_ (then_x (then_x (blk_hit (then_n ?_))))
  replace h := ext_some h hxo
  refine seq ?_
  refine seq ?_
  refine region ?_
  refine step hF (Y.assign hF rfl) rfl fun a hF => ?_
  refine nil (then_n ?_)
  refine block ?_
  refine loop_cut (body := remontoirlaw02_sound_b2 c) (out := out) (fun s a w => ∃ (ok_1 : Bool) (i_1 : Int), s = (ok_1, i_1) ∧ Frm 130 [] [(1, .pointer (some ⟨b, 0, none⟩)), (2, .bool false), (3, .bool ok_1), (5, .int .i64 i_1)] a ∧ St w0 D0 D0 [(1, .cells b [.int .i64 c.Hours, .slice p c.Rates.length c_1, .slice p_1 c.Opens.length c_2, .slice p_2 c.Pairs.length c_3] 26)] w) (ok, 0) h ⟨ok, 0, rfl, hF.weak ⟨rfl, rfl, rfl, rfl, trivial⟩, hS.weak ⟨rfl, trivial⟩⟩ ?_
  rintro s a w xo_1 ⟨ok_1, i_1, rfl, hF, hS⟩ h hxo_1
  unfold remontoirlaw02_sound_b2 at h
  dsimp only at h
  refine seq ?_
  refine seq ?_
  refine region ?_
  refine step hF (Y.move hF rfl) rfl fun a hF => ?_
  refine step hF (Y.move hF rfl) rfl fun a hF => ?_
  refine join (N := 130) (rs := []) (w0 := w0) (D0 := D0) 6 (us := [(1, .pointer (some ⟨b, 0, none⟩)), (2, .bool false), (3, .bool ok_1), (5, .int .i64 i_1), (58, .bool (ok_1 && (decide (i_1 < (c.Opens.length : Int)))))]) (ms := [(1, .cells b [.int .i64 c.Hours, .slice p c.Rates.length c_1, .slice p_1 c.Opens.length c_2, .slice p_2 c.Pairs.length c_3] 26)]) (D' := D0) ?_ ?_
  ·rcases bcases ok_1 with hbv_6 | hbv_6
   ·-- true
    refine guard_on hF rfl rfl hbv_6 ?_
    refine step hF (Y.move hF rfl) rfl fun a hF => ?_
    refine guard_on hF rfl rfl hbv_6 ?_
    refine step hF (Y.fieldAddr fo_26_2 hF rfl) rfl fun a hF => ?_
    refine guard_on hF rfl rfl hbv_6 ?_
    refine step hF (Y.load1L 1 sz_23 hF rfl hS rfl rfl) rfl fun a hF => ?_
    refine guard_on hF rfl rfl hbv_6 ?_
    refine step hF (Y.lenSl u_23 hF rfl) rfl fun a hF => ?_
    refine guard_on hF rfl rfl hbv_6 ?_
    refine step hF (Y.lss hF rfl rfl) rfl fun a hF => ?_
    refine step hF (Y.pick_t hF rfl hbv_6 rfl) rfl fun a hF => ?_
    exact nil (then_n ⟨hF.weak ⟨rfl, rfl, rfl, rfl, (by rw [hbv_6]; rfl), trivial⟩, hS.weak ⟨rfl, trivial⟩⟩)
   ·-- false
    refine guard_off hF rfl rfl hbv_6 rfl fun a hF => ?_
    refine guard_off hF rfl rfl hbv_6 rfl fun a hF => ?_
    refine guard_off hF rfl rfl hbv_6 rfl fun a hF => ?_
    refine guard_off hF rfl rfl hbv_6 rfl fun a hF => ?_
    refine guard_off hF rfl rfl hbv_6 rfl fun a hF => ?_
    refine step hF (Y.pick_f hF rfl hbv_6 rfl) rfl fun a hF => ?_
    exact nil (then_n ⟨hF.weak ⟨rfl, rfl, rfl, rfl, (by rw [hbv_6]; rfl), trivial⟩, hS.weak ⟨rfl, trivial⟩⟩)
  intro a w hF hS
  refine nil (then_n ?_)
  refine cond_b hF rfl (fun hbv_7 => ?_) (fun hbv_7 => ?_)
  ·replace h := cond_t h hbv_7
   refine skip_ (then_n ?_)
   refine seq ?_
   refine block ?_
   refine seq ?_
   refine region ?_
   refine step hF (Y.fieldAddr fo_26_2 hF rfl) rfl fun a hF => ?_
   refine step hF (Y.load1L 1 sz_23 hF rfl hS rfl rfl) rfl fun a hF => ?_
   refine step hF (Y.move hF rfl) rfl fun a hF => ?_
   obtain ⟨e_1, hx_5, h⟩ := bind_some h
   obtain ⟨b_2, o_1, hE_1, hY_1⟩ := Y.indexS (P := Tryd.prog) (C := C_BeatOpen) (xs := c.Opens) (T := 23) (x := (.tmp 62)) (y := (.tmp 63)) u_23 sz_63 hF rfl rfl (hs_1).1 hx_5
   obtain ⟨cc_1, hc_1, hcell_1⟩ := hE_1.open
   obtain rfl := C_BeatOpen.open hc_1
   refine step hF (hY_1) rfl fun a hF => ?_
   refine step hF (Y.loadNE (o := o_1) (k := 0) sz_63 hF rfl (hcell_1 _ hS.stab) rfl rfl) rfl fun a hF => ?_
   refine O.alloc 2 zc_63 hF hS rfl fun b_3 a w hF hS => ?_
   refine O.store (us := [.int .i64 e_1.Clock, .int .i64 e_1.Hour, .int .i64 e_1.Step.Low, .int .i64 e_1.Step.High]) 2 sz_63 hF rfl rfl rfl rfl hS rfl rfl fun a w hF hS => ?_
   refine nil (then_n ?_)
   refine region ?_
   refine step hF (Y.fieldAddr fo_63_0 hF rfl) rfl fun a hF => ?_
   refine step hF (Y.load1L 2 sz_3 hF rfl hS rfl rfl) rfl fun a hF => ?_
   refine step hF (Y.fieldAddr fo_26_1 hF rfl) rfl fun a hF => ?_
   refine step hF (Y.load1L 1 sz_22 hF rfl hS rfl rfl) rfl fun a hF => ?_
   refine step hF (Y.lenSl u_22 hF rfl) rfl fun a hF => ?_
   refine step hF (Y.sub hF rfl rfl) rfl fun a hF => ?_
   obtain ⟨rv_4, hx_6, h⟩ := bind_some h
   refine O.callP (us := [.int .i64 e_1.Clock, .int .i64 0, .int .i64 (wr ((c.Rates.length : Int) - 1))]) ca_52 hF hS (remontoirref00_Lies_ok hS.stab e_1.Clock 0 (wr ((c.Rates.length : Int) - 1)) rv_4 hx_6) rfl rfl fun a w hF hS => ?_
   refine step hF (Y.move hF rfl) rfl fun a hF => ?_
   obtain ⟨t_2, ht_2, h⟩ := bind_some h
   refine join (N := 130) (rs := []) (w0 := w0) (D0 := D0) 7 (us := [(1, .pointer (some ⟨b, 0, none⟩)), (2, .bool false), (3, .bool ok_1), (5, .int .i64 i_1), (6, .pointer (some ⟨b_3, 0, none⟩)), (80, .bool t_2)]) (ms := [(1, .cells b [.int .i64 c.Hours, .slice p c.Rates.length c_1, .slice p_1 c.Opens.length c_2, .slice p_2 c.Pairs.length c_3] 26), (2, .cells b_3 [.int .i64 e_1.Clock, .int .i64 e_1.Hour, .int .i64 e_1.Step.Low, .int .i64 e_1.Step.High] 63)]) (D' := D0) ?_ ?_
   ·rcases bcases rv_4 with hbv_8 | hbv_8
    ·-- true
     replace h := cond_t ht_2 hbv_8
     refine guard_on hF rfl rfl hbv_8 ?_
     refine step hF (Y.fieldAddr fo_63_1 hF rfl) rfl fun a hF => ?_
     refine guard_on hF rfl rfl hbv_8 ?_
     refine step hF (Y.load1L 2 sz_3 hF rfl hS rfl rfl) rfl fun a hF => ?_
     refine guard_on hF rfl rfl hbv_8 ?_
     refine step hF (Y.fieldAddr fo_26_0 hF rfl) rfl fun a hF => ?_
     refine guard_on hF rfl rfl hbv_8 ?_
     refine step hF (Y.load1L 1 sz_3 hF rfl hS rfl rfl) rfl fun a hF => ?_
     refine guard_on hF rfl rfl hbv_8 ?_
     refine step hF (Y.sub hF rfl rfl) rfl fun a hF => ?_
     refine guard_on hF rfl rfl hbv_8 ?_
     obtain ⟨rv_5, hx_7, h⟩ := bind_some h
     refine O.callP (us := [.int .i64 e_1.Hour, .int .i64 0, .int .i64 (wr (c.Hours - 1))]) ca_52 hF hS (remontoirref00_Lies_ok hS.stab e_1.Hour 0 (wr (c.Hours - 1)) rv_5 hx_7) rfl rfl fun a w hF hS => ?_
     refine step hF (Y.pick_t hF rfl hbv_8 rfl) rfl fun a hF => ?_
     obtain rfl := some_inj h
     exact nil (then_n ⟨hF.weak ⟨rfl, rfl, rfl, rfl, rfl, rfl, trivial⟩, hS.weak ⟨rfl, rfl, trivial⟩⟩)
    ·-- false
     replace h := cond_f ht_2 hbv_8
     refine guard_off hF rfl rfl hbv_8 rfl fun a hF => ?_
     refine guard_off hF rfl rfl hbv_8 rfl fun a hF => ?_
     refine guard_off hF rfl rfl hbv_8 rfl fun a hF => ?_
     refine guard_off hF rfl rfl hbv_8 rfl fun a hF => ?_
     refine guard_off hF rfl rfl hbv_8 rfl fun a hF => ?_
     refine guard_off hF rfl rfl hbv_8 rfl fun a hF => ?_
     refine step hF (Y.pick_f hF rfl hbv_8 rfl) rfl fun a hF => ?_
     obtain rfl := some_inj h
     exact nil (then_n ⟨hF.weak ⟨rfl, rfl, rfl, rfl, rfl, rfl, trivial⟩, hS.weak ⟨rfl, rfl, trivial⟩⟩)
   intro a w hF hS
   refine step hF (Y.move hF rfl) rfl fun a hF => ?_
   obtain ⟨t_3, ht_3, h⟩ := bind_some h
   refine join (N := 130) (rs := []) (w0 := w0) (D0 := D0) 4 (us := [(1, .pointer (some ⟨b, 0, none⟩)), (2, .bool false), (3, .bool ok_1), (5, .int .i64 i_1), (85, .bool t_3)]) (ms := [(1, .cells b [.int .i64 c.Hours, .slice p c.Rates.length c_1, .slice p_1 c.Opens.length c_2, .slice p_2 c.Pairs.length c_3] 26), (2, .cells b_3 [.int .i64 e_1.Clock, .int .i64 e_1.Hour, .int .i64 e_1.Step.Low, .int .i64 e_1.Step.High] 63)]) (D' := D0) ?_ ?_
   ·rcases bcases t_2 with hbv_9 | hbv_9
    ·-- true
     replace h := cond_t ht_3 hbv_9
     refine guard_on hF rfl rfl hbv_9 ?_
     refine step hF (Y.fieldAddr fo_63_2 hF rfl) rfl fun a hF => ?_
     refine guard_on hF rfl rfl hbv_9 ?_
     refine step hF (Y.loadNL 2 sz_34 hF rfl hS rfl rfl rfl) rfl fun a hF => ?_
     refine guard_on hF rfl rfl hbv_9 ?_
     obtain ⟨rv_6, hx_8, h⟩ := bind_some h
     refine O.callP (us := [.agg #[.int .i64 e_1.Step.Low, .int .i64 e_1.Step.High], .int .i64 (-100000), .int .i64 100000]) ca_55 hF hS (remontoirref00_Valid_ok hS.stab e_1.Step (-100000) 100000 rv_6 hx_8) rfl rfl fun a w hF hS => ?_
     refine step hF (Y.pick_t hF rfl hbv_9 rfl) rfl fun a hF => ?_
     obtain rfl := some_inj h
     exact nil (then_n ⟨hF.weak ⟨rfl, rfl, rfl, rfl, rfl, trivial⟩, hS.weak ⟨rfl, rfl, trivial⟩⟩)
    ·-- false
     replace h := cond_f ht_3 hbv_9
     refine guard_off hF rfl rfl hbv_9 rfl fun a hF => ?_
     refine guard_off hF rfl rfl hbv_9 rfl fun a hF => ?_
     refine guard_off hF rfl rfl hbv_9 rfl fun a hF => ?_
     refine step hF (Y.pick_f hF rfl hbv_9 rfl) rfl fun a hF => ?_
     obtain rfl := some_inj h
     exact nil (then_n ⟨hF.weak ⟨rfl, rfl, rfl, rfl, rfl, trivial⟩, hS.weak ⟨rfl, rfl, trivial⟩⟩)
   intro a w hF hS
   refine step hF (Y.assign hF rfl) rfl fun a hF => ?_
   refine nil (blk_n (then_n ?_))
   refine region ?_
   refine step hF (Y.move hF rfl) rfl fun a hF => ?_
   refine step hF (Y.add hF rfl rfl) rfl fun a hF => ?_
   refine step hF (Y.assign hF rfl) rfl fun a hF => ?_
   refine nil (then_n ?_)
   exact ⟨_, nxt_some h, t_3, (wr (i_1 + 1)), rfl, hF.weak ⟨rfl, rfl, rfl, rfl, trivial⟩, hS.weak ⟨rfl, trivial⟩⟩
  ·replace h := cond_f h hbv_7
   refine exit_ (then_x (then_x (blk_hit (then_n ?_))))
   replace h := ext_some h hxo_1
   refine seq ?_
   refine seq ?_
   refine region ?_
   refine step hF (Y.assign hF rfl) rfl fun a hF => ?_
   refine nil (then_n ?_)
   refine block ?_
   refine loop_cut (body := remontoirlaw02_sound_b3 c) (out := out) (fun s a w => ∃ (ok_2 : Bool) (i_2 : Int), s = (ok_2, i_2) ∧ Frm 130 [] [(1, .pointer (some ⟨b, 0, none⟩)), (2, .bool false), (3, .bool ok_2), (7, .int .i64 i_2)] a ∧ St w0 D0 D0 [(1, .cells b [.int .i64 c.Hours, .slice p c.Rates.length c_1, .slice p_1 c.Opens.length c_2, .slice p_2 c.Pairs.length c_3] 26)] w) (ok_1, 0) h ⟨ok_1, 0, rfl, hF.weak ⟨rfl, rfl, rfl, rfl, trivial⟩, hS.weak ⟨rfl, trivial⟩⟩ ?_
   rintro s a w xo_2 ⟨ok_2, i_2, rfl, hF, hS⟩ h hxo_2
   unfold remontoirlaw02_sound_b3 at h
   dsimp only at h
   refine seq ?_
   refine seq ?_
   refine region ?_
   refine step hF (Y.move hF rfl) rfl fun a hF => ?_
   refine step hF (Y.move hF rfl) rfl fun a hF => ?_
   refine join (N := 130) (rs := []) (w0 := w0) (D0 := D0) 6 (us := [(1, .pointer (some ⟨b, 0, none⟩)), (2, .bool false), (3, .bool ok_2), (7, .int .i64 i_2), (93, .bool (ok_2 && (decide (i_2 < (c.Pairs.length : Int)))))]) (ms := [(1, .cells b [.int .i64 c.Hours, .slice p c.Rates.length c_1, .slice p_1 c.Opens.length c_2, .slice p_2 c.Pairs.length c_3] 26)]) (D' := D0) ?_ ?_
   ·rcases bcases ok_2 with hbv_10 | hbv_10
    ·-- true
     refine guard_on hF rfl rfl hbv_10 ?_
     refine step hF (Y.move hF rfl) rfl fun a hF => ?_
     refine guard_on hF rfl rfl hbv_10 ?_
     refine step hF (Y.fieldAddr fo_26_3 hF rfl) rfl fun a hF => ?_
     refine guard_on hF rfl rfl hbv_10 ?_
     refine step hF (Y.load1L 1 sz_24 hF rfl hS rfl rfl) rfl fun a hF => ?_
     refine guard_on hF rfl rfl hbv_10 ?_
     refine step hF (Y.lenSl u_24 hF rfl) rfl fun a hF => ?_
     refine guard_on hF rfl rfl hbv_10 ?_
     refine step hF (Y.lss hF rfl rfl) rfl fun a hF => ?_
     refine step hF (Y.pick_t hF rfl hbv_10 rfl) rfl fun a hF => ?_
     exact nil (then_n ⟨hF.weak ⟨rfl, rfl, rfl, rfl, (by rw [hbv_10]; rfl), trivial⟩, hS.weak ⟨rfl, trivial⟩⟩)
    ·-- false
     refine guard_off hF rfl rfl hbv_10 rfl fun a hF => ?_
     refine guard_off hF rfl rfl hbv_10 rfl fun a hF => ?_
     refine guard_off hF rfl rfl hbv_10 rfl fun a hF => ?_
     refine guard_off hF rfl rfl hbv_10 rfl fun a hF => ?_
     refine guard_off hF rfl rfl hbv_10 rfl fun a hF => ?_
     refine step hF (Y.pick_f hF rfl hbv_10 rfl) rfl fun a hF => ?_
     exact nil (then_n ⟨hF.weak ⟨rfl, rfl, rfl, rfl, (by rw [hbv_10]; rfl), trivial⟩, hS.weak ⟨rfl, trivial⟩⟩)
   intro a w hF hS
   refine nil (then_n ?_)
   refine cond_b hF rfl (fun hbv_11 => ?_) (fun hbv_11 => ?_)
   ·replace h := cond_t h hbv_11
    refine skip_ (then_n ?_)
    refine seq ?_
    refine block ?_
    refine seq ?_
    refine region ?_
    refine step hF (Y.fieldAddr fo_26_3 hF rfl) rfl fun a hF => ?_
    refine step hF (Y.load1L 1 sz_24 hF rfl hS rfl rfl) rfl fun a hF => ?_
    refine step hF (Y.move hF rfl) rfl fun a hF => ?_
    obtain ⟨e_2, hx_9, h⟩ := bind_some h
    obtain ⟨b_4, o_2, hE_2, hY_2⟩ := Y.indexS (P := Tryd.prog) (C := C_BeatPair) (xs := c.Pairs) (T := 24) (x := (.tmp 97)) (y := (.tmp 98)) u_24 sz_61 hF rfl rfl (hs_2).1 hx_9
    obtain ⟨cc_2, hc_2, hcell_2⟩ := hE_2.open
    obtain rfl := C_BeatPair.open hc_2
    refine step hF (hY_2) rfl fun a hF => ?_
    refine step hF (Y.loadNE (o := o_2) (k := 0) sz_61 hF rfl (hcell_2 _ hS.stab) rfl rfl) rfl fun a hF => ?_
    refine O.alloc 3 zc_61 hF hS rfl fun b_5 a w hF hS => ?_
    refine O.store (us := [.int .i64 e_2.Hour, .int .i64 e_2.One, .int .i64 e_2.Other, .int .i64 e_2.Read.Low, .int .i64 e_2.Read.High]) 3 sz_61 hF rfl rfl rfl rfl hS rfl rfl fun a w hF hS => ?_
    refine nil (then_n ?_)
    refine region ?_
    refine step hF (Y.fieldAddr fo_61_0 hF rfl) rfl fun a hF => ?_
    refine step hF (Y.load1L 3 sz_3 hF rfl hS rfl rfl) rfl fun a hF => ?_
    refine step hF (Y.fieldAddr fo_26_0 hF rfl) rfl fun a hF => ?_
    refine step hF (Y.load1L 1 sz_3 hF rfl hS rfl rfl) rfl fun a hF => ?_
    obtain ⟨rv_7, hx_10, h⟩ := bind_some h
    refine O.callP (us := [.int .i64 e_2.Hour, .int .i64 0, .int .i64 c.Hours]) ca_52 hF hS (remontoirref00_Lies_ok hS.stab e_2.Hour 0 c.Hours rv_7 hx_10) rfl rfl fun a w hF hS => ?_
    refine step hF (Y.move hF rfl) rfl fun a hF => ?_
    obtain ⟨t_4, ht_4, h⟩ := bind_some h
    refine join (N := 130) (rs := []) (w0 := w0) (D0 := D0) 8 (us := [(1, .pointer (some ⟨b, 0, none⟩)), (2, .bool false), (3, .bool ok_2), (7, .int .i64 i_2), (8, .pointer (some ⟨b_5, 0, none⟩)), (114, .bool t_4)]) (ms := [(1, .cells b [.int .i64 c.Hours, .slice p c.Rates.length c_1, .slice p_1 c.Opens.length c_2, .slice p_2 c.Pairs.length c_3] 26), (3, .cells b_5 [.int .i64 e_2.Hour, .int .i64 e_2.One, .int .i64 e_2.Other, .int .i64 e_2.Read.Low, .int .i64 e_2.Read.High] 61)]) (D' := D0) ?_ ?_
    ·rcases bcases rv_7 with hbv_12 | hbv_12
     ·-- true
      replace h := cond_t ht_4 hbv_12
      refine guard_on hF rfl rfl hbv_12 ?_
      refine step hF (Y.fieldAddr fo_61_1 hF rfl) rfl fun a hF => ?_
      refine guard_on hF rfl rfl hbv_12 ?_
      refine step hF (Y.load1L 3 sz_3 hF rfl hS rfl rfl) rfl fun a hF => ?_
      refine guard_on hF rfl rfl hbv_12 ?_
      refine step hF (Y.fieldAddr fo_26_1 hF rfl) rfl fun a hF => ?_
      refine guard_on hF rfl rfl hbv_12 ?_
      refine step hF (Y.load1L 1 sz_22 hF rfl hS rfl rfl) rfl fun a hF => ?_
      refine guard_on hF rfl rfl hbv_12 ?_
      refine step hF (Y.lenSl u_22 hF rfl) rfl fun a hF => ?_
      refine guard_on hF rfl rfl hbv_12 ?_
      refine step hF (Y.sub hF rfl rfl) rfl fun a hF => ?_
      refine guard_on hF rfl rfl hbv_12 ?_
      obtain ⟨rv_8, hx_11, h⟩ := bind_some h
      refine O.callP (us := [.int .i64 e_2.One, .int .i64 0, .int .i64 (wr ((c.Rates.length : Int) - 1))]) ca_52 hF hS (remontoirref00_Lies_ok hS.stab e_2.One 0 (wr ((c.Rates.length : Int) - 1)) rv_8 hx_11) rfl rfl fun a w hF hS => ?_
      refine step hF (Y.pick_t hF rfl hbv_12 rfl) rfl fun a hF => ?_
      obtain rfl := some_inj h
      exact nil (then_n ⟨hF.weak ⟨rfl, rfl, rfl, rfl, rfl, rfl, trivial⟩, hS.weak ⟨rfl, rfl, trivial⟩⟩)
     ·-- false
      replace h := cond_f ht_4 hbv_12
      refine guard_off hF rfl rfl hbv_12 rfl fun a hF => ?_
      refine guard_off hF rfl rfl hbv_12 rfl fun a hF => ?_
      refine guard_off hF rfl rfl hbv_12 rfl fun a hF => ?_
      refine guard_off hF rfl rfl hbv_12 rfl fun a hF => ?_
      refine guard_off hF rfl rfl hbv_12 rfl fun a hF => ?_
      refine guard_off hF rfl rfl hbv_12 rfl fun a hF => ?_
      refine guard_off hF rfl rfl hbv_12 rfl fun a hF => ?_
      refine step hF (Y.pick_f hF rfl hbv_12 rfl) rfl fun a hF => ?_
      obtain rfl := some_inj h
      exact nil (then_n ⟨hF.weak ⟨rfl, rfl, rfl, rfl, rfl, rfl, trivial⟩, hS.weak ⟨rfl, rfl, trivial⟩⟩)
    intro a w hF hS
    refine step hF (Y.move hF rfl) rfl fun a hF => ?_
    obtain ⟨t_5, ht_5, h⟩ := bind_some h
    refine join (N := 130) (rs := []) (w0 := w0) (D0 := D0) 8 (us := [(1, .pointer (some ⟨b, 0, none⟩)), (2, .bool false), (3, .bool ok_2), (7, .int .i64 i_2), (8, .pointer (some ⟨b_5, 0, none⟩)), (123, .bool t_5)]) (ms := [(1, .cells b [.int .i64 c.Hours, .slice p c.Rates.length c_1, .slice p_1 c.Opens.length c_2, .slice p_2 c.Pairs.length c_3] 26), (3, .cells b_5 [.int .i64 e_2.Hour, .int .i64 e_2.One, .int .i64 e_2.Other, .int .i64 e_2.Read.Low, .int .i64 e_2.Read.High] 61)]) (D' := D0) ?_ ?_
    ·rcases bcases t_4 with hbv_13 | hbv_13
     ·-- true
      replace h := cond_t ht_5 hbv_13
      refine guard_on hF rfl rfl hbv_13 ?_
      refine step hF (Y.fieldAddr fo_61_2 hF rfl) rfl fun a hF => ?_
      refine guard_on hF rfl rfl hbv_13 ?_
      refine step hF (Y.load1L 3 sz_3 hF rfl hS rfl rfl) rfl fun a hF => ?_
      refine guard_on hF rfl rfl hbv_13 ?_
      refine step hF (Y.fieldAddr fo_26_1 hF rfl) rfl fun a hF => ?_
      refine guard_on hF rfl rfl hbv_13 ?_
      refine step hF (Y.load1L 1 sz_22 hF rfl hS rfl rfl) rfl fun a hF => ?_
      refine guard_on hF rfl rfl hbv_13 ?_
      refine step hF (Y.lenSl u_22 hF rfl) rfl fun a hF => ?_
      refine guard_on hF rfl rfl hbv_13 ?_
      refine step hF (Y.sub hF rfl rfl) rfl fun a hF => ?_
      refine guard_on hF rfl rfl hbv_13 ?_
      obtain ⟨rv_9, hx_12, h⟩ := bind_some h
      refine O.callP (us := [.int .i64 e_2.Other, .int .i64 (-1), .int .i64 (wr ((c.Rates.length : Int) - 1))]) ca_52 hF hS (remontoirref00_Lies_ok hS.stab e_2.Other (-1) (wr ((c.Rates.length : Int) - 1)) rv_9 hx_12) rfl rfl fun a w hF hS => ?_
      refine step hF (Y.pick_t hF rfl hbv_13 rfl) rfl fun a hF => ?_
      obtain rfl := some_inj h
      exact nil (then_n ⟨hF.weak ⟨rfl, rfl, rfl, rfl, rfl, rfl, trivial⟩, hS.weak ⟨rfl, rfl, trivial⟩⟩)
     ·-- false
      replace h := cond_f ht_5 hbv_13
      refine guard_off hF rfl rfl hbv_13 rfl fun a hF => ?_
      refine guard_off hF rfl rfl hbv_13 rfl fun a hF => ?_
      refine guard_off hF rfl rfl hbv_13 rfl fun a hF => ?_
      refine guard_off hF rfl rfl hbv_13 rfl fun a hF => ?_
      refine guard_off hF rfl rfl hbv_13 rfl fun a hF => ?_
      refine guard_off hF rfl rfl hbv_13 rfl fun a hF => ?_
      refine guard_off hF rfl rfl hbv_13 rfl fun a hF => ?_
      refine step hF (Y.pick_f hF rfl hbv_13 rfl) rfl fun a hF => ?_
      obtain rfl := some_inj h
      exact nil (then_n ⟨hF.weak ⟨rfl, rfl, rfl, rfl, rfl, rfl, trivial⟩, hS.weak ⟨rfl, rfl, trivial⟩⟩)
    intro a w hF hS
    refine step hF (Y.move hF rfl) rfl fun a hF => ?_
    obtain ⟨t_6, ht_6, h⟩ := bind_some h
    refine join (N := 130) (rs := []) (w0 := w0) (D0 := D0) 4 (us := [(1, .pointer (some ⟨b, 0, none⟩)), (2, .bool false), (3, .bool ok_2), (7, .int .i64 i_2), (128, .bool t_6)]) (ms := [(1, .cells b [.int .i64 c.Hours, .slice p c.Rates.length c_1, .slice p_1 c.Opens.length c_2, .slice p_2 c.Pairs.length c_3] 26), (3, .cells b_5 [.int .i64 e_2.Hour, .int .i64 e_2.One, .int .i64 e_2.Other, .int .i64 e_2.Read.Low, .int .i64 e_2.Read.High] 61)]) (D' := D0) ?_ ?_
    ·rcases bcases t_5 with hbv_14 | hbv_14
     ·-- true
      replace h := cond_t ht_6 hbv_14
      refine guard_on hF rfl rfl hbv_14 ?_
      refine step hF (Y.fieldAddr fo_61_3 hF rfl) rfl fun a hF => ?_
      refine guard_on hF rfl rfl hbv_14 ?_
      refine step hF (Y.loadNL 3 sz_34 hF rfl hS rfl rfl rfl) rfl fun a hF => ?_
      refine guard_on hF rfl rfl hbv_14 ?_
      obtain ⟨rv_10, hx_13, h⟩ := bind_some h
      refine O.callP (us := [.agg #[.int .i64 e_2.Read.Low, .int .i64 e_2.Read.High], .int .i64 (-200000), .int .i64 200000]) ca_55 hF hS (remontoirref00_Valid_ok hS.stab e_2.Read (-200000) 200000 rv_10 hx_13) rfl rfl fun a w hF hS => ?_
      refine step hF (Y.pick_t hF rfl hbv_14 rfl) rfl fun a hF => ?_
      obtain rfl := some_inj h
      exact nil (then_n ⟨hF.weak ⟨rfl, rfl, rfl, rfl, rfl, trivial⟩, hS.weak ⟨rfl, rfl, trivial⟩⟩)
     ·-- false
      replace h := cond_f ht_6 hbv_14
      refine guard_off hF rfl rfl hbv_14 rfl fun a hF => ?_
      refine guard_off hF rfl rfl hbv_14 rfl fun a hF => ?_
      refine guard_off hF rfl rfl hbv_14 rfl fun a hF => ?_
      refine step hF (Y.pick_f hF rfl hbv_14 rfl) rfl fun a hF => ?_
      obtain rfl := some_inj h
      exact nil (then_n ⟨hF.weak ⟨rfl, rfl, rfl, rfl, rfl, trivial⟩, hS.weak ⟨rfl, rfl, trivial⟩⟩)
    intro a w hF hS
    refine step hF (Y.assign hF rfl) rfl fun a hF => ?_
    refine nil (blk_n (then_n ?_))
    refine region ?_
    refine step hF (Y.move hF rfl) rfl fun a hF => ?_
    refine step hF (Y.add hF rfl rfl) rfl fun a hF => ?_
    refine step hF (Y.assign hF rfl) rfl fun a hF => ?_
    refine nil (then_n ?_)
    exact ⟨_, nxt_some h, t_6, (wr (i_2 + 1)), rfl, hF.weak ⟨rfl, rfl, rfl, rfl, trivial⟩, hS.weak ⟨rfl, trivial⟩⟩
   ·replace h := cond_f h hbv_11
    refine exit_ (then_x (then_x (blk_hit (then_n ?_))))
    replace h := ext_some h hxo_2
    refine seq ?_
    refine region ?_
    refine step hF (Y.move hF rfl) rfl fun a hF => ?_
    refine step hF (Y.assign hF rfl) rfl fun a hF => ?_
    refine nil (then_n ?_)
    refine ret_ ?_
    obtain rfl := some_inj h
    exact leaveP Tryd.results32 hF hS (.cons (.tmp rfl) .nil) .nil rfl

end Go.Proofs.YtpniidbbbhbglaaDoor.Rt
