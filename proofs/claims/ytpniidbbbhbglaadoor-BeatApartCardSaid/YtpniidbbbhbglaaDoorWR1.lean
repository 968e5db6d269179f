/- Walks of the functions of this seat: what each Go function comes to, as a Lean function, and the proof. Part WR1. Under no conditions. -/
import Derived.Test.YtpniidbbbhbglaaDoorWBZ
set_option linter.unusedVariables false
set_option linter.unusedSimpArgs false
set_option maxRecDepth 100000
set_option maxHeartbeats 4000000
namespace Go.Proofs.YtpniidbbbhbglaaDoor.Rt
open Go Go.RowKit
noncomputable def remontoirref02_Check_b3 (c : BeatCellar) : (Bool × Int) → Option ((Bool × Int) ⊕ Int)
 | (ok_2, i_2) =>
  cond (ok_2 && (decide (i_2 < (c.Pairs.length : Int))))
  ((idx c.Pairs i_2).bind fun e_2 =>
  (remontoirref00_Lies e_2.Hour 0 c.Hours).bind fun rv_6 =>
  (cond rv_6 ((remontoirref00_Lies e_2.One 0 (wr ((c.Rates.length : Int) - 1))).bind fun rv_7 =>
  some rv_7) (some false)).bind fun t_3 =>
  (cond t_3 ((remontoirref00_Lies e_2.Other (-1) (wr ((c.Rates.length : Int) - 1))).bind fun rv_8 =>
  some rv_8) (some false)).bind fun t_4 =>
  (cond (t_4 && (e_2.One != e_2.Other)) ((remontoirref00_Valid e_2.Read (-200000) 200000).bind fun rv_9 =>
  some rv_9) (some false)).bind fun t_5 =>
  nxt (t_5, wr (i_2 + 1)))
  (ext (cond (!ok_2)
  (some 20)
  (some 0)))
noncomputable def remontoirref02_Check_b2 (c : BeatCellar) : (Bool × Int) → Option ((Bool × Int) ⊕ Int)
 | (ok_1, i_1) =>
  cond (ok_1 && (decide (i_1 < (c.Opens.length : Int))))
  ((idx c.Opens i_1).bind fun e_1 =>
  (remontoirref00_Lies e_1.Clock 0 (wr ((c.Rates.length : Int) - 1))).bind fun rv_3 =>
  (cond rv_3 ((remontoirref00_Lies e_1.Hour 0 (wr (c.Hours - 1))).bind fun rv_4 =>
  some rv_4) (some false)).bind fun t_1 =>
  (cond t_1 ((remontoirref00_Valid e_1.Step (-100000) 100000).bind fun rv_5 =>
  some rv_5) (some false)).bind fun t_2 =>
  nxt (t_2, wr (i_1 + 1)))
  (ext (loopU (remontoirref02_Check_b3 c) (ok_1, 0)))
noncomputable def remontoirref02_Check_b1 (c : BeatCellar) : (Bool × Int) → Option ((Bool × Int) ⊕ Int)
 | (ok, i) =>
  cond (ok && (decide (i < (c.Rates.length : Int))))
  ((idx c.Rates i).bind fun e =>
  (remontoirref00_Valid e (-1000) 1000).bind fun rv_2 =>
  nxt (rv_2, wr (i + 1)))
  (ext (loopU (remontoirref02_Check_b2 c) (ok, 0)))
noncomputable def remontoirref02_Check (c : BeatCellar) : Option Int :=
  (remontoirref00_Lies c.Hours 1 12).bind fun rv =>
  (cond rv ((remontoirref00_Lies (c.Rates.length : Int) 1 5).bind fun rv_1 =>
  some rv_1) (some false)).bind fun t =>
  loopU (remontoirref02_Check_b1 c) (((t && (decide ((c.Opens.length : Int) ≤ 6))) && (decide ((c.Pairs.length : Int) ≤ 14))), 0)
theorem remontoirref02_Check_ok {w0 : World} {D0 : Stab} (hD : D0.on w0) (c : BeatCellar) {p : Option Addr} {c_1 : Nat} {p_1 : Option Addr} {c_2 : Nat} {p_2 : Option Addr} {c_3 : Nat} (hs : SRc C_Span D0 c.Rates p c_1) (hs_1 : SRc C_BeatOpen D0 c.Opens p_1 c_2) (hs_2 : SRc C_BeatPair D0 c.Pairs p_2 c_3) (out : Int) (h : remontoirref02_Check c = some out) : Calls Tryd.prog 18 [.agg #[.int .i64 c.Hours, .slice p c.Rates.length c_1, .slice p_1 c.Opens.length c_2, .slice p_2 c.Pairs.length c_3]].toArray w0 (RetP D0 w0 (.int .i64 out)) := by
 refine enter _ 133 Tryd.func18 rfl Tryd.ntmps18 rfl fun a hF => ?_
 replace hF : Frm 133 [] [(0, .agg #[.int .i64 c.Hours, .slice p c.Rates.length c_1, .slice p_1 c.Opens.length c_2, .slice p_2 c.Pairs.length c_3])] a := hF
 have hS := St.start hD
 unfold remontoirref02_Check at h
 refine seq ?_
 refine region ?_
 refine O.box (cs := [.int .i64 c.Hours, .slice p c.Rates.length c_1, .slice p_1 c.Opens.length c_2, .slice p_2 c.Pairs.length c_3]) 1 hF rfl rfl hS rfl fun b a w hF hS => ?_
 refine step hF (Y.assign hF rfl) rfl fun a hF => ?_
 refine nil (then_n ?_)
 refine seq ?_
 refine region ?_
 refine step hF (Y.fieldAddr fo_26_0 hF rfl) rfl fun a hF => ?_
 refine step hF (Y.load1L 1 sz_3 hF rfl hS rfl rfl) rfl fun a hF => ?_
 obtain ⟨rv, hx, h⟩ := bind_some h
 refine O.callP (us := [.int .i64 c.Hours, .int .i64 1, .int .i64 12]) ca_52 hF hS (remontoirref00_Lies_ok hS.stab c.Hours 1 12 rv hx) rfl rfl fun a w hF hS => ?_
 refine step hF (Y.move hF rfl) rfl fun a hF => ?_
 obtain ⟨t, ht, h⟩ := bind_some h
 refine join (N := 133) (rs := []) (w0 := w0) (D0 := D0) 5 (us := [(1, .pointer (some ⟨b, 0, none⟩)), (2, .int .i64 0), (17, .bool t)]) (ms := [(1, .cells b [.int .i64 c.Hours, .slice p c.Rates.length c_1, .slice p_1 c.Opens.length c_2, .slice p_2 c.Pairs.length c_3] 26)]) (D' := D0) ?_ ?_
 ·rcases bcases rv with hbv | hbv
  ·-- true
   replace h := cond_t ht hbv
   refine guard_on hF rfl rfl hbv ?_
   refine step hF (Y.fieldAddr fo_26_1 hF rfl) rfl fun a hF => ?_
   refine guard_on hF rfl rfl hbv ?_
   refine step hF (Y.load1L 1 sz_22 hF rfl hS rfl rfl) rfl fun a hF => ?_
   refine guard_on hF rfl rfl hbv ?_
   refine step hF (Y.lenSl u_22 hF rfl) rfl fun a hF => ?_
   refine guard_on hF rfl rfl hbv ?_
   obtain ⟨rv_1, hx_1, h⟩ := bind_some h
   refine O.callP (us := [.int .i64 (c.Rates.length : Int), .int .i64 1, .int .i64 5]) ca_52 hF hS (remontoirref00_Lies_ok hS.stab (c.Rates.length : Int) 1 5 rv_1 hx_1) rfl rfl fun a w hF hS => ?_
   refine step hF (Y.pick_t hF rfl hbv rfl) rfl fun a hF => ?_
   obtain rfl := some_inj h
   exact nil (then_n ⟨hF.weak ⟨rfl, rfl, rfl, trivial⟩, hS.weak ⟨rfl, trivial⟩⟩)
  ·-- false
   replace h := cond_f ht hbv
   refine guard_off hF rfl rfl hbv rfl fun a hF => ?_
   refine guard_off hF rfl rfl hbv rfl fun a hF => ?_
   refine guard_off hF rfl rfl hbv rfl fun a hF => ?_
   refine guard_off hF rfl rfl hbv rfl fun a hF => ?_
   refine step hF (Y.pick_f hF rfl hbv rfl) rfl fun a hF => ?_
   obtain rfl := some_inj h
   exact nil (then_n ⟨hF.weak ⟨rfl, rfl, rfl, trivial⟩, hS.weak ⟨rfl, trivial⟩⟩)
 intro a w hF hS
 refine step hF (Y.move hF rfl) rfl fun a hF => ?_
 refine join (N := 133) (rs := []) (w0 := w0) (D0 := D0) 5 (us := [(1, .pointer (some ⟨b, 0, none⟩)), (2, .int .i64 0), (23, .bool (t && (decide ((c.Opens.length : Int) ≤ 6))))]) (ms := [(1, .cells b [.int .i64 c.Hours, .slice p c.Rates.length c_1, .slice p_1 c.Opens.length c_2, .slice p_2 c.Pairs.length c_3] 26)]) (D' := D0) ?_ ?_
 ·rcases bcases t with hbv_1 | hbv_1
  ·-- true
   refine guard_on hF rfl rfl hbv_1 ?_
   refine step hF (Y.fieldAddr fo_26_2 hF rfl) rfl fun a hF => ?_
   refine guard_on hF rfl rfl hbv_1 ?_
   refine step hF (Y.load1L 1 sz_23 hF rfl hS rfl rfl) rfl fun a hF => ?_
   refine guard_on hF rfl rfl hbv_1 ?_
   refine step hF (Y.lenSl u_23 hF rfl) rfl fun a hF => ?_
   refine guard_on hF rfl rfl hbv_1 ?_
   refine step hF (Y.leq hF rfl rfl) rfl fun a hF => ?_
   refine step hF (Y.pick_t hF rfl hbv_1 rfl) rfl fun a hF => ?_
   exact nil (then_n ⟨hF.weak ⟨rfl, rfl, (by rw [hbv_1]; rfl), trivial⟩, hS.weak ⟨rfl, trivial⟩⟩)
  ·-- false
   refine guard_off hF rfl rfl hbv_1 rfl fun a hF => ?_
   refine guard_off hF rfl rfl hbv_1 rfl fun a hF => ?_
   refine guard_off hF rfl rfl hbv_1 rfl fun a hF => ?_
   refine guard_off hF rfl rfl hbv_1 rfl fun a hF => ?_
   refine step hF (Y.pick_f hF rfl hbv_1 rfl) rfl fun a hF => ?_
   exact nil (then_n ⟨hF.weak ⟨rfl, rfl, (by rw [hbv_1]; rfl), trivial⟩, hS.weak ⟨rfl, trivial⟩⟩)
 intro a w hF hS
 refine step hF (Y.move hF rfl) rfl fun a hF => ?_
 refine join (N := 133) (rs := []) (w0 := w0) (D0 := D0) 5 (us := [(1, .pointer (some ⟨b, 0, none⟩)), (2, .int .i64 0), (29, .bool ((t && (decide ((c.Opens.length : Int) ≤ 6))) && (decide ((c.Pairs.length : Int) ≤ 14))))]) (ms := [(1, .cells b [.int .i64 c.Hours, .slice p c.Rates.length c_1, .slice p_1 c.Opens.length c_2, .slice p_2 c.Pairs.length c_3] 26)]) (D' := D0) ?_ ?_
 ·rcases bcases (t && (decide ((c.Opens.length : Int) ≤ 6))) with hbv_2 | hbv_2
  ·-- true
   refine guard_on hF rfl rfl hbv_2 ?_
   refine step hF (Y.fieldAddr fo_26_3 hF rfl) rfl fun a hF => ?_
   refine guard_on hF rfl rfl hbv_2 ?_
   refine step hF (Y.load1L 1 sz_24 hF rfl hS rfl rfl) rfl fun a hF => ?_
   refine guard_on hF rfl rfl hbv_2 ?_
   refine step hF (Y.lenSl u_24 hF rfl) rfl fun a hF => ?_
   refine guard_on hF rfl rfl hbv_2 ?_
   refine step hF (Y.leq hF rfl rfl) rfl fun a hF => ?_
   refine step hF (Y.pick_t hF rfl hbv_2 rfl) rfl fun a hF => ?_
   exact nil (then_n ⟨hF.weak ⟨rfl, rfl, (by rw [hbv_2]; rfl), trivial⟩, hS.weak ⟨rfl, trivial⟩⟩)
  ·-- false
   refine guard_off hF rfl rfl hbv_2 rfl fun a hF => ?_
   refine guard_off hF rfl rfl hbv_2 rfl fun a hF => ?_
   refine guard_off hF rfl rfl hbv_2 rfl fun a hF => ?_
   refine guard_off hF rfl rfl hbv_2 rfl fun a hF => ?_
   refine step hF (Y.pick_f hF rfl hbv_2 rfl) rfl fun a hF => ?_
   exact nil (then_n ⟨hF.weak ⟨rfl, rfl, (by rw [hbv_2]; rfl), trivial⟩, hS.weak ⟨rfl, trivial⟩⟩)
 intro a w hF hS
 refine step hF (Y.assign hF rfl) rfl fun a hF => ?_
 refine nil (then_n ?_)
 refine seq ?_
 refine seq ?_
 refine region ?_
 refine step hF (Y.assign hF rfl) rfl fun a hF => ?_
 refine nil (then_n ?_)
 refine block ?_
 refine loop_cut (body := remontoirref02_Check_b1 c) (out := out) (fun s a w => ∃ (ok : Bool) (i : Int), s = (ok, i) ∧ Frm 133 [] [(1, .pointer (some ⟨b, 0, none⟩)), (2, .int .i64 0), (3, .bool ok), (4, .int .i64 i)] a ∧ St w0 D0 D0 [(1, .cells b [.int .i64 c.Hours, .slice p c.Rates.length c_1, .slice p_1 c.Opens.length c_2, .slice p_2 c.Pairs.length c_3] 26)] w) (((t && (decide ((c.Opens.length : Int) ≤ 6))) && (decide ((c.Pairs.length : Int) ≤ 14))), 0) h ⟨((t && (decide ((c.Opens.length : Int) ≤ 6))) && (decide ((c.Pairs.length : Int) ≤ 14))), 0, rfl, hF.weak ⟨rfl, rfl, rfl, rfl, trivial⟩, hS.weak ⟨rfl, trivial⟩⟩ ?_
 rintro s a w xo ⟨ok, i, rfl, hF, hS⟩ h hxo
 unfold remontoirref02_Check_b1 at h
 dsimp only at h
 refine seq ?_
 refine seq ?_
 refine region ?_
 refine step hF (Y.move hF rfl) rfl fun a hF => ?_
 refine step hF (Y.move hF rfl) rfl fun a hF => ?_
 refine join (N := 133) (rs := []) (w0 := w0) (D0 := D0) 6 (us := [(1, .pointer (some ⟨b, 0, none⟩)), (2, .int .i64 0), (3, .bool ok), (4, .int .i64 i), (37, .bool (ok && (decide (i < (c.Rates.length : Int)))))]) (ms := [(1, .cells b [.int .i64 c.Hours, .slice p c.Rates.length c_1, .slice p_1 c.Opens.length c_2, .slice p_2 c.Pairs.length c_3] 26)]) (D' := D0) ?_ ?_
 ·rcases bcases ok with hbv_3 | hbv_3
  ·-- true
   refine guard_on hF rfl rfl hbv_3 ?_
   refine step hF (Y.move hF rfl) rfl fun a hF => ?_
   refine guard_on hF rfl rfl hbv_3 ?_
   refine step hF (Y.fieldAddr fo_26_1 hF rfl) rfl fun a hF => ?_
   refine guard_on hF rfl rfl hbv_3 ?_
   refine step hF (Y.load1L 1 sz_22 hF rfl hS rfl rfl) rfl fun a hF => ?_
   refine guard_on hF rfl rfl hbv_3 ?_
   refine step hF (Y.lenSl u_22 hF rfl) rfl fun a hF => ?_
   refine guard_on hF rfl rfl hbv_3 ?_
   refine step hF (Y.lss hF rfl rfl) rfl fun a hF => ?_
   refine step hF (Y.pick_t hF rfl hbv_3 rfl) rfl fun a hF => ?_
   exact nil (then_n ⟨hF.weak ⟨rfl, rfl, rfl, rfl, (by rw [hbv_3]; rfl), trivial⟩, hS.weak ⟨rfl, trivial⟩⟩)
  ·-- false
   refine guard_off hF rfl rfl hbv_3 rfl fun a hF => ?_
   refine guard_off hF rfl rfl hbv_3 rfl fun a hF => ?_
   refine guard_off hF rfl rfl hbv_3 rfl fun a hF => ?_
   refine guard_off hF rfl rfl hbv_3 rfl fun a hF => ?_
   refine guard_off hF rfl rfl hbv_3 rfl fun a hF => ?_
   refine step hF (Y.pick_f hF rfl hbv_3 rfl) rfl fun a hF => ?_
   exact nil (then_n ⟨hF.weak ⟨rfl, rfl, rfl, rfl, (by rw [hbv_3]; rfl), trivial⟩, hS.weak ⟨rfl, trivial⟩⟩)
 intro a w hF hS
 refine nil (then_n ?_)
 refine cond_b hF rfl (fun hbv_4 => ?_) (fun hbv_4 => ?_)
 ·replace h := cond_t h hbv_4
  refine skip_ (then_n ?_)
  refine seq ?_
  refine block ?_
  refine region ?_
  refine step hF (Y.fieldAddr fo_26_1 hF rfl) rfl fun a hF => ?_
  refine step hF (Y.load1L 1 sz_22 hF rfl hS rfl rfl) rfl fun a hF => ?_
  refine step hF (Y.move hF rfl) rfl fun a hF => ?_
  obtain ⟨e, hx_2, h⟩ := bind_some h
  obtain ⟨b_1, o, hE, hY⟩ := Y.indexS (P := Tryd.prog) (C := C_Span) (xs := c.Rates) (T := 22) (x := (.tmp 41)) (y := (.tmp 42)) u_22 sz_34 hF rfl rfl (hs).1 hx_2
  obtain ⟨cc, hc, hcell⟩ := hE.open
  obtain rfl := C_Span.open hc
  refine step hF (hY) rfl fun a hF => ?_
  refine step hF (Y.loadNE (o := o) (k := 0) sz_34 hF rfl (hcell _ hS.stab) rfl rfl) rfl fun a hF => ?_
  obtain ⟨rv_2, hx_3, h⟩ := bind_some h
  refine O.callP (us := [.agg #[.int .i64 e.Low, .int .i64 e.High], .int .i64 (-1000), .int .i64 1000]) ca_55 hF hS (remontoirref00_Valid_ok hS.stab e (-1000) 1000 rv_2 hx_3) rfl rfl fun a w hF hS => ?_
  refine step hF (Y.assign hF rfl) rfl fun a hF => ?_
  refine nil (blk_n (then_n ?_))
  refine region ?_
  refine step hF (Y.move hF rfl) rfl fun a hF => ?_
  refine step hF (Y.add hF rfl rfl) rfl fun a hF => ?_
  refine step hF (Y.assign hF rfl) rfl fun a hF => ?_
  refine nil (then_n ?_)
  exact ⟨_, nxt_some h, rv_2, (wr (i + 1)), rfl, hF.weak ⟨rfl, rfl, rfl, rfl, trivial⟩, hS.weak ⟨rfl, trivial⟩⟩
 ·replace h := cond_f h hbv_4
  refine exit_ (then_x (then_x (blk_hit (then_n ?_))))
  replace h := ext_some h hxo
  refine seq ?_
  refine seq ?_
  refine region ?_
  refine step hF (Y.assign hF rfl) rfl fun a hF => ?_
  refine nil (then_n ?_)
  refine block ?_
  refine loop_cut (body := remontoirref02_Check_b2 c) (out := out) (fun s a w => ∃ (ok_1 : Bool) (i_1 : Int), s = (ok_1, i_1) ∧ Frm 133 [] [(1, .pointer (some ⟨b, 0, none⟩)), (2, .int .i64 0), (3, .bool ok_1), (5, .int .i64 i_1)] a ∧ St w0 D0 D0 [(1, .cells b [.int .i64 c.Hours, .slice p c.Rates.length c_1, .slice p_1 c.Opens.length c_2, .slice p_2 c.Pairs.length c_3] 26)] w) (ok, 0) h ⟨ok, 0, rfl, hF.weak ⟨rfl, rfl, rfl, rfl, trivial⟩, hS.weak ⟨rfl, trivial⟩⟩ ?_
  rintro s a w xo_1 ⟨ok_1, i_1, rfl, hF, hS⟩ h hxo_1
  unfold remontoirref02_Check_b2 at h
  dsimp only at h
  refine seq ?_
  refine seq ?_
  refine region ?_
  refine step hF (Y.move hF rfl) rfl fun a hF => ?_
  refine step hF (Y.move hF rfl) rfl fun a hF => ?_
  refine join (N := 133) (rs := []) (w0 := w0) (D0 := D0) 6 (us := [(1, .pointer (some ⟨b, 0, none⟩)), (2, .int .i64 0), (3, .bool ok_1), (5, .int .i64 i_1), (53, .bool (ok_1 && (decide (i_1 < (c.Opens.length : Int)))))]) (ms := [(1, .cells b [.int .i64 c.Hours, .slice p c.Rates.length c_1, .slice p_1 c.Opens.length c_2, .slice p_2 c.Pairs.length c_3] 26)]) (D' := D0) ?_ ?_
  ·rcases bcases ok_1 with hbv_5 | hbv_5
   ·-- true
    refine guard_on hF rfl rfl hbv_5 ?_
    refine step hF (Y.move hF rfl) rfl fun a hF => ?_
    refine guard_on hF rfl rfl hbv_5 ?_
    refine step hF (Y.fieldAddr fo_26_2 hF rfl) rfl fun a hF => ?_
    refine guard_on hF rfl rfl hbv_5 ?_
    refine step hF (Y.load1L 1 sz_23 hF rfl hS rfl rfl) rfl fun a hF => ?_
    refine guard_on hF rfl rfl hbv_5 ?_
    refine step hF (Y.lenSl u_23 hF rfl) rfl fun a hF => ?_
    refine guard_on hF rfl rfl hbv_5 ?_
    refine step hF (Y.lss hF rfl rfl) rfl fun a hF => ?_
    refine step hF (Y.pick_t hF rfl hbv_5 rfl) rfl fun a hF => ?_
    exact nil (then_n ⟨hF.weak ⟨rfl, rfl, rfl, rfl, (by rw [hbv_5]; rfl), trivial⟩, hS.weak ⟨rfl, trivial⟩⟩)
   ·-- false
    refine guard_off hF rfl rfl hbv_5 rfl fun a hF => ?_
    refine guard_off hF rfl rfl hbv_5 rfl fun a hF => ?_
    refine guard_off hF rfl rfl hbv_5 rfl fun a hF => ?_
    refine guard_off hF rfl rfl hbv_5 rfl fun a hF => ?_
    refine guard_off hF rfl rfl hbv_5 rfl fun a hF => ?_
    refine step hF (Y.pick_f hF rfl hbv_5 rfl) rfl fun a hF => ?_
    exact nil (then_n ⟨hF.weak ⟨rfl, rfl, rfl, rfl, (by rw [hbv_5]; rfl), trivial⟩, hS.weak ⟨rfl, trivial⟩⟩)
  intro a w hF hS
  refine nil (then_n ?_)
  refine cond_b hF rfl (fun hbv_6 => ?_) (fun hbv_6 => ?_)
  ·replace h := cond_t h hbv_6
   refine skip_ (then_n ?_)
   refine seq ?_
   refine block ?_
   refine seq ?_
   refine region ?_
   refine step hF (Y.fieldAddr fo_26_2 hF rfl) rfl fun a hF => ?_
   refine step hF (Y.load1L 1 sz_23 hF rfl hS rfl rfl) rfl fun a hF => ?_
   refine step hF (Y.move hF rfl) rfl fun a hF => ?_
   obtain ⟨e_1, hx_4, h⟩ := bind_some h
   obtain ⟨b_2, o_1, hE_1, hY_1⟩ := Y.indexS (P := Tryd.prog) (C := C_BeatOpen) (xs := c.Opens) (T := 23) (x := (.tmp 57)) (y := (.tmp 58)) u_23 sz_63 hF rfl rfl (hs_1).1 hx_4
   obtain ⟨cc_1, hc_1, hcell_1⟩ := hE_1.open
   obtain rfl := C_BeatOpen.open hc_1
   refine step hF (hY_1) rfl fun a hF => ?_
   refine step hF (Y.loadNE (o := o_1) (k := 0) sz_63 hF rfl (hcell_1 _ hS.stab) rfl rfl) rfl fun a hF => ?_
   refine O.alloc 2 zc_63 hF hS rfl fun b_3 a w hF hS => ?_
   refine O.store (us := [.int .i64 e_1.Clock, .int .i64 e_1.Hour, .int .i64 e_1.Step.Low, .int .i64 e_1.Step.High]) 2 sz_63 hF rfl rfl rfl rfl hS rfl rfl fun a w hF hS => ?_
   refine nil (then_n ?_)
   refine region ?_
   refine step hF (Y.fieldAddr fo_63_0 hF rfl) rfl fun a hF => ?_
   refine step hF (Y.load1L 2 sz_3 hF rfl hS rfl rfl) rfl fun a hF => ?_
   refine step hF (Y.fieldAddr fo_26_1 hF rfl) rfl fun a hF => ?_
   refine step hF (Y.load1L 1 sz_22 hF rfl hS rfl rfl) rfl fun a hF => ?_
   refine step hF (Y.lenSl u_22 hF rfl) rfl fun a hF => ?_
   refine step hF (Y.sub hF rfl rfl) rfl fun a hF => ?_
   obtain ⟨rv_3, hx_5, h⟩ := bind_some h
   refine O.callP (us := [.int .i64 e_1.Clock, .int .i64 0, .int .i64 (wr ((c.Rates.length : Int) - 1))]) ca_52 hF hS (remontoirref00_Lies_ok hS.stab e_1.Clock 0 (wr ((c.Rates.length : Int) - 1)) rv_3 hx_5) rfl rfl fun a w hF hS => ?_
   refine step hF (Y.move hF rfl) rfl fun a hF => ?_
   obtain ⟨t_1, ht_1, h⟩ := bind_some h
   refine join (N := 133) (rs := []) (w0 := w0) (D0 := D0) 7 (us := [(1, .pointer (some ⟨b, 0, none⟩)), (2, .int .i64 0), (3, .bool ok_1), (5, .int .i64 i_1), (6, .pointer (some ⟨b_3, 0, none⟩)), (75, .bool t_1)]) (ms := [(1, .cells b [.int .i64 c.Hours, .slice p c.Rates.length c_1, .slice p_1 c.Opens.length c_2, .slice p_2 c.Pairs.length c_3] 26), (2, .cells b_3 [.int .i64 e_1.Clock, .int .i64 e_1.Hour, .int .i64 e_1.Step.Low, .int .i64 e_1.Step.High] 63)]) (D' := D0) ?_ ?_
   ·rcases bcases rv_3 with hbv_7 | hbv_7
    ·-- true
     replace h := cond_t ht_1 hbv_7
     refine guard_on hF rfl rfl hbv_7 ?_
     refine step hF (Y.fieldAddr fo_63_1 hF rfl) rfl fun a hF => ?_
     refine guard_on hF rfl rfl hbv_7 ?_
     refine step hF (Y.load1L 2 sz_3 hF rfl hS rfl rfl) rfl fun a hF => ?_
     refine guard_on hF rfl rfl hbv_7 ?_
     refine step hF (Y.fieldAddr fo_26_0 hF rfl) rfl fun a hF => ?_
     refine guard_on hF rfl rfl hbv_7 ?_
     refine step hF (Y.load1L 1 sz_3 hF rfl hS rfl rfl) rfl fun a hF => ?_
     refine guard_on hF rfl rfl hbv_7 ?_
     refine step hF (Y.sub hF rfl rfl) rfl fun a hF => ?_
     refine guard_on hF rfl rfl hbv_7 ?_
     obtain ⟨rv_4, hx_6, h⟩ := bind_some h
     refine O.callP (us := [.int .i64 e_1.Hour, .int .i64 0, .int .i64 (wr (c.Hours - 1))]) ca_52 hF hS (remontoirref00_Lies_ok hS.stab e_1.Hour 0 (wr (c.Hours - 1)) rv_4 hx_6) rfl rfl fun a w hF hS => ?_
     refine step hF (Y.pick_t hF rfl hbv_7 rfl) rfl fun a hF => ?_
     obtain rfl := some_inj h
     exact nil (then_n ⟨hF.weak ⟨rfl, rfl, rfl, rfl, rfl, rfl, trivial⟩, hS.weak ⟨rfl, rfl, trivial⟩⟩)
    ·-- false
     replace h := cond_f ht_1 hbv_7
     refine guard_off hF rfl rfl hbv_7 rfl fun a hF => ?_
     refine guard_off hF rfl rfl hbv_7 rfl fun a hF => ?_
     refine guard_off hF rfl rfl hbv_7 rfl fun a hF => ?_
     refine guard_off hF rfl rfl hbv_7 rfl fun a hF => ?_
     refine guard_off hF rfl rfl hbv_7 rfl fun a hF => ?_
     refine guard_off hF rfl rfl hbv_7 rfl fun a hF => ?_
     refine step hF (Y.pick_f hF rfl hbv_7 rfl) rfl fun a hF => ?_
     obtain rfl := some_inj h
     exact nil (then_n ⟨hF.weak ⟨rfl, rfl, rfl, rfl, rfl, rfl, trivial⟩, hS.weak ⟨rfl, rfl, trivial⟩⟩)
   intro a w hF hS
   refine step hF (Y.move hF rfl) rfl fun a hF => ?_
   obtain ⟨t_2, ht_2, h⟩ := bind_some h
   refine join (N := 133) (rs := []) (w0 := w0) (D0 := D0) 4 (us := [(1, .pointer (some ⟨b, 0, none⟩)), (2, .int .i64 0), (3, .bool ok_1), (5, .int .i64 i_1), (80, .bool t_2)]) (ms := [(1, .cells b [.int .i64 c.Hours, .slice p c.Rates.length c_1, .slice p_1 c.Opens.length c_2, .slice p_2 c.Pairs.length c_3] 26), (2, .cells b_3 [.int .i64 e_1.Clock, .int .i64 e_1.Hour, .int .i64 e_1.Step.Low, .int .i64 e_1.Step.High] 63)]) (D' := D0) ?_ ?_
   ·rcases bcases t_1 with hbv_8 | hbv_8
    ·-- true
     replace h := cond_t ht_2 hbv_8
     refine guard_on hF rfl rfl hbv_8 ?_
     refine step hF (Y.fieldAddr fo_63_2 hF rfl) rfl fun a hF => ?_
     refine guard_on hF rfl rfl hbv_8 ?_
     refine step hF (Y.loadNL 2 sz_34 hF rfl hS rfl rfl rfl) rfl fun a hF => ?_
     refine guard_on hF rfl rfl hbv_8 ?_
     obtain ⟨rv_5, hx_7, h⟩ := bind_some h
     refine O.callP (us := [.agg #[.int .i64 e_1.Step.Low, .int .i64 e_1.Step.High], .int .i64 (-100000), .int .i64 100000]) ca_55 hF hS (remontoirref00_Valid_ok hS.stab e_1.Step (-100000) 100000 rv_5 hx_7) rfl rfl fun a w hF hS => ?_
     refine step hF (Y.pick_t hF rfl hbv_8 rfl) rfl fun a hF => ?_
     obtain rfl := some_inj h
     exact nil (then_n ⟨hF.weak ⟨rfl, rfl, rfl, rfl, rfl, trivial⟩, hS.weak ⟨rfl, rfl, trivial⟩⟩)
    ·-- false
     replace h := cond_f ht_2 hbv_8
     refine guard_off hF rfl rfl hbv_8 rfl fun a hF => ?_
     refine guard_off hF rfl rfl hbv_8 rfl fun a hF => ?_
     refine guard_off hF rfl rfl hbv_8 rfl fun a hF => ?_
     refine step hF (Y.pick_f hF rfl hbv_8 rfl) rfl fun a hF => ?_
     obtain rfl := some_inj h
     exact nil (then_n ⟨hF.weak ⟨rfl, rfl, rfl, rfl, rfl, trivial⟩, hS.weak ⟨rfl, rfl, trivial⟩⟩)
   intro a w hF hS
   refine step hF (Y.assign hF rfl) rfl fun a hF => ?_
   refine nil (blk_n (then_n ?_))
   refine region ?_
   refine step hF (Y.move hF rfl) rfl fun a hF => ?_
   refine step hF (Y.add hF rfl rfl) rfl fun a hF => ?_
   refine step hF (Y.assign hF rfl) rfl fun a hF => ?_
   refine nil (then_n ?_)
   exact ⟨_, nxt_some h, t_2, (wr (i_1 + 1)), rfl, hF.weak ⟨rfl, rfl, rfl, rfl, trivial⟩, hS.weak ⟨rfl, trivial⟩⟩
  ·replace h := cond_f h hbv_6
   refine exit_ (then_x (then_x (blk_hit (then_n ?_))))
   replace h := ext_some h hxo_1
   refine seq ?_
   refine seq ?_
   refine region ?_
   refine step hF (Y.assign hF rfl) rfl fun a hF => ?_
   refine nil (then_n ?_)
   refine block ?_
   refine loop_cut (body := remontoirref02_Check_b3 c) (out := out) (fun s a w => ∃ (ok_2 : Bool) (i_2 : Int), s = (ok_2, i_2) ∧ Frm 133 [] [(1, .pointer (some ⟨b, 0, none⟩)), (2, .int .i64 0), (3, .bool ok_2), (7, .int .i64 i_2)] a ∧ St w0 D0 D0 [(1, .cells b [.int .i64 c.Hours, .slice p c.Rates.length c_1, .slice p_1 c.Opens.length c_2, .slice p_2 c.Pairs.length c_3] 26)] w) (ok_1, 0) h ⟨ok_1, 0, rfl, hF.weak ⟨rfl, rfl, rfl, rfl, trivial⟩, hS.weak ⟨rfl, trivial⟩⟩ ?_
   rintro s a w xo_2 ⟨ok_2, i_2, rfl, hF, hS⟩ h hxo_2
   unfold remontoirref02_Check_b3 at h
   dsimp only at h
   refine seq ?_
   refine seq ?_
   refine region ?_
   refine step hF (Y.move hF rfl) rfl fun a hF => ?_
   refine step hF (Y.move hF rfl) rfl fun a hF => ?_
   refine join (N := 133) (rs := []) (w0 := w0) (D0 := D0) 6 (us := [(1, .pointer (some ⟨b, 0, none⟩)), (2, .int .i64 0), (3, .bool ok_2), (7, .int .i64 i_2), (88, .bool (ok_2 && (decide (i_2 < (c.Pairs.length : Int)))))]) (ms := [(1, .cells b [.int .i64 c.Hours, .slice p c.Rates.length c_1, .slice p_1 c.Opens.length c_2, .slice p_2 c.Pairs.length c_3] 26)]) (D' := D0) ?_ ?_
   ·rcases bcases ok_2 with hbv_9 | hbv_9
    ·-- true
     refine guard_on hF rfl rfl hbv_9 ?_
     refine step hF (Y.move hF rfl) rfl fun a hF => ?_
     refine guard_on hF rfl rfl hbv_9 ?_
     refine step hF (Y.fieldAddr fo_26_3 hF rfl) rfl fun a hF => ?_
     refine guard_on hF rfl rfl hbv_9 ?_
     refine step hF (Y.load1L 1 sz_24 hF rfl hS rfl rfl) rfl fun a hF => ?_
     refine guard_on hF rfl rfl hbv_9 ?_
     refine step hF (Y.lenSl u_24 hF rfl) rfl fun a hF => ?_
     refine guard_on hF rfl rfl hbv_9 ?_
     refine step hF (Y.lss hF rfl rfl) rfl fun a hF => ?_
     refine step hF (Y.pick_t hF rfl hbv_9 rfl) rfl fun a hF => ?_
     exact nil (then_n ⟨hF.weak ⟨rfl, rfl, rfl, rfl, (by rw [hbv_9]; rfl), trivial⟩, hS.weak ⟨rfl, trivial⟩⟩)
    ·-- false
     refine guard_off hF rfl rfl hbv_9 rfl fun a hF => ?_
     refine guard_off hF rfl rfl hbv_9 rfl fun a hF => ?_
     refine guard_off hF rfl rfl hbv_9 rfl fun a hF => ?_
     refine guard_off hF rfl rfl hbv_9 rfl fun a hF => ?_
     refine guard_off hF rfl rfl hbv_9 rfl fun a hF => ?_
     refine step hF (Y.pick_f hF rfl hbv_9 rfl) rfl fun a hF => ?_
     exact nil (then_n ⟨hF.weak ⟨rfl, rfl, rfl, rfl, (by rw [hbv_9]; rfl), trivial⟩, hS.weak ⟨rfl, trivial⟩⟩)
   intro a w hF hS
   refine nil (then_n ?_)
   refine cond_b hF rfl (fun hbv_10 => ?_) (fun hbv_10 => ?_)
   ·replace h := cond_t h hbv_10
    refine skip_ (then_n ?_)
    refine seq ?_
    refine block ?_
    refine seq ?_
    refine region ?_
    refine step hF (Y.fieldAddr fo_26_3 hF rfl) rfl fun a hF => ?_
    refine step hF (Y.load1L 1 sz_24 hF rfl hS rfl rfl) rfl fun a hF => ?_
    refine step hF (Y.move hF rfl) rfl fun a hF => ?_
    obtain ⟨e_2, hx_8, h⟩ := bind_some h
    obtain ⟨b_4, o_2, hE_2, hY_2⟩ := Y.indexS (P := Tryd.prog) (C := C_BeatPair) (xs := c.Pairs) (T := 24) (x := (.tmp 92)) (y := (.tmp 93)) u_24 sz_61 hF rfl rfl (hs_2).1 hx_8
    obtain ⟨cc_2, hc_2, hcell_2⟩ := hE_2.open
    obtain rfl := C_BeatPair.open hc_2
    refine step hF (hY_2) rfl fun a hF => ?_
    refine step hF (Y.loadNE (o := o_2) (k := 0) sz_61 hF rfl (hcell_2 _ hS.stab) rfl rfl) rfl fun a hF => ?_
    refine O.alloc 3 zc_61 hF hS rfl fun b_5 a w hF hS => ?_
    refine O.store (us := [.int .i64 e_2.Hour, .int .i64 e_2.One, .int .i64 e_2.Other, .int .i64 e_2.Read.Low, .int .i64 e_2.Read.High]) 3 sz_61 hF rfl rfl rfl rfl hS rfl rfl fun a w hF hS => ?_
    refine nil (then_n ?_)
    refine region ?_
    refine step hF (Y.fieldAddr fo_61_0 hF rfl) rfl fun a hF => ?_
    refine step hF (Y.load1L 3 sz_3 hF rfl hS rfl rfl) rfl fun a hF => ?_
    refine step hF (Y.fieldAddr fo_26_0 hF rfl) rfl fun a hF => ?_
    refine step hF (Y.load1L 1 sz_3 hF rfl hS rfl rfl) rfl fun a hF => ?_
    obtain ⟨rv_6, hx_9, h⟩ := bind_some h
    refine O.callP (us := [.int .i64 e_2.Hour, .int .i64 0, .int .i64 c.Hours]) ca_52 hF hS (remontoirref00_Lies_ok hS.stab e_2.Hour 0 c.Hours rv_6 hx_9) rfl rfl fun a w hF hS => ?_
    refine step hF (Y.move hF rfl) rfl fun a hF => ?_
    obtain ⟨t_3, ht_3, h⟩ := bind_some h
    refine join (N := 133) (rs := []) (w0 := w0) (D0 := D0) 8 (us := [(1, .pointer (some ⟨b, 0, none⟩)), (2, .int .i64 0), (3, .bool ok_2), (7, .int .i64 i_2), (8, .pointer (some ⟨b_5, 0, none⟩)), (109, .bool t_3)]) (ms := [(1, .cells b [.int .i64 c.Hours, .slice p c.Rates.length c_1, .slice p_1 c.Opens.length c_2, .slice p_2 c.Pairs.length c_3] 26), (3, .cells b_5 [.int .i64 e_2.Hour, .int .i64 e_2.One, .int .i64 e_2.Other, .int .i64 e_2.Read.Low, .int .i64 e_2.Read.High] 61)]) (D' := D0) ?_ ?_
    ·rcases bcases rv_6 with hbv_11 | hbv_11
     ·-- true
      replace h := cond_t ht_3 hbv_11
      refine guard_on hF rfl rfl hbv_11 ?_
      refine step hF (Y.fieldAddr fo_61_1 hF rfl) rfl fun a hF => ?_
      refine guard_on hF rfl rfl hbv_11 ?_
      refine step hF (Y.load1L 3 sz_3 hF rfl hS rfl rfl) rfl fun a hF => ?_
      refine guard_on hF rfl rfl hbv_11 ?_
      refine step hF (Y.fieldAddr fo_26_1 hF rfl) rfl fun a hF => ?_
      refine guard_on hF rfl rfl hbv_11 ?_
      refine step hF (Y.load1L 1 sz_22 hF rfl hS rfl rfl) rfl fun a hF => ?_
      refine guard_on hF rfl rfl hbv_11 ?_
      refine step hF (Y.lenSl u_22 hF rfl) rfl fun a hF => ?_
      refine guard_on hF rfl rfl hbv_11 ?_
      refine step hF (Y.sub hF rfl rfl) rfl fun a hF => ?_
      refine guard_on hF rfl rfl hbv_11 ?_
      obtain ⟨rv_7, hx_10, h⟩ := bind_some h
      refine O.callP (us := [.int .i64 e_2.One, .int .i64 0, .int .i64 (wr ((c.Rates.length : Int) - 1))]) ca_52 hF hS (remontoirref00_Lies_ok hS.stab e_2.One 0 (wr ((c.Rates.length : Int) - 1)) rv_7 hx_10) rfl rfl fun a w hF hS => ?_
      refine step hF (Y.pick_t hF rfl hbv_11 rfl) rfl fun a hF => ?_
      obtain rfl := some_inj h
      exact nil (then_n ⟨hF.weak ⟨rfl, rfl, rfl, rfl, rfl, rfl, trivial⟩, hS.weak ⟨rfl, rfl, trivial⟩⟩)
     ·-- false
      replace h := cond_f ht_3 hbv_11
      refine guard_off hF rfl rfl hbv_11 rfl fun a hF => ?_
      refine guard_off hF rfl rfl hbv_11 rfl fun a hF => ?_
      refine guard_off hF rfl rfl hbv_11 rfl fun a hF => ?_
      refine guard_off hF rfl rfl hbv_11 rfl fun a hF => ?_
      refine guard_off hF rfl rfl hbv_11 rfl fun a hF => ?_
      refine guard_off hF rfl rfl hbv_11 rfl fun a hF => ?_
      refine guard_off hF rfl rfl hbv_11 rfl fun a hF => ?_
      refine step hF (Y.pick_f hF rfl hbv_11 rfl) rfl fun a hF => ?_
      obtain rfl := some_inj h
      exact nil (then_n ⟨hF.weak ⟨rfl, rfl, rfl, rfl, rfl, rfl, trivial⟩, hS.weak ⟨rfl, rfl, trivial⟩⟩)
    intro a w hF hS
    refine step hF (Y.move hF rfl) rfl fun a hF => ?_
    obtain ⟨t_4, ht_4, h⟩ := bind_some h
    refine join (N := 133) (rs := []) (w0 := w0) (D0 := D0) 8 (us := [(1, .pointer (some ⟨b, 0, none⟩)), (2, .int .i64 0), (3, .bool ok_2), (7, .int .i64 i_2), (8, .pointer (some ⟨b_5, 0, none⟩)), (118, .bool t_4)]) (ms := [(1, .cells b [.int .i64 c.Hours, .slice p c.Rates.length c_1, .slice p_1 c.Opens.length c_2, .slice p_2 c.Pairs.length c_3] 26), (3, .cells b_5 [.int .i64 e_2.Hour, .int .i64 e_2.One, .int .i64 e_2.Other, .int .i64 e_2.Read.Low, .int .i64 e_2.Read.High] 61)]) (D' := D0) ?_ ?_
    ·rcases bcases t_3 with hbv_12 | hbv_12
     ·-- true
      replace h := cond_t ht_4 hbv_12
      refine guard_on hF rfl rfl hbv_12 ?_
      refine step hF (Y.fieldAddr fo_61_2 hF rfl) rfl fun a hF => ?_
      refine guard_on hF rfl rfl hbv_12 ?_
      refine step hF (Y.load1L 3 sz_3 hF rfl hS rfl rfl) rfl fun a hF => ?_
      refine guard_on hF rfl rfl hbv_12 ?_
      refine step hF (Y.fieldAddr fo_26_1 hF rfl) rfl fun a hF => ?_
      refine guard_on hF rfl rfl hbv_12 ?_
      refine step hF (Y.load1L 1 sz_22 hF rfl hS rfl rfl) rfl fun a hF => ?_
      refine guard_on hF rfl rfl hbv_12 ?_
      refine step hF (Y.lenSl u_22 hF rfl) rfl fun a hF => ?_
      refine guard_on hF rfl rfl hbv_12 ?_
      refine step hF (Y.sub hF rfl rfl) rfl fun a hF => ?_
      refine guard_on hF rfl rfl hbv_12 ?_
      obtain ⟨rv_8, hx_11, h⟩ := bind_some h
      refine O.callP (us := [.int .i64 e_2.Other, .int .i64 (-1), .int .i64 (wr ((c.Rates.length : Int) - 1))]) ca_52 hF hS (remontoirref00_Lies_ok hS.stab e_2.Other (-1) (wr ((c.Rates.length : Int) - 1)) rv_8 hx_11) rfl rfl fun a w hF hS => ?_
      refine step hF (Y.pick_t hF rfl hbv_12 rfl) rfl fun a hF => ?_
      obtain rfl := some_inj h
      exact nil (then_n ⟨hF.weak ⟨rfl, rfl, rfl, rfl, rfl, rfl, trivial⟩, hS.weak ⟨rfl, rfl, trivial⟩⟩)
     ·-- false
      replace h := cond_f ht_4 hbv_12
      refine guard_off hF rfl rfl hbv_12 rfl fun a hF => ?_
      refine guard_off hF rfl rfl hbv_12 rfl fun a hF => ?_
      refine guard_off hF rfl rfl hbv_12 rfl fun a hF => ?_
      refine guard_off hF rfl rfl hbv_12 rfl fun a hF => ?_
      refine guard_off hF rfl rfl hbv_12 rfl fun a hF => ?_
      refine guard_off hF rfl rfl hbv_12 rfl fun a hF => ?_
      refine guard_off hF rfl rfl hbv_12 rfl fun a hF => ?_
      refine step hF (Y.pick_f hF rfl hbv_12 rfl) rfl fun a hF => ?_
      obtain rfl := some_inj h
      exact nil (then_n ⟨hF.weak ⟨rfl, rfl, rfl, rfl, rfl, rfl, trivial⟩, hS.weak ⟨rfl, rfl, trivial⟩⟩)
    intro a w hF hS
    refine step hF (Y.move hF rfl) rfl fun a hF => ?_
    refine join (N := 133) (rs := []) (w0 := w0) (D0 := D0) 6 (us := [(1, .pointer (some ⟨b, 0, none⟩)), (2, .int .i64 0), (3, .bool ok_2), (7, .int .i64 i_2), (8, .pointer (some ⟨b_5, 0, none⟩)), (125, .bool (t_4 && (e_2.One != e_2.Other)))]) (ms := [(1, .cells b [.int .i64 c.Hours, .slice p c.Rates.length c_1, .slice p_1 c.Opens.length c_2, .slice p_2 c.Pairs.length c_3] 26), (3, .cells b_5 [.int .i64 e_2.Hour, .int .i64 e_2.One, .int .i64 e_2.Other, .int .i64 e_2.Read.Low, .int .i64 e_2.Read.High] 61)]) (D' := D0) ?_ ?_
    ·rcases bcases t_4 with hbv_13 | hbv_13
     ·-- true
      refine guard_on hF rfl rfl hbv_13 ?_
      refine step hF (Y.fieldAddr fo_61_1 hF rfl) rfl fun a hF => ?_
      refine guard_on hF rfl rfl hbv_13 ?_
      refine step hF (Y.load1L 3 sz_3 hF rfl hS rfl rfl) rfl fun a hF => ?_
      refine guard_on hF rfl rfl hbv_13 ?_
      refine step hF (Y.fieldAddr fo_61_2 hF rfl) rfl fun a hF => ?_
      refine guard_on hF rfl rfl hbv_13 ?_
      refine step hF (Y.load1L 3 sz_3 hF rfl hS rfl rfl) rfl fun a hF => ?_
      refine guard_on hF rfl rfl hbv_13 ?_
      refine step hF (Y.neq hF rfl rfl) rfl fun a hF => ?_
      refine step hF (Y.pick_t hF rfl hbv_13 rfl) rfl fun a hF => ?_
      exact nil (then_n ⟨hF.weak ⟨rfl, rfl, rfl, rfl, rfl, (by rw [hbv_13]; rfl), trivial⟩, hS.weak ⟨rfl, rfl, trivial⟩⟩)
     ·-- false
      refine guard_off hF rfl rfl hbv_13 rfl fun a hF => ?_
      refine guard_off hF rfl rfl hbv_13 rfl fun a hF => ?_
      refine guard_off hF rfl rfl hbv_13 rfl fun a hF => ?_
      refine guard_off hF rfl rfl hbv_13 rfl fun a hF => ?_
      refine guard_off hF rfl rfl hbv_13 rfl fun a hF => ?_
      refine step hF (Y.pick_f hF rfl hbv_13 rfl) rfl fun a hF => ?_
      exact nil (then_n ⟨hF.weak ⟨rfl, rfl, rfl, rfl, rfl, (by rw [hbv_13]; rfl), trivial⟩, hS.weak ⟨rfl, rfl, trivial⟩⟩)
    intro a w hF hS
    refine step hF (Y.move hF rfl) rfl fun a hF => ?_
    obtain ⟨t_5, ht_5, h⟩ := bind_some h
    refine join (N := 133) (rs := []) (w0 := w0) (D0 := D0) 4 (us := [(1, .pointer (some ⟨b, 0, none⟩)), (2, .int .i64 0), (3, .bool ok_2), (7, .int .i64 i_2), (130, .bool t_5)]) (ms := [(1, .cells b [.int .i64 c.Hours, .slice p c.Rates.length c_1, .slice p_1 c.Opens.length c_2, .slice p_2 c.Pairs.length c_3] 26), (3, .cells b_5 [.int .i64 e_2.Hour, .int .i64 e_2.One, .int .i64 e_2.Other, .int .i64 e_2.Read.Low, .int .i64 e_2.Read.High] 61)]) (D' := D0) ?_ ?_
    ·rcases bcases (t_4 && (e_2.One != e_2.Other)) with hbv_14 | hbv_14
     ·-- true
      replace h := cond_t ht_5 hbv_14
      refine guard_on hF rfl rfl hbv_14 ?_
      refine step hF (Y.fieldAddr fo_61_3 hF rfl) rfl fun a hF => ?_
      refine guard_on hF rfl rfl hbv_14 ?_
      refine step hF (Y.loadNL 3 sz_34 hF rfl hS rfl rfl rfl) rfl fun a hF => ?_
      refine guard_on hF rfl rfl hbv_14 ?_
      obtain ⟨rv_9, hx_12, h⟩ := bind_some h
      refine O.callP (us := [.agg #[.int .i64 e_2.Read.Low, .int .i64 e_2.Read.High], .int .i64 (-200000), .int .i64 200000]) ca_55 hF hS (remontoirref00_Valid_ok hS.stab e_2.Read (-200000) 200000 rv_9 hx_12) rfl rfl fun a w hF hS => ?_
      refine step hF (Y.pick_t hF rfl hbv_14 rfl) rfl fun a hF => ?_
      obtain rfl := some_inj h
      exact nil (then_n ⟨hF.weak ⟨rfl, rfl, rfl, rfl, rfl, trivial⟩, hS.weak ⟨rfl, rfl, trivial⟩⟩)
     ·-- false
      replace h := cond_f ht_5 hbv_14
      refine guard_off hF rfl rfl hbv_14 rfl fun a hF => ?_
      refine guard_off hF rfl rfl hbv_14 rfl fun a hF => ?_
      refine guard_off hF rfl rfl hbv_14 rfl fun a hF => ?_
      refine step hF (Y.pick_f hF rfl hbv_14 rfl) rfl fun a hF => ?_
      obtain rfl := some_inj h
      exact nil (then_n ⟨hF.weak ⟨rfl, rfl, rfl, rfl, rfl, trivial⟩, hS.weak ⟨rfl, rfl, trivial⟩⟩)
    intro a w hF hS
    refine step hF (Y.assign hF rfl) rfl fun a hF => ?_
    refine nil (blk_n (then_n ?_))
    refine region ?_
    refine step hF (Y.move hF rfl) rfl fun a hF => ?_
    refine step hF (Y.add hF rfl rfl) rfl fun a hF => ?_
    refine step hF (Y.assign hF rfl) rfl fun a hF => ?_
    refine nil (then_n ?_)
    exact ⟨_, nxt_some h, t_5, (wr (i_2 + 1)), rfl, hF.weak ⟨rfl, rfl, rfl, rfl, trivial⟩, hS.weak ⟨rfl, trivial⟩⟩
   ·replace h := cond_f h hbv_10
    refine exit_ (then_x (then_x (blk_hit (then_n ?_))))
    replace h := ext_some h hxo_2
    refine seq ?_
    refine seq ?_
    refine region ?_
    refine step hF (Y.move hF rfl) rfl fun a hF => ?_
    refine step hF (Y.not hF rfl) rfl fun a hF => ?_
    refine nil (then_n ?_)
    refine cond_b hF rfl (fun hbv_15 => ?_) (fun hbv_15 => ?_)
    ·replace h := cond_t h hbv_15
     refine seq ?_
     refine region ?_
     refine step hF (Y.assign hF rfl) rfl fun a hF => ?_
     refine nil (then_n ?_)
     refine ret_ (then_r ?_)
     obtain rfl := some_inj h
     exact leaveP Tryd.results18 hF hS (.cons (.tmp rfl) .nil) .nil rfl
    ·replace h := cond_f h hbv_15
     refine skip_ (then_n ?_)
     refine seq ?_
     refine region ?_
     refine step hF (Y.assign hF rfl) rfl fun a hF => ?_
     refine nil (then_n ?_)
     refine ret_ ?_
     obtain rfl := some_inj h
     exact leaveP Tryd.results18 hF hS (.cons (.tmp rfl) .nil) .nil rfl

noncomputable def remontoirref02_grows_b1 (c : BeatCellar) (clock : Int) (hour : Int) : (Int × Int × Int) → Option ((Int × Int × Int) ⊕ Span)
 | (i, z, z_1) =>
  cond (decide (i < (c.Opens.length : Int)))
  ((idx c.Opens i).bind fun e_1 =>
  cond ((e_1.Clock == clock) && (e_1.Hour == hour))
  ((remontoirref00_To (wr (z + e_1.Step.Low)) (wr (z_1 + e_1.Step.High))).bind fun rv =>
  nxt (wr (i + 1), rv.Low, rv.High))
  (nxt (wr (i + 1), z, z_1)))
  (ext (some (Span.mk z z_1)))
noncomputable def remontoirref02_grows (c : BeatCellar) (clock : Int) (hour : Int) : Option Span :=
  (idx c.Rates clock).bind fun e =>
  loopU (remontoirref02_grows_b1 c clock hour) (0, e.Low, e.High)
theorem remontoirref02_grows_ok {w0 : World} {D0 : Stab} (hD : D0.on w0) (c : BeatCellar) (clock : Int) (hour : Int) {p : Option Addr} {c_1 : Nat} {p_1 : Option Addr} {c_2 : Nat} {p_2 : Option Addr} {c_3 : Nat} (hs : SRc C_Span D0 c.Rates p c_1) (hs_1 : SRc C_BeatOpen D0 c.Opens p_1 c_2) (hs_2 : SRc C_BeatPair D0 c.Pairs p_2 c_3) (out : Span) (h : remontoirref02_grows c clock hour = some out) : Calls Tryd.prog 53 [.agg #[.int .i64 c.Hours, .slice p c.Rates.length c_1, .slice p_1 c.Opens.length c_2, .slice p_2 c.Pairs.length c_3], .int .i64 clock, .int .i64 hour].toArray w0 (RetP D0 w0 (.agg #[.int .i64 out.Low, .int .i64 out.High])) := by
 refine enter _ 51 Tryd.func53 rfl Tryd.ntmps53 rfl fun a hF => ?_
 replace hF : Frm 51 [] [(0, .agg #[.int .i64 c.Hours, .slice p c.Rates.length c_1, .slice p_1 c.Opens.length c_2, .slice p_2 c.Pairs.length c_3]), (1, .int .i64 clock), (2, .int .i64 hour)] a := hF
 have hS := St.start hD
 unfold remontoirref02_grows at h
 refine seq ?_
 refine region ?_
 refine O.box (cs := [.int .i64 c.Hours, .slice p c.Rates.length c_1, .slice p_1 c.Opens.length c_2, .slice p_2 c.Pairs.length c_3]) 1 hF rfl rfl hS rfl fun b a w hF hS => ?_
 refine O.alloc 2 zc_34 hF hS rfl fun b_1 a w hF hS => ?_
 refine nil (then_n ?_)
 refine seq ?_
 refine region ?_
 refine step hF (Y.fieldAddr fo_26_1 hF rfl) rfl fun a hF => ?_
 refine step hF (Y.load1L 1 sz_22 hF rfl hS rfl rfl) rfl fun a hF => ?_
 refine step hF (Y.move hF rfl) rfl fun a hF => ?_
 obtain ⟨e, hx, h⟩ := bind_some h
 obtain ⟨b_2, o, hE, hY⟩ := Y.indexS (P := Tryd.prog) (C := C_Span) (xs := c.Rates) (T := 22) (x := (.tmp 11)) (y := (.tmp 12)) u_22 sz_34 hF rfl rfl (hs).1 hx
 obtain ⟨cc, hc, hcell⟩ := hE.open
 obtain rfl := C_Span.open hc
 refine step hF (hY) rfl fun a hF => ?_
 refine step hF (Y.loadNE (o := o) (k := 0) sz_34 hF rfl (hcell _ hS.stab) rfl rfl) rfl fun a hF => ?_
 refine O.alloc 3 zc_34 hF hS rfl fun b_3 a w hF hS => ?_
 refine O.store (us := [.int .i64 e.Low, .int .i64 e.High]) 3 sz_34 hF rfl rfl rfl rfl hS rfl rfl fun a w hF hS => ?_
 refine nil (then_n ?_)
 refine seq ?_
 refine seq ?_
 refine region ?_
 refine step hF (Y.assign hF rfl) rfl fun a hF => ?_
 refine nil (then_n ?_)
 refine block ?_
 refine loop_cut (body := remontoirref02_grows_b1 c clock hour) (out := out) (fun s a w => ∃ (i : Int) (z : Int) (z_1 : Int), s = (i, z, z_1) ∧ Frm 51 [] [(1, .int .i64 clock), (2, .int .i64 hour), (3, .pointer (some ⟨b, 0, none⟩)), (6, .pointer (some ⟨b_1, 0, none⟩)), (7, .pointer (some ⟨b_3, 0, none⟩)), (8, .int .i64 i)] a ∧ St w0 D0 D0 [(1, .cells b [.int .i64 c.Hours, .slice p c.Rates.length c_1, .slice p_1 c.Opens.length c_2, .slice p_2 c.Pairs.length c_3] 26), (2, .cells b_1 [.int .i64 0, .int .i64 0] 34), (3, .cells b_3 [.int .i64 z, .int .i64 z_1] 34)] w) (0, e.Low, e.High) h ⟨0, e.Low, e.High, rfl, hF.weak ⟨rfl, rfl, rfl, rfl, rfl, rfl, trivial⟩, hS.weak ⟨rfl, rfl, rfl, trivial⟩⟩ ?_
 rintro s a w xo ⟨i, z, z_1, rfl, hF, hS⟩ h hxo
 unfold remontoirref02_grows_b1 at h
 dsimp only at h
 refine seq ?_
 refine seq ?_
 refine region ?_
 refine step hF (Y.move hF rfl) rfl fun a hF => ?_
 refine step hF (Y.fieldAddr fo_26_2 hF rfl) rfl fun a hF => ?_
 refine step hF (Y.load1L 1 sz_23 hF rfl hS rfl rfl) rfl fun a hF => ?_
 refine step hF (Y.lenSl u_23 hF rfl) rfl fun a hF => ?_
 refine step hF (Y.lss hF rfl rfl) rfl fun a hF => ?_
 refine nil (then_n ?_)
 refine cond_b hF rfl (fun hbv => ?_) (fun hbv => ?_)
 ·replace h := cond_t h hbv
  refine skip_ (then_n ?_)
  refine seq ?_
  refine block ?_
  refine seq ?_
  refine region ?_
  refine step hF (Y.fieldAddr fo_26_2 hF rfl) rfl fun a hF => ?_
  refine step hF (Y.load1L 1 sz_23 hF rfl hS rfl rfl) rfl fun a hF => ?_
  refine step hF (Y.move hF rfl) rfl fun a hF => ?_
  obtain ⟨e_1, hx_1, h⟩ := bind_some h
  obtain ⟨b_4, o_1, hE_1, hY_1⟩ := Y.indexS (P := Tryd.prog) (C := C_BeatOpen) (xs := c.Opens) (T := 23) (x := (.tmp 23)) (y := (.tmp 24)) u_23 sz_63 hF rfl rfl (hs_1).1 hx_1
  obtain ⟨cc_1, hc_1, hcell_1⟩ := hE_1.open
  obtain rfl := C_BeatOpen.open hc_1
  refine step hF (hY_1) rfl fun a hF => ?_
  refine step hF (Y.loadNE (o := o_1) (k := 0) sz_63 hF rfl (hcell_1 _ hS.stab) rfl rfl) rfl fun a hF => ?_
  refine O.alloc 4 zc_63 hF hS rfl fun b_5 a w hF hS => ?_
  refine O.store (us := [.int .i64 e_1.Clock, .int .i64 e_1.Hour, .int .i64 e_1.Step.Low, .int .i64 e_1.Step.High]) 4 sz_63 hF rfl rfl rfl rfl hS rfl rfl fun a w hF hS => ?_
  refine nil (then_n ?_)
  refine seq ?_
  refine region ?_
  refine step hF (Y.fieldAddr fo_63_0 hF rfl) rfl fun a hF => ?_
  refine step hF (Y.load1L 4 sz_3 hF rfl hS rfl rfl) rfl fun a hF => ?_
  refine step hF (Y.move hF rfl) rfl fun a hF => ?_
  refine step hF (Y.eql hF rfl rfl) rfl fun a hF => ?_
  refine step hF (Y.move hF rfl) rfl fun a hF => ?_
  refine join (N := 51) (rs := []) (w0 := w0) (D0 := D0) 5 (us := [(1, .int .i64 clock), (2, .int .i64 hour), (3, .pointer (some ⟨b, 0, none⟩)), (6, .pointer (some ⟨b_1, 0, none⟩)), (7, .pointer (some ⟨b_3, 0, none⟩)), (8, .int .i64 i), (9, .pointer (some ⟨b_5, 0, none⟩)), (36, .bool ((e_1.Clock == clock) && (e_1.Hour == hour)))]) (ms := [(1, .cells b [.int .i64 c.Hours, .slice p c.Rates.length c_1, .slice p_1 c.Opens.length c_2, .slice p_2 c.Pairs.length c_3] 26), (2, .cells b_1 [.int .i64 0, .int .i64 0] 34), (3, .cells b_3 [.int .i64 z, .int .i64 z_1] 34), (4, .cells b_5 [.int .i64 e_1.Clock, .int .i64 e_1.Hour, .int .i64 e_1.Step.Low, .int .i64 e_1.Step.High] 63)]) (D' := D0) ?_ ?_
  ·rcases bcases (e_1.Clock == clock) with hbv_1 | hbv_1
   ·-- true
    refine guard_on hF rfl rfl hbv_1 ?_
    refine step hF (Y.fieldAddr fo_63_1 hF rfl) rfl fun a hF => ?_
    refine guard_on hF rfl rfl hbv_1 ?_
    refine step hF (Y.load1L 4 sz_3 hF rfl hS rfl rfl) rfl fun a hF => ?_
    refine guard_on hF rfl rfl hbv_1 ?_
    refine step hF (Y.move hF rfl) rfl fun a hF => ?_
    refine guard_on hF rfl rfl hbv_1 ?_
    refine step hF (Y.eql hF rfl rfl) rfl fun a hF => ?_
    refine step hF (Y.pick_t hF rfl hbv_1 rfl) rfl fun a hF => ?_
    exact nil (then_n ⟨hF.weak ⟨rfl, rfl, rfl, rfl, rfl, rfl, rfl, (by rw [hbv_1]; rfl), trivial⟩, hS.weak ⟨rfl, rfl, rfl, rfl, trivial⟩⟩)
   ·-- false
    refine guard_off hF rfl rfl hbv_1 rfl fun a hF => ?_
    refine guard_off hF rfl rfl hbv_1 rfl fun a hF => ?_
    refine guard_off hF rfl rfl hbv_1 rfl fun a hF => ?_
    refine guard_off hF rfl rfl hbv_1 rfl fun a hF => ?_
    refine step hF (Y.pick_f hF rfl hbv_1 rfl) rfl fun a hF => ?_
    exact nil (then_n ⟨hF.weak ⟨rfl, rfl, rfl, rfl, rfl, rfl, rfl, (by rw [hbv_1]; rfl), trivial⟩, hS.weak ⟨rfl, rfl, rfl, rfl, trivial⟩⟩)
  intro a w hF hS
  refine nil (then_n ?_)
  refine cond_b hF rfl (fun hbv_2 => ?_) (fun hbv_2 => ?_)
  ·replace h := cond_t h hbv_2
   refine region ?_
   refine step hF (Y.fieldAddr fo_34_0 hF rfl) rfl fun a hF => ?_
   refine step hF (Y.load1L 3 sz_3 hF rfl hS rfl rfl) rfl fun a hF => ?_
   refine step hF (Y.fieldAddr fo_63_2 hF rfl) rfl fun a hF => ?_
   refine step hF (Y.fieldAddr fo_34_0 hF rfl) rfl fun a hF => ?_
   refine step hF (Y.load1L 4 sz_3 hF rfl hS rfl rfl) rfl fun a hF => ?_
   refine step hF (Y.add hF rfl rfl) rfl fun a hF => ?_
   refine step hF (Y.fieldAddr fo_34_1 hF rfl) rfl fun a hF => ?_
   refine step hF (Y.load1L 3 sz_3 hF rfl hS rfl rfl) rfl fun a hF => ?_
   refine step hF (Y.fieldAddr fo_63_2 hF rfl) rfl fun a hF => ?_
   refine step hF (Y.fieldAddr fo_34_1 hF rfl) rfl fun a hF => ?_
   refine step hF (Y.load1L 4 sz_3 hF rfl hS rfl rfl) rfl fun a hF => ?_
   refine step hF (Y.add hF rfl rfl) rfl fun a hF => ?_
   obtain ⟨rv, hx_2, h⟩ := bind_some h
   refine O.callP (us := [.int .i64 (wr (z + e_1.Step.Low)), .int .i64 (wr (z_1 + e_1.Step.High))]) ca_37 hF hS (remontoirref00_To_ok hS.stab (wr (z + e_1.Step.Low)) (wr (z_1 + e_1.Step.High)) rv hx_2) rfl rfl fun a w hF hS => ?_
   refine O.store (us := [.int .i64 rv.Low, .int .i64 rv.High]) 3 sz_34 hF rfl rfl rfl rfl hS rfl rfl fun a w hF hS => ?_
   refine nil (blk_n (then_n ?_))
   refine region ?_
   refine step hF (Y.move hF rfl) rfl fun a hF => ?_
   refine step hF (Y.add hF rfl rfl) rfl fun a hF => ?_
   refine step hF (Y.assign hF rfl) rfl fun a hF => ?_
   refine nil (then_n ?_)
   exact ⟨_, nxt_some h, (wr (i + 1)), rv.Low, rv.High, rfl, hF.weak ⟨rfl, rfl, rfl, rfl, rfl, rfl, trivial⟩, hS.weak ⟨rfl, rfl, rfl, trivial⟩⟩
  ·replace h := cond_f h hbv_2
   refine skip_ (blk_n (then_n ?_))
   refine region ?_
   refine step hF (Y.move hF rfl) rfl fun a hF => ?_
   refine step hF (Y.add hF rfl rfl) rfl fun a hF => ?_
   refine step hF (Y.assign hF rfl) rfl fun a hF => ?_
   refine nil (then_n ?_)
   exact ⟨_, nxt_some h, (wr (i + 1)), z, z_1, rfl, hF.weak ⟨rfl, rfl, rfl, rfl, rfl, rfl, trivial⟩, hS.weak ⟨rfl, rfl, rfl, trivial⟩⟩
 ·replace h := cond_f h hbv
  refine exit_ (then_x (then_x (blk_hit (then_n ?_))))
  replace h := ext_some h hxo
  refine seq ?_
  refine region ?_
  refine step hF (Y.loadNL 3 sz_34 hF rfl hS rfl rfl rfl) rfl fun a hF => ?_
  refine O.store (us := [.int .i64 z, .int .i64 z_1]) 2 sz_34 hF rfl rfl rfl rfl hS rfl rfl fun a w hF hS => ?_
  refine nil (then_n ?_)
  refine ret_ ?_
  obtain rfl := some_inj h
  exact leaveP Tryd.results53 hF hS (.cons (.cellN 2 sz_34 rfl rfl rfl) .nil) .nil rfl

noncomputable def remontoirref02_place (c : BeatCellar) (clock : Int) (hour : Int) : Option Int :=
  cond (decide (clock < 0))
  (some 0)
  (some (wr ((wr (1 + (wr (clock * (wr (c.Hours + 1)))))) + hour)))
theorem remontoirref02_place_ok {w0 : World} {D0 : Stab} (hD : D0.on w0) (c : BeatCellar) (clock : Int) (hour : Int) {p : Option Addr} {c_1 : Nat} {p_1 : Option Addr} {c_2 : Nat} {p_2 : Option Addr} {c_3 : Nat} (hs : SRc C_Span D0 c.Rates p c_1) (hs_1 : SRc C_BeatOpen D0 c.Opens p_1 c_2) (hs_2 : SRc C_BeatPair D0 c.Pairs p_2 c_3) (out : Int) (h : remontoirref02_place c clock hour = some out) : Calls Tryd.prog 73 [.agg #[.int .i64 c.Hours, .slice p c.Rates.length c_1, .slice p_1 c.Opens.length c_2, .slice p_2 c.Pairs.length c_3], .int .i64 clock, .int .i64 hour].toArray w0 (RetP D0 w0 (.int .i64 out)) := by
 refine enter _ 17 Tryd.func73 rfl Tryd.ntmps73 rfl fun a hF => ?_
 replace hF : Frm 17 [] [(0, .agg #[.int .i64 c.Hours, .slice p c.Rates.length c_1, .slice p_1 c.Opens.length c_2, .slice p_2 c.Pairs.length c_3]), (1, .int .i64 clock), (2, .int .i64 hour)] a := hF
 have hS := St.start hD
 unfold remontoirref02_place at h
 refine seq ?_
 refine region ?_
 refine O.box (cs := [.int .i64 c.Hours, .slice p c.Rates.length c_1, .slice p_1 c.Opens.length c_2, .slice p_2 c.Pairs.length c_3]) 1 hF rfl rfl hS rfl fun b a w hF hS => ?_
 refine step hF (Y.assign hF rfl) rfl fun a hF => ?_
 refine nil (then_n ?_)
 refine seq ?_
 refine seq ?_
 refine region ?_
 refine step hF (Y.move hF rfl) rfl fun a hF => ?_
 refine step hF (Y.lss hF rfl rfl) rfl fun a hF => ?_
 refine nil (then_n ?_)
 refine cond_b hF rfl (fun hbv => ?_) (fun hbv => ?_)
 ·replace h := cond_t h hbv
  refine seq ?_
  refine region ?_
  refine step hF (Y.assign hF rfl) rfl fun a hF => ?_
  refine nil (then_n ?_)
  refine ret_ (then_r ?_)
  obtain rfl := some_inj h
  exact leaveP Tryd.results73 hF hS (.cons (.tmp rfl) .nil) .nil rfl
 ·replace h := cond_f h hbv
  refine skip_ (then_n ?_)
  refine seq ?_
  refine region ?_
  refine step hF (Y.move hF rfl) rfl fun a hF => ?_
  refine step hF (Y.fieldAddr fo_26_0 hF rfl) rfl fun a hF => ?_
  refine step hF (Y.load1L 1 sz_3 hF rfl hS rfl rfl) rfl fun a hF => ?_
  refine step hF (Y.add hF rfl rfl) rfl fun a hF => ?_
  refine step hF (Y.mul hF rfl rfl) rfl fun a hF => ?_
  refine step hF (Y.add hF rfl rfl) rfl fun a hF => ?_
  refine step hF (Y.move hF rfl) rfl fun a hF => ?_
  refine step hF (Y.add hF rfl rfl) rfl fun a hF => ?_
  refine step hF (Y.assign hF rfl) rfl fun a hF => ?_
  refine nil (then_n ?_)
  refine ret_ ?_
  obtain rfl := some_inj h
  exact leaveP Tryd.results73 hF hS (.cons (.tmp rfl) .nil) .nil rfl

noncomputable def remontoirref02_IsTruth_b2 (c : BeatCellar) (offsets : (List (List Int))) (k : Int) : (Bool × Int × Int) → Option ((Bool × Int × Int) ⊕ ((Bool × Int × Int) ⊕ (Bool × Int)))
 | (v4_1, v5_1, hv) =>
  cond (decide (hv ≤ c.Hours))
  ((idx offsets k).bind fun e_1 =>
  (idx e_1 hv).bind fun e_2 =>
  (remontoirref00_Lies e_2 (-100000) 100000).bind fun rv_1 =>
  (cond (!rv_1) (some true) ((cond (decide (hv > 0)) ((remontoirref02_grows c k (wr (hv - 1))).bind fun rv_2 =>
  (idx offsets k).bind fun e_3 =>
  (idx e_3 hv).bind fun e_4 =>
  (idx offsets k).bind fun e_5 =>
  (idx e_5 (wr (hv - 1))).bind fun e_6 =>
  (remontoirref00_Has rv_2 (wr (e_4 - e_6))).bind fun rv_3 =>
  some (!rv_3)) (some false)).bind fun t =>
  some t)).bind fun t_1 =>
  cond t_1
  (ext (ext (some (false, 0))))
  (nxt (v4_1, v5_1, wr (hv + 1))))
  (ext (nxt (v4_1, v5_1, wr (k + 1))))
noncomputable def remontoirref02_IsTruth_k4 (v4_2 : Bool) (v5_2 : Int) (i : Int) (e_7 : BeatPair) (n : Int) : Option ((Bool × Int × Int) ⊕ (Bool × Int)) :=
  (remontoirref00_Has e_7.Read n).bind fun rv_4 =>
  cond (!rv_4)
  (ext (some (false, 0)))
  (nxt (v4_2, v5_2, wr (i + 1)))
noncomputable def remontoirref02_IsTruth_b3 (c : BeatCellar) (offsets : (List (List Int))) : (Bool × Int × Int) → Option ((Bool × Int × Int) ⊕ (Bool × Int))
 | (v4_2, v5_2, i) =>
  cond (decide (i < (c.Pairs.length : Int)))
  ((idx c.Pairs i).bind fun e_7 =>
  (idx offsets e_7.One).bind fun e_8 =>
  (idx e_8 e_7.Hour).bind fun e_9 =>
  cond (decide (e_7.Other ≥ 0))
  ((idx offsets e_7.Other).bind fun e_10 =>
  (idx e_10 e_7.Hour).bind fun e_11 =>
  remontoirref02_IsTruth_k4 v4_2 v5_2 i e_7 (wr (e_9 - e_11)))
  (remontoirref02_IsTruth_k4 v4_2 v5_2 i e_7 e_9))
  (ext (some (true, 0)))
noncomputable def remontoirref02_IsTruth_b1 (c : BeatCellar) (offsets : (List (List Int))) : (Bool × Int × Int) → Option ((Bool × Int × Int) ⊕ (Bool × Int))
 | (v4_0, v5_0, k) =>
  cond (decide (k < (offsets.length : Int)))
  ((idx offsets k).bind fun e =>
  cond ((e.length : Int) != (wr (c.Hours + 1)))
  (ext (some (false, 0)))
  (loopU (remontoirref02_IsTruth_b2 c offsets k) (v4_0, v5_0, 0)))
  (ext (loopU (remontoirref02_IsTruth_b3 c offsets) (v4_0, v5_0, 0)))
noncomputable def remontoirref02_IsTruth (c : BeatCellar) (offsets : (List (List Int))) : Option (Bool × Int) :=
  (remontoirref02_Check c).bind fun rv =>
  cond (rv != 0)
  (some (false, rv))
  (cond ((offsets.length : Int) != (c.Rates.length : Int))
  (some (false, 0))
  (loopU (remontoirref02_IsTruth_b1 c offsets) (false, 0, 0)))
theorem remontoirref02_IsTruth_ok {w0 : World} {D0 : Stab} (hD : D0.on w0) (c : BeatCellar) (offsets : (List (List Int))) {p : Option Addr} {c_1 : Nat} {p_1 : Option Addr} {c_2 : Nat} {p_2 : Option Addr} {c_3 : Nat} {p_3 : Option Addr} {c_4 : Nat} (hs : SRc C_Span D0 c.Rates p c_1) (hs_1 : SRc C_BeatOpen D0 c.Opens p_1 c_2) (hs_2 : SRc C_BeatPair D0 c.Pairs p_2 c_3) (hs_3 : SRc (C_sl C_int) D0 offsets p_3 c_4) (out : (Bool × Int)) (h : remontoirref02_IsTruth c offsets = some out) : Calls Tryd.prog 16 [.agg #[.int .i64 c.Hours, .slice p c.Rates.length c_1, .slice p_1 c.Opens.length c_2, .slice p_2 c.Pairs.length c_3], .slice p_3 offsets.length c_4].toArray w0 (RetP D0 w0 (.tuple #[.bool out.1, .int .i64 out.2])) := by
 refine enter _ 122 Tryd.func16 rfl Tryd.ntmps16 rfl fun a hF => ?_
 replace hF : Frm 122 [] [(0, .agg #[.int .i64 c.Hours, .slice p c.Rates.length c_1, .slice p_1 c.Opens.length c_2, .slice p_2 c.Pairs.length c_3]), (1, .slice p_3 offsets.length c_4)] a := hF
 have hS := St.start hD
 unfold remontoirref02_IsTruth at h
 refine seq ?_
 refine region ?_
 refine O.box (cs := [.int .i64 c.Hours, .slice p c.Rates.length c_1, .slice p_1 c.Opens.length c_2, .slice p_2 c.Pairs.length c_3]) 1 hF rfl rfl hS rfl fun b a w hF hS => ?_
 refine step hF (Y.assign hF rfl) rfl fun a hF => ?_
 refine step hF (Y.assign hF rfl) rfl fun a hF => ?_
 refine nil (then_n ?_)
 refine seq ?_
 refine seq ?_
 refine region ?_
 refine step hF (Y.loadNL 1 sz_26 hF rfl hS rfl rfl rfl) rfl fun a hF => ?_
 obtain ⟨rv, hx, h⟩ := bind_some h
 refine O.callP (us := [.agg #[.int .i64 c.Hours, .slice p c.Rates.length c_1, .slice p_1 c.Opens.length c_2, .slice p_2 c.Pairs.length c_3]]) ca_18 hF hS (remontoirref02_Check_ok hS.stab c hs hs_1 hs_2 rv hx) rfl rfl fun a w hF hS => ?_
 refine step hF (Y.assign hF rfl) rfl fun a hF => ?_
 refine nil (then_n ?_)
 refine seq ?_
 refine region ?_
 refine step hF (Y.move hF rfl) rfl fun a hF => ?_
 refine step hF (Y.neq hF rfl rfl) rfl fun a hF => ?_
 refine nil (then_n ?_)
 refine cond_b hF rfl (fun hbv => ?_) (fun hbv => ?_)
 ·replace h := cond_t h hbv
  refine seq ?_
  refine region ?_
  refine step hF (Y.move hF rfl) rfl fun a hF => ?_
  refine step hF (Y.assign hF rfl) rfl fun a hF => ?_
  refine step hF (Y.assign hF rfl) rfl fun a hF => ?_
  refine nil (then_n ?_)
  refine ret_ (then_r ?_)
  obtain rfl := some_inj h
  exact leaveP Tryd.results16 hF hS (.cons (.tmp rfl) (.cons (.tmp rfl) .nil)) .nil rfl
 ·replace h := cond_f h hbv
  refine skip_ (then_n ?_)
  refine seq ?_
  refine seq ?_
  refine region ?_
  refine step hF (Y.move hF rfl) rfl fun a hF => ?_
  refine step hF (Y.lenSl u_27 hF rfl) rfl fun a hF => ?_
  refine step hF (Y.fieldAddr fo_26_1 hF rfl) rfl fun a hF => ?_
  refine step hF (Y.load1L 1 sz_22 hF rfl hS rfl rfl) rfl fun a hF => ?_
  refine step hF (Y.lenSl u_22 hF rfl) rfl fun a hF => ?_
  refine step hF (Y.neq hF rfl rfl) rfl fun a hF => ?_
  refine nil (then_n ?_)
  refine cond_b hF rfl (fun hbv_1 => ?_) (fun hbv_1 => ?_)
  ·replace h := cond_t h hbv_1
   refine seq ?_
   refine region ?_
   refine step hF (Y.assign hF rfl) rfl fun a hF => ?_
   refine step hF (Y.assign hF rfl) rfl fun a hF => ?_
   refine nil (then_n ?_)
   refine ret_ (then_r ?_)
   obtain rfl := some_inj h
   exact leaveP Tryd.results16 hF hS (.cons (.tmp rfl) (.cons (.tmp rfl) .nil)) .nil rfl
  ·replace h := cond_f h hbv_1
   refine skip_ (then_n ?_)
   refine seq ?_
   refine seq ?_
   refine region ?_
   refine step hF (Y.assign hF rfl) rfl fun a hF => ?_
   refine nil (then_n ?_)
   refine block ?_
   refine loop_cut (body := remontoirref02_IsTruth_b1 c offsets) (out := out) (fun s a w => ∃ (v4_0 : Bool) (v5_0 : Int) (k : Int), ∃ (Dv : Stab), s = (v4_0, v5_0, k) ∧ D0.le Dv ∧ Frm 122 [] [(1, .slice p_3 offsets.length c_4), (2, .pointer (some ⟨b, 0, none⟩)), (4, .bool v4_0), (5, .int .i64 v5_0), (7, .int .i64 k)] a ∧ St w0 D0 Dv [(1, .cells b [.int .i64 c.Hours, .slice p c.Rates.length c_1, .slice p_1 c.Opens.length c_2, .slice p_2 c.Pairs.length c_3] 26)] w) (false, 0, 0) h ⟨false, 0, 0, D0, rfl, Stab.le.refl _, hF.weak ⟨rfl, rfl, rfl, rfl, rfl, trivial⟩, hS.weak ⟨rfl, trivial⟩⟩ ?_
   rintro s a w xo ⟨v4_0, v5_0, k, Dv, rfl, hlev, hF, hS⟩ h hxo
   unfold remontoirref02_IsTruth_b1 at h
   dsimp only at h
   replace hs := hs.mono hlev
   replace hs_1 := hs_1.mono hlev
   replace hs_2 := hs_2.mono hlev
   replace hs_3 := hs_3.mono hlev
   refine seq ?_
   refine seq ?_
   refine region ?_
   refine step hF (Y.move hF rfl) rfl fun a hF => ?_
   refine step hF (Y.move hF rfl) rfl fun a hF => ?_
   refine step hF (Y.lenSl u_27 hF rfl) rfl fun a hF => ?_
   refine step hF (Y.lss hF rfl rfl) rfl fun a hF => ?_
   refine nil (then_n ?_)
   refine cond_b hF rfl (fun hbv_2 => ?_) (fun hbv_2 => ?_)
   ·replace h := cond_t h hbv_2
    refine skip_ (then_n ?_)
    refine seq ?_
    refine block ?_
    refine seq ?_
    refine seq ?_
    refine draws 9 [(0, true), (1, true), (2, true), (3, true), (4, true), (5, true), (6, true), (7, true), (8, true)] mixed_ (by kernel_rfl) (fun w => St w0 D0 Dv _ w) hS.drew (fun _ _ _ _ h => h) ?_
    replace hS := hS.drew
    refine stepT (i := 0) rfl hF (fun w hS => Y.move hF rfl) rfl fun a hF => ?_
    refine stepT (i := 1) rfl hF (fun w hS => Y.move hF rfl) rfl fun a hF => ?_
    obtain ⟨e, hx_1, h⟩ := bind_some h
    obtain ⟨b_1, o, hE, hY⟩ := Y.indexS (P := Tryd.prog) (C := (C_sl C_int)) (xs := offsets) (T := 27) (x := (.tmp 29)) (y := (.tmp 30)) u_27 sz_44 hF rfl rfl (hs_3).1 hx_1
    obtain ⟨cc, hc, hcell⟩ := hE.open
    obtain ⟨p_4, c_5, rfl, hs_4⟩ := hc
    refine stepT (i := 2) rfl hF (fun w hS => hY) rfl fun a hF => ?_
    refine stepT (i := 3) rfl hF (fun w hS => Y.load1 sz_44 hF rfl (hcell _ hS.stab 0 _ rfl)) rfl fun a hF => ?_
    refine stepT (i := 4) rfl hF (fun w hS => Y.lenSl u_44 hF rfl) rfl fun a hF => ?_
    refine stepT (i := 5) rfl hF (fun w hS => Y.fieldAddr fo_26_0 hF rfl) rfl fun a hF => ?_
    refine stepT (i := 6) rfl hF (fun w hS => Y.load1L 1 sz_3 hF rfl hS rfl rfl) rfl fun a hF => ?_
    refine stepT (i := 7) rfl hF (fun w hS => Y.add hF rfl rfl) rfl fun a hF => ?_
    refine stepT (i := 8) rfl hF (fun w hS => Y.neq hF rfl rfl) rfl fun a hF => ?_
    refine toTail ?_
    refine nil (then_n ?_)
    refine cond_b hF rfl (fun hbv_3 => ?_) (fun hbv_3 => ?_)
    ·replace h := cond_t h hbv_3
     refine seq ?_
     refine region ?_
     refine step hF (Y.assign hF rfl) rfl fun a hF => ?_
     refine step hF (Y.assign hF rfl) rfl fun a hF => ?_
     refine nil (then_n ?_)
     refine ret_ (then_r (blk_r (then_r (then_r (blk_r (then_r ?_))))))
     replace h := ext_some h hxo
     obtain rfl := some_inj h
     exact leaveP Tryd.results16 hF hS (.cons (.tmp rfl) (.cons (.tmp rfl) .nil)) .nil rfl
    ·replace h := cond_f h hbv_3
     refine skip_ (then_n ?_)
     refine seq ?_
     refine region ?_
     refine step hF (Y.assign hF rfl) rfl fun a hF => ?_
     refine nil (then_n ?_)
     refine block ?_
     refine loop_cut (body := remontoirref02_IsTruth_b2 c offsets k) (out := xo) (fun s a w => ∃ (v4_1 : Bool) (v5_1 : Int) (hv : Int), ∃ (Dv_1 : Stab), s = (v4_1, v5_1, hv) ∧ Dv.le Dv_1 ∧ Frm 122 [] [(1, .slice p_3 offsets.length c_4), (2, .pointer (some ⟨b, 0, none⟩)), (4, .bool v4_1), (5, .int .i64 v5_1), (7, .int .i64 k), (8, .int .i64 hv)] a ∧ St w0 D0 Dv_1 [(1, .cells b [.int .i64 c.Hours, .slice p c.Rates.length c_1, .slice p_1 c.Opens.length c_2, .slice p_2 c.Pairs.length c_3] 26)] w) (v4_0, v5_0, 0) h ⟨v4_0, v5_0, 0, Dv, rfl, Stab.le.refl _, hF.weak ⟨rfl, rfl, rfl, rfl, rfl, rfl, trivial⟩, hS.weak ⟨rfl, trivial⟩⟩ ?_
     rintro s a w xo_1 ⟨v4_1, v5_1, hv, Dv_1, rfl, hlev_1, hF, hS⟩ h hxo_1
     unfold remontoirref02_IsTruth_b2 at h
     dsimp only at h
     replace hs := hs.mono hlev_1
     replace hs_1 := hs_1.mono hlev_1
     replace hs_2 := hs_2.mono hlev_1
     replace hs_3 := hs_3.mono hlev_1
     replace hs_4 := hs_4.mono hlev_1
     replace hcell := fun w hw => hcell w (Stab.on.le hw hlev_1)
     refine seq ?_
     refine seq ?_
     refine region ?_
     refine step hF (Y.move hF rfl) rfl fun a hF => ?_
     refine step hF (Y.fieldAddr fo_26_0 hF rfl) rfl fun a hF => ?_
     refine step hF (Y.load1L 1 sz_3 hF rfl hS rfl rfl) rfl fun a hF => ?_
     refine step hF (Y.leq hF rfl rfl) rfl fun a hF => ?_
     refine nil (then_n ?_)
     refine cond_b hF rfl (fun hbv_4 => ?_) (fun hbv_4 => ?_)
     ·replace h := cond_t h hbv_4
      refine skip_ (then_n ?_)
      refine seq ?_
      refine block ?_
      refine seq ?_
      obtain ⟨e_1, hx_2, h⟩ := bind_some h
      obtain ⟨e_2, hx_3, h⟩ := bind_some h
      obtain ⟨rv_1, hx_4, h⟩ := bind_some h
      obtain ⟨t_1, ht_1, h⟩ := bind_some h
      refine drawsV 38 (.flt 0 (.flt 1 (.flt 2 (.flt 3 (.flt 4 (.flt 5 (.flt 6 (.alt 7 (.flt 8 (.flt 9 (.flt 10 (.flt 11 (.flt 12 (.flt 13 (.flt 14 (.flt 15 (.flt 16 (.flt 18 (.flt 19 (.flt 20 (.flt 21 (.flt 22 (.flt 23 (.flt 24 (.flt 25 (.flt 26 (.flt 27 (.flt 28 (.flt 29 (.flt 30 (.flt 31 (.flt 32 (.flt 33 (.alt 17 (.alt 34 (.flt 35 (.flt 36 (.flt 37 .done))) .stop) .stop)))))))))))))))))))))))))) .stop)))))))) mixed_ (by kernel_rfl) (fun w => St w0 D0 Dv_1 [(1, .cells b [.int .i64 c.Hours, .slice p c.Rates.length c_1, .slice p_1 c.Opens.length c_2, .slice p_2 c.Pairs.length c_3] 26)] w) (fun a w => Frm 122 [] [(1, .slice p_3 offsets.length c_4), (2, .pointer (some ⟨b, 0, none⟩)), (4, .bool v4_1), (5, .int .i64 v5_1), (7, .int .i64 k), (8, .int .i64 hv), (81, .bool t_1)] a ∧ St w0 D0 Dv_1 [(1, .cells b [.int .i64 c.Hours, .slice p c.Rates.length c_1, .slice p_1 c.Opens.length c_2, .slice p_2 c.Pairs.length c_3] 26)] w) (hS.weak (ms := [(1, .cells b [.int .i64 c.Hours, .slice p c.Rates.length c_1, .slice p_1 c.Opens.length c_2, .slice p_2 c.Pairs.length c_3] 26)]) ⟨rfl, trivial⟩).drew (fun _ _ _ _ h => h) ?_ ?_
      ·replace hS := hS.drew
       have hle0 := hS.le
       rcases bcases (!rv_1) with hbv_5 | hbv_5
       ·skip
        replace ht_1 := cond_t ht_1 hbv_5
        obtain rfl := some_inj ht_1
        refine stepV (i := 0) rfl hF (fun w hS => Y.move hF rfl) rfl fun a hF => ?_
        refine stepV (i := 1) rfl hF (fun w hS => Y.move hF rfl) rfl fun a hF => ?_
        obtain ⟨b_8, o_7, hE_7, hY_7⟩ := Y.indexS (P := Tryd.prog) (C := (C_sl C_int)) (xs := offsets) (T := 27) (x := (.tmp 44)) (y := (.tmp 45)) u_27 sz_44 hF rfl rfl (hs_3).1 hx_2
        obtain ⟨cc_7, hc_7, hcell_7⟩ := hE_7.open
        obtain ⟨p_8, c_9, rfl, hs_8⟩ := hc_7
        refine stepV (i := 2) rfl hF (fun w hS => hY_7) rfl fun a hF => ?_
        refine stepV (i := 3) rfl hF (fun w hS => Y.load1 sz_44 hF rfl (hcell_7 _ hS.stab 0 _ rfl)) rfl fun a hF => ?_
        refine stepV (i := 4) rfl hF (fun w hS => Y.move hF rfl) rfl fun a hF => ?_
        obtain ⟨b_9, o_8, hE_8, hY_8⟩ := Y.indexS (P := Tryd.prog) (C := C_int) (xs := e_1) (T := 44) (x := (.tmp 47)) (y := (.tmp 48)) u_44 sz_3 hF rfl rfl (hs_8).1 hx_3
        obtain ⟨cc_8, hc_8, hcell_8⟩ := hE_8.open
        obtain rfl := hc_8
        refine stepV (i := 5) rfl hF (fun w hS => hY_8) rfl fun a hF => ?_
        refine stepV (i := 6) rfl hF (fun w hS => Y.load1 sz_3 hF rfl (hcell_8 _ hS.stab 0 _ rfl)) rfl fun a hF => ?_
        refine oneV (i := 7) rfl ?_ trivial
        refine O.callP (us := [.int .i64 e_2, .int .i64 (-100000), .int .i64 100000]) ca_52 hF hS (remontoirref00_Lies_ok hS.stab e_2 (-100000) 100000 rv_1 hx_4) rfl rfl fun a w hF hS => ?_
        refine nil (then_n ⟨hS.weak (ms := [(1, .cells b [.int .i64 c.Hours, .slice p c.Rates.length c_1, .slice p_1 c.Opens.length c_2, .slice p_2 c.Pairs.length c_3] 26)]) ⟨rfl, trivial⟩, ?_⟩)
        refine stepV (i := 8) rfl hF (fun w hS => Y.not hF rfl) rfl fun a hF => ?_
        refine stepV (i := 9) rfl hF (fun w hS => Y.move hF rfl) rfl fun a hF => ?_
        refine stepV_off (i := 10) rfl hF rfl rfl hbv_5 rfl fun a hF => ?_
        refine stepV_off (i := 11) rfl hF rfl rfl hbv_5 rfl fun a hF => ?_
        refine stepV_off (i := 12) rfl hF rfl rfl hbv_5 rfl fun a hF => ?_
        refine stepV_offu (i := 13) rfl hF rfl rfl rfl fun a hF => ?_
        refine stepV_offu (i := 14) rfl hF rfl rfl rfl fun a hF => ?_
        refine stepV_offu (i := 15) rfl hF rfl rfl rfl fun a hF => ?_
        refine stepV_offu (i := 16) rfl hF rfl rfl rfl fun a hF => ?_
        refine stepV_offu (i := 18) rfl hF rfl rfl rfl fun a hF => ?_
        refine stepV_offu (i := 19) rfl hF rfl rfl rfl fun a hF => ?_
        refine stepV_offu (i := 20) rfl hF rfl rfl rfl fun a hF => ?_
        refine stepV_offu (i := 21) rfl hF rfl rfl rfl fun a hF => ?_
        refine stepV_offu (i := 22) rfl hF rfl rfl rfl fun a hF => ?_
        refine stepV_offu (i := 23) rfl hF rfl rfl rfl fun a hF => ?_
        refine stepV_offu (i := 24) rfl hF rfl rfl rfl fun a hF => ?_
        refine stepV_offu (i := 25) rfl hF rfl rfl rfl fun a hF => ?_
        refine stepV_offu (i := 26) rfl hF rfl rfl rfl fun a hF => ?_
        refine stepV_offu (i := 27) rfl hF rfl rfl rfl fun a hF => ?_
        refine stepV_offu (i := 28) rfl hF rfl rfl rfl fun a hF => ?_
        refine stepV_offu (i := 29) rfl hF rfl rfl rfl fun a hF => ?_
        refine stepV_offu (i := 30) rfl hF rfl rfl rfl fun a hF => ?_
        refine stepV_offu (i := 31) rfl hF rfl rfl rfl fun a hF => ?_
        refine stepV_offu (i := 32) rfl hF rfl rfl rfl fun a hF => ?_
        refine stepV_offu (i := 33) rfl hF rfl rfl rfl fun a hF => ?_
        refine oneV (i := 17) rfl ?_ trivial
        refine guard_offu hF rfl rfl rfl fun a hF => nil (then_n ⟨hS.weak (ms := [(1, .cells b [.int .i64 c.Hours, .slice p c.Rates.length c_1, .slice p_1 c.Opens.length c_2, .slice p_2 c.Pairs.length c_3] 26)]) ⟨rfl, trivial⟩, ?_⟩)
        refine oneV (i := 34) rfl ?_ trivial
        refine guard_offu hF rfl rfl rfl fun a hF => nil (then_n ⟨hS.weak (ms := [(1, .cells b [.int .i64 c.Hours, .slice p c.Rates.length c_1, .slice p_1 c.Opens.length c_2, .slice p_2 c.Pairs.length c_3] 26)]) ⟨rfl, trivial⟩, ?_⟩)
        refine stepV_offu (i := 35) rfl hF rfl rfl rfl fun a hF => ?_
        refine stepV_off (i := 36) rfl hF rfl rfl hbv_5 rfl fun a hF => ?_
        refine stepV (i := 37) rfl hF (fun w hS => Y.pick_t hF rfl hbv_5 rfl) rfl fun a hF => ?_
        exact toTailV ⟨hF.weak ⟨rfl, rfl, rfl, rfl, rfl, rfl, rfl, trivial⟩, hS.weak ⟨rfl, trivial⟩⟩
       ·skip
        replace ht_1 := cond_f ht_1 hbv_5
        obtain ⟨t, ht, ht_1⟩ := bind_some ht_1
        obtain rfl := some_inj ht_1
        rcases bcases (decide (hv > 0)) with hbv_6 | hbv_6
        ·skip
         replace ht := cond_t ht hbv_6
         obtain ⟨rv_2, hx_5, ht⟩ := bind_some ht
         obtain ⟨e_3, hx_6, ht⟩ := bind_some ht
         obtain ⟨e_4, hx_7, ht⟩ := bind_some ht
         obtain ⟨e_5, hx_8, ht⟩ := bind_some ht
         obtain ⟨e_6, hx_9, ht⟩ := bind_some ht
         obtain ⟨rv_3, hx_10, ht⟩ := bind_some ht
         obtain rfl := some_inj ht
         refine stepV (i := 0) rfl hF (fun w hS => Y.move hF rfl) rfl fun a hF => ?_
         refine stepV (i := 1) rfl hF (fun w hS => Y.move hF rfl) rfl fun a hF => ?_
         obtain ⟨b_10, o_9, hE_9, hY_9⟩ := Y.indexS (P := Tryd.prog) (C := (C_sl C_int)) (xs := offsets) (T := 27) (x := (.tmp 44)) (y := (.tmp 45)) u_27 sz_44 hF rfl rfl (hs_3).1 hx_2
         obtain ⟨cc_9, hc_9, hcell_9⟩ := hE_9.open
         obtain ⟨p_9, c_10, rfl, hs_9⟩ := hc_9
         refine stepV (i := 2) rfl hF (fun w hS => hY_9) rfl fun a hF => ?_
         refine stepV (i := 3) rfl hF (fun w hS => Y.load1 sz_44 hF rfl (hcell_9 _ hS.stab 0 _ rfl)) rfl fun a hF => ?_
         refine stepV (i := 4) rfl hF (fun w hS => Y.move hF rfl) rfl fun a hF => ?_
         obtain ⟨b_11, o_10, hE_10, hY_10⟩ := Y.indexS (P := Tryd.prog) (C := C_int) (xs := e_1) (T := 44) (x := (.tmp 47)) (y := (.tmp 48)) u_44 sz_3 hF rfl rfl (hs_9).1 hx_3
         obtain ⟨cc_10, hc_10, hcell_10⟩ := hE_10.open
         obtain rfl := hc_10
         refine stepV (i := 5) rfl hF (fun w hS => hY_10) rfl fun a hF => ?_
         refine stepV (i := 6) rfl hF (fun w hS => Y.load1 sz_3 hF rfl (hcell_10 _ hS.stab 0 _ rfl)) rfl fun a hF => ?_
         refine oneV (i := 7) rfl ?_ trivial
         refine O.callP (us := [.int .i64 e_2, .int .i64 (-100000), .int .i64 100000]) ca_52 hF hS (remontoirref00_Lies_ok hS.stab e_2 (-100000) 100000 rv_1 hx_4) rfl rfl fun a w hF hS => ?_
         refine nil (then_n ⟨hS.weak (ms := [(1, .cells b [.int .i64 c.Hours, .slice p c.Rates.length c_1, .slice p_1 c.Opens.length c_2, .slice p_2 c.Pairs.length c_3] 26)]) ⟨rfl, trivial⟩, ?_⟩)
         refine stepV (i := 8) rfl hF (fun w hS => Y.not hF rfl) rfl fun a hF => ?_
         refine stepV (i := 9) rfl hF (fun w hS => Y.move hF rfl) rfl fun a hF => ?_
         refine stepV_on (i := 10) rfl hF rfl rfl hbv_5 (fun w hS => Y.move hF rfl) rfl fun a hF => ?_
         refine stepV_on (i := 11) rfl hF rfl rfl hbv_5 (fun w hS => Y.gtr hF rfl rfl) rfl fun a hF => ?_
         refine stepV_on (i := 12) rfl hF rfl rfl hbv_5 (fun w hS => Y.move hF rfl) rfl fun a hF => ?_
         refine stepV_on (i := 13) rfl hF rfl rfl hbv_6 (fun w hS => Y.loadNL 1 sz_26 hF rfl hS rfl rfl rfl) rfl fun a hF => ?_
         refine stepV_on (i := 14) rfl hF rfl rfl hbv_6 (fun w hS => Y.move hF rfl) rfl fun a hF => ?_
         refine stepV_on (i := 15) rfl hF rfl rfl hbv_6 (fun w hS => Y.move hF rfl) rfl fun a hF => ?_
         refine stepV_on (i := 16) rfl hF rfl rfl hbv_6 (fun w hS => Y.sub hF rfl rfl) rfl fun a hF => ?_
         refine stepV_on (i := 18) rfl hF rfl rfl hbv_6 (fun w hS => Y.move hF rfl) rfl fun a hF => ?_
         refine stepV_on (i := 19) rfl hF rfl rfl hbv_6 (fun w hS => Y.move hF rfl) rfl fun a hF => ?_
         obtain ⟨b_12, o_11, hE_11, hY_11⟩ := Y.indexS (P := Tryd.prog) (C := (C_sl C_int)) (xs := offsets) (T := 27) (x := (.tmp 62)) (y := (.tmp 63)) u_27 sz_44 hF rfl rfl (hs_3).1 hx_6
         obtain ⟨cc_11, hc_11, hcell_11⟩ := hE_11.open
         obtain ⟨p_10, c_11, rfl, hs_10⟩ := hc_11
         refine stepV_on (i := 20) rfl hF rfl rfl hbv_6 (fun w hS => hY_11) rfl fun a hF => ?_
         refine stepV_on (i := 21) rfl hF rfl rfl hbv_6 (fun w hS => Y.load1 sz_44 hF rfl (hcell_11 _ hS.stab 0 _ rfl)) rfl fun a hF => ?_
         refine stepV_on (i := 22) rfl hF rfl rfl hbv_6 (fun w hS => Y.move hF rfl) rfl fun a hF => ?_
         obtain ⟨b_13, o_12, hE_12, hY_12⟩ := Y.indexS (P := Tryd.prog) (C := C_int) (xs := e_3) (T := 44) (x := (.tmp 65)) (y := (.tmp 66)) u_44 sz_3 hF rfl rfl (hs_10).1 hx_7
         obtain ⟨cc_12, hc_12, hcell_12⟩ := hE_12.open
         obtain rfl := hc_12
         refine stepV_on (i := 23) rfl hF rfl rfl hbv_6 (fun w hS => hY_12) rfl fun a hF => ?_
         refine stepV_on (i := 24) rfl hF rfl rfl hbv_6 (fun w hS => Y.load1 sz_3 hF rfl (hcell_12 _ hS.stab 0 _ rfl)) rfl fun a hF => ?_
         refine stepV_on (i := 25) rfl hF rfl rfl hbv_6 (fun w hS => Y.move hF rfl) rfl fun a hF => ?_
         refine stepV_on (i := 26) rfl hF rfl rfl hbv_6 (fun w hS => Y.move hF rfl) rfl fun a hF => ?_
         obtain ⟨b_14, o_13, hE_13, hY_13⟩ := Y.indexS (P := Tryd.prog) (C := (C_sl C_int)) (xs := offsets) (T := 27) (x := (.tmp 69)) (y := (.tmp 70)) u_27 sz_44 hF rfl rfl (hs_3).1 hx_8
         obtain ⟨cc_13, hc_13, hcell_13⟩ := hE_13.open
         obtain ⟨p_11, c_12, rfl, hs_11⟩ := hc_13
         refine stepV_on (i := 27) rfl hF rfl rfl hbv_6 (fun w hS => hY_13) rfl fun a hF => ?_
         refine stepV_on (i := 28) rfl hF rfl rfl hbv_6 (fun w hS => Y.load1 sz_44 hF rfl (hcell_13 _ hS.stab 0 _ rfl)) rfl fun a hF => ?_
         refine stepV_on (i := 29) rfl hF rfl rfl hbv_6 (fun w hS => Y.move hF rfl) rfl fun a hF => ?_
         refine stepV_on (i := 30) rfl hF rfl rfl hbv_6 (fun w hS => Y.sub hF rfl rfl) rfl fun a hF => ?_
         obtain ⟨b_15, o_14, hE_14, hY_14⟩ := Y.indexS (P := Tryd.prog) (C := C_int) (xs := e_5) (T := 44) (x := (.tmp 72)) (y := (.tmp 74)) u_44 sz_3 hF rfl rfl (hs_11).1 hx_9
         obtain ⟨cc_14, hc_14, hcell_14⟩ := hE_14.open
         obtain rfl := hc_14
         refine stepV_on (i := 31) rfl hF rfl rfl hbv_6 (fun w hS => hY_14) rfl fun a hF => ?_
         refine stepV_on (i := 32) rfl hF rfl rfl hbv_6 (fun w hS => Y.load1 sz_3 hF rfl (hcell_14 _ hS.stab 0 _ rfl)) rfl fun a hF => ?_
         refine stepV_on (i := 33) rfl hF rfl rfl hbv_6 (fun w hS => Y.sub hF rfl rfl) rfl fun a hF => ?_
         refine oneV (i := 17) rfl ?_ trivial
         refine guard_on hF rfl rfl hbv_6 ?_
         refine O.callP (us := [.agg #[.int .i64 c.Hours, .slice p c.Rates.length c_1, .slice p_1 c.Opens.length c_2, .slice p_2 c.Pairs.length c_3], .int .i64 k, .int .i64 (wr (hv - 1))]) ca_53 hF hS (remontoirref02_grows_ok hS.stab c k (wr (hv - 1)) hs hs_1 hs_2 rv_2 hx_5) rfl rfl fun a w hF hS => ?_
         refine nil (then_n ⟨hS.weak (ms := [(1, .cells b [.int .i64 c.Hours, .slice p c.Rates.length c_1, .slice p_1 c.Opens.length c_2, .slice p_2 c.Pairs.length c_3] 26)]) ⟨rfl, trivial⟩, ?_⟩)
         refine oneV (i := 34) rfl ?_ trivial
         refine guard_on hF rfl rfl hbv_6 ?_
         refine O.callP (us := [.agg #[.int .i64 rv_2.Low, .int .i64 rv_2.High], .int .i64 (wr (e_4 - e_6))]) ca_35 hF hS (remontoirref00_Has_ok hS.stab rv_2 (wr (e_4 - e_6)) rv_3 hx_10) rfl rfl fun a w hF hS => ?_
         refine nil (then_n ⟨hS.weak (ms := [(1, .cells b [.int .i64 c.Hours, .slice p c.Rates.length c_1, .slice p_1 c.Opens.length c_2, .slice p_2 c.Pairs.length c_3] 26)]) ⟨rfl, trivial⟩, ?_⟩)
         refine stepV_on (i := 35) rfl hF rfl rfl hbv_6 (fun w hS => Y.not hF rfl) rfl fun a hF => ?_
         refine stepV_on (i := 36) rfl hF rfl rfl hbv_5 (fun w hS => Y.pick_t hF rfl hbv_6 rfl) rfl fun a hF => ?_
         refine stepV (i := 37) rfl hF (fun w hS => Y.pick_f hF rfl hbv_5 rfl) rfl fun a hF => ?_
         exact toTailV ⟨hF.weak ⟨rfl, rfl, rfl, rfl, rfl, rfl, rfl, trivial⟩, hS.weak ⟨rfl, trivial⟩⟩
        ·skip
         replace ht := cond_f ht hbv_6
         obtain rfl := some_inj ht
         refine stepV (i := 0) rfl hF (fun w hS => Y.move hF rfl) rfl fun a hF => ?_
         refine stepV (i := 1) rfl hF (fun w hS => Y.move hF rfl) rfl fun a hF => ?_
         obtain ⟨b_16, o_15, hE_15, hY_15⟩ := Y.indexS (P := Tryd.prog) (C := (C_sl C_int)) (xs := offsets) (T := 27) (x := (.tmp 44)) (y := (.tmp 45)) u_27 sz_44 hF rfl rfl (hs_3).1 hx_2
         obtain ⟨cc_15, hc_15, hcell_15⟩ := hE_15.open
         obtain ⟨p_12, c_13, rfl, hs_12⟩ := hc_15
         refine stepV (i := 2) rfl hF (fun w hS => hY_15) rfl fun a hF => ?_
         refine stepV (i := 3) rfl hF (fun w hS => Y.load1 sz_44 hF rfl (hcell_15 _ hS.stab 0 _ rfl)) rfl fun a hF => ?_
         refine stepV (i := 4) rfl hF (fun w hS => Y.move hF rfl) rfl fun a hF => ?_
         obtain ⟨b_17, o_16, hE_16, hY_16⟩ := Y.indexS (P := Tryd.prog) (C := C_int) (xs := e_1) (T := 44) (x := (.tmp 47)) (y := (.tmp 48)) u_44 sz_3 hF rfl rfl (hs_12).1 hx_3
         obtain ⟨cc_16, hc_16, hcell_16⟩ := hE_16.open
         obtain rfl := hc_16
         refine stepV (i := 5) rfl hF (fun w hS => hY_16) rfl fun a hF => ?_
         refine stepV (i := 6) rfl hF (fun w hS => Y.load1 sz_3 hF rfl (hcell_16 _ hS.stab 0 _ rfl)) rfl fun a hF => ?_
         refine oneV (i := 7) rfl ?_ trivial
         refine O.callP (us := [.int .i64 e_2, .int .i64 (-100000), .int .i64 100000]) ca_52 hF hS (remontoirref00_Lies_ok hS.stab e_2 (-100000) 100000 rv_1 hx_4) rfl rfl fun a w hF hS => ?_
         refine nil (then_n ⟨hS.weak (ms := [(1, .cells b [.int .i64 c.Hours, .slice p c.Rates.length c_1, .slice p_1 c.Opens.length c_2, .slice p_2 c.Pairs.length c_3] 26)]) ⟨rfl, trivial⟩, ?_⟩)
         refine stepV (i := 8) rfl hF (fun w hS => Y.not hF rfl) rfl fun a hF => ?_
         refine stepV (i := 9) rfl hF (fun w hS => Y.move hF rfl) rfl fun a hF => ?_
         refine stepV_on (i := 10) rfl hF rfl rfl hbv_5 (fun w hS => Y.move hF rfl) rfl fun a hF => ?_
         refine stepV_on (i := 11) rfl hF rfl rfl hbv_5 (fun w hS => Y.gtr hF rfl rfl) rfl fun a hF => ?_
         refine stepV_on (i := 12) rfl hF rfl rfl hbv_5 (fun w hS => Y.move hF rfl) rfl fun a hF => ?_
         refine stepV_off (i := 13) rfl hF rfl rfl hbv_6 rfl fun a hF => ?_
         refine stepV_off (i := 14) rfl hF rfl rfl hbv_6 rfl fun a hF => ?_
         refine stepV_off (i := 15) rfl hF rfl rfl hbv_6 rfl fun a hF => ?_
         refine stepV_off (i := 16) rfl hF rfl rfl hbv_6 rfl fun a hF => ?_
         refine stepV_off (i := 18) rfl hF rfl rfl hbv_6 rfl fun a hF => ?_
         refine stepV_off (i := 19) rfl hF rfl rfl hbv_6 rfl fun a hF => ?_
         refine stepV_off (i := 20) rfl hF rfl rfl hbv_6 rfl fun a hF => ?_
         refine stepV_off (i := 21) rfl hF rfl rfl hbv_6 rfl fun a hF => ?_
         refine stepV_off (i := 22) rfl hF rfl rfl hbv_6 rfl fun a hF => ?_
         refine stepV_off (i := 23) rfl hF rfl rfl hbv_6 rfl fun a hF => ?_
         refine stepV_off (i := 24) rfl hF rfl rfl hbv_6 rfl fun a hF => ?_
         refine stepV_off (i := 25) rfl hF rfl rfl hbv_6 rfl fun a hF => ?_
         refine stepV_off (i := 26) rfl hF rfl rfl hbv_6 rfl fun a hF => ?_
         refine stepV_off (i := 27) rfl hF rfl rfl hbv_6 rfl fun a hF => ?_
         refine stepV_off (i := 28) rfl hF rfl rfl hbv_6 rfl fun a hF => ?_
         refine stepV_off (i := 29) rfl hF rfl rfl hbv_6 rfl fun a hF => ?_
         refine stepV_off (i := 30) rfl hF rfl rfl hbv_6 rfl fun a hF => ?_
         refine stepV_off (i := 31) rfl hF rfl rfl hbv_6 rfl fun a hF => ?_
         refine stepV_off (i := 32) rfl hF rfl rfl hbv_6 rfl fun a hF => ?_
         refine stepV_off (i := 33) rfl hF rfl rfl hbv_6 rfl fun a hF => ?_
         refine oneV (i := 17) rfl ?_ trivial
         refine guard_off hF rfl rfl hbv_6 rfl fun a hF => nil (then_n ⟨hS.weak (ms := [(1, .cells b [.int .i64 c.Hours, .slice p c.Rates.length c_1, .slice p_1 c.Opens.length c_2, .slice p_2 c.Pairs.length c_3] 26)]) ⟨rfl, trivial⟩, ?_⟩)
         refine oneV (i := 34) rfl ?_ trivial
         refine guard_off hF rfl rfl hbv_6 rfl fun a hF => nil (then_n ⟨hS.weak (ms := [(1, .cells b [.int .i64 c.Hours, .slice p c.Rates.length c_1, .slice p_1 c.Opens.length c_2, .slice p_2 c.Pairs.length c_3] 26)]) ⟨rfl, trivial⟩, ?_⟩)
         refine stepV_off (i := 35) rfl hF rfl rfl hbv_6 rfl fun a hF => ?_
         refine stepV_on (i := 36) rfl hF rfl rfl hbv_5 (fun w hS => Y.pick_f hF rfl hbv_6 rfl) rfl fun a hF => ?_
         refine stepV (i := 37) rfl hF (fun w hS => Y.pick_f hF rfl hbv_5 rfl) rfl fun a hF => ?_
         exact toTailV ⟨hF.weak ⟨rfl, rfl, rfl, rfl, rfl, rfl, rfl, trivial⟩, hS.weak ⟨rfl, trivial⟩⟩
      rintro a w ⟨hF, hS⟩
      refine nil (then_n ?_)
      refine cond_b hF rfl (fun hbv_7 => ?_) (fun hbv_7 => ?_)
      ·replace h := cond_t h hbv_7
       refine seq ?_
       refine region ?_
       refine step hF (Y.assign hF rfl) rfl fun a hF => ?_
       refine step hF (Y.assign hF rfl) rfl fun a hF => ?_
       refine nil (then_n ?_)
       refine ret_ (blk_r (then_r (then_r (blk_r (blk_r (then_r (then_r (blk_r (then_r ?_)))))))))
       replace h := ext_some h hxo_1
       replace h := ext_some h hxo
       obtain rfl := some_inj h
       exact leaveP Tryd.results16 hF hS (.cons (.tmp rfl) (.cons (.tmp rfl) .nil)) .nil rfl
      ·replace h := cond_f h hbv_7
       refine skip_ (blk_n (then_n ?_))
       refine region ?_
       refine step hF (Y.move hF rfl) rfl fun a hF => ?_
       refine step hF (Y.add hF rfl rfl) rfl fun a hF => ?_
       refine step hF (Y.assign hF rfl) rfl fun a hF => ?_
       refine nil (then_n ?_)
       exact ⟨_, nxt_some h, v4_1, v5_1, (wr (hv + 1)), Dv_1, rfl, hlev_1, hF.weak ⟨rfl, rfl, rfl, rfl, rfl, rfl, trivial⟩, hS.weak ⟨rfl, trivial⟩⟩
     ·replace h := cond_f h hbv_4
      refine exit_ (then_x (then_x (blk_hit (blk_n (then_n ?_)))))
      replace h := ext_some h hxo_1
      refine region ?_
      refine step hF (Y.move hF rfl) rfl fun a hF => ?_
      refine step hF (Y.add hF rfl rfl) rfl fun a hF => ?_
      refine step hF (Y.assign hF rfl) rfl fun a hF => ?_
      refine nil (then_n ?_)
      exact ⟨_, nxt_some h, v4_1, v5_1, (wr (k + 1)), Dv_1, rfl, hlev.trans hlev_1, hF.weak ⟨rfl, rfl, rfl, rfl, rfl, trivial⟩, hS.weak ⟨rfl, trivial⟩⟩
   ·replace h := cond_f h hbv_2
    refine exit_ (then_x (then_x (blk_hit (then_n ?_))))
    replace h := ext_some h hxo
    refine seq ?_
    refine seq ?_
    refine region ?_
    refine step hF (Y.assign hF rfl) rfl fun a hF => ?_
    refine nil (then_n ?_)
    refine block ?_
    refine loop_cut (body := remontoirref02_IsTruth_b3 c offsets) (out := out) (fun s a w => ∃ (v4_2 : Bool) (v5_2 : Int) (i : Int), s = (v4_2, v5_2, i) ∧ Frm 122 [] [(1, .slice p_3 offsets.length c_4), (2, .pointer (some ⟨b, 0, none⟩)), (4, .bool v4_2), (5, .int .i64 v5_2), (9, .int .i64 i)] a ∧ St w0 D0 Dv [(1, .cells b [.int .i64 c.Hours, .slice p c.Rates.length c_1, .slice p_1 c.Opens.length c_2, .slice p_2 c.Pairs.length c_3] 26)] w) (v4_0, v5_0, 0) h ⟨v4_0, v5_0, 0, rfl, hF.weak ⟨rfl, rfl, rfl, rfl, rfl, trivial⟩, hS.weak ⟨rfl, trivial⟩⟩ ?_
    rintro s a w xo_2 ⟨v4_2, v5_2, i, rfl, hF, hS⟩ h hxo_2
    unfold remontoirref02_IsTruth_b3 at h
    dsimp only at h
    refine seq ?_
    refine seq ?_
    refine region ?_
    refine step hF (Y.move hF rfl) rfl fun a hF => ?_
    refine step hF (Y.fieldAddr fo_26_3 hF rfl) rfl fun a hF => ?_
    refine step hF (Y.load1L 1 sz_24 hF rfl hS rfl rfl) rfl fun a hF => ?_
    refine step hF (Y.lenSl u_24 hF rfl) rfl fun a hF => ?_
    refine step hF (Y.lss hF rfl rfl) rfl fun a hF => ?_
    refine nil (then_n ?_)
    refine cond_b hF rfl (fun hbv_8 => ?_) (fun hbv_8 => ?_)
    ·replace h := cond_t h hbv_8
     refine skip_ (then_n ?_)
     refine seq ?_
     refine block ?_
     refine seq ?_
     refine region ?_
     refine step hF (Y.fieldAddr fo_26_3 hF rfl) rfl fun a hF => ?_
     refine step hF (Y.load1L 1 sz_24 hF rfl hS rfl rfl) rfl fun a hF => ?_
     refine step hF (Y.move hF rfl) rfl fun a hF => ?_
     obtain ⟨e_7, hx_11, h⟩ := bind_some h
     obtain ⟨b_18, o_17, hE_17, hY_17⟩ := Y.indexS (P := Tryd.prog) (C := C_BeatPair) (xs := c.Pairs) (T := 24) (x := (.tmp 90)) (y := (.tmp 91)) u_24 sz_61 hF rfl rfl (hs_2).1 hx_11
     obtain ⟨cc_17, hc_17, hcell_17⟩ := hE_17.open
     obtain rfl := C_BeatPair.open hc_17
     refine step hF (hY_17) rfl fun a hF => ?_
     refine step hF (Y.loadNE (o := o_17) (k := 0) sz_61 hF rfl (hcell_17 _ hS.stab) rfl rfl) rfl fun a hF => ?_
     refine O.alloc 2 zc_61 hF hS rfl fun b_19 a w hF hS => ?_
     refine O.store (us := [.int .i64 e_7.Hour, .int .i64 e_7.One, .int .i64 e_7.Other, .int .i64 e_7.Read.Low, .int .i64 e_7.Read.High]) 2 sz_61 hF rfl rfl rfl rfl hS rfl rfl fun a w hF hS => ?_
     refine nil (then_n ?_)
     refine seq ?_
     refine draws 10 [(0, true), (1, true), (2, true), (3, true), (4, true), (5, true), (6, true), (7, true), (8, true), (9, true)] mixed_ (by kernel_rfl) (fun w => St w0 D0 Dv _ w) hS.drew (fun _ _ _ _ h => h) ?_
     replace hS := hS.drew
     refine stepT (i := 0) rfl hF (fun w hS => Y.move hF rfl) rfl fun a hF => ?_
     refine stepT (i := 1) rfl hF (fun w hS => Y.fieldAddr fo_61_1 hF rfl) rfl fun a hF => ?_
     refine stepT (i := 2) rfl hF (fun w hS => Y.load1L 2 sz_3 hF rfl hS rfl rfl) rfl fun a hF => ?_
     obtain ⟨e_8, hx_12, h⟩ := bind_some h
     obtain ⟨b_20, o_18, hE_18, hY_18⟩ := Y.indexS (P := Tryd.prog) (C := (C_sl C_int)) (xs := offsets) (T := 27) (x := (.tmp 94)) (y := (.tmp 96)) u_27 sz_44 hF rfl rfl (hs_3).1 hx_12
     obtain ⟨cc_18, hc_18, hcell_18⟩ := hE_18.open
     obtain ⟨p_13, c_14, rfl, hs_13⟩ := hc_18
     refine stepT (i := 3) rfl hF (fun w hS => hY_18) rfl fun a hF => ?_
     refine stepT (i := 4) rfl hF (fun w hS => Y.load1 sz_44 hF rfl (hcell_18 _ hS.stab 0 _ rfl)) rfl fun a hF => ?_
     refine stepT (i := 5) rfl hF (fun w hS => Y.fieldAddr fo_61_0 hF rfl) rfl fun a hF => ?_
     refine stepT (i := 6) rfl hF (fun w hS => Y.load1L 2 sz_3 hF rfl hS rfl rfl) rfl fun a hF => ?_
     obtain ⟨e_9, hx_13, h⟩ := bind_some h
     obtain ⟨b_21, o_19, hE_19, hY_19⟩ := Y.indexS (P := Tryd.prog) (C := C_int) (xs := e_8) (T := 44) (x := (.tmp 98)) (y := (.tmp 100)) u_44 sz_3 hF rfl rfl (hs_13).1 hx_13
     obtain ⟨cc_19, hc_19, hcell_19⟩ := hE_19.open
     obtain rfl := hc_19
     refine stepT (i := 7) rfl hF (fun w hS => hY_19) rfl fun a hF => ?_
     refine stepT (i := 8) rfl hF (fun w hS => Y.load1 sz_3 hF rfl (hcell_19 _ hS.stab 0 _ rfl)) rfl fun a hF => ?_
     refine stepT (i := 9) rfl hF (fun w hS => Y.assign hF rfl) rfl fun a hF => ?_
     refine toTail ?_
     refine nil (then_n ?_)
     refine seq_cut (fun a w => ∃ (n : Int), Frm 122 [] [(1, .slice p_3 offsets.length c_4), (2, .pointer (some ⟨b, 0, none⟩)), (4, .bool v4_2), (5, .int .i64 v5_2), (9, .int .i64 i), (10, .pointer (some ⟨b_19, 0, none⟩)), (11, .int .i64 n)] a ∧ St w0 D0 Dv [(1, .cells b [.int .i64 c.Hours, .slice p c.Rates.length c_1, .slice p_1 c.Opens.length c_2, .slice p_2 c.Pairs.length c_3] 26), (2, .cells b_19 [.int .i64 e_7.Hour, .int .i64 e_7.One, .int .i64 e_7.Other, .int .i64 e_7.Read.Low, .int .i64 e_7.Read.High] 61)] w ∧ remontoirref02_IsTruth_k4 v4_2 v5_2 i e_7 n = some xo_2) ?_ ?_
     ·skip
      refine seq ?_
      refine region ?_
      refine step hF (Y.fieldAddr fo_61_2 hF rfl) rfl fun a hF => ?_
      refine step hF (Y.load1L 2 sz_3 hF rfl hS rfl rfl) rfl fun a hF => ?_
      refine step hF (Y.geq hF rfl rfl) rfl fun a hF => ?_
      refine nil (then_n ?_)
      refine cond_b hF rfl (fun hbv_10 => ?_) (fun hbv_10 => ?_)
      ·replace h := cond_t h hbv_10
       refine draws 12 [(0, true), (1, true), (2, true), (3, true), (4, true), (5, true), (6, true), (7, true), (8, true), (9, true), (10, true), (11, true)] mixed_ (by kernel_rfl) (fun w => St w0 D0 Dv _ w) hS.drew (fun _ _ _ _ h => h) ?_
       replace hS := hS.drew
       refine stepT (i := 0) rfl hF (fun w hS => Y.move hF rfl) rfl fun a hF => ?_
       refine stepT (i := 1) rfl hF (fun w hS => Y.move hF rfl) rfl fun a hF => ?_
       refine stepT (i := 2) rfl hF (fun w hS => Y.fieldAddr fo_61_2 hF rfl) rfl fun a hF => ?_
       refine stepT (i := 3) rfl hF (fun w hS => Y.load1L 2 sz_3 hF rfl hS rfl rfl) rfl fun a hF => ?_
       obtain ⟨e_10, hx_15, h⟩ := bind_some h
       obtain ⟨b_22, o_20, hE_20, hY_20⟩ := Y.indexS (P := Tryd.prog) (C := (C_sl C_int)) (xs := offsets) (T := 27) (x := (.tmp 107)) (y := (.tmp 109)) u_27 sz_44 hF rfl rfl (hs_3).1 hx_15
       obtain ⟨cc_20, hc_20, hcell_20⟩ := hE_20.open
       obtain ⟨p_14, c_15, rfl, hs_14⟩ := hc_20
       refine stepT (i := 4) rfl hF (fun w hS => hY_20) rfl fun a hF => ?_
       refine stepT (i := 5) rfl hF (fun w hS => Y.load1 sz_44 hF rfl (hcell_20 _ hS.stab 0 _ rfl)) rfl fun a hF => ?_
       refine stepT (i := 6) rfl hF (fun w hS => Y.fieldAddr fo_61_0 hF rfl) rfl fun a hF => ?_
       refine stepT (i := 7) rfl hF (fun w hS => Y.load1L 2 sz_3 hF rfl hS rfl rfl) rfl fun a hF => ?_
       obtain ⟨e_11, hx_16, h⟩ := bind_some h
       obtain ⟨b_23, o_21, hE_21, hY_21⟩ := Y.indexS (P := Tryd.prog) (C := C_int) (xs := e_10) (T := 44) (x := (.tmp 111)) (y := (.tmp 113)) u_44 sz_3 hF rfl rfl (hs_14).1 hx_16
       obtain ⟨cc_21, hc_21, hcell_21⟩ := hE_21.open
       obtain rfl := hc_21
       refine stepT (i := 8) rfl hF (fun w hS => hY_21) rfl fun a hF => ?_
       refine stepT (i := 9) rfl hF (fun w hS => Y.load1 sz_3 hF rfl (hcell_21 _ hS.stab 0 _ rfl)) rfl fun a hF => ?_
       refine stepT (i := 10) rfl hF (fun w hS => Y.sub hF rfl rfl) rfl fun a hF => ?_
       refine stepT (i := 11) rfl hF (fun w hS => Y.assign hF rfl) rfl fun a hF => ?_
       refine toTail ?_
       refine nil (then_n ?_)
       exact ⟨(wr (e_9 - e_11)), hF.weak ⟨rfl, rfl, rfl, rfl, rfl, rfl, rfl, trivial⟩, hS.weak ⟨rfl, rfl, trivial⟩, h⟩
      ·replace h := cond_f h hbv_10
       refine skip_ (then_n ?_)
       exact ⟨e_9, hF.weak ⟨rfl, rfl, rfl, rfl, rfl, rfl, rfl, trivial⟩, hS.weak ⟨rfl, rfl, trivial⟩, h⟩
     ·rintro a w ⟨n, hF, hS, h⟩
      unfold remontoirref02_IsTruth_k4 at h
      refine seq ?_
      refine region ?_
      refine step hF (Y.fieldAddr fo_61_3 hF rfl) rfl fun a hF => ?_
      refine step hF (Y.loadNL 2 sz_34 hF rfl hS rfl rfl rfl) rfl fun a hF => ?_
      refine step hF (Y.move hF rfl) rfl fun a hF => ?_
      obtain ⟨rv_4, hx_14, h⟩ := bind_some h
      refine O.callP (us := [.agg #[.int .i64 e_7.Read.Low, .int .i64 e_7.Read.High], .int .i64 n]) ca_35 hF hS (remontoirref00_Has_ok hS.stab e_7.Read n rv_4 hx_14) rfl rfl fun a w hF hS => ?_
      refine step hF (Y.not hF rfl) rfl fun a hF => ?_
      refine nil (then_n ?_)
      refine cond_b hF rfl (fun hbv_9 => ?_) (fun hbv_9 => ?_)
      ·replace h := cond_t h hbv_9
       refine seq ?_
       refine region ?_
       refine step hF (Y.assign hF rfl) rfl fun a hF => ?_
       refine step hF (Y.assign hF rfl) rfl fun a hF => ?_
       refine nil (then_n ?_)
       refine ret_ (blk_r (then_r (then_r (blk_r (then_r ?_)))))
       replace h := ext_some h hxo_2
       obtain rfl := some_inj h
       exact leaveP Tryd.results16 hF hS (.cons (.tmp rfl) (.cons (.tmp rfl) .nil)) .nil rfl
      ·replace h := cond_f h hbv_9
       refine skip_ (blk_n (then_n ?_))
       refine region ?_
       refine step hF (Y.move hF rfl) rfl fun a hF => ?_
       refine step hF (Y.add hF rfl rfl) rfl fun a hF => ?_
       refine step hF (Y.assign hF rfl) rfl fun a hF => ?_
       refine nil (then_n ?_)
       exact ⟨_, nxt_some h, v4_2, v5_2, (wr (i + 1)), rfl, hF.weak ⟨rfl, rfl, rfl, rfl, rfl, trivial⟩, hS.weak ⟨rfl, trivial⟩⟩
    ·replace h := cond_f h hbv_8
     refine exit_ (then_x (then_x (blk_hit (then_n ?_))))
     replace h := ext_some h hxo_2
     refine seq ?_
     refine region ?_
     refine step hF (Y.assign hF rfl) rfl fun a hF => ?_
     refine step hF (Y.assign hF rfl) rfl fun a hF => ?_
     refine nil (then_n ?_)
     refine ret_ ?_
     obtain rfl := some_inj h
     exact leaveP Tryd.results16 hF hS (.cons (.tmp rfl) (.cons (.tmp rfl) .nil)) .nil rfl

noncomputable def remontoirref02_most_b2 (c : BeatCellar) (av : Int) : (Int × (List (List Int))) → Option ((Int × (List (List Int))) ⊕ ((Int × (List (List Int))) ⊕ ((List (List Int)) × Bool)))
 | (b_2, mx_1) =>
  cond (decide (b_2 < (wr (1 + (wr ((c.Rates.length : Int) * (wr (c.Hours + 1))))))))
  (cond (av != b_2)
  (if (0 : Int) ≤ av ∧ av < (mx_1.length : Int) then
  if (0 : Int) ≤ b_2 ∧ b_2 < ((mx_1.getD (Int.toNat av) []).length : Int) then
  nxt (wr (b_2 + 1), (mx_1.set (Int.toNat av) ((mx_1.getD (Int.toNat av) []).set (Int.toNat b_2) 1099511627776)))
  else none
  else none)
  (nxt (wr (b_2 + 1), mx_1)))
  (ext (nxt (wr (av + 1), mx_1)))
noncomputable def remontoirref02_most_b4 (c : BeatCellar) (k : Int) : (Int × (List (List Int))) → Option ((Int × (List (List Int))) ⊕ ((Int × (List (List Int))) ⊕ ((List (List Int)) × Bool)))
 | (hv, mx_3) =>
  cond (decide (hv ≤ c.Hours))
  ((remontoirref02_place c k hv).bind fun rv =>
  if (0 : Int) ≤ rv ∧ rv < (mx_3.length : Int) then
  if (0 : Int) ≤ 0 ∧ 0 < (mx_3.length : Int) then
  if (0 : Int) ≤ 0 ∧ 0 < ((mx_3.getD (Int.toNat rv) []).length : Int) then
  if (0 : Int) ≤ rv ∧ rv < (((mx_3.set (Int.toNat rv) ((mx_3.getD (Int.toNat rv) []).set (Int.toNat 0) 100000)).getD (Int.toNat 0) []).length : Int) then
  cond (decide (hv > 0))
  ((remontoirref02_grows c k (wr (hv - 1))).bind fun rv_1 =>
  (remontoirref02_place c k (wr (hv - 1))).bind fun rv_2 =>
  if (0 : Int) ≤ rv ∧ rv < (((mx_3.set (Int.toNat rv) ((mx_3.getD (Int.toNat rv) []).set (Int.toNat 0) 100000)).set (Int.toNat 0) (((mx_3.set (Int.toNat rv) ((mx_3.getD (Int.toNat rv) []).set (Int.toNat 0) 100000)).getD (Int.toNat 0) []).set (Int.toNat rv) 100000)).length : Int) then
  if (0 : Int) ≤ rv_2 ∧ rv_2 < (((mx_3.set (Int.toNat rv) ((mx_3.getD (Int.toNat rv) []).set (Int.toNat 0) 100000)).set (Int.toNat 0) (((mx_3.set (Int.toNat rv) ((mx_3.getD (Int.toNat rv) []).set (Int.toNat 0) 100000)).getD (Int.toNat 0) []).set (Int.toNat rv) 100000)).length : Int) then
  if (0 : Int) ≤ rv_2 ∧ rv_2 < ((((mx_3.set (Int.toNat rv) ((mx_3.getD (Int.toNat rv) []).set (Int.toNat 0) 100000)).set (Int.toNat 0) (((mx_3.set (Int.toNat rv) ((mx_3.getD (Int.toNat rv) []).set (Int.toNat 0) 100000)).getD (Int.toNat 0) []).set (Int.toNat rv) 100000)).getD (Int.toNat rv) []).length : Int) then
  if (0 : Int) ≤ rv ∧ rv < (((((mx_3.set (Int.toNat rv) ((mx_3.getD (Int.toNat rv) []).set (Int.toNat 0) 100000)).set (Int.toNat 0) (((mx_3.set (Int.toNat rv) ((mx_3.getD (Int.toNat rv) []).set (Int.toNat 0) 100000)).getD (Int.toNat 0) []).set (Int.toNat rv) 100000)).set (Int.toNat rv) ((((mx_3.set (Int.toNat rv) ((mx_3.getD (Int.toNat rv) []).set (Int.toNat 0) 100000)).set (Int.toNat 0) (((mx_3.set (Int.toNat rv) ((mx_3.getD (Int.toNat rv) []).set (Int.toNat 0) 100000)).getD (Int.toNat 0) []).set (Int.toNat rv) 100000)).getD (Int.toNat rv) []).set (Int.toNat rv_2) rv_1.High)).getD (Int.toNat rv_2) []).length : Int) then
  nxt (wr (hv + 1), ((((mx_3.set (Int.toNat rv) ((mx_3.getD (Int.toNat rv) []).set (Int.toNat 0) 100000)).set (Int.toNat 0) (((mx_3.set (Int.toNat rv) ((mx_3.getD (Int.toNat rv) []).set (Int.toNat 0) 100000)).getD (Int.toNat 0) []).set (Int.toNat rv) 100000)).set (Int.toNat rv) ((((mx_3.set (Int.toNat rv) ((mx_3.getD (Int.toNat rv) []).set (Int.toNat 0) 100000)).set (Int.toNat 0) (((mx_3.set (Int.toNat rv) ((mx_3.getD (Int.toNat rv) []).set (Int.toNat 0) 100000)).getD (Int.toNat 0) []).set (Int.toNat rv) 100000)).getD (Int.toNat rv) []).set (Int.toNat rv_2) rv_1.High)).set (Int.toNat rv_2) (((((mx_3.set (Int.toNat rv) ((mx_3.getD (Int.toNat rv) []).set (Int.toNat 0) 100000)).set (Int.toNat 0) (((mx_3.set (Int.toNat rv) ((mx_3.getD (Int.toNat rv) []).set (Int.toNat 0) 100000)).getD (Int.toNat 0) []).set (Int.toNat rv) 100000)).set (Int.toNat rv) ((((mx_3.set (Int.toNat rv) ((mx_3.getD (Int.toNat rv) []).set (Int.toNat 0) 100000)).set (Int.toNat 0) (((mx_3.set (Int.toNat rv) ((mx_3.getD (Int.toNat rv) []).set (Int.toNat 0) 100000)).getD (Int.toNat 0) []).set (Int.toNat rv) 100000)).getD (Int.toNat rv) []).set (Int.toNat rv_2) rv_1.High)).getD (Int.toNat rv_2) []).set (Int.toNat rv) (wr (0 - rv_1.Low)))))
  else none
  else none
  else none
  else none)
  (nxt (wr (hv + 1), ((mx_3.set (Int.toNat rv) ((mx_3.getD (Int.toNat rv) []).set (Int.toNat 0) 100000)).set (Int.toNat 0) (((mx_3.set (Int.toNat rv) ((mx_3.getD (Int.toNat rv) []).set (Int.toNat 0) 100000)).getD (Int.toNat 0) []).set (Int.toNat rv) 100000))))
  else none
  else none
  else none
  else none)
  (ext (nxt (wr (k + 1), mx_3)))
noncomputable def remontoirref02_most_k6 (i : Int) (mx_5 : (List (List Int))) : Option ((Int × (List (List Int))) ⊕ ((List (List Int)) × Bool)) :=
  nxt (wr (i + 1), mx_5)
noncomputable def remontoirref02_most_b9 (c : BeatCellar) (byv : Int) (av_1 : Int) : (Int × (List (List Int))) → Option ((Int × (List (List Int))) ⊕ ((Int × (List (List Int))) ⊕ ((Int × (List (List Int))) ⊕ ((List (List Int)) × Bool))))
 | (b_9, mx_8) =>
  cond (decide (b_9 < (wr (1 + (wr ((c.Rates.length : Int) * (wr (c.Hours + 1))))))))
  (if (0 : Int) ≤ av_1 ∧ av_1 < (mx_8.length : Int) then
  if (0 : Int) ≤ av_1 ∧ av_1 < (mx_8.length : Int) then
  if (0 : Int) ≤ b_9 ∧ b_9 < ((mx_8.getD (Int.toNat av_1) []).length : Int) then
  if (0 : Int) ≤ av_1 ∧ av_1 < (mx_8.length : Int) then
  if (0 : Int) ≤ byv ∧ byv < ((mx_8.getD (Int.toNat av_1) []).length : Int) then
  if (0 : Int) ≤ byv ∧ byv < (mx_8.length : Int) then
  if (0 : Int) ≤ b_9 ∧ b_9 < ((mx_8.getD (Int.toNat byv) []).length : Int) then
  if (0 : Int) ≤ b_9 ∧ b_9 < ((mx_8.getD (Int.toNat av_1) []).length : Int) then
  nxt (wr (b_9 + 1), (mx_8.set (Int.toNat av_1) ((mx_8.getD (Int.toNat av_1) []).set (Int.toNat b_9) (if wr (((mx_8.getD (Int.toNat av_1) []).getD (Int.toNat byv) (0 : Int)) + ((mx_8.getD (Int.toNat byv) []).getD (Int.toNat b_9) (0 : Int))) < ((mx_8.getD (Int.toNat av_1) []).getD (Int.toNat b_9) (0 : Int)) then wr (((mx_8.getD (Int.toNat av_1) []).getD (Int.toNat byv) (0 : Int)) + ((mx_8.getD (Int.toNat byv) []).getD (Int.toNat b_9) (0 : Int))) else ((mx_8.getD (Int.toNat av_1) []).getD (Int.toNat b_9) (0 : Int))))))
  else none
  else none
  else none
  else none
  else none
  else none
  else none
  else none)
  (ext (nxt (wr (av_1 + 1), mx_8)))
noncomputable def remontoirref02_most_b8 (c : BeatCellar) (byv : Int) : (Int × (List (List Int))) → Option ((Int × (List (List Int))) ⊕ ((Int × (List (List Int))) ⊕ ((List (List Int)) × Bool)))
 | (av_1, mx_7) =>
  cond (decide (av_1 < (wr (1 + (wr ((c.Rates.length : Int) * (wr (c.Hours + 1))))))))
  (loopU (remontoirref02_most_b9 c byv av_1) (0, mx_7))
  (ext (nxt (wr (byv + 1), mx_7)))
noncomputable def remontoirref02_most_b10 (c : BeatCellar) (mx_6 : (List (List Int))) : ((List (List Int)) × Bool × Int) → Option (((List (List Int)) × Bool × Int) ⊕ ((List (List Int)) × Bool))
 | (v4_0, v5_0, av_2) =>
  cond (decide (av_2 < (wr (1 + (wr ((c.Rates.length : Int) * (wr (c.Hours + 1))))))))
  (if (0 : Int) ≤ av_2 ∧ av_2 < (mx_6.length : Int) then
  if (0 : Int) ≤ av_2 ∧ av_2 < ((mx_6.getD (Int.toNat av_2) []).length : Int) then
  cond (decide (((mx_6.getD (Int.toNat av_2) []).getD (Int.toNat av_2) (0 : Int)) < 0))
  (ext (some (([] : List (List Int)), false)))
  (nxt (v4_0, v5_0, wr (av_2 + 1)))
  else none
  else none)
  (ext (some (mx_6, true)))
noncomputable def remontoirref02_most_b7 (c : BeatCellar) : (Int × (List (List Int))) → Option ((Int × (List (List Int))) ⊕ ((List (List Int)) × Bool))
 | (byv, mx_6) =>
  cond (decide (byv < (wr (1 + (wr ((c.Rates.length : Int) * (wr (c.Hours + 1))))))))
  (loopU (remontoirref02_most_b8 c byv) (0, mx_6))
  (ext (loopU (remontoirref02_most_b10 c mx_6) (([] : List (List Int)), false, 0)))
noncomputable def remontoirref02_most_b5 (c : BeatCellar) (wrong : Int) : (Int × (List (List Int))) → Option ((Int × (List (List Int))) ⊕ ((List (List Int)) × Bool))
 | (i, mx_4) =>
  cond (decide (i < (c.Pairs.length : Int)))
  ((idx c.Pairs i).bind fun e =>
  (remontoirref00_In wrong e.One).bind fun rv_3 =>
  (cond rv_3 (some true) ((cond (decide (e.Other ≥ 0)) ((remontoirref00_In wrong e.Other).bind fun rv_4 =>
  some rv_4) (some false)).bind fun t =>
  some t)).bind fun t_1 =>
  cond t_1
  (remontoirref02_most_k6 i mx_4)
  ((remontoirref02_place c e.One e.Hour).bind fun rv_5 =>
  (remontoirref02_place c e.Other e.Hour).bind fun rv_6 =>
  if (0 : Int) ≤ rv_5 ∧ rv_5 < (mx_4.length : Int) then
  if (0 : Int) ≤ rv_5 ∧ rv_5 < (mx_4.length : Int) then
  if (0 : Int) ≤ rv_6 ∧ rv_6 < ((mx_4.getD (Int.toNat rv_5) []).length : Int) then
  if (0 : Int) ≤ rv_6 ∧ rv_6 < ((mx_4.getD (Int.toNat rv_5) []).length : Int) then
  if (0 : Int) ≤ rv_6 ∧ rv_6 < ((mx_4.set (Int.toNat rv_5) ((mx_4.getD (Int.toNat rv_5) []).set (Int.toNat rv_6) (if e.Read.High < ((mx_4.getD (Int.toNat rv_5) []).getD (Int.toNat rv_6) (0 : Int)) then e.Read.High else ((mx_4.getD (Int.toNat rv_5) []).getD (Int.toNat rv_6) (0 : Int))))).length : Int) then
  if (0 : Int) ≤ rv_6 ∧ rv_6 < ((mx_4.set (Int.toNat rv_5) ((mx_4.getD (Int.toNat rv_5) []).set (Int.toNat rv_6) (if e.Read.High < ((mx_4.getD (Int.toNat rv_5) []).getD (Int.toNat rv_6) (0 : Int)) then e.Read.High else ((mx_4.getD (Int.toNat rv_5) []).getD (Int.toNat rv_6) (0 : Int))))).length : Int) then
  if (0 : Int) ≤ rv_5 ∧ rv_5 < (((mx_4.set (Int.toNat rv_5) ((mx_4.getD (Int.toNat rv_5) []).set (Int.toNat rv_6) (if e.Read.High < ((mx_4.getD (Int.toNat rv_5) []).getD (Int.toNat rv_6) (0 : Int)) then e.Read.High else ((mx_4.getD (Int.toNat rv_5) []).getD (Int.toNat rv_6) (0 : Int))))).getD (Int.toNat rv_6) []).length : Int) then
  if (0 : Int) ≤ rv_5 ∧ rv_5 < (((mx_4.set (Int.toNat rv_5) ((mx_4.getD (Int.toNat rv_5) []).set (Int.toNat rv_6) (if e.Read.High < ((mx_4.getD (Int.toNat rv_5) []).getD (Int.toNat rv_6) (0 : Int)) then e.Read.High else ((mx_4.getD (Int.toNat rv_5) []).getD (Int.toNat rv_6) (0 : Int))))).getD (Int.toNat rv_6) []).length : Int) then
  remontoirref02_most_k6 i ((mx_4.set (Int.toNat rv_5) ((mx_4.getD (Int.toNat rv_5) []).set (Int.toNat rv_6) (if e.Read.High < ((mx_4.getD (Int.toNat rv_5) []).getD (Int.toNat rv_6) (0 : Int)) then e.Read.High else ((mx_4.getD (Int.toNat rv_5) []).getD (Int.toNat rv_6) (0 : Int))))).set (Int.toNat rv_6) (((mx_4.set (Int.toNat rv_5) ((mx_4.getD (Int.toNat rv_5) []).set (Int.toNat rv_6) (if e.Read.High < ((mx_4.getD (Int.toNat rv_5) []).getD (Int.toNat rv_6) (0 : Int)) then e.Read.High else ((mx_4.getD (Int.toNat rv_5) []).getD (Int.toNat rv_6) (0 : Int))))).getD (Int.toNat rv_6) []).set (Int.toNat rv_5) (if wr (0 - e.Read.Low) < (((mx_4.set (Int.toNat rv_5) ((mx_4.getD (Int.toNat rv_5) []).set (Int.toNat rv_6) (if e.Read.High < ((mx_4.getD (Int.toNat rv_5) []).getD (Int.toNat rv_6) (0 : Int)) then e.Read.High else ((mx_4.getD (Int.toNat rv_5) []).getD (Int.toNat rv_6) (0 : Int))))).getD (Int.toNat rv_6) []).getD (Int.toNat rv_5) (0 : Int)) then wr (0 - e.Read.Low) else (((mx_4.set (Int.toNat rv_5) ((mx_4.getD (Int.toNat rv_5) []).set (Int.toNat rv_6) (if e.Read.High < ((mx_4.getD (Int.toNat rv_5) []).getD (Int.toNat rv_6) (0 : Int)) then e.Read.High else ((mx_4.getD (Int.toNat rv_5) []).getD (Int.toNat rv_6) (0 : Int))))).getD (Int.toNat rv_6) []).getD (Int.toNat rv_5) (0 : Int)))))
  else none
  else none
  else none
  else none
  else none
  else none
  else none
  else none))
  (ext (loopU (remontoirref02_most_b7 c) (0, mx_4)))
noncomputable def remontoirref02_most_b3 (c : BeatCellar) (wrong : Int) : (Int × (List (List Int))) → Option ((Int × (List (List Int))) ⊕ ((List (List Int)) × Bool))
 | (k, mx_2) =>
  cond (decide (k < (c.Rates.length : Int)))
  (loopU (remontoirref02_most_b4 c k) (0, mx_2))
  (ext (loopU (remontoirref02_most_b5 c wrong) (0, mx_2)))
noncomputable def remontoirref02_most_b1 (c : BeatCellar) (wrong : Int) : (Int × (List (List Int))) → Option ((Int × (List (List Int))) ⊕ ((List (List Int)) × Bool))
 | (av, mx) =>
  cond (decide (av < (wr (1 + (wr ((c.Rates.length : Int) * (wr (c.Hours + 1))))))))
  (if (0 : Int) ≤ (wr (1 + (wr ((c.Rates.length : Int) * (wr (c.Hours + 1)))))) ∧ (wr (1 + (wr ((c.Rates.length : Int) * (wr (c.Hours + 1)))))) ≤ (mlim : Int) then
  if (0 : Int) ≤ av ∧ av < (mx.length : Int) then
  loopU (remontoirref02_most_b2 c av) (0, (mx.set (Int.toNat av) (List.replicate (Int.toNat (wr (1 + (wr ((c.Rates.length : Int) * (wr (c.Hours + 1))))))) (0 : Int))))
  else none
  else none)
  (ext (loopU (remontoirref02_most_b3 c wrong) (0, mx)))
noncomputable def remontoirref02_most (c : BeatCellar) (wrong : Int) : Option ((List (List Int)) × Bool) :=
  if (0 : Int) ≤ (wr (1 + (wr ((c.Rates.length : Int) * (wr (c.Hours + 1)))))) ∧ (wr (1 + (wr ((c.Rates.length : Int) * (wr (c.Hours + 1)))))) ≤ (mlim : Int) then
  loopU (remontoirref02_most_b1 c wrong) (0, (List.replicate (Int.toNat (wr (1 + (wr ((c.Rates.length : Int) * (wr (c.Hours + 1))))))) ([] : List Int)))
  else none
theorem remontoirref02_most_ok {w0 : World} {D0 : Stab} (hD : D0.on w0) (c : BeatCellar) (wrong : Int) {p : Option Addr} {c_1 : Nat} {p_1 : Option Addr} {c_2 : Nat} {p_2 : Option Addr} {c_3 : Nat} (hs : SRc C_Span D0 c.Rates p c_1) (hs_1 : SRc C_BeatOpen D0 c.Opens p_1 c_2) (hs_2 : SRc C_BeatPair D0 c.Pairs p_2 c_3) (out : ((List (List Int)) × Bool)) (h : remontoirref02_most c wrong = some out) : Calls Tryd.prog 63 [.agg #[.int .i64 c.Hours, .slice p c.Rates.length c_1, .slice p_1 c.Opens.length c_2, .slice p_2 c.Pairs.length c_3], .int .i64 wrong].toArray w0 (RetS D0 w0 fun D v => ∃ p_5 c_5, v = .tuple #[.slice p_5 out.1.length c_5, .bool out.2] ∧ SRc (C_sl C_int) D out.1 p_5 c_5) := by
 refine enter _ 245 Tryd.func63 rfl Tryd.ntmps63 rfl fun a hF => ?_
 replace hF : Frm 245 [] [(0, .agg #[.int .i64 c.Hours, .slice p c.Rates.length c_1, .slice p_1 c.Opens.length c_2, .slice p_2 c.Pairs.length c_3]), (1, .int .i64 wrong)] a := hF
 have hS := St.start hD
 unfold remontoirref02_most at h
 refine seq ?_
 refine region ?_
 refine O.box (cs := [.int .i64 c.Hours, .slice p c.Rates.length c_1, .slice p_1 c.Opens.length c_2, .slice p_2 c.Pairs.length c_3]) 1 hF rfl rfl hS rfl fun b a w hF hS => ?_
 refine step hF (Y.assign hF rfl) rfl fun a hF => ?_
 refine step hF (Y.assign hF rfl) rfl fun a hF => ?_
 refine nil (then_n ?_)
 refine seq ?_
 refine region ?_
 refine step hF (Y.fieldAddr fo_26_1 hF rfl) rfl fun a hF => ?_
 refine step hF (Y.load1L 1 sz_22 hF rfl hS rfl rfl) rfl fun a hF => ?_
 refine step hF (Y.lenSl u_22 hF rfl) rfl fun a hF => ?_
 refine step hF (Y.fieldAddr fo_26_0 hF rfl) rfl fun a hF => ?_
 refine step hF (Y.load1L 1 sz_3 hF rfl hS rfl rfl) rfl fun a hF => ?_
 refine step hF (Y.add hF rfl rfl) rfl fun a hF => ?_
 refine step hF (Y.mul hF rfl rfl) rfl fun a hF => ?_
 refine step hF (Y.add hF rfl rfl) rfl fun a hF => ?_
 refine step hF (Y.assign hF rfl) rfl fun a hF => ?_
 refine nil (then_n ?_)
 refine seq ?_
 refine region ?_
 refine step hF (Y.move hF rfl) rfl fun a hF => ?_
 obtain ⟨hg, h⟩ := ite_some h
 refine O.makeMat (α := Int) (C := C_int) (Ei := 3) 2 gr_27 zc_44 hF rfl rfl hS hg rfl fun b_1 rows a w hF hS hM => ?_
 refine step hF (Y.assign hF rfl) rfl fun a hF => ?_
 refine nil (then_n ?_)
 refine seq ?_
 refine seq ?_
 refine region ?_
 refine step hF (Y.assign hF rfl) rfl fun a hF => ?_
 refine nil (then_n ?_)
 refine block ?_
 refine loop_cut (body := remontoirref02_most_b1 c wrong) (out := out) (fun s a w => ∃ (av : Int) (mx : (List (List Int))), ∃ rows_1, s = (av, mx) ∧ Frm 245 [] [(1, .int .i64 wrong), (2, .pointer (some ⟨b, 0, none⟩)), (4, .slice none 0 0), (5, .bool false), (6, .int .i64 (wr (1 + (wr ((c.Rates.length : Int) * (wr (c.Hours + 1))))))), (7, .slice (some ⟨b_1, 0, none⟩) (List.replicate (Int.toNat (wr (1 + (wr ((c.Rates.length : Int) * (wr (c.Hours + 1))))))) ([] : List Int)).length (List.replicate (Int.toNat (wr (1 + (wr ((c.Rates.length : Int) * (wr (c.Hours + 1))))))) ([] : List Int)).length), (8, .int .i64 av)] a ∧ St w0 D0 D0 [(1, .cells b [.int .i64 c.Hours, .slice p c.Rates.length c_1, .slice p_1 c.Opens.length c_2, .slice p_2 c.Pairs.length c_3] 26), (2, .mat b_1 rows_1 44 3)] w ∧ RepM C_int D0 mx rows_1 ∧ mx.length = (List.replicate (Int.toNat (wr (1 + (wr ((c.Rates.length : Int) * (wr (c.Hours + 1))))))) ([] : List Int)).length) (0, (List.replicate (Int.toNat (wr (1 + (wr ((c.Rates.length : Int) * (wr (c.Hours + 1))))))) ([] : List Int))) h ⟨0, (List.replicate (Int.toNat (wr (1 + (wr ((c.Rates.length : Int) * (wr (c.Hours + 1))))))) ([] : List Int)), rows, rfl, hF.weak ⟨rfl, rfl, rfl, rfl, rfl, rfl, rfl, trivial⟩, hS.weak ⟨rfl, rfl, trivial⟩, hM, rfl⟩ ?_
 rintro s a w xo ⟨av, mx, rows_1, rfl, hF, hS, hM_1, hlm⟩ h hxo
 unfold remontoirref02_most_b1 at h
 dsimp only at h
 refine seq ?_
 refine seq ?_
 refine region ?_
 refine step hF (Y.move hF rfl) rfl fun a hF => ?_
 refine step hF (Y.move hF rfl) rfl fun a hF => ?_
 refine step hF (Y.lss hF rfl rfl) rfl fun a hF => ?_
 refine nil (then_n ?_)
 refine cond_b hF rfl (fun hbv => ?_) (fun hbv => ?_)
 ·replace h := cond_t h hbv
  refine skip_ (then_n ?_)
  refine seq ?_
  refine block ?_
  refine seq ?_
  refine region ?_
  refine step hF (Y.move hF rfl) rfl fun a hF => ?_
  refine step hF (Y.move hF rfl) rfl fun a hF => ?_
  refine step hF (Y.move hF rfl) rfl fun a hF => ?_
  obtain ⟨hg_1, h⟩ := ite_some h
  refine O.makeRow (C := C_int) (0 : Int) 3 gr_44 zc_3 rfl hF rfl rfl hS hg_1 rfl fun p_3 cs a w hF hS hr => ?_
  obtain ⟨hg_2, h⟩ := ite_some h
  refine step hF (Y.indexSl u_27 sz_44 hF rfl rfl hg_2.1 (by rw [← hlm]; exact hg_2.2)) rfl fun a hF => ?_
  refine O.setRow (C := C_int) 2 3 (by decide) sz_44 hg_2 hF rfl rfl hS rfl rfl hM_1 hr fun rows_2 a w hF hS hM_2 => ?_
  have hlm_1 : (mx.set (Int.toNat av) (List.replicate (Int.toNat (wr (1 + (wr ((c.Rates.length : Int) * (wr (c.Hours + 1))))))) (0 : Int))).length = (List.replicate (Int.toNat (wr (1 + (wr ((c.Rates.length : Int) * (wr (c.Hours + 1))))))) ([] : List Int)).length := by simpa only [List.length_set] using hlm
  refine nil (then_n ?_)
  refine seq ?_
  refine region ?_
  refine step hF (Y.assign hF rfl) rfl fun a hF => ?_
  refine nil (then_n ?_)
  refine block ?_
  refine loop_cut (body := remontoirref02_most_b2 c av) (out := xo) (fun s a w => ∃ (b_2 : Int) (mx_1 : (List (List Int))), ∃ rows_3, s = (b_2, mx_1) ∧ Frm 245 [] [(1, .int .i64 wrong), (2, .pointer (some ⟨b, 0, none⟩)), (4, .slice none 0 0), (5, .bool false), (6, .int .i64 (wr (1 + (wr ((c.Rates.length : Int) * (wr (c.Hours + 1))))))), (7, .slice (some ⟨b_1, 0, none⟩) (List.replicate (Int.toNat (wr (1 + (wr ((c.Rates.length : Int) * (wr (c.Hours + 1))))))) ([] : List Int)).length (List.replicate (Int.toNat (wr (1 + (wr ((c.Rates.length : Int) * (wr (c.Hours + 1))))))) ([] : List Int)).length), (8, .int .i64 av), (9, .int .i64 b_2)] a ∧ St w0 D0 D0 [(1, .cells b [.int .i64 c.Hours, .slice p c.Rates.length c_1, .slice p_1 c.Opens.length c_2, .slice p_2 c.Pairs.length c_3] 26), (2, .mat b_1 rows_3 44 3)] w ∧ RepM C_int D0 mx_1 rows_3 ∧ mx_1.length = (List.replicate (Int.toNat (wr (1 + (wr ((c.Rates.length : Int) * (wr (c.Hours + 1))))))) ([] : List Int)).length) (0, (mx.set (Int.toNat av) (List.replicate (Int.toNat (wr (1 + (wr ((c.Rates.length : Int) * (wr (c.Hours + 1))))))) (0 : Int)))) h ⟨0, (mx.set (Int.toNat av) (List.replicate (Int.toNat (wr (1 + (wr ((c.Rates.length : Int) * (wr (c.Hours + 1))))))) (0 : Int))), rows_2, rfl, hF.weak ⟨rfl, rfl, rfl, rfl, rfl, rfl, rfl, rfl, trivial⟩, hS.weak ⟨rfl, rfl, trivial⟩, hM_2, hlm_1⟩ ?_
  rintro s a w xo_1 ⟨b_2, mx_1, rows_3, rfl, hF, hS, hM_3, hlm_2⟩ h hxo_1
  unfold remontoirref02_most_b2 at h
  dsimp only at h
  refine seq ?_
  refine seq ?_
  refine region ?_
  refine step hF (Y.move hF rfl) rfl fun a hF => ?_
  refine step hF (Y.move hF rfl) rfl fun a hF => ?_
  refine step hF (Y.lss hF rfl rfl) rfl fun a hF => ?_
  refine nil (then_n ?_)
  refine cond_b hF rfl (fun hbv_1 => ?_) (fun hbv_1 => ?_)
  ·replace h := cond_t h hbv_1
   refine skip_ (then_n ?_)
   refine seq ?_
   refine block ?_
   refine seq ?_
   refine region ?_
   refine step hF (Y.move hF rfl) rfl fun a hF => ?_
   refine step hF (Y.move hF rfl) rfl fun a hF => ?_
   refine step hF (Y.neq hF rfl rfl) rfl fun a hF => ?_
   refine nil (then_n ?_)
   refine cond_b hF rfl (fun hbv_2 => ?_) (fun hbv_2 => ?_)
   ·replace h := cond_t h hbv_2
    refine region ?_
    refine step hF (Y.move hF rfl) rfl fun a hF => ?_
    refine step hF (Y.move hF rfl) rfl fun a hF => ?_
    obtain ⟨hg_3, h⟩ := ite_some h
    refine step hF (Y.indexSl u_27 sz_44 hF rfl rfl hg_3.1 (by rw [← hlm_2]; exact hg_3.2)) rfl fun a hF => ?_
    refine step hF (Y.loadRow 2 sz_44 (RepM.guardI hM_3 hg_3) hF rfl hS rfl) rfl fun a hF => ?_
    refine step hF (Y.move hF rfl) rfl fun a hF => ?_
    obtain ⟨hg_4, h⟩ := ite_some h
    obtain ⟨bk, hk⟩ := hS.rowBlk 2 rfl (RepM.guardI hM_3 hg_3) (RepM.guard hM_3 hg_3 hg_4)
    obtain ⟨cc, hc, hcell⟩ := RepM.el (0 : Int) hM_3 hg_3 hg_4 hk
    obtain rfl := hc
    refine step hF (Y.indexRow u_44 sz_3 hk (RepM.guard hM_3 hg_3 hg_4) hF rfl rfl) rfl fun a hF => ?_
    refine O.storeEl (C := C_int) (us := [.int .i64 1099511627776]) (v0 := 1099511627776) 2 sz_3 hg_3 hg_4 hk hF rfl rfl rfl rfl hS rfl hM_3 fun rows_4 a w hF hS hbl hM_4 => ?_
    have hlm_3 : (mx_1.set (Int.toNat av) ((mx_1.getD (Int.toNat av) []).set (Int.toNat b_2) 1099511627776)).length = (List.replicate (Int.toNat (wr (1 + (wr ((c.Rates.length : Int) * (wr (c.Hours + 1))))))) ([] : List Int)).length := by simpa only [List.length_set] using hlm_2
    refine nil (blk_n (then_n ?_))
    refine region ?_
    refine step hF (Y.move hF rfl) rfl fun a hF => ?_
    refine step hF (Y.add hF rfl rfl) rfl fun a hF => ?_
    refine step hF (Y.assign hF rfl) rfl fun a hF => ?_
    refine nil (then_n ?_)
    exact ⟨_, nxt_some h, (wr (b_2 + 1)), (mx_1.set (Int.toNat av) ((mx_1.getD (Int.toNat av) []).set (Int.toNat b_2) 1099511627776)), rows_4, rfl, hF.weak ⟨rfl, rfl, rfl, rfl, rfl, rfl, rfl, rfl, trivial⟩, hS.weak ⟨rfl, rfl, trivial⟩, hM_4, hlm_3⟩
   ·replace h := cond_f h hbv_2
    refine skip_ (blk_n (then_n ?_))
    refine region ?_
    refine step hF (Y.move hF rfl) rfl fun a hF => ?_
    refine step hF (Y.add hF rfl rfl) rfl fun a hF => ?_
    refine step hF (Y.assign hF rfl) rfl fun a hF => ?_
    refine nil (then_n ?_)
    exact ⟨_, nxt_some h, (wr (b_2 + 1)), mx_1, rows_3, rfl, hF.weak ⟨rfl, rfl, rfl, rfl, rfl, rfl, rfl, rfl, trivial⟩, hS.weak ⟨rfl, rfl, trivial⟩, hM_3, hlm_2⟩
  ·replace h := cond_f h hbv_1
   refine exit_ (then_x (then_x (blk_hit (blk_n (then_n ?_)))))
   replace h := ext_some h hxo_1
   refine region ?_
   refine step hF (Y.move hF rfl) rfl fun a hF => ?_
   refine step hF (Y.add hF rfl rfl) rfl fun a hF => ?_
   refine step hF (Y.assign hF rfl) rfl fun a hF => ?_
   refine nil (then_n ?_)
   exact ⟨_, nxt_some h, (wr (av + 1)), mx_1, rows_3, rfl, hF.weak ⟨rfl, rfl, rfl, rfl, rfl, rfl, rfl, trivial⟩, hS.weak ⟨rfl, rfl, trivial⟩, hM_3, hlm_2⟩
 ·replace h := cond_f h hbv
  refine exit_ (then_x (then_x (blk_hit (then_n ?_))))
  replace h := ext_some h hxo
  refine seq ?_
  refine seq ?_
  refine region ?_
  refine step hF (Y.assign hF rfl) rfl fun a hF => ?_
  refine nil (then_n ?_)
  refine block ?_
  refine loop_cut (body := remontoirref02_most_b3 c wrong) (out := out) (fun s a w => ∃ (k : Int) (mx_2 : (List (List Int))), ∃ (Dv : Stab), ∃ rows_5, s = (k, mx_2) ∧ D0.le Dv ∧ Frm 245 [] [(1, .int .i64 wrong), (2, .pointer (some ⟨b, 0, none⟩)), (4, .slice none 0 0), (5, .bool false), (6, .int .i64 (wr (1 + (wr ((c.Rates.length : Int) * (wr (c.Hours + 1))))))), (7, .slice (some ⟨b_1, 0, none⟩) (List.replicate (Int.toNat (wr (1 + (wr ((c.Rates.length : Int) * (wr (c.Hours + 1))))))) ([] : List Int)).length (List.replicate (Int.toNat (wr (1 + (wr ((c.Rates.length : Int) * (wr (c.Hours + 1))))))) ([] : List Int)).length), (10, .int .i64 k)] a ∧ St w0 D0 Dv [(1, .cells b [.int .i64 c.Hours, .slice p c.Rates.length c_1, .slice p_1 c.Opens.length c_2, .slice p_2 c.Pairs.length c_3] 26), (2, .mat b_1 rows_5 44 3)] w ∧ RepM C_int Dv mx_2 rows_5 ∧ mx_2.length = (List.replicate (Int.toNat (wr (1 + (wr ((c.Rates.length : Int) * (wr (c.Hours + 1))))))) ([] : List Int)).length) (0, mx) h ⟨0, mx, D0, rows_1, rfl, Stab.le.refl _, hF.weak ⟨rfl, rfl, rfl, rfl, rfl, rfl, rfl, trivial⟩, hS.weak ⟨rfl, rfl, trivial⟩, hM_1, hlm⟩ ?_
  rintro s a w xo_2 ⟨k, mx_2, Dv, rows_5, rfl, hlev, hF, hS, hM_5, hlm_4⟩ h hxo_2
  unfold remontoirref02_most_b3 at h
  dsimp only at h
  replace hs := hs.mono hlev
  replace hs_1 := hs_1.mono hlev
  replace hs_2 := hs_2.mono hlev
  replace hM := hM.mono hlev
  replace hM_1 := hM_1.mono hlev
  refine seq ?_
  refine seq ?_
  refine region ?_
  refine step hF (Y.move hF rfl) rfl fun a hF => ?_
  refine step hF (Y.fieldAddr fo_26_1 hF rfl) rfl fun a hF => ?_
  refine step hF (Y.load1L 1 sz_22 hF rfl hS rfl rfl) rfl fun a hF => ?_
  refine step hF (Y.lenSl u_22 hF rfl) rfl fun a hF => ?_
  refine step hF (Y.lss hF rfl rfl) rfl fun a hF => ?_
  refine nil (then_n ?_)
  refine cond_b hF rfl (fun hbv_3 => ?_) (fun hbv_3 => ?_)
  ·replace h := cond_t h hbv_3
   refine skip_ (then_n ?_)
   refine seq ?_
   refine block ?_
   refine seq ?_
   refine region ?_
   refine step hF (Y.assign hF rfl) rfl fun a hF => ?_
   refine nil (then_n ?_)
   refine block ?_
   refine loop_cut (body := remontoirref02_most_b4 c k) (out := xo_2) (fun s a w => ∃ (hv : Int) (mx_3 : (List (List Int))), ∃ (Dv_1 : Stab), ∃ rows_6, s = (hv, mx_3) ∧ Dv.le Dv_1 ∧ Frm 245 [] [(1, .int .i64 wrong), (2, .pointer (some ⟨b, 0, none⟩)), (4, .slice none 0 0), (5, .bool false), (6, .int .i64 (wr (1 + (wr ((c.Rates.length : Int) * (wr (c.Hours + 1))))))), (7, .slice (some ⟨b_1, 0, none⟩) (List.replicate (Int.toNat (wr (1 + (wr ((c.Rates.length : Int) * (wr (c.Hours + 1))))))) ([] : List Int)).length (List.replicate (Int.toNat (wr (1 + (wr ((c.Rates.length : Int) * (wr (c.Hours + 1))))))) ([] : List Int)).length), (10, .int .i64 k), (11, .int .i64 hv)] a ∧ St w0 D0 Dv_1 [(1, .cells b [.int .i64 c.Hours, .slice p c.Rates.length c_1, .slice p_1 c.Opens.length c_2, .slice p_2 c.Pairs.length c_3] 26), (2, .mat b_1 rows_6 44 3)] w ∧ RepM C_int Dv_1 mx_3 rows_6 ∧ mx_3.length = (List.replicate (Int.toNat (wr (1 + (wr ((c.Rates.length : Int) * (wr (c.Hours + 1))))))) ([] : List Int)).length) (0, mx_2) h ⟨0, mx_2, Dv, rows_5, rfl, Stab.le.refl _, hF.weak ⟨rfl, rfl, rfl, rfl, rfl, rfl, rfl, rfl, trivial⟩, hS.weak ⟨rfl, rfl, trivial⟩, hM_5, hlm_4⟩ ?_
   rintro s a w xo_3 ⟨hv, mx_3, Dv_1, rows_6, rfl, hlev_1, hF, hS, hM_6, hlm_5⟩ h hxo_3
   unfold remontoirref02_most_b4 at h
   dsimp only at h
   replace hs := hs.mono hlev_1
   replace hs_1 := hs_1.mono hlev_1
   replace hs_2 := hs_2.mono hlev_1
   replace hM := hM.mono hlev_1
   replace hM_1 := hM_1.mono hlev_1
   replace hM_5 := hM_5.mono hlev_1
   refine seq ?_
   refine seq ?_
   refine region ?_
   refine step hF (Y.move hF rfl) rfl fun a hF => ?_
   refine step hF (Y.fieldAddr fo_26_0 hF rfl) rfl fun a hF => ?_
   refine step hF (Y.load1L 1 sz_3 hF rfl hS rfl rfl) rfl fun a hF => ?_
   refine step hF (Y.leq hF rfl rfl) rfl fun a hF => ?_
   refine nil (then_n ?_)
   refine cond_b hF rfl (fun hbv_4 => ?_) (fun hbv_4 => ?_)
   ·replace h := cond_t h hbv_4
    refine skip_ (then_n ?_)
    refine seq ?_
    refine block ?_
    refine seq ?_
    refine region ?_
    refine step hF (Y.loadNL 1 sz_26 hF rfl hS rfl rfl rfl) rfl fun a hF => ?_
    refine step hF (Y.move hF rfl) rfl fun a hF => ?_
    refine step hF (Y.move hF rfl) rfl fun a hF => ?_
    obtain ⟨rv, hx, h⟩ := bind_some h
    refine O.callP (us := [.agg #[.int .i64 c.Hours, .slice p c.Rates.length c_1, .slice p_1 c.Opens.length c_2, .slice p_2 c.Pairs.length c_3], .int .i64 k, .int .i64 hv]) ca_73 hF hS (remontoirref02_place_ok hS.stab c k hv hs hs_1 hs_2 rv hx) rfl rfl fun a w hF hS => ?_
    refine step hF (Y.assign hF rfl) rfl fun a hF => ?_
    refine nil (then_n ?_)
    refine seq ?_
    obtain ⟨hg_5, h⟩ := ite_some h
    obtain ⟨hg_6, h⟩ := ite_some h
    obtain ⟨hg_7, h⟩ := ite_some h
    obtain ⟨hg_8, h⟩ := ite_some h
    refine drawsV 12 (.flt 0 (.flt 1 (.flt 2 (.flt 4 (.flt 5 (.flt 7 (.alt 3 (.alt 6 (.flt 8 (.alt 9 (.flt 10 (.alt 11 .done .stop)) .stop)) .stop) (.alt 6 (.alt 3 (.flt 8 (.alt 9 (.flt 10 (.alt 11 .done .stop)) .stop)) .stop) .stop)))))))) mixed_ (by kernel_rfl) (fun w => St w0 D0 Dv_1 [(1, .cells b [.int .i64 c.Hours, .slice p c.Rates.length c_1, .slice p_1 c.Opens.length c_2, .slice p_2 c.Pairs.length c_3] 26)] w) (fun a w => ∃ (rows_8 : List Row), Frm 245 [] [(1, .int .i64 wrong), (2, .pointer (some ⟨b, 0, none⟩)), (4, .slice none 0 0), (5, .bool false), (6, .int .i64 (wr (1 + (wr ((c.Rates.length : Int) * (wr (c.Hours + 1))))))), (7, .slice (some ⟨b_1, 0, none⟩) (List.replicate (Int.toNat (wr (1 + (wr ((c.Rates.length : Int) * (wr (c.Hours + 1))))))) ([] : List Int)).length (List.replicate (Int.toNat (wr (1 + (wr ((c.Rates.length : Int) * (wr (c.Hours + 1))))))) ([] : List Int)).length), (10, .int .i64 k), (11, .int .i64 hv), (12, .int .i64 rv)] a ∧ St w0 D0 Dv_1 [(1, .cells b [.int .i64 c.Hours, .slice p c.Rates.length c_1, .slice p_1 c.Opens.length c_2, .slice p_2 c.Pairs.length c_3] 26), (2, .mat b_1 rows_8 44 3)] w ∧ RepM C_int Dv_1 ((mx_3.set (Int.toNat rv) ((mx_3.getD (Int.toNat rv) []).set (Int.toNat 0) 100000)).set (Int.toNat 0) (((mx_3.set (Int.toNat rv) ((mx_3.getD (Int.toNat rv) []).set (Int.toNat 0) 100000)).getD (Int.toNat 0) []).set (Int.toNat rv) 100000)) rows_8 ∧ ((mx_3.set (Int.toNat rv) ((mx_3.getD (Int.toNat rv) []).set (Int.toNat 0) 100000)).set (Int.toNat 0) (((mx_3.set (Int.toNat rv) ((mx_3.getD (Int.toNat rv) []).set (Int.toNat 0) 100000)).getD (Int.toNat 0) []).set (Int.toNat rv) 100000)).length = (List.replicate (Int.toNat (wr (1 + (wr ((c.Rates.length : Int) * (wr (c.Hours + 1))))))) ([] : List Int)).length) (hS.weak (ms := [(1, .cells b [.int .i64 c.Hours, .slice p c.Rates.length c_1, .slice p_1 c.Opens.length c_2, .slice p_2 c.Pairs.length c_3] 26)]) ⟨rfl, trivial⟩).drew (fun _ _ _ _ h => h) ?_ ?_
    ·replace hS := hS.drew
     have hle0 := hS.le
     refine stepV (i := 0) rfl hF (fun w hS => Y.move hF rfl) rfl fun a hF => ?_
     refine stepV (i := 1) rfl hF (fun w hS => Y.move hF rfl) rfl fun a hF => ?_
     refine stepV (i := 2) rfl hF (fun w hS => Y.indexSl u_27 sz_44 hF rfl rfl hg_5.1 (by rw [← hlm_5]; exact hg_5.2)) rfl fun a hF => ?_
     refine stepV (i := 4) rfl hF (fun w hS => Y.move hF rfl) rfl fun a hF => ?_
     refine stepV (i := 5) rfl hF (fun w hS => Y.indexSl u_27 sz_44 hF rfl rfl hg_6.1 (by rw [← hlm_5]; exact hg_6.2)) rfl fun a hF => ?_
     refine stepV (i := 7) rfl hF (fun w hS => Y.move hF rfl) rfl fun a hF => ?_
     refine oneV (i := 3) rfl ?_ ?_
     ·skip
      refine step hF (Y.loadRow 2 sz_44 (RepM.guardI hM_6 hg_5) hF rfl hS rfl) rfl fun a hF => ?_
      refine nil (then_n ⟨hS.weak (ms := [(1, .cells b [.int .i64 c.Hours, .slice p c.Rates.length c_1, .slice p_1 c.Opens.length c_2, .slice p_2 c.Pairs.length c_3] 26)]) ⟨rfl, trivial⟩, ?_⟩)
      refine oneV (i := 6) rfl ?_ trivial
      refine step hF (Y.loadRow 2 sz_44 (RepM.guardI hM_6 hg_6) hF rfl hS rfl) rfl fun a hF => ?_
      refine nil (then_n ⟨hS.weak (ms := [(1, .cells b [.int .i64 c.Hours, .slice p c.Rates.length c_1, .slice p_1 c.Opens.length c_2, .slice p_2 c.Pairs.length c_3] 26)]) ⟨rfl, trivial⟩, ?_⟩)
      obtain ⟨bk_3, hk_3⟩ := hS.rowBlk 2 rfl (RepM.guardI hM_6 hg_5) (RepM.guard hM_6 hg_5 hg_7)
      obtain ⟨cc_3, hc_3, hcell_3⟩ := RepM.el (0 : Int) hM_6 hg_5 hg_7 hk_3
      obtain rfl := hc_3
      refine stepV (i := 8) rfl hF (fun w hS => Y.indexRow u_44 sz_3 hk_3 (RepM.guard hM_6 hg_5 hg_7) hF rfl rfl) rfl fun a hF => ?_
      refine oneV (i := 9) rfl ?_ trivial
      refine O.storeEl (C := C_int) (us := [.int .i64 100000]) (v0 := 100000) 2 sz_3 hg_5 hg_7 hk_3 hF rfl rfl rfl rfl hS rfl hM_6 fun rows_9 a w hF hS hbl_3 hM_9 => ?_
      have hlm_8 : (mx_3.set (Int.toNat rv) ((mx_3.getD (Int.toNat rv) []).set (Int.toNat 0) 100000)).length = (List.replicate (Int.toNat (wr (1 + (wr ((c.Rates.length : Int) * (wr (c.Hours + 1))))))) ([] : List Int)).length := by simpa only [List.length_set] using hlm_5
      refine nil (then_n ⟨hS.weak (ms := [(1, .cells b [.int .i64 c.Hours, .slice p c.Rates.length c_1, .slice p_1 c.Opens.length c_2, .slice p_2 c.Pairs.length c_3] 26)]) ⟨rfl, trivial⟩, ?_⟩)
      obtain ⟨bk_4, hk_4⟩ := hS.rowBlk 2 rfl (RepM.guardI hM_9 (by simpa only [List.length_set] using hg_6)) (RepM.guard hM_9 (by simpa only [List.length_set] using hg_6) hg_8)
      obtain ⟨cc_4, hc_4, hcell_4⟩ := RepM.el (0 : Int) hM_9 (by simpa only [List.length_set] using hg_6) hg_8 hk_4
      obtain rfl := hc_4
      refine stepV (i := 10) rfl hF (fun w hS => Y.indexRow u_44 sz_3 ((hbl_3 _).symm.trans hk_4) (RepM.guard hM_6 hg_6 (by simpa only [getD_set_len] using hg_8)) hF rfl rfl) rfl fun a hF => ?_
      refine oneV (i := 11) rfl ?_ trivial
      refine O.storeEl (C := C_int) (us := [.int .i64 100000]) (v0 := 100000) 2 sz_3 (by simpa only [List.length_set] using hg_6) hg_8 hk_4 hF rfl rfl rfl rfl hS rfl hM_9 fun rows_10 a w hF hS hbl_4 hM_10 => ?_
      have hlm_9 : ((mx_3.set (Int.toNat rv) ((mx_3.getD (Int.toNat rv) []).set (Int.toNat 0) 100000)).set (Int.toNat 0) (((mx_3.set (Int.toNat rv) ((mx_3.getD (Int.toNat rv) []).set (Int.toNat 0) 100000)).getD (Int.toNat 0) []).set (Int.toNat rv) 100000)).length = (List.replicate (Int.toNat (wr (1 + (wr ((c.Rates.length : Int) * (wr (c.Hours + 1))))))) ([] : List Int)).length := by simpa only [List.length_set] using hlm_8
      refine nil (then_n ⟨hS.weak (ms := [(1, .cells b [.int .i64 c.Hours, .slice p c.Rates.length c_1, .slice p_1 c.Opens.length c_2, .slice p_2 c.Pairs.length c_3] 26)]) ⟨rfl, trivial⟩, ?_⟩)
      exact toTailV ⟨rows_10, hF.weak ⟨rfl, rfl, rfl, rfl, rfl, rfl, rfl, rfl, rfl, trivial⟩, hS.weak ⟨rfl, rfl, trivial⟩, hM_10, hlm_9⟩
     refine oneV (i := 6) rfl ?_ trivial
     refine step hF (Y.loadRow 2 sz_44 (RepM.guardI hM_6 hg_6) hF rfl hS rfl) rfl fun a hF => ?_
     refine nil (then_n ⟨hS.weak (ms := [(1, .cells b [.int .i64 c.Hours, .slice p c.Rates.length c_1, .slice p_1 c.Opens.length c_2, .slice p_2 c.Pairs.length c_3] 26)]) ⟨rfl, trivial⟩, ?_⟩)
     refine oneV (i := 3) rfl ?_ trivial
     refine step hF (Y.loadRow 2 sz_44 (RepM.guardI hM_6 hg_5) hF rfl hS rfl) rfl fun a hF => ?_
     refine nil (then_n ⟨hS.weak (ms := [(1, .cells b [.int .i64 c.Hours, .slice p c.Rates.length c_1, .slice p_1 c.Opens.length c_2, .slice p_2 c.Pairs.length c_3] 26)]) ⟨rfl, trivial⟩, ?_⟩)
     obtain ⟨bk_5, hk_5⟩ := hS.rowBlk 2 rfl (RepM.guardI hM_6 hg_5) (RepM.guard hM_6 hg_5 hg_7)
     obtain ⟨cc_5, hc_5, hcell_5⟩ := RepM.el (0 : Int) hM_6 hg_5 hg_7 hk_5
     obtain rfl := hc_5
     refine stepV (i := 8) rfl hF (fun w hS => Y.indexRow u_44 sz_3 hk_5 (RepM.guard hM_6 hg_5 hg_7) hF rfl rfl) rfl fun a hF => ?_
     refine oneV (i := 9) rfl ?_ trivial
     refine O.storeEl (C := C_int) (us := [.int .i64 100000]) (v0 := 100000) 2 sz_3 hg_5 hg_7 hk_5 hF rfl rfl rfl rfl hS rfl hM_6 fun rows_11 a w hF hS hbl_5 hM_11 => ?_
     have hlm_10 : (mx_3.set (Int.toNat rv) ((mx_3.getD (Int.toNat rv) []).set (Int.toNat 0) 100000)).length = (List.replicate (Int.toNat (wr (1 + (wr ((c.Rates.length : Int) * (wr (c.Hours + 1))))))) ([] : List Int)).length := by simpa only [List.length_set] using hlm_5
     refine nil (then_n ⟨hS.weak (ms := [(1, .cells b [.int .i64 c.Hours, .slice p c.Rates.length c_1, .slice p_1 c.Opens.length c_2, .slice p_2 c.Pairs.length c_3] 26)]) ⟨rfl, trivial⟩, ?_⟩)
     obtain ⟨bk_6, hk_6⟩ := hS.rowBlk 2 rfl (RepM.guardI hM_11 (by simpa only [List.length_set] using hg_6)) (RepM.guard hM_11 (by simpa only [List.length_set] using hg_6) hg_8)
     obtain ⟨cc_6, hc_6, hcell_6⟩ := RepM.el (0 : Int) hM_11 (by simpa only [List.length_set] using hg_6) hg_8 hk_6
     obtain rfl := hc_6
     refine stepV (i := 10) rfl hF (fun w hS => Y.indexRow u_44 sz_3 ((hbl_5 _).symm.trans hk_6) (RepM.guard hM_6 hg_6 (by simpa only [getD_set_len] using hg_8)) hF rfl rfl) rfl fun a hF => ?_
     refine oneV (i := 11) rfl ?_ trivial
     refine O.storeEl (C := C_int) (us := [.int .i64 100000]) (v0 := 100000) 2 sz_3 (by simpa only [List.length_set] using hg_6) hg_8 hk_6 hF rfl rfl rfl rfl hS rfl hM_11 fun rows_12 a w hF hS hbl_6 hM_12 => ?_
     have hlm_11 : ((mx_3.set (Int.toNat rv) ((mx_3.getD (Int.toNat rv) []).set (Int.toNat 0) 100000)).set (Int.toNat 0) (((mx_3.set (Int.toNat rv) ((mx_3.getD (Int.toNat rv) []).set (Int.toNat 0) 100000)).getD (Int.toNat 0) []).set (Int.toNat rv) 100000)).length = (List.replicate (Int.toNat (wr (1 + (wr ((c.Rates.length : Int) * (wr (c.Hours + 1))))))) ([] : List Int)).length := by simpa only [List.length_set] using hlm_10
     refine nil (then_n ⟨hS.weak (ms := [(1, .cells b [.int .i64 c.Hours, .slice p c.Rates.length c_1, .slice p_1 c.Opens.length c_2, .slice p_2 c.Pairs.length c_3] 26)]) ⟨rfl, trivial⟩, ?_⟩)
     exact toTailV ⟨rows_12, hF.weak ⟨rfl, rfl, rfl, rfl, rfl, rfl, rfl, rfl, rfl, trivial⟩, hS.weak ⟨rfl, rfl, trivial⟩, hM_12, hlm_11⟩
    rintro a w ⟨rows_8, hF, hS, hj, hj_1⟩
    refine nil (then_n ?_)
    refine seq ?_
    refine region ?_
    refine step hF (Y.move hF rfl) rfl fun a hF => ?_
    refine step hF (Y.gtr hF rfl rfl) rfl fun a hF => ?_
    refine nil (then_n ?_)
    refine cond_b hF rfl (fun hbv_5 => ?_) (fun hbv_5 => ?_)
    ·replace h := cond_t h hbv_5
     refine seq ?_
     obtain ⟨rv_1, hx_1, h⟩ := bind_some h
     obtain ⟨rv_2, hx_2, h⟩ := bind_some h
     refine drawsV 13 (.flt 0 (.flt 1 (.flt 2 (.flt 3 (.flt 5 (.flt 6 (.flt 7 (.flt 8 (.alt 4 (.alt 9 (.alt 10 (.alt 11 (.flt 12 .done) .stop) .stop) (.alt 10 (.alt 9 (.alt 11 (.flt 12 .done) .stop) .stop) .stop)) (.alt 10 (.alt 4 (.alt 9 (.alt 11 (.flt 12 .done) .stop) .stop) .stop) .stop)))))))))) mixed_ (by kernel_rfl) (fun w => St w0 D0 Dv_1 [(1, .cells b [.int .i64 c.Hours, .slice p c.Rates.length c_1, .slice p_1 c.Opens.length c_2, .slice p_2 c.Pairs.length c_3] 26), (2, .mat b_1 rows_8 44 3)] w) (fun a w => ∃ (b_3 : Nat), Frm 245 [] [(1, .int .i64 wrong), (2, .pointer (some ⟨b, 0, none⟩)), (4, .slice none 0 0), (5, .bool false), (6, .int .i64 (wr (1 + (wr ((c.Rates.length : Int) * (wr (c.Hours + 1))))))), (7, .slice (some ⟨b_1, 0, none⟩) (List.replicate (Int.toNat (wr (1 + (wr ((c.Rates.length : Int) * (wr (c.Hours + 1))))))) ([] : List Int)).length (List.replicate (Int.toNat (wr (1 + (wr ((c.Rates.length : Int) * (wr (c.Hours + 1))))))) ([] : List Int)).length), (10, .int .i64 k), (11, .int .i64 hv), (12, .int .i64 rv), (13, .pointer (some ⟨b_3, 0, none⟩)), (14, .int .i64 rv_2)] a ∧ St w0 D0 Dv_1 [(1, .cells b [.int .i64 c.Hours, .slice p c.Rates.length c_1, .slice p_1 c.Opens.length c_2, .slice p_2 c.Pairs.length c_3] 26), (2, .mat b_1 rows_8 44 3), (4, .cells b_3 [.int .i64 rv_1.Low, .int .i64 rv_1.High] 34)] w) (hS.weak (ms := [(1, .cells b [.int .i64 c.Hours, .slice p c.Rates.length c_1, .slice p_1 c.Opens.length c_2, .slice p_2 c.Pairs.length c_3] 26), (2, .mat b_1 rows_8 44 3)]) ⟨rfl, rfl, trivial⟩).drew (fun _ _ _ _ h => h) ?_ ?_
     ·replace hS := hS.drew
      have hle0 := hS.le
      refine stepV (i := 0) rfl hF (fun w hS => Y.loadNL 1 sz_26 hF rfl hS rfl rfl rfl) rfl fun a hF => ?_
      refine stepV (i := 1) rfl hF (fun w hS => Y.move hF rfl) rfl fun a hF => ?_
      refine stepV (i := 2) rfl hF (fun w hS => Y.move hF rfl) rfl fun a hF => ?_
      refine stepV (i := 3) rfl hF (fun w hS => Y.sub hF rfl rfl) rfl fun a hF => ?_
      refine stepV (i := 5) rfl hF (fun w hS => Y.loadNL 1 sz_26 hF rfl hS rfl rfl rfl) rfl fun a hF => ?_
      refine stepV (i := 6) rfl hF (fun w hS => Y.move hF rfl) rfl fun a hF => ?_
      refine stepV (i := 7) rfl hF (fun w hS => Y.move hF rfl) rfl fun a hF => ?_
      refine stepV (i := 8) rfl hF (fun w hS => Y.sub hF rfl rfl) rfl fun a hF => ?_
      refine oneV (i := 4) rfl ?_ ?_
      ·skip
       refine O.callP (us := [.agg #[.int .i64 c.Hours, .slice p c.Rates.length c_1, .slice p_1 c.Opens.length c_2, .slice p_2 c.Pairs.length c_3], .int .i64 k, .int .i64 (wr (hv - 1))]) ca_53 hF hS (remontoirref02_grows_ok hS.stab c k (wr (hv - 1)) hs hs_1 hs_2 rv_1 hx_1) rfl rfl fun a w hF hS => ?_
       refine nil (then_n ⟨hS.weak (ms := [(1, .cells b [.int .i64 c.Hours, .slice p c.Rates.length c_1, .slice p_1 c.Opens.length c_2, .slice p_2 c.Pairs.length c_3] 26), (2, .mat b_1 rows_8 44 3)]) ⟨rfl, rfl, trivial⟩, ?_⟩)
       refine oneV (i := 9) rfl ?_ ?_
       ·skip
        refine O.callP (us := [.agg #[.int .i64 c.Hours, .slice p c.Rates.length c_1, .slice p_1 c.Opens.length c_2, .slice p_2 c.Pairs.length c_3], .int .i64 k, .int .i64 (wr (hv - 1))]) ca_73 hF hS (remontoirref02_place_ok hS.stab c k (wr (hv - 1)) hs hs_1 hs_2 rv_2 hx_2) rfl rfl fun a w hF hS => ?_
        refine nil (then_n ⟨hS.weak (ms := [(1, .cells b [.int .i64 c.Hours, .slice p c.Rates.length c_1, .slice p_1 c.Opens.length c_2, .slice p_2 c.Pairs.length c_3] 26), (2, .mat b_1 rows_8 44 3)]) ⟨rfl, rfl, trivial⟩, ?_⟩)
        refine oneV (i := 10) rfl ?_ trivial
        refine O.alloc 4 zc_34 hF hS rfl fun b_4 a w hF hS => ?_
        refine nil (then_n ⟨hS.weak (ms := [(1, .cells b [.int .i64 c.Hours, .slice p c.Rates.length c_1, .slice p_1 c.Opens.length c_2, .slice p_2 c.Pairs.length c_3] 26), (2, .mat b_1 rows_8 44 3)]) ⟨rfl, rfl, trivial⟩, ?_⟩)
        refine oneV (i := 11) rfl ?_ trivial
        refine O.store (us := [.int .i64 rv_1.Low, .int .i64 rv_1.High]) 4 sz_34 hF rfl rfl rfl rfl hS rfl rfl fun a w hF hS => ?_
        refine nil (then_n ⟨hS.weak (ms := [(1, .cells b [.int .i64 c.Hours, .slice p c.Rates.length c_1, .slice p_1 c.Opens.length c_2, .slice p_2 c.Pairs.length c_3] 26), (2, .mat b_1 rows_8 44 3)]) ⟨rfl, rfl, trivial⟩, ?_⟩)
        refine stepV (i := 12) rfl hF (fun w hS => Y.assign hF rfl) rfl fun a hF => ?_
        exact toTailV ⟨b_4, hF.weak ⟨rfl, rfl, rfl, rfl, rfl, rfl, rfl, rfl, rfl, rfl, rfl, trivial⟩, hS.weak ⟨rfl, rfl, rfl, trivial⟩⟩
       refine oneV (i := 10) rfl ?_ trivial
       refine O.alloc 4 zc_34 hF hS rfl fun b_5 a w hF hS => ?_
       refine nil (then_n ⟨hS.weak (ms := [(1, .cells b [.int .i64 c.Hours, .slice p c.Rates.length c_1, .slice p_1 c.Opens.length c_2, .slice p_2 c.Pairs.length c_3] 26), (2, .mat b_1 rows_8 44 3)]) ⟨rfl, rfl, trivial⟩, ?_⟩)
       refine oneV (i := 9) rfl ?_ trivial
       refine O.callP (us := [.agg #[.int .i64 c.Hours, .slice p c.Rates.length c_1, .slice p_1 c.Opens.length c_2, .slice p_2 c.Pairs.length c_3], .int .i64 k, .int .i64 (wr (hv - 1))]) ca_73 hF hS (remontoirref02_place_ok hS.stab c k (wr (hv - 1)) hs hs_1 hs_2 rv_2 hx_2) rfl rfl fun a w hF hS => ?_
       refine nil (then_n ⟨hS.weak (ms := [(1, .cells b [.int .i64 c.Hours, .slice p c.Rates.length c_1, .slice p_1 c.Opens.length c_2, .slice p_2 c.Pairs.length c_3] 26), (2, .mat b_1 rows_8 44 3)]) ⟨rfl, rfl, trivial⟩, ?_⟩)
       refine oneV (i := 11) rfl ?_ trivial
       refine O.store (us := [.int .i64 rv_1.Low, .int .i64 rv_1.High]) 4 sz_34 hF rfl rfl rfl rfl hS rfl rfl fun a w hF hS => ?_
       refine nil (then_n ⟨hS.weak (ms := [(1, .cells b [.int .i64 c.Hours, .slice p c.Rates.length c_1, .slice p_1 c.Opens.length c_2, .slice p_2 c.Pairs.length c_3] 26), (2, .mat b_1 rows_8 44 3)]) ⟨rfl, rfl, trivial⟩, ?_⟩)
       refine stepV (i := 12) rfl hF (fun w hS => Y.assign hF rfl) rfl fun a hF => ?_
       exact toTailV ⟨b_5, hF.weak ⟨rfl, rfl, rfl, rfl, rfl, rfl, rfl, rfl, rfl, rfl, rfl, trivial⟩, hS.weak ⟨rfl, rfl, rfl, trivial⟩⟩
      refine oneV (i := 10) rfl ?_ trivial
      refine O.alloc 4 zc_34 hF hS rfl fun b_6 a w hF hS => ?_
      refine nil (then_n ⟨hS.weak (ms := [(1, .cells b [.int .i64 c.Hours, .slice p c.Rates.length c_1, .slice p_1 c.Opens.length c_2, .slice p_2 c.Pairs.length c_3] 26), (2, .mat b_1 rows_8 44 3)]) ⟨rfl, rfl, trivial⟩, ?_⟩)
      refine oneV (i := 4) rfl ?_ trivial
      refine O.callP (us := [.agg #[.int .i64 c.Hours, .slice p c.Rates.length c_1, .slice p_1 c.Opens.length c_2, .slice p_2 c.Pairs.length c_3], .int .i64 k, .int .i64 (wr (hv - 1))]) ca_53 hF hS (remontoirref02_grows_ok hS.stab c k (wr (hv - 1)) hs hs_1 hs_2 rv_1 hx_1) rfl rfl fun a w hF hS => ?_
      refine nil (then_n ⟨hS.weak (ms := [(1, .cells b [.int .i64 c.Hours, .slice p c.Rates.length c_1, .slice p_1 c.Opens.length c_2, .slice p_2 c.Pairs.length c_3] 26), (2, .mat b_1 rows_8 44 3)]) ⟨rfl, rfl, trivial⟩, ?_⟩)
      refine oneV (i := 9) rfl ?_ trivial
      refine O.callP (us := [.agg #[.int .i64 c.Hours, .slice p c.Rates.length c_1, .slice p_1 c.Opens.length c_2, .slice p_2 c.Pairs.length c_3], .int .i64 k, .int .i64 (wr (hv - 1))]) ca_73 hF hS (remontoirref02_place_ok hS.stab c k (wr (hv - 1)) hs hs_1 hs_2 rv_2 hx_2) rfl rfl fun a w hF hS => ?_
      refine nil (then_n ⟨hS.weak (ms := [(1, .cells b [.int .i64 c.Hours, .slice p c.Rates.length c_1, .slice p_1 c.Opens.length c_2, .slice p_2 c.Pairs.length c_3] 26), (2, .mat b_1 rows_8 44 3)]) ⟨rfl, rfl, trivial⟩, ?_⟩)
      refine oneV (i := 11) rfl ?_ trivial
      refine O.store (us := [.int .i64 rv_1.Low, .int .i64 rv_1.High]) 4 sz_34 hF rfl rfl rfl rfl hS rfl rfl fun a w hF hS => ?_
      refine nil (then_n ⟨hS.weak (ms := [(1, .cells b [.int .i64 c.Hours, .slice p c.Rates.length c_1, .slice p_1 c.Opens.length c_2, .slice p_2 c.Pairs.length c_3] 26), (2, .mat b_1 rows_8 44 3)]) ⟨rfl, rfl, trivial⟩, ?_⟩)
      refine stepV (i := 12) rfl hF (fun w hS => Y.assign hF rfl) rfl fun a hF => ?_
      exact toTailV ⟨b_6, hF.weak ⟨rfl, rfl, rfl, rfl, rfl, rfl, rfl, rfl, rfl, rfl, rfl, trivial⟩, hS.weak ⟨rfl, rfl, rfl, trivial⟩⟩
     rintro a w ⟨b_3, hF, hS⟩
     refine nil (then_n ?_)
     obtain ⟨hg_9, h⟩ := ite_some h
     obtain ⟨hg_10, h⟩ := ite_some h
     obtain ⟨hg_11, h⟩ := ite_some h
     obtain ⟨hg_12, h⟩ := ite_some h
     refine drawsV 19 (.flt 0 (.flt 1 (.flt 2 (.flt 4 (.flt 5 (.flt 6 (.flt 7 (.flt 9 (.flt 10 (.flt 11 (.flt 12 (.flt 13 (.flt 14 (.alt 3 (.alt 8 (.flt 15 (.alt 16 (.flt 17 (.alt 18 .done .stop)) .stop)) .stop) (.alt 8 (.alt 3 (.flt 15 (.alt 16 (.flt 17 (.alt 18 .done .stop)) .stop)) .stop) .stop))))))))))))))) mixed_ (by kernel_rfl) (fun w => St w0 D0 Dv_1 [(1, .cells b [.int .i64 c.Hours, .slice p c.Rates.length c_1, .slice p_1 c.Opens.length c_2, .slice p_2 c.Pairs.length c_3] 26), (4, .cells b_3 [.int .i64 rv_1.Low, .int .i64 rv_1.High] 34)] w) (fun a w => ∃ (rows_14 : List Row), Frm 245 [] [(1, .int .i64 wrong), (2, .pointer (some ⟨b, 0, none⟩)), (4, .slice none 0 0), (5, .bool false), (6, .int .i64 (wr (1 + (wr ((c.Rates.length : Int) * (wr (c.Hours + 1))))))), (7, .slice (some ⟨b_1, 0, none⟩) (List.replicate (Int.toNat (wr (1 + (wr ((c.Rates.length : Int) * (wr (c.Hours + 1))))))) ([] : List Int)).length (List.replicate (Int.toNat (wr (1 + (wr ((c.Rates.length : Int) * (wr (c.Hours + 1))))))) ([] : List Int)).length), (10, .int .i64 k), (11, .int .i64 hv)] a ∧ St w0 D0 Dv_1 [(1, .cells b [.int .i64 c.Hours, .slice p c.Rates.length c_1, .slice p_1 c.Opens.length c_2, .slice p_2 c.Pairs.length c_3] 26), (2, .mat b_1 rows_14 44 3), (4, .cells b_3 [.int .i64 rv_1.Low, .int .i64 rv_1.High] 34)] w ∧ RepM C_int Dv_1 ((((mx_3.set (Int.toNat rv) ((mx_3.getD (Int.toNat rv) []).set (Int.toNat 0) 100000)).set (Int.toNat 0) (((mx_3.set (Int.toNat rv) ((mx_3.getD (Int.toNat rv) []).set (Int.toNat 0) 100000)).getD (Int.toNat 0) []).set (Int.toNat rv) 100000)).set (Int.toNat rv) ((((mx_3.set (Int.toNat rv) ((mx_3.getD (Int.toNat rv) []).set (Int.toNat 0) 100000)).set (Int.toNat 0) (((mx_3.set (Int.toNat rv) ((mx_3.getD (Int.toNat rv) []).set (Int.toNat 0) 100000)).getD (Int.toNat 0) []).set (Int.toNat rv) 100000)).getD (Int.toNat rv) []).set (Int.toNat rv_2) rv_1.High)).set (Int.toNat rv_2) (((((mx_3.set (Int.toNat rv) ((mx_3.getD (Int.toNat rv) []).set (Int.toNat 0) 100000)).set (Int.toNat 0) (((mx_3.set (Int.toNat rv) ((mx_3.getD (Int.toNat rv) []).set (Int.toNat 0) 100000)).getD (Int.toNat 0) []).set (Int.toNat rv) 100000)).set (Int.toNat rv) ((((mx_3.set (Int.toNat rv) ((mx_3.getD (Int.toNat rv) []).set (Int.toNat 0) 100000)).set (Int.toNat 0) (((mx_3.set (Int.toNat rv) ((mx_3.getD (Int.toNat rv) []).set (Int.toNat 0) 100000)).getD (Int.toNat 0) []).set (Int.toNat rv) 100000)).getD (Int.toNat rv) []).set (Int.toNat rv_2) rv_1.High)).getD (Int.toNat rv_2) []).set (Int.toNat rv) (wr (0 - rv_1.Low)))) rows_14 ∧ ((((mx_3.set (Int.toNat rv) ((mx_3.getD (Int.toNat rv) []).set (Int.toNat 0) 100000)).set (Int.toNat 0) (((mx_3.set (Int.toNat rv) ((mx_3.getD (Int.toNat rv) []).set (Int.toNat 0) 100000)).getD (Int.toNat 0) []).set (Int.toNat rv) 100000)).set (Int.toNat rv) ((((mx_3.set (Int.toNat rv) ((mx_3.getD (Int.toNat rv) []).set (Int.toNat 0) 100000)).set (Int.toNat 0) (((mx_3.set (Int.toNat rv) ((mx_3.getD (Int.toNat rv) []).set (Int.toNat 0) 100000)).getD (Int.toNat 0) []).set (Int.toNat rv) 100000)).getD (Int.toNat rv) []).set (Int.toNat rv_2) rv_1.High)).set (Int.toNat rv_2) (((((mx_3.set (Int.toNat rv) ((mx_3.getD (Int.toNat rv) []).set (Int.toNat 0) 100000)).set (Int.toNat 0) (((mx_3.set (Int.toNat rv) ((mx_3.getD (Int.toNat rv) []).set (Int.toNat 0) 100000)).getD (Int.toNat 0) []).set (Int.toNat rv) 100000)).set (Int.toNat rv) ((((mx_3.set (Int.toNat rv) ((mx_3.getD (Int.toNat rv) []).set (Int.toNat 0) 100000)).set (Int.toNat 0) (((mx_3.set (Int.toNat rv) ((mx_3.getD (Int.toNat rv) []).set (Int.toNat 0) 100000)).getD (Int.toNat 0) []).set (Int.toNat rv) 100000)).getD (Int.toNat rv) []).set (Int.toNat rv_2) rv_1.High)).getD (Int.toNat rv_2) []).set (Int.toNat rv) (wr (0 - rv_1.Low)))).length = (List.replicate (Int.toNat (wr (1 + (wr ((c.Rates.length : Int) * (wr (c.Hours + 1))))))) ([] : List Int)).length) (hS.weak (ms := [(1, .cells b [.int .i64 c.Hours, .slice p c.Rates.length c_1, .slice p_1 c.Opens.length c_2, .slice p_2 c.Pairs.length c_3] 26), (4, .cells b_3 [.int .i64 rv_1.Low, .int .i64 rv_1.High] 34)]) ⟨rfl, rfl, trivial⟩).drew (fun _ _ _ _ h => h) ?_ ?_
     ·replace hS := hS.drew
      have hle0 := hS.le
      refine stepV (i := 0) rfl hF (fun w hS => Y.move hF rfl) rfl fun a hF => ?_
      refine stepV (i := 1) rfl hF (fun w hS => Y.move hF rfl) rfl fun a hF => ?_
      refine stepV (i := 2) rfl hF (fun w hS => Y.indexSl u_27 sz_44 hF rfl rfl hg_9.1 (by rw [← hj_1]; exact hg_9.2)) rfl fun a hF => ?_
      refine stepV (i := 4) rfl hF (fun w hS => Y.move hF rfl) rfl fun a hF => ?_
      refine stepV (i := 5) rfl hF (fun w hS => Y.move hF rfl) rfl fun a hF => ?_
      refine stepV (i := 6) rfl hF (fun w hS => Y.move hF rfl) rfl fun a hF => ?_
      refine stepV (i := 7) rfl hF (fun w hS => Y.indexSl u_27 sz_44 hF rfl rfl hg_10.1 (by rw [← hj_1]; exact hg_10.2)) rfl fun a hF => ?_
      refine stepV (i := 9) rfl hF (fun w hS => Y.move hF rfl) rfl fun a hF => ?_
      refine stepV (i := 10) rfl hF (fun w hS => Y.fieldAddr fo_34_1 hF rfl) rfl fun a hF => ?_
      refine stepV (i := 11) rfl hF (fun w hS => Y.load1L 4 sz_3 hF rfl hS rfl rfl) rfl fun a hF => ?_
      refine stepV (i := 12) rfl hF (fun w hS => Y.fieldAddr fo_34_0 hF rfl) rfl fun a hF => ?_
      refine stepV (i := 13) rfl hF (fun w hS => Y.load1L 4 sz_3 hF rfl hS rfl rfl) rfl fun a hF => ?_
      refine stepV (i := 14) rfl hF (fun w hS => Y.neg hF rfl) rfl fun a hF => ?_
      refine oneV (i := 3) rfl ?_ ?_
      ·skip
       refine step hF (Y.loadRow 2 sz_44 (RepM.guardI hj hg_9) hF rfl hS rfl) rfl fun a hF => ?_
       refine nil (then_n ⟨hS.weak (ms := [(1, .cells b [.int .i64 c.Hours, .slice p c.Rates.length c_1, .slice p_1 c.Opens.length c_2, .slice p_2 c.Pairs.length c_3] 26), (4, .cells b_3 [.int .i64 rv_1.Low, .int .i64 rv_1.High] 34)]) ⟨rfl, rfl, trivial⟩, ?_⟩)
       refine oneV (i := 8) rfl ?_ trivial
       refine step hF (Y.loadRow 2 sz_44 (RepM.guardI hj hg_10) hF rfl hS rfl) rfl fun a hF => ?_
       refine nil (then_n ⟨hS.weak (ms := [(1, .cells b [.int .i64 c.Hours, .slice p c.Rates.length c_1, .slice p_1 c.Opens.length c_2, .slice p_2 c.Pairs.length c_3] 26), (4, .cells b_3 [.int .i64 rv_1.Low, .int .i64 rv_1.High] 34)]) ⟨rfl, rfl, trivial⟩, ?_⟩)
       obtain ⟨bk_9, hk_9⟩ := hS.rowBlk 2 rfl (RepM.guardI hj hg_9) (RepM.guard hj hg_9 hg_11)
       obtain ⟨cc_9, hc_9, hcell_9⟩ := RepM.el (0 : Int) hj hg_9 hg_11 hk_9
       obtain rfl := hc_9
       refine stepV (i := 15) rfl hF (fun w hS => Y.indexRow u_44 sz_3 hk_9 (RepM.guard hj hg_9 hg_11) hF rfl rfl) rfl fun a hF => ?_
       refine oneV (i := 16) rfl ?_ trivial
       refine O.storeEl (C := C_int) (us := [.int .i64 rv_1.High]) (v0 := rv_1.High) 2 sz_3 hg_9 hg_11 hk_9 hF rfl rfl rfl rfl hS rfl hj fun rows_15 a w hF hS hbl_9 hM_15 => ?_
       have hlm_14 : (((mx_3.set (Int.toNat rv) ((mx_3.getD (Int.toNat rv) []).set (Int.toNat 0) 100000)).set (Int.toNat 0) (((mx_3.set (Int.toNat rv) ((mx_3.getD (Int.toNat rv) []).set (Int.toNat 0) 100000)).getD (Int.toNat 0) []).set (Int.toNat rv) 100000)).set (Int.toNat rv) ((((mx_3.set (Int.toNat rv) ((mx_3.getD (Int.toNat rv) []).set (Int.toNat 0) 100000)).set (Int.toNat 0) (((mx_3.set (Int.toNat rv) ((mx_3.getD (Int.toNat rv) []).set (Int.toNat 0) 100000)).getD (Int.toNat 0) []).set (Int.toNat rv) 100000)).getD (Int.toNat rv) []).set (Int.toNat rv_2) rv_1.High)).length = (List.replicate (Int.toNat (wr (1 + (wr ((c.Rates.length : Int) * (wr (c.Hours + 1))))))) ([] : List Int)).length := by simpa only [List.length_set] using hj_1
       refine nil (then_n ⟨hS.weak (ms := [(1, .cells b [.int .i64 c.Hours, .slice p c.Rates.length c_1, .slice p_1 c.Opens.length c_2, .slice p_2 c.Pairs.length c_3] 26), (4, .cells b_3 [.int .i64 rv_1.Low, .int .i64 rv_1.High] 34)]) ⟨rfl, rfl, trivial⟩, ?_⟩)
       obtain ⟨bk_10, hk_10⟩ := hS.rowBlk 2 rfl (RepM.guardI hM_15 (by simpa only [List.length_set] using hg_10)) (RepM.guard hM_15 (by simpa only [List.length_set] using hg_10) hg_12)
       obtain ⟨cc_10, hc_10, hcell_10⟩ := RepM.el (0 : Int) hM_15 (by simpa only [List.length_set] using hg_10) hg_12 hk_10
       obtain rfl := hc_10
       refine stepV (i := 17) rfl hF (fun w hS => Y.indexRow u_44 sz_3 ((hbl_9 _).symm.trans hk_10) (RepM.guard hj hg_10 (by simpa only [getD_set_len] using hg_12)) hF rfl rfl) rfl fun a hF => ?_
       refine oneV (i := 18) rfl ?_ trivial
       refine O.storeEl (C := C_int) (us := [.int .i64 (wr (0 - rv_1.Low))]) (v0 := (wr (0 - rv_1.Low))) 2 sz_3 (by simpa only [List.length_set] using hg_10) hg_12 hk_10 hF rfl rfl rfl rfl hS rfl hM_15 fun rows_16 a w hF hS hbl_10 hM_16 => ?_
       have hlm_15 : ((((mx_3.set (Int.toNat rv) ((mx_3.getD (Int.toNat rv) []).set (Int.toNat 0) 100000)).set (Int.toNat 0) (((mx_3.set (Int.toNat rv) ((mx_3.getD (Int.toNat rv) []).set (Int.toNat 0) 100000)).getD (Int.toNat 0) []).set (Int.toNat rv) 100000)).set (Int.toNat rv) ((((mx_3.set (Int.toNat rv) ((mx_3.getD (Int.toNat rv) []).set (Int.toNat 0) 100000)).set (Int.toNat 0) (((mx_3.set (Int.toNat rv) ((mx_3.getD (Int.toNat rv) []).set (Int.toNat 0) 100000)).getD (Int.toNat 0) []).set (Int.toNat rv) 100000)).getD (Int.toNat rv) []).set (Int.toNat rv_2) rv_1.High)).set (Int.toNat rv_2) (((((mx_3.set (Int.toNat rv) ((mx_3.getD (Int.toNat rv) []).set (Int.toNat 0) 100000)).set (Int.toNat 0) (((mx_3.set (Int.toNat rv) ((mx_3.getD (Int.toNat rv) []).set (Int.toNat 0) 100000)).getD (Int.toNat 0) []).set (Int.toNat rv) 100000)).set (Int.toNat rv) ((((mx_3.set (Int.toNat rv) ((mx_3.getD (Int.toNat rv) []).set (Int.toNat 0) 100000)).set (Int.toNat 0) (((mx_3.set (Int.toNat rv) ((mx_3.getD (Int.toNat rv) []).set (Int.toNat 0) 100000)).getD (Int.toNat 0) []).set (Int.toNat rv) 100000)).getD (Int.toNat rv) []).set (Int.toNat rv_2) rv_1.High)).getD (Int.toNat rv_2) []).set (Int.toNat rv) (wr (0 - rv_1.Low)))).length = (List.replicate (Int.toNat (wr (1 + (wr ((c.Rates.length : Int) * (wr (c.Hours + 1))))))) ([] : List Int)).length := by simpa only [List.length_set] using hlm_14
       refine nil (then_n ⟨hS.weak (ms := [(1, .cells b [.int .i64 c.Hours, .slice p c.Rates.length c_1, .slice p_1 c.Opens.length c_2, .slice p_2 c.Pairs.length c_3] 26), (4, .cells b_3 [.int .i64 rv_1.Low, .int .i64 rv_1.High] 34)]) ⟨rfl, rfl, trivial⟩, ?_⟩)
       exact toTailV ⟨rows_16, hF.weak ⟨rfl, rfl, rfl, rfl, rfl, rfl, rfl, rfl, trivial⟩, hS.weak ⟨rfl, rfl, rfl, trivial⟩, hM_16, hlm_15⟩
      refine oneV (i := 8) rfl ?_ trivial
      refine step hF (Y.loadRow 2 sz_44 (RepM.guardI hj hg_10) hF rfl hS rfl) rfl fun a hF => ?_
      refine nil (then_n ⟨hS.weak (ms := [(1, .cells b [.int .i64 c.Hours, .slice p c.Rates.length c_1, .slice p_1 c.Opens.length c_2, .slice p_2 c.Pairs.length c_3] 26), (4, .cells b_3 [.int .i64 rv_1.Low, .int .i64 rv_1.High] 34)]) ⟨rfl, rfl, trivial⟩, ?_⟩)
      refine oneV (i := 3) rfl ?_ trivial
      refine step hF (Y.loadRow 2 sz_44 (RepM.guardI hj hg_9) hF rfl hS rfl) rfl fun a hF => ?_
      refine nil (then_n ⟨hS.weak (ms := [(1, .cells b [.int .i64 c.Hours, .slice p c.Rates.length c_1, .slice p_1 c.Opens.length c_2, .slice p_2 c.Pairs.length c_3] 26), (4, .cells b_3 [.int .i64 rv_1.Low, .int .i64 rv_1.High] 34)]) ⟨rfl, rfl, trivial⟩, ?_⟩)
      obtain ⟨bk_11, hk_11⟩ := hS.rowBlk 2 rfl (RepM.guardI hj hg_9) (RepM.guard hj hg_9 hg_11)
      obtain ⟨cc_11, hc_11, hcell_11⟩ := RepM.el (0 : Int) hj hg_9 hg_11 hk_11
      obtain rfl := hc_11
      refine stepV (i := 15) rfl hF (fun w hS => Y.indexRow u_44 sz_3 hk_11 (RepM.guard hj hg_9 hg_11) hF rfl rfl) rfl fun a hF => ?_
      refine oneV (i := 16) rfl ?_ trivial
      refine O.storeEl (C := C_int) (us := [.int .i64 rv_1.High]) (v0 := rv_1.High) 2 sz_3 hg_9 hg_11 hk_11 hF rfl rfl rfl rfl hS rfl hj fun rows_17 a w hF hS hbl_11 hM_17 => ?_
      have hlm_16 : (((mx_3.set (Int.toNat rv) ((mx_3.getD (Int.toNat rv) []).set (Int.toNat 0) 100000)).set (Int.toNat 0) (((mx_3.set (Int.toNat rv) ((mx_3.getD (Int.toNat rv) []).set (Int.toNat 0) 100000)).getD (Int.toNat 0) []).set (Int.toNat rv) 100000)).set (Int.toNat rv) ((((mx_3.set (Int.toNat rv) ((mx_3.getD (Int.toNat rv) []).set (Int.toNat 0) 100000)).set (Int.toNat 0) (((mx_3.set (Int.toNat rv) ((mx_3.getD (Int.toNat rv) []).set (Int.toNat 0) 100000)).getD (Int.toNat 0) []).set (Int.toNat rv) 100000)).getD (Int.toNat rv) []).set (Int.toNat rv_2) rv_1.High)).length = (List.replicate (Int.toNat (wr (1 + (wr ((c.Rates.length : Int) * (wr (c.Hours + 1))))))) ([] : List Int)).length := by simpa only [List.length_set] using hj_1
      refine nil (then_n ⟨hS.weak (ms := [(1, .cells b [.int .i64 c.Hours, .slice p c.Rates.length c_1, .slice p_1 c.Opens.length c_2, .slice p_2 c.Pairs.length c_3] 26), (4, .cells b_3 [.int .i64 rv_1.Low, .int .i64 rv_1.High] 34)]) ⟨rfl, rfl, trivial⟩, ?_⟩)
      obtain ⟨bk_12, hk_12⟩ := hS.rowBlk 2 rfl (RepM.guardI hM_17 (by simpa only [List.length_set] using hg_10)) (RepM.guard hM_17 (by simpa only [List.length_set] using hg_10) hg_12)
      obtain ⟨cc_12, hc_12, hcell_12⟩ := RepM.el (0 : Int) hM_17 (by simpa only [List.length_set] using hg_10) hg_12 hk_12
      obtain rfl := hc_12
      refine stepV (i := 17) rfl hF (fun w hS => Y.indexRow u_44 sz_3 ((hbl_11 _).symm.trans hk_12) (RepM.guard hj hg_10 (by simpa only [getD_set_len] using hg_12)) hF rfl rfl) rfl fun a hF => ?_
      refine oneV (i := 18) rfl ?_ trivial
      refine O.storeEl (C := C_int) (us := [.int .i64 (wr (0 - rv_1.Low))]) (v0 := (wr (0 - rv_1.Low))) 2 sz_3 (by simpa only [List.length_set] using hg_10) hg_12 hk_12 hF rfl rfl rfl rfl hS rfl hM_17 fun rows_18 a w hF hS hbl_12 hM_18 => ?_
      have hlm_17 : ((((mx_3.set (Int.toNat rv) ((mx_3.getD (Int.toNat rv) []).set (Int.toNat 0) 100000)).set (Int.toNat 0) (((mx_3.set (Int.toNat rv) ((mx_3.getD (Int.toNat rv) []).set (Int.toNat 0) 100000)).getD (Int.toNat 0) []).set (Int.toNat rv) 100000)).set (Int.toNat rv) ((((mx_3.set (Int.toNat rv) ((mx_3.getD (Int.toNat rv) []).set (Int.toNat 0) 100000)).set (Int.toNat 0) (((mx_3.set (Int.toNat rv) ((mx_3.getD (Int.toNat rv) []).set (Int.toNat 0) 100000)).getD (Int.toNat 0) []).set (Int.toNat rv) 100000)).getD (Int.toNat rv) []).set (Int.toNat rv_2) rv_1.High)).set (Int.toNat rv_2) (((((mx_3.set (Int.toNat rv) ((mx_3.getD (Int.toNat rv) []).set (Int.toNat 0) 100000)).set (Int.toNat 0) (((mx_3.set (Int.toNat rv) ((mx_3.getD (Int.toNat rv) []).set (Int.toNat 0) 100000)).getD (Int.toNat 0) []).set (Int.toNat rv) 100000)).set (Int.toNat rv) ((((mx_3.set (Int.toNat rv) ((mx_3.getD (Int.toNat rv) []).set (Int.toNat 0) 100000)).set (Int.toNat 0) (((mx_3.set (Int.toNat rv) ((mx_3.getD (Int.toNat rv) []).set (Int.toNat 0) 100000)).getD (Int.toNat 0) []).set (Int.toNat rv) 100000)).getD (Int.toNat rv) []).set (Int.toNat rv_2) rv_1.High)).getD (Int.toNat rv_2) []).set (Int.toNat rv) (wr (0 - rv_1.Low)))).length = (List.replicate (Int.toNat (wr (1 + (wr ((c.Rates.length : Int) * (wr (c.Hours + 1))))))) ([] : List Int)).length := by simpa only [List.length_set] using hlm_16
      refine nil (then_n ⟨hS.weak (ms := [(1, .cells b [.int .i64 c.Hours, .slice p c.Rates.length c_1, .slice p_1 c.Opens.length c_2, .slice p_2 c.Pairs.length c_3] 26), (4, .cells b_3 [.int .i64 rv_1.Low, .int .i64 rv_1.High] 34)]) ⟨rfl, rfl, trivial⟩, ?_⟩)
      exact toTailV ⟨rows_18, hF.weak ⟨rfl, rfl, rfl, rfl, rfl, rfl, rfl, rfl, trivial⟩, hS.weak ⟨rfl, rfl, rfl, trivial⟩, hM_18, hlm_17⟩
     rintro a w ⟨rows_14, hF, hS, hj_2, hj_3⟩
     refine nil (blk_n (then_n ?_))
     refine region ?_
     refine step hF (Y.move hF rfl) rfl fun a hF => ?_
     refine step hF (Y.add hF rfl rfl) rfl fun a hF => ?_
     refine step hF (Y.assign hF rfl) rfl fun a hF => ?_
     refine nil (then_n ?_)
     exact ⟨_, nxt_some h, (wr (hv + 1)), ((((mx_3.set (Int.toNat rv) ((mx_3.getD (Int.toNat rv) []).set (Int.toNat 0) 100000)).set (Int.toNat 0) (((mx_3.set (Int.toNat rv) ((mx_3.getD (Int.toNat rv) []).set (Int.toNat 0) 100000)).getD (Int.toNat 0) []).set (Int.toNat rv) 100000)).set (Int.toNat rv) ((((mx_3.set (Int.toNat rv) ((mx_3.getD (Int.toNat rv) []).set (Int.toNat 0) 100000)).set (Int.toNat 0) (((mx_3.set (Int.toNat rv) ((mx_3.getD (Int.toNat rv) []).set (Int.toNat 0) 100000)).getD (Int.toNat 0) []).set (Int.toNat rv) 100000)).getD (Int.toNat rv) []).set (Int.toNat rv_2) rv_1.High)).set (Int.toNat rv_2) (((((mx_3.set (Int.toNat rv) ((mx_3.getD (Int.toNat rv) []).set (Int.toNat 0) 100000)).set (Int.toNat 0) (((mx_3.set (Int.toNat rv) ((mx_3.getD (Int.toNat rv) []).set (Int.toNat 0) 100000)).getD (Int.toNat 0) []).set (Int.toNat rv) 100000)).set (Int.toNat rv) ((((mx_3.set (Int.toNat rv) ((mx_3.getD (Int.toNat rv) []).set (Int.toNat 0) 100000)).set (Int.toNat 0) (((mx_3.set (Int.toNat rv) ((mx_3.getD (Int.toNat rv) []).set (Int.toNat 0) 100000)).getD (Int.toNat 0) []).set (Int.toNat rv) 100000)).getD (Int.toNat rv) []).set (Int.toNat rv_2) rv_1.High)).getD (Int.toNat rv_2) []).set (Int.toNat rv) (wr (0 - rv_1.Low)))), Dv_1, rows_14, rfl, hlev_1, hF.weak ⟨rfl, rfl, rfl, rfl, rfl, rfl, rfl, rfl, trivial⟩, hS.weak ⟨rfl, rfl, trivial⟩, hj_2, hj_3⟩
    ·replace h := cond_f h hbv_5
     refine skip_ (blk_n (then_n ?_))
     refine region ?_
     refine step hF (Y.move hF rfl) rfl fun a hF => ?_
     refine step hF (Y.add hF rfl rfl) rfl fun a hF => ?_
     refine step hF (Y.assign hF rfl) rfl fun a hF => ?_
     refine nil (then_n ?_)
     exact ⟨_, nxt_some h, (wr (hv + 1)), ((mx_3.set (Int.toNat rv) ((mx_3.getD (Int.toNat rv) []).set (Int.toNat 0) 100000)).set (Int.toNat 0) (((mx_3.set (Int.toNat rv) ((mx_3.getD (Int.toNat rv) []).set (Int.toNat 0) 100000)).getD (Int.toNat 0) []).set (Int.toNat rv) 100000)), Dv_1, rows_8, rfl, hlev_1, hF.weak ⟨rfl, rfl, rfl, rfl, rfl, rfl, rfl, rfl, trivial⟩, hS.weak ⟨rfl, rfl, trivial⟩, hj, hj_1⟩
   ·replace h := cond_f h hbv_4
    refine exit_ (then_x (then_x (blk_hit (blk_n (then_n ?_)))))
    replace h := ext_some h hxo_3
    refine region ?_
    refine step hF (Y.move hF rfl) rfl fun a hF => ?_
    refine step hF (Y.add hF rfl rfl) rfl fun a hF => ?_
    refine step hF (Y.assign hF rfl) rfl fun a hF => ?_
    refine nil (then_n ?_)
    exact ⟨_, nxt_some h, (wr (k + 1)), mx_3, Dv_1, rows_6, rfl, hlev.trans hlev_1, hF.weak ⟨rfl, rfl, rfl, rfl, rfl, rfl, rfl, trivial⟩, hS.weak ⟨rfl, rfl, trivial⟩, hM_6, hlm_5⟩
  ·replace h := cond_f h hbv_3
   refine exit_ (then_x (then_x (blk_hit (then_n ?_))))
   replace h := ext_some h hxo_2
   refine seq ?_
   refine seq ?_
   refine region ?_
   refine step hF (Y.assign hF rfl) rfl fun a hF => ?_
   refine nil (then_n ?_)
   refine block ?_
   refine loop_cut (body := remontoirref02_most_b5 c wrong) (out := out) (fun s a w => ∃ (i : Int) (mx_4 : (List (List Int))), ∃ (Dv_2 : Stab), ∃ rows_19, s = (i, mx_4) ∧ Dv.le Dv_2 ∧ Frm 245 [] [(1, .int .i64 wrong), (2, .pointer (some ⟨b, 0, none⟩)), (4, .slice none 0 0), (5, .bool false), (6, .int .i64 (wr (1 + (wr ((c.Rates.length : Int) * (wr (c.Hours + 1))))))), (7, .slice (some ⟨b_1, 0, none⟩) (List.replicate (Int.toNat (wr (1 + (wr ((c.Rates.length : Int) * (wr (c.Hours + 1))))))) ([] : List Int)).length (List.replicate (Int.toNat (wr (1 + (wr ((c.Rates.length : Int) * (wr (c.Hours + 1))))))) ([] : List Int)).length), (15, .int .i64 i)] a ∧ St w0 D0 Dv_2 [(1, .cells b [.int .i64 c.Hours, .slice p c.Rates.length c_1, .slice p_1 c.Opens.length c_2, .slice p_2 c.Pairs.length c_3] 26), (2, .mat b_1 rows_19 44 3)] w ∧ RepM C_int Dv_2 mx_4 rows_19 ∧ mx_4.length = (List.replicate (Int.toNat (wr (1 + (wr ((c.Rates.length : Int) * (wr (c.Hours + 1))))))) ([] : List Int)).length) (0, mx_2) h ⟨0, mx_2, Dv, rows_5, rfl, Stab.le.refl _, hF.weak ⟨rfl, rfl, rfl, rfl, rfl, rfl, rfl, trivial⟩, hS.weak ⟨rfl, rfl, trivial⟩, hM_5, hlm_4⟩ ?_
   rintro s a w xo_4 ⟨i, mx_4, Dv_2, rows_19, rfl, hlev_2, hF, hS, hM_19, hlm_18⟩ h hxo_4
   unfold remontoirref02_most_b5 at h
   dsimp only at h
   replace hs := hs.mono hlev_2
   replace hs_1 := hs_1.mono hlev_2
   replace hs_2 := hs_2.mono hlev_2
   replace hM := hM.mono hlev_2
   replace hM_1 := hM_1.mono hlev_2
   replace hM_5 := hM_5.mono hlev_2
   refine seq ?_
   refine seq ?_
   refine region ?_
   refine step hF (Y.move hF rfl) rfl fun a hF => ?_
   refine step hF (Y.fieldAddr fo_26_3 hF rfl) rfl fun a hF => ?_
   refine step hF (Y.load1L 1 sz_24 hF rfl hS rfl rfl) rfl fun a hF => ?_
   refine step hF (Y.lenSl u_24 hF rfl) rfl fun a hF => ?_
   refine step hF (Y.lss hF rfl rfl) rfl fun a hF => ?_
   refine nil (then_n ?_)
   refine cond_b hF rfl (fun hbv_6 => ?_) (fun hbv_6 => ?_)
   ·replace h := cond_t h hbv_6
    refine skip_ (then_n ?_)
    refine seq_cut (fun a w => ∃ (mx_5 : (List (List Int))), ∃ (Dv_3 : Stab), ∃ rows_20, Dv_2.le Dv_3 ∧ Frm 245 [] [(1, .int .i64 wrong), (2, .pointer (some ⟨b, 0, none⟩)), (4, .slice none 0 0), (5, .bool false), (6, .int .i64 (wr (1 + (wr ((c.Rates.length : Int) * (wr (c.Hours + 1))))))), (7, .slice (some ⟨b_1, 0, none⟩) (List.replicate (Int.toNat (wr (1 + (wr ((c.Rates.length : Int) * (wr (c.Hours + 1))))))) ([] : List Int)).length (List.replicate (Int.toNat (wr (1 + (wr ((c.Rates.length : Int) * (wr (c.Hours + 1))))))) ([] : List Int)).length), (15, .int .i64 i)] a ∧ St w0 D0 Dv_3 [(1, .cells b [.int .i64 c.Hours, .slice p c.Rates.length c_1, .slice p_1 c.Opens.length c_2, .slice p_2 c.Pairs.length c_3] 26), (2, .mat b_1 rows_20 44 3)] w ∧ RepM C_int Dv_3 mx_5 rows_20 ∧ mx_5.length = (List.replicate (Int.toNat (wr (1 + (wr ((c.Rates.length : Int) * (wr (c.Hours + 1))))))) ([] : List Int)).length ∧ remontoirref02_most_k6 i mx_5 = some xo_4) ?_ ?_
    ·skip
     refine block ?_
     refine seq ?_
     refine region ?_
     refine step hF (Y.fieldAddr fo_26_3 hF rfl) rfl fun a hF => ?_
     refine step hF (Y.load1L 1 sz_24 hF rfl hS rfl rfl) rfl fun a hF => ?_
     refine step hF (Y.move hF rfl) rfl fun a hF => ?_
     obtain ⟨e, hx_3, h⟩ := bind_some h
     obtain ⟨b_7, o, hE, hY⟩ := Y.indexS (P := Tryd.prog) (C := C_BeatPair) (xs := c.Pairs) (T := 24) (x := (.tmp 121)) (y := (.tmp 122)) u_24 sz_61 hF rfl rfl (hs_2).1 hx_3
     obtain ⟨cc_13, hc_13, hcell_13⟩ := hE.open
     obtain rfl := C_BeatPair.open hc_13
     refine step hF (hY) rfl fun a hF => ?_
     refine step hF (Y.loadNE (o := o) (k := 0) sz_61 hF rfl (hcell_13 _ hS.stab) rfl rfl) rfl fun a hF => ?_
     refine O.alloc 5 zc_61 hF hS rfl fun b_8 a w hF hS => ?_
     refine O.store (us := [.int .i64 e.Hour, .int .i64 e.One, .int .i64 e.Other, .int .i64 e.Read.Low, .int .i64 e.Read.High]) 5 sz_61 hF rfl rfl rfl rfl hS rfl rfl fun a w hF hS => ?_
     refine nil (then_n ?_)
     refine seq ?_
     refine seq ?_
     refine region ?_
     refine step hF (Y.move hF rfl) rfl fun a hF => ?_
     refine step hF (Y.fieldAddr fo_61_1 hF rfl) rfl fun a hF => ?_
     refine step hF (Y.load1L 5 sz_3 hF rfl hS rfl rfl) rfl fun a hF => ?_
     obtain ⟨rv_3, hx_4, h⟩ := bind_some h
     refine O.callP (us := [.int .i64 wrong, .int .i64 e.One]) ca_69 hF hS (remontoirref00_In_ok hS.stab wrong e.One rv_3 hx_4) rfl rfl fun a w hF hS => ?_
     refine step hF (Y.move hF rfl) rfl fun a hF => ?_
     obtain ⟨t_1, ht_1, h⟩ := bind_some h
     refine join (N := 245) (rs := []) (w0 := w0) (D0 := D0) 10 (us := [(1, .int .i64 wrong), (2, .pointer (some ⟨b, 0, none⟩)), (4, .slice none 0 0), (5, .bool false), (6, .int .i64 (wr (1 + (wr ((c.Rates.length : Int) * (wr (c.Hours + 1))))))), (7, .slice (some ⟨b_1, 0, none⟩) (List.replicate (Int.toNat (wr (1 + (wr ((c.Rates.length : Int) * (wr (c.Hours + 1))))))) ([] : List Int)).length (List.replicate (Int.toNat (wr (1 + (wr ((c.Rates.length : Int) * (wr (c.Hours + 1))))))) ([] : List Int)).length), (15, .int .i64 i), (16, .pointer (some ⟨b_8, 0, none⟩)), (139, .bool t_1)]) (ms := [(1, .cells b [.int .i64 c.Hours, .slice p c.Rates.length c_1, .slice p_1 c.Opens.length c_2, .slice p_2 c.Pairs.length c_3] 26), (2, .mat b_1 rows_19 44 3), (5, .cells b_8 [.int .i64 e.Hour, .int .i64 e.One, .int .i64 e.Other, .int .i64 e.Read.Low, .int .i64 e.Read.High] 61)]) (D' := Dv_2) ?_ ?_
     ·rcases bcases rv_3 with hbv_7 | hbv_7
      ·-- true
       replace h := cond_t ht_1 hbv_7
       refine guard_off hF rfl rfl hbv_7 rfl fun a hF => ?_
       refine guard_off hF rfl rfl hbv_7 rfl fun a hF => ?_
       refine guard_off hF rfl rfl hbv_7 rfl fun a hF => ?_
       refine guard_off hF rfl rfl hbv_7 rfl fun a hF => ?_
       refine guard_offu hF rfl rfl rfl fun a hF => ?_
       refine guard_offu hF rfl rfl rfl fun a hF => ?_
       refine guard_offu hF rfl rfl rfl fun a hF => ?_
       refine guard_offu hF rfl rfl rfl fun a hF => ?_
       refine guard_off hF rfl rfl hbv_7 rfl fun a hF => ?_
       refine step hF (Y.pick_t hF rfl hbv_7 rfl) rfl fun a hF => ?_
       obtain rfl := some_inj h
       exact nil (then_n ⟨hF.weak ⟨rfl, rfl, rfl, rfl, rfl, rfl, rfl, rfl, rfl, trivial⟩, hS.weak ⟨rfl, rfl, rfl, trivial⟩⟩)
      ·-- false
       replace h := cond_f ht_1 hbv_7
       refine guard_on hF rfl rfl hbv_7 ?_
       refine step hF (Y.fieldAddr fo_61_2 hF rfl) rfl fun a hF => ?_
       refine guard_on hF rfl rfl hbv_7 ?_
       refine step hF (Y.load1L 5 sz_3 hF rfl hS rfl rfl) rfl fun a hF => ?_
       refine guard_on hF rfl rfl hbv_7 ?_
       refine step hF (Y.geq hF rfl rfl) rfl fun a hF => ?_
       refine guard_on hF rfl rfl hbv_7 ?_
       refine step hF (Y.move hF rfl) rfl fun a hF => ?_
       obtain ⟨t, ht, h⟩ := bind_some h
       refine join (N := 245) (rs := []) (w0 := w0) (D0 := D0) 5 (us := [(1, .int .i64 wrong), (2, .pointer (some ⟨b, 0, none⟩)), (4, .slice none 0 0), (5, .bool false), (6, .int .i64 (wr (1 + (wr ((c.Rates.length : Int) * (wr (c.Hours + 1))))))), (7, .slice (some ⟨b_1, 0, none⟩) (List.replicate (Int.toNat (wr (1 + (wr ((c.Rates.length : Int) * (wr (c.Hours + 1))))))) ([] : List Int)).length (List.replicate (Int.toNat (wr (1 + (wr ((c.Rates.length : Int) * (wr (c.Hours + 1))))))) ([] : List Int)).length), (15, .int .i64 i), (16, .pointer (some ⟨b_8, 0, none⟩)), (129, .bool rv_3), (138, .bool t)]) (ms := [(1, .cells b [.int .i64 c.Hours, .slice p c.Rates.length c_1, .slice p_1 c.Opens.length c_2, .slice p_2 c.Pairs.length c_3] 26), (2, .mat b_1 rows_19 44 3), (5, .cells b_8 [.int .i64 e.Hour, .int .i64 e.One, .int .i64 e.Other, .int .i64 e.Read.Low, .int .i64 e.Read.High] 61)]) (D' := Dv_2) ?_ ?_
       ·rcases bcases (decide (e.Other ≥ 0)) with hbv_8 | hbv_8
        ·-- true
         replace h := cond_t ht hbv_8
         refine guard_on hF rfl rfl hbv_8 ?_
         refine step hF (Y.move hF rfl) rfl fun a hF => ?_
         refine guard_on hF rfl rfl hbv_8 ?_
         refine step hF (Y.fieldAddr fo_61_2 hF rfl) rfl fun a hF => ?_
         refine guard_on hF rfl rfl hbv_8 ?_
         refine step hF (Y.load1L 5 sz_3 hF rfl hS rfl rfl) rfl fun a hF => ?_
         refine guard_on hF rfl rfl hbv_8 ?_
         obtain ⟨rv_4, hx_5, h⟩ := bind_some h
         refine O.callP (us := [.int .i64 wrong, .int .i64 e.Other]) ca_69 hF hS (remontoirref00_In_ok hS.stab wrong e.Other rv_4 hx_5) rfl rfl fun a w hF hS => ?_
         refine guard_on hF rfl rfl hbv_7 ?_
         refine step hF (Y.pick_t hF rfl hbv_8 rfl) rfl fun a hF => ?_
         obtain rfl := some_inj h
         exact nil (then_n ⟨hF.weak ⟨rfl, rfl, rfl, rfl, rfl, rfl, rfl, rfl, rfl, rfl, trivial⟩, hS.weak ⟨rfl, rfl, rfl, trivial⟩⟩)
        ·-- false
         replace h := cond_f ht hbv_8
         refine guard_off hF rfl rfl hbv_8 rfl fun a hF => ?_
         refine guard_off hF rfl rfl hbv_8 rfl fun a hF => ?_
         refine guard_off hF rfl rfl hbv_8 rfl fun a hF => ?_
         refine guard_off hF rfl rfl hbv_8 rfl fun a hF => ?_
         refine guard_on hF rfl rfl hbv_7 ?_
         refine step hF (Y.pick_f hF rfl hbv_8 rfl) rfl fun a hF => ?_
         obtain rfl := some_inj h
         exact nil (then_n ⟨hF.weak ⟨rfl, rfl, rfl, rfl, rfl, rfl, rfl, rfl, rfl, rfl, trivial⟩, hS.weak ⟨rfl, rfl, rfl, trivial⟩⟩)
       intro a w hF hS
       refine step hF (Y.pick_f hF rfl hbv_7 rfl) rfl fun a hF => ?_
       obtain rfl := some_inj h
       exact nil (then_n ⟨hF.weak ⟨rfl, rfl, rfl, rfl, rfl, rfl, rfl, rfl, rfl, trivial⟩, hS.weak ⟨rfl, rfl, rfl, trivial⟩⟩)
     intro a w hF hS
     refine nil (then_n ?_)
     refine cond_b hF rfl (fun hbv_9 => ?_) (fun hbv_9 => ?_)
     ·replace h := cond_t h hbv_9
      refine exit_ (then_x (blk_hit (then_n ?_)))
      exact ⟨mx_4, Dv_2, rows_19, Stab.le.refl _, hF.weak ⟨rfl, rfl, rfl, rfl, rfl, rfl, rfl, trivial⟩, hS.weak ⟨rfl, rfl, trivial⟩, hM_19, hlm_18, h⟩
     ·replace h := cond_f h hbv_9
      refine skip_ (then_n ?_)
      refine seq ?_
      obtain ⟨rv_5, hx_6, h⟩ := bind_some h
      obtain ⟨rv_6, hx_7, h⟩ := bind_some h
      refine drawsV 14 (.flt 0 (.flt 1 (.flt 2 (.flt 3 (.flt 4 (.flt 6 (.flt 7 (.flt 8 (.flt 9 (.flt 10 (.alt 5 (.alt 11 (.flt 12 (.flt 13 .done)) .stop) .stop))))))))))) mixed_ (by kernel_rfl) (fun w => St w0 D0 Dv_2 [(1, .cells b [.int .i64 c.Hours, .slice p c.Rates.length c_1, .slice p_1 c.Opens.length c_2, .slice p_2 c.Pairs.length c_3] 26), (2, .mat b_1 rows_19 44 3), (5, .cells b_8 [.int .i64 e.Hour, .int .i64 e.One, .int .i64 e.Other, .int .i64 e.Read.Low, .int .i64 e.Read.High] 61)] w) (fun a w => Frm 245 [] [(1, .int .i64 wrong), (2, .pointer (some ⟨b, 0, none⟩)), (4, .slice none 0 0), (5, .bool false), (6, .int .i64 (wr (1 + (wr ((c.Rates.length : Int) * (wr (c.Hours + 1))))))), (7, .slice (some ⟨b_1, 0, none⟩) (List.replicate (Int.toNat (wr (1 + (wr ((c.Rates.length : Int) * (wr (c.Hours + 1))))))) ([] : List Int)).length (List.replicate (Int.toNat (wr (1 + (wr ((c.Rates.length : Int) * (wr (c.Hours + 1))))))) ([] : List Int)).length), (15, .int .i64 i), (16, .pointer (some ⟨b_8, 0, none⟩)), (17, .int .i64 rv_5), (18, .int .i64 rv_6)] a ∧ St w0 D0 Dv_2 [(1, .cells b [.int .i64 c.Hours, .slice p c.Rates.length c_1, .slice p_1 c.Opens.length c_2, .slice p_2 c.Pairs.length c_3] 26), (2, .mat b_1 rows_19 44 3), (5, .cells b_8 [.int .i64 e.Hour, .int .i64 e.One, .int .i64 e.Other, .int .i64 e.Read.Low, .int .i64 e.Read.High] 61)] w) (hS.weak (ms := [(1, .cells b [.int .i64 c.Hours, .slice p c.Rates.length c_1, .slice p_1 c.Opens.length c_2, .slice p_2 c.Pairs.length c_3] 26), (2, .mat b_1 rows_19 44 3), (5, .cells b_8 [.int .i64 e.Hour, .int .i64 e.One, .int .i64 e.Other, .int .i64 e.Read.Low, .int .i64 e.Read.High] 61)]) ⟨rfl, rfl, rfl, trivial⟩).drew (fun _ _ _ _ h => h) ?_ ?_
      ·replace hS := hS.drew
       have hle0 := hS.le
       refine stepV (i := 0) rfl hF (fun w hS => Y.loadNL 1 sz_26 hF rfl hS rfl rfl rfl) rfl fun a hF => ?_
       refine stepV (i := 1) rfl hF (fun w hS => Y.fieldAddr fo_61_1 hF rfl) rfl fun a hF => ?_
       refine stepV (i := 2) rfl hF (fun w hS => Y.load1L 5 sz_3 hF rfl hS rfl rfl) rfl fun a hF => ?_
       refine stepV (i := 3) rfl hF (fun w hS => Y.fieldAddr fo_61_0 hF rfl) rfl fun a hF => ?_
       refine stepV (i := 4) rfl hF (fun w hS => Y.load1L 5 sz_3 hF rfl hS rfl rfl) rfl fun a hF => ?_
       refine stepV (i := 6) rfl hF (fun w hS => Y.loadNL 1 sz_26 hF rfl hS rfl rfl rfl) rfl fun a hF => ?_
       refine stepV (i := 7) rfl hF (fun w hS => Y.fieldAddr fo_61_2 hF rfl) rfl fun a hF => ?_
       refine stepV (i := 8) rfl hF (fun w hS => Y.load1L 5 sz_3 hF rfl hS rfl rfl) rfl fun a hF => ?_
       refine stepV (i := 9) rfl hF (fun w hS => Y.fieldAddr fo_61_0 hF rfl) rfl fun a hF => ?_
       refine stepV (i := 10) rfl hF (fun w hS => Y.load1L 5 sz_3 hF rfl hS rfl rfl) rfl fun a hF => ?_
       refine oneV (i := 5) rfl ?_ trivial
       refine O.callP (us := [.agg #[.int .i64 c.Hours, .slice p c.Rates.length c_1, .slice p_1 c.Opens.length c_2, .slice p_2 c.Pairs.length c_3], .int .i64 e.One, .int .i64 e.Hour]) ca_73 hF hS (remontoirref02_place_ok hS.stab c e.One e.Hour hs hs_1 hs_2 rv_5 hx_6) rfl rfl fun a w hF hS => ?_
       refine nil (then_n ⟨hS.weak (ms := [(1, .cells b [.int .i64 c.Hours, .slice p c.Rates.length c_1, .slice p_1 c.Opens.length c_2, .slice p_2 c.Pairs.length c_3] 26), (2, .mat b_1 rows_19 44 3), (5, .cells b_8 [.int .i64 e.Hour, .int .i64 e.One, .int .i64 e.Other, .int .i64 e.Read.Low, .int .i64 e.Read.High] 61)]) ⟨rfl, rfl, rfl, trivial⟩, ?_⟩)
       refine oneV (i := 11) rfl ?_ trivial
       refine O.callP (us := [.agg #[.int .i64 c.Hours, .slice p c.Rates.length c_1, .slice p_1 c.Opens.length c_2, .slice p_2 c.Pairs.length c_3], .int .i64 e.Other, .int .i64 e.Hour]) ca_73 hF hS (remontoirref02_place_ok hS.stab c e.Other e.Hour hs hs_1 hs_2 rv_6 hx_7) rfl rfl fun a w hF hS => ?_
       refine nil (then_n ⟨hS.weak (ms := [(1, .cells b [.int .i64 c.Hours, .slice p c.Rates.length c_1, .slice p_1 c.Opens.length c_2, .slice p_2 c.Pairs.length c_3] 26), (2, .mat b_1 rows_19 44 3), (5, .cells b_8 [.int .i64 e.Hour, .int .i64 e.One, .int .i64 e.Other, .int .i64 e.Read.Low, .int .i64 e.Read.High] 61)]) ⟨rfl, rfl, rfl, trivial⟩, ?_⟩)
       refine stepV (i := 12) rfl hF (fun w hS => Y.assign hF rfl) rfl fun a hF => ?_
       refine stepV (i := 13) rfl hF (fun w hS => Y.assign hF rfl) rfl fun a hF => ?_
       exact toTailV ⟨hF.weak ⟨rfl, rfl, rfl, rfl, rfl, rfl, rfl, rfl, rfl, rfl, trivial⟩, hS.weak ⟨rfl, rfl, rfl, trivial⟩⟩
      rintro a w ⟨hF, hS⟩
      refine nil (then_n ?_)
      refine seq ?_
      refine draws 16 [(0, true), (1, true), (2, true), (3, true), (4, true), (5, true), (6, true), (7, true), (8, true), (9, true), (10, true), (11, true), (12, true), (13, true), (14, true), (15, true)] mixed_ (by kernel_rfl) (fun w => St w0 D0 Dv_2 _ w) hS.drew (fun _ _ _ _ h => h) ?_
      replace hS := hS.drew
      refine stepT (i := 0) rfl hF (fun w hS => Y.move hF rfl) rfl fun a hF => ?_
      refine stepT (i := 1) rfl hF (fun w hS => Y.move hF rfl) rfl fun a hF => ?_
      obtain ⟨hg_13, h⟩ := ite_some h
      refine stepT (i := 2) rfl hF (fun w hS => Y.indexSl u_27 sz_44 hF rfl rfl hg_13.1 (by rw [← hlm_18]; exact hg_13.2)) rfl fun a hF => ?_
      refine stepT (i := 3) rfl hF (fun w hS => Y.loadRow 2 sz_44 (RepM.guardI hM_19 hg_13) hF rfl hS rfl) rfl fun a hF => ?_
      refine stepT (i := 4) rfl hF (fun w hS => Y.move hF rfl) rfl fun a hF => ?_
      refine stepT (i := 5) rfl hF (fun w hS => Y.move hF rfl) rfl fun a hF => ?_
      refine stepT (i := 6) rfl hF (fun w hS => Y.move hF rfl) rfl fun a hF => ?_
      obtain ⟨hg_14, h⟩ := ite_some h
      refine stepT (i := 7) rfl hF (fun w hS => Y.indexSl u_27 sz_44 hF rfl rfl hg_14.1 (by rw [← hlm_18]; exact hg_14.2)) rfl fun a hF => ?_
      refine stepT (i := 8) rfl hF (fun w hS => Y.loadRow 2 sz_44 (RepM.guardI hM_19 hg_14) hF rfl hS rfl) rfl fun a hF => ?_
      refine stepT (i := 9) rfl hF (fun w hS => Y.move hF rfl) rfl fun a hF => ?_
      obtain ⟨hg_15, h⟩ := ite_some h
      obtain ⟨bk_13, hk_13⟩ := hS.rowBlk 2 rfl (RepM.guardI hM_19 hg_14) (RepM.guard hM_19 hg_14 hg_15)
      obtain ⟨cc_14, hc_14, hcell_14⟩ := RepM.el (0 : Int) hM_19 hg_14 hg_15 hk_13
      obtain rfl := hc_14
      refine stepT (i := 10) rfl hF (fun w hS => Y.indexRow u_44 sz_3 hk_13 (RepM.guard hM_19 hg_14 hg_15) hF rfl rfl) rfl fun a hF => ?_
      refine stepT (i := 11) rfl hF (fun w hS => Y.load1 sz_3 hF rfl (hcell_14 2 rfl hS 0 _ rfl)) rfl fun a hF => ?_
      refine stepT (i := 12) rfl hF (fun w hS => Y.fieldAddr fo_61_3 hF rfl) rfl fun a hF => ?_
      refine stepT (i := 13) rfl hF (fun w hS => Y.fieldAddr fo_34_1 hF rfl) rfl fun a hF => ?_
      refine stepT (i := 14) rfl hF (fun w hS => Y.load1L 5 sz_3 hF rfl hS rfl rfl) rfl fun a hF => ?_
      refine stepT (i := 15) rfl hF (fun w hS => Y.min2 hF rfl rfl) rfl fun a hF => ?_
      refine toTail ?_
      obtain ⟨hg_16, h⟩ := ite_some h
      obtain ⟨bk_14, hk_14⟩ := hS.rowBlk 2 rfl (RepM.guardI hM_19 hg_13) (RepM.guard hM_19 hg_13 hg_16)
      obtain ⟨cc_15, hc_15, hcell_15⟩ := RepM.el (0 : Int) hM_19 hg_13 hg_16 hk_14
      obtain rfl := hc_15
      refine step hF (Y.indexRow u_44 sz_3 hk_14 (RepM.guard hM_19 hg_13 hg_16) hF rfl rfl) rfl fun a hF => ?_
      refine O.storeEl (C := C_int) (us := [.int .i64 (if e.Read.High < ((mx_4.getD (Int.toNat rv_5) []).getD (Int.toNat rv_6) (0 : Int)) then e.Read.High else ((mx_4.getD (Int.toNat rv_5) []).getD (Int.toNat rv_6) (0 : Int)))]) (v0 := (if e.Read.High < ((mx_4.getD (Int.toNat rv_5) []).getD (Int.toNat rv_6) (0 : Int)) then e.Read.High else ((mx_4.getD (Int.toNat rv_5) []).getD (Int.toNat rv_6) (0 : Int)))) 2 sz_3 hg_13 hg_16 hk_14 hF rfl rfl rfl rfl hS rfl hM_19 fun rows_21 a w hF hS hbl_13 hM_21 => ?_
      have hlm_20 : (mx_4.set (Int.toNat rv_5) ((mx_4.getD (Int.toNat rv_5) []).set (Int.toNat rv_6) (if e.Read.High < ((mx_4.getD (Int.toNat rv_5) []).getD (Int.toNat rv_6) (0 : Int)) then e.Read.High else ((mx_4.getD (Int.toNat rv_5) []).getD (Int.toNat rv_6) (0 : Int))))).length = (List.replicate (Int.toNat (wr (1 + (wr ((c.Rates.length : Int) * (wr (c.Hours + 1))))))) ([] : List Int)).length := by simpa only [List.length_set] using hlm_18
      refine nil (then_n ?_)
      refine draws 17 [(0, true), (1, true), (2, true), (3, true), (4, true), (5, true), (6, true), (7, true), (8, true), (9, true), (10, true), (11, true), (12, true), (13, true), (14, true), (15, true), (16, true)] mixed_ (by kernel_rfl) (fun w => St w0 D0 Dv_2 _ w) hS.drew (fun _ _ _ _ h => h) ?_
      replace hS := hS.drew
      refine stepT (i := 0) rfl hF (fun w hS => Y.move hF rfl) rfl fun a hF => ?_
      refine stepT (i := 1) rfl hF (fun w hS => Y.move hF rfl) rfl fun a hF => ?_
      obtain ⟨hg_17, h⟩ := ite_some h
      refine stepT (i := 2) rfl hF (fun w hS => Y.indexSl u_27 sz_44 hF rfl rfl hg_17.1 (by rw [← hlm_20]; exact hg_17.2)) rfl fun a hF => ?_
      refine stepT (i := 3) rfl hF (fun w hS => Y.loadRow 2 sz_44 (RepM.guardI hM_21 hg_17) hF rfl hS rfl) rfl fun a hF => ?_
      refine stepT (i := 4) rfl hF (fun w hS => Y.move hF rfl) rfl fun a hF => ?_
      refine stepT (i := 5) rfl hF (fun w hS => Y.move hF rfl) rfl fun a hF => ?_
      refine stepT (i := 6) rfl hF (fun w hS => Y.move hF rfl) rfl fun a hF => ?_
      obtain ⟨hg_18, h⟩ := ite_some h
      refine stepT (i := 7) rfl hF (fun w hS => Y.indexSl u_27 sz_44 hF rfl rfl hg_18.1 (by rw [← hlm_20]; exact hg_18.2)) rfl fun a hF => ?_
      refine stepT (i := 8) rfl hF (fun w hS => Y.loadRow 2 sz_44 (RepM.guardI hM_21 hg_18) hF rfl hS rfl) rfl fun a hF => ?_
      refine stepT (i := 9) rfl hF (fun w hS => Y.move hF rfl) rfl fun a hF => ?_
      obtain ⟨hg_19, h⟩ := ite_some h
      obtain ⟨bk_15, hk_15⟩ := hS.rowBlk 2 rfl (RepM.guardI hM_21 hg_18) (RepM.guard hM_21 hg_18 hg_19)
      obtain ⟨cc_16, hc_16, hcell_16⟩ := RepM.el (0 : Int) hM_21 hg_18 hg_19 hk_15
      obtain rfl := hc_16
      refine stepT (i := 10) rfl hF (fun w hS => Y.indexRow u_44 sz_3 hk_15 (RepM.guard hM_21 hg_18 hg_19) hF rfl rfl) rfl fun a hF => ?_
      refine stepT (i := 11) rfl hF (fun w hS => Y.load1 sz_3 hF rfl (hcell_16 2 rfl hS 0 _ rfl)) rfl fun a hF => ?_
      refine stepT (i := 12) rfl hF (fun w hS => Y.fieldAddr fo_61_3 hF rfl) rfl fun a hF => ?_
      refine stepT (i := 13) rfl hF (fun w hS => Y.fieldAddr fo_34_0 hF rfl) rfl fun a hF => ?_
      refine stepT (i := 14) rfl hF (fun w hS => Y.load1L 5 sz_3 hF rfl hS rfl rfl) rfl fun a hF => ?_
      refine stepT (i := 15) rfl hF (fun w hS => Y.neg hF rfl) rfl fun a hF => ?_
      refine stepT (i := 16) rfl hF (fun w hS => Y.min2 hF rfl rfl) rfl fun a hF => ?_
      refine toTail ?_
      obtain ⟨hg_20, h⟩ := ite_some h
      obtain ⟨bk_16, hk_16⟩ := hS.rowBlk 2 rfl (RepM.guardI hM_21 hg_17) (RepM.guard hM_21 hg_17 hg_20)
      obtain ⟨cc_17, hc_17, hcell_17⟩ := RepM.el (0 : Int) hM_21 hg_17 hg_20 hk_16
      obtain rfl := hc_17
      refine step hF (Y.indexRow u_44 sz_3 hk_16 (RepM.guard hM_21 hg_17 hg_20) hF rfl rfl) rfl fun a hF => ?_
      refine O.storeEl (C := C_int) (us := [.int .i64 (if wr (0 - e.Read.Low) < (((mx_4.set (Int.toNat rv_5) ((mx_4.getD (Int.toNat rv_5) []).set (Int.toNat rv_6) (if e.Read.High < ((mx_4.getD (Int.toNat rv_5) []).getD (Int.toNat rv_6) (0 : Int)) then e.Read.High else ((mx_4.getD (Int.toNat rv_5) []).getD (Int.toNat rv_6) (0 : Int))))).getD (Int.toNat rv_6) []).getD (Int.toNat rv_5) (0 : Int)) then wr (0 - e.Read.Low) else (((mx_4.set (Int.toNat rv_5) ((mx_4.getD (Int.toNat rv_5) []).set (Int.toNat rv_6) (if e.Read.High < ((mx_4.getD (Int.toNat rv_5) []).getD (Int.toNat rv_6) (0 : Int)) then e.Read.High else ((mx_4.getD (Int.toNat rv_5) []).getD (Int.toNat rv_6) (0 : Int))))).getD (Int.toNat rv_6) []).getD (Int.toNat rv_5) (0 : Int)))]) (v0 := (if wr (0 - e.Read.Low) < (((mx_4.set (Int.toNat rv_5) ((mx_4.getD (Int.toNat rv_5) []).set (Int.toNat rv_6) (if e.Read.High < ((mx_4.getD (Int.toNat rv_5) []).getD (Int.toNat rv_6) (0 : Int)) then e.Read.High else ((mx_4.getD (Int.toNat rv_5) []).getD (Int.toNat rv_6) (0 : Int))))).getD (Int.toNat rv_6) []).getD (Int.toNat rv_5) (0 : Int)) then wr (0 - e.Read.Low) else (((mx_4.set (Int.toNat rv_5) ((mx_4.getD (Int.toNat rv_5) []).set (Int.toNat rv_6) (if e.Read.High < ((mx_4.getD (Int.toNat rv_5) []).getD (Int.toNat rv_6) (0 : Int)) then e.Read.High else ((mx_4.getD (Int.toNat rv_5) []).getD (Int.toNat rv_6) (0 : Int))))).getD (Int.toNat rv_6) []).getD (Int.toNat rv_5) (0 : Int)))) 2 sz_3 hg_17 hg_20 hk_16 hF rfl rfl rfl rfl hS rfl hM_21 fun rows_22 a w hF hS hbl_14 hM_22 => ?_
      have hlm_21 : ((mx_4.set (Int.toNat rv_5) ((mx_4.getD (Int.toNat rv_5) []).set (Int.toNat rv_6) (if e.Read.High < ((mx_4.getD (Int.toNat rv_5) []).getD (Int.toNat rv_6) (0 : Int)) then e.Read.High else ((mx_4.getD (Int.toNat rv_5) []).getD (Int.toNat rv_6) (0 : Int))))).set (Int.toNat rv_6) (((mx_4.set (Int.toNat rv_5) ((mx_4.getD (Int.toNat rv_5) []).set (Int.toNat rv_6) (if e.Read.High < ((mx_4.getD (Int.toNat rv_5) []).getD (Int.toNat rv_6) (0 : Int)) then e.Read.High else ((mx_4.getD (Int.toNat rv_5) []).getD (Int.toNat rv_6) (0 : Int))))).getD (Int.toNat rv_6) []).set (Int.toNat rv_5) (if wr (0 - e.Read.Low) < (((mx_4.set (Int.toNat rv_5) ((mx_4.getD (Int.toNat rv_5) []).set (Int.toNat rv_6) (if e.Read.High < ((mx_4.getD (Int.toNat rv_5) []).getD (Int.toNat rv_6) (0 : Int)) then e.Read.High else ((mx_4.getD (Int.toNat rv_5) []).getD (Int.toNat rv_6) (0 : Int))))).getD (Int.toNat rv_6) []).getD (Int.toNat rv_5) (0 : Int)) then wr (0 - e.Read.Low) else (((mx_4.set (Int.toNat rv_5) ((mx_4.getD (Int.toNat rv_5) []).set (Int.toNat rv_6) (if e.Read.High < ((mx_4.getD (Int.toNat rv_5) []).getD (Int.toNat rv_6) (0 : Int)) then e.Read.High else ((mx_4.getD (Int.toNat rv_5) []).getD (Int.toNat rv_6) (0 : Int))))).getD (Int.toNat rv_6) []).getD (Int.toNat rv_5) (0 : Int))))).length = (List.replicate (Int.toNat (wr (1 + (wr ((c.Rates.length : Int) * (wr (c.Hours + 1))))))) ([] : List Int)).length := by simpa only [List.length_set] using hlm_20
      refine nil (blk_n (then_n ?_))
      exact ⟨((mx_4.set (Int.toNat rv_5) ((mx_4.getD (Int.toNat rv_5) []).set (Int.toNat rv_6) (if e.Read.High < ((mx_4.getD (Int.toNat rv_5) []).getD (Int.toNat rv_6) (0 : Int)) then e.Read.High else ((mx_4.getD (Int.toNat rv_5) []).getD (Int.toNat rv_6) (0 : Int))))).set (Int.toNat rv_6) (((mx_4.set (Int.toNat rv_5) ((mx_4.getD (Int.toNat rv_5) []).set (Int.toNat rv_6) (if e.Read.High < ((mx_4.getD (Int.toNat rv_5) []).getD (Int.toNat rv_6) (0 : Int)) then e.Read.High else ((mx_4.getD (Int.toNat rv_5) []).getD (Int.toNat rv_6) (0 : Int))))).getD (Int.toNat rv_6) []).set (Int.toNat rv_5) (if wr (0 - e.Read.Low) < (((mx_4.set (Int.toNat rv_5) ((mx_4.getD (Int.toNat rv_5) []).set (Int.toNat rv_6) (if e.Read.High < ((mx_4.getD (Int.toNat rv_5) []).getD (Int.toNat rv_6) (0 : Int)) then e.Read.High else ((mx_4.getD (Int.toNat rv_5) []).getD (Int.toNat rv_6) (0 : Int))))).getD (Int.toNat rv_6) []).getD (Int.toNat rv_5) (0 : Int)) then wr (0 - e.Read.Low) else (((mx_4.set (Int.toNat rv_5) ((mx_4.getD (Int.toNat rv_5) []).set (Int.toNat rv_6) (if e.Read.High < ((mx_4.getD (Int.toNat rv_5) []).getD (Int.toNat rv_6) (0 : Int)) then e.Read.High else ((mx_4.getD (Int.toNat rv_5) []).getD (Int.toNat rv_6) (0 : Int))))).getD (Int.toNat rv_6) []).getD (Int.toNat rv_5) (0 : Int))))), Dv_2, rows_22, Stab.le.refl _, hF.weak ⟨rfl, rfl, rfl, rfl, rfl, rfl, rfl, trivial⟩, hS.weak ⟨rfl, rfl, trivial⟩, hM_22, hlm_21, h⟩
    ·rintro a w ⟨mx_5, Dv_3, rows_20, hlev_3, hF, hS, hM_20, hlm_19, h⟩
     unfold remontoirref02_most_k6 at h
     replace hs := hs.mono hlev_3
     replace hs_1 := hs_1.mono hlev_3
     replace hs_2 := hs_2.mono hlev_3
     replace hM := hM.mono hlev_3
     replace hM_1 := hM_1.mono hlev_3
     replace hM_5 := hM_5.mono hlev_3
     replace hM_19 := hM_19.mono hlev_3
     refine region ?_
     refine step hF (Y.move hF rfl) rfl fun a hF => ?_
     refine step hF (Y.add hF rfl rfl) rfl fun a hF => ?_
     refine step hF (Y.assign hF rfl) rfl fun a hF => ?_
     refine nil (then_n ?_)
     exact ⟨_, nxt_some h, (wr (i + 1)), mx_5, Dv_3, rows_20, rfl, hlev_2.trans hlev_3, hF.weak ⟨rfl, rfl, rfl, rfl, rfl, rfl, rfl, trivial⟩, hS.weak ⟨rfl, rfl, trivial⟩, hM_20, hlm_19⟩
   ·replace h := cond_f h hbv_6
    refine exit_ (then_x (then_x (blk_hit (then_n ?_))))
    replace h := ext_some h hxo_4
    refine seq ?_
    refine seq ?_
    refine region ?_
    refine step hF (Y.assign hF rfl) rfl fun a hF => ?_
    refine nil (then_n ?_)
    refine block ?_
    refine loop_cut (body := remontoirref02_most_b7 c) (out := out) (fun s a w => ∃ (byv : Int) (mx_6 : (List (List Int))), ∃ rows_23, s = (byv, mx_6) ∧ Frm 245 [] [(4, .slice none 0 0), (5, .bool false), (6, .int .i64 (wr (1 + (wr ((c.Rates.length : Int) * (wr (c.Hours + 1))))))), (7, .slice (some ⟨b_1, 0, none⟩) (List.replicate (Int.toNat (wr (1 + (wr ((c.Rates.length : Int) * (wr (c.Hours + 1))))))) ([] : List Int)).length (List.replicate (Int.toNat (wr (1 + (wr ((c.Rates.length : Int) * (wr (c.Hours + 1))))))) ([] : List Int)).length), (19, .int .i64 byv)] a ∧ St w0 D0 Dv_2 [(1, .cells b [.int .i64 c.Hours, .slice p c.Rates.length c_1, .slice p_1 c.Opens.length c_2, .slice p_2 c.Pairs.length c_3] 26), (2, .mat b_1 rows_23 44 3)] w ∧ RepM C_int Dv_2 mx_6 rows_23 ∧ mx_6.length = (List.replicate (Int.toNat (wr (1 + (wr ((c.Rates.length : Int) * (wr (c.Hours + 1))))))) ([] : List Int)).length) (0, mx_4) h ⟨0, mx_4, rows_19, rfl, hF.weak ⟨rfl, rfl, rfl, rfl, rfl, trivial⟩, hS.weak ⟨rfl, rfl, trivial⟩, hM_19, hlm_18⟩ ?_
    rintro s a w xo_5 ⟨byv, mx_6, rows_23, rfl, hF, hS, hM_23, hlm_22⟩ h hxo_5
    unfold remontoirref02_most_b7 at h
    dsimp only at h
    refine seq ?_
    refine seq ?_
    refine region ?_
    refine step hF (Y.move hF rfl) rfl fun a hF => ?_
    refine step hF (Y.move hF rfl) rfl fun a hF => ?_
    refine step hF (Y.lss hF rfl rfl) rfl fun a hF => ?_
    refine nil (then_n ?_)
    refine cond_b hF rfl (fun hbv_10 => ?_) (fun hbv_10 => ?_)
    ·replace h := cond_t h hbv_10
     refine skip_ (then_n ?_)
     refine seq ?_
     refine block ?_
     refine seq ?_
     refine region ?_
     refine step hF (Y.assign hF rfl) rfl fun a hF => ?_
     refine nil (then_n ?_)
     refine block ?_
     refine loop_cut (body := remontoirref02_most_b8 c byv) (out := xo_5) (fun s a w => ∃ (av_1 : Int) (mx_7 : (List (List Int))), ∃ rows_24, s = (av_1, mx_7) ∧ Frm 245 [] [(4, .slice none 0 0), (5, .bool false), (6, .int .i64 (wr (1 + (wr ((c.Rates.length : Int) * (wr (c.Hours + 1))))))), (7, .slice (some ⟨b_1, 0, none⟩) (List.replicate (Int.toNat (wr (1 + (wr ((c.Rates.length : Int) * (wr (c.Hours + 1))))))) ([] : List Int)).length (List.replicate (Int.toNat (wr (1 + (wr ((c.Rates.length : Int) * (wr (c.Hours + 1))))))) ([] : List Int)).length), (19, .int .i64 byv), (20, .int .i64 av_1)] a ∧ St w0 D0 Dv_2 [(1, .cells b [.int .i64 c.Hours, .slice p c.Rates.length c_1, .slice p_1 c.Opens.length c_2, .slice p_2 c.Pairs.length c_3] 26), (2, .mat b_1 rows_24 44 3)] w ∧ RepM C_int Dv_2 mx_7 rows_24 ∧ mx_7.length = (List.replicate (Int.toNat (wr (1 + (wr ((c.Rates.length : Int) * (wr (c.Hours + 1))))))) ([] : List Int)).length) (0, mx_6) h ⟨0, mx_6, rows_23, rfl, hF.weak ⟨rfl, rfl, rfl, rfl, rfl, rfl, trivial⟩, hS.weak ⟨rfl, rfl, trivial⟩, hM_23, hlm_22⟩ ?_
     rintro s a w xo_6 ⟨av_1, mx_7, rows_24, rfl, hF, hS, hM_24, hlm_23⟩ h hxo_6
     unfold remontoirref02_most_b8 at h
     dsimp only at h
     refine seq ?_
     refine seq ?_
     refine region ?_
     refine step hF (Y.move hF rfl) rfl fun a hF => ?_
     refine step hF (Y.move hF rfl) rfl fun a hF => ?_
     refine step hF (Y.lss hF rfl rfl) rfl fun a hF => ?_
     refine nil (then_n ?_)
     refine cond_b hF rfl (fun hbv_11 => ?_) (fun hbv_11 => ?_)
     ·replace h := cond_t h hbv_11
      refine skip_ (then_n ?_)
      refine seq ?_
      refine block ?_
      refine seq ?_
      refine region ?_
      refine step hF (Y.assign hF rfl) rfl fun a hF => ?_
      refine nil (then_n ?_)
      refine block ?_
      refine loop_cut (body := remontoirref02_most_b9 c byv av_1) (out := xo_6) (fun s a w => ∃ (b_9 : Int) (mx_8 : (List (List Int))), ∃ rows_25, s = (b_9, mx_8) ∧ Frm 245 [] [(4, .slice none 0 0), (5, .bool false), (6, .int .i64 (wr (1 + (wr ((c.Rates.length : Int) * (wr (c.Hours + 1))))))), (7, .slice (some ⟨b_1, 0, none⟩) (List.replicate (Int.toNat (wr (1 + (wr ((c.Rates.length : Int) * (wr (c.Hours + 1))))))) ([] : List Int)).length (List.replicate (Int.toNat (wr (1 + (wr ((c.Rates.length : Int) * (wr (c.Hours + 1))))))) ([] : List Int)).length), (19, .int .i64 byv), (20, .int .i64 av_1), (21, .int .i64 b_9)] a ∧ St w0 D0 Dv_2 [(1, .cells b [.int .i64 c.Hours, .slice p c.Rates.length c_1, .slice p_1 c.Opens.length c_2, .slice p_2 c.Pairs.length c_3] 26), (2, .mat b_1 rows_25 44 3)] w ∧ RepM C_int Dv_2 mx_8 rows_25 ∧ mx_8.length = (List.replicate (Int.toNat (wr (1 + (wr ((c.Rates.length : Int) * (wr (c.Hours + 1))))))) ([] : List Int)).length) (0, mx_7) h ⟨0, mx_7, rows_24, rfl, hF.weak ⟨rfl, rfl, rfl, rfl, rfl, rfl, rfl, trivial⟩, hS.weak ⟨rfl, rfl, trivial⟩, hM_24, hlm_23⟩ ?_
      rintro s a w xo_7 ⟨b_9, mx_8, rows_25, rfl, hF, hS, hM_25, hlm_24⟩ h hxo_7
      unfold remontoirref02_most_b9 at h
      dsimp only at h
      refine seq ?_
      refine seq ?_
      refine region ?_
      refine step hF (Y.move hF rfl) rfl fun a hF => ?_
      refine step hF (Y.move hF rfl) rfl fun a hF => ?_
      refine step hF (Y.lss hF rfl rfl) rfl fun a hF => ?_
      refine nil (then_n ?_)
      refine cond_b hF rfl (fun hbv_12 => ?_) (fun hbv_12 => ?_)
      ·replace h := cond_t h hbv_12
       refine skip_ (then_n ?_)
       refine seq ?_
       refine block ?_
       refine draws 28 [(0, true), (1, true), (2, true), (3, true), (4, true), (5, true), (6, true), (7, true), (8, true), (9, true), (10, true), (11, true), (12, true), (13, true), (14, true), (15, true), (16, true), (17, true), (18, true), (19, true), (20, true), (21, true), (22, true), (23, true), (24, true), (25, true), (26, true), (27, true)] mixed_ (by kernel_rfl) (fun w => St w0 D0 Dv_2 _ w) hS.drew (fun _ _ _ _ h => h) ?_
       replace hS := hS.drew
       refine stepT (i := 0) rfl hF (fun w hS => Y.move hF rfl) rfl fun a hF => ?_
       refine stepT (i := 1) rfl hF (fun w hS => Y.move hF rfl) rfl fun a hF => ?_
       obtain ⟨hg_21, h⟩ := ite_some h
       refine stepT (i := 2) rfl hF (fun w hS => Y.indexSl u_27 sz_44 hF rfl rfl hg_21.1 (by rw [← hlm_24]; exact hg_21.2)) rfl fun a hF => ?_
       refine stepT (i := 3) rfl hF (fun w hS => Y.loadRow 2 sz_44 (RepM.guardI hM_25 hg_21) hF rfl hS rfl) rfl fun a hF => ?_
       refine stepT (i := 4) rfl hF (fun w hS => Y.move hF rfl) rfl fun a hF => ?_
       refine stepT (i := 5) rfl hF (fun w hS => Y.move hF rfl) rfl fun a hF => ?_
       refine stepT (i := 6) rfl hF (fun w hS => Y.move hF rfl) rfl fun a hF => ?_
       obtain ⟨hg_22, h⟩ := ite_some h
       refine stepT (i := 7) rfl hF (fun w hS => Y.indexSl u_27 sz_44 hF rfl rfl hg_22.1 (by rw [← hlm_24]; exact hg_22.2)) rfl fun a hF => ?_
       refine stepT (i := 8) rfl hF (fun w hS => Y.loadRow 2 sz_44 (RepM.guardI hM_25 hg_22) hF rfl hS rfl) rfl fun a hF => ?_
       refine stepT (i := 9) rfl hF (fun w hS => Y.move hF rfl) rfl fun a hF => ?_
       obtain ⟨hg_23, h⟩ := ite_some h
       obtain ⟨bk_17, hk_17⟩ := hS.rowBlk 2 rfl (RepM.guardI hM_25 hg_22) (RepM.guard hM_25 hg_22 hg_23)
       obtain ⟨cc_18, hc_18, hcell_18⟩ := RepM.el (0 : Int) hM_25 hg_22 hg_23 hk_17
       obtain rfl := hc_18
       refine stepT (i := 10) rfl hF (fun w hS => Y.indexRow u_44 sz_3 hk_17 (RepM.guard hM_25 hg_22 hg_23) hF rfl rfl) rfl fun a hF => ?_
       refine stepT (i := 11) rfl hF (fun w hS => Y.load1 sz_3 hF rfl (hcell_18 2 rfl hS 0 _ rfl)) rfl fun a hF => ?_
       refine stepT (i := 12) rfl hF (fun w hS => Y.move hF rfl) rfl fun a hF => ?_
       refine stepT (i := 13) rfl hF (fun w hS => Y.move hF rfl) rfl fun a hF => ?_
       obtain ⟨hg_24, h⟩ := ite_some h
       refine stepT (i := 14) rfl hF (fun w hS => Y.indexSl u_27 sz_44 hF rfl rfl hg_24.1 (by rw [← hlm_24]; exact hg_24.2)) rfl fun a hF => ?_
       refine stepT (i := 15) rfl hF (fun w hS => Y.loadRow 2 sz_44 (RepM.guardI hM_25 hg_24) hF rfl hS rfl) rfl fun a hF => ?_
       refine stepT (i := 16) rfl hF (fun w hS => Y.move hF rfl) rfl fun a hF => ?_
       obtain ⟨hg_25, h⟩ := ite_some h
       obtain ⟨bk_18, hk_18⟩ := hS.rowBlk 2 rfl (RepM.guardI hM_25 hg_24) (RepM.guard hM_25 hg_24 hg_25)
       obtain ⟨cc_19, hc_19, hcell_19⟩ := RepM.el (0 : Int) hM_25 hg_24 hg_25 hk_18
       obtain rfl := hc_19
       refine stepT (i := 17) rfl hF (fun w hS => Y.indexRow u_44 sz_3 hk_18 (RepM.guard hM_25 hg_24 hg_25) hF rfl rfl) rfl fun a hF => ?_
       refine stepT (i := 18) rfl hF (fun w hS => Y.load1 sz_3 hF rfl (hcell_19 2 rfl hS 0 _ rfl)) rfl fun a hF => ?_
       refine stepT (i := 19) rfl hF (fun w hS => Y.move hF rfl) rfl fun a hF => ?_
       refine stepT (i := 20) rfl hF (fun w hS => Y.move hF rfl) rfl fun a hF => ?_
       obtain ⟨hg_26, h⟩ := ite_some h
       refine stepT (i := 21) rfl hF (fun w hS => Y.indexSl u_27 sz_44 hF rfl rfl hg_26.1 (by rw [← hlm_24]; exact hg_26.2)) rfl fun a hF => ?_
       refine stepT (i := 22) rfl hF (fun w hS => Y.loadRow 2 sz_44 (RepM.guardI hM_25 hg_26) hF rfl hS rfl) rfl fun a hF => ?_
       refine stepT (i := 23) rfl hF (fun w hS => Y.move hF rfl) rfl fun a hF => ?_
       obtain ⟨hg_27, h⟩ := ite_some h
       obtain ⟨bk_19, hk_19⟩ := hS.rowBlk 2 rfl (RepM.guardI hM_25 hg_26) (RepM.guard hM_25 hg_26 hg_27)
       obtain ⟨cc_20, hc_20, hcell_20⟩ := RepM.el (0 : Int) hM_25 hg_26 hg_27 hk_19
       obtain rfl := hc_20
       refine stepT (i := 24) rfl hF (fun w hS => Y.indexRow u_44 sz_3 hk_19 (RepM.guard hM_25 hg_26 hg_27) hF rfl rfl) rfl fun a hF => ?_
       refine stepT (i := 25) rfl hF (fun w hS => Y.load1 sz_3 hF rfl (hcell_20 2 rfl hS 0 _ rfl)) rfl fun a hF => ?_
       refine stepT (i := 26) rfl hF (fun w hS => Y.add hF rfl rfl) rfl fun a hF => ?_
       refine stepT (i := 27) rfl hF (fun w hS => Y.min2 hF rfl rfl) rfl fun a hF => ?_
       refine toTail ?_
       obtain ⟨hg_28, h⟩ := ite_some h
       obtain ⟨bk_20, hk_20⟩ := hS.rowBlk 2 rfl (RepM.guardI hM_25 hg_21) (RepM.guard hM_25 hg_21 hg_28)
       obtain ⟨cc_21, hc_21, hcell_21⟩ := RepM.el (0 : Int) hM_25 hg_21 hg_28 hk_20
       obtain rfl := hc_21
       refine step hF (Y.indexRow u_44 sz_3 hk_20 (RepM.guard hM_25 hg_21 hg_28) hF rfl rfl) rfl fun a hF => ?_
       refine O.storeEl (C := C_int) (us := [.int .i64 (if wr (((mx_8.getD (Int.toNat av_1) []).getD (Int.toNat byv) (0 : Int)) + ((mx_8.getD (Int.toNat byv) []).getD (Int.toNat b_9) (0 : Int))) < ((mx_8.getD (Int.toNat av_1) []).getD (Int.toNat b_9) (0 : Int)) then wr (((mx_8.getD (Int.toNat av_1) []).getD (Int.toNat byv) (0 : Int)) + ((mx_8.getD (Int.toNat byv) []).getD (Int.toNat b_9) (0 : Int))) else ((mx_8.getD (Int.toNat av_1) []).getD (Int.toNat b_9) (0 : Int)))]) (v0 := (if wr (((mx_8.getD (Int.toNat av_1) []).getD (Int.toNat byv) (0 : Int)) + ((mx_8.getD (Int.toNat byv) []).getD (Int.toNat b_9) (0 : Int))) < ((mx_8.getD (Int.toNat av_1) []).getD (Int.toNat b_9) (0 : Int)) then wr (((mx_8.getD (Int.toNat av_1) []).getD (Int.toNat byv) (0 : Int)) + ((mx_8.getD (Int.toNat byv) []).getD (Int.toNat b_9) (0 : Int))) else ((mx_8.getD (Int.toNat av_1) []).getD (Int.toNat b_9) (0 : Int)))) 2 sz_3 hg_21 hg_28 hk_20 hF rfl rfl rfl rfl hS rfl hM_25 fun rows_26 a w hF hS hbl_15 hM_26 => ?_
       have hlm_25 : (mx_8.set (Int.toNat av_1) ((mx_8.getD (Int.toNat av_1) []).set (Int.toNat b_9) (if wr (((mx_8.getD (Int.toNat av_1) []).getD (Int.toNat byv) (0 : Int)) + ((mx_8.getD (Int.toNat byv) []).getD (Int.toNat b_9) (0 : Int))) < ((mx_8.getD (Int.toNat av_1) []).getD (Int.toNat b_9) (0 : Int)) then wr (((mx_8.getD (Int.toNat av_1) []).getD (Int.toNat byv) (0 : Int)) + ((mx_8.getD (Int.toNat byv) []).getD (Int.toNat b_9) (0 : Int))) else ((mx_8.getD (Int.toNat av_1) []).getD (Int.toNat b_9) (0 : Int))))).length = (List.replicate (Int.toNat (wr (1 + (wr ((c.Rates.length : Int) * (wr (c.Hours + 1))))))) ([] : List Int)).length := by simpa only [List.length_set] using hlm_24
       refine nil (blk_n (then_n ?_))
       refine region ?_
       refine step hF (Y.move hF rfl) rfl fun a hF => ?_
       refine step hF (Y.add hF rfl rfl) rfl fun a hF => ?_
       refine step hF (Y.assign hF rfl) rfl fun a hF => ?_
       refine nil (then_n ?_)
       exact ⟨_, nxt_some h, (wr (b_9 + 1)), (mx_8.set (Int.toNat av_1) ((mx_8.getD (Int.toNat av_1) []).set (Int.toNat b_9) (if wr (((mx_8.getD (Int.toNat av_1) []).getD (Int.toNat byv) (0 : Int)) + ((mx_8.getD (Int.toNat byv) []).getD (Int.toNat b_9) (0 : Int))) < ((mx_8.getD (Int.toNat av_1) []).getD (Int.toNat b_9) (0 : Int)) then wr (((mx_8.getD (Int.toNat av_1) []).getD (Int.toNat byv) (0 : Int)) + ((mx_8.getD (Int.toNat byv) []).getD (Int.toNat b_9) (0 : Int))) else ((mx_8.getD (Int.toNat av_1) []).getD (Int.toNat b_9) (0 : Int))))), rows_26, rfl, hF.weak ⟨rfl, rfl, rfl, rfl, rfl, rfl, rfl, trivial⟩, hS.weak ⟨rfl, rfl, trivial⟩, hM_26, hlm_25⟩
      ·replace h := cond_f h hbv_12
       refine exit_ (then_x (then_x (blk_hit (blk_n (then_n ?_)))))
       replace h := ext_some h hxo_7
       refine region ?_
       refine step hF (Y.move hF rfl) rfl fun a hF => ?_
       refine step hF (Y.add hF rfl rfl) rfl fun a hF => ?_
       refine step hF (Y.assign hF rfl) rfl fun a hF => ?_
       refine nil (then_n ?_)
       exact ⟨_, nxt_some h, (wr (av_1 + 1)), mx_8, rows_25, rfl, hF.weak ⟨rfl, rfl, rfl, rfl, rfl, rfl, trivial⟩, hS.weak ⟨rfl, rfl, trivial⟩, hM_25, hlm_24⟩
     ·replace h := cond_f h hbv_11
      refine exit_ (then_x (then_x (blk_hit (blk_n (then_n ?_)))))
      replace h := ext_some h hxo_6
      refine region ?_
      refine step hF (Y.move hF rfl) rfl fun a hF => ?_
      refine step hF (Y.add hF rfl rfl) rfl fun a hF => ?_
      refine step hF (Y.assign hF rfl) rfl fun a hF => ?_
      refine nil (then_n ?_)
      exact ⟨_, nxt_some h, (wr (byv + 1)), mx_7, rows_24, rfl, hF.weak ⟨rfl, rfl, rfl, rfl, rfl, trivial⟩, hS.weak ⟨rfl, rfl, trivial⟩, hM_24, hlm_23⟩
    ·replace h := cond_f h hbv_10
     refine exit_ (then_x (then_x (blk_hit (then_n ?_))))
     replace h := ext_some h hxo_5
     refine seq ?_
     refine seq ?_
     refine region ?_
     refine step hF (Y.assign hF rfl) rfl fun a hF => ?_
     refine nil (then_n ?_)
     refine block ?_
     refine loop_cut (body := remontoirref02_most_b10 c mx_6) (out := out) (fun s a w => ∃ (v4_0 : (List (List Int))) (v5_0 : Bool) (av_2 : Int), ∃ p_4 c_4, s = (v4_0, v5_0, av_2) ∧ Frm 245 [] [(4, .slice p_4 v4_0.length c_4), (5, .bool v5_0), (6, .int .i64 (wr (1 + (wr ((c.Rates.length : Int) * (wr (c.Hours + 1))))))), (7, .slice (some ⟨b_1, 0, none⟩) (List.replicate (Int.toNat (wr (1 + (wr ((c.Rates.length : Int) * (wr (c.Hours + 1))))))) ([] : List Int)).length (List.replicate (Int.toNat (wr (1 + (wr ((c.Rates.length : Int) * (wr (c.Hours + 1))))))) ([] : List Int)).length), (22, .int .i64 av_2)] a ∧ St w0 D0 Dv_2 [(1, .cells b [.int .i64 c.Hours, .slice p c.Rates.length c_1, .slice p_1 c.Opens.length c_2, .slice p_2 c.Pairs.length c_3] 26), (2, .mat b_1 rows_23 44 3)] w ∧ SRc (C_sl C_int) Dv_2 v4_0 p_4 c_4) (([] : List (List Int)), false, 0) h ⟨([] : List (List Int)), false, 0, none, 0, rfl, hF.weak ⟨rfl, rfl, rfl, rfl, rfl, trivial⟩, hS.weak ⟨rfl, rfl, trivial⟩, SRc.nil⟩ ?_
     rintro s a w xo_8 ⟨v4_0, v5_0, av_2, p_4, c_4, rfl, hF, hS, hs_3⟩ h hxo_8
     unfold remontoirref02_most_b10 at h
     dsimp only at h
     refine seq ?_
     refine seq ?_
     refine region ?_
     refine step hF (Y.move hF rfl) rfl fun a hF => ?_
     refine step hF (Y.move hF rfl) rfl fun a hF => ?_
     refine step hF (Y.lss hF rfl rfl) rfl fun a hF => ?_
     refine nil (then_n ?_)
     refine cond_b hF rfl (fun hbv_13 => ?_) (fun hbv_13 => ?_)
     ·replace h := cond_t h hbv_13
      refine skip_ (then_n ?_)
      refine seq ?_
      refine block ?_
      refine seq ?_
      refine region ?_
      refine step hF (Y.move hF rfl) rfl fun a hF => ?_
      refine step hF (Y.move hF rfl) rfl fun a hF => ?_
      obtain ⟨hg_29, h⟩ := ite_some h
      refine step hF (Y.indexSl u_27 sz_44 hF rfl rfl hg_29.1 (by rw [← hlm_22]; exact hg_29.2)) rfl fun a hF => ?_
      refine step hF (Y.loadRow 2 sz_44 (RepM.guardI hM_23 hg_29) hF rfl hS rfl) rfl fun a hF => ?_
      refine step hF (Y.move hF rfl) rfl fun a hF => ?_
      obtain ⟨hg_30, h⟩ := ite_some h
      obtain ⟨bk_21, hk_21⟩ := hS.rowBlk 2 rfl (RepM.guardI hM_23 hg_29) (RepM.guard hM_23 hg_29 hg_30)
      obtain ⟨cc_22, hc_22, hcell_22⟩ := RepM.el (0 : Int) hM_23 hg_29 hg_30 hk_21
      obtain rfl := hc_22
      refine step hF (Y.indexRow u_44 sz_3 hk_21 (RepM.guard hM_23 hg_29 hg_30) hF rfl rfl) rfl fun a hF => ?_
      refine step hF (Y.load1 sz_3 hF rfl (hcell_22 2 rfl hS 0 _ rfl)) rfl fun a hF => ?_
      refine step hF (Y.lss hF rfl rfl) rfl fun a hF => ?_
      refine nil (then_n ?_)
      refine cond_b hF rfl (fun hbv_14 => ?_) (fun hbv_14 => ?_)
      ·replace h := cond_t h hbv_14
       refine seq ?_
       refine region ?_
       refine step hF (Y.assign hF rfl) rfl fun a hF => ?_
       refine step hF (Y.assign hF rfl) rfl fun a hF => ?_
       refine nil (then_n ?_)
       refine ret_ (blk_r (then_r (then_r (blk_r (then_r ?_)))))
       replace h := ext_some h hxo_8
       obtain rfl := some_inj h
       exact leaveS Tryd.results63 hF hS (.cons (.tmp rfl) (.cons (.tmp rfl) .nil)) .nil ⟨_, _, rfl, SRc.nil⟩
      ·replace h := cond_f h hbv_14
       refine skip_ (blk_n (then_n ?_))
       refine region ?_
       refine step hF (Y.move hF rfl) rfl fun a hF => ?_
       refine step hF (Y.add hF rfl rfl) rfl fun a hF => ?_
       refine step hF (Y.assign hF rfl) rfl fun a hF => ?_
       refine nil (then_n ?_)
       exact ⟨_, nxt_some h, v4_0, v5_0, (wr (av_2 + 1)), p_4, c_4, rfl, hF.weak ⟨rfl, rfl, rfl, rfl, rfl, trivial⟩, hS.weak ⟨rfl, rfl, trivial⟩, hs_3⟩
     ·replace h := cond_f h hbv_13
      refine exit_ (then_x (then_x (blk_hit (then_n ?_))))
      replace h := ext_some h hxo_8
      refine seq ?_
      refine region ?_
      refine step hF (Y.move hF rfl) rfl fun a hF => ?_
      refine step hF (Y.assign hF rfl) rfl fun a hF => ?_
      refine step hF (Y.assign hF rfl) rfl fun a hF => ?_
      refine nil (then_n ?_)
      refine ret_ ?_
      obtain ⟨Dv_4, hlev_4, hs_4, hS⟩ := hS.freezeMat (i := 2) (xs := mx_6) rfl hM_23
      replace hs := hs.mono hlev_4
      replace hs_1 := hs_1.mono hlev_4
      replace hs_2 := hs_2.mono hlev_4
      replace hM := hM.mono hlev_4
      replace hM_1 := hM_1.mono hlev_4
      replace hM_5 := hM_5.mono hlev_4
      replace hM_19 := hM_19.mono hlev_4
      replace hM_23 := hM_23.mono hlev_4
      replace hs_3 := hs_3.mono hlev_4
      rw [← hlm_22] at hF
      obtain rfl := some_inj h
      exact leaveS Tryd.results63 hF hS (.cons (.tmp rfl) (.cons (.tmp rfl) .nil)) .nil ⟨_, _, rfl, hs_4⟩

noncomputable def remontoirref02_asked (c : BeatCellar) (one : Int) (oneHour : Int) (other : Int) (otherHour : Int) : Option (Span × Int) :=
  (remontoirref02_Check c).bind fun rv =>
  cond (rv != 0)
  (some ((Span.mk 0 0), rv))
  ((remontoirref00_Lies one 0 (wr ((c.Rates.length : Int) - 1))).bind fun rv_1 =>
  (cond (!rv_1) (some true) ((remontoirref00_Lies other (-1) (wr ((c.Rates.length : Int) - 1))).bind fun rv_2 =>
  some (!rv_2))).bind fun t =>
  (cond t (some true) ((remontoirref00_Lies oneHour 0 c.Hours).bind fun rv_3 =>
  some (!rv_3))).bind fun t_1 =>
  (cond t_1 (some true) ((remontoirref00_Lies otherHour 0 c.Hours).bind fun rv_4 =>
  some (!rv_4))).bind fun t_2 =>
  cond t_2
  (some ((Span.mk 0 0), 21))
  ((remontoirref02_most c 0).bind fun rv_5 =>
  cond (!rv_5.2)
  (some ((Span.mk 0 0), 22))
  ((remontoirref02_place c one oneHour).bind fun rv_6 =>
  (remontoirref02_place c other otherHour).bind fun rv_7 =>
  (idx rv_5.1 rv_7).bind fun e =>
  (idx e rv_6).bind fun e_1 =>
  (idx rv_5.1 rv_6).bind fun e_2 =>
  (idx e_2 rv_7).bind fun e_3 =>
  (remontoirref00_To (wr (0 - e_1)) e_3).bind fun rv_8 =>
  some (rv_8, 0))))
theorem remontoirref02_asked_ok {w0 : World} {D0 : Stab} (hD : D0.on w0) (c : BeatCellar) (one : Int) (oneHour : Int) (other : Int) (otherHour : Int) {p : Option Addr} {c_1 : Nat} {p_1 : Option Addr} {c_2 : Nat} {p_2 : Option Addr} {c_3 : Nat} (hs : SRc C_Span D0 c.Rates p c_1) (hs_1 : SRc C_BeatOpen D0 c.Opens p_1 c_2) (hs_2 : SRc C_BeatPair D0 c.Pairs p_2 c_3) (out : (Span × Int)) (h : remontoirref02_asked c one oneHour other otherHour = some out) : Calls Tryd.prog 59 [.agg #[.int .i64 c.Hours, .slice p c.Rates.length c_1, .slice p_1 c.Opens.length c_2, .slice p_2 c.Pairs.length c_3], .int .i64 one, .int .i64 oneHour, .int .i64 other, .int .i64 otherHour].toArray w0 (RetP D0 w0 (.tuple #[.agg #[.int .i64 out.1.Low, .int .i64 out.1.High], .int .i64 out.2])) := by
 refine enter _ 86 Tryd.func59 rfl Tryd.ntmps59 rfl fun a hF => ?_
 replace hF : Frm 86 [] [(0, .agg #[.int .i64 c.Hours, .slice p c.Rates.length c_1, .slice p_1 c.Opens.length c_2, .slice p_2 c.Pairs.length c_3]), (1, .int .i64 one), (2, .int .i64 oneHour), (3, .int .i64 other), (4, .int .i64 otherHour)] a := hF
 have hS := St.start hD
 unfold remontoirref02_asked at h
 refine seq ?_
 refine region ?_
 refine O.box (cs := [.int .i64 c.Hours, .slice p c.Rates.length c_1, .slice p_1 c.Opens.length c_2, .slice p_2 c.Pairs.length c_3]) 1 hF rfl rfl hS rfl fun b a w hF hS => ?_
 refine O.alloc 2 zc_34 hF hS rfl fun b_1 a w hF hS => ?_
 refine step hF (Y.assign hF rfl) rfl fun a hF => ?_
 refine nil (then_n ?_)
 refine seq ?_
 refine seq ?_
 refine region ?_
 refine step hF (Y.loadNL 1 sz_26 hF rfl hS rfl rfl rfl) rfl fun a hF => ?_
 obtain ⟨rv, hx, h⟩ := bind_some h
 refine O.callP (us := [.agg #[.int .i64 c.Hours, .slice p c.Rates.length c_1, .slice p_1 c.Opens.length c_2, .slice p_2 c.Pairs.length c_3]]) ca_18 hF hS (remontoirref02_Check_ok hS.stab c hs hs_1 hs_2 rv hx) rfl rfl fun a w hF hS => ?_
 refine step hF (Y.assign hF rfl) rfl fun a hF => ?_
 refine nil (then_n ?_)
 refine seq ?_
 refine region ?_
 refine step hF (Y.move hF rfl) rfl fun a hF => ?_
 refine step hF (Y.neq hF rfl rfl) rfl fun a hF => ?_
 refine nil (then_n ?_)
 refine cond_b hF rfl (fun hbv => ?_) (fun hbv => ?_)
 ·replace h := cond_t h hbv
  refine seq ?_
  refine region ?_
  refine step hF (Y.build (parts := []) (cs := #[.int .i64 0, .int .i64 0]) hF rfl (by kernel_rfl)) rfl fun a hF => ?_
  refine step hF (Y.move hF rfl) rfl fun a hF => ?_
  refine O.store (us := [.int .i64 0, .int .i64 0]) 2 sz_34 hF rfl rfl rfl rfl hS rfl rfl fun a w hF hS => ?_
  refine step hF (Y.assign hF rfl) rfl fun a hF => ?_
  refine nil (then_n ?_)
  refine ret_ (then_r ?_)
  obtain rfl := some_inj h
  exact leaveP Tryd.results59 hF hS (.cons (.cellN 2 sz_34 rfl rfl rfl) (.cons (.tmp rfl) .nil)) .nil rfl
 ·replace h := cond_f h hbv
  refine skip_ (then_n ?_)
  refine seq ?_
  refine seq ?_
  refine region ?_
  refine step hF (Y.move hF rfl) rfl fun a hF => ?_
  refine step hF (Y.fieldAddr fo_26_1 hF rfl) rfl fun a hF => ?_
  refine step hF (Y.load1L 1 sz_22 hF rfl hS rfl rfl) rfl fun a hF => ?_
  refine step hF (Y.lenSl u_22 hF rfl) rfl fun a hF => ?_
  refine step hF (Y.sub hF rfl rfl) rfl fun a hF => ?_
  obtain ⟨rv_1, hx_1, h⟩ := bind_some h
  refine O.callP (us := [.int .i64 one, .int .i64 0, .int .i64 (wr ((c.Rates.length : Int) - 1))]) ca_52 hF hS (remontoirref00_Lies_ok hS.stab one 0 (wr ((c.Rates.length : Int) - 1)) rv_1 hx_1) rfl rfl fun a w hF hS => ?_
  refine step hF (Y.not hF rfl) rfl fun a hF => ?_
  refine step hF (Y.move hF rfl) rfl fun a hF => ?_
  obtain ⟨t, ht, h⟩ := bind_some h
  refine join (N := 86) (rs := []) (w0 := w0) (D0 := D0) 8 (us := [(1, .int .i64 one), (2, .int .i64 oneHour), (3, .int .i64 other), (4, .int .i64 otherHour), (5, .pointer (some ⟨b, 0, none⟩)), (10, .pointer (some ⟨b_1, 0, none⟩)), (11, .int .i64 0), (38, .bool t)]) (ms := [(1, .cells b [.int .i64 c.Hours, .slice p c.Rates.length c_1, .slice p_1 c.Opens.length c_2, .slice p_2 c.Pairs.length c_3] 26), (2, .cells b_1 [.int .i64 0, .int .i64 0] 34)]) (D' := D0) ?_ ?_
  ·rcases bcases (!rv_1) with hbv_1 | hbv_1
   ·-- true
    replace h := cond_t ht hbv_1
    refine guard_off hF rfl rfl hbv_1 rfl fun a hF => ?_
    refine guard_off hF rfl rfl hbv_1 rfl fun a hF => ?_
    refine guard_off hF rfl rfl hbv_1 rfl fun a hF => ?_
    refine guard_off hF rfl rfl hbv_1 rfl fun a hF => ?_
    refine guard_off hF rfl rfl hbv_1 rfl fun a hF => ?_
    refine guard_off hF rfl rfl hbv_1 rfl fun a hF => ?_
    refine guard_off hF rfl rfl hbv_1 rfl fun a hF => ?_
    refine step hF (Y.pick_t hF rfl hbv_1 rfl) rfl fun a hF => ?_
    obtain rfl := some_inj h
    exact nil (then_n ⟨hF.weak ⟨rfl, rfl, rfl, rfl, rfl, rfl, rfl, rfl, trivial⟩, hS.weak ⟨rfl, rfl, trivial⟩⟩)
   ·-- false
    replace h := cond_f ht hbv_1
    refine guard_on hF rfl rfl hbv_1 ?_
    refine step hF (Y.move hF rfl) rfl fun a hF => ?_
    refine guard_on hF rfl rfl hbv_1 ?_
    refine step hF (Y.fieldAddr fo_26_1 hF rfl) rfl fun a hF => ?_
    refine guard_on hF rfl rfl hbv_1 ?_
    refine step hF (Y.load1L 1 sz_22 hF rfl hS rfl rfl) rfl fun a hF => ?_
    refine guard_on hF rfl rfl hbv_1 ?_
    refine step hF (Y.lenSl u_22 hF rfl) rfl fun a hF => ?_
    refine guard_on hF rfl rfl hbv_1 ?_
    refine step hF (Y.sub hF rfl rfl) rfl fun a hF => ?_
    refine guard_on hF rfl rfl hbv_1 ?_
    obtain ⟨rv_2, hx_2, h⟩ := bind_some h
    refine O.callP (us := [.int .i64 other, .int .i64 (-1), .int .i64 (wr ((c.Rates.length : Int) - 1))]) ca_52 hF hS (remontoirref00_Lies_ok hS.stab other (-1) (wr ((c.Rates.length : Int) - 1)) rv_2 hx_2) rfl rfl fun a w hF hS => ?_
    refine guard_on hF rfl rfl hbv_1 ?_
    refine step hF (Y.not hF rfl) rfl fun a hF => ?_
    refine step hF (Y.pick_f hF rfl hbv_1 rfl) rfl fun a hF => ?_
    obtain rfl := some_inj h
    exact nil (then_n ⟨hF.weak ⟨rfl, rfl, rfl, rfl, rfl, rfl, rfl, rfl, trivial⟩, hS.weak ⟨rfl, rfl, trivial⟩⟩)
  intro a w hF hS
  refine step hF (Y.move hF rfl) rfl fun a hF => ?_
  obtain ⟨t_1, ht_1, h⟩ := bind_some h
  refine join (N := 86) (rs := []) (w0 := w0) (D0 := D0) 6 (us := [(1, .int .i64 one), (2, .int .i64 oneHour), (3, .int .i64 other), (4, .int .i64 otherHour), (5, .pointer (some ⟨b, 0, none⟩)), (10, .pointer (some ⟨b_1, 0, none⟩)), (11, .int .i64 0), (45, .bool t_1)]) (ms := [(1, .cells b [.int .i64 c.Hours, .slice p c.Rates.length c_1, .slice p_1 c.Opens.length c_2, .slice p_2 c.Pairs.length c_3] 26), (2, .cells b_1 [.int .i64 0, .int .i64 0] 34)]) (D' := D0) ?_ ?_
  ·rcases bcases t with hbv_2 | hbv_2
   ·-- true
    replace h := cond_t ht_1 hbv_2
    refine guard_off hF rfl rfl hbv_2 rfl fun a hF => ?_
    refine guard_off hF rfl rfl hbv_2 rfl fun a hF => ?_
    refine guard_off hF rfl rfl hbv_2 rfl fun a hF => ?_
    refine guard_off hF rfl rfl hbv_2 rfl fun a hF => ?_
    refine guard_off hF rfl rfl hbv_2 rfl fun a hF => ?_
    refine step hF (Y.pick_t hF rfl hbv_2 rfl) rfl fun a hF => ?_
    obtain rfl := some_inj h
    exact nil (then_n ⟨hF.weak ⟨rfl, rfl, rfl, rfl, rfl, rfl, rfl, rfl, trivial⟩, hS.weak ⟨rfl, rfl, trivial⟩⟩)
   ·-- false
    replace h := cond_f ht_1 hbv_2
    refine guard_on hF rfl rfl hbv_2 ?_
    refine step hF (Y.move hF rfl) rfl fun a hF => ?_
    refine guard_on hF rfl rfl hbv_2 ?_
    refine step hF (Y.fieldAddr fo_26_0 hF rfl) rfl fun a hF => ?_
    refine guard_on hF rfl rfl hbv_2 ?_
    refine step hF (Y.load1L 1 sz_3 hF rfl hS rfl rfl) rfl fun a hF => ?_
    refine guard_on hF rfl rfl hbv_2 ?_
    obtain ⟨rv_3, hx_3, h⟩ := bind_some h
    refine O.callP (us := [.int .i64 oneHour, .int .i64 0, .int .i64 c.Hours]) ca_52 hF hS (remontoirref00_Lies_ok hS.stab oneHour 0 c.Hours rv_3 hx_3) rfl rfl fun a w hF hS => ?_
    refine guard_on hF rfl rfl hbv_2 ?_
    refine step hF (Y.not hF rfl) rfl fun a hF => ?_
    refine step hF (Y.pick_f hF rfl hbv_2 rfl) rfl fun a hF => ?_
    obtain rfl := some_inj h
    exact nil (then_n ⟨hF.weak ⟨rfl, rfl, rfl, rfl, rfl, rfl, rfl, rfl, trivial⟩, hS.weak ⟨rfl, rfl, trivial⟩⟩)
  intro a w hF hS
  refine step hF (Y.move hF rfl) rfl fun a hF => ?_
  obtain ⟨t_2, ht_2, h⟩ := bind_some h
  refine join (N := 86) (rs := []) (w0 := w0) (D0 := D0) 6 (us := [(1, .int .i64 one), (2, .int .i64 oneHour), (3, .int .i64 other), (4, .int .i64 otherHour), (5, .pointer (some ⟨b, 0, none⟩)), (10, .pointer (some ⟨b_1, 0, none⟩)), (11, .int .i64 0), (52, .bool t_2)]) (ms := [(1, .cells b [.int .i64 c.Hours, .slice p c.Rates.length c_1, .slice p_1 c.Opens.length c_2, .slice p_2 c.Pairs.length c_3] 26), (2, .cells b_1 [.int .i64 0, .int .i64 0] 34)]) (D' := D0) ?_ ?_
  ·rcases bcases t_1 with hbv_3 | hbv_3
   ·-- true
    replace h := cond_t ht_2 hbv_3
    refine guard_off hF rfl rfl hbv_3 rfl fun a hF => ?_
    refine guard_off hF rfl rfl hbv_3 rfl fun a hF => ?_
    refine guard_off hF rfl rfl hbv_3 rfl fun a hF => ?_
    refine guard_off hF rfl rfl hbv_3 rfl fun a hF => ?_
    refine guard_off hF rfl rfl hbv_3 rfl fun a hF => ?_
    refine step hF (Y.pick_t hF rfl hbv_3 rfl) rfl fun a hF => ?_
    obtain rfl := some_inj h
    exact nil (then_n ⟨hF.weak ⟨rfl, rfl, rfl, rfl, rfl, rfl, rfl, rfl, trivial⟩, hS.weak ⟨rfl, rfl, trivial⟩⟩)
   ·-- false
    replace h := cond_f ht_2 hbv_3
    refine guard_on hF rfl rfl hbv_3 ?_
    refine step hF (Y.move hF rfl) rfl fun a hF => ?_
    refine guard_on hF rfl rfl hbv_3 ?_
    refine step hF (Y.fieldAddr fo_26_0 hF rfl) rfl fun a hF => ?_
    refine guard_on hF rfl rfl hbv_3 ?_
    refine step hF (Y.load1L 1 sz_3 hF rfl hS rfl rfl) rfl fun a hF => ?_
    refine guard_on hF rfl rfl hbv_3 ?_
    obtain ⟨rv_4, hx_4, h⟩ := bind_some h
    refine O.callP (us := [.int .i64 otherHour, .int .i64 0, .int .i64 c.Hours]) ca_52 hF hS (remontoirref00_Lies_ok hS.stab otherHour 0 c.Hours rv_4 hx_4) rfl rfl fun a w hF hS => ?_
    refine guard_on hF rfl rfl hbv_3 ?_
    refine step hF (Y.not hF rfl) rfl fun a hF => ?_
    refine step hF (Y.pick_f hF rfl hbv_3 rfl) rfl fun a hF => ?_
    obtain rfl := some_inj h
    exact nil (then_n ⟨hF.weak ⟨rfl, rfl, rfl, rfl, rfl, rfl, rfl, rfl, trivial⟩, hS.weak ⟨rfl, rfl, trivial⟩⟩)
  intro a w hF hS
  refine nil (then_n ?_)
  refine cond_b hF rfl (fun hbv_4 => ?_) (fun hbv_4 => ?_)
  ·replace h := cond_t h hbv_4
   refine seq ?_
   refine region ?_
   refine step hF (Y.build (parts := []) (cs := #[.int .i64 0, .int .i64 0]) hF rfl (by kernel_rfl)) rfl fun a hF => ?_
   refine O.store (us := [.int .i64 0, .int .i64 0]) 2 sz_34 hF rfl rfl rfl rfl hS rfl rfl fun a w hF hS => ?_
   refine step hF (Y.assign hF rfl) rfl fun a hF => ?_
   refine nil (then_n ?_)
   refine ret_ (then_r ?_)
   obtain rfl := some_inj h
   exact leaveP Tryd.results59 hF hS (.cons (.cellN 2 sz_34 rfl rfl rfl) (.cons (.tmp rfl) .nil)) .nil rfl
  ·replace h := cond_f h hbv_4
   refine skip_ (then_n ?_)
   refine seq ?_
   refine region ?_
   refine step hF (Y.loadNL 1 sz_26 hF rfl hS rfl rfl rfl) rfl fun a hF => ?_
   obtain ⟨rv_5, hx_5, h⟩ := bind_some h
   refine O.callS (us := [.agg #[.int .i64 c.Hours, .slice p c.Rates.length c_1, .slice p_1 c.Opens.length c_2, .slice p_2 c.Pairs.length c_3], .int .i64 0]) ca_63 hF hS (remontoirref02_most_ok hS.stab c 0 hs hs_1 hs_2 rv_5 hx_5) rfl rfl fun v Dv a w hR hlev hF hS => ?_
   replace hs := hs.mono hlev
   replace hs_1 := hs_1.mono hlev
   replace hs_2 := hs_2.mono hlev
   obtain ⟨p_3, c_4, rfl, hs_3⟩ := hR
   refine step hF (Y.move hF rfl) rfl fun a hF => ?_
   refine step hF (Y.extract hF rfl rfl) rfl fun a hF => ?_
   refine step hF (Y.extract hF rfl rfl) rfl fun a hF => ?_
   refine step hF (Y.assign hF rfl) rfl fun a hF => ?_
   refine step hF (Y.assign hF rfl) rfl fun a hF => ?_
   refine nil (then_n ?_)
   refine seq ?_
   refine seq ?_
   refine region ?_
   refine step hF (Y.move hF rfl) rfl fun a hF => ?_
   refine step hF (Y.not hF rfl) rfl fun a hF => ?_
   refine nil (then_n ?_)
   refine cond_b hF rfl (fun hbv_5 => ?_) (fun hbv_5 => ?_)
   ·replace h := cond_t h hbv_5
    refine seq ?_
    refine region ?_
    refine step hF (Y.build (parts := []) (cs := #[.int .i64 0, .int .i64 0]) hF rfl (by kernel_rfl)) rfl fun a hF => ?_
    refine O.store (us := [.int .i64 0, .int .i64 0]) 2 sz_34 hF rfl rfl rfl rfl hS rfl rfl fun a w hF hS => ?_
    refine step hF (Y.assign hF rfl) rfl fun a hF => ?_
    refine nil (then_n ?_)
    refine ret_ (then_r ?_)
    obtain rfl := some_inj h
    exact leaveP Tryd.results59 hF hS (.cons (.cellN 2 sz_34 rfl rfl rfl) (.cons (.tmp rfl) .nil)) .nil rfl
   ·replace h := cond_f h hbv_5
    refine skip_ (then_n ?_)
    refine seq ?_
    obtain ⟨rv_6, hx_6, h⟩ := bind_some h
    refine drawsV 7 (.flt 0 (.flt 1 (.flt 2 (.flt 4 (.flt 5 (.flt 6 (.alt 3 .done .stop))))))) mixed_ (by kernel_rfl) (fun w => St w0 D0 Dv [(1, .cells b [.int .i64 c.Hours, .slice p c.Rates.length c_1, .slice p_1 c.Opens.length c_2, .slice p_2 c.Pairs.length c_3] 26), (2, .cells b_1 [.int .i64 0, .int .i64 0] 34)] w) (fun a w => Frm 86 [] [(10, .pointer (some ⟨b_1, 0, none⟩)), (11, .int .i64 0), (13, .slice p_3 rv_5.1.length c_4), (65, .int .i64 rv_6), (66, .agg #[.int .i64 c.Hours, .slice p c.Rates.length c_1, .slice p_1 c.Opens.length c_2, .slice p_2 c.Pairs.length c_3]), (67, .int .i64 other), (68, .int .i64 otherHour)] a ∧ St w0 D0 Dv [(1, .cells b [.int .i64 c.Hours, .slice p c.Rates.length c_1, .slice p_1 c.Opens.length c_2, .slice p_2 c.Pairs.length c_3] 26), (2, .cells b_1 [.int .i64 0, .int .i64 0] 34)] w) (hS.weak (ms := [(1, .cells b [.int .i64 c.Hours, .slice p c.Rates.length c_1, .slice p_1 c.Opens.length c_2, .slice p_2 c.Pairs.length c_3] 26), (2, .cells b_1 [.int .i64 0, .int .i64 0] 34)]) ⟨rfl, rfl, trivial⟩).drew (fun _ _ _ _ h => h) ?_ ?_
    ·replace hS := hS.drew
     have hle0 := hS.le
     refine stepV (i := 0) rfl hF (fun w hS => Y.loadNL 1 sz_26 hF rfl hS rfl rfl rfl) rfl fun a hF => ?_
     refine stepV (i := 1) rfl hF (fun w hS => Y.move hF rfl) rfl fun a hF => ?_
     refine stepV (i := 2) rfl hF (fun w hS => Y.move hF rfl) rfl fun a hF => ?_
     refine stepV (i := 4) rfl hF (fun w hS => Y.loadNL 1 sz_26 hF rfl hS rfl rfl rfl) rfl fun a hF => ?_
     refine stepV (i := 5) rfl hF (fun w hS => Y.move hF rfl) rfl fun a hF => ?_
     refine stepV (i := 6) rfl hF (fun w hS => Y.move hF rfl) rfl fun a hF => ?_
     refine oneV (i := 3) rfl ?_ trivial
     refine O.callP (us := [.agg #[.int .i64 c.Hours, .slice p c.Rates.length c_1, .slice p_1 c.Opens.length c_2, .slice p_2 c.Pairs.length c_3], .int .i64 one, .int .i64 oneHour]) ca_73 hF hS (remontoirref02_place_ok hS.stab c one oneHour hs hs_1 hs_2 rv_6 hx_6) rfl rfl fun a w hF hS => ?_
     refine nil (then_n ⟨hS.weak (ms := [(1, .cells b [.int .i64 c.Hours, .slice p c.Rates.length c_1, .slice p_1 c.Opens.length c_2, .slice p_2 c.Pairs.length c_3] 26), (2, .cells b_1 [.int .i64 0, .int .i64 0] 34)]) ⟨rfl, rfl, trivial⟩, ?_⟩)
     exact toTailV ⟨hF.weak ⟨rfl, rfl, rfl, rfl, rfl, rfl, rfl, trivial⟩, hS.weak ⟨rfl, rfl, trivial⟩⟩
    rintro a w ⟨hF, hS⟩
    obtain ⟨rv_7, hx_7, h⟩ := bind_some h
    refine O.callP (us := [.agg #[.int .i64 c.Hours, .slice p c.Rates.length c_1, .slice p_1 c.Opens.length c_2, .slice p_2 c.Pairs.length c_3], .int .i64 other, .int .i64 otherHour]) ca_73 hF hS (remontoirref02_place_ok hS.stab c other otherHour hs hs_1 hs_2 rv_7 hx_7) rfl rfl fun a w hF hS => ?_
    refine step hF (Y.assign hF rfl) rfl fun a hF => ?_
    refine step hF (Y.assign hF rfl) rfl fun a hF => ?_
    refine nil (then_n ?_)
    refine seq ?_
    refine draws 15 [(0, true), (1, true), (2, true), (3, true), (4, true), (5, true), (6, true), (7, true), (8, true), (9, true), (10, true), (11, true), (12, true), (13, true), (14, true)] mixed_ (by kernel_rfl) (fun w => St w0 D0 Dv _ w) hS.drew (fun _ _ _ _ h => h) ?_
    replace hS := hS.drew
    refine stepT (i := 0) rfl hF (fun w hS => Y.move hF rfl) rfl fun a hF => ?_
    refine stepT (i := 1) rfl hF (fun w hS => Y.move hF rfl) rfl fun a hF => ?_
    obtain ⟨e, hx_8, h⟩ := bind_some h
    obtain ⟨b_2, o, hE, hY⟩ := Y.indexS (P := Tryd.prog) (C := (C_sl C_int)) (xs := rv_5.1) (T := 27) (x := (.tmp 70)) (y := (.tmp 71)) u_27 sz_44 hF rfl rfl (hs_3).1 hx_8
    obtain ⟨cc, hc, hcell⟩ := hE.open
    obtain ⟨p_4, c_5, rfl, hs_4⟩ := hc
    refine stepT (i := 2) rfl hF (fun w hS => hY) rfl fun a hF => ?_
    refine stepT (i := 3) rfl hF (fun w hS => Y.load1 sz_44 hF rfl (hcell _ hS.stab 0 _ rfl)) rfl fun a hF => ?_
    refine stepT (i := 4) rfl hF (fun w hS => Y.move hF rfl) rfl fun a hF => ?_
    obtain ⟨e_1, hx_9, h⟩ := bind_some h
    obtain ⟨b_3, o_1, hE_1, hY_1⟩ := Y.indexS (P := Tryd.prog) (C := C_int) (xs := e) (T := 44) (x := (.tmp 73)) (y := (.tmp 74)) u_44 sz_3 hF rfl rfl (hs_4).1 hx_9
    obtain ⟨cc_1, hc_1, hcell_1⟩ := hE_1.open
    obtain rfl := hc_1
    refine stepT (i := 5) rfl hF (fun w hS => hY_1) rfl fun a hF => ?_
    refine stepT (i := 6) rfl hF (fun w hS => Y.load1 sz_3 hF rfl (hcell_1 _ hS.stab 0 _ rfl)) rfl fun a hF => ?_
    refine stepT (i := 7) rfl hF (fun w hS => Y.neg hF rfl) rfl fun a hF => ?_
    refine stepT (i := 8) rfl hF (fun w hS => Y.move hF rfl) rfl fun a hF => ?_
    refine stepT (i := 9) rfl hF (fun w hS => Y.move hF rfl) rfl fun a hF => ?_
    obtain ⟨e_2, hx_10, h⟩ := bind_some h
    obtain ⟨b_4, o_2, hE_2, hY_2⟩ := Y.indexS (P := Tryd.prog) (C := (C_sl C_int)) (xs := rv_5.1) (T := 27) (x := (.tmp 78)) (y := (.tmp 79)) u_27 sz_44 hF rfl rfl (hs_3).1 hx_10
    obtain ⟨cc_2, hc_2, hcell_2⟩ := hE_2.open
    obtain ⟨p_5, c_6, rfl, hs_5⟩ := hc_2
    refine stepT (i := 10) rfl hF (fun w hS => hY_2) rfl fun a hF => ?_
    refine stepT (i := 11) rfl hF (fun w hS => Y.load1 sz_44 hF rfl (hcell_2 _ hS.stab 0 _ rfl)) rfl fun a hF => ?_
    refine stepT (i := 12) rfl hF (fun w hS => Y.move hF rfl) rfl fun a hF => ?_
    obtain ⟨e_3, hx_11, h⟩ := bind_some h
    obtain ⟨b_5, o_3, hE_3, hY_3⟩ := Y.indexS (P := Tryd.prog) (C := C_int) (xs := e_2) (T := 44) (x := (.tmp 81)) (y := (.tmp 82)) u_44 sz_3 hF rfl rfl (hs_5).1 hx_11
    obtain ⟨cc_3, hc_3, hcell_3⟩ := hE_3.open
    obtain rfl := hc_3
    refine stepT (i := 13) rfl hF (fun w hS => hY_3) rfl fun a hF => ?_
    refine stepT (i := 14) rfl hF (fun w hS => Y.load1 sz_3 hF rfl (hcell_3 _ hS.stab 0 _ rfl)) rfl fun a hF => ?_
    refine toTail ?_
    obtain ⟨rv_8, hx_12, h⟩ := bind_some h
    refine O.callP (us := [.int .i64 (wr (0 - e_1)), .int .i64 e_3]) ca_37 hF hS (remontoirref00_To_ok hS.stab (wr (0 - e_1)) e_3 rv_8 hx_12) rfl rfl fun a w hF hS => ?_
    refine O.store (us := [.int .i64 rv_8.Low, .int .i64 rv_8.High]) 2 sz_34 hF rfl rfl rfl rfl hS rfl rfl fun a w hF hS => ?_
    refine step hF (Y.assign hF rfl) rfl fun a hF => ?_
    refine nil (then_n ?_)
    refine ret_ ?_
    obtain rfl := some_inj h
    exact leaveP Tryd.results59 hF hS (.cons (.cellN 2 sz_34 rfl rfl rfl) (.cons (.tmp rfl) .nil)) .nil rfl

noncomputable def remontoirref02_Offset (c : BeatCellar) (clock : Int) (hour : Int) : Option (Span × Int) :=
  (remontoirref02_asked c clock hour (-1) 0).bind fun rv =>
  some (rv.1, rv.2)
theorem remontoirref02_Offset_ok {w0 : World} {D0 : Stab} (hD : D0.on w0) (c : BeatCellar) (clock : Int) (hour : Int) {p : Option Addr} {c_1 : Nat} {p_1 : Option Addr} {c_2 : Nat} {p_2 : Option Addr} {c_3 : Nat} (hs : SRc C_Span D0 c.Rates p c_1) (hs_1 : SRc C_BeatOpen D0 c.Opens p_1 c_2) (hs_2 : SRc C_BeatPair D0 c.Pairs p_2 c_3) (out : (Span × Int)) (h : remontoirref02_Offset c clock hour = some out) : Calls Tryd.prog 20 [.agg #[.int .i64 c.Hours, .slice p c.Rates.length c_1, .slice p_1 c.Opens.length c_2, .slice p_2 c.Pairs.length c_3], .int .i64 clock, .int .i64 hour].toArray w0 (RetP D0 w0 (.tuple #[.agg #[.int .i64 out.1.Low, .int .i64 out.1.High], .int .i64 out.2])) := by
 refine enter _ 14 Tryd.func20 rfl Tryd.ntmps20 rfl fun a hF => ?_
 replace hF : Frm 14 [] [(0, .agg #[.int .i64 c.Hours, .slice p c.Rates.length c_1, .slice p_1 c.Opens.length c_2, .slice p_2 c.Pairs.length c_3]), (1, .int .i64 clock), (2, .int .i64 hour)] a := hF
 have hS := St.start hD
 unfold remontoirref02_Offset at h
 refine seq ?_
 refine region ?_
 refine O.box (cs := [.int .i64 c.Hours, .slice p c.Rates.length c_1, .slice p_1 c.Opens.length c_2, .slice p_2 c.Pairs.length c_3]) 1 hF rfl rfl hS rfl fun b a w hF hS => ?_
 refine O.alloc 2 zc_34 hF hS rfl fun b_1 a w hF hS => ?_
 refine step hF (Y.assign hF rfl) rfl fun a hF => ?_
 refine nil (then_n ?_)
 refine seq ?_
 refine region ?_
 refine step hF (Y.loadNL 1 sz_26 hF rfl hS rfl rfl rfl) rfl fun a hF => ?_
 refine step hF (Y.move hF rfl) rfl fun a hF => ?_
 refine step hF (Y.move hF rfl) rfl fun a hF => ?_
 obtain ⟨rv, hx, h⟩ := bind_some h
 refine O.callP (us := [.agg #[.int .i64 c.Hours, .slice p c.Rates.length c_1, .slice p_1 c.Opens.length c_2, .slice p_2 c.Pairs.length c_3], .int .i64 clock, .int .i64 hour, .int .i64 (-1), .int .i64 0]) ca_59 hF hS (remontoirref02_asked_ok hS.stab c clock hour (-1) 0 hs hs_1 hs_2 rv hx) rfl rfl fun a w hF hS => ?_
 refine step hF (Y.extract hF rfl rfl) rfl fun a hF => ?_
 refine step hF (Y.extract hF rfl rfl) rfl fun a hF => ?_
 refine O.store (us := [.int .i64 rv.1.Low, .int .i64 rv.1.High]) 2 sz_34 hF rfl rfl rfl rfl hS rfl rfl fun a w hF hS => ?_
 refine step hF (Y.assign hF rfl) rfl fun a hF => ?_
 refine nil (then_n ?_)
 refine ret_ ?_
 obtain rfl := some_inj h
 exact leaveP Tryd.results20 hF hS (.cons (.cellN 2 sz_34 rfl rfl rfl) (.cons (.tmp rfl) .nil)) .nil rfl

noncomputable def remontoirref02_Apart (c : BeatCellar) (one : Int) (other : Int) (hour : Int) : Option (Span × Int) :=
  (remontoirref02_Check c).bind fun rv =>
  cond ((rv == 0) && (decide (other < 0)))
  (some ((Span.mk 0 0), 21))
  ((remontoirref02_asked c one hour other hour).bind fun rv_1 =>
  some (rv_1.1, rv_1.2))
theorem remontoirref02_Apart_ok {w0 : World} {D0 : Stab} (hD : D0.on w0) (c : BeatCellar) (one : Int) (other : Int) (hour : Int) {p : Option Addr} {c_1 : Nat} {p_1 : Option Addr} {c_2 : Nat} {p_2 : Option Addr} {c_3 : Nat} (hs : SRc C_Span D0 c.Rates p c_1) (hs_1 : SRc C_BeatOpen D0 c.Opens p_1 c_2) (hs_2 : SRc C_BeatPair D0 c.Pairs p_2 c_3) (out : (Span × Int)) (h : remontoirref02_Apart c one other hour = some out) : Calls Tryd.prog 23 [.agg #[.int .i64 c.Hours, .slice p c.Rates.length c_1, .slice p_1 c.Opens.length c_2, .slice p_2 c.Pairs.length c_3], .int .i64 one, .int .i64 other, .int .i64 hour].toArray w0 (RetP D0 w0 (.tuple #[.agg #[.int .i64 out.1.Low, .int .i64 out.1.High], .int .i64 out.2])) := by
 refine enter _ 28 Tryd.func23 rfl Tryd.ntmps23 rfl fun a hF => ?_
 replace hF : Frm 28 [] [(0, .agg #[.int .i64 c.Hours, .slice p c.Rates.length c_1, .slice p_1 c.Opens.length c_2, .slice p_2 c.Pairs.length c_3]), (1, .int .i64 one), (2, .int .i64 other), (3, .int .i64 hour)] a := hF
 have hS := St.start hD
 unfold remontoirref02_Apart at h
 refine seq ?_
 refine region ?_
 refine O.box (cs := [.int .i64 c.Hours, .slice p c.Rates.length c_1, .slice p_1 c.Opens.length c_2, .slice p_2 c.Pairs.length c_3]) 1 hF rfl rfl hS rfl fun b a w hF hS => ?_
 refine O.alloc 2 zc_34 hF hS rfl fun b_1 a w hF hS => ?_
 refine step hF (Y.assign hF rfl) rfl fun a hF => ?_
 refine nil (then_n ?_)
 refine seq ?_
 refine seq ?_
 refine region ?_
 refine step hF (Y.loadNL 1 sz_26 hF rfl hS rfl rfl rfl) rfl fun a hF => ?_
 obtain ⟨rv, hx, h⟩ := bind_some h
 refine O.callP (us := [.agg #[.int .i64 c.Hours, .slice p c.Rates.length c_1, .slice p_1 c.Opens.length c_2, .slice p_2 c.Pairs.length c_3]]) ca_18 hF hS (remontoirref02_Check_ok hS.stab c hs hs_1 hs_2 rv hx) rfl rfl fun a w hF hS => ?_
 refine step hF (Y.assign hF rfl) rfl fun a hF => ?_
 refine nil (then_n ?_)
 refine seq ?_
 refine region ?_
 refine step hF (Y.move hF rfl) rfl fun a hF => ?_
 refine step hF (Y.eql hF rfl rfl) rfl fun a hF => ?_
 refine step hF (Y.move hF rfl) rfl fun a hF => ?_
 refine join (N := 28) (rs := []) (w0 := w0) (D0 := D0) 3 (us := [(1, .int .i64 one), (2, .int .i64 other), (3, .int .i64 hour), (4, .pointer (some ⟨b, 0, none⟩)), (8, .pointer (some ⟨b_1, 0, none⟩)), (9, .int .i64 0), (18, .bool ((rv == 0) && (decide (other < 0))))]) (ms := [(1, .cells b [.int .i64 c.Hours, .slice p c.Rates.length c_1, .slice p_1 c.Opens.length c_2, .slice p_2 c.Pairs.length c_3] 26), (2, .cells b_1 [.int .i64 0, .int .i64 0] 34)]) (D' := D0) ?_ ?_
 ·rcases bcases (rv == 0) with hbv | hbv
  ·-- true
   refine guard_on hF rfl rfl hbv ?_
   refine step hF (Y.move hF rfl) rfl fun a hF => ?_
   refine guard_on hF rfl rfl hbv ?_
   refine step hF (Y.lss hF rfl rfl) rfl fun a hF => ?_
   refine step hF (Y.pick_t hF rfl hbv rfl) rfl fun a hF => ?_
   exact nil (then_n ⟨hF.weak ⟨rfl, rfl, rfl, rfl, rfl, rfl, (by rw [hbv]; rfl), trivial⟩, hS.weak ⟨rfl, rfl, trivial⟩⟩)
  ·-- false
   refine guard_off hF rfl rfl hbv rfl fun a hF => ?_
   refine guard_off hF rfl rfl hbv rfl fun a hF => ?_
   refine step hF (Y.pick_f hF rfl hbv rfl) rfl fun a hF => ?_
   exact nil (then_n ⟨hF.weak ⟨rfl, rfl, rfl, rfl, rfl, rfl, (by rw [hbv]; rfl), trivial⟩, hS.weak ⟨rfl, rfl, trivial⟩⟩)
 intro a w hF hS
 refine nil (then_n ?_)
 refine cond_b hF rfl (fun hbv_1 => ?_) (fun hbv_1 => ?_)
 ·replace h := cond_t h hbv_1
  refine seq ?_
  refine region ?_
  refine step hF (Y.build (parts := []) (cs := #[.int .i64 0, .int .i64 0]) hF rfl (by kernel_rfl)) rfl fun a hF => ?_
  refine O.store (us := [.int .i64 0, .int .i64 0]) 2 sz_34 hF rfl rfl rfl rfl hS rfl rfl fun a w hF hS => ?_
  refine step hF (Y.assign hF rfl) rfl fun a hF => ?_
  refine nil (then_n ?_)
  refine ret_ (then_r ?_)
  obtain rfl := some_inj h
  exact leaveP Tryd.results23 hF hS (.cons (.cellN 2 sz_34 rfl rfl rfl) (.cons (.tmp rfl) .nil)) .nil rfl
 ·replace h := cond_f h hbv_1
  refine skip_ (then_n ?_)
  refine seq ?_
  refine region ?_
  refine step hF (Y.loadNL 1 sz_26 hF rfl hS rfl rfl rfl) rfl fun a hF => ?_
  refine step hF (Y.move hF rfl) rfl fun a hF => ?_
  refine step hF (Y.move hF rfl) rfl fun a hF => ?_
  refine step hF (Y.move hF rfl) rfl fun a hF => ?_
  refine step hF (Y.move hF rfl) rfl fun a hF => ?_
  obtain ⟨rv_1, hx_1, h⟩ := bind_some h
  refine O.callP (us := [.agg #[.int .i64 c.Hours, .slice p c.Rates.length c_1, .slice p_1 c.Opens.length c_2, .slice p_2 c.Pairs.length c_3], .int .i64 one, .int .i64 hour, .int .i64 other, .int .i64 hour]) ca_59 hF hS (remontoirref02_asked_ok hS.stab c one hour other hour hs hs_1 hs_2 rv_1 hx_1) rfl rfl fun a w hF hS => ?_
  refine step hF (Y.extract hF rfl rfl) rfl fun a hF => ?_
  refine step hF (Y.extract hF rfl rfl) rfl fun a hF => ?_
  refine O.store (us := [.int .i64 rv_1.1.Low, .int .i64 rv_1.1.High]) 2 sz_34 hF rfl rfl rfl rfl hS rfl rfl fun a w hF hS => ?_
  refine step hF (Y.assign hF rfl) rfl fun a hF => ?_
  refine nil (then_n ?_)
  refine ret_ ?_
  obtain rfl := some_inj h
  exact leaveP Tryd.results23 hF hS (.cons (.cellN 2 sz_34 rfl rfl rfl) (.cons (.tmp rfl) .nil)) .nil rfl

noncomputable def remontoirref02_Drift (c : BeatCellar) (clock : Int) (fromv : Int) (untilv : Int) : Option (Span × Int) :=
  (remontoirref02_Check c).bind fun rv =>
  cond ((rv == 0) && (decide (clock < 0)))
  (some ((Span.mk 0 0), 21))
  ((remontoirref02_asked c clock untilv clock fromv).bind fun rv_1 =>
  some (rv_1.1, rv_1.2))
theorem remontoirref02_Drift_ok {w0 : World} {D0 : Stab} (hD : D0.on w0) (c : BeatCellar) (clock : Int) (fromv : Int) (untilv : Int) {p : Option Addr} {c_1 : Nat} {p_1 : Option Addr} {c_2 : Nat} {p_2 : Option Addr} {c_3 : Nat} (hs : SRc C_Span D0 c.Rates p c_1) (hs_1 : SRc C_BeatOpen D0 c.Opens p_1 c_2) (hs_2 : SRc C_BeatPair D0 c.Pairs p_2 c_3) (out : (Span × Int)) (h : remontoirref02_Drift c clock fromv untilv = some out) : Calls Tryd.prog 25 [.agg #[.int .i64 c.Hours, .slice p c.Rates.length c_1, .slice p_1 c.Opens.length c_2, .slice p_2 c.Pairs.length c_3], .int .i64 clock, .int .i64 fromv, .int .i64 untilv].toArray w0 (RetP D0 w0 (.tuple #[.agg #[.int .i64 out.1.Low, .int .i64 out.1.High], .int .i64 out.2])) := by
 refine enter _ 28 Tryd.func25 rfl Tryd.ntmps25 rfl fun a hF => ?_
 replace hF : Frm 28 [] [(0, .agg #[.int .i64 c.Hours, .slice p c.Rates.length c_1, .slice p_1 c.Opens.length c_2, .slice p_2 c.Pairs.length c_3]), (1, .int .i64 clock), (2, .int .i64 fromv), (3, .int .i64 untilv)] a := hF
 have hS := St.start hD
 unfold remontoirref02_Drift at h
 refine seq ?_
 refine region ?_
 refine O.box (cs := [.int .i64 c.Hours, .slice p c.Rates.length c_1, .slice p_1 c.Opens.length c_2, .slice p_2 c.Pairs.length c_3]) 1 hF rfl rfl hS rfl fun b a w hF hS => ?_
 refine O.alloc 2 zc_34 hF hS rfl fun b_1 a w hF hS => ?_
 refine step hF (Y.assign hF rfl) rfl fun a hF => ?_
 refine nil (then_n ?_)
 refine seq ?_
 refine seq ?_
 refine region ?_
 refine step hF (Y.loadNL 1 sz_26 hF rfl hS rfl rfl rfl) rfl fun a hF => ?_
 obtain ⟨rv, hx, h⟩ := bind_some h
 refine O.callP (us := [.agg #[.int .i64 c.Hours, .slice p c.Rates.length c_1, .slice p_1 c.Opens.length c_2, .slice p_2 c.Pairs.length c_3]]) ca_18 hF hS (remontoirref02_Check_ok hS.stab c hs hs_1 hs_2 rv hx) rfl rfl fun a w hF hS => ?_
 refine step hF (Y.assign hF rfl) rfl fun a hF => ?_
 refine nil (then_n ?_)
 refine seq ?_
 refine region ?_
 refine step hF (Y.move hF rfl) rfl fun a hF => ?_
 refine step hF (Y.eql hF rfl rfl) rfl fun a hF => ?_
 refine step hF (Y.move hF rfl) rfl fun a hF => ?_
 refine join (N := 28) (rs := []) (w0 := w0) (D0 := D0) 3 (us := [(1, .int .i64 clock), (2, .int .i64 fromv), (3, .int .i64 untilv), (4, .pointer (some ⟨b, 0, none⟩)), (8, .pointer (some ⟨b_1, 0, none⟩)), (9, .int .i64 0), (18, .bool ((rv == 0) && (decide (clock < 0))))]) (ms := [(1, .cells b [.int .i64 c.Hours, .slice p c.Rates.length c_1, .slice p_1 c.Opens.length c_2, .slice p_2 c.Pairs.length c_3] 26), (2, .cells b_1 [.int .i64 0, .int .i64 0] 34)]) (D' := D0) ?_ ?_
 ·rcases bcases (rv == 0) with hbv | hbv
  ·-- true
   refine guard_on hF rfl rfl hbv ?_
   refine step hF (Y.move hF rfl) rfl fun a hF => ?_
   refine guard_on hF rfl rfl hbv ?_
   refine step hF (Y.lss hF rfl rfl) rfl fun a hF => ?_
   refine step hF (Y.pick_t hF rfl hbv rfl) rfl fun a hF => ?_
   exact nil (then_n ⟨hF.weak ⟨rfl, rfl, rfl, rfl, rfl, rfl, (by rw [hbv]; rfl), trivial⟩, hS.weak ⟨rfl, rfl, trivial⟩⟩)
  ·-- false
   refine guard_off hF rfl rfl hbv rfl fun a hF => ?_
   refine guard_off hF rfl rfl hbv rfl fun a hF => ?_
   refine step hF (Y.pick_f hF rfl hbv rfl) rfl fun a hF => ?_
   exact nil (then_n ⟨hF.weak ⟨rfl, rfl, rfl, rfl, rfl, rfl, (by rw [hbv]; rfl), trivial⟩, hS.weak ⟨rfl, rfl, trivial⟩⟩)
 intro a w hF hS
 refine nil (then_n ?_)
 refine cond_b hF rfl (fun hbv_1 => ?_) (fun hbv_1 => ?_)
 ·replace h := cond_t h hbv_1
  refine seq ?_
  refine region ?_
  refine step hF (Y.build (parts := []) (cs := #[.int .i64 0, .int .i64 0]) hF rfl (by kernel_rfl)) rfl fun a hF => ?_
  refine O.store (us := [.int .i64 0, .int .i64 0]) 2 sz_34 hF rfl rfl rfl rfl hS rfl rfl fun a w hF hS => ?_
  refine step hF (Y.assign hF rfl) rfl fun a hF => ?_
  refine nil (then_n ?_)
  refine ret_ (then_r ?_)
  obtain rfl := some_inj h
  exact leaveP Tryd.results25 hF hS (.cons (.cellN 2 sz_34 rfl rfl rfl) (.cons (.tmp rfl) .nil)) .nil rfl
 ·replace h := cond_f h hbv_1
  refine skip_ (then_n ?_)
  refine seq ?_
  refine region ?_
  refine step hF (Y.loadNL 1 sz_26 hF rfl hS rfl rfl rfl) rfl fun a hF => ?_
  refine step hF (Y.move hF rfl) rfl fun a hF => ?_
  refine step hF (Y.move hF rfl) rfl fun a hF => ?_
  refine step hF (Y.move hF rfl) rfl fun a hF => ?_
  refine step hF (Y.move hF rfl) rfl fun a hF => ?_
  obtain ⟨rv_1, hx_1, h⟩ := bind_some h
  refine O.callP (us := [.agg #[.int .i64 c.Hours, .slice p c.Rates.length c_1, .slice p_1 c.Opens.length c_2, .slice p_2 c.Pairs.length c_3], .int .i64 clock, .int .i64 untilv, .int .i64 clock, .int .i64 fromv]) ca_59 hF hS (remontoirref02_asked_ok hS.stab c clock untilv clock fromv hs hs_1 hs_2 rv_1 hx_1) rfl rfl fun a w hF hS => ?_
  refine step hF (Y.extract hF rfl rfl) rfl fun a hF => ?_
  refine step hF (Y.extract hF rfl rfl) rfl fun a hF => ?_
  refine O.store (us := [.int .i64 rv_1.1.Low, .int .i64 rv_1.1.High]) 2 sz_34 hF rfl rfl rfl rfl hS rfl rfl fun a w hF hS => ?_
  refine step hF (Y.assign hF rfl) rfl fun a hF => ?_
  refine nil (then_n ?_)
  refine ret_ ?_
  obtain rfl := some_inj h
  exact leaveP Tryd.results25 hF hS (.cons (.cellN 2 sz_34 rfl rfl rfl) (.cons (.tmp rfl) .nil)) .nil rfl

noncomputable def remontoirref02_Best_b1 (c : BeatCellar) (hour : Int) : (Int × Int × Int × Int × Int × Int) → Option ((Int × Int × Int × Int × Int × Int) ⊕ (Int × Int × Int))
 | (v4_0, v5_0, v6_0, best, wide, k) =>
  cond ((k == 0) || (decide (k < (c.Rates.length : Int))))
  ((remontoirref02_Offset c k hour).bind fun rv =>
  cond (rv.2 != 0)
  (ext (some (0, 0, rv.2)))
  (cond ((decide (wide < 0)) || (decide ((wr (rv.1.High - rv.1.Low)) < wide)))
  (nxt (v4_0, v5_0, v6_0, k, wr (rv.1.High - rv.1.Low), wr (k + 1)))
  (nxt (v4_0, v5_0, v6_0, best, wide, wr (k + 1)))))
  (ext (some (best, wide, 0)))
noncomputable def remontoirref02_Best (c : BeatCellar) (hour : Int) : Option (Int × Int × Int) :=
  loopU (remontoirref02_Best_b1 c hour) (0, 0, 0, 0, -1, 0)
theorem remontoirref02_Best_ok {w0 : World} {D0 : Stab} (hD : D0.on w0) (c : BeatCellar) (hour : Int) {p : Option Addr} {c_1 : Nat} {p_1 : Option Addr} {c_2 : Nat} {p_2 : Option Addr} {c_3 : Nat} (hs : SRc C_Span D0 c.Rates p c_1) (hs_1 : SRc C_BeatOpen D0 c.Opens p_1 c_2) (hs_2 : SRc C_BeatPair D0 c.Pairs p_2 c_3) (out : (Int × Int × Int)) (h : remontoirref02_Best c hour = some out) : Calls Tryd.prog 31 [.agg #[.int .i64 c.Hours, .slice p c.Rates.length c_1, .slice p_1 c.Opens.length c_2, .slice p_2 c.Pairs.length c_3], .int .i64 hour].toArray w0 (RetP D0 w0 (.tuple #[.int .i64 out.1, .int .i64 out.2.1, .int .i64 out.2.2])) := by
 refine enter _ 52 Tryd.func31 rfl Tryd.ntmps31 rfl fun a hF => ?_
 replace hF : Frm 52 [] [(0, .agg #[.int .i64 c.Hours, .slice p c.Rates.length c_1, .slice p_1 c.Opens.length c_2, .slice p_2 c.Pairs.length c_3]), (1, .int .i64 hour)] a := hF
 have hS := St.start hD
 unfold remontoirref02_Best at h
 refine seq ?_
 refine region ?_
 refine O.box (cs := [.int .i64 c.Hours, .slice p c.Rates.length c_1, .slice p_1 c.Opens.length c_2, .slice p_2 c.Pairs.length c_3]) 1 hF rfl rfl hS rfl fun b a w hF hS => ?_
 refine step hF (Y.assign hF rfl) rfl fun a hF => ?_
 refine step hF (Y.assign hF rfl) rfl fun a hF => ?_
 refine step hF (Y.assign hF rfl) rfl fun a hF => ?_
 refine nil (then_n ?_)
 refine seq ?_
 refine region ?_
 refine step hF (Y.assign hF rfl) rfl fun a hF => ?_
 refine step hF (Y.assign hF rfl) rfl fun a hF => ?_
 refine nil (then_n ?_)
 refine seq ?_
 refine seq ?_
 refine region ?_
 refine step hF (Y.assign hF rfl) rfl fun a hF => ?_
 refine nil (then_n ?_)
 refine block ?_
 refine loop_cut (body := remontoirref02_Best_b1 c hour) (out := out) (fun s a w => ∃ (v4_0 : Int) (v5_0 : Int) (v6_0 : Int) (best : Int) (wide : Int) (k : Int), ∃ (Dv : Stab), s = (v4_0, v5_0, v6_0, best, wide, k) ∧ D0.le Dv ∧ Frm 52 [] [(1, .int .i64 hour), (2, .pointer (some ⟨b, 0, none⟩)), (4, .int .i64 v4_0), (5, .int .i64 v5_0), (6, .int .i64 v6_0), (7, .int .i64 best), (8, .int .i64 wide), (9, .int .i64 k)] a ∧ St w0 D0 Dv [(1, .cells b [.int .i64 c.Hours, .slice p c.Rates.length c_1, .slice p_1 c.Opens.length c_2, .slice p_2 c.Pairs.length c_3] 26)] w) (0, 0, 0, 0, -1, 0) h ⟨0, 0, 0, 0, (-1), 0, D0, rfl, Stab.le.refl _, hF.weak ⟨rfl, rfl, rfl, rfl, rfl, rfl, rfl, rfl, trivial⟩, hS.weak ⟨rfl, trivial⟩⟩ ?_
 rintro s a w xo ⟨v4_0, v5_0, v6_0, best, wide, k, Dv, rfl, hlev, hF, hS⟩ h hxo
 unfold remontoirref02_Best_b1 at h
 dsimp only at h
 replace hs := hs.mono hlev
 replace hs_1 := hs_1.mono hlev
 replace hs_2 := hs_2.mono hlev
 refine seq ?_
 refine seq ?_
 refine region ?_
 refine step hF (Y.move hF rfl) rfl fun a hF => ?_
 refine step hF (Y.eql hF rfl rfl) rfl fun a hF => ?_
 refine step hF (Y.move hF rfl) rfl fun a hF => ?_
 refine join (N := 52) (rs := []) (w0 := w0) (D0 := D0) 6 (us := [(1, .int .i64 hour), (2, .pointer (some ⟨b, 0, none⟩)), (4, .int .i64 v4_0), (5, .int .i64 v5_0), (6, .int .i64 v6_0), (7, .int .i64 best), (8, .int .i64 wide), (9, .int .i64 k), (20, .bool ((k == 0) || (decide (k < (c.Rates.length : Int)))))]) (ms := [(1, .cells b [.int .i64 c.Hours, .slice p c.Rates.length c_1, .slice p_1 c.Opens.length c_2, .slice p_2 c.Pairs.length c_3] 26)]) (D' := Dv) ?_ ?_
 ·rcases bcases (k == 0) with hbv | hbv
  ·-- true
   refine guard_off hF rfl rfl hbv rfl fun a hF => ?_
   refine guard_off hF rfl rfl hbv rfl fun a hF => ?_
   refine guard_off hF rfl rfl hbv rfl fun a hF => ?_
   refine guard_off hF rfl rfl hbv rfl fun a hF => ?_
   refine guard_off hF rfl rfl hbv rfl fun a hF => ?_
   refine step hF (Y.pick_t hF rfl hbv rfl) rfl fun a hF => ?_
   exact nil (then_n ⟨hF.weak ⟨rfl, rfl, rfl, rfl, rfl, rfl, rfl, rfl, (by rw [hbv]; rfl), trivial⟩, hS.weak ⟨rfl, trivial⟩⟩)
  ·-- false
   refine guard_on hF rfl rfl hbv ?_
   refine step hF (Y.move hF rfl) rfl fun a hF => ?_
   refine guard_on hF rfl rfl hbv ?_
   refine step hF (Y.fieldAddr fo_26_1 hF rfl) rfl fun a hF => ?_
   refine guard_on hF rfl rfl hbv ?_
   refine step hF (Y.load1L 1 sz_22 hF rfl hS rfl rfl) rfl fun a hF => ?_
   refine guard_on hF rfl rfl hbv ?_
   refine step hF (Y.lenSl u_22 hF rfl) rfl fun a hF => ?_
   refine guard_on hF rfl rfl hbv ?_
   refine step hF (Y.lss hF rfl rfl) rfl fun a hF => ?_
   refine step hF (Y.pick_f hF rfl hbv rfl) rfl fun a hF => ?_
   exact nil (then_n ⟨hF.weak ⟨rfl, rfl, rfl, rfl, rfl, rfl, rfl, rfl, (by rw [hbv]; rfl), trivial⟩, hS.weak ⟨rfl, trivial⟩⟩)
 intro a w hF hS
 refine nil (then_n ?_)
 refine cond_b hF rfl (fun hbv_1 => ?_) (fun hbv_1 => ?_)
 ·replace h := cond_t h hbv_1
  refine skip_ (then_n ?_)
  refine seq ?_
  refine block ?_
  refine seq ?_
  refine region ?_
  refine step hF (Y.loadNL 1 sz_26 hF rfl hS rfl rfl rfl) rfl fun a hF => ?_
  refine step hF (Y.move hF rfl) rfl fun a hF => ?_
  refine step hF (Y.move hF rfl) rfl fun a hF => ?_
  obtain ⟨rv, hx, h⟩ := bind_some h
  refine O.callP (us := [.agg #[.int .i64 c.Hours, .slice p c.Rates.length c_1, .slice p_1 c.Opens.length c_2, .slice p_2 c.Pairs.length c_3], .int .i64 k, .int .i64 hour]) ca_20 hF hS (remontoirref02_Offset_ok hS.stab c k hour hs hs_1 hs_2 rv hx) rfl rfl fun a w hF hS => ?_
  refine step hF (Y.move hF rfl) rfl fun a hF => ?_
  refine step hF (Y.extract hF rfl rfl) rfl fun a hF => ?_
  refine step hF (Y.extract hF rfl rfl) rfl fun a hF => ?_
  refine O.alloc 2 zc_34 hF hS rfl fun b_1 a w hF hS => ?_
  refine O.store (us := [.int .i64 rv.1.Low, .int .i64 rv.1.High]) 2 sz_34 hF rfl rfl rfl rfl hS rfl rfl fun a w hF hS => ?_
  refine step hF (Y.assign hF rfl) rfl fun a hF => ?_
  refine nil (then_n ?_)
  refine seq ?_
  refine seq ?_
  refine region ?_
  refine step hF (Y.move hF rfl) rfl fun a hF => ?_
  refine step hF (Y.neq hF rfl rfl) rfl fun a hF => ?_
  refine nil (then_n ?_)
  refine cond_b hF rfl (fun hbv_2 => ?_) (fun hbv_2 => ?_)
  ·replace h := cond_t h hbv_2
   refine seq ?_
   refine region ?_
   refine step hF (Y.move hF rfl) rfl fun a hF => ?_
   refine step hF (Y.assign hF rfl) rfl fun a hF => ?_
   refine step hF (Y.assign hF rfl) rfl fun a hF => ?_
   refine step hF (Y.assign hF rfl) rfl fun a hF => ?_
   refine nil (then_n ?_)
   refine ret_ (then_r (blk_r (then_r (then_r (blk_r (then_r ?_))))))
   replace h := ext_some h hxo
   obtain rfl := some_inj h
   exact leaveP Tryd.results31 hF hS (.cons (.tmp rfl) (.cons (.tmp rfl) (.cons (.tmp rfl) .nil))) .nil rfl
  ·replace h := cond_f h hbv_2
   refine skip_ (then_n ?_)
   refine seq ?_
   refine region ?_
   refine step hF (Y.move hF rfl) rfl fun a hF => ?_
   refine step hF (Y.lss hF rfl rfl) rfl fun a hF => ?_
   refine step hF (Y.move hF rfl) rfl fun a hF => ?_
   refine join (N := 52) (rs := []) (w0 := w0) (D0 := D0) 8 (us := [(1, .int .i64 hour), (2, .pointer (some ⟨b, 0, none⟩)), (4, .int .i64 v4_0), (5, .int .i64 v5_0), (6, .int .i64 v6_0), (7, .int .i64 best), (8, .int .i64 wide), (9, .int .i64 k), (10, .pointer (some ⟨b_1, 0, none⟩)), (43, .bool ((decide (wide < 0)) || (decide ((wr (rv.1.High - rv.1.Low)) < wide))))]) (ms := [(1, .cells b [.int .i64 c.Hours, .slice p c.Rates.length c_1, .slice p_1 c.Opens.length c_2, .slice p_2 c.Pairs.length c_3] 26), (2, .cells b_1 [.int .i64 rv.1.Low, .int .i64 rv.1.High] 34)]) (D' := Dv) ?_ ?_
   ·rcases bcases (decide (wide < 0)) with hbv_3 | hbv_3
    ·-- true
     refine guard_off hF rfl rfl hbv_3 rfl fun a hF => ?_
     refine guard_off hF rfl rfl hbv_3 rfl fun a hF => ?_
     refine guard_off hF rfl rfl hbv_3 rfl fun a hF => ?_
     refine guard_off hF rfl rfl hbv_3 rfl fun a hF => ?_
     refine guard_off hF rfl rfl hbv_3 rfl fun a hF => ?_
     refine guard_off hF rfl rfl hbv_3 rfl fun a hF => ?_
     refine guard_off hF rfl rfl hbv_3 rfl fun a hF => ?_
     refine step hF (Y.pick_t hF rfl hbv_3 rfl) rfl fun a hF => ?_
     exact nil (then_n ⟨hF.weak ⟨rfl, rfl, rfl, rfl, rfl, rfl, rfl, rfl, rfl, (by rw [hbv_3]; rfl), trivial⟩, hS.weak ⟨rfl, rfl, trivial⟩⟩)
    ·-- false
     refine guard_on hF rfl rfl hbv_3 ?_
     refine step hF (Y.fieldAddr fo_34_1 hF rfl) rfl fun a hF => ?_
     refine guard_on hF rfl rfl hbv_3 ?_
     refine step hF (Y.load1L 2 sz_3 hF rfl hS rfl rfl) rfl fun a hF => ?_
     refine guard_on hF rfl rfl hbv_3 ?_
     refine step hF (Y.fieldAddr fo_34_0 hF rfl) rfl fun a hF => ?_
     refine guard_on hF rfl rfl hbv_3 ?_
     refine step hF (Y.load1L 2 sz_3 hF rfl hS rfl rfl) rfl fun a hF => ?_
     refine guard_on hF rfl rfl hbv_3 ?_
     refine step hF (Y.sub hF rfl rfl) rfl fun a hF => ?_
     refine guard_on hF rfl rfl hbv_3 ?_
     refine step hF (Y.move hF rfl) rfl fun a hF => ?_
     refine guard_on hF rfl rfl hbv_3 ?_
     refine step hF (Y.lss hF rfl rfl) rfl fun a hF => ?_
     refine step hF (Y.pick_f hF rfl hbv_3 rfl) rfl fun a hF => ?_
     exact nil (then_n ⟨hF.weak ⟨rfl, rfl, rfl, rfl, rfl, rfl, rfl, rfl, rfl, (by rw [hbv_3]; rfl), trivial⟩, hS.weak ⟨rfl, rfl, trivial⟩⟩)
   intro a w hF hS
   refine nil (then_n ?_)
   refine cond_b hF rfl (fun hbv_4 => ?_) (fun hbv_4 => ?_)
   ·replace h := cond_t h hbv_4
    refine draws 8 [(0, true), (1, true), (2, true), (3, true), (4, true), (5, true), (6, true), (7, true)] mixed_ (by kernel_rfl) (fun w => St w0 D0 Dv _ w) hS.drew (fun _ _ _ _ h => h) ?_
    replace hS := hS.drew
    refine stepT (i := 0) rfl hF (fun w hS => Y.move hF rfl) rfl fun a hF => ?_
    refine stepT (i := 1) rfl hF (fun w hS => Y.fieldAddr fo_34_1 hF rfl) rfl fun a hF => ?_
    refine stepT (i := 2) rfl hF (fun w hS => Y.load1L 2 sz_3 hF rfl hS rfl rfl) rfl fun a hF => ?_
    refine stepT (i := 3) rfl hF (fun w hS => Y.fieldAddr fo_34_0 hF rfl) rfl fun a hF => ?_
    refine stepT (i := 4) rfl hF (fun w hS => Y.load1L 2 sz_3 hF rfl hS rfl rfl) rfl fun a hF => ?_
    refine stepT (i := 5) rfl hF (fun w hS => Y.sub hF rfl rfl) rfl fun a hF => ?_
    refine stepT (i := 6) rfl hF (fun w hS => Y.assign hF rfl) rfl fun a hF => ?_
    refine stepT (i := 7) rfl hF (fun w hS => Y.assign hF rfl) rfl fun a hF => ?_
    refine toTail ?_
    refine nil (blk_n (then_n ?_))
    refine region ?_
    refine step hF (Y.move hF rfl) rfl fun a hF => ?_
    refine step hF (Y.add hF rfl rfl) rfl fun a hF => ?_
    refine step hF (Y.assign hF rfl) rfl fun a hF => ?_
    refine nil (then_n ?_)
    exact ⟨_, nxt_some h, v4_0, v5_0, v6_0, k, (wr (rv.1.High - rv.1.Low)), (wr (k + 1)), Dv, rfl, hlev, hF.weak ⟨rfl, rfl, rfl, rfl, rfl, rfl, rfl, rfl, trivial⟩, hS.weak ⟨rfl, trivial⟩⟩
   ·replace h := cond_f h hbv_4
    refine skip_ (blk_n (then_n ?_))
    refine region ?_
    refine step hF (Y.move hF rfl) rfl fun a hF => ?_
    refine step hF (Y.add hF rfl rfl) rfl fun a hF => ?_
    refine step hF (Y.assign hF rfl) rfl fun a hF => ?_
    refine nil (then_n ?_)
    exact ⟨_, nxt_some h, v4_0, v5_0, v6_0, best, wide, (wr (k + 1)), Dv, rfl, hlev, hF.weak ⟨rfl, rfl, rfl, rfl, rfl, rfl, rfl, rfl, trivial⟩, hS.weak ⟨rfl, trivial⟩⟩
 ·replace h := cond_f h hbv_1
  refine exit_ (then_x (then_x (blk_hit (then_n ?_))))
  replace h := ext_some h hxo
  refine seq ?_
  refine region ?_
  refine step hF (Y.move hF rfl) rfl fun a hF => ?_
  refine step hF (Y.move hF rfl) rfl fun a hF => ?_
  refine step hF (Y.assign hF rfl) rfl fun a hF => ?_
  refine step hF (Y.assign hF rfl) rfl fun a hF => ?_
  refine step hF (Y.assign hF rfl) rfl fun a hF => ?_
  refine nil (then_n ?_)
  refine ret_ ?_
  obtain rfl := some_inj h
  exact leaveP Tryd.results31 hF hS (.cons (.tmp rfl) (.cons (.tmp rfl) (.cons (.tmp rfl) .nil))) .nil rfl

end Go.Proofs.YtpniidbbbhbglaaDoor.Rt
