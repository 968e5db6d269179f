/- Walks of the functions of this seat: what each Go function comes to, as a Lean function, and the proof. Part WS1. Under no conditions. -/
import Derived.Test.YtidmdgjgpmeecaaDoorWBZ
set_option linter.unusedVariables false
set_option linter.unusedSimpArgs false
set_option maxRecDepth 100000
set_option maxHeartbeats 4000000
namespace Go.Proofs.YtidmdgjgpmeecaaDoor.Rt
open Go Go.RowKit
noncomputable def remontoirlaw08_sound_b1 (sv : SpareStore) : (Bool × Int) → Option ((Bool × Int) ⊕ Bool)
 | (ok, i) =>
  cond (ok && (decide (i < (sv.Machines.length : Int))))
  ((idx sv.Machines i).bind fun e =>
  (remontoirref00_Lies e.From (-500) 500).bind fun rv_4 =>
  (cond rv_4 ((remontoirref00_Lies e.Warm 0 500).bind fun rv_5 =>
  some rv_5) (some false)).bind fun t_3 =>
  (cond t_3 ((remontoirref00_Valid e.Life 0 500).bind fun rv_6 =>
  some rv_6) (some false)).bind fun t_4 =>
  (cond t_4 ((remontoirref00_Lies e.Drift 0 100).bind fun rv_7 =>
  some rv_7) (some false)).bind fun t_5 =>
  nxt (t_5, wr (i + 1)))
  (ext (some ok))
noncomputable def remontoirlaw08_sound (sv : SpareStore) : Option Bool :=
  (spare_Check sv).bind fun rv =>
  (cond (rv == 0) ((remontoirref00_Lies sv.Hours 1 500).bind fun rv_1 =>
  some rv_1) (some false)).bind fun t =>
  (cond t ((remontoirref00_Lies sv.Gap 0 1000).bind fun rv_2 =>
  some rv_2) (some false)).bind fun t_1 =>
  (cond t_1 ((remontoirref00_Lies (sv.Machines.length : Int) 1 8).bind fun rv_3 =>
  some rv_3) (some false)).bind fun t_2 =>
  loopU (remontoirlaw08_sound_b1 sv) (t_2, 0)
theorem remontoirlaw08_sound_ok {w0 : World} {D0 : Stab} (hD : D0.on w0) (sv : SpareStore) {p : Option Addr} {c : Nat} (hs : SRc C_SpareMachine D0 sv.Machines p c) (out : Bool) (h : remontoirlaw08_sound sv = some out) : Calls Tryd.prog 34 [.agg #[.int .i64 sv.Hours, .int .i64 sv.Gap, .slice p sv.Machines.length c]].toArray w0 (RetP D0 w0 (.bool out)) := by
 refine enter _ 59 Tryd.func34 rfl Tryd.ntmps34 rfl fun a hF => ?_
 replace hF : Frm 59 [] [(0, .agg #[.int .i64 sv.Hours, .int .i64 sv.Gap, .slice p sv.Machines.length c])] a := hF
 have hS := St.start hD
 unfold remontoirlaw08_sound at h
 refine seq ?_
 refine region ?_
 refine O.box (cs := [.int .i64 sv.Hours, .int .i64 sv.Gap, .slice p sv.Machines.length c]) 1 hF rfl rfl hS rfl fun b a w hF hS => ?_
 refine step hF (Y.assign hF rfl) rfl fun a hF => ?_
 refine nil (then_n ?_)
 refine seq ?_
 refine region ?_
 refine step hF (Y.loadNL 1 sz_24 hF rfl hS rfl rfl rfl) rfl fun a hF => ?_
 obtain ⟨rv, hx, h⟩ := bind_some h
 refine O.callP (us := [.agg #[.int .i64 sv.Hours, .int .i64 sv.Gap, .slice p sv.Machines.length c]]) ca_17 hF hS (spare_Check_ok hS.stab sv hs rv hx) rfl rfl fun a w hF hS => ?_
 refine step hF (Y.eql hF rfl rfl) rfl fun a hF => ?_
 refine step hF (Y.move hF rfl) rfl fun a hF => ?_
 obtain ⟨t, ht, h⟩ := bind_some h
 refine join (N := 59) (rs := []) (w0 := w0) (D0 := D0) 4 (us := [(1, .pointer (some ⟨b, 0, none⟩)), (2, .bool false), (13, .bool t)]) (ms := [(1, .cells b [.int .i64 sv.Hours, .int .i64 sv.Gap, .slice p sv.Machines.length c] 24)]) (D' := D0) ?_ ?_
 ·rcases bcases (rv == 0) with hbv | hbv
  ·-- true
   replace h := cond_t ht hbv
   refine guard_on hF rfl rfl hbv ?_
   refine step hF (Y.fieldAddr fo_24_0 hF rfl) rfl fun a hF => ?_
   refine guard_on hF rfl rfl hbv ?_
   refine step hF (Y.load1L 1 sz_3 hF rfl hS rfl rfl) rfl fun a hF => ?_
   refine guard_on hF rfl rfl hbv ?_
   obtain ⟨rv_1, hx_1, h⟩ := bind_some h
   refine O.callP (us := [.int .i64 sv.Hours, .int .i64 1, .int .i64 500]) ca_35 hF hS (remontoirref00_Lies_ok hS.stab sv.Hours 1 500 rv_1 hx_1) rfl rfl fun a w hF hS => ?_
   refine step hF (Y.pick_t hF rfl hbv rfl) rfl fun a hF => ?_
   obtain rfl := some_inj h
   exact nil (then_n ⟨hF.weak ⟨rfl, rfl, rfl, trivial⟩, hS.weak ⟨rfl, trivial⟩⟩)
  ·-- false
   replace h := cond_f ht hbv
   refine guard_off hF rfl rfl hbv rfl fun a hF => ?_
   refine guard_off hF rfl rfl hbv rfl fun a hF => ?_
   refine guard_off hF rfl rfl hbv rfl fun a hF => ?_
   refine step hF (Y.pick_f hF rfl hbv rfl) rfl fun a hF => ?_
   obtain rfl := some_inj h
   exact nil (then_n ⟨hF.weak ⟨rfl, rfl, rfl, trivial⟩, hS.weak ⟨rfl, trivial⟩⟩)
 intro a w hF hS
 refine step hF (Y.move hF rfl) rfl fun a hF => ?_
 obtain ⟨t_1, ht_1, h⟩ := bind_some h
 refine join (N := 59) (rs := []) (w0 := w0) (D0 := D0) 4 (us := [(1, .pointer (some ⟨b, 0, none⟩)), (2, .bool false), (18, .bool t_1)]) (ms := [(1, .cells b [.int .i64 sv.Hours, .int .i64 sv.Gap, .slice p sv.Machines.length c] 24)]) (D' := D0) ?_ ?_
 ·rcases bcases t with hbv_1 | hbv_1
  ·-- true
   replace h := cond_t ht_1 hbv_1
   refine guard_on hF rfl rfl hbv_1 ?_
   refine step hF (Y.fieldAddr fo_24_1 hF rfl) rfl fun a hF => ?_
   refine guard_on hF rfl rfl hbv_1 ?_
   refine step hF (Y.load1L 1 sz_3 hF rfl hS rfl rfl) rfl fun a hF => ?_
   refine guard_on hF rfl rfl hbv_1 ?_
   obtain ⟨rv_2, hx_2, h⟩ := bind_some h
   refine O.callP (us := [.int .i64 sv.Gap, .int .i64 0, .int .i64 1000]) ca_35 hF hS (remontoirref00_Lies_ok hS.stab sv.Gap 0 1000 rv_2 hx_2) rfl rfl fun a w hF hS => ?_
   refine step hF (Y.pick_t hF rfl hbv_1 rfl) rfl fun a hF => ?_
   obtain rfl := some_inj h
   exact nil (then_n ⟨hF.weak ⟨rfl, rfl, rfl, trivial⟩, hS.weak ⟨rfl, trivial⟩⟩)
  ·-- false
   replace h := cond_f ht_1 hbv_1
   refine guard_off hF rfl rfl hbv_1 rfl fun a hF => ?_
   refine guard_off hF rfl rfl hbv_1 rfl fun a hF => ?_
   refine guard_off hF rfl rfl hbv_1 rfl fun a hF => ?_
   refine step hF (Y.pick_f hF rfl hbv_1 rfl) rfl fun a hF => ?_
   obtain rfl := some_inj h
   exact nil (then_n ⟨hF.weak ⟨rfl, rfl, rfl, trivial⟩, hS.weak ⟨rfl, trivial⟩⟩)
 intro a w hF hS
 refine step hF (Y.move hF rfl) rfl fun a hF => ?_
 obtain ⟨t_2, ht_2, h⟩ := bind_some h
 refine join (N := 59) (rs := []) (w0 := w0) (D0 := D0) 5 (us := [(1, .pointer (some ⟨b, 0, none⟩)), (2, .bool false), (24, .bool t_2)]) (ms := [(1, .cells b [.int .i64 sv.Hours, .int .i64 sv.Gap, .slice p sv.Machines.length c] 24)]) (D' := D0) ?_ ?_
 ·rcases bcases t_1 with hbv_2 | hbv_2
  ·-- true
   replace h := cond_t ht_2 hbv_2
   refine guard_on hF rfl rfl hbv_2 ?_
   refine step hF (Y.fieldAddr fo_24_2 hF rfl) rfl fun a hF => ?_
   refine guard_on hF rfl rfl hbv_2 ?_
   refine step hF (Y.load1L 1 sz_22 hF rfl hS rfl rfl) rfl fun a hF => ?_
   refine guard_on hF rfl rfl hbv_2 ?_
   refine step hF (Y.lenSl u_22 hF rfl) rfl fun a hF => ?_
   refine guard_on hF rfl rfl hbv_2 ?_
   obtain ⟨rv_3, hx_3, h⟩ := bind_some h
   refine O.callP (us := [.int .i64 (sv.Machines.length : Int), .int .i64 1, .int .i64 8]) ca_35 hF hS (remontoirref00_Lies_ok hS.stab (sv.Machines.length : Int) 1 8 rv_3 hx_3) rfl rfl fun a w hF hS => ?_
   refine step hF (Y.pick_t hF rfl hbv_2 rfl) rfl fun a hF => ?_
   obtain rfl := some_inj h
   exact nil (then_n ⟨hF.weak ⟨rfl, rfl, rfl, trivial⟩, hS.weak ⟨rfl, trivial⟩⟩)
  ·-- false
   replace h := cond_f ht_2 hbv_2
   refine guard_off hF rfl rfl hbv_2 rfl fun a hF => ?_
   refine guard_off hF rfl rfl hbv_2 rfl fun a hF => ?_
   refine guard_off hF rfl rfl hbv_2 rfl fun a hF => ?_
   refine guard_off hF rfl rfl hbv_2 rfl fun a hF => ?_
   refine step hF (Y.pick_f hF rfl hbv_2 rfl) rfl fun a hF => ?_
   obtain rfl := some_inj h
   exact nil (then_n ⟨hF.weak ⟨rfl, rfl, rfl, trivial⟩, hS.weak ⟨rfl, trivial⟩⟩)
 intro a w hF hS
 refine step hF (Y.assign hF rfl) rfl fun a hF => ?_
 refine nil (then_n ?_)
 refine seq ?_
 refine seq ?_
 refine region ?_
 refine step hF (Y.assign hF rfl) rfl fun a hF => ?_
 refine nil (then_n ?_)
 refine block ?_
 refine loop_cut (body := remontoirlaw08_sound_b1 sv) (out := out) (fun s a w => ∃ (ok : Bool) (i : Int), s = (ok, i) ∧ Frm 59 [] [(1, .pointer (some ⟨b, 0, none⟩)), (2, .bool false), (3, .bool ok), (4, .int .i64 i)] a ∧ St w0 D0 D0 [(1, .cells b [.int .i64 sv.Hours, .int .i64 sv.Gap, .slice p sv.Machines.length c] 24)] w) (t_2, 0) h ⟨t_2, 0, rfl, hF.weak ⟨rfl, rfl, rfl, rfl, trivial⟩, hS.weak ⟨rfl, trivial⟩⟩ ?_
 rintro s a w xo ⟨ok, i, rfl, hF, hS⟩ h hxo
 unfold remontoirlaw08_sound_b1 at h
 dsimp only at h
 refine seq ?_
 refine seq ?_
 refine region ?_
 refine step hF (Y.move hF rfl) rfl fun a hF => ?_
 refine step hF (Y.move hF rfl) rfl fun a hF => ?_
 refine join (N := 59) (rs := []) (w0 := w0) (D0 := D0) 6 (us := [(1, .pointer (some ⟨b, 0, none⟩)), (2, .bool false), (3, .bool ok), (4, .int .i64 i), (32, .bool (ok && (decide (i < (sv.Machines.length : Int)))))]) (ms := [(1, .cells b [.int .i64 sv.Hours, .int .i64 sv.Gap, .slice p sv.Machines.length c] 24)]) (D' := D0) ?_ ?_
 ·rcases bcases ok with hbv_3 | hbv_3
  ·-- true
   refine guard_on hF rfl rfl hbv_3 ?_
   refine step hF (Y.move hF rfl) rfl fun a hF => ?_
   refine guard_on hF rfl rfl hbv_3 ?_
   refine step hF (Y.fieldAddr fo_24_2 hF rfl) rfl fun a hF => ?_
   refine guard_on hF rfl rfl hbv_3 ?_
   refine step hF (Y.load1L 1 sz_22 hF rfl hS rfl rfl) rfl fun a hF => ?_
   refine guard_on hF rfl rfl hbv_3 ?_
   refine step hF (Y.lenSl u_22 hF rfl) rfl fun a hF => ?_
   refine guard_on hF rfl rfl hbv_3 ?_
   refine step hF (Y.lss hF rfl rfl) rfl fun a hF => ?_
   refine step hF (Y.pick_t hF rfl hbv_3 rfl) rfl fun a hF => ?_
   exact nil (then_n ⟨hF.weak ⟨rfl, rfl, rfl, rfl, (by rw [hbv_3]; rfl), trivial⟩, hS.weak ⟨rfl, trivial⟩⟩)
  ·-- false
   refine guard_off hF rfl rfl hbv_3 rfl fun a hF => ?_
   refine guard_off hF rfl rfl hbv_3 rfl fun a hF => ?_
   refine guard_off hF rfl rfl hbv_3 rfl fun a hF => ?_
   refine guard_off hF rfl rfl hbv_3 rfl fun a hF => ?_
   refine guard_off hF rfl rfl hbv_3 rfl fun a hF => ?_
   refine step hF (Y.pick_f hF rfl hbv_3 rfl) rfl fun a hF => ?_
   exact nil (then_n ⟨hF.weak ⟨rfl, rfl, rfl, rfl, (by rw [hbv_3]; rfl), trivial⟩, hS.weak ⟨rfl, trivial⟩⟩)
 intro a w hF hS
 refine nil (then_n ?_)
 refine cond_b hF rfl (fun hbv_4 => ?_) (fun hbv_4 => ?_)
 ·replace h := cond_t h hbv_4
  refine skip_ (then_n ?_)
  refine seq ?_
  refine block ?_
  refine seq ?_
  refine region ?_
  refine step hF (Y.fieldAddr fo_24_2 hF rfl) rfl fun a hF => ?_
  refine step hF (Y.load1L 1 sz_22 hF rfl hS rfl rfl) rfl fun a hF => ?_
  refine step hF (Y.move hF rfl) rfl fun a hF => ?_
  obtain ⟨e, hx_4, h⟩ := bind_some h
  obtain ⟨b_1, o, hE, hY⟩ := Y.indexS (P := Tryd.prog) (C := C_SpareMachine) (xs := sv.Machines) (T := 22) (x := (.tmp 36)) (y := (.tmp 37)) u_22 sz_52 hF rfl rfl (hs).1 hx_4
  obtain ⟨cc, hc, hcell⟩ := hE.open
  obtain rfl := C_SpareMachine.open hc
  refine step hF (hY) rfl fun a hF => ?_
  refine step hF (Y.loadNE (o := o) (k := 0) sz_52 hF rfl (hcell _ hS.stab) rfl rfl) rfl fun a hF => ?_
  refine O.alloc 2 zc_52 hF hS rfl fun b_2 a w hF hS => ?_
  refine O.store (us := [.int .i64 e.From, .int .i64 e.Warm, .int .i64 e.Life.Low, .int .i64 e.Life.High, .int .i64 e.Drift]) 2 sz_52 hF rfl rfl rfl rfl hS rfl rfl fun a w hF hS => ?_
  refine nil (then_n ?_)
  refine region ?_
  refine step hF (Y.fieldAddr fo_52_0 hF rfl) rfl fun a hF => ?_
  refine step hF (Y.load1L 2 sz_3 hF rfl hS rfl rfl) rfl fun a hF => ?_
  obtain ⟨rv_4, hx_5, h⟩ := bind_some h
  refine O.callP (us := [.int .i64 e.From, .int .i64 (-500), .int .i64 500]) ca_35 hF hS (remontoirref00_Lies_ok hS.stab e.From (-500) 500 rv_4 hx_5) rfl rfl fun a w hF hS => ?_
  refine step hF (Y.move hF rfl) rfl fun a hF => ?_
  obtain ⟨t_3, ht_3, h⟩ := bind_some h
  refine join (N := 59) (rs := []) (w0 := w0) (D0 := D0) 4 (us := [(1, .pointer (some ⟨b, 0, none⟩)), (2, .bool false), (3, .bool ok), (4, .int .i64 i), (5, .pointer (some ⟨b_2, 0, none⟩)), (47, .bool t_3)]) (ms := [(1, .cells b [.int .i64 sv.Hours, .int .i64 sv.Gap, .slice p sv.Machines.length c] 24), (2, .cells b_2 [.int .i64 e.From, .int .i64 e.Warm, .int .i64 e.Life.Low, .int .i64 e.Life.High, .int .i64 e.Drift] 52)]) (D' := D0) ?_ ?_
  ·rcases bcases rv_4 with hbv_5 | hbv_5
   ·-- true
    replace h := cond_t ht_3 hbv_5
    refine guard_on hF rfl rfl hbv_5 ?_
    refine step hF (Y.fieldAddr fo_52_1 hF rfl) rfl fun a hF => ?_
    refine guard_on hF rfl rfl hbv_5 ?_
    refine step hF (Y.load1L 2 sz_3 hF rfl hS rfl rfl) rfl fun a hF => ?_
    refine guard_on hF rfl rfl hbv_5 ?_
    obtain ⟨rv_5, hx_6, h⟩ := bind_some h
    refine O.callP (us := [.int .i64 e.Warm, .int .i64 0, .int .i64 500]) ca_35 hF hS (remontoirref00_Lies_ok hS.stab e.Warm 0 500 rv_5 hx_6) rfl rfl fun a w hF hS => ?_
    refine step hF (Y.pick_t hF rfl hbv_5 rfl) rfl fun a hF => ?_
    obtain rfl := some_inj h
    exact nil (then_n ⟨hF.weak ⟨rfl, rfl, rfl, rfl, rfl, rfl, trivial⟩, hS.weak ⟨rfl, rfl, trivial⟩⟩)
   ·-- false
    replace h := cond_f ht_3 hbv_5
    refine guard_off hF rfl rfl hbv_5 rfl fun a hF => ?_
    refine guard_off hF rfl rfl hbv_5 rfl fun a hF => ?_
    refine guard_off hF rfl rfl hbv_5 rfl fun a hF => ?_
    refine step hF (Y.pick_f hF rfl hbv_5 rfl) rfl fun a hF => ?_
    obtain rfl := some_inj h
    exact nil (then_n ⟨hF.weak ⟨rfl, rfl, rfl, rfl, rfl, rfl, trivial⟩, hS.weak ⟨rfl, rfl, trivial⟩⟩)
  intro a w hF hS
  refine step hF (Y.move hF rfl) rfl fun a hF => ?_
  obtain ⟨t_4, ht_4, h⟩ := bind_some h
  refine join (N := 59) (rs := []) (w0 := w0) (D0 := D0) 4 (us := [(1, .pointer (some ⟨b, 0, none⟩)), (2, .bool false), (3, .bool ok), (4, .int .i64 i), (5, .pointer (some ⟨b_2, 0, none⟩)), (52, .bool t_4)]) (ms := [(1, .cells b [.int .i64 sv.Hours, .int .i64 sv.Gap, .slice p sv.Machines.length c] 24), (2, .cells b_2 [.int .i64 e.From, .int .i64 e.Warm, .int .i64 e.Life.Low, .int .i64 e.Life.High, .int .i64 e.Drift] 52)]) (D' := D0) ?_ ?_
  ·rcases bcases t_3 with hbv_6 | hbv_6
   ·-- true
    replace h := cond_t ht_4 hbv_6
    refine guard_on hF rfl rfl hbv_6 ?_
    refine step hF (Y.fieldAddr fo_52_2 hF rfl) rfl fun a hF => ?_
    refine guard_on hF rfl rfl hbv_6 ?_
    refine step hF (Y.loadNL 2 sz_50 hF rfl hS rfl rfl rfl) rfl fun a hF => ?_
    refine guard_on hF rfl rfl hbv_6 ?_
    obtain ⟨rv_6, hx_7, h⟩ := bind_some h
    refine O.callP (us := [.agg #[.int .i64 e.Life.Low, .int .i64 e.Life.High], .int .i64 0, .int .i64 500]) ca_52 hF hS (remontoirref00_Valid_ok hS.stab e.Life 0 500 rv_6 hx_7) rfl rfl fun a w hF hS => ?_
    refine step hF (Y.pick_t hF rfl hbv_6 rfl) rfl fun a hF => ?_
    obtain rfl := some_inj h
    exact nil (then_n ⟨hF.weak ⟨rfl, rfl, rfl, rfl, rfl, rfl, trivial⟩, hS.weak ⟨rfl, rfl, trivial⟩⟩)
   ·-- false
    replace h := cond_f ht_4 hbv_6
    refine guard_off hF rfl rfl hbv_6 rfl fun a hF => ?_
    refine guard_off hF rfl rfl hbv_6 rfl fun a hF => ?_
    refine guard_off hF rfl rfl hbv_6 rfl fun a hF => ?_
    refine step hF (Y.pick_f hF rfl hbv_6 rfl) rfl fun a hF => ?_
    obtain rfl := some_inj h
    exact nil (then_n ⟨hF.weak ⟨rfl, rfl, rfl, rfl, rfl, rfl, trivial⟩, hS.weak ⟨rfl, rfl, trivial⟩⟩)
  intro a w hF hS
  refine step hF (Y.move hF rfl) rfl fun a hF => ?_
  obtain ⟨t_5, ht_5, h⟩ := bind_some h
  refine join (N := 59) (rs := []) (w0 := w0) (D0 := D0) 4 (us := [(1, .pointer (some ⟨b, 0, none⟩)), (2, .bool false), (3, .bool ok), (4, .int .i64 i), (57, .bool t_5)]) (ms := [(1, .cells b [.int .i64 sv.Hours, .int .i64 sv.Gap, .slice p sv.Machines.length c] 24), (2, .cells b_2 [.int .i64 e.From, .int .i64 e.Warm, .int .i64 e.Life.Low, .int .i64 e.Life.High, .int .i64 e.Drift] 52)]) (D' := D0) ?_ ?_
  ·rcases bcases t_4 with hbv_7 | hbv_7
   ·-- true
    replace h := cond_t ht_5 hbv_7
    refine guard_on hF rfl rfl hbv_7 ?_
    refine step hF (Y.fieldAddr fo_52_3 hF rfl) rfl fun a hF => ?_
    refine guard_on hF rfl rfl hbv_7 ?_
    refine step hF (Y.load1L 2 sz_3 hF rfl hS rfl rfl) rfl fun a hF => ?_
    refine guard_on hF rfl rfl hbv_7 ?_
    obtain ⟨rv_7, hx_8, h⟩ := bind_some h
    refine O.callP (us := [.int .i64 e.Drift, .int .i64 0, .int .i64 100]) ca_35 hF hS (remontoirref00_Lies_ok hS.stab e.Drift 0 100 rv_7 hx_8) rfl rfl fun a w hF hS => ?_
    refine step hF (Y.pick_t hF rfl hbv_7 rfl) rfl fun a hF => ?_
    obtain rfl := some_inj h
    exact nil (then_n ⟨hF.weak ⟨rfl, rfl, rfl, rfl, rfl, trivial⟩, hS.weak ⟨rfl, rfl, trivial⟩⟩)
   ·-- false
    replace h := cond_f ht_5 hbv_7
    refine guard_off hF rfl rfl hbv_7 rfl fun a hF => ?_
    refine guard_off hF rfl rfl hbv_7 rfl fun a hF => ?_
    refine guard_off hF rfl rfl hbv_7 rfl fun a hF => ?_
    refine step hF (Y.pick_f hF rfl hbv_7 rfl) rfl fun a hF => ?_
    obtain rfl := some_inj h
    exact nil (then_n ⟨hF.weak ⟨rfl, rfl, rfl, rfl, rfl, trivial⟩, hS.weak ⟨rfl, rfl, trivial⟩⟩)
  intro a w hF hS
  refine step hF (Y.assign hF rfl) rfl fun a hF => ?_
  refine nil (blk_n (then_n ?_))
  refine region ?_
  refine step hF (Y.move hF rfl) rfl fun a hF => ?_
  refine step hF (Y.add hF rfl rfl) rfl fun a hF => ?_
  refine step hF (Y.assign hF rfl) rfl fun a hF => ?_
  refine nil (then_n ?_)
  exact ⟨_, nxt_some h, t_5, (wr (i + 1)), rfl, hF.weak ⟨rfl, rfl, rfl, rfl, trivial⟩, hS.weak ⟨rfl, trivial⟩⟩
 ·replace h := cond_f h hbv_4
  refine exit_ (then_x (then_x (blk_hit (then_n ?_))))
  replace h := ext_some h hxo
  refine seq ?_
  refine region ?_
  refine step hF (Y.move hF rfl) rfl fun a hF => ?_
  refine step hF (Y.assign hF rfl) rfl fun a hF => ?_
  refine nil (then_n ?_)
  refine ret_ ?_
  obtain rfl := some_inj h
  exact leaveP Tryd.results34 hF hS (.cons (.tmp rfl) .nil) .nil rfl

end Go.Proofs.YtidmdgjgpmeecaaDoor.Rt
