/- Walks of the functions of this seat: what each Go function comes to, as a Lean function, and the proof. Part WR1. Under no conditions. -/
import Derived.Test.YtidmdgjgpmeecaaDoorWBZ
set_option linter.unusedVariables false
set_option linter.unusedSimpArgs false
set_option maxRecDepth 100000
set_option maxHeartbeats 4000000
namespace Go.Proofs.YtidmdgjgpmeecaaDoor.Rt
open Go Go.RowKit
noncomputable def remontoirref08_Check_b1 (sv : SpareStore) : (Bool × Int) → Option ((Bool × Int) ⊕ Int)
 | (ok, i) =>
  cond (ok && (decide (i < (sv.Machines.length : Int))))
  ((idx sv.Machines i).bind fun e =>
  (remontoirref00_Lies e.From (-500) 500).bind fun rv_3 =>
  (cond rv_3 ((remontoirref00_Lies e.Warm 0 500).bind fun rv_4 =>
  some rv_4) (some false)).bind fun t_2 =>
  (cond t_2 ((remontoirref00_Valid e.Life 0 500).bind fun rv_5 =>
  some rv_5) (some false)).bind fun t_3 =>
  (cond t_3 ((remontoirref00_Lies e.Drift 0 100).bind fun rv_6 =>
  some rv_6) (some false)).bind fun t_4 =>
  nxt (t_4, wr (i + 1)))
  (ext (cond (!ok)
  (some 80)
  (some 0)))
noncomputable def remontoirref08_Check (sv : SpareStore) : Option Int :=
  (remontoirref00_Lies sv.Hours 1 500).bind fun rv =>
  (cond rv ((remontoirref00_Lies sv.Gap 0 1000).bind fun rv_1 =>
  some rv_1) (some false)).bind fun t =>
  (cond t ((remontoirref00_Lies (sv.Machines.length : Int) 1 8).bind fun rv_2 =>
  some rv_2) (some false)).bind fun t_1 =>
  loopU (remontoirref08_Check_b1 sv) (t_1, 0)
theorem remontoirref08_Check_ok {w0 : World} {D0 : Stab} (hD : D0.on w0) (sv : SpareStore) {p : Option Addr} {c : Nat} (hs : SRc C_SpareMachine D0 sv.Machines p c) (out : Int) (h : remontoirref08_Check sv = some out) : Calls Tryd.prog 18 [.agg #[.int .i64 sv.Hours, .int .i64 sv.Gap, .slice p sv.Machines.length c]].toArray w0 (RetP D0 w0 (.int .i64 out)) := by
 refine enter _ 55 Tryd.func18 rfl Tryd.ntmps18 rfl fun a hF => ?_
 replace hF : Frm 55 [] [(0, .agg #[.int .i64 sv.Hours, .int .i64 sv.Gap, .slice p sv.Machines.length c])] a := hF
 have hS := St.start hD
 unfold remontoirref08_Check at h
 refine seq ?_
 refine region ?_
 refine O.box (cs := [.int .i64 sv.Hours, .int .i64 sv.Gap, .slice p sv.Machines.length c]) 1 hF rfl rfl hS rfl fun b a w hF hS => ?_
 refine step hF (Y.assign hF rfl) rfl fun a hF => ?_
 refine nil (then_n ?_)
 refine seq ?_
 refine region ?_
 refine step hF (Y.fieldAddr fo_24_0 hF rfl) rfl fun a hF => ?_
 refine step hF (Y.load1L 1 sz_3 hF rfl hS rfl rfl) rfl fun a hF => ?_
 obtain ⟨rv, hx, h⟩ := bind_some h
 refine O.callP (us := [.int .i64 sv.Hours, .int .i64 1, .int .i64 500]) ca_35 hF hS (remontoirref00_Lies_ok hS.stab sv.Hours 1 500 rv hx) rfl rfl fun a w hF hS => ?_
 refine step hF (Y.move hF rfl) rfl fun a hF => ?_
 obtain ⟨t, ht, h⟩ := bind_some h
 refine join (N := 55) (rs := []) (w0 := w0) (D0 := D0) 4 (us := [(1, .pointer (some ⟨b, 0, none⟩)), (2, .int .i64 0), (13, .bool t)]) (ms := [(1, .cells b [.int .i64 sv.Hours, .int .i64 sv.Gap, .slice p sv.Machines.length c] 24)]) (D' := D0) ?_ ?_
 ·rcases bcases rv with hbv | hbv
  ·-- true
   replace h := cond_t ht hbv
   refine guard_on hF rfl rfl hbv ?_
   refine step hF (Y.fieldAddr fo_24_1 hF rfl) rfl fun a hF => ?_
   refine guard_on hF rfl rfl hbv ?_
   refine step hF (Y.load1L 1 sz_3 hF rfl hS rfl rfl) rfl fun a hF => ?_
   refine guard_on hF rfl rfl hbv ?_
   obtain ⟨rv_1, hx_1, h⟩ := bind_some h
   refine O.callP (us := [.int .i64 sv.Gap, .int .i64 0, .int .i64 1000]) ca_35 hF hS (remontoirref00_Lies_ok hS.stab sv.Gap 0 1000 rv_1 hx_1) rfl rfl fun a w hF hS => ?_
   refine step hF (Y.pick_t hF rfl hbv rfl) rfl fun a hF => ?_
   obtain rfl := some_inj h
   exact nil (then_n ⟨hF.weak ⟨rfl, rfl, rfl, trivial⟩, hS.weak ⟨rfl, trivial⟩⟩)
  ·-- false
   replace h := cond_f ht hbv
   refine guard_off hF rfl rfl hbv rfl fun a hF => ?_
   refine guard_off hF rfl rfl hbv rfl fun a hF => ?_
   refine guard_off hF rfl rfl hbv rfl fun a hF => ?_
   refine step hF (Y.pick_f hF rfl hbv rfl) rfl fun a hF => ?_
   obtain rfl := some_inj h
   exact nil (then_n ⟨hF.weak ⟨rfl, rfl, rfl, trivial⟩, hS.weak ⟨rfl, trivial⟩⟩)
 intro a w hF hS
 refine step hF (Y.move hF rfl) rfl fun a hF => ?_
 obtain ⟨t_1, ht_1, h⟩ := bind_some h
 refine join (N := 55) (rs := []) (w0 := w0) (D0 := D0) 5 (us := [(1, .pointer (some ⟨b, 0, none⟩)), (2, .int .i64 0), (19, .bool t_1)]) (ms := [(1, .cells b [.int .i64 sv.Hours, .int .i64 sv.Gap, .slice p sv.Machines.length c] 24)]) (D' := D0) ?_ ?_
 ·rcases bcases t with hbv_1 | hbv_1
  ·-- true
   replace h := cond_t ht_1 hbv_1
   refine guard_on hF rfl rfl hbv_1 ?_
   refine step hF (Y.fieldAddr fo_24_2 hF rfl) rfl fun a hF => ?_
   refine guard_on hF rfl rfl hbv_1 ?_
   refine step hF (Y.load1L 1 sz_22 hF rfl hS rfl rfl) rfl fun a hF => ?_
   refine guard_on hF rfl rfl hbv_1 ?_
   refine step hF (Y.lenSl u_22 hF rfl) rfl fun a hF => ?_
   refine guard_on hF rfl rfl hbv_1 ?_
   obtain ⟨rv_2, hx_2, h⟩ := bind_some h
   refine O.callP (us := [.int .i64 (sv.Machines.length : Int), .int .i64 1, .int .i64 8]) ca_35 hF hS (remontoirref00_Lies_ok hS.stab (sv.Machines.length : Int) 1 8 rv_2 hx_2) rfl rfl fun a w hF hS => ?_
   refine step hF (Y.pick_t hF rfl hbv_1 rfl) rfl fun a hF => ?_
   obtain rfl := some_inj h
   exact nil (then_n ⟨hF.weak ⟨rfl, rfl, rfl, trivial⟩, hS.weak ⟨rfl, trivial⟩⟩)
  ·-- false
   replace h := cond_f ht_1 hbv_1
   refine guard_off hF rfl rfl hbv_1 rfl fun a hF => ?_
   refine guard_off hF rfl rfl hbv_1 rfl fun a hF => ?_
   refine guard_off hF rfl rfl hbv_1 rfl fun a hF => ?_
   refine guard_off hF rfl rfl hbv_1 rfl fun a hF => ?_
   refine step hF (Y.pick_f hF rfl hbv_1 rfl) rfl fun a hF => ?_
   obtain rfl := some_inj h
   exact nil (then_n ⟨hF.weak ⟨rfl, rfl, rfl, trivial⟩, hS.weak ⟨rfl, trivial⟩⟩)
 intro a w hF hS
 refine step hF (Y.assign hF rfl) rfl fun a hF => ?_
 refine nil (then_n ?_)
 refine seq ?_
 refine seq ?_
 refine region ?_
 refine step hF (Y.assign hF rfl) rfl fun a hF => ?_
 refine nil (then_n ?_)
 refine block ?_
 refine loop_cut (body := remontoirref08_Check_b1 sv) (out := out) (fun s a w => ∃ (ok : Bool) (i : Int), s = (ok, i) ∧ Frm 55 [] [(1, .pointer (some ⟨b, 0, none⟩)), (2, .int .i64 0), (3, .bool ok), (4, .int .i64 i)] a ∧ St w0 D0 D0 [(1, .cells b [.int .i64 sv.Hours, .int .i64 sv.Gap, .slice p sv.Machines.length c] 24)] w) (t_1, 0) h ⟨t_1, 0, rfl, hF.weak ⟨rfl, rfl, rfl, rfl, trivial⟩, hS.weak ⟨rfl, trivial⟩⟩ ?_
 rintro s a w xo ⟨ok, i, rfl, hF, hS⟩ h hxo
 unfold remontoirref08_Check_b1 at h
 dsimp only at h
 refine seq ?_
 refine seq ?_
 refine region ?_
 refine step hF (Y.move hF rfl) rfl fun a hF => ?_
 refine step hF (Y.move hF rfl) rfl fun a hF => ?_
 refine join (N := 55) (rs := []) (w0 := w0) (D0 := D0) 6 (us := [(1, .pointer (some ⟨b, 0, none⟩)), (2, .int .i64 0), (3, .bool ok), (4, .int .i64 i), (27, .bool (ok && (decide (i < (sv.Machines.length : Int)))))]) (ms := [(1, .cells b [.int .i64 sv.Hours, .int .i64 sv.Gap, .slice p sv.Machines.length c] 24)]) (D' := D0) ?_ ?_
 ·rcases bcases ok with hbv_2 | hbv_2
  ·-- true
   refine guard_on hF rfl rfl hbv_2 ?_
   refine step hF (Y.move hF rfl) rfl fun a hF => ?_
   refine guard_on hF rfl rfl hbv_2 ?_
   refine step hF (Y.fieldAddr fo_24_2 hF rfl) rfl fun a hF => ?_
   refine guard_on hF rfl rfl hbv_2 ?_
   refine step hF (Y.load1L 1 sz_22 hF rfl hS rfl rfl) rfl fun a hF => ?_
   refine guard_on hF rfl rfl hbv_2 ?_
   refine step hF (Y.lenSl u_22 hF rfl) rfl fun a hF => ?_
   refine guard_on hF rfl rfl hbv_2 ?_
   refine step hF (Y.lss hF rfl rfl) rfl fun a hF => ?_
   refine step hF (Y.pick_t hF rfl hbv_2 rfl) rfl fun a hF => ?_
   exact nil (then_n ⟨hF.weak ⟨rfl, rfl, rfl, rfl, (by rw [hbv_2]; rfl), trivial⟩, hS.weak ⟨rfl, trivial⟩⟩)
  ·-- false
   refine guard_off hF rfl rfl hbv_2 rfl fun a hF => ?_
   refine guard_off hF rfl rfl hbv_2 rfl fun a hF => ?_
   refine guard_off hF rfl rfl hbv_2 rfl fun a hF => ?_
   refine guard_off hF rfl rfl hbv_2 rfl fun a hF => ?_
   refine guard_off hF rfl rfl hbv_2 rfl fun a hF => ?_
   refine step hF (Y.pick_f hF rfl hbv_2 rfl) rfl fun a hF => ?_
   exact nil (then_n ⟨hF.weak ⟨rfl, rfl, rfl, rfl, (by rw [hbv_2]; rfl), trivial⟩, hS.weak ⟨rfl, trivial⟩⟩)
 intro a w hF hS
 refine nil (then_n ?_)
 refine cond_b hF rfl (fun hbv_3 => ?_) (fun hbv_3 => ?_)
 ·replace h := cond_t h hbv_3
  refine skip_ (then_n ?_)
  refine seq ?_
  refine block ?_
  refine seq ?_
  refine region ?_
  refine step hF (Y.fieldAddr fo_24_2 hF rfl) rfl fun a hF => ?_
  refine step hF (Y.load1L 1 sz_22 hF rfl hS rfl rfl) rfl fun a hF => ?_
  refine step hF (Y.move hF rfl) rfl fun a hF => ?_
  obtain ⟨e, hx_3, h⟩ := bind_some h
  obtain ⟨b_1, o, hE, hY⟩ := Y.indexS (P := Tryd.prog) (C := C_SpareMachine) (xs := sv.Machines) (T := 22) (x := (.tmp 31)) (y := (.tmp 32)) u_22 sz_52 hF rfl rfl (hs).1 hx_3
  obtain ⟨cc, hc, hcell⟩ := hE.open
  obtain rfl := C_SpareMachine.open hc
  refine step hF (hY) rfl fun a hF => ?_
  refine step hF (Y.loadNE (o := o) (k := 0) sz_52 hF rfl (hcell _ hS.stab) rfl rfl) rfl fun a hF => ?_
  refine O.alloc 2 zc_52 hF hS rfl fun b_2 a w hF hS => ?_
  refine O.store (us := [.int .i64 e.From, .int .i64 e.Warm, .int .i64 e.Life.Low, .int .i64 e.Life.High, .int .i64 e.Drift]) 2 sz_52 hF rfl rfl rfl rfl hS rfl rfl fun a w hF hS => ?_
  refine nil (then_n ?_)
  refine region ?_
  refine step hF (Y.fieldAddr fo_52_0 hF rfl) rfl fun a hF => ?_
  refine step hF (Y.load1L 2 sz_3 hF rfl hS rfl rfl) rfl fun a hF => ?_
  obtain ⟨rv_3, hx_4, h⟩ := bind_some h
  refine O.callP (us := [.int .i64 e.From, .int .i64 (-500), .int .i64 500]) ca_35 hF hS (remontoirref00_Lies_ok hS.stab e.From (-500) 500 rv_3 hx_4) rfl rfl fun a w hF hS => ?_
  refine step hF (Y.move hF rfl) rfl fun a hF => ?_
  obtain ⟨t_2, ht_2, h⟩ := bind_some h
  refine join (N := 55) (rs := []) (w0 := w0) (D0 := D0) 4 (us := [(1, .pointer (some ⟨b, 0, none⟩)), (2, .int .i64 0), (3, .bool ok), (4, .int .i64 i), (5, .pointer (some ⟨b_2, 0, none⟩)), (42, .bool t_2)]) (ms := [(1, .cells b [.int .i64 sv.Hours, .int .i64 sv.Gap, .slice p sv.Machines.length c] 24), (2, .cells b_2 [.int .i64 e.From, .int .i64 e.Warm, .int .i64 e.Life.Low, .int .i64 e.Life.High, .int .i64 e.Drift] 52)]) (D' := D0) ?_ ?_
  ·rcases bcases rv_3 with hbv_4 | hbv_4
   ·-- true
    replace h := cond_t ht_2 hbv_4
    refine guard_on hF rfl rfl hbv_4 ?_
    refine step hF (Y.fieldAddr fo_52_1 hF rfl) rfl fun a hF => ?_
    refine guard_on hF rfl rfl hbv_4 ?_
    refine step hF (Y.load1L 2 sz_3 hF rfl hS rfl rfl) rfl fun a hF => ?_
    refine guard_on hF rfl rfl hbv_4 ?_
    obtain ⟨rv_4, hx_5, h⟩ := bind_some h
    refine O.callP (us := [.int .i64 e.Warm, .int .i64 0, .int .i64 500]) ca_35 hF hS (remontoirref00_Lies_ok hS.stab e.Warm 0 500 rv_4 hx_5) rfl rfl fun a w hF hS => ?_
    refine step hF (Y.pick_t hF rfl hbv_4 rfl) rfl fun a hF => ?_
    obtain rfl := some_inj h
    exact nil (then_n ⟨hF.weak ⟨rfl, rfl, rfl, rfl, rfl, rfl, trivial⟩, hS.weak ⟨rfl, rfl, trivial⟩⟩)
   ·-- false
    replace h := cond_f ht_2 hbv_4
    refine guard_off hF rfl rfl hbv_4 rfl fun a hF => ?_
    refine guard_off hF rfl rfl hbv_4 rfl fun a hF => ?_
    refine guard_off hF rfl rfl hbv_4 rfl fun a hF => ?_
    refine step hF (Y.pick_f hF rfl hbv_4 rfl) rfl fun a hF => ?_
    obtain rfl := some_inj h
    exact nil (then_n ⟨hF.weak ⟨rfl, rfl, rfl, rfl, rfl, rfl, trivial⟩, hS.weak ⟨rfl, rfl, trivial⟩⟩)
  intro a w hF hS
  refine step hF (Y.move hF rfl) rfl fun a hF => ?_
  obtain ⟨t_3, ht_3, h⟩ := bind_some h
  refine join (N := 55) (rs := []) (w0 := w0) (D0 := D0) 4 (us := [(1, .pointer (some ⟨b, 0, none⟩)), (2, .int .i64 0), (3, .bool ok), (4, .int .i64 i), (5, .pointer (some ⟨b_2, 0, none⟩)), (47, .bool t_3)]) (ms := [(1, .cells b [.int .i64 sv.Hours, .int .i64 sv.Gap, .slice p sv.Machines.length c] 24), (2, .cells b_2 [.int .i64 e.From, .int .i64 e.Warm, .int .i64 e.Life.Low, .int .i64 e.Life.High, .int .i64 e.Drift] 52)]) (D' := D0) ?_ ?_
  ·rcases bcases t_2 with hbv_5 | hbv_5
   ·-- true
    replace h := cond_t ht_3 hbv_5
    refine guard_on hF rfl rfl hbv_5 ?_
    refine step hF (Y.fieldAddr fo_52_2 hF rfl) rfl fun a hF => ?_
    refine guard_on hF rfl rfl hbv_5 ?_
    refine step hF (Y.loadNL 2 sz_50 hF rfl hS rfl rfl rfl) rfl fun a hF => ?_
    refine guard_on hF rfl rfl hbv_5 ?_
    obtain ⟨rv_5, hx_6, h⟩ := bind_some h
    refine O.callP (us := [.agg #[.int .i64 e.Life.Low, .int .i64 e.Life.High], .int .i64 0, .int .i64 500]) ca_52 hF hS (remontoirref00_Valid_ok hS.stab e.Life 0 500 rv_5 hx_6) rfl rfl fun a w hF hS => ?_
    refine step hF (Y.pick_t hF rfl hbv_5 rfl) rfl fun a hF => ?_
    obtain rfl := some_inj h
    exact nil (then_n ⟨hF.weak ⟨rfl, rfl, rfl, rfl, rfl, rfl, trivial⟩, hS.weak ⟨rfl, rfl, trivial⟩⟩)
   ·-- false
    replace h := cond_f ht_3 hbv_5
    refine guard_off hF rfl rfl hbv_5 rfl fun a hF => ?_
    refine guard_off hF rfl rfl hbv_5 rfl fun a hF => ?_
    refine guard_off hF rfl rfl hbv_5 rfl fun a hF => ?_
    refine step hF (Y.pick_f hF rfl hbv_5 rfl) rfl fun a hF => ?_
    obtain rfl := some_inj h
    exact nil (then_n ⟨hF.weak ⟨rfl, rfl, rfl, rfl, rfl, rfl, trivial⟩, hS.weak ⟨rfl, rfl, trivial⟩⟩)
  intro a w hF hS
  refine step hF (Y.move hF rfl) rfl fun a hF => ?_
  obtain ⟨t_4, ht_4, h⟩ := bind_some h
  refine join (N := 55) (rs := []) (w0 := w0) (D0 := D0) 4 (us := [(1, .pointer (some ⟨b, 0, none⟩)), (2, .int .i64 0), (3, .bool ok), (4, .int .i64 i), (52, .bool t_4)]) (ms := [(1, .cells b [.int .i64 sv.Hours, .int .i64 sv.Gap, .slice p sv.Machines.length c] 24), (2, .cells b_2 [.int .i64 e.From, .int .i64 e.Warm, .int .i64 e.Life.Low, .int .i64 e.Life.High, .int .i64 e.Drift] 52)]) (D' := D0) ?_ ?_
  ·rcases bcases t_3 with hbv_6 | hbv_6
   ·-- true
    replace h := cond_t ht_4 hbv_6
    refine guard_on hF rfl rfl hbv_6 ?_
    refine step hF (Y.fieldAddr fo_52_3 hF rfl) rfl fun a hF => ?_
    refine guard_on hF rfl rfl hbv_6 ?_
    refine step hF (Y.load1L 2 sz_3 hF rfl hS rfl rfl) rfl fun a hF => ?_
    refine guard_on hF rfl rfl hbv_6 ?_
    obtain ⟨rv_6, hx_7, h⟩ := bind_some h
    refine O.callP (us := [.int .i64 e.Drift, .int .i64 0, .int .i64 100]) ca_35 hF hS (remontoirref00_Lies_ok hS.stab e.Drift 0 100 rv_6 hx_7) rfl rfl fun a w hF hS => ?_
    refine step hF (Y.pick_t hF rfl hbv_6 rfl) rfl fun a hF => ?_
    obtain rfl := some_inj h
    exact nil (then_n ⟨hF.weak ⟨rfl, rfl, rfl, rfl, rfl, trivial⟩, hS.weak ⟨rfl, rfl, trivial⟩⟩)
   ·-- false
    replace h := cond_f ht_4 hbv_6
    refine guard_off hF rfl rfl hbv_6 rfl fun a hF => ?_
    refine guard_off hF rfl rfl hbv_6 rfl fun a hF => ?_
    refine guard_off hF rfl rfl hbv_6 rfl fun a hF => ?_
    refine step hF (Y.pick_f hF rfl hbv_6 rfl) rfl fun a hF => ?_
    obtain rfl := some_inj h
    exact nil (then_n ⟨hF.weak ⟨rfl, rfl, rfl, rfl, rfl, trivial⟩, hS.weak ⟨rfl, rfl, trivial⟩⟩)
  intro a w hF hS
  refine step hF (Y.assign hF rfl) rfl fun a hF => ?_
  refine nil (blk_n (then_n ?_))
  refine region ?_
  refine step hF (Y.move hF rfl) rfl fun a hF => ?_
  refine step hF (Y.add hF rfl rfl) rfl fun a hF => ?_
  refine step hF (Y.assign hF rfl) rfl fun a hF => ?_
  refine nil (then_n ?_)
  exact ⟨_, nxt_some h, t_4, (wr (i + 1)), rfl, hF.weak ⟨rfl, rfl, rfl, rfl, trivial⟩, hS.weak ⟨rfl, trivial⟩⟩
 ·replace h := cond_f h hbv_3
  refine exit_ (then_x (then_x (blk_hit (then_n ?_))))
  replace h := ext_some h hxo
  refine seq ?_
  refine seq ?_
  refine region ?_
  refine step hF (Y.move hF rfl) rfl fun a hF => ?_
  refine step hF (Y.not hF rfl) rfl fun a hF => ?_
  refine nil (then_n ?_)
  refine cond_b hF rfl (fun hbv_7 => ?_) (fun hbv_7 => ?_)
  ·replace h := cond_t h hbv_7
   refine seq ?_
   refine region ?_
   refine step hF (Y.assign hF rfl) rfl fun a hF => ?_
   refine nil (then_n ?_)
   refine ret_ (then_r ?_)
   obtain rfl := some_inj h
   exact leaveP Tryd.results18 hF hS (.cons (.tmp rfl) .nil) .nil rfl
  ·replace h := cond_f h hbv_7
   refine skip_ (then_n ?_)
   refine seq ?_
   refine region ?_
   refine step hF (Y.assign hF rfl) rfl fun a hF => ?_
   refine nil (then_n ?_)
   refine ret_ ?_
   obtain rfl := some_inj h
   exact leaveP Tryd.results18 hF hS (.cons (.tmp rfl) .nil) .nil rfl

noncomputable def remontoirref08_last (xv : SpareMachine) : Option Int :=
  some (if wr (xv.Life.Low - xv.Warm) > 0 then wr (xv.Life.Low - xv.Warm) else 0)
theorem remontoirref08_last_ok {w0 : World} {D0 : Stab} (hD : D0.on w0) (xv : SpareMachine) (out : Int) (h : remontoirref08_last xv = some out) : Calls Tryd.prog 51 [.agg #[.int .i64 xv.From, .int .i64 xv.Warm, .int .i64 xv.Life.Low, .int .i64 xv.Life.High, .int .i64 xv.Drift]].toArray w0 (RetP D0 w0 (.int .i64 out)) := by
 refine enter _ 10 Tryd.func51 rfl Tryd.ntmps51 rfl fun a hF => ?_
 replace hF : Frm 10 [] [(0, .agg #[.int .i64 xv.From, .int .i64 xv.Warm, .int .i64 xv.Life.Low, .int .i64 xv.Life.High, .int .i64 xv.Drift])] a := hF
 have hS := St.start hD
 unfold remontoirref08_last at h
 refine seq ?_
 refine region ?_
 refine O.box (cs := [.int .i64 xv.From, .int .i64 xv.Warm, .int .i64 xv.Life.Low, .int .i64 xv.Life.High, .int .i64 xv.Drift]) 1 hF rfl rfl hS rfl fun b a w hF hS => ?_
 refine step hF (Y.assign hF rfl) rfl fun a hF => ?_
 refine nil (then_n ?_)
 refine seq ?_
 refine region ?_
 refine step hF (Y.fieldAddr fo_52_2 hF rfl) rfl fun a hF => ?_
 refine step hF (Y.fieldAddr fo_50_0 hF rfl) rfl fun a hF => ?_
 refine step hF (Y.load1L 1 sz_3 hF rfl hS rfl rfl) rfl fun a hF => ?_
 refine step hF (Y.fieldAddr fo_52_1 hF rfl) rfl fun a hF => ?_
 refine step hF (Y.load1L 1 sz_3 hF rfl hS rfl rfl) rfl fun a hF => ?_
 refine step hF (Y.sub hF rfl rfl) rfl fun a hF => ?_
 refine step hF (Y.max2 hF rfl rfl) rfl fun a hF => ?_
 refine step hF (Y.assign hF rfl) rfl fun a hF => ?_
 refine nil (then_n ?_)
 refine ret_ ?_
 obtain rfl := some_inj h
 exact leaveP Tryd.results51 hF hS (.cons (.tmp rfl) .nil) .nil rfl

noncomputable def remontoirref08_stint (sv : SpareStore) (xv : SpareMachine) : Option Int :=
  cond (xv.Drift == 0)
  ((remontoirref08_last xv).bind fun rv =>
  some rv)
  ((remontoirref08_last xv).bind fun rv_1 =>
  if xv.Drift ≠ 0 then
  some (if wr (Int.tdiv sv.Gap xv.Drift) < rv_1 then wr (Int.tdiv sv.Gap xv.Drift) else rv_1)
  else none)
theorem remontoirref08_stint_ok {w0 : World} {D0 : Stab} (hD : D0.on w0) (sv : SpareStore) (xv : SpareMachine) {p : Option Addr} {c : Nat} (hs : SRc C_SpareMachine D0 sv.Machines p c) (out : Int) (h : remontoirref08_stint sv xv = some out) : Calls Tryd.prog 50 [.agg #[.int .i64 sv.Hours, .int .i64 sv.Gap, .slice p sv.Machines.length c], .agg #[.int .i64 xv.From, .int .i64 xv.Warm, .int .i64 xv.Life.Low, .int .i64 xv.Life.High, .int .i64 xv.Drift]].toArray w0 (RetP D0 w0 (.int .i64 out)) := by
 refine enter _ 18 Tryd.func50 rfl Tryd.ntmps50 rfl fun a hF => ?_
 replace hF : Frm 18 [] [(0, .agg #[.int .i64 sv.Hours, .int .i64 sv.Gap, .slice p sv.Machines.length c]), (1, .agg #[.int .i64 xv.From, .int .i64 xv.Warm, .int .i64 xv.Life.Low, .int .i64 xv.Life.High, .int .i64 xv.Drift])] a := hF
 have hS := St.start hD
 unfold remontoirref08_stint at h
 refine seq ?_
 refine region ?_
 refine O.box (cs := [.int .i64 sv.Hours, .int .i64 sv.Gap, .slice p sv.Machines.length c]) 1 hF rfl rfl hS rfl fun b a w hF hS => ?_
 refine O.box (cs := [.int .i64 xv.From, .int .i64 xv.Warm, .int .i64 xv.Life.Low, .int .i64 xv.Life.High, .int .i64 xv.Drift]) 2 hF rfl rfl hS rfl fun b_1 a w hF hS => ?_
 refine step hF (Y.assign hF rfl) rfl fun a hF => ?_
 refine nil (then_n ?_)
 refine seq ?_
 refine seq ?_
 refine region ?_
 refine step hF (Y.fieldAddr fo_52_3 hF rfl) rfl fun a hF => ?_
 refine step hF (Y.load1L 2 sz_3 hF rfl hS rfl rfl) rfl fun a hF => ?_
 refine step hF (Y.eql hF rfl rfl) rfl fun a hF => ?_
 refine nil (then_n ?_)
 refine cond_b hF rfl (fun hbv => ?_) (fun hbv => ?_)
 ·replace h := cond_t h hbv
  refine seq ?_
  refine region ?_
  refine step hF (Y.loadNL 2 sz_52 hF rfl hS rfl rfl rfl) rfl fun a hF => ?_
  obtain ⟨rv, hx, h⟩ := bind_some h
  refine O.callP (us := [.agg #[.int .i64 xv.From, .int .i64 xv.Warm, .int .i64 xv.Life.Low, .int .i64 xv.Life.High, .int .i64 xv.Drift]]) ca_51 hF hS (remontoirref08_last_ok hS.stab xv rv hx) rfl rfl fun a w hF hS => ?_
  refine step hF (Y.assign hF rfl) rfl fun a hF => ?_
  refine nil (then_n ?_)
  refine ret_ (then_r ?_)
  obtain rfl := some_inj h
  exact leaveP Tryd.results50 hF hS (.cons (.tmp rfl) .nil) .nil rfl
 ·replace h := cond_f h hbv
  refine skip_ (then_n ?_)
  refine seq ?_
  obtain ⟨rv_1, hx_1, h⟩ := bind_some h
  obtain ⟨hg, h⟩ := ite_some h
  refine drawsV 7 (.flt 0 (.flt 2 (.flt 3 (.flt 4 (.flt 5 (.flt 6 (.alt 1 .done .stop))))))) mixed_ (by kernel_rfl) (fun w => St w0 D0 D0 [(1, .cells b [.int .i64 sv.Hours, .int .i64 sv.Gap, .slice p sv.Machines.length c] 24), (2, .cells b_1 [.int .i64 xv.From, .int .i64 xv.Warm, .int .i64 xv.Life.Low, .int .i64 xv.Life.High, .int .i64 xv.Drift] 52)] w) (fun a w => Frm 18 [] [(4, .int .i64 0), (11, .int .i64 rv_1), (16, .int .i64 (wr (Int.tdiv sv.Gap xv.Drift)))] a ∧ St w0 D0 D0 [(1, .cells b [.int .i64 sv.Hours, .int .i64 sv.Gap, .slice p sv.Machines.length c] 24), (2, .cells b_1 [.int .i64 xv.From, .int .i64 xv.Warm, .int .i64 xv.Life.Low, .int .i64 xv.Life.High, .int .i64 xv.Drift] 52)] w) (hS.weak (ms := [(1, .cells b [.int .i64 sv.Hours, .int .i64 sv.Gap, .slice p sv.Machines.length c] 24), (2, .cells b_1 [.int .i64 xv.From, .int .i64 xv.Warm, .int .i64 xv.Life.Low, .int .i64 xv.Life.High, .int .i64 xv.Drift] 52)]) ⟨rfl, rfl, trivial⟩).drew (fun _ _ _ _ h => h) ?_ ?_
  ·replace hS := hS.drew
   have hle0 := hS.le
   refine stepV (i := 0) rfl hF (fun w hS => Y.loadNL 2 sz_52 hF rfl hS rfl rfl rfl) rfl fun a hF => ?_
   refine stepV (i := 2) rfl hF (fun w hS => Y.fieldAddr fo_24_1 hF rfl) rfl fun a hF => ?_
   refine stepV (i := 3) rfl hF (fun w hS => Y.load1L 1 sz_3 hF rfl hS rfl rfl) rfl fun a hF => ?_
   refine stepV (i := 4) rfl hF (fun w hS => Y.fieldAddr fo_52_3 hF rfl) rfl fun a hF => ?_
   refine stepV (i := 5) rfl hF (fun w hS => Y.load1L 2 sz_3 hF rfl hS rfl rfl) rfl fun a hF => ?_
   refine stepV (i := 6) rfl hF (fun w hS => Y.quo hF rfl rfl hg) rfl fun a hF => ?_
   refine oneV (i := 1) rfl ?_ trivial
   refine O.callP (us := [.agg #[.int .i64 xv.From, .int .i64 xv.Warm, .int .i64 xv.Life.Low, .int .i64 xv.Life.High, .int .i64 xv.Drift]]) ca_51 hF hS (remontoirref08_last_ok hS.stab xv rv_1 hx_1) rfl rfl fun a w hF hS => ?_
   refine nil (then_n ⟨hS.weak ⟨rfl, rfl, trivial⟩, ?_⟩)
   exact toTailV ⟨hF.weak ⟨rfl, rfl, rfl, trivial⟩, hS.weak ⟨rfl, rfl, trivial⟩⟩
  rintro a w ⟨hF, hS⟩
  refine step hF (Y.min2 hF rfl rfl) rfl fun a hF => ?_
  refine step hF (Y.assign hF rfl) rfl fun a hF => ?_
  refine nil (then_n ?_)
  refine ret_ ?_
  obtain rfl := some_inj h
  exact leaveP Tryd.results50 hF hS (.cons (.tmp rfl) .nil) .nil rfl

noncomputable def remontoirref08_Lasts (sv : SpareStore) (machine : Int) : Option (Int × Int × Int) :=
  (remontoirref08_Check sv).bind fun rv =>
  cond (rv != 0)
  (some (0, 0, rv))
  ((remontoirref00_Lies machine 0 (wr ((sv.Machines.length : Int) - 1))).bind fun rv_1 =>
  cond (!rv_1)
  (some (0, 0, 81))
  ((idx sv.Machines machine).bind fun e =>
  (remontoirref08_stint sv e).bind fun rv_2 =>
  (idx sv.Machines machine).bind fun e_1 =>
  (remontoirref08_last e_1).bind fun rv_3 =>
  some (rv_2, rv_3, 0)))
theorem remontoirref08_Lasts_ok {w0 : World} {D0 : Stab} (hD : D0.on w0) (sv : SpareStore) (machine : Int) {p : Option Addr} {c : Nat} (hs : SRc C_SpareMachine D0 sv.Machines p c) (out : (Int × Int × Int)) (h : remontoirref08_Lasts sv machine = some out) : Calls Tryd.prog 16 [.agg #[.int .i64 sv.Hours, .int .i64 sv.Gap, .slice p sv.Machines.length c], .int .i64 machine].toArray w0 (RetP D0 w0 (.tuple #[.int .i64 out.1, .int .i64 out.2.1, .int .i64 out.2.2])) := by
 refine enter _ 33 Tryd.func16 rfl Tryd.ntmps16 rfl fun a hF => ?_
 replace hF : Frm 33 [] [(0, .agg #[.int .i64 sv.Hours, .int .i64 sv.Gap, .slice p sv.Machines.length c]), (1, .int .i64 machine)] a := hF
 have hS := St.start hD
 unfold remontoirref08_Lasts at h
 refine seq ?_
 refine region ?_
 refine O.box (cs := [.int .i64 sv.Hours, .int .i64 sv.Gap, .slice p sv.Machines.length c]) 1 hF rfl rfl hS rfl fun b a w hF hS => ?_
 refine step hF (Y.assign hF rfl) rfl fun a hF => ?_
 refine step hF (Y.assign hF rfl) rfl fun a hF => ?_
 refine step hF (Y.assign hF rfl) rfl fun a hF => ?_
 refine nil (then_n ?_)
 refine seq ?_
 refine seq ?_
 refine region ?_
 refine step hF (Y.loadNL 1 sz_24 hF rfl hS rfl rfl rfl) rfl fun a hF => ?_
 obtain ⟨rv, hx, h⟩ := bind_some h
 refine O.callP (us := [.agg #[.int .i64 sv.Hours, .int .i64 sv.Gap, .slice p sv.Machines.length c]]) ca_18 hF hS (remontoirref08_Check_ok hS.stab sv hs rv hx) rfl rfl fun a w hF hS => ?_
 refine step hF (Y.assign hF rfl) rfl fun a hF => ?_
 refine nil (then_n ?_)
 refine seq ?_
 refine region ?_
 refine step hF (Y.move hF rfl) rfl fun a hF => ?_
 refine step hF (Y.neq hF rfl rfl) rfl fun a hF => ?_
 refine nil (then_n ?_)
 refine cond_b hF rfl (fun hbv => ?_) (fun hbv => ?_)
 ·replace h := cond_t h hbv
  refine seq ?_
  refine region ?_
  refine step hF (Y.move hF rfl) rfl fun a hF => ?_
  refine step hF (Y.assign hF rfl) rfl fun a hF => ?_
  refine step hF (Y.assign hF rfl) rfl fun a hF => ?_
  refine step hF (Y.assign hF rfl) rfl fun a hF => ?_
  refine nil (then_n ?_)
  refine ret_ (then_r ?_)
  obtain rfl := some_inj h
  exact leaveP Tryd.results16 hF hS (.cons (.tmp rfl) (.cons (.tmp rfl) (.cons (.tmp rfl) .nil))) .nil rfl
 ·replace h := cond_f h hbv
  refine skip_ (then_n ?_)
  refine seq ?_
  refine seq ?_
  refine region ?_
  refine step hF (Y.move hF rfl) rfl fun a hF => ?_
  refine step hF (Y.fieldAddr fo_24_2 hF rfl) rfl fun a hF => ?_
  refine step hF (Y.load1L 1 sz_22 hF rfl hS rfl rfl) rfl fun a hF => ?_
  refine step hF (Y.lenSl u_22 hF rfl) rfl fun a hF => ?_
  refine step hF (Y.sub hF rfl rfl) rfl fun a hF => ?_
  obtain ⟨rv_1, hx_1, h⟩ := bind_some h
  refine O.callP (us := [.int .i64 machine, .int .i64 0, .int .i64 (wr ((sv.Machines.length : Int) - 1))]) ca_35 hF hS (remontoirref00_Lies_ok hS.stab machine 0 (wr ((sv.Machines.length : Int) - 1)) rv_1 hx_1) rfl rfl fun a w hF hS => ?_
  refine step hF (Y.not hF rfl) rfl fun a hF => ?_
  refine nil (then_n ?_)
  refine cond_b hF rfl (fun hbv_1 => ?_) (fun hbv_1 => ?_)
  ·replace h := cond_t h hbv_1
   refine seq ?_
   refine region ?_
   refine step hF (Y.assign hF rfl) rfl fun a hF => ?_
   refine step hF (Y.assign hF rfl) rfl fun a hF => ?_
   refine step hF (Y.assign hF rfl) rfl fun a hF => ?_
   refine nil (then_n ?_)
   refine ret_ (then_r ?_)
   obtain rfl := some_inj h
   exact leaveP Tryd.results16 hF hS (.cons (.tmp rfl) (.cons (.tmp rfl) (.cons (.tmp rfl) .nil))) .nil rfl
  ·replace h := cond_f h hbv_1
   refine skip_ (then_n ?_)
   refine seq ?_
   obtain ⟨e, hx_2, h⟩ := bind_some h
   obtain ⟨rv_2, hx_3, h⟩ := bind_some h
   obtain ⟨e_1, hx_4, h⟩ := bind_some h
   refine drawsV 12 (.flt 0 (.flt 1 (.flt 2 (.flt 3 (.flt 4 (.flt 5 (.flt 7 (.flt 8 (.flt 9 (.flt 10 (.flt 11 (.alt 6 .done .stop)))))))))))) mixed_ (by kernel_rfl) (fun w => St w0 D0 D0 [(1, .cells b [.int .i64 sv.Hours, .int .i64 sv.Gap, .slice p sv.Machines.length c] 24)] w) (fun a w => Frm 33 [] [(4, .int .i64 0), (5, .int .i64 0), (6, .int .i64 0), (26, .int .i64 rv_2), (31, .agg #[.int .i64 e_1.From, .int .i64 e_1.Warm, .int .i64 e_1.Life.Low, .int .i64 e_1.Life.High, .int .i64 e_1.Drift])] a ∧ St w0 D0 D0 [(1, .cells b [.int .i64 sv.Hours, .int .i64 sv.Gap, .slice p sv.Machines.length c] 24)] w) (hS.weak (ms := [(1, .cells b [.int .i64 sv.Hours, .int .i64 sv.Gap, .slice p sv.Machines.length c] 24)]) ⟨rfl, trivial⟩).drew (fun _ _ _ _ h => h) ?_ ?_
   ·replace hS := hS.drew
    have hle0 := hS.le
    refine stepV (i := 0) rfl hF (fun w hS => Y.loadNL 1 sz_24 hF rfl hS rfl rfl rfl) rfl fun a hF => ?_
    refine stepV (i := 1) rfl hF (fun w hS => Y.fieldAddr fo_24_2 hF rfl) rfl fun a hF => ?_
    refine stepV (i := 2) rfl hF (fun w hS => Y.load1L 1 sz_22 hF rfl hS rfl rfl) rfl fun a hF => ?_
    refine stepV (i := 3) rfl hF (fun w hS => Y.move hF rfl) rfl fun a hF => ?_
    obtain ⟨b_3, o_2, hE_2, hY_2⟩ := Y.indexS (P := Tryd.prog) (C := C_SpareMachine) (xs := sv.Machines) (T := 22) (x := (.tmp 22)) (y := (.tmp 23)) u_22 sz_52 hF rfl rfl (hs).1 hx_2
    obtain ⟨cc_2, hc_2, hcell_2⟩ := hE_2.open
    obtain rfl := C_SpareMachine.open hc_2
    refine stepV (i := 4) rfl hF (fun w hS => hY_2) rfl fun a hF => ?_
    refine stepV (i := 5) rfl hF (fun w hS => Y.loadNE (o := o_2) (k := 0) sz_52 hF rfl (hcell_2 _ hS.stab) rfl rfl) rfl fun a hF => ?_
    refine stepV (i := 7) rfl hF (fun w hS => Y.fieldAddr fo_24_2 hF rfl) rfl fun a hF => ?_
    refine stepV (i := 8) rfl hF (fun w hS => Y.load1L 1 sz_22 hF rfl hS rfl rfl) rfl fun a hF => ?_
    refine stepV (i := 9) rfl hF (fun w hS => Y.move hF rfl) rfl fun a hF => ?_
    obtain ⟨b_4, o_3, hE_3, hY_3⟩ := Y.indexS (P := Tryd.prog) (C := C_SpareMachine) (xs := sv.Machines) (T := 22) (x := (.tmp 28)) (y := (.tmp 29)) u_22 sz_52 hF rfl rfl (hs).1 hx_4
    obtain ⟨cc_3, hc_3, hcell_3⟩ := hE_3.open
    obtain rfl := C_SpareMachine.open hc_3
    refine stepV (i := 10) rfl hF (fun w hS => hY_3) rfl fun a hF => ?_
    refine stepV (i := 11) rfl hF (fun w hS => Y.loadNE (o := o_3) (k := 0) sz_52 hF rfl (hcell_3 _ hS.stab) rfl rfl) rfl fun a hF => ?_
    refine oneV (i := 6) rfl ?_ trivial
    refine O.callP (us := [.agg #[.int .i64 sv.Hours, .int .i64 sv.Gap, .slice p sv.Machines.length c], .agg #[.int .i64 e.From, .int .i64 e.Warm, .int .i64 e.Life.Low, .int .i64 e.Life.High, .int .i64 e.Drift]]) ca_50 hF hS (remontoirref08_stint_ok hS.stab sv e hs rv_2 hx_3) rfl rfl fun a w hF hS => ?_
    refine nil (then_n ⟨hS.weak ⟨rfl, trivial⟩, ?_⟩)
    exact toTailV ⟨hF.weak ⟨rfl, rfl, rfl, rfl, rfl, trivial⟩, hS.weak ⟨rfl, trivial⟩⟩
   rintro a w ⟨hF, hS⟩
   obtain ⟨rv_3, hx_5, h⟩ := bind_some h
   refine O.callP (us := [.agg #[.int .i64 e_1.From, .int .i64 e_1.Warm, .int .i64 e_1.Life.Low, .int .i64 e_1.Life.High, .int .i64 e_1.Drift]]) ca_51 hF hS (remontoirref08_last_ok hS.stab e_1 rv_3 hx_5) rfl rfl fun a w hF hS => ?_
   refine step hF (Y.assign hF rfl) rfl fun a hF => ?_
   refine step hF (Y.assign hF rfl) rfl fun a hF => ?_
   refine step hF (Y.assign hF rfl) rfl fun a hF => ?_
   refine nil (then_n ?_)
   refine ret_ ?_
   obtain rfl := some_inj h
   exact leaveP Tryd.results16 hF hS (.cons (.tmp rfl) (.cons (.tmp rfl) (.cons (.tmp rfl) .nil))) .nil rfl

noncomputable def remontoirref08_off (sv : SpareStore) (t : SpareTurn) (hour : Int) : Option Int :=
  (idx sv.Machines t.Machine).bind fun e =>
  some (wr (e.Drift * (wr ((wr (hour - t.Start)) - e.Warm))))
theorem remontoirref08_off_ok {w0 : World} {D0 : Stab} (hD : D0.on w0) (sv : SpareStore) (t : SpareTurn) (hour : Int) {p : Option Addr} {c : Nat} (hs : SRc C_SpareMachine D0 sv.Machines p c) (out : Int) (h : remontoirref08_off sv t hour = some out) : Calls Tryd.prog 69 [.agg #[.int .i64 sv.Hours, .int .i64 sv.Gap, .slice p sv.Machines.length c], .agg #[.int .i64 t.Machine, .int .i64 t.Start, .int .i64 t.Over], .int .i64 hour].toArray w0 (RetP D0 w0 (.int .i64 out)) := by
 refine enter _ 24 Tryd.func69 rfl Tryd.ntmps69 rfl fun a hF => ?_
 replace hF : Frm 24 [] [(0, .agg #[.int .i64 sv.Hours, .int .i64 sv.Gap, .slice p sv.Machines.length c]), (1, .agg #[.int .i64 t.Machine, .int .i64 t.Start, .int .i64 t.Over]), (2, .int .i64 hour)] a := hF
 have hS := St.start hD
 unfold remontoirref08_off at h
 refine seq ?_
 refine region ?_
 refine O.box (cs := [.int .i64 sv.Hours, .int .i64 sv.Gap, .slice p sv.Machines.length c]) 1 hF rfl rfl hS rfl fun b a w hF hS => ?_
 refine O.box (cs := [.int .i64 t.Machine, .int .i64 t.Start, .int .i64 t.Over]) 2 hF rfl rfl hS rfl fun b_1 a w hF hS => ?_
 refine step hF (Y.assign hF rfl) rfl fun a hF => ?_
 refine nil (then_n ?_)
 refine seq ?_
 refine region ?_
 refine step hF (Y.fieldAddr fo_24_2 hF rfl) rfl fun a hF => ?_
 refine step hF (Y.load1L 1 sz_22 hF rfl hS rfl rfl) rfl fun a hF => ?_
 refine step hF (Y.fieldAddr fo_46_0 hF rfl) rfl fun a hF => ?_
 refine step hF (Y.load1L 2 sz_3 hF rfl hS rfl rfl) rfl fun a hF => ?_
 obtain ⟨e, hx, h⟩ := bind_some h
 obtain ⟨b_2, o, hE, hY⟩ := Y.indexS (P := Tryd.prog) (C := C_SpareMachine) (xs := sv.Machines) (T := 22) (x := (.tmp 9)) (y := (.tmp 11)) u_22 sz_52 hF rfl rfl (hs).1 hx
 obtain ⟨cc, hc, hcell⟩ := hE.open
 obtain rfl := C_SpareMachine.open hc
 refine step hF (hY) rfl fun a hF => ?_
 refine step hF (Y.loadNE (o := o) (k := 0) sz_52 hF rfl (hcell _ hS.stab) rfl rfl) rfl fun a hF => ?_
 refine O.alloc 3 zc_52 hF hS rfl fun b_3 a w hF hS => ?_
 refine O.store (us := [.int .i64 e.From, .int .i64 e.Warm, .int .i64 e.Life.Low, .int .i64 e.Life.High, .int .i64 e.Drift]) 3 sz_52 hF rfl rfl rfl rfl hS rfl rfl fun a w hF hS => ?_
 refine nil (then_n ?_)
 refine seq ?_
 refine region ?_
 refine step hF (Y.fieldAddr fo_52_3 hF rfl) rfl fun a hF => ?_
 refine step hF (Y.load1L 3 sz_3 hF rfl hS rfl rfl) rfl fun a hF => ?_
 refine step hF (Y.move hF rfl) rfl fun a hF => ?_
 refine step hF (Y.fieldAddr fo_46_1 hF rfl) rfl fun a hF => ?_
 refine step hF (Y.load1L 2 sz_3 hF rfl hS rfl rfl) rfl fun a hF => ?_
 refine step hF (Y.sub hF rfl rfl) rfl fun a hF => ?_
 refine step hF (Y.fieldAddr fo_52_1 hF rfl) rfl fun a hF => ?_
 refine step hF (Y.load1L 3 sz_3 hF rfl hS rfl rfl) rfl fun a hF => ?_
 refine step hF (Y.sub hF rfl rfl) rfl fun a hF => ?_
 refine step hF (Y.mul hF rfl rfl) rfl fun a hF => ?_
 refine step hF (Y.assign hF rfl) rfl fun a hF => ?_
 refine nil (then_n ?_)
 refine ret_ ?_
 obtain rfl := some_inj h
 exact leaveP Tryd.results69 hF hS (.cons (.tmp rfl) .nil) .nil rfl

noncomputable def remontoirref08_isPlan_k2 (sv : SpareStore) (plan : (List SpareTurn)) (v6_0 : Bool) (used : Int) (i : Int) (e : SpareTurn) (e_1 : SpareMachine) (untilv : Int) : Option ((Bool × Int × Int) ⊕ Bool) :=
  cond ((((decide (e.Start < e_1.From)) || (decide (e.Over < (wr (e.Start + e_1.Warm))))) || (decide ((wr (e.Start + e_1.Life.Low)) < untilv))) || (decide (untilv ≤ e.Over)))
  (ext (some false))
  ((cond (decide (i > 0)) ((idx plan (wr (i - 1))).bind fun e_2 =>
  (remontoirref08_off sv e_2 e.Over).bind fun rv_4 =>
  (remontoirref08_off sv e e.Over).bind fun rv_5 =>
  some (decide ((wr (rv_4 + rv_5)) > sv.Gap))) (some false)).bind fun t_3 =>
  cond t_3
  (ext (some false))
  (nxt (v6_0, wr (used + (gshl 1 e.Machine)), wr (i + 1))))
noncomputable def remontoirref08_isPlan_b1 (sv : SpareStore) (plan : (List SpareTurn)) (hours : Int) : (Bool × Int × Int) → Option ((Bool × Int × Int) ⊕ Bool)
 | (v6_0, used, i) =>
  cond (decide (i < (plan.length : Int)))
  ((idx plan i).bind fun e =>
  (remontoirref00_Lies e.Machine 0 (wr ((sv.Machines.length : Int) - 1))).bind fun rv =>
  (cond (!rv) (some true) ((remontoirref00_In used e.Machine).bind fun rv_1 =>
  some rv_1)).bind fun t =>
  (cond t (some true) ((remontoirref00_Lies e.Start (-500) 1000).bind fun rv_2 =>
  some (!rv_2))).bind fun t_1 =>
  (cond t_1 (some true) ((remontoirref00_Lies e.Over 0 (wr (hours - 1))).bind fun rv_3 =>
  some (!rv_3))).bind fun t_2 =>
  cond t_2
  (ext (some false))
  (if ¬ e.Machine < 0 then
  (idx sv.Machines e.Machine).bind fun e_1 =>
  cond (decide ((wr (i + 1)) < (plan.length : Int)))
  ((idx plan (wr (i + 1))).bind fun e_3 =>
  remontoirref08_isPlan_k2 sv plan v6_0 used i e e_1 e_3.Over)
  (remontoirref08_isPlan_k2 sv plan v6_0 used i e e_1 hours)
  else none))
  (ext ((cond (decide ((plan.length : Int) > 0)) ((idx plan 0).bind fun e_4 =>
  some (e_4.Over == 0)) (some false)).bind fun t_4 =>
  some t_4))
noncomputable def remontoirref08_isPlan (sv : SpareStore) (plan : (List SpareTurn)) (hours : Int) : Option Bool :=
  loopU (remontoirref08_isPlan_b1 sv plan hours) (false, 0, 0)
theorem remontoirref08_isPlan_ok {w0 : World} {D0 : Stab} (hD : D0.on w0) (sv : SpareStore) (plan : (List SpareTurn)) (hours : Int) {p : Option Addr} {c : Nat} {p_1 : Option Addr} {c_1 : Nat} (hs : SRc C_SpareMachine D0 sv.Machines p c) (hs_1 : SRc C_SpareTurn D0 plan p_1 c_1) (out : Bool) (h : remontoirref08_isPlan sv plan hours = some out) : Calls Tryd.prog 54 [.agg #[.int .i64 sv.Hours, .int .i64 sv.Gap, .slice p sv.Machines.length c], .slice p_1 plan.length c_1, .int .i64 hours].toArray w0 (RetP D0 w0 (.bool out)) := by
 refine enter _ 136 Tryd.func54 rfl Tryd.ntmps54 rfl fun a hF => ?_
 replace hF : Frm 136 [] [(0, .agg #[.int .i64 sv.Hours, .int .i64 sv.Gap, .slice p sv.Machines.length c]), (1, .slice p_1 plan.length c_1), (2, .int .i64 hours)] a := hF
 have hS := St.start hD
 unfold remontoirref08_isPlan at h
 refine seq ?_
 refine region ?_
 refine O.box (cs := [.int .i64 sv.Hours, .int .i64 sv.Gap, .slice p sv.Machines.length c]) 1 hF rfl rfl hS rfl fun b a w hF hS => ?_
 refine step hF (Y.assign hF rfl) rfl fun a hF => ?_
 refine nil (then_n ?_)
 refine seq ?_
 refine region ?_
 refine step hF (Y.assign hF rfl) rfl fun a hF => ?_
 refine nil (then_n ?_)
 refine seq ?_
 refine seq ?_
 refine region ?_
 refine step hF (Y.assign hF rfl) rfl fun a hF => ?_
 refine nil (then_n ?_)
 refine block ?_
 refine loop_cut (body := remontoirref08_isPlan_b1 sv plan hours) (out := out) (fun s a w => ∃ (v6_0 : Bool) (used : Int) (i : Int), ∃ (Dv : Stab), s = (v6_0, used, i) ∧ D0.le Dv ∧ Frm 136 [] [(1, .slice p_1 plan.length c_1), (2, .int .i64 hours), (3, .pointer (some ⟨b, 0, none⟩)), (6, .bool v6_0), (7, .int .i64 used), (8, .int .i64 i)] a ∧ St w0 D0 Dv [(1, .cells b [.int .i64 sv.Hours, .int .i64 sv.Gap, .slice p sv.Machines.length c] 24)] w) (false, 0, 0) h ⟨false, 0, 0, D0, rfl, Stab.le.refl _, hF.weak ⟨rfl, rfl, rfl, rfl, rfl, rfl, trivial⟩, hS.weak ⟨rfl, trivial⟩⟩ ?_
 rintro s a w xo ⟨v6_0, used, i, Dv, rfl, hlev, hF, hS⟩ h hxo
 unfold remontoirref08_isPlan_b1 at h
 dsimp only at h
 replace hs := hs.mono hlev
 replace hs_1 := hs_1.mono hlev
 refine seq ?_
 refine seq ?_
 refine region ?_
 refine step hF (Y.move hF rfl) rfl fun a hF => ?_
 refine step hF (Y.move hF rfl) rfl fun a hF => ?_
 refine step hF (Y.lenSl u_25 hF rfl) rfl fun a hF => ?_
 refine step hF (Y.lss hF rfl rfl) rfl fun a hF => ?_
 refine nil (then_n ?_)
 refine cond_b hF rfl (fun hbv => ?_) (fun hbv => ?_)
 ·replace h := cond_t h hbv
  refine skip_ (then_n ?_)
  refine seq ?_
  refine block ?_
  refine seq ?_
  refine region ?_
  refine step hF (Y.move hF rfl) rfl fun a hF => ?_
  refine step hF (Y.move hF rfl) rfl fun a hF => ?_
  obtain ⟨e, hx, h⟩ := bind_some h
  obtain ⟨b_1, o, hE, hY⟩ := Y.indexS (P := Tryd.prog) (C := C_SpareTurn) (xs := plan) (T := 25) (x := (.tmp 18)) (y := (.tmp 19)) u_25 sz_46 hF rfl rfl (hs_1).1 hx
  obtain ⟨cc, hc, hcell⟩ := hE.open
  obtain rfl := C_SpareTurn.open hc
  refine step hF (hY) rfl fun a hF => ?_
  refine step hF (Y.loadNE (o := o) (k := 0) sz_46 hF rfl (hcell _ hS.stab) rfl rfl) rfl fun a hF => ?_
  refine O.alloc 2 zc_46 hF hS rfl fun b_2 a w hF hS => ?_
  refine O.store (us := [.int .i64 e.Machine, .int .i64 e.Start, .int .i64 e.Over]) 2 sz_46 hF rfl rfl rfl rfl hS rfl rfl fun a w hF hS => ?_
  refine nil (then_n ?_)
  refine seq ?_
  refine seq ?_
  refine region ?_
  refine step hF (Y.fieldAddr fo_46_0 hF rfl) rfl fun a hF => ?_
  refine step hF (Y.load1L 2 sz_3 hF rfl hS rfl rfl) rfl fun a hF => ?_
  refine step hF (Y.fieldAddr fo_24_2 hF rfl) rfl fun a hF => ?_
  refine step hF (Y.load1L 1 sz_22 hF rfl hS rfl rfl) rfl fun a hF => ?_
  refine step hF (Y.lenSl u_22 hF rfl) rfl fun a hF => ?_
  refine step hF (Y.sub hF rfl rfl) rfl fun a hF => ?_
  obtain ⟨rv, hx_1, h⟩ := bind_some h
  refine O.callP (us := [.int .i64 e.Machine, .int .i64 0, .int .i64 (wr ((sv.Machines.length : Int) - 1))]) ca_35 hF hS (remontoirref00_Lies_ok hS.stab e.Machine 0 (wr ((sv.Machines.length : Int) - 1)) rv hx_1) rfl rfl fun a w hF hS => ?_
  refine step hF (Y.not hF rfl) rfl fun a hF => ?_
  refine step hF (Y.move hF rfl) rfl fun a hF => ?_
  obtain ⟨t, ht, h⟩ := bind_some h
  refine join (N := 136) (rs := []) (w0 := w0) (D0 := D0) 5 (us := [(1, .slice p_1 plan.length c_1), (2, .int .i64 hours), (3, .pointer (some ⟨b, 0, none⟩)), (6, .bool v6_0), (7, .int .i64 used), (8, .int .i64 i), (9, .pointer (some ⟨b_2, 0, none⟩)), (35, .bool t)]) (ms := [(1, .cells b [.int .i64 sv.Hours, .int .i64 sv.Gap, .slice p sv.Machines.length c] 24), (2, .cells b_2 [.int .i64 e.Machine, .int .i64 e.Start, .int .i64 e.Over] 46)]) (D' := Dv) ?_ ?_
  ·rcases bcases (!rv) with hbv_1 | hbv_1
   ·-- true
    replace h := cond_t ht hbv_1
    refine guard_off hF rfl rfl hbv_1 rfl fun a hF => ?_
    refine guard_off hF rfl rfl hbv_1 rfl fun a hF => ?_
    refine guard_off hF rfl rfl hbv_1 rfl fun a hF => ?_
    refine guard_off hF rfl rfl hbv_1 rfl fun a hF => ?_
    refine step hF (Y.pick_t hF rfl hbv_1 rfl) rfl fun a hF => ?_
    obtain rfl := some_inj h
    exact nil (then_n ⟨hF.weak ⟨rfl, rfl, rfl, rfl, rfl, rfl, rfl, rfl, trivial⟩, hS.weak ⟨rfl, rfl, trivial⟩⟩)
   ·-- false
    replace h := cond_f ht hbv_1
    refine guard_on hF rfl rfl hbv_1 ?_
    refine step hF (Y.move hF rfl) rfl fun a hF => ?_
    refine guard_on hF rfl rfl hbv_1 ?_
    refine step hF (Y.fieldAddr fo_46_0 hF rfl) rfl fun a hF => ?_
    refine guard_on hF rfl rfl hbv_1 ?_
    refine step hF (Y.load1L 2 sz_3 hF rfl hS rfl rfl) rfl fun a hF => ?_
    refine guard_on hF rfl rfl hbv_1 ?_
    obtain ⟨rv_1, hx_2, h⟩ := bind_some h
    refine O.callP (us := [.int .i64 used, .int .i64 e.Machine]) ca_36 hF hS (remontoirref00_In_ok hS.stab used e.Machine rv_1 hx_2) rfl rfl fun a w hF hS => ?_
    refine step hF (Y.pick_f hF rfl hbv_1 rfl) rfl fun a hF => ?_
    obtain rfl := some_inj h
    exact nil (then_n ⟨hF.weak ⟨rfl, rfl, rfl, rfl, rfl, rfl, rfl, rfl, trivial⟩, hS.weak ⟨rfl, rfl, trivial⟩⟩)
  intro a w hF hS
  refine step hF (Y.move hF rfl) rfl fun a hF => ?_
  obtain ⟨t_1, ht_1, h⟩ := bind_some h
  refine join (N := 136) (rs := []) (w0 := w0) (D0 := D0) 5 (us := [(1, .slice p_1 plan.length c_1), (2, .int .i64 hours), (3, .pointer (some ⟨b, 0, none⟩)), (6, .bool v6_0), (7, .int .i64 used), (8, .int .i64 i), (9, .pointer (some ⟨b_2, 0, none⟩)), (41, .bool t_1)]) (ms := [(1, .cells b [.int .i64 sv.Hours, .int .i64 sv.Gap, .slice p sv.Machines.length c] 24), (2, .cells b_2 [.int .i64 e.Machine, .int .i64 e.Start, .int .i64 e.Over] 46)]) (D' := Dv) ?_ ?_
  ·rcases bcases t with hbv_2 | hbv_2
   ·-- true
    replace h := cond_t ht_1 hbv_2
    refine guard_off hF rfl rfl hbv_2 rfl fun a hF => ?_
    refine guard_off hF rfl rfl hbv_2 rfl fun a hF => ?_
    refine guard_off hF rfl rfl hbv_2 rfl fun a hF => ?_
    refine guard_off hF rfl rfl hbv_2 rfl fun a hF => ?_
    refine step hF (Y.pick_t hF rfl hbv_2 rfl) rfl fun a hF => ?_
    obtain rfl := some_inj h
    exact nil (then_n ⟨hF.weak ⟨rfl, rfl, rfl, rfl, rfl, rfl, rfl, rfl, trivial⟩, hS.weak ⟨rfl, rfl, trivial⟩⟩)
   ·-- false
    replace h := cond_f ht_1 hbv_2
    refine guard_on hF rfl rfl hbv_2 ?_
    refine step hF (Y.fieldAddr fo_46_1 hF rfl) rfl fun a hF => ?_
    refine guard_on hF rfl rfl hbv_2 ?_
    refine step hF (Y.load1L 2 sz_3 hF rfl hS rfl rfl) rfl fun a hF => ?_
    refine guard_on hF rfl rfl hbv_2 ?_
    obtain ⟨rv_2, hx_3, h⟩ := bind_some h
    refine O.callP (us := [.int .i64 e.Start, .int .i64 (-500), .int .i64 1000]) ca_35 hF hS (remontoirref00_Lies_ok hS.stab e.Start (-500) 1000 rv_2 hx_3) rfl rfl fun a w hF hS => ?_
    refine guard_on hF rfl rfl hbv_2 ?_
    refine step hF (Y.not hF rfl) rfl fun a hF => ?_
    refine step hF (Y.pick_f hF rfl hbv_2 rfl) rfl fun a hF => ?_
    obtain rfl := some_inj h
    exact nil (then_n ⟨hF.weak ⟨rfl, rfl, rfl, rfl, rfl, rfl, rfl, rfl, trivial⟩, hS.weak ⟨rfl, rfl, trivial⟩⟩)
  intro a w hF hS
  refine step hF (Y.move hF rfl) rfl fun a hF => ?_
  obtain ⟨t_2, ht_2, h⟩ := bind_some h
  refine join (N := 136) (rs := []) (w0 := w0) (D0 := D0) 7 (us := [(1, .slice p_1 plan.length c_1), (2, .int .i64 hours), (3, .pointer (some ⟨b, 0, none⟩)), (6, .bool v6_0), (7, .int .i64 used), (8, .int .i64 i), (9, .pointer (some ⟨b_2, 0, none⟩)), (49, .bool t_2)]) (ms := [(1, .cells b [.int .i64 sv.Hours, .int .i64 sv.Gap, .slice p sv.Machines.length c] 24), (2, .cells b_2 [.int .i64 e.Machine, .int .i64 e.Start, .int .i64 e.Over] 46)]) (D' := Dv) ?_ ?_
  ·rcases bcases t_1 with hbv_3 | hbv_3
   ·-- true
    replace h := cond_t ht_2 hbv_3
    refine guard_off hF rfl rfl hbv_3 rfl fun a hF => ?_
    refine guard_off hF rfl rfl hbv_3 rfl fun a hF => ?_
    refine guard_off hF rfl rfl hbv_3 rfl fun a hF => ?_
    refine guard_off hF rfl rfl hbv_3 rfl fun a hF => ?_
    refine guard_off hF rfl rfl hbv_3 rfl fun a hF => ?_
    refine guard_off hF rfl rfl hbv_3 rfl fun a hF => ?_
    refine step hF (Y.pick_t hF rfl hbv_3 rfl) rfl fun a hF => ?_
    obtain rfl := some_inj h
    exact nil (then_n ⟨hF.weak ⟨rfl, rfl, rfl, rfl, rfl, rfl, rfl, rfl, trivial⟩, hS.weak ⟨rfl, rfl, trivial⟩⟩)
   ·-- false
    replace h := cond_f ht_2 hbv_3
    refine guard_on hF rfl rfl hbv_3 ?_
    refine step hF (Y.fieldAddr fo_46_2 hF rfl) rfl fun a hF => ?_
    refine guard_on hF rfl rfl hbv_3 ?_
    refine step hF (Y.load1L 2 sz_3 hF rfl hS rfl rfl) rfl fun a hF => ?_
    refine guard_on hF rfl rfl hbv_3 ?_
    refine step hF (Y.move hF rfl) rfl fun a hF => ?_
    refine guard_on hF rfl rfl hbv_3 ?_
    refine step hF (Y.sub hF rfl rfl) rfl fun a hF => ?_
    refine guard_on hF rfl rfl hbv_3 ?_
    obtain ⟨rv_3, hx_4, h⟩ := bind_some h
    refine O.callP (us := [.int .i64 e.Over, .int .i64 0, .int .i64 (wr (hours - 1))]) ca_35 hF hS (remontoirref00_Lies_ok hS.stab e.Over 0 (wr (hours - 1)) rv_3 hx_4) rfl rfl fun a w hF hS => ?_
    refine guard_on hF rfl rfl hbv_3 ?_
    refine step hF (Y.not hF rfl) rfl fun a hF => ?_
    refine step hF (Y.pick_f hF rfl hbv_3 rfl) rfl fun a hF => ?_
    obtain rfl := some_inj h
    exact nil (then_n ⟨hF.weak ⟨rfl, rfl, rfl, rfl, rfl, rfl, rfl, rfl, trivial⟩, hS.weak ⟨rfl, rfl, trivial⟩⟩)
  intro a w hF hS
  refine nil (then_n ?_)
  refine cond_b hF rfl (fun hbv_4 => ?_) (fun hbv_4 => ?_)
  ·replace h := cond_t h hbv_4
   refine seq ?_
   refine region ?_
   refine step hF (Y.assign hF rfl) rfl fun a hF => ?_
   refine nil (then_n ?_)
   refine ret_ (then_r (blk_r (then_r (then_r (blk_r (then_r ?_))))))
   replace h := ext_some h hxo
   obtain rfl := some_inj h
   exact leaveP Tryd.results54 hF hS (.cons (.tmp rfl) .nil) .nil rfl
  ·replace h := cond_f h hbv_4
   refine skip_ (then_n ?_)
   refine seq ?_
   refine region ?_
   refine step hF (Y.move hF rfl) rfl fun a hF => ?_
   refine step hF (Y.fieldAddr fo_46_0 hF rfl) rfl fun a hF => ?_
   refine step hF (Y.load1L 2 sz_3 hF rfl hS rfl rfl) rfl fun a hF => ?_
   obtain ⟨hg, h⟩ := ite_some h
   refine step hF (Y.shl hF rfl rfl hg) rfl fun a hF => ?_
   refine step hF (Y.add hF rfl rfl) rfl fun a hF => ?_
   refine step hF (Y.assign hF rfl) rfl fun a hF => ?_
   refine nil (then_n ?_)
   refine seq ?_
   refine region ?_
   refine step hF (Y.fieldAddr fo_24_2 hF rfl) rfl fun a hF => ?_
   refine step hF (Y.load1L 1 sz_22 hF rfl hS rfl rfl) rfl fun a hF => ?_
   refine step hF (Y.fieldAddr fo_46_0 hF rfl) rfl fun a hF => ?_
   refine step hF (Y.load1L 2 sz_3 hF rfl hS rfl rfl) rfl fun a hF => ?_
   obtain ⟨e_1, hx_5, h⟩ := bind_some h
   obtain ⟨b_3, o_1, hE_1, hY_1⟩ := Y.indexS (P := Tryd.prog) (C := C_SpareMachine) (xs := sv.Machines) (T := 22) (x := (.tmp 56)) (y := (.tmp 58)) u_22 sz_52 hF rfl rfl (hs).1 hx_5
   obtain ⟨cc_1, hc_1, hcell_1⟩ := hE_1.open
   obtain rfl := C_SpareMachine.open hc_1
   refine step hF (hY_1) rfl fun a hF => ?_
   refine step hF (Y.loadNE (o := o_1) (k := 0) sz_52 hF rfl (hcell_1 _ hS.stab) rfl rfl) rfl fun a hF => ?_
   refine O.alloc 3 zc_52 hF hS rfl fun b_4 a w hF hS => ?_
   refine O.store (us := [.int .i64 e_1.From, .int .i64 e_1.Warm, .int .i64 e_1.Life.Low, .int .i64 e_1.Life.High, .int .i64 e_1.Drift]) 3 sz_52 hF rfl rfl rfl rfl hS rfl rfl fun a w hF hS => ?_
   refine nil (then_n ?_)
   refine seq ?_
   refine region ?_
   refine step hF (Y.move hF rfl) rfl fun a hF => ?_
   refine step hF (Y.assign hF rfl) rfl fun a hF => ?_
   refine nil (then_n ?_)
   refine seq_cut (fun a w => ∃ (untilv : Int), Frm 136 [] [(1, .slice p_1 plan.length c_1), (2, .int .i64 hours), (3, .pointer (some ⟨b, 0, none⟩)), (6, .bool v6_0), (7, .int .i64 (wr (used + (gshl 1 e.Machine)))), (8, .int .i64 i), (9, .pointer (some ⟨b_2, 0, none⟩)), (10, .pointer (some ⟨b_4, 0, none⟩)), (11, .int .i64 untilv)] a ∧ St w0 D0 Dv [(1, .cells b [.int .i64 sv.Hours, .int .i64 sv.Gap, .slice p sv.Machines.length c] 24), (2, .cells b_2 [.int .i64 e.Machine, .int .i64 e.Start, .int .i64 e.Over] 46), (3, .cells b_4 [.int .i64 e_1.From, .int .i64 e_1.Warm, .int .i64 e_1.Life.Low, .int .i64 e_1.Life.High, .int .i64 e_1.Drift] 52)] w ∧ remontoirref08_isPlan_k2 sv plan v6_0 used i e e_1 untilv = some xo) ?_ ?_
   ·skip
    refine seq ?_
    refine region ?_
    refine step hF (Y.move hF rfl) rfl fun a hF => ?_
    refine step hF (Y.add hF rfl rfl) rfl fun a hF => ?_
    refine step hF (Y.move hF rfl) rfl fun a hF => ?_
    refine step hF (Y.lenSl u_25 hF rfl) rfl fun a hF => ?_
    refine step hF (Y.lss hF rfl rfl) rfl fun a hF => ?_
    refine nil (then_n ?_)
    refine cond_b hF rfl (fun hbv_11 => ?_) (fun hbv_11 => ?_)
    ·replace h := cond_t h hbv_11
     refine region ?_
     refine step hF (Y.move hF rfl) rfl fun a hF => ?_
     refine step hF (Y.move hF rfl) rfl fun a hF => ?_
     refine step hF (Y.add hF rfl rfl) rfl fun a hF => ?_
     obtain ⟨e_3, hx_9, h⟩ := bind_some h
     obtain ⟨b_7, o_4, hE_4, hY_4⟩ := Y.indexS (P := Tryd.prog) (C := C_SpareTurn) (xs := plan) (T := 25) (x := (.tmp 67)) (y := (.tmp 69)) u_25 sz_46 hF rfl rfl (hs_1).1 hx_9
     obtain ⟨cc_4, hc_4, hcell_4⟩ := hE_4.open
     obtain rfl := C_SpareTurn.open hc_4
     refine step hF (hY_4) rfl fun a hF => ?_
     refine step hF (Y.fieldAddr fo_46_2 hF rfl) rfl fun a hF => ?_
     refine step hF (Y.load1 sz_3 hF rfl (hcell_4 _ hS.stab 2 _ rfl)) rfl fun a hF => ?_
     refine step hF (Y.assign hF rfl) rfl fun a hF => ?_
     refine nil (then_n ?_)
     exact ⟨e_3.Over, hF.weak ⟨rfl, rfl, rfl, rfl, rfl, rfl, rfl, rfl, rfl, trivial⟩, hS.weak ⟨rfl, rfl, rfl, trivial⟩, h⟩
    ·replace h := cond_f h hbv_11
     refine skip_ (then_n ?_)
     exact ⟨hours, hF.weak ⟨rfl, rfl, rfl, rfl, rfl, rfl, rfl, rfl, rfl, trivial⟩, hS.weak ⟨rfl, rfl, rfl, trivial⟩, h⟩
   ·rintro a w ⟨untilv, hF, hS, h⟩
    unfold remontoirref08_isPlan_k2 at h
    refine seq ?_
    refine seq ?_
    refine region ?_
    refine step hF (Y.fieldAddr fo_46_1 hF rfl) rfl fun a hF => ?_
    refine step hF (Y.load1L 2 sz_3 hF rfl hS rfl rfl) rfl fun a hF => ?_
    refine step hF (Y.fieldAddr fo_52_0 hF rfl) rfl fun a hF => ?_
    refine step hF (Y.load1L 3 sz_3 hF rfl hS rfl rfl) rfl fun a hF => ?_
    refine step hF (Y.lss hF rfl rfl) rfl fun a hF => ?_
    refine step hF (Y.move hF rfl) rfl fun a hF => ?_
    refine join (N := 136) (rs := []) (w0 := w0) (D0 := D0) 9 (us := [(1, .slice p_1 plan.length c_1), (2, .int .i64 hours), (3, .pointer (some ⟨b, 0, none⟩)), (6, .bool v6_0), (7, .int .i64 (wr (used + (gshl 1 e.Machine)))), (8, .int .i64 i), (9, .pointer (some ⟨b_2, 0, none⟩)), (10, .pointer (some ⟨b_4, 0, none⟩)), (11, .int .i64 untilv), (87, .bool ((decide (e.Start < e_1.From)) || (decide (e.Over < (wr (e.Start + e_1.Warm))))))]) (ms := [(1, .cells b [.int .i64 sv.Hours, .int .i64 sv.Gap, .slice p sv.Machines.length c] 24), (2, .cells b_2 [.int .i64 e.Machine, .int .i64 e.Start, .int .i64 e.Over] 46), (3, .cells b_4 [.int .i64 e_1.From, .int .i64 e_1.Warm, .int .i64 e_1.Life.Low, .int .i64 e_1.Life.High, .int .i64 e_1.Drift] 52)]) (D' := Dv) ?_ ?_
    ·rcases bcases (decide (e.Start < e_1.From)) with hbv_5 | hbv_5
     ·-- true
      refine guard_off hF rfl rfl hbv_5 rfl fun a hF => ?_
      refine guard_off hF rfl rfl hbv_5 rfl fun a hF => ?_
      refine guard_off hF rfl rfl hbv_5 rfl fun a hF => ?_
      refine guard_off hF rfl rfl hbv_5 rfl fun a hF => ?_
      refine guard_off hF rfl rfl hbv_5 rfl fun a hF => ?_
      refine guard_off hF rfl rfl hbv_5 rfl fun a hF => ?_
      refine guard_off hF rfl rfl hbv_5 rfl fun a hF => ?_
      refine guard_off hF rfl rfl hbv_5 rfl fun a hF => ?_
      refine step hF (Y.pick_t hF rfl hbv_5 rfl) rfl fun a hF => ?_
      exact nil (then_n ⟨hF.weak ⟨rfl, rfl, rfl, rfl, rfl, rfl, rfl, rfl, rfl, (by rw [hbv_5]; rfl), trivial⟩, hS.weak ⟨rfl, rfl, rfl, trivial⟩⟩)
     ·-- false
      refine guard_on hF rfl rfl hbv_5 ?_
      refine step hF (Y.fieldAddr fo_46_2 hF rfl) rfl fun a hF => ?_
      refine guard_on hF rfl rfl hbv_5 ?_
      refine step hF (Y.load1L 2 sz_3 hF rfl hS rfl rfl) rfl fun a hF => ?_
      refine guard_on hF rfl rfl hbv_5 ?_
      refine step hF (Y.fieldAddr fo_46_1 hF rfl) rfl fun a hF => ?_
      refine guard_on hF rfl rfl hbv_5 ?_
      refine step hF (Y.load1L 2 sz_3 hF rfl hS rfl rfl) rfl fun a hF => ?_
      refine guard_on hF rfl rfl hbv_5 ?_
      refine step hF (Y.fieldAddr fo_52_1 hF rfl) rfl fun a hF => ?_
      refine guard_on hF rfl rfl hbv_5 ?_
      refine step hF (Y.load1L 3 sz_3 hF rfl hS rfl rfl) rfl fun a hF => ?_
      refine guard_on hF rfl rfl hbv_5 ?_
      refine step hF (Y.add hF rfl rfl) rfl fun a hF => ?_
      refine guard_on hF rfl rfl hbv_5 ?_
      refine step hF (Y.lss hF rfl rfl) rfl fun a hF => ?_
      refine step hF (Y.pick_f hF rfl hbv_5 rfl) rfl fun a hF => ?_
      exact nil (then_n ⟨hF.weak ⟨rfl, rfl, rfl, rfl, rfl, rfl, rfl, rfl, rfl, (by rw [hbv_5]; rfl), trivial⟩, hS.weak ⟨rfl, rfl, rfl, trivial⟩⟩)
    intro a w hF hS
    refine step hF (Y.move hF rfl) rfl fun a hF => ?_
    refine join (N := 136) (rs := []) (w0 := w0) (D0 := D0) 9 (us := [(1, .slice p_1 plan.length c_1), (2, .int .i64 hours), (3, .pointer (some ⟨b, 0, none⟩)), (6, .bool v6_0), (7, .int .i64 (wr (used + (gshl 1 e.Machine)))), (8, .int .i64 i), (9, .pointer (some ⟨b_2, 0, none⟩)), (11, .int .i64 untilv), (97, .bool (((decide (e.Start < e_1.From)) || (decide (e.Over < (wr (e.Start + e_1.Warm))))) || (decide ((wr (e.Start + e_1.Life.Low)) < untilv))))]) (ms := [(1, .cells b [.int .i64 sv.Hours, .int .i64 sv.Gap, .slice p sv.Machines.length c] 24), (2, .cells b_2 [.int .i64 e.Machine, .int .i64 e.Start, .int .i64 e.Over] 46), (3, .cells b_4 [.int .i64 e_1.From, .int .i64 e_1.Warm, .int .i64 e_1.Life.Low, .int .i64 e_1.Life.High, .int .i64 e_1.Drift] 52)]) (D' := Dv) ?_ ?_
    ·rcases bcases ((decide (e.Start < e_1.From)) || (decide (e.Over < (wr (e.Start + e_1.Warm))))) with hbv_6 | hbv_6
     ·-- true
      refine guard_off hF rfl rfl hbv_6 rfl fun a hF => ?_
      refine guard_off hF rfl rfl hbv_6 rfl fun a hF => ?_
      refine guard_off hF rfl rfl hbv_6 rfl fun a hF => ?_
      refine guard_off hF rfl rfl hbv_6 rfl fun a hF => ?_
      refine guard_off hF rfl rfl hbv_6 rfl fun a hF => ?_
      refine guard_off hF rfl rfl hbv_6 rfl fun a hF => ?_
      refine guard_off hF rfl rfl hbv_6 rfl fun a hF => ?_
      refine guard_off hF rfl rfl hbv_6 rfl fun a hF => ?_
      refine step hF (Y.pick_t hF rfl hbv_6 rfl) rfl fun a hF => ?_
      exact nil (then_n ⟨hF.weak ⟨rfl, rfl, rfl, rfl, rfl, rfl, rfl, rfl, (by rw [hbv_6]; rfl), trivial⟩, hS.weak ⟨rfl, rfl, rfl, trivial⟩⟩)
     ·-- false
      refine guard_on hF rfl rfl hbv_6 ?_
      refine step hF (Y.fieldAddr fo_46_1 hF rfl) rfl fun a hF => ?_
      refine guard_on hF rfl rfl hbv_6 ?_
      refine step hF (Y.load1L 2 sz_3 hF rfl hS rfl rfl) rfl fun a hF => ?_
      refine guard_on hF rfl rfl hbv_6 ?_
      refine step hF (Y.fieldAddr fo_52_2 hF rfl) rfl fun a hF => ?_
      refine guard_on hF rfl rfl hbv_6 ?_
      refine step hF (Y.fieldAddr fo_50_0 hF rfl) rfl fun a hF => ?_
      refine guard_on hF rfl rfl hbv_6 ?_
      refine step hF (Y.load1L 3 sz_3 hF rfl hS rfl rfl) rfl fun a hF => ?_
      refine guard_on hF rfl rfl hbv_6 ?_
      refine step hF (Y.add hF rfl rfl) rfl fun a hF => ?_
      refine guard_on hF rfl rfl hbv_6 ?_
      refine step hF (Y.move hF rfl) rfl fun a hF => ?_
      refine guard_on hF rfl rfl hbv_6 ?_
      refine step hF (Y.lss hF rfl rfl) rfl fun a hF => ?_
      refine step hF (Y.pick_f hF rfl hbv_6 rfl) rfl fun a hF => ?_
      exact nil (then_n ⟨hF.weak ⟨rfl, rfl, rfl, rfl, rfl, rfl, rfl, rfl, (by rw [hbv_6]; rfl), trivial⟩, hS.weak ⟨rfl, rfl, rfl, trivial⟩⟩)
    intro a w hF hS
    refine step hF (Y.move hF rfl) rfl fun a hF => ?_
    refine join (N := 136) (rs := []) (w0 := w0) (D0 := D0) 5 (us := [(1, .slice p_1 plan.length c_1), (2, .int .i64 hours), (3, .pointer (some ⟨b, 0, none⟩)), (6, .bool v6_0), (7, .int .i64 (wr (used + (gshl 1 e.Machine)))), (8, .int .i64 i), (9, .pointer (some ⟨b_2, 0, none⟩)), (103, .bool ((((decide (e.Start < e_1.From)) || (decide (e.Over < (wr (e.Start + e_1.Warm))))) || (decide ((wr (e.Start + e_1.Life.Low)) < untilv))) || (decide (untilv ≤ e.Over))))]) (ms := [(1, .cells b [.int .i64 sv.Hours, .int .i64 sv.Gap, .slice p sv.Machines.length c] 24), (2, .cells b_2 [.int .i64 e.Machine, .int .i64 e.Start, .int .i64 e.Over] 46), (3, .cells b_4 [.int .i64 e_1.From, .int .i64 e_1.Warm, .int .i64 e_1.Life.Low, .int .i64 e_1.Life.High, .int .i64 e_1.Drift] 52)]) (D' := Dv) ?_ ?_
    ·rcases bcases (((decide (e.Start < e_1.From)) || (decide (e.Over < (wr (e.Start + e_1.Warm))))) || (decide ((wr (e.Start + e_1.Life.Low)) < untilv))) with hbv_7 | hbv_7
     ·-- true
      refine guard_off hF rfl rfl hbv_7 rfl fun a hF => ?_
      refine guard_off hF rfl rfl hbv_7 rfl fun a hF => ?_
      refine guard_off hF rfl rfl hbv_7 rfl fun a hF => ?_
      refine guard_off hF rfl rfl hbv_7 rfl fun a hF => ?_
      refine step hF (Y.pick_t hF rfl hbv_7 rfl) rfl fun a hF => ?_
      exact nil (then_n ⟨hF.weak ⟨rfl, rfl, rfl, rfl, rfl, rfl, rfl, (by rw [hbv_7]; rfl), trivial⟩, hS.weak ⟨rfl, rfl, rfl, trivial⟩⟩)
     ·-- false
      refine guard_on hF rfl rfl hbv_7 ?_
      refine step hF (Y.move hF rfl) rfl fun a hF => ?_
      refine guard_on hF rfl rfl hbv_7 ?_
      refine step hF (Y.fieldAddr fo_46_2 hF rfl) rfl fun a hF => ?_
      refine guard_on hF rfl rfl hbv_7 ?_
      refine step hF (Y.load1L 2 sz_3 hF rfl hS rfl rfl) rfl fun a hF => ?_
      refine guard_on hF rfl rfl hbv_7 ?_
      refine step hF (Y.leq hF rfl rfl) rfl fun a hF => ?_
      refine step hF (Y.pick_f hF rfl hbv_7 rfl) rfl fun a hF => ?_
      exact nil (then_n ⟨hF.weak ⟨rfl, rfl, rfl, rfl, rfl, rfl, rfl, (by rw [hbv_7]; rfl), trivial⟩, hS.weak ⟨rfl, rfl, rfl, trivial⟩⟩)
    intro a w hF hS
    refine nil (then_n ?_)
    refine cond_b hF rfl (fun hbv_8 => ?_) (fun hbv_8 => ?_)
    ·replace h := cond_t h hbv_8
     refine seq ?_
     refine region ?_
     refine step hF (Y.assign hF rfl) rfl fun a hF => ?_
     refine nil (then_n ?_)
     refine ret_ (then_r (blk_r (then_r (then_r (blk_r (then_r ?_))))))
     replace h := ext_some h hxo
     obtain rfl := some_inj h
     exact leaveP Tryd.results54 hF hS (.cons (.tmp rfl) .nil) .nil rfl
    ·replace h := cond_f h hbv_8
     refine skip_ (then_n ?_)
     refine seq ?_
     obtain ⟨t_3, ht_3, h⟩ := bind_some h
     refine drawsV 22 (.flt 0 (.flt 1 (.flt 2 (.flt 3 (.flt 4 (.flt 5 (.flt 6 (.flt 7 (.flt 8 (.flt 9 (.flt 10 (.flt 12 (.flt 13 (.flt 14 (.flt 15 (.flt 18 (.flt 19 (.alt 11 (.alt 16 (.flt 17 (.flt 20 (.flt 21 .done))) .stop) .stop)))))))))))))))))) mixed_ (by kernel_rfl) (fun w => St w0 D0 Dv [(1, .cells b [.int .i64 sv.Hours, .int .i64 sv.Gap, .slice p sv.Machines.length c] 24), (2, .cells b_2 [.int .i64 e.Machine, .int .i64 e.Start, .int .i64 e.Over] 46), (3, .cells b_4 [.int .i64 e_1.From, .int .i64 e_1.Warm, .int .i64 e_1.Life.Low, .int .i64 e_1.Life.High, .int .i64 e_1.Drift] 52)] w) (fun a w => Frm 136 [] [(1, .slice p_1 plan.length c_1), (2, .int .i64 hours), (3, .pointer (some ⟨b, 0, none⟩)), (6, .bool v6_0), (7, .int .i64 (wr (used + (gshl 1 e.Machine)))), (8, .int .i64 i), (125, .bool t_3)] a ∧ St w0 D0 Dv [(1, .cells b [.int .i64 sv.Hours, .int .i64 sv.Gap, .slice p sv.Machines.length c] 24), (2, .cells b_2 [.int .i64 e.Machine, .int .i64 e.Start, .int .i64 e.Over] 46), (3, .cells b_4 [.int .i64 e_1.From, .int .i64 e_1.Warm, .int .i64 e_1.Life.Low, .int .i64 e_1.Life.High, .int .i64 e_1.Drift] 52)] w) (hS.weak (ms := [(1, .cells b [.int .i64 sv.Hours, .int .i64 sv.Gap, .slice p sv.Machines.length c] 24), (2, .cells b_2 [.int .i64 e.Machine, .int .i64 e.Start, .int .i64 e.Over] 46), (3, .cells b_4 [.int .i64 e_1.From, .int .i64 e_1.Warm, .int .i64 e_1.Life.Low, .int .i64 e_1.Life.High, .int .i64 e_1.Drift] 52)]) ⟨rfl, rfl, rfl, trivial⟩).drew (fun _ _ _ _ h => h) ?_ ?_
     ·replace hS := hS.drew
      have hle0 := hS.le
      rcases bcases (decide (i > 0)) with hbv_9 | hbv_9
      ·skip
       replace ht_3 := cond_t ht_3 hbv_9
       obtain ⟨e_2, hx_6, ht_3⟩ := bind_some ht_3
       obtain ⟨rv_4, hx_7, ht_3⟩ := bind_some ht_3
       obtain ⟨rv_5, hx_8, ht_3⟩ := bind_some ht_3
       obtain rfl := some_inj ht_3
       refine stepV (i := 0) rfl hF (fun w hS => Y.move hF rfl) rfl fun a hF => ?_
       refine stepV (i := 1) rfl hF (fun w hS => Y.gtr hF rfl rfl) rfl fun a hF => ?_
       refine stepV (i := 2) rfl hF (fun w hS => Y.move hF rfl) rfl fun a hF => ?_
       refine stepV_on (i := 3) rfl hF rfl rfl hbv_9 (fun w hS => Y.loadNL 1 sz_24 hF rfl hS rfl rfl rfl) rfl fun a hF => ?_
       refine stepV_on (i := 4) rfl hF rfl rfl hbv_9 (fun w hS => Y.move hF rfl) rfl fun a hF => ?_
       refine stepV_on (i := 5) rfl hF rfl rfl hbv_9 (fun w hS => Y.move hF rfl) rfl fun a hF => ?_
       refine stepV_on (i := 6) rfl hF rfl rfl hbv_9 (fun w hS => Y.sub hF rfl rfl) rfl fun a hF => ?_
       obtain ⟨b_6, o_3, hE_3, hY_3⟩ := Y.indexS (P := Tryd.prog) (C := C_SpareTurn) (xs := plan) (T := 25) (x := (.tmp 108)) (y := (.tmp 110)) u_25 sz_46 hF rfl rfl (hs_1).1 hx_6
       obtain ⟨cc_3, hc_3, hcell_3⟩ := hE_3.open
       obtain rfl := C_SpareTurn.open hc_3
       refine stepV_on (i := 7) rfl hF rfl rfl hbv_9 (fun w hS => hY_3) rfl fun a hF => ?_
       refine stepV_on (i := 8) rfl hF rfl rfl hbv_9 (fun w hS => Y.loadNE (o := o_3) (k := 0) sz_46 hF rfl (hcell_3 _ hS.stab) rfl rfl) rfl fun a hF => ?_
       refine stepV_on (i := 9) rfl hF rfl rfl hbv_9 (fun w hS => Y.fieldAddr fo_46_2 hF rfl) rfl fun a hF => ?_
       refine stepV_on (i := 10) rfl hF rfl rfl hbv_9 (fun w hS => Y.load1L 2 sz_3 hF rfl hS rfl rfl) rfl fun a hF => ?_
       refine stepV_on (i := 12) rfl hF rfl rfl hbv_9 (fun w hS => Y.loadNL 1 sz_24 hF rfl hS rfl rfl rfl) rfl fun a hF => ?_
       refine stepV_on (i := 13) rfl hF rfl rfl hbv_9 (fun w hS => Y.loadNL 2 sz_46 hF rfl hS rfl rfl rfl) rfl fun a hF => ?_
       refine stepV_on (i := 14) rfl hF rfl rfl hbv_9 (fun w hS => Y.fieldAddr fo_46_2 hF rfl) rfl fun a hF => ?_
       refine stepV_on (i := 15) rfl hF rfl rfl hbv_9 (fun w hS => Y.load1L 2 sz_3 hF rfl hS rfl rfl) rfl fun a hF => ?_
       refine stepV_on (i := 18) rfl hF rfl rfl hbv_9 (fun w hS => Y.fieldAddr fo_24_1 hF rfl) rfl fun a hF => ?_
       refine stepV_on (i := 19) rfl hF rfl rfl hbv_9 (fun w hS => Y.load1L 1 sz_3 hF rfl hS rfl rfl) rfl fun a hF => ?_
       refine oneV (i := 11) rfl ?_ trivial
       refine guard_on hF rfl rfl hbv_9 ?_
       refine O.callP (us := [.agg #[.int .i64 sv.Hours, .int .i64 sv.Gap, .slice p sv.Machines.length c], .agg #[.int .i64 e_2.Machine, .int .i64 e_2.Start, .int .i64 e_2.Over], .int .i64 e.Over]) ca_69 hF hS (remontoirref08_off_ok hS.stab sv e_2 e.Over hs rv_4 hx_7) rfl rfl fun a w hF hS => ?_
       refine nil (then_n ⟨hS.weak ⟨rfl, rfl, rfl, trivial⟩, ?_⟩)
       refine oneV (i := 16) rfl ?_ trivial
       refine guard_on hF rfl rfl hbv_9 ?_
       refine O.callP (us := [.agg #[.int .i64 sv.Hours, .int .i64 sv.Gap, .slice p sv.Machines.length c], .agg #[.int .i64 e.Machine, .int .i64 e.Start, .int .i64 e.Over], .int .i64 e.Over]) ca_69 hF hS (remontoirref08_off_ok hS.stab sv e e.Over hs rv_5 hx_8) rfl rfl fun a w hF hS => ?_
       refine nil (then_n ⟨hS.weak ⟨rfl, rfl, rfl, trivial⟩, ?_⟩)
       refine stepV_on (i := 17) rfl hF rfl rfl hbv_9 (fun w hS => Y.add hF rfl rfl) rfl fun a hF => ?_
       refine stepV_on (i := 20) rfl hF rfl rfl hbv_9 (fun w hS => Y.gtr hF rfl rfl) rfl fun a hF => ?_
       refine stepV (i := 21) rfl hF (fun w hS => Y.pick_t hF rfl hbv_9 rfl) rfl fun a hF => ?_
       exact toTailV ⟨hF.weak ⟨rfl, rfl, rfl, rfl, rfl, rfl, rfl, trivial⟩, hS.weak ⟨rfl, rfl, rfl, trivial⟩⟩
      ·skip
       replace ht_3 := cond_f ht_3 hbv_9
       obtain rfl := some_inj ht_3
       refine stepV (i := 0) rfl hF (fun w hS => Y.move hF rfl) rfl fun a hF => ?_
       refine stepV (i := 1) rfl hF (fun w hS => Y.gtr hF rfl rfl) rfl fun a hF => ?_
       refine stepV (i := 2) rfl hF (fun w hS => Y.move hF rfl) rfl fun a hF => ?_
       refine stepV_off (i := 3) rfl hF rfl rfl hbv_9 rfl fun a hF => ?_
       refine stepV_off (i := 4) rfl hF rfl rfl hbv_9 rfl fun a hF => ?_
       refine stepV_off (i := 5) rfl hF rfl rfl hbv_9 rfl fun a hF => ?_
       refine stepV_off (i := 6) rfl hF rfl rfl hbv_9 rfl fun a hF => ?_
       refine stepV_off (i := 7) rfl hF rfl rfl hbv_9 rfl fun a hF => ?_
       refine stepV_off (i := 8) rfl hF rfl rfl hbv_9 rfl fun a hF => ?_
       refine stepV_off (i := 9) rfl hF rfl rfl hbv_9 rfl fun a hF => ?_
       refine stepV_off (i := 10) rfl hF rfl rfl hbv_9 rfl fun a hF => ?_
       refine stepV_off (i := 12) rfl hF rfl rfl hbv_9 rfl fun a hF => ?_
       refine stepV_off (i := 13) rfl hF rfl rfl hbv_9 rfl fun a hF => ?_
       refine stepV_off (i := 14) rfl hF rfl rfl hbv_9 rfl fun a hF => ?_
       refine stepV_off (i := 15) rfl hF rfl rfl hbv_9 rfl fun a hF => ?_
       refine stepV_off (i := 18) rfl hF rfl rfl hbv_9 rfl fun a hF => ?_
       refine stepV_off (i := 19) rfl hF rfl rfl hbv_9 rfl fun a hF => ?_
       refine oneV (i := 11) rfl ?_ trivial
       refine guard_off hF rfl rfl hbv_9 rfl fun a hF => nil (then_n ⟨hS.weak ⟨rfl, rfl, rfl, trivial⟩, ?_⟩)
       refine oneV (i := 16) rfl ?_ trivial
       refine guard_off hF rfl rfl hbv_9 rfl fun a hF => nil (then_n ⟨hS.weak ⟨rfl, rfl, rfl, trivial⟩, ?_⟩)
       refine stepV_off (i := 17) rfl hF rfl rfl hbv_9 rfl fun a hF => ?_
       refine stepV_off (i := 20) rfl hF rfl rfl hbv_9 rfl fun a hF => ?_
       refine stepV (i := 21) rfl hF (fun w hS => Y.pick_f hF rfl hbv_9 rfl) rfl fun a hF => ?_
       exact toTailV ⟨hF.weak ⟨rfl, rfl, rfl, rfl, rfl, rfl, rfl, trivial⟩, hS.weak ⟨rfl, rfl, rfl, trivial⟩⟩
     rintro a w ⟨hF, hS⟩
     refine nil (then_n ?_)
     refine cond_b hF rfl (fun hbv_10 => ?_) (fun hbv_10 => ?_)
     ·replace h := cond_t h hbv_10
      refine seq ?_
      refine region ?_
      refine step hF (Y.assign hF rfl) rfl fun a hF => ?_
      refine nil (then_n ?_)
      refine ret_ (blk_r (then_r (then_r (blk_r (then_r ?_)))))
      replace h := ext_some h hxo
      obtain rfl := some_inj h
      exact leaveP Tryd.results54 hF hS (.cons (.tmp rfl) .nil) .nil rfl
     ·replace h := cond_f h hbv_10
      refine skip_ (blk_n (then_n ?_))
      refine region ?_
      refine step hF (Y.move hF rfl) rfl fun a hF => ?_
      refine step hF (Y.add hF rfl rfl) rfl fun a hF => ?_
      refine step hF (Y.assign hF rfl) rfl fun a hF => ?_
      refine nil (then_n ?_)
      exact ⟨_, nxt_some h, v6_0, (wr (used + (gshl 1 e.Machine))), (wr (i + 1)), Dv, rfl, hlev, hF.weak ⟨rfl, rfl, rfl, rfl, rfl, rfl, trivial⟩, hS.weak ⟨rfl, trivial⟩⟩
 ·replace h := cond_f h hbv
  refine exit_ (then_x (then_x (blk_hit (then_n ?_))))
  replace h := ext_some h hxo
  refine seq ?_
  refine region ?_
  refine step hF (Y.move hF rfl) rfl fun a hF => ?_
  refine step hF (Y.lenSl u_25 hF rfl) rfl fun a hF => ?_
  refine step hF (Y.gtr hF rfl rfl) rfl fun a hF => ?_
  refine step hF (Y.move hF rfl) rfl fun a hF => ?_
  obtain ⟨t_4, ht_4, h⟩ := bind_some h
  refine join (N := 136) (rs := []) (w0 := w0) (D0 := D0) 6 (us := [(6, .bool v6_0), (135, .bool t_4)]) (ms := [(1, .cells b [.int .i64 sv.Hours, .int .i64 sv.Gap, .slice p sv.Machines.length c] 24)]) (D' := Dv) ?_ ?_
  ·rcases bcases (decide ((plan.length : Int) > 0)) with hbv_12 | hbv_12
   ·-- true
    replace h := cond_t ht_4 hbv_12
    refine guard_on hF rfl rfl hbv_12 ?_
    refine step hF (Y.move hF rfl) rfl fun a hF => ?_
    obtain ⟨e_4, hx_10, h⟩ := bind_some h
    obtain ⟨b_8, o_5, hE_5, hY_5⟩ := Y.indexS (P := Tryd.prog) (C := C_SpareTurn) (xs := plan) (T := 25) (x := (.tmp 130)) (y := (.const (.int .i64 0))) u_25 sz_46 hF rfl rfl (hs_1).1 hx_10
    obtain ⟨cc_5, hc_5, hcell_5⟩ := hE_5.open
    obtain rfl := C_SpareTurn.open hc_5
    refine guard_on hF rfl rfl hbv_12 ?_
    refine step hF (hY_5) rfl fun a hF => ?_
    refine guard_on hF rfl rfl hbv_12 ?_
    refine step hF (Y.fieldAddr fo_46_2 hF rfl) rfl fun a hF => ?_
    refine guard_on hF rfl rfl hbv_12 ?_
    refine step hF (Y.load1 sz_3 hF rfl (hcell_5 _ hS.stab 2 _ rfl)) rfl fun a hF => ?_
    refine guard_on hF rfl rfl hbv_12 ?_
    refine step hF (Y.eql hF rfl rfl) rfl fun a hF => ?_
    refine step hF (Y.pick_t hF rfl hbv_12 rfl) rfl fun a hF => ?_
    obtain rfl := some_inj h
    exact nil (then_n ⟨hF.weak ⟨rfl, rfl, trivial⟩, hS.weak ⟨rfl, trivial⟩⟩)
   ·-- false
    replace h := cond_f ht_4 hbv_12
    refine guard_off hF rfl rfl hbv_12 rfl fun a hF => ?_
    refine guard_off hF rfl rfl hbv_12 rfl fun a hF => ?_
    refine guard_off hF rfl rfl hbv_12 rfl fun a hF => ?_
    refine guard_off hF rfl rfl hbv_12 rfl fun a hF => ?_
    refine guard_off hF rfl rfl hbv_12 rfl fun a hF => ?_
    refine step hF (Y.pick_f hF rfl hbv_12 rfl) rfl fun a hF => ?_
    obtain rfl := some_inj h
    exact nil (then_n ⟨hF.weak ⟨rfl, rfl, trivial⟩, hS.weak ⟨rfl, trivial⟩⟩)
  intro a w hF hS
  refine step hF (Y.assign hF rfl) rfl fun a hF => ?_
  refine nil (then_n ?_)
  refine ret_ ?_
  obtain rfl := some_inj h
  exact leaveP Tryd.results54 hF hS (.cons (.tmp rfl) .nil) .nil rfl

noncomputable def remontoirref08_IsPlan (sv : SpareStore) (plan : (List SpareTurn)) : Option (Bool × Int) :=
  (remontoirref08_Check sv).bind fun rv =>
  cond (rv != 0)
  (some (false, rv))
  ((remontoirref08_isPlan sv plan sv.Hours).bind fun rv_1 =>
  some (rv_1, 0))
theorem remontoirref08_IsPlan_ok {w0 : World} {D0 : Stab} (hD : D0.on w0) (sv : SpareStore) (plan : (List SpareTurn)) {p : Option Addr} {c : Nat} {p_1 : Option Addr} {c_1 : Nat} (hs : SRc C_SpareMachine D0 sv.Machines p c) (hs_1 : SRc C_SpareTurn D0 plan p_1 c_1) (out : (Bool × Int)) (h : remontoirref08_IsPlan sv plan = some out) : Calls Tryd.prog 20 [.agg #[.int .i64 sv.Hours, .int .i64 sv.Gap, .slice p sv.Machines.length c], .slice p_1 plan.length c_1].toArray w0 (RetP D0 w0 (.tuple #[.bool out.1, .int .i64 out.2])) := by
 refine enter _ 17 Tryd.func20 rfl Tryd.ntmps20 rfl fun a hF => ?_
 replace hF : Frm 17 [] [(0, .agg #[.int .i64 sv.Hours, .int .i64 sv.Gap, .slice p sv.Machines.length c]), (1, .slice p_1 plan.length c_1)] a := hF
 have hS := St.start hD
 unfold remontoirref08_IsPlan at h
 refine seq ?_
 refine region ?_
 refine O.box (cs := [.int .i64 sv.Hours, .int .i64 sv.Gap, .slice p sv.Machines.length c]) 1 hF rfl rfl hS rfl fun b a w hF hS => ?_
 refine step hF (Y.assign hF rfl) rfl fun a hF => ?_
 refine step hF (Y.assign hF rfl) rfl fun a hF => ?_
 refine nil (then_n ?_)
 refine seq ?_
 refine seq ?_
 refine region ?_
 refine step hF (Y.loadNL 1 sz_24 hF rfl hS rfl rfl rfl) rfl fun a hF => ?_
 obtain ⟨rv, hx, h⟩ := bind_some h
 refine O.callP (us := [.agg #[.int .i64 sv.Hours, .int .i64 sv.Gap, .slice p sv.Machines.length c]]) ca_18 hF hS (remontoirref08_Check_ok hS.stab sv hs rv hx) rfl rfl fun a w hF hS => ?_
 refine step hF (Y.assign hF rfl) rfl fun a hF => ?_
 refine nil (then_n ?_)
 refine seq ?_
 refine region ?_
 refine step hF (Y.move hF rfl) rfl fun a hF => ?_
 refine step hF (Y.neq hF rfl rfl) rfl fun a hF => ?_
 refine nil (then_n ?_)
 refine cond_b hF rfl (fun hbv => ?_) (fun hbv => ?_)
 ·replace h := cond_t h hbv
  refine seq ?_
  refine region ?_
  refine step hF (Y.move hF rfl) rfl fun a hF => ?_
  refine step hF (Y.assign hF rfl) rfl fun a hF => ?_
  refine step hF (Y.assign hF rfl) rfl fun a hF => ?_
  refine nil (then_n ?_)
  refine ret_ (then_r ?_)
  obtain rfl := some_inj h
  exact leaveP Tryd.results20 hF hS (.cons (.tmp rfl) (.cons (.tmp rfl) .nil)) .nil rfl
 ·replace h := cond_f h hbv
  refine skip_ (then_n ?_)
  refine seq ?_
  refine region ?_
  refine step hF (Y.loadNL 1 sz_24 hF rfl hS rfl rfl rfl) rfl fun a hF => ?_
  refine step hF (Y.move hF rfl) rfl fun a hF => ?_
  refine step hF (Y.fieldAddr fo_24_0 hF rfl) rfl fun a hF => ?_
  refine step hF (Y.load1L 1 sz_3 hF rfl hS rfl rfl) rfl fun a hF => ?_
  obtain ⟨rv_1, hx_1, h⟩ := bind_some h
  refine O.callP (us := [.agg #[.int .i64 sv.Hours, .int .i64 sv.Gap, .slice p sv.Machines.length c], .slice p_1 plan.length c_1, .int .i64 sv.Hours]) ca_54 hF hS (remontoirref08_isPlan_ok hS.stab sv plan sv.Hours hs hs_1 rv_1 hx_1) rfl rfl fun a w hF hS => ?_
  refine step hF (Y.assign hF rfl) rfl fun a hF => ?_
  refine step hF (Y.assign hF rfl) rfl fun a hF => ?_
  refine nil (then_n ?_)
  refine ret_ ?_
  obtain rfl := some_inj h
  exact leaveP Tryd.results20 hF hS (.cons (.tmp rfl) (.cons (.tmp rfl) .nil)) .nil rfl

noncomputable def remontoirref08_far_b2 (sv : SpareStore) (outv : (List Int)) (set : Int) : (Int × Int) → Option ((Int × Int) ⊕ (((List Int) × Int) ⊕ (List Int)))
 | (best, k) =>
  cond (decide (k < (sv.Machines.length : Int)))
  ((idx sv.Machines k).bind fun e =>
  (remontoirref00_In set k).bind fun rv =>
  (cond rv ((remontoirref08_stint sv e).bind fun rv_1 =>
  some (decide (rv_1 > 0))) (some false)).bind fun t =>
  cond t
  (if ¬ k < 0 then
  (idx outv (wr (set - (gshl 1 k)))).bind fun e_1 =>
  cond (decide (e_1 ≥ (if wr (e.From + e.Warm) > 0 then wr (e.From + e.Warm) else 0)))
  ((remontoirref08_stint sv e).bind fun rv_2 =>
  nxt ((if wr (e_1 + rv_2) > best then wr (e_1 + rv_2) else best), wr (k + 1)))
  (nxt (best, wr (k + 1)))
  else none)
  (nxt (best, wr (k + 1))))
  (ext (if outv.length + ([best]).length ≤ lim then
  nxt ((outv ++ [best]), wr (set + 1))
  else none))
noncomputable def remontoirref08_far_b1 (sv : SpareStore) : ((List Int) × Int) → Option (((List Int) × Int) ⊕ (List Int))
 | (outv, set) =>
  if ¬ (sv.Machines.length : Int) < 0 then
  cond (decide (set < (gshl 1 (sv.Machines.length : Int))))
  (loopU (remontoirref08_far_b2 sv outv set) (-1, 0))
  (ext (some outv))
  else none
noncomputable def remontoirref08_far (sv : SpareStore) : Option (List Int) :=
  loopU (remontoirref08_far_b1 sv) ([0], 1)
theorem remontoirref08_far_ok {w0 : World} {D0 : Stab} (hD : D0.on w0) (sv : SpareStore) {p : Option Addr} {c : Nat} (hs : SRc C_SpareMachine D0 sv.Machines p c) (out : (List Int)) (h : remontoirref08_far sv = some out) : Calls Tryd.prog 72 [.agg #[.int .i64 sv.Hours, .int .i64 sv.Gap, .slice p sv.Machines.length c]].toArray w0 (RetS D0 w0 fun D v => ∃ p_5 c_5, v = .slice p_5 out.length c_5 ∧ SRc C_int D out p_5 c_5) := by
 refine enter _ 66 Tryd.func72 rfl Tryd.ntmps72 rfl fun a hF => ?_
 replace hF : Frm 66 [] [(0, .agg #[.int .i64 sv.Hours, .int .i64 sv.Gap, .slice p sv.Machines.length c])] a := hF
 have hS := St.start hD
 unfold remontoirref08_far at h
 refine seq ?_
 refine region ?_
 refine O.box (cs := [.int .i64 sv.Hours, .int .i64 sv.Gap, .slice p sv.Machines.length c]) 1 hF rfl rfl hS rfl fun b a w hF hS => ?_
 refine step hF (Y.assign hF rfl) rfl fun a hF => ?_
 refine nil (then_n ?_)
 refine seq ?_
 refine region ?_
 have hr : Reps C_int D0 [0] [.int .i64 0] := Reps.cons (C := C_int) (x := 0) (c := [.int .i64 0]) (r := []) rfl (Reps.nil)
 refine O.buildSlice (E := 3) (C := C_int) (xs := [0]) (cs := [.int .i64 0]) (us := [.int .i64 0]) (parts := [(0, (.const (.int .i64 0)))]) 2 hF hS rfl (by kernel_rfl) hr rfl rfl rfl fun p_1 c_1 a w hF hS => ?_
 refine step hF (Y.assign hF rfl) rfl fun a hF => ?_
 refine nil (then_n ?_)
 refine seq ?_
 refine seq ?_
 refine region ?_
 refine step hF (Y.assign hF rfl) rfl fun a hF => ?_
 refine nil (then_n ?_)
 refine block ?_
 refine loop_cut (body := remontoirref08_far_b1 sv) (out := out) (fun s a w => ∃ (outv : (List Int)) (set : Int), ∃ (Dv : Stab), ∃ p_2 c_2 cs, s = (outv, set) ∧ D0.le Dv ∧ Frm 66 [] [(1, .pointer (some ⟨b, 0, none⟩)), (2, .slice none 0 0), (3, .slice p_2 outv.length c_2), (4, .int .i64 set)] a ∧ St w0 D0 Dv [(1, .cells b [.int .i64 sv.Hours, .int .i64 sv.Gap, .slice p sv.Machines.length c] 24), (2, .own p_2 outv.length c_2 cs 3 1)] w ∧ Reps C_int Dv outv cs) ([0], 1) h ⟨([0]), 1, D0, p_1, c_1, ([.int .i64 0]), rfl, Stab.le.refl _, hF.weak ⟨rfl, rfl, rfl, rfl, trivial⟩, hS.weak ⟨rfl, rfl, trivial⟩, hr⟩ ?_
 rintro s a w xo ⟨outv, set, Dv, p_2, c_2, cs, rfl, hlev, hF, hS, hr_1⟩ h hxo
 unfold remontoirref08_far_b1 at h
 dsimp only at h
 replace hs := hs.mono hlev
 replace hr := hr.mono hlev
 refine seq ?_
 refine seq ?_
 refine region ?_
 refine step hF (Y.move hF rfl) rfl fun a hF => ?_
 refine step hF (Y.fieldAddr fo_24_2 hF rfl) rfl fun a hF => ?_
 refine step hF (Y.load1L 1 sz_22 hF rfl hS rfl rfl) rfl fun a hF => ?_
 refine step hF (Y.lenSl u_22 hF rfl) rfl fun a hF => ?_
 obtain ⟨hg, h⟩ := ite_some h
 refine step hF (Y.shl hF rfl rfl hg) rfl fun a hF => ?_
 refine step hF (Y.lss hF rfl rfl) rfl fun a hF => ?_
 refine nil (then_n ?_)
 refine cond_b hF rfl (fun hbv => ?_) (fun hbv => ?_)
 ·replace h := cond_t h hbv
  refine skip_ (then_n ?_)
  refine seq ?_
  refine block ?_
  refine seq ?_
  refine region ?_
  refine step hF (Y.assign hF rfl) rfl fun a hF => ?_
  refine nil (then_n ?_)
  refine seq ?_
  refine seq ?_
  refine region ?_
  refine step hF (Y.assign hF rfl) rfl fun a hF => ?_
  refine nil (then_n ?_)
  refine block ?_
  refine loop_cut (body := remontoirref08_far_b2 sv outv set) (out := xo) (fun s a w => ∃ (best : Int) (k : Int), ∃ (Dv_1 : Stab), s = (best, k) ∧ Dv.le Dv_1 ∧ Frm 66 [] [(1, .pointer (some ⟨b, 0, none⟩)), (2, .slice none 0 0), (3, .slice p_2 outv.length c_2), (4, .int .i64 set), (5, .int .i64 best), (6, .int .i64 k)] a ∧ St w0 D0 Dv_1 [(1, .cells b [.int .i64 sv.Hours, .int .i64 sv.Gap, .slice p sv.Machines.length c] 24), (2, .own p_2 outv.length c_2 cs 3 1)] w) (-1, 0) h ⟨(-1), 0, Dv, rfl, Stab.le.refl _, hF.weak ⟨rfl, rfl, rfl, rfl, rfl, rfl, trivial⟩, hS.weak ⟨rfl, rfl, trivial⟩⟩ ?_
  rintro s a w xo_1 ⟨best, k, Dv_1, rfl, hlev_1, hF, hS⟩ h hxo_1
  unfold remontoirref08_far_b2 at h
  dsimp only at h
  replace hs := hs.mono hlev_1
  replace hr := hr.mono hlev_1
  replace hr_1 := hr_1.mono hlev_1
  refine seq ?_
  refine seq ?_
  refine region ?_
  refine step hF (Y.move hF rfl) rfl fun a hF => ?_
  refine step hF (Y.fieldAddr fo_24_2 hF rfl) rfl fun a hF => ?_
  refine step hF (Y.load1L 1 sz_22 hF rfl hS rfl rfl) rfl fun a hF => ?_
  refine step hF (Y.lenSl u_22 hF rfl) rfl fun a hF => ?_
  refine step hF (Y.lss hF rfl rfl) rfl fun a hF => ?_
  refine nil (then_n ?_)
  refine cond_b hF rfl (fun hbv_1 => ?_) (fun hbv_1 => ?_)
  ·replace h := cond_t h hbv_1
   refine skip_ (then_n ?_)
   refine seq ?_
   refine block ?_
   refine seq ?_
   refine region ?_
   refine step hF (Y.fieldAddr fo_24_2 hF rfl) rfl fun a hF => ?_
   refine step hF (Y.load1L 1 sz_22 hF rfl hS rfl rfl) rfl fun a hF => ?_
   refine step hF (Y.move hF rfl) rfl fun a hF => ?_
   obtain ⟨e, hx, h⟩ := bind_some h
   obtain ⟨b_1, o, hE, hY⟩ := Y.indexS (P := Tryd.prog) (C := C_SpareMachine) (xs := sv.Machines) (T := 22) (x := (.tmp 26)) (y := (.tmp 27)) u_22 sz_52 hF rfl rfl (hs).1 hx
   obtain ⟨cc, hc, hcell⟩ := hE.open
   obtain rfl := C_SpareMachine.open hc
   refine step hF (hY) rfl fun a hF => ?_
   refine step hF (Y.loadNE (o := o) (k := 0) sz_52 hF rfl (hcell _ hS.stab) rfl rfl) rfl fun a hF => ?_
   refine O.alloc 3 zc_52 hF hS rfl fun b_2 a w hF hS => ?_
   refine O.store (us := [.int .i64 e.From, .int .i64 e.Warm, .int .i64 e.Life.Low, .int .i64 e.Life.High, .int .i64 e.Drift]) 3 sz_52 hF rfl rfl rfl rfl hS rfl rfl fun a w hF hS => ?_
   refine nil (then_n ?_)
   refine seq ?_
   refine region ?_
   refine step hF (Y.move hF rfl) rfl fun a hF => ?_
   refine step hF (Y.move hF rfl) rfl fun a hF => ?_
   obtain ⟨rv, hx_1, h⟩ := bind_some h
   refine O.callP (us := [.int .i64 set, .int .i64 k]) ca_36 hF hS (remontoirref00_In_ok hS.stab set k rv hx_1) rfl rfl fun a w hF hS => ?_
   refine step hF (Y.move hF rfl) rfl fun a hF => ?_
   obtain ⟨t, ht, h⟩ := bind_some h
   refine join (N := 66) (rs := []) (w0 := w0) (D0 := D0) 5 (us := [(1, .pointer (some ⟨b, 0, none⟩)), (2, .slice none 0 0), (3, .slice p_2 outv.length c_2), (4, .int .i64 set), (5, .int .i64 best), (6, .int .i64 k), (7, .pointer (some ⟨b_2, 0, none⟩)), (38, .bool t)]) (ms := [(1, .cells b [.int .i64 sv.Hours, .int .i64 sv.Gap, .slice p sv.Machines.length c] 24), (2, .own p_2 outv.length c_2 cs 3 1), (3, .cells b_2 [.int .i64 e.From, .int .i64 e.Warm, .int .i64 e.Life.Low, .int .i64 e.Life.High, .int .i64 e.Drift] 52)]) (D' := Dv_1) ?_ ?_
   ·rcases bcases rv with hbv_2 | hbv_2
    ·-- true
     replace h := cond_t ht hbv_2
     refine guard_on hF rfl rfl hbv_2 ?_
     refine step hF (Y.loadNL 1 sz_24 hF rfl hS rfl rfl rfl) rfl fun a hF => ?_
     refine guard_on hF rfl rfl hbv_2 ?_
     refine step hF (Y.loadNL 3 sz_52 hF rfl hS rfl rfl rfl) rfl fun a hF => ?_
     refine guard_on hF rfl rfl hbv_2 ?_
     obtain ⟨rv_1, hx_2, h⟩ := bind_some h
     refine O.callP (us := [.agg #[.int .i64 sv.Hours, .int .i64 sv.Gap, .slice p sv.Machines.length c], .agg #[.int .i64 e.From, .int .i64 e.Warm, .int .i64 e.Life.Low, .int .i64 e.Life.High, .int .i64 e.Drift]]) ca_50 hF hS (remontoirref08_stint_ok hS.stab sv e hs rv_1 hx_2) rfl rfl fun a w hF hS => ?_
     refine guard_on hF rfl rfl hbv_2 ?_
     refine step hF (Y.gtr hF rfl rfl) rfl fun a hF => ?_
     refine step hF (Y.pick_t hF rfl hbv_2 rfl) rfl fun a hF => ?_
     obtain rfl := some_inj h
     exact nil (then_n ⟨hF.weak ⟨rfl, rfl, rfl, rfl, rfl, rfl, rfl, rfl, trivial⟩, hS.weak ⟨rfl, rfl, rfl, trivial⟩⟩)
    ·-- false
     replace h := cond_f ht hbv_2
     refine guard_off hF rfl rfl hbv_2 rfl fun a hF => ?_
     refine guard_off hF rfl rfl hbv_2 rfl fun a hF => ?_
     refine guard_off hF rfl rfl hbv_2 rfl fun a hF => ?_
     refine guard_off hF rfl rfl hbv_2 rfl fun a hF => ?_
     refine step hF (Y.pick_f hF rfl hbv_2 rfl) rfl fun a hF => ?_
     obtain rfl := some_inj h
     exact nil (then_n ⟨hF.weak ⟨rfl, rfl, rfl, rfl, rfl, rfl, rfl, rfl, trivial⟩, hS.weak ⟨rfl, rfl, rfl, trivial⟩⟩)
   intro a w hF hS
   refine nil (then_n ?_)
   refine cond_b hF rfl (fun hbv_3 => ?_) (fun hbv_3 => ?_)
   ·replace h := cond_t h hbv_3
    refine seq ?_
    refine region ?_
    refine step hF (Y.move hF rfl) rfl fun a hF => ?_
    refine step hF (Y.move hF rfl) rfl fun a hF => ?_
    refine step hF (Y.move hF rfl) rfl fun a hF => ?_
    obtain ⟨hg_1, h⟩ := ite_some h
    refine step hF (Y.shl hF rfl rfl hg_1) rfl fun a hF => ?_
    refine step hF (Y.sub hF rfl rfl) rfl fun a hF => ?_
    obtain ⟨e_1, hx_3, h⟩ := bind_some h
    obtain ⟨b_3, hp⟩ := hS.ownPtr (i := 2) rfl (idx_rng hx_3)
    obtain ⟨cc_1, hc_1, hsub⟩ := ownElI (C := C_int) hr_1 hx_3
    obtain rfl := hc_1
    refine step hF (Y.indexOwn hp u_39 sz_3 (idx_rng hx_3) hF rfl rfl) rfl fun a hF => ?_
    refine step hF (Y.load1 sz_3 hF rfl (ownElCell (C := C_int) (i := 2) hS rfl hp hsub 0 _ rfl)) rfl fun a hF => ?_
    refine step hF (Y.assign hF rfl) rfl fun a hF => ?_
    refine nil (then_n ?_)
    refine seq ?_
    refine region ?_
    refine step hF (Y.move hF rfl) rfl fun a hF => ?_
    refine step hF (Y.fieldAddr fo_52_0 hF rfl) rfl fun a hF => ?_
    refine step hF (Y.load1L 3 sz_3 hF rfl hS rfl rfl) rfl fun a hF => ?_
    refine step hF (Y.fieldAddr fo_52_1 hF rfl) rfl fun a hF => ?_
    refine step hF (Y.load1L 3 sz_3 hF rfl hS rfl rfl) rfl fun a hF => ?_
    refine step hF (Y.add hF rfl rfl) rfl fun a hF => ?_
    refine step hF (Y.max2 hF rfl rfl) rfl fun a hF => ?_
    refine step hF (Y.geq hF rfl rfl) rfl fun a hF => ?_
    refine nil (then_n ?_)
    refine cond_b hF rfl (fun hbv_4 => ?_) (fun hbv_4 => ?_)
    ·replace h := cond_t h hbv_4
     refine region ?_
     refine step hF (Y.move hF rfl) rfl fun a hF => ?_
     refine step hF (Y.move hF rfl) rfl fun a hF => ?_
     refine step hF (Y.loadNL 1 sz_24 hF rfl hS rfl rfl rfl) rfl fun a hF => ?_
     refine step hF (Y.loadNL 3 sz_52 hF rfl hS rfl rfl rfl) rfl fun a hF => ?_
     obtain ⟨rv_2, hx_4, h⟩ := bind_some h
     refine O.callP (us := [.agg #[.int .i64 sv.Hours, .int .i64 sv.Gap, .slice p sv.Machines.length c], .agg #[.int .i64 e.From, .int .i64 e.Warm, .int .i64 e.Life.Low, .int .i64 e.Life.High, .int .i64 e.Drift]]) ca_50 hF hS (remontoirref08_stint_ok hS.stab sv e hs rv_2 hx_4) rfl rfl fun a w hF hS => ?_
     refine step hF (Y.add hF rfl rfl) rfl fun a hF => ?_
     refine step hF (Y.max2 hF rfl rfl) rfl fun a hF => ?_
     refine step hF (Y.assign hF rfl) rfl fun a hF => ?_
     refine nil (blk_n (then_n ?_))
     refine region ?_
     refine step hF (Y.move hF rfl) rfl fun a hF => ?_
     refine step hF (Y.add hF rfl rfl) rfl fun a hF => ?_
     refine step hF (Y.assign hF rfl) rfl fun a hF => ?_
     refine nil (then_n ?_)
     exact ⟨_, nxt_some h, (if wr (e_1 + rv_2) > best then wr (e_1 + rv_2) else best), (wr (k + 1)), Dv_1, rfl, hlev_1, hF.weak ⟨rfl, rfl, rfl, rfl, rfl, rfl, trivial⟩, hS.weak ⟨rfl, rfl, trivial⟩⟩
    ·replace h := cond_f h hbv_4
     refine skip_ (blk_n (then_n ?_))
     refine region ?_
     refine step hF (Y.move hF rfl) rfl fun a hF => ?_
     refine step hF (Y.add hF rfl rfl) rfl fun a hF => ?_
     refine step hF (Y.assign hF rfl) rfl fun a hF => ?_
     refine nil (then_n ?_)
     exact ⟨_, nxt_some h, best, (wr (k + 1)), Dv_1, rfl, hlev_1, hF.weak ⟨rfl, rfl, rfl, rfl, rfl, rfl, trivial⟩, hS.weak ⟨rfl, rfl, trivial⟩⟩
   ·replace h := cond_f h hbv_3
    refine skip_ (blk_n (then_n ?_))
    refine region ?_
    refine step hF (Y.move hF rfl) rfl fun a hF => ?_
    refine step hF (Y.add hF rfl rfl) rfl fun a hF => ?_
    refine step hF (Y.assign hF rfl) rfl fun a hF => ?_
    refine nil (then_n ?_)
    exact ⟨_, nxt_some h, best, (wr (k + 1)), Dv_1, rfl, hlev_1, hF.weak ⟨rfl, rfl, rfl, rfl, rfl, rfl, trivial⟩, hS.weak ⟨rfl, rfl, trivial⟩⟩
  ·replace h := cond_f h hbv_1
   refine exit_ (then_x (then_x (blk_hit (then_n ?_))))
   replace h := ext_some h hxo_1
   refine region ?_
   refine step hF (Y.move hF rfl) rfl fun a hF => ?_
   refine step hF (Y.move hF rfl) rfl fun a hF => ?_
   have hr_2 : Reps C_int Dv_1 [best] [.int .i64 best] := Reps.cons (C := C_int) (x := best) (c := [.int .i64 best]) (r := []) rfl (Reps.nil)
   refine O.buildSlice (E := 3) (C := C_int) (xs := [best]) (cs := [.int .i64 best]) (us := [.int .i64 best]) (parts := [(0, (.tmp 62))]) 4 hF hS rfl (by kernel_rfl) hr_2 rfl rfl rfl fun p_3 c_3 a w hF hS => ?_
   obtain ⟨hg_2, h⟩ := ite_some h
   refine O.append (C := C_int) (xs := outv) (ys := [best]) 2 gr_39 hF rfl rfl hS rfl (src_own (i := 4) hS rfl) hr_1 hr_2 hg_2 rfl fun p_4 c_4 a w hF hS hr_3 => ?_
   refine step hF (Y.assign hF rfl) rfl fun a hF => ?_
   refine nil (blk_n (then_n ?_))
   refine region ?_
   refine step hF (Y.move hF rfl) rfl fun a hF => ?_
   refine step hF (Y.add hF rfl rfl) rfl fun a hF => ?_
   refine step hF (Y.assign hF rfl) rfl fun a hF => ?_
   refine nil (then_n ?_)
   exact ⟨_, nxt_some h, (outv ++ [best]), (wr (set + 1)), Dv_1, p_4, c_4, (cs ++ [.int .i64 best]), rfl, hlev.trans hlev_1, hF.weak ⟨rfl, rfl, rfl, rfl, trivial⟩, hS.weak ⟨rfl, rfl, trivial⟩, hr_3⟩
 ·replace h := cond_f h hbv
  refine exit_ (then_x (then_x (blk_hit (then_n ?_))))
  replace h := ext_some h hxo
  refine seq ?_
  refine region ?_
  refine step hF (Y.move hF rfl) rfl fun a hF => ?_
  refine step hF (Y.assign hF rfl) rfl fun a hF => ?_
  refine nil (then_n ?_)
  refine ret_ ?_
  obtain ⟨Dv_2, hlev_2, hs_1, hS⟩ := hS.freezeC (i := 2) (xs := outv) rfl hr_1
  replace hs := hs.mono hlev_2
  replace hr := hr.mono hlev_2
  replace hr_1 := hr_1.mono hlev_2
  obtain rfl := some_inj h
  exact leaveS Tryd.results72 hF hS (.cons (.tmp rfl) .nil) .nil ⟨_, _, rfl, hs_1⟩

noncomputable def remontoirref08_told_b2 (sv : SpareStore) (rv : (List Int)) (outv : (List Int)) (set : Int) : (Int × Int) → Option ((Int × Int) ⊕ (((List Int) × Int) ⊕ (List Int)))
 | (best, k) =>
  cond (decide (k < (sv.Machines.length : Int)))
  ((idx sv.Machines k).bind fun e =>
  (remontoirref00_In set k).bind fun rv_1 =>
  (cond rv_1 ((remontoirref08_last e).bind fun rv_2 =>
  some (decide (rv_2 > 0))) (some false)).bind fun t =>
  cond t
  (if ¬ k < 0 then
  (idx rv (wr (set - (gshl 1 k)))).bind fun e_1 =>
  cond (decide (e_1 ≥ (if wr (e.From + e.Warm) > 0 then wr (e.From + e.Warm) else 0)))
  ((remontoirref08_last e).bind fun rv_3 =>
  nxt ((if wr (e_1 + rv_3) > best then wr (e_1 + rv_3) else best), wr (k + 1)))
  (nxt (best, wr (k + 1)))
  else none)
  (nxt (best, wr (k + 1))))
  (ext (if outv.length + ([best]).length ≤ lim then
  nxt ((outv ++ [best]), wr (set + 1))
  else none))
noncomputable def remontoirref08_told_b1 (sv : SpareStore) (rv : (List Int)) : ((List Int) × Int) → Option (((List Int) × Int) ⊕ (List Int))
 | (outv, set) =>
  cond (decide (set < (rv.length : Int)))
  (loopU (remontoirref08_told_b2 sv rv outv set) (0, 0))
  (ext (some outv))
noncomputable def remontoirref08_told (sv : SpareStore) : Option (List Int) :=
  (remontoirref08_far sv).bind fun rv =>
  loopU (remontoirref08_told_b1 sv rv) (([] : List Int), 0)
theorem remontoirref08_told_ok {w0 : World} {D0 : Stab} (hD : D0.on w0) (sv : SpareStore) {p : Option Addr} {c : Nat} (hs : SRc C_SpareMachine D0 sv.Machines p c) (out : (List Int)) (h : remontoirref08_told sv = some out) : Calls Tryd.prog 60 [.agg #[.int .i64 sv.Hours, .int .i64 sv.Gap, .slice p sv.Machines.length c]].toArray w0 (RetS D0 w0 fun D v => ∃ p_5 c_5, v = .slice p_5 out.length c_5 ∧ SRc C_int D out p_5 c_5) := by
 refine enter _ 64 Tryd.func60 rfl Tryd.ntmps60 rfl fun a hF => ?_
 replace hF : Frm 64 [] [(0, .agg #[.int .i64 sv.Hours, .int .i64 sv.Gap, .slice p sv.Machines.length c])] a := hF
 have hS := St.start hD
 unfold remontoirref08_told at h
 refine seq ?_
 refine region ?_
 refine O.box (cs := [.int .i64 sv.Hours, .int .i64 sv.Gap, .slice p sv.Machines.length c]) 1 hF rfl rfl hS rfl fun b a w hF hS => ?_
 refine step hF (Y.assign hF rfl) rfl fun a hF => ?_
 refine nil (then_n ?_)
 refine seq ?_
 refine region ?_
 refine step hF (Y.loadNL 1 sz_24 hF rfl hS rfl rfl rfl) rfl fun a hF => ?_
 obtain ⟨rv, hx, h⟩ := bind_some h
 refine O.callS (us := [.agg #[.int .i64 sv.Hours, .int .i64 sv.Gap, .slice p sv.Machines.length c]]) ca_72 hF hS (remontoirref08_far_ok hS.stab sv hs rv hx) rfl rfl fun v Dv a w hR hlev hF hS => ?_
 replace hs := hs.mono hlev
 obtain ⟨p_1, c_1, rfl, hs_1⟩ := hR
 refine step hF (Y.assign hF rfl) rfl fun a hF => ?_
 refine nil (then_n ?_)
 refine seq ?_
 refine region ?_
 refine step hF (Y.assign hF rfl) rfl fun a hF => ?_
 replace hS := hS.ownNil 2 3 1
 refine nil (then_n ?_)
 refine seq ?_
 refine seq ?_
 refine region ?_
 refine step hF (Y.assign hF rfl) rfl fun a hF => ?_
 refine nil (then_n ?_)
 refine block ?_
 refine loop_cut (body := remontoirref08_told_b1 sv rv) (out := out) (fun s a w => ∃ (outv : (List Int)) (set : Int), ∃ p_2 c_2 cs, s = (outv, set) ∧ Frm 64 [] [(1, .pointer (some ⟨b, 0, none⟩)), (2, .slice none 0 0), (3, .slice p_1 rv.length c_1), (4, .slice p_2 outv.length c_2), (5, .int .i64 set)] a ∧ St w0 D0 Dv [(1, .cells b [.int .i64 sv.Hours, .int .i64 sv.Gap, .slice p sv.Machines.length c] 24), (2, .own p_2 outv.length c_2 cs 3 1)] w ∧ Reps C_int Dv outv cs) (([] : List Int), 0) h ⟨([] : List Int), 0, none, 0, ([]), rfl, hF.weak ⟨rfl, rfl, rfl, rfl, rfl, trivial⟩, hS.weak ⟨rfl, rfl, trivial⟩, Reps.nil⟩ ?_
 rintro s a w xo ⟨outv, set, p_2, c_2, cs, rfl, hF, hS, hr⟩ h hxo
 unfold remontoirref08_told_b1 at h
 dsimp only at h
 refine seq ?_
 refine seq ?_
 refine region ?_
 refine step hF (Y.move hF rfl) rfl fun a hF => ?_
 refine step hF (Y.move hF rfl) rfl fun a hF => ?_
 refine step hF (Y.lenSl u_39 hF rfl) rfl fun a hF => ?_
 refine step hF (Y.lss hF rfl rfl) rfl fun a hF => ?_
 refine nil (then_n ?_)
 refine cond_b hF rfl (fun hbv => ?_) (fun hbv => ?_)
 ·replace h := cond_t h hbv
  refine skip_ (then_n ?_)
  refine seq ?_
  refine block ?_
  refine seq ?_
  refine region ?_
  refine step hF (Y.assign hF rfl) rfl fun a hF => ?_
  refine nil (then_n ?_)
  refine seq ?_
  refine seq ?_
  refine region ?_
  refine step hF (Y.assign hF rfl) rfl fun a hF => ?_
  refine nil (then_n ?_)
  refine block ?_
  refine loop_cut (body := remontoirref08_told_b2 sv rv outv set) (out := xo) (fun s a w => ∃ (best : Int) (k : Int), s = (best, k) ∧ Frm 64 [] [(1, .pointer (some ⟨b, 0, none⟩)), (2, .slice none 0 0), (3, .slice p_1 rv.length c_1), (4, .slice p_2 outv.length c_2), (5, .int .i64 set), (6, .int .i64 best), (7, .int .i64 k)] a ∧ St w0 D0 Dv [(1, .cells b [.int .i64 sv.Hours, .int .i64 sv.Gap, .slice p sv.Machines.length c] 24), (2, .own p_2 outv.length c_2 cs 3 1)] w) (0, 0) h ⟨0, 0, rfl, hF.weak ⟨rfl, rfl, rfl, rfl, rfl, rfl, rfl, trivial⟩, hS.weak ⟨rfl, rfl, trivial⟩⟩ ?_
  rintro s a w xo_1 ⟨best, k, rfl, hF, hS⟩ h hxo_1
  unfold remontoirref08_told_b2 at h
  dsimp only at h
  refine seq ?_
  refine seq ?_
  refine region ?_
  refine step hF (Y.move hF rfl) rfl fun a hF => ?_
  refine step hF (Y.fieldAddr fo_24_2 hF rfl) rfl fun a hF => ?_
  refine step hF (Y.load1L 1 sz_22 hF rfl hS rfl rfl) rfl fun a hF => ?_
  refine step hF (Y.lenSl u_22 hF rfl) rfl fun a hF => ?_
  refine step hF (Y.lss hF rfl rfl) rfl fun a hF => ?_
  refine nil (then_n ?_)
  refine cond_b hF rfl (fun hbv_1 => ?_) (fun hbv_1 => ?_)
  ·replace h := cond_t h hbv_1
   refine skip_ (then_n ?_)
   refine seq ?_
   refine block ?_
   refine seq ?_
   refine region ?_
   refine step hF (Y.fieldAddr fo_24_2 hF rfl) rfl fun a hF => ?_
   refine step hF (Y.load1L 1 sz_22 hF rfl hS rfl rfl) rfl fun a hF => ?_
   refine step hF (Y.move hF rfl) rfl fun a hF => ?_
   obtain ⟨e, hx_1, h⟩ := bind_some h
   obtain ⟨b_1, o, hE, hY⟩ := Y.indexS (P := Tryd.prog) (C := C_SpareMachine) (xs := sv.Machines) (T := 22) (x := (.tmp 26)) (y := (.tmp 27)) u_22 sz_52 hF rfl rfl (hs).1 hx_1
   obtain ⟨cc, hc, hcell⟩ := hE.open
   obtain rfl := C_SpareMachine.open hc
   refine step hF (hY) rfl fun a hF => ?_
   refine step hF (Y.loadNE (o := o) (k := 0) sz_52 hF rfl (hcell _ hS.stab) rfl rfl) rfl fun a hF => ?_
   refine O.alloc 3 zc_52 hF hS rfl fun b_2 a w hF hS => ?_
   refine O.store (us := [.int .i64 e.From, .int .i64 e.Warm, .int .i64 e.Life.Low, .int .i64 e.Life.High, .int .i64 e.Drift]) 3 sz_52 hF rfl rfl rfl rfl hS rfl rfl fun a w hF hS => ?_
   refine nil (then_n ?_)
   refine seq ?_
   refine region ?_
   refine step hF (Y.move hF rfl) rfl fun a hF => ?_
   refine step hF (Y.move hF rfl) rfl fun a hF => ?_
   obtain ⟨rv_1, hx_2, h⟩ := bind_some h
   refine O.callP (us := [.int .i64 set, .int .i64 k]) ca_36 hF hS (remontoirref00_In_ok hS.stab set k rv_1 hx_2) rfl rfl fun a w hF hS => ?_
   refine step hF (Y.move hF rfl) rfl fun a hF => ?_
   obtain ⟨t, ht, h⟩ := bind_some h
   refine join (N := 64) (rs := []) (w0 := w0) (D0 := D0) 4 (us := [(1, .pointer (some ⟨b, 0, none⟩)), (2, .slice none 0 0), (3, .slice p_1 rv.length c_1), (4, .slice p_2 outv.length c_2), (5, .int .i64 set), (6, .int .i64 best), (7, .int .i64 k), (8, .pointer (some ⟨b_2, 0, none⟩)), (37, .bool t)]) (ms := [(1, .cells b [.int .i64 sv.Hours, .int .i64 sv.Gap, .slice p sv.Machines.length c] 24), (2, .own p_2 outv.length c_2 cs 3 1), (3, .cells b_2 [.int .i64 e.From, .int .i64 e.Warm, .int .i64 e.Life.Low, .int .i64 e.Life.High, .int .i64 e.Drift] 52)]) (D' := Dv) ?_ ?_
   ·rcases bcases rv_1 with hbv_2 | hbv_2
    ·-- true
     replace h := cond_t ht hbv_2
     refine guard_on hF rfl rfl hbv_2 ?_
     refine step hF (Y.loadNL 3 sz_52 hF rfl hS rfl rfl rfl) rfl fun a hF => ?_
     refine guard_on hF rfl rfl hbv_2 ?_
     obtain ⟨rv_2, hx_3, h⟩ := bind_some h
     refine O.callP (us := [.agg #[.int .i64 e.From, .int .i64 e.Warm, .int .i64 e.Life.Low, .int .i64 e.Life.High, .int .i64 e.Drift]]) ca_51 hF hS (remontoirref08_last_ok hS.stab e rv_2 hx_3) rfl rfl fun a w hF hS => ?_
     refine guard_on hF rfl rfl hbv_2 ?_
     refine step hF (Y.gtr hF rfl rfl) rfl fun a hF => ?_
     refine step hF (Y.pick_t hF rfl hbv_2 rfl) rfl fun a hF => ?_
     obtain rfl := some_inj h
     exact nil (then_n ⟨hF.weak ⟨rfl, rfl, rfl, rfl, rfl, rfl, rfl, rfl, rfl, trivial⟩, hS.weak ⟨rfl, rfl, rfl, trivial⟩⟩)
    ·-- false
     replace h := cond_f ht hbv_2
     refine guard_off hF rfl rfl hbv_2 rfl fun a hF => ?_
     refine guard_off hF rfl rfl hbv_2 rfl fun a hF => ?_
     refine guard_off hF rfl rfl hbv_2 rfl fun a hF => ?_
     refine step hF (Y.pick_f hF rfl hbv_2 rfl) rfl fun a hF => ?_
     obtain rfl := some_inj h
     exact nil (then_n ⟨hF.weak ⟨rfl, rfl, rfl, rfl, rfl, rfl, rfl, rfl, rfl, trivial⟩, hS.weak ⟨rfl, rfl, rfl, trivial⟩⟩)
   intro a w hF hS
   refine nil (then_n ?_)
   refine cond_b hF rfl (fun hbv_3 => ?_) (fun hbv_3 => ?_)
   ·replace h := cond_t h hbv_3
    refine seq ?_
    refine region ?_
    refine step hF (Y.move hF rfl) rfl fun a hF => ?_
    refine step hF (Y.move hF rfl) rfl fun a hF => ?_
    refine step hF (Y.move hF rfl) rfl fun a hF => ?_
    obtain ⟨hg, h⟩ := ite_some h
    refine step hF (Y.shl hF rfl rfl hg) rfl fun a hF => ?_
    refine step hF (Y.sub hF rfl rfl) rfl fun a hF => ?_
    obtain ⟨e_1, hx_4, h⟩ := bind_some h
    obtain ⟨b_3, o_1, hE_1, hY_1⟩ := Y.indexS (P := Tryd.prog) (C := C_int) (xs := rv) (T := 39) (x := (.tmp 38)) (y := (.tmp 42)) u_39 sz_3 hF rfl rfl (hs_1).1 hx_4
    obtain ⟨cc_1, hc_1, hcell_1⟩ := hE_1.open
    obtain rfl := hc_1
    refine step hF (hY_1) rfl fun a hF => ?_
    refine step hF (Y.load1 sz_3 hF rfl (hcell_1 _ hS.stab 0 _ rfl)) rfl fun a hF => ?_
    refine step hF (Y.assign hF rfl) rfl fun a hF => ?_
    refine nil (then_n ?_)
    refine seq ?_
    refine region ?_
    refine step hF (Y.move hF rfl) rfl fun a hF => ?_
    refine step hF (Y.fieldAddr fo_52_0 hF rfl) rfl fun a hF => ?_
    refine step hF (Y.load1L 3 sz_3 hF rfl hS rfl rfl) rfl fun a hF => ?_
    refine step hF (Y.fieldAddr fo_52_1 hF rfl) rfl fun a hF => ?_
    refine step hF (Y.load1L 3 sz_3 hF rfl hS rfl rfl) rfl fun a hF => ?_
    refine step hF (Y.add hF rfl rfl) rfl fun a hF => ?_
    refine step hF (Y.max2 hF rfl rfl) rfl fun a hF => ?_
    refine step hF (Y.geq hF rfl rfl) rfl fun a hF => ?_
    refine nil (then_n ?_)
    refine cond_b hF rfl (fun hbv_4 => ?_) (fun hbv_4 => ?_)
    ·replace h := cond_t h hbv_4
     refine region ?_
     refine step hF (Y.move hF rfl) rfl fun a hF => ?_
     refine step hF (Y.move hF rfl) rfl fun a hF => ?_
     refine step hF (Y.loadNL 3 sz_52 hF rfl hS rfl rfl rfl) rfl fun a hF => ?_
     obtain ⟨rv_3, hx_5, h⟩ := bind_some h
     refine O.callP (us := [.agg #[.int .i64 e.From, .int .i64 e.Warm, .int .i64 e.Life.Low, .int .i64 e.Life.High, .int .i64 e.Drift]]) ca_51 hF hS (remontoirref08_last_ok hS.stab e rv_3 hx_5) rfl rfl fun a w hF hS => ?_
     refine step hF (Y.add hF rfl rfl) rfl fun a hF => ?_
     refine step hF (Y.max2 hF rfl rfl) rfl fun a hF => ?_
     refine step hF (Y.assign hF rfl) rfl fun a hF => ?_
     refine nil (blk_n (then_n ?_))
     refine region ?_
     refine step hF (Y.move hF rfl) rfl fun a hF => ?_
     refine step hF (Y.add hF rfl rfl) rfl fun a hF => ?_
     refine step hF (Y.assign hF rfl) rfl fun a hF => ?_
     refine nil (then_n ?_)
     exact ⟨_, nxt_some h, (if wr (e_1 + rv_3) > best then wr (e_1 + rv_3) else best), (wr (k + 1)), rfl, hF.weak ⟨rfl, rfl, rfl, rfl, rfl, rfl, rfl, trivial⟩, hS.weak ⟨rfl, rfl, trivial⟩⟩
    ·replace h := cond_f h hbv_4
     refine skip_ (blk_n (then_n ?_))
     refine region ?_
     refine step hF (Y.move hF rfl) rfl fun a hF => ?_
     refine step hF (Y.add hF rfl rfl) rfl fun a hF => ?_
     refine step hF (Y.assign hF rfl) rfl fun a hF => ?_
     refine nil (then_n ?_)
     exact ⟨_, nxt_some h, best, (wr (k + 1)), rfl, hF.weak ⟨rfl, rfl, rfl, rfl, rfl, rfl, rfl, trivial⟩, hS.weak ⟨rfl, rfl, trivial⟩⟩
   ·replace h := cond_f h hbv_3
    refine skip_ (blk_n (then_n ?_))
    refine region ?_
    refine step hF (Y.move hF rfl) rfl fun a hF => ?_
    refine step hF (Y.add hF rfl rfl) rfl fun a hF => ?_
    refine step hF (Y.assign hF rfl) rfl fun a hF => ?_
    refine nil (then_n ?_)
    exact ⟨_, nxt_some h, best, (wr (k + 1)), rfl, hF.weak ⟨rfl, rfl, rfl, rfl, rfl, rfl, rfl, trivial⟩, hS.weak ⟨rfl, rfl, trivial⟩⟩
  ·replace h := cond_f h hbv_1
   refine exit_ (then_x (then_x (blk_hit (then_n ?_))))
   replace h := ext_some h hxo_1
   refine region ?_
   refine step hF (Y.move hF rfl) rfl fun a hF => ?_
   refine step hF (Y.move hF rfl) rfl fun a hF => ?_
   have hr_1 : Reps C_int Dv [best] [.int .i64 best] := Reps.cons (C := C_int) (x := best) (c := [.int .i64 best]) (r := []) rfl (Reps.nil)
   refine O.buildSlice (E := 3) (C := C_int) (xs := [best]) (cs := [.int .i64 best]) (us := [.int .i64 best]) (parts := [(0, (.tmp 60))]) 4 hF hS rfl (by kernel_rfl) hr_1 rfl rfl rfl fun p_3 c_3 a w hF hS => ?_
   obtain ⟨hg_1, h⟩ := ite_some h
   refine O.append (C := C_int) (xs := outv) (ys := [best]) 2 gr_39 hF rfl rfl hS rfl (src_own (i := 4) hS rfl) hr hr_1 hg_1 rfl fun p_4 c_4 a w hF hS hr_2 => ?_
   refine step hF (Y.assign hF rfl) rfl fun a hF => ?_
   refine nil (blk_n (then_n ?_))
   refine region ?_
   refine step hF (Y.move hF rfl) rfl fun a hF => ?_
   refine step hF (Y.add hF rfl rfl) rfl fun a hF => ?_
   refine step hF (Y.assign hF rfl) rfl fun a hF => ?_
   refine nil (then_n ?_)
   exact ⟨_, nxt_some h, (outv ++ [best]), (wr (set + 1)), p_4, c_4, (cs ++ [.int .i64 best]), rfl, hF.weak ⟨rfl, rfl, rfl, rfl, rfl, trivial⟩, hS.weak ⟨rfl, rfl, trivial⟩, hr_2⟩
 ·replace h := cond_f h hbv
  refine exit_ (then_x (then_x (blk_hit (then_n ?_))))
  replace h := ext_some h hxo
  refine seq ?_
  refine region ?_
  refine step hF (Y.move hF rfl) rfl fun a hF => ?_
  refine step hF (Y.assign hF rfl) rfl fun a hF => ?_
  refine nil (then_n ?_)
  refine ret_ ?_
  obtain ⟨Dv_1, hlev_1, hs_2, hS⟩ := hS.freezeC (i := 2) (xs := outv) rfl hr
  replace hs := hs.mono hlev_1
  replace hs_1 := hs_1.mono hlev_1
  replace hr := hr.mono hlev_1
  obtain rfl := some_inj h
  exact leaveS Tryd.results60 hF hS (.cons (.tmp rfl) .nil) .nil ⟨_, _, rfl, hs_2⟩

noncomputable def remontoirref08_fewest_b1 (l : (List Int)) (hours : Int) (all : Int) : (Int × Int) → Option ((Int × Int) ⊕ Int)
 | (best, set) =>
  cond (decide (set < (l.length : Int)))
  ((cond ((bitsOp .and set all) == set) ((idx l set).bind fun e =>
  some (decide (e ≥ hours))) (some false)).bind fun t =>
  cond t
  ((remontoirref00_List set 8).bind fun rv =>
  nxt ((if (rv.length : Int) < best then (rv.length : Int) else best), wr (set + 1)))
  (nxt (best, wr (set + 1))))
  (ext (some best))
noncomputable def remontoirref08_fewest (l : (List Int)) (hours : Int) (all : Int) : Option Int :=
  loopU (remontoirref08_fewest_b1 l hours all) (100, 0)
theorem remontoirref08_fewest_ok {w0 : World} {D0 : Stab} (hD : D0.on w0) (l : (List Int)) (hours : Int) (all : Int) {p : Option Addr} {c : Nat} (hs : SRc C_int D0 l p c) (out : Int) (h : remontoirref08_fewest l hours all = some out) : Calls Tryd.prog 59 [.slice p l.length c, .int .i64 hours, .int .i64 all].toArray w0 (RetP D0 w0 (.int .i64 out)) := by
 refine enter _ 34 Tryd.func59 rfl Tryd.ntmps59 rfl fun a hF => ?_
 replace hF : Frm 34 [] [(0, .slice p l.length c), (1, .int .i64 hours), (2, .int .i64 all)] a := hF
 have hS := St.start hD
 unfold remontoirref08_fewest at h
 refine seq ?_
 refine region ?_
 refine step hF (Y.assign hF rfl) rfl fun a hF => ?_
 refine nil (then_n ?_)
 refine seq ?_
 refine region ?_
 refine step hF (Y.assign hF rfl) rfl fun a hF => ?_
 refine nil (then_n ?_)
 refine seq ?_
 refine seq ?_
 refine region ?_
 refine step hF (Y.assign hF rfl) rfl fun a hF => ?_
 refine nil (then_n ?_)
 refine block ?_
 refine loop_cut (body := remontoirref08_fewest_b1 l hours all) (out := out) (fun s a w => ∃ (best : Int) (set : Int), ∃ (Dv : Stab), s = (best, set) ∧ D0.le Dv ∧ Frm 34 [] [(0, .slice p l.length c), (1, .int .i64 hours), (2, .int .i64 all), (6, .int .i64 0), (7, .int .i64 best), (8, .int .i64 set)] a ∧ St w0 D0 Dv [] w) (100, 0) h ⟨100, 0, D0, rfl, Stab.le.refl _, hF.weak ⟨rfl, rfl, rfl, rfl, rfl, rfl, trivial⟩, hS.weak trivial⟩ ?_
 rintro s a w xo ⟨best, set, Dv, rfl, hlev, hF, hS⟩ h hxo
 unfold remontoirref08_fewest_b1 at h
 dsimp only at h
 replace hs := hs.mono hlev
 refine seq ?_
 refine seq ?_
 refine region ?_
 refine step hF (Y.move hF rfl) rfl fun a hF => ?_
 refine step hF (Y.move hF rfl) rfl fun a hF => ?_
 refine step hF (Y.lenSl u_39 hF rfl) rfl fun a hF => ?_
 refine step hF (Y.lss hF rfl rfl) rfl fun a hF => ?_
 refine nil (then_n ?_)
 refine cond_b hF rfl (fun hbv => ?_) (fun hbv => ?_)
 ·replace h := cond_t h hbv
  refine skip_ (then_n ?_)
  refine seq ?_
  refine block ?_
  refine seq ?_
  refine region ?_
  refine step hF (Y.move hF rfl) rfl fun a hF => ?_
  refine step hF (Y.move hF rfl) rfl fun a hF => ?_
  refine step hF (Y.and hF rfl rfl) rfl fun a hF => ?_
  refine step hF (Y.move hF rfl) rfl fun a hF => ?_
  refine step hF (Y.eql hF rfl rfl) rfl fun a hF => ?_
  refine step hF (Y.move hF rfl) rfl fun a hF => ?_
  obtain ⟨t, ht, h⟩ := bind_some h
  refine join (N := 34) (rs := []) (w0 := w0) (D0 := D0) 7 (us := [(0, .slice p l.length c), (1, .int .i64 hours), (2, .int .i64 all), (6, .int .i64 0), (7, .int .i64 best), (8, .int .i64 set), (27, .bool t)]) (ms := []) (D' := Dv) ?_ ?_
  ·rcases bcases ((bitsOp .and set all) == set) with hbv_1 | hbv_1
   ·-- true
    replace h := cond_t ht hbv_1
    refine guard_on hF rfl rfl hbv_1 ?_
    refine step hF (Y.move hF rfl) rfl fun a hF => ?_
    refine guard_on hF rfl rfl hbv_1 ?_
    refine step hF (Y.move hF rfl) rfl fun a hF => ?_
    obtain ⟨e, hx, h⟩ := bind_some h
    obtain ⟨b, o, hE, hY⟩ := Y.indexS (P := Tryd.prog) (C := C_int) (xs := l) (T := 39) (x := (.tmp 21)) (y := (.tmp 22)) u_39 sz_3 hF rfl rfl (hs).1 hx
    obtain ⟨cc, hc, hcell⟩ := hE.open
    obtain rfl := hc
    refine guard_on hF rfl rfl hbv_1 ?_
    refine step hF (hY) rfl fun a hF => ?_
    refine guard_on hF rfl rfl hbv_1 ?_
    refine step hF (Y.load1 sz_3 hF rfl (hcell _ hS.stab 0 _ rfl)) rfl fun a hF => ?_
    refine guard_on hF rfl rfl hbv_1 ?_
    refine step hF (Y.move hF rfl) rfl fun a hF => ?_
    refine guard_on hF rfl rfl hbv_1 ?_
    refine step hF (Y.geq hF rfl rfl) rfl fun a hF => ?_
    refine step hF (Y.pick_t hF rfl hbv_1 rfl) rfl fun a hF => ?_
    obtain rfl := some_inj h
    exact nil (then_n ⟨hF.weak ⟨rfl, rfl, rfl, rfl, rfl, rfl, rfl, trivial⟩, hS.weak trivial⟩)
   ·-- false
    replace h := cond_f ht hbv_1
    refine guard_off hF rfl rfl hbv_1 rfl fun a hF => ?_
    refine guard_off hF rfl rfl hbv_1 rfl fun a hF => ?_
    refine guard_off hF rfl rfl hbv_1 rfl fun a hF => ?_
    refine guard_off hF rfl rfl hbv_1 rfl fun a hF => ?_
    refine guard_off hF rfl rfl hbv_1 rfl fun a hF => ?_
    refine guard_off hF rfl rfl hbv_1 rfl fun a hF => ?_
    refine step hF (Y.pick_f hF rfl hbv_1 rfl) rfl fun a hF => ?_
    obtain rfl := some_inj h
    exact nil (then_n ⟨hF.weak ⟨rfl, rfl, rfl, rfl, rfl, rfl, rfl, trivial⟩, hS.weak trivial⟩)
  intro a w hF hS
  refine nil (then_n ?_)
  refine cond_b hF rfl (fun hbv_2 => ?_) (fun hbv_2 => ?_)
  ·replace h := cond_t h hbv_2
   refine region ?_
   refine step hF (Y.move hF rfl) rfl fun a hF => ?_
   refine step hF (Y.move hF rfl) rfl fun a hF => ?_
   obtain ⟨rv, hx_1, h⟩ := bind_some h
   refine O.callS (us := [.int .i64 set, .int .i64 8]) ca_65 hF hS (remontoirref00_List_ok hS.stab set 8 rv hx_1) rfl rfl fun v Dv_1 a w hR hlev_1 hF hS => ?_
   replace hs := hs.mono hlev_1
   obtain ⟨p_1, c_1, rfl, hs_1⟩ := hR
   refine step hF (Y.lenSl u_39 hF rfl) rfl fun a hF => ?_
   refine step hF (Y.min2 hF rfl rfl) rfl fun a hF => ?_
   refine step hF (Y.assign hF rfl) rfl fun a hF => ?_
   refine nil (blk_n (then_n ?_))
   refine region ?_
   refine step hF (Y.move hF rfl) rfl fun a hF => ?_
   refine step hF (Y.add hF rfl rfl) rfl fun a hF => ?_
   refine step hF (Y.assign hF rfl) rfl fun a hF => ?_
   refine nil (then_n ?_)
   exact ⟨_, nxt_some h, (if (rv.length : Int) < best then (rv.length : Int) else best), (wr (set + 1)), Dv_1, rfl, hlev.trans hlev_1, hF.weak ⟨rfl, rfl, rfl, rfl, rfl, rfl, trivial⟩, hS.weak trivial⟩
  ·replace h := cond_f h hbv_2
   refine skip_ (blk_n (then_n ?_))
   refine region ?_
   refine step hF (Y.move hF rfl) rfl fun a hF => ?_
   refine step hF (Y.add hF rfl rfl) rfl fun a hF => ?_
   refine step hF (Y.assign hF rfl) rfl fun a hF => ?_
   refine nil (then_n ?_)
   exact ⟨_, nxt_some h, best, (wr (set + 1)), Dv, rfl, hlev, hF.weak ⟨rfl, rfl, rfl, rfl, rfl, rfl, trivial⟩, hS.weak trivial⟩
 ·replace h := cond_f h hbv
  refine exit_ (then_x (then_x (blk_hit (then_n ?_))))
  replace h := ext_some h hxo
  refine seq ?_
  refine region ?_
  refine step hF (Y.move hF rfl) rfl fun a hF => ?_
  refine step hF (Y.assign hF rfl) rfl fun a hF => ?_
  refine nil (then_n ?_)
  refine ret_ ?_
  obtain rfl := some_inj h
  exact leaveP Tryd.results59 hF hS (.cons (.tmp rfl) .nil) .nil rfl

noncomputable def remontoirref08_Fewest (sv : SpareStore) : Option (Int × Int) :=
  (remontoirref08_Check sv).bind fun rv =>
  cond (rv != 0)
  (some (0, rv))
  ((remontoirref08_told sv).bind fun rv_1 =>
  (remontoirref08_fewest rv_1 sv.Hours 255).bind fun rv_2 =>
  cond (rv_2 == 100)
  (some (0, 4))
  (some (rv_2, 0)))
theorem remontoirref08_Fewest_ok {w0 : World} {D0 : Stab} (hD : D0.on w0) (sv : SpareStore) {p : Option Addr} {c : Nat} (hs : SRc C_SpareMachine D0 sv.Machines p c) (out : (Int × Int)) (h : remontoirref08_Fewest sv = some out) : Calls Tryd.prog 23 [.agg #[.int .i64 sv.Hours, .int .i64 sv.Gap, .slice p sv.Machines.length c]].toArray w0 (RetP D0 w0 (.tuple #[.int .i64 out.1, .int .i64 out.2])) := by
 refine enter _ 19 Tryd.func23 rfl Tryd.ntmps23 rfl fun a hF => ?_
 replace hF : Frm 19 [] [(0, .agg #[.int .i64 sv.Hours, .int .i64 sv.Gap, .slice p sv.Machines.length c])] a := hF
 have hS := St.start hD
 unfold remontoirref08_Fewest at h
 refine seq ?_
 refine region ?_
 refine O.box (cs := [.int .i64 sv.Hours, .int .i64 sv.Gap, .slice p sv.Machines.length c]) 1 hF rfl rfl hS rfl fun b a w hF hS => ?_
 refine step hF (Y.assign hF rfl) rfl fun a hF => ?_
 refine step hF (Y.assign hF rfl) rfl fun a hF => ?_
 refine nil (then_n ?_)
 refine seq ?_
 refine seq ?_
 refine region ?_
 refine step hF (Y.loadNL 1 sz_24 hF rfl hS rfl rfl rfl) rfl fun a hF => ?_
 obtain ⟨rv, hx, h⟩ := bind_some h
 refine O.callP (us := [.agg #[.int .i64 sv.Hours, .int .i64 sv.Gap, .slice p sv.Machines.length c]]) ca_18 hF hS (remontoirref08_Check_ok hS.stab sv hs rv hx) rfl rfl fun a w hF hS => ?_
 refine step hF (Y.assign hF rfl) rfl fun a hF => ?_
 refine nil (then_n ?_)
 refine seq ?_
 refine region ?_
 refine step hF (Y.move hF rfl) rfl fun a hF => ?_
 refine step hF (Y.neq hF rfl rfl) rfl fun a hF => ?_
 refine nil (then_n ?_)
 refine cond_b hF rfl (fun hbv => ?_) (fun hbv => ?_)
 ·replace h := cond_t h hbv
  refine seq ?_
  refine region ?_
  refine step hF (Y.move hF rfl) rfl fun a hF => ?_
  refine step hF (Y.assign hF rfl) rfl fun a hF => ?_
  refine step hF (Y.assign hF rfl) rfl fun a hF => ?_
  refine nil (then_n ?_)
  refine ret_ (then_r ?_)
  obtain rfl := some_inj h
  exact leaveP Tryd.results23 hF hS (.cons (.tmp rfl) (.cons (.tmp rfl) .nil)) .nil rfl
 ·replace h := cond_f h hbv
  refine skip_ (then_n ?_)
  refine seq ?_
  obtain ⟨rv_1, hx_1, h⟩ := bind_some h
  refine drawsV 4 (.flt 0 (.flt 2 (.flt 3 (.alt 1 .done .stop)))) mixed_ (by kernel_rfl) (fun w => St w0 D0 D0 [(1, .cells b [.int .i64 sv.Hours, .int .i64 sv.Gap, .slice p sv.Machines.length c] 24)] w) (fun a w => ∃ (Dv_1 : Stab) (p_1 : Option Addr) (c_1 : Nat), D0.le Dv_1 ∧ Frm 19 [] [(2, .int .i64 0), (3, .int .i64 0), (12, .slice p_1 rv_1.length c_1), (14, .int .i64 sv.Hours)] a ∧ St w0 D0 Dv_1 [(1, .cells b [.int .i64 sv.Hours, .int .i64 sv.Gap, .slice p sv.Machines.length c] 24)] w ∧ SRc C_int Dv_1 rv_1 p_1 c_1) (hS.weak (ms := [(1, .cells b [.int .i64 sv.Hours, .int .i64 sv.Gap, .slice p sv.Machines.length c] 24)]) ⟨rfl, trivial⟩).drew (fun _ _ _ _ h => h) ?_ ?_
  ·replace hS := hS.drew
   have hle0 := hS.le
   refine stepV (i := 0) rfl hF (fun w hS => Y.loadNL 1 sz_24 hF rfl hS rfl rfl rfl) rfl fun a hF => ?_
   refine stepV (i := 2) rfl hF (fun w hS => Y.fieldAddr fo_24_0 hF rfl) rfl fun a hF => ?_
   refine stepV (i := 3) rfl hF (fun w hS => Y.load1L 1 sz_3 hF rfl hS rfl rfl) rfl fun a hF => ?_
   refine oneV (i := 1) rfl ?_ trivial
   refine O.callS (us := [.agg #[.int .i64 sv.Hours, .int .i64 sv.Gap, .slice p sv.Machines.length c]]) ca_60 hF hS (remontoirref08_told_ok hS.stab sv hs rv_1 hx_1) rfl rfl fun v_1 Dv_2 a w hR_1 hlev_1 hF hS => ?_
   replace hs := hs.mono hlev_1
   obtain ⟨p_2, c_2, rfl, hs_2⟩ := hR_1
   refine nil (then_n ⟨(hS.weak (ms := [(1, .cells b [.int .i64 sv.Hours, .int .i64 sv.Gap, .slice p sv.Machines.length c] 24)]) ⟨rfl, trivial⟩).weakD hlev_1 hle0, ?_⟩)
   exact toTailV ⟨Dv_2, p_2, c_2, hlev_1, hF.weak ⟨rfl, rfl, rfl, rfl, trivial⟩, hS.weak ⟨rfl, trivial⟩, hs_2⟩
  rintro a w ⟨Dv_1, p_1, c_1, hle, hF, hS, hj⟩
  have hlev_2 := hle
  replace hs := hs.mono hlev_2
  obtain ⟨rv_2, hx_2, h⟩ := bind_some h
  refine O.callP (us := [.slice p_1 rv_1.length c_1, .int .i64 sv.Hours, .int .i64 255]) ca_59 hF hS (remontoirref08_fewest_ok hS.stab rv_1 sv.Hours 255 hj rv_2 hx_2) rfl rfl fun a w hF hS => ?_
  refine step hF (Y.assign hF rfl) rfl fun a hF => ?_
  refine nil (then_n ?_)
  refine seq ?_
  refine seq ?_
  refine region ?_
  refine step hF (Y.move hF rfl) rfl fun a hF => ?_
  refine step hF (Y.eql hF rfl rfl) rfl fun a hF => ?_
  refine nil (then_n ?_)
  refine cond_b hF rfl (fun hbv_1 => ?_) (fun hbv_1 => ?_)
  ·replace h := cond_t h hbv_1
   refine seq ?_
   refine region ?_
   refine step hF (Y.assign hF rfl) rfl fun a hF => ?_
   refine step hF (Y.assign hF rfl) rfl fun a hF => ?_
   refine nil (then_n ?_)
   refine ret_ (then_r ?_)
   obtain rfl := some_inj h
   exact leaveP Tryd.results23 hF hS (.cons (.tmp rfl) (.cons (.tmp rfl) .nil)) .nil rfl
  ·replace h := cond_f h hbv_1
   refine skip_ (then_n ?_)
   refine seq ?_
   refine region ?_
   refine step hF (Y.move hF rfl) rfl fun a hF => ?_
   refine step hF (Y.assign hF rfl) rfl fun a hF => ?_
   refine step hF (Y.assign hF rfl) rfl fun a hF => ?_
   refine nil (then_n ?_)
   refine ret_ ?_
   obtain rfl := some_inj h
   exact leaveP Tryd.results23 hF hS (.cons (.tmp rfl) (.cons (.tmp rfl) .nil)) .nil rfl

noncomputable def remontoirref08_Reach_b1 (rv_1 : (List Int)) : (Int × Int) → Option ((Int × Int) ⊕ (Int × Int))
 | (best, set) =>
  cond (decide (set < (rv_1.length : Int)))
  ((idx rv_1 set).bind fun e =>
  nxt ((if e > best then e else best), wr (set + 1)))
  (ext (some (best, 0)))
noncomputable def remontoirref08_Reach (sv : SpareStore) : Option (Int × Int) :=
  (remontoirref08_Check sv).bind fun rv =>
  cond (rv != 0)
  (some (0, rv))
  ((remontoirref08_told sv).bind fun rv_1 =>
  loopU (remontoirref08_Reach_b1 rv_1) (0, 0))
theorem remontoirref08_Reach_ok {w0 : World} {D0 : Stab} (hD : D0.on w0) (sv : SpareStore) {p : Option Addr} {c : Nat} (hs : SRc C_SpareMachine D0 sv.Machines p c) (out : (Int × Int)) (h : remontoirref08_Reach sv = some out) : Calls Tryd.prog 26 [.agg #[.int .i64 sv.Hours, .int .i64 sv.Gap, .slice p sv.Machines.length c]].toArray w0 (RetP D0 w0 (.tuple #[.int .i64 out.1, .int .i64 out.2])) := by
 refine enter _ 28 Tryd.func26 rfl Tryd.ntmps26 rfl fun a hF => ?_
 replace hF : Frm 28 [] [(0, .agg #[.int .i64 sv.Hours, .int .i64 sv.Gap, .slice p sv.Machines.length c])] a := hF
 have hS := St.start hD
 unfold remontoirref08_Reach at h
 refine seq ?_
 refine region ?_
 refine O.box (cs := [.int .i64 sv.Hours, .int .i64 sv.Gap, .slice p sv.Machines.length c]) 1 hF rfl rfl hS rfl fun b a w hF hS => ?_
 refine step hF (Y.assign hF rfl) rfl fun a hF => ?_
 refine step hF (Y.assign hF rfl) rfl fun a hF => ?_
 refine nil (then_n ?_)
 refine seq ?_
 refine seq ?_
 refine region ?_
 refine step hF (Y.loadNL 1 sz_24 hF rfl hS rfl rfl rfl) rfl fun a hF => ?_
 obtain ⟨rv, hx, h⟩ := bind_some h
 refine O.callP (us := [.agg #[.int .i64 sv.Hours, .int .i64 sv.Gap, .slice p sv.Machines.length c]]) ca_18 hF hS (remontoirref08_Check_ok hS.stab sv hs rv hx) rfl rfl fun a w hF hS => ?_
 refine step hF (Y.assign hF rfl) rfl fun a hF => ?_
 refine nil (then_n ?_)
 refine seq ?_
 refine region ?_
 refine step hF (Y.move hF rfl) rfl fun a hF => ?_
 refine step hF (Y.neq hF rfl rfl) rfl fun a hF => ?_
 refine nil (then_n ?_)
 refine cond_b hF rfl (fun hbv => ?_) (fun hbv => ?_)
 ·replace h := cond_t h hbv
  refine seq ?_
  refine region ?_
  refine step hF (Y.move hF rfl) rfl fun a hF => ?_
  refine step hF (Y.assign hF rfl) rfl fun a hF => ?_
  refine step hF (Y.assign hF rfl) rfl fun a hF => ?_
  refine nil (then_n ?_)
  refine ret_ (then_r ?_)
  obtain rfl := some_inj h
  exact leaveP Tryd.results26 hF hS (.cons (.tmp rfl) (.cons (.tmp rfl) .nil)) .nil rfl
 ·replace h := cond_f h hbv
  refine skip_ (then_n ?_)
  refine seq ?_
  refine region ?_
  refine step hF (Y.loadNL 1 sz_24 hF rfl hS rfl rfl rfl) rfl fun a hF => ?_
  obtain ⟨rv_1, hx_1, h⟩ := bind_some h
  refine O.callS (us := [.agg #[.int .i64 sv.Hours, .int .i64 sv.Gap, .slice p sv.Machines.length c]]) ca_60 hF hS (remontoirref08_told_ok hS.stab sv hs rv_1 hx_1) rfl rfl fun v Dv a w hR hlev hF hS => ?_
  replace hs := hs.mono hlev
  obtain ⟨p_1, c_1, rfl, hs_1⟩ := hR
  refine step hF (Y.assign hF rfl) rfl fun a hF => ?_
  refine nil (then_n ?_)
  refine seq ?_
  refine region ?_
  refine step hF (Y.assign hF rfl) rfl fun a hF => ?_
  refine nil (then_n ?_)
  refine seq ?_
  refine seq ?_
  refine region ?_
  refine step hF (Y.assign hF rfl) rfl fun a hF => ?_
  refine nil (then_n ?_)
  refine block ?_
  refine loop_cut (body := remontoirref08_Reach_b1 rv_1) (out := out) (fun s a w => ∃ (best : Int) (set : Int), s = (best, set) ∧ Frm 28 [] [(2, .int .i64 0), (3, .int .i64 0), (5, .slice p_1 rv_1.length c_1), (6, .int .i64 best), (7, .int .i64 set)] a ∧ St w0 D0 Dv [(1, .cells b [.int .i64 sv.Hours, .int .i64 sv.Gap, .slice p sv.Machines.length c] 24)] w) (0, 0) h ⟨0, 0, rfl, hF.weak ⟨rfl, rfl, rfl, rfl, rfl, trivial⟩, hS.weak ⟨rfl, trivial⟩⟩ ?_
  rintro s a w xo ⟨best, set, rfl, hF, hS⟩ h hxo
  unfold remontoirref08_Reach_b1 at h
  dsimp only at h
  refine seq ?_
  refine seq ?_
  refine region ?_
  refine step hF (Y.move hF rfl) rfl fun a hF => ?_
  refine step hF (Y.move hF rfl) rfl fun a hF => ?_
  refine step hF (Y.lenSl u_39 hF rfl) rfl fun a hF => ?_
  refine step hF (Y.lss hF rfl rfl) rfl fun a hF => ?_
  refine nil (then_n ?_)
  refine cond_b hF rfl (fun hbv_1 => ?_) (fun hbv_1 => ?_)
  ·replace h := cond_t h hbv_1
   refine skip_ (then_n ?_)
   refine seq ?_
   refine block ?_
   refine region ?_
   refine step hF (Y.move hF rfl) rfl fun a hF => ?_
   refine step hF (Y.move hF rfl) rfl fun a hF => ?_
   refine step hF (Y.move hF rfl) rfl fun a hF => ?_
   obtain ⟨e, hx_2, h⟩ := bind_some h
   obtain ⟨b_1, o, hE, hY⟩ := Y.indexS (P := Tryd.prog) (C := C_int) (xs := rv_1) (T := 39) (x := (.tmp 22)) (y := (.tmp 23)) u_39 sz_3 hF rfl rfl (hs_1).1 hx_2
   obtain ⟨cc, hc, hcell⟩ := hE.open
   obtain rfl := hc
   refine step hF (hY) rfl fun a hF => ?_
   refine step hF (Y.load1 sz_3 hF rfl (hcell _ hS.stab 0 _ rfl)) rfl fun a hF => ?_
   refine step hF (Y.max2 hF rfl rfl) rfl fun a hF => ?_
   refine step hF (Y.assign hF rfl) rfl fun a hF => ?_
   refine nil (blk_n (then_n ?_))
   refine region ?_
   refine step hF (Y.move hF rfl) rfl fun a hF => ?_
   refine step hF (Y.add hF rfl rfl) rfl fun a hF => ?_
   refine step hF (Y.assign hF rfl) rfl fun a hF => ?_
   refine nil (then_n ?_)
   exact ⟨_, nxt_some h, (if e > best then e else best), (wr (set + 1)), rfl, hF.weak ⟨rfl, rfl, rfl, rfl, rfl, trivial⟩, hS.weak ⟨rfl, trivial⟩⟩
  ·replace h := cond_f h hbv_1
   refine exit_ (then_x (then_x (blk_hit (then_n ?_))))
   replace h := ext_some h hxo
   refine seq ?_
   refine region ?_
   refine step hF (Y.move hF rfl) rfl fun a hF => ?_
   refine step hF (Y.assign hF rfl) rfl fun a hF => ?_
   refine step hF (Y.assign hF rfl) rfl fun a hF => ?_
   refine nil (then_n ?_)
   refine ret_ ?_
   obtain rfl := some_inj h
   exact leaveP Tryd.results26 hF hS (.cons (.tmp rfl) (.cons (.tmp rfl) .nil)) .nil rfl

noncomputable def remontoirref08_Need_b1 (sv : SpareStore) (rv_1 : (List Int)) : ((List Int) × Int) → Option (((List Int) × Int) ⊕ ((List Int) × Int))
 | (outv, k) =>
  cond (decide (k < (sv.Machines.length : Int)))
  (if ¬ k < 0 then
  (remontoirref08_fewest rv_1 sv.Hours (wr (255 - (gshl 1 k)))).bind fun rv_2 =>
  cond (rv_2 == 100)
  (if outv.length + ([k]).length ≤ lim then
  nxt ((outv ++ [k]), wr (k + 1))
  else none)
  (nxt (outv, wr (k + 1)))
  else none)
  (ext (some (outv, 0)))
noncomputable def remontoirref08_Need (sv : SpareStore) : Option ((List Int) × Int) :=
  (remontoirref08_Fewest sv).bind fun rv =>
  cond (rv.2 != 0)
  (some (([] : List Int), rv.2))
  ((remontoirref08_told sv).bind fun rv_1 =>
  loopU (remontoirref08_Need_b1 sv rv_1) (([] : List Int), 0))
theorem remontoirref08_Need_ok {w0 : World} {D0 : Stab} (hD : D0.on w0) (sv : SpareStore) {p : Option Addr} {c : Nat} (hs : SRc C_SpareMachine D0 sv.Machines p c) (out : ((List Int) × Int)) (h : remontoirref08_Need sv = some out) : Calls Tryd.prog 28 [.agg #[.int .i64 sv.Hours, .int .i64 sv.Gap, .slice p sv.Machines.length c]].toArray w0 (RetS D0 w0 fun D v => ∃ p_5 c_5, v = .tuple #[.slice p_5 out.1.length c_5, .int .i64 out.2] ∧ SRc C_int D out.1 p_5 c_5) := by
 refine enter _ 39 Tryd.func28 rfl Tryd.ntmps28 rfl fun a hF => ?_
 replace hF : Frm 39 [] [(0, .agg #[.int .i64 sv.Hours, .int .i64 sv.Gap, .slice p sv.Machines.length c])] a := hF
 have hS := St.start hD
 unfold remontoirref08_Need at h
 refine seq ?_
 refine region ?_
 refine O.box (cs := [.int .i64 sv.Hours, .int .i64 sv.Gap, .slice p sv.Machines.length c]) 1 hF rfl rfl hS rfl fun b a w hF hS => ?_
 refine step hF (Y.assign hF rfl) rfl fun a hF => ?_
 refine step hF (Y.assign hF rfl) rfl fun a hF => ?_
 refine nil (then_n ?_)
 refine seq ?_
 refine seq ?_
 refine region ?_
 refine step hF (Y.loadNL 1 sz_24 hF rfl hS rfl rfl rfl) rfl fun a hF => ?_
 obtain ⟨rv, hx, h⟩ := bind_some h
 refine O.callP (us := [.agg #[.int .i64 sv.Hours, .int .i64 sv.Gap, .slice p sv.Machines.length c]]) ca_23 hF hS (remontoirref08_Fewest_ok hS.stab sv hs rv hx) rfl rfl fun a w hF hS => ?_
 refine step hF (Y.move hF rfl) rfl fun a hF => ?_
 refine step hF (Y.extract hF rfl rfl) rfl fun a hF => ?_
 refine step hF (Y.extract hF rfl rfl) rfl fun a hF => ?_
 refine step hF (Y.assign hF rfl) rfl fun a hF => ?_
 refine step hF (Y.assign hF rfl) rfl fun a hF => ?_
 refine nil (then_n ?_)
 refine seq ?_
 refine region ?_
 refine step hF (Y.move hF rfl) rfl fun a hF => ?_
 refine step hF (Y.neq hF rfl rfl) rfl fun a hF => ?_
 refine nil (then_n ?_)
 refine cond_b hF rfl (fun hbv => ?_) (fun hbv => ?_)
 ·replace h := cond_t h hbv
  refine seq ?_
  refine region ?_
  refine step hF (Y.move hF rfl) rfl fun a hF => ?_
  refine step hF (Y.assign hF rfl) rfl fun a hF => ?_
  refine step hF (Y.assign hF rfl) rfl fun a hF => ?_
  refine nil (then_n ?_)
  refine ret_ (then_r ?_)
  obtain rfl := some_inj h
  exact leaveS Tryd.results28 hF hS (.cons (.tmp rfl) (.cons (.tmp rfl) .nil)) .nil ⟨_, _, rfl, SRc.nil⟩
 ·replace h := cond_f h hbv
  refine skip_ (then_n ?_)
  refine seq ?_
  refine region ?_
  refine step hF (Y.loadNL 1 sz_24 hF rfl hS rfl rfl rfl) rfl fun a hF => ?_
  obtain ⟨rv_1, hx_1, h⟩ := bind_some h
  refine O.callS (us := [.agg #[.int .i64 sv.Hours, .int .i64 sv.Gap, .slice p sv.Machines.length c]]) ca_60 hF hS (remontoirref08_told_ok hS.stab sv hs rv_1 hx_1) rfl rfl fun v Dv a w hR hlev hF hS => ?_
  replace hs := hs.mono hlev
  obtain ⟨p_1, c_1, rfl, hs_1⟩ := hR
  refine step hF (Y.assign hF rfl) rfl fun a hF => ?_
  refine nil (then_n ?_)
  refine seq ?_
  refine region ?_
  refine step hF (Y.assign hF rfl) rfl fun a hF => ?_
  replace hS := hS.ownNil 2 3 1
  refine nil (then_n ?_)
  refine seq ?_
  refine seq ?_
  refine region ?_
  refine step hF (Y.assign hF rfl) rfl fun a hF => ?_
  refine nil (then_n ?_)
  refine block ?_
  refine loop_cut (body := remontoirref08_Need_b1 sv rv_1) (out := out) (fun s a w => ∃ (outv : (List Int)) (k : Int), ∃ (Dv_1 : Stab), ∃ p_2 c_2 cs, s = (outv, k) ∧ Dv.le Dv_1 ∧ Frm 39 [] [(1, .pointer (some ⟨b, 0, none⟩)), (2, .slice none 0 0), (3, .int .i64 0), (6, .slice p_1 rv_1.length c_1), (7, .slice p_2 outv.length c_2), (8, .int .i64 k)] a ∧ St w0 D0 Dv_1 [(1, .cells b [.int .i64 sv.Hours, .int .i64 sv.Gap, .slice p sv.Machines.length c] 24), (2, .own p_2 outv.length c_2 cs 3 1)] w ∧ Reps C_int Dv_1 outv cs) (([] : List Int), 0) h ⟨([] : List Int), 0, Dv, none, 0, ([]), rfl, Stab.le.refl _, hF.weak ⟨rfl, rfl, rfl, rfl, rfl, rfl, trivial⟩, hS.weak ⟨rfl, rfl, trivial⟩, Reps.nil⟩ ?_
  rintro s a w xo ⟨outv, k, Dv_1, p_2, c_2, cs, rfl, hlev_1, hF, hS, hr⟩ h hxo
  unfold remontoirref08_Need_b1 at h
  dsimp only at h
  replace hs := hs.mono hlev_1
  replace hs_1 := hs_1.mono hlev_1
  refine seq ?_
  refine seq ?_
  refine region ?_
  refine step hF (Y.move hF rfl) rfl fun a hF => ?_
  refine step hF (Y.fieldAddr fo_24_2 hF rfl) rfl fun a hF => ?_
  refine step hF (Y.load1L 1 sz_22 hF rfl hS rfl rfl) rfl fun a hF => ?_
  refine step hF (Y.lenSl u_22 hF rfl) rfl fun a hF => ?_
  refine step hF (Y.lss hF rfl rfl) rfl fun a hF => ?_
  refine nil (then_n ?_)
  refine cond_b hF rfl (fun hbv_1 => ?_) (fun hbv_1 => ?_)
  ·replace h := cond_t h hbv_1
   refine skip_ (then_n ?_)
   refine seq ?_
   refine block ?_
   refine seq ?_
   obtain ⟨hg, h⟩ := ite_some h
   refine drawsV 6 (.flt 0 (.flt 1 (.flt 2 (.flt 3 (.flt 4 (.flt 5 .done)))))) mixed_ (by kernel_rfl) (fun w => St w0 D0 Dv_1 [(1, .cells b [.int .i64 sv.Hours, .int .i64 sv.Gap, .slice p sv.Machines.length c] 24), (2, .own p_2 outv.length c_2 cs 3 1)] w) (fun a w => Frm 39 [] [(1, .pointer (some ⟨b, 0, none⟩)), (2, .slice none 0 0), (3, .int .i64 0), (6, .slice p_1 rv_1.length c_1), (7, .slice p_2 outv.length c_2), (8, .int .i64 k), (26, .slice p_1 rv_1.length c_1), (28, .int .i64 sv.Hours), (31, .int .i64 (wr (255 - (gshl 1 k))))] a ∧ St w0 D0 Dv_1 [(1, .cells b [.int .i64 sv.Hours, .int .i64 sv.Gap, .slice p sv.Machines.length c] 24), (2, .own p_2 outv.length c_2 cs 3 1)] w) (hS.weak (ms := [(1, .cells b [.int .i64 sv.Hours, .int .i64 sv.Gap, .slice p sv.Machines.length c] 24), (2, .own p_2 outv.length c_2 cs 3 1)]) ⟨rfl, rfl, trivial⟩).drew (fun _ _ _ _ h => h) ?_ ?_
   ·replace hS := hS.drew
    have hle0 := hS.le
    refine stepV (i := 0) rfl hF (fun w hS => Y.move hF rfl) rfl fun a hF => ?_
    refine stepV (i := 1) rfl hF (fun w hS => Y.fieldAddr fo_24_0 hF rfl) rfl fun a hF => ?_
    refine stepV (i := 2) rfl hF (fun w hS => Y.load1L 1 sz_3 hF rfl hS rfl rfl) rfl fun a hF => ?_
    refine stepV (i := 3) rfl hF (fun w hS => Y.move hF rfl) rfl fun a hF => ?_
    refine stepV (i := 4) rfl hF (fun w hS => Y.shl hF rfl rfl hg) rfl fun a hF => ?_
    refine stepV (i := 5) rfl hF (fun w hS => Y.sub hF rfl rfl) rfl fun a hF => ?_
    exact toTailV ⟨hF.weak ⟨rfl, rfl, rfl, rfl, rfl, rfl, rfl, rfl, rfl, trivial⟩, hS.weak ⟨rfl, rfl, trivial⟩⟩
   rintro a w ⟨hF, hS⟩
   obtain ⟨rv_2, hx_2, h⟩ := bind_some h
   refine O.callP (us := [.slice p_1 rv_1.length c_1, .int .i64 sv.Hours, .int .i64 (wr (255 - (gshl 1 k)))]) ca_59 hF hS (remontoirref08_fewest_ok hS.stab rv_1 sv.Hours (wr (255 - (gshl 1 k))) hs_1 rv_2 hx_2) rfl rfl fun a w hF hS => ?_
   refine step hF (Y.eql hF rfl rfl) rfl fun a hF => ?_
   refine nil (then_n ?_)
   refine cond_b hF rfl (fun hbv_2 => ?_) (fun hbv_2 => ?_)
   ·replace h := cond_t h hbv_2
    refine region ?_
    refine step hF (Y.move hF rfl) rfl fun a hF => ?_
    refine step hF (Y.move hF rfl) rfl fun a hF => ?_
    have hr_1 : Reps C_int Dv_1 [k] [.int .i64 k] := Reps.cons (C := C_int) (x := k) (c := [.int .i64 k]) (r := []) rfl (Reps.nil)
    refine O.buildSlice (E := 3) (C := C_int) (xs := [k]) (cs := [.int .i64 k]) (us := [.int .i64 k]) (parts := [(0, (.tmp 35))]) 3 hF hS rfl (by kernel_rfl) hr_1 rfl rfl rfl fun p_3 c_3 a w hF hS => ?_
    obtain ⟨hg_1, h⟩ := ite_some h
    refine O.append (C := C_int) (xs := outv) (ys := [k]) 2 gr_39 hF rfl rfl hS rfl (src_own (i := 3) hS rfl) hr hr_1 hg_1 rfl fun p_4 c_4 a w hF hS hr_2 => ?_
    refine step hF (Y.assign hF rfl) rfl fun a hF => ?_
    refine nil (blk_n (then_n ?_))
    refine region ?_
    refine step hF (Y.move hF rfl) rfl fun a hF => ?_
    refine step hF (Y.add hF rfl rfl) rfl fun a hF => ?_
    refine step hF (Y.assign hF rfl) rfl fun a hF => ?_
    refine nil (then_n ?_)
    exact ⟨_, nxt_some h, (outv ++ [k]), (wr (k + 1)), Dv_1, p_4, c_4, (cs ++ [.int .i64 k]), rfl, hlev_1, hF.weak ⟨rfl, rfl, rfl, rfl, rfl, rfl, trivial⟩, hS.weak ⟨rfl, rfl, trivial⟩, hr_2⟩
   ·replace h := cond_f h hbv_2
    refine skip_ (blk_n (then_n ?_))
    refine region ?_
    refine step hF (Y.move hF rfl) rfl fun a hF => ?_
    refine step hF (Y.add hF rfl rfl) rfl fun a hF => ?_
    refine step hF (Y.assign hF rfl) rfl fun a hF => ?_
    refine nil (then_n ?_)
    exact ⟨_, nxt_some h, outv, (wr (k + 1)), Dv_1, p_2, c_2, cs, rfl, hlev_1, hF.weak ⟨rfl, rfl, rfl, rfl, rfl, rfl, trivial⟩, hS.weak ⟨rfl, rfl, trivial⟩, hr⟩
  ·replace h := cond_f h hbv_1
   refine exit_ (then_x (then_x (blk_hit (then_n ?_))))
   replace h := ext_some h hxo
   refine seq ?_
   refine region ?_
   refine step hF (Y.move hF rfl) rfl fun a hF => ?_
   refine step hF (Y.assign hF rfl) rfl fun a hF => ?_
   refine step hF (Y.assign hF rfl) rfl fun a hF => ?_
   refine nil (then_n ?_)
   refine ret_ ?_
   obtain ⟨Dv_2, hlev_2, hs_2, hS⟩ := hS.freezeC (i := 2) (xs := outv) rfl hr
   replace hs := hs.mono hlev_2
   replace hs_1 := hs_1.mono hlev_2
   replace hr := hr.mono hlev_2
   obtain rfl := some_inj h
   exact leaveS Tryd.results28 hF hS (.cons (.tmp rfl) (.cons (.tmp rfl) .nil)) .nil ⟨_, _, rfl, hs_2⟩

noncomputable def remontoirref08_Pair_b1 (sv : SpareStore) (rv_1 : (List Int)) : (Int × Int) → Option ((Int × Int) ⊕ (Int × Int))
 | (best, set) =>
  cond (decide (set < (rv_1.length : Int)))
  ((idx rv_1 set).bind fun e =>
  cond (decide (e ≥ sv.Hours))
  ((remontoirref00_List set 8).bind fun rv_2 =>
  (remontoirref08_fewest rv_1 sv.Hours (wr (255 - set))).bind fun rv_3 =>
  nxt ((if wr ((rv_2.length : Int) + rv_3) < best then wr ((rv_2.length : Int) + rv_3) else best), wr (set + 1)))
  (nxt (best, wr (set + 1))))
  (ext (cond (decide (best ≥ 100))
  (some (0, 4))
  (some (best, 0))))
noncomputable def remontoirref08_Pair (sv : SpareStore) : Option (Int × Int) :=
  (remontoirref08_Check sv).bind fun rv =>
  cond (rv != 0)
  (some (0, rv))
  ((remontoirref08_told sv).bind fun rv_1 =>
  loopU (remontoirref08_Pair_b1 sv rv_1) (100, 0))
theorem remontoirref08_Pair_ok {w0 : World} {D0 : Stab} (hD : D0.on w0) (sv : SpareStore) {p : Option Addr} {c : Nat} (hs : SRc C_SpareMachine D0 sv.Machines p c) (out : (Int × Int)) (h : remontoirref08_Pair sv = some out) : Calls Tryd.prog 31 [.agg #[.int .i64 sv.Hours, .int .i64 sv.Gap, .slice p sv.Machines.length c]].toArray w0 (RetP D0 w0 (.tuple #[.int .i64 out.1, .int .i64 out.2])) := by
 refine enter _ 43 Tryd.func31 rfl Tryd.ntmps31 rfl fun a hF => ?_
 replace hF : Frm 43 [] [(0, .agg #[.int .i64 sv.Hours, .int .i64 sv.Gap, .slice p sv.Machines.length c])] a := hF
 have hS := St.start hD
 unfold remontoirref08_Pair at h
 refine seq ?_
 refine region ?_
 refine O.box (cs := [.int .i64 sv.Hours, .int .i64 sv.Gap, .slice p sv.Machines.length c]) 1 hF rfl rfl hS rfl fun b a w hF hS => ?_
 refine step hF (Y.assign hF rfl) rfl fun a hF => ?_
 refine step hF (Y.assign hF rfl) rfl fun a hF => ?_
 refine nil (then_n ?_)
 refine seq ?_
 refine seq ?_
 refine region ?_
 refine step hF (Y.loadNL 1 sz_24 hF rfl hS rfl rfl rfl) rfl fun a hF => ?_
 obtain ⟨rv, hx, h⟩ := bind_some h
 refine O.callP (us := [.agg #[.int .i64 sv.Hours, .int .i64 sv.Gap, .slice p sv.Machines.length c]]) ca_18 hF hS (remontoirref08_Check_ok hS.stab sv hs rv hx) rfl rfl fun a w hF hS => ?_
 refine step hF (Y.assign hF rfl) rfl fun a hF => ?_
 refine nil (then_n ?_)
 refine seq ?_
 refine region ?_
 refine step hF (Y.move hF rfl) rfl fun a hF => ?_
 refine step hF (Y.neq hF rfl rfl) rfl fun a hF => ?_
 refine nil (then_n ?_)
 refine cond_b hF rfl (fun hbv => ?_) (fun hbv => ?_)
 ·replace h := cond_t h hbv
  refine seq ?_
  refine region ?_
  refine step hF (Y.move hF rfl) rfl fun a hF => ?_
  refine step hF (Y.assign hF rfl) rfl fun a hF => ?_
  refine step hF (Y.assign hF rfl) rfl fun a hF => ?_
  refine nil (then_n ?_)
  refine ret_ (then_r ?_)
  obtain rfl := some_inj h
  exact leaveP Tryd.results31 hF hS (.cons (.tmp rfl) (.cons (.tmp rfl) .nil)) .nil rfl
 ·replace h := cond_f h hbv
  refine skip_ (then_n ?_)
  refine seq ?_
  refine region ?_
  refine step hF (Y.loadNL 1 sz_24 hF rfl hS rfl rfl rfl) rfl fun a hF => ?_
  obtain ⟨rv_1, hx_1, h⟩ := bind_some h
  refine O.callS (us := [.agg #[.int .i64 sv.Hours, .int .i64 sv.Gap, .slice p sv.Machines.length c]]) ca_60 hF hS (remontoirref08_told_ok hS.stab sv hs rv_1 hx_1) rfl rfl fun v Dv a w hR hlev hF hS => ?_
  replace hs := hs.mono hlev
  obtain ⟨p_1, c_1, rfl, hs_1⟩ := hR
  refine step hF (Y.assign hF rfl) rfl fun a hF => ?_
  refine nil (then_n ?_)
  refine seq ?_
  refine region ?_
  refine step hF (Y.assign hF rfl) rfl fun a hF => ?_
  refine nil (then_n ?_)
  refine seq ?_
  refine seq ?_
  refine region ?_
  refine step hF (Y.assign hF rfl) rfl fun a hF => ?_
  refine nil (then_n ?_)
  refine block ?_
  refine loop_cut (body := remontoirref08_Pair_b1 sv rv_1) (out := out) (fun s a w => ∃ (best : Int) (set : Int), ∃ (Dv_1 : Stab), s = (best, set) ∧ Dv.le Dv_1 ∧ Frm 43 [] [(1, .pointer (some ⟨b, 0, none⟩)), (2, .int .i64 0), (3, .int .i64 0), (5, .slice p_1 rv_1.length c_1), (6, .int .i64 best), (7, .int .i64 set)] a ∧ St w0 D0 Dv_1 [(1, .cells b [.int .i64 sv.Hours, .int .i64 sv.Gap, .slice p sv.Machines.length c] 24)] w) (100, 0) h ⟨100, 0, Dv, rfl, Stab.le.refl _, hF.weak ⟨rfl, rfl, rfl, rfl, rfl, rfl, trivial⟩, hS.weak ⟨rfl, trivial⟩⟩ ?_
  rintro s a w xo ⟨best, set, Dv_1, rfl, hlev_1, hF, hS⟩ h hxo
  unfold remontoirref08_Pair_b1 at h
  dsimp only at h
  replace hs := hs.mono hlev_1
  replace hs_1 := hs_1.mono hlev_1
  refine seq ?_
  refine seq ?_
  refine region ?_
  refine step hF (Y.move hF rfl) rfl fun a hF => ?_
  refine step hF (Y.move hF rfl) rfl fun a hF => ?_
  refine step hF (Y.lenSl u_39 hF rfl) rfl fun a hF => ?_
  refine step hF (Y.lss hF rfl rfl) rfl fun a hF => ?_
  refine nil (then_n ?_)
  refine cond_b hF rfl (fun hbv_1 => ?_) (fun hbv_1 => ?_)
  ·replace h := cond_t h hbv_1
   refine skip_ (then_n ?_)
   refine seq ?_
   refine block ?_
   refine seq ?_
   refine draws 7 [(0, true), (1, true), (2, true), (3, true), (4, true), (5, true), (6, true)] mixed_ (by kernel_rfl) (fun w => St w0 D0 Dv_1 _ w) hS.drew (fun _ _ _ _ h => h) ?_
   replace hS := hS.drew
   refine stepT (i := 0) rfl hF (fun w hS => Y.move hF rfl) rfl fun a hF => ?_
   refine stepT (i := 1) rfl hF (fun w hS => Y.move hF rfl) rfl fun a hF => ?_
   obtain ⟨e, hx_2, h⟩ := bind_some h
   obtain ⟨b_1, o, hE, hY⟩ := Y.indexS (P := Tryd.prog) (C := C_int) (xs := rv_1) (T := 39) (x := (.tmp 21)) (y := (.tmp 22)) u_39 sz_3 hF rfl rfl (hs_1).1 hx_2
   obtain ⟨cc, hc, hcell⟩ := hE.open
   obtain rfl := hc
   refine stepT (i := 2) rfl hF (fun w hS => hY) rfl fun a hF => ?_
   refine stepT (i := 3) rfl hF (fun w hS => Y.load1 sz_3 hF rfl (hcell _ hS.stab 0 _ rfl)) rfl fun a hF => ?_
   refine stepT (i := 4) rfl hF (fun w hS => Y.fieldAddr fo_24_0 hF rfl) rfl fun a hF => ?_
   refine stepT (i := 5) rfl hF (fun w hS => Y.load1L 1 sz_3 hF rfl hS rfl rfl) rfl fun a hF => ?_
   refine stepT (i := 6) rfl hF (fun w hS => Y.geq hF rfl rfl) rfl fun a hF => ?_
   refine toTail ?_
   refine nil (then_n ?_)
   refine cond_b hF rfl (fun hbv_2 => ?_) (fun hbv_2 => ?_)
   ·replace h := cond_t h hbv_2
    obtain ⟨rv_2, hx_3, h⟩ := bind_some h
    obtain ⟨rv_3, hx_4, h⟩ := bind_some h
    refine drawsV 11 (.flt 0 (.flt 1 (.flt 4 (.flt 5 (.flt 6 (.flt 7 (.flt 8 (.alt 2 (.flt 3 (.alt 9 (.flt 10 .done) .stop)) .stop)))))))) mixed_ (by kernel_rfl) (fun w => St w0 D0 Dv_1 [(1, .cells b [.int .i64 sv.Hours, .int .i64 sv.Gap, .slice p sv.Machines.length c] 24)] w) (fun a w => ∃ (Dv_3 : Stab), Dv_1.le Dv_3 ∧ Frm 43 [] [(1, .pointer (some ⟨b, 0, none⟩)), (2, .int .i64 0), (3, .int .i64 0), (5, .slice p_1 rv_1.length c_1), (6, .int .i64 best), (7, .int .i64 set), (28, .int .i64 best), (38, .int .i64 (wr ((rv_2.length : Int) + rv_3)))] a ∧ St w0 D0 Dv_3 [(1, .cells b [.int .i64 sv.Hours, .int .i64 sv.Gap, .slice p sv.Machines.length c] 24)] w) (hS.weak (ms := [(1, .cells b [.int .i64 sv.Hours, .int .i64 sv.Gap, .slice p sv.Machines.length c] 24)]) ⟨rfl, trivial⟩).drew (fun _ _ _ _ h => h) ?_ ?_
    ·replace hS := hS.drew
     have hle0 := hS.le
     refine stepV (i := 0) rfl hF (fun w hS => Y.move hF rfl) rfl fun a hF => ?_
     refine stepV (i := 1) rfl hF (fun w hS => Y.move hF rfl) rfl fun a hF => ?_
     refine stepV (i := 4) rfl hF (fun w hS => Y.move hF rfl) rfl fun a hF => ?_
     refine stepV (i := 5) rfl hF (fun w hS => Y.fieldAddr fo_24_0 hF rfl) rfl fun a hF => ?_
     refine stepV (i := 6) rfl hF (fun w hS => Y.load1L 1 sz_3 hF rfl hS rfl rfl) rfl fun a hF => ?_
     refine stepV (i := 7) rfl hF (fun w hS => Y.move hF rfl) rfl fun a hF => ?_
     refine stepV (i := 8) rfl hF (fun w hS => Y.sub hF rfl rfl) rfl fun a hF => ?_
     refine oneV (i := 2) rfl ?_ trivial
     refine O.callS (us := [.int .i64 set, .int .i64 8]) ca_65 hF hS (remontoirref00_List_ok hS.stab set 8 rv_2 hx_3) rfl rfl fun v_2 Dv_4 a w hR_2 hlev_3 hF hS => ?_
     replace hs := hs.mono hlev_3
     replace hs_1 := hs_1.mono hlev_3
     replace hcell := fun w hw => hcell w (Stab.on.le hw hlev_3)
     obtain ⟨p_3, c_3, rfl, hs_3⟩ := hR_2
     refine nil (then_n ⟨(hS.weak (ms := [(1, .cells b [.int .i64 sv.Hours, .int .i64 sv.Gap, .slice p sv.Machines.length c] 24)]) ⟨rfl, trivial⟩).weakD hlev_3 hle0, ?_⟩)
     refine stepV (i := 3) rfl hF (fun w hS => Y.lenSl u_39 hF rfl) rfl fun a hF => ?_
     refine oneV (i := 9) rfl ?_ trivial
     refine O.callP (us := [.slice p_1 rv_1.length c_1, .int .i64 sv.Hours, .int .i64 (wr (255 - set))]) ca_59 hF hS (remontoirref08_fewest_ok hS.stab rv_1 sv.Hours (wr (255 - set)) hs_1 rv_3 hx_4) rfl rfl fun a w hF hS => ?_
     refine nil (then_n ⟨(hS.weak (ms := [(1, .cells b [.int .i64 sv.Hours, .int .i64 sv.Gap, .slice p sv.Machines.length c] 24)]) ⟨rfl, trivial⟩).weakD hlev_3 hle0, ?_⟩)
     refine stepV (i := 10) rfl hF (fun w hS => Y.add hF rfl rfl) rfl fun a hF => ?_
     exact toTailV ⟨Dv_4, hlev_3, hF.weak ⟨rfl, rfl, rfl, rfl, rfl, rfl, rfl, rfl, trivial⟩, hS.weak ⟨rfl, trivial⟩⟩
    rintro a w ⟨Dv_3, hle, hF, hS⟩
    have hlev_4 := hle
    replace hs := hs.mono hlev_4
    replace hs_1 := hs_1.mono hlev_4
    replace hcell := fun w hw => hcell w (Stab.on.le hw hlev_4)
    refine step hF (Y.min2 hF rfl rfl) rfl fun a hF => ?_
    refine step hF (Y.assign hF rfl) rfl fun a hF => ?_
    refine nil (blk_n (then_n ?_))
    refine region ?_
    refine step hF (Y.move hF rfl) rfl fun a hF => ?_
    refine step hF (Y.add hF rfl rfl) rfl fun a hF => ?_
    refine step hF (Y.assign hF rfl) rfl fun a hF => ?_
    refine nil (then_n ?_)
    exact ⟨_, nxt_some h, (if wr ((rv_2.length : Int) + rv_3) < best then wr ((rv_2.length : Int) + rv_3) else best), (wr (set + 1)), Dv_3, rfl, hlev_1.trans hlev_4, hF.weak ⟨rfl, rfl, rfl, rfl, rfl, rfl, trivial⟩, hS.weak ⟨rfl, trivial⟩⟩
   ·replace h := cond_f h hbv_2
    refine skip_ (blk_n (then_n ?_))
    refine region ?_
    refine step hF (Y.move hF rfl) rfl fun a hF => ?_
    refine step hF (Y.add hF rfl rfl) rfl fun a hF => ?_
    refine step hF (Y.assign hF rfl) rfl fun a hF => ?_
    refine nil (then_n ?_)
    exact ⟨_, nxt_some h, best, (wr (set + 1)), Dv_1, rfl, hlev_1, hF.weak ⟨rfl, rfl, rfl, rfl, rfl, rfl, trivial⟩, hS.weak ⟨rfl, trivial⟩⟩
  ·replace h := cond_f h hbv_1
   refine exit_ (then_x (then_x (blk_hit (then_n ?_))))
   replace h := ext_some h hxo
   refine seq ?_
   refine seq ?_
   refine region ?_
   refine step hF (Y.move hF rfl) rfl fun a hF => ?_
   refine step hF (Y.geq hF rfl rfl) rfl fun a hF => ?_
   refine nil (then_n ?_)
   refine cond_b hF rfl (fun hbv_3 => ?_) (fun hbv_3 => ?_)
   ·replace h := cond_t h hbv_3
    refine seq ?_
    refine region ?_
    refine step hF (Y.assign hF rfl) rfl fun a hF => ?_
    refine step hF (Y.assign hF rfl) rfl fun a hF => ?_
    refine nil (then_n ?_)
    refine ret_ (then_r ?_)
    obtain rfl := some_inj h
    exact leaveP Tryd.results31 hF hS (.cons (.tmp rfl) (.cons (.tmp rfl) .nil)) .nil rfl
   ·replace h := cond_f h hbv_3
    refine skip_ (then_n ?_)
    refine seq ?_
    refine region ?_
    refine step hF (Y.move hF rfl) rfl fun a hF => ?_
    refine step hF (Y.assign hF rfl) rfl fun a hF => ?_
    refine step hF (Y.assign hF rfl) rfl fun a hF => ?_
    refine nil (then_n ?_)
    refine ret_ ?_
    obtain rfl := some_inj h
    exact leaveP Tryd.results31 hF hS (.cons (.tmp rfl) (.cons (.tmp rfl) .nil)) .nil rfl

noncomputable def remontoirref08_Silent_b3 (plan : (List SpareTurn)) (lives : (List Int)) (outv : (List Int)) (hv : Int) : (Int × Int) → Option ((Int × Int) ⊕ (((List Int) × Int) ⊕ ((List Int) × Int)))
 | (speaks, i_1) =>
  cond (decide (i_1 < (plan.length : Int)))
  ((idx plan i_1).bind fun e_1 =>
  cond (decide (e_1.Over ≤ hv))
  (nxt (i_1, wr (i_1 + 1)))
  (nxt (speaks, wr (i_1 + 1))))
  (ext ((idx plan speaks).bind fun e_2 =>
  (idx lives speaks).bind fun e_3 =>
  cond (decide (hv ≥ (wr (e_2.Start + e_3))))
  (if outv.length + ([hv]).length ≤ lim then
  nxt ((outv ++ [hv]), wr (hv + 1))
  else none)
  (nxt (outv, wr (hv + 1)))))
noncomputable def remontoirref08_Silent_b2 (sv : SpareStore) (plan : (List SpareTurn)) (lives : (List Int)) : ((List Int) × Int) → Option (((List Int) × Int) ⊕ ((List Int) × Int))
 | (outv, hv) =>
  cond (decide (hv < sv.Hours))
  (loopU (remontoirref08_Silent_b3 plan lives outv hv) (0, 0))
  (ext (some (outv, 0)))
noncomputable def remontoirref08_Silent_b1 (sv : SpareStore) (plan : (List SpareTurn)) (lives : (List Int)) : (Bool × Int) → Option ((Bool × Int) ⊕ ((List Int) × Int))
 | (ok, i) =>
  cond (ok && (decide (i < (lives.length : Int))))
  ((idx lives i).bind fun e =>
  (remontoirref00_Lies e 0 500).bind fun rv_2 =>
  nxt (rv_2, wr (i + 1)))
  (ext (cond (!ok)
  (some (([] : List Int), 81))
  (loopU (remontoirref08_Silent_b2 sv plan lives) (([] : List Int), 0))))
noncomputable def remontoirref08_Silent (sv : SpareStore) (plan : (List SpareTurn)) (lives : (List Int)) : Option ((List Int) × Int) :=
  (remontoirref08_Check sv).bind fun rv =>
  cond (rv != 0)
  (some (([] : List Int), rv))
  ((remontoirref08_isPlan sv plan sv.Hours).bind fun rv_1 =>
  loopU (remontoirref08_Silent_b1 sv plan lives) ((rv_1 && ((lives.length : Int) == (plan.length : Int))), 0))
theorem remontoirref08_Silent_ok {w0 : World} {D0 : Stab} (hD : D0.on w0) (sv : SpareStore) (plan : (List SpareTurn)) (lives : (List Int)) {p : Option Addr} {c : Nat} {p_1 : Option Addr} {c_1 : Nat} {p_2 : Option Addr} {c_2 : Nat} (hs : SRc C_SpareMachine D0 sv.Machines p c) (hs_1 : SRc C_SpareTurn D0 plan p_1 c_1) (hs_2 : SRc C_int D0 lives p_2 c_2) (out : ((List Int) × Int)) (h : remontoirref08_Silent sv plan lives = some out) : Calls Tryd.prog 33 [.agg #[.int .i64 sv.Hours, .int .i64 sv.Gap, .slice p sv.Machines.length c], .slice p_1 plan.length c_1, .slice p_2 lives.length c_2].toArray w0 (RetS D0 w0 fun D v => ∃ p_6 c_6, v = .tuple #[.slice p_6 out.1.length c_6, .int .i64 out.2] ∧ SRc C_int D out.1 p_6 c_6) := by
 refine enter _ 85 Tryd.func33 rfl Tryd.ntmps33 rfl fun a hF => ?_
 replace hF : Frm 85 [] [(0, .agg #[.int .i64 sv.Hours, .int .i64 sv.Gap, .slice p sv.Machines.length c]), (1, .slice p_1 plan.length c_1), (2, .slice p_2 lives.length c_2)] a := hF
 have hS := St.start hD
 unfold remontoirref08_Silent at h
 refine seq ?_
 refine region ?_
 refine O.box (cs := [.int .i64 sv.Hours, .int .i64 sv.Gap, .slice p sv.Machines.length c]) 1 hF rfl rfl hS rfl fun b a w hF hS => ?_
 refine step hF (Y.assign hF rfl) rfl fun a hF => ?_
 refine step hF (Y.assign hF rfl) rfl fun a hF => ?_
 refine nil (then_n ?_)
 refine seq ?_
 refine seq ?_
 refine region ?_
 refine step hF (Y.loadNL 1 sz_24 hF rfl hS rfl rfl rfl) rfl fun a hF => ?_
 obtain ⟨rv, hx, h⟩ := bind_some h
 refine O.callP (us := [.agg #[.int .i64 sv.Hours, .int .i64 sv.Gap, .slice p sv.Machines.length c]]) ca_18 hF hS (remontoirref08_Check_ok hS.stab sv hs rv hx) rfl rfl fun a w hF hS => ?_
 refine step hF (Y.assign hF rfl) rfl fun a hF => ?_
 refine nil (then_n ?_)
 refine seq ?_
 refine region ?_
 refine step hF (Y.move hF rfl) rfl fun a hF => ?_
 refine step hF (Y.neq hF rfl rfl) rfl fun a hF => ?_
 refine nil (then_n ?_)
 refine cond_b hF rfl (fun hbv => ?_) (fun hbv => ?_)
 ·replace h := cond_t h hbv
  refine seq ?_
  refine region ?_
  refine step hF (Y.move hF rfl) rfl fun a hF => ?_
  refine step hF (Y.assign hF rfl) rfl fun a hF => ?_
  refine step hF (Y.assign hF rfl) rfl fun a hF => ?_
  refine nil (then_n ?_)
  refine ret_ (then_r ?_)
  obtain rfl := some_inj h
  exact leaveS Tryd.results33 hF hS (.cons (.tmp rfl) (.cons (.tmp rfl) .nil)) .nil ⟨_, _, rfl, SRc.nil⟩
 ·replace h := cond_f h hbv
  refine skip_ (then_n ?_)
  refine seq ?_
  refine region ?_
  refine step hF (Y.loadNL 1 sz_24 hF rfl hS rfl rfl rfl) rfl fun a hF => ?_
  refine step hF (Y.move hF rfl) rfl fun a hF => ?_
  refine step hF (Y.fieldAddr fo_24_0 hF rfl) rfl fun a hF => ?_
  refine step hF (Y.load1L 1 sz_3 hF rfl hS rfl rfl) rfl fun a hF => ?_
  obtain ⟨rv_1, hx_1, h⟩ := bind_some h
  refine O.callP (us := [.agg #[.int .i64 sv.Hours, .int .i64 sv.Gap, .slice p sv.Machines.length c], .slice p_1 plan.length c_1, .int .i64 sv.Hours]) ca_54 hF hS (remontoirref08_isPlan_ok hS.stab sv plan sv.Hours hs hs_1 rv_1 hx_1) rfl rfl fun a w hF hS => ?_
  refine step hF (Y.move hF rfl) rfl fun a hF => ?_
  refine join (N := 85) (rs := []) (w0 := w0) (D0 := D0) 6 (us := [(1, .slice p_1 plan.length c_1), (2, .slice p_2 lives.length c_2), (3, .pointer (some ⟨b, 0, none⟩)), (6, .slice none 0 0), (7, .int .i64 0), (31, .bool (rv_1 && ((lives.length : Int) == (plan.length : Int))))]) (ms := [(1, .cells b [.int .i64 sv.Hours, .int .i64 sv.Gap, .slice p sv.Machines.length c] 24)]) (D' := D0) ?_ ?_
  ·rcases bcases rv_1 with hbv_1 | hbv_1
   ·-- true
    refine guard_on hF rfl rfl hbv_1 ?_
    refine step hF (Y.move hF rfl) rfl fun a hF => ?_
    refine guard_on hF rfl rfl hbv_1 ?_
    refine step hF (Y.lenSl u_39 hF rfl) rfl fun a hF => ?_
    refine guard_on hF rfl rfl hbv_1 ?_
    refine step hF (Y.move hF rfl) rfl fun a hF => ?_
    refine guard_on hF rfl rfl hbv_1 ?_
    refine step hF (Y.lenSl u_25 hF rfl) rfl fun a hF => ?_
    refine guard_on hF rfl rfl hbv_1 ?_
    refine step hF (Y.eql hF rfl rfl) rfl fun a hF => ?_
    refine step hF (Y.pick_t hF rfl hbv_1 rfl) rfl fun a hF => ?_
    exact nil (then_n ⟨hF.weak ⟨rfl, rfl, rfl, rfl, rfl, (by rw [hbv_1]; rfl), trivial⟩, hS.weak ⟨rfl, trivial⟩⟩)
   ·-- false
    refine guard_off hF rfl rfl hbv_1 rfl fun a hF => ?_
    refine guard_off hF rfl rfl hbv_1 rfl fun a hF => ?_
    refine guard_off hF rfl rfl hbv_1 rfl fun a hF => ?_
    refine guard_off hF rfl rfl hbv_1 rfl fun a hF => ?_
    refine guard_off hF rfl rfl hbv_1 rfl fun a hF => ?_
    refine step hF (Y.pick_f hF rfl hbv_1 rfl) rfl fun a hF => ?_
    exact nil (then_n ⟨hF.weak ⟨rfl, rfl, rfl, rfl, rfl, (by rw [hbv_1]; rfl), trivial⟩, hS.weak ⟨rfl, trivial⟩⟩)
  intro a w hF hS
  refine step hF (Y.assign hF rfl) rfl fun a hF => ?_
  refine nil (then_n ?_)
  refine seq ?_
  refine seq ?_
  refine region ?_
  refine step hF (Y.assign hF rfl) rfl fun a hF => ?_
  refine nil (then_n ?_)
  refine block ?_
  refine loop_cut (body := remontoirref08_Silent_b1 sv plan lives) (out := out) (fun s a w => ∃ (ok : Bool) (i : Int), s = (ok, i) ∧ Frm 85 [] [(1, .slice p_1 plan.length c_1), (2, .slice p_2 lives.length c_2), (3, .pointer (some ⟨b, 0, none⟩)), (6, .slice none 0 0), (7, .int .i64 0), (9, .bool ok), (10, .int .i64 i)] a ∧ St w0 D0 D0 [(1, .cells b [.int .i64 sv.Hours, .int .i64 sv.Gap, .slice p sv.Machines.length c] 24)] w) ((rv_1 && ((lives.length : Int) == (plan.length : Int))), 0) h ⟨(rv_1 && ((lives.length : Int) == (plan.length : Int))), 0, rfl, hF.weak ⟨rfl, rfl, rfl, rfl, rfl, rfl, rfl, trivial⟩, hS.weak ⟨rfl, trivial⟩⟩ ?_
  rintro s a w xo ⟨ok, i, rfl, hF, hS⟩ h hxo
  unfold remontoirref08_Silent_b1 at h
  dsimp only at h
  refine seq ?_
  refine seq ?_
  refine region ?_
  refine step hF (Y.move hF rfl) rfl fun a hF => ?_
  refine step hF (Y.move hF rfl) rfl fun a hF => ?_
  refine join (N := 85) (rs := []) (w0 := w0) (D0 := D0) 5 (us := [(1, .slice p_1 plan.length c_1), (2, .slice p_2 lives.length c_2), (3, .pointer (some ⟨b, 0, none⟩)), (6, .slice none 0 0), (7, .int .i64 0), (9, .bool ok), (10, .int .i64 i), (38, .bool (ok && (decide (i < (lives.length : Int)))))]) (ms := [(1, .cells b [.int .i64 sv.Hours, .int .i64 sv.Gap, .slice p sv.Machines.length c] 24)]) (D' := D0) ?_ ?_
  ·rcases bcases ok with hbv_2 | hbv_2
   ·-- true
    refine guard_on hF rfl rfl hbv_2 ?_
    refine step hF (Y.move hF rfl) rfl fun a hF => ?_
    refine guard_on hF rfl rfl hbv_2 ?_
    refine step hF (Y.move hF rfl) rfl fun a hF => ?_
    refine guard_on hF rfl rfl hbv_2 ?_
    refine step hF (Y.lenSl u_39 hF rfl) rfl fun a hF => ?_
    refine guard_on hF rfl rfl hbv_2 ?_
    refine step hF (Y.lss hF rfl rfl) rfl fun a hF => ?_
    refine step hF (Y.pick_t hF rfl hbv_2 rfl) rfl fun a hF => ?_
    exact nil (then_n ⟨hF.weak ⟨rfl, rfl, rfl, rfl, rfl, rfl, rfl, (by rw [hbv_2]; rfl), trivial⟩, hS.weak ⟨rfl, trivial⟩⟩)
   ·-- false
    refine guard_off hF rfl rfl hbv_2 rfl fun a hF => ?_
    refine guard_off hF rfl rfl hbv_2 rfl fun a hF => ?_
    refine guard_off hF rfl rfl hbv_2 rfl fun a hF => ?_
    refine guard_off hF rfl rfl hbv_2 rfl fun a hF => ?_
    refine step hF (Y.pick_f hF rfl hbv_2 rfl) rfl fun a hF => ?_
    exact nil (then_n ⟨hF.weak ⟨rfl, rfl, rfl, rfl, rfl, rfl, rfl, (by rw [hbv_2]; rfl), trivial⟩, hS.weak ⟨rfl, trivial⟩⟩)
  intro a w hF hS
  refine nil (then_n ?_)
  refine cond_b hF rfl (fun hbv_3 => ?_) (fun hbv_3 => ?_)
  ·replace h := cond_t h hbv_3
   refine skip_ (then_n ?_)
   refine seq ?_
   refine block ?_
   refine region ?_
   refine step hF (Y.move hF rfl) rfl fun a hF => ?_
   refine step hF (Y.move hF rfl) rfl fun a hF => ?_
   obtain ⟨e, hx_2, h⟩ := bind_some h
   obtain ⟨b_1, o, hE, hY⟩ := Y.indexS (P := Tryd.prog) (C := C_int) (xs := lives) (T := 39) (x := (.tmp 41)) (y := (.tmp 42)) u_39 sz_3 hF rfl rfl (hs_2).1 hx_2
   obtain ⟨cc, hc, hcell⟩ := hE.open
   obtain rfl := hc
   refine step hF (hY) rfl fun a hF => ?_
   refine step hF (Y.load1 sz_3 hF rfl (hcell _ hS.stab 0 _ rfl)) rfl fun a hF => ?_
   obtain ⟨rv_2, hx_3, h⟩ := bind_some h
   refine O.callP (us := [.int .i64 e, .int .i64 0, .int .i64 500]) ca_35 hF hS (remontoirref00_Lies_ok hS.stab e 0 500 rv_2 hx_3) rfl rfl fun a w hF hS => ?_
   refine step hF (Y.assign hF rfl) rfl fun a hF => ?_
   refine nil (blk_n (then_n ?_))
   refine region ?_
   refine step hF (Y.move hF rfl) rfl fun a hF => ?_
   refine step hF (Y.add hF rfl rfl) rfl fun a hF => ?_
   refine step hF (Y.assign hF rfl) rfl fun a hF => ?_
   refine nil (then_n ?_)
   exact ⟨_, nxt_some h, rv_2, (wr (i + 1)), rfl, hF.weak ⟨rfl, rfl, rfl, rfl, rfl, rfl, rfl, trivial⟩, hS.weak ⟨rfl, trivial⟩⟩
  ·replace h := cond_f h hbv_3
   refine exit_ (then_x (then_x (blk_hit (then_n ?_))))
   replace h := ext_some h hxo
   refine seq ?_
   refine seq ?_
   refine region ?_
   refine step hF (Y.move hF rfl) rfl fun a hF => ?_
   refine step hF (Y.not hF rfl) rfl fun a hF => ?_
   refine nil (then_n ?_)
   refine cond_b hF rfl (fun hbv_4 => ?_) (fun hbv_4 => ?_)
   ·replace h := cond_t h hbv_4
    refine seq ?_
    refine region ?_
    refine step hF (Y.assign hF rfl) rfl fun a hF => ?_
    refine step hF (Y.assign hF rfl) rfl fun a hF => ?_
    refine nil (then_n ?_)
    refine ret_ (then_r ?_)
    obtain rfl := some_inj h
    exact leaveS Tryd.results33 hF hS (.cons (.tmp rfl) (.cons (.tmp rfl) .nil)) .nil ⟨_, _, rfl, SRc.nil⟩
   ·replace h := cond_f h hbv_4
    refine skip_ (then_n ?_)
    refine seq ?_
    refine region ?_
    refine step hF (Y.assign hF rfl) rfl fun a hF => ?_
    replace hS := hS.ownNil 2 3 1
    refine nil (then_n ?_)
    refine seq ?_
    refine seq ?_
    refine region ?_
    refine step hF (Y.assign hF rfl) rfl fun a hF => ?_
    refine nil (then_n ?_)
    refine block ?_
    refine loop_cut (body := remontoirref08_Silent_b2 sv plan lives) (out := out) (fun s a w => ∃ (outv : (List Int)) (hv : Int), ∃ p_3 c_3 cs, s = (outv, hv) ∧ Frm 85 [] [(1, .slice p_1 plan.length c_1), (2, .slice p_2 lives.length c_2), (3, .pointer (some ⟨b, 0, none⟩)), (6, .slice none 0 0), (7, .int .i64 0), (11, .slice p_3 outv.length c_3), (12, .int .i64 hv)] a ∧ St w0 D0 D0 [(1, .cells b [.int .i64 sv.Hours, .int .i64 sv.Gap, .slice p sv.Machines.length c] 24), (2, .own p_3 outv.length c_3 cs 3 1)] w ∧ Reps C_int D0 outv cs) (([] : List Int), 0) h ⟨([] : List Int), 0, none, 0, ([]), rfl, hF.weak ⟨rfl, rfl, rfl, rfl, rfl, rfl, rfl, trivial⟩, hS.weak ⟨rfl, rfl, trivial⟩, Reps.nil⟩ ?_
    rintro s a w xo_1 ⟨outv, hv, p_3, c_3, cs, rfl, hF, hS, hr⟩ h hxo_1
    unfold remontoirref08_Silent_b2 at h
    dsimp only at h
    refine seq ?_
    refine seq ?_
    refine region ?_
    refine step hF (Y.move hF rfl) rfl fun a hF => ?_
    refine step hF (Y.fieldAddr fo_24_0 hF rfl) rfl fun a hF => ?_
    refine step hF (Y.load1L 1 sz_3 hF rfl hS rfl rfl) rfl fun a hF => ?_
    refine step hF (Y.lss hF rfl rfl) rfl fun a hF => ?_
    refine nil (then_n ?_)
    refine cond_b hF rfl (fun hbv_5 => ?_) (fun hbv_5 => ?_)
    ·replace h := cond_t h hbv_5
     refine skip_ (then_n ?_)
     refine seq ?_
     refine block ?_
     refine seq ?_
     refine region ?_
     refine step hF (Y.assign hF rfl) rfl fun a hF => ?_
     refine nil (then_n ?_)
     refine seq ?_
     refine seq ?_
     refine region ?_
     refine step hF (Y.assign hF rfl) rfl fun a hF => ?_
     refine nil (then_n ?_)
     refine block ?_
     refine loop_cut (body := remontoirref08_Silent_b3 plan lives outv hv) (out := xo_1) (fun s a w => ∃ (speaks : Int) (i_1 : Int), s = (speaks, i_1) ∧ Frm 85 [] [(1, .slice p_1 plan.length c_1), (2, .slice p_2 lives.length c_2), (3, .pointer (some ⟨b, 0, none⟩)), (6, .slice none 0 0), (7, .int .i64 0), (11, .slice p_3 outv.length c_3), (12, .int .i64 hv), (13, .int .i64 speaks), (14, .int .i64 i_1)] a ∧ St w0 D0 D0 [(1, .cells b [.int .i64 sv.Hours, .int .i64 sv.Gap, .slice p sv.Machines.length c] 24), (2, .own p_3 outv.length c_3 cs 3 1)] w) (0, 0) h ⟨0, 0, rfl, hF.weak ⟨rfl, rfl, rfl, rfl, rfl, rfl, rfl, rfl, rfl, trivial⟩, hS.weak ⟨rfl, rfl, trivial⟩⟩ ?_
     rintro s a w xo_2 ⟨speaks, i_1, rfl, hF, hS⟩ h hxo_2
     unfold remontoirref08_Silent_b3 at h
     dsimp only at h
     refine seq ?_
     refine seq ?_
     refine region ?_
     refine step hF (Y.move hF rfl) rfl fun a hF => ?_
     refine step hF (Y.move hF rfl) rfl fun a hF => ?_
     refine step hF (Y.lenSl u_25 hF rfl) rfl fun a hF => ?_
     refine step hF (Y.lss hF rfl rfl) rfl fun a hF => ?_
     refine nil (then_n ?_)
     refine cond_b hF rfl (fun hbv_6 => ?_) (fun hbv_6 => ?_)
     ·replace h := cond_t h hbv_6
      refine skip_ (then_n ?_)
      refine seq ?_
      refine block ?_
      refine seq ?_
      refine region ?_
      refine step hF (Y.move hF rfl) rfl fun a hF => ?_
      refine step hF (Y.move hF rfl) rfl fun a hF => ?_
      obtain ⟨e_1, hx_4, h⟩ := bind_some h
      obtain ⟨b_2, o_1, hE_1, hY_1⟩ := Y.indexS (P := Tryd.prog) (C := C_SpareTurn) (xs := plan) (T := 25) (x := (.tmp 60)) (y := (.tmp 61)) u_25 sz_46 hF rfl rfl (hs_1).1 hx_4
      obtain ⟨cc_1, hc_1, hcell_1⟩ := hE_1.open
      obtain rfl := C_SpareTurn.open hc_1
      refine step hF (hY_1) rfl fun a hF => ?_
      refine step hF (Y.fieldAddr fo_46_2 hF rfl) rfl fun a hF => ?_
      refine step hF (Y.load1 sz_3 hF rfl (hcell_1 _ hS.stab 2 _ rfl)) rfl fun a hF => ?_
      refine step hF (Y.move hF rfl) rfl fun a hF => ?_
      refine step hF (Y.leq hF rfl rfl) rfl fun a hF => ?_
      refine nil (then_n ?_)
      refine cond_b hF rfl (fun hbv_7 => ?_) (fun hbv_7 => ?_)
      ·replace h := cond_t h hbv_7
       refine region ?_
       refine step hF (Y.move hF rfl) rfl fun a hF => ?_
       refine step hF (Y.assign hF rfl) rfl fun a hF => ?_
       refine nil (blk_n (then_n ?_))
       refine region ?_
       refine step hF (Y.move hF rfl) rfl fun a hF => ?_
       refine step hF (Y.add hF rfl rfl) rfl fun a hF => ?_
       refine step hF (Y.assign hF rfl) rfl fun a hF => ?_
       refine nil (then_n ?_)
       exact ⟨_, nxt_some h, i_1, (wr (i_1 + 1)), rfl, hF.weak ⟨rfl, rfl, rfl, rfl, rfl, rfl, rfl, rfl, rfl, trivial⟩, hS.weak ⟨rfl, rfl, trivial⟩⟩
      ·replace h := cond_f h hbv_7
       refine skip_ (blk_n (then_n ?_))
       refine region ?_
       refine step hF (Y.move hF rfl) rfl fun a hF => ?_
       refine step hF (Y.add hF rfl rfl) rfl fun a hF => ?_
       refine step hF (Y.assign hF rfl) rfl fun a hF => ?_
       refine nil (then_n ?_)
       exact ⟨_, nxt_some h, speaks, (wr (i_1 + 1)), rfl, hF.weak ⟨rfl, rfl, rfl, rfl, rfl, rfl, rfl, rfl, rfl, trivial⟩, hS.weak ⟨rfl, rfl, trivial⟩⟩
     ·replace h := cond_f h hbv_6
      refine exit_ (then_x (then_x (blk_hit (then_n ?_))))
      replace h := ext_some h hxo_2
      refine seq ?_
      refine draws 12 [(0, true), (1, true), (2, true), (3, true), (4, true), (5, true), (6, true), (7, true), (8, true), (9, true), (10, true), (11, true)] mixed_ (by kernel_rfl) (fun w => St w0 D0 D0 _ w) hS.drew (fun _ _ _ _ h => h) ?_
      replace hS := hS.drew
      refine stepT (i := 0) rfl hF (fun w hS => Y.move hF rfl) rfl fun a hF => ?_
      refine stepT (i := 1) rfl hF (fun w hS => Y.move hF rfl) rfl fun a hF => ?_
      refine stepT (i := 2) rfl hF (fun w hS => Y.move hF rfl) rfl fun a hF => ?_
      obtain ⟨e_2, hx_5, h⟩ := bind_some h
      obtain ⟨b_3, o_2, hE_2, hY_2⟩ := Y.indexS (P := Tryd.prog) (C := C_SpareTurn) (xs := plan) (T := 25) (x := (.tmp 69)) (y := (.tmp 70)) u_25 sz_46 hF rfl rfl (hs_1).1 hx_5
      obtain ⟨cc_2, hc_2, hcell_2⟩ := hE_2.open
      obtain rfl := C_SpareTurn.open hc_2
      refine stepT (i := 3) rfl hF (fun w hS => hY_2) rfl fun a hF => ?_
      refine stepT (i := 4) rfl hF (fun w hS => Y.fieldAddr fo_46_1 hF rfl) rfl fun a hF => ?_
      refine stepT (i := 5) rfl hF (fun w hS => Y.load1 sz_3 hF rfl (hcell_2 _ hS.stab 1 _ rfl)) rfl fun a hF => ?_
      refine stepT (i := 6) rfl hF (fun w hS => Y.move hF rfl) rfl fun a hF => ?_
      refine stepT (i := 7) rfl hF (fun w hS => Y.move hF rfl) rfl fun a hF => ?_
      obtain ⟨e_3, hx_6, h⟩ := bind_some h
      obtain ⟨b_4, o_3, hE_3, hY_3⟩ := Y.indexS (P := Tryd.prog) (C := C_int) (xs := lives) (T := 39) (x := (.tmp 74)) (y := (.tmp 75)) u_39 sz_3 hF rfl rfl (hs_2).1 hx_6
      obtain ⟨cc_3, hc_3, hcell_3⟩ := hE_3.open
      obtain rfl := hc_3
      refine stepT (i := 8) rfl hF (fun w hS => hY_3) rfl fun a hF => ?_
      refine stepT (i := 9) rfl hF (fun w hS => Y.load1 sz_3 hF rfl (hcell_3 _ hS.stab 0 _ rfl)) rfl fun a hF => ?_
      refine stepT (i := 10) rfl hF (fun w hS => Y.add hF rfl rfl) rfl fun a hF => ?_
      refine stepT (i := 11) rfl hF (fun w hS => Y.geq hF rfl rfl) rfl fun a hF => ?_
      refine toTail ?_
      refine nil (then_n ?_)
      refine cond_b hF rfl (fun hbv_8 => ?_) (fun hbv_8 => ?_)
      ·replace h := cond_t h hbv_8
       refine region ?_
       refine step hF (Y.move hF rfl) rfl fun a hF => ?_
       refine step hF (Y.move hF rfl) rfl fun a hF => ?_
       have hr_1 : Reps C_int D0 [hv] [.int .i64 hv] := Reps.cons (C := C_int) (x := hv) (c := [.int .i64 hv]) (r := []) rfl (Reps.nil)
       refine O.buildSlice (E := 3) (C := C_int) (xs := [hv]) (cs := [.int .i64 hv]) (us := [.int .i64 hv]) (parts := [(0, (.tmp 81))]) 3 hF hS rfl (by kernel_rfl) hr_1 rfl rfl rfl fun p_4 c_4 a w hF hS => ?_
       obtain ⟨hg, h⟩ := ite_some h
       refine O.append (C := C_int) (xs := outv) (ys := [hv]) 2 gr_39 hF rfl rfl hS rfl (src_own (i := 3) hS rfl) hr hr_1 hg rfl fun p_5 c_5 a w hF hS hr_2 => ?_
       refine step hF (Y.assign hF rfl) rfl fun a hF => ?_
       refine nil (blk_n (then_n ?_))
       refine region ?_
       refine step hF (Y.move hF rfl) rfl fun a hF => ?_
       refine step hF (Y.add hF rfl rfl) rfl fun a hF => ?_
       refine step hF (Y.assign hF rfl) rfl fun a hF => ?_
       refine nil (then_n ?_)
       exact ⟨_, nxt_some h, (outv ++ [hv]), (wr (hv + 1)), p_5, c_5, (cs ++ [.int .i64 hv]), rfl, hF.weak ⟨rfl, rfl, rfl, rfl, rfl, rfl, rfl, trivial⟩, hS.weak ⟨rfl, rfl, trivial⟩, hr_2⟩
      ·replace h := cond_f h hbv_8
       refine skip_ (blk_n (then_n ?_))
       refine region ?_
       refine step hF (Y.move hF rfl) rfl fun a hF => ?_
       refine step hF (Y.add hF rfl rfl) rfl fun a hF => ?_
       refine step hF (Y.assign hF rfl) rfl fun a hF => ?_
       refine nil (then_n ?_)
       exact ⟨_, nxt_some h, outv, (wr (hv + 1)), p_3, c_3, cs, rfl, hF.weak ⟨rfl, rfl, rfl, rfl, rfl, rfl, rfl, trivial⟩, hS.weak ⟨rfl, rfl, trivial⟩, hr⟩
    ·replace h := cond_f h hbv_5
     refine exit_ (then_x (then_x (blk_hit (then_n ?_))))
     replace h := ext_some h hxo_1
     refine seq ?_
     refine region ?_
     refine step hF (Y.move hF rfl) rfl fun a hF => ?_
     refine step hF (Y.assign hF rfl) rfl fun a hF => ?_
     refine step hF (Y.assign hF rfl) rfl fun a hF => ?_
     refine nil (then_n ?_)
     refine ret_ ?_
     obtain ⟨Dv, hlev, hs_3, hS⟩ := hS.freezeC (i := 2) (xs := outv) rfl hr
     replace hs := hs.mono hlev
     replace hs_1 := hs_1.mono hlev
     replace hs_2 := hs_2.mono hlev
     replace hr := hr.mono hlev
     obtain rfl := some_inj h
     exact leaveS Tryd.results33 hF hS (.cons (.tmp rfl) (.cons (.tmp rfl) .nil)) .nil ⟨_, _, rfl, hs_3⟩

end Go.Proofs.YtidmdgjgpmeecaaDoor.Rt
