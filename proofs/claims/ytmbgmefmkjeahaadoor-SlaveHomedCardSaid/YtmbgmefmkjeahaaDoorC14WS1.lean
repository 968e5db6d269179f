/- Walks of the functions of this seat: what each Go function comes to, as a Lean function, and the proof. Part WS1. Under no conditions. -/
import Derived.Test.YtmbgmefmkjeahaaDoorC14WBZ
set_option linter.unusedVariables false
set_option linter.unusedSimpArgs false
set_option maxRecDepth 100000
set_option maxHeartbeats 4000000
namespace Go.Proofs.YtmbgmefmkjeahaaDoor.Rt
open Go Go.RowKit
noncomputable def w7sound_b2 (l : SlaveLine) : (Bool × Int) → Option ((Bool × Int) ⊕ Bool)
 | (ok_1, i_1) =>
  cond (ok_1 && (decide (i_1 < (l.Events.length : Int))))
  ((idx l.Events i_1).bind fun e_1 =>
  (r0Lies e_1.Kind 0 2).bind fun rv_5 =>
  (cond rv_5 ((cond (e_1.Kind == 2) ((r0Lies e_1.Who 0 (wr ((l.Starts.length : Int) - 1))).bind fun rv_6 =>
  some rv_6) (some false)).bind fun t_3 =>
  (cond t_3 ((r0Lies e_1.Shown 0 (wr (l.Ring - 1))).bind fun rv_7 =>
  some rv_7) (some false)).bind fun t_4 =>
  (cond t_4 (some true) ((cond (e_1.Kind != 2) ((r0Lies e_1.Count 0 60).bind fun rv_8 =>
  some rv_8) (some false)).bind fun t_5 =>
  (cond t_5 ((r0Lies e_1.Lost 0 3).bind fun rv_9 =>
  some rv_9) (some false)).bind fun t_6 =>
  some t_6)).bind fun t_7 =>
  some t_7) (some false)).bind fun t_8 =>
  nxt (t_8, wr (i_1 + 1)))
  (ext (some ok_1))
noncomputable def w7sound_b1 (l : SlaveLine) : (Bool × Int) → Option ((Bool × Int) ⊕ Bool)
 | (ok, i) =>
  cond (ok && (decide (i < (l.Starts.length : Int))))
  ((idx l.Starts i).bind fun e =>
  (r0Lies e.Shown 0 (wr (l.Ring - 1))).bind fun rv_3 =>
  (cond rv_3 ((r0Lies e.Last 0 1).bind fun rv_4 =>
  some rv_4) (some false)).bind fun t_2 =>
  nxt (t_2, wr (i + 1)))
  (ext (loopU (w7sound_b2 l) (ok, 0)))
noncomputable def w7sound (l : SlaveLine) : Option Bool :=
  (slave_Check l).bind fun rv =>
  (cond (rv == 0) ((r0Lies l.Ring 2 60).bind fun rv_1 =>
  some rv_1) (some false)).bind fun t =>
  (cond t ((r0Lies (l.Starts.length : Int) 1 4).bind fun rv_2 =>
  some rv_2) (some false)).bind fun t_1 =>
  loopU (w7sound_b1 l) ((t_1 && (decide ((l.Events.length : Int) ≤ 10))), 0)
theorem w7sound_ok {w0 : World} {D0 : Stab} (hD : D0.on w0) (l : SlaveLine) {p : Option Addr} {c : Nat} {p_1 : Option Addr} {c_1 : Nat} (hs : SRc C_SlaveStart D0 l.Starts p c) (hs_1 : SRc C_SlaveEvent D0 l.Events p_1 c_1) (out : Bool) (h : w7sound l = some out) : Calls Tryd.prog 36 [.agg #[.int .i64 l.Ring, .slice p l.Starts.length c, .slice p_1 l.Events.length c_1]].toArray w0 (RetP D0 w0 (.bool out)) := by
 refine enter _ 112 Tryd.func36 rfl Tryd.ntmps36 rfl fun a hF => ?_
 replace hF : Frm 112 [] [(0, .agg #[.int .i64 l.Ring, .slice p l.Starts.length c, .slice p_1 l.Events.length c_1])] a := hF
 have hS := St.start hD
 unfold w7sound at h
 refine seq (region (O.box (cs := [.int .i64 l.Ring, .slice p l.Starts.length c, .slice p_1 l.Events.length c_1]) 1 hF rfl rfl hS rfl fun b a w hF hS => step hF (Y.assign hF rfl) rfl fun a hF => nil (then_n (seq (region (step hF (Y.loadNL 1 sz_25 hF rfl hS rfl rfl rfl) rfl fun a hF => ?_))))))
 obtain ⟨rv, hx, h⟩ := bind_some h
 refine O.callP (us := [.agg #[.int .i64 l.Ring, .slice p l.Starts.length c, .slice p_1 l.Events.length c_1]]) ca_19 hF hS (slave_Check_ok hS.stab l hs hs_1 rv hx) rfl rfl fun a w hF hS => step hF (Y.eql hF rfl rfl) rfl fun a hF => step hF (Y.move hF rfl) rfl fun a hF => ?_
 obtain ⟨t, ht, h⟩ := bind_some h
 refine join (N := 112) (rs := []) (w0 := w0) (D0 := D0) 4 (us := [(1, .pointer (some ⟨b, 0, none⟩)), (2, .bool false), (14, .bool t)]) (ms := [(1, .cells b [.int .i64 l.Ring, .slice p l.Starts.length c, .slice p_1 l.Events.length c_1] 25)]) (D' := D0) ?_ ?_
 ·rcases bcases (rv == 0) with hbv | hbv
  ·skip
   replace h := cond_t ht hbv
   refine guard_on hF rfl rfl hbv (step hF (Y.fieldAddr fo_25_0 hF rfl) rfl fun a hF => guard_on hF rfl rfl hbv (step hF (Y.load1L 1 sz_3 hF rfl hS rfl rfl) rfl fun a hF => guard_on hF rfl rfl hbv ?_))
   obtain ⟨rv_1, hx_1, h⟩ := bind_some h
   refine O.callP (us := [.int .i64 l.Ring, .int .i64 2, .int .i64 60]) ca_50 hF hS (r0Lies_ok hS.stab l.Ring 2 60 rv_1 hx_1) rfl rfl fun a w hF hS => step hF (Y.pick_t hF rfl hbv rfl) rfl fun a hF => ?_
   obtain rfl := some_inj h
   exact nil (then_n ⟨hF.weak ⟨rfl, rfl, rfl, trivial⟩, hS.weak ⟨rfl, trivial⟩⟩)
  replace h := cond_f ht hbv
  refine guard_off hF rfl rfl hbv rfl fun a hF => guard_off hF rfl rfl hbv rfl fun a hF => guard_off hF rfl rfl hbv rfl fun a hF => step hF (Y.pick_f hF rfl hbv rfl) rfl fun a hF => ?_
  obtain rfl := some_inj h
  exact nil (then_n ⟨hF.weak ⟨rfl, rfl, rfl, trivial⟩, hS.weak ⟨rfl, trivial⟩⟩)
 intro a w hF hS
 refine step hF (Y.move hF rfl) rfl fun a hF => ?_
 obtain ⟨t_1, ht_1, h⟩ := bind_some h
 refine join (N := 112) (rs := []) (w0 := w0) (D0 := D0) 5 (us := [(1, .pointer (some ⟨b, 0, none⟩)), (2, .bool false), (20, .bool t_1)]) (ms := [(1, .cells b [.int .i64 l.Ring, .slice p l.Starts.length c, .slice p_1 l.Events.length c_1] 25)]) (D' := D0) ?_ ?_
 ·rcases bcases t with hbv_1 | hbv_1
  ·skip
   replace h := cond_t ht_1 hbv_1
   refine guard_on hF rfl rfl hbv_1 (step hF (Y.fieldAddr fo_25_1 hF rfl) rfl fun a hF => guard_on hF rfl rfl hbv_1 (step hF (Y.load1L 1 sz_22 hF rfl hS rfl rfl) rfl fun a hF => guard_on hF rfl rfl hbv_1 (step hF (Y.lenSl u_22 hF rfl) rfl fun a hF => guard_on hF rfl rfl hbv_1 ?_)))
   obtain ⟨rv_2, hx_2, h⟩ := bind_some h
   refine O.callP (us := [.int .i64 (l.Starts.length : Int), .int .i64 1, .int .i64 4]) ca_50 hF hS (r0Lies_ok hS.stab (l.Starts.length : Int) 1 4 rv_2 hx_2) rfl rfl fun a w hF hS => step hF (Y.pick_t hF rfl hbv_1 rfl) rfl fun a hF => ?_
   obtain rfl := some_inj h
   exact nil (then_n ⟨hF.weak ⟨rfl, rfl, rfl, trivial⟩, hS.weak ⟨rfl, trivial⟩⟩)
  replace h := cond_f ht_1 hbv_1
  refine guard_off hF rfl rfl hbv_1 rfl fun a hF => guard_off hF rfl rfl hbv_1 rfl fun a hF => guard_off hF rfl rfl hbv_1 rfl fun a hF => guard_off hF rfl rfl hbv_1 rfl fun a hF => step hF (Y.pick_f hF rfl hbv_1 rfl) rfl fun a hF => ?_
  obtain rfl := some_inj h
  exact nil (then_n ⟨hF.weak ⟨rfl, rfl, rfl, trivial⟩, hS.weak ⟨rfl, trivial⟩⟩)
 intro a w hF hS
 refine step hF (Y.move hF rfl) rfl fun a hF => join (N := 112) (rs := []) (w0 := w0) (D0 := D0) 5 (us := [(1, .pointer (some ⟨b, 0, none⟩)), (2, .bool false), (26, .bool (t_1 && (decide ((l.Events.length : Int) ≤ 10))))]) (ms := [(1, .cells b [.int .i64 l.Ring, .slice p l.Starts.length c, .slice p_1 l.Events.length c_1] 25)]) (D' := D0) ?_ ?_
 ·rcases bcases t_1 with hbv_2 | hbv_2
  ·skip
   refine guard_on hF rfl rfl hbv_2 (step hF (Y.fieldAddr fo_25_2 hF rfl) rfl fun a hF => guard_on hF rfl rfl hbv_2 (step hF (Y.load1L 1 sz_23 hF rfl hS rfl rfl) rfl fun a hF => guard_on hF rfl rfl hbv_2 (step hF (Y.lenSl u_23 hF rfl) rfl fun a hF => guard_on hF rfl rfl hbv_2 (step hF (Y.leq hF rfl rfl) rfl fun a hF => step hF (Y.pick_t hF rfl hbv_2 rfl) rfl fun a hF => nil (then_n ⟨hF.weak ⟨rfl, rfl, (by rw [hbv_2]; rfl), trivial⟩, hS.weak ⟨rfl, trivial⟩⟩)))))
  refine guard_off hF rfl rfl hbv_2 rfl fun a hF => guard_off hF rfl rfl hbv_2 rfl fun a hF => guard_off hF rfl rfl hbv_2 rfl fun a hF => guard_off hF rfl rfl hbv_2 rfl fun a hF => step hF (Y.pick_f hF rfl hbv_2 rfl) rfl fun a hF => nil (then_n ⟨hF.weak ⟨rfl, rfl, (by rw [hbv_2]; rfl), trivial⟩, hS.weak ⟨rfl, trivial⟩⟩)
 intro a w hF hS
 refine step hF (Y.assign hF rfl) rfl fun a hF => nil (then_n (seq (seq (region (step hF (Y.assign hF rfl) rfl fun a hF => nil (then_n (block (loop_cut (body := w7sound_b1 l) (out := out) (fun s a w => ∃ (ok : Bool) (i : Int), s = (ok, i) ∧ Frm 112 [] [(1, .pointer (some ⟨b, 0, none⟩)), (2, .bool false), (3, .bool ok), (4, .int .i64 i)] a ∧ St w0 D0 D0 [(1, .cells b [.int .i64 l.Ring, .slice p l.Starts.length c, .slice p_1 l.Events.length c_1] 25)] w) ((t_1 && (decide ((l.Events.length : Int) ≤ 10))), 0) h ⟨(t_1 && (decide ((l.Events.length : Int) ≤ 10))), 0, rfl, hF.weak ⟨rfl, rfl, rfl, rfl, trivial⟩, hS.weak ⟨rfl, trivial⟩⟩ ?_))))))))
 rintro s a w xo ⟨ok, i, rfl, hF, hS⟩ h hxo
 unfold w7sound_b1 at h
 dsimp only at h
 refine seq (seq (region (step hF (Y.move hF rfl) rfl fun a hF => step hF (Y.move hF rfl) rfl fun a hF => join (N := 112) (rs := []) (w0 := w0) (D0 := D0) 6 (us := [(1, .pointer (some ⟨b, 0, none⟩)), (2, .bool false), (3, .bool ok), (4, .int .i64 i), (34, .bool (ok && (decide (i < (l.Starts.length : Int)))))]) (ms := [(1, .cells b [.int .i64 l.Ring, .slice p l.Starts.length c, .slice p_1 l.Events.length c_1] 25)]) (D' := D0) ?_ ?_)))
 ·rcases bcases ok with hbv_3 | hbv_3
  ·skip
   refine guard_on hF rfl rfl hbv_3 (step hF (Y.move hF rfl) rfl fun a hF => guard_on hF rfl rfl hbv_3 (step hF (Y.fieldAddr fo_25_1 hF rfl) rfl fun a hF => guard_on hF rfl rfl hbv_3 (step hF (Y.load1L 1 sz_22 hF rfl hS rfl rfl) rfl fun a hF => guard_on hF rfl rfl hbv_3 (step hF (Y.lenSl u_22 hF rfl) rfl fun a hF => guard_on hF rfl rfl hbv_3 (step hF (Y.lss hF rfl rfl) rfl fun a hF => step hF (Y.pick_t hF rfl hbv_3 rfl) rfl fun a hF => nil (then_n ⟨hF.weak ⟨rfl, rfl, rfl, rfl, (by rw [hbv_3]; rfl), trivial⟩, hS.weak ⟨rfl, trivial⟩⟩))))))
  refine guard_off hF rfl rfl hbv_3 rfl fun a hF => guard_off hF rfl rfl hbv_3 rfl fun a hF => guard_off hF rfl rfl hbv_3 rfl fun a hF => guard_off hF rfl rfl hbv_3 rfl fun a hF => guard_off hF rfl rfl hbv_3 rfl fun a hF => step hF (Y.pick_f hF rfl hbv_3 rfl) rfl fun a hF => nil (then_n ⟨hF.weak ⟨rfl, rfl, rfl, rfl, (by rw [hbv_3]; rfl), trivial⟩, hS.weak ⟨rfl, trivial⟩⟩)
 intro a w hF hS
 refine nil (then_n (cond_b hF rfl (fun hbv_4 => ?_) (fun hbv_4 => ?_)))
 ·replace h := cond_t h hbv_4
  refine skip_ (then_n (seq (block ?_)))
  obtain ⟨e, hx_3, h⟩ := bind_some h
  obtain ⟨rv_3, hx_4, h⟩ := bind_some h
  obtain ⟨t_2, ht_2, h⟩ := bind_some h
  refine drawsV 19 (.flt 0 (.flt 1 (.flt 2 (.flt 3 (.flt 4 (.flt 5 (.flt 6 (.flt 7 (.flt 8 (.alt 9 (.flt 10 (.flt 11 (.flt 12 (.flt 13 (.flt 14 (.flt 15 (.flt 16 (.alt 17 (.flt 18 .done) .stop)))))))) .stop)))))))))) mixed_ (by kernel_rfl) (fun w => St w0 D0 D0 [(1, .cells b [.int .i64 l.Ring, .slice p l.Starts.length c, .slice p_1 l.Events.length c_1] 25)] w) (fun a w => Frm 112 [] [(1, .pointer (some ⟨b, 0, none⟩)), (2, .bool false), (3, .bool ok), (4, .int .i64 i), (55, .bool t_2)] a ∧ St w0 D0 D0 [(1, .cells b [.int .i64 l.Ring, .slice p l.Starts.length c, .slice p_1 l.Events.length c_1] 25)] w) (hS.weak (ms := [(1, .cells b [.int .i64 l.Ring, .slice p l.Starts.length c, .slice p_1 l.Events.length c_1] 25)]) ⟨rfl, trivial⟩).drew (fun _ _ _ _ h => h) ?_ ?_
  ·replace hS := hS.drew
   have hle0 := hS.le
   rcases bcases rv_3 with hbv_5 | hbv_5
   ·skip
    replace ht_2 := cond_t ht_2 hbv_5
    obtain ⟨rv_4, hx_5, ht_2⟩ := bind_some ht_2
    obtain rfl := some_inj ht_2
    refine stepV (i := 0) rfl hF (fun w hS => Y.fieldAddr fo_25_1 hF rfl) rfl fun a hF => stepV (i := 1) rfl hF (fun w hS => Y.load1L 1 sz_22 hF rfl hS rfl rfl) rfl fun a hF => stepV (i := 2) rfl hF (fun w hS => Y.move hF rfl) rfl fun a hF => ?_
    obtain ⟨b_3, o_2, hE_2, hY_2⟩ := Y.indexS (P := Tryd.prog) (C := C_SlaveStart) (xs := l.Starts) (T := 22) (x := (.tmp 38)) (y := (.tmp 39)) u_22 sz_57 hF rfl rfl (hs).1 hx_3
    obtain ⟨cc_2, hc_2, hcell_2⟩ := hE_2.open
    obtain rfl := C_SlaveStart.open hc_2
    refine stepV (i := 3) rfl hF (fun w hS => hY_2) rfl fun a hF => stepV (i := 4) rfl hF (fun w hS => Y.fieldAddr fo_57_0 hF rfl) rfl fun a hF => stepV (i := 5) rfl hF (fun w hS => Y.load1 sz_3 hF rfl (hcell_2 _ hS.stab 0 _ rfl)) rfl fun a hF => stepV (i := 6) rfl hF (fun w hS => Y.fieldAddr fo_25_0 hF rfl) rfl fun a hF => stepV (i := 7) rfl hF (fun w hS => Y.load1L 1 sz_3 hF rfl hS rfl rfl) rfl fun a hF => stepV (i := 8) rfl hF (fun w hS => Y.sub hF rfl rfl) rfl fun a hF => oneV (i := 9) rfl ?_ trivial
    refine O.callP (us := [.int .i64 e.Shown, .int .i64 0, .int .i64 (wr (l.Ring - 1))]) ca_50 hF hS (r0Lies_ok hS.stab e.Shown 0 (wr (l.Ring - 1)) rv_3 hx_4) rfl rfl fun a w hF hS => nil (then_n ⟨hS.weak ⟨rfl, trivial⟩, ?_⟩)
    refine stepV (i := 10) rfl hF (fun w hS => Y.move hF rfl) rfl fun a hF => stepV_on (i := 11) rfl hF rfl rfl hbv_5 (fun w hS => Y.fieldAddr fo_25_1 hF rfl) rfl fun a hF => stepV_on (i := 12) rfl hF rfl rfl hbv_5 (fun w hS => Y.load1L 1 sz_22 hF rfl hS rfl rfl) rfl fun a hF => stepV_on (i := 13) rfl hF rfl rfl hbv_5 (fun w hS => Y.move hF rfl) rfl fun a hF => ?_
    obtain ⟨b_4, o_3, hE_3, hY_3⟩ := Y.indexS (P := Tryd.prog) (C := C_SlaveStart) (xs := l.Starts) (T := 22) (x := (.tmp 49)) (y := (.tmp 50)) u_22 sz_57 hF rfl rfl (hs).1 hx_3
    obtain ⟨cc_3, hc_3, hcell_3⟩ := hE_3.open
    obtain rfl := C_SlaveStart.open hc_3
    refine stepV_on (i := 14) rfl hF rfl rfl hbv_5 (fun w hS => hY_3) rfl fun a hF => stepV_on (i := 15) rfl hF rfl rfl hbv_5 (fun w hS => Y.fieldAddr fo_57_1 hF rfl) rfl fun a hF => stepV_on (i := 16) rfl hF rfl rfl hbv_5 (fun w hS => Y.load1 sz_3 hF rfl (hcell_3 _ hS.stab 1 _ rfl)) rfl fun a hF => oneV (i := 17) rfl ?_ trivial
    refine guard_on hF rfl rfl hbv_5 (O.callP (us := [.int .i64 e.Last, .int .i64 0, .int .i64 1]) ca_50 hF hS (r0Lies_ok hS.stab e.Last 0 1 rv_4 hx_5) rfl rfl fun a w hF hS => nil (then_n ⟨hS.weak ⟨rfl, trivial⟩, ?_⟩))
    refine stepV (i := 18) rfl hF (fun w hS => Y.pick_t hF rfl hbv_5 rfl) rfl fun a hF => toTailV ⟨hF.weak ⟨rfl, rfl, rfl, rfl, rfl, trivial⟩, hS.weak ⟨rfl, trivial⟩⟩
   replace ht_2 := cond_f ht_2 hbv_5
   obtain rfl := some_inj ht_2
   refine stepV (i := 0) rfl hF (fun w hS => Y.fieldAddr fo_25_1 hF rfl) rfl fun a hF => stepV (i := 1) rfl hF (fun w hS => Y.load1L 1 sz_22 hF rfl hS rfl rfl) rfl fun a hF => stepV (i := 2) rfl hF (fun w hS => Y.move hF rfl) rfl fun a hF => ?_
   obtain ⟨b_5, o_4, hE_4, hY_4⟩ := Y.indexS (P := Tryd.prog) (C := C_SlaveStart) (xs := l.Starts) (T := 22) (x := (.tmp 38)) (y := (.tmp 39)) u_22 sz_57 hF rfl rfl (hs).1 hx_3
   obtain ⟨cc_4, hc_4, hcell_4⟩ := hE_4.open
   obtain rfl := C_SlaveStart.open hc_4
   refine stepV (i := 3) rfl hF (fun w hS => hY_4) rfl fun a hF => stepV (i := 4) rfl hF (fun w hS => Y.fieldAddr fo_57_0 hF rfl) rfl fun a hF => stepV (i := 5) rfl hF (fun w hS => Y.load1 sz_3 hF rfl (hcell_4 _ hS.stab 0 _ rfl)) rfl fun a hF => stepV (i := 6) rfl hF (fun w hS => Y.fieldAddr fo_25_0 hF rfl) rfl fun a hF => stepV (i := 7) rfl hF (fun w hS => Y.load1L 1 sz_3 hF rfl hS rfl rfl) rfl fun a hF => stepV (i := 8) rfl hF (fun w hS => Y.sub hF rfl rfl) rfl fun a hF => oneV (i := 9) rfl ?_ trivial
   refine O.callP (us := [.int .i64 e.Shown, .int .i64 0, .int .i64 (wr (l.Ring - 1))]) ca_50 hF hS (r0Lies_ok hS.stab e.Shown 0 (wr (l.Ring - 1)) rv_3 hx_4) rfl rfl fun a w hF hS => nil (then_n ⟨hS.weak ⟨rfl, trivial⟩, ?_⟩)
   refine stepV (i := 10) rfl hF (fun w hS => Y.move hF rfl) rfl fun a hF => stepV_off (i := 11) rfl hF rfl rfl hbv_5 rfl fun a hF => stepV_off (i := 12) rfl hF rfl rfl hbv_5 rfl fun a hF => stepV_off (i := 13) rfl hF rfl rfl hbv_5 rfl fun a hF => stepV_off (i := 14) rfl hF rfl rfl hbv_5 rfl fun a hF => stepV_off (i := 15) rfl hF rfl rfl hbv_5 rfl fun a hF => stepV_off (i := 16) rfl hF rfl rfl hbv_5 rfl fun a hF => oneV (i := 17) rfl ?_ trivial
   refine guard_off hF rfl rfl hbv_5 rfl fun a hF => nil (then_n ⟨hS.weak ⟨rfl, trivial⟩, ?_⟩)
   refine stepV (i := 18) rfl hF (fun w hS => Y.pick_f hF rfl hbv_5 rfl) rfl fun a hF => toTailV ⟨hF.weak ⟨rfl, rfl, rfl, rfl, rfl, trivial⟩, hS.weak ⟨rfl, trivial⟩⟩
  rintro a w ⟨hF, hS⟩
  refine step hF (Y.assign hF rfl) rfl fun a hF => nil (blk_n (then_n (region (step hF (Y.move hF rfl) rfl fun a hF => step hF (Y.add hF rfl rfl) rfl fun a hF => step hF (Y.assign hF rfl) rfl fun a hF => nil (then_n (⟨_, nxt_some h, t_2, (wr (i + 1)), rfl, hF.weak ⟨rfl, rfl, rfl, rfl, trivial⟩, hS.weak ⟨rfl, trivial⟩⟩))))))
 replace h := cond_f h hbv_4
 refine exit_ (then_x (then_x (blk_hit (then_n ?_))))
 replace h := ext_some h hxo
 refine seq (seq (region (step hF (Y.assign hF rfl) rfl fun a hF => nil (then_n (block (loop_cut (body := w7sound_b2 l) (out := out) (fun s a w => ∃ (ok_1 : Bool) (i_1 : Int), s = (ok_1, i_1) ∧ Frm 112 [] [(1, .pointer (some ⟨b, 0, none⟩)), (2, .bool false), (3, .bool ok_1), (5, .int .i64 i_1)] a ∧ St w0 D0 D0 [(1, .cells b [.int .i64 l.Ring, .slice p l.Starts.length c, .slice p_1 l.Events.length c_1] 25)] w) (ok, 0) h ⟨ok, 0, rfl, hF.weak ⟨rfl, rfl, rfl, rfl, trivial⟩, hS.weak ⟨rfl, trivial⟩⟩ ?_))))))
 rintro s a w xo_1 ⟨ok_1, i_1, rfl, hF, hS⟩ h hxo_1
 unfold w7sound_b2 at h
 dsimp only at h
 refine seq (seq (region (step hF (Y.move hF rfl) rfl fun a hF => step hF (Y.move hF rfl) rfl fun a hF => join (N := 112) (rs := []) (w0 := w0) (D0 := D0) 6 (us := [(1, .pointer (some ⟨b, 0, none⟩)), (2, .bool false), (3, .bool ok_1), (5, .int .i64 i_1), (63, .bool (ok_1 && (decide (i_1 < (l.Events.length : Int)))))]) (ms := [(1, .cells b [.int .i64 l.Ring, .slice p l.Starts.length c, .slice p_1 l.Events.length c_1] 25)]) (D' := D0) ?_ ?_)))
 ·rcases bcases ok_1 with hbv_6 | hbv_6
  ·skip
   refine guard_on hF rfl rfl hbv_6 (step hF (Y.move hF rfl) rfl fun a hF => guard_on hF rfl rfl hbv_6 (step hF (Y.fieldAddr fo_25_2 hF rfl) rfl fun a hF => guard_on hF rfl rfl hbv_6 (step hF (Y.load1L 1 sz_23 hF rfl hS rfl rfl) rfl fun a hF => guard_on hF rfl rfl hbv_6 (step hF (Y.lenSl u_23 hF rfl) rfl fun a hF => guard_on hF rfl rfl hbv_6 (step hF (Y.lss hF rfl rfl) rfl fun a hF => step hF (Y.pick_t hF rfl hbv_6 rfl) rfl fun a hF => nil (then_n ⟨hF.weak ⟨rfl, rfl, rfl, rfl, (by rw [hbv_6]; rfl), trivial⟩, hS.weak ⟨rfl, trivial⟩⟩))))))
  refine guard_off hF rfl rfl hbv_6 rfl fun a hF => guard_off hF rfl rfl hbv_6 rfl fun a hF => guard_off hF rfl rfl hbv_6 rfl fun a hF => guard_off hF rfl rfl hbv_6 rfl fun a hF => guard_off hF rfl rfl hbv_6 rfl fun a hF => step hF (Y.pick_f hF rfl hbv_6 rfl) rfl fun a hF => nil (then_n ⟨hF.weak ⟨rfl, rfl, rfl, rfl, (by rw [hbv_6]; rfl), trivial⟩, hS.weak ⟨rfl, trivial⟩⟩)
 intro a w hF hS
 refine nil (then_n (cond_b hF rfl (fun hbv_7 => ?_) (fun hbv_7 => ?_)))
 ·replace h := cond_t h hbv_7
  refine skip_ (then_n (seq (block (seq (region (step hF (Y.fieldAddr fo_25_2 hF rfl) rfl fun a hF => step hF (Y.load1L 1 sz_23 hF rfl hS rfl rfl) rfl fun a hF => step hF (Y.move hF rfl) rfl fun a hF => ?_))))))
  obtain ⟨e_1, hx_6, h⟩ := bind_some h
  obtain ⟨b_6, o_5, hE_5, hY_5⟩ := Y.indexS (P := Tryd.prog) (C := C_SlaveEvent) (xs := l.Events) (T := 23) (x := (.tmp 67)) (y := (.tmp 68)) u_23 sz_66 hF rfl rfl (hs_1).1 hx_6
  obtain ⟨cc_5, hc_5, hcell_5⟩ := hE_5.open
  obtain rfl := C_SlaveEvent.open hc_5
  refine step hF (hY_5) rfl fun a hF => step hF (Y.loadNE (o := o_5) (k := 0) sz_66 hF rfl (hcell_5 _ hS.stab) rfl rfl) rfl fun a hF => O.alloc 2 zc_66 hF hS rfl fun b_7 a w hF hS => O.store (us := [.int .i64 e_1.Kind, .int .i64 e_1.First, .int .i64 e_1.Count, .int .i64 e_1.Lost, .int .i64 e_1.Who, .int .i64 e_1.Shown]) 2 sz_66 hF rfl rfl rfl rfl hS rfl rfl fun a w hF hS => nil (then_n (region (step hF (Y.fieldAddr fo_66_0 hF rfl) rfl fun a hF => step hF (Y.load1L 2 sz_3 hF rfl hS rfl rfl) rfl fun a hF => ?_)))
  obtain ⟨rv_5, hx_7, h⟩ := bind_some h
  refine O.callP (us := [.int .i64 e_1.Kind, .int .i64 0, .int .i64 2]) ca_50 hF hS (r0Lies_ok hS.stab e_1.Kind 0 2 rv_5 hx_7) rfl rfl fun a w hF hS => step hF (Y.move hF rfl) rfl fun a hF => ?_
  obtain ⟨t_8, ht_8, h⟩ := bind_some h
  refine join (N := 112) (rs := []) (w0 := w0) (D0 := D0) 36 (us := [(1, .pointer (some ⟨b, 0, none⟩)), (2, .bool false), (3, .bool ok_1), (5, .int .i64 i_1), (110, .bool t_8)]) (ms := [(1, .cells b [.int .i64 l.Ring, .slice p l.Starts.length c, .slice p_1 l.Events.length c_1] 25), (2, .cells b_7 [.int .i64 e_1.Kind, .int .i64 e_1.First, .int .i64 e_1.Count, .int .i64 e_1.Lost, .int .i64 e_1.Who, .int .i64 e_1.Shown] 66)]) (D' := D0) ?_ ?_
  ·rcases bcases rv_5 with hbv_8 | hbv_8
   ·skip
    replace h := cond_t ht_8 hbv_8
    refine guard_on hF rfl rfl hbv_8 (step hF (Y.fieldAddr fo_66_0 hF rfl) rfl fun a hF => guard_on hF rfl rfl hbv_8 (step hF (Y.load1L 2 sz_3 hF rfl hS rfl rfl) rfl fun a hF => guard_on hF rfl rfl hbv_8 (step hF (Y.eql hF rfl rfl) rfl fun a hF => guard_on hF rfl rfl hbv_8 (step hF (Y.move hF rfl) rfl fun a hF => ?_))))
    obtain ⟨t_3, ht_3, h⟩ := bind_some h
    refine join (N := 112) (rs := []) (w0 := w0) (D0 := D0) 8 (us := [(1, .pointer (some ⟨b, 0, none⟩)), (2, .bool false), (3, .bool ok_1), (5, .int .i64 i_1), (6, .pointer (some ⟨b_7, 0, none⟩)), (74, .bool rv_5), (86, .bool t_3)]) (ms := [(1, .cells b [.int .i64 l.Ring, .slice p l.Starts.length c, .slice p_1 l.Events.length c_1] 25), (2, .cells b_7 [.int .i64 e_1.Kind, .int .i64 e_1.First, .int .i64 e_1.Count, .int .i64 e_1.Lost, .int .i64 e_1.Who, .int .i64 e_1.Shown] 66)]) (D' := D0) ?_ ?_
    ·rcases bcases (e_1.Kind == 2) with hbv_9 | hbv_9
     ·skip
      replace h := cond_t ht_3 hbv_9
      refine guard_on hF rfl rfl hbv_9 (step hF (Y.fieldAddr fo_66_4 hF rfl) rfl fun a hF => guard_on hF rfl rfl hbv_9 (step hF (Y.load1L 2 sz_3 hF rfl hS rfl rfl) rfl fun a hF => guard_on hF rfl rfl hbv_9 (step hF (Y.fieldAddr fo_25_1 hF rfl) rfl fun a hF => guard_on hF rfl rfl hbv_9 (step hF (Y.load1L 1 sz_22 hF rfl hS rfl rfl) rfl fun a hF => guard_on hF rfl rfl hbv_9 (step hF (Y.lenSl u_22 hF rfl) rfl fun a hF => guard_on hF rfl rfl hbv_9 (step hF (Y.sub hF rfl rfl) rfl fun a hF => guard_on hF rfl rfl hbv_9 ?_))))))
      obtain ⟨rv_6, hx_8, h⟩ := bind_some h
      refine O.callP (us := [.int .i64 e_1.Who, .int .i64 0, .int .i64 (wr ((l.Starts.length : Int) - 1))]) ca_50 hF hS (r0Lies_ok hS.stab e_1.Who 0 (wr ((l.Starts.length : Int) - 1)) rv_6 hx_8) rfl rfl fun a w hF hS => guard_on hF rfl rfl hbv_8 (step hF (Y.pick_t hF rfl hbv_9 rfl) rfl fun a hF => ?_)
      obtain rfl := some_inj h
      exact nil (then_n ⟨hF.weak ⟨rfl, rfl, rfl, rfl, rfl, rfl, rfl, trivial⟩, hS.weak ⟨rfl, rfl, trivial⟩⟩)
     replace h := cond_f ht_3 hbv_9
     refine guard_off hF rfl rfl hbv_9 rfl fun a hF => guard_off hF rfl rfl hbv_9 rfl fun a hF => guard_off hF rfl rfl hbv_9 rfl fun a hF => guard_off hF rfl rfl hbv_9 rfl fun a hF => guard_off hF rfl rfl hbv_9 rfl fun a hF => guard_off hF rfl rfl hbv_9 rfl fun a hF => guard_off hF rfl rfl hbv_9 rfl fun a hF => guard_on hF rfl rfl hbv_8 (step hF (Y.pick_f hF rfl hbv_9 rfl) rfl fun a hF => ?_)
     obtain rfl := some_inj h
     exact nil (then_n ⟨hF.weak ⟨rfl, rfl, rfl, rfl, rfl, rfl, rfl, trivial⟩, hS.weak ⟨rfl, rfl, trivial⟩⟩)
    intro a w hF hS
    refine guard_on hF rfl rfl hbv_8 (step hF (Y.move hF rfl) rfl fun a hF => ?_)
    obtain ⟨t_4, ht_4, h⟩ := bind_some h
    refine join (N := 112) (rs := []) (w0 := w0) (D0 := D0) 7 (us := [(1, .pointer (some ⟨b, 0, none⟩)), (2, .bool false), (3, .bool ok_1), (5, .int .i64 i_1), (6, .pointer (some ⟨b_7, 0, none⟩)), (74, .bool rv_5), (94, .bool t_4)]) (ms := [(1, .cells b [.int .i64 l.Ring, .slice p l.Starts.length c, .slice p_1 l.Events.length c_1] 25), (2, .cells b_7 [.int .i64 e_1.Kind, .int .i64 e_1.First, .int .i64 e_1.Count, .int .i64 e_1.Lost, .int .i64 e_1.Who, .int .i64 e_1.Shown] 66)]) (D' := D0) ?_ ?_
    ·rcases bcases t_3 with hbv_10 | hbv_10
     ·skip
      replace h := cond_t ht_4 hbv_10
      refine guard_on hF rfl rfl hbv_10 (step hF (Y.fieldAddr fo_66_5 hF rfl) rfl fun a hF => guard_on hF rfl rfl hbv_10 (step hF (Y.load1L 2 sz_3 hF rfl hS rfl rfl) rfl fun a hF => guard_on hF rfl rfl hbv_10 (step hF (Y.fieldAddr fo_25_0 hF rfl) rfl fun a hF => guard_on hF rfl rfl hbv_10 (step hF (Y.load1L 1 sz_3 hF rfl hS rfl rfl) rfl fun a hF => guard_on hF rfl rfl hbv_10 (step hF (Y.sub hF rfl rfl) rfl fun a hF => guard_on hF rfl rfl hbv_10 ?_)))))
      obtain ⟨rv_7, hx_9, h⟩ := bind_some h
      refine O.callP (us := [.int .i64 e_1.Shown, .int .i64 0, .int .i64 (wr (l.Ring - 1))]) ca_50 hF hS (r0Lies_ok hS.stab e_1.Shown 0 (wr (l.Ring - 1)) rv_7 hx_9) rfl rfl fun a w hF hS => guard_on hF rfl rfl hbv_8 (step hF (Y.pick_t hF rfl hbv_10 rfl) rfl fun a hF => ?_)
      obtain rfl := some_inj h
      exact nil (then_n ⟨hF.weak ⟨rfl, rfl, rfl, rfl, rfl, rfl, rfl, trivial⟩, hS.weak ⟨rfl, rfl, trivial⟩⟩)
     replace h := cond_f ht_4 hbv_10
     refine guard_off hF rfl rfl hbv_10 rfl fun a hF => guard_off hF rfl rfl hbv_10 rfl fun a hF => guard_off hF rfl rfl hbv_10 rfl fun a hF => guard_off hF rfl rfl hbv_10 rfl fun a hF => guard_off hF rfl rfl hbv_10 rfl fun a hF => guard_off hF rfl rfl hbv_10 rfl fun a hF => guard_on hF rfl rfl hbv_8 (step hF (Y.pick_f hF rfl hbv_10 rfl) rfl fun a hF => ?_)
     obtain rfl := some_inj h
     exact nil (then_n ⟨hF.weak ⟨rfl, rfl, rfl, rfl, rfl, rfl, rfl, trivial⟩, hS.weak ⟨rfl, rfl, trivial⟩⟩)
    intro a w hF hS
    refine guard_on hF rfl rfl hbv_8 (step hF (Y.move hF rfl) rfl fun a hF => ?_)
    obtain ⟨t_7, ht_7, h⟩ := bind_some h
    refine join (N := 112) (rs := []) (w0 := w0) (D0 := D0) 14 (us := [(1, .pointer (some ⟨b, 0, none⟩)), (2, .bool false), (3, .bool ok_1), (5, .int .i64 i_1), (74, .bool rv_5), (109, .bool t_7)]) (ms := [(1, .cells b [.int .i64 l.Ring, .slice p l.Starts.length c, .slice p_1 l.Events.length c_1] 25), (2, .cells b_7 [.int .i64 e_1.Kind, .int .i64 e_1.First, .int .i64 e_1.Count, .int .i64 e_1.Lost, .int .i64 e_1.Who, .int .i64 e_1.Shown] 66)]) (D' := D0) ?_ ?_
    ·rcases bcases t_4 with hbv_11 | hbv_11
     ·skip
      replace h := cond_t ht_7 hbv_11
      refine guard_off hF rfl rfl hbv_11 rfl fun a hF => guard_off hF rfl rfl hbv_11 rfl fun a hF => guard_off hF rfl rfl hbv_11 rfl fun a hF => guard_off hF rfl rfl hbv_11 rfl fun a hF => guard_offu hF rfl rfl rfl fun a hF => guard_offu hF rfl rfl rfl fun a hF => guard_offu hF rfl rfl rfl fun a hF => guard_off hF rfl rfl hbv_11 rfl fun a hF => guard_off hF rfl rfl hbv_11 rfl fun a hF => guard_offu hF rfl rfl rfl fun a hF => guard_offu hF rfl rfl rfl fun a hF => guard_offu hF rfl rfl rfl fun a hF => guard_off hF rfl rfl hbv_11 rfl fun a hF => guard_on hF rfl rfl hbv_8 (step hF (Y.pick_t hF rfl hbv_11 rfl) rfl fun a hF => ?_)
      obtain rfl := some_inj h
      exact nil (then_n ⟨hF.weak ⟨rfl, rfl, rfl, rfl, rfl, rfl, trivial⟩, hS.weak ⟨rfl, rfl, trivial⟩⟩)
     replace h := cond_f ht_7 hbv_11
     refine guard_on hF rfl rfl hbv_11 (step hF (Y.fieldAddr fo_66_0 hF rfl) rfl fun a hF => guard_on hF rfl rfl hbv_11 (step hF (Y.load1L 2 sz_3 hF rfl hS rfl rfl) rfl fun a hF => guard_on hF rfl rfl hbv_11 (step hF (Y.neq hF rfl rfl) rfl fun a hF => guard_on hF rfl rfl hbv_11 (step hF (Y.move hF rfl) rfl fun a hF => ?_))))
     obtain ⟨t_5, ht_5, h⟩ := bind_some h
     refine join (N := 112) (rs := []) (w0 := w0) (D0 := D0) 4 (us := [(1, .pointer (some ⟨b, 0, none⟩)), (2, .bool false), (3, .bool ok_1), (5, .int .i64 i_1), (6, .pointer (some ⟨b_7, 0, none⟩)), (74, .bool rv_5), (95, .bool t_4), (103, .bool t_5)]) (ms := [(1, .cells b [.int .i64 l.Ring, .slice p l.Starts.length c, .slice p_1 l.Events.length c_1] 25), (2, .cells b_7 [.int .i64 e_1.Kind, .int .i64 e_1.First, .int .i64 e_1.Count, .int .i64 e_1.Lost, .int .i64 e_1.Who, .int .i64 e_1.Shown] 66)]) (D' := D0) ?_ ?_
     ·rcases bcases (e_1.Kind != 2) with hbv_12 | hbv_12
      ·skip
       replace h := cond_t ht_5 hbv_12
       refine guard_on hF rfl rfl hbv_12 (step hF (Y.fieldAddr fo_66_2 hF rfl) rfl fun a hF => guard_on hF rfl rfl hbv_12 (step hF (Y.load1L 2 sz_3 hF rfl hS rfl rfl) rfl fun a hF => guard_on hF rfl rfl hbv_12 ?_))
       obtain ⟨rv_8, hx_10, h⟩ := bind_some h
       refine O.callP (us := [.int .i64 e_1.Count, .int .i64 0, .int .i64 60]) ca_50 hF hS (r0Lies_ok hS.stab e_1.Count 0 60 rv_8 hx_10) rfl rfl fun a w hF hS => guard_on hF rfl rfl hbv_11 (step hF (Y.pick_t hF rfl hbv_12 rfl) rfl fun a hF => ?_)
       obtain rfl := some_inj h
       exact nil (then_n ⟨hF.weak ⟨rfl, rfl, rfl, rfl, rfl, rfl, rfl, rfl, trivial⟩, hS.weak ⟨rfl, rfl, trivial⟩⟩)
      replace h := cond_f ht_5 hbv_12
      refine guard_off hF rfl rfl hbv_12 rfl fun a hF => guard_off hF rfl rfl hbv_12 rfl fun a hF => guard_off hF rfl rfl hbv_12 rfl fun a hF => guard_on hF rfl rfl hbv_11 (step hF (Y.pick_f hF rfl hbv_12 rfl) rfl fun a hF => ?_)
      obtain rfl := some_inj h
      exact nil (then_n ⟨hF.weak ⟨rfl, rfl, rfl, rfl, rfl, rfl, rfl, rfl, trivial⟩, hS.weak ⟨rfl, rfl, trivial⟩⟩)
     intro a w hF hS
     refine guard_on hF rfl rfl hbv_11 (step hF (Y.move hF rfl) rfl fun a hF => ?_)
     obtain ⟨t_6, ht_6, h⟩ := bind_some h
     refine join (N := 112) (rs := []) (w0 := w0) (D0 := D0) 4 (us := [(1, .pointer (some ⟨b, 0, none⟩)), (2, .bool false), (3, .bool ok_1), (5, .int .i64 i_1), (74, .bool rv_5), (95, .bool t_4), (108, .bool t_6)]) (ms := [(1, .cells b [.int .i64 l.Ring, .slice p l.Starts.length c, .slice p_1 l.Events.length c_1] 25), (2, .cells b_7 [.int .i64 e_1.Kind, .int .i64 e_1.First, .int .i64 e_1.Count, .int .i64 e_1.Lost, .int .i64 e_1.Who, .int .i64 e_1.Shown] 66)]) (D' := D0) ?_ ?_
     ·rcases bcases t_5 with hbv_13 | hbv_13
      ·skip
       replace h := cond_t ht_6 hbv_13
       refine guard_on hF rfl rfl hbv_13 (step hF (Y.fieldAddr fo_66_3 hF rfl) rfl fun a hF => guard_on hF rfl rfl hbv_13 (step hF (Y.load1L 2 sz_3 hF rfl hS rfl rfl) rfl fun a hF => guard_on hF rfl rfl hbv_13 ?_))
       obtain ⟨rv_9, hx_11, h⟩ := bind_some h
       refine O.callP (us := [.int .i64 e_1.Lost, .int .i64 0, .int .i64 3]) ca_50 hF hS (r0Lies_ok hS.stab e_1.Lost 0 3 rv_9 hx_11) rfl rfl fun a w hF hS => guard_on hF rfl rfl hbv_11 (step hF (Y.pick_t hF rfl hbv_13 rfl) rfl fun a hF => ?_)
       obtain rfl := some_inj h
       exact nil (then_n ⟨hF.weak ⟨rfl, rfl, rfl, rfl, rfl, rfl, rfl, trivial⟩, hS.weak ⟨rfl, rfl, trivial⟩⟩)
      replace h := cond_f ht_6 hbv_13
      refine guard_off hF rfl rfl hbv_13 rfl fun a hF => guard_off hF rfl rfl hbv_13 rfl fun a hF => guard_off hF rfl rfl hbv_13 rfl fun a hF => guard_on hF rfl rfl hbv_11 (step hF (Y.pick_f hF rfl hbv_13 rfl) rfl fun a hF => ?_)
      obtain rfl := some_inj h
      exact nil (then_n ⟨hF.weak ⟨rfl, rfl, rfl, rfl, rfl, rfl, rfl, trivial⟩, hS.weak ⟨rfl, rfl, trivial⟩⟩)
     intro a w hF hS
     refine guard_on hF rfl rfl hbv_8 (step hF (Y.pick_f hF rfl hbv_11 rfl) rfl fun a hF => ?_)
     obtain rfl := some_inj h
     exact nil (then_n ⟨hF.weak ⟨rfl, rfl, rfl, rfl, rfl, rfl, trivial⟩, hS.weak ⟨rfl, rfl, trivial⟩⟩)
    intro a w hF hS
    refine step hF (Y.pick_t hF rfl hbv_8 rfl) rfl fun a hF => ?_
    obtain rfl := some_inj h
    exact nil (then_n ⟨hF.weak ⟨rfl, rfl, rfl, rfl, rfl, trivial⟩, hS.weak ⟨rfl, rfl, trivial⟩⟩)
   replace h := cond_f ht_8 hbv_8
   refine guard_off hF rfl rfl hbv_8 rfl fun a hF => guard_off hF rfl rfl hbv_8 rfl fun a hF => guard_off hF rfl rfl hbv_8 rfl fun a hF => guard_off hF rfl rfl hbv_8 rfl fun a hF => guard_offu hF rfl rfl rfl fun a hF => guard_offu hF rfl rfl rfl fun a hF => guard_offu hF rfl rfl rfl fun a hF => guard_offu hF rfl rfl rfl fun a hF => guard_offu hF rfl rfl rfl fun a hF => guard_offu hF rfl rfl rfl fun a hF => guard_offu hF rfl rfl rfl fun a hF => guard_off hF rfl rfl hbv_8 rfl fun a hF => guard_off hF rfl rfl hbv_8 rfl fun a hF => guard_offu hF rfl rfl rfl fun a hF => guard_offu hF rfl rfl rfl fun a hF => guard_offu hF rfl rfl rfl fun a hF => guard_offu hF rfl rfl rfl fun a hF => guard_offu hF rfl rfl rfl fun a hF => guard_offu hF rfl rfl rfl fun a hF => guard_off hF rfl rfl hbv_8 rfl fun a hF => guard_off hF rfl rfl hbv_8 rfl fun a hF => guard_offu hF rfl rfl rfl fun a hF => guard_offu hF rfl rfl rfl fun a hF => guard_offu hF rfl rfl rfl fun a hF => guard_offu hF rfl rfl rfl fun a hF => guard_offu hF rfl rfl rfl fun a hF => guard_offu hF rfl rfl rfl fun a hF => guard_offu hF rfl rfl rfl fun a hF => guard_offu hF rfl rfl rfl fun a hF => guard_offu hF rfl rfl rfl fun a hF => guard_offu hF rfl rfl rfl fun a hF => guard_offu hF rfl rfl rfl fun a hF => guard_offu hF rfl rfl rfl fun a hF => guard_offu hF rfl rfl rfl fun a hF => guard_off hF rfl rfl hbv_8 rfl fun a hF => step hF (Y.pick_f hF rfl hbv_8 rfl) rfl fun a hF => ?_
   obtain rfl := some_inj h
   exact nil (then_n ⟨hF.weak ⟨rfl, rfl, rfl, rfl, rfl, trivial⟩, hS.weak ⟨rfl, rfl, trivial⟩⟩)
  intro a w hF hS
  refine step hF (Y.assign hF rfl) rfl fun a hF => nil (blk_n (then_n (region (step hF (Y.move hF rfl) rfl fun a hF => step hF (Y.add hF rfl rfl) rfl fun a hF => step hF (Y.assign hF rfl) rfl fun a hF => nil (then_n (⟨_, nxt_some h, t_8, (wr (i_1 + 1)), rfl, hF.weak ⟨rfl, rfl, rfl, rfl, trivial⟩, hS.weak ⟨rfl, trivial⟩⟩))))))
 replace h := cond_f h hbv_7
 refine exit_ (then_x (then_x (blk_hit (then_n ?_))))
 replace h := ext_some h hxo_1
 refine seq (region (step hF (Y.move hF rfl) rfl fun a hF => step hF (Y.assign hF rfl) rfl fun a hF => nil (then_n (ret_ ?_))))
 obtain rfl := some_inj h
 exact leaveP Tryd.results36 hF hS (.cons (.tmp rfl) .nil) .nil rfl
end Go.Proofs.YtmbgmefmkjeahaaDoor.Rt
