/- Walks of the functions of this seat: what each Go function comes to, as a Lean function, and the proof. Part WR1. Under no conditions. -/
import Derived.Test.YtmbgmefmkjeahaaDoorC6WBZ
set_option linter.unusedVariables false
set_option linter.unusedSimpArgs false
set_option maxRecDepth 100000
set_option maxHeartbeats 4000000
namespace Go.Proofs.YtmbgmefmkjeahaaDoor.Rt
open Go Go.RowKit
noncomputable def r7Check_b2 (l : SlaveLine) : (Bool × Int) → Option ((Bool × Int) ⊕ Int)
 | (ok_1, i_1) =>
  cond (ok_1 && (decide (i_1 < (l.Events.length : Int))))
  ((idx l.Events i_1).bind fun e_1 =>
  cond (e_1.Kind == 0)
  ((r0Lies e_1.First 0 1).bind fun rv_4 =>
  (cond rv_4 ((r0Lies e_1.Count 0 60).bind fun rv_5 =>
  some rv_5) (some false)).bind fun t_2 =>
  (cond t_2 ((r0Lies e_1.Lost 0 3).bind fun rv_6 =>
  some rv_6) (some false)).bind fun t_3 =>
  nxt (t_3, wr (i_1 + 1)))
  (cond (e_1.Kind == 1)
  ((r0Lies e_1.Count 0 60).bind fun rv_7 =>
  (cond rv_7 ((r0Lies e_1.Lost 0 3).bind fun rv_8 =>
  some rv_8) (some false)).bind fun t_4 =>
  nxt (t_4, wr (i_1 + 1)))
  (cond (e_1.Kind == 2)
  ((r0Lies e_1.Who 0 (wr ((l.Starts.length : Int) - 1))).bind fun rv_9 =>
  (cond rv_9 ((r0Lies e_1.Shown 0 (wr (l.Ring - 1))).bind fun rv_10 =>
  some rv_10) (some false)).bind fun t_5 =>
  nxt (t_5, wr (i_1 + 1)))
  (nxt (false, wr (i_1 + 1))))))
  (ext (cond (!ok_1)
  (some 70)
  (some 0)))
noncomputable def r7Check_b1 (l : SlaveLine) : (Bool × Int) → Option ((Bool × Int) ⊕ Int)
 | (ok, i) =>
  cond (ok && (decide (i < (l.Starts.length : Int))))
  ((idx l.Starts i).bind fun e =>
  (r0Lies e.Shown 0 (wr (l.Ring - 1))).bind fun rv_2 =>
  (cond rv_2 ((r0Lies e.Last 0 1).bind fun rv_3 =>
  some rv_3) (some false)).bind fun t_1 =>
  nxt (t_1, wr (i + 1)))
  (ext (loopU (r7Check_b2 l) (ok, 0)))
noncomputable def r7Check (l : SlaveLine) : Option Int :=
  (r0Lies l.Ring 2 60).bind fun rv =>
  (cond rv ((r0Lies (l.Starts.length : Int) 1 4).bind fun rv_1 =>
  some rv_1) (some false)).bind fun t =>
  loopU (r7Check_b1 l) ((t && (decide ((l.Events.length : Int) ≤ 10))), 0)
theorem r7Check_ok {w0 : World} {D0 : Stab} (hD : D0.on w0) (l : SlaveLine) {p : Option Addr} {c : Nat} {p_1 : Option Addr} {c_1 : Nat} (hs : SRc C_SlaveStart D0 l.Starts p c) (hs_1 : SRc C_SlaveEvent D0 l.Events p_1 c_1) (out : Int) (h : r7Check l = some out) : Calls Tryd.prog 20 [.agg #[.int .i64 l.Ring, .slice p l.Starts.length c, .slice p_1 l.Events.length c_1]].toArray w0 (RetP D0 w0 (.int .i64 out)) := by
 refine enter _ 112 Tryd.func20 rfl Tryd.ntmps20 rfl fun a hF => ?_
 replace hF : Frm 112 [] [(0, .agg #[.int .i64 l.Ring, .slice p l.Starts.length c, .slice p_1 l.Events.length c_1])] a := hF
 have hS := St.start hD
 unfold r7Check at h
 refine seq (region (O.box (cs := [.int .i64 l.Ring, .slice p l.Starts.length c, .slice p_1 l.Events.length c_1]) 1 hF rfl rfl hS rfl fun b a w hF hS => step hF (Y.assign hF rfl) rfl fun a hF => nil (then_n (seq (region (step hF (Y.fieldAddr fo_25_0 hF rfl) rfl fun a hF => step hF (Y.load1L 1 sz_3 hF rfl hS rfl rfl) rfl fun a hF => ?_))))))
 obtain ⟨rv, hx, h⟩ := bind_some h
 refine O.callP (us := [.int .i64 l.Ring, .int .i64 2, .int .i64 60]) ca_50 hF hS (r0Lies_ok hS.stab l.Ring 2 60 rv hx) rfl rfl fun a w hF hS => step hF (Y.move hF rfl) rfl fun a hF => ?_
 obtain ⟨t, ht, h⟩ := bind_some h
 refine join (N := 112) (rs := []) (w0 := w0) (D0 := D0) 5 (us := [(1, .pointer (some ⟨b, 0, none⟩)), (2, .int .i64 0), (15, .bool t)]) (ms := [(1, .cells b [.int .i64 l.Ring, .slice p l.Starts.length c, .slice p_1 l.Events.length c_1] 25)]) (D' := D0) ?_ ?_
 ·rcases bcases rv with hbv | hbv
  ·skip
   replace h := cond_t ht hbv
   refine guard_on hF rfl rfl hbv (step hF (Y.fieldAddr fo_25_1 hF rfl) rfl fun a hF => guard_on hF rfl rfl hbv (step hF (Y.load1L 1 sz_22 hF rfl hS rfl rfl) rfl fun a hF => guard_on hF rfl rfl hbv (step hF (Y.lenSl u_22 hF rfl) rfl fun a hF => guard_on hF rfl rfl hbv ?_)))
   obtain ⟨rv_1, hx_1, h⟩ := bind_some h
   refine O.callP (us := [.int .i64 (l.Starts.length : Int), .int .i64 1, .int .i64 4]) ca_50 hF hS (r0Lies_ok hS.stab (l.Starts.length : Int) 1 4 rv_1 hx_1) rfl rfl fun a w hF hS => step hF (Y.pick_t hF rfl hbv rfl) rfl fun a hF => ?_
   obtain rfl := some_inj h
   exact nil (then_n ⟨hF.weak ⟨rfl, rfl, rfl, trivial⟩, hS.weak ⟨rfl, trivial⟩⟩)
  replace h := cond_f ht hbv
  refine guard_off hF rfl rfl hbv rfl fun a hF => guard_off hF rfl rfl hbv rfl fun a hF => guard_off hF rfl rfl hbv rfl fun a hF => guard_off hF rfl rfl hbv rfl fun a hF => step hF (Y.pick_f hF rfl hbv rfl) rfl fun a hF => ?_
  obtain rfl := some_inj h
  exact nil (then_n ⟨hF.weak ⟨rfl, rfl, rfl, trivial⟩, hS.weak ⟨rfl, trivial⟩⟩)
 intro a w hF hS
 refine step hF (Y.move hF rfl) rfl fun a hF => join (N := 112) (rs := []) (w0 := w0) (D0 := D0) 5 (us := [(1, .pointer (some ⟨b, 0, none⟩)), (2, .int .i64 0), (21, .bool (t && (decide ((l.Events.length : Int) ≤ 10))))]) (ms := [(1, .cells b [.int .i64 l.Ring, .slice p l.Starts.length c, .slice p_1 l.Events.length c_1] 25)]) (D' := D0) ?_ ?_
 ·rcases bcases t with hbv_1 | hbv_1
  ·skip
   refine guard_on hF rfl rfl hbv_1 (step hF (Y.fieldAddr fo_25_2 hF rfl) rfl fun a hF => guard_on hF rfl rfl hbv_1 (step hF (Y.load1L 1 sz_23 hF rfl hS rfl rfl) rfl fun a hF => guard_on hF rfl rfl hbv_1 (step hF (Y.lenSl u_23 hF rfl) rfl fun a hF => guard_on hF rfl rfl hbv_1 (step hF (Y.leq hF rfl rfl) rfl fun a hF => step hF (Y.pick_t hF rfl hbv_1 rfl) rfl fun a hF => nil (then_n ⟨hF.weak ⟨rfl, rfl, (by rw [hbv_1]; rfl), trivial⟩, hS.weak ⟨rfl, trivial⟩⟩)))))
  refine guard_off hF rfl rfl hbv_1 rfl fun a hF => guard_off hF rfl rfl hbv_1 rfl fun a hF => guard_off hF rfl rfl hbv_1 rfl fun a hF => guard_off hF rfl rfl hbv_1 rfl fun a hF => step hF (Y.pick_f hF rfl hbv_1 rfl) rfl fun a hF => nil (then_n ⟨hF.weak ⟨rfl, rfl, (by rw [hbv_1]; rfl), trivial⟩, hS.weak ⟨rfl, trivial⟩⟩)
 intro a w hF hS
 refine step hF (Y.assign hF rfl) rfl fun a hF => nil (then_n (seq (seq (region (step hF (Y.assign hF rfl) rfl fun a hF => nil (then_n (block (loop_cut (body := r7Check_b1 l) (out := out) (fun s a w => ∃ (ok : Bool) (i : Int), s = (ok, i) ∧ Frm 112 [] [(1, .pointer (some ⟨b, 0, none⟩)), (2, .int .i64 0), (3, .bool ok), (4, .int .i64 i)] a ∧ St w0 D0 D0 [(1, .cells b [.int .i64 l.Ring, .slice p l.Starts.length c, .slice p_1 l.Events.length c_1] 25)] w) ((t && (decide ((l.Events.length : Int) ≤ 10))), 0) h ⟨(t && (decide ((l.Events.length : Int) ≤ 10))), 0, rfl, hF.weak ⟨rfl, rfl, rfl, rfl, trivial⟩, hS.weak ⟨rfl, trivial⟩⟩ ?_))))))))
 rintro s a w xo ⟨ok, i, rfl, hF, hS⟩ h hxo
 unfold r7Check_b1 at h
 dsimp only at h
 refine seq (seq (region (step hF (Y.move hF rfl) rfl fun a hF => step hF (Y.move hF rfl) rfl fun a hF => join (N := 112) (rs := []) (w0 := w0) (D0 := D0) 6 (us := [(1, .pointer (some ⟨b, 0, none⟩)), (2, .int .i64 0), (3, .bool ok), (4, .int .i64 i), (29, .bool (ok && (decide (i < (l.Starts.length : Int)))))]) (ms := [(1, .cells b [.int .i64 l.Ring, .slice p l.Starts.length c, .slice p_1 l.Events.length c_1] 25)]) (D' := D0) ?_ ?_)))
 ·rcases bcases ok with hbv_2 | hbv_2
  ·skip
   refine guard_on hF rfl rfl hbv_2 (step hF (Y.move hF rfl) rfl fun a hF => guard_on hF rfl rfl hbv_2 (step hF (Y.fieldAddr fo_25_1 hF rfl) rfl fun a hF => guard_on hF rfl rfl hbv_2 (step hF (Y.load1L 1 sz_22 hF rfl hS rfl rfl) rfl fun a hF => guard_on hF rfl rfl hbv_2 (step hF (Y.lenSl u_22 hF rfl) rfl fun a hF => guard_on hF rfl rfl hbv_2 (step hF (Y.lss hF rfl rfl) rfl fun a hF => step hF (Y.pick_t hF rfl hbv_2 rfl) rfl fun a hF => nil (then_n ⟨hF.weak ⟨rfl, rfl, rfl, rfl, (by rw [hbv_2]; rfl), trivial⟩, hS.weak ⟨rfl, trivial⟩⟩))))))
  refine guard_off hF rfl rfl hbv_2 rfl fun a hF => guard_off hF rfl rfl hbv_2 rfl fun a hF => guard_off hF rfl rfl hbv_2 rfl fun a hF => guard_off hF rfl rfl hbv_2 rfl fun a hF => guard_off hF rfl rfl hbv_2 rfl fun a hF => step hF (Y.pick_f hF rfl hbv_2 rfl) rfl fun a hF => nil (then_n ⟨hF.weak ⟨rfl, rfl, rfl, rfl, (by rw [hbv_2]; rfl), trivial⟩, hS.weak ⟨rfl, trivial⟩⟩)
 intro a w hF hS
 refine nil (then_n (cond_b hF rfl (fun hbv_3 => ?_) (fun hbv_3 => ?_)))
 ·replace h := cond_t h hbv_3
  refine skip_ (then_n (seq (block ?_)))
  obtain ⟨e, hx_2, h⟩ := bind_some h
  obtain ⟨rv_2, hx_3, h⟩ := bind_some h
  obtain ⟨t_1, ht_1, h⟩ := bind_some h
  refine drawsV 19 (.flt 0 (.flt 1 (.flt 2 (.flt 3 (.flt 4 (.flt 5 (.flt 6 (.flt 7 (.flt 8 (.alt 9 (.flt 10 (.flt 11 (.flt 12 (.flt 13 (.flt 14 (.flt 15 (.flt 16 (.alt 17 (.flt 18 .done) .stop)))))))) .stop)))))))))) mixed_ (by kernel_rfl) (fun w => St w0 D0 D0 [(1, .cells b [.int .i64 l.Ring, .slice p l.Starts.length c, .slice p_1 l.Events.length c_1] 25)] w) (fun a w => Frm 112 [] [(1, .pointer (some ⟨b, 0, none⟩)), (2, .int .i64 0), (3, .bool ok), (4, .int .i64 i), (50, .bool t_1)] a ∧ St w0 D0 D0 [(1, .cells b [.int .i64 l.Ring, .slice p l.Starts.length c, .slice p_1 l.Events.length c_1] 25)] w) (hS.weak (ms := [(1, .cells b [.int .i64 l.Ring, .slice p l.Starts.length c, .slice p_1 l.Events.length c_1] 25)]) ⟨rfl, trivial⟩).drew (fun _ _ _ _ h => h) ?_ ?_
  ·replace hS := hS.drew
   have hle0 := hS.le
   rcases bcases rv_2 with hbv_4 | hbv_4
   ·skip
    replace ht_1 := cond_t ht_1 hbv_4
    obtain ⟨rv_3, hx_4, ht_1⟩ := bind_some ht_1
    obtain rfl := some_inj ht_1
    refine stepV (i := 0) rfl hF (fun w hS => Y.fieldAddr fo_25_1 hF rfl) rfl fun a hF => stepV (i := 1) rfl hF (fun w hS => Y.load1L 1 sz_22 hF rfl hS rfl rfl) rfl fun a hF => stepV (i := 2) rfl hF (fun w hS => Y.move hF rfl) rfl fun a hF => ?_
    obtain ⟨b_3, o_2, hE_2, hY_2⟩ := Y.indexS (P := Tryd.prog) (C := C_SlaveStart) (xs := l.Starts) (T := 22) (x := (.tmp 33)) (y := (.tmp 34)) u_22 sz_57 hF rfl rfl (hs).1 hx_2
    obtain ⟨cc_2, hc_2, hcell_2⟩ := hE_2.open
    obtain rfl := C_SlaveStart.open hc_2
    refine stepV (i := 3) rfl hF (fun w hS => hY_2) rfl fun a hF => stepV (i := 4) rfl hF (fun w hS => Y.fieldAddr fo_57_0 hF rfl) rfl fun a hF => stepV (i := 5) rfl hF (fun w hS => Y.load1 sz_3 hF rfl (hcell_2 _ hS.stab 0 _ rfl)) rfl fun a hF => stepV (i := 6) rfl hF (fun w hS => Y.fieldAddr fo_25_0 hF rfl) rfl fun a hF => stepV (i := 7) rfl hF (fun w hS => Y.load1L 1 sz_3 hF rfl hS rfl rfl) rfl fun a hF => stepV (i := 8) rfl hF (fun w hS => Y.sub hF rfl rfl) rfl fun a hF => oneV (i := 9) rfl ?_ trivial
    refine O.callP (us := [.int .i64 e.Shown, .int .i64 0, .int .i64 (wr (l.Ring - 1))]) ca_50 hF hS (r0Lies_ok hS.stab e.Shown 0 (wr (l.Ring - 1)) rv_2 hx_3) rfl rfl fun a w hF hS => nil (then_n ⟨hS.weak ⟨rfl, trivial⟩, ?_⟩)
    refine stepV (i := 10) rfl hF (fun w hS => Y.move hF rfl) rfl fun a hF => stepV_on (i := 11) rfl hF rfl rfl hbv_4 (fun w hS => Y.fieldAddr fo_25_1 hF rfl) rfl fun a hF => stepV_on (i := 12) rfl hF rfl rfl hbv_4 (fun w hS => Y.load1L 1 sz_22 hF rfl hS rfl rfl) rfl fun a hF => stepV_on (i := 13) rfl hF rfl rfl hbv_4 (fun w hS => Y.move hF rfl) rfl fun a hF => ?_
    obtain ⟨b_4, o_3, hE_3, hY_3⟩ := Y.indexS (P := Tryd.prog) (C := C_SlaveStart) (xs := l.Starts) (T := 22) (x := (.tmp 44)) (y := (.tmp 45)) u_22 sz_57 hF rfl rfl (hs).1 hx_2
    obtain ⟨cc_3, hc_3, hcell_3⟩ := hE_3.open
    obtain rfl := C_SlaveStart.open hc_3
    refine stepV_on (i := 14) rfl hF rfl rfl hbv_4 (fun w hS => hY_3) rfl fun a hF => stepV_on (i := 15) rfl hF rfl rfl hbv_4 (fun w hS => Y.fieldAddr fo_57_1 hF rfl) rfl fun a hF => stepV_on (i := 16) rfl hF rfl rfl hbv_4 (fun w hS => Y.load1 sz_3 hF rfl (hcell_3 _ hS.stab 1 _ rfl)) rfl fun a hF => oneV (i := 17) rfl ?_ trivial
    refine guard_on hF rfl rfl hbv_4 (O.callP (us := [.int .i64 e.Last, .int .i64 0, .int .i64 1]) ca_50 hF hS (r0Lies_ok hS.stab e.Last 0 1 rv_3 hx_4) rfl rfl fun a w hF hS => nil (then_n ⟨hS.weak ⟨rfl, trivial⟩, ?_⟩))
    refine stepV (i := 18) rfl hF (fun w hS => Y.pick_t hF rfl hbv_4 rfl) rfl fun a hF => toTailV ⟨hF.weak ⟨rfl, rfl, rfl, rfl, rfl, trivial⟩, hS.weak ⟨rfl, trivial⟩⟩
   replace ht_1 := cond_f ht_1 hbv_4
   obtain rfl := some_inj ht_1
   refine stepV (i := 0) rfl hF (fun w hS => Y.fieldAddr fo_25_1 hF rfl) rfl fun a hF => stepV (i := 1) rfl hF (fun w hS => Y.load1L 1 sz_22 hF rfl hS rfl rfl) rfl fun a hF => stepV (i := 2) rfl hF (fun w hS => Y.move hF rfl) rfl fun a hF => ?_
   obtain ⟨b_5, o_4, hE_4, hY_4⟩ := Y.indexS (P := Tryd.prog) (C := C_SlaveStart) (xs := l.Starts) (T := 22) (x := (.tmp 33)) (y := (.tmp 34)) u_22 sz_57 hF rfl rfl (hs).1 hx_2
   obtain ⟨cc_4, hc_4, hcell_4⟩ := hE_4.open
   obtain rfl := C_SlaveStart.open hc_4
   refine stepV (i := 3) rfl hF (fun w hS => hY_4) rfl fun a hF => stepV (i := 4) rfl hF (fun w hS => Y.fieldAddr fo_57_0 hF rfl) rfl fun a hF => stepV (i := 5) rfl hF (fun w hS => Y.load1 sz_3 hF rfl (hcell_4 _ hS.stab 0 _ rfl)) rfl fun a hF => stepV (i := 6) rfl hF (fun w hS => Y.fieldAddr fo_25_0 hF rfl) rfl fun a hF => stepV (i := 7) rfl hF (fun w hS => Y.load1L 1 sz_3 hF rfl hS rfl rfl) rfl fun a hF => stepV (i := 8) rfl hF (fun w hS => Y.sub hF rfl rfl) rfl fun a hF => oneV (i := 9) rfl ?_ trivial
   refine O.callP (us := [.int .i64 e.Shown, .int .i64 0, .int .i64 (wr (l.Ring - 1))]) ca_50 hF hS (r0Lies_ok hS.stab e.Shown 0 (wr (l.Ring - 1)) rv_2 hx_3) rfl rfl fun a w hF hS => nil (then_n ⟨hS.weak ⟨rfl, trivial⟩, ?_⟩)
   refine stepV (i := 10) rfl hF (fun w hS => Y.move hF rfl) rfl fun a hF => stepV_off (i := 11) rfl hF rfl rfl hbv_4 rfl fun a hF => stepV_off (i := 12) rfl hF rfl rfl hbv_4 rfl fun a hF => stepV_off (i := 13) rfl hF rfl rfl hbv_4 rfl fun a hF => stepV_off (i := 14) rfl hF rfl rfl hbv_4 rfl fun a hF => stepV_off (i := 15) rfl hF rfl rfl hbv_4 rfl fun a hF => stepV_off (i := 16) rfl hF rfl rfl hbv_4 rfl fun a hF => oneV (i := 17) rfl ?_ trivial
   refine guard_off hF rfl rfl hbv_4 rfl fun a hF => nil (then_n ⟨hS.weak ⟨rfl, trivial⟩, ?_⟩)
   refine stepV (i := 18) rfl hF (fun w hS => Y.pick_f hF rfl hbv_4 rfl) rfl fun a hF => toTailV ⟨hF.weak ⟨rfl, rfl, rfl, rfl, rfl, trivial⟩, hS.weak ⟨rfl, trivial⟩⟩
  rintro a w ⟨hF, hS⟩
  refine step hF (Y.assign hF rfl) rfl fun a hF => nil (blk_n (then_n (region (step hF (Y.move hF rfl) rfl fun a hF => step hF (Y.add hF rfl rfl) rfl fun a hF => step hF (Y.assign hF rfl) rfl fun a hF => nil (then_n (⟨_, nxt_some h, t_1, (wr (i + 1)), rfl, hF.weak ⟨rfl, rfl, rfl, rfl, trivial⟩, hS.weak ⟨rfl, trivial⟩⟩))))))
 replace h := cond_f h hbv_3
 refine exit_ (then_x (then_x (blk_hit (then_n ?_))))
 replace h := ext_some h hxo
 refine seq (seq (region (step hF (Y.assign hF rfl) rfl fun a hF => nil (then_n (block (loop_cut (body := r7Check_b2 l) (out := out) (fun s a w => ∃ (ok_1 : Bool) (i_1 : Int), s = (ok_1, i_1) ∧ Frm 112 [] [(1, .pointer (some ⟨b, 0, none⟩)), (2, .int .i64 0), (3, .bool ok_1), (5, .int .i64 i_1)] a ∧ St w0 D0 D0 [(1, .cells b [.int .i64 l.Ring, .slice p l.Starts.length c, .slice p_1 l.Events.length c_1] 25)] w) (ok, 0) h ⟨ok, 0, rfl, hF.weak ⟨rfl, rfl, rfl, rfl, trivial⟩, hS.weak ⟨rfl, trivial⟩⟩ ?_))))))
 rintro s a w xo_1 ⟨ok_1, i_1, rfl, hF, hS⟩ h hxo_1
 unfold r7Check_b2 at h
 dsimp only at h
 refine seq (seq (region (step hF (Y.move hF rfl) rfl fun a hF => step hF (Y.move hF rfl) rfl fun a hF => join (N := 112) (rs := []) (w0 := w0) (D0 := D0) 6 (us := [(1, .pointer (some ⟨b, 0, none⟩)), (2, .int .i64 0), (3, .bool ok_1), (5, .int .i64 i_1), (58, .bool (ok_1 && (decide (i_1 < (l.Events.length : Int)))))]) (ms := [(1, .cells b [.int .i64 l.Ring, .slice p l.Starts.length c, .slice p_1 l.Events.length c_1] 25)]) (D' := D0) ?_ ?_)))
 ·rcases bcases ok_1 with hbv_5 | hbv_5
  ·skip
   refine guard_on hF rfl rfl hbv_5 (step hF (Y.move hF rfl) rfl fun a hF => guard_on hF rfl rfl hbv_5 (step hF (Y.fieldAddr fo_25_2 hF rfl) rfl fun a hF => guard_on hF rfl rfl hbv_5 (step hF (Y.load1L 1 sz_23 hF rfl hS rfl rfl) rfl fun a hF => guard_on hF rfl rfl hbv_5 (step hF (Y.lenSl u_23 hF rfl) rfl fun a hF => guard_on hF rfl rfl hbv_5 (step hF (Y.lss hF rfl rfl) rfl fun a hF => step hF (Y.pick_t hF rfl hbv_5 rfl) rfl fun a hF => nil (then_n ⟨hF.weak ⟨rfl, rfl, rfl, rfl, (by rw [hbv_5]; rfl), trivial⟩, hS.weak ⟨rfl, trivial⟩⟩))))))
  refine guard_off hF rfl rfl hbv_5 rfl fun a hF => guard_off hF rfl rfl hbv_5 rfl fun a hF => guard_off hF rfl rfl hbv_5 rfl fun a hF => guard_off hF rfl rfl hbv_5 rfl fun a hF => guard_off hF rfl rfl hbv_5 rfl fun a hF => step hF (Y.pick_f hF rfl hbv_5 rfl) rfl fun a hF => nil (then_n ⟨hF.weak ⟨rfl, rfl, rfl, rfl, (by rw [hbv_5]; rfl), trivial⟩, hS.weak ⟨rfl, trivial⟩⟩)
 intro a w hF hS
 refine nil (then_n (cond_b hF rfl (fun hbv_6 => ?_) (fun hbv_6 => ?_)))
 ·replace h := cond_t h hbv_6
  refine skip_ (then_n (seq (block (seq (region (step hF (Y.fieldAddr fo_25_2 hF rfl) rfl fun a hF => step hF (Y.load1L 1 sz_23 hF rfl hS rfl rfl) rfl fun a hF => step hF (Y.move hF rfl) rfl fun a hF => ?_))))))
  obtain ⟨e_1, hx_5, h⟩ := bind_some h
  obtain ⟨b_6, o_5, hE_5, hY_5⟩ := Y.indexS (P := Tryd.prog) (C := C_SlaveEvent) (xs := l.Events) (T := 23) (x := (.tmp 62)) (y := (.tmp 63)) u_23 sz_66 hF rfl rfl (hs_1).1 hx_5
  obtain ⟨cc_5, hc_5, hcell_5⟩ := hE_5.open
  obtain rfl := C_SlaveEvent.open hc_5
  refine step hF (hY_5) rfl fun a hF => step hF (Y.loadNE (o := o_5) (k := 0) sz_66 hF rfl (hcell_5 _ hS.stab) rfl rfl) rfl fun a hF => O.alloc 2 zc_66 hF hS rfl fun b_7 a w hF hS => O.store (us := [.int .i64 e_1.Kind, .int .i64 e_1.First, .int .i64 e_1.Count, .int .i64 e_1.Lost, .int .i64 e_1.Who, .int .i64 e_1.Shown]) 2 sz_66 hF rfl rfl rfl rfl hS rfl rfl fun a w hF hS => nil (then_n (seq (region (step hF (Y.fieldAddr fo_66_0 hF rfl) rfl fun a hF => step hF (Y.load1L 2 sz_3 hF rfl hS rfl rfl) rfl fun a hF => nil (then_n (block (seq (region (step hF (Y.eql hF rfl rfl) rfl fun a hF => step hF (Y.assign hF rfl) rfl fun a hF => nil (then_n (cond_b hF rfl (fun hbv_7 => ?_) (fun hbv_7 => ?_))))))))))))
  ·replace h := cond_t h hbv_7
   refine region (step hF (Y.fieldAddr fo_66_1 hF rfl) rfl fun a hF => step hF (Y.load1L 2 sz_3 hF rfl hS rfl rfl) rfl fun a hF => ?_)
   obtain ⟨rv_4, hx_6, h⟩ := bind_some h
   refine O.callP (us := [.int .i64 e_1.First, .int .i64 0, .int .i64 1]) ca_50 hF hS (r0Lies_ok hS.stab e_1.First 0 1 rv_4 hx_6) rfl rfl fun a w hF hS => step hF (Y.move hF rfl) rfl fun a hF => ?_
   obtain ⟨t_2, ht_2, h⟩ := bind_some h
   refine join (N := 112) (rs := []) (w0 := w0) (D0 := D0) 4 (us := [(1, .pointer (some ⟨b, 0, none⟩)), (2, .int .i64 0), (3, .bool ok_1), (5, .int .i64 i_1), (6, .pointer (some ⟨b_7, 0, none⟩)), (77, .bool t_2)]) (ms := [(1, .cells b [.int .i64 l.Ring, .slice p l.Starts.length c, .slice p_1 l.Events.length c_1] 25), (2, .cells b_7 [.int .i64 e_1.Kind, .int .i64 e_1.First, .int .i64 e_1.Count, .int .i64 e_1.Lost, .int .i64 e_1.Who, .int .i64 e_1.Shown] 66)]) (D' := D0) ?_ ?_
   ·rcases bcases rv_4 with hbv_8 | hbv_8
    ·skip
     replace h := cond_t ht_2 hbv_8
     refine guard_on hF rfl rfl hbv_8 (step hF (Y.fieldAddr fo_66_2 hF rfl) rfl fun a hF => guard_on hF rfl rfl hbv_8 (step hF (Y.load1L 2 sz_3 hF rfl hS rfl rfl) rfl fun a hF => guard_on hF rfl rfl hbv_8 ?_))
     obtain ⟨rv_5, hx_7, h⟩ := bind_some h
     refine O.callP (us := [.int .i64 e_1.Count, .int .i64 0, .int .i64 60]) ca_50 hF hS (r0Lies_ok hS.stab e_1.Count 0 60 rv_5 hx_7) rfl rfl fun a w hF hS => step hF (Y.pick_t hF rfl hbv_8 rfl) rfl fun a hF => ?_
     obtain rfl := some_inj h
     exact nil (then_n ⟨hF.weak ⟨rfl, rfl, rfl, rfl, rfl, rfl, trivial⟩, hS.weak ⟨rfl, rfl, trivial⟩⟩)
    replace h := cond_f ht_2 hbv_8
    refine guard_off hF rfl rfl hbv_8 rfl fun a hF => guard_off hF rfl rfl hbv_8 rfl fun a hF => guard_off hF rfl rfl hbv_8 rfl fun a hF => step hF (Y.pick_f hF rfl hbv_8 rfl) rfl fun a hF => ?_
    obtain rfl := some_inj h
    exact nil (then_n ⟨hF.weak ⟨rfl, rfl, rfl, rfl, rfl, rfl, trivial⟩, hS.weak ⟨rfl, rfl, trivial⟩⟩)
   intro a w hF hS
   refine step hF (Y.move hF rfl) rfl fun a hF => ?_
   obtain ⟨t_3, ht_3, h⟩ := bind_some h
   refine join (N := 112) (rs := []) (w0 := w0) (D0 := D0) 4 (us := [(1, .pointer (some ⟨b, 0, none⟩)), (2, .int .i64 0), (3, .bool ok_1), (5, .int .i64 i_1), (82, .bool t_3)]) (ms := [(1, .cells b [.int .i64 l.Ring, .slice p l.Starts.length c, .slice p_1 l.Events.length c_1] 25), (2, .cells b_7 [.int .i64 e_1.Kind, .int .i64 e_1.First, .int .i64 e_1.Count, .int .i64 e_1.Lost, .int .i64 e_1.Who, .int .i64 e_1.Shown] 66)]) (D' := D0) ?_ ?_
   ·rcases bcases t_2 with hbv_9 | hbv_9
    ·skip
     replace h := cond_t ht_3 hbv_9
     refine guard_on hF rfl rfl hbv_9 (step hF (Y.fieldAddr fo_66_3 hF rfl) rfl fun a hF => guard_on hF rfl rfl hbv_9 (step hF (Y.load1L 2 sz_3 hF rfl hS rfl rfl) rfl fun a hF => guard_on hF rfl rfl hbv_9 ?_))
     obtain ⟨rv_6, hx_8, h⟩ := bind_some h
     refine O.callP (us := [.int .i64 e_1.Lost, .int .i64 0, .int .i64 3]) ca_50 hF hS (r0Lies_ok hS.stab e_1.Lost 0 3 rv_6 hx_8) rfl rfl fun a w hF hS => step hF (Y.pick_t hF rfl hbv_9 rfl) rfl fun a hF => ?_
     obtain rfl := some_inj h
     exact nil (then_n ⟨hF.weak ⟨rfl, rfl, rfl, rfl, rfl, trivial⟩, hS.weak ⟨rfl, rfl, trivial⟩⟩)
    replace h := cond_f ht_3 hbv_9
    refine guard_off hF rfl rfl hbv_9 rfl fun a hF => guard_off hF rfl rfl hbv_9 rfl fun a hF => guard_off hF rfl rfl hbv_9 rfl fun a hF => step hF (Y.pick_f hF rfl hbv_9 rfl) rfl fun a hF => ?_
    obtain rfl := some_inj h
    exact nil (then_n ⟨hF.weak ⟨rfl, rfl, rfl, rfl, rfl, trivial⟩, hS.weak ⟨rfl, rfl, trivial⟩⟩)
   intro a w hF hS
   refine step hF (Y.assign hF rfl) rfl fun a hF => nil (blk_n (blk_n (then_n (region (step hF (Y.move hF rfl) rfl fun a hF => step hF (Y.add hF rfl rfl) rfl fun a hF => step hF (Y.assign hF rfl) rfl fun a hF => nil (then_n (⟨_, nxt_some h, t_3, (wr (i_1 + 1)), rfl, hF.weak ⟨rfl, rfl, rfl, rfl, trivial⟩, hS.weak ⟨rfl, trivial⟩⟩)))))))
  replace h := cond_f h hbv_7
  refine seq (region (step hF (Y.eql hF rfl rfl) rfl fun a hF => step hF (Y.assign hF rfl) rfl fun a hF => nil (then_n (cond_b hF rfl (fun hbv_10 => ?_) (fun hbv_10 => ?_)))))
  ·replace h := cond_t h hbv_10
   refine region (step hF (Y.fieldAddr fo_66_2 hF rfl) rfl fun a hF => step hF (Y.load1L 2 sz_3 hF rfl hS rfl rfl) rfl fun a hF => ?_)
   obtain ⟨rv_7, hx_9, h⟩ := bind_some h
   refine O.callP (us := [.int .i64 e_1.Count, .int .i64 0, .int .i64 60]) ca_50 hF hS (r0Lies_ok hS.stab e_1.Count 0 60 rv_7 hx_9) rfl rfl fun a w hF hS => step hF (Y.move hF rfl) rfl fun a hF => ?_
   obtain ⟨t_4, ht_4, h⟩ := bind_some h
   refine join (N := 112) (rs := []) (w0 := w0) (D0 := D0) 4 (us := [(1, .pointer (some ⟨b, 0, none⟩)), (2, .int .i64 0), (3, .bool ok_1), (5, .int .i64 i_1), (92, .bool t_4)]) (ms := [(1, .cells b [.int .i64 l.Ring, .slice p l.Starts.length c, .slice p_1 l.Events.length c_1] 25), (2, .cells b_7 [.int .i64 e_1.Kind, .int .i64 e_1.First, .int .i64 e_1.Count, .int .i64 e_1.Lost, .int .i64 e_1.Who, .int .i64 e_1.Shown] 66)]) (D' := D0) ?_ ?_
   ·rcases bcases rv_7 with hbv_11 | hbv_11
    ·skip
     replace h := cond_t ht_4 hbv_11
     refine guard_on hF rfl rfl hbv_11 (step hF (Y.fieldAddr fo_66_3 hF rfl) rfl fun a hF => guard_on hF rfl rfl hbv_11 (step hF (Y.load1L 2 sz_3 hF rfl hS rfl rfl) rfl fun a hF => guard_on hF rfl rfl hbv_11 ?_))
     obtain ⟨rv_8, hx_10, h⟩ := bind_some h
     refine O.callP (us := [.int .i64 e_1.Lost, .int .i64 0, .int .i64 3]) ca_50 hF hS (r0Lies_ok hS.stab e_1.Lost 0 3 rv_8 hx_10) rfl rfl fun a w hF hS => step hF (Y.pick_t hF rfl hbv_11 rfl) rfl fun a hF => ?_
     obtain rfl := some_inj h
     exact nil (then_n ⟨hF.weak ⟨rfl, rfl, rfl, rfl, rfl, trivial⟩, hS.weak ⟨rfl, rfl, trivial⟩⟩)
    replace h := cond_f ht_4 hbv_11
    refine guard_off hF rfl rfl hbv_11 rfl fun a hF => guard_off hF rfl rfl hbv_11 rfl fun a hF => guard_off hF rfl rfl hbv_11 rfl fun a hF => step hF (Y.pick_f hF rfl hbv_11 rfl) rfl fun a hF => ?_
    obtain rfl := some_inj h
    exact nil (then_n ⟨hF.weak ⟨rfl, rfl, rfl, rfl, rfl, trivial⟩, hS.weak ⟨rfl, rfl, trivial⟩⟩)
   intro a w hF hS
   refine step hF (Y.assign hF rfl) rfl fun a hF => nil (blk_n (blk_n (then_n (region (step hF (Y.move hF rfl) rfl fun a hF => step hF (Y.add hF rfl rfl) rfl fun a hF => step hF (Y.assign hF rfl) rfl fun a hF => nil (then_n (⟨_, nxt_some h, t_4, (wr (i_1 + 1)), rfl, hF.weak ⟨rfl, rfl, rfl, rfl, trivial⟩, hS.weak ⟨rfl, trivial⟩⟩)))))))
  replace h := cond_f h hbv_10
  refine seq (region (step hF (Y.eql hF rfl rfl) rfl fun a hF => step hF (Y.assign hF rfl) rfl fun a hF => nil (then_n (cond_b hF rfl (fun hbv_12 => ?_) (fun hbv_12 => ?_)))))
  ·replace h := cond_t h hbv_12
   refine region (step hF (Y.fieldAddr fo_66_4 hF rfl) rfl fun a hF => step hF (Y.load1L 2 sz_3 hF rfl hS rfl rfl) rfl fun a hF => step hF (Y.fieldAddr fo_25_1 hF rfl) rfl fun a hF => step hF (Y.load1L 1 sz_22 hF rfl hS rfl rfl) rfl fun a hF => step hF (Y.lenSl u_22 hF rfl) rfl fun a hF => step hF (Y.sub hF rfl rfl) rfl fun a hF => ?_)
   obtain ⟨rv_9, hx_11, h⟩ := bind_some h
   refine O.callP (us := [.int .i64 e_1.Who, .int .i64 0, .int .i64 (wr ((l.Starts.length : Int) - 1))]) ca_50 hF hS (r0Lies_ok hS.stab e_1.Who 0 (wr ((l.Starts.length : Int) - 1)) rv_9 hx_11) rfl rfl fun a w hF hS => step hF (Y.move hF rfl) rfl fun a hF => ?_
   obtain ⟨t_5, ht_5, h⟩ := bind_some h
   refine join (N := 112) (rs := []) (w0 := w0) (D0 := D0) 7 (us := [(1, .pointer (some ⟨b, 0, none⟩)), (2, .int .i64 0), (3, .bool ok_1), (5, .int .i64 i_1), (109, .bool t_5)]) (ms := [(1, .cells b [.int .i64 l.Ring, .slice p l.Starts.length c, .slice p_1 l.Events.length c_1] 25), (2, .cells b_7 [.int .i64 e_1.Kind, .int .i64 e_1.First, .int .i64 e_1.Count, .int .i64 e_1.Lost, .int .i64 e_1.Who, .int .i64 e_1.Shown] 66)]) (D' := D0) ?_ ?_
   ·rcases bcases rv_9 with hbv_13 | hbv_13
    ·skip
     replace h := cond_t ht_5 hbv_13
     refine guard_on hF rfl rfl hbv_13 (step hF (Y.fieldAddr fo_66_5 hF rfl) rfl fun a hF => guard_on hF rfl rfl hbv_13 (step hF (Y.load1L 2 sz_3 hF rfl hS rfl rfl) rfl fun a hF => guard_on hF rfl rfl hbv_13 (step hF (Y.fieldAddr fo_25_0 hF rfl) rfl fun a hF => guard_on hF rfl rfl hbv_13 (step hF (Y.load1L 1 sz_3 hF rfl hS rfl rfl) rfl fun a hF => guard_on hF rfl rfl hbv_13 (step hF (Y.sub hF rfl rfl) rfl fun a hF => guard_on hF rfl rfl hbv_13 ?_)))))
     obtain ⟨rv_10, hx_12, h⟩ := bind_some h
     refine O.callP (us := [.int .i64 e_1.Shown, .int .i64 0, .int .i64 (wr (l.Ring - 1))]) ca_50 hF hS (r0Lies_ok hS.stab e_1.Shown 0 (wr (l.Ring - 1)) rv_10 hx_12) rfl rfl fun a w hF hS => step hF (Y.pick_t hF rfl hbv_13 rfl) rfl fun a hF => ?_
     obtain rfl := some_inj h
     exact nil (then_n ⟨hF.weak ⟨rfl, rfl, rfl, rfl, rfl, trivial⟩, hS.weak ⟨rfl, rfl, trivial⟩⟩)
    replace h := cond_f ht_5 hbv_13
    refine guard_off hF rfl rfl hbv_13 rfl fun a hF => guard_off hF rfl rfl hbv_13 rfl fun a hF => guard_off hF rfl rfl hbv_13 rfl fun a hF => guard_off hF rfl rfl hbv_13 rfl fun a hF => guard_off hF rfl rfl hbv_13 rfl fun a hF => guard_off hF rfl rfl hbv_13 rfl fun a hF => step hF (Y.pick_f hF rfl hbv_13 rfl) rfl fun a hF => ?_
    obtain rfl := some_inj h
    exact nil (then_n ⟨hF.weak ⟨rfl, rfl, rfl, rfl, rfl, trivial⟩, hS.weak ⟨rfl, rfl, trivial⟩⟩)
   intro a w hF hS
   refine step hF (Y.assign hF rfl) rfl fun a hF => nil (blk_n (blk_n (then_n (region (step hF (Y.move hF rfl) rfl fun a hF => step hF (Y.add hF rfl rfl) rfl fun a hF => step hF (Y.assign hF rfl) rfl fun a hF => nil (then_n (⟨_, nxt_some h, t_5, (wr (i_1 + 1)), rfl, hF.weak ⟨rfl, rfl, rfl, rfl, trivial⟩, hS.weak ⟨rfl, trivial⟩⟩)))))))
  replace h := cond_f h hbv_12
  refine region (step hF (Y.assign hF rfl) rfl fun a hF => nil (blk_n (blk_n (then_n (region (step hF (Y.move hF rfl) rfl fun a hF => step hF (Y.add hF rfl rfl) rfl fun a hF => step hF (Y.assign hF rfl) rfl fun a hF => nil (then_n (⟨_, nxt_some h, false, (wr (i_1 + 1)), rfl, hF.weak ⟨rfl, rfl, rfl, rfl, trivial⟩, hS.weak ⟨rfl, trivial⟩⟩))))))))
 replace h := cond_f h hbv_6
 refine exit_ (then_x (then_x (blk_hit (then_n ?_))))
 replace h := ext_some h hxo_1
 refine seq (seq (region (step hF (Y.move hF rfl) rfl fun a hF => step hF (Y.not hF rfl) rfl fun a hF => nil (then_n (cond_b hF rfl (fun hbv_14 => ?_) (fun hbv_14 => ?_))))))
 ·replace h := cond_t h hbv_14
  refine seq (region (step hF (Y.assign hF rfl) rfl fun a hF => nil (then_n (ret_ (then_r ?_)))))
  obtain rfl := some_inj h
  exact leaveP Tryd.results20 hF hS (.cons (.tmp rfl) .nil) .nil rfl
 replace h := cond_f h hbv_14
 refine skip_ (then_n (seq (region (step hF (Y.assign hF rfl) rfl fun a hF => nil (then_n (ret_ ?_))))))
 obtain rfl := some_inj h
 exact leaveP Tryd.results20 hF hS (.cons (.tmp rfl) .nil) .nil rfl
noncomputable def r7got (l : SlaveLine) (sv : SlaveStart) (xv : SlaveEvent) (pulse : Int) : Option SlaveStart :=
  (r0Rest (wr (xv.First + pulse)) 2).bind fun rv =>
  cond ((xv.Kind == 1) && (sv.Shown != 0))
  (if l.Ring ≠ 0 then
  some (SlaveStart.mk (Int.tmod (wr (sv.Shown + 1)) l.Ring) sv.Last)
  else none)
  (cond ((xv.Kind == 0) && (sv.Last != rv))
  (if l.Ring ≠ 0 then
  some (SlaveStart.mk (Int.tmod (wr (sv.Shown + 1)) l.Ring) rv)
  else none)
  (some sv))
theorem r7got_ok {w0 : World} {D0 : Stab} (hD : D0.on w0) (l : SlaveLine) (sv : SlaveStart) (xv : SlaveEvent) (pulse : Int) {p : Option Addr} {c : Nat} {p_1 : Option Addr} {c_1 : Nat} (hs : SRc C_SlaveStart D0 l.Starts p c) (hs_1 : SRc C_SlaveEvent D0 l.Events p_1 c_1) (out : SlaveStart) (h : r7got l sv xv pulse = some out) : Calls Tryd.prog 67 [.agg #[.int .i64 l.Ring, .slice p l.Starts.length c, .slice p_1 l.Events.length c_1], .agg #[.int .i64 sv.Shown, .int .i64 sv.Last], .agg #[.int .i64 xv.Kind, .int .i64 xv.First, .int .i64 xv.Count, .int .i64 xv.Lost, .int .i64 xv.Who, .int .i64 xv.Shown], .int .i64 pulse].toArray w0 (RetP D0 w0 (.agg #[.int .i64 out.Shown, .int .i64 out.Last])) := by
 refine enter _ 51 Tryd.func67 rfl Tryd.ntmps67 rfl fun a hF => ?_
 replace hF : Frm 51 [] [(0, .agg #[.int .i64 l.Ring, .slice p l.Starts.length c, .slice p_1 l.Events.length c_1]), (1, .agg #[.int .i64 sv.Shown, .int .i64 sv.Last]), (2, .agg #[.int .i64 xv.Kind, .int .i64 xv.First, .int .i64 xv.Count, .int .i64 xv.Lost, .int .i64 xv.Who, .int .i64 xv.Shown]), (3, .int .i64 pulse)] a := hF
 have hS := St.start hD
 unfold r7got at h
 refine seq (region (O.box (cs := [.int .i64 l.Ring, .slice p l.Starts.length c, .slice p_1 l.Events.length c_1]) 1 hF rfl rfl hS rfl fun b a w hF hS => O.box (cs := [.int .i64 sv.Shown, .int .i64 sv.Last]) 2 hF rfl rfl hS rfl fun b_1 a w hF hS => O.box (cs := [.int .i64 xv.Kind, .int .i64 xv.First, .int .i64 xv.Count, .int .i64 xv.Lost, .int .i64 xv.Who, .int .i64 xv.Shown]) 3 hF rfl rfl hS rfl fun b_2 a w hF hS => O.alloc 4 zc_57 hF hS rfl fun b_3 a w hF hS => nil (then_n (seq (region (step hF (Y.fieldAddr fo_66_1 hF rfl) rfl fun a hF => step hF (Y.load1L 3 sz_3 hF rfl hS rfl rfl) rfl fun a hF => step hF (Y.move hF rfl) rfl fun a hF => step hF (Y.add hF rfl rfl) rfl fun a hF => ?_))))))
 obtain ⟨rv, hx, h⟩ := bind_some h
 refine O.callP (us := [.int .i64 (wr (xv.First + pulse)), .int .i64 2]) ca_37 hF hS (r0Rest_ok hS.stab (wr (xv.First + pulse)) 2 rv hx) rfl rfl fun a w hF hS => step hF (Y.assign hF rfl) rfl fun a hF => nil (then_n (seq (block (seq (region (step hF (Y.fieldAddr fo_66_0 hF rfl) rfl fun a hF => step hF (Y.load1L 3 sz_3 hF rfl hS rfl rfl) rfl fun a hF => step hF (Y.eql hF rfl rfl) rfl fun a hF => step hF (Y.move hF rfl) rfl fun a hF => join (N := 51) (rs := []) (w0 := w0) (D0 := D0) 4 (us := [(4, .pointer (some ⟨b, 0, none⟩)), (5, .pointer (some ⟨b_1, 0, none⟩)), (6, .pointer (some ⟨b_2, 0, none⟩)), (8, .pointer (some ⟨b_3, 0, none⟩)), (9, .int .i64 rv), (23, .bool ((xv.Kind == 1) && (sv.Shown != 0)))]) (ms := [(1, .cells b [.int .i64 l.Ring, .slice p l.Starts.length c, .slice p_1 l.Events.length c_1] 25), (2, .cells b_1 [.int .i64 sv.Shown, .int .i64 sv.Last] 57), (3, .cells b_2 [.int .i64 xv.Kind, .int .i64 xv.First, .int .i64 xv.Count, .int .i64 xv.Lost, .int .i64 xv.Who, .int .i64 xv.Shown] 66), (4, .cells b_3 [.int .i64 0, .int .i64 0] 57)]) (D' := D0) ?_ ?_))))))
 ·rcases bcases (xv.Kind == 1) with hbv | hbv
  ·skip
   refine guard_on hF rfl rfl hbv (step hF (Y.fieldAddr fo_57_0 hF rfl) rfl fun a hF => guard_on hF rfl rfl hbv (step hF (Y.load1L 2 sz_3 hF rfl hS rfl rfl) rfl fun a hF => guard_on hF rfl rfl hbv (step hF (Y.neq hF rfl rfl) rfl fun a hF => step hF (Y.pick_t hF rfl hbv rfl) rfl fun a hF => nil (then_n ⟨hF.weak ⟨rfl, rfl, rfl, rfl, rfl, (by rw [hbv]; rfl), trivial⟩, hS.weak ⟨rfl, rfl, rfl, rfl, trivial⟩⟩))))
  refine guard_off hF rfl rfl hbv rfl fun a hF => guard_off hF rfl rfl hbv rfl fun a hF => guard_off hF rfl rfl hbv rfl fun a hF => step hF (Y.pick_f hF rfl hbv rfl) rfl fun a hF => nil (then_n ⟨hF.weak ⟨rfl, rfl, rfl, rfl, rfl, (by rw [hbv]; rfl), trivial⟩, hS.weak ⟨rfl, rfl, rfl, rfl, trivial⟩⟩)
 intro a w hF hS
 refine step hF (Y.assign hF rfl) rfl fun a hF => nil (then_n (cond_b hF rfl (fun hbv_1 => ?_) (fun hbv_1 => ?_)))
 ·replace h := cond_t h hbv_1
  refine region (step hF (Y.fieldAddr fo_57_0 hF rfl) rfl fun a hF => step hF (Y.load1L 2 sz_3 hF rfl hS rfl rfl) rfl fun a hF => step hF (Y.add hF rfl rfl) rfl fun a hF => step hF (Y.fieldAddr fo_25_0 hF rfl) rfl fun a hF => step hF (Y.load1L 1 sz_3 hF rfl hS rfl rfl) rfl fun a hF => ?_)
  obtain ⟨hg, h⟩ := ite_some h
  refine step hF (Y.rem hF rfl rfl hg) rfl fun a hF => step hF (Y.fieldAddr fo_57_0 hF rfl) rfl fun a hF => O.store (us := [.int .i64 (Int.tmod (wr (sv.Shown + 1)) l.Ring)]) 2 sz_3 hF rfl rfl rfl rfl hS rfl rfl fun a w hF hS => nil (blk_n (then_n (seq (region (step hF (Y.loadNL 2 sz_57 hF rfl hS rfl rfl rfl) rfl fun a hF => O.store (us := [.int .i64 (Int.tmod (wr (sv.Shown + 1)) l.Ring), .int .i64 sv.Last]) 4 sz_57 hF rfl rfl rfl rfl hS rfl rfl fun a w hF hS => nil (then_n (ret_ ?_)))))))
  obtain rfl := some_inj h
  exact leaveP Tryd.results67 hF hS (.cons (.cellN 4 sz_57 rfl rfl rfl) .nil) .nil rfl
 replace h := cond_f h hbv_1
 refine seq (region (step hF (Y.fieldAddr fo_66_0 hF rfl) rfl fun a hF => step hF (Y.load1L 3 sz_3 hF rfl hS rfl rfl) rfl fun a hF => step hF (Y.eql hF rfl rfl) rfl fun a hF => step hF (Y.move hF rfl) rfl fun a hF => join (N := 51) (rs := []) (w0 := w0) (D0 := D0) 5 (us := [(4, .pointer (some ⟨b, 0, none⟩)), (5, .pointer (some ⟨b_1, 0, none⟩)), (8, .pointer (some ⟨b_3, 0, none⟩)), (9, .int .i64 rv), (40, .bool ((xv.Kind == 0) && (sv.Last != rv)))]) (ms := [(1, .cells b [.int .i64 l.Ring, .slice p l.Starts.length c, .slice p_1 l.Events.length c_1] 25), (2, .cells b_1 [.int .i64 sv.Shown, .int .i64 sv.Last] 57), (3, .cells b_2 [.int .i64 xv.Kind, .int .i64 xv.First, .int .i64 xv.Count, .int .i64 xv.Lost, .int .i64 xv.Who, .int .i64 xv.Shown] 66), (4, .cells b_3 [.int .i64 0, .int .i64 0] 57)]) (D' := D0) ?_ ?_))
 ·rcases bcases (xv.Kind == 0) with hbv_2 | hbv_2
  ·skip
   refine guard_on hF rfl rfl hbv_2 (step hF (Y.fieldAddr fo_57_1 hF rfl) rfl fun a hF => guard_on hF rfl rfl hbv_2 (step hF (Y.load1L 2 sz_3 hF rfl hS rfl rfl) rfl fun a hF => guard_on hF rfl rfl hbv_2 (step hF (Y.move hF rfl) rfl fun a hF => guard_on hF rfl rfl hbv_2 (step hF (Y.neq hF rfl rfl) rfl fun a hF => step hF (Y.pick_t hF rfl hbv_2 rfl) rfl fun a hF => nil (then_n ⟨hF.weak ⟨rfl, rfl, rfl, rfl, (by rw [hbv_2]; rfl), trivial⟩, hS.weak ⟨rfl, rfl, rfl, rfl, trivial⟩⟩)))))
  refine guard_off hF rfl rfl hbv_2 rfl fun a hF => guard_off hF rfl rfl hbv_2 rfl fun a hF => guard_off hF rfl rfl hbv_2 rfl fun a hF => guard_off hF rfl rfl hbv_2 rfl fun a hF => step hF (Y.pick_f hF rfl hbv_2 rfl) rfl fun a hF => nil (then_n ⟨hF.weak ⟨rfl, rfl, rfl, rfl, (by rw [hbv_2]; rfl), trivial⟩, hS.weak ⟨rfl, rfl, rfl, rfl, trivial⟩⟩)
 intro a w hF hS
 refine step hF (Y.assign hF rfl) rfl fun a hF => nil (then_n (cond_b hF rfl (fun hbv_3 => ?_) (fun hbv_3 => ?_)))
 ·replace h := cond_t h hbv_3
  refine seq (region (step hF (Y.fieldAddr fo_57_0 hF rfl) rfl fun a hF => step hF (Y.load1L 2 sz_3 hF rfl hS rfl rfl) rfl fun a hF => step hF (Y.add hF rfl rfl) rfl fun a hF => step hF (Y.fieldAddr fo_25_0 hF rfl) rfl fun a hF => step hF (Y.load1L 1 sz_3 hF rfl hS rfl rfl) rfl fun a hF => ?_))
  obtain ⟨hg_1, h⟩ := ite_some h
  refine step hF (Y.rem hF rfl rfl hg_1) rfl fun a hF => step hF (Y.fieldAddr fo_57_0 hF rfl) rfl fun a hF => O.store (us := [.int .i64 (Int.tmod (wr (sv.Shown + 1)) l.Ring)]) 2 sz_3 hF rfl rfl rfl rfl hS rfl rfl fun a w hF hS => nil (then_n (region (step hF (Y.move hF rfl) rfl fun a hF => step hF (Y.fieldAddr fo_57_1 hF rfl) rfl fun a hF => O.store (us := [.int .i64 rv]) 2 sz_3 hF rfl rfl rfl rfl hS rfl rfl fun a w hF hS => nil (blk_n (then_n (seq (region (step hF (Y.loadNL 2 sz_57 hF rfl hS rfl rfl rfl) rfl fun a hF => O.store (us := [.int .i64 (Int.tmod (wr (sv.Shown + 1)) l.Ring), .int .i64 rv]) 4 sz_57 hF rfl rfl rfl rfl hS rfl rfl fun a w hF hS => nil (then_n (ret_ ?_))))))))))
  obtain rfl := some_inj h
  exact leaveP Tryd.results67 hF hS (.cons (.cellN 4 sz_57 rfl rfl rfl) .nil) .nil rfl
 replace h := cond_f h hbv_3
 refine skip_ (blk_n (then_n (seq (region (step hF (Y.loadNL 2 sz_57 hF rfl hS rfl rfl rfl) rfl fun a hF => O.store (us := [.int .i64 sv.Shown, .int .i64 sv.Last]) 4 sz_57 hF rfl rfl rfl rfl hS rfl rfl fun a w hF hS => nil (then_n (ret_ ?_)))))))
 obtain rfl := some_inj h
 exact leaveP Tryd.results67 hF hS (.cons (.cellN 4 sz_57 rfl rfl rfl) .nil) .nil rfl
noncomputable def r7either (av : r7could) (b : r7could) : Option r7could :=
  cond (!av.is)
  (some b)
  (cond (!b.is)
  (some av)
  ((r0To (if b.lost.Low < av.lost.Low then b.lost.Low else av.lost.Low) (if b.lost.High > av.lost.High then b.lost.High else av.lost.High)).bind fun rv =>
  some (r7could.mk true rv)))
theorem r7either_ok {w0 : World} {D0 : Stab} (hD : D0.on w0) (av : r7could) (b : r7could) (out : r7could) (h : r7either av b = some out) : Calls Tryd.prog 62 [.agg #[.bool av.is, .int .i64 av.lost.Low, .int .i64 av.lost.High], .agg #[.bool b.is, .int .i64 b.lost.Low, .int .i64 b.lost.High]].toArray w0 (RetP D0 w0 (.agg #[.bool out.is, .int .i64 out.lost.Low, .int .i64 out.lost.High])) := by
 refine enter _ 29 Tryd.func62 rfl Tryd.ntmps62 rfl fun a hF => ?_
 replace hF : Frm 29 [] [(0, .agg #[.bool av.is, .int .i64 av.lost.Low, .int .i64 av.lost.High]), (1, .agg #[.bool b.is, .int .i64 b.lost.Low, .int .i64 b.lost.High])] a := hF
 have hS := St.start hD
 unfold r7either at h
 refine seq (region (O.box (cs := [.bool av.is, .int .i64 av.lost.Low, .int .i64 av.lost.High]) 1 hF rfl rfl hS rfl fun b_1 a w hF hS => O.box (cs := [.bool b.is, .int .i64 b.lost.Low, .int .i64 b.lost.High]) 2 hF rfl rfl hS rfl fun b_2 a w hF hS => O.alloc 3 zc_95 hF hS rfl fun b_3 a w hF hS => nil (then_n (seq (seq (region (step hF (Y.fieldAddr fo_95_0 hF rfl) rfl fun a hF => step hF (Y.load1L 1 sz_4 hF rfl hS rfl rfl) rfl fun a hF => step hF (Y.not hF rfl) rfl fun a hF => nil (then_n (cond_b hF rfl (fun hbv => ?_) (fun hbv => ?_))))))))))
 ·replace h := cond_t h hbv
  refine seq (region (step hF (Y.loadNL 2 sz_95 hF rfl hS rfl rfl rfl) rfl fun a hF => O.store (us := [.bool b.is, .int .i64 b.lost.Low, .int .i64 b.lost.High]) 3 sz_95 hF rfl rfl rfl rfl hS rfl rfl fun a w hF hS => nil (then_n (ret_ (then_r ?_)))))
  obtain rfl := some_inj h
  exact leaveP Tryd.results62 hF hS (.cons (.cellN 3 sz_95 rfl rfl rfl) .nil) .nil rfl
 replace h := cond_f h hbv
 refine skip_ (then_n (seq (seq (region (step hF (Y.fieldAddr fo_95_0 hF rfl) rfl fun a hF => step hF (Y.load1L 2 sz_4 hF rfl hS rfl rfl) rfl fun a hF => step hF (Y.not hF rfl) rfl fun a hF => nil (then_n (cond_b hF rfl (fun hbv_1 => ?_) (fun hbv_1 => ?_))))))))
 ·replace h := cond_t h hbv_1
  refine seq (region (step hF (Y.loadNL 1 sz_95 hF rfl hS rfl rfl rfl) rfl fun a hF => O.store (us := [.bool av.is, .int .i64 av.lost.Low, .int .i64 av.lost.High]) 3 sz_95 hF rfl rfl rfl rfl hS rfl rfl fun a w hF hS => nil (then_n (ret_ (then_r ?_)))))
  obtain rfl := some_inj h
  exact leaveP Tryd.results62 hF hS (.cons (.cellN 3 sz_95 rfl rfl rfl) .nil) .nil rfl
 replace h := cond_f h hbv_1
 refine skip_ (then_n (seq (region (step hF (Y.fieldAddr fo_95_1 hF rfl) rfl fun a hF => step hF (Y.fieldAddr fo_33_0 hF rfl) rfl fun a hF => step hF (Y.load1L 1 sz_3 hF rfl hS rfl rfl) rfl fun a hF => step hF (Y.fieldAddr fo_95_1 hF rfl) rfl fun a hF => step hF (Y.fieldAddr fo_33_0 hF rfl) rfl fun a hF => step hF (Y.load1L 2 sz_3 hF rfl hS rfl rfl) rfl fun a hF => step hF (Y.min2 hF rfl rfl) rfl fun a hF => step hF (Y.fieldAddr fo_95_1 hF rfl) rfl fun a hF => step hF (Y.fieldAddr fo_33_1 hF rfl) rfl fun a hF => step hF (Y.load1L 1 sz_3 hF rfl hS rfl rfl) rfl fun a hF => step hF (Y.fieldAddr fo_95_1 hF rfl) rfl fun a hF => step hF (Y.fieldAddr fo_33_1 hF rfl) rfl fun a hF => step hF (Y.load1L 2 sz_3 hF rfl hS rfl rfl) rfl fun a hF => step hF (Y.max2 hF rfl rfl) rfl fun a hF => ?_))))
 obtain ⟨rv, hx, h⟩ := bind_some h
 refine O.callP (us := [.int .i64 (if b.lost.Low < av.lost.Low then b.lost.Low else av.lost.Low), .int .i64 (if b.lost.High > av.lost.High then b.lost.High else av.lost.High)]) ca_43 hF hS (r0To_ok hS.stab (if b.lost.Low < av.lost.Low then b.lost.Low else av.lost.Low) (if b.lost.High > av.lost.High then b.lost.High else av.lost.High) rv hx) rfl rfl fun a w hF hS => step hF (Y.build (parts := [(0, (.const (.bool true))), (1, (.tmp 27))]) (cs := #[.bool true, .int .i64 rv.Low, .int .i64 rv.High]) hF rfl (by kernel_rfl)) rfl fun a hF => O.store (us := [.bool true, .int .i64 rv.Low, .int .i64 rv.High]) 3 sz_95 hF rfl rfl rfl rfl hS rfl rfl fun a w hF hS => nil (then_n (ret_ ?_))
 obtain rfl := some_inj h
 exact leaveP Tryd.results62 hF hS (.cons (.cellN 3 sz_95 rfl rfl rfl) .nil) .nil rfl
noncomputable def r7place (sv : SlaveStart) : Option Int :=
  some (wr ((wr (2 * sv.Shown)) + sv.Last))
theorem r7place_ok {w0 : World} {D0 : Stab} (hD : D0.on w0) (sv : SlaveStart) (out : Int) (h : r7place sv = some out) : Calls Tryd.prog 87 [.agg #[.int .i64 sv.Shown, .int .i64 sv.Last]].toArray w0 (RetP D0 w0 (.int .i64 out)) := by
 refine enter _ 9 Tryd.func87 rfl Tryd.ntmps87 rfl fun a hF => ?_
 replace hF : Frm 9 [] [(0, .agg #[.int .i64 sv.Shown, .int .i64 sv.Last])] a := hF
 have hS := St.start hD
 unfold r7place at h
 refine seq (region (O.box (cs := [.int .i64 sv.Shown, .int .i64 sv.Last]) 1 hF rfl rfl hS rfl fun b a w hF hS => step hF (Y.assign hF rfl) rfl fun a hF => nil (then_n (seq (region (step hF (Y.fieldAddr fo_57_0 hF rfl) rfl fun a hF => step hF (Y.load1L 1 sz_3 hF rfl hS rfl rfl) rfl fun a hF => step hF (Y.mul hF rfl rfl) rfl fun a hF => step hF (Y.fieldAddr fo_57_1 hF rfl) rfl fun a hF => step hF (Y.load1L 1 sz_3 hF rfl hS rfl rfl) rfl fun a hF => step hF (Y.add hF rfl rfl) rfl fun a hF => step hF (Y.assign hF rfl) rfl fun a hF => nil (then_n (ret_ ?_))))))))
 obtain rfl := some_inj h
 exact leaveP Tryd.results87 hF hS (.cons (.tmp rfl) .nil) .nil rfl
noncomputable def r7stateOf (n : Int) : Option SlaveStart :=
  some (SlaveStart.mk (wr (Int.tdiv n 2)) (Int.tmod n 2))
theorem r7stateOf_ok {w0 : World} {D0 : Stab} (hD : D0.on w0) (n : Int) (out : SlaveStart) (h : r7stateOf n = some out) : Calls Tryd.prog 89 [.int .i64 n].toArray w0 (RetP D0 w0 (.agg #[.int .i64 out.Shown, .int .i64 out.Last])) := by
 refine enter _ 8 Tryd.func89 rfl Tryd.ntmps89 rfl fun a hF => ?_
 replace hF : Frm 8 [] [(0, .int .i64 n)] a := hF
 have hS := St.start hD
 unfold r7stateOf at h
 refine seq (region (O.alloc 1 zc_57 hF hS rfl fun b a w hF hS => nil (then_n (seq (region (step hF (Y.move hF rfl) rfl fun a hF => step hF (Y.quo hF rfl rfl (by decide)) rfl fun a hF => step hF (Y.move hF rfl) rfl fun a hF => step hF (Y.rem hF rfl rfl (by decide)) rfl fun a hF => step hF (Y.build (parts := [(0, (.tmp 4)), (1, (.tmp 6))]) (cs := #[.int .i64 (wr (Int.tdiv n 2)), .int .i64 (Int.tmod n 2)]) hF rfl (by kernel_rfl)) rfl fun a hF => O.store (us := [.int .i64 (wr (Int.tdiv n 2)), .int .i64 (Int.tmod n 2)]) 1 sz_57 hF rfl rfl rfl rfl hS rfl rfl fun a w hF hS => nil (then_n (ret_ ?_))))))))
 obtain rfl := some_inj h
 exact leaveP Tryd.results89 hF hS (.cons (.cellN 1 sz_57 rfl rfl rfl) .nil) .nil rfl
noncomputable def r7pulses_k6 (sv : Int) (mx_4 : (List (List r7could))) : Option ((Int × (List (List r7could))) ⊕ ((Int × (List (List r7could))) ⊕ (((List (List r7could)) × Int) ⊕ (List r7could)))) :=
  nxt (wr (sv + 1), mx_4)
noncomputable def r7pulses_b5 (l : SlaveLine) (xv : SlaveEvent) (now : (List (List r7could))) (p_5 : Int) (k_2 : Int) : (Int × (List (List r7could))) → Option ((Int × (List (List r7could))) ⊕ ((Int × (List (List r7could))) ⊕ (((List (List r7could)) × Int) ⊕ (List r7could))))
 | (sv, mx_3) =>
  cond (decide (sv < (wr (2 * l.Ring))))
  ((idx now k_2).bind fun e =>
  (idx e sv).bind fun e_1 =>
  cond (!e_1.is)
  (r7pulses_k6 sv mx_3)
  (if (0 : Int) ≤ k_2 ∧ k_2 < (mx_3.length : Int) then
  (r7stateOf sv).bind fun rv =>
  (r7got l rv xv p_5).bind fun rv_1 =>
  (r7place rv_1).bind fun rv_2 =>
  if (0 : Int) ≤ rv_2 ∧ rv_2 < ((mx_3.getD (Int.toNat k_2) []).length : Int) then
  (r7either (r7could.mk (((mx_3.getD (Int.toNat k_2) []).getD (Int.toNat rv_2) ((r7could.mk false (Span.mk 0 0)) : r7could)).is) (Span.mk ((((mx_3.getD (Int.toNat k_2) []).getD (Int.toNat rv_2) ((r7could.mk false (Span.mk 0 0)) : r7could)).lost).Low) ((((mx_3.getD (Int.toNat k_2) []).getD (Int.toNat rv_2) ((r7could.mk false (Span.mk 0 0)) : r7could)).lost).High))) e_1).bind fun rv_3 =>
  if (0 : Int) ≤ rv_2 ∧ rv_2 < ((mx_3.getD (Int.toNat k_2) []).length : Int) then
  cond (decide (k_2 < xv.Lost))
  (if (0 : Int) ≤ (wr (k_2 + 1)) ∧ (wr (k_2 + 1)) < ((mx_3.set (Int.toNat k_2) ((mx_3.getD (Int.toNat k_2) []).set (Int.toNat rv_2) rv_3)).length : Int) then
  if (0 : Int) ≤ sv ∧ sv < (((mx_3.set (Int.toNat k_2) ((mx_3.getD (Int.toNat k_2) []).set (Int.toNat rv_2) rv_3)).getD (Int.toNat (wr (k_2 + 1))) []).length : Int) then
  (r0To (wr (e_1.lost.Low + 1)) (wr (e_1.lost.High + 1))).bind fun rv_4 =>
  (r7either (r7could.mk ((((mx_3.set (Int.toNat k_2) ((mx_3.getD (Int.toNat k_2) []).set (Int.toNat rv_2) rv_3)).getD (Int.toNat (wr (k_2 + 1))) []).getD (Int.toNat sv) ((r7could.mk false (Span.mk 0 0)) : r7could)).is) (Span.mk (((((mx_3.set (Int.toNat k_2) ((mx_3.getD (Int.toNat k_2) []).set (Int.toNat rv_2) rv_3)).getD (Int.toNat (wr (k_2 + 1))) []).getD (Int.toNat sv) ((r7could.mk false (Span.mk 0 0)) : r7could)).lost).Low) (((((mx_3.set (Int.toNat k_2) ((mx_3.getD (Int.toNat k_2) []).set (Int.toNat rv_2) rv_3)).getD (Int.toNat (wr (k_2 + 1))) []).getD (Int.toNat sv) ((r7could.mk false (Span.mk 0 0)) : r7could)).lost).High))) (r7could.mk true rv_4)).bind fun rv_5 =>
  if (0 : Int) ≤ sv ∧ sv < (((mx_3.set (Int.toNat k_2) ((mx_3.getD (Int.toNat k_2) []).set (Int.toNat rv_2) rv_3)).getD (Int.toNat (wr (k_2 + 1))) []).length : Int) then
  r7pulses_k6 sv ((mx_3.set (Int.toNat k_2) ((mx_3.getD (Int.toNat k_2) []).set (Int.toNat rv_2) rv_3)).set (Int.toNat (wr (k_2 + 1))) (((mx_3.set (Int.toNat k_2) ((mx_3.getD (Int.toNat k_2) []).set (Int.toNat rv_2) rv_3)).getD (Int.toNat (wr (k_2 + 1))) []).set (Int.toNat sv) rv_5))
  else none
  else none
  else none)
  (r7pulses_k6 sv (mx_3.set (Int.toNat k_2) ((mx_3.getD (Int.toNat k_2) []).set (Int.toNat rv_2) rv_3)))
  else none
  else none
  else none))
  (ext (nxt (wr (k_2 + 1), mx_3)))
noncomputable def r7pulses_b4 (l : SlaveLine) (xv : SlaveEvent) (now : (List (List r7could))) (p_5 : Int) : (Int × (List (List r7could))) → Option ((Int × (List (List r7could))) ⊕ (((List (List r7could)) × Int) ⊕ (List r7could)))
 | (k_2, mx_2) =>
  cond (decide (k_2 ≤ xv.Lost))
  (loopU (r7pulses_b5 l xv now p_5 k_2) (0, mx_2))
  (ext (nxt (mx_2, wr (p_5 + 1))))
noncomputable def r7pulses_b3 (l : SlaveLine) (xv : SlaveEvent) (now : (List (List r7could))) (p_5 : Int) : (Int × (List (List r7could))) → Option ((Int × (List (List r7could))) ⊕ (((List (List r7could)) × Int) ⊕ (List r7could)))
 | (k_1, mx_1) =>
  cond (decide (k_1 ≤ xv.Lost))
  (if (0 : Int) ≤ (wr (2 * l.Ring)) ∧ (wr (2 * l.Ring)) ≤ (mlim : Int) then
  if (0 : Int) ≤ k_1 ∧ k_1 < (mx_1.length : Int) then
  nxt (wr (k_1 + 1), (mx_1.set (Int.toNat k_1) (List.replicate (Int.toNat (wr (2 * l.Ring))) ((r7could.mk false (Span.mk 0 0)) : r7could))))
  else none
  else none)
  (ext (loopU (r7pulses_b4 l xv now p_5) (0, mx_1)))
noncomputable def r7pulses_b8 (l : SlaveLine) (now : (List (List r7could))) (k_3 : Int) : (Int × (List r7could)) → Option ((Int × (List r7could)) ⊕ ((Int × (List r7could)) ⊕ (List r7could)))
 | (sv_1, l_2) =>
  cond (decide (sv_1 < (wr (2 * l.Ring))))
  ((idx l_2 sv_1).bind fun e_2 =>
  (idx now k_3).bind fun e_3 =>
  (idx e_3 sv_1).bind fun e_4 =>
  (r7either e_2 e_4).bind fun rv_6 =>
  if (0 : Int) ≤ sv_1 ∧ sv_1 < (l_2.length : Int) then
  nxt (wr (sv_1 + 1), (l_2.set (Int.toNat sv_1) rv_6))
  else none)
  (ext (nxt (wr (k_3 + 1), l_2)))
noncomputable def r7pulses_b7 (l : SlaveLine) (xv : SlaveEvent) (now : (List (List r7could))) : (Int × (List r7could)) → Option ((Int × (List r7could)) ⊕ (List r7could))
 | (k_3, l_1) =>
  cond (decide (k_3 ≤ xv.Lost))
  (loopU (r7pulses_b8 l now k_3) (0, l_1))
  (ext (some l_1))
noncomputable def r7pulses_b2 (l : SlaveLine) (xv : SlaveEvent) : ((List (List r7could)) × Int) → Option (((List (List r7could)) × Int) ⊕ (List r7could))
 | (now, p_5) =>
  cond (decide (p_5 < xv.Count))
  (if (0 : Int) ≤ (wr (xv.Lost + 1)) ∧ (wr (xv.Lost + 1)) ≤ (mlim : Int) then
  loopU (r7pulses_b3 l xv now p_5) (0, (List.replicate (Int.toNat (wr (xv.Lost + 1))) ([] : List r7could)))
  else none)
  (ext (if (0 : Int) ≤ (wr (2 * l.Ring)) ∧ (wr (2 * l.Ring)) ≤ (mlim : Int) then
  loopU (r7pulses_b7 l xv now) (0, (List.replicate (Int.toNat (wr (2 * l.Ring))) ((r7could.mk false (Span.mk 0 0)) : r7could)))
  else none))
noncomputable def r7pulses_b1 (l : SlaveLine) (before : (List r7could)) (xv : SlaveEvent) : (Int × (List (List r7could))) → Option ((Int × (List (List r7could))) ⊕ (List r7could))
 | (k, mx) =>
  cond (decide (k ≤ xv.Lost))
  (if (0 : Int) ≤ (wr (2 * l.Ring)) ∧ (wr (2 * l.Ring)) ≤ (mlim : Int) then
  if (0 : Int) ≤ k ∧ k < (mx.length : Int) then
  nxt (wr (k + 1), (mx.set (Int.toNat k) (List.replicate (Int.toNat (wr (2 * l.Ring))) ((r7could.mk false (Span.mk 0 0)) : r7could))))
  else none
  else none)
  (ext (if (0 : Int) ≤ 0 ∧ 0 < (mx.length : Int) then
  loopU (r7pulses_b2 l xv) ((mx.set (Int.toNat 0) before), 0)
  else none))
noncomputable def r7pulses (l : SlaveLine) (before : (List r7could)) (xv : SlaveEvent) : Option (List r7could) :=
  if (0 : Int) ≤ (wr (xv.Lost + 1)) ∧ (wr (xv.Lost + 1)) ≤ (mlim : Int) then
  loopU (r7pulses_b1 l before xv) (0, (List.replicate (Int.toNat (wr (xv.Lost + 1))) ([] : List r7could)))
  else none
theorem r7pulses_ok {w0 : World} {D0 : Stab} (hD : D0.on w0) (l : SlaveLine) (before : (List r7could)) (xv : SlaveEvent) {p : Option Addr} {c : Nat} {p_1 : Option Addr} {c_1 : Nat} {p_2 : Option Addr} {c_2 : Nat} (hs : SRc C_SlaveStart D0 l.Starts p c) (hs_1 : SRc C_SlaveEvent D0 l.Events p_1 c_1) (hs_2 : SRc C_remontoirref07_could D0 before p_2 c_2) (out : (List r7could)) (h : r7pulses l before xv = some out) : Calls Tryd.prog 88 [.agg #[.int .i64 l.Ring, .slice p l.Starts.length c, .slice p_1 l.Events.length c_1], .slice p_2 before.length c_2, .agg #[.int .i64 xv.Kind, .int .i64 xv.First, .int .i64 xv.Count, .int .i64 xv.Lost, .int .i64 xv.Who, .int .i64 xv.Shown]].toArray w0 (RetS D0 w0 fun D v => ∃ p_13 c_9, v = .slice p_13 out.length c_9 ∧ SRc C_remontoirref07_could D out p_13 c_9) := by
 refine enter _ 168 Tryd.func88 rfl Tryd.ntmps88 rfl fun a hF => ?_
 replace hF : Frm 168 [] [(0, .agg #[.int .i64 l.Ring, .slice p l.Starts.length c, .slice p_1 l.Events.length c_1]), (1, .slice p_2 before.length c_2), (2, .agg #[.int .i64 xv.Kind, .int .i64 xv.First, .int .i64 xv.Count, .int .i64 xv.Lost, .int .i64 xv.Who, .int .i64 xv.Shown])] a := hF
 have hS := St.start hD
 unfold r7pulses at h
 refine seq (region (O.box (cs := [.int .i64 l.Ring, .slice p l.Starts.length c, .slice p_1 l.Events.length c_1]) 1 hF rfl rfl hS rfl fun b a w hF hS => O.box (cs := [.int .i64 xv.Kind, .int .i64 xv.First, .int .i64 xv.Count, .int .i64 xv.Lost, .int .i64 xv.Who, .int .i64 xv.Shown]) 2 hF rfl rfl hS rfl fun b_1 a w hF hS => step hF (Y.assign hF rfl) rfl fun a hF => nil (then_n (seq (region (step hF (Y.fieldAddr fo_66_3 hF rfl) rfl fun a hF => step hF (Y.load1L 2 sz_3 hF rfl hS rfl rfl) rfl fun a hF => step hF (Y.add hF rfl rfl) rfl fun a hF => ?_))))))
 obtain ⟨hg, h⟩ := ite_some h
 refine O.makeMat (α := r7could) (C := C_remontoirref07_could) (Ei := 95) 3 gr_148 zc_91 hF rfl rfl hS hg rfl fun b_2 rows a w hF hS hM => step hF (Y.assign hF rfl) rfl fun a hF => nil (then_n (seq (seq (region (step hF (Y.assign hF rfl) rfl fun a hF => nil (then_n (block (loop_cut (body := r7pulses_b1 l before xv) (out := out) (fun s a w => ∃ (k : Int) (mx : (List (List r7could))), ∃ rows_1, s = (k, mx) ∧ Frm 168 [] [(1, .slice p_2 before.length c_2), (3, .pointer (some ⟨b, 0, none⟩)), (5, .pointer (some ⟨b_1, 0, none⟩)), (6, .slice none 0 0), (7, .slice (some ⟨b_2, 0, none⟩) (List.replicate (Int.toNat (wr (xv.Lost + 1))) ([] : List r7could)).length (List.replicate (Int.toNat (wr (xv.Lost + 1))) ([] : List r7could)).length), (8, .int .i64 k)] a ∧ St w0 D0 D0 [(1, .cells b [.int .i64 l.Ring, .slice p l.Starts.length c, .slice p_1 l.Events.length c_1] 25), (2, .cells b_1 [.int .i64 xv.Kind, .int .i64 xv.First, .int .i64 xv.Count, .int .i64 xv.Lost, .int .i64 xv.Who, .int .i64 xv.Shown] 66), (3, .mat b_2 rows_1 91 95)] w ∧ RepM C_remontoirref07_could D0 mx rows_1 ∧ mx.length = (List.replicate (Int.toNat (wr (xv.Lost + 1))) ([] : List r7could)).length) (0, (List.replicate (Int.toNat (wr (xv.Lost + 1))) ([] : List r7could))) h ⟨0, (List.replicate (Int.toNat (wr (xv.Lost + 1))) ([] : List r7could)), rows, rfl, hF.weak ⟨rfl, rfl, rfl, rfl, rfl, rfl, trivial⟩, hS.weak ⟨rfl, rfl, rfl, trivial⟩, hM, rfl⟩ ?_))))))))
 rintro s a w xo ⟨k, mx, rows_1, rfl, hF, hS, hM_1, hlm⟩ h hxo
 unfold r7pulses_b1 at h
 dsimp only at h
 refine seq (seq (region (step hF (Y.move hF rfl) rfl fun a hF => step hF (Y.fieldAddr fo_66_3 hF rfl) rfl fun a hF => step hF (Y.load1L 2 sz_3 hF rfl hS rfl rfl) rfl fun a hF => step hF (Y.leq hF rfl rfl) rfl fun a hF => nil (then_n (cond_b hF rfl (fun hbv => ?_) (fun hbv => ?_))))))
 ·replace h := cond_t h hbv
  refine skip_ (then_n (seq (block (region (step hF (Y.move hF rfl) rfl fun a hF => step hF (Y.move hF rfl) rfl fun a hF => step hF (Y.fieldAddr fo_25_0 hF rfl) rfl fun a hF => step hF (Y.load1L 1 sz_3 hF rfl hS rfl rfl) rfl fun a hF => step hF (Y.mul hF rfl rfl) rfl fun a hF => ?_)))))
  obtain ⟨hg_1, h⟩ := ite_some h
  refine O.makeRow (C := C_remontoirref07_could) ((r7could.mk false (Span.mk 0 0)) : r7could) 4 gr_91 zc_95 rfl hF rfl rfl hS hg_1 rfl fun p_3 cs a w hF hS hr => ?_
  obtain ⟨hg_2, h⟩ := ite_some h
  refine step hF (Y.indexSl u_148 sz_91 hF rfl rfl hg_2.1 (by rw [← hlm]; exact hg_2.2)) rfl fun a hF => O.setRow (C := C_remontoirref07_could) 3 4 (by decide) sz_91 hg_2 hF rfl rfl hS rfl rfl hM_1 hr fun rows_2 a w hF hS hM_2 => ?_
  have hlm_1 : (mx.set (Int.toNat k) (List.replicate (Int.toNat (wr (2 * l.Ring))) ((r7could.mk false (Span.mk 0 0)) : r7could))).length = (List.replicate (Int.toNat (wr (xv.Lost + 1))) ([] : List r7could)).length := by simpa only [List.length_set] using hlm
  refine nil (blk_n (then_n (region (step hF (Y.move hF rfl) rfl fun a hF => step hF (Y.add hF rfl rfl) rfl fun a hF => step hF (Y.assign hF rfl) rfl fun a hF => nil (then_n (⟨_, nxt_some h, (wr (k + 1)), (mx.set (Int.toNat k) (List.replicate (Int.toNat (wr (2 * l.Ring))) ((r7could.mk false (Span.mk 0 0)) : r7could))), rows_2, rfl, hF.weak ⟨rfl, rfl, rfl, rfl, rfl, rfl, trivial⟩, hS.weak ⟨rfl, rfl, rfl, trivial⟩, hM_2, hlm_1⟩))))))
 replace h := cond_f h hbv
 refine exit_ (then_x (then_x (blk_hit (then_n ?_))))
 replace h := ext_some h hxo
 refine seq (region (step hF (Y.move hF rfl) rfl fun a hF => step hF (Y.move hF rfl) rfl fun a hF => ?_))
 obtain ⟨hg_3, h⟩ := ite_some h
 refine step hF (Y.indexSl u_148 sz_91 hF rfl rfl hg_3.1 (by rw [← hlm]; exact hg_3.2)) rfl fun a hF => ?_
 obtain ⟨Dv, cs_1, hlev, hr_1, hS⟩ := hS.freezeRows (C := C_remontoirref07_could) (i := 3) (xs := mx) (mat_max hlm hg) rfl hM_1
 replace hs := hs.mono hlev
 replace hs_1 := hs_1.mono hlev
 replace hs_2 := hs_2.mono hlev
 rw [← hlm] at hF
 refine O.storeOwnP (C := (C_sl C_remontoirref07_could)) (v0 := before) (xs := mx) (us := [.slice p_2 before.length c_2]) 3 rfl sz_91 hg_3 hF rfl rfl rfl (⟨_, _, rfl, hs_2⟩) hS rfl hr_1 fun cs_2 a w hF hS hr_2 => ?_
 try rw [show mx.length = (mx.set (Int.toNat 0) before).length from List.length_set.symm] at hF
 try rw [show mx.length = (mx.set (Int.toNat 0) before).length from List.length_set.symm] at hS
 refine nil (then_n (seq (seq (region (step hF (Y.assign hF rfl) rfl fun a hF => nil (then_n (block ?_)))))))
 obtain ⟨Dv_1, hlev_1, hs_3, hS⟩ := hS.freezeC (i := 3) (xs := (mx.set (Int.toNat 0) before)) rfl hr_2
 replace hs := hs.mono hlev_1
 replace hs_1 := hs_1.mono hlev_1
 refine loop_cut (body := r7pulses_b2 l xv) (out := out) (fun s a w => ∃ (now : (List (List r7could))) (p_5 : Int), ∃ (Dv_2 : Stab), ∃ p_4 c_3, s = (now, p_5) ∧ Dv_1.le Dv_2 ∧ Frm 168 [] [(3, .pointer (some ⟨b, 0, none⟩)), (5, .pointer (some ⟨b_1, 0, none⟩)), (6, .slice none 0 0), (7, .slice p_4 now.length c_3), (9, .int .i64 p_5)] a ∧ St w0 D0 Dv_2 [(1, .cells b [.int .i64 l.Ring, .slice p l.Starts.length c, .slice p_1 l.Events.length c_1] 25), (2, .cells b_1 [.int .i64 xv.Kind, .int .i64 xv.First, .int .i64 xv.Count, .int .i64 xv.Lost, .int .i64 xv.Who, .int .i64 xv.Shown] 66)] w ∧ SRc (C_sl C_remontoirref07_could) Dv_2 now p_4 c_3) ((mx.set (Int.toNat 0) before), 0) h ⟨(mx.set (Int.toNat 0) before), 0, Dv_1, (some ⟨b_2, 0, none⟩), ((mx.set (Int.toNat 0) before).length), rfl, Stab.le.refl _, hF.weak ⟨rfl, rfl, rfl, rfl, rfl, trivial⟩, hS.weak ⟨rfl, rfl, trivial⟩, hs_3⟩ ?_
 rintro s a w xo_1 ⟨now, p_5, Dv_2, p_4, c_3, rfl, hlev_2, hF, hS, hs_4⟩ h hxo_1
 unfold r7pulses_b2 at h
 dsimp only at h
 replace hs := hs.mono hlev_2
 replace hs_1 := hs_1.mono hlev_2
 refine seq (seq (region (step hF (Y.move hF rfl) rfl fun a hF => step hF (Y.fieldAddr fo_66_2 hF rfl) rfl fun a hF => step hF (Y.load1L 2 sz_3 hF rfl hS rfl rfl) rfl fun a hF => step hF (Y.lss hF rfl rfl) rfl fun a hF => nil (then_n (cond_b hF rfl (fun hbv_1 => ?_) (fun hbv_1 => ?_))))))
 ·replace h := cond_t h hbv_1
  refine skip_ (then_n (seq (block (seq (region (step hF (Y.fieldAddr fo_66_3 hF rfl) rfl fun a hF => step hF (Y.load1L 2 sz_3 hF rfl hS rfl rfl) rfl fun a hF => step hF (Y.add hF rfl rfl) rfl fun a hF => ?_))))))
  obtain ⟨hg_4, h⟩ := ite_some h
  refine O.makeMat (α := r7could) (C := C_remontoirref07_could) (Ei := 95) 5 gr_148 zc_91 hF rfl rfl hS hg_4 rfl fun b_3 rows_3 a w hF hS hM_3 => step hF (Y.assign hF rfl) rfl fun a hF => nil (then_n (seq (seq (region (step hF (Y.assign hF rfl) rfl fun a hF => nil (then_n (block (loop_cut (body := r7pulses_b3 l xv now p_5) (out := xo_1) (fun s a w => ∃ (k_1 : Int) (mx_1 : (List (List r7could))), ∃ rows_4, s = (k_1, mx_1) ∧ Frm 168 [] [(3, .pointer (some ⟨b, 0, none⟩)), (5, .pointer (some ⟨b_1, 0, none⟩)), (6, .slice none 0 0), (7, .slice p_4 now.length c_3), (9, .int .i64 p_5), (10, .slice (some ⟨b_3, 0, none⟩) (List.replicate (Int.toNat (wr (xv.Lost + 1))) ([] : List r7could)).length (List.replicate (Int.toNat (wr (xv.Lost + 1))) ([] : List r7could)).length), (11, .int .i64 k_1)] a ∧ St w0 D0 Dv_2 [(1, .cells b [.int .i64 l.Ring, .slice p l.Starts.length c, .slice p_1 l.Events.length c_1] 25), (2, .cells b_1 [.int .i64 xv.Kind, .int .i64 xv.First, .int .i64 xv.Count, .int .i64 xv.Lost, .int .i64 xv.Who, .int .i64 xv.Shown] 66), (5, .mat b_3 rows_4 91 95)] w ∧ RepM C_remontoirref07_could Dv_2 mx_1 rows_4 ∧ mx_1.length = (List.replicate (Int.toNat (wr (xv.Lost + 1))) ([] : List r7could)).length) (0, (List.replicate (Int.toNat (wr (xv.Lost + 1))) ([] : List r7could))) h ⟨0, (List.replicate (Int.toNat (wr (xv.Lost + 1))) ([] : List r7could)), rows_3, rfl, hF.weak ⟨rfl, rfl, rfl, rfl, rfl, rfl, rfl, trivial⟩, hS.weak ⟨rfl, rfl, rfl, trivial⟩, hM_3, rfl⟩ ?_))))))))
  rintro s a w xo_2 ⟨k_1, mx_1, rows_4, rfl, hF, hS, hM_4, hlm_2⟩ h hxo_2
  unfold r7pulses_b3 at h
  dsimp only at h
  refine seq (seq (region (step hF (Y.move hF rfl) rfl fun a hF => step hF (Y.fieldAddr fo_66_3 hF rfl) rfl fun a hF => step hF (Y.load1L 2 sz_3 hF rfl hS rfl rfl) rfl fun a hF => step hF (Y.leq hF rfl rfl) rfl fun a hF => nil (then_n (cond_b hF rfl (fun hbv_2 => ?_) (fun hbv_2 => ?_))))))
  ·replace h := cond_t h hbv_2
   refine skip_ (then_n (seq (block (region (step hF (Y.move hF rfl) rfl fun a hF => step hF (Y.move hF rfl) rfl fun a hF => step hF (Y.fieldAddr fo_25_0 hF rfl) rfl fun a hF => step hF (Y.load1L 1 sz_3 hF rfl hS rfl rfl) rfl fun a hF => step hF (Y.mul hF rfl rfl) rfl fun a hF => ?_)))))
   obtain ⟨hg_5, h⟩ := ite_some h
   refine O.makeRow (C := C_remontoirref07_could) ((r7could.mk false (Span.mk 0 0)) : r7could) 6 gr_91 zc_95 rfl hF rfl rfl hS hg_5 rfl fun p_6 cs_3 a w hF hS hr_3 => ?_
   obtain ⟨hg_6, h⟩ := ite_some h
   refine step hF (Y.indexSl u_148 sz_91 hF rfl rfl hg_6.1 (by rw [← hlm_2]; exact hg_6.2)) rfl fun a hF => O.setRow (C := C_remontoirref07_could) 5 6 (by decide) sz_91 hg_6 hF rfl rfl hS rfl rfl hM_4 hr_3 fun rows_5 a w hF hS hM_5 => ?_
   have hlm_3 : (mx_1.set (Int.toNat k_1) (List.replicate (Int.toNat (wr (2 * l.Ring))) ((r7could.mk false (Span.mk 0 0)) : r7could))).length = (List.replicate (Int.toNat (wr (xv.Lost + 1))) ([] : List r7could)).length := by simpa only [List.length_set] using hlm_2
   refine nil (blk_n (then_n (region (step hF (Y.move hF rfl) rfl fun a hF => step hF (Y.add hF rfl rfl) rfl fun a hF => step hF (Y.assign hF rfl) rfl fun a hF => nil (then_n (⟨_, nxt_some h, (wr (k_1 + 1)), (mx_1.set (Int.toNat k_1) (List.replicate (Int.toNat (wr (2 * l.Ring))) ((r7could.mk false (Span.mk 0 0)) : r7could))), rows_5, rfl, hF.weak ⟨rfl, rfl, rfl, rfl, rfl, rfl, rfl, trivial⟩, hS.weak ⟨rfl, rfl, rfl, trivial⟩, hM_5, hlm_3⟩))))))
  replace h := cond_f h hbv_2
  refine exit_ (then_x (then_x (blk_hit (then_n ?_))))
  replace h := ext_some h hxo_2
  refine seq (seq (region (step hF (Y.assign hF rfl) rfl fun a hF => nil (then_n (block (loop_cut (body := r7pulses_b4 l xv now p_5) (out := xo_1) (fun s a w => ∃ (k_2 : Int) (mx_2 : (List (List r7could))), ∃ (Dv_3 : Stab), ∃ rows_6, s = (k_2, mx_2) ∧ Dv_2.le Dv_3 ∧ Frm 168 [] [(3, .pointer (some ⟨b, 0, none⟩)), (5, .pointer (some ⟨b_1, 0, none⟩)), (6, .slice none 0 0), (7, .slice p_4 now.length c_3), (9, .int .i64 p_5), (10, .slice (some ⟨b_3, 0, none⟩) (List.replicate (Int.toNat (wr (xv.Lost + 1))) ([] : List r7could)).length (List.replicate (Int.toNat (wr (xv.Lost + 1))) ([] : List r7could)).length), (12, .int .i64 k_2)] a ∧ St w0 D0 Dv_3 [(1, .cells b [.int .i64 l.Ring, .slice p l.Starts.length c, .slice p_1 l.Events.length c_1] 25), (2, .cells b_1 [.int .i64 xv.Kind, .int .i64 xv.First, .int .i64 xv.Count, .int .i64 xv.Lost, .int .i64 xv.Who, .int .i64 xv.Shown] 66), (5, .mat b_3 rows_6 91 95)] w ∧ RepM C_remontoirref07_could Dv_3 mx_2 rows_6 ∧ mx_2.length = (List.replicate (Int.toNat (wr (xv.Lost + 1))) ([] : List r7could)).length) (0, mx_1) h ⟨0, mx_1, Dv_2, rows_4, rfl, Stab.le.refl _, hF.weak ⟨rfl, rfl, rfl, rfl, rfl, rfl, rfl, trivial⟩, hS.weak ⟨rfl, rfl, rfl, trivial⟩, hM_4, hlm_2⟩ ?_))))))
  rintro s a w xo_3 ⟨k_2, mx_2, Dv_3, rows_6, rfl, hlev_3, hF, hS, hM_6, hlm_4⟩ h hxo_3
  unfold r7pulses_b4 at h
  dsimp only at h
  replace hs := hs.mono hlev_3
  replace hs_1 := hs_1.mono hlev_3
  replace hs_4 := hs_4.mono hlev_3
  refine seq (seq (region (step hF (Y.move hF rfl) rfl fun a hF => step hF (Y.fieldAddr fo_66_3 hF rfl) rfl fun a hF => step hF (Y.load1L 2 sz_3 hF rfl hS rfl rfl) rfl fun a hF => step hF (Y.leq hF rfl rfl) rfl fun a hF => nil (then_n (cond_b hF rfl (fun hbv_3 => ?_) (fun hbv_3 => ?_))))))
  ·replace h := cond_t h hbv_3
   refine skip_ (then_n (seq (block (seq (region (step hF (Y.assign hF rfl) rfl fun a hF => nil (then_n (block (loop_cut (body := r7pulses_b5 l xv now p_5 k_2) (out := xo_3) (fun s a w => ∃ (sv : Int) (mx_3 : (List (List r7could))), ∃ (Dv_4 : Stab), ∃ rows_7, s = (sv, mx_3) ∧ Dv_3.le Dv_4 ∧ Frm 168 [] [(3, .pointer (some ⟨b, 0, none⟩)), (5, .pointer (some ⟨b_1, 0, none⟩)), (6, .slice none 0 0), (7, .slice p_4 now.length c_3), (9, .int .i64 p_5), (10, .slice (some ⟨b_3, 0, none⟩) (List.replicate (Int.toNat (wr (xv.Lost + 1))) ([] : List r7could)).length (List.replicate (Int.toNat (wr (xv.Lost + 1))) ([] : List r7could)).length), (12, .int .i64 k_2), (13, .int .i64 sv)] a ∧ St w0 D0 Dv_4 [(1, .cells b [.int .i64 l.Ring, .slice p l.Starts.length c, .slice p_1 l.Events.length c_1] 25), (2, .cells b_1 [.int .i64 xv.Kind, .int .i64 xv.First, .int .i64 xv.Count, .int .i64 xv.Lost, .int .i64 xv.Who, .int .i64 xv.Shown] 66), (5, .mat b_3 rows_7 91 95)] w ∧ RepM C_remontoirref07_could Dv_4 mx_3 rows_7 ∧ mx_3.length = (List.replicate (Int.toNat (wr (xv.Lost + 1))) ([] : List r7could)).length) (0, mx_2) h ⟨0, mx_2, Dv_3, rows_6, rfl, Stab.le.refl _, hF.weak ⟨rfl, rfl, rfl, rfl, rfl, rfl, rfl, rfl, trivial⟩, hS.weak ⟨rfl, rfl, rfl, trivial⟩, hM_6, hlm_4⟩ ?_)))))))))
   rintro s a w xo_4 ⟨sv, mx_3, Dv_4, rows_7, rfl, hlev_4, hF, hS, hM_7, hlm_5⟩ h hxo_4
   unfold r7pulses_b5 at h
   dsimp only at h
   replace hs := hs.mono hlev_4
   replace hs_1 := hs_1.mono hlev_4
   replace hs_4 := hs_4.mono hlev_4
   refine seq (seq (region (step hF (Y.move hF rfl) rfl fun a hF => step hF (Y.fieldAddr fo_25_0 hF rfl) rfl fun a hF => step hF (Y.load1L 1 sz_3 hF rfl hS rfl rfl) rfl fun a hF => step hF (Y.mul hF rfl rfl) rfl fun a hF => step hF (Y.lss hF rfl rfl) rfl fun a hF => nil (then_n (cond_b hF rfl (fun hbv_4 => ?_) (fun hbv_4 => ?_))))))
   ·replace h := cond_t h hbv_4
    refine skip_ (then_n (seq_cut (fun a w => ∃ (mx_4 : (List (List r7could))), ∃ (Dv_5 : Stab), ∃ rows_8, Dv_4.le Dv_5 ∧ Frm 168 [] [(3, .pointer (some ⟨b, 0, none⟩)), (5, .pointer (some ⟨b_1, 0, none⟩)), (6, .slice none 0 0), (7, .slice p_4 now.length c_3), (9, .int .i64 p_5), (10, .slice (some ⟨b_3, 0, none⟩) (List.replicate (Int.toNat (wr (xv.Lost + 1))) ([] : List r7could)).length (List.replicate (Int.toNat (wr (xv.Lost + 1))) ([] : List r7could)).length), (12, .int .i64 k_2), (13, .int .i64 sv)] a ∧ St w0 D0 Dv_5 [(1, .cells b [.int .i64 l.Ring, .slice p l.Starts.length c, .slice p_1 l.Events.length c_1] 25), (2, .cells b_1 [.int .i64 xv.Kind, .int .i64 xv.First, .int .i64 xv.Count, .int .i64 xv.Lost, .int .i64 xv.Who, .int .i64 xv.Shown] 66), (5, .mat b_3 rows_8 91 95)] w ∧ RepM C_remontoirref07_could Dv_5 mx_4 rows_8 ∧ mx_4.length = (List.replicate (Int.toNat (wr (xv.Lost + 1))) ([] : List r7could)).length ∧ r7pulses_k6 sv mx_4 = some xo_4) ?_ ?_))
    ·skip
     refine block (seq (region (step hF (Y.move hF rfl) rfl fun a hF => step hF (Y.move hF rfl) rfl fun a hF => ?_)))
     obtain ⟨e, hx, h⟩ := bind_some h
     obtain ⟨b_4, o, hE, hY⟩ := Y.indexS (P := Tryd.prog) (C := (C_sl C_remontoirref07_could)) (xs := now) (T := 148) (x := (.tmp 77)) (y := (.tmp 78)) u_148 sz_91 hF rfl rfl (hs_4).1 hx
     obtain ⟨cc, hc, hcell⟩ := hE.open
     obtain ⟨p_7, c_4, rfl, hs_5⟩ := hc
     refine step hF (hY) rfl fun a hF => step hF (Y.load1 sz_91 hF rfl (hcell _ hS.stab 0 _ rfl)) rfl fun a hF => step hF (Y.move hF rfl) rfl fun a hF => ?_
     obtain ⟨e_1, hx_1, h⟩ := bind_some h
     obtain ⟨b_5, o_1, hE_1, hY_1⟩ := Y.indexS (P := Tryd.prog) (C := C_remontoirref07_could) (xs := e) (T := 91) (x := (.tmp 80)) (y := (.tmp 81)) u_91 sz_95 hF rfl rfl (hs_5).1 hx_1
     obtain ⟨cc_1, hc_1, hcell_1⟩ := hE_1.open
     obtain rfl := C_remontoirref07_could.open hc_1
     refine step hF (hY_1) rfl fun a hF => step hF (Y.loadNE (o := o_1) (k := 0) sz_95 hF rfl (hcell_1 _ hS.stab) rfl rfl) rfl fun a hF => O.alloc 7 zc_95 hF hS rfl fun b_6 a w hF hS => O.store (us := [.bool e_1.is, .int .i64 e_1.lost.Low, .int .i64 e_1.lost.High]) 7 sz_95 hF rfl rfl rfl rfl hS rfl rfl fun a w hF hS => nil (then_n (seq (seq (region (step hF (Y.fieldAddr fo_95_0 hF rfl) rfl fun a hF => step hF (Y.load1L 7 sz_4 hF rfl hS rfl rfl) rfl fun a hF => step hF (Y.not hF rfl) rfl fun a hF => nil (then_n (cond_b hF rfl (fun hbv_5 => ?_) (fun hbv_5 => ?_))))))))
     ·replace h := cond_t h hbv_5
      refine exit_ (then_x (blk_hit (then_n (⟨mx_3, Dv_4, rows_7, Stab.le.refl _, hF.weak ⟨rfl, rfl, rfl, rfl, rfl, rfl, rfl, rfl, trivial⟩, hS.weak ⟨rfl, rfl, rfl, trivial⟩, hM_7, hlm_5, h⟩))))
     replace h := cond_f h hbv_5
     refine skip_ (then_n (seq ?_))
     obtain ⟨hg_7, h⟩ := ite_some h
     obtain ⟨rv, hx_2, h⟩ := bind_some h
     obtain ⟨rv_1, hx_3, h⟩ := bind_some h
     obtain ⟨rv_2, hx_4, h⟩ := bind_some h
     refine drawsV 13 (.flt 0 (.flt 1 (.flt 2 (.flt 3 (.flt 4 (.flt 5 (.flt 7 (.flt 8 (.alt 6 (.alt 9 (.alt 10 (.flt 11 (.flt 12 .done)) .stop) .stop) .stop))))))))) mixed_ (by kernel_rfl) (fun w => St w0 D0 Dv_4 [(1, .cells b [.int .i64 l.Ring, .slice p l.Starts.length c, .slice p_1 l.Events.length c_1] 25), (2, .cells b_1 [.int .i64 xv.Kind, .int .i64 xv.First, .int .i64 xv.Count, .int .i64 xv.Lost, .int .i64 xv.Who, .int .i64 xv.Shown] 66), (5, .mat b_3 rows_7 91 95), (7, .cells b_6 [.bool e_1.is, .int .i64 e_1.lost.Low, .int .i64 e_1.lost.High] 95)] w) (fun a w => Frm 168 [] [(3, .pointer (some ⟨b, 0, none⟩)), (5, .pointer (some ⟨b_1, 0, none⟩)), (6, .slice none 0 0), (7, .slice p_4 now.length c_3), (9, .int .i64 p_5), (10, .slice (some ⟨b_3, 0, none⟩) (List.replicate (Int.toNat (wr (xv.Lost + 1))) ([] : List r7could)).length (List.replicate (Int.toNat (wr (xv.Lost + 1))) ([] : List r7could)).length), (12, .int .i64 k_2), (13, .int .i64 sv), (14, .pointer (some ⟨b_6, 0, none⟩)), (15, (rowOf rows_7 (Int.toNat k_2)).hdr), (16, .int .i64 rv_2)] a ∧ St w0 D0 Dv_4 [(1, .cells b [.int .i64 l.Ring, .slice p l.Starts.length c, .slice p_1 l.Events.length c_1] 25), (2, .cells b_1 [.int .i64 xv.Kind, .int .i64 xv.First, .int .i64 xv.Count, .int .i64 xv.Lost, .int .i64 xv.Who, .int .i64 xv.Shown] 66), (5, .mat b_3 rows_7 91 95), (7, .cells b_6 [.bool e_1.is, .int .i64 e_1.lost.Low, .int .i64 e_1.lost.High] 95)] w) (hS.weak (ms := [(1, .cells b [.int .i64 l.Ring, .slice p l.Starts.length c, .slice p_1 l.Events.length c_1] 25), (2, .cells b_1 [.int .i64 xv.Kind, .int .i64 xv.First, .int .i64 xv.Count, .int .i64 xv.Lost, .int .i64 xv.Who, .int .i64 xv.Shown] 66), (5, .mat b_3 rows_7 91 95), (7, .cells b_6 [.bool e_1.is, .int .i64 e_1.lost.Low, .int .i64 e_1.lost.High] 95)]) ⟨rfl, rfl, rfl, rfl, trivial⟩).drew (fun _ _ _ _ h => h) ?_ ?_
     ·replace hS := hS.drew
      have hle0 := hS.le
      refine stepV (i := 0) rfl hF (fun w hS => Y.move hF rfl) rfl fun a hF => stepV (i := 1) rfl hF (fun w hS => Y.move hF rfl) rfl fun a hF => stepV (i := 2) rfl hF (fun w hS => Y.indexSl u_148 sz_91 hF rfl rfl hg_7.1 (by rw [← hlm_5]; exact hg_7.2)) rfl fun a hF => stepV (i := 3) rfl hF (fun w hS => Y.loadRow 5 sz_91 (RepM.guardI hM_7 hg_7) hF rfl hS rfl) rfl fun a hF => stepV (i := 4) rfl hF (fun w hS => Y.loadNL 1 sz_25 hF rfl hS rfl rfl rfl) rfl fun a hF => stepV (i := 5) rfl hF (fun w hS => Y.move hF rfl) rfl fun a hF => stepV (i := 7) rfl hF (fun w hS => Y.loadNL 2 sz_66 hF rfl hS rfl rfl rfl) rfl fun a hF => stepV (i := 8) rfl hF (fun w hS => Y.move hF rfl) rfl fun a hF => oneV (i := 6) rfl ?_ trivial
      refine O.callP (us := [.int .i64 sv]) ca_89 hF hS (r7stateOf_ok hS.stab sv rv hx_2) rfl rfl fun a w hF hS => nil (then_n ⟨hS.weak ⟨rfl, rfl, rfl, rfl, trivial⟩, ?_⟩)
      refine oneV (i := 9) rfl ?_ trivial
      refine O.callP (us := [.agg #[.int .i64 l.Ring, .slice p l.Starts.length c, .slice p_1 l.Events.length c_1], .agg #[.int .i64 rv.Shown, .int .i64 rv.Last], .agg #[.int .i64 xv.Kind, .int .i64 xv.First, .int .i64 xv.Count, .int .i64 xv.Lost, .int .i64 xv.Who, .int .i64 xv.Shown], .int .i64 p_5]) ca_67 hF hS (r7got_ok hS.stab l rv xv p_5 hs hs_1 rv_1 hx_3) rfl rfl fun a w hF hS => nil (then_n ⟨hS.weak ⟨rfl, rfl, rfl, rfl, trivial⟩, ?_⟩)
      refine oneV (i := 10) rfl ?_ trivial
      refine O.callP (us := [.agg #[.int .i64 rv_1.Shown, .int .i64 rv_1.Last]]) ca_87 hF hS (r7place_ok hS.stab rv_1 rv_2 hx_4) rfl rfl fun a w hF hS => nil (then_n ⟨hS.weak ⟨rfl, rfl, rfl, rfl, trivial⟩, ?_⟩)
      refine stepV (i := 11) rfl hF (fun w hS => Y.assign hF rfl) rfl fun a hF => stepV (i := 12) rfl hF (fun w hS => Y.assign hF rfl) rfl fun a hF => toTailV ⟨hF.weak ⟨rfl, rfl, rfl, rfl, rfl, rfl, rfl, rfl, rfl, rfl, rfl, trivial⟩, hS.weak ⟨rfl, rfl, rfl, rfl, trivial⟩⟩
     rintro a w ⟨hF, hS⟩
     refine nil (then_n (seq ?_))
     obtain ⟨hg_8, h⟩ := ite_some h
     obtain ⟨rv_3, hx_5, h⟩ := bind_some h
     obtain ⟨hg_9, h⟩ := ite_some h
     refine drawsV 10 (.flt 0 (.flt 1 (.flt 2 (.flt 3 (.flt 4 (.flt 6 (.alt 5 (.alt 7 (.flt 8 (.alt 9 .done .stop)) .stop) .stop))))))) mixed_ (by kernel_rfl) (fun w => St w0 D0 Dv_4 [(1, .cells b [.int .i64 l.Ring, .slice p l.Starts.length c, .slice p_1 l.Events.length c_1] 25), (2, .cells b_1 [.int .i64 xv.Kind, .int .i64 xv.First, .int .i64 xv.Count, .int .i64 xv.Lost, .int .i64 xv.Who, .int .i64 xv.Shown] 66), (7, .cells b_6 [.bool e_1.is, .int .i64 e_1.lost.Low, .int .i64 e_1.lost.High] 95)] w) (fun a w => ∃ (rows_9 : List Row), Frm 168 [] [(3, .pointer (some ⟨b, 0, none⟩)), (5, .pointer (some ⟨b_1, 0, none⟩)), (6, .slice none 0 0), (7, .slice p_4 now.length c_3), (9, .int .i64 p_5), (10, .slice (some ⟨b_3, 0, none⟩) (List.replicate (Int.toNat (wr (xv.Lost + 1))) ([] : List r7could)).length (List.replicate (Int.toNat (wr (xv.Lost + 1))) ([] : List r7could)).length), (12, .int .i64 k_2), (13, .int .i64 sv), (14, .pointer (some ⟨b_6, 0, none⟩))] a ∧ St w0 D0 Dv_4 [(1, .cells b [.int .i64 l.Ring, .slice p l.Starts.length c, .slice p_1 l.Events.length c_1] 25), (2, .cells b_1 [.int .i64 xv.Kind, .int .i64 xv.First, .int .i64 xv.Count, .int .i64 xv.Lost, .int .i64 xv.Who, .int .i64 xv.Shown] 66), (5, .mat b_3 rows_9 91 95), (7, .cells b_6 [.bool e_1.is, .int .i64 e_1.lost.Low, .int .i64 e_1.lost.High] 95)] w ∧ RepM C_remontoirref07_could Dv_4 (mx_3.set (Int.toNat k_2) ((mx_3.getD (Int.toNat k_2) []).set (Int.toNat rv_2) rv_3)) rows_9 ∧ (mx_3.set (Int.toNat k_2) ((mx_3.getD (Int.toNat k_2) []).set (Int.toNat rv_2) rv_3)).length = (List.replicate (Int.toNat (wr (xv.Lost + 1))) ([] : List r7could)).length) (hS.weak (ms := [(1, .cells b [.int .i64 l.Ring, .slice p l.Starts.length c, .slice p_1 l.Events.length c_1] 25), (2, .cells b_1 [.int .i64 xv.Kind, .int .i64 xv.First, .int .i64 xv.Count, .int .i64 xv.Lost, .int .i64 xv.Who, .int .i64 xv.Shown] 66), (7, .cells b_6 [.bool e_1.is, .int .i64 e_1.lost.Low, .int .i64 e_1.lost.High] 95)]) ⟨rfl, rfl, rfl, trivial⟩).drew (fun _ _ _ _ h => h) ?_ ?_
     ·replace hS := hS.drew
      have hle0 := hS.le
      refine stepV (i := 0) rfl hF (fun w hS => Y.move hF rfl) rfl fun a hF => stepV (i := 1) rfl hF (fun w hS => Y.move hF rfl) rfl fun a hF => stepV (i := 2) rfl hF (fun w hS => Y.move hF rfl) rfl fun a hF => stepV (i := 3) rfl hF (fun w hS => Y.move hF rfl) rfl fun a hF => ?_
      obtain ⟨bk_2, hk_2⟩ := hS.rowBlk 5 rfl (RepM.guardI hM_7 hg_7) (RepM.guard hM_7 hg_7 hg_8)
      obtain ⟨cc_4, hc_4, hcell_4⟩ := RepM.el ((r7could.mk false (Span.mk 0 0)) : r7could) hM_7 hg_7 hg_8 hk_2
      obtain rfl := C_remontoirref07_could.open hc_4
      refine stepV (i := 4) rfl hF (fun w hS => Y.indexRow u_91 sz_95 hk_2 (RepM.guard hM_7 hg_7 hg_8) hF rfl rfl) rfl fun a hF => stepV (i := 6) rfl hF (fun w hS => Y.loadNL 7 sz_95 hF rfl hS rfl rfl rfl) rfl fun a hF => oneV (i := 5) rfl ?_ trivial
      refine step hF (Y.loadNE (o := 0 + Int.toNat rv_2 * 3) (k := 0) sz_95 hF rfl (hcell_4 5 rfl hS) rfl rfl) rfl fun a hF => nil (then_n ⟨hS.weak ⟨rfl, rfl, rfl, trivial⟩, ?_⟩)
      refine oneV (i := 7) rfl ?_ trivial
      refine O.callP (us := [.agg #[.bool (((mx_3.getD (Int.toNat k_2) []).getD (Int.toNat rv_2) ((r7could.mk false (Span.mk 0 0)) : r7could)).is), .int .i64 ((((mx_3.getD (Int.toNat k_2) []).getD (Int.toNat rv_2) ((r7could.mk false (Span.mk 0 0)) : r7could)).lost).Low), .int .i64 ((((mx_3.getD (Int.toNat k_2) []).getD (Int.toNat rv_2) ((r7could.mk false (Span.mk 0 0)) : r7could)).lost).High)], .agg #[.bool e_1.is, .int .i64 e_1.lost.Low, .int .i64 e_1.lost.High]]) ca_62 hF hS (r7either_ok hS.stab (r7could.mk (((mx_3.getD (Int.toNat k_2) []).getD (Int.toNat rv_2) ((r7could.mk false (Span.mk 0 0)) : r7could)).is) (Span.mk ((((mx_3.getD (Int.toNat k_2) []).getD (Int.toNat rv_2) ((r7could.mk false (Span.mk 0 0)) : r7could)).lost).Low) ((((mx_3.getD (Int.toNat k_2) []).getD (Int.toNat rv_2) ((r7could.mk false (Span.mk 0 0)) : r7could)).lost).High))) e_1 rv_3 hx_5) rfl rfl fun a w hF hS => nil (then_n ⟨hS.weak ⟨rfl, rfl, rfl, trivial⟩, ?_⟩)
      obtain ⟨bk_3, hk_3⟩ := hS.rowBlk 5 rfl (RepM.guardI hM_7 hg_7) (RepM.guard hM_7 hg_7 hg_9)
      obtain ⟨cc_5, hc_5, hcell_5⟩ := RepM.el ((r7could.mk false (Span.mk 0 0)) : r7could) hM_7 hg_7 hg_9 hk_3
      obtain rfl := C_remontoirref07_could.open hc_5
      refine stepV (i := 8) rfl hF (fun w hS => Y.indexRow u_91 sz_95 hk_3 (RepM.guard hM_7 hg_7 hg_9) hF rfl rfl) rfl fun a hF => oneV (i := 9) rfl ?_ trivial
      refine O.storeEl (C := C_remontoirref07_could) (us := [.bool rv_3.is, .int .i64 rv_3.lost.Low, .int .i64 rv_3.lost.High]) (v0 := rv_3) 5 sz_95 hg_7 hg_9 hk_3 hF rfl rfl rfl rfl hS rfl hM_7 fun rows_10 a w hF hS hbl_1 hM_10 => ?_
      have hlm_8 : (mx_3.set (Int.toNat k_2) ((mx_3.getD (Int.toNat k_2) []).set (Int.toNat rv_2) rv_3)).length = (List.replicate (Int.toNat (wr (xv.Lost + 1))) ([] : List r7could)).length := by simpa only [List.length_set] using hlm_5
      refine nil (then_n ⟨hS.weak ⟨rfl, rfl, rfl, trivial⟩, ?_⟩)
      exact toTailV ⟨rows_10, hF.weak ⟨rfl, rfl, rfl, rfl, rfl, rfl, rfl, rfl, rfl, trivial⟩, hS.weak ⟨rfl, rfl, rfl, rfl, trivial⟩, hM_10, hlm_8⟩
     rintro a w ⟨rows_9, hF, hS, hj, hj_1⟩
     refine nil (then_n (seq (region (step hF (Y.move hF rfl) rfl fun a hF => step hF (Y.fieldAddr fo_66_3 hF rfl) rfl fun a hF => step hF (Y.load1L 2 sz_3 hF rfl hS rfl rfl) rfl fun a hF => step hF (Y.lss hF rfl rfl) rfl fun a hF => nil (then_n (cond_b hF rfl (fun hbv_6 => ?_) (fun hbv_6 => ?_)))))))
     ·replace h := cond_t h hbv_6
      refine seq (region (step hF (Y.move hF rfl) rfl fun a hF => step hF (Y.move hF rfl) rfl fun a hF => step hF (Y.add hF rfl rfl) rfl fun a hF => ?_))
      obtain ⟨hg_10, h⟩ := ite_some h
      refine step hF (Y.indexSl u_148 sz_91 hF rfl rfl hg_10.1 (by rw [← hj_1]; exact hg_10.2)) rfl fun a hF => step hF (Y.loadRow 5 sz_91 (RepM.guardI hj hg_10) hF rfl hS rfl) rfl fun a hF => step hF (Y.assign hF rfl) rfl fun a hF => nil (then_n ?_)
      obtain ⟨hg_11, h⟩ := ite_some h
      obtain ⟨rv_4, hx_6, h⟩ := bind_some h
      obtain ⟨rv_5, hx_7, h⟩ := bind_some h
      obtain ⟨hg_12, h⟩ := ite_some h
      refine drawsV 19 (.flt 0 (.flt 1 (.flt 2 (.flt 3 (.flt 4 (.flt 6 (.flt 7 (.flt 8 (.flt 9 (.flt 10 (.flt 11 (.flt 12 (.flt 13 (.alt 5 (.alt 14 (.flt 15 (.alt 16 (.flt 17 (.alt 18 .done .stop)) .stop)) .stop) (.alt 14 (.flt 15 (.alt 5 (.alt 16 (.flt 17 (.alt 18 .done .stop)) .stop) .stop)) .stop))))))))))))))) mixed_ (by kernel_rfl) (fun w => St w0 D0 Dv_4 [(1, .cells b [.int .i64 l.Ring, .slice p l.Starts.length c, .slice p_1 l.Events.length c_1] 25), (2, .cells b_1 [.int .i64 xv.Kind, .int .i64 xv.First, .int .i64 xv.Count, .int .i64 xv.Lost, .int .i64 xv.Who, .int .i64 xv.Shown] 66), (7, .cells b_6 [.bool e_1.is, .int .i64 e_1.lost.Low, .int .i64 e_1.lost.High] 95)] w) (fun a w => ∃ (rows_11 : List Row), Frm 168 [] [(3, .pointer (some ⟨b, 0, none⟩)), (5, .pointer (some ⟨b_1, 0, none⟩)), (6, .slice none 0 0), (7, .slice p_4 now.length c_3), (9, .int .i64 p_5), (10, .slice (some ⟨b_3, 0, none⟩) (List.replicate (Int.toNat (wr (xv.Lost + 1))) ([] : List r7could)).length (List.replicate (Int.toNat (wr (xv.Lost + 1))) ([] : List r7could)).length), (12, .int .i64 k_2), (13, .int .i64 sv)] a ∧ St w0 D0 Dv_4 [(1, .cells b [.int .i64 l.Ring, .slice p l.Starts.length c, .slice p_1 l.Events.length c_1] 25), (2, .cells b_1 [.int .i64 xv.Kind, .int .i64 xv.First, .int .i64 xv.Count, .int .i64 xv.Lost, .int .i64 xv.Who, .int .i64 xv.Shown] 66), (5, .mat b_3 rows_11 91 95), (7, .cells b_6 [.bool e_1.is, .int .i64 e_1.lost.Low, .int .i64 e_1.lost.High] 95)] w ∧ RepM C_remontoirref07_could Dv_4 ((mx_3.set (Int.toNat k_2) ((mx_3.getD (Int.toNat k_2) []).set (Int.toNat rv_2) rv_3)).set (Int.toNat (wr (k_2 + 1))) (((mx_3.set (Int.toNat k_2) ((mx_3.getD (Int.toNat k_2) []).set (Int.toNat rv_2) rv_3)).getD (Int.toNat (wr (k_2 + 1))) []).set (Int.toNat sv) rv_5)) rows_11 ∧ ((mx_3.set (Int.toNat k_2) ((mx_3.getD (Int.toNat k_2) []).set (Int.toNat rv_2) rv_3)).set (Int.toNat (wr (k_2 + 1))) (((mx_3.set (Int.toNat k_2) ((mx_3.getD (Int.toNat k_2) []).set (Int.toNat rv_2) rv_3)).getD (Int.toNat (wr (k_2 + 1))) []).set (Int.toNat sv) rv_5)).length = (List.replicate (Int.toNat (wr (xv.Lost + 1))) ([] : List r7could)).length) (hS.weak (ms := [(1, .cells b [.int .i64 l.Ring, .slice p l.Starts.length c, .slice p_1 l.Events.length c_1] 25), (2, .cells b_1 [.int .i64 xv.Kind, .int .i64 xv.First, .int .i64 xv.Count, .int .i64 xv.Lost, .int .i64 xv.Who, .int .i64 xv.Shown] 66), (7, .cells b_6 [.bool e_1.is, .int .i64 e_1.lost.Low, .int .i64 e_1.lost.High] 95)]) ⟨rfl, rfl, rfl, trivial⟩).drew (fun _ _ _ _ h => h) ?_ ?_
      ·replace hS := hS.drew
       have hle0 := hS.le
       refine stepV (i := 0) rfl hF (fun w hS => Y.move hF rfl) rfl fun a hF => stepV (i := 1) rfl hF (fun w hS => Y.move hF rfl) rfl fun a hF => stepV (i := 2) rfl hF (fun w hS => Y.move hF rfl) rfl fun a hF => stepV (i := 3) rfl hF (fun w hS => Y.move hF rfl) rfl fun a hF => ?_
       obtain ⟨bk_6, hk_6⟩ := hS.rowBlk 5 rfl (RepM.guardI hj hg_10) (RepM.guard hj hg_10 hg_11)
       obtain ⟨cc_8, hc_8, hcell_8⟩ := RepM.el ((r7could.mk false (Span.mk 0 0)) : r7could) hj hg_10 hg_11 hk_6
       obtain rfl := C_remontoirref07_could.open hc_8
       refine stepV (i := 4) rfl hF (fun w hS => Y.indexRow u_91 sz_95 hk_6 (RepM.guard hj hg_10 hg_11) hF rfl rfl) rfl fun a hF => stepV (i := 6) rfl hF (fun w hS => Y.fieldAddr fo_95_1 hF rfl) rfl fun a hF => stepV (i := 7) rfl hF (fun w hS => Y.fieldAddr fo_33_0 hF rfl) rfl fun a hF => stepV (i := 8) rfl hF (fun w hS => Y.load1L 7 sz_3 hF rfl hS rfl rfl) rfl fun a hF => stepV (i := 9) rfl hF (fun w hS => Y.add hF rfl rfl) rfl fun a hF => stepV (i := 10) rfl hF (fun w hS => Y.fieldAddr fo_95_1 hF rfl) rfl fun a hF => stepV (i := 11) rfl hF (fun w hS => Y.fieldAddr fo_33_1 hF rfl) rfl fun a hF => stepV (i := 12) rfl hF (fun w hS => Y.load1L 7 sz_3 hF rfl hS rfl rfl) rfl fun a hF => stepV (i := 13) rfl hF (fun w hS => Y.add hF rfl rfl) rfl fun a hF => oneV (i := 5) rfl ?_ ?_
       ·skip
        refine step hF (Y.loadNE (o := 0 + Int.toNat sv * 3) (k := 0) sz_95 hF rfl (hcell_8 5 rfl hS) rfl rfl) rfl fun a hF => nil (then_n ⟨hS.weak ⟨rfl, rfl, rfl, trivial⟩, ?_⟩)
        refine oneV (i := 14) rfl ?_ trivial
        refine O.callP (us := [.int .i64 (wr (e_1.lost.Low + 1)), .int .i64 (wr (e_1.lost.High + 1))]) ca_43 hF hS (r0To_ok hS.stab (wr (e_1.lost.Low + 1)) (wr (e_1.lost.High + 1)) rv_4 hx_6) rfl rfl fun a w hF hS => nil (then_n ⟨hS.weak ⟨rfl, rfl, rfl, trivial⟩, ?_⟩)
        refine stepV (i := 15) rfl hF (fun w hS => Y.build (parts := [(0, (.const (.bool true))), (1, (.tmp 130))]) (cs := #[.bool true, .int .i64 rv_4.Low, .int .i64 rv_4.High]) hF rfl (by kernel_rfl)) rfl fun a hF => oneV (i := 16) rfl ?_ trivial
        refine O.callP (us := [.agg #[.bool ((((mx_3.set (Int.toNat k_2) ((mx_3.getD (Int.toNat k_2) []).set (Int.toNat rv_2) rv_3)).getD (Int.toNat (wr (k_2 + 1))) []).getD (Int.toNat sv) ((r7could.mk false (Span.mk 0 0)) : r7could)).is), .int .i64 (((((mx_3.set (Int.toNat k_2) ((mx_3.getD (Int.toNat k_2) []).set (Int.toNat rv_2) rv_3)).getD (Int.toNat (wr (k_2 + 1))) []).getD (Int.toNat sv) ((r7could.mk false (Span.mk 0 0)) : r7could)).lost).Low), .int .i64 (((((mx_3.set (Int.toNat k_2) ((mx_3.getD (Int.toNat k_2) []).set (Int.toNat rv_2) rv_3)).getD (Int.toNat (wr (k_2 + 1))) []).getD (Int.toNat sv) ((r7could.mk false (Span.mk 0 0)) : r7could)).lost).High)], .agg #[.bool true, .int .i64 rv_4.Low, .int .i64 rv_4.High]]) ca_62 hF hS (r7either_ok hS.stab (r7could.mk ((((mx_3.set (Int.toNat k_2) ((mx_3.getD (Int.toNat k_2) []).set (Int.toNat rv_2) rv_3)).getD (Int.toNat (wr (k_2 + 1))) []).getD (Int.toNat sv) ((r7could.mk false (Span.mk 0 0)) : r7could)).is) (Span.mk (((((mx_3.set (Int.toNat k_2) ((mx_3.getD (Int.toNat k_2) []).set (Int.toNat rv_2) rv_3)).getD (Int.toNat (wr (k_2 + 1))) []).getD (Int.toNat sv) ((r7could.mk false (Span.mk 0 0)) : r7could)).lost).Low) (((((mx_3.set (Int.toNat k_2) ((mx_3.getD (Int.toNat k_2) []).set (Int.toNat rv_2) rv_3)).getD (Int.toNat (wr (k_2 + 1))) []).getD (Int.toNat sv) ((r7could.mk false (Span.mk 0 0)) : r7could)).lost).High))) (r7could.mk true rv_4) rv_5 hx_7) rfl rfl fun a w hF hS => nil (then_n ⟨hS.weak ⟨rfl, rfl, rfl, trivial⟩, ?_⟩)
        obtain ⟨bk_7, hk_7⟩ := hS.rowBlk 5 rfl (RepM.guardI hj hg_10) (RepM.guard hj hg_10 hg_12)
        obtain ⟨cc_9, hc_9, hcell_9⟩ := RepM.el ((r7could.mk false (Span.mk 0 0)) : r7could) hj hg_10 hg_12 hk_7
        obtain rfl := C_remontoirref07_could.open hc_9
        refine stepV (i := 17) rfl hF (fun w hS => Y.indexRow u_91 sz_95 hk_7 (RepM.guard hj hg_10 hg_12) hF rfl rfl) rfl fun a hF => oneV (i := 18) rfl ?_ trivial
        refine O.storeEl (C := C_remontoirref07_could) (us := [.bool rv_5.is, .int .i64 rv_5.lost.Low, .int .i64 rv_5.lost.High]) (v0 := rv_5) 5 sz_95 hg_10 hg_12 hk_7 hF rfl rfl rfl rfl hS rfl hj fun rows_12 a w hF hS hbl_3 hM_12 => ?_
        have hlm_10 : ((mx_3.set (Int.toNat k_2) ((mx_3.getD (Int.toNat k_2) []).set (Int.toNat rv_2) rv_3)).set (Int.toNat (wr (k_2 + 1))) (((mx_3.set (Int.toNat k_2) ((mx_3.getD (Int.toNat k_2) []).set (Int.toNat rv_2) rv_3)).getD (Int.toNat (wr (k_2 + 1))) []).set (Int.toNat sv) rv_5)).length = (List.replicate (Int.toNat (wr (xv.Lost + 1))) ([] : List r7could)).length := by simpa only [List.length_set] using hj_1
        refine nil (then_n ⟨hS.weak ⟨rfl, rfl, rfl, trivial⟩, ?_⟩)
        exact toTailV ⟨rows_12, hF.weak ⟨rfl, rfl, rfl, rfl, rfl, rfl, rfl, rfl, trivial⟩, hS.weak ⟨rfl, rfl, rfl, rfl, trivial⟩, hM_12, hlm_10⟩
       refine oneV (i := 14) rfl ?_ trivial
       refine O.callP (us := [.int .i64 (wr (e_1.lost.Low + 1)), .int .i64 (wr (e_1.lost.High + 1))]) ca_43 hF hS (r0To_ok hS.stab (wr (e_1.lost.Low + 1)) (wr (e_1.lost.High + 1)) rv_4 hx_6) rfl rfl fun a w hF hS => nil (then_n ⟨hS.weak ⟨rfl, rfl, rfl, trivial⟩, ?_⟩)
       refine stepV (i := 15) rfl hF (fun w hS => Y.build (parts := [(0, (.const (.bool true))), (1, (.tmp 130))]) (cs := #[.bool true, .int .i64 rv_4.Low, .int .i64 rv_4.High]) hF rfl (by kernel_rfl)) rfl fun a hF => oneV (i := 5) rfl ?_ trivial
       refine step hF (Y.loadNE (o := 0 + Int.toNat sv * 3) (k := 0) sz_95 hF rfl (hcell_8 5 rfl hS) rfl rfl) rfl fun a hF => nil (then_n ⟨hS.weak ⟨rfl, rfl, rfl, trivial⟩, ?_⟩)
       refine oneV (i := 16) rfl ?_ trivial
       refine O.callP (us := [.agg #[.bool ((((mx_3.set (Int.toNat k_2) ((mx_3.getD (Int.toNat k_2) []).set (Int.toNat rv_2) rv_3)).getD (Int.toNat (wr (k_2 + 1))) []).getD (Int.toNat sv) ((r7could.mk false (Span.mk 0 0)) : r7could)).is), .int .i64 (((((mx_3.set (Int.toNat k_2) ((mx_3.getD (Int.toNat k_2) []).set (Int.toNat rv_2) rv_3)).getD (Int.toNat (wr (k_2 + 1))) []).getD (Int.toNat sv) ((r7could.mk false (Span.mk 0 0)) : r7could)).lost).Low), .int .i64 (((((mx_3.set (Int.toNat k_2) ((mx_3.getD (Int.toNat k_2) []).set (Int.toNat rv_2) rv_3)).getD (Int.toNat (wr (k_2 + 1))) []).getD (Int.toNat sv) ((r7could.mk false (Span.mk 0 0)) : r7could)).lost).High)], .agg #[.bool true, .int .i64 rv_4.Low, .int .i64 rv_4.High]]) ca_62 hF hS (r7either_ok hS.stab (r7could.mk ((((mx_3.set (Int.toNat k_2) ((mx_3.getD (Int.toNat k_2) []).set (Int.toNat rv_2) rv_3)).getD (Int.toNat (wr (k_2 + 1))) []).getD (Int.toNat sv) ((r7could.mk false (Span.mk 0 0)) : r7could)).is) (Span.mk (((((mx_3.set (Int.toNat k_2) ((mx_3.getD (Int.toNat k_2) []).set (Int.toNat rv_2) rv_3)).getD (Int.toNat (wr (k_2 + 1))) []).getD (Int.toNat sv) ((r7could.mk false (Span.mk 0 0)) : r7could)).lost).Low) (((((mx_3.set (Int.toNat k_2) ((mx_3.getD (Int.toNat k_2) []).set (Int.toNat rv_2) rv_3)).getD (Int.toNat (wr (k_2 + 1))) []).getD (Int.toNat sv) ((r7could.mk false (Span.mk 0 0)) : r7could)).lost).High))) (r7could.mk true rv_4) rv_5 hx_7) rfl rfl fun a w hF hS => nil (then_n ⟨hS.weak ⟨rfl, rfl, rfl, trivial⟩, ?_⟩)
       obtain ⟨bk_8, hk_8⟩ := hS.rowBlk 5 rfl (RepM.guardI hj hg_10) (RepM.guard hj hg_10 hg_12)
       obtain ⟨cc_10, hc_10, hcell_10⟩ := RepM.el ((r7could.mk false (Span.mk 0 0)) : r7could) hj hg_10 hg_12 hk_8
       obtain rfl := C_remontoirref07_could.open hc_10
       refine stepV (i := 17) rfl hF (fun w hS => Y.indexRow u_91 sz_95 hk_8 (RepM.guard hj hg_10 hg_12) hF rfl rfl) rfl fun a hF => oneV (i := 18) rfl ?_ trivial
       refine O.storeEl (C := C_remontoirref07_could) (us := [.bool rv_5.is, .int .i64 rv_5.lost.Low, .int .i64 rv_5.lost.High]) (v0 := rv_5) 5 sz_95 hg_10 hg_12 hk_8 hF rfl rfl rfl rfl hS rfl hj fun rows_13 a w hF hS hbl_4 hM_13 => ?_
       have hlm_11 : ((mx_3.set (Int.toNat k_2) ((mx_3.getD (Int.toNat k_2) []).set (Int.toNat rv_2) rv_3)).set (Int.toNat (wr (k_2 + 1))) (((mx_3.set (Int.toNat k_2) ((mx_3.getD (Int.toNat k_2) []).set (Int.toNat rv_2) rv_3)).getD (Int.toNat (wr (k_2 + 1))) []).set (Int.toNat sv) rv_5)).length = (List.replicate (Int.toNat (wr (xv.Lost + 1))) ([] : List r7could)).length := by simpa only [List.length_set] using hj_1
       refine nil (then_n ⟨hS.weak ⟨rfl, rfl, rfl, trivial⟩, ?_⟩)
       exact toTailV ⟨rows_13, hF.weak ⟨rfl, rfl, rfl, rfl, rfl, rfl, rfl, rfl, trivial⟩, hS.weak ⟨rfl, rfl, rfl, rfl, trivial⟩, hM_13, hlm_11⟩
      rintro a w ⟨rows_11, hF, hS, hj_2, hj_3⟩
      refine nil (blk_n (then_n (⟨((mx_3.set (Int.toNat k_2) ((mx_3.getD (Int.toNat k_2) []).set (Int.toNat rv_2) rv_3)).set (Int.toNat (wr (k_2 + 1))) (((mx_3.set (Int.toNat k_2) ((mx_3.getD (Int.toNat k_2) []).set (Int.toNat rv_2) rv_3)).getD (Int.toNat (wr (k_2 + 1))) []).set (Int.toNat sv) rv_5)), Dv_4, rows_11, Stab.le.refl _, hF.weak ⟨rfl, rfl, rfl, rfl, rfl, rfl, rfl, rfl, trivial⟩, hS.weak ⟨rfl, rfl, rfl, trivial⟩, hj_2, hj_3, h⟩)))
     replace h := cond_f h hbv_6
     refine skip_ (blk_n (then_n (⟨(mx_3.set (Int.toNat k_2) ((mx_3.getD (Int.toNat k_2) []).set (Int.toNat rv_2) rv_3)), Dv_4, rows_9, Stab.le.refl _, hF.weak ⟨rfl, rfl, rfl, rfl, rfl, rfl, rfl, rfl, trivial⟩, hS.weak ⟨rfl, rfl, rfl, trivial⟩, hj, hj_1, h⟩)))
    rintro a w ⟨mx_4, Dv_5, rows_8, hlev_5, hF, hS, hM_8, hlm_6, h⟩
    unfold r7pulses_k6 at h
    refine region (step hF (Y.move hF rfl) rfl fun a hF => step hF (Y.add hF rfl rfl) rfl fun a hF => step hF (Y.assign hF rfl) rfl fun a hF => nil (then_n (⟨_, nxt_some h, (wr (sv + 1)), mx_4, Dv_5, rows_8, rfl, hlev_4.trans hlev_5, hF.weak ⟨rfl, rfl, rfl, rfl, rfl, rfl, rfl, rfl, trivial⟩, hS.weak ⟨rfl, rfl, rfl, trivial⟩, hM_8, hlm_6⟩)))
   replace h := cond_f h hbv_4
   refine exit_ (then_x (then_x (blk_hit (blk_n (then_n ?_)))))
   replace h := ext_some h hxo_4
   refine region (step hF (Y.move hF rfl) rfl fun a hF => step hF (Y.add hF rfl rfl) rfl fun a hF => step hF (Y.assign hF rfl) rfl fun a hF => nil (then_n (⟨_, nxt_some h, (wr (k_2 + 1)), mx_3, Dv_4, rows_7, rfl, hlev_3.trans hlev_4, hF.weak ⟨rfl, rfl, rfl, rfl, rfl, rfl, rfl, trivial⟩, hS.weak ⟨rfl, rfl, rfl, trivial⟩, hM_7, hlm_5⟩)))
  replace h := cond_f h hbv_3
  refine exit_ (then_x (then_x (blk_hit (then_n ?_))))
  replace h := ext_some h hxo_3
  refine region (step hF (Y.move hF rfl) rfl fun a hF => step hF (Y.assign hF rfl) rfl fun a hF => nil (blk_n (then_n (region (step hF (Y.move hF rfl) rfl fun a hF => step hF (Y.add hF rfl rfl) rfl fun a hF => step hF (Y.assign hF rfl) rfl fun a hF => nil (then_n ?_))))))
  obtain ⟨Dv_6, hlev_6, hs_6, hS⟩ := hS.freezeMat (i := 5) (xs := mx_2) rfl hM_6
  rw [← hlm_4] at hF
  exact ⟨_, nxt_some h, mx_2, (wr (p_5 + 1)), Dv_6, (some ⟨b_3, 0, none⟩), mx_2.length, rfl, hlev_2.trans (hlev_3.trans hlev_6), hF.weak ⟨rfl, rfl, rfl, rfl, rfl, trivial⟩, hS.weak ⟨rfl, rfl, trivial⟩, hs_6⟩
 replace h := cond_f h hbv_1
 refine exit_ (then_x (then_x (blk_hit (then_n ?_))))
 replace h := ext_some h hxo_1
 refine seq (region (step hF (Y.fieldAddr fo_25_0 hF rfl) rfl fun a hF => step hF (Y.load1L 1 sz_3 hF rfl hS rfl rfl) rfl fun a hF => step hF (Y.mul hF rfl rfl) rfl fun a hF => ?_))
 obtain ⟨hg_13, h⟩ := ite_some h
 refine O.makeRow (C := C_remontoirref07_could) ((r7could.mk false (Span.mk 0 0)) : r7could) 8 gr_91 zc_95 rfl hF rfl rfl hS hg_13 rfl fun p_8 cs_4 a w hF hS hr_4 => step hF (Y.assign hF rfl) rfl fun a hF => nil (then_n (seq (seq (region (step hF (Y.assign hF rfl) rfl fun a hF => nil (then_n (block (loop_cut (body := r7pulses_b7 l xv now) (out := out) (fun s a w => ∃ (k_3 : Int) (l_1 : (List r7could)), ∃ p_9 c_5 cs_5, s = (k_3, l_1) ∧ Frm 168 [] [(3, .pointer (some ⟨b, 0, none⟩)), (5, .pointer (some ⟨b_1, 0, none⟩)), (6, .slice none 0 0), (7, .slice p_4 now.length c_3), (18, .slice p_9 l_1.length c_5), (19, .int .i64 k_3)] a ∧ St w0 D0 Dv_2 [(1, .cells b [.int .i64 l.Ring, .slice p l.Starts.length c, .slice p_1 l.Events.length c_1] 25), (2, .cells b_1 [.int .i64 xv.Kind, .int .i64 xv.First, .int .i64 xv.Count, .int .i64 xv.Lost, .int .i64 xv.Who, .int .i64 xv.Shown] 66), (8, .own p_9 l_1.length c_5 cs_5 95 3)] w ∧ Reps C_remontoirref07_could Dv_2 l_1 cs_5) (0, (List.replicate (Int.toNat (wr (2 * l.Ring))) ((r7could.mk false (Span.mk 0 0)) : r7could))) h ⟨0, (List.replicate (Int.toNat (wr (2 * l.Ring))) ((r7could.mk false (Span.mk 0 0)) : r7could)), p_8, ((List.replicate (Int.toNat (wr (2 * l.Ring))) ((r7could.mk false (Span.mk 0 0)) : r7could)).length), cs_4, rfl, hF.weak ⟨rfl, rfl, rfl, rfl, rfl, rfl, trivial⟩, hS.weak ⟨rfl, rfl, rfl, trivial⟩, hr_4⟩ ?_))))))))
 rintro s a w xo_5 ⟨k_3, l_1, p_9, c_5, cs_5, rfl, hF, hS, hr_5⟩ h hxo_5
 unfold r7pulses_b7 at h
 dsimp only at h
 refine seq (seq (region (step hF (Y.move hF rfl) rfl fun a hF => step hF (Y.fieldAddr fo_66_3 hF rfl) rfl fun a hF => step hF (Y.load1L 2 sz_3 hF rfl hS rfl rfl) rfl fun a hF => step hF (Y.leq hF rfl rfl) rfl fun a hF => nil (then_n (cond_b hF rfl (fun hbv_7 => ?_) (fun hbv_7 => ?_))))))
 ·replace h := cond_t h hbv_7
  refine skip_ (then_n (seq (block (seq (region (step hF (Y.assign hF rfl) rfl fun a hF => nil (then_n (block (loop_cut (body := r7pulses_b8 l now k_3) (out := xo_5) (fun s a w => ∃ (sv_1 : Int) (l_2 : (List r7could)), ∃ p_10 c_6 cs_6, s = (sv_1, l_2) ∧ Frm 168 [] [(3, .pointer (some ⟨b, 0, none⟩)), (5, .pointer (some ⟨b_1, 0, none⟩)), (6, .slice none 0 0), (7, .slice p_4 now.length c_3), (18, .slice p_10 l_2.length c_6), (19, .int .i64 k_3), (20, .int .i64 sv_1)] a ∧ St w0 D0 Dv_2 [(1, .cells b [.int .i64 l.Ring, .slice p l.Starts.length c, .slice p_1 l.Events.length c_1] 25), (2, .cells b_1 [.int .i64 xv.Kind, .int .i64 xv.First, .int .i64 xv.Count, .int .i64 xv.Lost, .int .i64 xv.Who, .int .i64 xv.Shown] 66), (8, .own p_10 l_2.length c_6 cs_6 95 3)] w ∧ Reps C_remontoirref07_could Dv_2 l_2 cs_6) (0, l_1) h ⟨0, l_1, p_9, c_5, cs_5, rfl, hF.weak ⟨rfl, rfl, rfl, rfl, rfl, rfl, rfl, trivial⟩, hS.weak ⟨rfl, rfl, rfl, trivial⟩, hr_5⟩ ?_)))))))))
  rintro s a w xo_6 ⟨sv_1, l_2, p_10, c_6, cs_6, rfl, hF, hS, hr_6⟩ h hxo_6
  unfold r7pulses_b8 at h
  dsimp only at h
  refine seq (seq (region (step hF (Y.move hF rfl) rfl fun a hF => step hF (Y.fieldAddr fo_25_0 hF rfl) rfl fun a hF => step hF (Y.load1L 1 sz_3 hF rfl hS rfl rfl) rfl fun a hF => step hF (Y.mul hF rfl rfl) rfl fun a hF => step hF (Y.lss hF rfl rfl) rfl fun a hF => nil (then_n (cond_b hF rfl (fun hbv_8 => ?_) (fun hbv_8 => ?_))))))
  ·replace h := cond_t h hbv_8
   refine skip_ (then_n (seq (block ?_)))
   obtain ⟨e_2, hx_8, h⟩ := bind_some h
   obtain ⟨e_3, hx_9, h⟩ := bind_some h
   obtain ⟨e_4, hx_10, h⟩ := bind_some h
   obtain ⟨rv_6, hx_11, h⟩ := bind_some h
   refine drawsV 14 (.flt 0 (.flt 1 (.flt 2 (.flt 3 (.flt 4 (.flt 6 (.flt 7 (.flt 8 (.flt 10 (.alt 5 (.alt 9 (.flt 11 (.alt 12 (.alt 13 .done .stop) .stop)) .stop) (.alt 9 (.flt 11 (.alt 5 (.alt 12 (.alt 13 .done .stop) .stop) (.alt 12 (.alt 5 (.alt 13 .done .stop) .stop) .stop))) .stop))))))))))) mixed_ (by kernel_rfl) (fun w => St w0 D0 Dv_2 [(1, .cells b [.int .i64 l.Ring, .slice p l.Starts.length c, .slice p_1 l.Events.length c_1] 25), (2, .cells b_1 [.int .i64 xv.Kind, .int .i64 xv.First, .int .i64 xv.Count, .int .i64 xv.Lost, .int .i64 xv.Who, .int .i64 xv.Shown] 66), (8, .own p_10 l_2.length c_6 cs_6 95 3)] w) (fun a w => Frm 168 [] [(3, .pointer (some ⟨b, 0, none⟩)), (5, .pointer (some ⟨b_1, 0, none⟩)), (6, .slice none 0 0), (7, .slice p_4 now.length c_3), (18, .slice p_10 l_2.length c_6), (19, .int .i64 k_3), (20, .int .i64 sv_1), (152, .slice p_10 l_2.length c_6), (153, .int .i64 sv_1), (165, .agg #[.bool rv_6.is, .int .i64 rv_6.lost.Low, .int .i64 rv_6.lost.High])] a ∧ St w0 D0 Dv_2 [(1, .cells b [.int .i64 l.Ring, .slice p l.Starts.length c, .slice p_1 l.Events.length c_1] 25), (2, .cells b_1 [.int .i64 xv.Kind, .int .i64 xv.First, .int .i64 xv.Count, .int .i64 xv.Lost, .int .i64 xv.Who, .int .i64 xv.Shown] 66), (8, .own p_10 l_2.length c_6 cs_6 95 3)] w) (hS.weak (ms := [(1, .cells b [.int .i64 l.Ring, .slice p l.Starts.length c, .slice p_1 l.Events.length c_1] 25), (2, .cells b_1 [.int .i64 xv.Kind, .int .i64 xv.First, .int .i64 xv.Count, .int .i64 xv.Lost, .int .i64 xv.Who, .int .i64 xv.Shown] 66), (8, .own p_10 l_2.length c_6 cs_6 95 3)]) ⟨rfl, rfl, rfl, trivial⟩).drew (fun _ _ _ _ h => h) ?_ ?_
   ·replace hS := hS.drew
    have hle0 := hS.le
    refine stepV (i := 0) rfl hF (fun w hS => Y.move hF rfl) rfl fun a hF => stepV (i := 1) rfl hF (fun w hS => Y.move hF rfl) rfl fun a hF => stepV (i := 2) rfl hF (fun w hS => Y.move hF rfl) rfl fun a hF => stepV (i := 3) rfl hF (fun w hS => Y.move hF rfl) rfl fun a hF => ?_
    obtain ⟨b_10, hp_1⟩ := hS.ownPtr (i := 8) rfl (idx_rng hx_8)
    obtain ⟨cc_14, hc_14, hsub_1⟩ := ownElI (C := C_remontoirref07_could) hr_6 hx_8
    obtain rfl := C_remontoirref07_could.open hc_14
    refine stepV (i := 4) rfl hF (fun w hS => Y.indexOwn hp_1 u_91 sz_95 (idx_rng hx_8) hF rfl rfl) rfl fun a hF => stepV (i := 6) rfl hF (fun w hS => Y.move hF rfl) rfl fun a hF => stepV (i := 7) rfl hF (fun w hS => Y.move hF rfl) rfl fun a hF => ?_
    obtain ⟨b_11, o_4, hE_4, hY_4⟩ := Y.indexS (P := Tryd.prog) (C := (C_sl C_remontoirref07_could)) (xs := now) (T := 148) (x := (.tmp 158)) (y := (.tmp 159)) u_148 sz_91 hF rfl rfl (hs_4).1 hx_9
    obtain ⟨cc_15, hc_15, hcell_13⟩ := hE_4.open
    obtain ⟨p_12, c_8, rfl, hs_8⟩ := hc_15
    refine stepV (i := 8) rfl hF (fun w hS => hY_4) rfl fun a hF => stepV (i := 10) rfl hF (fun w hS => Y.move hF rfl) rfl fun a hF => oneV (i := 5) rfl ?_ ?_
    ·skip
     refine step hF (Y.loadNE (o := 0 + Int.toNat sv_1 * 3) (k := 0) sz_95 hF rfl (ownElCell (C := C_remontoirref07_could) (i := 8) hS rfl hp_1 hsub_1) rfl rfl) rfl fun a hF => nil (then_n ⟨hS.weak ⟨rfl, rfl, rfl, trivial⟩, ?_⟩)
     refine oneV (i := 9) rfl ?_ trivial
     refine step hF (Y.load1 sz_91 hF rfl (hcell_13 _ hS.stab 0 _ rfl)) rfl fun a hF => nil (then_n ⟨hS.weak ⟨rfl, rfl, rfl, trivial⟩, ?_⟩)
     obtain ⟨b_12, o_5, hE_5, hY_5⟩ := Y.indexS (P := Tryd.prog) (C := C_remontoirref07_could) (xs := e_3) (T := 91) (x := (.tmp 161)) (y := (.tmp 162)) u_91 sz_95 hF rfl rfl (hs_8).1 hx_10
     obtain ⟨cc_16, hc_16, hcell_14⟩ := hE_5.open
     obtain rfl := C_remontoirref07_could.open hc_16
     refine stepV (i := 11) rfl hF (fun w hS => hY_5) rfl fun a hF => oneV (i := 12) rfl ?_ trivial
     refine step hF (Y.loadNE (o := o_5) (k := 0) sz_95 hF rfl (hcell_14 _ hS.stab) rfl rfl) rfl fun a hF => nil (then_n ⟨hS.weak ⟨rfl, rfl, rfl, trivial⟩, ?_⟩)
     refine oneV (i := 13) rfl ?_ trivial
     refine O.callP (us := [.agg #[.bool e_2.is, .int .i64 e_2.lost.Low, .int .i64 e_2.lost.High], .agg #[.bool e_4.is, .int .i64 e_4.lost.Low, .int .i64 e_4.lost.High]]) ca_62 hF hS (r7either_ok hS.stab e_2 e_4 rv_6 hx_11) rfl rfl fun a w hF hS => nil (then_n ⟨hS.weak ⟨rfl, rfl, rfl, trivial⟩, ?_⟩)
     exact toTailV ⟨hF.weak ⟨rfl, rfl, rfl, rfl, rfl, rfl, rfl, rfl, rfl, rfl, trivial⟩, hS.weak ⟨rfl, rfl, rfl, trivial⟩⟩
    refine oneV (i := 9) rfl ?_ trivial
    refine step hF (Y.load1 sz_91 hF rfl (hcell_13 _ hS.stab 0 _ rfl)) rfl fun a hF => nil (then_n ⟨hS.weak ⟨rfl, rfl, rfl, trivial⟩, ?_⟩)
    obtain ⟨b_13, o_6, hE_6, hY_6⟩ := Y.indexS (P := Tryd.prog) (C := C_remontoirref07_could) (xs := e_3) (T := 91) (x := (.tmp 161)) (y := (.tmp 162)) u_91 sz_95 hF rfl rfl (hs_8).1 hx_10
    obtain ⟨cc_17, hc_17, hcell_15⟩ := hE_6.open
    obtain rfl := C_remontoirref07_could.open hc_17
    refine stepV (i := 11) rfl hF (fun w hS => hY_6) rfl fun a hF => oneV (i := 5) rfl ?_ ?_
    ·skip
     refine step hF (Y.loadNE (o := 0 + Int.toNat sv_1 * 3) (k := 0) sz_95 hF rfl (ownElCell (C := C_remontoirref07_could) (i := 8) hS rfl hp_1 hsub_1) rfl rfl) rfl fun a hF => nil (then_n ⟨hS.weak ⟨rfl, rfl, rfl, trivial⟩, ?_⟩)
     refine oneV (i := 12) rfl ?_ trivial
     refine step hF (Y.loadNE (o := o_6) (k := 0) sz_95 hF rfl (hcell_15 _ hS.stab) rfl rfl) rfl fun a hF => nil (then_n ⟨hS.weak ⟨rfl, rfl, rfl, trivial⟩, ?_⟩)
     refine oneV (i := 13) rfl ?_ trivial
     refine O.callP (us := [.agg #[.bool e_2.is, .int .i64 e_2.lost.Low, .int .i64 e_2.lost.High], .agg #[.bool e_4.is, .int .i64 e_4.lost.Low, .int .i64 e_4.lost.High]]) ca_62 hF hS (r7either_ok hS.stab e_2 e_4 rv_6 hx_11) rfl rfl fun a w hF hS => nil (then_n ⟨hS.weak ⟨rfl, rfl, rfl, trivial⟩, ?_⟩)
     exact toTailV ⟨hF.weak ⟨rfl, rfl, rfl, rfl, rfl, rfl, rfl, rfl, rfl, rfl, trivial⟩, hS.weak ⟨rfl, rfl, rfl, trivial⟩⟩
    refine oneV (i := 12) rfl ?_ trivial
    refine step hF (Y.loadNE (o := o_6) (k := 0) sz_95 hF rfl (hcell_15 _ hS.stab) rfl rfl) rfl fun a hF => nil (then_n ⟨hS.weak ⟨rfl, rfl, rfl, trivial⟩, ?_⟩)
    refine oneV (i := 5) rfl ?_ trivial
    refine step hF (Y.loadNE (o := 0 + Int.toNat sv_1 * 3) (k := 0) sz_95 hF rfl (ownElCell (C := C_remontoirref07_could) (i := 8) hS rfl hp_1 hsub_1) rfl rfl) rfl fun a hF => nil (then_n ⟨hS.weak ⟨rfl, rfl, rfl, trivial⟩, ?_⟩)
    refine oneV (i := 13) rfl ?_ trivial
    refine O.callP (us := [.agg #[.bool e_2.is, .int .i64 e_2.lost.Low, .int .i64 e_2.lost.High], .agg #[.bool e_4.is, .int .i64 e_4.lost.Low, .int .i64 e_4.lost.High]]) ca_62 hF hS (r7either_ok hS.stab e_2 e_4 rv_6 hx_11) rfl rfl fun a w hF hS => nil (then_n ⟨hS.weak ⟨rfl, rfl, rfl, trivial⟩, ?_⟩)
    exact toTailV ⟨hF.weak ⟨rfl, rfl, rfl, rfl, rfl, rfl, rfl, rfl, rfl, rfl, trivial⟩, hS.weak ⟨rfl, rfl, rfl, trivial⟩⟩
   rintro a w ⟨hF, hS⟩
   obtain ⟨hg_14, h⟩ := ite_some h
   obtain ⟨b_14, hp_2⟩ := hS.ownPtr (i := 8) rfl hg_14
   refine step hF (Y.indexOwn hp_2 u_91 sz_95 hg_14 hF rfl rfl) rfl fun a hF => O.storeOwnP (C := C_remontoirref07_could) (v0 := rv_6) (xs := l_2) (us := [.bool rv_6.is, .int .i64 rv_6.lost.Low, .int .i64 rv_6.lost.High]) 8 hp_2 sz_95 hg_14 hF rfl rfl rfl rfl hS rfl hr_6 fun cs_7 a w hF hS hr_7 => ?_
   try rw [show l_2.length = (l_2.set (Int.toNat sv_1) rv_6).length from List.length_set.symm] at hF
   try rw [show l_2.length = (l_2.set (Int.toNat sv_1) rv_6).length from List.length_set.symm] at hS
   refine nil (blk_n (then_n (region (step hF (Y.move hF rfl) rfl fun a hF => step hF (Y.add hF rfl rfl) rfl fun a hF => step hF (Y.assign hF rfl) rfl fun a hF => nil (then_n (⟨_, nxt_some h, (wr (sv_1 + 1)), (l_2.set (Int.toNat sv_1) rv_6), p_10, c_6, cs_7, rfl, hF.weak ⟨rfl, rfl, rfl, rfl, rfl, rfl, rfl, trivial⟩, hS.weak ⟨rfl, rfl, rfl, trivial⟩, hr_7⟩))))))
  replace h := cond_f h hbv_8
  refine exit_ (then_x (then_x (blk_hit (blk_n (then_n ?_)))))
  replace h := ext_some h hxo_6
  refine region (step hF (Y.move hF rfl) rfl fun a hF => step hF (Y.add hF rfl rfl) rfl fun a hF => step hF (Y.assign hF rfl) rfl fun a hF => nil (then_n (⟨_, nxt_some h, (wr (k_3 + 1)), l_2, p_10, c_6, cs_6, rfl, hF.weak ⟨rfl, rfl, rfl, rfl, rfl, rfl, trivial⟩, hS.weak ⟨rfl, rfl, rfl, trivial⟩, hr_6⟩)))
 replace h := cond_f h hbv_7
 refine exit_ (then_x (then_x (blk_hit (then_n ?_))))
 replace h := ext_some h hxo_5
 refine seq (region (step hF (Y.move hF rfl) rfl fun a hF => step hF (Y.assign hF rfl) rfl fun a hF => nil (then_n (ret_ ?_))))
 obtain ⟨Dv_7, hlev_7, hs_9, hS⟩ := hS.freezeC (i := 8) (xs := l_1) rfl hr_5
 obtain rfl := some_inj h
 exact leaveS Tryd.results88 hF hS (.cons (.tmp rfl) .nil) .nil ⟨_, _, rfl, hs_9⟩
noncomputable def r7ends_k2 (i : Int) (now_1 : (List r7could)) : Option (((List r7could) × Int) ⊕ (List r7could)) :=
  nxt (now_1, wr (i + 1))
noncomputable def r7ends_b3 (l : SlaveLine) (now : (List r7could)) (i : Int) (e_1 : SlaveEvent) : (Int × (List r7could)) → Option ((Int × (List r7could)) ⊕ (((List r7could) × Int) ⊕ (List r7could)))
 | (sv, l_1) =>
  cond (decide (sv < (wr (2 * l.Ring))))
  ((r7stateOf sv).bind fun rv_3 =>
  cond (rv_3.Shown == e_1.Shown)
  ((idx now sv).bind fun e_2 =>
  if (0 : Int) ≤ sv ∧ sv < (l_1.length : Int) then
  nxt (wr (sv + 1), (l_1.set (Int.toNat sv) e_2))
  else none)
  (nxt (wr (sv + 1), l_1)))
  (ext (r7ends_k2 i l_1))
noncomputable def r7ends_b1 (l : SlaveLine) (who : Int) (left : Int) : ((List r7could) × Int) → Option (((List r7could) × Int) ⊕ (List r7could))
 | (now, i) =>
  cond (decide (i < (l.Events.length : Int)))
  ((idx l.Events i).bind fun e_1 =>
  (r0In left i).bind fun rv_1 =>
  cond rv_1
  (r7ends_k2 i now)
  (cond (e_1.Kind != 2)
  ((r7pulses l now e_1).bind fun rv_2 =>
  r7ends_k2 i rv_2)
  (cond (e_1.Who == who)
  (if (0 : Int) ≤ (wr (2 * l.Ring)) ∧ (wr (2 * l.Ring)) ≤ (mlim : Int) then
  loopU (r7ends_b3 l now i e_1) (0, (List.replicate (Int.toNat (wr (2 * l.Ring))) ((r7could.mk false (Span.mk 0 0)) : r7could)))
  else none)
  (r7ends_k2 i now))))
  (ext (some now))
noncomputable def r7ends (l : SlaveLine) (who : Int) (left : Int) : Option (List r7could) :=
  if (0 : Int) ≤ (wr (2 * l.Ring)) ∧ (wr (2 * l.Ring)) ≤ (mlim : Int) then
  (idx l.Starts who).bind fun e =>
  (r7place e).bind fun rv =>
  if (0 : Int) ≤ rv ∧ rv < ((List.replicate (Int.toNat (wr (2 * l.Ring))) ((r7could.mk false (Span.mk 0 0)) : r7could)).length : Int) then
  loopU (r7ends_b1 l who left) (((List.replicate (Int.toNat (wr (2 * l.Ring))) ((r7could.mk false (Span.mk 0 0)) : r7could)).set (Int.toNat rv) (r7could.mk true (Span.mk 0 0))), 0)
  else none
  else none
theorem r7ends_ok {w0 : World} {D0 : Stab} (hD : D0.on w0) (l : SlaveLine) (who : Int) (left : Int) {p : Option Addr} {c : Nat} {p_1 : Option Addr} {c_1 : Nat} (hs : SRc C_SlaveStart D0 l.Starts p c) (hs_1 : SRc C_SlaveEvent D0 l.Events p_1 c_1) (out : (List r7could)) (h : r7ends l who left = some out) : Calls Tryd.prog 72 [.agg #[.int .i64 l.Ring, .slice p l.Starts.length c, .slice p_1 l.Events.length c_1], .int .i64 who, .int .i64 left].toArray w0 (RetS D0 w0 fun D v => ∃ p_8 c_6, v = .slice p_8 out.length c_6 ∧ SRc C_remontoirref07_could D out p_8 c_6) := by
 refine enter _ 80 Tryd.func72 rfl Tryd.ntmps72 rfl fun a hF => ?_
 replace hF : Frm 80 [] [(0, .agg #[.int .i64 l.Ring, .slice p l.Starts.length c, .slice p_1 l.Events.length c_1]), (1, .int .i64 who), (2, .int .i64 left)] a := hF
 have hS := St.start hD
 unfold r7ends at h
 refine seq (region (O.box (cs := [.int .i64 l.Ring, .slice p l.Starts.length c, .slice p_1 l.Events.length c_1]) 1 hF rfl rfl hS rfl fun b a w hF hS => step hF (Y.assign hF rfl) rfl fun a hF => nil (then_n (seq (region (step hF (Y.fieldAddr fo_25_0 hF rfl) rfl fun a hF => step hF (Y.load1L 1 sz_3 hF rfl hS rfl rfl) rfl fun a hF => step hF (Y.mul hF rfl rfl) rfl fun a hF => ?_))))))
 obtain ⟨hg, h⟩ := ite_some h
 refine O.makeRow (C := C_remontoirref07_could) ((r7could.mk false (Span.mk 0 0)) : r7could) 2 gr_91 zc_95 rfl hF rfl rfl hS hg rfl fun p_2 cs a w hF hS hr => step hF (Y.assign hF rfl) rfl fun a hF => nil (then_n (seq (region (step hF (Y.move hF rfl) rfl fun a hF => step hF (Y.fieldAddr fo_25_1 hF rfl) rfl fun a hF => step hF (Y.load1L 1 sz_22 hF rfl hS rfl rfl) rfl fun a hF => step hF (Y.move hF rfl) rfl fun a hF => ?_))))
 obtain ⟨e, hx, h⟩ := bind_some h
 obtain ⟨b_1, o, hE, hY⟩ := Y.indexS (P := Tryd.prog) (C := C_SlaveStart) (xs := l.Starts) (T := 22) (x := (.tmp 18)) (y := (.tmp 19)) u_22 sz_57 hF rfl rfl (hs).1 hx
 obtain ⟨cc, hc, hcell⟩ := hE.open
 obtain rfl := C_SlaveStart.open hc
 refine step hF (hY) rfl fun a hF => step hF (Y.loadNE (o := o) (k := 0) sz_57 hF rfl (hcell _ hS.stab) rfl rfl) rfl fun a hF => ?_
 obtain ⟨rv, hx_1, h⟩ := bind_some h
 refine O.callP (us := [.agg #[.int .i64 e.Shown, .int .i64 e.Last]]) ca_87 hF hS (r7place_ok hS.stab e rv hx_1) rfl rfl fun a w hF hS => step hF (Y.build (parts := [(0, (.const (.bool true)))]) (cs := #[.bool true, .int .i64 0, .int .i64 0]) hF rfl (by kernel_rfl)) rfl fun a hF => ?_
 obtain ⟨hg_1, h⟩ := ite_some h
 obtain ⟨b_2, hp⟩ := hS.ownPtr (i := 2) rfl hg_1
 refine step hF (Y.indexOwn hp u_91 sz_95 hg_1 hF rfl rfl) rfl fun a hF => O.storeOwnP (C := C_remontoirref07_could) (v0 := (r7could.mk true (Span.mk 0 0))) (xs := (List.replicate (Int.toNat (wr (2 * l.Ring))) ((r7could.mk false (Span.mk 0 0)) : r7could))) (us := [.bool true, .int .i64 0, .int .i64 0]) 2 hp sz_95 hg_1 hF rfl rfl rfl rfl hS rfl hr fun cs_1 a w hF hS hr_1 => ?_
 try rw [show (List.replicate (Int.toNat (wr (2 * l.Ring))) ((r7could.mk false (Span.mk 0 0)) : r7could)).length = ((List.replicate (Int.toNat (wr (2 * l.Ring))) ((r7could.mk false (Span.mk 0 0)) : r7could)).set (Int.toNat rv) (r7could.mk true (Span.mk 0 0))).length from List.length_set.symm] at hF
 try rw [show (List.replicate (Int.toNat (wr (2 * l.Ring))) ((r7could.mk false (Span.mk 0 0)) : r7could)).length = ((List.replicate (Int.toNat (wr (2 * l.Ring))) ((r7could.mk false (Span.mk 0 0)) : r7could)).set (Int.toNat rv) (r7could.mk true (Span.mk 0 0))).length from List.length_set.symm] at hS
 refine nil (then_n (seq (seq (region (step hF (Y.assign hF rfl) rfl fun a hF => nil (then_n (block ?_)))))))
 obtain ⟨Dv, hlev, hs_2, hS⟩ := hS.freezeC (i := 2) (xs := ((List.replicate (Int.toNat (wr (2 * l.Ring))) ((r7could.mk false (Span.mk 0 0)) : r7could)).set (Int.toNat rv) (r7could.mk true (Span.mk 0 0)))) rfl hr_1
 replace hs := hs.mono hlev
 replace hs_1 := hs_1.mono hlev
 refine loop_cut (body := r7ends_b1 l who left) (out := out) (fun s a w => ∃ (now : (List r7could)) (i : Int), ∃ (Dv_1 : Stab), ∃ p_3 c_2, s = (now, i) ∧ Dv.le Dv_1 ∧ Frm 80 [] [(1, .int .i64 who), (2, .int .i64 left), (3, .pointer (some ⟨b, 0, none⟩)), (6, .slice none 0 0), (7, .slice p_3 now.length c_2), (8, .int .i64 i)] a ∧ St w0 D0 Dv_1 [(1, .cells b [.int .i64 l.Ring, .slice p l.Starts.length c, .slice p_1 l.Events.length c_1] 25)] w ∧ SRc C_remontoirref07_could Dv_1 now p_3 c_2) (((List.replicate (Int.toNat (wr (2 * l.Ring))) ((r7could.mk false (Span.mk 0 0)) : r7could)).set (Int.toNat rv) (r7could.mk true (Span.mk 0 0))), 0) h ⟨((List.replicate (Int.toNat (wr (2 * l.Ring))) ((r7could.mk false (Span.mk 0 0)) : r7could)).set (Int.toNat rv) (r7could.mk true (Span.mk 0 0))), 0, Dv, p_2, (((List.replicate (Int.toNat (wr (2 * l.Ring))) ((r7could.mk false (Span.mk 0 0)) : r7could)).set (Int.toNat rv) (r7could.mk true (Span.mk 0 0))).length), rfl, Stab.le.refl _, hF.weak ⟨rfl, rfl, rfl, rfl, rfl, rfl, trivial⟩, hS.weak ⟨rfl, trivial⟩, hs_2⟩ ?_
 rintro s a w xo ⟨now, i, Dv_1, p_3, c_2, rfl, hlev_1, hF, hS, hs_3⟩ h hxo
 unfold r7ends_b1 at h
 dsimp only at h
 replace hs := hs.mono hlev_1
 replace hs_1 := hs_1.mono hlev_1
 refine seq (seq (region (step hF (Y.move hF rfl) rfl fun a hF => step hF (Y.fieldAddr fo_25_2 hF rfl) rfl fun a hF => step hF (Y.load1L 1 sz_23 hF rfl hS rfl rfl) rfl fun a hF => step hF (Y.lenSl u_23 hF rfl) rfl fun a hF => step hF (Y.lss hF rfl rfl) rfl fun a hF => nil (then_n (cond_b hF rfl (fun hbv => ?_) (fun hbv => ?_))))))
 ·replace h := cond_t h hbv
  refine skip_ (then_n (seq_cut (fun a w => ∃ (now_1 : (List r7could)), ∃ (Dv_2 : Stab), ∃ p_4 c_3, Dv_1.le Dv_2 ∧ Frm 80 [] [(1, .int .i64 who), (2, .int .i64 left), (3, .pointer (some ⟨b, 0, none⟩)), (6, .slice none 0 0), (7, .slice p_4 now_1.length c_3), (8, .int .i64 i)] a ∧ St w0 D0 Dv_2 [(1, .cells b [.int .i64 l.Ring, .slice p l.Starts.length c, .slice p_1 l.Events.length c_1] 25)] w ∧ SRc C_remontoirref07_could Dv_2 now_1 p_4 c_3 ∧ r7ends_k2 i now_1 = some xo) ?_ ?_))
  ·skip
   refine block (seq (region (step hF (Y.fieldAddr fo_25_2 hF rfl) rfl fun a hF => step hF (Y.load1L 1 sz_23 hF rfl hS rfl rfl) rfl fun a hF => step hF (Y.move hF rfl) rfl fun a hF => ?_)))
   obtain ⟨e_1, hx_2, h⟩ := bind_some h
   obtain ⟨b_3, o_1, hE_1, hY_1⟩ := Y.indexS (P := Tryd.prog) (C := C_SlaveEvent) (xs := l.Events) (T := 23) (x := (.tmp 33)) (y := (.tmp 34)) u_23 sz_66 hF rfl rfl (hs_1).1 hx_2
   obtain ⟨cc_1, hc_1, hcell_1⟩ := hE_1.open
   obtain rfl := C_SlaveEvent.open hc_1
   refine step hF (hY_1) rfl fun a hF => step hF (Y.loadNE (o := o_1) (k := 0) sz_66 hF rfl (hcell_1 _ hS.stab) rfl rfl) rfl fun a hF => O.alloc 3 zc_66 hF hS rfl fun b_4 a w hF hS => O.store (us := [.int .i64 e_1.Kind, .int .i64 e_1.First, .int .i64 e_1.Count, .int .i64 e_1.Lost, .int .i64 e_1.Who, .int .i64 e_1.Shown]) 3 sz_66 hF rfl rfl rfl rfl hS rfl rfl fun a w hF hS => nil (then_n (block (seq (region (step hF (Y.move hF rfl) rfl fun a hF => step hF (Y.move hF rfl) rfl fun a hF => ?_)))))
   obtain ⟨rv_1, hx_3, h⟩ := bind_some h
   refine O.callP (us := [.int .i64 left, .int .i64 i]) ca_48 hF hS (r0In_ok hS.stab left i rv_1 hx_3) rfl rfl fun a w hF hS => step hF (Y.assign hF rfl) rfl fun a hF => nil (then_n (cond_b hF rfl (fun hbv_1 => ?_) (fun hbv_1 => ?_)))
   ·replace h := cond_t h hbv_1
    refine exit_ (blk_miss rfl (blk_hit (then_n (⟨now, Dv_1, p_3, c_2, Stab.le.refl _, hF.weak ⟨rfl, rfl, rfl, rfl, rfl, rfl, trivial⟩, hS.weak ⟨rfl, trivial⟩, hs_3, h⟩))))
   replace h := cond_f h hbv_1
   refine seq (region (step hF (Y.fieldAddr fo_66_0 hF rfl) rfl fun a hF => step hF (Y.load1L 3 sz_3 hF rfl hS rfl rfl) rfl fun a hF => step hF (Y.neq hF rfl rfl) rfl fun a hF => step hF (Y.assign hF rfl) rfl fun a hF => nil (then_n (cond_b hF rfl (fun hbv_2 => ?_) (fun hbv_2 => ?_)))))
   ·replace h := cond_t h hbv_2
    refine region (step hF (Y.loadNL 1 sz_25 hF rfl hS rfl rfl rfl) rfl fun a hF => step hF (Y.move hF rfl) rfl fun a hF => step hF (Y.loadNL 3 sz_66 hF rfl hS rfl rfl rfl) rfl fun a hF => ?_)
    obtain ⟨rv_2, hx_4, h⟩ := bind_some h
    refine O.callS (us := [.agg #[.int .i64 l.Ring, .slice p l.Starts.length c, .slice p_1 l.Events.length c_1], .slice p_3 now.length c_2, .agg #[.int .i64 e_1.Kind, .int .i64 e_1.First, .int .i64 e_1.Count, .int .i64 e_1.Lost, .int .i64 e_1.Who, .int .i64 e_1.Shown]]) ca_88 hF hS (r7pulses_ok hS.stab l now e_1 hs hs_1 hs_3 rv_2 hx_4) rfl rfl fun v Dv_3 a w hR hlev_3 hF hS => ?_
    obtain ⟨p_5, c_4, rfl, hs_5⟩ := hR
    refine step hF (Y.assign hF rfl) rfl fun a hF => nil (blk_n (blk_n (then_n (⟨rv_2, Dv_3, p_5, c_4, hlev_3, hF.weak ⟨rfl, rfl, rfl, rfl, rfl, rfl, trivial⟩, hS.weak ⟨rfl, trivial⟩, hs_5, h⟩))))
   replace h := cond_f h hbv_2
   refine seq (region (step hF (Y.fieldAddr fo_66_4 hF rfl) rfl fun a hF => step hF (Y.load1L 3 sz_3 hF rfl hS rfl rfl) rfl fun a hF => step hF (Y.move hF rfl) rfl fun a hF => step hF (Y.eql hF rfl rfl) rfl fun a hF => step hF (Y.assign hF rfl) rfl fun a hF => nil (then_n (cond_b hF rfl (fun hbv_3 => ?_) (fun hbv_3 => ?_)))))
   ·replace h := cond_t h hbv_3
    refine seq (region (step hF (Y.fieldAddr fo_25_0 hF rfl) rfl fun a hF => step hF (Y.load1L 1 sz_3 hF rfl hS rfl rfl) rfl fun a hF => step hF (Y.mul hF rfl rfl) rfl fun a hF => ?_))
    obtain ⟨hg_2, h⟩ := ite_some h
    refine O.makeRow (C := C_remontoirref07_could) ((r7could.mk false (Span.mk 0 0)) : r7could) 4 gr_91 zc_95 rfl hF rfl rfl hS hg_2 rfl fun p_6 cs_2 a w hF hS hr_2 => step hF (Y.assign hF rfl) rfl fun a hF => nil (then_n (seq (seq (region (step hF (Y.assign hF rfl) rfl fun a hF => nil (then_n (block (loop_cut (body := r7ends_b3 l now i e_1) (out := xo) (fun s a w => ∃ (sv : Int) (l_1 : (List r7could)), ∃ p_7 c_5 cs_3, s = (sv, l_1) ∧ Frm 80 [] [(1, .int .i64 who), (2, .int .i64 left), (3, .pointer (some ⟨b, 0, none⟩)), (6, .slice none 0 0), (7, .slice p_3 now.length c_2), (8, .int .i64 i), (9, .pointer (some ⟨b_4, 0, none⟩)), (10, .slice p_7 l_1.length c_5), (11, .int .i64 sv)] a ∧ St w0 D0 Dv_1 [(1, .cells b [.int .i64 l.Ring, .slice p l.Starts.length c, .slice p_1 l.Events.length c_1] 25), (3, .cells b_4 [.int .i64 e_1.Kind, .int .i64 e_1.First, .int .i64 e_1.Count, .int .i64 e_1.Lost, .int .i64 e_1.Who, .int .i64 e_1.Shown] 66), (4, .own p_7 l_1.length c_5 cs_3 95 3)] w ∧ Reps C_remontoirref07_could Dv_1 l_1 cs_3) (0, (List.replicate (Int.toNat (wr (2 * l.Ring))) ((r7could.mk false (Span.mk 0 0)) : r7could))) h ⟨0, (List.replicate (Int.toNat (wr (2 * l.Ring))) ((r7could.mk false (Span.mk 0 0)) : r7could)), p_6, ((List.replicate (Int.toNat (wr (2 * l.Ring))) ((r7could.mk false (Span.mk 0 0)) : r7could)).length), cs_2, rfl, hF.weak ⟨rfl, rfl, rfl, rfl, rfl, rfl, rfl, rfl, rfl, trivial⟩, hS.weak ⟨rfl, rfl, rfl, trivial⟩, hr_2⟩ ?_))))))))
    rintro s a w xo_1 ⟨sv, l_1, p_7, c_5, cs_3, rfl, hF, hS, hr_3⟩ h hxo_1
    unfold r7ends_b3 at h
    dsimp only at h
    refine seq (seq (region (step hF (Y.move hF rfl) rfl fun a hF => step hF (Y.fieldAddr fo_25_0 hF rfl) rfl fun a hF => step hF (Y.load1L 1 sz_3 hF rfl hS rfl rfl) rfl fun a hF => step hF (Y.mul hF rfl rfl) rfl fun a hF => step hF (Y.lss hF rfl rfl) rfl fun a hF => nil (then_n (cond_b hF rfl (fun hbv_4 => ?_) (fun hbv_4 => ?_))))))
    ·replace h := cond_t h hbv_4
     refine skip_ (then_n (seq (block (seq ?_))))
     obtain ⟨rv_3, hx_5, h⟩ := bind_some h
     refine drawsV 5 (.flt 0 (.flt 3 (.flt 4 (.alt 1 (.flt 2 .done) .stop)))) mixed_ (by kernel_rfl) (fun w => St w0 D0 Dv_1 [(1, .cells b [.int .i64 l.Ring, .slice p l.Starts.length c, .slice p_1 l.Events.length c_1] 25), (3, .cells b_4 [.int .i64 e_1.Kind, .int .i64 e_1.First, .int .i64 e_1.Count, .int .i64 e_1.Lost, .int .i64 e_1.Who, .int .i64 e_1.Shown] 66), (4, .own p_7 l_1.length c_5 cs_3 95 3)] w) (fun a w => Frm 80 [] [(1, .int .i64 who), (2, .int .i64 left), (3, .pointer (some ⟨b, 0, none⟩)), (6, .slice none 0 0), (7, .slice p_3 now.length c_2), (8, .int .i64 i), (9, .pointer (some ⟨b_4, 0, none⟩)), (10, .slice p_7 l_1.length c_5), (11, .int .i64 sv), (67, .int .i64 rv_3.Shown), (69, .int .i64 e_1.Shown)] a ∧ St w0 D0 Dv_1 [(1, .cells b [.int .i64 l.Ring, .slice p l.Starts.length c, .slice p_1 l.Events.length c_1] 25), (3, .cells b_4 [.int .i64 e_1.Kind, .int .i64 e_1.First, .int .i64 e_1.Count, .int .i64 e_1.Lost, .int .i64 e_1.Who, .int .i64 e_1.Shown] 66), (4, .own p_7 l_1.length c_5 cs_3 95 3)] w) (hS.weak (ms := [(1, .cells b [.int .i64 l.Ring, .slice p l.Starts.length c, .slice p_1 l.Events.length c_1] 25), (3, .cells b_4 [.int .i64 e_1.Kind, .int .i64 e_1.First, .int .i64 e_1.Count, .int .i64 e_1.Lost, .int .i64 e_1.Who, .int .i64 e_1.Shown] 66), (4, .own p_7 l_1.length c_5 cs_3 95 3)]) ⟨rfl, rfl, rfl, trivial⟩).drew (fun _ _ _ _ h => h) ?_ ?_
     ·replace hS := hS.drew
      have hle0 := hS.le
      refine stepV (i := 0) rfl hF (fun w hS => Y.move hF rfl) rfl fun a hF => stepV (i := 3) rfl hF (fun w hS => Y.fieldAddr fo_66_5 hF rfl) rfl fun a hF => stepV (i := 4) rfl hF (fun w hS => Y.load1L 3 sz_3 hF rfl hS rfl rfl) rfl fun a hF => oneV (i := 1) rfl ?_ trivial
      refine O.callP (us := [.int .i64 sv]) ca_89 hF hS (r7stateOf_ok hS.stab sv rv_3 hx_5) rfl rfl fun a w hF hS => nil (then_n ⟨hS.weak ⟨rfl, rfl, rfl, trivial⟩, ?_⟩)
      refine stepV (i := 2) rfl hF (fun w hS => Y.field1 fT_57_0 hF rfl rfl) rfl fun a hF => toTailV ⟨hF.weak ⟨rfl, rfl, rfl, rfl, rfl, rfl, rfl, rfl, rfl, rfl, rfl, trivial⟩, hS.weak ⟨rfl, rfl, rfl, trivial⟩⟩
     rintro a w ⟨hF, hS⟩
     refine step hF (Y.eql hF rfl rfl) rfl fun a hF => nil (then_n (cond_b hF rfl (fun hbv_5 => ?_) (fun hbv_5 => ?_)))
     ·replace h := cond_t h hbv_5
      refine region (step hF (Y.move hF rfl) rfl fun a hF => step hF (Y.move hF rfl) rfl fun a hF => step hF (Y.move hF rfl) rfl fun a hF => step hF (Y.move hF rfl) rfl fun a hF => ?_)
      obtain ⟨e_2, hx_6, h⟩ := bind_some h
      obtain ⟨b_5, o_2, hE_2, hY_2⟩ := Y.indexS (P := Tryd.prog) (C := C_remontoirref07_could) (xs := now) (T := 91) (x := (.tmp 73)) (y := (.tmp 74)) u_91 sz_95 hF rfl rfl (hs_3).1 hx_6
      obtain ⟨cc_2, hc_2, hcell_2⟩ := hE_2.open
      obtain rfl := C_remontoirref07_could.open hc_2
      refine step hF (hY_2) rfl fun a hF => step hF (Y.loadNE (o := o_2) (k := 0) sz_95 hF rfl (hcell_2 _ hS.stab) rfl rfl) rfl fun a hF => ?_
      obtain ⟨hg_3, h⟩ := ite_some h
      obtain ⟨b_6, hp_1⟩ := hS.ownPtr (i := 4) rfl hg_3
      refine step hF (Y.indexOwn hp_1 u_91 sz_95 hg_3 hF rfl rfl) rfl fun a hF => O.storeOwnP (C := C_remontoirref07_could) (v0 := e_2) (xs := l_1) (us := [.bool e_2.is, .int .i64 e_2.lost.Low, .int .i64 e_2.lost.High]) 4 hp_1 sz_95 hg_3 hF rfl rfl rfl rfl hS rfl hr_3 fun cs_4 a w hF hS hr_4 => ?_
      try rw [show l_1.length = (l_1.set (Int.toNat sv) e_2).length from List.length_set.symm] at hF
      try rw [show l_1.length = (l_1.set (Int.toNat sv) e_2).length from List.length_set.symm] at hS
      refine nil (blk_n (then_n (region (step hF (Y.move hF rfl) rfl fun a hF => step hF (Y.add hF rfl rfl) rfl fun a hF => step hF (Y.assign hF rfl) rfl fun a hF => nil (then_n (⟨_, nxt_some h, (wr (sv + 1)), (l_1.set (Int.toNat sv) e_2), p_7, c_5, cs_4, rfl, hF.weak ⟨rfl, rfl, rfl, rfl, rfl, rfl, rfl, rfl, rfl, trivial⟩, hS.weak ⟨rfl, rfl, rfl, trivial⟩, hr_4⟩))))))
     replace h := cond_f h hbv_5
     refine skip_ (blk_n (then_n (region (step hF (Y.move hF rfl) rfl fun a hF => step hF (Y.add hF rfl rfl) rfl fun a hF => step hF (Y.assign hF rfl) rfl fun a hF => nil (then_n (⟨_, nxt_some h, (wr (sv + 1)), l_1, p_7, c_5, cs_3, rfl, hF.weak ⟨rfl, rfl, rfl, rfl, rfl, rfl, rfl, rfl, rfl, trivial⟩, hS.weak ⟨rfl, rfl, rfl, trivial⟩, hr_3⟩))))))
    replace h := cond_f h hbv_4
    refine exit_ (then_x (then_x (blk_hit (then_n ?_))))
    replace h := ext_some h hxo_1
    refine region (step hF (Y.move hF rfl) rfl fun a hF => step hF (Y.assign hF rfl) rfl fun a hF => nil (blk_n (blk_n (then_n ?_))))
    obtain ⟨Dv_4, hlev_4, hs_6, hS⟩ := hS.freezeC (i := 4) (xs := l_1) rfl hr_3
    exact ⟨l_1, Dv_4, p_7, c_5, hlev_4, hF.weak ⟨rfl, rfl, rfl, rfl, rfl, rfl, trivial⟩, hS.weak ⟨rfl, trivial⟩, hs_6, h⟩
   replace h := cond_f h hbv_3
   refine skip_ (blk_n (blk_n (then_n (⟨now, Dv_1, p_3, c_2, Stab.le.refl _, hF.weak ⟨rfl, rfl, rfl, rfl, rfl, rfl, trivial⟩, hS.weak ⟨rfl, trivial⟩, hs_3, h⟩))))
  rintro a w ⟨now_1, Dv_2, p_4, c_3, hlev_2, hF, hS, hs_4, h⟩
  unfold r7ends_k2 at h
  refine region (step hF (Y.move hF rfl) rfl fun a hF => step hF (Y.add hF rfl rfl) rfl fun a hF => step hF (Y.assign hF rfl) rfl fun a hF => nil (then_n (⟨_, nxt_some h, now_1, (wr (i + 1)), Dv_2, p_4, c_3, rfl, hlev_1.trans hlev_2, hF.weak ⟨rfl, rfl, rfl, rfl, rfl, rfl, trivial⟩, hS.weak ⟨rfl, trivial⟩, hs_4⟩)))
 replace h := cond_f h hbv
 refine exit_ (then_x (then_x (blk_hit (then_n ?_))))
 replace h := ext_some h hxo
 refine seq (region (step hF (Y.move hF rfl) rfl fun a hF => step hF (Y.assign hF rfl) rfl fun a hF => nil (then_n (ret_ ?_))))
 obtain rfl := some_inj h
 exact leaveS Tryd.results72 hF hS (.cons (.tmp rfl) .nil) .nil ⟨_, _, rfl, hs_3⟩
noncomputable def r7some_b1 (l : (List r7could)) : (Bool × Int) → Option ((Bool × Int) ⊕ Bool)
 | (v2_0, i) =>
  cond (decide (i < (l.length : Int)))
  ((idx l i).bind fun e =>
  cond e.is
  (ext (some true))
  (nxt (v2_0, wr (i + 1))))
  (ext (some false))
noncomputable def r7some (l : (List r7could)) : Option Bool :=
  loopU (r7some_b1 l) (false, 0)
theorem r7some_ok {w0 : World} {D0 : Stab} (hD : D0.on w0) (l : (List r7could)) {p : Option Addr} {c : Nat} (hs : SRc C_remontoirref07_could D0 l p c) (out : Bool) (h : r7some l = some out) : Calls Tryd.prog 71 [.slice p l.length c].toArray w0 (RetP D0 w0 (.bool out)) := by
 refine enter _ 15 Tryd.func71 rfl Tryd.ntmps71 rfl fun a hF => ?_
 replace hF : Frm 15 [] [(0, .slice p l.length c)] a := hF
 have hS := St.start hD
 unfold r7some at h
 refine seq (region (step hF (Y.assign hF rfl) rfl fun a hF => nil (then_n (seq (seq (region (step hF (Y.assign hF rfl) rfl fun a hF => nil (then_n (block (loop_cut (body := r7some_b1 l) (out := out) (fun s a w => ∃ (v2_0 : Bool) (i : Int), s = (v2_0, i) ∧ Frm 15 [] [(0, .slice p l.length c), (2, .bool v2_0), (3, .int .i64 i)] a ∧ St w0 D0 D0 [] w) (false, 0) h ⟨false, 0, rfl, hF.weak ⟨rfl, rfl, rfl, trivial⟩, hS.weak trivial⟩ ?_))))))))))
 rintro s a w xo ⟨v2_0, i, rfl, hF, hS⟩ h hxo
 unfold r7some_b1 at h
 dsimp only at h
 refine seq (seq (region (step hF (Y.move hF rfl) rfl fun a hF => step hF (Y.move hF rfl) rfl fun a hF => step hF (Y.lenSl u_91 hF rfl) rfl fun a hF => step hF (Y.lss hF rfl rfl) rfl fun a hF => nil (then_n (cond_b hF rfl (fun hbv => ?_) (fun hbv => ?_))))))
 ·replace h := cond_t h hbv
  refine skip_ (then_n (seq (block (seq (region (step hF (Y.move hF rfl) rfl fun a hF => step hF (Y.move hF rfl) rfl fun a hF => ?_))))))
  obtain ⟨e, hx, h⟩ := bind_some h
  obtain ⟨b, o, hE, hY⟩ := Y.indexS (P := Tryd.prog) (C := C_remontoirref07_could) (xs := l) (T := 91) (x := (.tmp 10)) (y := (.tmp 11)) u_91 sz_95 hF rfl rfl (hs).1 hx
  obtain ⟨cc, hc, hcell⟩ := hE.open
  obtain rfl := C_remontoirref07_could.open hc
  refine step hF (hY) rfl fun a hF => step hF (Y.fieldAddr fo_95_0 hF rfl) rfl fun a hF => step hF (Y.load1 sz_4 hF rfl (hcell _ hS.stab 0 _ rfl)) rfl fun a hF => nil (then_n (cond_b hF rfl (fun hbv_1 => ?_) (fun hbv_1 => ?_)))
  ·replace h := cond_t h hbv_1
   refine seq (region (step hF (Y.assign hF rfl) rfl fun a hF => nil (then_n (ret_ (blk_r (then_r (then_r (blk_r (then_r ?_)))))))))
   replace h := ext_some h hxo
   obtain rfl := some_inj h
   exact leaveP Tryd.results71 hF hS (.cons (.tmp rfl) .nil) .nil rfl
  replace h := cond_f h hbv_1
  refine skip_ (blk_n (then_n (region (step hF (Y.move hF rfl) rfl fun a hF => step hF (Y.add hF rfl rfl) rfl fun a hF => step hF (Y.assign hF rfl) rfl fun a hF => nil (then_n (⟨_, nxt_some h, v2_0, (wr (i + 1)), rfl, hF.weak ⟨rfl, rfl, rfl, trivial⟩, hS.weak trivial⟩))))))
 replace h := cond_f h hbv
 refine exit_ (then_x (then_x (blk_hit (then_n ?_))))
 replace h := ext_some h hxo
 refine seq (region (step hF (Y.assign hF rfl) rfl fun a hF => nil (then_n (ret_ ?_))))
 obtain rfl := some_inj h
 exact leaveP Tryd.results71 hF hS (.cons (.tmp rfl) .nil) .nil rfl
noncomputable def r7asked (l : SlaveLine) (who : Int) : Option ((List r7could) × Int) :=
  (r7Check l).bind fun rv =>
  cond (rv != 0)
  (some (([] : List r7could), rv))
  ((r0Lies who 0 (wr ((l.Starts.length : Int) - 1))).bind fun rv_1 =>
  cond (!rv_1)
  (some (([] : List r7could), 71))
  ((r7ends l who 0).bind fun rv_2 =>
  (r7some rv_2).bind fun rv_3 =>
  cond (!rv_3)
  (some (([] : List r7could), 72))
  (some (rv_2, 0))))
theorem r7asked_ok {w0 : World} {D0 : Stab} (hD : D0.on w0) (l : SlaveLine) (who : Int) {p : Option Addr} {c : Nat} {p_1 : Option Addr} {c_1 : Nat} (hs : SRc C_SlaveStart D0 l.Starts p c) (hs_1 : SRc C_SlaveEvent D0 l.Events p_1 c_1) (out : ((List r7could) × Int)) (h : r7asked l who = some out) : Calls Tryd.prog 58 [.agg #[.int .i64 l.Ring, .slice p l.Starts.length c, .slice p_1 l.Events.length c_1], .int .i64 who].toArray w0 (RetS D0 w0 fun D v => ∃ p_3 c_3, v = .tuple #[.slice p_3 out.1.length c_3, .int .i64 out.2] ∧ SRc C_remontoirref07_could D out.1 p_3 c_3) := by
 refine enter _ 27 Tryd.func58 rfl Tryd.ntmps58 rfl fun a hF => ?_
 replace hF : Frm 27 [] [(0, .agg #[.int .i64 l.Ring, .slice p l.Starts.length c, .slice p_1 l.Events.length c_1]), (1, .int .i64 who)] a := hF
 have hS := St.start hD
 unfold r7asked at h
 refine seq (region (O.box (cs := [.int .i64 l.Ring, .slice p l.Starts.length c, .slice p_1 l.Events.length c_1]) 1 hF rfl rfl hS rfl fun b a w hF hS => step hF (Y.assign hF rfl) rfl fun a hF => step hF (Y.assign hF rfl) rfl fun a hF => nil (then_n (seq (seq (region (step hF (Y.loadNL 1 sz_25 hF rfl hS rfl rfl rfl) rfl fun a hF => ?_)))))))
 obtain ⟨rv, hx, h⟩ := bind_some h
 refine O.callP (us := [.agg #[.int .i64 l.Ring, .slice p l.Starts.length c, .slice p_1 l.Events.length c_1]]) ca_20 hF hS (r7Check_ok hS.stab l hs hs_1 rv hx) rfl rfl fun a w hF hS => step hF (Y.assign hF rfl) rfl fun a hF => nil (then_n (seq (region (step hF (Y.move hF rfl) rfl fun a hF => step hF (Y.neq hF rfl rfl) rfl fun a hF => nil (then_n (cond_b hF rfl (fun hbv => ?_) (fun hbv => ?_)))))))
 ·replace h := cond_t h hbv
  refine seq (region (step hF (Y.move hF rfl) rfl fun a hF => step hF (Y.assign hF rfl) rfl fun a hF => step hF (Y.assign hF rfl) rfl fun a hF => nil (then_n (ret_ (then_r ?_)))))
  obtain rfl := some_inj h
  exact leaveS Tryd.results58 hF hS (.cons (.tmp rfl) (.cons (.tmp rfl) .nil)) .nil ⟨_, _, rfl, SRc.nil⟩
 replace h := cond_f h hbv
 refine skip_ (then_n (seq (seq (region (step hF (Y.move hF rfl) rfl fun a hF => step hF (Y.fieldAddr fo_25_1 hF rfl) rfl fun a hF => step hF (Y.load1L 1 sz_22 hF rfl hS rfl rfl) rfl fun a hF => step hF (Y.lenSl u_22 hF rfl) rfl fun a hF => step hF (Y.sub hF rfl rfl) rfl fun a hF => ?_)))))
 obtain ⟨rv_1, hx_1, h⟩ := bind_some h
 refine O.callP (us := [.int .i64 who, .int .i64 0, .int .i64 (wr ((l.Starts.length : Int) - 1))]) ca_50 hF hS (r0Lies_ok hS.stab who 0 (wr ((l.Starts.length : Int) - 1)) rv_1 hx_1) rfl rfl fun a w hF hS => step hF (Y.not hF rfl) rfl fun a hF => nil (then_n (cond_b hF rfl (fun hbv_1 => ?_) (fun hbv_1 => ?_)))
 ·replace h := cond_t h hbv_1
  refine seq (region (step hF (Y.assign hF rfl) rfl fun a hF => step hF (Y.assign hF rfl) rfl fun a hF => nil (then_n (ret_ (then_r ?_)))))
  obtain rfl := some_inj h
  exact leaveS Tryd.results58 hF hS (.cons (.tmp rfl) (.cons (.tmp rfl) .nil)) .nil ⟨_, _, rfl, SRc.nil⟩
 replace h := cond_f h hbv_1
 refine skip_ (then_n (seq (region (step hF (Y.loadNL 1 sz_25 hF rfl hS rfl rfl rfl) rfl fun a hF => step hF (Y.move hF rfl) rfl fun a hF => ?_))))
 obtain ⟨rv_2, hx_2, h⟩ := bind_some h
 refine O.callS (us := [.agg #[.int .i64 l.Ring, .slice p l.Starts.length c, .slice p_1 l.Events.length c_1], .int .i64 who, .int .i64 0]) ca_72 hF hS (r7ends_ok hS.stab l who 0 hs hs_1 rv_2 hx_2) rfl rfl fun v Dv a w hR hlev hF hS => ?_
 obtain ⟨p_2, c_2, rfl, hs_2⟩ := hR
 refine step hF (Y.assign hF rfl) rfl fun a hF => nil (then_n (seq (seq (region (step hF (Y.move hF rfl) rfl fun a hF => ?_)))))
 obtain ⟨rv_3, hx_3, h⟩ := bind_some h
 refine O.callP (us := [.slice p_2 rv_2.length c_2]) ca_71 hF hS (r7some_ok hS.stab rv_2 hs_2 rv_3 hx_3) rfl rfl fun a w hF hS => step hF (Y.not hF rfl) rfl fun a hF => nil (then_n (cond_b hF rfl (fun hbv_2 => ?_) (fun hbv_2 => ?_)))
 ·replace h := cond_t h hbv_2
  refine seq (region (step hF (Y.assign hF rfl) rfl fun a hF => step hF (Y.assign hF rfl) rfl fun a hF => nil (then_n (ret_ (then_r ?_)))))
  obtain rfl := some_inj h
  exact leaveS Tryd.results58 hF hS (.cons (.tmp rfl) (.cons (.tmp rfl) .nil)) .nil ⟨_, _, rfl, SRc.nil⟩
 replace h := cond_f h hbv_2
 refine skip_ (then_n (seq (region (step hF (Y.move hF rfl) rfl fun a hF => step hF (Y.assign hF rfl) rfl fun a hF => step hF (Y.assign hF rfl) rfl fun a hF => nil (then_n (ret_ ?_))))))
 obtain rfl := some_inj h
 exact leaveS Tryd.results58 hF hS (.cons (.tmp rfl) (.cons (.tmp rfl) .nil)) .nil ⟨_, _, rfl, hs_2⟩
noncomputable def r7every_b2 (v2_0 : (List SlaveStart)) (v3_0 : Int) (who : Int) (rv : ((List r7could) × Int)) : ((List SlaveStart) × Int) → Option (((List SlaveStart) × Int) ⊕ (((List SlaveStart) × Int × (List SlaveStart) × Int) ⊕ ((List SlaveStart) × Int)))
 | (outv_1, i) =>
  cond (decide (i < (rv.1.length : Int)))
  ((idx rv.1 i).bind fun e =>
  cond e.is
  ((r7stateOf i).bind fun rv_1 =>
  if outv_1.length + ([rv_1]).length ≤ lim then
  nxt ((outv_1 ++ [rv_1]), wr (i + 1))
  else none)
  (nxt (outv_1, wr (i + 1))))
  (ext (nxt (v2_0, v3_0, outv_1, wr (who + 1))))
noncomputable def r7every_b1 (l : SlaveLine) : ((List SlaveStart) × Int × (List SlaveStart) × Int) → Option (((List SlaveStart) × Int × (List SlaveStart) × Int) ⊕ ((List SlaveStart) × Int))
 | (v2_0, v3_0, outv, who) =>
  cond (decide (who < (l.Starts.length : Int)))
  ((r7asked l who).bind fun rv =>
  cond (rv.2 != 0)
  (ext (some (([] : List SlaveStart), rv.2)))
  (loopU (r7every_b2 v2_0 v3_0 who rv) (outv, 0)))
  (ext (some (outv, 0)))
noncomputable def r7every (l : SlaveLine) : Option ((List SlaveStart) × Int) :=
  loopU (r7every_b1 l) (([] : List SlaveStart), 0, ([] : List SlaveStart), 0)
theorem r7every_ok {w0 : World} {D0 : Stab} (hD : D0.on w0) (l : SlaveLine) {p : Option Addr} {c : Nat} {p_1 : Option Addr} {c_1 : Nat} (hs : SRc C_SlaveStart D0 l.Starts p c) (hs_1 : SRc C_SlaveEvent D0 l.Events p_1 c_1) (out : ((List SlaveStart) × Int)) (h : r7every l = some out) : Calls Tryd.prog 76 [.agg #[.int .i64 l.Ring, .slice p l.Starts.length c, .slice p_1 l.Events.length c_1]].toArray w0 (RetS D0 w0 fun D v => ∃ p_8 c_8, v = .tuple #[.slice p_8 out.1.length c_8, .int .i64 out.2] ∧ SRc C_SlaveStart D out.1 p_8 c_8) := by
 refine enter _ 42 Tryd.func76 rfl Tryd.ntmps76 rfl fun a hF => ?_
 replace hF : Frm 42 [] [(0, .agg #[.int .i64 l.Ring, .slice p l.Starts.length c, .slice p_1 l.Events.length c_1])] a := hF
 have hS := St.start hD
 unfold r7every at h
 refine seq (region (O.box (cs := [.int .i64 l.Ring, .slice p l.Starts.length c, .slice p_1 l.Events.length c_1]) 1 hF rfl rfl hS rfl fun b a w hF hS => step hF (Y.assign hF rfl) rfl fun a hF => step hF (Y.assign hF rfl) rfl fun a hF => nil (then_n (seq (region (step hF (Y.assign hF rfl) rfl fun a hF => ?_))))))
 replace hS := hS.ownNil 2 57 2
 refine nil (then_n (seq (seq (region (step hF (Y.assign hF rfl) rfl fun a hF => nil (then_n (block (loop_cut (body := r7every_b1 l) (out := out) (fun s a w => ∃ (v2_0 : (List SlaveStart)) (v3_0 : Int) (outv : (List SlaveStart)) (who : Int), ∃ (Dv : Stab), ∃ p_2 c_2 p_3 c_3 cs, s = (v2_0, v3_0, outv, who) ∧ D0.le Dv ∧ Frm 42 [] [(1, .pointer (some ⟨b, 0, none⟩)), (2, .slice p_2 v2_0.length c_2), (3, .int .i64 v3_0), (4, .slice p_3 outv.length c_3), (5, .int .i64 who)] a ∧ St w0 D0 Dv [(1, .cells b [.int .i64 l.Ring, .slice p l.Starts.length c, .slice p_1 l.Events.length c_1] 25), (2, .own p_3 outv.length c_3 cs 57 2)] w ∧ SRc C_SlaveStart Dv v2_0 p_2 c_2 ∧ Reps C_SlaveStart Dv outv cs) (([] : List SlaveStart), 0, ([] : List SlaveStart), 0) h ⟨([] : List SlaveStart), 0, ([] : List SlaveStart), 0, D0, none, 0, none, 0, ([]), rfl, Stab.le.refl _, hF.weak ⟨rfl, rfl, rfl, rfl, rfl, trivial⟩, hS.weak ⟨rfl, rfl, trivial⟩, SRc.nil, Reps.nil⟩ ?_))))))))
 rintro s a w xo ⟨v2_0, v3_0, outv, who, Dv, p_2, c_2, p_3, c_3, cs, rfl, hlev, hF, hS, hs_2, hr⟩ h hxo
 unfold r7every_b1 at h
 dsimp only at h
 replace hs := hs.mono hlev
 replace hs_1 := hs_1.mono hlev
 refine seq (seq (region (step hF (Y.move hF rfl) rfl fun a hF => step hF (Y.fieldAddr fo_25_1 hF rfl) rfl fun a hF => step hF (Y.load1L 1 sz_22 hF rfl hS rfl rfl) rfl fun a hF => step hF (Y.lenSl u_22 hF rfl) rfl fun a hF => step hF (Y.lss hF rfl rfl) rfl fun a hF => nil (then_n (cond_b hF rfl (fun hbv => ?_) (fun hbv => ?_))))))
 ·replace h := cond_t h hbv
  refine skip_ (then_n (seq (block (seq (region (step hF (Y.loadNL 1 sz_25 hF rfl hS rfl rfl rfl) rfl fun a hF => step hF (Y.move hF rfl) rfl fun a hF => ?_))))))
  obtain ⟨rv, hx, h⟩ := bind_some h
  refine O.callS (us := [.agg #[.int .i64 l.Ring, .slice p l.Starts.length c, .slice p_1 l.Events.length c_1], .int .i64 who]) ca_58 hF hS (r7asked_ok hS.stab l who hs hs_1 rv hx) rfl rfl fun v Dv_1 a w hR hlev_1 hF hS => ?_
  replace hs_2 := hs_2.mono hlev_1
  replace hr := hr.mono hlev_1
  obtain ⟨p_4, c_4, rfl, hs_3⟩ := hR
  refine step hF (Y.move hF rfl) rfl fun a hF => step hF (Y.extract hF rfl rfl) rfl fun a hF => step hF (Y.extract hF rfl rfl) rfl fun a hF => step hF (Y.assign hF rfl) rfl fun a hF => step hF (Y.assign hF rfl) rfl fun a hF => nil (then_n (seq (seq (region (step hF (Y.move hF rfl) rfl fun a hF => step hF (Y.neq hF rfl rfl) rfl fun a hF => nil (then_n (cond_b hF rfl (fun hbv_1 => ?_) (fun hbv_1 => ?_))))))))
  ·replace h := cond_t h hbv_1
   refine seq (region (step hF (Y.move hF rfl) rfl fun a hF => step hF (Y.assign hF rfl) rfl fun a hF => step hF (Y.assign hF rfl) rfl fun a hF => nil (then_n (ret_ (then_r (blk_r (then_r (then_r (blk_r (then_r ?_))))))))))
   replace h := ext_some h hxo
   obtain rfl := some_inj h
   exact leaveS Tryd.results76 hF hS (.cons (.tmp rfl) (.cons (.tmp rfl) .nil)) .nil ⟨_, _, rfl, SRc.nil⟩
  replace h := cond_f h hbv_1
  refine skip_ (then_n (seq (region (step hF (Y.assign hF rfl) rfl fun a hF => nil (then_n (block (loop_cut (body := r7every_b2 v2_0 v3_0 who rv) (out := xo) (fun s a w => ∃ (outv_1 : (List SlaveStart)) (i : Int), ∃ p_5 c_5 cs_1, s = (outv_1, i) ∧ Frm 42 [] [(1, .pointer (some ⟨b, 0, none⟩)), (2, .slice p_2 v2_0.length c_2), (3, .int .i64 v3_0), (4, .slice p_5 outv_1.length c_5), (5, .int .i64 who), (6, .slice p_4 rv.1.length c_4), (8, .int .i64 i)] a ∧ St w0 D0 Dv_1 [(1, .cells b [.int .i64 l.Ring, .slice p l.Starts.length c, .slice p_1 l.Events.length c_1] 25), (2, .own p_5 outv_1.length c_5 cs_1 57 2)] w ∧ Reps C_SlaveStart Dv_1 outv_1 cs_1) (outv, 0) h ⟨outv, 0, p_3, c_3, cs, rfl, hF.weak ⟨rfl, rfl, rfl, rfl, rfl, rfl, rfl, trivial⟩, hS.weak ⟨rfl, rfl, trivial⟩, hr⟩ ?_)))))))
  rintro s a w xo_1 ⟨outv_1, i, p_5, c_5, cs_1, rfl, hF, hS, hr_1⟩ h hxo_1
  unfold r7every_b2 at h
  dsimp only at h
  refine seq (seq (region (step hF (Y.move hF rfl) rfl fun a hF => step hF (Y.move hF rfl) rfl fun a hF => step hF (Y.lenSl u_91 hF rfl) rfl fun a hF => step hF (Y.lss hF rfl rfl) rfl fun a hF => nil (then_n (cond_b hF rfl (fun hbv_2 => ?_) (fun hbv_2 => ?_))))))
  ·replace h := cond_t h hbv_2
   refine skip_ (then_n (seq (block (seq (region (step hF (Y.move hF rfl) rfl fun a hF => step hF (Y.move hF rfl) rfl fun a hF => ?_))))))
   obtain ⟨e, hx_1, h⟩ := bind_some h
   obtain ⟨b_1, o, hE, hY⟩ := Y.indexS (P := Tryd.prog) (C := C_remontoirref07_could) (xs := rv.1) (T := 91) (x := (.tmp 31)) (y := (.tmp 32)) u_91 sz_95 hF rfl rfl (hs_3).1 hx_1
   obtain ⟨cc, hc, hcell⟩ := hE.open
   obtain rfl := C_remontoirref07_could.open hc
   refine step hF (hY) rfl fun a hF => step hF (Y.fieldAddr fo_95_0 hF rfl) rfl fun a hF => step hF (Y.load1 sz_4 hF rfl (hcell _ hS.stab 0 _ rfl)) rfl fun a hF => nil (then_n (cond_b hF rfl (fun hbv_3 => ?_) (fun hbv_3 => ?_)))
   ·replace h := cond_t h hbv_3
    refine region (step hF (Y.move hF rfl) rfl fun a hF => step hF (Y.move hF rfl) rfl fun a hF => ?_)
    obtain ⟨rv_1, hx_2, h⟩ := bind_some h
    refine O.callP (us := [.int .i64 i]) ca_89 hF hS (r7stateOf_ok hS.stab i rv_1 hx_2) rfl rfl fun a w hF hS => ?_
    have hr_2 : Reps C_SlaveStart Dv_1 [rv_1] [.int .i64 rv_1.Shown, .int .i64 rv_1.Last] := Reps.cons (C := C_SlaveStart) (x := rv_1) (c := [.int .i64 rv_1.Shown, .int .i64 rv_1.Last]) (r := []) rfl (Reps.nil)
    refine O.buildSlice (E := 57) (C := C_SlaveStart) (xs := [rv_1]) (cs := [.int .i64 rv_1.Shown, .int .i64 rv_1.Last]) (us := [.agg #[.int .i64 rv_1.Shown, .int .i64 rv_1.Last]]) (parts := [(0, (.tmp 38))]) 3 hF hS rfl (by kernel_rfl) hr_2 rfl rfl rfl fun p_6 c_6 a w hF hS => ?_
    obtain ⟨hg, h⟩ := ite_some h
    refine O.append (C := C_SlaveStart) (xs := outv_1) (ys := [rv_1]) 2 gr_22 hF rfl rfl hS rfl (src_own (i := 3) hS rfl) hr_1 hr_2 hg rfl fun p_7 c_7 a w hF hS hr_3 => step hF (Y.assign hF rfl) rfl fun a hF => nil (blk_n (then_n (region (step hF (Y.move hF rfl) rfl fun a hF => step hF (Y.add hF rfl rfl) rfl fun a hF => step hF (Y.assign hF rfl) rfl fun a hF => nil (then_n (⟨_, nxt_some h, (outv_1 ++ [rv_1]), (wr (i + 1)), p_7, c_7, (cs_1 ++ [.int .i64 rv_1.Shown, .int .i64 rv_1.Last]), rfl, hF.weak ⟨rfl, rfl, rfl, rfl, rfl, rfl, rfl, trivial⟩, hS.weak ⟨rfl, rfl, trivial⟩, hr_3⟩))))))
   replace h := cond_f h hbv_3
   refine skip_ (blk_n (then_n (region (step hF (Y.move hF rfl) rfl fun a hF => step hF (Y.add hF rfl rfl) rfl fun a hF => step hF (Y.assign hF rfl) rfl fun a hF => nil (then_n (⟨_, nxt_some h, outv_1, (wr (i + 1)), p_5, c_5, cs_1, rfl, hF.weak ⟨rfl, rfl, rfl, rfl, rfl, rfl, rfl, trivial⟩, hS.weak ⟨rfl, rfl, trivial⟩, hr_1⟩))))))
  replace h := cond_f h hbv_2
  refine exit_ (then_x (then_x (blk_hit (blk_n (then_n ?_)))))
  replace h := ext_some h hxo_1
  refine region (step hF (Y.move hF rfl) rfl fun a hF => step hF (Y.add hF rfl rfl) rfl fun a hF => step hF (Y.assign hF rfl) rfl fun a hF => nil (then_n (⟨_, nxt_some h, v2_0, v3_0, outv_1, (wr (who + 1)), Dv_1, p_2, c_2, p_5, c_5, cs_1, rfl, hlev.trans hlev_1, hF.weak ⟨rfl, rfl, rfl, rfl, rfl, trivial⟩, hS.weak ⟨rfl, rfl, trivial⟩, hs_2, hr_1⟩)))
 replace h := cond_f h hbv
 refine exit_ (then_x (then_x (blk_hit (then_n ?_))))
 replace h := ext_some h hxo
 refine seq (region (step hF (Y.move hF rfl) rfl fun a hF => step hF (Y.assign hF rfl) rfl fun a hF => step hF (Y.assign hF rfl) rfl fun a hF => nil (then_n (ret_ ?_))))
 obtain ⟨Dv_2, hlev_2, hs_4, hS⟩ := hS.freezeC (i := 2) (xs := outv) rfl hr
 obtain rfl := some_inj h
 exact leaveS Tryd.results76 hF hS (.cons (.tmp rfl) (.cons (.tmp rfl) .nil)) .nil ⟨_, _, rfl, hs_4⟩
noncomputable def r7behind_k3 (l : SlaveLine) (z_2 : Int) (moves : Int) : Option Int :=
  if l.Ring ≠ 0 then
  some (Int.tmod (wr (z_2 + moves)) l.Ring)
  else none
noncomputable def r7behind_k2 (l : SlaveLine) (p_2 : SlavePlan) (z_1 : Int) (z_2 : Int) : Option Int :=
  cond ((z_1 == p_2.First) && (decide (p_2.Send > 0)))
  (r7behind_k3 l z_2 (wr (p_2.Send - 1)))
  (r7behind_k3 l z_2 p_2.Send)
noncomputable def r7behind_k1 (l : SlaveLine) (p_2 : SlavePlan) (z : Int) (z_1 : Int) : Option Int :=
  cond (decide (z > 0))
  (if l.Ring ≠ 0 then
  r7behind_k2 l p_2 z_1 (Int.tmod (if l.Ring < wr (z + p_2.Home) then l.Ring else wr (z + p_2.Home)) l.Ring)
  else none)
  (r7behind_k2 l p_2 z_1 z)
noncomputable def r7behind (l : SlaveLine) (sv : SlaveStart) (p_2 : SlavePlan) : Option Int :=
  cond (decide (p_2.Pre ≥ 0))
  ((r7got l sv (SlaveEvent.mk 0 p_2.Pre 0 0 0 0) 0).bind fun rv =>
  r7behind_k1 l p_2 rv.Shown rv.Last)
  (r7behind_k1 l p_2 sv.Shown sv.Last)
theorem r7behind_ok {w0 : World} {D0 : Stab} (hD : D0.on w0) (l : SlaveLine) (sv : SlaveStart) (p_2 : SlavePlan) {p : Option Addr} {c : Nat} {p_1 : Option Addr} {c_1 : Nat} (hs : SRc C_SlaveStart D0 l.Starts p c) (hs_1 : SRc C_SlaveEvent D0 l.Events p_1 c_1) (out : Int) (h : r7behind l sv p_2 = some out) : Calls Tryd.prog 92 [.agg #[.int .i64 l.Ring, .slice p l.Starts.length c, .slice p_1 l.Events.length c_1], .agg #[.int .i64 sv.Shown, .int .i64 sv.Last], .agg #[.int .i64 p_2.Pre, .int .i64 p_2.Home, .int .i64 p_2.First, .int .i64 p_2.Send]].toArray w0 (RetP D0 w0 (.int .i64 out)) := by
 refine enter _ 52 Tryd.func92 rfl Tryd.ntmps92 rfl fun a hF => ?_
 replace hF : Frm 52 [] [(0, .agg #[.int .i64 l.Ring, .slice p l.Starts.length c, .slice p_1 l.Events.length c_1]), (1, .agg #[.int .i64 sv.Shown, .int .i64 sv.Last]), (2, .agg #[.int .i64 p_2.Pre, .int .i64 p_2.Home, .int .i64 p_2.First, .int .i64 p_2.Send])] a := hF
 have hS := St.start hD
 unfold r7behind at h
 refine seq (region (O.box (cs := [.int .i64 l.Ring, .slice p l.Starts.length c, .slice p_1 l.Events.length c_1]) 1 hF rfl rfl hS rfl fun b a w hF hS => O.box (cs := [.int .i64 sv.Shown, .int .i64 sv.Last]) 2 hF rfl rfl hS rfl fun b_1 a w hF hS => O.box (cs := [.int .i64 p_2.Pre, .int .i64 p_2.Home, .int .i64 p_2.First, .int .i64 p_2.Send]) 3 hF rfl rfl hS rfl fun b_2 a w hF hS => step hF (Y.assign hF rfl) rfl fun a hF => nil (then_n (seq_cut (fun a w => ∃ (z : Int) (z_1 : Int), ∃ (Dv : Stab), D0.le Dv ∧ Frm 52 [] [(3, .pointer (some ⟨b, 0, none⟩)), (4, .pointer (some ⟨b_1, 0, none⟩)), (5, .pointer (some ⟨b_2, 0, none⟩)), (6, .int .i64 0)] a ∧ St w0 D0 Dv [(1, .cells b [.int .i64 l.Ring, .slice p l.Starts.length c, .slice p_1 l.Events.length c_1] 25), (2, .cells b_1 [.int .i64 z, .int .i64 z_1] 57), (3, .cells b_2 [.int .i64 p_2.Pre, .int .i64 p_2.Home, .int .i64 p_2.First, .int .i64 p_2.Send] 49)] w ∧ r7behind_k1 l p_2 z z_1 = some out) ?_ ?_))))
 ·skip
  refine seq (region (step hF (Y.fieldAddr fo_49_0 hF rfl) rfl fun a hF => step hF (Y.load1L 3 sz_3 hF rfl hS rfl rfl) rfl fun a hF => step hF (Y.geq hF rfl rfl) rfl fun a hF => nil (then_n (cond_b hF rfl (fun hbv_3 => ?_) (fun hbv_3 => ?_)))))
  ·replace h := cond_t h hbv_3
   refine region (step hF (Y.loadNL 1 sz_25 hF rfl hS rfl rfl rfl) rfl fun a hF => step hF (Y.loadNL 2 sz_57 hF rfl hS rfl rfl rfl) rfl fun a hF => step hF (Y.fieldAddr fo_49_0 hF rfl) rfl fun a hF => step hF (Y.load1L 3 sz_3 hF rfl hS rfl rfl) rfl fun a hF => step hF (Y.build (parts := [(0, (.const (.int .i64 0))), (1, (.tmp 14))]) (cs := #[.int .i64 0, .int .i64 p_2.Pre, .int .i64 0, .int .i64 0, .int .i64 0, .int .i64 0]) hF rfl (by kernel_rfl)) rfl fun a hF => ?_)
   obtain ⟨rv, hx, h⟩ := bind_some h
   refine O.callP (us := [.agg #[.int .i64 l.Ring, .slice p l.Starts.length c, .slice p_1 l.Events.length c_1], .agg #[.int .i64 sv.Shown, .int .i64 sv.Last], .agg #[.int .i64 0, .int .i64 p_2.Pre, .int .i64 0, .int .i64 0, .int .i64 0, .int .i64 0], .int .i64 0]) ca_67 hF hS (r7got_ok hS.stab l sv (SlaveEvent.mk 0 p_2.Pre 0 0 0 0) 0 hs hs_1 rv hx) rfl rfl fun a w hF hS => O.store (us := [.int .i64 rv.Shown, .int .i64 rv.Last]) 2 sz_57 hF rfl rfl rfl rfl hS rfl rfl fun a w hF hS => nil (then_n (⟨rv.Shown, rv.Last, D0, Stab.le.refl _, hF.weak ⟨rfl, rfl, rfl, rfl, trivial⟩, hS.weak ⟨rfl, rfl, rfl, trivial⟩, h⟩))
  replace h := cond_f h hbv_3
  refine skip_ (then_n (⟨sv.Shown, sv.Last, D0, Stab.le.refl _, hF.weak ⟨rfl, rfl, rfl, rfl, trivial⟩, hS.weak ⟨rfl, rfl, rfl, trivial⟩, h⟩))
 rintro a w ⟨z, z_1, Dv, hlev, hF, hS, h⟩
 unfold r7behind_k1 at h
 refine seq_cut (fun a w => ∃ (z_2 : Int), Frm 52 [] [(3, .pointer (some ⟨b, 0, none⟩)), (4, .pointer (some ⟨b_1, 0, none⟩)), (5, .pointer (some ⟨b_2, 0, none⟩)), (6, .int .i64 0)] a ∧ St w0 D0 Dv [(1, .cells b [.int .i64 l.Ring, .slice p l.Starts.length c, .slice p_1 l.Events.length c_1] 25), (2, .cells b_1 [.int .i64 z_2, .int .i64 z_1] 57), (3, .cells b_2 [.int .i64 p_2.Pre, .int .i64 p_2.Home, .int .i64 p_2.First, .int .i64 p_2.Send] 49)] w ∧ r7behind_k2 l p_2 z_1 z_2 = some out) ?_ ?_
 ·skip
  refine seq (region (step hF (Y.fieldAddr fo_57_0 hF rfl) rfl fun a hF => step hF (Y.load1L 2 sz_3 hF rfl hS rfl rfl) rfl fun a hF => step hF (Y.gtr hF rfl rfl) rfl fun a hF => nil (then_n (cond_b hF rfl (fun hbv_2 => ?_) (fun hbv_2 => ?_)))))
  ·replace h := cond_t h hbv_2
   refine region (step hF (Y.fieldAddr fo_57_0 hF rfl) rfl fun a hF => step hF (Y.load1L 2 sz_3 hF rfl hS rfl rfl) rfl fun a hF => step hF (Y.fieldAddr fo_49_1 hF rfl) rfl fun a hF => step hF (Y.load1L 3 sz_3 hF rfl hS rfl rfl) rfl fun a hF => step hF (Y.add hF rfl rfl) rfl fun a hF => step hF (Y.fieldAddr fo_25_0 hF rfl) rfl fun a hF => step hF (Y.load1L 1 sz_3 hF rfl hS rfl rfl) rfl fun a hF => step hF (Y.min2 hF rfl rfl) rfl fun a hF => step hF (Y.fieldAddr fo_25_0 hF rfl) rfl fun a hF => step hF (Y.load1L 1 sz_3 hF rfl hS rfl rfl) rfl fun a hF => ?_)
   obtain ⟨hg_1, h⟩ := ite_some h
   refine step hF (Y.rem hF rfl rfl hg_1) rfl fun a hF => step hF (Y.fieldAddr fo_57_0 hF rfl) rfl fun a hF => O.store (us := [.int .i64 (Int.tmod (if l.Ring < wr (z + p_2.Home) then l.Ring else wr (z + p_2.Home)) l.Ring)]) 2 sz_3 hF rfl rfl rfl rfl hS rfl rfl fun a w hF hS => nil (then_n (⟨(Int.tmod (if l.Ring < wr (z + p_2.Home) then l.Ring else wr (z + p_2.Home)) l.Ring), hF.weak ⟨rfl, rfl, rfl, rfl, trivial⟩, hS.weak ⟨rfl, rfl, rfl, trivial⟩, h⟩))
  replace h := cond_f h hbv_2
  refine skip_ (then_n (⟨z, hF.weak ⟨rfl, rfl, rfl, rfl, trivial⟩, hS.weak ⟨rfl, rfl, rfl, trivial⟩, h⟩))
 rintro a w ⟨z_2, hF, hS, h⟩
 unfold r7behind_k2 at h
 refine seq (region (step hF (Y.fieldAddr fo_49_3 hF rfl) rfl fun a hF => step hF (Y.load1L 3 sz_3 hF rfl hS rfl rfl) rfl fun a hF => step hF (Y.assign hF rfl) rfl fun a hF => nil (then_n (seq_cut (fun a w => ∃ (moves : Int), Frm 52 [] [(3, .pointer (some ⟨b, 0, none⟩)), (4, .pointer (some ⟨b_1, 0, none⟩)), (6, .int .i64 0), (7, .int .i64 moves)] a ∧ St w0 D0 Dv [(1, .cells b [.int .i64 l.Ring, .slice p l.Starts.length c, .slice p_1 l.Events.length c_1] 25), (2, .cells b_1 [.int .i64 z_2, .int .i64 z_1] 57), (3, .cells b_2 [.int .i64 p_2.Pre, .int .i64 p_2.Home, .int .i64 p_2.First, .int .i64 p_2.Send] 49)] w ∧ r7behind_k3 l z_2 moves = some out) ?_ ?_))))
 ·skip
  refine seq (region (step hF (Y.fieldAddr fo_57_1 hF rfl) rfl fun a hF => step hF (Y.load1L 2 sz_3 hF rfl hS rfl rfl) rfl fun a hF => step hF (Y.fieldAddr fo_49_2 hF rfl) rfl fun a hF => step hF (Y.load1L 3 sz_3 hF rfl hS rfl rfl) rfl fun a hF => step hF (Y.eql hF rfl rfl) rfl fun a hF => step hF (Y.move hF rfl) rfl fun a hF => join (N := 52) (rs := []) (w0 := w0) (D0 := D0) 3 (us := [(3, .pointer (some ⟨b, 0, none⟩)), (4, .pointer (some ⟨b_1, 0, none⟩)), (6, .int .i64 0), (7, .int .i64 p_2.Send), (42, .bool ((z_1 == p_2.First) && (decide (p_2.Send > 0))))]) (ms := [(1, .cells b [.int .i64 l.Ring, .slice p l.Starts.length c, .slice p_1 l.Events.length c_1] 25), (2, .cells b_1 [.int .i64 z_2, .int .i64 z_1] 57), (3, .cells b_2 [.int .i64 p_2.Pre, .int .i64 p_2.Home, .int .i64 p_2.First, .int .i64 p_2.Send] 49)]) (D' := Dv) ?_ ?_))
  ·rcases bcases (z_1 == p_2.First) with hbv | hbv
   ·skip
    refine guard_on hF rfl rfl hbv (step hF (Y.move hF rfl) rfl fun a hF => guard_on hF rfl rfl hbv (step hF (Y.gtr hF rfl rfl) rfl fun a hF => step hF (Y.pick_t hF rfl hbv rfl) rfl fun a hF => nil (then_n ⟨hF.weak ⟨rfl, rfl, rfl, rfl, (by rw [hbv]; rfl), trivial⟩, hS.weak ⟨rfl, rfl, rfl, trivial⟩⟩)))
   refine guard_off hF rfl rfl hbv rfl fun a hF => guard_off hF rfl rfl hbv rfl fun a hF => step hF (Y.pick_f hF rfl hbv rfl) rfl fun a hF => nil (then_n ⟨hF.weak ⟨rfl, rfl, rfl, rfl, (by rw [hbv]; rfl), trivial⟩, hS.weak ⟨rfl, rfl, rfl, trivial⟩⟩)
  intro a w hF hS
  refine nil (then_n (cond_b hF rfl (fun hbv_1 => ?_) (fun hbv_1 => ?_)))
  ·replace h := cond_t h hbv_1
   refine region (step hF (Y.move hF rfl) rfl fun a hF => step hF (Y.sub hF rfl rfl) rfl fun a hF => step hF (Y.assign hF rfl) rfl fun a hF => nil (then_n (⟨(wr (p_2.Send - 1)), hF.weak ⟨rfl, rfl, rfl, rfl, trivial⟩, hS.weak ⟨rfl, rfl, rfl, trivial⟩, h⟩)))
  replace h := cond_f h hbv_1
  refine skip_ (then_n (⟨p_2.Send, hF.weak ⟨rfl, rfl, rfl, rfl, trivial⟩, hS.weak ⟨rfl, rfl, rfl, trivial⟩, h⟩))
 rintro a w ⟨moves, hF, hS, h⟩
 unfold r7behind_k3 at h
 refine seq (region (step hF (Y.fieldAddr fo_57_0 hF rfl) rfl fun a hF => step hF (Y.load1L 2 sz_3 hF rfl hS rfl rfl) rfl fun a hF => step hF (Y.move hF rfl) rfl fun a hF => step hF (Y.add hF rfl rfl) rfl fun a hF => step hF (Y.fieldAddr fo_25_0 hF rfl) rfl fun a hF => step hF (Y.load1L 1 sz_3 hF rfl hS rfl rfl) rfl fun a hF => ?_))
 obtain ⟨hg, h⟩ := ite_some h
 refine step hF (Y.rem hF rfl rfl hg) rfl fun a hF => step hF (Y.assign hF rfl) rfl fun a hF => nil (then_n (ret_ ?_))
 obtain rfl := some_inj h
 exact leaveP Tryd.results92 hF hS (.cons (.tmp rfl) .nil) .nil rfl
noncomputable def r7sets_b1 (l : SlaveLine) (states : (List SlaveStart)) (minute : Int) (p_3 : SlavePlan) : (Bool × Int) → Option ((Bool × Int) ⊕ Bool)
 | (v8_0, i) =>
  cond (decide (i < (states.length : Int)))
  ((idx states i).bind fun e =>
  (r7behind l e p_3).bind fun rv =>
  cond (rv != minute)
  (ext (some false))
  (nxt (v8_0, wr (i + 1))))
  (ext (some true))
noncomputable def r7sets (l : SlaveLine) (states : (List SlaveStart)) (minute : Int) (p_3 : SlavePlan) : Option Bool :=
  loopU (r7sets_b1 l states minute p_3) (false, 0)
theorem r7sets_ok {w0 : World} {D0 : Stab} (hD : D0.on w0) (l : SlaveLine) (states : (List SlaveStart)) (minute : Int) (p_3 : SlavePlan) {p : Option Addr} {c : Nat} {p_1 : Option Addr} {c_1 : Nat} {p_2 : Option Addr} {c_2 : Nat} (hs : SRc C_SlaveStart D0 l.Starts p c) (hs_1 : SRc C_SlaveEvent D0 l.Events p_1 c_1) (hs_2 : SRc C_SlaveStart D0 states p_2 c_2) (out : Bool) (h : r7sets l states minute p_3 = some out) : Calls Tryd.prog 78 [.agg #[.int .i64 l.Ring, .slice p l.Starts.length c, .slice p_1 l.Events.length c_1], .slice p_2 states.length c_2, .int .i64 minute, .agg #[.int .i64 p_3.Pre, .int .i64 p_3.Home, .int .i64 p_3.First, .int .i64 p_3.Send]].toArray w0 (RetP D0 w0 (.bool out)) := by
 refine enter _ 25 Tryd.func78 rfl Tryd.ntmps78 rfl fun a hF => ?_
 replace hF : Frm 25 [] [(0, .agg #[.int .i64 l.Ring, .slice p l.Starts.length c, .slice p_1 l.Events.length c_1]), (1, .slice p_2 states.length c_2), (2, .int .i64 minute), (3, .agg #[.int .i64 p_3.Pre, .int .i64 p_3.Home, .int .i64 p_3.First, .int .i64 p_3.Send])] a := hF
 have hS := St.start hD
 unfold r7sets at h
 refine seq (region (O.box (cs := [.int .i64 l.Ring, .slice p l.Starts.length c, .slice p_1 l.Events.length c_1]) 1 hF rfl rfl hS rfl fun b a w hF hS => O.box (cs := [.int .i64 p_3.Pre, .int .i64 p_3.Home, .int .i64 p_3.First, .int .i64 p_3.Send]) 2 hF rfl rfl hS rfl fun b_1 a w hF hS => step hF (Y.assign hF rfl) rfl fun a hF => nil (then_n (seq (seq (region (step hF (Y.assign hF rfl) rfl fun a hF => nil (then_n (block (loop_cut (body := r7sets_b1 l states minute p_3) (out := out) (fun s a w => ∃ (v8_0 : Bool) (i : Int), ∃ (Dv : Stab), s = (v8_0, i) ∧ D0.le Dv ∧ Frm 25 [] [(1, .slice p_2 states.length c_2), (2, .int .i64 minute), (4, .pointer (some ⟨b, 0, none⟩)), (7, .pointer (some ⟨b_1, 0, none⟩)), (8, .bool v8_0), (9, .int .i64 i)] a ∧ St w0 D0 Dv [(1, .cells b [.int .i64 l.Ring, .slice p l.Starts.length c, .slice p_1 l.Events.length c_1] 25), (2, .cells b_1 [.int .i64 p_3.Pre, .int .i64 p_3.Home, .int .i64 p_3.First, .int .i64 p_3.Send] 49)] w) (false, 0) h ⟨false, 0, D0, rfl, Stab.le.refl _, hF.weak ⟨rfl, rfl, rfl, rfl, rfl, rfl, trivial⟩, hS.weak ⟨rfl, rfl, trivial⟩⟩ ?_))))))))))
 rintro s a w xo ⟨v8_0, i, Dv, rfl, hlev, hF, hS⟩ h hxo
 unfold r7sets_b1 at h
 dsimp only at h
 replace hs := hs.mono hlev
 replace hs_1 := hs_1.mono hlev
 replace hs_2 := hs_2.mono hlev
 refine seq (seq (region (step hF (Y.move hF rfl) rfl fun a hF => step hF (Y.move hF rfl) rfl fun a hF => step hF (Y.lenSl u_22 hF rfl) rfl fun a hF => step hF (Y.lss hF rfl rfl) rfl fun a hF => nil (then_n (cond_b hF rfl (fun hbv => ?_) (fun hbv => ?_))))))
 ·replace h := cond_t h hbv
  refine skip_ (then_n (seq (block (seq ?_))))
  obtain ⟨e, hx, h⟩ := bind_some h
  obtain ⟨rv, hx_1, h⟩ := bind_some h
  refine drawsV 8 (.flt 0 (.flt 1 (.flt 2 (.flt 3 (.flt 4 (.flt 5 (.flt 7 (.alt 6 .done .stop)))))))) mixed_ (by kernel_rfl) (fun w => St w0 D0 Dv [(1, .cells b [.int .i64 l.Ring, .slice p l.Starts.length c, .slice p_1 l.Events.length c_1] 25), (2, .cells b_1 [.int .i64 p_3.Pre, .int .i64 p_3.Home, .int .i64 p_3.First, .int .i64 p_3.Send] 49)] w) (fun a w => Frm 25 [] [(1, .slice p_2 states.length c_2), (2, .int .i64 minute), (4, .pointer (some ⟨b, 0, none⟩)), (7, .pointer (some ⟨b_1, 0, none⟩)), (8, .bool v8_0), (9, .int .i64 i), (22, .int .i64 rv), (23, .int .i64 minute)] a ∧ St w0 D0 Dv [(1, .cells b [.int .i64 l.Ring, .slice p l.Starts.length c, .slice p_1 l.Events.length c_1] 25), (2, .cells b_1 [.int .i64 p_3.Pre, .int .i64 p_3.Home, .int .i64 p_3.First, .int .i64 p_3.Send] 49)] w) (hS.weak (ms := [(1, .cells b [.int .i64 l.Ring, .slice p l.Starts.length c, .slice p_1 l.Events.length c_1] 25), (2, .cells b_1 [.int .i64 p_3.Pre, .int .i64 p_3.Home, .int .i64 p_3.First, .int .i64 p_3.Send] 49)]) ⟨rfl, rfl, trivial⟩).drew (fun _ _ _ _ h => h) ?_ ?_
  ·replace hS := hS.drew
   have hle0 := hS.le
   refine stepV (i := 0) rfl hF (fun w hS => Y.loadNL 1 sz_25 hF rfl hS rfl rfl rfl) rfl fun a hF => stepV (i := 1) rfl hF (fun w hS => Y.move hF rfl) rfl fun a hF => stepV (i := 2) rfl hF (fun w hS => Y.move hF rfl) rfl fun a hF => ?_
   obtain ⟨b_3, o_1, hE_1, hY_1⟩ := Y.indexS (P := Tryd.prog) (C := C_SlaveStart) (xs := states) (T := 22) (x := (.tmp 17)) (y := (.tmp 18)) u_22 sz_57 hF rfl rfl (hs_2).1 hx
   obtain ⟨cc_1, hc_1, hcell_1⟩ := hE_1.open
   obtain rfl := C_SlaveStart.open hc_1
   refine stepV (i := 3) rfl hF (fun w hS => hY_1) rfl fun a hF => stepV (i := 4) rfl hF (fun w hS => Y.loadNE (o := o_1) (k := 0) sz_57 hF rfl (hcell_1 _ hS.stab) rfl rfl) rfl fun a hF => stepV (i := 5) rfl hF (fun w hS => Y.loadNL 2 sz_49 hF rfl hS rfl rfl rfl) rfl fun a hF => stepV (i := 7) rfl hF (fun w hS => Y.move hF rfl) rfl fun a hF => oneV (i := 6) rfl ?_ trivial
   refine O.callP (us := [.agg #[.int .i64 l.Ring, .slice p l.Starts.length c, .slice p_1 l.Events.length c_1], .agg #[.int .i64 e.Shown, .int .i64 e.Last], .agg #[.int .i64 p_3.Pre, .int .i64 p_3.Home, .int .i64 p_3.First, .int .i64 p_3.Send]]) ca_92 hF hS (r7behind_ok hS.stab l e p_3 hs hs_1 rv hx_1) rfl rfl fun a w hF hS => nil (then_n ⟨hS.weak ⟨rfl, rfl, trivial⟩, ?_⟩)
   exact toTailV ⟨hF.weak ⟨rfl, rfl, rfl, rfl, rfl, rfl, rfl, rfl, trivial⟩, hS.weak ⟨rfl, rfl, trivial⟩⟩
  rintro a w ⟨hF, hS⟩
  refine step hF (Y.neq hF rfl rfl) rfl fun a hF => nil (then_n (cond_b hF rfl (fun hbv_1 => ?_) (fun hbv_1 => ?_)))
  ·replace h := cond_t h hbv_1
   refine seq (region (step hF (Y.assign hF rfl) rfl fun a hF => nil (then_n (ret_ (blk_r (then_r (then_r (blk_r (then_r ?_)))))))))
   replace h := ext_some h hxo
   obtain rfl := some_inj h
   exact leaveP Tryd.results78 hF hS (.cons (.tmp rfl) .nil) .nil rfl
  replace h := cond_f h hbv_1
  refine skip_ (blk_n (then_n (region (step hF (Y.move hF rfl) rfl fun a hF => step hF (Y.add hF rfl rfl) rfl fun a hF => step hF (Y.assign hF rfl) rfl fun a hF => nil (then_n (⟨_, nxt_some h, v8_0, (wr (i + 1)), Dv, rfl, hlev, hF.weak ⟨rfl, rfl, rfl, rfl, rfl, rfl, trivial⟩, hS.weak ⟨rfl, rfl, trivial⟩⟩))))))
 replace h := cond_f h hbv
 refine exit_ (then_x (then_x (blk_hit (then_n ?_))))
 replace h := ext_some h hxo
 refine seq (region (step hF (Y.assign hF rfl) rfl fun a hF => nil (then_n (ret_ ?_))))
 obtain rfl := some_inj h
 exact leaveP Tryd.results78 hF hS (.cons (.tmp rfl) .nil) .nil rfl
end Go.Proofs.YtmbgmefmkjeahaaDoor.Rt
