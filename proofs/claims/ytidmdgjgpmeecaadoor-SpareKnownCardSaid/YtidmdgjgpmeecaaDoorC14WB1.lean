/- Walks of the functions of this seat: what each Go function comes to, as a Lean function, and the proof. Part WB1. Under no conditions. -/
import Derived.Test.YtidmdgjgpmeecaaDoorC14W0
set_option linter.unusedVariables false
set_option linter.unusedSimpArgs false
set_option maxRecDepth 100000
set_option maxHeartbeats 4000000
namespace Go.Proofs.YtidmdgjgpmeecaaDoor.Rt
open Go Go.RowKit
noncomputable def r0To (low : Int) (high : Int) : Option Span :=
  some (Span.mk low high)
theorem r0To_ok {w0 : World} {D0 : Stab} (hD : D0.on w0) (low : Int) (high : Int) (out : Span) (h : r0To low high = some out) : Calls Tryd.prog 39 [iv low, iv high].toArray w0 (RetP D0 w0 (.agg #[iv out.Low, iv out.High])) := by
 refine enter _ 8 Tryd.func39 rfl Tryd.ntmps39 rfl fun a hF => ?_
 replace hF : Frm 8 [] [(0, iv low), (1, iv high)] a := hF
 have hS := St.start hD
 unfold r0To at h
 refine seq (region (O.alloc 1 zc_50 hF hS rfl fun b a w hF hS => nT (seq (region (step hF (Y.move hF rfl) rfl fun a hF => step hF (Y.move hF rfl) rfl fun a hF => step hF (Y.build (parts := [(0, (.tmp 5)), (1, (.tmp 6))]) (cs := #[iv low, iv high]) hF rfl (by kernel_rfl)) rfl fun a hF => O.store (us := [iv low, iv high]) 1 sz_50 hF rfl rfl rfl rfl hS rfl rfl fun a w hF hS => nT (ret_ ?_))))))
 obtain rfl := some_inj h
 exact leaveP Tryd.results39 hF hS (.cons (.cellN 1 sz_50 rfl rfl rfl) .nil) .nil rfl
noncomputable def r0First_b1 (av : (List Int)) (b : (List Int)) : Int → Option (Int ⊕ Int)
 | i =>
  (cond ((decide (i < (av.length : Int))) && (decide (i < (b.length : Int)))) ((idx av i).bind fun e =>
  (idx b i).bind fun e_1 =>
  some (e == e_1)) (some false)).bind fun t =>
  cond t
  (nxt (wr (i + 1)))
  (ext (some i))
noncomputable def r0First (av : (List Int)) (b : (List Int)) : Option Int :=
  loopU (r0First_b1 av b) 0
theorem r0First_ok {w0 : World} {D0 : Stab} (hD : D0.on w0) (av : (List Int)) (b : (List Int)) {p : Option Addr} {c : Nat} {p_1 : Option Addr} {c_1 : Nat} (hs : SRc C_int D0 av p c) (hs_1 : SRc C_int D0 b p_1 c_1) (out : Int) (h : r0First av b = some out) : Calls Tryd.prog 64 [.slice p av.length c, .slice p_1 b.length c_1].toArray w0 (RetP D0 w0 (iv out)) := by
 refine enter _ 30 Tryd.func64 rfl Tryd.ntmps64 rfl fun a hF => ?_
 replace hF : Frm 30 [] [(0, .slice p av.length c), (1, .slice p_1 b.length c_1)] a := hF
 have hS := St.start hD
 unfold r0First at h
 refine seq (region (step hF (Y.assign hF rfl) rfl fun a hF => nT (seq (region (step hF (Y.assign hF rfl) rfl fun a hF => nT (seq (block (loop_cut (body := r0First_b1 av b) (out := out) (fun i a w => Frm 30 [] [(0, .slice p av.length c), (1, .slice p_1 b.length c_1), (4, iv 0), (5, iv i)] a ∧ St w0 D0 D0 [] w) 0 h ⟨hF.weak (AF rfl), hS.weak trivial⟩ ?_))))))))
 rintro i a w xo ⟨hF, hS⟩ h hxo
 unfold r0First_b1 at h
 dsimp only at h
 refine seq (seq (draws 21 [(0, true), (1, true), (2, true), (3, true), (4, true), (5, true), (6, true), (7, true), (8, true), (9, true), (10, true), (11, true), (12, true), (13, true), (14, true), (15, true), (16, true), (17, true), (18, true), (19, true), (20, true)] mixed_ (by kernel_rfl) (fun w => St w0 D0 D0 _ w) hS.drew (fun _ _ _ _ h => h) ?_))
 replace hS := hS.drew
 refine stepT (i := 0) rfl hF (fun w hS => Y.move hF rfl) rfl fun a hF => stepT (i := 1) rfl hF (fun w hS => Y.move hF rfl) rfl fun a hF => stepT (i := 2) rfl hF (fun w hS => Y.lenSl u_39 hF rfl) rfl fun a hF => stepT (i := 3) rfl hF (fun w hS => Y.lss hF rfl rfl) rfl fun a hF => stepT (i := 4) rfl hF (fun w hS => Y.move hF rfl) rfl fun a hF => joinT (N := 30) (rs := []) (w0 := w0) (D0 := D0) 5 (us := [(0, .slice p av.length c), (1, .slice p_1 b.length c_1), (4, iv 0), (5, iv i), (15, .bool ((decide (i < (av.length : Int))) && (decide (i < (b.length : Int)))))]) (ms := []) (D' := D0) ?_ ?_
 ·rcases bcases (decide (i < (av.length : Int))) with hbv | hbv
  ·skip
   refine stepT_on (i := 5) rfl hF rfl rfl hbv (fun w hS => Y.move hF rfl) rfl fun a hF => stepT_on (i := 6) rfl hF rfl rfl hbv (fun w hS => Y.move hF rfl) rfl fun a hF => stepT_on (i := 7) rfl hF rfl rfl hbv (fun w hS => Y.lenSl u_39 hF rfl) rfl fun a hF => stepT_on (i := 8) rfl hF rfl rfl hbv (fun w hS => Y.lss hF rfl rfl) rfl fun a hF => stepT (i := 9) rfl hF (fun w hS => Y.pick_t hF rfl hbv rfl) rfl fun a hF => toTail ⟨hF.weak ⟨rfl, rfl, rfl, rfl, (by rw [hbv]; rfl), trivial⟩, hS.weak trivial⟩
  refine stepT_off (i := 5) rfl hF rfl rfl hbv rfl fun a hF => stepT_off (i := 6) rfl hF rfl rfl hbv rfl fun a hF => stepT_off (i := 7) rfl hF rfl rfl hbv rfl fun a hF => stepT_off (i := 8) rfl hF rfl rfl hbv rfl fun a hF => stepT (i := 9) rfl hF (fun w hS => Y.pick_f hF rfl hbv rfl) rfl fun a hF => toTail ⟨hF.weak ⟨rfl, rfl, rfl, rfl, (by rw [hbv]; rfl), trivial⟩, hS.weak trivial⟩
 intro a w hF hS
 refine stepT (i := 10) rfl hF (fun w hS => Y.move hF rfl) rfl fun a hF => ?_
 obtain ⟨t, ht, h⟩ := bind_some h
 refine joinT (N := 30) (rs := []) (w0 := w0) (D0 := D0) 10 (us := [(0, .slice p av.length c), (1, .slice p_1 b.length c_1), (4, iv 0), (5, iv i), (26, .bool t)]) (ms := []) (D' := D0) ?_ ?_
 ·rcases bcases ((decide (i < (av.length : Int))) && (decide (i < (b.length : Int)))) with hbv_1 | hbv_1
  ·skip
   replace h := cond_t ht hbv_1
   refine stepT_on (i := 11) rfl hF rfl rfl hbv_1 (fun w hS => Y.move hF rfl) rfl fun a hF => stepT_on (i := 12) rfl hF rfl rfl hbv_1 (fun w hS => Y.move hF rfl) rfl fun a hF => ?_
   obtain ⟨e, hx, h⟩ := bind_some h
   obtain ⟨b_1, o, hE, hY⟩ := Y.indexS (P := Tryd.prog) (C := C_int) (xs := av) (T := 39) (x := (.tmp 17)) (y := (.tmp 18)) u_39 sz_3 hF rfl rfl (hs).1 hx
   obtain ⟨cc, hc, hcell⟩ := hE.open
   obtain rfl := hc
   refine stepT_on (i := 13) rfl hF rfl rfl hbv_1 (fun w hS => hY) rfl fun a hF => stepT_on (i := 14) rfl hF rfl rfl hbv_1 (fun w hS => Y.load1 sz_3 hF rfl (hcell _ hS.stab 0 _ rfl)) rfl fun a hF => stepT_on (i := 15) rfl hF rfl rfl hbv_1 (fun w hS => Y.move hF rfl) rfl fun a hF => stepT_on (i := 16) rfl hF rfl rfl hbv_1 (fun w hS => Y.move hF rfl) rfl fun a hF => ?_
   obtain ⟨e_1, hx_1, h⟩ := bind_some h
   obtain ⟨b_2, o_1, hE_1, hY_1⟩ := Y.indexS (P := Tryd.prog) (C := C_int) (xs := b) (T := 39) (x := (.tmp 21)) (y := (.tmp 22)) u_39 sz_3 hF rfl rfl (hs_1).1 hx_1
   obtain ⟨cc_1, hc_1, hcell_1⟩ := hE_1.open
   obtain rfl := hc_1
   refine stepT_on (i := 17) rfl hF rfl rfl hbv_1 (fun w hS => hY_1) rfl fun a hF => stepT_on (i := 18) rfl hF rfl rfl hbv_1 (fun w hS => Y.load1 sz_3 hF rfl (hcell_1 _ hS.stab 0 _ rfl)) rfl fun a hF => stepT_on (i := 19) rfl hF rfl rfl hbv_1 (fun w hS => Y.eql hF rfl rfl) rfl fun a hF => stepT (i := 20) rfl hF (fun w hS => Y.pick_t hF rfl hbv_1 rfl) rfl fun a hF => ?_
   obtain rfl := some_inj h
   exact toTail ⟨hF.weak (AF rfl), hS.weak trivial⟩
  replace h := cond_f ht hbv_1
  refine stepT_off (i := 11) rfl hF rfl rfl hbv_1 rfl fun a hF => stepT_off (i := 12) rfl hF rfl rfl hbv_1 rfl fun a hF => stepT_off (i := 13) rfl hF rfl rfl hbv_1 rfl fun a hF => stepT_off (i := 14) rfl hF rfl rfl hbv_1 rfl fun a hF => stepT_off (i := 15) rfl hF rfl rfl hbv_1 rfl fun a hF => stepT_off (i := 16) rfl hF rfl rfl hbv_1 rfl fun a hF => stepT_off (i := 17) rfl hF rfl rfl hbv_1 rfl fun a hF => stepT_off (i := 18) rfl hF rfl rfl hbv_1 rfl fun a hF => stepT_off (i := 19) rfl hF rfl rfl hbv_1 rfl fun a hF => stepT (i := 20) rfl hF (fun w hS => Y.pick_f hF rfl hbv_1 rfl) rfl fun a hF => ?_
  obtain rfl := some_inj h
  exact toTail ⟨hF.weak (AF rfl), hS.weak trivial⟩
 intro a w hF hS
 refine toTail (nT (cond_b hF rfl (fun hbv_2 => ?_) (fun hbv_2 => ?_)))
 ·replace h := cond_t h hbv_2
  refine skip_ (then_n (block (region (step hF (Y.move hF rfl) rfl fun a hF => step hF (Y.add hF rfl rfl) rfl fun a hF => step hF (Y.assign hF rfl) rfl fun a hF => nil (blk_n (then_n (⟨_, nxt_some h, hF.weak (AF rfl), hS.weak trivial⟩)))))))
 replace h := cond_f h hbv_2
 refine exit_ (then_x (then_x (blk_hit (then_n ?_))))
 replace h := ext_some h hxo
 refine seq (region (step hF (Y.move hF rfl) rfl fun a hF => step hF (Y.assign hF rfl) rfl fun a hF => nT (ret_ ?_)))
 obtain rfl := some_inj h
 exact leaveP Tryd.results64 hF hS (.cons (.tmp rfl) .nil) .nil rfl
noncomputable def r0Alike (av : (List Int)) (b : (List Int)) : Option Bool :=
  (cond ((av.length : Int) == (b.length : Int)) ((r0First av b).bind fun rv =>
  some (rv == (av.length : Int))) (some false)).bind fun t =>
  some t
theorem r0Alike_ok {w0 : World} {D0 : Stab} (hD : D0.on w0) (av : (List Int)) (b : (List Int)) {p : Option Addr} {c : Nat} {p_1 : Option Addr} {c_1 : Nat} (hs : SRc C_int D0 av p c) (hs_1 : SRc C_int D0 b p_1 c_1) (out : Bool) (h : r0Alike av b = some out) : Calls Tryd.prog 29 [.slice p av.length c, .slice p_1 b.length c_1].toArray w0 (RetP D0 w0 (.bool out)) := by
 refine enter _ 18 Tryd.func29 rfl Tryd.ntmps29 rfl fun a hF => ?_
 replace hF : Frm 18 [] [(0, .slice p av.length c), (1, .slice p_1 b.length c_1)] a := hF
 have hS := St.start hD
 unfold r0Alike at h
 refine seq (region (step hF (Y.assign hF rfl) rfl fun a hF => nT (seq (region (step hF (Y.move hF rfl) rfl fun a hF => step hF (Y.lenSl u_39 hF rfl) rfl fun a hF => step hF (Y.move hF rfl) rfl fun a hF => step hF (Y.lenSl u_39 hF rfl) rfl fun a hF => step hF (Y.eql hF rfl rfl) rfl fun a hF => step hF (Y.move hF rfl) rfl fun a hF => ?_)))))
 obtain ⟨t, ht, h⟩ := bind_some h
 refine join (N := 18) (rs := []) (w0 := w0) (D0 := D0) 7 (us := [(4, .bool false), (17, .bool t)]) (ms := []) (D' := D0) ?_ ?_
 ·rcases bcases ((av.length : Int) == (b.length : Int)) with hbv | hbv
  ·skip
   replace h := cond_t ht hbv
   refine guard_on hF rfl rfl hbv (step hF (Y.move hF rfl) rfl fun a hF => guard_on hF rfl rfl hbv (step hF (Y.move hF rfl) rfl fun a hF => guard_on hF rfl rfl hbv ?_))
   obtain ⟨rv, hx, h⟩ := bind_some h
   refine O.callP (us := [.slice p av.length c, .slice p_1 b.length c_1]) ca_64 hF hS (r0First_ok hS.stab av b hs hs_1 rv hx) rfl rfl fun a w hF hS => guard_on hF rfl rfl hbv (step hF (Y.move hF rfl) rfl fun a hF => guard_on hF rfl rfl hbv (step hF (Y.lenSl u_39 hF rfl) rfl fun a hF => guard_on hF rfl rfl hbv (step hF (Y.eql hF rfl rfl) rfl fun a hF => step hF (Y.pick_t hF rfl hbv rfl) rfl fun a hF => ?_)))
   obtain rfl := some_inj h
   exact nT ⟨hF.weak ⟨rfl, rfl, trivial⟩, hS.weak trivial⟩
  replace h := cond_f ht hbv
  refine guard_off hF rfl rfl hbv rfl fun a hF => guard_off hF rfl rfl hbv rfl fun a hF => guard_off hF rfl rfl hbv rfl fun a hF => guard_off hF rfl rfl hbv rfl fun a hF => guard_off hF rfl rfl hbv rfl fun a hF => guard_off hF rfl rfl hbv rfl fun a hF => step hF (Y.pick_f hF rfl hbv rfl) rfl fun a hF => ?_
  obtain rfl := some_inj h
  exact nT ⟨hF.weak ⟨rfl, rfl, trivial⟩, hS.weak trivial⟩
 intro a w hF hS
 refine step hF (Y.assign hF rfl) rfl fun a hF => nT (ret_ ?_)
 obtain rfl := some_inj h
 exact leaveP Tryd.results29 hF hS (.cons (.tmp rfl) .nil) .nil rfl
noncomputable def spare_lies (n : Int) (least : Int) (most : Int) : Option Bool :=
  some ((decide (least ≤ n)) && (decide (n ≤ most)))
theorem spare_lies_ok {w0 : World} {D0 : Stab} (hD : D0.on w0) (n : Int) (least : Int) (most : Int) (out : Bool) (h : spare_lies n least most = some out) : Calls Tryd.prog 48 [iv n, iv least, iv most].toArray w0 (RetP D0 w0 (.bool out)) := by
 refine enter _ 15 Tryd.func48 rfl Tryd.ntmps48 rfl fun a hF => ?_
 replace hF : Frm 15 [] [(0, iv n), (1, iv least), (2, iv most)] a := hF
 have hS := St.start hD
 unfold spare_lies at h
 refine seq (region (step hF (Y.assign hF rfl) rfl fun a hF => nT (seq (region (step hF (Y.move hF rfl) rfl fun a hF => step hF (Y.move hF rfl) rfl fun a hF => step hF (Y.leq hF rfl rfl) rfl fun a hF => step hF (Y.move hF rfl) rfl fun a hF => join (N := 15) (rs := []) (w0 := w0) (D0 := D0) 4 (us := [(6, .bool false), (14, .bool ((decide (least ≤ n)) && (decide (n ≤ most))))]) (ms := []) (D' := D0) ?_ ?_)))))
 ·rcases bcases (decide (least ≤ n)) with hbv | hbv
  ·skip
   refine guard_on hF rfl rfl hbv (step hF (Y.move hF rfl) rfl fun a hF => guard_on hF rfl rfl hbv (step hF (Y.move hF rfl) rfl fun a hF => guard_on hF rfl rfl hbv (step hF (Y.leq hF rfl rfl) rfl fun a hF => step hF (Y.pick_t hF rfl hbv rfl) rfl fun a hF => nT ⟨hF.weak ⟨rfl, (by rw [hbv]; rfl), trivial⟩, hS.weak trivial⟩)))
  refine guard_off hF rfl rfl hbv rfl fun a hF => guard_off hF rfl rfl hbv rfl fun a hF => guard_off hF rfl rfl hbv rfl fun a hF => step hF (Y.pick_f hF rfl hbv rfl) rfl fun a hF => nT ⟨hF.weak ⟨rfl, (by rw [hbv]; rfl), trivial⟩, hS.weak trivial⟩
 intro a w hF hS
 refine step hF (Y.assign hF rfl) rfl fun a hF => nT (ret_ ?_)
 obtain rfl := some_inj h
 exact leaveP Tryd.results48 hF hS (.cons (.tmp rfl) .nil) .nil rfl
noncomputable def spare_Check_b1 (sv : SpareStore) : (Bool × Int) → Option ((Bool × Int) ⊕ Int)
 | (ok, v23_0) =>
  cond (decide (v23_0 < (sv.Machines.length : Int)))
  ((idx sv.Machines v23_0).bind fun e =>
  (cond ok ((spare_lies e.From (-500) 500).bind fun rv_3 =>
  some rv_3) (some false)).bind fun t_2 =>
  (cond t_2 ((spare_lies e.Warm 0 500).bind fun rv_4 =>
  some rv_4) (some false)).bind fun t_3 =>
  (cond (((t_3 && (decide (0 ≤ e.Life.Low))) && (decide (e.Life.Low ≤ e.Life.High))) && (decide (e.Life.High ≤ 500))) ((spare_lies e.Drift 0 100).bind fun rv_5 =>
  some rv_5) (some false)).bind fun t_4 =>
  nxt (t_4, wr (v23_0 + 1)))
  (ext (cond (!ok)
  (some 80)
  (some 0)))
noncomputable def spare_Check (sv : SpareStore) : Option Int :=
  (spare_lies sv.Hours 1 500).bind fun rv =>
  (cond rv ((spare_lies sv.Gap 0 1000).bind fun rv_1 =>
  some rv_1) (some false)).bind fun t =>
  (cond t ((spare_lies (sv.Machines.length : Int) 1 8).bind fun rv_2 =>
  some rv_2) (some false)).bind fun t_1 =>
  loopU (spare_Check_b1 sv) (t_1, 0)
theorem spare_Check_ok {w0 : World} {D0 : Stab} (hD : D0.on w0) (sv : SpareStore) {p : Option Addr} {c : Nat} (hs : SRc C_SpareMachine D0 sv.Machines p c) (out : Int) (h : spare_Check sv = some out) : Calls Tryd.prog 17 [.agg #[iv sv.Hours, iv sv.Gap, .slice p sv.Machines.length c]].toArray w0 (RetP D0 w0 (iv out)) := by
 refine enter _ 67 Tryd.func17 rfl Tryd.ntmps17 rfl fun a hF => ?_
 replace hF : Frm 67 [] [(0, .agg #[iv sv.Hours, iv sv.Gap, .slice p sv.Machines.length c])] a := hF
 have hS := St.start hD
 unfold spare_Check at h
 refine seq (region (O.box (cs := [iv sv.Hours, iv sv.Gap, .slice p sv.Machines.length c]) 1 hF rfl rfl hS rfl fun b a w hF hS => step hF (Y.assign hF rfl) rfl fun a hF => nT (seq (region (step hF (Y.fieldAddr fo_24_0 hF rfl) rfl fun a hF => step hF (Y.load1L 1 sz_3 hF rfl hS rfl rfl) rfl fun a hF => ?_)))))
 obtain ⟨rv, hx, h⟩ := bind_some h
 refine O.callP (us := [iv sv.Hours, iv 1, iv 500]) ca_48 hF hS (spare_lies_ok hS.stab sv.Hours 1 500 rv hx) rfl rfl fun a w hF hS => step hF (Y.move hF rfl) rfl fun a hF => ?_
 obtain ⟨t, ht, h⟩ := bind_some h
 refine join (N := 67) (rs := []) (w0 := w0) (D0 := D0) 4 (us := [(1, .pointer (some ⟨b, 0, none⟩)), (2, iv 0), (13, .bool t)]) (ms := [(1, .cells b [iv sv.Hours, iv sv.Gap, .slice p sv.Machines.length c] 24)]) (D' := D0) ?_ ?_
 ·rcases bcases rv with hbv | hbv
  ·skip
   replace h := cond_t ht hbv
   refine guard_on hF rfl rfl hbv (step hF (Y.fieldAddr fo_24_1 hF rfl) rfl fun a hF => guard_on hF rfl rfl hbv (step hF (Y.load1L 1 sz_3 hF rfl hS rfl rfl) rfl fun a hF => guard_on hF rfl rfl hbv ?_))
   obtain ⟨rv_1, hx_1, h⟩ := bind_some h
   refine O.callP (us := [iv sv.Gap, iv 0, iv 1000]) ca_48 hF hS (spare_lies_ok hS.stab sv.Gap 0 1000 rv_1 hx_1) rfl rfl fun a w hF hS => step hF (Y.pick_t hF rfl hbv rfl) rfl fun a hF => ?_
   obtain rfl := some_inj h
   exact nT ⟨hF.weak (AF rfl), hS.weak ⟨rfl, trivial⟩⟩
  replace h := cond_f ht hbv
  refine guard_off hF rfl rfl hbv rfl fun a hF => guard_off hF rfl rfl hbv rfl fun a hF => guard_off hF rfl rfl hbv rfl fun a hF => step hF (Y.pick_f hF rfl hbv rfl) rfl fun a hF => ?_
  obtain rfl := some_inj h
  exact nT ⟨hF.weak (AF rfl), hS.weak ⟨rfl, trivial⟩⟩
 intro a w hF hS
 refine step hF (Y.move hF rfl) rfl fun a hF => ?_
 obtain ⟨t_1, ht_1, h⟩ := bind_some h
 refine join (N := 67) (rs := []) (w0 := w0) (D0 := D0) 5 (us := [(1, .pointer (some ⟨b, 0, none⟩)), (2, iv 0), (19, .bool t_1)]) (ms := [(1, .cells b [iv sv.Hours, iv sv.Gap, .slice p sv.Machines.length c] 24)]) (D' := D0) ?_ ?_
 ·rcases bcases t with hbv_1 | hbv_1
  ·skip
   replace h := cond_t ht_1 hbv_1
   refine guard_on hF rfl rfl hbv_1 (step hF (Y.fieldAddr fo_24_2 hF rfl) rfl fun a hF => guard_on hF rfl rfl hbv_1 (step hF (Y.load1L 1 sz_22 hF rfl hS rfl rfl) rfl fun a hF => guard_on hF rfl rfl hbv_1 (step hF (Y.lenSl u_22 hF rfl) rfl fun a hF => guard_on hF rfl rfl hbv_1 ?_)))
   obtain ⟨rv_2, hx_2, h⟩ := bind_some h
   refine O.callP (us := [iv (sv.Machines.length : Int), iv 1, iv 8]) ca_48 hF hS (spare_lies_ok hS.stab (sv.Machines.length : Int) 1 8 rv_2 hx_2) rfl rfl fun a w hF hS => step hF (Y.pick_t hF rfl hbv_1 rfl) rfl fun a hF => ?_
   obtain rfl := some_inj h
   exact nT ⟨hF.weak (AF rfl), hS.weak ⟨rfl, trivial⟩⟩
  replace h := cond_f ht_1 hbv_1
  refine guard_off hF rfl rfl hbv_1 rfl fun a hF => guard_off hF rfl rfl hbv_1 rfl fun a hF => guard_off hF rfl rfl hbv_1 rfl fun a hF => guard_off hF rfl rfl hbv_1 rfl fun a hF => step hF (Y.pick_f hF rfl hbv_1 rfl) rfl fun a hF => ?_
  obtain rfl := some_inj h
  exact nT ⟨hF.weak (AF rfl), hS.weak ⟨rfl, trivial⟩⟩
 intro a w hF hS
 refine step hF (Y.assign hF rfl) rfl fun a hF => nT (seq (seq (region (step hF (Y.fieldAddr fo_24_2 hF rfl) rfl fun a hF => step hF (Y.load1L 1 sz_22 hF rfl hS rfl rfl) rfl fun a hF => step hF (Y.lenSl u_22 hF rfl) rfl fun a hF => step hF (Y.move hF rfl) rfl fun a hF => nT (block (loop_cut (body := spare_Check_b1 sv) (out := out) (fun s a w => ∃ (ok : Bool) (v23_0 : Int), s = (ok, v23_0) ∧ Frm 67 [] [(2, iv 0), (3, .bool ok), (21, .slice p sv.Machines.length c), (22, iv (sv.Machines.length : Int)), (23, iv v23_0)] a ∧ St w0 D0 D0 [(1, .cells b [iv sv.Hours, iv sv.Gap, .slice p sv.Machines.length c] 24)] w) (t_1, 0) h ⟨t_1, 0, rfl, hF.weak (AF rfl), hS.weak ⟨rfl, trivial⟩⟩ ?_))))))
 rintro s a w xo ⟨ok, v23_0, rfl, hF, hS⟩ h hxo
 unfold spare_Check_b1 at h
 dsimp only at h
 refine seq (region (step hF (Y.lss hF rfl rfl) rfl fun a hF => nT (seq (cond_b hF rfl (fun hbv_2 => ?_) (fun hbv_2 => ?_)))))
 ·replace h := cond_t h hbv_2
  refine skip_ (then_n (seq (block (seq (region ?_)))))
  obtain ⟨e, hx_3, h⟩ := bind_some h
  obtain ⟨b_1, o, hE, hY⟩ := Y.indexS (P := Tryd.prog) (C := C_SpareMachine) (xs := sv.Machines) (T := 22) (x := (.tmp 21)) (y := (.tmp 23)) u_22 sz_52 hF rfl rfl (hs).1 hx_3
  obtain ⟨cc, hc, hcell⟩ := hE.open
  obtain rfl := C_SpareMachine.open hc
  refine step hF (hY) rfl fun a hF => step hF (Y.loadNE (o := o) (k := 0) sz_52 hF rfl (hcell _ hS.stab) rfl rfl) rfl fun a hF => O.alloc 2 zc_52 hF hS rfl fun b_2 a w hF hS => O.store (us := [iv e.From, iv e.Warm, iv e.Life.Low, iv e.Life.High, iv e.Drift]) 2 sz_52 hF rfl rfl rfl rfl hS rfl rfl fun a w hF hS => nT (region (step hF (Y.move hF rfl) rfl fun a hF => step hF (Y.move hF rfl) rfl fun a hF => ?_))
  obtain ⟨t_2, ht_2, h⟩ := bind_some h
  refine join (N := 67) (rs := []) (w0 := w0) (D0 := D0) 4 (us := [(2, iv 0), (3, .bool ok), (5, .pointer (some ⟨b_2, 0, none⟩)), (21, .slice p sv.Machines.length c), (22, iv (sv.Machines.length : Int)), (23, iv v23_0), (32, .bool t_2)]) (ms := [(1, .cells b [iv sv.Hours, iv sv.Gap, .slice p sv.Machines.length c] 24), (2, .cells b_2 [iv e.From, iv e.Warm, iv e.Life.Low, iv e.Life.High, iv e.Drift] 52)]) (D' := D0) ?_ ?_
  ·rcases bcases ok with hbv_3 | hbv_3
   ·skip
    replace h := cond_t ht_2 hbv_3
    refine guard_on hF rfl rfl hbv_3 (step hF (Y.fieldAddr fo_52_0 hF rfl) rfl fun a hF => guard_on hF rfl rfl hbv_3 (step hF (Y.load1L 2 sz_3 hF rfl hS rfl rfl) rfl fun a hF => guard_on hF rfl rfl hbv_3 ?_))
    obtain ⟨rv_3, hx_4, h⟩ := bind_some h
    refine O.callP (us := [iv e.From, iv (-500), iv 500]) ca_48 hF hS (spare_lies_ok hS.stab e.From (-500) 500 rv_3 hx_4) rfl rfl fun a w hF hS => step hF (Y.pick_t hF rfl hbv_3 rfl) rfl fun a hF => ?_
    obtain rfl := some_inj h
    exact nT ⟨hF.weak (AF rfl), hS.weak ⟨rfl, rfl, trivial⟩⟩
   replace h := cond_f ht_2 hbv_3
   refine guard_off hF rfl rfl hbv_3 rfl fun a hF => guard_off hF rfl rfl hbv_3 rfl fun a hF => guard_off hF rfl rfl hbv_3 rfl fun a hF => step hF (Y.pick_f hF rfl hbv_3 rfl) rfl fun a hF => ?_
   obtain rfl := some_inj h
   exact nT ⟨hF.weak (AF rfl), hS.weak ⟨rfl, rfl, trivial⟩⟩
  intro a w hF hS
  refine step hF (Y.move hF rfl) rfl fun a hF => ?_
  obtain ⟨t_3, ht_3, h⟩ := bind_some h
  refine join (N := 67) (rs := []) (w0 := w0) (D0 := D0) 4 (us := [(2, iv 0), (3, .bool ok), (5, .pointer (some ⟨b_2, 0, none⟩)), (21, .slice p sv.Machines.length c), (22, iv (sv.Machines.length : Int)), (23, iv v23_0), (37, .bool t_3)]) (ms := [(1, .cells b [iv sv.Hours, iv sv.Gap, .slice p sv.Machines.length c] 24), (2, .cells b_2 [iv e.From, iv e.Warm, iv e.Life.Low, iv e.Life.High, iv e.Drift] 52)]) (D' := D0) ?_ ?_
  ·rcases bcases t_2 with hbv_4 | hbv_4
   ·skip
    replace h := cond_t ht_3 hbv_4
    refine guard_on hF rfl rfl hbv_4 (step hF (Y.fieldAddr fo_52_1 hF rfl) rfl fun a hF => guard_on hF rfl rfl hbv_4 (step hF (Y.load1L 2 sz_3 hF rfl hS rfl rfl) rfl fun a hF => guard_on hF rfl rfl hbv_4 ?_))
    obtain ⟨rv_4, hx_5, h⟩ := bind_some h
    refine O.callP (us := [iv e.Warm, iv 0, iv 500]) ca_48 hF hS (spare_lies_ok hS.stab e.Warm 0 500 rv_4 hx_5) rfl rfl fun a w hF hS => step hF (Y.pick_t hF rfl hbv_4 rfl) rfl fun a hF => ?_
    obtain rfl := some_inj h
    exact nT ⟨hF.weak (AF rfl), hS.weak ⟨rfl, rfl, trivial⟩⟩
   replace h := cond_f ht_3 hbv_4
   refine guard_off hF rfl rfl hbv_4 rfl fun a hF => guard_off hF rfl rfl hbv_4 rfl fun a hF => guard_off hF rfl rfl hbv_4 rfl fun a hF => step hF (Y.pick_f hF rfl hbv_4 rfl) rfl fun a hF => ?_
   obtain rfl := some_inj h
   exact nT ⟨hF.weak (AF rfl), hS.weak ⟨rfl, rfl, trivial⟩⟩
  intro a w hF hS
  refine step hF (Y.move hF rfl) rfl fun a hF => join (N := 67) (rs := []) (w0 := w0) (D0 := D0) 5 (us := [(2, iv 0), (3, .bool ok), (5, .pointer (some ⟨b_2, 0, none⟩)), (21, .slice p sv.Machines.length c), (22, iv (sv.Machines.length : Int)), (23, iv v23_0), (43, .bool (t_3 && (decide (0 ≤ e.Life.Low))))]) (ms := [(1, .cells b [iv sv.Hours, iv sv.Gap, .slice p sv.Machines.length c] 24), (2, .cells b_2 [iv e.From, iv e.Warm, iv e.Life.Low, iv e.Life.High, iv e.Drift] 52)]) (D' := D0) ?_ ?_
  ·rcases bcases t_3 with hbv_5 | hbv_5
   ·skip
    refine guard_on hF rfl rfl hbv_5 (step hF (Y.fieldAddr fo_52_2 hF rfl) rfl fun a hF => guard_on hF rfl rfl hbv_5 (step hF (Y.fieldAddr fo_50_0 hF rfl) rfl fun a hF => guard_on hF rfl rfl hbv_5 (step hF (Y.load1L 2 sz_3 hF rfl hS rfl rfl) rfl fun a hF => guard_on hF rfl rfl hbv_5 (step hF (Y.leq hF rfl rfl) rfl fun a hF => step hF (Y.pick_t hF rfl hbv_5 rfl) rfl fun a hF => nT ⟨hF.weak ⟨rfl, rfl, rfl, rfl, rfl, rfl, (by rw [hbv_5]; rfl), trivial⟩, hS.weak ⟨rfl, rfl, trivial⟩⟩))))
   refine guard_off hF rfl rfl hbv_5 rfl fun a hF => guard_off hF rfl rfl hbv_5 rfl fun a hF => guard_off hF rfl rfl hbv_5 rfl fun a hF => guard_off hF rfl rfl hbv_5 rfl fun a hF => step hF (Y.pick_f hF rfl hbv_5 rfl) rfl fun a hF => nT ⟨hF.weak ⟨rfl, rfl, rfl, rfl, rfl, rfl, (by rw [hbv_5]; rfl), trivial⟩, hS.weak ⟨rfl, rfl, trivial⟩⟩
  intro a w hF hS
  refine step hF (Y.move hF rfl) rfl fun a hF => join (N := 67) (rs := []) (w0 := w0) (D0 := D0) 8 (us := [(2, iv 0), (3, .bool ok), (5, .pointer (some ⟨b_2, 0, none⟩)), (21, .slice p sv.Machines.length c), (22, iv (sv.Machines.length : Int)), (23, iv v23_0), (52, .bool ((t_3 && (decide (0 ≤ e.Life.Low))) && (decide (e.Life.Low ≤ e.Life.High))))]) (ms := [(1, .cells b [iv sv.Hours, iv sv.Gap, .slice p sv.Machines.length c] 24), (2, .cells b_2 [iv e.From, iv e.Warm, iv e.Life.Low, iv e.Life.High, iv e.Drift] 52)]) (D' := D0) ?_ ?_
  ·rcases bcases (t_3 && (decide (0 ≤ e.Life.Low))) with hbv_6 | hbv_6
   ·skip
    refine guard_on hF rfl rfl hbv_6 (step hF (Y.fieldAddr fo_52_2 hF rfl) rfl fun a hF => guard_on hF rfl rfl hbv_6 (step hF (Y.fieldAddr fo_50_0 hF rfl) rfl fun a hF => guard_on hF rfl rfl hbv_6 (step hF (Y.load1L 2 sz_3 hF rfl hS rfl rfl) rfl fun a hF => guard_on hF rfl rfl hbv_6 (step hF (Y.fieldAddr fo_52_2 hF rfl) rfl fun a hF => guard_on hF rfl rfl hbv_6 (step hF (Y.fieldAddr fo_50_1 hF rfl) rfl fun a hF => guard_on hF rfl rfl hbv_6 (step hF (Y.load1L 2 sz_3 hF rfl hS rfl rfl) rfl fun a hF => guard_on hF rfl rfl hbv_6 (step hF (Y.leq hF rfl rfl) rfl fun a hF => step hF (Y.pick_t hF rfl hbv_6 rfl) rfl fun a hF => nT ⟨hF.weak ⟨rfl, rfl, rfl, rfl, rfl, rfl, (by rw [hbv_6]; rfl), trivial⟩, hS.weak ⟨rfl, rfl, trivial⟩⟩)))))))
   refine guard_off hF rfl rfl hbv_6 rfl fun a hF => guard_off hF rfl rfl hbv_6 rfl fun a hF => guard_off hF rfl rfl hbv_6 rfl fun a hF => guard_off hF rfl rfl hbv_6 rfl fun a hF => guard_off hF rfl rfl hbv_6 rfl fun a hF => guard_off hF rfl rfl hbv_6 rfl fun a hF => guard_off hF rfl rfl hbv_6 rfl fun a hF => step hF (Y.pick_f hF rfl hbv_6 rfl) rfl fun a hF => nT ⟨hF.weak ⟨rfl, rfl, rfl, rfl, rfl, rfl, (by rw [hbv_6]; rfl), trivial⟩, hS.weak ⟨rfl, rfl, trivial⟩⟩
  intro a w hF hS
  refine step hF (Y.move hF rfl) rfl fun a hF => join (N := 67) (rs := []) (w0 := w0) (D0 := D0) 5 (us := [(2, iv 0), (3, .bool ok), (5, .pointer (some ⟨b_2, 0, none⟩)), (21, .slice p sv.Machines.length c), (22, iv (sv.Machines.length : Int)), (23, iv v23_0), (58, .bool (((t_3 && (decide (0 ≤ e.Life.Low))) && (decide (e.Life.Low ≤ e.Life.High))) && (decide (e.Life.High ≤ 500))))]) (ms := [(1, .cells b [iv sv.Hours, iv sv.Gap, .slice p sv.Machines.length c] 24), (2, .cells b_2 [iv e.From, iv e.Warm, iv e.Life.Low, iv e.Life.High, iv e.Drift] 52)]) (D' := D0) ?_ ?_
  ·rcases bcases ((t_3 && (decide (0 ≤ e.Life.Low))) && (decide (e.Life.Low ≤ e.Life.High))) with hbv_7 | hbv_7
   ·skip
    refine guard_on hF rfl rfl hbv_7 (step hF (Y.fieldAddr fo_52_2 hF rfl) rfl fun a hF => guard_on hF rfl rfl hbv_7 (step hF (Y.fieldAddr fo_50_1 hF rfl) rfl fun a hF => guard_on hF rfl rfl hbv_7 (step hF (Y.load1L 2 sz_3 hF rfl hS rfl rfl) rfl fun a hF => guard_on hF rfl rfl hbv_7 (step hF (Y.leq hF rfl rfl) rfl fun a hF => step hF (Y.pick_t hF rfl hbv_7 rfl) rfl fun a hF => nT ⟨hF.weak ⟨rfl, rfl, rfl, rfl, rfl, rfl, (by rw [hbv_7]; rfl), trivial⟩, hS.weak ⟨rfl, rfl, trivial⟩⟩))))
   refine guard_off hF rfl rfl hbv_7 rfl fun a hF => guard_off hF rfl rfl hbv_7 rfl fun a hF => guard_off hF rfl rfl hbv_7 rfl fun a hF => guard_off hF rfl rfl hbv_7 rfl fun a hF => step hF (Y.pick_f hF rfl hbv_7 rfl) rfl fun a hF => nT ⟨hF.weak ⟨rfl, rfl, rfl, rfl, rfl, rfl, (by rw [hbv_7]; rfl), trivial⟩, hS.weak ⟨rfl, rfl, trivial⟩⟩
  intro a w hF hS
  refine step hF (Y.move hF rfl) rfl fun a hF => ?_
  obtain ⟨t_4, ht_4, h⟩ := bind_some h
  refine join (N := 67) (rs := []) (w0 := w0) (D0 := D0) 4 (us := [(2, iv 0), (3, .bool ok), (21, .slice p sv.Machines.length c), (22, iv (sv.Machines.length : Int)), (23, iv v23_0), (63, .bool t_4)]) (ms := [(1, .cells b [iv sv.Hours, iv sv.Gap, .slice p sv.Machines.length c] 24), (2, .cells b_2 [iv e.From, iv e.Warm, iv e.Life.Low, iv e.Life.High, iv e.Drift] 52)]) (D' := D0) ?_ ?_
  ·rcases bcases (((t_3 && (decide (0 ≤ e.Life.Low))) && (decide (e.Life.Low ≤ e.Life.High))) && (decide (e.Life.High ≤ 500))) with hbv_8 | hbv_8
   ·skip
    replace h := cond_t ht_4 hbv_8
    refine guard_on hF rfl rfl hbv_8 (step hF (Y.fieldAddr fo_52_3 hF rfl) rfl fun a hF => guard_on hF rfl rfl hbv_8 (step hF (Y.load1L 2 sz_3 hF rfl hS rfl rfl) rfl fun a hF => guard_on hF rfl rfl hbv_8 ?_))
    obtain ⟨rv_5, hx_6, h⟩ := bind_some h
    refine O.callP (us := [iv e.Drift, iv 0, iv 100]) ca_48 hF hS (spare_lies_ok hS.stab e.Drift 0 100 rv_5 hx_6) rfl rfl fun a w hF hS => step hF (Y.pick_t hF rfl hbv_8 rfl) rfl fun a hF => ?_
    obtain rfl := some_inj h
    exact nT ⟨hF.weak (AF rfl), hS.weak ⟨rfl, rfl, trivial⟩⟩
   replace h := cond_f ht_4 hbv_8
   refine guard_off hF rfl rfl hbv_8 rfl fun a hF => guard_off hF rfl rfl hbv_8 rfl fun a hF => guard_off hF rfl rfl hbv_8 rfl fun a hF => step hF (Y.pick_f hF rfl hbv_8 rfl) rfl fun a hF => ?_
   obtain rfl := some_inj h
   exact nT ⟨hF.weak (AF rfl), hS.weak ⟨rfl, rfl, trivial⟩⟩
  intro a w hF hS
  refine step hF (Y.assign hF rfl) rfl fun a hF => nil (blk_n (then_n (region (step hF (Y.add hF rfl rfl) rfl fun a hF => step hF (Y.move hF rfl) rfl fun a hF => nT (⟨_, nxt_some h, t_4, (wr (v23_0 + 1)), rfl, hF.weak (AF rfl), hS.weak ⟨rfl, trivial⟩⟩)))))
 replace h := cond_f h hbv_2
 refine exit_ (then_x (then_x (blk_hit (then_n ?_))))
 replace h := ext_some h hxo
 refine seq (seq (region (step hF (Y.move hF rfl) rfl fun a hF => step hF (Y.not hF rfl) rfl fun a hF => nT (cond_b hF rfl (fun hbv_9 => ?_) (fun hbv_9 => ?_)))))
 ·replace h := cond_t h hbv_9
  refine seq (region (step hF (Y.assign hF rfl) rfl fun a hF => nT (ret_ (then_r ?_))))
  obtain rfl := some_inj h
  exact leaveP Tryd.results17 hF hS (.cons (.tmp rfl) .nil) .nil rfl
 replace h := cond_f h hbv_9
 refine skip_ (then_n (seq (region (step hF (Y.assign hF rfl) rfl fun a hF => nT (ret_ ?_)))))
 obtain rfl := some_inj h
 exact leaveP Tryd.results17 hF hS (.cons (.tmp rfl) .nil) .nil rfl
noncomputable def spare_of (sv : SpareStore) (k : Int) : Option spare_machine :=
  (idx sv.Machines k).bind fun e =>
  some (spare_machine.mk e sv.Gap)
theorem spare_of_ok {w0 : World} {D0 : Stab} (hD : D0.on w0) (sv : SpareStore) (k : Int) {p : Option Addr} {c : Nat} (hs : SRc C_SpareMachine D0 sv.Machines p c) (out : spare_machine) (h : spare_of sv k = some out) : Calls Tryd.prog 49 [.agg #[iv sv.Hours, iv sv.Gap, .slice p sv.Machines.length c], iv k].toArray w0 (RetP D0 w0 (.agg #[iv out.SpareMachine.From, iv out.SpareMachine.Warm, iv out.SpareMachine.Life.Low, iv out.SpareMachine.Life.High, iv out.SpareMachine.Drift, iv out.gap])) := by
 refine enter _ 13 Tryd.func49 rfl Tryd.ntmps49 rfl fun a hF => ?_
 replace hF : Frm 13 [] [(0, .agg #[iv sv.Hours, iv sv.Gap, .slice p sv.Machines.length c]), (1, iv k)] a := hF
 have hS := St.start hD
 unfold spare_of at h
 refine seq (region (O.box (cs := [iv sv.Hours, iv sv.Gap, .slice p sv.Machines.length c]) 1 hF rfl rfl hS rfl fun b a w hF hS => O.alloc 2 zc_70 hF hS rfl fun b_1 a w hF hS => nT (seq (draws 7 [(0, true), (1, true), (2, true), (3, true), (4, true), (5, true), (6, true)] mixed_ (by kernel_rfl) (fun w => St w0 D0 D0 _ w) hS.drew (fun _ _ _ _ h => h) ?_))))
 replace hS := hS.drew
 refine stepT (i := 0) rfl hF (fun w hS => Y.fieldAddr fo_24_2 hF rfl) rfl fun a hF => stepT (i := 1) rfl hF (fun w hS => Y.load1L 1 sz_22 hF rfl hS rfl rfl) rfl fun a hF => stepT (i := 2) rfl hF (fun w hS => Y.move hF rfl) rfl fun a hF => ?_
 obtain ⟨e, hx, h⟩ := bind_some h
 obtain ⟨b_2, o, hE, hY⟩ := Y.indexS (P := Tryd.prog) (C := C_SpareMachine) (xs := sv.Machines) (T := 22) (x := (.tmp 6)) (y := (.tmp 7)) u_22 sz_52 hF rfl rfl (hs).1 hx
 obtain ⟨cc, hc, hcell⟩ := hE.open
 obtain rfl := C_SpareMachine.open hc
 refine stepT (i := 3) rfl hF (fun w hS => hY) rfl fun a hF => stepT (i := 4) rfl hF (fun w hS => Y.loadNE (o := o) (k := 0) sz_52 hF rfl (hcell _ hS.stab) rfl rfl) rfl fun a hF => stepT (i := 5) rfl hF (fun w hS => Y.fieldAddr fo_24_1 hF rfl) rfl fun a hF => stepT (i := 6) rfl hF (fun w hS => Y.load1L 1 sz_3 hF rfl hS rfl rfl) rfl fun a hF => toTail (step hF (Y.build (parts := [(0, (.tmp 9)), (1, (.tmp 11))]) (cs := #[iv e.From, iv e.Warm, iv e.Life.Low, iv e.Life.High, iv e.Drift, iv sv.Gap]) hF rfl (by kernel_rfl)) rfl fun a hF => O.store (us := [iv e.From, iv e.Warm, iv e.Life.Low, iv e.Life.High, iv e.Drift, iv sv.Gap]) 2 sz_70 hF rfl rfl rfl rfl hS rfl rfl fun a w hF hS => nT (ret_ ?_))
 obtain rfl := some_inj h
 exact leaveP Tryd.results49 hF hS (.cons (.cellN 2 sz_70 rfl rfl rfl) .nil) .nil rfl
noncomputable def spare_low_1 (sv : Span) : Option Int :=
  some sv.Low
theorem spare_low_1_ok {w0 : World} {D0 : Stab} (hD : D0.on w0) (sv : Span) (out : Int) (h : spare_low_1 sv = some out) : Calls Tryd.prog 78 [.agg #[iv sv.Low, iv sv.High]].toArray w0 (RetP D0 w0 (iv out)) := by
 refine enter _ 5 Tryd.func78 rfl Tryd.ntmps78 rfl fun a hF => ?_
 replace hF : Frm 5 [] [(0, .agg #[iv sv.Low, iv sv.High])] a := hF
 have hS := St.start hD
 unfold spare_low_1 at h
 refine seq (region (O.box (cs := [iv sv.Low, iv sv.High]) 1 hF rfl rfl hS rfl fun b a w hF hS => step hF (Y.assign hF rfl) rfl fun a hF => nT (seq (region (step hF (Y.fieldAddr fo_50_0 hF rfl) rfl fun a hF => step hF (Y.load1L 1 sz_3 hF rfl hS rfl rfl) rfl fun a hF => step hF (Y.assign hF rfl) rfl fun a hF => nT (ret_ ?_))))))
 obtain rfl := some_inj h
 exact leaveP Tryd.results78 hF hS (.cons (.tmp rfl) .nil) .nil rfl
noncomputable def spare_low : Option Unit :=
  some ()
theorem spare_low_ok {w0 : World} {D0 : Stab} (hD : D0.on w0) (out : Unit) (h : spare_low = some out) : Calls Tryd.prog 77 [].toArray w0 (RetP D0 w0 (.agg #[.func (.func 78) #[] #[]])) := by
 refine enter _ 2 Tryd.func77 rfl Tryd.ntmps77 rfl fun a hF => ?_
 replace hF : Frm 2 [] [] a := hF
 have hS := St.start hD
 unfold spare_low at h
 refine seq (region (O.alloc 1 zc_104 hF hS rfl fun b a w hF hS => nT (seq (region (step hF (Y.build (parts := [(0, (.func 78))]) (cs := #[.func (.func 78) #[] #[]]) hF rfl (by kernel_rfl)) rfl fun a hF => O.store (us := [.func (.func 78) #[] #[]]) 1 sz_104 hF rfl rfl rfl rfl hS rfl rfl fun a w hF hS => nT (ret_ (leaveP Tryd.results77 hF hS (.cons (.cellN 1 sz_104 rfl rfl rfl) .nil) .nil rfl)))))))
noncomputable def spare_machine_last (m : spare_machine) : Option Int :=
  (spare_low).bind fun rv =>
  (spare_low_1 m.SpareMachine.Life).bind fun rv_1 =>
  some (if wr (rv_1 - m.SpareMachine.Warm) > 0 then wr (rv_1 - m.SpareMachine.Warm) else 0)
theorem spare_machine_last_ok {w0 : World} {D0 : Stab} (hD : D0.on w0) (m : spare_machine) (out : Int) (h : spare_machine_last m = some out) : Calls Tryd.prog 73 [.agg #[iv m.SpareMachine.From, iv m.SpareMachine.Warm, iv m.SpareMachine.Life.Low, iv m.SpareMachine.Life.High, iv m.SpareMachine.Drift, iv m.gap]].toArray w0 (RetP D0 w0 (iv out)) := by
 refine enter _ 14 Tryd.func73 rfl Tryd.ntmps73 rfl fun a hF => ?_
 replace hF : Frm 14 [] [(0, .agg #[iv m.SpareMachine.From, iv m.SpareMachine.Warm, iv m.SpareMachine.Life.Low, iv m.SpareMachine.Life.High, iv m.SpareMachine.Drift, iv m.gap])] a := hF
 have hS := St.start hD
 unfold spare_machine_last at h
 refine seq (region (O.box (cs := [iv m.SpareMachine.From, iv m.SpareMachine.Warm, iv m.SpareMachine.Life.Low, iv m.SpareMachine.Life.High, iv m.SpareMachine.Drift, iv m.gap]) 1 hF rfl rfl hS rfl fun b a w hF hS => step hF (Y.assign hF rfl) rfl fun a hF => nT (seq ?_)))
 obtain ⟨rv, hx, h⟩ := bind_some h
 obtain ⟨rv_1, hx_1, h⟩ := bind_some h
 refine drawsV 9 (.flt 2 (.flt 3 (.flt 4 (.flt 6 (.flt 7 (.flt 8 (.alt 0 (.flt 1 (.alt 5 .done .stop)) .stop))))))) mixed_ (by kernel_rfl) (fun w => St w0 D0 D0 [(1, .cells b [iv m.SpareMachine.From, iv m.SpareMachine.Warm, iv m.SpareMachine.Life.Low, iv m.SpareMachine.Life.High, iv m.SpareMachine.Drift, iv m.gap] 70)] w) (fun a w => Frm 14 [] [(2, iv 0), (8, iv rv_1), (11, iv m.SpareMachine.Warm)] a ∧ St w0 D0 D0 [(1, .cells b [iv m.SpareMachine.From, iv m.SpareMachine.Warm, iv m.SpareMachine.Life.Low, iv m.SpareMachine.Life.High, iv m.SpareMachine.Drift, iv m.gap] 70)] w) (hS.weak (ms := [(1, .cells b [iv m.SpareMachine.From, iv m.SpareMachine.Warm, iv m.SpareMachine.Life.Low, iv m.SpareMachine.Life.High, iv m.SpareMachine.Drift, iv m.gap] 70)]) ⟨rfl, trivial⟩).drew (fun _ _ _ _ h => h) ?_ ?_
 ·replace hS := hS.drew
  have hle0 := hS.le
  refine stepV (i := 2) rfl hF (fun w hS => Y.fieldAddr fo_70_0 hF rfl) rfl fun a hF => stepV (i := 3) rfl hF (fun w hS => Y.fieldAddr fo_52_2 hF rfl) rfl fun a hF => stepV (i := 4) rfl hF (fun w hS => Y.loadNL 1 sz_50 hF rfl hS rfl rfl rfl) rfl fun a hF => stepV (i := 6) rfl hF (fun w hS => Y.fieldAddr fo_70_0 hF rfl) rfl fun a hF => stepV (i := 7) rfl hF (fun w hS => Y.fieldAddr fo_52_1 hF rfl) rfl fun a hF => stepV (i := 8) rfl hF (fun w hS => Y.load1L 1 sz_3 hF rfl hS rfl rfl) rfl fun a hF => oneV (i := 0) rfl ?_ trivial
  refine O.callP (us := []) ca_77 hF hS (spare_low_ok hS.stab rv hx) rfl rfl fun a w hF hS => nT ⟨hS.weak ⟨rfl, trivial⟩, ?_⟩
  refine stepV (i := 1) rfl hF (fun w hS => Y.field1 fT_104_0 hF rfl rfl) rfl fun a hF => oneV (i := 5) rfl ?_ trivial
  refine O.callVP (f := 78) (first := []) (cap := []) (us := [.agg #[iv m.SpareMachine.Life.Low, iv m.SpareMachine.Life.High]]) ca_78 hF hS rfl rfl (spare_low_1_ok hS.stab m.SpareMachine.Life rv_1 hx_1) rfl fun a w hF hS => nT ⟨hS.weak ⟨rfl, trivial⟩, ?_⟩
  exact toTailV ⟨hF.weak (AF rfl), hS.weak ⟨rfl, trivial⟩⟩
 rintro a w ⟨hF, hS⟩
 refine step hF (Y.sub hF rfl rfl) rfl fun a hF => step hF (Y.max2 hF rfl rfl) rfl fun a hF => step hF (Y.assign hF rfl) rfl fun a hF => nT (ret_ ?_)
 obtain rfl := some_inj h
 exact leaveP Tryd.results73 hF hS (.cons (.tmp rfl) .nil) .nil rfl
noncomputable def spare_least_int__b1 (l : (List Int)) : (Int × Int) → Option ((Int × Int) ⊕ Int)
 | (first_1, v9_0) =>
  cond (decide (v9_0 < (l.length : Int)))
  ((idx l v9_0).bind fun e =>
  nxt ((if e < first_1 then e else first_1), wr (v9_0 + 1)))
  (ext (some first_1))
noncomputable def spare_least_int_ (first : Int) (l : (List Int)) : Option Int :=
  loopU (spare_least_int__b1 l) (first, 0)
theorem spare_least_int__ok {w0 : World} {D0 : Stab} (hD : D0.on w0) (first : Int) (l : (List Int)) {p : Option Addr} {c : Nat} (hs : SRc C_int D0 l p c) (out : Int) (h : spare_least_int_ first l = some out) : Calls Tryd.prog 74 [iv first, .slice p l.length c].toArray w0 (RetP D0 w0 (iv out)) := by
 refine enter _ 18 Tryd.func74 rfl Tryd.ntmps74 rfl fun a hF => ?_
 replace hF : Frm 18 [] [(0, iv first), (1, .slice p l.length c)] a := hF
 have hS := St.start hD
 unfold spare_least_int_ at h
 refine seq (region (step hF (Y.assign hF rfl) rfl fun a hF => nT (seq (seq (region (step hF (Y.move hF rfl) rfl fun a hF => step hF (Y.lenSl u_39 hF rfl) rfl fun a hF => step hF (Y.move hF rfl) rfl fun a hF => nT (block (loop_cut (body := spare_least_int__b1 l) (out := out) (fun s a w => ∃ (first_1 : Int) (v9_0 : Int), s = (first_1, v9_0) ∧ Frm 18 [] [(0, iv first_1), (4, iv 0), (7, .slice p l.length c), (8, iv (l.length : Int)), (9, iv v9_0)] a ∧ St w0 D0 D0 [] w) (first, 0) h ⟨first, 0, rfl, hF.weak (AF rfl), hS.weak trivial⟩ ?_))))))))
 rintro s a w xo ⟨first_1, v9_0, rfl, hF, hS⟩ h hxo
 unfold spare_least_int__b1 at h
 dsimp only at h
 refine seq (region (step hF (Y.lss hF rfl rfl) rfl fun a hF => nT (seq (cond_b hF rfl (fun hbv => ?_) (fun hbv => ?_)))))
 ·replace h := cond_t h hbv
  refine skip_ (then_n (seq (block (seq (region ?_)))))
  obtain ⟨e, hx, h⟩ := bind_some h
  obtain ⟨b, o, hE, hY⟩ := Y.indexS (P := Tryd.prog) (C := C_int) (xs := l) (T := 39) (x := (.tmp 7)) (y := (.tmp 9)) u_39 sz_3 hF rfl rfl (hs).1 hx
  obtain ⟨cc, hc, hcell⟩ := hE.open
  obtain rfl := hc
  refine step hF (hY) rfl fun a hF => step hF (Y.load1 sz_3 hF rfl (hcell _ hS.stab 0 _ rfl)) rfl fun a hF => step hF (Y.assign hF rfl) rfl fun a hF => nT (region (step hF (Y.move hF rfl) rfl fun a hF => step hF (Y.move hF rfl) rfl fun a hF => step hF (Y.min2 hF rfl rfl) rfl fun a hF => step hF (Y.assign hF rfl) rfl fun a hF => nil (blk_n (then_n (region (step hF (Y.add hF rfl rfl) rfl fun a hF => step hF (Y.move hF rfl) rfl fun a hF => nT (⟨_, nxt_some h, (if e < first_1 then e else first_1), (wr (v9_0 + 1)), rfl, hF.weak (AF rfl), hS.weak trivial⟩)))))))
 replace h := cond_f h hbv
 refine exit_ (then_x (then_x (blk_hit (then_n ?_))))
 replace h := ext_some h hxo
 refine seq (region (step hF (Y.move hF rfl) rfl fun a hF => step hF (Y.assign hF rfl) rfl fun a hF => nT (ret_ ?_)))
 obtain rfl := some_inj h
 exact leaveP Tryd.results74 hF hS (.cons (.tmp rfl) .nil) .nil rfl
noncomputable def spare_machine_stint (m : spare_machine) : Option Int :=
  cond (m.SpareMachine.Drift == 0)
  ((spare_machine_last m).bind fun rv =>
  some rv)
  ((spare_machine_last m).bind fun rv_1 =>
  if m.SpareMachine.Drift ≠ 0 then
  (spare_least_int_ rv_1 ([wr (Int.tdiv m.gap m.SpareMachine.Drift)])).bind fun rv_2 =>
  some rv_2
  else none)
theorem spare_machine_stint_ok {w0 : World} {D0 : Stab} (hD : D0.on w0) (m : spare_machine) (out : Int) (h : spare_machine_stint m = some out) : Calls Tryd.prog 62 [.agg #[iv m.SpareMachine.From, iv m.SpareMachine.Warm, iv m.SpareMachine.Life.Low, iv m.SpareMachine.Life.High, iv m.SpareMachine.Drift, iv m.gap]].toArray w0 (RetP D0 w0 (iv out)) := by
 refine enter _ 19 Tryd.func62 rfl Tryd.ntmps62 rfl fun a hF => ?_
 replace hF : Frm 19 [] [(0, .agg #[iv m.SpareMachine.From, iv m.SpareMachine.Warm, iv m.SpareMachine.Life.Low, iv m.SpareMachine.Life.High, iv m.SpareMachine.Drift, iv m.gap])] a := hF
 have hS := St.start hD
 unfold spare_machine_stint at h
 refine seq (region (O.box (cs := [iv m.SpareMachine.From, iv m.SpareMachine.Warm, iv m.SpareMachine.Life.Low, iv m.SpareMachine.Life.High, iv m.SpareMachine.Drift, iv m.gap]) 1 hF rfl rfl hS rfl fun b a w hF hS => step hF (Y.assign hF rfl) rfl fun a hF => nT (seq (seq (region (step hF (Y.fieldAddr fo_70_0 hF rfl) rfl fun a hF => step hF (Y.fieldAddr fo_52_3 hF rfl) rfl fun a hF => step hF (Y.load1L 1 sz_3 hF rfl hS rfl rfl) rfl fun a hF => step hF (Y.eql hF rfl rfl) rfl fun a hF => nT (cond_b hF rfl (fun hbv => ?_) (fun hbv => ?_))))))))
 ·replace h := cond_t h hbv
  refine seq (region (step hF (Y.loadNL 1 sz_70 hF rfl hS rfl rfl rfl) rfl fun a hF => ?_))
  obtain ⟨rv, hx, h⟩ := bind_some h
  refine O.callP (us := [.agg #[iv m.SpareMachine.From, iv m.SpareMachine.Warm, iv m.SpareMachine.Life.Low, iv m.SpareMachine.Life.High, iv m.SpareMachine.Drift, iv m.gap]]) ca_73 hF hS (spare_machine_last_ok hS.stab m rv hx) rfl rfl fun a w hF hS => step hF (Y.assign hF rfl) rfl fun a hF => nT (ret_ (then_r ?_))
  obtain rfl := some_inj h
  exact leaveP Tryd.results62 hF hS (.cons (.tmp rfl) .nil) .nil rfl
 replace h := cond_f h hbv
 refine skip_ (then_n (seq ?_))
 obtain ⟨rv_1, hx_1, h⟩ := bind_some h
 obtain ⟨hg, h⟩ := ite_some h
 refine drawsV 9 (.flt 0 (.flt 2 (.flt 3 (.flt 4 (.flt 5 (.flt 6 (.flt 7 (.alt 1 (.alt 8 .done .stop) (.alt 8 (.alt 1 .done .stop) .stop))))))))) mixed_ (by kernel_rfl) (fun w => St w0 D0 D0 [(1, .cells b [iv m.SpareMachine.From, iv m.SpareMachine.Warm, iv m.SpareMachine.Life.Low, iv m.SpareMachine.Life.High, iv m.SpareMachine.Drift, iv m.gap] 70)] w) (fun a w => ∃ (p : Option Addr) (c : Nat), Frm 19 [] [(2, iv 0), (10, iv rv_1), (17, .slice p ([wr (Int.tdiv m.gap m.SpareMachine.Drift)]).length c)] a ∧ St w0 D0 D0 [(1, .cells b [iv m.SpareMachine.From, iv m.SpareMachine.Warm, iv m.SpareMachine.Life.Low, iv m.SpareMachine.Life.High, iv m.SpareMachine.Drift, iv m.gap] 70), (2, .own p ([wr (Int.tdiv m.gap m.SpareMachine.Drift)]).length c ([iv (wr (Int.tdiv m.gap m.SpareMachine.Drift))]) 3 1)] w ∧ Reps C_int D0 ([wr (Int.tdiv m.gap m.SpareMachine.Drift)]) ([iv (wr (Int.tdiv m.gap m.SpareMachine.Drift))])) (hS.weak (ms := [(1, .cells b [iv m.SpareMachine.From, iv m.SpareMachine.Warm, iv m.SpareMachine.Life.Low, iv m.SpareMachine.Life.High, iv m.SpareMachine.Drift, iv m.gap] 70)]) ⟨rfl, trivial⟩).drew (fun _ _ _ _ h => h) ?_ ?_
 ·replace hS := hS.drew
  have hle0 := hS.le
  refine stepV (i := 0) rfl hF (fun w hS => Y.loadNL 1 sz_70 hF rfl hS rfl rfl rfl) rfl fun a hF => stepV (i := 2) rfl hF (fun w hS => Y.fieldAddr fo_70_1 hF rfl) rfl fun a hF => stepV (i := 3) rfl hF (fun w hS => Y.load1L 1 sz_3 hF rfl hS rfl rfl) rfl fun a hF => stepV (i := 4) rfl hF (fun w hS => Y.fieldAddr fo_70_0 hF rfl) rfl fun a hF => stepV (i := 5) rfl hF (fun w hS => Y.fieldAddr fo_52_3 hF rfl) rfl fun a hF => stepV (i := 6) rfl hF (fun w hS => Y.load1L 1 sz_3 hF rfl hS rfl rfl) rfl fun a hF => stepV (i := 7) rfl hF (fun w hS => Y.quo hF rfl rfl hg) rfl fun a hF => oneV (i := 1) rfl ?_ ?_
  ·skip
   refine O.callP (us := [.agg #[iv m.SpareMachine.From, iv m.SpareMachine.Warm, iv m.SpareMachine.Life.Low, iv m.SpareMachine.Life.High, iv m.SpareMachine.Drift, iv m.gap]]) ca_73 hF hS (spare_machine_last_ok hS.stab m rv_1 hx_1) rfl rfl fun a w hF hS => nT ⟨hS.weak ⟨rfl, trivial⟩, ?_⟩
   refine oneV (i := 8) rfl ?_ trivial
   have hr_1 : Reps C_int D0 [wr (Int.tdiv m.gap m.SpareMachine.Drift)] [iv (wr (Int.tdiv m.gap m.SpareMachine.Drift))] := Reps.cons (C := C_int) (x := wr (Int.tdiv m.gap m.SpareMachine.Drift)) (c := [iv (wr (Int.tdiv m.gap m.SpareMachine.Drift))]) (r := []) rfl (Reps.nil)
   refine O.buildSlice (E := 3) (C := C_int) (xs := [wr (Int.tdiv m.gap m.SpareMachine.Drift)]) (cs := [iv (wr (Int.tdiv m.gap m.SpareMachine.Drift))]) (us := [iv (wr (Int.tdiv m.gap m.SpareMachine.Drift))]) (parts := [(0, (.tmp 16))]) 2 hF hS rfl (by kernel_rfl) hr_1 rfl rfl rfl fun p_1 c_1 a w hF hS => nT ⟨hS.weak ⟨rfl, trivial⟩, ?_⟩
   exact toTailV ⟨p_1, c_1, hF.weak (AF rfl), hS.weak ⟨rfl, rfl, trivial⟩, hr_1⟩
  refine oneV (i := 8) rfl ?_ trivial
  have hr_2 : Reps C_int D0 [wr (Int.tdiv m.gap m.SpareMachine.Drift)] [iv (wr (Int.tdiv m.gap m.SpareMachine.Drift))] := Reps.cons (C := C_int) (x := wr (Int.tdiv m.gap m.SpareMachine.Drift)) (c := [iv (wr (Int.tdiv m.gap m.SpareMachine.Drift))]) (r := []) rfl (Reps.nil)
  refine O.buildSlice (E := 3) (C := C_int) (xs := [wr (Int.tdiv m.gap m.SpareMachine.Drift)]) (cs := [iv (wr (Int.tdiv m.gap m.SpareMachine.Drift))]) (us := [iv (wr (Int.tdiv m.gap m.SpareMachine.Drift))]) (parts := [(0, (.tmp 16))]) 2 hF hS rfl (by kernel_rfl) hr_2 rfl rfl rfl fun p_2 c_2 a w hF hS => nT ⟨hS.weak ⟨rfl, trivial⟩, ?_⟩
  refine oneV (i := 1) rfl ?_ trivial
  refine O.callP (us := [.agg #[iv m.SpareMachine.From, iv m.SpareMachine.Warm, iv m.SpareMachine.Life.Low, iv m.SpareMachine.Life.High, iv m.SpareMachine.Drift, iv m.gap]]) ca_73 hF hS (spare_machine_last_ok hS.stab m rv_1 hx_1) rfl rfl fun a w hF hS => nT ⟨hS.weak ⟨rfl, trivial⟩, ?_⟩
  exact toTailV ⟨p_2, c_2, hF.weak (AF rfl), hS.weak ⟨rfl, rfl, trivial⟩, hr_2⟩
 rintro a w ⟨p, c, hF, hS, hj⟩
 obtain ⟨Dv, hlev, hs, hS⟩ := hS.freezeC (C := C_int) (i := 2) (xs := [wr (Int.tdiv m.gap m.SpareMachine.Drift)]) rfl hj
 obtain ⟨rv_2, hx_2, h⟩ := bind_some h
 refine O.callP (us := [iv rv_1, .slice p ([wr (Int.tdiv m.gap m.SpareMachine.Drift)]).length c]) ca_74 hF hS (spare_least_int__ok hS.stab rv_1 ([wr (Int.tdiv m.gap m.SpareMachine.Drift)]) hs rv_2 hx_2) rfl rfl fun a w hF hS => step hF (Y.assign hF rfl) rfl fun a hF => nT (ret_ ?_)
 obtain rfl := some_inj h
 exact leaveP Tryd.results62 hF hS (.cons (.tmp rfl) .nil) .nil rfl
noncomputable def tabf_0 (i : Int) (m : spare_machine) : Option Int := if i = 0 then spare_machine_stint m else if i = 1 then spare_machine_last m else none
theorem tab_0_ok {w0 : World} {D0 : Stab} (hD : D0.on w0) (i : Int) (hi : 0 ≤ i ∧ i < ((2 : Nat) : Int)) (m : spare_machine) (out : Int) (h : tabf_0 i m = some out) : ∃ f, tab_0.getD (Int.toNat i) undef = .func (.func f) #[] #[] ∧ callable Tryd.prog f = true ∧ Calls Tryd.prog f [.agg #[iv m.SpareMachine.From, iv m.SpareMachine.Warm, iv m.SpareMachine.Life.Low, iv m.SpareMachine.Life.High, iv m.SpareMachine.Drift, iv m.gap]].toArray w0 (RetP D0 w0 (iv out)) := by
 have hc : i = 0 ∨ i = 1 := by omega
 rcases hc with rfl | rfl
 ·exact ⟨62, rfl, ca_62, spare_machine_stint_ok hD m out h⟩
 exact ⟨73, rfl, ca_73, spare_machine_last_ok hD m out h⟩
noncomputable def spare_Lasts (sv : SpareStore) (k : Int) : Option (Int × Int × Int) :=
  (spare_Check sv).bind fun rv =>
  cond (rv != 0)
  (some (0, 0, rv))
  ((spare_lies k 0 (wr ((sv.Machines.length : Int) - 1))).bind fun rv_1 =>
  cond (!rv_1)
  (some (0, 0, 81))
  ((spare_of sv k).bind fun rv_2 =>
  (tabf_0 0 rv_2).bind fun rv_3 =>
  (tabf_0 1 rv_2).bind fun rv_4 =>
  some (rv_3, rv_4, 0)))
theorem spare_Lasts_ok {w0 : World} {D0 : Stab} (hD : D0.on w0) (sv : SpareStore) (k : Int) {p : Option Addr} {c : Nat} (hs : SRc C_SpareMachine D0 sv.Machines p c) (hG : Glob D0) (out : (Int × Int × Int)) (h : spare_Lasts sv k = some out) : Calls Tryd.prog 15 [.agg #[iv sv.Hours, iv sv.Gap, .slice p sv.Machines.length c], iv k].toArray w0 (RetP D0 w0 (.tuple #[iv out.1, iv out.2.1, iv out.2.2])) := by
 refine enter _ 32 Tryd.func15 rfl Tryd.ntmps15 rfl fun a hF => ?_
 replace hF : Frm 32 [] [(0, .agg #[iv sv.Hours, iv sv.Gap, .slice p sv.Machines.length c]), (1, iv k)] a := hF
 have hS := St.start hD
 unfold spare_Lasts at h
 refine seq (region (O.box (cs := [iv sv.Hours, iv sv.Gap, .slice p sv.Machines.length c]) 1 hF rfl rfl hS rfl fun b a w hF hS => step hF (Y.assign hF rfl) rfl fun a hF => step hF (Y.assign hF rfl) rfl fun a hF => step hF (Y.assign hF rfl) rfl fun a hF => nT (seq (seq (region (step hF (Y.loadNL 1 sz_24 hF rfl hS rfl rfl rfl) rfl fun a hF => ?_))))))
 obtain ⟨rv, hx, h⟩ := bind_some h
 refine O.callP (us := [.agg #[iv sv.Hours, iv sv.Gap, .slice p sv.Machines.length c]]) ca_17 hF hS (spare_Check_ok hS.stab sv hs rv hx) rfl rfl fun a w hF hS => step hF (Y.assign hF rfl) rfl fun a hF => nT (seq (region (step hF (Y.move hF rfl) rfl fun a hF => step hF (Y.neq hF rfl rfl) rfl fun a hF => nT (cond_b hF rfl (fun hbv => ?_) (fun hbv => ?_)))))
 ·replace h := cond_t h hbv
  refine seq (region (step hF (Y.move hF rfl) rfl fun a hF => step hF (Y.assign hF rfl) rfl fun a hF => step hF (Y.assign hF rfl) rfl fun a hF => step hF (Y.assign hF rfl) rfl fun a hF => nT (ret_ (then_r ?_))))
  obtain rfl := some_inj h
  exact leaveP Tryd.results15 hF hS (.cons (.tmp rfl) (.cons (.tmp rfl) (.cons (.tmp rfl) .nil))) .nil rfl
 replace h := cond_f h hbv
 refine skip_ (then_n (seq (seq (region (step hF (Y.move hF rfl) rfl fun a hF => step hF (Y.fieldAddr fo_24_2 hF rfl) rfl fun a hF => step hF (Y.load1L 1 sz_22 hF rfl hS rfl rfl) rfl fun a hF => step hF (Y.lenSl u_22 hF rfl) rfl fun a hF => step hF (Y.sub hF rfl rfl) rfl fun a hF => ?_)))))
 obtain ⟨rv_1, hx_1, h⟩ := bind_some h
 refine O.callP (us := [iv k, iv 0, iv (wr ((sv.Machines.length : Int) - 1))]) ca_48 hF hS (spare_lies_ok hS.stab k 0 (wr ((sv.Machines.length : Int) - 1)) rv_1 hx_1) rfl rfl fun a w hF hS => step hF (Y.not hF rfl) rfl fun a hF => nT (cond_b hF rfl (fun hbv_1 => ?_) (fun hbv_1 => ?_))
 ·replace h := cond_t h hbv_1
  refine seq (region (step hF (Y.assign hF rfl) rfl fun a hF => step hF (Y.assign hF rfl) rfl fun a hF => step hF (Y.assign hF rfl) rfl fun a hF => nT (ret_ (then_r ?_))))
  obtain rfl := some_inj h
  exact leaveP Tryd.results15 hF hS (.cons (.tmp rfl) (.cons (.tmp rfl) (.cons (.tmp rfl) .nil))) .nil rfl
 replace h := cond_f h hbv_1
 refine skip_ (then_n (seq (region (step hF (Y.loadNL 1 sz_24 hF rfl hS rfl rfl rfl) rfl fun a hF => step hF (Y.move hF rfl) rfl fun a hF => ?_))))
 obtain ⟨rv_2, hx_2, h⟩ := bind_some h
 refine O.callP (us := [.agg #[iv sv.Hours, iv sv.Gap, .slice p sv.Machines.length c], iv k]) ca_49 hF hS (spare_of_ok hS.stab sv k hs rv_2 hx_2) rfl rfl fun a w hF hS => O.alloc 2 zc_70 hF hS rfl fun b_1 a w hF hS => O.store (us := [iv rv_2.SpareMachine.From, iv rv_2.SpareMachine.Warm, iv rv_2.SpareMachine.Life.Low, iv rv_2.SpareMachine.Life.High, iv rv_2.SpareMachine.Drift, iv rv_2.gap]) 2 sz_70 hF rfl rfl rfl rfl hS rfl rfl fun a w hF hS => nT (seq ?_)
 obtain ⟨rv_3, hx_3, h⟩ := bind_some h
 refine drawsV 7 (.flt 0 (.flt 1 (.flt 2 (.flt 4 (.flt 5 (.flt 6 (.alt 3 .done .stop))))))) mixed_ (by kernel_rfl) (fun w => St w0 D0 D0 [(1, .cells b [iv sv.Hours, iv sv.Gap, .slice p sv.Machines.length c] 24), (2, .cells b_1 [iv rv_2.SpareMachine.From, iv rv_2.SpareMachine.Warm, iv rv_2.SpareMachine.Life.Low, iv rv_2.SpareMachine.Life.High, iv rv_2.SpareMachine.Drift, iv rv_2.gap] 70)] w) (fun a w => Frm 32 [] [(4, iv 0), (5, iv 0), (6, iv 0), (27, iv rv_3), (29, tab_0.getD (Int.toNat 1) undef), (30, .agg #[iv rv_2.SpareMachine.From, iv rv_2.SpareMachine.Warm, iv rv_2.SpareMachine.Life.Low, iv rv_2.SpareMachine.Life.High, iv rv_2.SpareMachine.Drift, iv rv_2.gap])] a ∧ St w0 D0 D0 [(1, .cells b [iv sv.Hours, iv sv.Gap, .slice p sv.Machines.length c] 24), (2, .cells b_1 [iv rv_2.SpareMachine.From, iv rv_2.SpareMachine.Warm, iv rv_2.SpareMachine.Life.Low, iv rv_2.SpareMachine.Life.High, iv rv_2.SpareMachine.Drift, iv rv_2.gap] 70)] w) (hS.weak (ms := [(1, .cells b [iv sv.Hours, iv sv.Gap, .slice p sv.Machines.length c] 24), (2, .cells b_1 [iv rv_2.SpareMachine.From, iv rv_2.SpareMachine.Warm, iv rv_2.SpareMachine.Life.Low, iv rv_2.SpareMachine.Life.High, iv rv_2.SpareMachine.Drift, iv rv_2.gap] 70)]) ⟨rfl, rfl, trivial⟩).drew (fun _ _ _ _ h => h) ?_ ?_
 ·replace hS := hS.drew
  have hle0 := hS.le
  refine stepV (i := 0) rfl hF (fun w hS => Y.indexArr u_73 sz_72 hF rfl rfl (show 0 ≤ (0 : Int) ∧ (0 : Int) < ((2 : Nat) : Int) by decide).1 (show 0 ≤ (0 : Int) ∧ (0 : Int) < ((2 : Nat) : Int) by decide).2) rfl fun a hF => ?_
  obtain ⟨E_2, fr_2, hGb_2⟩ := hG
  have hG : Glob _ := ⟨E_2, fr_2, hGb_2⟩
  refine stepV (i := 1) rfl hF (fun w hS => (show Yields _ _ _ _ (tab_0.getD (Int.toNat 0) undef) from Y.load1H (cs := tab_0) sz_72 hF rfl (hS.stab _ _ hGb_2) (tabAt rfl (show 0 ≤ (0 : Int) ∧ (0 : Int) < ((2 : Nat) : Int) by decide)))) rfl fun a hF => stepV (i := 2) rfl hF (fun w hS => Y.loadNL 2 sz_70 hF rfl hS rfl rfl rfl) rfl fun a hF => stepV (i := 4) rfl hF (fun w hS => Y.indexArr u_73 sz_72 hF rfl rfl (show 0 ≤ (1 : Int) ∧ (1 : Int) < ((2 : Nat) : Int) by decide).1 (show 0 ≤ (1 : Int) ∧ (1 : Int) < ((2 : Nat) : Int) by decide).2) rfl fun a hF => ?_
  obtain ⟨E_3, fr_3, hGb_3⟩ := hG
  have hG : Glob _ := ⟨E_3, fr_3, hGb_3⟩
  refine stepV (i := 5) rfl hF (fun w hS => (show Yields _ _ _ _ (tab_0.getD (Int.toNat 1) undef) from Y.load1H (cs := tab_0) sz_72 hF rfl (hS.stab _ _ hGb_3) (tabAt rfl (show 0 ≤ (1 : Int) ∧ (1 : Int) < ((2 : Nat) : Int) by decide)))) rfl fun a hF => stepV (i := 6) rfl hF (fun w hS => Y.loadNL 2 sz_70 hF rfl hS rfl rfl rfl) rfl fun a hF => oneV (i := 3) rfl ?_ trivial
  obtain ⟨f_1, hfv_1, hfc_1, hcall_1⟩ := tab_0_ok hS.stab 0 (show 0 ≤ (0 : Int) ∧ (0 : Int) < ((2 : Nat) : Int) by decide) rv_2  rv_3 hx_3
  refine O.callVP (f := f_1) (first := []) (cap := []) (us := [.agg #[iv rv_2.SpareMachine.From, iv rv_2.SpareMachine.Warm, iv rv_2.SpareMachine.Life.Low, iv rv_2.SpareMachine.Life.High, iv rv_2.SpareMachine.Drift, iv rv_2.gap]]) hfc_1 hF hS (congrArg some hfv_1) rfl hcall_1 rfl fun a w hF hS => nT ⟨hS.weak ⟨rfl, rfl, trivial⟩, ?_⟩
  exact toTailV ⟨hF.weak (AF rfl), hS.weak ⟨rfl, rfl, trivial⟩⟩
 rintro a w ⟨hF, hS⟩
 obtain ⟨rv_4, hx_4, h⟩ := bind_some h
 obtain ⟨f_2, hfv_2, hfc_2, hcall_2⟩ := tab_0_ok hS.stab 1 (show 0 ≤ (1 : Int) ∧ (1 : Int) < ((2 : Nat) : Int) by decide) rv_2  rv_4 hx_4
 refine O.callVP (f := f_2) (first := []) (cap := []) (us := [.agg #[iv rv_2.SpareMachine.From, iv rv_2.SpareMachine.Warm, iv rv_2.SpareMachine.Life.Low, iv rv_2.SpareMachine.Life.High, iv rv_2.SpareMachine.Drift, iv rv_2.gap]]) hfc_2 hF hS (congrArg some hfv_2) rfl hcall_2 rfl fun a w hF hS => step hF (Y.assign hF rfl) rfl fun a hF => step hF (Y.assign hF rfl) rfl fun a hF => step hF (Y.assign hF rfl) rfl fun a hF => nT (ret_ ?_)
 obtain rfl := some_inj h
 exact leaveP Tryd.results15 hF hS (.cons (.tmp rfl) (.cons (.tmp rfl) (.cons (.tmp rfl) .nil))) .nil rfl
noncomputable def spare_off (sv : SpareStore) (t : SpareTurn) (hour : Int) : Option Int :=
  (idx sv.Machines t.Machine).bind fun e =>
  some (wr (e.Drift * (wr ((wr (hour - t.Start)) - e.Warm))))
theorem spare_off_ok {w0 : World} {D0 : Stab} (hD : D0.on w0) (sv : SpareStore) (t : SpareTurn) (hour : Int) {p : Option Addr} {c : Nat} (hs : SRc C_SpareMachine D0 sv.Machines p c) (out : Int) (h : spare_off sv t hour = some out) : Calls Tryd.prog 68 [.agg #[iv sv.Hours, iv sv.Gap, .slice p sv.Machines.length c], .agg #[iv t.Machine, iv t.Start, iv t.Over], iv hour].toArray w0 (RetP D0 w0 (iv out)) := by
 refine enter _ 24 Tryd.func68 rfl Tryd.ntmps68 rfl fun a hF => ?_
 replace hF : Frm 24 [] [(0, .agg #[iv sv.Hours, iv sv.Gap, .slice p sv.Machines.length c]), (1, .agg #[iv t.Machine, iv t.Start, iv t.Over]), (2, iv hour)] a := hF
 have hS := St.start hD
 unfold spare_off at h
 refine seq (region (O.box (cs := [iv sv.Hours, iv sv.Gap, .slice p sv.Machines.length c]) 1 hF rfl rfl hS rfl fun b a w hF hS => O.box (cs := [iv t.Machine, iv t.Start, iv t.Over]) 2 hF rfl rfl hS rfl fun b_1 a w hF hS => step hF (Y.assign hF rfl) rfl fun a hF => nT (seq (region (step hF (Y.fieldAddr fo_24_2 hF rfl) rfl fun a hF => step hF (Y.load1L 1 sz_22 hF rfl hS rfl rfl) rfl fun a hF => step hF (Y.fieldAddr fo_46_0 hF rfl) rfl fun a hF => step hF (Y.load1L 2 sz_3 hF rfl hS rfl rfl) rfl fun a hF => ?_)))))
 obtain ⟨e, hx, h⟩ := bind_some h
 obtain ⟨b_2, o, hE, hY⟩ := Y.indexS (P := Tryd.prog) (C := C_SpareMachine) (xs := sv.Machines) (T := 22) (x := (.tmp 9)) (y := (.tmp 11)) u_22 sz_52 hF rfl rfl (hs).1 hx
 obtain ⟨cc, hc, hcell⟩ := hE.open
 obtain rfl := C_SpareMachine.open hc
 refine step hF (hY) rfl fun a hF => step hF (Y.loadNE (o := o) (k := 0) sz_52 hF rfl (hcell _ hS.stab) rfl rfl) rfl fun a hF => O.alloc 3 zc_52 hF hS rfl fun b_3 a w hF hS => O.store (us := [iv e.From, iv e.Warm, iv e.Life.Low, iv e.Life.High, iv e.Drift]) 3 sz_52 hF rfl rfl rfl rfl hS rfl rfl fun a w hF hS => nT (seq (region (step hF (Y.fieldAddr fo_52_3 hF rfl) rfl fun a hF => step hF (Y.load1L 3 sz_3 hF rfl hS rfl rfl) rfl fun a hF => step hF (Y.move hF rfl) rfl fun a hF => step hF (Y.fieldAddr fo_46_1 hF rfl) rfl fun a hF => step hF (Y.load1L 2 sz_3 hF rfl hS rfl rfl) rfl fun a hF => step hF (Y.sub hF rfl rfl) rfl fun a hF => step hF (Y.fieldAddr fo_52_1 hF rfl) rfl fun a hF => step hF (Y.load1L 3 sz_3 hF rfl hS rfl rfl) rfl fun a hF => step hF (Y.sub hF rfl rfl) rfl fun a hF => step hF (Y.mul hF rfl rfl) rfl fun a hF => step hF (Y.assign hF rfl) rfl fun a hF => nT (ret_ ?_))))
 obtain rfl := some_inj h
 exact leaveP Tryd.results68 hF hS (.cons (.tmp rfl) .nil) .nil rfl
noncomputable def spare_isPlan_k2 (sv : SpareStore) (plan : (List SpareTurn)) (v6_0 : Bool) (v14_0 : Int) (l : (List Bool)) (e : SpareTurn) (e_1 : SpareMachine) (over : Int) : Option ((Bool × Int × (List Bool)) ⊕ Bool) :=
  cond ((((((v14_0 == 0) && (e.Over != 0)) || (decide (e.Start < e_1.From))) || (decide ((wr (e.Over - e.Start)) < e_1.Warm))) || (decide (over ≤ e.Over))) || (decide ((wr (over - e.Start)) > e_1.Life.Low)))
  (ext (some false))
  ((cond (decide (v14_0 > 0)) ((idx plan (wr (v14_0 - 1))).bind fun e_2 =>
  (spare_off sv e_2 e.Over).bind fun rv_1 =>
  (spare_off sv e e.Over).bind fun rv_2 =>
  some (decide ((wr (rv_1 + rv_2)) > sv.Gap))) (some false)).bind fun t_1 =>
  cond t_1
  (ext (some false))
  (nxt (v6_0, wr (v14_0 + 1), (l.set (Int.toNat e.Machine) true))))
noncomputable def spare_isPlan_b1 (sv : SpareStore) (plan : (List SpareTurn)) (hours : Int) : (Bool × Int × (List Bool)) → Option ((Bool × Int × (List Bool)) ⊕ Bool)
 | (v6_0, v14_0, l) =>
  cond (decide (v14_0 < (plan.length : Int)))
  ((idx plan v14_0).bind fun e =>
  (spare_lies e.Machine 0 (wr ((sv.Machines.length : Int) - 1))).bind fun rv =>
  (cond (!rv) (some true) (if (0 : Int) ≤ e.Machine ∧ e.Machine < ((8 : Nat) : Int) then
  some (l.getD (Int.toNat e.Machine) false)
  else none)).bind fun t =>
  cond t
  (ext (some false))
  (if (0 : Int) ≤ e.Machine ∧ e.Machine < ((8 : Nat) : Int) then
  (idx sv.Machines e.Machine).bind fun e_1 =>
  cond (decide ((wr (v14_0 + 1)) < (plan.length : Int)))
  ((idx plan (wr (v14_0 + 1))).bind fun e_3 =>
  spare_isPlan_k2 sv plan v6_0 v14_0 l e e_1 e_3.Over)
  (spare_isPlan_k2 sv plan v6_0 v14_0 l e e_1 hours)
  else none))
  (ext (some (!(l == (List.replicate 8 false)))))
noncomputable def spare_isPlan (sv : SpareStore) (plan : (List SpareTurn)) (hours : Int) : Option Bool :=
  loopU (spare_isPlan_b1 sv plan hours) (false, 0, (List.replicate 8 false))
theorem spare_isPlan_ok {w0 : World} {D0 : Stab} (hD : D0.on w0) (sv : SpareStore) (plan : (List SpareTurn)) (hours : Int) {p : Option Addr} {c : Nat} {p_1 : Option Addr} {c_1 : Nat} (hs : SRc C_SpareMachine D0 sv.Machines p c) (hs_1 : SRc C_SpareTurn D0 plan p_1 c_1) (out : Bool) (h : spare_isPlan sv plan hours = some out) : Calls Tryd.prog 53 [.agg #[iv sv.Hours, iv sv.Gap, .slice p sv.Machines.length c], .slice p_1 plan.length c_1, iv hours].toArray w0 (RetP D0 w0 (.bool out)) := by
 refine enter _ 120 Tryd.func53 rfl Tryd.ntmps53 rfl fun a hF => ?_
 replace hF : Frm 120 [] [(0, .agg #[iv sv.Hours, iv sv.Gap, .slice p sv.Machines.length c]), (1, .slice p_1 plan.length c_1), (2, iv hours)] a := hF
 have hS := St.start hD
 unfold spare_isPlan at h
 refine seq (region (O.box (cs := [iv sv.Hours, iv sv.Gap, .slice p sv.Machines.length c]) 1 hF rfl rfl hS rfl fun b a w hF hS => step hF (Y.assign hF rfl) rfl fun a hF => nT (seq (region (O.alloc 2 zc_95 hF hS rfl fun b_1 a w hF hS => nT (seq (seq (region (step hF (Y.move hF rfl) rfl fun a hF => step hF (Y.lenSl u_25 hF rfl) rfl fun a hF => step hF (Y.move hF rfl) rfl fun a hF => nT (block (loop_cut (body := spare_isPlan_b1 sv plan hours) (out := out) (fun s a w => ∃ (v6_0 : Bool) (v14_0 : Int) (l : (List Bool)), ∃ (Dv : Stab), s = (v6_0, v14_0, l) ∧ D0.le Dv ∧ Frm 120 [] [(1, .slice p_1 plan.length c_1), (2, iv hours), (3, .pointer (some ⟨b, 0, none⟩)), (6, .bool v6_0), (7, .pointer (some ⟨b_1, 0, none⟩)), (12, .slice p_1 plan.length c_1), (13, iv (plan.length : Int)), (14, iv v14_0)] a ∧ St w0 D0 Dv [(1, .cells b [iv sv.Hours, iv sv.Gap, .slice p sv.Machines.length c] 24), (2, .cells b_1 (arr celB l) 95)] w ∧ l.length = 8) (false, 0, (List.replicate 8 false)) h ⟨false, 0, (List.replicate 8 false), D0, rfl, Stab.le.refl _, hF.weak (AF rfl), hS.weak ⟨rfl, rfl, trivial⟩, List.length_replicate⟩ ?_)))))))))))
 rintro s a w xo ⟨v6_0, v14_0, l, Dv, rfl, hlev, hF, hS, hn⟩ h hxo
 unfold spare_isPlan_b1 at h
 dsimp only at h
 replace hs := hs.mono hlev
 replace hs_1 := hs_1.mono hlev
 refine seq (region (step hF (Y.lss hF rfl rfl) rfl fun a hF => nT (seq (cond_b hF rfl (fun hbv => ?_) (fun hbv => ?_)))))
 ·replace h := cond_t h hbv
  refine skip_ (then_n (seq (block (seq (region (step hF (Y.move hF rfl) rfl fun a hF => ?_))))))
  obtain ⟨e, hx, h⟩ := bind_some h
  obtain ⟨b_2, o, hE, hY⟩ := Y.indexS (P := Tryd.prog) (C := C_SpareTurn) (xs := plan) (T := 25) (x := (.tmp 12)) (y := (.tmp 14)) u_25 sz_46 hF rfl rfl (hs_1).1 hx
  obtain ⟨cc, hc, hcell⟩ := hE.open
  obtain rfl := C_SpareTurn.open hc
  refine step hF (hY) rfl fun a hF => step hF (Y.loadNE (o := o) (k := 0) sz_46 hF rfl (hcell _ hS.stab) rfl rfl) rfl fun a hF => O.alloc 3 zc_46 hF hS rfl fun b_3 a w hF hS => step hF (Y.assign hF rfl) rfl fun a hF => O.store (us := [iv e.Machine, iv e.Start, iv e.Over]) 3 sz_46 hF rfl rfl rfl rfl hS rfl rfl fun a w hF hS => nT (seq (seq (region (step hF (Y.fieldAddr fo_46_0 hF rfl) rfl fun a hF => step hF (Y.load1L 3 sz_3 hF rfl hS rfl rfl) rfl fun a hF => step hF (Y.fieldAddr fo_24_2 hF rfl) rfl fun a hF => step hF (Y.load1L 1 sz_22 hF rfl hS rfl rfl) rfl fun a hF => step hF (Y.lenSl u_22 hF rfl) rfl fun a hF => step hF (Y.sub hF rfl rfl) rfl fun a hF => ?_))))
  obtain ⟨rv, hx_1, h⟩ := bind_some h
  refine O.callP (us := [iv e.Machine, iv 0, iv (wr ((sv.Machines.length : Int) - 1))]) ca_48 hF hS (spare_lies_ok hS.stab e.Machine 0 (wr ((sv.Machines.length : Int) - 1)) rv hx_1) rfl rfl fun a w hF hS => step hF (Y.not hF rfl) rfl fun a hF => step hF (Y.move hF rfl) rfl fun a hF => ?_
  obtain ⟨t, ht, h⟩ := bind_some h
  refine join (N := 120) (rs := []) (w0 := w0) (D0 := D0) 5 (us := [(1, .slice p_1 plan.length c_1), (2, iv hours), (3, .pointer (some ⟨b, 0, none⟩)), (6, .bool v6_0), (7, .pointer (some ⟨b_1, 0, none⟩)), (8, iv v14_0), (9, .pointer (some ⟨b_3, 0, none⟩)), (12, .slice p_1 plan.length c_1), (13, iv (plan.length : Int)), (14, iv v14_0), (32, .bool t)]) (ms := [(1, .cells b [iv sv.Hours, iv sv.Gap, .slice p sv.Machines.length c] 24), (2, .cells b_1 (arr celB l) 95), (3, .cells b_3 [iv e.Machine, iv e.Start, iv e.Over] 46)]) (D' := Dv) ?_ ?_
  ·rcases bcases (!rv) with hbv_1 | hbv_1
   ·skip
    replace h := cond_t ht hbv_1
    refine guard_off hF rfl rfl hbv_1 rfl fun a hF => guard_off hF rfl rfl hbv_1 rfl fun a hF => guard_off hF rfl rfl hbv_1 rfl fun a hF => guard_off hF rfl rfl hbv_1 rfl fun a hF => step hF (Y.pick_t hF rfl hbv_1 rfl) rfl fun a hF => ?_
    obtain rfl := some_inj h
    exact nT ⟨hF.weak (AF rfl), hS.weak (AL rfl)⟩
   replace h := cond_f ht hbv_1
   refine guard_on hF rfl rfl hbv_1 (step hF (Y.fieldAddr fo_46_0 hF rfl) rfl fun a hF => guard_on hF rfl rfl hbv_1 (step hF (Y.load1L 3 sz_3 hF rfl hS rfl rfl) rfl fun a hF => ?_))
   obtain ⟨hg, h⟩ := ite_some h
   refine guard_on hF rfl rfl hbv_1 (step hF (Y.indexArr u_95 sz_4 hF rfl rfl hg.1 hg.2) rfl fun a hF => guard_on hF rfl rfl hbv_1 (step hF ((show Yields _ _ _ _ (.bool (l.getD (Int.toNat e.Machine) false)) from Y.load1A (F := celB) 2 false sz_4 hn hg hF rfl hS rfl)) rfl fun a hF => step hF (Y.pick_f hF rfl hbv_1 rfl) rfl fun a hF => ?_))
   obtain rfl := some_inj h
   exact nT ⟨hF.weak (AF rfl), hS.weak (AL rfl)⟩
  intro a w hF hS
  refine nT (cond_b hF rfl (fun hbv_2 => ?_) (fun hbv_2 => ?_))
  ·replace h := cond_t h hbv_2
   refine seq (region (step hF (Y.assign hF rfl) rfl fun a hF => nT (ret_ (then_r (blk_r (then_r (then_r (blk_r (then_r ?_)))))))))
   replace h := ext_some h hxo
   obtain rfl := some_inj h
   exact leaveP Tryd.results53 hF hS (.cons (.tmp rfl) .nil) .nil rfl
  replace h := cond_f h hbv_2
  refine skip_ (then_n (seq (region (step hF (Y.fieldAddr fo_46_0 hF rfl) rfl fun a hF => step hF (Y.load1L 3 sz_3 hF rfl hS rfl rfl) rfl fun a hF => ?_))))
  obtain ⟨hg_1, h⟩ := ite_some h
  refine step hF (Y.indexArr u_95 sz_4 hF rfl rfl hg_1.1 hg_1.2) rfl fun a hF => O.storeA (F := celB) (u := true) 2 sz_4 hn hg_1 hF rfl rfl hS rfl fun a w hF hS => nT (seq (region (step hF (Y.fieldAddr fo_24_2 hF rfl) rfl fun a hF => step hF (Y.load1L 1 sz_22 hF rfl hS rfl rfl) rfl fun a hF => step hF (Y.fieldAddr fo_46_0 hF rfl) rfl fun a hF => step hF (Y.load1L 3 sz_3 hF rfl hS rfl rfl) rfl fun a hF => ?_)))
  obtain ⟨e_1, hx_2, h⟩ := bind_some h
  obtain ⟨b_4, o_1, hE_1, hY_1⟩ := Y.indexS (P := Tryd.prog) (C := C_SpareMachine) (xs := sv.Machines) (T := 22) (x := (.tmp 37)) (y := (.tmp 39)) u_22 sz_52 hF rfl rfl (hs).1 hx_2
  obtain ⟨cc_1, hc_1, hcell_1⟩ := hE_1.open
  obtain rfl := C_SpareMachine.open hc_1
  refine step hF (hY_1) rfl fun a hF => step hF (Y.loadNE (o := o_1) (k := 0) sz_52 hF rfl (hcell_1 _ hS.stab) rfl rfl) rfl fun a hF => step hF (Y.move hF rfl) rfl fun a hF => O.alloc 4 zc_52 hF hS rfl fun b_5 a w hF hS => O.store (us := [iv e_1.From, iv e_1.Warm, iv e_1.Life.Low, iv e_1.Life.High, iv e_1.Drift]) 4 sz_52 hF rfl rfl rfl rfl hS rfl rfl fun a w hF hS => step hF (Y.assign hF rfl) rfl fun a hF => nT (seq_cut (fun a w => ∃ (over : Int), Frm 120 [] [(1, .slice p_1 plan.length c_1), (2, iv hours), (3, .pointer (some ⟨b, 0, none⟩)), (6, .bool v6_0), (7, .pointer (some ⟨b_1, 0, none⟩)), (8, iv v14_0), (9, .pointer (some ⟨b_3, 0, none⟩)), (10, .pointer (some ⟨b_5, 0, none⟩)), (11, iv over), (12, .slice p_1 plan.length c_1), (13, iv (plan.length : Int)), (14, iv v14_0)] a ∧ St w0 D0 Dv [(1, .cells b [iv sv.Hours, iv sv.Gap, .slice p sv.Machines.length c] 24), (2, .cells b_1 (arr celB (l.set (Int.toNat e.Machine) true)) 95), (3, .cells b_3 [iv e.Machine, iv e.Start, iv e.Over] 46), (4, .cells b_5 [iv e_1.From, iv e_1.Warm, iv e_1.Life.Low, iv e_1.Life.High, iv e_1.Drift] 52)] w ∧ spare_isPlan_k2 sv plan v6_0 v14_0 l e e_1 over = some xo) ?_ ?_)
  ·skip
   refine seq (region (step hF (Y.move hF rfl) rfl fun a hF => step hF (Y.add hF rfl rfl) rfl fun a hF => step hF (Y.move hF rfl) rfl fun a hF => step hF (Y.lenSl u_25 hF rfl) rfl fun a hF => step hF (Y.lss hF rfl rfl) rfl fun a hF => nT (cond_b hF rfl (fun hbv_11 => ?_) (fun hbv_11 => ?_))))
   ·replace h := cond_t h hbv_11
    refine region (step hF (Y.move hF rfl) rfl fun a hF => step hF (Y.move hF rfl) rfl fun a hF => step hF (Y.add hF rfl rfl) rfl fun a hF => ?_)
    obtain ⟨e_3, hx_6, h⟩ := bind_some h
    obtain ⟨b_8, o_4, hE_4, hY_4⟩ := Y.indexS (P := Tryd.prog) (C := C_SpareTurn) (xs := plan) (T := 25) (x := (.tmp 48)) (y := (.tmp 50)) u_25 sz_46 hF rfl rfl (hs_1).1 hx_6
    obtain ⟨cc_4, hc_4, hcell_4⟩ := hE_4.open
    obtain rfl := C_SpareTurn.open hc_4
    refine step hF (hY_4) rfl fun a hF => step hF (Y.fieldAddr fo_46_2 hF rfl) rfl fun a hF => step hF (Y.load1 sz_3 hF rfl (hcell_4 _ hS.stab 2 _ rfl)) rfl fun a hF => step hF (Y.assign hF rfl) rfl fun a hF => nT (⟨e_3.Over, hF.weak (AF rfl), hS.weak (AL rfl), h⟩)
   replace h := cond_f h hbv_11
   refine skip_ (then_n (⟨hours, hF.weak (AF rfl), hS.weak (AL rfl), h⟩))
  rintro a w ⟨over, hF, hS, h⟩
  unfold spare_isPlan_k2 at h
  refine seq (seq (region (step hF (Y.move hF rfl) rfl fun a hF => step hF (Y.eql hF rfl rfl) rfl fun a hF => step hF (Y.move hF rfl) rfl fun a hF => join (N := 120) (rs := []) (w0 := w0) (D0 := D0) 4 (us := [(1, .slice p_1 plan.length c_1), (2, iv hours), (3, .pointer (some ⟨b, 0, none⟩)), (6, .bool v6_0), (7, .pointer (some ⟨b_1, 0, none⟩)), (8, iv v14_0), (9, .pointer (some ⟨b_3, 0, none⟩)), (10, .pointer (some ⟨b_5, 0, none⟩)), (11, iv over), (12, .slice p_1 plan.length c_1), (13, iv (plan.length : Int)), (14, iv v14_0), (60, .bool ((v14_0 == 0) && (e.Over != 0)))]) (ms := [(1, .cells b [iv sv.Hours, iv sv.Gap, .slice p sv.Machines.length c] 24), (2, .cells b_1 (arr celB (l.set (Int.toNat e.Machine) true)) 95), (3, .cells b_3 [iv e.Machine, iv e.Start, iv e.Over] 46), (4, .cells b_5 [iv e_1.From, iv e_1.Warm, iv e_1.Life.Low, iv e_1.Life.High, iv e_1.Drift] 52)]) (D' := Dv) ?_ ?_)))
  ·rcases bcases (v14_0 == 0) with hbv_3 | hbv_3
   ·skip
    refine guard_on hF rfl rfl hbv_3 (step hF (Y.fieldAddr fo_46_2 hF rfl) rfl fun a hF => guard_on hF rfl rfl hbv_3 (step hF (Y.load1L 3 sz_3 hF rfl hS rfl rfl) rfl fun a hF => guard_on hF rfl rfl hbv_3 (step hF (Y.neq hF rfl rfl) rfl fun a hF => step hF (Y.pick_t hF rfl hbv_3 rfl) rfl fun a hF => nT ⟨hF.weak ⟨rfl, rfl, rfl, rfl, rfl, rfl, rfl, rfl, rfl, rfl, rfl, rfl, (by rw [hbv_3]; rfl), trivial⟩, hS.weak (AL rfl)⟩)))
   refine guard_off hF rfl rfl hbv_3 rfl fun a hF => guard_off hF rfl rfl hbv_3 rfl fun a hF => guard_off hF rfl rfl hbv_3 rfl fun a hF => step hF (Y.pick_f hF rfl hbv_3 rfl) rfl fun a hF => nT ⟨hF.weak ⟨rfl, rfl, rfl, rfl, rfl, rfl, rfl, rfl, rfl, rfl, rfl, rfl, (by rw [hbv_3]; rfl), trivial⟩, hS.weak (AL rfl)⟩
  intro a w hF hS
  refine step hF (Y.move hF rfl) rfl fun a hF => join (N := 120) (rs := []) (w0 := w0) (D0 := D0) 6 (us := [(1, .slice p_1 plan.length c_1), (2, iv hours), (3, .pointer (some ⟨b, 0, none⟩)), (6, .bool v6_0), (7, .pointer (some ⟨b_1, 0, none⟩)), (8, iv v14_0), (9, .pointer (some ⟨b_3, 0, none⟩)), (10, .pointer (some ⟨b_5, 0, none⟩)), (11, iv over), (12, .slice p_1 plan.length c_1), (13, iv (plan.length : Int)), (14, iv v14_0), (67, .bool (((v14_0 == 0) && (e.Over != 0)) || (decide (e.Start < e_1.From))))]) (ms := [(1, .cells b [iv sv.Hours, iv sv.Gap, .slice p sv.Machines.length c] 24), (2, .cells b_1 (arr celB (l.set (Int.toNat e.Machine) true)) 95), (3, .cells b_3 [iv e.Machine, iv e.Start, iv e.Over] 46), (4, .cells b_5 [iv e_1.From, iv e_1.Warm, iv e_1.Life.Low, iv e_1.Life.High, iv e_1.Drift] 52)]) (D' := Dv) ?_ ?_
  ·rcases bcases ((v14_0 == 0) && (e.Over != 0)) with hbv_4 | hbv_4
   ·skip
    refine guard_off hF rfl rfl hbv_4 rfl fun a hF => guard_off hF rfl rfl hbv_4 rfl fun a hF => guard_off hF rfl rfl hbv_4 rfl fun a hF => guard_off hF rfl rfl hbv_4 rfl fun a hF => guard_off hF rfl rfl hbv_4 rfl fun a hF => step hF (Y.pick_t hF rfl hbv_4 rfl) rfl fun a hF => nT ⟨hF.weak ⟨rfl, rfl, rfl, rfl, rfl, rfl, rfl, rfl, rfl, rfl, rfl, rfl, (by rw [hbv_4]; rfl), trivial⟩, hS.weak (AL rfl)⟩
   refine guard_on hF rfl rfl hbv_4 (step hF (Y.fieldAddr fo_46_1 hF rfl) rfl fun a hF => guard_on hF rfl rfl hbv_4 (step hF (Y.load1L 3 sz_3 hF rfl hS rfl rfl) rfl fun a hF => guard_on hF rfl rfl hbv_4 (step hF (Y.fieldAddr fo_52_0 hF rfl) rfl fun a hF => guard_on hF rfl rfl hbv_4 (step hF (Y.load1L 4 sz_3 hF rfl hS rfl rfl) rfl fun a hF => guard_on hF rfl rfl hbv_4 (step hF (Y.lss hF rfl rfl) rfl fun a hF => step hF (Y.pick_f hF rfl hbv_4 rfl) rfl fun a hF => nT ⟨hF.weak ⟨rfl, rfl, rfl, rfl, rfl, rfl, rfl, rfl, rfl, rfl, rfl, rfl, (by rw [hbv_4]; rfl), trivial⟩, hS.weak (AL rfl)⟩)))))
  intro a w hF hS
  refine step hF (Y.move hF rfl) rfl fun a hF => join (N := 120) (rs := []) (w0 := w0) (D0 := D0) 9 (us := [(1, .slice p_1 plan.length c_1), (2, iv hours), (3, .pointer (some ⟨b, 0, none⟩)), (6, .bool v6_0), (7, .pointer (some ⟨b_1, 0, none⟩)), (8, iv v14_0), (9, .pointer (some ⟨b_3, 0, none⟩)), (10, .pointer (some ⟨b_5, 0, none⟩)), (11, iv over), (12, .slice p_1 plan.length c_1), (13, iv (plan.length : Int)), (14, iv v14_0), (77, .bool ((((v14_0 == 0) && (e.Over != 0)) || (decide (e.Start < e_1.From))) || (decide ((wr (e.Over - e.Start)) < e_1.Warm))))]) (ms := [(1, .cells b [iv sv.Hours, iv sv.Gap, .slice p sv.Machines.length c] 24), (2, .cells b_1 (arr celB (l.set (Int.toNat e.Machine) true)) 95), (3, .cells b_3 [iv e.Machine, iv e.Start, iv e.Over] 46), (4, .cells b_5 [iv e_1.From, iv e_1.Warm, iv e_1.Life.Low, iv e_1.Life.High, iv e_1.Drift] 52)]) (D' := Dv) ?_ ?_
  ·rcases bcases (((v14_0 == 0) && (e.Over != 0)) || (decide (e.Start < e_1.From))) with hbv_5 | hbv_5
   ·skip
    refine guard_off hF rfl rfl hbv_5 rfl fun a hF => guard_off hF rfl rfl hbv_5 rfl fun a hF => guard_off hF rfl rfl hbv_5 rfl fun a hF => guard_off hF rfl rfl hbv_5 rfl fun a hF => guard_off hF rfl rfl hbv_5 rfl fun a hF => guard_off hF rfl rfl hbv_5 rfl fun a hF => guard_off hF rfl rfl hbv_5 rfl fun a hF => guard_off hF rfl rfl hbv_5 rfl fun a hF => step hF (Y.pick_t hF rfl hbv_5 rfl) rfl fun a hF => nT ⟨hF.weak ⟨rfl, rfl, rfl, rfl, rfl, rfl, rfl, rfl, rfl, rfl, rfl, rfl, (by rw [hbv_5]; rfl), trivial⟩, hS.weak (AL rfl)⟩
   refine guard_on hF rfl rfl hbv_5 (step hF (Y.fieldAddr fo_46_2 hF rfl) rfl fun a hF => guard_on hF rfl rfl hbv_5 (step hF (Y.load1L 3 sz_3 hF rfl hS rfl rfl) rfl fun a hF => guard_on hF rfl rfl hbv_5 (step hF (Y.fieldAddr fo_46_1 hF rfl) rfl fun a hF => guard_on hF rfl rfl hbv_5 (step hF (Y.load1L 3 sz_3 hF rfl hS rfl rfl) rfl fun a hF => guard_on hF rfl rfl hbv_5 (step hF (Y.sub hF rfl rfl) rfl fun a hF => guard_on hF rfl rfl hbv_5 (step hF (Y.fieldAddr fo_52_1 hF rfl) rfl fun a hF => guard_on hF rfl rfl hbv_5 (step hF (Y.load1L 4 sz_3 hF rfl hS rfl rfl) rfl fun a hF => guard_on hF rfl rfl hbv_5 (step hF (Y.lss hF rfl rfl) rfl fun a hF => step hF (Y.pick_f hF rfl hbv_5 rfl) rfl fun a hF => nT ⟨hF.weak ⟨rfl, rfl, rfl, rfl, rfl, rfl, rfl, rfl, rfl, rfl, rfl, rfl, (by rw [hbv_5]; rfl), trivial⟩, hS.weak (AL rfl)⟩))))))))
  intro a w hF hS
  refine step hF (Y.move hF rfl) rfl fun a hF => join (N := 120) (rs := []) (w0 := w0) (D0 := D0) 5 (us := [(1, .slice p_1 plan.length c_1), (2, iv hours), (3, .pointer (some ⟨b, 0, none⟩)), (6, .bool v6_0), (7, .pointer (some ⟨b_1, 0, none⟩)), (8, iv v14_0), (9, .pointer (some ⟨b_3, 0, none⟩)), (10, .pointer (some ⟨b_5, 0, none⟩)), (11, iv over), (12, .slice p_1 plan.length c_1), (13, iv (plan.length : Int)), (14, iv v14_0), (83, .bool (((((v14_0 == 0) && (e.Over != 0)) || (decide (e.Start < e_1.From))) || (decide ((wr (e.Over - e.Start)) < e_1.Warm))) || (decide (over ≤ e.Over))))]) (ms := [(1, .cells b [iv sv.Hours, iv sv.Gap, .slice p sv.Machines.length c] 24), (2, .cells b_1 (arr celB (l.set (Int.toNat e.Machine) true)) 95), (3, .cells b_3 [iv e.Machine, iv e.Start, iv e.Over] 46), (4, .cells b_5 [iv e_1.From, iv e_1.Warm, iv e_1.Life.Low, iv e_1.Life.High, iv e_1.Drift] 52)]) (D' := Dv) ?_ ?_
  ·rcases bcases ((((v14_0 == 0) && (e.Over != 0)) || (decide (e.Start < e_1.From))) || (decide ((wr (e.Over - e.Start)) < e_1.Warm))) with hbv_6 | hbv_6
   ·skip
    refine guard_off hF rfl rfl hbv_6 rfl fun a hF => guard_off hF rfl rfl hbv_6 rfl fun a hF => guard_off hF rfl rfl hbv_6 rfl fun a hF => guard_off hF rfl rfl hbv_6 rfl fun a hF => step hF (Y.pick_t hF rfl hbv_6 rfl) rfl fun a hF => nT ⟨hF.weak ⟨rfl, rfl, rfl, rfl, rfl, rfl, rfl, rfl, rfl, rfl, rfl, rfl, (by rw [hbv_6]; rfl), trivial⟩, hS.weak (AL rfl)⟩
   refine guard_on hF rfl rfl hbv_6 (step hF (Y.move hF rfl) rfl fun a hF => guard_on hF rfl rfl hbv_6 (step hF (Y.fieldAddr fo_46_2 hF rfl) rfl fun a hF => guard_on hF rfl rfl hbv_6 (step hF (Y.load1L 3 sz_3 hF rfl hS rfl rfl) rfl fun a hF => guard_on hF rfl rfl hbv_6 (step hF (Y.leq hF rfl rfl) rfl fun a hF => step hF (Y.pick_f hF rfl hbv_6 rfl) rfl fun a hF => nT ⟨hF.weak ⟨rfl, rfl, rfl, rfl, rfl, rfl, rfl, rfl, rfl, rfl, rfl, rfl, (by rw [hbv_6]; rfl), trivial⟩, hS.weak (AL rfl)⟩))))
  intro a w hF hS
  refine step hF (Y.move hF rfl) rfl fun a hF => join (N := 120) (rs := []) (w0 := w0) (D0 := D0) 9 (us := [(1, .slice p_1 plan.length c_1), (2, iv hours), (3, .pointer (some ⟨b, 0, none⟩)), (6, .bool v6_0), (7, .pointer (some ⟨b_1, 0, none⟩)), (8, iv v14_0), (9, .pointer (some ⟨b_3, 0, none⟩)), (12, .slice p_1 plan.length c_1), (13, iv (plan.length : Int)), (14, iv v14_0), (93, .bool ((((((v14_0 == 0) && (e.Over != 0)) || (decide (e.Start < e_1.From))) || (decide ((wr (e.Over - e.Start)) < e_1.Warm))) || (decide (over ≤ e.Over))) || (decide ((wr (over - e.Start)) > e_1.Life.Low))))]) (ms := [(1, .cells b [iv sv.Hours, iv sv.Gap, .slice p sv.Machines.length c] 24), (2, .cells b_1 (arr celB (l.set (Int.toNat e.Machine) true)) 95), (3, .cells b_3 [iv e.Machine, iv e.Start, iv e.Over] 46), (4, .cells b_5 [iv e_1.From, iv e_1.Warm, iv e_1.Life.Low, iv e_1.Life.High, iv e_1.Drift] 52)]) (D' := Dv) ?_ ?_
  ·rcases bcases (((((v14_0 == 0) && (e.Over != 0)) || (decide (e.Start < e_1.From))) || (decide ((wr (e.Over - e.Start)) < e_1.Warm))) || (decide (over ≤ e.Over))) with hbv_7 | hbv_7
   ·skip
    refine guard_off hF rfl rfl hbv_7 rfl fun a hF => guard_off hF rfl rfl hbv_7 rfl fun a hF => guard_off hF rfl rfl hbv_7 rfl fun a hF => guard_off hF rfl rfl hbv_7 rfl fun a hF => guard_off hF rfl rfl hbv_7 rfl fun a hF => guard_off hF rfl rfl hbv_7 rfl fun a hF => guard_off hF rfl rfl hbv_7 rfl fun a hF => guard_off hF rfl rfl hbv_7 rfl fun a hF => step hF (Y.pick_t hF rfl hbv_7 rfl) rfl fun a hF => nT ⟨hF.weak ⟨rfl, rfl, rfl, rfl, rfl, rfl, rfl, rfl, rfl, rfl, (by rw [hbv_7]; rfl), trivial⟩, hS.weak (AL rfl)⟩
   refine guard_on hF rfl rfl hbv_7 (step hF (Y.move hF rfl) rfl fun a hF => guard_on hF rfl rfl hbv_7 (step hF (Y.fieldAddr fo_46_1 hF rfl) rfl fun a hF => guard_on hF rfl rfl hbv_7 (step hF (Y.load1L 3 sz_3 hF rfl hS rfl rfl) rfl fun a hF => guard_on hF rfl rfl hbv_7 (step hF (Y.sub hF rfl rfl) rfl fun a hF => guard_on hF rfl rfl hbv_7 (step hF (Y.fieldAddr fo_52_2 hF rfl) rfl fun a hF => guard_on hF rfl rfl hbv_7 (step hF (Y.fieldAddr fo_50_0 hF rfl) rfl fun a hF => guard_on hF rfl rfl hbv_7 (step hF (Y.load1L 4 sz_3 hF rfl hS rfl rfl) rfl fun a hF => guard_on hF rfl rfl hbv_7 (step hF (Y.gtr hF rfl rfl) rfl fun a hF => step hF (Y.pick_f hF rfl hbv_7 rfl) rfl fun a hF => nT ⟨hF.weak ⟨rfl, rfl, rfl, rfl, rfl, rfl, rfl, rfl, rfl, rfl, (by rw [hbv_7]; rfl), trivial⟩, hS.weak (AL rfl)⟩))))))))
  intro a w hF hS
  refine nT (cond_b hF rfl (fun hbv_8 => ?_) (fun hbv_8 => ?_))
  ·replace h := cond_t h hbv_8
   refine seq (region (step hF (Y.assign hF rfl) rfl fun a hF => nT (ret_ (then_r (blk_r (then_r (then_r (blk_r (then_r ?_)))))))))
   replace h := ext_some h hxo
   obtain rfl := some_inj h
   exact leaveP Tryd.results53 hF hS (.cons (.tmp rfl) .nil) .nil rfl
  replace h := cond_f h hbv_8
  refine skip_ (then_n (seq ?_))
  obtain ⟨t_1, ht_1, h⟩ := bind_some h
  refine drawsV 22 (.flt 0 (.flt 1 (.flt 2 (.flt 3 (.flt 4 (.flt 5 (.flt 6 (.flt 7 (.flt 8 (.flt 9 (.flt 10 (.flt 12 (.flt 13 (.flt 14 (.flt 15 (.flt 18 (.flt 19 (.alt 11 (.alt 16 (.flt 17 (.flt 20 (.flt 21 .done))) .stop) .stop)))))))))))))))))) mixed_ (by kernel_rfl) (fun w => St w0 D0 Dv [(1, .cells b [iv sv.Hours, iv sv.Gap, .slice p sv.Machines.length c] 24), (2, .cells b_1 (arr celB (l.set (Int.toNat e.Machine) true)) 95), (3, .cells b_3 [iv e.Machine, iv e.Start, iv e.Over] 46), (4, .cells b_5 [iv e_1.From, iv e_1.Warm, iv e_1.Life.Low, iv e_1.Life.High, iv e_1.Drift] 52)] w) (fun a w => Frm 120 [] [(1, .slice p_1 plan.length c_1), (2, iv hours), (3, .pointer (some ⟨b, 0, none⟩)), (6, .bool v6_0), (7, .pointer (some ⟨b_1, 0, none⟩)), (12, .slice p_1 plan.length c_1), (13, iv (plan.length : Int)), (14, iv v14_0), (115, .bool t_1)] a ∧ St w0 D0 Dv [(1, .cells b [iv sv.Hours, iv sv.Gap, .slice p sv.Machines.length c] 24), (2, .cells b_1 (arr celB (l.set (Int.toNat e.Machine) true)) 95), (3, .cells b_3 [iv e.Machine, iv e.Start, iv e.Over] 46), (4, .cells b_5 [iv e_1.From, iv e_1.Warm, iv e_1.Life.Low, iv e_1.Life.High, iv e_1.Drift] 52)] w ∧ (l.set (Int.toNat e.Machine) true).length = 8) (hS.weak (ms := [(1, .cells b [iv sv.Hours, iv sv.Gap, .slice p sv.Machines.length c] 24), (2, .cells b_1 (arr celB (l.set (Int.toNat e.Machine) true)) 95), (3, .cells b_3 [iv e.Machine, iv e.Start, iv e.Over] 46), (4, .cells b_5 [iv e_1.From, iv e_1.Warm, iv e_1.Life.Low, iv e_1.Life.High, iv e_1.Drift] 52)]) (AL rfl)).drew (fun _ _ _ _ h => h) ?_ ?_
  ·replace hS := hS.drew
   have hle0 := hS.le
   rcases bcases (decide (v14_0 > 0)) with hbv_9 | hbv_9
   ·skip
    replace ht_1 := cond_t ht_1 hbv_9
    obtain ⟨e_2, hx_3, ht_1⟩ := bind_some ht_1
    obtain ⟨rv_1, hx_4, ht_1⟩ := bind_some ht_1
    obtain ⟨rv_2, hx_5, ht_1⟩ := bind_some ht_1
    obtain rfl := some_inj ht_1
    refine stepV (i := 0) rfl hF (fun w hS => Y.move hF rfl) rfl fun a hF => stepV (i := 1) rfl hF (fun w hS => Y.gtr hF rfl rfl) rfl fun a hF => stepV (i := 2) rfl hF (fun w hS => Y.move hF rfl) rfl fun a hF => stepV_on (i := 3) rfl hF rfl rfl hbv_9 (fun w hS => Y.loadNL 1 sz_24 hF rfl hS rfl rfl rfl) rfl fun a hF => stepV_on (i := 4) rfl hF rfl rfl hbv_9 (fun w hS => Y.move hF rfl) rfl fun a hF => stepV_on (i := 5) rfl hF rfl rfl hbv_9 (fun w hS => Y.move hF rfl) rfl fun a hF => stepV_on (i := 6) rfl hF rfl rfl hbv_9 (fun w hS => Y.sub hF rfl rfl) rfl fun a hF => ?_
    obtain ⟨b_7, o_3, hE_3, hY_3⟩ := Y.indexS (P := Tryd.prog) (C := C_SpareTurn) (xs := plan) (T := 25) (x := (.tmp 98)) (y := (.tmp 100)) u_25 sz_46 hF rfl rfl (hs_1).1 hx_3
    obtain ⟨cc_3, hc_3, hcell_3⟩ := hE_3.open
    obtain rfl := C_SpareTurn.open hc_3
    refine stepV_on (i := 7) rfl hF rfl rfl hbv_9 (fun w hS => hY_3) rfl fun a hF => stepV_on (i := 8) rfl hF rfl rfl hbv_9 (fun w hS => Y.loadNE (o := o_3) (k := 0) sz_46 hF rfl (hcell_3 _ hS.stab) rfl rfl) rfl fun a hF => stepV_on (i := 9) rfl hF rfl rfl hbv_9 (fun w hS => Y.fieldAddr fo_46_2 hF rfl) rfl fun a hF => stepV_on (i := 10) rfl hF rfl rfl hbv_9 (fun w hS => Y.load1L 3 sz_3 hF rfl hS rfl rfl) rfl fun a hF => stepV_on (i := 12) rfl hF rfl rfl hbv_9 (fun w hS => Y.loadNL 1 sz_24 hF rfl hS rfl rfl rfl) rfl fun a hF => stepV_on (i := 13) rfl hF rfl rfl hbv_9 (fun w hS => Y.loadNL 3 sz_46 hF rfl hS rfl rfl rfl) rfl fun a hF => stepV_on (i := 14) rfl hF rfl rfl hbv_9 (fun w hS => Y.fieldAddr fo_46_2 hF rfl) rfl fun a hF => stepV_on (i := 15) rfl hF rfl rfl hbv_9 (fun w hS => Y.load1L 3 sz_3 hF rfl hS rfl rfl) rfl fun a hF => stepV_on (i := 18) rfl hF rfl rfl hbv_9 (fun w hS => Y.fieldAddr fo_24_1 hF rfl) rfl fun a hF => stepV_on (i := 19) rfl hF rfl rfl hbv_9 (fun w hS => Y.load1L 1 sz_3 hF rfl hS rfl rfl) rfl fun a hF => oneV (i := 11) rfl ?_ trivial
    refine guard_on hF rfl rfl hbv_9 (O.callP (us := [.agg #[iv sv.Hours, iv sv.Gap, .slice p sv.Machines.length c], .agg #[iv e_2.Machine, iv e_2.Start, iv e_2.Over], iv e.Over]) ca_68 hF hS (spare_off_ok hS.stab sv e_2 e.Over hs rv_1 hx_4) rfl rfl fun a w hF hS => nT ⟨hS.weak (AL rfl), ?_⟩)
    refine oneV (i := 16) rfl ?_ trivial
    refine guard_on hF rfl rfl hbv_9 (O.callP (us := [.agg #[iv sv.Hours, iv sv.Gap, .slice p sv.Machines.length c], .agg #[iv e.Machine, iv e.Start, iv e.Over], iv e.Over]) ca_68 hF hS (spare_off_ok hS.stab sv e e.Over hs rv_2 hx_5) rfl rfl fun a w hF hS => nT ⟨hS.weak (AL rfl), ?_⟩)
    refine stepV_on (i := 17) rfl hF rfl rfl hbv_9 (fun w hS => Y.add hF rfl rfl) rfl fun a hF => stepV_on (i := 20) rfl hF rfl rfl hbv_9 (fun w hS => Y.gtr hF rfl rfl) rfl fun a hF => stepV (i := 21) rfl hF (fun w hS => Y.pick_t hF rfl hbv_9 rfl) rfl fun a hF => toTailV ⟨hF.weak (AF rfl), hS.weak (AL rfl), ((List.length_set).trans hn)⟩
   replace ht_1 := cond_f ht_1 hbv_9
   obtain rfl := some_inj ht_1
   refine stepV (i := 0) rfl hF (fun w hS => Y.move hF rfl) rfl fun a hF => stepV (i := 1) rfl hF (fun w hS => Y.gtr hF rfl rfl) rfl fun a hF => stepV (i := 2) rfl hF (fun w hS => Y.move hF rfl) rfl fun a hF => stepV_off (i := 3) rfl hF rfl rfl hbv_9 rfl fun a hF => stepV_off (i := 4) rfl hF rfl rfl hbv_9 rfl fun a hF => stepV_off (i := 5) rfl hF rfl rfl hbv_9 rfl fun a hF => stepV_off (i := 6) rfl hF rfl rfl hbv_9 rfl fun a hF => stepV_off (i := 7) rfl hF rfl rfl hbv_9 rfl fun a hF => stepV_off (i := 8) rfl hF rfl rfl hbv_9 rfl fun a hF => stepV_off (i := 9) rfl hF rfl rfl hbv_9 rfl fun a hF => stepV_off (i := 10) rfl hF rfl rfl hbv_9 rfl fun a hF => stepV_off (i := 12) rfl hF rfl rfl hbv_9 rfl fun a hF => stepV_off (i := 13) rfl hF rfl rfl hbv_9 rfl fun a hF => stepV_off (i := 14) rfl hF rfl rfl hbv_9 rfl fun a hF => stepV_off (i := 15) rfl hF rfl rfl hbv_9 rfl fun a hF => stepV_off (i := 18) rfl hF rfl rfl hbv_9 rfl fun a hF => stepV_off (i := 19) rfl hF rfl rfl hbv_9 rfl fun a hF => oneV (i := 11) rfl ?_ trivial
   refine guard_off hF rfl rfl hbv_9 rfl fun a hF => nT ⟨hS.weak (AL rfl), ?_⟩
   refine oneV (i := 16) rfl ?_ trivial
   refine guard_off hF rfl rfl hbv_9 rfl fun a hF => nT ⟨hS.weak (AL rfl), ?_⟩
   refine stepV_off (i := 17) rfl hF rfl rfl hbv_9 rfl fun a hF => stepV_off (i := 20) rfl hF rfl rfl hbv_9 rfl fun a hF => stepV (i := 21) rfl hF (fun w hS => Y.pick_f hF rfl hbv_9 rfl) rfl fun a hF => toTailV ⟨hF.weak (AF rfl), hS.weak (AL rfl), ((List.length_set).trans hn)⟩
  rintro a w ⟨hF, hS, hj⟩
  refine nT (cond_b hF rfl (fun hbv_10 => ?_) (fun hbv_10 => ?_))
  ·replace h := cond_t h hbv_10
   refine seq (region (step hF (Y.assign hF rfl) rfl fun a hF => nT (ret_ (blk_r (then_r (then_r (blk_r (then_r ?_))))))))
   replace h := ext_some h hxo
   obtain rfl := some_inj h
   exact leaveP Tryd.results53 hF hS (.cons (.tmp rfl) .nil) .nil rfl
  replace h := cond_f h hbv_10
  refine skip_ (blk_n (then_n (region (step hF (Y.add hF rfl rfl) rfl fun a hF => step hF (Y.move hF rfl) rfl fun a hF => nT (⟨_, nxt_some h, v6_0, (wr (v14_0 + 1)), (l.set (Int.toNat e.Machine) true), Dv, rfl, hlev, hF.weak (AF rfl), hS.weak ⟨rfl, rfl, trivial⟩, hj⟩)))))
 replace h := cond_f h hbv
 refine exit_ (then_x (then_x (blk_hit (then_n ?_))))
 replace h := ext_some h hxo
 refine seq (region (step hF (Y.loadA (F := celB) 2 sz_95 hn hF rfl hS rfl) rfl fun a hF => step hF (Y.build (parts := []) (cs := (arr celB (List.replicate 8 false)).toArray) hF rfl (by kernel_rfl)) rfl fun a hF => step hF (Y.nest (fun w => run_equal_arr (F := celB) u_95 sz_4 (fun D x y w => eqB u_4 D x y w) hn List.length_replicate) (fun w => run_eqGuard_agg _ _ _ _ _ _ _ eg_95) hF rfl rfl) rfl fun a hF => step hF (Y.assign hF rfl) rfl fun a hF => nT (ret_ ?_)))
 obtain rfl := some_inj h
 exact leaveP Tryd.results53 hF hS (.cons (.tmp rfl) .nil) .nil rfl
noncomputable def spare_IsPlan (sv : SpareStore) (plan : (List SpareTurn)) : Option (Bool × Int) :=
  (spare_Check sv).bind fun rv =>
  cond (rv != 0)
  (some (false, rv))
  ((spare_isPlan sv plan sv.Hours).bind fun rv_1 =>
  some (rv_1, 0))
theorem spare_IsPlan_ok {w0 : World} {D0 : Stab} (hD : D0.on w0) (sv : SpareStore) (plan : (List SpareTurn)) {p : Option Addr} {c : Nat} {p_1 : Option Addr} {c_1 : Nat} (hs : SRc C_SpareMachine D0 sv.Machines p c) (hs_1 : SRc C_SpareTurn D0 plan p_1 c_1) (out : (Bool × Int)) (h : spare_IsPlan sv plan = some out) : Calls Tryd.prog 19 [.agg #[iv sv.Hours, iv sv.Gap, .slice p sv.Machines.length c], .slice p_1 plan.length c_1].toArray w0 (RetP D0 w0 (.tuple #[.bool out.1, iv out.2])) := by
 refine enter _ 17 Tryd.func19 rfl Tryd.ntmps19 rfl fun a hF => ?_
 replace hF : Frm 17 [] [(0, .agg #[iv sv.Hours, iv sv.Gap, .slice p sv.Machines.length c]), (1, .slice p_1 plan.length c_1)] a := hF
 have hS := St.start hD
 unfold spare_IsPlan at h
 refine seq (region (O.box (cs := [iv sv.Hours, iv sv.Gap, .slice p sv.Machines.length c]) 1 hF rfl rfl hS rfl fun b a w hF hS => step hF (Y.assign hF rfl) rfl fun a hF => step hF (Y.assign hF rfl) rfl fun a hF => nT (seq (seq (region (step hF (Y.loadNL 1 sz_24 hF rfl hS rfl rfl rfl) rfl fun a hF => ?_))))))
 obtain ⟨rv, hx, h⟩ := bind_some h
 refine O.callP (us := [.agg #[iv sv.Hours, iv sv.Gap, .slice p sv.Machines.length c]]) ca_17 hF hS (spare_Check_ok hS.stab sv hs rv hx) rfl rfl fun a w hF hS => step hF (Y.assign hF rfl) rfl fun a hF => nT (seq (region (step hF (Y.move hF rfl) rfl fun a hF => step hF (Y.neq hF rfl rfl) rfl fun a hF => nT (cond_b hF rfl (fun hbv => ?_) (fun hbv => ?_)))))
 ·replace h := cond_t h hbv
  refine seq (region (step hF (Y.move hF rfl) rfl fun a hF => step hF (Y.assign hF rfl) rfl fun a hF => step hF (Y.assign hF rfl) rfl fun a hF => nT (ret_ (then_r ?_))))
  obtain rfl := some_inj h
  exact leaveP Tryd.results19 hF hS (.cons (.tmp rfl) (.cons (.tmp rfl) .nil)) .nil rfl
 replace h := cond_f h hbv
 refine skip_ (then_n (seq (region (step hF (Y.loadNL 1 sz_24 hF rfl hS rfl rfl rfl) rfl fun a hF => step hF (Y.move hF rfl) rfl fun a hF => step hF (Y.fieldAddr fo_24_0 hF rfl) rfl fun a hF => step hF (Y.load1L 1 sz_3 hF rfl hS rfl rfl) rfl fun a hF => ?_))))
 obtain ⟨rv_1, hx_1, h⟩ := bind_some h
 refine O.callP (us := [.agg #[iv sv.Hours, iv sv.Gap, .slice p sv.Machines.length c], .slice p_1 plan.length c_1, iv sv.Hours]) ca_53 hF hS (spare_isPlan_ok hS.stab sv plan sv.Hours hs hs_1 rv_1 hx_1) rfl rfl fun a w hF hS => step hF (Y.assign hF rfl) rfl fun a hF => step hF (Y.assign hF rfl) rfl fun a hF => nT (ret_ ?_)
 obtain rfl := some_inj h
 exact leaveP Tryd.results19 hF hS (.cons (.tmp rfl) (.cons (.tmp rfl) .nil)) .nil rfl
noncomputable def spare_count_b1  : (Int × Int) → Option ((Int × Int) ⊕ Int)
 | (set_1, n) =>
  cond (decide (set_1 > 0))
  (nxt (bitsOp .and set_1 (wr (set_1 - 1)), wr (n + 1)))
  (ext (some n))
noncomputable def spare_count (set : Int) : Option Int :=
  loopU (spare_count_b1) (set, 0)
theorem spare_count_ok {w0 : World} {D0 : Stab} (hD : D0.on w0) (set : Int) (out : Int) (h : spare_count set = some out) : Calls Tryd.prog 58 [iv set].toArray w0 (RetP D0 w0 (iv out)) := by
 refine enter _ 13 Tryd.func58 rfl Tryd.ntmps58 rfl fun a hF => ?_
 replace hF : Frm 13 [] [(0, iv set)] a := hF
 have hS := St.start hD
 unfold spare_count at h
 refine seq (region (step hF (Y.assign hF rfl) rfl fun a hF => nT (seq (region (step hF (Y.assign hF rfl) rfl fun a hF => nT (seq (block (loop_cut (body := spare_count_b1) (out := out) (fun s a w => ∃ (set_1 : Int) (n : Int), s = (set_1, n) ∧ Frm 13 [] [(0, iv set_1), (2, iv 0), (3, iv n)] a ∧ St w0 D0 D0 [] w) (set, 0) h ⟨set, 0, rfl, hF.weak (AF rfl), hS.weak trivial⟩ ?_))))))))
 rintro s a w xo ⟨set_1, n, rfl, hF, hS⟩ h hxo
 unfold spare_count_b1 at h
 dsimp only at h
 refine seq (seq (region (step hF (Y.move hF rfl) rfl fun a hF => step hF (Y.gtr hF rfl rfl) rfl fun a hF => nT (cond_b hF rfl (fun hbv => ?_) (fun hbv => ?_)))))
 ·replace h := cond_t h hbv
  refine skip_ (then_n (seq (block (region (step hF (Y.move hF rfl) rfl fun a hF => step hF (Y.add hF rfl rfl) rfl fun a hF => step hF (Y.assign hF rfl) rfl fun a hF => nil (blk_n (then_n (region (step hF (Y.move hF rfl) rfl fun a hF => step hF (Y.move hF rfl) rfl fun a hF => step hF (Y.sub hF rfl rfl) rfl fun a hF => step hF (Y.and hF rfl rfl) rfl fun a hF => step hF (Y.assign hF rfl) rfl fun a hF => nT (⟨_, nxt_some h, (bitsOp .and set_1 (wr (set_1 - 1))), (wr (n + 1)), rfl, hF.weak (AF rfl), hS.weak trivial⟩))))))))))
 replace h := cond_f h hbv
 refine exit_ (then_x (then_x (blk_hit (then_n ?_))))
 replace h := ext_some h hxo
 refine seq (region (step hF (Y.move hF rfl) rfl fun a hF => step hF (Y.assign hF rfl) rfl fun a hF => nT (ret_ ?_)))
 obtain rfl := some_inj h
 exact leaveP Tryd.results58 hF hS (.cons (.tmp rfl) .nil) .nil rfl
noncomputable def spare_all (sv : SpareStore) : Option Int :=
  if ¬ (sv.Machines.length : Int) < 0 then
  some (wr ((gshl 1 (sv.Machines.length : Int)) - 1))
  else none
theorem spare_all_ok {w0 : World} {D0 : Stab} (hD : D0.on w0) (sv : SpareStore) {p : Option Addr} {c : Nat} (hs : SRc C_SpareMachine D0 sv.Machines p c) (out : Int) (h : spare_all sv = some out) : Calls Tryd.prog 57 [.agg #[iv sv.Hours, iv sv.Gap, .slice p sv.Machines.length c]].toArray w0 (RetP D0 w0 (iv out)) := by
 refine enter _ 8 Tryd.func57 rfl Tryd.ntmps57 rfl fun a hF => ?_
 replace hF : Frm 8 [] [(0, .agg #[iv sv.Hours, iv sv.Gap, .slice p sv.Machines.length c])] a := hF
 have hS := St.start hD
 unfold spare_all at h
 refine seq (region (O.box (cs := [iv sv.Hours, iv sv.Gap, .slice p sv.Machines.length c]) 1 hF rfl rfl hS rfl fun b a w hF hS => step hF (Y.assign hF rfl) rfl fun a hF => nT (seq (region (step hF (Y.fieldAddr fo_24_2 hF rfl) rfl fun a hF => step hF (Y.load1L 1 sz_22 hF rfl hS rfl rfl) rfl fun a hF => step hF (Y.lenSl u_22 hF rfl) rfl fun a hF => ?_)))))
 obtain ⟨hg, h⟩ := ite_some h
 refine step hF (Y.shl hF rfl rfl hg) rfl fun a hF => step hF (Y.sub hF rfl rfl) rfl fun a hF => step hF (Y.assign hF rfl) rfl fun a hF => nT (ret_ ?_)
 obtain rfl := some_inj h
 exact leaveP Tryd.results57 hF hS (.cons (.tmp rfl) .nil) .nil rfl
noncomputable def spare_store_follow (sv : spare_store) (set : Int) (hour : Int) (way : Int) : Option (spare_store × Int × Int × Int) :=
  some (sv, set, hour, way)
theorem spare_store_follow_ok {w0 : World} {D0 : Stab} (hD : D0.on w0) (sv : spare_store) (set : Int) (hour : Int) (way : Int) {p : Option Addr} {c : Nat} {bm : Option Nat} {bm_1 : Option Nat} (hs : SRc C_SpareMachine D0 sv.SpareStore.Machines p c) (out : (spare_store × Int × Int × Int)) (h : spare_store_follow sv set hour way = some out) : Calls Tryd.prog 71 [.agg #[iv sv.SpareStore.Hours, iv sv.SpareStore.Gap, .slice p sv.SpareStore.Machines.length c, .map bm, .map bm_1], iv set, iv hour, iv way].toArray w0 (RetS D0 w0 fun D v => ∃ bb bb_1 bb_2 bb_3 p_1 c_1 bm_2 bm_3, v = .func (.func 76) #[] #[.pointer (some ⟨bb, 0, none⟩), .pointer (some ⟨bb_1, 0, none⟩), .pointer (some ⟨bb_2, 0, none⟩), .pointer (some ⟨bb_3, 0, none⟩)] ∧ D bb = some (.cells ([iv out.1.SpareStore.Hours, iv out.1.SpareStore.Gap, .slice p_1 out.1.SpareStore.Machines.length c_1, .map bm_2, .map bm_3]).toArray 80 (0, 0)) ∧ D bb_1 = some (.cells ([iv out.2.1]).toArray 3 (0, 0)) ∧ D bb_2 = some (.cells ([iv out.2.2.1]).toArray 3 (0, 0)) ∧ D bb_3 = some (.cells ([iv out.2.2.2]).toArray 3 (0, 0)) ∧ SRc C_SpareMachine D out.1.SpareStore.Machines p_1 c_1) := by
 refine enter _ 10 Tryd.func71 rfl Tryd.ntmps71 rfl fun a hF => ?_
 replace hF : Frm 10 [] [(0, .agg #[iv sv.SpareStore.Hours, iv sv.SpareStore.Gap, .slice p sv.SpareStore.Machines.length c, .map bm, .map bm_1]), (1, iv set), (2, iv hour), (3, iv way)] a := hF
 have hS := St.start hD
 unfold spare_store_follow at h
 refine seq (region (O.box (cs := [iv sv.SpareStore.Hours, iv sv.SpareStore.Gap, .slice p sv.SpareStore.Machines.length c, .map bm, .map bm_1]) 1 hF rfl rfl hS rfl fun b a w hF hS => O.box (cs := [iv set]) 2 hF rfl rfl hS rfl fun b_1 a w hF hS => O.box (cs := [iv hour]) 3 hF rfl rfl hS rfl fun b_2 a w hF hS => O.box (cs := [iv way]) 4 hF rfl rfl hS rfl fun b_3 a w hF hS => step hF (Y.assign hF rfl) rfl fun a hF => nT (seq (region (step hF (Y.makeFunc (first := []) (cap := [(.tmp 4), (.tmp 5), (.tmp 6), (.tmp 7)]) (fs := []) (cs := [.pointer (some ⟨b, 0, none⟩), .pointer (some ⟨b_1, 0, none⟩), .pointer (some ⟨b_2, 0, none⟩), .pointer (some ⟨b_3, 0, none⟩)]) hF rfl rfl) rfl fun a hF => step hF (Y.assign hF rfl) rfl fun a hF => nT (ret_ ?_))))))
 obtain ⟨Dv, hlev, hbv, hS⟩ := hS.freezeB (i := 1) rfl
 replace hs := hs.mono hlev
 obtain ⟨Dv_1, hlev_1, hbv_1, hS⟩ := hS.freezeB (i := 2) rfl
 replace hs := hs.mono hlev_1
 replace hbv := hlev_1 _ _ hbv
 obtain ⟨Dv_2, hlev_2, hbv_2, hS⟩ := hS.freezeB (i := 3) rfl
 replace hs := hs.mono hlev_2
 replace hbv := hlev_2 _ _ hbv
 replace hbv_1 := hlev_2 _ _ hbv_1
 obtain ⟨Dv_3, hlev_3, hbv_3, hS⟩ := hS.freezeB (i := 4) rfl
 replace hs := hs.mono hlev_3
 replace hbv := hlev_3 _ _ hbv
 replace hbv_1 := hlev_3 _ _ hbv_1
 replace hbv_2 := hlev_3 _ _ hbv_2
 obtain rfl := some_inj h
 exact leaveS Tryd.results71 hF hS (.cons (.tmp rfl) .nil) .nil ⟨_, _, _, _, _, _, _, _, rfl, hbv, hbv_1, hbv_2, hbv_3, hs⟩
noncomputable def spare_store_follow_1_k2 {σ : Type} (v12_0 : Int) (sy_1 : σ) : Option ((Int × σ) ⊕ σ) :=
  nxt (wr (v12_0 + 1), sy_1)
noncomputable def spare_store_follow_1_b1 {σ : Type} (cv : spare_store) (cv_1 : Int) (cv_2 : Int) (cv_3 : Int) (yield_ : (Int × Int) → σ → Option σ) : (Int × σ) → Option ((Int × σ) ⊕ σ)
 | (v12_0, sy) =>
  cond (decide (v12_0 < (cv.SpareStore.Machines.length : Int)))
  ((idx cv.SpareStore.Machines v12_0).bind fun e =>
  if ¬ v12_0 < 0 then
  (cond ((bitsOp .and (gshr cv_1 v12_0) 1) == 0) (some true) (some (decide ((wr (e.From + e.Warm)) > cv_2)))).bind fun t =>
  (cond t (some true) (if (0 : Int) ≤ cv_3 ∧ cv_3 < ((2 : Nat) : Int) then
  (spare_of cv.SpareStore v12_0).bind fun rv =>
  (tabf_0 cv_3 rv).bind fun rv_1 =>
  some (rv_1 == 0)
  else none)).bind fun t_1 =>
  cond t_1
  (spare_store_follow_1_k2 v12_0 sy)
  (if (0 : Int) ≤ cv_3 ∧ cv_3 < ((2 : Nat) : Int) then
  (spare_of cv.SpareStore v12_0).bind fun rv_2 =>
  (tabf_0 cv_3 rv_2).bind fun rv_3 =>
  (yield_ (v12_0, wr (cv_2 + rv_3)) sy).bind fun sy_2 =>
  spare_store_follow_1_k2 v12_0 sy_2
  else none)
  else none)
  (ext (some sy))
noncomputable def spare_store_follow_1 {σ : Type} (yield_ : (Int × Int) → σ → Option σ) (cv : spare_store) (cv_1 : Int) (cv_2 : Int) (cv_3 : Int) (s0 : σ) : Option σ :=
  loopU (spare_store_follow_1_b1 cv cv_1 cv_2 cv_3 yield_) (0, s0)
theorem spare_store_follow_1_it {w0 : World} {D0 : Stab} {σ : Type} {Inv : σ → Stab → List (Nat × LR) → Prop} {yield_ : (Int × Int) → σ → Option σ} (hlt : ∀ s D ms, Inv s D ms → ∀ i r, lk ms i = some r → i < 1000) (hmono : ∀ s D ms D2, Inv s D ms → D.le D2 → Inv s D2 ms) (l : Nat) (cv : spare_store) (cv_1 : Int) (cv_2 : Int) (cv_3 : Int) {p : Option Addr} {c : Nat} {bm : Option Nat} {bm_1 : Option Nat} {bb : Nat} {bb_1 : Nat} {bb_2 : Nat} {bb_3 : Nat} {Ds : Stab} (hs : SRc C_SpareMachine Ds cv.SpareStore.Machines p c) (hbv : Ds bb = some (.cells ([iv cv.SpareStore.Hours, iv cv.SpareStore.Gap, .slice p cv.SpareStore.Machines.length c, .map bm, .map bm_1]).toArray 80 (0, 0))) (hbv_1 : Ds bb_1 = some (.cells ([iv cv_1]).toArray 3 (0, 0))) (hbv_2 : Ds bb_2 = some (.cells ([iv cv_2]).toArray 3 (0, 0))) (hbv_3 : Ds bb_3 = some (.cells ([iv cv_3]).toArray 3 (0, 0))) (hG : Glob Ds) (s0 out : σ) (hround : ∀ (x : (Int × Int)) (s s2 : σ) (D : Stab) (ms : List (Nat × LR)) (w : World), yield_ x s = some s2 → Ds.le D → Inv s D ms → St w0 D0 D ms w → Yld Tryd.prog l [iv x.1, iv x.2] w (fun w2 => ∃ D2 ms2, D.le D2 ∧ Inv s2 D2 ms2 ∧ St w0 D0 D2 ms2 w2)) (h : spare_store_follow_1 yield_ cv cv_1 cv_2 cv_3 s0 = some out) {ms : List (Nat × LR)} {w : World} (hI : Inv s0 Ds ms) (hS : St w0 D0 Ds ms w) :
  CallsIn (Fw none) 0 Tryd.prog 76 [.func (.yield l) #[] #[], .pointer (some ⟨bb, 0, none⟩), .pointer (some ⟨bb_1, 0, none⟩), .pointer (some ⟨bb_2, 0, none⟩), .pointer (some ⟨bb_3, 0, none⟩)].toArray w (fun e w2 => (∃ v, e = .returned v) ∧ ∃ D2 ms2, Ds.le D2 ∧ Inv out D2 ms2 ∧ St w0 D0 D2 ms2 w2) := by
 refine callsIn_fw (r := none) (enter _ 57 Tryd.func76 rfl Tryd.ntmps76 rfl fun a hF => ?_)
 replace hF : Frm 57 [] [(0, .func (.yield l) #[] #[]), (1, .pointer (some ⟨bb, 0, none⟩)), (2, .pointer (some ⟨bb_1, 0, none⟩)), (3, .pointer (some ⟨bb_2, 0, none⟩)), (4, .pointer (some ⟨bb_3, 0, none⟩))] a := hF
 unfold spare_store_follow_1 at h
 refine scope_ (seq (label_ (then_n (seq (region (step hF (Y.fieldAddr fo_80_0 hF rfl) rfl fun a hF => step hF (Y.fieldAddr fo_24_2 hF rfl) rfl fun a hF => step hF (Y.load1H sz_22 hF rfl (hS.stab _ _ hbv) rfl) rfl fun a hF => step hF (Y.lenSl u_22 hF rfl) rfl fun a hF => step hF (Y.move hF rfl) rfl fun a hF => nT (block (loop_cut (body := spare_store_follow_1_b1 cv cv_1 cv_2 cv_3 yield_) (out := out) (fun s a w => ∃ (v12_0 : Int) (sy : σ), ∃ (Dv : Stab), ∃ ms_1, s = (v12_0, sy) ∧ Ds.le Dv ∧ Frm 57 [] [(0, .func (.yield l) #[] #[]), (1, .pointer (some ⟨bb, 0, none⟩)), (2, .pointer (some ⟨bb_1, 0, none⟩)), (3, .pointer (some ⟨bb_2, 0, none⟩)), (4, .pointer (some ⟨bb_3, 0, none⟩)), (10, .slice p cv.SpareStore.Machines.length c), (11, iv (cv.SpareStore.Machines.length : Int)), (12, iv v12_0)] a ∧ St w0 D0 Dv (ms_1) w ∧ Inv sy Dv ms_1) (0, s0) h ⟨0, s0, Ds, ms, rfl, Stab.le.refl _, hF.weak (AF rfl), hS.sub (fun j r hj => by have hl := (hlt _ _ _ hI) j r hj; (repeat rw [lk_ne (by omega)]); exact hj), hI⟩ ?_))))))))
 rintro s a w xo ⟨v12_0, sy, Dv, ms_1, rfl, hlev, hF, hS, hI_1⟩ h hxo
 unfold spare_store_follow_1_b1 at h
 dsimp only at h
 replace hs := hs.mono hlev
 replace hbv := hlev _ _ hbv
 replace hbv_1 := hlev _ _ hbv_1
 replace hbv_2 := hlev _ _ hbv_2
 replace hbv_3 := hlev _ _ hbv_3
 replace hG := hG.mono hlev
 replace hI := hmono _ _ _ _ hI hlev
 refine seq (region (step hF (Y.lss hF rfl rfl) rfl fun a hF => nT (seq (cond_b hF rfl (fun hbv_4 => ?_) (fun hbv_4 => ?_)))))
 ·replace h := cond_t h hbv_4
  refine skip_ (then_n (seq_cut (fun a w => ∃ (sy_1 : σ), ∃ (Dv_1 : Stab), ∃ ms_2, Dv.le Dv_1 ∧ Frm 57 [] [(0, .func (.yield l) #[] #[]), (1, .pointer (some ⟨bb, 0, none⟩)), (2, .pointer (some ⟨bb_1, 0, none⟩)), (3, .pointer (some ⟨bb_2, 0, none⟩)), (4, .pointer (some ⟨bb_3, 0, none⟩)), (10, .slice p cv.SpareStore.Machines.length c), (11, iv (cv.SpareStore.Machines.length : Int)), (12, iv v12_0)] a ∧ St w0 D0 Dv_1 (ms_2) w ∧ Inv sy_1 Dv_1 ms_2 ∧ spare_store_follow_1_k2 v12_0 sy_1 = some xo) ?_ ?_))
  ·skip
   refine block (seq (region (step hF (Y.move hF rfl) rfl fun a hF => ?_)))
   obtain ⟨e, hx, h⟩ := bind_some h
   obtain ⟨b, o, hE, hY⟩ := Y.indexS (P := Tryd.prog) (C := C_SpareMachine) (xs := cv.SpareStore.Machines) (T := 22) (x := (.tmp 10)) (y := (.tmp 12)) u_22 sz_52 hF rfl rfl (hs).1 hx
   obtain ⟨cc, hc, hcell⟩ := hE.open
   obtain rfl := C_SpareMachine.open hc
   refine step hF (hY) rfl fun a hF => step hF (Y.loadNE (o := o) (k := 0) sz_52 hF rfl (hcell _ hS.stab) rfl rfl) rfl fun a hF => O.alloc 1005 zc_52 hF hS rfl fun b_1 a w hF hS => step hF (Y.assign hF rfl) rfl fun a hF => O.store (us := [iv e.From, iv e.Warm, iv e.Life.Low, iv e.Life.High, iv e.Drift]) 1005 sz_52 hF rfl rfl rfl rfl hS rfl rfl fun a w hF hS => nT (seq (seq ?_))
   obtain ⟨hg, h⟩ := ite_some h
   obtain ⟨t, ht, h⟩ := bind_some h
   obtain ⟨t_1, ht_1, h⟩ := bind_some h
   refine drawsV 25 (.flt 0 (.flt 1 (.flt 2 (.flt 3 (.flt 4 (.flt 5 (.flt 6 (.flt 7 (.flt 8 (.flt 9 (.flt 10 (.flt 11 (.flt 12 (.flt 13 (.flt 14 (.flt 15 (.flt 16 (.flt 17 (.flt 18 (.flt 19 (.flt 20 (.alt 21 (.alt 22 (.flt 23 (.flt 24 .done)) .stop) .stop)))))))))))))))))))))) mixed_ (by kernel_rfl) (fun w => St w0 D0 Dv ((1005, .cells b_1 [iv e.From, iv e.Warm, iv e.Life.Low, iv e.Life.High, iv e.Drift] 52) :: ms_1) w) (fun a w => Frm 57 [] [(0, .func (.yield l) #[] #[]), (1, .pointer (some ⟨bb, 0, none⟩)), (2, .pointer (some ⟨bb_1, 0, none⟩)), (3, .pointer (some ⟨bb_2, 0, none⟩)), (4, .pointer (some ⟨bb_3, 0, none⟩)), (6, iv v12_0), (10, .slice p cv.SpareStore.Machines.length c), (11, iv (cv.SpareStore.Machines.length : Int)), (12, iv v12_0), (41, .bool t_1)] a ∧ St w0 D0 Dv ((1005, .cells b_1 [iv e.From, iv e.Warm, iv e.Life.Low, iv e.Life.High, iv e.Drift] 52) :: ms_1) w) (hS.sub (ms := ((1005, .cells b_1 [iv e.From, iv e.Warm, iv e.Life.Low, iv e.Life.High, iv e.Drift] 52) :: ms_1)) (subc rfl (fun j r hj => by have hl := (hlt _ _ _ hI_1) j r hj; (repeat rw [lk_ne (by omega)]); exact hj))).drew (fun _ _ _ _ h => h) ?_ ?_
   ·replace hS := hS.drew
    have hle0 := hS.le
    rcases bcases ((bitsOp .and (gshr cv_1 v12_0) 1) == 0) with hbv_5 | hbv_5
    ·skip
     replace ht := cond_t ht hbv_5
     obtain rfl := some_inj ht
     replace ht_1 := cond_t ht_1 rfl
     obtain rfl := some_inj ht_1
     refine stepV (i := 0) rfl hF (fun w hS => Y.load1H sz_3 hF rfl (hS.stab _ _ hbv_1) rfl) rfl fun a hF => stepV (i := 1) rfl hF (fun w hS => Y.move hF rfl) rfl fun a hF => stepV (i := 2) rfl hF (fun w hS => Y.shr hF rfl rfl hg) rfl fun a hF => stepV (i := 3) rfl hF (fun w hS => Y.and hF rfl rfl) rfl fun a hF => stepV (i := 4) rfl hF (fun w hS => Y.eql hF rfl rfl) rfl fun a hF => stepV (i := 5) rfl hF (fun w hS => Y.move hF rfl) rfl fun a hF => stepV_off (i := 6) rfl hF rfl rfl hbv_5 rfl fun a hF => stepV_off (i := 7) rfl hF rfl rfl hbv_5 rfl fun a hF => stepV_off (i := 8) rfl hF rfl rfl hbv_5 rfl fun a hF => stepV_off (i := 9) rfl hF rfl rfl hbv_5 rfl fun a hF => stepV_off (i := 10) rfl hF rfl rfl hbv_5 rfl fun a hF => stepV_off (i := 11) rfl hF rfl rfl hbv_5 rfl fun a hF => stepV_off (i := 12) rfl hF rfl rfl hbv_5 rfl fun a hF => stepV (i := 13) rfl hF (fun w hS => Y.pick_t hF rfl hbv_5 rfl) rfl fun a hF => stepV (i := 14) rfl hF (fun w hS => Y.move hF rfl) rfl fun a hF => stepV_off (i := 15) rfl hF rfl rfl rfl rfl fun a hF => stepV_off (i := 16) rfl hF rfl rfl rfl rfl fun a hF => stepV_off (i := 17) rfl hF rfl rfl rfl rfl fun a hF => stepV_off (i := 18) rfl hF rfl rfl rfl rfl fun a hF => stepV_off (i := 19) rfl hF rfl rfl rfl rfl fun a hF => stepV_off (i := 20) rfl hF rfl rfl rfl rfl fun a hF => oneV (i := 21) rfl ?_ trivial
     refine guard_off hF rfl rfl rfl rfl fun a hF => nT ⟨hS.sub (ms := ((1005, .cells b_1 [iv e.From, iv e.Warm, iv e.Life.Low, iv e.Life.High, iv e.Drift] 52) :: ms_1)) (subc rfl (fun j r hj => by have hl := (hlt _ _ _ hI_1) j r hj; (repeat rw [lk_ne (by omega)]); exact hj)), ?_⟩
     refine oneV (i := 22) rfl ?_ trivial
     refine guard_off hF rfl rfl rfl rfl fun a hF => nT ⟨hS.sub (ms := ((1005, .cells b_1 [iv e.From, iv e.Warm, iv e.Life.Low, iv e.Life.High, iv e.Drift] 52) :: ms_1)) (subc rfl (fun j r hj => by have hl := (hlt _ _ _ hI_1) j r hj; (repeat rw [lk_ne (by omega)]); exact hj)), ?_⟩
     refine stepV_off (i := 23) rfl hF rfl rfl rfl rfl fun a hF => stepV (i := 24) rfl hF (fun w hS => Y.pick_t hF rfl rfl rfl) rfl fun a hF => toTailV ⟨hF.weak (AF rfl), hS.sub (subc rfl (fun j r hj => by have hl := (hlt _ _ _ hI_1) j r hj; (repeat rw [lk_ne (by omega)]); exact hj))⟩
    replace ht := cond_f ht hbv_5
    obtain rfl := some_inj ht
    rcases bcases (decide ((wr (e.From + e.Warm)) > cv_2)) with hbv_6 | hbv_6
    ·skip
     replace ht_1 := cond_t ht_1 hbv_6
     obtain rfl := some_inj ht_1
     refine stepV (i := 0) rfl hF (fun w hS => Y.load1H sz_3 hF rfl (hS.stab _ _ hbv_1) rfl) rfl fun a hF => stepV (i := 1) rfl hF (fun w hS => Y.move hF rfl) rfl fun a hF => stepV (i := 2) rfl hF (fun w hS => Y.shr hF rfl rfl hg) rfl fun a hF => stepV (i := 3) rfl hF (fun w hS => Y.and hF rfl rfl) rfl fun a hF => stepV (i := 4) rfl hF (fun w hS => Y.eql hF rfl rfl) rfl fun a hF => stepV (i := 5) rfl hF (fun w hS => Y.move hF rfl) rfl fun a hF => stepV_on (i := 6) rfl hF rfl rfl hbv_5 (fun w hS => Y.fieldAddr fo_52_0 hF rfl) rfl fun a hF => stepV_on (i := 7) rfl hF rfl rfl hbv_5 (fun w hS => Y.load1L 1005 sz_3 hF rfl hS rfl rfl) rfl fun a hF => stepV_on (i := 8) rfl hF rfl rfl hbv_5 (fun w hS => Y.fieldAddr fo_52_1 hF rfl) rfl fun a hF => stepV_on (i := 9) rfl hF rfl rfl hbv_5 (fun w hS => Y.load1L 1005 sz_3 hF rfl hS rfl rfl) rfl fun a hF => stepV_on (i := 10) rfl hF rfl rfl hbv_5 (fun w hS => Y.add hF rfl rfl) rfl fun a hF => stepV_on (i := 11) rfl hF rfl rfl hbv_5 (fun w hS => Y.load1H sz_3 hF rfl (hS.stab _ _ hbv_2) rfl) rfl fun a hF => stepV_on (i := 12) rfl hF rfl rfl hbv_5 (fun w hS => Y.gtr hF rfl rfl) rfl fun a hF => stepV (i := 13) rfl hF (fun w hS => Y.pick_f hF rfl hbv_5 rfl) rfl fun a hF => stepV (i := 14) rfl hF (fun w hS => Y.move hF rfl) rfl fun a hF => stepV_off (i := 15) rfl hF rfl rfl hbv_6 rfl fun a hF => stepV_off (i := 16) rfl hF rfl rfl hbv_6 rfl fun a hF => stepV_off (i := 17) rfl hF rfl rfl hbv_6 rfl fun a hF => stepV_off (i := 18) rfl hF rfl rfl hbv_6 rfl fun a hF => stepV_off (i := 19) rfl hF rfl rfl hbv_6 rfl fun a hF => stepV_off (i := 20) rfl hF rfl rfl hbv_6 rfl fun a hF => oneV (i := 21) rfl ?_ trivial
     refine guard_off hF rfl rfl hbv_6 rfl fun a hF => nT ⟨hS.sub (ms := ((1005, .cells b_1 [iv e.From, iv e.Warm, iv e.Life.Low, iv e.Life.High, iv e.Drift] 52) :: ms_1)) (subc rfl (fun j r hj => by have hl := (hlt _ _ _ hI_1) j r hj; (repeat rw [lk_ne (by omega)]); exact hj)), ?_⟩
     refine oneV (i := 22) rfl ?_ trivial
     refine guard_off hF rfl rfl hbv_6 rfl fun a hF => nT ⟨hS.sub (ms := ((1005, .cells b_1 [iv e.From, iv e.Warm, iv e.Life.Low, iv e.Life.High, iv e.Drift] 52) :: ms_1)) (subc rfl (fun j r hj => by have hl := (hlt _ _ _ hI_1) j r hj; (repeat rw [lk_ne (by omega)]); exact hj)), ?_⟩
     refine stepV_off (i := 23) rfl hF rfl rfl hbv_6 rfl fun a hF => stepV (i := 24) rfl hF (fun w hS => Y.pick_t hF rfl hbv_6 rfl) rfl fun a hF => toTailV ⟨hF.weak (AF rfl), hS.sub (subc rfl (fun j r hj => by have hl := (hlt _ _ _ hI_1) j r hj; (repeat rw [lk_ne (by omega)]); exact hj))⟩
    replace ht_1 := cond_f ht_1 hbv_6
    obtain ⟨hg_1, ht_1⟩ := ite_some ht_1
    obtain ⟨rv, hx_1, ht_1⟩ := bind_some ht_1
    obtain ⟨rv_1, hx_2, ht_1⟩ := bind_some ht_1
    obtain rfl := some_inj ht_1
    refine stepV (i := 0) rfl hF (fun w hS => Y.load1H sz_3 hF rfl (hS.stab _ _ hbv_1) rfl) rfl fun a hF => stepV (i := 1) rfl hF (fun w hS => Y.move hF rfl) rfl fun a hF => stepV (i := 2) rfl hF (fun w hS => Y.shr hF rfl rfl hg) rfl fun a hF => stepV (i := 3) rfl hF (fun w hS => Y.and hF rfl rfl) rfl fun a hF => stepV (i := 4) rfl hF (fun w hS => Y.eql hF rfl rfl) rfl fun a hF => stepV (i := 5) rfl hF (fun w hS => Y.move hF rfl) rfl fun a hF => stepV_on (i := 6) rfl hF rfl rfl hbv_5 (fun w hS => Y.fieldAddr fo_52_0 hF rfl) rfl fun a hF => stepV_on (i := 7) rfl hF rfl rfl hbv_5 (fun w hS => Y.load1L 1005 sz_3 hF rfl hS rfl rfl) rfl fun a hF => stepV_on (i := 8) rfl hF rfl rfl hbv_5 (fun w hS => Y.fieldAddr fo_52_1 hF rfl) rfl fun a hF => stepV_on (i := 9) rfl hF rfl rfl hbv_5 (fun w hS => Y.load1L 1005 sz_3 hF rfl hS rfl rfl) rfl fun a hF => stepV_on (i := 10) rfl hF rfl rfl hbv_5 (fun w hS => Y.add hF rfl rfl) rfl fun a hF => stepV_on (i := 11) rfl hF rfl rfl hbv_5 (fun w hS => Y.load1H sz_3 hF rfl (hS.stab _ _ hbv_2) rfl) rfl fun a hF => stepV_on (i := 12) rfl hF rfl rfl hbv_5 (fun w hS => Y.gtr hF rfl rfl) rfl fun a hF => stepV (i := 13) rfl hF (fun w hS => Y.pick_f hF rfl hbv_5 rfl) rfl fun a hF => stepV (i := 14) rfl hF (fun w hS => Y.move hF rfl) rfl fun a hF => stepV_on (i := 15) rfl hF rfl rfl hbv_6 (fun w hS => Y.load1H sz_3 hF rfl (hS.stab _ _ hbv_3) rfl) rfl fun a hF => stepV_on (i := 16) rfl hF rfl rfl hbv_6 (fun w hS => Y.indexArr u_73 sz_72 hF rfl rfl hg_1.1 hg_1.2) rfl fun a hF => ?_
    obtain ⟨E_1, fr_1, hGb_1⟩ := hG
    have hG : Glob _ := ⟨E_1, fr_1, hGb_1⟩
    refine stepV_on (i := 17) rfl hF rfl rfl hbv_6 (fun w hS => (show Yields _ _ _ _ (tab_0.getD (Int.toNat cv_3) undef) from Y.load1H (cs := tab_0) sz_72 hF rfl (hS.stab _ _ hGb_1) (tabAt rfl hg_1))) rfl fun a hF => stepV_on (i := 18) rfl hF rfl rfl hbv_6 (fun w hS => Y.fieldAddr fo_80_0 hF rfl) rfl fun a hF => stepV_on (i := 19) rfl hF rfl rfl hbv_6 (fun w hS => Y.loadNH sz_24 hF rfl (hS.stab _ _ hbv) rfl rfl) rfl fun a hF => stepV_on (i := 20) rfl hF rfl rfl hbv_6 (fun w hS => Y.move hF rfl) rfl fun a hF => oneV (i := 21) rfl ?_ trivial
    refine guard_on hF rfl rfl hbv_6 (O.callP (us := [.agg #[iv cv.SpareStore.Hours, iv cv.SpareStore.Gap, .slice p cv.SpareStore.Machines.length c], iv v12_0]) ca_49 hF hS (spare_of_ok hS.stab cv.SpareStore v12_0 hs rv hx_1) rfl rfl fun a w hF hS => nT ⟨hS.sub (ms := ((1005, .cells b_1 [iv e.From, iv e.Warm, iv e.Life.Low, iv e.Life.High, iv e.Drift] 52) :: ms_1)) (subc rfl (fun j r hj => by have hl := (hlt _ _ _ hI_1) j r hj; (repeat rw [lk_ne (by omega)]); exact hj)), ?_⟩)
    refine oneV (i := 22) rfl ?_ trivial
    refine guard_on hF rfl rfl hbv_6 ?_
    obtain ⟨f_1, hfv_1, hfc_1, hcall_1⟩ := tab_0_ok hS.stab cv_3 hg_1 rv  rv_1 hx_2
    refine O.callVP (f := f_1) (first := []) (cap := []) (us := [.agg #[iv rv.SpareMachine.From, iv rv.SpareMachine.Warm, iv rv.SpareMachine.Life.Low, iv rv.SpareMachine.Life.High, iv rv.SpareMachine.Drift, iv rv.gap]]) hfc_1 hF hS (congrArg some hfv_1) rfl hcall_1 rfl fun a w hF hS => nT ⟨hS.sub (ms := ((1005, .cells b_1 [iv e.From, iv e.Warm, iv e.Life.Low, iv e.Life.High, iv e.Drift] 52) :: ms_1)) (subc rfl (fun j r hj => by have hl := (hlt _ _ _ hI_1) j r hj; (repeat rw [lk_ne (by omega)]); exact hj)), ?_⟩
    refine stepV_on (i := 23) rfl hF rfl rfl hbv_6 (fun w hS => Y.eql hF rfl rfl) rfl fun a hF => stepV (i := 24) rfl hF (fun w hS => Y.pick_f hF rfl hbv_6 rfl) rfl fun a hF => toTailV ⟨hF.weak (AF rfl), hS.sub (subc rfl (fun j r hj => by have hl := (hlt _ _ _ hI_1) j r hj; (repeat rw [lk_ne (by omega)]); exact hj))⟩
   rintro a w ⟨hF, hS⟩
   refine nT (cond_b hF rfl (fun hbv_7 => ?_) (fun hbv_7 => ?_))
   ·replace h := cond_t h hbv_7
    refine exit_ (then_x (blk_hit (then_n (⟨sy, Dv, ms_1, Stab.le.refl _, hF.weak (AF rfl), hS.sub (fun j r hj => by have hl := (hlt _ _ _ hI_1) j r hj; (repeat rw [lk_ne (by omega)]); exact hj), hI_1, h⟩))))
   replace h := cond_f h hbv_7
   refine skip_ (then_n (seq ?_))
   obtain ⟨hg_2, h⟩ := ite_some h
   obtain ⟨rv_2, hx_3, h⟩ := bind_some h
   obtain ⟨rv_3, hx_4, h⟩ := bind_some h
   refine drawsV 12 (.flt 0 (.flt 1 (.flt 2 (.flt 3 (.flt 4 (.flt 5 (.flt 6 (.flt 7 (.flt 8 (.alt 9 (.alt 10 (.flt 11 .done) .stop) .stop)))))))))) mixed_ (by kernel_rfl) (fun w => St w0 D0 Dv ((1005, .cells b_1 [iv e.From, iv e.Warm, iv e.Life.Low, iv e.Life.High, iv e.Drift] 52) :: ms_1) w) (fun a w => Frm 57 [] [(0, .func (.yield l) #[] #[]), (1, .pointer (some ⟨bb, 0, none⟩)), (2, .pointer (some ⟨bb_1, 0, none⟩)), (3, .pointer (some ⟨bb_2, 0, none⟩)), (4, .pointer (some ⟨bb_3, 0, none⟩)), (10, .slice p cv.SpareStore.Machines.length c), (11, iv (cv.SpareStore.Machines.length : Int)), (12, iv v12_0), (42, .func (.yield l) #[] #[]), (43, iv v12_0), (53, iv (wr (cv_2 + rv_3)))] a ∧ St w0 D0 Dv ((1005, .cells b_1 [iv e.From, iv e.Warm, iv e.Life.Low, iv e.Life.High, iv e.Drift] 52) :: ms_1) w) (hS.sub (ms := ((1005, .cells b_1 [iv e.From, iv e.Warm, iv e.Life.Low, iv e.Life.High, iv e.Drift] 52) :: ms_1)) (subc rfl (fun j r hj => by have hl := (hlt _ _ _ hI_1) j r hj; (repeat rw [lk_ne (by omega)]); exact hj))).drew (fun _ _ _ _ h => h) ?_ ?_
   ·replace hS := hS.drew
    have hle0 := hS.le
    refine stepV (i := 0) rfl hF (fun w hS => Y.move hF rfl) rfl fun a hF => stepV (i := 1) rfl hF (fun w hS => Y.move hF rfl) rfl fun a hF => stepV (i := 2) rfl hF (fun w hS => Y.load1H sz_3 hF rfl (hS.stab _ _ hbv_2) rfl) rfl fun a hF => stepV (i := 3) rfl hF (fun w hS => Y.load1H sz_3 hF rfl (hS.stab _ _ hbv_3) rfl) rfl fun a hF => stepV (i := 4) rfl hF (fun w hS => Y.indexArr u_73 sz_72 hF rfl rfl hg_2.1 hg_2.2) rfl fun a hF => ?_
    obtain ⟨E_3, fr_3, hGb_3⟩ := hG
    have hG : Glob _ := ⟨E_3, fr_3, hGb_3⟩
    refine stepV (i := 5) rfl hF (fun w hS => (show Yields _ _ _ _ (tab_0.getD (Int.toNat cv_3) undef) from Y.load1H (cs := tab_0) sz_72 hF rfl (hS.stab _ _ hGb_3) (tabAt rfl hg_2))) rfl fun a hF => stepV (i := 6) rfl hF (fun w hS => Y.fieldAddr fo_80_0 hF rfl) rfl fun a hF => stepV (i := 7) rfl hF (fun w hS => Y.loadNH sz_24 hF rfl (hS.stab _ _ hbv) rfl rfl) rfl fun a hF => stepV (i := 8) rfl hF (fun w hS => Y.move hF rfl) rfl fun a hF => oneV (i := 9) rfl ?_ trivial
    refine O.callP (us := [.agg #[iv cv.SpareStore.Hours, iv cv.SpareStore.Gap, .slice p cv.SpareStore.Machines.length c], iv v12_0]) ca_49 hF hS (spare_of_ok hS.stab cv.SpareStore v12_0 hs rv_2 hx_3) rfl rfl fun a w hF hS => nT ⟨hS.sub (ms := ((1005, .cells b_1 [iv e.From, iv e.Warm, iv e.Life.Low, iv e.Life.High, iv e.Drift] 52) :: ms_1)) (subc rfl (fun j r hj => by have hl := (hlt _ _ _ hI_1) j r hj; (repeat rw [lk_ne (by omega)]); exact hj)), ?_⟩
    refine oneV (i := 10) rfl ?_ trivial
    obtain ⟨f_3, hfv_3, hfc_3, hcall_3⟩ := tab_0_ok hS.stab cv_3 hg_2 rv_2  rv_3 hx_4
    refine O.callVP (f := f_3) (first := []) (cap := []) (us := [.agg #[iv rv_2.SpareMachine.From, iv rv_2.SpareMachine.Warm, iv rv_2.SpareMachine.Life.Low, iv rv_2.SpareMachine.Life.High, iv rv_2.SpareMachine.Drift, iv rv_2.gap]]) hfc_3 hF hS (congrArg some hfv_3) rfl hcall_3 rfl fun a w hF hS => nT ⟨hS.sub (ms := ((1005, .cells b_1 [iv e.From, iv e.Warm, iv e.Life.Low, iv e.Life.High, iv e.Drift] 52) :: ms_1)) (subc rfl (fun j r hj => by have hl := (hlt _ _ _ hI_1) j r hj; (repeat rw [lk_ne (by omega)]); exact hj)), ?_⟩
    refine stepV (i := 11) rfl hF (fun w hS => Y.add hF rfl rfl) rfl fun a hF => toTailV ⟨hF.weak (AF rfl), hS.sub (subc rfl (fun j r hj => by have hl := (hlt _ _ _ hI_1) j r hj; (repeat rw [lk_ne (by omega)]); exact hj))⟩
   rintro a w ⟨hF, hS⟩
   replace hS := hS.sub (ms := ms_1) (fun j r hj => by have hl := (hlt _ _ _ hI_1) j r hj; (repeat rw [lk_ne (by omega)]); exact hj)
   obtain ⟨sy_2, hx_5, h⟩ := bind_some h
   refine O.yield (us := [iv v12_0, iv (wr (cv_2 + rv_3))]) hF rfl rfl (hround (v12_0, wr (cv_2 + rv_3)) _ _ _ _ _ hx_5 hlev hI_1 hS) rfl fun a w hF hK => ?_
   obtain ⟨Dv_2, ms_3, hlev_2, hI_3, hS⟩ := hK
   replace hbv := hlev_2 _ _ hbv
   replace hbv_1 := hlev_2 _ _ hbv_1
   replace hbv_2 := hlev_2 _ _ hbv_2
   replace hbv_3 := hlev_2 _ _ hbv_3
   refine step hF (Y.not hF rfl) rfl fun a hF => nT (cond_b hF rfl (fun hb => by cases hb) (fun hb => skip_ (blk_n (then_n (⟨sy_2, Dv_2, ms_3, hlev_2, hF.weak (AF rfl), hS.sub (fun j r hj => by have hl := (hlt _ _ _ hI_3) j r hj; (repeat rw [lk_ne (by omega)]); exact hj), hI_3, h⟩)))))
  rintro a w ⟨sy_1, Dv_1, ms_2, hlev_1, hF, hS, hI_2, h⟩
  unfold spare_store_follow_1_k2 at h
  replace hbv := hlev_1 _ _ hbv
  replace hbv_1 := hlev_1 _ _ hbv_1
  replace hbv_2 := hlev_1 _ _ hbv_2
  replace hbv_3 := hlev_1 _ _ hbv_3
  replace hI := hmono _ _ _ _ hI hlev_1
  replace hI_1 := hmono _ _ _ _ hI_1 hlev_1
  refine region (step hF (Y.add hF rfl rfl) rfl fun a hF => step hF (Y.move hF rfl) rfl fun a hF => nT (⟨_, nxt_some h, (wr (v12_0 + 1)), sy_1, Dv_1, ms_2, rfl, hlev.trans hlev_1, hF.weak (AF rfl), hS.sub (fun j r hj => by have hl := (hlt _ _ _ hI_2) j r hj; (repeat rw [lk_ne (by omega)]); exact hj), hI_2⟩))
 replace h := cond_f h hbv_4
 refine exit_ (then_x (then_x (blk_hit (scp_n ?_))))
 replace h := ext_some h hxo
 replace hS := hS.sub (ms := ms_1) (fun j r hj => by have hl := (hlt _ _ _ hI_1) j r hj; (repeat rw [lk_ne (by omega)]); exact hj)
 obtain rfl := some_inj h
 exact leaveIn (by rfl) hF ⟨⟨_, rfl⟩, Dv, ms_1, hlev, hI_1, hS⟩
noncomputable def spare_opened_1_k3 (v32_0 : Int) (mp_2 : (List (spare_some × Int))) (mp_3 : (List (spare_some × Int))) (z_2 : Int) : Option ((Int × (List (spare_some × Int)) × (List (spare_some × Int)) × Int) ⊕ (Int × (List (spare_some × Int)) × (List (spare_some × Int)))) :=
  nxt (wr (v32_0 + 1), mp_2, mp_3, z_2)
noncomputable def spare_opened_1_y4 (set : Int) (rv : Int) (v32_0 : Int) (xy : (Int × Int)) : ((List (spare_some × Int)) × (List (spare_some × Int)) × Int) → Option ((List (spare_some × Int)) × (List (spare_some × Int)) × Int)
 | (mp_4, mp_5, z_3) =>
  cond (decide (xy.2 > z_3))
  (some (mp_4, (mput kl_88 mp_5 (spare_some.mk set rv) v32_0), xy.2))
  (some (mp_4, mp_5, z_3))
noncomputable def spare_opened_1_b2 (set : Int) (cv : spare_store) (cv_1 : SpareStore) (self_ : Int → spare_store → SpareStore → Option (Int × (List (spare_some × Int)) × (List (spare_some × Int)))) (rv : Int) : (Int × (List (spare_some × Int)) × (List (spare_some × Int)) × Int) → Option ((Int × (List (spare_some × Int)) × (List (spare_some × Int)) × Int) ⊕ (Int × (List (spare_some × Int)) × (List (spare_some × Int))))
 | (v32_0, mp, mp_1, z_1) =>
  cond (decide (v32_0 < (cv_1.Machines.length : Int)))
  (if ¬ v32_0 < 0 then
  cond ((bitsOp .and (gshr set v32_0) 1) == 0)
  (spare_opened_1_k3 v32_0 mp mp_1 z_1)
  (if ¬ v32_0 < 0 then
  (self_ (bitsOp .andNot set (gshl 1 v32_0)) (spare_store.mk cv.SpareStore mp mp_1) cv_1).bind fun rv_1 =>
  cond (decide (rv_1.1 < 0))
  (spare_opened_1_k3 v32_0 rv_1.2.1 rv_1.2.2 z_1)
  (if ¬ v32_0 < 0 then
  (spare_store_follow (spare_store.mk cv.SpareStore rv_1.2.1 rv_1.2.2) (gshl 1 v32_0) rv_1.1 0).bind fun rv_2 =>
  (spare_store_follow_1 (spare_opened_1_y4 set rv v32_0) rv_2.1 rv_2.2.1 rv_2.2.2.1 rv_2.2.2.2 (rv_1.2.1, rv_1.2.2, z_1)).bind fun (so, so_1, so_2) =>
  spare_opened_1_k3 v32_0 so so_1 so_2
  else none)
  else none)
  else none)
  (ext (some (z_1, (mput kl_88 mp (spare_some.mk set rv) z_1), mp_1)))
noncomputable def spare_opened_1_k1 (set : Int) (cv : spare_store) (cv_1 : SpareStore) (self_ : Int → spare_store → SpareStore → Option (Int × (List (spare_some × Int)) × (List (spare_some × Int)))) (rv : Int) (z : Int) : Option (Int × (List (spare_some × Int)) × (List (spare_some × Int))) :=
  loopU (spare_opened_1_b2 set cv cv_1 self_ rv) (0, cv.far, cv.last, z)
noncomputable def spare_opened_1_step (self_ : Int → spare_store → SpareStore → Option (Int × (List (spare_some × Int)) × (List (spare_some × Int)))) (set : Int) (cv : spare_store) (cv_1 : SpareStore) : Option (Int × (List (spare_some × Int)) × (List (spare_some × Int))) :=
  (spare_count set).bind fun rv =>
  cond ((mget kl_88 cv.far (spare_some.mk set rv)).isSome)
  (some ((mget kl_88 cv.far (spare_some.mk set rv)).getD 0, cv.far, cv.last))
  (cond (set == 0)
  (spare_opened_1_k1 set cv cv_1 self_ rv 0)
  (spare_opened_1_k1 set cv cv_1 self_ rv (-1)))
theorem spare_opened_1_step_ok {wb w0 : World} {Db D0 : Stab} {Sx : List Nat} {hpx : Nat → Option Obj} (self_ : Int → spare_store → SpareStore → Option (Int × (List (spare_some × Int)) × (List (spare_some × Int)))) (hself : ∀ {wb w0 : World} {Db D0 : Stab} {Sx : List Nat} {hpx : Nat → Option Obj} (set : Int) (cv : spare_store) (cv_1 : SpareStore) {p : Option Addr} {c : Nat} {bb_1 : Nat} {es : Array MapEntry} {clk : Nat} {bb_2 : Nat} {es_1 : Array MapEntry} {clk_1 : Nat} {bb : Nat} {p_1 : Option Addr} {c_1 : Nat} {bb_3 : Nat} {bb_4 : Nat} (hs : SRc C_SpareMachine D0 cv.SpareStore.Machines p c) (hm_2 : MReps kl_88 C_int false D0 cv.far es.toList) (hm_3 : MReps kl_88 C_int false D0 cv.last es_1.toList) (hs_1 : SRc C_SpareMachine D0 cv_1.Machines p_1 c_1) (hbv : D0 bb = some (.cells ([iv cv.SpareStore.Hours, iv cv.SpareStore.Gap, .slice p cv.SpareStore.Machines.length c, .map (some bb_1), .map (some bb_2)]).toArray 80 (0, 0))) (hbv_1 : D0 bb_3 = some (.cells ([iv cv_1.Hours, iv cv_1.Gap, .slice p_1 cv_1.Machines.length c_1]).toArray 24 (0, 0))) (hbv_2 : D0 bb_4 = some (.cells ([.func (.func 70) #[] #[.pointer (some ⟨bb, 0, none⟩), .pointer (some ⟨bb_3, 0, none⟩), .pointer (some ⟨bb_4, 0, none⟩)]]).toArray 56 (0, 0))) (hG : Glob D0) (hS0 : St wb Db D0 [(1, .obj bb_1 (.map es clk)), (2, .obj bb_2 (.map es_1 clk_1)), (0, .snap Sx hpx)] w0) (out : (Int × (List (spare_some × Int)) × (List (spare_some × Int)))) (h : self_ set cv cv_1 = some out), Calls Tryd.prog 70 [iv set, .pointer (some ⟨bb, 0, none⟩), .pointer (some ⟨bb_3, 0, none⟩), .pointer (some ⟨bb_4, 0, none⟩)].toArray w0 (RetM D0 fun D w v => ∃ (es1 : Array MapEntry) (ck1 : Nat) (es2 : Array MapEntry) (ck2 : Nat), St wb Db D [(1, .obj bb_1 (.map es1 ck1)), (2, .obj bb_2 (.map es2 ck2)), (0, .snap Sx hpx)] w ∧ v = iv out.1 ∧ MReps kl_88 C_int false D out.2.1 es1.toList ∧ MReps kl_88 C_int false D out.2.2 es2.toList)) (set : Int) (cv : spare_store) (cv_1 : SpareStore) {p : Option Addr} {c : Nat} {bb_1 : Nat} {es : Array MapEntry} {clk : Nat} {bb_2 : Nat} {es_1 : Array MapEntry} {clk_1 : Nat} {bb : Nat} {p_1 : Option Addr} {c_1 : Nat} {bb_3 : Nat} {bb_4 : Nat} (hs : SRc C_SpareMachine D0 cv.SpareStore.Machines p c) (hm_2 : MReps kl_88 C_int false D0 cv.far es.toList) (hm_3 : MReps kl_88 C_int false D0 cv.last es_1.toList) (hs_1 : SRc C_SpareMachine D0 cv_1.Machines p_1 c_1) (hbv : D0 bb = some (.cells ([iv cv.SpareStore.Hours, iv cv.SpareStore.Gap, .slice p cv.SpareStore.Machines.length c, .map (some bb_1), .map (some bb_2)]).toArray 80 (0, 0))) (hbv_1 : D0 bb_3 = some (.cells ([iv cv_1.Hours, iv cv_1.Gap, .slice p_1 cv_1.Machines.length c_1]).toArray 24 (0, 0))) (hbv_2 : D0 bb_4 = some (.cells ([.func (.func 70) #[] #[.pointer (some ⟨bb, 0, none⟩), .pointer (some ⟨bb_3, 0, none⟩), .pointer (some ⟨bb_4, 0, none⟩)]]).toArray 56 (0, 0))) (hG : Glob D0) (hS0 : St wb Db D0 [(1, .obj bb_1 (.map es clk)), (2, .obj bb_2 (.map es_1 clk_1)), (0, .snap Sx hpx)] w0) (out : (Int × (List (spare_some × Int)) × (List (spare_some × Int)))) (h : spare_opened_1_step self_ set cv cv_1 = some out) : Calls Tryd.prog 70 [iv set, .pointer (some ⟨bb, 0, none⟩), .pointer (some ⟨bb_3, 0, none⟩), .pointer (some ⟨bb_4, 0, none⟩)].toArray w0 (RetM D0 fun D w v => ∃ (es1 : Array MapEntry) (ck1 : Nat) (es2 : Array MapEntry) (ck2 : Nat), St wb Db D [(1, .obj bb_1 (.map es1 ck1)), (2, .obj bb_2 (.map es2 ck2)), (0, .snap Sx hpx)] w ∧ v = iv out.1 ∧ MReps kl_88 C_int false D out.2.1 es1.toList ∧ MReps kl_88 C_int false D out.2.2 es2.toList) := by
 refine enter _ 69 Tryd.func70 rfl Tryd.ntmps70 rfl fun a hF => ?_
 replace hF : Frm 69 [] [(0, iv set), (1, .pointer (some ⟨bb, 0, none⟩)), (2, .pointer (some ⟨bb_3, 0, none⟩)), (3, .pointer (some ⟨bb_4, 0, none⟩))] a := hF
 have hS := hS0
 replace hS := hS.noMarks 6
 unfold spare_opened_1_step at h
 refine seq (region (step hF (Y.assign hF rfl) rfl fun a hF => nT (seq (region (step hF (Y.move hF rfl) rfl fun a hF => step hF (Y.move hF rfl) rfl fun a hF => ?_)))))
 obtain ⟨rv, hx, h⟩ := bind_some h
 refine O.callP (us := [iv set]) ca_58 hF hS (spare_count_ok hS.stab set rv hx) rfl rfl fun a w hF hS => step hF (Y.build (parts := [(0, (.tmp 14)), (1, (.tmp 16))]) (cs := #[iv set, iv rv]) hF rfl (by kernel_rfl)) rfl fun a hF => O.alloc 7 zc_88 hF hS rfl fun b a w hF hS => O.store (us := [iv set, iv rv]) 7 sz_88 hF rfl rfl rfl rfl hS rfl rfl fun a w hF hS => nT (seq (seq (region (step hF (Y.fieldAddr fo_80_1 hF rfl) rfl fun a hF => step hF (Y.load1H sz_78 hF rfl (hS.stab _ _ hbv) rfl) rfl fun a hF => step hF (Y.loadNL 7 sz_88 hF rfl hS rfl rfl rfl) rfl fun a hF => ?_))))
 obtain ⟨cc, hc, hY⟩ := Y.lookupO (kl := kl_88) (C := C_int) (agg := false) (xs := cv.far) (x := (.tmp 20)) (y := (.tmp 21)) (z := [iv 0]) (z0 := (0 : Int)) true 1 mt_78 (fun _ => rfl) rfl (spare_some.mk set rv) hm_2 hF rfl rfl (lkOf hS rfl)
 obtain rfl := hc
 refine step hF ((show Yields _ _ _ _ (.tuple #[iv ((mget kl_88 cv.far (spare_some.mk set rv)).getD 0), .bool ((mget kl_88 cv.far (spare_some.mk set rv)).isSome)]) from hY hS)) rfl fun a hF => step hF (Y.move hF rfl) rfl fun a hF => step hF (Y.extract hF rfl rfl) rfl fun a hF => step hF (Y.extract hF rfl rfl) rfl fun a hF => step hF (Y.assign hF rfl) rfl fun a hF => step hF (Y.assign hF rfl) rfl fun a hF => nT (seq (region (step hF (Y.move hF rfl) rfl fun a hF => nT (cond_b hF rfl (fun hbv_3 => ?_) (fun hbv_3 => ?_)))))
 ·replace h := cond_t h hbv_3
  refine seq (region (step hF (Y.move hF rfl) rfl fun a hF => step hF (Y.assign hF rfl) rfl fun a hF => nT (ret_ (then_r ?_))))
  obtain rfl := some_inj h
  exact leaveM (ms := [(1, .obj bb_1 (.map es clk)), (2, .obj bb_2 (.map es_1 clk_1)), (0, .snap Sx hpx)]) Tryd.results70 hF hS (.cons (.tmp rfl) .nil) (.inr ⟨6, rfl, rfl⟩) ⟨rfl, rfl, rfl, trivial⟩ (Stab.le.refl _) fun w hS => ⟨_, _, _, _, hS, rfl, hm_2, hm_3⟩
 replace h := cond_f h hbv_3
 refine skip_ (then_n (seq (region (O.alloc 8 zc_3 hF hS rfl fun b_1 a w hF hS => O.store (us := [iv (-1)]) 8 sz_3 hF rfl rfl rfl rfl hS rfl rfl fun a w hF hS => nT (seq_cut (fun a w => ∃ (z : Int), Frm 69 [] [(0, iv set), (1, .pointer (some ⟨bb, 0, none⟩)), (2, .pointer (some ⟨bb_3, 0, none⟩)), (3, .pointer (some ⟨bb_4, 0, none⟩)), (5, iv 0), (6, .pointer (some ⟨b, 0, none⟩)), (9, .pointer (some ⟨b_1, 0, none⟩))] a ∧ St wb Db D0 [(1, .obj bb_1 (.map es clk)), (2, .obj bb_2 (.map es_1 clk_1)), (7, .cells b [iv set, iv rv] 88), (8, .cells b_1 [iv z] 3), (0, .snap Sx hpx), (6, .marks [])] w ∧ spare_opened_1_k1 set cv cv_1 self_ rv z = some out) ?_ ?_)))))
 ·skip
  refine seq (region (step hF (Y.move hF rfl) rfl fun a hF => step hF (Y.eql hF rfl rfl) rfl fun a hF => nT (cond_b hF rfl (fun hbv_12 => ?_) (fun hbv_12 => ?_))))
  ·replace h := cond_t h hbv_12
   refine region (O.store (us := [iv 0]) 8 sz_3 hF rfl rfl rfl rfl hS rfl rfl fun a w hF hS => nT (⟨0, hF.weak (AF rfl), hS.weak (AL rfl), h⟩))
  replace h := cond_f h hbv_12
  refine skip_ (then_n (⟨(-1), hF.weak (AF rfl), hS.weak (AL rfl), h⟩))
 rintro a w ⟨z, hF, hS, h⟩
 unfold spare_opened_1_k1 at h
 refine seq (seq (region (step hF (Y.fieldAddr fo_24_2 hF rfl) rfl fun a hF => step hF (Y.load1H sz_22 hF rfl (hS.stab _ _ hbv_1) rfl) rfl fun a hF => step hF (Y.lenSl u_22 hF rfl) rfl fun a hF => step hF (Y.move hF rfl) rfl fun a hF => nT (block (loop_cut (body := spare_opened_1_b2 set cv cv_1 self_ rv) (out := out) (fun s a w => ∃ (v32_0 : Int) (mp : (List (spare_some × Int))) (mp_1 : (List (spare_some × Int))) (z_1 : Int), ∃ (Dv : Stab), ∃ rs es_2 clk_2 es_3 clk_3, s = (v32_0, mp, mp_1, z_1) ∧ D0.le Dv ∧ Frm 69 rs [(0, iv set), (1, .pointer (some ⟨bb, 0, none⟩)), (3, .pointer (some ⟨bb_4, 0, none⟩)), (5, iv 0), (6, .pointer (some ⟨b, 0, none⟩)), (9, .pointer (some ⟨b_1, 0, none⟩)), (31, iv (cv_1.Machines.length : Int)), (32, iv v32_0)] a ∧ St wb Db Dv [(1, .obj bb_1 (.map es_2 clk_2)), (2, .obj bb_2 (.map es_3 clk_3)), (7, .cells b [iv set, iv rv] 88), (8, .cells b_1 [iv z_1] 3), (0, .snap Sx hpx), (6, .marks rs)] w ∧ MReps kl_88 C_int false Dv mp es_2.toList ∧ MReps kl_88 C_int false Dv mp_1 es_3.toList) (0, cv.far, cv.last, z) h ⟨0, cv.far, cv.last, z, D0, ([]), es, clk, es_1, clk_1, rfl, Stab.le.refl _, hF.weak (AF rfl), hS.weak (AL rfl), hm_2, hm_3⟩ ?_)))))
 rintro s a w xo ⟨v32_0, mp, mp_1, z_1, Dv, rs, es_2, clk_2, es_3, clk_3, rfl, hlev, hF, hS, hm_4, hm_5⟩ h hxo
 unfold spare_opened_1_b2 at h
 dsimp only at h
 replace hbv := hlev _ _ hbv
 replace hbv_1 := hlev _ _ hbv_1
 replace hbv_2 := hlev _ _ hbv_2
 replace hs := hs.mono hlev
 replace hs_1 := hs_1.mono hlev
 replace hG := hG.mono hlev
 refine seq (region (step hF (Y.lss hF rfl rfl) rfl fun a hF => nT (seq (cond_b hF rfl (fun hbv_4 => ?_) (fun hbv_4 => ?_)))))
 ·replace h := cond_t h hbv_4
  refine skip_ (then_n (seq_cut (fun a w => ∃ (mp_2 : (List (spare_some × Int))) (mp_3 : (List (spare_some × Int))) (z_2 : Int), ∃ (Dv_1 : Stab), ∃ rs_1 es_4 clk_4 es_5 clk_5, Dv.le Dv_1 ∧ Frm 69 rs_1 [(0, iv set), (1, .pointer (some ⟨bb, 0, none⟩)), (3, .pointer (some ⟨bb_4, 0, none⟩)), (5, iv 0), (6, .pointer (some ⟨b, 0, none⟩)), (9, .pointer (some ⟨b_1, 0, none⟩)), (31, iv (cv_1.Machines.length : Int)), (32, iv v32_0)] a ∧ St wb Db Dv_1 [(1, .obj bb_1 (.map es_4 clk_4)), (2, .obj bb_2 (.map es_5 clk_5)), (7, .cells b [iv set, iv rv] 88), (8, .cells b_1 [iv z_2] 3), (0, .snap Sx hpx), (6, .marks rs_1)] w ∧ MReps kl_88 C_int false Dv_1 mp_2 es_4.toList ∧ MReps kl_88 C_int false Dv_1 mp_3 es_5.toList ∧ spare_opened_1_k3 v32_0 mp_2 mp_3 z_2 = some xo) ?_ ?_))
  ·skip
   refine block (seq (region (step hF (Y.move hF rfl) rfl fun a hF => O.alloc 9 zc_3 hF hS rfl fun b_2 a w hF hS => O.store (us := [iv v32_0]) 9 sz_3 hF rfl rfl rfl rfl hS rfl rfl fun a w hF hS => nT (seq (seq (region (step hF (Y.move hF rfl) rfl fun a hF => step hF (Y.load1L 9 sz_3 hF rfl hS rfl rfl) rfl fun a hF => ?_)))))))
   obtain ⟨hg, h⟩ := ite_some h
   refine step hF (Y.shr hF rfl rfl hg) rfl fun a hF => step hF (Y.and hF rfl rfl) rfl fun a hF => step hF (Y.eql hF rfl rfl) rfl fun a hF => nT (cond_b hF rfl (fun hbv_5 => ?_) (fun hbv_5 => ?_))
   ·replace h := cond_t h hbv_5
    refine exit_ (then_x (blk_hit (then_n (⟨mp, mp_1, z_1, Dv, rs, es_2, clk_2, es_3, clk_3, Stab.le.refl _, hF.weak (AF rfl), hS.weak (AL rfl), hm_4, hm_5, h⟩))))
   replace h := cond_f h hbv_5
   refine skip_ (then_n (seq ?_))
   obtain ⟨hg_1, h⟩ := ite_some h
   refine drawsV 5 (.flt 0 (.flt 1 (.flt 2 (.flt 3 (.flt 4 .done))))) mixed_ (by kernel_rfl) (fun w => St wb Db Dv [(1, .obj bb_1 (.map es_2 clk_2)), (2, .obj bb_2 (.map es_3 clk_3)), (7, .cells b [iv set, iv rv] 88), (8, .cells b_1 [iv z_1] 3), (9, .cells b_2 [iv v32_0] 3), (0, .snap Sx hpx), (6, .marks rs)] w) (fun a w => Frm 69 rs [(0, iv set), (1, .pointer (some ⟨bb, 0, none⟩)), (3, .pointer (some ⟨bb_4, 0, none⟩)), (5, iv 0), (6, .pointer (some ⟨b, 0, none⟩)), (9, .pointer (some ⟨b_1, 0, none⟩)), (10, .pointer (some ⟨b_2, 0, none⟩)), (31, iv (cv_1.Machines.length : Int)), (32, iv v32_0), (40, .func (.func 70) #[] #[.pointer (some ⟨bb, 0, none⟩), .pointer (some ⟨bb_3, 0, none⟩), .pointer (some ⟨bb_4, 0, none⟩)]), (44, iv (bitsOp .andNot set (gshl 1 v32_0)))] a ∧ St wb Db Dv [(1, .obj bb_1 (.map es_2 clk_2)), (2, .obj bb_2 (.map es_3 clk_3)), (7, .cells b [iv set, iv rv] 88), (8, .cells b_1 [iv z_1] 3), (9, .cells b_2 [iv v32_0] 3), (0, .snap Sx hpx), (6, .marks rs)] w) (hS.weak (ms := [(1, .obj bb_1 (.map es_2 clk_2)), (2, .obj bb_2 (.map es_3 clk_3)), (7, .cells b [iv set, iv rv] 88), (8, .cells b_1 [iv z_1] 3), (9, .cells b_2 [iv v32_0] 3), (0, .snap Sx hpx), (6, .marks rs)]) (AL rfl)).drew (fun _ _ _ _ h => h) ?_ ?_
   ·replace hS := hS.drew
    have hle0 := hS.le
    refine stepV (i := 0) rfl hF (fun w hS => Y.load1H sz_56 hF rfl (hS.stab _ _ hbv_2) rfl) rfl fun a hF => stepV (i := 1) rfl hF (fun w hS => Y.move hF rfl) rfl fun a hF => stepV (i := 2) rfl hF (fun w hS => Y.load1L 9 sz_3 hF rfl hS rfl rfl) rfl fun a hF => stepV (i := 3) rfl hF (fun w hS => Y.shl hF rfl rfl hg_1) rfl fun a hF => stepV (i := 4) rfl hF (fun w hS => Y.andNot hF rfl rfl) rfl fun a hF => toTailV ⟨hF.weak (AF rfl), hS.weak (AL rfl)⟩
   rintro a w ⟨hF, hS⟩
   obtain ⟨rv_1, hx_1, h⟩ := bind_some h
   refine O.callVM (f := 70) (first := []) (cap := [.pointer (some ⟨bb, 0, none⟩), .pointer (some ⟨bb_3, 0, none⟩), .pointer (some ⟨bb_4, 0, none⟩)]) (us := [iv (bitsOp .andNot set (gshl 1 v32_0))]) ca_70 hF rfl rfl (hself (bitsOp .andNot set (gshl 1 v32_0)) (spare_store.mk cv.SpareStore mp mp_1) cv_1 hs hm_4 hm_5 hs_1 hbv hbv_1 hbv_2 hG (hS.lend2 (i := 1) (j := 2) rfl rfl (by decide)) rv_1 hx_1) rfl fun v Dv_2 a w hR hlev_2 hF => ?_
   replace hbv := hlev_2 _ _ hbv
   replace hbv_1 := hlev_2 _ _ hbv_1
   replace hbv_2 := hlev_2 _ _ hbv_2
   replace hs := hs.mono hlev_2
   replace hG := hG.mono hlev_2
   obtain ⟨es_6, clk_6, es_7, clk_7, hS2_0, rfl, hm_8, hm_9⟩ := hR
   replace hS := hS.back2 (i := 1) (j := 2) rfl rfl (by decide) hS2_0
   refine step hF (Y.assign hF rfl) rfl fun a hF => nT (seq (seq (region (step hF (Y.move hF rfl) rfl fun a hF => step hF (Y.lss hF rfl rfl) rfl fun a hF => nT (cond_b hF rfl (fun hbv_6 => ?_) (fun hbv_6 => ?_))))))
   ·replace h := cond_t h hbv_6
    refine exit_ (then_x (blk_hit (then_n (⟨rv_1.2.1, rv_1.2.2, z_1, Dv_2, rs, es_6, clk_6, es_7, clk_7, hlev_2, hF.weak (AF rfl), hS.weak (AL rfl), hm_8, hm_9, h⟩))))
   replace h := cond_f h hbv_6
   refine skip_ (then_n (seq ?_))
   obtain ⟨hg_2, h⟩ := ite_some h
   refine drawsV 4 (.flt 0 (.flt 1 (.flt 2 (.flt 3 .done)))) mixed_ (by kernel_rfl) (fun w => St wb Db Dv_2 [(1, .obj bb_1 (.map es_6 clk_6)), (2, .obj bb_2 (.map es_7 clk_7)), (7, .cells b [iv set, iv rv] 88), (8, .cells b_1 [iv z_1] 3), (9, .cells b_2 [iv v32_0] 3), (0, .snap Sx hpx), (6, .marks rs)] w) (fun a w => Frm 69 rs [(0, iv set), (1, .pointer (some ⟨bb, 0, none⟩)), (3, .pointer (some ⟨bb_4, 0, none⟩)), (5, iv 0), (6, .pointer (some ⟨b, 0, none⟩)), (9, .pointer (some ⟨b_1, 0, none⟩)), (10, .pointer (some ⟨b_2, 0, none⟩)), (31, iv (cv_1.Machines.length : Int)), (32, iv v32_0), (48, .agg #[iv cv.SpareStore.Hours, iv cv.SpareStore.Gap, .slice p cv.SpareStore.Machines.length c, .map (some bb_1), .map (some bb_2)]), (50, iv (gshl 1 v32_0)), (51, iv rv_1.1)] a ∧ St wb Db Dv_2 [(1, .obj bb_1 (.map es_6 clk_6)), (2, .obj bb_2 (.map es_7 clk_7)), (7, .cells b [iv set, iv rv] 88), (8, .cells b_1 [iv z_1] 3), (9, .cells b_2 [iv v32_0] 3), (0, .snap Sx hpx), (6, .marks rs)] w) (hS.weak (ms := [(1, .obj bb_1 (.map es_6 clk_6)), (2, .obj bb_2 (.map es_7 clk_7)), (7, .cells b [iv set, iv rv] 88), (8, .cells b_1 [iv z_1] 3), (9, .cells b_2 [iv v32_0] 3), (0, .snap Sx hpx), (6, .marks rs)]) (AL rfl)).drew (fun _ _ _ _ h => h) ?_ ?_
   ·replace hS := hS.drew
    have hle0 := hS.le
    refine stepV (i := 0) rfl hF (fun w hS => Y.loadNH sz_80 hF rfl (hS.stab _ _ hbv) rfl rfl) rfl fun a hF => stepV (i := 1) rfl hF (fun w hS => Y.load1L 9 sz_3 hF rfl hS rfl rfl) rfl fun a hF => stepV (i := 2) rfl hF (fun w hS => Y.shl hF rfl rfl hg_2) rfl fun a hF => stepV (i := 3) rfl hF (fun w hS => Y.move hF rfl) rfl fun a hF => toTailV ⟨hF.weak (AF rfl), hS.weak (AL rfl)⟩
   rintro a w ⟨hF, hS⟩
   obtain ⟨rv_2, hx_2, h⟩ := bind_some h
   refine O.callS (us := [.agg #[iv cv.SpareStore.Hours, iv cv.SpareStore.Gap, .slice p cv.SpareStore.Machines.length c, .map (some bb_1), .map (some bb_2)], iv (gshl 1 v32_0), iv rv_1.1, iv 0]) ca_71 hF hS (spare_store_follow_ok hS.stab (spare_store.mk cv.SpareStore rv_1.2.1 rv_1.2.2) (gshl 1 v32_0) rv_1.1 0 hs rv_2 hx_2) rfl rfl fun v_1 Dv_3 a w hR_1 hlev_3 hF hS => ?_
   replace hbv := hlev_3 _ _ hbv
   replace hbv_1 := hlev_3 _ _ hbv_1
   replace hbv_2 := hlev_3 _ _ hbv_2
   replace hG := hG.mono hlev_3
   replace hm_8 := hm_8.mono hlev_3
   replace hm_9 := hm_9.mono hlev_3
   obtain ⟨bb_5, bb_6, bb_7, bb_8, p_2, c_2, bm_2, bm_3, rfl, hbv_7, hbv_8, hbv_9, hbv_10, hs_2⟩ := hR_1
   refine nT (block ?_)
   replace hF := hF.weak (us := [(0, iv set), (1, .pointer (some ⟨bb, 0, none⟩)), (3, .pointer (some ⟨bb_4, 0, none⟩)), (5, iv 0), (6, .pointer (some ⟨b, 0, none⟩)), (9, .pointer (some ⟨b_1, 0, none⟩)), (10, .pointer (some ⟨b_2, 0, none⟩)), (31, iv (cv_1.Machines.length : Int)), (32, iv v32_0), (52, .func (.func 76) #[] #[.pointer (some ⟨bb_5, 0, none⟩), .pointer (some ⟨bb_6, 0, none⟩), .pointer (some ⟨bb_7, 0, none⟩), .pointer (some ⟨bb_8, 0, none⟩)])]) (AF rfl)
   obtain ⟨⟨so, so_1, so_2⟩, hx_3, h⟩ := bind_some h
   dsimp only at h
   have hsz := hF.size
   have hgt := hF.get
   refine range_cut (first := []) (cap := [.pointer (some ⟨bb_5, 0, none⟩), .pointer (some ⟨bb_6, 0, none⟩), .pointer (some ⟨bb_7, 0, none⟩), .pointer (some ⟨bb_8, 0, none⟩)]) (K := fun m lp R w => ∃ D ms, Dv_3.le D ∧ (fun (s : ((List (spare_some × Int)) × (List (spare_some × Int)) × Int)) D ms => ∃ (mp_4 : (List (spare_some × Int))) (mp_5 : (List (spare_some × Int))) (z_3 : Int), ∃ es_8 clk_8 es_9 clk_9, s = (mp_4, mp_5, z_3) ∧ ms = [(14, .obj lp R), (1, .obj bb_1 (.map es_8 clk_8)), (2, .obj bb_2 (.map es_9 clk_9)), (7, .cells b [iv set, iv rv] 88), (8, .cells b_1 [iv z_3] 3), (9, .cells b_2 [iv v32_0] 3), (0, .snap Sx hpx), (6, .marks (m :: rs))] ∧ MReps kl_88 C_int false D mp_4 es_8.toList ∧ MReps kl_88 C_int false D mp_5 es_9.toList) (so, so_1, so_2) D ms ∧ St wb Db D ms w) 6 14 (by decide) ca_76 hF hS rfl rfl (fun fn m lp R hR w hS => ?_) (fun m lp R w hK => ?_)
   ·refine spare_store_follow_1_it (Inv := fun (s : ((List (spare_some × Int)) × (List (spare_some × Int)) × Int)) D ms => ∃ (mp_4 : (List (spare_some × Int))) (mp_5 : (List (spare_some × Int))) (z_3 : Int), ∃ es_8 clk_8 es_9 clk_9, s = (mp_4, mp_5, z_3) ∧ ms = [(14, .obj lp R), (1, .obj bb_1 (.map es_8 clk_8)), (2, .obj bb_2 (.map es_9 clk_9)), (7, .cells b [iv set, iv rv] 88), (8, .cells b_1 [iv z_3] 3), (9, .cells b_2 [iv v32_0] 3), (0, .snap Sx hpx), (6, .marks (m :: rs))] ∧ MReps kl_88 C_int false D mp_4 es_8.toList ∧ MReps kl_88 C_int false D mp_5 es_9.toList) (yield_ := spare_opened_1_y4 set rv v32_0) ?_ ?_ lp rv_2.1 rv_2.2.1 rv_2.2.2.1 rv_2.2.2.2 hs_2 hbv_7 hbv_8 hbv_9 hbv_10 hG (rv_1.2.1, rv_1.2.2, z_1) (so, so_1, so_2) ?_ hx_3 (ms := [(14, .obj lp R), (1, .obj bb_1 (.map es_6 clk_6)), (2, .obj bb_2 (.map es_7 clk_7)), (7, .cells b [iv set, iv rv] 88), (8, .cells b_1 [iv z_1] 3), (9, .cells b_2 [iv v32_0] 3), (0, .snap Sx hpx), (6, .marks (m :: rs))]) ⟨rv_1.2.1, rv_1.2.2, z_1, es_6, clk_6, es_7, clk_7, rfl, rfl, hm_8, hm_9⟩ (hS.weak (AL rfl))
    ·rintro s D ms ⟨_, _, _, _, _, _, _, rfl, rfl, z0, z1⟩; exact small_lt rfl
    ·rintro s D ms D2 ⟨_, _, _, _, _, _, _, rfl, rfl, z0, z1⟩ hle; exact ⟨_, _, _, _, _, _, _, rfl, rfl, z0.mono hle, z1.mono hle⟩
    rintro xy s s2 Dv_4 ms w h hlev_4 ⟨mp_4, mp_5, z_3, es_8, clk_8, es_9, clk_9, rfl, rfl, hm_10, hm_11⟩ hS
    unfold spare_opened_1_y4 at h
    dsimp only at h
    refine round_cut2 14 hsz hgt rfl rfl hS rfl hR fun R2 a hF => ?_
    replace hbv := hlev_4 _ _ hbv
    replace hbv_1 := hlev_4 _ _ hbv_1
    replace hbv_2 := hlev_4 _ _ hbv_2
    replace hbv_7 := hlev_4 _ _ hbv_7
    replace hbv_8 := hlev_4 _ _ hbv_8
    replace hbv_9 := hlev_4 _ _ hbv_9
    replace hbv_10 := hlev_4 _ _ hbv_10
    refine region (step hF (Y.assign hF rfl) rfl fun a hF => nT (⟨_, _, hS, rfl, fun w hS => ?_⟩))
    refine block (seq (region (step hF (Y.move hF rfl) rfl fun a hF => step hF (Y.load1L 8 sz_3 hF rfl hS rfl rfl) rfl fun a hF => step hF (Y.gtr hF rfl rfl) rfl fun a hF => nT (cond_b hF rfl (fun hbv_11 => ?_) (fun hbv_11 => ?_)))))
    ·replace h := cond_t h hbv_11
     refine seq (region (step hF (Y.move hF rfl) rfl fun a hF => O.store (us := [iv xy.2]) 8 sz_3 hF rfl rfl rfl rfl hS rfl rfl fun a w hF hS => nT (region (step hF (Y.fieldAddr fo_80_2 hF rfl) rfl fun a hF => step hF (Y.load1H sz_78 hF rfl (hS.stab _ _ hbv) rfl) rfl fun a hF => step hF (Y.loadNL 7 sz_88 hF rfl hS rfl rfl rfl) rfl fun a hF => step hF (Y.load1L 9 sz_3 hF rfl hS rfl rfl) rfl fun a hF => map_put (kl := kl_88) (C := C_int) (agg := false) (x := (.tmp 60)) (y := (.tmp 61)) (u := (.tmp 62)) (v0 := v32_0) (cs := [iv v32_0]) (.inl rfl) 2 mt_78 (fun _ => rfl) (spare_some.mk set rv) hm_11 rfl hF rfl rfl rfl hS rfl fun es_10 clk_10 a w hF hS hm_12 => nil (blk_n (then_n ?_))))))
     obtain rfl := some_inj h
     refine ⟨_, _, hS, rfl, fun w hS => ⟨Dv_4, _, Stab.le.refl _, ⟨mp_4, (mput kl_88 mp_5 (spare_some.mk set rv) v32_0), xy.2, es_8, clk_8, es_10, clk_10, rfl, rfl, hm_10, hm_12⟩, hS.weak (AL rfl)⟩⟩
    replace h := cond_f h hbv_11
    refine skip_ (blk_n (then_n ?_))
    obtain rfl := some_inj h
    refine ⟨_, _, hS, rfl, fun w hS => ⟨Dv_4, _, Stab.le.refl _, ⟨mp_4, mp_5, z_3, es_8, clk_8, es_9, clk_9, rfl, rfl, hm_10, hm_11⟩, hS.weak (AL rfl)⟩⟩
   obtain ⟨Dv_4, ms, hlev_5, ⟨so, so_1, so_2, es_8, clk_8, es_9, clk_9, hso, rfl, hm_10, hm_11⟩, hS⟩ := hK
   obtain ⟨rfl, rfl, rfl⟩ := hso
   refine ⟨Dv_4, _, hS, rfl, fun a w hF hS => ?_⟩
   replace hbv := hlev_5 _ _ hbv
   replace hbv_1 := hlev_5 _ _ hbv_1
   replace hbv_2 := hlev_5 _ _ hbv_2
   replace hbv_7 := hlev_5 _ _ hbv_7
   replace hbv_8 := hlev_5 _ _ hbv_8
   replace hbv_9 := hlev_5 _ _ hbv_9
   replace hbv_10 := hlev_5 _ _ hbv_10
   refine blk_n (blk_n (then_n (⟨so, so_1, so_2, Dv_4, (m :: rs), es_8, clk_8, es_9, clk_9, hlev_2.trans (hlev_3.trans hlev_5), hF.weak (AF rfl), hS.weak (AL rfl), hm_10, hm_11, h⟩)))
  rintro a w ⟨mp_2, mp_3, z_2, Dv_1, rs_1, es_4, clk_4, es_5, clk_5, hlev_1, hF, hS, hm_6, hm_7, h⟩
  unfold spare_opened_1_k3 at h
  replace hbv := hlev_1 _ _ hbv
  replace hbv_1 := hlev_1 _ _ hbv_1
  replace hbv_2 := hlev_1 _ _ hbv_2
  refine region (step hF (Y.add hF rfl rfl) rfl fun a hF => step hF (Y.move hF rfl) rfl fun a hF => nT (⟨_, nxt_some h, (wr (v32_0 + 1)), mp_2, mp_3, z_2, Dv_1, rs_1, es_4, clk_4, es_5, clk_5, rfl, hlev.trans hlev_1, hF.weak (AF rfl), hS.weak (AL rfl), hm_6, hm_7⟩))
 replace h := cond_f h hbv_4
 refine exit_ (then_x (then_x (blk_hit (then_n ?_))))
 replace h := ext_some h hxo
 refine seq (region (step hF (Y.fieldAddr fo_80_1 hF rfl) rfl fun a hF => step hF (Y.load1H sz_78 hF rfl (hS.stab _ _ hbv) rfl) rfl fun a hF => step hF (Y.loadNL 7 sz_88 hF rfl hS rfl rfl rfl) rfl fun a hF => step hF (Y.load1L 8 sz_3 hF rfl hS rfl rfl) rfl fun a hF => map_put (kl := kl_88) (C := C_int) (agg := false) (x := (.tmp 65)) (y := (.tmp 66)) (u := (.tmp 67)) (v0 := z_1) (cs := [iv z_1]) (.inl rfl) 1 mt_78 (fun _ => rfl) (spare_some.mk set rv) hm_4 rfl hF rfl rfl rfl hS rfl fun es_11 clk_11 a w hF hS hm_13 => nT (seq (region (step hF (Y.load1L 8 sz_3 hF rfl hS rfl rfl) rfl fun a hF => step hF (Y.assign hF rfl) rfl fun a hF => nT (ret_ ?_))))))
 obtain rfl := some_inj h
 exact leaveM (ms := [(1, .obj bb_1 (.map es_11 clk_11)), (2, .obj bb_2 (.map es_3 clk_3)), (0, .snap Sx hpx)]) Tryd.results70 hF hS (.cons (.tmp rfl) .nil) (.inr ⟨6, rfl, rfl⟩) ⟨rfl, rfl, rfl, trivial⟩ hlev fun w hS => ⟨_, _, _, _, hS, rfl, hm_13, hm_5⟩
noncomputable def spare_opened_1_n : Nat → Int → spare_store → SpareStore → Option (Int × (List (spare_some × Int)) × (List (spare_some × Int)))
 | 0 => fun _ _ _ => none
 | n + 1 => spare_opened_1_step (spare_opened_1_n n)
theorem spare_opened_1_n_ok : ∀ n, ∀ {wb w0 : World} {Db D0 : Stab} {Sx : List Nat} {hpx : Nat → Option Obj} (set : Int) (cv : spare_store) (cv_1 : SpareStore) {p : Option Addr} {c : Nat} {bb_1 : Nat} {es : Array MapEntry} {clk : Nat} {bb_2 : Nat} {es_1 : Array MapEntry} {clk_1 : Nat} {bb : Nat} {p_1 : Option Addr} {c_1 : Nat} {bb_3 : Nat} {bb_4 : Nat} (hs : SRc C_SpareMachine D0 cv.SpareStore.Machines p c) (hm_2 : MReps kl_88 C_int false D0 cv.far es.toList) (hm_3 : MReps kl_88 C_int false D0 cv.last es_1.toList) (hs_1 : SRc C_SpareMachine D0 cv_1.Machines p_1 c_1) (hbv : D0 bb = some (.cells ([iv cv.SpareStore.Hours, iv cv.SpareStore.Gap, .slice p cv.SpareStore.Machines.length c, .map (some bb_1), .map (some bb_2)]).toArray 80 (0, 0))) (hbv_1 : D0 bb_3 = some (.cells ([iv cv_1.Hours, iv cv_1.Gap, .slice p_1 cv_1.Machines.length c_1]).toArray 24 (0, 0))) (hbv_2 : D0 bb_4 = some (.cells ([.func (.func 70) #[] #[.pointer (some ⟨bb, 0, none⟩), .pointer (some ⟨bb_3, 0, none⟩), .pointer (some ⟨bb_4, 0, none⟩)]]).toArray 56 (0, 0))) (hG : Glob D0) (hS0 : St wb Db D0 [(1, .obj bb_1 (.map es clk)), (2, .obj bb_2 (.map es_1 clk_1)), (0, .snap Sx hpx)] w0) (out : (Int × (List (spare_some × Int)) × (List (spare_some × Int)))) (h : spare_opened_1_n n set cv cv_1 = some out), Calls Tryd.prog 70 [iv set, .pointer (some ⟨bb, 0, none⟩), .pointer (some ⟨bb_3, 0, none⟩), .pointer (some ⟨bb_4, 0, none⟩)].toArray w0 (RetM D0 fun D w v => ∃ (es1 : Array MapEntry) (ck1 : Nat) (es2 : Array MapEntry) (ck2 : Nat), St wb Db D [(1, .obj bb_1 (.map es1 ck1)), (2, .obj bb_2 (.map es2 ck2)), (0, .snap Sx hpx)] w ∧ v = iv out.1 ∧ MReps kl_88 C_int false D out.2.1 es1.toList ∧ MReps kl_88 C_int false D out.2.2 es2.toList)
 | 0 => by intros; rename_i h; simp only [spare_opened_1_n] at h; cases h
 | n + 1 => spare_opened_1_step_ok (spare_opened_1_n n) (spare_opened_1_n_ok n)
noncomputable def spare_opened_1 (set : Int) (cv : spare_store) (cv_1 : SpareStore) : Option (Int × (List (spare_some × Int)) × (List (spare_some × Int))) := limU fun n => spare_opened_1_n n set cv cv_1
theorem spare_opened_1_ok {wb w0 : World} {Db D0 : Stab} {Sx : List Nat} {hpx : Nat → Option Obj} (set : Int) (cv : spare_store) (cv_1 : SpareStore) {p : Option Addr} {c : Nat} {bb_1 : Nat} {es : Array MapEntry} {clk : Nat} {bb_2 : Nat} {es_1 : Array MapEntry} {clk_1 : Nat} {bb : Nat} {p_1 : Option Addr} {c_1 : Nat} {bb_3 : Nat} {bb_4 : Nat} (hs : SRc C_SpareMachine D0 cv.SpareStore.Machines p c) (hm_2 : MReps kl_88 C_int false D0 cv.far es.toList) (hm_3 : MReps kl_88 C_int false D0 cv.last es_1.toList) (hs_1 : SRc C_SpareMachine D0 cv_1.Machines p_1 c_1) (hbv : D0 bb = some (.cells ([iv cv.SpareStore.Hours, iv cv.SpareStore.Gap, .slice p cv.SpareStore.Machines.length c, .map (some bb_1), .map (some bb_2)]).toArray 80 (0, 0))) (hbv_1 : D0 bb_3 = some (.cells ([iv cv_1.Hours, iv cv_1.Gap, .slice p_1 cv_1.Machines.length c_1]).toArray 24 (0, 0))) (hbv_2 : D0 bb_4 = some (.cells ([.func (.func 70) #[] #[.pointer (some ⟨bb, 0, none⟩), .pointer (some ⟨bb_3, 0, none⟩), .pointer (some ⟨bb_4, 0, none⟩)]]).toArray 56 (0, 0))) (hG : Glob D0) (hS0 : St wb Db D0 [(1, .obj bb_1 (.map es clk)), (2, .obj bb_2 (.map es_1 clk_1)), (0, .snap Sx hpx)] w0) (out : (Int × (List (spare_some × Int)) × (List (spare_some × Int)))) (h : spare_opened_1 set cv cv_1 = some out) : Calls Tryd.prog 70 [iv set, .pointer (some ⟨bb, 0, none⟩), .pointer (some ⟨bb_3, 0, none⟩), .pointer (some ⟨bb_4, 0, none⟩)].toArray w0 (RetM D0 fun D w v => ∃ (es1 : Array MapEntry) (ck1 : Nat) (es2 : Array MapEntry) (ck2 : Nat), St wb Db D [(1, .obj bb_1 (.map es1 ck1)), (2, .obj bb_2 (.map es2 ck2)), (0, .snap Sx hpx)] w ∧ v = iv out.1 ∧ MReps kl_88 C_int false D out.2.1 es1.toList ∧ MReps kl_88 C_int false D out.2.2 es2.toList) := by
 obtain ⟨n, hfu_⟩ := limU_some h
 exact spare_opened_1_n_ok n set cv cv_1 hs hm_2 hm_3 hs_1 hbv hbv_1 hbv_2 hG hS0 out hfu_
noncomputable def spare_opened_b1 (xv : SpareStore) : (Int × (List (spare_some × Int)) × (List (spare_some × Int))) → Option ((Int × (List (spare_some × Int)) × (List (spare_some × Int))) ⊕ spare_store)
 | (v22_0, mp, mp_1) =>
  cond (decide (v22_0 < (gshl 1 (xv.Machines.length : Int))))
  ((spare_opened_1 v22_0 (spare_store.mk xv mp mp_1) xv).bind fun rv_1 =>
  nxt (wr (v22_0 + 1), rv_1.2.1, rv_1.2.2))
  (ext (some (spare_store.mk xv mp mp_1)))
noncomputable def spare_opened (xv : SpareStore) : Option spare_store :=
  if ¬ (xv.Machines.length : Int) < 0 then
  (spare_opened_1 (wr ((gshl 1 (xv.Machines.length : Int)) - 1)) (spare_store.mk xv ([] : (List (spare_some × Int))) ([] : (List (spare_some × Int)))) xv).bind fun rv =>
  if ¬ (xv.Machines.length : Int) < 0 then
  loopU (spare_opened_b1 xv) (0, rv.2.1, rv.2.2)
  else none
  else none
theorem spare_opened_ok {w0 : World} {D0 : Stab} (hD : D0.on w0) (xv : SpareStore) {p : Option Addr} {c : Nat} (hs : SRc C_SpareMachine D0 xv.Machines p c) (hG : Glob D0) (out : spare_store) (h : spare_opened xv = some out) : Calls Tryd.prog 55 [.agg #[iv xv.Hours, iv xv.Gap, .slice p xv.Machines.length c]].toArray w0 (RetS D0 w0 fun D v => ∃ p_1 c_1 bm bm_1, v = .agg #[iv out.SpareStore.Hours, iv out.SpareStore.Gap, .slice p_1 out.SpareStore.Machines.length c_1, .map bm, .map bm_1] ∧ SRc C_SpareMachine D out.SpareStore.Machines p_1 c_1 ∧ MapS kl_88 C_int false D out.far bm ∧ MapS kl_88 C_int false D out.last bm_1) := by
 refine enter _ 30 Tryd.func55 rfl Tryd.ntmps55 rfl fun a hF => ?_
 replace hF : Frm 30 [] [(0, .agg #[iv xv.Hours, iv xv.Gap, .slice p xv.Machines.length c])] a := hF
 have hS := St.start hD
 unfold spare_opened at h
 refine seq (region (O.box (cs := [iv xv.Hours, iv xv.Gap, .slice p xv.Machines.length c]) 1 hF rfl rfl hS rfl fun b a w hF hS => O.alloc 2 zc_80 hF hS rfl fun b_1 a w hF hS => nT (seq (region (step hF (Y.loadNL 1 sz_24 hF rfl hS rfl rfl rfl) rfl fun a hF => O.makeMap 3 hF hS rfl fun b_2 a w hF hS => ?_)))))
 have hm : MReps kl_88 C_int false D0 ([] : (List (spare_some × Int))) (#[] : Array MapEntry).toList := rfl
 refine O.makeMap 4 hF hS rfl fun b_3 a w hF hS => ?_
 have hm_1 : MReps kl_88 C_int false D0 ([] : (List (spare_some × Int))) (#[] : Array MapEntry).toList := rfl
 refine step hF (Y.build (parts := [(0, (.tmp 6)), (1, (.tmp 7)), (2, (.tmp 8))]) (cs := #[iv xv.Hours, iv xv.Gap, .slice p xv.Machines.length c, .map (some b_2), .map (some b_3)]) hF rfl (by kernel_rfl)) rfl fun a hF => O.alloc 5 zc_80 hF hS rfl fun b_4 a w hF hS => O.store (us := [iv xv.Hours, iv xv.Gap, .slice p xv.Machines.length c, .map (some b_2), .map (some b_3)]) 5 sz_80 hF rfl rfl rfl rfl hS rfl rfl fun a w hF hS => nT (seq (region (O.alloc 6 zc_56 hF hS rfl fun b_5 a w hF hS => nT (seq (region (step hF (Y.makeFunc (first := []) (cap := [(.tmp 3), (.tmp 1), (.tmp 4)]) (fs := []) (cs := [.pointer (some ⟨b_4, 0, none⟩), .pointer (some ⟨b, 0, none⟩), .pointer (some ⟨b_5, 0, none⟩)]) hF rfl rfl) rfl fun a hF => O.store (us := [.func (.func 70) #[] #[.pointer (some ⟨b_4, 0, none⟩), .pointer (some ⟨b, 0, none⟩), .pointer (some ⟨b_5, 0, none⟩)]]) 6 sz_56 hF rfl rfl rfl rfl hS rfl rfl fun a w hF hS => nT (seq ?_)))))))
 obtain ⟨hg, h⟩ := ite_some h
 refine drawsV 6 (.flt 0 (.flt 1 (.flt 2 (.flt 3 (.flt 4 (.flt 5 .done)))))) mixed_ (by kernel_rfl) (fun w => St w0 D0 D0 [(1, .cells b [iv xv.Hours, iv xv.Gap, .slice p xv.Machines.length c] 24), (2, .cells b_1 [iv 0, iv 0, .slice none 0 0, .map none, .map none] 80), (3, .obj b_2 (.map #[] 0)), (4, .obj b_3 (.map #[] 0)), (5, .cells b_4 [iv xv.Hours, iv xv.Gap, .slice p xv.Machines.length c, .map (some b_2), .map (some b_3)] 80), (6, .cells b_5 [.func (.func 70) #[] #[.pointer (some ⟨b_4, 0, none⟩), .pointer (some ⟨b, 0, none⟩), .pointer (some ⟨b_5, 0, none⟩)]] 56)] w) (fun a w => Frm 30 [] [(1, .pointer (some ⟨b, 0, none⟩)), (2, .pointer (some ⟨b_1, 0, none⟩)), (3, .pointer (some ⟨b_4, 0, none⟩)), (4, .pointer (some ⟨b_5, 0, none⟩)), (11, .func (.func 70) #[] #[.pointer (some ⟨b_4, 0, none⟩), .pointer (some ⟨b, 0, none⟩), .pointer (some ⟨b_5, 0, none⟩)]), (16, iv (wr ((gshl 1 (xv.Machines.length : Int)) - 1)))] a ∧ St w0 D0 D0 [(1, .cells b [iv xv.Hours, iv xv.Gap, .slice p xv.Machines.length c] 24), (2, .cells b_1 [iv 0, iv 0, .slice none 0 0, .map none, .map none] 80), (3, .obj b_2 (.map #[] 0)), (4, .obj b_3 (.map #[] 0)), (5, .cells b_4 [iv xv.Hours, iv xv.Gap, .slice p xv.Machines.length c, .map (some b_2), .map (some b_3)] 80), (6, .cells b_5 [.func (.func 70) #[] #[.pointer (some ⟨b_4, 0, none⟩), .pointer (some ⟨b, 0, none⟩), .pointer (some ⟨b_5, 0, none⟩)]] 56)] w) (hS.weak (ms := [(1, .cells b [iv xv.Hours, iv xv.Gap, .slice p xv.Machines.length c] 24), (2, .cells b_1 [iv 0, iv 0, .slice none 0 0, .map none, .map none] 80), (3, .obj b_2 (.map #[] 0)), (4, .obj b_3 (.map #[] 0)), (5, .cells b_4 [iv xv.Hours, iv xv.Gap, .slice p xv.Machines.length c, .map (some b_2), .map (some b_3)] 80), (6, .cells b_5 [.func (.func 70) #[] #[.pointer (some ⟨b_4, 0, none⟩), .pointer (some ⟨b, 0, none⟩), .pointer (some ⟨b_5, 0, none⟩)]] 56)]) (AL rfl)).drew (fun _ _ _ _ h => h) ?_ ?_
 ·replace hS := hS.drew
  have hle0 := hS.le
  refine stepV (i := 0) rfl hF (fun w hS => Y.load1L 6 sz_56 hF rfl hS rfl rfl) rfl fun a hF => stepV (i := 1) rfl hF (fun w hS => Y.fieldAddr fo_24_2 hF rfl) rfl fun a hF => stepV (i := 2) rfl hF (fun w hS => Y.load1L 1 sz_22 hF rfl hS rfl rfl) rfl fun a hF => stepV (i := 3) rfl hF (fun w hS => Y.lenSl u_22 hF rfl) rfl fun a hF => stepV (i := 4) rfl hF (fun w hS => Y.shl hF rfl rfl hg) rfl fun a hF => stepV (i := 5) rfl hF (fun w hS => Y.sub hF rfl rfl) rfl fun a hF => toTailV ⟨hF.weak (AF rfl), hS.weak (AL rfl)⟩
 rintro a w ⟨hF, hS⟩
 obtain ⟨Dv, hlev, hbx, hS⟩ := hS.freezeB (i := 5) rfl
 replace hs := hs.mono hlev
 replace hG := hG.mono hlev
 replace hm := hm.mono hlev
 replace hm_1 := hm_1.mono hlev
 obtain ⟨Dv_1, hlev_1, hbx_1, hS⟩ := hS.freezeB (i := 1) rfl
 replace hs := hs.mono hlev_1
 replace hG := hG.mono hlev_1
 replace hm := hm.mono hlev_1
 replace hm_1 := hm_1.mono hlev_1
 replace hbx := hlev_1 _ _ hbx
 obtain ⟨Dv_2, hlev_2, hbx_2, hS⟩ := hS.freezeB (i := 6) rfl
 replace hs := hs.mono hlev_2
 replace hG := hG.mono hlev_2
 replace hm := hm.mono hlev_2
 replace hm_1 := hm_1.mono hlev_2
 replace hbx := hlev_2 _ _ hbx
 replace hbx_1 := hlev_2 _ _ hbx_1
 obtain ⟨rv, hx, h⟩ := bind_some h
 refine O.callVM (f := 70) (first := []) (cap := [.pointer (some ⟨b_4, 0, none⟩), .pointer (some ⟨b, 0, none⟩), .pointer (some ⟨b_5, 0, none⟩)]) (us := [iv (wr ((gshl 1 (xv.Machines.length : Int)) - 1))]) ca_70 hF rfl rfl (spare_opened_1_ok (wr ((gshl 1 (xv.Machines.length : Int)) - 1)) (spare_store.mk xv ([] : (List (spare_some × Int))) ([] : (List (spare_some × Int)))) xv hs hm hm_1 hs hbx hbx_1 hbx_2 hG (hS.lend2 (i := 3) (j := 4) rfl rfl (by decide)) rv hx) rfl fun v Dv_3 a w hR hlev_3 hF => ?_
 replace hs := hs.mono hlev_3
 replace hG := hG.mono hlev_3
 replace hbx := hlev_3 _ _ hbx
 replace hbx_1 := hlev_3 _ _ hbx_1
 replace hbx_2 := hlev_3 _ _ hbx_2
 obtain ⟨es, clk, es_1, clk_1, hS2_0, rfl, hm_2, hm_3⟩ := hR
 replace hS := hS.back2 (i := 3) (j := 4) rfl rfl (by decide) hS2_0
 refine nT (seq (seq (region (step hF (Y.fieldAddr fo_24_2 hF rfl) rfl fun a hF => step hF (Y.load1H sz_22 hF rfl (hS.stab _ _ hbx_1) rfl) rfl fun a hF => step hF (Y.lenSl u_22 hF rfl) rfl fun a hF => ?_))))
 obtain ⟨hg_1, h⟩ := ite_some h
 refine step hF (Y.shl hF rfl rfl hg_1) rfl fun a hF => step hF (Y.move hF rfl) rfl fun a hF => nT (block (loop_cut (body := spare_opened_b1 xv) (out := out) (fun s a w => ∃ (v22_0 : Int) (mp : (List (spare_some × Int))) (mp_1 : (List (spare_some × Int))), ∃ (Dv_4 : Stab), ∃ es_2 clk_2 es_3 clk_3, s = (v22_0, mp, mp_1) ∧ Dv_3.le Dv_4 ∧ Frm 30 [] [(2, .pointer (some ⟨b_1, 0, none⟩)), (3, .pointer (some ⟨b_4, 0, none⟩)), (4, .pointer (some ⟨b_5, 0, none⟩)), (21, iv (gshl 1 (xv.Machines.length : Int))), (22, iv v22_0)] a ∧ St w0 D0 Dv_4 [(2, .cells b_1 [iv 0, iv 0, .slice none 0 0, .map none, .map none] 80), (3, .obj b_2 (.map es_2 clk_2)), (4, .obj b_3 (.map es_3 clk_3))] w ∧ MReps kl_88 C_int false Dv_4 mp es_2.toList ∧ MReps kl_88 C_int false Dv_4 mp_1 es_3.toList) (0, rv.2.1, rv.2.2) h ⟨0, rv.2.1, rv.2.2, Dv_3, es, clk, es_1, clk_1, rfl, Stab.le.refl _, hF.weak (AF rfl), hS.weak (AL rfl), hm_2, hm_3⟩ ?_))
 rintro s a w xo ⟨v22_0, mp, mp_1, Dv_4, es_2, clk_2, es_3, clk_3, rfl, hlev_4, hF, hS, hm_4, hm_5⟩ h hxo
 unfold spare_opened_b1 at h
 dsimp only at h
 replace hs := hs.mono hlev_4
 replace hG := hG.mono hlev_4
 replace hbx := hlev_4 _ _ hbx
 replace hbx_1 := hlev_4 _ _ hbx_1
 replace hbx_2 := hlev_4 _ _ hbx_2
 refine seq (region (step hF (Y.lss hF rfl rfl) rfl fun a hF => nT (seq (cond_b hF rfl (fun hbv => ?_) (fun hbv => ?_)))))
 ·replace h := cond_t h hbv
  refine skip_ (then_n (seq (block (seq (region (step hF (Y.move hF rfl) rfl fun a hF => step hF (Y.assign hF rfl) rfl fun a hF => nT (region (step hF (Y.load1H sz_56 hF rfl (hS.stab _ _ hbx_2) rfl) rfl fun a hF => step hF (Y.move hF rfl) rfl fun a hF => ?_))))))))
  obtain ⟨rv_1, hx_1, h⟩ := bind_some h
  refine O.callVM (f := 70) (first := []) (cap := [.pointer (some ⟨b_4, 0, none⟩), .pointer (some ⟨b, 0, none⟩), .pointer (some ⟨b_5, 0, none⟩)]) (us := [iv v22_0]) ca_70 hF rfl rfl (spare_opened_1_ok v22_0 (spare_store.mk xv mp mp_1) xv hs hm_4 hm_5 hs hbx hbx_1 hbx_2 hG (hS.lend2 (i := 3) (j := 4) rfl rfl (by decide)) rv_1 hx_1) rfl fun v_1 Dv_5 a w hR_1 hlev_5 hF => ?_
  replace hbx := hlev_5 _ _ hbx
  replace hbx_1 := hlev_5 _ _ hbx_1
  replace hbx_2 := hlev_5 _ _ hbx_2
  obtain ⟨es_4, clk_4, es_5, clk_5, hS2_1, rfl, hm_6, hm_7⟩ := hR_1
  replace hS := hS.back2 (i := 3) (j := 4) rfl rfl (by decide) hS2_1
  refine nil (blk_n (then_n (region (step hF (Y.add hF rfl rfl) rfl fun a hF => step hF (Y.move hF rfl) rfl fun a hF => nT (⟨_, nxt_some h, (wr (v22_0 + 1)), rv_1.2.1, rv_1.2.2, Dv_5, es_4, clk_4, es_5, clk_5, rfl, hlev_4.trans hlev_5, hF.weak (AF rfl), hS.weak (AL rfl), hm_6, hm_7⟩)))))
 replace h := cond_f h hbv
 refine exit_ (then_x (then_x (blk_hit (then_n ?_))))
 replace h := ext_some h hxo
 refine seq (region (step hF (Y.loadNH sz_80 hF rfl (hS.stab _ _ hbx) rfl rfl) rfl fun a hF => O.store (us := [iv xv.Hours, iv xv.Gap, .slice p xv.Machines.length c, .map (some b_2), .map (some b_3)]) 2 sz_80 hF rfl rfl rfl rfl hS rfl rfl fun a w hF hS => nT (ret_ ?_)))
 obtain ⟨Dv_6, hlev_6, hm_8, hS⟩ := hS.freezeM (i := 3) rfl hm_4
 replace hs := hs.mono hlev_6
 replace hbx := hlev_6 _ _ hbx
 replace hbx_1 := hlev_6 _ _ hbx_1
 replace hbx_2 := hlev_6 _ _ hbx_2
 replace hm_5 := hm_5.mono hlev_6
 obtain ⟨Dv_7, hlev_7, hm_9, hS⟩ := hS.freezeM (i := 4) rfl hm_5
 replace hs := hs.mono hlev_7
 replace hbx := hlev_7 _ _ hbx
 replace hbx_1 := hlev_7 _ _ hbx_1
 replace hbx_2 := hlev_7 _ _ hbx_2
 replace hm_8 := hm_8.mono hlev_7
 obtain rfl := some_inj h
 exact leaveS Tryd.results55 hF hS (.cons (.cellN 2 sz_80 rfl rfl rfl) .nil) .nil ⟨_, _, _, _, rfl, hs, hm_8, hm_9⟩
noncomputable def spare_store_ends_k2 (v15_0 : Int) (z_2 : Int) (z_3 : Int) : Option ((Int × Int × Int) ⊕ (Int × Int)) :=
  nxt (wr (v15_0 + 1), z_2, z_3)
noncomputable def spare_store_ends_y3 (v15_0 : Int) (xy : (Int × Int)) : (Int × Int) → Option (Int × Int)
 | (z_4, z_5) =>
  cond (decide (xy.2 > z_4))
  (some (xy.2, v15_0))
  (some (z_4, z_5))
noncomputable def spare_store_ends_b1 (sv : spare_store) (set : Int) : (Int × Int × Int) → Option ((Int × Int × Int) ⊕ (Int × Int))
 | (v15_0, z, z_1) =>
  cond (decide (v15_0 < (sv.SpareStore.Machines.length : Int)))
  (if ¬ v15_0 < 0 then
  cond ((bitsOp .and (gshr set v15_0) 1) == 0)
  (spare_store_ends_k2 v15_0 z z_1)
  (if ¬ v15_0 < 0 then
  (spare_count (bitsOp .andNot set (gshl 1 v15_0))).bind fun rv =>
  cond (decide (((mget kl_88 sv.far (spare_some.mk (bitsOp .andNot set (gshl 1 v15_0)) rv)).getD 0) < 0))
  (spare_store_ends_k2 v15_0 z z_1)
  (if ¬ v15_0 < 0 then
  (spare_store_follow sv (gshl 1 v15_0) ((mget kl_88 sv.far (spare_some.mk (bitsOp .andNot set (gshl 1 v15_0)) rv)).getD 0) 1).bind fun rv_1 =>
  (spare_store_follow_1 (spare_store_ends_y3 v15_0) rv_1.1 rv_1.2.1 rv_1.2.2.1 rv_1.2.2.2 (z, z_1)).bind fun (so, so_1) =>
  spare_store_ends_k2 v15_0 so so_1
  else none)
  else none)
  else none)
  (ext (some (z, z_1)))
noncomputable def spare_store_ends (sv : spare_store) (set : Int) : Option (Int × Int) :=
  loopU (spare_store_ends_b1 sv set) (0, 0, 0)
theorem spare_store_ends_ok {w0 : World} {D0 : Stab} (hD : D0.on w0) (sv : spare_store) (set : Int) {p : Option Addr} {c : Nat} {bm : Option Nat} {bm_1 : Option Nat} (hs : SRc C_SpareMachine D0 sv.SpareStore.Machines p c) (hm : MapS kl_88 C_int false D0 sv.far bm) (hm_1 : MapS kl_88 C_int false D0 sv.last bm_1) (hG : Glob D0) (out : (Int × Int)) (h : spare_store_ends sv set = some out) : Calls Tryd.prog 61 [.agg #[iv sv.SpareStore.Hours, iv sv.SpareStore.Gap, .slice p sv.SpareStore.Machines.length c, .map bm, .map bm_1], iv set].toArray w0 (RetP D0 w0 (.tuple #[iv out.1, iv out.2])) := by
 refine enter _ 51 Tryd.func61 rfl Tryd.ntmps61 rfl fun a hF => ?_
 replace hF : Frm 51 [] [(0, .agg #[iv sv.SpareStore.Hours, iv sv.SpareStore.Gap, .slice p sv.SpareStore.Machines.length c, .map bm, .map bm_1]), (1, iv set)] a := hF
 have hS := St.start hD
 replace hS := hS.noMarks 1
 unfold spare_store_ends at h
 refine seq (region (O.box (cs := [iv sv.SpareStore.Hours, iv sv.SpareStore.Gap, .slice p sv.SpareStore.Machines.length c, .map bm, .map bm_1]) 2 hF rfl rfl hS rfl fun b a w hF hS => O.alloc 3 zc_3 hF hS rfl fun b_1 a w hF hS => O.alloc 4 zc_3 hF hS rfl fun b_2 a w hF hS => nT (seq (seq (region (step hF (Y.fieldAddr fo_80_0 hF rfl) rfl fun a hF => step hF (Y.fieldAddr fo_24_2 hF rfl) rfl fun a hF => step hF (Y.load1L 2 sz_22 hF rfl hS rfl rfl) rfl fun a hF => step hF (Y.lenSl u_22 hF rfl) rfl fun a hF => step hF (Y.move hF rfl) rfl fun a hF => nT (block (loop_cut (body := spare_store_ends_b1 sv set) (out := out) (fun s a w => ∃ (v15_0 : Int) (z : Int) (z_1 : Int), ∃ (Dv : Stab), ∃ rs, s = (v15_0, z, z_1) ∧ D0.le Dv ∧ Frm 51 rs [(1, iv set), (2, .pointer (some ⟨b, 0, none⟩)), (4, .pointer (some ⟨b_1, 0, none⟩)), (5, .pointer (some ⟨b_2, 0, none⟩)), (14, iv (sv.SpareStore.Machines.length : Int)), (15, iv v15_0)] a ∧ St w0 D0 Dv [(2, .cells b [iv sv.SpareStore.Hours, iv sv.SpareStore.Gap, .slice p sv.SpareStore.Machines.length c, .map bm, .map bm_1] 80), (3, .cells b_1 [iv z] 3), (4, .cells b_2 [iv z_1] 3), (1, .marks rs)] w) (0, 0, 0) h ⟨0, 0, 0, D0, ([]), rfl, Stab.le.refl _, hF.weak (AF rfl), hS.weak (AL rfl)⟩ ?_))))))))
 rintro s a w xo ⟨v15_0, z, z_1, Dv, rs, rfl, hlev, hF, hS⟩ h hxo
 unfold spare_store_ends_b1 at h
 dsimp only at h
 replace hs := hs.mono hlev
 replace hm := hm.mono hlev
 replace hG := hG.mono hlev
 refine seq (region (step hF (Y.lss hF rfl rfl) rfl fun a hF => nT (seq (cond_b hF rfl (fun hbv => ?_) (fun hbv => ?_)))))
 ·replace h := cond_t h hbv
  refine skip_ (then_n (seq_cut (fun a w => ∃ (z_2 : Int) (z_3 : Int), ∃ (Dv_1 : Stab), ∃ rs_1, Dv.le Dv_1 ∧ Frm 51 rs_1 [(1, iv set), (2, .pointer (some ⟨b, 0, none⟩)), (4, .pointer (some ⟨b_1, 0, none⟩)), (5, .pointer (some ⟨b_2, 0, none⟩)), (14, iv (sv.SpareStore.Machines.length : Int)), (15, iv v15_0)] a ∧ St w0 D0 Dv_1 [(2, .cells b [iv sv.SpareStore.Hours, iv sv.SpareStore.Gap, .slice p sv.SpareStore.Machines.length c, .map bm, .map bm_1] 80), (3, .cells b_1 [iv z_2] 3), (4, .cells b_2 [iv z_3] 3), (1, .marks rs_1)] w ∧ spare_store_ends_k2 v15_0 z_2 z_3 = some xo) ?_ ?_))
  ·skip
   refine block (seq (region (step hF (Y.move hF rfl) rfl fun a hF => O.alloc 5 zc_3 hF hS rfl fun b_3 a w hF hS => O.store (us := [iv v15_0]) 5 sz_3 hF rfl rfl rfl rfl hS rfl rfl fun a w hF hS => nT (seq (seq (region (step hF (Y.move hF rfl) rfl fun a hF => step hF (Y.load1L 5 sz_3 hF rfl hS rfl rfl) rfl fun a hF => ?_)))))))
   obtain ⟨hg, h⟩ := ite_some h
   refine step hF (Y.shr hF rfl rfl hg) rfl fun a hF => step hF (Y.and hF rfl rfl) rfl fun a hF => step hF (Y.eql hF rfl rfl) rfl fun a hF => nT (cond_b hF rfl (fun hbv_1 => ?_) (fun hbv_1 => ?_))
   ·replace h := cond_t h hbv_1
    refine exit_ (then_x (blk_hit (then_n (⟨z, z_1, Dv, rs, Stab.le.refl _, hF.weak (AF rfl), hS.weak (AL rfl), h⟩))))
   replace h := cond_f h hbv_1
   refine skip_ (then_n (seq (region (step hF (Y.move hF rfl) rfl fun a hF => step hF (Y.load1L 5 sz_3 hF rfl hS rfl rfl) rfl fun a hF => ?_))))
   obtain ⟨hg_1, h⟩ := ite_some h
   refine step hF (Y.shl hF rfl rfl hg_1) rfl fun a hF => step hF (Y.andNot hF rfl rfl) rfl fun a hF => step hF (Y.assign hF rfl) rfl fun a hF => nT (seq ?_)
   obtain ⟨rv, hx, h⟩ := bind_some h
   refine drawsV 6 (.flt 0 (.flt 1 (.flt 2 (.flt 3 (.alt 4 (.flt 5 .done) .stop))))) mixed_ (by kernel_rfl) (fun w => St w0 D0 Dv [(2, .cells b [iv sv.SpareStore.Hours, iv sv.SpareStore.Gap, .slice p sv.SpareStore.Machines.length c, .map bm, .map bm_1] 80), (3, .cells b_1 [iv z] 3), (4, .cells b_2 [iv z_1] 3), (5, .cells b_3 [iv v15_0] 3), (1, .marks rs)] w) (fun a w => Frm 51 rs [(1, iv set), (2, .pointer (some ⟨b, 0, none⟩)), (4, .pointer (some ⟨b_1, 0, none⟩)), (5, .pointer (some ⟨b_2, 0, none⟩)), (6, .pointer (some ⟨b_3, 0, none⟩)), (14, iv (sv.SpareStore.Machines.length : Int)), (15, iv v15_0), (28, .map bm), (32, .agg #[iv (bitsOp .andNot set (gshl 1 v15_0)), iv rv])] a ∧ St w0 D0 Dv [(2, .cells b [iv sv.SpareStore.Hours, iv sv.SpareStore.Gap, .slice p sv.SpareStore.Machines.length c, .map bm, .map bm_1] 80), (3, .cells b_1 [iv z] 3), (4, .cells b_2 [iv z_1] 3), (5, .cells b_3 [iv v15_0] 3), (1, .marks rs)] w) (hS.weak (ms := [(2, .cells b [iv sv.SpareStore.Hours, iv sv.SpareStore.Gap, .slice p sv.SpareStore.Machines.length c, .map bm, .map bm_1] 80), (3, .cells b_1 [iv z] 3), (4, .cells b_2 [iv z_1] 3), (5, .cells b_3 [iv v15_0] 3), (1, .marks rs)]) (AL rfl)).drew (fun _ _ _ _ h => h) ?_ ?_
   ·replace hS := hS.drew
    have hle0 := hS.le
    refine stepV (i := 0) rfl hF (fun w hS => Y.fieldAddr fo_80_1 hF rfl) rfl fun a hF => stepV (i := 1) rfl hF (fun w hS => Y.load1L 2 sz_78 hF rfl hS rfl rfl) rfl fun a hF => stepV (i := 2) rfl hF (fun w hS => Y.move hF rfl) rfl fun a hF => stepV (i := 3) rfl hF (fun w hS => Y.move hF rfl) rfl fun a hF => oneV (i := 4) rfl ?_ trivial
    refine O.callP (us := [iv (bitsOp .andNot set (gshl 1 v15_0))]) ca_58 hF hS (spare_count_ok hS.stab (bitsOp .andNot set (gshl 1 v15_0)) rv hx) rfl rfl fun a w hF hS => nT ⟨hS.weak (AL rfl), ?_⟩
    refine stepV (i := 5) rfl hF (fun w hS => Y.build (parts := [(0, (.tmp 29)), (1, (.tmp 31))]) (cs := #[iv (bitsOp .andNot set (gshl 1 v15_0)), iv rv]) hF rfl (by kernel_rfl)) rfl fun a hF => toTailV ⟨hF.weak (AF rfl), hS.weak (AL rfl)⟩
   rintro a w ⟨hF, hS⟩
   obtain ⟨cc, hc, hY⟩ := Y.lookupS (kl := kl_88) (C := C_int) (agg := false) (xs := sv.far) (x := (.tmp 28)) (y := (.tmp 32)) (z := [iv 0]) (z0 := (0 : Int)) false  mt_78 (fun _ => rfl) rfl (spare_some.mk (bitsOp .andNot set (gshl 1 v15_0)) rv) hm hF rfl rfl
   obtain rfl := hc
   refine step hF ((show Yields _ _ _ _ (iv ((mget kl_88 sv.far (spare_some.mk (bitsOp .andNot set (gshl 1 v15_0)) rv)).getD 0)) from hY hS.stab)) rfl fun a hF => step hF (Y.assign hF rfl) rfl fun a hF => nT (seq (seq (region (step hF (Y.move hF rfl) rfl fun a hF => step hF (Y.lss hF rfl rfl) rfl fun a hF => nT (cond_b hF rfl (fun hbv_2 => ?_) (fun hbv_2 => ?_))))))
   ·replace h := cond_t h hbv_2
    refine exit_ (then_x (blk_hit (then_n (⟨z, z_1, Dv, rs, Stab.le.refl _, hF.weak (AF rfl), hS.weak (AL rfl), h⟩))))
   replace h := cond_f h hbv_2
   refine skip_ (then_n (seq ?_))
   obtain ⟨hg_2, h⟩ := ite_some h
   refine drawsV 4 (.flt 0 (.flt 1 (.flt 2 (.flt 3 .done)))) mixed_ (by kernel_rfl) (fun w => St w0 D0 Dv [(2, .cells b [iv sv.SpareStore.Hours, iv sv.SpareStore.Gap, .slice p sv.SpareStore.Machines.length c, .map bm, .map bm_1] 80), (3, .cells b_1 [iv z] 3), (4, .cells b_2 [iv z_1] 3), (5, .cells b_3 [iv v15_0] 3), (1, .marks rs)] w) (fun a w => Frm 51 rs [(1, iv set), (2, .pointer (some ⟨b, 0, none⟩)), (4, .pointer (some ⟨b_1, 0, none⟩)), (5, .pointer (some ⟨b_2, 0, none⟩)), (6, .pointer (some ⟨b_3, 0, none⟩)), (14, iv (sv.SpareStore.Machines.length : Int)), (15, iv v15_0), (36, .agg #[iv sv.SpareStore.Hours, iv sv.SpareStore.Gap, .slice p sv.SpareStore.Machines.length c, .map bm, .map bm_1]), (38, iv (gshl 1 v15_0)), (39, iv ((mget kl_88 sv.far (spare_some.mk (bitsOp .andNot set (gshl 1 v15_0)) rv)).getD 0))] a ∧ St w0 D0 Dv [(2, .cells b [iv sv.SpareStore.Hours, iv sv.SpareStore.Gap, .slice p sv.SpareStore.Machines.length c, .map bm, .map bm_1] 80), (3, .cells b_1 [iv z] 3), (4, .cells b_2 [iv z_1] 3), (5, .cells b_3 [iv v15_0] 3), (1, .marks rs)] w) (hS.weak (ms := [(2, .cells b [iv sv.SpareStore.Hours, iv sv.SpareStore.Gap, .slice p sv.SpareStore.Machines.length c, .map bm, .map bm_1] 80), (3, .cells b_1 [iv z] 3), (4, .cells b_2 [iv z_1] 3), (5, .cells b_3 [iv v15_0] 3), (1, .marks rs)]) (AL rfl)).drew (fun _ _ _ _ h => h) ?_ ?_
   ·replace hS := hS.drew
    have hle0 := hS.le
    refine stepV (i := 0) rfl hF (fun w hS => Y.loadNL 2 sz_80 hF rfl hS rfl rfl rfl) rfl fun a hF => stepV (i := 1) rfl hF (fun w hS => Y.load1L 5 sz_3 hF rfl hS rfl rfl) rfl fun a hF => stepV (i := 2) rfl hF (fun w hS => Y.shl hF rfl rfl hg_2) rfl fun a hF => stepV (i := 3) rfl hF (fun w hS => Y.move hF rfl) rfl fun a hF => toTailV ⟨hF.weak (AF rfl), hS.weak (AL rfl)⟩
   rintro a w ⟨hF, hS⟩
   obtain ⟨rv_1, hx_1, h⟩ := bind_some h
   refine O.callS (us := [.agg #[iv sv.SpareStore.Hours, iv sv.SpareStore.Gap, .slice p sv.SpareStore.Machines.length c, .map bm, .map bm_1], iv (gshl 1 v15_0), iv ((mget kl_88 sv.far (spare_some.mk (bitsOp .andNot set (gshl 1 v15_0)) rv)).getD 0), iv 1]) ca_71 hF hS (spare_store_follow_ok hS.stab sv (gshl 1 v15_0) ((mget kl_88 sv.far (spare_some.mk (bitsOp .andNot set (gshl 1 v15_0)) rv)).getD 0) 1 hs rv_1 hx_1) rfl rfl fun v Dv_2 a w hR hlev_2 hF hS => ?_
   replace hG := hG.mono hlev_2
   obtain ⟨bb, bb_1, bb_2, bb_3, p_1, c_1, bm_2, bm_3, rfl, hbv_3, hbv_4, hbv_5, hbv_6, hs_1⟩ := hR
   refine nT (block ?_)
   replace hF := hF.weak (us := [(1, iv set), (2, .pointer (some ⟨b, 0, none⟩)), (4, .pointer (some ⟨b_1, 0, none⟩)), (5, .pointer (some ⟨b_2, 0, none⟩)), (6, .pointer (some ⟨b_3, 0, none⟩)), (14, iv (sv.SpareStore.Machines.length : Int)), (15, iv v15_0), (40, .func (.func 76) #[] #[.pointer (some ⟨bb, 0, none⟩), .pointer (some ⟨bb_1, 0, none⟩), .pointer (some ⟨bb_2, 0, none⟩), .pointer (some ⟨bb_3, 0, none⟩)])]) (AF rfl)
   obtain ⟨⟨so, so_1⟩, hx_2, h⟩ := bind_some h
   dsimp only at h
   have hsz := hF.size
   have hgt := hF.get
   refine range_cut (first := []) (cap := [.pointer (some ⟨bb, 0, none⟩), .pointer (some ⟨bb_1, 0, none⟩), .pointer (some ⟨bb_2, 0, none⟩), .pointer (some ⟨bb_3, 0, none⟩)]) (K := fun m lp R w => ∃ D ms, Dv_2.le D ∧ (fun (s : (Int × Int)) D ms => ∃ (z_4 : Int) (z_5 : Int), s = (z_4, z_5) ∧ ms = [(10, .obj lp R), (2, .cells b [iv sv.SpareStore.Hours, iv sv.SpareStore.Gap, .slice p sv.SpareStore.Machines.length c, .map bm, .map bm_1] 80), (3, .cells b_1 [iv z_4] 3), (4, .cells b_2 [iv z_5] 3), (5, .cells b_3 [iv v15_0] 3), (1, .marks (m :: rs))]) (so, so_1) D ms ∧ St w0 D0 D ms w) 1 10 (by decide) ca_76 hF hS rfl rfl (fun fn m lp R hR w hS => ?_) (fun m lp R w hK => ?_)
   ·refine spare_store_follow_1_it (Inv := fun (s : (Int × Int)) D ms => ∃ (z_4 : Int) (z_5 : Int), s = (z_4, z_5) ∧ ms = [(10, .obj lp R), (2, .cells b [iv sv.SpareStore.Hours, iv sv.SpareStore.Gap, .slice p sv.SpareStore.Machines.length c, .map bm, .map bm_1] 80), (3, .cells b_1 [iv z_4] 3), (4, .cells b_2 [iv z_5] 3), (5, .cells b_3 [iv v15_0] 3), (1, .marks (m :: rs))]) (yield_ := spare_store_ends_y3 v15_0) ?_ ?_ lp rv_1.1 rv_1.2.1 rv_1.2.2.1 rv_1.2.2.2 hs_1 hbv_3 hbv_4 hbv_5 hbv_6 hG (z, z_1) (so, so_1) ?_ hx_2 (ms := [(10, .obj lp R), (2, .cells b [iv sv.SpareStore.Hours, iv sv.SpareStore.Gap, .slice p sv.SpareStore.Machines.length c, .map bm, .map bm_1] 80), (3, .cells b_1 [iv z] 3), (4, .cells b_2 [iv z_1] 3), (5, .cells b_3 [iv v15_0] 3), (1, .marks (m :: rs))]) ⟨z, z_1, rfl, rfl⟩ (hS.weak (AL rfl))
    ·rintro s D ms ⟨_, _, rfl, rfl⟩; exact small_lt rfl
    ·rintro s D ms D2 ⟨_, _, rfl, rfl⟩ hle; exact ⟨_, _, rfl, rfl⟩
    rintro xy s s2 Dv_3 ms w h hlev_3 ⟨z_4, z_5, rfl, rfl⟩ hS
    unfold spare_store_ends_y3 at h
    dsimp only at h
    refine round_cut2 10 hsz hgt rfl rfl hS rfl hR fun R2 a hF => ?_
    replace hbv_3 := hlev_3 _ _ hbv_3
    replace hbv_4 := hlev_3 _ _ hbv_4
    replace hbv_5 := hlev_3 _ _ hbv_5
    replace hbv_6 := hlev_3 _ _ hbv_6
    refine region (step hF (Y.assign hF rfl) rfl fun a hF => nT (⟨_, _, hS, rfl, fun w hS => ?_⟩))
    refine block (seq (region (step hF (Y.move hF rfl) rfl fun a hF => step hF (Y.load1L 3 sz_3 hF rfl hS rfl rfl) rfl fun a hF => step hF (Y.gtr hF rfl rfl) rfl fun a hF => nT (cond_b hF rfl (fun hbv_7 => ?_) (fun hbv_7 => ?_)))))
    ·replace h := cond_t h hbv_7
     refine drawsV 3 (.flt 0 (.flt 1 (.alt 2 .done .stop))) mixed_ (by kernel_rfl) (fun w => St w0 D0 Dv_3 [(2, .cells b [iv sv.SpareStore.Hours, iv sv.SpareStore.Gap, .slice p sv.SpareStore.Machines.length c, .map bm, .map bm_1] 80), (4, .cells b_2 [iv z_5] 3), (5, .cells b_3 [iv v15_0] 3), (10, .obj lp R2), (1, .marks (m :: rs))] w) (fun a w => Frm 51 [] [(4, .pointer (some ⟨b_1, 0, none⟩)), (5, .pointer (some ⟨b_2, 0, none⟩)), (47, iv v15_0)] a ∧ St w0 D0 Dv_3 [(2, .cells b [iv sv.SpareStore.Hours, iv sv.SpareStore.Gap, .slice p sv.SpareStore.Machines.length c, .map bm, .map bm_1] 80), (3, .cells b_1 [iv xy.2] 3), (4, .cells b_2 [iv z_5] 3), (5, .cells b_3 [iv v15_0] 3), (10, .obj lp R2), (1, .marks (m :: rs))] w) (hS.weak (ms := [(2, .cells b [iv sv.SpareStore.Hours, iv sv.SpareStore.Gap, .slice p sv.SpareStore.Machines.length c, .map bm, .map bm_1] 80), (4, .cells b_2 [iv z_5] 3), (5, .cells b_3 [iv v15_0] 3), (10, .obj lp R2), (1, .marks (m :: rs))]) (AL rfl)).drew (fun _ _ _ _ h => h) ?_ ?_
     ·replace hS := hS.drew
      have hle0 := hS.le
      refine stepV (i := 0) rfl hF (fun w hS => Y.move hF rfl) rfl fun a hF => stepV (i := 1) rfl hF (fun w hS => Y.load1L 5 sz_3 hF rfl hS rfl rfl) rfl fun a hF => oneV (i := 2) rfl ?_ trivial
      refine O.store (us := [iv xy.2]) 3 sz_3 hF rfl rfl rfl rfl hS rfl rfl fun a w hF hS => nT ⟨hS.weak (AL rfl), ?_⟩
      exact toTailV ⟨hF.weak (AF rfl), hS.weak (AL rfl)⟩
     rintro a w ⟨hF, hS⟩
     refine O.store (us := [iv v15_0]) 4 sz_3 hF rfl rfl rfl rfl hS rfl rfl fun a w hF hS => nil (blk_n (then_n ?_))
     obtain rfl := some_inj h
     refine ⟨_, _, hS, rfl, fun w hS => ⟨Dv_3, _, Stab.le.refl _, ⟨xy.2, v15_0, rfl, rfl⟩, hS.weak (AL rfl)⟩⟩
    replace h := cond_f h hbv_7
    refine skip_ (blk_n (then_n ?_))
    obtain rfl := some_inj h
    refine ⟨_, _, hS, rfl, fun w hS => ⟨Dv_3, _, Stab.le.refl _, ⟨z_4, z_5, rfl, rfl⟩, hS.weak (AL rfl)⟩⟩
   obtain ⟨Dv_3, ms, hlev_4, ⟨so, so_1, hso, rfl⟩, hS⟩ := hK
   obtain ⟨rfl, rfl⟩ := hso
   refine ⟨Dv_3, _, hS, rfl, fun a w hF hS => ?_⟩
   replace hbv_3 := hlev_4 _ _ hbv_3
   replace hbv_4 := hlev_4 _ _ hbv_4
   replace hbv_5 := hlev_4 _ _ hbv_5
   replace hbv_6 := hlev_4 _ _ hbv_6
   refine blk_n (blk_n (then_n (⟨so, so_1, Dv_3, (m :: rs), hlev_2.trans hlev_4, hF.weak (AF rfl), hS.weak (AL rfl), h⟩)))
  rintro a w ⟨z_2, z_3, Dv_1, rs_1, hlev_1, hF, hS, h⟩
  unfold spare_store_ends_k2 at h
  refine region (step hF (Y.add hF rfl rfl) rfl fun a hF => step hF (Y.move hF rfl) rfl fun a hF => nT (⟨_, nxt_some h, (wr (v15_0 + 1)), z_2, z_3, Dv_1, rs_1, rfl, hlev.trans hlev_1, hF.weak (AF rfl), hS.weak (AL rfl)⟩))
 replace h := cond_f h hbv
 refine exit_ (then_x (then_x (blk_hit (then_n ?_))))
 replace h := ext_some h hxo
 refine seq (drawsV 3 (.flt 0 (.flt 1 (.alt 2 .done .stop))) mixed_ (by kernel_rfl) (fun w => St w0 D0 Dv [(2, .cells b [iv sv.SpareStore.Hours, iv sv.SpareStore.Gap, .slice p sv.SpareStore.Machines.length c, .map bm, .map bm_1] 80), (3, .cells b_1 [iv z] 3), (4, .cells b_2 [iv z_1] 3), (1, .marks rs)] w) (fun a w => Frm 51 rs [(4, .pointer (some ⟨b_1, 0, none⟩)), (5, .pointer (some ⟨b_2, 0, none⟩)), (50, iv z_1)] a ∧ St w0 D0 Dv [(2, .cells b [iv sv.SpareStore.Hours, iv sv.SpareStore.Gap, .slice p sv.SpareStore.Machines.length c, .map bm, .map bm_1] 80), (3, .cells b_1 [iv z] 3), (4, .cells b_2 [iv z_1] 3), (1, .marks rs)] w) (hS.weak (ms := [(2, .cells b [iv sv.SpareStore.Hours, iv sv.SpareStore.Gap, .slice p sv.SpareStore.Machines.length c, .map bm, .map bm_1] 80), (3, .cells b_1 [iv z] 3), (4, .cells b_2 [iv z_1] 3), (1, .marks rs)]) (AL rfl)).drew (fun _ _ _ _ h => h) ?_ ?_)
 ·replace hS := hS.drew
  have hle0 := hS.le
  refine stepV (i := 0) rfl hF (fun w hS => Y.load1L 3 sz_3 hF rfl hS rfl rfl) rfl fun a hF => stepV (i := 1) rfl hF (fun w hS => Y.load1L 4 sz_3 hF rfl hS rfl rfl) rfl fun a hF => oneV (i := 2) rfl ?_ trivial
  refine O.store (us := [iv z]) 3 sz_3 hF rfl rfl rfl rfl hS rfl rfl fun a w hF hS => nT ⟨hS.weak (AL rfl), ?_⟩
  exact toTailV ⟨hF.weak (AF rfl), hS.weak (AL rfl)⟩
 rintro a w ⟨hF, hS⟩
 refine O.store (us := [iv z_1]) 4 sz_3 hF rfl rfl rfl rfl hS rfl rfl fun a w hF hS => nT (ret_ ?_)
 obtain rfl := some_inj h
 exact leaveP Tryd.results61 hF hS (.cons (.cell1 3 sz_3 rfl rfl rfl) (.cons (.cell1 4 sz_3 rfl rfl rfl) .nil)) (.inr ⟨1, rfl⟩) rfl
noncomputable def spare_store_enough_b1 (sv : spare_store) (set : Int) (hours : Int) : (Bool × Int) → Option ((Bool × Int) ⊕ Bool)
 | (v6_0, part) =>
  cond (decide (part > 0))
  ((spare_store_ends sv part).bind fun rv =>
  cond (decide (rv.1 ≥ hours))
  (ext (some true))
  (nxt (v6_0, bitsOp .and (wr (part - 1)) set)))
  (ext (some false))
noncomputable def spare_store_enough (sv : spare_store) (set : Int) (hours : Int) : Option Bool :=
  loopU (spare_store_enough_b1 sv set hours) (false, set)
theorem spare_store_enough_ok {w0 : World} {D0 : Stab} (hD : D0.on w0) (sv : spare_store) (set : Int) (hours : Int) {p : Option Addr} {c : Nat} {bm : Option Nat} {bm_1 : Option Nat} (hs : SRc C_SpareMachine D0 sv.SpareStore.Machines p c) (hm : MapS kl_88 C_int false D0 sv.far bm) (hm_1 : MapS kl_88 C_int false D0 sv.last bm_1) (hG : Glob D0) (out : Bool) (h : spare_store_enough sv set hours = some out) : Calls Tryd.prog 63 [.agg #[iv sv.SpareStore.Hours, iv sv.SpareStore.Gap, .slice p sv.SpareStore.Machines.length c, .map bm, .map bm_1], iv set, iv hours].toArray w0 (RetP D0 w0 (.bool out)) := by
 refine enter _ 26 Tryd.func63 rfl Tryd.ntmps63 rfl fun a hF => ?_
 replace hF : Frm 26 [] [(0, .agg #[iv sv.SpareStore.Hours, iv sv.SpareStore.Gap, .slice p sv.SpareStore.Machines.length c, .map bm, .map bm_1]), (1, iv set), (2, iv hours)] a := hF
 have hS := St.start hD
 unfold spare_store_enough at h
 refine seq (region (O.box (cs := [iv sv.SpareStore.Hours, iv sv.SpareStore.Gap, .slice p sv.SpareStore.Machines.length c, .map bm, .map bm_1]) 1 hF rfl rfl hS rfl fun b a w hF hS => step hF (Y.assign hF rfl) rfl fun a hF => nT (seq (seq (region (step hF (Y.move hF rfl) rfl fun a hF => step hF (Y.assign hF rfl) rfl fun a hF => nT (block (loop_cut (body := spare_store_enough_b1 sv set hours) (out := out) (fun s a w => ∃ (v6_0 : Bool) (part : Int), ∃ (Dv : Stab), s = (v6_0, part) ∧ D0.le Dv ∧ Frm 26 [] [(1, iv set), (2, iv hours), (3, .pointer (some ⟨b, 0, none⟩)), (6, .bool v6_0), (7, iv part)] a ∧ St w0 D0 Dv [(1, .cells b [iv sv.SpareStore.Hours, iv sv.SpareStore.Gap, .slice p sv.SpareStore.Machines.length c, .map bm, .map bm_1] 80)] w) (false, set) h ⟨false, set, D0, rfl, Stab.le.refl _, hF.weak (AF rfl), hS.weak ⟨rfl, trivial⟩⟩ ?_))))))))
 rintro s a w xo ⟨v6_0, part, Dv, rfl, hlev, hF, hS⟩ h hxo
 unfold spare_store_enough_b1 at h
 dsimp only at h
 replace hs := hs.mono hlev
 replace hm := hm.mono hlev
 replace hm_1 := hm_1.mono hlev
 replace hG := hG.mono hlev
 refine seq (seq (region (step hF (Y.move hF rfl) rfl fun a hF => step hF (Y.gtr hF rfl rfl) rfl fun a hF => nT (cond_b hF rfl (fun hbv => ?_) (fun hbv => ?_)))))
 ·replace h := cond_t h hbv
  refine skip_ (then_n (seq (block (seq (region (step hF (Y.loadNL 1 sz_80 hF rfl hS rfl rfl rfl) rfl fun a hF => step hF (Y.move hF rfl) rfl fun a hF => ?_))))))
  obtain ⟨rv, hx, h⟩ := bind_some h
  refine O.callP (us := [.agg #[iv sv.SpareStore.Hours, iv sv.SpareStore.Gap, .slice p sv.SpareStore.Machines.length c, .map bm, .map bm_1], iv part]) ca_61 hF hS (spare_store_ends_ok hS.stab sv part hs hm hm_1 hG rv hx) rfl rfl fun a w hF hS => step hF (Y.move hF rfl) rfl fun a hF => step hF (Y.extract hF rfl rfl) rfl fun a hF => step hF (Y.extract hF rfl rfl) rfl fun a hF => step hF (Y.assign hF rfl) rfl fun a hF => step hF (Y.assign hF rfl) rfl fun a hF => nT (seq (region (step hF (Y.move hF rfl) rfl fun a hF => step hF (Y.move hF rfl) rfl fun a hF => step hF (Y.geq hF rfl rfl) rfl fun a hF => nT (cond_b hF rfl (fun hbv_1 => ?_) (fun hbv_1 => ?_)))))
  ·replace h := cond_t h hbv_1
   refine seq (region (step hF (Y.assign hF rfl) rfl fun a hF => nT (ret_ (blk_r (then_r (then_r (blk_r (then_r ?_))))))))
   replace h := ext_some h hxo
   obtain rfl := some_inj h
   exact leaveP Tryd.results63 hF hS (.cons (.tmp rfl) .nil) .nil rfl
  replace h := cond_f h hbv_1
  refine skip_ (blk_n (then_n (region (step hF (Y.move hF rfl) rfl fun a hF => step hF (Y.sub hF rfl rfl) rfl fun a hF => step hF (Y.move hF rfl) rfl fun a hF => step hF (Y.and hF rfl rfl) rfl fun a hF => step hF (Y.assign hF rfl) rfl fun a hF => nT (⟨_, nxt_some h, v6_0, (bitsOp .and (wr (part - 1)) set), Dv, rfl, hlev, hF.weak (AF rfl), hS.weak ⟨rfl, trivial⟩⟩)))))
 replace h := cond_f h hbv
 refine exit_ (then_x (then_x (blk_hit (then_n ?_))))
 replace h := ext_some h hxo
 refine seq (region (step hF (Y.assign hF rfl) rfl fun a hF => nT (ret_ ?_)))
 obtain rfl := some_inj h
 exact leaveP Tryd.results63 hF hS (.cons (.tmp rfl) .nil) .nil rfl
noncomputable def spare_store_fewest_b1 (sv : spare_store) (among : Int) : (Int × Int) → Option ((Int × Int) ⊕ Int)
 | (best, set) =>
  cond (decide (set > 0))
  ((spare_store_ends sv set).bind fun rv =>
  (cond (decide (rv.1 ≥ sv.SpareStore.Hours)) ((cond (best == 0) (some true) ((spare_count set).bind fun rv_1 =>
  (spare_count best).bind fun rv_2 =>
  some (decide (rv_1 < rv_2)))).bind fun t =>
  some t) (some false)).bind fun t_1 =>
  cond t_1
  (nxt (set, bitsOp .and (wr (set - 1)) among))
  (nxt (best, bitsOp .and (wr (set - 1)) among)))
  (ext (some best))
noncomputable def spare_store_fewest (sv : spare_store) (among : Int) : Option Int :=
  loopU (spare_store_fewest_b1 sv among) (0, among)
theorem spare_store_fewest_ok {w0 : World} {D0 : Stab} (hD : D0.on w0) (sv : spare_store) (among : Int) {p : Option Addr} {c : Nat} {bm : Option Nat} {bm_1 : Option Nat} (hs : SRc C_SpareMachine D0 sv.SpareStore.Machines p c) (hm : MapS kl_88 C_int false D0 sv.far bm) (hm_1 : MapS kl_88 C_int false D0 sv.last bm_1) (hG : Glob D0) (out : Int) (h : spare_store_fewest sv among = some out) : Calls Tryd.prog 56 [.agg #[iv sv.SpareStore.Hours, iv sv.SpareStore.Gap, .slice p sv.SpareStore.Machines.length c, .map bm, .map bm_1], iv among].toArray w0 (RetP D0 w0 (iv out)) := by
 refine enter _ 40 Tryd.func56 rfl Tryd.ntmps56 rfl fun a hF => ?_
 replace hF : Frm 40 [] [(0, .agg #[iv sv.SpareStore.Hours, iv sv.SpareStore.Gap, .slice p sv.SpareStore.Machines.length c, .map bm, .map bm_1]), (1, iv among)] a := hF
 have hS := St.start hD
 unfold spare_store_fewest at h
 refine seq (region (O.box (cs := [iv sv.SpareStore.Hours, iv sv.SpareStore.Gap, .slice p sv.SpareStore.Machines.length c, .map bm, .map bm_1]) 1 hF rfl rfl hS rfl fun b a w hF hS => step hF (Y.assign hF rfl) rfl fun a hF => nT (seq (region (step hF (Y.assign hF rfl) rfl fun a hF => nT (seq (seq (region (step hF (Y.move hF rfl) rfl fun a hF => step hF (Y.assign hF rfl) rfl fun a hF => nT (block (loop_cut (body := spare_store_fewest_b1 sv among) (out := out) (fun s a w => ∃ (best : Int) (set : Int), ∃ (Dv : Stab), s = (best, set) ∧ D0.le Dv ∧ Frm 40 [] [(1, iv among), (2, .pointer (some ⟨b, 0, none⟩)), (4, iv 0), (5, iv best), (6, iv set)] a ∧ St w0 D0 Dv [(1, .cells b [iv sv.SpareStore.Hours, iv sv.SpareStore.Gap, .slice p sv.SpareStore.Machines.length c, .map bm, .map bm_1] 80)] w) (0, among) h ⟨0, among, D0, rfl, Stab.le.refl _, hF.weak (AF rfl), hS.weak ⟨rfl, trivial⟩⟩ ?_)))))))))))
 rintro s a w xo ⟨best, set, Dv, rfl, hlev, hF, hS⟩ h hxo
 unfold spare_store_fewest_b1 at h
 dsimp only at h
 replace hs := hs.mono hlev
 replace hm := hm.mono hlev
 replace hm_1 := hm_1.mono hlev
 replace hG := hG.mono hlev
 refine seq (seq (region (step hF (Y.move hF rfl) rfl fun a hF => step hF (Y.gtr hF rfl rfl) rfl fun a hF => nT (cond_b hF rfl (fun hbv => ?_) (fun hbv => ?_)))))
 ·replace h := cond_t h hbv
  refine skip_ (then_n (seq (block (seq (region (step hF (Y.loadNL 1 sz_80 hF rfl hS rfl rfl rfl) rfl fun a hF => step hF (Y.move hF rfl) rfl fun a hF => ?_))))))
  obtain ⟨rv, hx, h⟩ := bind_some h
  refine O.callP (us := [.agg #[iv sv.SpareStore.Hours, iv sv.SpareStore.Gap, .slice p sv.SpareStore.Machines.length c, .map bm, .map bm_1], iv set]) ca_61 hF hS (spare_store_ends_ok hS.stab sv set hs hm hm_1 hG rv hx) rfl rfl fun a w hF hS => step hF (Y.move hF rfl) rfl fun a hF => step hF (Y.extract hF rfl rfl) rfl fun a hF => step hF (Y.extract hF rfl rfl) rfl fun a hF => step hF (Y.assign hF rfl) rfl fun a hF => step hF (Y.assign hF rfl) rfl fun a hF => nT (seq (region (step hF (Y.move hF rfl) rfl fun a hF => step hF (Y.fieldAddr fo_80_0 hF rfl) rfl fun a hF => step hF (Y.fieldAddr fo_24_0 hF rfl) rfl fun a hF => step hF (Y.load1L 1 sz_3 hF rfl hS rfl rfl) rfl fun a hF => step hF (Y.geq hF rfl rfl) rfl fun a hF => step hF (Y.move hF rfl) rfl fun a hF => ?_)))
  obtain ⟨t_1, ht_1, h⟩ := bind_some h
  refine join (N := 40) (rs := []) (w0 := w0) (D0 := D0) 10 (us := [(1, iv among), (2, .pointer (some ⟨b, 0, none⟩)), (4, iv 0), (5, iv best), (6, iv set), (37, .bool t_1)]) (ms := [(1, .cells b [iv sv.SpareStore.Hours, iv sv.SpareStore.Gap, .slice p sv.SpareStore.Machines.length c, .map bm, .map bm_1] 80)]) (D' := Dv) ?_ ?_
  ·rcases bcases (decide (rv.1 ≥ sv.SpareStore.Hours)) with hbv_1 | hbv_1
   ·skip
    replace h := cond_t ht_1 hbv_1
    refine guard_on hF rfl rfl hbv_1 (step hF (Y.move hF rfl) rfl fun a hF => guard_on hF rfl rfl hbv_1 (step hF (Y.eql hF rfl rfl) rfl fun a hF => guard_on hF rfl rfl hbv_1 (step hF (Y.move hF rfl) rfl fun a hF => ?_)))
    obtain ⟨t, ht, h⟩ := bind_some h
    refine join (N := 40) (rs := []) (w0 := w0) (D0 := D0) 6 (us := [(1, iv among), (2, .pointer (some ⟨b, 0, none⟩)), (4, iv 0), (5, iv best), (6, iv set), (27, .bool (decide (rv.1 ≥ sv.SpareStore.Hours))), (36, .bool t)]) (ms := [(1, .cells b [iv sv.SpareStore.Hours, iv sv.SpareStore.Gap, .slice p sv.SpareStore.Machines.length c, .map bm, .map bm_1] 80)]) (D' := Dv) ?_ ?_
    ·rcases bcases (best == 0) with hbv_2 | hbv_2
     ·skip
      replace h := cond_t ht hbv_2
      refine guard_off hF rfl rfl hbv_2 rfl fun a hF => guard_off hF rfl rfl hbv_2 rfl fun a hF => guard_off hF rfl rfl hbv_2 rfl fun a hF => guard_off hF rfl rfl hbv_2 rfl fun a hF => guard_off hF rfl rfl hbv_2 rfl fun a hF => guard_on hF rfl rfl hbv_1 (step hF (Y.pick_t hF rfl hbv_2 rfl) rfl fun a hF => ?_)
      obtain rfl := some_inj h
      exact nT ⟨hF.weak (AF rfl), hS.weak ⟨rfl, trivial⟩⟩
     replace h := cond_f ht hbv_2
     refine guard_on hF rfl rfl hbv_2 (step hF (Y.move hF rfl) rfl fun a hF => guard_on hF rfl rfl hbv_2 ?_)
     obtain ⟨rv_1, hx_1, h⟩ := bind_some h
     refine O.callP (us := [iv set]) ca_58 hF hS (spare_count_ok hS.stab set rv_1 hx_1) rfl rfl fun a w hF hS => guard_on hF rfl rfl hbv_2 (step hF (Y.move hF rfl) rfl fun a hF => guard_on hF rfl rfl hbv_2 ?_)
     obtain ⟨rv_2, hx_2, h⟩ := bind_some h
     refine O.callP (us := [iv best]) ca_58 hF hS (spare_count_ok hS.stab best rv_2 hx_2) rfl rfl fun a w hF hS => guard_on hF rfl rfl hbv_2 (step hF (Y.lss hF rfl rfl) rfl fun a hF => guard_on hF rfl rfl hbv_1 (step hF (Y.pick_f hF rfl hbv_2 rfl) rfl fun a hF => ?_))
     obtain rfl := some_inj h
     exact nT ⟨hF.weak (AF rfl), hS.weak ⟨rfl, trivial⟩⟩
    intro a w hF hS
    refine step hF (Y.pick_t hF rfl hbv_1 rfl) rfl fun a hF => ?_
    obtain rfl := some_inj h
    exact nT ⟨hF.weak (AF rfl), hS.weak ⟨rfl, trivial⟩⟩
   replace h := cond_f ht_1 hbv_1
   refine guard_off hF rfl rfl hbv_1 rfl fun a hF => guard_off hF rfl rfl hbv_1 rfl fun a hF => guard_off hF rfl rfl hbv_1 rfl fun a hF => guard_offu hF rfl rfl rfl fun a hF => guard_offu hF rfl rfl rfl fun a hF => guard_offu hF rfl rfl rfl fun a hF => guard_offu hF rfl rfl rfl fun a hF => guard_offu hF rfl rfl rfl fun a hF => guard_off hF rfl rfl hbv_1 rfl fun a hF => step hF (Y.pick_f hF rfl hbv_1 rfl) rfl fun a hF => ?_
   obtain rfl := some_inj h
   exact nT ⟨hF.weak (AF rfl), hS.weak ⟨rfl, trivial⟩⟩
  intro a w hF hS
  refine nT (cond_b hF rfl (fun hbv_3 => ?_) (fun hbv_3 => ?_))
  ·replace h := cond_t h hbv_3
   refine region (step hF (Y.move hF rfl) rfl fun a hF => step hF (Y.assign hF rfl) rfl fun a hF => nil (blk_n (then_n (region (step hF (Y.move hF rfl) rfl fun a hF => step hF (Y.sub hF rfl rfl) rfl fun a hF => step hF (Y.move hF rfl) rfl fun a hF => step hF (Y.and hF rfl rfl) rfl fun a hF => step hF (Y.assign hF rfl) rfl fun a hF => nT (⟨_, nxt_some h, set, (bitsOp .and (wr (set - 1)) among), Dv, rfl, hlev, hF.weak (AF rfl), hS.weak ⟨rfl, trivial⟩⟩))))))
  replace h := cond_f h hbv_3
  refine skip_ (blk_n (then_n (region (step hF (Y.move hF rfl) rfl fun a hF => step hF (Y.sub hF rfl rfl) rfl fun a hF => step hF (Y.move hF rfl) rfl fun a hF => step hF (Y.and hF rfl rfl) rfl fun a hF => step hF (Y.assign hF rfl) rfl fun a hF => nT (⟨_, nxt_some h, best, (bitsOp .and (wr (set - 1)) among), Dv, rfl, hlev, hF.weak (AF rfl), hS.weak ⟨rfl, trivial⟩⟩)))))
 replace h := cond_f h hbv
 refine exit_ (then_x (then_x (blk_hit (then_n ?_))))
 replace h := ext_some h hxo
 refine seq (region (step hF (Y.move hF rfl) rfl fun a hF => step hF (Y.assign hF rfl) rfl fun a hF => nT (ret_ ?_)))
 obtain rfl := some_inj h
 exact leaveP Tryd.results56 hF hS (.cons (.tmp rfl) .nil) .nil rfl
noncomputable def spare_Fewest (xv : SpareStore) : Option (Int × Int) :=
  (spare_Check xv).bind fun rv =>
  cond (rv != 0)
  (some (0, rv))
  ((spare_opened xv).bind fun rv_1 =>
  (spare_all xv).bind fun rv_2 =>
  (spare_store_fewest rv_1 rv_2).bind fun rv_3 =>
  cond (rv_3 == 0)
  (some (0, 4))
  ((spare_count rv_3).bind fun rv_4 =>
  some (rv_4, 0)))
theorem spare_Fewest_ok {w0 : World} {D0 : Stab} (hD : D0.on w0) (xv : SpareStore) {p : Option Addr} {c : Nat} (hs : SRc C_SpareMachine D0 xv.Machines p c) (hG : Glob D0) (out : (Int × Int)) (h : spare_Fewest xv = some out) : Calls Tryd.prog 22 [.agg #[iv xv.Hours, iv xv.Gap, .slice p xv.Machines.length c]].toArray w0 (RetP D0 w0 (.tuple #[iv out.1, iv out.2])) := by
 refine enter _ 20 Tryd.func22 rfl Tryd.ntmps22 rfl fun a hF => ?_
 replace hF : Frm 20 [] [(0, .agg #[iv xv.Hours, iv xv.Gap, .slice p xv.Machines.length c])] a := hF
 have hS := St.start hD
 unfold spare_Fewest at h
 refine seq (region (O.box (cs := [iv xv.Hours, iv xv.Gap, .slice p xv.Machines.length c]) 1 hF rfl rfl hS rfl fun b a w hF hS => step hF (Y.assign hF rfl) rfl fun a hF => step hF (Y.assign hF rfl) rfl fun a hF => nT (seq (seq (region (step hF (Y.loadNL 1 sz_24 hF rfl hS rfl rfl rfl) rfl fun a hF => ?_))))))
 obtain ⟨rv, hx, h⟩ := bind_some h
 refine O.callP (us := [.agg #[iv xv.Hours, iv xv.Gap, .slice p xv.Machines.length c]]) ca_17 hF hS (spare_Check_ok hS.stab xv hs rv hx) rfl rfl fun a w hF hS => step hF (Y.assign hF rfl) rfl fun a hF => nT (seq (region (step hF (Y.move hF rfl) rfl fun a hF => step hF (Y.neq hF rfl rfl) rfl fun a hF => nT (cond_b hF rfl (fun hbv => ?_) (fun hbv => ?_)))))
 ·replace h := cond_t h hbv
  refine seq (region (step hF (Y.move hF rfl) rfl fun a hF => step hF (Y.assign hF rfl) rfl fun a hF => step hF (Y.assign hF rfl) rfl fun a hF => nT (ret_ (then_r ?_))))
  obtain rfl := some_inj h
  exact leaveP Tryd.results22 hF hS (.cons (.tmp rfl) (.cons (.tmp rfl) .nil)) .nil rfl
 replace h := cond_f h hbv
 refine skip_ (then_n (seq ?_))
 obtain ⟨rv_1, hx_1, h⟩ := bind_some h
 refine drawsV 3 (.flt 0 (.flt 2 (.alt 1 .done .stop))) mixed_ (by kernel_rfl) (fun w => St w0 D0 D0 [(1, .cells b [iv xv.Hours, iv xv.Gap, .slice p xv.Machines.length c] 24)] w) (fun a w => ∃ (Dv_1 : Stab) (p_1 : Option Addr) (c_1 : Nat) (bm : Option Nat) (bm_1 : Option Nat), D0.le Dv_1 ∧ Frm 20 [] [(2, iv 0), (3, iv 0), (12, .agg #[iv rv_1.SpareStore.Hours, iv rv_1.SpareStore.Gap, .slice p_1 rv_1.SpareStore.Machines.length c_1, .map bm, .map bm_1]), (13, .agg #[iv xv.Hours, iv xv.Gap, .slice p xv.Machines.length c])] a ∧ St w0 D0 Dv_1 [(1, .cells b [iv xv.Hours, iv xv.Gap, .slice p xv.Machines.length c] 24)] w ∧ SRc C_SpareMachine Dv_1 rv_1.SpareStore.Machines p_1 c_1 ∧ MapS kl_88 C_int false Dv_1 rv_1.far bm ∧ MapS kl_88 C_int false Dv_1 rv_1.last bm_1) (hS.weak (ms := [(1, .cells b [iv xv.Hours, iv xv.Gap, .slice p xv.Machines.length c] 24)]) ⟨rfl, trivial⟩).drew (fun _ _ _ _ h => h) ?_ ?_
 ·replace hS := hS.drew
  have hle0 := hS.le
  refine stepV (i := 0) rfl hF (fun w hS => Y.loadNL 1 sz_24 hF rfl hS rfl rfl rfl) rfl fun a hF => stepV (i := 2) rfl hF (fun w hS => Y.loadNL 1 sz_24 hF rfl hS rfl rfl rfl) rfl fun a hF => oneV (i := 1) rfl ?_ trivial
  refine O.callS (us := [.agg #[iv xv.Hours, iv xv.Gap, .slice p xv.Machines.length c]]) ca_55 hF hS (spare_opened_ok hS.stab xv hs hG rv_1 hx_1) rfl rfl fun v_1 Dv_2 a w hR_1 hlev_1 hF hS => ?_
  obtain ⟨p_2, c_2, bm_2, bm_3, rfl, hs_2, hm_2, hm_3⟩ := hR_1
  refine nT ⟨(hS.weak (ms := [(1, .cells b [iv xv.Hours, iv xv.Gap, .slice p xv.Machines.length c] 24)]) ⟨rfl, trivial⟩).weakD hlev_1 hle0, ?_⟩
  exact toTailV ⟨Dv_2, p_2, c_2, bm_2, bm_3, hlev_1, hF.weak (AF rfl), hS.weak ⟨rfl, trivial⟩, hs_2, hm_2, hm_3⟩
 rintro a w ⟨Dv_1, p_1, c_1, bm, bm_1, hle, hF, hS, hj, hj_1, hj_2⟩
 have hlev_2 := hle
 replace hs := hs.mono hlev_2
 replace hG := hG.mono hlev_2
 obtain ⟨rv_2, hx_2, h⟩ := bind_some h
 refine O.callP (us := [.agg #[iv xv.Hours, iv xv.Gap, .slice p xv.Machines.length c]]) ca_57 hF hS (spare_all_ok hS.stab xv hs rv_2 hx_2) rfl rfl fun a w hF hS => ?_
 obtain ⟨rv_3, hx_3, h⟩ := bind_some h
 refine O.callP (us := [.agg #[iv rv_1.SpareStore.Hours, iv rv_1.SpareStore.Gap, .slice p_1 rv_1.SpareStore.Machines.length c_1, .map bm, .map bm_1], iv rv_2]) ca_56 hF hS (spare_store_fewest_ok hS.stab rv_1 rv_2 hj hj_1 hj_2 hG rv_3 hx_3) rfl rfl fun a w hF hS => step hF (Y.assign hF rfl) rfl fun a hF => nT (seq (seq (region (step hF (Y.move hF rfl) rfl fun a hF => step hF (Y.eql hF rfl rfl) rfl fun a hF => nT (cond_b hF rfl (fun hbv_1 => ?_) (fun hbv_1 => ?_))))))
 ·replace h := cond_t h hbv_1
  refine seq (region (step hF (Y.assign hF rfl) rfl fun a hF => step hF (Y.assign hF rfl) rfl fun a hF => nT (ret_ (then_r ?_))))
  obtain rfl := some_inj h
  exact leaveP Tryd.results22 hF hS (.cons (.tmp rfl) (.cons (.tmp rfl) .nil)) .nil rfl
 replace h := cond_f h hbv_1
 refine skip_ (then_n (seq (region (step hF (Y.move hF rfl) rfl fun a hF => ?_))))
 obtain ⟨rv_4, hx_4, h⟩ := bind_some h
 refine O.callP (us := [iv rv_3]) ca_58 hF hS (spare_count_ok hS.stab rv_3 rv_4 hx_4) rfl rfl fun a w hF hS => step hF (Y.assign hF rfl) rfl fun a hF => step hF (Y.assign hF rfl) rfl fun a hF => nT (ret_ ?_)
 obtain rfl := some_inj h
 exact leaveP Tryd.results22 hF hS (.cons (.tmp rfl) (.cons (.tmp rfl) .nil)) .nil rfl
end Go.Proofs.YtidmdgjgpmeecaaDoor.Rt
