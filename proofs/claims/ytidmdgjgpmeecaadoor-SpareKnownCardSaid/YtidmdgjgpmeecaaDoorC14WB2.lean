/- Walks of the functions of this seat: what each Go function comes to, as a Lean function, and the proof. Part WB2. Under no conditions. -/
import Derived.Test.YtidmdgjgpmeecaaDoorC14WB1
set_option linter.unusedVariables false
set_option linter.unusedSimpArgs false
set_option maxRecDepth 100000
set_option maxHeartbeats 4000000
namespace Go.Proofs.YtidmdgjgpmeecaaDoor.Rt
open Go Go.RowKit
noncomputable def spare_Plan_k2 (outv : (List SpareTurn)) : Option ((List SpareTurn) × Int) :=
  some (outv, 0)
noncomputable def spare_Plan_b3 (xv : SpareStore) (order : (List Int)) : ((List SpareTurn) × Int × Int) → Option (((List SpareTurn) × Int × Int) ⊕ ((List SpareTurn) × Int))
 | (outv_1, over, v53_0) =>
  cond (decide (v53_0 < (order.length : Int)))
  ((idx order v53_0).bind fun e =>
  (spare_of xv e).bind fun rv_6 =>
  cond (decide (over ≥ xv.Hours))
  (ext (spare_Plan_k2 outv_1))
  (if outv_1.length + ([(SpareTurn.mk e (wr (over - rv_6.SpareMachine.Warm)) over)]).length ≤ lim then
  cond (decide ((wr (v53_0 + 1)) < (order.length : Int)))
  ((spare_machine_stint rv_6).bind fun rv_7 =>
  nxt ((outv_1 ++ [(SpareTurn.mk e (wr (over - rv_6.SpareMachine.Warm)) over)]), wr (over + rv_7), wr (v53_0 + 1)))
  (nxt ((outv_1 ++ [(SpareTurn.mk e (wr (over - rv_6.SpareMachine.Warm)) over)]), over, wr (v53_0 + 1)))
  else none))
  (ext (spare_Plan_k2 outv_1))
noncomputable def spare_Plan_b1 (xv : SpareStore) (rv_1 : spare_store) : (Int × Int × (List Int)) → Option ((Int × Int × (List Int)) ⊕ ((List SpareTurn) × Int))
 | (set, k, order) =>
  cond (decide (set > 0))
  (if ([k]).length + order.length ≤ lim then
  if ¬ k < 0 then
  (spare_count (bitsOp .andNot set (gshl 1 k))).bind fun rv_5 =>
  nxt (bitsOp .andNot set (gshl 1 k), (mget kl_88 rv_1.last (spare_some.mk (bitsOp .andNot set (gshl 1 k)) rv_5)).getD 0, ([k] ++ order))
  else none
  else none)
  (ext (loopU (spare_Plan_b3 xv order) (([] : List SpareTurn), 0, 0)))
noncomputable def spare_Plan (xv : SpareStore) : Option ((List SpareTurn) × Int) :=
  (spare_Check xv).bind fun rv =>
  cond (rv != 0)
  (some (([] : List SpareTurn), rv))
  ((spare_opened xv).bind fun rv_1 =>
  (spare_all xv).bind fun rv_2 =>
  (spare_store_fewest rv_1 rv_2).bind fun rv_3 =>
  cond (rv_3 == 0)
  (some (([] : List SpareTurn), 4))
  ((spare_store_ends rv_1 rv_3).bind fun rv_4 =>
  loopU (spare_Plan_b1 xv rv_1) (rv_3, rv_4.2, ([] : List Int))))
theorem spare_Plan_ok {w0 : World} {D0 : Stab} (hD : D0.on w0) (xv : SpareStore) {p : Option Addr} {c : Nat} (hs : SRc C_SpareMachine D0 xv.Machines p c) (hG : Glob D0) (out : ((List SpareTurn) × Int)) (h : spare_Plan xv = some out) : Calls Tryd.prog 24 [.agg #[iv xv.Hours, iv xv.Gap, .slice p xv.Machines.length c]].toArray w0 (RetS D0 w0 fun D v => ∃ p_9 c_9, v = .tuple #[.slice p_9 out.1.length c_9, iv out.2] ∧ SRc C_SpareTurn D out.1 p_9 c_9) := by
 refine enter _ 92 Tryd.func24 rfl Tryd.ntmps24 rfl fun a hF => ?_
 replace hF : Frm 92 [] [(0, .agg #[iv xv.Hours, iv xv.Gap, .slice p xv.Machines.length c])] a := hF
 have hS := St.start hD
 unfold spare_Plan at h
 refine seq (region (O.box (cs := [iv xv.Hours, iv xv.Gap, .slice p xv.Machines.length c]) 1 hF rfl rfl hS rfl fun b a w hF hS => step hF (Y.assign hF rfl) rfl fun a hF => step hF (Y.assign hF rfl) rfl fun a hF => nT (seq (seq (region (step hF (Y.loadNL 1 sz_24 hF rfl hS rfl rfl rfl) rfl fun a hF => ?_))))))
 obtain ⟨rv, hx, h⟩ := bind_some h
 refine O.callP (us := [.agg #[iv xv.Hours, iv xv.Gap, .slice p xv.Machines.length c]]) ca_17 hF hS (spare_Check_ok hS.stab xv hs rv hx) rfl rfl fun a w hF hS => step hF (Y.assign hF rfl) rfl fun a hF => nT (seq (region (step hF (Y.move hF rfl) rfl fun a hF => step hF (Y.neq hF rfl rfl) rfl fun a hF => nT (cond_b hF rfl (fun hbv => ?_) (fun hbv => ?_)))))
 ·replace h := cond_t h hbv
  refine seq (region (step hF (Y.move hF rfl) rfl fun a hF => step hF (Y.assign hF rfl) rfl fun a hF => step hF (Y.assign hF rfl) rfl fun a hF => nT (ret_ (then_r ?_))))
  obtain rfl := some_inj h
  exact leaveS Tryd.results24 hF hS (.cons (.tmp rfl) (.cons (.tmp rfl) .nil)) .nil ⟨_, _, rfl, SRc.nil⟩
 replace h := cond_f h hbv
 refine skip_ (then_n (seq (region (step hF (Y.loadNL 1 sz_24 hF rfl hS rfl rfl rfl) rfl fun a hF => ?_))))
 obtain ⟨rv_1, hx_1, h⟩ := bind_some h
 refine O.callS (us := [.agg #[iv xv.Hours, iv xv.Gap, .slice p xv.Machines.length c]]) ca_55 hF hS (spare_opened_ok hS.stab xv hs hG rv_1 hx_1) rfl rfl fun v Dv a w hR hlev hF hS => ?_
 replace hs := hs.mono hlev
 replace hG := hG.mono hlev
 obtain ⟨p_1, c_1, bm, bm_1, rfl, hs_1, hm, hm_1⟩ := hR
 refine O.alloc 2 zc_80 hF hS rfl fun b_1 a w hF hS => O.store (us := [iv rv_1.SpareStore.Hours, iv rv_1.SpareStore.Gap, .slice p_1 rv_1.SpareStore.Machines.length c_1, .map bm, .map bm_1]) 2 sz_80 hF rfl rfl rfl rfl hS rfl rfl fun a w hF hS => nT (seq ?_)
 obtain ⟨rv_2, hx_2, h⟩ := bind_some h
 refine drawsV 3 (.flt 0 (.flt 1 (.alt 2 .done .stop))) mixed_ (by kernel_rfl) (fun w => St w0 D0 Dv [(1, .cells b [iv xv.Hours, iv xv.Gap, .slice p xv.Machines.length c] 24), (2, .cells b_1 [iv rv_1.SpareStore.Hours, iv rv_1.SpareStore.Gap, .slice p_1 rv_1.SpareStore.Machines.length c_1, .map bm, .map bm_1] 80)] w) (fun a w => Frm 92 [] [(1, .pointer (some ⟨b, 0, none⟩)), (2, .slice none 0 0), (3, iv 0), (5, .pointer (some ⟨b_1, 0, none⟩)), (22, .agg #[iv rv_1.SpareStore.Hours, iv rv_1.SpareStore.Gap, .slice p_1 rv_1.SpareStore.Machines.length c_1, .map bm, .map bm_1]), (24, iv rv_2)] a ∧ St w0 D0 Dv [(1, .cells b [iv xv.Hours, iv xv.Gap, .slice p xv.Machines.length c] 24), (2, .cells b_1 [iv rv_1.SpareStore.Hours, iv rv_1.SpareStore.Gap, .slice p_1 rv_1.SpareStore.Machines.length c_1, .map bm, .map bm_1] 80)] w) (hS.weak (ms := [(1, .cells b [iv xv.Hours, iv xv.Gap, .slice p xv.Machines.length c] 24), (2, .cells b_1 [iv rv_1.SpareStore.Hours, iv rv_1.SpareStore.Gap, .slice p_1 rv_1.SpareStore.Machines.length c_1, .map bm, .map bm_1] 80)]) ⟨rfl, rfl, trivial⟩).drew (fun _ _ _ _ h => h) ?_ ?_
 ·replace hS := hS.drew
  have hle0 := hS.le
  refine stepV (i := 0) rfl hF (fun w hS => Y.loadNL 2 sz_80 hF rfl hS rfl rfl rfl) rfl fun a hF => stepV (i := 1) rfl hF (fun w hS => Y.loadNL 1 sz_24 hF rfl hS rfl rfl rfl) rfl fun a hF => oneV (i := 2) rfl ?_ trivial
  refine O.callP (us := [.agg #[iv xv.Hours, iv xv.Gap, .slice p xv.Machines.length c]]) ca_57 hF hS (spare_all_ok hS.stab xv hs rv_2 hx_2) rfl rfl fun a w hF hS => nT ⟨hS.weak ⟨rfl, rfl, trivial⟩, ?_⟩
  exact toTailV ⟨hF.weak (AF rfl), hS.weak ⟨rfl, rfl, trivial⟩⟩
 rintro a w ⟨hF, hS⟩
 obtain ⟨rv_3, hx_3, h⟩ := bind_some h
 refine O.callP (us := [.agg #[iv rv_1.SpareStore.Hours, iv rv_1.SpareStore.Gap, .slice p_1 rv_1.SpareStore.Machines.length c_1, .map bm, .map bm_1], iv rv_2]) ca_56 hF hS (spare_store_fewest_ok hS.stab rv_1 rv_2 hs_1 hm hm_1 hG rv_3 hx_3) rfl rfl fun a w hF hS => step hF (Y.assign hF rfl) rfl fun a hF => nT (seq (seq (region (step hF (Y.move hF rfl) rfl fun a hF => step hF (Y.eql hF rfl rfl) rfl fun a hF => nT (cond_b hF rfl (fun hbv_1 => ?_) (fun hbv_1 => ?_))))))
 ·replace h := cond_t h hbv_1
  refine seq (region (step hF (Y.assign hF rfl) rfl fun a hF => step hF (Y.assign hF rfl) rfl fun a hF => nT (ret_ (then_r ?_))))
  obtain rfl := some_inj h
  exact leaveS Tryd.results24 hF hS (.cons (.tmp rfl) (.cons (.tmp rfl) .nil)) .nil ⟨_, _, rfl, SRc.nil⟩
 replace h := cond_f h hbv_1
 refine skip_ (then_n (seq (region (step hF (Y.loadNL 2 sz_80 hF rfl hS rfl rfl rfl) rfl fun a hF => step hF (Y.move hF rfl) rfl fun a hF => ?_))))
 obtain ⟨rv_4, hx_4, h⟩ := bind_some h
 refine O.callP (us := [.agg #[iv rv_1.SpareStore.Hours, iv rv_1.SpareStore.Gap, .slice p_1 rv_1.SpareStore.Machines.length c_1, .map bm, .map bm_1], iv rv_3]) ca_61 hF hS (spare_store_ends_ok hS.stab rv_1 rv_3 hs_1 hm hm_1 hG rv_4 hx_4) rfl rfl fun a w hF hS => step hF (Y.move hF rfl) rfl fun a hF => step hF (Y.extract hF rfl rfl) rfl fun a hF => step hF (Y.extract hF rfl rfl) rfl fun a hF => step hF (Y.assign hF rfl) rfl fun a hF => step hF (Y.assign hF rfl) rfl fun a hF => nT (seq (region (step hF (Y.assign hF rfl) rfl fun a hF => nT (seq (block (loop_cut (body := spare_Plan_b1 xv rv_1) (out := out) (fun s a w => ∃ (set : Int) (k : Int) (order : (List Int)), ∃ (Dv_1 : Stab), ∃ p_2 c_2, s = (set, k, order) ∧ Dv.le Dv_1 ∧ Frm 92 [] [(1, .pointer (some ⟨b, 0, none⟩)), (2, .slice none 0 0), (3, iv 0), (5, .pointer (some ⟨b_1, 0, none⟩)), (6, iv set), (8, iv k), (9, .slice p_2 order.length c_2)] a ∧ St w0 D0 Dv_1 [(1, .cells b [iv xv.Hours, iv xv.Gap, .slice p xv.Machines.length c] 24), (2, .cells b_1 [iv rv_1.SpareStore.Hours, iv rv_1.SpareStore.Gap, .slice p_1 rv_1.SpareStore.Machines.length c_1, .map bm, .map bm_1] 80)] w ∧ SRc C_int Dv_1 order p_2 c_2) (rv_3, rv_4.2, ([] : List Int)) h ⟨rv_3, rv_4.2, ([] : List Int), Dv, none, 0, rfl, Stab.le.refl _, hF.weak (AF rfl), hS.weak ⟨rfl, rfl, trivial⟩, SRc.nil⟩ ?_))))))
 rintro s a w xo ⟨set, k, order, Dv_1, p_2, c_2, rfl, hlev_1, hF, hS, hs_2⟩ h hxo
 unfold spare_Plan_b1 at h
 dsimp only at h
 replace hs := hs.mono hlev_1
 replace hm_1 := hm_1.mono hlev_1
 refine seq (seq (region (step hF (Y.move hF rfl) rfl fun a hF => step hF (Y.gtr hF rfl rfl) rfl fun a hF => nT (cond_b hF rfl (fun hbv_2 => ?_) (fun hbv_2 => ?_)))))
 ·replace h := cond_t h hbv_2
  refine skip_ (then_n (block (seq (region (step hF (Y.move hF rfl) rfl fun a hF => ?_)))))
  have hr : Reps C_int Dv_1 [k] [iv k] := Reps.cons (C := C_int) (x := k) (c := [iv k]) (r := []) rfl (Reps.nil)
  refine O.buildSlice (E := 3) (C := C_int) (xs := [k]) (cs := [iv k]) (us := [iv k]) (parts := [(0, (.tmp 36))]) 3 hF hS rfl (by kernel_rfl) hr rfl rfl rfl fun p_3 c_3 a w hF hS => step hF (Y.move hF rfl) rfl fun a hF => ?_
  obtain ⟨hg, h⟩ := ite_some h
  obtain ⟨ds, hds, hsrc⟩ := src_stab (C := C_int) (xs := order) (hs_2).1 hS.stab
  refine O.append (C := C_int) (xs := [k]) (ys := order) 3 gr_39 hF rfl rfl hS rfl hsrc hr hds hg rfl fun p_4 c_4 a w hF hS hr_1 => step hF (Y.assign hF rfl) rfl fun a hF => nT (seq (region (step hF (Y.move hF rfl) rfl fun a hF => step hF (Y.move hF rfl) rfl fun a hF => ?_)))
  obtain ⟨hg_1, h⟩ := ite_some h
  refine step hF (Y.shl hF rfl rfl hg_1) rfl fun a hF => step hF (Y.andNot hF rfl rfl) rfl fun a hF => step hF (Y.assign hF rfl) rfl fun a hF => nT ?_
  obtain ⟨rv_5, hx_5, h⟩ := bind_some h
  refine drawsV 6 (.flt 0 (.flt 1 (.flt 2 (.flt 3 (.alt 4 (.flt 5 .done) .stop))))) mixed_ (by kernel_rfl) (fun w => St w0 D0 Dv_1 [(1, .cells b [iv xv.Hours, iv xv.Gap, .slice p xv.Machines.length c] 24), (2, .cells b_1 [iv rv_1.SpareStore.Hours, iv rv_1.SpareStore.Gap, .slice p_1 rv_1.SpareStore.Machines.length c_1, .map bm, .map bm_1] 80), (3, .own p_4 ([k] ++ order).length c_4 ([iv k] ++ ds) 3 1)] w) (fun a w => Frm 92 [] [(1, .pointer (some ⟨b, 0, none⟩)), (2, .slice none 0 0), (3, iv 0), (5, .pointer (some ⟨b_1, 0, none⟩)), (6, iv (bitsOp .andNot set (gshl 1 k))), (8, iv k), (9, .slice p_4 ([k] ++ order).length c_4), (45, .map bm_1), (49, .agg #[iv (bitsOp .andNot set (gshl 1 k)), iv rv_5])] a ∧ St w0 D0 Dv_1 [(1, .cells b [iv xv.Hours, iv xv.Gap, .slice p xv.Machines.length c] 24), (2, .cells b_1 [iv rv_1.SpareStore.Hours, iv rv_1.SpareStore.Gap, .slice p_1 rv_1.SpareStore.Machines.length c_1, .map bm, .map bm_1] 80), (3, .own p_4 ([k] ++ order).length c_4 ([iv k] ++ ds) 3 1)] w) (hS.weak (ms := [(1, .cells b [iv xv.Hours, iv xv.Gap, .slice p xv.Machines.length c] 24), (2, .cells b_1 [iv rv_1.SpareStore.Hours, iv rv_1.SpareStore.Gap, .slice p_1 rv_1.SpareStore.Machines.length c_1, .map bm, .map bm_1] 80), (3, .own p_4 ([k] ++ order).length c_4 ([iv k] ++ ds) 3 1)]) (AL rfl)).drew (fun _ _ _ _ h => h) ?_ ?_
  ·replace hS := hS.drew
   have hle0 := hS.le
   refine stepV (i := 0) rfl hF (fun w hS => Y.fieldAddr fo_80_2 hF rfl) rfl fun a hF => stepV (i := 1) rfl hF (fun w hS => Y.load1L 2 sz_78 hF rfl hS rfl rfl) rfl fun a hF => stepV (i := 2) rfl hF (fun w hS => Y.move hF rfl) rfl fun a hF => stepV (i := 3) rfl hF (fun w hS => Y.move hF rfl) rfl fun a hF => oneV (i := 4) rfl ?_ trivial
   refine O.callP (us := [iv (bitsOp .andNot set (gshl 1 k))]) ca_58 hF hS (spare_count_ok hS.stab (bitsOp .andNot set (gshl 1 k)) rv_5 hx_5) rfl rfl fun a w hF hS => nT ⟨hS.weak (AL rfl), ?_⟩
   refine stepV (i := 5) rfl hF (fun w hS => Y.build (parts := [(0, (.tmp 46)), (1, (.tmp 48))]) (cs := #[iv (bitsOp .andNot set (gshl 1 k)), iv rv_5]) hF rfl (by kernel_rfl)) rfl fun a hF => toTailV ⟨hF.weak (AF rfl), hS.weak (AL rfl)⟩
  rintro a w ⟨hF, hS⟩
  obtain ⟨cc, hc, hY⟩ := Y.lookupS (kl := kl_88) (C := C_int) (agg := false) (xs := rv_1.last) (x := (.tmp 45)) (y := (.tmp 49)) (z := [iv 0]) (z0 := (0 : Int)) false  mt_78 (fun _ => rfl) rfl (spare_some.mk (bitsOp .andNot set (gshl 1 k)) rv_5) hm_1 hF rfl rfl
  obtain rfl := hc
  refine step hF ((show Yields _ _ _ _ (iv ((mget kl_88 rv_1.last (spare_some.mk (bitsOp .andNot set (gshl 1 k)) rv_5)).getD 0)) from hY hS.stab)) rfl fun a hF => step hF (Y.assign hF rfl) rfl fun a hF => nil (blk_n (then_n ?_))
  obtain ⟨Dv_2, hlev_2, hs_3, hS⟩ := hS.freezeC (C := C_int) (i := 3) (xs := ([k] ++ order)) rfl hr_1
  exact ⟨_, nxt_some h, (bitsOp .andNot set (gshl 1 k)), ((mget kl_88 rv_1.last (spare_some.mk (bitsOp .andNot set (gshl 1 k)) rv_5)).getD 0), ([k] ++ order), Dv_2, p_4, c_4, rfl, hlev_1.trans hlev_2, hF.weak (AF rfl), hS.weak ⟨rfl, rfl, trivial⟩, hs_3⟩
 replace h := cond_f h hbv_2
 refine exit_ (then_x (then_x (blk_hit (then_n ?_))))
 replace h := ext_some h hxo
 refine seq (region (step hF (Y.assign hF rfl) rfl fun a hF => ?_))
 replace hS := hS.ownNil 4 46 3
 refine nT (seq (region (step hF (Y.assign hF rfl) rfl fun a hF => nT (seq_cut (fun a w => ∃ (outv : (List SpareTurn)), ∃ (Dv_3 : Stab), ∃ p_5 c_5 cs, Dv_1.le Dv_3 ∧ Frm 92 [] [(2, .slice none 0 0), (3, iv 0), (10, .slice p_5 outv.length c_5)] a ∧ St w0 D0 Dv_3 [(1, .cells b [iv xv.Hours, iv xv.Gap, .slice p xv.Machines.length c] 24), (2, .cells b_1 [iv rv_1.SpareStore.Hours, iv rv_1.SpareStore.Gap, .slice p_1 rv_1.SpareStore.Machines.length c_1, .map bm, .map bm_1] 80), (4, .own p_5 outv.length c_5 cs 46 3)] w ∧ Reps C_SpareTurn Dv_3 outv cs ∧ spare_Plan_k2 outv = some out) ?_ ?_))))
 ·skip
  refine seq (region (step hF (Y.move hF rfl) rfl fun a hF => step hF (Y.lenSl u_39 hF rfl) rfl fun a hF => step hF (Y.move hF rfl) rfl fun a hF => nT (block (loop_cut (body := spare_Plan_b3 xv order) (out := out) (fun s a w => ∃ (outv_1 : (List SpareTurn)) (over : Int) (v53_0 : Int), ∃ (Dv_5 : Stab), ∃ p_6 c_6 cs_1, s = (outv_1, over, v53_0) ∧ Dv_1.le Dv_5 ∧ Frm 92 [] [(1, .pointer (some ⟨b, 0, none⟩)), (2, .slice none 0 0), (3, iv 0), (9, .slice p_2 order.length c_2), (10, .slice p_6 outv_1.length c_6), (11, iv over), (51, .slice p_2 order.length c_2), (52, iv (order.length : Int)), (53, iv v53_0)] a ∧ St w0 D0 Dv_5 [(1, .cells b [iv xv.Hours, iv xv.Gap, .slice p xv.Machines.length c] 24), (2, .cells b_1 [iv rv_1.SpareStore.Hours, iv rv_1.SpareStore.Gap, .slice p_1 rv_1.SpareStore.Machines.length c_1, .map bm, .map bm_1] 80), (4, .own p_6 outv_1.length c_6 cs_1 46 3)] w ∧ Reps C_SpareTurn Dv_5 outv_1 cs_1) (([] : List SpareTurn), 0, 0) h ⟨([] : List SpareTurn), 0, 0, Dv_1, none, 0, ([]), rfl, Stab.le.refl _, hF.weak (AF rfl), hS.weak (AL rfl), Reps.nil⟩ ?_))))
  rintro s a w xo_1 ⟨outv_1, over, v53_0, Dv_5, p_6, c_6, cs_1, rfl, hlev_5, hF, hS, hr_3⟩ h hxo_1
  unfold spare_Plan_b3 at h
  dsimp only at h
  replace hs := hs.mono hlev_5
  replace hs_2 := hs_2.mono hlev_5
  refine seq (region (step hF (Y.lss hF rfl rfl) rfl fun a hF => nT (seq (cond_b hF rfl (fun hbv_3 => ?_) (fun hbv_3 => ?_)))))
  ·replace h := cond_t h hbv_3
   refine skip_ (then_n (seq (block (seq (region (step hF (Y.move hF rfl) rfl fun a hF => ?_))))))
   obtain ⟨e, hx_6, h⟩ := bind_some h
   obtain ⟨b_2, o, hE, hY_1⟩ := Y.indexS (P := Tryd.prog) (C := C_int) (xs := order) (T := 39) (x := (.tmp 51)) (y := (.tmp 53)) u_39 sz_3 hF rfl rfl (hs_2).1 hx_6
   obtain ⟨cc_1, hc_1, hcell⟩ := hE.open
   obtain rfl := hc_1
   refine step hF (hY_1) rfl fun a hF => step hF (Y.load1 sz_3 hF rfl (hcell _ hS.stab 0 _ rfl)) rfl fun a hF => step hF (Y.assign hF rfl) rfl fun a hF => step hF (Y.assign hF rfl) rfl fun a hF => nT (seq (region (step hF (Y.loadNL 1 sz_24 hF rfl hS rfl rfl rfl) rfl fun a hF => step hF (Y.move hF rfl) rfl fun a hF => ?_)))
   obtain ⟨rv_6, hx_7, h⟩ := bind_some h
   refine O.callP (us := [.agg #[iv xv.Hours, iv xv.Gap, .slice p xv.Machines.length c], iv e]) ca_49 hF hS (spare_of_ok hS.stab xv e hs rv_6 hx_7) rfl rfl fun a w hF hS => O.alloc 5 zc_70 hF hS rfl fun b_3 a w hF hS => O.store (us := [iv rv_6.SpareMachine.From, iv rv_6.SpareMachine.Warm, iv rv_6.SpareMachine.Life.Low, iv rv_6.SpareMachine.Life.High, iv rv_6.SpareMachine.Drift, iv rv_6.gap]) 5 sz_70 hF rfl rfl rfl rfl hS rfl rfl fun a w hF hS => nT (seq (seq (region (step hF (Y.move hF rfl) rfl fun a hF => step hF (Y.fieldAddr fo_24_0 hF rfl) rfl fun a hF => step hF (Y.load1L 1 sz_3 hF rfl hS rfl rfl) rfl fun a hF => step hF (Y.geq hF rfl rfl) rfl fun a hF => nT (cond_b hF rfl (fun hbv_4 => ?_) (fun hbv_4 => ?_))))))
   ·replace h := cond_t h hbv_4
    refine exit_ (then_x (blk_miss rfl (then_x (then_x (blk_hit (then_n ?_))))))
    replace h := ext_some h hxo_1
    exact ⟨outv_1, Dv_5, p_6, c_6, cs_1, hlev_5, hF.weak (AF rfl), hS.weak (AL rfl), hr_3, h⟩
   replace h := cond_f h hbv_4
   refine skip_ (then_n (seq (region (step hF (Y.move hF rfl) rfl fun a hF => step hF (Y.move hF rfl) rfl fun a hF => step hF (Y.move hF rfl) rfl fun a hF => step hF (Y.fieldAddr fo_70_0 hF rfl) rfl fun a hF => step hF (Y.fieldAddr fo_52_1 hF rfl) rfl fun a hF => step hF (Y.load1L 5 sz_3 hF rfl hS rfl rfl) rfl fun a hF => step hF (Y.sub hF rfl rfl) rfl fun a hF => step hF (Y.move hF rfl) rfl fun a hF => step hF (Y.build (parts := [(0, (.tmp 66)), (1, (.tmp 71)), (2, (.tmp 72))]) (cs := #[iv e, iv (wr (over - rv_6.SpareMachine.Warm)), iv over]) hF rfl (by kernel_rfl)) rfl fun a hF => ?_))))
   have hr_4 : Reps C_SpareTurn Dv_5 [(SpareTurn.mk e (wr (over - rv_6.SpareMachine.Warm)) over)] [iv e, iv (wr (over - rv_6.SpareMachine.Warm)), iv over] := Reps.cons (C := C_SpareTurn) (x := (SpareTurn.mk e (wr (over - rv_6.SpareMachine.Warm)) over)) (c := [iv e, iv (wr (over - rv_6.SpareMachine.Warm)), iv over]) (r := []) rfl (Reps.nil)
   refine O.buildSlice (E := 46) (C := C_SpareTurn) (xs := [(SpareTurn.mk e (wr (over - rv_6.SpareMachine.Warm)) over)]) (cs := [iv e, iv (wr (over - rv_6.SpareMachine.Warm)), iv over]) (us := [.agg #[iv e, iv (wr (over - rv_6.SpareMachine.Warm)), iv over]]) (parts := [(0, (.tmp 73))]) 6 hF hS rfl (by kernel_rfl) hr_4 rfl rfl rfl fun p_7 c_7 a w hF hS => ?_
   obtain ⟨hg_2, h⟩ := ite_some h
   refine O.append (C := C_SpareTurn) (xs := outv_1) (ys := [(SpareTurn.mk e (wr (over - rv_6.SpareMachine.Warm)) over)]) 4 gr_25 hF rfl rfl hS rfl (src_own (i := 6) hS rfl) hr_3 hr_4 hg_2 rfl fun p_8 c_8 a w hF hS hr_5 => step hF (Y.assign hF rfl) rfl fun a hF => nT (seq (region (step hF (Y.move hF rfl) rfl fun a hF => step hF (Y.add hF rfl rfl) rfl fun a hF => step hF (Y.move hF rfl) rfl fun a hF => step hF (Y.lenSl u_39 hF rfl) rfl fun a hF => step hF (Y.lss hF rfl rfl) rfl fun a hF => nT (cond_b hF rfl (fun hbv_5 => ?_) (fun hbv_5 => ?_)))))
   ·replace h := cond_t h hbv_5
    refine region (step hF (Y.move hF rfl) rfl fun a hF => step hF (Y.loadNL 5 sz_70 hF rfl hS rfl rfl rfl) rfl fun a hF => ?_)
    obtain ⟨rv_7, hx_8, h⟩ := bind_some h
    refine O.callP (us := [.agg #[iv rv_6.SpareMachine.From, iv rv_6.SpareMachine.Warm, iv rv_6.SpareMachine.Life.Low, iv rv_6.SpareMachine.Life.High, iv rv_6.SpareMachine.Drift, iv rv_6.gap]]) ca_62 hF hS (spare_machine_stint_ok hS.stab rv_6 rv_7 hx_8) rfl rfl fun a w hF hS => step hF (Y.add hF rfl rfl) rfl fun a hF => step hF (Y.assign hF rfl) rfl fun a hF => nil (blk_n (then_n (region (step hF (Y.add hF rfl rfl) rfl fun a hF => step hF (Y.move hF rfl) rfl fun a hF => nT (⟨_, nxt_some h, (outv_1 ++ [(SpareTurn.mk e (wr (over - rv_6.SpareMachine.Warm)) over)]), (wr (over + rv_7)), (wr (v53_0 + 1)), Dv_5, p_8, c_8, (cs_1 ++ [iv e, iv (wr (over - rv_6.SpareMachine.Warm)), iv over]), rfl, hlev_5, hF.weak (AF rfl), hS.weak (AL rfl), hr_5⟩)))))
   replace h := cond_f h hbv_5
   refine skip_ (blk_n (then_n (region (step hF (Y.add hF rfl rfl) rfl fun a hF => step hF (Y.move hF rfl) rfl fun a hF => nT (⟨_, nxt_some h, (outv_1 ++ [(SpareTurn.mk e (wr (over - rv_6.SpareMachine.Warm)) over)]), over, (wr (v53_0 + 1)), Dv_5, p_8, c_8, (cs_1 ++ [iv e, iv (wr (over - rv_6.SpareMachine.Warm)), iv over]), rfl, hlev_5, hF.weak (AF rfl), hS.weak (AL rfl), hr_5⟩)))))
  replace h := cond_f h hbv_3
  refine exit_ (then_x (then_x (blk_hit (then_n ?_))))
  replace h := ext_some h hxo_1
  exact ⟨outv_1, Dv_5, p_6, c_6, cs_1, hlev_5, hF.weak (AF rfl), hS.weak (AL rfl), hr_3, h⟩
 rintro a w ⟨outv, Dv_3, p_5, c_5, cs, hlev_3, hF, hS, hr_2, h⟩
 unfold spare_Plan_k2 at h
 refine seq (region (step hF (Y.move hF rfl) rfl fun a hF => step hF (Y.move hF rfl) rfl fun a hF => step hF (Y.lenSl u_25 hF rfl) rfl fun a hF => step hF (Y.move hF rfl) rfl fun a hF => step hF (Y.lenSl u_25 hF rfl) rfl fun a hF => step hF (Y.slice3 u_25 sz_46 hF rfl rfl rfl (own_cap (i := 4) hS rfl)) rfl fun a hF => step hF (Y.assign hF rfl) rfl fun a hF => step hF (Y.assign hF rfl) rfl fun a hF => nT (ret_ ?_)))
 obtain ⟨Dv_4, hlev_4, hs_4, hS⟩ := hS.freezeC (C := C_SpareTurn) (i := 4) (xs := outv) rfl hr_2
 obtain rfl := some_inj h
 exact leaveS Tryd.results24 hF hS (.cons (.tmp rfl) (.cons (.tmp rfl) .nil)) .nil ⟨_, _, rfl, (⟨hs_4.1, Nat.le_refl _⟩ : SRc _ _ _ _ _)⟩
noncomputable def spare_Reach_b1 (xv : SpareStore) (rv_1 : spare_store) : (Int × Int) → Option ((Int × Int) ⊕ (Int × Int))
 | (most, v21_0) =>
  cond (decide (v21_0 < (gshl 1 (xv.Machines.length : Int))))
  ((spare_store_ends rv_1 v21_0).bind fun rv_2 =>
  nxt ((if rv_2.1 > most then rv_2.1 else most), wr (v21_0 + 1)))
  (ext (some (most, 0)))
noncomputable def spare_Reach (xv : SpareStore) : Option (Int × Int) :=
  (spare_Check xv).bind fun rv =>
  cond (rv != 0)
  (some (0, rv))
  ((spare_opened xv).bind fun rv_1 =>
  if ¬ (xv.Machines.length : Int) < 0 then
  loopU (spare_Reach_b1 xv rv_1) (0, 0)
  else none)
theorem spare_Reach_ok {w0 : World} {D0 : Stab} (hD : D0.on w0) (xv : SpareStore) {p : Option Addr} {c : Nat} (hs : SRc C_SpareMachine D0 xv.Machines p c) (hG : Glob D0) (out : (Int × Int)) (h : spare_Reach xv = some out) : Calls Tryd.prog 25 [.agg #[iv xv.Hours, iv xv.Gap, .slice p xv.Machines.length c]].toArray w0 (RetP D0 w0 (.tuple #[iv out.1, iv out.2])) := by
 refine enter _ 35 Tryd.func25 rfl Tryd.ntmps25 rfl fun a hF => ?_
 replace hF : Frm 35 [] [(0, .agg #[iv xv.Hours, iv xv.Gap, .slice p xv.Machines.length c])] a := hF
 have hS := St.start hD
 unfold spare_Reach at h
 refine seq (region (O.box (cs := [iv xv.Hours, iv xv.Gap, .slice p xv.Machines.length c]) 1 hF rfl rfl hS rfl fun b a w hF hS => step hF (Y.assign hF rfl) rfl fun a hF => step hF (Y.assign hF rfl) rfl fun a hF => nT (seq (seq (region (step hF (Y.loadNL 1 sz_24 hF rfl hS rfl rfl rfl) rfl fun a hF => ?_))))))
 obtain ⟨rv, hx, h⟩ := bind_some h
 refine O.callP (us := [.agg #[iv xv.Hours, iv xv.Gap, .slice p xv.Machines.length c]]) ca_17 hF hS (spare_Check_ok hS.stab xv hs rv hx) rfl rfl fun a w hF hS => step hF (Y.assign hF rfl) rfl fun a hF => nT (seq (region (step hF (Y.move hF rfl) rfl fun a hF => step hF (Y.neq hF rfl rfl) rfl fun a hF => nT (cond_b hF rfl (fun hbv => ?_) (fun hbv => ?_)))))
 ·replace h := cond_t h hbv
  refine seq (region (step hF (Y.move hF rfl) rfl fun a hF => step hF (Y.assign hF rfl) rfl fun a hF => step hF (Y.assign hF rfl) rfl fun a hF => nT (ret_ (then_r ?_))))
  obtain rfl := some_inj h
  exact leaveP Tryd.results25 hF hS (.cons (.tmp rfl) (.cons (.tmp rfl) .nil)) .nil rfl
 replace h := cond_f h hbv
 refine skip_ (then_n (seq (region (step hF (Y.loadNL 1 sz_24 hF rfl hS rfl rfl rfl) rfl fun a hF => ?_))))
 obtain ⟨rv_1, hx_1, h⟩ := bind_some h
 refine O.callS (us := [.agg #[iv xv.Hours, iv xv.Gap, .slice p xv.Machines.length c]]) ca_55 hF hS (spare_opened_ok hS.stab xv hs hG rv_1 hx_1) rfl rfl fun v Dv a w hR hlev hF hS => ?_
 replace hG := hG.mono hlev
 obtain ⟨p_1, c_1, bm, bm_1, rfl, hs_1, hm, hm_1⟩ := hR
 refine O.alloc 2 zc_80 hF hS rfl fun b_1 a w hF hS => O.store (us := [iv rv_1.SpareStore.Hours, iv rv_1.SpareStore.Gap, .slice p_1 rv_1.SpareStore.Machines.length c_1, .map bm, .map bm_1]) 2 sz_80 hF rfl rfl rfl rfl hS rfl rfl fun a w hF hS => step hF (Y.assign hF rfl) rfl fun a hF => nT (seq (seq (region (step hF (Y.fieldAddr fo_24_2 hF rfl) rfl fun a hF => step hF (Y.load1L 1 sz_22 hF rfl hS rfl rfl) rfl fun a hF => step hF (Y.lenSl u_22 hF rfl) rfl fun a hF => ?_))))
 obtain ⟨hg, h⟩ := ite_some h
 refine step hF (Y.shl hF rfl rfl hg) rfl fun a hF => step hF (Y.move hF rfl) rfl fun a hF => nT (block (loop_cut (body := spare_Reach_b1 xv rv_1) (out := out) (fun s a w => ∃ (most : Int) (v21_0 : Int), ∃ (Dv_1 : Stab), s = (most, v21_0) ∧ Dv.le Dv_1 ∧ Frm 35 [] [(2, iv 0), (3, iv 0), (5, .pointer (some ⟨b_1, 0, none⟩)), (6, iv most), (20, iv (gshl 1 (xv.Machines.length : Int))), (21, iv v21_0)] a ∧ St w0 D0 Dv_1 [(1, .cells b [iv xv.Hours, iv xv.Gap, .slice p xv.Machines.length c] 24), (2, .cells b_1 [iv rv_1.SpareStore.Hours, iv rv_1.SpareStore.Gap, .slice p_1 rv_1.SpareStore.Machines.length c_1, .map bm, .map bm_1] 80)] w) (0, 0) h ⟨0, 0, Dv, rfl, Stab.le.refl _, hF.weak (AF rfl), hS.weak ⟨rfl, rfl, trivial⟩⟩ ?_))
 rintro s a w xo ⟨most, v21_0, Dv_1, rfl, hlev_1, hF, hS⟩ h hxo
 unfold spare_Reach_b1 at h
 dsimp only at h
 replace hG := hG.mono hlev_1
 replace hs_1 := hs_1.mono hlev_1
 replace hm := hm.mono hlev_1
 replace hm_1 := hm_1.mono hlev_1
 refine seq (region (step hF (Y.lss hF rfl rfl) rfl fun a hF => nT (seq (cond_b hF rfl (fun hbv_1 => ?_) (fun hbv_1 => ?_)))))
 ·replace h := cond_t h hbv_1
  refine skip_ (then_n (seq (block (seq (region (step hF (Y.move hF rfl) rfl fun a hF => step hF (Y.assign hF rfl) rfl fun a hF => nT (seq (region (step hF (Y.loadNL 2 sz_80 hF rfl hS rfl rfl rfl) rfl fun a hF => step hF (Y.move hF rfl) rfl fun a hF => ?_)))))))))
  obtain ⟨rv_2, hx_2, h⟩ := bind_some h
  refine O.callP (us := [.agg #[iv rv_1.SpareStore.Hours, iv rv_1.SpareStore.Gap, .slice p_1 rv_1.SpareStore.Machines.length c_1, .map bm, .map bm_1], iv v21_0]) ca_61 hF hS (spare_store_ends_ok hS.stab rv_1 v21_0 hs_1 hm hm_1 hG rv_2 hx_2) rfl rfl fun a w hF hS => step hF (Y.move hF rfl) rfl fun a hF => step hF (Y.extract hF rfl rfl) rfl fun a hF => step hF (Y.extract hF rfl rfl) rfl fun a hF => step hF (Y.assign hF rfl) rfl fun a hF => step hF (Y.assign hF rfl) rfl fun a hF => nT (region (step hF (Y.move hF rfl) rfl fun a hF => step hF (Y.move hF rfl) rfl fun a hF => step hF (Y.max2 hF rfl rfl) rfl fun a hF => step hF (Y.assign hF rfl) rfl fun a hF => nil (blk_n (then_n (region (step hF (Y.add hF rfl rfl) rfl fun a hF => step hF (Y.move hF rfl) rfl fun a hF => nT (⟨_, nxt_some h, (if rv_2.1 > most then rv_2.1 else most), (wr (v21_0 + 1)), Dv_1, rfl, hlev_1, hF.weak (AF rfl), hS.weak ⟨rfl, rfl, trivial⟩⟩)))))))
 replace h := cond_f h hbv_1
 refine exit_ (then_x (then_x (blk_hit (then_n ?_))))
 replace h := ext_some h hxo
 refine seq (region (step hF (Y.move hF rfl) rfl fun a hF => step hF (Y.assign hF rfl) rfl fun a hF => step hF (Y.assign hF rfl) rfl fun a hF => nT (ret_ ?_)))
 obtain rfl := some_inj h
 exact leaveP Tryd.results25 hF hS (.cons (.tmp rfl) (.cons (.tmp rfl) .nil)) .nil rfl
noncomputable def spare_Need_b1 (xv : SpareStore) (rv_1 : spare_store) : ((List Int) × Int) → Option (((List Int) × Int) ⊕ ((List Int) × Int))
 | (outv, v28_0) =>
  cond (decide (v28_0 < (xv.Machines.length : Int)))
  ((spare_all xv).bind fun rv_4 =>
  if ¬ v28_0 < 0 then
  (spare_store_enough rv_1 (bitsOp .andNot rv_4 (gshl 1 v28_0)) xv.Hours).bind fun rv_5 =>
  cond (!rv_5)
  (if outv.length + ([v28_0]).length ≤ lim then
  nxt ((outv ++ [v28_0]), wr (v28_0 + 1))
  else none)
  (nxt (outv, wr (v28_0 + 1)))
  else none)
  (ext (some (outv, 0)))
noncomputable def spare_Need (xv : SpareStore) : Option ((List Int) × Int) :=
  (spare_Check xv).bind fun rv =>
  cond (rv != 0)
  (some (([] : List Int), rv))
  ((spare_opened xv).bind fun rv_1 =>
  (spare_all xv).bind fun rv_2 =>
  (spare_store_enough rv_1 rv_2 xv.Hours).bind fun rv_3 =>
  cond (!rv_3)
  (some (([] : List Int), 4))
  (loopU (spare_Need_b1 xv rv_1) (([] : List Int), 0)))
theorem spare_Need_ok {w0 : World} {D0 : Stab} (hD : D0.on w0) (xv : SpareStore) {p : Option Addr} {c : Nat} (hs : SRc C_SpareMachine D0 xv.Machines p c) (hG : Glob D0) (out : ((List Int) × Int)) (h : spare_Need xv = some out) : Calls Tryd.prog 27 [.agg #[iv xv.Hours, iv xv.Gap, .slice p xv.Machines.length c]].toArray w0 (RetS D0 w0 fun D v => ∃ p_5 c_5, v = .tuple #[.slice p_5 out.1.length c_5, iv out.2] ∧ SRc C_int D out.1 p_5 c_5) := by
 refine enter _ 52 Tryd.func27 rfl Tryd.ntmps27 rfl fun a hF => ?_
 replace hF : Frm 52 [] [(0, .agg #[iv xv.Hours, iv xv.Gap, .slice p xv.Machines.length c])] a := hF
 have hS := St.start hD
 unfold spare_Need at h
 refine seq (region (O.box (cs := [iv xv.Hours, iv xv.Gap, .slice p xv.Machines.length c]) 1 hF rfl rfl hS rfl fun b a w hF hS => step hF (Y.assign hF rfl) rfl fun a hF => step hF (Y.assign hF rfl) rfl fun a hF => nT (seq (seq (region (step hF (Y.loadNL 1 sz_24 hF rfl hS rfl rfl rfl) rfl fun a hF => ?_))))))
 obtain ⟨rv, hx, h⟩ := bind_some h
 refine O.callP (us := [.agg #[iv xv.Hours, iv xv.Gap, .slice p xv.Machines.length c]]) ca_17 hF hS (spare_Check_ok hS.stab xv hs rv hx) rfl rfl fun a w hF hS => step hF (Y.assign hF rfl) rfl fun a hF => nT (seq (region (step hF (Y.move hF rfl) rfl fun a hF => step hF (Y.neq hF rfl rfl) rfl fun a hF => nT (cond_b hF rfl (fun hbv => ?_) (fun hbv => ?_)))))
 ·replace h := cond_t h hbv
  refine seq (region (step hF (Y.move hF rfl) rfl fun a hF => step hF (Y.assign hF rfl) rfl fun a hF => step hF (Y.assign hF rfl) rfl fun a hF => nT (ret_ (then_r ?_))))
  obtain rfl := some_inj h
  exact leaveS Tryd.results27 hF hS (.cons (.tmp rfl) (.cons (.tmp rfl) .nil)) .nil ⟨_, _, rfl, SRc.nil⟩
 replace h := cond_f h hbv
 refine skip_ (then_n (seq (region (step hF (Y.loadNL 1 sz_24 hF rfl hS rfl rfl rfl) rfl fun a hF => ?_))))
 obtain ⟨rv_1, hx_1, h⟩ := bind_some h
 refine O.callS (us := [.agg #[iv xv.Hours, iv xv.Gap, .slice p xv.Machines.length c]]) ca_55 hF hS (spare_opened_ok hS.stab xv hs hG rv_1 hx_1) rfl rfl fun v Dv a w hR hlev hF hS => ?_
 replace hs := hs.mono hlev
 replace hG := hG.mono hlev
 obtain ⟨p_1, c_1, bm, bm_1, rfl, hs_1, hm, hm_1⟩ := hR
 refine O.alloc 2 zc_80 hF hS rfl fun b_1 a w hF hS => O.store (us := [iv rv_1.SpareStore.Hours, iv rv_1.SpareStore.Gap, .slice p_1 rv_1.SpareStore.Machines.length c_1, .map bm, .map bm_1]) 2 sz_80 hF rfl rfl rfl rfl hS rfl rfl fun a w hF hS => nT (seq (region (step hF (Y.loadNL 2 sz_80 hF rfl hS rfl rfl rfl) rfl fun a hF => step hF (Y.makeFunc (first := [(.tmp 16)]) (cap := []) (fs := [.agg #[iv rv_1.SpareStore.Hours, iv rv_1.SpareStore.Gap, .slice p_1 rv_1.SpareStore.Machines.length c_1, .map bm, .map bm_1]]) (cs := []) hF rfl rfl) rfl fun a hF => step hF (Y.assign hF rfl) rfl fun a hF => nT (seq (seq ?_)))))
 obtain ⟨rv_2, hx_2, h⟩ := bind_some h
 refine drawsV 5 (.flt 0 (.flt 1 (.flt 3 (.flt 4 (.alt 2 .done .stop))))) mixed_ (by kernel_rfl) (fun w => St w0 D0 Dv [(1, .cells b [iv xv.Hours, iv xv.Gap, .slice p xv.Machines.length c] 24), (2, .cells b_1 [iv rv_1.SpareStore.Hours, iv rv_1.SpareStore.Gap, .slice p_1 rv_1.SpareStore.Machines.length c_1, .map bm, .map bm_1] 80)] w) (fun a w => Frm 52 [] [(1, .pointer (some ⟨b, 0, none⟩)), (2, .slice none 0 0), (3, iv 0), (6, .func (.func 63) #[.agg #[iv rv_1.SpareStore.Hours, iv rv_1.SpareStore.Gap, .slice p_1 rv_1.SpareStore.Machines.length c_1, .map bm, .map bm_1]] #[]), (18, .func (.func 63) #[.agg #[iv rv_1.SpareStore.Hours, iv rv_1.SpareStore.Gap, .slice p_1 rv_1.SpareStore.Machines.length c_1, .map bm, .map bm_1]] #[]), (20, iv rv_2), (22, iv xv.Hours)] a ∧ St w0 D0 Dv [(1, .cells b [iv xv.Hours, iv xv.Gap, .slice p xv.Machines.length c] 24), (2, .cells b_1 [iv rv_1.SpareStore.Hours, iv rv_1.SpareStore.Gap, .slice p_1 rv_1.SpareStore.Machines.length c_1, .map bm, .map bm_1] 80)] w) (hS.weak (ms := [(1, .cells b [iv xv.Hours, iv xv.Gap, .slice p xv.Machines.length c] 24), (2, .cells b_1 [iv rv_1.SpareStore.Hours, iv rv_1.SpareStore.Gap, .slice p_1 rv_1.SpareStore.Machines.length c_1, .map bm, .map bm_1] 80)]) ⟨rfl, rfl, trivial⟩).drew (fun _ _ _ _ h => h) ?_ ?_
 ·replace hS := hS.drew
  have hle0 := hS.le
  refine stepV (i := 0) rfl hF (fun w hS => Y.move hF rfl) rfl fun a hF => stepV (i := 1) rfl hF (fun w hS => Y.loadNL 1 sz_24 hF rfl hS rfl rfl rfl) rfl fun a hF => stepV (i := 3) rfl hF (fun w hS => Y.fieldAddr fo_24_0 hF rfl) rfl fun a hF => stepV (i := 4) rfl hF (fun w hS => Y.load1L 1 sz_3 hF rfl hS rfl rfl) rfl fun a hF => oneV (i := 2) rfl ?_ trivial
  refine O.callP (us := [.agg #[iv xv.Hours, iv xv.Gap, .slice p xv.Machines.length c]]) ca_57 hF hS (spare_all_ok hS.stab xv hs rv_2 hx_2) rfl rfl fun a w hF hS => nT ⟨hS.weak ⟨rfl, rfl, trivial⟩, ?_⟩
  exact toTailV ⟨hF.weak (AF rfl), hS.weak ⟨rfl, rfl, trivial⟩⟩
 rintro a w ⟨hF, hS⟩
 obtain ⟨rv_3, hx_3, h⟩ := bind_some h
 refine O.callVP (f := 63) (first := [.agg #[iv rv_1.SpareStore.Hours, iv rv_1.SpareStore.Gap, .slice p_1 rv_1.SpareStore.Machines.length c_1, .map bm, .map bm_1]]) (cap := []) (us := [iv rv_2, iv xv.Hours]) ca_63 hF hS rfl rfl (spare_store_enough_ok hS.stab rv_1 rv_2 xv.Hours hs_1 hm hm_1 hG rv_3 hx_3) rfl fun a w hF hS => step hF (Y.not hF rfl) rfl fun a hF => nT (cond_b hF rfl (fun hbv_1 => ?_) (fun hbv_1 => ?_))
 ·replace h := cond_t h hbv_1
  refine seq (region (step hF (Y.assign hF rfl) rfl fun a hF => step hF (Y.assign hF rfl) rfl fun a hF => nT (ret_ (then_r ?_))))
  obtain rfl := some_inj h
  exact leaveS Tryd.results27 hF hS (.cons (.tmp rfl) (.cons (.tmp rfl) .nil)) .nil ⟨_, _, rfl, SRc.nil⟩
 replace h := cond_f h hbv_1
 refine skip_ (then_n (seq (region (step hF (Y.assign hF rfl) rfl fun a hF => ?_))))
 replace hS := hS.ownNil 3 3 1
 refine nT (seq (seq (region (step hF (Y.fieldAddr fo_24_2 hF rfl) rfl fun a hF => step hF (Y.load1L 1 sz_22 hF rfl hS rfl rfl) rfl fun a hF => step hF (Y.lenSl u_22 hF rfl) rfl fun a hF => step hF (Y.move hF rfl) rfl fun a hF => nT (block (loop_cut (body := spare_Need_b1 xv rv_1) (out := out) (fun s a w => ∃ (outv : (List Int)) (v28_0 : Int), ∃ (Dv_1 : Stab), ∃ p_2 c_2 cs, s = (outv, v28_0) ∧ Dv.le Dv_1 ∧ Frm 52 [] [(1, .pointer (some ⟨b, 0, none⟩)), (2, .slice none 0 0), (3, iv 0), (6, .func (.func 63) #[.agg #[iv rv_1.SpareStore.Hours, iv rv_1.SpareStore.Gap, .slice p_1 rv_1.SpareStore.Machines.length c_1, .map bm, .map bm_1]] #[]), (7, .slice p_2 outv.length c_2), (27, iv (xv.Machines.length : Int)), (28, iv v28_0)] a ∧ St w0 D0 Dv_1 [(1, .cells b [iv xv.Hours, iv xv.Gap, .slice p xv.Machines.length c] 24), (2, .cells b_1 [iv rv_1.SpareStore.Hours, iv rv_1.SpareStore.Gap, .slice p_1 rv_1.SpareStore.Machines.length c_1, .map bm, .map bm_1] 80), (3, .own p_2 outv.length c_2 cs 3 1)] w ∧ Reps C_int Dv_1 outv cs) (([] : List Int), 0) h ⟨([] : List Int), 0, Dv, none, 0, ([]), rfl, Stab.le.refl _, hF.weak (AF rfl), hS.weak (AL rfl), Reps.nil⟩ ?_))))))
 rintro s a w xo ⟨outv, v28_0, Dv_1, p_2, c_2, cs, rfl, hlev_1, hF, hS, hr⟩ h hxo
 unfold spare_Need_b1 at h
 dsimp only at h
 replace hs := hs.mono hlev_1
 replace hG := hG.mono hlev_1
 replace hs_1 := hs_1.mono hlev_1
 replace hm := hm.mono hlev_1
 replace hm_1 := hm_1.mono hlev_1
 refine seq (region (step hF (Y.lss hF rfl rfl) rfl fun a hF => nT (seq (cond_b hF rfl (fun hbv_2 => ?_) (fun hbv_2 => ?_)))))
 ·replace h := cond_t h hbv_2
  refine skip_ (then_n (seq (block (seq (region (step hF (Y.move hF rfl) rfl fun a hF => step hF (Y.assign hF rfl) rfl fun a hF => nT (seq ?_)))))))
  obtain ⟨rv_4, hx_4, h⟩ := bind_some h
  obtain ⟨hg, h⟩ := ite_some h
  refine drawsV 8 (.flt 0 (.flt 1 (.flt 3 (.flt 4 (.flt 6 (.flt 7 (.alt 2 (.flt 5 .done) .stop))))))) mixed_ (by kernel_rfl) (fun w => St w0 D0 Dv_1 [(1, .cells b [iv xv.Hours, iv xv.Gap, .slice p xv.Machines.length c] 24), (2, .cells b_1 [iv rv_1.SpareStore.Hours, iv rv_1.SpareStore.Gap, .slice p_1 rv_1.SpareStore.Machines.length c_1, .map bm, .map bm_1] 80), (3, .own p_2 outv.length c_2 cs 3 1)] w) (fun a w => Frm 52 [] [(1, .pointer (some ⟨b, 0, none⟩)), (2, .slice none 0 0), (3, iv 0), (6, .func (.func 63) #[.agg #[iv rv_1.SpareStore.Hours, iv rv_1.SpareStore.Gap, .slice p_1 rv_1.SpareStore.Machines.length c_1, .map bm, .map bm_1]] #[]), (7, .slice p_2 outv.length c_2), (8, iv v28_0), (27, iv (xv.Machines.length : Int)), (28, iv v28_0), (31, .func (.func 63) #[.agg #[iv rv_1.SpareStore.Hours, iv rv_1.SpareStore.Gap, .slice p_1 rv_1.SpareStore.Machines.length c_1, .map bm, .map bm_1]] #[]), (36, iv (bitsOp .andNot rv_4 (gshl 1 v28_0))), (38, iv xv.Hours)] a ∧ St w0 D0 Dv_1 [(1, .cells b [iv xv.Hours, iv xv.Gap, .slice p xv.Machines.length c] 24), (2, .cells b_1 [iv rv_1.SpareStore.Hours, iv rv_1.SpareStore.Gap, .slice p_1 rv_1.SpareStore.Machines.length c_1, .map bm, .map bm_1] 80), (3, .own p_2 outv.length c_2 cs 3 1)] w) (hS.weak (ms := [(1, .cells b [iv xv.Hours, iv xv.Gap, .slice p xv.Machines.length c] 24), (2, .cells b_1 [iv rv_1.SpareStore.Hours, iv rv_1.SpareStore.Gap, .slice p_1 rv_1.SpareStore.Machines.length c_1, .map bm, .map bm_1] 80), (3, .own p_2 outv.length c_2 cs 3 1)]) (AL rfl)).drew (fun _ _ _ _ h => h) ?_ ?_
  ·replace hS := hS.drew
   have hle0 := hS.le
   refine stepV (i := 0) rfl hF (fun w hS => Y.move hF rfl) rfl fun a hF => stepV (i := 1) rfl hF (fun w hS => Y.loadNL 1 sz_24 hF rfl hS rfl rfl rfl) rfl fun a hF => stepV (i := 3) rfl hF (fun w hS => Y.move hF rfl) rfl fun a hF => stepV (i := 4) rfl hF (fun w hS => Y.shl hF rfl rfl hg) rfl fun a hF => stepV (i := 6) rfl hF (fun w hS => Y.fieldAddr fo_24_0 hF rfl) rfl fun a hF => stepV (i := 7) rfl hF (fun w hS => Y.load1L 1 sz_3 hF rfl hS rfl rfl) rfl fun a hF => oneV (i := 2) rfl ?_ trivial
   refine O.callP (us := [.agg #[iv xv.Hours, iv xv.Gap, .slice p xv.Machines.length c]]) ca_57 hF hS (spare_all_ok hS.stab xv hs rv_4 hx_4) rfl rfl fun a w hF hS => nT ⟨hS.weak (AL rfl), ?_⟩
   refine stepV (i := 5) rfl hF (fun w hS => Y.andNot hF rfl rfl) rfl fun a hF => toTailV ⟨hF.weak (AF rfl), hS.weak (AL rfl)⟩
  rintro a w ⟨hF, hS⟩
  obtain ⟨rv_5, hx_5, h⟩ := bind_some h
  refine O.callVP (f := 63) (first := [.agg #[iv rv_1.SpareStore.Hours, iv rv_1.SpareStore.Gap, .slice p_1 rv_1.SpareStore.Machines.length c_1, .map bm, .map bm_1]]) (cap := []) (us := [iv (bitsOp .andNot rv_4 (gshl 1 v28_0)), iv xv.Hours]) ca_63 hF hS rfl rfl (spare_store_enough_ok hS.stab rv_1 (bitsOp .andNot rv_4 (gshl 1 v28_0)) xv.Hours hs_1 hm hm_1 hG rv_5 hx_5) rfl fun a w hF hS => step hF (Y.not hF rfl) rfl fun a hF => nT (cond_b hF rfl (fun hbv_3 => ?_) (fun hbv_3 => ?_))
  ·replace h := cond_t h hbv_3
   refine region (step hF (Y.move hF rfl) rfl fun a hF => step hF (Y.move hF rfl) rfl fun a hF => ?_)
   have hr_1 : Reps C_int Dv_1 [v28_0] [iv v28_0] := Reps.cons (C := C_int) (x := v28_0) (c := [iv v28_0]) (r := []) rfl (Reps.nil)
   refine O.buildSlice (E := 3) (C := C_int) (xs := [v28_0]) (cs := [iv v28_0]) (us := [iv v28_0]) (parts := [(0, (.tmp 42))]) 4 hF hS rfl (by kernel_rfl) hr_1 rfl rfl rfl fun p_3 c_3 a w hF hS => ?_
   obtain ⟨hg_1, h⟩ := ite_some h
   refine O.append (C := C_int) (xs := outv) (ys := [v28_0]) 3 gr_39 hF rfl rfl hS rfl (src_own (i := 4) hS rfl) hr hr_1 hg_1 rfl fun p_4 c_4 a w hF hS hr_2 => step hF (Y.assign hF rfl) rfl fun a hF => nil (blk_n (then_n (region (step hF (Y.add hF rfl rfl) rfl fun a hF => step hF (Y.move hF rfl) rfl fun a hF => nT (⟨_, nxt_some h, (outv ++ [v28_0]), (wr (v28_0 + 1)), Dv_1, p_4, c_4, (cs ++ [iv v28_0]), rfl, hlev_1, hF.weak (AF rfl), hS.weak (AL rfl), hr_2⟩)))))
  replace h := cond_f h hbv_3
  refine skip_ (blk_n (then_n (region (step hF (Y.add hF rfl rfl) rfl fun a hF => step hF (Y.move hF rfl) rfl fun a hF => nT (⟨_, nxt_some h, outv, (wr (v28_0 + 1)), Dv_1, p_2, c_2, cs, rfl, hlev_1, hF.weak (AF rfl), hS.weak (AL rfl), hr⟩)))))
 replace h := cond_f h hbv_2
 refine exit_ (then_x (then_x (blk_hit (then_n ?_))))
 replace h := ext_some h hxo
 refine seq (region (step hF (Y.move hF rfl) rfl fun a hF => step hF (Y.move hF rfl) rfl fun a hF => step hF (Y.lenSl u_39 hF rfl) rfl fun a hF => step hF (Y.move hF rfl) rfl fun a hF => step hF (Y.lenSl u_39 hF rfl) rfl fun a hF => step hF (Y.slice3 u_39 sz_3 hF rfl rfl rfl (own_cap (i := 3) hS rfl)) rfl fun a hF => step hF (Y.assign hF rfl) rfl fun a hF => step hF (Y.assign hF rfl) rfl fun a hF => nT (ret_ ?_)))
 obtain ⟨Dv_2, hlev_2, hs_2, hS⟩ := hS.freezeC (C := C_int) (i := 3) (xs := outv) rfl hr
 obtain rfl := some_inj h
 exact leaveS Tryd.results27 hF hS (.cons (.tmp rfl) (.cons (.tmp rfl) .nil)) .nil ⟨_, _, rfl, (⟨hs_2.1, Nat.le_refl _⟩ : SRc _ _ _ _ _)⟩
noncomputable def spare_Pair_k2 (v22_0 : Int) (best_1 : Int) : Option ((Int × Int) ⊕ (Int × Int)) :=
  nxt (best_1, wr (v22_0 + 1))
noncomputable def spare_Pair_b1 (xv : SpareStore) (rv_1 : spare_store) : (Int × Int) → Option ((Int × Int) ⊕ (Int × Int))
 | (best, v22_0) =>
  cond (decide (v22_0 < (gshl 1 (xv.Machines.length : Int))))
  ((spare_store_ends rv_1 v22_0).bind fun rv_2 =>
  cond (decide (rv_2.1 < xv.Hours))
  (spare_Pair_k2 v22_0 best)
  ((spare_all xv).bind fun rv_3 =>
  (spare_store_fewest rv_1 (bitsOp .andNot rv_3 v22_0)).bind fun rv_4 =>
  (cond (rv_4 != 0) ((cond (best == 0) (some true) ((spare_count v22_0).bind fun rv_5 =>
  (spare_count rv_4).bind fun rv_6 =>
  some (decide ((wr (rv_5 + rv_6)) < best)))).bind fun t =>
  some t) (some false)).bind fun t_1 =>
  cond t_1
  ((spare_count v22_0).bind fun rv_7 =>
  (spare_count rv_4).bind fun rv_8 =>
  spare_Pair_k2 v22_0 (wr (rv_7 + rv_8)))
  (spare_Pair_k2 v22_0 best)))
  (ext (cond (best == 0)
  (some (0, 4))
  (some (best, 0))))
noncomputable def spare_Pair (xv : SpareStore) : Option (Int × Int) :=
  (spare_Check xv).bind fun rv =>
  cond (rv != 0)
  (some (0, rv))
  ((spare_opened xv).bind fun rv_1 =>
  if ¬ (xv.Machines.length : Int) < 0 then
  loopU (spare_Pair_b1 xv rv_1) (0, 0)
  else none)
theorem spare_Pair_ok {w0 : World} {D0 : Stab} (hD : D0.on w0) (xv : SpareStore) {p : Option Addr} {c : Nat} (hs : SRc C_SpareMachine D0 xv.Machines p c) (hG : Glob D0) (out : (Int × Int)) (h : spare_Pair xv = some out) : Calls Tryd.prog 30 [.agg #[iv xv.Hours, iv xv.Gap, .slice p xv.Machines.length c]].toArray w0 (RetP D0 w0 (.tuple #[iv out.1, iv out.2])) := by
 refine enter _ 65 Tryd.func30 rfl Tryd.ntmps30 rfl fun a hF => ?_
 replace hF : Frm 65 [] [(0, .agg #[iv xv.Hours, iv xv.Gap, .slice p xv.Machines.length c])] a := hF
 have hS := St.start hD
 unfold spare_Pair at h
 refine seq (region (O.box (cs := [iv xv.Hours, iv xv.Gap, .slice p xv.Machines.length c]) 1 hF rfl rfl hS rfl fun b a w hF hS => step hF (Y.assign hF rfl) rfl fun a hF => step hF (Y.assign hF rfl) rfl fun a hF => nT (seq (seq (region (step hF (Y.loadNL 1 sz_24 hF rfl hS rfl rfl rfl) rfl fun a hF => ?_))))))
 obtain ⟨rv, hx, h⟩ := bind_some h
 refine O.callP (us := [.agg #[iv xv.Hours, iv xv.Gap, .slice p xv.Machines.length c]]) ca_17 hF hS (spare_Check_ok hS.stab xv hs rv hx) rfl rfl fun a w hF hS => step hF (Y.assign hF rfl) rfl fun a hF => nT (seq (region (step hF (Y.move hF rfl) rfl fun a hF => step hF (Y.neq hF rfl rfl) rfl fun a hF => nT (cond_b hF rfl (fun hbv => ?_) (fun hbv => ?_)))))
 ·replace h := cond_t h hbv
  refine seq (region (step hF (Y.move hF rfl) rfl fun a hF => step hF (Y.assign hF rfl) rfl fun a hF => step hF (Y.assign hF rfl) rfl fun a hF => nT (ret_ (then_r ?_))))
  obtain rfl := some_inj h
  exact leaveP Tryd.results30 hF hS (.cons (.tmp rfl) (.cons (.tmp rfl) .nil)) .nil rfl
 replace h := cond_f h hbv
 refine skip_ (then_n (seq (region (step hF (Y.loadNL 1 sz_24 hF rfl hS rfl rfl rfl) rfl fun a hF => ?_))))
 obtain ⟨rv_1, hx_1, h⟩ := bind_some h
 refine O.callS (us := [.agg #[iv xv.Hours, iv xv.Gap, .slice p xv.Machines.length c]]) ca_55 hF hS (spare_opened_ok hS.stab xv hs hG rv_1 hx_1) rfl rfl fun v Dv a w hR hlev hF hS => ?_
 replace hs := hs.mono hlev
 replace hG := hG.mono hlev
 obtain ⟨p_1, c_1, bm, bm_1, rfl, hs_1, hm, hm_1⟩ := hR
 refine O.alloc 2 zc_80 hF hS rfl fun b_1 a w hF hS => O.store (us := [iv rv_1.SpareStore.Hours, iv rv_1.SpareStore.Gap, .slice p_1 rv_1.SpareStore.Machines.length c_1, .map bm, .map bm_1]) 2 sz_80 hF rfl rfl rfl rfl hS rfl rfl fun a w hF hS => step hF (Y.assign hF rfl) rfl fun a hF => nT (seq (seq (region (step hF (Y.fieldAddr fo_24_2 hF rfl) rfl fun a hF => step hF (Y.load1L 1 sz_22 hF rfl hS rfl rfl) rfl fun a hF => step hF (Y.lenSl u_22 hF rfl) rfl fun a hF => ?_))))
 obtain ⟨hg, h⟩ := ite_some h
 refine step hF (Y.shl hF rfl rfl hg) rfl fun a hF => step hF (Y.move hF rfl) rfl fun a hF => nT (block (loop_cut (body := spare_Pair_b1 xv rv_1) (out := out) (fun s a w => ∃ (best : Int) (v22_0 : Int), ∃ (Dv_1 : Stab), s = (best, v22_0) ∧ Dv.le Dv_1 ∧ Frm 65 [] [(1, .pointer (some ⟨b, 0, none⟩)), (2, iv 0), (3, iv 0), (5, .pointer (some ⟨b_1, 0, none⟩)), (6, iv best), (21, iv (gshl 1 (xv.Machines.length : Int))), (22, iv v22_0)] a ∧ St w0 D0 Dv_1 [(1, .cells b [iv xv.Hours, iv xv.Gap, .slice p xv.Machines.length c] 24), (2, .cells b_1 [iv rv_1.SpareStore.Hours, iv rv_1.SpareStore.Gap, .slice p_1 rv_1.SpareStore.Machines.length c_1, .map bm, .map bm_1] 80)] w) (0, 0) h ⟨0, 0, Dv, rfl, Stab.le.refl _, hF.weak (AF rfl), hS.weak ⟨rfl, rfl, trivial⟩⟩ ?_))
 rintro s a w xo ⟨best, v22_0, Dv_1, rfl, hlev_1, hF, hS⟩ h hxo
 unfold spare_Pair_b1 at h
 dsimp only at h
 replace hs := hs.mono hlev_1
 replace hG := hG.mono hlev_1
 replace hs_1 := hs_1.mono hlev_1
 replace hm := hm.mono hlev_1
 replace hm_1 := hm_1.mono hlev_1
 refine seq (region (step hF (Y.lss hF rfl rfl) rfl fun a hF => nT (seq (cond_b hF rfl (fun hbv_1 => ?_) (fun hbv_1 => ?_)))))
 ·replace h := cond_t h hbv_1
  refine skip_ (then_n (seq_cut (fun a w => ∃ (best_1 : Int), ∃ (Dv_2 : Stab), Dv_1.le Dv_2 ∧ Frm 65 [] [(1, .pointer (some ⟨b, 0, none⟩)), (2, iv 0), (3, iv 0), (5, .pointer (some ⟨b_1, 0, none⟩)), (6, iv best_1), (21, iv (gshl 1 (xv.Machines.length : Int))), (22, iv v22_0)] a ∧ St w0 D0 Dv_2 [(1, .cells b [iv xv.Hours, iv xv.Gap, .slice p xv.Machines.length c] 24), (2, .cells b_1 [iv rv_1.SpareStore.Hours, iv rv_1.SpareStore.Gap, .slice p_1 rv_1.SpareStore.Machines.length c_1, .map bm, .map bm_1] 80)] w ∧ spare_Pair_k2 v22_0 best_1 = some xo) ?_ ?_))
  ·skip
   refine block (seq (region (step hF (Y.move hF rfl) rfl fun a hF => step hF (Y.assign hF rfl) rfl fun a hF => nT (seq (seq (region (step hF (Y.loadNL 2 sz_80 hF rfl hS rfl rfl rfl) rfl fun a hF => step hF (Y.move hF rfl) rfl fun a hF => ?_)))))))
   obtain ⟨rv_2, hx_2, h⟩ := bind_some h
   refine O.callP (us := [.agg #[iv rv_1.SpareStore.Hours, iv rv_1.SpareStore.Gap, .slice p_1 rv_1.SpareStore.Machines.length c_1, .map bm, .map bm_1], iv v22_0]) ca_61 hF hS (spare_store_ends_ok hS.stab rv_1 v22_0 hs_1 hm hm_1 hG rv_2 hx_2) rfl rfl fun a w hF hS => step hF (Y.move hF rfl) rfl fun a hF => step hF (Y.extract hF rfl rfl) rfl fun a hF => step hF (Y.extract hF rfl rfl) rfl fun a hF => step hF (Y.assign hF rfl) rfl fun a hF => step hF (Y.assign hF rfl) rfl fun a hF => nT (seq (region (step hF (Y.move hF rfl) rfl fun a hF => step hF (Y.fieldAddr fo_24_0 hF rfl) rfl fun a hF => step hF (Y.load1L 1 sz_3 hF rfl hS rfl rfl) rfl fun a hF => step hF (Y.lss hF rfl rfl) rfl fun a hF => nT (cond_b hF rfl (fun hbv_2 => ?_) (fun hbv_2 => ?_)))))
   ·replace h := cond_t h hbv_2
    refine exit_ (then_x (blk_hit (then_n (⟨best, Dv_1, Stab.le.refl _, hF.weak (AF rfl), hS.weak ⟨rfl, rfl, trivial⟩, h⟩))))
   replace h := cond_f h hbv_2
   refine skip_ (then_n (seq ?_))
   obtain ⟨rv_3, hx_3, h⟩ := bind_some h
   refine drawsV 5 (.flt 0 (.flt 1 (.flt 3 (.alt 2 (.flt 4 .done) .stop)))) mixed_ (by kernel_rfl) (fun w => St w0 D0 Dv_1 [(1, .cells b [iv xv.Hours, iv xv.Gap, .slice p xv.Machines.length c] 24), (2, .cells b_1 [iv rv_1.SpareStore.Hours, iv rv_1.SpareStore.Gap, .slice p_1 rv_1.SpareStore.Machines.length c_1, .map bm, .map bm_1] 80)] w) (fun a w => Frm 65 [] [(1, .pointer (some ⟨b, 0, none⟩)), (2, iv 0), (3, iv 0), (5, .pointer (some ⟨b_1, 0, none⟩)), (6, iv best), (7, iv v22_0), (21, iv (gshl 1 (xv.Machines.length : Int))), (22, iv v22_0), (35, .agg #[iv rv_1.SpareStore.Hours, iv rv_1.SpareStore.Gap, .slice p_1 rv_1.SpareStore.Machines.length c_1, .map bm, .map bm_1]), (39, iv (bitsOp .andNot rv_3 v22_0))] a ∧ St w0 D0 Dv_1 [(1, .cells b [iv xv.Hours, iv xv.Gap, .slice p xv.Machines.length c] 24), (2, .cells b_1 [iv rv_1.SpareStore.Hours, iv rv_1.SpareStore.Gap, .slice p_1 rv_1.SpareStore.Machines.length c_1, .map bm, .map bm_1] 80)] w) (hS.weak (ms := [(1, .cells b [iv xv.Hours, iv xv.Gap, .slice p xv.Machines.length c] 24), (2, .cells b_1 [iv rv_1.SpareStore.Hours, iv rv_1.SpareStore.Gap, .slice p_1 rv_1.SpareStore.Machines.length c_1, .map bm, .map bm_1] 80)]) ⟨rfl, rfl, trivial⟩).drew (fun _ _ _ _ h => h) ?_ ?_
   ·replace hS := hS.drew
    have hle0 := hS.le
    refine stepV (i := 0) rfl hF (fun w hS => Y.loadNL 2 sz_80 hF rfl hS rfl rfl rfl) rfl fun a hF => stepV (i := 1) rfl hF (fun w hS => Y.loadNL 1 sz_24 hF rfl hS rfl rfl rfl) rfl fun a hF => stepV (i := 3) rfl hF (fun w hS => Y.move hF rfl) rfl fun a hF => oneV (i := 2) rfl ?_ trivial
    refine O.callP (us := [.agg #[iv xv.Hours, iv xv.Gap, .slice p xv.Machines.length c]]) ca_57 hF hS (spare_all_ok hS.stab xv hs rv_3 hx_3) rfl rfl fun a w hF hS => nT ⟨hS.weak ⟨rfl, rfl, trivial⟩, ?_⟩
    refine stepV (i := 4) rfl hF (fun w hS => Y.andNot hF rfl rfl) rfl fun a hF => toTailV ⟨hF.weak (AF rfl), hS.weak ⟨rfl, rfl, trivial⟩⟩
   rintro a w ⟨hF, hS⟩
   obtain ⟨rv_4, hx_4, h⟩ := bind_some h
   refine O.callP (us := [.agg #[iv rv_1.SpareStore.Hours, iv rv_1.SpareStore.Gap, .slice p_1 rv_1.SpareStore.Machines.length c_1, .map bm, .map bm_1], iv (bitsOp .andNot rv_3 v22_0)]) ca_56 hF hS (spare_store_fewest_ok hS.stab rv_1 (bitsOp .andNot rv_3 v22_0) hs_1 hm hm_1 hG rv_4 hx_4) rfl rfl fun a w hF hS => step hF (Y.assign hF rfl) rfl fun a hF => nT (seq (region (step hF (Y.move hF rfl) rfl fun a hF => step hF (Y.neq hF rfl rfl) rfl fun a hF => step hF (Y.move hF rfl) rfl fun a hF => ?_)))
   obtain ⟨t_1, ht_1, h⟩ := bind_some h
   refine join (N := 65) (rs := []) (w0 := w0) (D0 := D0) 12 (us := [(1, .pointer (some ⟨b, 0, none⟩)), (2, iv 0), (3, iv 0), (5, .pointer (some ⟨b_1, 0, none⟩)), (6, iv best), (7, iv v22_0), (10, iv rv_4), (21, iv (gshl 1 (xv.Machines.length : Int))), (22, iv v22_0), (55, .bool t_1)]) (ms := [(1, .cells b [iv xv.Hours, iv xv.Gap, .slice p xv.Machines.length c] 24), (2, .cells b_1 [iv rv_1.SpareStore.Hours, iv rv_1.SpareStore.Gap, .slice p_1 rv_1.SpareStore.Machines.length c_1, .map bm, .map bm_1] 80)]) (D' := Dv_1) ?_ ?_
   ·rcases bcases (rv_4 != 0) with hbv_3 | hbv_3
    ·skip
     replace h := cond_t ht_1 hbv_3
     refine guard_on hF rfl rfl hbv_3 (step hF (Y.move hF rfl) rfl fun a hF => guard_on hF rfl rfl hbv_3 (step hF (Y.eql hF rfl rfl) rfl fun a hF => guard_on hF rfl rfl hbv_3 (step hF (Y.move hF rfl) rfl fun a hF => ?_)))
     obtain ⟨t, ht, h⟩ := bind_some h
     refine join (N := 65) (rs := []) (w0 := w0) (D0 := D0) 8 (us := [(1, .pointer (some ⟨b, 0, none⟩)), (2, iv 0), (3, iv 0), (5, .pointer (some ⟨b_1, 0, none⟩)), (6, iv best), (7, iv v22_0), (10, iv rv_4), (21, iv (gshl 1 (xv.Machines.length : Int))), (22, iv v22_0), (43, .bool (rv_4 != 0)), (54, .bool t)]) (ms := [(1, .cells b [iv xv.Hours, iv xv.Gap, .slice p xv.Machines.length c] 24), (2, .cells b_1 [iv rv_1.SpareStore.Hours, iv rv_1.SpareStore.Gap, .slice p_1 rv_1.SpareStore.Machines.length c_1, .map bm, .map bm_1] 80)]) (D' := Dv_1) ?_ ?_
     ·rcases bcases (best == 0) with hbv_4 | hbv_4
      ·skip
       replace h := cond_t ht hbv_4
       refine guard_off hF rfl rfl hbv_4 rfl fun a hF => guard_off hF rfl rfl hbv_4 rfl fun a hF => guard_off hF rfl rfl hbv_4 rfl fun a hF => guard_off hF rfl rfl hbv_4 rfl fun a hF => guard_off hF rfl rfl hbv_4 rfl fun a hF => guard_off hF rfl rfl hbv_4 rfl fun a hF => guard_off hF rfl rfl hbv_4 rfl fun a hF => guard_on hF rfl rfl hbv_3 (step hF (Y.pick_t hF rfl hbv_4 rfl) rfl fun a hF => ?_)
       obtain rfl := some_inj h
       exact nT ⟨hF.weak (AF rfl), hS.weak ⟨rfl, rfl, trivial⟩⟩
      replace h := cond_f ht hbv_4
      refine guard_on hF rfl rfl hbv_4 (step hF (Y.move hF rfl) rfl fun a hF => guard_on hF rfl rfl hbv_4 ?_)
      obtain ⟨rv_5, hx_5, h⟩ := bind_some h
      refine O.callP (us := [iv v22_0]) ca_58 hF hS (spare_count_ok hS.stab v22_0 rv_5 hx_5) rfl rfl fun a w hF hS => guard_on hF rfl rfl hbv_4 (step hF (Y.move hF rfl) rfl fun a hF => guard_on hF rfl rfl hbv_4 ?_)
      obtain ⟨rv_6, hx_6, h⟩ := bind_some h
      refine O.callP (us := [iv rv_4]) ca_58 hF hS (spare_count_ok hS.stab rv_4 rv_6 hx_6) rfl rfl fun a w hF hS => guard_on hF rfl rfl hbv_4 (step hF (Y.add hF rfl rfl) rfl fun a hF => guard_on hF rfl rfl hbv_4 (step hF (Y.move hF rfl) rfl fun a hF => guard_on hF rfl rfl hbv_4 (step hF (Y.lss hF rfl rfl) rfl fun a hF => guard_on hF rfl rfl hbv_3 (step hF (Y.pick_f hF rfl hbv_4 rfl) rfl fun a hF => ?_))))
      obtain rfl := some_inj h
      exact nT ⟨hF.weak (AF rfl), hS.weak ⟨rfl, rfl, trivial⟩⟩
     intro a w hF hS
     refine step hF (Y.pick_t hF rfl hbv_3 rfl) rfl fun a hF => ?_
     obtain rfl := some_inj h
     exact nT ⟨hF.weak (AF rfl), hS.weak ⟨rfl, rfl, trivial⟩⟩
    replace h := cond_f ht_1 hbv_3
    refine guard_off hF rfl rfl hbv_3 rfl fun a hF => guard_off hF rfl rfl hbv_3 rfl fun a hF => guard_off hF rfl rfl hbv_3 rfl fun a hF => guard_offu hF rfl rfl rfl fun a hF => guard_offu hF rfl rfl rfl fun a hF => guard_offu hF rfl rfl rfl fun a hF => guard_offu hF rfl rfl rfl fun a hF => guard_offu hF rfl rfl rfl fun a hF => guard_offu hF rfl rfl rfl fun a hF => guard_offu hF rfl rfl rfl fun a hF => guard_off hF rfl rfl hbv_3 rfl fun a hF => step hF (Y.pick_f hF rfl hbv_3 rfl) rfl fun a hF => ?_
    obtain rfl := some_inj h
    exact nT ⟨hF.weak (AF rfl), hS.weak ⟨rfl, rfl, trivial⟩⟩
   intro a w hF hS
   refine nT (cond_b hF rfl (fun hbv_5 => ?_) (fun hbv_5 => ?_))
   ·replace h := cond_t h hbv_5
    refine region (step hF (Y.move hF rfl) rfl fun a hF => ?_)
    obtain ⟨rv_7, hx_7, h⟩ := bind_some h
    refine O.callP (us := [iv v22_0]) ca_58 hF hS (spare_count_ok hS.stab v22_0 rv_7 hx_7) rfl rfl fun a w hF hS => step hF (Y.move hF rfl) rfl fun a hF => ?_
    obtain ⟨rv_8, hx_8, h⟩ := bind_some h
    refine O.callP (us := [iv rv_4]) ca_58 hF hS (spare_count_ok hS.stab rv_4 rv_8 hx_8) rfl rfl fun a w hF hS => step hF (Y.add hF rfl rfl) rfl fun a hF => step hF (Y.assign hF rfl) rfl fun a hF => nil (blk_n (then_n (⟨(wr (rv_7 + rv_8)), Dv_1, Stab.le.refl _, hF.weak (AF rfl), hS.weak ⟨rfl, rfl, trivial⟩, h⟩)))
   replace h := cond_f h hbv_5
   refine skip_ (blk_n (then_n (⟨best, Dv_1, Stab.le.refl _, hF.weak (AF rfl), hS.weak ⟨rfl, rfl, trivial⟩, h⟩)))
  rintro a w ⟨best_1, Dv_2, hlev_2, hF, hS, h⟩
  unfold spare_Pair_k2 at h
  refine region (step hF (Y.add hF rfl rfl) rfl fun a hF => step hF (Y.move hF rfl) rfl fun a hF => nT (⟨_, nxt_some h, best_1, (wr (v22_0 + 1)), Dv_2, rfl, hlev_1.trans hlev_2, hF.weak (AF rfl), hS.weak ⟨rfl, rfl, trivial⟩⟩))
 replace h := cond_f h hbv_1
 refine exit_ (then_x (then_x (blk_hit (then_n ?_))))
 replace h := ext_some h hxo
 refine seq (seq (region (step hF (Y.move hF rfl) rfl fun a hF => step hF (Y.eql hF rfl rfl) rfl fun a hF => nT (cond_b hF rfl (fun hbv_6 => ?_) (fun hbv_6 => ?_)))))
 ·replace h := cond_t h hbv_6
  refine seq (region (step hF (Y.assign hF rfl) rfl fun a hF => step hF (Y.assign hF rfl) rfl fun a hF => nT (ret_ (then_r ?_))))
  obtain rfl := some_inj h
  exact leaveP Tryd.results30 hF hS (.cons (.tmp rfl) (.cons (.tmp rfl) .nil)) .nil rfl
 replace h := cond_f h hbv_6
 refine skip_ (then_n (seq (region (step hF (Y.move hF rfl) rfl fun a hF => step hF (Y.assign hF rfl) rfl fun a hF => step hF (Y.assign hF rfl) rfl fun a hF => nT (ret_ ?_)))))
 obtain rfl := some_inj h
 exact leaveP Tryd.results30 hF hS (.cons (.tmp rfl) (.cons (.tmp rfl) .nil)) .nil rfl
noncomputable def slices_IndexFunc___int_int__b1 (sv : (List Int)) (f : (Int → Option Bool)) : (Int × Int) → Option ((Int × Int) ⊕ Int)
 | (v4_0, v8_0) =>
  cond (decide (v8_0 < (sv.length : Int)))
  ((idx sv v8_0).bind fun e =>
  (f e).bind fun rv =>
  cond rv
  (ext (some v8_0))
  (nxt (v4_0, wr (v8_0 + 1))))
  (ext (some (-1)))
noncomputable def slices_IndexFunc___int_int_ (sv : (List Int)) (f : (Int → Option Bool)) : Option Int :=
  loopU (slices_IndexFunc___int_int__b1 sv f) (0, 0)
theorem slices_IndexFunc___int_int__ok {w0 : World} {D0 : Stab} (hD : D0.on w0) (sv : (List Int)) (f : (Int → Option Bool)) {p : Option Addr} {c : Nat} {fid : FuncId} {first : List Value} {cap : List Value} (hs : SRc C_int D0 sv p c) (hf : FnOk_93 w0 D0 fid first cap f) (out : Int) (h : slices_IndexFunc___int_int_ sv f = some out) : Calls Tryd.prog 75 [.slice p sv.length c, .func (.func fid) first.toArray cap.toArray].toArray w0 (RetP D0 w0 (iv out)) := by
 refine enter _ 19 Tryd.func75 rfl Tryd.ntmps75 rfl fun a hF => ?_
 replace hF : Frm 19 [] [(0, .slice p sv.length c), (1, .func (.func fid) first.toArray cap.toArray)] a := hF
 have hS := St.start hD
 unfold slices_IndexFunc___int_int_ at h
 refine seq (region (step hF (Y.assign hF rfl) rfl fun a hF => nT (seq (seq (region (step hF (Y.move hF rfl) rfl fun a hF => step hF (Y.lenSl u_39 hF rfl) rfl fun a hF => step hF (Y.move hF rfl) rfl fun a hF => nT (block (loop_cut (body := slices_IndexFunc___int_int__b1 sv f) (out := out) (fun s a w => ∃ (v4_0 : Int) (v8_0 : Int), ∃ (Dv : Stab), s = (v4_0, v8_0) ∧ D0.le Dv ∧ Frm 19 [] [(0, .slice p sv.length c), (1, .func (.func fid) first.toArray cap.toArray), (4, iv v4_0), (7, iv (sv.length : Int)), (8, iv v8_0)] a ∧ St w0 D0 Dv [] w) (0, 0) h ⟨0, 0, D0, rfl, Stab.le.refl _, hF.weak (AF rfl), hS.weak trivial⟩ ?_))))))))
 rintro s a w xo ⟨v4_0, v8_0, Dv, rfl, hlev, hF, hS⟩ h hxo
 unfold slices_IndexFunc___int_int__b1 at h
 dsimp only at h
 replace hs := hs.mono hlev
 refine seq (region (step hF (Y.lss hF rfl rfl) rfl fun a hF => nT (seq (cond_b hF rfl (fun hbv => ?_) (fun hbv => ?_)))))
 ·replace h := cond_t h hbv
  refine skip_ (then_n (seq (block (seq (region (step hF (Y.move hF rfl) rfl fun a hF => step hF (Y.assign hF rfl) rfl fun a hF => nT (seq (region (step hF (Y.move hF rfl) rfl fun a hF => step hF (Y.move hF rfl) rfl fun a hF => step hF (Y.move hF rfl) rfl fun a hF => ?_)))))))))
  obtain ⟨e, hx, h⟩ := bind_some h
  obtain ⟨b, o, hE, hY⟩ := Y.indexS (P := Tryd.prog) (C := C_int) (xs := sv) (T := 39) (x := (.tmp 12)) (y := (.tmp 13)) u_39 sz_3 hF rfl rfl (hs).1 hx
  obtain ⟨cc, hc, hcell⟩ := hE.open
  obtain rfl := hc
  refine step hF (hY) rfl fun a hF => step hF (Y.load1 sz_3 hF rfl (hcell _ hS.stab 0 _ rfl)) rfl fun a hF => ?_
  obtain ⟨rv, hx_1, h⟩ := bind_some h
  refine O.callVP (f := fid) (first := first) (cap := cap) (us := [iv e]) hf.1 hF hS rfl rfl (hf.2 _ _ hS.below hS.le hS.stab e rv hx_1) rfl fun a w hF hS => nT (cond_b hF rfl (fun hbv_1 => ?_) (fun hbv_1 => ?_))
  ·replace h := cond_t h hbv_1
   refine seq (region (step hF (Y.move hF rfl) rfl fun a hF => step hF (Y.assign hF rfl) rfl fun a hF => nT (ret_ (blk_r (then_r (then_r (blk_r (then_r ?_))))))))
   replace h := ext_some h hxo
   obtain rfl := some_inj h
   exact leaveP Tryd.results75 hF hS (.cons (.tmp rfl) .nil) .nil rfl
  replace h := cond_f h hbv_1
  refine skip_ (blk_n (then_n (region (step hF (Y.add hF rfl rfl) rfl fun a hF => step hF (Y.move hF rfl) rfl fun a hF => nT (⟨_, nxt_some h, v4_0, (wr (v8_0 + 1)), Dv, rfl, hlev, hF.weak (AF rfl), hS.weak trivial⟩)))))
 replace h := cond_f h hbv
 refine exit_ (then_x (then_x (blk_hit (then_n ?_))))
 replace h := ext_some h hxo
 refine seq (region (step hF (Y.assign hF rfl) rfl fun a hF => nT (ret_ ?_)))
 obtain rfl := some_inj h
 exact leaveP Tryd.results75 hF hS (.cons (.tmp rfl) .nil) .nil rfl
noncomputable def slices_ContainsFunc___int_int_ (sv : (List Int)) (f : (Int → Option Bool)) : Option Bool :=
  (slices_IndexFunc___int_int_ sv f).bind fun rv =>
  some (decide (rv ≥ 0))
theorem slices_ContainsFunc___int_int__ok {w0 : World} {D0 : Stab} (hD : D0.on w0) (sv : (List Int)) (f : (Int → Option Bool)) {p : Option Addr} {c : Nat} {fid : FuncId} {first : List Value} {cap : List Value} (hs : SRc C_int D0 sv p c) (hf : FnOk_93 w0 D0 fid first cap f) (out : Bool) (h : slices_ContainsFunc___int_int_ sv f = some out) : Calls Tryd.prog 66 [.slice p sv.length c, .func (.func fid) first.toArray cap.toArray].toArray w0 (RetP D0 w0 (.bool out)) := by
 refine enter _ 9 Tryd.func66 rfl Tryd.ntmps66 rfl fun a hF => ?_
 replace hF : Frm 9 [] [(0, .slice p sv.length c), (1, .func (.func fid) first.toArray cap.toArray)] a := hF
 have hS := St.start hD
 unfold slices_ContainsFunc___int_int_ at h
 refine seq (region (step hF (Y.assign hF rfl) rfl fun a hF => nT (seq (region (step hF (Y.move hF rfl) rfl fun a hF => step hF (Y.move hF rfl) rfl fun a hF => ?_)))))
 obtain ⟨rv, hx, h⟩ := bind_some h
 refine O.callP (us := [.slice p sv.length c, .func (.func fid) first.toArray cap.toArray]) ca_75 hF hS (slices_IndexFunc___int_int__ok hS.stab sv f hs (show FnOk_93 _ _ fid first cap f from ⟨hf.1, fun w D hb hle hon => hf.2 w D (hS.below.trans (hb.mono hS.below.size)) (hS.le.trans hle) hon⟩) rv hx) rfl rfl fun a w hF hS => step hF (Y.geq hF rfl rfl) rfl fun a hF => step hF (Y.assign hF rfl) rfl fun a hF => nT (ret_ ?_)
 obtain rfl := some_inj h
 exact leaveP Tryd.results66 hF hS (.cons (.tmp rfl) .nil) .nil rfl
noncomputable def spare_Silent_1 (n : Int) : Option Bool :=
  (spare_lies n 0 500).bind fun rv =>
  some (!rv)
theorem spare_Silent_1_ok {w0 : World} {D0 : Stab} (hD : D0.on w0) (n : Int) (out : Bool) (h : spare_Silent_1 n = some out) : Calls Tryd.prog 67 [iv n].toArray w0 (RetP D0 w0 (.bool out)) := by
 refine enter _ 6 Tryd.func67 rfl Tryd.ntmps67 rfl fun a hF => ?_
 replace hF : Frm 6 [] [(0, iv n)] a := hF
 have hS := St.start hD
 unfold spare_Silent_1 at h
 refine seq (region (step hF (Y.assign hF rfl) rfl fun a hF => nT (seq (region (step hF (Y.move hF rfl) rfl fun a hF => ?_)))))
 obtain ⟨rv, hx, h⟩ := bind_some h
 refine O.callP (us := [iv n, iv 0, iv 500]) ca_48 hF hS (spare_lies_ok hS.stab n 0 500 rv hx) rfl rfl fun a w hF hS => step hF (Y.not hF rfl) rfl fun a hF => step hF (Y.assign hF rfl) rfl fun a hF => nT (ret_ ?_)
 obtain rfl := some_inj h
 exact leaveP Tryd.results67 hF hS (.cons (.tmp rfl) .nil) .nil rfl
noncomputable def spare_Silent_k2 (plan : (List SpareTurn)) (lives : (List Int)) (outv : (List Int)) (v37_0 : Int) (turn_1 : Int) : Option (((List Int) × Int × Int) ⊕ ((List Int) × Int)) :=
  (idx plan turn_1).bind fun e =>
  (idx lives turn_1).bind fun e_1 =>
  (spare_lies v37_0 e.Start (wr ((wr (e.Start + e_1)) - 1))).bind fun rv_3 =>
  cond (!rv_3)
  (if outv.length + ([v37_0]).length ≤ lim then
  nxt ((outv ++ [v37_0]), turn_1, wr (v37_0 + 1))
  else none)
  (nxt (outv, turn_1, wr (v37_0 + 1)))
noncomputable def spare_Silent_b1 (sv : SpareStore) (plan : (List SpareTurn)) (lives : (List Int)) : ((List Int) × Int × Int) → Option (((List Int) × Int × Int) ⊕ ((List Int) × Int))
 | (outv, turn, v37_0) =>
  cond (decide (v37_0 < sv.Hours))
  ((cond (decide ((wr (turn + 1)) < (plan.length : Int))) ((idx plan (wr (turn + 1))).bind fun e_2 =>
  some (decide (e_2.Over ≤ v37_0))) (some false)).bind fun t_1 =>
  cond t_1
  (spare_Silent_k2 plan lives outv v37_0 (wr (turn + 1)))
  (spare_Silent_k2 plan lives outv v37_0 turn))
  (ext (some (outv, 0)))
noncomputable def spare_Silent (sv : SpareStore) (plan : (List SpareTurn)) (lives : (List Int)) : Option ((List Int) × Int) :=
  (spare_Check sv).bind fun rv =>
  cond (rv != 0)
  (some (([] : List Int), rv))
  ((spare_isPlan sv plan sv.Hours).bind fun rv_1 =>
  (cond ((!rv_1) || ((lives.length : Int) != (plan.length : Int))) (some true) ((slices_ContainsFunc___int_int_ lives (fun q_z => spare_Silent_1 q_z)).bind fun rv_2 =>
  some rv_2)).bind fun t =>
  cond t
  (some (([] : List Int), 81))
  (loopU (spare_Silent_b1 sv plan lives) (([] : List Int), 0, 0)))
theorem spare_Silent_ok {w0 : World} {D0 : Stab} (hD : D0.on w0) (sv : SpareStore) (plan : (List SpareTurn)) (lives : (List Int)) {p : Option Addr} {c : Nat} {p_1 : Option Addr} {c_1 : Nat} {p_2 : Option Addr} {c_2 : Nat} (hs : SRc C_SpareMachine D0 sv.Machines p c) (hs_1 : SRc C_SpareTurn D0 plan p_1 c_1) (hs_2 : SRc C_int D0 lives p_2 c_2) (out : ((List Int) × Int)) (h : spare_Silent sv plan lives = some out) : Calls Tryd.prog 32 [.agg #[iv sv.Hours, iv sv.Gap, .slice p sv.Machines.length c], .slice p_1 plan.length c_1, .slice p_2 lives.length c_2].toArray w0 (RetS D0 w0 fun D v => ∃ p_6 c_6, v = .tuple #[.slice p_6 out.1.length c_6, iv out.2] ∧ SRc C_int D out.1 p_6 c_6) := by
 refine enter _ 85 Tryd.func32 rfl Tryd.ntmps32 rfl fun a hF => ?_
 replace hF : Frm 85 [] [(0, .agg #[iv sv.Hours, iv sv.Gap, .slice p sv.Machines.length c]), (1, .slice p_1 plan.length c_1), (2, .slice p_2 lives.length c_2)] a := hF
 have hS := St.start hD
 unfold spare_Silent at h
 refine seq (region (O.box (cs := [iv sv.Hours, iv sv.Gap, .slice p sv.Machines.length c]) 1 hF rfl rfl hS rfl fun b a w hF hS => step hF (Y.assign hF rfl) rfl fun a hF => step hF (Y.assign hF rfl) rfl fun a hF => nT (seq (seq (region (step hF (Y.loadNL 1 sz_24 hF rfl hS rfl rfl rfl) rfl fun a hF => ?_))))))
 obtain ⟨rv, hx, h⟩ := bind_some h
 refine O.callP (us := [.agg #[iv sv.Hours, iv sv.Gap, .slice p sv.Machines.length c]]) ca_17 hF hS (spare_Check_ok hS.stab sv hs rv hx) rfl rfl fun a w hF hS => step hF (Y.assign hF rfl) rfl fun a hF => nT (seq (region (step hF (Y.move hF rfl) rfl fun a hF => step hF (Y.neq hF rfl rfl) rfl fun a hF => nT (cond_b hF rfl (fun hbv => ?_) (fun hbv => ?_)))))
 ·replace h := cond_t h hbv
  refine seq (region (step hF (Y.move hF rfl) rfl fun a hF => step hF (Y.assign hF rfl) rfl fun a hF => step hF (Y.assign hF rfl) rfl fun a hF => nT (ret_ (then_r ?_))))
  obtain rfl := some_inj h
  exact leaveS Tryd.results32 hF hS (.cons (.tmp rfl) (.cons (.tmp rfl) .nil)) .nil ⟨_, _, rfl, SRc.nil⟩
 replace h := cond_f h hbv
 refine skip_ (then_n (seq (seq (region (step hF (Y.loadNL 1 sz_24 hF rfl hS rfl rfl rfl) rfl fun a hF => step hF (Y.move hF rfl) rfl fun a hF => step hF (Y.fieldAddr fo_24_0 hF rfl) rfl fun a hF => step hF (Y.load1L 1 sz_3 hF rfl hS rfl rfl) rfl fun a hF => ?_)))))
 obtain ⟨rv_1, hx_1, h⟩ := bind_some h
 refine O.callP (us := [.agg #[iv sv.Hours, iv sv.Gap, .slice p sv.Machines.length c], .slice p_1 plan.length c_1, iv sv.Hours]) ca_53 hF hS (spare_isPlan_ok hS.stab sv plan sv.Hours hs hs_1 rv_1 hx_1) rfl rfl fun a w hF hS => step hF (Y.not hF rfl) rfl fun a hF => step hF (Y.move hF rfl) rfl fun a hF => join (N := 85) (rs := []) (w0 := w0) (D0 := D0) 6 (us := [(1, .slice p_1 plan.length c_1), (2, .slice p_2 lives.length c_2), (3, .pointer (some ⟨b, 0, none⟩)), (6, .slice none 0 0), (7, iv 0), (30, .bool ((!rv_1) || ((lives.length : Int) != (plan.length : Int))))]) (ms := [(1, .cells b [iv sv.Hours, iv sv.Gap, .slice p sv.Machines.length c] 24)]) (D' := D0) ?_ ?_
 ·rcases bcases (!rv_1) with hbv_1 | hbv_1
  ·skip
   refine guard_off hF rfl rfl hbv_1 rfl fun a hF => guard_off hF rfl rfl hbv_1 rfl fun a hF => guard_off hF rfl rfl hbv_1 rfl fun a hF => guard_off hF rfl rfl hbv_1 rfl fun a hF => guard_off hF rfl rfl hbv_1 rfl fun a hF => step hF (Y.pick_t hF rfl hbv_1 rfl) rfl fun a hF => nT ⟨hF.weak ⟨rfl, rfl, rfl, rfl, rfl, (by rw [hbv_1]; rfl), trivial⟩, hS.weak ⟨rfl, trivial⟩⟩
  refine guard_on hF rfl rfl hbv_1 (step hF (Y.move hF rfl) rfl fun a hF => guard_on hF rfl rfl hbv_1 (step hF (Y.lenSl u_39 hF rfl) rfl fun a hF => guard_on hF rfl rfl hbv_1 (step hF (Y.move hF rfl) rfl fun a hF => guard_on hF rfl rfl hbv_1 (step hF (Y.lenSl u_25 hF rfl) rfl fun a hF => guard_on hF rfl rfl hbv_1 (step hF (Y.neq hF rfl rfl) rfl fun a hF => step hF (Y.pick_f hF rfl hbv_1 rfl) rfl fun a hF => nT ⟨hF.weak ⟨rfl, rfl, rfl, rfl, rfl, (by rw [hbv_1]; rfl), trivial⟩, hS.weak ⟨rfl, trivial⟩⟩)))))
 intro a w hF hS
 refine step hF (Y.move hF rfl) rfl fun a hF => ?_
 obtain ⟨t, ht, h⟩ := bind_some h
 refine join (N := 85) (rs := []) (w0 := w0) (D0 := D0) 3 (us := [(1, .slice p_1 plan.length c_1), (2, .slice p_2 lives.length c_2), (3, .pointer (some ⟨b, 0, none⟩)), (6, .slice none 0 0), (7, iv 0), (34, .bool t)]) (ms := [(1, .cells b [iv sv.Hours, iv sv.Gap, .slice p sv.Machines.length c] 24)]) (D' := D0) ?_ ?_
 ·rcases bcases ((!rv_1) || ((lives.length : Int) != (plan.length : Int))) with hbv_2 | hbv_2
  ·skip
   replace h := cond_t ht hbv_2
   refine guard_off hF rfl rfl hbv_2 rfl fun a hF => guard_off hF rfl rfl hbv_2 rfl fun a hF => step hF (Y.pick_t hF rfl hbv_2 rfl) rfl fun a hF => ?_
   obtain rfl := some_inj h
   exact nT ⟨hF.weak (AF rfl), hS.weak ⟨rfl, trivial⟩⟩
  replace h := cond_f ht hbv_2
  refine guard_on hF rfl rfl hbv_2 (step hF (Y.move hF rfl) rfl fun a hF => guard_on hF rfl rfl hbv_2 ?_)
  obtain ⟨rv_2, hx_2, h⟩ := bind_some h
  refine O.callP (us := [.slice p_2 lives.length c_2, .func (.func 67) #[] #[]]) ca_66 hF hS (slices_ContainsFunc___int_int__ok hS.stab lives (fun q_z => spare_Silent_1 q_z) hs_2 (show FnOk_93 _ _ 67 [] [] (fun q_z => spare_Silent_1 q_z) from ⟨ca_67, fun w D hb hle hon q_z r h => spare_Silent_1_ok hon q_z r h⟩) rv_2 hx_2) rfl rfl fun a w hF hS => step hF (Y.pick_f hF rfl hbv_2 rfl) rfl fun a hF => ?_
  obtain rfl := some_inj h
  exact nT ⟨hF.weak (AF rfl), hS.weak ⟨rfl, trivial⟩⟩
 intro a w hF hS
 refine nT (cond_b hF rfl (fun hbv_3 => ?_) (fun hbv_3 => ?_))
 ·replace h := cond_t h hbv_3
  refine seq (region (step hF (Y.assign hF rfl) rfl fun a hF => step hF (Y.assign hF rfl) rfl fun a hF => nT (ret_ (then_r ?_))))
  obtain rfl := some_inj h
  exact leaveS Tryd.results32 hF hS (.cons (.tmp rfl) (.cons (.tmp rfl) .nil)) .nil ⟨_, _, rfl, SRc.nil⟩
 replace h := cond_f h hbv_3
 refine skip_ (then_n (seq (region (step hF (Y.assign hF rfl) rfl fun a hF => ?_))))
 replace hS := hS.ownNil 2 3 1
 refine nT (seq (region (step hF (Y.assign hF rfl) rfl fun a hF => nT (seq (seq (region (step hF (Y.fieldAddr fo_24_0 hF rfl) rfl fun a hF => step hF (Y.load1L 1 sz_3 hF rfl hS rfl rfl) rfl fun a hF => step hF (Y.move hF rfl) rfl fun a hF => nT (block (loop_cut (body := spare_Silent_b1 sv plan lives) (out := out) (fun s a w => ∃ (outv : (List Int)) (turn : Int) (v37_0 : Int), ∃ p_3 c_3 cs, s = (outv, turn, v37_0) ∧ Frm 85 [] [(1, .slice p_1 plan.length c_1), (2, .slice p_2 lives.length c_2), (6, .slice none 0 0), (7, iv 0), (9, .slice p_3 outv.length c_3), (10, iv turn), (36, iv sv.Hours), (37, iv v37_0)] a ∧ St w0 D0 D0 [(1, .cells b [iv sv.Hours, iv sv.Gap, .slice p sv.Machines.length c] 24), (2, .own p_3 outv.length c_3 cs 3 1)] w ∧ Reps C_int D0 outv cs) (([] : List Int), 0, 0) h ⟨([] : List Int), 0, 0, none, 0, ([]), rfl, hF.weak (AF rfl), hS.weak ⟨rfl, rfl, trivial⟩, Reps.nil⟩ ?_)))))))))
 rintro s a w xo ⟨outv, turn, v37_0, p_3, c_3, cs, rfl, hF, hS, hr⟩ h hxo
 unfold spare_Silent_b1 at h
 dsimp only at h
 refine seq (region (step hF (Y.lss hF rfl rfl) rfl fun a hF => nT (seq (cond_b hF rfl (fun hbv_4 => ?_) (fun hbv_4 => ?_)))))
 ·replace h := cond_t h hbv_4
  refine skip_ (then_n (seq (block (seq (region (step hF (Y.move hF rfl) rfl fun a hF => step hF (Y.assign hF rfl) rfl fun a hF => nT (seq_cut (fun a w => ∃ (turn_1 : Int), Frm 85 [] [(1, .slice p_1 plan.length c_1), (2, .slice p_2 lives.length c_2), (6, .slice none 0 0), (7, iv 0), (9, .slice p_3 outv.length c_3), (10, iv turn_1), (11, iv v37_0), (36, iv sv.Hours), (37, iv v37_0)] a ∧ St w0 D0 D0 [(1, .cells b [iv sv.Hours, iv sv.Gap, .slice p sv.Machines.length c] 24), (2, .own p_3 outv.length c_3 cs 3 1)] w ∧ spare_Silent_k2 plan lives outv v37_0 turn_1 = some xo) ?_ ?_)))))))
  ·skip
   refine seq (region (step hF (Y.move hF rfl) rfl fun a hF => step hF (Y.add hF rfl rfl) rfl fun a hF => step hF (Y.move hF rfl) rfl fun a hF => step hF (Y.lenSl u_25 hF rfl) rfl fun a hF => step hF (Y.lss hF rfl rfl) rfl fun a hF => step hF (Y.move hF rfl) rfl fun a hF => ?_))
   obtain ⟨t_1, ht_1, h⟩ := bind_some h
   refine join (N := 85) (rs := []) (w0 := w0) (D0 := D0) 9 (us := [(1, .slice p_1 plan.length c_1), (2, .slice p_2 lives.length c_2), (6, .slice none 0 0), (7, iv 0), (9, .slice p_3 outv.length c_3), (10, iv turn), (11, iv v37_0), (36, iv sv.Hours), (37, iv v37_0), (54, .bool t_1)]) (ms := [(1, .cells b [iv sv.Hours, iv sv.Gap, .slice p sv.Machines.length c] 24), (2, .own p_3 outv.length c_3 cs 3 1)]) (D' := D0) ?_ ?_
   ·rcases bcases (decide ((wr (turn + 1)) < (plan.length : Int))) with hbv_6 | hbv_6
    ·skip
     replace h := cond_t ht_1 hbv_6
     refine guard_on hF rfl rfl hbv_6 (step hF (Y.move hF rfl) rfl fun a hF => guard_on hF rfl rfl hbv_6 (step hF (Y.move hF rfl) rfl fun a hF => guard_on hF rfl rfl hbv_6 (step hF (Y.add hF rfl rfl) rfl fun a hF => ?_)))
     obtain ⟨e_2, hx_6, h⟩ := bind_some h
     obtain ⟨b_5, o_3, hE_3, hY_3⟩ := Y.indexS (P := Tryd.prog) (C := C_SpareTurn) (xs := plan) (T := 25) (x := (.tmp 46)) (y := (.tmp 48)) u_25 sz_46 hF rfl rfl (hs_1).1 hx_6
     obtain ⟨cc_3, hc_3, hcell_3⟩ := hE_3.open
     obtain rfl := C_SpareTurn.open hc_3
     refine guard_on hF rfl rfl hbv_6 (step hF (hY_3) rfl fun a hF => guard_on hF rfl rfl hbv_6 (step hF (Y.fieldAddr fo_46_2 hF rfl) rfl fun a hF => guard_on hF rfl rfl hbv_6 (step hF (Y.load1 sz_3 hF rfl (hcell_3 _ hS.stab 2 _ rfl)) rfl fun a hF => guard_on hF rfl rfl hbv_6 (step hF (Y.move hF rfl) rfl fun a hF => guard_on hF rfl rfl hbv_6 (step hF (Y.leq hF rfl rfl) rfl fun a hF => step hF (Y.pick_t hF rfl hbv_6 rfl) rfl fun a hF => ?_)))))
     obtain rfl := some_inj h
     exact nT ⟨hF.weak (AF rfl), hS.weak ⟨rfl, rfl, trivial⟩⟩
    replace h := cond_f ht_1 hbv_6
    refine guard_off hF rfl rfl hbv_6 rfl fun a hF => guard_off hF rfl rfl hbv_6 rfl fun a hF => guard_off hF rfl rfl hbv_6 rfl fun a hF => guard_off hF rfl rfl hbv_6 rfl fun a hF => guard_off hF rfl rfl hbv_6 rfl fun a hF => guard_off hF rfl rfl hbv_6 rfl fun a hF => guard_off hF rfl rfl hbv_6 rfl fun a hF => guard_off hF rfl rfl hbv_6 rfl fun a hF => step hF (Y.pick_f hF rfl hbv_6 rfl) rfl fun a hF => ?_
    obtain rfl := some_inj h
    exact nT ⟨hF.weak (AF rfl), hS.weak ⟨rfl, rfl, trivial⟩⟩
   intro a w hF hS
   refine nT (cond_b hF rfl (fun hbv_7 => ?_) (fun hbv_7 => ?_))
   ·replace h := cond_t h hbv_7
    refine region (step hF (Y.move hF rfl) rfl fun a hF => step hF (Y.add hF rfl rfl) rfl fun a hF => step hF (Y.assign hF rfl) rfl fun a hF => nT (⟨(wr (turn + 1)), hF.weak (AF rfl), hS.weak ⟨rfl, rfl, trivial⟩, h⟩))
   replace h := cond_f h hbv_7
   refine skip_ (then_n (⟨turn, hF.weak (AF rfl), hS.weak ⟨rfl, rfl, trivial⟩, h⟩))
  rintro a w ⟨turn_1, hF, hS, h⟩
  unfold spare_Silent_k2 at h
  refine seq (region (step hF (Y.move hF rfl) rfl fun a hF => step hF (Y.move hF rfl) rfl fun a hF => ?_))
  obtain ⟨e, hx_3, h⟩ := bind_some h
  obtain ⟨b_1, o, hE, hY⟩ := Y.indexS (P := Tryd.prog) (C := C_SpareTurn) (xs := plan) (T := 25) (x := (.tmp 57)) (y := (.tmp 58)) u_25 sz_46 hF rfl rfl (hs_1).1 hx_3
  obtain ⟨cc, hc, hcell⟩ := hE.open
  obtain rfl := C_SpareTurn.open hc
  refine step hF (hY) rfl fun a hF => step hF (Y.loadNE (o := o) (k := 0) sz_46 hF rfl (hcell _ hS.stab) rfl rfl) rfl fun a hF => O.alloc 3 zc_46 hF hS rfl fun b_2 a w hF hS => O.store (us := [iv e.Machine, iv e.Start, iv e.Over]) 3 sz_46 hF rfl rfl rfl rfl hS rfl rfl fun a w hF hS => nT (seq ?_)
  obtain ⟨e_1, hx_4, h⟩ := bind_some h
  refine drawsV 11 (.flt 0 (.flt 1 (.flt 2 (.flt 3 (.flt 4 (.flt 5 (.flt 6 (.flt 7 (.flt 8 (.flt 9 (.flt 10 .done))))))))))) mixed_ (by kernel_rfl) (fun w => St w0 D0 D0 [(1, .cells b [iv sv.Hours, iv sv.Gap, .slice p sv.Machines.length c] 24), (2, .own p_3 outv.length c_3 cs 3 1), (3, .cells b_2 [iv e.Machine, iv e.Start, iv e.Over] 46)] w) (fun a w => Frm 85 [] [(1, .slice p_1 plan.length c_1), (2, .slice p_2 lives.length c_2), (6, .slice none 0 0), (7, iv 0), (9, .slice p_3 outv.length c_3), (10, iv turn_1), (11, iv v37_0), (36, iv sv.Hours), (37, iv v37_0), (61, iv v37_0), (63, iv e.Start), (71, iv (wr ((wr (e.Start + e_1)) - 1)))] a ∧ St w0 D0 D0 [(1, .cells b [iv sv.Hours, iv sv.Gap, .slice p sv.Machines.length c] 24), (2, .own p_3 outv.length c_3 cs 3 1), (3, .cells b_2 [iv e.Machine, iv e.Start, iv e.Over] 46)] w) (hS.weak (ms := [(1, .cells b [iv sv.Hours, iv sv.Gap, .slice p sv.Machines.length c] 24), (2, .own p_3 outv.length c_3 cs 3 1), (3, .cells b_2 [iv e.Machine, iv e.Start, iv e.Over] 46)]) (AL rfl)).drew (fun _ _ _ _ h => h) ?_ ?_
  ·replace hS := hS.drew
   have hle0 := hS.le
   refine stepV (i := 0) rfl hF (fun w hS => Y.move hF rfl) rfl fun a hF => stepV (i := 1) rfl hF (fun w hS => Y.fieldAddr fo_46_1 hF rfl) rfl fun a hF => stepV (i := 2) rfl hF (fun w hS => Y.load1L 3 sz_3 hF rfl hS rfl rfl) rfl fun a hF => stepV (i := 3) rfl hF (fun w hS => Y.fieldAddr fo_46_1 hF rfl) rfl fun a hF => stepV (i := 4) rfl hF (fun w hS => Y.load1L 3 sz_3 hF rfl hS rfl rfl) rfl fun a hF => stepV (i := 5) rfl hF (fun w hS => Y.move hF rfl) rfl fun a hF => stepV (i := 6) rfl hF (fun w hS => Y.move hF rfl) rfl fun a hF => ?_
   obtain ⟨b_4, o_2, hE_2, hY_2⟩ := Y.indexS (P := Tryd.prog) (C := C_int) (xs := lives) (T := 39) (x := (.tmp 66)) (y := (.tmp 67)) u_39 sz_3 hF rfl rfl (hs_2).1 hx_4
   obtain ⟨cc_2, hc_2, hcell_2⟩ := hE_2.open
   obtain rfl := hc_2
   refine stepV (i := 7) rfl hF (fun w hS => hY_2) rfl fun a hF => stepV (i := 8) rfl hF (fun w hS => Y.load1 sz_3 hF rfl (hcell_2 _ hS.stab 0 _ rfl)) rfl fun a hF => stepV (i := 9) rfl hF (fun w hS => Y.add hF rfl rfl) rfl fun a hF => stepV (i := 10) rfl hF (fun w hS => Y.sub hF rfl rfl) rfl fun a hF => toTailV ⟨hF.weak (AF rfl), hS.weak (AL rfl)⟩
  rintro a w ⟨hF, hS⟩
  obtain ⟨rv_3, hx_5, h⟩ := bind_some h
  refine O.callP (us := [iv v37_0, iv e.Start, iv (wr ((wr (e.Start + e_1)) - 1))]) ca_48 hF hS (spare_lies_ok hS.stab v37_0 e.Start (wr ((wr (e.Start + e_1)) - 1)) rv_3 hx_5) rfl rfl fun a w hF hS => step hF (Y.not hF rfl) rfl fun a hF => nT (cond_b hF rfl (fun hbv_5 => ?_) (fun hbv_5 => ?_))
  ·replace h := cond_t h hbv_5
   refine region (step hF (Y.move hF rfl) rfl fun a hF => step hF (Y.move hF rfl) rfl fun a hF => ?_)
   have hr_1 : Reps C_int D0 [v37_0] [iv v37_0] := Reps.cons (C := C_int) (x := v37_0) (c := [iv v37_0]) (r := []) rfl (Reps.nil)
   refine O.buildSlice (E := 3) (C := C_int) (xs := [v37_0]) (cs := [iv v37_0]) (us := [iv v37_0]) (parts := [(0, (.tmp 75))]) 4 hF hS rfl (by kernel_rfl) hr_1 rfl rfl rfl fun p_4 c_4 a w hF hS => ?_
   obtain ⟨hg, h⟩ := ite_some h
   refine O.append (C := C_int) (xs := outv) (ys := [v37_0]) 2 gr_39 hF rfl rfl hS rfl (src_own (i := 4) hS rfl) hr hr_1 hg rfl fun p_5 c_5 a w hF hS hr_2 => step hF (Y.assign hF rfl) rfl fun a hF => nil (blk_n (then_n (region (step hF (Y.add hF rfl rfl) rfl fun a hF => step hF (Y.move hF rfl) rfl fun a hF => nT (⟨_, nxt_some h, (outv ++ [v37_0]), turn_1, (wr (v37_0 + 1)), p_5, c_5, (cs ++ [iv v37_0]), rfl, hF.weak (AF rfl), hS.weak ⟨rfl, rfl, trivial⟩, hr_2⟩)))))
  replace h := cond_f h hbv_5
  refine skip_ (blk_n (then_n (region (step hF (Y.add hF rfl rfl) rfl fun a hF => step hF (Y.move hF rfl) rfl fun a hF => nT (⟨_, nxt_some h, outv, turn_1, (wr (v37_0 + 1)), p_3, c_3, cs, rfl, hF.weak (AF rfl), hS.weak ⟨rfl, rfl, trivial⟩, hr⟩)))))
 replace h := cond_f h hbv_4
 refine exit_ (then_x (then_x (blk_hit (then_n ?_))))
 replace h := ext_some h hxo
 refine seq (region (step hF (Y.move hF rfl) rfl fun a hF => step hF (Y.move hF rfl) rfl fun a hF => step hF (Y.lenSl u_39 hF rfl) rfl fun a hF => step hF (Y.move hF rfl) rfl fun a hF => step hF (Y.lenSl u_39 hF rfl) rfl fun a hF => step hF (Y.slice3 u_39 sz_3 hF rfl rfl rfl (own_cap (i := 2) hS rfl)) rfl fun a hF => step hF (Y.assign hF rfl) rfl fun a hF => step hF (Y.assign hF rfl) rfl fun a hF => nT (ret_ ?_)))
 obtain ⟨Dv, hlev, hs_3, hS⟩ := hS.freezeC (C := C_int) (i := 2) (xs := outv) rfl hr
 obtain rfl := some_inj h
 exact leaveS Tryd.results32 hF hS (.cons (.tmp rfl) (.cons (.tmp rfl) .nil)) .nil ⟨_, _, rfl, (⟨hs_3.1, Nat.le_refl _⟩ : SRc _ _ _ _ _)⟩
noncomputable def remontoirlaw08_store (hours : Int) : Option SpareStore :=
  (r0To 12 20).bind fun rv =>
  (r0To 9 30).bind fun rv_1 =>
  (r0To 10 10).bind fun rv_2 =>
  some (SpareStore.mk hours 10 ([(SpareMachine.mk (-10) 2 rv 1), (SpareMachine.mk 5 3 rv_1 0), (SpareMachine.mk (-4) 4 rv_2 3)]))
theorem remontoirlaw08_store_ok {w0 : World} {D0 : Stab} (hD : D0.on w0) (hours : Int) (out : SpareStore) (h : remontoirlaw08_store hours = some out) : Calls Tryd.prog 46 [iv hours].toArray w0 (RetS D0 w0 fun D v => ∃ p_1 c_1, v = .agg #[iv out.Hours, iv out.Gap, .slice p_1 out.Machines.length c_1] ∧ SRc C_SpareMachine D out.Machines p_1 c_1) := by
 refine enter _ 12 Tryd.func46 rfl Tryd.ntmps46 rfl fun a hF => ?_
 replace hF : Frm 12 [] [(0, iv hours)] a := hF
 have hS := St.start hD
 unfold remontoirlaw08_store at h
 refine seq (region (O.alloc 1 zc_24 hF hS rfl fun b a w hF hS => nT (seq (region (step hF (Y.move hF rfl) rfl fun a hF => ?_)))))
 obtain ⟨rv, hx, h⟩ := bind_some h
 refine O.callP (us := [iv 12, iv 20]) ca_39 hF hS (r0To_ok hS.stab 12 20 rv hx) rfl rfl fun a w hF hS => step hF (Y.build (parts := [(0, (.const (iv (-10)))), (1, (.const (iv 2))), (2, (.tmp 4)), (3, (.const (iv 1)))]) (cs := #[iv (-10), iv 2, iv rv.Low, iv rv.High, iv 1]) hF rfl (by kernel_rfl)) rfl fun a hF => ?_
 obtain ⟨rv_1, hx_1, h⟩ := bind_some h
 refine O.callP (us := [iv 9, iv 30]) ca_39 hF hS (r0To_ok hS.stab 9 30 rv_1 hx_1) rfl rfl fun a w hF hS => step hF (Y.build (parts := [(0, (.const (iv 5))), (1, (.const (iv 3))), (2, (.tmp 6))]) (cs := #[iv 5, iv 3, iv rv_1.Low, iv rv_1.High, iv 0]) hF rfl (by kernel_rfl)) rfl fun a hF => ?_
 obtain ⟨rv_2, hx_2, h⟩ := bind_some h
 refine O.callP (us := [iv 10, iv 10]) ca_39 hF hS (r0To_ok hS.stab 10 10 rv_2 hx_2) rfl rfl fun a w hF hS => step hF (Y.build (parts := [(0, (.const (iv (-4)))), (1, (.const (iv 4))), (2, (.tmp 8)), (3, (.const (iv 3)))]) (cs := #[iv (-4), iv 4, iv rv_2.Low, iv rv_2.High, iv 3]) hF rfl (by kernel_rfl)) rfl fun a hF => ?_
 have hr : Reps C_SpareMachine D0 [(SpareMachine.mk (-10) 2 rv 1), (SpareMachine.mk 5 3 rv_1 0), (SpareMachine.mk (-4) 4 rv_2 3)] [iv (-10), iv 2, iv rv.Low, iv rv.High, iv 1, iv 5, iv 3, iv rv_1.Low, iv rv_1.High, iv 0, iv (-4), iv 4, iv rv_2.Low, iv rv_2.High, iv 3] := Reps.cons (C := C_SpareMachine) (x := (SpareMachine.mk (-10) 2 rv 1)) (c := [iv (-10), iv 2, iv rv.Low, iv rv.High, iv 1]) (r := [iv 5, iv 3, iv rv_1.Low, iv rv_1.High, iv 0, iv (-4), iv 4, iv rv_2.Low, iv rv_2.High, iv 3]) rfl (Reps.cons (C := C_SpareMachine) (x := (SpareMachine.mk 5 3 rv_1 0)) (c := [iv 5, iv 3, iv rv_1.Low, iv rv_1.High, iv 0]) (r := [iv (-4), iv 4, iv rv_2.Low, iv rv_2.High, iv 3]) rfl (Reps.cons (C := C_SpareMachine) (x := (SpareMachine.mk (-4) 4 rv_2 3)) (c := [iv (-4), iv 4, iv rv_2.Low, iv rv_2.High, iv 3]) (r := []) rfl (Reps.nil)))
 refine O.buildSlice (E := 52) (C := C_SpareMachine) (xs := [(SpareMachine.mk (-10) 2 rv 1), (SpareMachine.mk 5 3 rv_1 0), (SpareMachine.mk (-4) 4 rv_2 3)]) (cs := [iv (-10), iv 2, iv rv.Low, iv rv.High, iv 1, iv 5, iv 3, iv rv_1.Low, iv rv_1.High, iv 0, iv (-4), iv 4, iv rv_2.Low, iv rv_2.High, iv 3]) (us := [.agg #[iv (-10), iv 2, iv rv.Low, iv rv.High, iv 1], .agg #[iv 5, iv 3, iv rv_1.Low, iv rv_1.High, iv 0], .agg #[iv (-4), iv 4, iv rv_2.Low, iv rv_2.High, iv 3]]) (parts := [(0, (.tmp 5)), (1, (.tmp 7)), (2, (.tmp 9))]) 2 hF hS rfl (by kernel_rfl) hr rfl rfl rfl fun p c a w hF hS => step hF (Y.build (parts := [(0, (.tmp 3)), (1, (.const (iv 10))), (2, (.tmp 10))]) (cs := #[iv hours, iv 10, .slice p ([(SpareMachine.mk (-10) 2 rv 1), (SpareMachine.mk 5 3 rv_1 0), (SpareMachine.mk (-4) 4 rv_2 3)]).length c]) hF rfl (by kernel_rfl)) rfl fun a hF => O.store (us := [iv hours, iv 10, .slice p ([(SpareMachine.mk (-10) 2 rv 1), (SpareMachine.mk 5 3 rv_1 0), (SpareMachine.mk (-4) 4 rv_2 3)]).length c]) 1 sz_24 hF rfl rfl rfl rfl hS rfl rfl fun a w hF hS => nT (ret_ ?_)
 obtain ⟨Dv, hlev, hs, hS⟩ := hS.freezeC (C := C_SpareMachine) (i := 2) (xs := [(SpareMachine.mk (-10) 2 rv 1), (SpareMachine.mk 5 3 rv_1 0), (SpareMachine.mk (-4) 4 rv_2 3)]) rfl hr
 obtain rfl := some_inj h
 exact leaveS Tryd.results46 hF hS (.cons (.cellN 1 sz_24 rfl rfl rfl) .nil) .nil ⟨_, _, rfl, hs⟩
noncomputable def remontoirlaw08_turns : Option (List SpareTurn) :=
  some ([(SpareTurn.mk 0 (-2) 0), (SpareTurn.mk 1 7 10), (SpareTurn.mk 2 12 16)])
theorem remontoirlaw08_turns_ok {w0 : World} {D0 : Stab} (hD : D0.on w0) (out : (List SpareTurn)) (h : remontoirlaw08_turns = some out) : Calls Tryd.prog 47 [].toArray w0 (RetS D0 w0 fun D v => ∃ p_1 c_1, v = .slice p_1 out.length c_1 ∧ SRc C_SpareTurn D out p_1 c_1) := by
 refine enter _ 5 Tryd.func47 rfl Tryd.ntmps47 rfl fun a hF => ?_
 replace hF : Frm 5 [] [] a := hF
 have hS := St.start hD
 unfold remontoirlaw08_turns at h
 refine seq (region (step hF (Y.assign hF rfl) rfl fun a hF => nT (seq (region (step hF (Y.build (parts := [(0, (.const (iv 0))), (1, (.const (iv (-2))))]) (cs := #[iv 0, iv (-2), iv 0]) hF rfl (by kernel_rfl)) rfl fun a hF => step hF (Y.build (parts := [(0, (.const (iv 1))), (1, (.const (iv 7))), (2, (.const (iv 10)))]) (cs := #[iv 1, iv 7, iv 10]) hF rfl (by kernel_rfl)) rfl fun a hF => step hF (Y.build (parts := [(0, (.const (iv 2))), (1, (.const (iv 12))), (2, (.const (iv 16)))]) (cs := #[iv 2, iv 12, iv 16]) hF rfl (by kernel_rfl)) rfl fun a hF => ?_)))))
 have hr : Reps C_SpareTurn D0 [(SpareTurn.mk 0 (-2) 0), (SpareTurn.mk 1 7 10), (SpareTurn.mk 2 12 16)] [iv 0, iv (-2), iv 0, iv 1, iv 7, iv 10, iv 2, iv 12, iv 16] := Reps.cons (C := C_SpareTurn) (x := (SpareTurn.mk 0 (-2) 0)) (c := [iv 0, iv (-2), iv 0]) (r := [iv 1, iv 7, iv 10, iv 2, iv 12, iv 16]) rfl (Reps.cons (C := C_SpareTurn) (x := (SpareTurn.mk 1 7 10)) (c := [iv 1, iv 7, iv 10]) (r := [iv 2, iv 12, iv 16]) rfl (Reps.cons (C := C_SpareTurn) (x := (SpareTurn.mk 2 12 16)) (c := [iv 2, iv 12, iv 16]) (r := []) rfl (Reps.nil)))
 refine O.buildSlice (E := 46) (C := C_SpareTurn) (xs := [(SpareTurn.mk 0 (-2) 0), (SpareTurn.mk 1 7 10), (SpareTurn.mk 2 12 16)]) (cs := [iv 0, iv (-2), iv 0, iv 1, iv 7, iv 10, iv 2, iv 12, iv 16]) (us := [.agg #[iv 0, iv (-2), iv 0], .agg #[iv 1, iv 7, iv 10], .agg #[iv 2, iv 12, iv 16]]) (parts := [(0, (.tmp 1)), (1, (.tmp 2)), (2, (.tmp 3))]) 1 hF hS rfl (by kernel_rfl) hr rfl rfl rfl fun p c a w hF hS => step hF (Y.assign hF rfl) rfl fun a hF => nT (ret_ ?_)
 obtain ⟨Dv, hlev, hs, hS⟩ := hS.freezeC (C := C_SpareTurn) (i := 1) (xs := [(SpareTurn.mk 0 (-2) 0), (SpareTurn.mk 1 7 10), (SpareTurn.mk 2 12 16)]) rfl hr
 obtain rfl := some_inj h
 exact leaveS Tryd.results47 hF hS (.cons (.tmp rfl) .nil) .nil ⟨_, _, rfl, hs⟩
noncomputable def remontoirlaw08_works : Option Bool :=
  (remontoirlaw08_store 20).bind fun rv =>
  (spare_Lasts rv 2).bind fun rv_1 =>
  (remontoirlaw08_store 20).bind fun rv_2 =>
  (remontoirlaw08_turns).bind fun rv_3 =>
  (spare_IsPlan rv_2 rv_3).bind fun rv_4 =>
  (remontoirlaw08_store 20).bind fun rv_5 =>
  (spare_Fewest rv_5).bind fun rv_6 =>
  (remontoirlaw08_store 16).bind fun rv_7 =>
  (spare_Plan rv_7).bind fun rv_8 =>
  cond (((((((((rv_1.2.2 != 0) || (rv_4.2 != 0)) || (rv_6.2 != 0)) || (rv_8.2 != 0)) || (rv_1.1 != 3)) || (rv_1.2.1 != 6)) || (!rv_4.1)) || (rv_6.1 != 3)) || ((rv_8.1.length : Int) != 2))
  (some false)
  ((remontoirlaw08_store 20).bind fun rv_9 =>
  (spare_Reach rv_9).bind fun rv_10 =>
  (remontoirlaw08_store 20).bind fun rv_11 =>
  (spare_Need rv_11).bind fun rv_12 =>
  (remontoirlaw08_store 6).bind fun rv_13 =>
  (spare_Pair rv_13).bind fun rv_14 =>
  (remontoirlaw08_store 20).bind fun rv_15 =>
  (remontoirlaw08_turns).bind fun rv_16 =>
  (spare_Silent rv_15 rv_16 ([12, 8, 10])).bind fun rv_17 =>
  (cond (((((rv_10.2 == 0) && (rv_12.2 == 0)) && (rv_14.2 == 0)) && (rv_17.2 == 0)) && (rv_10.1 == 22)) ((r0Alike rv_12.1 ([0, 1, 2])).bind fun rv_18 =>
  some rv_18) (some false)).bind fun t =>
  (cond (t && (rv_14.1 == 2)) ((r0Alike rv_17.1 ([15])).bind fun rv_19 =>
  some rv_19) (some false)).bind fun t_1 =>
  some t_1)
theorem remontoirlaw08_works_ok {w0 : World} {D0 : Stab} (hD : D0.on w0) (hG : Glob D0) (out : Bool) (h : remontoirlaw08_works = some out) : Calls Tryd.prog 21 [].toArray w0 (RetP D0 w0 (.bool out)) := by
 refine enter _ 125 Tryd.func21 rfl Tryd.ntmps21 rfl fun a hF => ?_
 replace hF : Frm 125 [] [] a := hF
 have hS := St.start hD
 unfold remontoirlaw08_works at h
 refine seq (region (step hF (Y.assign hF rfl) rfl fun a hF => nT (seq (region ?_))))
 obtain ⟨rv, hx, h⟩ := bind_some h
 refine O.callS (us := [iv 20]) ca_46 hF hS (remontoirlaw08_store_ok hS.stab 20 rv hx) rfl rfl fun v Dv a w hR hlev hF hS => ?_
 replace hG := hG.mono hlev
 obtain ⟨p, c, rfl, hs⟩ := hR
 obtain ⟨rv_1, hx_1, h⟩ := bind_some h
 refine O.callP (us := [.agg #[iv rv.Hours, iv rv.Gap, .slice p rv.Machines.length c], iv 2]) ca_15 hF hS (spare_Lasts_ok hS.stab rv 2 hs hG rv_1 hx_1) rfl rfl fun a w hF hS => step hF (Y.move hF rfl) rfl fun a hF => step hF (Y.extract hF rfl rfl) rfl fun a hF => step hF (Y.extract hF rfl rfl) rfl fun a hF => step hF (Y.extract hF rfl rfl) rfl fun a hF => step hF (Y.assign hF rfl) rfl fun a hF => step hF (Y.assign hF rfl) rfl fun a hF => step hF (Y.assign hF rfl) rfl fun a hF => nT (seq (region ?_))
 obtain ⟨rv_2, hx_2, h⟩ := bind_some h
 refine O.callS (us := [iv 20]) ca_46 hF hS (remontoirlaw08_store_ok hS.stab 20 rv_2 hx_2) rfl rfl fun v_1 Dv_1 a w hR_1 hlev_1 hF hS => ?_
 replace hG := hG.mono hlev_1
 obtain ⟨p_1, c_1, rfl, hs_1⟩ := hR_1
 obtain ⟨rv_3, hx_3, h⟩ := bind_some h
 refine O.callS (us := []) ca_47 hF hS (remontoirlaw08_turns_ok hS.stab rv_3 hx_3) rfl rfl fun v_2 Dv_2 a w hR_2 hlev_2 hF hS => ?_
 replace hG := hG.mono hlev_2
 replace hs_1 := hs_1.mono hlev_2
 obtain ⟨p_2, c_2, rfl, hs_2⟩ := hR_2
 obtain ⟨rv_4, hx_4, h⟩ := bind_some h
 refine O.callP (us := [.agg #[iv rv_2.Hours, iv rv_2.Gap, .slice p_1 rv_2.Machines.length c_1], .slice p_2 rv_3.length c_2]) ca_19 hF hS (spare_IsPlan_ok hS.stab rv_2 rv_3 hs_1 hs_2 rv_4 hx_4) rfl rfl fun a w hF hS => step hF (Y.move hF rfl) rfl fun a hF => step hF (Y.extract hF rfl rfl) rfl fun a hF => step hF (Y.extract hF rfl rfl) rfl fun a hF => step hF (Y.assign hF rfl) rfl fun a hF => step hF (Y.assign hF rfl) rfl fun a hF => nT (seq (region ?_))
 obtain ⟨rv_5, hx_5, h⟩ := bind_some h
 refine O.callS (us := [iv 20]) ca_46 hF hS (remontoirlaw08_store_ok hS.stab 20 rv_5 hx_5) rfl rfl fun v_3 Dv_3 a w hR_3 hlev_3 hF hS => ?_
 replace hG := hG.mono hlev_3
 obtain ⟨p_3, c_3, rfl, hs_3⟩ := hR_3
 obtain ⟨rv_6, hx_6, h⟩ := bind_some h
 refine O.callP (us := [.agg #[iv rv_5.Hours, iv rv_5.Gap, .slice p_3 rv_5.Machines.length c_3]]) ca_22 hF hS (spare_Fewest_ok hS.stab rv_5 hs_3 hG rv_6 hx_6) rfl rfl fun a w hF hS => step hF (Y.move hF rfl) rfl fun a hF => step hF (Y.extract hF rfl rfl) rfl fun a hF => step hF (Y.extract hF rfl rfl) rfl fun a hF => step hF (Y.assign hF rfl) rfl fun a hF => step hF (Y.assign hF rfl) rfl fun a hF => nT (seq (region ?_))
 obtain ⟨rv_7, hx_7, h⟩ := bind_some h
 refine O.callS (us := [iv 16]) ca_46 hF hS (remontoirlaw08_store_ok hS.stab 16 rv_7 hx_7) rfl rfl fun v_4 Dv_4 a w hR_4 hlev_4 hF hS => ?_
 replace hG := hG.mono hlev_4
 obtain ⟨p_4, c_4, rfl, hs_4⟩ := hR_4
 obtain ⟨rv_8, hx_8, h⟩ := bind_some h
 refine O.callS (us := [.agg #[iv rv_7.Hours, iv rv_7.Gap, .slice p_4 rv_7.Machines.length c_4]]) ca_24 hF hS (spare_Plan_ok hS.stab rv_7 hs_4 hG rv_8 hx_8) rfl rfl fun v_5 Dv_5 a w hR_5 hlev_5 hF hS => ?_
 replace hG := hG.mono hlev_5
 obtain ⟨p_5, c_5, rfl, hs_5⟩ := hR_5
 refine step hF (Y.move hF rfl) rfl fun a hF => step hF (Y.extract hF rfl rfl) rfl fun a hF => step hF (Y.extract hF rfl rfl) rfl fun a hF => step hF (Y.assign hF rfl) rfl fun a hF => step hF (Y.assign hF rfl) rfl fun a hF => nT (seq (seq (region (step hF (Y.move hF rfl) rfl fun a hF => step hF (Y.neq hF rfl rfl) rfl fun a hF => step hF (Y.move hF rfl) rfl fun a hF => join (N := 125) (rs := []) (w0 := w0) (D0 := D0) 3 (us := [(0, .bool false), (1, iv rv_1.1), (2, iv rv_1.2.1), (3, iv rv_1.2.2), (4, .bool rv_4.1), (5, iv rv_4.2), (6, iv rv_6.1), (7, iv rv_6.2), (8, .slice p_5 rv_8.1.length c_5), (9, iv rv_8.2), (41, .bool ((rv_1.2.2 != 0) || (rv_4.2 != 0)))]) (ms := []) (D' := Dv_5) ?_ ?_))))
 ·rcases bcases (rv_1.2.2 != 0) with hbv | hbv
  ·skip
   refine guard_off hF rfl rfl hbv rfl fun a hF => guard_off hF rfl rfl hbv rfl fun a hF => step hF (Y.pick_t hF rfl hbv rfl) rfl fun a hF => nT ⟨hF.weak ⟨rfl, rfl, rfl, rfl, rfl, rfl, rfl, rfl, rfl, rfl, (by rw [hbv]; rfl), trivial⟩, hS.weak trivial⟩
  refine guard_on hF rfl rfl hbv (step hF (Y.move hF rfl) rfl fun a hF => guard_on hF rfl rfl hbv (step hF (Y.neq hF rfl rfl) rfl fun a hF => step hF (Y.pick_f hF rfl hbv rfl) rfl fun a hF => nT ⟨hF.weak ⟨rfl, rfl, rfl, rfl, rfl, rfl, rfl, rfl, rfl, rfl, (by rw [hbv]; rfl), trivial⟩, hS.weak trivial⟩))
 intro a w hF hS
 refine step hF (Y.move hF rfl) rfl fun a hF => join (N := 125) (rs := []) (w0 := w0) (D0 := D0) 3 (us := [(0, .bool false), (1, iv rv_1.1), (2, iv rv_1.2.1), (3, iv rv_1.2.2), (4, .bool rv_4.1), (5, iv rv_4.2), (6, iv rv_6.1), (7, iv rv_6.2), (8, .slice p_5 rv_8.1.length c_5), (9, iv rv_8.2), (45, .bool (((rv_1.2.2 != 0) || (rv_4.2 != 0)) || (rv_6.2 != 0)))]) (ms := []) (D' := Dv_5) ?_ ?_
 ·rcases bcases ((rv_1.2.2 != 0) || (rv_4.2 != 0)) with hbv_1 | hbv_1
  ·skip
   refine guard_off hF rfl rfl hbv_1 rfl fun a hF => guard_off hF rfl rfl hbv_1 rfl fun a hF => step hF (Y.pick_t hF rfl hbv_1 rfl) rfl fun a hF => nT ⟨hF.weak ⟨rfl, rfl, rfl, rfl, rfl, rfl, rfl, rfl, rfl, rfl, (by rw [hbv_1]; rfl), trivial⟩, hS.weak trivial⟩
  refine guard_on hF rfl rfl hbv_1 (step hF (Y.move hF rfl) rfl fun a hF => guard_on hF rfl rfl hbv_1 (step hF (Y.neq hF rfl rfl) rfl fun a hF => step hF (Y.pick_f hF rfl hbv_1 rfl) rfl fun a hF => nT ⟨hF.weak ⟨rfl, rfl, rfl, rfl, rfl, rfl, rfl, rfl, rfl, rfl, (by rw [hbv_1]; rfl), trivial⟩, hS.weak trivial⟩))
 intro a w hF hS
 refine step hF (Y.move hF rfl) rfl fun a hF => join (N := 125) (rs := []) (w0 := w0) (D0 := D0) 3 (us := [(0, .bool false), (1, iv rv_1.1), (2, iv rv_1.2.1), (3, iv rv_1.2.2), (4, .bool rv_4.1), (5, iv rv_4.2), (6, iv rv_6.1), (7, iv rv_6.2), (8, .slice p_5 rv_8.1.length c_5), (9, iv rv_8.2), (49, .bool ((((rv_1.2.2 != 0) || (rv_4.2 != 0)) || (rv_6.2 != 0)) || (rv_8.2 != 0)))]) (ms := []) (D' := Dv_5) ?_ ?_
 ·rcases bcases (((rv_1.2.2 != 0) || (rv_4.2 != 0)) || (rv_6.2 != 0)) with hbv_2 | hbv_2
  ·skip
   refine guard_off hF rfl rfl hbv_2 rfl fun a hF => guard_off hF rfl rfl hbv_2 rfl fun a hF => step hF (Y.pick_t hF rfl hbv_2 rfl) rfl fun a hF => nT ⟨hF.weak ⟨rfl, rfl, rfl, rfl, rfl, rfl, rfl, rfl, rfl, rfl, (by rw [hbv_2]; rfl), trivial⟩, hS.weak trivial⟩
  refine guard_on hF rfl rfl hbv_2 (step hF (Y.move hF rfl) rfl fun a hF => guard_on hF rfl rfl hbv_2 (step hF (Y.neq hF rfl rfl) rfl fun a hF => step hF (Y.pick_f hF rfl hbv_2 rfl) rfl fun a hF => nT ⟨hF.weak ⟨rfl, rfl, rfl, rfl, rfl, rfl, rfl, rfl, rfl, rfl, (by rw [hbv_2]; rfl), trivial⟩, hS.weak trivial⟩))
 intro a w hF hS
 refine step hF (Y.move hF rfl) rfl fun a hF => join (N := 125) (rs := []) (w0 := w0) (D0 := D0) 3 (us := [(0, .bool false), (2, iv rv_1.2.1), (3, iv rv_1.2.2), (4, .bool rv_4.1), (5, iv rv_4.2), (6, iv rv_6.1), (7, iv rv_6.2), (8, .slice p_5 rv_8.1.length c_5), (9, iv rv_8.2), (53, .bool (((((rv_1.2.2 != 0) || (rv_4.2 != 0)) || (rv_6.2 != 0)) || (rv_8.2 != 0)) || (rv_1.1 != 3)))]) (ms := []) (D' := Dv_5) ?_ ?_
 ·rcases bcases ((((rv_1.2.2 != 0) || (rv_4.2 != 0)) || (rv_6.2 != 0)) || (rv_8.2 != 0)) with hbv_3 | hbv_3
  ·skip
   refine guard_off hF rfl rfl hbv_3 rfl fun a hF => guard_off hF rfl rfl hbv_3 rfl fun a hF => step hF (Y.pick_t hF rfl hbv_3 rfl) rfl fun a hF => nT ⟨hF.weak ⟨rfl, rfl, rfl, rfl, rfl, rfl, rfl, rfl, rfl, (by rw [hbv_3]; rfl), trivial⟩, hS.weak trivial⟩
  refine guard_on hF rfl rfl hbv_3 (step hF (Y.move hF rfl) rfl fun a hF => guard_on hF rfl rfl hbv_3 (step hF (Y.neq hF rfl rfl) rfl fun a hF => step hF (Y.pick_f hF rfl hbv_3 rfl) rfl fun a hF => nT ⟨hF.weak ⟨rfl, rfl, rfl, rfl, rfl, rfl, rfl, rfl, rfl, (by rw [hbv_3]; rfl), trivial⟩, hS.weak trivial⟩))
 intro a w hF hS
 refine step hF (Y.move hF rfl) rfl fun a hF => join (N := 125) (rs := []) (w0 := w0) (D0 := D0) 3 (us := [(0, .bool false), (3, iv rv_1.2.2), (4, .bool rv_4.1), (5, iv rv_4.2), (6, iv rv_6.1), (7, iv rv_6.2), (8, .slice p_5 rv_8.1.length c_5), (9, iv rv_8.2), (57, .bool ((((((rv_1.2.2 != 0) || (rv_4.2 != 0)) || (rv_6.2 != 0)) || (rv_8.2 != 0)) || (rv_1.1 != 3)) || (rv_1.2.1 != 6)))]) (ms := []) (D' := Dv_5) ?_ ?_
 ·rcases bcases (((((rv_1.2.2 != 0) || (rv_4.2 != 0)) || (rv_6.2 != 0)) || (rv_8.2 != 0)) || (rv_1.1 != 3)) with hbv_4 | hbv_4
  ·skip
   refine guard_off hF rfl rfl hbv_4 rfl fun a hF => guard_off hF rfl rfl hbv_4 rfl fun a hF => step hF (Y.pick_t hF rfl hbv_4 rfl) rfl fun a hF => nT ⟨hF.weak ⟨rfl, rfl, rfl, rfl, rfl, rfl, rfl, rfl, (by rw [hbv_4]; rfl), trivial⟩, hS.weak trivial⟩
  refine guard_on hF rfl rfl hbv_4 (step hF (Y.move hF rfl) rfl fun a hF => guard_on hF rfl rfl hbv_4 (step hF (Y.neq hF rfl rfl) rfl fun a hF => step hF (Y.pick_f hF rfl hbv_4 rfl) rfl fun a hF => nT ⟨hF.weak ⟨rfl, rfl, rfl, rfl, rfl, rfl, rfl, rfl, (by rw [hbv_4]; rfl), trivial⟩, hS.weak trivial⟩))
 intro a w hF hS
 refine step hF (Y.move hF rfl) rfl fun a hF => join (N := 125) (rs := []) (w0 := w0) (D0 := D0) 3 (us := [(0, .bool false), (3, iv rv_1.2.2), (5, iv rv_4.2), (6, iv rv_6.1), (7, iv rv_6.2), (8, .slice p_5 rv_8.1.length c_5), (9, iv rv_8.2), (61, .bool (((((((rv_1.2.2 != 0) || (rv_4.2 != 0)) || (rv_6.2 != 0)) || (rv_8.2 != 0)) || (rv_1.1 != 3)) || (rv_1.2.1 != 6)) || (!rv_4.1)))]) (ms := []) (D' := Dv_5) ?_ ?_
 ·rcases bcases ((((((rv_1.2.2 != 0) || (rv_4.2 != 0)) || (rv_6.2 != 0)) || (rv_8.2 != 0)) || (rv_1.1 != 3)) || (rv_1.2.1 != 6)) with hbv_5 | hbv_5
  ·skip
   refine guard_off hF rfl rfl hbv_5 rfl fun a hF => guard_off hF rfl rfl hbv_5 rfl fun a hF => step hF (Y.pick_t hF rfl hbv_5 rfl) rfl fun a hF => nT ⟨hF.weak ⟨rfl, rfl, rfl, rfl, rfl, rfl, rfl, (by rw [hbv_5]; rfl), trivial⟩, hS.weak trivial⟩
  refine guard_on hF rfl rfl hbv_5 (step hF (Y.move hF rfl) rfl fun a hF => guard_on hF rfl rfl hbv_5 (step hF (Y.not hF rfl) rfl fun a hF => step hF (Y.pick_f hF rfl hbv_5 rfl) rfl fun a hF => nT ⟨hF.weak ⟨rfl, rfl, rfl, rfl, rfl, rfl, rfl, (by rw [hbv_5]; rfl), trivial⟩, hS.weak trivial⟩))
 intro a w hF hS
 refine step hF (Y.move hF rfl) rfl fun a hF => join (N := 125) (rs := []) (w0 := w0) (D0 := D0) 3 (us := [(0, .bool false), (3, iv rv_1.2.2), (5, iv rv_4.2), (7, iv rv_6.2), (8, .slice p_5 rv_8.1.length c_5), (9, iv rv_8.2), (65, .bool ((((((((rv_1.2.2 != 0) || (rv_4.2 != 0)) || (rv_6.2 != 0)) || (rv_8.2 != 0)) || (rv_1.1 != 3)) || (rv_1.2.1 != 6)) || (!rv_4.1)) || (rv_6.1 != 3)))]) (ms := []) (D' := Dv_5) ?_ ?_
 ·rcases bcases (((((((rv_1.2.2 != 0) || (rv_4.2 != 0)) || (rv_6.2 != 0)) || (rv_8.2 != 0)) || (rv_1.1 != 3)) || (rv_1.2.1 != 6)) || (!rv_4.1)) with hbv_6 | hbv_6
  ·skip
   refine guard_off hF rfl rfl hbv_6 rfl fun a hF => guard_off hF rfl rfl hbv_6 rfl fun a hF => step hF (Y.pick_t hF rfl hbv_6 rfl) rfl fun a hF => nT ⟨hF.weak ⟨rfl, rfl, rfl, rfl, rfl, rfl, (by rw [hbv_6]; rfl), trivial⟩, hS.weak trivial⟩
  refine guard_on hF rfl rfl hbv_6 (step hF (Y.move hF rfl) rfl fun a hF => guard_on hF rfl rfl hbv_6 (step hF (Y.neq hF rfl rfl) rfl fun a hF => step hF (Y.pick_f hF rfl hbv_6 rfl) rfl fun a hF => nT ⟨hF.weak ⟨rfl, rfl, rfl, rfl, rfl, rfl, (by rw [hbv_6]; rfl), trivial⟩, hS.weak trivial⟩))
 intro a w hF hS
 refine step hF (Y.move hF rfl) rfl fun a hF => join (N := 125) (rs := []) (w0 := w0) (D0 := D0) 4 (us := [(0, .bool false), (3, iv rv_1.2.2), (5, iv rv_4.2), (7, iv rv_6.2), (9, iv rv_8.2), (70, .bool (((((((((rv_1.2.2 != 0) || (rv_4.2 != 0)) || (rv_6.2 != 0)) || (rv_8.2 != 0)) || (rv_1.1 != 3)) || (rv_1.2.1 != 6)) || (!rv_4.1)) || (rv_6.1 != 3)) || ((rv_8.1.length : Int) != 2)))]) (ms := []) (D' := Dv_5) ?_ ?_
 ·rcases bcases ((((((((rv_1.2.2 != 0) || (rv_4.2 != 0)) || (rv_6.2 != 0)) || (rv_8.2 != 0)) || (rv_1.1 != 3)) || (rv_1.2.1 != 6)) || (!rv_4.1)) || (rv_6.1 != 3)) with hbv_7 | hbv_7
  ·skip
   refine guard_off hF rfl rfl hbv_7 rfl fun a hF => guard_off hF rfl rfl hbv_7 rfl fun a hF => guard_off hF rfl rfl hbv_7 rfl fun a hF => step hF (Y.pick_t hF rfl hbv_7 rfl) rfl fun a hF => nT ⟨hF.weak ⟨rfl, rfl, rfl, rfl, rfl, (by rw [hbv_7]; rfl), trivial⟩, hS.weak trivial⟩
  refine guard_on hF rfl rfl hbv_7 (step hF (Y.move hF rfl) rfl fun a hF => guard_on hF rfl rfl hbv_7 (step hF (Y.lenSl u_25 hF rfl) rfl fun a hF => guard_on hF rfl rfl hbv_7 (step hF (Y.neq hF rfl rfl) rfl fun a hF => step hF (Y.pick_f hF rfl hbv_7 rfl) rfl fun a hF => nT ⟨hF.weak ⟨rfl, rfl, rfl, rfl, rfl, (by rw [hbv_7]; rfl), trivial⟩, hS.weak trivial⟩)))
 intro a w hF hS
 refine nT (cond_b hF rfl (fun hbv_8 => ?_) (fun hbv_8 => ?_))
 ·replace h := cond_t h hbv_8
  refine seq (region (step hF (Y.assign hF rfl) rfl fun a hF => nT (ret_ (then_r ?_))))
  obtain rfl := some_inj h
  exact leaveP Tryd.results21 hF hS (.cons (.tmp rfl) .nil) .nil rfl
 replace h := cond_f h hbv_8
 refine skip_ (then_n (seq (region ?_)))
 obtain ⟨rv_9, hx_9, h⟩ := bind_some h
 refine O.callS (us := [iv 20]) ca_46 hF hS (remontoirlaw08_store_ok hS.stab 20 rv_9 hx_9) rfl rfl fun v_6 Dv_6 a w hR_6 hlev_6 hF hS => ?_
 replace hG := hG.mono hlev_6
 obtain ⟨p_6, c_6, rfl, hs_6⟩ := hR_6
 obtain ⟨rv_10, hx_10, h⟩ := bind_some h
 refine O.callP (us := [.agg #[iv rv_9.Hours, iv rv_9.Gap, .slice p_6 rv_9.Machines.length c_6]]) ca_25 hF hS (spare_Reach_ok hS.stab rv_9 hs_6 hG rv_10 hx_10) rfl rfl fun a w hF hS => step hF (Y.move hF rfl) rfl fun a hF => step hF (Y.extract hF rfl rfl) rfl fun a hF => step hF (Y.extract hF rfl rfl) rfl fun a hF => step hF (Y.assign hF rfl) rfl fun a hF => step hF (Y.assign hF rfl) rfl fun a hF => nT (seq (region ?_))
 obtain ⟨rv_11, hx_11, h⟩ := bind_some h
 refine O.callS (us := [iv 20]) ca_46 hF hS (remontoirlaw08_store_ok hS.stab 20 rv_11 hx_11) rfl rfl fun v_7 Dv_7 a w hR_7 hlev_7 hF hS => ?_
 replace hG := hG.mono hlev_7
 obtain ⟨p_7, c_7, rfl, hs_7⟩ := hR_7
 obtain ⟨rv_12, hx_12, h⟩ := bind_some h
 refine O.callS (us := [.agg #[iv rv_11.Hours, iv rv_11.Gap, .slice p_7 rv_11.Machines.length c_7]]) ca_27 hF hS (spare_Need_ok hS.stab rv_11 hs_7 hG rv_12 hx_12) rfl rfl fun v_8 Dv_8 a w hR_8 hlev_8 hF hS => ?_
 replace hG := hG.mono hlev_8
 obtain ⟨p_8, c_8, rfl, hs_8⟩ := hR_8
 refine step hF (Y.move hF rfl) rfl fun a hF => step hF (Y.extract hF rfl rfl) rfl fun a hF => step hF (Y.extract hF rfl rfl) rfl fun a hF => step hF (Y.assign hF rfl) rfl fun a hF => step hF (Y.assign hF rfl) rfl fun a hF => nT (seq (region ?_))
 obtain ⟨rv_13, hx_13, h⟩ := bind_some h
 refine O.callS (us := [iv 6]) ca_46 hF hS (remontoirlaw08_store_ok hS.stab 6 rv_13 hx_13) rfl rfl fun v_9 Dv_9 a w hR_9 hlev_9 hF hS => ?_
 replace hG := hG.mono hlev_9
 replace hs_8 := hs_8.mono hlev_9
 obtain ⟨p_9, c_9, rfl, hs_9⟩ := hR_9
 obtain ⟨rv_14, hx_14, h⟩ := bind_some h
 refine O.callP (us := [.agg #[iv rv_13.Hours, iv rv_13.Gap, .slice p_9 rv_13.Machines.length c_9]]) ca_30 hF hS (spare_Pair_ok hS.stab rv_13 hs_9 hG rv_14 hx_14) rfl rfl fun a w hF hS => step hF (Y.move hF rfl) rfl fun a hF => step hF (Y.extract hF rfl rfl) rfl fun a hF => step hF (Y.extract hF rfl rfl) rfl fun a hF => step hF (Y.assign hF rfl) rfl fun a hF => step hF (Y.assign hF rfl) rfl fun a hF => nT (seq (region ?_))
 obtain ⟨rv_15, hx_15, h⟩ := bind_some h
 refine O.callS (us := [iv 20]) ca_46 hF hS (remontoirlaw08_store_ok hS.stab 20 rv_15 hx_15) rfl rfl fun v_10 Dv_10 a w hR_10 hlev_10 hF hS => ?_
 replace hs_8 := hs_8.mono hlev_10
 obtain ⟨p_10, c_10, rfl, hs_10⟩ := hR_10
 obtain ⟨rv_16, hx_16, h⟩ := bind_some h
 refine O.callS (us := []) ca_47 hF hS (remontoirlaw08_turns_ok hS.stab rv_16 hx_16) rfl rfl fun v_11 Dv_11 a w hR_11 hlev_11 hF hS => ?_
 replace hs_8 := hs_8.mono hlev_11
 replace hs_10 := hs_10.mono hlev_11
 obtain ⟨p_11, c_11, rfl, hs_11⟩ := hR_11
 have hr : Reps C_int Dv_11 [12, 8, 10] [iv 12, iv 8, iv 10] := Reps.cons (C := C_int) (x := 12) (c := [iv 12]) (r := [iv 8, iv 10]) rfl (Reps.cons (C := C_int) (x := 8) (c := [iv 8]) (r := [iv 10]) rfl (Reps.cons (C := C_int) (x := 10) (c := [iv 10]) (r := []) rfl (Reps.nil)))
 refine O.buildSlice (E := 3) (C := C_int) (xs := [12, 8, 10]) (cs := [iv 12, iv 8, iv 10]) (us := [iv 12, iv 8, iv 10]) (parts := [(0, (.const (iv 12))), (1, (.const (iv 8))), (2, (.const (iv 10)))]) 1 hF hS rfl (by kernel_rfl) hr rfl rfl rfl fun p_12 c_12 a w hF hS => ?_
 obtain ⟨Dv_12, hlev_12, hs_12, hS⟩ := hS.freezeC (C := C_int) (i := 1) (xs := [12, 8, 10]) rfl hr
 replace hs_8 := hs_8.mono hlev_12
 replace hs_10 := hs_10.mono hlev_12
 replace hs_11 := hs_11.mono hlev_12
 obtain ⟨rv_17, hx_17, h⟩ := bind_some h
 refine O.callS (us := [.agg #[iv rv_15.Hours, iv rv_15.Gap, .slice p_10 rv_15.Machines.length c_10], .slice p_11 rv_16.length c_11, .slice p_12 ([12, 8, 10]).length c_12]) ca_32 hF hS (spare_Silent_ok hS.stab rv_15 rv_16 ([12, 8, 10]) hs_10 hs_11 hs_12 rv_17 hx_17) rfl rfl fun v_12 Dv_13 a w hR_12 hlev_13 hF hS => ?_
 replace hs_8 := hs_8.mono hlev_13
 obtain ⟨p_13, c_13, rfl, hs_13⟩ := hR_12
 refine step hF (Y.move hF rfl) rfl fun a hF => step hF (Y.extract hF rfl rfl) rfl fun a hF => step hF (Y.extract hF rfl rfl) rfl fun a hF => step hF (Y.assign hF rfl) rfl fun a hF => step hF (Y.assign hF rfl) rfl fun a hF => nT (seq (region (step hF (Y.move hF rfl) rfl fun a hF => step hF (Y.eql hF rfl rfl) rfl fun a hF => step hF (Y.move hF rfl) rfl fun a hF => join (N := 125) (rs := []) (w0 := w0) (D0 := D0) 3 (us := [(0, .bool false), (7, iv rv_14.2), (9, iv rv_17.2), (10, iv rv_10.1), (11, .slice p_8 rv_12.1.length c_8), (12, iv rv_14.1), (13, .slice p_13 rv_17.1.length c_13), (98, .bool ((rv_10.2 == 0) && (rv_12.2 == 0)))]) (ms := []) (D' := Dv_13) ?_ ?_)))
 ·rcases bcases (rv_10.2 == 0) with hbv_9 | hbv_9
  ·skip
   refine guard_on hF rfl rfl hbv_9 (step hF (Y.move hF rfl) rfl fun a hF => guard_on hF rfl rfl hbv_9 (step hF (Y.eql hF rfl rfl) rfl fun a hF => step hF (Y.pick_t hF rfl hbv_9 rfl) rfl fun a hF => nT ⟨hF.weak ⟨rfl, rfl, rfl, rfl, rfl, rfl, rfl, (by rw [hbv_9]; rfl), trivial⟩, hS.weak trivial⟩))
  refine guard_off hF rfl rfl hbv_9 rfl fun a hF => guard_off hF rfl rfl hbv_9 rfl fun a hF => step hF (Y.pick_f hF rfl hbv_9 rfl) rfl fun a hF => nT ⟨hF.weak ⟨rfl, rfl, rfl, rfl, rfl, rfl, rfl, (by rw [hbv_9]; rfl), trivial⟩, hS.weak trivial⟩
 intro a w hF hS
 refine step hF (Y.move hF rfl) rfl fun a hF => join (N := 125) (rs := []) (w0 := w0) (D0 := D0) 3 (us := [(0, .bool false), (9, iv rv_17.2), (10, iv rv_10.1), (11, .slice p_8 rv_12.1.length c_8), (12, iv rv_14.1), (13, .slice p_13 rv_17.1.length c_13), (102, .bool (((rv_10.2 == 0) && (rv_12.2 == 0)) && (rv_14.2 == 0)))]) (ms := []) (D' := Dv_13) ?_ ?_
 ·rcases bcases ((rv_10.2 == 0) && (rv_12.2 == 0)) with hbv_10 | hbv_10
  ·skip
   refine guard_on hF rfl rfl hbv_10 (step hF (Y.move hF rfl) rfl fun a hF => guard_on hF rfl rfl hbv_10 (step hF (Y.eql hF rfl rfl) rfl fun a hF => step hF (Y.pick_t hF rfl hbv_10 rfl) rfl fun a hF => nT ⟨hF.weak ⟨rfl, rfl, rfl, rfl, rfl, rfl, (by rw [hbv_10]; rfl), trivial⟩, hS.weak trivial⟩))
  refine guard_off hF rfl rfl hbv_10 rfl fun a hF => guard_off hF rfl rfl hbv_10 rfl fun a hF => step hF (Y.pick_f hF rfl hbv_10 rfl) rfl fun a hF => nT ⟨hF.weak ⟨rfl, rfl, rfl, rfl, rfl, rfl, (by rw [hbv_10]; rfl), trivial⟩, hS.weak trivial⟩
 intro a w hF hS
 refine step hF (Y.move hF rfl) rfl fun a hF => join (N := 125) (rs := []) (w0 := w0) (D0 := D0) 3 (us := [(0, .bool false), (10, iv rv_10.1), (11, .slice p_8 rv_12.1.length c_8), (12, iv rv_14.1), (13, .slice p_13 rv_17.1.length c_13), (106, .bool ((((rv_10.2 == 0) && (rv_12.2 == 0)) && (rv_14.2 == 0)) && (rv_17.2 == 0)))]) (ms := []) (D' := Dv_13) ?_ ?_
 ·rcases bcases (((rv_10.2 == 0) && (rv_12.2 == 0)) && (rv_14.2 == 0)) with hbv_11 | hbv_11
  ·skip
   refine guard_on hF rfl rfl hbv_11 (step hF (Y.move hF rfl) rfl fun a hF => guard_on hF rfl rfl hbv_11 (step hF (Y.eql hF rfl rfl) rfl fun a hF => step hF (Y.pick_t hF rfl hbv_11 rfl) rfl fun a hF => nT ⟨hF.weak ⟨rfl, rfl, rfl, rfl, rfl, (by rw [hbv_11]; rfl), trivial⟩, hS.weak trivial⟩))
  refine guard_off hF rfl rfl hbv_11 rfl fun a hF => guard_off hF rfl rfl hbv_11 rfl fun a hF => step hF (Y.pick_f hF rfl hbv_11 rfl) rfl fun a hF => nT ⟨hF.weak ⟨rfl, rfl, rfl, rfl, rfl, (by rw [hbv_11]; rfl), trivial⟩, hS.weak trivial⟩
 intro a w hF hS
 refine step hF (Y.move hF rfl) rfl fun a hF => join (N := 125) (rs := []) (w0 := w0) (D0 := D0) 3 (us := [(0, .bool false), (11, .slice p_8 rv_12.1.length c_8), (12, iv rv_14.1), (13, .slice p_13 rv_17.1.length c_13), (110, .bool (((((rv_10.2 == 0) && (rv_12.2 == 0)) && (rv_14.2 == 0)) && (rv_17.2 == 0)) && (rv_10.1 == 22)))]) (ms := []) (D' := Dv_13) ?_ ?_
 ·rcases bcases ((((rv_10.2 == 0) && (rv_12.2 == 0)) && (rv_14.2 == 0)) && (rv_17.2 == 0)) with hbv_12 | hbv_12
  ·skip
   refine guard_on hF rfl rfl hbv_12 (step hF (Y.move hF rfl) rfl fun a hF => guard_on hF rfl rfl hbv_12 (step hF (Y.eql hF rfl rfl) rfl fun a hF => step hF (Y.pick_t hF rfl hbv_12 rfl) rfl fun a hF => nT ⟨hF.weak ⟨rfl, rfl, rfl, rfl, (by rw [hbv_12]; rfl), trivial⟩, hS.weak trivial⟩))
  refine guard_off hF rfl rfl hbv_12 rfl fun a hF => guard_off hF rfl rfl hbv_12 rfl fun a hF => step hF (Y.pick_f hF rfl hbv_12 rfl) rfl fun a hF => nT ⟨hF.weak ⟨rfl, rfl, rfl, rfl, (by rw [hbv_12]; rfl), trivial⟩, hS.weak trivial⟩
 intro a w hF hS
 refine step hF (Y.move hF rfl) rfl fun a hF => ?_
 obtain ⟨t, ht, h⟩ := bind_some h
 refine list_cut 4 (fun a w => ∃ D, Dv_13.le D ∧ Frm 125 [] [(0, .bool false), (12, iv rv_14.1), (13, .slice p_13 rv_17.1.length c_13), (115, .bool t)] a ∧ St w0 D0 D [] w) ?_ ?_
 ·rcases bcases (((((rv_10.2 == 0) && (rv_12.2 == 0)) && (rv_14.2 == 0)) && (rv_17.2 == 0)) && (rv_10.1 == 22)) with hbv_13 | hbv_13
  ·skip
   replace h := cond_t ht hbv_13
   refine guard_on hF rfl rfl hbv_13 (step hF (Y.move hF rfl) rfl fun a hF => guard_on hF rfl rfl hbv_13 ?_)
   have hr_1 : Reps C_int Dv_13 [0, 1, 2] [iv 0, iv 1, iv 2] := Reps.cons (C := C_int) (x := 0) (c := [iv 0]) (r := [iv 1, iv 2]) rfl (Reps.cons (C := C_int) (x := 1) (c := [iv 1]) (r := [iv 2]) rfl (Reps.cons (C := C_int) (x := 2) (c := [iv 2]) (r := []) rfl (Reps.nil)))
   refine O.buildSlice (E := 3) (C := C_int) (xs := [0, 1, 2]) (cs := [iv 0, iv 1, iv 2]) (us := [iv 0, iv 1, iv 2]) (parts := [(0, (.const (iv 0))), (1, (.const (iv 1))), (2, (.const (iv 2)))]) 2 hF hS rfl (by kernel_rfl) hr_1 rfl rfl rfl fun p_14 c_14 a w hF hS => guard_on hF rfl rfl hbv_13 ?_
   obtain ⟨Dv_14, hlev_14, hs_14, hS⟩ := hS.freezeC (C := C_int) (i := 2) (xs := [0, 1, 2]) rfl hr_1
   replace hs_8 := hs_8.mono hlev_14
   obtain ⟨rv_18, hx_18, h⟩ := bind_some h
   refine O.callP (us := [.slice p_8 rv_12.1.length c_8, .slice p_14 ([0, 1, 2]).length c_14]) ca_29 hF hS (r0Alike_ok hS.stab rv_12.1 ([0, 1, 2]) hs_8 hs_14 rv_18 hx_18) rfl rfl fun a w hF hS => step hF (Y.pick_t hF rfl hbv_13 rfl) rfl fun a hF => ?_
   obtain rfl := some_inj h
   exact nT ⟨Dv_14, hlev_14, hF.weak (AF rfl), hS.weak trivial⟩
  replace h := cond_f ht hbv_13
  refine guard_off hF rfl rfl hbv_13 rfl fun a hF => guard_off hF rfl rfl hbv_13 rfl fun a hF => guard_off hF rfl rfl hbv_13 rfl fun a hF => step hF (Y.pick_f hF rfl hbv_13 rfl) rfl fun a hF => ?_
  obtain rfl := some_inj h
  exact nT ⟨Dv_13, Stab.le.refl _, hF.weak (AF rfl), hS.weak trivial⟩
 rintro a w ⟨Dv_15, hlev_15, hF, hS⟩
 replace hs_13 := hs_13.mono hlev_15
 refine step hF (Y.move hF rfl) rfl fun a hF => join (N := 125) (rs := []) (w0 := w0) (D0 := D0) 3 (us := [(0, .bool false), (13, .slice p_13 rv_17.1.length c_13), (119, .bool (t && (rv_14.1 == 2)))]) (ms := []) (D' := Dv_15) ?_ ?_
 ·rcases bcases t with hbv_14 | hbv_14
  ·skip
   refine guard_on hF rfl rfl hbv_14 (step hF (Y.move hF rfl) rfl fun a hF => guard_on hF rfl rfl hbv_14 (step hF (Y.eql hF rfl rfl) rfl fun a hF => step hF (Y.pick_t hF rfl hbv_14 rfl) rfl fun a hF => nT ⟨hF.weak ⟨rfl, rfl, (by rw [hbv_14]; rfl), trivial⟩, hS.weak trivial⟩))
  refine guard_off hF rfl rfl hbv_14 rfl fun a hF => guard_off hF rfl rfl hbv_14 rfl fun a hF => step hF (Y.pick_f hF rfl hbv_14 rfl) rfl fun a hF => nT ⟨hF.weak ⟨rfl, rfl, (by rw [hbv_14]; rfl), trivial⟩, hS.weak trivial⟩
 intro a w hF hS
 refine step hF (Y.move hF rfl) rfl fun a hF => ?_
 obtain ⟨t_1, ht_1, h⟩ := bind_some h
 refine list_cut 4 (fun a w => ∃ D, Dv_15.le D ∧ Frm 125 [] [(0, .bool false), (124, .bool t_1)] a ∧ St w0 D0 D [] w) ?_ ?_
 ·rcases bcases (t && (rv_14.1 == 2)) with hbv_15 | hbv_15
  ·skip
   replace h := cond_t ht_1 hbv_15
   refine guard_on hF rfl rfl hbv_15 (step hF (Y.move hF rfl) rfl fun a hF => guard_on hF rfl rfl hbv_15 ?_)
   have hr_2 : Reps C_int Dv_15 [15] [iv 15] := Reps.cons (C := C_int) (x := 15) (c := [iv 15]) (r := []) rfl (Reps.nil)
   refine O.buildSlice (E := 3) (C := C_int) (xs := [15]) (cs := [iv 15]) (us := [iv 15]) (parts := [(0, (.const (iv 15)))]) 3 hF hS rfl (by kernel_rfl) hr_2 rfl rfl rfl fun p_15 c_15 a w hF hS => guard_on hF rfl rfl hbv_15 ?_
   obtain ⟨Dv_16, hlev_16, hs_15, hS⟩ := hS.freezeC (C := C_int) (i := 3) (xs := [15]) rfl hr_2
   replace hs_13 := hs_13.mono hlev_16
   obtain ⟨rv_19, hx_19, h⟩ := bind_some h
   refine O.callP (us := [.slice p_13 rv_17.1.length c_13, .slice p_15 ([15]).length c_15]) ca_29 hF hS (r0Alike_ok hS.stab rv_17.1 ([15]) hs_13 hs_15 rv_19 hx_19) rfl rfl fun a w hF hS => step hF (Y.pick_t hF rfl hbv_15 rfl) rfl fun a hF => ?_
   obtain rfl := some_inj h
   exact nT ⟨Dv_16, hlev_16, hF.weak ⟨rfl, rfl, trivial⟩, hS.weak trivial⟩
  replace h := cond_f ht_1 hbv_15
  refine guard_off hF rfl rfl hbv_15 rfl fun a hF => guard_off hF rfl rfl hbv_15 rfl fun a hF => guard_off hF rfl rfl hbv_15 rfl fun a hF => step hF (Y.pick_f hF rfl hbv_15 rfl) rfl fun a hF => ?_
  obtain rfl := some_inj h
  exact nT ⟨Dv_15, Stab.le.refl _, hF.weak ⟨rfl, rfl, trivial⟩, hS.weak trivial⟩
 rintro a w ⟨Dv_17, hlev_17, hF, hS⟩
 refine step hF (Y.assign hF rfl) rfl fun a hF => nT (ret_ ?_)
 obtain rfl := some_inj h
 exact leaveP Tryd.results21 hF hS (.cons (.tmp rfl) .nil) .nil rfl
end Go.Proofs.YtidmdgjgpmeecaaDoor.Rt
