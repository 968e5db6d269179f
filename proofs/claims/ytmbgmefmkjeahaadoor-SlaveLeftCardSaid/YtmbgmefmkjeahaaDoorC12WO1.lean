/- Walks of the functions of this seat: what each Go function comes to, as a Lean function, and the proof. Part WO1. Under no conditions. -/
import Derived.Test.YtmbgmefmkjeahaaDoorC12WNZ
set_option linter.unusedVariables false
set_option linter.unusedSimpArgs false
set_option maxRecDepth 100000
set_option maxHeartbeats 4000000
namespace Go.Proofs.YtmbgmefmkjeahaaDoor.Rt
open Go Go.RowKit
noncomputable def w7without_b1 (l : SlaveLine) (somev : (List Int)) : (Int × (List SlaveEvent)) → Option ((Int × (List SlaveEvent)) ⊕ SlaveLine)
 | (i, l_1) =>
  cond (decide (i < (l.Events.length : Int)))
  ((r0Find somev i).bind fun rv =>
  cond (decide (rv < 0))
  ((idx l.Events i).bind fun e =>
  if l_1.length + ([e]).length ≤ lim then
  nxt (wr (i + 1), (l_1 ++ [e]))
  else none)
  (nxt (wr (i + 1), l_1)))
  (ext (some (SlaveLine.mk l.Ring l.Starts l_1)))
noncomputable def w7without (l : SlaveLine) (somev : (List Int)) : Option SlaveLine :=
  loopU (w7without_b1 l somev) (0, ([] : List SlaveEvent))
theorem w7without_ok {w0 : World} {D0 : Stab} (hD : D0.on w0) (l : SlaveLine) (somev : (List Int)) {p : Option Addr} {c : Nat} {p_1 : Option Addr} {c_1 : Nat} {p_2 : Option Addr} {c_2 : Nat} (hs : SRc C_SlaveStart D0 l.Starts p c) (hs_1 : SRc C_SlaveEvent D0 l.Events p_1 c_1) (hs_2 : SRc C_int D0 somev p_2 c_2) (out : SlaveLine) (h : w7without l somev = some out) : Calls Tryd.prog 47 [.agg #[.int .i64 l.Ring, .slice p l.Starts.length c, .slice p_1 l.Events.length c_1], .slice p_2 somev.length c_2].toArray w0 (RetS D0 w0 fun D v => ∃ p_7 c_7 p_8 c_8, v = .agg #[.int .i64 out.Ring, .slice p_7 out.Starts.length c_7, .slice p_8 out.Events.length c_8] ∧ SRc C_SlaveStart D out.Starts p_7 c_7 ∧ SRc C_SlaveEvent D out.Events p_8 c_8) := by
 refine enter _ 31 Tryd.func47 rfl Tryd.ntmps47 rfl fun a hF => ?_
 replace hF : Frm 31 [] [(0, .agg #[.int .i64 l.Ring, .slice p l.Starts.length c, .slice p_1 l.Events.length c_1]), (1, .slice p_2 somev.length c_2)] a := hF
 have hS := St.start hD
 unfold w7without at h
 refine seq (region (O.box (cs := [.int .i64 l.Ring, .slice p l.Starts.length c, .slice p_1 l.Events.length c_1]) 1 hF rfl rfl hS rfl fun b a w hF hS => O.alloc 2 zc_25 hF hS rfl fun b_1 a w hF hS => nil (then_n (seq (region (step hF (Y.loadNL 1 sz_25 hF rfl hS rfl rfl rfl) rfl fun a hF => O.alloc 3 zc_25 hF hS rfl fun b_2 a w hF hS => ?_))))))
 replace hS := hS.ownNil 4 66 6
 refine O.store (us := [.int .i64 l.Ring, .slice p l.Starts.length c, .slice p_1 l.Events.length c_1]) 3 sz_25 hF rfl rfl rfl rfl hS rfl rfl fun a w hF hS => nil (then_n (seq (region (step hF (Y.fieldAddr fo_25_2 hF rfl) rfl fun a hF => O.store (us := [.slice none 0 0]) 3 sz_23 hF rfl rfl rfl rfl hS rfl rfl fun a w hF hS => ?_))))
 replace hS := hS.ownNil 5 66 6
 refine nil (then_n (seq (seq (region (step hF (Y.assign hF rfl) rfl fun a hF => nil (then_n (block (loop_cut (body := w7without_b1 l somev) (out := out) (fun s a w => ∃ (i : Int) (l_1 : (List SlaveEvent)), ∃ (Dv : Stab), ∃ p_3 c_3 cs, s = (i, l_1) ∧ D0.le Dv ∧ Frm 31 [] [(1, .slice p_2 somev.length c_2), (2, .pointer (some ⟨b, 0, none⟩)), (4, .pointer (some ⟨b_1, 0, none⟩)), (5, .pointer (some ⟨b_2, 0, none⟩)), (6, .int .i64 i)] a ∧ St w0 D0 Dv [(1, .cells b [.int .i64 l.Ring, .slice p l.Starts.length c, .slice p_1 l.Events.length c_1] 25), (2, .cells b_1 [.int .i64 0, .slice none 0 0, .slice none 0 0] 25), (3, .cells b_2 [.int .i64 l.Ring, .slice p l.Starts.length c, .slice p_3 l_1.length c_3] 25), (4, .own none ([] : List SlaveEvent).length 0 ([]) 66 6), (5, .own p_3 l_1.length c_3 cs 66 6)] w ∧ Reps C_SlaveEvent Dv l_1 cs) (0, ([] : List SlaveEvent)) h ⟨0, ([] : List SlaveEvent), D0, none, 0, ([]), rfl, Stab.le.refl _, hF.weak ⟨rfl, rfl, rfl, rfl, rfl, trivial⟩, hS.weak ⟨rfl, rfl, rfl, rfl, rfl, trivial⟩, Reps.nil⟩ ?_))))))))
 rintro s a w xo ⟨i, l_1, Dv, p_3, c_3, cs, rfl, hlev, hF, hS, hr⟩ h hxo
 unfold w7without_b1 at h
 dsimp only at h
 replace hs := hs.mono hlev
 replace hs_1 := hs_1.mono hlev
 replace hs_2 := hs_2.mono hlev
 refine seq (seq (region (step hF (Y.move hF rfl) rfl fun a hF => step hF (Y.fieldAddr fo_25_2 hF rfl) rfl fun a hF => step hF (Y.load1L 1 sz_23 hF rfl hS rfl rfl) rfl fun a hF => step hF (Y.lenSl u_23 hF rfl) rfl fun a hF => step hF (Y.lss hF rfl rfl) rfl fun a hF => nil (then_n (cond_b hF rfl (fun hbv => ?_) (fun hbv => ?_))))))
 ·replace h := cond_t h hbv
  refine skip_ (then_n (seq (block (seq (region (step hF (Y.move hF rfl) rfl fun a hF => step hF (Y.move hF rfl) rfl fun a hF => ?_))))))
  obtain ⟨rv, hx, h⟩ := bind_some h
  refine O.callP (us := [.slice p_2 somev.length c_2, .int .i64 i]) ca_39 hF hS (r0Find_ok hS.stab somev i hs_2 rv hx) rfl rfl fun a w hF hS => step hF (Y.lss hF rfl rfl) rfl fun a hF => nil (then_n (cond_b hF rfl (fun hbv_1 => ?_) (fun hbv_1 => ?_)))
  ·replace h := cond_t h hbv_1
   obtain ⟨e, hx_1, h⟩ := bind_some h
   refine drawsV 8 (.flt 0 (.flt 1 (.flt 2 (.flt 3 (.flt 4 (.flt 5 (.flt 6 (.alt 7 .done .stop)))))))) mixed_ (by kernel_rfl) (fun w => St w0 D0 Dv [(1, .cells b [.int .i64 l.Ring, .slice p l.Starts.length c, .slice p_1 l.Events.length c_1] 25), (2, .cells b_1 [.int .i64 0, .slice none 0 0, .slice none 0 0] 25), (3, .cells b_2 [.int .i64 l.Ring, .slice p l.Starts.length c, .slice p_3 l_1.length c_3] 25), (4, .own none ([] : List SlaveEvent).length 0 ([]) 66 6), (5, .own p_3 l_1.length c_3 cs 66 6)] w) (fun a w => ∃ (p_4 : Option Addr) (c_4 : Nat) (cs_1 : List Value), Frm 31 [] [(1, .slice p_2 somev.length c_2), (2, .pointer (some ⟨b, 0, none⟩)), (4, .pointer (some ⟨b_1, 0, none⟩)), (5, .pointer (some ⟨b_2, 0, none⟩)), (6, .int .i64 i), (21, .slice p_3 l_1.length c_3), (27, .slice p_4 ([e]).length c_4)] a ∧ St w0 D0 Dv [(1, .cells b [.int .i64 l.Ring, .slice p l.Starts.length c, .slice p_1 l.Events.length c_1] 25), (2, .cells b_1 [.int .i64 0, .slice none 0 0, .slice none 0 0] 25), (3, .cells b_2 [.int .i64 l.Ring, .slice p l.Starts.length c, .slice p_3 l_1.length c_3] 25), (4, .own none ([] : List SlaveEvent).length 0 ([]) 66 6), (5, .own p_3 l_1.length c_3 cs 66 6), (6, .own p_4 ([e]).length c_4 cs_1 66 6)] w ∧ Reps C_SlaveEvent Dv ([e]) cs_1) (hS.weak (ms := [(1, .cells b [.int .i64 l.Ring, .slice p l.Starts.length c, .slice p_1 l.Events.length c_1] 25), (2, .cells b_1 [.int .i64 0, .slice none 0 0, .slice none 0 0] 25), (3, .cells b_2 [.int .i64 l.Ring, .slice p l.Starts.length c, .slice p_3 l_1.length c_3] 25), (4, .own none ([] : List SlaveEvent).length 0 ([]) 66 6), (5, .own p_3 l_1.length c_3 cs 66 6)]) ⟨rfl, rfl, rfl, rfl, rfl, trivial⟩).drew (fun _ _ _ _ h => h) ?_ ?_
   ·replace hS := hS.drew
    have hle0 := hS.le
    refine stepV (i := 0) rfl hF (fun w hS => Y.fieldAddr fo_25_2 hF rfl) rfl fun a hF => stepV (i := 1) rfl hF (fun w hS => Y.load1L 3 sz_23 hF rfl hS rfl rfl) rfl fun a hF => stepV (i := 2) rfl hF (fun w hS => Y.fieldAddr fo_25_2 hF rfl) rfl fun a hF => stepV (i := 3) rfl hF (fun w hS => Y.load1L 1 sz_23 hF rfl hS rfl rfl) rfl fun a hF => stepV (i := 4) rfl hF (fun w hS => Y.move hF rfl) rfl fun a hF => ?_
    obtain ⟨b_4, o_1, hE_1, hY_1⟩ := Y.indexS (P := Tryd.prog) (C := C_SlaveEvent) (xs := l.Events) (T := 23) (x := (.tmp 23)) (y := (.tmp 24)) u_23 sz_66 hF rfl rfl (hs_1).1 hx_1
    obtain ⟨cc_1, hc_1, hcell_1⟩ := hE_1.open
    obtain rfl := C_SlaveEvent.open hc_1
    refine stepV (i := 5) rfl hF (fun w hS => hY_1) rfl fun a hF => stepV (i := 6) rfl hF (fun w hS => Y.loadNE (o := o_1) (k := 0) sz_66 hF rfl (hcell_1 _ hS.stab) rfl rfl) rfl fun a hF => oneV (i := 7) rfl ?_ trivial
    have hr_2 : Reps C_SlaveEvent Dv [e] [.int .i64 e.Kind, .int .i64 e.First, .int .i64 e.Count, .int .i64 e.Lost, .int .i64 e.Who, .int .i64 e.Shown] := Reps.cons (C := C_SlaveEvent) (x := e) (c := [.int .i64 e.Kind, .int .i64 e.First, .int .i64 e.Count, .int .i64 e.Lost, .int .i64 e.Who, .int .i64 e.Shown]) (r := []) rfl (Reps.nil)
    refine O.buildSlice (E := 66) (C := C_SlaveEvent) (xs := [e]) (cs := [.int .i64 e.Kind, .int .i64 e.First, .int .i64 e.Count, .int .i64 e.Lost, .int .i64 e.Who, .int .i64 e.Shown]) (us := [.agg #[.int .i64 e.Kind, .int .i64 e.First, .int .i64 e.Count, .int .i64 e.Lost, .int .i64 e.Who, .int .i64 e.Shown]]) (parts := [(0, (.tmp 26))]) 6 hF hS rfl (by kernel_rfl) hr_2 rfl rfl rfl fun p_5 c_5 a w hF hS => nil (then_n ⟨hS.weak ⟨rfl, rfl, rfl, rfl, rfl, trivial⟩, ?_⟩)
    exact toTailV ⟨p_5, c_5, ([.int .i64 e.Kind, .int .i64 e.First, .int .i64 e.Count, .int .i64 e.Lost, .int .i64 e.Who, .int .i64 e.Shown]), hF.weak ⟨rfl, rfl, rfl, rfl, rfl, rfl, rfl, trivial⟩, hS.weak ⟨rfl, rfl, rfl, rfl, rfl, rfl, trivial⟩, hr_2⟩
   rintro a w ⟨p_4, c_4, cs_1, hF, hS, hj⟩
   obtain ⟨hg, h⟩ := ite_some h
   refine O.append (C := C_SlaveEvent) (xs := l_1) (ys := [e]) 5 gr_23 hF rfl rfl hS rfl (src_own (i := 6) hS rfl) hr hj hg rfl fun p_6 c_6 a w hF hS hr_3 => step hF (Y.fieldAddr fo_25_2 hF rfl) rfl fun a hF => O.store (us := [.slice p_6 (l_1 ++ [e]).length c_6]) 3 sz_23 hF rfl rfl rfl rfl hS rfl rfl fun a w hF hS => nil (blk_n (then_n (region (step hF (Y.move hF rfl) rfl fun a hF => step hF (Y.add hF rfl rfl) rfl fun a hF => step hF (Y.assign hF rfl) rfl fun a hF => nil (then_n (⟨_, nxt_some h, (wr (i + 1)), (l_1 ++ [e]), Dv, p_6, c_6, (cs ++ cs_1), rfl, hlev, hF.weak ⟨rfl, rfl, rfl, rfl, rfl, trivial⟩, hS.weak ⟨rfl, rfl, rfl, rfl, rfl, trivial⟩, hr_3⟩))))))
  replace h := cond_f h hbv_1
  refine skip_ (blk_n (then_n (region (step hF (Y.move hF rfl) rfl fun a hF => step hF (Y.add hF rfl rfl) rfl fun a hF => step hF (Y.assign hF rfl) rfl fun a hF => nil (then_n (⟨_, nxt_some h, (wr (i + 1)), l_1, Dv, p_3, c_3, cs, rfl, hlev, hF.weak ⟨rfl, rfl, rfl, rfl, rfl, trivial⟩, hS.weak ⟨rfl, rfl, rfl, rfl, rfl, trivial⟩, hr⟩))))))
 replace h := cond_f h hbv
 refine exit_ (then_x (then_x (blk_hit (then_n ?_))))
 replace h := ext_some h hxo
 refine seq (region (step hF (Y.loadNL 3 sz_25 hF rfl hS rfl rfl rfl) rfl fun a hF => O.store (us := [.int .i64 l.Ring, .slice p l.Starts.length c, .slice p_3 l_1.length c_3]) 2 sz_25 hF rfl rfl rfl rfl hS rfl rfl fun a w hF hS => nil (then_n (ret_ ?_))))
 obtain ⟨Dv_1, hlev_1, hs_3, hS⟩ := hS.freezeC (i := 5) (xs := l_1) rfl hr
 replace hs := hs.mono hlev_1
 obtain rfl := some_inj h
 exact leaveS Tryd.results47 hF hS (.cons (.cellN 2 sz_25 rfl rfl rfl) .nil) .nil ⟨_, _, _, _, rfl, hs, hs_3⟩
noncomputable def w7all_b1 (l : SlaveLine) : (Bool × Int) → ND ((Bool × Int) ⊕ Bool)
 | (v2_0, who) =>
  cond (decide (who < (l.Starts.length : Int)))
  ((ND.bnd (slave_Can l who) fun rv =>
  cond (rv.2 != 0)
  (next_ (ND.ret false))
  (nnxt (v2_0, wr (who + 1)))))
  (next_ (ND.ret true))
noncomputable def w7all (l : SlaveLine) : ND Bool :=
  loopN (w7all_b1 l) (false, 0)
theorem w7all_ok {w0 : World} {D0 : Stab} (hD : D0.on w0) (l : SlaveLine) {p : Option Addr} {c : Nat} {p_1 : Option Addr} {c_1 : Nat} (hs : SRc C_SlaveStart D0 l.Starts p c) (hs_1 : SRc C_SlaveEvent D0 l.Events p_1 c_1) (hG : Glob D0) (out : Bool → Prop) (h : w7all l out) : Calls Tryd.prog 46 [.agg #[.int .i64 l.Ring, .slice p l.Starts.length c, .slice p_1 l.Events.length c_1]].toArray w0 (RetPN D0 w0 out fun (out : Bool) => .bool out) := by
 refine enter _ 21 Tryd.func46 rfl Tryd.ntmps46 rfl fun a hF => ?_
 replace hF : Frm 21 [] [(0, .agg #[.int .i64 l.Ring, .slice p l.Starts.length c, .slice p_1 l.Events.length c_1])] a := hF
 have hS := St.start hD
 unfold w7all at h
 refine seq (region (O.box (cs := [.int .i64 l.Ring, .slice p l.Starts.length c, .slice p_1 l.Events.length c_1]) 1 hF rfl rfl hS rfl fun b a w hF hS => step hF (Y.assign hF rfl) rfl fun a hF => nil (then_n (seq (seq (region (step hF (Y.assign hF rfl) rfl fun a hF => nil (then_n (block (loop_cutN (body := w7all_b1 l) (out := out) (fun s a w => ∃ (v2_0 : Bool) (who : Int), ∃ (Dv : Stab), s = (v2_0, who) ∧ D0.le Dv ∧ Frm 21 [] [(1, .pointer (some ⟨b, 0, none⟩)), (2, .bool v2_0), (3, .int .i64 who)] a ∧ St w0 D0 Dv [(1, .cells b [.int .i64 l.Ring, .slice p l.Starts.length c, .slice p_1 l.Events.length c_1] 25)] w) (false, 0) h ⟨false, 0, D0, rfl, Stab.le.refl _, hF.weak ⟨rfl, rfl, rfl, trivial⟩, hS.weak ⟨rfl, trivial⟩⟩ ?_))))))))))
 rintro s a w xo ⟨v2_0, who, Dv, rfl, hlev, hF, hS⟩ h
 unfold w7all_b1 at h
 try dsimp only at h
 replace hs := hs.mono hlev
 replace hs_1 := hs_1.mono hlev
 replace hG := hG.mono hlev
 refine seq (seq (region (step hF (Y.move hF rfl) rfl fun a hF => step hF (Y.fieldAddr fo_25_1 hF rfl) rfl fun a hF => step hF (Y.load1L 1 sz_22 hF rfl hS rfl rfl) rfl fun a hF => step hF (Y.lenSl u_22 hF rfl) rfl fun a hF => step hF (Y.lss hF rfl rfl) rfl fun a hF => nil (then_n (cond_b hF rfl (fun hbv => ?_) (fun hbv => ?_))))))
 ·replace h := ncond_t h hbv
  refine skip_ (then_n (seq (block (seq (region (step hF (Y.loadNL 1 sz_25 hF rfl hS rfl rfl rfl) rfl fun a hF => step hF (Y.move hF rfl) rfl fun a hF => ?_))))))
  obtain ⟨KQ, hx, hk⟩ := nbnd_ex h
  refine O.callSN (us := [.agg #[.int .i64 l.Ring, .slice p l.Starts.length c, .slice p_1 l.Events.length c_1], .int .i64 who]) ca_16 hF hS (slave_Can_ok hS.stab l who hs hs_1 hG KQ hx) rfl rfl fun rv h v Dv_1 a w hR hlev_1 hF hS => ?_
  replace h := hk _ h
  obtain ⟨p_2, c_2, rfl, hs_2⟩ := hR
  refine step hF (Y.move hF rfl) rfl fun a hF => step hF (Y.extract hF rfl rfl) rfl fun a hF => step hF (Y.extract hF rfl rfl) rfl fun a hF => step hF (Y.assign hF rfl) rfl fun a hF => step hF (Y.assign hF rfl) rfl fun a hF => nil (then_n (seq (region (step hF (Y.move hF rfl) rfl fun a hF => step hF (Y.neq hF rfl rfl) rfl fun a hF => nil (then_n (cond_b hF rfl (fun hbv_1 => ?_) (fun hbv_1 => ?_)))))))
  ·replace h := ncond_t h hbv_1
   refine seq (region (step hF (Y.assign hF rfl) rfl fun a hF => nil (then_n (ret_ (blk_r (then_r (then_r (blk_r (then_r ?_)))))))))
   replace h := next_h h
   exact leavePN _ (nret h) Tryd.results46 hF hS (.cons (.tmp rfl) .nil) .nil rfl
  replace h := ncond_f h hbv_1
  refine skip_ (blk_n (then_n (region (step hF (Y.move hF rfl) rfl fun a hF => step hF (Y.add hF rfl rfl) rfl fun a hF => step hF (Y.assign hF rfl) rfl fun a hF => nil (then_n (⟨_, nnxt_h h, v2_0, (wr (who + 1)), Dv_1, rfl, hlev.trans hlev_1, hF.weak ⟨rfl, rfl, rfl, trivial⟩, hS.weak ⟨rfl, trivial⟩⟩))))))
 replace h := ncond_f h hbv
 refine exit_ (then_x (then_x (blk_hit (then_n ?_))))
 replace h := next_h h
 refine seq (region (step hF (Y.assign hF rfl) rfl fun a hF => nil (then_n (ret_ (leavePN _ (nret h) Tryd.results46 hF hS (.cons (.tmp rfl) .nil) .nil rfl)))))
end Go.Proofs.YtmbgmefmkjeahaaDoor.Rt
