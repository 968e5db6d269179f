/- Walks of the functions of this seat: what each Go function comes to, as a Lean function, and the proof. Part WN1. Under no conditions. -/
import Derived.Test.YtidmdgjgpmeecaaDoorWSZ
set_option linter.unusedVariables false
set_option linter.unusedSimpArgs false
set_option maxRecDepth 100000
set_option maxHeartbeats 4000000
namespace Go.Proofs.YtidmdgjgpmeecaaDoor.Rt
open Go Go.RowKit
noncomputable def remontoirlaw08_tried_k1 (outv : (List SpareTurn)) : Option (List SpareTurn) :=
  some outv
noncomputable def remontoirlaw08_tried_k3 (i : Int) (outv_2 : (List SpareTurn)) (now_1 : Int) (used_1 : Int) : Option (((List SpareTurn) × Int × Int × Int) ⊕ (List SpareTurn)) :=
  nxt (outv_2, now_1, used_1, wr (i + 1))
noncomputable def remontoirlaw08_tried_b2 (sv : SpareStore) (bits : (List Int)) : ((List SpareTurn) × Int × Int × Int) → Option (((List SpareTurn) × Int × Int × Int) ⊕ (List SpareTurn))
 | (outv_1, now, used, i) =>
  cond (decide (i < (sv.Machines.length : Int)))
  ((remontoirref00_At bits (wr (2 * i))).bind fun rv =>
  (remontoirref00_Rest rv (sv.Machines.length : Int)).bind fun rv_1 =>
  (remontoirref00_In used rv_1).bind fun rv_2 =>
  cond rv_2
  (remontoirlaw08_tried_k3 i outv_1 now used)
  ((idx sv.Machines rv_1).bind fun e =>
  (remontoirref00_At bits (wr ((wr (2 * i)) + 1))).bind fun rv_3 =>
  (remontoirref00_Rest rv_3 3).bind fun rv_4 =>
  if outv_1.length + ([(SpareTurn.mk rv_1 (if e.From > wr ((wr (now - e.Warm)) - rv_4) then e.From else wr ((wr (now - e.Warm)) - rv_4)) now)]).length ≤ lim then
  if ¬ rv_1 < 0 then
  (remontoirref00_At bits (wr (i + 3))).bind fun rv_5 =>
  (remontoirref00_Rest rv_5 (if (if wr ((wr ((wr ((wr (now - e.Warm)) - rv_4)) + e.Life.Low)) - now) > 1 then wr ((wr ((wr ((wr (now - e.Warm)) - rv_4)) + e.Life.Low)) - now) else 1) < sv.Hours then (if wr ((wr ((wr ((wr (now - e.Warm)) - rv_4)) + e.Life.Low)) - now) > 1 then wr ((wr ((wr ((wr (now - e.Warm)) - rv_4)) + e.Life.Low)) - now) else 1) else sv.Hours)).bind fun rv_6 =>
  cond (decide ((wr (now + (wr (1 + rv_6)))) ≥ sv.Hours))
  (ext (remontoirlaw08_tried_k1 (outv_1 ++ [(SpareTurn.mk rv_1 (if e.From > wr ((wr (now - e.Warm)) - rv_4) then e.From else wr ((wr (now - e.Warm)) - rv_4)) now)])))
  (remontoirlaw08_tried_k3 i (outv_1 ++ [(SpareTurn.mk rv_1 (if e.From > wr ((wr (now - e.Warm)) - rv_4) then e.From else wr ((wr (now - e.Warm)) - rv_4)) now)]) (wr (now + (wr (1 + rv_6)))) (bitsOp .or used (gshl 1 rv_1)))
  else none
  else none))
  (ext (remontoirlaw08_tried_k1 outv_1))
noncomputable def remontoirlaw08_tried (sv : SpareStore) (bits : (List Int)) : Option (List SpareTurn) :=
  loopU (remontoirlaw08_tried_b2 sv bits) (([] : List SpareTurn), 0, 0, 0)
theorem remontoirlaw08_tried_ok {w0 : World} {D0 : Stab} (hD : D0.on w0) (sv : SpareStore) (bits : (List Int)) {p : Option Addr} {c : Nat} {p_1 : Option Addr} {c_1 : Nat} (hs : SRc C_SpareMachine D0 sv.Machines p c) (hs_1 : SRc C_int D0 bits p_1 c_1) (out : (List SpareTurn)) (h : remontoirlaw08_tried sv bits = some out) : Calls Tryd.prog 41 [.agg #[.int .i64 sv.Hours, .int .i64 sv.Gap, .slice p sv.Machines.length c], .slice p_1 bits.length c_1].toArray w0 (RetS D0 w0 fun D v => ∃ p_7 c_7, v = .slice p_7 out.length c_7 ∧ SRc C_SpareTurn D out p_7 c_7) := by
 refine enter _ 86 Tryd.func41 rfl Tryd.ntmps41 rfl fun a hF => ?_
 replace hF : Frm 86 [] [(0, .agg #[.int .i64 sv.Hours, .int .i64 sv.Gap, .slice p sv.Machines.length c]), (1, .slice p_1 bits.length c_1)] a := hF
 have hS := St.start hD
 unfold remontoirlaw08_tried at h
 refine seq ?_
 refine region ?_
 refine O.box (cs := [.int .i64 sv.Hours, .int .i64 sv.Gap, .slice p sv.Machines.length c]) 1 hF rfl rfl hS rfl fun b a w hF hS => ?_
 refine step hF (Y.assign hF rfl) rfl fun a hF => ?_
 refine nil (then_n ?_)
 refine seq ?_
 refine region ?_
 refine step hF (Y.assign hF rfl) rfl fun a hF => ?_
 replace hS := hS.ownNil 2 46 3
 refine nil (then_n ?_)
 refine seq ?_
 refine region ?_
 refine step hF (Y.assign hF rfl) rfl fun a hF => ?_
 refine step hF (Y.assign hF rfl) rfl fun a hF => ?_
 refine nil (then_n ?_)
 refine seq_cut (fun a w => ∃ (outv : (List SpareTurn)), ∃ (Dv : Stab), ∃ p_2 c_2 cs, D0.le Dv ∧ Frm 86 [] [(4, .slice none 0 0), (5, .slice p_2 outv.length c_2)] a ∧ St w0 D0 Dv [(1, .cells b [.int .i64 sv.Hours, .int .i64 sv.Gap, .slice p sv.Machines.length c] 24), (2, .own p_2 outv.length c_2 cs 46 3)] w ∧ Reps C_SpareTurn Dv outv cs ∧ remontoirlaw08_tried_k1 outv = some out) ?_ ?_
 ·skip
  refine seq ?_
  refine region ?_
  refine step hF (Y.assign hF rfl) rfl fun a hF => ?_
  refine nil (then_n ?_)
  refine block ?_
  refine loop_cut (body := remontoirlaw08_tried_b2 sv bits) (out := out) (fun s a w => ∃ (outv_1 : (List SpareTurn)) (now : Int) (used : Int) (i : Int), ∃ (Dv_2 : Stab), ∃ p_3 c_3 cs_1, s = (outv_1, now, used, i) ∧ D0.le Dv_2 ∧ Frm 86 [] [(1, .slice p_1 bits.length c_1), (2, .pointer (some ⟨b, 0, none⟩)), (4, .slice none 0 0), (5, .slice p_3 outv_1.length c_3), (6, .int .i64 now), (7, .int .i64 used), (8, .int .i64 i)] a ∧ St w0 D0 Dv_2 [(1, .cells b [.int .i64 sv.Hours, .int .i64 sv.Gap, .slice p sv.Machines.length c] 24), (2, .own p_3 outv_1.length c_3 cs_1 46 3)] w ∧ Reps C_SpareTurn Dv_2 outv_1 cs_1) (([] : List SpareTurn), 0, 0, 0) h ⟨([] : List SpareTurn), 0, 0, 0, D0, none, 0, ([]), rfl, Stab.le.refl _, hF.weak ⟨rfl, rfl, rfl, rfl, rfl, rfl, rfl, trivial⟩, hS.weak ⟨rfl, rfl, trivial⟩, Reps.nil⟩ ?_
  rintro s a w xo ⟨outv_1, now, used, i, Dv_2, p_3, c_3, cs_1, rfl, hlev_2, hF, hS, hr_1⟩ h hxo
  unfold remontoirlaw08_tried_b2 at h
  dsimp only at h
  replace hs := hs.mono hlev_2
  replace hs_1 := hs_1.mono hlev_2
  refine seq ?_
  refine seq ?_
  refine region ?_
  refine step hF (Y.move hF rfl) rfl fun a hF => ?_
  refine step hF (Y.fieldAddr fo_24_2 hF rfl) rfl fun a hF => ?_
  refine step hF (Y.load1L 1 sz_22 hF rfl hS rfl rfl) rfl fun a hF => ?_
  refine step hF (Y.lenSl u_22 hF rfl) rfl fun a hF => ?_
  refine step hF (Y.lss hF rfl rfl) rfl fun a hF => ?_
  refine nil (then_n ?_)
  refine cond_b hF rfl (fun hbv => ?_) (fun hbv => ?_)
  ·replace h := cond_t h hbv
   refine skip_ (then_n ?_)
   refine seq_cut (fun a w => ∃ (outv_2 : (List SpareTurn)) (now_1 : Int) (used_1 : Int), ∃ (Dv_3 : Stab), ∃ p_4 c_4 cs_2, Dv_2.le Dv_3 ∧ Frm 86 [] [(1, .slice p_1 bits.length c_1), (2, .pointer (some ⟨b, 0, none⟩)), (4, .slice none 0 0), (5, .slice p_4 outv_2.length c_4), (6, .int .i64 now_1), (7, .int .i64 used_1), (8, .int .i64 i)] a ∧ St w0 D0 Dv_3 [(1, .cells b [.int .i64 sv.Hours, .int .i64 sv.Gap, .slice p sv.Machines.length c] 24), (2, .own p_4 outv_2.length c_4 cs_2 46 3)] w ∧ Reps C_SpareTurn Dv_3 outv_2 cs_2 ∧ remontoirlaw08_tried_k3 i outv_2 now_1 used_1 = some xo) ?_ ?_
   ·skip
    refine block ?_
    refine seq ?_
    obtain ⟨rv, hx, h⟩ := bind_some h
    refine drawsV 7 (.flt 0 (.flt 1 (.flt 2 (.flt 4 (.flt 5 (.flt 6 (.alt 3 .done .stop))))))) mixed_ (by kernel_rfl) (fun w => St w0 D0 Dv_2 [(1, .cells b [.int .i64 sv.Hours, .int .i64 sv.Gap, .slice p sv.Machines.length c] 24), (2, .own p_3 outv_1.length c_3 cs_1 46 3)] w) (fun a w => Frm 86 [] [(1, .slice p_1 bits.length c_1), (2, .pointer (some ⟨b, 0, none⟩)), (4, .slice none 0 0), (5, .slice p_3 outv_1.length c_3), (6, .int .i64 now), (7, .int .i64 used), (8, .int .i64 i), (23, .int .i64 rv), (26, .int .i64 (sv.Machines.length : Int))] a ∧ St w0 D0 Dv_2 [(1, .cells b [.int .i64 sv.Hours, .int .i64 sv.Gap, .slice p sv.Machines.length c] 24), (2, .own p_3 outv_1.length c_3 cs_1 46 3)] w) (hS.weak (ms := [(1, .cells b [.int .i64 sv.Hours, .int .i64 sv.Gap, .slice p sv.Machines.length c] 24), (2, .own p_3 outv_1.length c_3 cs_1 46 3)]) ⟨rfl, rfl, trivial⟩).drew (fun _ _ _ _ h => h) ?_ ?_
    ·replace hS := hS.drew
     have hle0 := hS.le
     refine stepV (i := 0) rfl hF (fun w hS => Y.move hF rfl) rfl fun a hF => ?_
     refine stepV (i := 1) rfl hF (fun w hS => Y.move hF rfl) rfl fun a hF => ?_
     refine stepV (i := 2) rfl hF (fun w hS => Y.mul hF rfl rfl) rfl fun a hF => ?_
     refine stepV (i := 4) rfl hF (fun w hS => Y.fieldAddr fo_24_2 hF rfl) rfl fun a hF => ?_
     refine stepV (i := 5) rfl hF (fun w hS => Y.load1L 1 sz_22 hF rfl hS rfl rfl) rfl fun a hF => ?_
     refine stepV (i := 6) rfl hF (fun w hS => Y.lenSl u_22 hF rfl) rfl fun a hF => ?_
     refine oneV (i := 3) rfl ?_ trivial
     refine O.callP (us := [.slice p_1 bits.length c_1, .int .i64 (wr (2 * i))]) ca_38 hF hS (remontoirref00_At_ok hS.stab bits (wr (2 * i)) hs_1 rv hx) rfl rfl fun a w hF hS => ?_
     refine nil (then_n ⟨hS.weak ⟨rfl, rfl, trivial⟩, ?_⟩)
     exact toTailV ⟨hF.weak ⟨rfl, rfl, rfl, rfl, rfl, rfl, rfl, rfl, rfl, trivial⟩, hS.weak ⟨rfl, rfl, trivial⟩⟩
    rintro a w ⟨hF, hS⟩
    obtain ⟨rv_1, hx_1, h⟩ := bind_some h
    refine O.callP (us := [.int .i64 rv, .int .i64 (sv.Machines.length : Int)]) ca_42 hF hS (remontoirref00_Rest_ok hS.stab rv (sv.Machines.length : Int) rv_1 hx_1) rfl rfl fun a w hF hS => ?_
    refine step hF (Y.assign hF rfl) rfl fun a hF => ?_
    refine nil (then_n ?_)
    refine seq ?_
    refine seq ?_
    refine region ?_
    refine step hF (Y.move hF rfl) rfl fun a hF => ?_
    refine step hF (Y.move hF rfl) rfl fun a hF => ?_
    obtain ⟨rv_2, hx_2, h⟩ := bind_some h
    refine O.callP (us := [.int .i64 used, .int .i64 rv_1]) ca_36 hF hS (remontoirref00_In_ok hS.stab used rv_1 rv_2 hx_2) rfl rfl fun a w hF hS => ?_
    refine nil (then_n ?_)
    refine cond_b hF rfl (fun hbv_1 => ?_) (fun hbv_1 => ?_)
    ·replace h := cond_t h hbv_1
     refine exit_ (then_x (blk_hit (then_n ?_)))
     exact ⟨outv_1, now, used, Dv_2, p_3, c_3, cs_1, Stab.le.refl _, hF.weak ⟨rfl, rfl, rfl, rfl, rfl, rfl, rfl, trivial⟩, hS.weak ⟨rfl, rfl, trivial⟩, hr_1, h⟩
    ·replace h := cond_f h hbv_1
     refine skip_ (then_n ?_)
     refine seq ?_
     refine region ?_
     refine step hF (Y.fieldAddr fo_24_2 hF rfl) rfl fun a hF => ?_
     refine step hF (Y.load1L 1 sz_22 hF rfl hS rfl rfl) rfl fun a hF => ?_
     refine step hF (Y.move hF rfl) rfl fun a hF => ?_
     obtain ⟨e, hx_3, h⟩ := bind_some h
     obtain ⟨b_1, o, hE, hY⟩ := Y.indexS (P := Tryd.prog) (C := C_SpareMachine) (xs := sv.Machines) (T := 22) (x := (.tmp 32)) (y := (.tmp 33)) u_22 sz_52 hF rfl rfl (hs).1 hx_3
     obtain ⟨cc, hc, hcell⟩ := hE.open
     obtain rfl := C_SpareMachine.open hc
     refine step hF (hY) rfl fun a hF => ?_
     refine step hF (Y.loadNE (o := o) (k := 0) sz_52 hF rfl (hcell _ hS.stab) rfl rfl) rfl fun a hF => ?_
     refine O.alloc 3 zc_52 hF hS rfl fun b_2 a w hF hS => ?_
     refine O.store (us := [.int .i64 e.From, .int .i64 e.Warm, .int .i64 e.Life.Low, .int .i64 e.Life.High, .int .i64 e.Drift]) 3 sz_52 hF rfl rfl rfl rfl hS rfl rfl fun a w hF hS => ?_
     refine nil (then_n ?_)
     refine seq ?_
     obtain ⟨rv_3, hx_4, h⟩ := bind_some h
     obtain ⟨rv_4, hx_5, h⟩ := bind_some h
     refine drawsV 10 (.flt 0 (.flt 1 (.flt 2 (.flt 3 (.flt 4 (.flt 5 (.flt 6 (.flt 7 (.alt 8 (.alt 9 .done .stop) .stop))))))))) mixed_ (by kernel_rfl) (fun w => St w0 D0 Dv_2 [(1, .cells b [.int .i64 sv.Hours, .int .i64 sv.Gap, .slice p sv.Machines.length c] 24), (2, .own p_3 outv_1.length c_3 cs_1 46 3), (3, .cells b_2 [.int .i64 e.From, .int .i64 e.Warm, .int .i64 e.Life.Low, .int .i64 e.Life.High, .int .i64 e.Drift] 52)] w) (fun a w => Frm 86 [] [(1, .slice p_1 bits.length c_1), (2, .pointer (some ⟨b, 0, none⟩)), (4, .slice none 0 0), (5, .slice p_3 outv_1.length c_3), (6, .int .i64 now), (7, .int .i64 used), (8, .int .i64 i), (9, .int .i64 rv_1), (10, .pointer (some ⟨b_2, 0, none⟩)), (39, .int .i64 (wr (now - e.Warm))), (45, .int .i64 rv_4)] a ∧ St w0 D0 Dv_2 [(1, .cells b [.int .i64 sv.Hours, .int .i64 sv.Gap, .slice p sv.Machines.length c] 24), (2, .own p_3 outv_1.length c_3 cs_1 46 3), (3, .cells b_2 [.int .i64 e.From, .int .i64 e.Warm, .int .i64 e.Life.Low, .int .i64 e.Life.High, .int .i64 e.Drift] 52)] w) (hS.weak (ms := [(1, .cells b [.int .i64 sv.Hours, .int .i64 sv.Gap, .slice p sv.Machines.length c] 24), (2, .own p_3 outv_1.length c_3 cs_1 46 3), (3, .cells b_2 [.int .i64 e.From, .int .i64 e.Warm, .int .i64 e.Life.Low, .int .i64 e.Life.High, .int .i64 e.Drift] 52)]) ⟨rfl, rfl, rfl, trivial⟩).drew (fun _ _ _ _ h => h) ?_ ?_
     ·replace hS := hS.drew
      have hle0 := hS.le
      refine stepV (i := 0) rfl hF (fun w hS => Y.move hF rfl) rfl fun a hF => ?_
      refine stepV (i := 1) rfl hF (fun w hS => Y.fieldAddr fo_52_1 hF rfl) rfl fun a hF => ?_
      refine stepV (i := 2) rfl hF (fun w hS => Y.load1L 3 sz_3 hF rfl hS rfl rfl) rfl fun a hF => ?_
      refine stepV (i := 3) rfl hF (fun w hS => Y.sub hF rfl rfl) rfl fun a hF => ?_
      refine stepV (i := 4) rfl hF (fun w hS => Y.move hF rfl) rfl fun a hF => ?_
      refine stepV (i := 5) rfl hF (fun w hS => Y.move hF rfl) rfl fun a hF => ?_
      refine stepV (i := 6) rfl hF (fun w hS => Y.mul hF rfl rfl) rfl fun a hF => ?_
      refine stepV (i := 7) rfl hF (fun w hS => Y.add hF rfl rfl) rfl fun a hF => ?_
      refine oneV (i := 8) rfl ?_ trivial
      refine O.callP (us := [.slice p_1 bits.length c_1, .int .i64 (wr ((wr (2 * i)) + 1))]) ca_38 hF hS (remontoirref00_At_ok hS.stab bits (wr ((wr (2 * i)) + 1)) hs_1 rv_3 hx_4) rfl rfl fun a w hF hS => ?_
      refine nil (then_n ⟨hS.weak ⟨rfl, rfl, rfl, trivial⟩, ?_⟩)
      refine oneV (i := 9) rfl ?_ trivial
      refine O.callP (us := [.int .i64 rv_3, .int .i64 3]) ca_42 hF hS (remontoirref00_Rest_ok hS.stab rv_3 3 rv_4 hx_5) rfl rfl fun a w hF hS => ?_
      refine nil (then_n ⟨hS.weak ⟨rfl, rfl, rfl, trivial⟩, ?_⟩)
      exact toTailV ⟨hF.weak ⟨rfl, rfl, rfl, rfl, rfl, rfl, rfl, rfl, rfl, rfl, rfl, trivial⟩, hS.weak ⟨rfl, rfl, rfl, trivial⟩⟩
     rintro a w ⟨hF, hS⟩
     refine step hF (Y.sub hF rfl rfl) rfl fun a hF => ?_
     refine step hF (Y.assign hF rfl) rfl fun a hF => ?_
     refine nil (then_n ?_)
     refine seq ?_
     refine region ?_
     refine step hF (Y.move hF rfl) rfl fun a hF => ?_
     refine step hF (Y.move hF rfl) rfl fun a hF => ?_
     refine step hF (Y.move hF rfl) rfl fun a hF => ?_
     refine step hF (Y.fieldAddr fo_52_0 hF rfl) rfl fun a hF => ?_
     refine step hF (Y.load1L 3 sz_3 hF rfl hS rfl rfl) rfl fun a hF => ?_
     refine step hF (Y.max2 hF rfl rfl) rfl fun a hF => ?_
     refine step hF (Y.move hF rfl) rfl fun a hF => ?_
     refine step hF (Y.build (parts := [(0, (.tmp 48)), (1, (.tmp 52)), (2, (.tmp 53))]) (cs := #[.int .i64 rv_1, .int .i64 (if e.From > wr ((wr (now - e.Warm)) - rv_4) then e.From else wr ((wr (now - e.Warm)) - rv_4)), .int .i64 now]) hF rfl (by kernel_rfl)) rfl fun a hF => ?_
     have hr_3 : Reps C_SpareTurn Dv_2 [(SpareTurn.mk rv_1 (if e.From > wr ((wr (now - e.Warm)) - rv_4) then e.From else wr ((wr (now - e.Warm)) - rv_4)) now)] [.int .i64 rv_1, .int .i64 (if e.From > wr ((wr (now - e.Warm)) - rv_4) then e.From else wr ((wr (now - e.Warm)) - rv_4)), .int .i64 now] := Reps.cons (C := C_SpareTurn) (x := (SpareTurn.mk rv_1 (if e.From > wr ((wr (now - e.Warm)) - rv_4) then e.From else wr ((wr (now - e.Warm)) - rv_4)) now)) (c := [.int .i64 rv_1, .int .i64 (if e.From > wr ((wr (now - e.Warm)) - rv_4) then e.From else wr ((wr (now - e.Warm)) - rv_4)), .int .i64 now]) (r := []) rfl (Reps.nil)
     refine O.buildSlice (E := 46) (C := C_SpareTurn) (xs := [(SpareTurn.mk rv_1 (if e.From > wr ((wr (now - e.Warm)) - rv_4) then e.From else wr ((wr (now - e.Warm)) - rv_4)) now)]) (cs := [.int .i64 rv_1, .int .i64 (if e.From > wr ((wr (now - e.Warm)) - rv_4) then e.From else wr ((wr (now - e.Warm)) - rv_4)), .int .i64 now]) (us := [.agg #[.int .i64 rv_1, .int .i64 (if e.From > wr ((wr (now - e.Warm)) - rv_4) then e.From else wr ((wr (now - e.Warm)) - rv_4)), .int .i64 now]]) (parts := [(0, (.tmp 54))]) 4 hF hS rfl (by kernel_rfl) hr_3 rfl rfl rfl fun p_5 c_5 a w hF hS => ?_
     obtain ⟨hg, h⟩ := ite_some h
     refine O.append (C := C_SpareTurn) (xs := outv_1) (ys := [(SpareTurn.mk rv_1 (if e.From > wr ((wr (now - e.Warm)) - rv_4) then e.From else wr ((wr (now - e.Warm)) - rv_4)) now)]) 2 gr_25 hF rfl rfl hS rfl (src_own (i := 4) hS rfl) hr_1 hr_3 hg rfl fun p_6 c_6 a w hF hS hr_4 => ?_
     refine step hF (Y.assign hF rfl) rfl fun a hF => ?_
     refine nil (then_n ?_)
     refine seq ?_
     refine region ?_
     refine step hF (Y.move hF rfl) rfl fun a hF => ?_
     refine step hF (Y.move hF rfl) rfl fun a hF => ?_
     obtain ⟨hg_1, h⟩ := ite_some h
     refine step hF (Y.shl hF rfl rfl hg_1) rfl fun a hF => ?_
     refine step hF (Y.or hF rfl rfl) rfl fun a hF => ?_
     refine step hF (Y.assign hF rfl) rfl fun a hF => ?_
     refine nil (then_n ?_)
     refine seq ?_
     refine region ?_
     refine step hF (Y.fieldAddr fo_24_0 hF rfl) rfl fun a hF => ?_
     refine step hF (Y.load1L 1 sz_3 hF rfl hS rfl rfl) rfl fun a hF => ?_
     refine step hF (Y.move hF rfl) rfl fun a hF => ?_
     refine step hF (Y.fieldAddr fo_52_2 hF rfl) rfl fun a hF => ?_
     refine step hF (Y.fieldAddr fo_50_0 hF rfl) rfl fun a hF => ?_
     refine step hF (Y.load1L 3 sz_3 hF rfl hS rfl rfl) rfl fun a hF => ?_
     refine step hF (Y.add hF rfl rfl) rfl fun a hF => ?_
     refine step hF (Y.move hF rfl) rfl fun a hF => ?_
     refine step hF (Y.sub hF rfl rfl) rfl fun a hF => ?_
     refine step hF (Y.max2 hF rfl rfl) rfl fun a hF => ?_
     refine step hF (Y.min2 hF rfl rfl) rfl fun a hF => ?_
     refine step hF (Y.assign hF rfl) rfl fun a hF => ?_
     refine nil (then_n ?_)
     refine seq ?_
     refine region ?_
     refine step hF (Y.move hF rfl) rfl fun a hF => ?_
     refine step hF (Y.move hF rfl) rfl fun a hF => ?_
     refine step hF (Y.move hF rfl) rfl fun a hF => ?_
     refine step hF (Y.add hF rfl rfl) rfl fun a hF => ?_
     obtain ⟨rv_5, hx_6, h⟩ := bind_some h
     refine O.callP (us := [.slice p_1 bits.length c_1, .int .i64 (wr (i + 3))]) ca_38 hF hS (remontoirref00_At_ok hS.stab bits (wr (i + 3)) hs_1 rv_5 hx_6) rfl rfl fun a w hF hS => ?_
     refine step hF (Y.move hF rfl) rfl fun a hF => ?_
     obtain ⟨rv_6, hx_7, h⟩ := bind_some h
     refine O.callP (us := [.int .i64 rv_5, .int .i64 (if (if wr ((wr ((wr ((wr (now - e.Warm)) - rv_4)) + e.Life.Low)) - now) > 1 then wr ((wr ((wr ((wr (now - e.Warm)) - rv_4)) + e.Life.Low)) - now) else 1) < sv.Hours then (if wr ((wr ((wr ((wr (now - e.Warm)) - rv_4)) + e.Life.Low)) - now) > 1 then wr ((wr ((wr ((wr (now - e.Warm)) - rv_4)) + e.Life.Low)) - now) else 1) else sv.Hours)]) ca_42 hF hS (remontoirref00_Rest_ok hS.stab rv_5 (if (if wr ((wr ((wr ((wr (now - e.Warm)) - rv_4)) + e.Life.Low)) - now) > 1 then wr ((wr ((wr ((wr (now - e.Warm)) - rv_4)) + e.Life.Low)) - now) else 1) < sv.Hours then (if wr ((wr ((wr ((wr (now - e.Warm)) - rv_4)) + e.Life.Low)) - now) > 1 then wr ((wr ((wr ((wr (now - e.Warm)) - rv_4)) + e.Life.Low)) - now) else 1) else sv.Hours) rv_6 hx_7) rfl rfl fun a w hF hS => ?_
     refine step hF (Y.add hF rfl rfl) rfl fun a hF => ?_
     refine step hF (Y.add hF rfl rfl) rfl fun a hF => ?_
     refine step hF (Y.assign hF rfl) rfl fun a hF => ?_
     refine nil (then_n ?_)
     refine seq ?_
     refine region ?_
     refine step hF (Y.move hF rfl) rfl fun a hF => ?_
     refine step hF (Y.fieldAddr fo_24_0 hF rfl) rfl fun a hF => ?_
     refine step hF (Y.load1L 1 sz_3 hF rfl hS rfl rfl) rfl fun a hF => ?_
     refine step hF (Y.geq hF rfl rfl) rfl fun a hF => ?_
     refine nil (then_n ?_)
     refine cond_b hF rfl (fun hbv_2 => ?_) (fun hbv_2 => ?_)
     ·replace h := cond_t h hbv_2
      refine exit_ (blk_miss rfl (then_x (then_x (blk_hit (then_n ?_)))))
      replace h := ext_some h hxo
      exact ⟨(outv_1 ++ [(SpareTurn.mk rv_1 (if e.From > wr ((wr (now - e.Warm)) - rv_4) then e.From else wr ((wr (now - e.Warm)) - rv_4)) now)]), Dv_2, p_6, c_6, (cs_1 ++ [.int .i64 rv_1, .int .i64 (if e.From > wr ((wr (now - e.Warm)) - rv_4) then e.From else wr ((wr (now - e.Warm)) - rv_4)), .int .i64 now]), hlev_2, hF.weak ⟨rfl, rfl, trivial⟩, hS.weak ⟨rfl, rfl, trivial⟩, hr_4, h⟩
     ·replace h := cond_f h hbv_2
      refine skip_ (blk_n (then_n ?_))
      exact ⟨(outv_1 ++ [(SpareTurn.mk rv_1 (if e.From > wr ((wr (now - e.Warm)) - rv_4) then e.From else wr ((wr (now - e.Warm)) - rv_4)) now)]), (wr (now + (wr (1 + rv_6)))), (bitsOp .or used (gshl 1 rv_1)), Dv_2, p_6, c_6, (cs_1 ++ [.int .i64 rv_1, .int .i64 (if e.From > wr ((wr (now - e.Warm)) - rv_4) then e.From else wr ((wr (now - e.Warm)) - rv_4)), .int .i64 now]), Stab.le.refl _, hF.weak ⟨rfl, rfl, rfl, rfl, rfl, rfl, rfl, trivial⟩, hS.weak ⟨rfl, rfl, trivial⟩, hr_4, h⟩
   ·rintro a w ⟨outv_2, now_1, used_1, Dv_3, p_4, c_4, cs_2, hlev_3, hF, hS, hr_2, h⟩
    unfold remontoirlaw08_tried_k3 at h
    replace hs := hs.mono hlev_3
    replace hs_1 := hs_1.mono hlev_3
    replace hr_1 := hr_1.mono hlev_3
    refine region ?_
    refine step hF (Y.move hF rfl) rfl fun a hF => ?_
    refine step hF (Y.add hF rfl rfl) rfl fun a hF => ?_
    refine step hF (Y.assign hF rfl) rfl fun a hF => ?_
    refine nil (then_n ?_)
    exact ⟨_, nxt_some h, outv_2, now_1, used_1, (wr (i + 1)), Dv_3, p_4, c_4, cs_2, rfl, hlev_2.trans hlev_3, hF.weak ⟨rfl, rfl, rfl, rfl, rfl, rfl, rfl, trivial⟩, hS.weak ⟨rfl, rfl, trivial⟩, hr_2⟩
  ·replace h := cond_f h hbv
   refine exit_ (then_x (then_x (blk_hit (then_n ?_))))
   replace h := ext_some h hxo
   exact ⟨outv_1, Dv_2, p_3, c_3, cs_1, hlev_2, hF.weak ⟨rfl, rfl, trivial⟩, hS.weak ⟨rfl, rfl, trivial⟩, hr_1, h⟩
 ·rintro a w ⟨outv, Dv, p_2, c_2, cs, hlev, hF, hS, hr, h⟩
  unfold remontoirlaw08_tried_k1 at h
  replace hs := hs.mono hlev
  replace hs_1 := hs_1.mono hlev
  refine seq ?_
  refine region ?_
  refine step hF (Y.move hF rfl) rfl fun a hF => ?_
  refine step hF (Y.assign hF rfl) rfl fun a hF => ?_
  refine nil (then_n ?_)
  refine ret_ ?_
  obtain ⟨Dv_1, hlev_1, hs_2, hS⟩ := hS.freezeC (i := 2) (xs := outv) rfl hr
  replace hs := hs.mono hlev_1
  replace hs_1 := hs_1.mono hlev_1
  replace hr := hr.mono hlev_1
  obtain rfl := some_inj h
  exact leaveS Tryd.results41 hF hS (.cons (.tmp rfl) .nil) .nil ⟨_, _, rfl, hs_2⟩

end Go.Proofs.YtidmdgjgpmeecaaDoor.Rt
