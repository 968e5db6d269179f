/- Walks of the functions of this seat: what each Go function comes to, as a Lean function, and the proof. A law. Under no conditions. -/
import Derived.Test.YtidmdgjgpmeecaaDoorWTZ
set_option linter.unusedVariables false
set_option linter.unusedSimpArgs false
set_option maxRecDepth 100000
set_option maxHeartbeats 4000000
namespace Go.Proofs.YtidmdgjgpmeecaaDoor.Rt
open Go Go.RowKit
noncomputable def remontoirlaw08_SpareTried_k2 (sv : SpareStore) (rv_2 : (List SpareTurn)) (v4_0 : Bool) (all : Bool) (stints : Bool) (i : Int) (e_1 : SpareMachine) (untilv : Int) (lasts : Int) : Option ((Bool × Bool × Bool × Int) ⊕ Bool) :=
  (cond stints ((idx rv_2 i).bind fun e_3 =>
  some (decide ((wr (untilv - e_3.Over)) ≤ lasts))) (some false)).bind fun t =>
  (cond all ((idx rv_2 i).bind fun e_4 =>
  some (decide (e_4.Start ≥ e_1.From))) (some false)).bind fun t_1 =>
  (cond t_1 ((idx rv_2 i).bind fun e_5 =>
  (idx rv_2 i).bind fun e_6 =>
  some (decide (e_5.Over ≥ (wr (e_6.Start + e_1.Warm))))) (some false)).bind fun t_2 =>
  (cond t_2 ((idx rv_2 i).bind fun e_7 =>
  some (decide ((wr (e_7.Start + e_1.Life.Low)) ≥ untilv))) (some false)).bind fun t_3 =>
  (cond t_3 ((idx rv_2 i).bind fun e_8 =>
  some (decide (untilv > e_8.Over))) (some false)).bind fun t_4 =>
  (cond t_4 ((idx rv_2 i).bind fun e_9 =>
  some (decide (e_9.Over < sv.Hours))) (some false)).bind fun t_5 =>
  cond (decide (i > 0))
  ((idx rv_2 (wr (i - 1))).bind fun e_10 =>
  (idx sv.Machines e_10.Machine).bind fun e_11 =>
  (cond t_5 ((idx rv_2 i).bind fun e_12 =>
  (idx rv_2 (wr (i - 1))).bind fun e_13 =>
  (idx rv_2 i).bind fun e_14 =>
  (idx rv_2 i).bind fun e_15 =>
  some (decide ((wr ((wr (e_11.Drift * (wr ((wr (e_12.Over - e_13.Start)) - e_11.Warm)))) + (wr (e_1.Drift * (wr ((wr (e_14.Over - e_15.Start)) - e_1.Warm)))))) ≤ sv.Gap))) (some false)).bind fun t_6 =>
  nxt (v4_0, t_6, t, wr (i + 1)))
  (nxt (v4_0, t_5, t, wr (i + 1)))
noncomputable def remontoirlaw08_SpareTried_k3 (v4_1 : Bool) : Option Bool :=
  (remontoirlaw08_works).bind fun rv_5 =>
  some rv_5
noncomputable def remontoirlaw08_SpareTried_b1 (sv : SpareStore) (rv_2 : (List SpareTurn)) (rv_3 : (Bool × Int)) : (Bool × Bool × Bool × Int) → Option ((Bool × Bool × Bool × Int) ⊕ Bool)
 | (v4_0, all, stints, i) =>
  cond (decide (i < (rv_2.length : Int)))
  ((idx rv_2 i).bind fun e =>
  (idx sv.Machines e.Machine).bind fun e_1 =>
  (idx rv_2 i).bind fun e_2 =>
  (spare_Lasts sv e_2.Machine).bind fun rv_4 =>
  cond ((((((rv_4.2.2 != 0) || (decide (rv_4.1 > rv_4.2.1))) || (decide (rv_4.1 < 0))) || (rv_4.2.1 != (if wr (e_1.Life.Low - e_1.Warm) > 0 then wr (e_1.Life.Low - e_1.Warm) else 0))) || (decide ((wr (e_1.Drift * rv_4.1)) > sv.Gap))) || ((decide (rv_4.1 < rv_4.2.1)) && (decide ((wr (e_1.Drift * (wr (rv_4.1 + 1)))) ≤ sv.Gap))))
  (ext (some false))
  (cond (decide ((wr (i + 1)) < (rv_2.length : Int)))
  ((idx rv_2 (wr (i + 1))).bind fun e_16 =>
  remontoirlaw08_SpareTried_k2 sv rv_2 v4_0 all stints i e_1 e_16.Over rv_4.1)
  (remontoirlaw08_SpareTried_k2 sv rv_2 v4_0 all stints i e_1 sv.Hours rv_4.2.1)))
  (ext (cond ((rv_3.1 != all) || (rv_3.1 && (!stints)))
  (some false)
  (cond (decide ((rv_2.length : Int) > 1))
  (if ([] : List SpareTurn).length + rv_2.length ≤ lim then
  (idx rv_2 0).bind fun e_17 =>
  (idx (([] : List SpareTurn) ++ rv_2) 1).bind fun e_18 =>
  (spare_IsPlan sv ((([] : List SpareTurn) ++ rv_2).set (Int.toNat 1) (SpareTurn.mk e_17.Machine e_18.Start e_18.Over))).bind fun rv_6 =>
  cond ((rv_6.2 != 0) || rv_6.1)
  (some false)
  (remontoirlaw08_SpareTried_k3 v4_0)
  else none)
  (remontoirlaw08_SpareTried_k3 v4_0))))
noncomputable def remontoirlaw08_SpareTried (sv : SpareStore) (bits : (List Int)) : Option Bool :=
  (remontoirlaw08_sound sv).bind fun rv =>
  cond (!rv)
  ((remontoirlaw08_works).bind fun rv_1 =>
  some rv_1)
  ((remontoirlaw08_tried sv bits).bind fun rv_2 =>
  (spare_IsPlan sv rv_2).bind fun rv_3 =>
  cond (rv_3.2 != 0)
  (some false)
  (loopU (remontoirlaw08_SpareTried_b1 sv rv_2 rv_3) (false, true, true, 0)))
theorem remontoirlaw08_SpareTried_ok {w0 : World} {D0 : Stab} (hD : D0.on w0) (sv : SpareStore) (bits : (List Int)) {p : Option Addr} {c : Nat} {p_1 : Option Addr} {c_1 : Nat} (hs : SRc C_SpareMachine D0 sv.Machines p c) (hs_1 : SRc C_int D0 bits p_1 c_1) (hG : Glob D0) (out : Bool) (h : remontoirlaw08_SpareTried sv bits = some out) : Calls Tryd.prog 9 [.agg #[.int .i64 sv.Hours, .int .i64 sv.Gap, .slice p sv.Machines.length c], .slice p_1 bits.length c_1].toArray w0 (RetP D0 w0 (.bool out)) := by
 refine enter _ 283 Tryd.func9 rfl Tryd.ntmps9 rfl fun a hF => ?_
 replace hF : Frm 283 [] [(0, .agg #[.int .i64 sv.Hours, .int .i64 sv.Gap, .slice p sv.Machines.length c]), (1, .slice p_1 bits.length c_1)] a := hF
 have hS := St.start hD
 unfold remontoirlaw08_SpareTried at h
 refine seq ?_
 refine region ?_
 refine O.box (cs := [.int .i64 sv.Hours, .int .i64 sv.Gap, .slice p sv.Machines.length c]) 1 hF rfl rfl hS rfl fun b a w hF hS => ?_
 refine step hF (Y.assign hF rfl) rfl fun a hF => ?_
 refine nil (then_n ?_)
 refine seq ?_
 refine seq ?_
 refine region ?_
 refine step hF (Y.loadNL 1 sz_24 hF rfl hS rfl rfl rfl) rfl fun a hF => ?_
 obtain ⟨rv, hx, h⟩ := bind_some h
 refine O.callP (us := [.agg #[.int .i64 sv.Hours, .int .i64 sv.Gap, .slice p sv.Machines.length c]]) ca_34 hF hS (remontoirlaw08_sound_ok hS.stab sv hs rv hx) rfl rfl fun a w hF hS => ?_
 refine step hF (Y.not hF rfl) rfl fun a hF => ?_
 refine nil (then_n ?_)
 refine cond_b hF rfl (fun hbv => ?_) (fun hbv => ?_)
 ·replace h := cond_t h hbv
  refine seq ?_
  refine region ?_
  obtain ⟨rv_1, hx_1, h⟩ := bind_some h
  refine O.callP (us := []) ca_21 hF hS (remontoirlaw08_works_ok hS.stab hG rv_1 hx_1) rfl rfl fun a w hF hS => ?_
  refine step hF (Y.assign hF rfl) rfl fun a hF => ?_
  refine nil (then_n ?_)
  refine ret_ (then_r ?_)
  obtain rfl := some_inj h
  exact leaveP Tryd.results9 hF hS (.cons (.tmp rfl) .nil) .nil rfl
 ·replace h := cond_f h hbv
  refine skip_ (then_n ?_)
  refine seq ?_
  refine region ?_
  refine step hF (Y.loadNL 1 sz_24 hF rfl hS rfl rfl rfl) rfl fun a hF => ?_
  refine step hF (Y.move hF rfl) rfl fun a hF => ?_
  obtain ⟨rv_2, hx_2, h⟩ := bind_some h
  refine O.callS (us := [.agg #[.int .i64 sv.Hours, .int .i64 sv.Gap, .slice p sv.Machines.length c], .slice p_1 bits.length c_1]) ca_41 hF hS (remontoirlaw08_tried_ok hS.stab sv bits hs hs_1 rv_2 hx_2) rfl rfl fun v Dv a w hR hlev hF hS => ?_
  replace hs := hs.mono hlev
  replace hs_1 := hs_1.mono hlev
  replace hG := hG.mono hlev
  obtain ⟨p_2, c_2, rfl, hs_2⟩ := hR
  refine step hF (Y.assign hF rfl) rfl fun a hF => ?_
  refine nil (then_n ?_)
  refine seq ?_
  refine region ?_
  refine step hF (Y.loadNL 1 sz_24 hF rfl hS rfl rfl rfl) rfl fun a hF => ?_
  refine step hF (Y.move hF rfl) rfl fun a hF => ?_
  obtain ⟨rv_3, hx_3, h⟩ := bind_some h
  refine O.callP (us := [.agg #[.int .i64 sv.Hours, .int .i64 sv.Gap, .slice p sv.Machines.length c], .slice p_2 rv_2.length c_2]) ca_19 hF hS (spare_IsPlan_ok hS.stab sv rv_2 hs hs_2 rv_3 hx_3) rfl rfl fun a w hF hS => ?_
  refine step hF (Y.move hF rfl) rfl fun a hF => ?_
  refine step hF (Y.extract hF rfl rfl) rfl fun a hF => ?_
  refine step hF (Y.extract hF rfl rfl) rfl fun a hF => ?_
  refine step hF (Y.assign hF rfl) rfl fun a hF => ?_
  refine step hF (Y.assign hF rfl) rfl fun a hF => ?_
  refine nil (then_n ?_)
  refine seq ?_
  refine seq ?_
  refine region ?_
  refine step hF (Y.move hF rfl) rfl fun a hF => ?_
  refine step hF (Y.neq hF rfl rfl) rfl fun a hF => ?_
  refine nil (then_n ?_)
  refine cond_b hF rfl (fun hbv_1 => ?_) (fun hbv_1 => ?_)
  ·replace h := cond_t h hbv_1
   refine seq ?_
   refine region ?_
   refine step hF (Y.assign hF rfl) rfl fun a hF => ?_
   refine nil (then_n ?_)
   refine ret_ (then_r ?_)
   obtain rfl := some_inj h
   exact leaveP Tryd.results9 hF hS (.cons (.tmp rfl) .nil) .nil rfl
  ·replace h := cond_f h hbv_1
   refine skip_ (then_n ?_)
   refine seq ?_
   refine region ?_
   refine step hF (Y.assign hF rfl) rfl fun a hF => ?_
   refine step hF (Y.assign hF rfl) rfl fun a hF => ?_
   refine nil (then_n ?_)
   refine seq ?_
   refine seq ?_
   refine region ?_
   refine step hF (Y.assign hF rfl) rfl fun a hF => ?_
   refine nil (then_n ?_)
   refine block ?_
   refine loop_cut (body := remontoirlaw08_SpareTried_b1 sv rv_2 rv_3) (out := out) (fun s a w => ∃ (v4_0 : Bool) (all : Bool) (stints : Bool) (i : Int), ∃ (Dv_1 : Stab), s = (v4_0, all, stints, i) ∧ Dv.le Dv_1 ∧ Frm 283 [] [(2, .pointer (some ⟨b, 0, none⟩)), (4, .bool v4_0), (5, .slice p_2 rv_2.length c_2), (6, .bool rv_3.1), (8, .bool all), (9, .bool stints), (10, .int .i64 i)] a ∧ St w0 D0 Dv_1 [(1, .cells b [.int .i64 sv.Hours, .int .i64 sv.Gap, .slice p sv.Machines.length c] 24)] w) (false, true, true, 0) h ⟨false, true, true, 0, Dv, rfl, Stab.le.refl _, hF.weak ⟨rfl, rfl, rfl, rfl, rfl, rfl, rfl, trivial⟩, hS.weak ⟨rfl, trivial⟩⟩ ?_
   rintro s a w xo ⟨v4_0, all, stints, i, Dv_1, rfl, hlev_1, hF, hS⟩ h hxo
   unfold remontoirlaw08_SpareTried_b1 at h
   dsimp only at h
   replace hs := hs.mono hlev_1
   replace hs_1 := hs_1.mono hlev_1
   replace hG := hG.mono hlev_1
   replace hs_2 := hs_2.mono hlev_1
   refine seq ?_
   refine seq ?_
   refine region ?_
   refine step hF (Y.move hF rfl) rfl fun a hF => ?_
   refine step hF (Y.move hF rfl) rfl fun a hF => ?_
   refine step hF (Y.lenSl u_25 hF rfl) rfl fun a hF => ?_
   refine step hF (Y.lss hF rfl rfl) rfl fun a hF => ?_
   refine nil (then_n ?_)
   refine cond_b hF rfl (fun hbv_2 => ?_) (fun hbv_2 => ?_)
   ·replace h := cond_t h hbv_2
    refine skip_ (then_n ?_)
    refine seq ?_
    refine block ?_
    refine seq ?_
    obtain ⟨e, hx_4, h⟩ := bind_some h
    obtain ⟨e_1, hx_5, h⟩ := bind_some h
    refine drawsV 10 (.flt 0 (.flt 1 (.flt 2 (.flt 3 (.flt 4 (.flt 5 (.flt 6 (.flt 7 (.flt 8 (.alt 9 .done .stop)))))))))) mixed_ (by kernel_rfl) (fun w => St w0 D0 Dv_1 [(1, .cells b [.int .i64 sv.Hours, .int .i64 sv.Gap, .slice p sv.Machines.length c] 24)] w) (fun a w => ∃ (b_3 : Nat), Frm 283 [] [(2, .pointer (some ⟨b, 0, none⟩)), (4, .bool v4_0), (5, .slice p_2 rv_2.length c_2), (6, .bool rv_3.1), (8, .bool all), (9, .bool stints), (10, .int .i64 i), (11, .pointer (some ⟨b_3, 0, none⟩)), (50, .agg #[.int .i64 e_1.From, .int .i64 e_1.Warm, .int .i64 e_1.Life.Low, .int .i64 e_1.Life.High, .int .i64 e_1.Drift])] a ∧ St w0 D0 Dv_1 [(1, .cells b [.int .i64 sv.Hours, .int .i64 sv.Gap, .slice p sv.Machines.length c] 24), (2, .cells b_3 [.int .i64 0, .int .i64 0, .int .i64 0, .int .i64 0, .int .i64 0] 52)] w) (hS.weak (ms := [(1, .cells b [.int .i64 sv.Hours, .int .i64 sv.Gap, .slice p sv.Machines.length c] 24)]) ⟨rfl, trivial⟩).drew (fun _ _ _ _ h => h) ?_ ?_
    ·replace hS := hS.drew
     have hle0 := hS.le
     refine stepV (i := 0) rfl hF (fun w hS => Y.fieldAddr fo_24_2 hF rfl) rfl fun a hF => ?_
     refine stepV (i := 1) rfl hF (fun w hS => Y.load1L 1 sz_22 hF rfl hS rfl rfl) rfl fun a hF => ?_
     refine stepV (i := 2) rfl hF (fun w hS => Y.move hF rfl) rfl fun a hF => ?_
     refine stepV (i := 3) rfl hF (fun w hS => Y.move hF rfl) rfl fun a hF => ?_
     obtain ⟨b_4, o_2, hE_2, hY_2⟩ := Y.indexS (P := Tryd.prog) (C := C_SpareTurn) (xs := rv_2) (T := 25) (x := (.tmp 44)) (y := (.tmp 45)) u_25 sz_46 hF rfl rfl (hs_2).1 hx_4
     obtain ⟨cc_2, hc_2, hcell_2⟩ := hE_2.open
     obtain rfl := C_SpareTurn.open hc_2
     refine stepV (i := 4) rfl hF (fun w hS => hY_2) rfl fun a hF => ?_
     refine stepV (i := 5) rfl hF (fun w hS => Y.fieldAddr fo_46_0 hF rfl) rfl fun a hF => ?_
     refine stepV (i := 6) rfl hF (fun w hS => Y.load1 sz_3 hF rfl (hcell_2 _ hS.stab 0 _ rfl)) rfl fun a hF => ?_
     obtain ⟨b_5, o_3, hE_3, hY_3⟩ := Y.indexS (P := Tryd.prog) (C := C_SpareMachine) (xs := sv.Machines) (T := 22) (x := (.tmp 43)) (y := (.tmp 48)) u_22 sz_52 hF rfl rfl (hs).1 hx_5
     obtain ⟨cc_3, hc_3, hcell_3⟩ := hE_3.open
     obtain rfl := C_SpareMachine.open hc_3
     refine stepV (i := 7) rfl hF (fun w hS => hY_3) rfl fun a hF => ?_
     refine stepV (i := 8) rfl hF (fun w hS => Y.loadNE (o := o_3) (k := 0) sz_52 hF rfl (hcell_3 _ hS.stab) rfl rfl) rfl fun a hF => ?_
     refine oneV (i := 9) rfl ?_ trivial
     refine O.alloc 2 zc_52 hF hS rfl fun b_6 a w hF hS => ?_
     refine nil (then_n ⟨hS.weak ⟨rfl, trivial⟩, ?_⟩)
     exact toTailV ⟨b_6, hF.weak ⟨rfl, rfl, rfl, rfl, rfl, rfl, rfl, rfl, rfl, trivial⟩, hS.weak ⟨rfl, rfl, trivial⟩⟩
    rintro a w ⟨b_3, hF, hS⟩
    refine O.store (us := [.int .i64 e_1.From, .int .i64 e_1.Warm, .int .i64 e_1.Life.Low, .int .i64 e_1.Life.High, .int .i64 e_1.Drift]) 2 sz_52 hF rfl rfl rfl rfl hS rfl rfl fun a w hF hS => ?_
    refine nil (then_n ?_)
    refine seq ?_
    obtain ⟨e_2, hx_6, h⟩ := bind_some h
    obtain ⟨rv_4, hx_7, h⟩ := bind_some h
    refine drawsV 13 (.flt 0 (.flt 1 (.flt 2 (.flt 3 (.flt 4 (.flt 5 (.alt 6 (.flt 7 (.flt 8 (.flt 9 (.flt 10 (.flt 11 (.flt 12 .done)))))) .stop))))))) mixed_ (by kernel_rfl) (fun w => St w0 D0 Dv_1 [(1, .cells b [.int .i64 sv.Hours, .int .i64 sv.Gap, .slice p sv.Machines.length c] 24), (2, .cells b_3 [.int .i64 e_1.From, .int .i64 e_1.Warm, .int .i64 e_1.Life.Low, .int .i64 e_1.Life.High, .int .i64 e_1.Drift] 52)] w) (fun a w => Frm 283 [] [(2, .pointer (some ⟨b, 0, none⟩)), (4, .bool v4_0), (5, .slice p_2 rv_2.length c_2), (6, .bool rv_3.1), (8, .bool all), (9, .bool stints), (10, .int .i64 i), (11, .pointer (some ⟨b_3, 0, none⟩)), (12, .int .i64 rv_4.1), (13, .int .i64 rv_4.2.1), (61, .int .i64 rv_4.2.2)] a ∧ St w0 D0 Dv_1 [(1, .cells b [.int .i64 sv.Hours, .int .i64 sv.Gap, .slice p sv.Machines.length c] 24), (2, .cells b_3 [.int .i64 e_1.From, .int .i64 e_1.Warm, .int .i64 e_1.Life.Low, .int .i64 e_1.Life.High, .int .i64 e_1.Drift] 52)] w) (hS.weak (ms := [(1, .cells b [.int .i64 sv.Hours, .int .i64 sv.Gap, .slice p sv.Machines.length c] 24), (2, .cells b_3 [.int .i64 e_1.From, .int .i64 e_1.Warm, .int .i64 e_1.Life.Low, .int .i64 e_1.Life.High, .int .i64 e_1.Drift] 52)]) ⟨rfl, rfl, trivial⟩).drew (fun _ _ _ _ h => h) ?_ ?_
    ·replace hS := hS.drew
     have hle0 := hS.le
     refine stepV (i := 0) rfl hF (fun w hS => Y.loadNL 1 sz_24 hF rfl hS rfl rfl rfl) rfl fun a hF => ?_
     refine stepV (i := 1) rfl hF (fun w hS => Y.move hF rfl) rfl fun a hF => ?_
     refine stepV (i := 2) rfl hF (fun w hS => Y.move hF rfl) rfl fun a hF => ?_
     obtain ⟨b_8, o_5, hE_5, hY_5⟩ := Y.indexS (P := Tryd.prog) (C := C_SpareTurn) (xs := rv_2) (T := 25) (x := (.tmp 53)) (y := (.tmp 54)) u_25 sz_46 hF rfl rfl (hs_2).1 hx_6
     obtain ⟨cc_5, hc_5, hcell_5⟩ := hE_5.open
     obtain rfl := C_SpareTurn.open hc_5
     refine stepV (i := 3) rfl hF (fun w hS => hY_5) rfl fun a hF => ?_
     refine stepV (i := 4) rfl hF (fun w hS => Y.fieldAddr fo_46_0 hF rfl) rfl fun a hF => ?_
     refine stepV (i := 5) rfl hF (fun w hS => Y.load1 sz_3 hF rfl (hcell_5 _ hS.stab 0 _ rfl)) rfl fun a hF => ?_
     refine oneV (i := 6) rfl ?_ trivial
     refine O.callP (us := [.agg #[.int .i64 sv.Hours, .int .i64 sv.Gap, .slice p sv.Machines.length c], .int .i64 e_2.Machine]) ca_15 hF hS (spare_Lasts_ok hS.stab sv e_2.Machine hs hG rv_4 hx_7) rfl rfl fun a w hF hS => ?_
     refine nil (then_n ⟨hS.weak ⟨rfl, rfl, trivial⟩, ?_⟩)
     refine stepV (i := 7) rfl hF (fun w hS => Y.move hF rfl) rfl fun a hF => ?_
     refine stepV (i := 8) rfl hF (fun w hS => Y.extract hF rfl rfl) rfl fun a hF => ?_
     refine stepV (i := 9) rfl hF (fun w hS => Y.extract hF rfl rfl) rfl fun a hF => ?_
     refine stepV (i := 10) rfl hF (fun w hS => Y.extract hF rfl rfl) rfl fun a hF => ?_
     refine stepV (i := 11) rfl hF (fun w hS => Y.assign hF rfl) rfl fun a hF => ?_
     refine stepV (i := 12) rfl hF (fun w hS => Y.assign hF rfl) rfl fun a hF => ?_
     exact toTailV ⟨hF.weak ⟨rfl, rfl, rfl, rfl, rfl, rfl, rfl, rfl, rfl, rfl, rfl, trivial⟩, hS.weak ⟨rfl, rfl, trivial⟩⟩
    rintro a w ⟨hF, hS⟩
    refine step hF (Y.assign hF rfl) rfl fun a hF => ?_
    refine nil (then_n ?_)
    refine seq ?_
    refine seq ?_
    refine region ?_
    refine step hF (Y.move hF rfl) rfl fun a hF => ?_
    refine step hF (Y.neq hF rfl rfl) rfl fun a hF => ?_
    refine step hF (Y.move hF rfl) rfl fun a hF => ?_
    refine join (N := 283) (rs := []) (w0 := w0) (D0 := D0) 4 (us := [(2, .pointer (some ⟨b, 0, none⟩)), (4, .bool v4_0), (5, .slice p_2 rv_2.length c_2), (6, .bool rv_3.1), (8, .bool all), (9, .bool stints), (10, .int .i64 i), (11, .pointer (some ⟨b_3, 0, none⟩)), (12, .int .i64 rv_4.1), (13, .int .i64 rv_4.2.1), (68, .bool ((rv_4.2.2 != 0) || (decide (rv_4.1 > rv_4.2.1))))]) (ms := [(1, .cells b [.int .i64 sv.Hours, .int .i64 sv.Gap, .slice p sv.Machines.length c] 24), (2, .cells b_3 [.int .i64 e_1.From, .int .i64 e_1.Warm, .int .i64 e_1.Life.Low, .int .i64 e_1.Life.High, .int .i64 e_1.Drift] 52)]) (D' := Dv_1) ?_ ?_
    ·rcases bcases (rv_4.2.2 != 0) with hbv_3 | hbv_3
     ·-- true
      refine guard_off hF rfl rfl hbv_3 rfl fun a hF => ?_
      refine guard_off hF rfl rfl hbv_3 rfl fun a hF => ?_
      refine guard_off hF rfl rfl hbv_3 rfl fun a hF => ?_
      refine step hF (Y.pick_t hF rfl hbv_3 rfl) rfl fun a hF => ?_
      exact nil (then_n ⟨hF.weak ⟨rfl, rfl, rfl, rfl, rfl, rfl, rfl, rfl, rfl, rfl, (by rw [hbv_3]; rfl), trivial⟩, hS.weak ⟨rfl, rfl, trivial⟩⟩)
     ·-- false
      refine guard_on hF rfl rfl hbv_3 ?_
      refine step hF (Y.move hF rfl) rfl fun a hF => ?_
      refine guard_on hF rfl rfl hbv_3 ?_
      refine step hF (Y.move hF rfl) rfl fun a hF => ?_
      refine guard_on hF rfl rfl hbv_3 ?_
      refine step hF (Y.gtr hF rfl rfl) rfl fun a hF => ?_
      refine step hF (Y.pick_f hF rfl hbv_3 rfl) rfl fun a hF => ?_
      exact nil (then_n ⟨hF.weak ⟨rfl, rfl, rfl, rfl, rfl, rfl, rfl, rfl, rfl, rfl, (by rw [hbv_3]; rfl), trivial⟩, hS.weak ⟨rfl, rfl, trivial⟩⟩)
    intro a w hF hS
    refine step hF (Y.move hF rfl) rfl fun a hF => ?_
    refine join (N := 283) (rs := []) (w0 := w0) (D0 := D0) 3 (us := [(2, .pointer (some ⟨b, 0, none⟩)), (4, .bool v4_0), (5, .slice p_2 rv_2.length c_2), (6, .bool rv_3.1), (8, .bool all), (9, .bool stints), (10, .int .i64 i), (11, .pointer (some ⟨b_3, 0, none⟩)), (12, .int .i64 rv_4.1), (13, .int .i64 rv_4.2.1), (72, .bool (((rv_4.2.2 != 0) || (decide (rv_4.1 > rv_4.2.1))) || (decide (rv_4.1 < 0))))]) (ms := [(1, .cells b [.int .i64 sv.Hours, .int .i64 sv.Gap, .slice p sv.Machines.length c] 24), (2, .cells b_3 [.int .i64 e_1.From, .int .i64 e_1.Warm, .int .i64 e_1.Life.Low, .int .i64 e_1.Life.High, .int .i64 e_1.Drift] 52)]) (D' := Dv_1) ?_ ?_
    ·rcases bcases ((rv_4.2.2 != 0) || (decide (rv_4.1 > rv_4.2.1))) with hbv_4 | hbv_4
     ·-- true
      refine guard_off hF rfl rfl hbv_4 rfl fun a hF => ?_
      refine guard_off hF rfl rfl hbv_4 rfl fun a hF => ?_
      refine step hF (Y.pick_t hF rfl hbv_4 rfl) rfl fun a hF => ?_
      exact nil (then_n ⟨hF.weak ⟨rfl, rfl, rfl, rfl, rfl, rfl, rfl, rfl, rfl, rfl, (by rw [hbv_4]; rfl), trivial⟩, hS.weak ⟨rfl, rfl, trivial⟩⟩)
     ·-- false
      refine guard_on hF rfl rfl hbv_4 ?_
      refine step hF (Y.move hF rfl) rfl fun a hF => ?_
      refine guard_on hF rfl rfl hbv_4 ?_
      refine step hF (Y.lss hF rfl rfl) rfl fun a hF => ?_
      refine step hF (Y.pick_f hF rfl hbv_4 rfl) rfl fun a hF => ?_
      exact nil (then_n ⟨hF.weak ⟨rfl, rfl, rfl, rfl, rfl, rfl, rfl, rfl, rfl, rfl, (by rw [hbv_4]; rfl), trivial⟩, hS.weak ⟨rfl, rfl, trivial⟩⟩)
    intro a w hF hS
    refine step hF (Y.move hF rfl) rfl fun a hF => ?_
    refine join (N := 283) (rs := []) (w0 := w0) (D0 := D0) 10 (us := [(2, .pointer (some ⟨b, 0, none⟩)), (4, .bool v4_0), (5, .slice p_2 rv_2.length c_2), (6, .bool rv_3.1), (8, .bool all), (9, .bool stints), (10, .int .i64 i), (11, .pointer (some ⟨b_3, 0, none⟩)), (12, .int .i64 rv_4.1), (13, .int .i64 rv_4.2.1), (83, .bool ((((rv_4.2.2 != 0) || (decide (rv_4.1 > rv_4.2.1))) || (decide (rv_4.1 < 0))) || (rv_4.2.1 != (if wr (e_1.Life.Low - e_1.Warm) > 0 then wr (e_1.Life.Low - e_1.Warm) else 0))))]) (ms := [(1, .cells b [.int .i64 sv.Hours, .int .i64 sv.Gap, .slice p sv.Machines.length c] 24), (2, .cells b_3 [.int .i64 e_1.From, .int .i64 e_1.Warm, .int .i64 e_1.Life.Low, .int .i64 e_1.Life.High, .int .i64 e_1.Drift] 52)]) (D' := Dv_1) ?_ ?_
    ·rcases bcases (((rv_4.2.2 != 0) || (decide (rv_4.1 > rv_4.2.1))) || (decide (rv_4.1 < 0))) with hbv_5 | hbv_5
     ·-- true
      refine guard_off hF rfl rfl hbv_5 rfl fun a hF => ?_
      refine guard_off hF rfl rfl hbv_5 rfl fun a hF => ?_
      refine guard_off hF rfl rfl hbv_5 rfl fun a hF => ?_
      refine guard_off hF rfl rfl hbv_5 rfl fun a hF => ?_
      refine guard_off hF rfl rfl hbv_5 rfl fun a hF => ?_
      refine guard_off hF rfl rfl hbv_5 rfl fun a hF => ?_
      refine guard_off hF rfl rfl hbv_5 rfl fun a hF => ?_
      refine guard_off hF rfl rfl hbv_5 rfl fun a hF => ?_
      refine guard_off hF rfl rfl hbv_5 rfl fun a hF => ?_
      refine step hF (Y.pick_t hF rfl hbv_5 rfl) rfl fun a hF => ?_
      exact nil (then_n ⟨hF.weak ⟨rfl, rfl, rfl, rfl, rfl, rfl, rfl, rfl, rfl, rfl, (by rw [hbv_5]; rfl), trivial⟩, hS.weak ⟨rfl, rfl, trivial⟩⟩)
     ·-- false
      refine guard_on hF rfl rfl hbv_5 ?_
      refine step hF (Y.move hF rfl) rfl fun a hF => ?_
      refine guard_on hF rfl rfl hbv_5 ?_
      refine step hF (Y.fieldAddr fo_52_2 hF rfl) rfl fun a hF => ?_
      refine guard_on hF rfl rfl hbv_5 ?_
      refine step hF (Y.fieldAddr fo_50_0 hF rfl) rfl fun a hF => ?_
      refine guard_on hF rfl rfl hbv_5 ?_
      refine step hF (Y.load1L 2 sz_3 hF rfl hS rfl rfl) rfl fun a hF => ?_
      refine guard_on hF rfl rfl hbv_5 ?_
      refine step hF (Y.fieldAddr fo_52_1 hF rfl) rfl fun a hF => ?_
      refine guard_on hF rfl rfl hbv_5 ?_
      refine step hF (Y.load1L 2 sz_3 hF rfl hS rfl rfl) rfl fun a hF => ?_
      refine guard_on hF rfl rfl hbv_5 ?_
      refine step hF (Y.sub hF rfl rfl) rfl fun a hF => ?_
      refine guard_on hF rfl rfl hbv_5 ?_
      refine step hF (Y.max2 hF rfl rfl) rfl fun a hF => ?_
      refine guard_on hF rfl rfl hbv_5 ?_
      refine step hF (Y.neq hF rfl rfl) rfl fun a hF => ?_
      refine step hF (Y.pick_f hF rfl hbv_5 rfl) rfl fun a hF => ?_
      exact nil (then_n ⟨hF.weak ⟨rfl, rfl, rfl, rfl, rfl, rfl, rfl, rfl, rfl, rfl, (by rw [hbv_5]; rfl), trivial⟩, hS.weak ⟨rfl, rfl, trivial⟩⟩)
    intro a w hF hS
    refine step hF (Y.move hF rfl) rfl fun a hF => ?_
    refine join (N := 283) (rs := []) (w0 := w0) (D0 := D0) 8 (us := [(2, .pointer (some ⟨b, 0, none⟩)), (4, .bool v4_0), (5, .slice p_2 rv_2.length c_2), (6, .bool rv_3.1), (8, .bool all), (9, .bool stints), (10, .int .i64 i), (11, .pointer (some ⟨b_3, 0, none⟩)), (12, .int .i64 rv_4.1), (13, .int .i64 rv_4.2.1), (92, .bool (((((rv_4.2.2 != 0) || (decide (rv_4.1 > rv_4.2.1))) || (decide (rv_4.1 < 0))) || (rv_4.2.1 != (if wr (e_1.Life.Low - e_1.Warm) > 0 then wr (e_1.Life.Low - e_1.Warm) else 0))) || (decide ((wr (e_1.Drift * rv_4.1)) > sv.Gap))))]) (ms := [(1, .cells b [.int .i64 sv.Hours, .int .i64 sv.Gap, .slice p sv.Machines.length c] 24), (2, .cells b_3 [.int .i64 e_1.From, .int .i64 e_1.Warm, .int .i64 e_1.Life.Low, .int .i64 e_1.Life.High, .int .i64 e_1.Drift] 52)]) (D' := Dv_1) ?_ ?_
    ·rcases bcases ((((rv_4.2.2 != 0) || (decide (rv_4.1 > rv_4.2.1))) || (decide (rv_4.1 < 0))) || (rv_4.2.1 != (if wr (e_1.Life.Low - e_1.Warm) > 0 then wr (e_1.Life.Low - e_1.Warm) else 0))) with hbv_6 | hbv_6
     ·-- true
      refine guard_off hF rfl rfl hbv_6 rfl fun a hF => ?_
      refine guard_off hF rfl rfl hbv_6 rfl fun a hF => ?_
      refine guard_off hF rfl rfl hbv_6 rfl fun a hF => ?_
      refine guard_off hF rfl rfl hbv_6 rfl fun a hF => ?_
      refine guard_off hF rfl rfl hbv_6 rfl fun a hF => ?_
      refine guard_off hF rfl rfl hbv_6 rfl fun a hF => ?_
      refine guard_off hF rfl rfl hbv_6 rfl fun a hF => ?_
      refine step hF (Y.pick_t hF rfl hbv_6 rfl) rfl fun a hF => ?_
      exact nil (then_n ⟨hF.weak ⟨rfl, rfl, rfl, rfl, rfl, rfl, rfl, rfl, rfl, rfl, (by rw [hbv_6]; rfl), trivial⟩, hS.weak ⟨rfl, rfl, trivial⟩⟩)
     ·-- false
      refine guard_on hF rfl rfl hbv_6 ?_
      refine step hF (Y.fieldAddr fo_52_3 hF rfl) rfl fun a hF => ?_
      refine guard_on hF rfl rfl hbv_6 ?_
      refine step hF (Y.load1L 2 sz_3 hF rfl hS rfl rfl) rfl fun a hF => ?_
      refine guard_on hF rfl rfl hbv_6 ?_
      refine step hF (Y.move hF rfl) rfl fun a hF => ?_
      refine guard_on hF rfl rfl hbv_6 ?_
      refine step hF (Y.mul hF rfl rfl) rfl fun a hF => ?_
      refine guard_on hF rfl rfl hbv_6 ?_
      refine step hF (Y.fieldAddr fo_24_1 hF rfl) rfl fun a hF => ?_
      refine guard_on hF rfl rfl hbv_6 ?_
      refine step hF (Y.load1L 1 sz_3 hF rfl hS rfl rfl) rfl fun a hF => ?_
      refine guard_on hF rfl rfl hbv_6 ?_
      refine step hF (Y.gtr hF rfl rfl) rfl fun a hF => ?_
      refine step hF (Y.pick_f hF rfl hbv_6 rfl) rfl fun a hF => ?_
      exact nil (then_n ⟨hF.weak ⟨rfl, rfl, rfl, rfl, rfl, rfl, rfl, rfl, rfl, rfl, (by rw [hbv_6]; rfl), trivial⟩, hS.weak ⟨rfl, rfl, trivial⟩⟩)
    intro a w hF hS
    refine step hF (Y.move hF rfl) rfl fun a hF => ?_
    refine join (N := 283) (rs := []) (w0 := w0) (D0 := D0) 14 (us := [(2, .pointer (some ⟨b, 0, none⟩)), (4, .bool v4_0), (5, .slice p_2 rv_2.length c_2), (6, .bool rv_3.1), (8, .bool all), (9, .bool stints), (10, .int .i64 i), (11, .pointer (some ⟨b_3, 0, none⟩)), (12, .int .i64 rv_4.1), (13, .int .i64 rv_4.2.1), (107, .bool ((((((rv_4.2.2 != 0) || (decide (rv_4.1 > rv_4.2.1))) || (decide (rv_4.1 < 0))) || (rv_4.2.1 != (if wr (e_1.Life.Low - e_1.Warm) > 0 then wr (e_1.Life.Low - e_1.Warm) else 0))) || (decide ((wr (e_1.Drift * rv_4.1)) > sv.Gap))) || ((decide (rv_4.1 < rv_4.2.1)) && (decide ((wr (e_1.Drift * (wr (rv_4.1 + 1)))) ≤ sv.Gap)))))]) (ms := [(1, .cells b [.int .i64 sv.Hours, .int .i64 sv.Gap, .slice p sv.Machines.length c] 24), (2, .cells b_3 [.int .i64 e_1.From, .int .i64 e_1.Warm, .int .i64 e_1.Life.Low, .int .i64 e_1.Life.High, .int .i64 e_1.Drift] 52)]) (D' := Dv_1) ?_ ?_
    ·rcases bcases (((((rv_4.2.2 != 0) || (decide (rv_4.1 > rv_4.2.1))) || (decide (rv_4.1 < 0))) || (rv_4.2.1 != (if wr (e_1.Life.Low - e_1.Warm) > 0 then wr (e_1.Life.Low - e_1.Warm) else 0))) || (decide ((wr (e_1.Drift * rv_4.1)) > sv.Gap))) with hbv_7 | hbv_7
     ·-- true
      refine guard_off hF rfl rfl hbv_7 rfl fun a hF => ?_
      refine guard_off hF rfl rfl hbv_7 rfl fun a hF => ?_
      refine guard_off hF rfl rfl hbv_7 rfl fun a hF => ?_
      refine guard_off hF rfl rfl hbv_7 rfl fun a hF => ?_
      refine guard_offu hF rfl rfl rfl fun a hF => ?_
      refine guard_offu hF rfl rfl rfl fun a hF => ?_
      refine guard_offu hF rfl rfl rfl fun a hF => ?_
      refine guard_offu hF rfl rfl rfl fun a hF => ?_
      refine guard_offu hF rfl rfl rfl fun a hF => ?_
      refine guard_offu hF rfl rfl rfl fun a hF => ?_
      refine guard_offu hF rfl rfl rfl fun a hF => ?_
      refine guard_offu hF rfl rfl rfl fun a hF => ?_
      refine guard_off hF rfl rfl hbv_7 rfl fun a hF => ?_
      refine step hF (Y.pick_t hF rfl hbv_7 rfl) rfl fun a hF => ?_
      exact nil (then_n ⟨hF.weak ⟨rfl, rfl, rfl, rfl, rfl, rfl, rfl, rfl, rfl, rfl, (by rw [hbv_7]; rfl), trivial⟩, hS.weak ⟨rfl, rfl, trivial⟩⟩)
     ·-- false
      refine guard_on hF rfl rfl hbv_7 ?_
      refine step hF (Y.move hF rfl) rfl fun a hF => ?_
      refine guard_on hF rfl rfl hbv_7 ?_
      refine step hF (Y.move hF rfl) rfl fun a hF => ?_
      refine guard_on hF rfl rfl hbv_7 ?_
      refine step hF (Y.lss hF rfl rfl) rfl fun a hF => ?_
      refine guard_on hF rfl rfl hbv_7 ?_
      refine step hF (Y.move hF rfl) rfl fun a hF => ?_
      refine join (N := 283) (rs := []) (w0 := w0) (D0 := D0) 9 (us := [(2, .pointer (some ⟨b, 0, none⟩)), (4, .bool v4_0), (5, .slice p_2 rv_2.length c_2), (6, .bool rv_3.1), (8, .bool all), (9, .bool stints), (10, .int .i64 i), (11, .pointer (some ⟨b_3, 0, none⟩)), (12, .int .i64 rv_4.1), (13, .int .i64 rv_4.2.1), (93, .bool (((((rv_4.2.2 != 0) || (decide (rv_4.1 > rv_4.2.1))) || (decide (rv_4.1 < 0))) || (rv_4.2.1 != (if wr (e_1.Life.Low - e_1.Warm) > 0 then wr (e_1.Life.Low - e_1.Warm) else 0))) || (decide ((wr (e_1.Drift * rv_4.1)) > sv.Gap)))), (106, .bool ((decide (rv_4.1 < rv_4.2.1)) && (decide ((wr (e_1.Drift * (wr (rv_4.1 + 1)))) ≤ sv.Gap))))]) (ms := [(1, .cells b [.int .i64 sv.Hours, .int .i64 sv.Gap, .slice p sv.Machines.length c] 24), (2, .cells b_3 [.int .i64 e_1.From, .int .i64 e_1.Warm, .int .i64 e_1.Life.Low, .int .i64 e_1.Life.High, .int .i64 e_1.Drift] 52)]) (D' := Dv_1) ?_ ?_
      ·rcases bcases (decide (rv_4.1 < rv_4.2.1)) with hbv_8 | hbv_8
       ·-- true
        refine guard_on hF rfl rfl hbv_8 ?_
        refine step hF (Y.fieldAddr fo_52_3 hF rfl) rfl fun a hF => ?_
        refine guard_on hF rfl rfl hbv_8 ?_
        refine step hF (Y.load1L 2 sz_3 hF rfl hS rfl rfl) rfl fun a hF => ?_
        refine guard_on hF rfl rfl hbv_8 ?_
        refine step hF (Y.move hF rfl) rfl fun a hF => ?_
        refine guard_on hF rfl rfl hbv_8 ?_
        refine step hF (Y.add hF rfl rfl) rfl fun a hF => ?_
        refine guard_on hF rfl rfl hbv_8 ?_
        refine step hF (Y.mul hF rfl rfl) rfl fun a hF => ?_
        refine guard_on hF rfl rfl hbv_8 ?_
        refine step hF (Y.fieldAddr fo_24_1 hF rfl) rfl fun a hF => ?_
        refine guard_on hF rfl rfl hbv_8 ?_
        refine step hF (Y.load1L 1 sz_3 hF rfl hS rfl rfl) rfl fun a hF => ?_
        refine guard_on hF rfl rfl hbv_8 ?_
        refine step hF (Y.leq hF rfl rfl) rfl fun a hF => ?_
        refine guard_on hF rfl rfl hbv_7 ?_
        refine step hF (Y.pick_t hF rfl hbv_8 rfl) rfl fun a hF => ?_
        exact nil (then_n ⟨hF.weak ⟨rfl, rfl, rfl, rfl, rfl, rfl, rfl, rfl, rfl, rfl, rfl, (by rw [hbv_8]; rfl), trivial⟩, hS.weak ⟨rfl, rfl, trivial⟩⟩)
       ·-- false
        refine guard_off hF rfl rfl hbv_8 rfl fun a hF => ?_
        refine guard_off hF rfl rfl hbv_8 rfl fun a hF => ?_
        refine guard_off hF rfl rfl hbv_8 rfl fun a hF => ?_
        refine guard_off hF rfl rfl hbv_8 rfl fun a hF => ?_
        refine guard_off hF rfl rfl hbv_8 rfl fun a hF => ?_
        refine guard_off hF rfl rfl hbv_8 rfl fun a hF => ?_
        refine guard_off hF rfl rfl hbv_8 rfl fun a hF => ?_
        refine guard_off hF rfl rfl hbv_8 rfl fun a hF => ?_
        refine guard_on hF rfl rfl hbv_7 ?_
        refine step hF (Y.pick_f hF rfl hbv_8 rfl) rfl fun a hF => ?_
        exact nil (then_n ⟨hF.weak ⟨rfl, rfl, rfl, rfl, rfl, rfl, rfl, rfl, rfl, rfl, rfl, (by rw [hbv_8]; rfl), trivial⟩, hS.weak ⟨rfl, rfl, trivial⟩⟩)
      intro a w hF hS
      refine step hF (Y.pick_f hF rfl hbv_7 rfl) rfl fun a hF => ?_
      exact nil (then_n ⟨hF.weak ⟨rfl, rfl, rfl, rfl, rfl, rfl, rfl, rfl, rfl, rfl, (by rw [hbv_7]; rfl), trivial⟩, hS.weak ⟨rfl, rfl, trivial⟩⟩)
    intro a w hF hS
    refine nil (then_n ?_)
    refine cond_b hF rfl (fun hbv_9 => ?_) (fun hbv_9 => ?_)
    ·replace h := cond_t h hbv_9
     refine seq ?_
     refine region ?_
     refine step hF (Y.assign hF rfl) rfl fun a hF => ?_
     refine nil (then_n ?_)
     refine ret_ (then_r (blk_r (then_r (then_r (blk_r (then_r ?_))))))
     replace h := ext_some h hxo
     obtain rfl := some_inj h
     exact leaveP Tryd.results9 hF hS (.cons (.tmp rfl) .nil) .nil rfl
    ·replace h := cond_f h hbv_9
     refine skip_ (then_n ?_)
     refine seq ?_
     refine region ?_
     refine step hF (Y.fieldAddr fo_24_0 hF rfl) rfl fun a hF => ?_
     refine step hF (Y.load1L 1 sz_3 hF rfl hS rfl rfl) rfl fun a hF => ?_
     refine step hF (Y.move hF rfl) rfl fun a hF => ?_
     refine step hF (Y.assign hF rfl) rfl fun a hF => ?_
     refine step hF (Y.assign hF rfl) rfl fun a hF => ?_
     refine nil (then_n ?_)
     refine seq_cut (fun a w => ∃ (untilv : Int) (lasts : Int), Frm 283 [] [(2, .pointer (some ⟨b, 0, none⟩)), (4, .bool v4_0), (5, .slice p_2 rv_2.length c_2), (6, .bool rv_3.1), (8, .bool all), (9, .bool stints), (10, .int .i64 i), (11, .pointer (some ⟨b_3, 0, none⟩)), (15, .int .i64 untilv), (16, .int .i64 lasts)] a ∧ St w0 D0 Dv_1 [(1, .cells b [.int .i64 sv.Hours, .int .i64 sv.Gap, .slice p sv.Machines.length c] 24), (2, .cells b_3 [.int .i64 e_1.From, .int .i64 e_1.Warm, .int .i64 e_1.Life.Low, .int .i64 e_1.Life.High, .int .i64 e_1.Drift] 52)] w ∧ remontoirlaw08_SpareTried_k2 sv rv_2 v4_0 all stints i e_1 untilv lasts = some xo) ?_ ?_
     ·skip
      refine seq ?_
      refine region ?_
      refine step hF (Y.move hF rfl) rfl fun a hF => ?_
      refine step hF (Y.add hF rfl rfl) rfl fun a hF => ?_
      refine step hF (Y.move hF rfl) rfl fun a hF => ?_
      refine step hF (Y.lenSl u_25 hF rfl) rfl fun a hF => ?_
      refine step hF (Y.lss hF rfl rfl) rfl fun a hF => ?_
      refine nil (then_n ?_)
      refine cond_b hF rfl (fun hbv_18 => ?_) (fun hbv_18 => ?_)
      ·replace h := cond_t h hbv_18
       refine region ?_
       refine step hF (Y.move hF rfl) rfl fun a hF => ?_
       refine step hF (Y.move hF rfl) rfl fun a hF => ?_
       refine step hF (Y.add hF rfl rfl) rfl fun a hF => ?_
       obtain ⟨e_16, hx_21, h⟩ := bind_some h
       obtain ⟨b_26, o_21, hE_21, hY_21⟩ := Y.indexS (P := Tryd.prog) (C := C_SpareTurn) (xs := rv_2) (T := 25) (x := (.tmp 116)) (y := (.tmp 118)) u_25 sz_46 hF rfl rfl (hs_2).1 hx_21
       obtain ⟨cc_21, hc_21, hcell_21⟩ := hE_21.open
       obtain rfl := C_SpareTurn.open hc_21
       refine step hF (hY_21) rfl fun a hF => ?_
       refine step hF (Y.fieldAddr fo_46_2 hF rfl) rfl fun a hF => ?_
       refine step hF (Y.load1 sz_3 hF rfl (hcell_21 _ hS.stab 2 _ rfl)) rfl fun a hF => ?_
       refine step hF (Y.move hF rfl) rfl fun a hF => ?_
       refine step hF (Y.assign hF rfl) rfl fun a hF => ?_
       refine step hF (Y.assign hF rfl) rfl fun a hF => ?_
       refine nil (then_n ?_)
       exact ⟨e_16.Over, rv_4.1, hF.weak ⟨rfl, rfl, rfl, rfl, rfl, rfl, rfl, rfl, rfl, rfl, trivial⟩, hS.weak ⟨rfl, rfl, trivial⟩, h⟩
      ·replace h := cond_f h hbv_18
       refine skip_ (then_n ?_)
       exact ⟨sv.Hours, rv_4.2.1, hF.weak ⟨rfl, rfl, rfl, rfl, rfl, rfl, rfl, rfl, rfl, rfl, trivial⟩, hS.weak ⟨rfl, rfl, trivial⟩, h⟩
     ·rintro a w ⟨untilv, lasts, hF, hS, h⟩
      unfold remontoirlaw08_SpareTried_k2 at h
      refine seq ?_
      refine region ?_
      refine step hF (Y.move hF rfl) rfl fun a hF => ?_
      refine step hF (Y.move hF rfl) rfl fun a hF => ?_
      obtain ⟨t, ht, h⟩ := bind_some h
      refine join (N := 283) (rs := []) (w0 := w0) (D0 := D0) 10 (us := [(2, .pointer (some ⟨b, 0, none⟩)), (4, .bool v4_0), (5, .slice p_2 rv_2.length c_2), (6, .bool rv_3.1), (8, .bool all), (9, .bool stints), (10, .int .i64 i), (11, .pointer (some ⟨b_3, 0, none⟩)), (15, .int .i64 untilv), (134, .bool t)]) (ms := [(1, .cells b [.int .i64 sv.Hours, .int .i64 sv.Gap, .slice p sv.Machines.length c] 24), (2, .cells b_3 [.int .i64 e_1.From, .int .i64 e_1.Warm, .int .i64 e_1.Life.Low, .int .i64 e_1.Life.High, .int .i64 e_1.Drift] 52)]) (D' := Dv_1) ?_ ?_
      ·rcases bcases stints with hbv_10 | hbv_10
       ·-- true
        replace h := cond_t ht hbv_10
        refine guard_on hF rfl rfl hbv_10 ?_
        refine step hF (Y.move hF rfl) rfl fun a hF => ?_
        refine guard_on hF rfl rfl hbv_10 ?_
        refine step hF (Y.move hF rfl) rfl fun a hF => ?_
        refine guard_on hF rfl rfl hbv_10 ?_
        refine step hF (Y.move hF rfl) rfl fun a hF => ?_
        obtain ⟨e_3, hx_8, h⟩ := bind_some h
        obtain ⟨b_9, o_6, hE_6, hY_6⟩ := Y.indexS (P := Tryd.prog) (C := C_SpareTurn) (xs := rv_2) (T := 25) (x := (.tmp 126)) (y := (.tmp 127)) u_25 sz_46 hF rfl rfl (hs_2).1 hx_8
        obtain ⟨cc_6, hc_6, hcell_6⟩ := hE_6.open
        obtain rfl := C_SpareTurn.open hc_6
        refine guard_on hF rfl rfl hbv_10 ?_
        refine step hF (hY_6) rfl fun a hF => ?_
        refine guard_on hF rfl rfl hbv_10 ?_
        refine step hF (Y.fieldAddr fo_46_2 hF rfl) rfl fun a hF => ?_
        refine guard_on hF rfl rfl hbv_10 ?_
        refine step hF (Y.load1 sz_3 hF rfl (hcell_6 _ hS.stab 2 _ rfl)) rfl fun a hF => ?_
        refine guard_on hF rfl rfl hbv_10 ?_
        refine step hF (Y.sub hF rfl rfl) rfl fun a hF => ?_
        refine guard_on hF rfl rfl hbv_10 ?_
        refine step hF (Y.move hF rfl) rfl fun a hF => ?_
        refine guard_on hF rfl rfl hbv_10 ?_
        refine step hF (Y.leq hF rfl rfl) rfl fun a hF => ?_
        refine step hF (Y.pick_t hF rfl hbv_10 rfl) rfl fun a hF => ?_
        obtain rfl := some_inj h
        exact nil (then_n ⟨hF.weak ⟨rfl, rfl, rfl, rfl, rfl, rfl, rfl, rfl, rfl, rfl, trivial⟩, hS.weak ⟨rfl, rfl, trivial⟩⟩)
       ·-- false
        replace h := cond_f ht hbv_10
        refine guard_off hF rfl rfl hbv_10 rfl fun a hF => ?_
        refine guard_off hF rfl rfl hbv_10 rfl fun a hF => ?_
        refine guard_off hF rfl rfl hbv_10 rfl fun a hF => ?_
        refine guard_off hF rfl rfl hbv_10 rfl fun a hF => ?_
        refine guard_off hF rfl rfl hbv_10 rfl fun a hF => ?_
        refine guard_off hF rfl rfl hbv_10 rfl fun a hF => ?_
        refine guard_off hF rfl rfl hbv_10 rfl fun a hF => ?_
        refine guard_off hF rfl rfl hbv_10 rfl fun a hF => ?_
        refine guard_off hF rfl rfl hbv_10 rfl fun a hF => ?_
        refine step hF (Y.pick_f hF rfl hbv_10 rfl) rfl fun a hF => ?_
        obtain rfl := some_inj h
        exact nil (then_n ⟨hF.weak ⟨rfl, rfl, rfl, rfl, rfl, rfl, rfl, rfl, rfl, rfl, trivial⟩, hS.weak ⟨rfl, rfl, trivial⟩⟩)
      intro a w hF hS
      refine step hF (Y.assign hF rfl) rfl fun a hF => ?_
      refine nil (then_n ?_)
      refine seq ?_
      refine draws 60 [(0, true), (1, true), (2, true), (3, true), (4, true), (5, true), (6, true), (7, true), (8, true), (9, true), (10, true), (11, true), (12, true), (13, true), (14, true), (15, true), (16, true), (17, true), (18, true), (19, true), (20, true), (21, true), (22, true), (23, true), (24, true), (25, true), (26, true), (27, true), (28, true), (29, true), (30, true), (31, true), (32, true), (33, true), (34, true), (35, true), (36, true), (37, true), (38, true), (39, true), (40, true), (41, true), (42, true), (43, true), (44, true), (45, true), (46, true), (47, true), (48, true), (49, true), (50, true), (51, true), (52, true), (53, true), (54, true), (55, true), (56, true), (57, true), (58, true), (59, true)] mixed_ (by kernel_rfl) (fun w => St w0 D0 Dv_1 _ w) hS.drew (fun _ _ _ _ h => h) ?_
      replace hS := hS.drew
      refine stepT (i := 0) rfl hF (fun w hS => Y.move hF rfl) rfl fun a hF => ?_
      refine stepT (i := 1) rfl hF (fun w hS => Y.move hF rfl) rfl fun a hF => ?_
      obtain ⟨t_1, ht_1, h⟩ := bind_some h
      refine joinT (N := 283) (rs := []) (w0 := w0) (D0 := D0) 9 (us := [(2, .pointer (some ⟨b, 0, none⟩)), (4, .bool v4_0), (5, .slice p_2 rv_2.length c_2), (6, .bool rv_3.1), (8, .bool all), (9, .bool t), (10, .int .i64 i), (11, .pointer (some ⟨b_3, 0, none⟩)), (15, .int .i64 untilv), (145, .bool t_1)]) (ms := [(1, .cells b [.int .i64 sv.Hours, .int .i64 sv.Gap, .slice p sv.Machines.length c] 24), (2, .cells b_3 [.int .i64 e_1.From, .int .i64 e_1.Warm, .int .i64 e_1.Life.Low, .int .i64 e_1.Life.High, .int .i64 e_1.Drift] 52)]) (D' := Dv_1) ?_ ?_
      ·rcases bcases all with hbv_11 | hbv_11
       ·-- true
        replace h := cond_t ht_1 hbv_11
        refine stepT_on (i := 2) rfl hF rfl rfl hbv_11 (fun w hS => Y.move hF rfl) rfl fun a hF => ?_
        refine stepT_on (i := 3) rfl hF rfl rfl hbv_11 (fun w hS => Y.move hF rfl) rfl fun a hF => ?_
        obtain ⟨e_4, hx_9, h⟩ := bind_some h
        obtain ⟨b_10, o_7, hE_7, hY_7⟩ := Y.indexS (P := Tryd.prog) (C := C_SpareTurn) (xs := rv_2) (T := 25) (x := (.tmp 137)) (y := (.tmp 138)) u_25 sz_46 hF rfl rfl (hs_2).1 hx_9
        obtain ⟨cc_7, hc_7, hcell_7⟩ := hE_7.open
        obtain rfl := C_SpareTurn.open hc_7
        refine stepT_on (i := 4) rfl hF rfl rfl hbv_11 (fun w hS => hY_7) rfl fun a hF => ?_
        refine stepT_on (i := 5) rfl hF rfl rfl hbv_11 (fun w hS => Y.fieldAddr fo_46_1 hF rfl) rfl fun a hF => ?_
        refine stepT_on (i := 6) rfl hF rfl rfl hbv_11 (fun w hS => Y.load1 sz_3 hF rfl (hcell_7 _ hS.stab 1 _ rfl)) rfl fun a hF => ?_
        refine stepT_on (i := 7) rfl hF rfl rfl hbv_11 (fun w hS => Y.fieldAddr fo_52_0 hF rfl) rfl fun a hF => ?_
        refine stepT_on (i := 8) rfl hF rfl rfl hbv_11 (fun w hS => Y.load1L 2 sz_3 hF rfl hS rfl rfl) rfl fun a hF => ?_
        refine stepT_on (i := 9) rfl hF rfl rfl hbv_11 (fun w hS => Y.geq hF rfl rfl) rfl fun a hF => ?_
        refine stepT (i := 10) rfl hF (fun w hS => Y.pick_t hF rfl hbv_11 rfl) rfl fun a hF => ?_
        obtain rfl := some_inj h
        exact toTail ⟨hF.weak ⟨rfl, rfl, rfl, rfl, rfl, rfl, rfl, rfl, rfl, rfl, trivial⟩, hS.weak ⟨rfl, rfl, trivial⟩⟩
       ·-- false
        replace h := cond_f ht_1 hbv_11
        refine stepT_off (i := 2) rfl hF rfl rfl hbv_11 rfl fun a hF => ?_
        refine stepT_off (i := 3) rfl hF rfl rfl hbv_11 rfl fun a hF => ?_
        refine stepT_off (i := 4) rfl hF rfl rfl hbv_11 rfl fun a hF => ?_
        refine stepT_off (i := 5) rfl hF rfl rfl hbv_11 rfl fun a hF => ?_
        refine stepT_off (i := 6) rfl hF rfl rfl hbv_11 rfl fun a hF => ?_
        refine stepT_off (i := 7) rfl hF rfl rfl hbv_11 rfl fun a hF => ?_
        refine stepT_off (i := 8) rfl hF rfl rfl hbv_11 rfl fun a hF => ?_
        refine stepT_off (i := 9) rfl hF rfl rfl hbv_11 rfl fun a hF => ?_
        refine stepT (i := 10) rfl hF (fun w hS => Y.pick_f hF rfl hbv_11 rfl) rfl fun a hF => ?_
        obtain rfl := some_inj h
        exact toTail ⟨hF.weak ⟨rfl, rfl, rfl, rfl, rfl, rfl, rfl, rfl, rfl, rfl, trivial⟩, hS.weak ⟨rfl, rfl, trivial⟩⟩
      intro a w hF hS
      refine stepT (i := 11) rfl hF (fun w hS => Y.move hF rfl) rfl fun a hF => ?_
      obtain ⟨t_2, ht_2, h⟩ := bind_some h
      refine joinT (N := 283) (rs := []) (w0 := w0) (D0 := D0) 15 (us := [(2, .pointer (some ⟨b, 0, none⟩)), (4, .bool v4_0), (5, .slice p_2 rv_2.length c_2), (6, .bool rv_3.1), (8, .bool all), (9, .bool t), (10, .int .i64 i), (11, .pointer (some ⟨b_3, 0, none⟩)), (15, .int .i64 untilv), (161, .bool t_2)]) (ms := [(1, .cells b [.int .i64 sv.Hours, .int .i64 sv.Gap, .slice p sv.Machines.length c] 24), (2, .cells b_3 [.int .i64 e_1.From, .int .i64 e_1.Warm, .int .i64 e_1.Life.Low, .int .i64 e_1.Life.High, .int .i64 e_1.Drift] 52)]) (D' := Dv_1) ?_ ?_
      ·rcases bcases t_1 with hbv_12 | hbv_12
       ·-- true
        replace h := cond_t ht_2 hbv_12
        refine stepT_on (i := 12) rfl hF rfl rfl hbv_12 (fun w hS => Y.move hF rfl) rfl fun a hF => ?_
        refine stepT_on (i := 13) rfl hF rfl rfl hbv_12 (fun w hS => Y.move hF rfl) rfl fun a hF => ?_
        obtain ⟨e_5, hx_10, h⟩ := bind_some h
        obtain ⟨b_11, o_8, hE_8, hY_8⟩ := Y.indexS (P := Tryd.prog) (C := C_SpareTurn) (xs := rv_2) (T := 25) (x := (.tmp 147)) (y := (.tmp 148)) u_25 sz_46 hF rfl rfl (hs_2).1 hx_10
        obtain ⟨cc_8, hc_8, hcell_8⟩ := hE_8.open
        obtain rfl := C_SpareTurn.open hc_8
        refine stepT_on (i := 14) rfl hF rfl rfl hbv_12 (fun w hS => hY_8) rfl fun a hF => ?_
        refine stepT_on (i := 15) rfl hF rfl rfl hbv_12 (fun w hS => Y.fieldAddr fo_46_2 hF rfl) rfl fun a hF => ?_
        refine stepT_on (i := 16) rfl hF rfl rfl hbv_12 (fun w hS => Y.load1 sz_3 hF rfl (hcell_8 _ hS.stab 2 _ rfl)) rfl fun a hF => ?_
        refine stepT_on (i := 17) rfl hF rfl rfl hbv_12 (fun w hS => Y.move hF rfl) rfl fun a hF => ?_
        refine stepT_on (i := 18) rfl hF rfl rfl hbv_12 (fun w hS => Y.move hF rfl) rfl fun a hF => ?_
        obtain ⟨e_6, hx_11, h⟩ := bind_some h
        obtain ⟨b_12, o_9, hE_9, hY_9⟩ := Y.indexS (P := Tryd.prog) (C := C_SpareTurn) (xs := rv_2) (T := 25) (x := (.tmp 152)) (y := (.tmp 153)) u_25 sz_46 hF rfl rfl (hs_2).1 hx_11
        obtain ⟨cc_9, hc_9, hcell_9⟩ := hE_9.open
        obtain rfl := C_SpareTurn.open hc_9
        refine stepT_on (i := 19) rfl hF rfl rfl hbv_12 (fun w hS => hY_9) rfl fun a hF => ?_
        refine stepT_on (i := 20) rfl hF rfl rfl hbv_12 (fun w hS => Y.fieldAddr fo_46_1 hF rfl) rfl fun a hF => ?_
        refine stepT_on (i := 21) rfl hF rfl rfl hbv_12 (fun w hS => Y.load1 sz_3 hF rfl (hcell_9 _ hS.stab 1 _ rfl)) rfl fun a hF => ?_
        refine stepT_on (i := 22) rfl hF rfl rfl hbv_12 (fun w hS => Y.fieldAddr fo_52_1 hF rfl) rfl fun a hF => ?_
        refine stepT_on (i := 23) rfl hF rfl rfl hbv_12 (fun w hS => Y.load1L 2 sz_3 hF rfl hS rfl rfl) rfl fun a hF => ?_
        refine stepT_on (i := 24) rfl hF rfl rfl hbv_12 (fun w hS => Y.add hF rfl rfl) rfl fun a hF => ?_
        refine stepT_on (i := 25) rfl hF rfl rfl hbv_12 (fun w hS => Y.geq hF rfl rfl) rfl fun a hF => ?_
        refine stepT (i := 26) rfl hF (fun w hS => Y.pick_t hF rfl hbv_12 rfl) rfl fun a hF => ?_
        obtain rfl := some_inj h
        exact toTail ⟨hF.weak ⟨rfl, rfl, rfl, rfl, rfl, rfl, rfl, rfl, rfl, rfl, trivial⟩, hS.weak ⟨rfl, rfl, trivial⟩⟩
       ·-- false
        replace h := cond_f ht_2 hbv_12
        refine stepT_off (i := 12) rfl hF rfl rfl hbv_12 rfl fun a hF => ?_
        refine stepT_off (i := 13) rfl hF rfl rfl hbv_12 rfl fun a hF => ?_
        refine stepT_off (i := 14) rfl hF rfl rfl hbv_12 rfl fun a hF => ?_
        refine stepT_off (i := 15) rfl hF rfl rfl hbv_12 rfl fun a hF => ?_
        refine stepT_off (i := 16) rfl hF rfl rfl hbv_12 rfl fun a hF => ?_
        refine stepT_off (i := 17) rfl hF rfl rfl hbv_12 rfl fun a hF => ?_
        refine stepT_off (i := 18) rfl hF rfl rfl hbv_12 rfl fun a hF => ?_
        refine stepT_off (i := 19) rfl hF rfl rfl hbv_12 rfl fun a hF => ?_
        refine stepT_off (i := 20) rfl hF rfl rfl hbv_12 rfl fun a hF => ?_
        refine stepT_off (i := 21) rfl hF rfl rfl hbv_12 rfl fun a hF => ?_
        refine stepT_off (i := 22) rfl hF rfl rfl hbv_12 rfl fun a hF => ?_
        refine stepT_off (i := 23) rfl hF rfl rfl hbv_12 rfl fun a hF => ?_
        refine stepT_off (i := 24) rfl hF rfl rfl hbv_12 rfl fun a hF => ?_
        refine stepT_off (i := 25) rfl hF rfl rfl hbv_12 rfl fun a hF => ?_
        refine stepT (i := 26) rfl hF (fun w hS => Y.pick_f hF rfl hbv_12 rfl) rfl fun a hF => ?_
        obtain rfl := some_inj h
        exact toTail ⟨hF.weak ⟨rfl, rfl, rfl, rfl, rfl, rfl, rfl, rfl, rfl, rfl, trivial⟩, hS.weak ⟨rfl, rfl, trivial⟩⟩
      intro a w hF hS
      refine stepT (i := 27) rfl hF (fun w hS => Y.move hF rfl) rfl fun a hF => ?_
      obtain ⟨t_3, ht_3, h⟩ := bind_some h
      refine joinT (N := 283) (rs := []) (w0 := w0) (D0 := D0) 12 (us := [(2, .pointer (some ⟨b, 0, none⟩)), (4, .bool v4_0), (5, .slice p_2 rv_2.length c_2), (6, .bool rv_3.1), (8, .bool all), (9, .bool t), (10, .int .i64 i), (11, .pointer (some ⟨b_3, 0, none⟩)), (15, .int .i64 untilv), (174, .bool t_3)]) (ms := [(1, .cells b [.int .i64 sv.Hours, .int .i64 sv.Gap, .slice p sv.Machines.length c] 24), (2, .cells b_3 [.int .i64 e_1.From, .int .i64 e_1.Warm, .int .i64 e_1.Life.Low, .int .i64 e_1.Life.High, .int .i64 e_1.Drift] 52)]) (D' := Dv_1) ?_ ?_
      ·rcases bcases t_2 with hbv_13 | hbv_13
       ·-- true
        replace h := cond_t ht_3 hbv_13
        refine stepT_on (i := 28) rfl hF rfl rfl hbv_13 (fun w hS => Y.move hF rfl) rfl fun a hF => ?_
        refine stepT_on (i := 29) rfl hF rfl rfl hbv_13 (fun w hS => Y.move hF rfl) rfl fun a hF => ?_
        obtain ⟨e_7, hx_12, h⟩ := bind_some h
        obtain ⟨b_13, o_10, hE_10, hY_10⟩ := Y.indexS (P := Tryd.prog) (C := C_SpareTurn) (xs := rv_2) (T := 25) (x := (.tmp 163)) (y := (.tmp 164)) u_25 sz_46 hF rfl rfl (hs_2).1 hx_12
        obtain ⟨cc_10, hc_10, hcell_10⟩ := hE_10.open
        obtain rfl := C_SpareTurn.open hc_10
        refine stepT_on (i := 30) rfl hF rfl rfl hbv_13 (fun w hS => hY_10) rfl fun a hF => ?_
        refine stepT_on (i := 31) rfl hF rfl rfl hbv_13 (fun w hS => Y.fieldAddr fo_46_1 hF rfl) rfl fun a hF => ?_
        refine stepT_on (i := 32) rfl hF rfl rfl hbv_13 (fun w hS => Y.load1 sz_3 hF rfl (hcell_10 _ hS.stab 1 _ rfl)) rfl fun a hF => ?_
        refine stepT_on (i := 33) rfl hF rfl rfl hbv_13 (fun w hS => Y.fieldAddr fo_52_2 hF rfl) rfl fun a hF => ?_
        refine stepT_on (i := 34) rfl hF rfl rfl hbv_13 (fun w hS => Y.fieldAddr fo_50_0 hF rfl) rfl fun a hF => ?_
        refine stepT_on (i := 35) rfl hF rfl rfl hbv_13 (fun w hS => Y.load1L 2 sz_3 hF rfl hS rfl rfl) rfl fun a hF => ?_
        refine stepT_on (i := 36) rfl hF rfl rfl hbv_13 (fun w hS => Y.add hF rfl rfl) rfl fun a hF => ?_
        refine stepT_on (i := 37) rfl hF rfl rfl hbv_13 (fun w hS => Y.move hF rfl) rfl fun a hF => ?_
        refine stepT_on (i := 38) rfl hF rfl rfl hbv_13 (fun w hS => Y.geq hF rfl rfl) rfl fun a hF => ?_
        refine stepT (i := 39) rfl hF (fun w hS => Y.pick_t hF rfl hbv_13 rfl) rfl fun a hF => ?_
        obtain rfl := some_inj h
        exact toTail ⟨hF.weak ⟨rfl, rfl, rfl, rfl, rfl, rfl, rfl, rfl, rfl, rfl, trivial⟩, hS.weak ⟨rfl, rfl, trivial⟩⟩
       ·-- false
        replace h := cond_f ht_3 hbv_13
        refine stepT_off (i := 28) rfl hF rfl rfl hbv_13 rfl fun a hF => ?_
        refine stepT_off (i := 29) rfl hF rfl rfl hbv_13 rfl fun a hF => ?_
        refine stepT_off (i := 30) rfl hF rfl rfl hbv_13 rfl fun a hF => ?_
        refine stepT_off (i := 31) rfl hF rfl rfl hbv_13 rfl fun a hF => ?_
        refine stepT_off (i := 32) rfl hF rfl rfl hbv_13 rfl fun a hF => ?_
        refine stepT_off (i := 33) rfl hF rfl rfl hbv_13 rfl fun a hF => ?_
        refine stepT_off (i := 34) rfl hF rfl rfl hbv_13 rfl fun a hF => ?_
        refine stepT_off (i := 35) rfl hF rfl rfl hbv_13 rfl fun a hF => ?_
        refine stepT_off (i := 36) rfl hF rfl rfl hbv_13 rfl fun a hF => ?_
        refine stepT_off (i := 37) rfl hF rfl rfl hbv_13 rfl fun a hF => ?_
        refine stepT_off (i := 38) rfl hF rfl rfl hbv_13 rfl fun a hF => ?_
        refine stepT (i := 39) rfl hF (fun w hS => Y.pick_f hF rfl hbv_13 rfl) rfl fun a hF => ?_
        obtain rfl := some_inj h
        exact toTail ⟨hF.weak ⟨rfl, rfl, rfl, rfl, rfl, rfl, rfl, rfl, rfl, rfl, trivial⟩, hS.weak ⟨rfl, rfl, trivial⟩⟩
      intro a w hF hS
      refine stepT (i := 40) rfl hF (fun w hS => Y.move hF rfl) rfl fun a hF => ?_
      obtain ⟨t_4, ht_4, h⟩ := bind_some h
      refine joinT (N := 283) (rs := []) (w0 := w0) (D0 := D0) 8 (us := [(2, .pointer (some ⟨b, 0, none⟩)), (4, .bool v4_0), (5, .slice p_2 rv_2.length c_2), (6, .bool rv_3.1), (8, .bool all), (9, .bool t), (10, .int .i64 i), (11, .pointer (some ⟨b_3, 0, none⟩)), (183, .bool t_4)]) (ms := [(1, .cells b [.int .i64 sv.Hours, .int .i64 sv.Gap, .slice p sv.Machines.length c] 24), (2, .cells b_3 [.int .i64 e_1.From, .int .i64 e_1.Warm, .int .i64 e_1.Life.Low, .int .i64 e_1.Life.High, .int .i64 e_1.Drift] 52)]) (D' := Dv_1) ?_ ?_
      ·rcases bcases t_3 with hbv_14 | hbv_14
       ·-- true
        replace h := cond_t ht_4 hbv_14
        refine stepT_on (i := 41) rfl hF rfl rfl hbv_14 (fun w hS => Y.move hF rfl) rfl fun a hF => ?_
        refine stepT_on (i := 42) rfl hF rfl rfl hbv_14 (fun w hS => Y.move hF rfl) rfl fun a hF => ?_
        refine stepT_on (i := 43) rfl hF rfl rfl hbv_14 (fun w hS => Y.move hF rfl) rfl fun a hF => ?_
        obtain ⟨e_8, hx_13, h⟩ := bind_some h
        obtain ⟨b_14, o_11, hE_11, hY_11⟩ := Y.indexS (P := Tryd.prog) (C := C_SpareTurn) (xs := rv_2) (T := 25) (x := (.tmp 177)) (y := (.tmp 178)) u_25 sz_46 hF rfl rfl (hs_2).1 hx_13
        obtain ⟨cc_11, hc_11, hcell_11⟩ := hE_11.open
        obtain rfl := C_SpareTurn.open hc_11
        refine stepT_on (i := 44) rfl hF rfl rfl hbv_14 (fun w hS => hY_11) rfl fun a hF => ?_
        refine stepT_on (i := 45) rfl hF rfl rfl hbv_14 (fun w hS => Y.fieldAddr fo_46_2 hF rfl) rfl fun a hF => ?_
        refine stepT_on (i := 46) rfl hF rfl rfl hbv_14 (fun w hS => Y.load1 sz_3 hF rfl (hcell_11 _ hS.stab 2 _ rfl)) rfl fun a hF => ?_
        refine stepT_on (i := 47) rfl hF rfl rfl hbv_14 (fun w hS => Y.gtr hF rfl rfl) rfl fun a hF => ?_
        refine stepT (i := 48) rfl hF (fun w hS => Y.pick_t hF rfl hbv_14 rfl) rfl fun a hF => ?_
        obtain rfl := some_inj h
        exact toTail ⟨hF.weak ⟨rfl, rfl, rfl, rfl, rfl, rfl, rfl, rfl, rfl, trivial⟩, hS.weak ⟨rfl, rfl, trivial⟩⟩
       ·-- false
        replace h := cond_f ht_4 hbv_14
        refine stepT_off (i := 41) rfl hF rfl rfl hbv_14 rfl fun a hF => ?_
        refine stepT_off (i := 42) rfl hF rfl rfl hbv_14 rfl fun a hF => ?_
        refine stepT_off (i := 43) rfl hF rfl rfl hbv_14 rfl fun a hF => ?_
        refine stepT_off (i := 44) rfl hF rfl rfl hbv_14 rfl fun a hF => ?_
        refine stepT_off (i := 45) rfl hF rfl rfl hbv_14 rfl fun a hF => ?_
        refine stepT_off (i := 46) rfl hF rfl rfl hbv_14 rfl fun a hF => ?_
        refine stepT_off (i := 47) rfl hF rfl rfl hbv_14 rfl fun a hF => ?_
        refine stepT (i := 48) rfl hF (fun w hS => Y.pick_f hF rfl hbv_14 rfl) rfl fun a hF => ?_
        obtain rfl := some_inj h
        exact toTail ⟨hF.weak ⟨rfl, rfl, rfl, rfl, rfl, rfl, rfl, rfl, rfl, trivial⟩, hS.weak ⟨rfl, rfl, trivial⟩⟩
      intro a w hF hS
      refine stepT (i := 49) rfl hF (fun w hS => Y.move hF rfl) rfl fun a hF => ?_
      obtain ⟨t_5, ht_5, h⟩ := bind_some h
      refine joinT (N := 283) (rs := []) (w0 := w0) (D0 := D0) 9 (us := [(2, .pointer (some ⟨b, 0, none⟩)), (4, .bool v4_0), (5, .slice p_2 rv_2.length c_2), (6, .bool rv_3.1), (8, .bool all), (9, .bool t), (10, .int .i64 i), (11, .pointer (some ⟨b_3, 0, none⟩)), (193, .bool t_5)]) (ms := [(1, .cells b [.int .i64 sv.Hours, .int .i64 sv.Gap, .slice p sv.Machines.length c] 24), (2, .cells b_3 [.int .i64 e_1.From, .int .i64 e_1.Warm, .int .i64 e_1.Life.Low, .int .i64 e_1.Life.High, .int .i64 e_1.Drift] 52)]) (D' := Dv_1) ?_ ?_
      ·rcases bcases t_4 with hbv_15 | hbv_15
       ·-- true
        replace h := cond_t ht_5 hbv_15
        refine stepT_on (i := 50) rfl hF rfl rfl hbv_15 (fun w hS => Y.move hF rfl) rfl fun a hF => ?_
        refine stepT_on (i := 51) rfl hF rfl rfl hbv_15 (fun w hS => Y.move hF rfl) rfl fun a hF => ?_
        obtain ⟨e_9, hx_14, h⟩ := bind_some h
        obtain ⟨b_15, o_12, hE_12, hY_12⟩ := Y.indexS (P := Tryd.prog) (C := C_SpareTurn) (xs := rv_2) (T := 25) (x := (.tmp 185)) (y := (.tmp 186)) u_25 sz_46 hF rfl rfl (hs_2).1 hx_14
        obtain ⟨cc_12, hc_12, hcell_12⟩ := hE_12.open
        obtain rfl := C_SpareTurn.open hc_12
        refine stepT_on (i := 52) rfl hF rfl rfl hbv_15 (fun w hS => hY_12) rfl fun a hF => ?_
        refine stepT_on (i := 53) rfl hF rfl rfl hbv_15 (fun w hS => Y.fieldAddr fo_46_2 hF rfl) rfl fun a hF => ?_
        refine stepT_on (i := 54) rfl hF rfl rfl hbv_15 (fun w hS => Y.load1 sz_3 hF rfl (hcell_12 _ hS.stab 2 _ rfl)) rfl fun a hF => ?_
        refine stepT_on (i := 55) rfl hF rfl rfl hbv_15 (fun w hS => Y.fieldAddr fo_24_0 hF rfl) rfl fun a hF => ?_
        refine stepT_on (i := 56) rfl hF rfl rfl hbv_15 (fun w hS => Y.load1L 1 sz_3 hF rfl hS rfl rfl) rfl fun a hF => ?_
        refine stepT_on (i := 57) rfl hF rfl rfl hbv_15 (fun w hS => Y.lss hF rfl rfl) rfl fun a hF => ?_
        refine stepT (i := 58) rfl hF (fun w hS => Y.pick_t hF rfl hbv_15 rfl) rfl fun a hF => ?_
        obtain rfl := some_inj h
        exact toTail ⟨hF.weak ⟨rfl, rfl, rfl, rfl, rfl, rfl, rfl, rfl, rfl, trivial⟩, hS.weak ⟨rfl, rfl, trivial⟩⟩
       ·-- false
        replace h := cond_f ht_5 hbv_15
        refine stepT_off (i := 50) rfl hF rfl rfl hbv_15 rfl fun a hF => ?_
        refine stepT_off (i := 51) rfl hF rfl rfl hbv_15 rfl fun a hF => ?_
        refine stepT_off (i := 52) rfl hF rfl rfl hbv_15 rfl fun a hF => ?_
        refine stepT_off (i := 53) rfl hF rfl rfl hbv_15 rfl fun a hF => ?_
        refine stepT_off (i := 54) rfl hF rfl rfl hbv_15 rfl fun a hF => ?_
        refine stepT_off (i := 55) rfl hF rfl rfl hbv_15 rfl fun a hF => ?_
        refine stepT_off (i := 56) rfl hF rfl rfl hbv_15 rfl fun a hF => ?_
        refine stepT_off (i := 57) rfl hF rfl rfl hbv_15 rfl fun a hF => ?_
        refine stepT (i := 58) rfl hF (fun w hS => Y.pick_f hF rfl hbv_15 rfl) rfl fun a hF => ?_
        obtain rfl := some_inj h
        exact toTail ⟨hF.weak ⟨rfl, rfl, rfl, rfl, rfl, rfl, rfl, rfl, rfl, trivial⟩, hS.weak ⟨rfl, rfl, trivial⟩⟩
      intro a w hF hS
      refine stepT (i := 59) rfl hF (fun w hS => Y.assign hF rfl) rfl fun a hF => ?_
      refine toTail ?_
      refine nil (then_n ?_)
      refine seq ?_
      refine region ?_
      refine step hF (Y.move hF rfl) rfl fun a hF => ?_
      refine step hF (Y.gtr hF rfl rfl) rfl fun a hF => ?_
      refine nil (then_n ?_)
      refine cond_b hF rfl (fun hbv_16 => ?_) (fun hbv_16 => ?_)
      ·replace h := cond_t h hbv_16
       refine seq ?_
       obtain ⟨e_10, hx_15, h⟩ := bind_some h
       obtain ⟨e_11, hx_16, h⟩ := bind_some h
       refine drawsV 11 (.flt 0 (.flt 1 (.flt 2 (.flt 3 (.flt 4 (.flt 5 (.flt 6 (.flt 7 (.flt 8 (.flt 9 (.alt 10 .done .stop))))))))))) mixed_ (by kernel_rfl) (fun w => St w0 D0 Dv_1 [(1, .cells b [.int .i64 sv.Hours, .int .i64 sv.Gap, .slice p sv.Machines.length c] 24), (2, .cells b_3 [.int .i64 e_1.From, .int .i64 e_1.Warm, .int .i64 e_1.Life.Low, .int .i64 e_1.Life.High, .int .i64 e_1.Drift] 52)] w) (fun a w => ∃ (b_18 : Nat), Frm 283 [] [(2, .pointer (some ⟨b, 0, none⟩)), (4, .bool v4_0), (5, .slice p_2 rv_2.length c_2), (6, .bool rv_3.1), (8, .bool t_5), (9, .bool t), (10, .int .i64 i), (11, .pointer (some ⟨b_3, 0, none⟩)), (17, .pointer (some ⟨b_18, 0, none⟩)), (205, .agg #[.int .i64 e_11.From, .int .i64 e_11.Warm, .int .i64 e_11.Life.Low, .int .i64 e_11.Life.High, .int .i64 e_11.Drift])] a ∧ St w0 D0 Dv_1 [(1, .cells b [.int .i64 sv.Hours, .int .i64 sv.Gap, .slice p sv.Machines.length c] 24), (2, .cells b_3 [.int .i64 e_1.From, .int .i64 e_1.Warm, .int .i64 e_1.Life.Low, .int .i64 e_1.Life.High, .int .i64 e_1.Drift] 52), (3, .cells b_18 [.int .i64 0, .int .i64 0, .int .i64 0, .int .i64 0, .int .i64 0] 52)] w) (hS.weak (ms := [(1, .cells b [.int .i64 sv.Hours, .int .i64 sv.Gap, .slice p sv.Machines.length c] 24), (2, .cells b_3 [.int .i64 e_1.From, .int .i64 e_1.Warm, .int .i64 e_1.Life.Low, .int .i64 e_1.Life.High, .int .i64 e_1.Drift] 52)]) ⟨rfl, rfl, trivial⟩).drew (fun _ _ _ _ h => h) ?_ ?_
       ·replace hS := hS.drew
        have hle0 := hS.le
        refine stepV (i := 0) rfl hF (fun w hS => Y.fieldAddr fo_24_2 hF rfl) rfl fun a hF => ?_
        refine stepV (i := 1) rfl hF (fun w hS => Y.load1L 1 sz_22 hF rfl hS rfl rfl) rfl fun a hF => ?_
        refine stepV (i := 2) rfl hF (fun w hS => Y.move hF rfl) rfl fun a hF => ?_
        refine stepV (i := 3) rfl hF (fun w hS => Y.move hF rfl) rfl fun a hF => ?_
        refine stepV (i := 4) rfl hF (fun w hS => Y.sub hF rfl rfl) rfl fun a hF => ?_
        obtain ⟨b_19, o_15, hE_15, hY_15⟩ := Y.indexS (P := Tryd.prog) (C := C_SpareTurn) (xs := rv_2) (T := 25) (x := (.tmp 198)) (y := (.tmp 200)) u_25 sz_46 hF rfl rfl (hs_2).1 hx_15
        obtain ⟨cc_15, hc_15, hcell_15⟩ := hE_15.open
        obtain rfl := C_SpareTurn.open hc_15
        refine stepV (i := 5) rfl hF (fun w hS => hY_15) rfl fun a hF => ?_
        refine stepV (i := 6) rfl hF (fun w hS => Y.fieldAddr fo_46_0 hF rfl) rfl fun a hF => ?_
        refine stepV (i := 7) rfl hF (fun w hS => Y.load1 sz_3 hF rfl (hcell_15 _ hS.stab 0 _ rfl)) rfl fun a hF => ?_
        obtain ⟨b_20, o_16, hE_16, hY_16⟩ := Y.indexS (P := Tryd.prog) (C := C_SpareMachine) (xs := sv.Machines) (T := 22) (x := (.tmp 197)) (y := (.tmp 203)) u_22 sz_52 hF rfl rfl (hs).1 hx_16
        obtain ⟨cc_16, hc_16, hcell_16⟩ := hE_16.open
        obtain rfl := C_SpareMachine.open hc_16
        refine stepV (i := 8) rfl hF (fun w hS => hY_16) rfl fun a hF => ?_
        refine stepV (i := 9) rfl hF (fun w hS => Y.loadNE (o := o_16) (k := 0) sz_52 hF rfl (hcell_16 _ hS.stab) rfl rfl) rfl fun a hF => ?_
        refine oneV (i := 10) rfl ?_ trivial
        refine O.alloc 3 zc_52 hF hS rfl fun b_21 a w hF hS => ?_
        refine nil (then_n ⟨hS.weak ⟨rfl, rfl, trivial⟩, ?_⟩)
        exact toTailV ⟨b_21, hF.weak ⟨rfl, rfl, rfl, rfl, rfl, rfl, rfl, rfl, rfl, rfl, trivial⟩, hS.weak ⟨rfl, rfl, rfl, trivial⟩⟩
       rintro a w ⟨b_18, hF, hS⟩
       refine O.store (us := [.int .i64 e_11.From, .int .i64 e_11.Warm, .int .i64 e_11.Life.Low, .int .i64 e_11.Life.High, .int .i64 e_11.Drift]) 3 sz_52 hF rfl rfl rfl rfl hS rfl rfl fun a w hF hS => ?_
       refine nil (then_n ?_)
       refine draws 43 [(0, true), (1, true), (2, true), (3, true), (4, true), (5, true), (6, true), (7, true), (8, true), (9, true), (10, true), (11, true), (12, true), (13, true), (14, true), (15, true), (16, true), (17, true), (18, true), (19, true), (20, true), (21, true), (22, true), (23, true), (24, true), (25, true), (26, true), (27, true), (28, true), (29, true), (30, true), (31, true), (32, true), (33, true), (34, true), (35, true), (36, true), (37, true), (38, true), (39, true), (40, true), (41, true), (42, true)] mixed_ (by kernel_rfl) (fun w => St w0 D0 Dv_1 _ w) hS.drew (fun _ _ _ _ h => h) ?_
       replace hS := hS.drew
       refine stepT (i := 0) rfl hF (fun w hS => Y.move hF rfl) rfl fun a hF => ?_
       refine stepT (i := 1) rfl hF (fun w hS => Y.move hF rfl) rfl fun a hF => ?_
       obtain ⟨t_6, ht_6, h⟩ := bind_some h
       refine joinT (N := 283) (rs := []) (w0 := w0) (D0 := D0) 40 (us := [(2, .pointer (some ⟨b, 0, none⟩)), (4, .bool v4_0), (5, .slice p_2 rv_2.length c_2), (6, .bool rv_3.1), (8, .bool t_5), (9, .bool t), (10, .int .i64 i), (247, .bool t_6)]) (ms := [(1, .cells b [.int .i64 sv.Hours, .int .i64 sv.Gap, .slice p sv.Machines.length c] 24), (2, .cells b_3 [.int .i64 e_1.From, .int .i64 e_1.Warm, .int .i64 e_1.Life.Low, .int .i64 e_1.Life.High, .int .i64 e_1.Drift] 52), (3, .cells b_18 [.int .i64 e_11.From, .int .i64 e_11.Warm, .int .i64 e_11.Life.Low, .int .i64 e_11.Life.High, .int .i64 e_11.Drift] 52)]) (D' := Dv_1) ?_ ?_
       ·rcases bcases t_5 with hbv_17 | hbv_17
        ·-- true
         replace h := cond_t ht_6 hbv_17
         refine stepT_on (i := 2) rfl hF rfl rfl hbv_17 (fun w hS => Y.fieldAddr fo_52_3 hF rfl) rfl fun a hF => ?_
         refine stepT_on (i := 3) rfl hF rfl rfl hbv_17 (fun w hS => Y.load1L 3 sz_3 hF rfl hS rfl rfl) rfl fun a hF => ?_
         refine stepT_on (i := 4) rfl hF rfl rfl hbv_17 (fun w hS => Y.move hF rfl) rfl fun a hF => ?_
         refine stepT_on (i := 5) rfl hF rfl rfl hbv_17 (fun w hS => Y.move hF rfl) rfl fun a hF => ?_
         obtain ⟨e_12, hx_17, h⟩ := bind_some h
         obtain ⟨b_22, o_17, hE_17, hY_17⟩ := Y.indexS (P := Tryd.prog) (C := C_SpareTurn) (xs := rv_2) (T := 25) (x := (.tmp 210)) (y := (.tmp 211)) u_25 sz_46 hF rfl rfl (hs_2).1 hx_17
         obtain ⟨cc_17, hc_17, hcell_17⟩ := hE_17.open
         obtain rfl := C_SpareTurn.open hc_17
         refine stepT_on (i := 6) rfl hF rfl rfl hbv_17 (fun w hS => hY_17) rfl fun a hF => ?_
         refine stepT_on (i := 7) rfl hF rfl rfl hbv_17 (fun w hS => Y.fieldAddr fo_46_2 hF rfl) rfl fun a hF => ?_
         refine stepT_on (i := 8) rfl hF rfl rfl hbv_17 (fun w hS => Y.load1 sz_3 hF rfl (hcell_17 _ hS.stab 2 _ rfl)) rfl fun a hF => ?_
         refine stepT_on (i := 9) rfl hF rfl rfl hbv_17 (fun w hS => Y.move hF rfl) rfl fun a hF => ?_
         refine stepT_on (i := 10) rfl hF rfl rfl hbv_17 (fun w hS => Y.move hF rfl) rfl fun a hF => ?_
         refine stepT_on (i := 11) rfl hF rfl rfl hbv_17 (fun w hS => Y.sub hF rfl rfl) rfl fun a hF => ?_
         obtain ⟨e_13, hx_18, h⟩ := bind_some h
         obtain ⟨b_23, o_18, hE_18, hY_18⟩ := Y.indexS (P := Tryd.prog) (C := C_SpareTurn) (xs := rv_2) (T := 25) (x := (.tmp 215)) (y := (.tmp 217)) u_25 sz_46 hF rfl rfl (hs_2).1 hx_18
         obtain ⟨cc_18, hc_18, hcell_18⟩ := hE_18.open
         obtain rfl := C_SpareTurn.open hc_18
         refine stepT_on (i := 12) rfl hF rfl rfl hbv_17 (fun w hS => hY_18) rfl fun a hF => ?_
         refine stepT_on (i := 13) rfl hF rfl rfl hbv_17 (fun w hS => Y.fieldAddr fo_46_1 hF rfl) rfl fun a hF => ?_
         refine stepT_on (i := 14) rfl hF rfl rfl hbv_17 (fun w hS => Y.load1 sz_3 hF rfl (hcell_18 _ hS.stab 1 _ rfl)) rfl fun a hF => ?_
         refine stepT_on (i := 15) rfl hF rfl rfl hbv_17 (fun w hS => Y.sub hF rfl rfl) rfl fun a hF => ?_
         refine stepT_on (i := 16) rfl hF rfl rfl hbv_17 (fun w hS => Y.fieldAddr fo_52_1 hF rfl) rfl fun a hF => ?_
         refine stepT_on (i := 17) rfl hF rfl rfl hbv_17 (fun w hS => Y.load1L 3 sz_3 hF rfl hS rfl rfl) rfl fun a hF => ?_
         refine stepT_on (i := 18) rfl hF rfl rfl hbv_17 (fun w hS => Y.sub hF rfl rfl) rfl fun a hF => ?_
         refine stepT_on (i := 19) rfl hF rfl rfl hbv_17 (fun w hS => Y.mul hF rfl rfl) rfl fun a hF => ?_
         refine stepT_on (i := 20) rfl hF rfl rfl hbv_17 (fun w hS => Y.fieldAddr fo_52_3 hF rfl) rfl fun a hF => ?_
         refine stepT_on (i := 21) rfl hF rfl rfl hbv_17 (fun w hS => Y.load1L 2 sz_3 hF rfl hS rfl rfl) rfl fun a hF => ?_
         refine stepT_on (i := 22) rfl hF rfl rfl hbv_17 (fun w hS => Y.move hF rfl) rfl fun a hF => ?_
         refine stepT_on (i := 23) rfl hF rfl rfl hbv_17 (fun w hS => Y.move hF rfl) rfl fun a hF => ?_
         obtain ⟨e_14, hx_19, h⟩ := bind_some h
         obtain ⟨b_24, o_19, hE_19, hY_19⟩ := Y.indexS (P := Tryd.prog) (C := C_SpareTurn) (xs := rv_2) (T := 25) (x := (.tmp 228)) (y := (.tmp 229)) u_25 sz_46 hF rfl rfl (hs_2).1 hx_19
         obtain ⟨cc_19, hc_19, hcell_19⟩ := hE_19.open
         obtain rfl := C_SpareTurn.open hc_19
         refine stepT_on (i := 24) rfl hF rfl rfl hbv_17 (fun w hS => hY_19) rfl fun a hF => ?_
         refine stepT_on (i := 25) rfl hF rfl rfl hbv_17 (fun w hS => Y.fieldAddr fo_46_2 hF rfl) rfl fun a hF => ?_
         refine stepT_on (i := 26) rfl hF rfl rfl hbv_17 (fun w hS => Y.load1 sz_3 hF rfl (hcell_19 _ hS.stab 2 _ rfl)) rfl fun a hF => ?_
         refine stepT_on (i := 27) rfl hF rfl rfl hbv_17 (fun w hS => Y.move hF rfl) rfl fun a hF => ?_
         refine stepT_on (i := 28) rfl hF rfl rfl hbv_17 (fun w hS => Y.move hF rfl) rfl fun a hF => ?_
         obtain ⟨e_15, hx_20, h⟩ := bind_some h
         obtain ⟨b_25, o_20, hE_20, hY_20⟩ := Y.indexS (P := Tryd.prog) (C := C_SpareTurn) (xs := rv_2) (T := 25) (x := (.tmp 233)) (y := (.tmp 234)) u_25 sz_46 hF rfl rfl (hs_2).1 hx_20
         obtain ⟨cc_20, hc_20, hcell_20⟩ := hE_20.open
         obtain rfl := C_SpareTurn.open hc_20
         refine stepT_on (i := 29) rfl hF rfl rfl hbv_17 (fun w hS => hY_20) rfl fun a hF => ?_
         refine stepT_on (i := 30) rfl hF rfl rfl hbv_17 (fun w hS => Y.fieldAddr fo_46_1 hF rfl) rfl fun a hF => ?_
         refine stepT_on (i := 31) rfl hF rfl rfl hbv_17 (fun w hS => Y.load1 sz_3 hF rfl (hcell_20 _ hS.stab 1 _ rfl)) rfl fun a hF => ?_
         refine stepT_on (i := 32) rfl hF rfl rfl hbv_17 (fun w hS => Y.sub hF rfl rfl) rfl fun a hF => ?_
         refine stepT_on (i := 33) rfl hF rfl rfl hbv_17 (fun w hS => Y.fieldAddr fo_52_1 hF rfl) rfl fun a hF => ?_
         refine stepT_on (i := 34) rfl hF rfl rfl hbv_17 (fun w hS => Y.load1L 2 sz_3 hF rfl hS rfl rfl) rfl fun a hF => ?_
         refine stepT_on (i := 35) rfl hF rfl rfl hbv_17 (fun w hS => Y.sub hF rfl rfl) rfl fun a hF => ?_
         refine stepT_on (i := 36) rfl hF rfl rfl hbv_17 (fun w hS => Y.mul hF rfl rfl) rfl fun a hF => ?_
         refine stepT_on (i := 37) rfl hF rfl rfl hbv_17 (fun w hS => Y.add hF rfl rfl) rfl fun a hF => ?_
         refine stepT_on (i := 38) rfl hF rfl rfl hbv_17 (fun w hS => Y.fieldAddr fo_24_1 hF rfl) rfl fun a hF => ?_
         refine stepT_on (i := 39) rfl hF rfl rfl hbv_17 (fun w hS => Y.load1L 1 sz_3 hF rfl hS rfl rfl) rfl fun a hF => ?_
         refine stepT_on (i := 40) rfl hF rfl rfl hbv_17 (fun w hS => Y.leq hF rfl rfl) rfl fun a hF => ?_
         refine stepT (i := 41) rfl hF (fun w hS => Y.pick_t hF rfl hbv_17 rfl) rfl fun a hF => ?_
         obtain rfl := some_inj h
         exact toTail ⟨hF.weak ⟨rfl, rfl, rfl, rfl, rfl, rfl, rfl, rfl, trivial⟩, hS.weak ⟨rfl, rfl, rfl, trivial⟩⟩
        ·-- false
         replace h := cond_f ht_6 hbv_17
         refine stepT_off (i := 2) rfl hF rfl rfl hbv_17 rfl fun a hF => ?_
         refine stepT_off (i := 3) rfl hF rfl rfl hbv_17 rfl fun a hF => ?_
         refine stepT_off (i := 4) rfl hF rfl rfl hbv_17 rfl fun a hF => ?_
         refine stepT_off (i := 5) rfl hF rfl rfl hbv_17 rfl fun a hF => ?_
         refine stepT_off (i := 6) rfl hF rfl rfl hbv_17 rfl fun a hF => ?_
         refine stepT_off (i := 7) rfl hF rfl rfl hbv_17 rfl fun a hF => ?_
         refine stepT_off (i := 8) rfl hF rfl rfl hbv_17 rfl fun a hF => ?_
         refine stepT_off (i := 9) rfl hF rfl rfl hbv_17 rfl fun a hF => ?_
         refine stepT_off (i := 10) rfl hF rfl rfl hbv_17 rfl fun a hF => ?_
         refine stepT_off (i := 11) rfl hF rfl rfl hbv_17 rfl fun a hF => ?_
         refine stepT_off (i := 12) rfl hF rfl rfl hbv_17 rfl fun a hF => ?_
         refine stepT_off (i := 13) rfl hF rfl rfl hbv_17 rfl fun a hF => ?_
         refine stepT_off (i := 14) rfl hF rfl rfl hbv_17 rfl fun a hF => ?_
         refine stepT_off (i := 15) rfl hF rfl rfl hbv_17 rfl fun a hF => ?_
         refine stepT_off (i := 16) rfl hF rfl rfl hbv_17 rfl fun a hF => ?_
         refine stepT_off (i := 17) rfl hF rfl rfl hbv_17 rfl fun a hF => ?_
         refine stepT_off (i := 18) rfl hF rfl rfl hbv_17 rfl fun a hF => ?_
         refine stepT_off (i := 19) rfl hF rfl rfl hbv_17 rfl fun a hF => ?_
         refine stepT_off (i := 20) rfl hF rfl rfl hbv_17 rfl fun a hF => ?_
         refine stepT_off (i := 21) rfl hF rfl rfl hbv_17 rfl fun a hF => ?_
         refine stepT_off (i := 22) rfl hF rfl rfl hbv_17 rfl fun a hF => ?_
         refine stepT_off (i := 23) rfl hF rfl rfl hbv_17 rfl fun a hF => ?_
         refine stepT_off (i := 24) rfl hF rfl rfl hbv_17 rfl fun a hF => ?_
         refine stepT_off (i := 25) rfl hF rfl rfl hbv_17 rfl fun a hF => ?_
         refine stepT_off (i := 26) rfl hF rfl rfl hbv_17 rfl fun a hF => ?_
         refine stepT_off (i := 27) rfl hF rfl rfl hbv_17 rfl fun a hF => ?_
         refine stepT_off (i := 28) rfl hF rfl rfl hbv_17 rfl fun a hF => ?_
         refine stepT_off (i := 29) rfl hF rfl rfl hbv_17 rfl fun a hF => ?_
         refine stepT_off (i := 30) rfl hF rfl rfl hbv_17 rfl fun a hF => ?_
         refine stepT_off (i := 31) rfl hF rfl rfl hbv_17 rfl fun a hF => ?_
         refine stepT_off (i := 32) rfl hF rfl rfl hbv_17 rfl fun a hF => ?_
         refine stepT_off (i := 33) rfl hF rfl rfl hbv_17 rfl fun a hF => ?_
         refine stepT_off (i := 34) rfl hF rfl rfl hbv_17 rfl fun a hF => ?_
         refine stepT_off (i := 35) rfl hF rfl rfl hbv_17 rfl fun a hF => ?_
         refine stepT_off (i := 36) rfl hF rfl rfl hbv_17 rfl fun a hF => ?_
         refine stepT_off (i := 37) rfl hF rfl rfl hbv_17 rfl fun a hF => ?_
         refine stepT_off (i := 38) rfl hF rfl rfl hbv_17 rfl fun a hF => ?_
         refine stepT_off (i := 39) rfl hF rfl rfl hbv_17 rfl fun a hF => ?_
         refine stepT_off (i := 40) rfl hF rfl rfl hbv_17 rfl fun a hF => ?_
         refine stepT (i := 41) rfl hF (fun w hS => Y.pick_f hF rfl hbv_17 rfl) rfl fun a hF => ?_
         obtain rfl := some_inj h
         exact toTail ⟨hF.weak ⟨rfl, rfl, rfl, rfl, rfl, rfl, rfl, rfl, trivial⟩, hS.weak ⟨rfl, rfl, rfl, trivial⟩⟩
       intro a w hF hS
       refine stepT (i := 42) rfl hF (fun w hS => Y.assign hF rfl) rfl fun a hF => ?_
       refine toTail ?_
       refine nil (blk_n (then_n ?_))
       refine region ?_
       refine step hF (Y.move hF rfl) rfl fun a hF => ?_
       refine step hF (Y.add hF rfl rfl) rfl fun a hF => ?_
       refine step hF (Y.assign hF rfl) rfl fun a hF => ?_
       refine nil (then_n ?_)
       exact ⟨_, nxt_some h, v4_0, t_6, t, (wr (i + 1)), Dv_1, rfl, hlev_1, hF.weak ⟨rfl, rfl, rfl, rfl, rfl, rfl, rfl, trivial⟩, hS.weak ⟨rfl, trivial⟩⟩
      ·replace h := cond_f h hbv_16
       refine skip_ (blk_n (then_n ?_))
       refine region ?_
       refine step hF (Y.move hF rfl) rfl fun a hF => ?_
       refine step hF (Y.add hF rfl rfl) rfl fun a hF => ?_
       refine step hF (Y.assign hF rfl) rfl fun a hF => ?_
       refine nil (then_n ?_)
       exact ⟨_, nxt_some h, v4_0, t_5, t, (wr (i + 1)), Dv_1, rfl, hlev_1, hF.weak ⟨rfl, rfl, rfl, rfl, rfl, rfl, rfl, trivial⟩, hS.weak ⟨rfl, trivial⟩⟩
   ·replace h := cond_f h hbv_2
    refine exit_ (then_x (then_x (blk_hit (then_n ?_))))
    replace h := ext_some h hxo
    refine seq ?_
    refine seq ?_
    refine region ?_
    refine step hF (Y.move hF rfl) rfl fun a hF => ?_
    refine step hF (Y.move hF rfl) rfl fun a hF => ?_
    refine step hF (Y.neb u_4 hF rfl rfl) rfl fun a hF => ?_
    refine step hF (Y.move hF rfl) rfl fun a hF => ?_
    refine join (N := 283) (rs := []) (w0 := w0) (D0 := D0) 6 (us := [(2, .pointer (some ⟨b, 0, none⟩)), (4, .bool v4_0), (5, .slice p_2 rv_2.length c_2), (257, .bool ((rv_3.1 != all) || (rv_3.1 && (!stints))))]) (ms := [(1, .cells b [.int .i64 sv.Hours, .int .i64 sv.Gap, .slice p sv.Machines.length c] 24)]) (D' := Dv_1) ?_ ?_
    ·rcases bcases (rv_3.1 != all) with hbv_19 | hbv_19
     ·-- true
      refine guard_off hF rfl rfl hbv_19 rfl fun a hF => ?_
      refine guard_off hF rfl rfl hbv_19 rfl fun a hF => ?_
      refine guard_offu hF rfl rfl rfl fun a hF => ?_
      refine guard_offu hF rfl rfl rfl fun a hF => ?_
      refine guard_off hF rfl rfl hbv_19 rfl fun a hF => ?_
      refine step hF (Y.pick_t hF rfl hbv_19 rfl) rfl fun a hF => ?_
      exact nil (then_n ⟨hF.weak ⟨rfl, rfl, rfl, (by rw [hbv_19]; rfl), trivial⟩, hS.weak ⟨rfl, trivial⟩⟩)
     ·-- false
      refine guard_on hF rfl rfl hbv_19 ?_
      refine step hF (Y.move hF rfl) rfl fun a hF => ?_
      refine guard_on hF rfl rfl hbv_19 ?_
      refine step hF (Y.move hF rfl) rfl fun a hF => ?_
      refine join (N := 283) (rs := []) (w0 := w0) (D0 := D0) 3 (us := [(2, .pointer (some ⟨b, 0, none⟩)), (4, .bool v4_0), (5, .slice p_2 rv_2.length c_2), (251, .bool (rv_3.1 != all)), (256, .bool (rv_3.1 && (!stints)))]) (ms := [(1, .cells b [.int .i64 sv.Hours, .int .i64 sv.Gap, .slice p sv.Machines.length c] 24)]) (D' := Dv_1) ?_ ?_
      ·rcases bcases rv_3.1 with hbv_20 | hbv_20
       ·-- true
        refine guard_on hF rfl rfl hbv_20 ?_
        refine step hF (Y.move hF rfl) rfl fun a hF => ?_
        refine guard_on hF rfl rfl hbv_20 ?_
        refine step hF (Y.not hF rfl) rfl fun a hF => ?_
        refine guard_on hF rfl rfl hbv_19 ?_
        refine step hF (Y.pick_t hF rfl hbv_20 rfl) rfl fun a hF => ?_
        exact nil (then_n ⟨hF.weak ⟨rfl, rfl, rfl, rfl, (by rw [hbv_20]; rfl), trivial⟩, hS.weak ⟨rfl, trivial⟩⟩)
       ·-- false
        refine guard_off hF rfl rfl hbv_20 rfl fun a hF => ?_
        refine guard_off hF rfl rfl hbv_20 rfl fun a hF => ?_
        refine guard_on hF rfl rfl hbv_19 ?_
        refine step hF (Y.pick_f hF rfl hbv_20 rfl) rfl fun a hF => ?_
        exact nil (then_n ⟨hF.weak ⟨rfl, rfl, rfl, rfl, (by rw [hbv_20]; rfl), trivial⟩, hS.weak ⟨rfl, trivial⟩⟩)
      intro a w hF hS
      refine step hF (Y.pick_f hF rfl hbv_19 rfl) rfl fun a hF => ?_
      exact nil (then_n ⟨hF.weak ⟨rfl, rfl, rfl, (by rw [hbv_19]; rfl), trivial⟩, hS.weak ⟨rfl, trivial⟩⟩)
    intro a w hF hS
    refine nil (then_n ?_)
    refine cond_b hF rfl (fun hbv_21 => ?_) (fun hbv_21 => ?_)
    ·replace h := cond_t h hbv_21
     refine seq ?_
     refine region ?_
     refine step hF (Y.assign hF rfl) rfl fun a hF => ?_
     refine nil (then_n ?_)
     refine ret_ (then_r ?_)
     obtain rfl := some_inj h
     exact leaveP Tryd.results9 hF hS (.cons (.tmp rfl) .nil) .nil rfl
    ·replace h := cond_f h hbv_21
     refine skip_ (then_n ?_)
     refine seq_cut (fun a w => ∃ (v4_1 : Bool), ∃ (Dv_2 : Stab), Dv_1.le Dv_2 ∧ Frm 283 [] [(4, .bool v4_1)] a ∧ St w0 D0 Dv_2 [(1, .cells b [.int .i64 sv.Hours, .int .i64 sv.Gap, .slice p sv.Machines.length c] 24)] w ∧ remontoirlaw08_SpareTried_k3 v4_1 = some out) ?_ ?_
     ·skip
      refine seq ?_
      refine region ?_
      refine step hF (Y.move hF rfl) rfl fun a hF => ?_
      refine step hF (Y.lenSl u_25 hF rfl) rfl fun a hF => ?_
      refine step hF (Y.gtr hF rfl rfl) rfl fun a hF => ?_
      refine nil (then_n ?_)
      refine cond_b hF rfl (fun hbv_22 => ?_) (fun hbv_22 => ?_)
      ·replace h := cond_t h hbv_22
       refine seq ?_
       refine region ?_
       have hr : Reps C_SpareTurn Dv_1 ([] : List SpareTurn) [] := Reps.nil
       refine O.buildSlice (E := 46) (C := C_SpareTurn) (xs := ([] : List SpareTurn)) (cs := []) (us := []) (parts := []) 4 hF hS rfl (by kernel_rfl) hr rfl rfl rfl fun p_3 c_3 a w hF hS => ?_
       refine step hF (Y.move hF rfl) rfl fun a hF => ?_
       obtain ⟨hg, h⟩ := ite_some h
       obtain ⟨ds, hds, hsrc⟩ := src_stab (C := C_SpareTurn) (xs := rv_2) (hs_2).1 hS.stab
       refine O.append (C := C_SpareTurn) (xs := ([] : List SpareTurn)) (ys := rv_2) 4 gr_25 hF rfl rfl hS rfl hsrc hr hds hg rfl fun p_4 c_4 a w hF hS hr_1 => ?_
       refine step hF (Y.assign hF rfl) rfl fun a hF => ?_
       refine nil (then_n ?_)
       refine seq ?_
       refine region ?_
       refine step hF (Y.move hF rfl) rfl fun a hF => ?_
       refine step hF (Y.move hF rfl) rfl fun a hF => ?_
       obtain ⟨e_17, hx_23, h⟩ := bind_some h
       obtain ⟨b_27, o_22, hE_22, hY_22⟩ := Y.indexS (P := Tryd.prog) (C := C_SpareTurn) (xs := rv_2) (T := 25) (x := (.tmp 265)) (y := (.const (.int .i64 0))) u_25 sz_46 hF rfl rfl (hs_2).1 hx_23
       obtain ⟨cc_22, hc_22, hcell_22⟩ := hE_22.open
       obtain rfl := C_SpareTurn.open hc_22
       refine step hF (hY_22) rfl fun a hF => ?_
       refine step hF (Y.fieldAddr fo_46_0 hF rfl) rfl fun a hF => ?_
       refine step hF (Y.load1 sz_3 hF rfl (hcell_22 _ hS.stab 0 _ rfl)) rfl fun a hF => ?_
       obtain ⟨e_18, hx_24, h⟩ := bind_some h
       obtain ⟨b_28, hp⟩ := hS.ownPtr (i := 4) rfl (idx_rng hx_24)
       obtain ⟨cc_23, hc_23, hsub⟩ := ownElI (C := C_SpareTurn) hr_1 hx_24
       obtain rfl := C_SpareTurn.open hc_23
       refine step hF (Y.indexOwn hp u_25 sz_46 (idx_rng hx_24) hF rfl rfl) rfl fun a hF => ?_
       refine step hF (Y.fieldAddr fo_46_0 hF rfl) rfl fun a hF => ?_
       refine O.storePart (C := C_SpareTurn) (v0 := (SpareTurn.mk e_17.Machine e_18.Start e_18.Over)) (x0 := e_18) (xs := (([] : List SpareTurn) ++ rv_2)) (us := [.int .i64 e_17.Machine]) (k := 0) 4 hp sz_3 (idx_rng hx_24) hF rfl rfl rfl rfl hx_24 (fun c0 h => by obtain rfl := C_SpareTurn.open h; rfl) (show 0 + 1 ≤ 3 by decide) hS rfl hr_1 fun cs a w hF hS hr_2 => ?_
       try rw [show (([] : List SpareTurn) ++ rv_2).length = ((([] : List SpareTurn) ++ rv_2).set (Int.toNat 1) (SpareTurn.mk e_17.Machine e_18.Start e_18.Over)).length from List.length_set.symm] at hF
       try rw [show (([] : List SpareTurn) ++ rv_2).length = ((([] : List SpareTurn) ++ rv_2).set (Int.toNat 1) (SpareTurn.mk e_17.Machine e_18.Start e_18.Over)).length from List.length_set.symm] at hS
       refine nil (then_n ?_)
       refine seq ?_
       refine region ?_
       refine step hF (Y.loadNL 1 sz_24 hF rfl hS rfl rfl rfl) rfl fun a hF => ?_
       refine step hF (Y.move hF rfl) rfl fun a hF => ?_
       obtain ⟨Dv_3, hlev_3, hs_3, hS⟩ := hS.freezeC (i := 4) (xs := ((([] : List SpareTurn) ++ rv_2).set (Int.toNat 1) (SpareTurn.mk e_17.Machine e_18.Start e_18.Over))) rfl hr_2
       replace hs := hs.mono hlev_3
       replace hs_1 := hs_1.mono hlev_3
       replace hG := hG.mono hlev_3
       replace hs_2 := hs_2.mono hlev_3
       replace hr := hr.mono hlev_3
       replace hr_1 := hr_1.mono hlev_3
       replace hcell_22 := fun w hw => hcell_22 w (Stab.on.le hw hlev_3)
       replace hr_2 := hr_2.mono hlev_3
       obtain ⟨rv_6, hx_25, h⟩ := bind_some h
       refine O.callP (us := [.agg #[.int .i64 sv.Hours, .int .i64 sv.Gap, .slice p sv.Machines.length c], .slice p_4 ((([] : List SpareTurn) ++ rv_2).set (Int.toNat 1) (SpareTurn.mk e_17.Machine e_18.Start e_18.Over)).length c_4]) ca_19 hF hS (spare_IsPlan_ok hS.stab sv ((([] : List SpareTurn) ++ rv_2).set (Int.toNat 1) (SpareTurn.mk e_17.Machine e_18.Start e_18.Over)) hs hs_3 rv_6 hx_25) rfl rfl fun a w hF hS => ?_
       refine step hF (Y.move hF rfl) rfl fun a hF => ?_
       refine step hF (Y.extract hF rfl rfl) rfl fun a hF => ?_
       refine step hF (Y.extract hF rfl rfl) rfl fun a hF => ?_
       refine step hF (Y.assign hF rfl) rfl fun a hF => ?_
       refine step hF (Y.assign hF rfl) rfl fun a hF => ?_
       refine nil (then_n ?_)
       refine seq ?_
       refine region ?_
       refine step hF (Y.move hF rfl) rfl fun a hF => ?_
       refine step hF (Y.neq hF rfl rfl) rfl fun a hF => ?_
       refine step hF (Y.move hF rfl) rfl fun a hF => ?_
       refine join (N := 283) (rs := []) (w0 := w0) (D0 := D0) 2 (us := [(4, .bool v4_0), (281, .bool ((rv_6.2 != 0) || rv_6.1))]) (ms := [(1, .cells b [.int .i64 sv.Hours, .int .i64 sv.Gap, .slice p sv.Machines.length c] 24)]) (D' := Dv_3) ?_ ?_
       ·rcases bcases (rv_6.2 != 0) with hbv_23 | hbv_23
        ·-- true
         refine guard_off hF rfl rfl hbv_23 rfl fun a hF => ?_
         refine step hF (Y.pick_t hF rfl hbv_23 rfl) rfl fun a hF => ?_
         exact nil (then_n ⟨hF.weak ⟨rfl, (by rw [hbv_23]; rfl), trivial⟩, hS.weak ⟨rfl, trivial⟩⟩)
        ·-- false
         refine guard_on hF rfl rfl hbv_23 ?_
         refine step hF (Y.move hF rfl) rfl fun a hF => ?_
         refine step hF (Y.pick_f hF rfl hbv_23 rfl) rfl fun a hF => ?_
         exact nil (then_n ⟨hF.weak ⟨rfl, (by rw [hbv_23]; rfl), trivial⟩, hS.weak ⟨rfl, trivial⟩⟩)
       intro a w hF hS
       refine nil (then_n ?_)
       refine cond_b hF rfl (fun hbv_24 => ?_) (fun hbv_24 => ?_)
       ·replace h := cond_t h hbv_24
        refine seq ?_
        refine region ?_
        refine step hF (Y.assign hF rfl) rfl fun a hF => ?_
        refine nil (then_n ?_)
        refine ret_ (then_r ?_)
        obtain rfl := some_inj h
        exact leaveP Tryd.results9 hF hS (.cons (.tmp rfl) .nil) .nil rfl
       ·replace h := cond_f h hbv_24
        refine skip_ (then_n ?_)
        exact ⟨v4_0, Dv_3, hlev_3, hF.weak ⟨rfl, trivial⟩, hS.weak ⟨rfl, trivial⟩, h⟩
      ·replace h := cond_f h hbv_22
       refine skip_ (then_n ?_)
       exact ⟨v4_0, Dv_1, Stab.le.refl _, hF.weak ⟨rfl, trivial⟩, hS.weak ⟨rfl, trivial⟩, h⟩
     ·rintro a w ⟨v4_1, Dv_2, hlev_2, hF, hS, h⟩
      unfold remontoirlaw08_SpareTried_k3 at h
      replace hs := hs.mono hlev_2
      replace hs_1 := hs_1.mono hlev_2
      replace hG := hG.mono hlev_2
      replace hs_2 := hs_2.mono hlev_2
      refine seq ?_
      refine region ?_
      obtain ⟨rv_5, hx_22, h⟩ := bind_some h
      refine O.callP (us := []) ca_21 hF hS (remontoirlaw08_works_ok hS.stab hG rv_5 hx_22) rfl rfl fun a w hF hS => ?_
      refine step hF (Y.assign hF rfl) rfl fun a hF => ?_
      refine nil (then_n ?_)
      refine ret_ ?_
      obtain rfl := some_inj h
      exact leaveP Tryd.results9 hF hS (.cons (.tmp rfl) .nil) .nil rfl

end Go.Proofs.YtidmdgjgpmeecaaDoor.Rt
