/- Walks of the functions of this seat: what each Go function comes to, as a Lean function, and the proof. Part WB3. Under no conditions. -/
import Derived.Test.YtpniidbbbhbglaaDoorC14WB2
set_option linter.unusedVariables false
set_option linter.unusedSimpArgs false
set_option maxRecDepth 100000
set_option maxHeartbeats 4000000
namespace Go.Proofs.YtpniidbbbhbglaaDoor.Rt
open Go Go.RowKit
noncomputable def beat_Best_b1 (xv : BeatCellar) (hour : Int) (rv_1 : (beat_cellar × Int)) : (Int × Int × Int) → Option ((Int × Int × Int) ⊕ (Int × Int × Int))
 | (clock, wide, v30_0) =>
  cond (decide (v30_0 < (xv.Rates.length : Int)))
  ((beat_truth).bind fun rv_2 =>
  (beat_cellar_between rv_1.1 (beat_spot.mk v30_0 hour) rv_2).bind fun rv_3 =>
  (beat_Best_2 rv_3).bind fun rv_4 =>
  (beat_Best_1 rv_3).bind fun rv_5 =>
  cond ((v30_0 == 0) || (decide ((wr (rv_4 - rv_5)) < wide)))
  (nxt (v30_0, wr (rv_4 - rv_5), wr (v30_0 + 1)))
  (nxt (clock, wide, wr (v30_0 + 1))))
  (ext (some (clock, wide, 0)))
noncomputable def beat_Best (xv : BeatCellar) (hour : Int) : Option (Int × Int × Int) :=
  (beat_lies hour 0 xv.Hours).bind fun rv =>
  (beat_asked xv rv).bind fun rv_1 =>
  cond (rv_1.2 != 0)
  (some (0, 0, rv_1.2))
  (loopU (beat_Best_b1 xv hour rv_1) (0, 0, 0))
theorem beat_Best_ok {w0 : World} {D0 : Stab} (hD : D0.on w0) (xv : BeatCellar) (hour : Int) {p : Option Addr} {c : Nat} {p_1 : Option Addr} {c_1 : Nat} {p_2 : Option Addr} {c_2 : Nat} (hs : SRc C_Span D0 xv.Rates p c) (hs_1 : SRc C_BeatOpen D0 xv.Opens p_1 c_1) (hs_2 : SRc C_BeatPair D0 xv.Pairs p_2 c_2) (hG : Glob D0) (out : (Int × Int × Int)) (h : beat_Best xv hour = some out) : Calls Tryd.prog 30 [.agg #[iv xv.Hours, .slice p xv.Rates.length c, .slice p_1 xv.Opens.length c_1, .slice p_2 xv.Pairs.length c_2], iv hour].toArray w0 (RetP D0 w0 (.tuple #[iv out.1, iv out.2.1, iv out.2.2])) := by
 refine enter _ 60 Tryd.func30 rfl Tryd.ntmps30 rfl fun a hF => ?_
 replace hF : Frm 60 [] [(0, .agg #[iv xv.Hours, .slice p xv.Rates.length c, .slice p_1 xv.Opens.length c_1, .slice p_2 xv.Pairs.length c_2]), (1, iv hour)] a := hF
 have hS := St.start hD
 unfold beat_Best at h
 refine seq (region (O.box (cs := [iv xv.Hours, .slice p xv.Rates.length c, .slice p_1 xv.Opens.length c_1, .slice p_2 xv.Pairs.length c_2]) 1 hF rfl rfl hS rfl fun b a w hF hS => step hF (Y.assign hF rfl) rfl fun a hF => step hF (Y.assign hF rfl) rfl fun a hF => step hF (Y.assign hF rfl) rfl fun a hF => nT (seq ?_)))
 obtain ⟨rv, hx, h⟩ := bind_some h
 obtain ⟨rv_1, hx_1, h⟩ := bind_some h
 refine drawsV 11 (.flt 0 (.flt 1 (.flt 2 (.flt 3 (.alt 4 (.alt 5 (.flt 6 (.flt 7 (.flt 8 (.alt 9 (.alt 10 .done .stop) .stop)))) (.alt 9 (.alt 5 (.flt 6 (.flt 7 (.flt 8 (.alt 10 .done .stop)))) .stop) .stop)) (.alt 9 (.alt 4 (.alt 5 (.flt 6 (.flt 7 (.flt 8 (.alt 10 .done .stop)))) .stop) .stop) .stop)))))) mixed_ (by kernel_rfl) (fun w => St w0 D0 D0 [(1, .cells b [iv xv.Hours, .slice p xv.Rates.length c, .slice p_1 xv.Opens.length c_1, .slice p_2 xv.Pairs.length c_2] 26)] w) (fun a w => ∃ (Dv_1 : Stab) (b_1 : Nat) (p_3 : Option Addr) (c_3 : Nat) (p_4 : Option Addr) (c_4 : Nat) (p_5 : Option Addr) (c_5 : Nat) (bm : Option Nat), D0.le Dv_1 ∧ Frm 60 [] [(1, iv hour), (2, .pointer (some ⟨b, 0, none⟩)), (4, iv 0), (5, iv 0), (6, iv 0), (7, .pointer (some ⟨b_1, 0, none⟩)), (21, iv rv_1.2)] a ∧ St w0 D0 Dv_1 [(1, .cells b [iv xv.Hours, .slice p xv.Rates.length c, .slice p_1 xv.Opens.length c_1, .slice p_2 xv.Pairs.length c_2] 26), (2, .cells b_1 [iv rv_1.1.BeatCellar.Hours, .slice p_3 rv_1.1.BeatCellar.Rates.length c_3, .slice p_4 rv_1.1.BeatCellar.Opens.length c_4, .slice p_5 rv_1.1.BeatCellar.Pairs.length c_5, iv rv_1.1.left, .map bm] 83)] w ∧ SRc C_Span Dv_1 rv_1.1.BeatCellar.Rates p_3 c_3 ∧ SRc C_BeatOpen Dv_1 rv_1.1.BeatCellar.Opens p_4 c_4 ∧ SRc C_BeatPair Dv_1 rv_1.1.BeatCellar.Pairs p_5 c_5 ∧ MapS kl_86 C_int false Dv_1 rv_1.1.place bm) (hS.weak (ms := [(1, .cells b [iv xv.Hours, .slice p xv.Rates.length c, .slice p_1 xv.Opens.length c_1, .slice p_2 xv.Pairs.length c_2] 26)]) ⟨rfl, trivial⟩).drew (fun _ _ _ _ h => h) ?_ ?_
 ·replace hS := hS.drew
  have hle0 := hS.le
  refine stepV (i := 0) rfl hF (fun w hS => Y.loadNL 1 sz_26 hF rfl hS rfl rfl rfl) rfl fun a hF => stepV (i := 1) rfl hF (fun w hS => Y.move hF rfl) rfl fun a hF => stepV (i := 2) rfl hF (fun w hS => Y.fieldAddr fo_26_0 hF rfl) rfl fun a hF => stepV (i := 3) rfl hF (fun w hS => Y.load1L 1 sz_3 hF rfl hS rfl rfl) rfl fun a hF => oneV (i := 4) rfl ?_ ?_
  ·skip
   refine O.callP (us := [iv hour, iv 0, iv xv.Hours]) ca_48 hF hS (beat_lies_ok hS.stab hour 0 xv.Hours rv hx) rfl rfl fun a w hF hS => nT ⟨hS.weak (ms := [(1, .cells b [iv xv.Hours, .slice p xv.Rates.length c, .slice p_1 xv.Opens.length c_1, .slice p_2 xv.Pairs.length c_2] 26)]) ⟨rfl, trivial⟩, ?_⟩
   refine oneV (i := 5) rfl ?_ ?_
   ·skip
    refine O.callS (us := [.agg #[iv xv.Hours, .slice p xv.Rates.length c, .slice p_1 xv.Opens.length c_1, .slice p_2 xv.Pairs.length c_2], .bool rv]) ca_56 hF hS (beat_asked_ok hS.stab xv rv hs hs_1 hs_2 hG rv_1 hx_1) rfl rfl fun v_1 Dv_2 a w hR_1 hlev_1 hF hS => ?_
    obtain ⟨p_6, c_6, p_7, c_7, p_8, c_8, bm_1, rfl, hs_6, hs_7, hs_8, hm_1⟩ := hR_1
    refine nT ⟨(hS.weak (ms := [(1, .cells b [iv xv.Hours, .slice p xv.Rates.length c, .slice p_1 xv.Opens.length c_1, .slice p_2 xv.Pairs.length c_2] 26)]) ⟨rfl, trivial⟩).weakD hlev_1 hle0, ?_⟩
    refine stepV (i := 6) rfl hF (fun w hS => Y.move hF rfl) rfl fun a hF => stepV (i := 7) rfl hF (fun w hS => Y.extract hF rfl rfl) rfl fun a hF => stepV (i := 8) rfl hF (fun w hS => Y.extract hF rfl rfl) rfl fun a hF => oneV (i := 9) rfl ?_ trivial
    refine O.alloc 2 zc_83 hF hS rfl fun b_2 a w hF hS => nT ⟨(hS.weak (ms := [(1, .cells b [iv xv.Hours, .slice p xv.Rates.length c, .slice p_1 xv.Opens.length c_1, .slice p_2 xv.Pairs.length c_2] 26)]) ⟨rfl, trivial⟩).weakD hlev_1 hle0, ?_⟩
    refine oneV (i := 10) rfl ?_ trivial
    refine O.store (us := [iv rv_1.1.BeatCellar.Hours, .slice p_6 rv_1.1.BeatCellar.Rates.length c_6, .slice p_7 rv_1.1.BeatCellar.Opens.length c_7, .slice p_8 rv_1.1.BeatCellar.Pairs.length c_8, iv rv_1.1.left, .map bm_1]) 2 sz_83 hF rfl rfl rfl rfl hS rfl rfl fun a w hF hS => nT ⟨(hS.weak (ms := [(1, .cells b [iv xv.Hours, .slice p xv.Rates.length c, .slice p_1 xv.Opens.length c_1, .slice p_2 xv.Pairs.length c_2] 26)]) ⟨rfl, trivial⟩).weakD hlev_1 hle0, ?_⟩
    exact toTailV ⟨Dv_2, b_2, p_6, c_6, p_7, c_7, p_8, c_8, bm_1, hlev_1, hF.weak (AF rfl), hS.weak ⟨rfl, rfl, trivial⟩, hs_6, hs_7, hs_8, hm_1⟩
   refine oneV (i := 9) rfl ?_ trivial
   refine O.alloc 2 zc_83 hF hS rfl fun b_3 a w hF hS => nT ⟨hS.weak (ms := [(1, .cells b [iv xv.Hours, .slice p xv.Rates.length c, .slice p_1 xv.Opens.length c_1, .slice p_2 xv.Pairs.length c_2] 26)]) ⟨rfl, trivial⟩, ?_⟩
   refine oneV (i := 5) rfl ?_ trivial
   refine O.callS (us := [.agg #[iv xv.Hours, .slice p xv.Rates.length c, .slice p_1 xv.Opens.length c_1, .slice p_2 xv.Pairs.length c_2], .bool rv]) ca_56 hF hS (beat_asked_ok hS.stab xv rv hs hs_1 hs_2 hG rv_1 hx_1) rfl rfl fun v_2 Dv_3 a w hR_2 hlev_2 hF hS => ?_
   obtain ⟨p_9, c_9, p_10, c_10, p_11, c_11, bm_2, rfl, hs_9, hs_10, hs_11, hm_2⟩ := hR_2
   refine nT ⟨(hS.weak (ms := [(1, .cells b [iv xv.Hours, .slice p xv.Rates.length c, .slice p_1 xv.Opens.length c_1, .slice p_2 xv.Pairs.length c_2] 26)]) ⟨rfl, trivial⟩).weakD hlev_2 hle0, ?_⟩
   refine stepV (i := 6) rfl hF (fun w hS => Y.move hF rfl) rfl fun a hF => stepV (i := 7) rfl hF (fun w hS => Y.extract hF rfl rfl) rfl fun a hF => stepV (i := 8) rfl hF (fun w hS => Y.extract hF rfl rfl) rfl fun a hF => oneV (i := 10) rfl ?_ trivial
   refine O.store (us := [iv rv_1.1.BeatCellar.Hours, .slice p_9 rv_1.1.BeatCellar.Rates.length c_9, .slice p_10 rv_1.1.BeatCellar.Opens.length c_10, .slice p_11 rv_1.1.BeatCellar.Pairs.length c_11, iv rv_1.1.left, .map bm_2]) 2 sz_83 hF rfl rfl rfl rfl hS rfl rfl fun a w hF hS => nT ⟨(hS.weak (ms := [(1, .cells b [iv xv.Hours, .slice p xv.Rates.length c, .slice p_1 xv.Opens.length c_1, .slice p_2 xv.Pairs.length c_2] 26)]) ⟨rfl, trivial⟩).weakD hlev_2 hle0, ?_⟩
   exact toTailV ⟨Dv_3, b_3, p_9, c_9, p_10, c_10, p_11, c_11, bm_2, hlev_2, hF.weak (AF rfl), hS.weak ⟨rfl, rfl, trivial⟩, hs_9, hs_10, hs_11, hm_2⟩
  refine oneV (i := 9) rfl ?_ trivial
  refine O.alloc 2 zc_83 hF hS rfl fun b_4 a w hF hS => nT ⟨hS.weak (ms := [(1, .cells b [iv xv.Hours, .slice p xv.Rates.length c, .slice p_1 xv.Opens.length c_1, .slice p_2 xv.Pairs.length c_2] 26)]) ⟨rfl, trivial⟩, ?_⟩
  refine oneV (i := 4) rfl ?_ trivial
  refine O.callP (us := [iv hour, iv 0, iv xv.Hours]) ca_48 hF hS (beat_lies_ok hS.stab hour 0 xv.Hours rv hx) rfl rfl fun a w hF hS => nT ⟨hS.weak (ms := [(1, .cells b [iv xv.Hours, .slice p xv.Rates.length c, .slice p_1 xv.Opens.length c_1, .slice p_2 xv.Pairs.length c_2] 26)]) ⟨rfl, trivial⟩, ?_⟩
  refine oneV (i := 5) rfl ?_ trivial
  refine O.callS (us := [.agg #[iv xv.Hours, .slice p xv.Rates.length c, .slice p_1 xv.Opens.length c_1, .slice p_2 xv.Pairs.length c_2], .bool rv]) ca_56 hF hS (beat_asked_ok hS.stab xv rv hs hs_1 hs_2 hG rv_1 hx_1) rfl rfl fun v_3 Dv_4 a w hR_3 hlev_3 hF hS => ?_
  obtain ⟨p_12, c_12, p_13, c_13, p_14, c_14, bm_3, rfl, hs_12, hs_13, hs_14, hm_3⟩ := hR_3
  refine nT ⟨(hS.weak (ms := [(1, .cells b [iv xv.Hours, .slice p xv.Rates.length c, .slice p_1 xv.Opens.length c_1, .slice p_2 xv.Pairs.length c_2] 26)]) ⟨rfl, trivial⟩).weakD hlev_3 hle0, ?_⟩
  refine stepV (i := 6) rfl hF (fun w hS => Y.move hF rfl) rfl fun a hF => stepV (i := 7) rfl hF (fun w hS => Y.extract hF rfl rfl) rfl fun a hF => stepV (i := 8) rfl hF (fun w hS => Y.extract hF rfl rfl) rfl fun a hF => oneV (i := 10) rfl ?_ trivial
  refine O.store (us := [iv rv_1.1.BeatCellar.Hours, .slice p_12 rv_1.1.BeatCellar.Rates.length c_12, .slice p_13 rv_1.1.BeatCellar.Opens.length c_13, .slice p_14 rv_1.1.BeatCellar.Pairs.length c_14, iv rv_1.1.left, .map bm_3]) 2 sz_83 hF rfl rfl rfl rfl hS rfl rfl fun a w hF hS => nT ⟨(hS.weak (ms := [(1, .cells b [iv xv.Hours, .slice p xv.Rates.length c, .slice p_1 xv.Opens.length c_1, .slice p_2 xv.Pairs.length c_2] 26)]) ⟨rfl, trivial⟩).weakD hlev_3 hle0, ?_⟩
  exact toTailV ⟨Dv_4, b_4, p_12, c_12, p_13, c_13, p_14, c_14, bm_3, hlev_3, hF.weak (AF rfl), hS.weak ⟨rfl, rfl, trivial⟩, hs_12, hs_13, hs_14, hm_3⟩
 rintro a w ⟨Dv_1, b_1, p_3, c_3, p_4, c_4, p_5, c_5, bm, hle, hF, hS, hj, hj_1, hj_2, hj_3⟩
 have hlev_4 := hle
 replace hG := hG.mono hlev_4
 refine step hF (Y.assign hF rfl) rfl fun a hF => nT (seq (seq (region (step hF (Y.move hF rfl) rfl fun a hF => step hF (Y.neq hF rfl rfl) rfl fun a hF => nT (cond_b hF rfl (fun hbv => ?_) (fun hbv => ?_))))))
 ·replace h := cond_t h hbv
  refine seq (region (step hF (Y.move hF rfl) rfl fun a hF => step hF (Y.assign hF rfl) rfl fun a hF => step hF (Y.assign hF rfl) rfl fun a hF => step hF (Y.assign hF rfl) rfl fun a hF => nT (ret_ (then_r ?_))))
  obtain rfl := some_inj h
  exact leaveP Tryd.results30 hF hS (.cons (.tmp rfl) (.cons (.tmp rfl) (.cons (.tmp rfl) .nil))) .nil rfl
 replace h := cond_f h hbv
 refine skip_ (then_n (seq (region (step hF (Y.build (parts := [(0, (.func 65))]) (cs := #[.func (.func 65) #[] #[]]) hF rfl (by kernel_rfl)) rfl fun a hF => step hF (Y.build (parts := [(0, (.func 66))]) (cs := #[.func (.func 66) #[] #[]]) hF rfl (by kernel_rfl)) rfl fun a hF => O.alloc 3 zc_112 hF hS rfl fun b_5 a w hF hS => O.alloc 4 zc_112 hF hS rfl fun b_6 a w hF hS => O.store (us := [.func (.func 65) #[] #[]]) 3 sz_112 hF rfl rfl rfl rfl hS rfl rfl fun a w hF hS => O.store (us := [.func (.func 66) #[] #[]]) 4 sz_112 hF rfl rfl rfl rfl hS rfl rfl fun a w hF hS => nT (seq (seq (region (step hF (Y.fieldAddr fo_26_1 hF rfl) rfl fun a hF => step hF (Y.load1L 1 sz_22 hF rfl hS rfl rfl) rfl fun a hF => step hF (Y.lenSl u_22 hF rfl) rfl fun a hF => step hF (Y.move hF rfl) rfl fun a hF => nT (block (loop_cut (body := beat_Best_b1 xv hour rv_1) (out := out) (fun s a w => ∃ (clock : Int) (wide : Int) (v30_0 : Int), ∃ (Dv_5 : Stab), s = (clock, wide, v30_0) ∧ Dv_1.le Dv_5 ∧ Frm 60 [] [(1, iv hour), (4, iv clock), (5, iv wide), (6, iv rv_1.2), (7, .pointer (some ⟨b_1, 0, none⟩)), (8, .pointer (some ⟨b_5, 0, none⟩)), (9, .pointer (some ⟨b_6, 0, none⟩)), (29, iv (xv.Rates.length : Int)), (30, iv v30_0)] a ∧ St w0 D0 Dv_5 [(1, .cells b [iv xv.Hours, .slice p xv.Rates.length c, .slice p_1 xv.Opens.length c_1, .slice p_2 xv.Pairs.length c_2] 26), (2, .cells b_1 [iv rv_1.1.BeatCellar.Hours, .slice p_3 rv_1.1.BeatCellar.Rates.length c_3, .slice p_4 rv_1.1.BeatCellar.Opens.length c_4, .slice p_5 rv_1.1.BeatCellar.Pairs.length c_5, iv rv_1.1.left, .map bm] 83), (3, .cells b_5 [.func (.func 65) #[] #[]] 112), (4, .cells b_6 [.func (.func 66) #[] #[]] 112)] w) (0, 0, 0) h ⟨0, 0, 0, Dv_1, rfl, Stab.le.refl _, hF.weak (AF rfl), hS.weak (AL rfl)⟩ ?_))))))))))
 rintro s a w xo ⟨clock, wide, v30_0, Dv_5, rfl, hlev_5, hF, hS⟩ h hxo
 unfold beat_Best_b1 at h
 dsimp only at h
 replace hG := hG.mono hlev_5
 replace hj := hj.mono hlev_5
 replace hj_1 := hj_1.mono hlev_5
 replace hj_2 := hj_2.mono hlev_5
 replace hj_3 := hj_3.mono hlev_5
 refine seq (region (step hF (Y.lss hF rfl rfl) rfl fun a hF => nT (seq (cond_b hF rfl (fun hbv_1 => ?_) (fun hbv_1 => ?_)))))
 ·replace h := cond_t h hbv_1
  refine skip_ (then_n (seq (block (seq (region (step hF (Y.move hF rfl) rfl fun a hF => step hF (Y.assign hF rfl) rfl fun a hF => nT (seq ?_)))))))
  obtain ⟨rv_2, hx_2, h⟩ := bind_some h
  obtain ⟨rv_3, hx_3, h⟩ := bind_some h
  refine drawsV 7 (.flt 0 (.flt 1 (.flt 2 (.flt 3 (.alt 4 (.alt 5 (.alt 6 .done .stop) (.alt 6 (.alt 5 .done .stop) .stop)) (.alt 6 (.alt 4 (.alt 5 .done .stop) .stop) .stop)))))) mixed_ (by kernel_rfl) (fun w => St w0 D0 Dv_5 [(1, .cells b [iv xv.Hours, .slice p xv.Rates.length c, .slice p_1 xv.Opens.length c_1, .slice p_2 xv.Pairs.length c_2] 26), (2, .cells b_1 [iv rv_1.1.BeatCellar.Hours, .slice p_3 rv_1.1.BeatCellar.Rates.length c_3, .slice p_4 rv_1.1.BeatCellar.Opens.length c_4, .slice p_5 rv_1.1.BeatCellar.Pairs.length c_5, iv rv_1.1.left, .map bm] 83), (3, .cells b_5 [.func (.func 65) #[] #[]] 112), (4, .cells b_6 [.func (.func 66) #[] #[]] 112)] w) (fun a w => ∃ (b_7 : Nat), Frm 60 [] [(1, iv hour), (4, iv clock), (5, iv wide), (6, iv rv_1.2), (7, .pointer (some ⟨b_1, 0, none⟩)), (8, .pointer (some ⟨b_5, 0, none⟩)), (9, .pointer (some ⟨b_6, 0, none⟩)), (10, iv v30_0), (11, .pointer (some ⟨b_7, 0, none⟩)), (29, iv (xv.Rates.length : Int)), (30, iv v30_0), (38, .agg #[iv rv_3.Low, iv rv_3.High])] a ∧ St w0 D0 Dv_5 [(1, .cells b [iv xv.Hours, .slice p xv.Rates.length c, .slice p_1 xv.Opens.length c_1, .slice p_2 xv.Pairs.length c_2] 26), (2, .cells b_1 [iv rv_1.1.BeatCellar.Hours, .slice p_3 rv_1.1.BeatCellar.Rates.length c_3, .slice p_4 rv_1.1.BeatCellar.Opens.length c_4, .slice p_5 rv_1.1.BeatCellar.Pairs.length c_5, iv rv_1.1.left, .map bm] 83), (3, .cells b_5 [.func (.func 65) #[] #[]] 112), (4, .cells b_6 [.func (.func 66) #[] #[]] 112), (5, .cells b_7 [iv 0, iv 0] 34)] w) (hS.weak (ms := [(1, .cells b [iv xv.Hours, .slice p xv.Rates.length c, .slice p_1 xv.Opens.length c_1, .slice p_2 xv.Pairs.length c_2] 26), (2, .cells b_1 [iv rv_1.1.BeatCellar.Hours, .slice p_3 rv_1.1.BeatCellar.Rates.length c_3, .slice p_4 rv_1.1.BeatCellar.Opens.length c_4, .slice p_5 rv_1.1.BeatCellar.Pairs.length c_5, iv rv_1.1.left, .map bm] 83), (3, .cells b_5 [.func (.func 65) #[] #[]] 112), (4, .cells b_6 [.func (.func 66) #[] #[]] 112)]) (AL rfl)).drew (fun _ _ _ _ h => h) ?_ ?_
  ·replace hS := hS.drew
   have hle0 := hS.le
   refine stepV (i := 0) rfl hF (fun w hS => Y.loadNL 2 sz_83 hF rfl hS rfl rfl rfl) rfl fun a hF => stepV (i := 1) rfl hF (fun w hS => Y.move hF rfl) rfl fun a hF => stepV (i := 2) rfl hF (fun w hS => Y.move hF rfl) rfl fun a hF => stepV (i := 3) rfl hF (fun w hS => Y.build (parts := [(0, (.tmp 34)), (1, (.tmp 35))]) (cs := #[iv v30_0, iv hour]) hF rfl (by kernel_rfl)) rfl fun a hF => oneV (i := 4) rfl ?_ ?_
   ·skip
    refine O.callP (us := []) ca_51 hF hS (beat_truth_ok hS.stab rv_2 hx_2) rfl rfl fun a w hF hS => nT ⟨hS.weak (ms := [(1, .cells b [iv xv.Hours, .slice p xv.Rates.length c, .slice p_1 xv.Opens.length c_1, .slice p_2 xv.Pairs.length c_2] 26), (2, .cells b_1 [iv rv_1.1.BeatCellar.Hours, .slice p_3 rv_1.1.BeatCellar.Rates.length c_3, .slice p_4 rv_1.1.BeatCellar.Opens.length c_4, .slice p_5 rv_1.1.BeatCellar.Pairs.length c_5, iv rv_1.1.left, .map bm] 83), (3, .cells b_5 [.func (.func 65) #[] #[]] 112), (4, .cells b_6 [.func (.func 66) #[] #[]] 112)]) (AL rfl), ?_⟩
    refine oneV (i := 5) rfl ?_ ?_
    ·skip
     refine O.callP (us := [.agg #[iv rv_1.1.BeatCellar.Hours, .slice p_3 rv_1.1.BeatCellar.Rates.length c_3, .slice p_4 rv_1.1.BeatCellar.Opens.length c_4, .slice p_5 rv_1.1.BeatCellar.Pairs.length c_5, iv rv_1.1.left, .map bm], .agg #[iv v30_0, iv hour], .agg #[iv rv_2.clock, iv rv_2.hour]]) ca_58 hF hS (beat_cellar_between_ok hS.stab rv_1.1 (beat_spot.mk v30_0 hour) rv_2 hj hj_1 hj_2 hj_3 hG rv_3 hx_3) rfl rfl fun a w hF hS => nT ⟨hS.weak (ms := [(1, .cells b [iv xv.Hours, .slice p xv.Rates.length c, .slice p_1 xv.Opens.length c_1, .slice p_2 xv.Pairs.length c_2] 26), (2, .cells b_1 [iv rv_1.1.BeatCellar.Hours, .slice p_3 rv_1.1.BeatCellar.Rates.length c_3, .slice p_4 rv_1.1.BeatCellar.Opens.length c_4, .slice p_5 rv_1.1.BeatCellar.Pairs.length c_5, iv rv_1.1.left, .map bm] 83), (3, .cells b_5 [.func (.func 65) #[] #[]] 112), (4, .cells b_6 [.func (.func 66) #[] #[]] 112)]) (AL rfl), ?_⟩
     refine oneV (i := 6) rfl ?_ trivial
     refine O.alloc 5 zc_34 hF hS rfl fun b_8 a w hF hS => nT ⟨hS.weak (ms := [(1, .cells b [iv xv.Hours, .slice p xv.Rates.length c, .slice p_1 xv.Opens.length c_1, .slice p_2 xv.Pairs.length c_2] 26), (2, .cells b_1 [iv rv_1.1.BeatCellar.Hours, .slice p_3 rv_1.1.BeatCellar.Rates.length c_3, .slice p_4 rv_1.1.BeatCellar.Opens.length c_4, .slice p_5 rv_1.1.BeatCellar.Pairs.length c_5, iv rv_1.1.left, .map bm] 83), (3, .cells b_5 [.func (.func 65) #[] #[]] 112), (4, .cells b_6 [.func (.func 66) #[] #[]] 112)]) (AL rfl), ?_⟩
     exact toTailV ⟨b_8, hF.weak (AF rfl), hS.weak (AL rfl)⟩
    refine oneV (i := 6) rfl ?_ trivial
    refine O.alloc 5 zc_34 hF hS rfl fun b_9 a w hF hS => nT ⟨hS.weak (ms := [(1, .cells b [iv xv.Hours, .slice p xv.Rates.length c, .slice p_1 xv.Opens.length c_1, .slice p_2 xv.Pairs.length c_2] 26), (2, .cells b_1 [iv rv_1.1.BeatCellar.Hours, .slice p_3 rv_1.1.BeatCellar.Rates.length c_3, .slice p_4 rv_1.1.BeatCellar.Opens.length c_4, .slice p_5 rv_1.1.BeatCellar.Pairs.length c_5, iv rv_1.1.left, .map bm] 83), (3, .cells b_5 [.func (.func 65) #[] #[]] 112), (4, .cells b_6 [.func (.func 66) #[] #[]] 112)]) (AL rfl), ?_⟩
    refine oneV (i := 5) rfl ?_ trivial
    refine O.callP (us := [.agg #[iv rv_1.1.BeatCellar.Hours, .slice p_3 rv_1.1.BeatCellar.Rates.length c_3, .slice p_4 rv_1.1.BeatCellar.Opens.length c_4, .slice p_5 rv_1.1.BeatCellar.Pairs.length c_5, iv rv_1.1.left, .map bm], .agg #[iv v30_0, iv hour], .agg #[iv rv_2.clock, iv rv_2.hour]]) ca_58 hF hS (beat_cellar_between_ok hS.stab rv_1.1 (beat_spot.mk v30_0 hour) rv_2 hj hj_1 hj_2 hj_3 hG rv_3 hx_3) rfl rfl fun a w hF hS => nT ⟨hS.weak (ms := [(1, .cells b [iv xv.Hours, .slice p xv.Rates.length c, .slice p_1 xv.Opens.length c_1, .slice p_2 xv.Pairs.length c_2] 26), (2, .cells b_1 [iv rv_1.1.BeatCellar.Hours, .slice p_3 rv_1.1.BeatCellar.Rates.length c_3, .slice p_4 rv_1.1.BeatCellar.Opens.length c_4, .slice p_5 rv_1.1.BeatCellar.Pairs.length c_5, iv rv_1.1.left, .map bm] 83), (3, .cells b_5 [.func (.func 65) #[] #[]] 112), (4, .cells b_6 [.func (.func 66) #[] #[]] 112)]) (AL rfl), ?_⟩
    exact toTailV ⟨b_9, hF.weak (AF rfl), hS.weak (AL rfl)⟩
   refine oneV (i := 6) rfl ?_ trivial
   refine O.alloc 5 zc_34 hF hS rfl fun b_10 a w hF hS => nT ⟨hS.weak (ms := [(1, .cells b [iv xv.Hours, .slice p xv.Rates.length c, .slice p_1 xv.Opens.length c_1, .slice p_2 xv.Pairs.length c_2] 26), (2, .cells b_1 [iv rv_1.1.BeatCellar.Hours, .slice p_3 rv_1.1.BeatCellar.Rates.length c_3, .slice p_4 rv_1.1.BeatCellar.Opens.length c_4, .slice p_5 rv_1.1.BeatCellar.Pairs.length c_5, iv rv_1.1.left, .map bm] 83), (3, .cells b_5 [.func (.func 65) #[] #[]] 112), (4, .cells b_6 [.func (.func 66) #[] #[]] 112)]) (AL rfl), ?_⟩
   refine oneV (i := 4) rfl ?_ trivial
   refine O.callP (us := []) ca_51 hF hS (beat_truth_ok hS.stab rv_2 hx_2) rfl rfl fun a w hF hS => nT ⟨hS.weak (ms := [(1, .cells b [iv xv.Hours, .slice p xv.Rates.length c, .slice p_1 xv.Opens.length c_1, .slice p_2 xv.Pairs.length c_2] 26), (2, .cells b_1 [iv rv_1.1.BeatCellar.Hours, .slice p_3 rv_1.1.BeatCellar.Rates.length c_3, .slice p_4 rv_1.1.BeatCellar.Opens.length c_4, .slice p_5 rv_1.1.BeatCellar.Pairs.length c_5, iv rv_1.1.left, .map bm] 83), (3, .cells b_5 [.func (.func 65) #[] #[]] 112), (4, .cells b_6 [.func (.func 66) #[] #[]] 112)]) (AL rfl), ?_⟩
   refine oneV (i := 5) rfl ?_ trivial
   refine O.callP (us := [.agg #[iv rv_1.1.BeatCellar.Hours, .slice p_3 rv_1.1.BeatCellar.Rates.length c_3, .slice p_4 rv_1.1.BeatCellar.Opens.length c_4, .slice p_5 rv_1.1.BeatCellar.Pairs.length c_5, iv rv_1.1.left, .map bm], .agg #[iv v30_0, iv hour], .agg #[iv rv_2.clock, iv rv_2.hour]]) ca_58 hF hS (beat_cellar_between_ok hS.stab rv_1.1 (beat_spot.mk v30_0 hour) rv_2 hj hj_1 hj_2 hj_3 hG rv_3 hx_3) rfl rfl fun a w hF hS => nT ⟨hS.weak (ms := [(1, .cells b [iv xv.Hours, .slice p xv.Rates.length c, .slice p_1 xv.Opens.length c_1, .slice p_2 xv.Pairs.length c_2] 26), (2, .cells b_1 [iv rv_1.1.BeatCellar.Hours, .slice p_3 rv_1.1.BeatCellar.Rates.length c_3, .slice p_4 rv_1.1.BeatCellar.Opens.length c_4, .slice p_5 rv_1.1.BeatCellar.Pairs.length c_5, iv rv_1.1.left, .map bm] 83), (3, .cells b_5 [.func (.func 65) #[] #[]] 112), (4, .cells b_6 [.func (.func 66) #[] #[]] 112)]) (AL rfl), ?_⟩
   exact toTailV ⟨b_10, hF.weak (AF rfl), hS.weak (AL rfl)⟩
  rintro a w ⟨b_7, hF, hS⟩
  refine O.store (us := [iv rv_3.Low, iv rv_3.High]) 5 sz_34 hF rfl rfl rfl rfl hS rfl rfl fun a w hF hS => nT (seq ?_)
  obtain ⟨rv_4, hx_4, h⟩ := bind_some h
  refine drawsV 7 (.flt 0 (.flt 1 (.flt 2 (.flt 4 (.flt 5 (.flt 6 (.alt 3 .done .stop))))))) mixed_ (by kernel_rfl) (fun w => St w0 D0 Dv_5 [(1, .cells b [iv xv.Hours, .slice p xv.Rates.length c, .slice p_1 xv.Opens.length c_1, .slice p_2 xv.Pairs.length c_2] 26), (2, .cells b_1 [iv rv_1.1.BeatCellar.Hours, .slice p_3 rv_1.1.BeatCellar.Rates.length c_3, .slice p_4 rv_1.1.BeatCellar.Opens.length c_4, .slice p_5 rv_1.1.BeatCellar.Pairs.length c_5, iv rv_1.1.left, .map bm] 83), (3, .cells b_5 [.func (.func 65) #[] #[]] 112), (4, .cells b_6 [.func (.func 66) #[] #[]] 112), (5, .cells b_7 [iv rv_3.Low, iv rv_3.High] 34)] w) (fun a w => Frm 60 [] [(1, iv hour), (4, iv clock), (5, iv wide), (6, iv rv_1.2), (7, .pointer (some ⟨b_1, 0, none⟩)), (8, .pointer (some ⟨b_5, 0, none⟩)), (9, .pointer (some ⟨b_6, 0, none⟩)), (10, iv v30_0), (29, iv (xv.Rates.length : Int)), (30, iv v30_0), (42, iv rv_4), (44, .func (.func 65) #[] #[]), (45, .agg #[iv rv_3.Low, iv rv_3.High])] a ∧ St w0 D0 Dv_5 [(1, .cells b [iv xv.Hours, .slice p xv.Rates.length c, .slice p_1 xv.Opens.length c_1, .slice p_2 xv.Pairs.length c_2] 26), (2, .cells b_1 [iv rv_1.1.BeatCellar.Hours, .slice p_3 rv_1.1.BeatCellar.Rates.length c_3, .slice p_4 rv_1.1.BeatCellar.Opens.length c_4, .slice p_5 rv_1.1.BeatCellar.Pairs.length c_5, iv rv_1.1.left, .map bm] 83), (3, .cells b_5 [.func (.func 65) #[] #[]] 112), (4, .cells b_6 [.func (.func 66) #[] #[]] 112), (5, .cells b_7 [iv rv_3.Low, iv rv_3.High] 34)] w) (hS.weak (ms := [(1, .cells b [iv xv.Hours, .slice p xv.Rates.length c, .slice p_1 xv.Opens.length c_1, .slice p_2 xv.Pairs.length c_2] 26), (2, .cells b_1 [iv rv_1.1.BeatCellar.Hours, .slice p_3 rv_1.1.BeatCellar.Rates.length c_3, .slice p_4 rv_1.1.BeatCellar.Opens.length c_4, .slice p_5 rv_1.1.BeatCellar.Pairs.length c_5, iv rv_1.1.left, .map bm] 83), (3, .cells b_5 [.func (.func 65) #[] #[]] 112), (4, .cells b_6 [.func (.func 66) #[] #[]] 112), (5, .cells b_7 [iv rv_3.Low, iv rv_3.High] 34)]) (AL rfl)).drew (fun _ _ _ _ h => h) ?_ ?_
  ·replace hS := hS.drew
   have hle0 := hS.le
   refine stepV (i := 0) rfl hF (fun w hS => Y.fieldAddr fo_112_0 hF rfl) rfl fun a hF => stepV (i := 1) rfl hF (fun w hS => Y.load1L 4 sz_110 hF rfl hS rfl rfl) rfl fun a hF => stepV (i := 2) rfl hF (fun w hS => Y.loadNL 5 sz_34 hF rfl hS rfl rfl rfl) rfl fun a hF => stepV (i := 4) rfl hF (fun w hS => Y.fieldAddr fo_112_0 hF rfl) rfl fun a hF => stepV (i := 5) rfl hF (fun w hS => Y.load1L 3 sz_110 hF rfl hS rfl rfl) rfl fun a hF => stepV (i := 6) rfl hF (fun w hS => Y.loadNL 5 sz_34 hF rfl hS rfl rfl rfl) rfl fun a hF => oneV (i := 3) rfl ?_ trivial
   refine O.callVP (f := 66) (first := []) (cap := []) (us := [.agg #[iv rv_3.Low, iv rv_3.High]]) ca_66 hF hS rfl rfl (beat_Best_2_ok hS.stab rv_3 rv_4 hx_4) rfl fun a w hF hS => nT ⟨hS.weak (ms := [(1, .cells b [iv xv.Hours, .slice p xv.Rates.length c, .slice p_1 xv.Opens.length c_1, .slice p_2 xv.Pairs.length c_2] 26), (2, .cells b_1 [iv rv_1.1.BeatCellar.Hours, .slice p_3 rv_1.1.BeatCellar.Rates.length c_3, .slice p_4 rv_1.1.BeatCellar.Opens.length c_4, .slice p_5 rv_1.1.BeatCellar.Pairs.length c_5, iv rv_1.1.left, .map bm] 83), (3, .cells b_5 [.func (.func 65) #[] #[]] 112), (4, .cells b_6 [.func (.func 66) #[] #[]] 112), (5, .cells b_7 [iv rv_3.Low, iv rv_3.High] 34)]) (AL rfl), ?_⟩
   exact toTailV ⟨hF.weak (AF rfl), hS.weak (AL rfl)⟩
  rintro a w ⟨hF, hS⟩
  obtain ⟨rv_5, hx_5, h⟩ := bind_some h
  refine O.callVP (f := 65) (first := []) (cap := []) (us := [.agg #[iv rv_3.Low, iv rv_3.High]]) ca_65 hF hS rfl rfl (beat_Best_1_ok hS.stab rv_3 rv_5 hx_5) rfl fun a w hF hS => step hF (Y.sub hF rfl rfl) rfl fun a hF => step hF (Y.assign hF rfl) rfl fun a hF => nT (seq (region (step hF (Y.move hF rfl) rfl fun a hF => step hF (Y.eql hF rfl rfl) rfl fun a hF => step hF (Y.move hF rfl) rfl fun a hF => join (N := 60) (rs := []) (w0 := w0) (D0 := D0) 4 (us := [(1, iv hour), (4, iv clock), (5, iv wide), (6, iv rv_1.2), (7, .pointer (some ⟨b_1, 0, none⟩)), (8, .pointer (some ⟨b_5, 0, none⟩)), (9, .pointer (some ⟨b_6, 0, none⟩)), (10, iv v30_0), (12, iv (wr (rv_4 - rv_5))), (29, iv (xv.Rates.length : Int)), (30, iv v30_0), (54, .bool ((v30_0 == 0) || (decide ((wr (rv_4 - rv_5)) < wide))))]) (ms := [(1, .cells b [iv xv.Hours, .slice p xv.Rates.length c, .slice p_1 xv.Opens.length c_1, .slice p_2 xv.Pairs.length c_2] 26), (2, .cells b_1 [iv rv_1.1.BeatCellar.Hours, .slice p_3 rv_1.1.BeatCellar.Rates.length c_3, .slice p_4 rv_1.1.BeatCellar.Opens.length c_4, .slice p_5 rv_1.1.BeatCellar.Pairs.length c_5, iv rv_1.1.left, .map bm] 83), (3, .cells b_5 [.func (.func 65) #[] #[]] 112), (4, .cells b_6 [.func (.func 66) #[] #[]] 112), (5, .cells b_7 [iv rv_3.Low, iv rv_3.High] 34)]) (D' := Dv_5) ?_ ?_)))
  ·rcases bcases (v30_0 == 0) with hbv_2 | hbv_2
   ·skip
    refine guard_off hF rfl rfl hbv_2 rfl fun a hF => guard_off hF rfl rfl hbv_2 rfl fun a hF => guard_off hF rfl rfl hbv_2 rfl fun a hF => step hF (Y.pick_t hF rfl hbv_2 rfl) rfl fun a hF => nT ⟨hF.weak ⟨rfl, rfl, rfl, rfl, rfl, rfl, rfl, rfl, rfl, rfl, rfl, (by rw [hbv_2]; rfl), trivial⟩, hS.weak (AL rfl)⟩
   refine guard_on hF rfl rfl hbv_2 (step hF (Y.move hF rfl) rfl fun a hF => guard_on hF rfl rfl hbv_2 (step hF (Y.move hF rfl) rfl fun a hF => guard_on hF rfl rfl hbv_2 (step hF (Y.lss hF rfl rfl) rfl fun a hF => step hF (Y.pick_f hF rfl hbv_2 rfl) rfl fun a hF => nT ⟨hF.weak ⟨rfl, rfl, rfl, rfl, rfl, rfl, rfl, rfl, rfl, rfl, rfl, (by rw [hbv_2]; rfl), trivial⟩, hS.weak (AL rfl)⟩)))
  intro a w hF hS
  refine nT (cond_b hF rfl (fun hbv_3 => ?_) (fun hbv_3 => ?_))
  ·replace h := cond_t h hbv_3
   refine region (step hF (Y.move hF rfl) rfl fun a hF => step hF (Y.move hF rfl) rfl fun a hF => step hF (Y.assign hF rfl) rfl fun a hF => step hF (Y.assign hF rfl) rfl fun a hF => nil (blk_n (then_n (region (step hF (Y.add hF rfl rfl) rfl fun a hF => step hF (Y.move hF rfl) rfl fun a hF => nT (⟨_, nxt_some h, v30_0, (wr (rv_4 - rv_5)), (wr (v30_0 + 1)), Dv_5, rfl, hlev_5, hF.weak (AF rfl), hS.weak (AL rfl)⟩))))))
  replace h := cond_f h hbv_3
  refine skip_ (blk_n (then_n (region (step hF (Y.add hF rfl rfl) rfl fun a hF => step hF (Y.move hF rfl) rfl fun a hF => nT (⟨_, nxt_some h, clock, wide, (wr (v30_0 + 1)), Dv_5, rfl, hlev_5, hF.weak (AF rfl), hS.weak (AL rfl)⟩)))))
 replace h := cond_f h hbv_1
 refine exit_ (then_x (then_x (blk_hit (then_n ?_))))
 replace h := ext_some h hxo
 refine seq (region (step hF (Y.move hF rfl) rfl fun a hF => step hF (Y.move hF rfl) rfl fun a hF => step hF (Y.assign hF rfl) rfl fun a hF => step hF (Y.assign hF rfl) rfl fun a hF => step hF (Y.assign hF rfl) rfl fun a hF => nT (ret_ ?_)))
 obtain rfl := some_inj h
 exact leaveP Tryd.results30 hF hS (.cons (.tmp rfl) (.cons (.tmp rfl) (.cons (.tmp rfl) .nil))) .nil rfl
noncomputable def remontoirlaw02_works : Option Bool :=
  (remontoirlaw02_cellar ([] : List BeatPair)).bind fun rv =>
  (beat_Offset rv 0 1).bind fun rv_1 =>
  (remontoirlaw02_cellar ([] : List BeatPair)).bind fun rv_2 =>
  (beat_Apart rv_2 0 1 3).bind fun rv_3 =>
  (remontoirlaw02_cellar ([] : List BeatPair)).bind fun rv_4 =>
  (beat_Drift rv_4 2 1 2).bind fun rv_5 =>
  (remontoirlaw02_cellar ([] : List BeatPair)).bind fun rv_6 =>
  (beat_Case rv_6 2 1 false).bind fun rv_7 =>
  (remontoirlaw02_torn).bind fun rv_8 =>
  (remontoirlaw02_cellar rv_8).bind fun rv_9 =>
  (beat_Wrong rv_9).bind fun rv_10 =>
  (remontoirlaw02_cellar ([] : List BeatPair)).bind fun rv_11 =>
  (beat_Best rv_11 3).bind fun rv_12 =>
  (cond (rv_1.2 != 0) (some true) (some (rv_3.2 != 0))).bind fun t =>
  (cond t (some true) (some (rv_5.2 != 0))).bind fun t_1 =>
  (cond t_1 (some true) (some (rv_7.2 != 0))).bind fun t_2 =>
  (cond t_2 (some true) (some (rv_10.2 != 0))).bind fun t_3 =>
  (cond t_3 (some true) (some (rv_12.2.2 != 0))).bind fun t_4 =>
  (cond t_4 (some true) ((r0To 98 105).bind fun rv_13 =>
  some (!([rv_1.1.Low, rv_1.1.High] == [rv_13.Low, rv_13.High])))).bind fun t_5 =>
  (cond t_5 (some true) ((r0To 34 50).bind fun rv_14 =>
  some (!([rv_3.1.Low, rv_3.1.High] == [rv_14.Low, rv_14.High])))).bind fun t_6 =>
  (cond t_6 (some true) ((r0To (-60) 60).bind fun rv_15 =>
  some (!([rv_5.1.Low, rv_5.1.High] == [rv_15.Low, rv_15.High])))).bind fun t_7 =>
  (cond t_7 (some true) ((r0Alike rv_10.1 ([1])).bind fun rv_16 =>
  some (!rv_16))).bind fun t_8 =>
  cond ((t_8 || (rv_12.1 != 1)) || (rv_12.2.1 != 1))
  (some false)
  ((remontoirlaw02_cellar ([] : List BeatPair)).bind fun rv_17 =>
  (beat_IsTruth rv_17 rv_7.1).bind fun rv_18 =>
  (cond ((rv_18.2 == 0) && rv_18.1) ((idx rv_7.1 2).bind fun e =>
  (idx e 1).bind fun e_1 =>
  some (e_1 == (-5))) (some false)).bind fun t_9 =>
  some t_9)
theorem remontoirlaw02_works_ok {w0 : World} {D0 : Stab} (hD : D0.on w0) (hG : Glob D0) (out : Bool) (h : remontoirlaw02_works = some out) : Calls Tryd.prog 21 [].toArray w0 (RetP D0 w0 (.bool out)) := by
 refine enter _ 117 Tryd.func21 rfl Tryd.ntmps21 rfl fun a hF => ?_
 replace hF : Frm 117 [] [] a := hF
 have hS := St.start hD
 unfold remontoirlaw02_works at h
 refine seq (region (step hF (Y.assign hF rfl) rfl fun a hF => nT (seq (region ?_))))
 obtain ⟨rv, hx, h⟩ := bind_some h
 refine O.callS (us := [.slice none 0 0]) ca_42 hF hS (remontoirlaw02_cellar_ok hS.stab ([] : List BeatPair) SRc.nil rv hx) rfl rfl fun v Dv a w hR hlev hF hS => ?_
 replace hG := hG.mono hlev
 obtain ⟨p, c, p_1, c_1, p_2, c_2, rfl, hs, hs_1, hs_2⟩ := hR
 obtain ⟨rv_1, hx_1, h⟩ := bind_some h
 refine O.callP (us := [.agg #[iv rv.Hours, .slice p rv.Rates.length c, .slice p_1 rv.Opens.length c_1, .slice p_2 rv.Pairs.length c_2], iv 0, iv 1]) ca_19 hF hS (beat_Offset_ok hS.stab rv 0 1 hs hs_1 hs_2 hG rv_1 hx_1) rfl rfl fun a w hF hS => step hF (Y.move hF rfl) rfl fun a hF => step hF (Y.extract hF rfl rfl) rfl fun a hF => step hF (Y.extract hF rfl rfl) rfl fun a hF => O.alloc 1 zc_34 hF hS rfl fun b a w hF hS => O.store (us := [iv rv_1.1.Low, iv rv_1.1.High]) 1 sz_34 hF rfl rfl rfl rfl hS rfl rfl fun a w hF hS => step hF (Y.assign hF rfl) rfl fun a hF => nT (seq (region ?_))
 obtain ⟨rv_2, hx_2, h⟩ := bind_some h
 refine O.callS (us := [.slice none 0 0]) ca_42 hF hS (remontoirlaw02_cellar_ok hS.stab ([] : List BeatPair) SRc.nil rv_2 hx_2) rfl rfl fun v_1 Dv_1 a w hR_1 hlev_1 hF hS => ?_
 replace hG := hG.mono hlev_1
 obtain ⟨p_3, c_3, p_4, c_4, p_5, c_5, rfl, hs_3, hs_4, hs_5⟩ := hR_1
 obtain ⟨rv_3, hx_3, h⟩ := bind_some h
 refine O.callP (us := [.agg #[iv rv_2.Hours, .slice p_3 rv_2.Rates.length c_3, .slice p_4 rv_2.Opens.length c_4, .slice p_5 rv_2.Pairs.length c_5], iv 0, iv 1, iv 3]) ca_22 hF hS (beat_Apart_ok hS.stab rv_2 0 1 3 hs_3 hs_4 hs_5 hG rv_3 hx_3) rfl rfl fun a w hF hS => step hF (Y.move hF rfl) rfl fun a hF => step hF (Y.extract hF rfl rfl) rfl fun a hF => step hF (Y.extract hF rfl rfl) rfl fun a hF => O.alloc 2 zc_34 hF hS rfl fun b_1 a w hF hS => O.store (us := [iv rv_3.1.Low, iv rv_3.1.High]) 2 sz_34 hF rfl rfl rfl rfl hS rfl rfl fun a w hF hS => step hF (Y.assign hF rfl) rfl fun a hF => nT (seq (region ?_))
 obtain ⟨rv_4, hx_4, h⟩ := bind_some h
 refine O.callS (us := [.slice none 0 0]) ca_42 hF hS (remontoirlaw02_cellar_ok hS.stab ([] : List BeatPair) SRc.nil rv_4 hx_4) rfl rfl fun v_2 Dv_2 a w hR_2 hlev_2 hF hS => ?_
 replace hG := hG.mono hlev_2
 obtain ⟨p_6, c_6, p_7, c_7, p_8, c_8, rfl, hs_6, hs_7, hs_8⟩ := hR_2
 obtain ⟨rv_5, hx_5, h⟩ := bind_some h
 refine O.callP (us := [.agg #[iv rv_4.Hours, .slice p_6 rv_4.Rates.length c_6, .slice p_7 rv_4.Opens.length c_7, .slice p_8 rv_4.Pairs.length c_8], iv 2, iv 1, iv 2]) ca_24 hF hS (beat_Drift_ok hS.stab rv_4 2 1 2 hs_6 hs_7 hs_8 hG rv_5 hx_5) rfl rfl fun a w hF hS => step hF (Y.move hF rfl) rfl fun a hF => step hF (Y.extract hF rfl rfl) rfl fun a hF => step hF (Y.extract hF rfl rfl) rfl fun a hF => O.alloc 3 zc_34 hF hS rfl fun b_2 a w hF hS => O.store (us := [iv rv_5.1.Low, iv rv_5.1.High]) 3 sz_34 hF rfl rfl rfl rfl hS rfl rfl fun a w hF hS => step hF (Y.assign hF rfl) rfl fun a hF => nT (seq (region ?_))
 obtain ⟨rv_6, hx_6, h⟩ := bind_some h
 refine O.callS (us := [.slice none 0 0]) ca_42 hF hS (remontoirlaw02_cellar_ok hS.stab ([] : List BeatPair) SRc.nil rv_6 hx_6) rfl rfl fun v_3 Dv_3 a w hR_3 hlev_3 hF hS => ?_
 replace hG := hG.mono hlev_3
 obtain ⟨p_9, c_9, p_10, c_10, p_11, c_11, rfl, hs_9, hs_10, hs_11⟩ := hR_3
 obtain ⟨rv_7, hx_7, h⟩ := bind_some h
 refine O.callS (us := [.agg #[iv rv_6.Hours, .slice p_9 rv_6.Rates.length c_9, .slice p_10 rv_6.Opens.length c_10, .slice p_11 rv_6.Pairs.length c_11], iv 2, iv 1, .bool false]) ca_26 hF hS (beat_Case_ok hS.stab rv_6 2 1 false hs_9 hs_10 hs_11 hG rv_7 hx_7) rfl rfl fun v_4 Dv_4 a w hR_4 hlev_4 hF hS => ?_
 replace hG := hG.mono hlev_4
 obtain ⟨p_12, c_12, rfl, hs_12⟩ := hR_4
 refine step hF (Y.move hF rfl) rfl fun a hF => step hF (Y.extract hF rfl rfl) rfl fun a hF => step hF (Y.extract hF rfl rfl) rfl fun a hF => step hF (Y.assign hF rfl) rfl fun a hF => step hF (Y.assign hF rfl) rfl fun a hF => nT (seq (region ?_))
 obtain ⟨rv_8, hx_8, h⟩ := bind_some h
 refine O.callS (us := []) ca_43 hF hS (remontoirlaw02_torn_ok hS.stab rv_8 hx_8) rfl rfl fun v_5 Dv_5 a w hR_5 hlev_5 hF hS => ?_
 replace hG := hG.mono hlev_5
 replace hs_12 := hs_12.mono hlev_5
 obtain ⟨p_13, c_13, rfl, hs_13⟩ := hR_5
 obtain ⟨rv_9, hx_9, h⟩ := bind_some h
 refine O.callS (us := [.slice p_13 rv_8.length c_13]) ca_42 hF hS (remontoirlaw02_cellar_ok hS.stab rv_8 hs_13 rv_9 hx_9) rfl rfl fun v_6 Dv_6 a w hR_6 hlev_6 hF hS => ?_
 replace hG := hG.mono hlev_6
 replace hs_12 := hs_12.mono hlev_6
 obtain ⟨p_14, c_14, p_15, c_15, p_16, c_16, rfl, hs_14, hs_15, hs_16⟩ := hR_6
 obtain ⟨rv_10, hx_10, h⟩ := bind_some h
 refine O.callS (us := [.agg #[iv rv_9.Hours, .slice p_14 rv_9.Rates.length c_14, .slice p_15 rv_9.Opens.length c_15, .slice p_16 rv_9.Pairs.length c_16]]) ca_27 hF hS (beat_Wrong_ok hS.stab rv_9 hs_14 hs_15 hs_16 hG rv_10 hx_10) rfl rfl fun v_7 Dv_7 a w hR_7 hlev_7 hF hS => ?_
 replace hG := hG.mono hlev_7
 replace hs_12 := hs_12.mono hlev_7
 obtain ⟨p_17, c_17, rfl, hs_17⟩ := hR_7
 refine step hF (Y.move hF rfl) rfl fun a hF => step hF (Y.extract hF rfl rfl) rfl fun a hF => step hF (Y.extract hF rfl rfl) rfl fun a hF => step hF (Y.assign hF rfl) rfl fun a hF => step hF (Y.assign hF rfl) rfl fun a hF => nT (seq (region ?_))
 obtain ⟨rv_11, hx_11, h⟩ := bind_some h
 refine O.callS (us := [.slice none 0 0]) ca_42 hF hS (remontoirlaw02_cellar_ok hS.stab ([] : List BeatPair) SRc.nil rv_11 hx_11) rfl rfl fun v_8 Dv_8 a w hR_8 hlev_8 hF hS => ?_
 replace hG := hG.mono hlev_8
 replace hs_12 := hs_12.mono hlev_8
 replace hs_17 := hs_17.mono hlev_8
 obtain ⟨p_18, c_18, p_19, c_19, p_20, c_20, rfl, hs_18, hs_19, hs_20⟩ := hR_8
 obtain ⟨rv_12, hx_12, h⟩ := bind_some h
 refine O.callP (us := [.agg #[iv rv_11.Hours, .slice p_18 rv_11.Rates.length c_18, .slice p_19 rv_11.Opens.length c_19, .slice p_20 rv_11.Pairs.length c_20], iv 3]) ca_30 hF hS (beat_Best_ok hS.stab rv_11 3 hs_18 hs_19 hs_20 hG rv_12 hx_12) rfl rfl fun a w hF hS => step hF (Y.move hF rfl) rfl fun a hF => step hF (Y.extract hF rfl rfl) rfl fun a hF => step hF (Y.extract hF rfl rfl) rfl fun a hF => step hF (Y.extract hF rfl rfl) rfl fun a hF => step hF (Y.assign hF rfl) rfl fun a hF => step hF (Y.assign hF rfl) rfl fun a hF => step hF (Y.assign hF rfl) rfl fun a hF => nT (seq (seq ?_))
 obtain ⟨t, ht, h⟩ := bind_some h
 obtain ⟨t_1, ht_1, h⟩ := bind_some h
 obtain ⟨t_2, ht_2, h⟩ := bind_some h
 obtain ⟨t_3, ht_3, h⟩ := bind_some h
 obtain ⟨t_4, ht_4, h⟩ := bind_some h
 obtain ⟨t_5, ht_5, h⟩ := bind_some h
 obtain ⟨t_6, ht_6, h⟩ := bind_some h
 obtain ⟨t_7, ht_7, h⟩ := bind_some h
 obtain ⟨t_8, ht_8, h⟩ := bind_some h
 refine drawsV 43 (.flt 0 (.flt 1 (.flt 2 (.flt 3 (.flt 4 (.flt 5 (.flt 6 (.flt 7 (.flt 8 (.flt 9 (.flt 10 (.flt 11 (.flt 12 (.flt 13 (.flt 14 (.flt 15 (.flt 16 (.flt 17 (.flt 18 (.flt 19 (.flt 20 (.flt 21 (.flt 22 (.flt 23 (.alt 24 (.flt 25 (.flt 26 (.flt 27 (.flt 28 (.alt 29 (.flt 30 (.flt 31 (.flt 32 (.flt 33 (.alt 34 (.flt 35 (.flt 36 (.flt 37 (.flt 38 (.alt 39 (.alt 40 (.flt 41 (.flt 42 .done)) .stop) .stop))))) .stop))))) .stop))))) .stop))))))))))))))))))))))))) mixed_ (by kernel_rfl) (fun w => St w0 D0 Dv_8 [(1, .cells b [iv rv_1.1.Low, iv rv_1.1.High] 34), (2, .cells b_1 [iv rv_3.1.Low, iv rv_3.1.High] 34), (3, .cells b_2 [iv rv_5.1.Low, iv rv_5.1.High] 34)] w) (fun a w => ∃ (Dv_11 : Stab), Dv_8.le Dv_11 ∧ Frm 117 [] [(0, .bool false), (2, iv rv_1.2), (7, .slice p_12 rv_7.1.length c_12), (11, iv rv_12.1), (12, iv rv_12.2.1), (89, .bool t_8)] a ∧ St w0 D0 Dv_11 [(1, .cells b [iv rv_1.1.Low, iv rv_1.1.High] 34), (2, .cells b_1 [iv rv_3.1.Low, iv rv_3.1.High] 34), (3, .cells b_2 [iv rv_5.1.Low, iv rv_5.1.High] 34)] w) (hS.weak (ms := [(1, .cells b [iv rv_1.1.Low, iv rv_1.1.High] 34), (2, .cells b_1 [iv rv_3.1.Low, iv rv_3.1.High] 34), (3, .cells b_2 [iv rv_5.1.Low, iv rv_5.1.High] 34)]) (AL rfl)).drew (fun _ _ _ _ h => h) ?_ ?_
 ·replace hS := hS.drew
  have hle0 := hS.le
  rcases bcases (rv_1.2 != 0) with hbv | hbv
  ·skip
   replace ht := cond_t ht hbv
   obtain rfl := some_inj ht
   replace ht_1 := cond_t ht_1 rfl
   obtain rfl := some_inj ht_1
   replace ht_2 := cond_t ht_2 rfl
   obtain rfl := some_inj ht_2
   replace ht_3 := cond_t ht_3 rfl
   obtain rfl := some_inj ht_3
   replace ht_4 := cond_t ht_4 rfl
   obtain rfl := some_inj ht_4
   replace ht_5 := cond_t ht_5 rfl
   obtain rfl := some_inj ht_5
   replace ht_6 := cond_t ht_6 rfl
   obtain rfl := some_inj ht_6
   replace ht_7 := cond_t ht_7 rfl
   obtain rfl := some_inj ht_7
   replace ht_8 := cond_t ht_8 rfl
   obtain rfl := some_inj ht_8
   refine stepV (i := 0) rfl hF (fun w hS => Y.move hF rfl) rfl fun a hF => stepV (i := 1) rfl hF (fun w hS => Y.neq hF rfl rfl) rfl fun a hF => stepV (i := 2) rfl hF (fun w hS => Y.move hF rfl) rfl fun a hF => stepV_off (i := 3) rfl hF rfl rfl hbv rfl fun a hF => stepV_off (i := 4) rfl hF rfl rfl hbv rfl fun a hF => stepV (i := 5) rfl hF (fun w hS => Y.pick_t hF rfl hbv rfl) rfl fun a hF => stepV (i := 6) rfl hF (fun w hS => Y.move hF rfl) rfl fun a hF => stepV_off (i := 7) rfl hF rfl rfl rfl rfl fun a hF => stepV_off (i := 8) rfl hF rfl rfl rfl rfl fun a hF => stepV (i := 9) rfl hF (fun w hS => Y.pick_t hF rfl rfl rfl) rfl fun a hF => stepV (i := 10) rfl hF (fun w hS => Y.move hF rfl) rfl fun a hF => stepV_off (i := 11) rfl hF rfl rfl rfl rfl fun a hF => stepV_off (i := 12) rfl hF rfl rfl rfl rfl fun a hF => stepV (i := 13) rfl hF (fun w hS => Y.pick_t hF rfl rfl rfl) rfl fun a hF => stepV (i := 14) rfl hF (fun w hS => Y.move hF rfl) rfl fun a hF => stepV_off (i := 15) rfl hF rfl rfl rfl rfl fun a hF => stepV_off (i := 16) rfl hF rfl rfl rfl rfl fun a hF => stepV (i := 17) rfl hF (fun w hS => Y.pick_t hF rfl rfl rfl) rfl fun a hF => stepV (i := 18) rfl hF (fun w hS => Y.move hF rfl) rfl fun a hF => stepV_off (i := 19) rfl hF rfl rfl rfl rfl fun a hF => stepV_off (i := 20) rfl hF rfl rfl rfl rfl fun a hF => stepV (i := 21) rfl hF (fun w hS => Y.pick_t hF rfl rfl rfl) rfl fun a hF => stepV (i := 22) rfl hF (fun w hS => Y.move hF rfl) rfl fun a hF => stepV_off (i := 23) rfl hF rfl rfl rfl rfl fun a hF => oneV (i := 24) rfl ?_ trivial
   refine guard_off hF rfl rfl rfl rfl fun a hF => nT ⟨hS.weak (ms := [(1, .cells b [iv rv_1.1.Low, iv rv_1.1.High] 34), (2, .cells b_1 [iv rv_3.1.Low, iv rv_3.1.High] 34), (3, .cells b_2 [iv rv_5.1.Low, iv rv_5.1.High] 34)]) (AL rfl), ?_⟩
   refine stepV_off (i := 25) rfl hF rfl rfl rfl rfl fun a hF => stepV (i := 26) rfl hF (fun w hS => Y.pick_t hF rfl rfl rfl) rfl fun a hF => stepV (i := 27) rfl hF (fun w hS => Y.move hF rfl) rfl fun a hF => stepV_off (i := 28) rfl hF rfl rfl rfl rfl fun a hF => oneV (i := 29) rfl ?_ trivial
   refine guard_off hF rfl rfl rfl rfl fun a hF => nT ⟨hS.weak (ms := [(1, .cells b [iv rv_1.1.Low, iv rv_1.1.High] 34), (2, .cells b_1 [iv rv_3.1.Low, iv rv_3.1.High] 34), (3, .cells b_2 [iv rv_5.1.Low, iv rv_5.1.High] 34)]) (AL rfl), ?_⟩
   refine stepV_off (i := 30) rfl hF rfl rfl rfl rfl fun a hF => stepV (i := 31) rfl hF (fun w hS => Y.pick_t hF rfl rfl rfl) rfl fun a hF => stepV (i := 32) rfl hF (fun w hS => Y.move hF rfl) rfl fun a hF => stepV_off (i := 33) rfl hF rfl rfl rfl rfl fun a hF => oneV (i := 34) rfl ?_ trivial
   refine guard_off hF rfl rfl rfl rfl fun a hF => nT ⟨hS.weak (ms := [(1, .cells b [iv rv_1.1.Low, iv rv_1.1.High] 34), (2, .cells b_1 [iv rv_3.1.Low, iv rv_3.1.High] 34), (3, .cells b_2 [iv rv_5.1.Low, iv rv_5.1.High] 34)]) (AL rfl), ?_⟩
   refine stepV_off (i := 35) rfl hF rfl rfl rfl rfl fun a hF => stepV (i := 36) rfl hF (fun w hS => Y.pick_t hF rfl rfl rfl) rfl fun a hF => stepV (i := 37) rfl hF (fun w hS => Y.move hF rfl) rfl fun a hF => stepV_off (i := 38) rfl hF rfl rfl rfl rfl fun a hF => oneV (i := 39) rfl ?_ trivial
   refine guard_off hF rfl rfl rfl rfl fun a hF => nT ⟨hS.weak (ms := [(1, .cells b [iv rv_1.1.Low, iv rv_1.1.High] 34), (2, .cells b_1 [iv rv_3.1.Low, iv rv_3.1.High] 34), (3, .cells b_2 [iv rv_5.1.Low, iv rv_5.1.High] 34)]) (AL rfl), ?_⟩
   refine oneV (i := 40) rfl ?_ trivial
   refine guard_off hF rfl rfl rfl rfl fun a hF => nT ⟨hS.weak (ms := [(1, .cells b [iv rv_1.1.Low, iv rv_1.1.High] 34), (2, .cells b_1 [iv rv_3.1.Low, iv rv_3.1.High] 34), (3, .cells b_2 [iv rv_5.1.Low, iv rv_5.1.High] 34)]) (AL rfl), ?_⟩
   refine stepV_off (i := 41) rfl hF rfl rfl rfl rfl fun a hF => stepV (i := 42) rfl hF (fun w hS => Y.pick_t hF rfl rfl rfl) rfl fun a hF => toTailV ⟨Dv_8, Stab.le.refl _, hF.weak (AF rfl), hS.weak (AL rfl)⟩
  replace ht := cond_f ht hbv
  obtain rfl := some_inj ht
  rcases bcases (rv_3.2 != 0) with hbv_1 | hbv_1
  ·skip
   replace ht_1 := cond_t ht_1 hbv_1
   obtain rfl := some_inj ht_1
   replace ht_2 := cond_t ht_2 rfl
   obtain rfl := some_inj ht_2
   replace ht_3 := cond_t ht_3 rfl
   obtain rfl := some_inj ht_3
   replace ht_4 := cond_t ht_4 rfl
   obtain rfl := some_inj ht_4
   replace ht_5 := cond_t ht_5 rfl
   obtain rfl := some_inj ht_5
   replace ht_6 := cond_t ht_6 rfl
   obtain rfl := some_inj ht_6
   replace ht_7 := cond_t ht_7 rfl
   obtain rfl := some_inj ht_7
   replace ht_8 := cond_t ht_8 rfl
   obtain rfl := some_inj ht_8
   refine stepV (i := 0) rfl hF (fun w hS => Y.move hF rfl) rfl fun a hF => stepV (i := 1) rfl hF (fun w hS => Y.neq hF rfl rfl) rfl fun a hF => stepV (i := 2) rfl hF (fun w hS => Y.move hF rfl) rfl fun a hF => stepV_on (i := 3) rfl hF rfl rfl hbv (fun w hS => Y.move hF rfl) rfl fun a hF => stepV_on (i := 4) rfl hF rfl rfl hbv (fun w hS => Y.neq hF rfl rfl) rfl fun a hF => stepV (i := 5) rfl hF (fun w hS => Y.pick_f hF rfl hbv rfl) rfl fun a hF => stepV (i := 6) rfl hF (fun w hS => Y.move hF rfl) rfl fun a hF => stepV_off (i := 7) rfl hF rfl rfl hbv_1 rfl fun a hF => stepV_off (i := 8) rfl hF rfl rfl hbv_1 rfl fun a hF => stepV (i := 9) rfl hF (fun w hS => Y.pick_t hF rfl hbv_1 rfl) rfl fun a hF => stepV (i := 10) rfl hF (fun w hS => Y.move hF rfl) rfl fun a hF => stepV_off (i := 11) rfl hF rfl rfl rfl rfl fun a hF => stepV_off (i := 12) rfl hF rfl rfl rfl rfl fun a hF => stepV (i := 13) rfl hF (fun w hS => Y.pick_t hF rfl rfl rfl) rfl fun a hF => stepV (i := 14) rfl hF (fun w hS => Y.move hF rfl) rfl fun a hF => stepV_off (i := 15) rfl hF rfl rfl rfl rfl fun a hF => stepV_off (i := 16) rfl hF rfl rfl rfl rfl fun a hF => stepV (i := 17) rfl hF (fun w hS => Y.pick_t hF rfl rfl rfl) rfl fun a hF => stepV (i := 18) rfl hF (fun w hS => Y.move hF rfl) rfl fun a hF => stepV_off (i := 19) rfl hF rfl rfl rfl rfl fun a hF => stepV_off (i := 20) rfl hF rfl rfl rfl rfl fun a hF => stepV (i := 21) rfl hF (fun w hS => Y.pick_t hF rfl rfl rfl) rfl fun a hF => stepV (i := 22) rfl hF (fun w hS => Y.move hF rfl) rfl fun a hF => stepV_off (i := 23) rfl hF rfl rfl rfl rfl fun a hF => oneV (i := 24) rfl ?_ trivial
   refine guard_off hF rfl rfl rfl rfl fun a hF => nT ⟨hS.weak (ms := [(1, .cells b [iv rv_1.1.Low, iv rv_1.1.High] 34), (2, .cells b_1 [iv rv_3.1.Low, iv rv_3.1.High] 34), (3, .cells b_2 [iv rv_5.1.Low, iv rv_5.1.High] 34)]) (AL rfl), ?_⟩
   refine stepV_off (i := 25) rfl hF rfl rfl rfl rfl fun a hF => stepV (i := 26) rfl hF (fun w hS => Y.pick_t hF rfl rfl rfl) rfl fun a hF => stepV (i := 27) rfl hF (fun w hS => Y.move hF rfl) rfl fun a hF => stepV_off (i := 28) rfl hF rfl rfl rfl rfl fun a hF => oneV (i := 29) rfl ?_ trivial
   refine guard_off hF rfl rfl rfl rfl fun a hF => nT ⟨hS.weak (ms := [(1, .cells b [iv rv_1.1.Low, iv rv_1.1.High] 34), (2, .cells b_1 [iv rv_3.1.Low, iv rv_3.1.High] 34), (3, .cells b_2 [iv rv_5.1.Low, iv rv_5.1.High] 34)]) (AL rfl), ?_⟩
   refine stepV_off (i := 30) rfl hF rfl rfl rfl rfl fun a hF => stepV (i := 31) rfl hF (fun w hS => Y.pick_t hF rfl rfl rfl) rfl fun a hF => stepV (i := 32) rfl hF (fun w hS => Y.move hF rfl) rfl fun a hF => stepV_off (i := 33) rfl hF rfl rfl rfl rfl fun a hF => oneV (i := 34) rfl ?_ trivial
   refine guard_off hF rfl rfl rfl rfl fun a hF => nT ⟨hS.weak (ms := [(1, .cells b [iv rv_1.1.Low, iv rv_1.1.High] 34), (2, .cells b_1 [iv rv_3.1.Low, iv rv_3.1.High] 34), (3, .cells b_2 [iv rv_5.1.Low, iv rv_5.1.High] 34)]) (AL rfl), ?_⟩
   refine stepV_off (i := 35) rfl hF rfl rfl rfl rfl fun a hF => stepV (i := 36) rfl hF (fun w hS => Y.pick_t hF rfl rfl rfl) rfl fun a hF => stepV (i := 37) rfl hF (fun w hS => Y.move hF rfl) rfl fun a hF => stepV_off (i := 38) rfl hF rfl rfl rfl rfl fun a hF => oneV (i := 39) rfl ?_ trivial
   refine guard_off hF rfl rfl rfl rfl fun a hF => nT ⟨hS.weak (ms := [(1, .cells b [iv rv_1.1.Low, iv rv_1.1.High] 34), (2, .cells b_1 [iv rv_3.1.Low, iv rv_3.1.High] 34), (3, .cells b_2 [iv rv_5.1.Low, iv rv_5.1.High] 34)]) (AL rfl), ?_⟩
   refine oneV (i := 40) rfl ?_ trivial
   refine guard_off hF rfl rfl rfl rfl fun a hF => nT ⟨hS.weak (ms := [(1, .cells b [iv rv_1.1.Low, iv rv_1.1.High] 34), (2, .cells b_1 [iv rv_3.1.Low, iv rv_3.1.High] 34), (3, .cells b_2 [iv rv_5.1.Low, iv rv_5.1.High] 34)]) (AL rfl), ?_⟩
   refine stepV_off (i := 41) rfl hF rfl rfl rfl rfl fun a hF => stepV (i := 42) rfl hF (fun w hS => Y.pick_t hF rfl rfl rfl) rfl fun a hF => toTailV ⟨Dv_8, Stab.le.refl _, hF.weak (AF rfl), hS.weak (AL rfl)⟩
  replace ht_1 := cond_f ht_1 hbv_1
  obtain rfl := some_inj ht_1
  rcases bcases (rv_5.2 != 0) with hbv_2 | hbv_2
  ·skip
   replace ht_2 := cond_t ht_2 hbv_2
   obtain rfl := some_inj ht_2
   replace ht_3 := cond_t ht_3 rfl
   obtain rfl := some_inj ht_3
   replace ht_4 := cond_t ht_4 rfl
   obtain rfl := some_inj ht_4
   replace ht_5 := cond_t ht_5 rfl
   obtain rfl := some_inj ht_5
   replace ht_6 := cond_t ht_6 rfl
   obtain rfl := some_inj ht_6
   replace ht_7 := cond_t ht_7 rfl
   obtain rfl := some_inj ht_7
   replace ht_8 := cond_t ht_8 rfl
   obtain rfl := some_inj ht_8
   refine stepV (i := 0) rfl hF (fun w hS => Y.move hF rfl) rfl fun a hF => stepV (i := 1) rfl hF (fun w hS => Y.neq hF rfl rfl) rfl fun a hF => stepV (i := 2) rfl hF (fun w hS => Y.move hF rfl) rfl fun a hF => stepV_on (i := 3) rfl hF rfl rfl hbv (fun w hS => Y.move hF rfl) rfl fun a hF => stepV_on (i := 4) rfl hF rfl rfl hbv (fun w hS => Y.neq hF rfl rfl) rfl fun a hF => stepV (i := 5) rfl hF (fun w hS => Y.pick_f hF rfl hbv rfl) rfl fun a hF => stepV (i := 6) rfl hF (fun w hS => Y.move hF rfl) rfl fun a hF => stepV_on (i := 7) rfl hF rfl rfl hbv_1 (fun w hS => Y.move hF rfl) rfl fun a hF => stepV_on (i := 8) rfl hF rfl rfl hbv_1 (fun w hS => Y.neq hF rfl rfl) rfl fun a hF => stepV (i := 9) rfl hF (fun w hS => Y.pick_f hF rfl hbv_1 rfl) rfl fun a hF => stepV (i := 10) rfl hF (fun w hS => Y.move hF rfl) rfl fun a hF => stepV_off (i := 11) rfl hF rfl rfl hbv_2 rfl fun a hF => stepV_off (i := 12) rfl hF rfl rfl hbv_2 rfl fun a hF => stepV (i := 13) rfl hF (fun w hS => Y.pick_t hF rfl hbv_2 rfl) rfl fun a hF => stepV (i := 14) rfl hF (fun w hS => Y.move hF rfl) rfl fun a hF => stepV_off (i := 15) rfl hF rfl rfl rfl rfl fun a hF => stepV_off (i := 16) rfl hF rfl rfl rfl rfl fun a hF => stepV (i := 17) rfl hF (fun w hS => Y.pick_t hF rfl rfl rfl) rfl fun a hF => stepV (i := 18) rfl hF (fun w hS => Y.move hF rfl) rfl fun a hF => stepV_off (i := 19) rfl hF rfl rfl rfl rfl fun a hF => stepV_off (i := 20) rfl hF rfl rfl rfl rfl fun a hF => stepV (i := 21) rfl hF (fun w hS => Y.pick_t hF rfl rfl rfl) rfl fun a hF => stepV (i := 22) rfl hF (fun w hS => Y.move hF rfl) rfl fun a hF => stepV_off (i := 23) rfl hF rfl rfl rfl rfl fun a hF => oneV (i := 24) rfl ?_ trivial
   refine guard_off hF rfl rfl rfl rfl fun a hF => nT ⟨hS.weak (ms := [(1, .cells b [iv rv_1.1.Low, iv rv_1.1.High] 34), (2, .cells b_1 [iv rv_3.1.Low, iv rv_3.1.High] 34), (3, .cells b_2 [iv rv_5.1.Low, iv rv_5.1.High] 34)]) (AL rfl), ?_⟩
   refine stepV_off (i := 25) rfl hF rfl rfl rfl rfl fun a hF => stepV (i := 26) rfl hF (fun w hS => Y.pick_t hF rfl rfl rfl) rfl fun a hF => stepV (i := 27) rfl hF (fun w hS => Y.move hF rfl) rfl fun a hF => stepV_off (i := 28) rfl hF rfl rfl rfl rfl fun a hF => oneV (i := 29) rfl ?_ trivial
   refine guard_off hF rfl rfl rfl rfl fun a hF => nT ⟨hS.weak (ms := [(1, .cells b [iv rv_1.1.Low, iv rv_1.1.High] 34), (2, .cells b_1 [iv rv_3.1.Low, iv rv_3.1.High] 34), (3, .cells b_2 [iv rv_5.1.Low, iv rv_5.1.High] 34)]) (AL rfl), ?_⟩
   refine stepV_off (i := 30) rfl hF rfl rfl rfl rfl fun a hF => stepV (i := 31) rfl hF (fun w hS => Y.pick_t hF rfl rfl rfl) rfl fun a hF => stepV (i := 32) rfl hF (fun w hS => Y.move hF rfl) rfl fun a hF => stepV_off (i := 33) rfl hF rfl rfl rfl rfl fun a hF => oneV (i := 34) rfl ?_ trivial
   refine guard_off hF rfl rfl rfl rfl fun a hF => nT ⟨hS.weak (ms := [(1, .cells b [iv rv_1.1.Low, iv rv_1.1.High] 34), (2, .cells b_1 [iv rv_3.1.Low, iv rv_3.1.High] 34), (3, .cells b_2 [iv rv_5.1.Low, iv rv_5.1.High] 34)]) (AL rfl), ?_⟩
   refine stepV_off (i := 35) rfl hF rfl rfl rfl rfl fun a hF => stepV (i := 36) rfl hF (fun w hS => Y.pick_t hF rfl rfl rfl) rfl fun a hF => stepV (i := 37) rfl hF (fun w hS => Y.move hF rfl) rfl fun a hF => stepV_off (i := 38) rfl hF rfl rfl rfl rfl fun a hF => oneV (i := 39) rfl ?_ trivial
   refine guard_off hF rfl rfl rfl rfl fun a hF => nT ⟨hS.weak (ms := [(1, .cells b [iv rv_1.1.Low, iv rv_1.1.High] 34), (2, .cells b_1 [iv rv_3.1.Low, iv rv_3.1.High] 34), (3, .cells b_2 [iv rv_5.1.Low, iv rv_5.1.High] 34)]) (AL rfl), ?_⟩
   refine oneV (i := 40) rfl ?_ trivial
   refine guard_off hF rfl rfl rfl rfl fun a hF => nT ⟨hS.weak (ms := [(1, .cells b [iv rv_1.1.Low, iv rv_1.1.High] 34), (2, .cells b_1 [iv rv_3.1.Low, iv rv_3.1.High] 34), (3, .cells b_2 [iv rv_5.1.Low, iv rv_5.1.High] 34)]) (AL rfl), ?_⟩
   refine stepV_off (i := 41) rfl hF rfl rfl rfl rfl fun a hF => stepV (i := 42) rfl hF (fun w hS => Y.pick_t hF rfl rfl rfl) rfl fun a hF => toTailV ⟨Dv_8, Stab.le.refl _, hF.weak (AF rfl), hS.weak (AL rfl)⟩
  replace ht_2 := cond_f ht_2 hbv_2
  obtain rfl := some_inj ht_2
  rcases bcases (rv_7.2 != 0) with hbv_3 | hbv_3
  ·skip
   replace ht_3 := cond_t ht_3 hbv_3
   obtain rfl := some_inj ht_3
   replace ht_4 := cond_t ht_4 rfl
   obtain rfl := some_inj ht_4
   replace ht_5 := cond_t ht_5 rfl
   obtain rfl := some_inj ht_5
   replace ht_6 := cond_t ht_6 rfl
   obtain rfl := some_inj ht_6
   replace ht_7 := cond_t ht_7 rfl
   obtain rfl := some_inj ht_7
   replace ht_8 := cond_t ht_8 rfl
   obtain rfl := some_inj ht_8
   refine stepV (i := 0) rfl hF (fun w hS => Y.move hF rfl) rfl fun a hF => stepV (i := 1) rfl hF (fun w hS => Y.neq hF rfl rfl) rfl fun a hF => stepV (i := 2) rfl hF (fun w hS => Y.move hF rfl) rfl fun a hF => stepV_on (i := 3) rfl hF rfl rfl hbv (fun w hS => Y.move hF rfl) rfl fun a hF => stepV_on (i := 4) rfl hF rfl rfl hbv (fun w hS => Y.neq hF rfl rfl) rfl fun a hF => stepV (i := 5) rfl hF (fun w hS => Y.pick_f hF rfl hbv rfl) rfl fun a hF => stepV (i := 6) rfl hF (fun w hS => Y.move hF rfl) rfl fun a hF => stepV_on (i := 7) rfl hF rfl rfl hbv_1 (fun w hS => Y.move hF rfl) rfl fun a hF => stepV_on (i := 8) rfl hF rfl rfl hbv_1 (fun w hS => Y.neq hF rfl rfl) rfl fun a hF => stepV (i := 9) rfl hF (fun w hS => Y.pick_f hF rfl hbv_1 rfl) rfl fun a hF => stepV (i := 10) rfl hF (fun w hS => Y.move hF rfl) rfl fun a hF => stepV_on (i := 11) rfl hF rfl rfl hbv_2 (fun w hS => Y.move hF rfl) rfl fun a hF => stepV_on (i := 12) rfl hF rfl rfl hbv_2 (fun w hS => Y.neq hF rfl rfl) rfl fun a hF => stepV (i := 13) rfl hF (fun w hS => Y.pick_f hF rfl hbv_2 rfl) rfl fun a hF => stepV (i := 14) rfl hF (fun w hS => Y.move hF rfl) rfl fun a hF => stepV_off (i := 15) rfl hF rfl rfl hbv_3 rfl fun a hF => stepV_off (i := 16) rfl hF rfl rfl hbv_3 rfl fun a hF => stepV (i := 17) rfl hF (fun w hS => Y.pick_t hF rfl hbv_3 rfl) rfl fun a hF => stepV (i := 18) rfl hF (fun w hS => Y.move hF rfl) rfl fun a hF => stepV_off (i := 19) rfl hF rfl rfl rfl rfl fun a hF => stepV_off (i := 20) rfl hF rfl rfl rfl rfl fun a hF => stepV (i := 21) rfl hF (fun w hS => Y.pick_t hF rfl rfl rfl) rfl fun a hF => stepV (i := 22) rfl hF (fun w hS => Y.move hF rfl) rfl fun a hF => stepV_off (i := 23) rfl hF rfl rfl rfl rfl fun a hF => oneV (i := 24) rfl ?_ trivial
   refine guard_off hF rfl rfl rfl rfl fun a hF => nT ⟨hS.weak (ms := [(1, .cells b [iv rv_1.1.Low, iv rv_1.1.High] 34), (2, .cells b_1 [iv rv_3.1.Low, iv rv_3.1.High] 34), (3, .cells b_2 [iv rv_5.1.Low, iv rv_5.1.High] 34)]) (AL rfl), ?_⟩
   refine stepV_off (i := 25) rfl hF rfl rfl rfl rfl fun a hF => stepV (i := 26) rfl hF (fun w hS => Y.pick_t hF rfl rfl rfl) rfl fun a hF => stepV (i := 27) rfl hF (fun w hS => Y.move hF rfl) rfl fun a hF => stepV_off (i := 28) rfl hF rfl rfl rfl rfl fun a hF => oneV (i := 29) rfl ?_ trivial
   refine guard_off hF rfl rfl rfl rfl fun a hF => nT ⟨hS.weak (ms := [(1, .cells b [iv rv_1.1.Low, iv rv_1.1.High] 34), (2, .cells b_1 [iv rv_3.1.Low, iv rv_3.1.High] 34), (3, .cells b_2 [iv rv_5.1.Low, iv rv_5.1.High] 34)]) (AL rfl), ?_⟩
   refine stepV_off (i := 30) rfl hF rfl rfl rfl rfl fun a hF => stepV (i := 31) rfl hF (fun w hS => Y.pick_t hF rfl rfl rfl) rfl fun a hF => stepV (i := 32) rfl hF (fun w hS => Y.move hF rfl) rfl fun a hF => stepV_off (i := 33) rfl hF rfl rfl rfl rfl fun a hF => oneV (i := 34) rfl ?_ trivial
   refine guard_off hF rfl rfl rfl rfl fun a hF => nT ⟨hS.weak (ms := [(1, .cells b [iv rv_1.1.Low, iv rv_1.1.High] 34), (2, .cells b_1 [iv rv_3.1.Low, iv rv_3.1.High] 34), (3, .cells b_2 [iv rv_5.1.Low, iv rv_5.1.High] 34)]) (AL rfl), ?_⟩
   refine stepV_off (i := 35) rfl hF rfl rfl rfl rfl fun a hF => stepV (i := 36) rfl hF (fun w hS => Y.pick_t hF rfl rfl rfl) rfl fun a hF => stepV (i := 37) rfl hF (fun w hS => Y.move hF rfl) rfl fun a hF => stepV_off (i := 38) rfl hF rfl rfl rfl rfl fun a hF => oneV (i := 39) rfl ?_ trivial
   refine guard_off hF rfl rfl rfl rfl fun a hF => nT ⟨hS.weak (ms := [(1, .cells b [iv rv_1.1.Low, iv rv_1.1.High] 34), (2, .cells b_1 [iv rv_3.1.Low, iv rv_3.1.High] 34), (3, .cells b_2 [iv rv_5.1.Low, iv rv_5.1.High] 34)]) (AL rfl), ?_⟩
   refine oneV (i := 40) rfl ?_ trivial
   refine guard_off hF rfl rfl rfl rfl fun a hF => nT ⟨hS.weak (ms := [(1, .cells b [iv rv_1.1.Low, iv rv_1.1.High] 34), (2, .cells b_1 [iv rv_3.1.Low, iv rv_3.1.High] 34), (3, .cells b_2 [iv rv_5.1.Low, iv rv_5.1.High] 34)]) (AL rfl), ?_⟩
   refine stepV_off (i := 41) rfl hF rfl rfl rfl rfl fun a hF => stepV (i := 42) rfl hF (fun w hS => Y.pick_t hF rfl rfl rfl) rfl fun a hF => toTailV ⟨Dv_8, Stab.le.refl _, hF.weak (AF rfl), hS.weak (AL rfl)⟩
  replace ht_3 := cond_f ht_3 hbv_3
  obtain rfl := some_inj ht_3
  rcases bcases (rv_10.2 != 0) with hbv_4 | hbv_4
  ·skip
   replace ht_4 := cond_t ht_4 hbv_4
   obtain rfl := some_inj ht_4
   replace ht_5 := cond_t ht_5 rfl
   obtain rfl := some_inj ht_5
   replace ht_6 := cond_t ht_6 rfl
   obtain rfl := some_inj ht_6
   replace ht_7 := cond_t ht_7 rfl
   obtain rfl := some_inj ht_7
   replace ht_8 := cond_t ht_8 rfl
   obtain rfl := some_inj ht_8
   refine stepV (i := 0) rfl hF (fun w hS => Y.move hF rfl) rfl fun a hF => stepV (i := 1) rfl hF (fun w hS => Y.neq hF rfl rfl) rfl fun a hF => stepV (i := 2) rfl hF (fun w hS => Y.move hF rfl) rfl fun a hF => stepV_on (i := 3) rfl hF rfl rfl hbv (fun w hS => Y.move hF rfl) rfl fun a hF => stepV_on (i := 4) rfl hF rfl rfl hbv (fun w hS => Y.neq hF rfl rfl) rfl fun a hF => stepV (i := 5) rfl hF (fun w hS => Y.pick_f hF rfl hbv rfl) rfl fun a hF => stepV (i := 6) rfl hF (fun w hS => Y.move hF rfl) rfl fun a hF => stepV_on (i := 7) rfl hF rfl rfl hbv_1 (fun w hS => Y.move hF rfl) rfl fun a hF => stepV_on (i := 8) rfl hF rfl rfl hbv_1 (fun w hS => Y.neq hF rfl rfl) rfl fun a hF => stepV (i := 9) rfl hF (fun w hS => Y.pick_f hF rfl hbv_1 rfl) rfl fun a hF => stepV (i := 10) rfl hF (fun w hS => Y.move hF rfl) rfl fun a hF => stepV_on (i := 11) rfl hF rfl rfl hbv_2 (fun w hS => Y.move hF rfl) rfl fun a hF => stepV_on (i := 12) rfl hF rfl rfl hbv_2 (fun w hS => Y.neq hF rfl rfl) rfl fun a hF => stepV (i := 13) rfl hF (fun w hS => Y.pick_f hF rfl hbv_2 rfl) rfl fun a hF => stepV (i := 14) rfl hF (fun w hS => Y.move hF rfl) rfl fun a hF => stepV_on (i := 15) rfl hF rfl rfl hbv_3 (fun w hS => Y.move hF rfl) rfl fun a hF => stepV_on (i := 16) rfl hF rfl rfl hbv_3 (fun w hS => Y.neq hF rfl rfl) rfl fun a hF => stepV (i := 17) rfl hF (fun w hS => Y.pick_f hF rfl hbv_3 rfl) rfl fun a hF => stepV (i := 18) rfl hF (fun w hS => Y.move hF rfl) rfl fun a hF => stepV_off (i := 19) rfl hF rfl rfl hbv_4 rfl fun a hF => stepV_off (i := 20) rfl hF rfl rfl hbv_4 rfl fun a hF => stepV (i := 21) rfl hF (fun w hS => Y.pick_t hF rfl hbv_4 rfl) rfl fun a hF => stepV (i := 22) rfl hF (fun w hS => Y.move hF rfl) rfl fun a hF => stepV_off (i := 23) rfl hF rfl rfl rfl rfl fun a hF => oneV (i := 24) rfl ?_ trivial
   refine guard_off hF rfl rfl rfl rfl fun a hF => nT ⟨hS.weak (ms := [(1, .cells b [iv rv_1.1.Low, iv rv_1.1.High] 34), (2, .cells b_1 [iv rv_3.1.Low, iv rv_3.1.High] 34), (3, .cells b_2 [iv rv_5.1.Low, iv rv_5.1.High] 34)]) (AL rfl), ?_⟩
   refine stepV_off (i := 25) rfl hF rfl rfl rfl rfl fun a hF => stepV (i := 26) rfl hF (fun w hS => Y.pick_t hF rfl rfl rfl) rfl fun a hF => stepV (i := 27) rfl hF (fun w hS => Y.move hF rfl) rfl fun a hF => stepV_off (i := 28) rfl hF rfl rfl rfl rfl fun a hF => oneV (i := 29) rfl ?_ trivial
   refine guard_off hF rfl rfl rfl rfl fun a hF => nT ⟨hS.weak (ms := [(1, .cells b [iv rv_1.1.Low, iv rv_1.1.High] 34), (2, .cells b_1 [iv rv_3.1.Low, iv rv_3.1.High] 34), (3, .cells b_2 [iv rv_5.1.Low, iv rv_5.1.High] 34)]) (AL rfl), ?_⟩
   refine stepV_off (i := 30) rfl hF rfl rfl rfl rfl fun a hF => stepV (i := 31) rfl hF (fun w hS => Y.pick_t hF rfl rfl rfl) rfl fun a hF => stepV (i := 32) rfl hF (fun w hS => Y.move hF rfl) rfl fun a hF => stepV_off (i := 33) rfl hF rfl rfl rfl rfl fun a hF => oneV (i := 34) rfl ?_ trivial
   refine guard_off hF rfl rfl rfl rfl fun a hF => nT ⟨hS.weak (ms := [(1, .cells b [iv rv_1.1.Low, iv rv_1.1.High] 34), (2, .cells b_1 [iv rv_3.1.Low, iv rv_3.1.High] 34), (3, .cells b_2 [iv rv_5.1.Low, iv rv_5.1.High] 34)]) (AL rfl), ?_⟩
   refine stepV_off (i := 35) rfl hF rfl rfl rfl rfl fun a hF => stepV (i := 36) rfl hF (fun w hS => Y.pick_t hF rfl rfl rfl) rfl fun a hF => stepV (i := 37) rfl hF (fun w hS => Y.move hF rfl) rfl fun a hF => stepV_off (i := 38) rfl hF rfl rfl rfl rfl fun a hF => oneV (i := 39) rfl ?_ trivial
   refine guard_off hF rfl rfl rfl rfl fun a hF => nT ⟨hS.weak (ms := [(1, .cells b [iv rv_1.1.Low, iv rv_1.1.High] 34), (2, .cells b_1 [iv rv_3.1.Low, iv rv_3.1.High] 34), (3, .cells b_2 [iv rv_5.1.Low, iv rv_5.1.High] 34)]) (AL rfl), ?_⟩
   refine oneV (i := 40) rfl ?_ trivial
   refine guard_off hF rfl rfl rfl rfl fun a hF => nT ⟨hS.weak (ms := [(1, .cells b [iv rv_1.1.Low, iv rv_1.1.High] 34), (2, .cells b_1 [iv rv_3.1.Low, iv rv_3.1.High] 34), (3, .cells b_2 [iv rv_5.1.Low, iv rv_5.1.High] 34)]) (AL rfl), ?_⟩
   refine stepV_off (i := 41) rfl hF rfl rfl rfl rfl fun a hF => stepV (i := 42) rfl hF (fun w hS => Y.pick_t hF rfl rfl rfl) rfl fun a hF => toTailV ⟨Dv_8, Stab.le.refl _, hF.weak (AF rfl), hS.weak (AL rfl)⟩
  replace ht_4 := cond_f ht_4 hbv_4
  obtain rfl := some_inj ht_4
  rcases bcases (rv_12.2.2 != 0) with hbv_5 | hbv_5
  ·skip
   replace ht_5 := cond_t ht_5 hbv_5
   obtain rfl := some_inj ht_5
   replace ht_6 := cond_t ht_6 rfl
   obtain rfl := some_inj ht_6
   replace ht_7 := cond_t ht_7 rfl
   obtain rfl := some_inj ht_7
   replace ht_8 := cond_t ht_8 rfl
   obtain rfl := some_inj ht_8
   refine stepV (i := 0) rfl hF (fun w hS => Y.move hF rfl) rfl fun a hF => stepV (i := 1) rfl hF (fun w hS => Y.neq hF rfl rfl) rfl fun a hF => stepV (i := 2) rfl hF (fun w hS => Y.move hF rfl) rfl fun a hF => stepV_on (i := 3) rfl hF rfl rfl hbv (fun w hS => Y.move hF rfl) rfl fun a hF => stepV_on (i := 4) rfl hF rfl rfl hbv (fun w hS => Y.neq hF rfl rfl) rfl fun a hF => stepV (i := 5) rfl hF (fun w hS => Y.pick_f hF rfl hbv rfl) rfl fun a hF => stepV (i := 6) rfl hF (fun w hS => Y.move hF rfl) rfl fun a hF => stepV_on (i := 7) rfl hF rfl rfl hbv_1 (fun w hS => Y.move hF rfl) rfl fun a hF => stepV_on (i := 8) rfl hF rfl rfl hbv_1 (fun w hS => Y.neq hF rfl rfl) rfl fun a hF => stepV (i := 9) rfl hF (fun w hS => Y.pick_f hF rfl hbv_1 rfl) rfl fun a hF => stepV (i := 10) rfl hF (fun w hS => Y.move hF rfl) rfl fun a hF => stepV_on (i := 11) rfl hF rfl rfl hbv_2 (fun w hS => Y.move hF rfl) rfl fun a hF => stepV_on (i := 12) rfl hF rfl rfl hbv_2 (fun w hS => Y.neq hF rfl rfl) rfl fun a hF => stepV (i := 13) rfl hF (fun w hS => Y.pick_f hF rfl hbv_2 rfl) rfl fun a hF => stepV (i := 14) rfl hF (fun w hS => Y.move hF rfl) rfl fun a hF => stepV_on (i := 15) rfl hF rfl rfl hbv_3 (fun w hS => Y.move hF rfl) rfl fun a hF => stepV_on (i := 16) rfl hF rfl rfl hbv_3 (fun w hS => Y.neq hF rfl rfl) rfl fun a hF => stepV (i := 17) rfl hF (fun w hS => Y.pick_f hF rfl hbv_3 rfl) rfl fun a hF => stepV (i := 18) rfl hF (fun w hS => Y.move hF rfl) rfl fun a hF => stepV_on (i := 19) rfl hF rfl rfl hbv_4 (fun w hS => Y.move hF rfl) rfl fun a hF => stepV_on (i := 20) rfl hF rfl rfl hbv_4 (fun w hS => Y.neq hF rfl rfl) rfl fun a hF => stepV (i := 21) rfl hF (fun w hS => Y.pick_f hF rfl hbv_4 rfl) rfl fun a hF => stepV (i := 22) rfl hF (fun w hS => Y.move hF rfl) rfl fun a hF => stepV_off (i := 23) rfl hF rfl rfl hbv_5 rfl fun a hF => oneV (i := 24) rfl ?_ trivial
   refine guard_off hF rfl rfl hbv_5 rfl fun a hF => nT ⟨hS.weak (ms := [(1, .cells b [iv rv_1.1.Low, iv rv_1.1.High] 34), (2, .cells b_1 [iv rv_3.1.Low, iv rv_3.1.High] 34), (3, .cells b_2 [iv rv_5.1.Low, iv rv_5.1.High] 34)]) (AL rfl), ?_⟩
   refine stepV_off (i := 25) rfl hF rfl rfl hbv_5 rfl fun a hF => stepV (i := 26) rfl hF (fun w hS => Y.pick_t hF rfl hbv_5 rfl) rfl fun a hF => stepV (i := 27) rfl hF (fun w hS => Y.move hF rfl) rfl fun a hF => stepV_off (i := 28) rfl hF rfl rfl rfl rfl fun a hF => oneV (i := 29) rfl ?_ trivial
   refine guard_off hF rfl rfl rfl rfl fun a hF => nT ⟨hS.weak (ms := [(1, .cells b [iv rv_1.1.Low, iv rv_1.1.High] 34), (2, .cells b_1 [iv rv_3.1.Low, iv rv_3.1.High] 34), (3, .cells b_2 [iv rv_5.1.Low, iv rv_5.1.High] 34)]) (AL rfl), ?_⟩
   refine stepV_off (i := 30) rfl hF rfl rfl rfl rfl fun a hF => stepV (i := 31) rfl hF (fun w hS => Y.pick_t hF rfl rfl rfl) rfl fun a hF => stepV (i := 32) rfl hF (fun w hS => Y.move hF rfl) rfl fun a hF => stepV_off (i := 33) rfl hF rfl rfl rfl rfl fun a hF => oneV (i := 34) rfl ?_ trivial
   refine guard_off hF rfl rfl rfl rfl fun a hF => nT ⟨hS.weak (ms := [(1, .cells b [iv rv_1.1.Low, iv rv_1.1.High] 34), (2, .cells b_1 [iv rv_3.1.Low, iv rv_3.1.High] 34), (3, .cells b_2 [iv rv_5.1.Low, iv rv_5.1.High] 34)]) (AL rfl), ?_⟩
   refine stepV_off (i := 35) rfl hF rfl rfl rfl rfl fun a hF => stepV (i := 36) rfl hF (fun w hS => Y.pick_t hF rfl rfl rfl) rfl fun a hF => stepV (i := 37) rfl hF (fun w hS => Y.move hF rfl) rfl fun a hF => stepV_off (i := 38) rfl hF rfl rfl rfl rfl fun a hF => oneV (i := 39) rfl ?_ trivial
   refine guard_off hF rfl rfl rfl rfl fun a hF => nT ⟨hS.weak (ms := [(1, .cells b [iv rv_1.1.Low, iv rv_1.1.High] 34), (2, .cells b_1 [iv rv_3.1.Low, iv rv_3.1.High] 34), (3, .cells b_2 [iv rv_5.1.Low, iv rv_5.1.High] 34)]) (AL rfl), ?_⟩
   refine oneV (i := 40) rfl ?_ trivial
   refine guard_off hF rfl rfl rfl rfl fun a hF => nT ⟨hS.weak (ms := [(1, .cells b [iv rv_1.1.Low, iv rv_1.1.High] 34), (2, .cells b_1 [iv rv_3.1.Low, iv rv_3.1.High] 34), (3, .cells b_2 [iv rv_5.1.Low, iv rv_5.1.High] 34)]) (AL rfl), ?_⟩
   refine stepV_off (i := 41) rfl hF rfl rfl rfl rfl fun a hF => stepV (i := 42) rfl hF (fun w hS => Y.pick_t hF rfl rfl rfl) rfl fun a hF => toTailV ⟨Dv_8, Stab.le.refl _, hF.weak (AF rfl), hS.weak (AL rfl)⟩
  replace ht_5 := cond_f ht_5 hbv_5
  obtain ⟨rv_13, hx_13, ht_5⟩ := bind_some ht_5
  obtain rfl := some_inj ht_5
  rcases bcases (!([rv_1.1.Low, rv_1.1.High] == [rv_13.Low, rv_13.High])) with hbv_6 | hbv_6
  ·skip
   replace ht_6 := cond_t ht_6 hbv_6
   obtain rfl := some_inj ht_6
   replace ht_7 := cond_t ht_7 rfl
   obtain rfl := some_inj ht_7
   replace ht_8 := cond_t ht_8 rfl
   obtain rfl := some_inj ht_8
   refine stepV (i := 0) rfl hF (fun w hS => Y.move hF rfl) rfl fun a hF => stepV (i := 1) rfl hF (fun w hS => Y.neq hF rfl rfl) rfl fun a hF => stepV (i := 2) rfl hF (fun w hS => Y.move hF rfl) rfl fun a hF => stepV_on (i := 3) rfl hF rfl rfl hbv (fun w hS => Y.move hF rfl) rfl fun a hF => stepV_on (i := 4) rfl hF rfl rfl hbv (fun w hS => Y.neq hF rfl rfl) rfl fun a hF => stepV (i := 5) rfl hF (fun w hS => Y.pick_f hF rfl hbv rfl) rfl fun a hF => stepV (i := 6) rfl hF (fun w hS => Y.move hF rfl) rfl fun a hF => stepV_on (i := 7) rfl hF rfl rfl hbv_1 (fun w hS => Y.move hF rfl) rfl fun a hF => stepV_on (i := 8) rfl hF rfl rfl hbv_1 (fun w hS => Y.neq hF rfl rfl) rfl fun a hF => stepV (i := 9) rfl hF (fun w hS => Y.pick_f hF rfl hbv_1 rfl) rfl fun a hF => stepV (i := 10) rfl hF (fun w hS => Y.move hF rfl) rfl fun a hF => stepV_on (i := 11) rfl hF rfl rfl hbv_2 (fun w hS => Y.move hF rfl) rfl fun a hF => stepV_on (i := 12) rfl hF rfl rfl hbv_2 (fun w hS => Y.neq hF rfl rfl) rfl fun a hF => stepV (i := 13) rfl hF (fun w hS => Y.pick_f hF rfl hbv_2 rfl) rfl fun a hF => stepV (i := 14) rfl hF (fun w hS => Y.move hF rfl) rfl fun a hF => stepV_on (i := 15) rfl hF rfl rfl hbv_3 (fun w hS => Y.move hF rfl) rfl fun a hF => stepV_on (i := 16) rfl hF rfl rfl hbv_3 (fun w hS => Y.neq hF rfl rfl) rfl fun a hF => stepV (i := 17) rfl hF (fun w hS => Y.pick_f hF rfl hbv_3 rfl) rfl fun a hF => stepV (i := 18) rfl hF (fun w hS => Y.move hF rfl) rfl fun a hF => stepV_on (i := 19) rfl hF rfl rfl hbv_4 (fun w hS => Y.move hF rfl) rfl fun a hF => stepV_on (i := 20) rfl hF rfl rfl hbv_4 (fun w hS => Y.neq hF rfl rfl) rfl fun a hF => stepV (i := 21) rfl hF (fun w hS => Y.pick_f hF rfl hbv_4 rfl) rfl fun a hF => stepV (i := 22) rfl hF (fun w hS => Y.move hF rfl) rfl fun a hF => stepV_on (i := 23) rfl hF rfl rfl hbv_5 (fun w hS => Y.loadNL 1 sz_34 hF rfl hS rfl rfl rfl) rfl fun a hF => oneV (i := 24) rfl ?_ trivial
   refine guard_on hF rfl rfl hbv_5 (O.callP (us := [iv 98, iv 105]) ca_37 hF hS (r0To_ok hS.stab 98 105 rv_13 hx_13) rfl rfl fun a w hF hS => nT ⟨hS.weak (ms := [(1, .cells b [iv rv_1.1.Low, iv rv_1.1.High] 34), (2, .cells b_1 [iv rv_3.1.Low, iv rv_3.1.High] 34), (3, .cells b_2 [iv rv_5.1.Low, iv rv_5.1.High] 34)]) (AL rfl), ?_⟩)
   refine stepV_on (i := 25) rfl hF rfl rfl hbv_5 (fun w hS => Y.nest (fun w => eqT_34.equal (by decide) (l := [rv_1.1.Low, rv_1.1.High]) (m := [rv_13.Low, rv_13.High]) rfl rfl) (fun w => run_eqGuard_agg _ _ _ _ _ _ _ eg_34) hF rfl rfl) rfl fun a hF => stepV (i := 26) rfl hF (fun w hS => Y.pick_f hF rfl hbv_5 rfl) rfl fun a hF => stepV (i := 27) rfl hF (fun w hS => Y.move hF rfl) rfl fun a hF => stepV_off (i := 28) rfl hF rfl rfl hbv_6 rfl fun a hF => oneV (i := 29) rfl ?_ trivial
   refine guard_off hF rfl rfl hbv_6 rfl fun a hF => nT ⟨hS.weak (ms := [(1, .cells b [iv rv_1.1.Low, iv rv_1.1.High] 34), (2, .cells b_1 [iv rv_3.1.Low, iv rv_3.1.High] 34), (3, .cells b_2 [iv rv_5.1.Low, iv rv_5.1.High] 34)]) (AL rfl), ?_⟩
   refine stepV_off (i := 30) rfl hF rfl rfl hbv_6 rfl fun a hF => stepV (i := 31) rfl hF (fun w hS => Y.pick_t hF rfl hbv_6 rfl) rfl fun a hF => stepV (i := 32) rfl hF (fun w hS => Y.move hF rfl) rfl fun a hF => stepV_off (i := 33) rfl hF rfl rfl rfl rfl fun a hF => oneV (i := 34) rfl ?_ trivial
   refine guard_off hF rfl rfl rfl rfl fun a hF => nT ⟨hS.weak (ms := [(1, .cells b [iv rv_1.1.Low, iv rv_1.1.High] 34), (2, .cells b_1 [iv rv_3.1.Low, iv rv_3.1.High] 34), (3, .cells b_2 [iv rv_5.1.Low, iv rv_5.1.High] 34)]) (AL rfl), ?_⟩
   refine stepV_off (i := 35) rfl hF rfl rfl rfl rfl fun a hF => stepV (i := 36) rfl hF (fun w hS => Y.pick_t hF rfl rfl rfl) rfl fun a hF => stepV (i := 37) rfl hF (fun w hS => Y.move hF rfl) rfl fun a hF => stepV_off (i := 38) rfl hF rfl rfl rfl rfl fun a hF => oneV (i := 39) rfl ?_ trivial
   refine guard_off hF rfl rfl rfl rfl fun a hF => nT ⟨hS.weak (ms := [(1, .cells b [iv rv_1.1.Low, iv rv_1.1.High] 34), (2, .cells b_1 [iv rv_3.1.Low, iv rv_3.1.High] 34), (3, .cells b_2 [iv rv_5.1.Low, iv rv_5.1.High] 34)]) (AL rfl), ?_⟩
   refine oneV (i := 40) rfl ?_ trivial
   refine guard_off hF rfl rfl rfl rfl fun a hF => nT ⟨hS.weak (ms := [(1, .cells b [iv rv_1.1.Low, iv rv_1.1.High] 34), (2, .cells b_1 [iv rv_3.1.Low, iv rv_3.1.High] 34), (3, .cells b_2 [iv rv_5.1.Low, iv rv_5.1.High] 34)]) (AL rfl), ?_⟩
   refine stepV_off (i := 41) rfl hF rfl rfl rfl rfl fun a hF => stepV (i := 42) rfl hF (fun w hS => Y.pick_t hF rfl rfl rfl) rfl fun a hF => toTailV ⟨Dv_8, Stab.le.refl _, hF.weak (AF rfl), hS.weak (AL rfl)⟩
  replace ht_6 := cond_f ht_6 hbv_6
  obtain ⟨rv_14, hx_14, ht_6⟩ := bind_some ht_6
  obtain rfl := some_inj ht_6
  rcases bcases (!([rv_3.1.Low, rv_3.1.High] == [rv_14.Low, rv_14.High])) with hbv_7 | hbv_7
  ·skip
   replace ht_7 := cond_t ht_7 hbv_7
   obtain rfl := some_inj ht_7
   replace ht_8 := cond_t ht_8 rfl
   obtain rfl := some_inj ht_8
   refine stepV (i := 0) rfl hF (fun w hS => Y.move hF rfl) rfl fun a hF => stepV (i := 1) rfl hF (fun w hS => Y.neq hF rfl rfl) rfl fun a hF => stepV (i := 2) rfl hF (fun w hS => Y.move hF rfl) rfl fun a hF => stepV_on (i := 3) rfl hF rfl rfl hbv (fun w hS => Y.move hF rfl) rfl fun a hF => stepV_on (i := 4) rfl hF rfl rfl hbv (fun w hS => Y.neq hF rfl rfl) rfl fun a hF => stepV (i := 5) rfl hF (fun w hS => Y.pick_f hF rfl hbv rfl) rfl fun a hF => stepV (i := 6) rfl hF (fun w hS => Y.move hF rfl) rfl fun a hF => stepV_on (i := 7) rfl hF rfl rfl hbv_1 (fun w hS => Y.move hF rfl) rfl fun a hF => stepV_on (i := 8) rfl hF rfl rfl hbv_1 (fun w hS => Y.neq hF rfl rfl) rfl fun a hF => stepV (i := 9) rfl hF (fun w hS => Y.pick_f hF rfl hbv_1 rfl) rfl fun a hF => stepV (i := 10) rfl hF (fun w hS => Y.move hF rfl) rfl fun a hF => stepV_on (i := 11) rfl hF rfl rfl hbv_2 (fun w hS => Y.move hF rfl) rfl fun a hF => stepV_on (i := 12) rfl hF rfl rfl hbv_2 (fun w hS => Y.neq hF rfl rfl) rfl fun a hF => stepV (i := 13) rfl hF (fun w hS => Y.pick_f hF rfl hbv_2 rfl) rfl fun a hF => stepV (i := 14) rfl hF (fun w hS => Y.move hF rfl) rfl fun a hF => stepV_on (i := 15) rfl hF rfl rfl hbv_3 (fun w hS => Y.move hF rfl) rfl fun a hF => stepV_on (i := 16) rfl hF rfl rfl hbv_3 (fun w hS => Y.neq hF rfl rfl) rfl fun a hF => stepV (i := 17) rfl hF (fun w hS => Y.pick_f hF rfl hbv_3 rfl) rfl fun a hF => stepV (i := 18) rfl hF (fun w hS => Y.move hF rfl) rfl fun a hF => stepV_on (i := 19) rfl hF rfl rfl hbv_4 (fun w hS => Y.move hF rfl) rfl fun a hF => stepV_on (i := 20) rfl hF rfl rfl hbv_4 (fun w hS => Y.neq hF rfl rfl) rfl fun a hF => stepV (i := 21) rfl hF (fun w hS => Y.pick_f hF rfl hbv_4 rfl) rfl fun a hF => stepV (i := 22) rfl hF (fun w hS => Y.move hF rfl) rfl fun a hF => stepV_on (i := 23) rfl hF rfl rfl hbv_5 (fun w hS => Y.loadNL 1 sz_34 hF rfl hS rfl rfl rfl) rfl fun a hF => oneV (i := 24) rfl ?_ trivial
   refine guard_on hF rfl rfl hbv_5 (O.callP (us := [iv 98, iv 105]) ca_37 hF hS (r0To_ok hS.stab 98 105 rv_13 hx_13) rfl rfl fun a w hF hS => nT ⟨hS.weak (ms := [(1, .cells b [iv rv_1.1.Low, iv rv_1.1.High] 34), (2, .cells b_1 [iv rv_3.1.Low, iv rv_3.1.High] 34), (3, .cells b_2 [iv rv_5.1.Low, iv rv_5.1.High] 34)]) (AL rfl), ?_⟩)
   refine stepV_on (i := 25) rfl hF rfl rfl hbv_5 (fun w hS => Y.nest (fun w => eqT_34.equal (by decide) (l := [rv_1.1.Low, rv_1.1.High]) (m := [rv_13.Low, rv_13.High]) rfl rfl) (fun w => run_eqGuard_agg _ _ _ _ _ _ _ eg_34) hF rfl rfl) rfl fun a hF => stepV (i := 26) rfl hF (fun w hS => Y.pick_f hF rfl hbv_5 rfl) rfl fun a hF => stepV (i := 27) rfl hF (fun w hS => Y.move hF rfl) rfl fun a hF => stepV_on (i := 28) rfl hF rfl rfl hbv_6 (fun w hS => Y.loadNL 2 sz_34 hF rfl hS rfl rfl rfl) rfl fun a hF => oneV (i := 29) rfl ?_ trivial
   refine guard_on hF rfl rfl hbv_6 (O.callP (us := [iv 34, iv 50]) ca_37 hF hS (r0To_ok hS.stab 34 50 rv_14 hx_14) rfl rfl fun a w hF hS => nT ⟨hS.weak (ms := [(1, .cells b [iv rv_1.1.Low, iv rv_1.1.High] 34), (2, .cells b_1 [iv rv_3.1.Low, iv rv_3.1.High] 34), (3, .cells b_2 [iv rv_5.1.Low, iv rv_5.1.High] 34)]) (AL rfl), ?_⟩)
   refine stepV_on (i := 30) rfl hF rfl rfl hbv_6 (fun w hS => Y.nest (fun w => eqT_34.equal (by decide) (l := [rv_3.1.Low, rv_3.1.High]) (m := [rv_14.Low, rv_14.High]) rfl rfl) (fun w => run_eqGuard_agg _ _ _ _ _ _ _ eg_34) hF rfl rfl) rfl fun a hF => stepV (i := 31) rfl hF (fun w hS => Y.pick_f hF rfl hbv_6 rfl) rfl fun a hF => stepV (i := 32) rfl hF (fun w hS => Y.move hF rfl) rfl fun a hF => stepV_off (i := 33) rfl hF rfl rfl hbv_7 rfl fun a hF => oneV (i := 34) rfl ?_ trivial
   refine guard_off hF rfl rfl hbv_7 rfl fun a hF => nT ⟨hS.weak (ms := [(1, .cells b [iv rv_1.1.Low, iv rv_1.1.High] 34), (2, .cells b_1 [iv rv_3.1.Low, iv rv_3.1.High] 34), (3, .cells b_2 [iv rv_5.1.Low, iv rv_5.1.High] 34)]) (AL rfl), ?_⟩
   refine stepV_off (i := 35) rfl hF rfl rfl hbv_7 rfl fun a hF => stepV (i := 36) rfl hF (fun w hS => Y.pick_t hF rfl hbv_7 rfl) rfl fun a hF => stepV (i := 37) rfl hF (fun w hS => Y.move hF rfl) rfl fun a hF => stepV_off (i := 38) rfl hF rfl rfl rfl rfl fun a hF => oneV (i := 39) rfl ?_ trivial
   refine guard_off hF rfl rfl rfl rfl fun a hF => nT ⟨hS.weak (ms := [(1, .cells b [iv rv_1.1.Low, iv rv_1.1.High] 34), (2, .cells b_1 [iv rv_3.1.Low, iv rv_3.1.High] 34), (3, .cells b_2 [iv rv_5.1.Low, iv rv_5.1.High] 34)]) (AL rfl), ?_⟩
   refine oneV (i := 40) rfl ?_ trivial
   refine guard_off hF rfl rfl rfl rfl fun a hF => nT ⟨hS.weak (ms := [(1, .cells b [iv rv_1.1.Low, iv rv_1.1.High] 34), (2, .cells b_1 [iv rv_3.1.Low, iv rv_3.1.High] 34), (3, .cells b_2 [iv rv_5.1.Low, iv rv_5.1.High] 34)]) (AL rfl), ?_⟩
   refine stepV_off (i := 41) rfl hF rfl rfl rfl rfl fun a hF => stepV (i := 42) rfl hF (fun w hS => Y.pick_t hF rfl rfl rfl) rfl fun a hF => toTailV ⟨Dv_8, Stab.le.refl _, hF.weak (AF rfl), hS.weak (AL rfl)⟩
  replace ht_7 := cond_f ht_7 hbv_7
  obtain ⟨rv_15, hx_15, ht_7⟩ := bind_some ht_7
  obtain rfl := some_inj ht_7
  rcases bcases (!([rv_5.1.Low, rv_5.1.High] == [rv_15.Low, rv_15.High])) with hbv_8 | hbv_8
  ·skip
   replace ht_8 := cond_t ht_8 hbv_8
   obtain rfl := some_inj ht_8
   refine stepV (i := 0) rfl hF (fun w hS => Y.move hF rfl) rfl fun a hF => stepV (i := 1) rfl hF (fun w hS => Y.neq hF rfl rfl) rfl fun a hF => stepV (i := 2) rfl hF (fun w hS => Y.move hF rfl) rfl fun a hF => stepV_on (i := 3) rfl hF rfl rfl hbv (fun w hS => Y.move hF rfl) rfl fun a hF => stepV_on (i := 4) rfl hF rfl rfl hbv (fun w hS => Y.neq hF rfl rfl) rfl fun a hF => stepV (i := 5) rfl hF (fun w hS => Y.pick_f hF rfl hbv rfl) rfl fun a hF => stepV (i := 6) rfl hF (fun w hS => Y.move hF rfl) rfl fun a hF => stepV_on (i := 7) rfl hF rfl rfl hbv_1 (fun w hS => Y.move hF rfl) rfl fun a hF => stepV_on (i := 8) rfl hF rfl rfl hbv_1 (fun w hS => Y.neq hF rfl rfl) rfl fun a hF => stepV (i := 9) rfl hF (fun w hS => Y.pick_f hF rfl hbv_1 rfl) rfl fun a hF => stepV (i := 10) rfl hF (fun w hS => Y.move hF rfl) rfl fun a hF => stepV_on (i := 11) rfl hF rfl rfl hbv_2 (fun w hS => Y.move hF rfl) rfl fun a hF => stepV_on (i := 12) rfl hF rfl rfl hbv_2 (fun w hS => Y.neq hF rfl rfl) rfl fun a hF => stepV (i := 13) rfl hF (fun w hS => Y.pick_f hF rfl hbv_2 rfl) rfl fun a hF => stepV (i := 14) rfl hF (fun w hS => Y.move hF rfl) rfl fun a hF => stepV_on (i := 15) rfl hF rfl rfl hbv_3 (fun w hS => Y.move hF rfl) rfl fun a hF => stepV_on (i := 16) rfl hF rfl rfl hbv_3 (fun w hS => Y.neq hF rfl rfl) rfl fun a hF => stepV (i := 17) rfl hF (fun w hS => Y.pick_f hF rfl hbv_3 rfl) rfl fun a hF => stepV (i := 18) rfl hF (fun w hS => Y.move hF rfl) rfl fun a hF => stepV_on (i := 19) rfl hF rfl rfl hbv_4 (fun w hS => Y.move hF rfl) rfl fun a hF => stepV_on (i := 20) rfl hF rfl rfl hbv_4 (fun w hS => Y.neq hF rfl rfl) rfl fun a hF => stepV (i := 21) rfl hF (fun w hS => Y.pick_f hF rfl hbv_4 rfl) rfl fun a hF => stepV (i := 22) rfl hF (fun w hS => Y.move hF rfl) rfl fun a hF => stepV_on (i := 23) rfl hF rfl rfl hbv_5 (fun w hS => Y.loadNL 1 sz_34 hF rfl hS rfl rfl rfl) rfl fun a hF => oneV (i := 24) rfl ?_ trivial
   refine guard_on hF rfl rfl hbv_5 (O.callP (us := [iv 98, iv 105]) ca_37 hF hS (r0To_ok hS.stab 98 105 rv_13 hx_13) rfl rfl fun a w hF hS => nT ⟨hS.weak (ms := [(1, .cells b [iv rv_1.1.Low, iv rv_1.1.High] 34), (2, .cells b_1 [iv rv_3.1.Low, iv rv_3.1.High] 34), (3, .cells b_2 [iv rv_5.1.Low, iv rv_5.1.High] 34)]) (AL rfl), ?_⟩)
   refine stepV_on (i := 25) rfl hF rfl rfl hbv_5 (fun w hS => Y.nest (fun w => eqT_34.equal (by decide) (l := [rv_1.1.Low, rv_1.1.High]) (m := [rv_13.Low, rv_13.High]) rfl rfl) (fun w => run_eqGuard_agg _ _ _ _ _ _ _ eg_34) hF rfl rfl) rfl fun a hF => stepV (i := 26) rfl hF (fun w hS => Y.pick_f hF rfl hbv_5 rfl) rfl fun a hF => stepV (i := 27) rfl hF (fun w hS => Y.move hF rfl) rfl fun a hF => stepV_on (i := 28) rfl hF rfl rfl hbv_6 (fun w hS => Y.loadNL 2 sz_34 hF rfl hS rfl rfl rfl) rfl fun a hF => oneV (i := 29) rfl ?_ trivial
   refine guard_on hF rfl rfl hbv_6 (O.callP (us := [iv 34, iv 50]) ca_37 hF hS (r0To_ok hS.stab 34 50 rv_14 hx_14) rfl rfl fun a w hF hS => nT ⟨hS.weak (ms := [(1, .cells b [iv rv_1.1.Low, iv rv_1.1.High] 34), (2, .cells b_1 [iv rv_3.1.Low, iv rv_3.1.High] 34), (3, .cells b_2 [iv rv_5.1.Low, iv rv_5.1.High] 34)]) (AL rfl), ?_⟩)
   refine stepV_on (i := 30) rfl hF rfl rfl hbv_6 (fun w hS => Y.nest (fun w => eqT_34.equal (by decide) (l := [rv_3.1.Low, rv_3.1.High]) (m := [rv_14.Low, rv_14.High]) rfl rfl) (fun w => run_eqGuard_agg _ _ _ _ _ _ _ eg_34) hF rfl rfl) rfl fun a hF => stepV (i := 31) rfl hF (fun w hS => Y.pick_f hF rfl hbv_6 rfl) rfl fun a hF => stepV (i := 32) rfl hF (fun w hS => Y.move hF rfl) rfl fun a hF => stepV_on (i := 33) rfl hF rfl rfl hbv_7 (fun w hS => Y.loadNL 3 sz_34 hF rfl hS rfl rfl rfl) rfl fun a hF => oneV (i := 34) rfl ?_ trivial
   refine guard_on hF rfl rfl hbv_7 (O.callP (us := [iv (-60), iv 60]) ca_37 hF hS (r0To_ok hS.stab (-60) 60 rv_15 hx_15) rfl rfl fun a w hF hS => nT ⟨hS.weak (ms := [(1, .cells b [iv rv_1.1.Low, iv rv_1.1.High] 34), (2, .cells b_1 [iv rv_3.1.Low, iv rv_3.1.High] 34), (3, .cells b_2 [iv rv_5.1.Low, iv rv_5.1.High] 34)]) (AL rfl), ?_⟩)
   refine stepV_on (i := 35) rfl hF rfl rfl hbv_7 (fun w hS => Y.nest (fun w => eqT_34.equal (by decide) (l := [rv_5.1.Low, rv_5.1.High]) (m := [rv_15.Low, rv_15.High]) rfl rfl) (fun w => run_eqGuard_agg _ _ _ _ _ _ _ eg_34) hF rfl rfl) rfl fun a hF => stepV (i := 36) rfl hF (fun w hS => Y.pick_f hF rfl hbv_7 rfl) rfl fun a hF => stepV (i := 37) rfl hF (fun w hS => Y.move hF rfl) rfl fun a hF => stepV_off (i := 38) rfl hF rfl rfl hbv_8 rfl fun a hF => oneV (i := 39) rfl ?_ trivial
   refine guard_off hF rfl rfl hbv_8 rfl fun a hF => nT ⟨hS.weak (ms := [(1, .cells b [iv rv_1.1.Low, iv rv_1.1.High] 34), (2, .cells b_1 [iv rv_3.1.Low, iv rv_3.1.High] 34), (3, .cells b_2 [iv rv_5.1.Low, iv rv_5.1.High] 34)]) (AL rfl), ?_⟩
   refine oneV (i := 40) rfl ?_ trivial
   refine guard_off hF rfl rfl hbv_8 rfl fun a hF => nT ⟨hS.weak (ms := [(1, .cells b [iv rv_1.1.Low, iv rv_1.1.High] 34), (2, .cells b_1 [iv rv_3.1.Low, iv rv_3.1.High] 34), (3, .cells b_2 [iv rv_5.1.Low, iv rv_5.1.High] 34)]) (AL rfl), ?_⟩
   refine stepV_off (i := 41) rfl hF rfl rfl hbv_8 rfl fun a hF => stepV (i := 42) rfl hF (fun w hS => Y.pick_t hF rfl hbv_8 rfl) rfl fun a hF => toTailV ⟨Dv_8, Stab.le.refl _, hF.weak (AF rfl), hS.weak (AL rfl)⟩
  replace ht_8 := cond_f ht_8 hbv_8
  obtain ⟨rv_16, hx_16, ht_8⟩ := bind_some ht_8
  obtain rfl := some_inj ht_8
  refine stepV (i := 0) rfl hF (fun w hS => Y.move hF rfl) rfl fun a hF => stepV (i := 1) rfl hF (fun w hS => Y.neq hF rfl rfl) rfl fun a hF => stepV (i := 2) rfl hF (fun w hS => Y.move hF rfl) rfl fun a hF => stepV_on (i := 3) rfl hF rfl rfl hbv (fun w hS => Y.move hF rfl) rfl fun a hF => stepV_on (i := 4) rfl hF rfl rfl hbv (fun w hS => Y.neq hF rfl rfl) rfl fun a hF => stepV (i := 5) rfl hF (fun w hS => Y.pick_f hF rfl hbv rfl) rfl fun a hF => stepV (i := 6) rfl hF (fun w hS => Y.move hF rfl) rfl fun a hF => stepV_on (i := 7) rfl hF rfl rfl hbv_1 (fun w hS => Y.move hF rfl) rfl fun a hF => stepV_on (i := 8) rfl hF rfl rfl hbv_1 (fun w hS => Y.neq hF rfl rfl) rfl fun a hF => stepV (i := 9) rfl hF (fun w hS => Y.pick_f hF rfl hbv_1 rfl) rfl fun a hF => stepV (i := 10) rfl hF (fun w hS => Y.move hF rfl) rfl fun a hF => stepV_on (i := 11) rfl hF rfl rfl hbv_2 (fun w hS => Y.move hF rfl) rfl fun a hF => stepV_on (i := 12) rfl hF rfl rfl hbv_2 (fun w hS => Y.neq hF rfl rfl) rfl fun a hF => stepV (i := 13) rfl hF (fun w hS => Y.pick_f hF rfl hbv_2 rfl) rfl fun a hF => stepV (i := 14) rfl hF (fun w hS => Y.move hF rfl) rfl fun a hF => stepV_on (i := 15) rfl hF rfl rfl hbv_3 (fun w hS => Y.move hF rfl) rfl fun a hF => stepV_on (i := 16) rfl hF rfl rfl hbv_3 (fun w hS => Y.neq hF rfl rfl) rfl fun a hF => stepV (i := 17) rfl hF (fun w hS => Y.pick_f hF rfl hbv_3 rfl) rfl fun a hF => stepV (i := 18) rfl hF (fun w hS => Y.move hF rfl) rfl fun a hF => stepV_on (i := 19) rfl hF rfl rfl hbv_4 (fun w hS => Y.move hF rfl) rfl fun a hF => stepV_on (i := 20) rfl hF rfl rfl hbv_4 (fun w hS => Y.neq hF rfl rfl) rfl fun a hF => stepV (i := 21) rfl hF (fun w hS => Y.pick_f hF rfl hbv_4 rfl) rfl fun a hF => stepV (i := 22) rfl hF (fun w hS => Y.move hF rfl) rfl fun a hF => stepV_on (i := 23) rfl hF rfl rfl hbv_5 (fun w hS => Y.loadNL 1 sz_34 hF rfl hS rfl rfl rfl) rfl fun a hF => oneV (i := 24) rfl ?_ trivial
  refine guard_on hF rfl rfl hbv_5 (O.callP (us := [iv 98, iv 105]) ca_37 hF hS (r0To_ok hS.stab 98 105 rv_13 hx_13) rfl rfl fun a w hF hS => nT ⟨hS.weak (ms := [(1, .cells b [iv rv_1.1.Low, iv rv_1.1.High] 34), (2, .cells b_1 [iv rv_3.1.Low, iv rv_3.1.High] 34), (3, .cells b_2 [iv rv_5.1.Low, iv rv_5.1.High] 34)]) (AL rfl), ?_⟩)
  refine stepV_on (i := 25) rfl hF rfl rfl hbv_5 (fun w hS => Y.nest (fun w => eqT_34.equal (by decide) (l := [rv_1.1.Low, rv_1.1.High]) (m := [rv_13.Low, rv_13.High]) rfl rfl) (fun w => run_eqGuard_agg _ _ _ _ _ _ _ eg_34) hF rfl rfl) rfl fun a hF => stepV (i := 26) rfl hF (fun w hS => Y.pick_f hF rfl hbv_5 rfl) rfl fun a hF => stepV (i := 27) rfl hF (fun w hS => Y.move hF rfl) rfl fun a hF => stepV_on (i := 28) rfl hF rfl rfl hbv_6 (fun w hS => Y.loadNL 2 sz_34 hF rfl hS rfl rfl rfl) rfl fun a hF => oneV (i := 29) rfl ?_ trivial
  refine guard_on hF rfl rfl hbv_6 (O.callP (us := [iv 34, iv 50]) ca_37 hF hS (r0To_ok hS.stab 34 50 rv_14 hx_14) rfl rfl fun a w hF hS => nT ⟨hS.weak (ms := [(1, .cells b [iv rv_1.1.Low, iv rv_1.1.High] 34), (2, .cells b_1 [iv rv_3.1.Low, iv rv_3.1.High] 34), (3, .cells b_2 [iv rv_5.1.Low, iv rv_5.1.High] 34)]) (AL rfl), ?_⟩)
  refine stepV_on (i := 30) rfl hF rfl rfl hbv_6 (fun w hS => Y.nest (fun w => eqT_34.equal (by decide) (l := [rv_3.1.Low, rv_3.1.High]) (m := [rv_14.Low, rv_14.High]) rfl rfl) (fun w => run_eqGuard_agg _ _ _ _ _ _ _ eg_34) hF rfl rfl) rfl fun a hF => stepV (i := 31) rfl hF (fun w hS => Y.pick_f hF rfl hbv_6 rfl) rfl fun a hF => stepV (i := 32) rfl hF (fun w hS => Y.move hF rfl) rfl fun a hF => stepV_on (i := 33) rfl hF rfl rfl hbv_7 (fun w hS => Y.loadNL 3 sz_34 hF rfl hS rfl rfl rfl) rfl fun a hF => oneV (i := 34) rfl ?_ trivial
  refine guard_on hF rfl rfl hbv_7 (O.callP (us := [iv (-60), iv 60]) ca_37 hF hS (r0To_ok hS.stab (-60) 60 rv_15 hx_15) rfl rfl fun a w hF hS => nT ⟨hS.weak (ms := [(1, .cells b [iv rv_1.1.Low, iv rv_1.1.High] 34), (2, .cells b_1 [iv rv_3.1.Low, iv rv_3.1.High] 34), (3, .cells b_2 [iv rv_5.1.Low, iv rv_5.1.High] 34)]) (AL rfl), ?_⟩)
  refine stepV_on (i := 35) rfl hF rfl rfl hbv_7 (fun w hS => Y.nest (fun w => eqT_34.equal (by decide) (l := [rv_5.1.Low, rv_5.1.High]) (m := [rv_15.Low, rv_15.High]) rfl rfl) (fun w => run_eqGuard_agg _ _ _ _ _ _ _ eg_34) hF rfl rfl) rfl fun a hF => stepV (i := 36) rfl hF (fun w hS => Y.pick_f hF rfl hbv_7 rfl) rfl fun a hF => stepV (i := 37) rfl hF (fun w hS => Y.move hF rfl) rfl fun a hF => stepV_on (i := 38) rfl hF rfl rfl hbv_8 (fun w hS => Y.move hF rfl) rfl fun a hF => oneV (i := 39) rfl ?_ trivial
  refine guard_on hF rfl rfl hbv_8 ?_
  have hr_1 : Reps C_int Dv_8 [1] [iv 1] := Reps.cons (C := C_int) (x := 1) (c := [iv 1]) (r := []) rfl (Reps.nil)
  refine O.buildSlice (E := 3) (C := C_int) (xs := [1]) (cs := [iv 1]) (us := [iv 1]) (parts := [(0, (.const (iv 1)))]) 4 hF hS rfl (by kernel_rfl) hr_1 rfl rfl rfl fun p_22 c_22 a w hF hS => nT ⟨hS.weak (ms := [(1, .cells b [iv rv_1.1.Low, iv rv_1.1.High] 34), (2, .cells b_1 [iv rv_3.1.Low, iv rv_3.1.High] 34), (3, .cells b_2 [iv rv_5.1.Low, iv rv_5.1.High] 34)]) (AL rfl), ?_⟩
  refine oneV (i := 40) rfl ?_ trivial
  refine guard_on hF rfl rfl hbv_8 ?_
  obtain ⟨Dv_12, hlev_11, hs_22, hS⟩ := hS.freezeC (C := C_int) (i := 4) (xs := [1]) rfl hr_1
  replace hs_17 := hs_17.mono hlev_11
  refine O.callP (us := [.slice p_17 rv_10.1.length c_17, .slice p_22 ([1]).length c_22]) ca_29 hF hS (r0Alike_ok hS.stab rv_10.1 ([1]) hs_17 hs_22 rv_16 hx_16) rfl rfl fun a w hF hS => nT ⟨(hS.weak (ms := [(1, .cells b [iv rv_1.1.Low, iv rv_1.1.High] 34), (2, .cells b_1 [iv rv_3.1.Low, iv rv_3.1.High] 34), (3, .cells b_2 [iv rv_5.1.Low, iv rv_5.1.High] 34)]) (AL rfl)).weakD hlev_11 hle0, ?_⟩
  refine stepV_on (i := 41) rfl hF rfl rfl hbv_8 (fun w hS => Y.not hF rfl) rfl fun a hF => stepV (i := 42) rfl hF (fun w hS => Y.pick_f hF rfl hbv_8 rfl) rfl fun a hF => toTailV ⟨Dv_12, hlev_11, hF.weak (AF rfl), hS.weak (AL rfl)⟩
 rintro a w ⟨Dv_11, hle, hF, hS⟩
 have hlev_12 := hle
 replace hG := hG.mono hlev_12
 replace hs_12 := hs_12.mono hlev_12
 refine step hF (Y.move hF rfl) rfl fun a hF => join (N := 117) (rs := []) (w0 := w0) (D0 := D0) 3 (us := [(0, .bool false), (2, iv rv_1.2), (7, .slice p_12 rv_7.1.length c_12), (12, iv rv_12.2.1), (93, .bool (t_8 || (rv_12.1 != 1)))]) (ms := [(1, .cells b [iv rv_1.1.Low, iv rv_1.1.High] 34), (2, .cells b_1 [iv rv_3.1.Low, iv rv_3.1.High] 34), (3, .cells b_2 [iv rv_5.1.Low, iv rv_5.1.High] 34)]) (D' := Dv_11) ?_ ?_
 ·rcases bcases t_8 with hbv_9 | hbv_9
  ·skip
   refine guard_off hF rfl rfl hbv_9 rfl fun a hF => guard_off hF rfl rfl hbv_9 rfl fun a hF => step hF (Y.pick_t hF rfl hbv_9 rfl) rfl fun a hF => nT ⟨hF.weak ⟨rfl, rfl, rfl, rfl, (by rw [hbv_9]; rfl), trivial⟩, hS.weak (AL rfl)⟩
  refine guard_on hF rfl rfl hbv_9 (step hF (Y.move hF rfl) rfl fun a hF => guard_on hF rfl rfl hbv_9 (step hF (Y.neq hF rfl rfl) rfl fun a hF => step hF (Y.pick_f hF rfl hbv_9 rfl) rfl fun a hF => nT ⟨hF.weak ⟨rfl, rfl, rfl, rfl, (by rw [hbv_9]; rfl), trivial⟩, hS.weak (AL rfl)⟩))
 intro a w hF hS
 refine step hF (Y.move hF rfl) rfl fun a hF => join (N := 117) (rs := []) (w0 := w0) (D0 := D0) 3 (us := [(0, .bool false), (2, iv rv_1.2), (7, .slice p_12 rv_7.1.length c_12), (97, .bool ((t_8 || (rv_12.1 != 1)) || (rv_12.2.1 != 1)))]) (ms := [(1, .cells b [iv rv_1.1.Low, iv rv_1.1.High] 34), (2, .cells b_1 [iv rv_3.1.Low, iv rv_3.1.High] 34), (3, .cells b_2 [iv rv_5.1.Low, iv rv_5.1.High] 34)]) (D' := Dv_11) ?_ ?_
 ·rcases bcases (t_8 || (rv_12.1 != 1)) with hbv_10 | hbv_10
  ·skip
   refine guard_off hF rfl rfl hbv_10 rfl fun a hF => guard_off hF rfl rfl hbv_10 rfl fun a hF => step hF (Y.pick_t hF rfl hbv_10 rfl) rfl fun a hF => nT ⟨hF.weak ⟨rfl, rfl, rfl, (by rw [hbv_10]; rfl), trivial⟩, hS.weak (AL rfl)⟩
  refine guard_on hF rfl rfl hbv_10 (step hF (Y.move hF rfl) rfl fun a hF => guard_on hF rfl rfl hbv_10 (step hF (Y.neq hF rfl rfl) rfl fun a hF => step hF (Y.pick_f hF rfl hbv_10 rfl) rfl fun a hF => nT ⟨hF.weak ⟨rfl, rfl, rfl, (by rw [hbv_10]; rfl), trivial⟩, hS.weak (AL rfl)⟩))
 intro a w hF hS
 refine nT (cond_b hF rfl (fun hbv_11 => ?_) (fun hbv_11 => ?_))
 ·replace h := cond_t h hbv_11
  refine seq (region (step hF (Y.assign hF rfl) rfl fun a hF => nT (ret_ (then_r ?_))))
  obtain rfl := some_inj h
  exact leaveP Tryd.results21 hF hS (.cons (.tmp rfl) .nil) .nil rfl
 replace h := cond_f h hbv_11
 refine skip_ (then_n (seq (region ?_)))
 obtain ⟨rv_17, hx_17, h⟩ := bind_some h
 refine O.callS (us := [.slice none 0 0]) ca_42 hF hS (remontoirlaw02_cellar_ok hS.stab ([] : List BeatPair) SRc.nil rv_17 hx_17) rfl rfl fun v_9 Dv_13 a w hR_9 hlev_13 hF hS => ?_
 replace hG := hG.mono hlev_13
 replace hs_12 := hs_12.mono hlev_13
 obtain ⟨p_23, c_23, p_24, c_24, p_25, c_25, rfl, hs_23, hs_24, hs_25⟩ := hR_9
 refine step hF (Y.move hF rfl) rfl fun a hF => ?_
 obtain ⟨rv_18, hx_18, h⟩ := bind_some h
 refine O.callP (us := [.agg #[iv rv_17.Hours, .slice p_23 rv_17.Rates.length c_23, .slice p_24 rv_17.Opens.length c_24, .slice p_25 rv_17.Pairs.length c_25], .slice p_12 rv_7.1.length c_12]) ca_15 hF hS (beat_IsTruth_ok hS.stab rv_17 rv_7.1 hs_23 hs_24 hs_25 hs_12 hG rv_18 hx_18) rfl rfl fun a w hF hS => step hF (Y.move hF rfl) rfl fun a hF => step hF (Y.extract hF rfl rfl) rfl fun a hF => step hF (Y.extract hF rfl rfl) rfl fun a hF => step hF (Y.assign hF rfl) rfl fun a hF => step hF (Y.assign hF rfl) rfl fun a hF => nT (seq (region (step hF (Y.move hF rfl) rfl fun a hF => step hF (Y.eql hF rfl rfl) rfl fun a hF => step hF (Y.move hF rfl) rfl fun a hF => join (N := 117) (rs := []) (w0 := w0) (D0 := D0) 2 (us := [(0, .bool false), (7, .slice p_12 rv_7.1.length c_12), (108, .bool ((rv_18.2 == 0) && rv_18.1))]) (ms := [(1, .cells b [iv rv_1.1.Low, iv rv_1.1.High] 34), (2, .cells b_1 [iv rv_3.1.Low, iv rv_3.1.High] 34), (3, .cells b_2 [iv rv_5.1.Low, iv rv_5.1.High] 34)]) (D' := Dv_13) ?_ ?_)))
 ·rcases bcases (rv_18.2 == 0) with hbv_12 | hbv_12
  ·skip
   refine guard_on hF rfl rfl hbv_12 (step hF (Y.move hF rfl) rfl fun a hF => step hF (Y.pick_t hF rfl hbv_12 rfl) rfl fun a hF => nT ⟨hF.weak ⟨rfl, rfl, (by rw [hbv_12]; rfl), trivial⟩, hS.weak (AL rfl)⟩)
  refine guard_off hF rfl rfl hbv_12 rfl fun a hF => step hF (Y.pick_f hF rfl hbv_12 rfl) rfl fun a hF => nT ⟨hF.weak ⟨rfl, rfl, (by rw [hbv_12]; rfl), trivial⟩, hS.weak (AL rfl)⟩
 intro a w hF hS
 refine step hF (Y.move hF rfl) rfl fun a hF => ?_
 obtain ⟨t_9, ht_9, h⟩ := bind_some h
 refine join (N := 117) (rs := []) (w0 := w0) (D0 := D0) 7 (us := [(0, .bool false), (116, .bool t_9)]) (ms := [(1, .cells b [iv rv_1.1.Low, iv rv_1.1.High] 34), (2, .cells b_1 [iv rv_3.1.Low, iv rv_3.1.High] 34), (3, .cells b_2 [iv rv_5.1.Low, iv rv_5.1.High] 34)]) (D' := Dv_13) ?_ ?_
 ·rcases bcases ((rv_18.2 == 0) && rv_18.1) with hbv_13 | hbv_13
  ·skip
   replace h := cond_t ht_9 hbv_13
   refine guard_on hF rfl rfl hbv_13 (step hF (Y.move hF rfl) rfl fun a hF => ?_)
   obtain ⟨e, hx_19, h⟩ := bind_some h
   obtain ⟨b_3, o, hE, hY⟩ := Y.indexS (P := Tryd.prog) (C := (C_sl C_int)) (xs := rv_7.1) (T := 27) (x := (.tmp 110)) (y := (.const (iv 2))) u_27 sz_44 hF rfl rfl (hs_12).1 hx_19
   obtain ⟨cc, hc, hcell⟩ := hE.open
   obtain ⟨p_26, c_26, rfl, hs_26⟩ := hc
   refine guard_on hF rfl rfl hbv_13 (step hF (hY) rfl fun a hF => guard_on hF rfl rfl hbv_13 (step hF (Y.load1 sz_44 hF rfl (hcell _ hS.stab 0 _ rfl)) rfl fun a hF => ?_))
   obtain ⟨e_1, hx_20, h⟩ := bind_some h
   obtain ⟨b_4, o_1, hE_1, hY_1⟩ := Y.indexS (P := Tryd.prog) (C := C_int) (xs := e) (T := 44) (x := (.tmp 112)) (y := (.const (iv 1))) u_44 sz_3 hF rfl rfl (hs_26).1 hx_20
   obtain ⟨cc_1, hc_1, hcell_1⟩ := hE_1.open
   obtain rfl := hc_1
   refine guard_on hF rfl rfl hbv_13 (step hF (hY_1) rfl fun a hF => guard_on hF rfl rfl hbv_13 (step hF (Y.load1 sz_3 hF rfl (hcell_1 _ hS.stab 0 _ rfl)) rfl fun a hF => guard_on hF rfl rfl hbv_13 (step hF (Y.eql hF rfl rfl) rfl fun a hF => step hF (Y.pick_t hF rfl hbv_13 rfl) rfl fun a hF => ?_)))
   obtain rfl := some_inj h
   exact nT ⟨hF.weak ⟨rfl, rfl, trivial⟩, hS.weak (AL rfl)⟩
  replace h := cond_f ht_9 hbv_13
  refine guard_off hF rfl rfl hbv_13 rfl fun a hF => guard_off hF rfl rfl hbv_13 rfl fun a hF => guard_off hF rfl rfl hbv_13 rfl fun a hF => guard_off hF rfl rfl hbv_13 rfl fun a hF => guard_off hF rfl rfl hbv_13 rfl fun a hF => guard_off hF rfl rfl hbv_13 rfl fun a hF => step hF (Y.pick_f hF rfl hbv_13 rfl) rfl fun a hF => ?_
  obtain rfl := some_inj h
  exact nT ⟨hF.weak ⟨rfl, rfl, trivial⟩, hS.weak (AL rfl)⟩
 intro a w hF hS
 refine step hF (Y.assign hF rfl) rfl fun a hF => nT (ret_ ?_)
 obtain rfl := some_inj h
 exact leaveP Tryd.results21 hF hS (.cons (.tmp rfl) .nil) .nil rfl
end Go.Proofs.YtpniidbbbhbglaaDoor.Rt
