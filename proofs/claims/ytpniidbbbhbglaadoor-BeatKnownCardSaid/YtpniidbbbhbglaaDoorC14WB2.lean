/- Walks of the functions of this seat: what each Go function comes to, as a Lean function, and the proof. Part WB2. Under no conditions. -/
import Derived.Test.YtpniidbbbhbglaaDoorC14WB1
set_option linter.unusedVariables false
set_option linter.unusedSimpArgs false
set_option maxRecDepth 100000
set_option maxHeartbeats 4000000
namespace Go.Proofs.YtpniidbbbhbglaaDoor.Rt
open Go Go.RowKit
noncomputable def beat_cellar_can (c : beat_cellar) : Option Bool :=
  (beat_truth).bind fun rv =>
  (beat_cellar_above c rv).bind fun rv_1 =>
  some rv_1.2
theorem beat_cellar_can_ok {w0 : World} {D0 : Stab} (hD : D0.on w0) (c : beat_cellar) {p : Option Addr} {c_1 : Nat} {p_1 : Option Addr} {c_2 : Nat} {p_2 : Option Addr} {c_3 : Nat} {bm : Option Nat} (hs : SRc C_Span D0 c.BeatCellar.Rates p c_1) (hs_1 : SRc C_BeatOpen D0 c.BeatCellar.Opens p_1 c_2) (hs_2 : SRc C_BeatPair D0 c.BeatCellar.Pairs p_2 c_3) (hm : MapS kl_86 C_int false D0 c.place bm) (hG : Glob D0) (out : Bool) (h : beat_cellar_can c = some out) : Calls Tryd.prog 62 [.agg #[iv c.BeatCellar.Hours, .slice p c.BeatCellar.Rates.length c_1, .slice p_1 c.BeatCellar.Opens.length c_2, .slice p_2 c.BeatCellar.Pairs.length c_3, iv c.left, .map bm]].toArray w0 (RetP D0 w0 (.bool out)) := by
 refine enter _ 12 Tryd.func62 rfl Tryd.ntmps62 rfl fun a hF => ?_
 replace hF : Frm 12 [] [(0, .agg #[iv c.BeatCellar.Hours, .slice p c.BeatCellar.Rates.length c_1, .slice p_1 c.BeatCellar.Opens.length c_2, .slice p_2 c.BeatCellar.Pairs.length c_3, iv c.left, .map bm])] a := hF
 have hS := St.start hD
 unfold beat_cellar_can at h
 refine seq (region (O.box (cs := [iv c.BeatCellar.Hours, .slice p c.BeatCellar.Rates.length c_1, .slice p_1 c.BeatCellar.Opens.length c_2, .slice p_2 c.BeatCellar.Pairs.length c_3, iv c.left, .map bm]) 1 hF rfl rfl hS rfl fun b a w hF hS => step hF (Y.assign hF rfl) rfl fun a hF => nT (seq ?_)))
 obtain ⟨rv, hx, h⟩ := bind_some h
 obtain ⟨rv_1, hx_1, h⟩ := bind_some h
 refine drawsV 8 (.flt 0 (.alt 1 (.alt 2 (.flt 3 (.flt 4 (.flt 5 (.alt 6 (.alt 7 .done .stop) .stop)))) (.alt 6 (.alt 2 (.flt 3 (.flt 4 (.flt 5 (.alt 7 .done .stop)))) .stop) .stop)) (.alt 6 (.alt 1 (.alt 2 (.flt 3 (.flt 4 (.flt 5 (.alt 7 .done .stop)))) .stop) .stop) .stop))) mixed_ (by kernel_rfl) (fun w => St w0 D0 D0 [(1, .cells b [iv c.BeatCellar.Hours, .slice p c.BeatCellar.Rates.length c_1, .slice p_1 c.BeatCellar.Opens.length c_2, .slice p_2 c.BeatCellar.Pairs.length c_3, iv c.left, .map bm] 83)] w) (fun a w => ∃ (Dv_1 : Stab) (b_1 : Nat), D0.le Dv_1 ∧ Frm 12 [] [(2, .bool false), (10, .bool rv_1.2)] a ∧ St w0 D0 Dv_1 [(1, .cells b [iv c.BeatCellar.Hours, .slice p c.BeatCellar.Rates.length c_1, .slice p_1 c.BeatCellar.Opens.length c_2, .slice p_2 c.BeatCellar.Pairs.length c_3, iv c.left, .map bm] 83), (2, .cells b_1 (arr celI rv_1.1) 102)] w ∧ rv_1.1.length = 66) (hS.weak (ms := [(1, .cells b [iv c.BeatCellar.Hours, .slice p c.BeatCellar.Rates.length c_1, .slice p_1 c.BeatCellar.Opens.length c_2, .slice p_2 c.BeatCellar.Pairs.length c_3, iv c.left, .map bm] 83)]) ⟨rfl, trivial⟩).drew (fun _ _ _ _ h => h) ?_ ?_
 ·replace hS := hS.drew
  have hle0 := hS.le
  refine stepV (i := 0) rfl hF (fun w hS => Y.loadNL 1 sz_83 hF rfl hS rfl rfl rfl) rfl fun a hF => oneV (i := 1) rfl ?_ ?_
  ·skip
   refine O.callP (us := []) ca_51 hF hS (beat_truth_ok hS.stab rv hx) rfl rfl fun a w hF hS => nT ⟨hS.weak (ms := [(1, .cells b [iv c.BeatCellar.Hours, .slice p c.BeatCellar.Rates.length c_1, .slice p_1 c.BeatCellar.Opens.length c_2, .slice p_2 c.BeatCellar.Pairs.length c_3, iv c.left, .map bm] 83)]) ⟨rfl, trivial⟩, ?_⟩
   refine oneV (i := 2) rfl ?_ ?_
   ·skip
    refine O.callS (us := [.agg #[iv c.BeatCellar.Hours, .slice p c.BeatCellar.Rates.length c_1, .slice p_1 c.BeatCellar.Opens.length c_2, .slice p_2 c.BeatCellar.Pairs.length c_3, iv c.left, .map bm], .agg #[iv rv.clock, iv rv.hour]]) ca_60 hF hS (beat_cellar_above_ok hS.stab c rv hs hs_1 hs_2 hm hG rv_1 hx_1) rfl rfl fun v_1 Dv_2 a w hR_1 hlev_1 hF hS => ?_
    obtain ⟨rfl, hn_1⟩ := hR_1
    refine nT ⟨(hS.weak (ms := [(1, .cells b [iv c.BeatCellar.Hours, .slice p c.BeatCellar.Rates.length c_1, .slice p_1 c.BeatCellar.Opens.length c_2, .slice p_2 c.BeatCellar.Pairs.length c_3, iv c.left, .map bm] 83)]) ⟨rfl, trivial⟩).weakD hlev_1 hle0, ?_⟩
    refine stepV (i := 3) rfl hF (fun w hS => Y.move hF rfl) rfl fun a hF => stepV (i := 4) rfl hF (fun w hS => Y.extract hF rfl rfl) rfl fun a hF => stepV (i := 5) rfl hF (fun w hS => Y.extract hF rfl rfl) rfl fun a hF => oneV (i := 6) rfl ?_ trivial
    refine O.alloc 2 zc_102 hF hS rfl fun b_2 a w hF hS => nT ⟨(hS.weak (ms := [(1, .cells b [iv c.BeatCellar.Hours, .slice p c.BeatCellar.Rates.length c_1, .slice p_1 c.BeatCellar.Opens.length c_2, .slice p_2 c.BeatCellar.Pairs.length c_3, iv c.left, .map bm] 83)]) ⟨rfl, trivial⟩).weakD hlev_1 hle0, ?_⟩
    refine oneV (i := 7) rfl ?_ trivial
    refine O.storeW (F := celI) 2 sz_102 List.length_replicate hn_1 hF rfl rfl hS rfl fun a w hF hS => nT ⟨(hS.weak (ms := [(1, .cells b [iv c.BeatCellar.Hours, .slice p c.BeatCellar.Rates.length c_1, .slice p_1 c.BeatCellar.Opens.length c_2, .slice p_2 c.BeatCellar.Pairs.length c_3, iv c.left, .map bm] 83)]) ⟨rfl, trivial⟩).weakD hlev_1 hle0, ?_⟩
    exact toTailV ⟨Dv_2, b_2, hlev_1, hF.weak ⟨rfl, rfl, trivial⟩, hS.weak ⟨rfl, rfl, trivial⟩, hn_1⟩
   refine oneV (i := 6) rfl ?_ trivial
   refine O.alloc 2 zc_102 hF hS rfl fun b_3 a w hF hS => nT ⟨hS.weak (ms := [(1, .cells b [iv c.BeatCellar.Hours, .slice p c.BeatCellar.Rates.length c_1, .slice p_1 c.BeatCellar.Opens.length c_2, .slice p_2 c.BeatCellar.Pairs.length c_3, iv c.left, .map bm] 83)]) ⟨rfl, trivial⟩, ?_⟩
   refine oneV (i := 2) rfl ?_ trivial
   refine O.callS (us := [.agg #[iv c.BeatCellar.Hours, .slice p c.BeatCellar.Rates.length c_1, .slice p_1 c.BeatCellar.Opens.length c_2, .slice p_2 c.BeatCellar.Pairs.length c_3, iv c.left, .map bm], .agg #[iv rv.clock, iv rv.hour]]) ca_60 hF hS (beat_cellar_above_ok hS.stab c rv hs hs_1 hs_2 hm hG rv_1 hx_1) rfl rfl fun v_2 Dv_3 a w hR_2 hlev_2 hF hS => ?_
   obtain ⟨rfl, hn_2⟩ := hR_2
   refine nT ⟨(hS.weak (ms := [(1, .cells b [iv c.BeatCellar.Hours, .slice p c.BeatCellar.Rates.length c_1, .slice p_1 c.BeatCellar.Opens.length c_2, .slice p_2 c.BeatCellar.Pairs.length c_3, iv c.left, .map bm] 83)]) ⟨rfl, trivial⟩).weakD hlev_2 hle0, ?_⟩
   refine stepV (i := 3) rfl hF (fun w hS => Y.move hF rfl) rfl fun a hF => stepV (i := 4) rfl hF (fun w hS => Y.extract hF rfl rfl) rfl fun a hF => stepV (i := 5) rfl hF (fun w hS => Y.extract hF rfl rfl) rfl fun a hF => oneV (i := 7) rfl ?_ trivial
   refine O.storeW (F := celI) 2 sz_102 List.length_replicate hn_2 hF rfl rfl hS rfl fun a w hF hS => nT ⟨(hS.weak (ms := [(1, .cells b [iv c.BeatCellar.Hours, .slice p c.BeatCellar.Rates.length c_1, .slice p_1 c.BeatCellar.Opens.length c_2, .slice p_2 c.BeatCellar.Pairs.length c_3, iv c.left, .map bm] 83)]) ⟨rfl, trivial⟩).weakD hlev_2 hle0, ?_⟩
   exact toTailV ⟨Dv_3, b_3, hlev_2, hF.weak ⟨rfl, rfl, trivial⟩, hS.weak ⟨rfl, rfl, trivial⟩, hn_2⟩
  refine oneV (i := 6) rfl ?_ trivial
  refine O.alloc 2 zc_102 hF hS rfl fun b_4 a w hF hS => nT ⟨hS.weak (ms := [(1, .cells b [iv c.BeatCellar.Hours, .slice p c.BeatCellar.Rates.length c_1, .slice p_1 c.BeatCellar.Opens.length c_2, .slice p_2 c.BeatCellar.Pairs.length c_3, iv c.left, .map bm] 83)]) ⟨rfl, trivial⟩, ?_⟩
  refine oneV (i := 1) rfl ?_ trivial
  refine O.callP (us := []) ca_51 hF hS (beat_truth_ok hS.stab rv hx) rfl rfl fun a w hF hS => nT ⟨hS.weak (ms := [(1, .cells b [iv c.BeatCellar.Hours, .slice p c.BeatCellar.Rates.length c_1, .slice p_1 c.BeatCellar.Opens.length c_2, .slice p_2 c.BeatCellar.Pairs.length c_3, iv c.left, .map bm] 83)]) ⟨rfl, trivial⟩, ?_⟩
  refine oneV (i := 2) rfl ?_ trivial
  refine O.callS (us := [.agg #[iv c.BeatCellar.Hours, .slice p c.BeatCellar.Rates.length c_1, .slice p_1 c.BeatCellar.Opens.length c_2, .slice p_2 c.BeatCellar.Pairs.length c_3, iv c.left, .map bm], .agg #[iv rv.clock, iv rv.hour]]) ca_60 hF hS (beat_cellar_above_ok hS.stab c rv hs hs_1 hs_2 hm hG rv_1 hx_1) rfl rfl fun v_3 Dv_4 a w hR_3 hlev_3 hF hS => ?_
  obtain ⟨rfl, hn_3⟩ := hR_3
  refine nT ⟨(hS.weak (ms := [(1, .cells b [iv c.BeatCellar.Hours, .slice p c.BeatCellar.Rates.length c_1, .slice p_1 c.BeatCellar.Opens.length c_2, .slice p_2 c.BeatCellar.Pairs.length c_3, iv c.left, .map bm] 83)]) ⟨rfl, trivial⟩).weakD hlev_3 hle0, ?_⟩
  refine stepV (i := 3) rfl hF (fun w hS => Y.move hF rfl) rfl fun a hF => stepV (i := 4) rfl hF (fun w hS => Y.extract hF rfl rfl) rfl fun a hF => stepV (i := 5) rfl hF (fun w hS => Y.extract hF rfl rfl) rfl fun a hF => oneV (i := 7) rfl ?_ trivial
  refine O.storeW (F := celI) 2 sz_102 List.length_replicate hn_3 hF rfl rfl hS rfl fun a w hF hS => nT ⟨(hS.weak (ms := [(1, .cells b [iv c.BeatCellar.Hours, .slice p c.BeatCellar.Rates.length c_1, .slice p_1 c.BeatCellar.Opens.length c_2, .slice p_2 c.BeatCellar.Pairs.length c_3, iv c.left, .map bm] 83)]) ⟨rfl, trivial⟩).weakD hlev_3 hle0, ?_⟩
  exact toTailV ⟨Dv_4, b_4, hlev_3, hF.weak ⟨rfl, rfl, trivial⟩, hS.weak ⟨rfl, rfl, trivial⟩, hn_3⟩
 rintro a w ⟨Dv_1, b_1, hle, hF, hS, hj⟩
 have hlev_4 := hle
 refine step hF (Y.assign hF rfl) rfl fun a hF => nT (seq (region (step hF (Y.move hF rfl) rfl fun a hF => step hF (Y.assign hF rfl) rfl fun a hF => nT (ret_ ?_))))
 obtain rfl := some_inj h
 exact leaveP Tryd.results62 hF hS (.cons (.tmp rfl) .nil) .nil rfl
noncomputable def beat_asked (xv : BeatCellar) (right : Bool) : Option (beat_cellar × Int) :=
  (beat_Check xv).bind fun rv =>
  cond (rv != 0)
  (some ((beat_cellar.mk (BeatCellar.mk 0 ([] : List Span) ([] : List BeatOpen) ([] : List BeatPair)) 0 ([] : (List (beat_spot × Int)))), rv))
  (cond (!right)
  (some ((beat_cellar.mk (BeatCellar.mk 0 ([] : List Span) ([] : List BeatOpen) ([] : List BeatPair)) 0 ([] : (List (beat_spot × Int)))), 21))
  ((beat_opened xv 0).bind fun rv_1 =>
  (beat_cellar_can rv_1).bind fun rv_2 =>
  cond (!rv_2)
  (some ((beat_cellar.mk (BeatCellar.mk 0 ([] : List Span) ([] : List BeatOpen) ([] : List BeatPair)) 0 ([] : (List (beat_spot × Int)))), 22))
  (some (rv_1, 0))))
theorem beat_asked_ok {w0 : World} {D0 : Stab} (hD : D0.on w0) (xv : BeatCellar) (right : Bool) {p : Option Addr} {c : Nat} {p_1 : Option Addr} {c_1 : Nat} {p_2 : Option Addr} {c_2 : Nat} (hs : SRc C_Span D0 xv.Rates p c) (hs_1 : SRc C_BeatOpen D0 xv.Opens p_1 c_1) (hs_2 : SRc C_BeatPair D0 xv.Pairs p_2 c_2) (hG : Glob D0) (out : (beat_cellar × Int)) (h : beat_asked xv right = some out) : Calls Tryd.prog 56 [.agg #[iv xv.Hours, .slice p xv.Rates.length c, .slice p_1 xv.Opens.length c_1, .slice p_2 xv.Pairs.length c_2], .bool right].toArray w0 (RetS D0 w0 fun D v => ∃ p_6 c_6 p_7 c_7 p_8 c_8 bm_1, v = .tuple #[.agg #[iv out.1.BeatCellar.Hours, .slice p_6 out.1.BeatCellar.Rates.length c_6, .slice p_7 out.1.BeatCellar.Opens.length c_7, .slice p_8 out.1.BeatCellar.Pairs.length c_8, iv out.1.left, .map bm_1], iv out.2] ∧ SRc C_Span D out.1.BeatCellar.Rates p_6 c_6 ∧ SRc C_BeatOpen D out.1.BeatCellar.Opens p_7 c_7 ∧ SRc C_BeatPair D out.1.BeatCellar.Pairs p_8 c_8 ∧ MapS kl_86 C_int false D out.1.place bm_1) := by
 refine enter _ 27 Tryd.func56 rfl Tryd.ntmps56 rfl fun a hF => ?_
 replace hF : Frm 27 [] [(0, .agg #[iv xv.Hours, .slice p xv.Rates.length c, .slice p_1 xv.Opens.length c_1, .slice p_2 xv.Pairs.length c_2]), (1, .bool right)] a := hF
 have hS := St.start hD
 unfold beat_asked at h
 refine seq (region (O.box (cs := [iv xv.Hours, .slice p xv.Rates.length c, .slice p_1 xv.Opens.length c_1, .slice p_2 xv.Pairs.length c_2]) 1 hF rfl rfl hS rfl fun b a w hF hS => O.alloc 2 zc_83 hF hS rfl fun b_1 a w hF hS => step hF (Y.assign hF rfl) rfl fun a hF => nT (seq (seq (region (step hF (Y.loadNL 1 sz_26 hF rfl hS rfl rfl rfl) rfl fun a hF => ?_))))))
 obtain ⟨rv, hx, h⟩ := bind_some h
 refine O.callP (us := [.agg #[iv xv.Hours, .slice p xv.Rates.length c, .slice p_1 xv.Opens.length c_1, .slice p_2 xv.Pairs.length c_2]]) ca_17 hF hS (beat_Check_ok hS.stab xv hs hs_1 hs_2 rv hx) rfl rfl fun a w hF hS => step hF (Y.assign hF rfl) rfl fun a hF => nT (seq (region (step hF (Y.move hF rfl) rfl fun a hF => step hF (Y.neq hF rfl rfl) rfl fun a hF => nT (cond_b hF rfl (fun hbv => ?_) (fun hbv => ?_)))))
 ·replace h := cond_t h hbv
  refine seq (region (step hF (Y.build (parts := []) (cs := #[iv 0, .slice none 0 0, .slice none 0 0, .slice none 0 0, iv 0, .map none]) hF rfl (by kernel_rfl)) rfl fun a hF => step hF (Y.move hF rfl) rfl fun a hF => O.store (us := [iv 0, .slice none 0 0, .slice none 0 0, .slice none 0 0, iv 0, .map none]) 2 sz_83 hF rfl rfl rfl rfl hS rfl rfl fun a w hF hS => step hF (Y.assign hF rfl) rfl fun a hF => nT (ret_ (then_r ?_))))
  obtain rfl := some_inj h
  exact leaveS Tryd.results56 hF hS (.cons (.cellN 2 sz_83 rfl rfl rfl) (.cons (.tmp rfl) .nil)) .nil ⟨_, _, _, _, _, _, _, rfl, SRc.nil, SRc.nil, SRc.nil, MapS.nil⟩
 replace h := cond_f h hbv
 refine skip_ (then_n (seq (seq (region (step hF (Y.move hF rfl) rfl fun a hF => step hF (Y.not hF rfl) rfl fun a hF => nT (cond_b hF rfl (fun hbv_1 => ?_) (fun hbv_1 => ?_)))))))
 ·replace h := cond_t h hbv_1
  refine seq (region (step hF (Y.build (parts := []) (cs := #[iv 0, .slice none 0 0, .slice none 0 0, .slice none 0 0, iv 0, .map none]) hF rfl (by kernel_rfl)) rfl fun a hF => O.store (us := [iv 0, .slice none 0 0, .slice none 0 0, .slice none 0 0, iv 0, .map none]) 2 sz_83 hF rfl rfl rfl rfl hS rfl rfl fun a w hF hS => step hF (Y.assign hF rfl) rfl fun a hF => nT (ret_ (then_r ?_))))
  obtain rfl := some_inj h
  exact leaveS Tryd.results56 hF hS (.cons (.cellN 2 sz_83 rfl rfl rfl) (.cons (.tmp rfl) .nil)) .nil ⟨_, _, _, _, _, _, _, rfl, SRc.nil, SRc.nil, SRc.nil, MapS.nil⟩
 replace h := cond_f h hbv_1
 refine skip_ (then_n (seq (region (step hF (Y.loadNL 1 sz_26 hF rfl hS rfl rfl rfl) rfl fun a hF => ?_))))
 obtain ⟨rv_1, hx_1, h⟩ := bind_some h
 refine O.callS (us := [.agg #[iv xv.Hours, .slice p xv.Rates.length c, .slice p_1 xv.Opens.length c_1, .slice p_2 xv.Pairs.length c_2], iv 0]) ca_49 hF hS (beat_opened_ok hS.stab xv 0 hs hs_1 hs_2 rv_1 hx_1) rfl rfl fun v Dv a w hR hlev hF hS => ?_
 replace hG := hG.mono hlev
 obtain ⟨p_3, c_3, p_4, c_4, p_5, c_5, bm, rfl, hs_3, hs_4, hs_5, hm⟩ := hR
 refine O.alloc 3 zc_83 hF hS rfl fun b_2 a w hF hS => O.store (us := [iv rv_1.BeatCellar.Hours, .slice p_3 rv_1.BeatCellar.Rates.length c_3, .slice p_4 rv_1.BeatCellar.Opens.length c_4, .slice p_5 rv_1.BeatCellar.Pairs.length c_5, iv rv_1.left, .map bm]) 3 sz_83 hF rfl rfl rfl rfl hS rfl rfl fun a w hF hS => nT (seq (region (step hF (Y.loadNL 3 sz_83 hF rfl hS rfl rfl rfl) rfl fun a hF => step hF (Y.makeFunc (first := [(.tmp 20)]) (cap := []) (fs := [.agg #[iv rv_1.BeatCellar.Hours, .slice p_3 rv_1.BeatCellar.Rates.length c_3, .slice p_4 rv_1.BeatCellar.Opens.length c_4, .slice p_5 rv_1.BeatCellar.Pairs.length c_5, iv rv_1.left, .map bm]]) (cs := []) hF rfl rfl) rfl fun a hF => step hF (Y.assign hF rfl) rfl fun a hF => nT (seq (seq (region (step hF (Y.move hF rfl) rfl fun a hF => ?_)))))))
 obtain ⟨rv_2, hx_2, h⟩ := bind_some h
 refine O.callVP (f := 62) (first := [.agg #[iv rv_1.BeatCellar.Hours, .slice p_3 rv_1.BeatCellar.Rates.length c_3, .slice p_4 rv_1.BeatCellar.Opens.length c_4, .slice p_5 rv_1.BeatCellar.Pairs.length c_5, iv rv_1.left, .map bm]]) (cap := []) (us := []) ca_62 hF hS rfl rfl (beat_cellar_can_ok hS.stab rv_1 hs_3 hs_4 hs_5 hm hG rv_2 hx_2) rfl fun a w hF hS => step hF (Y.not hF rfl) rfl fun a hF => nT (cond_b hF rfl (fun hbv_2 => ?_) (fun hbv_2 => ?_))
 ·replace h := cond_t h hbv_2
  refine seq (region (step hF (Y.build (parts := []) (cs := #[iv 0, .slice none 0 0, .slice none 0 0, .slice none 0 0, iv 0, .map none]) hF rfl (by kernel_rfl)) rfl fun a hF => O.store (us := [iv 0, .slice none 0 0, .slice none 0 0, .slice none 0 0, iv 0, .map none]) 2 sz_83 hF rfl rfl rfl rfl hS rfl rfl fun a w hF hS => step hF (Y.assign hF rfl) rfl fun a hF => nT (ret_ (then_r ?_))))
  obtain rfl := some_inj h
  exact leaveS Tryd.results56 hF hS (.cons (.cellN 2 sz_83 rfl rfl rfl) (.cons (.tmp rfl) .nil)) .nil ⟨_, _, _, _, _, _, _, rfl, SRc.nil, SRc.nil, SRc.nil, MapS.nil⟩
 replace h := cond_f h hbv_2
 refine skip_ (then_n (seq (region (step hF (Y.loadNL 3 sz_83 hF rfl hS rfl rfl rfl) rfl fun a hF => O.store (us := [iv rv_1.BeatCellar.Hours, .slice p_3 rv_1.BeatCellar.Rates.length c_3, .slice p_4 rv_1.BeatCellar.Opens.length c_4, .slice p_5 rv_1.BeatCellar.Pairs.length c_5, iv rv_1.left, .map bm]) 2 sz_83 hF rfl rfl rfl rfl hS rfl rfl fun a w hF hS => step hF (Y.assign hF rfl) rfl fun a hF => nT (ret_ ?_)))))
 obtain rfl := some_inj h
 exact leaveS Tryd.results56 hF hS (.cons (.cellN 2 sz_83 rfl rfl rfl) (.cons (.tmp rfl) .nil)) .nil ⟨_, _, _, _, _, _, _, rfl, hs_3, hs_4, hs_5, hm⟩
noncomputable def beat_cellar_between (c : beat_cellar) (ofv : beat_spot) (over : beat_spot) : Option Span :=
  (beat_cellar_above c over).bind fun rv =>
  (beat_cellar_above c ofv).bind fun rv_1 =>
  if (0 : Int) ≤ ((mget kl_86 c.place over).getD 0) ∧ ((mget kl_86 c.place over).getD 0) < ((66 : Nat) : Int) then
  if (0 : Int) ≤ ((mget kl_86 c.place ofv).getD 0) ∧ ((mget kl_86 c.place ofv).getD 0) < ((66 : Nat) : Int) then
  some (Span.mk (wr (0 - (rv_1.1.getD (Int.toNat ((mget kl_86 c.place over).getD 0)) 0))) (rv.1.getD (Int.toNat ((mget kl_86 c.place ofv).getD 0)) 0))
  else none
  else none
theorem beat_cellar_between_ok {w0 : World} {D0 : Stab} (hD : D0.on w0) (c : beat_cellar) (ofv : beat_spot) (over : beat_spot) {p : Option Addr} {c_1 : Nat} {p_1 : Option Addr} {c_2 : Nat} {p_2 : Option Addr} {c_3 : Nat} {bm : Option Nat} (hs : SRc C_Span D0 c.BeatCellar.Rates p c_1) (hs_1 : SRc C_BeatOpen D0 c.BeatCellar.Opens p_1 c_2) (hs_2 : SRc C_BeatPair D0 c.BeatCellar.Pairs p_2 c_3) (hm : MapS kl_86 C_int false D0 c.place bm) (hG : Glob D0) (out : Span) (h : beat_cellar_between c ofv over = some out) : Calls Tryd.prog 58 [.agg #[iv c.BeatCellar.Hours, .slice p c.BeatCellar.Rates.length c_1, .slice p_1 c.BeatCellar.Opens.length c_2, .slice p_2 c.BeatCellar.Pairs.length c_3, iv c.left, .map bm], .agg #[iv ofv.clock, iv ofv.hour], .agg #[iv over.clock, iv over.hour]].toArray w0 (RetP D0 w0 (.agg #[iv out.Low, iv out.High])) := by
 refine enter _ 37 Tryd.func58 rfl Tryd.ntmps58 rfl fun a hF => ?_
 replace hF : Frm 37 [] [(0, .agg #[iv c.BeatCellar.Hours, .slice p c.BeatCellar.Rates.length c_1, .slice p_1 c.BeatCellar.Opens.length c_2, .slice p_2 c.BeatCellar.Pairs.length c_3, iv c.left, .map bm]), (1, .agg #[iv ofv.clock, iv ofv.hour]), (2, .agg #[iv over.clock, iv over.hour])] a := hF
 have hS := St.start hD
 unfold beat_cellar_between at h
 refine seq (region (O.box (cs := [iv c.BeatCellar.Hours, .slice p c.BeatCellar.Rates.length c_1, .slice p_1 c.BeatCellar.Opens.length c_2, .slice p_2 c.BeatCellar.Pairs.length c_3, iv c.left, .map bm]) 1 hF rfl rfl hS rfl fun b a w hF hS => O.box (cs := [iv ofv.clock, iv ofv.hour]) 2 hF rfl rfl hS rfl fun b_1 a w hF hS => O.box (cs := [iv over.clock, iv over.hour]) 3 hF rfl rfl hS rfl fun b_2 a w hF hS => O.alloc 4 zc_34 hF hS rfl fun b_3 a w hF hS => nT (seq (region (step hF (Y.loadNL 1 sz_83 hF rfl hS rfl rfl rfl) rfl fun a hF => step hF (Y.loadNL 3 sz_86 hF rfl hS rfl rfl rfl) rfl fun a hF => ?_)))))
 obtain ⟨rv, hx, h⟩ := bind_some h
 refine O.callS (us := [.agg #[iv c.BeatCellar.Hours, .slice p c.BeatCellar.Rates.length c_1, .slice p_1 c.BeatCellar.Opens.length c_2, .slice p_2 c.BeatCellar.Pairs.length c_3, iv c.left, .map bm], .agg #[iv over.clock, iv over.hour]]) ca_60 hF hS (beat_cellar_above_ok hS.stab c over hs hs_1 hs_2 hm hG rv hx) rfl rfl fun v Dv a w hR hlev hF hS => ?_
 replace hs := hs.mono hlev
 replace hs_1 := hs_1.mono hlev
 replace hs_2 := hs_2.mono hlev
 replace hm := hm.mono hlev
 replace hG := hG.mono hlev
 obtain ⟨rfl, hn⟩ := hR
 refine step hF (Y.move hF rfl) rfl fun a hF => step hF (Y.extract hF rfl rfl) rfl fun a hF => step hF (Y.extract hF rfl rfl) rfl fun a hF => O.alloc 5 zc_102 hF hS rfl fun b_4 a w hF hS => O.storeW (F := celI) 5 sz_102 List.length_replicate hn hF rfl rfl hS rfl fun a w hF hS => step hF (Y.assign hF rfl) rfl fun a hF => nT (seq (region (step hF (Y.loadNL 1 sz_83 hF rfl hS rfl rfl rfl) rfl fun a hF => step hF (Y.loadNL 2 sz_86 hF rfl hS rfl rfl rfl) rfl fun a hF => ?_)))
 obtain ⟨rv_1, hx_1, h⟩ := bind_some h
 refine O.callS (us := [.agg #[iv c.BeatCellar.Hours, .slice p c.BeatCellar.Rates.length c_1, .slice p_1 c.BeatCellar.Opens.length c_2, .slice p_2 c.BeatCellar.Pairs.length c_3, iv c.left, .map bm], .agg #[iv ofv.clock, iv ofv.hour]]) ca_60 hF hS (beat_cellar_above_ok hS.stab c ofv hs hs_1 hs_2 hm hG rv_1 hx_1) rfl rfl fun v_1 Dv_1 a w hR_1 hlev_1 hF hS => ?_
 replace hm := hm.mono hlev_1
 obtain ⟨rfl, hn_1⟩ := hR_1
 refine step hF (Y.move hF rfl) rfl fun a hF => step hF (Y.extract hF rfl rfl) rfl fun a hF => step hF (Y.extract hF rfl rfl) rfl fun a hF => O.alloc 6 zc_102 hF hS rfl fun b_5 a w hF hS => O.storeW (F := celI) 6 sz_102 List.length_replicate hn_1 hF rfl rfl hS rfl fun a w hF hS => step hF (Y.assign hF rfl) rfl fun a hF => nT (seq (draws 13 [(0, true), (1, true), (2, true), (3, true), (4, true), (5, true), (6, true), (7, true), (8, true), (9, true), (10, true), (11, true), (12, true)] mixed_ (by kernel_rfl) (fun w => St w0 D0 Dv_1 _ w) hS.drew (fun _ _ _ _ h => h) ?_))
 replace hS := hS.drew
 refine stepT (i := 0) rfl hF (fun w hS => Y.fieldAddr fo_83_2 hF rfl) rfl fun a hF => stepT (i := 1) rfl hF (fun w hS => Y.load1L 1 sz_81 hF rfl hS rfl rfl) rfl fun a hF => stepT (i := 2) rfl hF (fun w hS => Y.loadNL 3 sz_86 hF rfl hS rfl rfl rfl) rfl fun a hF => ?_
 obtain ⟨cc, hc, hY⟩ := Y.lookupS (kl := kl_86) (C := C_int) (agg := false) (xs := c.place) (x := (.tmp 24)) (y := (.tmp 25)) (z := [iv 0]) (z0 := (0 : Int)) false  mt_81 (fun _ => rfl) rfl over hm hF rfl rfl
 obtain rfl := hc
 refine stepT (i := 3) rfl hF (fun w hS => (show Yields _ _ _ _ (iv ((mget kl_86 c.place over).getD 0)) from hY hS.stab)) rfl fun a hF => ?_
 obtain ⟨hg, h⟩ := ite_some h
 refine stepT (i := 4) rfl hF (fun w hS => Y.indexArr u_102 sz_3 hF rfl rfl hg.1 hg.2) rfl fun a hF => stepT (i := 5) rfl hF (fun w hS => (show Yields _ _ _ _ (iv (rv_1.1.getD (Int.toNat ((mget kl_86 c.place over).getD 0)) 0)) from Y.load1A (F := celI) 6 0 sz_3 hn_1 hg hF rfl hS rfl)) rfl fun a hF => stepT (i := 6) rfl hF (fun w hS => Y.neg hF rfl) rfl fun a hF => stepT (i := 7) rfl hF (fun w hS => Y.fieldAddr fo_83_2 hF rfl) rfl fun a hF => stepT (i := 8) rfl hF (fun w hS => Y.load1L 1 sz_81 hF rfl hS rfl rfl) rfl fun a hF => stepT (i := 9) rfl hF (fun w hS => Y.loadNL 2 sz_86 hF rfl hS rfl rfl rfl) rfl fun a hF => ?_
 obtain ⟨cc_1, hc_1, hY_1⟩ := Y.lookupS (kl := kl_86) (C := C_int) (agg := false) (xs := c.place) (x := (.tmp 31)) (y := (.tmp 32)) (z := [iv 0]) (z0 := (0 : Int)) false  mt_81 (fun _ => rfl) rfl ofv hm hF rfl rfl
 obtain rfl := hc_1
 refine stepT (i := 10) rfl hF (fun w hS => (show Yields _ _ _ _ (iv ((mget kl_86 c.place ofv).getD 0)) from hY_1 hS.stab)) rfl fun a hF => ?_
 obtain ⟨hg_1, h⟩ := ite_some h
 refine stepT (i := 11) rfl hF (fun w hS => Y.indexArr u_102 sz_3 hF rfl rfl hg_1.1 hg_1.2) rfl fun a hF => stepT (i := 12) rfl hF (fun w hS => (show Yields _ _ _ _ (iv (rv.1.getD (Int.toNat ((mget kl_86 c.place ofv).getD 0)) 0)) from Y.load1A (F := celI) 5 0 sz_3 hn hg_1 hF rfl hS rfl)) rfl fun a hF => toTail (step hF (Y.build (parts := [(0, (.tmp 29)), (1, (.tmp 35))]) (cs := #[iv (wr (0 - (rv_1.1.getD (Int.toNat ((mget kl_86 c.place over).getD 0)) 0))), iv (rv.1.getD (Int.toNat ((mget kl_86 c.place ofv).getD 0)) 0)]) hF rfl (by kernel_rfl)) rfl fun a hF => O.store (us := [iv (wr (0 - (rv_1.1.getD (Int.toNat ((mget kl_86 c.place over).getD 0)) 0))), iv (rv.1.getD (Int.toNat ((mget kl_86 c.place ofv).getD 0)) 0)]) 4 sz_34 hF rfl rfl rfl rfl hS rfl rfl fun a w hF hS => nT (ret_ ?_))
 obtain rfl := some_inj h
 exact leaveP Tryd.results58 hF hS (.cons (.cellN 4 sz_34 rfl rfl rfl) .nil) .nil rfl
noncomputable def beat_Offset (xv : BeatCellar) (clock : Int) (hour : Int) : Option (Span × Int) :=
  (beat_isSpot xv clock hour).bind fun rv =>
  (beat_asked xv rv).bind fun rv_1 =>
  cond (rv_1.2 != 0)
  (some ((Span.mk 0 0), rv_1.2))
  ((beat_truth).bind fun rv_2 =>
  (beat_cellar_between rv_1.1 (beat_spot.mk clock hour) rv_2).bind fun rv_3 =>
  some (rv_3, 0))
theorem beat_Offset_ok {w0 : World} {D0 : Stab} (hD : D0.on w0) (xv : BeatCellar) (clock : Int) (hour : Int) {p : Option Addr} {c : Nat} {p_1 : Option Addr} {c_1 : Nat} {p_2 : Option Addr} {c_2 : Nat} (hs : SRc C_Span D0 xv.Rates p c) (hs_1 : SRc C_BeatOpen D0 xv.Opens p_1 c_1) (hs_2 : SRc C_BeatPair D0 xv.Pairs p_2 c_2) (hG : Glob D0) (out : (Span × Int)) (h : beat_Offset xv clock hour = some out) : Calls Tryd.prog 19 [.agg #[iv xv.Hours, .slice p xv.Rates.length c, .slice p_1 xv.Opens.length c_1, .slice p_2 xv.Pairs.length c_2], iv clock, iv hour].toArray w0 (RetP D0 w0 (.tuple #[.agg #[iv out.1.Low, iv out.1.High], iv out.2])) := by
 refine enter _ 29 Tryd.func19 rfl Tryd.ntmps19 rfl fun a hF => ?_
 replace hF : Frm 29 [] [(0, .agg #[iv xv.Hours, .slice p xv.Rates.length c, .slice p_1 xv.Opens.length c_1, .slice p_2 xv.Pairs.length c_2]), (1, iv clock), (2, iv hour)] a := hF
 have hS := St.start hD
 unfold beat_Offset at h
 refine seq (region (O.box (cs := [iv xv.Hours, .slice p xv.Rates.length c, .slice p_1 xv.Opens.length c_1, .slice p_2 xv.Pairs.length c_2]) 1 hF rfl rfl hS rfl fun b a w hF hS => O.alloc 2 zc_34 hF hS rfl fun b_1 a w hF hS => step hF (Y.assign hF rfl) rfl fun a hF => nT (seq ?_)))
 obtain ⟨rv, hx, h⟩ := bind_some h
 obtain ⟨rv_1, hx_1, h⟩ := bind_some h
 refine drawsV 11 (.flt 0 (.flt 1 (.flt 2 (.flt 3 (.alt 4 (.alt 5 (.flt 6 (.flt 7 (.flt 8 (.alt 9 (.alt 10 .done .stop) .stop)))) (.alt 9 (.alt 5 (.flt 6 (.flt 7 (.flt 8 (.alt 10 .done .stop)))) .stop) .stop)) (.alt 9 (.alt 4 (.alt 5 (.flt 6 (.flt 7 (.flt 8 (.alt 10 .done .stop)))) .stop) .stop) .stop)))))) mixed_ (by kernel_rfl) (fun w => St w0 D0 D0 [(1, .cells b [iv xv.Hours, .slice p xv.Rates.length c, .slice p_1 xv.Opens.length c_1, .slice p_2 xv.Pairs.length c_2] 26), (2, .cells b_1 [iv 0, iv 0] 34)] w) (fun a w => ∃ (Dv_1 : Stab) (b_2 : Nat) (p_3 : Option Addr) (c_3 : Nat) (p_4 : Option Addr) (c_4 : Nat) (p_5 : Option Addr) (c_5 : Nat) (bm : Option Nat), D0.le Dv_1 ∧ Frm 29 [] [(1, iv clock), (2, iv hour), (6, .pointer (some ⟨b_1, 0, none⟩)), (7, iv 0), (8, .pointer (some ⟨b_2, 0, none⟩)), (18, iv rv_1.2)] a ∧ St w0 D0 Dv_1 [(1, .cells b [iv xv.Hours, .slice p xv.Rates.length c, .slice p_1 xv.Opens.length c_1, .slice p_2 xv.Pairs.length c_2] 26), (2, .cells b_1 [iv 0, iv 0] 34), (3, .cells b_2 [iv rv_1.1.BeatCellar.Hours, .slice p_3 rv_1.1.BeatCellar.Rates.length c_3, .slice p_4 rv_1.1.BeatCellar.Opens.length c_4, .slice p_5 rv_1.1.BeatCellar.Pairs.length c_5, iv rv_1.1.left, .map bm] 83)] w ∧ SRc C_Span Dv_1 rv_1.1.BeatCellar.Rates p_3 c_3 ∧ SRc C_BeatOpen Dv_1 rv_1.1.BeatCellar.Opens p_4 c_4 ∧ SRc C_BeatPair Dv_1 rv_1.1.BeatCellar.Pairs p_5 c_5 ∧ MapS kl_86 C_int false Dv_1 rv_1.1.place bm) (hS.weak (ms := [(1, .cells b [iv xv.Hours, .slice p xv.Rates.length c, .slice p_1 xv.Opens.length c_1, .slice p_2 xv.Pairs.length c_2] 26), (2, .cells b_1 [iv 0, iv 0] 34)]) ⟨rfl, rfl, trivial⟩).drew (fun _ _ _ _ h => h) ?_ ?_
 ·replace hS := hS.drew
  have hle0 := hS.le
  refine stepV (i := 0) rfl hF (fun w hS => Y.loadNL 1 sz_26 hF rfl hS rfl rfl rfl) rfl fun a hF => stepV (i := 1) rfl hF (fun w hS => Y.loadNL 1 sz_26 hF rfl hS rfl rfl rfl) rfl fun a hF => stepV (i := 2) rfl hF (fun w hS => Y.move hF rfl) rfl fun a hF => stepV (i := 3) rfl hF (fun w hS => Y.move hF rfl) rfl fun a hF => oneV (i := 4) rfl ?_ ?_
  ·skip
   refine O.callP (us := [.agg #[iv xv.Hours, .slice p xv.Rates.length c, .slice p_1 xv.Opens.length c_1, .slice p_2 xv.Pairs.length c_2], iv clock, iv hour]) ca_57 hF hS (beat_isSpot_ok hS.stab xv clock hour hs hs_1 hs_2 rv hx) rfl rfl fun a w hF hS => nT ⟨hS.weak (ms := [(1, .cells b [iv xv.Hours, .slice p xv.Rates.length c, .slice p_1 xv.Opens.length c_1, .slice p_2 xv.Pairs.length c_2] 26), (2, .cells b_1 [iv 0, iv 0] 34)]) ⟨rfl, rfl, trivial⟩, ?_⟩
   refine oneV (i := 5) rfl ?_ ?_
   ·skip
    refine O.callS (us := [.agg #[iv xv.Hours, .slice p xv.Rates.length c, .slice p_1 xv.Opens.length c_1, .slice p_2 xv.Pairs.length c_2], .bool rv]) ca_56 hF hS (beat_asked_ok hS.stab xv rv hs hs_1 hs_2 hG rv_1 hx_1) rfl rfl fun v_1 Dv_2 a w hR_1 hlev_1 hF hS => ?_
    obtain ⟨p_6, c_6, p_7, c_7, p_8, c_8, bm_1, rfl, hs_6, hs_7, hs_8, hm_1⟩ := hR_1
    refine nT ⟨(hS.weak (ms := [(1, .cells b [iv xv.Hours, .slice p xv.Rates.length c, .slice p_1 xv.Opens.length c_1, .slice p_2 xv.Pairs.length c_2] 26), (2, .cells b_1 [iv 0, iv 0] 34)]) ⟨rfl, rfl, trivial⟩).weakD hlev_1 hle0, ?_⟩
    refine stepV (i := 6) rfl hF (fun w hS => Y.move hF rfl) rfl fun a hF => stepV (i := 7) rfl hF (fun w hS => Y.extract hF rfl rfl) rfl fun a hF => stepV (i := 8) rfl hF (fun w hS => Y.extract hF rfl rfl) rfl fun a hF => oneV (i := 9) rfl ?_ trivial
    refine O.alloc 3 zc_83 hF hS rfl fun b_3 a w hF hS => nT ⟨(hS.weak (ms := [(1, .cells b [iv xv.Hours, .slice p xv.Rates.length c, .slice p_1 xv.Opens.length c_1, .slice p_2 xv.Pairs.length c_2] 26), (2, .cells b_1 [iv 0, iv 0] 34)]) ⟨rfl, rfl, trivial⟩).weakD hlev_1 hle0, ?_⟩
    refine oneV (i := 10) rfl ?_ trivial
    refine O.store (us := [iv rv_1.1.BeatCellar.Hours, .slice p_6 rv_1.1.BeatCellar.Rates.length c_6, .slice p_7 rv_1.1.BeatCellar.Opens.length c_7, .slice p_8 rv_1.1.BeatCellar.Pairs.length c_8, iv rv_1.1.left, .map bm_1]) 3 sz_83 hF rfl rfl rfl rfl hS rfl rfl fun a w hF hS => nT ⟨(hS.weak (ms := [(1, .cells b [iv xv.Hours, .slice p xv.Rates.length c, .slice p_1 xv.Opens.length c_1, .slice p_2 xv.Pairs.length c_2] 26), (2, .cells b_1 [iv 0, iv 0] 34)]) ⟨rfl, rfl, trivial⟩).weakD hlev_1 hle0, ?_⟩
    exact toTailV ⟨Dv_2, b_3, p_6, c_6, p_7, c_7, p_8, c_8, bm_1, hlev_1, hF.weak (AF rfl), hS.weak (AL rfl), hs_6, hs_7, hs_8, hm_1⟩
   refine oneV (i := 9) rfl ?_ trivial
   refine O.alloc 3 zc_83 hF hS rfl fun b_4 a w hF hS => nT ⟨hS.weak (ms := [(1, .cells b [iv xv.Hours, .slice p xv.Rates.length c, .slice p_1 xv.Opens.length c_1, .slice p_2 xv.Pairs.length c_2] 26), (2, .cells b_1 [iv 0, iv 0] 34)]) ⟨rfl, rfl, trivial⟩, ?_⟩
   refine oneV (i := 5) rfl ?_ trivial
   refine O.callS (us := [.agg #[iv xv.Hours, .slice p xv.Rates.length c, .slice p_1 xv.Opens.length c_1, .slice p_2 xv.Pairs.length c_2], .bool rv]) ca_56 hF hS (beat_asked_ok hS.stab xv rv hs hs_1 hs_2 hG rv_1 hx_1) rfl rfl fun v_2 Dv_3 a w hR_2 hlev_2 hF hS => ?_
   obtain ⟨p_9, c_9, p_10, c_10, p_11, c_11, bm_2, rfl, hs_9, hs_10, hs_11, hm_2⟩ := hR_2
   refine nT ⟨(hS.weak (ms := [(1, .cells b [iv xv.Hours, .slice p xv.Rates.length c, .slice p_1 xv.Opens.length c_1, .slice p_2 xv.Pairs.length c_2] 26), (2, .cells b_1 [iv 0, iv 0] 34)]) ⟨rfl, rfl, trivial⟩).weakD hlev_2 hle0, ?_⟩
   refine stepV (i := 6) rfl hF (fun w hS => Y.move hF rfl) rfl fun a hF => stepV (i := 7) rfl hF (fun w hS => Y.extract hF rfl rfl) rfl fun a hF => stepV (i := 8) rfl hF (fun w hS => Y.extract hF rfl rfl) rfl fun a hF => oneV (i := 10) rfl ?_ trivial
   refine O.store (us := [iv rv_1.1.BeatCellar.Hours, .slice p_9 rv_1.1.BeatCellar.Rates.length c_9, .slice p_10 rv_1.1.BeatCellar.Opens.length c_10, .slice p_11 rv_1.1.BeatCellar.Pairs.length c_11, iv rv_1.1.left, .map bm_2]) 3 sz_83 hF rfl rfl rfl rfl hS rfl rfl fun a w hF hS => nT ⟨(hS.weak (ms := [(1, .cells b [iv xv.Hours, .slice p xv.Rates.length c, .slice p_1 xv.Opens.length c_1, .slice p_2 xv.Pairs.length c_2] 26), (2, .cells b_1 [iv 0, iv 0] 34)]) ⟨rfl, rfl, trivial⟩).weakD hlev_2 hle0, ?_⟩
   exact toTailV ⟨Dv_3, b_4, p_9, c_9, p_10, c_10, p_11, c_11, bm_2, hlev_2, hF.weak (AF rfl), hS.weak (AL rfl), hs_9, hs_10, hs_11, hm_2⟩
  refine oneV (i := 9) rfl ?_ trivial
  refine O.alloc 3 zc_83 hF hS rfl fun b_5 a w hF hS => nT ⟨hS.weak (ms := [(1, .cells b [iv xv.Hours, .slice p xv.Rates.length c, .slice p_1 xv.Opens.length c_1, .slice p_2 xv.Pairs.length c_2] 26), (2, .cells b_1 [iv 0, iv 0] 34)]) ⟨rfl, rfl, trivial⟩, ?_⟩
  refine oneV (i := 4) rfl ?_ trivial
  refine O.callP (us := [.agg #[iv xv.Hours, .slice p xv.Rates.length c, .slice p_1 xv.Opens.length c_1, .slice p_2 xv.Pairs.length c_2], iv clock, iv hour]) ca_57 hF hS (beat_isSpot_ok hS.stab xv clock hour hs hs_1 hs_2 rv hx) rfl rfl fun a w hF hS => nT ⟨hS.weak (ms := [(1, .cells b [iv xv.Hours, .slice p xv.Rates.length c, .slice p_1 xv.Opens.length c_1, .slice p_2 xv.Pairs.length c_2] 26), (2, .cells b_1 [iv 0, iv 0] 34)]) ⟨rfl, rfl, trivial⟩, ?_⟩
  refine oneV (i := 5) rfl ?_ trivial
  refine O.callS (us := [.agg #[iv xv.Hours, .slice p xv.Rates.length c, .slice p_1 xv.Opens.length c_1, .slice p_2 xv.Pairs.length c_2], .bool rv]) ca_56 hF hS (beat_asked_ok hS.stab xv rv hs hs_1 hs_2 hG rv_1 hx_1) rfl rfl fun v_3 Dv_4 a w hR_3 hlev_3 hF hS => ?_
  obtain ⟨p_12, c_12, p_13, c_13, p_14, c_14, bm_3, rfl, hs_12, hs_13, hs_14, hm_3⟩ := hR_3
  refine nT ⟨(hS.weak (ms := [(1, .cells b [iv xv.Hours, .slice p xv.Rates.length c, .slice p_1 xv.Opens.length c_1, .slice p_2 xv.Pairs.length c_2] 26), (2, .cells b_1 [iv 0, iv 0] 34)]) ⟨rfl, rfl, trivial⟩).weakD hlev_3 hle0, ?_⟩
  refine stepV (i := 6) rfl hF (fun w hS => Y.move hF rfl) rfl fun a hF => stepV (i := 7) rfl hF (fun w hS => Y.extract hF rfl rfl) rfl fun a hF => stepV (i := 8) rfl hF (fun w hS => Y.extract hF rfl rfl) rfl fun a hF => oneV (i := 10) rfl ?_ trivial
  refine O.store (us := [iv rv_1.1.BeatCellar.Hours, .slice p_12 rv_1.1.BeatCellar.Rates.length c_12, .slice p_13 rv_1.1.BeatCellar.Opens.length c_13, .slice p_14 rv_1.1.BeatCellar.Pairs.length c_14, iv rv_1.1.left, .map bm_3]) 3 sz_83 hF rfl rfl rfl rfl hS rfl rfl fun a w hF hS => nT ⟨(hS.weak (ms := [(1, .cells b [iv xv.Hours, .slice p xv.Rates.length c, .slice p_1 xv.Opens.length c_1, .slice p_2 xv.Pairs.length c_2] 26), (2, .cells b_1 [iv 0, iv 0] 34)]) ⟨rfl, rfl, trivial⟩).weakD hlev_3 hle0, ?_⟩
  exact toTailV ⟨Dv_4, b_5, p_12, c_12, p_13, c_13, p_14, c_14, bm_3, hlev_3, hF.weak (AF rfl), hS.weak (AL rfl), hs_12, hs_13, hs_14, hm_3⟩
 rintro a w ⟨Dv_1, b_2, p_3, c_3, p_4, c_4, p_5, c_5, bm, hle, hF, hS, hj, hj_1, hj_2, hj_3⟩
 have hlev_4 := hle
 replace hG := hG.mono hlev_4
 refine step hF (Y.assign hF rfl) rfl fun a hF => nT (seq (seq (region (step hF (Y.move hF rfl) rfl fun a hF => step hF (Y.neq hF rfl rfl) rfl fun a hF => nT (cond_b hF rfl (fun hbv => ?_) (fun hbv => ?_))))))
 ·replace h := cond_t h hbv
  refine seq (region (step hF (Y.build (parts := []) (cs := #[iv 0, iv 0]) hF rfl (by kernel_rfl)) rfl fun a hF => step hF (Y.move hF rfl) rfl fun a hF => O.store (us := [iv 0, iv 0]) 2 sz_34 hF rfl rfl rfl rfl hS rfl rfl fun a w hF hS => step hF (Y.assign hF rfl) rfl fun a hF => nT (ret_ (then_r ?_))))
  obtain rfl := some_inj h
  exact leaveP Tryd.results19 hF hS (.cons (.cellN 2 sz_34 rfl rfl rfl) (.cons (.tmp rfl) .nil)) .nil rfl
 replace h := cond_f h hbv
 refine skip_ (then_n (seq ?_))
 obtain ⟨rv_2, hx_2, h⟩ := bind_some h
 refine drawsV 5 (.flt 0 (.flt 1 (.flt 2 (.flt 3 (.alt 4 .done .stop))))) mixed_ (by kernel_rfl) (fun w => St w0 D0 Dv_1 [(1, .cells b [iv xv.Hours, .slice p xv.Rates.length c, .slice p_1 xv.Opens.length c_1, .slice p_2 xv.Pairs.length c_2] 26), (2, .cells b_1 [iv 0, iv 0] 34), (3, .cells b_2 [iv rv_1.1.BeatCellar.Hours, .slice p_3 rv_1.1.BeatCellar.Rates.length c_3, .slice p_4 rv_1.1.BeatCellar.Opens.length c_4, .slice p_5 rv_1.1.BeatCellar.Pairs.length c_5, iv rv_1.1.left, .map bm] 83)] w) (fun a w => Frm 29 [] [(6, .pointer (some ⟨b_1, 0, none⟩)), (7, iv 0), (23, .agg #[iv rv_1.1.BeatCellar.Hours, .slice p_3 rv_1.1.BeatCellar.Rates.length c_3, .slice p_4 rv_1.1.BeatCellar.Opens.length c_4, .slice p_5 rv_1.1.BeatCellar.Pairs.length c_5, iv rv_1.1.left, .map bm]), (26, .agg #[iv clock, iv hour]), (27, .agg #[iv rv_2.clock, iv rv_2.hour])] a ∧ St w0 D0 Dv_1 [(1, .cells b [iv xv.Hours, .slice p xv.Rates.length c, .slice p_1 xv.Opens.length c_1, .slice p_2 xv.Pairs.length c_2] 26), (2, .cells b_1 [iv 0, iv 0] 34), (3, .cells b_2 [iv rv_1.1.BeatCellar.Hours, .slice p_3 rv_1.1.BeatCellar.Rates.length c_3, .slice p_4 rv_1.1.BeatCellar.Opens.length c_4, .slice p_5 rv_1.1.BeatCellar.Pairs.length c_5, iv rv_1.1.left, .map bm] 83)] w) (hS.weak (ms := [(1, .cells b [iv xv.Hours, .slice p xv.Rates.length c, .slice p_1 xv.Opens.length c_1, .slice p_2 xv.Pairs.length c_2] 26), (2, .cells b_1 [iv 0, iv 0] 34), (3, .cells b_2 [iv rv_1.1.BeatCellar.Hours, .slice p_3 rv_1.1.BeatCellar.Rates.length c_3, .slice p_4 rv_1.1.BeatCellar.Opens.length c_4, .slice p_5 rv_1.1.BeatCellar.Pairs.length c_5, iv rv_1.1.left, .map bm] 83)]) (AL rfl)).drew (fun _ _ _ _ h => h) ?_ ?_
 ·replace hS := hS.drew
  have hle0 := hS.le
  refine stepV (i := 0) rfl hF (fun w hS => Y.loadNL 3 sz_83 hF rfl hS rfl rfl rfl) rfl fun a hF => stepV (i := 1) rfl hF (fun w hS => Y.move hF rfl) rfl fun a hF => stepV (i := 2) rfl hF (fun w hS => Y.move hF rfl) rfl fun a hF => stepV (i := 3) rfl hF (fun w hS => Y.build (parts := [(0, (.tmp 24)), (1, (.tmp 25))]) (cs := #[iv clock, iv hour]) hF rfl (by kernel_rfl)) rfl fun a hF => oneV (i := 4) rfl ?_ trivial
  refine O.callP (us := []) ca_51 hF hS (beat_truth_ok hS.stab rv_2 hx_2) rfl rfl fun a w hF hS => nT ⟨hS.weak (ms := [(1, .cells b [iv xv.Hours, .slice p xv.Rates.length c, .slice p_1 xv.Opens.length c_1, .slice p_2 xv.Pairs.length c_2] 26), (2, .cells b_1 [iv 0, iv 0] 34), (3, .cells b_2 [iv rv_1.1.BeatCellar.Hours, .slice p_3 rv_1.1.BeatCellar.Rates.length c_3, .slice p_4 rv_1.1.BeatCellar.Opens.length c_4, .slice p_5 rv_1.1.BeatCellar.Pairs.length c_5, iv rv_1.1.left, .map bm] 83)]) (AL rfl), ?_⟩
  exact toTailV ⟨hF.weak (AF rfl), hS.weak (AL rfl)⟩
 rintro a w ⟨hF, hS⟩
 obtain ⟨rv_3, hx_3, h⟩ := bind_some h
 refine O.callP (us := [.agg #[iv rv_1.1.BeatCellar.Hours, .slice p_3 rv_1.1.BeatCellar.Rates.length c_3, .slice p_4 rv_1.1.BeatCellar.Opens.length c_4, .slice p_5 rv_1.1.BeatCellar.Pairs.length c_5, iv rv_1.1.left, .map bm], .agg #[iv clock, iv hour], .agg #[iv rv_2.clock, iv rv_2.hour]]) ca_58 hF hS (beat_cellar_between_ok hS.stab rv_1.1 (beat_spot.mk clock hour) rv_2 hj hj_1 hj_2 hj_3 hG rv_3 hx_3) rfl rfl fun a w hF hS => O.store (us := [iv rv_3.Low, iv rv_3.High]) 2 sz_34 hF rfl rfl rfl rfl hS rfl rfl fun a w hF hS => step hF (Y.assign hF rfl) rfl fun a hF => nT (ret_ ?_)
 obtain rfl := some_inj h
 exact leaveP Tryd.results19 hF hS (.cons (.cellN 2 sz_34 rfl rfl rfl) (.cons (.tmp rfl) .nil)) .nil rfl
noncomputable def beat_Apart (xv : BeatCellar) (one : Int) (other : Int) (hour : Int) : Option (Span × Int) :=
  (beat_isSpot xv one hour).bind fun rv =>
  (cond rv ((beat_isSpot xv other hour).bind fun rv_1 =>
  some rv_1) (some false)).bind fun t =>
  (beat_asked xv t).bind fun rv_2 =>
  cond (rv_2.2 != 0)
  (some ((Span.mk 0 0), rv_2.2))
  ((beat_cellar_between rv_2.1 (beat_spot.mk one hour) (beat_spot.mk other hour)).bind fun rv_3 =>
  some (rv_3, 0))
theorem beat_Apart_ok {w0 : World} {D0 : Stab} (hD : D0.on w0) (xv : BeatCellar) (one : Int) (other : Int) (hour : Int) {p : Option Addr} {c : Nat} {p_1 : Option Addr} {c_1 : Nat} {p_2 : Option Addr} {c_2 : Nat} (hs : SRc C_Span D0 xv.Rates p c) (hs_1 : SRc C_BeatOpen D0 xv.Opens p_1 c_1) (hs_2 : SRc C_BeatPair D0 xv.Pairs p_2 c_2) (hG : Glob D0) (out : (Span × Int)) (h : beat_Apart xv one other hour = some out) : Calls Tryd.prog 22 [.agg #[iv xv.Hours, .slice p xv.Rates.length c, .slice p_1 xv.Opens.length c_1, .slice p_2 xv.Pairs.length c_2], iv one, iv other, iv hour].toArray w0 (RetP D0 w0 (.tuple #[.agg #[iv out.1.Low, iv out.1.High], iv out.2])) := by
 refine enter _ 39 Tryd.func22 rfl Tryd.ntmps22 rfl fun a hF => ?_
 replace hF : Frm 39 [] [(0, .agg #[iv xv.Hours, .slice p xv.Rates.length c, .slice p_1 xv.Opens.length c_1, .slice p_2 xv.Pairs.length c_2]), (1, iv one), (2, iv other), (3, iv hour)] a := hF
 have hS := St.start hD
 unfold beat_Apart at h
 refine seq (region (O.box (cs := [iv xv.Hours, .slice p xv.Rates.length c, .slice p_1 xv.Opens.length c_1, .slice p_2 xv.Pairs.length c_2]) 1 hF rfl rfl hS rfl fun b a w hF hS => O.alloc 2 zc_34 hF hS rfl fun b_1 a w hF hS => step hF (Y.assign hF rfl) rfl fun a hF => nT (seq ?_)))
 obtain ⟨rv, hx, h⟩ := bind_some h
 obtain ⟨t, ht, h⟩ := bind_some h
 obtain ⟨rv_2, hx_2, h⟩ := bind_some h
 refine drawsV 17 (.flt 0 (.flt 1 (.flt 2 (.flt 3 (.alt 4 (.flt 5 (.flt 6 (.flt 7 (.flt 8 (.alt 9 (.flt 10 (.alt 11 (.flt 12 (.flt 13 (.flt 14 (.alt 15 (.alt 16 .done .stop) .stop)))) (.alt 15 (.alt 11 (.flt 12 (.flt 13 (.flt 14 (.alt 16 .done .stop)))) .stop) .stop))) (.alt 15 (.alt 9 (.flt 10 (.alt 11 (.flt 12 (.flt 13 (.flt 14 (.alt 16 .done .stop)))) .stop)) .stop) .stop)))))) (.alt 15 (.alt 4 (.flt 5 (.flt 6 (.flt 7 (.flt 8 (.alt 9 (.flt 10 (.alt 11 (.flt 12 (.flt 13 (.flt 14 (.alt 16 .done .stop)))) .stop)) .stop))))) .stop) .stop)))))) mixed_ (by kernel_rfl) (fun w => St w0 D0 D0 [(1, .cells b [iv xv.Hours, .slice p xv.Rates.length c, .slice p_1 xv.Opens.length c_1, .slice p_2 xv.Pairs.length c_2] 26), (2, .cells b_1 [iv 0, iv 0] 34)] w) (fun a w => ∃ (Dv_1 : Stab) (b_2 : Nat) (p_3 : Option Addr) (c_3 : Nat) (p_4 : Option Addr) (c_4 : Nat) (p_5 : Option Addr) (c_5 : Nat) (bm : Option Nat), D0.le Dv_1 ∧ Frm 39 [] [(1, iv one), (2, iv other), (3, iv hour), (8, .pointer (some ⟨b_1, 0, none⟩)), (9, iv 0), (10, .pointer (some ⟨b_2, 0, none⟩)), (26, iv rv_2.2)] a ∧ St w0 D0 Dv_1 [(1, .cells b [iv xv.Hours, .slice p xv.Rates.length c, .slice p_1 xv.Opens.length c_1, .slice p_2 xv.Pairs.length c_2] 26), (2, .cells b_1 [iv 0, iv 0] 34), (3, .cells b_2 [iv rv_2.1.BeatCellar.Hours, .slice p_3 rv_2.1.BeatCellar.Rates.length c_3, .slice p_4 rv_2.1.BeatCellar.Opens.length c_4, .slice p_5 rv_2.1.BeatCellar.Pairs.length c_5, iv rv_2.1.left, .map bm] 83)] w ∧ SRc C_Span Dv_1 rv_2.1.BeatCellar.Rates p_3 c_3 ∧ SRc C_BeatOpen Dv_1 rv_2.1.BeatCellar.Opens p_4 c_4 ∧ SRc C_BeatPair Dv_1 rv_2.1.BeatCellar.Pairs p_5 c_5 ∧ MapS kl_86 C_int false Dv_1 rv_2.1.place bm) (hS.weak (ms := [(1, .cells b [iv xv.Hours, .slice p xv.Rates.length c, .slice p_1 xv.Opens.length c_1, .slice p_2 xv.Pairs.length c_2] 26), (2, .cells b_1 [iv 0, iv 0] 34)]) ⟨rfl, rfl, trivial⟩).drew (fun _ _ _ _ h => h) ?_ ?_
 ·replace hS := hS.drew
  have hle0 := hS.le
  rcases bcases rv with hbv | hbv
  ·skip
   replace ht := cond_t ht hbv
   obtain ⟨rv_1, hx_1, ht⟩ := bind_some ht
   obtain rfl := some_inj ht
   refine stepV (i := 0) rfl hF (fun w hS => Y.loadNL 1 sz_26 hF rfl hS rfl rfl rfl) rfl fun a hF => stepV (i := 1) rfl hF (fun w hS => Y.loadNL 1 sz_26 hF rfl hS rfl rfl rfl) rfl fun a hF => stepV (i := 2) rfl hF (fun w hS => Y.move hF rfl) rfl fun a hF => stepV (i := 3) rfl hF (fun w hS => Y.move hF rfl) rfl fun a hF => oneV (i := 4) rfl ?_ ?_
   ·skip
    refine O.callP (us := [.agg #[iv xv.Hours, .slice p xv.Rates.length c, .slice p_1 xv.Opens.length c_1, .slice p_2 xv.Pairs.length c_2], iv one, iv hour]) ca_57 hF hS (beat_isSpot_ok hS.stab xv one hour hs hs_1 hs_2 rv hx) rfl rfl fun a w hF hS => nT ⟨hS.weak (ms := [(1, .cells b [iv xv.Hours, .slice p xv.Rates.length c, .slice p_1 xv.Opens.length c_1, .slice p_2 xv.Pairs.length c_2] 26), (2, .cells b_1 [iv 0, iv 0] 34)]) ⟨rfl, rfl, trivial⟩, ?_⟩
    refine stepV (i := 5) rfl hF (fun w hS => Y.move hF rfl) rfl fun a hF => stepV_on (i := 6) rfl hF rfl rfl hbv (fun w hS => Y.loadNL 1 sz_26 hF rfl hS rfl rfl rfl) rfl fun a hF => stepV_on (i := 7) rfl hF rfl rfl hbv (fun w hS => Y.move hF rfl) rfl fun a hF => stepV_on (i := 8) rfl hF rfl rfl hbv (fun w hS => Y.move hF rfl) rfl fun a hF => oneV (i := 9) rfl ?_ ?_
    ·skip
     refine guard_on hF rfl rfl hbv (O.callP (us := [.agg #[iv xv.Hours, .slice p xv.Rates.length c, .slice p_1 xv.Opens.length c_1, .slice p_2 xv.Pairs.length c_2], iv other, iv hour]) ca_57 hF hS (beat_isSpot_ok hS.stab xv other hour hs hs_1 hs_2 rv_1 hx_1) rfl rfl fun a w hF hS => nT ⟨hS.weak (ms := [(1, .cells b [iv xv.Hours, .slice p xv.Rates.length c, .slice p_1 xv.Opens.length c_1, .slice p_2 xv.Pairs.length c_2] 26), (2, .cells b_1 [iv 0, iv 0] 34)]) ⟨rfl, rfl, trivial⟩, ?_⟩)
     refine stepV (i := 10) rfl hF (fun w hS => Y.pick_t hF rfl hbv rfl) rfl fun a hF => oneV (i := 11) rfl ?_ ?_
     ·skip
      refine O.callS (us := [.agg #[iv xv.Hours, .slice p xv.Rates.length c, .slice p_1 xv.Opens.length c_1, .slice p_2 xv.Pairs.length c_2], .bool rv_1]) ca_56 hF hS (beat_asked_ok hS.stab xv rv_1 hs hs_1 hs_2 hG rv_2 hx_2) rfl rfl fun v_1 Dv_2 a w hR_1 hlev_1 hF hS => ?_
      obtain ⟨p_6, c_6, p_7, c_7, p_8, c_8, bm_1, rfl, hs_6, hs_7, hs_8, hm_1⟩ := hR_1
      refine nT ⟨(hS.weak (ms := [(1, .cells b [iv xv.Hours, .slice p xv.Rates.length c, .slice p_1 xv.Opens.length c_1, .slice p_2 xv.Pairs.length c_2] 26), (2, .cells b_1 [iv 0, iv 0] 34)]) ⟨rfl, rfl, trivial⟩).weakD hlev_1 hle0, ?_⟩
      refine stepV (i := 12) rfl hF (fun w hS => Y.move hF rfl) rfl fun a hF => stepV (i := 13) rfl hF (fun w hS => Y.extract hF rfl rfl) rfl fun a hF => stepV (i := 14) rfl hF (fun w hS => Y.extract hF rfl rfl) rfl fun a hF => oneV (i := 15) rfl ?_ trivial
      refine O.alloc 3 zc_83 hF hS rfl fun b_3 a w hF hS => nT ⟨(hS.weak (ms := [(1, .cells b [iv xv.Hours, .slice p xv.Rates.length c, .slice p_1 xv.Opens.length c_1, .slice p_2 xv.Pairs.length c_2] 26), (2, .cells b_1 [iv 0, iv 0] 34)]) ⟨rfl, rfl, trivial⟩).weakD hlev_1 hle0, ?_⟩
      refine oneV (i := 16) rfl ?_ trivial
      refine O.store (us := [iv rv_2.1.BeatCellar.Hours, .slice p_6 rv_2.1.BeatCellar.Rates.length c_6, .slice p_7 rv_2.1.BeatCellar.Opens.length c_7, .slice p_8 rv_2.1.BeatCellar.Pairs.length c_8, iv rv_2.1.left, .map bm_1]) 3 sz_83 hF rfl rfl rfl rfl hS rfl rfl fun a w hF hS => nT ⟨(hS.weak (ms := [(1, .cells b [iv xv.Hours, .slice p xv.Rates.length c, .slice p_1 xv.Opens.length c_1, .slice p_2 xv.Pairs.length c_2] 26), (2, .cells b_1 [iv 0, iv 0] 34)]) ⟨rfl, rfl, trivial⟩).weakD hlev_1 hle0, ?_⟩
      exact toTailV ⟨Dv_2, b_3, p_6, c_6, p_7, c_7, p_8, c_8, bm_1, hlev_1, hF.weak (AF rfl), hS.weak (AL rfl), hs_6, hs_7, hs_8, hm_1⟩
     refine oneV (i := 15) rfl ?_ trivial
     refine O.alloc 3 zc_83 hF hS rfl fun b_4 a w hF hS => nT ⟨hS.weak (ms := [(1, .cells b [iv xv.Hours, .slice p xv.Rates.length c, .slice p_1 xv.Opens.length c_1, .slice p_2 xv.Pairs.length c_2] 26), (2, .cells b_1 [iv 0, iv 0] 34)]) ⟨rfl, rfl, trivial⟩, ?_⟩
     refine oneV (i := 11) rfl ?_ trivial
     refine O.callS (us := [.agg #[iv xv.Hours, .slice p xv.Rates.length c, .slice p_1 xv.Opens.length c_1, .slice p_2 xv.Pairs.length c_2], .bool rv_1]) ca_56 hF hS (beat_asked_ok hS.stab xv rv_1 hs hs_1 hs_2 hG rv_2 hx_2) rfl rfl fun v_2 Dv_3 a w hR_2 hlev_2 hF hS => ?_
     obtain ⟨p_9, c_9, p_10, c_10, p_11, c_11, bm_2, rfl, hs_9, hs_10, hs_11, hm_2⟩ := hR_2
     refine nT ⟨(hS.weak (ms := [(1, .cells b [iv xv.Hours, .slice p xv.Rates.length c, .slice p_1 xv.Opens.length c_1, .slice p_2 xv.Pairs.length c_2] 26), (2, .cells b_1 [iv 0, iv 0] 34)]) ⟨rfl, rfl, trivial⟩).weakD hlev_2 hle0, ?_⟩
     refine stepV (i := 12) rfl hF (fun w hS => Y.move hF rfl) rfl fun a hF => stepV (i := 13) rfl hF (fun w hS => Y.extract hF rfl rfl) rfl fun a hF => stepV (i := 14) rfl hF (fun w hS => Y.extract hF rfl rfl) rfl fun a hF => oneV (i := 16) rfl ?_ trivial
     refine O.store (us := [iv rv_2.1.BeatCellar.Hours, .slice p_9 rv_2.1.BeatCellar.Rates.length c_9, .slice p_10 rv_2.1.BeatCellar.Opens.length c_10, .slice p_11 rv_2.1.BeatCellar.Pairs.length c_11, iv rv_2.1.left, .map bm_2]) 3 sz_83 hF rfl rfl rfl rfl hS rfl rfl fun a w hF hS => nT ⟨(hS.weak (ms := [(1, .cells b [iv xv.Hours, .slice p xv.Rates.length c, .slice p_1 xv.Opens.length c_1, .slice p_2 xv.Pairs.length c_2] 26), (2, .cells b_1 [iv 0, iv 0] 34)]) ⟨rfl, rfl, trivial⟩).weakD hlev_2 hle0, ?_⟩
     exact toTailV ⟨Dv_3, b_4, p_9, c_9, p_10, c_10, p_11, c_11, bm_2, hlev_2, hF.weak (AF rfl), hS.weak (AL rfl), hs_9, hs_10, hs_11, hm_2⟩
    refine oneV (i := 15) rfl ?_ trivial
    refine O.alloc 3 zc_83 hF hS rfl fun b_5 a w hF hS => nT ⟨hS.weak (ms := [(1, .cells b [iv xv.Hours, .slice p xv.Rates.length c, .slice p_1 xv.Opens.length c_1, .slice p_2 xv.Pairs.length c_2] 26), (2, .cells b_1 [iv 0, iv 0] 34)]) ⟨rfl, rfl, trivial⟩, ?_⟩
    refine oneV (i := 9) rfl ?_ trivial
    refine guard_on hF rfl rfl hbv (O.callP (us := [.agg #[iv xv.Hours, .slice p xv.Rates.length c, .slice p_1 xv.Opens.length c_1, .slice p_2 xv.Pairs.length c_2], iv other, iv hour]) ca_57 hF hS (beat_isSpot_ok hS.stab xv other hour hs hs_1 hs_2 rv_1 hx_1) rfl rfl fun a w hF hS => nT ⟨hS.weak (ms := [(1, .cells b [iv xv.Hours, .slice p xv.Rates.length c, .slice p_1 xv.Opens.length c_1, .slice p_2 xv.Pairs.length c_2] 26), (2, .cells b_1 [iv 0, iv 0] 34)]) ⟨rfl, rfl, trivial⟩, ?_⟩)
    refine stepV (i := 10) rfl hF (fun w hS => Y.pick_t hF rfl hbv rfl) rfl fun a hF => oneV (i := 11) rfl ?_ trivial
    refine O.callS (us := [.agg #[iv xv.Hours, .slice p xv.Rates.length c, .slice p_1 xv.Opens.length c_1, .slice p_2 xv.Pairs.length c_2], .bool rv_1]) ca_56 hF hS (beat_asked_ok hS.stab xv rv_1 hs hs_1 hs_2 hG rv_2 hx_2) rfl rfl fun v_3 Dv_4 a w hR_3 hlev_3 hF hS => ?_
    obtain ⟨p_12, c_12, p_13, c_13, p_14, c_14, bm_3, rfl, hs_12, hs_13, hs_14, hm_3⟩ := hR_3
    refine nT ⟨(hS.weak (ms := [(1, .cells b [iv xv.Hours, .slice p xv.Rates.length c, .slice p_1 xv.Opens.length c_1, .slice p_2 xv.Pairs.length c_2] 26), (2, .cells b_1 [iv 0, iv 0] 34)]) ⟨rfl, rfl, trivial⟩).weakD hlev_3 hle0, ?_⟩
    refine stepV (i := 12) rfl hF (fun w hS => Y.move hF rfl) rfl fun a hF => stepV (i := 13) rfl hF (fun w hS => Y.extract hF rfl rfl) rfl fun a hF => stepV (i := 14) rfl hF (fun w hS => Y.extract hF rfl rfl) rfl fun a hF => oneV (i := 16) rfl ?_ trivial
    refine O.store (us := [iv rv_2.1.BeatCellar.Hours, .slice p_12 rv_2.1.BeatCellar.Rates.length c_12, .slice p_13 rv_2.1.BeatCellar.Opens.length c_13, .slice p_14 rv_2.1.BeatCellar.Pairs.length c_14, iv rv_2.1.left, .map bm_3]) 3 sz_83 hF rfl rfl rfl rfl hS rfl rfl fun a w hF hS => nT ⟨(hS.weak (ms := [(1, .cells b [iv xv.Hours, .slice p xv.Rates.length c, .slice p_1 xv.Opens.length c_1, .slice p_2 xv.Pairs.length c_2] 26), (2, .cells b_1 [iv 0, iv 0] 34)]) ⟨rfl, rfl, trivial⟩).weakD hlev_3 hle0, ?_⟩
    exact toTailV ⟨Dv_4, b_5, p_12, c_12, p_13, c_13, p_14, c_14, bm_3, hlev_3, hF.weak (AF rfl), hS.weak (AL rfl), hs_12, hs_13, hs_14, hm_3⟩
   refine oneV (i := 15) rfl ?_ trivial
   refine O.alloc 3 zc_83 hF hS rfl fun b_6 a w hF hS => nT ⟨hS.weak (ms := [(1, .cells b [iv xv.Hours, .slice p xv.Rates.length c, .slice p_1 xv.Opens.length c_1, .slice p_2 xv.Pairs.length c_2] 26), (2, .cells b_1 [iv 0, iv 0] 34)]) ⟨rfl, rfl, trivial⟩, ?_⟩
   refine oneV (i := 4) rfl ?_ trivial
   refine O.callP (us := [.agg #[iv xv.Hours, .slice p xv.Rates.length c, .slice p_1 xv.Opens.length c_1, .slice p_2 xv.Pairs.length c_2], iv one, iv hour]) ca_57 hF hS (beat_isSpot_ok hS.stab xv one hour hs hs_1 hs_2 rv hx) rfl rfl fun a w hF hS => nT ⟨hS.weak (ms := [(1, .cells b [iv xv.Hours, .slice p xv.Rates.length c, .slice p_1 xv.Opens.length c_1, .slice p_2 xv.Pairs.length c_2] 26), (2, .cells b_1 [iv 0, iv 0] 34)]) ⟨rfl, rfl, trivial⟩, ?_⟩
   refine stepV (i := 5) rfl hF (fun w hS => Y.move hF rfl) rfl fun a hF => stepV_on (i := 6) rfl hF rfl rfl hbv (fun w hS => Y.loadNL 1 sz_26 hF rfl hS rfl rfl rfl) rfl fun a hF => stepV_on (i := 7) rfl hF rfl rfl hbv (fun w hS => Y.move hF rfl) rfl fun a hF => stepV_on (i := 8) rfl hF rfl rfl hbv (fun w hS => Y.move hF rfl) rfl fun a hF => oneV (i := 9) rfl ?_ trivial
   refine guard_on hF rfl rfl hbv (O.callP (us := [.agg #[iv xv.Hours, .slice p xv.Rates.length c, .slice p_1 xv.Opens.length c_1, .slice p_2 xv.Pairs.length c_2], iv other, iv hour]) ca_57 hF hS (beat_isSpot_ok hS.stab xv other hour hs hs_1 hs_2 rv_1 hx_1) rfl rfl fun a w hF hS => nT ⟨hS.weak (ms := [(1, .cells b [iv xv.Hours, .slice p xv.Rates.length c, .slice p_1 xv.Opens.length c_1, .slice p_2 xv.Pairs.length c_2] 26), (2, .cells b_1 [iv 0, iv 0] 34)]) ⟨rfl, rfl, trivial⟩, ?_⟩)
   refine stepV (i := 10) rfl hF (fun w hS => Y.pick_t hF rfl hbv rfl) rfl fun a hF => oneV (i := 11) rfl ?_ trivial
   refine O.callS (us := [.agg #[iv xv.Hours, .slice p xv.Rates.length c, .slice p_1 xv.Opens.length c_1, .slice p_2 xv.Pairs.length c_2], .bool rv_1]) ca_56 hF hS (beat_asked_ok hS.stab xv rv_1 hs hs_1 hs_2 hG rv_2 hx_2) rfl rfl fun v_4 Dv_5 a w hR_4 hlev_4 hF hS => ?_
   obtain ⟨p_15, c_15, p_16, c_16, p_17, c_17, bm_4, rfl, hs_15, hs_16, hs_17, hm_4⟩ := hR_4
   refine nT ⟨(hS.weak (ms := [(1, .cells b [iv xv.Hours, .slice p xv.Rates.length c, .slice p_1 xv.Opens.length c_1, .slice p_2 xv.Pairs.length c_2] 26), (2, .cells b_1 [iv 0, iv 0] 34)]) ⟨rfl, rfl, trivial⟩).weakD hlev_4 hle0, ?_⟩
   refine stepV (i := 12) rfl hF (fun w hS => Y.move hF rfl) rfl fun a hF => stepV (i := 13) rfl hF (fun w hS => Y.extract hF rfl rfl) rfl fun a hF => stepV (i := 14) rfl hF (fun w hS => Y.extract hF rfl rfl) rfl fun a hF => oneV (i := 16) rfl ?_ trivial
   refine O.store (us := [iv rv_2.1.BeatCellar.Hours, .slice p_15 rv_2.1.BeatCellar.Rates.length c_15, .slice p_16 rv_2.1.BeatCellar.Opens.length c_16, .slice p_17 rv_2.1.BeatCellar.Pairs.length c_17, iv rv_2.1.left, .map bm_4]) 3 sz_83 hF rfl rfl rfl rfl hS rfl rfl fun a w hF hS => nT ⟨(hS.weak (ms := [(1, .cells b [iv xv.Hours, .slice p xv.Rates.length c, .slice p_1 xv.Opens.length c_1, .slice p_2 xv.Pairs.length c_2] 26), (2, .cells b_1 [iv 0, iv 0] 34)]) ⟨rfl, rfl, trivial⟩).weakD hlev_4 hle0, ?_⟩
   exact toTailV ⟨Dv_5, b_6, p_15, c_15, p_16, c_16, p_17, c_17, bm_4, hlev_4, hF.weak (AF rfl), hS.weak (AL rfl), hs_15, hs_16, hs_17, hm_4⟩
  replace ht := cond_f ht hbv
  obtain rfl := some_inj ht
  refine stepV (i := 0) rfl hF (fun w hS => Y.loadNL 1 sz_26 hF rfl hS rfl rfl rfl) rfl fun a hF => stepV (i := 1) rfl hF (fun w hS => Y.loadNL 1 sz_26 hF rfl hS rfl rfl rfl) rfl fun a hF => stepV (i := 2) rfl hF (fun w hS => Y.move hF rfl) rfl fun a hF => stepV (i := 3) rfl hF (fun w hS => Y.move hF rfl) rfl fun a hF => oneV (i := 4) rfl ?_ ?_
  ·skip
   refine O.callP (us := [.agg #[iv xv.Hours, .slice p xv.Rates.length c, .slice p_1 xv.Opens.length c_1, .slice p_2 xv.Pairs.length c_2], iv one, iv hour]) ca_57 hF hS (beat_isSpot_ok hS.stab xv one hour hs hs_1 hs_2 rv hx) rfl rfl fun a w hF hS => nT ⟨hS.weak (ms := [(1, .cells b [iv xv.Hours, .slice p xv.Rates.length c, .slice p_1 xv.Opens.length c_1, .slice p_2 xv.Pairs.length c_2] 26), (2, .cells b_1 [iv 0, iv 0] 34)]) ⟨rfl, rfl, trivial⟩, ?_⟩
   refine stepV (i := 5) rfl hF (fun w hS => Y.move hF rfl) rfl fun a hF => stepV_off (i := 6) rfl hF rfl rfl hbv rfl fun a hF => stepV_off (i := 7) rfl hF rfl rfl hbv rfl fun a hF => stepV_off (i := 8) rfl hF rfl rfl hbv rfl fun a hF => oneV (i := 9) rfl ?_ ?_
   ·skip
    refine guard_off hF rfl rfl hbv rfl fun a hF => nT ⟨hS.weak (ms := [(1, .cells b [iv xv.Hours, .slice p xv.Rates.length c, .slice p_1 xv.Opens.length c_1, .slice p_2 xv.Pairs.length c_2] 26), (2, .cells b_1 [iv 0, iv 0] 34)]) ⟨rfl, rfl, trivial⟩, ?_⟩
    refine stepV (i := 10) rfl hF (fun w hS => Y.pick_f hF rfl hbv rfl) rfl fun a hF => oneV (i := 11) rfl ?_ ?_
    ·skip
     refine O.callS (us := [.agg #[iv xv.Hours, .slice p xv.Rates.length c, .slice p_1 xv.Opens.length c_1, .slice p_2 xv.Pairs.length c_2], .bool false]) ca_56 hF hS (beat_asked_ok hS.stab xv false hs hs_1 hs_2 hG rv_2 hx_2) rfl rfl fun v_5 Dv_6 a w hR_5 hlev_5 hF hS => ?_
     obtain ⟨p_18, c_18, p_19, c_19, p_20, c_20, bm_5, rfl, hs_18, hs_19, hs_20, hm_5⟩ := hR_5
     refine nT ⟨(hS.weak (ms := [(1, .cells b [iv xv.Hours, .slice p xv.Rates.length c, .slice p_1 xv.Opens.length c_1, .slice p_2 xv.Pairs.length c_2] 26), (2, .cells b_1 [iv 0, iv 0] 34)]) ⟨rfl, rfl, trivial⟩).weakD hlev_5 hle0, ?_⟩
     refine stepV (i := 12) rfl hF (fun w hS => Y.move hF rfl) rfl fun a hF => stepV (i := 13) rfl hF (fun w hS => Y.extract hF rfl rfl) rfl fun a hF => stepV (i := 14) rfl hF (fun w hS => Y.extract hF rfl rfl) rfl fun a hF => oneV (i := 15) rfl ?_ trivial
     refine O.alloc 3 zc_83 hF hS rfl fun b_7 a w hF hS => nT ⟨(hS.weak (ms := [(1, .cells b [iv xv.Hours, .slice p xv.Rates.length c, .slice p_1 xv.Opens.length c_1, .slice p_2 xv.Pairs.length c_2] 26), (2, .cells b_1 [iv 0, iv 0] 34)]) ⟨rfl, rfl, trivial⟩).weakD hlev_5 hle0, ?_⟩
     refine oneV (i := 16) rfl ?_ trivial
     refine O.store (us := [iv rv_2.1.BeatCellar.Hours, .slice p_18 rv_2.1.BeatCellar.Rates.length c_18, .slice p_19 rv_2.1.BeatCellar.Opens.length c_19, .slice p_20 rv_2.1.BeatCellar.Pairs.length c_20, iv rv_2.1.left, .map bm_5]) 3 sz_83 hF rfl rfl rfl rfl hS rfl rfl fun a w hF hS => nT ⟨(hS.weak (ms := [(1, .cells b [iv xv.Hours, .slice p xv.Rates.length c, .slice p_1 xv.Opens.length c_1, .slice p_2 xv.Pairs.length c_2] 26), (2, .cells b_1 [iv 0, iv 0] 34)]) ⟨rfl, rfl, trivial⟩).weakD hlev_5 hle0, ?_⟩
     exact toTailV ⟨Dv_6, b_7, p_18, c_18, p_19, c_19, p_20, c_20, bm_5, hlev_5, hF.weak (AF rfl), hS.weak (AL rfl), hs_18, hs_19, hs_20, hm_5⟩
    refine oneV (i := 15) rfl ?_ trivial
    refine O.alloc 3 zc_83 hF hS rfl fun b_8 a w hF hS => nT ⟨hS.weak (ms := [(1, .cells b [iv xv.Hours, .slice p xv.Rates.length c, .slice p_1 xv.Opens.length c_1, .slice p_2 xv.Pairs.length c_2] 26), (2, .cells b_1 [iv 0, iv 0] 34)]) ⟨rfl, rfl, trivial⟩, ?_⟩
    refine oneV (i := 11) rfl ?_ trivial
    refine O.callS (us := [.agg #[iv xv.Hours, .slice p xv.Rates.length c, .slice p_1 xv.Opens.length c_1, .slice p_2 xv.Pairs.length c_2], .bool false]) ca_56 hF hS (beat_asked_ok hS.stab xv false hs hs_1 hs_2 hG rv_2 hx_2) rfl rfl fun v_6 Dv_7 a w hR_6 hlev_6 hF hS => ?_
    obtain ⟨p_21, c_21, p_22, c_22, p_23, c_23, bm_6, rfl, hs_21, hs_22, hs_23, hm_6⟩ := hR_6
    refine nT ⟨(hS.weak (ms := [(1, .cells b [iv xv.Hours, .slice p xv.Rates.length c, .slice p_1 xv.Opens.length c_1, .slice p_2 xv.Pairs.length c_2] 26), (2, .cells b_1 [iv 0, iv 0] 34)]) ⟨rfl, rfl, trivial⟩).weakD hlev_6 hle0, ?_⟩
    refine stepV (i := 12) rfl hF (fun w hS => Y.move hF rfl) rfl fun a hF => stepV (i := 13) rfl hF (fun w hS => Y.extract hF rfl rfl) rfl fun a hF => stepV (i := 14) rfl hF (fun w hS => Y.extract hF rfl rfl) rfl fun a hF => oneV (i := 16) rfl ?_ trivial
    refine O.store (us := [iv rv_2.1.BeatCellar.Hours, .slice p_21 rv_2.1.BeatCellar.Rates.length c_21, .slice p_22 rv_2.1.BeatCellar.Opens.length c_22, .slice p_23 rv_2.1.BeatCellar.Pairs.length c_23, iv rv_2.1.left, .map bm_6]) 3 sz_83 hF rfl rfl rfl rfl hS rfl rfl fun a w hF hS => nT ⟨(hS.weak (ms := [(1, .cells b [iv xv.Hours, .slice p xv.Rates.length c, .slice p_1 xv.Opens.length c_1, .slice p_2 xv.Pairs.length c_2] 26), (2, .cells b_1 [iv 0, iv 0] 34)]) ⟨rfl, rfl, trivial⟩).weakD hlev_6 hle0, ?_⟩
    exact toTailV ⟨Dv_7, b_8, p_21, c_21, p_22, c_22, p_23, c_23, bm_6, hlev_6, hF.weak (AF rfl), hS.weak (AL rfl), hs_21, hs_22, hs_23, hm_6⟩
   refine oneV (i := 15) rfl ?_ trivial
   refine O.alloc 3 zc_83 hF hS rfl fun b_9 a w hF hS => nT ⟨hS.weak (ms := [(1, .cells b [iv xv.Hours, .slice p xv.Rates.length c, .slice p_1 xv.Opens.length c_1, .slice p_2 xv.Pairs.length c_2] 26), (2, .cells b_1 [iv 0, iv 0] 34)]) ⟨rfl, rfl, trivial⟩, ?_⟩
   refine oneV (i := 9) rfl ?_ trivial
   refine guard_off hF rfl rfl hbv rfl fun a hF => nT ⟨hS.weak (ms := [(1, .cells b [iv xv.Hours, .slice p xv.Rates.length c, .slice p_1 xv.Opens.length c_1, .slice p_2 xv.Pairs.length c_2] 26), (2, .cells b_1 [iv 0, iv 0] 34)]) ⟨rfl, rfl, trivial⟩, ?_⟩
   refine stepV (i := 10) rfl hF (fun w hS => Y.pick_f hF rfl hbv rfl) rfl fun a hF => oneV (i := 11) rfl ?_ trivial
   refine O.callS (us := [.agg #[iv xv.Hours, .slice p xv.Rates.length c, .slice p_1 xv.Opens.length c_1, .slice p_2 xv.Pairs.length c_2], .bool false]) ca_56 hF hS (beat_asked_ok hS.stab xv false hs hs_1 hs_2 hG rv_2 hx_2) rfl rfl fun v_7 Dv_8 a w hR_7 hlev_7 hF hS => ?_
   obtain ⟨p_24, c_24, p_25, c_25, p_26, c_26, bm_7, rfl, hs_24, hs_25, hs_26, hm_7⟩ := hR_7
   refine nT ⟨(hS.weak (ms := [(1, .cells b [iv xv.Hours, .slice p xv.Rates.length c, .slice p_1 xv.Opens.length c_1, .slice p_2 xv.Pairs.length c_2] 26), (2, .cells b_1 [iv 0, iv 0] 34)]) ⟨rfl, rfl, trivial⟩).weakD hlev_7 hle0, ?_⟩
   refine stepV (i := 12) rfl hF (fun w hS => Y.move hF rfl) rfl fun a hF => stepV (i := 13) rfl hF (fun w hS => Y.extract hF rfl rfl) rfl fun a hF => stepV (i := 14) rfl hF (fun w hS => Y.extract hF rfl rfl) rfl fun a hF => oneV (i := 16) rfl ?_ trivial
   refine O.store (us := [iv rv_2.1.BeatCellar.Hours, .slice p_24 rv_2.1.BeatCellar.Rates.length c_24, .slice p_25 rv_2.1.BeatCellar.Opens.length c_25, .slice p_26 rv_2.1.BeatCellar.Pairs.length c_26, iv rv_2.1.left, .map bm_7]) 3 sz_83 hF rfl rfl rfl rfl hS rfl rfl fun a w hF hS => nT ⟨(hS.weak (ms := [(1, .cells b [iv xv.Hours, .slice p xv.Rates.length c, .slice p_1 xv.Opens.length c_1, .slice p_2 xv.Pairs.length c_2] 26), (2, .cells b_1 [iv 0, iv 0] 34)]) ⟨rfl, rfl, trivial⟩).weakD hlev_7 hle0, ?_⟩
   exact toTailV ⟨Dv_8, b_9, p_24, c_24, p_25, c_25, p_26, c_26, bm_7, hlev_7, hF.weak (AF rfl), hS.weak (AL rfl), hs_24, hs_25, hs_26, hm_7⟩
  refine oneV (i := 15) rfl ?_ trivial
  refine O.alloc 3 zc_83 hF hS rfl fun b_10 a w hF hS => nT ⟨hS.weak (ms := [(1, .cells b [iv xv.Hours, .slice p xv.Rates.length c, .slice p_1 xv.Opens.length c_1, .slice p_2 xv.Pairs.length c_2] 26), (2, .cells b_1 [iv 0, iv 0] 34)]) ⟨rfl, rfl, trivial⟩, ?_⟩
  refine oneV (i := 4) rfl ?_ trivial
  refine O.callP (us := [.agg #[iv xv.Hours, .slice p xv.Rates.length c, .slice p_1 xv.Opens.length c_1, .slice p_2 xv.Pairs.length c_2], iv one, iv hour]) ca_57 hF hS (beat_isSpot_ok hS.stab xv one hour hs hs_1 hs_2 rv hx) rfl rfl fun a w hF hS => nT ⟨hS.weak (ms := [(1, .cells b [iv xv.Hours, .slice p xv.Rates.length c, .slice p_1 xv.Opens.length c_1, .slice p_2 xv.Pairs.length c_2] 26), (2, .cells b_1 [iv 0, iv 0] 34)]) ⟨rfl, rfl, trivial⟩, ?_⟩
  refine stepV (i := 5) rfl hF (fun w hS => Y.move hF rfl) rfl fun a hF => stepV_off (i := 6) rfl hF rfl rfl hbv rfl fun a hF => stepV_off (i := 7) rfl hF rfl rfl hbv rfl fun a hF => stepV_off (i := 8) rfl hF rfl rfl hbv rfl fun a hF => oneV (i := 9) rfl ?_ trivial
  refine guard_off hF rfl rfl hbv rfl fun a hF => nT ⟨hS.weak (ms := [(1, .cells b [iv xv.Hours, .slice p xv.Rates.length c, .slice p_1 xv.Opens.length c_1, .slice p_2 xv.Pairs.length c_2] 26), (2, .cells b_1 [iv 0, iv 0] 34)]) ⟨rfl, rfl, trivial⟩, ?_⟩
  refine stepV (i := 10) rfl hF (fun w hS => Y.pick_f hF rfl hbv rfl) rfl fun a hF => oneV (i := 11) rfl ?_ trivial
  refine O.callS (us := [.agg #[iv xv.Hours, .slice p xv.Rates.length c, .slice p_1 xv.Opens.length c_1, .slice p_2 xv.Pairs.length c_2], .bool false]) ca_56 hF hS (beat_asked_ok hS.stab xv false hs hs_1 hs_2 hG rv_2 hx_2) rfl rfl fun v_8 Dv_9 a w hR_8 hlev_8 hF hS => ?_
  obtain ⟨p_27, c_27, p_28, c_28, p_29, c_29, bm_8, rfl, hs_27, hs_28, hs_29, hm_8⟩ := hR_8
  refine nT ⟨(hS.weak (ms := [(1, .cells b [iv xv.Hours, .slice p xv.Rates.length c, .slice p_1 xv.Opens.length c_1, .slice p_2 xv.Pairs.length c_2] 26), (2, .cells b_1 [iv 0, iv 0] 34)]) ⟨rfl, rfl, trivial⟩).weakD hlev_8 hle0, ?_⟩
  refine stepV (i := 12) rfl hF (fun w hS => Y.move hF rfl) rfl fun a hF => stepV (i := 13) rfl hF (fun w hS => Y.extract hF rfl rfl) rfl fun a hF => stepV (i := 14) rfl hF (fun w hS => Y.extract hF rfl rfl) rfl fun a hF => oneV (i := 16) rfl ?_ trivial
  refine O.store (us := [iv rv_2.1.BeatCellar.Hours, .slice p_27 rv_2.1.BeatCellar.Rates.length c_27, .slice p_28 rv_2.1.BeatCellar.Opens.length c_28, .slice p_29 rv_2.1.BeatCellar.Pairs.length c_29, iv rv_2.1.left, .map bm_8]) 3 sz_83 hF rfl rfl rfl rfl hS rfl rfl fun a w hF hS => nT ⟨(hS.weak (ms := [(1, .cells b [iv xv.Hours, .slice p xv.Rates.length c, .slice p_1 xv.Opens.length c_1, .slice p_2 xv.Pairs.length c_2] 26), (2, .cells b_1 [iv 0, iv 0] 34)]) ⟨rfl, rfl, trivial⟩).weakD hlev_8 hle0, ?_⟩
  exact toTailV ⟨Dv_9, b_10, p_27, c_27, p_28, c_28, p_29, c_29, bm_8, hlev_8, hF.weak (AF rfl), hS.weak (AL rfl), hs_27, hs_28, hs_29, hm_8⟩
 rintro a w ⟨Dv_1, b_2, p_3, c_3, p_4, c_4, p_5, c_5, bm, hle, hF, hS, hj, hj_1, hj_2, hj_3⟩
 have hlev_9 := hle
 replace hG := hG.mono hlev_9
 refine step hF (Y.assign hF rfl) rfl fun a hF => nT (seq (seq (region (step hF (Y.move hF rfl) rfl fun a hF => step hF (Y.neq hF rfl rfl) rfl fun a hF => nT (cond_b hF rfl (fun hbv_1 => ?_) (fun hbv_1 => ?_))))))
 ·replace h := cond_t h hbv_1
  refine seq (region (step hF (Y.build (parts := []) (cs := #[iv 0, iv 0]) hF rfl (by kernel_rfl)) rfl fun a hF => step hF (Y.move hF rfl) rfl fun a hF => O.store (us := [iv 0, iv 0]) 2 sz_34 hF rfl rfl rfl rfl hS rfl rfl fun a w hF hS => step hF (Y.assign hF rfl) rfl fun a hF => nT (ret_ (then_r ?_))))
  obtain rfl := some_inj h
  exact leaveP Tryd.results22 hF hS (.cons (.cellN 2 sz_34 rfl rfl rfl) (.cons (.tmp rfl) .nil)) .nil rfl
 replace h := cond_f h hbv_1
 refine skip_ (then_n (seq (region (step hF (Y.loadNL 3 sz_83 hF rfl hS rfl rfl rfl) rfl fun a hF => step hF (Y.move hF rfl) rfl fun a hF => step hF (Y.move hF rfl) rfl fun a hF => step hF (Y.build (parts := [(0, (.tmp 32)), (1, (.tmp 33))]) (cs := #[iv one, iv hour]) hF rfl (by kernel_rfl)) rfl fun a hF => step hF (Y.move hF rfl) rfl fun a hF => step hF (Y.move hF rfl) rfl fun a hF => step hF (Y.build (parts := [(0, (.tmp 35)), (1, (.tmp 36))]) (cs := #[iv other, iv hour]) hF rfl (by kernel_rfl)) rfl fun a hF => ?_))))
 obtain ⟨rv_3, hx_3, h⟩ := bind_some h
 refine O.callP (us := [.agg #[iv rv_2.1.BeatCellar.Hours, .slice p_3 rv_2.1.BeatCellar.Rates.length c_3, .slice p_4 rv_2.1.BeatCellar.Opens.length c_4, .slice p_5 rv_2.1.BeatCellar.Pairs.length c_5, iv rv_2.1.left, .map bm], .agg #[iv one, iv hour], .agg #[iv other, iv hour]]) ca_58 hF hS (beat_cellar_between_ok hS.stab rv_2.1 (beat_spot.mk one hour) (beat_spot.mk other hour) hj hj_1 hj_2 hj_3 hG rv_3 hx_3) rfl rfl fun a w hF hS => O.store (us := [iv rv_3.Low, iv rv_3.High]) 2 sz_34 hF rfl rfl rfl rfl hS rfl rfl fun a w hF hS => step hF (Y.assign hF rfl) rfl fun a hF => nT (ret_ ?_)
 obtain rfl := some_inj h
 exact leaveP Tryd.results22 hF hS (.cons (.cellN 2 sz_34 rfl rfl rfl) (.cons (.tmp rfl) .nil)) .nil rfl
noncomputable def beat_Drift (xv : BeatCellar) (clock : Int) (fromv : Int) (untilv : Int) : Option (Span × Int) :=
  (beat_isSpot xv clock fromv).bind fun rv =>
  (cond rv ((beat_isSpot xv clock untilv).bind fun rv_1 =>
  some rv_1) (some false)).bind fun t =>
  (beat_asked xv t).bind fun rv_2 =>
  cond (rv_2.2 != 0)
  (some ((Span.mk 0 0), rv_2.2))
  ((beat_cellar_between rv_2.1 (beat_spot.mk clock untilv) (beat_spot.mk clock fromv)).bind fun rv_3 =>
  some (rv_3, 0))
theorem beat_Drift_ok {w0 : World} {D0 : Stab} (hD : D0.on w0) (xv : BeatCellar) (clock : Int) (fromv : Int) (untilv : Int) {p : Option Addr} {c : Nat} {p_1 : Option Addr} {c_1 : Nat} {p_2 : Option Addr} {c_2 : Nat} (hs : SRc C_Span D0 xv.Rates p c) (hs_1 : SRc C_BeatOpen D0 xv.Opens p_1 c_1) (hs_2 : SRc C_BeatPair D0 xv.Pairs p_2 c_2) (hG : Glob D0) (out : (Span × Int)) (h : beat_Drift xv clock fromv untilv = some out) : Calls Tryd.prog 24 [.agg #[iv xv.Hours, .slice p xv.Rates.length c, .slice p_1 xv.Opens.length c_1, .slice p_2 xv.Pairs.length c_2], iv clock, iv fromv, iv untilv].toArray w0 (RetP D0 w0 (.tuple #[.agg #[iv out.1.Low, iv out.1.High], iv out.2])) := by
 refine enter _ 39 Tryd.func24 rfl Tryd.ntmps24 rfl fun a hF => ?_
 replace hF : Frm 39 [] [(0, .agg #[iv xv.Hours, .slice p xv.Rates.length c, .slice p_1 xv.Opens.length c_1, .slice p_2 xv.Pairs.length c_2]), (1, iv clock), (2, iv fromv), (3, iv untilv)] a := hF
 have hS := St.start hD
 unfold beat_Drift at h
 refine seq (region (O.box (cs := [iv xv.Hours, .slice p xv.Rates.length c, .slice p_1 xv.Opens.length c_1, .slice p_2 xv.Pairs.length c_2]) 1 hF rfl rfl hS rfl fun b a w hF hS => O.alloc 2 zc_34 hF hS rfl fun b_1 a w hF hS => step hF (Y.assign hF rfl) rfl fun a hF => nT (seq ?_)))
 obtain ⟨rv, hx, h⟩ := bind_some h
 obtain ⟨t, ht, h⟩ := bind_some h
 obtain ⟨rv_2, hx_2, h⟩ := bind_some h
 refine drawsV 17 (.flt 0 (.flt 1 (.flt 2 (.flt 3 (.alt 4 (.flt 5 (.flt 6 (.flt 7 (.flt 8 (.alt 9 (.flt 10 (.alt 11 (.flt 12 (.flt 13 (.flt 14 (.alt 15 (.alt 16 .done .stop) .stop)))) (.alt 15 (.alt 11 (.flt 12 (.flt 13 (.flt 14 (.alt 16 .done .stop)))) .stop) .stop))) (.alt 15 (.alt 9 (.flt 10 (.alt 11 (.flt 12 (.flt 13 (.flt 14 (.alt 16 .done .stop)))) .stop)) .stop) .stop)))))) (.alt 15 (.alt 4 (.flt 5 (.flt 6 (.flt 7 (.flt 8 (.alt 9 (.flt 10 (.alt 11 (.flt 12 (.flt 13 (.flt 14 (.alt 16 .done .stop)))) .stop)) .stop))))) .stop) .stop)))))) mixed_ (by kernel_rfl) (fun w => St w0 D0 D0 [(1, .cells b [iv xv.Hours, .slice p xv.Rates.length c, .slice p_1 xv.Opens.length c_1, .slice p_2 xv.Pairs.length c_2] 26), (2, .cells b_1 [iv 0, iv 0] 34)] w) (fun a w => ∃ (Dv_1 : Stab) (b_2 : Nat) (p_3 : Option Addr) (c_3 : Nat) (p_4 : Option Addr) (c_4 : Nat) (p_5 : Option Addr) (c_5 : Nat) (bm : Option Nat), D0.le Dv_1 ∧ Frm 39 [] [(1, iv clock), (2, iv fromv), (3, iv untilv), (8, .pointer (some ⟨b_1, 0, none⟩)), (9, iv 0), (10, .pointer (some ⟨b_2, 0, none⟩)), (26, iv rv_2.2)] a ∧ St w0 D0 Dv_1 [(1, .cells b [iv xv.Hours, .slice p xv.Rates.length c, .slice p_1 xv.Opens.length c_1, .slice p_2 xv.Pairs.length c_2] 26), (2, .cells b_1 [iv 0, iv 0] 34), (3, .cells b_2 [iv rv_2.1.BeatCellar.Hours, .slice p_3 rv_2.1.BeatCellar.Rates.length c_3, .slice p_4 rv_2.1.BeatCellar.Opens.length c_4, .slice p_5 rv_2.1.BeatCellar.Pairs.length c_5, iv rv_2.1.left, .map bm] 83)] w ∧ SRc C_Span Dv_1 rv_2.1.BeatCellar.Rates p_3 c_3 ∧ SRc C_BeatOpen Dv_1 rv_2.1.BeatCellar.Opens p_4 c_4 ∧ SRc C_BeatPair Dv_1 rv_2.1.BeatCellar.Pairs p_5 c_5 ∧ MapS kl_86 C_int false Dv_1 rv_2.1.place bm) (hS.weak (ms := [(1, .cells b [iv xv.Hours, .slice p xv.Rates.length c, .slice p_1 xv.Opens.length c_1, .slice p_2 xv.Pairs.length c_2] 26), (2, .cells b_1 [iv 0, iv 0] 34)]) ⟨rfl, rfl, trivial⟩).drew (fun _ _ _ _ h => h) ?_ ?_
 ·replace hS := hS.drew
  have hle0 := hS.le
  rcases bcases rv with hbv | hbv
  ·skip
   replace ht := cond_t ht hbv
   obtain ⟨rv_1, hx_1, ht⟩ := bind_some ht
   obtain rfl := some_inj ht
   refine stepV (i := 0) rfl hF (fun w hS => Y.loadNL 1 sz_26 hF rfl hS rfl rfl rfl) rfl fun a hF => stepV (i := 1) rfl hF (fun w hS => Y.loadNL 1 sz_26 hF rfl hS rfl rfl rfl) rfl fun a hF => stepV (i := 2) rfl hF (fun w hS => Y.move hF rfl) rfl fun a hF => stepV (i := 3) rfl hF (fun w hS => Y.move hF rfl) rfl fun a hF => oneV (i := 4) rfl ?_ ?_
   ·skip
    refine O.callP (us := [.agg #[iv xv.Hours, .slice p xv.Rates.length c, .slice p_1 xv.Opens.length c_1, .slice p_2 xv.Pairs.length c_2], iv clock, iv fromv]) ca_57 hF hS (beat_isSpot_ok hS.stab xv clock fromv hs hs_1 hs_2 rv hx) rfl rfl fun a w hF hS => nT ⟨hS.weak (ms := [(1, .cells b [iv xv.Hours, .slice p xv.Rates.length c, .slice p_1 xv.Opens.length c_1, .slice p_2 xv.Pairs.length c_2] 26), (2, .cells b_1 [iv 0, iv 0] 34)]) ⟨rfl, rfl, trivial⟩, ?_⟩
    refine stepV (i := 5) rfl hF (fun w hS => Y.move hF rfl) rfl fun a hF => stepV_on (i := 6) rfl hF rfl rfl hbv (fun w hS => Y.loadNL 1 sz_26 hF rfl hS rfl rfl rfl) rfl fun a hF => stepV_on (i := 7) rfl hF rfl rfl hbv (fun w hS => Y.move hF rfl) rfl fun a hF => stepV_on (i := 8) rfl hF rfl rfl hbv (fun w hS => Y.move hF rfl) rfl fun a hF => oneV (i := 9) rfl ?_ ?_
    ·skip
     refine guard_on hF rfl rfl hbv (O.callP (us := [.agg #[iv xv.Hours, .slice p xv.Rates.length c, .slice p_1 xv.Opens.length c_1, .slice p_2 xv.Pairs.length c_2], iv clock, iv untilv]) ca_57 hF hS (beat_isSpot_ok hS.stab xv clock untilv hs hs_1 hs_2 rv_1 hx_1) rfl rfl fun a w hF hS => nT ⟨hS.weak (ms := [(1, .cells b [iv xv.Hours, .slice p xv.Rates.length c, .slice p_1 xv.Opens.length c_1, .slice p_2 xv.Pairs.length c_2] 26), (2, .cells b_1 [iv 0, iv 0] 34)]) ⟨rfl, rfl, trivial⟩, ?_⟩)
     refine stepV (i := 10) rfl hF (fun w hS => Y.pick_t hF rfl hbv rfl) rfl fun a hF => oneV (i := 11) rfl ?_ ?_
     ·skip
      refine O.callS (us := [.agg #[iv xv.Hours, .slice p xv.Rates.length c, .slice p_1 xv.Opens.length c_1, .slice p_2 xv.Pairs.length c_2], .bool rv_1]) ca_56 hF hS (beat_asked_ok hS.stab xv rv_1 hs hs_1 hs_2 hG rv_2 hx_2) rfl rfl fun v_1 Dv_2 a w hR_1 hlev_1 hF hS => ?_
      obtain ⟨p_6, c_6, p_7, c_7, p_8, c_8, bm_1, rfl, hs_6, hs_7, hs_8, hm_1⟩ := hR_1
      refine nT ⟨(hS.weak (ms := [(1, .cells b [iv xv.Hours, .slice p xv.Rates.length c, .slice p_1 xv.Opens.length c_1, .slice p_2 xv.Pairs.length c_2] 26), (2, .cells b_1 [iv 0, iv 0] 34)]) ⟨rfl, rfl, trivial⟩).weakD hlev_1 hle0, ?_⟩
      refine stepV (i := 12) rfl hF (fun w hS => Y.move hF rfl) rfl fun a hF => stepV (i := 13) rfl hF (fun w hS => Y.extract hF rfl rfl) rfl fun a hF => stepV (i := 14) rfl hF (fun w hS => Y.extract hF rfl rfl) rfl fun a hF => oneV (i := 15) rfl ?_ trivial
      refine O.alloc 3 zc_83 hF hS rfl fun b_3 a w hF hS => nT ⟨(hS.weak (ms := [(1, .cells b [iv xv.Hours, .slice p xv.Rates.length c, .slice p_1 xv.Opens.length c_1, .slice p_2 xv.Pairs.length c_2] 26), (2, .cells b_1 [iv 0, iv 0] 34)]) ⟨rfl, rfl, trivial⟩).weakD hlev_1 hle0, ?_⟩
      refine oneV (i := 16) rfl ?_ trivial
      refine O.store (us := [iv rv_2.1.BeatCellar.Hours, .slice p_6 rv_2.1.BeatCellar.Rates.length c_6, .slice p_7 rv_2.1.BeatCellar.Opens.length c_7, .slice p_8 rv_2.1.BeatCellar.Pairs.length c_8, iv rv_2.1.left, .map bm_1]) 3 sz_83 hF rfl rfl rfl rfl hS rfl rfl fun a w hF hS => nT ⟨(hS.weak (ms := [(1, .cells b [iv xv.Hours, .slice p xv.Rates.length c, .slice p_1 xv.Opens.length c_1, .slice p_2 xv.Pairs.length c_2] 26), (2, .cells b_1 [iv 0, iv 0] 34)]) ⟨rfl, rfl, trivial⟩).weakD hlev_1 hle0, ?_⟩
      exact toTailV ⟨Dv_2, b_3, p_6, c_6, p_7, c_7, p_8, c_8, bm_1, hlev_1, hF.weak (AF rfl), hS.weak (AL rfl), hs_6, hs_7, hs_8, hm_1⟩
     refine oneV (i := 15) rfl ?_ trivial
     refine O.alloc 3 zc_83 hF hS rfl fun b_4 a w hF hS => nT ⟨hS.weak (ms := [(1, .cells b [iv xv.Hours, .slice p xv.Rates.length c, .slice p_1 xv.Opens.length c_1, .slice p_2 xv.Pairs.length c_2] 26), (2, .cells b_1 [iv 0, iv 0] 34)]) ⟨rfl, rfl, trivial⟩, ?_⟩
     refine oneV (i := 11) rfl ?_ trivial
     refine O.callS (us := [.agg #[iv xv.Hours, .slice p xv.Rates.length c, .slice p_1 xv.Opens.length c_1, .slice p_2 xv.Pairs.length c_2], .bool rv_1]) ca_56 hF hS (beat_asked_ok hS.stab xv rv_1 hs hs_1 hs_2 hG rv_2 hx_2) rfl rfl fun v_2 Dv_3 a w hR_2 hlev_2 hF hS => ?_
     obtain ⟨p_9, c_9, p_10, c_10, p_11, c_11, bm_2, rfl, hs_9, hs_10, hs_11, hm_2⟩ := hR_2
     refine nT ⟨(hS.weak (ms := [(1, .cells b [iv xv.Hours, .slice p xv.Rates.length c, .slice p_1 xv.Opens.length c_1, .slice p_2 xv.Pairs.length c_2] 26), (2, .cells b_1 [iv 0, iv 0] 34)]) ⟨rfl, rfl, trivial⟩).weakD hlev_2 hle0, ?_⟩
     refine stepV (i := 12) rfl hF (fun w hS => Y.move hF rfl) rfl fun a hF => stepV (i := 13) rfl hF (fun w hS => Y.extract hF rfl rfl) rfl fun a hF => stepV (i := 14) rfl hF (fun w hS => Y.extract hF rfl rfl) rfl fun a hF => oneV (i := 16) rfl ?_ trivial
     refine O.store (us := [iv rv_2.1.BeatCellar.Hours, .slice p_9 rv_2.1.BeatCellar.Rates.length c_9, .slice p_10 rv_2.1.BeatCellar.Opens.length c_10, .slice p_11 rv_2.1.BeatCellar.Pairs.length c_11, iv rv_2.1.left, .map bm_2]) 3 sz_83 hF rfl rfl rfl rfl hS rfl rfl fun a w hF hS => nT ⟨(hS.weak (ms := [(1, .cells b [iv xv.Hours, .slice p xv.Rates.length c, .slice p_1 xv.Opens.length c_1, .slice p_2 xv.Pairs.length c_2] 26), (2, .cells b_1 [iv 0, iv 0] 34)]) ⟨rfl, rfl, trivial⟩).weakD hlev_2 hle0, ?_⟩
     exact toTailV ⟨Dv_3, b_4, p_9, c_9, p_10, c_10, p_11, c_11, bm_2, hlev_2, hF.weak (AF rfl), hS.weak (AL rfl), hs_9, hs_10, hs_11, hm_2⟩
    refine oneV (i := 15) rfl ?_ trivial
    refine O.alloc 3 zc_83 hF hS rfl fun b_5 a w hF hS => nT ⟨hS.weak (ms := [(1, .cells b [iv xv.Hours, .slice p xv.Rates.length c, .slice p_1 xv.Opens.length c_1, .slice p_2 xv.Pairs.length c_2] 26), (2, .cells b_1 [iv 0, iv 0] 34)]) ⟨rfl, rfl, trivial⟩, ?_⟩
    refine oneV (i := 9) rfl ?_ trivial
    refine guard_on hF rfl rfl hbv (O.callP (us := [.agg #[iv xv.Hours, .slice p xv.Rates.length c, .slice p_1 xv.Opens.length c_1, .slice p_2 xv.Pairs.length c_2], iv clock, iv untilv]) ca_57 hF hS (beat_isSpot_ok hS.stab xv clock untilv hs hs_1 hs_2 rv_1 hx_1) rfl rfl fun a w hF hS => nT ⟨hS.weak (ms := [(1, .cells b [iv xv.Hours, .slice p xv.Rates.length c, .slice p_1 xv.Opens.length c_1, .slice p_2 xv.Pairs.length c_2] 26), (2, .cells b_1 [iv 0, iv 0] 34)]) ⟨rfl, rfl, trivial⟩, ?_⟩)
    refine stepV (i := 10) rfl hF (fun w hS => Y.pick_t hF rfl hbv rfl) rfl fun a hF => oneV (i := 11) rfl ?_ trivial
    refine O.callS (us := [.agg #[iv xv.Hours, .slice p xv.Rates.length c, .slice p_1 xv.Opens.length c_1, .slice p_2 xv.Pairs.length c_2], .bool rv_1]) ca_56 hF hS (beat_asked_ok hS.stab xv rv_1 hs hs_1 hs_2 hG rv_2 hx_2) rfl rfl fun v_3 Dv_4 a w hR_3 hlev_3 hF hS => ?_
    obtain ⟨p_12, c_12, p_13, c_13, p_14, c_14, bm_3, rfl, hs_12, hs_13, hs_14, hm_3⟩ := hR_3
    refine nT ⟨(hS.weak (ms := [(1, .cells b [iv xv.Hours, .slice p xv.Rates.length c, .slice p_1 xv.Opens.length c_1, .slice p_2 xv.Pairs.length c_2] 26), (2, .cells b_1 [iv 0, iv 0] 34)]) ⟨rfl, rfl, trivial⟩).weakD hlev_3 hle0, ?_⟩
    refine stepV (i := 12) rfl hF (fun w hS => Y.move hF rfl) rfl fun a hF => stepV (i := 13) rfl hF (fun w hS => Y.extract hF rfl rfl) rfl fun a hF => stepV (i := 14) rfl hF (fun w hS => Y.extract hF rfl rfl) rfl fun a hF => oneV (i := 16) rfl ?_ trivial
    refine O.store (us := [iv rv_2.1.BeatCellar.Hours, .slice p_12 rv_2.1.BeatCellar.Rates.length c_12, .slice p_13 rv_2.1.BeatCellar.Opens.length c_13, .slice p_14 rv_2.1.BeatCellar.Pairs.length c_14, iv rv_2.1.left, .map bm_3]) 3 sz_83 hF rfl rfl rfl rfl hS rfl rfl fun a w hF hS => nT ⟨(hS.weak (ms := [(1, .cells b [iv xv.Hours, .slice p xv.Rates.length c, .slice p_1 xv.Opens.length c_1, .slice p_2 xv.Pairs.length c_2] 26), (2, .cells b_1 [iv 0, iv 0] 34)]) ⟨rfl, rfl, trivial⟩).weakD hlev_3 hle0, ?_⟩
    exact toTailV ⟨Dv_4, b_5, p_12, c_12, p_13, c_13, p_14, c_14, bm_3, hlev_3, hF.weak (AF rfl), hS.weak (AL rfl), hs_12, hs_13, hs_14, hm_3⟩
   refine oneV (i := 15) rfl ?_ trivial
   refine O.alloc 3 zc_83 hF hS rfl fun b_6 a w hF hS => nT ⟨hS.weak (ms := [(1, .cells b [iv xv.Hours, .slice p xv.Rates.length c, .slice p_1 xv.Opens.length c_1, .slice p_2 xv.Pairs.length c_2] 26), (2, .cells b_1 [iv 0, iv 0] 34)]) ⟨rfl, rfl, trivial⟩, ?_⟩
   refine oneV (i := 4) rfl ?_ trivial
   refine O.callP (us := [.agg #[iv xv.Hours, .slice p xv.Rates.length c, .slice p_1 xv.Opens.length c_1, .slice p_2 xv.Pairs.length c_2], iv clock, iv fromv]) ca_57 hF hS (beat_isSpot_ok hS.stab xv clock fromv hs hs_1 hs_2 rv hx) rfl rfl fun a w hF hS => nT ⟨hS.weak (ms := [(1, .cells b [iv xv.Hours, .slice p xv.Rates.length c, .slice p_1 xv.Opens.length c_1, .slice p_2 xv.Pairs.length c_2] 26), (2, .cells b_1 [iv 0, iv 0] 34)]) ⟨rfl, rfl, trivial⟩, ?_⟩
   refine stepV (i := 5) rfl hF (fun w hS => Y.move hF rfl) rfl fun a hF => stepV_on (i := 6) rfl hF rfl rfl hbv (fun w hS => Y.loadNL 1 sz_26 hF rfl hS rfl rfl rfl) rfl fun a hF => stepV_on (i := 7) rfl hF rfl rfl hbv (fun w hS => Y.move hF rfl) rfl fun a hF => stepV_on (i := 8) rfl hF rfl rfl hbv (fun w hS => Y.move hF rfl) rfl fun a hF => oneV (i := 9) rfl ?_ trivial
   refine guard_on hF rfl rfl hbv (O.callP (us := [.agg #[iv xv.Hours, .slice p xv.Rates.length c, .slice p_1 xv.Opens.length c_1, .slice p_2 xv.Pairs.length c_2], iv clock, iv untilv]) ca_57 hF hS (beat_isSpot_ok hS.stab xv clock untilv hs hs_1 hs_2 rv_1 hx_1) rfl rfl fun a w hF hS => nT ⟨hS.weak (ms := [(1, .cells b [iv xv.Hours, .slice p xv.Rates.length c, .slice p_1 xv.Opens.length c_1, .slice p_2 xv.Pairs.length c_2] 26), (2, .cells b_1 [iv 0, iv 0] 34)]) ⟨rfl, rfl, trivial⟩, ?_⟩)
   refine stepV (i := 10) rfl hF (fun w hS => Y.pick_t hF rfl hbv rfl) rfl fun a hF => oneV (i := 11) rfl ?_ trivial
   refine O.callS (us := [.agg #[iv xv.Hours, .slice p xv.Rates.length c, .slice p_1 xv.Opens.length c_1, .slice p_2 xv.Pairs.length c_2], .bool rv_1]) ca_56 hF hS (beat_asked_ok hS.stab xv rv_1 hs hs_1 hs_2 hG rv_2 hx_2) rfl rfl fun v_4 Dv_5 a w hR_4 hlev_4 hF hS => ?_
   obtain ⟨p_15, c_15, p_16, c_16, p_17, c_17, bm_4, rfl, hs_15, hs_16, hs_17, hm_4⟩ := hR_4
   refine nT ⟨(hS.weak (ms := [(1, .cells b [iv xv.Hours, .slice p xv.Rates.length c, .slice p_1 xv.Opens.length c_1, .slice p_2 xv.Pairs.length c_2] 26), (2, .cells b_1 [iv 0, iv 0] 34)]) ⟨rfl, rfl, trivial⟩).weakD hlev_4 hle0, ?_⟩
   refine stepV (i := 12) rfl hF (fun w hS => Y.move hF rfl) rfl fun a hF => stepV (i := 13) rfl hF (fun w hS => Y.extract hF rfl rfl) rfl fun a hF => stepV (i := 14) rfl hF (fun w hS => Y.extract hF rfl rfl) rfl fun a hF => oneV (i := 16) rfl ?_ trivial
   refine O.store (us := [iv rv_2.1.BeatCellar.Hours, .slice p_15 rv_2.1.BeatCellar.Rates.length c_15, .slice p_16 rv_2.1.BeatCellar.Opens.length c_16, .slice p_17 rv_2.1.BeatCellar.Pairs.length c_17, iv rv_2.1.left, .map bm_4]) 3 sz_83 hF rfl rfl rfl rfl hS rfl rfl fun a w hF hS => nT ⟨(hS.weak (ms := [(1, .cells b [iv xv.Hours, .slice p xv.Rates.length c, .slice p_1 xv.Opens.length c_1, .slice p_2 xv.Pairs.length c_2] 26), (2, .cells b_1 [iv 0, iv 0] 34)]) ⟨rfl, rfl, trivial⟩).weakD hlev_4 hle0, ?_⟩
   exact toTailV ⟨Dv_5, b_6, p_15, c_15, p_16, c_16, p_17, c_17, bm_4, hlev_4, hF.weak (AF rfl), hS.weak (AL rfl), hs_15, hs_16, hs_17, hm_4⟩
  replace ht := cond_f ht hbv
  obtain rfl := some_inj ht
  refine stepV (i := 0) rfl hF (fun w hS => Y.loadNL 1 sz_26 hF rfl hS rfl rfl rfl) rfl fun a hF => stepV (i := 1) rfl hF (fun w hS => Y.loadNL 1 sz_26 hF rfl hS rfl rfl rfl) rfl fun a hF => stepV (i := 2) rfl hF (fun w hS => Y.move hF rfl) rfl fun a hF => stepV (i := 3) rfl hF (fun w hS => Y.move hF rfl) rfl fun a hF => oneV (i := 4) rfl ?_ ?_
  ·skip
   refine O.callP (us := [.agg #[iv xv.Hours, .slice p xv.Rates.length c, .slice p_1 xv.Opens.length c_1, .slice p_2 xv.Pairs.length c_2], iv clock, iv fromv]) ca_57 hF hS (beat_isSpot_ok hS.stab xv clock fromv hs hs_1 hs_2 rv hx) rfl rfl fun a w hF hS => nT ⟨hS.weak (ms := [(1, .cells b [iv xv.Hours, .slice p xv.Rates.length c, .slice p_1 xv.Opens.length c_1, .slice p_2 xv.Pairs.length c_2] 26), (2, .cells b_1 [iv 0, iv 0] 34)]) ⟨rfl, rfl, trivial⟩, ?_⟩
   refine stepV (i := 5) rfl hF (fun w hS => Y.move hF rfl) rfl fun a hF => stepV_off (i := 6) rfl hF rfl rfl hbv rfl fun a hF => stepV_off (i := 7) rfl hF rfl rfl hbv rfl fun a hF => stepV_off (i := 8) rfl hF rfl rfl hbv rfl fun a hF => oneV (i := 9) rfl ?_ ?_
   ·skip
    refine guard_off hF rfl rfl hbv rfl fun a hF => nT ⟨hS.weak (ms := [(1, .cells b [iv xv.Hours, .slice p xv.Rates.length c, .slice p_1 xv.Opens.length c_1, .slice p_2 xv.Pairs.length c_2] 26), (2, .cells b_1 [iv 0, iv 0] 34)]) ⟨rfl, rfl, trivial⟩, ?_⟩
    refine stepV (i := 10) rfl hF (fun w hS => Y.pick_f hF rfl hbv rfl) rfl fun a hF => oneV (i := 11) rfl ?_ ?_
    ·skip
     refine O.callS (us := [.agg #[iv xv.Hours, .slice p xv.Rates.length c, .slice p_1 xv.Opens.length c_1, .slice p_2 xv.Pairs.length c_2], .bool false]) ca_56 hF hS (beat_asked_ok hS.stab xv false hs hs_1 hs_2 hG rv_2 hx_2) rfl rfl fun v_5 Dv_6 a w hR_5 hlev_5 hF hS => ?_
     obtain ⟨p_18, c_18, p_19, c_19, p_20, c_20, bm_5, rfl, hs_18, hs_19, hs_20, hm_5⟩ := hR_5
     refine nT ⟨(hS.weak (ms := [(1, .cells b [iv xv.Hours, .slice p xv.Rates.length c, .slice p_1 xv.Opens.length c_1, .slice p_2 xv.Pairs.length c_2] 26), (2, .cells b_1 [iv 0, iv 0] 34)]) ⟨rfl, rfl, trivial⟩).weakD hlev_5 hle0, ?_⟩
     refine stepV (i := 12) rfl hF (fun w hS => Y.move hF rfl) rfl fun a hF => stepV (i := 13) rfl hF (fun w hS => Y.extract hF rfl rfl) rfl fun a hF => stepV (i := 14) rfl hF (fun w hS => Y.extract hF rfl rfl) rfl fun a hF => oneV (i := 15) rfl ?_ trivial
     refine O.alloc 3 zc_83 hF hS rfl fun b_7 a w hF hS => nT ⟨(hS.weak (ms := [(1, .cells b [iv xv.Hours, .slice p xv.Rates.length c, .slice p_1 xv.Opens.length c_1, .slice p_2 xv.Pairs.length c_2] 26), (2, .cells b_1 [iv 0, iv 0] 34)]) ⟨rfl, rfl, trivial⟩).weakD hlev_5 hle0, ?_⟩
     refine oneV (i := 16) rfl ?_ trivial
     refine O.store (us := [iv rv_2.1.BeatCellar.Hours, .slice p_18 rv_2.1.BeatCellar.Rates.length c_18, .slice p_19 rv_2.1.BeatCellar.Opens.length c_19, .slice p_20 rv_2.1.BeatCellar.Pairs.length c_20, iv rv_2.1.left, .map bm_5]) 3 sz_83 hF rfl rfl rfl rfl hS rfl rfl fun a w hF hS => nT ⟨(hS.weak (ms := [(1, .cells b [iv xv.Hours, .slice p xv.Rates.length c, .slice p_1 xv.Opens.length c_1, .slice p_2 xv.Pairs.length c_2] 26), (2, .cells b_1 [iv 0, iv 0] 34)]) ⟨rfl, rfl, trivial⟩).weakD hlev_5 hle0, ?_⟩
     exact toTailV ⟨Dv_6, b_7, p_18, c_18, p_19, c_19, p_20, c_20, bm_5, hlev_5, hF.weak (AF rfl), hS.weak (AL rfl), hs_18, hs_19, hs_20, hm_5⟩
    refine oneV (i := 15) rfl ?_ trivial
    refine O.alloc 3 zc_83 hF hS rfl fun b_8 a w hF hS => nT ⟨hS.weak (ms := [(1, .cells b [iv xv.Hours, .slice p xv.Rates.length c, .slice p_1 xv.Opens.length c_1, .slice p_2 xv.Pairs.length c_2] 26), (2, .cells b_1 [iv 0, iv 0] 34)]) ⟨rfl, rfl, trivial⟩, ?_⟩
    refine oneV (i := 11) rfl ?_ trivial
    refine O.callS (us := [.agg #[iv xv.Hours, .slice p xv.Rates.length c, .slice p_1 xv.Opens.length c_1, .slice p_2 xv.Pairs.length c_2], .bool false]) ca_56 hF hS (beat_asked_ok hS.stab xv false hs hs_1 hs_2 hG rv_2 hx_2) rfl rfl fun v_6 Dv_7 a w hR_6 hlev_6 hF hS => ?_
    obtain ⟨p_21, c_21, p_22, c_22, p_23, c_23, bm_6, rfl, hs_21, hs_22, hs_23, hm_6⟩ := hR_6
    refine nT ⟨(hS.weak (ms := [(1, .cells b [iv xv.Hours, .slice p xv.Rates.length c, .slice p_1 xv.Opens.length c_1, .slice p_2 xv.Pairs.length c_2] 26), (2, .cells b_1 [iv 0, iv 0] 34)]) ⟨rfl, rfl, trivial⟩).weakD hlev_6 hle0, ?_⟩
    refine stepV (i := 12) rfl hF (fun w hS => Y.move hF rfl) rfl fun a hF => stepV (i := 13) rfl hF (fun w hS => Y.extract hF rfl rfl) rfl fun a hF => stepV (i := 14) rfl hF (fun w hS => Y.extract hF rfl rfl) rfl fun a hF => oneV (i := 16) rfl ?_ trivial
    refine O.store (us := [iv rv_2.1.BeatCellar.Hours, .slice p_21 rv_2.1.BeatCellar.Rates.length c_21, .slice p_22 rv_2.1.BeatCellar.Opens.length c_22, .slice p_23 rv_2.1.BeatCellar.Pairs.length c_23, iv rv_2.1.left, .map bm_6]) 3 sz_83 hF rfl rfl rfl rfl hS rfl rfl fun a w hF hS => nT ⟨(hS.weak (ms := [(1, .cells b [iv xv.Hours, .slice p xv.Rates.length c, .slice p_1 xv.Opens.length c_1, .slice p_2 xv.Pairs.length c_2] 26), (2, .cells b_1 [iv 0, iv 0] 34)]) ⟨rfl, rfl, trivial⟩).weakD hlev_6 hle0, ?_⟩
    exact toTailV ⟨Dv_7, b_8, p_21, c_21, p_22, c_22, p_23, c_23, bm_6, hlev_6, hF.weak (AF rfl), hS.weak (AL rfl), hs_21, hs_22, hs_23, hm_6⟩
   refine oneV (i := 15) rfl ?_ trivial
   refine O.alloc 3 zc_83 hF hS rfl fun b_9 a w hF hS => nT ⟨hS.weak (ms := [(1, .cells b [iv xv.Hours, .slice p xv.Rates.length c, .slice p_1 xv.Opens.length c_1, .slice p_2 xv.Pairs.length c_2] 26), (2, .cells b_1 [iv 0, iv 0] 34)]) ⟨rfl, rfl, trivial⟩, ?_⟩
   refine oneV (i := 9) rfl ?_ trivial
   refine guard_off hF rfl rfl hbv rfl fun a hF => nT ⟨hS.weak (ms := [(1, .cells b [iv xv.Hours, .slice p xv.Rates.length c, .slice p_1 xv.Opens.length c_1, .slice p_2 xv.Pairs.length c_2] 26), (2, .cells b_1 [iv 0, iv 0] 34)]) ⟨rfl, rfl, trivial⟩, ?_⟩
   refine stepV (i := 10) rfl hF (fun w hS => Y.pick_f hF rfl hbv rfl) rfl fun a hF => oneV (i := 11) rfl ?_ trivial
   refine O.callS (us := [.agg #[iv xv.Hours, .slice p xv.Rates.length c, .slice p_1 xv.Opens.length c_1, .slice p_2 xv.Pairs.length c_2], .bool false]) ca_56 hF hS (beat_asked_ok hS.stab xv false hs hs_1 hs_2 hG rv_2 hx_2) rfl rfl fun v_7 Dv_8 a w hR_7 hlev_7 hF hS => ?_
   obtain ⟨p_24, c_24, p_25, c_25, p_26, c_26, bm_7, rfl, hs_24, hs_25, hs_26, hm_7⟩ := hR_7
   refine nT ⟨(hS.weak (ms := [(1, .cells b [iv xv.Hours, .slice p xv.Rates.length c, .slice p_1 xv.Opens.length c_1, .slice p_2 xv.Pairs.length c_2] 26), (2, .cells b_1 [iv 0, iv 0] 34)]) ⟨rfl, rfl, trivial⟩).weakD hlev_7 hle0, ?_⟩
   refine stepV (i := 12) rfl hF (fun w hS => Y.move hF rfl) rfl fun a hF => stepV (i := 13) rfl hF (fun w hS => Y.extract hF rfl rfl) rfl fun a hF => stepV (i := 14) rfl hF (fun w hS => Y.extract hF rfl rfl) rfl fun a hF => oneV (i := 16) rfl ?_ trivial
   refine O.store (us := [iv rv_2.1.BeatCellar.Hours, .slice p_24 rv_2.1.BeatCellar.Rates.length c_24, .slice p_25 rv_2.1.BeatCellar.Opens.length c_25, .slice p_26 rv_2.1.BeatCellar.Pairs.length c_26, iv rv_2.1.left, .map bm_7]) 3 sz_83 hF rfl rfl rfl rfl hS rfl rfl fun a w hF hS => nT ⟨(hS.weak (ms := [(1, .cells b [iv xv.Hours, .slice p xv.Rates.length c, .slice p_1 xv.Opens.length c_1, .slice p_2 xv.Pairs.length c_2] 26), (2, .cells b_1 [iv 0, iv 0] 34)]) ⟨rfl, rfl, trivial⟩).weakD hlev_7 hle0, ?_⟩
   exact toTailV ⟨Dv_8, b_9, p_24, c_24, p_25, c_25, p_26, c_26, bm_7, hlev_7, hF.weak (AF rfl), hS.weak (AL rfl), hs_24, hs_25, hs_26, hm_7⟩
  refine oneV (i := 15) rfl ?_ trivial
  refine O.alloc 3 zc_83 hF hS rfl fun b_10 a w hF hS => nT ⟨hS.weak (ms := [(1, .cells b [iv xv.Hours, .slice p xv.Rates.length c, .slice p_1 xv.Opens.length c_1, .slice p_2 xv.Pairs.length c_2] 26), (2, .cells b_1 [iv 0, iv 0] 34)]) ⟨rfl, rfl, trivial⟩, ?_⟩
  refine oneV (i := 4) rfl ?_ trivial
  refine O.callP (us := [.agg #[iv xv.Hours, .slice p xv.Rates.length c, .slice p_1 xv.Opens.length c_1, .slice p_2 xv.Pairs.length c_2], iv clock, iv fromv]) ca_57 hF hS (beat_isSpot_ok hS.stab xv clock fromv hs hs_1 hs_2 rv hx) rfl rfl fun a w hF hS => nT ⟨hS.weak (ms := [(1, .cells b [iv xv.Hours, .slice p xv.Rates.length c, .slice p_1 xv.Opens.length c_1, .slice p_2 xv.Pairs.length c_2] 26), (2, .cells b_1 [iv 0, iv 0] 34)]) ⟨rfl, rfl, trivial⟩, ?_⟩
  refine stepV (i := 5) rfl hF (fun w hS => Y.move hF rfl) rfl fun a hF => stepV_off (i := 6) rfl hF rfl rfl hbv rfl fun a hF => stepV_off (i := 7) rfl hF rfl rfl hbv rfl fun a hF => stepV_off (i := 8) rfl hF rfl rfl hbv rfl fun a hF => oneV (i := 9) rfl ?_ trivial
  refine guard_off hF rfl rfl hbv rfl fun a hF => nT ⟨hS.weak (ms := [(1, .cells b [iv xv.Hours, .slice p xv.Rates.length c, .slice p_1 xv.Opens.length c_1, .slice p_2 xv.Pairs.length c_2] 26), (2, .cells b_1 [iv 0, iv 0] 34)]) ⟨rfl, rfl, trivial⟩, ?_⟩
  refine stepV (i := 10) rfl hF (fun w hS => Y.pick_f hF rfl hbv rfl) rfl fun a hF => oneV (i := 11) rfl ?_ trivial
  refine O.callS (us := [.agg #[iv xv.Hours, .slice p xv.Rates.length c, .slice p_1 xv.Opens.length c_1, .slice p_2 xv.Pairs.length c_2], .bool false]) ca_56 hF hS (beat_asked_ok hS.stab xv false hs hs_1 hs_2 hG rv_2 hx_2) rfl rfl fun v_8 Dv_9 a w hR_8 hlev_8 hF hS => ?_
  obtain ⟨p_27, c_27, p_28, c_28, p_29, c_29, bm_8, rfl, hs_27, hs_28, hs_29, hm_8⟩ := hR_8
  refine nT ⟨(hS.weak (ms := [(1, .cells b [iv xv.Hours, .slice p xv.Rates.length c, .slice p_1 xv.Opens.length c_1, .slice p_2 xv.Pairs.length c_2] 26), (2, .cells b_1 [iv 0, iv 0] 34)]) ⟨rfl, rfl, trivial⟩).weakD hlev_8 hle0, ?_⟩
  refine stepV (i := 12) rfl hF (fun w hS => Y.move hF rfl) rfl fun a hF => stepV (i := 13) rfl hF (fun w hS => Y.extract hF rfl rfl) rfl fun a hF => stepV (i := 14) rfl hF (fun w hS => Y.extract hF rfl rfl) rfl fun a hF => oneV (i := 16) rfl ?_ trivial
  refine O.store (us := [iv rv_2.1.BeatCellar.Hours, .slice p_27 rv_2.1.BeatCellar.Rates.length c_27, .slice p_28 rv_2.1.BeatCellar.Opens.length c_28, .slice p_29 rv_2.1.BeatCellar.Pairs.length c_29, iv rv_2.1.left, .map bm_8]) 3 sz_83 hF rfl rfl rfl rfl hS rfl rfl fun a w hF hS => nT ⟨(hS.weak (ms := [(1, .cells b [iv xv.Hours, .slice p xv.Rates.length c, .slice p_1 xv.Opens.length c_1, .slice p_2 xv.Pairs.length c_2] 26), (2, .cells b_1 [iv 0, iv 0] 34)]) ⟨rfl, rfl, trivial⟩).weakD hlev_8 hle0, ?_⟩
  exact toTailV ⟨Dv_9, b_10, p_27, c_27, p_28, c_28, p_29, c_29, bm_8, hlev_8, hF.weak (AF rfl), hS.weak (AL rfl), hs_27, hs_28, hs_29, hm_8⟩
 rintro a w ⟨Dv_1, b_2, p_3, c_3, p_4, c_4, p_5, c_5, bm, hle, hF, hS, hj, hj_1, hj_2, hj_3⟩
 have hlev_9 := hle
 replace hG := hG.mono hlev_9
 refine step hF (Y.assign hF rfl) rfl fun a hF => nT (seq (seq (region (step hF (Y.move hF rfl) rfl fun a hF => step hF (Y.neq hF rfl rfl) rfl fun a hF => nT (cond_b hF rfl (fun hbv_1 => ?_) (fun hbv_1 => ?_))))))
 ·replace h := cond_t h hbv_1
  refine seq (region (step hF (Y.build (parts := []) (cs := #[iv 0, iv 0]) hF rfl (by kernel_rfl)) rfl fun a hF => step hF (Y.move hF rfl) rfl fun a hF => O.store (us := [iv 0, iv 0]) 2 sz_34 hF rfl rfl rfl rfl hS rfl rfl fun a w hF hS => step hF (Y.assign hF rfl) rfl fun a hF => nT (ret_ (then_r ?_))))
  obtain rfl := some_inj h
  exact leaveP Tryd.results24 hF hS (.cons (.cellN 2 sz_34 rfl rfl rfl) (.cons (.tmp rfl) .nil)) .nil rfl
 replace h := cond_f h hbv_1
 refine skip_ (then_n (seq (region (step hF (Y.loadNL 3 sz_83 hF rfl hS rfl rfl rfl) rfl fun a hF => step hF (Y.move hF rfl) rfl fun a hF => step hF (Y.move hF rfl) rfl fun a hF => step hF (Y.build (parts := [(0, (.tmp 32)), (1, (.tmp 33))]) (cs := #[iv clock, iv untilv]) hF rfl (by kernel_rfl)) rfl fun a hF => step hF (Y.move hF rfl) rfl fun a hF => step hF (Y.move hF rfl) rfl fun a hF => step hF (Y.build (parts := [(0, (.tmp 35)), (1, (.tmp 36))]) (cs := #[iv clock, iv fromv]) hF rfl (by kernel_rfl)) rfl fun a hF => ?_))))
 obtain ⟨rv_3, hx_3, h⟩ := bind_some h
 refine O.callP (us := [.agg #[iv rv_2.1.BeatCellar.Hours, .slice p_3 rv_2.1.BeatCellar.Rates.length c_3, .slice p_4 rv_2.1.BeatCellar.Opens.length c_4, .slice p_5 rv_2.1.BeatCellar.Pairs.length c_5, iv rv_2.1.left, .map bm], .agg #[iv clock, iv untilv], .agg #[iv clock, iv fromv]]) ca_58 hF hS (beat_cellar_between_ok hS.stab rv_2.1 (beat_spot.mk clock untilv) (beat_spot.mk clock fromv) hj hj_1 hj_2 hj_3 hG rv_3 hx_3) rfl rfl fun a w hF hS => O.store (us := [iv rv_3.Low, iv rv_3.High]) 2 sz_34 hF rfl rfl rfl rfl hS rfl rfl fun a w hF hS => step hF (Y.assign hF rfl) rfl fun a hF => nT (ret_ ?_)
 obtain rfl := some_inj h
 exact leaveP Tryd.results24 hF hS (.cons (.cellN 2 sz_34 rfl rfl rfl) (.cons (.tmp rfl) .nil)) .nil rfl
noncomputable def beat_Case_b3 (xv : BeatCellar) (rv_1 : (beat_cellar × Int)) (l : (List Int)) (outv : (List (List Int))) (v49_0 : Int) : ((List Int) × Int) → Option (((List Int) × Int) ⊕ (((List (List Int)) × Int) ⊕ ((List (List Int)) × Int)))
 | (row, v55_0) =>
  cond (decide (v55_0 < (wr (xv.Hours + 1))))
  (if (0 : Int) ≤ ((mget kl_86 rv_1.1.place (beat_spot.mk v49_0 v55_0)).getD 0) ∧ ((mget kl_86 rv_1.1.place (beat_spot.mk v49_0 v55_0)).getD 0) < ((66 : Nat) : Int) then
  (beat_truth).bind fun rv_4 =>
  if (0 : Int) ≤ ((mget kl_86 rv_1.1.place rv_4).getD 0) ∧ ((mget kl_86 rv_1.1.place rv_4).getD 0) < ((66 : Nat) : Int) then
  if row.length + ([wr ((l.getD (Int.toNat ((mget kl_86 rv_1.1.place (beat_spot.mk v49_0 v55_0)).getD 0)) 0) - (l.getD (Int.toNat ((mget kl_86 rv_1.1.place rv_4).getD 0)) 0))]).length ≤ lim then
  nxt ((row ++ [wr ((l.getD (Int.toNat ((mget kl_86 rv_1.1.place (beat_spot.mk v49_0 v55_0)).getD 0)) 0) - (l.getD (Int.toNat ((mget kl_86 rv_1.1.place rv_4).getD 0)) 0))]), wr (v55_0 + 1))
  else none
  else none
  else none)
  (ext (if outv.length + ([row]).length ≤ lim then
  nxt ((outv ++ [row]), wr (v49_0 + 1))
  else none))
noncomputable def beat_Case_b2 (xv : BeatCellar) (rv_1 : (beat_cellar × Int)) (l : (List Int)) : ((List (List Int)) × Int) → Option (((List (List Int)) × Int) ⊕ ((List (List Int)) × Int))
 | (outv, v49_0) =>
  cond (decide (v49_0 < (xv.Rates.length : Int)))
  (loopU (beat_Case_b3 xv rv_1 l outv v49_0) (([] : List Int), 0))
  (ext (some (outv, 0)))
noncomputable def beat_Case_k1 (xv : BeatCellar) (rv_1 : (beat_cellar × Int)) (l : (List Int)) : Option ((List (List Int)) × Int) :=
  loopU (beat_Case_b2 xv rv_1 l) (([] : List (List Int)), 0)
noncomputable def beat_Case (xv : BeatCellar) (clock : Int) (hour : Int) (greatest : Bool) : Option ((List (List Int)) × Int) :=
  (beat_isSpot xv clock hour).bind fun rv =>
  (beat_asked xv rv).bind fun rv_1 =>
  cond (rv_1.2 != 0)
  (some (([] : List (List Int)), rv_1.2))
  ((beat_truth).bind fun rv_2 =>
  (beat_cellar_above rv_1.1 rv_2).bind fun rv_3 =>
  cond (!greatest)
  ((beat_cellar_above rv_1.1 (beat_spot.mk clock hour)).bind fun rv_5 =>
  beat_Case_k1 xv rv_1 rv_5.1)
  (beat_Case_k1 xv rv_1 rv_3.1))
theorem beat_Case_ok {w0 : World} {D0 : Stab} (hD : D0.on w0) (xv : BeatCellar) (clock : Int) (hour : Int) (greatest : Bool) {p : Option Addr} {c : Nat} {p_1 : Option Addr} {c_1 : Nat} {p_2 : Option Addr} {c_2 : Nat} (hs : SRc C_Span D0 xv.Rates p c) (hs_1 : SRc C_BeatOpen D0 xv.Opens p_1 c_1) (hs_2 : SRc C_BeatPair D0 xv.Pairs p_2 c_2) (hG : Glob D0) (out : ((List (List Int)) × Int)) (h : beat_Case xv clock hour greatest = some out) : Calls Tryd.prog 26 [.agg #[iv xv.Hours, .slice p xv.Rates.length c, .slice p_1 xv.Opens.length c_1, .slice p_2 xv.Pairs.length c_2], iv clock, iv hour, .bool greatest].toArray w0 (RetS D0 w0 fun D v => ∃ p_22 c_22, v = .tuple #[.slice p_22 out.1.length c_22, iv out.2] ∧ SRc (C_sl C_int) D out.1 p_22 c_22) := by
 refine enter _ 93 Tryd.func26 rfl Tryd.ntmps26 rfl fun a hF => ?_
 replace hF : Frm 93 [] [(0, .agg #[iv xv.Hours, .slice p xv.Rates.length c, .slice p_1 xv.Opens.length c_1, .slice p_2 xv.Pairs.length c_2]), (1, iv clock), (2, iv hour), (3, .bool greatest)] a := hF
 have hS := St.start hD
 unfold beat_Case at h
 refine seq (region (O.box (cs := [iv xv.Hours, .slice p xv.Rates.length c, .slice p_1 xv.Opens.length c_1, .slice p_2 xv.Pairs.length c_2]) 1 hF rfl rfl hS rfl fun b a w hF hS => step hF (Y.assign hF rfl) rfl fun a hF => step hF (Y.assign hF rfl) rfl fun a hF => nT (seq ?_)))
 obtain ⟨rv, hx, h⟩ := bind_some h
 obtain ⟨rv_1, hx_1, h⟩ := bind_some h
 refine drawsV 11 (.flt 0 (.flt 1 (.flt 2 (.flt 3 (.alt 4 (.alt 5 (.flt 6 (.flt 7 (.flt 8 (.alt 9 (.alt 10 .done .stop) .stop)))) (.alt 9 (.alt 5 (.flt 6 (.flt 7 (.flt 8 (.alt 10 .done .stop)))) .stop) .stop)) (.alt 9 (.alt 4 (.alt 5 (.flt 6 (.flt 7 (.flt 8 (.alt 10 .done .stop)))) .stop) .stop) .stop)))))) mixed_ (by kernel_rfl) (fun w => St w0 D0 D0 [(1, .cells b [iv xv.Hours, .slice p xv.Rates.length c, .slice p_1 xv.Opens.length c_1, .slice p_2 xv.Pairs.length c_2] 26)] w) (fun a w => ∃ (Dv_1 : Stab) (b_1 : Nat) (p_3 : Option Addr) (c_3 : Nat) (p_4 : Option Addr) (c_4 : Nat) (p_5 : Option Addr) (c_5 : Nat) (bm : Option Nat), D0.le Dv_1 ∧ Frm 93 [] [(1, iv clock), (2, iv hour), (3, .bool greatest), (4, .pointer (some ⟨b, 0, none⟩)), (8, .slice none 0 0), (9, iv 0), (10, .pointer (some ⟨b_1, 0, none⟩)), (26, iv rv_1.2)] a ∧ St w0 D0 Dv_1 [(1, .cells b [iv xv.Hours, .slice p xv.Rates.length c, .slice p_1 xv.Opens.length c_1, .slice p_2 xv.Pairs.length c_2] 26), (2, .cells b_1 [iv rv_1.1.BeatCellar.Hours, .slice p_3 rv_1.1.BeatCellar.Rates.length c_3, .slice p_4 rv_1.1.BeatCellar.Opens.length c_4, .slice p_5 rv_1.1.BeatCellar.Pairs.length c_5, iv rv_1.1.left, .map bm] 83)] w ∧ SRc C_Span Dv_1 rv_1.1.BeatCellar.Rates p_3 c_3 ∧ SRc C_BeatOpen Dv_1 rv_1.1.BeatCellar.Opens p_4 c_4 ∧ SRc C_BeatPair Dv_1 rv_1.1.BeatCellar.Pairs p_5 c_5 ∧ MapS kl_86 C_int false Dv_1 rv_1.1.place bm) (hS.weak (ms := [(1, .cells b [iv xv.Hours, .slice p xv.Rates.length c, .slice p_1 xv.Opens.length c_1, .slice p_2 xv.Pairs.length c_2] 26)]) ⟨rfl, trivial⟩).drew (fun _ _ _ _ h => h) ?_ ?_
 ·replace hS := hS.drew
  have hle0 := hS.le
  refine stepV (i := 0) rfl hF (fun w hS => Y.loadNL 1 sz_26 hF rfl hS rfl rfl rfl) rfl fun a hF => stepV (i := 1) rfl hF (fun w hS => Y.loadNL 1 sz_26 hF rfl hS rfl rfl rfl) rfl fun a hF => stepV (i := 2) rfl hF (fun w hS => Y.move hF rfl) rfl fun a hF => stepV (i := 3) rfl hF (fun w hS => Y.move hF rfl) rfl fun a hF => oneV (i := 4) rfl ?_ ?_
  ·skip
   refine O.callP (us := [.agg #[iv xv.Hours, .slice p xv.Rates.length c, .slice p_1 xv.Opens.length c_1, .slice p_2 xv.Pairs.length c_2], iv clock, iv hour]) ca_57 hF hS (beat_isSpot_ok hS.stab xv clock hour hs hs_1 hs_2 rv hx) rfl rfl fun a w hF hS => nT ⟨hS.weak (ms := [(1, .cells b [iv xv.Hours, .slice p xv.Rates.length c, .slice p_1 xv.Opens.length c_1, .slice p_2 xv.Pairs.length c_2] 26)]) ⟨rfl, trivial⟩, ?_⟩
   refine oneV (i := 5) rfl ?_ ?_
   ·skip
    refine O.callS (us := [.agg #[iv xv.Hours, .slice p xv.Rates.length c, .slice p_1 xv.Opens.length c_1, .slice p_2 xv.Pairs.length c_2], .bool rv]) ca_56 hF hS (beat_asked_ok hS.stab xv rv hs hs_1 hs_2 hG rv_1 hx_1) rfl rfl fun v_1 Dv_2 a w hR_1 hlev_1 hF hS => ?_
    obtain ⟨p_6, c_6, p_7, c_7, p_8, c_8, bm_1, rfl, hs_6, hs_7, hs_8, hm_1⟩ := hR_1
    refine nT ⟨(hS.weak (ms := [(1, .cells b [iv xv.Hours, .slice p xv.Rates.length c, .slice p_1 xv.Opens.length c_1, .slice p_2 xv.Pairs.length c_2] 26)]) ⟨rfl, trivial⟩).weakD hlev_1 hle0, ?_⟩
    refine stepV (i := 6) rfl hF (fun w hS => Y.move hF rfl) rfl fun a hF => stepV (i := 7) rfl hF (fun w hS => Y.extract hF rfl rfl) rfl fun a hF => stepV (i := 8) rfl hF (fun w hS => Y.extract hF rfl rfl) rfl fun a hF => oneV (i := 9) rfl ?_ trivial
    refine O.alloc 2 zc_83 hF hS rfl fun b_2 a w hF hS => nT ⟨(hS.weak (ms := [(1, .cells b [iv xv.Hours, .slice p xv.Rates.length c, .slice p_1 xv.Opens.length c_1, .slice p_2 xv.Pairs.length c_2] 26)]) ⟨rfl, trivial⟩).weakD hlev_1 hle0, ?_⟩
    refine oneV (i := 10) rfl ?_ trivial
    refine O.store (us := [iv rv_1.1.BeatCellar.Hours, .slice p_6 rv_1.1.BeatCellar.Rates.length c_6, .slice p_7 rv_1.1.BeatCellar.Opens.length c_7, .slice p_8 rv_1.1.BeatCellar.Pairs.length c_8, iv rv_1.1.left, .map bm_1]) 2 sz_83 hF rfl rfl rfl rfl hS rfl rfl fun a w hF hS => nT ⟨(hS.weak (ms := [(1, .cells b [iv xv.Hours, .slice p xv.Rates.length c, .slice p_1 xv.Opens.length c_1, .slice p_2 xv.Pairs.length c_2] 26)]) ⟨rfl, trivial⟩).weakD hlev_1 hle0, ?_⟩
    exact toTailV ⟨Dv_2, b_2, p_6, c_6, p_7, c_7, p_8, c_8, bm_1, hlev_1, hF.weak (AF rfl), hS.weak ⟨rfl, rfl, trivial⟩, hs_6, hs_7, hs_8, hm_1⟩
   refine oneV (i := 9) rfl ?_ trivial
   refine O.alloc 2 zc_83 hF hS rfl fun b_3 a w hF hS => nT ⟨hS.weak (ms := [(1, .cells b [iv xv.Hours, .slice p xv.Rates.length c, .slice p_1 xv.Opens.length c_1, .slice p_2 xv.Pairs.length c_2] 26)]) ⟨rfl, trivial⟩, ?_⟩
   refine oneV (i := 5) rfl ?_ trivial
   refine O.callS (us := [.agg #[iv xv.Hours, .slice p xv.Rates.length c, .slice p_1 xv.Opens.length c_1, .slice p_2 xv.Pairs.length c_2], .bool rv]) ca_56 hF hS (beat_asked_ok hS.stab xv rv hs hs_1 hs_2 hG rv_1 hx_1) rfl rfl fun v_2 Dv_3 a w hR_2 hlev_2 hF hS => ?_
   obtain ⟨p_9, c_9, p_10, c_10, p_11, c_11, bm_2, rfl, hs_9, hs_10, hs_11, hm_2⟩ := hR_2
   refine nT ⟨(hS.weak (ms := [(1, .cells b [iv xv.Hours, .slice p xv.Rates.length c, .slice p_1 xv.Opens.length c_1, .slice p_2 xv.Pairs.length c_2] 26)]) ⟨rfl, trivial⟩).weakD hlev_2 hle0, ?_⟩
   refine stepV (i := 6) rfl hF (fun w hS => Y.move hF rfl) rfl fun a hF => stepV (i := 7) rfl hF (fun w hS => Y.extract hF rfl rfl) rfl fun a hF => stepV (i := 8) rfl hF (fun w hS => Y.extract hF rfl rfl) rfl fun a hF => oneV (i := 10) rfl ?_ trivial
   refine O.store (us := [iv rv_1.1.BeatCellar.Hours, .slice p_9 rv_1.1.BeatCellar.Rates.length c_9, .slice p_10 rv_1.1.BeatCellar.Opens.length c_10, .slice p_11 rv_1.1.BeatCellar.Pairs.length c_11, iv rv_1.1.left, .map bm_2]) 2 sz_83 hF rfl rfl rfl rfl hS rfl rfl fun a w hF hS => nT ⟨(hS.weak (ms := [(1, .cells b [iv xv.Hours, .slice p xv.Rates.length c, .slice p_1 xv.Opens.length c_1, .slice p_2 xv.Pairs.length c_2] 26)]) ⟨rfl, trivial⟩).weakD hlev_2 hle0, ?_⟩
   exact toTailV ⟨Dv_3, b_3, p_9, c_9, p_10, c_10, p_11, c_11, bm_2, hlev_2, hF.weak (AF rfl), hS.weak ⟨rfl, rfl, trivial⟩, hs_9, hs_10, hs_11, hm_2⟩
  refine oneV (i := 9) rfl ?_ trivial
  refine O.alloc 2 zc_83 hF hS rfl fun b_4 a w hF hS => nT ⟨hS.weak (ms := [(1, .cells b [iv xv.Hours, .slice p xv.Rates.length c, .slice p_1 xv.Opens.length c_1, .slice p_2 xv.Pairs.length c_2] 26)]) ⟨rfl, trivial⟩, ?_⟩
  refine oneV (i := 4) rfl ?_ trivial
  refine O.callP (us := [.agg #[iv xv.Hours, .slice p xv.Rates.length c, .slice p_1 xv.Opens.length c_1, .slice p_2 xv.Pairs.length c_2], iv clock, iv hour]) ca_57 hF hS (beat_isSpot_ok hS.stab xv clock hour hs hs_1 hs_2 rv hx) rfl rfl fun a w hF hS => nT ⟨hS.weak (ms := [(1, .cells b [iv xv.Hours, .slice p xv.Rates.length c, .slice p_1 xv.Opens.length c_1, .slice p_2 xv.Pairs.length c_2] 26)]) ⟨rfl, trivial⟩, ?_⟩
  refine oneV (i := 5) rfl ?_ trivial
  refine O.callS (us := [.agg #[iv xv.Hours, .slice p xv.Rates.length c, .slice p_1 xv.Opens.length c_1, .slice p_2 xv.Pairs.length c_2], .bool rv]) ca_56 hF hS (beat_asked_ok hS.stab xv rv hs hs_1 hs_2 hG rv_1 hx_1) rfl rfl fun v_3 Dv_4 a w hR_3 hlev_3 hF hS => ?_
  obtain ⟨p_12, c_12, p_13, c_13, p_14, c_14, bm_3, rfl, hs_12, hs_13, hs_14, hm_3⟩ := hR_3
  refine nT ⟨(hS.weak (ms := [(1, .cells b [iv xv.Hours, .slice p xv.Rates.length c, .slice p_1 xv.Opens.length c_1, .slice p_2 xv.Pairs.length c_2] 26)]) ⟨rfl, trivial⟩).weakD hlev_3 hle0, ?_⟩
  refine stepV (i := 6) rfl hF (fun w hS => Y.move hF rfl) rfl fun a hF => stepV (i := 7) rfl hF (fun w hS => Y.extract hF rfl rfl) rfl fun a hF => stepV (i := 8) rfl hF (fun w hS => Y.extract hF rfl rfl) rfl fun a hF => oneV (i := 10) rfl ?_ trivial
  refine O.store (us := [iv rv_1.1.BeatCellar.Hours, .slice p_12 rv_1.1.BeatCellar.Rates.length c_12, .slice p_13 rv_1.1.BeatCellar.Opens.length c_13, .slice p_14 rv_1.1.BeatCellar.Pairs.length c_14, iv rv_1.1.left, .map bm_3]) 2 sz_83 hF rfl rfl rfl rfl hS rfl rfl fun a w hF hS => nT ⟨(hS.weak (ms := [(1, .cells b [iv xv.Hours, .slice p xv.Rates.length c, .slice p_1 xv.Opens.length c_1, .slice p_2 xv.Pairs.length c_2] 26)]) ⟨rfl, trivial⟩).weakD hlev_3 hle0, ?_⟩
  exact toTailV ⟨Dv_4, b_4, p_12, c_12, p_13, c_13, p_14, c_14, bm_3, hlev_3, hF.weak (AF rfl), hS.weak ⟨rfl, rfl, trivial⟩, hs_12, hs_13, hs_14, hm_3⟩
 rintro a w ⟨Dv_1, b_1, p_3, c_3, p_4, c_4, p_5, c_5, bm, hle, hF, hS, hj, hj_1, hj_2, hj_3⟩
 have hlev_4 := hle
 replace hG := hG.mono hlev_4
 refine step hF (Y.assign hF rfl) rfl fun a hF => nT (seq (seq (region (step hF (Y.move hF rfl) rfl fun a hF => step hF (Y.neq hF rfl rfl) rfl fun a hF => nT (cond_b hF rfl (fun hbv => ?_) (fun hbv => ?_))))))
 ·replace h := cond_t h hbv
  refine seq (region (step hF (Y.move hF rfl) rfl fun a hF => step hF (Y.assign hF rfl) rfl fun a hF => step hF (Y.assign hF rfl) rfl fun a hF => nT (ret_ (then_r ?_))))
  obtain rfl := some_inj h
  exact leaveS Tryd.results26 hF hS (.cons (.tmp rfl) (.cons (.tmp rfl) .nil)) .nil ⟨_, _, rfl, SRc.nil⟩
 replace h := cond_f h hbv
 refine skip_ (then_n (seq ?_))
 obtain ⟨rv_2, hx_2, h⟩ := bind_some h
 obtain ⟨rv_3, hx_3, h⟩ := bind_some h
 refine drawsV 8 (.flt 0 (.alt 1 (.alt 2 (.flt 3 (.flt 4 (.flt 5 (.alt 6 (.alt 7 .done .stop) .stop)))) (.alt 6 (.alt 2 (.flt 3 (.flt 4 (.flt 5 (.alt 7 .done .stop)))) .stop) .stop)) (.alt 6 (.alt 1 (.alt 2 (.flt 3 (.flt 4 (.flt 5 (.alt 7 .done .stop)))) .stop) .stop) .stop))) mixed_ (by kernel_rfl) (fun w => St w0 D0 Dv_1 [(1, .cells b [iv xv.Hours, .slice p xv.Rates.length c, .slice p_1 xv.Opens.length c_1, .slice p_2 xv.Pairs.length c_2] 26), (2, .cells b_1 [iv rv_1.1.BeatCellar.Hours, .slice p_3 rv_1.1.BeatCellar.Rates.length c_3, .slice p_4 rv_1.1.BeatCellar.Opens.length c_4, .slice p_5 rv_1.1.BeatCellar.Pairs.length c_5, iv rv_1.1.left, .map bm] 83)] w) (fun a w => ∃ (Dv_6 : Stab) (b_5 : Nat), Dv_1.le Dv_6 ∧ Frm 93 [] [(1, iv clock), (2, iv hour), (3, .bool greatest), (4, .pointer (some ⟨b, 0, none⟩)), (8, .slice none 0 0), (9, iv 0), (10, .pointer (some ⟨b_1, 0, none⟩)), (12, .pointer (some ⟨b_5, 0, none⟩)), (35, .bool rv_3.2)] a ∧ St w0 D0 Dv_6 [(1, .cells b [iv xv.Hours, .slice p xv.Rates.length c, .slice p_1 xv.Opens.length c_1, .slice p_2 xv.Pairs.length c_2] 26), (2, .cells b_1 [iv rv_1.1.BeatCellar.Hours, .slice p_3 rv_1.1.BeatCellar.Rates.length c_3, .slice p_4 rv_1.1.BeatCellar.Opens.length c_4, .slice p_5 rv_1.1.BeatCellar.Pairs.length c_5, iv rv_1.1.left, .map bm] 83), (3, .cells b_5 (arr celI rv_3.1) 102)] w ∧ rv_3.1.length = 66) (hS.weak (ms := [(1, .cells b [iv xv.Hours, .slice p xv.Rates.length c, .slice p_1 xv.Opens.length c_1, .slice p_2 xv.Pairs.length c_2] 26), (2, .cells b_1 [iv rv_1.1.BeatCellar.Hours, .slice p_3 rv_1.1.BeatCellar.Rates.length c_3, .slice p_4 rv_1.1.BeatCellar.Opens.length c_4, .slice p_5 rv_1.1.BeatCellar.Pairs.length c_5, iv rv_1.1.left, .map bm] 83)]) ⟨rfl, rfl, trivial⟩).drew (fun _ _ _ _ h => h) ?_ ?_
 ·replace hS := hS.drew
  have hle0 := hS.le
  refine stepV (i := 0) rfl hF (fun w hS => Y.loadNL 2 sz_83 hF rfl hS rfl rfl rfl) rfl fun a hF => oneV (i := 1) rfl ?_ ?_
  ·skip
   refine O.callP (us := []) ca_51 hF hS (beat_truth_ok hS.stab rv_2 hx_2) rfl rfl fun a w hF hS => nT ⟨hS.weak (ms := [(1, .cells b [iv xv.Hours, .slice p xv.Rates.length c, .slice p_1 xv.Opens.length c_1, .slice p_2 xv.Pairs.length c_2] 26), (2, .cells b_1 [iv rv_1.1.BeatCellar.Hours, .slice p_3 rv_1.1.BeatCellar.Rates.length c_3, .slice p_4 rv_1.1.BeatCellar.Opens.length c_4, .slice p_5 rv_1.1.BeatCellar.Pairs.length c_5, iv rv_1.1.left, .map bm] 83)]) ⟨rfl, rfl, trivial⟩, ?_⟩
   refine oneV (i := 2) rfl ?_ ?_
   ·skip
    refine O.callS (us := [.agg #[iv rv_1.1.BeatCellar.Hours, .slice p_3 rv_1.1.BeatCellar.Rates.length c_3, .slice p_4 rv_1.1.BeatCellar.Opens.length c_4, .slice p_5 rv_1.1.BeatCellar.Pairs.length c_5, iv rv_1.1.left, .map bm], .agg #[iv rv_2.clock, iv rv_2.hour]]) ca_60 hF hS (beat_cellar_above_ok hS.stab rv_1.1 rv_2 hj hj_1 hj_2 hj_3 hG rv_3 hx_3) rfl rfl fun v_5 Dv_7 a w hR_5 hlev_6 hF hS => ?_
    obtain ⟨rfl, hn_1⟩ := hR_5
    refine nT ⟨(hS.weak (ms := [(1, .cells b [iv xv.Hours, .slice p xv.Rates.length c, .slice p_1 xv.Opens.length c_1, .slice p_2 xv.Pairs.length c_2] 26), (2, .cells b_1 [iv rv_1.1.BeatCellar.Hours, .slice p_3 rv_1.1.BeatCellar.Rates.length c_3, .slice p_4 rv_1.1.BeatCellar.Opens.length c_4, .slice p_5 rv_1.1.BeatCellar.Pairs.length c_5, iv rv_1.1.left, .map bm] 83)]) ⟨rfl, rfl, trivial⟩).weakD hlev_6 hle0, ?_⟩
    refine stepV (i := 3) rfl hF (fun w hS => Y.move hF rfl) rfl fun a hF => stepV (i := 4) rfl hF (fun w hS => Y.extract hF rfl rfl) rfl fun a hF => stepV (i := 5) rfl hF (fun w hS => Y.extract hF rfl rfl) rfl fun a hF => oneV (i := 6) rfl ?_ trivial
    refine O.alloc 3 zc_102 hF hS rfl fun b_6 a w hF hS => nT ⟨(hS.weak (ms := [(1, .cells b [iv xv.Hours, .slice p xv.Rates.length c, .slice p_1 xv.Opens.length c_1, .slice p_2 xv.Pairs.length c_2] 26), (2, .cells b_1 [iv rv_1.1.BeatCellar.Hours, .slice p_3 rv_1.1.BeatCellar.Rates.length c_3, .slice p_4 rv_1.1.BeatCellar.Opens.length c_4, .slice p_5 rv_1.1.BeatCellar.Pairs.length c_5, iv rv_1.1.left, .map bm] 83)]) ⟨rfl, rfl, trivial⟩).weakD hlev_6 hle0, ?_⟩
    refine oneV (i := 7) rfl ?_ trivial
    refine O.storeW (F := celI) 3 sz_102 List.length_replicate hn_1 hF rfl rfl hS rfl fun a w hF hS => nT ⟨(hS.weak (ms := [(1, .cells b [iv xv.Hours, .slice p xv.Rates.length c, .slice p_1 xv.Opens.length c_1, .slice p_2 xv.Pairs.length c_2] 26), (2, .cells b_1 [iv rv_1.1.BeatCellar.Hours, .slice p_3 rv_1.1.BeatCellar.Rates.length c_3, .slice p_4 rv_1.1.BeatCellar.Opens.length c_4, .slice p_5 rv_1.1.BeatCellar.Pairs.length c_5, iv rv_1.1.left, .map bm] 83)]) ⟨rfl, rfl, trivial⟩).weakD hlev_6 hle0, ?_⟩
    exact toTailV ⟨Dv_7, b_6, hlev_6, hF.weak (AF rfl), hS.weak (AL rfl), hn_1⟩
   refine oneV (i := 6) rfl ?_ trivial
   refine O.alloc 3 zc_102 hF hS rfl fun b_7 a w hF hS => nT ⟨hS.weak (ms := [(1, .cells b [iv xv.Hours, .slice p xv.Rates.length c, .slice p_1 xv.Opens.length c_1, .slice p_2 xv.Pairs.length c_2] 26), (2, .cells b_1 [iv rv_1.1.BeatCellar.Hours, .slice p_3 rv_1.1.BeatCellar.Rates.length c_3, .slice p_4 rv_1.1.BeatCellar.Opens.length c_4, .slice p_5 rv_1.1.BeatCellar.Pairs.length c_5, iv rv_1.1.left, .map bm] 83)]) ⟨rfl, rfl, trivial⟩, ?_⟩
   refine oneV (i := 2) rfl ?_ trivial
   refine O.callS (us := [.agg #[iv rv_1.1.BeatCellar.Hours, .slice p_3 rv_1.1.BeatCellar.Rates.length c_3, .slice p_4 rv_1.1.BeatCellar.Opens.length c_4, .slice p_5 rv_1.1.BeatCellar.Pairs.length c_5, iv rv_1.1.left, .map bm], .agg #[iv rv_2.clock, iv rv_2.hour]]) ca_60 hF hS (beat_cellar_above_ok hS.stab rv_1.1 rv_2 hj hj_1 hj_2 hj_3 hG rv_3 hx_3) rfl rfl fun v_6 Dv_8 a w hR_6 hlev_7 hF hS => ?_
   obtain ⟨rfl, hn_2⟩ := hR_6
   refine nT ⟨(hS.weak (ms := [(1, .cells b [iv xv.Hours, .slice p xv.Rates.length c, .slice p_1 xv.Opens.length c_1, .slice p_2 xv.Pairs.length c_2] 26), (2, .cells b_1 [iv rv_1.1.BeatCellar.Hours, .slice p_3 rv_1.1.BeatCellar.Rates.length c_3, .slice p_4 rv_1.1.BeatCellar.Opens.length c_4, .slice p_5 rv_1.1.BeatCellar.Pairs.length c_5, iv rv_1.1.left, .map bm] 83)]) ⟨rfl, rfl, trivial⟩).weakD hlev_7 hle0, ?_⟩
   refine stepV (i := 3) rfl hF (fun w hS => Y.move hF rfl) rfl fun a hF => stepV (i := 4) rfl hF (fun w hS => Y.extract hF rfl rfl) rfl fun a hF => stepV (i := 5) rfl hF (fun w hS => Y.extract hF rfl rfl) rfl fun a hF => oneV (i := 7) rfl ?_ trivial
   refine O.storeW (F := celI) 3 sz_102 List.length_replicate hn_2 hF rfl rfl hS rfl fun a w hF hS => nT ⟨(hS.weak (ms := [(1, .cells b [iv xv.Hours, .slice p xv.Rates.length c, .slice p_1 xv.Opens.length c_1, .slice p_2 xv.Pairs.length c_2] 26), (2, .cells b_1 [iv rv_1.1.BeatCellar.Hours, .slice p_3 rv_1.1.BeatCellar.Rates.length c_3, .slice p_4 rv_1.1.BeatCellar.Opens.length c_4, .slice p_5 rv_1.1.BeatCellar.Pairs.length c_5, iv rv_1.1.left, .map bm] 83)]) ⟨rfl, rfl, trivial⟩).weakD hlev_7 hle0, ?_⟩
   exact toTailV ⟨Dv_8, b_7, hlev_7, hF.weak (AF rfl), hS.weak (AL rfl), hn_2⟩
  refine oneV (i := 6) rfl ?_ trivial
  refine O.alloc 3 zc_102 hF hS rfl fun b_8 a w hF hS => nT ⟨hS.weak (ms := [(1, .cells b [iv xv.Hours, .slice p xv.Rates.length c, .slice p_1 xv.Opens.length c_1, .slice p_2 xv.Pairs.length c_2] 26), (2, .cells b_1 [iv rv_1.1.BeatCellar.Hours, .slice p_3 rv_1.1.BeatCellar.Rates.length c_3, .slice p_4 rv_1.1.BeatCellar.Opens.length c_4, .slice p_5 rv_1.1.BeatCellar.Pairs.length c_5, iv rv_1.1.left, .map bm] 83)]) ⟨rfl, rfl, trivial⟩, ?_⟩
  refine oneV (i := 1) rfl ?_ trivial
  refine O.callP (us := []) ca_51 hF hS (beat_truth_ok hS.stab rv_2 hx_2) rfl rfl fun a w hF hS => nT ⟨hS.weak (ms := [(1, .cells b [iv xv.Hours, .slice p xv.Rates.length c, .slice p_1 xv.Opens.length c_1, .slice p_2 xv.Pairs.length c_2] 26), (2, .cells b_1 [iv rv_1.1.BeatCellar.Hours, .slice p_3 rv_1.1.BeatCellar.Rates.length c_3, .slice p_4 rv_1.1.BeatCellar.Opens.length c_4, .slice p_5 rv_1.1.BeatCellar.Pairs.length c_5, iv rv_1.1.left, .map bm] 83)]) ⟨rfl, rfl, trivial⟩, ?_⟩
  refine oneV (i := 2) rfl ?_ trivial
  refine O.callS (us := [.agg #[iv rv_1.1.BeatCellar.Hours, .slice p_3 rv_1.1.BeatCellar.Rates.length c_3, .slice p_4 rv_1.1.BeatCellar.Opens.length c_4, .slice p_5 rv_1.1.BeatCellar.Pairs.length c_5, iv rv_1.1.left, .map bm], .agg #[iv rv_2.clock, iv rv_2.hour]]) ca_60 hF hS (beat_cellar_above_ok hS.stab rv_1.1 rv_2 hj hj_1 hj_2 hj_3 hG rv_3 hx_3) rfl rfl fun v_7 Dv_9 a w hR_7 hlev_8 hF hS => ?_
  obtain ⟨rfl, hn_3⟩ := hR_7
  refine nT ⟨(hS.weak (ms := [(1, .cells b [iv xv.Hours, .slice p xv.Rates.length c, .slice p_1 xv.Opens.length c_1, .slice p_2 xv.Pairs.length c_2] 26), (2, .cells b_1 [iv rv_1.1.BeatCellar.Hours, .slice p_3 rv_1.1.BeatCellar.Rates.length c_3, .slice p_4 rv_1.1.BeatCellar.Opens.length c_4, .slice p_5 rv_1.1.BeatCellar.Pairs.length c_5, iv rv_1.1.left, .map bm] 83)]) ⟨rfl, rfl, trivial⟩).weakD hlev_8 hle0, ?_⟩
  refine stepV (i := 3) rfl hF (fun w hS => Y.move hF rfl) rfl fun a hF => stepV (i := 4) rfl hF (fun w hS => Y.extract hF rfl rfl) rfl fun a hF => stepV (i := 5) rfl hF (fun w hS => Y.extract hF rfl rfl) rfl fun a hF => oneV (i := 7) rfl ?_ trivial
  refine O.storeW (F := celI) 3 sz_102 List.length_replicate hn_3 hF rfl rfl hS rfl fun a w hF hS => nT ⟨(hS.weak (ms := [(1, .cells b [iv xv.Hours, .slice p xv.Rates.length c, .slice p_1 xv.Opens.length c_1, .slice p_2 xv.Pairs.length c_2] 26), (2, .cells b_1 [iv rv_1.1.BeatCellar.Hours, .slice p_3 rv_1.1.BeatCellar.Rates.length c_3, .slice p_4 rv_1.1.BeatCellar.Opens.length c_4, .slice p_5 rv_1.1.BeatCellar.Pairs.length c_5, iv rv_1.1.left, .map bm] 83)]) ⟨rfl, rfl, trivial⟩).weakD hlev_8 hle0, ?_⟩
  exact toTailV ⟨Dv_9, b_8, hlev_8, hF.weak (AF rfl), hS.weak (AL rfl), hn_3⟩
 rintro a w ⟨Dv_6, b_5, hle, hF, hS, hj_4⟩
 have hlev_9 := hle
 replace hG := hG.mono hlev_9
 replace hj := hj.mono hlev_9
 replace hj_1 := hj_1.mono hlev_9
 replace hj_2 := hj_2.mono hlev_9
 replace hj_3 := hj_3.mono hlev_9
 refine step hF (Y.assign hF rfl) rfl fun a hF => nT (seq_cut (fun a w => ∃ (l : (List Int)), ∃ (Dv_10 : Stab), Dv_6.le Dv_10 ∧ Frm 93 [] [(4, .pointer (some ⟨b, 0, none⟩)), (8, .slice none 0 0), (9, iv 0), (10, .pointer (some ⟨b_1, 0, none⟩)), (12, .pointer (some ⟨b_5, 0, none⟩))] a ∧ St w0 D0 Dv_10 [(1, .cells b [iv xv.Hours, .slice p xv.Rates.length c, .slice p_1 xv.Opens.length c_1, .slice p_2 xv.Pairs.length c_2] 26), (2, .cells b_1 [iv rv_1.1.BeatCellar.Hours, .slice p_3 rv_1.1.BeatCellar.Rates.length c_3, .slice p_4 rv_1.1.BeatCellar.Opens.length c_4, .slice p_5 rv_1.1.BeatCellar.Pairs.length c_5, iv rv_1.1.left, .map bm] 83), (3, .cells b_5 (arr celI l) 102)] w ∧ l.length = 66 ∧ beat_Case_k1 xv rv_1 l = some out) ?_ ?_)
 ·skip
  refine seq (region (step hF (Y.move hF rfl) rfl fun a hF => step hF (Y.not hF rfl) rfl fun a hF => nT (cond_b hF rfl (fun hbv_3 => ?_) (fun hbv_3 => ?_))))
  ·replace h := cond_t h hbv_3
   refine region (step hF (Y.loadNL 2 sz_83 hF rfl hS rfl rfl rfl) rfl fun a hF => step hF (Y.move hF rfl) rfl fun a hF => step hF (Y.move hF rfl) rfl fun a hF => step hF (Y.build (parts := [(0, (.tmp 40)), (1, (.tmp 41))]) (cs := #[iv clock, iv hour]) hF rfl (by kernel_rfl)) rfl fun a hF => ?_)
   obtain ⟨rv_5, hx_5, h⟩ := bind_some h
   refine O.callS (us := [.agg #[iv rv_1.1.BeatCellar.Hours, .slice p_3 rv_1.1.BeatCellar.Rates.length c_3, .slice p_4 rv_1.1.BeatCellar.Opens.length c_4, .slice p_5 rv_1.1.BeatCellar.Pairs.length c_5, iv rv_1.1.left, .map bm], .agg #[iv clock, iv hour]]) ca_60 hF hS (beat_cellar_above_ok hS.stab rv_1.1 (beat_spot.mk clock hour) hj hj_1 hj_2 hj_3 hG rv_5 hx_5) rfl rfl fun v_8 Dv_14 a w hR_8 hlev_14 hF hS => ?_
   obtain ⟨rfl, hn_5⟩ := hR_8
   refine step hF (Y.move hF rfl) rfl fun a hF => step hF (Y.extract hF rfl rfl) rfl fun a hF => step hF (Y.extract hF rfl rfl) rfl fun a hF => O.storeW (F := celI) 3 sz_102 hj_4 hn_5 hF rfl rfl hS rfl fun a w hF hS => nT (⟨rv_5.1, Dv_14, hlev_14, hF.weak (AF rfl), hS.weak (AL rfl), hn_5, h⟩)
  replace h := cond_f h hbv_3
  refine skip_ (then_n (⟨rv_3.1, Dv_6, Stab.le.refl _, hF.weak (AF rfl), hS.weak (AL rfl), hj_4, h⟩))
 rintro a w ⟨l, Dv_10, hlev_10, hF, hS, hn_4, h⟩
 unfold beat_Case_k1 at h
 replace hj_3 := hj_3.mono hlev_10
 refine seq (region (step hF (Y.assign hF rfl) rfl fun a hF => ?_))
 replace hS := hS.ownNil 4 44 1
 refine nT (seq (seq (region (step hF (Y.fieldAddr fo_26_1 hF rfl) rfl fun a hF => step hF (Y.load1L 1 sz_22 hF rfl hS rfl rfl) rfl fun a hF => step hF (Y.lenSl u_22 hF rfl) rfl fun a hF => step hF (Y.move hF rfl) rfl fun a hF => nT (block (loop_cut (body := beat_Case_b2 xv rv_1 l) (out := out) (fun s a w => ∃ (outv : (List (List Int))) (v49_0 : Int), ∃ (Dv_11 : Stab), ∃ p_15 c_15 cs, s = (outv, v49_0) ∧ Dv_10.le Dv_11 ∧ Frm 93 [] [(4, .pointer (some ⟨b, 0, none⟩)), (8, .slice none 0 0), (9, iv 0), (10, .pointer (some ⟨b_1, 0, none⟩)), (12, .pointer (some ⟨b_5, 0, none⟩)), (14, .slice p_15 outv.length c_15), (48, iv (xv.Rates.length : Int)), (49, iv v49_0)] a ∧ St w0 D0 Dv_11 [(1, .cells b [iv xv.Hours, .slice p xv.Rates.length c, .slice p_1 xv.Opens.length c_1, .slice p_2 xv.Pairs.length c_2] 26), (2, .cells b_1 [iv rv_1.1.BeatCellar.Hours, .slice p_3 rv_1.1.BeatCellar.Rates.length c_3, .slice p_4 rv_1.1.BeatCellar.Opens.length c_4, .slice p_5 rv_1.1.BeatCellar.Pairs.length c_5, iv rv_1.1.left, .map bm] 83), (3, .cells b_5 (arr celI l) 102), (4, .own p_15 outv.length c_15 cs 44 1)] w ∧ Reps (C_sl C_int) Dv_11 outv cs) (([] : List (List Int)), 0) h ⟨([] : List (List Int)), 0, Dv_10, none, 0, ([]), rfl, Stab.le.refl _, hF.weak (AF rfl), hS.weak (AL rfl), Reps.nil⟩ ?_))))))
 rintro s a w xo ⟨outv, v49_0, Dv_11, p_15, c_15, cs, rfl, hlev_11, hF, hS, hr⟩ h hxo
 unfold beat_Case_b2 at h
 dsimp only at h
 replace hj_3 := hj_3.mono hlev_11
 refine seq (region (step hF (Y.lss hF rfl rfl) rfl fun a hF => nT (seq (cond_b hF rfl (fun hbv_1 => ?_) (fun hbv_1 => ?_)))))
 ·replace h := cond_t h hbv_1
  refine skip_ (then_n (seq (block (seq (region (step hF (Y.move hF rfl) rfl fun a hF => step hF (Y.assign hF rfl) rfl fun a hF => nT (seq (region (step hF (Y.assign hF rfl) rfl fun a hF => ?_)))))))))
  replace hS := hS.ownNil 5 3 1
  refine nT (seq (seq (region (step hF (Y.fieldAddr fo_26_0 hF rfl) rfl fun a hF => step hF (Y.load1L 1 sz_3 hF rfl hS rfl rfl) rfl fun a hF => step hF (Y.add hF rfl rfl) rfl fun a hF => step hF (Y.move hF rfl) rfl fun a hF => nT (block (loop_cut (body := beat_Case_b3 xv rv_1 l outv v49_0) (out := xo) (fun s a w => ∃ (row : (List Int)) (v55_0 : Int), ∃ p_16 c_16 cs_1, s = (row, v55_0) ∧ Frm 93 [] [(4, .pointer (some ⟨b, 0, none⟩)), (8, .slice none 0 0), (9, iv 0), (10, .pointer (some ⟨b_1, 0, none⟩)), (12, .pointer (some ⟨b_5, 0, none⟩)), (14, .slice p_15 outv.length c_15), (15, iv v49_0), (16, .slice p_16 row.length c_16), (48, iv (xv.Rates.length : Int)), (49, iv v49_0), (54, iv (wr (xv.Hours + 1))), (55, iv v55_0)] a ∧ St w0 D0 Dv_11 [(1, .cells b [iv xv.Hours, .slice p xv.Rates.length c, .slice p_1 xv.Opens.length c_1, .slice p_2 xv.Pairs.length c_2] 26), (2, .cells b_1 [iv rv_1.1.BeatCellar.Hours, .slice p_3 rv_1.1.BeatCellar.Rates.length c_3, .slice p_4 rv_1.1.BeatCellar.Opens.length c_4, .slice p_5 rv_1.1.BeatCellar.Pairs.length c_5, iv rv_1.1.left, .map bm] 83), (3, .cells b_5 (arr celI l) 102), (4, .own p_15 outv.length c_15 cs 44 1), (5, .own p_16 row.length c_16 cs_1 3 1)] w ∧ Reps C_int Dv_11 row cs_1) (([] : List Int), 0) h ⟨([] : List Int), 0, none, 0, ([]), rfl, hF.weak (AF rfl), hS.weak (AL rfl), Reps.nil⟩ ?_))))))
  rintro s a w xo_1 ⟨row, v55_0, p_16, c_16, cs_1, rfl, hF, hS, hr_1⟩ h hxo_1
  unfold beat_Case_b3 at h
  dsimp only at h
  refine seq (region (step hF (Y.lss hF rfl rfl) rfl fun a hF => nT (seq (cond_b hF rfl (fun hbv_2 => ?_) (fun hbv_2 => ?_)))))
  ·replace h := cond_t h hbv_2
   refine skip_ (then_n (seq (block (seq (region (step hF (Y.move hF rfl) rfl fun a hF => step hF (Y.assign hF rfl) rfl fun a hF => nT ?_))))))
   obtain ⟨hg, h⟩ := ite_some h
   obtain ⟨rv_4, hx_4, h⟩ := bind_some h
   obtain ⟨hg_1, h⟩ := ite_some h
   refine drawsV 17 (.flt 0 (.flt 1 (.flt 2 (.flt 3 (.flt 4 (.flt 5 (.flt 6 (.flt 7 (.flt 8 (.flt 9 (.flt 10 (.alt 11 (.flt 12 (.flt 13 (.flt 14 (.flt 15 (.alt 16 .done .stop))))) .stop)))))))))))) mixed_ (by kernel_rfl) (fun w => St w0 D0 Dv_11 [(1, .cells b [iv xv.Hours, .slice p xv.Rates.length c, .slice p_1 xv.Opens.length c_1, .slice p_2 xv.Pairs.length c_2] 26), (2, .cells b_1 [iv rv_1.1.BeatCellar.Hours, .slice p_3 rv_1.1.BeatCellar.Rates.length c_3, .slice p_4 rv_1.1.BeatCellar.Opens.length c_4, .slice p_5 rv_1.1.BeatCellar.Pairs.length c_5, iv rv_1.1.left, .map bm] 83), (3, .cells b_5 (arr celI l) 102), (4, .own p_15 outv.length c_15 cs 44 1), (5, .own p_16 row.length c_16 cs_1 3 1)] w) (fun a w => ∃ (p_17 : Option Addr) (c_17 : Nat) (cs_2 : List Value), Frm 93 [] [(4, .pointer (some ⟨b, 0, none⟩)), (8, .slice none 0 0), (9, iv 0), (10, .pointer (some ⟨b_1, 0, none⟩)), (12, .pointer (some ⟨b_5, 0, none⟩)), (14, .slice p_15 outv.length c_15), (15, iv v49_0), (16, .slice p_16 row.length c_16), (48, iv (xv.Rates.length : Int)), (49, iv v49_0), (54, iv (wr (xv.Hours + 1))), (55, iv v55_0), (58, .slice p_16 row.length c_16), (74, .slice p_17 ([wr ((l.getD (Int.toNat ((mget kl_86 rv_1.1.place (beat_spot.mk v49_0 v55_0)).getD 0)) 0) - (l.getD (Int.toNat ((mget kl_86 rv_1.1.place rv_4).getD 0)) 0))]).length c_17)] a ∧ St w0 D0 Dv_11 [(1, .cells b [iv xv.Hours, .slice p xv.Rates.length c, .slice p_1 xv.Opens.length c_1, .slice p_2 xv.Pairs.length c_2] 26), (2, .cells b_1 [iv rv_1.1.BeatCellar.Hours, .slice p_3 rv_1.1.BeatCellar.Rates.length c_3, .slice p_4 rv_1.1.BeatCellar.Opens.length c_4, .slice p_5 rv_1.1.BeatCellar.Pairs.length c_5, iv rv_1.1.left, .map bm] 83), (3, .cells b_5 (arr celI l) 102), (4, .own p_15 outv.length c_15 cs 44 1), (5, .own p_16 row.length c_16 cs_1 3 1), (6, .own p_17 ([wr ((l.getD (Int.toNat ((mget kl_86 rv_1.1.place (beat_spot.mk v49_0 v55_0)).getD 0)) 0) - (l.getD (Int.toNat ((mget kl_86 rv_1.1.place rv_4).getD 0)) 0))]).length c_17 cs_2 3 1)] w ∧ Reps C_int Dv_11 ([wr ((l.getD (Int.toNat ((mget kl_86 rv_1.1.place (beat_spot.mk v49_0 v55_0)).getD 0)) 0) - (l.getD (Int.toNat ((mget kl_86 rv_1.1.place rv_4).getD 0)) 0))]) cs_2) (hS.weak (ms := [(1, .cells b [iv xv.Hours, .slice p xv.Rates.length c, .slice p_1 xv.Opens.length c_1, .slice p_2 xv.Pairs.length c_2] 26), (2, .cells b_1 [iv rv_1.1.BeatCellar.Hours, .slice p_3 rv_1.1.BeatCellar.Rates.length c_3, .slice p_4 rv_1.1.BeatCellar.Opens.length c_4, .slice p_5 rv_1.1.BeatCellar.Pairs.length c_5, iv rv_1.1.left, .map bm] 83), (3, .cells b_5 (arr celI l) 102), (4, .own p_15 outv.length c_15 cs 44 1), (5, .own p_16 row.length c_16 cs_1 3 1)]) (AL rfl)).drew (fun _ _ _ _ h => h) ?_ ?_
   ·replace hS := hS.drew
    have hle0 := hS.le
    refine stepV (i := 0) rfl hF (fun w hS => Y.move hF rfl) rfl fun a hF => stepV (i := 1) rfl hF (fun w hS => Y.fieldAddr fo_83_2 hF rfl) rfl fun a hF => stepV (i := 2) rfl hF (fun w hS => Y.load1L 2 sz_81 hF rfl hS rfl rfl) rfl fun a hF => stepV (i := 3) rfl hF (fun w hS => Y.move hF rfl) rfl fun a hF => stepV (i := 4) rfl hF (fun w hS => Y.move hF rfl) rfl fun a hF => stepV (i := 5) rfl hF (fun w hS => Y.build (parts := [(0, (.tmp 61)), (1, (.tmp 62))]) (cs := #[iv v49_0, iv v55_0]) hF rfl (by kernel_rfl)) rfl fun a hF => ?_
    obtain ⟨cc_2, hc_2, hY_2⟩ := Y.lookupS (kl := kl_86) (C := C_int) (agg := false) (xs := rv_1.1.place) (x := (.tmp 60)) (y := (.tmp 63)) (z := [iv 0]) (z0 := (0 : Int)) false  mt_81 (fun _ => rfl) rfl (beat_spot.mk v49_0 v55_0) hj_3 hF rfl rfl
    obtain rfl := hc_2
    refine stepV (i := 6) rfl hF (fun w hS => (show Yields _ _ _ _ (iv ((mget kl_86 rv_1.1.place (beat_spot.mk v49_0 v55_0)).getD 0)) from hY_2 hS.stab)) rfl fun a hF => stepV (i := 7) rfl hF (fun w hS => Y.indexArr u_102 sz_3 hF rfl rfl hg.1 hg.2) rfl fun a hF => stepV (i := 8) rfl hF (fun w hS => (show Yields _ _ _ _ (iv (l.getD (Int.toNat ((mget kl_86 rv_1.1.place (beat_spot.mk v49_0 v55_0)).getD 0)) 0)) from Y.load1A (F := celI) 3 0 sz_3 hn_4 hg hF rfl hS rfl)) rfl fun a hF => stepV (i := 9) rfl hF (fun w hS => Y.fieldAddr fo_83_2 hF rfl) rfl fun a hF => stepV (i := 10) rfl hF (fun w hS => Y.load1L 2 sz_81 hF rfl hS rfl rfl) rfl fun a hF => oneV (i := 11) rfl ?_ trivial
    refine O.callP (us := []) ca_51 hF hS (beat_truth_ok hS.stab rv_4 hx_4) rfl rfl fun a w hF hS => nT ⟨hS.weak (ms := [(1, .cells b [iv xv.Hours, .slice p xv.Rates.length c, .slice p_1 xv.Opens.length c_1, .slice p_2 xv.Pairs.length c_2] 26), (2, .cells b_1 [iv rv_1.1.BeatCellar.Hours, .slice p_3 rv_1.1.BeatCellar.Rates.length c_3, .slice p_4 rv_1.1.BeatCellar.Opens.length c_4, .slice p_5 rv_1.1.BeatCellar.Pairs.length c_5, iv rv_1.1.left, .map bm] 83), (3, .cells b_5 (arr celI l) 102), (4, .own p_15 outv.length c_15 cs 44 1), (5, .own p_16 row.length c_16 cs_1 3 1)]) (AL rfl), ?_⟩
    obtain ⟨cc_3, hc_3, hY_3⟩ := Y.lookupS (kl := kl_86) (C := C_int) (agg := false) (xs := rv_1.1.place) (x := (.tmp 68)) (y := (.tmp 69)) (z := [iv 0]) (z0 := (0 : Int)) false  mt_81 (fun _ => rfl) rfl rv_4 hj_3 hF rfl rfl
    obtain rfl := hc_3
    refine stepV (i := 12) rfl hF (fun w hS => (show Yields _ _ _ _ (iv ((mget kl_86 rv_1.1.place rv_4).getD 0)) from hY_3 hS.stab)) rfl fun a hF => stepV (i := 13) rfl hF (fun w hS => Y.indexArr u_102 sz_3 hF rfl rfl hg_1.1 hg_1.2) rfl fun a hF => stepV (i := 14) rfl hF (fun w hS => (show Yields _ _ _ _ (iv (l.getD (Int.toNat ((mget kl_86 rv_1.1.place rv_4).getD 0)) 0)) from Y.load1A (F := celI) 3 0 sz_3 hn_4 hg_1 hF rfl hS rfl)) rfl fun a hF => stepV (i := 15) rfl hF (fun w hS => Y.sub hF rfl rfl) rfl fun a hF => oneV (i := 16) rfl ?_ trivial
    have hr_3 : Reps C_int Dv_11 [wr ((l.getD (Int.toNat ((mget kl_86 rv_1.1.place (beat_spot.mk v49_0 v55_0)).getD 0)) 0) - (l.getD (Int.toNat ((mget kl_86 rv_1.1.place rv_4).getD 0)) 0))] [iv (wr ((l.getD (Int.toNat ((mget kl_86 rv_1.1.place (beat_spot.mk v49_0 v55_0)).getD 0)) 0) - (l.getD (Int.toNat ((mget kl_86 rv_1.1.place rv_4).getD 0)) 0)))] := Reps.cons (C := C_int) (x := wr ((l.getD (Int.toNat ((mget kl_86 rv_1.1.place (beat_spot.mk v49_0 v55_0)).getD 0)) 0) - (l.getD (Int.toNat ((mget kl_86 rv_1.1.place rv_4).getD 0)) 0))) (c := [iv (wr ((l.getD (Int.toNat ((mget kl_86 rv_1.1.place (beat_spot.mk v49_0 v55_0)).getD 0)) 0) - (l.getD (Int.toNat ((mget kl_86 rv_1.1.place rv_4).getD 0)) 0)))]) (r := []) rfl (Reps.nil)
    refine O.buildSlice (E := 3) (C := C_int) (xs := [wr ((l.getD (Int.toNat ((mget kl_86 rv_1.1.place (beat_spot.mk v49_0 v55_0)).getD 0)) 0) - (l.getD (Int.toNat ((mget kl_86 rv_1.1.place rv_4).getD 0)) 0))]) (cs := [iv (wr ((l.getD (Int.toNat ((mget kl_86 rv_1.1.place (beat_spot.mk v49_0 v55_0)).getD 0)) 0) - (l.getD (Int.toNat ((mget kl_86 rv_1.1.place rv_4).getD 0)) 0)))]) (us := [iv (wr ((l.getD (Int.toNat ((mget kl_86 rv_1.1.place (beat_spot.mk v49_0 v55_0)).getD 0)) 0) - (l.getD (Int.toNat ((mget kl_86 rv_1.1.place rv_4).getD 0)) 0)))]) (parts := [(0, (.tmp 73))]) 6 hF hS rfl (by kernel_rfl) hr_3 rfl rfl rfl fun p_18 c_18 a w hF hS => nT ⟨hS.weak (ms := [(1, .cells b [iv xv.Hours, .slice p xv.Rates.length c, .slice p_1 xv.Opens.length c_1, .slice p_2 xv.Pairs.length c_2] 26), (2, .cells b_1 [iv rv_1.1.BeatCellar.Hours, .slice p_3 rv_1.1.BeatCellar.Rates.length c_3, .slice p_4 rv_1.1.BeatCellar.Opens.length c_4, .slice p_5 rv_1.1.BeatCellar.Pairs.length c_5, iv rv_1.1.left, .map bm] 83), (3, .cells b_5 (arr celI l) 102), (4, .own p_15 outv.length c_15 cs 44 1), (5, .own p_16 row.length c_16 cs_1 3 1)]) (AL rfl), ?_⟩
    exact toTailV ⟨p_18, c_18, ([iv (wr ((l.getD (Int.toNat ((mget kl_86 rv_1.1.place (beat_spot.mk v49_0 v55_0)).getD 0)) 0) - (l.getD (Int.toNat ((mget kl_86 rv_1.1.place rv_4).getD 0)) 0)))]), hF.weak (AF rfl), hS.weak (AL rfl), hr_3⟩
   rintro a w ⟨p_17, c_17, cs_2, hF, hS, hj_5⟩
   obtain ⟨hg_2, h⟩ := ite_some h
   refine O.append (C := C_int) (xs := row) (ys := [wr ((l.getD (Int.toNat ((mget kl_86 rv_1.1.place (beat_spot.mk v49_0 v55_0)).getD 0)) 0) - (l.getD (Int.toNat ((mget kl_86 rv_1.1.place rv_4).getD 0)) 0))]) 5 gr_44 hF rfl rfl hS rfl (src_own (i := 6) hS rfl) hr_1 hj_5 hg_2 rfl fun p_19 c_19 a w hF hS hr_4 => step hF (Y.assign hF rfl) rfl fun a hF => nil (blk_n (then_n (region (step hF (Y.add hF rfl rfl) rfl fun a hF => step hF (Y.move hF rfl) rfl fun a hF => nT (⟨_, nxt_some h, (row ++ [wr ((l.getD (Int.toNat ((mget kl_86 rv_1.1.place (beat_spot.mk v49_0 v55_0)).getD 0)) 0) - (l.getD (Int.toNat ((mget kl_86 rv_1.1.place rv_4).getD 0)) 0))]), (wr (v55_0 + 1)), p_19, c_19, (cs_1 ++ cs_2), rfl, hF.weak (AF rfl), hS.weak (AL rfl), hr_4⟩)))))
  replace h := cond_f h hbv_2
  refine exit_ (then_x (then_x (blk_hit (then_n ?_))))
  replace h := ext_some h hxo_1
  refine region (step hF (Y.move hF rfl) rfl fun a hF => step hF (Y.move hF rfl) rfl fun a hF => step hF (Y.move hF rfl) rfl fun a hF => step hF (Y.lenSl u_44 hF rfl) rfl fun a hF => step hF (Y.move hF rfl) rfl fun a hF => step hF (Y.lenSl u_44 hF rfl) rfl fun a hF => step hF (Y.slice3 u_44 sz_3 hF rfl rfl rfl (own_cap (i := 5) hS rfl)) rfl fun a hF => ?_)
  obtain ⟨Dv_12, hlev_12, hs_15, hS⟩ := hS.freezeC (C := C_int) (i := 5) (xs := row) rfl hr_1
  replace hr := hr.mono hlev_12
  have hr_5 : Reps (C_sl C_int) Dv_12 [row] [.slice p_16 row.length row.length] := Reps.cons (C := (C_sl C_int)) (x := row) (c := [.slice p_16 row.length row.length]) (r := []) (⟨_, _, rfl, (⟨hs_15.1, Nat.le_refl _⟩ : SRc _ _ _ _ _)⟩) (Reps.nil)
  refine O.buildSlice (E := 44) (C := (C_sl C_int)) (xs := [row]) (cs := [.slice p_16 row.length row.length]) (us := [.slice p_16 row.length row.length]) (parts := [(0, (.tmp 83))]) 7 hF hS rfl (by kernel_rfl) hr_5 rfl rfl rfl fun p_20 c_20 a w hF hS => ?_
  obtain ⟨hg_3, h⟩ := ite_some h
  refine O.append (C := (C_sl C_int)) (xs := outv) (ys := [row]) 4 gr_27 hF rfl rfl hS rfl (src_own (i := 7) hS rfl) hr hr_5 hg_3 rfl fun p_21 c_21 a w hF hS hr_6 => step hF (Y.assign hF rfl) rfl fun a hF => nil (blk_n (then_n (region (step hF (Y.add hF rfl rfl) rfl fun a hF => step hF (Y.move hF rfl) rfl fun a hF => nT (⟨_, nxt_some h, (outv ++ [row]), (wr (v49_0 + 1)), Dv_12, p_21, c_21, (cs ++ [.slice p_16 row.length row.length]), rfl, hlev_11.trans hlev_12, hF.weak (AF rfl), hS.weak (AL rfl), hr_6⟩)))))
 replace h := cond_f h hbv_1
 refine exit_ (then_x (then_x (blk_hit (then_n ?_))))
 replace h := ext_some h hxo
 refine seq (region (step hF (Y.move hF rfl) rfl fun a hF => step hF (Y.move hF rfl) rfl fun a hF => step hF (Y.lenSl u_27 hF rfl) rfl fun a hF => step hF (Y.move hF rfl) rfl fun a hF => step hF (Y.lenSl u_27 hF rfl) rfl fun a hF => step hF (Y.slice3 u_27 sz_44 hF rfl rfl rfl (own_cap (i := 4) hS rfl)) rfl fun a hF => step hF (Y.assign hF rfl) rfl fun a hF => step hF (Y.assign hF rfl) rfl fun a hF => nT (ret_ ?_)))
 obtain ⟨Dv_13, hlev_13, hs_16, hS⟩ := hS.freezeC (C := (C_sl C_int)) (i := 4) (xs := outv) rfl hr
 obtain rfl := some_inj h
 exact leaveS Tryd.results26 hF hS (.cons (.tmp rfl) (.cons (.tmp rfl) .nil)) .nil ⟨_, _, rfl, (⟨hs_16.1, Nat.le_refl _⟩ : SRc _ _ _ _ _)⟩
noncomputable def beat_Wrong_1_b2 (somev : (List Int)) (set : Int) (many : Int) (cv : BeatCellar) (self_ : (List Int) → Int → Int → BeatCellar → Option ((List Int) × Bool)) : ((List Int) × Bool × Int) → Option (((List Int) × Bool × Int) ⊕ ((List Int) × Bool))
 | (v8_0, v9_0, k) =>
  cond (decide (k < (cv.Rates.length : Int)))
  (if somev.length + ([k]).length ≤ lim then
  if ¬ k < 0 then
  (self_ (somev ++ [k]) (bitsOp .or set (gshl 1 k)) many cv).bind fun rv_2 =>
  cond rv_2.2
  (ext (some (rv_2.1, true)))
  (nxt (v8_0, v9_0, wr (k + 1)))
  else none
  else none)
  (ext (some (([] : List Int), false)))
noncomputable def beat_Wrong_1_k1 (somev : (List Int)) (set : Int) (many : Int) (cv : BeatCellar) (self_ : (List Int) → Int → Int → BeatCellar → Option ((List Int) × Bool)) (fromv : Int) : Option ((List Int) × Bool) :=
  loopU (beat_Wrong_1_b2 somev set many cv self_) (([] : List Int), false, fromv)
noncomputable def beat_Wrong_1_step (self_ : (List Int) → Int → Int → BeatCellar → Option ((List Int) × Bool)) (somev : (List Int)) (set : Int) (many : Int) (cv : BeatCellar) : Option ((List Int) × Bool) :=
  cond ((somev.length : Int) == many)
  ((beat_opened cv set).bind fun rv =>
  (beat_cellar_can rv).bind fun rv_1 =>
  some (somev, rv_1))
  (cond (decide ((somev.length : Int) > 0))
  ((idx somev (wr ((somev.length : Int) - 1))).bind fun e =>
  beat_Wrong_1_k1 somev set many cv self_ (wr (e + 1)))
  (beat_Wrong_1_k1 somev set many cv self_ 0))
theorem beat_Wrong_1_step_ok {w0 : World} {D0 : Stab} (self_ : (List Int) → Int → Int → BeatCellar → Option ((List Int) × Bool)) (hself : ∀ {w0 : World} {D0 : Stab} (hD : D0.on w0) (somev : (List Int)) (set : Int) (many : Int) (cv : BeatCellar) {p : Option Addr} {c : Nat} {p_1 : Option Addr} {c_1 : Nat} {p_2 : Option Addr} {c_2 : Nat} {p_3 : Option Addr} {c_3 : Nat} {bb : Nat} {bb_1 : Nat} (hs : SRc C_int D0 somev p c) (hs_1 : SRc C_Span D0 cv.Rates p_1 c_1) (hs_2 : SRc C_BeatOpen D0 cv.Opens p_2 c_2) (hs_3 : SRc C_BeatPair D0 cv.Pairs p_3 c_3) (hbv : w0.heap[bb]? = some (.cells ([iv cv.Hours, .slice p_1 cv.Rates.length c_1, .slice p_2 cv.Opens.length c_2, .slice p_3 cv.Pairs.length c_3]).toArray 26 (0, 0))) (hbv_1 : w0.heap[bb_1]? = some (.cells ([.func (.func 61) #[] #[.pointer (some ⟨bb, 0, none⟩), .pointer (some ⟨bb_1, 0, none⟩)]]).toArray 105 (0, 0))) (hG : Glob D0) (out : ((List Int) × Bool)) (h : self_ somev set many cv = some out), Calls Tryd.prog 61 [.slice p somev.length c, iv set, iv many, .pointer (some ⟨bb, 0, none⟩), .pointer (some ⟨bb_1, 0, none⟩)].toArray w0 (RetS D0 w0 fun D v => ∃ p_14 c_14, v = .tuple #[.slice p_14 out.1.length c_14, .bool out.2] ∧ SRc C_int D out.1 p_14 c_14)) (hD : D0.on w0) (somev : (List Int)) (set : Int) (many : Int) (cv : BeatCellar) {p : Option Addr} {c : Nat} {p_1 : Option Addr} {c_1 : Nat} {p_2 : Option Addr} {c_2 : Nat} {p_3 : Option Addr} {c_3 : Nat} {bb : Nat} {bb_1 : Nat} (hs : SRc C_int D0 somev p c) (hs_1 : SRc C_Span D0 cv.Rates p_1 c_1) (hs_2 : SRc C_BeatOpen D0 cv.Opens p_2 c_2) (hs_3 : SRc C_BeatPair D0 cv.Pairs p_3 c_3) (hbv : w0.heap[bb]? = some (.cells ([iv cv.Hours, .slice p_1 cv.Rates.length c_1, .slice p_2 cv.Opens.length c_2, .slice p_3 cv.Pairs.length c_3]).toArray 26 (0, 0))) (hbv_1 : w0.heap[bb_1]? = some (.cells ([.func (.func 61) #[] #[.pointer (some ⟨bb, 0, none⟩), .pointer (some ⟨bb_1, 0, none⟩)]]).toArray 105 (0, 0))) (hG : Glob D0) (out : ((List Int) × Bool)) (h : beat_Wrong_1_step self_ somev set many cv = some out) : Calls Tryd.prog 61 [.slice p somev.length c, iv set, iv many, .pointer (some ⟨bb, 0, none⟩), .pointer (some ⟨bb_1, 0, none⟩)].toArray w0 (RetS D0 w0 fun D v => ∃ p_14 c_14, v = .tuple #[.slice p_14 out.1.length c_14, .bool out.2] ∧ SRc C_int D out.1 p_14 c_14) := by
 refine enter _ 62 Tryd.func61 rfl Tryd.ntmps61 rfl fun a hF => ?_
 replace hF : Frm 62 [] [(0, .slice p somev.length c), (1, iv set), (2, iv many), (3, .pointer (some ⟨bb, 0, none⟩)), (4, .pointer (some ⟨bb_1, 0, none⟩))] a := hF
 have hS := St.start hD
 unfold beat_Wrong_1_step at h
 refine seq (region (step hF (Y.assign hF rfl) rfl fun a hF => step hF (Y.assign hF rfl) rfl fun a hF => nT (seq (seq (region (step hF (Y.move hF rfl) rfl fun a hF => step hF (Y.lenSl u_44 hF rfl) rfl fun a hF => step hF (Y.move hF rfl) rfl fun a hF => step hF (Y.eql hF rfl rfl) rfl fun a hF => nT (cond_b hF rfl (fun hbv_2 => ?_) (fun hbv_2 => ?_))))))))
 ·replace h := cond_t h hbv_2
  refine seq (region (step hF (Y.move hF rfl) rfl fun a hF => step hF (Y.loadNH sz_26 hF rfl (hS.old hbv) rfl rfl) rfl fun a hF => step hF (Y.move hF rfl) rfl fun a hF => ?_))
  obtain ⟨rv, hx, h⟩ := bind_some h
  refine O.callS (us := [.agg #[iv cv.Hours, .slice p_1 cv.Rates.length c_1, .slice p_2 cv.Opens.length c_2, .slice p_3 cv.Pairs.length c_3], iv set]) ca_49 hF hS (beat_opened_ok hS.stab cv set hs_1 hs_2 hs_3 rv hx) rfl rfl fun v Dv a w hR hlev hF hS => ?_
  replace hs := hs.mono hlev
  replace hG := hG.mono hlev
  obtain ⟨p_4, c_4, p_5, c_5, p_6, c_6, bm, rfl, hs_4, hs_5, hs_6, hm⟩ := hR
  obtain ⟨rv_1, hx_1, h⟩ := bind_some h
  refine O.callP (us := [.agg #[iv rv.BeatCellar.Hours, .slice p_4 rv.BeatCellar.Rates.length c_4, .slice p_5 rv.BeatCellar.Opens.length c_5, .slice p_6 rv.BeatCellar.Pairs.length c_6, iv rv.left, .map bm]]) ca_62 hF hS (beat_cellar_can_ok hS.stab rv hs_4 hs_5 hs_6 hm hG rv_1 hx_1) rfl rfl fun a w hF hS => step hF (Y.assign hF rfl) rfl fun a hF => step hF (Y.assign hF rfl) rfl fun a hF => nT (ret_ (then_r ?_))
  obtain rfl := some_inj h
  exact leaveS Tryd.results61 hF hS (.cons (.tmp rfl) (.cons (.tmp rfl) .nil)) .nil ⟨_, _, rfl, hs⟩
 replace h := cond_f h hbv_2
 refine skip_ (then_n (seq (region (step hF (Y.assign hF rfl) rfl fun a hF => nT (seq_cut (fun a w => ∃ (fromv : Int), Frm 62 [] [(0, .slice p somev.length c), (1, iv set), (2, iv many), (3, .pointer (some ⟨bb, 0, none⟩)), (4, .pointer (some ⟨bb_1, 0, none⟩)), (8, .slice none 0 0), (9, .bool false), (10, iv fromv)] a ∧ St w0 D0 D0 [] w ∧ beat_Wrong_1_k1 somev set many cv self_ fromv = some out) ?_ ?_)))))
 ·skip
  refine seq (region (step hF (Y.move hF rfl) rfl fun a hF => step hF (Y.lenSl u_44 hF rfl) rfl fun a hF => step hF (Y.gtr hF rfl rfl) rfl fun a hF => nT (cond_b hF rfl (fun hbv_5 => ?_) (fun hbv_5 => ?_))))
  ·replace h := cond_t h hbv_5
   refine region (step hF (Y.move hF rfl) rfl fun a hF => step hF (Y.move hF rfl) rfl fun a hF => step hF (Y.lenSl u_44 hF rfl) rfl fun a hF => step hF (Y.sub hF rfl rfl) rfl fun a hF => ?_)
   obtain ⟨e, hx_3, h⟩ := bind_some h
   obtain ⟨b, o, hE, hY⟩ := Y.indexS (P := Tryd.prog) (C := C_int) (xs := somev) (T := 44) (x := (.tmp 26)) (y := (.tmp 29)) u_44 sz_3 hF rfl rfl (hs).1 hx_3
   obtain ⟨cc, hc, hcell⟩ := hE.open
   obtain rfl := hc
   refine step hF (hY) rfl fun a hF => step hF (Y.load1 sz_3 hF rfl (hcell _ hS.stab 0 _ rfl)) rfl fun a hF => step hF (Y.add hF rfl rfl) rfl fun a hF => step hF (Y.assign hF rfl) rfl fun a hF => nT (⟨(wr (e + 1)), hF.weak (AF rfl), hS.weak trivial, h⟩)
  replace h := cond_f h hbv_5
  refine skip_ (then_n (⟨0, hF.weak (AF rfl), hS.weak trivial, h⟩))
 rintro a w ⟨fromv, hF, hS, h⟩
 unfold beat_Wrong_1_k1 at h
 refine seq (seq (region (step hF (Y.move hF rfl) rfl fun a hF => step hF (Y.assign hF rfl) rfl fun a hF => nT (block (loop_cut (body := beat_Wrong_1_b2 somev set many cv self_) (out := out) (fun s a w => ∃ (v8_0 : (List Int)) (v9_0 : Bool) (k : Int), ∃ (Dv_1 : Stab), ∃ p_7 c_7, s = (v8_0, v9_0, k) ∧ D0.le Dv_1 ∧ Frm 62 [] [(0, .slice p somev.length c), (1, iv set), (2, iv many), (3, .pointer (some ⟨bb, 0, none⟩)), (4, .pointer (some ⟨bb_1, 0, none⟩)), (8, .slice p_7 v8_0.length c_7), (9, .bool v9_0), (11, iv k)] a ∧ St w0 D0 Dv_1 [] w ∧ SRc C_int Dv_1 v8_0 p_7 c_7) (([] : List Int), false, fromv) h ⟨([] : List Int), false, fromv, D0, none, 0, rfl, Stab.le.refl _, hF.weak (AF rfl), hS.weak trivial, SRc.nil⟩ ?_)))))
 rintro s a w xo ⟨v8_0, v9_0, k, Dv_1, p_7, c_7, rfl, hlev_1, hF, hS, hs_7⟩ h hxo
 unfold beat_Wrong_1_b2 at h
 dsimp only at h
 replace hs := hs.mono hlev_1
 replace hs_1 := hs_1.mono hlev_1
 replace hs_2 := hs_2.mono hlev_1
 replace hs_3 := hs_3.mono hlev_1
 replace hG := hG.mono hlev_1
 refine seq (seq (region (step hF (Y.move hF rfl) rfl fun a hF => step hF (Y.fieldAddr fo_26_1 hF rfl) rfl fun a hF => step hF (Y.load1H sz_22 hF rfl (hS.old hbv) rfl) rfl fun a hF => step hF (Y.lenSl u_22 hF rfl) rfl fun a hF => step hF (Y.lss hF rfl rfl) rfl fun a hF => nT (cond_b hF rfl (fun hbv_3 => ?_) (fun hbv_3 => ?_)))))
 ·replace h := cond_t h hbv_3
  refine skip_ (then_n (seq (block (seq ?_))))
  obtain ⟨hg, h⟩ := ite_some h
  obtain ⟨hg_1, h⟩ := ite_some h
  obtain ⟨rv_2, hx_2, h⟩ := bind_some h
  refine drawsV 20 (.flt 0 (.flt 1 (.flt 2 (.flt 3 (.flt 4 (.flt 5 (.flt 6 (.flt 7 (.flt 10 (.flt 11 (.flt 12 (.flt 13 (.flt 14 (.alt 8 (.alt 9 (.alt 15 (.flt 16 (.flt 17 (.flt 18 (.flt 19 .done)))) .stop) .stop) .stop)))))))))))))) mixed_ (by kernel_rfl) (fun w => St w0 D0 Dv_1 [] w) (fun a w => ∃ (Dv_4 : Stab) (p_10 : Option Addr) (c_10 : Nat) (p_8 : Option Addr) (c_8 : Nat), Dv_1.le Dv_4 ∧ Frm 62 [] [(0, .slice p somev.length c), (1, iv set), (2, iv many), (3, .pointer (some ⟨bb, 0, none⟩)), (4, .pointer (some ⟨bb_1, 0, none⟩)), (8, .slice p_7 v8_0.length c_7), (9, .bool v9_0), (11, iv k), (12, .slice p_10 rv_2.1.length c_10), (59, .bool rv_2.2)] a ∧ St w0 D0 Dv_4 [(3, .own p_8 ([k]).length c_8 ([iv k]) 3 1)] w ∧ SRc C_int Dv_4 rv_2.1 p_10 c_10 ∧ Reps C_int Dv_4 ([k]) ([iv k])) (hS.weak (ms := []) trivial).drew (fun _ _ _ _ h => h) ?_ ?_
  ·replace hS := hS.drew
   have hle0 := hS.le
   refine stepV (i := 0) rfl hF (fun w hS => Y.load1H sz_105 hF rfl (hS.old hbv_1) rfl) rfl fun a hF => stepV (i := 1) rfl hF (fun w hS => Y.move hF rfl) rfl fun a hF => stepV (i := 2) rfl hF (fun w hS => Y.move hF rfl) rfl fun a hF => stepV (i := 3) rfl hF (fun w hS => Y.lenSl u_44 hF rfl) rfl fun a hF => stepV (i := 4) rfl hF (fun w hS => Y.move hF rfl) rfl fun a hF => stepV (i := 5) rfl hF (fun w hS => Y.lenSl u_44 hF rfl) rfl fun a hF => stepV (i := 6) rfl hF (fun w hS => Y.slice3 u_44 sz_3 hF rfl rfl rfl hs.2) rfl fun a hF => stepV (i := 7) rfl hF (fun w hS => Y.move hF rfl) rfl fun a hF => stepV (i := 10) rfl hF (fun w hS => Y.move hF rfl) rfl fun a hF => stepV (i := 11) rfl hF (fun w hS => Y.move hF rfl) rfl fun a hF => stepV (i := 12) rfl hF (fun w hS => Y.shl hF rfl rfl hg_1) rfl fun a hF => stepV (i := 13) rfl hF (fun w hS => Y.or hF rfl rfl) rfl fun a hF => stepV (i := 14) rfl hF (fun w hS => Y.move hF rfl) rfl fun a hF => oneV (i := 8) rfl ?_ trivial
   have hr_2 : Reps C_int Dv_1 [k] [iv k] := Reps.cons (C := C_int) (x := k) (c := [iv k]) (r := []) rfl (Reps.nil)
   refine O.buildSlice (E := 3) (C := C_int) (xs := [k]) (cs := [iv k]) (us := [iv k]) (parts := [(0, (.tmp 49))]) 3 hF hS rfl (by kernel_rfl) hr_2 rfl rfl rfl fun p_11 c_11 a w hF hS => nT ⟨hS.weak (ms := []) trivial, ?_⟩
   refine oneV (i := 9) rfl ?_ trivial
   refine O.appendS (C := C_int) (xs := somev) (ys := [k]) 4 gr_44 hF rfl rfl hS ((⟨hs.1, Nat.le_refl _⟩ : SRc _ _ _ _ _)).1 (src_own (i := 3) hS rfl) hr_2 (Nat.succ_pos _) hg rfl fun p_12 c_12 cs_1 a w hF hS hr_3 => nT ⟨hS.weak (ms := []) trivial, ?_⟩
   refine oneV (i := 15) rfl ?_ trivial
   obtain ⟨Dv_5, hlev_4, hs_10, hS⟩ := hS.freezeC (C := C_int) (i := 4) (xs := (somev ++ [k])) rfl hr_3
   replace hs_1 := hs_1.mono hlev_4
   replace hs_2 := hs_2.mono hlev_4
   replace hs_3 := hs_3.mono hlev_4
   replace hG := hG.mono hlev_4
   replace hr_2 := hr_2.mono hlev_4
   refine O.callVS (f := 61) (first := []) (cap := [.pointer (some ⟨bb, 0, none⟩), .pointer (some ⟨bb_1, 0, none⟩)]) (us := [.slice p_12 (somev ++ [k]).length c_12, iv (bitsOp .or set (gshl 1 k)), iv many]) ca_61 hF hS rfl rfl (hself hS.stab (somev ++ [k]) (bitsOp .or set (gshl 1 k)) many cv hs_10 hs_1 hs_2 hs_3 (hS.old hbv) (hS.old hbv_1) hG rv_2 hx_2) rfl fun v_2 Dv_6 a w hR_2 hlev_5 hF hS => ?_
   replace hr_2 := hr_2.mono hlev_5
   obtain ⟨p_13, c_13, rfl, hs_11⟩ := hR_2
   refine nT ⟨(hS.weak (ms := []) trivial).weakD (hlev_4.trans hlev_5) hle0, ?_⟩
   refine stepV (i := 16) rfl hF (fun w hS => Y.move hF rfl) rfl fun a hF => stepV (i := 17) rfl hF (fun w hS => Y.extract hF rfl rfl) rfl fun a hF => stepV (i := 18) rfl hF (fun w hS => Y.extract hF rfl rfl) rfl fun a hF => stepV (i := 19) rfl hF (fun w hS => Y.assign hF rfl) rfl fun a hF => toTailV ⟨Dv_6, p_13, c_13, p_11, c_11, hlev_4.trans hlev_5, hF.weak (AF rfl), hS.weak ⟨rfl, trivial⟩, hs_11, hr_2⟩
  rintro a w ⟨Dv_4, p_10, c_10, p_8, c_8, hle, hF, hS, hj, hj_1⟩
  have hlev_6 := hle
  replace hs_7 := hs_7.mono hlev_6
  refine step hF (Y.assign hF rfl) rfl fun a hF => nT (seq (region (step hF (Y.move hF rfl) rfl fun a hF => nT (cond_b hF rfl (fun hbv_4 => ?_) (fun hbv_4 => ?_)))))
  ·replace h := cond_t h hbv_4
   refine seq (region (step hF (Y.move hF rfl) rfl fun a hF => step hF (Y.assign hF rfl) rfl fun a hF => step hF (Y.assign hF rfl) rfl fun a hF => nT (ret_ (blk_r (then_r (then_r (blk_r (then_r ?_))))))))
   replace h := ext_some h hxo
   obtain rfl := some_inj h
   exact leaveS Tryd.results61 hF hS (.cons (.tmp rfl) (.cons (.tmp rfl) .nil)) .nil ⟨_, _, rfl, hj⟩
  replace h := cond_f h hbv_4
  refine skip_ (blk_n (then_n (region (step hF (Y.move hF rfl) rfl fun a hF => step hF (Y.add hF rfl rfl) rfl fun a hF => step hF (Y.assign hF rfl) rfl fun a hF => nT (⟨_, nxt_some h, v8_0, v9_0, (wr (k + 1)), Dv_4, p_7, c_7, rfl, hlev_1.trans hlev_6, hF.weak (AF rfl), hS.weak trivial, hs_7⟩)))))
 replace h := cond_f h hbv_3
 refine exit_ (then_x (then_x (blk_hit (then_n ?_))))
 replace h := ext_some h hxo
 refine seq (region (step hF (Y.assign hF rfl) rfl fun a hF => step hF (Y.assign hF rfl) rfl fun a hF => nT (ret_ ?_)))
 obtain rfl := some_inj h
 exact leaveS Tryd.results61 hF hS (.cons (.tmp rfl) (.cons (.tmp rfl) .nil)) .nil ⟨_, _, rfl, SRc.nil⟩
noncomputable def beat_Wrong_1_n : Nat → (List Int) → Int → Int → BeatCellar → Option ((List Int) × Bool)
 | 0 => fun _ _ _ _ => none
 | n + 1 => beat_Wrong_1_step (beat_Wrong_1_n n)
theorem beat_Wrong_1_n_ok : ∀ n, ∀ {w0 : World} {D0 : Stab} (hD : D0.on w0) (somev : (List Int)) (set : Int) (many : Int) (cv : BeatCellar) {p : Option Addr} {c : Nat} {p_1 : Option Addr} {c_1 : Nat} {p_2 : Option Addr} {c_2 : Nat} {p_3 : Option Addr} {c_3 : Nat} {bb : Nat} {bb_1 : Nat} (hs : SRc C_int D0 somev p c) (hs_1 : SRc C_Span D0 cv.Rates p_1 c_1) (hs_2 : SRc C_BeatOpen D0 cv.Opens p_2 c_2) (hs_3 : SRc C_BeatPair D0 cv.Pairs p_3 c_3) (hbv : w0.heap[bb]? = some (.cells ([iv cv.Hours, .slice p_1 cv.Rates.length c_1, .slice p_2 cv.Opens.length c_2, .slice p_3 cv.Pairs.length c_3]).toArray 26 (0, 0))) (hbv_1 : w0.heap[bb_1]? = some (.cells ([.func (.func 61) #[] #[.pointer (some ⟨bb, 0, none⟩), .pointer (some ⟨bb_1, 0, none⟩)]]).toArray 105 (0, 0))) (hG : Glob D0) (out : ((List Int) × Bool)) (h : beat_Wrong_1_n n somev set many cv = some out), Calls Tryd.prog 61 [.slice p somev.length c, iv set, iv many, .pointer (some ⟨bb, 0, none⟩), .pointer (some ⟨bb_1, 0, none⟩)].toArray w0 (RetS D0 w0 fun D v => ∃ p_14 c_14, v = .tuple #[.slice p_14 out.1.length c_14, .bool out.2] ∧ SRc C_int D out.1 p_14 c_14)
 | 0 => by intros; rename_i h; simp only [beat_Wrong_1_n] at h; cases h
 | n + 1 => fun hD => beat_Wrong_1_step_ok (beat_Wrong_1_n n) (beat_Wrong_1_n_ok n) hD
noncomputable def beat_Wrong_1 (somev : (List Int)) (set : Int) (many : Int) (cv : BeatCellar) : Option ((List Int) × Bool) := limU fun n => beat_Wrong_1_n n somev set many cv
theorem beat_Wrong_1_ok {w0 : World} {D0 : Stab} (hD : D0.on w0) (somev : (List Int)) (set : Int) (many : Int) (cv : BeatCellar) {p : Option Addr} {c : Nat} {p_1 : Option Addr} {c_1 : Nat} {p_2 : Option Addr} {c_2 : Nat} {p_3 : Option Addr} {c_3 : Nat} {bb : Nat} {bb_1 : Nat} (hs : SRc C_int D0 somev p c) (hs_1 : SRc C_Span D0 cv.Rates p_1 c_1) (hs_2 : SRc C_BeatOpen D0 cv.Opens p_2 c_2) (hs_3 : SRc C_BeatPair D0 cv.Pairs p_3 c_3) (hbv : w0.heap[bb]? = some (.cells ([iv cv.Hours, .slice p_1 cv.Rates.length c_1, .slice p_2 cv.Opens.length c_2, .slice p_3 cv.Pairs.length c_3]).toArray 26 (0, 0))) (hbv_1 : w0.heap[bb_1]? = some (.cells ([.func (.func 61) #[] #[.pointer (some ⟨bb, 0, none⟩), .pointer (some ⟨bb_1, 0, none⟩)]]).toArray 105 (0, 0))) (hG : Glob D0) (out : ((List Int) × Bool)) (h : beat_Wrong_1 somev set many cv = some out) : Calls Tryd.prog 61 [.slice p somev.length c, iv set, iv many, .pointer (some ⟨bb, 0, none⟩), .pointer (some ⟨bb_1, 0, none⟩)].toArray w0 (RetS D0 w0 fun D v => ∃ p_14 c_14, v = .tuple #[.slice p_14 out.1.length c_14, .bool out.2] ∧ SRc C_int D out.1 p_14 c_14) := by
 obtain ⟨n, hfu_⟩ := limU_some h
 exact beat_Wrong_1_n_ok n hD somev set many cv hs hs_1 hs_2 hs_3 hbv hbv_1 hG out hfu_
noncomputable def beat_Wrong_b1 (xv : BeatCellar) : ((List Int) × Int × Int) → Option (((List Int) × Int × Int) ⊕ ((List Int) × Int))
 | (v2_0, v3_0, v19_0) =>
  cond (decide (v19_0 < (wr ((xv.Rates.length : Int) + 1))))
  ((beat_Wrong_1 ([] : List Int) 0 v19_0 xv).bind fun rv_1 =>
  cond rv_1.2
  (ext (some (rv_1.1, 0)))
  (nxt (v2_0, v3_0, wr (v19_0 + 1))))
  (ext (some (([] : List Int), 22)))
noncomputable def beat_Wrong (xv : BeatCellar) : Option ((List Int) × Int) :=
  (beat_Check xv).bind fun rv =>
  cond (rv != 0)
  (some (([] : List Int), rv))
  (loopU (beat_Wrong_b1 xv) (([] : List Int), 0, 0))
theorem beat_Wrong_ok {w0 : World} {D0 : Stab} (hD : D0.on w0) (xv : BeatCellar) {p : Option Addr} {c : Nat} {p_1 : Option Addr} {c_1 : Nat} {p_2 : Option Addr} {c_2 : Nat} (hs : SRc C_Span D0 xv.Rates p c) (hs_1 : SRc C_BeatOpen D0 xv.Opens p_1 c_1) (hs_2 : SRc C_BeatPair D0 xv.Pairs p_2 c_2) (hG : Glob D0) (out : ((List Int) × Int)) (h : beat_Wrong xv = some out) : Calls Tryd.prog 27 [.agg #[iv xv.Hours, .slice p xv.Rates.length c, .slice p_1 xv.Opens.length c_1, .slice p_2 xv.Pairs.length c_2]].toArray w0 (RetS D0 w0 fun D v => ∃ p_5 c_5, v = .tuple #[.slice p_5 out.1.length c_5, iv out.2] ∧ SRc C_int D out.1 p_5 c_5) := by
 refine enter _ 36 Tryd.func27 rfl Tryd.ntmps27 rfl fun a hF => ?_
 replace hF : Frm 36 [] [(0, .agg #[iv xv.Hours, .slice p xv.Rates.length c, .slice p_1 xv.Opens.length c_1, .slice p_2 xv.Pairs.length c_2])] a := hF
 have hS := St.start hD
 unfold beat_Wrong at h
 refine seq (region (O.box (cs := [iv xv.Hours, .slice p xv.Rates.length c, .slice p_1 xv.Opens.length c_1, .slice p_2 xv.Pairs.length c_2]) 1 hF rfl rfl hS rfl fun b a w hF hS => step hF (Y.assign hF rfl) rfl fun a hF => step hF (Y.assign hF rfl) rfl fun a hF => nT (seq (seq (region (step hF (Y.loadNL 1 sz_26 hF rfl hS rfl rfl rfl) rfl fun a hF => ?_))))))
 obtain ⟨rv, hx, h⟩ := bind_some h
 refine O.callP (us := [.agg #[iv xv.Hours, .slice p xv.Rates.length c, .slice p_1 xv.Opens.length c_1, .slice p_2 xv.Pairs.length c_2]]) ca_17 hF hS (beat_Check_ok hS.stab xv hs hs_1 hs_2 rv hx) rfl rfl fun a w hF hS => step hF (Y.assign hF rfl) rfl fun a hF => nT (seq (region (step hF (Y.move hF rfl) rfl fun a hF => step hF (Y.neq hF rfl rfl) rfl fun a hF => nT (cond_b hF rfl (fun hbv => ?_) (fun hbv => ?_)))))
 ·replace h := cond_t h hbv
  refine seq (region (step hF (Y.move hF rfl) rfl fun a hF => step hF (Y.assign hF rfl) rfl fun a hF => step hF (Y.assign hF rfl) rfl fun a hF => nT (ret_ (then_r ?_))))
  obtain rfl := some_inj h
  exact leaveS Tryd.results27 hF hS (.cons (.tmp rfl) (.cons (.tmp rfl) .nil)) .nil ⟨_, _, rfl, SRc.nil⟩
 replace h := cond_f h hbv
 refine skip_ (then_n (seq (region (O.alloc 2 zc_105 hF hS rfl fun b_1 a w hF hS => nT (seq (region (step hF (Y.makeFunc (first := []) (cap := [(.tmp 1), (.tmp 5)]) (fs := []) (cs := [.pointer (some ⟨b, 0, none⟩), .pointer (some ⟨b_1, 0, none⟩)]) hF rfl rfl) rfl fun a hF => O.store (us := [.func (.func 61) #[] #[.pointer (some ⟨b, 0, none⟩), .pointer (some ⟨b_1, 0, none⟩)]]) 2 sz_105 hF rfl rfl rfl rfl hS rfl rfl fun a w hF hS => nT (seq (seq (region (step hF (Y.fieldAddr fo_26_1 hF rfl) rfl fun a hF => step hF (Y.load1L 1 sz_22 hF rfl hS rfl rfl) rfl fun a hF => step hF (Y.lenSl u_22 hF rfl) rfl fun a hF => step hF (Y.add hF rfl rfl) rfl fun a hF => step hF (Y.move hF rfl) rfl fun a hF => nT (block (loop_cut (body := beat_Wrong_b1 xv) (out := out) (fun s a w => ∃ (v2_0 : (List Int)) (v3_0 : Int) (v19_0 : Int), ∃ (Dv : Stab), ∃ p_3 c_3, s = (v2_0, v3_0, v19_0) ∧ D0.le Dv ∧ Frm 36 [] [(2, .slice p_3 v2_0.length c_3), (3, iv v3_0), (5, .pointer (some ⟨b_1, 0, none⟩)), (18, iv (wr ((xv.Rates.length : Int) + 1))), (19, iv v19_0)] a ∧ St w0 D0 Dv [(1, .cells b [iv xv.Hours, .slice p xv.Rates.length c, .slice p_1 xv.Opens.length c_1, .slice p_2 xv.Pairs.length c_2] 26), (2, .cells b_1 [.func (.func 61) #[] #[.pointer (some ⟨b, 0, none⟩), .pointer (some ⟨b_1, 0, none⟩)]] 105)] w ∧ SRc C_int Dv v2_0 p_3 c_3) (([] : List Int), 0, 0) h ⟨([] : List Int), 0, 0, D0, none, 0, rfl, Stab.le.refl _, hF.weak (AF rfl), hS.weak ⟨rfl, rfl, trivial⟩, SRc.nil⟩ ?_)))))))))))))
 rintro s a w xo ⟨v2_0, v3_0, v19_0, Dv, p_3, c_3, rfl, hlev, hF, hS, hs_3⟩ h hxo
 unfold beat_Wrong_b1 at h
 dsimp only at h
 replace hs := hs.mono hlev
 replace hs_1 := hs_1.mono hlev
 replace hs_2 := hs_2.mono hlev
 replace hG := hG.mono hlev
 refine seq (region (step hF (Y.lss hF rfl rfl) rfl fun a hF => nT (seq (cond_b hF rfl (fun hbv_1 => ?_) (fun hbv_1 => ?_)))))
 ·replace h := cond_t h hbv_1
  refine skip_ (then_n (seq (block (seq (region (step hF (Y.move hF rfl) rfl fun a hF => step hF (Y.assign hF rfl) rfl fun a hF => nT (seq (region (step hF (Y.load1L 2 sz_105 hF rfl hS rfl rfl) rfl fun a hF => step hF (Y.move hF rfl) rfl fun a hF => ?_)))))))))
  obtain ⟨rv_1, hx_1, h⟩ := bind_some h
  refine O.callVS (f := 61) (first := []) (cap := [.pointer (some ⟨b, 0, none⟩), .pointer (some ⟨b_1, 0, none⟩)]) (us := [.slice none 0 0, iv 0, iv v19_0]) ca_61 hF hS rfl rfl (beat_Wrong_1_ok hS.stab ([] : List Int) 0 v19_0 xv SRc.nil hs hs_1 hs_2 (hS.each 1 _ rfl) (hS.each 2 _ rfl) hG rv_1 hx_1) rfl fun v Dv_1 a w hR hlev_1 hF hS => ?_
  replace hs_3 := hs_3.mono hlev_1
  obtain ⟨p_4, c_4, rfl, hs_4⟩ := hR
  refine step hF (Y.move hF rfl) rfl fun a hF => step hF (Y.extract hF rfl rfl) rfl fun a hF => step hF (Y.extract hF rfl rfl) rfl fun a hF => step hF (Y.assign hF rfl) rfl fun a hF => step hF (Y.assign hF rfl) rfl fun a hF => nT (seq (region (step hF (Y.move hF rfl) rfl fun a hF => nT (cond_b hF rfl (fun hbv_2 => ?_) (fun hbv_2 => ?_)))))
  ·replace h := cond_t h hbv_2
   refine seq (region (step hF (Y.move hF rfl) rfl fun a hF => step hF (Y.move hF rfl) rfl fun a hF => step hF (Y.lenSl u_44 hF rfl) rfl fun a hF => step hF (Y.move hF rfl) rfl fun a hF => step hF (Y.lenSl u_44 hF rfl) rfl fun a hF => step hF (Y.slice3 u_44 sz_3 hF rfl rfl rfl hs_4.2) rfl fun a hF => step hF (Y.assign hF rfl) rfl fun a hF => step hF (Y.assign hF rfl) rfl fun a hF => nT (ret_ (blk_r (then_r (then_r (blk_r (then_r ?_))))))))
   replace h := ext_some h hxo
   obtain rfl := some_inj h
   exact leaveS Tryd.results27 hF hS (.cons (.tmp rfl) (.cons (.tmp rfl) .nil)) .nil ⟨_, _, rfl, (⟨hs_4.1, Nat.le_refl _⟩ : SRc _ _ _ _ _)⟩
  replace h := cond_f h hbv_2
  refine skip_ (blk_n (then_n (region (step hF (Y.add hF rfl rfl) rfl fun a hF => step hF (Y.move hF rfl) rfl fun a hF => nT (⟨_, nxt_some h, v2_0, v3_0, (wr (v19_0 + 1)), Dv_1, p_3, c_3, rfl, hlev.trans hlev_1, hF.weak (AF rfl), hS.weak ⟨rfl, rfl, trivial⟩, hs_3⟩)))))
 replace h := cond_f h hbv_1
 refine exit_ (then_x (then_x (blk_hit (then_n ?_))))
 replace h := ext_some h hxo
 refine seq (region (step hF (Y.assign hF rfl) rfl fun a hF => step hF (Y.assign hF rfl) rfl fun a hF => nT (ret_ ?_)))
 obtain rfl := some_inj h
 exact leaveS Tryd.results27 hF hS (.cons (.tmp rfl) (.cons (.tmp rfl) .nil)) .nil ⟨_, _, rfl, SRc.nil⟩
noncomputable def beat_IsTruth_1 (l : (List Int)) (cv : BeatCellar) : Option Bool :=
  some ((l.length : Int) != (wr (cv.Hours + 1)))
theorem beat_IsTruth_1_ok {w0 : World} {D0 : Stab} (hD : D0.on w0) (l : (List Int)) (cv : BeatCellar) {p : Option Addr} {c : Nat} {p_1 : Option Addr} {c_1 : Nat} {p_2 : Option Addr} {c_2 : Nat} {p_3 : Option Addr} {c_3 : Nat} {bb : Nat} (hs : SRc C_int D0 l p c) (hs_1 : SRc C_Span D0 cv.Rates p_1 c_1) (hs_2 : SRc C_BeatOpen D0 cv.Opens p_2 c_2) (hs_3 : SRc C_BeatPair D0 cv.Pairs p_3 c_3) (hbv : w0.heap[bb]? = some (.cells ([iv cv.Hours, .slice p_1 cv.Rates.length c_1, .slice p_2 cv.Opens.length c_2, .slice p_3 cv.Pairs.length c_3]).toArray 26 (0, 0))) (out : Bool) (h : beat_IsTruth_1 l cv = some out) : Calls Tryd.prog 45 [.slice p l.length c, .pointer (some ⟨bb, 0, none⟩)].toArray w0 (RetP D0 w0 (.bool out)) := by
 refine enter _ 10 Tryd.func45 rfl Tryd.ntmps45 rfl fun a hF => ?_
 replace hF : Frm 10 [] [(0, .slice p l.length c), (1, .pointer (some ⟨bb, 0, none⟩))] a := hF
 have hS := St.start hD
 unfold beat_IsTruth_1 at h
 refine seq (region (step hF (Y.assign hF rfl) rfl fun a hF => nT (seq (region (step hF (Y.move hF rfl) rfl fun a hF => step hF (Y.lenSl u_44 hF rfl) rfl fun a hF => step hF (Y.fieldAddr fo_26_0 hF rfl) rfl fun a hF => step hF (Y.load1H sz_3 hF rfl (hS.old hbv) rfl) rfl fun a hF => step hF (Y.add hF rfl rfl) rfl fun a hF => step hF (Y.neq hF rfl rfl) rfl fun a hF => step hF (Y.assign hF rfl) rfl fun a hF => nT (ret_ ?_))))))
 obtain rfl := some_inj h
 exact leaveP Tryd.results45 hF hS (.cons (.tmp rfl) .nil) .nil rfl
noncomputable def slices_IndexFunc_____int___int__b1 (sv : (List (List Int))) (f : ((List Int) → Option Bool)) : (Int × Int) → Option ((Int × Int) ⊕ Int)
 | (v4_0, v8_0) =>
  cond (decide (v8_0 < (sv.length : Int)))
  ((idx sv v8_0).bind fun e =>
  (f e).bind fun rv =>
  cond rv
  (ext (some v8_0))
  (nxt (v4_0, wr (v8_0 + 1))))
  (ext (some (-1)))
noncomputable def slices_IndexFunc_____int___int_ (sv : (List (List Int))) (f : ((List Int) → Option Bool)) : Option Int :=
  loopU (slices_IndexFunc_____int___int__b1 sv f) (0, 0)
theorem slices_IndexFunc_____int___int__ok {w0 : World} {D0 : Stab} (hD : D0.on w0) (sv : (List (List Int))) (f : ((List Int) → Option Bool)) {p : Option Addr} {c : Nat} {fid : FuncId} {first : List Value} {cap : List Value} (hs : SRc (C_sl C_int) D0 sv p c) (hf : FnOk_77 w0 D0 fid first cap f) (out : Int) (h : slices_IndexFunc_____int___int_ sv f = some out) : Calls Tryd.prog 71 [.slice p sv.length c, .func (.func fid) first.toArray cap.toArray].toArray w0 (RetP D0 w0 (iv out)) := by
 refine enter _ 19 Tryd.func71 rfl Tryd.ntmps71 rfl fun a hF => ?_
 replace hF : Frm 19 [] [(0, .slice p sv.length c), (1, .func (.func fid) first.toArray cap.toArray)] a := hF
 have hS := St.start hD
 unfold slices_IndexFunc_____int___int_ at h
 refine seq (region (step hF (Y.assign hF rfl) rfl fun a hF => nT (seq (seq (region (step hF (Y.move hF rfl) rfl fun a hF => step hF (Y.lenSl u_27 hF rfl) rfl fun a hF => step hF (Y.move hF rfl) rfl fun a hF => nT (block (loop_cut (body := slices_IndexFunc_____int___int__b1 sv f) (out := out) (fun s a w => ∃ (v4_0 : Int) (v8_0 : Int), ∃ (Dv : Stab), s = (v4_0, v8_0) ∧ D0.le Dv ∧ Frm 19 [] [(0, .slice p sv.length c), (1, .func (.func fid) first.toArray cap.toArray), (4, iv v4_0), (7, iv (sv.length : Int)), (8, iv v8_0)] a ∧ St w0 D0 Dv [] w) (0, 0) h ⟨0, 0, D0, rfl, Stab.le.refl _, hF.weak (AF rfl), hS.weak trivial⟩ ?_))))))))
 rintro s a w xo ⟨v4_0, v8_0, Dv, rfl, hlev, hF, hS⟩ h hxo
 unfold slices_IndexFunc_____int___int__b1 at h
 dsimp only at h
 replace hs := hs.mono hlev
 refine seq (region (step hF (Y.lss hF rfl rfl) rfl fun a hF => nT (seq (cond_b hF rfl (fun hbv => ?_) (fun hbv => ?_)))))
 ·replace h := cond_t h hbv
  refine skip_ (then_n (seq (block (seq (region (step hF (Y.move hF rfl) rfl fun a hF => step hF (Y.assign hF rfl) rfl fun a hF => nT (seq (region (step hF (Y.move hF rfl) rfl fun a hF => step hF (Y.move hF rfl) rfl fun a hF => step hF (Y.move hF rfl) rfl fun a hF => ?_)))))))))
  obtain ⟨e, hx, h⟩ := bind_some h
  obtain ⟨b, o, hE, hY⟩ := Y.indexS (P := Tryd.prog) (C := (C_sl C_int)) (xs := sv) (T := 27) (x := (.tmp 12)) (y := (.tmp 13)) u_27 sz_44 hF rfl rfl (hs).1 hx
  obtain ⟨cc, hc, hcell⟩ := hE.open
  obtain ⟨p_1, c_1, rfl, hs_1⟩ := hc
  refine step hF (hY) rfl fun a hF => step hF (Y.load1 sz_44 hF rfl (hcell _ hS.stab 0 _ rfl)) rfl fun a hF => ?_
  obtain ⟨rv, hx_1, h⟩ := bind_some h
  refine O.callVP (f := fid) (first := first) (cap := cap) (us := [.slice p_1 e.length c_1]) hf.1 hF hS rfl rfl (hf.2 _ _ hS.below hS.le hS.stab e p_1 c_1 hs_1 rv hx_1) rfl fun a w hF hS => nT (cond_b hF rfl (fun hbv_1 => ?_) (fun hbv_1 => ?_))
  ·replace h := cond_t h hbv_1
   refine seq (region (step hF (Y.move hF rfl) rfl fun a hF => step hF (Y.assign hF rfl) rfl fun a hF => nT (ret_ (blk_r (then_r (then_r (blk_r (then_r ?_))))))))
   replace h := ext_some h hxo
   obtain rfl := some_inj h
   exact leaveP Tryd.results71 hF hS (.cons (.tmp rfl) .nil) .nil rfl
  replace h := cond_f h hbv_1
  refine skip_ (blk_n (then_n (region (step hF (Y.add hF rfl rfl) rfl fun a hF => step hF (Y.move hF rfl) rfl fun a hF => nT (⟨_, nxt_some h, v4_0, (wr (v8_0 + 1)), Dv, rfl, hlev, hF.weak (AF rfl), hS.weak trivial⟩)))))
 replace h := cond_f h hbv
 refine exit_ (then_x (then_x (blk_hit (then_n ?_))))
 replace h := ext_some h hxo
 refine seq (region (step hF (Y.assign hF rfl) rfl fun a hF => nT (ret_ ?_)))
 obtain rfl := some_inj h
 exact leaveP Tryd.results71 hF hS (.cons (.tmp rfl) .nil) .nil rfl
noncomputable def slices_ContainsFunc_____int___int_ (sv : (List (List Int))) (f : ((List Int) → Option Bool)) : Option Bool :=
  (slices_IndexFunc_____int___int_ sv f).bind fun rv =>
  some (decide (rv ≥ 0))
theorem slices_ContainsFunc_____int___int__ok {w0 : World} {D0 : Stab} (hD : D0.on w0) (sv : (List (List Int))) (f : ((List Int) → Option Bool)) {p : Option Addr} {c : Nat} {fid : FuncId} {first : List Value} {cap : List Value} (hs : SRc (C_sl C_int) D0 sv p c) (hf : FnOk_77 w0 D0 fid first cap f) (out : Bool) (h : slices_ContainsFunc_____int___int_ sv f = some out) : Calls Tryd.prog 44 [.slice p sv.length c, .func (.func fid) first.toArray cap.toArray].toArray w0 (RetP D0 w0 (.bool out)) := by
 refine enter _ 9 Tryd.func44 rfl Tryd.ntmps44 rfl fun a hF => ?_
 replace hF : Frm 9 [] [(0, .slice p sv.length c), (1, .func (.func fid) first.toArray cap.toArray)] a := hF
 have hS := St.start hD
 unfold slices_ContainsFunc_____int___int_ at h
 refine seq (region (step hF (Y.assign hF rfl) rfl fun a hF => nT (seq (region (step hF (Y.move hF rfl) rfl fun a hF => step hF (Y.move hF rfl) rfl fun a hF => ?_)))))
 obtain ⟨rv, hx, h⟩ := bind_some h
 refine O.callP (us := [.slice p sv.length c, .func (.func fid) first.toArray cap.toArray]) ca_71 hF hS (slices_IndexFunc_____int___int__ok hS.stab sv f hs (show FnOk_77 _ _ fid first cap f from ⟨hf.1, fun w D hb hle hon => hf.2 w D (hS.below.trans (hb.mono hS.below.size)) (hS.le.trans hle) hon⟩) rv hx) rfl rfl fun a w hF hS => step hF (Y.geq hF rfl rfl) rfl fun a hF => step hF (Y.assign hF rfl) rfl fun a hF => nT (ret_ ?_)
 obtain rfl := some_inj h
 exact leaveP Tryd.results44 hF hS (.cons (.tmp rfl) .nil) .nil rfl
noncomputable def beat_IsTruth_2 (n : Int) : Option Bool :=
  (beat_lies n (-100000) 100000).bind fun rv =>
  some (!rv)
theorem beat_IsTruth_2_ok {w0 : World} {D0 : Stab} (hD : D0.on w0) (n : Int) (out : Bool) (h : beat_IsTruth_2 n = some out) : Calls Tryd.prog 47 [iv n].toArray w0 (RetP D0 w0 (.bool out)) := by
 refine enter _ 6 Tryd.func47 rfl Tryd.ntmps47 rfl fun a hF => ?_
 replace hF : Frm 6 [] [(0, iv n)] a := hF
 have hS := St.start hD
 unfold beat_IsTruth_2 at h
 refine seq (region (step hF (Y.assign hF rfl) rfl fun a hF => nT (seq (region (step hF (Y.move hF rfl) rfl fun a hF => ?_)))))
 obtain ⟨rv, hx, h⟩ := bind_some h
 refine O.callP (us := [iv n, iv (-100000), iv 100000]) ca_48 hF hS (beat_lies_ok hS.stab n (-100000) 100000 rv hx) rfl rfl fun a w hF hS => step hF (Y.not hF rfl) rfl fun a hF => step hF (Y.assign hF rfl) rfl fun a hF => nT (ret_ ?_)
 obtain rfl := some_inj h
 exact leaveP Tryd.results47 hF hS (.cons (.tmp rfl) .nil) .nil rfl
noncomputable def slices_IndexFunc___int_int__b1 (sv : (List Int)) (f : (Int → Option Bool)) : (Int × Int) → Option ((Int × Int) ⊕ Int)
 | (v4_0, v8_0) =>
  cond (decide (v8_0 < (sv.length : Int)))
  ((idx sv v8_0).bind fun e =>
  (f e).bind fun rv =>
  cond rv
  (ext (some v8_0))
  (nxt (v4_0, wr (v8_0 + 1))))
  (ext (some (-1)))
noncomputable def slices_IndexFunc___int_int_ (sv : (List Int)) (f : (Int → Option Bool)) : Option Int :=
  loopU (slices_IndexFunc___int_int__b1 sv f) (0, 0)
theorem slices_IndexFunc___int_int__ok {w0 : World} {D0 : Stab} (hD : D0.on w0) (sv : (List Int)) (f : (Int → Option Bool)) {p : Option Addr} {c : Nat} {fid : FuncId} {first : List Value} {cap : List Value} (hs : SRc C_int D0 sv p c) (hf : FnOk_80 w0 D0 fid first cap f) (out : Int) (h : slices_IndexFunc___int_int_ sv f = some out) : Calls Tryd.prog 72 [.slice p sv.length c, .func (.func fid) first.toArray cap.toArray].toArray w0 (RetP D0 w0 (iv out)) := by
 refine enter _ 19 Tryd.func72 rfl Tryd.ntmps72 rfl fun a hF => ?_
 replace hF : Frm 19 [] [(0, .slice p sv.length c), (1, .func (.func fid) first.toArray cap.toArray)] a := hF
 have hS := St.start hD
 unfold slices_IndexFunc___int_int_ at h
 refine seq (region (step hF (Y.assign hF rfl) rfl fun a hF => nT (seq (seq (region (step hF (Y.move hF rfl) rfl fun a hF => step hF (Y.lenSl u_44 hF rfl) rfl fun a hF => step hF (Y.move hF rfl) rfl fun a hF => nT (block (loop_cut (body := slices_IndexFunc___int_int__b1 sv f) (out := out) (fun s a w => ∃ (v4_0 : Int) (v8_0 : Int), ∃ (Dv : Stab), s = (v4_0, v8_0) ∧ D0.le Dv ∧ Frm 19 [] [(0, .slice p sv.length c), (1, .func (.func fid) first.toArray cap.toArray), (4, iv v4_0), (7, iv (sv.length : Int)), (8, iv v8_0)] a ∧ St w0 D0 Dv [] w) (0, 0) h ⟨0, 0, D0, rfl, Stab.le.refl _, hF.weak (AF rfl), hS.weak trivial⟩ ?_))))))))
 rintro s a w xo ⟨v4_0, v8_0, Dv, rfl, hlev, hF, hS⟩ h hxo
 unfold slices_IndexFunc___int_int__b1 at h
 dsimp only at h
 replace hs := hs.mono hlev
 refine seq (region (step hF (Y.lss hF rfl rfl) rfl fun a hF => nT (seq (cond_b hF rfl (fun hbv => ?_) (fun hbv => ?_)))))
 ·replace h := cond_t h hbv
  refine skip_ (then_n (seq (block (seq (region (step hF (Y.move hF rfl) rfl fun a hF => step hF (Y.assign hF rfl) rfl fun a hF => nT (seq (region (step hF (Y.move hF rfl) rfl fun a hF => step hF (Y.move hF rfl) rfl fun a hF => step hF (Y.move hF rfl) rfl fun a hF => ?_)))))))))
  obtain ⟨e, hx, h⟩ := bind_some h
  obtain ⟨b, o, hE, hY⟩ := Y.indexS (P := Tryd.prog) (C := C_int) (xs := sv) (T := 44) (x := (.tmp 12)) (y := (.tmp 13)) u_44 sz_3 hF rfl rfl (hs).1 hx
  obtain ⟨cc, hc, hcell⟩ := hE.open
  obtain rfl := hc
  refine step hF (hY) rfl fun a hF => step hF (Y.load1 sz_3 hF rfl (hcell _ hS.stab 0 _ rfl)) rfl fun a hF => ?_
  obtain ⟨rv, hx_1, h⟩ := bind_some h
  refine O.callVP (f := fid) (first := first) (cap := cap) (us := [iv e]) hf.1 hF hS rfl rfl (hf.2 _ _ hS.below hS.le hS.stab e rv hx_1) rfl fun a w hF hS => nT (cond_b hF rfl (fun hbv_1 => ?_) (fun hbv_1 => ?_))
  ·replace h := cond_t h hbv_1
   refine seq (region (step hF (Y.move hF rfl) rfl fun a hF => step hF (Y.assign hF rfl) rfl fun a hF => nT (ret_ (blk_r (then_r (then_r (blk_r (then_r ?_))))))))
   replace h := ext_some h hxo
   obtain rfl := some_inj h
   exact leaveP Tryd.results72 hF hS (.cons (.tmp rfl) .nil) .nil rfl
  replace h := cond_f h hbv_1
  refine skip_ (blk_n (then_n (region (step hF (Y.add hF rfl rfl) rfl fun a hF => step hF (Y.move hF rfl) rfl fun a hF => nT (⟨_, nxt_some h, v4_0, (wr (v8_0 + 1)), Dv, rfl, hlev, hF.weak (AF rfl), hS.weak trivial⟩)))))
 replace h := cond_f h hbv
 refine exit_ (then_x (then_x (blk_hit (then_n ?_))))
 replace h := ext_some h hxo
 refine seq (region (step hF (Y.assign hF rfl) rfl fun a hF => nT (ret_ ?_)))
 obtain rfl := some_inj h
 exact leaveP Tryd.results72 hF hS (.cons (.tmp rfl) .nil) .nil rfl
noncomputable def slices_ContainsFunc___int_int_ (sv : (List Int)) (f : (Int → Option Bool)) : Option Bool :=
  (slices_IndexFunc___int_int_ sv f).bind fun rv =>
  some (decide (rv ≥ 0))
theorem slices_ContainsFunc___int_int__ok {w0 : World} {D0 : Stab} (hD : D0.on w0) (sv : (List Int)) (f : (Int → Option Bool)) {p : Option Addr} {c : Nat} {fid : FuncId} {first : List Value} {cap : List Value} (hs : SRc C_int D0 sv p c) (hf : FnOk_80 w0 D0 fid first cap f) (out : Bool) (h : slices_ContainsFunc___int_int_ sv f = some out) : Calls Tryd.prog 46 [.slice p sv.length c, .func (.func fid) first.toArray cap.toArray].toArray w0 (RetP D0 w0 (.bool out)) := by
 refine enter _ 9 Tryd.func46 rfl Tryd.ntmps46 rfl fun a hF => ?_
 replace hF : Frm 9 [] [(0, .slice p sv.length c), (1, .func (.func fid) first.toArray cap.toArray)] a := hF
 have hS := St.start hD
 unfold slices_ContainsFunc___int_int_ at h
 refine seq (region (step hF (Y.assign hF rfl) rfl fun a hF => nT (seq (region (step hF (Y.move hF rfl) rfl fun a hF => step hF (Y.move hF rfl) rfl fun a hF => ?_)))))
 obtain ⟨rv, hx, h⟩ := bind_some h
 refine O.callP (us := [.slice p sv.length c, .func (.func fid) first.toArray cap.toArray]) ca_72 hF hS (slices_IndexFunc___int_int__ok hS.stab sv f hs (show FnOk_80 _ _ fid first cap f from ⟨hf.1, fun w D hb hle hon => hf.2 w D (hS.below.trans (hb.mono hS.below.size)) (hS.le.trans hle) hon⟩) rv hx) rfl rfl fun a w hF hS => step hF (Y.geq hF rfl rfl) rfl fun a hF => step hF (Y.assign hF rfl) rfl fun a hF => nT (ret_ ?_)
 obtain rfl := some_inj h
 exact leaveP Tryd.results46 hF hS (.cons (.tmp rfl) .nil) .nil rfl
noncomputable def beat_IsTruth_3 (sv : beat_spot) (cv : (List (List Int))) : Option Int :=
  (beat_truth).bind fun rv =>
  cond ([sv.clock, sv.hour] == [rv.clock, rv.hour])
  (some 0)
  ((idx cv sv.clock).bind fun e =>
  (idx e sv.hour).bind fun e_1 =>
  some e_1)
theorem beat_IsTruth_3_ok {w0 : World} {D0 : Stab} (hD : D0.on w0) (sv : beat_spot) (cv : (List (List Int))) {p : Option Addr} {c : Nat} {bb : Nat} (hs : SRc (C_sl C_int) D0 cv p c) (hbv : w0.heap[bb]? = some (.cells ([.slice p cv.length c]).toArray 27 (0, 0))) (out : Int) (h : beat_IsTruth_3 sv cv = some out) : Calls Tryd.prog 50 [.agg #[iv sv.clock, iv sv.hour], .pointer (some ⟨bb, 0, none⟩)].toArray w0 (RetP D0 w0 (iv out)) := by
 refine enter _ 16 Tryd.func50 rfl Tryd.ntmps50 rfl fun a hF => ?_
 replace hF : Frm 16 [] [(0, .agg #[iv sv.clock, iv sv.hour]), (1, .pointer (some ⟨bb, 0, none⟩))] a := hF
 have hS := St.start hD
 unfold beat_IsTruth_3 at h
 refine seq (region (O.box (cs := [iv sv.clock, iv sv.hour]) 2 hF rfl rfl hS rfl fun b a w hF hS => step hF (Y.assign hF rfl) rfl fun a hF => nT (seq (seq ?_))))
 obtain ⟨rv, hx, h⟩ := bind_some h
 refine drawsV 2 (.flt 0 (.alt 1 .done .stop)) mixed_ (by kernel_rfl) (fun w => St w0 D0 D0 [(2, .cells b [iv sv.clock, iv sv.hour] 86)] w) (fun a w => Frm 16 [] [(1, .pointer (some ⟨bb, 0, none⟩)), (2, .pointer (some ⟨b, 0, none⟩)), (3, iv 0), (4, .agg #[iv sv.clock, iv sv.hour]), (5, .agg #[iv rv.clock, iv rv.hour])] a ∧ St w0 D0 D0 [(2, .cells b [iv sv.clock, iv sv.hour] 86)] w) (hS.weak (ms := [(2, .cells b [iv sv.clock, iv sv.hour] 86)]) ⟨rfl, trivial⟩).drew (fun _ _ _ _ h => h) ?_ ?_
 ·replace hS := hS.drew
  have hle0 := hS.le
  refine stepV (i := 0) rfl hF (fun w hS => Y.loadNL 2 sz_86 hF rfl hS rfl rfl rfl) rfl fun a hF => oneV (i := 1) rfl ?_ trivial
  refine O.callP (us := []) ca_51 hF hS (beat_truth_ok hS.stab rv hx) rfl rfl fun a w hF hS => nT ⟨hS.weak (ms := [(2, .cells b [iv sv.clock, iv sv.hour] 86)]) ⟨rfl, trivial⟩, ?_⟩
  exact toTailV ⟨hF.weak (AF rfl), hS.weak ⟨rfl, trivial⟩⟩
 rintro a w ⟨hF, hS⟩
 refine step hF (Y.eqst (fun w => eqT_86.equal (by decide) (l := [sv.clock, sv.hour]) (m := [rv.clock, rv.hour]) rfl rfl) (fun w => run_eqGuard_agg _ _ _ _ _ _ _ eg_86) hF rfl rfl) rfl fun a hF => nT (cond_b hF rfl (fun hbv_1 => ?_) (fun hbv_1 => ?_))
 ·replace h := cond_t h hbv_1
  refine seq (region (step hF (Y.assign hF rfl) rfl fun a hF => nT (ret_ (then_r ?_))))
  obtain rfl := some_inj h
  exact leaveP Tryd.results50 hF hS (.cons (.tmp rfl) .nil) .nil rfl
 replace h := cond_f h hbv_1
 refine skip_ (then_n (seq (draws 10 [(0, true), (1, true), (2, true), (3, true), (4, true), (5, true), (6, true), (7, true), (8, true), (9, true)] mixed_ (by kernel_rfl) (fun w => St w0 D0 D0 _ w) hS.drew (fun _ _ _ _ h => h) ?_)))
 replace hS := hS.drew
 refine stepT (i := 0) rfl hF (fun w hS => Y.load1H sz_27 hF rfl (hS.old hbv) rfl) rfl fun a hF => stepT (i := 1) rfl hF (fun w hS => Y.fieldAddr fo_86_0 hF rfl) rfl fun a hF => stepT (i := 2) rfl hF (fun w hS => Y.load1L 2 sz_3 hF rfl hS rfl rfl) rfl fun a hF => ?_
 obtain ⟨e, hx_1, h⟩ := bind_some h
 obtain ⟨b_1, o, hE, hY⟩ := Y.indexS (P := Tryd.prog) (C := (C_sl C_int)) (xs := cv) (T := 27) (x := (.tmp 7)) (y := (.tmp 9)) u_27 sz_44 hF rfl rfl (hs).1 hx_1
 obtain ⟨cc, hc, hcell⟩ := hE.open
 obtain ⟨p_1, c_1, rfl, hs_1⟩ := hc
 refine stepT (i := 3) rfl hF (fun w hS => hY) rfl fun a hF => stepT (i := 4) rfl hF (fun w hS => Y.load1 sz_44 hF rfl (hcell _ hS.stab 0 _ rfl)) rfl fun a hF => stepT (i := 5) rfl hF (fun w hS => Y.fieldAddr fo_86_1 hF rfl) rfl fun a hF => stepT (i := 6) rfl hF (fun w hS => Y.load1L 2 sz_3 hF rfl hS rfl rfl) rfl fun a hF => ?_
 obtain ⟨e_1, hx_2, h⟩ := bind_some h
 obtain ⟨b_2, o_1, hE_1, hY_1⟩ := Y.indexS (P := Tryd.prog) (C := C_int) (xs := e) (T := 44) (x := (.tmp 11)) (y := (.tmp 13)) u_44 sz_3 hF rfl rfl (hs_1).1 hx_2
 obtain ⟨cc_1, hc_1, hcell_1⟩ := hE_1.open
 obtain rfl := hc_1
 refine stepT (i := 7) rfl hF (fun w hS => hY_1) rfl fun a hF => stepT (i := 8) rfl hF (fun w hS => Y.load1 sz_3 hF rfl (hcell_1 _ hS.stab 0 _ rfl)) rfl fun a hF => stepT (i := 9) rfl hF (fun w hS => Y.assign hF rfl) rfl fun a hF => toTail (nT (ret_ ?_))
 obtain rfl := some_inj h
 exact leaveP Tryd.results50 hF hS (.cons (.tmp rfl) .nil) .nil rfl
noncomputable def beat_IsTruth_b3 (offsets : (List (List Int))) (v44_0 : Int) (rv_4 : (List beat_bound)) : (Bool × Int × Int) → Option ((Bool × Int × Int) ⊕ ((Bool × Int × Int) ⊕ (Bool × Int)))
 | (v4_2, v5_2, v51_0) =>
  cond (decide (v51_0 < (rv_4.length : Int)))
  ((idx rv_4 v51_0).bind fun e_1 =>
  (beat_IsTruth_3 e_1.of_ offsets).bind fun rv_5 =>
  (beat_IsTruth_3 e_1.over offsets).bind fun rv_6 =>
  cond (decide ((wr (rv_5 - rv_6)) > e_1.by_))
  (ext (ext (some (false, 0))))
  (nxt (v4_2, v5_2, wr (v51_0 + 1))))
  (ext (nxt (v4_2, v5_2, wr (v44_0 + 1))))
noncomputable def beat_IsTruth_b2 (offsets : (List (List Int))) (rv_3 : beat_cellar) : (Bool × Int × Int) → Option ((Bool × Int × Int) ⊕ (Bool × Int))
 | (v4_1, v5_1, v44_0) =>
  cond (decide (v44_0 < 3))
  (if (0 : Int) ≤ v44_0 ∧ v44_0 < ((3 : Nat) : Int) then
  (tabf_0 v44_0 rv_3).bind fun rv_4 =>
  loopU (beat_IsTruth_b3 offsets v44_0 rv_4) (v4_1, v5_1, 0)
  else none)
  (ext (some (true, 0)))
noncomputable def beat_IsTruth_b1 (xv : BeatCellar) (offsets : (List (List Int))) : (Bool × Int × Int) → Option ((Bool × Int × Int) ⊕ (Bool × Int))
 | (v4_0, v5_0, v33_0) =>
  cond (decide (v33_0 < (offsets.length : Int)))
  ((idx offsets v33_0).bind fun e =>
  (slices_ContainsFunc___int_int_ e (fun q_z => beat_IsTruth_2 q_z)).bind fun rv_2 =>
  cond rv_2
  (ext (some (false, 0)))
  (nxt (v4_0, v5_0, wr (v33_0 + 1))))
  (ext ((beat_opened xv 0).bind fun rv_3 =>
  loopU (beat_IsTruth_b2 offsets rv_3) (v4_0, v5_0, 0)))
noncomputable def beat_IsTruth (xv : BeatCellar) (offsets : (List (List Int))) : Option (Bool × Int) :=
  (beat_Check xv).bind fun rv =>
  cond (rv != 0)
  (some (false, rv))
  ((cond ((offsets.length : Int) != (xv.Rates.length : Int)) (some true) ((slices_ContainsFunc_____int___int_ offsets (fun q_z => beat_IsTruth_1 q_z xv)).bind fun rv_1 =>
  some rv_1)).bind fun t =>
  cond t
  (some (false, 0))
  (loopU (beat_IsTruth_b1 xv offsets) (false, 0, 0)))
theorem beat_IsTruth_ok {w0 : World} {D0 : Stab} (hD : D0.on w0) (xv : BeatCellar) (offsets : (List (List Int))) {p : Option Addr} {c : Nat} {p_1 : Option Addr} {c_1 : Nat} {p_2 : Option Addr} {c_2 : Nat} {p_3 : Option Addr} {c_3 : Nat} (hs : SRc C_Span D0 xv.Rates p c) (hs_1 : SRc C_BeatOpen D0 xv.Opens p_1 c_1) (hs_2 : SRc C_BeatPair D0 xv.Pairs p_2 c_2) (hs_3 : SRc (C_sl C_int) D0 offsets p_3 c_3) (hG : Glob D0) (out : (Bool × Int)) (h : beat_IsTruth xv offsets = some out) : Calls Tryd.prog 15 [.agg #[iv xv.Hours, .slice p xv.Rates.length c, .slice p_1 xv.Opens.length c_1, .slice p_2 xv.Pairs.length c_2], .slice p_3 offsets.length c_3].toArray w0 (RetP D0 w0 (.tuple #[.bool out.1, iv out.2])) := by
 refine enter _ 69 Tryd.func15 rfl Tryd.ntmps15 rfl fun a hF => ?_
 replace hF : Frm 69 [] [(0, .agg #[iv xv.Hours, .slice p xv.Rates.length c, .slice p_1 xv.Opens.length c_1, .slice p_2 xv.Pairs.length c_2]), (1, .slice p_3 offsets.length c_3)] a := hF
 have hS := St.start hD
 unfold beat_IsTruth at h
 refine seq (region (O.box (cs := [iv xv.Hours, .slice p xv.Rates.length c, .slice p_1 xv.Opens.length c_1, .slice p_2 xv.Pairs.length c_2]) 1 hF rfl rfl hS rfl fun b a w hF hS => O.box (cs := [.slice p_3 offsets.length c_3]) 2 hF rfl rfl hS rfl fun b_1 a w hF hS => step hF (Y.assign hF rfl) rfl fun a hF => step hF (Y.assign hF rfl) rfl fun a hF => nT (seq (seq (region (step hF (Y.loadNL 1 sz_26 hF rfl hS rfl rfl rfl) rfl fun a hF => ?_))))))
 obtain ⟨rv, hx, h⟩ := bind_some h
 refine O.callP (us := [.agg #[iv xv.Hours, .slice p xv.Rates.length c, .slice p_1 xv.Opens.length c_1, .slice p_2 xv.Pairs.length c_2]]) ca_17 hF hS (beat_Check_ok hS.stab xv hs hs_1 hs_2 rv hx) rfl rfl fun a w hF hS => step hF (Y.assign hF rfl) rfl fun a hF => nT (seq (region (step hF (Y.move hF rfl) rfl fun a hF => step hF (Y.neq hF rfl rfl) rfl fun a hF => nT (cond_b hF rfl (fun hbv => ?_) (fun hbv => ?_)))))
 ·replace h := cond_t h hbv
  refine seq (region (step hF (Y.move hF rfl) rfl fun a hF => step hF (Y.assign hF rfl) rfl fun a hF => step hF (Y.assign hF rfl) rfl fun a hF => nT (ret_ (then_r ?_))))
  obtain rfl := some_inj h
  exact leaveP Tryd.results15 hF hS (.cons (.tmp rfl) (.cons (.tmp rfl) .nil)) .nil rfl
 replace h := cond_f h hbv
 refine skip_ (then_n (seq (seq (region (step hF (Y.load1L 2 sz_27 hF rfl hS rfl rfl) rfl fun a hF => step hF (Y.lenSl u_27 hF rfl) rfl fun a hF => step hF (Y.fieldAddr fo_26_1 hF rfl) rfl fun a hF => step hF (Y.load1L 1 sz_22 hF rfl hS rfl rfl) rfl fun a hF => step hF (Y.lenSl u_22 hF rfl) rfl fun a hF => step hF (Y.neq hF rfl rfl) rfl fun a hF => step hF (Y.move hF rfl) rfl fun a hF => ?_)))))
 obtain ⟨t, ht, h⟩ := bind_some h
 refine join (N := 69) (rs := []) (w0 := w0) (D0 := D0) 4 (us := [(2, .pointer (some ⟨b, 0, none⟩)), (3, .pointer (some ⟨b_1, 0, none⟩)), (4, .bool false), (5, iv 0), (30, .bool t)]) (ms := [(1, .cells b [iv xv.Hours, .slice p xv.Rates.length c, .slice p_1 xv.Opens.length c_1, .slice p_2 xv.Pairs.length c_2] 26), (2, .cells b_1 [.slice p_3 offsets.length c_3] 27)]) (D' := D0) ?_ ?_
 ·rcases bcases ((offsets.length : Int) != (xv.Rates.length : Int)) with hbv_1 | hbv_1
  ·skip
   replace h := cond_t ht hbv_1
   refine guard_off hF rfl rfl hbv_1 rfl fun a hF => guard_off hF rfl rfl hbv_1 rfl fun a hF => guard_off hF rfl rfl hbv_1 rfl fun a hF => step hF (Y.pick_t hF rfl hbv_1 rfl) rfl fun a hF => ?_
   obtain rfl := some_inj h
   exact nT ⟨hF.weak (AF rfl), hS.weak ⟨rfl, rfl, trivial⟩⟩
  replace h := cond_f ht hbv_1
  refine guard_on hF rfl rfl hbv_1 (step hF (Y.load1L 2 sz_27 hF rfl hS rfl rfl) rfl fun a hF => guard_on hF rfl rfl hbv_1 (step hF (Y.makeFunc (first := []) (cap := [(.tmp 2)]) (fs := []) (cs := [.pointer (some ⟨b, 0, none⟩)]) hF rfl rfl) rfl fun a hF => guard_on hF rfl rfl hbv_1 ?_))
  obtain ⟨rv_1, hx_1, h⟩ := bind_some h
  refine O.callP (us := [.slice p_3 offsets.length c_3, .func (.func 45) #[] #[.pointer (some ⟨b, 0, none⟩)]]) ca_44 hF hS (slices_ContainsFunc_____int___int__ok hS.stab offsets (fun q_z => beat_IsTruth_1 q_z xv) hs_3 (show FnOk_77 _ _ 45 [] [.pointer (some ⟨b, 0, none⟩)] (fun q_z => beat_IsTruth_1 q_z xv) from ⟨ca_45, fun w D hb hle hon q_z q_p q_c q_hs r h => beat_IsTruth_1_ok hon q_z xv q_hs (hs.mono hle) (hs_1.mono hle) (hs_2.mono hle) (keep hb (hS.each 1 _ rfl)) r h⟩) rv_1 hx_1) rfl rfl fun a w hF hS => step hF (Y.pick_f hF rfl hbv_1 rfl) rfl fun a hF => ?_
  obtain rfl := some_inj h
  exact nT ⟨hF.weak (AF rfl), hS.weak ⟨rfl, rfl, trivial⟩⟩
 intro a w hF hS
 refine nT (cond_b hF rfl (fun hbv_2 => ?_) (fun hbv_2 => ?_))
 ·replace h := cond_t h hbv_2
  refine seq (region (step hF (Y.assign hF rfl) rfl fun a hF => step hF (Y.assign hF rfl) rfl fun a hF => nT (ret_ (then_r ?_))))
  obtain rfl := some_inj h
  exact leaveP Tryd.results15 hF hS (.cons (.tmp rfl) (.cons (.tmp rfl) .nil)) .nil rfl
 replace h := cond_f h hbv_2
 refine skip_ (then_n (seq (seq (region (step hF (Y.load1L 2 sz_27 hF rfl hS rfl rfl) rfl fun a hF => step hF (Y.lenSl u_27 hF rfl) rfl fun a hF => step hF (Y.move hF rfl) rfl fun a hF => nT (block (loop_cut (body := beat_IsTruth_b1 xv offsets) (out := out) (fun s a w => ∃ (v4_0 : Bool) (v5_0 : Int) (v33_0 : Int), ∃ (Dv : Stab), s = (v4_0, v5_0, v33_0) ∧ D0.le Dv ∧ Frm 69 [] [(2, .pointer (some ⟨b, 0, none⟩)), (3, .pointer (some ⟨b_1, 0, none⟩)), (4, .bool v4_0), (5, iv v5_0), (31, .slice p_3 offsets.length c_3), (32, iv (offsets.length : Int)), (33, iv v33_0)] a ∧ St w0 D0 Dv [(1, .cells b [iv xv.Hours, .slice p xv.Rates.length c, .slice p_1 xv.Opens.length c_1, .slice p_2 xv.Pairs.length c_2] 26), (2, .cells b_1 [.slice p_3 offsets.length c_3] 27)] w) (false, 0, 0) h ⟨false, 0, 0, D0, rfl, Stab.le.refl _, hF.weak (AF rfl), hS.weak ⟨rfl, rfl, trivial⟩⟩ ?_)))))))
 rintro s a w xo ⟨v4_0, v5_0, v33_0, Dv, rfl, hlev, hF, hS⟩ h hxo
 unfold beat_IsTruth_b1 at h
 dsimp only at h
 replace hs := hs.mono hlev
 replace hs_1 := hs_1.mono hlev
 replace hs_2 := hs_2.mono hlev
 replace hs_3 := hs_3.mono hlev
 replace hG := hG.mono hlev
 refine seq (region (step hF (Y.lss hF rfl rfl) rfl fun a hF => nT (seq (cond_b hF rfl (fun hbv_3 => ?_) (fun hbv_3 => ?_)))))
 ·replace h := cond_t h hbv_3
  refine skip_ (then_n (seq (block (seq (region ?_)))))
  obtain ⟨e, hx_2, h⟩ := bind_some h
  obtain ⟨b_2, o, hE, hY⟩ := Y.indexS (P := Tryd.prog) (C := (C_sl C_int)) (xs := offsets) (T := 27) (x := (.tmp 31)) (y := (.tmp 33)) u_27 sz_44 hF rfl rfl (hs_3).1 hx_2
  obtain ⟨cc, hc, hcell⟩ := hE.open
  obtain ⟨p_4, c_4, rfl, hs_4⟩ := hc
  refine step hF (hY) rfl fun a hF => step hF (Y.load1 sz_44 hF rfl (hcell _ hS.stab 0 _ rfl)) rfl fun a hF => step hF (Y.assign hF rfl) rfl fun a hF => nT (seq (region (step hF (Y.move hF rfl) rfl fun a hF => ?_)))
  obtain ⟨rv_2, hx_3, h⟩ := bind_some h
  refine O.callP (us := [.slice p_4 e.length c_4, .func (.func 47) #[] #[]]) ca_46 hF hS (slices_ContainsFunc___int_int__ok hS.stab e (fun q_z => beat_IsTruth_2 q_z) hs_4 (show FnOk_80 _ _ 47 [] [] (fun q_z => beat_IsTruth_2 q_z) from ⟨ca_47, fun w D hb hle hon q_z r h => beat_IsTruth_2_ok hon q_z r h⟩) rv_2 hx_3) rfl rfl fun a w hF hS => nT (cond_b hF rfl (fun hbv_4 => ?_) (fun hbv_4 => ?_))
  ·replace h := cond_t h hbv_4
   refine seq (region (step hF (Y.assign hF rfl) rfl fun a hF => step hF (Y.assign hF rfl) rfl fun a hF => nT (ret_ (blk_r (then_r (then_r (blk_r (then_r ?_))))))))
   replace h := ext_some h hxo
   obtain rfl := some_inj h
   exact leaveP Tryd.results15 hF hS (.cons (.tmp rfl) (.cons (.tmp rfl) .nil)) .nil rfl
  replace h := cond_f h hbv_4
  refine skip_ (blk_n (then_n (region (step hF (Y.add hF rfl rfl) rfl fun a hF => step hF (Y.move hF rfl) rfl fun a hF => nT (⟨_, nxt_some h, v4_0, v5_0, (wr (v33_0 + 1)), Dv, rfl, hlev, hF.weak (AF rfl), hS.weak ⟨rfl, rfl, trivial⟩⟩)))))
 replace h := cond_f h hbv_3
 refine exit_ (then_x (then_x (blk_hit (then_n ?_))))
 replace h := ext_some h hxo
 refine seq (region (step hF (Y.loadNL 1 sz_26 hF rfl hS rfl rfl rfl) rfl fun a hF => ?_))
 obtain ⟨rv_3, hx_4, h⟩ := bind_some h
 refine O.callS (us := [.agg #[iv xv.Hours, .slice p xv.Rates.length c, .slice p_1 xv.Opens.length c_1, .slice p_2 xv.Pairs.length c_2], iv 0]) ca_49 hF hS (beat_opened_ok hS.stab xv 0 hs hs_1 hs_2 rv_3 hx_4) rfl rfl fun v Dv_1 a w hR hlev_1 hF hS => ?_
 replace hs_3 := hs_3.mono hlev_1
 replace hG := hG.mono hlev_1
 obtain ⟨p_5, c_5, p_6, c_6, p_7, c_7, bm, rfl, hs_5, hs_6, hs_7, hm⟩ := hR
 refine O.alloc 3 zc_83 hF hS rfl fun b_3 a w hF hS => O.store (us := [iv rv_3.BeatCellar.Hours, .slice p_5 rv_3.BeatCellar.Rates.length c_5, .slice p_6 rv_3.BeatCellar.Opens.length c_6, .slice p_7 rv_3.BeatCellar.Pairs.length c_7, iv rv_3.left, .map bm]) 3 sz_83 hF rfl rfl rfl rfl hS rfl rfl fun a w hF hS => nT (seq (region (step hF (Y.makeFunc (first := []) (cap := [(.tmp 3)]) (fs := []) (cs := [.pointer (some ⟨b_1, 0, none⟩)]) hF rfl rfl) rfl fun a hF => step hF (Y.assign hF rfl) rfl fun a hF => nT (seq (seq (region ?_))))))
 obtain ⟨E, fr, hGb⟩ := hG
 have hG : Glob _ := ⟨E, fr, hGb⟩
 refine step hF (Y.loadNH (cs := tab_0) sz_90 hF rfl (hS.stab _ _ hGb) rfl rfl) rfl fun a hF => step hF (Y.move hF rfl) rfl fun a hF => nT (block (loop_cut (body := beat_IsTruth_b2 offsets rv_3) (out := out) (fun s a w => ∃ (v4_1 : Bool) (v5_1 : Int) (v44_0 : Int), ∃ (Dv_2 : Stab), s = (v4_1, v5_1, v44_0) ∧ Dv_1.le Dv_2 ∧ Frm 69 [] [(4, .bool v4_1), (5, iv v5_1), (9, .pointer (some ⟨b_3, 0, none⟩)), (10, .func (.func 50) #[] #[.pointer (some ⟨b_1, 0, none⟩)]), (43, .agg tab_0.toArray), (44, iv v44_0)] a ∧ St w0 D0 Dv_2 [(1, .cells b [iv xv.Hours, .slice p xv.Rates.length c, .slice p_1 xv.Opens.length c_1, .slice p_2 xv.Pairs.length c_2] 26), (2, .cells b_1 [.slice p_3 offsets.length c_3] 27), (3, .cells b_3 [iv rv_3.BeatCellar.Hours, .slice p_5 rv_3.BeatCellar.Rates.length c_5, .slice p_6 rv_3.BeatCellar.Opens.length c_6, .slice p_7 rv_3.BeatCellar.Pairs.length c_7, iv rv_3.left, .map bm] 83)] w) (v4_0, v5_0, 0) h ⟨v4_0, v5_0, 0, Dv_1, rfl, Stab.le.refl _, hF.weak (AF rfl), hS.weak (AL rfl)⟩ ?_))
 rintro s a w xo_1 ⟨v4_1, v5_1, v44_0, Dv_2, rfl, hlev_2, hF, hS⟩ h hxo_1
 unfold beat_IsTruth_b2 at h
 dsimp only at h
 replace hs_3 := hs_3.mono hlev_2
 replace hs_5 := hs_5.mono hlev_2
 replace hs_6 := hs_6.mono hlev_2
 replace hs_7 := hs_7.mono hlev_2
 replace hm := hm.mono hlev_2
 refine seq (region (step hF (Y.lss hF rfl rfl) rfl fun a hF => nT (seq (cond_b hF rfl (fun hbv_5 => ?_) (fun hbv_5 => ?_)))))
 ·replace h := cond_t h hbv_5
  refine skip_ (then_n (seq (block (seq (region ?_)))))
  obtain ⟨hg, h⟩ := ite_some h
  refine step hF ((show Yields _ _ _ _ (tab_0.getD (Int.toNat v44_0) undef) from Y.indexG u_90 sz_89 rfl hg hF rfl rfl)) rfl fun a hF => step hF (Y.assign hF rfl) rfl fun a hF => nT (seq (region (step hF (Y.move hF rfl) rfl fun a hF => step hF (Y.loadNL 3 sz_83 hF rfl hS rfl rfl rfl) rfl fun a hF => ?_)))
  obtain ⟨rv_4, hx_5, h⟩ := bind_some h
  obtain ⟨f, hfv, hfc, hcall⟩ := tab_0_ok hS.stab v44_0 hg rv_3 hs_5 hs_6 hs_7 hm rv_4 hx_5
  refine O.callVS (f := f) (first := []) (cap := []) (us := [.agg #[iv rv_3.BeatCellar.Hours, .slice p_5 rv_3.BeatCellar.Rates.length c_5, .slice p_6 rv_3.BeatCellar.Opens.length c_6, .slice p_7 rv_3.BeatCellar.Pairs.length c_7, iv rv_3.left, .map bm]]) hfc hF hS (congrArg some hfv) rfl hcall rfl fun v_1 Dv_3 a w hR_1 hlev_3 hF hS => ?_
  replace hs_3 := hs_3.mono hlev_3
  obtain ⟨p_8, c_8, rfl, hs_8⟩ := hR_1
  refine step hF (Y.lenSl u_91 hF rfl) rfl fun a hF => step hF (Y.move hF rfl) rfl fun a hF => nT (block (loop_cut (body := beat_IsTruth_b3 offsets v44_0 rv_4) (out := xo_1) (fun s a w => ∃ (v4_2 : Bool) (v5_2 : Int) (v51_0 : Int), ∃ (Dv_4 : Stab), s = (v4_2, v5_2, v51_0) ∧ Dv_3.le Dv_4 ∧ Frm 69 [] [(4, .bool v4_2), (5, iv v5_2), (9, .pointer (some ⟨b_3, 0, none⟩)), (10, .func (.func 50) #[] #[.pointer (some ⟨b_1, 0, none⟩)]), (43, .agg tab_0.toArray), (44, iv v44_0), (49, .slice p_8 rv_4.length c_8), (50, iv (rv_4.length : Int)), (51, iv v51_0)] a ∧ St w0 D0 Dv_4 [(1, .cells b [iv xv.Hours, .slice p xv.Rates.length c, .slice p_1 xv.Opens.length c_1, .slice p_2 xv.Pairs.length c_2] 26), (2, .cells b_1 [.slice p_3 offsets.length c_3] 27), (3, .cells b_3 [iv rv_3.BeatCellar.Hours, .slice p_5 rv_3.BeatCellar.Rates.length c_5, .slice p_6 rv_3.BeatCellar.Opens.length c_6, .slice p_7 rv_3.BeatCellar.Pairs.length c_7, iv rv_3.left, .map bm] 83)] w) (v4_1, v5_1, 0) h ⟨v4_1, v5_1, 0, Dv_3, rfl, Stab.le.refl _, hF.weak (AF rfl), hS.weak (AL rfl)⟩ ?_))
  rintro s a w xo_2 ⟨v4_2, v5_2, v51_0, Dv_4, rfl, hlev_4, hF, hS⟩ h hxo_2
  unfold beat_IsTruth_b3 at h
  dsimp only at h
  replace hs_3 := hs_3.mono hlev_4
  replace hs_8 := hs_8.mono hlev_4
  refine seq (region (step hF (Y.lss hF rfl rfl) rfl fun a hF => nT (seq (cond_b hF rfl (fun hbv_6 => ?_) (fun hbv_6 => ?_)))))
  ·replace h := cond_t h hbv_6
   refine skip_ (then_n (seq (block (seq (region ?_)))))
   obtain ⟨e_1, hx_6, h⟩ := bind_some h
   obtain ⟨b_4, o_1, hE_1, hY_1⟩ := Y.indexS (P := Tryd.prog) (C := C_beat_bound) (xs := rv_4) (T := 91) (x := (.tmp 49)) (y := (.tmp 51)) u_91 sz_93 hF rfl rfl (hs_8).1 hx_6
   obtain ⟨cc_1, hc_1, hcell_1⟩ := hE_1.open
   obtain rfl := C_beat_bound.open hc_1
   refine step hF (hY_1) rfl fun a hF => step hF (Y.loadNE (o := o_1) (k := 0) sz_93 hF rfl (hcell_1 _ hS.stab) rfl rfl) rfl fun a hF => O.alloc 4 zc_93 hF hS rfl fun b_5 a w hF hS => O.store (us := [iv e_1.of_.clock, iv e_1.of_.hour, iv e_1.over.clock, iv e_1.over.hour, iv e_1.by_]) 4 sz_93 hF rfl rfl rfl rfl hS rfl rfl fun a w hF hS => nT (seq ?_)
   obtain ⟨rv_5, hx_7, h⟩ := bind_some h
   obtain ⟨rv_6, hx_8, h⟩ := bind_some h
   refine drawsV 11 (.flt 0 (.flt 1 (.flt 2 (.flt 4 (.flt 5 (.flt 6 (.flt 9 (.flt 10 (.alt 3 (.alt 7 (.flt 8 .done) .stop) .stop))))))))) mixed_ (by kernel_rfl) (fun w => St w0 D0 Dv_4 [(1, .cells b [iv xv.Hours, .slice p xv.Rates.length c, .slice p_1 xv.Opens.length c_1, .slice p_2 xv.Pairs.length c_2] 26), (2, .cells b_1 [.slice p_3 offsets.length c_3] 27), (3, .cells b_3 [iv rv_3.BeatCellar.Hours, .slice p_5 rv_3.BeatCellar.Rates.length c_5, .slice p_6 rv_3.BeatCellar.Opens.length c_6, .slice p_7 rv_3.BeatCellar.Pairs.length c_7, iv rv_3.left, .map bm] 83), (4, .cells b_5 [iv e_1.of_.clock, iv e_1.of_.hour, iv e_1.over.clock, iv e_1.over.hour, iv e_1.by_] 93)] w) (fun a w => Frm 69 [] [(4, .bool v4_2), (5, iv v5_2), (9, .pointer (some ⟨b_3, 0, none⟩)), (10, .func (.func 50) #[] #[.pointer (some ⟨b_1, 0, none⟩)]), (43, .agg tab_0.toArray), (44, iv v44_0), (49, .slice p_8 rv_4.length c_8), (50, iv (rv_4.length : Int)), (51, iv v51_0), (63, iv (wr (rv_5 - rv_6))), (65, iv e_1.by_)] a ∧ St w0 D0 Dv_4 [(1, .cells b [iv xv.Hours, .slice p xv.Rates.length c, .slice p_1 xv.Opens.length c_1, .slice p_2 xv.Pairs.length c_2] 26), (2, .cells b_1 [.slice p_3 offsets.length c_3] 27), (3, .cells b_3 [iv rv_3.BeatCellar.Hours, .slice p_5 rv_3.BeatCellar.Rates.length c_5, .slice p_6 rv_3.BeatCellar.Opens.length c_6, .slice p_7 rv_3.BeatCellar.Pairs.length c_7, iv rv_3.left, .map bm] 83), (4, .cells b_5 [iv e_1.of_.clock, iv e_1.of_.hour, iv e_1.over.clock, iv e_1.over.hour, iv e_1.by_] 93)] w) (hS.weak (ms := [(1, .cells b [iv xv.Hours, .slice p xv.Rates.length c, .slice p_1 xv.Opens.length c_1, .slice p_2 xv.Pairs.length c_2] 26), (2, .cells b_1 [.slice p_3 offsets.length c_3] 27), (3, .cells b_3 [iv rv_3.BeatCellar.Hours, .slice p_5 rv_3.BeatCellar.Rates.length c_5, .slice p_6 rv_3.BeatCellar.Opens.length c_6, .slice p_7 rv_3.BeatCellar.Pairs.length c_7, iv rv_3.left, .map bm] 83), (4, .cells b_5 [iv e_1.of_.clock, iv e_1.of_.hour, iv e_1.over.clock, iv e_1.over.hour, iv e_1.by_] 93)]) (AL rfl)).drew (fun _ _ _ _ h => h) ?_ ?_
   ·replace hS := hS.drew
    have hle0 := hS.le
    refine stepV (i := 0) rfl hF (fun w hS => Y.move hF rfl) rfl fun a hF => stepV (i := 1) rfl hF (fun w hS => Y.fieldAddr fo_93_0 hF rfl) rfl fun a hF => stepV (i := 2) rfl hF (fun w hS => Y.loadNL 4 sz_86 hF rfl hS rfl rfl rfl) rfl fun a hF => stepV (i := 4) rfl hF (fun w hS => Y.move hF rfl) rfl fun a hF => stepV (i := 5) rfl hF (fun w hS => Y.fieldAddr fo_93_1 hF rfl) rfl fun a hF => stepV (i := 6) rfl hF (fun w hS => Y.loadNL 4 sz_86 hF rfl hS rfl rfl rfl) rfl fun a hF => stepV (i := 9) rfl hF (fun w hS => Y.fieldAddr fo_93_2 hF rfl) rfl fun a hF => stepV (i := 10) rfl hF (fun w hS => Y.load1L 4 sz_3 hF rfl hS rfl rfl) rfl fun a hF => oneV (i := 3) rfl ?_ trivial
    refine O.callVP (f := 50) (first := []) (cap := [.pointer (some ⟨b_1, 0, none⟩)]) (us := [.agg #[iv e_1.of_.clock, iv e_1.of_.hour]]) ca_50 hF hS rfl rfl (beat_IsTruth_3_ok hS.stab e_1.of_ offsets hs_3 (hS.each 2 _ rfl) rv_5 hx_7) rfl fun a w hF hS => nT ⟨hS.weak (ms := [(1, .cells b [iv xv.Hours, .slice p xv.Rates.length c, .slice p_1 xv.Opens.length c_1, .slice p_2 xv.Pairs.length c_2] 26), (2, .cells b_1 [.slice p_3 offsets.length c_3] 27), (3, .cells b_3 [iv rv_3.BeatCellar.Hours, .slice p_5 rv_3.BeatCellar.Rates.length c_5, .slice p_6 rv_3.BeatCellar.Opens.length c_6, .slice p_7 rv_3.BeatCellar.Pairs.length c_7, iv rv_3.left, .map bm] 83), (4, .cells b_5 [iv e_1.of_.clock, iv e_1.of_.hour, iv e_1.over.clock, iv e_1.over.hour, iv e_1.by_] 93)]) (AL rfl), ?_⟩
    refine oneV (i := 7) rfl ?_ trivial
    refine O.callVP (f := 50) (first := []) (cap := [.pointer (some ⟨b_1, 0, none⟩)]) (us := [.agg #[iv e_1.over.clock, iv e_1.over.hour]]) ca_50 hF hS rfl rfl (beat_IsTruth_3_ok hS.stab e_1.over offsets hs_3 (hS.each 2 _ rfl) rv_6 hx_8) rfl fun a w hF hS => nT ⟨hS.weak (ms := [(1, .cells b [iv xv.Hours, .slice p xv.Rates.length c, .slice p_1 xv.Opens.length c_1, .slice p_2 xv.Pairs.length c_2] 26), (2, .cells b_1 [.slice p_3 offsets.length c_3] 27), (3, .cells b_3 [iv rv_3.BeatCellar.Hours, .slice p_5 rv_3.BeatCellar.Rates.length c_5, .slice p_6 rv_3.BeatCellar.Opens.length c_6, .slice p_7 rv_3.BeatCellar.Pairs.length c_7, iv rv_3.left, .map bm] 83), (4, .cells b_5 [iv e_1.of_.clock, iv e_1.of_.hour, iv e_1.over.clock, iv e_1.over.hour, iv e_1.by_] 93)]) (AL rfl), ?_⟩
    refine stepV (i := 8) rfl hF (fun w hS => Y.sub hF rfl rfl) rfl fun a hF => toTailV ⟨hF.weak (AF rfl), hS.weak (AL rfl)⟩
   rintro a w ⟨hF, hS⟩
   refine step hF (Y.gtr hF rfl rfl) rfl fun a hF => nT (cond_b hF rfl (fun hbv_7 => ?_) (fun hbv_7 => ?_))
   ·replace h := cond_t h hbv_7
    refine seq (region (step hF (Y.assign hF rfl) rfl fun a hF => step hF (Y.assign hF rfl) rfl fun a hF => nT (ret_ (blk_r (then_r (then_r (blk_r (blk_r (then_r (then_r (blk_r (then_r ?_))))))))))))
    replace h := ext_some h hxo_2
    replace h := ext_some h hxo_1
    obtain rfl := some_inj h
    exact leaveP Tryd.results15 hF hS (.cons (.tmp rfl) (.cons (.tmp rfl) .nil)) .nil rfl
   replace h := cond_f h hbv_7
   refine skip_ (blk_n (then_n (region (step hF (Y.add hF rfl rfl) rfl fun a hF => step hF (Y.move hF rfl) rfl fun a hF => nT (⟨_, nxt_some h, v4_2, v5_2, (wr (v51_0 + 1)), Dv_4, rfl, hlev_4, hF.weak (AF rfl), hS.weak (AL rfl)⟩)))))
  replace h := cond_f h hbv_6
  refine exit_ (then_x (then_x (blk_hit (blk_n (then_n ?_)))))
  replace h := ext_some h hxo_2
  refine region (step hF (Y.add hF rfl rfl) rfl fun a hF => step hF (Y.move hF rfl) rfl fun a hF => nT (⟨_, nxt_some h, v4_2, v5_2, (wr (v44_0 + 1)), Dv_4, rfl, hlev_2.trans (hlev_3.trans hlev_4), hF.weak (AF rfl), hS.weak (AL rfl)⟩))
 replace h := cond_f h hbv_5
 refine exit_ (then_x (then_x (blk_hit (then_n ?_))))
 replace h := ext_some h hxo_1
 refine seq (region (step hF (Y.assign hF rfl) rfl fun a hF => step hF (Y.assign hF rfl) rfl fun a hF => nT (ret_ ?_)))
 obtain rfl := some_inj h
 exact leaveP Tryd.results15 hF hS (.cons (.tmp rfl) (.cons (.tmp rfl) .nil)) .nil rfl
noncomputable def beat_Best_1 (sv : Span) : Option Int :=
  some sv.Low
theorem beat_Best_1_ok {w0 : World} {D0 : Stab} (hD : D0.on w0) (sv : Span) (out : Int) (h : beat_Best_1 sv = some out) : Calls Tryd.prog 65 [.agg #[iv sv.Low, iv sv.High]].toArray w0 (RetP D0 w0 (iv out)) := by
 refine enter _ 5 Tryd.func65 rfl Tryd.ntmps65 rfl fun a hF => ?_
 replace hF : Frm 5 [] [(0, .agg #[iv sv.Low, iv sv.High])] a := hF
 have hS := St.start hD
 unfold beat_Best_1 at h
 refine seq (region (O.box (cs := [iv sv.Low, iv sv.High]) 1 hF rfl rfl hS rfl fun b a w hF hS => step hF (Y.assign hF rfl) rfl fun a hF => nT (seq (region (step hF (Y.fieldAddr fo_34_0 hF rfl) rfl fun a hF => step hF (Y.load1L 1 sz_3 hF rfl hS rfl rfl) rfl fun a hF => step hF (Y.assign hF rfl) rfl fun a hF => nT (ret_ ?_))))))
 obtain rfl := some_inj h
 exact leaveP Tryd.results65 hF hS (.cons (.tmp rfl) .nil) .nil rfl
noncomputable def beat_Best_2 (sv : Span) : Option Int :=
  some sv.High
theorem beat_Best_2_ok {w0 : World} {D0 : Stab} (hD : D0.on w0) (sv : Span) (out : Int) (h : beat_Best_2 sv = some out) : Calls Tryd.prog 66 [.agg #[iv sv.Low, iv sv.High]].toArray w0 (RetP D0 w0 (iv out)) := by
 refine enter _ 5 Tryd.func66 rfl Tryd.ntmps66 rfl fun a hF => ?_
 replace hF : Frm 5 [] [(0, .agg #[iv sv.Low, iv sv.High])] a := hF
 have hS := St.start hD
 unfold beat_Best_2 at h
 refine seq (region (O.box (cs := [iv sv.Low, iv sv.High]) 1 hF rfl rfl hS rfl fun b a w hF hS => step hF (Y.assign hF rfl) rfl fun a hF => nT (seq (region (step hF (Y.fieldAddr fo_34_1 hF rfl) rfl fun a hF => step hF (Y.load1L 1 sz_3 hF rfl hS rfl rfl) rfl fun a hF => step hF (Y.assign hF rfl) rfl fun a hF => nT (ret_ ?_))))))
 obtain rfl := some_inj h
 exact leaveP Tryd.results66 hF hS (.cons (.tmp rfl) .nil) .nil rfl
end Go.Proofs.YtpniidbbbhbglaaDoor.Rt
