/- Walks of the functions of this seat: what each Go function comes to, as a Lean function, and the proof. Part WB3. Under no conditions. -/
import Derived.Test.YtmbgmefmkjeahaaDoorC15WB2
set_option linter.unusedVariables false
set_option linter.unusedSimpArgs false
set_option maxRecDepth 100000
set_option maxHeartbeats 4000000
namespace Go.Proofs.YtmbgmefmkjeahaaDoor.Rt
open Go Go.RowKit
noncomputable def slave_Sets (xv : SlaveLine) (minute : Int) (p_2 : SlavePlan) : ND (Bool × Int) :=
  (ND.det (slave_within minute 0 (wr (xv.Ring - 1))) fun rv =>
  (ND.det (cond rv ((slave_within p_2.Pre (-1) 1).bind fun rv_1 =>
  some rv_1) (some false)) fun t =>
  (ND.det (cond t ((slave_within p_2.Home 0 60).bind fun rv_2 =>
  some rv_2) (some false)) fun t_1 =>
  (ND.det (cond t_1 ((slave_within p_2.First 0 1).bind fun rv_3 =>
  some rv_3) (some false)) fun t_2 =>
  (ND.det (cond t_2 ((slave_within p_2.Send 0 60).bind fun rv_4 =>
  some rv_4) (some false)) fun t_3 =>
  (ND.bnd (slave_opened xv minute t_3) fun rv_5 =>
  cond (rv_5.2 != 0)
  (ND.ret (false, rv_5.2))
  ((ND.det (slave_setter_sets rv_5.1 p_2) fun rv_6 =>
  ND.ret (rv_6, 0)))))))))
theorem slave_Sets_ok {w0 : World} {D0 : Stab} (hD : D0.on w0) (xv : SlaveLine) (minute : Int) (p_2 : SlavePlan) {p : Option Addr} {c : Nat} {p_1 : Option Addr} {c_1 : Nat} (hs : SRc C_SlaveStart D0 xv.Starts p c) (hs_1 : SRc C_SlaveEvent D0 xv.Events p_1 c_1) (hG : Glob D0) (out : (Bool × Int) → Prop) (h : slave_Sets xv minute p_2 out) : Calls Tryd.prog 32 [.agg #[iv xv.Ring, .slice p xv.Starts.length c, .slice p_1 xv.Events.length c_1], iv minute, .agg #[iv p_2.Pre, iv p_2.Home, iv p_2.First, iv p_2.Send]].toArray w0 (RetPN D0 w0 out fun (out : (Bool × Int)) => .tuple #[.bool out.1, iv out.2]) := by
 refine enter _ 47 Tryd.func32 rfl Tryd.ntmps32 rfl fun a hF => ?_
 replace hF : Frm 47 [] [(0, .agg #[iv xv.Ring, .slice p xv.Starts.length c, .slice p_1 xv.Events.length c_1]), (1, iv minute), (2, .agg #[iv p_2.Pre, iv p_2.Home, iv p_2.First, iv p_2.Send])] a := hF
 have hS := St.start hD
 unfold slave_Sets at h
 refine seq (region (O.box (cs := [iv xv.Ring, .slice p xv.Starts.length c, .slice p_1 xv.Events.length c_1]) 1 hF rfl rfl hS rfl fun b a w hF hS => O.box (cs := [iv p_2.Pre, iv p_2.Home, iv p_2.First, iv p_2.Send]) 2 hF rfl rfl hS rfl fun b_1 a w hF hS => step hF (Y.assign hF rfl) rfl fun a hF => step hF (Y.assign hF rfl) rfl fun a hF => nT (seq ?_)))
 obtain ⟨rv, hx, h⟩ := ndet h
 obtain ⟨t, ht, h⟩ := ndet h
 obtain ⟨t_1, ht_1, h⟩ := ndet h
 obtain ⟨t_2, ht_2, h⟩ := ndet h
 obtain ⟨t_3, ht_3, h⟩ := ndet h
 obtain ⟨KQ, hx_5, hk⟩ := nbnd_ex h
 refine drawsV 34 (.flt 0 (.flt 1 (.flt 2 (.flt 3 (.flt 4 (.flt 5 (.alt 6 (.flt 7 (.flt 8 (.flt 9 (.alt 10 (.flt 11 (.flt 12 (.flt 13 (.flt 14 (.alt 15 (.flt 16 (.flt 17 (.flt 18 (.flt 19 (.alt 20 (.flt 21 (.flt 22 (.flt 23 (.flt 24 (.alt 25 (.flt 26 (.alt 27 (.flt 28 (.flt 29 (.flt 30 (.alt 31 (.alt 32 (.flt 33 .done) .stop) .stop)))) (.alt 31 (.alt 27 (.flt 28 (.flt 29 (.flt 30 (.alt 32 (.flt 33 .done) .stop)))) .stop) .stop))) (.alt 31 (.alt 25 (.flt 26 (.alt 27 (.flt 28 (.flt 29 (.flt 30 (.alt 32 (.flt 33 .done) .stop)))) .stop)) .stop) .stop)))))) (.alt 31 (.alt 20 (.flt 21 (.flt 22 (.flt 23 (.flt 24 (.alt 25 (.flt 26 (.alt 27 (.flt 28 (.flt 29 (.flt 30 (.alt 32 (.flt 33 .done) .stop)))) .stop)) .stop))))) .stop) .stop)))))) (.alt 31 (.alt 15 (.flt 16 (.flt 17 (.flt 18 (.flt 19 (.alt 20 (.flt 21 (.flt 22 (.flt 23 (.flt 24 (.alt 25 (.flt 26 (.alt 27 (.flt 28 (.flt 29 (.flt 30 (.alt 32 (.flt 33 .done) .stop)))) .stop)) .stop))))) .stop))))) .stop) .stop)))))) (.alt 31 (.alt 10 (.flt 11 (.flt 12 (.flt 13 (.flt 14 (.alt 15 (.flt 16 (.flt 17 (.flt 18 (.flt 19 (.alt 20 (.flt 21 (.flt 22 (.flt 23 (.flt 24 (.alt 25 (.flt 26 (.alt 27 (.flt 28 (.flt 29 (.flt 30 (.alt 32 (.flt 33 .done) .stop)))) .stop)) .stop))))) .stop))))) .stop))))) .stop) .stop))))) (.alt 31 (.alt 6 (.flt 7 (.flt 8 (.flt 9 (.alt 10 (.flt 11 (.flt 12 (.flt 13 (.flt 14 (.alt 15 (.flt 16 (.flt 17 (.flt 18 (.flt 19 (.alt 20 (.flt 21 (.flt 22 (.flt 23 (.flt 24 (.alt 25 (.flt 26 (.alt 27 (.flt 28 (.flt 29 (.flt 30 (.alt 32 (.flt 33 .done) .stop)))) .stop)) .stop))))) .stop))))) .stop))))) .stop)))) .stop) .stop)))))))) mixed_ (by kernel_rfl) (fun w => St w0 D0 D0 [(1, .cells b [iv xv.Ring, .slice p xv.Starts.length c, .slice p_1 xv.Events.length c_1] 25), (2, .cells b_1 [iv p_2.Pre, iv p_2.Home, iv p_2.First, iv p_2.Send] 49)] w) (fun a w => ∃ (rv_5 : (slave_setter × Int)), ∃ (Dv_1 : Stab) (b_2 : Nat) (p_3 : Option Addr) (c_2 : Nat) (p_4 : Option Addr) (c_3 : Nat) (p_5 : Option Addr) (c_4 : Nat) (p_6 : Option Addr) (c_5 : Nat), D0.le Dv_1 ∧ Frm 47 [] [(5, .pointer (some ⟨b_1, 0, none⟩)), (6, .bool false), (7, iv 0), (8, .pointer (some ⟨b_2, 0, none⟩)), (9, iv rv_5.2)] a ∧ St w0 D0 Dv_1 [(1, .cells b [iv xv.Ring, .slice p xv.Starts.length c, .slice p_1 xv.Events.length c_1] 25), (2, .cells b_1 [iv p_2.Pre, iv p_2.Home, iv p_2.First, iv p_2.Send] 49), (3, .cells b_2 [iv rv_5.1.line.SlaveLine.Ring, .slice p_3 rv_5.1.line.SlaveLine.Starts.length c_2, .slice p_4 rv_5.1.line.SlaveLine.Events.length c_3, .slice p_5 rv_5.1.line.without.length c_4, .slice p_6 rv_5.1.states.length c_5, iv rv_5.1.minute] 116)] w ∧ SRc C_SlaveStart Dv_1 rv_5.1.line.SlaveLine.Starts p_3 c_2 ∧ SRc C_SlaveEvent Dv_1 rv_5.1.line.SlaveLine.Events p_4 c_3 ∧ SRc C_int Dv_1 rv_5.1.line.without p_5 c_4 ∧ SRc C_SlaveStart Dv_1 rv_5.1.states p_6 c_5 ∧ KQ rv_5) (hS.weak (ms := [(1, .cells b [iv xv.Ring, .slice p xv.Starts.length c, .slice p_1 xv.Events.length c_1] 25), (2, .cells b_1 [iv p_2.Pre, iv p_2.Home, iv p_2.First, iv p_2.Send] 49)]) ⟨rfl, rfl, trivial⟩).drew (fun _ _ _ _ h => h) ?_ ?_
 ·as_aux_lemma =>
   replace hS := hS.drew
   have hle0 := hS.le
   rcases bcases rv with hbv | hbv
   ·as_aux_lemma =>
     skip
     replace ht := cond_t ht hbv
     obtain ⟨rv_1, hx_1, ht⟩ := bind_some ht
     obtain rfl := some_inj ht
     rcases bcases rv_1 with hbv_1 | hbv_1
     ·as_aux_lemma =>
       skip
       replace ht_1 := cond_t ht_1 hbv_1
       obtain ⟨rv_2, hx_2, ht_1⟩ := bind_some ht_1
       obtain rfl := some_inj ht_1
       rcases bcases rv_2 with hbv_2 | hbv_2
       ·as_aux_lemma =>
         skip
         replace ht_2 := cond_t ht_2 hbv_2
         obtain ⟨rv_3, hx_3, ht_2⟩ := bind_some ht_2
         obtain rfl := some_inj ht_2
         rcases bcases rv_3 with hbv_3 | hbv_3
         ·as_aux_lemma =>
           skip
           replace ht_3 := cond_t ht_3 hbv_3
           obtain ⟨rv_4, hx_4, ht_3⟩ := bind_some ht_3
           obtain rfl := some_inj ht_3
           refine stepV (i := 0) rfl hF (fun w hS => Y.loadNL 1 sz_25 hF rfl hS rfl rfl rfl) rfl fun a hF => stepV (i := 1) rfl hF (fun w hS => Y.move hF rfl) rfl fun a hF => stepV (i := 2) rfl hF (fun w hS => Y.move hF rfl) rfl fun a hF => stepV (i := 3) rfl hF (fun w hS => Y.fieldAddr fo_25_0 hF rfl) rfl fun a hF => stepV (i := 4) rfl hF (fun w hS => Y.load1L 1 sz_3 hF rfl hS rfl rfl) rfl fun a hF => stepV (i := 5) rfl hF (fun w hS => Y.sub hF rfl rfl) rfl fun a hF => oneV (i := 6) rfl ?_ ?_
           ·as_aux_lemma =>
             skip
             refine O.callP (us := [iv minute, iv 0, iv (wr (xv.Ring - 1))]) ca_60 hF hS (slave_within_ok hS.stab minute 0 (wr (xv.Ring - 1)) rv hx) rfl rfl fun a w hF hS => nT ⟨hS.weak ⟨rfl, rfl, trivial⟩, ?_⟩
             refine stepV (i := 7) rfl hF (fun w hS => Y.move hF rfl) rfl fun a hF => stepV_on (i := 8) rfl hF rfl rfl hbv (fun w hS => Y.fieldAddr fo_49_0 hF rfl) rfl fun a hF => stepV_on (i := 9) rfl hF rfl rfl hbv (fun w hS => Y.load1L 2 sz_3 hF rfl hS rfl rfl) rfl fun a hF => oneV (i := 10) rfl ?_ ?_
             ·as_aux_lemma =>
               skip
               refine guard_on hF rfl rfl hbv (O.callP (us := [iv p_2.Pre, iv (-1), iv 1]) ca_60 hF hS (slave_within_ok hS.stab p_2.Pre (-1) 1 rv_1 hx_1) rfl rfl fun a w hF hS => nT ⟨hS.weak ⟨rfl, rfl, trivial⟩, ?_⟩)
               refine stepV (i := 11) rfl hF (fun w hS => Y.pick_t hF rfl hbv rfl) rfl fun a hF => stepV (i := 12) rfl hF (fun w hS => Y.move hF rfl) rfl fun a hF => stepV_on (i := 13) rfl hF rfl rfl hbv_1 (fun w hS => Y.fieldAddr fo_49_1 hF rfl) rfl fun a hF => stepV_on (i := 14) rfl hF rfl rfl hbv_1 (fun w hS => Y.load1L 2 sz_3 hF rfl hS rfl rfl) rfl fun a hF => oneV (i := 15) rfl ?_ ?_
               ·as_aux_lemma =>
                 skip
                 refine guard_on hF rfl rfl hbv_1 (O.callP (us := [iv p_2.Home, iv 0, iv 60]) ca_60 hF hS (slave_within_ok hS.stab p_2.Home 0 60 rv_2 hx_2) rfl rfl fun a w hF hS => nT ⟨hS.weak ⟨rfl, rfl, trivial⟩, ?_⟩)
                 refine stepV (i := 16) rfl hF (fun w hS => Y.pick_t hF rfl hbv_1 rfl) rfl fun a hF => stepV (i := 17) rfl hF (fun w hS => Y.move hF rfl) rfl fun a hF => stepV_on (i := 18) rfl hF rfl rfl hbv_2 (fun w hS => Y.fieldAddr fo_49_2 hF rfl) rfl fun a hF => stepV_on (i := 19) rfl hF rfl rfl hbv_2 (fun w hS => Y.load1L 2 sz_3 hF rfl hS rfl rfl) rfl fun a hF => oneV (i := 20) rfl ?_ ?_
                 ·as_aux_lemma =>
                   skip
                   refine guard_on hF rfl rfl hbv_2 (O.callP (us := [iv p_2.First, iv 0, iv 1]) ca_60 hF hS (slave_within_ok hS.stab p_2.First 0 1 rv_3 hx_3) rfl rfl fun a w hF hS => nT ⟨hS.weak ⟨rfl, rfl, trivial⟩, ?_⟩)
                   refine stepV (i := 21) rfl hF (fun w hS => Y.pick_t hF rfl hbv_2 rfl) rfl fun a hF => stepV (i := 22) rfl hF (fun w hS => Y.move hF rfl) rfl fun a hF => stepV_on (i := 23) rfl hF rfl rfl hbv_3 (fun w hS => Y.fieldAddr fo_49_3 hF rfl) rfl fun a hF => stepV_on (i := 24) rfl hF rfl rfl hbv_3 (fun w hS => Y.load1L 2 sz_3 hF rfl hS rfl rfl) rfl fun a hF => oneV (i := 25) rfl ?_ ?_
                   ·skip
                    refine guard_on hF rfl rfl hbv_3 (O.callP (us := [iv p_2.Send, iv 0, iv 60]) ca_60 hF hS (slave_within_ok hS.stab p_2.Send 0 60 rv_4 hx_4) rfl rfl fun a w hF hS => nT ⟨hS.weak ⟨rfl, rfl, trivial⟩, ?_⟩)
                    refine stepV (i := 26) rfl hF (fun w hS => Y.pick_t hF rfl hbv_3 rfl) rfl fun a hF => oneV (i := 27) rfl ?_ ?_
                    ·skip
                     refine O.callSN (us := [.agg #[iv xv.Ring, .slice p xv.Starts.length c, .slice p_1 xv.Events.length c_1], iv minute, .bool rv_4]) ca_74 hF hS (slave_opened_ok hS.stab xv minute rv_4 hs hs_1 hG KQ hx_5) rfl rfl fun rv_5 hq v_1 Dv_2 a w hR_1 hlev_1 hF hS => ?_
                     obtain ⟨p_7, c_6, p_8, c_7, p_9, c_8, p_10, c_9, rfl, hs_6, hs_7, hs_8, hs_9⟩ := hR_1
                     refine nT ⟨(hS.weak (ms := [(1, .cells b [iv xv.Ring, .slice p xv.Starts.length c, .slice p_1 xv.Events.length c_1] 25), (2, .cells b_1 [iv p_2.Pre, iv p_2.Home, iv p_2.First, iv p_2.Send] 49)]) ⟨rfl, rfl, trivial⟩).weakD hlev_1 hle0, ?_⟩
                     refine stepV (i := 28) rfl hF (fun w hS => Y.move hF rfl) rfl fun a hF => stepV (i := 29) rfl hF (fun w hS => Y.extract hF rfl rfl) rfl fun a hF => stepV (i := 30) rfl hF (fun w hS => Y.extract hF rfl rfl) rfl fun a hF => oneV (i := 31) rfl ?_ trivial
                     refine O.alloc 3 zc_116 hF hS rfl fun b_3 a w hF hS => nT ⟨(hS.weak (ms := [(1, .cells b [iv xv.Ring, .slice p xv.Starts.length c, .slice p_1 xv.Events.length c_1] 25), (2, .cells b_1 [iv p_2.Pre, iv p_2.Home, iv p_2.First, iv p_2.Send] 49)]) ⟨rfl, rfl, trivial⟩).weakD hlev_1 hle0, ?_⟩
                     refine oneV (i := 32) rfl ?_ trivial
                     refine O.store (us := [iv rv_5.1.line.SlaveLine.Ring, .slice p_7 rv_5.1.line.SlaveLine.Starts.length c_6, .slice p_8 rv_5.1.line.SlaveLine.Events.length c_7, .slice p_9 rv_5.1.line.without.length c_8, .slice p_10 rv_5.1.states.length c_9, iv rv_5.1.minute]) 3 sz_116 hF rfl rfl rfl rfl hS rfl rfl fun a w hF hS => nT ⟨(hS.weak (ms := [(1, .cells b [iv xv.Ring, .slice p xv.Starts.length c, .slice p_1 xv.Events.length c_1] 25), (2, .cells b_1 [iv p_2.Pre, iv p_2.Home, iv p_2.First, iv p_2.Send] 49)]) ⟨rfl, rfl, trivial⟩).weakD hlev_1 hle0, ?_⟩
                     refine stepV (i := 33) rfl hF (fun w hS => Y.assign hF rfl) rfl fun a hF => toTailV ⟨_, Dv_2, b_3, p_7, c_6, p_8, c_7, p_9, c_8, p_10, c_9, hlev_1, hF.weak (AF rfl), hS.weak (AL rfl), hs_6, hs_7, hs_8, hs_9, hq⟩
                    refine oneV (i := 31) rfl ?_ trivial
                    refine O.alloc 3 zc_116 hF hS rfl fun b_4 a w hF hS => nT ⟨hS.weak ⟨rfl, rfl, trivial⟩, ?_⟩
                    refine oneV (i := 27) rfl ?_ trivial
                    refine O.callSN (us := [.agg #[iv xv.Ring, .slice p xv.Starts.length c, .slice p_1 xv.Events.length c_1], iv minute, .bool rv_4]) ca_74 hF hS (slave_opened_ok hS.stab xv minute rv_4 hs hs_1 hG KQ hx_5) rfl rfl fun rv_5 hq v_2 Dv_3 a w hR_2 hlev_2 hF hS => ?_
                    obtain ⟨p_11, c_10, p_12, c_11, p_13, c_12, p_14, c_13, rfl, hs_10, hs_11, hs_12, hs_13⟩ := hR_2
                    refine nT ⟨(hS.weak (ms := [(1, .cells b [iv xv.Ring, .slice p xv.Starts.length c, .slice p_1 xv.Events.length c_1] 25), (2, .cells b_1 [iv p_2.Pre, iv p_2.Home, iv p_2.First, iv p_2.Send] 49)]) ⟨rfl, rfl, trivial⟩).weakD hlev_2 hle0, ?_⟩
                    refine stepV (i := 28) rfl hF (fun w hS => Y.move hF rfl) rfl fun a hF => stepV (i := 29) rfl hF (fun w hS => Y.extract hF rfl rfl) rfl fun a hF => stepV (i := 30) rfl hF (fun w hS => Y.extract hF rfl rfl) rfl fun a hF => oneV (i := 32) rfl ?_ trivial
                    refine O.store (us := [iv rv_5.1.line.SlaveLine.Ring, .slice p_11 rv_5.1.line.SlaveLine.Starts.length c_10, .slice p_12 rv_5.1.line.SlaveLine.Events.length c_11, .slice p_13 rv_5.1.line.without.length c_12, .slice p_14 rv_5.1.states.length c_13, iv rv_5.1.minute]) 3 sz_116 hF rfl rfl rfl rfl hS rfl rfl fun a w hF hS => nT ⟨(hS.weak (ms := [(1, .cells b [iv xv.Ring, .slice p xv.Starts.length c, .slice p_1 xv.Events.length c_1] 25), (2, .cells b_1 [iv p_2.Pre, iv p_2.Home, iv p_2.First, iv p_2.Send] 49)]) ⟨rfl, rfl, trivial⟩).weakD hlev_2 hle0, ?_⟩
                    refine stepV (i := 33) rfl hF (fun w hS => Y.assign hF rfl) rfl fun a hF => toTailV ⟨_, Dv_3, b_4, p_11, c_10, p_12, c_11, p_13, c_12, p_14, c_13, hlev_2, hF.weak (AF rfl), hS.weak (AL rfl), hs_10, hs_11, hs_12, hs_13, hq⟩
                   refine oneV (i := 31) rfl ?_ trivial
                   refine O.alloc 3 zc_116 hF hS rfl fun b_5 a w hF hS => nT ⟨hS.weak ⟨rfl, rfl, trivial⟩, ?_⟩
                   refine oneV (i := 25) rfl ?_ trivial
                   refine guard_on hF rfl rfl hbv_3 (O.callP (us := [iv p_2.Send, iv 0, iv 60]) ca_60 hF hS (slave_within_ok hS.stab p_2.Send 0 60 rv_4 hx_4) rfl rfl fun a w hF hS => nT ⟨hS.weak ⟨rfl, rfl, trivial⟩, ?_⟩)
                   refine stepV (i := 26) rfl hF (fun w hS => Y.pick_t hF rfl hbv_3 rfl) rfl fun a hF => oneV (i := 27) rfl ?_ trivial
                   refine O.callSN (us := [.agg #[iv xv.Ring, .slice p xv.Starts.length c, .slice p_1 xv.Events.length c_1], iv minute, .bool rv_4]) ca_74 hF hS (slave_opened_ok hS.stab xv minute rv_4 hs hs_1 hG KQ hx_5) rfl rfl fun rv_5 hq v_3 Dv_4 a w hR_3 hlev_3 hF hS => ?_
                   obtain ⟨p_15, c_14, p_16, c_15, p_17, c_16, p_18, c_17, rfl, hs_14, hs_15, hs_16, hs_17⟩ := hR_3
                   refine nT ⟨(hS.weak (ms := [(1, .cells b [iv xv.Ring, .slice p xv.Starts.length c, .slice p_1 xv.Events.length c_1] 25), (2, .cells b_1 [iv p_2.Pre, iv p_2.Home, iv p_2.First, iv p_2.Send] 49)]) ⟨rfl, rfl, trivial⟩).weakD hlev_3 hle0, ?_⟩
                   refine stepV (i := 28) rfl hF (fun w hS => Y.move hF rfl) rfl fun a hF => stepV (i := 29) rfl hF (fun w hS => Y.extract hF rfl rfl) rfl fun a hF => stepV (i := 30) rfl hF (fun w hS => Y.extract hF rfl rfl) rfl fun a hF => oneV (i := 32) rfl ?_ trivial
                   refine O.store (us := [iv rv_5.1.line.SlaveLine.Ring, .slice p_15 rv_5.1.line.SlaveLine.Starts.length c_14, .slice p_16 rv_5.1.line.SlaveLine.Events.length c_15, .slice p_17 rv_5.1.line.without.length c_16, .slice p_18 rv_5.1.states.length c_17, iv rv_5.1.minute]) 3 sz_116 hF rfl rfl rfl rfl hS rfl rfl fun a w hF hS => nT ⟨(hS.weak (ms := [(1, .cells b [iv xv.Ring, .slice p xv.Starts.length c, .slice p_1 xv.Events.length c_1] 25), (2, .cells b_1 [iv p_2.Pre, iv p_2.Home, iv p_2.First, iv p_2.Send] 49)]) ⟨rfl, rfl, trivial⟩).weakD hlev_3 hle0, ?_⟩
                   refine stepV (i := 33) rfl hF (fun w hS => Y.assign hF rfl) rfl fun a hF => toTailV ⟨_, Dv_4, b_5, p_15, c_14, p_16, c_15, p_17, c_16, p_18, c_17, hlev_3, hF.weak (AF rfl), hS.weak (AL rfl), hs_14, hs_15, hs_16, hs_17, hq⟩
                 refine oneV (i := 31) rfl ?_ trivial
                 refine O.alloc 3 zc_116 hF hS rfl fun b_6 a w hF hS => nT ⟨hS.weak ⟨rfl, rfl, trivial⟩, ?_⟩
                 refine oneV (i := 20) rfl ?_ trivial
                 refine guard_on hF rfl rfl hbv_2 (O.callP (us := [iv p_2.First, iv 0, iv 1]) ca_60 hF hS (slave_within_ok hS.stab p_2.First 0 1 rv_3 hx_3) rfl rfl fun a w hF hS => nT ⟨hS.weak ⟨rfl, rfl, trivial⟩, ?_⟩)
                 refine stepV (i := 21) rfl hF (fun w hS => Y.pick_t hF rfl hbv_2 rfl) rfl fun a hF => stepV (i := 22) rfl hF (fun w hS => Y.move hF rfl) rfl fun a hF => stepV_on (i := 23) rfl hF rfl rfl hbv_3 (fun w hS => Y.fieldAddr fo_49_3 hF rfl) rfl fun a hF => stepV_on (i := 24) rfl hF rfl rfl hbv_3 (fun w hS => Y.load1L 2 sz_3 hF rfl hS rfl rfl) rfl fun a hF => oneV (i := 25) rfl ?_ trivial
                 refine guard_on hF rfl rfl hbv_3 (O.callP (us := [iv p_2.Send, iv 0, iv 60]) ca_60 hF hS (slave_within_ok hS.stab p_2.Send 0 60 rv_4 hx_4) rfl rfl fun a w hF hS => nT ⟨hS.weak ⟨rfl, rfl, trivial⟩, ?_⟩)
                 refine stepV (i := 26) rfl hF (fun w hS => Y.pick_t hF rfl hbv_3 rfl) rfl fun a hF => oneV (i := 27) rfl ?_ trivial
                 refine O.callSN (us := [.agg #[iv xv.Ring, .slice p xv.Starts.length c, .slice p_1 xv.Events.length c_1], iv minute, .bool rv_4]) ca_74 hF hS (slave_opened_ok hS.stab xv minute rv_4 hs hs_1 hG KQ hx_5) rfl rfl fun rv_5 hq v_4 Dv_5 a w hR_4 hlev_4 hF hS => ?_
                 obtain ⟨p_19, c_18, p_20, c_19, p_21, c_20, p_22, c_21, rfl, hs_18, hs_19, hs_20, hs_21⟩ := hR_4
                 refine nT ⟨(hS.weak (ms := [(1, .cells b [iv xv.Ring, .slice p xv.Starts.length c, .slice p_1 xv.Events.length c_1] 25), (2, .cells b_1 [iv p_2.Pre, iv p_2.Home, iv p_2.First, iv p_2.Send] 49)]) ⟨rfl, rfl, trivial⟩).weakD hlev_4 hle0, ?_⟩
                 refine stepV (i := 28) rfl hF (fun w hS => Y.move hF rfl) rfl fun a hF => stepV (i := 29) rfl hF (fun w hS => Y.extract hF rfl rfl) rfl fun a hF => stepV (i := 30) rfl hF (fun w hS => Y.extract hF rfl rfl) rfl fun a hF => oneV (i := 32) rfl ?_ trivial
                 refine O.store (us := [iv rv_5.1.line.SlaveLine.Ring, .slice p_19 rv_5.1.line.SlaveLine.Starts.length c_18, .slice p_20 rv_5.1.line.SlaveLine.Events.length c_19, .slice p_21 rv_5.1.line.without.length c_20, .slice p_22 rv_5.1.states.length c_21, iv rv_5.1.minute]) 3 sz_116 hF rfl rfl rfl rfl hS rfl rfl fun a w hF hS => nT ⟨(hS.weak (ms := [(1, .cells b [iv xv.Ring, .slice p xv.Starts.length c, .slice p_1 xv.Events.length c_1] 25), (2, .cells b_1 [iv p_2.Pre, iv p_2.Home, iv p_2.First, iv p_2.Send] 49)]) ⟨rfl, rfl, trivial⟩).weakD hlev_4 hle0, ?_⟩
                 refine stepV (i := 33) rfl hF (fun w hS => Y.assign hF rfl) rfl fun a hF => toTailV ⟨_, Dv_5, b_6, p_19, c_18, p_20, c_19, p_21, c_20, p_22, c_21, hlev_4, hF.weak (AF rfl), hS.weak (AL rfl), hs_18, hs_19, hs_20, hs_21, hq⟩
               refine oneV (i := 31) rfl ?_ trivial
               refine O.alloc 3 zc_116 hF hS rfl fun b_7 a w hF hS => nT ⟨hS.weak ⟨rfl, rfl, trivial⟩, ?_⟩
               refine oneV (i := 15) rfl ?_ trivial
               refine guard_on hF rfl rfl hbv_1 (O.callP (us := [iv p_2.Home, iv 0, iv 60]) ca_60 hF hS (slave_within_ok hS.stab p_2.Home 0 60 rv_2 hx_2) rfl rfl fun a w hF hS => nT ⟨hS.weak ⟨rfl, rfl, trivial⟩, ?_⟩)
               refine stepV (i := 16) rfl hF (fun w hS => Y.pick_t hF rfl hbv_1 rfl) rfl fun a hF => stepV (i := 17) rfl hF (fun w hS => Y.move hF rfl) rfl fun a hF => stepV_on (i := 18) rfl hF rfl rfl hbv_2 (fun w hS => Y.fieldAddr fo_49_2 hF rfl) rfl fun a hF => stepV_on (i := 19) rfl hF rfl rfl hbv_2 (fun w hS => Y.load1L 2 sz_3 hF rfl hS rfl rfl) rfl fun a hF => oneV (i := 20) rfl ?_ trivial
               refine guard_on hF rfl rfl hbv_2 (O.callP (us := [iv p_2.First, iv 0, iv 1]) ca_60 hF hS (slave_within_ok hS.stab p_2.First 0 1 rv_3 hx_3) rfl rfl fun a w hF hS => nT ⟨hS.weak ⟨rfl, rfl, trivial⟩, ?_⟩)
               refine stepV (i := 21) rfl hF (fun w hS => Y.pick_t hF rfl hbv_2 rfl) rfl fun a hF => stepV (i := 22) rfl hF (fun w hS => Y.move hF rfl) rfl fun a hF => stepV_on (i := 23) rfl hF rfl rfl hbv_3 (fun w hS => Y.fieldAddr fo_49_3 hF rfl) rfl fun a hF => stepV_on (i := 24) rfl hF rfl rfl hbv_3 (fun w hS => Y.load1L 2 sz_3 hF rfl hS rfl rfl) rfl fun a hF => oneV (i := 25) rfl ?_ trivial
               refine guard_on hF rfl rfl hbv_3 (O.callP (us := [iv p_2.Send, iv 0, iv 60]) ca_60 hF hS (slave_within_ok hS.stab p_2.Send 0 60 rv_4 hx_4) rfl rfl fun a w hF hS => nT ⟨hS.weak ⟨rfl, rfl, trivial⟩, ?_⟩)
               refine stepV (i := 26) rfl hF (fun w hS => Y.pick_t hF rfl hbv_3 rfl) rfl fun a hF => oneV (i := 27) rfl ?_ trivial
               refine O.callSN (us := [.agg #[iv xv.Ring, .slice p xv.Starts.length c, .slice p_1 xv.Events.length c_1], iv minute, .bool rv_4]) ca_74 hF hS (slave_opened_ok hS.stab xv minute rv_4 hs hs_1 hG KQ hx_5) rfl rfl fun rv_5 hq v_5 Dv_6 a w hR_5 hlev_5 hF hS => ?_
               obtain ⟨p_23, c_22, p_24, c_23, p_25, c_24, p_26, c_25, rfl, hs_22, hs_23, hs_24, hs_25⟩ := hR_5
               refine nT ⟨(hS.weak (ms := [(1, .cells b [iv xv.Ring, .slice p xv.Starts.length c, .slice p_1 xv.Events.length c_1] 25), (2, .cells b_1 [iv p_2.Pre, iv p_2.Home, iv p_2.First, iv p_2.Send] 49)]) ⟨rfl, rfl, trivial⟩).weakD hlev_5 hle0, ?_⟩
               refine stepV (i := 28) rfl hF (fun w hS => Y.move hF rfl) rfl fun a hF => stepV (i := 29) rfl hF (fun w hS => Y.extract hF rfl rfl) rfl fun a hF => stepV (i := 30) rfl hF (fun w hS => Y.extract hF rfl rfl) rfl fun a hF => oneV (i := 32) rfl ?_ trivial
               refine O.store (us := [iv rv_5.1.line.SlaveLine.Ring, .slice p_23 rv_5.1.line.SlaveLine.Starts.length c_22, .slice p_24 rv_5.1.line.SlaveLine.Events.length c_23, .slice p_25 rv_5.1.line.without.length c_24, .slice p_26 rv_5.1.states.length c_25, iv rv_5.1.minute]) 3 sz_116 hF rfl rfl rfl rfl hS rfl rfl fun a w hF hS => nT ⟨(hS.weak (ms := [(1, .cells b [iv xv.Ring, .slice p xv.Starts.length c, .slice p_1 xv.Events.length c_1] 25), (2, .cells b_1 [iv p_2.Pre, iv p_2.Home, iv p_2.First, iv p_2.Send] 49)]) ⟨rfl, rfl, trivial⟩).weakD hlev_5 hle0, ?_⟩
               refine stepV (i := 33) rfl hF (fun w hS => Y.assign hF rfl) rfl fun a hF => toTailV ⟨_, Dv_6, b_7, p_23, c_22, p_24, c_23, p_25, c_24, p_26, c_25, hlev_5, hF.weak (AF rfl), hS.weak (AL rfl), hs_22, hs_23, hs_24, hs_25, hq⟩
             refine oneV (i := 31) rfl ?_ trivial
             refine O.alloc 3 zc_116 hF hS rfl fun b_8 a w hF hS => nT ⟨hS.weak ⟨rfl, rfl, trivial⟩, ?_⟩
             refine oneV (i := 10) rfl ?_ trivial
             refine guard_on hF rfl rfl hbv (O.callP (us := [iv p_2.Pre, iv (-1), iv 1]) ca_60 hF hS (slave_within_ok hS.stab p_2.Pre (-1) 1 rv_1 hx_1) rfl rfl fun a w hF hS => nT ⟨hS.weak ⟨rfl, rfl, trivial⟩, ?_⟩)
             refine stepV (i := 11) rfl hF (fun w hS => Y.pick_t hF rfl hbv rfl) rfl fun a hF => stepV (i := 12) rfl hF (fun w hS => Y.move hF rfl) rfl fun a hF => stepV_on (i := 13) rfl hF rfl rfl hbv_1 (fun w hS => Y.fieldAddr fo_49_1 hF rfl) rfl fun a hF => stepV_on (i := 14) rfl hF rfl rfl hbv_1 (fun w hS => Y.load1L 2 sz_3 hF rfl hS rfl rfl) rfl fun a hF => oneV (i := 15) rfl ?_ trivial
             refine guard_on hF rfl rfl hbv_1 (O.callP (us := [iv p_2.Home, iv 0, iv 60]) ca_60 hF hS (slave_within_ok hS.stab p_2.Home 0 60 rv_2 hx_2) rfl rfl fun a w hF hS => nT ⟨hS.weak ⟨rfl, rfl, trivial⟩, ?_⟩)
             refine stepV (i := 16) rfl hF (fun w hS => Y.pick_t hF rfl hbv_1 rfl) rfl fun a hF => stepV (i := 17) rfl hF (fun w hS => Y.move hF rfl) rfl fun a hF => stepV_on (i := 18) rfl hF rfl rfl hbv_2 (fun w hS => Y.fieldAddr fo_49_2 hF rfl) rfl fun a hF => stepV_on (i := 19) rfl hF rfl rfl hbv_2 (fun w hS => Y.load1L 2 sz_3 hF rfl hS rfl rfl) rfl fun a hF => oneV (i := 20) rfl ?_ trivial
             refine guard_on hF rfl rfl hbv_2 (O.callP (us := [iv p_2.First, iv 0, iv 1]) ca_60 hF hS (slave_within_ok hS.stab p_2.First 0 1 rv_3 hx_3) rfl rfl fun a w hF hS => nT ⟨hS.weak ⟨rfl, rfl, trivial⟩, ?_⟩)
             refine stepV (i := 21) rfl hF (fun w hS => Y.pick_t hF rfl hbv_2 rfl) rfl fun a hF => stepV (i := 22) rfl hF (fun w hS => Y.move hF rfl) rfl fun a hF => stepV_on (i := 23) rfl hF rfl rfl hbv_3 (fun w hS => Y.fieldAddr fo_49_3 hF rfl) rfl fun a hF => stepV_on (i := 24) rfl hF rfl rfl hbv_3 (fun w hS => Y.load1L 2 sz_3 hF rfl hS rfl rfl) rfl fun a hF => oneV (i := 25) rfl ?_ trivial
             refine guard_on hF rfl rfl hbv_3 (O.callP (us := [iv p_2.Send, iv 0, iv 60]) ca_60 hF hS (slave_within_ok hS.stab p_2.Send 0 60 rv_4 hx_4) rfl rfl fun a w hF hS => nT ⟨hS.weak ⟨rfl, rfl, trivial⟩, ?_⟩)
             refine stepV (i := 26) rfl hF (fun w hS => Y.pick_t hF rfl hbv_3 rfl) rfl fun a hF => oneV (i := 27) rfl ?_ trivial
             refine O.callSN (us := [.agg #[iv xv.Ring, .slice p xv.Starts.length c, .slice p_1 xv.Events.length c_1], iv minute, .bool rv_4]) ca_74 hF hS (slave_opened_ok hS.stab xv minute rv_4 hs hs_1 hG KQ hx_5) rfl rfl fun rv_5 hq v_6 Dv_7 a w hR_6 hlev_6 hF hS => ?_
             obtain ⟨p_27, c_26, p_28, c_27, p_29, c_28, p_30, c_29, rfl, hs_26, hs_27, hs_28, hs_29⟩ := hR_6
             refine nT ⟨(hS.weak (ms := [(1, .cells b [iv xv.Ring, .slice p xv.Starts.length c, .slice p_1 xv.Events.length c_1] 25), (2, .cells b_1 [iv p_2.Pre, iv p_2.Home, iv p_2.First, iv p_2.Send] 49)]) ⟨rfl, rfl, trivial⟩).weakD hlev_6 hle0, ?_⟩
             refine stepV (i := 28) rfl hF (fun w hS => Y.move hF rfl) rfl fun a hF => stepV (i := 29) rfl hF (fun w hS => Y.extract hF rfl rfl) rfl fun a hF => stepV (i := 30) rfl hF (fun w hS => Y.extract hF rfl rfl) rfl fun a hF => oneV (i := 32) rfl ?_ trivial
             refine O.store (us := [iv rv_5.1.line.SlaveLine.Ring, .slice p_27 rv_5.1.line.SlaveLine.Starts.length c_26, .slice p_28 rv_5.1.line.SlaveLine.Events.length c_27, .slice p_29 rv_5.1.line.without.length c_28, .slice p_30 rv_5.1.states.length c_29, iv rv_5.1.minute]) 3 sz_116 hF rfl rfl rfl rfl hS rfl rfl fun a w hF hS => nT ⟨(hS.weak (ms := [(1, .cells b [iv xv.Ring, .slice p xv.Starts.length c, .slice p_1 xv.Events.length c_1] 25), (2, .cells b_1 [iv p_2.Pre, iv p_2.Home, iv p_2.First, iv p_2.Send] 49)]) ⟨rfl, rfl, trivial⟩).weakD hlev_6 hle0, ?_⟩
             refine stepV (i := 33) rfl hF (fun w hS => Y.assign hF rfl) rfl fun a hF => toTailV ⟨_, Dv_7, b_8, p_27, c_26, p_28, c_27, p_29, c_28, p_30, c_29, hlev_6, hF.weak (AF rfl), hS.weak (AL rfl), hs_26, hs_27, hs_28, hs_29, hq⟩
           refine oneV (i := 31) rfl ?_ trivial
           refine O.alloc 3 zc_116 hF hS rfl fun b_9 a w hF hS => nT ⟨hS.weak ⟨rfl, rfl, trivial⟩, ?_⟩
           refine oneV (i := 6) rfl ?_ trivial
           refine O.callP (us := [iv minute, iv 0, iv (wr (xv.Ring - 1))]) ca_60 hF hS (slave_within_ok hS.stab minute 0 (wr (xv.Ring - 1)) rv hx) rfl rfl fun a w hF hS => nT ⟨hS.weak ⟨rfl, rfl, trivial⟩, ?_⟩
           refine stepV (i := 7) rfl hF (fun w hS => Y.move hF rfl) rfl fun a hF => stepV_on (i := 8) rfl hF rfl rfl hbv (fun w hS => Y.fieldAddr fo_49_0 hF rfl) rfl fun a hF => stepV_on (i := 9) rfl hF rfl rfl hbv (fun w hS => Y.load1L 2 sz_3 hF rfl hS rfl rfl) rfl fun a hF => oneV (i := 10) rfl ?_ trivial
           refine guard_on hF rfl rfl hbv (O.callP (us := [iv p_2.Pre, iv (-1), iv 1]) ca_60 hF hS (slave_within_ok hS.stab p_2.Pre (-1) 1 rv_1 hx_1) rfl rfl fun a w hF hS => nT ⟨hS.weak ⟨rfl, rfl, trivial⟩, ?_⟩)
           refine stepV (i := 11) rfl hF (fun w hS => Y.pick_t hF rfl hbv rfl) rfl fun a hF => stepV (i := 12) rfl hF (fun w hS => Y.move hF rfl) rfl fun a hF => stepV_on (i := 13) rfl hF rfl rfl hbv_1 (fun w hS => Y.fieldAddr fo_49_1 hF rfl) rfl fun a hF => stepV_on (i := 14) rfl hF rfl rfl hbv_1 (fun w hS => Y.load1L 2 sz_3 hF rfl hS rfl rfl) rfl fun a hF => oneV (i := 15) rfl ?_ trivial
           refine guard_on hF rfl rfl hbv_1 (O.callP (us := [iv p_2.Home, iv 0, iv 60]) ca_60 hF hS (slave_within_ok hS.stab p_2.Home 0 60 rv_2 hx_2) rfl rfl fun a w hF hS => nT ⟨hS.weak ⟨rfl, rfl, trivial⟩, ?_⟩)
           refine stepV (i := 16) rfl hF (fun w hS => Y.pick_t hF rfl hbv_1 rfl) rfl fun a hF => stepV (i := 17) rfl hF (fun w hS => Y.move hF rfl) rfl fun a hF => stepV_on (i := 18) rfl hF rfl rfl hbv_2 (fun w hS => Y.fieldAddr fo_49_2 hF rfl) rfl fun a hF => stepV_on (i := 19) rfl hF rfl rfl hbv_2 (fun w hS => Y.load1L 2 sz_3 hF rfl hS rfl rfl) rfl fun a hF => oneV (i := 20) rfl ?_ trivial
           refine guard_on hF rfl rfl hbv_2 (O.callP (us := [iv p_2.First, iv 0, iv 1]) ca_60 hF hS (slave_within_ok hS.stab p_2.First 0 1 rv_3 hx_3) rfl rfl fun a w hF hS => nT ⟨hS.weak ⟨rfl, rfl, trivial⟩, ?_⟩)
           refine stepV (i := 21) rfl hF (fun w hS => Y.pick_t hF rfl hbv_2 rfl) rfl fun a hF => stepV (i := 22) rfl hF (fun w hS => Y.move hF rfl) rfl fun a hF => stepV_on (i := 23) rfl hF rfl rfl hbv_3 (fun w hS => Y.fieldAddr fo_49_3 hF rfl) rfl fun a hF => stepV_on (i := 24) rfl hF rfl rfl hbv_3 (fun w hS => Y.load1L 2 sz_3 hF rfl hS rfl rfl) rfl fun a hF => oneV (i := 25) rfl ?_ trivial
           refine guard_on hF rfl rfl hbv_3 (O.callP (us := [iv p_2.Send, iv 0, iv 60]) ca_60 hF hS (slave_within_ok hS.stab p_2.Send 0 60 rv_4 hx_4) rfl rfl fun a w hF hS => nT ⟨hS.weak ⟨rfl, rfl, trivial⟩, ?_⟩)
           refine stepV (i := 26) rfl hF (fun w hS => Y.pick_t hF rfl hbv_3 rfl) rfl fun a hF => oneV (i := 27) rfl ?_ trivial
           refine O.callSN (us := [.agg #[iv xv.Ring, .slice p xv.Starts.length c, .slice p_1 xv.Events.length c_1], iv minute, .bool rv_4]) ca_74 hF hS (slave_opened_ok hS.stab xv minute rv_4 hs hs_1 hG KQ hx_5) rfl rfl fun rv_5 hq v_7 Dv_8 a w hR_7 hlev_7 hF hS => ?_
           obtain ⟨p_31, c_30, p_32, c_31, p_33, c_32, p_34, c_33, rfl, hs_30, hs_31, hs_32, hs_33⟩ := hR_7
           refine nT ⟨(hS.weak (ms := [(1, .cells b [iv xv.Ring, .slice p xv.Starts.length c, .slice p_1 xv.Events.length c_1] 25), (2, .cells b_1 [iv p_2.Pre, iv p_2.Home, iv p_2.First, iv p_2.Send] 49)]) ⟨rfl, rfl, trivial⟩).weakD hlev_7 hle0, ?_⟩
           refine stepV (i := 28) rfl hF (fun w hS => Y.move hF rfl) rfl fun a hF => stepV (i := 29) rfl hF (fun w hS => Y.extract hF rfl rfl) rfl fun a hF => stepV (i := 30) rfl hF (fun w hS => Y.extract hF rfl rfl) rfl fun a hF => oneV (i := 32) rfl ?_ trivial
           refine O.store (us := [iv rv_5.1.line.SlaveLine.Ring, .slice p_31 rv_5.1.line.SlaveLine.Starts.length c_30, .slice p_32 rv_5.1.line.SlaveLine.Events.length c_31, .slice p_33 rv_5.1.line.without.length c_32, .slice p_34 rv_5.1.states.length c_33, iv rv_5.1.minute]) 3 sz_116 hF rfl rfl rfl rfl hS rfl rfl fun a w hF hS => nT ⟨(hS.weak (ms := [(1, .cells b [iv xv.Ring, .slice p xv.Starts.length c, .slice p_1 xv.Events.length c_1] 25), (2, .cells b_1 [iv p_2.Pre, iv p_2.Home, iv p_2.First, iv p_2.Send] 49)]) ⟨rfl, rfl, trivial⟩).weakD hlev_7 hle0, ?_⟩
           refine stepV (i := 33) rfl hF (fun w hS => Y.assign hF rfl) rfl fun a hF => toTailV ⟨_, Dv_8, b_9, p_31, c_30, p_32, c_31, p_33, c_32, p_34, c_33, hlev_7, hF.weak (AF rfl), hS.weak (AL rfl), hs_30, hs_31, hs_32, hs_33, hq⟩
         as_aux_lemma =>
          skip
          replace ht_3 := cond_f ht_3 hbv_3
          obtain rfl := some_inj ht_3
          refine stepV (i := 0) rfl hF (fun w hS => Y.loadNL 1 sz_25 hF rfl hS rfl rfl rfl) rfl fun a hF => stepV (i := 1) rfl hF (fun w hS => Y.move hF rfl) rfl fun a hF => stepV (i := 2) rfl hF (fun w hS => Y.move hF rfl) rfl fun a hF => stepV (i := 3) rfl hF (fun w hS => Y.fieldAddr fo_25_0 hF rfl) rfl fun a hF => stepV (i := 4) rfl hF (fun w hS => Y.load1L 1 sz_3 hF rfl hS rfl rfl) rfl fun a hF => stepV (i := 5) rfl hF (fun w hS => Y.sub hF rfl rfl) rfl fun a hF => oneV (i := 6) rfl ?_ ?_
          ·as_aux_lemma =>
            skip
            refine O.callP (us := [iv minute, iv 0, iv (wr (xv.Ring - 1))]) ca_60 hF hS (slave_within_ok hS.stab minute 0 (wr (xv.Ring - 1)) rv hx) rfl rfl fun a w hF hS => nT ⟨hS.weak ⟨rfl, rfl, trivial⟩, ?_⟩
            refine stepV (i := 7) rfl hF (fun w hS => Y.move hF rfl) rfl fun a hF => stepV_on (i := 8) rfl hF rfl rfl hbv (fun w hS => Y.fieldAddr fo_49_0 hF rfl) rfl fun a hF => stepV_on (i := 9) rfl hF rfl rfl hbv (fun w hS => Y.load1L 2 sz_3 hF rfl hS rfl rfl) rfl fun a hF => oneV (i := 10) rfl ?_ ?_
            ·as_aux_lemma =>
              skip
              refine guard_on hF rfl rfl hbv (O.callP (us := [iv p_2.Pre, iv (-1), iv 1]) ca_60 hF hS (slave_within_ok hS.stab p_2.Pre (-1) 1 rv_1 hx_1) rfl rfl fun a w hF hS => nT ⟨hS.weak ⟨rfl, rfl, trivial⟩, ?_⟩)
              refine stepV (i := 11) rfl hF (fun w hS => Y.pick_t hF rfl hbv rfl) rfl fun a hF => stepV (i := 12) rfl hF (fun w hS => Y.move hF rfl) rfl fun a hF => stepV_on (i := 13) rfl hF rfl rfl hbv_1 (fun w hS => Y.fieldAddr fo_49_1 hF rfl) rfl fun a hF => stepV_on (i := 14) rfl hF rfl rfl hbv_1 (fun w hS => Y.load1L 2 sz_3 hF rfl hS rfl rfl) rfl fun a hF => oneV (i := 15) rfl ?_ ?_
              ·as_aux_lemma =>
                skip
                refine guard_on hF rfl rfl hbv_1 (O.callP (us := [iv p_2.Home, iv 0, iv 60]) ca_60 hF hS (slave_within_ok hS.stab p_2.Home 0 60 rv_2 hx_2) rfl rfl fun a w hF hS => nT ⟨hS.weak ⟨rfl, rfl, trivial⟩, ?_⟩)
                refine stepV (i := 16) rfl hF (fun w hS => Y.pick_t hF rfl hbv_1 rfl) rfl fun a hF => stepV (i := 17) rfl hF (fun w hS => Y.move hF rfl) rfl fun a hF => stepV_on (i := 18) rfl hF rfl rfl hbv_2 (fun w hS => Y.fieldAddr fo_49_2 hF rfl) rfl fun a hF => stepV_on (i := 19) rfl hF rfl rfl hbv_2 (fun w hS => Y.load1L 2 sz_3 hF rfl hS rfl rfl) rfl fun a hF => oneV (i := 20) rfl ?_ ?_
                ·as_aux_lemma =>
                  skip
                  refine guard_on hF rfl rfl hbv_2 (O.callP (us := [iv p_2.First, iv 0, iv 1]) ca_60 hF hS (slave_within_ok hS.stab p_2.First 0 1 rv_3 hx_3) rfl rfl fun a w hF hS => nT ⟨hS.weak ⟨rfl, rfl, trivial⟩, ?_⟩)
                  refine stepV (i := 21) rfl hF (fun w hS => Y.pick_t hF rfl hbv_2 rfl) rfl fun a hF => stepV (i := 22) rfl hF (fun w hS => Y.move hF rfl) rfl fun a hF => stepV_off (i := 23) rfl hF rfl rfl hbv_3 rfl fun a hF => stepV_off (i := 24) rfl hF rfl rfl hbv_3 rfl fun a hF => oneV (i := 25) rfl ?_ ?_
                  ·skip
                   refine guard_off hF rfl rfl hbv_3 rfl fun a hF => nT ⟨hS.weak ⟨rfl, rfl, trivial⟩, ?_⟩
                   refine stepV (i := 26) rfl hF (fun w hS => Y.pick_f hF rfl hbv_3 rfl) rfl fun a hF => oneV (i := 27) rfl ?_ ?_
                   ·skip
                    refine O.callSN (us := [.agg #[iv xv.Ring, .slice p xv.Starts.length c, .slice p_1 xv.Events.length c_1], iv minute, .bool false]) ca_74 hF hS (slave_opened_ok hS.stab xv minute false hs hs_1 hG KQ hx_5) rfl rfl fun rv_5 hq v_8 Dv_9 a w hR_8 hlev_8 hF hS => ?_
                    obtain ⟨p_35, c_34, p_36, c_35, p_37, c_36, p_38, c_37, rfl, hs_34, hs_35, hs_36, hs_37⟩ := hR_8
                    refine nT ⟨(hS.weak (ms := [(1, .cells b [iv xv.Ring, .slice p xv.Starts.length c, .slice p_1 xv.Events.length c_1] 25), (2, .cells b_1 [iv p_2.Pre, iv p_2.Home, iv p_2.First, iv p_2.Send] 49)]) ⟨rfl, rfl, trivial⟩).weakD hlev_8 hle0, ?_⟩
                    refine stepV (i := 28) rfl hF (fun w hS => Y.move hF rfl) rfl fun a hF => stepV (i := 29) rfl hF (fun w hS => Y.extract hF rfl rfl) rfl fun a hF => stepV (i := 30) rfl hF (fun w hS => Y.extract hF rfl rfl) rfl fun a hF => oneV (i := 31) rfl ?_ trivial
                    refine O.alloc 3 zc_116 hF hS rfl fun b_10 a w hF hS => nT ⟨(hS.weak (ms := [(1, .cells b [iv xv.Ring, .slice p xv.Starts.length c, .slice p_1 xv.Events.length c_1] 25), (2, .cells b_1 [iv p_2.Pre, iv p_2.Home, iv p_2.First, iv p_2.Send] 49)]) ⟨rfl, rfl, trivial⟩).weakD hlev_8 hle0, ?_⟩
                    refine oneV (i := 32) rfl ?_ trivial
                    refine O.store (us := [iv rv_5.1.line.SlaveLine.Ring, .slice p_35 rv_5.1.line.SlaveLine.Starts.length c_34, .slice p_36 rv_5.1.line.SlaveLine.Events.length c_35, .slice p_37 rv_5.1.line.without.length c_36, .slice p_38 rv_5.1.states.length c_37, iv rv_5.1.minute]) 3 sz_116 hF rfl rfl rfl rfl hS rfl rfl fun a w hF hS => nT ⟨(hS.weak (ms := [(1, .cells b [iv xv.Ring, .slice p xv.Starts.length c, .slice p_1 xv.Events.length c_1] 25), (2, .cells b_1 [iv p_2.Pre, iv p_2.Home, iv p_2.First, iv p_2.Send] 49)]) ⟨rfl, rfl, trivial⟩).weakD hlev_8 hle0, ?_⟩
                    refine stepV (i := 33) rfl hF (fun w hS => Y.assign hF rfl) rfl fun a hF => toTailV ⟨_, Dv_9, b_10, p_35, c_34, p_36, c_35, p_37, c_36, p_38, c_37, hlev_8, hF.weak (AF rfl), hS.weak (AL rfl), hs_34, hs_35, hs_36, hs_37, hq⟩
                   refine oneV (i := 31) rfl ?_ trivial
                   refine O.alloc 3 zc_116 hF hS rfl fun b_11 a w hF hS => nT ⟨hS.weak ⟨rfl, rfl, trivial⟩, ?_⟩
                   refine oneV (i := 27) rfl ?_ trivial
                   refine O.callSN (us := [.agg #[iv xv.Ring, .slice p xv.Starts.length c, .slice p_1 xv.Events.length c_1], iv minute, .bool false]) ca_74 hF hS (slave_opened_ok hS.stab xv minute false hs hs_1 hG KQ hx_5) rfl rfl fun rv_5 hq v_9 Dv_10 a w hR_9 hlev_9 hF hS => ?_
                   obtain ⟨p_39, c_38, p_40, c_39, p_41, c_40, p_42, c_41, rfl, hs_38, hs_39, hs_40, hs_41⟩ := hR_9
                   refine nT ⟨(hS.weak (ms := [(1, .cells b [iv xv.Ring, .slice p xv.Starts.length c, .slice p_1 xv.Events.length c_1] 25), (2, .cells b_1 [iv p_2.Pre, iv p_2.Home, iv p_2.First, iv p_2.Send] 49)]) ⟨rfl, rfl, trivial⟩).weakD hlev_9 hle0, ?_⟩
                   refine stepV (i := 28) rfl hF (fun w hS => Y.move hF rfl) rfl fun a hF => stepV (i := 29) rfl hF (fun w hS => Y.extract hF rfl rfl) rfl fun a hF => stepV (i := 30) rfl hF (fun w hS => Y.extract hF rfl rfl) rfl fun a hF => oneV (i := 32) rfl ?_ trivial
                   refine O.store (us := [iv rv_5.1.line.SlaveLine.Ring, .slice p_39 rv_5.1.line.SlaveLine.Starts.length c_38, .slice p_40 rv_5.1.line.SlaveLine.Events.length c_39, .slice p_41 rv_5.1.line.without.length c_40, .slice p_42 rv_5.1.states.length c_41, iv rv_5.1.minute]) 3 sz_116 hF rfl rfl rfl rfl hS rfl rfl fun a w hF hS => nT ⟨(hS.weak (ms := [(1, .cells b [iv xv.Ring, .slice p xv.Starts.length c, .slice p_1 xv.Events.length c_1] 25), (2, .cells b_1 [iv p_2.Pre, iv p_2.Home, iv p_2.First, iv p_2.Send] 49)]) ⟨rfl, rfl, trivial⟩).weakD hlev_9 hle0, ?_⟩
                   refine stepV (i := 33) rfl hF (fun w hS => Y.assign hF rfl) rfl fun a hF => toTailV ⟨_, Dv_10, b_11, p_39, c_38, p_40, c_39, p_41, c_40, p_42, c_41, hlev_9, hF.weak (AF rfl), hS.weak (AL rfl), hs_38, hs_39, hs_40, hs_41, hq⟩
                  refine oneV (i := 31) rfl ?_ trivial
                  refine O.alloc 3 zc_116 hF hS rfl fun b_12 a w hF hS => nT ⟨hS.weak ⟨rfl, rfl, trivial⟩, ?_⟩
                  refine oneV (i := 25) rfl ?_ trivial
                  refine guard_off hF rfl rfl hbv_3 rfl fun a hF => nT ⟨hS.weak ⟨rfl, rfl, trivial⟩, ?_⟩
                  refine stepV (i := 26) rfl hF (fun w hS => Y.pick_f hF rfl hbv_3 rfl) rfl fun a hF => oneV (i := 27) rfl ?_ trivial
                  refine O.callSN (us := [.agg #[iv xv.Ring, .slice p xv.Starts.length c, .slice p_1 xv.Events.length c_1], iv minute, .bool false]) ca_74 hF hS (slave_opened_ok hS.stab xv minute false hs hs_1 hG KQ hx_5) rfl rfl fun rv_5 hq v_10 Dv_11 a w hR_10 hlev_10 hF hS => ?_
                  obtain ⟨p_43, c_42, p_44, c_43, p_45, c_44, p_46, c_45, rfl, hs_42, hs_43, hs_44, hs_45⟩ := hR_10
                  refine nT ⟨(hS.weak (ms := [(1, .cells b [iv xv.Ring, .slice p xv.Starts.length c, .slice p_1 xv.Events.length c_1] 25), (2, .cells b_1 [iv p_2.Pre, iv p_2.Home, iv p_2.First, iv p_2.Send] 49)]) ⟨rfl, rfl, trivial⟩).weakD hlev_10 hle0, ?_⟩
                  refine stepV (i := 28) rfl hF (fun w hS => Y.move hF rfl) rfl fun a hF => stepV (i := 29) rfl hF (fun w hS => Y.extract hF rfl rfl) rfl fun a hF => stepV (i := 30) rfl hF (fun w hS => Y.extract hF rfl rfl) rfl fun a hF => oneV (i := 32) rfl ?_ trivial
                  refine O.store (us := [iv rv_5.1.line.SlaveLine.Ring, .slice p_43 rv_5.1.line.SlaveLine.Starts.length c_42, .slice p_44 rv_5.1.line.SlaveLine.Events.length c_43, .slice p_45 rv_5.1.line.without.length c_44, .slice p_46 rv_5.1.states.length c_45, iv rv_5.1.minute]) 3 sz_116 hF rfl rfl rfl rfl hS rfl rfl fun a w hF hS => nT ⟨(hS.weak (ms := [(1, .cells b [iv xv.Ring, .slice p xv.Starts.length c, .slice p_1 xv.Events.length c_1] 25), (2, .cells b_1 [iv p_2.Pre, iv p_2.Home, iv p_2.First, iv p_2.Send] 49)]) ⟨rfl, rfl, trivial⟩).weakD hlev_10 hle0, ?_⟩
                  refine stepV (i := 33) rfl hF (fun w hS => Y.assign hF rfl) rfl fun a hF => toTailV ⟨_, Dv_11, b_12, p_43, c_42, p_44, c_43, p_45, c_44, p_46, c_45, hlev_10, hF.weak (AF rfl), hS.weak (AL rfl), hs_42, hs_43, hs_44, hs_45, hq⟩
                refine oneV (i := 31) rfl ?_ trivial
                refine O.alloc 3 zc_116 hF hS rfl fun b_13 a w hF hS => nT ⟨hS.weak ⟨rfl, rfl, trivial⟩, ?_⟩
                refine oneV (i := 20) rfl ?_ trivial
                refine guard_on hF rfl rfl hbv_2 (O.callP (us := [iv p_2.First, iv 0, iv 1]) ca_60 hF hS (slave_within_ok hS.stab p_2.First 0 1 rv_3 hx_3) rfl rfl fun a w hF hS => nT ⟨hS.weak ⟨rfl, rfl, trivial⟩, ?_⟩)
                refine stepV (i := 21) rfl hF (fun w hS => Y.pick_t hF rfl hbv_2 rfl) rfl fun a hF => stepV (i := 22) rfl hF (fun w hS => Y.move hF rfl) rfl fun a hF => stepV_off (i := 23) rfl hF rfl rfl hbv_3 rfl fun a hF => stepV_off (i := 24) rfl hF rfl rfl hbv_3 rfl fun a hF => oneV (i := 25) rfl ?_ trivial
                refine guard_off hF rfl rfl hbv_3 rfl fun a hF => nT ⟨hS.weak ⟨rfl, rfl, trivial⟩, ?_⟩
                refine stepV (i := 26) rfl hF (fun w hS => Y.pick_f hF rfl hbv_3 rfl) rfl fun a hF => oneV (i := 27) rfl ?_ trivial
                refine O.callSN (us := [.agg #[iv xv.Ring, .slice p xv.Starts.length c, .slice p_1 xv.Events.length c_1], iv minute, .bool false]) ca_74 hF hS (slave_opened_ok hS.stab xv minute false hs hs_1 hG KQ hx_5) rfl rfl fun rv_5 hq v_11 Dv_12 a w hR_11 hlev_11 hF hS => ?_
                obtain ⟨p_47, c_46, p_48, c_47, p_49, c_48, p_50, c_49, rfl, hs_46, hs_47, hs_48, hs_49⟩ := hR_11
                refine nT ⟨(hS.weak (ms := [(1, .cells b [iv xv.Ring, .slice p xv.Starts.length c, .slice p_1 xv.Events.length c_1] 25), (2, .cells b_1 [iv p_2.Pre, iv p_2.Home, iv p_2.First, iv p_2.Send] 49)]) ⟨rfl, rfl, trivial⟩).weakD hlev_11 hle0, ?_⟩
                refine stepV (i := 28) rfl hF (fun w hS => Y.move hF rfl) rfl fun a hF => stepV (i := 29) rfl hF (fun w hS => Y.extract hF rfl rfl) rfl fun a hF => stepV (i := 30) rfl hF (fun w hS => Y.extract hF rfl rfl) rfl fun a hF => oneV (i := 32) rfl ?_ trivial
                refine O.store (us := [iv rv_5.1.line.SlaveLine.Ring, .slice p_47 rv_5.1.line.SlaveLine.Starts.length c_46, .slice p_48 rv_5.1.line.SlaveLine.Events.length c_47, .slice p_49 rv_5.1.line.without.length c_48, .slice p_50 rv_5.1.states.length c_49, iv rv_5.1.minute]) 3 sz_116 hF rfl rfl rfl rfl hS rfl rfl fun a w hF hS => nT ⟨(hS.weak (ms := [(1, .cells b [iv xv.Ring, .slice p xv.Starts.length c, .slice p_1 xv.Events.length c_1] 25), (2, .cells b_1 [iv p_2.Pre, iv p_2.Home, iv p_2.First, iv p_2.Send] 49)]) ⟨rfl, rfl, trivial⟩).weakD hlev_11 hle0, ?_⟩
                refine stepV (i := 33) rfl hF (fun w hS => Y.assign hF rfl) rfl fun a hF => toTailV ⟨_, Dv_12, b_13, p_47, c_46, p_48, c_47, p_49, c_48, p_50, c_49, hlev_11, hF.weak (AF rfl), hS.weak (AL rfl), hs_46, hs_47, hs_48, hs_49, hq⟩
              refine oneV (i := 31) rfl ?_ trivial
              refine O.alloc 3 zc_116 hF hS rfl fun b_14 a w hF hS => nT ⟨hS.weak ⟨rfl, rfl, trivial⟩, ?_⟩
              refine oneV (i := 15) rfl ?_ trivial
              refine guard_on hF rfl rfl hbv_1 (O.callP (us := [iv p_2.Home, iv 0, iv 60]) ca_60 hF hS (slave_within_ok hS.stab p_2.Home 0 60 rv_2 hx_2) rfl rfl fun a w hF hS => nT ⟨hS.weak ⟨rfl, rfl, trivial⟩, ?_⟩)
              refine stepV (i := 16) rfl hF (fun w hS => Y.pick_t hF rfl hbv_1 rfl) rfl fun a hF => stepV (i := 17) rfl hF (fun w hS => Y.move hF rfl) rfl fun a hF => stepV_on (i := 18) rfl hF rfl rfl hbv_2 (fun w hS => Y.fieldAddr fo_49_2 hF rfl) rfl fun a hF => stepV_on (i := 19) rfl hF rfl rfl hbv_2 (fun w hS => Y.load1L 2 sz_3 hF rfl hS rfl rfl) rfl fun a hF => oneV (i := 20) rfl ?_ trivial
              refine guard_on hF rfl rfl hbv_2 (O.callP (us := [iv p_2.First, iv 0, iv 1]) ca_60 hF hS (slave_within_ok hS.stab p_2.First 0 1 rv_3 hx_3) rfl rfl fun a w hF hS => nT ⟨hS.weak ⟨rfl, rfl, trivial⟩, ?_⟩)
              refine stepV (i := 21) rfl hF (fun w hS => Y.pick_t hF rfl hbv_2 rfl) rfl fun a hF => stepV (i := 22) rfl hF (fun w hS => Y.move hF rfl) rfl fun a hF => stepV_off (i := 23) rfl hF rfl rfl hbv_3 rfl fun a hF => stepV_off (i := 24) rfl hF rfl rfl hbv_3 rfl fun a hF => oneV (i := 25) rfl ?_ trivial
              refine guard_off hF rfl rfl hbv_3 rfl fun a hF => nT ⟨hS.weak ⟨rfl, rfl, trivial⟩, ?_⟩
              refine stepV (i := 26) rfl hF (fun w hS => Y.pick_f hF rfl hbv_3 rfl) rfl fun a hF => oneV (i := 27) rfl ?_ trivial
              refine O.callSN (us := [.agg #[iv xv.Ring, .slice p xv.Starts.length c, .slice p_1 xv.Events.length c_1], iv minute, .bool false]) ca_74 hF hS (slave_opened_ok hS.stab xv minute false hs hs_1 hG KQ hx_5) rfl rfl fun rv_5 hq v_12 Dv_13 a w hR_12 hlev_12 hF hS => ?_
              obtain ⟨p_51, c_50, p_52, c_51, p_53, c_52, p_54, c_53, rfl, hs_50, hs_51, hs_52, hs_53⟩ := hR_12
              refine nT ⟨(hS.weak (ms := [(1, .cells b [iv xv.Ring, .slice p xv.Starts.length c, .slice p_1 xv.Events.length c_1] 25), (2, .cells b_1 [iv p_2.Pre, iv p_2.Home, iv p_2.First, iv p_2.Send] 49)]) ⟨rfl, rfl, trivial⟩).weakD hlev_12 hle0, ?_⟩
              refine stepV (i := 28) rfl hF (fun w hS => Y.move hF rfl) rfl fun a hF => stepV (i := 29) rfl hF (fun w hS => Y.extract hF rfl rfl) rfl fun a hF => stepV (i := 30) rfl hF (fun w hS => Y.extract hF rfl rfl) rfl fun a hF => oneV (i := 32) rfl ?_ trivial
              refine O.store (us := [iv rv_5.1.line.SlaveLine.Ring, .slice p_51 rv_5.1.line.SlaveLine.Starts.length c_50, .slice p_52 rv_5.1.line.SlaveLine.Events.length c_51, .slice p_53 rv_5.1.line.without.length c_52, .slice p_54 rv_5.1.states.length c_53, iv rv_5.1.minute]) 3 sz_116 hF rfl rfl rfl rfl hS rfl rfl fun a w hF hS => nT ⟨(hS.weak (ms := [(1, .cells b [iv xv.Ring, .slice p xv.Starts.length c, .slice p_1 xv.Events.length c_1] 25), (2, .cells b_1 [iv p_2.Pre, iv p_2.Home, iv p_2.First, iv p_2.Send] 49)]) ⟨rfl, rfl, trivial⟩).weakD hlev_12 hle0, ?_⟩
              refine stepV (i := 33) rfl hF (fun w hS => Y.assign hF rfl) rfl fun a hF => toTailV ⟨_, Dv_13, b_14, p_51, c_50, p_52, c_51, p_53, c_52, p_54, c_53, hlev_12, hF.weak (AF rfl), hS.weak (AL rfl), hs_50, hs_51, hs_52, hs_53, hq⟩
            refine oneV (i := 31) rfl ?_ trivial
            refine O.alloc 3 zc_116 hF hS rfl fun b_15 a w hF hS => nT ⟨hS.weak ⟨rfl, rfl, trivial⟩, ?_⟩
            refine oneV (i := 10) rfl ?_ trivial
            refine guard_on hF rfl rfl hbv (O.callP (us := [iv p_2.Pre, iv (-1), iv 1]) ca_60 hF hS (slave_within_ok hS.stab p_2.Pre (-1) 1 rv_1 hx_1) rfl rfl fun a w hF hS => nT ⟨hS.weak ⟨rfl, rfl, trivial⟩, ?_⟩)
            refine stepV (i := 11) rfl hF (fun w hS => Y.pick_t hF rfl hbv rfl) rfl fun a hF => stepV (i := 12) rfl hF (fun w hS => Y.move hF rfl) rfl fun a hF => stepV_on (i := 13) rfl hF rfl rfl hbv_1 (fun w hS => Y.fieldAddr fo_49_1 hF rfl) rfl fun a hF => stepV_on (i := 14) rfl hF rfl rfl hbv_1 (fun w hS => Y.load1L 2 sz_3 hF rfl hS rfl rfl) rfl fun a hF => oneV (i := 15) rfl ?_ trivial
            refine guard_on hF rfl rfl hbv_1 (O.callP (us := [iv p_2.Home, iv 0, iv 60]) ca_60 hF hS (slave_within_ok hS.stab p_2.Home 0 60 rv_2 hx_2) rfl rfl fun a w hF hS => nT ⟨hS.weak ⟨rfl, rfl, trivial⟩, ?_⟩)
            refine stepV (i := 16) rfl hF (fun w hS => Y.pick_t hF rfl hbv_1 rfl) rfl fun a hF => stepV (i := 17) rfl hF (fun w hS => Y.move hF rfl) rfl fun a hF => stepV_on (i := 18) rfl hF rfl rfl hbv_2 (fun w hS => Y.fieldAddr fo_49_2 hF rfl) rfl fun a hF => stepV_on (i := 19) rfl hF rfl rfl hbv_2 (fun w hS => Y.load1L 2 sz_3 hF rfl hS rfl rfl) rfl fun a hF => oneV (i := 20) rfl ?_ trivial
            refine guard_on hF rfl rfl hbv_2 (O.callP (us := [iv p_2.First, iv 0, iv 1]) ca_60 hF hS (slave_within_ok hS.stab p_2.First 0 1 rv_3 hx_3) rfl rfl fun a w hF hS => nT ⟨hS.weak ⟨rfl, rfl, trivial⟩, ?_⟩)
            refine stepV (i := 21) rfl hF (fun w hS => Y.pick_t hF rfl hbv_2 rfl) rfl fun a hF => stepV (i := 22) rfl hF (fun w hS => Y.move hF rfl) rfl fun a hF => stepV_off (i := 23) rfl hF rfl rfl hbv_3 rfl fun a hF => stepV_off (i := 24) rfl hF rfl rfl hbv_3 rfl fun a hF => oneV (i := 25) rfl ?_ trivial
            refine guard_off hF rfl rfl hbv_3 rfl fun a hF => nT ⟨hS.weak ⟨rfl, rfl, trivial⟩, ?_⟩
            refine stepV (i := 26) rfl hF (fun w hS => Y.pick_f hF rfl hbv_3 rfl) rfl fun a hF => oneV (i := 27) rfl ?_ trivial
            refine O.callSN (us := [.agg #[iv xv.Ring, .slice p xv.Starts.length c, .slice p_1 xv.Events.length c_1], iv minute, .bool false]) ca_74 hF hS (slave_opened_ok hS.stab xv minute false hs hs_1 hG KQ hx_5) rfl rfl fun rv_5 hq v_13 Dv_14 a w hR_13 hlev_13 hF hS => ?_
            obtain ⟨p_55, c_54, p_56, c_55, p_57, c_56, p_58, c_57, rfl, hs_54, hs_55, hs_56, hs_57⟩ := hR_13
            refine nT ⟨(hS.weak (ms := [(1, .cells b [iv xv.Ring, .slice p xv.Starts.length c, .slice p_1 xv.Events.length c_1] 25), (2, .cells b_1 [iv p_2.Pre, iv p_2.Home, iv p_2.First, iv p_2.Send] 49)]) ⟨rfl, rfl, trivial⟩).weakD hlev_13 hle0, ?_⟩
            refine stepV (i := 28) rfl hF (fun w hS => Y.move hF rfl) rfl fun a hF => stepV (i := 29) rfl hF (fun w hS => Y.extract hF rfl rfl) rfl fun a hF => stepV (i := 30) rfl hF (fun w hS => Y.extract hF rfl rfl) rfl fun a hF => oneV (i := 32) rfl ?_ trivial
            refine O.store (us := [iv rv_5.1.line.SlaveLine.Ring, .slice p_55 rv_5.1.line.SlaveLine.Starts.length c_54, .slice p_56 rv_5.1.line.SlaveLine.Events.length c_55, .slice p_57 rv_5.1.line.without.length c_56, .slice p_58 rv_5.1.states.length c_57, iv rv_5.1.minute]) 3 sz_116 hF rfl rfl rfl rfl hS rfl rfl fun a w hF hS => nT ⟨(hS.weak (ms := [(1, .cells b [iv xv.Ring, .slice p xv.Starts.length c, .slice p_1 xv.Events.length c_1] 25), (2, .cells b_1 [iv p_2.Pre, iv p_2.Home, iv p_2.First, iv p_2.Send] 49)]) ⟨rfl, rfl, trivial⟩).weakD hlev_13 hle0, ?_⟩
            refine stepV (i := 33) rfl hF (fun w hS => Y.assign hF rfl) rfl fun a hF => toTailV ⟨_, Dv_14, b_15, p_55, c_54, p_56, c_55, p_57, c_56, p_58, c_57, hlev_13, hF.weak (AF rfl), hS.weak (AL rfl), hs_54, hs_55, hs_56, hs_57, hq⟩
          refine oneV (i := 31) rfl ?_ trivial
          refine O.alloc 3 zc_116 hF hS rfl fun b_16 a w hF hS => nT ⟨hS.weak ⟨rfl, rfl, trivial⟩, ?_⟩
          refine oneV (i := 6) rfl ?_ trivial
          refine O.callP (us := [iv minute, iv 0, iv (wr (xv.Ring - 1))]) ca_60 hF hS (slave_within_ok hS.stab minute 0 (wr (xv.Ring - 1)) rv hx) rfl rfl fun a w hF hS => nT ⟨hS.weak ⟨rfl, rfl, trivial⟩, ?_⟩
          refine stepV (i := 7) rfl hF (fun w hS => Y.move hF rfl) rfl fun a hF => stepV_on (i := 8) rfl hF rfl rfl hbv (fun w hS => Y.fieldAddr fo_49_0 hF rfl) rfl fun a hF => stepV_on (i := 9) rfl hF rfl rfl hbv (fun w hS => Y.load1L 2 sz_3 hF rfl hS rfl rfl) rfl fun a hF => oneV (i := 10) rfl ?_ trivial
          refine guard_on hF rfl rfl hbv (O.callP (us := [iv p_2.Pre, iv (-1), iv 1]) ca_60 hF hS (slave_within_ok hS.stab p_2.Pre (-1) 1 rv_1 hx_1) rfl rfl fun a w hF hS => nT ⟨hS.weak ⟨rfl, rfl, trivial⟩, ?_⟩)
          refine stepV (i := 11) rfl hF (fun w hS => Y.pick_t hF rfl hbv rfl) rfl fun a hF => stepV (i := 12) rfl hF (fun w hS => Y.move hF rfl) rfl fun a hF => stepV_on (i := 13) rfl hF rfl rfl hbv_1 (fun w hS => Y.fieldAddr fo_49_1 hF rfl) rfl fun a hF => stepV_on (i := 14) rfl hF rfl rfl hbv_1 (fun w hS => Y.load1L 2 sz_3 hF rfl hS rfl rfl) rfl fun a hF => oneV (i := 15) rfl ?_ trivial
          refine guard_on hF rfl rfl hbv_1 (O.callP (us := [iv p_2.Home, iv 0, iv 60]) ca_60 hF hS (slave_within_ok hS.stab p_2.Home 0 60 rv_2 hx_2) rfl rfl fun a w hF hS => nT ⟨hS.weak ⟨rfl, rfl, trivial⟩, ?_⟩)
          refine stepV (i := 16) rfl hF (fun w hS => Y.pick_t hF rfl hbv_1 rfl) rfl fun a hF => stepV (i := 17) rfl hF (fun w hS => Y.move hF rfl) rfl fun a hF => stepV_on (i := 18) rfl hF rfl rfl hbv_2 (fun w hS => Y.fieldAddr fo_49_2 hF rfl) rfl fun a hF => stepV_on (i := 19) rfl hF rfl rfl hbv_2 (fun w hS => Y.load1L 2 sz_3 hF rfl hS rfl rfl) rfl fun a hF => oneV (i := 20) rfl ?_ trivial
          refine guard_on hF rfl rfl hbv_2 (O.callP (us := [iv p_2.First, iv 0, iv 1]) ca_60 hF hS (slave_within_ok hS.stab p_2.First 0 1 rv_3 hx_3) rfl rfl fun a w hF hS => nT ⟨hS.weak ⟨rfl, rfl, trivial⟩, ?_⟩)
          refine stepV (i := 21) rfl hF (fun w hS => Y.pick_t hF rfl hbv_2 rfl) rfl fun a hF => stepV (i := 22) rfl hF (fun w hS => Y.move hF rfl) rfl fun a hF => stepV_off (i := 23) rfl hF rfl rfl hbv_3 rfl fun a hF => stepV_off (i := 24) rfl hF rfl rfl hbv_3 rfl fun a hF => oneV (i := 25) rfl ?_ trivial
          refine guard_off hF rfl rfl hbv_3 rfl fun a hF => nT ⟨hS.weak ⟨rfl, rfl, trivial⟩, ?_⟩
          refine stepV (i := 26) rfl hF (fun w hS => Y.pick_f hF rfl hbv_3 rfl) rfl fun a hF => oneV (i := 27) rfl ?_ trivial
          refine O.callSN (us := [.agg #[iv xv.Ring, .slice p xv.Starts.length c, .slice p_1 xv.Events.length c_1], iv minute, .bool false]) ca_74 hF hS (slave_opened_ok hS.stab xv minute false hs hs_1 hG KQ hx_5) rfl rfl fun rv_5 hq v_14 Dv_15 a w hR_14 hlev_14 hF hS => ?_
          obtain ⟨p_59, c_58, p_60, c_59, p_61, c_60, p_62, c_61, rfl, hs_58, hs_59, hs_60, hs_61⟩ := hR_14
          refine nT ⟨(hS.weak (ms := [(1, .cells b [iv xv.Ring, .slice p xv.Starts.length c, .slice p_1 xv.Events.length c_1] 25), (2, .cells b_1 [iv p_2.Pre, iv p_2.Home, iv p_2.First, iv p_2.Send] 49)]) ⟨rfl, rfl, trivial⟩).weakD hlev_14 hle0, ?_⟩
          refine stepV (i := 28) rfl hF (fun w hS => Y.move hF rfl) rfl fun a hF => stepV (i := 29) rfl hF (fun w hS => Y.extract hF rfl rfl) rfl fun a hF => stepV (i := 30) rfl hF (fun w hS => Y.extract hF rfl rfl) rfl fun a hF => oneV (i := 32) rfl ?_ trivial
          refine O.store (us := [iv rv_5.1.line.SlaveLine.Ring, .slice p_59 rv_5.1.line.SlaveLine.Starts.length c_58, .slice p_60 rv_5.1.line.SlaveLine.Events.length c_59, .slice p_61 rv_5.1.line.without.length c_60, .slice p_62 rv_5.1.states.length c_61, iv rv_5.1.minute]) 3 sz_116 hF rfl rfl rfl rfl hS rfl rfl fun a w hF hS => nT ⟨(hS.weak (ms := [(1, .cells b [iv xv.Ring, .slice p xv.Starts.length c, .slice p_1 xv.Events.length c_1] 25), (2, .cells b_1 [iv p_2.Pre, iv p_2.Home, iv p_2.First, iv p_2.Send] 49)]) ⟨rfl, rfl, trivial⟩).weakD hlev_14 hle0, ?_⟩
          refine stepV (i := 33) rfl hF (fun w hS => Y.assign hF rfl) rfl fun a hF => toTailV ⟨_, Dv_15, b_16, p_59, c_58, p_60, c_59, p_61, c_60, p_62, c_61, hlev_14, hF.weak (AF rfl), hS.weak (AL rfl), hs_58, hs_59, hs_60, hs_61, hq⟩
       as_aux_lemma =>
        skip
        replace ht_2 := cond_f ht_2 hbv_2
        obtain rfl := some_inj ht_2
        replace ht_3 := cond_f ht_3 rfl
        obtain rfl := some_inj ht_3
        refine stepV (i := 0) rfl hF (fun w hS => Y.loadNL 1 sz_25 hF rfl hS rfl rfl rfl) rfl fun a hF => stepV (i := 1) rfl hF (fun w hS => Y.move hF rfl) rfl fun a hF => stepV (i := 2) rfl hF (fun w hS => Y.move hF rfl) rfl fun a hF => stepV (i := 3) rfl hF (fun w hS => Y.fieldAddr fo_25_0 hF rfl) rfl fun a hF => stepV (i := 4) rfl hF (fun w hS => Y.load1L 1 sz_3 hF rfl hS rfl rfl) rfl fun a hF => stepV (i := 5) rfl hF (fun w hS => Y.sub hF rfl rfl) rfl fun a hF => oneV (i := 6) rfl ?_ ?_
        ·as_aux_lemma =>
          skip
          refine O.callP (us := [iv minute, iv 0, iv (wr (xv.Ring - 1))]) ca_60 hF hS (slave_within_ok hS.stab minute 0 (wr (xv.Ring - 1)) rv hx) rfl rfl fun a w hF hS => nT ⟨hS.weak ⟨rfl, rfl, trivial⟩, ?_⟩
          refine stepV (i := 7) rfl hF (fun w hS => Y.move hF rfl) rfl fun a hF => stepV_on (i := 8) rfl hF rfl rfl hbv (fun w hS => Y.fieldAddr fo_49_0 hF rfl) rfl fun a hF => stepV_on (i := 9) rfl hF rfl rfl hbv (fun w hS => Y.load1L 2 sz_3 hF rfl hS rfl rfl) rfl fun a hF => oneV (i := 10) rfl ?_ ?_
          ·as_aux_lemma =>
            skip
            refine guard_on hF rfl rfl hbv (O.callP (us := [iv p_2.Pre, iv (-1), iv 1]) ca_60 hF hS (slave_within_ok hS.stab p_2.Pre (-1) 1 rv_1 hx_1) rfl rfl fun a w hF hS => nT ⟨hS.weak ⟨rfl, rfl, trivial⟩, ?_⟩)
            refine stepV (i := 11) rfl hF (fun w hS => Y.pick_t hF rfl hbv rfl) rfl fun a hF => stepV (i := 12) rfl hF (fun w hS => Y.move hF rfl) rfl fun a hF => stepV_on (i := 13) rfl hF rfl rfl hbv_1 (fun w hS => Y.fieldAddr fo_49_1 hF rfl) rfl fun a hF => stepV_on (i := 14) rfl hF rfl rfl hbv_1 (fun w hS => Y.load1L 2 sz_3 hF rfl hS rfl rfl) rfl fun a hF => oneV (i := 15) rfl ?_ ?_
            ·as_aux_lemma =>
              skip
              refine guard_on hF rfl rfl hbv_1 (O.callP (us := [iv p_2.Home, iv 0, iv 60]) ca_60 hF hS (slave_within_ok hS.stab p_2.Home 0 60 rv_2 hx_2) rfl rfl fun a w hF hS => nT ⟨hS.weak ⟨rfl, rfl, trivial⟩, ?_⟩)
              refine stepV (i := 16) rfl hF (fun w hS => Y.pick_t hF rfl hbv_1 rfl) rfl fun a hF => stepV (i := 17) rfl hF (fun w hS => Y.move hF rfl) rfl fun a hF => stepV_off (i := 18) rfl hF rfl rfl hbv_2 rfl fun a hF => stepV_off (i := 19) rfl hF rfl rfl hbv_2 rfl fun a hF => oneV (i := 20) rfl ?_ ?_
              ·as_aux_lemma =>
                skip
                refine guard_off hF rfl rfl hbv_2 rfl fun a hF => nT ⟨hS.weak ⟨rfl, rfl, trivial⟩, ?_⟩
                refine stepV (i := 21) rfl hF (fun w hS => Y.pick_f hF rfl hbv_2 rfl) rfl fun a hF => stepV (i := 22) rfl hF (fun w hS => Y.move hF rfl) rfl fun a hF => stepV_off (i := 23) rfl hF rfl rfl rfl rfl fun a hF => stepV_off (i := 24) rfl hF rfl rfl rfl rfl fun a hF => oneV (i := 25) rfl ?_ ?_
                ·skip
                 refine guard_off hF rfl rfl rfl rfl fun a hF => nT ⟨hS.weak ⟨rfl, rfl, trivial⟩, ?_⟩
                 refine stepV (i := 26) rfl hF (fun w hS => Y.pick_f hF rfl rfl rfl) rfl fun a hF => oneV (i := 27) rfl ?_ ?_
                 ·skip
                  refine O.callSN (us := [.agg #[iv xv.Ring, .slice p xv.Starts.length c, .slice p_1 xv.Events.length c_1], iv minute, .bool false]) ca_74 hF hS (slave_opened_ok hS.stab xv minute false hs hs_1 hG KQ hx_5) rfl rfl fun rv_5 hq v_15 Dv_16 a w hR_15 hlev_15 hF hS => ?_
                  obtain ⟨p_63, c_62, p_64, c_63, p_65, c_64, p_66, c_65, rfl, hs_62, hs_63, hs_64, hs_65⟩ := hR_15
                  refine nT ⟨(hS.weak (ms := [(1, .cells b [iv xv.Ring, .slice p xv.Starts.length c, .slice p_1 xv.Events.length c_1] 25), (2, .cells b_1 [iv p_2.Pre, iv p_2.Home, iv p_2.First, iv p_2.Send] 49)]) ⟨rfl, rfl, trivial⟩).weakD hlev_15 hle0, ?_⟩
                  refine stepV (i := 28) rfl hF (fun w hS => Y.move hF rfl) rfl fun a hF => stepV (i := 29) rfl hF (fun w hS => Y.extract hF rfl rfl) rfl fun a hF => stepV (i := 30) rfl hF (fun w hS => Y.extract hF rfl rfl) rfl fun a hF => oneV (i := 31) rfl ?_ trivial
                  refine O.alloc 3 zc_116 hF hS rfl fun b_17 a w hF hS => nT ⟨(hS.weak (ms := [(1, .cells b [iv xv.Ring, .slice p xv.Starts.length c, .slice p_1 xv.Events.length c_1] 25), (2, .cells b_1 [iv p_2.Pre, iv p_2.Home, iv p_2.First, iv p_2.Send] 49)]) ⟨rfl, rfl, trivial⟩).weakD hlev_15 hle0, ?_⟩
                  refine oneV (i := 32) rfl ?_ trivial
                  refine O.store (us := [iv rv_5.1.line.SlaveLine.Ring, .slice p_63 rv_5.1.line.SlaveLine.Starts.length c_62, .slice p_64 rv_5.1.line.SlaveLine.Events.length c_63, .slice p_65 rv_5.1.line.without.length c_64, .slice p_66 rv_5.1.states.length c_65, iv rv_5.1.minute]) 3 sz_116 hF rfl rfl rfl rfl hS rfl rfl fun a w hF hS => nT ⟨(hS.weak (ms := [(1, .cells b [iv xv.Ring, .slice p xv.Starts.length c, .slice p_1 xv.Events.length c_1] 25), (2, .cells b_1 [iv p_2.Pre, iv p_2.Home, iv p_2.First, iv p_2.Send] 49)]) ⟨rfl, rfl, trivial⟩).weakD hlev_15 hle0, ?_⟩
                  refine stepV (i := 33) rfl hF (fun w hS => Y.assign hF rfl) rfl fun a hF => toTailV ⟨_, Dv_16, b_17, p_63, c_62, p_64, c_63, p_65, c_64, p_66, c_65, hlev_15, hF.weak (AF rfl), hS.weak (AL rfl), hs_62, hs_63, hs_64, hs_65, hq⟩
                 refine oneV (i := 31) rfl ?_ trivial
                 refine O.alloc 3 zc_116 hF hS rfl fun b_18 a w hF hS => nT ⟨hS.weak ⟨rfl, rfl, trivial⟩, ?_⟩
                 refine oneV (i := 27) rfl ?_ trivial
                 refine O.callSN (us := [.agg #[iv xv.Ring, .slice p xv.Starts.length c, .slice p_1 xv.Events.length c_1], iv minute, .bool false]) ca_74 hF hS (slave_opened_ok hS.stab xv minute false hs hs_1 hG KQ hx_5) rfl rfl fun rv_5 hq v_16 Dv_17 a w hR_16 hlev_16 hF hS => ?_
                 obtain ⟨p_67, c_66, p_68, c_67, p_69, c_68, p_70, c_69, rfl, hs_66, hs_67, hs_68, hs_69⟩ := hR_16
                 refine nT ⟨(hS.weak (ms := [(1, .cells b [iv xv.Ring, .slice p xv.Starts.length c, .slice p_1 xv.Events.length c_1] 25), (2, .cells b_1 [iv p_2.Pre, iv p_2.Home, iv p_2.First, iv p_2.Send] 49)]) ⟨rfl, rfl, trivial⟩).weakD hlev_16 hle0, ?_⟩
                 refine stepV (i := 28) rfl hF (fun w hS => Y.move hF rfl) rfl fun a hF => stepV (i := 29) rfl hF (fun w hS => Y.extract hF rfl rfl) rfl fun a hF => stepV (i := 30) rfl hF (fun w hS => Y.extract hF rfl rfl) rfl fun a hF => oneV (i := 32) rfl ?_ trivial
                 refine O.store (us := [iv rv_5.1.line.SlaveLine.Ring, .slice p_67 rv_5.1.line.SlaveLine.Starts.length c_66, .slice p_68 rv_5.1.line.SlaveLine.Events.length c_67, .slice p_69 rv_5.1.line.without.length c_68, .slice p_70 rv_5.1.states.length c_69, iv rv_5.1.minute]) 3 sz_116 hF rfl rfl rfl rfl hS rfl rfl fun a w hF hS => nT ⟨(hS.weak (ms := [(1, .cells b [iv xv.Ring, .slice p xv.Starts.length c, .slice p_1 xv.Events.length c_1] 25), (2, .cells b_1 [iv p_2.Pre, iv p_2.Home, iv p_2.First, iv p_2.Send] 49)]) ⟨rfl, rfl, trivial⟩).weakD hlev_16 hle0, ?_⟩
                 refine stepV (i := 33) rfl hF (fun w hS => Y.assign hF rfl) rfl fun a hF => toTailV ⟨_, Dv_17, b_18, p_67, c_66, p_68, c_67, p_69, c_68, p_70, c_69, hlev_16, hF.weak (AF rfl), hS.weak (AL rfl), hs_66, hs_67, hs_68, hs_69, hq⟩
                refine oneV (i := 31) rfl ?_ trivial
                refine O.alloc 3 zc_116 hF hS rfl fun b_19 a w hF hS => nT ⟨hS.weak ⟨rfl, rfl, trivial⟩, ?_⟩
                refine oneV (i := 25) rfl ?_ trivial
                refine guard_off hF rfl rfl rfl rfl fun a hF => nT ⟨hS.weak ⟨rfl, rfl, trivial⟩, ?_⟩
                refine stepV (i := 26) rfl hF (fun w hS => Y.pick_f hF rfl rfl rfl) rfl fun a hF => oneV (i := 27) rfl ?_ trivial
                refine O.callSN (us := [.agg #[iv xv.Ring, .slice p xv.Starts.length c, .slice p_1 xv.Events.length c_1], iv minute, .bool false]) ca_74 hF hS (slave_opened_ok hS.stab xv minute false hs hs_1 hG KQ hx_5) rfl rfl fun rv_5 hq v_17 Dv_18 a w hR_17 hlev_17 hF hS => ?_
                obtain ⟨p_71, c_70, p_72, c_71, p_73, c_72, p_74, c_73, rfl, hs_70, hs_71, hs_72, hs_73⟩ := hR_17
                refine nT ⟨(hS.weak (ms := [(1, .cells b [iv xv.Ring, .slice p xv.Starts.length c, .slice p_1 xv.Events.length c_1] 25), (2, .cells b_1 [iv p_2.Pre, iv p_2.Home, iv p_2.First, iv p_2.Send] 49)]) ⟨rfl, rfl, trivial⟩).weakD hlev_17 hle0, ?_⟩
                refine stepV (i := 28) rfl hF (fun w hS => Y.move hF rfl) rfl fun a hF => stepV (i := 29) rfl hF (fun w hS => Y.extract hF rfl rfl) rfl fun a hF => stepV (i := 30) rfl hF (fun w hS => Y.extract hF rfl rfl) rfl fun a hF => oneV (i := 32) rfl ?_ trivial
                refine O.store (us := [iv rv_5.1.line.SlaveLine.Ring, .slice p_71 rv_5.1.line.SlaveLine.Starts.length c_70, .slice p_72 rv_5.1.line.SlaveLine.Events.length c_71, .slice p_73 rv_5.1.line.without.length c_72, .slice p_74 rv_5.1.states.length c_73, iv rv_5.1.minute]) 3 sz_116 hF rfl rfl rfl rfl hS rfl rfl fun a w hF hS => nT ⟨(hS.weak (ms := [(1, .cells b [iv xv.Ring, .slice p xv.Starts.length c, .slice p_1 xv.Events.length c_1] 25), (2, .cells b_1 [iv p_2.Pre, iv p_2.Home, iv p_2.First, iv p_2.Send] 49)]) ⟨rfl, rfl, trivial⟩).weakD hlev_17 hle0, ?_⟩
                refine stepV (i := 33) rfl hF (fun w hS => Y.assign hF rfl) rfl fun a hF => toTailV ⟨_, Dv_18, b_19, p_71, c_70, p_72, c_71, p_73, c_72, p_74, c_73, hlev_17, hF.weak (AF rfl), hS.weak (AL rfl), hs_70, hs_71, hs_72, hs_73, hq⟩
              refine oneV (i := 31) rfl ?_ trivial
              refine O.alloc 3 zc_116 hF hS rfl fun b_20 a w hF hS => nT ⟨hS.weak ⟨rfl, rfl, trivial⟩, ?_⟩
              refine oneV (i := 20) rfl ?_ trivial
              refine guard_off hF rfl rfl hbv_2 rfl fun a hF => nT ⟨hS.weak ⟨rfl, rfl, trivial⟩, ?_⟩
              refine stepV (i := 21) rfl hF (fun w hS => Y.pick_f hF rfl hbv_2 rfl) rfl fun a hF => stepV (i := 22) rfl hF (fun w hS => Y.move hF rfl) rfl fun a hF => stepV_off (i := 23) rfl hF rfl rfl rfl rfl fun a hF => stepV_off (i := 24) rfl hF rfl rfl rfl rfl fun a hF => oneV (i := 25) rfl ?_ trivial
              refine guard_off hF rfl rfl rfl rfl fun a hF => nT ⟨hS.weak ⟨rfl, rfl, trivial⟩, ?_⟩
              refine stepV (i := 26) rfl hF (fun w hS => Y.pick_f hF rfl rfl rfl) rfl fun a hF => oneV (i := 27) rfl ?_ trivial
              refine O.callSN (us := [.agg #[iv xv.Ring, .slice p xv.Starts.length c, .slice p_1 xv.Events.length c_1], iv minute, .bool false]) ca_74 hF hS (slave_opened_ok hS.stab xv minute false hs hs_1 hG KQ hx_5) rfl rfl fun rv_5 hq v_18 Dv_19 a w hR_18 hlev_18 hF hS => ?_
              obtain ⟨p_75, c_74, p_76, c_75, p_77, c_76, p_78, c_77, rfl, hs_74, hs_75, hs_76, hs_77⟩ := hR_18
              refine nT ⟨(hS.weak (ms := [(1, .cells b [iv xv.Ring, .slice p xv.Starts.length c, .slice p_1 xv.Events.length c_1] 25), (2, .cells b_1 [iv p_2.Pre, iv p_2.Home, iv p_2.First, iv p_2.Send] 49)]) ⟨rfl, rfl, trivial⟩).weakD hlev_18 hle0, ?_⟩
              refine stepV (i := 28) rfl hF (fun w hS => Y.move hF rfl) rfl fun a hF => stepV (i := 29) rfl hF (fun w hS => Y.extract hF rfl rfl) rfl fun a hF => stepV (i := 30) rfl hF (fun w hS => Y.extract hF rfl rfl) rfl fun a hF => oneV (i := 32) rfl ?_ trivial
              refine O.store (us := [iv rv_5.1.line.SlaveLine.Ring, .slice p_75 rv_5.1.line.SlaveLine.Starts.length c_74, .slice p_76 rv_5.1.line.SlaveLine.Events.length c_75, .slice p_77 rv_5.1.line.without.length c_76, .slice p_78 rv_5.1.states.length c_77, iv rv_5.1.minute]) 3 sz_116 hF rfl rfl rfl rfl hS rfl rfl fun a w hF hS => nT ⟨(hS.weak (ms := [(1, .cells b [iv xv.Ring, .slice p xv.Starts.length c, .slice p_1 xv.Events.length c_1] 25), (2, .cells b_1 [iv p_2.Pre, iv p_2.Home, iv p_2.First, iv p_2.Send] 49)]) ⟨rfl, rfl, trivial⟩).weakD hlev_18 hle0, ?_⟩
              refine stepV (i := 33) rfl hF (fun w hS => Y.assign hF rfl) rfl fun a hF => toTailV ⟨_, Dv_19, b_20, p_75, c_74, p_76, c_75, p_77, c_76, p_78, c_77, hlev_18, hF.weak (AF rfl), hS.weak (AL rfl), hs_74, hs_75, hs_76, hs_77, hq⟩
            refine oneV (i := 31) rfl ?_ trivial
            refine O.alloc 3 zc_116 hF hS rfl fun b_21 a w hF hS => nT ⟨hS.weak ⟨rfl, rfl, trivial⟩, ?_⟩
            refine oneV (i := 15) rfl ?_ trivial
            refine guard_on hF rfl rfl hbv_1 (O.callP (us := [iv p_2.Home, iv 0, iv 60]) ca_60 hF hS (slave_within_ok hS.stab p_2.Home 0 60 rv_2 hx_2) rfl rfl fun a w hF hS => nT ⟨hS.weak ⟨rfl, rfl, trivial⟩, ?_⟩)
            refine stepV (i := 16) rfl hF (fun w hS => Y.pick_t hF rfl hbv_1 rfl) rfl fun a hF => stepV (i := 17) rfl hF (fun w hS => Y.move hF rfl) rfl fun a hF => stepV_off (i := 18) rfl hF rfl rfl hbv_2 rfl fun a hF => stepV_off (i := 19) rfl hF rfl rfl hbv_2 rfl fun a hF => oneV (i := 20) rfl ?_ trivial
            refine guard_off hF rfl rfl hbv_2 rfl fun a hF => nT ⟨hS.weak ⟨rfl, rfl, trivial⟩, ?_⟩
            refine stepV (i := 21) rfl hF (fun w hS => Y.pick_f hF rfl hbv_2 rfl) rfl fun a hF => stepV (i := 22) rfl hF (fun w hS => Y.move hF rfl) rfl fun a hF => stepV_off (i := 23) rfl hF rfl rfl rfl rfl fun a hF => stepV_off (i := 24) rfl hF rfl rfl rfl rfl fun a hF => oneV (i := 25) rfl ?_ trivial
            refine guard_off hF rfl rfl rfl rfl fun a hF => nT ⟨hS.weak ⟨rfl, rfl, trivial⟩, ?_⟩
            refine stepV (i := 26) rfl hF (fun w hS => Y.pick_f hF rfl rfl rfl) rfl fun a hF => oneV (i := 27) rfl ?_ trivial
            refine O.callSN (us := [.agg #[iv xv.Ring, .slice p xv.Starts.length c, .slice p_1 xv.Events.length c_1], iv minute, .bool false]) ca_74 hF hS (slave_opened_ok hS.stab xv minute false hs hs_1 hG KQ hx_5) rfl rfl fun rv_5 hq v_19 Dv_20 a w hR_19 hlev_19 hF hS => ?_
            obtain ⟨p_79, c_78, p_80, c_79, p_81, c_80, p_82, c_81, rfl, hs_78, hs_79, hs_80, hs_81⟩ := hR_19
            refine nT ⟨(hS.weak (ms := [(1, .cells b [iv xv.Ring, .slice p xv.Starts.length c, .slice p_1 xv.Events.length c_1] 25), (2, .cells b_1 [iv p_2.Pre, iv p_2.Home, iv p_2.First, iv p_2.Send] 49)]) ⟨rfl, rfl, trivial⟩).weakD hlev_19 hle0, ?_⟩
            refine stepV (i := 28) rfl hF (fun w hS => Y.move hF rfl) rfl fun a hF => stepV (i := 29) rfl hF (fun w hS => Y.extract hF rfl rfl) rfl fun a hF => stepV (i := 30) rfl hF (fun w hS => Y.extract hF rfl rfl) rfl fun a hF => oneV (i := 32) rfl ?_ trivial
            refine O.store (us := [iv rv_5.1.line.SlaveLine.Ring, .slice p_79 rv_5.1.line.SlaveLine.Starts.length c_78, .slice p_80 rv_5.1.line.SlaveLine.Events.length c_79, .slice p_81 rv_5.1.line.without.length c_80, .slice p_82 rv_5.1.states.length c_81, iv rv_5.1.minute]) 3 sz_116 hF rfl rfl rfl rfl hS rfl rfl fun a w hF hS => nT ⟨(hS.weak (ms := [(1, .cells b [iv xv.Ring, .slice p xv.Starts.length c, .slice p_1 xv.Events.length c_1] 25), (2, .cells b_1 [iv p_2.Pre, iv p_2.Home, iv p_2.First, iv p_2.Send] 49)]) ⟨rfl, rfl, trivial⟩).weakD hlev_19 hle0, ?_⟩
            refine stepV (i := 33) rfl hF (fun w hS => Y.assign hF rfl) rfl fun a hF => toTailV ⟨_, Dv_20, b_21, p_79, c_78, p_80, c_79, p_81, c_80, p_82, c_81, hlev_19, hF.weak (AF rfl), hS.weak (AL rfl), hs_78, hs_79, hs_80, hs_81, hq⟩
          refine oneV (i := 31) rfl ?_ trivial
          refine O.alloc 3 zc_116 hF hS rfl fun b_22 a w hF hS => nT ⟨hS.weak ⟨rfl, rfl, trivial⟩, ?_⟩
          refine oneV (i := 10) rfl ?_ trivial
          refine guard_on hF rfl rfl hbv (O.callP (us := [iv p_2.Pre, iv (-1), iv 1]) ca_60 hF hS (slave_within_ok hS.stab p_2.Pre (-1) 1 rv_1 hx_1) rfl rfl fun a w hF hS => nT ⟨hS.weak ⟨rfl, rfl, trivial⟩, ?_⟩)
          refine stepV (i := 11) rfl hF (fun w hS => Y.pick_t hF rfl hbv rfl) rfl fun a hF => stepV (i := 12) rfl hF (fun w hS => Y.move hF rfl) rfl fun a hF => stepV_on (i := 13) rfl hF rfl rfl hbv_1 (fun w hS => Y.fieldAddr fo_49_1 hF rfl) rfl fun a hF => stepV_on (i := 14) rfl hF rfl rfl hbv_1 (fun w hS => Y.load1L 2 sz_3 hF rfl hS rfl rfl) rfl fun a hF => oneV (i := 15) rfl ?_ trivial
          refine guard_on hF rfl rfl hbv_1 (O.callP (us := [iv p_2.Home, iv 0, iv 60]) ca_60 hF hS (slave_within_ok hS.stab p_2.Home 0 60 rv_2 hx_2) rfl rfl fun a w hF hS => nT ⟨hS.weak ⟨rfl, rfl, trivial⟩, ?_⟩)
          refine stepV (i := 16) rfl hF (fun w hS => Y.pick_t hF rfl hbv_1 rfl) rfl fun a hF => stepV (i := 17) rfl hF (fun w hS => Y.move hF rfl) rfl fun a hF => stepV_off (i := 18) rfl hF rfl rfl hbv_2 rfl fun a hF => stepV_off (i := 19) rfl hF rfl rfl hbv_2 rfl fun a hF => oneV (i := 20) rfl ?_ trivial
          refine guard_off hF rfl rfl hbv_2 rfl fun a hF => nT ⟨hS.weak ⟨rfl, rfl, trivial⟩, ?_⟩
          refine stepV (i := 21) rfl hF (fun w hS => Y.pick_f hF rfl hbv_2 rfl) rfl fun a hF => stepV (i := 22) rfl hF (fun w hS => Y.move hF rfl) rfl fun a hF => stepV_off (i := 23) rfl hF rfl rfl rfl rfl fun a hF => stepV_off (i := 24) rfl hF rfl rfl rfl rfl fun a hF => oneV (i := 25) rfl ?_ trivial
          refine guard_off hF rfl rfl rfl rfl fun a hF => nT ⟨hS.weak ⟨rfl, rfl, trivial⟩, ?_⟩
          refine stepV (i := 26) rfl hF (fun w hS => Y.pick_f hF rfl rfl rfl) rfl fun a hF => oneV (i := 27) rfl ?_ trivial
          refine O.callSN (us := [.agg #[iv xv.Ring, .slice p xv.Starts.length c, .slice p_1 xv.Events.length c_1], iv minute, .bool false]) ca_74 hF hS (slave_opened_ok hS.stab xv minute false hs hs_1 hG KQ hx_5) rfl rfl fun rv_5 hq v_20 Dv_21 a w hR_20 hlev_20 hF hS => ?_
          obtain ⟨p_83, c_82, p_84, c_83, p_85, c_84, p_86, c_85, rfl, hs_82, hs_83, hs_84, hs_85⟩ := hR_20
          refine nT ⟨(hS.weak (ms := [(1, .cells b [iv xv.Ring, .slice p xv.Starts.length c, .slice p_1 xv.Events.length c_1] 25), (2, .cells b_1 [iv p_2.Pre, iv p_2.Home, iv p_2.First, iv p_2.Send] 49)]) ⟨rfl, rfl, trivial⟩).weakD hlev_20 hle0, ?_⟩
          refine stepV (i := 28) rfl hF (fun w hS => Y.move hF rfl) rfl fun a hF => stepV (i := 29) rfl hF (fun w hS => Y.extract hF rfl rfl) rfl fun a hF => stepV (i := 30) rfl hF (fun w hS => Y.extract hF rfl rfl) rfl fun a hF => oneV (i := 32) rfl ?_ trivial
          refine O.store (us := [iv rv_5.1.line.SlaveLine.Ring, .slice p_83 rv_5.1.line.SlaveLine.Starts.length c_82, .slice p_84 rv_5.1.line.SlaveLine.Events.length c_83, .slice p_85 rv_5.1.line.without.length c_84, .slice p_86 rv_5.1.states.length c_85, iv rv_5.1.minute]) 3 sz_116 hF rfl rfl rfl rfl hS rfl rfl fun a w hF hS => nT ⟨(hS.weak (ms := [(1, .cells b [iv xv.Ring, .slice p xv.Starts.length c, .slice p_1 xv.Events.length c_1] 25), (2, .cells b_1 [iv p_2.Pre, iv p_2.Home, iv p_2.First, iv p_2.Send] 49)]) ⟨rfl, rfl, trivial⟩).weakD hlev_20 hle0, ?_⟩
          refine stepV (i := 33) rfl hF (fun w hS => Y.assign hF rfl) rfl fun a hF => toTailV ⟨_, Dv_21, b_22, p_83, c_82, p_84, c_83, p_85, c_84, p_86, c_85, hlev_20, hF.weak (AF rfl), hS.weak (AL rfl), hs_82, hs_83, hs_84, hs_85, hq⟩
        refine oneV (i := 31) rfl ?_ trivial
        refine O.alloc 3 zc_116 hF hS rfl fun b_23 a w hF hS => nT ⟨hS.weak ⟨rfl, rfl, trivial⟩, ?_⟩
        refine oneV (i := 6) rfl ?_ trivial
        refine O.callP (us := [iv minute, iv 0, iv (wr (xv.Ring - 1))]) ca_60 hF hS (slave_within_ok hS.stab minute 0 (wr (xv.Ring - 1)) rv hx) rfl rfl fun a w hF hS => nT ⟨hS.weak ⟨rfl, rfl, trivial⟩, ?_⟩
        refine stepV (i := 7) rfl hF (fun w hS => Y.move hF rfl) rfl fun a hF => stepV_on (i := 8) rfl hF rfl rfl hbv (fun w hS => Y.fieldAddr fo_49_0 hF rfl) rfl fun a hF => stepV_on (i := 9) rfl hF rfl rfl hbv (fun w hS => Y.load1L 2 sz_3 hF rfl hS rfl rfl) rfl fun a hF => oneV (i := 10) rfl ?_ trivial
        refine guard_on hF rfl rfl hbv (O.callP (us := [iv p_2.Pre, iv (-1), iv 1]) ca_60 hF hS (slave_within_ok hS.stab p_2.Pre (-1) 1 rv_1 hx_1) rfl rfl fun a w hF hS => nT ⟨hS.weak ⟨rfl, rfl, trivial⟩, ?_⟩)
        refine stepV (i := 11) rfl hF (fun w hS => Y.pick_t hF rfl hbv rfl) rfl fun a hF => stepV (i := 12) rfl hF (fun w hS => Y.move hF rfl) rfl fun a hF => stepV_on (i := 13) rfl hF rfl rfl hbv_1 (fun w hS => Y.fieldAddr fo_49_1 hF rfl) rfl fun a hF => stepV_on (i := 14) rfl hF rfl rfl hbv_1 (fun w hS => Y.load1L 2 sz_3 hF rfl hS rfl rfl) rfl fun a hF => oneV (i := 15) rfl ?_ trivial
        refine guard_on hF rfl rfl hbv_1 (O.callP (us := [iv p_2.Home, iv 0, iv 60]) ca_60 hF hS (slave_within_ok hS.stab p_2.Home 0 60 rv_2 hx_2) rfl rfl fun a w hF hS => nT ⟨hS.weak ⟨rfl, rfl, trivial⟩, ?_⟩)
        refine stepV (i := 16) rfl hF (fun w hS => Y.pick_t hF rfl hbv_1 rfl) rfl fun a hF => stepV (i := 17) rfl hF (fun w hS => Y.move hF rfl) rfl fun a hF => stepV_off (i := 18) rfl hF rfl rfl hbv_2 rfl fun a hF => stepV_off (i := 19) rfl hF rfl rfl hbv_2 rfl fun a hF => oneV (i := 20) rfl ?_ trivial
        refine guard_off hF rfl rfl hbv_2 rfl fun a hF => nT ⟨hS.weak ⟨rfl, rfl, trivial⟩, ?_⟩
        refine stepV (i := 21) rfl hF (fun w hS => Y.pick_f hF rfl hbv_2 rfl) rfl fun a hF => stepV (i := 22) rfl hF (fun w hS => Y.move hF rfl) rfl fun a hF => stepV_off (i := 23) rfl hF rfl rfl rfl rfl fun a hF => stepV_off (i := 24) rfl hF rfl rfl rfl rfl fun a hF => oneV (i := 25) rfl ?_ trivial
        refine guard_off hF rfl rfl rfl rfl fun a hF => nT ⟨hS.weak ⟨rfl, rfl, trivial⟩, ?_⟩
        refine stepV (i := 26) rfl hF (fun w hS => Y.pick_f hF rfl rfl rfl) rfl fun a hF => oneV (i := 27) rfl ?_ trivial
        refine O.callSN (us := [.agg #[iv xv.Ring, .slice p xv.Starts.length c, .slice p_1 xv.Events.length c_1], iv minute, .bool false]) ca_74 hF hS (slave_opened_ok hS.stab xv minute false hs hs_1 hG KQ hx_5) rfl rfl fun rv_5 hq v_21 Dv_22 a w hR_21 hlev_21 hF hS => ?_
        obtain ⟨p_87, c_86, p_88, c_87, p_89, c_88, p_90, c_89, rfl, hs_86, hs_87, hs_88, hs_89⟩ := hR_21
        refine nT ⟨(hS.weak (ms := [(1, .cells b [iv xv.Ring, .slice p xv.Starts.length c, .slice p_1 xv.Events.length c_1] 25), (2, .cells b_1 [iv p_2.Pre, iv p_2.Home, iv p_2.First, iv p_2.Send] 49)]) ⟨rfl, rfl, trivial⟩).weakD hlev_21 hle0, ?_⟩
        refine stepV (i := 28) rfl hF (fun w hS => Y.move hF rfl) rfl fun a hF => stepV (i := 29) rfl hF (fun w hS => Y.extract hF rfl rfl) rfl fun a hF => stepV (i := 30) rfl hF (fun w hS => Y.extract hF rfl rfl) rfl fun a hF => oneV (i := 32) rfl ?_ trivial
        refine O.store (us := [iv rv_5.1.line.SlaveLine.Ring, .slice p_87 rv_5.1.line.SlaveLine.Starts.length c_86, .slice p_88 rv_5.1.line.SlaveLine.Events.length c_87, .slice p_89 rv_5.1.line.without.length c_88, .slice p_90 rv_5.1.states.length c_89, iv rv_5.1.minute]) 3 sz_116 hF rfl rfl rfl rfl hS rfl rfl fun a w hF hS => nT ⟨(hS.weak (ms := [(1, .cells b [iv xv.Ring, .slice p xv.Starts.length c, .slice p_1 xv.Events.length c_1] 25), (2, .cells b_1 [iv p_2.Pre, iv p_2.Home, iv p_2.First, iv p_2.Send] 49)]) ⟨rfl, rfl, trivial⟩).weakD hlev_21 hle0, ?_⟩
        refine stepV (i := 33) rfl hF (fun w hS => Y.assign hF rfl) rfl fun a hF => toTailV ⟨_, Dv_22, b_23, p_87, c_86, p_88, c_87, p_89, c_88, p_90, c_89, hlev_21, hF.weak (AF rfl), hS.weak (AL rfl), hs_86, hs_87, hs_88, hs_89, hq⟩
     as_aux_lemma =>
      skip
      replace ht_1 := cond_f ht_1 hbv_1
      obtain rfl := some_inj ht_1
      replace ht_2 := cond_f ht_2 rfl
      obtain rfl := some_inj ht_2
      replace ht_3 := cond_f ht_3 rfl
      obtain rfl := some_inj ht_3
      refine stepV (i := 0) rfl hF (fun w hS => Y.loadNL 1 sz_25 hF rfl hS rfl rfl rfl) rfl fun a hF => stepV (i := 1) rfl hF (fun w hS => Y.move hF rfl) rfl fun a hF => stepV (i := 2) rfl hF (fun w hS => Y.move hF rfl) rfl fun a hF => stepV (i := 3) rfl hF (fun w hS => Y.fieldAddr fo_25_0 hF rfl) rfl fun a hF => stepV (i := 4) rfl hF (fun w hS => Y.load1L 1 sz_3 hF rfl hS rfl rfl) rfl fun a hF => stepV (i := 5) rfl hF (fun w hS => Y.sub hF rfl rfl) rfl fun a hF => oneV (i := 6) rfl ?_ ?_
      ·as_aux_lemma =>
        skip
        refine O.callP (us := [iv minute, iv 0, iv (wr (xv.Ring - 1))]) ca_60 hF hS (slave_within_ok hS.stab minute 0 (wr (xv.Ring - 1)) rv hx) rfl rfl fun a w hF hS => nT ⟨hS.weak ⟨rfl, rfl, trivial⟩, ?_⟩
        refine stepV (i := 7) rfl hF (fun w hS => Y.move hF rfl) rfl fun a hF => stepV_on (i := 8) rfl hF rfl rfl hbv (fun w hS => Y.fieldAddr fo_49_0 hF rfl) rfl fun a hF => stepV_on (i := 9) rfl hF rfl rfl hbv (fun w hS => Y.load1L 2 sz_3 hF rfl hS rfl rfl) rfl fun a hF => oneV (i := 10) rfl ?_ ?_
        ·as_aux_lemma =>
          skip
          refine guard_on hF rfl rfl hbv (O.callP (us := [iv p_2.Pre, iv (-1), iv 1]) ca_60 hF hS (slave_within_ok hS.stab p_2.Pre (-1) 1 rv_1 hx_1) rfl rfl fun a w hF hS => nT ⟨hS.weak ⟨rfl, rfl, trivial⟩, ?_⟩)
          refine stepV (i := 11) rfl hF (fun w hS => Y.pick_t hF rfl hbv rfl) rfl fun a hF => stepV (i := 12) rfl hF (fun w hS => Y.move hF rfl) rfl fun a hF => stepV_off (i := 13) rfl hF rfl rfl hbv_1 rfl fun a hF => stepV_off (i := 14) rfl hF rfl rfl hbv_1 rfl fun a hF => oneV (i := 15) rfl ?_ ?_
          ·as_aux_lemma =>
            skip
            refine guard_off hF rfl rfl hbv_1 rfl fun a hF => nT ⟨hS.weak ⟨rfl, rfl, trivial⟩, ?_⟩
            refine stepV (i := 16) rfl hF (fun w hS => Y.pick_f hF rfl hbv_1 rfl) rfl fun a hF => stepV (i := 17) rfl hF (fun w hS => Y.move hF rfl) rfl fun a hF => stepV_off (i := 18) rfl hF rfl rfl rfl rfl fun a hF => stepV_off (i := 19) rfl hF rfl rfl rfl rfl fun a hF => oneV (i := 20) rfl ?_ ?_
            ·as_aux_lemma =>
              skip
              refine guard_off hF rfl rfl rfl rfl fun a hF => nT ⟨hS.weak ⟨rfl, rfl, trivial⟩, ?_⟩
              refine stepV (i := 21) rfl hF (fun w hS => Y.pick_f hF rfl rfl rfl) rfl fun a hF => stepV (i := 22) rfl hF (fun w hS => Y.move hF rfl) rfl fun a hF => stepV_off (i := 23) rfl hF rfl rfl rfl rfl fun a hF => stepV_off (i := 24) rfl hF rfl rfl rfl rfl fun a hF => oneV (i := 25) rfl ?_ ?_
              ·skip
               refine guard_off hF rfl rfl rfl rfl fun a hF => nT ⟨hS.weak ⟨rfl, rfl, trivial⟩, ?_⟩
               refine stepV (i := 26) rfl hF (fun w hS => Y.pick_f hF rfl rfl rfl) rfl fun a hF => oneV (i := 27) rfl ?_ ?_
               ·skip
                refine O.callSN (us := [.agg #[iv xv.Ring, .slice p xv.Starts.length c, .slice p_1 xv.Events.length c_1], iv minute, .bool false]) ca_74 hF hS (slave_opened_ok hS.stab xv minute false hs hs_1 hG KQ hx_5) rfl rfl fun rv_5 hq v_22 Dv_23 a w hR_22 hlev_22 hF hS => ?_
                obtain ⟨p_91, c_90, p_92, c_91, p_93, c_92, p_94, c_93, rfl, hs_90, hs_91, hs_92, hs_93⟩ := hR_22
                refine nT ⟨(hS.weak (ms := [(1, .cells b [iv xv.Ring, .slice p xv.Starts.length c, .slice p_1 xv.Events.length c_1] 25), (2, .cells b_1 [iv p_2.Pre, iv p_2.Home, iv p_2.First, iv p_2.Send] 49)]) ⟨rfl, rfl, trivial⟩).weakD hlev_22 hle0, ?_⟩
                refine stepV (i := 28) rfl hF (fun w hS => Y.move hF rfl) rfl fun a hF => stepV (i := 29) rfl hF (fun w hS => Y.extract hF rfl rfl) rfl fun a hF => stepV (i := 30) rfl hF (fun w hS => Y.extract hF rfl rfl) rfl fun a hF => oneV (i := 31) rfl ?_ trivial
                refine O.alloc 3 zc_116 hF hS rfl fun b_24 a w hF hS => nT ⟨(hS.weak (ms := [(1, .cells b [iv xv.Ring, .slice p xv.Starts.length c, .slice p_1 xv.Events.length c_1] 25), (2, .cells b_1 [iv p_2.Pre, iv p_2.Home, iv p_2.First, iv p_2.Send] 49)]) ⟨rfl, rfl, trivial⟩).weakD hlev_22 hle0, ?_⟩
                refine oneV (i := 32) rfl ?_ trivial
                refine O.store (us := [iv rv_5.1.line.SlaveLine.Ring, .slice p_91 rv_5.1.line.SlaveLine.Starts.length c_90, .slice p_92 rv_5.1.line.SlaveLine.Events.length c_91, .slice p_93 rv_5.1.line.without.length c_92, .slice p_94 rv_5.1.states.length c_93, iv rv_5.1.minute]) 3 sz_116 hF rfl rfl rfl rfl hS rfl rfl fun a w hF hS => nT ⟨(hS.weak (ms := [(1, .cells b [iv xv.Ring, .slice p xv.Starts.length c, .slice p_1 xv.Events.length c_1] 25), (2, .cells b_1 [iv p_2.Pre, iv p_2.Home, iv p_2.First, iv p_2.Send] 49)]) ⟨rfl, rfl, trivial⟩).weakD hlev_22 hle0, ?_⟩
                refine stepV (i := 33) rfl hF (fun w hS => Y.assign hF rfl) rfl fun a hF => toTailV ⟨_, Dv_23, b_24, p_91, c_90, p_92, c_91, p_93, c_92, p_94, c_93, hlev_22, hF.weak (AF rfl), hS.weak (AL rfl), hs_90, hs_91, hs_92, hs_93, hq⟩
               refine oneV (i := 31) rfl ?_ trivial
               refine O.alloc 3 zc_116 hF hS rfl fun b_25 a w hF hS => nT ⟨hS.weak ⟨rfl, rfl, trivial⟩, ?_⟩
               refine oneV (i := 27) rfl ?_ trivial
               refine O.callSN (us := [.agg #[iv xv.Ring, .slice p xv.Starts.length c, .slice p_1 xv.Events.length c_1], iv minute, .bool false]) ca_74 hF hS (slave_opened_ok hS.stab xv minute false hs hs_1 hG KQ hx_5) rfl rfl fun rv_5 hq v_23 Dv_24 a w hR_23 hlev_23 hF hS => ?_
               obtain ⟨p_95, c_94, p_96, c_95, p_97, c_96, p_98, c_97, rfl, hs_94, hs_95, hs_96, hs_97⟩ := hR_23
               refine nT ⟨(hS.weak (ms := [(1, .cells b [iv xv.Ring, .slice p xv.Starts.length c, .slice p_1 xv.Events.length c_1] 25), (2, .cells b_1 [iv p_2.Pre, iv p_2.Home, iv p_2.First, iv p_2.Send] 49)]) ⟨rfl, rfl, trivial⟩).weakD hlev_23 hle0, ?_⟩
               refine stepV (i := 28) rfl hF (fun w hS => Y.move hF rfl) rfl fun a hF => stepV (i := 29) rfl hF (fun w hS => Y.extract hF rfl rfl) rfl fun a hF => stepV (i := 30) rfl hF (fun w hS => Y.extract hF rfl rfl) rfl fun a hF => oneV (i := 32) rfl ?_ trivial
               refine O.store (us := [iv rv_5.1.line.SlaveLine.Ring, .slice p_95 rv_5.1.line.SlaveLine.Starts.length c_94, .slice p_96 rv_5.1.line.SlaveLine.Events.length c_95, .slice p_97 rv_5.1.line.without.length c_96, .slice p_98 rv_5.1.states.length c_97, iv rv_5.1.minute]) 3 sz_116 hF rfl rfl rfl rfl hS rfl rfl fun a w hF hS => nT ⟨(hS.weak (ms := [(1, .cells b [iv xv.Ring, .slice p xv.Starts.length c, .slice p_1 xv.Events.length c_1] 25), (2, .cells b_1 [iv p_2.Pre, iv p_2.Home, iv p_2.First, iv p_2.Send] 49)]) ⟨rfl, rfl, trivial⟩).weakD hlev_23 hle0, ?_⟩
               refine stepV (i := 33) rfl hF (fun w hS => Y.assign hF rfl) rfl fun a hF => toTailV ⟨_, Dv_24, b_25, p_95, c_94, p_96, c_95, p_97, c_96, p_98, c_97, hlev_23, hF.weak (AF rfl), hS.weak (AL rfl), hs_94, hs_95, hs_96, hs_97, hq⟩
              refine oneV (i := 31) rfl ?_ trivial
              refine O.alloc 3 zc_116 hF hS rfl fun b_26 a w hF hS => nT ⟨hS.weak ⟨rfl, rfl, trivial⟩, ?_⟩
              refine oneV (i := 25) rfl ?_ trivial
              refine guard_off hF rfl rfl rfl rfl fun a hF => nT ⟨hS.weak ⟨rfl, rfl, trivial⟩, ?_⟩
              refine stepV (i := 26) rfl hF (fun w hS => Y.pick_f hF rfl rfl rfl) rfl fun a hF => oneV (i := 27) rfl ?_ trivial
              refine O.callSN (us := [.agg #[iv xv.Ring, .slice p xv.Starts.length c, .slice p_1 xv.Events.length c_1], iv minute, .bool false]) ca_74 hF hS (slave_opened_ok hS.stab xv minute false hs hs_1 hG KQ hx_5) rfl rfl fun rv_5 hq v_24 Dv_25 a w hR_24 hlev_24 hF hS => ?_
              obtain ⟨p_99, c_98, p_100, c_99, p_101, c_100, p_102, c_101, rfl, hs_98, hs_99, hs_100, hs_101⟩ := hR_24
              refine nT ⟨(hS.weak (ms := [(1, .cells b [iv xv.Ring, .slice p xv.Starts.length c, .slice p_1 xv.Events.length c_1] 25), (2, .cells b_1 [iv p_2.Pre, iv p_2.Home, iv p_2.First, iv p_2.Send] 49)]) ⟨rfl, rfl, trivial⟩).weakD hlev_24 hle0, ?_⟩
              refine stepV (i := 28) rfl hF (fun w hS => Y.move hF rfl) rfl fun a hF => stepV (i := 29) rfl hF (fun w hS => Y.extract hF rfl rfl) rfl fun a hF => stepV (i := 30) rfl hF (fun w hS => Y.extract hF rfl rfl) rfl fun a hF => oneV (i := 32) rfl ?_ trivial
              refine O.store (us := [iv rv_5.1.line.SlaveLine.Ring, .slice p_99 rv_5.1.line.SlaveLine.Starts.length c_98, .slice p_100 rv_5.1.line.SlaveLine.Events.length c_99, .slice p_101 rv_5.1.line.without.length c_100, .slice p_102 rv_5.1.states.length c_101, iv rv_5.1.minute]) 3 sz_116 hF rfl rfl rfl rfl hS rfl rfl fun a w hF hS => nT ⟨(hS.weak (ms := [(1, .cells b [iv xv.Ring, .slice p xv.Starts.length c, .slice p_1 xv.Events.length c_1] 25), (2, .cells b_1 [iv p_2.Pre, iv p_2.Home, iv p_2.First, iv p_2.Send] 49)]) ⟨rfl, rfl, trivial⟩).weakD hlev_24 hle0, ?_⟩
              refine stepV (i := 33) rfl hF (fun w hS => Y.assign hF rfl) rfl fun a hF => toTailV ⟨_, Dv_25, b_26, p_99, c_98, p_100, c_99, p_101, c_100, p_102, c_101, hlev_24, hF.weak (AF rfl), hS.weak (AL rfl), hs_98, hs_99, hs_100, hs_101, hq⟩
            refine oneV (i := 31) rfl ?_ trivial
            refine O.alloc 3 zc_116 hF hS rfl fun b_27 a w hF hS => nT ⟨hS.weak ⟨rfl, rfl, trivial⟩, ?_⟩
            refine oneV (i := 20) rfl ?_ trivial
            refine guard_off hF rfl rfl rfl rfl fun a hF => nT ⟨hS.weak ⟨rfl, rfl, trivial⟩, ?_⟩
            refine stepV (i := 21) rfl hF (fun w hS => Y.pick_f hF rfl rfl rfl) rfl fun a hF => stepV (i := 22) rfl hF (fun w hS => Y.move hF rfl) rfl fun a hF => stepV_off (i := 23) rfl hF rfl rfl rfl rfl fun a hF => stepV_off (i := 24) rfl hF rfl rfl rfl rfl fun a hF => oneV (i := 25) rfl ?_ trivial
            refine guard_off hF rfl rfl rfl rfl fun a hF => nT ⟨hS.weak ⟨rfl, rfl, trivial⟩, ?_⟩
            refine stepV (i := 26) rfl hF (fun w hS => Y.pick_f hF rfl rfl rfl) rfl fun a hF => oneV (i := 27) rfl ?_ trivial
            refine O.callSN (us := [.agg #[iv xv.Ring, .slice p xv.Starts.length c, .slice p_1 xv.Events.length c_1], iv minute, .bool false]) ca_74 hF hS (slave_opened_ok hS.stab xv minute false hs hs_1 hG KQ hx_5) rfl rfl fun rv_5 hq v_25 Dv_26 a w hR_25 hlev_25 hF hS => ?_
            obtain ⟨p_103, c_102, p_104, c_103, p_105, c_104, p_106, c_105, rfl, hs_102, hs_103, hs_104, hs_105⟩ := hR_25
            refine nT ⟨(hS.weak (ms := [(1, .cells b [iv xv.Ring, .slice p xv.Starts.length c, .slice p_1 xv.Events.length c_1] 25), (2, .cells b_1 [iv p_2.Pre, iv p_2.Home, iv p_2.First, iv p_2.Send] 49)]) ⟨rfl, rfl, trivial⟩).weakD hlev_25 hle0, ?_⟩
            refine stepV (i := 28) rfl hF (fun w hS => Y.move hF rfl) rfl fun a hF => stepV (i := 29) rfl hF (fun w hS => Y.extract hF rfl rfl) rfl fun a hF => stepV (i := 30) rfl hF (fun w hS => Y.extract hF rfl rfl) rfl fun a hF => oneV (i := 32) rfl ?_ trivial
            refine O.store (us := [iv rv_5.1.line.SlaveLine.Ring, .slice p_103 rv_5.1.line.SlaveLine.Starts.length c_102, .slice p_104 rv_5.1.line.SlaveLine.Events.length c_103, .slice p_105 rv_5.1.line.without.length c_104, .slice p_106 rv_5.1.states.length c_105, iv rv_5.1.minute]) 3 sz_116 hF rfl rfl rfl rfl hS rfl rfl fun a w hF hS => nT ⟨(hS.weak (ms := [(1, .cells b [iv xv.Ring, .slice p xv.Starts.length c, .slice p_1 xv.Events.length c_1] 25), (2, .cells b_1 [iv p_2.Pre, iv p_2.Home, iv p_2.First, iv p_2.Send] 49)]) ⟨rfl, rfl, trivial⟩).weakD hlev_25 hle0, ?_⟩
            refine stepV (i := 33) rfl hF (fun w hS => Y.assign hF rfl) rfl fun a hF => toTailV ⟨_, Dv_26, b_27, p_103, c_102, p_104, c_103, p_105, c_104, p_106, c_105, hlev_25, hF.weak (AF rfl), hS.weak (AL rfl), hs_102, hs_103, hs_104, hs_105, hq⟩
          refine oneV (i := 31) rfl ?_ trivial
          refine O.alloc 3 zc_116 hF hS rfl fun b_28 a w hF hS => nT ⟨hS.weak ⟨rfl, rfl, trivial⟩, ?_⟩
          refine oneV (i := 15) rfl ?_ trivial
          refine guard_off hF rfl rfl hbv_1 rfl fun a hF => nT ⟨hS.weak ⟨rfl, rfl, trivial⟩, ?_⟩
          refine stepV (i := 16) rfl hF (fun w hS => Y.pick_f hF rfl hbv_1 rfl) rfl fun a hF => stepV (i := 17) rfl hF (fun w hS => Y.move hF rfl) rfl fun a hF => stepV_off (i := 18) rfl hF rfl rfl rfl rfl fun a hF => stepV_off (i := 19) rfl hF rfl rfl rfl rfl fun a hF => oneV (i := 20) rfl ?_ trivial
          refine guard_off hF rfl rfl rfl rfl fun a hF => nT ⟨hS.weak ⟨rfl, rfl, trivial⟩, ?_⟩
          refine stepV (i := 21) rfl hF (fun w hS => Y.pick_f hF rfl rfl rfl) rfl fun a hF => stepV (i := 22) rfl hF (fun w hS => Y.move hF rfl) rfl fun a hF => stepV_off (i := 23) rfl hF rfl rfl rfl rfl fun a hF => stepV_off (i := 24) rfl hF rfl rfl rfl rfl fun a hF => oneV (i := 25) rfl ?_ trivial
          refine guard_off hF rfl rfl rfl rfl fun a hF => nT ⟨hS.weak ⟨rfl, rfl, trivial⟩, ?_⟩
          refine stepV (i := 26) rfl hF (fun w hS => Y.pick_f hF rfl rfl rfl) rfl fun a hF => oneV (i := 27) rfl ?_ trivial
          refine O.callSN (us := [.agg #[iv xv.Ring, .slice p xv.Starts.length c, .slice p_1 xv.Events.length c_1], iv minute, .bool false]) ca_74 hF hS (slave_opened_ok hS.stab xv minute false hs hs_1 hG KQ hx_5) rfl rfl fun rv_5 hq v_26 Dv_27 a w hR_26 hlev_26 hF hS => ?_
          obtain ⟨p_107, c_106, p_108, c_107, p_109, c_108, p_110, c_109, rfl, hs_106, hs_107, hs_108, hs_109⟩ := hR_26
          refine nT ⟨(hS.weak (ms := [(1, .cells b [iv xv.Ring, .slice p xv.Starts.length c, .slice p_1 xv.Events.length c_1] 25), (2, .cells b_1 [iv p_2.Pre, iv p_2.Home, iv p_2.First, iv p_2.Send] 49)]) ⟨rfl, rfl, trivial⟩).weakD hlev_26 hle0, ?_⟩
          refine stepV (i := 28) rfl hF (fun w hS => Y.move hF rfl) rfl fun a hF => stepV (i := 29) rfl hF (fun w hS => Y.extract hF rfl rfl) rfl fun a hF => stepV (i := 30) rfl hF (fun w hS => Y.extract hF rfl rfl) rfl fun a hF => oneV (i := 32) rfl ?_ trivial
          refine O.store (us := [iv rv_5.1.line.SlaveLine.Ring, .slice p_107 rv_5.1.line.SlaveLine.Starts.length c_106, .slice p_108 rv_5.1.line.SlaveLine.Events.length c_107, .slice p_109 rv_5.1.line.without.length c_108, .slice p_110 rv_5.1.states.length c_109, iv rv_5.1.minute]) 3 sz_116 hF rfl rfl rfl rfl hS rfl rfl fun a w hF hS => nT ⟨(hS.weak (ms := [(1, .cells b [iv xv.Ring, .slice p xv.Starts.length c, .slice p_1 xv.Events.length c_1] 25), (2, .cells b_1 [iv p_2.Pre, iv p_2.Home, iv p_2.First, iv p_2.Send] 49)]) ⟨rfl, rfl, trivial⟩).weakD hlev_26 hle0, ?_⟩
          refine stepV (i := 33) rfl hF (fun w hS => Y.assign hF rfl) rfl fun a hF => toTailV ⟨_, Dv_27, b_28, p_107, c_106, p_108, c_107, p_109, c_108, p_110, c_109, hlev_26, hF.weak (AF rfl), hS.weak (AL rfl), hs_106, hs_107, hs_108, hs_109, hq⟩
        refine oneV (i := 31) rfl ?_ trivial
        refine O.alloc 3 zc_116 hF hS rfl fun b_29 a w hF hS => nT ⟨hS.weak ⟨rfl, rfl, trivial⟩, ?_⟩
        refine oneV (i := 10) rfl ?_ trivial
        refine guard_on hF rfl rfl hbv (O.callP (us := [iv p_2.Pre, iv (-1), iv 1]) ca_60 hF hS (slave_within_ok hS.stab p_2.Pre (-1) 1 rv_1 hx_1) rfl rfl fun a w hF hS => nT ⟨hS.weak ⟨rfl, rfl, trivial⟩, ?_⟩)
        refine stepV (i := 11) rfl hF (fun w hS => Y.pick_t hF rfl hbv rfl) rfl fun a hF => stepV (i := 12) rfl hF (fun w hS => Y.move hF rfl) rfl fun a hF => stepV_off (i := 13) rfl hF rfl rfl hbv_1 rfl fun a hF => stepV_off (i := 14) rfl hF rfl rfl hbv_1 rfl fun a hF => oneV (i := 15) rfl ?_ trivial
        refine guard_off hF rfl rfl hbv_1 rfl fun a hF => nT ⟨hS.weak ⟨rfl, rfl, trivial⟩, ?_⟩
        refine stepV (i := 16) rfl hF (fun w hS => Y.pick_f hF rfl hbv_1 rfl) rfl fun a hF => stepV (i := 17) rfl hF (fun w hS => Y.move hF rfl) rfl fun a hF => stepV_off (i := 18) rfl hF rfl rfl rfl rfl fun a hF => stepV_off (i := 19) rfl hF rfl rfl rfl rfl fun a hF => oneV (i := 20) rfl ?_ trivial
        refine guard_off hF rfl rfl rfl rfl fun a hF => nT ⟨hS.weak ⟨rfl, rfl, trivial⟩, ?_⟩
        refine stepV (i := 21) rfl hF (fun w hS => Y.pick_f hF rfl rfl rfl) rfl fun a hF => stepV (i := 22) rfl hF (fun w hS => Y.move hF rfl) rfl fun a hF => stepV_off (i := 23) rfl hF rfl rfl rfl rfl fun a hF => stepV_off (i := 24) rfl hF rfl rfl rfl rfl fun a hF => oneV (i := 25) rfl ?_ trivial
        refine guard_off hF rfl rfl rfl rfl fun a hF => nT ⟨hS.weak ⟨rfl, rfl, trivial⟩, ?_⟩
        refine stepV (i := 26) rfl hF (fun w hS => Y.pick_f hF rfl rfl rfl) rfl fun a hF => oneV (i := 27) rfl ?_ trivial
        refine O.callSN (us := [.agg #[iv xv.Ring, .slice p xv.Starts.length c, .slice p_1 xv.Events.length c_1], iv minute, .bool false]) ca_74 hF hS (slave_opened_ok hS.stab xv minute false hs hs_1 hG KQ hx_5) rfl rfl fun rv_5 hq v_27 Dv_28 a w hR_27 hlev_27 hF hS => ?_
        obtain ⟨p_111, c_110, p_112, c_111, p_113, c_112, p_114, c_113, rfl, hs_110, hs_111, hs_112, hs_113⟩ := hR_27
        refine nT ⟨(hS.weak (ms := [(1, .cells b [iv xv.Ring, .slice p xv.Starts.length c, .slice p_1 xv.Events.length c_1] 25), (2, .cells b_1 [iv p_2.Pre, iv p_2.Home, iv p_2.First, iv p_2.Send] 49)]) ⟨rfl, rfl, trivial⟩).weakD hlev_27 hle0, ?_⟩
        refine stepV (i := 28) rfl hF (fun w hS => Y.move hF rfl) rfl fun a hF => stepV (i := 29) rfl hF (fun w hS => Y.extract hF rfl rfl) rfl fun a hF => stepV (i := 30) rfl hF (fun w hS => Y.extract hF rfl rfl) rfl fun a hF => oneV (i := 32) rfl ?_ trivial
        refine O.store (us := [iv rv_5.1.line.SlaveLine.Ring, .slice p_111 rv_5.1.line.SlaveLine.Starts.length c_110, .slice p_112 rv_5.1.line.SlaveLine.Events.length c_111, .slice p_113 rv_5.1.line.without.length c_112, .slice p_114 rv_5.1.states.length c_113, iv rv_5.1.minute]) 3 sz_116 hF rfl rfl rfl rfl hS rfl rfl fun a w hF hS => nT ⟨(hS.weak (ms := [(1, .cells b [iv xv.Ring, .slice p xv.Starts.length c, .slice p_1 xv.Events.length c_1] 25), (2, .cells b_1 [iv p_2.Pre, iv p_2.Home, iv p_2.First, iv p_2.Send] 49)]) ⟨rfl, rfl, trivial⟩).weakD hlev_27 hle0, ?_⟩
        refine stepV (i := 33) rfl hF (fun w hS => Y.assign hF rfl) rfl fun a hF => toTailV ⟨_, Dv_28, b_29, p_111, c_110, p_112, c_111, p_113, c_112, p_114, c_113, hlev_27, hF.weak (AF rfl), hS.weak (AL rfl), hs_110, hs_111, hs_112, hs_113, hq⟩
      refine oneV (i := 31) rfl ?_ trivial
      refine O.alloc 3 zc_116 hF hS rfl fun b_30 a w hF hS => nT ⟨hS.weak ⟨rfl, rfl, trivial⟩, ?_⟩
      refine oneV (i := 6) rfl ?_ trivial
      refine O.callP (us := [iv minute, iv 0, iv (wr (xv.Ring - 1))]) ca_60 hF hS (slave_within_ok hS.stab minute 0 (wr (xv.Ring - 1)) rv hx) rfl rfl fun a w hF hS => nT ⟨hS.weak ⟨rfl, rfl, trivial⟩, ?_⟩
      refine stepV (i := 7) rfl hF (fun w hS => Y.move hF rfl) rfl fun a hF => stepV_on (i := 8) rfl hF rfl rfl hbv (fun w hS => Y.fieldAddr fo_49_0 hF rfl) rfl fun a hF => stepV_on (i := 9) rfl hF rfl rfl hbv (fun w hS => Y.load1L 2 sz_3 hF rfl hS rfl rfl) rfl fun a hF => oneV (i := 10) rfl ?_ trivial
      refine guard_on hF rfl rfl hbv (O.callP (us := [iv p_2.Pre, iv (-1), iv 1]) ca_60 hF hS (slave_within_ok hS.stab p_2.Pre (-1) 1 rv_1 hx_1) rfl rfl fun a w hF hS => nT ⟨hS.weak ⟨rfl, rfl, trivial⟩, ?_⟩)
      refine stepV (i := 11) rfl hF (fun w hS => Y.pick_t hF rfl hbv rfl) rfl fun a hF => stepV (i := 12) rfl hF (fun w hS => Y.move hF rfl) rfl fun a hF => stepV_off (i := 13) rfl hF rfl rfl hbv_1 rfl fun a hF => stepV_off (i := 14) rfl hF rfl rfl hbv_1 rfl fun a hF => oneV (i := 15) rfl ?_ trivial
      refine guard_off hF rfl rfl hbv_1 rfl fun a hF => nT ⟨hS.weak ⟨rfl, rfl, trivial⟩, ?_⟩
      refine stepV (i := 16) rfl hF (fun w hS => Y.pick_f hF rfl hbv_1 rfl) rfl fun a hF => stepV (i := 17) rfl hF (fun w hS => Y.move hF rfl) rfl fun a hF => stepV_off (i := 18) rfl hF rfl rfl rfl rfl fun a hF => stepV_off (i := 19) rfl hF rfl rfl rfl rfl fun a hF => oneV (i := 20) rfl ?_ trivial
      refine guard_off hF rfl rfl rfl rfl fun a hF => nT ⟨hS.weak ⟨rfl, rfl, trivial⟩, ?_⟩
      refine stepV (i := 21) rfl hF (fun w hS => Y.pick_f hF rfl rfl rfl) rfl fun a hF => stepV (i := 22) rfl hF (fun w hS => Y.move hF rfl) rfl fun a hF => stepV_off (i := 23) rfl hF rfl rfl rfl rfl fun a hF => stepV_off (i := 24) rfl hF rfl rfl rfl rfl fun a hF => oneV (i := 25) rfl ?_ trivial
      refine guard_off hF rfl rfl rfl rfl fun a hF => nT ⟨hS.weak ⟨rfl, rfl, trivial⟩, ?_⟩
      refine stepV (i := 26) rfl hF (fun w hS => Y.pick_f hF rfl rfl rfl) rfl fun a hF => oneV (i := 27) rfl ?_ trivial
      refine O.callSN (us := [.agg #[iv xv.Ring, .slice p xv.Starts.length c, .slice p_1 xv.Events.length c_1], iv minute, .bool false]) ca_74 hF hS (slave_opened_ok hS.stab xv minute false hs hs_1 hG KQ hx_5) rfl rfl fun rv_5 hq v_28 Dv_29 a w hR_28 hlev_28 hF hS => ?_
      obtain ⟨p_115, c_114, p_116, c_115, p_117, c_116, p_118, c_117, rfl, hs_114, hs_115, hs_116, hs_117⟩ := hR_28
      refine nT ⟨(hS.weak (ms := [(1, .cells b [iv xv.Ring, .slice p xv.Starts.length c, .slice p_1 xv.Events.length c_1] 25), (2, .cells b_1 [iv p_2.Pre, iv p_2.Home, iv p_2.First, iv p_2.Send] 49)]) ⟨rfl, rfl, trivial⟩).weakD hlev_28 hle0, ?_⟩
      refine stepV (i := 28) rfl hF (fun w hS => Y.move hF rfl) rfl fun a hF => stepV (i := 29) rfl hF (fun w hS => Y.extract hF rfl rfl) rfl fun a hF => stepV (i := 30) rfl hF (fun w hS => Y.extract hF rfl rfl) rfl fun a hF => oneV (i := 32) rfl ?_ trivial
      refine O.store (us := [iv rv_5.1.line.SlaveLine.Ring, .slice p_115 rv_5.1.line.SlaveLine.Starts.length c_114, .slice p_116 rv_5.1.line.SlaveLine.Events.length c_115, .slice p_117 rv_5.1.line.without.length c_116, .slice p_118 rv_5.1.states.length c_117, iv rv_5.1.minute]) 3 sz_116 hF rfl rfl rfl rfl hS rfl rfl fun a w hF hS => nT ⟨(hS.weak (ms := [(1, .cells b [iv xv.Ring, .slice p xv.Starts.length c, .slice p_1 xv.Events.length c_1] 25), (2, .cells b_1 [iv p_2.Pre, iv p_2.Home, iv p_2.First, iv p_2.Send] 49)]) ⟨rfl, rfl, trivial⟩).weakD hlev_28 hle0, ?_⟩
      refine stepV (i := 33) rfl hF (fun w hS => Y.assign hF rfl) rfl fun a hF => toTailV ⟨_, Dv_29, b_30, p_115, c_114, p_116, c_115, p_117, c_116, p_118, c_117, hlev_28, hF.weak (AF rfl), hS.weak (AL rfl), hs_114, hs_115, hs_116, hs_117, hq⟩
   as_aux_lemma =>
    skip
    replace ht := cond_f ht hbv
    obtain rfl := some_inj ht
    replace ht_1 := cond_f ht_1 rfl
    obtain rfl := some_inj ht_1
    replace ht_2 := cond_f ht_2 rfl
    obtain rfl := some_inj ht_2
    replace ht_3 := cond_f ht_3 rfl
    obtain rfl := some_inj ht_3
    refine stepV (i := 0) rfl hF (fun w hS => Y.loadNL 1 sz_25 hF rfl hS rfl rfl rfl) rfl fun a hF => stepV (i := 1) rfl hF (fun w hS => Y.move hF rfl) rfl fun a hF => stepV (i := 2) rfl hF (fun w hS => Y.move hF rfl) rfl fun a hF => stepV (i := 3) rfl hF (fun w hS => Y.fieldAddr fo_25_0 hF rfl) rfl fun a hF => stepV (i := 4) rfl hF (fun w hS => Y.load1L 1 sz_3 hF rfl hS rfl rfl) rfl fun a hF => stepV (i := 5) rfl hF (fun w hS => Y.sub hF rfl rfl) rfl fun a hF => oneV (i := 6) rfl ?_ ?_
    ·as_aux_lemma =>
      skip
      refine O.callP (us := [iv minute, iv 0, iv (wr (xv.Ring - 1))]) ca_60 hF hS (slave_within_ok hS.stab minute 0 (wr (xv.Ring - 1)) rv hx) rfl rfl fun a w hF hS => nT ⟨hS.weak ⟨rfl, rfl, trivial⟩, ?_⟩
      refine stepV (i := 7) rfl hF (fun w hS => Y.move hF rfl) rfl fun a hF => stepV_off (i := 8) rfl hF rfl rfl hbv rfl fun a hF => stepV_off (i := 9) rfl hF rfl rfl hbv rfl fun a hF => oneV (i := 10) rfl ?_ ?_
      ·as_aux_lemma =>
        skip
        refine guard_off hF rfl rfl hbv rfl fun a hF => nT ⟨hS.weak ⟨rfl, rfl, trivial⟩, ?_⟩
        refine stepV (i := 11) rfl hF (fun w hS => Y.pick_f hF rfl hbv rfl) rfl fun a hF => stepV (i := 12) rfl hF (fun w hS => Y.move hF rfl) rfl fun a hF => stepV_off (i := 13) rfl hF rfl rfl rfl rfl fun a hF => stepV_off (i := 14) rfl hF rfl rfl rfl rfl fun a hF => oneV (i := 15) rfl ?_ ?_
        ·as_aux_lemma =>
          skip
          refine guard_off hF rfl rfl rfl rfl fun a hF => nT ⟨hS.weak ⟨rfl, rfl, trivial⟩, ?_⟩
          refine stepV (i := 16) rfl hF (fun w hS => Y.pick_f hF rfl rfl rfl) rfl fun a hF => stepV (i := 17) rfl hF (fun w hS => Y.move hF rfl) rfl fun a hF => stepV_off (i := 18) rfl hF rfl rfl rfl rfl fun a hF => stepV_off (i := 19) rfl hF rfl rfl rfl rfl fun a hF => oneV (i := 20) rfl ?_ ?_
          ·as_aux_lemma =>
            skip
            refine guard_off hF rfl rfl rfl rfl fun a hF => nT ⟨hS.weak ⟨rfl, rfl, trivial⟩, ?_⟩
            refine stepV (i := 21) rfl hF (fun w hS => Y.pick_f hF rfl rfl rfl) rfl fun a hF => stepV (i := 22) rfl hF (fun w hS => Y.move hF rfl) rfl fun a hF => stepV_off (i := 23) rfl hF rfl rfl rfl rfl fun a hF => stepV_off (i := 24) rfl hF rfl rfl rfl rfl fun a hF => oneV (i := 25) rfl ?_ ?_
            ·skip
             refine guard_off hF rfl rfl rfl rfl fun a hF => nT ⟨hS.weak ⟨rfl, rfl, trivial⟩, ?_⟩
             refine stepV (i := 26) rfl hF (fun w hS => Y.pick_f hF rfl rfl rfl) rfl fun a hF => oneV (i := 27) rfl ?_ ?_
             ·skip
              refine O.callSN (us := [.agg #[iv xv.Ring, .slice p xv.Starts.length c, .slice p_1 xv.Events.length c_1], iv minute, .bool false]) ca_74 hF hS (slave_opened_ok hS.stab xv minute false hs hs_1 hG KQ hx_5) rfl rfl fun rv_5 hq v_29 Dv_30 a w hR_29 hlev_29 hF hS => ?_
              obtain ⟨p_119, c_118, p_120, c_119, p_121, c_120, p_122, c_121, rfl, hs_118, hs_119, hs_120, hs_121⟩ := hR_29
              refine nT ⟨(hS.weak (ms := [(1, .cells b [iv xv.Ring, .slice p xv.Starts.length c, .slice p_1 xv.Events.length c_1] 25), (2, .cells b_1 [iv p_2.Pre, iv p_2.Home, iv p_2.First, iv p_2.Send] 49)]) ⟨rfl, rfl, trivial⟩).weakD hlev_29 hle0, ?_⟩
              refine stepV (i := 28) rfl hF (fun w hS => Y.move hF rfl) rfl fun a hF => stepV (i := 29) rfl hF (fun w hS => Y.extract hF rfl rfl) rfl fun a hF => stepV (i := 30) rfl hF (fun w hS => Y.extract hF rfl rfl) rfl fun a hF => oneV (i := 31) rfl ?_ trivial
              refine O.alloc 3 zc_116 hF hS rfl fun b_31 a w hF hS => nT ⟨(hS.weak (ms := [(1, .cells b [iv xv.Ring, .slice p xv.Starts.length c, .slice p_1 xv.Events.length c_1] 25), (2, .cells b_1 [iv p_2.Pre, iv p_2.Home, iv p_2.First, iv p_2.Send] 49)]) ⟨rfl, rfl, trivial⟩).weakD hlev_29 hle0, ?_⟩
              refine oneV (i := 32) rfl ?_ trivial
              refine O.store (us := [iv rv_5.1.line.SlaveLine.Ring, .slice p_119 rv_5.1.line.SlaveLine.Starts.length c_118, .slice p_120 rv_5.1.line.SlaveLine.Events.length c_119, .slice p_121 rv_5.1.line.without.length c_120, .slice p_122 rv_5.1.states.length c_121, iv rv_5.1.minute]) 3 sz_116 hF rfl rfl rfl rfl hS rfl rfl fun a w hF hS => nT ⟨(hS.weak (ms := [(1, .cells b [iv xv.Ring, .slice p xv.Starts.length c, .slice p_1 xv.Events.length c_1] 25), (2, .cells b_1 [iv p_2.Pre, iv p_2.Home, iv p_2.First, iv p_2.Send] 49)]) ⟨rfl, rfl, trivial⟩).weakD hlev_29 hle0, ?_⟩
              refine stepV (i := 33) rfl hF (fun w hS => Y.assign hF rfl) rfl fun a hF => toTailV ⟨_, Dv_30, b_31, p_119, c_118, p_120, c_119, p_121, c_120, p_122, c_121, hlev_29, hF.weak (AF rfl), hS.weak (AL rfl), hs_118, hs_119, hs_120, hs_121, hq⟩
             refine oneV (i := 31) rfl ?_ trivial
             refine O.alloc 3 zc_116 hF hS rfl fun b_32 a w hF hS => nT ⟨hS.weak ⟨rfl, rfl, trivial⟩, ?_⟩
             refine oneV (i := 27) rfl ?_ trivial
             refine O.callSN (us := [.agg #[iv xv.Ring, .slice p xv.Starts.length c, .slice p_1 xv.Events.length c_1], iv minute, .bool false]) ca_74 hF hS (slave_opened_ok hS.stab xv minute false hs hs_1 hG KQ hx_5) rfl rfl fun rv_5 hq v_30 Dv_31 a w hR_30 hlev_30 hF hS => ?_
             obtain ⟨p_123, c_122, p_124, c_123, p_125, c_124, p_126, c_125, rfl, hs_122, hs_123, hs_124, hs_125⟩ := hR_30
             refine nT ⟨(hS.weak (ms := [(1, .cells b [iv xv.Ring, .slice p xv.Starts.length c, .slice p_1 xv.Events.length c_1] 25), (2, .cells b_1 [iv p_2.Pre, iv p_2.Home, iv p_2.First, iv p_2.Send] 49)]) ⟨rfl, rfl, trivial⟩).weakD hlev_30 hle0, ?_⟩
             refine stepV (i := 28) rfl hF (fun w hS => Y.move hF rfl) rfl fun a hF => stepV (i := 29) rfl hF (fun w hS => Y.extract hF rfl rfl) rfl fun a hF => stepV (i := 30) rfl hF (fun w hS => Y.extract hF rfl rfl) rfl fun a hF => oneV (i := 32) rfl ?_ trivial
             refine O.store (us := [iv rv_5.1.line.SlaveLine.Ring, .slice p_123 rv_5.1.line.SlaveLine.Starts.length c_122, .slice p_124 rv_5.1.line.SlaveLine.Events.length c_123, .slice p_125 rv_5.1.line.without.length c_124, .slice p_126 rv_5.1.states.length c_125, iv rv_5.1.minute]) 3 sz_116 hF rfl rfl rfl rfl hS rfl rfl fun a w hF hS => nT ⟨(hS.weak (ms := [(1, .cells b [iv xv.Ring, .slice p xv.Starts.length c, .slice p_1 xv.Events.length c_1] 25), (2, .cells b_1 [iv p_2.Pre, iv p_2.Home, iv p_2.First, iv p_2.Send] 49)]) ⟨rfl, rfl, trivial⟩).weakD hlev_30 hle0, ?_⟩
             refine stepV (i := 33) rfl hF (fun w hS => Y.assign hF rfl) rfl fun a hF => toTailV ⟨_, Dv_31, b_32, p_123, c_122, p_124, c_123, p_125, c_124, p_126, c_125, hlev_30, hF.weak (AF rfl), hS.weak (AL rfl), hs_122, hs_123, hs_124, hs_125, hq⟩
            refine oneV (i := 31) rfl ?_ trivial
            refine O.alloc 3 zc_116 hF hS rfl fun b_33 a w hF hS => nT ⟨hS.weak ⟨rfl, rfl, trivial⟩, ?_⟩
            refine oneV (i := 25) rfl ?_ trivial
            refine guard_off hF rfl rfl rfl rfl fun a hF => nT ⟨hS.weak ⟨rfl, rfl, trivial⟩, ?_⟩
            refine stepV (i := 26) rfl hF (fun w hS => Y.pick_f hF rfl rfl rfl) rfl fun a hF => oneV (i := 27) rfl ?_ trivial
            refine O.callSN (us := [.agg #[iv xv.Ring, .slice p xv.Starts.length c, .slice p_1 xv.Events.length c_1], iv minute, .bool false]) ca_74 hF hS (slave_opened_ok hS.stab xv minute false hs hs_1 hG KQ hx_5) rfl rfl fun rv_5 hq v_31 Dv_32 a w hR_31 hlev_31 hF hS => ?_
            obtain ⟨p_127, c_126, p_128, c_127, p_129, c_128, p_130, c_129, rfl, hs_126, hs_127, hs_128, hs_129⟩ := hR_31
            refine nT ⟨(hS.weak (ms := [(1, .cells b [iv xv.Ring, .slice p xv.Starts.length c, .slice p_1 xv.Events.length c_1] 25), (2, .cells b_1 [iv p_2.Pre, iv p_2.Home, iv p_2.First, iv p_2.Send] 49)]) ⟨rfl, rfl, trivial⟩).weakD hlev_31 hle0, ?_⟩
            refine stepV (i := 28) rfl hF (fun w hS => Y.move hF rfl) rfl fun a hF => stepV (i := 29) rfl hF (fun w hS => Y.extract hF rfl rfl) rfl fun a hF => stepV (i := 30) rfl hF (fun w hS => Y.extract hF rfl rfl) rfl fun a hF => oneV (i := 32) rfl ?_ trivial
            refine O.store (us := [iv rv_5.1.line.SlaveLine.Ring, .slice p_127 rv_5.1.line.SlaveLine.Starts.length c_126, .slice p_128 rv_5.1.line.SlaveLine.Events.length c_127, .slice p_129 rv_5.1.line.without.length c_128, .slice p_130 rv_5.1.states.length c_129, iv rv_5.1.minute]) 3 sz_116 hF rfl rfl rfl rfl hS rfl rfl fun a w hF hS => nT ⟨(hS.weak (ms := [(1, .cells b [iv xv.Ring, .slice p xv.Starts.length c, .slice p_1 xv.Events.length c_1] 25), (2, .cells b_1 [iv p_2.Pre, iv p_2.Home, iv p_2.First, iv p_2.Send] 49)]) ⟨rfl, rfl, trivial⟩).weakD hlev_31 hle0, ?_⟩
            refine stepV (i := 33) rfl hF (fun w hS => Y.assign hF rfl) rfl fun a hF => toTailV ⟨_, Dv_32, b_33, p_127, c_126, p_128, c_127, p_129, c_128, p_130, c_129, hlev_31, hF.weak (AF rfl), hS.weak (AL rfl), hs_126, hs_127, hs_128, hs_129, hq⟩
          refine oneV (i := 31) rfl ?_ trivial
          refine O.alloc 3 zc_116 hF hS rfl fun b_34 a w hF hS => nT ⟨hS.weak ⟨rfl, rfl, trivial⟩, ?_⟩
          refine oneV (i := 20) rfl ?_ trivial
          refine guard_off hF rfl rfl rfl rfl fun a hF => nT ⟨hS.weak ⟨rfl, rfl, trivial⟩, ?_⟩
          refine stepV (i := 21) rfl hF (fun w hS => Y.pick_f hF rfl rfl rfl) rfl fun a hF => stepV (i := 22) rfl hF (fun w hS => Y.move hF rfl) rfl fun a hF => stepV_off (i := 23) rfl hF rfl rfl rfl rfl fun a hF => stepV_off (i := 24) rfl hF rfl rfl rfl rfl fun a hF => oneV (i := 25) rfl ?_ trivial
          refine guard_off hF rfl rfl rfl rfl fun a hF => nT ⟨hS.weak ⟨rfl, rfl, trivial⟩, ?_⟩
          refine stepV (i := 26) rfl hF (fun w hS => Y.pick_f hF rfl rfl rfl) rfl fun a hF => oneV (i := 27) rfl ?_ trivial
          refine O.callSN (us := [.agg #[iv xv.Ring, .slice p xv.Starts.length c, .slice p_1 xv.Events.length c_1], iv minute, .bool false]) ca_74 hF hS (slave_opened_ok hS.stab xv minute false hs hs_1 hG KQ hx_5) rfl rfl fun rv_5 hq v_32 Dv_33 a w hR_32 hlev_32 hF hS => ?_
          obtain ⟨p_131, c_130, p_132, c_131, p_133, c_132, p_134, c_133, rfl, hs_130, hs_131, hs_132, hs_133⟩ := hR_32
          refine nT ⟨(hS.weak (ms := [(1, .cells b [iv xv.Ring, .slice p xv.Starts.length c, .slice p_1 xv.Events.length c_1] 25), (2, .cells b_1 [iv p_2.Pre, iv p_2.Home, iv p_2.First, iv p_2.Send] 49)]) ⟨rfl, rfl, trivial⟩).weakD hlev_32 hle0, ?_⟩
          refine stepV (i := 28) rfl hF (fun w hS => Y.move hF rfl) rfl fun a hF => stepV (i := 29) rfl hF (fun w hS => Y.extract hF rfl rfl) rfl fun a hF => stepV (i := 30) rfl hF (fun w hS => Y.extract hF rfl rfl) rfl fun a hF => oneV (i := 32) rfl ?_ trivial
          refine O.store (us := [iv rv_5.1.line.SlaveLine.Ring, .slice p_131 rv_5.1.line.SlaveLine.Starts.length c_130, .slice p_132 rv_5.1.line.SlaveLine.Events.length c_131, .slice p_133 rv_5.1.line.without.length c_132, .slice p_134 rv_5.1.states.length c_133, iv rv_5.1.minute]) 3 sz_116 hF rfl rfl rfl rfl hS rfl rfl fun a w hF hS => nT ⟨(hS.weak (ms := [(1, .cells b [iv xv.Ring, .slice p xv.Starts.length c, .slice p_1 xv.Events.length c_1] 25), (2, .cells b_1 [iv p_2.Pre, iv p_2.Home, iv p_2.First, iv p_2.Send] 49)]) ⟨rfl, rfl, trivial⟩).weakD hlev_32 hle0, ?_⟩
          refine stepV (i := 33) rfl hF (fun w hS => Y.assign hF rfl) rfl fun a hF => toTailV ⟨_, Dv_33, b_34, p_131, c_130, p_132, c_131, p_133, c_132, p_134, c_133, hlev_32, hF.weak (AF rfl), hS.weak (AL rfl), hs_130, hs_131, hs_132, hs_133, hq⟩
        refine oneV (i := 31) rfl ?_ trivial
        refine O.alloc 3 zc_116 hF hS rfl fun b_35 a w hF hS => nT ⟨hS.weak ⟨rfl, rfl, trivial⟩, ?_⟩
        refine oneV (i := 15) rfl ?_ trivial
        refine guard_off hF rfl rfl rfl rfl fun a hF => nT ⟨hS.weak ⟨rfl, rfl, trivial⟩, ?_⟩
        refine stepV (i := 16) rfl hF (fun w hS => Y.pick_f hF rfl rfl rfl) rfl fun a hF => stepV (i := 17) rfl hF (fun w hS => Y.move hF rfl) rfl fun a hF => stepV_off (i := 18) rfl hF rfl rfl rfl rfl fun a hF => stepV_off (i := 19) rfl hF rfl rfl rfl rfl fun a hF => oneV (i := 20) rfl ?_ trivial
        refine guard_off hF rfl rfl rfl rfl fun a hF => nT ⟨hS.weak ⟨rfl, rfl, trivial⟩, ?_⟩
        refine stepV (i := 21) rfl hF (fun w hS => Y.pick_f hF rfl rfl rfl) rfl fun a hF => stepV (i := 22) rfl hF (fun w hS => Y.move hF rfl) rfl fun a hF => stepV_off (i := 23) rfl hF rfl rfl rfl rfl fun a hF => stepV_off (i := 24) rfl hF rfl rfl rfl rfl fun a hF => oneV (i := 25) rfl ?_ trivial
        refine guard_off hF rfl rfl rfl rfl fun a hF => nT ⟨hS.weak ⟨rfl, rfl, trivial⟩, ?_⟩
        refine stepV (i := 26) rfl hF (fun w hS => Y.pick_f hF rfl rfl rfl) rfl fun a hF => oneV (i := 27) rfl ?_ trivial
        refine O.callSN (us := [.agg #[iv xv.Ring, .slice p xv.Starts.length c, .slice p_1 xv.Events.length c_1], iv minute, .bool false]) ca_74 hF hS (slave_opened_ok hS.stab xv minute false hs hs_1 hG KQ hx_5) rfl rfl fun rv_5 hq v_33 Dv_34 a w hR_33 hlev_33 hF hS => ?_
        obtain ⟨p_135, c_134, p_136, c_135, p_137, c_136, p_138, c_137, rfl, hs_134, hs_135, hs_136, hs_137⟩ := hR_33
        refine nT ⟨(hS.weak (ms := [(1, .cells b [iv xv.Ring, .slice p xv.Starts.length c, .slice p_1 xv.Events.length c_1] 25), (2, .cells b_1 [iv p_2.Pre, iv p_2.Home, iv p_2.First, iv p_2.Send] 49)]) ⟨rfl, rfl, trivial⟩).weakD hlev_33 hle0, ?_⟩
        refine stepV (i := 28) rfl hF (fun w hS => Y.move hF rfl) rfl fun a hF => stepV (i := 29) rfl hF (fun w hS => Y.extract hF rfl rfl) rfl fun a hF => stepV (i := 30) rfl hF (fun w hS => Y.extract hF rfl rfl) rfl fun a hF => oneV (i := 32) rfl ?_ trivial
        refine O.store (us := [iv rv_5.1.line.SlaveLine.Ring, .slice p_135 rv_5.1.line.SlaveLine.Starts.length c_134, .slice p_136 rv_5.1.line.SlaveLine.Events.length c_135, .slice p_137 rv_5.1.line.without.length c_136, .slice p_138 rv_5.1.states.length c_137, iv rv_5.1.minute]) 3 sz_116 hF rfl rfl rfl rfl hS rfl rfl fun a w hF hS => nT ⟨(hS.weak (ms := [(1, .cells b [iv xv.Ring, .slice p xv.Starts.length c, .slice p_1 xv.Events.length c_1] 25), (2, .cells b_1 [iv p_2.Pre, iv p_2.Home, iv p_2.First, iv p_2.Send] 49)]) ⟨rfl, rfl, trivial⟩).weakD hlev_33 hle0, ?_⟩
        refine stepV (i := 33) rfl hF (fun w hS => Y.assign hF rfl) rfl fun a hF => toTailV ⟨_, Dv_34, b_35, p_135, c_134, p_136, c_135, p_137, c_136, p_138, c_137, hlev_33, hF.weak (AF rfl), hS.weak (AL rfl), hs_134, hs_135, hs_136, hs_137, hq⟩
      refine oneV (i := 31) rfl ?_ trivial
      refine O.alloc 3 zc_116 hF hS rfl fun b_36 a w hF hS => nT ⟨hS.weak ⟨rfl, rfl, trivial⟩, ?_⟩
      refine oneV (i := 10) rfl ?_ trivial
      refine guard_off hF rfl rfl hbv rfl fun a hF => nT ⟨hS.weak ⟨rfl, rfl, trivial⟩, ?_⟩
      refine stepV (i := 11) rfl hF (fun w hS => Y.pick_f hF rfl hbv rfl) rfl fun a hF => stepV (i := 12) rfl hF (fun w hS => Y.move hF rfl) rfl fun a hF => stepV_off (i := 13) rfl hF rfl rfl rfl rfl fun a hF => stepV_off (i := 14) rfl hF rfl rfl rfl rfl fun a hF => oneV (i := 15) rfl ?_ trivial
      refine guard_off hF rfl rfl rfl rfl fun a hF => nT ⟨hS.weak ⟨rfl, rfl, trivial⟩, ?_⟩
      refine stepV (i := 16) rfl hF (fun w hS => Y.pick_f hF rfl rfl rfl) rfl fun a hF => stepV (i := 17) rfl hF (fun w hS => Y.move hF rfl) rfl fun a hF => stepV_off (i := 18) rfl hF rfl rfl rfl rfl fun a hF => stepV_off (i := 19) rfl hF rfl rfl rfl rfl fun a hF => oneV (i := 20) rfl ?_ trivial
      refine guard_off hF rfl rfl rfl rfl fun a hF => nT ⟨hS.weak ⟨rfl, rfl, trivial⟩, ?_⟩
      refine stepV (i := 21) rfl hF (fun w hS => Y.pick_f hF rfl rfl rfl) rfl fun a hF => stepV (i := 22) rfl hF (fun w hS => Y.move hF rfl) rfl fun a hF => stepV_off (i := 23) rfl hF rfl rfl rfl rfl fun a hF => stepV_off (i := 24) rfl hF rfl rfl rfl rfl fun a hF => oneV (i := 25) rfl ?_ trivial
      refine guard_off hF rfl rfl rfl rfl fun a hF => nT ⟨hS.weak ⟨rfl, rfl, trivial⟩, ?_⟩
      refine stepV (i := 26) rfl hF (fun w hS => Y.pick_f hF rfl rfl rfl) rfl fun a hF => oneV (i := 27) rfl ?_ trivial
      refine O.callSN (us := [.agg #[iv xv.Ring, .slice p xv.Starts.length c, .slice p_1 xv.Events.length c_1], iv minute, .bool false]) ca_74 hF hS (slave_opened_ok hS.stab xv minute false hs hs_1 hG KQ hx_5) rfl rfl fun rv_5 hq v_34 Dv_35 a w hR_34 hlev_34 hF hS => ?_
      obtain ⟨p_139, c_138, p_140, c_139, p_141, c_140, p_142, c_141, rfl, hs_138, hs_139, hs_140, hs_141⟩ := hR_34
      refine nT ⟨(hS.weak (ms := [(1, .cells b [iv xv.Ring, .slice p xv.Starts.length c, .slice p_1 xv.Events.length c_1] 25), (2, .cells b_1 [iv p_2.Pre, iv p_2.Home, iv p_2.First, iv p_2.Send] 49)]) ⟨rfl, rfl, trivial⟩).weakD hlev_34 hle0, ?_⟩
      refine stepV (i := 28) rfl hF (fun w hS => Y.move hF rfl) rfl fun a hF => stepV (i := 29) rfl hF (fun w hS => Y.extract hF rfl rfl) rfl fun a hF => stepV (i := 30) rfl hF (fun w hS => Y.extract hF rfl rfl) rfl fun a hF => oneV (i := 32) rfl ?_ trivial
      refine O.store (us := [iv rv_5.1.line.SlaveLine.Ring, .slice p_139 rv_5.1.line.SlaveLine.Starts.length c_138, .slice p_140 rv_5.1.line.SlaveLine.Events.length c_139, .slice p_141 rv_5.1.line.without.length c_140, .slice p_142 rv_5.1.states.length c_141, iv rv_5.1.minute]) 3 sz_116 hF rfl rfl rfl rfl hS rfl rfl fun a w hF hS => nT ⟨(hS.weak (ms := [(1, .cells b [iv xv.Ring, .slice p xv.Starts.length c, .slice p_1 xv.Events.length c_1] 25), (2, .cells b_1 [iv p_2.Pre, iv p_2.Home, iv p_2.First, iv p_2.Send] 49)]) ⟨rfl, rfl, trivial⟩).weakD hlev_34 hle0, ?_⟩
      refine stepV (i := 33) rfl hF (fun w hS => Y.assign hF rfl) rfl fun a hF => toTailV ⟨_, Dv_35, b_36, p_139, c_138, p_140, c_139, p_141, c_140, p_142, c_141, hlev_34, hF.weak (AF rfl), hS.weak (AL rfl), hs_138, hs_139, hs_140, hs_141, hq⟩
    refine oneV (i := 31) rfl ?_ trivial
    refine O.alloc 3 zc_116 hF hS rfl fun b_37 a w hF hS => nT ⟨hS.weak ⟨rfl, rfl, trivial⟩, ?_⟩
    refine oneV (i := 6) rfl ?_ trivial
    refine O.callP (us := [iv minute, iv 0, iv (wr (xv.Ring - 1))]) ca_60 hF hS (slave_within_ok hS.stab minute 0 (wr (xv.Ring - 1)) rv hx) rfl rfl fun a w hF hS => nT ⟨hS.weak ⟨rfl, rfl, trivial⟩, ?_⟩
    refine stepV (i := 7) rfl hF (fun w hS => Y.move hF rfl) rfl fun a hF => stepV_off (i := 8) rfl hF rfl rfl hbv rfl fun a hF => stepV_off (i := 9) rfl hF rfl rfl hbv rfl fun a hF => oneV (i := 10) rfl ?_ trivial
    refine guard_off hF rfl rfl hbv rfl fun a hF => nT ⟨hS.weak ⟨rfl, rfl, trivial⟩, ?_⟩
    refine stepV (i := 11) rfl hF (fun w hS => Y.pick_f hF rfl hbv rfl) rfl fun a hF => stepV (i := 12) rfl hF (fun w hS => Y.move hF rfl) rfl fun a hF => stepV_off (i := 13) rfl hF rfl rfl rfl rfl fun a hF => stepV_off (i := 14) rfl hF rfl rfl rfl rfl fun a hF => oneV (i := 15) rfl ?_ trivial
    refine guard_off hF rfl rfl rfl rfl fun a hF => nT ⟨hS.weak ⟨rfl, rfl, trivial⟩, ?_⟩
    refine stepV (i := 16) rfl hF (fun w hS => Y.pick_f hF rfl rfl rfl) rfl fun a hF => stepV (i := 17) rfl hF (fun w hS => Y.move hF rfl) rfl fun a hF => stepV_off (i := 18) rfl hF rfl rfl rfl rfl fun a hF => stepV_off (i := 19) rfl hF rfl rfl rfl rfl fun a hF => oneV (i := 20) rfl ?_ trivial
    refine guard_off hF rfl rfl rfl rfl fun a hF => nT ⟨hS.weak ⟨rfl, rfl, trivial⟩, ?_⟩
    refine stepV (i := 21) rfl hF (fun w hS => Y.pick_f hF rfl rfl rfl) rfl fun a hF => stepV (i := 22) rfl hF (fun w hS => Y.move hF rfl) rfl fun a hF => stepV_off (i := 23) rfl hF rfl rfl rfl rfl fun a hF => stepV_off (i := 24) rfl hF rfl rfl rfl rfl fun a hF => oneV (i := 25) rfl ?_ trivial
    refine guard_off hF rfl rfl rfl rfl fun a hF => nT ⟨hS.weak ⟨rfl, rfl, trivial⟩, ?_⟩
    refine stepV (i := 26) rfl hF (fun w hS => Y.pick_f hF rfl rfl rfl) rfl fun a hF => oneV (i := 27) rfl ?_ trivial
    refine O.callSN (us := [.agg #[iv xv.Ring, .slice p xv.Starts.length c, .slice p_1 xv.Events.length c_1], iv minute, .bool false]) ca_74 hF hS (slave_opened_ok hS.stab xv minute false hs hs_1 hG KQ hx_5) rfl rfl fun rv_5 hq v_35 Dv_36 a w hR_35 hlev_35 hF hS => ?_
    obtain ⟨p_143, c_142, p_144, c_143, p_145, c_144, p_146, c_145, rfl, hs_142, hs_143, hs_144, hs_145⟩ := hR_35
    refine nT ⟨(hS.weak (ms := [(1, .cells b [iv xv.Ring, .slice p xv.Starts.length c, .slice p_1 xv.Events.length c_1] 25), (2, .cells b_1 [iv p_2.Pre, iv p_2.Home, iv p_2.First, iv p_2.Send] 49)]) ⟨rfl, rfl, trivial⟩).weakD hlev_35 hle0, ?_⟩
    refine stepV (i := 28) rfl hF (fun w hS => Y.move hF rfl) rfl fun a hF => stepV (i := 29) rfl hF (fun w hS => Y.extract hF rfl rfl) rfl fun a hF => stepV (i := 30) rfl hF (fun w hS => Y.extract hF rfl rfl) rfl fun a hF => oneV (i := 32) rfl ?_ trivial
    refine O.store (us := [iv rv_5.1.line.SlaveLine.Ring, .slice p_143 rv_5.1.line.SlaveLine.Starts.length c_142, .slice p_144 rv_5.1.line.SlaveLine.Events.length c_143, .slice p_145 rv_5.1.line.without.length c_144, .slice p_146 rv_5.1.states.length c_145, iv rv_5.1.minute]) 3 sz_116 hF rfl rfl rfl rfl hS rfl rfl fun a w hF hS => nT ⟨(hS.weak (ms := [(1, .cells b [iv xv.Ring, .slice p xv.Starts.length c, .slice p_1 xv.Events.length c_1] 25), (2, .cells b_1 [iv p_2.Pre, iv p_2.Home, iv p_2.First, iv p_2.Send] 49)]) ⟨rfl, rfl, trivial⟩).weakD hlev_35 hle0, ?_⟩
    refine stepV (i := 33) rfl hF (fun w hS => Y.assign hF rfl) rfl fun a hF => toTailV ⟨_, Dv_36, b_37, p_143, c_142, p_144, c_143, p_145, c_144, p_146, c_145, hlev_35, hF.weak (AF rfl), hS.weak (AL rfl), hs_142, hs_143, hs_144, hs_145, hq⟩
 rintro a w ⟨rv_5, Dv_1, b_2, p_3, c_2, p_4, c_3, p_5, c_4, p_6, c_5, hle, hF, hS, hj, hj_1, hj_2, hj_3, h⟩
 replace h := hk _ h
 have hlev_36 := hle
 refine nT (seq (seq (region (step hF (Y.move hF rfl) rfl fun a hF => step hF (Y.neq hF rfl rfl) rfl fun a hF => nT (cond_b hF rfl (fun hbv_4 => ?_) (fun hbv_4 => ?_))))))
 ·replace h := ncond_t h hbv_4
  refine seq (region (step hF (Y.move hF rfl) rfl fun a hF => step hF (Y.assign hF rfl) rfl fun a hF => step hF (Y.assign hF rfl) rfl fun a hF => nT (ret_ (then_r (leavePN _ (nret h) Tryd.results32 hF hS (.cons (.tmp rfl) (.cons (.tmp rfl) .nil)) .nil rfl)))))
 replace h := ncond_f h hbv_4
 refine skip_ (then_n (seq (region (step hF (Y.loadNL 3 sz_116 hF rfl hS rfl rfl rfl) rfl fun a hF => step hF (Y.loadNL 2 sz_49 hF rfl hS rfl rfl rfl) rfl fun a hF => ?_))))
 obtain ⟨rv_6, hx_6, h⟩ := ndet h
 refine O.callP (us := [.agg #[iv rv_5.1.line.SlaveLine.Ring, .slice p_3 rv_5.1.line.SlaveLine.Starts.length c_2, .slice p_4 rv_5.1.line.SlaveLine.Events.length c_3, .slice p_5 rv_5.1.line.without.length c_4, .slice p_6 rv_5.1.states.length c_5, iv rv_5.1.minute], .agg #[iv p_2.Pre, iv p_2.Home, iv p_2.First, iv p_2.Send]]) ca_77 hF hS (slave_setter_sets_ok hS.stab rv_5.1 p_2 hj hj_1 hj_2 hj_3 rv_6 hx_6) rfl rfl fun a w hF hS => step hF (Y.assign hF rfl) rfl fun a hF => step hF (Y.assign hF rfl) rfl fun a hF => nT (ret_ (leavePN _ (nret h) Tryd.results32 hF hS (.cons (.tmp rfl) (.cons (.tmp rfl) .nil)) .nil rfl))
noncomputable def slave_Set_1 (p : SlavePlan) (cv : slave_setter) : Option Bool :=
  (slave_setter_sets cv p).bind fun rv =>
  some rv
theorem slave_Set_1_ok {w0 : World} {D0 : Stab} (hD : D0.on w0) (p : SlavePlan) (cv : slave_setter) {p_1 : Option Addr} {c : Nat} {p_2 : Option Addr} {c_1 : Nat} {p_3 : Option Addr} {c_2 : Nat} {p_4 : Option Addr} {c_3 : Nat} {bb : Nat} (hs : SRc C_SlaveStart D0 cv.line.SlaveLine.Starts p_1 c) (hs_1 : SRc C_SlaveEvent D0 cv.line.SlaveLine.Events p_2 c_1) (hs_2 : SRc C_int D0 cv.line.without p_3 c_2) (hs_3 : SRc C_SlaveStart D0 cv.states p_4 c_3) (hbv : w0.heap[bb]? = some (.cells ([.func (.func 77) #[.agg #[iv cv.line.SlaveLine.Ring, .slice p_1 cv.line.SlaveLine.Starts.length c, .slice p_2 cv.line.SlaveLine.Events.length c_1, .slice p_3 cv.line.without.length c_2, .slice p_4 cv.states.length c_3, iv cv.minute]] #[]]).toArray 122 (0, 0))) (out : Bool) (h : slave_Set_1 p cv = some out) : Calls Tryd.prog 79 [.agg #[iv p.Pre, iv p.Home, iv p.First, iv p.Send], .pointer (some ⟨bb, 0, none⟩)].toArray w0 (RetP D0 w0 (.bool out)) := by
 refine enter _ 7 Tryd.func79 rfl Tryd.ntmps79 rfl fun a hF => ?_
 replace hF : Frm 7 [] [(0, .agg #[iv p.Pre, iv p.Home, iv p.First, iv p.Send]), (1, .pointer (some ⟨bb, 0, none⟩))] a := hF
 have hS := St.start hD
 unfold slave_Set_1 at h
 refine seq (region (O.box (cs := [iv p.Pre, iv p.Home, iv p.First, iv p.Send]) 2 hF rfl rfl hS rfl fun b a w hF hS => step hF (Y.assign hF rfl) rfl fun a hF => nT (seq (region (step hF (Y.load1H sz_122 hF rfl (hS.old hbv) rfl) rfl fun a hF => step hF (Y.loadNL 2 sz_49 hF rfl hS rfl rfl rfl) rfl fun a hF => ?_)))))
 obtain ⟨rv, hx, h⟩ := bind_some h
 refine O.callVP (f := 77) (first := [.agg #[iv cv.line.SlaveLine.Ring, .slice p_1 cv.line.SlaveLine.Starts.length c, .slice p_2 cv.line.SlaveLine.Events.length c_1, .slice p_3 cv.line.without.length c_2, .slice p_4 cv.states.length c_3, iv cv.minute]]) (cap := []) (us := [.agg #[iv p.Pre, iv p.Home, iv p.First, iv p.Send]]) ca_77 hF hS rfl rfl (slave_setter_sets_ok hS.stab cv p hs hs_1 hs_2 hs_3 rv hx) rfl fun a w hF hS => step hF (Y.assign hF rfl) rfl fun a hF => nT (ret_ ?_)
 obtain rfl := some_inj h
 exact leaveP Tryd.results79 hF hS (.cons (.tmp rfl) .nil) .nil rfl
noncomputable def slave_first_k4 (byv : slave_order) (pre : Int) (v14_0 : Int) (v5_2 : Bool) (v17_0 : Int) (z_8 : Int) (z_9 : Int) (z_10 : Int) (z_11 : Int) (z_12 : Int) : Option ((Bool × Int × Int × Int × Int × Int) ⊕ ((Bool × Int × Int × Int × Int × Int) ⊕ ((Bool × Int × Int × Int × Int × Int) ⊕ (SlavePlan × Bool)))) :=
  (slave_within z_12 0 60).bind fun rv =>
  (cond rv ((byv.takes (SlavePlan.mk pre v14_0 v17_0 z_12)).bind fun rv_1 =>
  some rv_1) (some false)).bind fun t =>
  cond t
  (ext (ext (ext (some ((SlavePlan.mk pre v14_0 v17_0 z_12), true)))))
  (nxt (v5_2, wr (v17_0 + 1), z_8, z_9, z_10, z_11))
noncomputable def slave_first_b3 (pulses : Int) (byv : slave_order) (pre : Int) (v14_0 : Int) : (Bool × Int × Int × Int × Int × Int) → Option ((Bool × Int × Int × Int × Int × Int) ⊕ ((Bool × Int × Int × Int × Int × Int) ⊕ ((Bool × Int × Int × Int × Int × Int) ⊕ (SlavePlan × Bool))))
 | (v5_2, v17_0, z_8, z_9, z_10, z_11) =>
  cond (decide (v17_0 < 2))
  (cond (pre != (-1))
  (slave_first_k4 byv pre v14_0 v5_2 v17_0 z_8 z_9 z_10 z_11 (wr ((wr (pulses - v14_0)) - 1)))
  (slave_first_k4 byv pre v14_0 v5_2 v17_0 z_8 z_9 z_10 z_11 (wr (pulses - v14_0))))
  (ext (nxt (v5_2, wr (v14_0 + 1), z_8, z_9, z_10, z_11)))
noncomputable def slave_first_b2 (pulses : Int) (byv : slave_order) (pre : Int) : (Bool × Int × Int × Int × Int × Int) → Option ((Bool × Int × Int × Int × Int × Int) ⊕ ((Bool × Int × Int × Int × Int × Int) ⊕ (SlavePlan × Bool)))
 | (v5_1, v14_0, z_4, z_5, z_6, z_7) =>
  cond (decide (v14_0 < 61))
  (loopU (slave_first_b3 pulses byv pre v14_0) (v5_1, 0, z_4, z_5, z_6, z_7))
  (ext (nxt (v5_1, wr (pre + 1), z_4, z_5, z_6, z_7)))
noncomputable def slave_first_b1 (pulses : Int) (byv : slave_order) : (Bool × Int × Int × Int × Int × Int) → Option ((Bool × Int × Int × Int × Int × Int) ⊕ (SlavePlan × Bool))
 | (v5_0, pre, z, z_1, z_2, z_3) =>
  cond (decide (pre ≤ 1))
  (loopU (slave_first_b2 pulses byv pre) (v5_0, 0, z, z_1, z_2, z_3))
  (ext (some ((SlavePlan.mk 0 0 0 0), false)))
noncomputable def slave_first (pulses : Int) (byv : slave_order) : Option (SlavePlan × Bool) :=
  loopU (slave_first_b1 pulses byv) (false, -1, 0, 0, 0, 0)
theorem slave_first_ok {w0 : World} {D0 : Stab} (hD : D0.on w0) (pulses : Int) (byv : slave_order) {fid : FuncId} {first : List Value} {cap : List Value} (hf : FnOk_122 w0 D0 fid first cap byv.takes) (out : (SlavePlan × Bool)) (h : slave_first pulses byv = some out) : Calls Tryd.prog 80 [iv pulses, .agg #[.func (.func fid) first.toArray cap.toArray]].toArray w0 (RetP D0 w0 (.tuple #[.agg #[iv out.1.Pre, iv out.1.Home, iv out.1.First, iv out.1.Send], .bool out.2])) := by
 refine enter _ 46 Tryd.func80 rfl Tryd.ntmps80 rfl fun a hF => ?_
 replace hF : Frm 46 [] [(0, iv pulses), (1, .agg #[.func (.func fid) first.toArray cap.toArray])] a := hF
 have hS := St.start hD
 unfold slave_first at h
 refine seq (region (O.box (cs := [.func (.func fid) first.toArray cap.toArray]) 1 hF rfl rfl hS rfl fun b a w hF hS => O.alloc 2 zc_49 hF hS rfl fun b_1 a w hF hS => step hF (Y.assign hF rfl) rfl fun a hF => nT (seq (seq (region (step hF (Y.assign hF rfl) rfl fun a hF => nT (block (loop_cut (body := slave_first_b1 pulses byv) (out := out) (fun s a w => ∃ (v5_0 : Bool) (pre : Int) (z : Int) (z_1 : Int) (z_2 : Int) (z_3 : Int), ∃ (Dv : Stab), s = (v5_0, pre, z, z_1, z_2, z_3) ∧ D0.le Dv ∧ Frm 46 [] [(0, iv pulses), (3, .pointer (some ⟨b, 0, none⟩)), (4, .pointer (some ⟨b_1, 0, none⟩)), (5, .bool v5_0), (6, iv pre)] a ∧ St w0 D0 Dv [(1, .cells b [.func (.func fid) first.toArray cap.toArray] 125), (2, .cells b_1 [iv z, iv z_1, iv z_2, iv z_3] 49)] w) (false, -1, 0, 0, 0, 0) h ⟨false, (-1), 0, 0, 0, 0, D0, rfl, Stab.le.refl _, hF.weak (AF rfl), hS.weak ⟨rfl, rfl, trivial⟩⟩ ?_))))))))
 rintro s a w xo ⟨v5_0, pre, z, z_1, z_2, z_3, Dv, rfl, hlev, hF, hS⟩ h hxo
 unfold slave_first_b1 at h
 dsimp only at h
 refine seq (seq (region (step hF (Y.move hF rfl) rfl fun a hF => step hF (Y.leq hF rfl rfl) rfl fun a hF => nT (cond_b hF rfl (fun hbv => ?_) (fun hbv => ?_)))))
 ·replace h := cond_t h hbv
  refine skip_ (then_n (seq (block (seq (region (step hF (Y.move hF rfl) rfl fun a hF => nT (block (loop_cut (body := slave_first_b2 pulses byv pre) (out := xo) (fun s a w => ∃ (v5_1 : Bool) (v14_0 : Int) (z_4 : Int) (z_5 : Int) (z_6 : Int) (z_7 : Int), ∃ (Dv_1 : Stab), s = (v5_1, v14_0, z_4, z_5, z_6, z_7) ∧ Dv.le Dv_1 ∧ Frm 46 [] [(0, iv pulses), (3, .pointer (some ⟨b, 0, none⟩)), (4, .pointer (some ⟨b_1, 0, none⟩)), (5, .bool v5_1), (6, iv pre), (14, iv v14_0)] a ∧ St w0 D0 Dv_1 [(1, .cells b [.func (.func fid) first.toArray cap.toArray] 125), (2, .cells b_1 [iv z_4, iv z_5, iv z_6, iv z_7] 49)] w) (v5_0, 0, z, z_1, z_2, z_3) h ⟨v5_0, 0, z, z_1, z_2, z_3, Dv, rfl, Stab.le.refl _, hF.weak (AF rfl), hS.weak ⟨rfl, rfl, trivial⟩⟩ ?_))))))))
  rintro s a w xo_1 ⟨v5_1, v14_0, z_4, z_5, z_6, z_7, Dv_1, rfl, hlev_1, hF, hS⟩ h hxo_1
  unfold slave_first_b2 at h
  dsimp only at h
  refine seq (region (step hF (Y.lss hF rfl rfl) rfl fun a hF => nT (seq (cond_b hF rfl (fun hbv_1 => ?_) (fun hbv_1 => ?_)))))
  ·replace h := cond_t h hbv_1
   refine skip_ (then_n (seq (block (seq (region (step hF (Y.move hF rfl) rfl fun a hF => step hF (Y.assign hF rfl) rfl fun a hF => nT (seq (region (step hF (Y.move hF rfl) rfl fun a hF => nT (block (loop_cut (body := slave_first_b3 pulses byv pre v14_0) (out := xo_1) (fun s a w => ∃ (v5_2 : Bool) (v17_0 : Int) (z_8 : Int) (z_9 : Int) (z_10 : Int) (z_11 : Int), ∃ (Dv_2 : Stab), s = (v5_2, v17_0, z_8, z_9, z_10, z_11) ∧ Dv_1.le Dv_2 ∧ Frm 46 [] [(0, iv pulses), (3, .pointer (some ⟨b, 0, none⟩)), (4, .pointer (some ⟨b_1, 0, none⟩)), (5, .bool v5_2), (6, iv pre), (7, iv v14_0), (14, iv v14_0), (17, iv v17_0)] a ∧ St w0 D0 Dv_2 [(1, .cells b [.func (.func fid) first.toArray cap.toArray] 125), (2, .cells b_1 [iv z_8, iv z_9, iv z_10, iv z_11] 49)] w) (v5_1, 0, z_4, z_5, z_6, z_7) h ⟨v5_1, 0, z_4, z_5, z_6, z_7, Dv_1, rfl, Stab.le.refl _, hF.weak (AF rfl), hS.weak ⟨rfl, rfl, trivial⟩⟩ ?_)))))))))))
   rintro s a w xo_2 ⟨v5_2, v17_0, z_8, z_9, z_10, z_11, Dv_2, rfl, hlev_2, hF, hS⟩ h hxo_2
   unfold slave_first_b3 at h
   dsimp only at h
   refine seq (region (step hF (Y.lss hF rfl rfl) rfl fun a hF => nT (seq (cond_b hF rfl (fun hbv_2 => ?_) (fun hbv_2 => ?_)))))
   ·replace h := cond_t h hbv_2
    refine skip_ (then_n (seq (block (seq (region (step hF (Y.move hF rfl) rfl fun a hF => step hF (Y.assign hF rfl) rfl fun a hF => nT (seq (region (step hF (Y.move hF rfl) rfl fun a hF => step hF (Y.move hF rfl) rfl fun a hF => step hF (Y.move hF rfl) rfl fun a hF => step hF (Y.move hF rfl) rfl fun a hF => step hF (Y.move hF rfl) rfl fun a hF => step hF (Y.sub hF rfl rfl) rfl fun a hF => step hF (Y.build (parts := [(0, (.tmp 20)), (1, (.tmp 21)), (2, (.tmp 22)), (3, (.tmp 25))]) (cs := #[iv pre, iv v14_0, iv v17_0, iv (wr (pulses - v14_0))]) hF rfl (by kernel_rfl)) rfl fun a hF => O.alloc 3 zc_49 hF hS rfl fun b_2 a w hF hS => O.store (us := [iv pre, iv v14_0, iv v17_0, iv (wr (pulses - v14_0))]) 3 sz_49 hF rfl rfl rfl rfl hS rfl rfl fun a w hF hS => nT (seq_cut (fun a w => ∃ (z_12 : Int), Frm 46 [] [(0, iv pulses), (3, .pointer (some ⟨b, 0, none⟩)), (4, .pointer (some ⟨b_1, 0, none⟩)), (5, .bool v5_2), (6, iv pre), (7, iv v14_0), (9, .pointer (some ⟨b_2, 0, none⟩)), (14, iv v14_0), (17, iv v17_0)] a ∧ St w0 D0 Dv_2 [(1, .cells b [.func (.func fid) first.toArray cap.toArray] 125), (2, .cells b_1 [iv z_8, iv z_9, iv z_10, iv z_11] 49), (3, .cells b_2 [iv pre, iv v14_0, iv v17_0, iv z_12] 49)] w ∧ slave_first_k4 byv pre v14_0 v5_2 v17_0 z_8 z_9 z_10 z_11 z_12 = some xo_2) ?_ ?_))))))))))
    ·skip
     refine seq (region (step hF (Y.move hF rfl) rfl fun a hF => step hF (Y.neq hF rfl rfl) rfl fun a hF => nT (cond_b hF rfl (fun hbv_5 => ?_) (fun hbv_5 => ?_))))
     ·replace h := cond_t h hbv_5
      refine region (step hF (Y.fieldAddr fo_49_3 hF rfl) rfl fun a hF => step hF (Y.load1L 3 sz_3 hF rfl hS rfl rfl) rfl fun a hF => step hF (Y.sub hF rfl rfl) rfl fun a hF => step hF (Y.fieldAddr fo_49_3 hF rfl) rfl fun a hF => O.store (us := [iv (wr ((wr (pulses - v14_0)) - 1))]) 3 sz_3 hF rfl rfl rfl rfl hS rfl rfl fun a w hF hS => nT (⟨(wr ((wr (pulses - v14_0)) - 1)), hF.weak (AF rfl), hS.weak (AL rfl), h⟩))
     replace h := cond_f h hbv_5
     refine skip_ (then_n (⟨(wr (pulses - v14_0)), hF.weak (AF rfl), hS.weak (AL rfl), h⟩))
    rintro a w ⟨z_12, hF, hS, h⟩
    unfold slave_first_k4 at h
    refine seq (region (step hF (Y.fieldAddr fo_49_3 hF rfl) rfl fun a hF => step hF (Y.load1L 3 sz_3 hF rfl hS rfl rfl) rfl fun a hF => ?_))
    obtain ⟨rv, hx, h⟩ := bind_some h
    refine O.callP (us := [iv z_12, iv 0, iv 60]) ca_60 hF hS (slave_within_ok hS.stab z_12 0 60 rv hx) rfl rfl fun a w hF hS => step hF (Y.move hF rfl) rfl fun a hF => ?_
    obtain ⟨t, ht, h⟩ := bind_some h
    refine join (N := 46) (rs := []) (w0 := w0) (D0 := D0) 5 (us := [(0, iv pulses), (3, .pointer (some ⟨b, 0, none⟩)), (4, .pointer (some ⟨b_1, 0, none⟩)), (5, .bool v5_2), (6, iv pre), (7, iv v14_0), (9, .pointer (some ⟨b_2, 0, none⟩)), (14, iv v14_0), (17, iv v17_0), (41, .bool t)]) (ms := [(1, .cells b [.func (.func fid) first.toArray cap.toArray] 125), (2, .cells b_1 [iv z_8, iv z_9, iv z_10, iv z_11] 49), (3, .cells b_2 [iv pre, iv v14_0, iv v17_0, iv z_12] 49)]) (D' := Dv_2) ?_ ?_
    ·rcases bcases rv with hbv_3 | hbv_3
     ·skip
      replace h := cond_t ht hbv_3
      refine guard_on hF rfl rfl hbv_3 (step hF (Y.fieldAddr fo_125_0 hF rfl) rfl fun a hF => guard_on hF rfl rfl hbv_3 (step hF (Y.load1L 1 sz_122 hF rfl hS rfl rfl) rfl fun a hF => guard_on hF rfl rfl hbv_3 (step hF (Y.loadNL 3 sz_49 hF rfl hS rfl rfl rfl) rfl fun a hF => guard_on hF rfl rfl hbv_3 ?_)))
      obtain ⟨rv_1, hx_1, h⟩ := bind_some h
      refine O.callVP (f := fid) (first := first) (cap := cap) (us := [.agg #[iv pre, iv v14_0, iv v17_0, iv z_12]]) hf.1 hF hS rfl rfl (hf.2 _ _ hS.below hS.le hS.stab (SlavePlan.mk pre v14_0 v17_0 z_12) rv_1 hx_1) rfl fun a w hF hS => step hF (Y.pick_t hF rfl hbv_3 rfl) rfl fun a hF => ?_
      obtain rfl := some_inj h
      exact nT ⟨hF.weak (AF rfl), hS.weak (AL rfl)⟩
     replace h := cond_f ht hbv_3
     refine guard_off hF rfl rfl hbv_3 rfl fun a hF => guard_off hF rfl rfl hbv_3 rfl fun a hF => guard_off hF rfl rfl hbv_3 rfl fun a hF => guard_off hF rfl rfl hbv_3 rfl fun a hF => step hF (Y.pick_f hF rfl hbv_3 rfl) rfl fun a hF => ?_
     obtain rfl := some_inj h
     exact nT ⟨hF.weak (AF rfl), hS.weak (AL rfl)⟩
    intro a w hF hS
    refine nT (cond_b hF rfl (fun hbv_4 => ?_) (fun hbv_4 => ?_))
    ·replace h := cond_t h hbv_4
     refine seq (region (step hF (Y.loadNL 3 sz_49 hF rfl hS rfl rfl rfl) rfl fun a hF => O.store (us := [iv pre, iv v14_0, iv v17_0, iv z_12]) 2 sz_49 hF rfl rfl rfl rfl hS rfl rfl fun a w hF hS => step hF (Y.assign hF rfl) rfl fun a hF => nT (ret_ (blk_r (then_r (then_r (blk_r (blk_r (then_r (then_r (blk_r (blk_r (then_r (then_r (blk_r (then_r ?_))))))))))))))))
     replace h := ext_some h hxo_2
     replace h := ext_some h hxo_1
     replace h := ext_some h hxo
     obtain rfl := some_inj h
     exact leaveP Tryd.results80 hF hS (.cons (.cellN 2 sz_49 rfl rfl rfl) (.cons (.tmp rfl) .nil)) .nil rfl
    replace h := cond_f h hbv_4
    refine skip_ (blk_n (then_n (region (step hF (Y.add hF rfl rfl) rfl fun a hF => step hF (Y.move hF rfl) rfl fun a hF => nT (⟨_, nxt_some h, v5_2, (wr (v17_0 + 1)), z_8, z_9, z_10, z_11, Dv_2, rfl, hlev_2, hF.weak (AF rfl), hS.weak ⟨rfl, rfl, trivial⟩⟩)))))
   replace h := cond_f h hbv_2
   refine exit_ (then_x (then_x (blk_hit (blk_n (then_n ?_)))))
   replace h := ext_some h hxo_2
   refine region (step hF (Y.add hF rfl rfl) rfl fun a hF => step hF (Y.move hF rfl) rfl fun a hF => nT (⟨_, nxt_some h, v5_2, (wr (v14_0 + 1)), z_8, z_9, z_10, z_11, Dv_2, rfl, hlev_1.trans hlev_2, hF.weak (AF rfl), hS.weak ⟨rfl, rfl, trivial⟩⟩))
  replace h := cond_f h hbv_1
  refine exit_ (then_x (then_x (blk_hit (blk_n (then_n ?_)))))
  replace h := ext_some h hxo_1
  refine region (step hF (Y.move hF rfl) rfl fun a hF => step hF (Y.add hF rfl rfl) rfl fun a hF => step hF (Y.assign hF rfl) rfl fun a hF => nT (⟨_, nxt_some h, v5_1, (wr (pre + 1)), z_4, z_5, z_6, z_7, Dv_1, rfl, hlev.trans hlev_1, hF.weak (AF rfl), hS.weak ⟨rfl, rfl, trivial⟩⟩))
 replace h := cond_f h hbv
 refine exit_ (then_x (then_x (blk_hit (then_n ?_))))
 replace h := ext_some h hxo
 refine seq (region (step hF (Y.build (parts := []) (cs := #[iv 0, iv 0, iv 0, iv 0]) hF rfl (by kernel_rfl)) rfl fun a hF => O.store (us := [iv 0, iv 0, iv 0, iv 0]) 2 sz_49 hF rfl rfl rfl rfl hS rfl rfl fun a w hF hS => step hF (Y.assign hF rfl) rfl fun a hF => nT (ret_ ?_)))
 obtain rfl := some_inj h
 exact leaveP Tryd.results80 hF hS (.cons (.cellN 2 sz_49 rfl rfl rfl) (.cons (.tmp rfl) .nil)) .nil rfl
noncomputable def slave_Set_b1 (rv_1 : (slave_setter × Int)) : (Int × Int × Int × Int × Int × Int) → ND ((Int × Int × Int × Int × Int × Int) ⊕ (SlavePlan × Int))
 | (v5_0, v32_0, z, z_1, z_2, z_3) =>
  cond (decide (v32_0 < 122))
  ((ND.det (slave_first v32_0 (slave_order.mk (fun q_z => slave_Set_1 q_z rv_1.1))) fun rv_2 =>
  cond rv_2.2
  (next_ (ND.ret (rv_2.1, 0)))
  (nnxt (v5_0, wr (v32_0 + 1), z, z_1, z_2, z_3))))
  (next_ (ND.ret ((SlavePlan.mk 0 0 0 0), 4)))
noncomputable def slave_Set (xv : SlaveLine) (minute : Int) : ND (SlavePlan × Int) :=
  (ND.det (slave_within minute 0 (wr (xv.Ring - 1))) fun rv =>
  (ND.bnd (slave_opened xv minute rv) fun rv_1 =>
  cond (rv_1.2 != 0)
  (ND.ret ((SlavePlan.mk 0 0 0 0), rv_1.2))
  (loopN (slave_Set_b1 rv_1) (0, 0, 0, 0, 0, 0))))
theorem slave_Set_ok {w0 : World} {D0 : Stab} (hD : D0.on w0) (xv : SlaveLine) (minute : Int) {p : Option Addr} {c : Nat} {p_1 : Option Addr} {c_1 : Nat} (hs : SRc C_SlaveStart D0 xv.Starts p c) (hs_1 : SRc C_SlaveEvent D0 xv.Events p_1 c_1) (hG : Glob D0) (out : (SlavePlan × Int) → Prop) (h : slave_Set xv minute out) : Calls Tryd.prog 34 [.agg #[iv xv.Ring, .slice p xv.Starts.length c, .slice p_1 xv.Events.length c_1], iv minute].toArray w0 (RetPN D0 w0 out fun (out : (SlavePlan × Int)) => .tuple #[.agg #[iv out.1.Pre, iv out.1.Home, iv out.1.First, iv out.1.Send], iv out.2]) := by
 refine enter _ 45 Tryd.func34 rfl Tryd.ntmps34 rfl fun a hF => ?_
 replace hF : Frm 45 [] [(0, .agg #[iv xv.Ring, .slice p xv.Starts.length c, .slice p_1 xv.Events.length c_1]), (1, iv minute)] a := hF
 have hS := St.start hD
 unfold slave_Set at h
 refine seq (region (O.box (cs := [iv xv.Ring, .slice p xv.Starts.length c, .slice p_1 xv.Events.length c_1]) 1 hF rfl rfl hS rfl fun b a w hF hS => O.alloc 2 zc_49 hF hS rfl fun b_1 a w hF hS => step hF (Y.assign hF rfl) rfl fun a hF => nT (seq ?_)))
 obtain ⟨rv, hx, h⟩ := ndet h
 obtain ⟨KQ, hx_1, hk⟩ := nbnd_ex h
 refine drawsV 14 (.flt 0 (.flt 1 (.flt 2 (.flt 3 (.flt 4 (.flt 5 (.alt 6 (.alt 7 (.flt 8 (.flt 9 (.flt 10 (.alt 11 (.alt 12 (.flt 13 .done) .stop) .stop)))) (.alt 11 (.alt 7 (.flt 8 (.flt 9 (.flt 10 (.alt 12 (.flt 13 .done) .stop)))) .stop) .stop)) (.alt 11 (.alt 6 (.alt 7 (.flt 8 (.flt 9 (.flt 10 (.alt 12 (.flt 13 .done) .stop)))) .stop) .stop) .stop)))))))) mixed_ (by kernel_rfl) (fun w => St w0 D0 D0 [(1, .cells b [iv xv.Ring, .slice p xv.Starts.length c, .slice p_1 xv.Events.length c_1] 25), (2, .cells b_1 [iv 0, iv 0, iv 0, iv 0] 49)] w) (fun a w => ∃ (rv_1 : (slave_setter × Int)), ∃ (Dv_1 : Stab) (b_2 : Nat) (p_2 : Option Addr) (c_2 : Nat) (p_3 : Option Addr) (c_3 : Nat) (p_4 : Option Addr) (c_4 : Nat) (p_5 : Option Addr) (c_5 : Nat), D0.le Dv_1 ∧ Frm 45 [] [(4, .pointer (some ⟨b_1, 0, none⟩)), (5, iv 0), (6, .pointer (some ⟨b_2, 0, none⟩)), (7, iv rv_1.2)] a ∧ St w0 D0 Dv_1 [(1, .cells b [iv xv.Ring, .slice p xv.Starts.length c, .slice p_1 xv.Events.length c_1] 25), (2, .cells b_1 [iv 0, iv 0, iv 0, iv 0] 49), (3, .cells b_2 [iv rv_1.1.line.SlaveLine.Ring, .slice p_2 rv_1.1.line.SlaveLine.Starts.length c_2, .slice p_3 rv_1.1.line.SlaveLine.Events.length c_3, .slice p_4 rv_1.1.line.without.length c_4, .slice p_5 rv_1.1.states.length c_5, iv rv_1.1.minute] 116)] w ∧ SRc C_SlaveStart Dv_1 rv_1.1.line.SlaveLine.Starts p_2 c_2 ∧ SRc C_SlaveEvent Dv_1 rv_1.1.line.SlaveLine.Events p_3 c_3 ∧ SRc C_int Dv_1 rv_1.1.line.without p_4 c_4 ∧ SRc C_SlaveStart Dv_1 rv_1.1.states p_5 c_5 ∧ KQ rv_1) (hS.weak (ms := [(1, .cells b [iv xv.Ring, .slice p xv.Starts.length c, .slice p_1 xv.Events.length c_1] 25), (2, .cells b_1 [iv 0, iv 0, iv 0, iv 0] 49)]) ⟨rfl, rfl, trivial⟩).drew (fun _ _ _ _ h => h) ?_ ?_
 ·replace hS := hS.drew
  have hle0 := hS.le
  refine stepV (i := 0) rfl hF (fun w hS => Y.loadNL 1 sz_25 hF rfl hS rfl rfl rfl) rfl fun a hF => stepV (i := 1) rfl hF (fun w hS => Y.move hF rfl) rfl fun a hF => stepV (i := 2) rfl hF (fun w hS => Y.move hF rfl) rfl fun a hF => stepV (i := 3) rfl hF (fun w hS => Y.fieldAddr fo_25_0 hF rfl) rfl fun a hF => stepV (i := 4) rfl hF (fun w hS => Y.load1L 1 sz_3 hF rfl hS rfl rfl) rfl fun a hF => stepV (i := 5) rfl hF (fun w hS => Y.sub hF rfl rfl) rfl fun a hF => oneV (i := 6) rfl ?_ ?_
  ·skip
   refine O.callP (us := [iv minute, iv 0, iv (wr (xv.Ring - 1))]) ca_60 hF hS (slave_within_ok hS.stab minute 0 (wr (xv.Ring - 1)) rv hx) rfl rfl fun a w hF hS => nT ⟨hS.weak ⟨rfl, rfl, trivial⟩, ?_⟩
   refine oneV (i := 7) rfl ?_ ?_
   ·skip
    refine O.callSN (us := [.agg #[iv xv.Ring, .slice p xv.Starts.length c, .slice p_1 xv.Events.length c_1], iv minute, .bool rv]) ca_74 hF hS (slave_opened_ok hS.stab xv minute rv hs hs_1 hG KQ hx_1) rfl rfl fun rv_1 hq v_1 Dv_2 a w hR_1 hlev_1 hF hS => ?_
    obtain ⟨p_6, c_6, p_7, c_7, p_8, c_8, p_9, c_9, rfl, hs_6, hs_7, hs_8, hs_9⟩ := hR_1
    refine nT ⟨(hS.weak (ms := [(1, .cells b [iv xv.Ring, .slice p xv.Starts.length c, .slice p_1 xv.Events.length c_1] 25), (2, .cells b_1 [iv 0, iv 0, iv 0, iv 0] 49)]) ⟨rfl, rfl, trivial⟩).weakD hlev_1 hle0, ?_⟩
    refine stepV (i := 8) rfl hF (fun w hS => Y.move hF rfl) rfl fun a hF => stepV (i := 9) rfl hF (fun w hS => Y.extract hF rfl rfl) rfl fun a hF => stepV (i := 10) rfl hF (fun w hS => Y.extract hF rfl rfl) rfl fun a hF => oneV (i := 11) rfl ?_ trivial
    refine O.alloc 3 zc_116 hF hS rfl fun b_3 a w hF hS => nT ⟨(hS.weak (ms := [(1, .cells b [iv xv.Ring, .slice p xv.Starts.length c, .slice p_1 xv.Events.length c_1] 25), (2, .cells b_1 [iv 0, iv 0, iv 0, iv 0] 49)]) ⟨rfl, rfl, trivial⟩).weakD hlev_1 hle0, ?_⟩
    refine oneV (i := 12) rfl ?_ trivial
    refine O.store (us := [iv rv_1.1.line.SlaveLine.Ring, .slice p_6 rv_1.1.line.SlaveLine.Starts.length c_6, .slice p_7 rv_1.1.line.SlaveLine.Events.length c_7, .slice p_8 rv_1.1.line.without.length c_8, .slice p_9 rv_1.1.states.length c_9, iv rv_1.1.minute]) 3 sz_116 hF rfl rfl rfl rfl hS rfl rfl fun a w hF hS => nT ⟨(hS.weak (ms := [(1, .cells b [iv xv.Ring, .slice p xv.Starts.length c, .slice p_1 xv.Events.length c_1] 25), (2, .cells b_1 [iv 0, iv 0, iv 0, iv 0] 49)]) ⟨rfl, rfl, trivial⟩).weakD hlev_1 hle0, ?_⟩
    refine stepV (i := 13) rfl hF (fun w hS => Y.assign hF rfl) rfl fun a hF => toTailV ⟨_, Dv_2, b_3, p_6, c_6, p_7, c_7, p_8, c_8, p_9, c_9, hlev_1, hF.weak (AF rfl), hS.weak (AL rfl), hs_6, hs_7, hs_8, hs_9, hq⟩
   refine oneV (i := 11) rfl ?_ trivial
   refine O.alloc 3 zc_116 hF hS rfl fun b_4 a w hF hS => nT ⟨hS.weak ⟨rfl, rfl, trivial⟩, ?_⟩
   refine oneV (i := 7) rfl ?_ trivial
   refine O.callSN (us := [.agg #[iv xv.Ring, .slice p xv.Starts.length c, .slice p_1 xv.Events.length c_1], iv minute, .bool rv]) ca_74 hF hS (slave_opened_ok hS.stab xv minute rv hs hs_1 hG KQ hx_1) rfl rfl fun rv_1 hq v_2 Dv_3 a w hR_2 hlev_2 hF hS => ?_
   obtain ⟨p_10, c_10, p_11, c_11, p_12, c_12, p_13, c_13, rfl, hs_10, hs_11, hs_12, hs_13⟩ := hR_2
   refine nT ⟨(hS.weak (ms := [(1, .cells b [iv xv.Ring, .slice p xv.Starts.length c, .slice p_1 xv.Events.length c_1] 25), (2, .cells b_1 [iv 0, iv 0, iv 0, iv 0] 49)]) ⟨rfl, rfl, trivial⟩).weakD hlev_2 hle0, ?_⟩
   refine stepV (i := 8) rfl hF (fun w hS => Y.move hF rfl) rfl fun a hF => stepV (i := 9) rfl hF (fun w hS => Y.extract hF rfl rfl) rfl fun a hF => stepV (i := 10) rfl hF (fun w hS => Y.extract hF rfl rfl) rfl fun a hF => oneV (i := 12) rfl ?_ trivial
   refine O.store (us := [iv rv_1.1.line.SlaveLine.Ring, .slice p_10 rv_1.1.line.SlaveLine.Starts.length c_10, .slice p_11 rv_1.1.line.SlaveLine.Events.length c_11, .slice p_12 rv_1.1.line.without.length c_12, .slice p_13 rv_1.1.states.length c_13, iv rv_1.1.minute]) 3 sz_116 hF rfl rfl rfl rfl hS rfl rfl fun a w hF hS => nT ⟨(hS.weak (ms := [(1, .cells b [iv xv.Ring, .slice p xv.Starts.length c, .slice p_1 xv.Events.length c_1] 25), (2, .cells b_1 [iv 0, iv 0, iv 0, iv 0] 49)]) ⟨rfl, rfl, trivial⟩).weakD hlev_2 hle0, ?_⟩
   refine stepV (i := 13) rfl hF (fun w hS => Y.assign hF rfl) rfl fun a hF => toTailV ⟨_, Dv_3, b_4, p_10, c_10, p_11, c_11, p_12, c_12, p_13, c_13, hlev_2, hF.weak (AF rfl), hS.weak (AL rfl), hs_10, hs_11, hs_12, hs_13, hq⟩
  refine oneV (i := 11) rfl ?_ trivial
  refine O.alloc 3 zc_116 hF hS rfl fun b_5 a w hF hS => nT ⟨hS.weak ⟨rfl, rfl, trivial⟩, ?_⟩
  refine oneV (i := 6) rfl ?_ trivial
  refine O.callP (us := [iv minute, iv 0, iv (wr (xv.Ring - 1))]) ca_60 hF hS (slave_within_ok hS.stab minute 0 (wr (xv.Ring - 1)) rv hx) rfl rfl fun a w hF hS => nT ⟨hS.weak ⟨rfl, rfl, trivial⟩, ?_⟩
  refine oneV (i := 7) rfl ?_ trivial
  refine O.callSN (us := [.agg #[iv xv.Ring, .slice p xv.Starts.length c, .slice p_1 xv.Events.length c_1], iv minute, .bool rv]) ca_74 hF hS (slave_opened_ok hS.stab xv minute rv hs hs_1 hG KQ hx_1) rfl rfl fun rv_1 hq v_3 Dv_4 a w hR_3 hlev_3 hF hS => ?_
  obtain ⟨p_14, c_14, p_15, c_15, p_16, c_16, p_17, c_17, rfl, hs_14, hs_15, hs_16, hs_17⟩ := hR_3
  refine nT ⟨(hS.weak (ms := [(1, .cells b [iv xv.Ring, .slice p xv.Starts.length c, .slice p_1 xv.Events.length c_1] 25), (2, .cells b_1 [iv 0, iv 0, iv 0, iv 0] 49)]) ⟨rfl, rfl, trivial⟩).weakD hlev_3 hle0, ?_⟩
  refine stepV (i := 8) rfl hF (fun w hS => Y.move hF rfl) rfl fun a hF => stepV (i := 9) rfl hF (fun w hS => Y.extract hF rfl rfl) rfl fun a hF => stepV (i := 10) rfl hF (fun w hS => Y.extract hF rfl rfl) rfl fun a hF => oneV (i := 12) rfl ?_ trivial
  refine O.store (us := [iv rv_1.1.line.SlaveLine.Ring, .slice p_14 rv_1.1.line.SlaveLine.Starts.length c_14, .slice p_15 rv_1.1.line.SlaveLine.Events.length c_15, .slice p_16 rv_1.1.line.without.length c_16, .slice p_17 rv_1.1.states.length c_17, iv rv_1.1.minute]) 3 sz_116 hF rfl rfl rfl rfl hS rfl rfl fun a w hF hS => nT ⟨(hS.weak (ms := [(1, .cells b [iv xv.Ring, .slice p xv.Starts.length c, .slice p_1 xv.Events.length c_1] 25), (2, .cells b_1 [iv 0, iv 0, iv 0, iv 0] 49)]) ⟨rfl, rfl, trivial⟩).weakD hlev_3 hle0, ?_⟩
  refine stepV (i := 13) rfl hF (fun w hS => Y.assign hF rfl) rfl fun a hF => toTailV ⟨_, Dv_4, b_5, p_14, c_14, p_15, c_15, p_16, c_16, p_17, c_17, hlev_3, hF.weak (AF rfl), hS.weak (AL rfl), hs_14, hs_15, hs_16, hs_17, hq⟩
 rintro a w ⟨rv_1, Dv_1, b_2, p_2, c_2, p_3, c_3, p_4, c_4, p_5, c_5, hle, hF, hS, hj, hj_1, hj_2, hj_3, h⟩
 replace h := hk _ h
 have hlev_4 := hle
 refine nT (seq (seq (region (step hF (Y.move hF rfl) rfl fun a hF => step hF (Y.neq hF rfl rfl) rfl fun a hF => nT (cond_b hF rfl (fun hbv => ?_) (fun hbv => ?_))))))
 ·replace h := ncond_t h hbv
  refine seq (region (step hF (Y.build (parts := []) (cs := #[iv 0, iv 0, iv 0, iv 0]) hF rfl (by kernel_rfl)) rfl fun a hF => step hF (Y.move hF rfl) rfl fun a hF => O.store (us := [iv 0, iv 0, iv 0, iv 0]) 2 sz_49 hF rfl rfl rfl rfl hS rfl rfl fun a w hF hS => step hF (Y.assign hF rfl) rfl fun a hF => nT (ret_ (then_r (leavePN _ (nret h) Tryd.results34 hF hS (.cons (.cellN 2 sz_49 rfl rfl rfl) (.cons (.tmp rfl) .nil)) .nil rfl)))))
 replace h := ncond_f h hbv
 refine skip_ (then_n (seq (region (step hF (Y.loadNL 3 sz_116 hF rfl hS rfl rfl rfl) rfl fun a hF => step hF (Y.makeFunc (first := [(.tmp 28)]) (cap := []) (fs := [.agg #[iv rv_1.1.line.SlaveLine.Ring, .slice p_2 rv_1.1.line.SlaveLine.Starts.length c_2, .slice p_3 rv_1.1.line.SlaveLine.Events.length c_3, .slice p_4 rv_1.1.line.without.length c_4, .slice p_5 rv_1.1.states.length c_5, iv rv_1.1.minute]]) (cs := []) hF rfl rfl) rfl fun a hF => O.alloc 4 zc_122 hF hS rfl fun b_6 a w hF hS => O.store (us := [.func (.func 77) #[.agg #[iv rv_1.1.line.SlaveLine.Ring, .slice p_2 rv_1.1.line.SlaveLine.Starts.length c_2, .slice p_3 rv_1.1.line.SlaveLine.Events.length c_3, .slice p_4 rv_1.1.line.without.length c_4, .slice p_5 rv_1.1.states.length c_5, iv rv_1.1.minute]] #[]]) 4 sz_122 hF rfl rfl rfl rfl hS rfl rfl fun a w hF hS => nT (seq (region (step hF (Y.makeFunc (first := []) (cap := [(.tmp 8)]) (fs := []) (cs := [.pointer (some ⟨b_6, 0, none⟩)]) hF rfl rfl) rfl fun a hF => step hF (Y.build (parts := [(0, (.tmp 30))]) (cs := #[.func (.func 79) #[] #[.pointer (some ⟨b_6, 0, none⟩)]]) hF rfl (by kernel_rfl)) rfl fun a hF => O.alloc 5 zc_125 hF hS rfl fun b_7 a w hF hS => O.store (us := [.func (.func 79) #[] #[.pointer (some ⟨b_6, 0, none⟩)]]) 5 sz_125 hF rfl rfl rfl rfl hS rfl rfl fun a w hF hS => nT (seq (seq (region (step hF (Y.move hF rfl) rfl fun a hF => nT (block (loop_cutN (body := slave_Set_b1 rv_1) (out := out) (fun s a w => ∃ (v5_0 : Int) (v32_0 : Int) (z : Int) (z_1 : Int) (z_2 : Int) (z_3 : Int), ∃ (Dv_5 : Stab), s = (v5_0, v32_0, z, z_1, z_2, z_3) ∧ Dv_1.le Dv_5 ∧ Frm 45 [] [(4, .pointer (some ⟨b_1, 0, none⟩)), (5, iv v5_0), (9, .pointer (some ⟨b_7, 0, none⟩)), (32, iv v32_0)] a ∧ St w0 D0 Dv_5 [(1, .cells b [iv xv.Ring, .slice p xv.Starts.length c, .slice p_1 xv.Events.length c_1] 25), (2, .cells b_1 [iv z, iv z_1, iv z_2, iv z_3] 49), (3, .cells b_2 [iv rv_1.1.line.SlaveLine.Ring, .slice p_2 rv_1.1.line.SlaveLine.Starts.length c_2, .slice p_3 rv_1.1.line.SlaveLine.Events.length c_3, .slice p_4 rv_1.1.line.without.length c_4, .slice p_5 rv_1.1.states.length c_5, iv rv_1.1.minute] 116), (4, .cells b_6 [.func (.func 77) #[.agg #[iv rv_1.1.line.SlaveLine.Ring, .slice p_2 rv_1.1.line.SlaveLine.Starts.length c_2, .slice p_3 rv_1.1.line.SlaveLine.Events.length c_3, .slice p_4 rv_1.1.line.without.length c_4, .slice p_5 rv_1.1.states.length c_5, iv rv_1.1.minute]] #[]] 122), (5, .cells b_7 [.func (.func 79) #[] #[.pointer (some ⟨b_6, 0, none⟩)]] 125)] w) (0, 0, 0, 0, 0, 0) h ⟨0, 0, 0, 0, 0, 0, Dv_1, rfl, Stab.le.refl _, hF.weak (AF rfl), hS.weak (AL rfl)⟩ ?_)))))))))))))
 rintro s a w xo ⟨v5_0, v32_0, z, z_1, z_2, z_3, Dv_5, rfl, hlev_5, hF, hS⟩ h
 unfold slave_Set_b1 at h
 try dsimp only at h
 replace hj := hj.mono hlev_5
 replace hj_1 := hj_1.mono hlev_5
 replace hj_2 := hj_2.mono hlev_5
 replace hj_3 := hj_3.mono hlev_5
 refine seq (region (step hF (Y.lss hF rfl rfl) rfl fun a hF => nT (seq (cond_b hF rfl (fun hbv_1 => ?_) (fun hbv_1 => ?_)))))
 ·replace h := ncond_t h hbv_1
  refine skip_ (then_n (seq (block (seq (region (step hF (Y.move hF rfl) rfl fun a hF => step hF (Y.assign hF rfl) rfl fun a hF => nT (seq (region (step hF (Y.move hF rfl) rfl fun a hF => step hF (Y.loadNL 5 sz_125 hF rfl hS rfl rfl rfl) rfl fun a hF => ?_)))))))))
  obtain ⟨rv_2, hx_2, h⟩ := ndet h
  refine O.callP (us := [iv v32_0, .agg #[.func (.func 79) #[] #[.pointer (some ⟨b_6, 0, none⟩)]]]) ca_80 hF hS (slave_first_ok hS.stab v32_0 (slave_order.mk (fun q_z => slave_Set_1 q_z rv_1.1)) (show FnOk_122 _ _ 79 [] [.pointer (some ⟨b_6, 0, none⟩)] (fun q_z => slave_Set_1 q_z rv_1.1) from ⟨ca_79, fun w D hb hle hon q_z r h => slave_Set_1_ok hon q_z rv_1.1 (hj.mono hle) (hj_1.mono hle) (hj_2.mono hle) (hj_3.mono hle) (keep hb (hS.each 4 _ rfl)) r h⟩) rv_2 hx_2) rfl rfl fun a w hF hS => step hF (Y.move hF rfl) rfl fun a hF => step hF (Y.extract hF rfl rfl) rfl fun a hF => step hF (Y.extract hF rfl rfl) rfl fun a hF => O.alloc 6 zc_49 hF hS rfl fun b_8 a w hF hS => O.store (us := [iv rv_2.1.Pre, iv rv_2.1.Home, iv rv_2.1.First, iv rv_2.1.Send]) 6 sz_49 hF rfl rfl rfl rfl hS rfl rfl fun a w hF hS => step hF (Y.assign hF rfl) rfl fun a hF => nT (seq (region (step hF (Y.move hF rfl) rfl fun a hF => nT (cond_b hF rfl (fun hbv_2 => ?_) (fun hbv_2 => ?_)))))
  ·replace h := ncond_t h hbv_2
   refine seq (region (step hF (Y.loadNL 6 sz_49 hF rfl hS rfl rfl rfl) rfl fun a hF => O.store (us := [iv rv_2.1.Pre, iv rv_2.1.Home, iv rv_2.1.First, iv rv_2.1.Send]) 2 sz_49 hF rfl rfl rfl rfl hS rfl rfl fun a w hF hS => step hF (Y.assign hF rfl) rfl fun a hF => nT (ret_ (blk_r (then_r (then_r (blk_r (then_r ?_))))))))
   replace h := next_h h
   exact leavePN _ (nret h) Tryd.results34 hF hS (.cons (.cellN 2 sz_49 rfl rfl rfl) (.cons (.tmp rfl) .nil)) .nil rfl
  replace h := ncond_f h hbv_2
  refine skip_ (blk_n (then_n (region (step hF (Y.add hF rfl rfl) rfl fun a hF => step hF (Y.move hF rfl) rfl fun a hF => nT (⟨_, nnxt_h h, v5_0, (wr (v32_0 + 1)), z, z_1, z_2, z_3, Dv_5, rfl, hlev_5, hF.weak (AF rfl), hS.weak (AL rfl)⟩)))))
 replace h := ncond_f h hbv_1
 refine exit_ (then_x (then_x (blk_hit (then_n ?_))))
 replace h := next_h h
 refine seq (region (step hF (Y.build (parts := []) (cs := #[iv 0, iv 0, iv 0, iv 0]) hF rfl (by kernel_rfl)) rfl fun a hF => O.store (us := [iv 0, iv 0, iv 0, iv 0]) 2 sz_49 hF rfl rfl rfl rfl hS rfl rfl fun a w hF hS => step hF (Y.assign hF rfl) rfl fun a hF => nT (ret_ (leavePN _ (nret h) Tryd.results34 hF hS (.cons (.cellN 2 sz_49 rfl rfl rfl) (.cons (.tmp rfl) .nil)) .nil rfl))))
noncomputable def slave_Homes_b1 (xv : SlaveLine) (lost : Int) (rv_1 : (slave_setter × Int)) : (Int × Int) → ND ((Int × Int) ⊕ (Int × Int))
 | (n, v24_0) =>
  cond (decide (v24_0 < (rv_1.1.states.length : Int)))
  ((ND.det (idx rv_1.1.states v24_0) fun e =>
  cond (decide (e.Shown > 0))
  ((ND.det (slave_greatest_int_ n ([wr ((wr (xv.Ring - e.Shown)) + lost)])) fun rv_2 =>
  nnxt (rv_2, wr (v24_0 + 1))))
  (nnxt (n, wr (v24_0 + 1)))))
  (next_ (ND.ret (n, 0)))
noncomputable def slave_Homes (xv : SlaveLine) (lost : Int) : ND (Int × Int) :=
  (ND.det (slave_within lost 0 3) fun rv =>
  (ND.bnd (slave_opened xv 0 rv) fun rv_1 =>
  cond (rv_1.2 != 0)
  (ND.ret (0, rv_1.2))
  (loopN (slave_Homes_b1 xv lost rv_1) (0, 0))))
theorem slave_Homes_ok {w0 : World} {D0 : Stab} (hD : D0.on w0) (xv : SlaveLine) (lost : Int) {p : Option Addr} {c : Nat} {p_1 : Option Addr} {c_1 : Nat} (hs : SRc C_SlaveStart D0 xv.Starts p c) (hs_1 : SRc C_SlaveEvent D0 xv.Events p_1 c_1) (hG : Glob D0) (out : (Int × Int) → Prop) (h : slave_Homes xv lost out) : Calls Tryd.prog 30 [.agg #[iv xv.Ring, .slice p xv.Starts.length c, .slice p_1 xv.Events.length c_1], iv lost].toArray w0 (RetPN D0 w0 out fun (out : (Int × Int)) => .tuple #[iv out.1, iv out.2]) := by
 refine enter _ 43 Tryd.func30 rfl Tryd.ntmps30 rfl fun a hF => ?_
 replace hF : Frm 43 [] [(0, .agg #[iv xv.Ring, .slice p xv.Starts.length c, .slice p_1 xv.Events.length c_1]), (1, iv lost)] a := hF
 have hS := St.start hD
 unfold slave_Homes at h
 refine seq (region (O.box (cs := [iv xv.Ring, .slice p xv.Starts.length c, .slice p_1 xv.Events.length c_1]) 1 hF rfl rfl hS rfl fun b a w hF hS => step hF (Y.assign hF rfl) rfl fun a hF => step hF (Y.assign hF rfl) rfl fun a hF => nT (seq ?_)))
 obtain ⟨rv, hx, h⟩ := ndet h
 obtain ⟨KQ, hx_1, hk⟩ := nbnd_ex h
 refine drawsV 10 (.flt 0 (.flt 1 (.alt 2 (.alt 3 (.flt 4 (.flt 5 (.flt 6 (.alt 7 (.alt 8 (.flt 9 .done) .stop) .stop)))) (.alt 7 (.alt 3 (.flt 4 (.flt 5 (.flt 6 (.alt 8 (.flt 9 .done) .stop)))) .stop) .stop)) (.alt 7 (.alt 2 (.alt 3 (.flt 4 (.flt 5 (.flt 6 (.alt 8 (.flt 9 .done) .stop)))) .stop) .stop) .stop)))) mixed_ (by kernel_rfl) (fun w => St w0 D0 D0 [(1, .cells b [iv xv.Ring, .slice p xv.Starts.length c, .slice p_1 xv.Events.length c_1] 25)] w) (fun a w => ∃ (rv_1 : (slave_setter × Int)), ∃ (Dv_1 : Stab) (b_1 : Nat) (p_2 : Option Addr) (c_2 : Nat) (p_3 : Option Addr) (c_3 : Nat) (p_4 : Option Addr) (c_4 : Nat) (p_5 : Option Addr) (c_5 : Nat), D0.le Dv_1 ∧ Frm 43 [] [(1, iv lost), (2, .pointer (some ⟨b, 0, none⟩)), (4, iv 0), (5, iv 0), (6, .pointer (some ⟨b_1, 0, none⟩)), (7, iv rv_1.2)] a ∧ St w0 D0 Dv_1 [(1, .cells b [iv xv.Ring, .slice p xv.Starts.length c, .slice p_1 xv.Events.length c_1] 25), (2, .cells b_1 [iv rv_1.1.line.SlaveLine.Ring, .slice p_2 rv_1.1.line.SlaveLine.Starts.length c_2, .slice p_3 rv_1.1.line.SlaveLine.Events.length c_3, .slice p_4 rv_1.1.line.without.length c_4, .slice p_5 rv_1.1.states.length c_5, iv rv_1.1.minute] 116)] w ∧ SRc C_SlaveStart Dv_1 rv_1.1.line.SlaveLine.Starts p_2 c_2 ∧ SRc C_SlaveEvent Dv_1 rv_1.1.line.SlaveLine.Events p_3 c_3 ∧ SRc C_int Dv_1 rv_1.1.line.without p_4 c_4 ∧ SRc C_SlaveStart Dv_1 rv_1.1.states p_5 c_5 ∧ KQ rv_1) (hS.weak (ms := [(1, .cells b [iv xv.Ring, .slice p xv.Starts.length c, .slice p_1 xv.Events.length c_1] 25)]) ⟨rfl, trivial⟩).drew (fun _ _ _ _ h => h) ?_ ?_
 ·replace hS := hS.drew
  have hle0 := hS.le
  refine stepV (i := 0) rfl hF (fun w hS => Y.loadNL 1 sz_25 hF rfl hS rfl rfl rfl) rfl fun a hF => stepV (i := 1) rfl hF (fun w hS => Y.move hF rfl) rfl fun a hF => oneV (i := 2) rfl ?_ ?_
  ·skip
   refine O.callP (us := [iv lost, iv 0, iv 3]) ca_60 hF hS (slave_within_ok hS.stab lost 0 3 rv hx) rfl rfl fun a w hF hS => nT ⟨hS.weak ⟨rfl, trivial⟩, ?_⟩
   refine oneV (i := 3) rfl ?_ ?_
   ·skip
    refine O.callSN (us := [.agg #[iv xv.Ring, .slice p xv.Starts.length c, .slice p_1 xv.Events.length c_1], iv 0, .bool rv]) ca_74 hF hS (slave_opened_ok hS.stab xv 0 rv hs hs_1 hG KQ hx_1) rfl rfl fun rv_1 hq v_1 Dv_2 a w hR_1 hlev_1 hF hS => ?_
    obtain ⟨p_6, c_6, p_7, c_7, p_8, c_8, p_9, c_9, rfl, hs_6, hs_7, hs_8, hs_9⟩ := hR_1
    refine nT ⟨(hS.weak (ms := [(1, .cells b [iv xv.Ring, .slice p xv.Starts.length c, .slice p_1 xv.Events.length c_1] 25)]) ⟨rfl, trivial⟩).weakD hlev_1 hle0, ?_⟩
    refine stepV (i := 4) rfl hF (fun w hS => Y.move hF rfl) rfl fun a hF => stepV (i := 5) rfl hF (fun w hS => Y.extract hF rfl rfl) rfl fun a hF => stepV (i := 6) rfl hF (fun w hS => Y.extract hF rfl rfl) rfl fun a hF => oneV (i := 7) rfl ?_ trivial
    refine O.alloc 2 zc_116 hF hS rfl fun b_2 a w hF hS => nT ⟨(hS.weak (ms := [(1, .cells b [iv xv.Ring, .slice p xv.Starts.length c, .slice p_1 xv.Events.length c_1] 25)]) ⟨rfl, trivial⟩).weakD hlev_1 hle0, ?_⟩
    refine oneV (i := 8) rfl ?_ trivial
    refine O.store (us := [iv rv_1.1.line.SlaveLine.Ring, .slice p_6 rv_1.1.line.SlaveLine.Starts.length c_6, .slice p_7 rv_1.1.line.SlaveLine.Events.length c_7, .slice p_8 rv_1.1.line.without.length c_8, .slice p_9 rv_1.1.states.length c_9, iv rv_1.1.minute]) 2 sz_116 hF rfl rfl rfl rfl hS rfl rfl fun a w hF hS => nT ⟨(hS.weak (ms := [(1, .cells b [iv xv.Ring, .slice p xv.Starts.length c, .slice p_1 xv.Events.length c_1] 25)]) ⟨rfl, trivial⟩).weakD hlev_1 hle0, ?_⟩
    refine stepV (i := 9) rfl hF (fun w hS => Y.assign hF rfl) rfl fun a hF => toTailV ⟨_, Dv_2, b_2, p_6, c_6, p_7, c_7, p_8, c_8, p_9, c_9, hlev_1, hF.weak (AF rfl), hS.weak ⟨rfl, rfl, trivial⟩, hs_6, hs_7, hs_8, hs_9, hq⟩
   refine oneV (i := 7) rfl ?_ trivial
   refine O.alloc 2 zc_116 hF hS rfl fun b_3 a w hF hS => nT ⟨hS.weak ⟨rfl, trivial⟩, ?_⟩
   refine oneV (i := 3) rfl ?_ trivial
   refine O.callSN (us := [.agg #[iv xv.Ring, .slice p xv.Starts.length c, .slice p_1 xv.Events.length c_1], iv 0, .bool rv]) ca_74 hF hS (slave_opened_ok hS.stab xv 0 rv hs hs_1 hG KQ hx_1) rfl rfl fun rv_1 hq v_2 Dv_3 a w hR_2 hlev_2 hF hS => ?_
   obtain ⟨p_10, c_10, p_11, c_11, p_12, c_12, p_13, c_13, rfl, hs_10, hs_11, hs_12, hs_13⟩ := hR_2
   refine nT ⟨(hS.weak (ms := [(1, .cells b [iv xv.Ring, .slice p xv.Starts.length c, .slice p_1 xv.Events.length c_1] 25)]) ⟨rfl, trivial⟩).weakD hlev_2 hle0, ?_⟩
   refine stepV (i := 4) rfl hF (fun w hS => Y.move hF rfl) rfl fun a hF => stepV (i := 5) rfl hF (fun w hS => Y.extract hF rfl rfl) rfl fun a hF => stepV (i := 6) rfl hF (fun w hS => Y.extract hF rfl rfl) rfl fun a hF => oneV (i := 8) rfl ?_ trivial
   refine O.store (us := [iv rv_1.1.line.SlaveLine.Ring, .slice p_10 rv_1.1.line.SlaveLine.Starts.length c_10, .slice p_11 rv_1.1.line.SlaveLine.Events.length c_11, .slice p_12 rv_1.1.line.without.length c_12, .slice p_13 rv_1.1.states.length c_13, iv rv_1.1.minute]) 2 sz_116 hF rfl rfl rfl rfl hS rfl rfl fun a w hF hS => nT ⟨(hS.weak (ms := [(1, .cells b [iv xv.Ring, .slice p xv.Starts.length c, .slice p_1 xv.Events.length c_1] 25)]) ⟨rfl, trivial⟩).weakD hlev_2 hle0, ?_⟩
   refine stepV (i := 9) rfl hF (fun w hS => Y.assign hF rfl) rfl fun a hF => toTailV ⟨_, Dv_3, b_3, p_10, c_10, p_11, c_11, p_12, c_12, p_13, c_13, hlev_2, hF.weak (AF rfl), hS.weak ⟨rfl, rfl, trivial⟩, hs_10, hs_11, hs_12, hs_13, hq⟩
  refine oneV (i := 7) rfl ?_ trivial
  refine O.alloc 2 zc_116 hF hS rfl fun b_4 a w hF hS => nT ⟨hS.weak ⟨rfl, trivial⟩, ?_⟩
  refine oneV (i := 2) rfl ?_ trivial
  refine O.callP (us := [iv lost, iv 0, iv 3]) ca_60 hF hS (slave_within_ok hS.stab lost 0 3 rv hx) rfl rfl fun a w hF hS => nT ⟨hS.weak ⟨rfl, trivial⟩, ?_⟩
  refine oneV (i := 3) rfl ?_ trivial
  refine O.callSN (us := [.agg #[iv xv.Ring, .slice p xv.Starts.length c, .slice p_1 xv.Events.length c_1], iv 0, .bool rv]) ca_74 hF hS (slave_opened_ok hS.stab xv 0 rv hs hs_1 hG KQ hx_1) rfl rfl fun rv_1 hq v_3 Dv_4 a w hR_3 hlev_3 hF hS => ?_
  obtain ⟨p_14, c_14, p_15, c_15, p_16, c_16, p_17, c_17, rfl, hs_14, hs_15, hs_16, hs_17⟩ := hR_3
  refine nT ⟨(hS.weak (ms := [(1, .cells b [iv xv.Ring, .slice p xv.Starts.length c, .slice p_1 xv.Events.length c_1] 25)]) ⟨rfl, trivial⟩).weakD hlev_3 hle0, ?_⟩
  refine stepV (i := 4) rfl hF (fun w hS => Y.move hF rfl) rfl fun a hF => stepV (i := 5) rfl hF (fun w hS => Y.extract hF rfl rfl) rfl fun a hF => stepV (i := 6) rfl hF (fun w hS => Y.extract hF rfl rfl) rfl fun a hF => oneV (i := 8) rfl ?_ trivial
  refine O.store (us := [iv rv_1.1.line.SlaveLine.Ring, .slice p_14 rv_1.1.line.SlaveLine.Starts.length c_14, .slice p_15 rv_1.1.line.SlaveLine.Events.length c_15, .slice p_16 rv_1.1.line.without.length c_16, .slice p_17 rv_1.1.states.length c_17, iv rv_1.1.minute]) 2 sz_116 hF rfl rfl rfl rfl hS rfl rfl fun a w hF hS => nT ⟨(hS.weak (ms := [(1, .cells b [iv xv.Ring, .slice p xv.Starts.length c, .slice p_1 xv.Events.length c_1] 25)]) ⟨rfl, trivial⟩).weakD hlev_3 hle0, ?_⟩
  refine stepV (i := 9) rfl hF (fun w hS => Y.assign hF rfl) rfl fun a hF => toTailV ⟨_, Dv_4, b_4, p_14, c_14, p_15, c_15, p_16, c_16, p_17, c_17, hlev_3, hF.weak (AF rfl), hS.weak ⟨rfl, rfl, trivial⟩, hs_14, hs_15, hs_16, hs_17, hq⟩
 rintro a w ⟨rv_1, Dv_1, b_1, p_2, c_2, p_3, c_3, p_4, c_4, p_5, c_5, hle, hF, hS, hj, hj_1, hj_2, hj_3, h⟩
 replace h := hk _ h
 have hlev_4 := hle
 refine nT (seq (seq (region (step hF (Y.move hF rfl) rfl fun a hF => step hF (Y.neq hF rfl rfl) rfl fun a hF => nT (cond_b hF rfl (fun hbv => ?_) (fun hbv => ?_))))))
 ·replace h := ncond_t h hbv
  refine seq (region (step hF (Y.move hF rfl) rfl fun a hF => step hF (Y.assign hF rfl) rfl fun a hF => step hF (Y.assign hF rfl) rfl fun a hF => nT (ret_ (then_r (leavePN _ (nret h) Tryd.results30 hF hS (.cons (.tmp rfl) (.cons (.tmp rfl) .nil)) .nil rfl)))))
 replace h := ncond_f h hbv
 refine skip_ (then_n (seq (region (step hF (Y.assign hF rfl) rfl fun a hF => nT (seq (seq (region (step hF (Y.fieldAddr fo_116_1 hF rfl) rfl fun a hF => step hF (Y.load1L 2 sz_22 hF rfl hS rfl rfl) rfl fun a hF => step hF (Y.lenSl u_22 hF rfl) rfl fun a hF => step hF (Y.move hF rfl) rfl fun a hF => nT (block (loop_cutN (body := slave_Homes_b1 xv lost rv_1) (out := out) (fun s a w => ∃ (n : Int) (v24_0 : Int), ∃ (Dv_5 : Stab), s = (n, v24_0) ∧ Dv_1.le Dv_5 ∧ Frm 43 [] [(1, iv lost), (2, .pointer (some ⟨b, 0, none⟩)), (4, iv 0), (5, iv 0), (8, iv n), (22, .slice p_5 rv_1.1.states.length c_5), (23, iv (rv_1.1.states.length : Int)), (24, iv v24_0)] a ∧ St w0 D0 Dv_5 [(1, .cells b [iv xv.Ring, .slice p xv.Starts.length c, .slice p_1 xv.Events.length c_1] 25), (2, .cells b_1 [iv rv_1.1.line.SlaveLine.Ring, .slice p_2 rv_1.1.line.SlaveLine.Starts.length c_2, .slice p_3 rv_1.1.line.SlaveLine.Events.length c_3, .slice p_4 rv_1.1.line.without.length c_4, .slice p_5 rv_1.1.states.length c_5, iv rv_1.1.minute] 116)] w) (0, 0) h ⟨0, 0, Dv_1, rfl, Stab.le.refl _, hF.weak (AF rfl), hS.weak ⟨rfl, rfl, trivial⟩⟩ ?_))))))))))
 rintro s a w xo ⟨n, v24_0, Dv_5, rfl, hlev_5, hF, hS⟩ h
 unfold slave_Homes_b1 at h
 try dsimp only at h
 replace hj_3 := hj_3.mono hlev_5
 refine seq (region (step hF (Y.lss hF rfl rfl) rfl fun a hF => nT (seq (cond_b hF rfl (fun hbv_1 => ?_) (fun hbv_1 => ?_)))))
 ·replace h := ncond_t h hbv_1
  refine skip_ (then_n (seq (block (seq (region ?_)))))
  obtain ⟨e, hx_2, h⟩ := ndet h
  obtain ⟨b_5, o, hE, hY⟩ := Y.indexS (P := Tryd.prog) (C := C_SlaveStart) (xs := rv_1.1.states) (T := 22) (x := (.tmp 22)) (y := (.tmp 24)) u_22 sz_57 hF rfl rfl (hj_3).1 hx_2
  obtain ⟨cc, hc, hcell⟩ := hE.open
  obtain rfl := C_SlaveStart.open hc
  refine step hF (hY) rfl fun a hF => step hF (Y.loadNE (o := o) (k := 0) sz_57 hF rfl (hcell _ hS.stab) rfl rfl) rfl fun a hF => O.alloc 3 zc_57 hF hS rfl fun b_6 a w hF hS => O.store (us := [iv e.Shown, iv e.Last]) 3 sz_57 hF rfl rfl rfl rfl hS rfl rfl fun a w hF hS => nT (seq (region (step hF (Y.fieldAddr fo_57_0 hF rfl) rfl fun a hF => step hF (Y.load1L 3 sz_3 hF rfl hS rfl rfl) rfl fun a hF => step hF (Y.gtr hF rfl rfl) rfl fun a hF => nT (cond_b hF rfl (fun hbv_2 => ?_) (fun hbv_2 => ?_)))))
  ·replace h := ncond_t h hbv_2
   refine region (step hF (Y.move hF rfl) rfl fun a hF => step hF (Y.fieldAddr fo_25_0 hF rfl) rfl fun a hF => step hF (Y.load1L 1 sz_3 hF rfl hS rfl rfl) rfl fun a hF => step hF (Y.fieldAddr fo_57_0 hF rfl) rfl fun a hF => step hF (Y.load1L 3 sz_3 hF rfl hS rfl rfl) rfl fun a hF => step hF (Y.sub hF rfl rfl) rfl fun a hF => step hF (Y.move hF rfl) rfl fun a hF => step hF (Y.add hF rfl rfl) rfl fun a hF => ?_)
   have hr : Reps C_int Dv_5 [wr ((wr (xv.Ring - e.Shown)) + lost)] [iv (wr ((wr (xv.Ring - e.Shown)) + lost))] := Reps.cons (C := C_int) (x := wr ((wr (xv.Ring - e.Shown)) + lost)) (c := [iv (wr ((wr (xv.Ring - e.Shown)) + lost))]) (r := []) rfl (Reps.nil)
   refine O.buildSlice (E := 3) (C := C_int) (xs := [wr ((wr (xv.Ring - e.Shown)) + lost)]) (cs := [iv (wr ((wr (xv.Ring - e.Shown)) + lost))]) (us := [iv (wr ((wr (xv.Ring - e.Shown)) + lost))]) (parts := [(0, (.tmp 38))]) 4 hF hS rfl (by kernel_rfl) hr rfl rfl rfl fun p_18 c_18 a w hF hS => ?_
   obtain ⟨Dv_6, hlev_6, hs_18, hS⟩ := hS.freezeC (C := C_int) (i := 4) (xs := [wr ((wr (xv.Ring - e.Shown)) + lost)]) rfl hr
   obtain ⟨rv_2, hx_3, h⟩ := ndet h
   refine O.callP (us := [iv n, .slice p_18 ([wr ((wr (xv.Ring - e.Shown)) + lost)]).length c_18]) ca_75 hF hS (slave_greatest_int__ok hS.stab n ([wr ((wr (xv.Ring - e.Shown)) + lost)]) hs_18 rv_2 hx_3) rfl rfl fun a w hF hS => step hF (Y.assign hF rfl) rfl fun a hF => nil (blk_n (then_n (region (step hF (Y.add hF rfl rfl) rfl fun a hF => step hF (Y.move hF rfl) rfl fun a hF => nT (⟨_, nnxt_h h, rv_2, (wr (v24_0 + 1)), Dv_6, rfl, hlev_5.trans hlev_6, hF.weak (AF rfl), hS.weak ⟨rfl, rfl, trivial⟩⟩)))))
  replace h := ncond_f h hbv_2
  refine skip_ (blk_n (then_n (region (step hF (Y.add hF rfl rfl) rfl fun a hF => step hF (Y.move hF rfl) rfl fun a hF => nT (⟨_, nnxt_h h, n, (wr (v24_0 + 1)), Dv_5, rfl, hlev_5, hF.weak (AF rfl), hS.weak ⟨rfl, rfl, trivial⟩⟩)))))
 replace h := ncond_f h hbv_1
 refine exit_ (then_x (then_x (blk_hit (then_n ?_))))
 replace h := next_h h
 refine seq (region (step hF (Y.move hF rfl) rfl fun a hF => step hF (Y.assign hF rfl) rfl fun a hF => step hF (Y.assign hF rfl) rfl fun a hF => nT (ret_ (leavePN _ (nret h) Tryd.results30 hF hS (.cons (.tmp rfl) (.cons (.tmp rfl) .nil)) .nil rfl))))
noncomputable def w7send (first : Int) (count : Int) (lost : Int) : Option SlaveEvent :=
  some (SlaveEvent.mk 0 first count lost 0 0)
theorem w7send_ok {w0 : World} {D0 : Stab} (hD : D0.on w0) (first : Int) (count : Int) (lost : Int) (out : SlaveEvent) (h : w7send first count lost = some out) : Calls Tryd.prog 45 [iv first, iv count, iv lost].toArray w0 (RetP D0 w0 (.agg #[iv out.Kind, iv out.First, iv out.Count, iv out.Lost, iv out.Who, iv out.Shown])) := by
 refine enter _ 11 Tryd.func45 rfl Tryd.ntmps45 rfl fun a hF => ?_
 replace hF : Frm 11 [] [(0, iv first), (1, iv count), (2, iv lost)] a := hF
 have hS := St.start hD
 unfold w7send at h
 refine seq (region (O.alloc 1 zc_66 hF hS rfl fun b a w hF hS => nT (seq (region (step hF (Y.move hF rfl) rfl fun a hF => step hF (Y.move hF rfl) rfl fun a hF => step hF (Y.move hF rfl) rfl fun a hF => step hF (Y.build (parts := [(0, (.const (iv 0))), (1, (.tmp 7)), (2, (.tmp 8)), (3, (.tmp 9))]) (cs := #[iv 0, iv first, iv count, iv lost, iv 0, iv 0]) hF rfl (by kernel_rfl)) rfl fun a hF => O.store (us := [iv 0, iv first, iv count, iv lost, iv 0, iv 0]) 1 sz_66 hF rfl rfl rfl rfl hS rfl rfl fun a w hF hS => nT (ret_ ?_))))))
 obtain rfl := some_inj h
 exact leaveP Tryd.results45 hF hS (.cons (.cellN 1 sz_66 rfl rfl rfl) .nil) .nil rfl
noncomputable def w7look (who : Int) (shown : Int) : Option SlaveEvent :=
  some (SlaveEvent.mk 2 0 0 0 who shown)
theorem w7look_ok {w0 : World} {D0 : Stab} (hD : D0.on w0) (who : Int) (shown : Int) (out : SlaveEvent) (h : w7look who shown = some out) : Calls Tryd.prog 42 [iv who, iv shown].toArray w0 (RetP D0 w0 (.agg #[iv out.Kind, iv out.First, iv out.Count, iv out.Lost, iv out.Who, iv out.Shown])) := by
 refine enter _ 8 Tryd.func42 rfl Tryd.ntmps42 rfl fun a hF => ?_
 replace hF : Frm 8 [] [(0, iv who), (1, iv shown)] a := hF
 have hS := St.start hD
 unfold w7look at h
 refine seq (region (O.alloc 1 zc_66 hF hS rfl fun b a w hF hS => nT (seq (region (step hF (Y.move hF rfl) rfl fun a hF => step hF (Y.move hF rfl) rfl fun a hF => step hF (Y.build (parts := [(0, (.const (iv 2))), (4, (.tmp 5)), (5, (.tmp 6))]) (cs := #[iv 2, iv 0, iv 0, iv 0, iv who, iv shown]) hF rfl (by kernel_rfl)) rfl fun a hF => O.store (us := [iv 2, iv 0, iv 0, iv 0, iv who, iv shown]) 1 sz_66 hF rfl rfl rfl rfl hS rfl rfl fun a w hF hS => nT (ret_ ?_))))))
 obtain rfl := some_inj h
 exact leaveP Tryd.results42 hF hS (.cons (.cellN 1 sz_66 rfl rfl rfl) .nil) .nil rfl
noncomputable def w7line_b1 (shown : (List Int)) : (Int × (List SlaveEvent)) → Option ((Int × (List SlaveEvent)) ⊕ SlaveLine)
 | (i, l) =>
  cond (decide (i < (shown.length : Int)))
  ((idx shown i).bind fun e =>
  (w7look 0 e).bind fun rv_1 =>
  if l.length + ([rv_1]).length ≤ lim then
  nxt (wr (i + 1), (l ++ [rv_1]))
  else none)
  (ext (some (SlaveLine.mk 12 ([(SlaveStart.mk 10 1)]) l)))
noncomputable def w7line (shown : (List Int)) : Option SlaveLine :=
  (w7send 0 4 1).bind fun rv =>
  loopU (w7line_b1 shown) (0, [rv])
theorem w7line_ok {w0 : World} {D0 : Stab} (hD : D0.on w0) (shown : (List Int)) {p : Option Addr} {c : Nat} (hs : SRc C_int D0 shown p c) (out : SlaveLine) (h : w7line shown = some out) : Calls Tryd.prog 55 [.slice p shown.length c].toArray w0 (RetS D0 w0 fun D v => ∃ p_7 c_7 p_8 c_8, v = .agg #[iv out.Ring, .slice p_7 out.Starts.length c_7, .slice p_8 out.Events.length c_8] ∧ SRc C_SlaveStart D out.Starts p_7 c_7 ∧ SRc C_SlaveEvent D out.Events p_8 c_8) := by
 refine enter _ 27 Tryd.func55 rfl Tryd.ntmps55 rfl fun a hF => ?_
 replace hF : Frm 27 [] [(0, .slice p shown.length c)] a := hF
 have hS := St.start hD
 unfold w7line at h
 refine seq (region (O.alloc 1 zc_25 hF hS rfl fun b a w hF hS => nT (seq (region (step hF (Y.build (parts := [(0, (.const (iv 10))), (1, (.const (iv 1)))]) (cs := #[iv 10, iv 1]) hF rfl (by kernel_rfl)) rfl fun a hF => ?_)))))
 have hr : Reps C_SlaveStart D0 [(SlaveStart.mk 10 1)] [iv 10, iv 1] := Reps.cons (C := C_SlaveStart) (x := (SlaveStart.mk 10 1)) (c := [iv 10, iv 1]) (r := []) rfl (Reps.nil)
 refine O.buildSlice (E := 57) (C := C_SlaveStart) (xs := [(SlaveStart.mk 10 1)]) (cs := [iv 10, iv 1]) (us := [.agg #[iv 10, iv 1]]) (parts := [(0, (.tmp 5))]) 2 hF hS rfl (by kernel_rfl) hr rfl rfl rfl fun p_1 c_1 a w hF hS => ?_
 obtain ⟨rv, hx, h⟩ := bind_some h
 refine O.callP (us := [iv 0, iv 4, iv 1]) ca_45 hF hS (w7send_ok hS.stab 0 4 1 rv hx) rfl rfl fun a w hF hS => ?_
 have hr_1 : Reps C_SlaveEvent D0 [rv] [iv rv.Kind, iv rv.First, iv rv.Count, iv rv.Lost, iv rv.Who, iv rv.Shown] := Reps.cons (C := C_SlaveEvent) (x := rv) (c := [iv rv.Kind, iv rv.First, iv rv.Count, iv rv.Lost, iv rv.Who, iv rv.Shown]) (r := []) rfl (Reps.nil)
 refine O.buildSlice (E := 66) (C := C_SlaveEvent) (xs := [rv]) (cs := [iv rv.Kind, iv rv.First, iv rv.Count, iv rv.Lost, iv rv.Who, iv rv.Shown]) (us := [.agg #[iv rv.Kind, iv rv.First, iv rv.Count, iv rv.Lost, iv rv.Who, iv rv.Shown]]) (parts := [(0, (.tmp 7))]) 3 hF hS rfl (by kernel_rfl) hr_1 rfl rfl rfl fun p_2 c_2 a w hF hS => step hF (Y.build (parts := [(0, (.const (iv 12))), (1, (.tmp 6)), (2, (.tmp 8))]) (cs := #[iv 12, .slice p_1 ([(SlaveStart.mk 10 1)]).length c_1, .slice p_2 ([rv]).length c_2]) hF rfl (by kernel_rfl)) rfl fun a hF => O.alloc 4 zc_25 hF hS rfl fun b_1 a w hF hS => ?_
 replace hS := hS.ownNil 5 66 6
 refine O.store (us := [iv 12, .slice p_1 ([(SlaveStart.mk 10 1)]).length c_1, .slice p_2 ([rv]).length c_2]) 4 sz_25 hF rfl rfl rfl rfl hS rfl rfl fun a w hF hS => nT (seq (seq (region (step hF (Y.assign hF rfl) rfl fun a hF => nT (block (loop_cut (body := w7line_b1 shown) (out := out) (fun s a w => ∃ (i : Int) (l : (List SlaveEvent)), ∃ p_3 c_3 cs, s = (i, l) ∧ Frm 27 [] [(0, .slice p shown.length c), (2, .pointer (some ⟨b, 0, none⟩)), (3, .pointer (some ⟨b_1, 0, none⟩)), (4, iv i)] a ∧ St w0 D0 D0 [(1, .cells b [iv 0, .slice none 0 0, .slice none 0 0] 25), (2, .own p_1 ([(SlaveStart.mk 10 1)]).length c_1 ([iv 10, iv 1]) 57 2), (3, .own p_3 l.length c_3 cs 66 6), (4, .cells b_1 [iv 12, .slice p_1 ([(SlaveStart.mk 10 1)]).length c_1, .slice p_3 l.length c_3] 25), (5, .own none ([] : List SlaveEvent).length 0 ([]) 66 6)] w ∧ Reps C_SlaveEvent D0 l cs) (0, [rv]) h ⟨0, ([rv]), p_2, c_2, ([iv rv.Kind, iv rv.First, iv rv.Count, iv rv.Lost, iv rv.Who, iv rv.Shown]), rfl, hF.weak (AF rfl), hS.weak (AL rfl), hr_1⟩ ?_))))))
 rintro s a w xo ⟨i, l, p_3, c_3, cs, rfl, hF, hS, hr_2⟩ h hxo
 unfold w7line_b1 at h
 dsimp only at h
 refine seq (seq (region (step hF (Y.move hF rfl) rfl fun a hF => step hF (Y.move hF rfl) rfl fun a hF => step hF (Y.lenSl u_26 hF rfl) rfl fun a hF => step hF (Y.lss hF rfl rfl) rfl fun a hF => nT (cond_b hF rfl (fun hbv => ?_) (fun hbv => ?_)))))
 ·replace h := cond_t h hbv
  refine skip_ (then_n (seq (block ?_)))
  obtain ⟨e, hx_1, h⟩ := bind_some h
  obtain ⟨rv_1, hx_2, h⟩ := bind_some h
  refine drawsV 8 (.flt 0 (.flt 1 (.flt 2 (.flt 3 (.flt 4 (.flt 5 (.alt 6 (.alt 7 .done .stop) .stop))))))) mixed_ (by kernel_rfl) (fun w => St w0 D0 D0 [(1, .cells b [iv 0, .slice none 0 0, .slice none 0 0] 25), (2, .own p_1 ([(SlaveStart.mk 10 1)]).length c_1 ([iv 10, iv 1]) 57 2), (3, .own p_3 l.length c_3 cs 66 6), (4, .cells b_1 [iv 12, .slice p_1 ([(SlaveStart.mk 10 1)]).length c_1, .slice p_3 l.length c_3] 25), (5, .own none ([] : List SlaveEvent).length 0 ([]) 66 6)] w) (fun a w => ∃ (p_4 : Option Addr) (c_4 : Nat) (cs_1 : List Value), Frm 27 [] [(0, .slice p shown.length c), (2, .pointer (some ⟨b, 0, none⟩)), (3, .pointer (some ⟨b_1, 0, none⟩)), (4, iv i), (17, .slice p_3 l.length c_3), (23, .slice p_4 ([rv_1]).length c_4)] a ∧ St w0 D0 D0 [(1, .cells b [iv 0, .slice none 0 0, .slice none 0 0] 25), (2, .own p_1 ([(SlaveStart.mk 10 1)]).length c_1 ([iv 10, iv 1]) 57 2), (3, .own p_3 l.length c_3 cs 66 6), (4, .cells b_1 [iv 12, .slice p_1 ([(SlaveStart.mk 10 1)]).length c_1, .slice p_3 l.length c_3] 25), (5, .own none ([] : List SlaveEvent).length 0 ([]) 66 6), (6, .own p_4 ([rv_1]).length c_4 cs_1 66 6)] w ∧ Reps C_SlaveEvent D0 ([rv_1]) cs_1) (hS.weak (ms := [(1, .cells b [iv 0, .slice none 0 0, .slice none 0 0] 25), (2, .own p_1 ([(SlaveStart.mk 10 1)]).length c_1 ([iv 10, iv 1]) 57 2), (3, .own p_3 l.length c_3 cs 66 6), (4, .cells b_1 [iv 12, .slice p_1 ([(SlaveStart.mk 10 1)]).length c_1, .slice p_3 l.length c_3] 25), (5, .own none ([] : List SlaveEvent).length 0 ([]) 66 6)]) (AL rfl)).drew (fun _ _ _ _ h => h) ?_ ?_
  ·replace hS := hS.drew
   have hle0 := hS.le
   refine stepV (i := 0) rfl hF (fun w hS => Y.fieldAddr fo_25_2 hF rfl) rfl fun a hF => stepV (i := 1) rfl hF (fun w hS => Y.load1L 4 sz_23 hF rfl hS rfl rfl) rfl fun a hF => stepV (i := 2) rfl hF (fun w hS => Y.move hF rfl) rfl fun a hF => stepV (i := 3) rfl hF (fun w hS => Y.move hF rfl) rfl fun a hF => ?_
   obtain ⟨b_3, o_1, hE_1, hY_1⟩ := Y.indexS (P := Tryd.prog) (C := C_int) (xs := shown) (T := 26) (x := (.tmp 18)) (y := (.tmp 19)) u_26 sz_3 hF rfl rfl (hs).1 hx_1
   obtain ⟨cc_1, hc_1, hcell_1⟩ := hE_1.open
   obtain rfl := hc_1
   refine stepV (i := 4) rfl hF (fun w hS => hY_1) rfl fun a hF => stepV (i := 5) rfl hF (fun w hS => Y.load1 sz_3 hF rfl (hcell_1 _ hS.stab 0 _ rfl)) rfl fun a hF => oneV (i := 6) rfl ?_ trivial
   refine O.callP (us := [iv 0, iv e]) ca_42 hF hS (w7look_ok hS.stab 0 e rv_1 hx_2) rfl rfl fun a w hF hS => nT ⟨hS.weak (AL rfl), ?_⟩
   refine oneV (i := 7) rfl ?_ trivial
   have hr_4 : Reps C_SlaveEvent D0 [rv_1] [iv rv_1.Kind, iv rv_1.First, iv rv_1.Count, iv rv_1.Lost, iv rv_1.Who, iv rv_1.Shown] := Reps.cons (C := C_SlaveEvent) (x := rv_1) (c := [iv rv_1.Kind, iv rv_1.First, iv rv_1.Count, iv rv_1.Lost, iv rv_1.Who, iv rv_1.Shown]) (r := []) rfl (Reps.nil)
   refine O.buildSlice (E := 66) (C := C_SlaveEvent) (xs := [rv_1]) (cs := [iv rv_1.Kind, iv rv_1.First, iv rv_1.Count, iv rv_1.Lost, iv rv_1.Who, iv rv_1.Shown]) (us := [.agg #[iv rv_1.Kind, iv rv_1.First, iv rv_1.Count, iv rv_1.Lost, iv rv_1.Who, iv rv_1.Shown]]) (parts := [(0, (.tmp 22))]) 6 hF hS rfl (by kernel_rfl) hr_4 rfl rfl rfl fun p_5 c_5 a w hF hS => nT ⟨hS.weak (AL rfl), ?_⟩
   exact toTailV ⟨p_5, c_5, ([iv rv_1.Kind, iv rv_1.First, iv rv_1.Count, iv rv_1.Lost, iv rv_1.Who, iv rv_1.Shown]), hF.weak (AF rfl), hS.weak (AL rfl), hr_4⟩
  rintro a w ⟨p_4, c_4, cs_1, hF, hS, hj⟩
  obtain ⟨hg, h⟩ := ite_some h
  refine O.append (C := C_SlaveEvent) (xs := l) (ys := [rv_1]) 3 gr_23 hF rfl rfl hS rfl (src_own (i := 6) hS rfl) hr_2 hj hg rfl fun p_6 c_6 a w hF hS hr_5 => step hF (Y.fieldAddr fo_25_2 hF rfl) rfl fun a hF => O.store (us := [.slice p_6 (l ++ [rv_1]).length c_6]) 4 sz_23 hF rfl rfl rfl rfl hS rfl rfl fun a w hF hS => nil (blk_n (then_n (region (step hF (Y.move hF rfl) rfl fun a hF => step hF (Y.add hF rfl rfl) rfl fun a hF => step hF (Y.assign hF rfl) rfl fun a hF => nT (⟨_, nxt_some h, (wr (i + 1)), (l ++ [rv_1]), p_6, c_6, (cs ++ cs_1), rfl, hF.weak (AF rfl), hS.weak (AL rfl), hr_5⟩)))))
 replace h := cond_f h hbv
 refine exit_ (then_x (then_x (blk_hit (then_n ?_))))
 replace h := ext_some h hxo
 refine seq (region (step hF (Y.loadNL 4 sz_25 hF rfl hS rfl rfl rfl) rfl fun a hF => O.store (us := [iv 12, .slice p_1 ([(SlaveStart.mk 10 1)]).length c_1, .slice p_3 l.length c_3]) 1 sz_25 hF rfl rfl rfl rfl hS rfl rfl fun a w hF hS => nT (ret_ ?_)))
 obtain ⟨Dv, hlev, hs_1, hS⟩ := hS.freezeC (C := C_SlaveStart) (i := 2) (xs := [(SlaveStart.mk 10 1)]) rfl hr
 replace hr_2 := hr_2.mono hlev
 obtain ⟨Dv_1, hlev_1, hs_2, hS⟩ := hS.freezeC (C := C_SlaveEvent) (i := 3) (xs := l) rfl hr_2
 replace hs_1 := hs_1.mono hlev_1
 obtain rfl := some_inj h
 exact leaveS Tryd.results55 hF hS (.cons (.cellN 1 sz_25 rfl rfl rfl) .nil) .nil ⟨_, _, _, _, rfl, hs_1, hs_2⟩
end Go.Proofs.YtmbgmefmkjeahaaDoor.Rt
