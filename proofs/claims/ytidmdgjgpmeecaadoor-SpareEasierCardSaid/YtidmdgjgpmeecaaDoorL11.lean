/- Walks of the functions of this seat: what each Go function comes to, as a Lean function, and the proof. A law. Under no conditions. -/
import Derived.Test.YtidmdgjgpmeecaaDoorWSZ
set_option linter.unusedVariables false
set_option linter.unusedSimpArgs false
set_option maxRecDepth 100000
set_option maxHeartbeats 4000000
namespace Go.Proofs.YtidmdgjgpmeecaaDoor.Rt
open Go Go.RowKit
noncomputable def remontoirlaw08_SpareEasier (sv : SpareStore) (more : SpareMachine) (n : Arr3) : Option Bool :=
  (remontoirlaw08_sound sv).bind fun rv =>
  cond (!rv)
  ((remontoirlaw08_works).bind fun rv_1 =>
  some rv_1)
  (if ([] : List SpareMachine).length + sv.Machines.length ≤ lim then
  (remontoirref00_Rest n.a1 (sv.Machines.length : Int)).bind fun rv_2 =>
  (remontoirref00_Rest n.a2 10).bind fun rv_3 =>
  (idx sv.Machines rv_2).bind fun e =>
  (remontoirref00_Rest n.a0 7).bind fun rv_4 =>
  cond (rv_4 == 0)
  (if (([] : List SpareMachine) ++ sv.Machines).length + ([more]).length ≤ lim then
  if (0 : Int) ≤ rv_2 ∧ rv_2 < (((([] : List SpareMachine) ++ sv.Machines) ++ [more]).length : Int) then
  (spare_Fewest sv).bind fun rv_5 =>
  (spare_Fewest (SpareStore.mk sv.Hours sv.Gap (((([] : List SpareMachine) ++ sv.Machines) ++ [more]).set (Int.toNat rv_2) e))).bind fun rv_6 =>
  (spare_Reach sv).bind fun rv_7 =>
  (spare_Reach (SpareStore.mk sv.Hours sv.Gap (((([] : List SpareMachine) ++ sv.Machines) ++ [more]).set (Int.toNat rv_2) e))).bind fun rv_8 =>
  cond (rv_6.2 == 80)
  ((remontoirref00_Rest n.a0 7).bind fun rv_9 =>
  (cond ((rv_9 == 0) && (rv_8.2 == rv_6.2)) ((remontoirlaw08_works).bind fun rv_10 =>
  some rv_10) (some false)).bind fun t =>
  some t)
  (cond (((rv_5.2 == 0) && ((rv_6.2 != 0) || (decide (rv_6.1 > rv_5.1)))) || ((rv_5.2 != 0) && (rv_5.2 != 4)))
  (some false)
  ((cond (((rv_7.2 == 0) && (rv_8.2 == 0)) && (decide (rv_8.1 ≥ rv_7.1))) ((remontoirlaw08_works).bind fun rv_11 =>
  some rv_11) (some false)).bind fun t_1 =>
  some t_1))
  else none
  else none)
  (cond (rv_4 == 1)
  ((remontoirref00_To (if wr (e.Life.Low + rv_3) < 500 then wr (e.Life.Low + rv_3) else 500) (if wr (e.Life.High + rv_3) < 500 then wr (e.Life.High + rv_3) else 500)).bind fun rv_12 =>
  if (0 : Int) ≤ rv_2 ∧ rv_2 < ((([] : List SpareMachine) ++ sv.Machines).length : Int) then
  (spare_Fewest sv).bind fun rv_13 =>
  (spare_Fewest (SpareStore.mk sv.Hours sv.Gap ((([] : List SpareMachine) ++ sv.Machines).set (Int.toNat rv_2) (SpareMachine.mk e.From e.Warm rv_12 e.Drift)))).bind fun rv_14 =>
  (spare_Reach sv).bind fun rv_15 =>
  (spare_Reach (SpareStore.mk sv.Hours sv.Gap ((([] : List SpareMachine) ++ sv.Machines).set (Int.toNat rv_2) (SpareMachine.mk e.From e.Warm rv_12 e.Drift)))).bind fun rv_16 =>
  cond (rv_14.2 == 80)
  ((remontoirref00_Rest n.a0 7).bind fun rv_17 =>
  (cond ((rv_17 == 0) && (rv_16.2 == rv_14.2)) ((remontoirlaw08_works).bind fun rv_18 =>
  some rv_18) (some false)).bind fun t_2 =>
  some t_2)
  (cond (((rv_13.2 == 0) && ((rv_14.2 != 0) || (decide (rv_14.1 > rv_13.1)))) || ((rv_13.2 != 0) && (rv_13.2 != 4)))
  (some false)
  ((cond (((rv_15.2 == 0) && (rv_16.2 == 0)) && (decide (rv_16.1 ≥ rv_15.1))) ((remontoirlaw08_works).bind fun rv_19 =>
  some rv_19) (some false)).bind fun t_3 =>
  some t_3))
  else none)
  (cond (rv_4 == 2)
  (if (0 : Int) ≤ rv_2 ∧ rv_2 < ((([] : List SpareMachine) ++ sv.Machines).length : Int) then
  (spare_Fewest sv).bind fun rv_20 =>
  (spare_Fewest (SpareStore.mk sv.Hours sv.Gap ((([] : List SpareMachine) ++ sv.Machines).set (Int.toNat rv_2) (SpareMachine.mk e.From (if wr (e.Warm - rv_3) > 0 then wr (e.Warm - rv_3) else 0) e.Life e.Drift)))).bind fun rv_21 =>
  (spare_Reach sv).bind fun rv_22 =>
  (spare_Reach (SpareStore.mk sv.Hours sv.Gap ((([] : List SpareMachine) ++ sv.Machines).set (Int.toNat rv_2) (SpareMachine.mk e.From (if wr (e.Warm - rv_3) > 0 then wr (e.Warm - rv_3) else 0) e.Life e.Drift)))).bind fun rv_23 =>
  cond (rv_21.2 == 80)
  ((remontoirref00_Rest n.a0 7).bind fun rv_24 =>
  (cond ((rv_24 == 0) && (rv_23.2 == rv_21.2)) ((remontoirlaw08_works).bind fun rv_25 =>
  some rv_25) (some false)).bind fun t_4 =>
  some t_4)
  (cond (((rv_20.2 == 0) && ((rv_21.2 != 0) || (decide (rv_21.1 > rv_20.1)))) || ((rv_20.2 != 0) && (rv_20.2 != 4)))
  (some false)
  ((cond (((rv_22.2 == 0) && (rv_23.2 == 0)) && (decide (rv_23.1 ≥ rv_22.1))) ((remontoirlaw08_works).bind fun rv_26 =>
  some rv_26) (some false)).bind fun t_5 =>
  some t_5))
  else none)
  (cond (rv_4 == 3)
  (if (0 : Int) ≤ rv_2 ∧ rv_2 < ((([] : List SpareMachine) ++ sv.Machines).length : Int) then
  (spare_Fewest sv).bind fun rv_27 =>
  (spare_Fewest (SpareStore.mk sv.Hours sv.Gap ((([] : List SpareMachine) ++ sv.Machines).set (Int.toNat rv_2) (SpareMachine.mk (if wr (e.From - rv_3) > -500 then wr (e.From - rv_3) else -500) e.Warm e.Life e.Drift)))).bind fun rv_28 =>
  (spare_Reach sv).bind fun rv_29 =>
  (spare_Reach (SpareStore.mk sv.Hours sv.Gap ((([] : List SpareMachine) ++ sv.Machines).set (Int.toNat rv_2) (SpareMachine.mk (if wr (e.From - rv_3) > -500 then wr (e.From - rv_3) else -500) e.Warm e.Life e.Drift)))).bind fun rv_30 =>
  cond (rv_28.2 == 80)
  ((remontoirref00_Rest n.a0 7).bind fun rv_31 =>
  (cond ((rv_31 == 0) && (rv_30.2 == rv_28.2)) ((remontoirlaw08_works).bind fun rv_32 =>
  some rv_32) (some false)).bind fun t_6 =>
  some t_6)
  (cond (((rv_27.2 == 0) && ((rv_28.2 != 0) || (decide (rv_28.1 > rv_27.1)))) || ((rv_27.2 != 0) && (rv_27.2 != 4)))
  (some false)
  ((cond (((rv_29.2 == 0) && (rv_30.2 == 0)) && (decide (rv_30.1 ≥ rv_29.1))) ((remontoirlaw08_works).bind fun rv_33 =>
  some rv_33) (some false)).bind fun t_7 =>
  some t_7))
  else none)
  (cond (rv_4 == 4)
  (if (0 : Int) ≤ rv_2 ∧ rv_2 < ((([] : List SpareMachine) ++ sv.Machines).length : Int) then
  (spare_Fewest sv).bind fun rv_34 =>
  (spare_Fewest (SpareStore.mk sv.Hours sv.Gap ((([] : List SpareMachine) ++ sv.Machines).set (Int.toNat rv_2) (SpareMachine.mk e.From e.Warm e.Life (if wr (e.Drift - rv_3) > 0 then wr (e.Drift - rv_3) else 0))))).bind fun rv_35 =>
  (spare_Reach sv).bind fun rv_36 =>
  (spare_Reach (SpareStore.mk sv.Hours sv.Gap ((([] : List SpareMachine) ++ sv.Machines).set (Int.toNat rv_2) (SpareMachine.mk e.From e.Warm e.Life (if wr (e.Drift - rv_3) > 0 then wr (e.Drift - rv_3) else 0))))).bind fun rv_37 =>
  cond (rv_35.2 == 80)
  ((remontoirref00_Rest n.a0 7).bind fun rv_38 =>
  (cond ((rv_38 == 0) && (rv_37.2 == rv_35.2)) ((remontoirlaw08_works).bind fun rv_39 =>
  some rv_39) (some false)).bind fun t_8 =>
  some t_8)
  (cond (((rv_34.2 == 0) && ((rv_35.2 != 0) || (decide (rv_35.1 > rv_34.1)))) || ((rv_34.2 != 0) && (rv_34.2 != 4)))
  (some false)
  ((cond (((rv_36.2 == 0) && (rv_37.2 == 0)) && (decide (rv_37.1 ≥ rv_36.1))) ((remontoirlaw08_works).bind fun rv_40 =>
  some rv_40) (some false)).bind fun t_9 =>
  some t_9))
  else none)
  (cond (rv_4 == 5)
  (if (0 : Int) ≤ rv_2 ∧ rv_2 < ((([] : List SpareMachine) ++ sv.Machines).length : Int) then
  (spare_Fewest sv).bind fun rv_41 =>
  (spare_Fewest (SpareStore.mk sv.Hours (if wr (sv.Gap + rv_3) < 1000 then wr (sv.Gap + rv_3) else 1000) ((([] : List SpareMachine) ++ sv.Machines).set (Int.toNat rv_2) e))).bind fun rv_42 =>
  (spare_Reach sv).bind fun rv_43 =>
  (spare_Reach (SpareStore.mk sv.Hours (if wr (sv.Gap + rv_3) < 1000 then wr (sv.Gap + rv_3) else 1000) ((([] : List SpareMachine) ++ sv.Machines).set (Int.toNat rv_2) e))).bind fun rv_44 =>
  cond (rv_42.2 == 80)
  ((remontoirref00_Rest n.a0 7).bind fun rv_45 =>
  (cond ((rv_45 == 0) && (rv_44.2 == rv_42.2)) ((remontoirlaw08_works).bind fun rv_46 =>
  some rv_46) (some false)).bind fun t_10 =>
  some t_10)
  (cond (((rv_41.2 == 0) && ((rv_42.2 != 0) || (decide (rv_42.1 > rv_41.1)))) || ((rv_41.2 != 0) && (rv_41.2 != 4)))
  (some false)
  ((cond (((rv_43.2 == 0) && (rv_44.2 == 0)) && (decide (rv_44.1 ≥ rv_43.1))) ((remontoirlaw08_works).bind fun rv_47 =>
  some rv_47) (some false)).bind fun t_11 =>
  some t_11))
  else none)
  (if (0 : Int) ≤ rv_2 ∧ rv_2 < ((([] : List SpareMachine) ++ sv.Machines).length : Int) then
  (spare_Fewest sv).bind fun rv_48 =>
  (spare_Fewest (SpareStore.mk (if wr (sv.Hours - rv_3) > 1 then wr (sv.Hours - rv_3) else 1) sv.Gap ((([] : List SpareMachine) ++ sv.Machines).set (Int.toNat rv_2) e))).bind fun rv_49 =>
  (spare_Reach sv).bind fun rv_50 =>
  (spare_Reach (SpareStore.mk (if wr (sv.Hours - rv_3) > 1 then wr (sv.Hours - rv_3) else 1) sv.Gap ((([] : List SpareMachine) ++ sv.Machines).set (Int.toNat rv_2) e))).bind fun rv_51 =>
  cond (rv_49.2 == 80)
  ((remontoirref00_Rest n.a0 7).bind fun rv_52 =>
  (cond ((rv_52 == 0) && (rv_51.2 == rv_49.2)) ((remontoirlaw08_works).bind fun rv_53 =>
  some rv_53) (some false)).bind fun t_12 =>
  some t_12)
  (cond (((rv_48.2 == 0) && ((rv_49.2 != 0) || (decide (rv_49.1 > rv_48.1)))) || ((rv_48.2 != 0) && (rv_48.2 != 4)))
  (some false)
  ((cond (((rv_50.2 == 0) && (rv_51.2 == 0)) && (decide (rv_51.1 ≥ rv_50.1))) ((remontoirlaw08_works).bind fun rv_54 =>
  some rv_54) (some false)).bind fun t_13 =>
  some t_13))
  else none))))))
  else none)
theorem remontoirlaw08_SpareEasier_ok {w0 : World} {D0 : Stab} (hD : D0.on w0) (sv : SpareStore) (more : SpareMachine) (n : Arr3) {p : Option Addr} {c : Nat} (hs : SRc C_SpareMachine D0 sv.Machines p c) (hG : Glob D0) (out : Bool) (h : remontoirlaw08_SpareEasier sv more n = some out) : Calls Tryd.prog 11 [.agg #[.int .i64 sv.Hours, .int .i64 sv.Gap, .slice p sv.Machines.length c], .agg #[.int .i64 more.From, .int .i64 more.Warm, .int .i64 more.Life.Low, .int .i64 more.Life.High, .int .i64 more.Drift], .agg #[.int .i64 n.a0, .int .i64 n.a1, .int .i64 n.a2]].toArray w0 (RetP D0 w0 (.bool out)) := by
 refine enter _ 180 Tryd.func11 rfl Tryd.ntmps11 rfl fun a hF => ?_
 replace hF : Frm 180 [] [(0, .agg #[.int .i64 sv.Hours, .int .i64 sv.Gap, .slice p sv.Machines.length c]), (1, .agg #[.int .i64 more.From, .int .i64 more.Warm, .int .i64 more.Life.Low, .int .i64 more.Life.High, .int .i64 more.Drift]), (2, .agg #[.int .i64 n.a0, .int .i64 n.a1, .int .i64 n.a2])] a := hF
 have hS := St.start hD
 unfold remontoirlaw08_SpareEasier at h
 refine seq ?_
 refine region ?_
 refine O.box (cs := [.int .i64 sv.Hours, .int .i64 sv.Gap, .slice p sv.Machines.length c]) 1 hF rfl rfl hS rfl fun b a w hF hS => ?_
 refine O.box (cs := [.int .i64 more.From, .int .i64 more.Warm, .int .i64 more.Life.Low, .int .i64 more.Life.High, .int .i64 more.Drift]) 2 hF rfl rfl hS rfl fun b_1 a w hF hS => ?_
 refine O.box (cs := [.int .i64 n.a0, .int .i64 n.a1, .int .i64 n.a2]) 3 hF rfl rfl hS rfl fun b_2 a w hF hS => ?_
 refine step hF (Y.assign hF rfl) rfl fun a hF => ?_
 refine nil (then_n ?_)
 refine seq ?_
 refine seq ?_
 refine region ?_
 refine step hF (Y.loadNL 1 sz_24 hF rfl hS rfl rfl rfl) rfl fun a hF => ?_
 obtain ⟨rv, hx, h⟩ := bind_some h
 refine O.callP (us := [.agg #[.int .i64 sv.Hours, .int .i64 sv.Gap, .slice p sv.Machines.length c]]) ca_34 hF hS (remontoirlaw08_sound_ok hS.stab sv hs rv hx) rfl rfl fun a w hF hS => ?_
 refine step hF (Y.not hF rfl) rfl fun a hF => ?_
 refine nil (then_n ?_)
 refine cond_b hF rfl (fun hbv => ?_) (fun hbv => ?_)
 ·replace h := cond_t h hbv
  refine seq ?_
  refine region ?_
  obtain ⟨rv_1, hx_1, h⟩ := bind_some h
  refine O.callP (us := []) ca_21 hF hS (remontoirlaw08_works_ok hS.stab hG rv_1 hx_1) rfl rfl fun a w hF hS => ?_
  refine step hF (Y.assign hF rfl) rfl fun a hF => ?_
  refine nil (then_n ?_)
  refine ret_ (then_r ?_)
  obtain rfl := some_inj h
  exact leaveP Tryd.results11 hF hS (.cons (.tmp rfl) .nil) .nil rfl
 ·as_aux_lemma =>
   replace h := cond_f h hbv
   refine skip_ (then_n ?_)
   refine seq ?_
   refine region ?_
   refine step hF (Y.loadNL 1 sz_24 hF rfl hS rfl rfl rfl) rfl fun a hF => ?_
   refine O.alloc 4 zc_24 hF hS rfl fun b_3 a w hF hS => ?_
   replace hS := hS.ownNil 5 52 5
   refine O.store (us := [.int .i64 sv.Hours, .int .i64 sv.Gap, .slice p sv.Machines.length c]) 4 sz_24 hF rfl rfl rfl rfl hS rfl rfl fun a w hF hS => ?_
   refine nil (then_n ?_)
   refine seq ?_
   refine region ?_
   have hr : Reps C_SpareMachine D0 ([] : List SpareMachine) [] := Reps.nil
   refine O.buildSlice (E := 52) (C := C_SpareMachine) (xs := ([] : List SpareMachine)) (cs := []) (us := []) (parts := []) 6 hF hS rfl (by kernel_rfl) hr rfl rfl rfl fun p_1 c_1 a w hF hS => ?_
   refine step hF (Y.fieldAddr fo_24_2 hF rfl) rfl fun a hF => ?_
   refine step hF (Y.load1L 1 sz_22 hF rfl hS rfl rfl) rfl fun a hF => ?_
   obtain ⟨hg, h⟩ := ite_some h
   obtain ⟨ds, hds, hsrc⟩ := src_stab (C := C_SpareMachine) (xs := sv.Machines) (hs).1 hS.stab
   refine O.append (C := C_SpareMachine) (xs := ([] : List SpareMachine)) (ys := sv.Machines) 6 gr_22 hF rfl rfl hS rfl hsrc hr hds hg rfl fun p_2 c_2 a w hF hS hr_1 => ?_
   refine step hF (Y.fieldAddr fo_24_2 hF rfl) rfl fun a hF => ?_
   refine O.store (us := [.slice p_2 (([] : List SpareMachine) ++ sv.Machines).length c_2]) 4 sz_22 hF rfl rfl rfl rfl hS rfl rfl fun a w hF hS => ?_
   refine nil (then_n ?_)
   refine seq ?_
   obtain ⟨rv_2, hx_2, h⟩ := bind_some h
   refine drawsV 8 (.flt 0 (.flt 1 (.flt 2 (.flt 3 (.flt 4 (.flt 6 (.flt 7 (.alt 5 .done .stop)))))))) mixed_ (by kernel_rfl) (fun w => St w0 D0 D0 [(1, .cells b [.int .i64 sv.Hours, .int .i64 sv.Gap, .slice p sv.Machines.length c] 24), (2, .cells b_1 [.int .i64 more.From, .int .i64 more.Warm, .int .i64 more.Life.Low, .int .i64 more.Life.High, .int .i64 more.Drift] 52), (3, .cells b_2 [.int .i64 n.a0, .int .i64 n.a1, .int .i64 n.a2] 61), (4, .cells b_3 [.int .i64 sv.Hours, .int .i64 sv.Gap, .slice p_2 (([] : List SpareMachine) ++ sv.Machines).length c_2] 24), (5, .own none ([] : List SpareMachine).length 0 ([]) 52 5), (6, .own p_2 (([] : List SpareMachine) ++ sv.Machines).length c_2 ([] ++ ds) 52 5)] w) (fun a w => Frm 180 [] [(3, .pointer (some ⟨b, 0, none⟩)), (4, .pointer (some ⟨b_1, 0, none⟩)), (5, .pointer (some ⟨b_2, 0, none⟩)), (6, .bool false), (7, .pointer (some ⟨b_3, 0, none⟩)), (34, .int .i64 rv_2), (36, .int .i64 n.a2)] a ∧ St w0 D0 D0 [(1, .cells b [.int .i64 sv.Hours, .int .i64 sv.Gap, .slice p sv.Machines.length c] 24), (2, .cells b_1 [.int .i64 more.From, .int .i64 more.Warm, .int .i64 more.Life.Low, .int .i64 more.Life.High, .int .i64 more.Drift] 52), (3, .cells b_2 [.int .i64 n.a0, .int .i64 n.a1, .int .i64 n.a2] 61), (4, .cells b_3 [.int .i64 sv.Hours, .int .i64 sv.Gap, .slice p_2 (([] : List SpareMachine) ++ sv.Machines).length c_2] 24), (5, .own none ([] : List SpareMachine).length 0 ([]) 52 5), (6, .own p_2 (([] : List SpareMachine) ++ sv.Machines).length c_2 ([] ++ ds) 52 5)] w) (hS.weak (ms := [(1, .cells b [.int .i64 sv.Hours, .int .i64 sv.Gap, .slice p sv.Machines.length c] 24), (2, .cells b_1 [.int .i64 more.From, .int .i64 more.Warm, .int .i64 more.Life.Low, .int .i64 more.Life.High, .int .i64 more.Drift] 52), (3, .cells b_2 [.int .i64 n.a0, .int .i64 n.a1, .int .i64 n.a2] 61), (4, .cells b_3 [.int .i64 sv.Hours, .int .i64 sv.Gap, .slice p_2 (([] : List SpareMachine) ++ sv.Machines).length c_2] 24), (5, .own none ([] : List SpareMachine).length 0 ([]) 52 5), (6, .own p_2 (([] : List SpareMachine) ++ sv.Machines).length c_2 ([] ++ ds) 52 5)]) ⟨rfl, rfl, rfl, rfl, rfl, rfl, trivial⟩).drew (fun _ _ _ _ h => h) ?_ ?_
   ·replace hS := hS.drew
    have hle0 := hS.le
    refine stepV (i := 0) rfl hF (fun w hS => Y.indexArr u_61 sz_3 hF rfl rfl (by decide) (by decide)) rfl fun a hF => ?_
    refine stepV (i := 1) rfl hF (fun w hS => Y.load1L 3 sz_3 hF rfl hS rfl rfl) rfl fun a hF => ?_
    refine stepV (i := 2) rfl hF (fun w hS => Y.fieldAddr fo_24_2 hF rfl) rfl fun a hF => ?_
    refine stepV (i := 3) rfl hF (fun w hS => Y.load1L 1 sz_22 hF rfl hS rfl rfl) rfl fun a hF => ?_
    refine stepV (i := 4) rfl hF (fun w hS => Y.lenSl u_22 hF rfl) rfl fun a hF => ?_
    refine stepV (i := 6) rfl hF (fun w hS => Y.indexArr u_61 sz_3 hF rfl rfl (by decide) (by decide)) rfl fun a hF => ?_
    refine stepV (i := 7) rfl hF (fun w hS => Y.load1L 3 sz_3 hF rfl hS rfl rfl) rfl fun a hF => ?_
    refine oneV (i := 5) rfl ?_ trivial
    refine O.callP (us := [.int .i64 n.a1, .int .i64 (sv.Machines.length : Int)]) ca_42 hF hS (remontoirref00_Rest_ok hS.stab n.a1 (sv.Machines.length : Int) rv_2 hx_2) rfl rfl fun a w hF hS => ?_
    refine nil (then_n ⟨hS.weak ⟨rfl, rfl, rfl, rfl, rfl, rfl, trivial⟩, ?_⟩)
    exact toTailV ⟨hF.weak ⟨rfl, rfl, rfl, rfl, rfl, rfl, rfl, trivial⟩, hS.weak ⟨rfl, rfl, rfl, rfl, rfl, rfl, trivial⟩⟩
   rintro a w ⟨hF, hS⟩
   obtain ⟨rv_3, hx_3, h⟩ := bind_some h
   refine O.callP (us := [.int .i64 n.a2, .int .i64 10]) ca_42 hF hS (remontoirref00_Rest_ok hS.stab n.a2 10 rv_3 hx_3) rfl rfl fun a w hF hS => ?_
   refine step hF (Y.assign hF rfl) rfl fun a hF => ?_
   refine step hF (Y.assign hF rfl) rfl fun a hF => ?_
   refine nil (then_n ?_)
   refine seq ?_
   refine region ?_
   refine step hF (Y.fieldAddr fo_24_2 hF rfl) rfl fun a hF => ?_
   refine step hF (Y.load1L 1 sz_22 hF rfl hS rfl rfl) rfl fun a hF => ?_
   refine step hF (Y.move hF rfl) rfl fun a hF => ?_
   obtain ⟨e, hx_4, h⟩ := bind_some h
   obtain ⟨b_4, o, hE, hY⟩ := Y.indexS (P := Tryd.prog) (C := C_SpareMachine) (xs := sv.Machines) (T := 22) (x := (.tmp 39)) (y := (.tmp 40)) u_22 sz_52 hF rfl rfl (hs).1 hx_4
   obtain ⟨cc, hc, hcell⟩ := hE.open
   obtain rfl := C_SpareMachine.open hc
   refine step hF (hY) rfl fun a hF => ?_
   refine step hF (Y.loadNE (o := o) (k := 0) sz_52 hF rfl (hcell _ hS.stab) rfl rfl) rfl fun a hF => ?_
   refine O.alloc 7 zc_52 hF hS rfl fun b_5 a w hF hS => ?_
   refine O.store (us := [.int .i64 e.From, .int .i64 e.Warm, .int .i64 e.Life.Low, .int .i64 e.Life.High, .int .i64 e.Drift]) 7 sz_52 hF rfl rfl rfl rfl hS rfl rfl fun a w hF hS => ?_
   refine nil (then_n ?_)
   refine seq ?_
   refine seq ?_
   refine region ?_
   refine step hF (Y.indexArr u_61 sz_3 hF rfl rfl (by decide) (by decide)) rfl fun a hF => ?_
   refine step hF (Y.load1L 3 sz_3 hF rfl hS rfl rfl) rfl fun a hF => ?_
   obtain ⟨rv_4, hx_5, h⟩ := bind_some h
   refine O.callP (us := [.int .i64 n.a0, .int .i64 7]) ca_42 hF hS (remontoirref00_Rest_ok hS.stab n.a0 7 rv_4 hx_5) rfl rfl fun a w hF hS => ?_
   refine nil (then_n ?_)
   refine block ?_
   refine seq ?_
   refine region ?_
   refine step hF (Y.eql hF rfl rfl) rfl fun a hF => ?_
   refine step hF (Y.assign hF rfl) rfl fun a hF => ?_
   refine nil (then_n ?_)
   refine cond_b hF rfl (fun hbv_1 => ?_) (fun hbv_1 => ?_)
   ·as_aux_lemma =>
     replace h := cond_t h hbv_1
     refine region ?_
     refine step hF (Y.fieldAddr fo_24_2 hF rfl) rfl fun a hF => ?_
     refine step hF (Y.load1L 4 sz_22 hF rfl hS rfl rfl) rfl fun a hF => ?_
     refine step hF (Y.loadNL 2 sz_52 hF rfl hS rfl rfl rfl) rfl fun a hF => ?_
     have hr_2 : Reps C_SpareMachine D0 [more] [.int .i64 more.From, .int .i64 more.Warm, .int .i64 more.Life.Low, .int .i64 more.Life.High, .int .i64 more.Drift] := Reps.cons (C := C_SpareMachine) (x := more) (c := [.int .i64 more.From, .int .i64 more.Warm, .int .i64 more.Life.Low, .int .i64 more.Life.High, .int .i64 more.Drift]) (r := []) rfl (Reps.nil)
     refine O.buildSlice (E := 52) (C := C_SpareMachine) (xs := [more]) (cs := [.int .i64 more.From, .int .i64 more.Warm, .int .i64 more.Life.Low, .int .i64 more.Life.High, .int .i64 more.Drift]) (us := [.agg #[.int .i64 more.From, .int .i64 more.Warm, .int .i64 more.Life.Low, .int .i64 more.Life.High, .int .i64 more.Drift]]) (parts := [(0, (.tmp 56))]) 8 hF hS rfl (by kernel_rfl) hr_2 rfl rfl rfl fun p_3 c_3 a w hF hS => ?_
     obtain ⟨hg_1, h⟩ := ite_some h
     refine O.append (C := C_SpareMachine) (xs := (([] : List SpareMachine) ++ sv.Machines)) (ys := [more]) 6 gr_22 hF rfl rfl hS rfl (src_own (i := 8) hS rfl) hr_1 hr_2 hg_1 rfl fun p_4 c_4 a w hF hS hr_3 => ?_
     refine step hF (Y.fieldAddr fo_24_2 hF rfl) rfl fun a hF => ?_
     refine O.store (us := [.slice p_4 ((([] : List SpareMachine) ++ sv.Machines) ++ [more]).length c_4]) 4 sz_22 hF rfl rfl rfl rfl hS rfl rfl fun a w hF hS => ?_
     refine nil (blk_n (then_n ?_))
     refine seq ?_
     refine region ?_
     refine step hF (Y.fieldAddr fo_24_2 hF rfl) rfl fun a hF => ?_
     refine step hF (Y.load1L 4 sz_22 hF rfl hS rfl rfl) rfl fun a hF => ?_
     refine step hF (Y.move hF rfl) rfl fun a hF => ?_
     refine step hF (Y.loadNL 7 sz_52 hF rfl hS rfl rfl rfl) rfl fun a hF => ?_
     obtain ⟨hg_2, h⟩ := ite_some h
     obtain ⟨b_6, hp⟩ := hS.ownPtr (i := 6) rfl hg_2
     refine step hF (Y.indexOwn hp u_22 sz_52 hg_2 hF rfl rfl) rfl fun a hF => ?_
     refine O.storeOwnP (C := C_SpareMachine) (v0 := e) (xs := ((([] : List SpareMachine) ++ sv.Machines) ++ [more])) (us := [.int .i64 e.From, .int .i64 e.Warm, .int .i64 e.Life.Low, .int .i64 e.Life.High, .int .i64 e.Drift]) 6 hp sz_52 hg_2 hF rfl rfl rfl rfl hS rfl hr_3 fun cs a w hF hS hr_4 => ?_
     try rw [show ((([] : List SpareMachine) ++ sv.Machines) ++ [more]).length = (((([] : List SpareMachine) ++ sv.Machines) ++ [more]).set (Int.toNat rv_2) e).length from List.length_set.symm] at hF
     try rw [show ((([] : List SpareMachine) ++ sv.Machines) ++ [more]).length = (((([] : List SpareMachine) ++ sv.Machines) ++ [more]).set (Int.toNat rv_2) e).length from List.length_set.symm] at hS
     refine nil (then_n ?_)
     refine seq ?_
     refine region ?_
     refine step hF (Y.loadNL 1 sz_24 hF rfl hS rfl rfl rfl) rfl fun a hF => ?_
     obtain ⟨rv_5, hx_6, h⟩ := bind_some h
     refine O.callP (us := [.agg #[.int .i64 sv.Hours, .int .i64 sv.Gap, .slice p sv.Machines.length c]]) ca_22 hF hS (spare_Fewest_ok hS.stab sv hs hG rv_5 hx_6) rfl rfl fun a w hF hS => ?_
     refine step hF (Y.move hF rfl) rfl fun a hF => ?_
     refine step hF (Y.extract hF rfl rfl) rfl fun a hF => ?_
     refine step hF (Y.extract hF rfl rfl) rfl fun a hF => ?_
     refine step hF (Y.assign hF rfl) rfl fun a hF => ?_
     refine step hF (Y.assign hF rfl) rfl fun a hF => ?_
     refine nil (then_n ?_)
     refine seq ?_
     refine region ?_
     refine step hF (Y.loadNL 4 sz_24 hF rfl hS rfl rfl rfl) rfl fun a hF => ?_
     obtain ⟨Dv, hlev, hs_1, hS⟩ := hS.freezeC (i := 6) (xs := (((([] : List SpareMachine) ++ sv.Machines) ++ [more]).set (Int.toNat rv_2) e)) rfl hr_4
     replace hs := hs.mono hlev
     replace hG := hG.mono hlev
     replace hr := hr.mono hlev
     replace hr_1 := hr_1.mono hlev
     replace hcell := fun w hw => hcell w (Stab.on.le hw hlev)
     replace hr_2 := hr_2.mono hlev
     replace hr_3 := hr_3.mono hlev
     replace hr_4 := hr_4.mono hlev
     obtain ⟨rv_6, hx_7, h⟩ := bind_some h
     refine O.callP (us := [.agg #[.int .i64 sv.Hours, .int .i64 sv.Gap, .slice p_4 (((([] : List SpareMachine) ++ sv.Machines) ++ [more]).set (Int.toNat rv_2) e).length c_4]]) ca_22 hF hS (spare_Fewest_ok hS.stab (SpareStore.mk sv.Hours sv.Gap (((([] : List SpareMachine) ++ sv.Machines) ++ [more]).set (Int.toNat rv_2) e)) hs_1 hG rv_6 hx_7) rfl rfl fun a w hF hS => ?_
     refine step hF (Y.move hF rfl) rfl fun a hF => ?_
     refine step hF (Y.extract hF rfl rfl) rfl fun a hF => ?_
     refine step hF (Y.extract hF rfl rfl) rfl fun a hF => ?_
     refine step hF (Y.assign hF rfl) rfl fun a hF => ?_
     refine step hF (Y.assign hF rfl) rfl fun a hF => ?_
     refine nil (then_n ?_)
     refine seq ?_
     refine region ?_
     refine step hF (Y.loadNL 1 sz_24 hF rfl hS rfl rfl rfl) rfl fun a hF => ?_
     obtain ⟨rv_7, hx_8, h⟩ := bind_some h
     refine O.callP (us := [.agg #[.int .i64 sv.Hours, .int .i64 sv.Gap, .slice p sv.Machines.length c]]) ca_25 hF hS (spare_Reach_ok hS.stab sv hs hG rv_7 hx_8) rfl rfl fun a w hF hS => ?_
     refine step hF (Y.move hF rfl) rfl fun a hF => ?_
     refine step hF (Y.extract hF rfl rfl) rfl fun a hF => ?_
     refine step hF (Y.extract hF rfl rfl) rfl fun a hF => ?_
     refine step hF (Y.assign hF rfl) rfl fun a hF => ?_
     refine step hF (Y.assign hF rfl) rfl fun a hF => ?_
     refine nil (then_n ?_)
     refine seq ?_
     refine region ?_
     refine step hF (Y.loadNL 4 sz_24 hF rfl hS rfl rfl rfl) rfl fun a hF => ?_
     obtain ⟨rv_8, hx_9, h⟩ := bind_some h
     refine O.callP (us := [.agg #[.int .i64 sv.Hours, .int .i64 sv.Gap, .slice p_4 (((([] : List SpareMachine) ++ sv.Machines) ++ [more]).set (Int.toNat rv_2) e).length c_4]]) ca_25 hF hS (spare_Reach_ok hS.stab (SpareStore.mk sv.Hours sv.Gap (((([] : List SpareMachine) ++ sv.Machines) ++ [more]).set (Int.toNat rv_2) e)) hs_1 hG rv_8 hx_9) rfl rfl fun a w hF hS => ?_
     refine step hF (Y.move hF rfl) rfl fun a hF => ?_
     refine step hF (Y.extract hF rfl rfl) rfl fun a hF => ?_
     refine step hF (Y.extract hF rfl rfl) rfl fun a hF => ?_
     refine step hF (Y.assign hF rfl) rfl fun a hF => ?_
     refine step hF (Y.assign hF rfl) rfl fun a hF => ?_
     refine nil (then_n ?_)
     refine seq ?_
     refine seq ?_
     refine region ?_
     refine step hF (Y.move hF rfl) rfl fun a hF => ?_
     refine step hF (Y.eql hF rfl rfl) rfl fun a hF => ?_
     refine nil (then_n ?_)
     refine cond_b hF rfl (fun hbv_2 => ?_) (fun hbv_2 => ?_)
     ·replace h := cond_t h hbv_2
      refine seq ?_
      refine region ?_
      refine step hF (Y.indexArr u_61 sz_3 hF rfl rfl (by decide) (by decide)) rfl fun a hF => ?_
      refine step hF (Y.load1L 3 sz_3 hF rfl hS rfl rfl) rfl fun a hF => ?_
      obtain ⟨rv_9, hx_10, h⟩ := bind_some h
      refine O.callP (us := [.int .i64 n.a0, .int .i64 7]) ca_42 hF hS (remontoirref00_Rest_ok hS.stab n.a0 7 rv_9 hx_10) rfl rfl fun a w hF hS => ?_
      refine step hF (Y.eql hF rfl rfl) rfl fun a hF => ?_
      refine step hF (Y.move hF rfl) rfl fun a hF => ?_
      refine join (N := 180) (rs := []) (w0 := w0) (D0 := D0) 4 (us := [(6, .bool false), (11, .int .i64 rv_5.1), (12, .int .i64 rv_5.2), (13, .int .i64 rv_6.1), (14, .int .i64 rv_6.2), (15, .int .i64 rv_7.1), (16, .int .i64 rv_7.2), (17, .int .i64 rv_8.1), (18, .int .i64 rv_8.2), (143, .bool ((rv_9 == 0) && (rv_8.2 == rv_6.2)))]) (ms := [(1, .cells b [.int .i64 sv.Hours, .int .i64 sv.Gap, .slice p sv.Machines.length c] 24), (2, .cells b_1 [.int .i64 more.From, .int .i64 more.Warm, .int .i64 more.Life.Low, .int .i64 more.Life.High, .int .i64 more.Drift] 52), (3, .cells b_2 [.int .i64 n.a0, .int .i64 n.a1, .int .i64 n.a2] 61), (4, .cells b_3 [.int .i64 sv.Hours, .int .i64 sv.Gap, .slice p_4 (((([] : List SpareMachine) ++ sv.Machines) ++ [more]).set (Int.toNat rv_2) e).length c_4] 24), (5, .own none ([] : List SpareMachine).length 0 ([]) 52 5), (7, .cells b_5 [.int .i64 e.From, .int .i64 e.Warm, .int .i64 e.Life.Low, .int .i64 e.Life.High, .int .i64 e.Drift] 52), (8, .own p_3 ([more]).length c_3 ([.int .i64 more.From, .int .i64 more.Warm, .int .i64 more.Life.Low, .int .i64 more.Life.High, .int .i64 more.Drift]) 52 5)]) (D' := Dv) ?_ ?_
      ·rcases bcases (rv_9 == 0) with hbv_3 | hbv_3
       ·-- true
        refine guard_on hF rfl rfl hbv_3 ?_
        refine step hF (Y.move hF rfl) rfl fun a hF => ?_
        refine guard_on hF rfl rfl hbv_3 ?_
        refine step hF (Y.move hF rfl) rfl fun a hF => ?_
        refine guard_on hF rfl rfl hbv_3 ?_
        refine step hF (Y.eql hF rfl rfl) rfl fun a hF => ?_
        refine step hF (Y.pick_t hF rfl hbv_3 rfl) rfl fun a hF => ?_
        exact nil (then_n ⟨hF.weak ⟨rfl, rfl, rfl, rfl, rfl, rfl, rfl, rfl, rfl, (by rw [hbv_3]; rfl), trivial⟩, hS.weak ⟨rfl, rfl, rfl, rfl, rfl, rfl, rfl, trivial⟩⟩)
       ·-- false
        refine guard_off hF rfl rfl hbv_3 rfl fun a hF => ?_
        refine guard_off hF rfl rfl hbv_3 rfl fun a hF => ?_
        refine guard_off hF rfl rfl hbv_3 rfl fun a hF => ?_
        refine step hF (Y.pick_f hF rfl hbv_3 rfl) rfl fun a hF => ?_
        exact nil (then_n ⟨hF.weak ⟨rfl, rfl, rfl, rfl, rfl, rfl, rfl, rfl, rfl, (by rw [hbv_3]; rfl), trivial⟩, hS.weak ⟨rfl, rfl, rfl, rfl, rfl, rfl, rfl, trivial⟩⟩)
      intro a w hF hS
      refine step hF (Y.move hF rfl) rfl fun a hF => ?_
      obtain ⟨t, ht, h⟩ := bind_some h
      refine join (N := 180) (rs := []) (w0 := w0) (D0 := D0) 2 (us := [(6, .bool false), (11, .int .i64 rv_5.1), (12, .int .i64 rv_5.2), (13, .int .i64 rv_6.1), (14, .int .i64 rv_6.2), (15, .int .i64 rv_7.1), (16, .int .i64 rv_7.2), (17, .int .i64 rv_8.1), (18, .int .i64 rv_8.2), (146, .bool t)]) (ms := [(1, .cells b [.int .i64 sv.Hours, .int .i64 sv.Gap, .slice p sv.Machines.length c] 24), (2, .cells b_1 [.int .i64 more.From, .int .i64 more.Warm, .int .i64 more.Life.Low, .int .i64 more.Life.High, .int .i64 more.Drift] 52), (3, .cells b_2 [.int .i64 n.a0, .int .i64 n.a1, .int .i64 n.a2] 61), (4, .cells b_3 [.int .i64 sv.Hours, .int .i64 sv.Gap, .slice p_4 (((([] : List SpareMachine) ++ sv.Machines) ++ [more]).set (Int.toNat rv_2) e).length c_4] 24), (5, .own none ([] : List SpareMachine).length 0 ([]) 52 5), (7, .cells b_5 [.int .i64 e.From, .int .i64 e.Warm, .int .i64 e.Life.Low, .int .i64 e.Life.High, .int .i64 e.Drift] 52), (8, .own p_3 ([more]).length c_3 ([.int .i64 more.From, .int .i64 more.Warm, .int .i64 more.Life.Low, .int .i64 more.Life.High, .int .i64 more.Drift]) 52 5)]) (D' := Dv) ?_ ?_
      ·rcases bcases ((rv_9 == 0) && (rv_8.2 == rv_6.2)) with hbv_4 | hbv_4
       ·-- true
        replace h := cond_t ht hbv_4
        refine guard_on hF rfl rfl hbv_4 ?_
        obtain ⟨rv_10, hx_11, h⟩ := bind_some h
        refine O.callP (us := []) ca_21 hF hS (remontoirlaw08_works_ok hS.stab hG rv_10 hx_11) rfl rfl fun a w hF hS => ?_
        refine step hF (Y.pick_t hF rfl hbv_4 rfl) rfl fun a hF => ?_
        obtain rfl := some_inj h
        exact nil (then_n ⟨hF.weak ⟨rfl, rfl, rfl, rfl, rfl, rfl, rfl, rfl, rfl, rfl, trivial⟩, hS.weak ⟨rfl, rfl, rfl, rfl, rfl, rfl, rfl, trivial⟩⟩)
       ·-- false
        replace h := cond_f ht hbv_4
        refine guard_off hF rfl rfl hbv_4 rfl fun a hF => ?_
        refine step hF (Y.pick_f hF rfl hbv_4 rfl) rfl fun a hF => ?_
        obtain rfl := some_inj h
        exact nil (then_n ⟨hF.weak ⟨rfl, rfl, rfl, rfl, rfl, rfl, rfl, rfl, rfl, rfl, trivial⟩, hS.weak ⟨rfl, rfl, rfl, rfl, rfl, rfl, rfl, trivial⟩⟩)
      intro a w hF hS
      refine step hF (Y.assign hF rfl) rfl fun a hF => ?_
      refine nil (then_n ?_)
      refine ret_ (then_r ?_)
      obtain rfl := some_inj h
      exact leaveP Tryd.results11 hF hS (.cons (.tmp rfl) .nil) .nil rfl
     ·as_aux_lemma =>
       replace h := cond_f h hbv_2
       refine skip_ (then_n ?_)
       refine seq ?_
       refine seq ?_
       refine region ?_
       refine step hF (Y.move hF rfl) rfl fun a hF => ?_
       refine step hF (Y.eql hF rfl rfl) rfl fun a hF => ?_
       refine step hF (Y.move hF rfl) rfl fun a hF => ?_
       refine join (N := 180) (rs := []) (w0 := w0) (D0 := D0) 8 (us := [(6, .bool false), (12, .int .i64 rv_5.2), (15, .int .i64 rv_7.1), (16, .int .i64 rv_7.2), (17, .int .i64 rv_8.1), (18, .int .i64 rv_8.2), (157, .bool ((rv_5.2 == 0) && ((rv_6.2 != 0) || (decide (rv_6.1 > rv_5.1)))))]) (ms := [(1, .cells b [.int .i64 sv.Hours, .int .i64 sv.Gap, .slice p sv.Machines.length c] 24), (2, .cells b_1 [.int .i64 more.From, .int .i64 more.Warm, .int .i64 more.Life.Low, .int .i64 more.Life.High, .int .i64 more.Drift] 52), (3, .cells b_2 [.int .i64 n.a0, .int .i64 n.a1, .int .i64 n.a2] 61), (4, .cells b_3 [.int .i64 sv.Hours, .int .i64 sv.Gap, .slice p_4 (((([] : List SpareMachine) ++ sv.Machines) ++ [more]).set (Int.toNat rv_2) e).length c_4] 24), (5, .own none ([] : List SpareMachine).length 0 ([]) 52 5), (7, .cells b_5 [.int .i64 e.From, .int .i64 e.Warm, .int .i64 e.Life.Low, .int .i64 e.Life.High, .int .i64 e.Drift] 52), (8, .own p_3 ([more]).length c_3 ([.int .i64 more.From, .int .i64 more.Warm, .int .i64 more.Life.Low, .int .i64 more.Life.High, .int .i64 more.Drift]) 52 5)]) (D' := Dv) ?_ ?_
       ·rcases bcases (rv_5.2 == 0) with hbv_5 | hbv_5
        ·-- true
         refine guard_on hF rfl rfl hbv_5 ?_
         refine step hF (Y.move hF rfl) rfl fun a hF => ?_
         refine guard_on hF rfl rfl hbv_5 ?_
         refine step hF (Y.neq hF rfl rfl) rfl fun a hF => ?_
         refine guard_on hF rfl rfl hbv_5 ?_
         refine step hF (Y.move hF rfl) rfl fun a hF => ?_
         refine join (N := 180) (rs := []) (w0 := w0) (D0 := D0) 4 (us := [(6, .bool false), (12, .int .i64 rv_5.2), (15, .int .i64 rv_7.1), (16, .int .i64 rv_7.2), (17, .int .i64 rv_8.1), (18, .int .i64 rv_8.2), (149, .bool (rv_5.2 == 0)), (156, .bool ((rv_6.2 != 0) || (decide (rv_6.1 > rv_5.1))))]) (ms := [(1, .cells b [.int .i64 sv.Hours, .int .i64 sv.Gap, .slice p sv.Machines.length c] 24), (2, .cells b_1 [.int .i64 more.From, .int .i64 more.Warm, .int .i64 more.Life.Low, .int .i64 more.Life.High, .int .i64 more.Drift] 52), (3, .cells b_2 [.int .i64 n.a0, .int .i64 n.a1, .int .i64 n.a2] 61), (4, .cells b_3 [.int .i64 sv.Hours, .int .i64 sv.Gap, .slice p_4 (((([] : List SpareMachine) ++ sv.Machines) ++ [more]).set (Int.toNat rv_2) e).length c_4] 24), (5, .own none ([] : List SpareMachine).length 0 ([]) 52 5), (7, .cells b_5 [.int .i64 e.From, .int .i64 e.Warm, .int .i64 e.Life.Low, .int .i64 e.Life.High, .int .i64 e.Drift] 52), (8, .own p_3 ([more]).length c_3 ([.int .i64 more.From, .int .i64 more.Warm, .int .i64 more.Life.Low, .int .i64 more.Life.High, .int .i64 more.Drift]) 52 5)]) (D' := Dv) ?_ ?_
         ·rcases bcases (rv_6.2 != 0) with hbv_6 | hbv_6
          ·-- true
           refine guard_off hF rfl rfl hbv_6 rfl fun a hF => ?_
           refine guard_off hF rfl rfl hbv_6 rfl fun a hF => ?_
           refine guard_off hF rfl rfl hbv_6 rfl fun a hF => ?_
           refine guard_on hF rfl rfl hbv_5 ?_
           refine step hF (Y.pick_t hF rfl hbv_6 rfl) rfl fun a hF => ?_
           exact nil (then_n ⟨hF.weak ⟨rfl, rfl, rfl, rfl, rfl, rfl, rfl, (by rw [hbv_6]; rfl), trivial⟩, hS.weak ⟨rfl, rfl, rfl, rfl, rfl, rfl, rfl, trivial⟩⟩)
          ·-- false
           refine guard_on hF rfl rfl hbv_6 ?_
           refine step hF (Y.move hF rfl) rfl fun a hF => ?_
           refine guard_on hF rfl rfl hbv_6 ?_
           refine step hF (Y.move hF rfl) rfl fun a hF => ?_
           refine guard_on hF rfl rfl hbv_6 ?_
           refine step hF (Y.gtr hF rfl rfl) rfl fun a hF => ?_
           refine guard_on hF rfl rfl hbv_5 ?_
           refine step hF (Y.pick_f hF rfl hbv_6 rfl) rfl fun a hF => ?_
           exact nil (then_n ⟨hF.weak ⟨rfl, rfl, rfl, rfl, rfl, rfl, rfl, (by rw [hbv_6]; rfl), trivial⟩, hS.weak ⟨rfl, rfl, rfl, rfl, rfl, rfl, rfl, trivial⟩⟩)
         intro a w hF hS
         refine step hF (Y.pick_t hF rfl hbv_5 rfl) rfl fun a hF => ?_
         exact nil (then_n ⟨hF.weak ⟨rfl, rfl, rfl, rfl, rfl, rfl, (by rw [hbv_5]; rfl), trivial⟩, hS.weak ⟨rfl, rfl, rfl, rfl, rfl, rfl, rfl, trivial⟩⟩)
        ·-- false
         refine guard_off hF rfl rfl hbv_5 rfl fun a hF => ?_
         refine guard_off hF rfl rfl hbv_5 rfl fun a hF => ?_
         refine guard_off hF rfl rfl hbv_5 rfl fun a hF => ?_
         refine guard_offu hF rfl rfl rfl fun a hF => ?_
         refine guard_offu hF rfl rfl rfl fun a hF => ?_
         refine guard_offu hF rfl rfl rfl fun a hF => ?_
         refine guard_off hF rfl rfl hbv_5 rfl fun a hF => ?_
         refine step hF (Y.pick_f hF rfl hbv_5 rfl) rfl fun a hF => ?_
         exact nil (then_n ⟨hF.weak ⟨rfl, rfl, rfl, rfl, rfl, rfl, (by rw [hbv_5]; rfl), trivial⟩, hS.weak ⟨rfl, rfl, rfl, rfl, rfl, rfl, rfl, trivial⟩⟩)
       intro a w hF hS
       refine step hF (Y.move hF rfl) rfl fun a hF => ?_
       refine join (N := 180) (rs := []) (w0 := w0) (D0 := D0) 7 (us := [(6, .bool false), (15, .int .i64 rv_7.1), (16, .int .i64 rv_7.2), (17, .int .i64 rv_8.1), (18, .int .i64 rv_8.2), (165, .bool (((rv_5.2 == 0) && ((rv_6.2 != 0) || (decide (rv_6.1 > rv_5.1)))) || ((rv_5.2 != 0) && (rv_5.2 != 4))))]) (ms := [(1, .cells b [.int .i64 sv.Hours, .int .i64 sv.Gap, .slice p sv.Machines.length c] 24), (2, .cells b_1 [.int .i64 more.From, .int .i64 more.Warm, .int .i64 more.Life.Low, .int .i64 more.Life.High, .int .i64 more.Drift] 52), (3, .cells b_2 [.int .i64 n.a0, .int .i64 n.a1, .int .i64 n.a2] 61), (4, .cells b_3 [.int .i64 sv.Hours, .int .i64 sv.Gap, .slice p_4 (((([] : List SpareMachine) ++ sv.Machines) ++ [more]).set (Int.toNat rv_2) e).length c_4] 24), (5, .own none ([] : List SpareMachine).length 0 ([]) 52 5), (7, .cells b_5 [.int .i64 e.From, .int .i64 e.Warm, .int .i64 e.Life.Low, .int .i64 e.Life.High, .int .i64 e.Drift] 52), (8, .own p_3 ([more]).length c_3 ([.int .i64 more.From, .int .i64 more.Warm, .int .i64 more.Life.Low, .int .i64 more.Life.High, .int .i64 more.Drift]) 52 5)]) (D' := Dv) ?_ ?_
       ·rcases bcases ((rv_5.2 == 0) && ((rv_6.2 != 0) || (decide (rv_6.1 > rv_5.1)))) with hbv_7 | hbv_7
        ·-- true
         refine guard_off hF rfl rfl hbv_7 rfl fun a hF => ?_
         refine guard_off hF rfl rfl hbv_7 rfl fun a hF => ?_
         refine guard_off hF rfl rfl hbv_7 rfl fun a hF => ?_
         refine guard_offu hF rfl rfl rfl fun a hF => ?_
         refine guard_offu hF rfl rfl rfl fun a hF => ?_
         refine guard_off hF rfl rfl hbv_7 rfl fun a hF => ?_
         refine step hF (Y.pick_t hF rfl hbv_7 rfl) rfl fun a hF => ?_
         exact nil (then_n ⟨hF.weak ⟨rfl, rfl, rfl, rfl, rfl, (by rw [hbv_7]; rfl), trivial⟩, hS.weak ⟨rfl, rfl, rfl, rfl, rfl, rfl, rfl, trivial⟩⟩)
        ·-- false
         refine guard_on hF rfl rfl hbv_7 ?_
         refine step hF (Y.move hF rfl) rfl fun a hF => ?_
         refine guard_on hF rfl rfl hbv_7 ?_
         refine step hF (Y.neq hF rfl rfl) rfl fun a hF => ?_
         refine guard_on hF rfl rfl hbv_7 ?_
         refine step hF (Y.move hF rfl) rfl fun a hF => ?_
         refine join (N := 180) (rs := []) (w0 := w0) (D0 := D0) 3 (us := [(6, .bool false), (15, .int .i64 rv_7.1), (16, .int .i64 rv_7.2), (17, .int .i64 rv_8.1), (18, .int .i64 rv_8.2), (158, .bool ((rv_5.2 == 0) && ((rv_6.2 != 0) || (decide (rv_6.1 > rv_5.1))))), (164, .bool ((rv_5.2 != 0) && (rv_5.2 != 4)))]) (ms := [(1, .cells b [.int .i64 sv.Hours, .int .i64 sv.Gap, .slice p sv.Machines.length c] 24), (2, .cells b_1 [.int .i64 more.From, .int .i64 more.Warm, .int .i64 more.Life.Low, .int .i64 more.Life.High, .int .i64 more.Drift] 52), (3, .cells b_2 [.int .i64 n.a0, .int .i64 n.a1, .int .i64 n.a2] 61), (4, .cells b_3 [.int .i64 sv.Hours, .int .i64 sv.Gap, .slice p_4 (((([] : List SpareMachine) ++ sv.Machines) ++ [more]).set (Int.toNat rv_2) e).length c_4] 24), (5, .own none ([] : List SpareMachine).length 0 ([]) 52 5), (7, .cells b_5 [.int .i64 e.From, .int .i64 e.Warm, .int .i64 e.Life.Low, .int .i64 e.Life.High, .int .i64 e.Drift] 52), (8, .own p_3 ([more]).length c_3 ([.int .i64 more.From, .int .i64 more.Warm, .int .i64 more.Life.Low, .int .i64 more.Life.High, .int .i64 more.Drift]) 52 5)]) (D' := Dv) ?_ ?_
         ·rcases bcases (rv_5.2 != 0) with hbv_8 | hbv_8
          ·-- true
           refine guard_on hF rfl rfl hbv_8 ?_
           refine step hF (Y.move hF rfl) rfl fun a hF => ?_
           refine guard_on hF rfl rfl hbv_8 ?_
           refine step hF (Y.neq hF rfl rfl) rfl fun a hF => ?_
           refine guard_on hF rfl rfl hbv_7 ?_
           refine step hF (Y.pick_t hF rfl hbv_8 rfl) rfl fun a hF => ?_
           exact nil (then_n ⟨hF.weak ⟨rfl, rfl, rfl, rfl, rfl, rfl, (by rw [hbv_8]; rfl), trivial⟩, hS.weak ⟨rfl, rfl, rfl, rfl, rfl, rfl, rfl, trivial⟩⟩)
          ·-- false
           refine guard_off hF rfl rfl hbv_8 rfl fun a hF => ?_
           refine guard_off hF rfl rfl hbv_8 rfl fun a hF => ?_
           refine guard_on hF rfl rfl hbv_7 ?_
           refine step hF (Y.pick_f hF rfl hbv_8 rfl) rfl fun a hF => ?_
           exact nil (then_n ⟨hF.weak ⟨rfl, rfl, rfl, rfl, rfl, rfl, (by rw [hbv_8]; rfl), trivial⟩, hS.weak ⟨rfl, rfl, rfl, rfl, rfl, rfl, rfl, trivial⟩⟩)
         intro a w hF hS
         refine step hF (Y.pick_f hF rfl hbv_7 rfl) rfl fun a hF => ?_
         exact nil (then_n ⟨hF.weak ⟨rfl, rfl, rfl, rfl, rfl, (by rw [hbv_7]; rfl), trivial⟩, hS.weak ⟨rfl, rfl, rfl, rfl, rfl, rfl, rfl, trivial⟩⟩)
       intro a w hF hS
       refine nil (then_n ?_)
       refine cond_b hF rfl (fun hbv_9 => ?_) (fun hbv_9 => ?_)
       ·replace h := cond_t h hbv_9
        refine seq ?_
        refine region ?_
        refine step hF (Y.assign hF rfl) rfl fun a hF => ?_
        refine nil (then_n ?_)
        refine ret_ (then_r ?_)
        obtain rfl := some_inj h
        exact leaveP Tryd.results11 hF hS (.cons (.tmp rfl) .nil) .nil rfl
       ·as_aux_lemma =>
         replace h := cond_f h hbv_9
         refine skip_ (then_n ?_)
         refine seq ?_
         refine region ?_
         refine step hF (Y.move hF rfl) rfl fun a hF => ?_
         refine step hF (Y.eql hF rfl rfl) rfl fun a hF => ?_
         refine step hF (Y.move hF rfl) rfl fun a hF => ?_
         refine join (N := 180) (rs := []) (w0 := w0) (D0 := D0) 3 (us := [(6, .bool false), (15, .int .i64 rv_7.1), (17, .int .i64 rv_8.1), (171, .bool ((rv_7.2 == 0) && (rv_8.2 == 0)))]) (ms := [(1, .cells b [.int .i64 sv.Hours, .int .i64 sv.Gap, .slice p sv.Machines.length c] 24), (2, .cells b_1 [.int .i64 more.From, .int .i64 more.Warm, .int .i64 more.Life.Low, .int .i64 more.Life.High, .int .i64 more.Drift] 52), (3, .cells b_2 [.int .i64 n.a0, .int .i64 n.a1, .int .i64 n.a2] 61), (4, .cells b_3 [.int .i64 sv.Hours, .int .i64 sv.Gap, .slice p_4 (((([] : List SpareMachine) ++ sv.Machines) ++ [more]).set (Int.toNat rv_2) e).length c_4] 24), (5, .own none ([] : List SpareMachine).length 0 ([]) 52 5), (7, .cells b_5 [.int .i64 e.From, .int .i64 e.Warm, .int .i64 e.Life.Low, .int .i64 e.Life.High, .int .i64 e.Drift] 52), (8, .own p_3 ([more]).length c_3 ([.int .i64 more.From, .int .i64 more.Warm, .int .i64 more.Life.Low, .int .i64 more.Life.High, .int .i64 more.Drift]) 52 5)]) (D' := Dv) ?_ ?_
         ·rcases bcases (rv_7.2 == 0) with hbv_10 | hbv_10
          ·-- true
           refine guard_on hF rfl rfl hbv_10 ?_
           refine step hF (Y.move hF rfl) rfl fun a hF => ?_
           refine guard_on hF rfl rfl hbv_10 ?_
           refine step hF (Y.eql hF rfl rfl) rfl fun a hF => ?_
           refine step hF (Y.pick_t hF rfl hbv_10 rfl) rfl fun a hF => ?_
           exact nil (then_n ⟨hF.weak ⟨rfl, rfl, rfl, (by rw [hbv_10]; rfl), trivial⟩, hS.weak ⟨rfl, rfl, rfl, rfl, rfl, rfl, rfl, trivial⟩⟩)
          ·-- false
           refine guard_off hF rfl rfl hbv_10 rfl fun a hF => ?_
           refine guard_off hF rfl rfl hbv_10 rfl fun a hF => ?_
           refine step hF (Y.pick_f hF rfl hbv_10 rfl) rfl fun a hF => ?_
           exact nil (then_n ⟨hF.weak ⟨rfl, rfl, rfl, (by rw [hbv_10]; rfl), trivial⟩, hS.weak ⟨rfl, rfl, rfl, rfl, rfl, rfl, rfl, trivial⟩⟩)
         intro a w hF hS
         refine step hF (Y.move hF rfl) rfl fun a hF => ?_
         refine join (N := 180) (rs := []) (w0 := w0) (D0 := D0) 4 (us := [(6, .bool false), (176, .bool (((rv_7.2 == 0) && (rv_8.2 == 0)) && (decide (rv_8.1 ≥ rv_7.1))))]) (ms := [(1, .cells b [.int .i64 sv.Hours, .int .i64 sv.Gap, .slice p sv.Machines.length c] 24), (2, .cells b_1 [.int .i64 more.From, .int .i64 more.Warm, .int .i64 more.Life.Low, .int .i64 more.Life.High, .int .i64 more.Drift] 52), (3, .cells b_2 [.int .i64 n.a0, .int .i64 n.a1, .int .i64 n.a2] 61), (4, .cells b_3 [.int .i64 sv.Hours, .int .i64 sv.Gap, .slice p_4 (((([] : List SpareMachine) ++ sv.Machines) ++ [more]).set (Int.toNat rv_2) e).length c_4] 24), (5, .own none ([] : List SpareMachine).length 0 ([]) 52 5), (7, .cells b_5 [.int .i64 e.From, .int .i64 e.Warm, .int .i64 e.Life.Low, .int .i64 e.Life.High, .int .i64 e.Drift] 52), (8, .own p_3 ([more]).length c_3 ([.int .i64 more.From, .int .i64 more.Warm, .int .i64 more.Life.Low, .int .i64 more.Life.High, .int .i64 more.Drift]) 52 5)]) (D' := Dv) ?_ ?_
         ·rcases bcases ((rv_7.2 == 0) && (rv_8.2 == 0)) with hbv_11 | hbv_11
          ·-- true
           refine guard_on hF rfl rfl hbv_11 ?_
           refine step hF (Y.move hF rfl) rfl fun a hF => ?_
           refine guard_on hF rfl rfl hbv_11 ?_
           refine step hF (Y.move hF rfl) rfl fun a hF => ?_
           refine guard_on hF rfl rfl hbv_11 ?_
           refine step hF (Y.geq hF rfl rfl) rfl fun a hF => ?_
           refine step hF (Y.pick_t hF rfl hbv_11 rfl) rfl fun a hF => ?_
           exact nil (then_n ⟨hF.weak ⟨rfl, (by rw [hbv_11]; rfl), trivial⟩, hS.weak ⟨rfl, rfl, rfl, rfl, rfl, rfl, rfl, trivial⟩⟩)
          ·-- false
           refine guard_off hF rfl rfl hbv_11 rfl fun a hF => ?_
           refine guard_off hF rfl rfl hbv_11 rfl fun a hF => ?_
           refine guard_off hF rfl rfl hbv_11 rfl fun a hF => ?_
           refine step hF (Y.pick_f hF rfl hbv_11 rfl) rfl fun a hF => ?_
           exact nil (then_n ⟨hF.weak ⟨rfl, (by rw [hbv_11]; rfl), trivial⟩, hS.weak ⟨rfl, rfl, rfl, rfl, rfl, rfl, rfl, trivial⟩⟩)
         intro a w hF hS
         refine step hF (Y.move hF rfl) rfl fun a hF => ?_
         obtain ⟨t_1, ht_1, h⟩ := bind_some h
         refine join (N := 180) (rs := []) (w0 := w0) (D0 := D0) 2 (us := [(6, .bool false), (179, .bool t_1)]) (ms := [(1, .cells b [.int .i64 sv.Hours, .int .i64 sv.Gap, .slice p sv.Machines.length c] 24), (2, .cells b_1 [.int .i64 more.From, .int .i64 more.Warm, .int .i64 more.Life.Low, .int .i64 more.Life.High, .int .i64 more.Drift] 52), (3, .cells b_2 [.int .i64 n.a0, .int .i64 n.a1, .int .i64 n.a2] 61), (4, .cells b_3 [.int .i64 sv.Hours, .int .i64 sv.Gap, .slice p_4 (((([] : List SpareMachine) ++ sv.Machines) ++ [more]).set (Int.toNat rv_2) e).length c_4] 24), (5, .own none ([] : List SpareMachine).length 0 ([]) 52 5), (7, .cells b_5 [.int .i64 e.From, .int .i64 e.Warm, .int .i64 e.Life.Low, .int .i64 e.Life.High, .int .i64 e.Drift] 52), (8, .own p_3 ([more]).length c_3 ([.int .i64 more.From, .int .i64 more.Warm, .int .i64 more.Life.Low, .int .i64 more.Life.High, .int .i64 more.Drift]) 52 5)]) (D' := Dv) ?_ ?_
         ·rcases bcases (((rv_7.2 == 0) && (rv_8.2 == 0)) && (decide (rv_8.1 ≥ rv_7.1))) with hbv_12 | hbv_12
          ·-- true
           replace h := cond_t ht_1 hbv_12
           refine guard_on hF rfl rfl hbv_12 ?_
           obtain ⟨rv_11, hx_12, h⟩ := bind_some h
           refine O.callP (us := []) ca_21 hF hS (remontoirlaw08_works_ok hS.stab hG rv_11 hx_12) rfl rfl fun a w hF hS => ?_
           refine step hF (Y.pick_t hF rfl hbv_12 rfl) rfl fun a hF => ?_
           obtain rfl := some_inj h
           exact nil (then_n ⟨hF.weak ⟨rfl, rfl, trivial⟩, hS.weak ⟨rfl, rfl, rfl, rfl, rfl, rfl, rfl, trivial⟩⟩)
          ·-- false
           replace h := cond_f ht_1 hbv_12
           refine guard_off hF rfl rfl hbv_12 rfl fun a hF => ?_
           refine step hF (Y.pick_f hF rfl hbv_12 rfl) rfl fun a hF => ?_
           obtain rfl := some_inj h
           exact nil (then_n ⟨hF.weak ⟨rfl, rfl, trivial⟩, hS.weak ⟨rfl, rfl, rfl, rfl, rfl, rfl, rfl, trivial⟩⟩)
         intro a w hF hS
         refine step hF (Y.assign hF rfl) rfl fun a hF => ?_
         refine nil (then_n ?_)
         refine ret_ ?_
         obtain rfl := some_inj h
         exact leaveP Tryd.results11 hF hS (.cons (.tmp rfl) .nil) .nil rfl
   ·as_aux_lemma =>
     replace h := cond_f h hbv_1
     refine seq ?_
     refine region ?_
     refine step hF (Y.eql hF rfl rfl) rfl fun a hF => ?_
     refine step hF (Y.assign hF rfl) rfl fun a hF => ?_
     refine nil (then_n ?_)
     refine cond_b hF rfl (fun hbv_13 => ?_) (fun hbv_13 => ?_)
     ·as_aux_lemma =>
       replace h := cond_t h hbv_13
       refine region ?_
       refine step hF (Y.fieldAddr fo_52_2 hF rfl) rfl fun a hF => ?_
       refine step hF (Y.fieldAddr fo_50_0 hF rfl) rfl fun a hF => ?_
       refine step hF (Y.load1L 7 sz_3 hF rfl hS rfl rfl) rfl fun a hF => ?_
       refine step hF (Y.move hF rfl) rfl fun a hF => ?_
       refine step hF (Y.add hF rfl rfl) rfl fun a hF => ?_
       refine step hF (Y.min2 hF rfl rfl) rfl fun a hF => ?_
       refine step hF (Y.fieldAddr fo_52_2 hF rfl) rfl fun a hF => ?_
       refine step hF (Y.fieldAddr fo_50_1 hF rfl) rfl fun a hF => ?_
       refine step hF (Y.load1L 7 sz_3 hF rfl hS rfl rfl) rfl fun a hF => ?_
       refine step hF (Y.move hF rfl) rfl fun a hF => ?_
       refine step hF (Y.add hF rfl rfl) rfl fun a hF => ?_
       refine step hF (Y.min2 hF rfl rfl) rfl fun a hF => ?_
       obtain ⟨rv_12, hx_13, h⟩ := bind_some h
       refine O.callP (us := [.int .i64 (if wr (e.Life.Low + rv_3) < 500 then wr (e.Life.Low + rv_3) else 500), .int .i64 (if wr (e.Life.High + rv_3) < 500 then wr (e.Life.High + rv_3) else 500)]) ca_39 hF hS (remontoirref00_To_ok hS.stab (if wr (e.Life.Low + rv_3) < 500 then wr (e.Life.Low + rv_3) else 500) (if wr (e.Life.High + rv_3) < 500 then wr (e.Life.High + rv_3) else 500) rv_12 hx_13) rfl rfl fun a w hF hS => ?_
       refine step hF (Y.fieldAddr fo_52_2 hF rfl) rfl fun a hF => ?_
       refine O.store (us := [.int .i64 rv_12.Low, .int .i64 rv_12.High]) 7 sz_50 hF rfl rfl rfl rfl hS rfl rfl fun a w hF hS => ?_
       refine nil (blk_n (then_n ?_))
       refine seq ?_
       refine region ?_
       refine step hF (Y.fieldAddr fo_24_2 hF rfl) rfl fun a hF => ?_
       refine step hF (Y.load1L 4 sz_22 hF rfl hS rfl rfl) rfl fun a hF => ?_
       refine step hF (Y.move hF rfl) rfl fun a hF => ?_
       refine step hF (Y.loadNL 7 sz_52 hF rfl hS rfl rfl rfl) rfl fun a hF => ?_
       obtain ⟨hg_3, h⟩ := ite_some h
       obtain ⟨b_7, hp_1⟩ := hS.ownPtr (i := 6) rfl hg_3
       refine step hF (Y.indexOwn hp_1 u_22 sz_52 hg_3 hF rfl rfl) rfl fun a hF => ?_
       refine O.storeOwnP (C := C_SpareMachine) (v0 := (SpareMachine.mk e.From e.Warm rv_12 e.Drift)) (xs := (([] : List SpareMachine) ++ sv.Machines)) (us := [.int .i64 e.From, .int .i64 e.Warm, .int .i64 rv_12.Low, .int .i64 rv_12.High, .int .i64 e.Drift]) 6 hp_1 sz_52 hg_3 hF rfl rfl rfl rfl hS rfl hr_1 fun cs_1 a w hF hS hr_5 => ?_
       try rw [show (([] : List SpareMachine) ++ sv.Machines).length = ((([] : List SpareMachine) ++ sv.Machines).set (Int.toNat rv_2) (SpareMachine.mk e.From e.Warm rv_12 e.Drift)).length from List.length_set.symm] at hF
       try rw [show (([] : List SpareMachine) ++ sv.Machines).length = ((([] : List SpareMachine) ++ sv.Machines).set (Int.toNat rv_2) (SpareMachine.mk e.From e.Warm rv_12 e.Drift)).length from List.length_set.symm] at hS
       refine nil (then_n ?_)
       refine seq ?_
       refine region ?_
       refine step hF (Y.loadNL 1 sz_24 hF rfl hS rfl rfl rfl) rfl fun a hF => ?_
       obtain ⟨rv_13, hx_14, h⟩ := bind_some h
       refine O.callP (us := [.agg #[.int .i64 sv.Hours, .int .i64 sv.Gap, .slice p sv.Machines.length c]]) ca_22 hF hS (spare_Fewest_ok hS.stab sv hs hG rv_13 hx_14) rfl rfl fun a w hF hS => ?_
       refine step hF (Y.move hF rfl) rfl fun a hF => ?_
       refine step hF (Y.extract hF rfl rfl) rfl fun a hF => ?_
       refine step hF (Y.extract hF rfl rfl) rfl fun a hF => ?_
       refine step hF (Y.assign hF rfl) rfl fun a hF => ?_
       refine step hF (Y.assign hF rfl) rfl fun a hF => ?_
       refine nil (then_n ?_)
       refine seq ?_
       refine region ?_
       refine step hF (Y.loadNL 4 sz_24 hF rfl hS rfl rfl rfl) rfl fun a hF => ?_
       obtain ⟨Dv_1, hlev_1, hs_2, hS⟩ := hS.freezeC (i := 6) (xs := ((([] : List SpareMachine) ++ sv.Machines).set (Int.toNat rv_2) (SpareMachine.mk e.From e.Warm rv_12 e.Drift))) rfl hr_5
       replace hs := hs.mono hlev_1
       replace hG := hG.mono hlev_1
       replace hr := hr.mono hlev_1
       replace hr_1 := hr_1.mono hlev_1
       replace hcell := fun w hw => hcell w (Stab.on.le hw hlev_1)
       replace hr_5 := hr_5.mono hlev_1
       obtain ⟨rv_14, hx_15, h⟩ := bind_some h
       refine O.callP (us := [.agg #[.int .i64 sv.Hours, .int .i64 sv.Gap, .slice p_2 ((([] : List SpareMachine) ++ sv.Machines).set (Int.toNat rv_2) (SpareMachine.mk e.From e.Warm rv_12 e.Drift)).length c_2]]) ca_22 hF hS (spare_Fewest_ok hS.stab (SpareStore.mk sv.Hours sv.Gap ((([] : List SpareMachine) ++ sv.Machines).set (Int.toNat rv_2) (SpareMachine.mk e.From e.Warm rv_12 e.Drift))) hs_2 hG rv_14 hx_15) rfl rfl fun a w hF hS => ?_
       refine step hF (Y.move hF rfl) rfl fun a hF => ?_
       refine step hF (Y.extract hF rfl rfl) rfl fun a hF => ?_
       refine step hF (Y.extract hF rfl rfl) rfl fun a hF => ?_
       refine step hF (Y.assign hF rfl) rfl fun a hF => ?_
       refine step hF (Y.assign hF rfl) rfl fun a hF => ?_
       refine nil (then_n ?_)
       refine seq ?_
       refine region ?_
       refine step hF (Y.loadNL 1 sz_24 hF rfl hS rfl rfl rfl) rfl fun a hF => ?_
       obtain ⟨rv_15, hx_16, h⟩ := bind_some h
       refine O.callP (us := [.agg #[.int .i64 sv.Hours, .int .i64 sv.Gap, .slice p sv.Machines.length c]]) ca_25 hF hS (spare_Reach_ok hS.stab sv hs hG rv_15 hx_16) rfl rfl fun a w hF hS => ?_
       refine step hF (Y.move hF rfl) rfl fun a hF => ?_
       refine step hF (Y.extract hF rfl rfl) rfl fun a hF => ?_
       refine step hF (Y.extract hF rfl rfl) rfl fun a hF => ?_
       refine step hF (Y.assign hF rfl) rfl fun a hF => ?_
       refine step hF (Y.assign hF rfl) rfl fun a hF => ?_
       refine nil (then_n ?_)
       refine seq ?_
       refine region ?_
       refine step hF (Y.loadNL 4 sz_24 hF rfl hS rfl rfl rfl) rfl fun a hF => ?_
       obtain ⟨rv_16, hx_17, h⟩ := bind_some h
       refine O.callP (us := [.agg #[.int .i64 sv.Hours, .int .i64 sv.Gap, .slice p_2 ((([] : List SpareMachine) ++ sv.Machines).set (Int.toNat rv_2) (SpareMachine.mk e.From e.Warm rv_12 e.Drift)).length c_2]]) ca_25 hF hS (spare_Reach_ok hS.stab (SpareStore.mk sv.Hours sv.Gap ((([] : List SpareMachine) ++ sv.Machines).set (Int.toNat rv_2) (SpareMachine.mk e.From e.Warm rv_12 e.Drift))) hs_2 hG rv_16 hx_17) rfl rfl fun a w hF hS => ?_
       refine step hF (Y.move hF rfl) rfl fun a hF => ?_
       refine step hF (Y.extract hF rfl rfl) rfl fun a hF => ?_
       refine step hF (Y.extract hF rfl rfl) rfl fun a hF => ?_
       refine step hF (Y.assign hF rfl) rfl fun a hF => ?_
       refine step hF (Y.assign hF rfl) rfl fun a hF => ?_
       refine nil (then_n ?_)
       refine seq ?_
       refine seq ?_
       refine region ?_
       refine step hF (Y.move hF rfl) rfl fun a hF => ?_
       refine step hF (Y.eql hF rfl rfl) rfl fun a hF => ?_
       refine nil (then_n ?_)
       refine cond_b hF rfl (fun hbv_14 => ?_) (fun hbv_14 => ?_)
       ·replace h := cond_t h hbv_14
        refine seq ?_
        refine region ?_
        refine step hF (Y.indexArr u_61 sz_3 hF rfl rfl (by decide) (by decide)) rfl fun a hF => ?_
        refine step hF (Y.load1L 3 sz_3 hF rfl hS rfl rfl) rfl fun a hF => ?_
        obtain ⟨rv_17, hx_18, h⟩ := bind_some h
        refine O.callP (us := [.int .i64 n.a0, .int .i64 7]) ca_42 hF hS (remontoirref00_Rest_ok hS.stab n.a0 7 rv_17 hx_18) rfl rfl fun a w hF hS => ?_
        refine step hF (Y.eql hF rfl rfl) rfl fun a hF => ?_
        refine step hF (Y.move hF rfl) rfl fun a hF => ?_
        refine join (N := 180) (rs := []) (w0 := w0) (D0 := D0) 4 (us := [(6, .bool false), (11, .int .i64 rv_13.1), (12, .int .i64 rv_13.2), (13, .int .i64 rv_14.1), (14, .int .i64 rv_14.2), (15, .int .i64 rv_15.1), (16, .int .i64 rv_15.2), (17, .int .i64 rv_16.1), (18, .int .i64 rv_16.2), (143, .bool ((rv_17 == 0) && (rv_16.2 == rv_14.2)))]) (ms := [(1, .cells b [.int .i64 sv.Hours, .int .i64 sv.Gap, .slice p sv.Machines.length c] 24), (2, .cells b_1 [.int .i64 more.From, .int .i64 more.Warm, .int .i64 more.Life.Low, .int .i64 more.Life.High, .int .i64 more.Drift] 52), (3, .cells b_2 [.int .i64 n.a0, .int .i64 n.a1, .int .i64 n.a2] 61), (4, .cells b_3 [.int .i64 sv.Hours, .int .i64 sv.Gap, .slice p_2 ((([] : List SpareMachine) ++ sv.Machines).set (Int.toNat rv_2) (SpareMachine.mk e.From e.Warm rv_12 e.Drift)).length c_2] 24), (5, .own none ([] : List SpareMachine).length 0 ([]) 52 5), (7, .cells b_5 [.int .i64 e.From, .int .i64 e.Warm, .int .i64 rv_12.Low, .int .i64 rv_12.High, .int .i64 e.Drift] 52)]) (D' := Dv_1) ?_ ?_
        ·rcases bcases (rv_17 == 0) with hbv_15 | hbv_15
         ·-- true
          refine guard_on hF rfl rfl hbv_15 ?_
          refine step hF (Y.move hF rfl) rfl fun a hF => ?_
          refine guard_on hF rfl rfl hbv_15 ?_
          refine step hF (Y.move hF rfl) rfl fun a hF => ?_
          refine guard_on hF rfl rfl hbv_15 ?_
          refine step hF (Y.eql hF rfl rfl) rfl fun a hF => ?_
          refine step hF (Y.pick_t hF rfl hbv_15 rfl) rfl fun a hF => ?_
          exact nil (then_n ⟨hF.weak ⟨rfl, rfl, rfl, rfl, rfl, rfl, rfl, rfl, rfl, (by rw [hbv_15]; rfl), trivial⟩, hS.weak ⟨rfl, rfl, rfl, rfl, rfl, rfl, trivial⟩⟩)
         ·-- false
          refine guard_off hF rfl rfl hbv_15 rfl fun a hF => ?_
          refine guard_off hF rfl rfl hbv_15 rfl fun a hF => ?_
          refine guard_off hF rfl rfl hbv_15 rfl fun a hF => ?_
          refine step hF (Y.pick_f hF rfl hbv_15 rfl) rfl fun a hF => ?_
          exact nil (then_n ⟨hF.weak ⟨rfl, rfl, rfl, rfl, rfl, rfl, rfl, rfl, rfl, (by rw [hbv_15]; rfl), trivial⟩, hS.weak ⟨rfl, rfl, rfl, rfl, rfl, rfl, trivial⟩⟩)
        intro a w hF hS
        refine step hF (Y.move hF rfl) rfl fun a hF => ?_
        obtain ⟨t_2, ht_2, h⟩ := bind_some h
        refine join (N := 180) (rs := []) (w0 := w0) (D0 := D0) 2 (us := [(6, .bool false), (11, .int .i64 rv_13.1), (12, .int .i64 rv_13.2), (13, .int .i64 rv_14.1), (14, .int .i64 rv_14.2), (15, .int .i64 rv_15.1), (16, .int .i64 rv_15.2), (17, .int .i64 rv_16.1), (18, .int .i64 rv_16.2), (146, .bool t_2)]) (ms := [(1, .cells b [.int .i64 sv.Hours, .int .i64 sv.Gap, .slice p sv.Machines.length c] 24), (2, .cells b_1 [.int .i64 more.From, .int .i64 more.Warm, .int .i64 more.Life.Low, .int .i64 more.Life.High, .int .i64 more.Drift] 52), (3, .cells b_2 [.int .i64 n.a0, .int .i64 n.a1, .int .i64 n.a2] 61), (4, .cells b_3 [.int .i64 sv.Hours, .int .i64 sv.Gap, .slice p_2 ((([] : List SpareMachine) ++ sv.Machines).set (Int.toNat rv_2) (SpareMachine.mk e.From e.Warm rv_12 e.Drift)).length c_2] 24), (5, .own none ([] : List SpareMachine).length 0 ([]) 52 5), (7, .cells b_5 [.int .i64 e.From, .int .i64 e.Warm, .int .i64 rv_12.Low, .int .i64 rv_12.High, .int .i64 e.Drift] 52)]) (D' := Dv_1) ?_ ?_
        ·rcases bcases ((rv_17 == 0) && (rv_16.2 == rv_14.2)) with hbv_16 | hbv_16
         ·-- true
          replace h := cond_t ht_2 hbv_16
          refine guard_on hF rfl rfl hbv_16 ?_
          obtain ⟨rv_18, hx_19, h⟩ := bind_some h
          refine O.callP (us := []) ca_21 hF hS (remontoirlaw08_works_ok hS.stab hG rv_18 hx_19) rfl rfl fun a w hF hS => ?_
          refine step hF (Y.pick_t hF rfl hbv_16 rfl) rfl fun a hF => ?_
          obtain rfl := some_inj h
          exact nil (then_n ⟨hF.weak ⟨rfl, rfl, rfl, rfl, rfl, rfl, rfl, rfl, rfl, rfl, trivial⟩, hS.weak ⟨rfl, rfl, rfl, rfl, rfl, rfl, trivial⟩⟩)
         ·-- false
          replace h := cond_f ht_2 hbv_16
          refine guard_off hF rfl rfl hbv_16 rfl fun a hF => ?_
          refine step hF (Y.pick_f hF rfl hbv_16 rfl) rfl fun a hF => ?_
          obtain rfl := some_inj h
          exact nil (then_n ⟨hF.weak ⟨rfl, rfl, rfl, rfl, rfl, rfl, rfl, rfl, rfl, rfl, trivial⟩, hS.weak ⟨rfl, rfl, rfl, rfl, rfl, rfl, trivial⟩⟩)
        intro a w hF hS
        refine step hF (Y.assign hF rfl) rfl fun a hF => ?_
        refine nil (then_n ?_)
        refine ret_ (then_r ?_)
        obtain rfl := some_inj h
        exact leaveP Tryd.results11 hF hS (.cons (.tmp rfl) .nil) .nil rfl
       ·as_aux_lemma =>
         replace h := cond_f h hbv_14
         refine skip_ (then_n ?_)
         refine seq ?_
         refine seq ?_
         refine region ?_
         refine step hF (Y.move hF rfl) rfl fun a hF => ?_
         refine step hF (Y.eql hF rfl rfl) rfl fun a hF => ?_
         refine step hF (Y.move hF rfl) rfl fun a hF => ?_
         refine join (N := 180) (rs := []) (w0 := w0) (D0 := D0) 8 (us := [(6, .bool false), (12, .int .i64 rv_13.2), (15, .int .i64 rv_15.1), (16, .int .i64 rv_15.2), (17, .int .i64 rv_16.1), (18, .int .i64 rv_16.2), (157, .bool ((rv_13.2 == 0) && ((rv_14.2 != 0) || (decide (rv_14.1 > rv_13.1)))))]) (ms := [(1, .cells b [.int .i64 sv.Hours, .int .i64 sv.Gap, .slice p sv.Machines.length c] 24), (2, .cells b_1 [.int .i64 more.From, .int .i64 more.Warm, .int .i64 more.Life.Low, .int .i64 more.Life.High, .int .i64 more.Drift] 52), (3, .cells b_2 [.int .i64 n.a0, .int .i64 n.a1, .int .i64 n.a2] 61), (4, .cells b_3 [.int .i64 sv.Hours, .int .i64 sv.Gap, .slice p_2 ((([] : List SpareMachine) ++ sv.Machines).set (Int.toNat rv_2) (SpareMachine.mk e.From e.Warm rv_12 e.Drift)).length c_2] 24), (5, .own none ([] : List SpareMachine).length 0 ([]) 52 5), (7, .cells b_5 [.int .i64 e.From, .int .i64 e.Warm, .int .i64 rv_12.Low, .int .i64 rv_12.High, .int .i64 e.Drift] 52)]) (D' := Dv_1) ?_ ?_
         ·rcases bcases (rv_13.2 == 0) with hbv_17 | hbv_17
          ·-- true
           refine guard_on hF rfl rfl hbv_17 ?_
           refine step hF (Y.move hF rfl) rfl fun a hF => ?_
           refine guard_on hF rfl rfl hbv_17 ?_
           refine step hF (Y.neq hF rfl rfl) rfl fun a hF => ?_
           refine guard_on hF rfl rfl hbv_17 ?_
           refine step hF (Y.move hF rfl) rfl fun a hF => ?_
           refine join (N := 180) (rs := []) (w0 := w0) (D0 := D0) 4 (us := [(6, .bool false), (12, .int .i64 rv_13.2), (15, .int .i64 rv_15.1), (16, .int .i64 rv_15.2), (17, .int .i64 rv_16.1), (18, .int .i64 rv_16.2), (149, .bool (rv_13.2 == 0)), (156, .bool ((rv_14.2 != 0) || (decide (rv_14.1 > rv_13.1))))]) (ms := [(1, .cells b [.int .i64 sv.Hours, .int .i64 sv.Gap, .slice p sv.Machines.length c] 24), (2, .cells b_1 [.int .i64 more.From, .int .i64 more.Warm, .int .i64 more.Life.Low, .int .i64 more.Life.High, .int .i64 more.Drift] 52), (3, .cells b_2 [.int .i64 n.a0, .int .i64 n.a1, .int .i64 n.a2] 61), (4, .cells b_3 [.int .i64 sv.Hours, .int .i64 sv.Gap, .slice p_2 ((([] : List SpareMachine) ++ sv.Machines).set (Int.toNat rv_2) (SpareMachine.mk e.From e.Warm rv_12 e.Drift)).length c_2] 24), (5, .own none ([] : List SpareMachine).length 0 ([]) 52 5), (7, .cells b_5 [.int .i64 e.From, .int .i64 e.Warm, .int .i64 rv_12.Low, .int .i64 rv_12.High, .int .i64 e.Drift] 52)]) (D' := Dv_1) ?_ ?_
           ·rcases bcases (rv_14.2 != 0) with hbv_18 | hbv_18
            ·-- true
             refine guard_off hF rfl rfl hbv_18 rfl fun a hF => ?_
             refine guard_off hF rfl rfl hbv_18 rfl fun a hF => ?_
             refine guard_off hF rfl rfl hbv_18 rfl fun a hF => ?_
             refine guard_on hF rfl rfl hbv_17 ?_
             refine step hF (Y.pick_t hF rfl hbv_18 rfl) rfl fun a hF => ?_
             exact nil (then_n ⟨hF.weak ⟨rfl, rfl, rfl, rfl, rfl, rfl, rfl, (by rw [hbv_18]; rfl), trivial⟩, hS.weak ⟨rfl, rfl, rfl, rfl, rfl, rfl, trivial⟩⟩)
            ·-- false
             refine guard_on hF rfl rfl hbv_18 ?_
             refine step hF (Y.move hF rfl) rfl fun a hF => ?_
             refine guard_on hF rfl rfl hbv_18 ?_
             refine step hF (Y.move hF rfl) rfl fun a hF => ?_
             refine guard_on hF rfl rfl hbv_18 ?_
             refine step hF (Y.gtr hF rfl rfl) rfl fun a hF => ?_
             refine guard_on hF rfl rfl hbv_17 ?_
             refine step hF (Y.pick_f hF rfl hbv_18 rfl) rfl fun a hF => ?_
             exact nil (then_n ⟨hF.weak ⟨rfl, rfl, rfl, rfl, rfl, rfl, rfl, (by rw [hbv_18]; rfl), trivial⟩, hS.weak ⟨rfl, rfl, rfl, rfl, rfl, rfl, trivial⟩⟩)
           intro a w hF hS
           refine step hF (Y.pick_t hF rfl hbv_17 rfl) rfl fun a hF => ?_
           exact nil (then_n ⟨hF.weak ⟨rfl, rfl, rfl, rfl, rfl, rfl, (by rw [hbv_17]; rfl), trivial⟩, hS.weak ⟨rfl, rfl, rfl, rfl, rfl, rfl, trivial⟩⟩)
          ·-- false
           refine guard_off hF rfl rfl hbv_17 rfl fun a hF => ?_
           refine guard_off hF rfl rfl hbv_17 rfl fun a hF => ?_
           refine guard_off hF rfl rfl hbv_17 rfl fun a hF => ?_
           refine guard_offu hF rfl rfl rfl fun a hF => ?_
           refine guard_offu hF rfl rfl rfl fun a hF => ?_
           refine guard_offu hF rfl rfl rfl fun a hF => ?_
           refine guard_off hF rfl rfl hbv_17 rfl fun a hF => ?_
           refine step hF (Y.pick_f hF rfl hbv_17 rfl) rfl fun a hF => ?_
           exact nil (then_n ⟨hF.weak ⟨rfl, rfl, rfl, rfl, rfl, rfl, (by rw [hbv_17]; rfl), trivial⟩, hS.weak ⟨rfl, rfl, rfl, rfl, rfl, rfl, trivial⟩⟩)
         intro a w hF hS
         refine step hF (Y.move hF rfl) rfl fun a hF => ?_
         refine join (N := 180) (rs := []) (w0 := w0) (D0 := D0) 7 (us := [(6, .bool false), (15, .int .i64 rv_15.1), (16, .int .i64 rv_15.2), (17, .int .i64 rv_16.1), (18, .int .i64 rv_16.2), (165, .bool (((rv_13.2 == 0) && ((rv_14.2 != 0) || (decide (rv_14.1 > rv_13.1)))) || ((rv_13.2 != 0) && (rv_13.2 != 4))))]) (ms := [(1, .cells b [.int .i64 sv.Hours, .int .i64 sv.Gap, .slice p sv.Machines.length c] 24), (2, .cells b_1 [.int .i64 more.From, .int .i64 more.Warm, .int .i64 more.Life.Low, .int .i64 more.Life.High, .int .i64 more.Drift] 52), (3, .cells b_2 [.int .i64 n.a0, .int .i64 n.a1, .int .i64 n.a2] 61), (4, .cells b_3 [.int .i64 sv.Hours, .int .i64 sv.Gap, .slice p_2 ((([] : List SpareMachine) ++ sv.Machines).set (Int.toNat rv_2) (SpareMachine.mk e.From e.Warm rv_12 e.Drift)).length c_2] 24), (5, .own none ([] : List SpareMachine).length 0 ([]) 52 5), (7, .cells b_5 [.int .i64 e.From, .int .i64 e.Warm, .int .i64 rv_12.Low, .int .i64 rv_12.High, .int .i64 e.Drift] 52)]) (D' := Dv_1) ?_ ?_
         ·rcases bcases ((rv_13.2 == 0) && ((rv_14.2 != 0) || (decide (rv_14.1 > rv_13.1)))) with hbv_19 | hbv_19
          ·-- true
           refine guard_off hF rfl rfl hbv_19 rfl fun a hF => ?_
           refine guard_off hF rfl rfl hbv_19 rfl fun a hF => ?_
           refine guard_off hF rfl rfl hbv_19 rfl fun a hF => ?_
           refine guard_offu hF rfl rfl rfl fun a hF => ?_
           refine guard_offu hF rfl rfl rfl fun a hF => ?_
           refine guard_off hF rfl rfl hbv_19 rfl fun a hF => ?_
           refine step hF (Y.pick_t hF rfl hbv_19 rfl) rfl fun a hF => ?_
           exact nil (then_n ⟨hF.weak ⟨rfl, rfl, rfl, rfl, rfl, (by rw [hbv_19]; rfl), trivial⟩, hS.weak ⟨rfl, rfl, rfl, rfl, rfl, rfl, trivial⟩⟩)
          ·-- false
           refine guard_on hF rfl rfl hbv_19 ?_
           refine step hF (Y.move hF rfl) rfl fun a hF => ?_
           refine guard_on hF rfl rfl hbv_19 ?_
           refine step hF (Y.neq hF rfl rfl) rfl fun a hF => ?_
           refine guard_on hF rfl rfl hbv_19 ?_
           refine step hF (Y.move hF rfl) rfl fun a hF => ?_
           refine join (N := 180) (rs := []) (w0 := w0) (D0 := D0) 3 (us := [(6, .bool false), (15, .int .i64 rv_15.1), (16, .int .i64 rv_15.2), (17, .int .i64 rv_16.1), (18, .int .i64 rv_16.2), (158, .bool ((rv_13.2 == 0) && ((rv_14.2 != 0) || (decide (rv_14.1 > rv_13.1))))), (164, .bool ((rv_13.2 != 0) && (rv_13.2 != 4)))]) (ms := [(1, .cells b [.int .i64 sv.Hours, .int .i64 sv.Gap, .slice p sv.Machines.length c] 24), (2, .cells b_1 [.int .i64 more.From, .int .i64 more.Warm, .int .i64 more.Life.Low, .int .i64 more.Life.High, .int .i64 more.Drift] 52), (3, .cells b_2 [.int .i64 n.a0, .int .i64 n.a1, .int .i64 n.a2] 61), (4, .cells b_3 [.int .i64 sv.Hours, .int .i64 sv.Gap, .slice p_2 ((([] : List SpareMachine) ++ sv.Machines).set (Int.toNat rv_2) (SpareMachine.mk e.From e.Warm rv_12 e.Drift)).length c_2] 24), (5, .own none ([] : List SpareMachine).length 0 ([]) 52 5), (7, .cells b_5 [.int .i64 e.From, .int .i64 e.Warm, .int .i64 rv_12.Low, .int .i64 rv_12.High, .int .i64 e.Drift] 52)]) (D' := Dv_1) ?_ ?_
           ·rcases bcases (rv_13.2 != 0) with hbv_20 | hbv_20
            ·-- true
             refine guard_on hF rfl rfl hbv_20 ?_
             refine step hF (Y.move hF rfl) rfl fun a hF => ?_
             refine guard_on hF rfl rfl hbv_20 ?_
             refine step hF (Y.neq hF rfl rfl) rfl fun a hF => ?_
             refine guard_on hF rfl rfl hbv_19 ?_
             refine step hF (Y.pick_t hF rfl hbv_20 rfl) rfl fun a hF => ?_
             exact nil (then_n ⟨hF.weak ⟨rfl, rfl, rfl, rfl, rfl, rfl, (by rw [hbv_20]; rfl), trivial⟩, hS.weak ⟨rfl, rfl, rfl, rfl, rfl, rfl, trivial⟩⟩)
            ·-- false
             refine guard_off hF rfl rfl hbv_20 rfl fun a hF => ?_
             refine guard_off hF rfl rfl hbv_20 rfl fun a hF => ?_
             refine guard_on hF rfl rfl hbv_19 ?_
             refine step hF (Y.pick_f hF rfl hbv_20 rfl) rfl fun a hF => ?_
             exact nil (then_n ⟨hF.weak ⟨rfl, rfl, rfl, rfl, rfl, rfl, (by rw [hbv_20]; rfl), trivial⟩, hS.weak ⟨rfl, rfl, rfl, rfl, rfl, rfl, trivial⟩⟩)
           intro a w hF hS
           refine step hF (Y.pick_f hF rfl hbv_19 rfl) rfl fun a hF => ?_
           exact nil (then_n ⟨hF.weak ⟨rfl, rfl, rfl, rfl, rfl, (by rw [hbv_19]; rfl), trivial⟩, hS.weak ⟨rfl, rfl, rfl, rfl, rfl, rfl, trivial⟩⟩)
         intro a w hF hS
         refine nil (then_n ?_)
         refine cond_b hF rfl (fun hbv_21 => ?_) (fun hbv_21 => ?_)
         ·replace h := cond_t h hbv_21
          refine seq ?_
          refine region ?_
          refine step hF (Y.assign hF rfl) rfl fun a hF => ?_
          refine nil (then_n ?_)
          refine ret_ (then_r ?_)
          obtain rfl := some_inj h
          exact leaveP Tryd.results11 hF hS (.cons (.tmp rfl) .nil) .nil rfl
         ·as_aux_lemma =>
           replace h := cond_f h hbv_21
           refine skip_ (then_n ?_)
           refine seq ?_
           refine region ?_
           refine step hF (Y.move hF rfl) rfl fun a hF => ?_
           refine step hF (Y.eql hF rfl rfl) rfl fun a hF => ?_
           refine step hF (Y.move hF rfl) rfl fun a hF => ?_
           refine join (N := 180) (rs := []) (w0 := w0) (D0 := D0) 3 (us := [(6, .bool false), (15, .int .i64 rv_15.1), (17, .int .i64 rv_16.1), (171, .bool ((rv_15.2 == 0) && (rv_16.2 == 0)))]) (ms := [(1, .cells b [.int .i64 sv.Hours, .int .i64 sv.Gap, .slice p sv.Machines.length c] 24), (2, .cells b_1 [.int .i64 more.From, .int .i64 more.Warm, .int .i64 more.Life.Low, .int .i64 more.Life.High, .int .i64 more.Drift] 52), (3, .cells b_2 [.int .i64 n.a0, .int .i64 n.a1, .int .i64 n.a2] 61), (4, .cells b_3 [.int .i64 sv.Hours, .int .i64 sv.Gap, .slice p_2 ((([] : List SpareMachine) ++ sv.Machines).set (Int.toNat rv_2) (SpareMachine.mk e.From e.Warm rv_12 e.Drift)).length c_2] 24), (5, .own none ([] : List SpareMachine).length 0 ([]) 52 5), (7, .cells b_5 [.int .i64 e.From, .int .i64 e.Warm, .int .i64 rv_12.Low, .int .i64 rv_12.High, .int .i64 e.Drift] 52)]) (D' := Dv_1) ?_ ?_
           ·rcases bcases (rv_15.2 == 0) with hbv_22 | hbv_22
            ·-- true
             refine guard_on hF rfl rfl hbv_22 ?_
             refine step hF (Y.move hF rfl) rfl fun a hF => ?_
             refine guard_on hF rfl rfl hbv_22 ?_
             refine step hF (Y.eql hF rfl rfl) rfl fun a hF => ?_
             refine step hF (Y.pick_t hF rfl hbv_22 rfl) rfl fun a hF => ?_
             exact nil (then_n ⟨hF.weak ⟨rfl, rfl, rfl, (by rw [hbv_22]; rfl), trivial⟩, hS.weak ⟨rfl, rfl, rfl, rfl, rfl, rfl, trivial⟩⟩)
            ·-- false
             refine guard_off hF rfl rfl hbv_22 rfl fun a hF => ?_
             refine guard_off hF rfl rfl hbv_22 rfl fun a hF => ?_
             refine step hF (Y.pick_f hF rfl hbv_22 rfl) rfl fun a hF => ?_
             exact nil (then_n ⟨hF.weak ⟨rfl, rfl, rfl, (by rw [hbv_22]; rfl), trivial⟩, hS.weak ⟨rfl, rfl, rfl, rfl, rfl, rfl, trivial⟩⟩)
           intro a w hF hS
           refine step hF (Y.move hF rfl) rfl fun a hF => ?_
           refine join (N := 180) (rs := []) (w0 := w0) (D0 := D0) 4 (us := [(6, .bool false), (176, .bool (((rv_15.2 == 0) && (rv_16.2 == 0)) && (decide (rv_16.1 ≥ rv_15.1))))]) (ms := [(1, .cells b [.int .i64 sv.Hours, .int .i64 sv.Gap, .slice p sv.Machines.length c] 24), (2, .cells b_1 [.int .i64 more.From, .int .i64 more.Warm, .int .i64 more.Life.Low, .int .i64 more.Life.High, .int .i64 more.Drift] 52), (3, .cells b_2 [.int .i64 n.a0, .int .i64 n.a1, .int .i64 n.a2] 61), (4, .cells b_3 [.int .i64 sv.Hours, .int .i64 sv.Gap, .slice p_2 ((([] : List SpareMachine) ++ sv.Machines).set (Int.toNat rv_2) (SpareMachine.mk e.From e.Warm rv_12 e.Drift)).length c_2] 24), (5, .own none ([] : List SpareMachine).length 0 ([]) 52 5), (7, .cells b_5 [.int .i64 e.From, .int .i64 e.Warm, .int .i64 rv_12.Low, .int .i64 rv_12.High, .int .i64 e.Drift] 52)]) (D' := Dv_1) ?_ ?_
           ·rcases bcases ((rv_15.2 == 0) && (rv_16.2 == 0)) with hbv_23 | hbv_23
            ·-- true
             refine guard_on hF rfl rfl hbv_23 ?_
             refine step hF (Y.move hF rfl) rfl fun a hF => ?_
             refine guard_on hF rfl rfl hbv_23 ?_
             refine step hF (Y.move hF rfl) rfl fun a hF => ?_
             refine guard_on hF rfl rfl hbv_23 ?_
             refine step hF (Y.geq hF rfl rfl) rfl fun a hF => ?_
             refine step hF (Y.pick_t hF rfl hbv_23 rfl) rfl fun a hF => ?_
             exact nil (then_n ⟨hF.weak ⟨rfl, (by rw [hbv_23]; rfl), trivial⟩, hS.weak ⟨rfl, rfl, rfl, rfl, rfl, rfl, trivial⟩⟩)
            ·-- false
             refine guard_off hF rfl rfl hbv_23 rfl fun a hF => ?_
             refine guard_off hF rfl rfl hbv_23 rfl fun a hF => ?_
             refine guard_off hF rfl rfl hbv_23 rfl fun a hF => ?_
             refine step hF (Y.pick_f hF rfl hbv_23 rfl) rfl fun a hF => ?_
             exact nil (then_n ⟨hF.weak ⟨rfl, (by rw [hbv_23]; rfl), trivial⟩, hS.weak ⟨rfl, rfl, rfl, rfl, rfl, rfl, trivial⟩⟩)
           intro a w hF hS
           refine step hF (Y.move hF rfl) rfl fun a hF => ?_
           obtain ⟨t_3, ht_3, h⟩ := bind_some h
           refine join (N := 180) (rs := []) (w0 := w0) (D0 := D0) 2 (us := [(6, .bool false), (179, .bool t_3)]) (ms := [(1, .cells b [.int .i64 sv.Hours, .int .i64 sv.Gap, .slice p sv.Machines.length c] 24), (2, .cells b_1 [.int .i64 more.From, .int .i64 more.Warm, .int .i64 more.Life.Low, .int .i64 more.Life.High, .int .i64 more.Drift] 52), (3, .cells b_2 [.int .i64 n.a0, .int .i64 n.a1, .int .i64 n.a2] 61), (4, .cells b_3 [.int .i64 sv.Hours, .int .i64 sv.Gap, .slice p_2 ((([] : List SpareMachine) ++ sv.Machines).set (Int.toNat rv_2) (SpareMachine.mk e.From e.Warm rv_12 e.Drift)).length c_2] 24), (5, .own none ([] : List SpareMachine).length 0 ([]) 52 5), (7, .cells b_5 [.int .i64 e.From, .int .i64 e.Warm, .int .i64 rv_12.Low, .int .i64 rv_12.High, .int .i64 e.Drift] 52)]) (D' := Dv_1) ?_ ?_
           ·rcases bcases (((rv_15.2 == 0) && (rv_16.2 == 0)) && (decide (rv_16.1 ≥ rv_15.1))) with hbv_24 | hbv_24
            ·-- true
             replace h := cond_t ht_3 hbv_24
             refine guard_on hF rfl rfl hbv_24 ?_
             obtain ⟨rv_19, hx_20, h⟩ := bind_some h
             refine O.callP (us := []) ca_21 hF hS (remontoirlaw08_works_ok hS.stab hG rv_19 hx_20) rfl rfl fun a w hF hS => ?_
             refine step hF (Y.pick_t hF rfl hbv_24 rfl) rfl fun a hF => ?_
             obtain rfl := some_inj h
             exact nil (then_n ⟨hF.weak ⟨rfl, rfl, trivial⟩, hS.weak ⟨rfl, rfl, rfl, rfl, rfl, rfl, trivial⟩⟩)
            ·-- false
             replace h := cond_f ht_3 hbv_24
             refine guard_off hF rfl rfl hbv_24 rfl fun a hF => ?_
             refine step hF (Y.pick_f hF rfl hbv_24 rfl) rfl fun a hF => ?_
             obtain rfl := some_inj h
             exact nil (then_n ⟨hF.weak ⟨rfl, rfl, trivial⟩, hS.weak ⟨rfl, rfl, rfl, rfl, rfl, rfl, trivial⟩⟩)
           intro a w hF hS
           refine step hF (Y.assign hF rfl) rfl fun a hF => ?_
           refine nil (then_n ?_)
           refine ret_ ?_
           obtain rfl := some_inj h
           exact leaveP Tryd.results11 hF hS (.cons (.tmp rfl) .nil) .nil rfl
     ·as_aux_lemma =>
       replace h := cond_f h hbv_13
       refine seq ?_
       refine region ?_
       refine step hF (Y.eql hF rfl rfl) rfl fun a hF => ?_
       refine step hF (Y.assign hF rfl) rfl fun a hF => ?_
       refine nil (then_n ?_)
       refine cond_b hF rfl (fun hbv_25 => ?_) (fun hbv_25 => ?_)
       ·as_aux_lemma =>
         replace h := cond_t h hbv_25
         refine region ?_
         refine step hF (Y.fieldAddr fo_52_1 hF rfl) rfl fun a hF => ?_
         refine step hF (Y.load1L 7 sz_3 hF rfl hS rfl rfl) rfl fun a hF => ?_
         refine step hF (Y.move hF rfl) rfl fun a hF => ?_
         refine step hF (Y.sub hF rfl rfl) rfl fun a hF => ?_
         refine step hF (Y.max2 hF rfl rfl) rfl fun a hF => ?_
         refine step hF (Y.fieldAddr fo_52_1 hF rfl) rfl fun a hF => ?_
         refine O.store (us := [.int .i64 (if wr (e.Warm - rv_3) > 0 then wr (e.Warm - rv_3) else 0)]) 7 sz_3 hF rfl rfl rfl rfl hS rfl rfl fun a w hF hS => ?_
         refine nil (blk_n (then_n ?_))
         refine seq ?_
         refine region ?_
         refine step hF (Y.fieldAddr fo_24_2 hF rfl) rfl fun a hF => ?_
         refine step hF (Y.load1L 4 sz_22 hF rfl hS rfl rfl) rfl fun a hF => ?_
         refine step hF (Y.move hF rfl) rfl fun a hF => ?_
         refine step hF (Y.loadNL 7 sz_52 hF rfl hS rfl rfl rfl) rfl fun a hF => ?_
         obtain ⟨hg_4, h⟩ := ite_some h
         obtain ⟨b_8, hp_2⟩ := hS.ownPtr (i := 6) rfl hg_4
         refine step hF (Y.indexOwn hp_2 u_22 sz_52 hg_4 hF rfl rfl) rfl fun a hF => ?_
         refine O.storeOwnP (C := C_SpareMachine) (v0 := (SpareMachine.mk e.From (if wr (e.Warm - rv_3) > 0 then wr (e.Warm - rv_3) else 0) e.Life e.Drift)) (xs := (([] : List SpareMachine) ++ sv.Machines)) (us := [.int .i64 e.From, .int .i64 (if wr (e.Warm - rv_3) > 0 then wr (e.Warm - rv_3) else 0), .int .i64 e.Life.Low, .int .i64 e.Life.High, .int .i64 e.Drift]) 6 hp_2 sz_52 hg_4 hF rfl rfl rfl rfl hS rfl hr_1 fun cs_2 a w hF hS hr_6 => ?_
         try rw [show (([] : List SpareMachine) ++ sv.Machines).length = ((([] : List SpareMachine) ++ sv.Machines).set (Int.toNat rv_2) (SpareMachine.mk e.From (if wr (e.Warm - rv_3) > 0 then wr (e.Warm - rv_3) else 0) e.Life e.Drift)).length from List.length_set.symm] at hF
         try rw [show (([] : List SpareMachine) ++ sv.Machines).length = ((([] : List SpareMachine) ++ sv.Machines).set (Int.toNat rv_2) (SpareMachine.mk e.From (if wr (e.Warm - rv_3) > 0 then wr (e.Warm - rv_3) else 0) e.Life e.Drift)).length from List.length_set.symm] at hS
         refine nil (then_n ?_)
         refine seq ?_
         refine region ?_
         refine step hF (Y.loadNL 1 sz_24 hF rfl hS rfl rfl rfl) rfl fun a hF => ?_
         obtain ⟨rv_20, hx_21, h⟩ := bind_some h
         refine O.callP (us := [.agg #[.int .i64 sv.Hours, .int .i64 sv.Gap, .slice p sv.Machines.length c]]) ca_22 hF hS (spare_Fewest_ok hS.stab sv hs hG rv_20 hx_21) rfl rfl fun a w hF hS => ?_
         refine step hF (Y.move hF rfl) rfl fun a hF => ?_
         refine step hF (Y.extract hF rfl rfl) rfl fun a hF => ?_
         refine step hF (Y.extract hF rfl rfl) rfl fun a hF => ?_
         refine step hF (Y.assign hF rfl) rfl fun a hF => ?_
         refine step hF (Y.assign hF rfl) rfl fun a hF => ?_
         refine nil (then_n ?_)
         refine seq ?_
         refine region ?_
         refine step hF (Y.loadNL 4 sz_24 hF rfl hS rfl rfl rfl) rfl fun a hF => ?_
         obtain ⟨Dv_2, hlev_2, hs_3, hS⟩ := hS.freezeC (i := 6) (xs := ((([] : List SpareMachine) ++ sv.Machines).set (Int.toNat rv_2) (SpareMachine.mk e.From (if wr (e.Warm - rv_3) > 0 then wr (e.Warm - rv_3) else 0) e.Life e.Drift))) rfl hr_6
         replace hs := hs.mono hlev_2
         replace hG := hG.mono hlev_2
         replace hr := hr.mono hlev_2
         replace hr_1 := hr_1.mono hlev_2
         replace hcell := fun w hw => hcell w (Stab.on.le hw hlev_2)
         replace hr_6 := hr_6.mono hlev_2
         obtain ⟨rv_21, hx_22, h⟩ := bind_some h
         refine O.callP (us := [.agg #[.int .i64 sv.Hours, .int .i64 sv.Gap, .slice p_2 ((([] : List SpareMachine) ++ sv.Machines).set (Int.toNat rv_2) (SpareMachine.mk e.From (if wr (e.Warm - rv_3) > 0 then wr (e.Warm - rv_3) else 0) e.Life e.Drift)).length c_2]]) ca_22 hF hS (spare_Fewest_ok hS.stab (SpareStore.mk sv.Hours sv.Gap ((([] : List SpareMachine) ++ sv.Machines).set (Int.toNat rv_2) (SpareMachine.mk e.From (if wr (e.Warm - rv_3) > 0 then wr (e.Warm - rv_3) else 0) e.Life e.Drift))) hs_3 hG rv_21 hx_22) rfl rfl fun a w hF hS => ?_
         refine step hF (Y.move hF rfl) rfl fun a hF => ?_
         refine step hF (Y.extract hF rfl rfl) rfl fun a hF => ?_
         refine step hF (Y.extract hF rfl rfl) rfl fun a hF => ?_
         refine step hF (Y.assign hF rfl) rfl fun a hF => ?_
         refine step hF (Y.assign hF rfl) rfl fun a hF => ?_
         refine nil (then_n ?_)
         refine seq ?_
         refine region ?_
         refine step hF (Y.loadNL 1 sz_24 hF rfl hS rfl rfl rfl) rfl fun a hF => ?_
         obtain ⟨rv_22, hx_23, h⟩ := bind_some h
         refine O.callP (us := [.agg #[.int .i64 sv.Hours, .int .i64 sv.Gap, .slice p sv.Machines.length c]]) ca_25 hF hS (spare_Reach_ok hS.stab sv hs hG rv_22 hx_23) rfl rfl fun a w hF hS => ?_
         refine step hF (Y.move hF rfl) rfl fun a hF => ?_
         refine step hF (Y.extract hF rfl rfl) rfl fun a hF => ?_
         refine step hF (Y.extract hF rfl rfl) rfl fun a hF => ?_
         refine step hF (Y.assign hF rfl) rfl fun a hF => ?_
         refine step hF (Y.assign hF rfl) rfl fun a hF => ?_
         refine nil (then_n ?_)
         refine seq ?_
         refine region ?_
         refine step hF (Y.loadNL 4 sz_24 hF rfl hS rfl rfl rfl) rfl fun a hF => ?_
         obtain ⟨rv_23, hx_24, h⟩ := bind_some h
         refine O.callP (us := [.agg #[.int .i64 sv.Hours, .int .i64 sv.Gap, .slice p_2 ((([] : List SpareMachine) ++ sv.Machines).set (Int.toNat rv_2) (SpareMachine.mk e.From (if wr (e.Warm - rv_3) > 0 then wr (e.Warm - rv_3) else 0) e.Life e.Drift)).length c_2]]) ca_25 hF hS (spare_Reach_ok hS.stab (SpareStore.mk sv.Hours sv.Gap ((([] : List SpareMachine) ++ sv.Machines).set (Int.toNat rv_2) (SpareMachine.mk e.From (if wr (e.Warm - rv_3) > 0 then wr (e.Warm - rv_3) else 0) e.Life e.Drift))) hs_3 hG rv_23 hx_24) rfl rfl fun a w hF hS => ?_
         refine step hF (Y.move hF rfl) rfl fun a hF => ?_
         refine step hF (Y.extract hF rfl rfl) rfl fun a hF => ?_
         refine step hF (Y.extract hF rfl rfl) rfl fun a hF => ?_
         refine step hF (Y.assign hF rfl) rfl fun a hF => ?_
         refine step hF (Y.assign hF rfl) rfl fun a hF => ?_
         refine nil (then_n ?_)
         refine seq ?_
         refine seq ?_
         refine region ?_
         refine step hF (Y.move hF rfl) rfl fun a hF => ?_
         refine step hF (Y.eql hF rfl rfl) rfl fun a hF => ?_
         refine nil (then_n ?_)
         refine cond_b hF rfl (fun hbv_26 => ?_) (fun hbv_26 => ?_)
         ·replace h := cond_t h hbv_26
          refine seq ?_
          refine region ?_
          refine step hF (Y.indexArr u_61 sz_3 hF rfl rfl (by decide) (by decide)) rfl fun a hF => ?_
          refine step hF (Y.load1L 3 sz_3 hF rfl hS rfl rfl) rfl fun a hF => ?_
          obtain ⟨rv_24, hx_25, h⟩ := bind_some h
          refine O.callP (us := [.int .i64 n.a0, .int .i64 7]) ca_42 hF hS (remontoirref00_Rest_ok hS.stab n.a0 7 rv_24 hx_25) rfl rfl fun a w hF hS => ?_
          refine step hF (Y.eql hF rfl rfl) rfl fun a hF => ?_
          refine step hF (Y.move hF rfl) rfl fun a hF => ?_
          refine join (N := 180) (rs := []) (w0 := w0) (D0 := D0) 4 (us := [(6, .bool false), (11, .int .i64 rv_20.1), (12, .int .i64 rv_20.2), (13, .int .i64 rv_21.1), (14, .int .i64 rv_21.2), (15, .int .i64 rv_22.1), (16, .int .i64 rv_22.2), (17, .int .i64 rv_23.1), (18, .int .i64 rv_23.2), (143, .bool ((rv_24 == 0) && (rv_23.2 == rv_21.2)))]) (ms := [(1, .cells b [.int .i64 sv.Hours, .int .i64 sv.Gap, .slice p sv.Machines.length c] 24), (2, .cells b_1 [.int .i64 more.From, .int .i64 more.Warm, .int .i64 more.Life.Low, .int .i64 more.Life.High, .int .i64 more.Drift] 52), (3, .cells b_2 [.int .i64 n.a0, .int .i64 n.a1, .int .i64 n.a2] 61), (4, .cells b_3 [.int .i64 sv.Hours, .int .i64 sv.Gap, .slice p_2 ((([] : List SpareMachine) ++ sv.Machines).set (Int.toNat rv_2) (SpareMachine.mk e.From (if wr (e.Warm - rv_3) > 0 then wr (e.Warm - rv_3) else 0) e.Life e.Drift)).length c_2] 24), (5, .own none ([] : List SpareMachine).length 0 ([]) 52 5), (7, .cells b_5 [.int .i64 e.From, .int .i64 (if wr (e.Warm - rv_3) > 0 then wr (e.Warm - rv_3) else 0), .int .i64 e.Life.Low, .int .i64 e.Life.High, .int .i64 e.Drift] 52)]) (D' := Dv_2) ?_ ?_
          ·rcases bcases (rv_24 == 0) with hbv_27 | hbv_27
           ·-- true
            refine guard_on hF rfl rfl hbv_27 ?_
            refine step hF (Y.move hF rfl) rfl fun a hF => ?_
            refine guard_on hF rfl rfl hbv_27 ?_
            refine step hF (Y.move hF rfl) rfl fun a hF => ?_
            refine guard_on hF rfl rfl hbv_27 ?_
            refine step hF (Y.eql hF rfl rfl) rfl fun a hF => ?_
            refine step hF (Y.pick_t hF rfl hbv_27 rfl) rfl fun a hF => ?_
            exact nil (then_n ⟨hF.weak ⟨rfl, rfl, rfl, rfl, rfl, rfl, rfl, rfl, rfl, (by rw [hbv_27]; rfl), trivial⟩, hS.weak ⟨rfl, rfl, rfl, rfl, rfl, rfl, trivial⟩⟩)
           ·-- false
            refine guard_off hF rfl rfl hbv_27 rfl fun a hF => ?_
            refine guard_off hF rfl rfl hbv_27 rfl fun a hF => ?_
            refine guard_off hF rfl rfl hbv_27 rfl fun a hF => ?_
            refine step hF (Y.pick_f hF rfl hbv_27 rfl) rfl fun a hF => ?_
            exact nil (then_n ⟨hF.weak ⟨rfl, rfl, rfl, rfl, rfl, rfl, rfl, rfl, rfl, (by rw [hbv_27]; rfl), trivial⟩, hS.weak ⟨rfl, rfl, rfl, rfl, rfl, rfl, trivial⟩⟩)
          intro a w hF hS
          refine step hF (Y.move hF rfl) rfl fun a hF => ?_
          obtain ⟨t_4, ht_4, h⟩ := bind_some h
          refine join (N := 180) (rs := []) (w0 := w0) (D0 := D0) 2 (us := [(6, .bool false), (11, .int .i64 rv_20.1), (12, .int .i64 rv_20.2), (13, .int .i64 rv_21.1), (14, .int .i64 rv_21.2), (15, .int .i64 rv_22.1), (16, .int .i64 rv_22.2), (17, .int .i64 rv_23.1), (18, .int .i64 rv_23.2), (146, .bool t_4)]) (ms := [(1, .cells b [.int .i64 sv.Hours, .int .i64 sv.Gap, .slice p sv.Machines.length c] 24), (2, .cells b_1 [.int .i64 more.From, .int .i64 more.Warm, .int .i64 more.Life.Low, .int .i64 more.Life.High, .int .i64 more.Drift] 52), (3, .cells b_2 [.int .i64 n.a0, .int .i64 n.a1, .int .i64 n.a2] 61), (4, .cells b_3 [.int .i64 sv.Hours, .int .i64 sv.Gap, .slice p_2 ((([] : List SpareMachine) ++ sv.Machines).set (Int.toNat rv_2) (SpareMachine.mk e.From (if wr (e.Warm - rv_3) > 0 then wr (e.Warm - rv_3) else 0) e.Life e.Drift)).length c_2] 24), (5, .own none ([] : List SpareMachine).length 0 ([]) 52 5), (7, .cells b_5 [.int .i64 e.From, .int .i64 (if wr (e.Warm - rv_3) > 0 then wr (e.Warm - rv_3) else 0), .int .i64 e.Life.Low, .int .i64 e.Life.High, .int .i64 e.Drift] 52)]) (D' := Dv_2) ?_ ?_
          ·rcases bcases ((rv_24 == 0) && (rv_23.2 == rv_21.2)) with hbv_28 | hbv_28
           ·-- true
            replace h := cond_t ht_4 hbv_28
            refine guard_on hF rfl rfl hbv_28 ?_
            obtain ⟨rv_25, hx_26, h⟩ := bind_some h
            refine O.callP (us := []) ca_21 hF hS (remontoirlaw08_works_ok hS.stab hG rv_25 hx_26) rfl rfl fun a w hF hS => ?_
            refine step hF (Y.pick_t hF rfl hbv_28 rfl) rfl fun a hF => ?_
            obtain rfl := some_inj h
            exact nil (then_n ⟨hF.weak ⟨rfl, rfl, rfl, rfl, rfl, rfl, rfl, rfl, rfl, rfl, trivial⟩, hS.weak ⟨rfl, rfl, rfl, rfl, rfl, rfl, trivial⟩⟩)
           ·-- false
            replace h := cond_f ht_4 hbv_28
            refine guard_off hF rfl rfl hbv_28 rfl fun a hF => ?_
            refine step hF (Y.pick_f hF rfl hbv_28 rfl) rfl fun a hF => ?_
            obtain rfl := some_inj h
            exact nil (then_n ⟨hF.weak ⟨rfl, rfl, rfl, rfl, rfl, rfl, rfl, rfl, rfl, rfl, trivial⟩, hS.weak ⟨rfl, rfl, rfl, rfl, rfl, rfl, trivial⟩⟩)
          intro a w hF hS
          refine step hF (Y.assign hF rfl) rfl fun a hF => ?_
          refine nil (then_n ?_)
          refine ret_ (then_r ?_)
          obtain rfl := some_inj h
          exact leaveP Tryd.results11 hF hS (.cons (.tmp rfl) .nil) .nil rfl
         ·as_aux_lemma =>
           replace h := cond_f h hbv_26
           refine skip_ (then_n ?_)
           refine seq ?_
           refine seq ?_
           refine region ?_
           refine step hF (Y.move hF rfl) rfl fun a hF => ?_
           refine step hF (Y.eql hF rfl rfl) rfl fun a hF => ?_
           refine step hF (Y.move hF rfl) rfl fun a hF => ?_
           refine join (N := 180) (rs := []) (w0 := w0) (D0 := D0) 8 (us := [(6, .bool false), (12, .int .i64 rv_20.2), (15, .int .i64 rv_22.1), (16, .int .i64 rv_22.2), (17, .int .i64 rv_23.1), (18, .int .i64 rv_23.2), (157, .bool ((rv_20.2 == 0) && ((rv_21.2 != 0) || (decide (rv_21.1 > rv_20.1)))))]) (ms := [(1, .cells b [.int .i64 sv.Hours, .int .i64 sv.Gap, .slice p sv.Machines.length c] 24), (2, .cells b_1 [.int .i64 more.From, .int .i64 more.Warm, .int .i64 more.Life.Low, .int .i64 more.Life.High, .int .i64 more.Drift] 52), (3, .cells b_2 [.int .i64 n.a0, .int .i64 n.a1, .int .i64 n.a2] 61), (4, .cells b_3 [.int .i64 sv.Hours, .int .i64 sv.Gap, .slice p_2 ((([] : List SpareMachine) ++ sv.Machines).set (Int.toNat rv_2) (SpareMachine.mk e.From (if wr (e.Warm - rv_3) > 0 then wr (e.Warm - rv_3) else 0) e.Life e.Drift)).length c_2] 24), (5, .own none ([] : List SpareMachine).length 0 ([]) 52 5), (7, .cells b_5 [.int .i64 e.From, .int .i64 (if wr (e.Warm - rv_3) > 0 then wr (e.Warm - rv_3) else 0), .int .i64 e.Life.Low, .int .i64 e.Life.High, .int .i64 e.Drift] 52)]) (D' := Dv_2) ?_ ?_
           ·rcases bcases (rv_20.2 == 0) with hbv_29 | hbv_29
            ·-- true
             refine guard_on hF rfl rfl hbv_29 ?_
             refine step hF (Y.move hF rfl) rfl fun a hF => ?_
             refine guard_on hF rfl rfl hbv_29 ?_
             refine step hF (Y.neq hF rfl rfl) rfl fun a hF => ?_
             refine guard_on hF rfl rfl hbv_29 ?_
             refine step hF (Y.move hF rfl) rfl fun a hF => ?_
             refine join (N := 180) (rs := []) (w0 := w0) (D0 := D0) 4 (us := [(6, .bool false), (12, .int .i64 rv_20.2), (15, .int .i64 rv_22.1), (16, .int .i64 rv_22.2), (17, .int .i64 rv_23.1), (18, .int .i64 rv_23.2), (149, .bool (rv_20.2 == 0)), (156, .bool ((rv_21.2 != 0) || (decide (rv_21.1 > rv_20.1))))]) (ms := [(1, .cells b [.int .i64 sv.Hours, .int .i64 sv.Gap, .slice p sv.Machines.length c] 24), (2, .cells b_1 [.int .i64 more.From, .int .i64 more.Warm, .int .i64 more.Life.Low, .int .i64 more.Life.High, .int .i64 more.Drift] 52), (3, .cells b_2 [.int .i64 n.a0, .int .i64 n.a1, .int .i64 n.a2] 61), (4, .cells b_3 [.int .i64 sv.Hours, .int .i64 sv.Gap, .slice p_2 ((([] : List SpareMachine) ++ sv.Machines).set (Int.toNat rv_2) (SpareMachine.mk e.From (if wr (e.Warm - rv_3) > 0 then wr (e.Warm - rv_3) else 0) e.Life e.Drift)).length c_2] 24), (5, .own none ([] : List SpareMachine).length 0 ([]) 52 5), (7, .cells b_5 [.int .i64 e.From, .int .i64 (if wr (e.Warm - rv_3) > 0 then wr (e.Warm - rv_3) else 0), .int .i64 e.Life.Low, .int .i64 e.Life.High, .int .i64 e.Drift] 52)]) (D' := Dv_2) ?_ ?_
             ·rcases bcases (rv_21.2 != 0) with hbv_30 | hbv_30
              ·-- true
               refine guard_off hF rfl rfl hbv_30 rfl fun a hF => ?_
               refine guard_off hF rfl rfl hbv_30 rfl fun a hF => ?_
               refine guard_off hF rfl rfl hbv_30 rfl fun a hF => ?_
               refine guard_on hF rfl rfl hbv_29 ?_
               refine step hF (Y.pick_t hF rfl hbv_30 rfl) rfl fun a hF => ?_
               exact nil (then_n ⟨hF.weak ⟨rfl, rfl, rfl, rfl, rfl, rfl, rfl, (by rw [hbv_30]; rfl), trivial⟩, hS.weak ⟨rfl, rfl, rfl, rfl, rfl, rfl, trivial⟩⟩)
              ·-- false
               refine guard_on hF rfl rfl hbv_30 ?_
               refine step hF (Y.move hF rfl) rfl fun a hF => ?_
               refine guard_on hF rfl rfl hbv_30 ?_
               refine step hF (Y.move hF rfl) rfl fun a hF => ?_
               refine guard_on hF rfl rfl hbv_30 ?_
               refine step hF (Y.gtr hF rfl rfl) rfl fun a hF => ?_
               refine guard_on hF rfl rfl hbv_29 ?_
               refine step hF (Y.pick_f hF rfl hbv_30 rfl) rfl fun a hF => ?_
               exact nil (then_n ⟨hF.weak ⟨rfl, rfl, rfl, rfl, rfl, rfl, rfl, (by rw [hbv_30]; rfl), trivial⟩, hS.weak ⟨rfl, rfl, rfl, rfl, rfl, rfl, trivial⟩⟩)
             intro a w hF hS
             refine step hF (Y.pick_t hF rfl hbv_29 rfl) rfl fun a hF => ?_
             exact nil (then_n ⟨hF.weak ⟨rfl, rfl, rfl, rfl, rfl, rfl, (by rw [hbv_29]; rfl), trivial⟩, hS.weak ⟨rfl, rfl, rfl, rfl, rfl, rfl, trivial⟩⟩)
            ·-- false
             refine guard_off hF rfl rfl hbv_29 rfl fun a hF => ?_
             refine guard_off hF rfl rfl hbv_29 rfl fun a hF => ?_
             refine guard_off hF rfl rfl hbv_29 rfl fun a hF => ?_
             refine guard_offu hF rfl rfl rfl fun a hF => ?_
             refine guard_offu hF rfl rfl rfl fun a hF => ?_
             refine guard_offu hF rfl rfl rfl fun a hF => ?_
             refine guard_off hF rfl rfl hbv_29 rfl fun a hF => ?_
             refine step hF (Y.pick_f hF rfl hbv_29 rfl) rfl fun a hF => ?_
             exact nil (then_n ⟨hF.weak ⟨rfl, rfl, rfl, rfl, rfl, rfl, (by rw [hbv_29]; rfl), trivial⟩, hS.weak ⟨rfl, rfl, rfl, rfl, rfl, rfl, trivial⟩⟩)
           intro a w hF hS
           refine step hF (Y.move hF rfl) rfl fun a hF => ?_
           refine join (N := 180) (rs := []) (w0 := w0) (D0 := D0) 7 (us := [(6, .bool false), (15, .int .i64 rv_22.1), (16, .int .i64 rv_22.2), (17, .int .i64 rv_23.1), (18, .int .i64 rv_23.2), (165, .bool (((rv_20.2 == 0) && ((rv_21.2 != 0) || (decide (rv_21.1 > rv_20.1)))) || ((rv_20.2 != 0) && (rv_20.2 != 4))))]) (ms := [(1, .cells b [.int .i64 sv.Hours, .int .i64 sv.Gap, .slice p sv.Machines.length c] 24), (2, .cells b_1 [.int .i64 more.From, .int .i64 more.Warm, .int .i64 more.Life.Low, .int .i64 more.Life.High, .int .i64 more.Drift] 52), (3, .cells b_2 [.int .i64 n.a0, .int .i64 n.a1, .int .i64 n.a2] 61), (4, .cells b_3 [.int .i64 sv.Hours, .int .i64 sv.Gap, .slice p_2 ((([] : List SpareMachine) ++ sv.Machines).set (Int.toNat rv_2) (SpareMachine.mk e.From (if wr (e.Warm - rv_3) > 0 then wr (e.Warm - rv_3) else 0) e.Life e.Drift)).length c_2] 24), (5, .own none ([] : List SpareMachine).length 0 ([]) 52 5), (7, .cells b_5 [.int .i64 e.From, .int .i64 (if wr (e.Warm - rv_3) > 0 then wr (e.Warm - rv_3) else 0), .int .i64 e.Life.Low, .int .i64 e.Life.High, .int .i64 e.Drift] 52)]) (D' := Dv_2) ?_ ?_
           ·rcases bcases ((rv_20.2 == 0) && ((rv_21.2 != 0) || (decide (rv_21.1 > rv_20.1)))) with hbv_31 | hbv_31
            ·-- true
             refine guard_off hF rfl rfl hbv_31 rfl fun a hF => ?_
             refine guard_off hF rfl rfl hbv_31 rfl fun a hF => ?_
             refine guard_off hF rfl rfl hbv_31 rfl fun a hF => ?_
             refine guard_offu hF rfl rfl rfl fun a hF => ?_
             refine guard_offu hF rfl rfl rfl fun a hF => ?_
             refine guard_off hF rfl rfl hbv_31 rfl fun a hF => ?_
             refine step hF (Y.pick_t hF rfl hbv_31 rfl) rfl fun a hF => ?_
             exact nil (then_n ⟨hF.weak ⟨rfl, rfl, rfl, rfl, rfl, (by rw [hbv_31]; rfl), trivial⟩, hS.weak ⟨rfl, rfl, rfl, rfl, rfl, rfl, trivial⟩⟩)
            ·-- false
             refine guard_on hF rfl rfl hbv_31 ?_
             refine step hF (Y.move hF rfl) rfl fun a hF => ?_
             refine guard_on hF rfl rfl hbv_31 ?_
             refine step hF (Y.neq hF rfl rfl) rfl fun a hF => ?_
             refine guard_on hF rfl rfl hbv_31 ?_
             refine step hF (Y.move hF rfl) rfl fun a hF => ?_
             refine join (N := 180) (rs := []) (w0 := w0) (D0 := D0) 3 (us := [(6, .bool false), (15, .int .i64 rv_22.1), (16, .int .i64 rv_22.2), (17, .int .i64 rv_23.1), (18, .int .i64 rv_23.2), (158, .bool ((rv_20.2 == 0) && ((rv_21.2 != 0) || (decide (rv_21.1 > rv_20.1))))), (164, .bool ((rv_20.2 != 0) && (rv_20.2 != 4)))]) (ms := [(1, .cells b [.int .i64 sv.Hours, .int .i64 sv.Gap, .slice p sv.Machines.length c] 24), (2, .cells b_1 [.int .i64 more.From, .int .i64 more.Warm, .int .i64 more.Life.Low, .int .i64 more.Life.High, .int .i64 more.Drift] 52), (3, .cells b_2 [.int .i64 n.a0, .int .i64 n.a1, .int .i64 n.a2] 61), (4, .cells b_3 [.int .i64 sv.Hours, .int .i64 sv.Gap, .slice p_2 ((([] : List SpareMachine) ++ sv.Machines).set (Int.toNat rv_2) (SpareMachine.mk e.From (if wr (e.Warm - rv_3) > 0 then wr (e.Warm - rv_3) else 0) e.Life e.Drift)).length c_2] 24), (5, .own none ([] : List SpareMachine).length 0 ([]) 52 5), (7, .cells b_5 [.int .i64 e.From, .int .i64 (if wr (e.Warm - rv_3) > 0 then wr (e.Warm - rv_3) else 0), .int .i64 e.Life.Low, .int .i64 e.Life.High, .int .i64 e.Drift] 52)]) (D' := Dv_2) ?_ ?_
             ·rcases bcases (rv_20.2 != 0) with hbv_32 | hbv_32
              ·-- true
               refine guard_on hF rfl rfl hbv_32 ?_
               refine step hF (Y.move hF rfl) rfl fun a hF => ?_
               refine guard_on hF rfl rfl hbv_32 ?_
               refine step hF (Y.neq hF rfl rfl) rfl fun a hF => ?_
               refine guard_on hF rfl rfl hbv_31 ?_
               refine step hF (Y.pick_t hF rfl hbv_32 rfl) rfl fun a hF => ?_
               exact nil (then_n ⟨hF.weak ⟨rfl, rfl, rfl, rfl, rfl, rfl, (by rw [hbv_32]; rfl), trivial⟩, hS.weak ⟨rfl, rfl, rfl, rfl, rfl, rfl, trivial⟩⟩)
              ·-- false
               refine guard_off hF rfl rfl hbv_32 rfl fun a hF => ?_
               refine guard_off hF rfl rfl hbv_32 rfl fun a hF => ?_
               refine guard_on hF rfl rfl hbv_31 ?_
               refine step hF (Y.pick_f hF rfl hbv_32 rfl) rfl fun a hF => ?_
               exact nil (then_n ⟨hF.weak ⟨rfl, rfl, rfl, rfl, rfl, rfl, (by rw [hbv_32]; rfl), trivial⟩, hS.weak ⟨rfl, rfl, rfl, rfl, rfl, rfl, trivial⟩⟩)
             intro a w hF hS
             refine step hF (Y.pick_f hF rfl hbv_31 rfl) rfl fun a hF => ?_
             exact nil (then_n ⟨hF.weak ⟨rfl, rfl, rfl, rfl, rfl, (by rw [hbv_31]; rfl), trivial⟩, hS.weak ⟨rfl, rfl, rfl, rfl, rfl, rfl, trivial⟩⟩)
           intro a w hF hS
           refine nil (then_n ?_)
           refine cond_b hF rfl (fun hbv_33 => ?_) (fun hbv_33 => ?_)
           ·replace h := cond_t h hbv_33
            refine seq ?_
            refine region ?_
            refine step hF (Y.assign hF rfl) rfl fun a hF => ?_
            refine nil (then_n ?_)
            refine ret_ (then_r ?_)
            obtain rfl := some_inj h
            exact leaveP Tryd.results11 hF hS (.cons (.tmp rfl) .nil) .nil rfl
           ·as_aux_lemma =>
             replace h := cond_f h hbv_33
             refine skip_ (then_n ?_)
             refine seq ?_
             refine region ?_
             refine step hF (Y.move hF rfl) rfl fun a hF => ?_
             refine step hF (Y.eql hF rfl rfl) rfl fun a hF => ?_
             refine step hF (Y.move hF rfl) rfl fun a hF => ?_
             refine join (N := 180) (rs := []) (w0 := w0) (D0 := D0) 3 (us := [(6, .bool false), (15, .int .i64 rv_22.1), (17, .int .i64 rv_23.1), (171, .bool ((rv_22.2 == 0) && (rv_23.2 == 0)))]) (ms := [(1, .cells b [.int .i64 sv.Hours, .int .i64 sv.Gap, .slice p sv.Machines.length c] 24), (2, .cells b_1 [.int .i64 more.From, .int .i64 more.Warm, .int .i64 more.Life.Low, .int .i64 more.Life.High, .int .i64 more.Drift] 52), (3, .cells b_2 [.int .i64 n.a0, .int .i64 n.a1, .int .i64 n.a2] 61), (4, .cells b_3 [.int .i64 sv.Hours, .int .i64 sv.Gap, .slice p_2 ((([] : List SpareMachine) ++ sv.Machines).set (Int.toNat rv_2) (SpareMachine.mk e.From (if wr (e.Warm - rv_3) > 0 then wr (e.Warm - rv_3) else 0) e.Life e.Drift)).length c_2] 24), (5, .own none ([] : List SpareMachine).length 0 ([]) 52 5), (7, .cells b_5 [.int .i64 e.From, .int .i64 (if wr (e.Warm - rv_3) > 0 then wr (e.Warm - rv_3) else 0), .int .i64 e.Life.Low, .int .i64 e.Life.High, .int .i64 e.Drift] 52)]) (D' := Dv_2) ?_ ?_
             ·rcases bcases (rv_22.2 == 0) with hbv_34 | hbv_34
              ·-- true
               refine guard_on hF rfl rfl hbv_34 ?_
               refine step hF (Y.move hF rfl) rfl fun a hF => ?_
               refine guard_on hF rfl rfl hbv_34 ?_
               refine step hF (Y.eql hF rfl rfl) rfl fun a hF => ?_
               refine step hF (Y.pick_t hF rfl hbv_34 rfl) rfl fun a hF => ?_
               exact nil (then_n ⟨hF.weak ⟨rfl, rfl, rfl, (by rw [hbv_34]; rfl), trivial⟩, hS.weak ⟨rfl, rfl, rfl, rfl, rfl, rfl, trivial⟩⟩)
              ·-- false
               refine guard_off hF rfl rfl hbv_34 rfl fun a hF => ?_
               refine guard_off hF rfl rfl hbv_34 rfl fun a hF => ?_
               refine step hF (Y.pick_f hF rfl hbv_34 rfl) rfl fun a hF => ?_
               exact nil (then_n ⟨hF.weak ⟨rfl, rfl, rfl, (by rw [hbv_34]; rfl), trivial⟩, hS.weak ⟨rfl, rfl, rfl, rfl, rfl, rfl, trivial⟩⟩)
             intro a w hF hS
             refine step hF (Y.move hF rfl) rfl fun a hF => ?_
             refine join (N := 180) (rs := []) (w0 := w0) (D0 := D0) 4 (us := [(6, .bool false), (176, .bool (((rv_22.2 == 0) && (rv_23.2 == 0)) && (decide (rv_23.1 ≥ rv_22.1))))]) (ms := [(1, .cells b [.int .i64 sv.Hours, .int .i64 sv.Gap, .slice p sv.Machines.length c] 24), (2, .cells b_1 [.int .i64 more.From, .int .i64 more.Warm, .int .i64 more.Life.Low, .int .i64 more.Life.High, .int .i64 more.Drift] 52), (3, .cells b_2 [.int .i64 n.a0, .int .i64 n.a1, .int .i64 n.a2] 61), (4, .cells b_3 [.int .i64 sv.Hours, .int .i64 sv.Gap, .slice p_2 ((([] : List SpareMachine) ++ sv.Machines).set (Int.toNat rv_2) (SpareMachine.mk e.From (if wr (e.Warm - rv_3) > 0 then wr (e.Warm - rv_3) else 0) e.Life e.Drift)).length c_2] 24), (5, .own none ([] : List SpareMachine).length 0 ([]) 52 5), (7, .cells b_5 [.int .i64 e.From, .int .i64 (if wr (e.Warm - rv_3) > 0 then wr (e.Warm - rv_3) else 0), .int .i64 e.Life.Low, .int .i64 e.Life.High, .int .i64 e.Drift] 52)]) (D' := Dv_2) ?_ ?_
             ·rcases bcases ((rv_22.2 == 0) && (rv_23.2 == 0)) with hbv_35 | hbv_35
              ·-- true
               refine guard_on hF rfl rfl hbv_35 ?_
               refine step hF (Y.move hF rfl) rfl fun a hF => ?_
               refine guard_on hF rfl rfl hbv_35 ?_
               refine step hF (Y.move hF rfl) rfl fun a hF => ?_
               refine guard_on hF rfl rfl hbv_35 ?_
               refine step hF (Y.geq hF rfl rfl) rfl fun a hF => ?_
               refine step hF (Y.pick_t hF rfl hbv_35 rfl) rfl fun a hF => ?_
               exact nil (then_n ⟨hF.weak ⟨rfl, (by rw [hbv_35]; rfl), trivial⟩, hS.weak ⟨rfl, rfl, rfl, rfl, rfl, rfl, trivial⟩⟩)
              ·-- false
               refine guard_off hF rfl rfl hbv_35 rfl fun a hF => ?_
               refine guard_off hF rfl rfl hbv_35 rfl fun a hF => ?_
               refine guard_off hF rfl rfl hbv_35 rfl fun a hF => ?_
               refine step hF (Y.pick_f hF rfl hbv_35 rfl) rfl fun a hF => ?_
               exact nil (then_n ⟨hF.weak ⟨rfl, (by rw [hbv_35]; rfl), trivial⟩, hS.weak ⟨rfl, rfl, rfl, rfl, rfl, rfl, trivial⟩⟩)
             intro a w hF hS
             refine step hF (Y.move hF rfl) rfl fun a hF => ?_
             obtain ⟨t_5, ht_5, h⟩ := bind_some h
             refine join (N := 180) (rs := []) (w0 := w0) (D0 := D0) 2 (us := [(6, .bool false), (179, .bool t_5)]) (ms := [(1, .cells b [.int .i64 sv.Hours, .int .i64 sv.Gap, .slice p sv.Machines.length c] 24), (2, .cells b_1 [.int .i64 more.From, .int .i64 more.Warm, .int .i64 more.Life.Low, .int .i64 more.Life.High, .int .i64 more.Drift] 52), (3, .cells b_2 [.int .i64 n.a0, .int .i64 n.a1, .int .i64 n.a2] 61), (4, .cells b_3 [.int .i64 sv.Hours, .int .i64 sv.Gap, .slice p_2 ((([] : List SpareMachine) ++ sv.Machines).set (Int.toNat rv_2) (SpareMachine.mk e.From (if wr (e.Warm - rv_3) > 0 then wr (e.Warm - rv_3) else 0) e.Life e.Drift)).length c_2] 24), (5, .own none ([] : List SpareMachine).length 0 ([]) 52 5), (7, .cells b_5 [.int .i64 e.From, .int .i64 (if wr (e.Warm - rv_3) > 0 then wr (e.Warm - rv_3) else 0), .int .i64 e.Life.Low, .int .i64 e.Life.High, .int .i64 e.Drift] 52)]) (D' := Dv_2) ?_ ?_
             ·rcases bcases (((rv_22.2 == 0) && (rv_23.2 == 0)) && (decide (rv_23.1 ≥ rv_22.1))) with hbv_36 | hbv_36
              ·-- true
               replace h := cond_t ht_5 hbv_36
               refine guard_on hF rfl rfl hbv_36 ?_
               obtain ⟨rv_26, hx_27, h⟩ := bind_some h
               refine O.callP (us := []) ca_21 hF hS (remontoirlaw08_works_ok hS.stab hG rv_26 hx_27) rfl rfl fun a w hF hS => ?_
               refine step hF (Y.pick_t hF rfl hbv_36 rfl) rfl fun a hF => ?_
               obtain rfl := some_inj h
               exact nil (then_n ⟨hF.weak ⟨rfl, rfl, trivial⟩, hS.weak ⟨rfl, rfl, rfl, rfl, rfl, rfl, trivial⟩⟩)
              ·-- false
               replace h := cond_f ht_5 hbv_36
               refine guard_off hF rfl rfl hbv_36 rfl fun a hF => ?_
               refine step hF (Y.pick_f hF rfl hbv_36 rfl) rfl fun a hF => ?_
               obtain rfl := some_inj h
               exact nil (then_n ⟨hF.weak ⟨rfl, rfl, trivial⟩, hS.weak ⟨rfl, rfl, rfl, rfl, rfl, rfl, trivial⟩⟩)
             intro a w hF hS
             refine step hF (Y.assign hF rfl) rfl fun a hF => ?_
             refine nil (then_n ?_)
             refine ret_ ?_
             obtain rfl := some_inj h
             exact leaveP Tryd.results11 hF hS (.cons (.tmp rfl) .nil) .nil rfl
       ·as_aux_lemma =>
         replace h := cond_f h hbv_25
         refine seq ?_
         refine region ?_
         refine step hF (Y.eql hF rfl rfl) rfl fun a hF => ?_
         refine step hF (Y.assign hF rfl) rfl fun a hF => ?_
         refine nil (then_n ?_)
         refine cond_b hF rfl (fun hbv_37 => ?_) (fun hbv_37 => ?_)
         ·as_aux_lemma =>
           replace h := cond_t h hbv_37
           refine region ?_
           refine step hF (Y.fieldAddr fo_52_0 hF rfl) rfl fun a hF => ?_
           refine step hF (Y.load1L 7 sz_3 hF rfl hS rfl rfl) rfl fun a hF => ?_
           refine step hF (Y.move hF rfl) rfl fun a hF => ?_
           refine step hF (Y.sub hF rfl rfl) rfl fun a hF => ?_
           refine step hF (Y.max2 hF rfl rfl) rfl fun a hF => ?_
           refine step hF (Y.fieldAddr fo_52_0 hF rfl) rfl fun a hF => ?_
           refine O.store (us := [.int .i64 (if wr (e.From - rv_3) > -500 then wr (e.From - rv_3) else -500)]) 7 sz_3 hF rfl rfl rfl rfl hS rfl rfl fun a w hF hS => ?_
           refine nil (blk_n (then_n ?_))
           refine seq ?_
           refine region ?_
           refine step hF (Y.fieldAddr fo_24_2 hF rfl) rfl fun a hF => ?_
           refine step hF (Y.load1L 4 sz_22 hF rfl hS rfl rfl) rfl fun a hF => ?_
           refine step hF (Y.move hF rfl) rfl fun a hF => ?_
           refine step hF (Y.loadNL 7 sz_52 hF rfl hS rfl rfl rfl) rfl fun a hF => ?_
           obtain ⟨hg_5, h⟩ := ite_some h
           obtain ⟨b_9, hp_3⟩ := hS.ownPtr (i := 6) rfl hg_5
           refine step hF (Y.indexOwn hp_3 u_22 sz_52 hg_5 hF rfl rfl) rfl fun a hF => ?_
           refine O.storeOwnP (C := C_SpareMachine) (v0 := (SpareMachine.mk (if wr (e.From - rv_3) > -500 then wr (e.From - rv_3) else -500) e.Warm e.Life e.Drift)) (xs := (([] : List SpareMachine) ++ sv.Machines)) (us := [.int .i64 (if wr (e.From - rv_3) > -500 then wr (e.From - rv_3) else -500), .int .i64 e.Warm, .int .i64 e.Life.Low, .int .i64 e.Life.High, .int .i64 e.Drift]) 6 hp_3 sz_52 hg_5 hF rfl rfl rfl rfl hS rfl hr_1 fun cs_3 a w hF hS hr_7 => ?_
           try rw [show (([] : List SpareMachine) ++ sv.Machines).length = ((([] : List SpareMachine) ++ sv.Machines).set (Int.toNat rv_2) (SpareMachine.mk (if wr (e.From - rv_3) > -500 then wr (e.From - rv_3) else -500) e.Warm e.Life e.Drift)).length from List.length_set.symm] at hF
           try rw [show (([] : List SpareMachine) ++ sv.Machines).length = ((([] : List SpareMachine) ++ sv.Machines).set (Int.toNat rv_2) (SpareMachine.mk (if wr (e.From - rv_3) > -500 then wr (e.From - rv_3) else -500) e.Warm e.Life e.Drift)).length from List.length_set.symm] at hS
           refine nil (then_n ?_)
           refine seq ?_
           refine region ?_
           refine step hF (Y.loadNL 1 sz_24 hF rfl hS rfl rfl rfl) rfl fun a hF => ?_
           obtain ⟨rv_27, hx_28, h⟩ := bind_some h
           refine O.callP (us := [.agg #[.int .i64 sv.Hours, .int .i64 sv.Gap, .slice p sv.Machines.length c]]) ca_22 hF hS (spare_Fewest_ok hS.stab sv hs hG rv_27 hx_28) rfl rfl fun a w hF hS => ?_
           refine step hF (Y.move hF rfl) rfl fun a hF => ?_
           refine step hF (Y.extract hF rfl rfl) rfl fun a hF => ?_
           refine step hF (Y.extract hF rfl rfl) rfl fun a hF => ?_
           refine step hF (Y.assign hF rfl) rfl fun a hF => ?_
           refine step hF (Y.assign hF rfl) rfl fun a hF => ?_
           refine nil (then_n ?_)
           refine seq ?_
           refine region ?_
           refine step hF (Y.loadNL 4 sz_24 hF rfl hS rfl rfl rfl) rfl fun a hF => ?_
           obtain ⟨Dv_3, hlev_3, hs_4, hS⟩ := hS.freezeC (i := 6) (xs := ((([] : List SpareMachine) ++ sv.Machines).set (Int.toNat rv_2) (SpareMachine.mk (if wr (e.From - rv_3) > -500 then wr (e.From - rv_3) else -500) e.Warm e.Life e.Drift))) rfl hr_7
           replace hs := hs.mono hlev_3
           replace hG := hG.mono hlev_3
           replace hr := hr.mono hlev_3
           replace hr_1 := hr_1.mono hlev_3
           replace hcell := fun w hw => hcell w (Stab.on.le hw hlev_3)
           replace hr_7 := hr_7.mono hlev_3
           obtain ⟨rv_28, hx_29, h⟩ := bind_some h
           refine O.callP (us := [.agg #[.int .i64 sv.Hours, .int .i64 sv.Gap, .slice p_2 ((([] : List SpareMachine) ++ sv.Machines).set (Int.toNat rv_2) (SpareMachine.mk (if wr (e.From - rv_3) > -500 then wr (e.From - rv_3) else -500) e.Warm e.Life e.Drift)).length c_2]]) ca_22 hF hS (spare_Fewest_ok hS.stab (SpareStore.mk sv.Hours sv.Gap ((([] : List SpareMachine) ++ sv.Machines).set (Int.toNat rv_2) (SpareMachine.mk (if wr (e.From - rv_3) > -500 then wr (e.From - rv_3) else -500) e.Warm e.Life e.Drift))) hs_4 hG rv_28 hx_29) rfl rfl fun a w hF hS => ?_
           refine step hF (Y.move hF rfl) rfl fun a hF => ?_
           refine step hF (Y.extract hF rfl rfl) rfl fun a hF => ?_
           refine step hF (Y.extract hF rfl rfl) rfl fun a hF => ?_
           refine step hF (Y.assign hF rfl) rfl fun a hF => ?_
           refine step hF (Y.assign hF rfl) rfl fun a hF => ?_
           refine nil (then_n ?_)
           refine seq ?_
           refine region ?_
           refine step hF (Y.loadNL 1 sz_24 hF rfl hS rfl rfl rfl) rfl fun a hF => ?_
           obtain ⟨rv_29, hx_30, h⟩ := bind_some h
           refine O.callP (us := [.agg #[.int .i64 sv.Hours, .int .i64 sv.Gap, .slice p sv.Machines.length c]]) ca_25 hF hS (spare_Reach_ok hS.stab sv hs hG rv_29 hx_30) rfl rfl fun a w hF hS => ?_
           refine step hF (Y.move hF rfl) rfl fun a hF => ?_
           refine step hF (Y.extract hF rfl rfl) rfl fun a hF => ?_
           refine step hF (Y.extract hF rfl rfl) rfl fun a hF => ?_
           refine step hF (Y.assign hF rfl) rfl fun a hF => ?_
           refine step hF (Y.assign hF rfl) rfl fun a hF => ?_
           refine nil (then_n ?_)
           refine seq ?_
           refine region ?_
           refine step hF (Y.loadNL 4 sz_24 hF rfl hS rfl rfl rfl) rfl fun a hF => ?_
           obtain ⟨rv_30, hx_31, h⟩ := bind_some h
           refine O.callP (us := [.agg #[.int .i64 sv.Hours, .int .i64 sv.Gap, .slice p_2 ((([] : List SpareMachine) ++ sv.Machines).set (Int.toNat rv_2) (SpareMachine.mk (if wr (e.From - rv_3) > -500 then wr (e.From - rv_3) else -500) e.Warm e.Life e.Drift)).length c_2]]) ca_25 hF hS (spare_Reach_ok hS.stab (SpareStore.mk sv.Hours sv.Gap ((([] : List SpareMachine) ++ sv.Machines).set (Int.toNat rv_2) (SpareMachine.mk (if wr (e.From - rv_3) > -500 then wr (e.From - rv_3) else -500) e.Warm e.Life e.Drift))) hs_4 hG rv_30 hx_31) rfl rfl fun a w hF hS => ?_
           refine step hF (Y.move hF rfl) rfl fun a hF => ?_
           refine step hF (Y.extract hF rfl rfl) rfl fun a hF => ?_
           refine step hF (Y.extract hF rfl rfl) rfl fun a hF => ?_
           refine step hF (Y.assign hF rfl) rfl fun a hF => ?_
           refine step hF (Y.assign hF rfl) rfl fun a hF => ?_
           refine nil (then_n ?_)
           refine seq ?_
           refine seq ?_
           refine region ?_
           refine step hF (Y.move hF rfl) rfl fun a hF => ?_
           refine step hF (Y.eql hF rfl rfl) rfl fun a hF => ?_
           refine nil (then_n ?_)
           refine cond_b hF rfl (fun hbv_38 => ?_) (fun hbv_38 => ?_)
           ·replace h := cond_t h hbv_38
            refine seq ?_
            refine region ?_
            refine step hF (Y.indexArr u_61 sz_3 hF rfl rfl (by decide) (by decide)) rfl fun a hF => ?_
            refine step hF (Y.load1L 3 sz_3 hF rfl hS rfl rfl) rfl fun a hF => ?_
            obtain ⟨rv_31, hx_32, h⟩ := bind_some h
            refine O.callP (us := [.int .i64 n.a0, .int .i64 7]) ca_42 hF hS (remontoirref00_Rest_ok hS.stab n.a0 7 rv_31 hx_32) rfl rfl fun a w hF hS => ?_
            refine step hF (Y.eql hF rfl rfl) rfl fun a hF => ?_
            refine step hF (Y.move hF rfl) rfl fun a hF => ?_
            refine join (N := 180) (rs := []) (w0 := w0) (D0 := D0) 4 (us := [(6, .bool false), (11, .int .i64 rv_27.1), (12, .int .i64 rv_27.2), (13, .int .i64 rv_28.1), (14, .int .i64 rv_28.2), (15, .int .i64 rv_29.1), (16, .int .i64 rv_29.2), (17, .int .i64 rv_30.1), (18, .int .i64 rv_30.2), (143, .bool ((rv_31 == 0) && (rv_30.2 == rv_28.2)))]) (ms := [(1, .cells b [.int .i64 sv.Hours, .int .i64 sv.Gap, .slice p sv.Machines.length c] 24), (2, .cells b_1 [.int .i64 more.From, .int .i64 more.Warm, .int .i64 more.Life.Low, .int .i64 more.Life.High, .int .i64 more.Drift] 52), (3, .cells b_2 [.int .i64 n.a0, .int .i64 n.a1, .int .i64 n.a2] 61), (4, .cells b_3 [.int .i64 sv.Hours, .int .i64 sv.Gap, .slice p_2 ((([] : List SpareMachine) ++ sv.Machines).set (Int.toNat rv_2) (SpareMachine.mk (if wr (e.From - rv_3) > -500 then wr (e.From - rv_3) else -500) e.Warm e.Life e.Drift)).length c_2] 24), (5, .own none ([] : List SpareMachine).length 0 ([]) 52 5), (7, .cells b_5 [.int .i64 (if wr (e.From - rv_3) > -500 then wr (e.From - rv_3) else -500), .int .i64 e.Warm, .int .i64 e.Life.Low, .int .i64 e.Life.High, .int .i64 e.Drift] 52)]) (D' := Dv_3) ?_ ?_
            ·rcases bcases (rv_31 == 0) with hbv_39 | hbv_39
             ·-- true
              refine guard_on hF rfl rfl hbv_39 ?_
              refine step hF (Y.move hF rfl) rfl fun a hF => ?_
              refine guard_on hF rfl rfl hbv_39 ?_
              refine step hF (Y.move hF rfl) rfl fun a hF => ?_
              refine guard_on hF rfl rfl hbv_39 ?_
              refine step hF (Y.eql hF rfl rfl) rfl fun a hF => ?_
              refine step hF (Y.pick_t hF rfl hbv_39 rfl) rfl fun a hF => ?_
              exact nil (then_n ⟨hF.weak ⟨rfl, rfl, rfl, rfl, rfl, rfl, rfl, rfl, rfl, (by rw [hbv_39]; rfl), trivial⟩, hS.weak ⟨rfl, rfl, rfl, rfl, rfl, rfl, trivial⟩⟩)
             ·-- false
              refine guard_off hF rfl rfl hbv_39 rfl fun a hF => ?_
              refine guard_off hF rfl rfl hbv_39 rfl fun a hF => ?_
              refine guard_off hF rfl rfl hbv_39 rfl fun a hF => ?_
              refine step hF (Y.pick_f hF rfl hbv_39 rfl) rfl fun a hF => ?_
              exact nil (then_n ⟨hF.weak ⟨rfl, rfl, rfl, rfl, rfl, rfl, rfl, rfl, rfl, (by rw [hbv_39]; rfl), trivial⟩, hS.weak ⟨rfl, rfl, rfl, rfl, rfl, rfl, trivial⟩⟩)
            intro a w hF hS
            refine step hF (Y.move hF rfl) rfl fun a hF => ?_
            obtain ⟨t_6, ht_6, h⟩ := bind_some h
            refine join (N := 180) (rs := []) (w0 := w0) (D0 := D0) 2 (us := [(6, .bool false), (11, .int .i64 rv_27.1), (12, .int .i64 rv_27.2), (13, .int .i64 rv_28.1), (14, .int .i64 rv_28.2), (15, .int .i64 rv_29.1), (16, .int .i64 rv_29.2), (17, .int .i64 rv_30.1), (18, .int .i64 rv_30.2), (146, .bool t_6)]) (ms := [(1, .cells b [.int .i64 sv.Hours, .int .i64 sv.Gap, .slice p sv.Machines.length c] 24), (2, .cells b_1 [.int .i64 more.From, .int .i64 more.Warm, .int .i64 more.Life.Low, .int .i64 more.Life.High, .int .i64 more.Drift] 52), (3, .cells b_2 [.int .i64 n.a0, .int .i64 n.a1, .int .i64 n.a2] 61), (4, .cells b_3 [.int .i64 sv.Hours, .int .i64 sv.Gap, .slice p_2 ((([] : List SpareMachine) ++ sv.Machines).set (Int.toNat rv_2) (SpareMachine.mk (if wr (e.From - rv_3) > -500 then wr (e.From - rv_3) else -500) e.Warm e.Life e.Drift)).length c_2] 24), (5, .own none ([] : List SpareMachine).length 0 ([]) 52 5), (7, .cells b_5 [.int .i64 (if wr (e.From - rv_3) > -500 then wr (e.From - rv_3) else -500), .int .i64 e.Warm, .int .i64 e.Life.Low, .int .i64 e.Life.High, .int .i64 e.Drift] 52)]) (D' := Dv_3) ?_ ?_
            ·rcases bcases ((rv_31 == 0) && (rv_30.2 == rv_28.2)) with hbv_40 | hbv_40
             ·-- true
              replace h := cond_t ht_6 hbv_40
              refine guard_on hF rfl rfl hbv_40 ?_
              obtain ⟨rv_32, hx_33, h⟩ := bind_some h
              refine O.callP (us := []) ca_21 hF hS (remontoirlaw08_works_ok hS.stab hG rv_32 hx_33) rfl rfl fun a w hF hS => ?_
              refine step hF (Y.pick_t hF rfl hbv_40 rfl) rfl fun a hF => ?_
              obtain rfl := some_inj h
              exact nil (then_n ⟨hF.weak ⟨rfl, rfl, rfl, rfl, rfl, rfl, rfl, rfl, rfl, rfl, trivial⟩, hS.weak ⟨rfl, rfl, rfl, rfl, rfl, rfl, trivial⟩⟩)
             ·-- false
              replace h := cond_f ht_6 hbv_40
              refine guard_off hF rfl rfl hbv_40 rfl fun a hF => ?_
              refine step hF (Y.pick_f hF rfl hbv_40 rfl) rfl fun a hF => ?_
              obtain rfl := some_inj h
              exact nil (then_n ⟨hF.weak ⟨rfl, rfl, rfl, rfl, rfl, rfl, rfl, rfl, rfl, rfl, trivial⟩, hS.weak ⟨rfl, rfl, rfl, rfl, rfl, rfl, trivial⟩⟩)
            intro a w hF hS
            refine step hF (Y.assign hF rfl) rfl fun a hF => ?_
            refine nil (then_n ?_)
            refine ret_ (then_r ?_)
            obtain rfl := some_inj h
            exact leaveP Tryd.results11 hF hS (.cons (.tmp rfl) .nil) .nil rfl
           ·as_aux_lemma =>
             replace h := cond_f h hbv_38
             refine skip_ (then_n ?_)
             refine seq ?_
             refine seq ?_
             refine region ?_
             refine step hF (Y.move hF rfl) rfl fun a hF => ?_
             refine step hF (Y.eql hF rfl rfl) rfl fun a hF => ?_
             refine step hF (Y.move hF rfl) rfl fun a hF => ?_
             refine join (N := 180) (rs := []) (w0 := w0) (D0 := D0) 8 (us := [(6, .bool false), (12, .int .i64 rv_27.2), (15, .int .i64 rv_29.1), (16, .int .i64 rv_29.2), (17, .int .i64 rv_30.1), (18, .int .i64 rv_30.2), (157, .bool ((rv_27.2 == 0) && ((rv_28.2 != 0) || (decide (rv_28.1 > rv_27.1)))))]) (ms := [(1, .cells b [.int .i64 sv.Hours, .int .i64 sv.Gap, .slice p sv.Machines.length c] 24), (2, .cells b_1 [.int .i64 more.From, .int .i64 more.Warm, .int .i64 more.Life.Low, .int .i64 more.Life.High, .int .i64 more.Drift] 52), (3, .cells b_2 [.int .i64 n.a0, .int .i64 n.a1, .int .i64 n.a2] 61), (4, .cells b_3 [.int .i64 sv.Hours, .int .i64 sv.Gap, .slice p_2 ((([] : List SpareMachine) ++ sv.Machines).set (Int.toNat rv_2) (SpareMachine.mk (if wr (e.From - rv_3) > -500 then wr (e.From - rv_3) else -500) e.Warm e.Life e.Drift)).length c_2] 24), (5, .own none ([] : List SpareMachine).length 0 ([]) 52 5), (7, .cells b_5 [.int .i64 (if wr (e.From - rv_3) > -500 then wr (e.From - rv_3) else -500), .int .i64 e.Warm, .int .i64 e.Life.Low, .int .i64 e.Life.High, .int .i64 e.Drift] 52)]) (D' := Dv_3) ?_ ?_
             ·rcases bcases (rv_27.2 == 0) with hbv_41 | hbv_41
              ·-- true
               refine guard_on hF rfl rfl hbv_41 ?_
               refine step hF (Y.move hF rfl) rfl fun a hF => ?_
               refine guard_on hF rfl rfl hbv_41 ?_
               refine step hF (Y.neq hF rfl rfl) rfl fun a hF => ?_
               refine guard_on hF rfl rfl hbv_41 ?_
               refine step hF (Y.move hF rfl) rfl fun a hF => ?_
               refine join (N := 180) (rs := []) (w0 := w0) (D0 := D0) 4 (us := [(6, .bool false), (12, .int .i64 rv_27.2), (15, .int .i64 rv_29.1), (16, .int .i64 rv_29.2), (17, .int .i64 rv_30.1), (18, .int .i64 rv_30.2), (149, .bool (rv_27.2 == 0)), (156, .bool ((rv_28.2 != 0) || (decide (rv_28.1 > rv_27.1))))]) (ms := [(1, .cells b [.int .i64 sv.Hours, .int .i64 sv.Gap, .slice p sv.Machines.length c] 24), (2, .cells b_1 [.int .i64 more.From, .int .i64 more.Warm, .int .i64 more.Life.Low, .int .i64 more.Life.High, .int .i64 more.Drift] 52), (3, .cells b_2 [.int .i64 n.a0, .int .i64 n.a1, .int .i64 n.a2] 61), (4, .cells b_3 [.int .i64 sv.Hours, .int .i64 sv.Gap, .slice p_2 ((([] : List SpareMachine) ++ sv.Machines).set (Int.toNat rv_2) (SpareMachine.mk (if wr (e.From - rv_3) > -500 then wr (e.From - rv_3) else -500) e.Warm e.Life e.Drift)).length c_2] 24), (5, .own none ([] : List SpareMachine).length 0 ([]) 52 5), (7, .cells b_5 [.int .i64 (if wr (e.From - rv_3) > -500 then wr (e.From - rv_3) else -500), .int .i64 e.Warm, .int .i64 e.Life.Low, .int .i64 e.Life.High, .int .i64 e.Drift] 52)]) (D' := Dv_3) ?_ ?_
               ·rcases bcases (rv_28.2 != 0) with hbv_42 | hbv_42
                ·-- true
                 refine guard_off hF rfl rfl hbv_42 rfl fun a hF => ?_
                 refine guard_off hF rfl rfl hbv_42 rfl fun a hF => ?_
                 refine guard_off hF rfl rfl hbv_42 rfl fun a hF => ?_
                 refine guard_on hF rfl rfl hbv_41 ?_
                 refine step hF (Y.pick_t hF rfl hbv_42 rfl) rfl fun a hF => ?_
                 exact nil (then_n ⟨hF.weak ⟨rfl, rfl, rfl, rfl, rfl, rfl, rfl, (by rw [hbv_42]; rfl), trivial⟩, hS.weak ⟨rfl, rfl, rfl, rfl, rfl, rfl, trivial⟩⟩)
                ·-- false
                 refine guard_on hF rfl rfl hbv_42 ?_
                 refine step hF (Y.move hF rfl) rfl fun a hF => ?_
                 refine guard_on hF rfl rfl hbv_42 ?_
                 refine step hF (Y.move hF rfl) rfl fun a hF => ?_
                 refine guard_on hF rfl rfl hbv_42 ?_
                 refine step hF (Y.gtr hF rfl rfl) rfl fun a hF => ?_
                 refine guard_on hF rfl rfl hbv_41 ?_
                 refine step hF (Y.pick_f hF rfl hbv_42 rfl) rfl fun a hF => ?_
                 exact nil (then_n ⟨hF.weak ⟨rfl, rfl, rfl, rfl, rfl, rfl, rfl, (by rw [hbv_42]; rfl), trivial⟩, hS.weak ⟨rfl, rfl, rfl, rfl, rfl, rfl, trivial⟩⟩)
               intro a w hF hS
               refine step hF (Y.pick_t hF rfl hbv_41 rfl) rfl fun a hF => ?_
               exact nil (then_n ⟨hF.weak ⟨rfl, rfl, rfl, rfl, rfl, rfl, (by rw [hbv_41]; rfl), trivial⟩, hS.weak ⟨rfl, rfl, rfl, rfl, rfl, rfl, trivial⟩⟩)
              ·-- false
               refine guard_off hF rfl rfl hbv_41 rfl fun a hF => ?_
               refine guard_off hF rfl rfl hbv_41 rfl fun a hF => ?_
               refine guard_off hF rfl rfl hbv_41 rfl fun a hF => ?_
               refine guard_offu hF rfl rfl rfl fun a hF => ?_
               refine guard_offu hF rfl rfl rfl fun a hF => ?_
               refine guard_offu hF rfl rfl rfl fun a hF => ?_
               refine guard_off hF rfl rfl hbv_41 rfl fun a hF => ?_
               refine step hF (Y.pick_f hF rfl hbv_41 rfl) rfl fun a hF => ?_
               exact nil (then_n ⟨hF.weak ⟨rfl, rfl, rfl, rfl, rfl, rfl, (by rw [hbv_41]; rfl), trivial⟩, hS.weak ⟨rfl, rfl, rfl, rfl, rfl, rfl, trivial⟩⟩)
             intro a w hF hS
             refine step hF (Y.move hF rfl) rfl fun a hF => ?_
             refine join (N := 180) (rs := []) (w0 := w0) (D0 := D0) 7 (us := [(6, .bool false), (15, .int .i64 rv_29.1), (16, .int .i64 rv_29.2), (17, .int .i64 rv_30.1), (18, .int .i64 rv_30.2), (165, .bool (((rv_27.2 == 0) && ((rv_28.2 != 0) || (decide (rv_28.1 > rv_27.1)))) || ((rv_27.2 != 0) && (rv_27.2 != 4))))]) (ms := [(1, .cells b [.int .i64 sv.Hours, .int .i64 sv.Gap, .slice p sv.Machines.length c] 24), (2, .cells b_1 [.int .i64 more.From, .int .i64 more.Warm, .int .i64 more.Life.Low, .int .i64 more.Life.High, .int .i64 more.Drift] 52), (3, .cells b_2 [.int .i64 n.a0, .int .i64 n.a1, .int .i64 n.a2] 61), (4, .cells b_3 [.int .i64 sv.Hours, .int .i64 sv.Gap, .slice p_2 ((([] : List SpareMachine) ++ sv.Machines).set (Int.toNat rv_2) (SpareMachine.mk (if wr (e.From - rv_3) > -500 then wr (e.From - rv_3) else -500) e.Warm e.Life e.Drift)).length c_2] 24), (5, .own none ([] : List SpareMachine).length 0 ([]) 52 5), (7, .cells b_5 [.int .i64 (if wr (e.From - rv_3) > -500 then wr (e.From - rv_3) else -500), .int .i64 e.Warm, .int .i64 e.Life.Low, .int .i64 e.Life.High, .int .i64 e.Drift] 52)]) (D' := Dv_3) ?_ ?_
             ·rcases bcases ((rv_27.2 == 0) && ((rv_28.2 != 0) || (decide (rv_28.1 > rv_27.1)))) with hbv_43 | hbv_43
              ·-- true
               refine guard_off hF rfl rfl hbv_43 rfl fun a hF => ?_
               refine guard_off hF rfl rfl hbv_43 rfl fun a hF => ?_
               refine guard_off hF rfl rfl hbv_43 rfl fun a hF => ?_
               refine guard_offu hF rfl rfl rfl fun a hF => ?_
               refine guard_offu hF rfl rfl rfl fun a hF => ?_
               refine guard_off hF rfl rfl hbv_43 rfl fun a hF => ?_
               refine step hF (Y.pick_t hF rfl hbv_43 rfl) rfl fun a hF => ?_
               exact nil (then_n ⟨hF.weak ⟨rfl, rfl, rfl, rfl, rfl, (by rw [hbv_43]; rfl), trivial⟩, hS.weak ⟨rfl, rfl, rfl, rfl, rfl, rfl, trivial⟩⟩)
              ·-- false
               refine guard_on hF rfl rfl hbv_43 ?_
               refine step hF (Y.move hF rfl) rfl fun a hF => ?_
               refine guard_on hF rfl rfl hbv_43 ?_
               refine step hF (Y.neq hF rfl rfl) rfl fun a hF => ?_
               refine guard_on hF rfl rfl hbv_43 ?_
               refine step hF (Y.move hF rfl) rfl fun a hF => ?_
               refine join (N := 180) (rs := []) (w0 := w0) (D0 := D0) 3 (us := [(6, .bool false), (15, .int .i64 rv_29.1), (16, .int .i64 rv_29.2), (17, .int .i64 rv_30.1), (18, .int .i64 rv_30.2), (158, .bool ((rv_27.2 == 0) && ((rv_28.2 != 0) || (decide (rv_28.1 > rv_27.1))))), (164, .bool ((rv_27.2 != 0) && (rv_27.2 != 4)))]) (ms := [(1, .cells b [.int .i64 sv.Hours, .int .i64 sv.Gap, .slice p sv.Machines.length c] 24), (2, .cells b_1 [.int .i64 more.From, .int .i64 more.Warm, .int .i64 more.Life.Low, .int .i64 more.Life.High, .int .i64 more.Drift] 52), (3, .cells b_2 [.int .i64 n.a0, .int .i64 n.a1, .int .i64 n.a2] 61), (4, .cells b_3 [.int .i64 sv.Hours, .int .i64 sv.Gap, .slice p_2 ((([] : List SpareMachine) ++ sv.Machines).set (Int.toNat rv_2) (SpareMachine.mk (if wr (e.From - rv_3) > -500 then wr (e.From - rv_3) else -500) e.Warm e.Life e.Drift)).length c_2] 24), (5, .own none ([] : List SpareMachine).length 0 ([]) 52 5), (7, .cells b_5 [.int .i64 (if wr (e.From - rv_3) > -500 then wr (e.From - rv_3) else -500), .int .i64 e.Warm, .int .i64 e.Life.Low, .int .i64 e.Life.High, .int .i64 e.Drift] 52)]) (D' := Dv_3) ?_ ?_
               ·rcases bcases (rv_27.2 != 0) with hbv_44 | hbv_44
                ·-- true
                 refine guard_on hF rfl rfl hbv_44 ?_
                 refine step hF (Y.move hF rfl) rfl fun a hF => ?_
                 refine guard_on hF rfl rfl hbv_44 ?_
                 refine step hF (Y.neq hF rfl rfl) rfl fun a hF => ?_
                 refine guard_on hF rfl rfl hbv_43 ?_
                 refine step hF (Y.pick_t hF rfl hbv_44 rfl) rfl fun a hF => ?_
                 exact nil (then_n ⟨hF.weak ⟨rfl, rfl, rfl, rfl, rfl, rfl, (by rw [hbv_44]; rfl), trivial⟩, hS.weak ⟨rfl, rfl, rfl, rfl, rfl, rfl, trivial⟩⟩)
                ·-- false
                 refine guard_off hF rfl rfl hbv_44 rfl fun a hF => ?_
                 refine guard_off hF rfl rfl hbv_44 rfl fun a hF => ?_
                 refine guard_on hF rfl rfl hbv_43 ?_
                 refine step hF (Y.pick_f hF rfl hbv_44 rfl) rfl fun a hF => ?_
                 exact nil (then_n ⟨hF.weak ⟨rfl, rfl, rfl, rfl, rfl, rfl, (by rw [hbv_44]; rfl), trivial⟩, hS.weak ⟨rfl, rfl, rfl, rfl, rfl, rfl, trivial⟩⟩)
               intro a w hF hS
               refine step hF (Y.pick_f hF rfl hbv_43 rfl) rfl fun a hF => ?_
               exact nil (then_n ⟨hF.weak ⟨rfl, rfl, rfl, rfl, rfl, (by rw [hbv_43]; rfl), trivial⟩, hS.weak ⟨rfl, rfl, rfl, rfl, rfl, rfl, trivial⟩⟩)
             intro a w hF hS
             refine nil (then_n ?_)
             refine cond_b hF rfl (fun hbv_45 => ?_) (fun hbv_45 => ?_)
             ·replace h := cond_t h hbv_45
              refine seq ?_
              refine region ?_
              refine step hF (Y.assign hF rfl) rfl fun a hF => ?_
              refine nil (then_n ?_)
              refine ret_ (then_r ?_)
              obtain rfl := some_inj h
              exact leaveP Tryd.results11 hF hS (.cons (.tmp rfl) .nil) .nil rfl
             ·as_aux_lemma =>
               replace h := cond_f h hbv_45
               refine skip_ (then_n ?_)
               refine seq ?_
               refine region ?_
               refine step hF (Y.move hF rfl) rfl fun a hF => ?_
               refine step hF (Y.eql hF rfl rfl) rfl fun a hF => ?_
               refine step hF (Y.move hF rfl) rfl fun a hF => ?_
               refine join (N := 180) (rs := []) (w0 := w0) (D0 := D0) 3 (us := [(6, .bool false), (15, .int .i64 rv_29.1), (17, .int .i64 rv_30.1), (171, .bool ((rv_29.2 == 0) && (rv_30.2 == 0)))]) (ms := [(1, .cells b [.int .i64 sv.Hours, .int .i64 sv.Gap, .slice p sv.Machines.length c] 24), (2, .cells b_1 [.int .i64 more.From, .int .i64 more.Warm, .int .i64 more.Life.Low, .int .i64 more.Life.High, .int .i64 more.Drift] 52), (3, .cells b_2 [.int .i64 n.a0, .int .i64 n.a1, .int .i64 n.a2] 61), (4, .cells b_3 [.int .i64 sv.Hours, .int .i64 sv.Gap, .slice p_2 ((([] : List SpareMachine) ++ sv.Machines).set (Int.toNat rv_2) (SpareMachine.mk (if wr (e.From - rv_3) > -500 then wr (e.From - rv_3) else -500) e.Warm e.Life e.Drift)).length c_2] 24), (5, .own none ([] : List SpareMachine).length 0 ([]) 52 5), (7, .cells b_5 [.int .i64 (if wr (e.From - rv_3) > -500 then wr (e.From - rv_3) else -500), .int .i64 e.Warm, .int .i64 e.Life.Low, .int .i64 e.Life.High, .int .i64 e.Drift] 52)]) (D' := Dv_3) ?_ ?_
               ·rcases bcases (rv_29.2 == 0) with hbv_46 | hbv_46
                ·-- true
                 refine guard_on hF rfl rfl hbv_46 ?_
                 refine step hF (Y.move hF rfl) rfl fun a hF => ?_
                 refine guard_on hF rfl rfl hbv_46 ?_
                 refine step hF (Y.eql hF rfl rfl) rfl fun a hF => ?_
                 refine step hF (Y.pick_t hF rfl hbv_46 rfl) rfl fun a hF => ?_
                 exact nil (then_n ⟨hF.weak ⟨rfl, rfl, rfl, (by rw [hbv_46]; rfl), trivial⟩, hS.weak ⟨rfl, rfl, rfl, rfl, rfl, rfl, trivial⟩⟩)
                ·-- false
                 refine guard_off hF rfl rfl hbv_46 rfl fun a hF => ?_
                 refine guard_off hF rfl rfl hbv_46 rfl fun a hF => ?_
                 refine step hF (Y.pick_f hF rfl hbv_46 rfl) rfl fun a hF => ?_
                 exact nil (then_n ⟨hF.weak ⟨rfl, rfl, rfl, (by rw [hbv_46]; rfl), trivial⟩, hS.weak ⟨rfl, rfl, rfl, rfl, rfl, rfl, trivial⟩⟩)
               intro a w hF hS
               refine step hF (Y.move hF rfl) rfl fun a hF => ?_
               refine join (N := 180) (rs := []) (w0 := w0) (D0 := D0) 4 (us := [(6, .bool false), (176, .bool (((rv_29.2 == 0) && (rv_30.2 == 0)) && (decide (rv_30.1 ≥ rv_29.1))))]) (ms := [(1, .cells b [.int .i64 sv.Hours, .int .i64 sv.Gap, .slice p sv.Machines.length c] 24), (2, .cells b_1 [.int .i64 more.From, .int .i64 more.Warm, .int .i64 more.Life.Low, .int .i64 more.Life.High, .int .i64 more.Drift] 52), (3, .cells b_2 [.int .i64 n.a0, .int .i64 n.a1, .int .i64 n.a2] 61), (4, .cells b_3 [.int .i64 sv.Hours, .int .i64 sv.Gap, .slice p_2 ((([] : List SpareMachine) ++ sv.Machines).set (Int.toNat rv_2) (SpareMachine.mk (if wr (e.From - rv_3) > -500 then wr (e.From - rv_3) else -500) e.Warm e.Life e.Drift)).length c_2] 24), (5, .own none ([] : List SpareMachine).length 0 ([]) 52 5), (7, .cells b_5 [.int .i64 (if wr (e.From - rv_3) > -500 then wr (e.From - rv_3) else -500), .int .i64 e.Warm, .int .i64 e.Life.Low, .int .i64 e.Life.High, .int .i64 e.Drift] 52)]) (D' := Dv_3) ?_ ?_
               ·rcases bcases ((rv_29.2 == 0) && (rv_30.2 == 0)) with hbv_47 | hbv_47
                ·-- true
                 refine guard_on hF rfl rfl hbv_47 ?_
                 refine step hF (Y.move hF rfl) rfl fun a hF => ?_
                 refine guard_on hF rfl rfl hbv_47 ?_
                 refine step hF (Y.move hF rfl) rfl fun a hF => ?_
                 refine guard_on hF rfl rfl hbv_47 ?_
                 refine step hF (Y.geq hF rfl rfl) rfl fun a hF => ?_
                 refine step hF (Y.pick_t hF rfl hbv_47 rfl) rfl fun a hF => ?_
                 exact nil (then_n ⟨hF.weak ⟨rfl, (by rw [hbv_47]; rfl), trivial⟩, hS.weak ⟨rfl, rfl, rfl, rfl, rfl, rfl, trivial⟩⟩)
                ·-- false
                 refine guard_off hF rfl rfl hbv_47 rfl fun a hF => ?_
                 refine guard_off hF rfl rfl hbv_47 rfl fun a hF => ?_
                 refine guard_off hF rfl rfl hbv_47 rfl fun a hF => ?_
                 refine step hF (Y.pick_f hF rfl hbv_47 rfl) rfl fun a hF => ?_
                 exact nil (then_n ⟨hF.weak ⟨rfl, (by rw [hbv_47]; rfl), trivial⟩, hS.weak ⟨rfl, rfl, rfl, rfl, rfl, rfl, trivial⟩⟩)
               intro a w hF hS
               refine step hF (Y.move hF rfl) rfl fun a hF => ?_
               obtain ⟨t_7, ht_7, h⟩ := bind_some h
               refine join (N := 180) (rs := []) (w0 := w0) (D0 := D0) 2 (us := [(6, .bool false), (179, .bool t_7)]) (ms := [(1, .cells b [.int .i64 sv.Hours, .int .i64 sv.Gap, .slice p sv.Machines.length c] 24), (2, .cells b_1 [.int .i64 more.From, .int .i64 more.Warm, .int .i64 more.Life.Low, .int .i64 more.Life.High, .int .i64 more.Drift] 52), (3, .cells b_2 [.int .i64 n.a0, .int .i64 n.a1, .int .i64 n.a2] 61), (4, .cells b_3 [.int .i64 sv.Hours, .int .i64 sv.Gap, .slice p_2 ((([] : List SpareMachine) ++ sv.Machines).set (Int.toNat rv_2) (SpareMachine.mk (if wr (e.From - rv_3) > -500 then wr (e.From - rv_3) else -500) e.Warm e.Life e.Drift)).length c_2] 24), (5, .own none ([] : List SpareMachine).length 0 ([]) 52 5), (7, .cells b_5 [.int .i64 (if wr (e.From - rv_3) > -500 then wr (e.From - rv_3) else -500), .int .i64 e.Warm, .int .i64 e.Life.Low, .int .i64 e.Life.High, .int .i64 e.Drift] 52)]) (D' := Dv_3) ?_ ?_
               ·rcases bcases (((rv_29.2 == 0) && (rv_30.2 == 0)) && (decide (rv_30.1 ≥ rv_29.1))) with hbv_48 | hbv_48
                ·-- true
                 replace h := cond_t ht_7 hbv_48
                 refine guard_on hF rfl rfl hbv_48 ?_
                 obtain ⟨rv_33, hx_34, h⟩ := bind_some h
                 refine O.callP (us := []) ca_21 hF hS (remontoirlaw08_works_ok hS.stab hG rv_33 hx_34) rfl rfl fun a w hF hS => ?_
                 refine step hF (Y.pick_t hF rfl hbv_48 rfl) rfl fun a hF => ?_
                 obtain rfl := some_inj h
                 exact nil (then_n ⟨hF.weak ⟨rfl, rfl, trivial⟩, hS.weak ⟨rfl, rfl, rfl, rfl, rfl, rfl, trivial⟩⟩)
                ·-- false
                 replace h := cond_f ht_7 hbv_48
                 refine guard_off hF rfl rfl hbv_48 rfl fun a hF => ?_
                 refine step hF (Y.pick_f hF rfl hbv_48 rfl) rfl fun a hF => ?_
                 obtain rfl := some_inj h
                 exact nil (then_n ⟨hF.weak ⟨rfl, rfl, trivial⟩, hS.weak ⟨rfl, rfl, rfl, rfl, rfl, rfl, trivial⟩⟩)
               intro a w hF hS
               refine step hF (Y.assign hF rfl) rfl fun a hF => ?_
               refine nil (then_n ?_)
               refine ret_ ?_
               obtain rfl := some_inj h
               exact leaveP Tryd.results11 hF hS (.cons (.tmp rfl) .nil) .nil rfl
         ·as_aux_lemma =>
           replace h := cond_f h hbv_37
           refine seq ?_
           refine region ?_
           refine step hF (Y.eql hF rfl rfl) rfl fun a hF => ?_
           refine step hF (Y.assign hF rfl) rfl fun a hF => ?_
           refine nil (then_n ?_)
           refine cond_b hF rfl (fun hbv_49 => ?_) (fun hbv_49 => ?_)
           ·as_aux_lemma =>
             replace h := cond_t h hbv_49
             refine region ?_
             refine step hF (Y.fieldAddr fo_52_3 hF rfl) rfl fun a hF => ?_
             refine step hF (Y.load1L 7 sz_3 hF rfl hS rfl rfl) rfl fun a hF => ?_
             refine step hF (Y.move hF rfl) rfl fun a hF => ?_
             refine step hF (Y.sub hF rfl rfl) rfl fun a hF => ?_
             refine step hF (Y.max2 hF rfl rfl) rfl fun a hF => ?_
             refine step hF (Y.fieldAddr fo_52_3 hF rfl) rfl fun a hF => ?_
             refine O.store (us := [.int .i64 (if wr (e.Drift - rv_3) > 0 then wr (e.Drift - rv_3) else 0)]) 7 sz_3 hF rfl rfl rfl rfl hS rfl rfl fun a w hF hS => ?_
             refine nil (blk_n (then_n ?_))
             refine seq ?_
             refine region ?_
             refine step hF (Y.fieldAddr fo_24_2 hF rfl) rfl fun a hF => ?_
             refine step hF (Y.load1L 4 sz_22 hF rfl hS rfl rfl) rfl fun a hF => ?_
             refine step hF (Y.move hF rfl) rfl fun a hF => ?_
             refine step hF (Y.loadNL 7 sz_52 hF rfl hS rfl rfl rfl) rfl fun a hF => ?_
             obtain ⟨hg_6, h⟩ := ite_some h
             obtain ⟨b_10, hp_4⟩ := hS.ownPtr (i := 6) rfl hg_6
             refine step hF (Y.indexOwn hp_4 u_22 sz_52 hg_6 hF rfl rfl) rfl fun a hF => ?_
             refine O.storeOwnP (C := C_SpareMachine) (v0 := (SpareMachine.mk e.From e.Warm e.Life (if wr (e.Drift - rv_3) > 0 then wr (e.Drift - rv_3) else 0))) (xs := (([] : List SpareMachine) ++ sv.Machines)) (us := [.int .i64 e.From, .int .i64 e.Warm, .int .i64 e.Life.Low, .int .i64 e.Life.High, .int .i64 (if wr (e.Drift - rv_3) > 0 then wr (e.Drift - rv_3) else 0)]) 6 hp_4 sz_52 hg_6 hF rfl rfl rfl rfl hS rfl hr_1 fun cs_4 a w hF hS hr_8 => ?_
             try rw [show (([] : List SpareMachine) ++ sv.Machines).length = ((([] : List SpareMachine) ++ sv.Machines).set (Int.toNat rv_2) (SpareMachine.mk e.From e.Warm e.Life (if wr (e.Drift - rv_3) > 0 then wr (e.Drift - rv_3) else 0))).length from List.length_set.symm] at hF
             try rw [show (([] : List SpareMachine) ++ sv.Machines).length = ((([] : List SpareMachine) ++ sv.Machines).set (Int.toNat rv_2) (SpareMachine.mk e.From e.Warm e.Life (if wr (e.Drift - rv_3) > 0 then wr (e.Drift - rv_3) else 0))).length from List.length_set.symm] at hS
             refine nil (then_n ?_)
             refine seq ?_
             refine region ?_
             refine step hF (Y.loadNL 1 sz_24 hF rfl hS rfl rfl rfl) rfl fun a hF => ?_
             obtain ⟨rv_34, hx_35, h⟩ := bind_some h
             refine O.callP (us := [.agg #[.int .i64 sv.Hours, .int .i64 sv.Gap, .slice p sv.Machines.length c]]) ca_22 hF hS (spare_Fewest_ok hS.stab sv hs hG rv_34 hx_35) rfl rfl fun a w hF hS => ?_
             refine step hF (Y.move hF rfl) rfl fun a hF => ?_
             refine step hF (Y.extract hF rfl rfl) rfl fun a hF => ?_
             refine step hF (Y.extract hF rfl rfl) rfl fun a hF => ?_
             refine step hF (Y.assign hF rfl) rfl fun a hF => ?_
             refine step hF (Y.assign hF rfl) rfl fun a hF => ?_
             refine nil (then_n ?_)
             refine seq ?_
             refine region ?_
             refine step hF (Y.loadNL 4 sz_24 hF rfl hS rfl rfl rfl) rfl fun a hF => ?_
             obtain ⟨Dv_4, hlev_4, hs_5, hS⟩ := hS.freezeC (i := 6) (xs := ((([] : List SpareMachine) ++ sv.Machines).set (Int.toNat rv_2) (SpareMachine.mk e.From e.Warm e.Life (if wr (e.Drift - rv_3) > 0 then wr (e.Drift - rv_3) else 0)))) rfl hr_8
             replace hs := hs.mono hlev_4
             replace hG := hG.mono hlev_4
             replace hr := hr.mono hlev_4
             replace hr_1 := hr_1.mono hlev_4
             replace hcell := fun w hw => hcell w (Stab.on.le hw hlev_4)
             replace hr_8 := hr_8.mono hlev_4
             obtain ⟨rv_35, hx_36, h⟩ := bind_some h
             refine O.callP (us := [.agg #[.int .i64 sv.Hours, .int .i64 sv.Gap, .slice p_2 ((([] : List SpareMachine) ++ sv.Machines).set (Int.toNat rv_2) (SpareMachine.mk e.From e.Warm e.Life (if wr (e.Drift - rv_3) > 0 then wr (e.Drift - rv_3) else 0))).length c_2]]) ca_22 hF hS (spare_Fewest_ok hS.stab (SpareStore.mk sv.Hours sv.Gap ((([] : List SpareMachine) ++ sv.Machines).set (Int.toNat rv_2) (SpareMachine.mk e.From e.Warm e.Life (if wr (e.Drift - rv_3) > 0 then wr (e.Drift - rv_3) else 0)))) hs_5 hG rv_35 hx_36) rfl rfl fun a w hF hS => ?_
             refine step hF (Y.move hF rfl) rfl fun a hF => ?_
             refine step hF (Y.extract hF rfl rfl) rfl fun a hF => ?_
             refine step hF (Y.extract hF rfl rfl) rfl fun a hF => ?_
             refine step hF (Y.assign hF rfl) rfl fun a hF => ?_
             refine step hF (Y.assign hF rfl) rfl fun a hF => ?_
             refine nil (then_n ?_)
             refine seq ?_
             refine region ?_
             refine step hF (Y.loadNL 1 sz_24 hF rfl hS rfl rfl rfl) rfl fun a hF => ?_
             obtain ⟨rv_36, hx_37, h⟩ := bind_some h
             refine O.callP (us := [.agg #[.int .i64 sv.Hours, .int .i64 sv.Gap, .slice p sv.Machines.length c]]) ca_25 hF hS (spare_Reach_ok hS.stab sv hs hG rv_36 hx_37) rfl rfl fun a w hF hS => ?_
             refine step hF (Y.move hF rfl) rfl fun a hF => ?_
             refine step hF (Y.extract hF rfl rfl) rfl fun a hF => ?_
             refine step hF (Y.extract hF rfl rfl) rfl fun a hF => ?_
             refine step hF (Y.assign hF rfl) rfl fun a hF => ?_
             refine step hF (Y.assign hF rfl) rfl fun a hF => ?_
             refine nil (then_n ?_)
             refine seq ?_
             refine region ?_
             refine step hF (Y.loadNL 4 sz_24 hF rfl hS rfl rfl rfl) rfl fun a hF => ?_
             obtain ⟨rv_37, hx_38, h⟩ := bind_some h
             refine O.callP (us := [.agg #[.int .i64 sv.Hours, .int .i64 sv.Gap, .slice p_2 ((([] : List SpareMachine) ++ sv.Machines).set (Int.toNat rv_2) (SpareMachine.mk e.From e.Warm e.Life (if wr (e.Drift - rv_3) > 0 then wr (e.Drift - rv_3) else 0))).length c_2]]) ca_25 hF hS (spare_Reach_ok hS.stab (SpareStore.mk sv.Hours sv.Gap ((([] : List SpareMachine) ++ sv.Machines).set (Int.toNat rv_2) (SpareMachine.mk e.From e.Warm e.Life (if wr (e.Drift - rv_3) > 0 then wr (e.Drift - rv_3) else 0)))) hs_5 hG rv_37 hx_38) rfl rfl fun a w hF hS => ?_
             refine step hF (Y.move hF rfl) rfl fun a hF => ?_
             refine step hF (Y.extract hF rfl rfl) rfl fun a hF => ?_
             refine step hF (Y.extract hF rfl rfl) rfl fun a hF => ?_
             refine step hF (Y.assign hF rfl) rfl fun a hF => ?_
             refine step hF (Y.assign hF rfl) rfl fun a hF => ?_
             refine nil (then_n ?_)
             refine seq ?_
             refine seq ?_
             refine region ?_
             refine step hF (Y.move hF rfl) rfl fun a hF => ?_
             refine step hF (Y.eql hF rfl rfl) rfl fun a hF => ?_
             refine nil (then_n ?_)
             refine cond_b hF rfl (fun hbv_50 => ?_) (fun hbv_50 => ?_)
             ·replace h := cond_t h hbv_50
              refine seq ?_
              refine region ?_
              refine step hF (Y.indexArr u_61 sz_3 hF rfl rfl (by decide) (by decide)) rfl fun a hF => ?_
              refine step hF (Y.load1L 3 sz_3 hF rfl hS rfl rfl) rfl fun a hF => ?_
              obtain ⟨rv_38, hx_39, h⟩ := bind_some h
              refine O.callP (us := [.int .i64 n.a0, .int .i64 7]) ca_42 hF hS (remontoirref00_Rest_ok hS.stab n.a0 7 rv_38 hx_39) rfl rfl fun a w hF hS => ?_
              refine step hF (Y.eql hF rfl rfl) rfl fun a hF => ?_
              refine step hF (Y.move hF rfl) rfl fun a hF => ?_
              refine join (N := 180) (rs := []) (w0 := w0) (D0 := D0) 4 (us := [(6, .bool false), (11, .int .i64 rv_34.1), (12, .int .i64 rv_34.2), (13, .int .i64 rv_35.1), (14, .int .i64 rv_35.2), (15, .int .i64 rv_36.1), (16, .int .i64 rv_36.2), (17, .int .i64 rv_37.1), (18, .int .i64 rv_37.2), (143, .bool ((rv_38 == 0) && (rv_37.2 == rv_35.2)))]) (ms := [(1, .cells b [.int .i64 sv.Hours, .int .i64 sv.Gap, .slice p sv.Machines.length c] 24), (2, .cells b_1 [.int .i64 more.From, .int .i64 more.Warm, .int .i64 more.Life.Low, .int .i64 more.Life.High, .int .i64 more.Drift] 52), (3, .cells b_2 [.int .i64 n.a0, .int .i64 n.a1, .int .i64 n.a2] 61), (4, .cells b_3 [.int .i64 sv.Hours, .int .i64 sv.Gap, .slice p_2 ((([] : List SpareMachine) ++ sv.Machines).set (Int.toNat rv_2) (SpareMachine.mk e.From e.Warm e.Life (if wr (e.Drift - rv_3) > 0 then wr (e.Drift - rv_3) else 0))).length c_2] 24), (5, .own none ([] : List SpareMachine).length 0 ([]) 52 5), (7, .cells b_5 [.int .i64 e.From, .int .i64 e.Warm, .int .i64 e.Life.Low, .int .i64 e.Life.High, .int .i64 (if wr (e.Drift - rv_3) > 0 then wr (e.Drift - rv_3) else 0)] 52)]) (D' := Dv_4) ?_ ?_
              ·rcases bcases (rv_38 == 0) with hbv_51 | hbv_51
               ·-- true
                refine guard_on hF rfl rfl hbv_51 ?_
                refine step hF (Y.move hF rfl) rfl fun a hF => ?_
                refine guard_on hF rfl rfl hbv_51 ?_
                refine step hF (Y.move hF rfl) rfl fun a hF => ?_
                refine guard_on hF rfl rfl hbv_51 ?_
                refine step hF (Y.eql hF rfl rfl) rfl fun a hF => ?_
                refine step hF (Y.pick_t hF rfl hbv_51 rfl) rfl fun a hF => ?_
                exact nil (then_n ⟨hF.weak ⟨rfl, rfl, rfl, rfl, rfl, rfl, rfl, rfl, rfl, (by rw [hbv_51]; rfl), trivial⟩, hS.weak ⟨rfl, rfl, rfl, rfl, rfl, rfl, trivial⟩⟩)
               ·-- false
                refine guard_off hF rfl rfl hbv_51 rfl fun a hF => ?_
                refine guard_off hF rfl rfl hbv_51 rfl fun a hF => ?_
                refine guard_off hF rfl rfl hbv_51 rfl fun a hF => ?_
                refine step hF (Y.pick_f hF rfl hbv_51 rfl) rfl fun a hF => ?_
                exact nil (then_n ⟨hF.weak ⟨rfl, rfl, rfl, rfl, rfl, rfl, rfl, rfl, rfl, (by rw [hbv_51]; rfl), trivial⟩, hS.weak ⟨rfl, rfl, rfl, rfl, rfl, rfl, trivial⟩⟩)
              intro a w hF hS
              refine step hF (Y.move hF rfl) rfl fun a hF => ?_
              obtain ⟨t_8, ht_8, h⟩ := bind_some h
              refine join (N := 180) (rs := []) (w0 := w0) (D0 := D0) 2 (us := [(6, .bool false), (11, .int .i64 rv_34.1), (12, .int .i64 rv_34.2), (13, .int .i64 rv_35.1), (14, .int .i64 rv_35.2), (15, .int .i64 rv_36.1), (16, .int .i64 rv_36.2), (17, .int .i64 rv_37.1), (18, .int .i64 rv_37.2), (146, .bool t_8)]) (ms := [(1, .cells b [.int .i64 sv.Hours, .int .i64 sv.Gap, .slice p sv.Machines.length c] 24), (2, .cells b_1 [.int .i64 more.From, .int .i64 more.Warm, .int .i64 more.Life.Low, .int .i64 more.Life.High, .int .i64 more.Drift] 52), (3, .cells b_2 [.int .i64 n.a0, .int .i64 n.a1, .int .i64 n.a2] 61), (4, .cells b_3 [.int .i64 sv.Hours, .int .i64 sv.Gap, .slice p_2 ((([] : List SpareMachine) ++ sv.Machines).set (Int.toNat rv_2) (SpareMachine.mk e.From e.Warm e.Life (if wr (e.Drift - rv_3) > 0 then wr (e.Drift - rv_3) else 0))).length c_2] 24), (5, .own none ([] : List SpareMachine).length 0 ([]) 52 5), (7, .cells b_5 [.int .i64 e.From, .int .i64 e.Warm, .int .i64 e.Life.Low, .int .i64 e.Life.High, .int .i64 (if wr (e.Drift - rv_3) > 0 then wr (e.Drift - rv_3) else 0)] 52)]) (D' := Dv_4) ?_ ?_
              ·rcases bcases ((rv_38 == 0) && (rv_37.2 == rv_35.2)) with hbv_52 | hbv_52
               ·-- true
                replace h := cond_t ht_8 hbv_52
                refine guard_on hF rfl rfl hbv_52 ?_
                obtain ⟨rv_39, hx_40, h⟩ := bind_some h
                refine O.callP (us := []) ca_21 hF hS (remontoirlaw08_works_ok hS.stab hG rv_39 hx_40) rfl rfl fun a w hF hS => ?_
                refine step hF (Y.pick_t hF rfl hbv_52 rfl) rfl fun a hF => ?_
                obtain rfl := some_inj h
                exact nil (then_n ⟨hF.weak ⟨rfl, rfl, rfl, rfl, rfl, rfl, rfl, rfl, rfl, rfl, trivial⟩, hS.weak ⟨rfl, rfl, rfl, rfl, rfl, rfl, trivial⟩⟩)
               ·-- false
                replace h := cond_f ht_8 hbv_52
                refine guard_off hF rfl rfl hbv_52 rfl fun a hF => ?_
                refine step hF (Y.pick_f hF rfl hbv_52 rfl) rfl fun a hF => ?_
                obtain rfl := some_inj h
                exact nil (then_n ⟨hF.weak ⟨rfl, rfl, rfl, rfl, rfl, rfl, rfl, rfl, rfl, rfl, trivial⟩, hS.weak ⟨rfl, rfl, rfl, rfl, rfl, rfl, trivial⟩⟩)
              intro a w hF hS
              refine step hF (Y.assign hF rfl) rfl fun a hF => ?_
              refine nil (then_n ?_)
              refine ret_ (then_r ?_)
              obtain rfl := some_inj h
              exact leaveP Tryd.results11 hF hS (.cons (.tmp rfl) .nil) .nil rfl
             ·as_aux_lemma =>
               replace h := cond_f h hbv_50
               refine skip_ (then_n ?_)
               refine seq ?_
               refine seq ?_
               refine region ?_
               refine step hF (Y.move hF rfl) rfl fun a hF => ?_
               refine step hF (Y.eql hF rfl rfl) rfl fun a hF => ?_
               refine step hF (Y.move hF rfl) rfl fun a hF => ?_
               refine join (N := 180) (rs := []) (w0 := w0) (D0 := D0) 8 (us := [(6, .bool false), (12, .int .i64 rv_34.2), (15, .int .i64 rv_36.1), (16, .int .i64 rv_36.2), (17, .int .i64 rv_37.1), (18, .int .i64 rv_37.2), (157, .bool ((rv_34.2 == 0) && ((rv_35.2 != 0) || (decide (rv_35.1 > rv_34.1)))))]) (ms := [(1, .cells b [.int .i64 sv.Hours, .int .i64 sv.Gap, .slice p sv.Machines.length c] 24), (2, .cells b_1 [.int .i64 more.From, .int .i64 more.Warm, .int .i64 more.Life.Low, .int .i64 more.Life.High, .int .i64 more.Drift] 52), (3, .cells b_2 [.int .i64 n.a0, .int .i64 n.a1, .int .i64 n.a2] 61), (4, .cells b_3 [.int .i64 sv.Hours, .int .i64 sv.Gap, .slice p_2 ((([] : List SpareMachine) ++ sv.Machines).set (Int.toNat rv_2) (SpareMachine.mk e.From e.Warm e.Life (if wr (e.Drift - rv_3) > 0 then wr (e.Drift - rv_3) else 0))).length c_2] 24), (5, .own none ([] : List SpareMachine).length 0 ([]) 52 5), (7, .cells b_5 [.int .i64 e.From, .int .i64 e.Warm, .int .i64 e.Life.Low, .int .i64 e.Life.High, .int .i64 (if wr (e.Drift - rv_3) > 0 then wr (e.Drift - rv_3) else 0)] 52)]) (D' := Dv_4) ?_ ?_
               ·rcases bcases (rv_34.2 == 0) with hbv_53 | hbv_53
                ·-- true
                 refine guard_on hF rfl rfl hbv_53 ?_
                 refine step hF (Y.move hF rfl) rfl fun a hF => ?_
                 refine guard_on hF rfl rfl hbv_53 ?_
                 refine step hF (Y.neq hF rfl rfl) rfl fun a hF => ?_
                 refine guard_on hF rfl rfl hbv_53 ?_
                 refine step hF (Y.move hF rfl) rfl fun a hF => ?_
                 refine join (N := 180) (rs := []) (w0 := w0) (D0 := D0) 4 (us := [(6, .bool false), (12, .int .i64 rv_34.2), (15, .int .i64 rv_36.1), (16, .int .i64 rv_36.2), (17, .int .i64 rv_37.1), (18, .int .i64 rv_37.2), (149, .bool (rv_34.2 == 0)), (156, .bool ((rv_35.2 != 0) || (decide (rv_35.1 > rv_34.1))))]) (ms := [(1, .cells b [.int .i64 sv.Hours, .int .i64 sv.Gap, .slice p sv.Machines.length c] 24), (2, .cells b_1 [.int .i64 more.From, .int .i64 more.Warm, .int .i64 more.Life.Low, .int .i64 more.Life.High, .int .i64 more.Drift] 52), (3, .cells b_2 [.int .i64 n.a0, .int .i64 n.a1, .int .i64 n.a2] 61), (4, .cells b_3 [.int .i64 sv.Hours, .int .i64 sv.Gap, .slice p_2 ((([] : List SpareMachine) ++ sv.Machines).set (Int.toNat rv_2) (SpareMachine.mk e.From e.Warm e.Life (if wr (e.Drift - rv_3) > 0 then wr (e.Drift - rv_3) else 0))).length c_2] 24), (5, .own none ([] : List SpareMachine).length 0 ([]) 52 5), (7, .cells b_5 [.int .i64 e.From, .int .i64 e.Warm, .int .i64 e.Life.Low, .int .i64 e.Life.High, .int .i64 (if wr (e.Drift - rv_3) > 0 then wr (e.Drift - rv_3) else 0)] 52)]) (D' := Dv_4) ?_ ?_
                 ·rcases bcases (rv_35.2 != 0) with hbv_54 | hbv_54
                  ·-- true
                   refine guard_off hF rfl rfl hbv_54 rfl fun a hF => ?_
                   refine guard_off hF rfl rfl hbv_54 rfl fun a hF => ?_
                   refine guard_off hF rfl rfl hbv_54 rfl fun a hF => ?_
                   refine guard_on hF rfl rfl hbv_53 ?_
                   refine step hF (Y.pick_t hF rfl hbv_54 rfl) rfl fun a hF => ?_
                   exact nil (then_n ⟨hF.weak ⟨rfl, rfl, rfl, rfl, rfl, rfl, rfl, (by rw [hbv_54]; rfl), trivial⟩, hS.weak ⟨rfl, rfl, rfl, rfl, rfl, rfl, trivial⟩⟩)
                  ·-- false
                   refine guard_on hF rfl rfl hbv_54 ?_
                   refine step hF (Y.move hF rfl) rfl fun a hF => ?_
                   refine guard_on hF rfl rfl hbv_54 ?_
                   refine step hF (Y.move hF rfl) rfl fun a hF => ?_
                   refine guard_on hF rfl rfl hbv_54 ?_
                   refine step hF (Y.gtr hF rfl rfl) rfl fun a hF => ?_
                   refine guard_on hF rfl rfl hbv_53 ?_
                   refine step hF (Y.pick_f hF rfl hbv_54 rfl) rfl fun a hF => ?_
                   exact nil (then_n ⟨hF.weak ⟨rfl, rfl, rfl, rfl, rfl, rfl, rfl, (by rw [hbv_54]; rfl), trivial⟩, hS.weak ⟨rfl, rfl, rfl, rfl, rfl, rfl, trivial⟩⟩)
                 intro a w hF hS
                 refine step hF (Y.pick_t hF rfl hbv_53 rfl) rfl fun a hF => ?_
                 exact nil (then_n ⟨hF.weak ⟨rfl, rfl, rfl, rfl, rfl, rfl, (by rw [hbv_53]; rfl), trivial⟩, hS.weak ⟨rfl, rfl, rfl, rfl, rfl, rfl, trivial⟩⟩)
                ·-- false
                 refine guard_off hF rfl rfl hbv_53 rfl fun a hF => ?_
                 refine guard_off hF rfl rfl hbv_53 rfl fun a hF => ?_
                 refine guard_off hF rfl rfl hbv_53 rfl fun a hF => ?_
                 refine guard_offu hF rfl rfl rfl fun a hF => ?_
                 refine guard_offu hF rfl rfl rfl fun a hF => ?_
                 refine guard_offu hF rfl rfl rfl fun a hF => ?_
                 refine guard_off hF rfl rfl hbv_53 rfl fun a hF => ?_
                 refine step hF (Y.pick_f hF rfl hbv_53 rfl) rfl fun a hF => ?_
                 exact nil (then_n ⟨hF.weak ⟨rfl, rfl, rfl, rfl, rfl, rfl, (by rw [hbv_53]; rfl), trivial⟩, hS.weak ⟨rfl, rfl, rfl, rfl, rfl, rfl, trivial⟩⟩)
               intro a w hF hS
               refine step hF (Y.move hF rfl) rfl fun a hF => ?_
               refine join (N := 180) (rs := []) (w0 := w0) (D0 := D0) 7 (us := [(6, .bool false), (15, .int .i64 rv_36.1), (16, .int .i64 rv_36.2), (17, .int .i64 rv_37.1), (18, .int .i64 rv_37.2), (165, .bool (((rv_34.2 == 0) && ((rv_35.2 != 0) || (decide (rv_35.1 > rv_34.1)))) || ((rv_34.2 != 0) && (rv_34.2 != 4))))]) (ms := [(1, .cells b [.int .i64 sv.Hours, .int .i64 sv.Gap, .slice p sv.Machines.length c] 24), (2, .cells b_1 [.int .i64 more.From, .int .i64 more.Warm, .int .i64 more.Life.Low, .int .i64 more.Life.High, .int .i64 more.Drift] 52), (3, .cells b_2 [.int .i64 n.a0, .int .i64 n.a1, .int .i64 n.a2] 61), (4, .cells b_3 [.int .i64 sv.Hours, .int .i64 sv.Gap, .slice p_2 ((([] : List SpareMachine) ++ sv.Machines).set (Int.toNat rv_2) (SpareMachine.mk e.From e.Warm e.Life (if wr (e.Drift - rv_3) > 0 then wr (e.Drift - rv_3) else 0))).length c_2] 24), (5, .own none ([] : List SpareMachine).length 0 ([]) 52 5), (7, .cells b_5 [.int .i64 e.From, .int .i64 e.Warm, .int .i64 e.Life.Low, .int .i64 e.Life.High, .int .i64 (if wr (e.Drift - rv_3) > 0 then wr (e.Drift - rv_3) else 0)] 52)]) (D' := Dv_4) ?_ ?_
               ·rcases bcases ((rv_34.2 == 0) && ((rv_35.2 != 0) || (decide (rv_35.1 > rv_34.1)))) with hbv_55 | hbv_55
                ·-- true
                 refine guard_off hF rfl rfl hbv_55 rfl fun a hF => ?_
                 refine guard_off hF rfl rfl hbv_55 rfl fun a hF => ?_
                 refine guard_off hF rfl rfl hbv_55 rfl fun a hF => ?_
                 refine guard_offu hF rfl rfl rfl fun a hF => ?_
                 refine guard_offu hF rfl rfl rfl fun a hF => ?_
                 refine guard_off hF rfl rfl hbv_55 rfl fun a hF => ?_
                 refine step hF (Y.pick_t hF rfl hbv_55 rfl) rfl fun a hF => ?_
                 exact nil (then_n ⟨hF.weak ⟨rfl, rfl, rfl, rfl, rfl, (by rw [hbv_55]; rfl), trivial⟩, hS.weak ⟨rfl, rfl, rfl, rfl, rfl, rfl, trivial⟩⟩)
                ·-- false
                 refine guard_on hF rfl rfl hbv_55 ?_
                 refine step hF (Y.move hF rfl) rfl fun a hF => ?_
                 refine guard_on hF rfl rfl hbv_55 ?_
                 refine step hF (Y.neq hF rfl rfl) rfl fun a hF => ?_
                 refine guard_on hF rfl rfl hbv_55 ?_
                 refine step hF (Y.move hF rfl) rfl fun a hF => ?_
                 refine join (N := 180) (rs := []) (w0 := w0) (D0 := D0) 3 (us := [(6, .bool false), (15, .int .i64 rv_36.1), (16, .int .i64 rv_36.2), (17, .int .i64 rv_37.1), (18, .int .i64 rv_37.2), (158, .bool ((rv_34.2 == 0) && ((rv_35.2 != 0) || (decide (rv_35.1 > rv_34.1))))), (164, .bool ((rv_34.2 != 0) && (rv_34.2 != 4)))]) (ms := [(1, .cells b [.int .i64 sv.Hours, .int .i64 sv.Gap, .slice p sv.Machines.length c] 24), (2, .cells b_1 [.int .i64 more.From, .int .i64 more.Warm, .int .i64 more.Life.Low, .int .i64 more.Life.High, .int .i64 more.Drift] 52), (3, .cells b_2 [.int .i64 n.a0, .int .i64 n.a1, .int .i64 n.a2] 61), (4, .cells b_3 [.int .i64 sv.Hours, .int .i64 sv.Gap, .slice p_2 ((([] : List SpareMachine) ++ sv.Machines).set (Int.toNat rv_2) (SpareMachine.mk e.From e.Warm e.Life (if wr (e.Drift - rv_3) > 0 then wr (e.Drift - rv_3) else 0))).length c_2] 24), (5, .own none ([] : List SpareMachine).length 0 ([]) 52 5), (7, .cells b_5 [.int .i64 e.From, .int .i64 e.Warm, .int .i64 e.Life.Low, .int .i64 e.Life.High, .int .i64 (if wr (e.Drift - rv_3) > 0 then wr (e.Drift - rv_3) else 0)] 52)]) (D' := Dv_4) ?_ ?_
                 ·rcases bcases (rv_34.2 != 0) with hbv_56 | hbv_56
                  ·-- true
                   refine guard_on hF rfl rfl hbv_56 ?_
                   refine step hF (Y.move hF rfl) rfl fun a hF => ?_
                   refine guard_on hF rfl rfl hbv_56 ?_
                   refine step hF (Y.neq hF rfl rfl) rfl fun a hF => ?_
                   refine guard_on hF rfl rfl hbv_55 ?_
                   refine step hF (Y.pick_t hF rfl hbv_56 rfl) rfl fun a hF => ?_
                   exact nil (then_n ⟨hF.weak ⟨rfl, rfl, rfl, rfl, rfl, rfl, (by rw [hbv_56]; rfl), trivial⟩, hS.weak ⟨rfl, rfl, rfl, rfl, rfl, rfl, trivial⟩⟩)
                  ·-- false
                   refine guard_off hF rfl rfl hbv_56 rfl fun a hF => ?_
                   refine guard_off hF rfl rfl hbv_56 rfl fun a hF => ?_
                   refine guard_on hF rfl rfl hbv_55 ?_
                   refine step hF (Y.pick_f hF rfl hbv_56 rfl) rfl fun a hF => ?_
                   exact nil (then_n ⟨hF.weak ⟨rfl, rfl, rfl, rfl, rfl, rfl, (by rw [hbv_56]; rfl), trivial⟩, hS.weak ⟨rfl, rfl, rfl, rfl, rfl, rfl, trivial⟩⟩)
                 intro a w hF hS
                 refine step hF (Y.pick_f hF rfl hbv_55 rfl) rfl fun a hF => ?_
                 exact nil (then_n ⟨hF.weak ⟨rfl, rfl, rfl, rfl, rfl, (by rw [hbv_55]; rfl), trivial⟩, hS.weak ⟨rfl, rfl, rfl, rfl, rfl, rfl, trivial⟩⟩)
               intro a w hF hS
               refine nil (then_n ?_)
               refine cond_b hF rfl (fun hbv_57 => ?_) (fun hbv_57 => ?_)
               ·replace h := cond_t h hbv_57
                refine seq ?_
                refine region ?_
                refine step hF (Y.assign hF rfl) rfl fun a hF => ?_
                refine nil (then_n ?_)
                refine ret_ (then_r ?_)
                obtain rfl := some_inj h
                exact leaveP Tryd.results11 hF hS (.cons (.tmp rfl) .nil) .nil rfl
               ·as_aux_lemma =>
                 replace h := cond_f h hbv_57
                 refine skip_ (then_n ?_)
                 refine seq ?_
                 refine region ?_
                 refine step hF (Y.move hF rfl) rfl fun a hF => ?_
                 refine step hF (Y.eql hF rfl rfl) rfl fun a hF => ?_
                 refine step hF (Y.move hF rfl) rfl fun a hF => ?_
                 refine join (N := 180) (rs := []) (w0 := w0) (D0 := D0) 3 (us := [(6, .bool false), (15, .int .i64 rv_36.1), (17, .int .i64 rv_37.1), (171, .bool ((rv_36.2 == 0) && (rv_37.2 == 0)))]) (ms := [(1, .cells b [.int .i64 sv.Hours, .int .i64 sv.Gap, .slice p sv.Machines.length c] 24), (2, .cells b_1 [.int .i64 more.From, .int .i64 more.Warm, .int .i64 more.Life.Low, .int .i64 more.Life.High, .int .i64 more.Drift] 52), (3, .cells b_2 [.int .i64 n.a0, .int .i64 n.a1, .int .i64 n.a2] 61), (4, .cells b_3 [.int .i64 sv.Hours, .int .i64 sv.Gap, .slice p_2 ((([] : List SpareMachine) ++ sv.Machines).set (Int.toNat rv_2) (SpareMachine.mk e.From e.Warm e.Life (if wr (e.Drift - rv_3) > 0 then wr (e.Drift - rv_3) else 0))).length c_2] 24), (5, .own none ([] : List SpareMachine).length 0 ([]) 52 5), (7, .cells b_5 [.int .i64 e.From, .int .i64 e.Warm, .int .i64 e.Life.Low, .int .i64 e.Life.High, .int .i64 (if wr (e.Drift - rv_3) > 0 then wr (e.Drift - rv_3) else 0)] 52)]) (D' := Dv_4) ?_ ?_
                 ·rcases bcases (rv_36.2 == 0) with hbv_58 | hbv_58
                  ·-- true
                   refine guard_on hF rfl rfl hbv_58 ?_
                   refine step hF (Y.move hF rfl) rfl fun a hF => ?_
                   refine guard_on hF rfl rfl hbv_58 ?_
                   refine step hF (Y.eql hF rfl rfl) rfl fun a hF => ?_
                   refine step hF (Y.pick_t hF rfl hbv_58 rfl) rfl fun a hF => ?_
                   exact nil (then_n ⟨hF.weak ⟨rfl, rfl, rfl, (by rw [hbv_58]; rfl), trivial⟩, hS.weak ⟨rfl, rfl, rfl, rfl, rfl, rfl, trivial⟩⟩)
                  ·-- false
                   refine guard_off hF rfl rfl hbv_58 rfl fun a hF => ?_
                   refine guard_off hF rfl rfl hbv_58 rfl fun a hF => ?_
                   refine step hF (Y.pick_f hF rfl hbv_58 rfl) rfl fun a hF => ?_
                   exact nil (then_n ⟨hF.weak ⟨rfl, rfl, rfl, (by rw [hbv_58]; rfl), trivial⟩, hS.weak ⟨rfl, rfl, rfl, rfl, rfl, rfl, trivial⟩⟩)
                 intro a w hF hS
                 refine step hF (Y.move hF rfl) rfl fun a hF => ?_
                 refine join (N := 180) (rs := []) (w0 := w0) (D0 := D0) 4 (us := [(6, .bool false), (176, .bool (((rv_36.2 == 0) && (rv_37.2 == 0)) && (decide (rv_37.1 ≥ rv_36.1))))]) (ms := [(1, .cells b [.int .i64 sv.Hours, .int .i64 sv.Gap, .slice p sv.Machines.length c] 24), (2, .cells b_1 [.int .i64 more.From, .int .i64 more.Warm, .int .i64 more.Life.Low, .int .i64 more.Life.High, .int .i64 more.Drift] 52), (3, .cells b_2 [.int .i64 n.a0, .int .i64 n.a1, .int .i64 n.a2] 61), (4, .cells b_3 [.int .i64 sv.Hours, .int .i64 sv.Gap, .slice p_2 ((([] : List SpareMachine) ++ sv.Machines).set (Int.toNat rv_2) (SpareMachine.mk e.From e.Warm e.Life (if wr (e.Drift - rv_3) > 0 then wr (e.Drift - rv_3) else 0))).length c_2] 24), (5, .own none ([] : List SpareMachine).length 0 ([]) 52 5), (7, .cells b_5 [.int .i64 e.From, .int .i64 e.Warm, .int .i64 e.Life.Low, .int .i64 e.Life.High, .int .i64 (if wr (e.Drift - rv_3) > 0 then wr (e.Drift - rv_3) else 0)] 52)]) (D' := Dv_4) ?_ ?_
                 ·rcases bcases ((rv_36.2 == 0) && (rv_37.2 == 0)) with hbv_59 | hbv_59
                  ·-- true
                   refine guard_on hF rfl rfl hbv_59 ?_
                   refine step hF (Y.move hF rfl) rfl fun a hF => ?_
                   refine guard_on hF rfl rfl hbv_59 ?_
                   refine step hF (Y.move hF rfl) rfl fun a hF => ?_
                   refine guard_on hF rfl rfl hbv_59 ?_
                   refine step hF (Y.geq hF rfl rfl) rfl fun a hF => ?_
                   refine step hF (Y.pick_t hF rfl hbv_59 rfl) rfl fun a hF => ?_
                   exact nil (then_n ⟨hF.weak ⟨rfl, (by rw [hbv_59]; rfl), trivial⟩, hS.weak ⟨rfl, rfl, rfl, rfl, rfl, rfl, trivial⟩⟩)
                  ·-- false
                   refine guard_off hF rfl rfl hbv_59 rfl fun a hF => ?_
                   refine guard_off hF rfl rfl hbv_59 rfl fun a hF => ?_
                   refine guard_off hF rfl rfl hbv_59 rfl fun a hF => ?_
                   refine step hF (Y.pick_f hF rfl hbv_59 rfl) rfl fun a hF => ?_
                   exact nil (then_n ⟨hF.weak ⟨rfl, (by rw [hbv_59]; rfl), trivial⟩, hS.weak ⟨rfl, rfl, rfl, rfl, rfl, rfl, trivial⟩⟩)
                 intro a w hF hS
                 refine step hF (Y.move hF rfl) rfl fun a hF => ?_
                 obtain ⟨t_9, ht_9, h⟩ := bind_some h
                 refine join (N := 180) (rs := []) (w0 := w0) (D0 := D0) 2 (us := [(6, .bool false), (179, .bool t_9)]) (ms := [(1, .cells b [.int .i64 sv.Hours, .int .i64 sv.Gap, .slice p sv.Machines.length c] 24), (2, .cells b_1 [.int .i64 more.From, .int .i64 more.Warm, .int .i64 more.Life.Low, .int .i64 more.Life.High, .int .i64 more.Drift] 52), (3, .cells b_2 [.int .i64 n.a0, .int .i64 n.a1, .int .i64 n.a2] 61), (4, .cells b_3 [.int .i64 sv.Hours, .int .i64 sv.Gap, .slice p_2 ((([] : List SpareMachine) ++ sv.Machines).set (Int.toNat rv_2) (SpareMachine.mk e.From e.Warm e.Life (if wr (e.Drift - rv_3) > 0 then wr (e.Drift - rv_3) else 0))).length c_2] 24), (5, .own none ([] : List SpareMachine).length 0 ([]) 52 5), (7, .cells b_5 [.int .i64 e.From, .int .i64 e.Warm, .int .i64 e.Life.Low, .int .i64 e.Life.High, .int .i64 (if wr (e.Drift - rv_3) > 0 then wr (e.Drift - rv_3) else 0)] 52)]) (D' := Dv_4) ?_ ?_
                 ·rcases bcases (((rv_36.2 == 0) && (rv_37.2 == 0)) && (decide (rv_37.1 ≥ rv_36.1))) with hbv_60 | hbv_60
                  ·-- true
                   replace h := cond_t ht_9 hbv_60
                   refine guard_on hF rfl rfl hbv_60 ?_
                   obtain ⟨rv_40, hx_41, h⟩ := bind_some h
                   refine O.callP (us := []) ca_21 hF hS (remontoirlaw08_works_ok hS.stab hG rv_40 hx_41) rfl rfl fun a w hF hS => ?_
                   refine step hF (Y.pick_t hF rfl hbv_60 rfl) rfl fun a hF => ?_
                   obtain rfl := some_inj h
                   exact nil (then_n ⟨hF.weak ⟨rfl, rfl, trivial⟩, hS.weak ⟨rfl, rfl, rfl, rfl, rfl, rfl, trivial⟩⟩)
                  ·-- false
                   replace h := cond_f ht_9 hbv_60
                   refine guard_off hF rfl rfl hbv_60 rfl fun a hF => ?_
                   refine step hF (Y.pick_f hF rfl hbv_60 rfl) rfl fun a hF => ?_
                   obtain rfl := some_inj h
                   exact nil (then_n ⟨hF.weak ⟨rfl, rfl, trivial⟩, hS.weak ⟨rfl, rfl, rfl, rfl, rfl, rfl, trivial⟩⟩)
                 intro a w hF hS
                 refine step hF (Y.assign hF rfl) rfl fun a hF => ?_
                 refine nil (then_n ?_)
                 refine ret_ ?_
                 obtain rfl := some_inj h
                 exact leaveP Tryd.results11 hF hS (.cons (.tmp rfl) .nil) .nil rfl
           ·as_aux_lemma =>
             replace h := cond_f h hbv_49
             refine seq ?_
             refine region ?_
             refine step hF (Y.eql hF rfl rfl) rfl fun a hF => ?_
             refine step hF (Y.assign hF rfl) rfl fun a hF => ?_
             refine nil (then_n ?_)
             refine cond_b hF rfl (fun hbv_61 => ?_) (fun hbv_61 => ?_)
             ·as_aux_lemma =>
               replace h := cond_t h hbv_61
               refine region ?_
               refine step hF (Y.fieldAddr fo_24_1 hF rfl) rfl fun a hF => ?_
               refine step hF (Y.load1L 1 sz_3 hF rfl hS rfl rfl) rfl fun a hF => ?_
               refine step hF (Y.move hF rfl) rfl fun a hF => ?_
               refine step hF (Y.add hF rfl rfl) rfl fun a hF => ?_
               refine step hF (Y.min2 hF rfl rfl) rfl fun a hF => ?_
               refine step hF (Y.fieldAddr fo_24_1 hF rfl) rfl fun a hF => ?_
               refine O.store (us := [.int .i64 (if wr (sv.Gap + rv_3) < 1000 then wr (sv.Gap + rv_3) else 1000)]) 4 sz_3 hF rfl rfl rfl rfl hS rfl rfl fun a w hF hS => ?_
               refine nil (blk_n (then_n ?_))
               refine seq ?_
               refine region ?_
               refine step hF (Y.fieldAddr fo_24_2 hF rfl) rfl fun a hF => ?_
               refine step hF (Y.load1L 4 sz_22 hF rfl hS rfl rfl) rfl fun a hF => ?_
               refine step hF (Y.move hF rfl) rfl fun a hF => ?_
               refine step hF (Y.loadNL 7 sz_52 hF rfl hS rfl rfl rfl) rfl fun a hF => ?_
               obtain ⟨hg_7, h⟩ := ite_some h
               obtain ⟨b_11, hp_5⟩ := hS.ownPtr (i := 6) rfl hg_7
               refine step hF (Y.indexOwn hp_5 u_22 sz_52 hg_7 hF rfl rfl) rfl fun a hF => ?_
               refine O.storeOwnP (C := C_SpareMachine) (v0 := e) (xs := (([] : List SpareMachine) ++ sv.Machines)) (us := [.int .i64 e.From, .int .i64 e.Warm, .int .i64 e.Life.Low, .int .i64 e.Life.High, .int .i64 e.Drift]) 6 hp_5 sz_52 hg_7 hF rfl rfl rfl rfl hS rfl hr_1 fun cs_5 a w hF hS hr_9 => ?_
               try rw [show (([] : List SpareMachine) ++ sv.Machines).length = ((([] : List SpareMachine) ++ sv.Machines).set (Int.toNat rv_2) e).length from List.length_set.symm] at hF
               try rw [show (([] : List SpareMachine) ++ sv.Machines).length = ((([] : List SpareMachine) ++ sv.Machines).set (Int.toNat rv_2) e).length from List.length_set.symm] at hS
               refine nil (then_n ?_)
               refine seq ?_
               refine region ?_
               refine step hF (Y.loadNL 1 sz_24 hF rfl hS rfl rfl rfl) rfl fun a hF => ?_
               obtain ⟨rv_41, hx_42, h⟩ := bind_some h
               refine O.callP (us := [.agg #[.int .i64 sv.Hours, .int .i64 sv.Gap, .slice p sv.Machines.length c]]) ca_22 hF hS (spare_Fewest_ok hS.stab sv hs hG rv_41 hx_42) rfl rfl fun a w hF hS => ?_
               refine step hF (Y.move hF rfl) rfl fun a hF => ?_
               refine step hF (Y.extract hF rfl rfl) rfl fun a hF => ?_
               refine step hF (Y.extract hF rfl rfl) rfl fun a hF => ?_
               refine step hF (Y.assign hF rfl) rfl fun a hF => ?_
               refine step hF (Y.assign hF rfl) rfl fun a hF => ?_
               refine nil (then_n ?_)
               refine seq ?_
               refine region ?_
               refine step hF (Y.loadNL 4 sz_24 hF rfl hS rfl rfl rfl) rfl fun a hF => ?_
               obtain ⟨Dv_5, hlev_5, hs_6, hS⟩ := hS.freezeC (i := 6) (xs := ((([] : List SpareMachine) ++ sv.Machines).set (Int.toNat rv_2) e)) rfl hr_9
               replace hs := hs.mono hlev_5
               replace hG := hG.mono hlev_5
               replace hr := hr.mono hlev_5
               replace hr_1 := hr_1.mono hlev_5
               replace hcell := fun w hw => hcell w (Stab.on.le hw hlev_5)
               replace hr_9 := hr_9.mono hlev_5
               obtain ⟨rv_42, hx_43, h⟩ := bind_some h
               refine O.callP (us := [.agg #[.int .i64 sv.Hours, .int .i64 (if wr (sv.Gap + rv_3) < 1000 then wr (sv.Gap + rv_3) else 1000), .slice p_2 ((([] : List SpareMachine) ++ sv.Machines).set (Int.toNat rv_2) e).length c_2]]) ca_22 hF hS (spare_Fewest_ok hS.stab (SpareStore.mk sv.Hours (if wr (sv.Gap + rv_3) < 1000 then wr (sv.Gap + rv_3) else 1000) ((([] : List SpareMachine) ++ sv.Machines).set (Int.toNat rv_2) e)) hs_6 hG rv_42 hx_43) rfl rfl fun a w hF hS => ?_
               refine step hF (Y.move hF rfl) rfl fun a hF => ?_
               refine step hF (Y.extract hF rfl rfl) rfl fun a hF => ?_
               refine step hF (Y.extract hF rfl rfl) rfl fun a hF => ?_
               refine step hF (Y.assign hF rfl) rfl fun a hF => ?_
               refine step hF (Y.assign hF rfl) rfl fun a hF => ?_
               refine nil (then_n ?_)
               refine seq ?_
               refine region ?_
               refine step hF (Y.loadNL 1 sz_24 hF rfl hS rfl rfl rfl) rfl fun a hF => ?_
               obtain ⟨rv_43, hx_44, h⟩ := bind_some h
               refine O.callP (us := [.agg #[.int .i64 sv.Hours, .int .i64 sv.Gap, .slice p sv.Machines.length c]]) ca_25 hF hS (spare_Reach_ok hS.stab sv hs hG rv_43 hx_44) rfl rfl fun a w hF hS => ?_
               refine step hF (Y.move hF rfl) rfl fun a hF => ?_
               refine step hF (Y.extract hF rfl rfl) rfl fun a hF => ?_
               refine step hF (Y.extract hF rfl rfl) rfl fun a hF => ?_
               refine step hF (Y.assign hF rfl) rfl fun a hF => ?_
               refine step hF (Y.assign hF rfl) rfl fun a hF => ?_
               refine nil (then_n ?_)
               refine seq ?_
               refine region ?_
               refine step hF (Y.loadNL 4 sz_24 hF rfl hS rfl rfl rfl) rfl fun a hF => ?_
               obtain ⟨rv_44, hx_45, h⟩ := bind_some h
               refine O.callP (us := [.agg #[.int .i64 sv.Hours, .int .i64 (if wr (sv.Gap + rv_3) < 1000 then wr (sv.Gap + rv_3) else 1000), .slice p_2 ((([] : List SpareMachine) ++ sv.Machines).set (Int.toNat rv_2) e).length c_2]]) ca_25 hF hS (spare_Reach_ok hS.stab (SpareStore.mk sv.Hours (if wr (sv.Gap + rv_3) < 1000 then wr (sv.Gap + rv_3) else 1000) ((([] : List SpareMachine) ++ sv.Machines).set (Int.toNat rv_2) e)) hs_6 hG rv_44 hx_45) rfl rfl fun a w hF hS => ?_
               refine step hF (Y.move hF rfl) rfl fun a hF => ?_
               refine step hF (Y.extract hF rfl rfl) rfl fun a hF => ?_
               refine step hF (Y.extract hF rfl rfl) rfl fun a hF => ?_
               refine step hF (Y.assign hF rfl) rfl fun a hF => ?_
               refine step hF (Y.assign hF rfl) rfl fun a hF => ?_
               refine nil (then_n ?_)
               refine seq ?_
               refine seq ?_
               refine region ?_
               refine step hF (Y.move hF rfl) rfl fun a hF => ?_
               refine step hF (Y.eql hF rfl rfl) rfl fun a hF => ?_
               refine nil (then_n ?_)
               refine cond_b hF rfl (fun hbv_62 => ?_) (fun hbv_62 => ?_)
               ·replace h := cond_t h hbv_62
                refine seq ?_
                refine region ?_
                refine step hF (Y.indexArr u_61 sz_3 hF rfl rfl (by decide) (by decide)) rfl fun a hF => ?_
                refine step hF (Y.load1L 3 sz_3 hF rfl hS rfl rfl) rfl fun a hF => ?_
                obtain ⟨rv_45, hx_46, h⟩ := bind_some h
                refine O.callP (us := [.int .i64 n.a0, .int .i64 7]) ca_42 hF hS (remontoirref00_Rest_ok hS.stab n.a0 7 rv_45 hx_46) rfl rfl fun a w hF hS => ?_
                refine step hF (Y.eql hF rfl rfl) rfl fun a hF => ?_
                refine step hF (Y.move hF rfl) rfl fun a hF => ?_
                refine join (N := 180) (rs := []) (w0 := w0) (D0 := D0) 4 (us := [(6, .bool false), (11, .int .i64 rv_41.1), (12, .int .i64 rv_41.2), (13, .int .i64 rv_42.1), (14, .int .i64 rv_42.2), (15, .int .i64 rv_43.1), (16, .int .i64 rv_43.2), (17, .int .i64 rv_44.1), (18, .int .i64 rv_44.2), (143, .bool ((rv_45 == 0) && (rv_44.2 == rv_42.2)))]) (ms := [(1, .cells b [.int .i64 sv.Hours, .int .i64 sv.Gap, .slice p sv.Machines.length c] 24), (2, .cells b_1 [.int .i64 more.From, .int .i64 more.Warm, .int .i64 more.Life.Low, .int .i64 more.Life.High, .int .i64 more.Drift] 52), (3, .cells b_2 [.int .i64 n.a0, .int .i64 n.a1, .int .i64 n.a2] 61), (4, .cells b_3 [.int .i64 sv.Hours, .int .i64 (if wr (sv.Gap + rv_3) < 1000 then wr (sv.Gap + rv_3) else 1000), .slice p_2 ((([] : List SpareMachine) ++ sv.Machines).set (Int.toNat rv_2) e).length c_2] 24), (5, .own none ([] : List SpareMachine).length 0 ([]) 52 5), (7, .cells b_5 [.int .i64 e.From, .int .i64 e.Warm, .int .i64 e.Life.Low, .int .i64 e.Life.High, .int .i64 e.Drift] 52)]) (D' := Dv_5) ?_ ?_
                ·rcases bcases (rv_45 == 0) with hbv_63 | hbv_63
                 ·-- true
                  refine guard_on hF rfl rfl hbv_63 ?_
                  refine step hF (Y.move hF rfl) rfl fun a hF => ?_
                  refine guard_on hF rfl rfl hbv_63 ?_
                  refine step hF (Y.move hF rfl) rfl fun a hF => ?_
                  refine guard_on hF rfl rfl hbv_63 ?_
                  refine step hF (Y.eql hF rfl rfl) rfl fun a hF => ?_
                  refine step hF (Y.pick_t hF rfl hbv_63 rfl) rfl fun a hF => ?_
                  exact nil (then_n ⟨hF.weak ⟨rfl, rfl, rfl, rfl, rfl, rfl, rfl, rfl, rfl, (by rw [hbv_63]; rfl), trivial⟩, hS.weak ⟨rfl, rfl, rfl, rfl, rfl, rfl, trivial⟩⟩)
                 ·-- false
                  refine guard_off hF rfl rfl hbv_63 rfl fun a hF => ?_
                  refine guard_off hF rfl rfl hbv_63 rfl fun a hF => ?_
                  refine guard_off hF rfl rfl hbv_63 rfl fun a hF => ?_
                  refine step hF (Y.pick_f hF rfl hbv_63 rfl) rfl fun a hF => ?_
                  exact nil (then_n ⟨hF.weak ⟨rfl, rfl, rfl, rfl, rfl, rfl, rfl, rfl, rfl, (by rw [hbv_63]; rfl), trivial⟩, hS.weak ⟨rfl, rfl, rfl, rfl, rfl, rfl, trivial⟩⟩)
                intro a w hF hS
                refine step hF (Y.move hF rfl) rfl fun a hF => ?_
                obtain ⟨t_10, ht_10, h⟩ := bind_some h
                refine join (N := 180) (rs := []) (w0 := w0) (D0 := D0) 2 (us := [(6, .bool false), (11, .int .i64 rv_41.1), (12, .int .i64 rv_41.2), (13, .int .i64 rv_42.1), (14, .int .i64 rv_42.2), (15, .int .i64 rv_43.1), (16, .int .i64 rv_43.2), (17, .int .i64 rv_44.1), (18, .int .i64 rv_44.2), (146, .bool t_10)]) (ms := [(1, .cells b [.int .i64 sv.Hours, .int .i64 sv.Gap, .slice p sv.Machines.length c] 24), (2, .cells b_1 [.int .i64 more.From, .int .i64 more.Warm, .int .i64 more.Life.Low, .int .i64 more.Life.High, .int .i64 more.Drift] 52), (3, .cells b_2 [.int .i64 n.a0, .int .i64 n.a1, .int .i64 n.a2] 61), (4, .cells b_3 [.int .i64 sv.Hours, .int .i64 (if wr (sv.Gap + rv_3) < 1000 then wr (sv.Gap + rv_3) else 1000), .slice p_2 ((([] : List SpareMachine) ++ sv.Machines).set (Int.toNat rv_2) e).length c_2] 24), (5, .own none ([] : List SpareMachine).length 0 ([]) 52 5), (7, .cells b_5 [.int .i64 e.From, .int .i64 e.Warm, .int .i64 e.Life.Low, .int .i64 e.Life.High, .int .i64 e.Drift] 52)]) (D' := Dv_5) ?_ ?_
                ·rcases bcases ((rv_45 == 0) && (rv_44.2 == rv_42.2)) with hbv_64 | hbv_64
                 ·-- true
                  replace h := cond_t ht_10 hbv_64
                  refine guard_on hF rfl rfl hbv_64 ?_
                  obtain ⟨rv_46, hx_47, h⟩ := bind_some h
                  refine O.callP (us := []) ca_21 hF hS (remontoirlaw08_works_ok hS.stab hG rv_46 hx_47) rfl rfl fun a w hF hS => ?_
                  refine step hF (Y.pick_t hF rfl hbv_64 rfl) rfl fun a hF => ?_
                  obtain rfl := some_inj h
                  exact nil (then_n ⟨hF.weak ⟨rfl, rfl, rfl, rfl, rfl, rfl, rfl, rfl, rfl, rfl, trivial⟩, hS.weak ⟨rfl, rfl, rfl, rfl, rfl, rfl, trivial⟩⟩)
                 ·-- false
                  replace h := cond_f ht_10 hbv_64
                  refine guard_off hF rfl rfl hbv_64 rfl fun a hF => ?_
                  refine step hF (Y.pick_f hF rfl hbv_64 rfl) rfl fun a hF => ?_
                  obtain rfl := some_inj h
                  exact nil (then_n ⟨hF.weak ⟨rfl, rfl, rfl, rfl, rfl, rfl, rfl, rfl, rfl, rfl, trivial⟩, hS.weak ⟨rfl, rfl, rfl, rfl, rfl, rfl, trivial⟩⟩)
                intro a w hF hS
                refine step hF (Y.assign hF rfl) rfl fun a hF => ?_
                refine nil (then_n ?_)
                refine ret_ (then_r ?_)
                obtain rfl := some_inj h
                exact leaveP Tryd.results11 hF hS (.cons (.tmp rfl) .nil) .nil rfl
               ·as_aux_lemma =>
                 replace h := cond_f h hbv_62
                 refine skip_ (then_n ?_)
                 refine seq ?_
                 refine seq ?_
                 refine region ?_
                 refine step hF (Y.move hF rfl) rfl fun a hF => ?_
                 refine step hF (Y.eql hF rfl rfl) rfl fun a hF => ?_
                 refine step hF (Y.move hF rfl) rfl fun a hF => ?_
                 refine join (N := 180) (rs := []) (w0 := w0) (D0 := D0) 8 (us := [(6, .bool false), (12, .int .i64 rv_41.2), (15, .int .i64 rv_43.1), (16, .int .i64 rv_43.2), (17, .int .i64 rv_44.1), (18, .int .i64 rv_44.2), (157, .bool ((rv_41.2 == 0) && ((rv_42.2 != 0) || (decide (rv_42.1 > rv_41.1)))))]) (ms := [(1, .cells b [.int .i64 sv.Hours, .int .i64 sv.Gap, .slice p sv.Machines.length c] 24), (2, .cells b_1 [.int .i64 more.From, .int .i64 more.Warm, .int .i64 more.Life.Low, .int .i64 more.Life.High, .int .i64 more.Drift] 52), (3, .cells b_2 [.int .i64 n.a0, .int .i64 n.a1, .int .i64 n.a2] 61), (4, .cells b_3 [.int .i64 sv.Hours, .int .i64 (if wr (sv.Gap + rv_3) < 1000 then wr (sv.Gap + rv_3) else 1000), .slice p_2 ((([] : List SpareMachine) ++ sv.Machines).set (Int.toNat rv_2) e).length c_2] 24), (5, .own none ([] : List SpareMachine).length 0 ([]) 52 5), (7, .cells b_5 [.int .i64 e.From, .int .i64 e.Warm, .int .i64 e.Life.Low, .int .i64 e.Life.High, .int .i64 e.Drift] 52)]) (D' := Dv_5) ?_ ?_
                 ·rcases bcases (rv_41.2 == 0) with hbv_65 | hbv_65
                  ·-- true
                   refine guard_on hF rfl rfl hbv_65 ?_
                   refine step hF (Y.move hF rfl) rfl fun a hF => ?_
                   refine guard_on hF rfl rfl hbv_65 ?_
                   refine step hF (Y.neq hF rfl rfl) rfl fun a hF => ?_
                   refine guard_on hF rfl rfl hbv_65 ?_
                   refine step hF (Y.move hF rfl) rfl fun a hF => ?_
                   refine join (N := 180) (rs := []) (w0 := w0) (D0 := D0) 4 (us := [(6, .bool false), (12, .int .i64 rv_41.2), (15, .int .i64 rv_43.1), (16, .int .i64 rv_43.2), (17, .int .i64 rv_44.1), (18, .int .i64 rv_44.2), (149, .bool (rv_41.2 == 0)), (156, .bool ((rv_42.2 != 0) || (decide (rv_42.1 > rv_41.1))))]) (ms := [(1, .cells b [.int .i64 sv.Hours, .int .i64 sv.Gap, .slice p sv.Machines.length c] 24), (2, .cells b_1 [.int .i64 more.From, .int .i64 more.Warm, .int .i64 more.Life.Low, .int .i64 more.Life.High, .int .i64 more.Drift] 52), (3, .cells b_2 [.int .i64 n.a0, .int .i64 n.a1, .int .i64 n.a2] 61), (4, .cells b_3 [.int .i64 sv.Hours, .int .i64 (if wr (sv.Gap + rv_3) < 1000 then wr (sv.Gap + rv_3) else 1000), .slice p_2 ((([] : List SpareMachine) ++ sv.Machines).set (Int.toNat rv_2) e).length c_2] 24), (5, .own none ([] : List SpareMachine).length 0 ([]) 52 5), (7, .cells b_5 [.int .i64 e.From, .int .i64 e.Warm, .int .i64 e.Life.Low, .int .i64 e.Life.High, .int .i64 e.Drift] 52)]) (D' := Dv_5) ?_ ?_
                   ·rcases bcases (rv_42.2 != 0) with hbv_66 | hbv_66
                    ·-- true
                     refine guard_off hF rfl rfl hbv_66 rfl fun a hF => ?_
                     refine guard_off hF rfl rfl hbv_66 rfl fun a hF => ?_
                     refine guard_off hF rfl rfl hbv_66 rfl fun a hF => ?_
                     refine guard_on hF rfl rfl hbv_65 ?_
                     refine step hF (Y.pick_t hF rfl hbv_66 rfl) rfl fun a hF => ?_
                     exact nil (then_n ⟨hF.weak ⟨rfl, rfl, rfl, rfl, rfl, rfl, rfl, (by rw [hbv_66]; rfl), trivial⟩, hS.weak ⟨rfl, rfl, rfl, rfl, rfl, rfl, trivial⟩⟩)
                    ·-- false
                     refine guard_on hF rfl rfl hbv_66 ?_
                     refine step hF (Y.move hF rfl) rfl fun a hF => ?_
                     refine guard_on hF rfl rfl hbv_66 ?_
                     refine step hF (Y.move hF rfl) rfl fun a hF => ?_
                     refine guard_on hF rfl rfl hbv_66 ?_
                     refine step hF (Y.gtr hF rfl rfl) rfl fun a hF => ?_
                     refine guard_on hF rfl rfl hbv_65 ?_
                     refine step hF (Y.pick_f hF rfl hbv_66 rfl) rfl fun a hF => ?_
                     exact nil (then_n ⟨hF.weak ⟨rfl, rfl, rfl, rfl, rfl, rfl, rfl, (by rw [hbv_66]; rfl), trivial⟩, hS.weak ⟨rfl, rfl, rfl, rfl, rfl, rfl, trivial⟩⟩)
                   intro a w hF hS
                   refine step hF (Y.pick_t hF rfl hbv_65 rfl) rfl fun a hF => ?_
                   exact nil (then_n ⟨hF.weak ⟨rfl, rfl, rfl, rfl, rfl, rfl, (by rw [hbv_65]; rfl), trivial⟩, hS.weak ⟨rfl, rfl, rfl, rfl, rfl, rfl, trivial⟩⟩)
                  ·-- false
                   refine guard_off hF rfl rfl hbv_65 rfl fun a hF => ?_
                   refine guard_off hF rfl rfl hbv_65 rfl fun a hF => ?_
                   refine guard_off hF rfl rfl hbv_65 rfl fun a hF => ?_
                   refine guard_offu hF rfl rfl rfl fun a hF => ?_
                   refine guard_offu hF rfl rfl rfl fun a hF => ?_
                   refine guard_offu hF rfl rfl rfl fun a hF => ?_
                   refine guard_off hF rfl rfl hbv_65 rfl fun a hF => ?_
                   refine step hF (Y.pick_f hF rfl hbv_65 rfl) rfl fun a hF => ?_
                   exact nil (then_n ⟨hF.weak ⟨rfl, rfl, rfl, rfl, rfl, rfl, (by rw [hbv_65]; rfl), trivial⟩, hS.weak ⟨rfl, rfl, rfl, rfl, rfl, rfl, trivial⟩⟩)
                 intro a w hF hS
                 refine step hF (Y.move hF rfl) rfl fun a hF => ?_
                 refine join (N := 180) (rs := []) (w0 := w0) (D0 := D0) 7 (us := [(6, .bool false), (15, .int .i64 rv_43.1), (16, .int .i64 rv_43.2), (17, .int .i64 rv_44.1), (18, .int .i64 rv_44.2), (165, .bool (((rv_41.2 == 0) && ((rv_42.2 != 0) || (decide (rv_42.1 > rv_41.1)))) || ((rv_41.2 != 0) && (rv_41.2 != 4))))]) (ms := [(1, .cells b [.int .i64 sv.Hours, .int .i64 sv.Gap, .slice p sv.Machines.length c] 24), (2, .cells b_1 [.int .i64 more.From, .int .i64 more.Warm, .int .i64 more.Life.Low, .int .i64 more.Life.High, .int .i64 more.Drift] 52), (3, .cells b_2 [.int .i64 n.a0, .int .i64 n.a1, .int .i64 n.a2] 61), (4, .cells b_3 [.int .i64 sv.Hours, .int .i64 (if wr (sv.Gap + rv_3) < 1000 then wr (sv.Gap + rv_3) else 1000), .slice p_2 ((([] : List SpareMachine) ++ sv.Machines).set (Int.toNat rv_2) e).length c_2] 24), (5, .own none ([] : List SpareMachine).length 0 ([]) 52 5), (7, .cells b_5 [.int .i64 e.From, .int .i64 e.Warm, .int .i64 e.Life.Low, .int .i64 e.Life.High, .int .i64 e.Drift] 52)]) (D' := Dv_5) ?_ ?_
                 ·rcases bcases ((rv_41.2 == 0) && ((rv_42.2 != 0) || (decide (rv_42.1 > rv_41.1)))) with hbv_67 | hbv_67
                  ·-- true
                   refine guard_off hF rfl rfl hbv_67 rfl fun a hF => ?_
                   refine guard_off hF rfl rfl hbv_67 rfl fun a hF => ?_
                   refine guard_off hF rfl rfl hbv_67 rfl fun a hF => ?_
                   refine guard_offu hF rfl rfl rfl fun a hF => ?_
                   refine guard_offu hF rfl rfl rfl fun a hF => ?_
                   refine guard_off hF rfl rfl hbv_67 rfl fun a hF => ?_
                   refine step hF (Y.pick_t hF rfl hbv_67 rfl) rfl fun a hF => ?_
                   exact nil (then_n ⟨hF.weak ⟨rfl, rfl, rfl, rfl, rfl, (by rw [hbv_67]; rfl), trivial⟩, hS.weak ⟨rfl, rfl, rfl, rfl, rfl, rfl, trivial⟩⟩)
                  ·-- false
                   refine guard_on hF rfl rfl hbv_67 ?_
                   refine step hF (Y.move hF rfl) rfl fun a hF => ?_
                   refine guard_on hF rfl rfl hbv_67 ?_
                   refine step hF (Y.neq hF rfl rfl) rfl fun a hF => ?_
                   refine guard_on hF rfl rfl hbv_67 ?_
                   refine step hF (Y.move hF rfl) rfl fun a hF => ?_
                   refine join (N := 180) (rs := []) (w0 := w0) (D0 := D0) 3 (us := [(6, .bool false), (15, .int .i64 rv_43.1), (16, .int .i64 rv_43.2), (17, .int .i64 rv_44.1), (18, .int .i64 rv_44.2), (158, .bool ((rv_41.2 == 0) && ((rv_42.2 != 0) || (decide (rv_42.1 > rv_41.1))))), (164, .bool ((rv_41.2 != 0) && (rv_41.2 != 4)))]) (ms := [(1, .cells b [.int .i64 sv.Hours, .int .i64 sv.Gap, .slice p sv.Machines.length c] 24), (2, .cells b_1 [.int .i64 more.From, .int .i64 more.Warm, .int .i64 more.Life.Low, .int .i64 more.Life.High, .int .i64 more.Drift] 52), (3, .cells b_2 [.int .i64 n.a0, .int .i64 n.a1, .int .i64 n.a2] 61), (4, .cells b_3 [.int .i64 sv.Hours, .int .i64 (if wr (sv.Gap + rv_3) < 1000 then wr (sv.Gap + rv_3) else 1000), .slice p_2 ((([] : List SpareMachine) ++ sv.Machines).set (Int.toNat rv_2) e).length c_2] 24), (5, .own none ([] : List SpareMachine).length 0 ([]) 52 5), (7, .cells b_5 [.int .i64 e.From, .int .i64 e.Warm, .int .i64 e.Life.Low, .int .i64 e.Life.High, .int .i64 e.Drift] 52)]) (D' := Dv_5) ?_ ?_
                   ·rcases bcases (rv_41.2 != 0) with hbv_68 | hbv_68
                    ·-- true
                     refine guard_on hF rfl rfl hbv_68 ?_
                     refine step hF (Y.move hF rfl) rfl fun a hF => ?_
                     refine guard_on hF rfl rfl hbv_68 ?_
                     refine step hF (Y.neq hF rfl rfl) rfl fun a hF => ?_
                     refine guard_on hF rfl rfl hbv_67 ?_
                     refine step hF (Y.pick_t hF rfl hbv_68 rfl) rfl fun a hF => ?_
                     exact nil (then_n ⟨hF.weak ⟨rfl, rfl, rfl, rfl, rfl, rfl, (by rw [hbv_68]; rfl), trivial⟩, hS.weak ⟨rfl, rfl, rfl, rfl, rfl, rfl, trivial⟩⟩)
                    ·-- false
                     refine guard_off hF rfl rfl hbv_68 rfl fun a hF => ?_
                     refine guard_off hF rfl rfl hbv_68 rfl fun a hF => ?_
                     refine guard_on hF rfl rfl hbv_67 ?_
                     refine step hF (Y.pick_f hF rfl hbv_68 rfl) rfl fun a hF => ?_
                     exact nil (then_n ⟨hF.weak ⟨rfl, rfl, rfl, rfl, rfl, rfl, (by rw [hbv_68]; rfl), trivial⟩, hS.weak ⟨rfl, rfl, rfl, rfl, rfl, rfl, trivial⟩⟩)
                   intro a w hF hS
                   refine step hF (Y.pick_f hF rfl hbv_67 rfl) rfl fun a hF => ?_
                   exact nil (then_n ⟨hF.weak ⟨rfl, rfl, rfl, rfl, rfl, (by rw [hbv_67]; rfl), trivial⟩, hS.weak ⟨rfl, rfl, rfl, rfl, rfl, rfl, trivial⟩⟩)
                 intro a w hF hS
                 refine nil (then_n ?_)
                 refine cond_b hF rfl (fun hbv_69 => ?_) (fun hbv_69 => ?_)
                 ·replace h := cond_t h hbv_69
                  refine seq ?_
                  refine region ?_
                  refine step hF (Y.assign hF rfl) rfl fun a hF => ?_
                  refine nil (then_n ?_)
                  refine ret_ (then_r ?_)
                  obtain rfl := some_inj h
                  exact leaveP Tryd.results11 hF hS (.cons (.tmp rfl) .nil) .nil rfl
                 ·as_aux_lemma =>
                   replace h := cond_f h hbv_69
                   refine skip_ (then_n ?_)
                   refine seq ?_
                   refine region ?_
                   refine step hF (Y.move hF rfl) rfl fun a hF => ?_
                   refine step hF (Y.eql hF rfl rfl) rfl fun a hF => ?_
                   refine step hF (Y.move hF rfl) rfl fun a hF => ?_
                   refine join (N := 180) (rs := []) (w0 := w0) (D0 := D0) 3 (us := [(6, .bool false), (15, .int .i64 rv_43.1), (17, .int .i64 rv_44.1), (171, .bool ((rv_43.2 == 0) && (rv_44.2 == 0)))]) (ms := [(1, .cells b [.int .i64 sv.Hours, .int .i64 sv.Gap, .slice p sv.Machines.length c] 24), (2, .cells b_1 [.int .i64 more.From, .int .i64 more.Warm, .int .i64 more.Life.Low, .int .i64 more.Life.High, .int .i64 more.Drift] 52), (3, .cells b_2 [.int .i64 n.a0, .int .i64 n.a1, .int .i64 n.a2] 61), (4, .cells b_3 [.int .i64 sv.Hours, .int .i64 (if wr (sv.Gap + rv_3) < 1000 then wr (sv.Gap + rv_3) else 1000), .slice p_2 ((([] : List SpareMachine) ++ sv.Machines).set (Int.toNat rv_2) e).length c_2] 24), (5, .own none ([] : List SpareMachine).length 0 ([]) 52 5), (7, .cells b_5 [.int .i64 e.From, .int .i64 e.Warm, .int .i64 e.Life.Low, .int .i64 e.Life.High, .int .i64 e.Drift] 52)]) (D' := Dv_5) ?_ ?_
                   ·rcases bcases (rv_43.2 == 0) with hbv_70 | hbv_70
                    ·-- true
                     refine guard_on hF rfl rfl hbv_70 ?_
                     refine step hF (Y.move hF rfl) rfl fun a hF => ?_
                     refine guard_on hF rfl rfl hbv_70 ?_
                     refine step hF (Y.eql hF rfl rfl) rfl fun a hF => ?_
                     refine step hF (Y.pick_t hF rfl hbv_70 rfl) rfl fun a hF => ?_
                     exact nil (then_n ⟨hF.weak ⟨rfl, rfl, rfl, (by rw [hbv_70]; rfl), trivial⟩, hS.weak ⟨rfl, rfl, rfl, rfl, rfl, rfl, trivial⟩⟩)
                    ·-- false
                     refine guard_off hF rfl rfl hbv_70 rfl fun a hF => ?_
                     refine guard_off hF rfl rfl hbv_70 rfl fun a hF => ?_
                     refine step hF (Y.pick_f hF rfl hbv_70 rfl) rfl fun a hF => ?_
                     exact nil (then_n ⟨hF.weak ⟨rfl, rfl, rfl, (by rw [hbv_70]; rfl), trivial⟩, hS.weak ⟨rfl, rfl, rfl, rfl, rfl, rfl, trivial⟩⟩)
                   intro a w hF hS
                   refine step hF (Y.move hF rfl) rfl fun a hF => ?_
                   refine join (N := 180) (rs := []) (w0 := w0) (D0 := D0) 4 (us := [(6, .bool false), (176, .bool (((rv_43.2 == 0) && (rv_44.2 == 0)) && (decide (rv_44.1 ≥ rv_43.1))))]) (ms := [(1, .cells b [.int .i64 sv.Hours, .int .i64 sv.Gap, .slice p sv.Machines.length c] 24), (2, .cells b_1 [.int .i64 more.From, .int .i64 more.Warm, .int .i64 more.Life.Low, .int .i64 more.Life.High, .int .i64 more.Drift] 52), (3, .cells b_2 [.int .i64 n.a0, .int .i64 n.a1, .int .i64 n.a2] 61), (4, .cells b_3 [.int .i64 sv.Hours, .int .i64 (if wr (sv.Gap + rv_3) < 1000 then wr (sv.Gap + rv_3) else 1000), .slice p_2 ((([] : List SpareMachine) ++ sv.Machines).set (Int.toNat rv_2) e).length c_2] 24), (5, .own none ([] : List SpareMachine).length 0 ([]) 52 5), (7, .cells b_5 [.int .i64 e.From, .int .i64 e.Warm, .int .i64 e.Life.Low, .int .i64 e.Life.High, .int .i64 e.Drift] 52)]) (D' := Dv_5) ?_ ?_
                   ·rcases bcases ((rv_43.2 == 0) && (rv_44.2 == 0)) with hbv_71 | hbv_71
                    ·-- true
                     refine guard_on hF rfl rfl hbv_71 ?_
                     refine step hF (Y.move hF rfl) rfl fun a hF => ?_
                     refine guard_on hF rfl rfl hbv_71 ?_
                     refine step hF (Y.move hF rfl) rfl fun a hF => ?_
                     refine guard_on hF rfl rfl hbv_71 ?_
                     refine step hF (Y.geq hF rfl rfl) rfl fun a hF => ?_
                     refine step hF (Y.pick_t hF rfl hbv_71 rfl) rfl fun a hF => ?_
                     exact nil (then_n ⟨hF.weak ⟨rfl, (by rw [hbv_71]; rfl), trivial⟩, hS.weak ⟨rfl, rfl, rfl, rfl, rfl, rfl, trivial⟩⟩)
                    ·-- false
                     refine guard_off hF rfl rfl hbv_71 rfl fun a hF => ?_
                     refine guard_off hF rfl rfl hbv_71 rfl fun a hF => ?_
                     refine guard_off hF rfl rfl hbv_71 rfl fun a hF => ?_
                     refine step hF (Y.pick_f hF rfl hbv_71 rfl) rfl fun a hF => ?_
                     exact nil (then_n ⟨hF.weak ⟨rfl, (by rw [hbv_71]; rfl), trivial⟩, hS.weak ⟨rfl, rfl, rfl, rfl, rfl, rfl, trivial⟩⟩)
                   intro a w hF hS
                   refine step hF (Y.move hF rfl) rfl fun a hF => ?_
                   obtain ⟨t_11, ht_11, h⟩ := bind_some h
                   refine join (N := 180) (rs := []) (w0 := w0) (D0 := D0) 2 (us := [(6, .bool false), (179, .bool t_11)]) (ms := [(1, .cells b [.int .i64 sv.Hours, .int .i64 sv.Gap, .slice p sv.Machines.length c] 24), (2, .cells b_1 [.int .i64 more.From, .int .i64 more.Warm, .int .i64 more.Life.Low, .int .i64 more.Life.High, .int .i64 more.Drift] 52), (3, .cells b_2 [.int .i64 n.a0, .int .i64 n.a1, .int .i64 n.a2] 61), (4, .cells b_3 [.int .i64 sv.Hours, .int .i64 (if wr (sv.Gap + rv_3) < 1000 then wr (sv.Gap + rv_3) else 1000), .slice p_2 ((([] : List SpareMachine) ++ sv.Machines).set (Int.toNat rv_2) e).length c_2] 24), (5, .own none ([] : List SpareMachine).length 0 ([]) 52 5), (7, .cells b_5 [.int .i64 e.From, .int .i64 e.Warm, .int .i64 e.Life.Low, .int .i64 e.Life.High, .int .i64 e.Drift] 52)]) (D' := Dv_5) ?_ ?_
                   ·rcases bcases (((rv_43.2 == 0) && (rv_44.2 == 0)) && (decide (rv_44.1 ≥ rv_43.1))) with hbv_72 | hbv_72
                    ·-- true
                     replace h := cond_t ht_11 hbv_72
                     refine guard_on hF rfl rfl hbv_72 ?_
                     obtain ⟨rv_47, hx_48, h⟩ := bind_some h
                     refine O.callP (us := []) ca_21 hF hS (remontoirlaw08_works_ok hS.stab hG rv_47 hx_48) rfl rfl fun a w hF hS => ?_
                     refine step hF (Y.pick_t hF rfl hbv_72 rfl) rfl fun a hF => ?_
                     obtain rfl := some_inj h
                     exact nil (then_n ⟨hF.weak ⟨rfl, rfl, trivial⟩, hS.weak ⟨rfl, rfl, rfl, rfl, rfl, rfl, trivial⟩⟩)
                    ·-- false
                     replace h := cond_f ht_11 hbv_72
                     refine guard_off hF rfl rfl hbv_72 rfl fun a hF => ?_
                     refine step hF (Y.pick_f hF rfl hbv_72 rfl) rfl fun a hF => ?_
                     obtain rfl := some_inj h
                     exact nil (then_n ⟨hF.weak ⟨rfl, rfl, trivial⟩, hS.weak ⟨rfl, rfl, rfl, rfl, rfl, rfl, trivial⟩⟩)
                   intro a w hF hS
                   refine step hF (Y.assign hF rfl) rfl fun a hF => ?_
                   refine nil (then_n ?_)
                   refine ret_ ?_
                   obtain rfl := some_inj h
                   exact leaveP Tryd.results11 hF hS (.cons (.tmp rfl) .nil) .nil rfl
             ·as_aux_lemma =>
               replace h := cond_f h hbv_61
               refine region ?_
               refine step hF (Y.fieldAddr fo_24_0 hF rfl) rfl fun a hF => ?_
               refine step hF (Y.load1L 1 sz_3 hF rfl hS rfl rfl) rfl fun a hF => ?_
               refine step hF (Y.move hF rfl) rfl fun a hF => ?_
               refine step hF (Y.sub hF rfl rfl) rfl fun a hF => ?_
               refine step hF (Y.max2 hF rfl rfl) rfl fun a hF => ?_
               refine step hF (Y.fieldAddr fo_24_0 hF rfl) rfl fun a hF => ?_
               refine O.store (us := [.int .i64 (if wr (sv.Hours - rv_3) > 1 then wr (sv.Hours - rv_3) else 1)]) 4 sz_3 hF rfl rfl rfl rfl hS rfl rfl fun a w hF hS => ?_
               refine nil (blk_n (then_n ?_))
               refine seq ?_
               refine region ?_
               refine step hF (Y.fieldAddr fo_24_2 hF rfl) rfl fun a hF => ?_
               refine step hF (Y.load1L 4 sz_22 hF rfl hS rfl rfl) rfl fun a hF => ?_
               refine step hF (Y.move hF rfl) rfl fun a hF => ?_
               refine step hF (Y.loadNL 7 sz_52 hF rfl hS rfl rfl rfl) rfl fun a hF => ?_
               obtain ⟨hg_8, h⟩ := ite_some h
               obtain ⟨b_12, hp_6⟩ := hS.ownPtr (i := 6) rfl hg_8
               refine step hF (Y.indexOwn hp_6 u_22 sz_52 hg_8 hF rfl rfl) rfl fun a hF => ?_
               refine O.storeOwnP (C := C_SpareMachine) (v0 := e) (xs := (([] : List SpareMachine) ++ sv.Machines)) (us := [.int .i64 e.From, .int .i64 e.Warm, .int .i64 e.Life.Low, .int .i64 e.Life.High, .int .i64 e.Drift]) 6 hp_6 sz_52 hg_8 hF rfl rfl rfl rfl hS rfl hr_1 fun cs_6 a w hF hS hr_10 => ?_
               try rw [show (([] : List SpareMachine) ++ sv.Machines).length = ((([] : List SpareMachine) ++ sv.Machines).set (Int.toNat rv_2) e).length from List.length_set.symm] at hF
               try rw [show (([] : List SpareMachine) ++ sv.Machines).length = ((([] : List SpareMachine) ++ sv.Machines).set (Int.toNat rv_2) e).length from List.length_set.symm] at hS
               refine nil (then_n ?_)
               refine seq ?_
               refine region ?_
               refine step hF (Y.loadNL 1 sz_24 hF rfl hS rfl rfl rfl) rfl fun a hF => ?_
               obtain ⟨rv_48, hx_49, h⟩ := bind_some h
               refine O.callP (us := [.agg #[.int .i64 sv.Hours, .int .i64 sv.Gap, .slice p sv.Machines.length c]]) ca_22 hF hS (spare_Fewest_ok hS.stab sv hs hG rv_48 hx_49) rfl rfl fun a w hF hS => ?_
               refine step hF (Y.move hF rfl) rfl fun a hF => ?_
               refine step hF (Y.extract hF rfl rfl) rfl fun a hF => ?_
               refine step hF (Y.extract hF rfl rfl) rfl fun a hF => ?_
               refine step hF (Y.assign hF rfl) rfl fun a hF => ?_
               refine step hF (Y.assign hF rfl) rfl fun a hF => ?_
               refine nil (then_n ?_)
               refine seq ?_
               refine region ?_
               refine step hF (Y.loadNL 4 sz_24 hF rfl hS rfl rfl rfl) rfl fun a hF => ?_
               obtain ⟨Dv_6, hlev_6, hs_7, hS⟩ := hS.freezeC (i := 6) (xs := ((([] : List SpareMachine) ++ sv.Machines).set (Int.toNat rv_2) e)) rfl hr_10
               replace hs := hs.mono hlev_6
               replace hG := hG.mono hlev_6
               replace hr := hr.mono hlev_6
               replace hr_1 := hr_1.mono hlev_6
               replace hcell := fun w hw => hcell w (Stab.on.le hw hlev_6)
               replace hr_10 := hr_10.mono hlev_6
               obtain ⟨rv_49, hx_50, h⟩ := bind_some h
               refine O.callP (us := [.agg #[.int .i64 (if wr (sv.Hours - rv_3) > 1 then wr (sv.Hours - rv_3) else 1), .int .i64 sv.Gap, .slice p_2 ((([] : List SpareMachine) ++ sv.Machines).set (Int.toNat rv_2) e).length c_2]]) ca_22 hF hS (spare_Fewest_ok hS.stab (SpareStore.mk (if wr (sv.Hours - rv_3) > 1 then wr (sv.Hours - rv_3) else 1) sv.Gap ((([] : List SpareMachine) ++ sv.Machines).set (Int.toNat rv_2) e)) hs_7 hG rv_49 hx_50) rfl rfl fun a w hF hS => ?_
               refine step hF (Y.move hF rfl) rfl fun a hF => ?_
               refine step hF (Y.extract hF rfl rfl) rfl fun a hF => ?_
               refine step hF (Y.extract hF rfl rfl) rfl fun a hF => ?_
               refine step hF (Y.assign hF rfl) rfl fun a hF => ?_
               refine step hF (Y.assign hF rfl) rfl fun a hF => ?_
               refine nil (then_n ?_)
               refine seq ?_
               refine region ?_
               refine step hF (Y.loadNL 1 sz_24 hF rfl hS rfl rfl rfl) rfl fun a hF => ?_
               obtain ⟨rv_50, hx_51, h⟩ := bind_some h
               refine O.callP (us := [.agg #[.int .i64 sv.Hours, .int .i64 sv.Gap, .slice p sv.Machines.length c]]) ca_25 hF hS (spare_Reach_ok hS.stab sv hs hG rv_50 hx_51) rfl rfl fun a w hF hS => ?_
               refine step hF (Y.move hF rfl) rfl fun a hF => ?_
               refine step hF (Y.extract hF rfl rfl) rfl fun a hF => ?_
               refine step hF (Y.extract hF rfl rfl) rfl fun a hF => ?_
               refine step hF (Y.assign hF rfl) rfl fun a hF => ?_
               refine step hF (Y.assign hF rfl) rfl fun a hF => ?_
               refine nil (then_n ?_)
               refine seq ?_
               refine region ?_
               refine step hF (Y.loadNL 4 sz_24 hF rfl hS rfl rfl rfl) rfl fun a hF => ?_
               obtain ⟨rv_51, hx_52, h⟩ := bind_some h
               refine O.callP (us := [.agg #[.int .i64 (if wr (sv.Hours - rv_3) > 1 then wr (sv.Hours - rv_3) else 1), .int .i64 sv.Gap, .slice p_2 ((([] : List SpareMachine) ++ sv.Machines).set (Int.toNat rv_2) e).length c_2]]) ca_25 hF hS (spare_Reach_ok hS.stab (SpareStore.mk (if wr (sv.Hours - rv_3) > 1 then wr (sv.Hours - rv_3) else 1) sv.Gap ((([] : List SpareMachine) ++ sv.Machines).set (Int.toNat rv_2) e)) hs_7 hG rv_51 hx_52) rfl rfl fun a w hF hS => ?_
               refine step hF (Y.move hF rfl) rfl fun a hF => ?_
               refine step hF (Y.extract hF rfl rfl) rfl fun a hF => ?_
               refine step hF (Y.extract hF rfl rfl) rfl fun a hF => ?_
               refine step hF (Y.assign hF rfl) rfl fun a hF => ?_
               refine step hF (Y.assign hF rfl) rfl fun a hF => ?_
               refine nil (then_n ?_)
               refine seq ?_
               refine seq ?_
               refine region ?_
               refine step hF (Y.move hF rfl) rfl fun a hF => ?_
               refine step hF (Y.eql hF rfl rfl) rfl fun a hF => ?_
               refine nil (then_n ?_)
               refine cond_b hF rfl (fun hbv_73 => ?_) (fun hbv_73 => ?_)
               ·replace h := cond_t h hbv_73
                refine seq ?_
                refine region ?_
                refine step hF (Y.indexArr u_61 sz_3 hF rfl rfl (by decide) (by decide)) rfl fun a hF => ?_
                refine step hF (Y.load1L 3 sz_3 hF rfl hS rfl rfl) rfl fun a hF => ?_
                obtain ⟨rv_52, hx_53, h⟩ := bind_some h
                refine O.callP (us := [.int .i64 n.a0, .int .i64 7]) ca_42 hF hS (remontoirref00_Rest_ok hS.stab n.a0 7 rv_52 hx_53) rfl rfl fun a w hF hS => ?_
                refine step hF (Y.eql hF rfl rfl) rfl fun a hF => ?_
                refine step hF (Y.move hF rfl) rfl fun a hF => ?_
                refine join (N := 180) (rs := []) (w0 := w0) (D0 := D0) 4 (us := [(6, .bool false), (11, .int .i64 rv_48.1), (12, .int .i64 rv_48.2), (13, .int .i64 rv_49.1), (14, .int .i64 rv_49.2), (15, .int .i64 rv_50.1), (16, .int .i64 rv_50.2), (17, .int .i64 rv_51.1), (18, .int .i64 rv_51.2), (143, .bool ((rv_52 == 0) && (rv_51.2 == rv_49.2)))]) (ms := [(1, .cells b [.int .i64 sv.Hours, .int .i64 sv.Gap, .slice p sv.Machines.length c] 24), (2, .cells b_1 [.int .i64 more.From, .int .i64 more.Warm, .int .i64 more.Life.Low, .int .i64 more.Life.High, .int .i64 more.Drift] 52), (3, .cells b_2 [.int .i64 n.a0, .int .i64 n.a1, .int .i64 n.a2] 61), (4, .cells b_3 [.int .i64 (if wr (sv.Hours - rv_3) > 1 then wr (sv.Hours - rv_3) else 1), .int .i64 sv.Gap, .slice p_2 ((([] : List SpareMachine) ++ sv.Machines).set (Int.toNat rv_2) e).length c_2] 24), (5, .own none ([] : List SpareMachine).length 0 ([]) 52 5), (7, .cells b_5 [.int .i64 e.From, .int .i64 e.Warm, .int .i64 e.Life.Low, .int .i64 e.Life.High, .int .i64 e.Drift] 52)]) (D' := Dv_6) ?_ ?_
                ·rcases bcases (rv_52 == 0) with hbv_74 | hbv_74
                 ·-- true
                  refine guard_on hF rfl rfl hbv_74 ?_
                  refine step hF (Y.move hF rfl) rfl fun a hF => ?_
                  refine guard_on hF rfl rfl hbv_74 ?_
                  refine step hF (Y.move hF rfl) rfl fun a hF => ?_
                  refine guard_on hF rfl rfl hbv_74 ?_
                  refine step hF (Y.eql hF rfl rfl) rfl fun a hF => ?_
                  refine step hF (Y.pick_t hF rfl hbv_74 rfl) rfl fun a hF => ?_
                  exact nil (then_n ⟨hF.weak ⟨rfl, rfl, rfl, rfl, rfl, rfl, rfl, rfl, rfl, (by rw [hbv_74]; rfl), trivial⟩, hS.weak ⟨rfl, rfl, rfl, rfl, rfl, rfl, trivial⟩⟩)
                 ·-- false
                  refine guard_off hF rfl rfl hbv_74 rfl fun a hF => ?_
                  refine guard_off hF rfl rfl hbv_74 rfl fun a hF => ?_
                  refine guard_off hF rfl rfl hbv_74 rfl fun a hF => ?_
                  refine step hF (Y.pick_f hF rfl hbv_74 rfl) rfl fun a hF => ?_
                  exact nil (then_n ⟨hF.weak ⟨rfl, rfl, rfl, rfl, rfl, rfl, rfl, rfl, rfl, (by rw [hbv_74]; rfl), trivial⟩, hS.weak ⟨rfl, rfl, rfl, rfl, rfl, rfl, trivial⟩⟩)
                intro a w hF hS
                refine step hF (Y.move hF rfl) rfl fun a hF => ?_
                obtain ⟨t_12, ht_12, h⟩ := bind_some h
                refine join (N := 180) (rs := []) (w0 := w0) (D0 := D0) 2 (us := [(6, .bool false), (11, .int .i64 rv_48.1), (12, .int .i64 rv_48.2), (13, .int .i64 rv_49.1), (14, .int .i64 rv_49.2), (15, .int .i64 rv_50.1), (16, .int .i64 rv_50.2), (17, .int .i64 rv_51.1), (18, .int .i64 rv_51.2), (146, .bool t_12)]) (ms := [(1, .cells b [.int .i64 sv.Hours, .int .i64 sv.Gap, .slice p sv.Machines.length c] 24), (2, .cells b_1 [.int .i64 more.From, .int .i64 more.Warm, .int .i64 more.Life.Low, .int .i64 more.Life.High, .int .i64 more.Drift] 52), (3, .cells b_2 [.int .i64 n.a0, .int .i64 n.a1, .int .i64 n.a2] 61), (4, .cells b_3 [.int .i64 (if wr (sv.Hours - rv_3) > 1 then wr (sv.Hours - rv_3) else 1), .int .i64 sv.Gap, .slice p_2 ((([] : List SpareMachine) ++ sv.Machines).set (Int.toNat rv_2) e).length c_2] 24), (5, .own none ([] : List SpareMachine).length 0 ([]) 52 5), (7, .cells b_5 [.int .i64 e.From, .int .i64 e.Warm, .int .i64 e.Life.Low, .int .i64 e.Life.High, .int .i64 e.Drift] 52)]) (D' := Dv_6) ?_ ?_
                ·rcases bcases ((rv_52 == 0) && (rv_51.2 == rv_49.2)) with hbv_75 | hbv_75
                 ·-- true
                  replace h := cond_t ht_12 hbv_75
                  refine guard_on hF rfl rfl hbv_75 ?_
                  obtain ⟨rv_53, hx_54, h⟩ := bind_some h
                  refine O.callP (us := []) ca_21 hF hS (remontoirlaw08_works_ok hS.stab hG rv_53 hx_54) rfl rfl fun a w hF hS => ?_
                  refine step hF (Y.pick_t hF rfl hbv_75 rfl) rfl fun a hF => ?_
                  obtain rfl := some_inj h
                  exact nil (then_n ⟨hF.weak ⟨rfl, rfl, rfl, rfl, rfl, rfl, rfl, rfl, rfl, rfl, trivial⟩, hS.weak ⟨rfl, rfl, rfl, rfl, rfl, rfl, trivial⟩⟩)
                 ·-- false
                  replace h := cond_f ht_12 hbv_75
                  refine guard_off hF rfl rfl hbv_75 rfl fun a hF => ?_
                  refine step hF (Y.pick_f hF rfl hbv_75 rfl) rfl fun a hF => ?_
                  obtain rfl := some_inj h
                  exact nil (then_n ⟨hF.weak ⟨rfl, rfl, rfl, rfl, rfl, rfl, rfl, rfl, rfl, rfl, trivial⟩, hS.weak ⟨rfl, rfl, rfl, rfl, rfl, rfl, trivial⟩⟩)
                intro a w hF hS
                refine step hF (Y.assign hF rfl) rfl fun a hF => ?_
                refine nil (then_n ?_)
                refine ret_ (then_r ?_)
                obtain rfl := some_inj h
                exact leaveP Tryd.results11 hF hS (.cons (.tmp rfl) .nil) .nil rfl
               ·as_aux_lemma =>
                 replace h := cond_f h hbv_73
                 refine skip_ (then_n ?_)
                 refine seq ?_
                 refine seq ?_
                 refine region ?_
                 refine step hF (Y.move hF rfl) rfl fun a hF => ?_
                 refine step hF (Y.eql hF rfl rfl) rfl fun a hF => ?_
                 refine step hF (Y.move hF rfl) rfl fun a hF => ?_
                 refine join (N := 180) (rs := []) (w0 := w0) (D0 := D0) 8 (us := [(6, .bool false), (12, .int .i64 rv_48.2), (15, .int .i64 rv_50.1), (16, .int .i64 rv_50.2), (17, .int .i64 rv_51.1), (18, .int .i64 rv_51.2), (157, .bool ((rv_48.2 == 0) && ((rv_49.2 != 0) || (decide (rv_49.1 > rv_48.1)))))]) (ms := [(1, .cells b [.int .i64 sv.Hours, .int .i64 sv.Gap, .slice p sv.Machines.length c] 24), (2, .cells b_1 [.int .i64 more.From, .int .i64 more.Warm, .int .i64 more.Life.Low, .int .i64 more.Life.High, .int .i64 more.Drift] 52), (3, .cells b_2 [.int .i64 n.a0, .int .i64 n.a1, .int .i64 n.a2] 61), (4, .cells b_3 [.int .i64 (if wr (sv.Hours - rv_3) > 1 then wr (sv.Hours - rv_3) else 1), .int .i64 sv.Gap, .slice p_2 ((([] : List SpareMachine) ++ sv.Machines).set (Int.toNat rv_2) e).length c_2] 24), (5, .own none ([] : List SpareMachine).length 0 ([]) 52 5), (7, .cells b_5 [.int .i64 e.From, .int .i64 e.Warm, .int .i64 e.Life.Low, .int .i64 e.Life.High, .int .i64 e.Drift] 52)]) (D' := Dv_6) ?_ ?_
                 ·rcases bcases (rv_48.2 == 0) with hbv_76 | hbv_76
                  ·-- true
                   refine guard_on hF rfl rfl hbv_76 ?_
                   refine step hF (Y.move hF rfl) rfl fun a hF => ?_
                   refine guard_on hF rfl rfl hbv_76 ?_
                   refine step hF (Y.neq hF rfl rfl) rfl fun a hF => ?_
                   refine guard_on hF rfl rfl hbv_76 ?_
                   refine step hF (Y.move hF rfl) rfl fun a hF => ?_
                   refine join (N := 180) (rs := []) (w0 := w0) (D0 := D0) 4 (us := [(6, .bool false), (12, .int .i64 rv_48.2), (15, .int .i64 rv_50.1), (16, .int .i64 rv_50.2), (17, .int .i64 rv_51.1), (18, .int .i64 rv_51.2), (149, .bool (rv_48.2 == 0)), (156, .bool ((rv_49.2 != 0) || (decide (rv_49.1 > rv_48.1))))]) (ms := [(1, .cells b [.int .i64 sv.Hours, .int .i64 sv.Gap, .slice p sv.Machines.length c] 24), (2, .cells b_1 [.int .i64 more.From, .int .i64 more.Warm, .int .i64 more.Life.Low, .int .i64 more.Life.High, .int .i64 more.Drift] 52), (3, .cells b_2 [.int .i64 n.a0, .int .i64 n.a1, .int .i64 n.a2] 61), (4, .cells b_3 [.int .i64 (if wr (sv.Hours - rv_3) > 1 then wr (sv.Hours - rv_3) else 1), .int .i64 sv.Gap, .slice p_2 ((([] : List SpareMachine) ++ sv.Machines).set (Int.toNat rv_2) e).length c_2] 24), (5, .own none ([] : List SpareMachine).length 0 ([]) 52 5), (7, .cells b_5 [.int .i64 e.From, .int .i64 e.Warm, .int .i64 e.Life.Low, .int .i64 e.Life.High, .int .i64 e.Drift] 52)]) (D' := Dv_6) ?_ ?_
                   ·rcases bcases (rv_49.2 != 0) with hbv_77 | hbv_77
                    ·-- true
                     refine guard_off hF rfl rfl hbv_77 rfl fun a hF => ?_
                     refine guard_off hF rfl rfl hbv_77 rfl fun a hF => ?_
                     refine guard_off hF rfl rfl hbv_77 rfl fun a hF => ?_
                     refine guard_on hF rfl rfl hbv_76 ?_
                     refine step hF (Y.pick_t hF rfl hbv_77 rfl) rfl fun a hF => ?_
                     exact nil (then_n ⟨hF.weak ⟨rfl, rfl, rfl, rfl, rfl, rfl, rfl, (by rw [hbv_77]; rfl), trivial⟩, hS.weak ⟨rfl, rfl, rfl, rfl, rfl, rfl, trivial⟩⟩)
                    ·-- false
                     refine guard_on hF rfl rfl hbv_77 ?_
                     refine step hF (Y.move hF rfl) rfl fun a hF => ?_
                     refine guard_on hF rfl rfl hbv_77 ?_
                     refine step hF (Y.move hF rfl) rfl fun a hF => ?_
                     refine guard_on hF rfl rfl hbv_77 ?_
                     refine step hF (Y.gtr hF rfl rfl) rfl fun a hF => ?_
                     refine guard_on hF rfl rfl hbv_76 ?_
                     refine step hF (Y.pick_f hF rfl hbv_77 rfl) rfl fun a hF => ?_
                     exact nil (then_n ⟨hF.weak ⟨rfl, rfl, rfl, rfl, rfl, rfl, rfl, (by rw [hbv_77]; rfl), trivial⟩, hS.weak ⟨rfl, rfl, rfl, rfl, rfl, rfl, trivial⟩⟩)
                   intro a w hF hS
                   refine step hF (Y.pick_t hF rfl hbv_76 rfl) rfl fun a hF => ?_
                   exact nil (then_n ⟨hF.weak ⟨rfl, rfl, rfl, rfl, rfl, rfl, (by rw [hbv_76]; rfl), trivial⟩, hS.weak ⟨rfl, rfl, rfl, rfl, rfl, rfl, trivial⟩⟩)
                  ·-- false
                   refine guard_off hF rfl rfl hbv_76 rfl fun a hF => ?_
                   refine guard_off hF rfl rfl hbv_76 rfl fun a hF => ?_
                   refine guard_off hF rfl rfl hbv_76 rfl fun a hF => ?_
                   refine guard_offu hF rfl rfl rfl fun a hF => ?_
                   refine guard_offu hF rfl rfl rfl fun a hF => ?_
                   refine guard_offu hF rfl rfl rfl fun a hF => ?_
                   refine guard_off hF rfl rfl hbv_76 rfl fun a hF => ?_
                   refine step hF (Y.pick_f hF rfl hbv_76 rfl) rfl fun a hF => ?_
                   exact nil (then_n ⟨hF.weak ⟨rfl, rfl, rfl, rfl, rfl, rfl, (by rw [hbv_76]; rfl), trivial⟩, hS.weak ⟨rfl, rfl, rfl, rfl, rfl, rfl, trivial⟩⟩)
                 intro a w hF hS
                 refine step hF (Y.move hF rfl) rfl fun a hF => ?_
                 refine join (N := 180) (rs := []) (w0 := w0) (D0 := D0) 7 (us := [(6, .bool false), (15, .int .i64 rv_50.1), (16, .int .i64 rv_50.2), (17, .int .i64 rv_51.1), (18, .int .i64 rv_51.2), (165, .bool (((rv_48.2 == 0) && ((rv_49.2 != 0) || (decide (rv_49.1 > rv_48.1)))) || ((rv_48.2 != 0) && (rv_48.2 != 4))))]) (ms := [(1, .cells b [.int .i64 sv.Hours, .int .i64 sv.Gap, .slice p sv.Machines.length c] 24), (2, .cells b_1 [.int .i64 more.From, .int .i64 more.Warm, .int .i64 more.Life.Low, .int .i64 more.Life.High, .int .i64 more.Drift] 52), (3, .cells b_2 [.int .i64 n.a0, .int .i64 n.a1, .int .i64 n.a2] 61), (4, .cells b_3 [.int .i64 (if wr (sv.Hours - rv_3) > 1 then wr (sv.Hours - rv_3) else 1), .int .i64 sv.Gap, .slice p_2 ((([] : List SpareMachine) ++ sv.Machines).set (Int.toNat rv_2) e).length c_2] 24), (5, .own none ([] : List SpareMachine).length 0 ([]) 52 5), (7, .cells b_5 [.int .i64 e.From, .int .i64 e.Warm, .int .i64 e.Life.Low, .int .i64 e.Life.High, .int .i64 e.Drift] 52)]) (D' := Dv_6) ?_ ?_
                 ·rcases bcases ((rv_48.2 == 0) && ((rv_49.2 != 0) || (decide (rv_49.1 > rv_48.1)))) with hbv_78 | hbv_78
                  ·-- true
                   refine guard_off hF rfl rfl hbv_78 rfl fun a hF => ?_
                   refine guard_off hF rfl rfl hbv_78 rfl fun a hF => ?_
                   refine guard_off hF rfl rfl hbv_78 rfl fun a hF => ?_
                   refine guard_offu hF rfl rfl rfl fun a hF => ?_
                   refine guard_offu hF rfl rfl rfl fun a hF => ?_
                   refine guard_off hF rfl rfl hbv_78 rfl fun a hF => ?_
                   refine step hF (Y.pick_t hF rfl hbv_78 rfl) rfl fun a hF => ?_
                   exact nil (then_n ⟨hF.weak ⟨rfl, rfl, rfl, rfl, rfl, (by rw [hbv_78]; rfl), trivial⟩, hS.weak ⟨rfl, rfl, rfl, rfl, rfl, rfl, trivial⟩⟩)
                  ·-- false
                   refine guard_on hF rfl rfl hbv_78 ?_
                   refine step hF (Y.move hF rfl) rfl fun a hF => ?_
                   refine guard_on hF rfl rfl hbv_78 ?_
                   refine step hF (Y.neq hF rfl rfl) rfl fun a hF => ?_
                   refine guard_on hF rfl rfl hbv_78 ?_
                   refine step hF (Y.move hF rfl) rfl fun a hF => ?_
                   refine join (N := 180) (rs := []) (w0 := w0) (D0 := D0) 3 (us := [(6, .bool false), (15, .int .i64 rv_50.1), (16, .int .i64 rv_50.2), (17, .int .i64 rv_51.1), (18, .int .i64 rv_51.2), (158, .bool ((rv_48.2 == 0) && ((rv_49.2 != 0) || (decide (rv_49.1 > rv_48.1))))), (164, .bool ((rv_48.2 != 0) && (rv_48.2 != 4)))]) (ms := [(1, .cells b [.int .i64 sv.Hours, .int .i64 sv.Gap, .slice p sv.Machines.length c] 24), (2, .cells b_1 [.int .i64 more.From, .int .i64 more.Warm, .int .i64 more.Life.Low, .int .i64 more.Life.High, .int .i64 more.Drift] 52), (3, .cells b_2 [.int .i64 n.a0, .int .i64 n.a1, .int .i64 n.a2] 61), (4, .cells b_3 [.int .i64 (if wr (sv.Hours - rv_3) > 1 then wr (sv.Hours - rv_3) else 1), .int .i64 sv.Gap, .slice p_2 ((([] : List SpareMachine) ++ sv.Machines).set (Int.toNat rv_2) e).length c_2] 24), (5, .own none ([] : List SpareMachine).length 0 ([]) 52 5), (7, .cells b_5 [.int .i64 e.From, .int .i64 e.Warm, .int .i64 e.Life.Low, .int .i64 e.Life.High, .int .i64 e.Drift] 52)]) (D' := Dv_6) ?_ ?_
                   ·rcases bcases (rv_48.2 != 0) with hbv_79 | hbv_79
                    ·-- true
                     refine guard_on hF rfl rfl hbv_79 ?_
                     refine step hF (Y.move hF rfl) rfl fun a hF => ?_
                     refine guard_on hF rfl rfl hbv_79 ?_
                     refine step hF (Y.neq hF rfl rfl) rfl fun a hF => ?_
                     refine guard_on hF rfl rfl hbv_78 ?_
                     refine step hF (Y.pick_t hF rfl hbv_79 rfl) rfl fun a hF => ?_
                     exact nil (then_n ⟨hF.weak ⟨rfl, rfl, rfl, rfl, rfl, rfl, (by rw [hbv_79]; rfl), trivial⟩, hS.weak ⟨rfl, rfl, rfl, rfl, rfl, rfl, trivial⟩⟩)
                    ·-- false
                     refine guard_off hF rfl rfl hbv_79 rfl fun a hF => ?_
                     refine guard_off hF rfl rfl hbv_79 rfl fun a hF => ?_
                     refine guard_on hF rfl rfl hbv_78 ?_
                     refine step hF (Y.pick_f hF rfl hbv_79 rfl) rfl fun a hF => ?_
                     exact nil (then_n ⟨hF.weak ⟨rfl, rfl, rfl, rfl, rfl, rfl, (by rw [hbv_79]; rfl), trivial⟩, hS.weak ⟨rfl, rfl, rfl, rfl, rfl, rfl, trivial⟩⟩)
                   intro a w hF hS
                   refine step hF (Y.pick_f hF rfl hbv_78 rfl) rfl fun a hF => ?_
                   exact nil (then_n ⟨hF.weak ⟨rfl, rfl, rfl, rfl, rfl, (by rw [hbv_78]; rfl), trivial⟩, hS.weak ⟨rfl, rfl, rfl, rfl, rfl, rfl, trivial⟩⟩)
                 intro a w hF hS
                 refine nil (then_n ?_)
                 refine cond_b hF rfl (fun hbv_80 => ?_) (fun hbv_80 => ?_)
                 ·replace h := cond_t h hbv_80
                  refine seq ?_
                  refine region ?_
                  refine step hF (Y.assign hF rfl) rfl fun a hF => ?_
                  refine nil (then_n ?_)
                  refine ret_ (then_r ?_)
                  obtain rfl := some_inj h
                  exact leaveP Tryd.results11 hF hS (.cons (.tmp rfl) .nil) .nil rfl
                 ·as_aux_lemma =>
                   replace h := cond_f h hbv_80
                   refine skip_ (then_n ?_)
                   refine seq ?_
                   refine region ?_
                   refine step hF (Y.move hF rfl) rfl fun a hF => ?_
                   refine step hF (Y.eql hF rfl rfl) rfl fun a hF => ?_
                   refine step hF (Y.move hF rfl) rfl fun a hF => ?_
                   refine join (N := 180) (rs := []) (w0 := w0) (D0 := D0) 3 (us := [(6, .bool false), (15, .int .i64 rv_50.1), (17, .int .i64 rv_51.1), (171, .bool ((rv_50.2 == 0) && (rv_51.2 == 0)))]) (ms := [(1, .cells b [.int .i64 sv.Hours, .int .i64 sv.Gap, .slice p sv.Machines.length c] 24), (2, .cells b_1 [.int .i64 more.From, .int .i64 more.Warm, .int .i64 more.Life.Low, .int .i64 more.Life.High, .int .i64 more.Drift] 52), (3, .cells b_2 [.int .i64 n.a0, .int .i64 n.a1, .int .i64 n.a2] 61), (4, .cells b_3 [.int .i64 (if wr (sv.Hours - rv_3) > 1 then wr (sv.Hours - rv_3) else 1), .int .i64 sv.Gap, .slice p_2 ((([] : List SpareMachine) ++ sv.Machines).set (Int.toNat rv_2) e).length c_2] 24), (5, .own none ([] : List SpareMachine).length 0 ([]) 52 5), (7, .cells b_5 [.int .i64 e.From, .int .i64 e.Warm, .int .i64 e.Life.Low, .int .i64 e.Life.High, .int .i64 e.Drift] 52)]) (D' := Dv_6) ?_ ?_
                   ·rcases bcases (rv_50.2 == 0) with hbv_81 | hbv_81
                    ·-- true
                     refine guard_on hF rfl rfl hbv_81 ?_
                     refine step hF (Y.move hF rfl) rfl fun a hF => ?_
                     refine guard_on hF rfl rfl hbv_81 ?_
                     refine step hF (Y.eql hF rfl rfl) rfl fun a hF => ?_
                     refine step hF (Y.pick_t hF rfl hbv_81 rfl) rfl fun a hF => ?_
                     exact nil (then_n ⟨hF.weak ⟨rfl, rfl, rfl, (by rw [hbv_81]; rfl), trivial⟩, hS.weak ⟨rfl, rfl, rfl, rfl, rfl, rfl, trivial⟩⟩)
                    ·-- false
                     refine guard_off hF rfl rfl hbv_81 rfl fun a hF => ?_
                     refine guard_off hF rfl rfl hbv_81 rfl fun a hF => ?_
                     refine step hF (Y.pick_f hF rfl hbv_81 rfl) rfl fun a hF => ?_
                     exact nil (then_n ⟨hF.weak ⟨rfl, rfl, rfl, (by rw [hbv_81]; rfl), trivial⟩, hS.weak ⟨rfl, rfl, rfl, rfl, rfl, rfl, trivial⟩⟩)
                   intro a w hF hS
                   refine step hF (Y.move hF rfl) rfl fun a hF => ?_
                   refine join (N := 180) (rs := []) (w0 := w0) (D0 := D0) 4 (us := [(6, .bool false), (176, .bool (((rv_50.2 == 0) && (rv_51.2 == 0)) && (decide (rv_51.1 ≥ rv_50.1))))]) (ms := [(1, .cells b [.int .i64 sv.Hours, .int .i64 sv.Gap, .slice p sv.Machines.length c] 24), (2, .cells b_1 [.int .i64 more.From, .int .i64 more.Warm, .int .i64 more.Life.Low, .int .i64 more.Life.High, .int .i64 more.Drift] 52), (3, .cells b_2 [.int .i64 n.a0, .int .i64 n.a1, .int .i64 n.a2] 61), (4, .cells b_3 [.int .i64 (if wr (sv.Hours - rv_3) > 1 then wr (sv.Hours - rv_3) else 1), .int .i64 sv.Gap, .slice p_2 ((([] : List SpareMachine) ++ sv.Machines).set (Int.toNat rv_2) e).length c_2] 24), (5, .own none ([] : List SpareMachine).length 0 ([]) 52 5), (7, .cells b_5 [.int .i64 e.From, .int .i64 e.Warm, .int .i64 e.Life.Low, .int .i64 e.Life.High, .int .i64 e.Drift] 52)]) (D' := Dv_6) ?_ ?_
                   ·rcases bcases ((rv_50.2 == 0) && (rv_51.2 == 0)) with hbv_82 | hbv_82
                    ·-- true
                     refine guard_on hF rfl rfl hbv_82 ?_
                     refine step hF (Y.move hF rfl) rfl fun a hF => ?_
                     refine guard_on hF rfl rfl hbv_82 ?_
                     refine step hF (Y.move hF rfl) rfl fun a hF => ?_
                     refine guard_on hF rfl rfl hbv_82 ?_
                     refine step hF (Y.geq hF rfl rfl) rfl fun a hF => ?_
                     refine step hF (Y.pick_t hF rfl hbv_82 rfl) rfl fun a hF => ?_
                     exact nil (then_n ⟨hF.weak ⟨rfl, (by rw [hbv_82]; rfl), trivial⟩, hS.weak ⟨rfl, rfl, rfl, rfl, rfl, rfl, trivial⟩⟩)
                    ·-- false
                     refine guard_off hF rfl rfl hbv_82 rfl fun a hF => ?_
                     refine guard_off hF rfl rfl hbv_82 rfl fun a hF => ?_
                     refine guard_off hF rfl rfl hbv_82 rfl fun a hF => ?_
                     refine step hF (Y.pick_f hF rfl hbv_82 rfl) rfl fun a hF => ?_
                     exact nil (then_n ⟨hF.weak ⟨rfl, (by rw [hbv_82]; rfl), trivial⟩, hS.weak ⟨rfl, rfl, rfl, rfl, rfl, rfl, trivial⟩⟩)
                   intro a w hF hS
                   refine step hF (Y.move hF rfl) rfl fun a hF => ?_
                   obtain ⟨t_13, ht_13, h⟩ := bind_some h
                   refine join (N := 180) (rs := []) (w0 := w0) (D0 := D0) 2 (us := [(6, .bool false), (179, .bool t_13)]) (ms := [(1, .cells b [.int .i64 sv.Hours, .int .i64 sv.Gap, .slice p sv.Machines.length c] 24), (2, .cells b_1 [.int .i64 more.From, .int .i64 more.Warm, .int .i64 more.Life.Low, .int .i64 more.Life.High, .int .i64 more.Drift] 52), (3, .cells b_2 [.int .i64 n.a0, .int .i64 n.a1, .int .i64 n.a2] 61), (4, .cells b_3 [.int .i64 (if wr (sv.Hours - rv_3) > 1 then wr (sv.Hours - rv_3) else 1), .int .i64 sv.Gap, .slice p_2 ((([] : List SpareMachine) ++ sv.Machines).set (Int.toNat rv_2) e).length c_2] 24), (5, .own none ([] : List SpareMachine).length 0 ([]) 52 5), (7, .cells b_5 [.int .i64 e.From, .int .i64 e.Warm, .int .i64 e.Life.Low, .int .i64 e.Life.High, .int .i64 e.Drift] 52)]) (D' := Dv_6) ?_ ?_
                   ·rcases bcases (((rv_50.2 == 0) && (rv_51.2 == 0)) && (decide (rv_51.1 ≥ rv_50.1))) with hbv_83 | hbv_83
                    ·-- true
                     replace h := cond_t ht_13 hbv_83
                     refine guard_on hF rfl rfl hbv_83 ?_
                     obtain ⟨rv_54, hx_55, h⟩ := bind_some h
                     refine O.callP (us := []) ca_21 hF hS (remontoirlaw08_works_ok hS.stab hG rv_54 hx_55) rfl rfl fun a w hF hS => ?_
                     refine step hF (Y.pick_t hF rfl hbv_83 rfl) rfl fun a hF => ?_
                     obtain rfl := some_inj h
                     exact nil (then_n ⟨hF.weak ⟨rfl, rfl, trivial⟩, hS.weak ⟨rfl, rfl, rfl, rfl, rfl, rfl, trivial⟩⟩)
                    ·-- false
                     replace h := cond_f ht_13 hbv_83
                     refine guard_off hF rfl rfl hbv_83 rfl fun a hF => ?_
                     refine step hF (Y.pick_f hF rfl hbv_83 rfl) rfl fun a hF => ?_
                     obtain rfl := some_inj h
                     exact nil (then_n ⟨hF.weak ⟨rfl, rfl, trivial⟩, hS.weak ⟨rfl, rfl, rfl, rfl, rfl, rfl, trivial⟩⟩)
                   intro a w hF hS
                   refine step hF (Y.assign hF rfl) rfl fun a hF => ?_
                   refine nil (then_n ?_)
                   refine ret_ ?_
                   obtain rfl := some_inj h
                   exact leaveP Tryd.results11 hF hS (.cons (.tmp rfl) .nil) .nil rfl

end Go.Proofs.YtidmdgjgpmeecaaDoor.Rt
