/- Walks of the functions of this seat: what each Go function comes to, as a Lean function, and the proof. Part WB3. Under no conditions. -/
import Derived.Test.YthdbokigcfbgeaaDoorC14WB2
set_option linter.unusedVariables false
set_option linter.unusedSimpArgs false
set_option maxRecDepth 100000
set_option maxHeartbeats 4000000
namespace Go.Proofs.YthdbokigcfbgeaaDoor.Rt
open Go Go.RowKit
noncomputable def line_opened_1_y1 (atv : Int) (way : (List Int)) (met : (List Bool)) (cv : line_net) (cv_1 : LineNet) (self_ : Int → (List Int) → (List Bool) → line_net → LineNet → Option (List (line_kind × (List (List Int))))) (xy : (Int × Int)) : (List (line_kind × (List (List Int)))) → Option (List (line_kind × (List (List Int))))
 | mp =>
  if (0 : Int) ≤ xy.2 ∧ xy.2 < ((7 : Nat) : Int) then
  cond ((met.set (Int.toNat atv) true).getD (Int.toNat xy.2) false)
  (some mp)
  (if way.length + ([xy.1]).length ≤ lim then
  (self_ xy.2 (way ++ [xy.1]) (met.set (Int.toNat atv) true) (line_net.mk cv.LineNet mp cv.left) cv_1).bind fun rv_1 =>
  some rv_1
  else none)
  else none
noncomputable def line_opened_1_step (self_ : Int → (List Int) → (List Bool) → line_net → LineNet → Option (List (line_kind × (List (List Int))))) (atv : Int) (way : (List Int)) (met : (List Bool)) (cv : line_net) (cv_1 : LineNet) : Option (List (line_kind × (List (List Int)))) :=
  cond ((met == (List.replicate 7 false)) && (atv != 0))
  (some cv.ways)
  (if (0 : Int) ≤ atv ∧ atv < ((7 : Nat) : Int) then
  if ((mget kl_115 cv.ways (line_kind.mk atv (way.length : Int))).getD []).length + ([way]).length ≤ lim then
  cond ((way.length : Int) == cv_1.Hops)
  (some (mput kl_115 cv.ways (line_kind.mk atv (way.length : Int)) (((mget kl_115 cv.ways (line_kind.mk atv (way.length : Int))).getD []) ++ [way])))
  ((line_net_leave (line_net.mk cv.LineNet (mput kl_115 cv.ways (line_kind.mk atv (way.length : Int)) (((mget kl_115 cv.ways (line_kind.mk atv (way.length : Int))).getD []) ++ [way])) cv.left) atv).bind fun rv =>
  (line_net_leave_1 (line_opened_1_y1 atv way met cv cv_1 self_) rv.1 rv.2 (mput kl_115 cv.ways (line_kind.mk atv (way.length : Int)) (((mget kl_115 cv.ways (line_kind.mk atv (way.length : Int))).getD []) ++ [way]))).bind fun so =>
  some so)
  else none
  else none)
theorem line_opened_1_step_ok {wb w0 : World} {Db D0 : Stab} {Sx : List Nat} {hpx : Nat → Option Obj} (self_ : Int → (List Int) → (List Bool) → line_net → LineNet → Option (List (line_kind × (List (List Int))))) (hself : ∀ {wb w0 : World} {Db D0 : Stab} {Sx : List Nat} {hpx : Nat → Option Obj} (atv : Int) (way : (List Int)) (met : (List Bool)) (cv : line_net) (cv_1 : LineNet) {p : Option Addr} {c : Nat} {p_1 : Option Addr} {c_1 : Nat} {p_2 : Option Addr} {c_2 : Nat} {bb_1 : Nat} {es : Array MapEntry} {clk : Nat} {ogS : List Nat} {ogh : Nat → Option Obj} {bb : Nat} {p_3 : Option Addr} {c_3 : Nat} {p_4 : Option Addr} {c_4 : Nat} {bb_2 : Nat} {bb_3 : Nat} (hs : SRc C_int D0 way p c) (hn : met.length = 7) (hs_1 : SRc C_LineLine D0 cv.LineNet.Lines p_1 c_1) (hs_2 : SRc C_LineLoop D0 cv.LineNet.Loops p_2 c_2) (hm_1 : OMR kl_115 (C_sl C_int) 32 D0 cv.ways es clk ogS ogh) (hs_3 : SRc C_LineLine D0 cv_1.Lines p_3 c_3) (hs_4 : SRc C_LineLoop D0 cv_1.Loops p_4 c_4) (hbv : D0 bb = some (.cells ([.int .i64 cv.LineNet.Exchanges, .slice p_1 cv.LineNet.Lines.length c_1, .int .i64 cv.LineNet.Hops, .slice p_2 cv.LineNet.Loops.length c_2, .map (some bb_1), .int .i64 cv.left]).toArray 85 (0, 0))) (hbv_1 : D0 bb_2 = some (.cells ([.int .i64 cv_1.Exchanges, .slice p_3 cv_1.Lines.length c_3, .int .i64 cv_1.Hops, .slice p_4 cv_1.Loops.length c_4]).toArray 25 (0, 0))) (hbv_2 : D0 bb_3 = some (.cells ([.func (.func 88) #[] #[.pointer (some ⟨bb, 0, none⟩), .pointer (some ⟨bb_2, 0, none⟩), .pointer (some ⟨bb_3, 0, none⟩)]]).toArray 111 (0, 0))) (hG : Glob D0) (hS0 : St wb Db D0 [(1, .obj bb_1 (.map es clk)), (2, .snap ogS ogh), (0, .snap Sx hpx)] w0) (out : (List (line_kind × (List (List Int))))) (h : self_ atv way met cv cv_1 = some out), Calls Tryd.prog 88 [.int .i64 atv, .slice p way.length c, .agg (arr celB met).toArray, .pointer (some ⟨bb, 0, none⟩), .pointer (some ⟨bb_2, 0, none⟩), .pointer (some ⟨bb_3, 0, none⟩)].toArray w0 (RetM D0 fun D w v => ∃ (es1 : Array MapEntry) (ck1 : Nat) (S1 : List Nat) (hp1 : Nat → Option Obj), St wb Db D [(1, .obj bb_1 (.map es1 ck1)), (2, .snap S1 hp1), (0, .snap Sx hpx)] w ∧ v = .tuple #[] ∧ OMR kl_115 (C_sl C_int) 32 D out es1 ck1 S1 hp1)) (atv : Int) (way : (List Int)) (met : (List Bool)) (cv : line_net) (cv_1 : LineNet) {p : Option Addr} {c : Nat} {p_1 : Option Addr} {c_1 : Nat} {p_2 : Option Addr} {c_2 : Nat} {bb_1 : Nat} {es : Array MapEntry} {clk : Nat} {ogS : List Nat} {ogh : Nat → Option Obj} {bb : Nat} {p_3 : Option Addr} {c_3 : Nat} {p_4 : Option Addr} {c_4 : Nat} {bb_2 : Nat} {bb_3 : Nat} (hs : SRc C_int D0 way p c) (hn : met.length = 7) (hs_1 : SRc C_LineLine D0 cv.LineNet.Lines p_1 c_1) (hs_2 : SRc C_LineLoop D0 cv.LineNet.Loops p_2 c_2) (hm_1 : OMR kl_115 (C_sl C_int) 32 D0 cv.ways es clk ogS ogh) (hs_3 : SRc C_LineLine D0 cv_1.Lines p_3 c_3) (hs_4 : SRc C_LineLoop D0 cv_1.Loops p_4 c_4) (hbv : D0 bb = some (.cells ([.int .i64 cv.LineNet.Exchanges, .slice p_1 cv.LineNet.Lines.length c_1, .int .i64 cv.LineNet.Hops, .slice p_2 cv.LineNet.Loops.length c_2, .map (some bb_1), .int .i64 cv.left]).toArray 85 (0, 0))) (hbv_1 : D0 bb_2 = some (.cells ([.int .i64 cv_1.Exchanges, .slice p_3 cv_1.Lines.length c_3, .int .i64 cv_1.Hops, .slice p_4 cv_1.Loops.length c_4]).toArray 25 (0, 0))) (hbv_2 : D0 bb_3 = some (.cells ([.func (.func 88) #[] #[.pointer (some ⟨bb, 0, none⟩), .pointer (some ⟨bb_2, 0, none⟩), .pointer (some ⟨bb_3, 0, none⟩)]]).toArray 111 (0, 0))) (hG : Glob D0) (hS0 : St wb Db D0 [(1, .obj bb_1 (.map es clk)), (2, .snap ogS ogh), (0, .snap Sx hpx)] w0) (out : (List (line_kind × (List (List Int))))) (h : line_opened_1_step self_ atv way met cv cv_1 = some out) : Calls Tryd.prog 88 [.int .i64 atv, .slice p way.length c, .agg (arr celB met).toArray, .pointer (some ⟨bb, 0, none⟩), .pointer (some ⟨bb_2, 0, none⟩), .pointer (some ⟨bb_3, 0, none⟩)].toArray w0 (RetM D0 fun D w v => ∃ (es1 : Array MapEntry) (ck1 : Nat) (S1 : List Nat) (hp1 : Nat → Option Obj), St wb Db D [(1, .obj bb_1 (.map es1 ck1)), (2, .snap S1 hp1), (0, .snap Sx hpx)] w ∧ v = .tuple #[] ∧ OMR kl_115 (C_sl C_int) 32 D out es1 ck1 S1 hp1) := by
 refine enter _ 60 Tryd.func88 rfl Tryd.ntmps88 rfl fun a hF => ?_
 replace hF : Frm 60 [] [(0, .int .i64 atv), (1, .slice p way.length c), (2, .agg (arr celB met).toArray), (3, .pointer (some ⟨bb, 0, none⟩)), (4, .pointer (some ⟨bb_2, 0, none⟩)), (5, .pointer (some ⟨bb_3, 0, none⟩))] a := hF
 have hS := hS0
 replace hS := hS.noMarks 6
 unfold line_opened_1_step at h
 refine seq (region (O.box (cs := [.slice p way.length c]) 7 hF rfl rfl hS rfl fun b a w hF hS => O.box (cs := (arr celB met)) 8 hF rfl rfl hS rfl fun b_1 a w hF hS => nil (then_n (scope_ (seq (seq (region (step hF (Y.loadA (F := celB) 8 sz_113 hn hF rfl hS rfl) rfl fun a hF => step hF (Y.build (parts := []) (cs := (arr celB (List.replicate 7 false)).toArray) hF rfl (by kernel_rfl)) rfl fun a hF => step hF (Y.eqst (fun w => run_equal_arr (F := celB) u_113 sz_4 (fun D x y w => eqB u_4 D x y w) hn List.length_replicate) (fun w => run_eqGuard_agg _ _ _ _ _ _ _ eg_113) hF rfl rfl) rfl fun a hF => step hF (Y.move hF rfl) rfl fun a hF => join (N := 60) (rs := []) (w0 := wb) (D0 := Db) 3 (us := [(0, .int .i64 atv), (3, .pointer (some ⟨bb, 0, none⟩)), (4, .pointer (some ⟨bb_2, 0, none⟩)), (5, .pointer (some ⟨bb_3, 0, none⟩)), (7, .pointer (some ⟨b, 0, none⟩)), (8, .pointer (some ⟨b_1, 0, none⟩)), (18, .bool ((met == (List.replicate 7 false)) && (atv != 0)))]) (ms := [(1, .obj bb_1 (.map es clk)), (2, .snap ogS ogh), (7, .cells b [.slice p way.length c] 32), (8, .cells b_1 (arr celB met) 113), (0, .snap Sx hpx), (6, .marks [])]) (D' := D0) ?_ ?_))))))))
 ·rcases bcases (met == (List.replicate 7 false)) with hbv_3 | hbv_3
  ·skip
   refine guard_on hF rfl rfl hbv_3 (step hF (Y.move hF rfl) rfl fun a hF => guard_on hF rfl rfl hbv_3 (step hF (Y.neq hF rfl rfl) rfl fun a hF => step hF (Y.pick_t hF rfl hbv_3 rfl) rfl fun a hF => nil (then_n ⟨hF.weak ⟨rfl, rfl, rfl, rfl, rfl, rfl, (by rw [hbv_3]; rfl), trivial⟩, hS.weak ⟨rfl, rfl, rfl, rfl, rfl, rfl, trivial⟩⟩)))
  refine guard_off hF rfl rfl hbv_3 rfl fun a hF => guard_off hF rfl rfl hbv_3 rfl fun a hF => step hF (Y.pick_f hF rfl hbv_3 rfl) rfl fun a hF => nil (then_n ⟨hF.weak ⟨rfl, rfl, rfl, rfl, rfl, rfl, (by rw [hbv_3]; rfl), trivial⟩, hS.weak ⟨rfl, rfl, rfl, rfl, rfl, rfl, trivial⟩⟩)
 intro a w hF hS
 refine nil (then_n (cond_b hF rfl (fun hbv_4 => ?_) (fun hbv_4 => ?_)))
 ·replace h := cond_t h hbv_4
  refine ret_ (then_r (scp_r ?_))
  obtain rfl := some_inj h
  exact leaveM (ms := [(1, .obj bb_1 (.map es clk)), (2, .snap ogS ogh), (0, .snap Sx hpx)]) Tryd.results88 hF hS .nil (.inr ⟨6, rfl, rfl⟩) ⟨rfl, rfl, rfl, trivial⟩ (Stab.le.refl _) fun w hS => ⟨_, _, _, _, hS, rfl, hm_1⟩
 replace h := cond_f h hbv_4
 refine skip_ (then_n (seq (region (step hF (Y.move hF rfl) rfl fun a hF => ?_))))
 obtain ⟨hg, h⟩ := ite_some h
 refine step hF (Y.indexArr u_113 sz_4 hF rfl rfl hg.1 hg.2) rfl fun a hF => O.storeA (F := celB) (u := true) 8 sz_4 hn hg hF rfl rfl hS rfl fun a w hF hS => nil (then_n (seq (region (step hF (Y.move hF rfl) rfl fun a hF => step hF (Y.load1L 7 sz_32 hF rfl hS rfl rfl) rfl fun a hF => step hF (Y.lenSl u_32 hF rfl) rfl fun a hF => step hF (Y.build (parts := [(0, (.tmp 21)), (1, (.tmp 23))]) (cs := #[.int .i64 atv, .int .i64 (way.length : Int)]) hF rfl (by kernel_rfl)) rfl fun a hF => O.alloc 9 zc_115 hF hS rfl fun b_2 a w hF hS => O.store (us := [.int .i64 atv, .int .i64 (way.length : Int)]) 9 sz_115 hF rfl rfl rfl rfl hS rfl rfl fun a w hF hS => nil (then_n (seq (region (step hF (Y.fieldAddr fo_85_1 hF rfl) rfl fun a hF => step hF (Y.load1H sz_83 hF rfl (hS.stab _ _ hbv) rfl) rfl fun a hF => step hF (Y.loadNL 9 sz_115 hF rfl hS rfl rfl rfl) rfl fun a hF => step hF (Y.load1L 7 sz_32 hF rfl hS rfl rfl) rfl fun a hF => ?_))))))))
 have hr : Reps (C_sl C_int) D0 [way] [.slice p way.length c] := Reps.cons (C := (C_sl C_int)) (x := way) (c := [.slice p way.length c]) (r := []) (⟨_, _, rfl, hs⟩) (Reps.nil)
 refine O.buildSlice (E := 32) (C := (C_sl C_int)) (xs := [way]) (cs := [.slice p way.length c]) (us := [.slice p way.length c]) (parts := [(0, (.tmp 29))]) 10 hF hS rfl (by kernel_rfl) hr rfl rfl rfl fun p_5 c_5 a w hF hS => O.mapEntryOM (kl := kl_115) (C := (C_sl C_int)) (E := 32) (x := (.tmp 26)) (y := (.tmp 27)) 1 2 11 (by decide) (by decide) (by decide) mt_83 (fun _ => rfl) (line_kind.mk atv (way.length : Int)) hm_1 hF rfl rfl hS rfl rfl rfl fun es_1 clk_1 stp p_6 c_6 cs ogS_1 hds a w hF hS hr_1 hK hO => step hF (Y.extract hF rfl rfl) rfl fun a hF => ?_
 obtain ⟨hg_1, h⟩ := ite_some h
 refine O.append (C := (C_sl C_int)) (xs := ((mget kl_115 cv.ways (line_kind.mk atv (way.length : Int))).getD [])) (ys := [way]) 11 gr_26 hF rfl rfl hS rfl (src_own (i := 10) hS rfl) hr_1 hr hg_1 rfl fun p_7 c_7 a w hF hS hr_2 => step hF (Y.extract hF rfl rfl) rfl fun a hF => ?_
 have hne : (((mget kl_115 cv.ways (line_kind.mk atv (way.length : Int))).getD []) ++ [way]) ≠ [] := by simp
 refine O.entryStoreOM (kl := kl_115) (x := (.tmp 26)) (y := (.tmp 33)) (u := (.tmp 32)) 1 2 11 (by decide) (by decide) (by decide) hK hO hr_2 hne hF rfl rfl rfl hS rfl rfl rfl fun es_2 ogS_2 ogh_1 a w hF hS hm_2 => nil (then_n (seq (seq (region (step hF (Y.load1L 7 sz_32 hF rfl hS rfl rfl) rfl fun a hF => step hF (Y.lenSl u_32 hF rfl) rfl fun a hF => step hF (Y.fieldAddr fo_25_2 hF rfl) rfl fun a hF => step hF (Y.load1H sz_3 hF rfl (hS.stab _ _ hbv_1) rfl) rfl fun a hF => step hF (Y.eql hF rfl rfl) rfl fun a hF => nil (then_n (cond_b hF rfl (fun hbv_5 => ?_) (fun hbv_5 => ?_))))))))
 ·replace h := cond_t h hbv_5
  refine ret_ (then_r (scp_r ?_))
  obtain rfl := some_inj h
  exact leaveM (ms := [(1, .obj bb_1 (.map es_2 clk_1)), (2, .snap ogS_2 ogh_1), (0, .snap Sx hpx)]) Tryd.results88 hF hS .nil (.inr ⟨6, rfl, rfl⟩) ⟨rfl, rfl, rfl, trivial⟩ (Stab.le.refl _) fun w hS => ⟨_, _, _, _, hS, rfl, hm_2⟩
 replace h := cond_f h hbv_5
 refine skip_ (then_n (seq (label_ (then_n (seq (region (step hF (Y.loadNH sz_85 hF rfl (hS.stab _ _ hbv) rfl rfl) rfl fun a hF => step hF (Y.move hF rfl) rfl fun a hF => ?_)))))))
 obtain ⟨rv, hx, h⟩ := bind_some h
 refine O.callS (us := [.agg #[.int .i64 cv.LineNet.Exchanges, .slice p_1 cv.LineNet.Lines.length c_1, .int .i64 cv.LineNet.Hops, .slice p_2 cv.LineNet.Loops.length c_2, .map (some bb_1), .int .i64 cv.left], .int .i64 atv]) ca_89 hF hS (line_net_leave_ok hS.stab (line_net.mk cv.LineNet (mput kl_115 cv.ways (line_kind.mk atv (way.length : Int)) (((mget kl_115 cv.ways (line_kind.mk atv (way.length : Int))).getD []) ++ [way])) cv.left) atv hs_1 hs_2 rv hx) rfl rfl fun v Dv a w hR hlev hF hS => ?_
 replace hbv := hlev _ _ hbv
 replace hbv_1 := hlev _ _ hbv_1
 replace hbv_2 := hlev _ _ hbv_2
 replace hs := hs.mono hlev
 replace hs_1 := hs_1.mono hlev
 replace hs_2 := hs_2.mono hlev
 replace hs_3 := hs_3.mono hlev
 replace hs_4 := hs_4.mono hlev
 replace hG := hG.mono hlev
 replace hm_2 := hm_2.mono hlev
 obtain ⟨bb_4, bb_5, p_8, c_8, p_9, c_9, bm_1, rfl, hbv_6, hbv_7, hs_5, hs_6⟩ := hR
 refine nil (then_n (block ?_))
 replace hF := hF.weak (us := [(5, .pointer (some ⟨bb_3, 0, none⟩)), (7, .pointer (some ⟨b, 0, none⟩)), (8, .pointer (some ⟨b_1, 0, none⟩)), (41, .func (.func 98) #[] #[.pointer (some ⟨bb_4, 0, none⟩), .pointer (some ⟨bb_5, 0, none⟩)])]) ⟨rfl, rfl, rfl, rfl, trivial⟩
 obtain ⟨so, hx_2, h⟩ := bind_some h
 have hsz := hF.size
 have hgt := hF.get
 refine range_cut (first := []) (cap := [.pointer (some ⟨bb_4, 0, none⟩), .pointer (some ⟨bb_5, 0, none⟩)]) (K := fun m lp R w => ∃ D ms, Dv.le D ∧ (fun (mp : (List (line_kind × (List (List Int))))) D ms => ∃ es_3 clk_2 ogS_3 ogh_2, ms = [(14, .obj lp R), (1, .obj bb_1 (.map es_3 clk_2)), (2, .snap ogS_3 ogh_2), (7, .cells b [.slice p way.length c] 32), (8, .cells b_1 (arr celB (met.set (Int.toNat atv) true)) 113), (9, .cells b_2 [.int .i64 atv, .int .i64 (way.length : Int)] 115), (10, .own p_5 ([way]).length c_5 ([.slice p way.length c]) 32 1), (0, .snap Sx hpx), (6, .marks (m :: []))] ∧ OMR kl_115 (C_sl C_int) 32 D mp es_3 clk_2 ogS_3 ogh_2) so D ms ∧ St wb Db D ms w) 6 14 (by decide) ca_98 hF hS rfl rfl (fun fn m lp R hR w hS => ?_) (fun m lp R w hK => ?_)
 ·refine line_net_leave_1_it (Inv := fun (mp : (List (line_kind × (List (List Int))))) D ms => ∃ es_3 clk_2 ogS_3 ogh_2, ms = [(14, .obj lp R), (1, .obj bb_1 (.map es_3 clk_2)), (2, .snap ogS_3 ogh_2), (7, .cells b [.slice p way.length c] 32), (8, .cells b_1 (arr celB (met.set (Int.toNat atv) true)) 113), (9, .cells b_2 [.int .i64 atv, .int .i64 (way.length : Int)] 115), (10, .own p_5 ([way]).length c_5 ([.slice p way.length c]) 32 1), (0, .snap Sx hpx), (6, .marks (m :: []))] ∧ OMR kl_115 (C_sl C_int) 32 D mp es_3 clk_2 ogS_3 ogh_2) (yield_ := line_opened_1_y1 atv way met cv cv_1 self_) ?_ ?_ lp rv.1 rv.2 hs_5 hs_6 hbv_6 hbv_7 hG (mput kl_115 cv.ways (line_kind.mk atv (way.length : Int)) (((mget kl_115 cv.ways (line_kind.mk atv (way.length : Int))).getD []) ++ [way])) so ?_ hx_2 (ms := [(14, .obj lp R), (1, .obj bb_1 (.map es_2 clk_1)), (2, .snap ogS_2 ogh_1), (7, .cells b [.slice p way.length c] 32), (8, .cells b_1 (arr celB (met.set (Int.toNat atv) true)) 113), (9, .cells b_2 [.int .i64 atv, .int .i64 (way.length : Int)] 115), (10, .own p_5 ([way]).length c_5 ([.slice p way.length c]) 32 1), (0, .snap Sx hpx), (6, .marks (m :: []))]) ⟨es_2, clk_1, ogS_2, ogh_1, rfl, hm_2⟩ (hS.weak ⟨rfl, rfl, rfl, rfl, rfl, rfl, rfl, rfl, rfl, trivial⟩)
  ·rintro s D ms ⟨_, _, _, _, rfl, z0⟩; exact small_lt rfl
  ·rintro s D ms D2 ⟨_, _, _, _, rfl, z0⟩ hle; exact ⟨_, _, _, _, rfl, z0.mono hle⟩
  rintro xy mp s2 Dv_1 ms w h hlev_1 ⟨es_3, clk_2, ogS_3, ogh_2, rfl, hm_3⟩ hS
  unfold line_opened_1_y1 at h
  dsimp only at h
  refine round_cut2 14 hsz hgt rfl rfl hS rfl hR fun R2 a hF => ?_
  replace hbv := hlev_1 _ _ hbv
  replace hbv_1 := hlev_1 _ _ hbv_1
  replace hbv_2 := hlev_1 _ _ hbv_2
  replace hs := hs.mono hlev_1
  replace hs_1 := hs_1.mono hlev_1
  replace hs_2 := hs_2.mono hlev_1
  replace hs_3 := hs_3.mono hlev_1
  replace hs_4 := hs_4.mono hlev_1
  replace hG := hG.mono hlev_1
  replace hbv_6 := hlev_1 _ _ hbv_6
  replace hbv_7 := hlev_1 _ _ hbv_7
  refine seq (region (step hF (Y.assign hF rfl) rfl fun a hF => nil (then_n (region (step hF (Y.assign hF rfl) rfl fun a hF => nil (then_n (⟨_, _, hS, rfl, fun w hS => ?_⟩)))))))
  refine block (seq (seq (region (step hF (Y.move hF rfl) rfl fun a hF => ?_))))
  obtain ⟨hg_2, h⟩ := ite_some h
  refine step hF (Y.indexArr u_113 sz_4 hF rfl rfl hg_2.1 hg_2.2) rfl fun a hF => step hF ((show Yields _ _ _ _ (.bool ((met.set (Int.toNat atv) true).getD (Int.toNat xy.2) false)) from Y.load1A (F := celB) 8 false sz_4 ((List.length_set).trans hn) hg_2 hF rfl hS rfl)) rfl fun a hF => nil (then_n (cond_b hF rfl (fun hbv_8 => ?_) (fun hbv_8 => ?_)))
  ·replace h := cond_t h hbv_8
   refine exit_ (then_x (blk_hit (then_n ?_)))
   obtain rfl := some_inj h
   refine ⟨_, _, hS, rfl, fun w hS => ⟨Dv_1, _, Stab.le.refl _, ⟨es_3, clk_2, ogS_3, ogh_2, rfl, hm_3⟩, hS.weak ⟨rfl, rfl, rfl, rfl, rfl, rfl, rfl, rfl, rfl, trivial⟩⟩⟩
  replace h := cond_f h hbv_8
  refine skip_ (then_n ?_)
  obtain ⟨hg_3, h⟩ := ite_some h
  refine drawsV 12 (.flt 0 (.flt 1 (.flt 2 (.flt 3 (.flt 4 (.flt 5 (.flt 6 (.flt 7 (.flt 8 (.flt 11 (.alt 9 (.alt 10 .done .stop) .stop))))))))))) mixed_ (by kernel_rfl) (fun w => St wb Db Dv_1 [(1, .obj bb_1 (.map es_3 clk_2)), (2, .snap ogS_3 ogh_2), (7, .cells b [.slice p way.length c] 32), (8, .cells b_1 (arr celB (met.set (Int.toNat atv) true)) 113), (9, .cells b_2 [.int .i64 atv, .int .i64 (way.length : Int)] 115), (10, .own p_5 ([way]).length c_5 ([.slice p way.length c]) 32 1), (0, .snap Sx hpx), (14, .obj lp R2), (6, .marks (m :: []))] w) (fun a w => ∃ (p_11 : Option Addr) (c_11 : Nat) (p_10 : Option Addr) (c_10 : Nat) (cs_1 : List Value), Frm 60 [] [(47, .func (.func 88) #[] #[.pointer (some ⟨bb, 0, none⟩), .pointer (some ⟨bb_2, 0, none⟩), .pointer (some ⟨bb_3, 0, none⟩)]), (48, .int .i64 xy.2), (57, .slice p_11 (way ++ [xy.1]).length c_11), (58, .agg (arr celB (met.set (Int.toNat atv) true)).toArray)] a ∧ St wb Db Dv_1 [(1, .obj bb_1 (.map es_3 clk_2)), (2, .snap ogS_3 ogh_2), (7, .cells b [.slice p way.length c] 32), (8, .cells b_1 (arr celB (met.set (Int.toNat atv) true)) 113), (9, .cells b_2 [.int .i64 atv, .int .i64 (way.length : Int)] 115), (10, .own p_5 ([way]).length c_5 ([.slice p way.length c]) 32 1), (15, .own p_10 ([xy.1]).length c_10 ([.int .i64 xy.1]) 3 1), (16, .own p_11 (way ++ [xy.1]).length c_11 cs_1 3 1), (0, .snap Sx hpx), (14, .obj lp R2), (6, .marks (m :: []))] w ∧ (met.set (Int.toNat atv) true).length = 7 ∧ Reps C_int Dv_1 ([xy.1]) ([.int .i64 xy.1]) ∧ Reps C_int Dv_1 (way ++ [xy.1]) cs_1) (hS.weak (ms := [(1, .obj bb_1 (.map es_3 clk_2)), (2, .snap ogS_3 ogh_2), (7, .cells b [.slice p way.length c] 32), (8, .cells b_1 (arr celB (met.set (Int.toNat atv) true)) 113), (9, .cells b_2 [.int .i64 atv, .int .i64 (way.length : Int)] 115), (10, .own p_5 ([way]).length c_5 ([.slice p way.length c]) 32 1), (0, .snap Sx hpx), (14, .obj lp R2), (6, .marks (m :: []))]) ⟨rfl, rfl, rfl, rfl, rfl, rfl, rfl, rfl, rfl, trivial⟩).drew (fun _ _ _ _ h => h) ?_ ?_
  ·replace hS := hS.drew
   have hle0 := hS.le
   refine stepV (i := 0) rfl hF (fun w hS => Y.load1H sz_111 hF rfl (hS.stab _ _ hbv_2) rfl) rfl fun a hF => stepV (i := 1) rfl hF (fun w hS => Y.move hF rfl) rfl fun a hF => stepV (i := 2) rfl hF (fun w hS => Y.load1L 7 sz_32 hF rfl hS rfl rfl) rfl fun a hF => stepV (i := 3) rfl hF (fun w hS => Y.load1L 7 sz_32 hF rfl hS rfl rfl) rfl fun a hF => stepV (i := 4) rfl hF (fun w hS => Y.lenSl u_32 hF rfl) rfl fun a hF => stepV (i := 5) rfl hF (fun w hS => Y.load1L 7 sz_32 hF rfl hS rfl rfl) rfl fun a hF => stepV (i := 6) rfl hF (fun w hS => Y.lenSl u_32 hF rfl) rfl fun a hF => stepV (i := 7) rfl hF (fun w hS => Y.slice3 u_32 sz_3 hF rfl rfl rfl hs.2) rfl fun a hF => stepV (i := 8) rfl hF (fun w hS => Y.move hF rfl) rfl fun a hF => stepV (i := 11) rfl hF (fun w hS => Y.loadA (F := celB) 8 sz_113 ((List.length_set).trans hn) hF rfl hS rfl) rfl fun a hF => oneV (i := 9) rfl ?_ trivial
   have hr_5 : Reps C_int Dv_1 [xy.1] [.int .i64 xy.1] := Reps.cons (C := C_int) (x := xy.1) (c := [.int .i64 xy.1]) (r := []) rfl (Reps.nil)
   refine O.buildSlice (E := 3) (C := C_int) (xs := [xy.1]) (cs := [.int .i64 xy.1]) (us := [.int .i64 xy.1]) (parts := [(0, (.tmp 55))]) 15 hF hS rfl (by kernel_rfl) hr_5 rfl rfl rfl fun p_12 c_12 a w hF hS => nil (then_n ⟨hS.weak ⟨rfl, rfl, rfl, rfl, rfl, rfl, rfl, rfl, rfl, trivial⟩, ?_⟩)
   refine oneV (i := 10) rfl ?_ trivial
   refine O.appendS (C := C_int) (xs := way) (ys := [xy.1]) 16 gr_32 hF rfl rfl hS ((⟨hs.1, Nat.le_refl _⟩ : SRc _ _ _ _ _)).1 (src_own (i := 15) hS rfl) hr_5 (Nat.succ_pos _) hg_3 rfl fun p_13 c_13 cs_2 a w hF hS hr_6 => nil (then_n ⟨hS.weak ⟨rfl, rfl, rfl, rfl, rfl, rfl, rfl, rfl, rfl, trivial⟩, ?_⟩)
   exact toTailV ⟨p_13, c_13, p_12, c_12, cs_2, hF.weak ⟨rfl, rfl, rfl, rfl, trivial⟩, hS.weak ⟨rfl, rfl, rfl, rfl, rfl, rfl, rfl, rfl, rfl, rfl, rfl, trivial⟩, ((List.length_set).trans hn), hr_5, hr_6⟩
  rintro a w ⟨p_11, c_11, p_10, c_10, cs_1, hF, hS, hj, hj_1, hj_2⟩
  obtain ⟨Dv_2, hlev_2, hs_7, hS⟩ := hS.freezeC (C := C_int) (i := 16) (xs := (way ++ [xy.1])) rfl hj_2
  replace hbv := hlev_2 _ _ hbv
  replace hbv_1 := hlev_2 _ _ hbv_1
  replace hbv_2 := hlev_2 _ _ hbv_2
  replace hs_1 := hs_1.mono hlev_2
  replace hs_2 := hs_2.mono hlev_2
  replace hs_3 := hs_3.mono hlev_2
  replace hs_4 := hs_4.mono hlev_2
  replace hG := hG.mono hlev_2
  replace hbv_6 := hlev_2 _ _ hbv_6
  replace hbv_7 := hlev_2 _ _ hbv_7
  replace hm_3 := hm_3.mono hlev_2
  obtain ⟨rv_1, hx_1, h⟩ := bind_some h
  refine O.callVM (f := 88) (first := []) (cap := [.pointer (some ⟨bb, 0, none⟩), .pointer (some ⟨bb_2, 0, none⟩), .pointer (some ⟨bb_3, 0, none⟩)]) (us := [.int .i64 xy.2, .slice p_11 (way ++ [xy.1]).length c_11, .agg (arr celB (met.set (Int.toNat atv) true)).toArray]) ca_88 hF rfl rfl (hself xy.2 (way ++ [xy.1]) (met.set (Int.toNat atv) true) (line_net.mk cv.LineNet mp cv.left) cv_1 hs_7 hj hs_1 hs_2 hm_3 hs_3 hs_4 hbv hbv_1 hbv_2 hG (hS.lend2 (i := 1) (j := 2) rfl rfl (by decide)) rv_1 hx_1) rfl fun v_1 Dv_3 a w hR_1 hlev_3 hF => ?_
  replace hbv := hlev_3 _ _ hbv
  replace hbv_1 := hlev_3 _ _ hbv_1
  replace hbv_2 := hlev_3 _ _ hbv_2
  replace hbv_6 := hlev_3 _ _ hbv_6
  replace hbv_7 := hlev_3 _ _ hbv_7
  obtain ⟨es_4, clk_3, ogS_4, ogh_3, hS2_0, rfl, hm_4⟩ := hR_1
  replace hS := hS.back2 (i := 1) (j := 2) rfl rfl (by decide) hS2_0
  refine nil (blk_n (then_n ?_))
  obtain rfl := some_inj h
  refine ⟨_, _, hS, rfl, fun w hS => ⟨Dv_3, _, hlev_2.trans hlev_3, ⟨es_4, clk_3, ogS_4, ogh_3, rfl, hm_4⟩, hS.weak ⟨rfl, rfl, rfl, rfl, rfl, rfl, rfl, rfl, rfl, trivial⟩⟩⟩
 obtain ⟨Dv_1, ms, hlev_4, ⟨es_3, clk_2, ogS_3, ogh_2, rfl, hm_3⟩, hS⟩ := hK
 refine ⟨Dv_1, _, hS, rfl, fun a w hF hS => ?_⟩
 replace hbv := hlev_4 _ _ hbv
 replace hbv_1 := hlev_4 _ _ hbv_1
 replace hbv_2 := hlev_4 _ _ hbv_2
 replace hbv_6 := hlev_4 _ _ hbv_6
 replace hbv_7 := hlev_4 _ _ hbv_7
 refine blk_n (scp_n ?_)
 obtain rfl := some_inj h
 exact leaveM (ms := [(1, .obj bb_1 (.map es_3 clk_2)), (2, .snap ogS_3 ogh_2), (0, .snap Sx hpx)]) Tryd.results88 hF hS .nil (.inr ⟨6, rfl, rfl⟩) ⟨rfl, rfl, rfl, trivial⟩ (hlev.trans hlev_4) fun w hS => ⟨_, _, _, _, hS, rfl, hm_3⟩
noncomputable def line_opened_1_n : Nat → Int → (List Int) → (List Bool) → line_net → LineNet → Option (List (line_kind × (List (List Int))))
 | 0 => fun _ _ _ _ _ => none
 | n + 1 => line_opened_1_step (line_opened_1_n n)
theorem line_opened_1_n_ok : ∀ n, ∀ {wb w0 : World} {Db D0 : Stab} {Sx : List Nat} {hpx : Nat → Option Obj} (atv : Int) (way : (List Int)) (met : (List Bool)) (cv : line_net) (cv_1 : LineNet) {p : Option Addr} {c : Nat} {p_1 : Option Addr} {c_1 : Nat} {p_2 : Option Addr} {c_2 : Nat} {bb_1 : Nat} {es : Array MapEntry} {clk : Nat} {ogS : List Nat} {ogh : Nat → Option Obj} {bb : Nat} {p_3 : Option Addr} {c_3 : Nat} {p_4 : Option Addr} {c_4 : Nat} {bb_2 : Nat} {bb_3 : Nat} (hs : SRc C_int D0 way p c) (hn : met.length = 7) (hs_1 : SRc C_LineLine D0 cv.LineNet.Lines p_1 c_1) (hs_2 : SRc C_LineLoop D0 cv.LineNet.Loops p_2 c_2) (hm_1 : OMR kl_115 (C_sl C_int) 32 D0 cv.ways es clk ogS ogh) (hs_3 : SRc C_LineLine D0 cv_1.Lines p_3 c_3) (hs_4 : SRc C_LineLoop D0 cv_1.Loops p_4 c_4) (hbv : D0 bb = some (.cells ([.int .i64 cv.LineNet.Exchanges, .slice p_1 cv.LineNet.Lines.length c_1, .int .i64 cv.LineNet.Hops, .slice p_2 cv.LineNet.Loops.length c_2, .map (some bb_1), .int .i64 cv.left]).toArray 85 (0, 0))) (hbv_1 : D0 bb_2 = some (.cells ([.int .i64 cv_1.Exchanges, .slice p_3 cv_1.Lines.length c_3, .int .i64 cv_1.Hops, .slice p_4 cv_1.Loops.length c_4]).toArray 25 (0, 0))) (hbv_2 : D0 bb_3 = some (.cells ([.func (.func 88) #[] #[.pointer (some ⟨bb, 0, none⟩), .pointer (some ⟨bb_2, 0, none⟩), .pointer (some ⟨bb_3, 0, none⟩)]]).toArray 111 (0, 0))) (hG : Glob D0) (hS0 : St wb Db D0 [(1, .obj bb_1 (.map es clk)), (2, .snap ogS ogh), (0, .snap Sx hpx)] w0) (out : (List (line_kind × (List (List Int))))) (h : line_opened_1_n n atv way met cv cv_1 = some out), Calls Tryd.prog 88 [.int .i64 atv, .slice p way.length c, .agg (arr celB met).toArray, .pointer (some ⟨bb, 0, none⟩), .pointer (some ⟨bb_2, 0, none⟩), .pointer (some ⟨bb_3, 0, none⟩)].toArray w0 (RetM D0 fun D w v => ∃ (es1 : Array MapEntry) (ck1 : Nat) (S1 : List Nat) (hp1 : Nat → Option Obj), St wb Db D [(1, .obj bb_1 (.map es1 ck1)), (2, .snap S1 hp1), (0, .snap Sx hpx)] w ∧ v = .tuple #[] ∧ OMR kl_115 (C_sl C_int) 32 D out es1 ck1 S1 hp1)
 | 0 => by intros; rename_i h; simp only [line_opened_1_n] at h; cases h
 | n + 1 => line_opened_1_step_ok (line_opened_1_n n) (line_opened_1_n_ok n)
noncomputable def line_opened_1 (atv : Int) (way : (List Int)) (met : (List Bool)) (cv : line_net) (cv_1 : LineNet) : Option (List (line_kind × (List (List Int)))) := limU fun n => line_opened_1_n n atv way met cv cv_1
theorem line_opened_1_ok {wb w0 : World} {Db D0 : Stab} {Sx : List Nat} {hpx : Nat → Option Obj} (atv : Int) (way : (List Int)) (met : (List Bool)) (cv : line_net) (cv_1 : LineNet) {p : Option Addr} {c : Nat} {p_1 : Option Addr} {c_1 : Nat} {p_2 : Option Addr} {c_2 : Nat} {bb_1 : Nat} {es : Array MapEntry} {clk : Nat} {ogS : List Nat} {ogh : Nat → Option Obj} {bb : Nat} {p_3 : Option Addr} {c_3 : Nat} {p_4 : Option Addr} {c_4 : Nat} {bb_2 : Nat} {bb_3 : Nat} (hs : SRc C_int D0 way p c) (hn : met.length = 7) (hs_1 : SRc C_LineLine D0 cv.LineNet.Lines p_1 c_1) (hs_2 : SRc C_LineLoop D0 cv.LineNet.Loops p_2 c_2) (hm_1 : OMR kl_115 (C_sl C_int) 32 D0 cv.ways es clk ogS ogh) (hs_3 : SRc C_LineLine D0 cv_1.Lines p_3 c_3) (hs_4 : SRc C_LineLoop D0 cv_1.Loops p_4 c_4) (hbv : D0 bb = some (.cells ([.int .i64 cv.LineNet.Exchanges, .slice p_1 cv.LineNet.Lines.length c_1, .int .i64 cv.LineNet.Hops, .slice p_2 cv.LineNet.Loops.length c_2, .map (some bb_1), .int .i64 cv.left]).toArray 85 (0, 0))) (hbv_1 : D0 bb_2 = some (.cells ([.int .i64 cv_1.Exchanges, .slice p_3 cv_1.Lines.length c_3, .int .i64 cv_1.Hops, .slice p_4 cv_1.Loops.length c_4]).toArray 25 (0, 0))) (hbv_2 : D0 bb_3 = some (.cells ([.func (.func 88) #[] #[.pointer (some ⟨bb, 0, none⟩), .pointer (some ⟨bb_2, 0, none⟩), .pointer (some ⟨bb_3, 0, none⟩)]]).toArray 111 (0, 0))) (hG : Glob D0) (hS0 : St wb Db D0 [(1, .obj bb_1 (.map es clk)), (2, .snap ogS ogh), (0, .snap Sx hpx)] w0) (out : (List (line_kind × (List (List Int))))) (h : line_opened_1 atv way met cv cv_1 = some out) : Calls Tryd.prog 88 [.int .i64 atv, .slice p way.length c, .agg (arr celB met).toArray, .pointer (some ⟨bb, 0, none⟩), .pointer (some ⟨bb_2, 0, none⟩), .pointer (some ⟨bb_3, 0, none⟩)].toArray w0 (RetM D0 fun D w v => ∃ (es1 : Array MapEntry) (ck1 : Nat) (S1 : List Nat) (hp1 : Nat → Option Obj), St wb Db D [(1, .obj bb_1 (.map es1 ck1)), (2, .snap S1 hp1), (0, .snap Sx hpx)] w ∧ v = .tuple #[] ∧ OMR kl_115 (C_sl C_int) 32 D out es1 ck1 S1 hp1) := by
 obtain ⟨n, hfu_⟩ := limU_some h
 exact line_opened_1_n_ok n atv way met cv cv_1 hs hn hs_1 hs_2 hm_1 hs_3 hs_4 hbv hbv_1 hbv_2 hG hS0 out hfu_
noncomputable def line_opened (xv : LineNet) (left : Int) : Option line_net :=
  (line_opened_1 0 ([] : List Int) (List.replicate 7 false) (line_net.mk xv ([] : (List (line_kind × (List (List Int))))) left) xv).bind fun rv =>
  some (line_net.mk xv rv left)
theorem line_opened_ok {w0 : World} {D0 : Stab} (hD : D0.on w0) (xv : LineNet) (left : Int) {p : Option Addr} {c : Nat} {p_1 : Option Addr} {c_1 : Nat} (hs : SRc C_LineLine D0 xv.Lines p c) (hs_1 : SRc C_LineLoop D0 xv.Loops p_1 c_1) (hG : Glob D0) (out : line_net) (h : line_opened xv left = some out) : Calls Tryd.prog 71 [.agg #[.int .i64 xv.Exchanges, .slice p xv.Lines.length c, .int .i64 xv.Hops, .slice p_1 xv.Loops.length c_1], .int .i64 left].toArray w0 (RetS D0 w0 fun D v => ∃ p_2 c_2 p_3 c_3 bm, v = .agg #[.int .i64 out.LineNet.Exchanges, .slice p_2 out.LineNet.Lines.length c_2, .int .i64 out.LineNet.Hops, .slice p_3 out.LineNet.Loops.length c_3, .map bm, .int .i64 out.left] ∧ SRc C_LineLine D out.LineNet.Lines p_2 c_2 ∧ SRc C_LineLoop D out.LineNet.Loops p_3 c_3 ∧ MapB kl_115 (C_sl (C_sl C_int)) false D out.ways bm) := by
 refine enter _ 16 Tryd.func71 rfl Tryd.ntmps71 rfl fun a hF => ?_
 replace hF : Frm 16 [] [(0, .agg #[.int .i64 xv.Exchanges, .slice p xv.Lines.length c, .int .i64 xv.Hops, .slice p_1 xv.Loops.length c_1]), (1, .int .i64 left)] a := hF
 have hS := St.start hD
 unfold line_opened at h
 refine seq (region (O.box (cs := [.int .i64 xv.Exchanges, .slice p xv.Lines.length c, .int .i64 xv.Hops, .slice p_1 xv.Loops.length c_1]) 1 hF rfl rfl hS rfl fun b a w hF hS => O.alloc 2 zc_85 hF hS rfl fun b_1 a w hF hS => nil (then_n (seq (region (step hF (Y.loadNL 1 sz_25 hF rfl hS rfl rfl rfl) rfl fun a hF => O.makeMap 3 hF hS rfl fun b_2 a w hF hS => ?_))))))
 replace hS := hS.snap0 4
 have hm : OMR kl_115 (C_sl C_int) 32 D0 ([] : (List (line_kind × (List (List Int))))) (#[] : Array MapEntry) 0 ([] : List Nat) (fun _ => none : Nat → Option Obj) := OMR.nil
 refine step hF (Y.move hF rfl) rfl fun a hF => step hF (Y.build (parts := [(0, (.tmp 7)), (1, (.tmp 8)), (2, (.tmp 9))]) (cs := #[.int .i64 xv.Exchanges, .slice p xv.Lines.length c, .int .i64 xv.Hops, .slice p_1 xv.Loops.length c_1, .map (some b_2), .int .i64 left]) hF rfl (by kernel_rfl)) rfl fun a hF => O.alloc 5 zc_85 hF hS rfl fun b_3 a w hF hS => O.store (us := [.int .i64 xv.Exchanges, .slice p xv.Lines.length c, .int .i64 xv.Hops, .slice p_1 xv.Loops.length c_1, .map (some b_2), .int .i64 left]) 5 sz_85 hF rfl rfl rfl rfl hS rfl rfl fun a w hF hS => nil (then_n (seq (region (O.alloc 6 zc_111 hF hS rfl fun b_4 a w hF hS => nil (then_n (seq (region (step hF (Y.makeFunc (first := []) (cap := [(.tmp 5), (.tmp 2), (.tmp 6)]) (fs := []) (cs := [.pointer (some ⟨b_3, 0, none⟩), .pointer (some ⟨b, 0, none⟩), .pointer (some ⟨b_4, 0, none⟩)]) hF rfl rfl) rfl fun a hF => O.store (us := [.func (.func 88) #[] #[.pointer (some ⟨b_3, 0, none⟩), .pointer (some ⟨b, 0, none⟩), .pointer (some ⟨b_4, 0, none⟩)]]) 6 sz_111 hF rfl rfl rfl rfl hS rfl rfl fun a w hF hS => nil (then_n (seq (region (step hF (Y.load1L 6 sz_111 hF rfl hS rfl rfl) rfl fun a hF => step hF (Y.build (parts := []) (cs := (arr celB (List.replicate 7 false)).toArray) hF rfl (by kernel_rfl)) rfl fun a hF => ?_))))))))))))
 obtain ⟨Dv, hlev, hbx, hS⟩ := hS.freezeB (i := 5) rfl
 replace hs := hs.mono hlev
 replace hs_1 := hs_1.mono hlev
 replace hG := hG.mono hlev
 replace hm := hm.mono hlev
 obtain ⟨Dv_1, hlev_1, hbx_1, hS⟩ := hS.freezeB (i := 1) rfl
 replace hs := hs.mono hlev_1
 replace hs_1 := hs_1.mono hlev_1
 replace hG := hG.mono hlev_1
 replace hm := hm.mono hlev_1
 replace hbx := hlev_1 _ _ hbx
 obtain ⟨Dv_2, hlev_2, hbx_2, hS⟩ := hS.freezeB (i := 6) rfl
 replace hs := hs.mono hlev_2
 replace hs_1 := hs_1.mono hlev_2
 replace hG := hG.mono hlev_2
 replace hm := hm.mono hlev_2
 replace hbx := hlev_2 _ _ hbx
 replace hbx_1 := hlev_2 _ _ hbx_1
 obtain ⟨rv, hx, h⟩ := bind_some h
 refine O.callVM (f := 88) (first := []) (cap := [.pointer (some ⟨b_3, 0, none⟩), .pointer (some ⟨b, 0, none⟩), .pointer (some ⟨b_4, 0, none⟩)]) (us := [.int .i64 0, .slice none 0 0, .agg (arr celB (List.replicate 7 false)).toArray]) ca_88 hF rfl rfl (line_opened_1_ok 0 ([] : List Int) (List.replicate 7 false) (line_net.mk xv ([] : (List (line_kind × (List (List Int))))) left) xv SRc.nil List.length_replicate hs hs_1 hm hs hs_1 hbx hbx_1 hbx_2 hG (hS.lend2 (i := 3) (j := 4) rfl rfl (by decide)) rv hx) rfl fun v Dv_3 a w hR hlev_3 hF => ?_
 replace hs := hs.mono hlev_3
 replace hs_1 := hs_1.mono hlev_3
 replace hbx := hlev_3 _ _ hbx
 replace hbx_1 := hlev_3 _ _ hbx_1
 replace hbx_2 := hlev_3 _ _ hbx_2
 obtain ⟨es, clk, ogS, ogh, hS2_0, rfl, hm_1⟩ := hR
 replace hS := hS.back2 (i := 3) (j := 4) rfl rfl (by decide) hS2_0
 refine nil (then_n (seq (region (step hF (Y.loadNH sz_85 hF rfl (hS.stab _ _ hbx) rfl rfl) rfl fun a hF => O.store (us := [.int .i64 xv.Exchanges, .slice p xv.Lines.length c, .int .i64 xv.Hops, .slice p_1 xv.Loops.length c_1, .map (some b_2), .int .i64 left]) 2 sz_85 hF rfl rfl rfl rfl hS rfl rfl fun a w hF hS => nil (then_n (ret_ ?_))))))
 obtain ⟨Dv_4, hlev_4, hm_2, hS⟩ := hS.freezeOMR (i := 3) 4 (by decide) rfl rfl hm_1
 replace hs := hs.mono hlev_4
 replace hs_1 := hs_1.mono hlev_4
 replace hbx := hlev_4 _ _ hbx
 replace hbx_1 := hlev_4 _ _ hbx_1
 replace hbx_2 := hlev_4 _ _ hbx_2
 obtain rfl := some_inj h
 exact leaveS Tryd.results71 hF hS (.cons (.cellN 2 sz_85 rfl rfl rfl) .nil) .nil ⟨_, _, _, _, _, rfl, hs, hs_1, hm_2⟩
noncomputable def line_net_routes_b2 (n : line_net) (exchange : Int) (outv : (List (List Int))) (v15_0 : Int) : ((List (List Int)) × Int) → Option (((List (List Int)) × Int) ⊕ (((List (List Int)) × Int) ⊕ (List (List Int))))
 | (l, v25_0) =>
  cond (decide (v25_0 < (((mget kl_115 n.ways (line_kind.mk exchange v15_0)).getD (([] : List (List Int)) : (List (List Int)))).length : Int)))
  ((idx ((mget kl_115 n.ways (line_kind.mk exchange v15_0)).getD (([] : List (List Int)) : (List (List Int)))) v25_0).bind fun e =>
  (line_net_delay n exchange e).bind fun rv =>
  cond rv.2
  (if l.length + ([e]).length ≤ lim then
  nxt ((l ++ [e]), wr (v25_0 + 1))
  else none)
  (nxt (l, wr (v25_0 + 1))))
  (ext (if l.length ≤ lim ∧ ∀ x ∈ l, x.length ≤ lim then
  if outv.length + (sortL l).length ≤ lim then
  nxt ((outv ++ (sortL l)), wr (v15_0 + 1))
  else none
  else none))
noncomputable def line_net_routes_b1 (n : line_net) (exchange : Int) : ((List (List Int)) × Int) → Option (((List (List Int)) × Int) ⊕ (List (List Int)))
 | (outv, v15_0) =>
  cond (decide (v15_0 < 7))
  (loopU (line_net_routes_b2 n exchange outv v15_0) (([] : List (List Int)), 0))
  (ext (some outv))
noncomputable def line_net_routes (n : line_net) (exchange : Int) : Option (List (List Int)) :=
  loopU (line_net_routes_b1 n exchange) (([] : List (List Int)), 0)
theorem line_net_routes_ok {w0 : World} {D0 : Stab} (hD : D0.on w0) (n : line_net) (exchange : Int) {p : Option Addr} {c : Nat} {p_1 : Option Addr} {c_1 : Nat} {bm : Option Nat} (hs : SRc C_LineLine D0 n.LineNet.Lines p c) (hs_1 : SRc C_LineLoop D0 n.LineNet.Loops p_1 c_1) (hm : MapB kl_115 (C_sl (C_sl C_int)) false D0 n.ways bm) (out : (List (List Int))) (h : line_net_routes n exchange = some out) : Calls Tryd.prog 72 [.agg #[.int .i64 n.LineNet.Exchanges, .slice p n.LineNet.Lines.length c, .int .i64 n.LineNet.Hops, .slice p_1 n.LineNet.Loops.length c_1, .map bm, .int .i64 n.left], .int .i64 exchange].toArray w0 (RetS D0 w0 fun D v => ∃ p_9 c_9, v = .slice p_9 out.length c_9 ∧ SRc (C_sl C_int) D out p_9 c_9) := by
 refine enter _ 49 Tryd.func72 rfl Tryd.ntmps72 rfl fun a hF => ?_
 replace hF : Frm 49 [] [(0, .agg #[.int .i64 n.LineNet.Exchanges, .slice p n.LineNet.Lines.length c, .int .i64 n.LineNet.Hops, .slice p_1 n.LineNet.Loops.length c_1, .map bm, .int .i64 n.left]), (1, .int .i64 exchange)] a := hF
 have hS := St.start hD
 unfold line_net_routes at h
 refine seq (region (O.box (cs := [.int .i64 n.LineNet.Exchanges, .slice p n.LineNet.Lines.length c, .int .i64 n.LineNet.Hops, .slice p_1 n.LineNet.Loops.length c_1, .map bm, .int .i64 n.left]) 1 hF rfl rfl hS rfl fun b a w hF hS => step hF (Y.assign hF rfl) rfl fun a hF => nil (then_n (seq (region (step hF (Y.assign hF rfl) rfl fun a hF => ?_))))))
 replace hS := hS.ownNil 2 32 1
 refine nil (then_n (seq (region (step hF (Y.loadNL 1 sz_85 hF rfl hS rfl rfl rfl) rfl fun a hF => step hF (Y.makeFunc (first := [(.tmp 13)]) (cap := []) (fs := [.agg #[.int .i64 n.LineNet.Exchanges, .slice p n.LineNet.Lines.length c, .int .i64 n.LineNet.Hops, .slice p_1 n.LineNet.Loops.length c_1, .map bm, .int .i64 n.left]]) (cs := []) hF rfl rfl) rfl fun a hF => step hF (Y.assign hF rfl) rfl fun a hF => nil (then_n (seq (seq (region (step hF (Y.move hF rfl) rfl fun a hF => nil (then_n (block (loop_cut (body := line_net_routes_b1 n exchange) (out := out) (fun s a w => ∃ (outv : (List (List Int))) (v15_0 : Int), ∃ (Dv : Stab), ∃ p_2 c_2 cs, s = (outv, v15_0) ∧ D0.le Dv ∧ Frm 49 [] [(1, .int .i64 exchange), (2, .pointer (some ⟨b, 0, none⟩)), (4, .slice none 0 0), (5, .slice p_2 outv.length c_2), (6, .func (.func 67) #[.agg #[.int .i64 n.LineNet.Exchanges, .slice p n.LineNet.Lines.length c, .int .i64 n.LineNet.Hops, .slice p_1 n.LineNet.Loops.length c_1, .map bm, .int .i64 n.left]] #[]), (15, .int .i64 v15_0)] a ∧ St w0 D0 Dv [(1, .cells b [.int .i64 n.LineNet.Exchanges, .slice p n.LineNet.Lines.length c, .int .i64 n.LineNet.Hops, .slice p_1 n.LineNet.Loops.length c_1, .map bm, .int .i64 n.left] 85), (2, .own p_2 outv.length c_2 cs 32 1)] w ∧ Reps (C_sl C_int) Dv outv cs) (([] : List (List Int)), 0) h ⟨([] : List (List Int)), 0, D0, none, 0, ([]), rfl, Stab.le.refl _, hF.weak ⟨rfl, rfl, rfl, rfl, rfl, rfl, trivial⟩, hS.weak ⟨rfl, rfl, trivial⟩, Reps.nil⟩ ?_))))))))))))
 rintro s a w xo ⟨outv, v15_0, Dv, p_2, c_2, cs, rfl, hlev, hF, hS, hr⟩ h hxo
 unfold line_net_routes_b1 at h
 dsimp only at h
 replace hs := hs.mono hlev
 replace hs_1 := hs_1.mono hlev
 replace hm := hm.mono hlev
 refine seq (region (step hF (Y.lss hF rfl rfl) rfl fun a hF => nil (then_n (seq (cond_b hF rfl (fun hbv => ?_) (fun hbv => ?_))))))
 ·replace h := cond_t h hbv
  refine skip_ (then_n (seq (block (seq (region (step hF (Y.move hF rfl) rfl fun a hF => step hF (Y.assign hF rfl) rfl fun a hF => nil (then_n (seq (region (step hF (Y.assign hF rfl) rfl fun a hF => ?_))))))))))
  replace hS := hS.ownNil 3 32 1
  refine nil (then_n (seq (seq (region (step hF (Y.fieldAddr fo_85_1 hF rfl) rfl fun a hF => step hF (Y.load1L 1 sz_83 hF rfl hS rfl rfl) rfl fun a hF => step hF (Y.move hF rfl) rfl fun a hF => step hF (Y.move hF rfl) rfl fun a hF => step hF (Y.build (parts := [(0, (.tmp 20)), (1, (.tmp 21))]) (cs := #[.int .i64 exchange, .int .i64 v15_0]) hF rfl (by kernel_rfl)) rfl fun a hF => ?_)))))
  obtain ⟨cc, hc, hY⟩ := Y.lookupS (kl := kl_115) (C := (C_sl (C_sl C_int))) (agg := false) (xs := n.ways) (x := (.tmp 19)) (y := (.tmp 22)) (z := [.slice none 0 0]) (z0 := (([] : List (List Int)) : (List (List Int)))) false  mt_83 (fun _ => rfl) (⟨_, _, rfl, SRc.nil⟩) (line_kind.mk exchange v15_0) hm.toS hF rfl rfl
  obtain ⟨p_3, c_3, rfl, hs_2⟩ := hc
  refine step hF ((show Yields _ _ _ _ (.slice p_3 ((mget kl_115 n.ways (line_kind.mk exchange v15_0)).getD (([] : List (List Int)) : (List (List Int)))).length c_3) from hY hS.stab)) rfl fun a hF => step hF (Y.lenSl u_26 hF rfl) rfl fun a hF => step hF (Y.move hF rfl) rfl fun a hF => nil (then_n (block (loop_cut (body := line_net_routes_b2 n exchange outv v15_0) (out := xo) (fun s a w => ∃ (l : (List (List Int))) (v25_0 : Int), ∃ (Dv_1 : Stab), ∃ p_4 c_4 cs_1, s = (l, v25_0) ∧ Dv.le Dv_1 ∧ Frm 49 [] [(1, .int .i64 exchange), (2, .pointer (some ⟨b, 0, none⟩)), (4, .slice none 0 0), (5, .slice p_2 outv.length c_2), (6, .func (.func 67) #[.agg #[.int .i64 n.LineNet.Exchanges, .slice p n.LineNet.Lines.length c, .int .i64 n.LineNet.Hops, .slice p_1 n.LineNet.Loops.length c_1, .map bm, .int .i64 n.left]] #[]), (8, .slice p_4 l.length c_4), (15, .int .i64 v15_0), (23, .slice p_3 ((mget kl_115 n.ways (line_kind.mk exchange v15_0)).getD (([] : List (List Int)) : (List (List Int)))).length c_3), (24, .int .i64 (((mget kl_115 n.ways (line_kind.mk exchange v15_0)).getD (([] : List (List Int)) : (List (List Int)))).length : Int)), (25, .int .i64 v25_0)] a ∧ St w0 D0 Dv_1 [(1, .cells b [.int .i64 n.LineNet.Exchanges, .slice p n.LineNet.Lines.length c, .int .i64 n.LineNet.Hops, .slice p_1 n.LineNet.Loops.length c_1, .map bm, .int .i64 n.left] 85), (2, .own p_2 outv.length c_2 cs 32 1), (3, .own p_4 l.length c_4 cs_1 32 1)] w ∧ Reps (C_sl C_int) Dv_1 l cs_1) (([] : List (List Int)), 0) h ⟨([] : List (List Int)), 0, Dv, none, 0, ([]), rfl, Stab.le.refl _, hF.weak ⟨rfl, rfl, rfl, rfl, rfl, rfl, rfl, rfl, rfl, rfl, trivial⟩, hS.weak ⟨rfl, rfl, rfl, trivial⟩, Reps.nil⟩ ?_)))
  rintro s a w xo_1 ⟨l, v25_0, Dv_1, p_4, c_4, cs_1, rfl, hlev_1, hF, hS, hr_1⟩ h hxo_1
  unfold line_net_routes_b2 at h
  dsimp only at h
  replace hs := hs.mono hlev_1
  replace hs_1 := hs_1.mono hlev_1
  replace hm := hm.mono hlev_1
  replace hr := hr.mono hlev_1
  replace hs_2 := hs_2.mono hlev_1
  refine seq (region (step hF (Y.lss hF rfl rfl) rfl fun a hF => nil (then_n (seq (cond_b hF rfl (fun hbv_1 => ?_) (fun hbv_1 => ?_))))))
  ·replace h := cond_t h hbv_1
   refine skip_ (then_n (seq (block (seq (region ?_)))))
   obtain ⟨e, hx, h⟩ := bind_some h
   obtain ⟨b_1, o, hE, hY_1⟩ := Y.indexS (P := Tryd.prog) (C := (C_sl C_int)) (xs := ((mget kl_115 n.ways (line_kind.mk exchange v15_0)).getD (([] : List (List Int)) : (List (List Int))))) (T := 26) (x := (.tmp 23)) (y := (.tmp 25)) u_26 sz_32 hF rfl rfl (hs_2).1 hx
   obtain ⟨cc_1, hc_1, hcell⟩ := hE.open
   obtain ⟨p_5, c_5, rfl, hs_3⟩ := hc_1
   refine step hF (hY_1) rfl fun a hF => step hF (Y.load1 sz_32 hF rfl (hcell _ hS.stab 0 _ rfl)) rfl fun a hF => step hF (Y.assign hF rfl) rfl fun a hF => nil (then_n (seq (region (step hF (Y.move hF rfl) rfl fun a hF => step hF (Y.move hF rfl) rfl fun a hF => step hF (Y.move hF rfl) rfl fun a hF => ?_))))
   obtain ⟨rv, hx_1, h⟩ := bind_some h
   refine O.callVP (f := 67) (first := [.agg #[.int .i64 n.LineNet.Exchanges, .slice p n.LineNet.Lines.length c, .int .i64 n.LineNet.Hops, .slice p_1 n.LineNet.Loops.length c_1, .map bm, .int .i64 n.left]]) (cap := []) (us := [.int .i64 exchange, .slice p_5 e.length c_5]) ca_67 hF hS rfl rfl (line_net_delay_ok hS.stab n exchange e hs hs_1 hm hs_3 rv hx_1) rfl fun a w hF hS => step hF (Y.move hF rfl) rfl fun a hF => step hF (Y.extract hF rfl rfl) rfl fun a hF => step hF (Y.extract hF rfl rfl) rfl fun a hF => O.alloc 4 zc_40 hF hS rfl fun b_2 a w hF hS => O.store (us := [.int .i64 rv.1.Low, .int .i64 rv.1.High]) 4 sz_40 hF rfl rfl rfl rfl hS rfl rfl fun a w hF hS => step hF (Y.assign hF rfl) rfl fun a hF => nil (then_n (seq (region (step hF (Y.move hF rfl) rfl fun a hF => nil (then_n (cond_b hF rfl (fun hbv_2 => ?_) (fun hbv_2 => ?_)))))))
   ·replace h := cond_t h hbv_2
    refine region (step hF (Y.move hF rfl) rfl fun a hF => step hF (Y.move hF rfl) rfl fun a hF => ?_)
    have hr_2 : Reps (C_sl C_int) Dv_1 [e] [.slice p_5 e.length c_5] := Reps.cons (C := (C_sl C_int)) (x := e) (c := [.slice p_5 e.length c_5]) (r := []) (⟨_, _, rfl, hs_3⟩) (Reps.nil)
    refine O.buildSlice (E := 32) (C := (C_sl C_int)) (xs := [e]) (cs := [.slice p_5 e.length c_5]) (us := [.slice p_5 e.length c_5]) (parts := [(0, (.tmp 38))]) 5 hF hS rfl (by kernel_rfl) hr_2 rfl rfl rfl fun p_6 c_6 a w hF hS => ?_
    obtain ⟨hg, h⟩ := ite_some h
    refine O.append (C := (C_sl C_int)) (xs := l) (ys := [e]) 3 gr_26 hF rfl rfl hS rfl (src_own (i := 5) hS rfl) hr_1 hr_2 hg rfl fun p_7 c_7 a w hF hS hr_3 => step hF (Y.assign hF rfl) rfl fun a hF => nil (blk_n (then_n (region (step hF (Y.add hF rfl rfl) rfl fun a hF => step hF (Y.move hF rfl) rfl fun a hF => nil (then_n (⟨_, nxt_some h, (l ++ [e]), (wr (v25_0 + 1)), Dv_1, p_7, c_7, (cs_1 ++ [.slice p_5 e.length c_5]), rfl, hlev_1, hF.weak ⟨rfl, rfl, rfl, rfl, rfl, rfl, rfl, rfl, rfl, rfl, trivial⟩, hS.weak ⟨rfl, rfl, rfl, trivial⟩, hr_3⟩))))))
   replace h := cond_f h hbv_2
   refine skip_ (blk_n (then_n (region (step hF (Y.add hF rfl rfl) rfl fun a hF => step hF (Y.move hF rfl) rfl fun a hF => nil (then_n (⟨_, nxt_some h, l, (wr (v25_0 + 1)), Dv_1, p_4, c_4, cs_1, rfl, hlev_1, hF.weak ⟨rfl, rfl, rfl, rfl, rfl, rfl, rfl, rfl, rfl, rfl, trivial⟩, hS.weak ⟨rfl, rfl, rfl, trivial⟩, hr_1⟩))))))
  replace h := cond_f h hbv_1
  refine exit_ (then_x (then_x (blk_hit (then_n ?_))))
  replace h := ext_some h hxo_1
  refine seq (region (step hF (Y.move hF rfl) rfl fun a hF => ?_))
  obtain ⟨hg_1, h⟩ := ite_some h
  refine O.sortOwn sort_lay_90 (f := 90) (g := 75) rfl ca_90 ca_75 (fun w D hD a b p c p2 c2 h1 h2 h3 h4 => slices_Compare___int_int__all hD a b h1 h2 h3 h4) (x := (.tmp 42)) (y := (.func 75)) 3 hF rfl rfl hS rfl hr_1 hg_1 rfl fun cs_2 a w hF hS hr_4 => ?_
  try rw [show l.length = (sortL l).length from (sortL_length l).symm] at hF
  refine nil (then_n (region (step hF (Y.move hF rfl) rfl fun a hF => step hF (Y.move hF rfl) rfl fun a hF => ?_)))
  obtain ⟨hg_2, h⟩ := ite_some h
  refine O.append (C := (C_sl C_int)) (xs := outv) (ys := (sortL l)) 2 gr_26 hF rfl rfl hS rfl (src_own (i := 3) hS rfl) hr hr_4 hg_2 rfl fun p_8 c_8 a w hF hS hr_5 => step hF (Y.assign hF rfl) rfl fun a hF => nil (blk_n (then_n (region (step hF (Y.add hF rfl rfl) rfl fun a hF => step hF (Y.move hF rfl) rfl fun a hF => nil (then_n (⟨_, nxt_some h, (outv ++ (sortL l)), (wr (v15_0 + 1)), Dv_1, p_8, c_8, (cs ++ cs_2), rfl, hlev.trans hlev_1, hF.weak ⟨rfl, rfl, rfl, rfl, rfl, rfl, trivial⟩, hS.weak ⟨rfl, rfl, trivial⟩, hr_5⟩))))))
 replace h := cond_f h hbv
 refine exit_ (then_x (then_x (blk_hit (then_n ?_))))
 replace h := ext_some h hxo
 refine seq (region (step hF (Y.move hF rfl) rfl fun a hF => step hF (Y.assign hF rfl) rfl fun a hF => nil (then_n (ret_ ?_))))
 obtain ⟨Dv_2, hlev_2, hs_4, hS⟩ := hS.freezeC (C := (C_sl C_int)) (i := 2) (xs := outv) rfl hr
 obtain rfl := some_inj h
 exact leaveS Tryd.results72 hF hS (.cons (.tmp rfl) .nil) .nil ⟨_, _, rfl, hs_4⟩
noncomputable def line_net_can_b2 (n : line_net) : (Bool × Int) → Option ((Bool × Int) ⊕ Bool)
 | (v2_1, v27_0) =>
  cond (decide (v27_0 < (n.LineNet.Loops.length : Int)))
  ((idx n.LineNet.Loops v27_0).bind fun e =>
  if ¬ v27_0 < 0 then
  (cond ((bitsOp .and (gshr n.left v27_0) 1) == 0) ((line_net_reaches n e.Exchange).bind fun rv_2 =>
  some (!rv_2)) (some false)).bind fun t_1 =>
  cond t_1
  (ext (some false))
  (nxt (v2_1, wr (v27_0 + 1)))
  else none)
  (ext (some true))
noncomputable def line_net_can_b1 (n : line_net) : (Bool × Int) → Option ((Bool × Int) ⊕ Bool)
 | (v2_0, v9_0) =>
  cond (decide (v9_0 < n.LineNet.Exchanges))
  ((line_net_reaches n v9_0).bind fun rv =>
  (cond rv ((line_net_routes n v9_0).bind fun rv_1 =>
  some ((rv_1.length : Int) == 0)) (some false)).bind fun t =>
  cond t
  (ext (some false))
  (nxt (v2_0, wr (v9_0 + 1))))
  (ext (loopU (line_net_can_b2 n) (v2_0, 0)))
noncomputable def line_net_can (n : line_net) : Option Bool :=
  loopU (line_net_can_b1 n) (false, 0)
theorem line_net_can_ok {w0 : World} {D0 : Stab} (hD : D0.on w0) (n : line_net) {p : Option Addr} {c : Nat} {p_1 : Option Addr} {c_1 : Nat} {bm : Option Nat} (hs : SRc C_LineLine D0 n.LineNet.Lines p c) (hs_1 : SRc C_LineLoop D0 n.LineNet.Loops p_1 c_1) (hm : MapB kl_115 (C_sl (C_sl C_int)) false D0 n.ways bm) (out : Bool) (h : line_net_can n = some out) : Calls Tryd.prog 76 [.agg #[.int .i64 n.LineNet.Exchanges, .slice p n.LineNet.Lines.length c, .int .i64 n.LineNet.Hops, .slice p_1 n.LineNet.Loops.length c_1, .map bm, .int .i64 n.left]].toArray w0 (RetP D0 w0 (.bool out)) := by
 refine enter _ 46 Tryd.func76 rfl Tryd.ntmps76 rfl fun a hF => ?_
 replace hF : Frm 46 [] [(0, .agg #[.int .i64 n.LineNet.Exchanges, .slice p n.LineNet.Lines.length c, .int .i64 n.LineNet.Hops, .slice p_1 n.LineNet.Loops.length c_1, .map bm, .int .i64 n.left])] a := hF
 have hS := St.start hD
 unfold line_net_can at h
 refine seq (region (O.box (cs := [.int .i64 n.LineNet.Exchanges, .slice p n.LineNet.Lines.length c, .int .i64 n.LineNet.Hops, .slice p_1 n.LineNet.Loops.length c_1, .map bm, .int .i64 n.left]) 1 hF rfl rfl hS rfl fun b a w hF hS => step hF (Y.assign hF rfl) rfl fun a hF => nil (then_n (seq (seq (region (step hF (Y.fieldAddr fo_85_0 hF rfl) rfl fun a hF => step hF (Y.fieldAddr fo_25_0 hF rfl) rfl fun a hF => step hF (Y.load1L 1 sz_3 hF rfl hS rfl rfl) rfl fun a hF => step hF (Y.move hF rfl) rfl fun a hF => nil (then_n (block (loop_cut (body := line_net_can_b1 n) (out := out) (fun s a w => ∃ (v2_0 : Bool) (v9_0 : Int), ∃ (Dv : Stab), s = (v2_0, v9_0) ∧ D0.le Dv ∧ Frm 46 [] [(1, .pointer (some ⟨b, 0, none⟩)), (2, .bool v2_0), (8, .int .i64 n.LineNet.Exchanges), (9, .int .i64 v9_0)] a ∧ St w0 D0 Dv [(1, .cells b [.int .i64 n.LineNet.Exchanges, .slice p n.LineNet.Lines.length c, .int .i64 n.LineNet.Hops, .slice p_1 n.LineNet.Loops.length c_1, .map bm, .int .i64 n.left] 85)] w) (false, 0) h ⟨false, 0, D0, rfl, Stab.le.refl _, hF.weak ⟨rfl, rfl, rfl, rfl, trivial⟩, hS.weak ⟨rfl, trivial⟩⟩ ?_))))))))))
 rintro s a w xo ⟨v2_0, v9_0, Dv, rfl, hlev, hF, hS⟩ h hxo
 unfold line_net_can_b1 at h
 dsimp only at h
 replace hs := hs.mono hlev
 replace hs_1 := hs_1.mono hlev
 replace hm := hm.mono hlev
 refine seq (region (step hF (Y.lss hF rfl rfl) rfl fun a hF => nil (then_n (seq (cond_b hF rfl (fun hbv => ?_) (fun hbv => ?_))))))
 ·replace h := cond_t h hbv
  refine skip_ (then_n (seq (block (seq (region (step hF (Y.move hF rfl) rfl fun a hF => step hF (Y.assign hF rfl) rfl fun a hF => nil (then_n (seq (region (step hF (Y.loadNL 1 sz_85 hF rfl hS rfl rfl rfl) rfl fun a hF => step hF (Y.move hF rfl) rfl fun a hF => ?_))))))))))
  obtain ⟨rv, hx, h⟩ := bind_some h
  refine O.callP (us := [.agg #[.int .i64 n.LineNet.Exchanges, .slice p n.LineNet.Lines.length c, .int .i64 n.LineNet.Hops, .slice p_1 n.LineNet.Loops.length c_1, .map bm, .int .i64 n.left], .int .i64 v9_0]) ca_80 hF hS (line_net_reaches_ok hS.stab n v9_0 hs hs_1 hm rv hx) rfl rfl fun a w hF hS => step hF (Y.move hF rfl) rfl fun a hF => ?_
  obtain ⟨t, ht, h⟩ := bind_some h
  refine list_cut 6 (fun a w => ∃ D, Dv.le D ∧ Frm 46 [] [(1, .pointer (some ⟨b, 0, none⟩)), (2, .bool v2_0), (8, .int .i64 n.LineNet.Exchanges), (9, .int .i64 v9_0), (21, .bool t)] a ∧ St w0 D0 D [(1, .cells b [.int .i64 n.LineNet.Exchanges, .slice p n.LineNet.Lines.length c, .int .i64 n.LineNet.Hops, .slice p_1 n.LineNet.Loops.length c_1, .map bm, .int .i64 n.left] 85)] w) ?_ ?_
  ·rcases bcases rv with hbv_1 | hbv_1
   ·skip
    replace h := cond_t ht hbv_1
    refine guard_on hF rfl rfl hbv_1 (step hF (Y.loadNL 1 sz_85 hF rfl hS rfl rfl rfl) rfl fun a hF => guard_on hF rfl rfl hbv_1 (step hF (Y.move hF rfl) rfl fun a hF => guard_on hF rfl rfl hbv_1 ?_))
    obtain ⟨rv_1, hx_1, h⟩ := bind_some h
    refine O.callS (us := [.agg #[.int .i64 n.LineNet.Exchanges, .slice p n.LineNet.Lines.length c, .int .i64 n.LineNet.Hops, .slice p_1 n.LineNet.Loops.length c_1, .map bm, .int .i64 n.left], .int .i64 v9_0]) ca_72 hF hS (line_net_routes_ok hS.stab n v9_0 hs hs_1 hm rv_1 hx_1) rfl rfl fun v Dv_1 a w hR hlev_1 hF hS => ?_
    obtain ⟨p_2, c_2, rfl, hs_2⟩ := hR
    refine guard_on hF rfl rfl hbv_1 (step hF (Y.lenSl u_26 hF rfl) rfl fun a hF => guard_on hF rfl rfl hbv_1 (step hF (Y.eql hF rfl rfl) rfl fun a hF => step hF (Y.pick_t hF rfl hbv_1 rfl) rfl fun a hF => ?_))
    obtain rfl := some_inj h
    exact nil (then_n ⟨Dv_1, hlev_1, hF.weak ⟨rfl, rfl, rfl, rfl, rfl, trivial⟩, hS.weak ⟨rfl, trivial⟩⟩)
   replace h := cond_f ht hbv_1
   refine guard_off hF rfl rfl hbv_1 rfl fun a hF => guard_off hF rfl rfl hbv_1 rfl fun a hF => guard_off hF rfl rfl hbv_1 rfl fun a hF => guard_off hF rfl rfl hbv_1 rfl fun a hF => guard_off hF rfl rfl hbv_1 rfl fun a hF => step hF (Y.pick_f hF rfl hbv_1 rfl) rfl fun a hF => ?_
   obtain rfl := some_inj h
   exact nil (then_n ⟨Dv, Stab.le.refl _, hF.weak ⟨rfl, rfl, rfl, rfl, rfl, trivial⟩, hS.weak ⟨rfl, trivial⟩⟩)
  rintro a w ⟨Dv_2, hlev_2, hF, hS⟩
  refine nil (then_n (cond_b hF rfl (fun hbv_2 => ?_) (fun hbv_2 => ?_)))
  ·replace h := cond_t h hbv_2
   refine seq (region (step hF (Y.assign hF rfl) rfl fun a hF => nil (then_n (ret_ (blk_r (then_r (then_r (blk_r (then_r ?_)))))))))
   replace h := ext_some h hxo
   obtain rfl := some_inj h
   exact leaveP Tryd.results76 hF hS (.cons (.tmp rfl) .nil) .nil rfl
  replace h := cond_f h hbv_2
  refine skip_ (blk_n (then_n (region (step hF (Y.add hF rfl rfl) rfl fun a hF => step hF (Y.move hF rfl) rfl fun a hF => nil (then_n (⟨_, nxt_some h, v2_0, (wr (v9_0 + 1)), Dv_2, rfl, hlev.trans hlev_2, hF.weak ⟨rfl, rfl, rfl, rfl, trivial⟩, hS.weak ⟨rfl, trivial⟩⟩))))))
 replace h := cond_f h hbv
 refine exit_ (then_x (then_x (blk_hit (then_n ?_))))
 replace h := ext_some h hxo
 refine seq (seq (region (step hF (Y.fieldAddr fo_85_0 hF rfl) rfl fun a hF => step hF (Y.fieldAddr fo_25_3 hF rfl) rfl fun a hF => step hF (Y.load1L 1 sz_23 hF rfl hS rfl rfl) rfl fun a hF => step hF (Y.lenSl u_23 hF rfl) rfl fun a hF => step hF (Y.move hF rfl) rfl fun a hF => nil (then_n (block (loop_cut (body := line_net_can_b2 n) (out := out) (fun s a w => ∃ (v2_1 : Bool) (v27_0 : Int), ∃ (Dv_3 : Stab), s = (v2_1, v27_0) ∧ Dv.le Dv_3 ∧ Frm 46 [] [(1, .pointer (some ⟨b, 0, none⟩)), (2, .bool v2_1), (25, .slice p_1 n.LineNet.Loops.length c_1), (26, .int .i64 (n.LineNet.Loops.length : Int)), (27, .int .i64 v27_0)] a ∧ St w0 D0 Dv_3 [(1, .cells b [.int .i64 n.LineNet.Exchanges, .slice p n.LineNet.Lines.length c, .int .i64 n.LineNet.Hops, .slice p_1 n.LineNet.Loops.length c_1, .map bm, .int .i64 n.left] 85)] w) (v2_0, 0) h ⟨v2_0, 0, Dv, rfl, Stab.le.refl _, hF.weak ⟨rfl, rfl, rfl, rfl, rfl, trivial⟩, hS.weak ⟨rfl, trivial⟩⟩ ?_))))))
 rintro s a w xo_1 ⟨v2_1, v27_0, Dv_3, rfl, hlev_3, hF, hS⟩ h hxo_1
 unfold line_net_can_b2 at h
 dsimp only at h
 replace hs := hs.mono hlev_3
 replace hs_1 := hs_1.mono hlev_3
 replace hm := hm.mono hlev_3
 refine seq (region (step hF (Y.lss hF rfl rfl) rfl fun a hF => nil (then_n (seq (cond_b hF rfl (fun hbv_3 => ?_) (fun hbv_3 => ?_))))))
 ·replace h := cond_t h hbv_3
  refine skip_ (then_n (seq (block (seq (region (step hF (Y.move hF rfl) rfl fun a hF => ?_))))))
  obtain ⟨e, hx_2, h⟩ := bind_some h
  obtain ⟨b_1, o, hE, hY⟩ := Y.indexS (P := Tryd.prog) (C := C_LineLoop) (xs := n.LineNet.Loops) (T := 23) (x := (.tmp 25)) (y := (.tmp 27)) u_23 sz_71 hF rfl rfl (hs_1).1 hx_2
  obtain ⟨cc, hc, hcell⟩ := hE.open
  obtain rfl := C_LineLoop.open hc
  refine step hF (hY) rfl fun a hF => step hF (Y.loadNE (o := o) (k := 0) sz_71 hF rfl (hcell _ hS.stab) rfl rfl) rfl fun a hF => O.alloc 2 zc_71 hF hS rfl fun b_2 a w hF hS => step hF (Y.assign hF rfl) rfl fun a hF => O.store (us := [.int .i64 e.Exchange, .int .i64 e.Read.Low, .int .i64 e.Read.High]) 2 sz_71 hF rfl rfl rfl rfl hS rfl rfl fun a w hF hS => nil (then_n (seq (region (step hF (Y.fieldAddr fo_85_2 hF rfl) rfl fun a hF => step hF (Y.load1L 1 sz_3 hF rfl hS rfl rfl) rfl fun a hF => step hF (Y.move hF rfl) rfl fun a hF => ?_))))
  obtain ⟨hg, h⟩ := ite_some h
  refine step hF (Y.shr hF rfl rfl hg) rfl fun a hF => step hF (Y.and hF rfl rfl) rfl fun a hF => step hF (Y.eql hF rfl rfl) rfl fun a hF => step hF (Y.move hF rfl) rfl fun a hF => ?_
  obtain ⟨t_1, ht_1, h⟩ := bind_some h
  refine join (N := 46) (rs := []) (w0 := w0) (D0 := D0) 6 (us := [(1, .pointer (some ⟨b, 0, none⟩)), (2, .bool v2_1), (25, .slice p_1 n.LineNet.Loops.length c_1), (26, .int .i64 (n.LineNet.Loops.length : Int)), (27, .int .i64 v27_0), (44, .bool t_1)]) (ms := [(1, .cells b [.int .i64 n.LineNet.Exchanges, .slice p n.LineNet.Lines.length c, .int .i64 n.LineNet.Hops, .slice p_1 n.LineNet.Loops.length c_1, .map bm, .int .i64 n.left] 85), (2, .cells b_2 [.int .i64 e.Exchange, .int .i64 e.Read.Low, .int .i64 e.Read.High] 71)]) (D' := Dv_3) ?_ ?_
  ·rcases bcases ((bitsOp .and (gshr n.left v27_0) 1) == 0) with hbv_4 | hbv_4
   ·skip
    replace h := cond_t ht_1 hbv_4
    refine guard_on hF rfl rfl hbv_4 (step hF (Y.loadNL 1 sz_85 hF rfl hS rfl rfl rfl) rfl fun a hF => guard_on hF rfl rfl hbv_4 (step hF (Y.fieldAddr fo_71_0 hF rfl) rfl fun a hF => guard_on hF rfl rfl hbv_4 (step hF (Y.load1L 2 sz_3 hF rfl hS rfl rfl) rfl fun a hF => guard_on hF rfl rfl hbv_4 ?_)))
    obtain ⟨rv_2, hx_3, h⟩ := bind_some h
    refine O.callP (us := [.agg #[.int .i64 n.LineNet.Exchanges, .slice p n.LineNet.Lines.length c, .int .i64 n.LineNet.Hops, .slice p_1 n.LineNet.Loops.length c_1, .map bm, .int .i64 n.left], .int .i64 e.Exchange]) ca_80 hF hS (line_net_reaches_ok hS.stab n e.Exchange hs hs_1 hm rv_2 hx_3) rfl rfl fun a w hF hS => guard_on hF rfl rfl hbv_4 (step hF (Y.not hF rfl) rfl fun a hF => step hF (Y.pick_t hF rfl hbv_4 rfl) rfl fun a hF => ?_)
    obtain rfl := some_inj h
    exact nil (then_n ⟨hF.weak ⟨rfl, rfl, rfl, rfl, rfl, rfl, trivial⟩, hS.weak ⟨rfl, rfl, trivial⟩⟩)
   replace h := cond_f ht_1 hbv_4
   refine guard_off hF rfl rfl hbv_4 rfl fun a hF => guard_off hF rfl rfl hbv_4 rfl fun a hF => guard_off hF rfl rfl hbv_4 rfl fun a hF => guard_off hF rfl rfl hbv_4 rfl fun a hF => guard_off hF rfl rfl hbv_4 rfl fun a hF => step hF (Y.pick_f hF rfl hbv_4 rfl) rfl fun a hF => ?_
   obtain rfl := some_inj h
   exact nil (then_n ⟨hF.weak ⟨rfl, rfl, rfl, rfl, rfl, rfl, trivial⟩, hS.weak ⟨rfl, rfl, trivial⟩⟩)
  intro a w hF hS
  refine nil (then_n (cond_b hF rfl (fun hbv_5 => ?_) (fun hbv_5 => ?_)))
  ·replace h := cond_t h hbv_5
   refine seq (region (step hF (Y.assign hF rfl) rfl fun a hF => nil (then_n (ret_ (blk_r (then_r (then_r (blk_r (then_r ?_)))))))))
   replace h := ext_some h hxo_1
   obtain rfl := some_inj h
   exact leaveP Tryd.results76 hF hS (.cons (.tmp rfl) .nil) .nil rfl
  replace h := cond_f h hbv_5
  refine skip_ (blk_n (then_n (region (step hF (Y.add hF rfl rfl) rfl fun a hF => step hF (Y.move hF rfl) rfl fun a hF => nil (then_n (⟨_, nxt_some h, v2_1, (wr (v27_0 + 1)), Dv_3, rfl, hlev_3, hF.weak ⟨rfl, rfl, rfl, rfl, rfl, trivial⟩, hS.weak ⟨rfl, trivial⟩⟩))))))
 replace h := cond_f h hbv_3
 refine exit_ (then_x (then_x (blk_hit (then_n ?_))))
 replace h := ext_some h hxo_1
 refine seq (region (step hF (Y.assign hF rfl) rfl fun a hF => nil (then_n (ret_ ?_))))
 obtain rfl := some_inj h
 exact leaveP Tryd.results76 hF hS (.cons (.tmp rfl) .nil) .nil rfl
noncomputable def line_asked (xv : LineNet) (exchange : Int) : Option (line_net × (List (List Int)) × Int) :=
  (line_Check xv).bind fun rv =>
  cond (rv != 0)
  (some ((line_net.mk (LineNet.mk 0 ([] : List LineLine) 0 ([] : List LineLoop)) ([] : (List (line_kind × (List (List Int))))) 0), ([] : List (List Int)), rv))
  ((line_lies exchange 0 (wr (xv.Exchanges - 1))).bind fun rv_1 =>
  cond (!rv_1)
  (some ((line_net.mk (LineNet.mk 0 ([] : List LineLine) 0 ([] : List LineLoop)) ([] : (List (line_kind × (List (List Int))))) 0), ([] : List (List Int)), 61))
  ((line_opened xv 0).bind fun rv_2 =>
  (line_net_reaches rv_2 exchange).bind fun rv_3 =>
  cond (!rv_3)
  (some ((line_net.mk (LineNet.mk 0 ([] : List LineLine) 0 ([] : List LineLoop)) ([] : (List (line_kind × (List (List Int))))) 0), ([] : List (List Int)), 4))
  ((line_net_routes rv_2 exchange).bind fun rv_4 =>
  cond ((rv_4.length : Int) == 0)
  (some ((line_net.mk (LineNet.mk 0 ([] : List LineLine) 0 ([] : List LineLoop)) ([] : (List (line_kind × (List (List Int))))) 0), ([] : List (List Int)), 62))
  (some (rv_2, rv_4, 0)))))
theorem line_asked_ok {w0 : World} {D0 : Stab} (hD : D0.on w0) (xv : LineNet) (exchange : Int) {p : Option Addr} {c : Nat} {p_1 : Option Addr} {c_1 : Nat} (hs : SRc C_LineLine D0 xv.Lines p c) (hs_1 : SRc C_LineLoop D0 xv.Loops p_1 c_1) (hG : Glob D0) (out : (line_net × (List (List Int)) × Int)) (h : line_asked xv exchange = some out) : Calls Tryd.prog 58 [.agg #[.int .i64 xv.Exchanges, .slice p xv.Lines.length c, .int .i64 xv.Hops, .slice p_1 xv.Loops.length c_1], .int .i64 exchange].toArray w0 (RetS D0 w0 fun D v => ∃ p_5 c_5 p_6 c_6 bm_1 p_7 c_7, v = .tuple #[.agg #[.int .i64 out.1.LineNet.Exchanges, .slice p_5 out.1.LineNet.Lines.length c_5, .int .i64 out.1.LineNet.Hops, .slice p_6 out.1.LineNet.Loops.length c_6, .map bm_1, .int .i64 out.1.left], .slice p_7 out.2.1.length c_7, .int .i64 out.2.2] ∧ SRc C_LineLine D out.1.LineNet.Lines p_5 c_5 ∧ SRc C_LineLoop D out.1.LineNet.Loops p_6 c_6 ∧ MapB kl_115 (C_sl (C_sl C_int)) false D out.1.ways bm_1 ∧ SRc (C_sl C_int) D out.2.1 p_7 c_7) := by
 refine enter _ 39 Tryd.func58 rfl Tryd.ntmps58 rfl fun a hF => ?_
 replace hF : Frm 39 [] [(0, .agg #[.int .i64 xv.Exchanges, .slice p xv.Lines.length c, .int .i64 xv.Hops, .slice p_1 xv.Loops.length c_1]), (1, .int .i64 exchange)] a := hF
 have hS := St.start hD
 unfold line_asked at h
 refine seq (region (O.box (cs := [.int .i64 xv.Exchanges, .slice p xv.Lines.length c, .int .i64 xv.Hops, .slice p_1 xv.Loops.length c_1]) 1 hF rfl rfl hS rfl fun b a w hF hS => O.alloc 2 zc_85 hF hS rfl fun b_1 a w hF hS => step hF (Y.assign hF rfl) rfl fun a hF => step hF (Y.assign hF rfl) rfl fun a hF => nil (then_n (seq (seq (region (step hF (Y.loadNL 1 sz_25 hF rfl hS rfl rfl rfl) rfl fun a hF => ?_)))))))
 obtain ⟨rv, hx, h⟩ := bind_some h
 refine O.callP (us := [.agg #[.int .i64 xv.Exchanges, .slice p xv.Lines.length c, .int .i64 xv.Hops, .slice p_1 xv.Loops.length c_1]]) ca_18 hF hS (line_Check_ok hS.stab xv hs hs_1 rv hx) rfl rfl fun a w hF hS => step hF (Y.assign hF rfl) rfl fun a hF => nil (then_n (seq (region (step hF (Y.move hF rfl) rfl fun a hF => step hF (Y.neq hF rfl rfl) rfl fun a hF => nil (then_n (cond_b hF rfl (fun hbv => ?_) (fun hbv => ?_)))))))
 ·replace h := cond_t h hbv
  refine seq (region (step hF (Y.build (parts := []) (cs := #[.int .i64 0, .slice none 0 0, .int .i64 0, .slice none 0 0, .map none, .int .i64 0]) hF rfl (by kernel_rfl)) rfl fun a hF => step hF (Y.move hF rfl) rfl fun a hF => O.store (us := [.int .i64 0, .slice none 0 0, .int .i64 0, .slice none 0 0, .map none, .int .i64 0]) 2 sz_85 hF rfl rfl rfl rfl hS rfl rfl fun a w hF hS => step hF (Y.assign hF rfl) rfl fun a hF => step hF (Y.assign hF rfl) rfl fun a hF => nil (then_n (ret_ (then_r ?_)))))
  obtain rfl := some_inj h
  exact leaveS Tryd.results58 hF hS (.cons (.cellN 2 sz_85 rfl rfl rfl) (.cons (.tmp rfl) (.cons (.tmp rfl) .nil))) .nil ⟨_, _, _, _, _, _, _, rfl, SRc.nil, SRc.nil, MapB.nil, SRc.nil⟩
 replace h := cond_f h hbv
 refine skip_ (then_n (seq (seq (region (step hF (Y.move hF rfl) rfl fun a hF => step hF (Y.fieldAddr fo_25_0 hF rfl) rfl fun a hF => step hF (Y.load1L 1 sz_3 hF rfl hS rfl rfl) rfl fun a hF => step hF (Y.sub hF rfl rfl) rfl fun a hF => ?_)))))
 obtain ⟨rv_1, hx_1, h⟩ := bind_some h
 refine O.callP (us := [.int .i64 exchange, .int .i64 0, .int .i64 (wr (xv.Exchanges - 1))]) ca_62 hF hS (line_lies_ok hS.stab exchange 0 (wr (xv.Exchanges - 1)) rv_1 hx_1) rfl rfl fun a w hF hS => step hF (Y.not hF rfl) rfl fun a hF => nil (then_n (cond_b hF rfl (fun hbv_1 => ?_) (fun hbv_1 => ?_)))
 ·replace h := cond_t h hbv_1
  refine seq (region (step hF (Y.build (parts := []) (cs := #[.int .i64 0, .slice none 0 0, .int .i64 0, .slice none 0 0, .map none, .int .i64 0]) hF rfl (by kernel_rfl)) rfl fun a hF => O.store (us := [.int .i64 0, .slice none 0 0, .int .i64 0, .slice none 0 0, .map none, .int .i64 0]) 2 sz_85 hF rfl rfl rfl rfl hS rfl rfl fun a w hF hS => step hF (Y.assign hF rfl) rfl fun a hF => step hF (Y.assign hF rfl) rfl fun a hF => nil (then_n (ret_ (then_r ?_)))))
  obtain rfl := some_inj h
  exact leaveS Tryd.results58 hF hS (.cons (.cellN 2 sz_85 rfl rfl rfl) (.cons (.tmp rfl) (.cons (.tmp rfl) .nil))) .nil ⟨_, _, _, _, _, _, _, rfl, SRc.nil, SRc.nil, MapB.nil, SRc.nil⟩
 replace h := cond_f h hbv_1
 refine skip_ (then_n (seq (region (step hF (Y.loadNL 1 sz_25 hF rfl hS rfl rfl rfl) rfl fun a hF => ?_))))
 obtain ⟨rv_2, hx_2, h⟩ := bind_some h
 refine O.callS (us := [.agg #[.int .i64 xv.Exchanges, .slice p xv.Lines.length c, .int .i64 xv.Hops, .slice p_1 xv.Loops.length c_1], .int .i64 0]) ca_71 hF hS (line_opened_ok hS.stab xv 0 hs hs_1 hG rv_2 hx_2) rfl rfl fun v Dv a w hR hlev hF hS => ?_
 obtain ⟨p_2, c_2, p_3, c_3, bm, rfl, hs_2, hs_3, hm⟩ := hR
 refine O.alloc 3 zc_85 hF hS rfl fun b_2 a w hF hS => O.store (us := [.int .i64 rv_2.LineNet.Exchanges, .slice p_2 rv_2.LineNet.Lines.length c_2, .int .i64 rv_2.LineNet.Hops, .slice p_3 rv_2.LineNet.Loops.length c_3, .map bm, .int .i64 rv_2.left]) 3 sz_85 hF rfl rfl rfl rfl hS rfl rfl fun a w hF hS => nil (then_n (seq (seq (region (step hF (Y.loadNL 3 sz_85 hF rfl hS rfl rfl rfl) rfl fun a hF => step hF (Y.move hF rfl) rfl fun a hF => ?_)))))
 obtain ⟨rv_3, hx_3, h⟩ := bind_some h
 refine O.callP (us := [.agg #[.int .i64 rv_2.LineNet.Exchanges, .slice p_2 rv_2.LineNet.Lines.length c_2, .int .i64 rv_2.LineNet.Hops, .slice p_3 rv_2.LineNet.Loops.length c_3, .map bm, .int .i64 rv_2.left], .int .i64 exchange]) ca_80 hF hS (line_net_reaches_ok hS.stab rv_2 exchange hs_2 hs_3 hm rv_3 hx_3) rfl rfl fun a w hF hS => step hF (Y.not hF rfl) rfl fun a hF => nil (then_n (cond_b hF rfl (fun hbv_2 => ?_) (fun hbv_2 => ?_)))
 ·replace h := cond_t h hbv_2
  refine seq (region (step hF (Y.build (parts := []) (cs := #[.int .i64 0, .slice none 0 0, .int .i64 0, .slice none 0 0, .map none, .int .i64 0]) hF rfl (by kernel_rfl)) rfl fun a hF => O.store (us := [.int .i64 0, .slice none 0 0, .int .i64 0, .slice none 0 0, .map none, .int .i64 0]) 2 sz_85 hF rfl rfl rfl rfl hS rfl rfl fun a w hF hS => step hF (Y.assign hF rfl) rfl fun a hF => step hF (Y.assign hF rfl) rfl fun a hF => nil (then_n (ret_ (then_r ?_)))))
  obtain rfl := some_inj h
  exact leaveS Tryd.results58 hF hS (.cons (.cellN 2 sz_85 rfl rfl rfl) (.cons (.tmp rfl) (.cons (.tmp rfl) .nil))) .nil ⟨_, _, _, _, _, _, _, rfl, SRc.nil, SRc.nil, MapB.nil, SRc.nil⟩
 replace h := cond_f h hbv_2
 refine skip_ (then_n (seq (region (step hF (Y.loadNL 3 sz_85 hF rfl hS rfl rfl rfl) rfl fun a hF => step hF (Y.move hF rfl) rfl fun a hF => ?_))))
 obtain ⟨rv_4, hx_4, h⟩ := bind_some h
 refine O.callS (us := [.agg #[.int .i64 rv_2.LineNet.Exchanges, .slice p_2 rv_2.LineNet.Lines.length c_2, .int .i64 rv_2.LineNet.Hops, .slice p_3 rv_2.LineNet.Loops.length c_3, .map bm, .int .i64 rv_2.left], .int .i64 exchange]) ca_72 hF hS (line_net_routes_ok hS.stab rv_2 exchange hs_2 hs_3 hm rv_4 hx_4) rfl rfl fun v_1 Dv_1 a w hR_1 hlev_1 hF hS => ?_
 replace hs_2 := hs_2.mono hlev_1
 replace hs_3 := hs_3.mono hlev_1
 replace hm := hm.mono hlev_1
 obtain ⟨p_4, c_4, rfl, hs_4⟩ := hR_1
 refine step hF (Y.assign hF rfl) rfl fun a hF => nil (then_n (seq (seq (region (step hF (Y.move hF rfl) rfl fun a hF => step hF (Y.lenSl u_26 hF rfl) rfl fun a hF => step hF (Y.eql hF rfl rfl) rfl fun a hF => nil (then_n (cond_b hF rfl (fun hbv_3 => ?_) (fun hbv_3 => ?_))))))))
 ·replace h := cond_t h hbv_3
  refine seq (region (step hF (Y.build (parts := []) (cs := #[.int .i64 0, .slice none 0 0, .int .i64 0, .slice none 0 0, .map none, .int .i64 0]) hF rfl (by kernel_rfl)) rfl fun a hF => O.store (us := [.int .i64 0, .slice none 0 0, .int .i64 0, .slice none 0 0, .map none, .int .i64 0]) 2 sz_85 hF rfl rfl rfl rfl hS rfl rfl fun a w hF hS => step hF (Y.assign hF rfl) rfl fun a hF => step hF (Y.assign hF rfl) rfl fun a hF => nil (then_n (ret_ (then_r ?_)))))
  obtain rfl := some_inj h
  exact leaveS Tryd.results58 hF hS (.cons (.cellN 2 sz_85 rfl rfl rfl) (.cons (.tmp rfl) (.cons (.tmp rfl) .nil))) .nil ⟨_, _, _, _, _, _, _, rfl, SRc.nil, SRc.nil, MapB.nil, SRc.nil⟩
 replace h := cond_f h hbv_3
 refine skip_ (then_n (seq (region (step hF (Y.loadNL 3 sz_85 hF rfl hS rfl rfl rfl) rfl fun a hF => step hF (Y.move hF rfl) rfl fun a hF => O.store (us := [.int .i64 rv_2.LineNet.Exchanges, .slice p_2 rv_2.LineNet.Lines.length c_2, .int .i64 rv_2.LineNet.Hops, .slice p_3 rv_2.LineNet.Loops.length c_3, .map bm, .int .i64 rv_2.left]) 2 sz_85 hF rfl rfl rfl rfl hS rfl rfl fun a w hF hS => step hF (Y.assign hF rfl) rfl fun a hF => step hF (Y.assign hF rfl) rfl fun a hF => nil (then_n (ret_ ?_))))))
 obtain rfl := some_inj h
 exact leaveS Tryd.results58 hF hS (.cons (.cellN 2 sz_85 rfl rfl rfl) (.cons (.tmp rfl) (.cons (.tmp rfl) .nil))) .nil ⟨_, _, _, _, _, _, _, rfl, hs_2, hs_3, hm, hs_4⟩
noncomputable def line_Routes_b1 (rv : (line_net × (List (List Int)) × Int)) : ((List (List Int)) × Int) → Option (((List (List Int)) × Int) ⊕ ((List (List Int)) × Int))
 | (outv, v24_0) =>
  cond (decide (v24_0 < (rv.2.1.length : Int)))
  ((idx rv.2.1 v24_0).bind fun e =>
  (slices_Clone___int_int_ e).bind fun rv_1 =>
  if outv.length + ([rv_1]).length ≤ lim then
  nxt ((outv ++ [rv_1]), wr (v24_0 + 1))
  else none)
  (ext (some (outv, 0)))
noncomputable def line_Routes (xv : LineNet) (exchange : Int) : Option ((List (List Int)) × Int) :=
  (line_asked xv exchange).bind fun rv =>
  cond (rv.2.2 != 0)
  (some (([] : List (List Int)), rv.2.2))
  (loopU (line_Routes_b1 rv) (([] : List (List Int)), 0))
theorem line_Routes_ok {w0 : World} {D0 : Stab} (hD : D0.on w0) (xv : LineNet) (exchange : Int) {p : Option Addr} {c : Nat} {p_1 : Option Addr} {c_1 : Nat} (hs : SRc C_LineLine D0 xv.Lines p c) (hs_1 : SRc C_LineLoop D0 xv.Loops p_1 c_1) (hG : Glob D0) (out : ((List (List Int)) × Int)) (h : line_Routes xv exchange = some out) : Calls Tryd.prog 15 [.agg #[.int .i64 xv.Exchanges, .slice p xv.Lines.length c, .int .i64 xv.Hops, .slice p_1 xv.Loops.length c_1], .int .i64 exchange].toArray w0 (RetS D0 w0 fun D v => ∃ p_10 c_10, v = .tuple #[.slice p_10 out.1.length c_10, .int .i64 out.2] ∧ SRc (C_sl C_int) D out.1 p_10 c_10) := by
 refine enter _ 40 Tryd.func15 rfl Tryd.ntmps15 rfl fun a hF => ?_
 replace hF : Frm 40 [] [(0, .agg #[.int .i64 xv.Exchanges, .slice p xv.Lines.length c, .int .i64 xv.Hops, .slice p_1 xv.Loops.length c_1]), (1, .int .i64 exchange)] a := hF
 have hS := St.start hD
 unfold line_Routes at h
 refine seq (region (O.box (cs := [.int .i64 xv.Exchanges, .slice p xv.Lines.length c, .int .i64 xv.Hops, .slice p_1 xv.Loops.length c_1]) 1 hF rfl rfl hS rfl fun b a w hF hS => step hF (Y.assign hF rfl) rfl fun a hF => step hF (Y.assign hF rfl) rfl fun a hF => nil (then_n (seq (region (step hF (Y.loadNL 1 sz_25 hF rfl hS rfl rfl rfl) rfl fun a hF => step hF (Y.move hF rfl) rfl fun a hF => ?_))))))
 obtain ⟨rv, hx, h⟩ := bind_some h
 refine O.callS (us := [.agg #[.int .i64 xv.Exchanges, .slice p xv.Lines.length c, .int .i64 xv.Hops, .slice p_1 xv.Loops.length c_1], .int .i64 exchange]) ca_58 hF hS (line_asked_ok hS.stab xv exchange hs hs_1 hG rv hx) rfl rfl fun v Dv a w hR hlev hF hS => ?_
 obtain ⟨p_2, c_2, p_3, c_3, bm, p_4, c_4, rfl, hs_2, hs_3, hm, hs_4⟩ := hR
 refine step hF (Y.move hF rfl) rfl fun a hF => step hF (Y.extract hF rfl rfl) rfl fun a hF => step hF (Y.extract hF rfl rfl) rfl fun a hF => step hF (Y.extract hF rfl rfl) rfl fun a hF => O.alloc 2 zc_85 hF hS rfl fun b_1 a w hF hS => O.store (us := [.int .i64 rv.1.LineNet.Exchanges, .slice p_2 rv.1.LineNet.Lines.length c_2, .int .i64 rv.1.LineNet.Hops, .slice p_3 rv.1.LineNet.Loops.length c_3, .map bm, .int .i64 rv.1.left]) 2 sz_85 hF rfl rfl rfl rfl hS rfl rfl fun a w hF hS => step hF (Y.assign hF rfl) rfl fun a hF => step hF (Y.assign hF rfl) rfl fun a hF => nil (then_n (seq (seq (region (step hF (Y.move hF rfl) rfl fun a hF => step hF (Y.neq hF rfl rfl) rfl fun a hF => nil (then_n (cond_b hF rfl (fun hbv => ?_) (fun hbv => ?_))))))))
 ·replace h := cond_t h hbv
  refine seq (region (step hF (Y.move hF rfl) rfl fun a hF => step hF (Y.assign hF rfl) rfl fun a hF => step hF (Y.assign hF rfl) rfl fun a hF => nil (then_n (ret_ (then_r ?_)))))
  obtain rfl := some_inj h
  exact leaveS Tryd.results15 hF hS (.cons (.tmp rfl) (.cons (.tmp rfl) .nil)) .nil ⟨_, _, rfl, SRc.nil⟩
 replace h := cond_f h hbv
 refine skip_ (then_n (seq (region (step hF (Y.assign hF rfl) rfl fun a hF => ?_))))
 replace hS := hS.ownNil 3 32 1
 refine nil (then_n (seq (seq (region (step hF (Y.move hF rfl) rfl fun a hF => step hF (Y.lenSl u_26 hF rfl) rfl fun a hF => step hF (Y.move hF rfl) rfl fun a hF => nil (then_n (block (loop_cut (body := line_Routes_b1 rv) (out := out) (fun s a w => ∃ (outv : (List (List Int))) (v24_0 : Int), ∃ (Dv_1 : Stab), ∃ p_5 c_5 cs, s = (outv, v24_0) ∧ Dv.le Dv_1 ∧ Frm 40 [] [(4, .slice none 0 0), (5, .int .i64 0), (9, .slice p_5 outv.length c_5), (22, .slice p_4 rv.2.1.length c_4), (23, .int .i64 (rv.2.1.length : Int)), (24, .int .i64 v24_0)] a ∧ St w0 D0 Dv_1 [(1, .cells b [.int .i64 xv.Exchanges, .slice p xv.Lines.length c, .int .i64 xv.Hops, .slice p_1 xv.Loops.length c_1] 25), (2, .cells b_1 [.int .i64 rv.1.LineNet.Exchanges, .slice p_2 rv.1.LineNet.Lines.length c_2, .int .i64 rv.1.LineNet.Hops, .slice p_3 rv.1.LineNet.Loops.length c_3, .map bm, .int .i64 rv.1.left] 85), (3, .own p_5 outv.length c_5 cs 32 1)] w ∧ Reps (C_sl C_int) Dv_1 outv cs) (([] : List (List Int)), 0) h ⟨([] : List (List Int)), 0, Dv, none, 0, ([]), rfl, Stab.le.refl _, hF.weak ⟨rfl, rfl, rfl, rfl, rfl, rfl, trivial⟩, hS.weak ⟨rfl, rfl, rfl, trivial⟩, Reps.nil⟩ ?_))))))))
 rintro s a w xo ⟨outv, v24_0, Dv_1, p_5, c_5, cs, rfl, hlev_1, hF, hS, hr⟩ h hxo
 unfold line_Routes_b1 at h
 dsimp only at h
 replace hs_4 := hs_4.mono hlev_1
 refine seq (region (step hF (Y.lss hF rfl rfl) rfl fun a hF => nil (then_n (seq (cond_b hF rfl (fun hbv_1 => ?_) (fun hbv_1 => ?_))))))
 ·replace h := cond_t h hbv_1
  refine skip_ (then_n (seq (block (seq (region ?_)))))
  obtain ⟨e, hx_1, h⟩ := bind_some h
  obtain ⟨b_2, o, hE, hY⟩ := Y.indexS (P := Tryd.prog) (C := (C_sl C_int)) (xs := rv.2.1) (T := 26) (x := (.tmp 22)) (y := (.tmp 24)) u_26 sz_32 hF rfl rfl (hs_4).1 hx_1
  obtain ⟨cc, hc, hcell⟩ := hE.open
  obtain ⟨p_6, c_6, rfl, hs_5⟩ := hc
  refine step hF (hY) rfl fun a hF => step hF (Y.load1 sz_32 hF rfl (hcell _ hS.stab 0 _ rfl)) rfl fun a hF => step hF (Y.assign hF rfl) rfl fun a hF => nil (then_n (region (step hF (Y.move hF rfl) rfl fun a hF => step hF (Y.move hF rfl) rfl fun a hF => ?_)))
  obtain ⟨rv_1, hx_2, h⟩ := bind_some h
  refine O.callS (us := [.slice p_6 e.length c_6]) ca_59 hF hS (slices_Clone___int_int__ok hS.stab e hs_5 rv_1 hx_2) rfl rfl fun v_1 Dv_2 a w hR_1 hlev_2 hF hS => ?_
  replace hr := hr.mono hlev_2
  obtain ⟨p_7, c_7, rfl, hs_6⟩ := hR_1
  have hr_1 : Reps (C_sl C_int) Dv_2 [rv_1] [.slice p_7 rv_1.length c_7] := Reps.cons (C := (C_sl C_int)) (x := rv_1) (c := [.slice p_7 rv_1.length c_7]) (r := []) (⟨_, _, rfl, hs_6⟩) (Reps.nil)
  refine O.buildSlice (E := 32) (C := (C_sl C_int)) (xs := [rv_1]) (cs := [.slice p_7 rv_1.length c_7]) (us := [.slice p_7 rv_1.length c_7]) (parts := [(0, (.tmp 30))]) 4 hF hS rfl (by kernel_rfl) hr_1 rfl rfl rfl fun p_8 c_8 a w hF hS => ?_
  obtain ⟨hg, h⟩ := ite_some h
  refine O.append (C := (C_sl C_int)) (xs := outv) (ys := [rv_1]) 3 gr_26 hF rfl rfl hS rfl (src_own (i := 4) hS rfl) hr hr_1 hg rfl fun p_9 c_9 a w hF hS hr_2 => step hF (Y.assign hF rfl) rfl fun a hF => nil (blk_n (then_n (region (step hF (Y.add hF rfl rfl) rfl fun a hF => step hF (Y.move hF rfl) rfl fun a hF => nil (then_n (⟨_, nxt_some h, (outv ++ [rv_1]), (wr (v24_0 + 1)), Dv_2, p_9, c_9, (cs ++ [.slice p_7 rv_1.length c_7]), rfl, hlev_1.trans hlev_2, hF.weak ⟨rfl, rfl, rfl, rfl, rfl, rfl, trivial⟩, hS.weak ⟨rfl, rfl, rfl, trivial⟩, hr_2⟩))))))
 replace h := cond_f h hbv_1
 refine exit_ (then_x (then_x (blk_hit (then_n ?_))))
 replace h := ext_some h hxo
 refine seq (region (step hF (Y.move hF rfl) rfl fun a hF => step hF (Y.move hF rfl) rfl fun a hF => step hF (Y.lenSl u_26 hF rfl) rfl fun a hF => step hF (Y.move hF rfl) rfl fun a hF => step hF (Y.lenSl u_26 hF rfl) rfl fun a hF => step hF (Y.slice3 u_26 sz_32 hF rfl rfl rfl (own_cap (i := 3) hS rfl)) rfl fun a hF => step hF (Y.assign hF rfl) rfl fun a hF => step hF (Y.assign hF rfl) rfl fun a hF => nil (then_n (ret_ ?_))))
 obtain ⟨Dv_3, hlev_3, hs_7, hS⟩ := hS.freezeC (C := (C_sl C_int)) (i := 3) (xs := outv) rfl hr
 obtain rfl := some_inj h
 exact leaveS Tryd.results15 hF hS (.cons (.tmp rfl) (.cons (.tmp rfl) .nil)) .nil ⟨_, _, rfl, (⟨hs_7.1, Nat.le_refl _⟩ : SRc _ _ _ _ _)⟩
noncomputable def line_Delay_b1 (exchange : Int) (rv : (line_net × (List (List Int)) × Int)) : (Int × Int × Int) → Option ((Int × Int × Int) ⊕ (Span × Int))
 | (v37_0, z, z_1) =>
  cond (decide (v37_0 < (rv.2.1.length : Int)))
  ((idx rv.2.1 v37_0).bind fun e_1 =>
  (line_net_delay rv.1 exchange e_1).bind fun rv_2 =>
  nxt (wr (v37_0 + 1), (if rv_2.1.Low < z then rv_2.1.Low else z), (if rv_2.1.High > z_1 then rv_2.1.High else z_1)))
  (ext (some ((Span.mk z z_1), 0)))
noncomputable def line_Delay (xv : LineNet) (exchange : Int) : Option (Span × Int) :=
  (line_asked xv exchange).bind fun rv =>
  cond (rv.2.2 != 0)
  (some ((Span.mk 0 0), rv.2.2))
  ((idx rv.2.1 0).bind fun e =>
  (line_net_delay rv.1 exchange e).bind fun rv_1 =>
  loopU (line_Delay_b1 exchange rv) (0, rv_1.1.Low, rv_1.1.High))
theorem line_Delay_ok {w0 : World} {D0 : Stab} (hD : D0.on w0) (xv : LineNet) (exchange : Int) {p : Option Addr} {c : Nat} {p_1 : Option Addr} {c_1 : Nat} (hs : SRc C_LineLine D0 xv.Lines p c) (hs_1 : SRc C_LineLoop D0 xv.Loops p_1 c_1) (hG : Glob D0) (out : (Span × Int)) (h : line_Delay xv exchange = some out) : Calls Tryd.prog 24 [.agg #[.int .i64 xv.Exchanges, .slice p xv.Lines.length c, .int .i64 xv.Hops, .slice p_1 xv.Loops.length c_1], .int .i64 exchange].toArray w0 (RetP D0 w0 (.tuple #[.agg #[.int .i64 out.1.Low, .int .i64 out.1.High], .int .i64 out.2])) := by
 refine enter _ 61 Tryd.func24 rfl Tryd.ntmps24 rfl fun a hF => ?_
 replace hF : Frm 61 [] [(0, .agg #[.int .i64 xv.Exchanges, .slice p xv.Lines.length c, .int .i64 xv.Hops, .slice p_1 xv.Loops.length c_1]), (1, .int .i64 exchange)] a := hF
 have hS := St.start hD
 unfold line_Delay at h
 refine seq (region (O.box (cs := [.int .i64 xv.Exchanges, .slice p xv.Lines.length c, .int .i64 xv.Hops, .slice p_1 xv.Loops.length c_1]) 1 hF rfl rfl hS rfl fun b a w hF hS => O.alloc 2 zc_40 hF hS rfl fun b_1 a w hF hS => step hF (Y.assign hF rfl) rfl fun a hF => nil (then_n (seq (region (step hF (Y.loadNL 1 sz_25 hF rfl hS rfl rfl rfl) rfl fun a hF => step hF (Y.move hF rfl) rfl fun a hF => ?_))))))
 obtain ⟨rv, hx, h⟩ := bind_some h
 refine O.callS (us := [.agg #[.int .i64 xv.Exchanges, .slice p xv.Lines.length c, .int .i64 xv.Hops, .slice p_1 xv.Loops.length c_1], .int .i64 exchange]) ca_58 hF hS (line_asked_ok hS.stab xv exchange hs hs_1 hG rv hx) rfl rfl fun v Dv a w hR hlev hF hS => ?_
 obtain ⟨p_2, c_2, p_3, c_3, bm, p_4, c_4, rfl, hs_2, hs_3, hm, hs_4⟩ := hR
 refine step hF (Y.move hF rfl) rfl fun a hF => step hF (Y.extract hF rfl rfl) rfl fun a hF => step hF (Y.extract hF rfl rfl) rfl fun a hF => step hF (Y.extract hF rfl rfl) rfl fun a hF => O.alloc 3 zc_85 hF hS rfl fun b_2 a w hF hS => O.store (us := [.int .i64 rv.1.LineNet.Exchanges, .slice p_2 rv.1.LineNet.Lines.length c_2, .int .i64 rv.1.LineNet.Hops, .slice p_3 rv.1.LineNet.Loops.length c_3, .map bm, .int .i64 rv.1.left]) 3 sz_85 hF rfl rfl rfl rfl hS rfl rfl fun a w hF hS => step hF (Y.assign hF rfl) rfl fun a hF => step hF (Y.assign hF rfl) rfl fun a hF => nil (then_n (seq (seq (region (step hF (Y.move hF rfl) rfl fun a hF => step hF (Y.neq hF rfl rfl) rfl fun a hF => nil (then_n (cond_b hF rfl (fun hbv => ?_) (fun hbv => ?_))))))))
 ·replace h := cond_t h hbv
  refine seq (region (step hF (Y.build (parts := []) (cs := #[.int .i64 0, .int .i64 0]) hF rfl (by kernel_rfl)) rfl fun a hF => step hF (Y.move hF rfl) rfl fun a hF => O.store (us := [.int .i64 0, .int .i64 0]) 2 sz_40 hF rfl rfl rfl rfl hS rfl rfl fun a w hF hS => step hF (Y.assign hF rfl) rfl fun a hF => nil (then_n (ret_ (then_r ?_)))))
  obtain rfl := some_inj h
  exact leaveP Tryd.results24 hF hS (.cons (.cellN 2 sz_40 rfl rfl rfl) (.cons (.tmp rfl) .nil)) .nil rfl
 replace h := cond_f h hbv
 refine skip_ (then_n (seq ?_))
 obtain ⟨e, hx_1, h⟩ := bind_some h
 obtain ⟨rv_1, hx_2, h⟩ := bind_some h
 refine drawsV 11 (.flt 0 (.flt 1 (.flt 2 (.flt 3 (.flt 4 (.alt 5 (.flt 6 (.flt 7 (.flt 8 (.alt 9 (.alt 10 .done .stop) .stop)))) (.alt 9 (.alt 5 (.flt 6 (.flt 7 (.flt 8 (.alt 10 .done .stop)))) .stop) .stop))))))) mixed_ (by kernel_rfl) (fun w => St w0 D0 Dv [(1, .cells b [.int .i64 xv.Exchanges, .slice p xv.Lines.length c, .int .i64 xv.Hops, .slice p_1 xv.Loops.length c_1] 25), (2, .cells b_1 [.int .i64 0, .int .i64 0] 40), (3, .cells b_2 [.int .i64 rv.1.LineNet.Exchanges, .slice p_2 rv.1.LineNet.Lines.length c_2, .int .i64 rv.1.LineNet.Hops, .slice p_3 rv.1.LineNet.Loops.length c_3, .map bm, .int .i64 rv.1.left] 85)] w) (fun a w => ∃ (b_4 : Nat), Frm 61 [] [(1, .int .i64 exchange), (4, .pointer (some ⟨b_1, 0, none⟩)), (5, .int .i64 0), (6, .pointer (some ⟨b_2, 0, none⟩)), (7, .slice p_4 rv.2.1.length c_4), (9, .pointer (some ⟨b_4, 0, none⟩)), (34, .bool rv_1.2)] a ∧ St w0 D0 Dv [(1, .cells b [.int .i64 xv.Exchanges, .slice p xv.Lines.length c, .int .i64 xv.Hops, .slice p_1 xv.Loops.length c_1] 25), (2, .cells b_1 [.int .i64 0, .int .i64 0] 40), (3, .cells b_2 [.int .i64 rv.1.LineNet.Exchanges, .slice p_2 rv.1.LineNet.Lines.length c_2, .int .i64 rv.1.LineNet.Hops, .slice p_3 rv.1.LineNet.Loops.length c_3, .map bm, .int .i64 rv.1.left] 85), (4, .cells b_4 [.int .i64 rv_1.1.Low, .int .i64 rv_1.1.High] 40)] w) (hS.weak (ms := [(1, .cells b [.int .i64 xv.Exchanges, .slice p xv.Lines.length c, .int .i64 xv.Hops, .slice p_1 xv.Loops.length c_1] 25), (2, .cells b_1 [.int .i64 0, .int .i64 0] 40), (3, .cells b_2 [.int .i64 rv.1.LineNet.Exchanges, .slice p_2 rv.1.LineNet.Lines.length c_2, .int .i64 rv.1.LineNet.Hops, .slice p_3 rv.1.LineNet.Loops.length c_3, .map bm, .int .i64 rv.1.left] 85)]) ⟨rfl, rfl, rfl, trivial⟩).drew (fun _ _ _ _ h => h) ?_ ?_
 ·replace hS := hS.drew
  have hle0 := hS.le
  refine stepV (i := 0) rfl hF (fun w hS => Y.loadNL 3 sz_85 hF rfl hS rfl rfl rfl) rfl fun a hF => stepV (i := 1) rfl hF (fun w hS => Y.move hF rfl) rfl fun a hF => stepV (i := 2) rfl hF (fun w hS => Y.move hF rfl) rfl fun a hF => ?_
  obtain ⟨b_5, o_1, hE_1, hY_1⟩ := Y.indexS (P := Tryd.prog) (C := (C_sl C_int)) (xs := rv.2.1) (T := 26) (x := (.tmp 29)) (y := (.const (.int .i64 0))) u_26 sz_32 hF rfl rfl (hs_4).1 hx_1
  obtain ⟨cc_1, hc_1, hcell_1⟩ := hE_1.open
  obtain ⟨p_6, c_6, rfl, hs_6⟩ := hc_1
  refine stepV (i := 3) rfl hF (fun w hS => hY_1) rfl fun a hF => stepV (i := 4) rfl hF (fun w hS => Y.load1 sz_32 hF rfl (hcell_1 _ hS.stab 0 _ rfl)) rfl fun a hF => oneV (i := 5) rfl ?_ ?_
  ·skip
   refine O.callP (us := [.agg #[.int .i64 rv.1.LineNet.Exchanges, .slice p_2 rv.1.LineNet.Lines.length c_2, .int .i64 rv.1.LineNet.Hops, .slice p_3 rv.1.LineNet.Loops.length c_3, .map bm, .int .i64 rv.1.left], .int .i64 exchange, .slice p_6 e.length c_6]) ca_67 hF hS (line_net_delay_ok hS.stab rv.1 exchange e hs_2 hs_3 hm hs_6 rv_1 hx_2) rfl rfl fun a w hF hS => nil (then_n ⟨hS.weak ⟨rfl, rfl, rfl, trivial⟩, ?_⟩)
   refine stepV (i := 6) rfl hF (fun w hS => Y.move hF rfl) rfl fun a hF => stepV (i := 7) rfl hF (fun w hS => Y.extract hF rfl rfl) rfl fun a hF => stepV (i := 8) rfl hF (fun w hS => Y.extract hF rfl rfl) rfl fun a hF => oneV (i := 9) rfl ?_ trivial
   refine O.alloc 4 zc_40 hF hS rfl fun b_6 a w hF hS => nil (then_n ⟨hS.weak ⟨rfl, rfl, rfl, trivial⟩, ?_⟩)
   refine oneV (i := 10) rfl ?_ trivial
   refine O.store (us := [.int .i64 rv_1.1.Low, .int .i64 rv_1.1.High]) 4 sz_40 hF rfl rfl rfl rfl hS rfl rfl fun a w hF hS => nil (then_n ⟨hS.weak ⟨rfl, rfl, rfl, trivial⟩, ?_⟩)
   exact toTailV ⟨b_6, hF.weak ⟨rfl, rfl, rfl, rfl, rfl, rfl, rfl, trivial⟩, hS.weak ⟨rfl, rfl, rfl, rfl, trivial⟩⟩
  refine oneV (i := 9) rfl ?_ trivial
  refine O.alloc 4 zc_40 hF hS rfl fun b_7 a w hF hS => nil (then_n ⟨hS.weak ⟨rfl, rfl, rfl, trivial⟩, ?_⟩)
  refine oneV (i := 5) rfl ?_ trivial
  refine O.callP (us := [.agg #[.int .i64 rv.1.LineNet.Exchanges, .slice p_2 rv.1.LineNet.Lines.length c_2, .int .i64 rv.1.LineNet.Hops, .slice p_3 rv.1.LineNet.Loops.length c_3, .map bm, .int .i64 rv.1.left], .int .i64 exchange, .slice p_6 e.length c_6]) ca_67 hF hS (line_net_delay_ok hS.stab rv.1 exchange e hs_2 hs_3 hm hs_6 rv_1 hx_2) rfl rfl fun a w hF hS => nil (then_n ⟨hS.weak ⟨rfl, rfl, rfl, trivial⟩, ?_⟩)
  refine stepV (i := 6) rfl hF (fun w hS => Y.move hF rfl) rfl fun a hF => stepV (i := 7) rfl hF (fun w hS => Y.extract hF rfl rfl) rfl fun a hF => stepV (i := 8) rfl hF (fun w hS => Y.extract hF rfl rfl) rfl fun a hF => oneV (i := 10) rfl ?_ trivial
  refine O.store (us := [.int .i64 rv_1.1.Low, .int .i64 rv_1.1.High]) 4 sz_40 hF rfl rfl rfl rfl hS rfl rfl fun a w hF hS => nil (then_n ⟨hS.weak ⟨rfl, rfl, rfl, trivial⟩, ?_⟩)
  exact toTailV ⟨b_7, hF.weak ⟨rfl, rfl, rfl, rfl, rfl, rfl, rfl, trivial⟩, hS.weak ⟨rfl, rfl, rfl, rfl, trivial⟩⟩
 rintro a w ⟨b_4, hF, hS⟩
 refine step hF (Y.assign hF rfl) rfl fun a hF => nil (then_n (seq (seq (region (step hF (Y.move hF rfl) rfl fun a hF => step hF (Y.lenSl u_26 hF rfl) rfl fun a hF => step hF (Y.move hF rfl) rfl fun a hF => nil (then_n (block (loop_cut (body := line_Delay_b1 exchange rv) (out := out) (fun s a w => ∃ (v37_0 : Int) (z : Int) (z_1 : Int), ∃ (Dv_1 : Stab), s = (v37_0, z, z_1) ∧ Dv.le Dv_1 ∧ Frm 61 [] [(1, .int .i64 exchange), (4, .pointer (some ⟨b_1, 0, none⟩)), (5, .int .i64 0), (6, .pointer (some ⟨b_2, 0, none⟩)), (9, .pointer (some ⟨b_4, 0, none⟩)), (35, .slice p_4 rv.2.1.length c_4), (36, .int .i64 (rv.2.1.length : Int)), (37, .int .i64 v37_0)] a ∧ St w0 D0 Dv_1 [(1, .cells b [.int .i64 xv.Exchanges, .slice p xv.Lines.length c, .int .i64 xv.Hops, .slice p_1 xv.Loops.length c_1] 25), (2, .cells b_1 [.int .i64 0, .int .i64 0] 40), (3, .cells b_2 [.int .i64 rv.1.LineNet.Exchanges, .slice p_2 rv.1.LineNet.Lines.length c_2, .int .i64 rv.1.LineNet.Hops, .slice p_3 rv.1.LineNet.Loops.length c_3, .map bm, .int .i64 rv.1.left] 85), (4, .cells b_4 [.int .i64 z, .int .i64 z_1] 40)] w) (0, rv_1.1.Low, rv_1.1.High) h ⟨0, rv_1.1.Low, rv_1.1.High, Dv, rfl, Stab.le.refl _, hF.weak ⟨rfl, rfl, rfl, rfl, rfl, rfl, rfl, rfl, trivial⟩, hS.weak ⟨rfl, rfl, rfl, rfl, trivial⟩⟩ ?_))))))))
 rintro s a w xo ⟨v37_0, z, z_1, Dv_1, rfl, hlev_1, hF, hS⟩ h hxo
 unfold line_Delay_b1 at h
 dsimp only at h
 replace hs_2 := hs_2.mono hlev_1
 replace hs_3 := hs_3.mono hlev_1
 replace hm := hm.mono hlev_1
 replace hs_4 := hs_4.mono hlev_1
 refine seq (region (step hF (Y.lss hF rfl rfl) rfl fun a hF => nil (then_n (seq (cond_b hF rfl (fun hbv_1 => ?_) (fun hbv_1 => ?_))))))
 ·replace h := cond_t h hbv_1
  refine skip_ (then_n (seq (block (seq (region ?_)))))
  obtain ⟨e_1, hx_3, h⟩ := bind_some h
  obtain ⟨b_8, o_2, hE_2, hY_2⟩ := Y.indexS (P := Tryd.prog) (C := (C_sl C_int)) (xs := rv.2.1) (T := 26) (x := (.tmp 35)) (y := (.tmp 37)) u_26 sz_32 hF rfl rfl (hs_4).1 hx_3
  obtain ⟨cc_2, hc_2, hcell_2⟩ := hE_2.open
  obtain ⟨p_7, c_7, rfl, hs_7⟩ := hc_2
  refine step hF (hY_2) rfl fun a hF => step hF (Y.load1 sz_32 hF rfl (hcell_2 _ hS.stab 0 _ rfl)) rfl fun a hF => step hF (Y.assign hF rfl) rfl fun a hF => nil (then_n (seq (region (step hF (Y.loadNL 3 sz_85 hF rfl hS rfl rfl rfl) rfl fun a hF => step hF (Y.move hF rfl) rfl fun a hF => step hF (Y.move hF rfl) rfl fun a hF => ?_))))
  obtain ⟨rv_2, hx_4, h⟩ := bind_some h
  refine O.callP (us := [.agg #[.int .i64 rv.1.LineNet.Exchanges, .slice p_2 rv.1.LineNet.Lines.length c_2, .int .i64 rv.1.LineNet.Hops, .slice p_3 rv.1.LineNet.Loops.length c_3, .map bm, .int .i64 rv.1.left], .int .i64 exchange, .slice p_7 e_1.length c_7]) ca_67 hF hS (line_net_delay_ok hS.stab rv.1 exchange e_1 hs_2 hs_3 hm hs_7 rv_2 hx_4) rfl rfl fun a w hF hS => step hF (Y.move hF rfl) rfl fun a hF => step hF (Y.extract hF rfl rfl) rfl fun a hF => step hF (Y.extract hF rfl rfl) rfl fun a hF => O.alloc 5 zc_40 hF hS rfl fun b_9 a w hF hS => O.store (us := [.int .i64 rv_2.1.Low, .int .i64 rv_2.1.High]) 5 sz_40 hF rfl rfl rfl rfl hS rfl rfl fun a w hF hS => step hF (Y.assign hF rfl) rfl fun a hF => nil (then_n (region (step hF (Y.fieldAddr fo_40_0 hF rfl) rfl fun a hF => step hF (Y.load1L 4 sz_3 hF rfl hS rfl rfl) rfl fun a hF => step hF (Y.fieldAddr fo_40_0 hF rfl) rfl fun a hF => step hF (Y.load1L 5 sz_3 hF rfl hS rfl rfl) rfl fun a hF => step hF (Y.min2 hF rfl rfl) rfl fun a hF => step hF (Y.fieldAddr fo_40_1 hF rfl) rfl fun a hF => step hF (Y.load1L 4 sz_3 hF rfl hS rfl rfl) rfl fun a hF => step hF (Y.fieldAddr fo_40_1 hF rfl) rfl fun a hF => step hF (Y.load1L 5 sz_3 hF rfl hS rfl rfl) rfl fun a hF => step hF (Y.max2 hF rfl rfl) rfl fun a hF => step hF (Y.build (parts := [(0, (.tmp 52)), (1, (.tmp 57))]) (cs := #[.int .i64 (if rv_2.1.Low < z then rv_2.1.Low else z), .int .i64 (if rv_2.1.High > z_1 then rv_2.1.High else z_1)]) hF rfl (by kernel_rfl)) rfl fun a hF => O.store (us := [.int .i64 (if rv_2.1.Low < z then rv_2.1.Low else z), .int .i64 (if rv_2.1.High > z_1 then rv_2.1.High else z_1)]) 4 sz_40 hF rfl rfl rfl rfl hS rfl rfl fun a w hF hS => nil (blk_n (then_n (region (step hF (Y.add hF rfl rfl) rfl fun a hF => step hF (Y.move hF rfl) rfl fun a hF => nil (then_n (⟨_, nxt_some h, (wr (v37_0 + 1)), (if rv_2.1.Low < z then rv_2.1.Low else z), (if rv_2.1.High > z_1 then rv_2.1.High else z_1), Dv_1, rfl, hlev_1, hF.weak ⟨rfl, rfl, rfl, rfl, rfl, rfl, rfl, rfl, trivial⟩, hS.weak ⟨rfl, rfl, rfl, rfl, trivial⟩⟩)))))))))
 replace h := cond_f h hbv_1
 refine exit_ (then_x (then_x (blk_hit (then_n ?_))))
 replace h := ext_some h hxo
 refine seq (region (step hF (Y.loadNL 4 sz_40 hF rfl hS rfl rfl rfl) rfl fun a hF => O.store (us := [.int .i64 z, .int .i64 z_1]) 2 sz_40 hF rfl rfl rfl rfl hS rfl rfl fun a w hF hS => step hF (Y.assign hF rfl) rfl fun a hF => nil (then_n (ret_ ?_))))
 obtain rfl := some_inj h
 exact leaveP Tryd.results24 hF hS (.cons (.cellN 2 sz_40 rfl rfl rfl) (.cons (.tmp rfl) .nil)) .nil rfl
noncomputable def line_Can_1 (way : (List Int)) (cv : line_net) (cv_1 : Int) (cv_2 : Int) : Option Bool :=
  (line_net_delay cv cv_1 way).bind fun rv =>
  (line_lies cv_2 rv.1.Low rv.1.High).bind fun rv_1 =>
  some rv_1
theorem line_Can_1_ok {w0 : World} {D0 : Stab} (hD : D0.on w0) (way : (List Int)) (cv : line_net) (cv_1 : Int) (cv_2 : Int) {p : Option Addr} {c : Nat} {p_1 : Option Addr} {c_1 : Nat} {p_2 : Option Addr} {c_2 : Nat} {bm : Option Nat} {bb : Nat} {bb_1 : Nat} {bb_2 : Nat} (hs : SRc C_int D0 way p c) (hs_1 : SRc C_LineLine D0 cv.LineNet.Lines p_1 c_1) (hs_2 : SRc C_LineLoop D0 cv.LineNet.Loops p_2 c_2) (hm : MapB kl_115 (C_sl (C_sl C_int)) false D0 cv.ways bm) (hbv : w0.heap[bb]? = some (.cells ([.int .i64 cv.LineNet.Exchanges, .slice p_1 cv.LineNet.Lines.length c_1, .int .i64 cv.LineNet.Hops, .slice p_2 cv.LineNet.Loops.length c_2, .map bm, .int .i64 cv.left]).toArray 85 (0, 0))) (hbv_1 : w0.heap[bb_1]? = some (.cells ([.int .i64 cv_1]).toArray 3 (0, 0))) (hbv_2 : w0.heap[bb_2]? = some (.cells ([.int .i64 cv_2]).toArray 3 (0, 0))) (out : Bool) (h : line_Can_1 way cv cv_1 cv_2 = some out) : Calls Tryd.prog 70 [.slice p way.length c, .pointer (some ⟨bb, 0, none⟩), .pointer (some ⟨bb_1, 0, none⟩), .pointer (some ⟨bb_2, 0, none⟩)].toArray w0 (RetP D0 w0 (.bool out)) := by
 refine enter _ 21 Tryd.func70 rfl Tryd.ntmps70 rfl fun a hF => ?_
 replace hF : Frm 21 [] [(0, .slice p way.length c), (1, .pointer (some ⟨bb, 0, none⟩)), (2, .pointer (some ⟨bb_1, 0, none⟩)), (3, .pointer (some ⟨bb_2, 0, none⟩))] a := hF
 have hS := St.start hD
 unfold line_Can_1 at h
 refine seq (region (step hF (Y.assign hF rfl) rfl fun a hF => nil (then_n (seq (region (step hF (Y.loadNH sz_85 hF rfl (hS.old hbv) rfl rfl) rfl fun a hF => step hF (Y.load1H sz_3 hF rfl (hS.old hbv_1) rfl) rfl fun a hF => step hF (Y.move hF rfl) rfl fun a hF => ?_))))))
 obtain ⟨rv, hx, h⟩ := bind_some h
 refine O.callP (us := [.agg #[.int .i64 cv.LineNet.Exchanges, .slice p_1 cv.LineNet.Lines.length c_1, .int .i64 cv.LineNet.Hops, .slice p_2 cv.LineNet.Loops.length c_2, .map bm, .int .i64 cv.left], .int .i64 cv_1, .slice p way.length c]) ca_67 hF hS (line_net_delay_ok hS.stab cv cv_1 way hs_1 hs_2 hm hs rv hx) rfl rfl fun a w hF hS => step hF (Y.move hF rfl) rfl fun a hF => step hF (Y.extract hF rfl rfl) rfl fun a hF => step hF (Y.extract hF rfl rfl) rfl fun a hF => O.alloc 4 zc_40 hF hS rfl fun b a w hF hS => O.store (us := [.int .i64 rv.1.Low, .int .i64 rv.1.High]) 4 sz_40 hF rfl rfl rfl rfl hS rfl rfl fun a w hF hS => step hF (Y.assign hF rfl) rfl fun a hF => nil (then_n (seq (region (step hF (Y.load1H sz_3 hF rfl (hS.old hbv_2) rfl) rfl fun a hF => step hF (Y.fieldAddr fo_40_0 hF rfl) rfl fun a hF => step hF (Y.load1L 4 sz_3 hF rfl hS rfl rfl) rfl fun a hF => step hF (Y.fieldAddr fo_40_1 hF rfl) rfl fun a hF => step hF (Y.load1L 4 sz_3 hF rfl hS rfl rfl) rfl fun a hF => ?_))))
 obtain ⟨rv_1, hx_1, h⟩ := bind_some h
 refine O.callP (us := [.int .i64 cv_2, .int .i64 rv.1.Low, .int .i64 rv.1.High]) ca_62 hF hS (line_lies_ok hS.stab cv_2 rv.1.Low rv.1.High rv_1 hx_1) rfl rfl fun a w hF hS => step hF (Y.assign hF rfl) rfl fun a hF => nil (then_n (ret_ ?_))
 obtain rfl := some_inj h
 exact leaveP Tryd.results70 hF hS (.cons (.tmp rfl) .nil) .nil rfl
noncomputable def slices_IndexFunc_____int___int__b1 (sv : (List (List Int))) (f : ((List Int) → Option Bool)) : (Int × Int) → Option ((Int × Int) ⊕ Int)
 | (v4_0, v8_0) =>
  cond (decide (v8_0 < (sv.length : Int)))
  ((idx sv v8_0).bind fun e =>
  (f e).bind fun rv =>
  cond rv
  (ext (some v8_0))
  (nxt (v4_0, wr (v8_0 + 1))))
  (ext (some (-1)))
noncomputable def slices_IndexFunc_____int___int_ (sv : (List (List Int))) (f : ((List Int) → Option Bool)) : Option Int :=
  loopU (slices_IndexFunc_____int___int__b1 sv f) (0, 0)
theorem slices_IndexFunc_____int___int__ok {w0 : World} {D0 : Stab} (hD : D0.on w0) (sv : (List (List Int))) (f : ((List Int) → Option Bool)) {p : Option Addr} {c : Nat} {fid : FuncId} {first : List Value} {cap : List Value} (hs : SRc (C_sl C_int) D0 sv p c) (hf : FnOk_98 w0 D0 fid first cap f) (out : Int) (h : slices_IndexFunc_____int___int_ sv f = some out) : Calls Tryd.prog 87 [.slice p sv.length c, .func (.func fid) first.toArray cap.toArray].toArray w0 (RetP D0 w0 (.int .i64 out)) := by
 refine enter _ 19 Tryd.func87 rfl Tryd.ntmps87 rfl fun a hF => ?_
 replace hF : Frm 19 [] [(0, .slice p sv.length c), (1, .func (.func fid) first.toArray cap.toArray)] a := hF
 have hS := St.start hD
 unfold slices_IndexFunc_____int___int_ at h
 refine seq (region (step hF (Y.assign hF rfl) rfl fun a hF => nil (then_n (seq (seq (region (step hF (Y.move hF rfl) rfl fun a hF => step hF (Y.lenSl u_26 hF rfl) rfl fun a hF => step hF (Y.move hF rfl) rfl fun a hF => nil (then_n (block (loop_cut (body := slices_IndexFunc_____int___int__b1 sv f) (out := out) (fun s a w => ∃ (v4_0 : Int) (v8_0 : Int), ∃ (Dv : Stab), s = (v4_0, v8_0) ∧ D0.le Dv ∧ Frm 19 [] [(0, .slice p sv.length c), (1, .func (.func fid) first.toArray cap.toArray), (4, .int .i64 v4_0), (7, .int .i64 (sv.length : Int)), (8, .int .i64 v8_0)] a ∧ St w0 D0 Dv [] w) (0, 0) h ⟨0, 0, D0, rfl, Stab.le.refl _, hF.weak ⟨rfl, rfl, rfl, rfl, rfl, trivial⟩, hS.weak trivial⟩ ?_))))))))))
 rintro s a w xo ⟨v4_0, v8_0, Dv, rfl, hlev, hF, hS⟩ h hxo
 unfold slices_IndexFunc_____int___int__b1 at h
 dsimp only at h
 replace hs := hs.mono hlev
 refine seq (region (step hF (Y.lss hF rfl rfl) rfl fun a hF => nil (then_n (seq (cond_b hF rfl (fun hbv => ?_) (fun hbv => ?_))))))
 ·replace h := cond_t h hbv
  refine skip_ (then_n (seq (block (seq (region (step hF (Y.move hF rfl) rfl fun a hF => step hF (Y.assign hF rfl) rfl fun a hF => nil (then_n (seq (region (step hF (Y.move hF rfl) rfl fun a hF => step hF (Y.move hF rfl) rfl fun a hF => step hF (Y.move hF rfl) rfl fun a hF => ?_))))))))))
  obtain ⟨e, hx, h⟩ := bind_some h
  obtain ⟨b, o, hE, hY⟩ := Y.indexS (P := Tryd.prog) (C := (C_sl C_int)) (xs := sv) (T := 26) (x := (.tmp 12)) (y := (.tmp 13)) u_26 sz_32 hF rfl rfl (hs).1 hx
  obtain ⟨cc, hc, hcell⟩ := hE.open
  obtain ⟨p_1, c_1, rfl, hs_1⟩ := hc
  refine step hF (hY) rfl fun a hF => step hF (Y.load1 sz_32 hF rfl (hcell _ hS.stab 0 _ rfl)) rfl fun a hF => ?_
  obtain ⟨rv, hx_1, h⟩ := bind_some h
  refine O.callVP (f := fid) (first := first) (cap := cap) (us := [.slice p_1 e.length c_1]) hf.1 hF hS rfl rfl (hf.2 _ _ hS.below hS.le hS.stab e p_1 c_1 hs_1 rv hx_1) rfl fun a w hF hS => nil (then_n (cond_b hF rfl (fun hbv_1 => ?_) (fun hbv_1 => ?_)))
  ·replace h := cond_t h hbv_1
   refine seq (region (step hF (Y.move hF rfl) rfl fun a hF => step hF (Y.assign hF rfl) rfl fun a hF => nil (then_n (ret_ (blk_r (then_r (then_r (blk_r (then_r ?_)))))))))
   replace h := ext_some h hxo
   obtain rfl := some_inj h
   exact leaveP Tryd.results87 hF hS (.cons (.tmp rfl) .nil) .nil rfl
  replace h := cond_f h hbv_1
  refine skip_ (blk_n (then_n (region (step hF (Y.add hF rfl rfl) rfl fun a hF => step hF (Y.move hF rfl) rfl fun a hF => nil (then_n (⟨_, nxt_some h, v4_0, (wr (v8_0 + 1)), Dv, rfl, hlev, hF.weak ⟨rfl, rfl, rfl, rfl, rfl, trivial⟩, hS.weak trivial⟩))))))
 replace h := cond_f h hbv
 refine exit_ (then_x (then_x (blk_hit (then_n ?_))))
 replace h := ext_some h hxo
 refine seq (region (step hF (Y.assign hF rfl) rfl fun a hF => nil (then_n (ret_ ?_))))
 obtain rfl := some_inj h
 exact leaveP Tryd.results87 hF hS (.cons (.tmp rfl) .nil) .nil rfl
noncomputable def slices_ContainsFunc_____int___int_ (sv : (List (List Int))) (f : ((List Int) → Option Bool)) : Option Bool :=
  (slices_IndexFunc_____int___int_ sv f).bind fun rv =>
  some (decide (rv ≥ 0))
theorem slices_ContainsFunc_____int___int__ok {w0 : World} {D0 : Stab} (hD : D0.on w0) (sv : (List (List Int))) (f : ((List Int) → Option Bool)) {p : Option Addr} {c : Nat} {fid : FuncId} {first : List Value} {cap : List Value} (hs : SRc (C_sl C_int) D0 sv p c) (hf : FnOk_98 w0 D0 fid first cap f) (out : Bool) (h : slices_ContainsFunc_____int___int_ sv f = some out) : Calls Tryd.prog 69 [.slice p sv.length c, .func (.func fid) first.toArray cap.toArray].toArray w0 (RetP D0 w0 (.bool out)) := by
 refine enter _ 9 Tryd.func69 rfl Tryd.ntmps69 rfl fun a hF => ?_
 replace hF : Frm 9 [] [(0, .slice p sv.length c), (1, .func (.func fid) first.toArray cap.toArray)] a := hF
 have hS := St.start hD
 unfold slices_ContainsFunc_____int___int_ at h
 refine seq (region (step hF (Y.assign hF rfl) rfl fun a hF => nil (then_n (seq (region (step hF (Y.move hF rfl) rfl fun a hF => step hF (Y.move hF rfl) rfl fun a hF => ?_))))))
 obtain ⟨rv, hx, h⟩ := bind_some h
 refine O.callP (us := [.slice p sv.length c, .func (.func fid) first.toArray cap.toArray]) ca_87 hF hS (slices_IndexFunc_____int___int__ok hS.stab sv f hs (show FnOk_98 _ _ fid first cap f from ⟨hf.1, fun w D hb hle hon => hf.2 w D (hS.below.trans (hb.mono hS.below.size)) (hS.le.trans hle) hon⟩) rv hx) rfl rfl fun a w hF hS => step hF (Y.geq hF rfl rfl) rfl fun a hF => step hF (Y.assign hF rfl) rfl fun a hF => nil (then_n (ret_ ?_))
 obtain rfl := some_inj h
 exact leaveP Tryd.results69 hF hS (.cons (.tmp rfl) .nil) .nil rfl
noncomputable def line_Can (xv : LineNet) (exchange : Int) (delay : Int) : Option (Bool × Int) :=
  (line_asked xv exchange).bind fun rv =>
  cond (rv.2.2 != 0)
  (some (false, rv.2.2))
  ((slices_ContainsFunc_____int___int_ rv.2.1 (fun q_z => line_Can_1 q_z rv.1 exchange delay)).bind fun rv_1 =>
  some (rv_1, 0))
theorem line_Can_ok {w0 : World} {D0 : Stab} (hD : D0.on w0) (xv : LineNet) (exchange : Int) (delay : Int) {p : Option Addr} {c : Nat} {p_1 : Option Addr} {c_1 : Nat} (hs : SRc C_LineLine D0 xv.Lines p c) (hs_1 : SRc C_LineLoop D0 xv.Loops p_1 c_1) (hG : Glob D0) (out : (Bool × Int)) (h : line_Can xv exchange delay = some out) : Calls Tryd.prog 26 [.agg #[.int .i64 xv.Exchanges, .slice p xv.Lines.length c, .int .i64 xv.Hops, .slice p_1 xv.Loops.length c_1], .int .i64 exchange, .int .i64 delay].toArray w0 (RetP D0 w0 (.tuple #[.bool out.1, .int .i64 out.2])) := by
 refine enter _ 24 Tryd.func26 rfl Tryd.ntmps26 rfl fun a hF => ?_
 replace hF : Frm 24 [] [(0, .agg #[.int .i64 xv.Exchanges, .slice p xv.Lines.length c, .int .i64 xv.Hops, .slice p_1 xv.Loops.length c_1]), (1, .int .i64 exchange), (2, .int .i64 delay)] a := hF
 have hS := St.start hD
 unfold line_Can at h
 refine seq (region (O.box (cs := [.int .i64 xv.Exchanges, .slice p xv.Lines.length c, .int .i64 xv.Hops, .slice p_1 xv.Loops.length c_1]) 1 hF rfl rfl hS rfl fun b a w hF hS => O.box (cs := [.int .i64 exchange]) 2 hF rfl rfl hS rfl fun b_1 a w hF hS => O.box (cs := [.int .i64 delay]) 3 hF rfl rfl hS rfl fun b_2 a w hF hS => step hF (Y.assign hF rfl) rfl fun a hF => step hF (Y.assign hF rfl) rfl fun a hF => nil (then_n (seq (region (step hF (Y.loadNL 1 sz_25 hF rfl hS rfl rfl rfl) rfl fun a hF => step hF (Y.load1L 2 sz_3 hF rfl hS rfl rfl) rfl fun a hF => ?_))))))
 obtain ⟨rv, hx, h⟩ := bind_some h
 refine O.callS (us := [.agg #[.int .i64 xv.Exchanges, .slice p xv.Lines.length c, .int .i64 xv.Hops, .slice p_1 xv.Loops.length c_1], .int .i64 exchange]) ca_58 hF hS (line_asked_ok hS.stab xv exchange hs hs_1 hG rv hx) rfl rfl fun v Dv a w hR hlev hF hS => ?_
 obtain ⟨p_2, c_2, p_3, c_3, bm, p_4, c_4, rfl, hs_2, hs_3, hm, hs_4⟩ := hR
 refine step hF (Y.move hF rfl) rfl fun a hF => step hF (Y.extract hF rfl rfl) rfl fun a hF => step hF (Y.extract hF rfl rfl) rfl fun a hF => step hF (Y.extract hF rfl rfl) rfl fun a hF => O.alloc 4 zc_85 hF hS rfl fun b_3 a w hF hS => O.store (us := [.int .i64 rv.1.LineNet.Exchanges, .slice p_2 rv.1.LineNet.Lines.length c_2, .int .i64 rv.1.LineNet.Hops, .slice p_3 rv.1.LineNet.Loops.length c_3, .map bm, .int .i64 rv.1.left]) 4 sz_85 hF rfl rfl rfl rfl hS rfl rfl fun a w hF hS => step hF (Y.assign hF rfl) rfl fun a hF => step hF (Y.assign hF rfl) rfl fun a hF => nil (then_n (seq (seq (region (step hF (Y.move hF rfl) rfl fun a hF => step hF (Y.neq hF rfl rfl) rfl fun a hF => nil (then_n (cond_b hF rfl (fun hbv => ?_) (fun hbv => ?_))))))))
 ·replace h := cond_t h hbv
  refine seq (region (step hF (Y.move hF rfl) rfl fun a hF => step hF (Y.assign hF rfl) rfl fun a hF => step hF (Y.assign hF rfl) rfl fun a hF => nil (then_n (ret_ (then_r ?_)))))
  obtain rfl := some_inj h
  exact leaveP Tryd.results26 hF hS (.cons (.tmp rfl) (.cons (.tmp rfl) .nil)) .nil rfl
 replace h := cond_f h hbv
 refine skip_ (then_n (seq (region (step hF (Y.move hF rfl) rfl fun a hF => step hF (Y.makeFunc (first := []) (cap := [(.tmp 8), (.tmp 4), (.tmp 5)]) (fs := []) (cs := [.pointer (some ⟨b_3, 0, none⟩), .pointer (some ⟨b_1, 0, none⟩), .pointer (some ⟨b_2, 0, none⟩)]) hF rfl rfl) rfl fun a hF => ?_))))
 obtain ⟨rv_1, hx_1, h⟩ := bind_some h
 refine O.callP (us := [.slice p_4 rv.2.1.length c_4, .func (.func 70) #[] #[.pointer (some ⟨b_3, 0, none⟩), .pointer (some ⟨b_1, 0, none⟩), .pointer (some ⟨b_2, 0, none⟩)]]) ca_69 hF hS (slices_ContainsFunc_____int___int__ok hS.stab rv.2.1 (fun q_z => line_Can_1 q_z rv.1 exchange delay) hs_4 (show FnOk_98 _ _ 70 [] [.pointer (some ⟨b_3, 0, none⟩), .pointer (some ⟨b_1, 0, none⟩), .pointer (some ⟨b_2, 0, none⟩)] (fun q_z => line_Can_1 q_z rv.1 exchange delay) from ⟨ca_70, fun w D hb hle hon q_z q_p q_c q_hs r h => line_Can_1_ok hon q_z rv.1 exchange delay q_hs (hs_2.mono hle) (hs_3.mono hle) (hm.mono hle) (keep hb (hS.each 4 _ rfl)) (keep hb (hS.each 2 _ rfl)) (keep hb (hS.each 3 _ rfl)) r h⟩) rv_1 hx_1) rfl rfl fun a w hF hS => step hF (Y.assign hF rfl) rfl fun a hF => step hF (Y.assign hF rfl) rfl fun a hF => nil (then_n (ret_ ?_))
 obtain rfl := some_inj h
 exact leaveP Tryd.results26 hF hS (.cons (.tmp rfl) (.cons (.tmp rfl) .nil)) .nil rfl
noncomputable def line_Correct (xv : LineNet) (exchange : Int) : Option (Int × Int × Int) :=
  (line_Delay xv exchange).bind fun rv =>
  cond (rv.2 != 0)
  (some (0, 0, rv.2))
  (some (wr (rv.1.High - (wr (Int.tdiv (wr ((wr (rv.1.High - rv.1.Low)) + 1)) 2))), wr (Int.tdiv (wr ((wr (rv.1.High - rv.1.Low)) + 1)) 2), 0))
theorem line_Correct_ok {w0 : World} {D0 : Stab} (hD : D0.on w0) (xv : LineNet) (exchange : Int) {p : Option Addr} {c : Nat} {p_1 : Option Addr} {c_1 : Nat} (hs : SRc C_LineLine D0 xv.Lines p c) (hs_1 : SRc C_LineLoop D0 xv.Loops p_1 c_1) (hG : Glob D0) (out : (Int × Int × Int)) (h : line_Correct xv exchange = some out) : Calls Tryd.prog 28 [.agg #[.int .i64 xv.Exchanges, .slice p xv.Lines.length c, .int .i64 xv.Hops, .slice p_1 xv.Loops.length c_1], .int .i64 exchange].toArray w0 (RetP D0 w0 (.tuple #[.int .i64 out.1, .int .i64 out.2.1, .int .i64 out.2.2])) := by
 refine enter _ 29 Tryd.func28 rfl Tryd.ntmps28 rfl fun a hF => ?_
 replace hF : Frm 29 [] [(0, .agg #[.int .i64 xv.Exchanges, .slice p xv.Lines.length c, .int .i64 xv.Hops, .slice p_1 xv.Loops.length c_1]), (1, .int .i64 exchange)] a := hF
 have hS := St.start hD
 unfold line_Correct at h
 refine seq (region (O.box (cs := [.int .i64 xv.Exchanges, .slice p xv.Lines.length c, .int .i64 xv.Hops, .slice p_1 xv.Loops.length c_1]) 1 hF rfl rfl hS rfl fun b a w hF hS => step hF (Y.assign hF rfl) rfl fun a hF => step hF (Y.assign hF rfl) rfl fun a hF => step hF (Y.assign hF rfl) rfl fun a hF => nil (then_n (seq (region (step hF (Y.loadNL 1 sz_25 hF rfl hS rfl rfl rfl) rfl fun a hF => step hF (Y.move hF rfl) rfl fun a hF => ?_))))))
 obtain ⟨rv, hx, h⟩ := bind_some h
 refine O.callP (us := [.agg #[.int .i64 xv.Exchanges, .slice p xv.Lines.length c, .int .i64 xv.Hops, .slice p_1 xv.Loops.length c_1], .int .i64 exchange]) ca_24 hF hS (line_Delay_ok hS.stab xv exchange hs hs_1 hG rv hx) rfl rfl fun a w hF hS => step hF (Y.move hF rfl) rfl fun a hF => step hF (Y.extract hF rfl rfl) rfl fun a hF => step hF (Y.extract hF rfl rfl) rfl fun a hF => O.alloc 2 zc_40 hF hS rfl fun b_1 a w hF hS => O.store (us := [.int .i64 rv.1.Low, .int .i64 rv.1.High]) 2 sz_40 hF rfl rfl rfl rfl hS rfl rfl fun a w hF hS => step hF (Y.assign hF rfl) rfl fun a hF => nil (then_n (seq (seq (region (step hF (Y.move hF rfl) rfl fun a hF => step hF (Y.neq hF rfl rfl) rfl fun a hF => nil (then_n (cond_b hF rfl (fun hbv => ?_) (fun hbv => ?_))))))))
 ·replace h := cond_t h hbv
  refine seq (region (step hF (Y.move hF rfl) rfl fun a hF => step hF (Y.assign hF rfl) rfl fun a hF => step hF (Y.assign hF rfl) rfl fun a hF => step hF (Y.assign hF rfl) rfl fun a hF => nil (then_n (ret_ (then_r ?_)))))
  obtain rfl := some_inj h
  exact leaveP Tryd.results28 hF hS (.cons (.tmp rfl) (.cons (.tmp rfl) (.cons (.tmp rfl) .nil))) .nil rfl
 replace h := cond_f h hbv
 refine skip_ (then_n (seq (region (step hF (Y.fieldAddr fo_40_1 hF rfl) rfl fun a hF => step hF (Y.load1L 2 sz_3 hF rfl hS rfl rfl) rfl fun a hF => step hF (Y.fieldAddr fo_40_0 hF rfl) rfl fun a hF => step hF (Y.load1L 2 sz_3 hF rfl hS rfl rfl) rfl fun a hF => step hF (Y.sub hF rfl rfl) rfl fun a hF => step hF (Y.add hF rfl rfl) rfl fun a hF => step hF (Y.quo hF rfl rfl (by decide)) rfl fun a hF => step hF (Y.assign hF rfl) rfl fun a hF => nil (then_n (seq (region (step hF (Y.fieldAddr fo_40_1 hF rfl) rfl fun a hF => step hF (Y.load1L 2 sz_3 hF rfl hS rfl rfl) rfl fun a hF => step hF (Y.move hF rfl) rfl fun a hF => step hF (Y.sub hF rfl rfl) rfl fun a hF => step hF (Y.move hF rfl) rfl fun a hF => step hF (Y.assign hF rfl) rfl fun a hF => step hF (Y.assign hF rfl) rfl fun a hF => step hF (Y.assign hF rfl) rfl fun a hF => nil (then_n (ret_ ?_))))))))))
 obtain rfl := some_inj h
 exact leaveP Tryd.results28 hF hS (.cons (.tmp rfl) (.cons (.tmp rfl) (.cons (.tmp rfl) .nil))) .nil rfl
noncomputable def line_Surely_b1 (xv : LineNet) (rv : (line_net × (List (List Int)) × Int)) : ((List Int) × Int) → Option (((List Int) × Int) ⊕ ((List Int) × Int))
 | (outv, v24_0) =>
  cond (decide (v24_0 < (xv.Lines.length : Int)))
  ((line_on rv.2.1 v24_0).bind fun rv_1 =>
  cond (rv_1 == (rv.2.1.length : Int))
  (if outv.length + ([v24_0]).length ≤ lim then
  nxt ((outv ++ [v24_0]), wr (v24_0 + 1))
  else none)
  (nxt (outv, wr (v24_0 + 1))))
  (ext (some (outv, 0)))
noncomputable def line_Surely (xv : LineNet) (exchange : Int) : Option ((List Int) × Int) :=
  (line_asked xv exchange).bind fun rv =>
  cond (rv.2.2 != 0)
  (some (([] : List Int), rv.2.2))
  (loopU (line_Surely_b1 xv rv) (([] : List Int), 0))
theorem line_Surely_ok {w0 : World} {D0 : Stab} (hD : D0.on w0) (xv : LineNet) (exchange : Int) {p : Option Addr} {c : Nat} {p_1 : Option Addr} {c_1 : Nat} (hs : SRc C_LineLine D0 xv.Lines p c) (hs_1 : SRc C_LineLoop D0 xv.Loops p_1 c_1) (hG : Glob D0) (out : ((List Int) × Int)) (h : line_Surely xv exchange = some out) : Calls Tryd.prog 20 [.agg #[.int .i64 xv.Exchanges, .slice p xv.Lines.length c, .int .i64 xv.Hops, .slice p_1 xv.Loops.length c_1], .int .i64 exchange].toArray w0 (RetS D0 w0 fun D v => ∃ p_8 c_8, v = .tuple #[.slice p_8 out.1.length c_8, .int .i64 out.2] ∧ SRc C_int D out.1 p_8 c_8) := by
 refine enter _ 44 Tryd.func20 rfl Tryd.ntmps20 rfl fun a hF => ?_
 replace hF : Frm 44 [] [(0, .agg #[.int .i64 xv.Exchanges, .slice p xv.Lines.length c, .int .i64 xv.Hops, .slice p_1 xv.Loops.length c_1]), (1, .int .i64 exchange)] a := hF
 have hS := St.start hD
 unfold line_Surely at h
 refine seq (region (O.box (cs := [.int .i64 xv.Exchanges, .slice p xv.Lines.length c, .int .i64 xv.Hops, .slice p_1 xv.Loops.length c_1]) 1 hF rfl rfl hS rfl fun b a w hF hS => step hF (Y.assign hF rfl) rfl fun a hF => step hF (Y.assign hF rfl) rfl fun a hF => nil (then_n (seq (region (step hF (Y.loadNL 1 sz_25 hF rfl hS rfl rfl rfl) rfl fun a hF => step hF (Y.move hF rfl) rfl fun a hF => ?_))))))
 obtain ⟨rv, hx, h⟩ := bind_some h
 refine O.callS (us := [.agg #[.int .i64 xv.Exchanges, .slice p xv.Lines.length c, .int .i64 xv.Hops, .slice p_1 xv.Loops.length c_1], .int .i64 exchange]) ca_58 hF hS (line_asked_ok hS.stab xv exchange hs hs_1 hG rv hx) rfl rfl fun v Dv a w hR hlev hF hS => ?_
 obtain ⟨p_2, c_2, p_3, c_3, bm, p_4, c_4, rfl, hs_2, hs_3, hm, hs_4⟩ := hR
 refine step hF (Y.move hF rfl) rfl fun a hF => step hF (Y.extract hF rfl rfl) rfl fun a hF => step hF (Y.extract hF rfl rfl) rfl fun a hF => step hF (Y.extract hF rfl rfl) rfl fun a hF => O.alloc 2 zc_85 hF hS rfl fun b_1 a w hF hS => O.store (us := [.int .i64 rv.1.LineNet.Exchanges, .slice p_2 rv.1.LineNet.Lines.length c_2, .int .i64 rv.1.LineNet.Hops, .slice p_3 rv.1.LineNet.Loops.length c_3, .map bm, .int .i64 rv.1.left]) 2 sz_85 hF rfl rfl rfl rfl hS rfl rfl fun a w hF hS => step hF (Y.assign hF rfl) rfl fun a hF => step hF (Y.assign hF rfl) rfl fun a hF => nil (then_n (seq (seq (region (step hF (Y.move hF rfl) rfl fun a hF => step hF (Y.neq hF rfl rfl) rfl fun a hF => nil (then_n (cond_b hF rfl (fun hbv => ?_) (fun hbv => ?_))))))))
 ·replace h := cond_t h hbv
  refine seq (region (step hF (Y.move hF rfl) rfl fun a hF => step hF (Y.assign hF rfl) rfl fun a hF => step hF (Y.assign hF rfl) rfl fun a hF => nil (then_n (ret_ (then_r ?_)))))
  obtain rfl := some_inj h
  exact leaveS Tryd.results20 hF hS (.cons (.tmp rfl) (.cons (.tmp rfl) .nil)) .nil ⟨_, _, rfl, SRc.nil⟩
 replace h := cond_f h hbv
 refine skip_ (then_n (seq (region (step hF (Y.assign hF rfl) rfl fun a hF => ?_))))
 replace hS := hS.ownNil 3 3 1
 refine nil (then_n (seq (seq (region (step hF (Y.fieldAddr fo_25_1 hF rfl) rfl fun a hF => step hF (Y.load1L 1 sz_22 hF rfl hS rfl rfl) rfl fun a hF => step hF (Y.lenSl u_22 hF rfl) rfl fun a hF => step hF (Y.move hF rfl) rfl fun a hF => nil (then_n (block (loop_cut (body := line_Surely_b1 xv rv) (out := out) (fun s a w => ∃ (outv : (List Int)) (v24_0 : Int), ∃ (Dv_1 : Stab), ∃ p_5 c_5 cs, s = (outv, v24_0) ∧ Dv.le Dv_1 ∧ Frm 44 [] [(4, .slice none 0 0), (5, .int .i64 0), (7, .slice p_4 rv.2.1.length c_4), (9, .slice p_5 outv.length c_5), (23, .int .i64 (xv.Lines.length : Int)), (24, .int .i64 v24_0)] a ∧ St w0 D0 Dv_1 [(1, .cells b [.int .i64 xv.Exchanges, .slice p xv.Lines.length c, .int .i64 xv.Hops, .slice p_1 xv.Loops.length c_1] 25), (2, .cells b_1 [.int .i64 rv.1.LineNet.Exchanges, .slice p_2 rv.1.LineNet.Lines.length c_2, .int .i64 rv.1.LineNet.Hops, .slice p_3 rv.1.LineNet.Loops.length c_3, .map bm, .int .i64 rv.1.left] 85), (3, .own p_5 outv.length c_5 cs 3 1)] w ∧ Reps C_int Dv_1 outv cs) (([] : List Int), 0) h ⟨([] : List Int), 0, Dv, none, 0, ([]), rfl, Stab.le.refl _, hF.weak ⟨rfl, rfl, rfl, rfl, rfl, rfl, trivial⟩, hS.weak ⟨rfl, rfl, rfl, trivial⟩, Reps.nil⟩ ?_))))))))
 rintro s a w xo ⟨outv, v24_0, Dv_1, p_5, c_5, cs, rfl, hlev_1, hF, hS, hr⟩ h hxo
 unfold line_Surely_b1 at h
 dsimp only at h
 replace hs_4 := hs_4.mono hlev_1
 refine seq (region (step hF (Y.lss hF rfl rfl) rfl fun a hF => nil (then_n (seq (cond_b hF rfl (fun hbv_1 => ?_) (fun hbv_1 => ?_))))))
 ·replace h := cond_t h hbv_1
  refine skip_ (then_n (seq (block (seq (region (step hF (Y.move hF rfl) rfl fun a hF => step hF (Y.assign hF rfl) rfl fun a hF => nil (then_n (seq (region (step hF (Y.move hF rfl) rfl fun a hF => step hF (Y.move hF rfl) rfl fun a hF => ?_))))))))))
  obtain ⟨rv_1, hx_1, h⟩ := bind_some h
  refine O.callP (us := [.slice p_4 rv.2.1.length c_4, .int .i64 v24_0]) ca_64 hF hS (line_on_ok hS.stab rv.2.1 v24_0 hs_4 rv_1 hx_1) rfl rfl fun a w hF hS => step hF (Y.move hF rfl) rfl fun a hF => step hF (Y.lenSl u_26 hF rfl) rfl fun a hF => step hF (Y.eql hF rfl rfl) rfl fun a hF => nil (then_n (cond_b hF rfl (fun hbv_2 => ?_) (fun hbv_2 => ?_)))
  ·replace h := cond_t h hbv_2
   refine region (step hF (Y.move hF rfl) rfl fun a hF => step hF (Y.move hF rfl) rfl fun a hF => ?_)
   have hr_1 : Reps C_int Dv_1 [v24_0] [.int .i64 v24_0] := Reps.cons (C := C_int) (x := v24_0) (c := [.int .i64 v24_0]) (r := []) rfl (Reps.nil)
   refine O.buildSlice (E := 3) (C := C_int) (xs := [v24_0]) (cs := [.int .i64 v24_0]) (us := [.int .i64 v24_0]) (parts := [(0, (.tmp 34))]) 4 hF hS rfl (by kernel_rfl) hr_1 rfl rfl rfl fun p_6 c_6 a w hF hS => ?_
   obtain ⟨hg, h⟩ := ite_some h
   refine O.append (C := C_int) (xs := outv) (ys := [v24_0]) 3 gr_32 hF rfl rfl hS rfl (src_own (i := 4) hS rfl) hr hr_1 hg rfl fun p_7 c_7 a w hF hS hr_2 => step hF (Y.assign hF rfl) rfl fun a hF => nil (blk_n (then_n (region (step hF (Y.add hF rfl rfl) rfl fun a hF => step hF (Y.move hF rfl) rfl fun a hF => nil (then_n (⟨_, nxt_some h, (outv ++ [v24_0]), (wr (v24_0 + 1)), Dv_1, p_7, c_7, (cs ++ [.int .i64 v24_0]), rfl, hlev_1, hF.weak ⟨rfl, rfl, rfl, rfl, rfl, rfl, trivial⟩, hS.weak ⟨rfl, rfl, rfl, trivial⟩, hr_2⟩))))))
  replace h := cond_f h hbv_2
  refine skip_ (blk_n (then_n (region (step hF (Y.add hF rfl rfl) rfl fun a hF => step hF (Y.move hF rfl) rfl fun a hF => nil (then_n (⟨_, nxt_some h, outv, (wr (v24_0 + 1)), Dv_1, p_5, c_5, cs, rfl, hlev_1, hF.weak ⟨rfl, rfl, rfl, rfl, rfl, rfl, trivial⟩, hS.weak ⟨rfl, rfl, rfl, trivial⟩, hr⟩))))))
 replace h := cond_f h hbv_1
 refine exit_ (then_x (then_x (blk_hit (then_n ?_))))
 replace h := ext_some h hxo
 refine seq (region (step hF (Y.move hF rfl) rfl fun a hF => step hF (Y.move hF rfl) rfl fun a hF => step hF (Y.lenSl u_32 hF rfl) rfl fun a hF => step hF (Y.move hF rfl) rfl fun a hF => step hF (Y.lenSl u_32 hF rfl) rfl fun a hF => step hF (Y.slice3 u_32 sz_3 hF rfl rfl rfl (own_cap (i := 3) hS rfl)) rfl fun a hF => step hF (Y.assign hF rfl) rfl fun a hF => step hF (Y.assign hF rfl) rfl fun a hF => nil (then_n (ret_ ?_))))
 obtain ⟨Dv_2, hlev_2, hs_5, hS⟩ := hS.freezeC (C := C_int) (i := 3) (xs := outv) rfl hr
 obtain rfl := some_inj h
 exact leaveS Tryd.results20 hF hS (.cons (.tmp rfl) (.cons (.tmp rfl) .nil)) .nil ⟨_, _, rfl, (⟨hs_5.1, Nat.le_refl _⟩ : SRc _ _ _ _ _)⟩
noncomputable def line_Cut_b1 (xv : LineNet) (line : Int) (rv_2 : line_net) : ((List Int) × (List Int) × Int) → Option (((List Int) × (List Int) × Int) ⊕ ((List Int) × (List Int) × Int))
 | (surely, perhaps, v28_0) =>
  cond (decide (v28_0 < xv.Exchanges))
  ((line_net_routes rv_2 v28_0).bind fun rv_3 =>
  (line_on rv_3 line).bind fun rv_4 =>
  cond (rv_4 == 0)
  (nxt (surely, perhaps, wr (v28_0 + 1)))
  (cond (rv_4 == (rv_3.length : Int))
  (if surely.length + ([v28_0]).length ≤ lim then
  nxt ((surely ++ [v28_0]), perhaps, wr (v28_0 + 1))
  else none)
  (if perhaps.length + ([v28_0]).length ≤ lim then
  nxt (surely, (perhaps ++ [v28_0]), wr (v28_0 + 1))
  else none)))
  (ext (some (surely, perhaps, 0)))
noncomputable def line_Cut (xv : LineNet) (line : Int) : Option ((List Int) × (List Int) × Int) :=
  (line_Check xv).bind fun rv =>
  cond (rv != 0)
  (some (([] : List Int), ([] : List Int), rv))
  ((line_lies line 0 (wr ((xv.Lines.length : Int) - 1))).bind fun rv_1 =>
  cond (!rv_1)
  (some (([] : List Int), ([] : List Int), 61))
  ((line_opened xv 0).bind fun rv_2 =>
  loopU (line_Cut_b1 xv line rv_2) (([] : List Int), ([] : List Int), 0)))
theorem line_Cut_ok {w0 : World} {D0 : Stab} (hD : D0.on w0) (xv : LineNet) (line : Int) {p : Option Addr} {c : Nat} {p_1 : Option Addr} {c_1 : Nat} (hs : SRc C_LineLine D0 xv.Lines p c) (hs_1 : SRc C_LineLoop D0 xv.Loops p_1 c_1) (hG : Glob D0) (out : ((List Int) × (List Int) × Int)) (h : line_Cut xv line = some out) : Calls Tryd.prog 30 [.agg #[.int .i64 xv.Exchanges, .slice p xv.Lines.length c, .int .i64 xv.Hops, .slice p_1 xv.Loops.length c_1], .int .i64 line].toArray w0 (RetS D0 w0 fun D v => ∃ p_11 c_11 p_12 c_12, v = .tuple #[.slice p_11 out.1.length c_11, .slice p_12 out.2.1.length c_12, .int .i64 out.2.2] ∧ SRc C_int D out.1 p_11 c_11 ∧ SRc C_int D out.2.1 p_12 c_12) := by
 refine enter _ 66 Tryd.func30 rfl Tryd.ntmps30 rfl fun a hF => ?_
 replace hF : Frm 66 [] [(0, .agg #[.int .i64 xv.Exchanges, .slice p xv.Lines.length c, .int .i64 xv.Hops, .slice p_1 xv.Loops.length c_1]), (1, .int .i64 line)] a := hF
 have hS := St.start hD
 unfold line_Cut at h
 refine seq (region (O.box (cs := [.int .i64 xv.Exchanges, .slice p xv.Lines.length c, .int .i64 xv.Hops, .slice p_1 xv.Loops.length c_1]) 1 hF rfl rfl hS rfl fun b a w hF hS => step hF (Y.assign hF rfl) rfl fun a hF => ?_))
 replace hS := hS.ownNil 2 3 1
 refine step hF (Y.assign hF rfl) rfl fun a hF => ?_
 replace hS := hS.ownNil 3 3 1
 refine step hF (Y.assign hF rfl) rfl fun a hF => nil (then_n (seq (seq (region (step hF (Y.loadNL 1 sz_25 hF rfl hS rfl rfl rfl) rfl fun a hF => ?_)))))
 obtain ⟨rv, hx, h⟩ := bind_some h
 refine O.callP (us := [.agg #[.int .i64 xv.Exchanges, .slice p xv.Lines.length c, .int .i64 xv.Hops, .slice p_1 xv.Loops.length c_1]]) ca_18 hF hS (line_Check_ok hS.stab xv hs hs_1 rv hx) rfl rfl fun a w hF hS => step hF (Y.assign hF rfl) rfl fun a hF => nil (then_n (seq (region (step hF (Y.move hF rfl) rfl fun a hF => step hF (Y.neq hF rfl rfl) rfl fun a hF => nil (then_n (cond_b hF rfl (fun hbv => ?_) (fun hbv => ?_)))))))
 ·replace h := cond_t h hbv
  refine seq (region (step hF (Y.move hF rfl) rfl fun a hF => step hF (Y.assign hF rfl) rfl fun a hF => ?_))
  replace hS := hS.ownNil 4 3 1
  refine step hF (Y.assign hF rfl) rfl fun a hF => ?_
  replace hS := hS.ownNil 5 3 1
  refine step hF (Y.assign hF rfl) rfl fun a hF => nil (then_n (ret_ (then_r ?_)))
  obtain ⟨Dv, hlev, hs_2, hS⟩ := hS.freezeC (C := C_int) (i := 4) (xs := ([] : List Int)) rfl Reps.nil
  obtain ⟨Dv_1, hlev_1, hs_3, hS⟩ := hS.freezeC (C := C_int) (i := 5) (xs := ([] : List Int)) rfl Reps.nil
  replace hs_2 := hs_2.mono hlev_1
  obtain rfl := some_inj h
  exact leaveS Tryd.results30 hF hS (.cons (.tmp rfl) (.cons (.tmp rfl) (.cons (.tmp rfl) .nil))) .nil ⟨_, _, _, _, rfl, hs_2, hs_3⟩
 replace h := cond_f h hbv
 refine skip_ (then_n (seq (seq (region (step hF (Y.move hF rfl) rfl fun a hF => step hF (Y.fieldAddr fo_25_1 hF rfl) rfl fun a hF => step hF (Y.load1L 1 sz_22 hF rfl hS rfl rfl) rfl fun a hF => step hF (Y.lenSl u_22 hF rfl) rfl fun a hF => step hF (Y.sub hF rfl rfl) rfl fun a hF => ?_)))))
 obtain ⟨rv_1, hx_1, h⟩ := bind_some h
 refine O.callP (us := [.int .i64 line, .int .i64 0, .int .i64 (wr ((xv.Lines.length : Int) - 1))]) ca_62 hF hS (line_lies_ok hS.stab line 0 (wr ((xv.Lines.length : Int) - 1)) rv_1 hx_1) rfl rfl fun a w hF hS => step hF (Y.not hF rfl) rfl fun a hF => nil (then_n (cond_b hF rfl (fun hbv_1 => ?_) (fun hbv_1 => ?_)))
 ·replace h := cond_t h hbv_1
  refine seq (region (step hF (Y.assign hF rfl) rfl fun a hF => ?_))
  replace hS := hS.ownNil 6 3 1
  refine step hF (Y.assign hF rfl) rfl fun a hF => ?_
  replace hS := hS.ownNil 7 3 1
  refine step hF (Y.assign hF rfl) rfl fun a hF => nil (then_n (ret_ (then_r ?_)))
  obtain ⟨Dv_2, hlev_2, hs_4, hS⟩ := hS.freezeC (C := C_int) (i := 6) (xs := ([] : List Int)) rfl Reps.nil
  obtain ⟨Dv_3, hlev_3, hs_5, hS⟩ := hS.freezeC (C := C_int) (i := 7) (xs := ([] : List Int)) rfl Reps.nil
  replace hs_4 := hs_4.mono hlev_3
  obtain rfl := some_inj h
  exact leaveS Tryd.results30 hF hS (.cons (.tmp rfl) (.cons (.tmp rfl) (.cons (.tmp rfl) .nil))) .nil ⟨_, _, _, _, rfl, hs_4, hs_5⟩
 replace h := cond_f h hbv_1
 refine skip_ (then_n (seq (region (step hF (Y.loadNL 1 sz_25 hF rfl hS rfl rfl rfl) rfl fun a hF => ?_))))
 obtain ⟨rv_2, hx_2, h⟩ := bind_some h
 refine O.callS (us := [.agg #[.int .i64 xv.Exchanges, .slice p xv.Lines.length c, .int .i64 xv.Hops, .slice p_1 xv.Loops.length c_1], .int .i64 0]) ca_71 hF hS (line_opened_ok hS.stab xv 0 hs hs_1 hG rv_2 hx_2) rfl rfl fun v Dv_4 a w hR hlev_4 hF hS => ?_
 obtain ⟨p_2, c_2, p_3, c_3, bm, rfl, hs_6, hs_7, hm⟩ := hR
 refine O.alloc 8 zc_85 hF hS rfl fun b_1 a w hF hS => O.store (us := [.int .i64 rv_2.LineNet.Exchanges, .slice p_2 rv_2.LineNet.Lines.length c_2, .int .i64 rv_2.LineNet.Hops, .slice p_3 rv_2.LineNet.Loops.length c_3, .map bm, .int .i64 rv_2.left]) 8 sz_85 hF rfl rfl rfl rfl hS rfl rfl fun a w hF hS => nil (then_n (seq (seq (region (step hF (Y.fieldAddr fo_25_0 hF rfl) rfl fun a hF => step hF (Y.load1L 1 sz_3 hF rfl hS rfl rfl) rfl fun a hF => step hF (Y.move hF rfl) rfl fun a hF => nil (then_n (block (loop_cut (body := line_Cut_b1 xv line rv_2) (out := out) (fun s a w => ∃ (surely : (List Int)) (perhaps : (List Int)) (v28_0 : Int), ∃ (Dv_5 : Stab), ∃ p_4 c_4 cs p_5 c_5 cs_1, s = (surely, perhaps, v28_0) ∧ Dv_4.le Dv_5 ∧ Frm 66 [] [(1, .int .i64 line), (4, .slice p_4 surely.length c_4), (5, .slice p_5 perhaps.length c_5), (6, .int .i64 0), (8, .pointer (some ⟨b_1, 0, none⟩)), (27, .int .i64 xv.Exchanges), (28, .int .i64 v28_0)] a ∧ St w0 D0 Dv_5 [(1, .cells b [.int .i64 xv.Exchanges, .slice p xv.Lines.length c, .int .i64 xv.Hops, .slice p_1 xv.Loops.length c_1] 25), (2, .own p_4 surely.length c_4 cs 3 1), (3, .own p_5 perhaps.length c_5 cs_1 3 1), (8, .cells b_1 [.int .i64 rv_2.LineNet.Exchanges, .slice p_2 rv_2.LineNet.Lines.length c_2, .int .i64 rv_2.LineNet.Hops, .slice p_3 rv_2.LineNet.Loops.length c_3, .map bm, .int .i64 rv_2.left] 85)] w ∧ Reps C_int Dv_5 surely cs ∧ Reps C_int Dv_5 perhaps cs_1) (([] : List Int), ([] : List Int), 0) h ⟨([] : List Int), ([] : List Int), 0, Dv_4, none, 0, ([]), none, 0, ([]), rfl, Stab.le.refl _, hF.weak ⟨rfl, rfl, rfl, rfl, rfl, rfl, rfl, trivial⟩, hS.weak ⟨rfl, rfl, rfl, rfl, trivial⟩, Reps.nil, Reps.nil⟩ ?_))))))))
 rintro s a w xo ⟨surely, perhaps, v28_0, Dv_5, p_4, c_4, cs, p_5, c_5, cs_1, rfl, hlev_5, hF, hS, hr, hr_1⟩ h hxo
 unfold line_Cut_b1 at h
 dsimp only at h
 replace hs_6 := hs_6.mono hlev_5
 replace hs_7 := hs_7.mono hlev_5
 replace hm := hm.mono hlev_5
 refine seq (region (step hF (Y.lss hF rfl rfl) rfl fun a hF => nil (then_n (seq (cond_b hF rfl (fun hbv_2 => ?_) (fun hbv_2 => ?_))))))
 ·replace h := cond_t h hbv_2
  refine skip_ (then_n (seq (block (seq (region (step hF (Y.move hF rfl) rfl fun a hF => step hF (Y.assign hF rfl) rfl fun a hF => nil (then_n (seq (region (step hF (Y.loadNL 8 sz_85 hF rfl hS rfl rfl rfl) rfl fun a hF => step hF (Y.move hF rfl) rfl fun a hF => ?_))))))))))
  obtain ⟨rv_3, hx_3, h⟩ := bind_some h
  refine O.callS (us := [.agg #[.int .i64 rv_2.LineNet.Exchanges, .slice p_2 rv_2.LineNet.Lines.length c_2, .int .i64 rv_2.LineNet.Hops, .slice p_3 rv_2.LineNet.Loops.length c_3, .map bm, .int .i64 rv_2.left], .int .i64 v28_0]) ca_72 hF hS (line_net_routes_ok hS.stab rv_2 v28_0 hs_6 hs_7 hm rv_3 hx_3) rfl rfl fun v_1 Dv_6 a w hR_1 hlev_6 hF hS => ?_
  replace hr := hr.mono hlev_6
  replace hr_1 := hr_1.mono hlev_6
  obtain ⟨p_6, c_6, rfl, hs_8⟩ := hR_1
  refine step hF (Y.assign hF rfl) rfl fun a hF => nil (then_n (seq (region (step hF (Y.move hF rfl) rfl fun a hF => step hF (Y.move hF rfl) rfl fun a hF => ?_))))
  obtain ⟨rv_4, hx_4, h⟩ := bind_some h
  refine O.callP (us := [.slice p_6 rv_3.length c_6, .int .i64 line]) ca_64 hF hS (line_on_ok hS.stab rv_3 line hs_8 rv_4 hx_4) rfl rfl fun a w hF hS => step hF (Y.assign hF rfl) rfl fun a hF => nil (then_n (block (seq (region (step hF (Y.move hF rfl) rfl fun a hF => step hF (Y.eql hF rfl rfl) rfl fun a hF => step hF (Y.assign hF rfl) rfl fun a hF => nil (then_n (cond_b hF rfl (fun hbv_3 => ?_) (fun hbv_3 => ?_))))))))
  ·replace h := cond_t h hbv_3
   refine skip_ (blk_n (blk_n (then_n (region (step hF (Y.add hF rfl rfl) rfl fun a hF => step hF (Y.move hF rfl) rfl fun a hF => nil (then_n (⟨_, nxt_some h, surely, perhaps, (wr (v28_0 + 1)), Dv_6, p_4, c_4, cs, p_5, c_5, cs_1, rfl, hlev_5.trans hlev_6, hF.weak ⟨rfl, rfl, rfl, rfl, rfl, rfl, rfl, trivial⟩, hS.weak ⟨rfl, rfl, rfl, rfl, trivial⟩, hr, hr_1⟩)))))))
  replace h := cond_f h hbv_3
  refine seq (region (step hF (Y.move hF rfl) rfl fun a hF => step hF (Y.move hF rfl) rfl fun a hF => step hF (Y.lenSl u_26 hF rfl) rfl fun a hF => step hF (Y.eql hF rfl rfl) rfl fun a hF => step hF (Y.assign hF rfl) rfl fun a hF => nil (then_n (cond_b hF rfl (fun hbv_4 => ?_) (fun hbv_4 => ?_)))))
  ·replace h := cond_t h hbv_4
   refine region (step hF (Y.move hF rfl) rfl fun a hF => step hF (Y.move hF rfl) rfl fun a hF => ?_)
   have hr_2 : Reps C_int Dv_6 [v28_0] [.int .i64 v28_0] := Reps.cons (C := C_int) (x := v28_0) (c := [.int .i64 v28_0]) (r := []) rfl (Reps.nil)
   refine O.buildSlice (E := 3) (C := C_int) (xs := [v28_0]) (cs := [.int .i64 v28_0]) (us := [.int .i64 v28_0]) (parts := [(0, (.tmp 50))]) 9 hF hS rfl (by kernel_rfl) hr_2 rfl rfl rfl fun p_7 c_7 a w hF hS => ?_
   obtain ⟨hg, h⟩ := ite_some h
   refine O.append (C := C_int) (xs := surely) (ys := [v28_0]) 2 gr_32 hF rfl rfl hS rfl (src_own (i := 9) hS rfl) hr hr_2 hg rfl fun p_8 c_8 a w hF hS hr_3 => step hF (Y.assign hF rfl) rfl fun a hF => nil (blk_n (blk_n (then_n (region (step hF (Y.add hF rfl rfl) rfl fun a hF => step hF (Y.move hF rfl) rfl fun a hF => nil (then_n (⟨_, nxt_some h, (surely ++ [v28_0]), perhaps, (wr (v28_0 + 1)), Dv_6, p_8, c_8, (cs ++ [.int .i64 v28_0]), p_5, c_5, cs_1, rfl, hlev_5.trans hlev_6, hF.weak ⟨rfl, rfl, rfl, rfl, rfl, rfl, rfl, trivial⟩, hS.weak ⟨rfl, rfl, rfl, rfl, trivial⟩, hr_3, hr_1⟩)))))))
  replace h := cond_f h hbv_4
  refine region (step hF (Y.move hF rfl) rfl fun a hF => step hF (Y.move hF rfl) rfl fun a hF => ?_)
  have hr_4 : Reps C_int Dv_6 [v28_0] [.int .i64 v28_0] := Reps.cons (C := C_int) (x := v28_0) (c := [.int .i64 v28_0]) (r := []) rfl (Reps.nil)
  refine O.buildSlice (E := 3) (C := C_int) (xs := [v28_0]) (cs := [.int .i64 v28_0]) (us := [.int .i64 v28_0]) (parts := [(0, (.tmp 38))]) 10 hF hS rfl (by kernel_rfl) hr_4 rfl rfl rfl fun p_9 c_9 a w hF hS => ?_
  obtain ⟨hg_1, h⟩ := ite_some h
  refine O.append (C := C_int) (xs := perhaps) (ys := [v28_0]) 3 gr_32 hF rfl rfl hS rfl (src_own (i := 10) hS rfl) hr_1 hr_4 hg_1 rfl fun p_10 c_10 a w hF hS hr_5 => step hF (Y.assign hF rfl) rfl fun a hF => nil (blk_n (blk_n (then_n (region (step hF (Y.add hF rfl rfl) rfl fun a hF => step hF (Y.move hF rfl) rfl fun a hF => nil (then_n (⟨_, nxt_some h, surely, (perhaps ++ [v28_0]), (wr (v28_0 + 1)), Dv_6, p_4, c_4, cs, p_10, c_10, (cs_1 ++ [.int .i64 v28_0]), rfl, hlev_5.trans hlev_6, hF.weak ⟨rfl, rfl, rfl, rfl, rfl, rfl, rfl, trivial⟩, hS.weak ⟨rfl, rfl, rfl, rfl, trivial⟩, hr, hr_5⟩)))))))
 replace h := cond_f h hbv_2
 refine exit_ (then_x (then_x (blk_hit (then_n ?_))))
 replace h := ext_some h hxo
 refine seq (draws 15 [(0, true), (1, true), (2, true), (3, true), (4, true), (5, true), (6, true), (7, true), (8, true), (9, true), (10, true), (11, true), (12, true), (13, true), (14, true)] mixed_ (by kernel_rfl) (fun w => St w0 D0 Dv_5 _ w) hS.drew (fun _ _ _ _ h => h) ?_)
 replace hS := hS.drew
 refine stepT (i := 0) rfl hF (fun w hS => Y.move hF rfl) rfl fun a hF => stepT (i := 1) rfl hF (fun w hS => Y.move hF rfl) rfl fun a hF => stepT (i := 2) rfl hF (fun w hS => Y.lenSl u_32 hF rfl) rfl fun a hF => stepT (i := 3) rfl hF (fun w hS => Y.move hF rfl) rfl fun a hF => stepT (i := 4) rfl hF (fun w hS => Y.lenSl u_32 hF rfl) rfl fun a hF => stepT (i := 5) rfl hF (fun w hS => Y.slice3 u_32 sz_3 hF rfl rfl rfl (own_cap (i := 2) hS rfl)) rfl fun a hF => stepT (i := 6) rfl hF (fun w hS => Y.move hF rfl) rfl fun a hF => stepT (i := 7) rfl hF (fun w hS => Y.move hF rfl) rfl fun a hF => stepT (i := 8) rfl hF (fun w hS => Y.lenSl u_32 hF rfl) rfl fun a hF => stepT (i := 9) rfl hF (fun w hS => Y.move hF rfl) rfl fun a hF => stepT (i := 10) rfl hF (fun w hS => Y.lenSl u_32 hF rfl) rfl fun a hF => stepT (i := 11) rfl hF (fun w hS => Y.slice3 u_32 sz_3 hF rfl rfl rfl (own_cap (i := 3) hS rfl)) rfl fun a hF => stepT (i := 12) rfl hF (fun w hS => Y.assign hF rfl) rfl fun a hF => stepT (i := 13) rfl hF (fun w hS => Y.assign hF rfl) rfl fun a hF => stepT (i := 14) rfl hF (fun w hS => Y.assign hF rfl) rfl fun a hF => toTail (nil (then_n (ret_ ?_)))
 obtain ⟨Dv_7, hlev_7, hs_9, hS⟩ := hS.freezeC (C := C_int) (i := 2) (xs := surely) rfl hr
 replace hr_1 := hr_1.mono hlev_7
 obtain ⟨Dv_8, hlev_8, hs_10, hS⟩ := hS.freezeC (C := C_int) (i := 3) (xs := perhaps) rfl hr_1
 replace hs_9 := hs_9.mono hlev_8
 obtain rfl := some_inj h
 exact leaveS Tryd.results30 hF hS (.cons (.tmp rfl) (.cons (.tmp rfl) (.cons (.tmp rfl) .nil))) .nil ⟨_, _, _, _, rfl, (⟨hs_9.1, Nat.le_refl _⟩ : SRc _ _ _ _ _), (⟨hs_10.1, Nat.le_refl _⟩ : SRc _ _ _ _ _)⟩
noncomputable def line_Wrong_k2 (v22_0 : Int) (best_1 : (List Int)) (found_1 : Bool) (z_1 : Int) : Option (((List Int) × Bool × Int × Int) ⊕ ((List Int) × Int)) :=
  nxt (best_1, found_1, wr (v22_0 + 1), z_1)
noncomputable def line_Wrong_b3 (xv : LineNet) (rv_1 : line_net) (best : (List Int)) (found : Bool) (v22_0 : Int) (z : Int) : ((List Int) × Int) → Option (((List Int) × Int) ⊕ (((List Int) × Bool × Int × Int) ⊕ ((List Int) × Int)))
 | (l, v28_0) =>
  cond (decide (v28_0 < (xv.Loops.length : Int)))
  (if ¬ v28_0 < 0 then
  cond ((bitsOp .and (gshr v22_0 v28_0) 1) == 1)
  (if l.length + ([v28_0]).length ≤ lim then
  nxt ((l ++ [v28_0]), wr (v28_0 + 1))
  else none)
  (nxt (l, wr (v28_0 + 1)))
  else none)
  (ext ((cond found ((cmp_Compare_int_ (l.length : Int) (best.length : Int)).bind fun rv_2 =>
  (slices_Compare___int_int_ l best).bind fun rv_3 =>
  (cmp_Or_int_ ([rv_2, rv_3])).bind fun rv_4 =>
  some (decide (rv_4 ≥ 0))) (some false)).bind fun t =>
  cond t
  (line_Wrong_k2 v22_0 best found z)
  ((line_net_can (line_net.mk rv_1.LineNet rv_1.ways v22_0)).bind fun rv_5 =>
  cond rv_5
  (line_Wrong_k2 v22_0 l true v22_0)
  (line_Wrong_k2 v22_0 best found v22_0))))
noncomputable def line_Wrong_b1 (xv : LineNet) (rv_1 : line_net) : ((List Int) × Bool × Int × Int) → Option (((List Int) × Bool × Int × Int) ⊕ ((List Int) × Int))
 | (best, found, v22_0, z) =>
  cond (decide (v22_0 < (gshl 1 (xv.Loops.length : Int))))
  (loopU (line_Wrong_b3 xv rv_1 best found v22_0 z) (([] : List Int), 0))
  (ext (some (best, 0)))
noncomputable def line_Wrong (xv : LineNet) : Option ((List Int) × Int) :=
  (line_Check xv).bind fun rv =>
  cond (rv != 0)
  (some (([] : List Int), rv))
  ((line_opened xv 0).bind fun rv_1 =>
  if ¬ (xv.Loops.length : Int) < 0 then
  loopU (line_Wrong_b1 xv rv_1) (([] : List Int), false, 0, rv_1.left)
  else none)
theorem line_Wrong_ok {w0 : World} {D0 : Stab} (hD : D0.on w0) (xv : LineNet) {p : Option Addr} {c : Nat} {p_1 : Option Addr} {c_1 : Nat} (hs : SRc C_LineLine D0 xv.Lines p c) (hs_1 : SRc C_LineLoop D0 xv.Loops p_1 c_1) (hG : Glob D0) (out : ((List Int) × Int)) (h : line_Wrong xv = some out) : Calls Tryd.prog 32 [.agg #[.int .i64 xv.Exchanges, .slice p xv.Lines.length c, .int .i64 xv.Hops, .slice p_1 xv.Loops.length c_1]].toArray w0 (RetS D0 w0 fun D v => ∃ p_10 c_10, v = .tuple #[.slice p_10 out.1.length c_10, .int .i64 out.2] ∧ SRc C_int D out.1 p_10 c_10) := by
 refine enter _ 67 Tryd.func32 rfl Tryd.ntmps32 rfl fun a hF => ?_
 replace hF : Frm 67 [] [(0, .agg #[.int .i64 xv.Exchanges, .slice p xv.Lines.length c, .int .i64 xv.Hops, .slice p_1 xv.Loops.length c_1])] a := hF
 have hS := St.start hD
 unfold line_Wrong at h
 refine seq (region (O.box (cs := [.int .i64 xv.Exchanges, .slice p xv.Lines.length c, .int .i64 xv.Hops, .slice p_1 xv.Loops.length c_1]) 1 hF rfl rfl hS rfl fun b a w hF hS => step hF (Y.assign hF rfl) rfl fun a hF => step hF (Y.assign hF rfl) rfl fun a hF => nil (then_n (seq (seq (region (step hF (Y.loadNL 1 sz_25 hF rfl hS rfl rfl rfl) rfl fun a hF => ?_)))))))
 obtain ⟨rv, hx, h⟩ := bind_some h
 refine O.callP (us := [.agg #[.int .i64 xv.Exchanges, .slice p xv.Lines.length c, .int .i64 xv.Hops, .slice p_1 xv.Loops.length c_1]]) ca_18 hF hS (line_Check_ok hS.stab xv hs hs_1 rv hx) rfl rfl fun a w hF hS => step hF (Y.assign hF rfl) rfl fun a hF => nil (then_n (seq (region (step hF (Y.move hF rfl) rfl fun a hF => step hF (Y.neq hF rfl rfl) rfl fun a hF => nil (then_n (cond_b hF rfl (fun hbv => ?_) (fun hbv => ?_)))))))
 ·replace h := cond_t h hbv
  refine seq (region (step hF (Y.move hF rfl) rfl fun a hF => step hF (Y.assign hF rfl) rfl fun a hF => step hF (Y.assign hF rfl) rfl fun a hF => nil (then_n (ret_ (then_r ?_)))))
  obtain rfl := some_inj h
  exact leaveS Tryd.results32 hF hS (.cons (.tmp rfl) (.cons (.tmp rfl) .nil)) .nil ⟨_, _, rfl, SRc.nil⟩
 replace h := cond_f h hbv
 refine skip_ (then_n (seq (region (step hF (Y.loadNL 1 sz_25 hF rfl hS rfl rfl rfl) rfl fun a hF => ?_))))
 obtain ⟨rv_1, hx_1, h⟩ := bind_some h
 refine O.callS (us := [.agg #[.int .i64 xv.Exchanges, .slice p xv.Lines.length c, .int .i64 xv.Hops, .slice p_1 xv.Loops.length c_1], .int .i64 0]) ca_71 hF hS (line_opened_ok hS.stab xv 0 hs hs_1 hG rv_1 hx_1) rfl rfl fun v Dv a w hR hlev hF hS => ?_
 obtain ⟨p_2, c_2, p_3, c_3, bm, rfl, hs_2, hs_3, hm⟩ := hR
 refine O.alloc 2 zc_85 hF hS rfl fun b_1 a w hF hS => O.store (us := [.int .i64 rv_1.LineNet.Exchanges, .slice p_2 rv_1.LineNet.Lines.length c_2, .int .i64 rv_1.LineNet.Hops, .slice p_3 rv_1.LineNet.Loops.length c_3, .map bm, .int .i64 rv_1.left]) 2 sz_85 hF rfl rfl rfl rfl hS rfl rfl fun a w hF hS => nil (then_n (seq (region (step hF (Y.assign hF rfl) rfl fun a hF => nil (then_n (seq (region (step hF (Y.assign hF rfl) rfl fun a hF => nil (then_n (seq (seq (region (step hF (Y.fieldAddr fo_25_3 hF rfl) rfl fun a hF => step hF (Y.load1L 1 sz_23 hF rfl hS rfl rfl) rfl fun a hF => step hF (Y.lenSl u_23 hF rfl) rfl fun a hF => ?_)))))))))))))
 obtain ⟨hg, h⟩ := ite_some h
 refine step hF (Y.shl hF rfl rfl hg) rfl fun a hF => step hF (Y.move hF rfl) rfl fun a hF => nil (then_n (block (loop_cut (body := line_Wrong_b1 xv rv_1) (out := out) (fun s a w => ∃ (best : (List Int)) (found : Bool) (v22_0 : Int) (z : Int), ∃ (Dv_1 : Stab), ∃ p_4 c_4, s = (best, found, v22_0, z) ∧ Dv.le Dv_1 ∧ Frm 67 [] [(1, .pointer (some ⟨b, 0, none⟩)), (2, .slice none 0 0), (3, .int .i64 0), (5, .pointer (some ⟨b_1, 0, none⟩)), (6, .slice p_4 best.length c_4), (7, .bool found), (21, .int .i64 (gshl 1 (xv.Loops.length : Int))), (22, .int .i64 v22_0)] a ∧ St w0 D0 Dv_1 [(1, .cells b [.int .i64 xv.Exchanges, .slice p xv.Lines.length c, .int .i64 xv.Hops, .slice p_1 xv.Loops.length c_1] 25), (2, .cells b_1 [.int .i64 rv_1.LineNet.Exchanges, .slice p_2 rv_1.LineNet.Lines.length c_2, .int .i64 rv_1.LineNet.Hops, .slice p_3 rv_1.LineNet.Loops.length c_3, .map bm, .int .i64 z] 85)] w ∧ SRc C_int Dv_1 best p_4 c_4) (([] : List Int), false, 0, rv_1.left) h ⟨([] : List Int), false, 0, rv_1.left, Dv, none, 0, rfl, Stab.le.refl _, hF.weak ⟨rfl, rfl, rfl, rfl, rfl, rfl, rfl, rfl, trivial⟩, hS.weak ⟨rfl, rfl, trivial⟩, SRc.nil⟩ ?_)))
 rintro s a w xo ⟨best, found, v22_0, z, Dv_1, p_4, c_4, rfl, hlev_1, hF, hS, hs_4⟩ h hxo
 unfold line_Wrong_b1 at h
 dsimp only at h
 replace hs_2 := hs_2.mono hlev_1
 replace hs_3 := hs_3.mono hlev_1
 replace hm := hm.mono hlev_1
 refine seq (region (step hF (Y.lss hF rfl rfl) rfl fun a hF => nil (then_n (seq (cond_b hF rfl (fun hbv_1 => ?_) (fun hbv_1 => ?_))))))
 ·replace h := cond_t h hbv_1
  refine skip_ (then_n (seq_cut (fun a w => ∃ (best_1 : (List Int)) (found_1 : Bool) (z_1 : Int), ∃ (Dv_2 : Stab), ∃ p_5 c_5, Dv_1.le Dv_2 ∧ Frm 67 [] [(1, .pointer (some ⟨b, 0, none⟩)), (2, .slice none 0 0), (3, .int .i64 0), (5, .pointer (some ⟨b_1, 0, none⟩)), (6, .slice p_5 best_1.length c_5), (7, .bool found_1), (21, .int .i64 (gshl 1 (xv.Loops.length : Int))), (22, .int .i64 v22_0)] a ∧ St w0 D0 Dv_2 [(1, .cells b [.int .i64 xv.Exchanges, .slice p xv.Lines.length c, .int .i64 xv.Hops, .slice p_1 xv.Loops.length c_1] 25), (2, .cells b_1 [.int .i64 rv_1.LineNet.Exchanges, .slice p_2 rv_1.LineNet.Lines.length c_2, .int .i64 rv_1.LineNet.Hops, .slice p_3 rv_1.LineNet.Loops.length c_3, .map bm, .int .i64 z_1] 85)] w ∧ SRc C_int Dv_2 best_1 p_5 c_5 ∧ line_Wrong_k2 v22_0 best_1 found_1 z_1 = some xo) ?_ ?_))
  ·skip
   refine block (seq (region (step hF (Y.move hF rfl) rfl fun a hF => step hF (Y.assign hF rfl) rfl fun a hF => nil (then_n (seq (region (step hF (Y.assign hF rfl) rfl fun a hF => ?_)))))))
   replace hS := hS.ownNil 3 3 1
   refine nil (then_n (seq (seq (region (step hF (Y.fieldAddr fo_25_3 hF rfl) rfl fun a hF => step hF (Y.load1L 1 sz_23 hF rfl hS rfl rfl) rfl fun a hF => step hF (Y.lenSl u_23 hF rfl) rfl fun a hF => step hF (Y.move hF rfl) rfl fun a hF => nil (then_n (block (loop_cut (body := line_Wrong_b3 xv rv_1 best found v22_0 z) (out := xo) (fun s a w => ∃ (l : (List Int)) (v28_0 : Int), ∃ p_6 c_6 cs, s = (l, v28_0) ∧ Frm 67 [] [(1, .pointer (some ⟨b, 0, none⟩)), (2, .slice none 0 0), (3, .int .i64 0), (5, .pointer (some ⟨b_1, 0, none⟩)), (6, .slice p_4 best.length c_4), (7, .bool found), (8, .int .i64 v22_0), (9, .slice p_6 l.length c_6), (21, .int .i64 (gshl 1 (xv.Loops.length : Int))), (22, .int .i64 v22_0), (27, .int .i64 (xv.Loops.length : Int)), (28, .int .i64 v28_0)] a ∧ St w0 D0 Dv_1 [(1, .cells b [.int .i64 xv.Exchanges, .slice p xv.Lines.length c, .int .i64 xv.Hops, .slice p_1 xv.Loops.length c_1] 25), (2, .cells b_1 [.int .i64 rv_1.LineNet.Exchanges, .slice p_2 rv_1.LineNet.Lines.length c_2, .int .i64 rv_1.LineNet.Hops, .slice p_3 rv_1.LineNet.Loops.length c_3, .map bm, .int .i64 z] 85), (3, .own p_6 l.length c_6 cs 3 1)] w ∧ Reps C_int Dv_1 l cs) (([] : List Int), 0) h ⟨([] : List Int), 0, none, 0, ([]), rfl, hF.weak ⟨rfl, rfl, rfl, rfl, rfl, rfl, rfl, rfl, rfl, rfl, rfl, rfl, trivial⟩, hS.weak ⟨rfl, rfl, rfl, trivial⟩, Reps.nil⟩ ?_))))))))
   rintro s a w xo_1 ⟨l, v28_0, p_6, c_6, cs, rfl, hF, hS, hr⟩ h hxo_1
   unfold line_Wrong_b3 at h
   dsimp only at h
   refine seq (region (step hF (Y.lss hF rfl rfl) rfl fun a hF => nil (then_n (seq (cond_b hF rfl (fun hbv_2 => ?_) (fun hbv_2 => ?_))))))
   ·replace h := cond_t h hbv_2
    refine skip_ (then_n (seq (block (seq (region (step hF (Y.move hF rfl) rfl fun a hF => step hF (Y.assign hF rfl) rfl fun a hF => nil (then_n (seq (region (step hF (Y.move hF rfl) rfl fun a hF => step hF (Y.move hF rfl) rfl fun a hF => ?_))))))))))
    obtain ⟨hg_1, h⟩ := ite_some h
    refine step hF (Y.shr hF rfl rfl hg_1) rfl fun a hF => step hF (Y.and hF rfl rfl) rfl fun a hF => step hF (Y.eql hF rfl rfl) rfl fun a hF => nil (then_n (cond_b hF rfl (fun hbv_3 => ?_) (fun hbv_3 => ?_)))
    ·replace h := cond_t h hbv_3
     refine region (step hF (Y.move hF rfl) rfl fun a hF => step hF (Y.move hF rfl) rfl fun a hF => ?_)
     have hr_1 : Reps C_int Dv_1 [v28_0] [.int .i64 v28_0] := Reps.cons (C := C_int) (x := v28_0) (c := [.int .i64 v28_0]) (r := []) rfl (Reps.nil)
     refine O.buildSlice (E := 3) (C := C_int) (xs := [v28_0]) (cs := [.int .i64 v28_0]) (us := [.int .i64 v28_0]) (parts := [(0, (.tmp 37))]) 4 hF hS rfl (by kernel_rfl) hr_1 rfl rfl rfl fun p_7 c_7 a w hF hS => ?_
     obtain ⟨hg_2, h⟩ := ite_some h
     refine O.append (C := C_int) (xs := l) (ys := [v28_0]) 3 gr_32 hF rfl rfl hS rfl (src_own (i := 4) hS rfl) hr hr_1 hg_2 rfl fun p_8 c_8 a w hF hS hr_2 => step hF (Y.assign hF rfl) rfl fun a hF => nil (blk_n (then_n (region (step hF (Y.add hF rfl rfl) rfl fun a hF => step hF (Y.move hF rfl) rfl fun a hF => nil (then_n (⟨_, nxt_some h, (l ++ [v28_0]), (wr (v28_0 + 1)), p_8, c_8, (cs ++ [.int .i64 v28_0]), rfl, hF.weak ⟨rfl, rfl, rfl, rfl, rfl, rfl, rfl, rfl, rfl, rfl, rfl, rfl, trivial⟩, hS.weak ⟨rfl, rfl, rfl, trivial⟩, hr_2⟩))))))
    replace h := cond_f h hbv_3
    refine skip_ (blk_n (then_n (region (step hF (Y.add hF rfl rfl) rfl fun a hF => step hF (Y.move hF rfl) rfl fun a hF => nil (then_n (⟨_, nxt_some h, l, (wr (v28_0 + 1)), p_6, c_6, cs, rfl, hF.weak ⟨rfl, rfl, rfl, rfl, rfl, rfl, rfl, rfl, rfl, rfl, rfl, rfl, trivial⟩, hS.weak ⟨rfl, rfl, rfl, trivial⟩, hr⟩))))))
   replace h := cond_f h hbv_2
   refine exit_ (then_x (then_x (blk_hit (then_n ?_))))
   replace h := ext_some h hxo_1
   refine seq (seq (region (step hF (Y.move hF rfl) rfl fun a hF => step hF (Y.move hF rfl) rfl fun a hF => ?_)))
   obtain ⟨Dv_3, hlev_3, hs_6, hS⟩ := hS.freezeC (C := C_int) (i := 3) (xs := l) rfl hr
   replace hs_2 := hs_2.mono hlev_3
   replace hs_3 := hs_3.mono hlev_3
   replace hm := hm.mono hlev_3
   replace hs_4 := hs_4.mono hlev_3
   obtain ⟨t, ht, h⟩ := bind_some h
   refine list_cut 12 (fun a w => ∃ D, Dv_3.le D ∧ Frm 67 [] [(1, .pointer (some ⟨b, 0, none⟩)), (2, .slice none 0 0), (3, .int .i64 0), (5, .pointer (some ⟨b_1, 0, none⟩)), (6, .slice p_4 best.length c_4), (7, .bool found), (8, .int .i64 v22_0), (9, .slice p_6 l.length c_6), (21, .int .i64 (gshl 1 (xv.Loops.length : Int))), (22, .int .i64 v22_0), (54, .bool t)] a ∧ St w0 D0 D [(1, .cells b [.int .i64 xv.Exchanges, .slice p xv.Lines.length c, .int .i64 xv.Hops, .slice p_1 xv.Loops.length c_1] 25), (2, .cells b_1 [.int .i64 rv_1.LineNet.Exchanges, .slice p_2 rv_1.LineNet.Lines.length c_2, .int .i64 rv_1.LineNet.Hops, .slice p_3 rv_1.LineNet.Loops.length c_3, .map bm, .int .i64 z] 85)] w) ?_ ?_
   ·rcases bcases found with hbv_4 | hbv_4
    ·skip
     replace h := cond_t ht hbv_4
     refine guard_on hF rfl rfl hbv_4 (step hF (Y.move hF rfl) rfl fun a hF => guard_on hF rfl rfl hbv_4 (step hF (Y.lenSl u_32 hF rfl) rfl fun a hF => guard_on hF rfl rfl hbv_4 (step hF (Y.move hF rfl) rfl fun a hF => guard_on hF rfl rfl hbv_4 (step hF (Y.lenSl u_32 hF rfl) rfl fun a hF => guard_on hF rfl rfl hbv_4 ?_))))
     obtain ⟨rv_2, hx_2, h⟩ := bind_some h
     refine O.callP (us := [.int .i64 (l.length : Int), .int .i64 (best.length : Int)]) ca_74 hF hS (cmp_Compare_int__ok hS.stab (l.length : Int) (best.length : Int) rv_2 hx_2) rfl rfl fun a w hF hS => guard_on hF rfl rfl hbv_4 (step hF (Y.move hF rfl) rfl fun a hF => guard_on hF rfl rfl hbv_4 (step hF (Y.move hF rfl) rfl fun a hF => guard_on hF rfl rfl hbv_4 ?_))
     obtain ⟨rv_3, hx_3, h⟩ := bind_some h
     refine O.callP (us := [.slice p_6 l.length c_6, .slice p_4 best.length c_4]) ca_75 hF hS (slices_Compare___int_int__ok hS.stab l best hs_6 hs_4 rv_3 hx_3) rfl rfl fun a w hF hS => guard_on hF rfl rfl hbv_4 ?_
     have hr_3 : Reps C_int Dv_3 [rv_2, rv_3] [.int .i64 rv_2, .int .i64 rv_3] := Reps.cons (C := C_int) (x := rv_2) (c := [.int .i64 rv_2]) (r := [.int .i64 rv_3]) rfl (Reps.cons (C := C_int) (x := rv_3) (c := [.int .i64 rv_3]) (r := []) rfl (Reps.nil))
     refine O.buildSlice (E := 3) (C := C_int) (xs := [rv_2, rv_3]) (cs := [.int .i64 rv_2, .int .i64 rv_3]) (us := [.int .i64 rv_2, .int .i64 rv_3]) (parts := [(0, (.tmp 47)), (1, (.tmp 50))]) 5 hF hS rfl (by kernel_rfl) hr_3 rfl rfl rfl fun p_9 c_9 a w hF hS => guard_on hF rfl rfl hbv_4 ?_
     obtain ⟨Dv_4, hlev_4, hs_7, hS⟩ := hS.freezeC (C := C_int) (i := 5) (xs := [rv_2, rv_3]) rfl hr_3
     obtain ⟨rv_4, hx_4, h⟩ := bind_some h
     refine O.callP (us := [.slice p_9 ([rv_2, rv_3]).length c_9]) ca_73 hF hS (cmp_Or_int__ok hS.stab ([rv_2, rv_3]) hs_7 rv_4 hx_4) rfl rfl fun a w hF hS => guard_on hF rfl rfl hbv_4 (step hF (Y.geq hF rfl rfl) rfl fun a hF => step hF (Y.pick_t hF rfl hbv_4 rfl) rfl fun a hF => ?_)
     obtain rfl := some_inj h
     exact nil (then_n ⟨Dv_4, hlev_4, hF.weak ⟨rfl, rfl, rfl, rfl, rfl, rfl, rfl, rfl, rfl, rfl, rfl, trivial⟩, hS.weak ⟨rfl, rfl, trivial⟩⟩)
    replace h := cond_f ht hbv_4
    refine guard_off hF rfl rfl hbv_4 rfl fun a hF => guard_off hF rfl rfl hbv_4 rfl fun a hF => guard_off hF rfl rfl hbv_4 rfl fun a hF => guard_off hF rfl rfl hbv_4 rfl fun a hF => guard_off hF rfl rfl hbv_4 rfl fun a hF => guard_off hF rfl rfl hbv_4 rfl fun a hF => guard_off hF rfl rfl hbv_4 rfl fun a hF => guard_off hF rfl rfl hbv_4 rfl fun a hF => guard_off hF rfl rfl hbv_4 rfl fun a hF => guard_off hF rfl rfl hbv_4 rfl fun a hF => guard_off hF rfl rfl hbv_4 rfl fun a hF => step hF (Y.pick_f hF rfl hbv_4 rfl) rfl fun a hF => ?_
    obtain rfl := some_inj h
    exact nil (then_n ⟨Dv_3, Stab.le.refl _, hF.weak ⟨rfl, rfl, rfl, rfl, rfl, rfl, rfl, rfl, rfl, rfl, rfl, trivial⟩, hS.weak ⟨rfl, rfl, trivial⟩⟩)
   rintro a w ⟨Dv_5, hlev_5, hF, hS⟩
   replace hs_2 := hs_2.mono hlev_5
   replace hs_3 := hs_3.mono hlev_5
   replace hm := hm.mono hlev_5
   replace hs_4 := hs_4.mono hlev_5
   replace hs_6 := hs_6.mono hlev_5
   refine nil (then_n (cond_b hF rfl (fun hbv_5 => ?_) (fun hbv_5 => ?_)))
   ·replace h := cond_t h hbv_5
    refine exit_ (then_x (blk_hit (then_n (⟨best, found, z, Dv_5, p_4, c_4, hlev_3.trans hlev_5, hF.weak ⟨rfl, rfl, rfl, rfl, rfl, rfl, rfl, rfl, trivial⟩, hS.weak ⟨rfl, rfl, trivial⟩, hs_4, h⟩))))
   replace h := cond_f h hbv_5
   refine skip_ (then_n (seq (region (step hF (Y.move hF rfl) rfl fun a hF => step hF (Y.fieldAddr fo_85_2 hF rfl) rfl fun a hF => O.store (us := [.int .i64 v22_0]) 2 sz_3 hF rfl rfl rfl rfl hS rfl rfl fun a w hF hS => nil (then_n (seq (region (step hF (Y.loadNL 2 sz_85 hF rfl hS rfl rfl rfl) rfl fun a hF => ?_))))))))
   obtain ⟨rv_5, hx_5, h⟩ := bind_some h
   refine O.callP (us := [.agg #[.int .i64 rv_1.LineNet.Exchanges, .slice p_2 rv_1.LineNet.Lines.length c_2, .int .i64 rv_1.LineNet.Hops, .slice p_3 rv_1.LineNet.Loops.length c_3, .map bm, .int .i64 v22_0]]) ca_76 hF hS (line_net_can_ok hS.stab (line_net.mk rv_1.LineNet rv_1.ways v22_0) hs_2 hs_3 hm rv_5 hx_5) rfl rfl fun a w hF hS => nil (then_n (cond_b hF rfl (fun hbv_6 => ?_) (fun hbv_6 => ?_)))
   ·replace h := cond_t h hbv_6
    refine region (step hF (Y.move hF rfl) rfl fun a hF => step hF (Y.assign hF rfl) rfl fun a hF => step hF (Y.assign hF rfl) rfl fun a hF => nil (blk_n (then_n (⟨l, true, v22_0, Dv_5, p_6, c_6, hlev_3.trans hlev_5, hF.weak ⟨rfl, rfl, rfl, rfl, rfl, rfl, rfl, rfl, trivial⟩, hS.weak ⟨rfl, rfl, trivial⟩, hs_6, h⟩))))
   replace h := cond_f h hbv_6
   refine skip_ (blk_n (then_n (⟨best, found, v22_0, Dv_5, p_4, c_4, hlev_3.trans hlev_5, hF.weak ⟨rfl, rfl, rfl, rfl, rfl, rfl, rfl, rfl, trivial⟩, hS.weak ⟨rfl, rfl, trivial⟩, hs_4, h⟩)))
  rintro a w ⟨best_1, found_1, z_1, Dv_2, p_5, c_5, hlev_2, hF, hS, hs_5, h⟩
  unfold line_Wrong_k2 at h
  refine region (step hF (Y.add hF rfl rfl) rfl fun a hF => step hF (Y.move hF rfl) rfl fun a hF => nil (then_n (⟨_, nxt_some h, best_1, found_1, (wr (v22_0 + 1)), z_1, Dv_2, p_5, c_5, rfl, hlev_1.trans hlev_2, hF.weak ⟨rfl, rfl, rfl, rfl, rfl, rfl, rfl, rfl, trivial⟩, hS.weak ⟨rfl, rfl, trivial⟩, hs_5⟩)))
 replace h := cond_f h hbv_1
 refine exit_ (then_x (then_x (blk_hit (then_n ?_))))
 replace h := ext_some h hxo
 refine seq (region (step hF (Y.move hF rfl) rfl fun a hF => step hF (Y.move hF rfl) rfl fun a hF => step hF (Y.lenSl u_32 hF rfl) rfl fun a hF => step hF (Y.move hF rfl) rfl fun a hF => step hF (Y.lenSl u_32 hF rfl) rfl fun a hF => step hF (Y.slice3 u_32 sz_3 hF rfl rfl rfl hs_4.2) rfl fun a hF => step hF (Y.assign hF rfl) rfl fun a hF => step hF (Y.assign hF rfl) rfl fun a hF => nil (then_n (ret_ ?_))))
 obtain rfl := some_inj h
 exact leaveS Tryd.results32 hF hS (.cons (.tmp rfl) (.cons (.tmp rfl) .nil)) .nil ⟨_, _, rfl, (⟨hs_4.1, Nat.le_refl _⟩ : SRc _ _ _ _ _)⟩
noncomputable def remontoirlaw06_works : Option Bool :=
  (remontoirlaw06_net ([] : List LineLoop)).bind fun rv =>
  (line_Routes rv 3).bind fun rv_1 =>
  (remontoirlaw06_net ([] : List LineLoop)).bind fun rv_2 =>
  (line_Delay rv_2 3).bind fun rv_3 =>
  (remontoirlaw06_net ([] : List LineLoop)).bind fun rv_4 =>
  (line_Can rv_4 3 26).bind fun rv_5 =>
  (remontoirlaw06_net ([] : List LineLoop)).bind fun rv_6 =>
  (line_Correct rv_6 2).bind fun rv_7 =>
  (cond (rv_1.2 != 0) (some true) (some (rv_3.2 != 0))).bind fun t =>
  (cond t (some true) (some (rv_5.2 != 0))).bind fun t_1 =>
  (cond t_1 (some true) (some (rv_7.2.2 != 0))).bind fun t_2 =>
  (cond t_2 (some true) ((r0AlikeRows rv_1.1 ([[2, 3], [0, 1, 3]])).bind fun rv_8 =>
  some (!rv_8))).bind fun t_3 =>
  (cond t_3 (some true) ((r0To 22 37).bind fun rv_9 =>
  some (!([rv_3.1.Low, rv_3.1.High] == [rv_9.Low, rv_9.High])))).bind fun t_4 =>
  cond (((t_4 || rv_5.1) || (rv_7.1 != 21)) || (rv_7.2.1 != 4))
  (some false)
  ((remontoirlaw06_net ([] : List LineLoop)).bind fun rv_10 =>
  (line_Surely rv_10 3).bind fun rv_11 =>
  (remontoirlaw06_net ([] : List LineLoop)).bind fun rv_12 =>
  (line_Cut rv_12 2).bind fun rv_13 =>
  (remontoirlaw06_torn).bind fun rv_14 =>
  (remontoirlaw06_net rv_14).bind fun rv_15 =>
  (line_Wrong rv_15).bind fun rv_16 =>
  (cond (((rv_11.2 == 0) && (rv_13.2.2 == 0)) && (rv_16.2 == 0)) ((r0Alike rv_11.1 ([3])).bind fun rv_17 =>
  some rv_17) (some false)).bind fun t_5 =>
  (cond (t_5 && ((rv_13.1.length : Int) == 0)) ((r0Alike rv_13.2.1 ([1, 2, 3])).bind fun rv_18 =>
  some rv_18) (some false)).bind fun t_6 =>
  (cond t_6 ((r0Alike rv_16.1 ([2])).bind fun rv_19 =>
  some rv_19) (some false)).bind fun t_7 =>
  some t_7)
theorem remontoirlaw06_works_ok {w0 : World} {D0 : Stab} (hD : D0.on w0) (hG : Glob D0) (out : Bool) (h : remontoirlaw06_works = some out) : Calls Tryd.prog 23 [].toArray w0 (RetP D0 w0 (.bool out)) := by
 refine enter _ 120 Tryd.func23 rfl Tryd.ntmps23 rfl fun a hF => ?_
 replace hF : Frm 120 [] [] a := hF
 have hS := St.start hD
 unfold remontoirlaw06_works at h
 refine seq (region (step hF (Y.assign hF rfl) rfl fun a hF => nil (then_n (seq (region ?_)))))
 obtain ⟨rv, hx, h⟩ := bind_some h
 refine O.callS (us := [.slice none 0 0]) ca_56 hF hS (remontoirlaw06_net_ok hS.stab ([] : List LineLoop) SRc.nil rv hx) rfl rfl fun v Dv a w hR hlev hF hS => ?_
 replace hG := hG.mono hlev
 obtain ⟨p, c, p_1, c_1, rfl, hs, hs_1⟩ := hR
 obtain ⟨rv_1, hx_1, h⟩ := bind_some h
 refine O.callS (us := [.agg #[.int .i64 rv.Exchanges, .slice p rv.Lines.length c, .int .i64 rv.Hops, .slice p_1 rv.Loops.length c_1], .int .i64 3]) ca_15 hF hS (line_Routes_ok hS.stab rv 3 hs hs_1 hG rv_1 hx_1) rfl rfl fun v_1 Dv_1 a w hR_1 hlev_1 hF hS => ?_
 replace hG := hG.mono hlev_1
 obtain ⟨p_2, c_2, rfl, hs_2⟩ := hR_1
 refine step hF (Y.move hF rfl) rfl fun a hF => step hF (Y.extract hF rfl rfl) rfl fun a hF => step hF (Y.extract hF rfl rfl) rfl fun a hF => step hF (Y.assign hF rfl) rfl fun a hF => step hF (Y.assign hF rfl) rfl fun a hF => nil (then_n (seq (region ?_)))
 obtain ⟨rv_2, hx_2, h⟩ := bind_some h
 refine O.callS (us := [.slice none 0 0]) ca_56 hF hS (remontoirlaw06_net_ok hS.stab ([] : List LineLoop) SRc.nil rv_2 hx_2) rfl rfl fun v_2 Dv_2 a w hR_2 hlev_2 hF hS => ?_
 replace hG := hG.mono hlev_2
 replace hs_2 := hs_2.mono hlev_2
 obtain ⟨p_3, c_3, p_4, c_4, rfl, hs_3, hs_4⟩ := hR_2
 obtain ⟨rv_3, hx_3, h⟩ := bind_some h
 refine O.callP (us := [.agg #[.int .i64 rv_2.Exchanges, .slice p_3 rv_2.Lines.length c_3, .int .i64 rv_2.Hops, .slice p_4 rv_2.Loops.length c_4], .int .i64 3]) ca_24 hF hS (line_Delay_ok hS.stab rv_2 3 hs_3 hs_4 hG rv_3 hx_3) rfl rfl fun a w hF hS => step hF (Y.move hF rfl) rfl fun a hF => step hF (Y.extract hF rfl rfl) rfl fun a hF => step hF (Y.extract hF rfl rfl) rfl fun a hF => O.alloc 1 zc_40 hF hS rfl fun b a w hF hS => O.store (us := [.int .i64 rv_3.1.Low, .int .i64 rv_3.1.High]) 1 sz_40 hF rfl rfl rfl rfl hS rfl rfl fun a w hF hS => step hF (Y.assign hF rfl) rfl fun a hF => nil (then_n (seq (region ?_)))
 obtain ⟨rv_4, hx_4, h⟩ := bind_some h
 refine O.callS (us := [.slice none 0 0]) ca_56 hF hS (remontoirlaw06_net_ok hS.stab ([] : List LineLoop) SRc.nil rv_4 hx_4) rfl rfl fun v_3 Dv_3 a w hR_3 hlev_3 hF hS => ?_
 replace hG := hG.mono hlev_3
 replace hs_2 := hs_2.mono hlev_3
 obtain ⟨p_5, c_5, p_6, c_6, rfl, hs_5, hs_6⟩ := hR_3
 obtain ⟨rv_5, hx_5, h⟩ := bind_some h
 refine O.callP (us := [.agg #[.int .i64 rv_4.Exchanges, .slice p_5 rv_4.Lines.length c_5, .int .i64 rv_4.Hops, .slice p_6 rv_4.Loops.length c_6], .int .i64 3, .int .i64 26]) ca_26 hF hS (line_Can_ok hS.stab rv_4 3 26 hs_5 hs_6 hG rv_5 hx_5) rfl rfl fun a w hF hS => step hF (Y.move hF rfl) rfl fun a hF => step hF (Y.extract hF rfl rfl) rfl fun a hF => step hF (Y.extract hF rfl rfl) rfl fun a hF => step hF (Y.assign hF rfl) rfl fun a hF => step hF (Y.assign hF rfl) rfl fun a hF => nil (then_n (seq (region ?_)))
 obtain ⟨rv_6, hx_6, h⟩ := bind_some h
 refine O.callS (us := [.slice none 0 0]) ca_56 hF hS (remontoirlaw06_net_ok hS.stab ([] : List LineLoop) SRc.nil rv_6 hx_6) rfl rfl fun v_4 Dv_4 a w hR_4 hlev_4 hF hS => ?_
 replace hG := hG.mono hlev_4
 replace hs_2 := hs_2.mono hlev_4
 obtain ⟨p_7, c_7, p_8, c_8, rfl, hs_7, hs_8⟩ := hR_4
 obtain ⟨rv_7, hx_7, h⟩ := bind_some h
 refine O.callP (us := [.agg #[.int .i64 rv_6.Exchanges, .slice p_7 rv_6.Lines.length c_7, .int .i64 rv_6.Hops, .slice p_8 rv_6.Loops.length c_8], .int .i64 2]) ca_28 hF hS (line_Correct_ok hS.stab rv_6 2 hs_7 hs_8 hG rv_7 hx_7) rfl rfl fun a w hF hS => step hF (Y.move hF rfl) rfl fun a hF => step hF (Y.extract hF rfl rfl) rfl fun a hF => step hF (Y.extract hF rfl rfl) rfl fun a hF => step hF (Y.extract hF rfl rfl) rfl fun a hF => step hF (Y.assign hF rfl) rfl fun a hF => step hF (Y.assign hF rfl) rfl fun a hF => step hF (Y.assign hF rfl) rfl fun a hF => nil (then_n (seq (seq ?_)))
 obtain ⟨t, ht, h⟩ := bind_some h
 obtain ⟨t_1, ht_1, h⟩ := bind_some h
 obtain ⟨t_2, ht_2, h⟩ := bind_some h
 obtain ⟨t_3, ht_3, h⟩ := bind_some h
 obtain ⟨t_4, ht_4, h⟩ := bind_some h
 refine drawsV 27 (.flt 0 (.flt 1 (.flt 2 (.flt 3 (.flt 4 (.flt 5 (.flt 6 (.flt 7 (.flt 8 (.flt 9 (.flt 10 (.flt 11 (.flt 12 (.flt 13 (.flt 14 (.flt 15 (.alt 16 (.alt 17 (.alt 18 (.alt 19 (.flt 20 (.flt 21 (.flt 22 (.flt 23 (.alt 24 (.flt 25 (.flt 26 .done)) .stop))))) .stop) .stop) .stop) (.alt 17 (.alt 16 (.alt 18 (.alt 19 (.flt 20 (.flt 21 (.flt 22 (.flt 23 (.alt 24 (.flt 25 (.flt 26 .done)) .stop))))) .stop) .stop) .stop) .stop)))))))))))))))))) mixed_ (by kernel_rfl) (fun w => St w0 D0 Dv_4 [(1, .cells b [.int .i64 rv_3.1.Low, .int .i64 rv_3.1.High] 40)] w) (fun a w => ∃ (Dv_9 : Stab), Dv_4.le Dv_9 ∧ Frm 120 [] [(0, .bool false), (2, .int .i64 rv_1.2), (4, .int .i64 rv_3.2), (5, .bool rv_5.1), (6, .int .i64 rv_5.2), (7, .int .i64 rv_7.1), (8, .int .i64 rv_7.2.1), (61, .bool t_4)] a ∧ St w0 D0 Dv_9 [(1, .cells b [.int .i64 rv_3.1.Low, .int .i64 rv_3.1.High] 40)] w) (hS.weak (ms := [(1, .cells b [.int .i64 rv_3.1.Low, .int .i64 rv_3.1.High] 40)]) ⟨rfl, trivial⟩).drew (fun _ _ _ _ h => h) ?_ ?_
 ·replace hS := hS.drew
  have hle0 := hS.le
  rcases bcases (rv_1.2 != 0) with hbv | hbv
  ·skip
   replace ht := cond_t ht hbv
   obtain rfl := some_inj ht
   replace ht_1 := cond_t ht_1 rfl
   obtain rfl := some_inj ht_1
   replace ht_2 := cond_t ht_2 rfl
   obtain rfl := some_inj ht_2
   replace ht_3 := cond_t ht_3 rfl
   obtain rfl := some_inj ht_3
   replace ht_4 := cond_t ht_4 rfl
   obtain rfl := some_inj ht_4
   refine stepV (i := 0) rfl hF (fun w hS => Y.move hF rfl) rfl fun a hF => stepV (i := 1) rfl hF (fun w hS => Y.neq hF rfl rfl) rfl fun a hF => stepV (i := 2) rfl hF (fun w hS => Y.move hF rfl) rfl fun a hF => stepV_off (i := 3) rfl hF rfl rfl hbv rfl fun a hF => stepV_off (i := 4) rfl hF rfl rfl hbv rfl fun a hF => stepV (i := 5) rfl hF (fun w hS => Y.pick_t hF rfl hbv rfl) rfl fun a hF => stepV (i := 6) rfl hF (fun w hS => Y.move hF rfl) rfl fun a hF => stepV_off (i := 7) rfl hF rfl rfl rfl rfl fun a hF => stepV_off (i := 8) rfl hF rfl rfl rfl rfl fun a hF => stepV (i := 9) rfl hF (fun w hS => Y.pick_t hF rfl rfl rfl) rfl fun a hF => stepV (i := 10) rfl hF (fun w hS => Y.move hF rfl) rfl fun a hF => stepV_off (i := 11) rfl hF rfl rfl rfl rfl fun a hF => stepV_off (i := 12) rfl hF rfl rfl rfl rfl fun a hF => stepV (i := 13) rfl hF (fun w hS => Y.pick_t hF rfl rfl rfl) rfl fun a hF => stepV (i := 14) rfl hF (fun w hS => Y.move hF rfl) rfl fun a hF => stepV_off (i := 15) rfl hF rfl rfl rfl rfl fun a hF => oneV (i := 16) rfl ?_ ?_
   ·skip
    refine guard_off hF rfl rfl rfl rfl fun a hF => nil (then_n ⟨hS.weak ⟨rfl, trivial⟩, ?_⟩)
    refine oneV (i := 17) rfl ?_ trivial
    refine guard_off hF rfl rfl rfl rfl fun a hF => nil (then_n ⟨hS.weak ⟨rfl, trivial⟩, ?_⟩)
    refine oneV (i := 18) rfl ?_ trivial
    refine guard_off hF rfl rfl rfl rfl fun a hF => nil (then_n ⟨hS.weak ⟨rfl, trivial⟩, ?_⟩)
    refine oneV (i := 19) rfl ?_ trivial
    refine guard_off hF rfl rfl rfl rfl fun a hF => nil (then_n ⟨hS.weak ⟨rfl, trivial⟩, ?_⟩)
    refine stepV_off (i := 20) rfl hF rfl rfl rfl rfl fun a hF => stepV (i := 21) rfl hF (fun w hS => Y.pick_t hF rfl rfl rfl) rfl fun a hF => stepV (i := 22) rfl hF (fun w hS => Y.move hF rfl) rfl fun a hF => stepV_off (i := 23) rfl hF rfl rfl rfl rfl fun a hF => oneV (i := 24) rfl ?_ trivial
    refine guard_off hF rfl rfl rfl rfl fun a hF => nil (then_n ⟨hS.weak ⟨rfl, trivial⟩, ?_⟩)
    refine stepV_off (i := 25) rfl hF rfl rfl rfl rfl fun a hF => stepV (i := 26) rfl hF (fun w hS => Y.pick_t hF rfl rfl rfl) rfl fun a hF => toTailV ⟨Dv_4, Stab.le.refl _, hF.weak ⟨rfl, rfl, rfl, rfl, rfl, rfl, rfl, rfl, trivial⟩, hS.weak ⟨rfl, trivial⟩⟩
   refine oneV (i := 17) rfl ?_ trivial
   refine guard_off hF rfl rfl rfl rfl fun a hF => nil (then_n ⟨hS.weak ⟨rfl, trivial⟩, ?_⟩)
   refine oneV (i := 16) rfl ?_ trivial
   refine guard_off hF rfl rfl rfl rfl fun a hF => nil (then_n ⟨hS.weak ⟨rfl, trivial⟩, ?_⟩)
   refine oneV (i := 18) rfl ?_ trivial
   refine guard_off hF rfl rfl rfl rfl fun a hF => nil (then_n ⟨hS.weak ⟨rfl, trivial⟩, ?_⟩)
   refine oneV (i := 19) rfl ?_ trivial
   refine guard_off hF rfl rfl rfl rfl fun a hF => nil (then_n ⟨hS.weak ⟨rfl, trivial⟩, ?_⟩)
   refine stepV_off (i := 20) rfl hF rfl rfl rfl rfl fun a hF => stepV (i := 21) rfl hF (fun w hS => Y.pick_t hF rfl rfl rfl) rfl fun a hF => stepV (i := 22) rfl hF (fun w hS => Y.move hF rfl) rfl fun a hF => stepV_off (i := 23) rfl hF rfl rfl rfl rfl fun a hF => oneV (i := 24) rfl ?_ trivial
   refine guard_off hF rfl rfl rfl rfl fun a hF => nil (then_n ⟨hS.weak ⟨rfl, trivial⟩, ?_⟩)
   refine stepV_off (i := 25) rfl hF rfl rfl rfl rfl fun a hF => stepV (i := 26) rfl hF (fun w hS => Y.pick_t hF rfl rfl rfl) rfl fun a hF => toTailV ⟨Dv_4, Stab.le.refl _, hF.weak ⟨rfl, rfl, rfl, rfl, rfl, rfl, rfl, rfl, trivial⟩, hS.weak ⟨rfl, trivial⟩⟩
  replace ht := cond_f ht hbv
  obtain rfl := some_inj ht
  rcases bcases (rv_3.2 != 0) with hbv_1 | hbv_1
  ·skip
   replace ht_1 := cond_t ht_1 hbv_1
   obtain rfl := some_inj ht_1
   replace ht_2 := cond_t ht_2 rfl
   obtain rfl := some_inj ht_2
   replace ht_3 := cond_t ht_3 rfl
   obtain rfl := some_inj ht_3
   replace ht_4 := cond_t ht_4 rfl
   obtain rfl := some_inj ht_4
   refine stepV (i := 0) rfl hF (fun w hS => Y.move hF rfl) rfl fun a hF => stepV (i := 1) rfl hF (fun w hS => Y.neq hF rfl rfl) rfl fun a hF => stepV (i := 2) rfl hF (fun w hS => Y.move hF rfl) rfl fun a hF => stepV_on (i := 3) rfl hF rfl rfl hbv (fun w hS => Y.move hF rfl) rfl fun a hF => stepV_on (i := 4) rfl hF rfl rfl hbv (fun w hS => Y.neq hF rfl rfl) rfl fun a hF => stepV (i := 5) rfl hF (fun w hS => Y.pick_f hF rfl hbv rfl) rfl fun a hF => stepV (i := 6) rfl hF (fun w hS => Y.move hF rfl) rfl fun a hF => stepV_off (i := 7) rfl hF rfl rfl hbv_1 rfl fun a hF => stepV_off (i := 8) rfl hF rfl rfl hbv_1 rfl fun a hF => stepV (i := 9) rfl hF (fun w hS => Y.pick_t hF rfl hbv_1 rfl) rfl fun a hF => stepV (i := 10) rfl hF (fun w hS => Y.move hF rfl) rfl fun a hF => stepV_off (i := 11) rfl hF rfl rfl rfl rfl fun a hF => stepV_off (i := 12) rfl hF rfl rfl rfl rfl fun a hF => stepV (i := 13) rfl hF (fun w hS => Y.pick_t hF rfl rfl rfl) rfl fun a hF => stepV (i := 14) rfl hF (fun w hS => Y.move hF rfl) rfl fun a hF => stepV_off (i := 15) rfl hF rfl rfl rfl rfl fun a hF => oneV (i := 16) rfl ?_ ?_
   ·skip
    refine guard_off hF rfl rfl rfl rfl fun a hF => nil (then_n ⟨hS.weak ⟨rfl, trivial⟩, ?_⟩)
    refine oneV (i := 17) rfl ?_ trivial
    refine guard_off hF rfl rfl rfl rfl fun a hF => nil (then_n ⟨hS.weak ⟨rfl, trivial⟩, ?_⟩)
    refine oneV (i := 18) rfl ?_ trivial
    refine guard_off hF rfl rfl rfl rfl fun a hF => nil (then_n ⟨hS.weak ⟨rfl, trivial⟩, ?_⟩)
    refine oneV (i := 19) rfl ?_ trivial
    refine guard_off hF rfl rfl rfl rfl fun a hF => nil (then_n ⟨hS.weak ⟨rfl, trivial⟩, ?_⟩)
    refine stepV_off (i := 20) rfl hF rfl rfl rfl rfl fun a hF => stepV (i := 21) rfl hF (fun w hS => Y.pick_t hF rfl rfl rfl) rfl fun a hF => stepV (i := 22) rfl hF (fun w hS => Y.move hF rfl) rfl fun a hF => stepV_off (i := 23) rfl hF rfl rfl rfl rfl fun a hF => oneV (i := 24) rfl ?_ trivial
    refine guard_off hF rfl rfl rfl rfl fun a hF => nil (then_n ⟨hS.weak ⟨rfl, trivial⟩, ?_⟩)
    refine stepV_off (i := 25) rfl hF rfl rfl rfl rfl fun a hF => stepV (i := 26) rfl hF (fun w hS => Y.pick_t hF rfl rfl rfl) rfl fun a hF => toTailV ⟨Dv_4, Stab.le.refl _, hF.weak ⟨rfl, rfl, rfl, rfl, rfl, rfl, rfl, rfl, trivial⟩, hS.weak ⟨rfl, trivial⟩⟩
   refine oneV (i := 17) rfl ?_ trivial
   refine guard_off hF rfl rfl rfl rfl fun a hF => nil (then_n ⟨hS.weak ⟨rfl, trivial⟩, ?_⟩)
   refine oneV (i := 16) rfl ?_ trivial
   refine guard_off hF rfl rfl rfl rfl fun a hF => nil (then_n ⟨hS.weak ⟨rfl, trivial⟩, ?_⟩)
   refine oneV (i := 18) rfl ?_ trivial
   refine guard_off hF rfl rfl rfl rfl fun a hF => nil (then_n ⟨hS.weak ⟨rfl, trivial⟩, ?_⟩)
   refine oneV (i := 19) rfl ?_ trivial
   refine guard_off hF rfl rfl rfl rfl fun a hF => nil (then_n ⟨hS.weak ⟨rfl, trivial⟩, ?_⟩)
   refine stepV_off (i := 20) rfl hF rfl rfl rfl rfl fun a hF => stepV (i := 21) rfl hF (fun w hS => Y.pick_t hF rfl rfl rfl) rfl fun a hF => stepV (i := 22) rfl hF (fun w hS => Y.move hF rfl) rfl fun a hF => stepV_off (i := 23) rfl hF rfl rfl rfl rfl fun a hF => oneV (i := 24) rfl ?_ trivial
   refine guard_off hF rfl rfl rfl rfl fun a hF => nil (then_n ⟨hS.weak ⟨rfl, trivial⟩, ?_⟩)
   refine stepV_off (i := 25) rfl hF rfl rfl rfl rfl fun a hF => stepV (i := 26) rfl hF (fun w hS => Y.pick_t hF rfl rfl rfl) rfl fun a hF => toTailV ⟨Dv_4, Stab.le.refl _, hF.weak ⟨rfl, rfl, rfl, rfl, rfl, rfl, rfl, rfl, trivial⟩, hS.weak ⟨rfl, trivial⟩⟩
  replace ht_1 := cond_f ht_1 hbv_1
  obtain rfl := some_inj ht_1
  rcases bcases (rv_5.2 != 0) with hbv_2 | hbv_2
  ·skip
   replace ht_2 := cond_t ht_2 hbv_2
   obtain rfl := some_inj ht_2
   replace ht_3 := cond_t ht_3 rfl
   obtain rfl := some_inj ht_3
   replace ht_4 := cond_t ht_4 rfl
   obtain rfl := some_inj ht_4
   refine stepV (i := 0) rfl hF (fun w hS => Y.move hF rfl) rfl fun a hF => stepV (i := 1) rfl hF (fun w hS => Y.neq hF rfl rfl) rfl fun a hF => stepV (i := 2) rfl hF (fun w hS => Y.move hF rfl) rfl fun a hF => stepV_on (i := 3) rfl hF rfl rfl hbv (fun w hS => Y.move hF rfl) rfl fun a hF => stepV_on (i := 4) rfl hF rfl rfl hbv (fun w hS => Y.neq hF rfl rfl) rfl fun a hF => stepV (i := 5) rfl hF (fun w hS => Y.pick_f hF rfl hbv rfl) rfl fun a hF => stepV (i := 6) rfl hF (fun w hS => Y.move hF rfl) rfl fun a hF => stepV_on (i := 7) rfl hF rfl rfl hbv_1 (fun w hS => Y.move hF rfl) rfl fun a hF => stepV_on (i := 8) rfl hF rfl rfl hbv_1 (fun w hS => Y.neq hF rfl rfl) rfl fun a hF => stepV (i := 9) rfl hF (fun w hS => Y.pick_f hF rfl hbv_1 rfl) rfl fun a hF => stepV (i := 10) rfl hF (fun w hS => Y.move hF rfl) rfl fun a hF => stepV_off (i := 11) rfl hF rfl rfl hbv_2 rfl fun a hF => stepV_off (i := 12) rfl hF rfl rfl hbv_2 rfl fun a hF => stepV (i := 13) rfl hF (fun w hS => Y.pick_t hF rfl hbv_2 rfl) rfl fun a hF => stepV (i := 14) rfl hF (fun w hS => Y.move hF rfl) rfl fun a hF => stepV_off (i := 15) rfl hF rfl rfl rfl rfl fun a hF => oneV (i := 16) rfl ?_ ?_
   ·skip
    refine guard_off hF rfl rfl rfl rfl fun a hF => nil (then_n ⟨hS.weak ⟨rfl, trivial⟩, ?_⟩)
    refine oneV (i := 17) rfl ?_ trivial
    refine guard_off hF rfl rfl rfl rfl fun a hF => nil (then_n ⟨hS.weak ⟨rfl, trivial⟩, ?_⟩)
    refine oneV (i := 18) rfl ?_ trivial
    refine guard_off hF rfl rfl rfl rfl fun a hF => nil (then_n ⟨hS.weak ⟨rfl, trivial⟩, ?_⟩)
    refine oneV (i := 19) rfl ?_ trivial
    refine guard_off hF rfl rfl rfl rfl fun a hF => nil (then_n ⟨hS.weak ⟨rfl, trivial⟩, ?_⟩)
    refine stepV_off (i := 20) rfl hF rfl rfl rfl rfl fun a hF => stepV (i := 21) rfl hF (fun w hS => Y.pick_t hF rfl rfl rfl) rfl fun a hF => stepV (i := 22) rfl hF (fun w hS => Y.move hF rfl) rfl fun a hF => stepV_off (i := 23) rfl hF rfl rfl rfl rfl fun a hF => oneV (i := 24) rfl ?_ trivial
    refine guard_off hF rfl rfl rfl rfl fun a hF => nil (then_n ⟨hS.weak ⟨rfl, trivial⟩, ?_⟩)
    refine stepV_off (i := 25) rfl hF rfl rfl rfl rfl fun a hF => stepV (i := 26) rfl hF (fun w hS => Y.pick_t hF rfl rfl rfl) rfl fun a hF => toTailV ⟨Dv_4, Stab.le.refl _, hF.weak ⟨rfl, rfl, rfl, rfl, rfl, rfl, rfl, rfl, trivial⟩, hS.weak ⟨rfl, trivial⟩⟩
   refine oneV (i := 17) rfl ?_ trivial
   refine guard_off hF rfl rfl rfl rfl fun a hF => nil (then_n ⟨hS.weak ⟨rfl, trivial⟩, ?_⟩)
   refine oneV (i := 16) rfl ?_ trivial
   refine guard_off hF rfl rfl rfl rfl fun a hF => nil (then_n ⟨hS.weak ⟨rfl, trivial⟩, ?_⟩)
   refine oneV (i := 18) rfl ?_ trivial
   refine guard_off hF rfl rfl rfl rfl fun a hF => nil (then_n ⟨hS.weak ⟨rfl, trivial⟩, ?_⟩)
   refine oneV (i := 19) rfl ?_ trivial
   refine guard_off hF rfl rfl rfl rfl fun a hF => nil (then_n ⟨hS.weak ⟨rfl, trivial⟩, ?_⟩)
   refine stepV_off (i := 20) rfl hF rfl rfl rfl rfl fun a hF => stepV (i := 21) rfl hF (fun w hS => Y.pick_t hF rfl rfl rfl) rfl fun a hF => stepV (i := 22) rfl hF (fun w hS => Y.move hF rfl) rfl fun a hF => stepV_off (i := 23) rfl hF rfl rfl rfl rfl fun a hF => oneV (i := 24) rfl ?_ trivial
   refine guard_off hF rfl rfl rfl rfl fun a hF => nil (then_n ⟨hS.weak ⟨rfl, trivial⟩, ?_⟩)
   refine stepV_off (i := 25) rfl hF rfl rfl rfl rfl fun a hF => stepV (i := 26) rfl hF (fun w hS => Y.pick_t hF rfl rfl rfl) rfl fun a hF => toTailV ⟨Dv_4, Stab.le.refl _, hF.weak ⟨rfl, rfl, rfl, rfl, rfl, rfl, rfl, rfl, trivial⟩, hS.weak ⟨rfl, trivial⟩⟩
  replace ht_2 := cond_f ht_2 hbv_2
  obtain rfl := some_inj ht_2
  rcases bcases (rv_7.2.2 != 0) with hbv_3 | hbv_3
  ·skip
   replace ht_3 := cond_t ht_3 hbv_3
   obtain rfl := some_inj ht_3
   replace ht_4 := cond_t ht_4 rfl
   obtain rfl := some_inj ht_4
   refine stepV (i := 0) rfl hF (fun w hS => Y.move hF rfl) rfl fun a hF => stepV (i := 1) rfl hF (fun w hS => Y.neq hF rfl rfl) rfl fun a hF => stepV (i := 2) rfl hF (fun w hS => Y.move hF rfl) rfl fun a hF => stepV_on (i := 3) rfl hF rfl rfl hbv (fun w hS => Y.move hF rfl) rfl fun a hF => stepV_on (i := 4) rfl hF rfl rfl hbv (fun w hS => Y.neq hF rfl rfl) rfl fun a hF => stepV (i := 5) rfl hF (fun w hS => Y.pick_f hF rfl hbv rfl) rfl fun a hF => stepV (i := 6) rfl hF (fun w hS => Y.move hF rfl) rfl fun a hF => stepV_on (i := 7) rfl hF rfl rfl hbv_1 (fun w hS => Y.move hF rfl) rfl fun a hF => stepV_on (i := 8) rfl hF rfl rfl hbv_1 (fun w hS => Y.neq hF rfl rfl) rfl fun a hF => stepV (i := 9) rfl hF (fun w hS => Y.pick_f hF rfl hbv_1 rfl) rfl fun a hF => stepV (i := 10) rfl hF (fun w hS => Y.move hF rfl) rfl fun a hF => stepV_on (i := 11) rfl hF rfl rfl hbv_2 (fun w hS => Y.move hF rfl) rfl fun a hF => stepV_on (i := 12) rfl hF rfl rfl hbv_2 (fun w hS => Y.neq hF rfl rfl) rfl fun a hF => stepV (i := 13) rfl hF (fun w hS => Y.pick_f hF rfl hbv_2 rfl) rfl fun a hF => stepV (i := 14) rfl hF (fun w hS => Y.move hF rfl) rfl fun a hF => stepV_off (i := 15) rfl hF rfl rfl hbv_3 rfl fun a hF => oneV (i := 16) rfl ?_ ?_
   ·skip
    refine guard_off hF rfl rfl hbv_3 rfl fun a hF => nil (then_n ⟨hS.weak ⟨rfl, trivial⟩, ?_⟩)
    refine oneV (i := 17) rfl ?_ trivial
    refine guard_off hF rfl rfl hbv_3 rfl fun a hF => nil (then_n ⟨hS.weak ⟨rfl, trivial⟩, ?_⟩)
    refine oneV (i := 18) rfl ?_ trivial
    refine guard_off hF rfl rfl hbv_3 rfl fun a hF => nil (then_n ⟨hS.weak ⟨rfl, trivial⟩, ?_⟩)
    refine oneV (i := 19) rfl ?_ trivial
    refine guard_off hF rfl rfl hbv_3 rfl fun a hF => nil (then_n ⟨hS.weak ⟨rfl, trivial⟩, ?_⟩)
    refine stepV_off (i := 20) rfl hF rfl rfl hbv_3 rfl fun a hF => stepV (i := 21) rfl hF (fun w hS => Y.pick_t hF rfl hbv_3 rfl) rfl fun a hF => stepV (i := 22) rfl hF (fun w hS => Y.move hF rfl) rfl fun a hF => stepV_off (i := 23) rfl hF rfl rfl rfl rfl fun a hF => oneV (i := 24) rfl ?_ trivial
    refine guard_off hF rfl rfl rfl rfl fun a hF => nil (then_n ⟨hS.weak ⟨rfl, trivial⟩, ?_⟩)
    refine stepV_off (i := 25) rfl hF rfl rfl rfl rfl fun a hF => stepV (i := 26) rfl hF (fun w hS => Y.pick_t hF rfl rfl rfl) rfl fun a hF => toTailV ⟨Dv_4, Stab.le.refl _, hF.weak ⟨rfl, rfl, rfl, rfl, rfl, rfl, rfl, rfl, trivial⟩, hS.weak ⟨rfl, trivial⟩⟩
   refine oneV (i := 17) rfl ?_ trivial
   refine guard_off hF rfl rfl hbv_3 rfl fun a hF => nil (then_n ⟨hS.weak ⟨rfl, trivial⟩, ?_⟩)
   refine oneV (i := 16) rfl ?_ trivial
   refine guard_off hF rfl rfl hbv_3 rfl fun a hF => nil (then_n ⟨hS.weak ⟨rfl, trivial⟩, ?_⟩)
   refine oneV (i := 18) rfl ?_ trivial
   refine guard_off hF rfl rfl hbv_3 rfl fun a hF => nil (then_n ⟨hS.weak ⟨rfl, trivial⟩, ?_⟩)
   refine oneV (i := 19) rfl ?_ trivial
   refine guard_off hF rfl rfl hbv_3 rfl fun a hF => nil (then_n ⟨hS.weak ⟨rfl, trivial⟩, ?_⟩)
   refine stepV_off (i := 20) rfl hF rfl rfl hbv_3 rfl fun a hF => stepV (i := 21) rfl hF (fun w hS => Y.pick_t hF rfl hbv_3 rfl) rfl fun a hF => stepV (i := 22) rfl hF (fun w hS => Y.move hF rfl) rfl fun a hF => stepV_off (i := 23) rfl hF rfl rfl rfl rfl fun a hF => oneV (i := 24) rfl ?_ trivial
   refine guard_off hF rfl rfl rfl rfl fun a hF => nil (then_n ⟨hS.weak ⟨rfl, trivial⟩, ?_⟩)
   refine stepV_off (i := 25) rfl hF rfl rfl rfl rfl fun a hF => stepV (i := 26) rfl hF (fun w hS => Y.pick_t hF rfl rfl rfl) rfl fun a hF => toTailV ⟨Dv_4, Stab.le.refl _, hF.weak ⟨rfl, rfl, rfl, rfl, rfl, rfl, rfl, rfl, trivial⟩, hS.weak ⟨rfl, trivial⟩⟩
  replace ht_3 := cond_f ht_3 hbv_3
  obtain ⟨rv_8, hx_8, ht_3⟩ := bind_some ht_3
  obtain rfl := some_inj ht_3
  rcases bcases (!rv_8) with hbv_4 | hbv_4
  ·skip
   replace ht_4 := cond_t ht_4 hbv_4
   obtain rfl := some_inj ht_4
   refine stepV (i := 0) rfl hF (fun w hS => Y.move hF rfl) rfl fun a hF => stepV (i := 1) rfl hF (fun w hS => Y.neq hF rfl rfl) rfl fun a hF => stepV (i := 2) rfl hF (fun w hS => Y.move hF rfl) rfl fun a hF => stepV_on (i := 3) rfl hF rfl rfl hbv (fun w hS => Y.move hF rfl) rfl fun a hF => stepV_on (i := 4) rfl hF rfl rfl hbv (fun w hS => Y.neq hF rfl rfl) rfl fun a hF => stepV (i := 5) rfl hF (fun w hS => Y.pick_f hF rfl hbv rfl) rfl fun a hF => stepV (i := 6) rfl hF (fun w hS => Y.move hF rfl) rfl fun a hF => stepV_on (i := 7) rfl hF rfl rfl hbv_1 (fun w hS => Y.move hF rfl) rfl fun a hF => stepV_on (i := 8) rfl hF rfl rfl hbv_1 (fun w hS => Y.neq hF rfl rfl) rfl fun a hF => stepV (i := 9) rfl hF (fun w hS => Y.pick_f hF rfl hbv_1 rfl) rfl fun a hF => stepV (i := 10) rfl hF (fun w hS => Y.move hF rfl) rfl fun a hF => stepV_on (i := 11) rfl hF rfl rfl hbv_2 (fun w hS => Y.move hF rfl) rfl fun a hF => stepV_on (i := 12) rfl hF rfl rfl hbv_2 (fun w hS => Y.neq hF rfl rfl) rfl fun a hF => stepV (i := 13) rfl hF (fun w hS => Y.pick_f hF rfl hbv_2 rfl) rfl fun a hF => stepV (i := 14) rfl hF (fun w hS => Y.move hF rfl) rfl fun a hF => stepV_on (i := 15) rfl hF rfl rfl hbv_3 (fun w hS => Y.move hF rfl) rfl fun a hF => oneV (i := 16) rfl ?_ ?_
   ·skip
    refine guard_on hF rfl rfl hbv_3 ?_
    have hr_3 : Reps C_int Dv_4 [2, 3] [.int .i64 2, .int .i64 3] := Reps.cons (C := C_int) (x := 2) (c := [.int .i64 2]) (r := [.int .i64 3]) rfl (Reps.cons (C := C_int) (x := 3) (c := [.int .i64 3]) (r := []) rfl (Reps.nil))
    refine O.buildSlice (E := 3) (C := C_int) (xs := [2, 3]) (cs := [.int .i64 2, .int .i64 3]) (us := [.int .i64 2, .int .i64 3]) (parts := [(0, (.const (.int .i64 2))), (1, (.const (.int .i64 3)))]) 2 hF hS rfl (by kernel_rfl) hr_3 rfl rfl rfl fun p_12 c_12 a w hF hS => nil (then_n ⟨hS.weak ⟨rfl, trivial⟩, ?_⟩)
    refine oneV (i := 17) rfl ?_ trivial
    refine guard_on hF rfl rfl hbv_3 ?_
    have hr_4 : Reps C_int Dv_4 [0, 1, 3] [.int .i64 0, .int .i64 1, .int .i64 3] := Reps.cons (C := C_int) (x := 0) (c := [.int .i64 0]) (r := [.int .i64 1, .int .i64 3]) rfl (Reps.cons (C := C_int) (x := 1) (c := [.int .i64 1]) (r := [.int .i64 3]) rfl (Reps.cons (C := C_int) (x := 3) (c := [.int .i64 3]) (r := []) rfl (Reps.nil)))
    refine O.buildSlice (E := 3) (C := C_int) (xs := [0, 1, 3]) (cs := [.int .i64 0, .int .i64 1, .int .i64 3]) (us := [.int .i64 0, .int .i64 1, .int .i64 3]) (parts := [(0, (.const (.int .i64 0))), (1, (.const (.int .i64 1))), (2, (.const (.int .i64 3)))]) 3 hF hS rfl (by kernel_rfl) hr_4 rfl rfl rfl fun p_13 c_13 a w hF hS => nil (then_n ⟨hS.weak ⟨rfl, trivial⟩, ?_⟩)
    refine oneV (i := 18) rfl ?_ trivial
    refine guard_on hF rfl rfl hbv_3 ?_
    obtain ⟨Dv_10, hlev_9, hs_12, hS⟩ := hS.freezeC (C := C_int) (i := 2) (xs := [2, 3]) rfl hr_3
    replace hs_2 := hs_2.mono hlev_9
    replace hr_4 := hr_4.mono hlev_9
    obtain ⟨Dv_11, hlev_10, hs_13, hS⟩ := hS.freezeC (C := C_int) (i := 3) (xs := [0, 1, 3]) rfl hr_4
    replace hs_2 := hs_2.mono hlev_10
    replace hs_12 := hs_12.mono hlev_10
    have hr_5 : Reps (C_sl C_int) Dv_11 [[2, 3], [0, 1, 3]] [.slice p_12 ([2, 3]).length c_12, .slice p_13 ([0, 1, 3]).length c_13] := Reps.cons (C := (C_sl C_int)) (x := [2, 3]) (c := [.slice p_12 ([2, 3]).length c_12]) (r := [.slice p_13 ([0, 1, 3]).length c_13]) (⟨_, _, rfl, hs_12⟩) (Reps.cons (C := (C_sl C_int)) (x := [0, 1, 3]) (c := [.slice p_13 ([0, 1, 3]).length c_13]) (r := []) (⟨_, _, rfl, hs_13⟩) (Reps.nil))
    refine O.buildSlice (E := 32) (C := (C_sl C_int)) (xs := [[2, 3], [0, 1, 3]]) (cs := [.slice p_12 ([2, 3]).length c_12, .slice p_13 ([0, 1, 3]).length c_13]) (us := [.slice p_12 ([2, 3]).length c_12, .slice p_13 ([0, 1, 3]).length c_13]) (parts := [(0, (.tmp 51)), (1, (.tmp 52))]) 4 hF hS rfl (by kernel_rfl) hr_5 rfl rfl rfl fun p_14 c_14 a w hF hS => nil (then_n ⟨(hS.weak (ms := [(1, .cells b [.int .i64 rv_3.1.Low, .int .i64 rv_3.1.High] 40)]) ⟨rfl, trivial⟩).weakD (hlev_9.trans hlev_10) hle0, ?_⟩)
    refine oneV (i := 19) rfl ?_ trivial
    refine guard_on hF rfl rfl hbv_3 ?_
    obtain ⟨Dv_12, hlev_11, hs_14, hS⟩ := hS.freezeC (C := (C_sl C_int)) (i := 4) (xs := [[2, 3], [0, 1, 3]]) rfl hr_5
    replace hs_2 := hs_2.mono hlev_11
    refine O.callP (us := [.slice p_2 rv_1.1.length c_2, .slice p_14 ([[2, 3], [0, 1, 3]]).length c_14]) ca_17 hF hS (r0AlikeRows_ok hS.stab rv_1.1 ([[2, 3], [0, 1, 3]]) hs_2 hs_14 rv_8 hx_8) rfl rfl fun a w hF hS => nil (then_n ⟨(hS.weak (ms := [(1, .cells b [.int .i64 rv_3.1.Low, .int .i64 rv_3.1.High] 40)]) ⟨rfl, trivial⟩).weakD (hlev_9.trans (hlev_10.trans hlev_11)) hle0, ?_⟩)
    refine stepV_on (i := 20) rfl hF rfl rfl hbv_3 (fun w hS => Y.not hF rfl) rfl fun a hF => stepV (i := 21) rfl hF (fun w hS => Y.pick_f hF rfl hbv_3 rfl) rfl fun a hF => stepV (i := 22) rfl hF (fun w hS => Y.move hF rfl) rfl fun a hF => stepV_off (i := 23) rfl hF rfl rfl hbv_4 rfl fun a hF => oneV (i := 24) rfl ?_ trivial
    refine guard_off hF rfl rfl hbv_4 rfl fun a hF => nil (then_n ⟨(hS.weak (ms := [(1, .cells b [.int .i64 rv_3.1.Low, .int .i64 rv_3.1.High] 40)]) ⟨rfl, trivial⟩).weakD (hlev_9.trans (hlev_10.trans hlev_11)) hle0, ?_⟩)
    refine stepV_off (i := 25) rfl hF rfl rfl hbv_4 rfl fun a hF => stepV (i := 26) rfl hF (fun w hS => Y.pick_t hF rfl hbv_4 rfl) rfl fun a hF => toTailV ⟨Dv_12, hlev_9.trans (hlev_10.trans hlev_11), hF.weak ⟨rfl, rfl, rfl, rfl, rfl, rfl, rfl, rfl, trivial⟩, hS.weak ⟨rfl, trivial⟩⟩
   refine oneV (i := 17) rfl ?_ trivial
   refine guard_on hF rfl rfl hbv_3 ?_
   have hr_6 : Reps C_int Dv_4 [0, 1, 3] [.int .i64 0, .int .i64 1, .int .i64 3] := Reps.cons (C := C_int) (x := 0) (c := [.int .i64 0]) (r := [.int .i64 1, .int .i64 3]) rfl (Reps.cons (C := C_int) (x := 1) (c := [.int .i64 1]) (r := [.int .i64 3]) rfl (Reps.cons (C := C_int) (x := 3) (c := [.int .i64 3]) (r := []) rfl (Reps.nil)))
   refine O.buildSlice (E := 3) (C := C_int) (xs := [0, 1, 3]) (cs := [.int .i64 0, .int .i64 1, .int .i64 3]) (us := [.int .i64 0, .int .i64 1, .int .i64 3]) (parts := [(0, (.const (.int .i64 0))), (1, (.const (.int .i64 1))), (2, (.const (.int .i64 3)))]) 3 hF hS rfl (by kernel_rfl) hr_6 rfl rfl rfl fun p_15 c_15 a w hF hS => nil (then_n ⟨hS.weak ⟨rfl, trivial⟩, ?_⟩)
   refine oneV (i := 16) rfl ?_ trivial
   refine guard_on hF rfl rfl hbv_3 ?_
   have hr_7 : Reps C_int Dv_4 [2, 3] [.int .i64 2, .int .i64 3] := Reps.cons (C := C_int) (x := 2) (c := [.int .i64 2]) (r := [.int .i64 3]) rfl (Reps.cons (C := C_int) (x := 3) (c := [.int .i64 3]) (r := []) rfl (Reps.nil))
   refine O.buildSlice (E := 3) (C := C_int) (xs := [2, 3]) (cs := [.int .i64 2, .int .i64 3]) (us := [.int .i64 2, .int .i64 3]) (parts := [(0, (.const (.int .i64 2))), (1, (.const (.int .i64 3)))]) 2 hF hS rfl (by kernel_rfl) hr_7 rfl rfl rfl fun p_16 c_16 a w hF hS => nil (then_n ⟨hS.weak ⟨rfl, trivial⟩, ?_⟩)
   refine oneV (i := 18) rfl ?_ trivial
   refine guard_on hF rfl rfl hbv_3 ?_
   obtain ⟨Dv_13, hlev_12, hs_15, hS⟩ := hS.freezeC (C := C_int) (i := 2) (xs := [2, 3]) rfl hr_7
   replace hs_2 := hs_2.mono hlev_12
   replace hr_6 := hr_6.mono hlev_12
   obtain ⟨Dv_14, hlev_13, hs_16, hS⟩ := hS.freezeC (C := C_int) (i := 3) (xs := [0, 1, 3]) rfl hr_6
   replace hs_2 := hs_2.mono hlev_13
   replace hs_15 := hs_15.mono hlev_13
   have hr_8 : Reps (C_sl C_int) Dv_14 [[2, 3], [0, 1, 3]] [.slice p_16 ([2, 3]).length c_16, .slice p_15 ([0, 1, 3]).length c_15] := Reps.cons (C := (C_sl C_int)) (x := [2, 3]) (c := [.slice p_16 ([2, 3]).length c_16]) (r := [.slice p_15 ([0, 1, 3]).length c_15]) (⟨_, _, rfl, hs_15⟩) (Reps.cons (C := (C_sl C_int)) (x := [0, 1, 3]) (c := [.slice p_15 ([0, 1, 3]).length c_15]) (r := []) (⟨_, _, rfl, hs_16⟩) (Reps.nil))
   refine O.buildSlice (E := 32) (C := (C_sl C_int)) (xs := [[2, 3], [0, 1, 3]]) (cs := [.slice p_16 ([2, 3]).length c_16, .slice p_15 ([0, 1, 3]).length c_15]) (us := [.slice p_16 ([2, 3]).length c_16, .slice p_15 ([0, 1, 3]).length c_15]) (parts := [(0, (.tmp 51)), (1, (.tmp 52))]) 4 hF hS rfl (by kernel_rfl) hr_8 rfl rfl rfl fun p_17 c_17 a w hF hS => nil (then_n ⟨(hS.weak (ms := [(1, .cells b [.int .i64 rv_3.1.Low, .int .i64 rv_3.1.High] 40)]) ⟨rfl, trivial⟩).weakD (hlev_12.trans hlev_13) hle0, ?_⟩)
   refine oneV (i := 19) rfl ?_ trivial
   refine guard_on hF rfl rfl hbv_3 ?_
   obtain ⟨Dv_15, hlev_14, hs_17, hS⟩ := hS.freezeC (C := (C_sl C_int)) (i := 4) (xs := [[2, 3], [0, 1, 3]]) rfl hr_8
   replace hs_2 := hs_2.mono hlev_14
   refine O.callP (us := [.slice p_2 rv_1.1.length c_2, .slice p_17 ([[2, 3], [0, 1, 3]]).length c_17]) ca_17 hF hS (r0AlikeRows_ok hS.stab rv_1.1 ([[2, 3], [0, 1, 3]]) hs_2 hs_17 rv_8 hx_8) rfl rfl fun a w hF hS => nil (then_n ⟨(hS.weak (ms := [(1, .cells b [.int .i64 rv_3.1.Low, .int .i64 rv_3.1.High] 40)]) ⟨rfl, trivial⟩).weakD (hlev_12.trans (hlev_13.trans hlev_14)) hle0, ?_⟩)
   refine stepV_on (i := 20) rfl hF rfl rfl hbv_3 (fun w hS => Y.not hF rfl) rfl fun a hF => stepV (i := 21) rfl hF (fun w hS => Y.pick_f hF rfl hbv_3 rfl) rfl fun a hF => stepV (i := 22) rfl hF (fun w hS => Y.move hF rfl) rfl fun a hF => stepV_off (i := 23) rfl hF rfl rfl hbv_4 rfl fun a hF => oneV (i := 24) rfl ?_ trivial
   refine guard_off hF rfl rfl hbv_4 rfl fun a hF => nil (then_n ⟨(hS.weak (ms := [(1, .cells b [.int .i64 rv_3.1.Low, .int .i64 rv_3.1.High] 40)]) ⟨rfl, trivial⟩).weakD (hlev_12.trans (hlev_13.trans hlev_14)) hle0, ?_⟩)
   refine stepV_off (i := 25) rfl hF rfl rfl hbv_4 rfl fun a hF => stepV (i := 26) rfl hF (fun w hS => Y.pick_t hF rfl hbv_4 rfl) rfl fun a hF => toTailV ⟨Dv_15, hlev_12.trans (hlev_13.trans hlev_14), hF.weak ⟨rfl, rfl, rfl, rfl, rfl, rfl, rfl, rfl, trivial⟩, hS.weak ⟨rfl, trivial⟩⟩
  replace ht_4 := cond_f ht_4 hbv_4
  obtain ⟨rv_9, hx_9, ht_4⟩ := bind_some ht_4
  obtain rfl := some_inj ht_4
  refine stepV (i := 0) rfl hF (fun w hS => Y.move hF rfl) rfl fun a hF => stepV (i := 1) rfl hF (fun w hS => Y.neq hF rfl rfl) rfl fun a hF => stepV (i := 2) rfl hF (fun w hS => Y.move hF rfl) rfl fun a hF => stepV_on (i := 3) rfl hF rfl rfl hbv (fun w hS => Y.move hF rfl) rfl fun a hF => stepV_on (i := 4) rfl hF rfl rfl hbv (fun w hS => Y.neq hF rfl rfl) rfl fun a hF => stepV (i := 5) rfl hF (fun w hS => Y.pick_f hF rfl hbv rfl) rfl fun a hF => stepV (i := 6) rfl hF (fun w hS => Y.move hF rfl) rfl fun a hF => stepV_on (i := 7) rfl hF rfl rfl hbv_1 (fun w hS => Y.move hF rfl) rfl fun a hF => stepV_on (i := 8) rfl hF rfl rfl hbv_1 (fun w hS => Y.neq hF rfl rfl) rfl fun a hF => stepV (i := 9) rfl hF (fun w hS => Y.pick_f hF rfl hbv_1 rfl) rfl fun a hF => stepV (i := 10) rfl hF (fun w hS => Y.move hF rfl) rfl fun a hF => stepV_on (i := 11) rfl hF rfl rfl hbv_2 (fun w hS => Y.move hF rfl) rfl fun a hF => stepV_on (i := 12) rfl hF rfl rfl hbv_2 (fun w hS => Y.neq hF rfl rfl) rfl fun a hF => stepV (i := 13) rfl hF (fun w hS => Y.pick_f hF rfl hbv_2 rfl) rfl fun a hF => stepV (i := 14) rfl hF (fun w hS => Y.move hF rfl) rfl fun a hF => stepV_on (i := 15) rfl hF rfl rfl hbv_3 (fun w hS => Y.move hF rfl) rfl fun a hF => oneV (i := 16) rfl ?_ ?_
  ·skip
   refine guard_on hF rfl rfl hbv_3 ?_
   have hr_9 : Reps C_int Dv_4 [2, 3] [.int .i64 2, .int .i64 3] := Reps.cons (C := C_int) (x := 2) (c := [.int .i64 2]) (r := [.int .i64 3]) rfl (Reps.cons (C := C_int) (x := 3) (c := [.int .i64 3]) (r := []) rfl (Reps.nil))
   refine O.buildSlice (E := 3) (C := C_int) (xs := [2, 3]) (cs := [.int .i64 2, .int .i64 3]) (us := [.int .i64 2, .int .i64 3]) (parts := [(0, (.const (.int .i64 2))), (1, (.const (.int .i64 3)))]) 2 hF hS rfl (by kernel_rfl) hr_9 rfl rfl rfl fun p_18 c_18 a w hF hS => nil (then_n ⟨hS.weak ⟨rfl, trivial⟩, ?_⟩)
   refine oneV (i := 17) rfl ?_ trivial
   refine guard_on hF rfl rfl hbv_3 ?_
   have hr_10 : Reps C_int Dv_4 [0, 1, 3] [.int .i64 0, .int .i64 1, .int .i64 3] := Reps.cons (C := C_int) (x := 0) (c := [.int .i64 0]) (r := [.int .i64 1, .int .i64 3]) rfl (Reps.cons (C := C_int) (x := 1) (c := [.int .i64 1]) (r := [.int .i64 3]) rfl (Reps.cons (C := C_int) (x := 3) (c := [.int .i64 3]) (r := []) rfl (Reps.nil)))
   refine O.buildSlice (E := 3) (C := C_int) (xs := [0, 1, 3]) (cs := [.int .i64 0, .int .i64 1, .int .i64 3]) (us := [.int .i64 0, .int .i64 1, .int .i64 3]) (parts := [(0, (.const (.int .i64 0))), (1, (.const (.int .i64 1))), (2, (.const (.int .i64 3)))]) 3 hF hS rfl (by kernel_rfl) hr_10 rfl rfl rfl fun p_19 c_19 a w hF hS => nil (then_n ⟨hS.weak ⟨rfl, trivial⟩, ?_⟩)
   refine oneV (i := 18) rfl ?_ trivial
   refine guard_on hF rfl rfl hbv_3 ?_
   obtain ⟨Dv_16, hlev_15, hs_18, hS⟩ := hS.freezeC (C := C_int) (i := 2) (xs := [2, 3]) rfl hr_9
   replace hs_2 := hs_2.mono hlev_15
   replace hr_10 := hr_10.mono hlev_15
   obtain ⟨Dv_17, hlev_16, hs_19, hS⟩ := hS.freezeC (C := C_int) (i := 3) (xs := [0, 1, 3]) rfl hr_10
   replace hs_2 := hs_2.mono hlev_16
   replace hs_18 := hs_18.mono hlev_16
   have hr_11 : Reps (C_sl C_int) Dv_17 [[2, 3], [0, 1, 3]] [.slice p_18 ([2, 3]).length c_18, .slice p_19 ([0, 1, 3]).length c_19] := Reps.cons (C := (C_sl C_int)) (x := [2, 3]) (c := [.slice p_18 ([2, 3]).length c_18]) (r := [.slice p_19 ([0, 1, 3]).length c_19]) (⟨_, _, rfl, hs_18⟩) (Reps.cons (C := (C_sl C_int)) (x := [0, 1, 3]) (c := [.slice p_19 ([0, 1, 3]).length c_19]) (r := []) (⟨_, _, rfl, hs_19⟩) (Reps.nil))
   refine O.buildSlice (E := 32) (C := (C_sl C_int)) (xs := [[2, 3], [0, 1, 3]]) (cs := [.slice p_18 ([2, 3]).length c_18, .slice p_19 ([0, 1, 3]).length c_19]) (us := [.slice p_18 ([2, 3]).length c_18, .slice p_19 ([0, 1, 3]).length c_19]) (parts := [(0, (.tmp 51)), (1, (.tmp 52))]) 4 hF hS rfl (by kernel_rfl) hr_11 rfl rfl rfl fun p_20 c_20 a w hF hS => nil (then_n ⟨(hS.weak (ms := [(1, .cells b [.int .i64 rv_3.1.Low, .int .i64 rv_3.1.High] 40)]) ⟨rfl, trivial⟩).weakD (hlev_15.trans hlev_16) hle0, ?_⟩)
   refine oneV (i := 19) rfl ?_ trivial
   refine guard_on hF rfl rfl hbv_3 ?_
   obtain ⟨Dv_18, hlev_17, hs_20, hS⟩ := hS.freezeC (C := (C_sl C_int)) (i := 4) (xs := [[2, 3], [0, 1, 3]]) rfl hr_11
   replace hs_2 := hs_2.mono hlev_17
   refine O.callP (us := [.slice p_2 rv_1.1.length c_2, .slice p_20 ([[2, 3], [0, 1, 3]]).length c_20]) ca_17 hF hS (r0AlikeRows_ok hS.stab rv_1.1 ([[2, 3], [0, 1, 3]]) hs_2 hs_20 rv_8 hx_8) rfl rfl fun a w hF hS => nil (then_n ⟨(hS.weak (ms := [(1, .cells b [.int .i64 rv_3.1.Low, .int .i64 rv_3.1.High] 40)]) ⟨rfl, trivial⟩).weakD (hlev_15.trans (hlev_16.trans hlev_17)) hle0, ?_⟩)
   refine stepV_on (i := 20) rfl hF rfl rfl hbv_3 (fun w hS => Y.not hF rfl) rfl fun a hF => stepV (i := 21) rfl hF (fun w hS => Y.pick_f hF rfl hbv_3 rfl) rfl fun a hF => stepV (i := 22) rfl hF (fun w hS => Y.move hF rfl) rfl fun a hF => stepV_on (i := 23) rfl hF rfl rfl hbv_4 (fun w hS => Y.loadNL 1 sz_40 hF rfl hS rfl rfl rfl) rfl fun a hF => oneV (i := 24) rfl ?_ trivial
   refine guard_on hF rfl rfl hbv_4 (O.callP (us := [.int .i64 22, .int .i64 37]) ca_44 hF hS (r0To_ok hS.stab 22 37 rv_9 hx_9) rfl rfl fun a w hF hS => nil (then_n ⟨(hS.weak (ms := [(1, .cells b [.int .i64 rv_3.1.Low, .int .i64 rv_3.1.High] 40)]) ⟨rfl, trivial⟩).weakD (hlev_15.trans (hlev_16.trans hlev_17)) hle0, ?_⟩))
   refine stepV_on (i := 25) rfl hF rfl rfl hbv_4 (fun w hS => Y.nest (fun w => eqT_40.equal (by decide) (l := [rv_3.1.Low, rv_3.1.High]) (m := [rv_9.Low, rv_9.High]) rfl rfl) (fun w => run_eqGuard_agg _ _ _ _ _ _ _ eg_40) hF rfl rfl) rfl fun a hF => stepV (i := 26) rfl hF (fun w hS => Y.pick_f hF rfl hbv_4 rfl) rfl fun a hF => toTailV ⟨Dv_18, hlev_15.trans (hlev_16.trans hlev_17), hF.weak ⟨rfl, rfl, rfl, rfl, rfl, rfl, rfl, rfl, trivial⟩, hS.weak ⟨rfl, trivial⟩⟩
  refine oneV (i := 17) rfl ?_ trivial
  refine guard_on hF rfl rfl hbv_3 ?_
  have hr_12 : Reps C_int Dv_4 [0, 1, 3] [.int .i64 0, .int .i64 1, .int .i64 3] := Reps.cons (C := C_int) (x := 0) (c := [.int .i64 0]) (r := [.int .i64 1, .int .i64 3]) rfl (Reps.cons (C := C_int) (x := 1) (c := [.int .i64 1]) (r := [.int .i64 3]) rfl (Reps.cons (C := C_int) (x := 3) (c := [.int .i64 3]) (r := []) rfl (Reps.nil)))
  refine O.buildSlice (E := 3) (C := C_int) (xs := [0, 1, 3]) (cs := [.int .i64 0, .int .i64 1, .int .i64 3]) (us := [.int .i64 0, .int .i64 1, .int .i64 3]) (parts := [(0, (.const (.int .i64 0))), (1, (.const (.int .i64 1))), (2, (.const (.int .i64 3)))]) 3 hF hS rfl (by kernel_rfl) hr_12 rfl rfl rfl fun p_21 c_21 a w hF hS => nil (then_n ⟨hS.weak ⟨rfl, trivial⟩, ?_⟩)
  refine oneV (i := 16) rfl ?_ trivial
  refine guard_on hF rfl rfl hbv_3 ?_
  have hr_13 : Reps C_int Dv_4 [2, 3] [.int .i64 2, .int .i64 3] := Reps.cons (C := C_int) (x := 2) (c := [.int .i64 2]) (r := [.int .i64 3]) rfl (Reps.cons (C := C_int) (x := 3) (c := [.int .i64 3]) (r := []) rfl (Reps.nil))
  refine O.buildSlice (E := 3) (C := C_int) (xs := [2, 3]) (cs := [.int .i64 2, .int .i64 3]) (us := [.int .i64 2, .int .i64 3]) (parts := [(0, (.const (.int .i64 2))), (1, (.const (.int .i64 3)))]) 2 hF hS rfl (by kernel_rfl) hr_13 rfl rfl rfl fun p_22 c_22 a w hF hS => nil (then_n ⟨hS.weak ⟨rfl, trivial⟩, ?_⟩)
  refine oneV (i := 18) rfl ?_ trivial
  refine guard_on hF rfl rfl hbv_3 ?_
  obtain ⟨Dv_19, hlev_18, hs_21, hS⟩ := hS.freezeC (C := C_int) (i := 2) (xs := [2, 3]) rfl hr_13
  replace hs_2 := hs_2.mono hlev_18
  replace hr_12 := hr_12.mono hlev_18
  obtain ⟨Dv_20, hlev_19, hs_22, hS⟩ := hS.freezeC (C := C_int) (i := 3) (xs := [0, 1, 3]) rfl hr_12
  replace hs_2 := hs_2.mono hlev_19
  replace hs_21 := hs_21.mono hlev_19
  have hr_14 : Reps (C_sl C_int) Dv_20 [[2, 3], [0, 1, 3]] [.slice p_22 ([2, 3]).length c_22, .slice p_21 ([0, 1, 3]).length c_21] := Reps.cons (C := (C_sl C_int)) (x := [2, 3]) (c := [.slice p_22 ([2, 3]).length c_22]) (r := [.slice p_21 ([0, 1, 3]).length c_21]) (⟨_, _, rfl, hs_21⟩) (Reps.cons (C := (C_sl C_int)) (x := [0, 1, 3]) (c := [.slice p_21 ([0, 1, 3]).length c_21]) (r := []) (⟨_, _, rfl, hs_22⟩) (Reps.nil))
  refine O.buildSlice (E := 32) (C := (C_sl C_int)) (xs := [[2, 3], [0, 1, 3]]) (cs := [.slice p_22 ([2, 3]).length c_22, .slice p_21 ([0, 1, 3]).length c_21]) (us := [.slice p_22 ([2, 3]).length c_22, .slice p_21 ([0, 1, 3]).length c_21]) (parts := [(0, (.tmp 51)), (1, (.tmp 52))]) 4 hF hS rfl (by kernel_rfl) hr_14 rfl rfl rfl fun p_23 c_23 a w hF hS => nil (then_n ⟨(hS.weak (ms := [(1, .cells b [.int .i64 rv_3.1.Low, .int .i64 rv_3.1.High] 40)]) ⟨rfl, trivial⟩).weakD (hlev_18.trans hlev_19) hle0, ?_⟩)
  refine oneV (i := 19) rfl ?_ trivial
  refine guard_on hF rfl rfl hbv_3 ?_
  obtain ⟨Dv_21, hlev_20, hs_23, hS⟩ := hS.freezeC (C := (C_sl C_int)) (i := 4) (xs := [[2, 3], [0, 1, 3]]) rfl hr_14
  replace hs_2 := hs_2.mono hlev_20
  refine O.callP (us := [.slice p_2 rv_1.1.length c_2, .slice p_23 ([[2, 3], [0, 1, 3]]).length c_23]) ca_17 hF hS (r0AlikeRows_ok hS.stab rv_1.1 ([[2, 3], [0, 1, 3]]) hs_2 hs_23 rv_8 hx_8) rfl rfl fun a w hF hS => nil (then_n ⟨(hS.weak (ms := [(1, .cells b [.int .i64 rv_3.1.Low, .int .i64 rv_3.1.High] 40)]) ⟨rfl, trivial⟩).weakD (hlev_18.trans (hlev_19.trans hlev_20)) hle0, ?_⟩)
  refine stepV_on (i := 20) rfl hF rfl rfl hbv_3 (fun w hS => Y.not hF rfl) rfl fun a hF => stepV (i := 21) rfl hF (fun w hS => Y.pick_f hF rfl hbv_3 rfl) rfl fun a hF => stepV (i := 22) rfl hF (fun w hS => Y.move hF rfl) rfl fun a hF => stepV_on (i := 23) rfl hF rfl rfl hbv_4 (fun w hS => Y.loadNL 1 sz_40 hF rfl hS rfl rfl rfl) rfl fun a hF => oneV (i := 24) rfl ?_ trivial
  refine guard_on hF rfl rfl hbv_4 (O.callP (us := [.int .i64 22, .int .i64 37]) ca_44 hF hS (r0To_ok hS.stab 22 37 rv_9 hx_9) rfl rfl fun a w hF hS => nil (then_n ⟨(hS.weak (ms := [(1, .cells b [.int .i64 rv_3.1.Low, .int .i64 rv_3.1.High] 40)]) ⟨rfl, trivial⟩).weakD (hlev_18.trans (hlev_19.trans hlev_20)) hle0, ?_⟩))
  refine stepV_on (i := 25) rfl hF rfl rfl hbv_4 (fun w hS => Y.nest (fun w => eqT_40.equal (by decide) (l := [rv_3.1.Low, rv_3.1.High]) (m := [rv_9.Low, rv_9.High]) rfl rfl) (fun w => run_eqGuard_agg _ _ _ _ _ _ _ eg_40) hF rfl rfl) rfl fun a hF => stepV (i := 26) rfl hF (fun w hS => Y.pick_f hF rfl hbv_4 rfl) rfl fun a hF => toTailV ⟨Dv_21, hlev_18.trans (hlev_19.trans hlev_20), hF.weak ⟨rfl, rfl, rfl, rfl, rfl, rfl, rfl, rfl, trivial⟩, hS.weak ⟨rfl, trivial⟩⟩
 rintro a w ⟨Dv_9, hle, hF, hS⟩
 have hlev_21 := hle
 replace hG := hG.mono hlev_21
 refine step hF (Y.move hF rfl) rfl fun a hF => join (N := 120) (rs := []) (w0 := w0) (D0 := D0) 2 (us := [(0, .bool false), (2, .int .i64 rv_1.2), (4, .int .i64 rv_3.2), (6, .int .i64 rv_5.2), (7, .int .i64 rv_7.1), (8, .int .i64 rv_7.2.1), (64, .bool (t_4 || rv_5.1))]) (ms := [(1, .cells b [.int .i64 rv_3.1.Low, .int .i64 rv_3.1.High] 40)]) (D' := Dv_9) ?_ ?_
 ·rcases bcases t_4 with hbv_5 | hbv_5
  ·skip
   refine guard_off hF rfl rfl hbv_5 rfl fun a hF => step hF (Y.pick_t hF rfl hbv_5 rfl) rfl fun a hF => nil (then_n ⟨hF.weak ⟨rfl, rfl, rfl, rfl, rfl, rfl, (by rw [hbv_5]; rfl), trivial⟩, hS.weak ⟨rfl, trivial⟩⟩)
  refine guard_on hF rfl rfl hbv_5 (step hF (Y.move hF rfl) rfl fun a hF => step hF (Y.pick_f hF rfl hbv_5 rfl) rfl fun a hF => nil (then_n ⟨hF.weak ⟨rfl, rfl, rfl, rfl, rfl, rfl, (by rw [hbv_5]; rfl), trivial⟩, hS.weak ⟨rfl, trivial⟩⟩))
 intro a w hF hS
 refine step hF (Y.move hF rfl) rfl fun a hF => join (N := 120) (rs := []) (w0 := w0) (D0 := D0) 3 (us := [(0, .bool false), (2, .int .i64 rv_1.2), (4, .int .i64 rv_3.2), (6, .int .i64 rv_5.2), (8, .int .i64 rv_7.2.1), (68, .bool ((t_4 || rv_5.1) || (rv_7.1 != 21)))]) (ms := [(1, .cells b [.int .i64 rv_3.1.Low, .int .i64 rv_3.1.High] 40)]) (D' := Dv_9) ?_ ?_
 ·rcases bcases (t_4 || rv_5.1) with hbv_6 | hbv_6
  ·skip
   refine guard_off hF rfl rfl hbv_6 rfl fun a hF => guard_off hF rfl rfl hbv_6 rfl fun a hF => step hF (Y.pick_t hF rfl hbv_6 rfl) rfl fun a hF => nil (then_n ⟨hF.weak ⟨rfl, rfl, rfl, rfl, rfl, (by rw [hbv_6]; rfl), trivial⟩, hS.weak ⟨rfl, trivial⟩⟩)
  refine guard_on hF rfl rfl hbv_6 (step hF (Y.move hF rfl) rfl fun a hF => guard_on hF rfl rfl hbv_6 (step hF (Y.neq hF rfl rfl) rfl fun a hF => step hF (Y.pick_f hF rfl hbv_6 rfl) rfl fun a hF => nil (then_n ⟨hF.weak ⟨rfl, rfl, rfl, rfl, rfl, (by rw [hbv_6]; rfl), trivial⟩, hS.weak ⟨rfl, trivial⟩⟩)))
 intro a w hF hS
 refine step hF (Y.move hF rfl) rfl fun a hF => join (N := 120) (rs := []) (w0 := w0) (D0 := D0) 3 (us := [(0, .bool false), (2, .int .i64 rv_1.2), (4, .int .i64 rv_3.2), (6, .int .i64 rv_5.2), (72, .bool (((t_4 || rv_5.1) || (rv_7.1 != 21)) || (rv_7.2.1 != 4)))]) (ms := [(1, .cells b [.int .i64 rv_3.1.Low, .int .i64 rv_3.1.High] 40)]) (D' := Dv_9) ?_ ?_
 ·rcases bcases ((t_4 || rv_5.1) || (rv_7.1 != 21)) with hbv_7 | hbv_7
  ·skip
   refine guard_off hF rfl rfl hbv_7 rfl fun a hF => guard_off hF rfl rfl hbv_7 rfl fun a hF => step hF (Y.pick_t hF rfl hbv_7 rfl) rfl fun a hF => nil (then_n ⟨hF.weak ⟨rfl, rfl, rfl, rfl, (by rw [hbv_7]; rfl), trivial⟩, hS.weak ⟨rfl, trivial⟩⟩)
  refine guard_on hF rfl rfl hbv_7 (step hF (Y.move hF rfl) rfl fun a hF => guard_on hF rfl rfl hbv_7 (step hF (Y.neq hF rfl rfl) rfl fun a hF => step hF (Y.pick_f hF rfl hbv_7 rfl) rfl fun a hF => nil (then_n ⟨hF.weak ⟨rfl, rfl, rfl, rfl, (by rw [hbv_7]; rfl), trivial⟩, hS.weak ⟨rfl, trivial⟩⟩)))
 intro a w hF hS
 refine nil (then_n (cond_b hF rfl (fun hbv_8 => ?_) (fun hbv_8 => ?_)))
 ·replace h := cond_t h hbv_8
  refine seq (region (step hF (Y.assign hF rfl) rfl fun a hF => nil (then_n (ret_ (then_r ?_)))))
  obtain rfl := some_inj h
  exact leaveP Tryd.results23 hF hS (.cons (.tmp rfl) .nil) .nil rfl
 replace h := cond_f h hbv_8
 refine skip_ (then_n (seq (region ?_)))
 obtain ⟨rv_10, hx_10, h⟩ := bind_some h
 refine O.callS (us := [.slice none 0 0]) ca_56 hF hS (remontoirlaw06_net_ok hS.stab ([] : List LineLoop) SRc.nil rv_10 hx_10) rfl rfl fun v_5 Dv_22 a w hR_5 hlev_22 hF hS => ?_
 replace hG := hG.mono hlev_22
 obtain ⟨p_24, c_24, p_25, c_25, rfl, hs_24, hs_25⟩ := hR_5
 obtain ⟨rv_11, hx_11, h⟩ := bind_some h
 refine O.callS (us := [.agg #[.int .i64 rv_10.Exchanges, .slice p_24 rv_10.Lines.length c_24, .int .i64 rv_10.Hops, .slice p_25 rv_10.Loops.length c_25], .int .i64 3]) ca_20 hF hS (line_Surely_ok hS.stab rv_10 3 hs_24 hs_25 hG rv_11 hx_11) rfl rfl fun v_6 Dv_23 a w hR_6 hlev_23 hF hS => ?_
 replace hG := hG.mono hlev_23
 obtain ⟨p_26, c_26, rfl, hs_26⟩ := hR_6
 refine step hF (Y.move hF rfl) rfl fun a hF => step hF (Y.extract hF rfl rfl) rfl fun a hF => step hF (Y.extract hF rfl rfl) rfl fun a hF => step hF (Y.assign hF rfl) rfl fun a hF => step hF (Y.assign hF rfl) rfl fun a hF => nil (then_n (seq (region ?_)))
 obtain ⟨rv_12, hx_12, h⟩ := bind_some h
 refine O.callS (us := [.slice none 0 0]) ca_56 hF hS (remontoirlaw06_net_ok hS.stab ([] : List LineLoop) SRc.nil rv_12 hx_12) rfl rfl fun v_7 Dv_24 a w hR_7 hlev_24 hF hS => ?_
 replace hG := hG.mono hlev_24
 replace hs_26 := hs_26.mono hlev_24
 obtain ⟨p_27, c_27, p_28, c_28, rfl, hs_27, hs_28⟩ := hR_7
 obtain ⟨rv_13, hx_13, h⟩ := bind_some h
 refine O.callS (us := [.agg #[.int .i64 rv_12.Exchanges, .slice p_27 rv_12.Lines.length c_27, .int .i64 rv_12.Hops, .slice p_28 rv_12.Loops.length c_28], .int .i64 2]) ca_30 hF hS (line_Cut_ok hS.stab rv_12 2 hs_27 hs_28 hG rv_13 hx_13) rfl rfl fun v_8 Dv_25 a w hR_8 hlev_25 hF hS => ?_
 replace hG := hG.mono hlev_25
 replace hs_26 := hs_26.mono hlev_25
 obtain ⟨p_29, c_29, p_30, c_30, rfl, hs_29, hs_30⟩ := hR_8
 refine step hF (Y.move hF rfl) rfl fun a hF => step hF (Y.extract hF rfl rfl) rfl fun a hF => step hF (Y.extract hF rfl rfl) rfl fun a hF => step hF (Y.extract hF rfl rfl) rfl fun a hF => step hF (Y.assign hF rfl) rfl fun a hF => step hF (Y.assign hF rfl) rfl fun a hF => step hF (Y.assign hF rfl) rfl fun a hF => nil (then_n (seq (region ?_)))
 obtain ⟨rv_14, hx_14, h⟩ := bind_some h
 refine O.callS (us := []) ca_57 hF hS (remontoirlaw06_torn_ok hS.stab rv_14 hx_14) rfl rfl fun v_9 Dv_26 a w hR_9 hlev_26 hF hS => ?_
 replace hG := hG.mono hlev_26
 replace hs_26 := hs_26.mono hlev_26
 replace hs_30 := hs_30.mono hlev_26
 obtain ⟨p_31, c_31, rfl, hs_31⟩ := hR_9
 obtain ⟨rv_15, hx_15, h⟩ := bind_some h
 refine O.callS (us := [.slice p_31 rv_14.length c_31]) ca_56 hF hS (remontoirlaw06_net_ok hS.stab rv_14 hs_31 rv_15 hx_15) rfl rfl fun v_10 Dv_27 a w hR_10 hlev_27 hF hS => ?_
 replace hG := hG.mono hlev_27
 replace hs_26 := hs_26.mono hlev_27
 replace hs_30 := hs_30.mono hlev_27
 obtain ⟨p_32, c_32, p_33, c_33, rfl, hs_32, hs_33⟩ := hR_10
 obtain ⟨rv_16, hx_16, h⟩ := bind_some h
 refine O.callS (us := [.agg #[.int .i64 rv_15.Exchanges, .slice p_32 rv_15.Lines.length c_32, .int .i64 rv_15.Hops, .slice p_33 rv_15.Loops.length c_33]]) ca_32 hF hS (line_Wrong_ok hS.stab rv_15 hs_32 hs_33 hG rv_16 hx_16) rfl rfl fun v_11 Dv_28 a w hR_11 hlev_28 hF hS => ?_
 replace hs_26 := hs_26.mono hlev_28
 replace hs_30 := hs_30.mono hlev_28
 obtain ⟨p_34, c_34, rfl, hs_34⟩ := hR_11
 refine step hF (Y.move hF rfl) rfl fun a hF => step hF (Y.extract hF rfl rfl) rfl fun a hF => step hF (Y.extract hF rfl rfl) rfl fun a hF => step hF (Y.assign hF rfl) rfl fun a hF => step hF (Y.assign hF rfl) rfl fun a hF => nil (then_n (seq (region (step hF (Y.move hF rfl) rfl fun a hF => step hF (Y.eql hF rfl rfl) rfl fun a hF => step hF (Y.move hF rfl) rfl fun a hF => join (N := 120) (rs := []) (w0 := w0) (D0 := D0) 3 (us := [(0, .bool false), (6, .int .i64 rv_16.2), (10, .slice p_26 rv_11.1.length c_26), (11, .slice p_29 rv_13.1.length c_29), (12, .slice p_30 rv_13.2.1.length c_30), (13, .slice p_34 rv_16.1.length c_34), (95, .bool ((rv_11.2 == 0) && (rv_13.2.2 == 0)))]) (ms := [(1, .cells b [.int .i64 rv_3.1.Low, .int .i64 rv_3.1.High] 40)]) (D' := Dv_28) ?_ ?_))))
 ·rcases bcases (rv_11.2 == 0) with hbv_9 | hbv_9
  ·skip
   refine guard_on hF rfl rfl hbv_9 (step hF (Y.move hF rfl) rfl fun a hF => guard_on hF rfl rfl hbv_9 (step hF (Y.eql hF rfl rfl) rfl fun a hF => step hF (Y.pick_t hF rfl hbv_9 rfl) rfl fun a hF => nil (then_n ⟨hF.weak ⟨rfl, rfl, rfl, rfl, rfl, rfl, (by rw [hbv_9]; rfl), trivial⟩, hS.weak ⟨rfl, trivial⟩⟩)))
  refine guard_off hF rfl rfl hbv_9 rfl fun a hF => guard_off hF rfl rfl hbv_9 rfl fun a hF => step hF (Y.pick_f hF rfl hbv_9 rfl) rfl fun a hF => nil (then_n ⟨hF.weak ⟨rfl, rfl, rfl, rfl, rfl, rfl, (by rw [hbv_9]; rfl), trivial⟩, hS.weak ⟨rfl, trivial⟩⟩)
 intro a w hF hS
 refine step hF (Y.move hF rfl) rfl fun a hF => join (N := 120) (rs := []) (w0 := w0) (D0 := D0) 3 (us := [(0, .bool false), (10, .slice p_26 rv_11.1.length c_26), (11, .slice p_29 rv_13.1.length c_29), (12, .slice p_30 rv_13.2.1.length c_30), (13, .slice p_34 rv_16.1.length c_34), (99, .bool (((rv_11.2 == 0) && (rv_13.2.2 == 0)) && (rv_16.2 == 0)))]) (ms := [(1, .cells b [.int .i64 rv_3.1.Low, .int .i64 rv_3.1.High] 40)]) (D' := Dv_28) ?_ ?_
 ·rcases bcases ((rv_11.2 == 0) && (rv_13.2.2 == 0)) with hbv_10 | hbv_10
  ·skip
   refine guard_on hF rfl rfl hbv_10 (step hF (Y.move hF rfl) rfl fun a hF => guard_on hF rfl rfl hbv_10 (step hF (Y.eql hF rfl rfl) rfl fun a hF => step hF (Y.pick_t hF rfl hbv_10 rfl) rfl fun a hF => nil (then_n ⟨hF.weak ⟨rfl, rfl, rfl, rfl, rfl, (by rw [hbv_10]; rfl), trivial⟩, hS.weak ⟨rfl, trivial⟩⟩)))
  refine guard_off hF rfl rfl hbv_10 rfl fun a hF => guard_off hF rfl rfl hbv_10 rfl fun a hF => step hF (Y.pick_f hF rfl hbv_10 rfl) rfl fun a hF => nil (then_n ⟨hF.weak ⟨rfl, rfl, rfl, rfl, rfl, (by rw [hbv_10]; rfl), trivial⟩, hS.weak ⟨rfl, trivial⟩⟩)
 intro a w hF hS
 refine step hF (Y.move hF rfl) rfl fun a hF => ?_
 obtain ⟨t_5, ht_5, h⟩ := bind_some h
 refine list_cut 4 (fun a w => ∃ D, Dv_28.le D ∧ Frm 120 [] [(0, .bool false), (11, .slice p_29 rv_13.1.length c_29), (12, .slice p_30 rv_13.2.1.length c_30), (13, .slice p_34 rv_16.1.length c_34), (104, .bool t_5)] a ∧ St w0 D0 D [(1, .cells b [.int .i64 rv_3.1.Low, .int .i64 rv_3.1.High] 40)] w) ?_ ?_
 ·rcases bcases (((rv_11.2 == 0) && (rv_13.2.2 == 0)) && (rv_16.2 == 0)) with hbv_11 | hbv_11
  ·skip
   replace h := cond_t ht_5 hbv_11
   refine guard_on hF rfl rfl hbv_11 (step hF (Y.move hF rfl) rfl fun a hF => guard_on hF rfl rfl hbv_11 ?_)
   have hr_15 : Reps C_int Dv_28 [3] [.int .i64 3] := Reps.cons (C := C_int) (x := 3) (c := [.int .i64 3]) (r := []) rfl (Reps.nil)
   refine O.buildSlice (E := 3) (C := C_int) (xs := [3]) (cs := [.int .i64 3]) (us := [.int .i64 3]) (parts := [(0, (.const (.int .i64 3)))]) 5 hF hS rfl (by kernel_rfl) hr_15 rfl rfl rfl fun p_35 c_35 a w hF hS => guard_on hF rfl rfl hbv_11 ?_
   obtain ⟨Dv_29, hlev_29, hs_35, hS⟩ := hS.freezeC (C := C_int) (i := 5) (xs := [3]) rfl hr_15
   replace hs_26 := hs_26.mono hlev_29
   obtain ⟨rv_17, hx_17, h⟩ := bind_some h
   refine O.callP (us := [.slice p_26 rv_11.1.length c_26, .slice p_35 ([3]).length c_35]) ca_22 hF hS (r0Alike_ok hS.stab rv_11.1 ([3]) hs_26 hs_35 rv_17 hx_17) rfl rfl fun a w hF hS => step hF (Y.pick_t hF rfl hbv_11 rfl) rfl fun a hF => ?_
   obtain rfl := some_inj h
   exact nil (then_n ⟨Dv_29, hlev_29, hF.weak ⟨rfl, rfl, rfl, rfl, rfl, trivial⟩, hS.weak ⟨rfl, trivial⟩⟩)
  replace h := cond_f ht_5 hbv_11
  refine guard_off hF rfl rfl hbv_11 rfl fun a hF => guard_off hF rfl rfl hbv_11 rfl fun a hF => guard_off hF rfl rfl hbv_11 rfl fun a hF => step hF (Y.pick_f hF rfl hbv_11 rfl) rfl fun a hF => ?_
  obtain rfl := some_inj h
  exact nil (then_n ⟨Dv_28, Stab.le.refl _, hF.weak ⟨rfl, rfl, rfl, rfl, rfl, trivial⟩, hS.weak ⟨rfl, trivial⟩⟩)
 rintro a w ⟨Dv_30, hlev_30, hF, hS⟩
 replace hs_30 := hs_30.mono hlev_30
 replace hs_34 := hs_34.mono hlev_30
 refine step hF (Y.move hF rfl) rfl fun a hF => join (N := 120) (rs := []) (w0 := w0) (D0 := D0) 4 (us := [(0, .bool false), (12, .slice p_30 rv_13.2.1.length c_30), (13, .slice p_34 rv_16.1.length c_34), (109, .bool (t_5 && ((rv_13.1.length : Int) == 0)))]) (ms := [(1, .cells b [.int .i64 rv_3.1.Low, .int .i64 rv_3.1.High] 40)]) (D' := Dv_30) ?_ ?_
 ·rcases bcases t_5 with hbv_12 | hbv_12
  ·skip
   refine guard_on hF rfl rfl hbv_12 (step hF (Y.move hF rfl) rfl fun a hF => guard_on hF rfl rfl hbv_12 (step hF (Y.lenSl u_32 hF rfl) rfl fun a hF => guard_on hF rfl rfl hbv_12 (step hF (Y.eql hF rfl rfl) rfl fun a hF => step hF (Y.pick_t hF rfl hbv_12 rfl) rfl fun a hF => nil (then_n ⟨hF.weak ⟨rfl, rfl, rfl, (by rw [hbv_12]; rfl), trivial⟩, hS.weak ⟨rfl, trivial⟩⟩))))
  refine guard_off hF rfl rfl hbv_12 rfl fun a hF => guard_off hF rfl rfl hbv_12 rfl fun a hF => guard_off hF rfl rfl hbv_12 rfl fun a hF => step hF (Y.pick_f hF rfl hbv_12 rfl) rfl fun a hF => nil (then_n ⟨hF.weak ⟨rfl, rfl, rfl, (by rw [hbv_12]; rfl), trivial⟩, hS.weak ⟨rfl, trivial⟩⟩)
 intro a w hF hS
 refine step hF (Y.move hF rfl) rfl fun a hF => ?_
 obtain ⟨t_6, ht_6, h⟩ := bind_some h
 refine list_cut 4 (fun a w => ∃ D, Dv_30.le D ∧ Frm 120 [] [(0, .bool false), (13, .slice p_34 rv_16.1.length c_34), (114, .bool t_6)] a ∧ St w0 D0 D [(1, .cells b [.int .i64 rv_3.1.Low, .int .i64 rv_3.1.High] 40)] w) ?_ ?_
 ·rcases bcases (t_5 && ((rv_13.1.length : Int) == 0)) with hbv_13 | hbv_13
  ·skip
   replace h := cond_t ht_6 hbv_13
   refine guard_on hF rfl rfl hbv_13 (step hF (Y.move hF rfl) rfl fun a hF => guard_on hF rfl rfl hbv_13 ?_)
   have hr_16 : Reps C_int Dv_30 [1, 2, 3] [.int .i64 1, .int .i64 2, .int .i64 3] := Reps.cons (C := C_int) (x := 1) (c := [.int .i64 1]) (r := [.int .i64 2, .int .i64 3]) rfl (Reps.cons (C := C_int) (x := 2) (c := [.int .i64 2]) (r := [.int .i64 3]) rfl (Reps.cons (C := C_int) (x := 3) (c := [.int .i64 3]) (r := []) rfl (Reps.nil)))
   refine O.buildSlice (E := 3) (C := C_int) (xs := [1, 2, 3]) (cs := [.int .i64 1, .int .i64 2, .int .i64 3]) (us := [.int .i64 1, .int .i64 2, .int .i64 3]) (parts := [(0, (.const (.int .i64 1))), (1, (.const (.int .i64 2))), (2, (.const (.int .i64 3)))]) 6 hF hS rfl (by kernel_rfl) hr_16 rfl rfl rfl fun p_36 c_36 a w hF hS => guard_on hF rfl rfl hbv_13 ?_
   obtain ⟨Dv_31, hlev_31, hs_36, hS⟩ := hS.freezeC (C := C_int) (i := 6) (xs := [1, 2, 3]) rfl hr_16
   replace hs_30 := hs_30.mono hlev_31
   obtain ⟨rv_18, hx_18, h⟩ := bind_some h
   refine O.callP (us := [.slice p_30 rv_13.2.1.length c_30, .slice p_36 ([1, 2, 3]).length c_36]) ca_22 hF hS (r0Alike_ok hS.stab rv_13.2.1 ([1, 2, 3]) hs_30 hs_36 rv_18 hx_18) rfl rfl fun a w hF hS => step hF (Y.pick_t hF rfl hbv_13 rfl) rfl fun a hF => ?_
   obtain rfl := some_inj h
   exact nil (then_n ⟨Dv_31, hlev_31, hF.weak ⟨rfl, rfl, rfl, trivial⟩, hS.weak ⟨rfl, trivial⟩⟩)
  replace h := cond_f ht_6 hbv_13
  refine guard_off hF rfl rfl hbv_13 rfl fun a hF => guard_off hF rfl rfl hbv_13 rfl fun a hF => guard_off hF rfl rfl hbv_13 rfl fun a hF => step hF (Y.pick_f hF rfl hbv_13 rfl) rfl fun a hF => ?_
  obtain rfl := some_inj h
  exact nil (then_n ⟨Dv_30, Stab.le.refl _, hF.weak ⟨rfl, rfl, rfl, trivial⟩, hS.weak ⟨rfl, trivial⟩⟩)
 rintro a w ⟨Dv_32, hlev_32, hF, hS⟩
 replace hs_34 := hs_34.mono hlev_32
 refine step hF (Y.move hF rfl) rfl fun a hF => ?_
 obtain ⟨t_7, ht_7, h⟩ := bind_some h
 refine list_cut 4 (fun a w => ∃ D, Dv_32.le D ∧ Frm 120 [] [(0, .bool false), (119, .bool t_7)] a ∧ St w0 D0 D [(1, .cells b [.int .i64 rv_3.1.Low, .int .i64 rv_3.1.High] 40)] w) ?_ ?_
 ·rcases bcases t_6 with hbv_14 | hbv_14
  ·skip
   replace h := cond_t ht_7 hbv_14
   refine guard_on hF rfl rfl hbv_14 (step hF (Y.move hF rfl) rfl fun a hF => guard_on hF rfl rfl hbv_14 ?_)
   have hr_17 : Reps C_int Dv_32 [2] [.int .i64 2] := Reps.cons (C := C_int) (x := 2) (c := [.int .i64 2]) (r := []) rfl (Reps.nil)
   refine O.buildSlice (E := 3) (C := C_int) (xs := [2]) (cs := [.int .i64 2]) (us := [.int .i64 2]) (parts := [(0, (.const (.int .i64 2)))]) 7 hF hS rfl (by kernel_rfl) hr_17 rfl rfl rfl fun p_37 c_37 a w hF hS => guard_on hF rfl rfl hbv_14 ?_
   obtain ⟨Dv_33, hlev_33, hs_37, hS⟩ := hS.freezeC (C := C_int) (i := 7) (xs := [2]) rfl hr_17
   replace hs_34 := hs_34.mono hlev_33
   obtain ⟨rv_19, hx_19, h⟩ := bind_some h
   refine O.callP (us := [.slice p_34 rv_16.1.length c_34, .slice p_37 ([2]).length c_37]) ca_22 hF hS (r0Alike_ok hS.stab rv_16.1 ([2]) hs_34 hs_37 rv_19 hx_19) rfl rfl fun a w hF hS => step hF (Y.pick_t hF rfl hbv_14 rfl) rfl fun a hF => ?_
   obtain rfl := some_inj h
   exact nil (then_n ⟨Dv_33, hlev_33, hF.weak ⟨rfl, rfl, trivial⟩, hS.weak ⟨rfl, trivial⟩⟩)
  replace h := cond_f ht_7 hbv_14
  refine guard_off hF rfl rfl hbv_14 rfl fun a hF => guard_off hF rfl rfl hbv_14 rfl fun a hF => guard_off hF rfl rfl hbv_14 rfl fun a hF => step hF (Y.pick_f hF rfl hbv_14 rfl) rfl fun a hF => ?_
  obtain rfl := some_inj h
  exact nil (then_n ⟨Dv_32, Stab.le.refl _, hF.weak ⟨rfl, rfl, trivial⟩, hS.weak ⟨rfl, trivial⟩⟩)
 rintro a w ⟨Dv_34, hlev_34, hF, hS⟩
 refine step hF (Y.assign hF rfl) rfl fun a hF => nil (then_n (ret_ ?_))
 obtain rfl := some_inj h
 exact leaveP Tryd.results23 hF hS (.cons (.tmp rfl) .nil) .nil rfl
end Go.Proofs.YthdbokigcfbgeaaDoor.Rt
