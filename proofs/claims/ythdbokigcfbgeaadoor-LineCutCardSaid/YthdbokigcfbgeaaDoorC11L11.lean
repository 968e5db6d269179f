/- Walks of the functions of this seat: what each Go function comes to, as a Lean function, and the proof. A law. Under no conditions. -/
import Derived.Test.YthdbokigcfbgeaaDoorC11WBZ
set_option linter.unusedVariables false
set_option linter.unusedSimpArgs false
set_option maxRecDepth 100000
set_option maxHeartbeats 4000000
namespace Go.Proofs.YthdbokigcfbgeaaDoor.Rt
open Go Go.RowKit
noncomputable def remontoirlaw06_LineCut_b1 (n : LineNet) (rv_2 : Int) (rv_3 : ((List Int) × (List Int) × Int)) : (Bool × Int) → Option ((Bool × Int) ⊕ Bool)
 | (v4_0, k) =>
  cond (decide (k < n.Exchanges))
  ((line_Routes n k).bind fun rv_6 =>
  (line_Routes (LineNet.mk n.Exchanges ((([] : List LineLine) ++ (n.Lines.take (Int.toNat rv_2))) ++ (n.Lines.drop (Int.toNat (wr (rv_2 + 1))))) n.Hops n.Loops) k).bind fun rv_7 =>
  (r0Find rv_3.1 k).bind fun rv_8 =>
  (r0Find rv_3.2.1 k).bind fun rv_9 =>
  cond ((((((decide (rv_8 ≥ 0)) && (decide (rv_9 ≥ 0))) || (((decide (rv_8 ≥ 0)) || (decide (rv_9 ≥ 0))) && (rv_6.2 != 0))) || ((decide (rv_8 ≥ 0)) && (rv_7.2 == 0))) || ((decide (rv_9 ≥ 0)) && ((rv_7.2 != 0) || (decide ((rv_7.1.length : Int) ≥ (rv_6.1.length : Int)))))) || (((!(decide (rv_8 ≥ 0))) && (!(decide (rv_9 ≥ 0)))) && (((rv_7.2 != rv_6.2) && ((rv_6.2 != 62) || (rv_7.2 != 4))) || ((rv_7.1.length : Int) != (rv_6.1.length : Int)))))
  (ext (some false))
  (nxt (v4_0, wr (k + 1))))
  (ext ((remontoirlaw06_works).bind fun rv_10 =>
  some rv_10))
noncomputable def remontoirlaw06_LineCut (n : LineNet) (which : Int) : Option Bool :=
  (remontoirlaw06_sound n).bind fun rv =>
  cond ((!rv) || ((n.Lines.length : Int) == 0))
  ((remontoirlaw06_works).bind fun rv_1 =>
  some rv_1)
  ((r0Rest which (n.Lines.length : Int)).bind fun rv_2 =>
  (line_Cut n rv_2).bind fun rv_3 =>
  (cond (rv_3.2.2 != 0) (some true) ((r0Climbs rv_3.1 n.Exchanges).bind fun rv_4 =>
  some (!rv_4))).bind fun t =>
  (cond t (some true) ((r0Climbs rv_3.2.1 n.Exchanges).bind fun rv_5 =>
  some (!rv_5))).bind fun t_1 =>
  cond t_1
  (some false)
  (if (0 : Int) ≤ rv_2 ∧ rv_2 ≤ (n.Lines.length : Int) then
  if ([] : List LineLine).length + (n.Lines.take (Int.toNat rv_2)).length ≤ lim then
  if (0 : Int) ≤ (wr (rv_2 + 1)) ∧ (wr (rv_2 + 1)) ≤ (n.Lines.length : Int) then
  if (([] : List LineLine) ++ (n.Lines.take (Int.toNat rv_2))).length + (n.Lines.drop (Int.toNat (wr (rv_2 + 1)))).length ≤ lim then
  loopU (remontoirlaw06_LineCut_b1 n rv_2 rv_3) (false, 0)
  else none
  else none
  else none
  else none))
theorem remontoirlaw06_LineCut_ok {w0 : World} {D0 : Stab} (hD : D0.on w0) (n : LineNet) (which : Int) {p : Option Addr} {c : Nat} {p_1 : Option Addr} {c_1 : Nat} (hs : SRc C_LineLine D0 n.Lines p c) (hs_1 : SRc C_LineLoop D0 n.Loops p_1 c_1) (hG : Glob D0) (out : Bool) (h : remontoirlaw06_LineCut n which = some out) : Calls Tryd.prog 11 [.agg #[.int .i64 n.Exchanges, .slice p n.Lines.length c, .int .i64 n.Hops, .slice p_1 n.Loops.length c_1], .int .i64 which].toArray w0 (RetP D0 w0 (.bool out)) := by
 refine enter _ 159 Tryd.func11 rfl Tryd.ntmps11 rfl fun a hF => ?_
 replace hF : Frm 159 [] [(0, .agg #[.int .i64 n.Exchanges, .slice p n.Lines.length c, .int .i64 n.Hops, .slice p_1 n.Loops.length c_1]), (1, .int .i64 which)] a := hF
 have hS := St.start hD
 unfold remontoirlaw06_LineCut at h
 refine seq (region (O.box (cs := [.int .i64 n.Exchanges, .slice p n.Lines.length c, .int .i64 n.Hops, .slice p_1 n.Loops.length c_1]) 1 hF rfl rfl hS rfl fun b a w hF hS => step hF (Y.assign hF rfl) rfl fun a hF => nil (then_n (seq (seq (region (step hF (Y.loadNL 1 sz_25 hF rfl hS rfl rfl rfl) rfl fun a hF => ?_)))))))
 obtain ⟨rv, hx, h⟩ := bind_some h
 refine O.callP (us := [.agg #[.int .i64 n.Exchanges, .slice p n.Lines.length c, .int .i64 n.Hops, .slice p_1 n.Loops.length c_1]]) ca_34 hF hS (remontoirlaw06_sound_ok hS.stab n hs hs_1 rv hx) rfl rfl fun a w hF hS => step hF (Y.not hF rfl) rfl fun a hF => step hF (Y.move hF rfl) rfl fun a hF => join (N := 159) (rs := []) (w0 := w0) (D0 := D0) 5 (us := [(1, .int .i64 which), (2, .pointer (some ⟨b, 0, none⟩)), (4, .bool false), (25, .bool ((!rv) || ((n.Lines.length : Int) == 0)))]) (ms := [(1, .cells b [.int .i64 n.Exchanges, .slice p n.Lines.length c, .int .i64 n.Hops, .slice p_1 n.Loops.length c_1] 25)]) (D' := D0) ?_ ?_
 ·rcases bcases (!rv) with hbv | hbv
  ·skip
   refine guard_off hF rfl rfl hbv rfl fun a hF => guard_off hF rfl rfl hbv rfl fun a hF => guard_off hF rfl rfl hbv rfl fun a hF => guard_off hF rfl rfl hbv rfl fun a hF => step hF (Y.pick_t hF rfl hbv rfl) rfl fun a hF => nil (then_n ⟨hF.weak ⟨rfl, rfl, rfl, (by rw [hbv]; rfl), trivial⟩, hS.weak ⟨rfl, trivial⟩⟩)
  refine guard_on hF rfl rfl hbv (step hF (Y.fieldAddr fo_25_1 hF rfl) rfl fun a hF => guard_on hF rfl rfl hbv (step hF (Y.load1L 1 sz_22 hF rfl hS rfl rfl) rfl fun a hF => guard_on hF rfl rfl hbv (step hF (Y.lenSl u_22 hF rfl) rfl fun a hF => guard_on hF rfl rfl hbv (step hF (Y.eql hF rfl rfl) rfl fun a hF => step hF (Y.pick_f hF rfl hbv rfl) rfl fun a hF => nil (then_n ⟨hF.weak ⟨rfl, rfl, rfl, (by rw [hbv]; rfl), trivial⟩, hS.weak ⟨rfl, trivial⟩⟩)))))
 intro a w hF hS
 refine nil (then_n (cond_b hF rfl (fun hbv_1 => ?_) (fun hbv_1 => ?_)))
 ·replace h := cond_t h hbv_1
  refine seq (region ?_)
  obtain ⟨rv_1, hx_1, h⟩ := bind_some h
  refine O.callP (us := []) ca_23 hF hS (remontoirlaw06_works_ok hS.stab hG rv_1 hx_1) rfl rfl fun a w hF hS => step hF (Y.assign hF rfl) rfl fun a hF => nil (then_n (ret_ (then_r ?_)))
  obtain rfl := some_inj h
  exact leaveP Tryd.results11 hF hS (.cons (.tmp rfl) .nil) .nil rfl
 replace h := cond_f h hbv_1
 refine skip_ (then_n (seq (region (step hF (Y.move hF rfl) rfl fun a hF => step hF (Y.fieldAddr fo_25_1 hF rfl) rfl fun a hF => step hF (Y.load1L 1 sz_22 hF rfl hS rfl rfl) rfl fun a hF => step hF (Y.lenSl u_22 hF rfl) rfl fun a hF => ?_))))
 obtain ⟨rv_2, hx_2, h⟩ := bind_some h
 refine O.callP (us := [.int .i64 which, .int .i64 (n.Lines.length : Int)]) ca_41 hF hS (r0Rest_ok hS.stab which (n.Lines.length : Int) rv_2 hx_2) rfl rfl fun a w hF hS => step hF (Y.assign hF rfl) rfl fun a hF => nil (then_n (seq (region (step hF (Y.loadNL 1 sz_25 hF rfl hS rfl rfl rfl) rfl fun a hF => step hF (Y.move hF rfl) rfl fun a hF => ?_))))
 obtain ⟨rv_3, hx_3, h⟩ := bind_some h
 refine O.callS (us := [.agg #[.int .i64 n.Exchanges, .slice p n.Lines.length c, .int .i64 n.Hops, .slice p_1 n.Loops.length c_1], .int .i64 rv_2]) ca_30 hF hS (line_Cut_ok hS.stab n rv_2 hs hs_1 hG rv_3 hx_3) rfl rfl fun v Dv a w hR hlev hF hS => ?_
 replace hs := hs.mono hlev
 replace hs_1 := hs_1.mono hlev
 replace hG := hG.mono hlev
 obtain ⟨p_2, c_2, p_3, c_3, rfl, hs_2, hs_3⟩ := hR
 refine step hF (Y.move hF rfl) rfl fun a hF => step hF (Y.extract hF rfl rfl) rfl fun a hF => step hF (Y.extract hF rfl rfl) rfl fun a hF => step hF (Y.extract hF rfl rfl) rfl fun a hF => step hF (Y.assign hF rfl) rfl fun a hF => step hF (Y.assign hF rfl) rfl fun a hF => step hF (Y.assign hF rfl) rfl fun a hF => nil (then_n (seq (seq (region (step hF (Y.move hF rfl) rfl fun a hF => step hF (Y.neq hF rfl rfl) rfl fun a hF => step hF (Y.move hF rfl) rfl fun a hF => ?_)))))
 obtain ⟨t, ht, h⟩ := bind_some h
 refine join (N := 159) (rs := []) (w0 := w0) (D0 := D0) 6 (us := [(2, .pointer (some ⟨b, 0, none⟩)), (4, .bool false), (5, .int .i64 rv_2), (6, .slice p_2 rv_3.1.length c_2), (7, .slice p_3 rv_3.2.1.length c_3), (47, .bool t)]) (ms := [(1, .cells b [.int .i64 n.Exchanges, .slice p n.Lines.length c, .int .i64 n.Hops, .slice p_1 n.Loops.length c_1] 25)]) (D' := Dv) ?_ ?_
 ·rcases bcases (rv_3.2.2 != 0) with hbv_2 | hbv_2
  ·skip
   replace h := cond_t ht hbv_2
   refine guard_off hF rfl rfl hbv_2 rfl fun a hF => guard_off hF rfl rfl hbv_2 rfl fun a hF => guard_off hF rfl rfl hbv_2 rfl fun a hF => guard_off hF rfl rfl hbv_2 rfl fun a hF => guard_off hF rfl rfl hbv_2 rfl fun a hF => step hF (Y.pick_t hF rfl hbv_2 rfl) rfl fun a hF => ?_
   obtain rfl := some_inj h
   exact nil (then_n ⟨hF.weak ⟨rfl, rfl, rfl, rfl, rfl, rfl, trivial⟩, hS.weak ⟨rfl, trivial⟩⟩)
  replace h := cond_f ht hbv_2
  refine guard_on hF rfl rfl hbv_2 (step hF (Y.move hF rfl) rfl fun a hF => guard_on hF rfl rfl hbv_2 (step hF (Y.fieldAddr fo_25_0 hF rfl) rfl fun a hF => guard_on hF rfl rfl hbv_2 (step hF (Y.load1L 1 sz_3 hF rfl hS rfl rfl) rfl fun a hF => guard_on hF rfl rfl hbv_2 ?_)))
  obtain ⟨rv_4, hx_4, h⟩ := bind_some h
  refine O.callP (us := [.slice p_2 rv_3.1.length c_2, .int .i64 n.Exchanges]) ca_50 hF hS (r0Climbs_ok hS.stab rv_3.1 n.Exchanges hs_2 rv_4 hx_4) rfl rfl fun a w hF hS => guard_on hF rfl rfl hbv_2 (step hF (Y.not hF rfl) rfl fun a hF => step hF (Y.pick_f hF rfl hbv_2 rfl) rfl fun a hF => ?_)
  obtain rfl := some_inj h
  exact nil (then_n ⟨hF.weak ⟨rfl, rfl, rfl, rfl, rfl, rfl, trivial⟩, hS.weak ⟨rfl, trivial⟩⟩)
 intro a w hF hS
 refine step hF (Y.move hF rfl) rfl fun a hF => ?_
 obtain ⟨t_1, ht_1, h⟩ := bind_some h
 refine join (N := 159) (rs := []) (w0 := w0) (D0 := D0) 6 (us := [(2, .pointer (some ⟨b, 0, none⟩)), (4, .bool false), (5, .int .i64 rv_2), (6, .slice p_2 rv_3.1.length c_2), (7, .slice p_3 rv_3.2.1.length c_3), (54, .bool t_1)]) (ms := [(1, .cells b [.int .i64 n.Exchanges, .slice p n.Lines.length c, .int .i64 n.Hops, .slice p_1 n.Loops.length c_1] 25)]) (D' := Dv) ?_ ?_
 ·rcases bcases t with hbv_3 | hbv_3
  ·skip
   replace h := cond_t ht_1 hbv_3
   refine guard_off hF rfl rfl hbv_3 rfl fun a hF => guard_off hF rfl rfl hbv_3 rfl fun a hF => guard_off hF rfl rfl hbv_3 rfl fun a hF => guard_off hF rfl rfl hbv_3 rfl fun a hF => guard_off hF rfl rfl hbv_3 rfl fun a hF => step hF (Y.pick_t hF rfl hbv_3 rfl) rfl fun a hF => ?_
   obtain rfl := some_inj h
   exact nil (then_n ⟨hF.weak ⟨rfl, rfl, rfl, rfl, rfl, rfl, trivial⟩, hS.weak ⟨rfl, trivial⟩⟩)
  replace h := cond_f ht_1 hbv_3
  refine guard_on hF rfl rfl hbv_3 (step hF (Y.move hF rfl) rfl fun a hF => guard_on hF rfl rfl hbv_3 (step hF (Y.fieldAddr fo_25_0 hF rfl) rfl fun a hF => guard_on hF rfl rfl hbv_3 (step hF (Y.load1L 1 sz_3 hF rfl hS rfl rfl) rfl fun a hF => guard_on hF rfl rfl hbv_3 ?_)))
  obtain ⟨rv_5, hx_5, h⟩ := bind_some h
  refine O.callP (us := [.slice p_3 rv_3.2.1.length c_3, .int .i64 n.Exchanges]) ca_50 hF hS (r0Climbs_ok hS.stab rv_3.2.1 n.Exchanges hs_3 rv_5 hx_5) rfl rfl fun a w hF hS => guard_on hF rfl rfl hbv_3 (step hF (Y.not hF rfl) rfl fun a hF => step hF (Y.pick_f hF rfl hbv_3 rfl) rfl fun a hF => ?_)
  obtain rfl := some_inj h
  exact nil (then_n ⟨hF.weak ⟨rfl, rfl, rfl, rfl, rfl, rfl, trivial⟩, hS.weak ⟨rfl, trivial⟩⟩)
 intro a w hF hS
 refine nil (then_n (cond_b hF rfl (fun hbv_4 => ?_) (fun hbv_4 => ?_)))
 ·replace h := cond_t h hbv_4
  refine seq (region (step hF (Y.assign hF rfl) rfl fun a hF => nil (then_n (ret_ (then_r ?_)))))
  obtain rfl := some_inj h
  exact leaveP Tryd.results11 hF hS (.cons (.tmp rfl) .nil) .nil rfl
 replace h := cond_f h hbv_4
 refine skip_ (then_n (seq (region (step hF (Y.loadNL 1 sz_25 hF rfl hS rfl rfl rfl) rfl fun a hF => O.alloc 2 zc_25 hF hS rfl fun b_1 a w hF hS => O.store (us := [.int .i64 n.Exchanges, .slice p n.Lines.length c, .int .i64 n.Hops, .slice p_1 n.Loops.length c_1]) 2 sz_25 hF rfl rfl rfl rfl hS rfl rfl fun a w hF hS => nil (then_n (seq ?_))))))
 obtain ⟨hg, h⟩ := ite_some h
 obtain ⟨hg_1, h⟩ := ite_some h
 obtain ⟨hg_2, h⟩ := ite_some h
 refine drawsV 11 (.flt 1 (.flt 2 (.flt 3 (.flt 4 (.flt 6 (.flt 7 (.flt 8 (.flt 9 (.flt 10 (.alt 0 (.alt 5 .done .stop) .stop)))))))))) mixed_ (by kernel_rfl) (fun w => St w0 D0 Dv [(1, .cells b [.int .i64 n.Exchanges, .slice p n.Lines.length c, .int .i64 n.Hops, .slice p_1 n.Loops.length c_1] 25), (2, .cells b_1 [.int .i64 n.Exchanges, .slice p n.Lines.length c, .int .i64 n.Hops, .slice p_1 n.Loops.length c_1] 25)] w) (fun a w => ∃ (p_5 : Option Addr) (c_5 : Nat) (cs : List Value), Frm 159 [] [(2, .pointer (some ⟨b, 0, none⟩)), (4, .bool false), (6, .slice p_2 rv_3.1.length c_2), (7, .slice p_3 rv_3.2.1.length c_3), (9, .pointer (some ⟨b_1, 0, none⟩)), (61, .slice p_5 (([] : List LineLine) ++ (n.Lines.take (Int.toNat rv_2))).length c_5), (66, .slice (if c = Int.toNat (wr (rv_2 + 1)) then p else Option.map (fun ad => ad.add (Int.toNat (wr (rv_2 + 1)) * 4)) p) (n.Lines.drop (Int.toNat (wr (rv_2 + 1)))).length (c - Int.toNat (wr (rv_2 + 1))))] a ∧ St w0 D0 Dv [(1, .cells b [.int .i64 n.Exchanges, .slice p n.Lines.length c, .int .i64 n.Hops, .slice p_1 n.Loops.length c_1] 25), (2, .cells b_1 [.int .i64 n.Exchanges, .slice p n.Lines.length c, .int .i64 n.Hops, .slice p_1 n.Loops.length c_1] 25), (3, .own p_5 (([] : List LineLine) ++ (n.Lines.take (Int.toNat rv_2))).length c_5 cs 68 4)] w ∧ SRc C_LineLine Dv (n.Lines.drop (Int.toNat (wr (rv_2 + 1)))) (if c = Int.toNat (wr (rv_2 + 1)) then p else Option.map (fun ad => ad.add (Int.toNat (wr (rv_2 + 1)) * 4)) p) (c - Int.toNat (wr (rv_2 + 1))) ∧ Reps C_LineLine Dv (([] : List LineLine) ++ (n.Lines.take (Int.toNat rv_2))) cs) (hS.weak (ms := [(1, .cells b [.int .i64 n.Exchanges, .slice p n.Lines.length c, .int .i64 n.Hops, .slice p_1 n.Loops.length c_1] 25), (2, .cells b_1 [.int .i64 n.Exchanges, .slice p n.Lines.length c, .int .i64 n.Hops, .slice p_1 n.Loops.length c_1] 25)]) ⟨rfl, rfl, trivial⟩).drew (fun _ _ _ _ h => h) ?_ ?_
 ·replace hS := hS.drew
  have hle0 := hS.le
  refine stepV (i := 1) rfl hF (fun w hS => Y.fieldAddr fo_25_1 hF rfl) rfl fun a hF => stepV (i := 2) rfl hF (fun w hS => Y.load1L 1 sz_22 hF rfl hS rfl rfl) rfl fun a hF => stepV (i := 3) rfl hF (fun w hS => Y.move hF rfl) rfl fun a hF => stepV (i := 4) rfl hF (fun w hS => Y.sliceHi (xs := n.Lines) u_22 sz_68 hF rfl rfl hg hs.2) rfl fun a hF => stepV (i := 6) rfl hF (fun w hS => Y.fieldAddr fo_25_1 hF rfl) rfl fun a hF => stepV (i := 7) rfl hF (fun w hS => Y.load1L 1 sz_22 hF rfl hS rfl rfl) rfl fun a hF => stepV (i := 8) rfl hF (fun w hS => Y.move hF rfl) rfl fun a hF => stepV (i := 9) rfl hF (fun w hS => Y.add hF rfl rfl) rfl fun a hF => stepV (i := 10) rfl hF (fun w hS => Y.sliceLo (xs := n.Lines) u_22 sz_68 hF rfl rfl hg_2) rfl fun a hF => oneV (i := 0) rfl ?_ trivial
  have hr_2 : Reps C_LineLine Dv ([] : List LineLine) [] := Reps.nil
  refine O.buildSlice (E := 68) (C := C_LineLine) (xs := ([] : List LineLine)) (cs := []) (us := []) (parts := []) 3 hF hS rfl (by kernel_rfl) hr_2 rfl rfl rfl fun p_6 c_6 a w hF hS => nil (then_n ⟨hS.weak ⟨rfl, rfl, trivial⟩, ?_⟩)
  refine oneV (i := 5) rfl ?_ trivial
  obtain ⟨ds_1, hds_1, hsrc_1⟩ := src_stab (C := C_LineLine) (xs := (n.Lines.take (Int.toNat rv_2))) ((SRc.take hs (Int.toNat rv_2))).1 hS.stab
  refine O.append (C := C_LineLine) (xs := ([] : List LineLine)) (ys := (n.Lines.take (Int.toNat rv_2))) 3 gr_22 hF rfl rfl hS rfl hsrc_1 hr_2 hds_1 hg_1 rfl fun p_7 c_7 a w hF hS hr_3 => nil (then_n ⟨hS.weak ⟨rfl, rfl, trivial⟩, ?_⟩)
  exact toTailV ⟨p_7, c_7, ([] ++ ds_1), hF.weak ⟨rfl, rfl, rfl, rfl, rfl, rfl, rfl, trivial⟩, hS.weak ⟨rfl, rfl, rfl, trivial⟩, (SRc.drop hs (k := Int.toNat (wr (rv_2 + 1))) (by have := hg_2; omega)), hr_3⟩
 rintro a w ⟨p_5, c_5, cs, hF, hS, hj, hj_1⟩
 obtain ⟨hg_3, h⟩ := ite_some h
 obtain ⟨ds_2, hds_2, hsrc_2⟩ := src_stab (C := C_LineLine) (xs := (n.Lines.drop (Int.toNat (wr (rv_2 + 1))))) (hj).1 hS.stab
 refine O.append (C := C_LineLine) (xs := (([] : List LineLine) ++ (n.Lines.take (Int.toNat rv_2)))) (ys := (n.Lines.drop (Int.toNat (wr (rv_2 + 1))))) 3 gr_22 hF rfl rfl hS rfl hsrc_2 hj_1 hds_2 hg_3 rfl fun p_8 c_8 a w hF hS hr_4 => step hF (Y.fieldAddr fo_25_1 hF rfl) rfl fun a hF => O.store (us := [.slice p_8 ((([] : List LineLine) ++ (n.Lines.take (Int.toNat rv_2))) ++ (n.Lines.drop (Int.toNat (wr (rv_2 + 1))))).length c_8]) 2 sz_22 hF rfl rfl rfl rfl hS rfl rfl fun a w hF hS => nil (then_n (seq (seq (region (step hF (Y.assign hF rfl) rfl fun a hF => nil (then_n (block ?_)))))))
 obtain ⟨Dv_1, hlev_1, hs_4, hS⟩ := hS.freezeC (C := C_LineLine) (i := 3) (xs := ((([] : List LineLine) ++ (n.Lines.take (Int.toNat rv_2))) ++ (n.Lines.drop (Int.toNat (wr (rv_2 + 1)))))) rfl hr_4
 replace hs := hs.mono hlev_1
 replace hs_1 := hs_1.mono hlev_1
 replace hG := hG.mono hlev_1
 replace hs_2 := hs_2.mono hlev_1
 replace hs_3 := hs_3.mono hlev_1
 refine loop_cut (body := remontoirlaw06_LineCut_b1 n rv_2 rv_3) (out := out) (fun s a w => ∃ (v4_0 : Bool) (k : Int), ∃ (Dv_2 : Stab), s = (v4_0, k) ∧ Dv_1.le Dv_2 ∧ Frm 159 [] [(2, .pointer (some ⟨b, 0, none⟩)), (4, .bool v4_0), (6, .slice p_2 rv_3.1.length c_2), (7, .slice p_3 rv_3.2.1.length c_3), (9, .pointer (some ⟨b_1, 0, none⟩)), (10, .int .i64 k)] a ∧ St w0 D0 Dv_2 [(1, .cells b [.int .i64 n.Exchanges, .slice p n.Lines.length c, .int .i64 n.Hops, .slice p_1 n.Loops.length c_1] 25), (2, .cells b_1 [.int .i64 n.Exchanges, .slice p_8 ((([] : List LineLine) ++ (n.Lines.take (Int.toNat rv_2))) ++ (n.Lines.drop (Int.toNat (wr (rv_2 + 1))))).length c_8, .int .i64 n.Hops, .slice p_1 n.Loops.length c_1] 25)] w) (false, 0) h ⟨false, 0, Dv_1, rfl, Stab.le.refl _, hF.weak ⟨rfl, rfl, rfl, rfl, rfl, rfl, trivial⟩, hS.weak ⟨rfl, rfl, trivial⟩⟩ ?_
 rintro s a w xo ⟨v4_0, k, Dv_2, rfl, hlev_2, hF, hS⟩ h hxo
 unfold remontoirlaw06_LineCut_b1 at h
 dsimp only at h
 replace hs := hs.mono hlev_2
 replace hs_1 := hs_1.mono hlev_2
 replace hG := hG.mono hlev_2
 replace hs_2 := hs_2.mono hlev_2
 replace hs_3 := hs_3.mono hlev_2
 replace hs_4 := hs_4.mono hlev_2
 refine seq (seq (region (step hF (Y.move hF rfl) rfl fun a hF => step hF (Y.fieldAddr fo_25_0 hF rfl) rfl fun a hF => step hF (Y.load1L 1 sz_3 hF rfl hS rfl rfl) rfl fun a hF => step hF (Y.lss hF rfl rfl) rfl fun a hF => nil (then_n (cond_b hF rfl (fun hbv_5 => ?_) (fun hbv_5 => ?_))))))
 ·replace h := cond_t h hbv_5
  refine skip_ (then_n (seq (block (seq (region (step hF (Y.loadNL 1 sz_25 hF rfl hS rfl rfl rfl) rfl fun a hF => step hF (Y.move hF rfl) rfl fun a hF => ?_))))))
  obtain ⟨rv_6, hx_6, h⟩ := bind_some h
  refine O.callS (us := [.agg #[.int .i64 n.Exchanges, .slice p n.Lines.length c, .int .i64 n.Hops, .slice p_1 n.Loops.length c_1], .int .i64 k]) ca_15 hF hS (line_Routes_ok hS.stab n k hs hs_1 hG rv_6 hx_6) rfl rfl fun v_1 Dv_3 a w hR_1 hlev_3 hF hS => ?_
  replace hs_1 := hs_1.mono hlev_3
  replace hG := hG.mono hlev_3
  replace hs_2 := hs_2.mono hlev_3
  replace hs_3 := hs_3.mono hlev_3
  replace hs_4 := hs_4.mono hlev_3
  obtain ⟨p_9, c_9, rfl, hs_5⟩ := hR_1
  refine step hF (Y.move hF rfl) rfl fun a hF => step hF (Y.extract hF rfl rfl) rfl fun a hF => step hF (Y.extract hF rfl rfl) rfl fun a hF => step hF (Y.assign hF rfl) rfl fun a hF => step hF (Y.assign hF rfl) rfl fun a hF => nil (then_n (seq (region (step hF (Y.loadNL 2 sz_25 hF rfl hS rfl rfl rfl) rfl fun a hF => step hF (Y.move hF rfl) rfl fun a hF => ?_))))
  obtain ⟨rv_7, hx_7, h⟩ := bind_some h
  refine O.callS (us := [.agg #[.int .i64 n.Exchanges, .slice p_8 ((([] : List LineLine) ++ (n.Lines.take (Int.toNat rv_2))) ++ (n.Lines.drop (Int.toNat (wr (rv_2 + 1))))).length c_8, .int .i64 n.Hops, .slice p_1 n.Loops.length c_1], .int .i64 k]) ca_15 hF hS (line_Routes_ok hS.stab (LineNet.mk n.Exchanges ((([] : List LineLine) ++ (n.Lines.take (Int.toNat rv_2))) ++ (n.Lines.drop (Int.toNat (wr (rv_2 + 1))))) n.Hops n.Loops) k hs_4 hs_1 hG rv_7 hx_7) rfl rfl fun v_2 Dv_4 a w hR_2 hlev_4 hF hS => ?_
  replace hs_2 := hs_2.mono hlev_4
  replace hs_3 := hs_3.mono hlev_4
  obtain ⟨p_10, c_10, rfl, hs_6⟩ := hR_2
  refine step hF (Y.move hF rfl) rfl fun a hF => step hF (Y.extract hF rfl rfl) rfl fun a hF => step hF (Y.extract hF rfl rfl) rfl fun a hF => step hF (Y.assign hF rfl) rfl fun a hF => step hF (Y.assign hF rfl) rfl fun a hF => nil (then_n (seq (region (step hF (Y.move hF rfl) rfl fun a hF => step hF (Y.move hF rfl) rfl fun a hF => ?_))))
  obtain ⟨rv_8, hx_8, h⟩ := bind_some h
  refine O.callP (us := [.slice p_2 rv_3.1.length c_2, .int .i64 k]) ca_40 hF hS (r0Find_ok hS.stab rv_3.1 k hs_2 rv_8 hx_8) rfl rfl fun a w hF hS => step hF (Y.geq hF rfl rfl) rfl fun a hF => step hF (Y.move hF rfl) rfl fun a hF => step hF (Y.move hF rfl) rfl fun a hF => ?_
  obtain ⟨rv_9, hx_9, h⟩ := bind_some h
  refine O.callP (us := [.slice p_3 rv_3.2.1.length c_3, .int .i64 k]) ca_40 hF hS (r0Find_ok hS.stab rv_3.2.1 k hs_3 rv_9 hx_9) rfl rfl fun a w hF hS => step hF (Y.geq hF rfl rfl) rfl fun a hF => step hF (Y.assign hF rfl) rfl fun a hF => step hF (Y.assign hF rfl) rfl fun a hF => nil (then_n (seq (region (step hF (Y.move hF rfl) rfl fun a hF => step hF (Y.move hF rfl) rfl fun a hF => join (N := 159) (rs := []) (w0 := w0) (D0 := D0) 2 (us := [(2, .pointer (some ⟨b, 0, none⟩)), (4, .bool v4_0), (6, .slice p_2 rv_3.1.length c_2), (7, .slice p_3 rv_3.2.1.length c_3), (9, .pointer (some ⟨b_1, 0, none⟩)), (10, .int .i64 k), (11, .slice p_9 rv_6.1.length c_9), (12, .int .i64 rv_6.2), (13, .slice p_10 rv_7.1.length c_10), (14, .int .i64 rv_7.2), (15, .bool (decide (rv_8 ≥ 0))), (16, .bool (decide (rv_9 ≥ 0))), (98, .bool ((decide (rv_8 ≥ 0)) && (decide (rv_9 ≥ 0))))]) (ms := [(1, .cells b [.int .i64 n.Exchanges, .slice p n.Lines.length c, .int .i64 n.Hops, .slice p_1 n.Loops.length c_1] 25), (2, .cells b_1 [.int .i64 n.Exchanges, .slice p_8 ((([] : List LineLine) ++ (n.Lines.take (Int.toNat rv_2))) ++ (n.Lines.drop (Int.toNat (wr (rv_2 + 1))))).length c_8, .int .i64 n.Hops, .slice p_1 n.Loops.length c_1] 25)]) (D' := Dv_4) ?_ ?_))))
  ·rcases bcases (decide (rv_8 ≥ 0)) with hbv_6 | hbv_6
   ·skip
    refine guard_on hF rfl rfl hbv_6 (step hF (Y.move hF rfl) rfl fun a hF => step hF (Y.pick_t hF rfl hbv_6 rfl) rfl fun a hF => nil (then_n ⟨hF.weak ⟨rfl, rfl, rfl, rfl, rfl, rfl, rfl, rfl, rfl, rfl, rfl, rfl, (by rw [hbv_6]; rfl), trivial⟩, hS.weak ⟨rfl, rfl, trivial⟩⟩))
   refine guard_off hF rfl rfl hbv_6 rfl fun a hF => step hF (Y.pick_f hF rfl hbv_6 rfl) rfl fun a hF => nil (then_n ⟨hF.weak ⟨rfl, rfl, rfl, rfl, rfl, rfl, rfl, rfl, rfl, rfl, rfl, rfl, (by rw [hbv_6]; rfl), trivial⟩, hS.weak ⟨rfl, rfl, trivial⟩⟩)
  intro a w hF hS
  refine step hF (Y.move hF rfl) rfl fun a hF => join (N := 159) (rs := []) (w0 := w0) (D0 := D0) 9 (us := [(2, .pointer (some ⟨b, 0, none⟩)), (4, .bool v4_0), (6, .slice p_2 rv_3.1.length c_2), (7, .slice p_3 rv_3.2.1.length c_3), (9, .pointer (some ⟨b_1, 0, none⟩)), (10, .int .i64 k), (11, .slice p_9 rv_6.1.length c_9), (12, .int .i64 rv_6.2), (13, .slice p_10 rv_7.1.length c_10), (14, .int .i64 rv_7.2), (15, .bool (decide (rv_8 ≥ 0))), (16, .bool (decide (rv_9 ≥ 0))), (108, .bool (((decide (rv_8 ≥ 0)) && (decide (rv_9 ≥ 0))) || (((decide (rv_8 ≥ 0)) || (decide (rv_9 ≥ 0))) && (rv_6.2 != 0))))]) (ms := [(1, .cells b [.int .i64 n.Exchanges, .slice p n.Lines.length c, .int .i64 n.Hops, .slice p_1 n.Loops.length c_1] 25), (2, .cells b_1 [.int .i64 n.Exchanges, .slice p_8 ((([] : List LineLine) ++ (n.Lines.take (Int.toNat rv_2))) ++ (n.Lines.drop (Int.toNat (wr (rv_2 + 1))))).length c_8, .int .i64 n.Hops, .slice p_1 n.Loops.length c_1] 25)]) (D' := Dv_4) ?_ ?_
  ·rcases bcases ((decide (rv_8 ≥ 0)) && (decide (rv_9 ≥ 0))) with hbv_7 | hbv_7
   ·skip
    refine guard_off hF rfl rfl hbv_7 rfl fun a hF => guard_off hF rfl rfl hbv_7 rfl fun a hF => guard_offu hF rfl rfl rfl fun a hF => guard_off hF rfl rfl hbv_7 rfl fun a hF => guard_off hF rfl rfl hbv_7 rfl fun a hF => guard_offu hF rfl rfl rfl fun a hF => guard_offu hF rfl rfl rfl fun a hF => guard_off hF rfl rfl hbv_7 rfl fun a hF => step hF (Y.pick_t hF rfl hbv_7 rfl) rfl fun a hF => nil (then_n ⟨hF.weak ⟨rfl, rfl, rfl, rfl, rfl, rfl, rfl, rfl, rfl, rfl, rfl, rfl, (by rw [hbv_7]; rfl), trivial⟩, hS.weak ⟨rfl, rfl, trivial⟩⟩)
   refine guard_on hF rfl rfl hbv_7 (step hF (Y.move hF rfl) rfl fun a hF => guard_on hF rfl rfl hbv_7 (step hF (Y.move hF rfl) rfl fun a hF => join (N := 159) (rs := []) (w0 := w0) (D0 := D0) 2 (us := [(2, .pointer (some ⟨b, 0, none⟩)), (4, .bool v4_0), (6, .slice p_2 rv_3.1.length c_2), (7, .slice p_3 rv_3.2.1.length c_3), (9, .pointer (some ⟨b_1, 0, none⟩)), (10, .int .i64 k), (11, .slice p_9 rv_6.1.length c_9), (12, .int .i64 rv_6.2), (13, .slice p_10 rv_7.1.length c_10), (14, .int .i64 rv_7.2), (15, .bool (decide (rv_8 ≥ 0))), (16, .bool (decide (rv_9 ≥ 0))), (99, .bool ((decide (rv_8 ≥ 0)) && (decide (rv_9 ≥ 0)))), (103, .bool ((decide (rv_8 ≥ 0)) || (decide (rv_9 ≥ 0))))]) (ms := [(1, .cells b [.int .i64 n.Exchanges, .slice p n.Lines.length c, .int .i64 n.Hops, .slice p_1 n.Loops.length c_1] 25), (2, .cells b_1 [.int .i64 n.Exchanges, .slice p_8 ((([] : List LineLine) ++ (n.Lines.take (Int.toNat rv_2))) ++ (n.Lines.drop (Int.toNat (wr (rv_2 + 1))))).length c_8, .int .i64 n.Hops, .slice p_1 n.Loops.length c_1] 25)]) (D' := Dv_4) ?_ ?_))
   ·rcases bcases (decide (rv_8 ≥ 0)) with hbv_8 | hbv_8
    ·skip
     refine guard_off hF rfl rfl hbv_8 rfl fun a hF => guard_on hF rfl rfl hbv_7 (step hF (Y.pick_t hF rfl hbv_8 rfl) rfl fun a hF => nil (then_n ⟨hF.weak ⟨rfl, rfl, rfl, rfl, rfl, rfl, rfl, rfl, rfl, rfl, rfl, rfl, rfl, (by rw [hbv_8]; rfl), trivial⟩, hS.weak ⟨rfl, rfl, trivial⟩⟩))
    refine guard_on hF rfl rfl hbv_8 (step hF (Y.move hF rfl) rfl fun a hF => guard_on hF rfl rfl hbv_7 (step hF (Y.pick_f hF rfl hbv_8 rfl) rfl fun a hF => nil (then_n ⟨hF.weak ⟨rfl, rfl, rfl, rfl, rfl, rfl, rfl, rfl, rfl, rfl, rfl, rfl, rfl, (by rw [hbv_8]; rfl), trivial⟩, hS.weak ⟨rfl, rfl, trivial⟩⟩)))
   intro a w hF hS
   refine guard_on hF rfl rfl hbv_7 (step hF (Y.move hF rfl) rfl fun a hF => join (N := 159) (rs := []) (w0 := w0) (D0 := D0) 3 (us := [(2, .pointer (some ⟨b, 0, none⟩)), (4, .bool v4_0), (6, .slice p_2 rv_3.1.length c_2), (7, .slice p_3 rv_3.2.1.length c_3), (9, .pointer (some ⟨b_1, 0, none⟩)), (10, .int .i64 k), (11, .slice p_9 rv_6.1.length c_9), (12, .int .i64 rv_6.2), (13, .slice p_10 rv_7.1.length c_10), (14, .int .i64 rv_7.2), (15, .bool (decide (rv_8 ≥ 0))), (16, .bool (decide (rv_9 ≥ 0))), (99, .bool ((decide (rv_8 ≥ 0)) && (decide (rv_9 ≥ 0)))), (107, .bool (((decide (rv_8 ≥ 0)) || (decide (rv_9 ≥ 0))) && (rv_6.2 != 0)))]) (ms := [(1, .cells b [.int .i64 n.Exchanges, .slice p n.Lines.length c, .int .i64 n.Hops, .slice p_1 n.Loops.length c_1] 25), (2, .cells b_1 [.int .i64 n.Exchanges, .slice p_8 ((([] : List LineLine) ++ (n.Lines.take (Int.toNat rv_2))) ++ (n.Lines.drop (Int.toNat (wr (rv_2 + 1))))).length c_8, .int .i64 n.Hops, .slice p_1 n.Loops.length c_1] 25)]) (D' := Dv_4) ?_ ?_)
   ·rcases bcases ((decide (rv_8 ≥ 0)) || (decide (rv_9 ≥ 0))) with hbv_9 | hbv_9
    ·skip
     refine guard_on hF rfl rfl hbv_9 (step hF (Y.move hF rfl) rfl fun a hF => guard_on hF rfl rfl hbv_9 (step hF (Y.neq hF rfl rfl) rfl fun a hF => guard_on hF rfl rfl hbv_7 (step hF (Y.pick_t hF rfl hbv_9 rfl) rfl fun a hF => nil (then_n ⟨hF.weak ⟨rfl, rfl, rfl, rfl, rfl, rfl, rfl, rfl, rfl, rfl, rfl, rfl, rfl, (by rw [hbv_9]; rfl), trivial⟩, hS.weak ⟨rfl, rfl, trivial⟩⟩))))
    refine guard_off hF rfl rfl hbv_9 rfl fun a hF => guard_off hF rfl rfl hbv_9 rfl fun a hF => guard_on hF rfl rfl hbv_7 (step hF (Y.pick_f hF rfl hbv_9 rfl) rfl fun a hF => nil (then_n ⟨hF.weak ⟨rfl, rfl, rfl, rfl, rfl, rfl, rfl, rfl, rfl, rfl, rfl, rfl, rfl, (by rw [hbv_9]; rfl), trivial⟩, hS.weak ⟨rfl, rfl, trivial⟩⟩))
   intro a w hF hS
   refine step hF (Y.pick_f hF rfl hbv_7 rfl) rfl fun a hF => nil (then_n ⟨hF.weak ⟨rfl, rfl, rfl, rfl, rfl, rfl, rfl, rfl, rfl, rfl, rfl, rfl, (by rw [hbv_7]; rfl), trivial⟩, hS.weak ⟨rfl, rfl, trivial⟩⟩)
  intro a w hF hS
  refine step hF (Y.move hF rfl) rfl fun a hF => join (N := 159) (rs := []) (w0 := w0) (D0 := D0) 6 (us := [(2, .pointer (some ⟨b, 0, none⟩)), (4, .bool v4_0), (6, .slice p_2 rv_3.1.length c_2), (7, .slice p_3 rv_3.2.1.length c_3), (9, .pointer (some ⟨b_1, 0, none⟩)), (10, .int .i64 k), (11, .slice p_9 rv_6.1.length c_9), (12, .int .i64 rv_6.2), (13, .slice p_10 rv_7.1.length c_10), (14, .int .i64 rv_7.2), (15, .bool (decide (rv_8 ≥ 0))), (16, .bool (decide (rv_9 ≥ 0))), (115, .bool ((((decide (rv_8 ≥ 0)) && (decide (rv_9 ≥ 0))) || (((decide (rv_8 ≥ 0)) || (decide (rv_9 ≥ 0))) && (rv_6.2 != 0))) || ((decide (rv_8 ≥ 0)) && (rv_7.2 == 0))))]) (ms := [(1, .cells b [.int .i64 n.Exchanges, .slice p n.Lines.length c, .int .i64 n.Hops, .slice p_1 n.Loops.length c_1] 25), (2, .cells b_1 [.int .i64 n.Exchanges, .slice p_8 ((([] : List LineLine) ++ (n.Lines.take (Int.toNat rv_2))) ++ (n.Lines.drop (Int.toNat (wr (rv_2 + 1))))).length c_8, .int .i64 n.Hops, .slice p_1 n.Loops.length c_1] 25)]) (D' := Dv_4) ?_ ?_
  ·rcases bcases (((decide (rv_8 ≥ 0)) && (decide (rv_9 ≥ 0))) || (((decide (rv_8 ≥ 0)) || (decide (rv_9 ≥ 0))) && (rv_6.2 != 0))) with hbv_10 | hbv_10
   ·skip
    refine guard_off hF rfl rfl hbv_10 rfl fun a hF => guard_off hF rfl rfl hbv_10 rfl fun a hF => guard_offu hF rfl rfl rfl fun a hF => guard_offu hF rfl rfl rfl fun a hF => guard_off hF rfl rfl hbv_10 rfl fun a hF => step hF (Y.pick_t hF rfl hbv_10 rfl) rfl fun a hF => nil (then_n ⟨hF.weak ⟨rfl, rfl, rfl, rfl, rfl, rfl, rfl, rfl, rfl, rfl, rfl, rfl, (by rw [hbv_10]; rfl), trivial⟩, hS.weak ⟨rfl, rfl, trivial⟩⟩)
   refine guard_on hF rfl rfl hbv_10 (step hF (Y.move hF rfl) rfl fun a hF => guard_on hF rfl rfl hbv_10 (step hF (Y.move hF rfl) rfl fun a hF => join (N := 159) (rs := []) (w0 := w0) (D0 := D0) 3 (us := [(2, .pointer (some ⟨b, 0, none⟩)), (4, .bool v4_0), (6, .slice p_2 rv_3.1.length c_2), (7, .slice p_3 rv_3.2.1.length c_3), (9, .pointer (some ⟨b_1, 0, none⟩)), (10, .int .i64 k), (11, .slice p_9 rv_6.1.length c_9), (12, .int .i64 rv_6.2), (13, .slice p_10 rv_7.1.length c_10), (14, .int .i64 rv_7.2), (15, .bool (decide (rv_8 ≥ 0))), (16, .bool (decide (rv_9 ≥ 0))), (109, .bool (((decide (rv_8 ≥ 0)) && (decide (rv_9 ≥ 0))) || (((decide (rv_8 ≥ 0)) || (decide (rv_9 ≥ 0))) && (rv_6.2 != 0)))), (114, .bool ((decide (rv_8 ≥ 0)) && (rv_7.2 == 0)))]) (ms := [(1, .cells b [.int .i64 n.Exchanges, .slice p n.Lines.length c, .int .i64 n.Hops, .slice p_1 n.Loops.length c_1] 25), (2, .cells b_1 [.int .i64 n.Exchanges, .slice p_8 ((([] : List LineLine) ++ (n.Lines.take (Int.toNat rv_2))) ++ (n.Lines.drop (Int.toNat (wr (rv_2 + 1))))).length c_8, .int .i64 n.Hops, .slice p_1 n.Loops.length c_1] 25)]) (D' := Dv_4) ?_ ?_))
   ·rcases bcases (decide (rv_8 ≥ 0)) with hbv_11 | hbv_11
    ·skip
     refine guard_on hF rfl rfl hbv_11 (step hF (Y.move hF rfl) rfl fun a hF => guard_on hF rfl rfl hbv_11 (step hF (Y.eql hF rfl rfl) rfl fun a hF => guard_on hF rfl rfl hbv_10 (step hF (Y.pick_t hF rfl hbv_11 rfl) rfl fun a hF => nil (then_n ⟨hF.weak ⟨rfl, rfl, rfl, rfl, rfl, rfl, rfl, rfl, rfl, rfl, rfl, rfl, rfl, (by rw [hbv_11]; rfl), trivial⟩, hS.weak ⟨rfl, rfl, trivial⟩⟩))))
    refine guard_off hF rfl rfl hbv_11 rfl fun a hF => guard_off hF rfl rfl hbv_11 rfl fun a hF => guard_on hF rfl rfl hbv_10 (step hF (Y.pick_f hF rfl hbv_11 rfl) rfl fun a hF => nil (then_n ⟨hF.weak ⟨rfl, rfl, rfl, rfl, rfl, rfl, rfl, rfl, rfl, rfl, rfl, rfl, rfl, (by rw [hbv_11]; rfl), trivial⟩, hS.weak ⟨rfl, rfl, trivial⟩⟩))
   intro a w hF hS
   refine step hF (Y.pick_f hF rfl hbv_10 rfl) rfl fun a hF => nil (then_n ⟨hF.weak ⟨rfl, rfl, rfl, rfl, rfl, rfl, rfl, rfl, rfl, rfl, rfl, rfl, (by rw [hbv_10]; rfl), trivial⟩, hS.weak ⟨rfl, rfl, trivial⟩⟩)
  intro a w hF hS
  refine step hF (Y.move hF rfl) rfl fun a hF => join (N := 159) (rs := []) (w0 := w0) (D0 := D0) 13 (us := [(2, .pointer (some ⟨b, 0, none⟩)), (4, .bool v4_0), (6, .slice p_2 rv_3.1.length c_2), (7, .slice p_3 rv_3.2.1.length c_3), (9, .pointer (some ⟨b_1, 0, none⟩)), (10, .int .i64 k), (11, .slice p_9 rv_6.1.length c_9), (12, .int .i64 rv_6.2), (13, .slice p_10 rv_7.1.length c_10), (14, .int .i64 rv_7.2), (15, .bool (decide (rv_8 ≥ 0))), (16, .bool (decide (rv_9 ≥ 0))), (129, .bool (((((decide (rv_8 ≥ 0)) && (decide (rv_9 ≥ 0))) || (((decide (rv_8 ≥ 0)) || (decide (rv_9 ≥ 0))) && (rv_6.2 != 0))) || ((decide (rv_8 ≥ 0)) && (rv_7.2 == 0))) || ((decide (rv_9 ≥ 0)) && ((rv_7.2 != 0) || (decide ((rv_7.1.length : Int) ≥ (rv_6.1.length : Int)))))))]) (ms := [(1, .cells b [.int .i64 n.Exchanges, .slice p n.Lines.length c, .int .i64 n.Hops, .slice p_1 n.Loops.length c_1] 25), (2, .cells b_1 [.int .i64 n.Exchanges, .slice p_8 ((([] : List LineLine) ++ (n.Lines.take (Int.toNat rv_2))) ++ (n.Lines.drop (Int.toNat (wr (rv_2 + 1))))).length c_8, .int .i64 n.Hops, .slice p_1 n.Loops.length c_1] 25)]) (D' := Dv_4) ?_ ?_
  ·rcases bcases ((((decide (rv_8 ≥ 0)) && (decide (rv_9 ≥ 0))) || (((decide (rv_8 ≥ 0)) || (decide (rv_9 ≥ 0))) && (rv_6.2 != 0))) || ((decide (rv_8 ≥ 0)) && (rv_7.2 == 0))) with hbv_12 | hbv_12
   ·skip
    refine guard_off hF rfl rfl hbv_12 rfl fun a hF => guard_off hF rfl rfl hbv_12 rfl fun a hF => guard_offu hF rfl rfl rfl fun a hF => guard_offu hF rfl rfl rfl fun a hF => guard_offu hF rfl rfl rfl fun a hF => guard_offu hF rfl rfl rfl fun a hF => guard_offu hF rfl rfl rfl fun a hF => guard_offu hF rfl rfl rfl fun a hF => guard_offu hF rfl rfl rfl fun a hF => guard_offu hF rfl rfl rfl fun a hF => guard_offu hF rfl rfl rfl fun a hF => guard_off hF rfl rfl hbv_12 rfl fun a hF => step hF (Y.pick_t hF rfl hbv_12 rfl) rfl fun a hF => nil (then_n ⟨hF.weak ⟨rfl, rfl, rfl, rfl, rfl, rfl, rfl, rfl, rfl, rfl, rfl, rfl, (by rw [hbv_12]; rfl), trivial⟩, hS.weak ⟨rfl, rfl, trivial⟩⟩)
   refine guard_on hF rfl rfl hbv_12 (step hF (Y.move hF rfl) rfl fun a hF => guard_on hF rfl rfl hbv_12 (step hF (Y.move hF rfl) rfl fun a hF => join (N := 159) (rs := []) (w0 := w0) (D0 := D0) 10 (us := [(2, .pointer (some ⟨b, 0, none⟩)), (4, .bool v4_0), (6, .slice p_2 rv_3.1.length c_2), (7, .slice p_3 rv_3.2.1.length c_3), (9, .pointer (some ⟨b_1, 0, none⟩)), (10, .int .i64 k), (11, .slice p_9 rv_6.1.length c_9), (12, .int .i64 rv_6.2), (13, .slice p_10 rv_7.1.length c_10), (14, .int .i64 rv_7.2), (15, .bool (decide (rv_8 ≥ 0))), (16, .bool (decide (rv_9 ≥ 0))), (116, .bool ((((decide (rv_8 ≥ 0)) && (decide (rv_9 ≥ 0))) || (((decide (rv_8 ≥ 0)) || (decide (rv_9 ≥ 0))) && (rv_6.2 != 0))) || ((decide (rv_8 ≥ 0)) && (rv_7.2 == 0)))), (128, .bool ((decide (rv_9 ≥ 0)) && ((rv_7.2 != 0) || (decide ((rv_7.1.length : Int) ≥ (rv_6.1.length : Int))))))]) (ms := [(1, .cells b [.int .i64 n.Exchanges, .slice p n.Lines.length c, .int .i64 n.Hops, .slice p_1 n.Loops.length c_1] 25), (2, .cells b_1 [.int .i64 n.Exchanges, .slice p_8 ((([] : List LineLine) ++ (n.Lines.take (Int.toNat rv_2))) ++ (n.Lines.drop (Int.toNat (wr (rv_2 + 1))))).length c_8, .int .i64 n.Hops, .slice p_1 n.Loops.length c_1] 25)]) (D' := Dv_4) ?_ ?_))
   ·rcases bcases (decide (rv_9 ≥ 0)) with hbv_13 | hbv_13
    ·skip
     refine guard_on hF rfl rfl hbv_13 (step hF (Y.move hF rfl) rfl fun a hF => guard_on hF rfl rfl hbv_13 (step hF (Y.neq hF rfl rfl) rfl fun a hF => guard_on hF rfl rfl hbv_13 (step hF (Y.move hF rfl) rfl fun a hF => join (N := 159) (rs := []) (w0 := w0) (D0 := D0) 6 (us := [(2, .pointer (some ⟨b, 0, none⟩)), (4, .bool v4_0), (6, .slice p_2 rv_3.1.length c_2), (7, .slice p_3 rv_3.2.1.length c_3), (9, .pointer (some ⟨b_1, 0, none⟩)), (10, .int .i64 k), (11, .slice p_9 rv_6.1.length c_9), (12, .int .i64 rv_6.2), (13, .slice p_10 rv_7.1.length c_10), (14, .int .i64 rv_7.2), (15, .bool (decide (rv_8 ≥ 0))), (16, .bool (decide (rv_9 ≥ 0))), (116, .bool ((((decide (rv_8 ≥ 0)) && (decide (rv_9 ≥ 0))) || (((decide (rv_8 ≥ 0)) || (decide (rv_9 ≥ 0))) && (rv_6.2 != 0))) || ((decide (rv_8 ≥ 0)) && (rv_7.2 == 0)))), (118, .bool (decide (rv_9 ≥ 0))), (127, .bool ((rv_7.2 != 0) || (decide ((rv_7.1.length : Int) ≥ (rv_6.1.length : Int)))))]) (ms := [(1, .cells b [.int .i64 n.Exchanges, .slice p n.Lines.length c, .int .i64 n.Hops, .slice p_1 n.Loops.length c_1] 25), (2, .cells b_1 [.int .i64 n.Exchanges, .slice p_8 ((([] : List LineLine) ++ (n.Lines.take (Int.toNat rv_2))) ++ (n.Lines.drop (Int.toNat (wr (rv_2 + 1))))).length c_8, .int .i64 n.Hops, .slice p_1 n.Loops.length c_1] 25)]) (D' := Dv_4) ?_ ?_)))
     ·rcases bcases (rv_7.2 != 0) with hbv_14 | hbv_14
      ·skip
       refine guard_off hF rfl rfl hbv_14 rfl fun a hF => guard_off hF rfl rfl hbv_14 rfl fun a hF => guard_off hF rfl rfl hbv_14 rfl fun a hF => guard_off hF rfl rfl hbv_14 rfl fun a hF => guard_off hF rfl rfl hbv_14 rfl fun a hF => guard_on hF rfl rfl hbv_13 (step hF (Y.pick_t hF rfl hbv_14 rfl) rfl fun a hF => nil (then_n ⟨hF.weak ⟨rfl, rfl, rfl, rfl, rfl, rfl, rfl, rfl, rfl, rfl, rfl, rfl, rfl, rfl, (by rw [hbv_14]; rfl), trivial⟩, hS.weak ⟨rfl, rfl, trivial⟩⟩))
      refine guard_on hF rfl rfl hbv_14 (step hF (Y.move hF rfl) rfl fun a hF => guard_on hF rfl rfl hbv_14 (step hF (Y.lenSl u_26 hF rfl) rfl fun a hF => guard_on hF rfl rfl hbv_14 (step hF (Y.move hF rfl) rfl fun a hF => guard_on hF rfl rfl hbv_14 (step hF (Y.lenSl u_26 hF rfl) rfl fun a hF => guard_on hF rfl rfl hbv_14 (step hF (Y.geq hF rfl rfl) rfl fun a hF => guard_on hF rfl rfl hbv_13 (step hF (Y.pick_f hF rfl hbv_14 rfl) rfl fun a hF => nil (then_n ⟨hF.weak ⟨rfl, rfl, rfl, rfl, rfl, rfl, rfl, rfl, rfl, rfl, rfl, rfl, rfl, rfl, (by rw [hbv_14]; rfl), trivial⟩, hS.weak ⟨rfl, rfl, trivial⟩⟩)))))))
     intro a w hF hS
     refine guard_on hF rfl rfl hbv_12 (step hF (Y.pick_t hF rfl hbv_13 rfl) rfl fun a hF => nil (then_n ⟨hF.weak ⟨rfl, rfl, rfl, rfl, rfl, rfl, rfl, rfl, rfl, rfl, rfl, rfl, rfl, (by rw [hbv_13]; rfl), trivial⟩, hS.weak ⟨rfl, rfl, trivial⟩⟩))
    refine guard_off hF rfl rfl hbv_13 rfl fun a hF => guard_off hF rfl rfl hbv_13 rfl fun a hF => guard_off hF rfl rfl hbv_13 rfl fun a hF => guard_offu hF rfl rfl rfl fun a hF => guard_offu hF rfl rfl rfl fun a hF => guard_offu hF rfl rfl rfl fun a hF => guard_offu hF rfl rfl rfl fun a hF => guard_offu hF rfl rfl rfl fun a hF => guard_off hF rfl rfl hbv_13 rfl fun a hF => guard_on hF rfl rfl hbv_12 (step hF (Y.pick_f hF rfl hbv_13 rfl) rfl fun a hF => nil (then_n ⟨hF.weak ⟨rfl, rfl, rfl, rfl, rfl, rfl, rfl, rfl, rfl, rfl, rfl, rfl, rfl, (by rw [hbv_13]; rfl), trivial⟩, hS.weak ⟨rfl, rfl, trivial⟩⟩))
   intro a w hF hS
   refine step hF (Y.pick_f hF rfl hbv_12 rfl) rfl fun a hF => nil (then_n ⟨hF.weak ⟨rfl, rfl, rfl, rfl, rfl, rfl, rfl, rfl, rfl, rfl, rfl, rfl, (by rw [hbv_12]; rfl), trivial⟩, hS.weak ⟨rfl, rfl, trivial⟩⟩)
  intro a w hF hS
  refine step hF (Y.move hF rfl) rfl fun a hF => join (N := 159) (rs := []) (w0 := w0) (D0 := D0) 27 (us := [(2, .pointer (some ⟨b, 0, none⟩)), (4, .bool v4_0), (6, .slice p_2 rv_3.1.length c_2), (7, .slice p_3 rv_3.2.1.length c_3), (9, .pointer (some ⟨b_1, 0, none⟩)), (10, .int .i64 k), (157, .bool ((((((decide (rv_8 ≥ 0)) && (decide (rv_9 ≥ 0))) || (((decide (rv_8 ≥ 0)) || (decide (rv_9 ≥ 0))) && (rv_6.2 != 0))) || ((decide (rv_8 ≥ 0)) && (rv_7.2 == 0))) || ((decide (rv_9 ≥ 0)) && ((rv_7.2 != 0) || (decide ((rv_7.1.length : Int) ≥ (rv_6.1.length : Int)))))) || (((!(decide (rv_8 ≥ 0))) && (!(decide (rv_9 ≥ 0)))) && (((rv_7.2 != rv_6.2) && ((rv_6.2 != 62) || (rv_7.2 != 4))) || ((rv_7.1.length : Int) != (rv_6.1.length : Int))))))]) (ms := [(1, .cells b [.int .i64 n.Exchanges, .slice p n.Lines.length c, .int .i64 n.Hops, .slice p_1 n.Loops.length c_1] 25), (2, .cells b_1 [.int .i64 n.Exchanges, .slice p_8 ((([] : List LineLine) ++ (n.Lines.take (Int.toNat rv_2))) ++ (n.Lines.drop (Int.toNat (wr (rv_2 + 1))))).length c_8, .int .i64 n.Hops, .slice p_1 n.Loops.length c_1] 25)]) (D' := Dv_4) ?_ ?_
  ·rcases bcases (((((decide (rv_8 ≥ 0)) && (decide (rv_9 ≥ 0))) || (((decide (rv_8 ≥ 0)) || (decide (rv_9 ≥ 0))) && (rv_6.2 != 0))) || ((decide (rv_8 ≥ 0)) && (rv_7.2 == 0))) || ((decide (rv_9 ≥ 0)) && ((rv_7.2 != 0) || (decide ((rv_7.1.length : Int) ≥ (rv_6.1.length : Int)))))) with hbv_15 | hbv_15
   ·skip
    refine guard_off hF rfl rfl hbv_15 rfl fun a hF => guard_off hF rfl rfl hbv_15 rfl fun a hF => guard_off hF rfl rfl hbv_15 rfl fun a hF => guard_offu hF rfl rfl rfl fun a hF => guard_offu hF rfl rfl rfl fun a hF => guard_off hF rfl rfl hbv_15 rfl fun a hF => guard_off hF rfl rfl hbv_15 rfl fun a hF => guard_offu hF rfl rfl rfl fun a hF => guard_offu hF rfl rfl rfl fun a hF => guard_offu hF rfl rfl rfl fun a hF => guard_offu hF rfl rfl rfl fun a hF => guard_offu hF rfl rfl rfl fun a hF => guard_offu hF rfl rfl rfl fun a hF => guard_offu hF rfl rfl rfl fun a hF => guard_offu hF rfl rfl rfl fun a hF => guard_offu hF rfl rfl rfl fun a hF => guard_offu hF rfl rfl rfl fun a hF => guard_offu hF rfl rfl rfl fun a hF => guard_offu hF rfl rfl rfl fun a hF => guard_offu hF rfl rfl rfl fun a hF => guard_offu hF rfl rfl rfl fun a hF => guard_offu hF rfl rfl rfl fun a hF => guard_offu hF rfl rfl rfl fun a hF => guard_offu hF rfl rfl rfl fun a hF => guard_offu hF rfl rfl rfl fun a hF => guard_off hF rfl rfl hbv_15 rfl fun a hF => step hF (Y.pick_t hF rfl hbv_15 rfl) rfl fun a hF => nil (then_n ⟨hF.weak ⟨rfl, rfl, rfl, rfl, rfl, rfl, (by rw [hbv_15]; rfl), trivial⟩, hS.weak ⟨rfl, rfl, trivial⟩⟩)
   refine guard_on hF rfl rfl hbv_15 (step hF (Y.move hF rfl) rfl fun a hF => guard_on hF rfl rfl hbv_15 (step hF (Y.not hF rfl) rfl fun a hF => guard_on hF rfl rfl hbv_15 (step hF (Y.move hF rfl) rfl fun a hF => join (N := 159) (rs := []) (w0 := w0) (D0 := D0) 3 (us := [(2, .pointer (some ⟨b, 0, none⟩)), (4, .bool v4_0), (6, .slice p_2 rv_3.1.length c_2), (7, .slice p_3 rv_3.2.1.length c_3), (9, .pointer (some ⟨b_1, 0, none⟩)), (10, .int .i64 k), (11, .slice p_9 rv_6.1.length c_9), (12, .int .i64 rv_6.2), (13, .slice p_10 rv_7.1.length c_10), (14, .int .i64 rv_7.2), (130, .bool (((((decide (rv_8 ≥ 0)) && (decide (rv_9 ≥ 0))) || (((decide (rv_8 ≥ 0)) || (decide (rv_9 ≥ 0))) && (rv_6.2 != 0))) || ((decide (rv_8 ≥ 0)) && (rv_7.2 == 0))) || ((decide (rv_9 ≥ 0)) && ((rv_7.2 != 0) || (decide ((rv_7.1.length : Int) ≥ (rv_6.1.length : Int))))))), (136, .bool ((!(decide (rv_8 ≥ 0))) && (!(decide (rv_9 ≥ 0)))))]) (ms := [(1, .cells b [.int .i64 n.Exchanges, .slice p n.Lines.length c, .int .i64 n.Hops, .slice p_1 n.Loops.length c_1] 25), (2, .cells b_1 [.int .i64 n.Exchanges, .slice p_8 ((([] : List LineLine) ++ (n.Lines.take (Int.toNat rv_2))) ++ (n.Lines.drop (Int.toNat (wr (rv_2 + 1))))).length c_8, .int .i64 n.Hops, .slice p_1 n.Loops.length c_1] 25)]) (D' := Dv_4) ?_ ?_)))
   ·rcases bcases (!(decide (rv_8 ≥ 0))) with hbv_16 | hbv_16
    ·skip
     refine guard_on hF rfl rfl hbv_16 (step hF (Y.move hF rfl) rfl fun a hF => guard_on hF rfl rfl hbv_16 (step hF (Y.not hF rfl) rfl fun a hF => guard_on hF rfl rfl hbv_15 (step hF (Y.pick_t hF rfl hbv_16 rfl) rfl fun a hF => nil (then_n ⟨hF.weak ⟨rfl, rfl, rfl, rfl, rfl, rfl, rfl, rfl, rfl, rfl, rfl, (by rw [hbv_16]; rfl), trivial⟩, hS.weak ⟨rfl, rfl, trivial⟩⟩))))
    refine guard_off hF rfl rfl hbv_16 rfl fun a hF => guard_off hF rfl rfl hbv_16 rfl fun a hF => guard_on hF rfl rfl hbv_15 (step hF (Y.pick_f hF rfl hbv_16 rfl) rfl fun a hF => nil (then_n ⟨hF.weak ⟨rfl, rfl, rfl, rfl, rfl, rfl, rfl, rfl, rfl, rfl, rfl, (by rw [hbv_16]; rfl), trivial⟩, hS.weak ⟨rfl, rfl, trivial⟩⟩))
   intro a w hF hS
   refine guard_on hF rfl rfl hbv_15 (step hF (Y.move hF rfl) rfl fun a hF => join (N := 159) (rs := []) (w0 := w0) (D0 := D0) 19 (us := [(2, .pointer (some ⟨b, 0, none⟩)), (4, .bool v4_0), (6, .slice p_2 rv_3.1.length c_2), (7, .slice p_3 rv_3.2.1.length c_3), (9, .pointer (some ⟨b_1, 0, none⟩)), (10, .int .i64 k), (130, .bool (((((decide (rv_8 ≥ 0)) && (decide (rv_9 ≥ 0))) || (((decide (rv_8 ≥ 0)) || (decide (rv_9 ≥ 0))) && (rv_6.2 != 0))) || ((decide (rv_8 ≥ 0)) && (rv_7.2 == 0))) || ((decide (rv_9 ≥ 0)) && ((rv_7.2 != 0) || (decide ((rv_7.1.length : Int) ≥ (rv_6.1.length : Int))))))), (156, .bool (((!(decide (rv_8 ≥ 0))) && (!(decide (rv_9 ≥ 0)))) && (((rv_7.2 != rv_6.2) && ((rv_6.2 != 62) || (rv_7.2 != 4))) || ((rv_7.1.length : Int) != (rv_6.1.length : Int)))))]) (ms := [(1, .cells b [.int .i64 n.Exchanges, .slice p n.Lines.length c, .int .i64 n.Hops, .slice p_1 n.Loops.length c_1] 25), (2, .cells b_1 [.int .i64 n.Exchanges, .slice p_8 ((([] : List LineLine) ++ (n.Lines.take (Int.toNat rv_2))) ++ (n.Lines.drop (Int.toNat (wr (rv_2 + 1))))).length c_8, .int .i64 n.Hops, .slice p_1 n.Loops.length c_1] 25)]) (D' := Dv_4) ?_ ?_)
   ·rcases bcases ((!(decide (rv_8 ≥ 0))) && (!(decide (rv_9 ≥ 0)))) with hbv_17 | hbv_17
    ·skip
     refine guard_on hF rfl rfl hbv_17 (step hF (Y.move hF rfl) rfl fun a hF => guard_on hF rfl rfl hbv_17 (step hF (Y.move hF rfl) rfl fun a hF => guard_on hF rfl rfl hbv_17 (step hF (Y.neq hF rfl rfl) rfl fun a hF => guard_on hF rfl rfl hbv_17 (step hF (Y.move hF rfl) rfl fun a hF => join (N := 159) (rs := []) (w0 := w0) (D0 := D0) 7 (us := [(2, .pointer (some ⟨b, 0, none⟩)), (4, .bool v4_0), (6, .slice p_2 rv_3.1.length c_2), (7, .slice p_3 rv_3.2.1.length c_3), (9, .pointer (some ⟨b_1, 0, none⟩)), (10, .int .i64 k), (11, .slice p_9 rv_6.1.length c_9), (13, .slice p_10 rv_7.1.length c_10), (130, .bool (((((decide (rv_8 ≥ 0)) && (decide (rv_9 ≥ 0))) || (((decide (rv_8 ≥ 0)) || (decide (rv_9 ≥ 0))) && (rv_6.2 != 0))) || ((decide (rv_8 ≥ 0)) && (rv_7.2 == 0))) || ((decide (rv_9 ≥ 0)) && ((rv_7.2 != 0) || (decide ((rv_7.1.length : Int) ≥ (rv_6.1.length : Int))))))), (137, .bool ((!(decide (rv_8 ≥ 0))) && (!(decide (rv_9 ≥ 0))))), (148, .bool ((rv_7.2 != rv_6.2) && ((rv_6.2 != 62) || (rv_7.2 != 4))))]) (ms := [(1, .cells b [.int .i64 n.Exchanges, .slice p n.Lines.length c, .int .i64 n.Hops, .slice p_1 n.Loops.length c_1] 25), (2, .cells b_1 [.int .i64 n.Exchanges, .slice p_8 ((([] : List LineLine) ++ (n.Lines.take (Int.toNat rv_2))) ++ (n.Lines.drop (Int.toNat (wr (rv_2 + 1))))).length c_8, .int .i64 n.Hops, .slice p_1 n.Loops.length c_1] 25)]) (D' := Dv_4) ?_ ?_))))
     ·rcases bcases (rv_7.2 != rv_6.2) with hbv_18 | hbv_18
      ·skip
       refine guard_on hF rfl rfl hbv_18 (step hF (Y.move hF rfl) rfl fun a hF => guard_on hF rfl rfl hbv_18 (step hF (Y.neq hF rfl rfl) rfl fun a hF => guard_on hF rfl rfl hbv_18 (step hF (Y.move hF rfl) rfl fun a hF => join (N := 159) (rs := []) (w0 := w0) (D0 := D0) 3 (us := [(2, .pointer (some ⟨b, 0, none⟩)), (4, .bool v4_0), (6, .slice p_2 rv_3.1.length c_2), (7, .slice p_3 rv_3.2.1.length c_3), (9, .pointer (some ⟨b_1, 0, none⟩)), (10, .int .i64 k), (11, .slice p_9 rv_6.1.length c_9), (13, .slice p_10 rv_7.1.length c_10), (130, .bool (((((decide (rv_8 ≥ 0)) && (decide (rv_9 ≥ 0))) || (((decide (rv_8 ≥ 0)) || (decide (rv_9 ≥ 0))) && (rv_6.2 != 0))) || ((decide (rv_8 ≥ 0)) && (rv_7.2 == 0))) || ((decide (rv_9 ≥ 0)) && ((rv_7.2 != 0) || (decide ((rv_7.1.length : Int) ≥ (rv_6.1.length : Int))))))), (137, .bool ((!(decide (rv_8 ≥ 0))) && (!(decide (rv_9 ≥ 0))))), (141, .bool (rv_7.2 != rv_6.2)), (147, .bool ((rv_6.2 != 62) || (rv_7.2 != 4)))]) (ms := [(1, .cells b [.int .i64 n.Exchanges, .slice p n.Lines.length c, .int .i64 n.Hops, .slice p_1 n.Loops.length c_1] 25), (2, .cells b_1 [.int .i64 n.Exchanges, .slice p_8 ((([] : List LineLine) ++ (n.Lines.take (Int.toNat rv_2))) ++ (n.Lines.drop (Int.toNat (wr (rv_2 + 1))))).length c_8, .int .i64 n.Hops, .slice p_1 n.Loops.length c_1] 25)]) (D' := Dv_4) ?_ ?_)))
       ·rcases bcases (rv_6.2 != 62) with hbv_19 | hbv_19
        ·skip
         refine guard_off hF rfl rfl hbv_19 rfl fun a hF => guard_off hF rfl rfl hbv_19 rfl fun a hF => guard_on hF rfl rfl hbv_18 (step hF (Y.pick_t hF rfl hbv_19 rfl) rfl fun a hF => nil (then_n ⟨hF.weak ⟨rfl, rfl, rfl, rfl, rfl, rfl, rfl, rfl, rfl, rfl, rfl, (by rw [hbv_19]; rfl), trivial⟩, hS.weak ⟨rfl, rfl, trivial⟩⟩))
        refine guard_on hF rfl rfl hbv_19 (step hF (Y.move hF rfl) rfl fun a hF => guard_on hF rfl rfl hbv_19 (step hF (Y.neq hF rfl rfl) rfl fun a hF => guard_on hF rfl rfl hbv_18 (step hF (Y.pick_f hF rfl hbv_19 rfl) rfl fun a hF => nil (then_n ⟨hF.weak ⟨rfl, rfl, rfl, rfl, rfl, rfl, rfl, rfl, rfl, rfl, rfl, (by rw [hbv_19]; rfl), trivial⟩, hS.weak ⟨rfl, rfl, trivial⟩⟩))))
       intro a w hF hS
       refine guard_on hF rfl rfl hbv_17 (step hF (Y.pick_t hF rfl hbv_18 rfl) rfl fun a hF => nil (then_n ⟨hF.weak ⟨rfl, rfl, rfl, rfl, rfl, rfl, rfl, rfl, rfl, rfl, (by rw [hbv_18]; rfl), trivial⟩, hS.weak ⟨rfl, rfl, trivial⟩⟩))
      refine guard_off hF rfl rfl hbv_18 rfl fun a hF => guard_off hF rfl rfl hbv_18 rfl fun a hF => guard_off hF rfl rfl hbv_18 rfl fun a hF => guard_offu hF rfl rfl rfl fun a hF => guard_offu hF rfl rfl rfl fun a hF => guard_off hF rfl rfl hbv_18 rfl fun a hF => guard_on hF rfl rfl hbv_17 (step hF (Y.pick_f hF rfl hbv_18 rfl) rfl fun a hF => nil (then_n ⟨hF.weak ⟨rfl, rfl, rfl, rfl, rfl, rfl, rfl, rfl, rfl, rfl, (by rw [hbv_18]; rfl), trivial⟩, hS.weak ⟨rfl, rfl, trivial⟩⟩))
     intro a w hF hS
     refine guard_on hF rfl rfl hbv_17 (step hF (Y.move hF rfl) rfl fun a hF => join (N := 159) (rs := []) (w0 := w0) (D0 := D0) 6 (us := [(2, .pointer (some ⟨b, 0, none⟩)), (4, .bool v4_0), (6, .slice p_2 rv_3.1.length c_2), (7, .slice p_3 rv_3.2.1.length c_3), (9, .pointer (some ⟨b_1, 0, none⟩)), (10, .int .i64 k), (130, .bool (((((decide (rv_8 ≥ 0)) && (decide (rv_9 ≥ 0))) || (((decide (rv_8 ≥ 0)) || (decide (rv_9 ≥ 0))) && (rv_6.2 != 0))) || ((decide (rv_8 ≥ 0)) && (rv_7.2 == 0))) || ((decide (rv_9 ≥ 0)) && ((rv_7.2 != 0) || (decide ((rv_7.1.length : Int) ≥ (rv_6.1.length : Int))))))), (137, .bool ((!(decide (rv_8 ≥ 0))) && (!(decide (rv_9 ≥ 0))))), (155, .bool (((rv_7.2 != rv_6.2) && ((rv_6.2 != 62) || (rv_7.2 != 4))) || ((rv_7.1.length : Int) != (rv_6.1.length : Int))))]) (ms := [(1, .cells b [.int .i64 n.Exchanges, .slice p n.Lines.length c, .int .i64 n.Hops, .slice p_1 n.Loops.length c_1] 25), (2, .cells b_1 [.int .i64 n.Exchanges, .slice p_8 ((([] : List LineLine) ++ (n.Lines.take (Int.toNat rv_2))) ++ (n.Lines.drop (Int.toNat (wr (rv_2 + 1))))).length c_8, .int .i64 n.Hops, .slice p_1 n.Loops.length c_1] 25)]) (D' := Dv_4) ?_ ?_)
     ·rcases bcases ((rv_7.2 != rv_6.2) && ((rv_6.2 != 62) || (rv_7.2 != 4))) with hbv_20 | hbv_20
      ·skip
       refine guard_off hF rfl rfl hbv_20 rfl fun a hF => guard_off hF rfl rfl hbv_20 rfl fun a hF => guard_off hF rfl rfl hbv_20 rfl fun a hF => guard_off hF rfl rfl hbv_20 rfl fun a hF => guard_off hF rfl rfl hbv_20 rfl fun a hF => guard_on hF rfl rfl hbv_17 (step hF (Y.pick_t hF rfl hbv_20 rfl) rfl fun a hF => nil (then_n ⟨hF.weak ⟨rfl, rfl, rfl, rfl, rfl, rfl, rfl, rfl, (by rw [hbv_20]; rfl), trivial⟩, hS.weak ⟨rfl, rfl, trivial⟩⟩))
      refine guard_on hF rfl rfl hbv_20 (step hF (Y.move hF rfl) rfl fun a hF => guard_on hF rfl rfl hbv_20 (step hF (Y.lenSl u_26 hF rfl) rfl fun a hF => guard_on hF rfl rfl hbv_20 (step hF (Y.move hF rfl) rfl fun a hF => guard_on hF rfl rfl hbv_20 (step hF (Y.lenSl u_26 hF rfl) rfl fun a hF => guard_on hF rfl rfl hbv_20 (step hF (Y.neq hF rfl rfl) rfl fun a hF => guard_on hF rfl rfl hbv_17 (step hF (Y.pick_f hF rfl hbv_20 rfl) rfl fun a hF => nil (then_n ⟨hF.weak ⟨rfl, rfl, rfl, rfl, rfl, rfl, rfl, rfl, (by rw [hbv_20]; rfl), trivial⟩, hS.weak ⟨rfl, rfl, trivial⟩⟩)))))))
     intro a w hF hS
     refine guard_on hF rfl rfl hbv_15 (step hF (Y.pick_t hF rfl hbv_17 rfl) rfl fun a hF => nil (then_n ⟨hF.weak ⟨rfl, rfl, rfl, rfl, rfl, rfl, rfl, (by rw [hbv_17]; rfl), trivial⟩, hS.weak ⟨rfl, rfl, trivial⟩⟩))
    refine guard_off hF rfl rfl hbv_17 rfl fun a hF => guard_off hF rfl rfl hbv_17 rfl fun a hF => guard_off hF rfl rfl hbv_17 rfl fun a hF => guard_off hF rfl rfl hbv_17 rfl fun a hF => guard_offu hF rfl rfl rfl fun a hF => guard_offu hF rfl rfl rfl fun a hF => guard_offu hF rfl rfl rfl fun a hF => guard_offu hF rfl rfl rfl fun a hF => guard_offu hF rfl rfl rfl fun a hF => guard_offu hF rfl rfl rfl fun a hF => guard_off hF rfl rfl hbv_17 rfl fun a hF => guard_off hF rfl rfl hbv_17 rfl fun a hF => guard_offu hF rfl rfl rfl fun a hF => guard_offu hF rfl rfl rfl fun a hF => guard_offu hF rfl rfl rfl fun a hF => guard_offu hF rfl rfl rfl fun a hF => guard_offu hF rfl rfl rfl fun a hF => guard_off hF rfl rfl hbv_17 rfl fun a hF => guard_on hF rfl rfl hbv_15 (step hF (Y.pick_f hF rfl hbv_17 rfl) rfl fun a hF => nil (then_n ⟨hF.weak ⟨rfl, rfl, rfl, rfl, rfl, rfl, rfl, (by rw [hbv_17]; rfl), trivial⟩, hS.weak ⟨rfl, rfl, trivial⟩⟩))
   intro a w hF hS
   refine step hF (Y.pick_f hF rfl hbv_15 rfl) rfl fun a hF => nil (then_n ⟨hF.weak ⟨rfl, rfl, rfl, rfl, rfl, rfl, (by rw [hbv_15]; rfl), trivial⟩, hS.weak ⟨rfl, rfl, trivial⟩⟩)
  intro a w hF hS
  refine nil (then_n (cond_b hF rfl (fun hbv_21 => ?_) (fun hbv_21 => ?_)))
  ·replace h := cond_t h hbv_21
   refine seq (region (step hF (Y.assign hF rfl) rfl fun a hF => nil (then_n (ret_ (blk_r (then_r (then_r (blk_r (then_r ?_)))))))))
   replace h := ext_some h hxo
   obtain rfl := some_inj h
   exact leaveP Tryd.results11 hF hS (.cons (.tmp rfl) .nil) .nil rfl
  replace h := cond_f h hbv_21
  refine skip_ (blk_n (then_n (region (step hF (Y.move hF rfl) rfl fun a hF => step hF (Y.add hF rfl rfl) rfl fun a hF => step hF (Y.assign hF rfl) rfl fun a hF => nil (then_n (⟨_, nxt_some h, v4_0, (wr (k + 1)), Dv_4, rfl, hlev_2.trans (hlev_3.trans hlev_4), hF.weak ⟨rfl, rfl, rfl, rfl, rfl, rfl, trivial⟩, hS.weak ⟨rfl, rfl, trivial⟩⟩))))))
 replace h := cond_f h hbv_5
 refine exit_ (then_x (then_x (blk_hit (then_n ?_))))
 replace h := ext_some h hxo
 refine seq (region ?_)
 obtain ⟨rv_10, hx_10, h⟩ := bind_some h
 refine O.callP (us := []) ca_23 hF hS (remontoirlaw06_works_ok hS.stab hG rv_10 hx_10) rfl rfl fun a w hF hS => step hF (Y.assign hF rfl) rfl fun a hF => nil (then_n (ret_ ?_))
 obtain rfl := some_inj h
 exact leaveP Tryd.results11 hF hS (.cons (.tmp rfl) .nil) .nil rfl
end Go.Proofs.YthdbokigcfbgeaaDoor.Rt
