/- Walks of the functions of this seat: what each Go function comes to, as a Lean function, and the proof. Part WN1. Under no conditions. -/
import Derived.Test.YtpniidbbbhbglaaDoorWSZ
set_option linter.unusedVariables false
set_option linter.unusedSimpArgs false
set_option maxRecDepth 100000
set_option maxHeartbeats 4000000
namespace Go.Proofs.YtpniidbbbhbglaaDoor.Rt
open Go Go.RowKit
noncomputable def remontoirlaw02_went_b4 (bits : (List Int)) (l : (List BeatOpen)) (k : Int) (row : (List Int)) (hv : Int) : (Int × Int) → Option ((Int × Int) ⊕ ((Int × (List Int) × Int) ⊕ (((List (List Int)) × Int) ⊕ ((List (List Int)) × BeatCellar))))
 | (now_1, i_1) =>
  cond (decide (i_1 < (l.length : Int)))
  ((idx l i_1).bind fun e_2 =>
  (cond (e_2.Clock == k) ((idx l i_1).bind fun e_3 =>
  some (e_3.Hour == hv)) (some false)).bind fun t =>
  cond t
  ((idx l i_1).bind fun e_4 =>
  (remontoirref00_At bits (wr ((wr (i_1 + hv)) + 2))).bind fun rv_6 =>
  (remontoirref00_From e_4.Step rv_6).bind fun rv_7 =>
  nxt (wr (now_1 + rv_7), wr (i_1 + 1)))
  (nxt (now_1, wr (i_1 + 1))))
  (ext (if row.length + ([now_1]).length ≤ lim then
  nxt (now_1, (row ++ [now_1]), wr (hv + 1))
  else none))
noncomputable def remontoirlaw02_went_b3 (c : BeatCellar) (bits : (List Int)) (l : (List BeatOpen)) (outv : (List (List Int))) (k : Int) : (Int × (List Int) × Int) → Option ((Int × (List Int) × Int) ⊕ (((List (List Int)) × Int) ⊕ ((List (List Int)) × BeatCellar)))
 | (now, row, hv) =>
  cond (decide (hv < c.Hours))
  ((idx c.Rates k).bind fun e_1 =>
  (remontoirref00_At bits (wr ((wr (k + (wr (2 * hv)))) + 1))).bind fun rv_4 =>
  (remontoirref00_From e_1 rv_4).bind fun rv_5 =>
  loopU (remontoirlaw02_went_b4 bits l k row hv) (wr (now + rv_5), 0))
  (ext (if outv.length + ([row]).length ≤ lim then
  nxt ((outv ++ [row]), wr (k + 1))
  else none))
noncomputable def remontoirlaw02_went_k6 (bits : (List Int)) (i_2 : Int) (l_1 : (List BeatPair)) (e_5 : BeatPair) (n : Int) : Option ((Int × (List BeatPair)) ⊕ ((List (List Int)) × BeatCellar)) :=
  (remontoirref00_At bits (wr (i_2 + 3))).bind fun rv_8 =>
  (remontoirref00_Rest rv_8 (wr ((if 200 < wr (e_5.Read.High - e_5.Read.Low) then 200 else wr (e_5.Read.High - e_5.Read.Low)) + 1))).bind fun rv_9 =>
  (remontoirref00_To (wr (n - rv_9)) (wr ((wr (n - rv_9)) + (if 200 < wr (e_5.Read.High - e_5.Read.Low) then 200 else wr (e_5.Read.High - e_5.Read.Low))))).bind fun rv_10 =>
  if l_1.length + ([(BeatPair.mk e_5.Hour e_5.One e_5.Other rv_10)]).length ≤ lim then
  nxt (wr (i_2 + 1), (l_1 ++ [(BeatPair.mk e_5.Hour e_5.One e_5.Other rv_10)]))
  else none
noncomputable def remontoirlaw02_went_b5 (c : BeatCellar) (bits : (List Int)) (l : (List BeatOpen)) (outv : (List (List Int))) : (Int × (List BeatPair)) → Option ((Int × (List BeatPair)) ⊕ ((List (List Int)) × BeatCellar))
 | (i_2, l_1) =>
  cond (decide (i_2 < (c.Pairs.length : Int)))
  ((idx c.Pairs i_2).bind fun e_5 =>
  (idx outv e_5.One).bind fun e_6 =>
  (idx e_6 e_5.Hour).bind fun e_7 =>
  cond (decide (e_5.Other ≥ 0))
  ((idx outv e_5.Other).bind fun e_8 =>
  (idx e_8 e_5.Hour).bind fun e_9 =>
  remontoirlaw02_went_k6 bits i_2 l_1 e_5 (wr (e_7 - e_9)))
  (remontoirlaw02_went_k6 bits i_2 l_1 e_5 e_7))
  (ext (some (outv, (BeatCellar.mk c.Hours c.Rates l l_1))))
noncomputable def remontoirlaw02_went_b2 (c : BeatCellar) (bits : (List Int)) (l : (List BeatOpen)) : ((List (List Int)) × Int) → Option (((List (List Int)) × Int) ⊕ ((List (List Int)) × BeatCellar))
 | (outv, k) =>
  cond (decide (k < (c.Rates.length : Int)))
  ((remontoirref00_To (-1000) 1000).bind fun rv_1 =>
  (remontoirref00_At bits k).bind fun rv_2 =>
  (remontoirref00_From rv_1 rv_2).bind fun rv_3 =>
  loopU (remontoirlaw02_went_b3 c bits l outv k) (rv_3, [rv_3], 0))
  (ext (loopU (remontoirlaw02_went_b5 c bits l outv) (0, ([] : List BeatPair))))
noncomputable def remontoirlaw02_went_b1 (c : BeatCellar) (bits : (List Int)) : (Int × (List BeatOpen)) → Option ((Int × (List BeatOpen)) ⊕ ((List (List Int)) × BeatCellar))
 | (i, l) =>
  cond (decide (i < (c.Opens.length : Int)))
  ((idx c.Opens i).bind fun e =>
  (remontoirref00_To (if (if e.Step.Low < 500 then e.Step.Low else 500) > -500 then (if e.Step.Low < 500 then e.Step.Low else 500) else -500) (if (if e.Step.High < 500 then e.Step.High else 500) > -500 then (if e.Step.High < 500 then e.Step.High else 500) else -500)).bind fun rv =>
  if l.length + ([(BeatOpen.mk e.Clock e.Hour rv)]).length ≤ lim then
  nxt (wr (i + 1), (l ++ [(BeatOpen.mk e.Clock e.Hour rv)]))
  else none)
  (ext (loopU (remontoirlaw02_went_b2 c bits l) (([] : List (List Int)), 0)))
noncomputable def remontoirlaw02_went (c : BeatCellar) (bits : (List Int)) : Option ((List (List Int)) × BeatCellar) :=
  loopU (remontoirlaw02_went_b1 c bits) (0, ([] : List BeatOpen))
theorem remontoirlaw02_went_ok {w0 : World} {D0 : Stab} (hD : D0.on w0) (c : BeatCellar) (bits : (List Int)) {p : Option Addr} {c_1 : Nat} {p_1 : Option Addr} {c_2 : Nat} {p_2 : Option Addr} {c_3 : Nat} {p_3 : Option Addr} {c_4 : Nat} (hs : SRc C_Span D0 c.Rates p c_1) (hs_1 : SRc C_BeatOpen D0 c.Opens p_1 c_2) (hs_2 : SRc C_BeatPair D0 c.Pairs p_2 c_3) (hs_3 : SRc C_int D0 bits p_3 c_4) (out : ((List (List Int)) × BeatCellar)) (h : remontoirlaw02_went c bits = some out) : Calls Tryd.prog 33 [.agg #[.int .i64 c.Hours, .slice p c.Rates.length c_1, .slice p_1 c.Opens.length c_2, .slice p_2 c.Pairs.length c_3], .slice p_3 bits.length c_4].toArray w0 (RetS D0 w0 fun D v => ∃ p_19 c_20 p_20 c_21 p_21 c_22 p_22 c_23, v = .tuple #[.slice p_19 out.1.length c_20, .agg #[.int .i64 out.2.Hours, .slice p_20 out.2.Rates.length c_21, .slice p_21 out.2.Opens.length c_22, .slice p_22 out.2.Pairs.length c_23]] ∧ SRc (C_sl C_int) D out.1 p_19 c_20 ∧ SRc C_Span D out.2.Rates p_20 c_21 ∧ SRc C_BeatOpen D out.2.Opens p_21 c_22 ∧ SRc C_BeatPair D out.2.Pairs p_22 c_23) := by
 refine enter _ 202 Tryd.func33 rfl Tryd.ntmps33 rfl fun a hF => ?_
 replace hF : Frm 202 [] [(0, .agg #[.int .i64 c.Hours, .slice p c.Rates.length c_1, .slice p_1 c.Opens.length c_2, .slice p_2 c.Pairs.length c_3]), (1, .slice p_3 bits.length c_4)] a := hF
 have hS := St.start hD
 unfold remontoirlaw02_went at h
 refine seq ?_
 refine region ?_
 refine O.box (cs := [.int .i64 c.Hours, .slice p c.Rates.length c_1, .slice p_1 c.Opens.length c_2, .slice p_2 c.Pairs.length c_3]) 1 hF rfl rfl hS rfl fun b a w hF hS => ?_
 refine step hF (Y.assign hF rfl) rfl fun a hF => ?_
 refine O.alloc 2 zc_26 hF hS rfl fun b_1 a w hF hS => ?_
 refine nil (then_n ?_)
 refine seq ?_
 refine region ?_
 refine step hF (Y.loadNL 1 sz_26 hF rfl hS rfl rfl rfl) rfl fun a hF => ?_
 refine O.alloc 3 zc_26 hF hS rfl fun b_2 a w hF hS => ?_
 replace hS := hS.ownNil 4 63 4
 replace hS := hS.ownNil 5 61 5
 refine O.store (us := [.int .i64 c.Hours, .slice p c.Rates.length c_1, .slice p_1 c.Opens.length c_2, .slice p_2 c.Pairs.length c_3]) 3 sz_26 hF rfl rfl rfl rfl hS rfl rfl fun a w hF hS => ?_
 refine nil (then_n ?_)
 refine seq ?_
 refine region ?_
 refine step hF (Y.fieldAddr fo_26_2 hF rfl) rfl fun a hF => ?_
 refine O.store (us := [.slice none 0 0]) 3 sz_23 hF rfl rfl rfl rfl hS rfl rfl fun a w hF hS => ?_
 replace hS := hS.ownNil 6 63 4
 refine step hF (Y.fieldAddr fo_26_3 hF rfl) rfl fun a hF => ?_
 refine O.store (us := [.slice none 0 0]) 3 sz_24 hF rfl rfl rfl rfl hS rfl rfl fun a w hF hS => ?_
 replace hS := hS.ownNil 7 61 5
 refine nil (then_n ?_)
 refine seq ?_
 refine seq ?_
 refine region ?_
 refine step hF (Y.assign hF rfl) rfl fun a hF => ?_
 refine nil (then_n ?_)
 refine block ?_
 refine loop_cut (body := remontoirlaw02_went_b1 c bits) (out := out) (fun s a w => ∃ (i : Int) (l : (List BeatOpen)), ∃ p_4 c_5 cs, s = (i, l) ∧ Frm 202 [] [(1, .slice p_3 bits.length c_4), (2, .pointer (some ⟨b, 0, none⟩)), (4, .slice none 0 0), (5, .pointer (some ⟨b_1, 0, none⟩)), (6, .pointer (some ⟨b_2, 0, none⟩)), (7, .int .i64 i)] a ∧ St w0 D0 D0 [(1, .cells b [.int .i64 c.Hours, .slice p c.Rates.length c_1, .slice p_1 c.Opens.length c_2, .slice p_2 c.Pairs.length c_3] 26), (2, .cells b_1 [.int .i64 0, .slice none 0 0, .slice none 0 0, .slice none 0 0] 26), (3, .cells b_2 [.int .i64 c.Hours, .slice p c.Rates.length c_1, .slice p_4 l.length c_5, .slice none ([] : List BeatPair).length 0] 26), (4, .own none ([] : List BeatOpen).length 0 ([]) 63 4), (5, .own none ([] : List BeatPair).length 0 ([]) 61 5), (6, .own p_4 l.length c_5 cs 63 4), (7, .own none ([] : List BeatPair).length 0 ([]) 61 5)] w ∧ Reps C_BeatOpen D0 l cs) (0, ([] : List BeatOpen)) h ⟨0, ([] : List BeatOpen), none, 0, ([]), rfl, hF.weak ⟨rfl, rfl, rfl, rfl, rfl, rfl, trivial⟩, hS.weak ⟨rfl, rfl, rfl, rfl, rfl, rfl, rfl, trivial⟩, Reps.nil⟩ ?_
 rintro s a w xo ⟨i, l, p_4, c_5, cs, rfl, hF, hS, hr⟩ h hxo
 unfold remontoirlaw02_went_b1 at h
 dsimp only at h
 refine seq ?_
 refine seq ?_
 refine region ?_
 refine step hF (Y.move hF rfl) rfl fun a hF => ?_
 refine step hF (Y.fieldAddr fo_26_2 hF rfl) rfl fun a hF => ?_
 refine step hF (Y.load1L 1 sz_23 hF rfl hS rfl rfl) rfl fun a hF => ?_
 refine step hF (Y.lenSl u_23 hF rfl) rfl fun a hF => ?_
 refine step hF (Y.lss hF rfl rfl) rfl fun a hF => ?_
 refine nil (then_n ?_)
 refine cond_b hF rfl (fun hbv => ?_) (fun hbv => ?_)
 ·replace h := cond_t h hbv
  refine skip_ (then_n ?_)
  refine seq ?_
  refine block ?_
  refine seq ?_
  refine region ?_
  refine step hF (Y.fieldAddr fo_26_2 hF rfl) rfl fun a hF => ?_
  refine step hF (Y.load1L 1 sz_23 hF rfl hS rfl rfl) rfl fun a hF => ?_
  refine step hF (Y.move hF rfl) rfl fun a hF => ?_
  obtain ⟨e, hx, h⟩ := bind_some h
  obtain ⟨b_3, o, hE, hY⟩ := Y.indexS (P := Tryd.prog) (C := C_BeatOpen) (xs := c.Opens) (T := 23) (x := (.tmp 31)) (y := (.tmp 32)) u_23 sz_63 hF rfl rfl (hs_1).1 hx
  obtain ⟨cc, hc, hcell⟩ := hE.open
  obtain rfl := C_BeatOpen.open hc
  refine step hF (hY) rfl fun a hF => ?_
  refine step hF (Y.loadNE (o := o) (k := 0) sz_63 hF rfl (hcell _ hS.stab) rfl rfl) rfl fun a hF => ?_
  refine O.alloc 8 zc_63 hF hS rfl fun b_4 a w hF hS => ?_
  refine O.store (us := [.int .i64 e.Clock, .int .i64 e.Hour, .int .i64 e.Step.Low, .int .i64 e.Step.High]) 8 sz_63 hF rfl rfl rfl rfl hS rfl rfl fun a w hF hS => ?_
  refine nil (then_n ?_)
  refine seq ?_
  refine region ?_
  refine step hF (Y.fieldAddr fo_63_2 hF rfl) rfl fun a hF => ?_
  refine step hF (Y.fieldAddr fo_34_0 hF rfl) rfl fun a hF => ?_
  refine step hF (Y.load1L 8 sz_3 hF rfl hS rfl rfl) rfl fun a hF => ?_
  refine step hF (Y.min2 hF rfl rfl) rfl fun a hF => ?_
  refine step hF (Y.max2 hF rfl rfl) rfl fun a hF => ?_
  refine step hF (Y.fieldAddr fo_63_2 hF rfl) rfl fun a hF => ?_
  refine step hF (Y.fieldAddr fo_34_1 hF rfl) rfl fun a hF => ?_
  refine step hF (Y.load1L 8 sz_3 hF rfl hS rfl rfl) rfl fun a hF => ?_
  refine step hF (Y.min2 hF rfl rfl) rfl fun a hF => ?_
  refine step hF (Y.max2 hF rfl rfl) rfl fun a hF => ?_
  obtain ⟨rv, hx_1, h⟩ := bind_some h
  refine O.callP (us := [.int .i64 (if (if e.Step.Low < 500 then e.Step.Low else 500) > -500 then (if e.Step.Low < 500 then e.Step.Low else 500) else -500), .int .i64 (if (if e.Step.High < 500 then e.Step.High else 500) > -500 then (if e.Step.High < 500 then e.Step.High else 500) else -500)]) ca_37 hF hS (remontoirref00_To_ok hS.stab (if (if e.Step.Low < 500 then e.Step.Low else 500) > -500 then (if e.Step.Low < 500 then e.Step.Low else 500) else -500) (if (if e.Step.High < 500 then e.Step.High else 500) > -500 then (if e.Step.High < 500 then e.Step.High else 500) else -500) rv hx_1) rfl rfl fun a w hF hS => ?_
  refine step hF (Y.fieldAddr fo_63_2 hF rfl) rfl fun a hF => ?_
  refine O.store (us := [.int .i64 rv.Low, .int .i64 rv.High]) 8 sz_34 hF rfl rfl rfl rfl hS rfl rfl fun a w hF hS => ?_
  refine nil (then_n ?_)
  refine region ?_
  refine step hF (Y.fieldAddr fo_26_2 hF rfl) rfl fun a hF => ?_
  refine step hF (Y.load1L 3 sz_23 hF rfl hS rfl rfl) rfl fun a hF => ?_
  refine step hF (Y.loadNL 8 sz_63 hF rfl hS rfl rfl rfl) rfl fun a hF => ?_
  have hr_1 : Reps C_BeatOpen D0 [(BeatOpen.mk e.Clock e.Hour rv)] [.int .i64 e.Clock, .int .i64 e.Hour, .int .i64 rv.Low, .int .i64 rv.High] := Reps.cons (C := C_BeatOpen) (x := (BeatOpen.mk e.Clock e.Hour rv)) (c := [.int .i64 e.Clock, .int .i64 e.Hour, .int .i64 rv.Low, .int .i64 rv.High]) (r := []) rfl (Reps.nil)
  refine O.buildSlice (E := 63) (C := C_BeatOpen) (xs := [(BeatOpen.mk e.Clock e.Hour rv)]) (cs := [.int .i64 e.Clock, .int .i64 e.Hour, .int .i64 rv.Low, .int .i64 rv.High]) (us := [.agg #[.int .i64 e.Clock, .int .i64 e.Hour, .int .i64 rv.Low, .int .i64 rv.High]]) (parts := [(0, (.tmp 49))]) 9 hF hS rfl (by kernel_rfl) hr_1 rfl rfl rfl fun p_5 c_6 a w hF hS => ?_
  obtain ⟨hg, h⟩ := ite_some h
  refine O.append (C := C_BeatOpen) (xs := l) (ys := [(BeatOpen.mk e.Clock e.Hour rv)]) 6 gr_23 hF rfl rfl hS rfl (src_own (i := 9) hS rfl) hr hr_1 hg rfl fun p_6 c_7 a w hF hS hr_2 => ?_
  refine step hF (Y.fieldAddr fo_26_2 hF rfl) rfl fun a hF => ?_
  refine O.store (us := [.slice p_6 (l ++ [(BeatOpen.mk e.Clock e.Hour rv)]).length c_7]) 3 sz_23 hF rfl rfl rfl rfl hS rfl rfl fun a w hF hS => ?_
  refine nil (blk_n (then_n ?_))
  refine region ?_
  refine step hF (Y.move hF rfl) rfl fun a hF => ?_
  refine step hF (Y.add hF rfl rfl) rfl fun a hF => ?_
  refine step hF (Y.assign hF rfl) rfl fun a hF => ?_
  refine nil (then_n ?_)
  exact ⟨_, nxt_some h, (wr (i + 1)), (l ++ [(BeatOpen.mk e.Clock e.Hour rv)]), p_6, c_7, (cs ++ [.int .i64 e.Clock, .int .i64 e.Hour, .int .i64 rv.Low, .int .i64 rv.High]), rfl, hF.weak ⟨rfl, rfl, rfl, rfl, rfl, rfl, trivial⟩, hS.weak ⟨rfl, rfl, rfl, rfl, rfl, rfl, rfl, trivial⟩, hr_2⟩
 ·replace h := cond_f h hbv
  refine exit_ (then_x (then_x (blk_hit (then_n ?_))))
  replace h := ext_some h hxo
  refine seq ?_
  refine region ?_
  refine step hF (Y.assign hF rfl) rfl fun a hF => ?_
  replace hS := hS.ownNil 10 44 1
  refine nil (then_n ?_)
  refine seq ?_
  refine seq ?_
  refine region ?_
  refine step hF (Y.assign hF rfl) rfl fun a hF => ?_
  refine nil (then_n ?_)
  refine block ?_
  obtain ⟨Dv, hlev, hs_4, hS⟩ := hS.freezeC (i := 6) (xs := l) rfl hr
  replace hs := hs.mono hlev
  replace hs_1 := hs_1.mono hlev
  replace hs_2 := hs_2.mono hlev
  replace hs_3 := hs_3.mono hlev
  replace hr := hr.mono hlev
  refine loop_cut (body := remontoirlaw02_went_b2 c bits l) (out := out) (fun s a w => ∃ (outv : (List (List Int))) (k : Int), ∃ (Dv_1 : Stab), ∃ p_7 c_8 cs_1, s = (outv, k) ∧ Dv.le Dv_1 ∧ Frm 202 [] [(1, .slice p_3 bits.length c_4), (2, .pointer (some ⟨b, 0, none⟩)), (4, .slice none 0 0), (5, .pointer (some ⟨b_1, 0, none⟩)), (6, .pointer (some ⟨b_2, 0, none⟩)), (9, .slice p_7 outv.length c_8), (10, .int .i64 k)] a ∧ St w0 D0 Dv_1 [(1, .cells b [.int .i64 c.Hours, .slice p c.Rates.length c_1, .slice p_1 c.Opens.length c_2, .slice p_2 c.Pairs.length c_3] 26), (2, .cells b_1 [.int .i64 0, .slice none 0 0, .slice none 0 0, .slice none 0 0] 26), (3, .cells b_2 [.int .i64 c.Hours, .slice p c.Rates.length c_1, .slice p_4 l.length c_5, .slice none ([] : List BeatPair).length 0] 26), (4, .own none ([] : List BeatOpen).length 0 ([]) 63 4), (5, .own none ([] : List BeatPair).length 0 ([]) 61 5), (7, .own none ([] : List BeatPair).length 0 ([]) 61 5), (10, .own p_7 outv.length c_8 cs_1 44 1)] w ∧ Reps (C_sl C_int) Dv_1 outv cs_1) (([] : List (List Int)), 0) h ⟨([] : List (List Int)), 0, Dv, none, 0, ([]), rfl, Stab.le.refl _, hF.weak ⟨rfl, rfl, rfl, rfl, rfl, rfl, rfl, trivial⟩, hS.weak ⟨rfl, rfl, rfl, rfl, rfl, rfl, rfl, trivial⟩, Reps.nil⟩ ?_
  rintro s a w xo_1 ⟨outv, k, Dv_1, p_7, c_8, cs_1, rfl, hlev_1, hF, hS, hr_3⟩ h hxo_1
  unfold remontoirlaw02_went_b2 at h
  dsimp only at h
  replace hs := hs.mono hlev_1
  replace hs_1 := hs_1.mono hlev_1
  replace hs_2 := hs_2.mono hlev_1
  replace hs_3 := hs_3.mono hlev_1
  replace hr := hr.mono hlev_1
  replace hs_4 := hs_4.mono hlev_1
  refine seq ?_
  refine seq ?_
  refine region ?_
  refine step hF (Y.move hF rfl) rfl fun a hF => ?_
  refine step hF (Y.fieldAddr fo_26_1 hF rfl) rfl fun a hF => ?_
  refine step hF (Y.load1L 1 sz_22 hF rfl hS rfl rfl) rfl fun a hF => ?_
  refine step hF (Y.lenSl u_22 hF rfl) rfl fun a hF => ?_
  refine step hF (Y.lss hF rfl rfl) rfl fun a hF => ?_
  refine nil (then_n ?_)
  refine cond_b hF rfl (fun hbv_1 => ?_) (fun hbv_1 => ?_)
  ·replace h := cond_t h hbv_1
   refine skip_ (then_n ?_)
   refine seq ?_
   refine block ?_
   refine seq ?_
   refine region ?_
   obtain ⟨rv_1, hx_2, h⟩ := bind_some h
   refine O.callP (us := [.int .i64 (-1000), .int .i64 1000]) ca_37 hF hS (remontoirref00_To_ok hS.stab (-1000) 1000 rv_1 hx_2) rfl rfl fun a w hF hS => ?_
   refine step hF (Y.move hF rfl) rfl fun a hF => ?_
   refine step hF (Y.move hF rfl) rfl fun a hF => ?_
   obtain ⟨rv_2, hx_3, h⟩ := bind_some h
   refine O.callP (us := [.slice p_3 bits.length c_4, .int .i64 k]) ca_68 hF hS (remontoirref00_At_ok hS.stab bits k hs_3 rv_2 hx_3) rfl rfl fun a w hF hS => ?_
   obtain ⟨rv_3, hx_4, h⟩ := bind_some h
   refine O.callP (us := [.agg #[.int .i64 rv_1.Low, .int .i64 rv_1.High], .int .i64 rv_2]) ca_67 hF hS (remontoirref00_From_ok hS.stab rv_1 rv_2 rv_3 hx_4) rfl rfl fun a w hF hS => ?_
   refine step hF (Y.assign hF rfl) rfl fun a hF => ?_
   refine nil (then_n ?_)
   refine seq ?_
   refine region ?_
   refine step hF (Y.move hF rfl) rfl fun a hF => ?_
   have hr_4 : Reps C_int Dv_1 [rv_3] [.int .i64 rv_3] := Reps.cons (C := C_int) (x := rv_3) (c := [.int .i64 rv_3]) (r := []) rfl (Reps.nil)
   refine O.buildSlice (E := 3) (C := C_int) (xs := [rv_3]) (cs := [.int .i64 rv_3]) (us := [.int .i64 rv_3]) (parts := [(0, (.tmp 65))]) 11 hF hS rfl (by kernel_rfl) hr_4 rfl rfl rfl fun p_8 c_9 a w hF hS => ?_
   refine step hF (Y.assign hF rfl) rfl fun a hF => ?_
   refine nil (then_n ?_)
   refine seq ?_
   refine seq ?_
   refine region ?_
   refine step hF (Y.assign hF rfl) rfl fun a hF => ?_
   refine nil (then_n ?_)
   refine block ?_
   refine loop_cut (body := remontoirlaw02_went_b3 c bits l outv k) (out := xo_1) (fun s a w => ∃ (now : Int) (row : (List Int)) (hv : Int), ∃ (Dv_2 : Stab), ∃ p_9 c_10 cs_2, s = (now, row, hv) ∧ Dv_1.le Dv_2 ∧ Frm 202 [] [(1, .slice p_3 bits.length c_4), (2, .pointer (some ⟨b, 0, none⟩)), (4, .slice none 0 0), (5, .pointer (some ⟨b_1, 0, none⟩)), (6, .pointer (some ⟨b_2, 0, none⟩)), (9, .slice p_7 outv.length c_8), (10, .int .i64 k), (11, .int .i64 now), (12, .slice p_9 row.length c_10), (13, .int .i64 hv)] a ∧ St w0 D0 Dv_2 [(1, .cells b [.int .i64 c.Hours, .slice p c.Rates.length c_1, .slice p_1 c.Opens.length c_2, .slice p_2 c.Pairs.length c_3] 26), (2, .cells b_1 [.int .i64 0, .slice none 0 0, .slice none 0 0, .slice none 0 0] 26), (3, .cells b_2 [.int .i64 c.Hours, .slice p c.Rates.length c_1, .slice p_4 l.length c_5, .slice none ([] : List BeatPair).length 0] 26), (4, .own none ([] : List BeatOpen).length 0 ([]) 63 4), (5, .own none ([] : List BeatPair).length 0 ([]) 61 5), (7, .own none ([] : List BeatPair).length 0 ([]) 61 5), (10, .own p_7 outv.length c_8 cs_1 44 1), (11, .own p_9 row.length c_10 cs_2 3 1)] w ∧ Reps C_int Dv_2 row cs_2) (rv_3, [rv_3], 0) h ⟨rv_3, ([rv_3]), 0, Dv_1, p_8, c_9, ([.int .i64 rv_3]), rfl, Stab.le.refl _, hF.weak ⟨rfl, rfl, rfl, rfl, rfl, rfl, rfl, rfl, rfl, rfl, trivial⟩, hS.weak ⟨rfl, rfl, rfl, rfl, rfl, rfl, rfl, rfl, trivial⟩, hr_4⟩ ?_
   rintro s a w xo_2 ⟨now, row, hv, Dv_2, p_9, c_10, cs_2, rfl, hlev_2, hF, hS, hr_5⟩ h hxo_2
   unfold remontoirlaw02_went_b3 at h
   dsimp only at h
   replace hs := hs.mono hlev_2
   replace hs_1 := hs_1.mono hlev_2
   replace hs_2 := hs_2.mono hlev_2
   replace hs_3 := hs_3.mono hlev_2
   replace hr := hr.mono hlev_2
   replace hs_4 := hs_4.mono hlev_2
   replace hr_3 := hr_3.mono hlev_2
   replace hr_4 := hr_4.mono hlev_2
   refine seq ?_
   refine seq ?_
   refine region ?_
   refine step hF (Y.move hF rfl) rfl fun a hF => ?_
   refine step hF (Y.fieldAddr fo_26_0 hF rfl) rfl fun a hF => ?_
   refine step hF (Y.load1L 1 sz_3 hF rfl hS rfl rfl) rfl fun a hF => ?_
   refine step hF (Y.lss hF rfl rfl) rfl fun a hF => ?_
   refine nil (then_n ?_)
   refine cond_b hF rfl (fun hbv_2 => ?_) (fun hbv_2 => ?_)
   ·replace h := cond_t h hbv_2
    refine skip_ (then_n ?_)
    refine seq ?_
    refine block ?_
    refine seq ?_
    obtain ⟨e_1, hx_5, h⟩ := bind_some h
    obtain ⟨rv_4, hx_6, h⟩ := bind_some h
    obtain ⟨rv_5, hx_7, h⟩ := bind_some h
    refine drawsV 14 (.flt 0 (.flt 1 (.flt 2 (.flt 3 (.flt 4 (.flt 5 (.flt 6 (.flt 7 (.flt 8 (.flt 9 (.flt 10 (.flt 11 (.alt 12 (.alt 13 .done .stop) .stop))))))))))))) mixed_ (by kernel_rfl) (fun w => St w0 D0 Dv_2 [(1, .cells b [.int .i64 c.Hours, .slice p c.Rates.length c_1, .slice p_1 c.Opens.length c_2, .slice p_2 c.Pairs.length c_3] 26), (2, .cells b_1 [.int .i64 0, .slice none 0 0, .slice none 0 0, .slice none 0 0] 26), (3, .cells b_2 [.int .i64 c.Hours, .slice p c.Rates.length c_1, .slice p_4 l.length c_5, .slice none ([] : List BeatPair).length 0] 26), (4, .own none ([] : List BeatOpen).length 0 ([]) 63 4), (5, .own none ([] : List BeatPair).length 0 ([]) 61 5), (7, .own none ([] : List BeatPair).length 0 ([]) 61 5), (10, .own p_7 outv.length c_8 cs_1 44 1), (11, .own p_9 row.length c_10 cs_2 3 1)] w) (fun a w => Frm 202 [] [(1, .slice p_3 bits.length c_4), (2, .pointer (some ⟨b, 0, none⟩)), (4, .slice none 0 0), (5, .pointer (some ⟨b_1, 0, none⟩)), (6, .pointer (some ⟨b_2, 0, none⟩)), (9, .slice p_7 outv.length c_8), (10, .int .i64 k), (11, .int .i64 now), (12, .slice p_9 row.length c_10), (13, .int .i64 hv), (73, .int .i64 now), (86, .int .i64 rv_5)] a ∧ St w0 D0 Dv_2 [(1, .cells b [.int .i64 c.Hours, .slice p c.Rates.length c_1, .slice p_1 c.Opens.length c_2, .slice p_2 c.Pairs.length c_3] 26), (2, .cells b_1 [.int .i64 0, .slice none 0 0, .slice none 0 0, .slice none 0 0] 26), (3, .cells b_2 [.int .i64 c.Hours, .slice p c.Rates.length c_1, .slice p_4 l.length c_5, .slice none ([] : List BeatPair).length 0] 26), (4, .own none ([] : List BeatOpen).length 0 ([]) 63 4), (5, .own none ([] : List BeatPair).length 0 ([]) 61 5), (7, .own none ([] : List BeatPair).length 0 ([]) 61 5), (10, .own p_7 outv.length c_8 cs_1 44 1), (11, .own p_9 row.length c_10 cs_2 3 1)] w) (hS.weak (ms := [(1, .cells b [.int .i64 c.Hours, .slice p c.Rates.length c_1, .slice p_1 c.Opens.length c_2, .slice p_2 c.Pairs.length c_3] 26), (2, .cells b_1 [.int .i64 0, .slice none 0 0, .slice none 0 0, .slice none 0 0] 26), (3, .cells b_2 [.int .i64 c.Hours, .slice p c.Rates.length c_1, .slice p_4 l.length c_5, .slice none ([] : List BeatPair).length 0] 26), (4, .own none ([] : List BeatOpen).length 0 ([]) 63 4), (5, .own none ([] : List BeatPair).length 0 ([]) 61 5), (7, .own none ([] : List BeatPair).length 0 ([]) 61 5), (10, .own p_7 outv.length c_8 cs_1 44 1), (11, .own p_9 row.length c_10 cs_2 3 1)]) ⟨rfl, rfl, rfl, rfl, rfl, rfl, rfl, rfl, trivial⟩).drew (fun _ _ _ _ h => h) ?_ ?_
    ·replace hS := hS.drew
     have hle0 := hS.le
     refine stepV (i := 0) rfl hF (fun w hS => Y.move hF rfl) rfl fun a hF => ?_
     refine stepV (i := 1) rfl hF (fun w hS => Y.fieldAddr fo_26_1 hF rfl) rfl fun a hF => ?_
     refine stepV (i := 2) rfl hF (fun w hS => Y.load1L 1 sz_22 hF rfl hS rfl rfl) rfl fun a hF => ?_
     refine stepV (i := 3) rfl hF (fun w hS => Y.move hF rfl) rfl fun a hF => ?_
     obtain ⟨b_6, o_2, hE_2, hY_2⟩ := Y.indexS (P := Tryd.prog) (C := C_Span) (xs := c.Rates) (T := 22) (x := (.tmp 75)) (y := (.tmp 76)) u_22 sz_34 hF rfl rfl (hs).1 hx_5
     obtain ⟨cc_2, hc_2, hcell_2⟩ := hE_2.open
     obtain rfl := C_Span.open hc_2
     refine stepV (i := 4) rfl hF (fun w hS => hY_2) rfl fun a hF => ?_
     refine stepV (i := 5) rfl hF (fun w hS => Y.loadNE (o := o_2) (k := 0) sz_34 hF rfl (hcell_2 _ hS.stab) rfl rfl) rfl fun a hF => ?_
     refine stepV (i := 6) rfl hF (fun w hS => Y.move hF rfl) rfl fun a hF => ?_
     refine stepV (i := 7) rfl hF (fun w hS => Y.move hF rfl) rfl fun a hF => ?_
     refine stepV (i := 8) rfl hF (fun w hS => Y.move hF rfl) rfl fun a hF => ?_
     refine stepV (i := 9) rfl hF (fun w hS => Y.mul hF rfl rfl) rfl fun a hF => ?_
     refine stepV (i := 10) rfl hF (fun w hS => Y.add hF rfl rfl) rfl fun a hF => ?_
     refine stepV (i := 11) rfl hF (fun w hS => Y.add hF rfl rfl) rfl fun a hF => ?_
     refine oneV (i := 12) rfl ?_ trivial
     refine O.callP (us := [.slice p_3 bits.length c_4, .int .i64 (wr ((wr (k + (wr (2 * hv)))) + 1))]) ca_68 hF hS (remontoirref00_At_ok hS.stab bits (wr ((wr (k + (wr (2 * hv)))) + 1)) hs_3 rv_4 hx_6) rfl rfl fun a w hF hS => ?_
     refine nil (then_n ⟨hS.weak (ms := [(1, .cells b [.int .i64 c.Hours, .slice p c.Rates.length c_1, .slice p_1 c.Opens.length c_2, .slice p_2 c.Pairs.length c_3] 26), (2, .cells b_1 [.int .i64 0, .slice none 0 0, .slice none 0 0, .slice none 0 0] 26), (3, .cells b_2 [.int .i64 c.Hours, .slice p c.Rates.length c_1, .slice p_4 l.length c_5, .slice none ([] : List BeatPair).length 0] 26), (4, .own none ([] : List BeatOpen).length 0 ([]) 63 4), (5, .own none ([] : List BeatPair).length 0 ([]) 61 5), (7, .own none ([] : List BeatPair).length 0 ([]) 61 5), (10, .own p_7 outv.length c_8 cs_1 44 1), (11, .own p_9 row.length c_10 cs_2 3 1)]) ⟨rfl, rfl, rfl, rfl, rfl, rfl, rfl, rfl, trivial⟩, ?_⟩)
     refine oneV (i := 13) rfl ?_ trivial
     refine O.callP (us := [.agg #[.int .i64 e_1.Low, .int .i64 e_1.High], .int .i64 rv_4]) ca_67 hF hS (remontoirref00_From_ok hS.stab e_1 rv_4 rv_5 hx_7) rfl rfl fun a w hF hS => ?_
     refine nil (then_n ⟨hS.weak (ms := [(1, .cells b [.int .i64 c.Hours, .slice p c.Rates.length c_1, .slice p_1 c.Opens.length c_2, .slice p_2 c.Pairs.length c_3] 26), (2, .cells b_1 [.int .i64 0, .slice none 0 0, .slice none 0 0, .slice none 0 0] 26), (3, .cells b_2 [.int .i64 c.Hours, .slice p c.Rates.length c_1, .slice p_4 l.length c_5, .slice none ([] : List BeatPair).length 0] 26), (4, .own none ([] : List BeatOpen).length 0 ([]) 63 4), (5, .own none ([] : List BeatPair).length 0 ([]) 61 5), (7, .own none ([] : List BeatPair).length 0 ([]) 61 5), (10, .own p_7 outv.length c_8 cs_1 44 1), (11, .own p_9 row.length c_10 cs_2 3 1)]) ⟨rfl, rfl, rfl, rfl, rfl, rfl, rfl, rfl, trivial⟩, ?_⟩)
     exact toTailV ⟨hF.weak ⟨rfl, rfl, rfl, rfl, rfl, rfl, rfl, rfl, rfl, rfl, rfl, rfl, trivial⟩, hS.weak ⟨rfl, rfl, rfl, rfl, rfl, rfl, rfl, rfl, trivial⟩⟩
    rintro a w ⟨hF, hS⟩
    refine step hF (Y.add hF rfl rfl) rfl fun a hF => ?_
    refine step hF (Y.assign hF rfl) rfl fun a hF => ?_
    refine nil (then_n ?_)
    refine seq ?_
    refine seq ?_
    refine region ?_
    refine step hF (Y.assign hF rfl) rfl fun a hF => ?_
    refine nil (then_n ?_)
    refine block ?_
    refine loop_cut (body := remontoirlaw02_went_b4 bits l k row hv) (out := xo_2) (fun s a w => ∃ (now_1 : Int) (i_1 : Int), ∃ (Dv_3 : Stab), s = (now_1, i_1) ∧ Dv_2.le Dv_3 ∧ Frm 202 [] [(1, .slice p_3 bits.length c_4), (2, .pointer (some ⟨b, 0, none⟩)), (4, .slice none 0 0), (5, .pointer (some ⟨b_1, 0, none⟩)), (6, .pointer (some ⟨b_2, 0, none⟩)), (9, .slice p_7 outv.length c_8), (10, .int .i64 k), (11, .int .i64 now_1), (12, .slice p_9 row.length c_10), (13, .int .i64 hv), (14, .int .i64 i_1)] a ∧ St w0 D0 Dv_3 [(1, .cells b [.int .i64 c.Hours, .slice p c.Rates.length c_1, .slice p_1 c.Opens.length c_2, .slice p_2 c.Pairs.length c_3] 26), (2, .cells b_1 [.int .i64 0, .slice none 0 0, .slice none 0 0, .slice none 0 0] 26), (3, .cells b_2 [.int .i64 c.Hours, .slice p c.Rates.length c_1, .slice p_4 l.length c_5, .slice none ([] : List BeatPair).length 0] 26), (4, .own none ([] : List BeatOpen).length 0 ([]) 63 4), (5, .own none ([] : List BeatPair).length 0 ([]) 61 5), (7, .own none ([] : List BeatPair).length 0 ([]) 61 5), (10, .own p_7 outv.length c_8 cs_1 44 1), (11, .own p_9 row.length c_10 cs_2 3 1)] w) (wr (now + rv_5), 0) h ⟨(wr (now + rv_5)), 0, Dv_2, rfl, Stab.le.refl _, hF.weak ⟨rfl, rfl, rfl, rfl, rfl, rfl, rfl, rfl, rfl, rfl, rfl, trivial⟩, hS.weak ⟨rfl, rfl, rfl, rfl, rfl, rfl, rfl, rfl, trivial⟩⟩ ?_
    rintro s a w xo_3 ⟨now_1, i_1, Dv_3, rfl, hlev_3, hF, hS⟩ h hxo_3
    unfold remontoirlaw02_went_b4 at h
    dsimp only at h
    replace hs := hs.mono hlev_3
    replace hs_1 := hs_1.mono hlev_3
    replace hs_2 := hs_2.mono hlev_3
    replace hs_3 := hs_3.mono hlev_3
    replace hr := hr.mono hlev_3
    replace hs_4 := hs_4.mono hlev_3
    replace hr_3 := hr_3.mono hlev_3
    replace hr_4 := hr_4.mono hlev_3
    replace hr_5 := hr_5.mono hlev_3
    refine seq ?_
    refine seq ?_
    refine region ?_
    refine step hF (Y.move hF rfl) rfl fun a hF => ?_
    refine step hF (Y.fieldAddr fo_26_2 hF rfl) rfl fun a hF => ?_
    refine step hF (Y.load1L 3 sz_23 hF rfl hS rfl rfl) rfl fun a hF => ?_
    refine step hF (Y.lenSl u_23 hF rfl) rfl fun a hF => ?_
    refine step hF (Y.lss hF rfl rfl) rfl fun a hF => ?_
    refine nil (then_n ?_)
    refine cond_b hF rfl (fun hbv_3 => ?_) (fun hbv_3 => ?_)
    ·replace h := cond_t h hbv_3
     refine skip_ (then_n ?_)
     refine seq ?_
     refine block ?_
     refine seq ?_
     refine region ?_
     refine step hF (Y.fieldAddr fo_26_2 hF rfl) rfl fun a hF => ?_
     refine step hF (Y.load1L 3 sz_23 hF rfl hS rfl rfl) rfl fun a hF => ?_
     refine step hF (Y.move hF rfl) rfl fun a hF => ?_
     obtain ⟨e_2, hx_8, h⟩ := bind_some h
     obtain ⟨b_7, o_3, hE_3, hY_3⟩ := Y.indexS (P := Tryd.prog) (C := C_BeatOpen) (xs := l) (T := 23) (x := (.tmp 96)) (y := (.tmp 97)) u_23 sz_63 hF rfl rfl (hs_4).1 hx_8
     obtain ⟨cc_3, hc_3, hcell_3⟩ := hE_3.open
     obtain rfl := C_BeatOpen.open hc_3
     refine step hF (hY_3) rfl fun a hF => ?_
     refine step hF (Y.fieldAddr fo_63_0 hF rfl) rfl fun a hF => ?_
     refine step hF (Y.load1 sz_3 hF rfl (hcell_3 _ hS.stab 0 _ rfl)) rfl fun a hF => ?_
     refine step hF (Y.move hF rfl) rfl fun a hF => ?_
     refine step hF (Y.eql hF rfl rfl) rfl fun a hF => ?_
     refine step hF (Y.move hF rfl) rfl fun a hF => ?_
     obtain ⟨t, ht, h⟩ := bind_some h
     refine join (N := 202) (rs := []) (w0 := w0) (D0 := D0) 9 (us := [(1, .slice p_3 bits.length c_4), (2, .pointer (some ⟨b, 0, none⟩)), (4, .slice none 0 0), (5, .pointer (some ⟨b_1, 0, none⟩)), (6, .pointer (some ⟨b_2, 0, none⟩)), (9, .slice p_7 outv.length c_8), (10, .int .i64 k), (11, .int .i64 now_1), (12, .slice p_9 row.length c_10), (13, .int .i64 hv), (14, .int .i64 i_1), (112, .bool t)]) (ms := [(1, .cells b [.int .i64 c.Hours, .slice p c.Rates.length c_1, .slice p_1 c.Opens.length c_2, .slice p_2 c.Pairs.length c_3] 26), (2, .cells b_1 [.int .i64 0, .slice none 0 0, .slice none 0 0, .slice none 0 0] 26), (3, .cells b_2 [.int .i64 c.Hours, .slice p c.Rates.length c_1, .slice p_4 l.length c_5, .slice none ([] : List BeatPair).length 0] 26), (4, .own none ([] : List BeatOpen).length 0 ([]) 63 4), (5, .own none ([] : List BeatPair).length 0 ([]) 61 5), (7, .own none ([] : List BeatPair).length 0 ([]) 61 5), (10, .own p_7 outv.length c_8 cs_1 44 1), (11, .own p_9 row.length c_10 cs_2 3 1)]) (D' := Dv_3) ?_ ?_
     ·rcases bcases (e_2.Clock == k) with hbv_4 | hbv_4
      ·-- true
       replace h := cond_t ht hbv_4
       refine guard_on hF rfl rfl hbv_4 ?_
       refine step hF (Y.fieldAddr fo_26_2 hF rfl) rfl fun a hF => ?_
       refine guard_on hF rfl rfl hbv_4 ?_
       refine step hF (Y.load1L 3 sz_23 hF rfl hS rfl rfl) rfl fun a hF => ?_
       refine guard_on hF rfl rfl hbv_4 ?_
       refine step hF (Y.move hF rfl) rfl fun a hF => ?_
       obtain ⟨e_3, hx_9, h⟩ := bind_some h
       obtain ⟨b_8, o_4, hE_4, hY_4⟩ := Y.indexS (P := Tryd.prog) (C := C_BeatOpen) (xs := l) (T := 23) (x := (.tmp 105)) (y := (.tmp 106)) u_23 sz_63 hF rfl rfl (hs_4).1 hx_9
       obtain ⟨cc_4, hc_4, hcell_4⟩ := hE_4.open
       obtain rfl := C_BeatOpen.open hc_4
       refine guard_on hF rfl rfl hbv_4 ?_
       refine step hF (hY_4) rfl fun a hF => ?_
       refine guard_on hF rfl rfl hbv_4 ?_
       refine step hF (Y.fieldAddr fo_63_1 hF rfl) rfl fun a hF => ?_
       refine guard_on hF rfl rfl hbv_4 ?_
       refine step hF (Y.load1 sz_3 hF rfl (hcell_4 _ hS.stab 1 _ rfl)) rfl fun a hF => ?_
       refine guard_on hF rfl rfl hbv_4 ?_
       refine step hF (Y.move hF rfl) rfl fun a hF => ?_
       refine guard_on hF rfl rfl hbv_4 ?_
       refine step hF (Y.eql hF rfl rfl) rfl fun a hF => ?_
       refine step hF (Y.pick_t hF rfl hbv_4 rfl) rfl fun a hF => ?_
       obtain rfl := some_inj h
       exact nil (then_n ⟨hF.weak ⟨rfl, rfl, rfl, rfl, rfl, rfl, rfl, rfl, rfl, rfl, rfl, rfl, trivial⟩, hS.weak ⟨rfl, rfl, rfl, rfl, rfl, rfl, rfl, rfl, trivial⟩⟩)
      ·-- false
       replace h := cond_f ht hbv_4
       refine guard_off hF rfl rfl hbv_4 rfl fun a hF => ?_
       refine guard_off hF rfl rfl hbv_4 rfl fun a hF => ?_
       refine guard_off hF rfl rfl hbv_4 rfl fun a hF => ?_
       refine guard_off hF rfl rfl hbv_4 rfl fun a hF => ?_
       refine guard_off hF rfl rfl hbv_4 rfl fun a hF => ?_
       refine guard_off hF rfl rfl hbv_4 rfl fun a hF => ?_
       refine guard_off hF rfl rfl hbv_4 rfl fun a hF => ?_
       refine guard_off hF rfl rfl hbv_4 rfl fun a hF => ?_
       refine step hF (Y.pick_f hF rfl hbv_4 rfl) rfl fun a hF => ?_
       obtain rfl := some_inj h
       exact nil (then_n ⟨hF.weak ⟨rfl, rfl, rfl, rfl, rfl, rfl, rfl, rfl, rfl, rfl, rfl, rfl, trivial⟩, hS.weak ⟨rfl, rfl, rfl, rfl, rfl, rfl, rfl, rfl, trivial⟩⟩)
     intro a w hF hS
     refine nil (then_n ?_)
     refine cond_b hF rfl (fun hbv_5 => ?_) (fun hbv_5 => ?_)
     ·replace h := cond_t h hbv_5
      obtain ⟨e_4, hx_10, h⟩ := bind_some h
      obtain ⟨rv_6, hx_11, h⟩ := bind_some h
      obtain ⟨rv_7, hx_12, h⟩ := bind_some h
      refine drawsV 14 (.flt 0 (.flt 1 (.flt 2 (.flt 3 (.flt 4 (.flt 5 (.flt 6 (.flt 7 (.flt 8 (.flt 9 (.flt 10 (.flt 11 (.alt 12 (.alt 13 .done .stop) .stop))))))))))))) mixed_ (by kernel_rfl) (fun w => St w0 D0 Dv_3 [(1, .cells b [.int .i64 c.Hours, .slice p c.Rates.length c_1, .slice p_1 c.Opens.length c_2, .slice p_2 c.Pairs.length c_3] 26), (2, .cells b_1 [.int .i64 0, .slice none 0 0, .slice none 0 0, .slice none 0 0] 26), (3, .cells b_2 [.int .i64 c.Hours, .slice p c.Rates.length c_1, .slice p_4 l.length c_5, .slice none ([] : List BeatPair).length 0] 26), (4, .own none ([] : List BeatOpen).length 0 ([]) 63 4), (5, .own none ([] : List BeatPair).length 0 ([]) 61 5), (7, .own none ([] : List BeatPair).length 0 ([]) 61 5), (10, .own p_7 outv.length c_8 cs_1 44 1), (11, .own p_9 row.length c_10 cs_2 3 1)] w) (fun a w => Frm 202 [] [(1, .slice p_3 bits.length c_4), (2, .pointer (some ⟨b, 0, none⟩)), (4, .slice none 0 0), (5, .pointer (some ⟨b_1, 0, none⟩)), (6, .pointer (some ⟨b_2, 0, none⟩)), (9, .slice p_7 outv.length c_8), (10, .int .i64 k), (11, .int .i64 now_1), (12, .slice p_9 row.length c_10), (13, .int .i64 hv), (14, .int .i64 i_1), (113, .int .i64 now_1), (126, .int .i64 rv_7)] a ∧ St w0 D0 Dv_3 [(1, .cells b [.int .i64 c.Hours, .slice p c.Rates.length c_1, .slice p_1 c.Opens.length c_2, .slice p_2 c.Pairs.length c_3] 26), (2, .cells b_1 [.int .i64 0, .slice none 0 0, .slice none 0 0, .slice none 0 0] 26), (3, .cells b_2 [.int .i64 c.Hours, .slice p c.Rates.length c_1, .slice p_4 l.length c_5, .slice none ([] : List BeatPair).length 0] 26), (4, .own none ([] : List BeatOpen).length 0 ([]) 63 4), (5, .own none ([] : List BeatPair).length 0 ([]) 61 5), (7, .own none ([] : List BeatPair).length 0 ([]) 61 5), (10, .own p_7 outv.length c_8 cs_1 44 1), (11, .own p_9 row.length c_10 cs_2 3 1)] w) (hS.weak (ms := [(1, .cells b [.int .i64 c.Hours, .slice p c.Rates.length c_1, .slice p_1 c.Opens.length c_2, .slice p_2 c.Pairs.length c_3] 26), (2, .cells b_1 [.int .i64 0, .slice none 0 0, .slice none 0 0, .slice none 0 0] 26), (3, .cells b_2 [.int .i64 c.Hours, .slice p c.Rates.length c_1, .slice p_4 l.length c_5, .slice none ([] : List BeatPair).length 0] 26), (4, .own none ([] : List BeatOpen).length 0 ([]) 63 4), (5, .own none ([] : List BeatPair).length 0 ([]) 61 5), (7, .own none ([] : List BeatPair).length 0 ([]) 61 5), (10, .own p_7 outv.length c_8 cs_1 44 1), (11, .own p_9 row.length c_10 cs_2 3 1)]) ⟨rfl, rfl, rfl, rfl, rfl, rfl, rfl, rfl, trivial⟩).drew (fun _ _ _ _ h => h) ?_ ?_
      ·replace hS := hS.drew
       have hle0 := hS.le
       refine stepV (i := 0) rfl hF (fun w hS => Y.move hF rfl) rfl fun a hF => ?_
       refine stepV (i := 1) rfl hF (fun w hS => Y.fieldAddr fo_26_2 hF rfl) rfl fun a hF => ?_
       refine stepV (i := 2) rfl hF (fun w hS => Y.load1L 3 sz_23 hF rfl hS rfl rfl) rfl fun a hF => ?_
       refine stepV (i := 3) rfl hF (fun w hS => Y.move hF rfl) rfl fun a hF => ?_
       obtain ⟨b_10, o_6, hE_6, hY_6⟩ := Y.indexS (P := Tryd.prog) (C := C_BeatOpen) (xs := l) (T := 23) (x := (.tmp 115)) (y := (.tmp 116)) u_23 sz_63 hF rfl rfl (hs_4).1 hx_10
       obtain ⟨cc_6, hc_6, hcell_6⟩ := hE_6.open
       obtain rfl := C_BeatOpen.open hc_6
       refine stepV (i := 4) rfl hF (fun w hS => hY_6) rfl fun a hF => ?_
       refine stepV (i := 5) rfl hF (fun w hS => Y.fieldAddr fo_63_2 hF rfl) rfl fun a hF => ?_
       refine stepV (i := 6) rfl hF (fun w hS => Y.loadNE (o := o_6) (k := 2) sz_34 hF rfl (hcell_6 _ hS.stab) rfl rfl) rfl fun a hF => ?_
       refine stepV (i := 7) rfl hF (fun w hS => Y.move hF rfl) rfl fun a hF => ?_
       refine stepV (i := 8) rfl hF (fun w hS => Y.move hF rfl) rfl fun a hF => ?_
       refine stepV (i := 9) rfl hF (fun w hS => Y.move hF rfl) rfl fun a hF => ?_
       refine stepV (i := 10) rfl hF (fun w hS => Y.add hF rfl rfl) rfl fun a hF => ?_
       refine stepV (i := 11) rfl hF (fun w hS => Y.add hF rfl rfl) rfl fun a hF => ?_
       refine oneV (i := 12) rfl ?_ trivial
       refine O.callP (us := [.slice p_3 bits.length c_4, .int .i64 (wr ((wr (i_1 + hv)) + 2))]) ca_68 hF hS (remontoirref00_At_ok hS.stab bits (wr ((wr (i_1 + hv)) + 2)) hs_3 rv_6 hx_11) rfl rfl fun a w hF hS => ?_
       refine nil (then_n ⟨hS.weak (ms := [(1, .cells b [.int .i64 c.Hours, .slice p c.Rates.length c_1, .slice p_1 c.Opens.length c_2, .slice p_2 c.Pairs.length c_3] 26), (2, .cells b_1 [.int .i64 0, .slice none 0 0, .slice none 0 0, .slice none 0 0] 26), (3, .cells b_2 [.int .i64 c.Hours, .slice p c.Rates.length c_1, .slice p_4 l.length c_5, .slice none ([] : List BeatPair).length 0] 26), (4, .own none ([] : List BeatOpen).length 0 ([]) 63 4), (5, .own none ([] : List BeatPair).length 0 ([]) 61 5), (7, .own none ([] : List BeatPair).length 0 ([]) 61 5), (10, .own p_7 outv.length c_8 cs_1 44 1), (11, .own p_9 row.length c_10 cs_2 3 1)]) ⟨rfl, rfl, rfl, rfl, rfl, rfl, rfl, rfl, trivial⟩, ?_⟩)
       refine oneV (i := 13) rfl ?_ trivial
       refine O.callP (us := [.agg #[.int .i64 e_4.Step.Low, .int .i64 e_4.Step.High], .int .i64 rv_6]) ca_67 hF hS (remontoirref00_From_ok hS.stab e_4.Step rv_6 rv_7 hx_12) rfl rfl fun a w hF hS => ?_
       refine nil (then_n ⟨hS.weak (ms := [(1, .cells b [.int .i64 c.Hours, .slice p c.Rates.length c_1, .slice p_1 c.Opens.length c_2, .slice p_2 c.Pairs.length c_3] 26), (2, .cells b_1 [.int .i64 0, .slice none 0 0, .slice none 0 0, .slice none 0 0] 26), (3, .cells b_2 [.int .i64 c.Hours, .slice p c.Rates.length c_1, .slice p_4 l.length c_5, .slice none ([] : List BeatPair).length 0] 26), (4, .own none ([] : List BeatOpen).length 0 ([]) 63 4), (5, .own none ([] : List BeatPair).length 0 ([]) 61 5), (7, .own none ([] : List BeatPair).length 0 ([]) 61 5), (10, .own p_7 outv.length c_8 cs_1 44 1), (11, .own p_9 row.length c_10 cs_2 3 1)]) ⟨rfl, rfl, rfl, rfl, rfl, rfl, rfl, rfl, trivial⟩, ?_⟩)
       exact toTailV ⟨hF.weak ⟨rfl, rfl, rfl, rfl, rfl, rfl, rfl, rfl, rfl, rfl, rfl, rfl, rfl, trivial⟩, hS.weak ⟨rfl, rfl, rfl, rfl, rfl, rfl, rfl, rfl, trivial⟩⟩
      rintro a w ⟨hF, hS⟩
      refine step hF (Y.add hF rfl rfl) rfl fun a hF => ?_
      refine step hF (Y.assign hF rfl) rfl fun a hF => ?_
      refine nil (blk_n (then_n ?_))
      refine region ?_
      refine step hF (Y.move hF rfl) rfl fun a hF => ?_
      refine step hF (Y.add hF rfl rfl) rfl fun a hF => ?_
      refine step hF (Y.assign hF rfl) rfl fun a hF => ?_
      refine nil (then_n ?_)
      exact ⟨_, nxt_some h, (wr (now_1 + rv_7)), (wr (i_1 + 1)), Dv_3, rfl, hlev_3, hF.weak ⟨rfl, rfl, rfl, rfl, rfl, rfl, rfl, rfl, rfl, rfl, rfl, trivial⟩, hS.weak ⟨rfl, rfl, rfl, rfl, rfl, rfl, rfl, rfl, trivial⟩⟩
     ·replace h := cond_f h hbv_5
      refine skip_ (blk_n (then_n ?_))
      refine region ?_
      refine step hF (Y.move hF rfl) rfl fun a hF => ?_
      refine step hF (Y.add hF rfl rfl) rfl fun a hF => ?_
      refine step hF (Y.assign hF rfl) rfl fun a hF => ?_
      refine nil (then_n ?_)
      exact ⟨_, nxt_some h, now_1, (wr (i_1 + 1)), Dv_3, rfl, hlev_3, hF.weak ⟨rfl, rfl, rfl, rfl, rfl, rfl, rfl, rfl, rfl, rfl, rfl, trivial⟩, hS.weak ⟨rfl, rfl, rfl, rfl, rfl, rfl, rfl, rfl, trivial⟩⟩
    ·replace h := cond_f h hbv_3
     refine exit_ (then_x (then_x (blk_hit (then_n ?_))))
     replace h := ext_some h hxo_3
     refine region ?_
     refine step hF (Y.move hF rfl) rfl fun a hF => ?_
     refine step hF (Y.move hF rfl) rfl fun a hF => ?_
     have hr_6 : Reps C_int Dv_3 [now_1] [.int .i64 now_1] := Reps.cons (C := C_int) (x := now_1) (c := [.int .i64 now_1]) (r := []) rfl (Reps.nil)
     refine O.buildSlice (E := 3) (C := C_int) (xs := [now_1]) (cs := [.int .i64 now_1]) (us := [.int .i64 now_1]) (parts := [(0, (.tmp 129))]) 12 hF hS rfl (by kernel_rfl) hr_6 rfl rfl rfl fun p_10 c_11 a w hF hS => ?_
     obtain ⟨hg_1, h⟩ := ite_some h
     refine O.append (C := C_int) (xs := row) (ys := [now_1]) 11 gr_44 hF rfl rfl hS rfl (src_own (i := 12) hS rfl) hr_5 hr_6 hg_1 rfl fun p_11 c_12 a w hF hS hr_7 => ?_
     refine step hF (Y.assign hF rfl) rfl fun a hF => ?_
     refine nil (blk_n (then_n ?_))
     refine region ?_
     refine step hF (Y.move hF rfl) rfl fun a hF => ?_
     refine step hF (Y.add hF rfl rfl) rfl fun a hF => ?_
     refine step hF (Y.assign hF rfl) rfl fun a hF => ?_
     refine nil (then_n ?_)
     exact ⟨_, nxt_some h, now_1, (row ++ [now_1]), (wr (hv + 1)), Dv_3, p_11, c_12, (cs_2 ++ [.int .i64 now_1]), rfl, hlev_2.trans hlev_3, hF.weak ⟨rfl, rfl, rfl, rfl, rfl, rfl, rfl, rfl, rfl, rfl, trivial⟩, hS.weak ⟨rfl, rfl, rfl, rfl, rfl, rfl, rfl, rfl, trivial⟩, hr_7⟩
   ·replace h := cond_f h hbv_2
    refine exit_ (then_x (then_x (blk_hit (then_n ?_))))
    replace h := ext_some h hxo_2
    refine region ?_
    refine step hF (Y.move hF rfl) rfl fun a hF => ?_
    refine step hF (Y.move hF rfl) rfl fun a hF => ?_
    obtain ⟨Dv_4, hlev_4, hs_5, hS⟩ := hS.freezeC (i := 11) (xs := row) rfl hr_5
    replace hs := hs.mono hlev_4
    replace hs_1 := hs_1.mono hlev_4
    replace hs_2 := hs_2.mono hlev_4
    replace hs_3 := hs_3.mono hlev_4
    replace hr := hr.mono hlev_4
    replace hs_4 := hs_4.mono hlev_4
    replace hr_3 := hr_3.mono hlev_4
    replace hr_4 := hr_4.mono hlev_4
    replace hr_5 := hr_5.mono hlev_4
    have hr_8 : Reps (C_sl C_int) Dv_4 [row] [.slice p_9 row.length c_10] := Reps.cons (C := (C_sl C_int)) (x := row) (c := [.slice p_9 row.length c_10]) (r := []) (⟨_, _, rfl, hs_5⟩) (Reps.nil)
    refine O.buildSlice (E := 44) (C := (C_sl C_int)) (xs := [row]) (cs := [.slice p_9 row.length c_10]) (us := [.slice p_9 row.length c_10]) (parts := [(0, (.tmp 133))]) 13 hF hS rfl (by kernel_rfl) hr_8 rfl rfl rfl fun p_12 c_13 a w hF hS => ?_
    obtain ⟨hg_2, h⟩ := ite_some h
    refine O.append (C := (C_sl C_int)) (xs := outv) (ys := [row]) 10 gr_27 hF rfl rfl hS rfl (src_own (i := 13) hS rfl) hr_3 hr_8 hg_2 rfl fun p_13 c_14 a w hF hS hr_9 => ?_
    refine step hF (Y.assign hF rfl) rfl fun a hF => ?_
    refine nil (blk_n (then_n ?_))
    refine region ?_
    refine step hF (Y.move hF rfl) rfl fun a hF => ?_
    refine step hF (Y.add hF rfl rfl) rfl fun a hF => ?_
    refine step hF (Y.assign hF rfl) rfl fun a hF => ?_
    refine nil (then_n ?_)
    exact ⟨_, nxt_some h, (outv ++ [row]), (wr (k + 1)), Dv_4, p_13, c_14, (cs_1 ++ [.slice p_9 row.length c_10]), rfl, hlev_1.trans (hlev_2.trans hlev_4), hF.weak ⟨rfl, rfl, rfl, rfl, rfl, rfl, rfl, trivial⟩, hS.weak ⟨rfl, rfl, rfl, rfl, rfl, rfl, rfl, trivial⟩, hr_9⟩
  ·replace h := cond_f h hbv_1
   refine exit_ (then_x (then_x (blk_hit (then_n ?_))))
   replace h := ext_some h hxo_1
   refine seq ?_
   refine seq ?_
   refine region ?_
   refine step hF (Y.assign hF rfl) rfl fun a hF => ?_
   refine nil (then_n ?_)
   refine block ?_
   obtain ⟨Dv_5, hlev_5, hs_6, hS⟩ := hS.freezeC (i := 10) (xs := outv) rfl hr_3
   replace hs := hs.mono hlev_5
   replace hs_1 := hs_1.mono hlev_5
   replace hs_2 := hs_2.mono hlev_5
   replace hs_3 := hs_3.mono hlev_5
   replace hr := hr.mono hlev_5
   replace hs_4 := hs_4.mono hlev_5
   replace hr_3 := hr_3.mono hlev_5
   refine loop_cut (body := remontoirlaw02_went_b5 c bits l outv) (out := out) (fun s a w => ∃ (i_2 : Int) (l_1 : (List BeatPair)), ∃ (Dv_6 : Stab), ∃ p_14 c_15 cs_3, s = (i_2, l_1) ∧ Dv_5.le Dv_6 ∧ Frm 202 [] [(1, .slice p_3 bits.length c_4), (2, .pointer (some ⟨b, 0, none⟩)), (4, .slice none 0 0), (5, .pointer (some ⟨b_1, 0, none⟩)), (6, .pointer (some ⟨b_2, 0, none⟩)), (9, .slice p_7 outv.length c_8), (15, .int .i64 i_2)] a ∧ St w0 D0 Dv_6 [(1, .cells b [.int .i64 c.Hours, .slice p c.Rates.length c_1, .slice p_1 c.Opens.length c_2, .slice p_2 c.Pairs.length c_3] 26), (2, .cells b_1 [.int .i64 0, .slice none 0 0, .slice none 0 0, .slice none 0 0] 26), (3, .cells b_2 [.int .i64 c.Hours, .slice p c.Rates.length c_1, .slice p_4 l.length c_5, .slice p_14 l_1.length c_15] 26), (4, .own none ([] : List BeatOpen).length 0 ([]) 63 4), (5, .own none ([] : List BeatPair).length 0 ([]) 61 5), (7, .own p_14 l_1.length c_15 cs_3 61 5)] w ∧ Reps C_BeatPair Dv_6 l_1 cs_3) (0, ([] : List BeatPair)) h ⟨0, ([] : List BeatPair), Dv_5, none, 0, ([]), rfl, Stab.le.refl _, hF.weak ⟨rfl, rfl, rfl, rfl, rfl, rfl, rfl, trivial⟩, hS.weak ⟨rfl, rfl, rfl, rfl, rfl, rfl, trivial⟩, Reps.nil⟩ ?_
   rintro s a w xo_4 ⟨i_2, l_1, Dv_6, p_14, c_15, cs_3, rfl, hlev_6, hF, hS, hr_10⟩ h hxo_4
   unfold remontoirlaw02_went_b5 at h
   dsimp only at h
   replace hs := hs.mono hlev_6
   replace hs_1 := hs_1.mono hlev_6
   replace hs_2 := hs_2.mono hlev_6
   replace hs_3 := hs_3.mono hlev_6
   replace hr := hr.mono hlev_6
   replace hs_4 := hs_4.mono hlev_6
   replace hr_3 := hr_3.mono hlev_6
   replace hs_6 := hs_6.mono hlev_6
   refine seq ?_
   refine seq ?_
   refine region ?_
   refine step hF (Y.move hF rfl) rfl fun a hF => ?_
   refine step hF (Y.fieldAddr fo_26_3 hF rfl) rfl fun a hF => ?_
   refine step hF (Y.load1L 1 sz_24 hF rfl hS rfl rfl) rfl fun a hF => ?_
   refine step hF (Y.lenSl u_24 hF rfl) rfl fun a hF => ?_
   refine step hF (Y.lss hF rfl rfl) rfl fun a hF => ?_
   refine nil (then_n ?_)
   refine cond_b hF rfl (fun hbv_6 => ?_) (fun hbv_6 => ?_)
   ·replace h := cond_t h hbv_6
    refine skip_ (then_n ?_)
    refine seq ?_
    refine block ?_
    refine seq ?_
    refine region ?_
    refine step hF (Y.fieldAddr fo_26_3 hF rfl) rfl fun a hF => ?_
    refine step hF (Y.load1L 1 sz_24 hF rfl hS rfl rfl) rfl fun a hF => ?_
    refine step hF (Y.move hF rfl) rfl fun a hF => ?_
    obtain ⟨e_5, hx_13, h⟩ := bind_some h
    obtain ⟨b_11, o_7, hE_7, hY_7⟩ := Y.indexS (P := Tryd.prog) (C := C_BeatPair) (xs := c.Pairs) (T := 24) (x := (.tmp 144)) (y := (.tmp 145)) u_24 sz_61 hF rfl rfl (hs_2).1 hx_13
    obtain ⟨cc_7, hc_7, hcell_7⟩ := hE_7.open
    obtain rfl := C_BeatPair.open hc_7
    refine step hF (hY_7) rfl fun a hF => ?_
    refine step hF (Y.loadNE (o := o_7) (k := 0) sz_61 hF rfl (hcell_7 _ hS.stab) rfl rfl) rfl fun a hF => ?_
    refine O.alloc 14 zc_61 hF hS rfl fun b_12 a w hF hS => ?_
    refine O.store (us := [.int .i64 e_5.Hour, .int .i64 e_5.One, .int .i64 e_5.Other, .int .i64 e_5.Read.Low, .int .i64 e_5.Read.High]) 14 sz_61 hF rfl rfl rfl rfl hS rfl rfl fun a w hF hS => ?_
    refine nil (then_n ?_)
    refine seq ?_
    refine draws 10 [(0, true), (1, true), (2, true), (3, true), (4, true), (5, true), (6, true), (7, true), (8, true), (9, true)] mixed_ (by kernel_rfl) (fun w => St w0 D0 Dv_6 _ w) hS.drew (fun _ _ _ _ h => h) ?_
    replace hS := hS.drew
    refine stepT (i := 0) rfl hF (fun w hS => Y.move hF rfl) rfl fun a hF => ?_
    refine stepT (i := 1) rfl hF (fun w hS => Y.fieldAddr fo_61_1 hF rfl) rfl fun a hF => ?_
    refine stepT (i := 2) rfl hF (fun w hS => Y.load1L 14 sz_3 hF rfl hS rfl rfl) rfl fun a hF => ?_
    obtain ⟨e_6, hx_14, h⟩ := bind_some h
    obtain ⟨b_13, o_8, hE_8, hY_8⟩ := Y.indexS (P := Tryd.prog) (C := (C_sl C_int)) (xs := outv) (T := 27) (x := (.tmp 148)) (y := (.tmp 150)) u_27 sz_44 hF rfl rfl (hs_6).1 hx_14
    obtain ⟨cc_8, hc_8, hcell_8⟩ := hE_8.open
    obtain ⟨p_15, c_16, rfl, hs_7⟩ := hc_8
    refine stepT (i := 3) rfl hF (fun w hS => hY_8) rfl fun a hF => ?_
    refine stepT (i := 4) rfl hF (fun w hS => Y.load1 sz_44 hF rfl (hcell_8 _ hS.stab 0 _ rfl)) rfl fun a hF => ?_
    refine stepT (i := 5) rfl hF (fun w hS => Y.fieldAddr fo_61_0 hF rfl) rfl fun a hF => ?_
    refine stepT (i := 6) rfl hF (fun w hS => Y.load1L 14 sz_3 hF rfl hS rfl rfl) rfl fun a hF => ?_
    obtain ⟨e_7, hx_15, h⟩ := bind_some h
    obtain ⟨b_14, o_9, hE_9, hY_9⟩ := Y.indexS (P := Tryd.prog) (C := C_int) (xs := e_6) (T := 44) (x := (.tmp 152)) (y := (.tmp 154)) u_44 sz_3 hF rfl rfl (hs_7).1 hx_15
    obtain ⟨cc_9, hc_9, hcell_9⟩ := hE_9.open
    obtain rfl := hc_9
    refine stepT (i := 7) rfl hF (fun w hS => hY_9) rfl fun a hF => ?_
    refine stepT (i := 8) rfl hF (fun w hS => Y.load1 sz_3 hF rfl (hcell_9 _ hS.stab 0 _ rfl)) rfl fun a hF => ?_
    refine stepT (i := 9) rfl hF (fun w hS => Y.assign hF rfl) rfl fun a hF => ?_
    refine toTail ?_
    refine nil (then_n ?_)
    refine seq_cut (fun a w => ∃ (n : Int), Frm 202 [] [(1, .slice p_3 bits.length c_4), (2, .pointer (some ⟨b, 0, none⟩)), (4, .slice none 0 0), (5, .pointer (some ⟨b_1, 0, none⟩)), (6, .pointer (some ⟨b_2, 0, none⟩)), (9, .slice p_7 outv.length c_8), (15, .int .i64 i_2), (16, .pointer (some ⟨b_12, 0, none⟩)), (17, .int .i64 n)] a ∧ St w0 D0 Dv_6 [(1, .cells b [.int .i64 c.Hours, .slice p c.Rates.length c_1, .slice p_1 c.Opens.length c_2, .slice p_2 c.Pairs.length c_3] 26), (2, .cells b_1 [.int .i64 0, .slice none 0 0, .slice none 0 0, .slice none 0 0] 26), (3, .cells b_2 [.int .i64 c.Hours, .slice p c.Rates.length c_1, .slice p_4 l.length c_5, .slice p_14 l_1.length c_15] 26), (4, .own none ([] : List BeatOpen).length 0 ([]) 63 4), (5, .own none ([] : List BeatPair).length 0 ([]) 61 5), (7, .own p_14 l_1.length c_15 cs_3 61 5), (14, .cells b_12 [.int .i64 e_5.Hour, .int .i64 e_5.One, .int .i64 e_5.Other, .int .i64 e_5.Read.Low, .int .i64 e_5.Read.High] 61)] w ∧ remontoirlaw02_went_k6 bits i_2 l_1 e_5 n = some xo_4) ?_ ?_
    ·skip
     refine seq ?_
     refine region ?_
     refine step hF (Y.fieldAddr fo_61_2 hF rfl) rfl fun a hF => ?_
     refine step hF (Y.load1L 14 sz_3 hF rfl hS rfl rfl) rfl fun a hF => ?_
     refine step hF (Y.geq hF rfl rfl) rfl fun a hF => ?_
     refine nil (then_n ?_)
     refine cond_b hF rfl (fun hbv_7 => ?_) (fun hbv_7 => ?_)
     ·replace h := cond_t h hbv_7
      refine draws 12 [(0, true), (1, true), (2, true), (3, true), (4, true), (5, true), (6, true), (7, true), (8, true), (9, true), (10, true), (11, true)] mixed_ (by kernel_rfl) (fun w => St w0 D0 Dv_6 _ w) hS.drew (fun _ _ _ _ h => h) ?_
      replace hS := hS.drew
      refine stepT (i := 0) rfl hF (fun w hS => Y.move hF rfl) rfl fun a hF => ?_
      refine stepT (i := 1) rfl hF (fun w hS => Y.move hF rfl) rfl fun a hF => ?_
      refine stepT (i := 2) rfl hF (fun w hS => Y.fieldAddr fo_61_2 hF rfl) rfl fun a hF => ?_
      refine stepT (i := 3) rfl hF (fun w hS => Y.load1L 14 sz_3 hF rfl hS rfl rfl) rfl fun a hF => ?_
      obtain ⟨e_8, hx_19, h⟩ := bind_some h
      obtain ⟨b_15, o_10, hE_10, hY_10⟩ := Y.indexS (P := Tryd.prog) (C := (C_sl C_int)) (xs := outv) (T := 27) (x := (.tmp 161)) (y := (.tmp 163)) u_27 sz_44 hF rfl rfl (hs_6).1 hx_19
      obtain ⟨cc_10, hc_10, hcell_10⟩ := hE_10.open
      obtain ⟨p_18, c_19, rfl, hs_8⟩ := hc_10
      refine stepT (i := 4) rfl hF (fun w hS => hY_10) rfl fun a hF => ?_
      refine stepT (i := 5) rfl hF (fun w hS => Y.load1 sz_44 hF rfl (hcell_10 _ hS.stab 0 _ rfl)) rfl fun a hF => ?_
      refine stepT (i := 6) rfl hF (fun w hS => Y.fieldAddr fo_61_0 hF rfl) rfl fun a hF => ?_
      refine stepT (i := 7) rfl hF (fun w hS => Y.load1L 14 sz_3 hF rfl hS rfl rfl) rfl fun a hF => ?_
      obtain ⟨e_9, hx_20, h⟩ := bind_some h
      obtain ⟨b_16, o_11, hE_11, hY_11⟩ := Y.indexS (P := Tryd.prog) (C := C_int) (xs := e_8) (T := 44) (x := (.tmp 165)) (y := (.tmp 167)) u_44 sz_3 hF rfl rfl (hs_8).1 hx_20
      obtain ⟨cc_11, hc_11, hcell_11⟩ := hE_11.open
      obtain rfl := hc_11
      refine stepT (i := 8) rfl hF (fun w hS => hY_11) rfl fun a hF => ?_
      refine stepT (i := 9) rfl hF (fun w hS => Y.load1 sz_3 hF rfl (hcell_11 _ hS.stab 0 _ rfl)) rfl fun a hF => ?_
      refine stepT (i := 10) rfl hF (fun w hS => Y.sub hF rfl rfl) rfl fun a hF => ?_
      refine stepT (i := 11) rfl hF (fun w hS => Y.assign hF rfl) rfl fun a hF => ?_
      refine toTail ?_
      refine nil (then_n ?_)
      exact ⟨(wr (e_7 - e_9)), hF.weak ⟨rfl, rfl, rfl, rfl, rfl, rfl, rfl, rfl, rfl, trivial⟩, hS.weak ⟨rfl, rfl, rfl, rfl, rfl, rfl, rfl, trivial⟩, h⟩
     ·replace h := cond_f h hbv_7
      refine skip_ (then_n ?_)
      exact ⟨e_7, hF.weak ⟨rfl, rfl, rfl, rfl, rfl, rfl, rfl, rfl, rfl, trivial⟩, hS.weak ⟨rfl, rfl, rfl, rfl, rfl, rfl, rfl, trivial⟩, h⟩
    ·rintro a w ⟨n, hF, hS, h⟩
     unfold remontoirlaw02_went_k6 at h
     refine seq ?_
     refine region ?_
     refine step hF (Y.fieldAddr fo_61_3 hF rfl) rfl fun a hF => ?_
     refine step hF (Y.fieldAddr fo_34_1 hF rfl) rfl fun a hF => ?_
     refine step hF (Y.load1L 14 sz_3 hF rfl hS rfl rfl) rfl fun a hF => ?_
     refine step hF (Y.fieldAddr fo_61_3 hF rfl) rfl fun a hF => ?_
     refine step hF (Y.fieldAddr fo_34_0 hF rfl) rfl fun a hF => ?_
     refine step hF (Y.load1L 14 sz_3 hF rfl hS rfl rfl) rfl fun a hF => ?_
     refine step hF (Y.sub hF rfl rfl) rfl fun a hF => ?_
     refine step hF (Y.min2 hF rfl rfl) rfl fun a hF => ?_
     refine step hF (Y.assign hF rfl) rfl fun a hF => ?_
     refine nil (then_n ?_)
     refine seq ?_
     refine region ?_
     refine step hF (Y.move hF rfl) rfl fun a hF => ?_
     refine step hF (Y.move hF rfl) rfl fun a hF => ?_
     refine step hF (Y.move hF rfl) rfl fun a hF => ?_
     refine step hF (Y.add hF rfl rfl) rfl fun a hF => ?_
     obtain ⟨rv_8, hx_16, h⟩ := bind_some h
     refine O.callP (us := [.slice p_3 bits.length c_4, .int .i64 (wr (i_2 + 3))]) ca_68 hF hS (remontoirref00_At_ok hS.stab bits (wr (i_2 + 3)) hs_3 rv_8 hx_16) rfl rfl fun a w hF hS => ?_
     refine step hF (Y.move hF rfl) rfl fun a hF => ?_
     refine step hF (Y.add hF rfl rfl) rfl fun a hF => ?_
     obtain ⟨rv_9, hx_17, h⟩ := bind_some h
     refine O.callP (us := [.int .i64 rv_8, .int .i64 (wr ((if 200 < wr (e_5.Read.High - e_5.Read.Low) then 200 else wr (e_5.Read.High - e_5.Read.Low)) + 1))]) ca_34 hF hS (remontoirref00_Rest_ok hS.stab rv_8 (wr ((if 200 < wr (e_5.Read.High - e_5.Read.Low) then 200 else wr (e_5.Read.High - e_5.Read.Low)) + 1)) rv_9 hx_17) rfl rfl fun a w hF hS => ?_
     refine step hF (Y.sub hF rfl rfl) rfl fun a hF => ?_
     refine step hF (Y.assign hF rfl) rfl fun a hF => ?_
     refine nil (then_n ?_)
     refine seq ?_
     refine region ?_
     refine step hF (Y.move hF rfl) rfl fun a hF => ?_
     refine step hF (Y.move hF rfl) rfl fun a hF => ?_
     refine step hF (Y.move hF rfl) rfl fun a hF => ?_
     refine step hF (Y.add hF rfl rfl) rfl fun a hF => ?_
     obtain ⟨rv_10, hx_18, h⟩ := bind_some h
     refine O.callP (us := [.int .i64 (wr (n - rv_9)), .int .i64 (wr ((wr (n - rv_9)) + (if 200 < wr (e_5.Read.High - e_5.Read.Low) then 200 else wr (e_5.Read.High - e_5.Read.Low))))]) ca_37 hF hS (remontoirref00_To_ok hS.stab (wr (n - rv_9)) (wr ((wr (n - rv_9)) + (if 200 < wr (e_5.Read.High - e_5.Read.Low) then 200 else wr (e_5.Read.High - e_5.Read.Low)))) rv_10 hx_18) rfl rfl fun a w hF hS => ?_
     refine step hF (Y.fieldAddr fo_61_3 hF rfl) rfl fun a hF => ?_
     refine O.store (us := [.int .i64 rv_10.Low, .int .i64 rv_10.High]) 14 sz_34 hF rfl rfl rfl rfl hS rfl rfl fun a w hF hS => ?_
     refine nil (then_n ?_)
     refine region ?_
     refine step hF (Y.fieldAddr fo_26_3 hF rfl) rfl fun a hF => ?_
     refine step hF (Y.load1L 3 sz_24 hF rfl hS rfl rfl) rfl fun a hF => ?_
     refine step hF (Y.loadNL 14 sz_61 hF rfl hS rfl rfl rfl) rfl fun a hF => ?_
     have hr_11 : Reps C_BeatPair Dv_6 [(BeatPair.mk e_5.Hour e_5.One e_5.Other rv_10)] [.int .i64 e_5.Hour, .int .i64 e_5.One, .int .i64 e_5.Other, .int .i64 rv_10.Low, .int .i64 rv_10.High] := Reps.cons (C := C_BeatPair) (x := (BeatPair.mk e_5.Hour e_5.One e_5.Other rv_10)) (c := [.int .i64 e_5.Hour, .int .i64 e_5.One, .int .i64 e_5.Other, .int .i64 rv_10.Low, .int .i64 rv_10.High]) (r := []) rfl (Reps.nil)
     refine O.buildSlice (E := 61) (C := C_BeatPair) (xs := [(BeatPair.mk e_5.Hour e_5.One e_5.Other rv_10)]) (cs := [.int .i64 e_5.Hour, .int .i64 e_5.One, .int .i64 e_5.Other, .int .i64 rv_10.Low, .int .i64 rv_10.High]) (us := [.agg #[.int .i64 e_5.Hour, .int .i64 e_5.One, .int .i64 e_5.Other, .int .i64 rv_10.Low, .int .i64 rv_10.High]]) (parts := [(0, (.tmp 196))]) 15 hF hS rfl (by kernel_rfl) hr_11 rfl rfl rfl fun p_16 c_17 a w hF hS => ?_
     obtain ⟨hg_3, h⟩ := ite_some h
     refine O.append (C := C_BeatPair) (xs := l_1) (ys := [(BeatPair.mk e_5.Hour e_5.One e_5.Other rv_10)]) 7 gr_24 hF rfl rfl hS rfl (src_own (i := 15) hS rfl) hr_10 hr_11 hg_3 rfl fun p_17 c_18 a w hF hS hr_12 => ?_
     refine step hF (Y.fieldAddr fo_26_3 hF rfl) rfl fun a hF => ?_
     refine O.store (us := [.slice p_17 (l_1 ++ [(BeatPair.mk e_5.Hour e_5.One e_5.Other rv_10)]).length c_18]) 3 sz_24 hF rfl rfl rfl rfl hS rfl rfl fun a w hF hS => ?_
     refine nil (blk_n (then_n ?_))
     refine region ?_
     refine step hF (Y.move hF rfl) rfl fun a hF => ?_
     refine step hF (Y.add hF rfl rfl) rfl fun a hF => ?_
     refine step hF (Y.assign hF rfl) rfl fun a hF => ?_
     refine nil (then_n ?_)
     exact ⟨_, nxt_some h, (wr (i_2 + 1)), (l_1 ++ [(BeatPair.mk e_5.Hour e_5.One e_5.Other rv_10)]), Dv_6, p_17, c_18, (cs_3 ++ [.int .i64 e_5.Hour, .int .i64 e_5.One, .int .i64 e_5.Other, .int .i64 rv_10.Low, .int .i64 rv_10.High]), rfl, hlev_6, hF.weak ⟨rfl, rfl, rfl, rfl, rfl, rfl, rfl, trivial⟩, hS.weak ⟨rfl, rfl, rfl, rfl, rfl, rfl, trivial⟩, hr_12⟩
   ·replace h := cond_f h hbv_6
    refine exit_ (then_x (then_x (blk_hit (then_n ?_))))
    replace h := ext_some h hxo_4
    refine seq ?_
    refine draws 3 [(0, true), (1, true), (2, true)] mixed_ (by kernel_rfl) (fun w => St w0 D0 Dv_6 _ w) hS.drew (fun _ _ _ _ h => h) ?_
    replace hS := hS.drew
    refine stepT (i := 0) rfl hF (fun w hS => Y.move hF rfl) rfl fun a hF => ?_
    refine stepT (i := 1) rfl hF (fun w hS => Y.loadNL 3 sz_26 hF rfl hS rfl rfl rfl) rfl fun a hF => ?_
    refine stepT (i := 2) rfl hF (fun w hS => Y.assign hF rfl) rfl fun a hF => ?_
    refine toTail ?_
    refine O.store (us := [.int .i64 c.Hours, .slice p c.Rates.length c_1, .slice p_4 l.length c_5, .slice p_14 l_1.length c_15]) 2 sz_26 hF rfl rfl rfl rfl hS rfl rfl fun a w hF hS => ?_
    refine nil (then_n ?_)
    refine ret_ ?_
    obtain ⟨Dv_7, hlev_7, hs_9, hS⟩ := hS.freezeC (i := 7) (xs := l_1) rfl hr_10
    replace hs := hs.mono hlev_7
    replace hs_1 := hs_1.mono hlev_7
    replace hs_2 := hs_2.mono hlev_7
    replace hs_3 := hs_3.mono hlev_7
    replace hr := hr.mono hlev_7
    replace hs_4 := hs_4.mono hlev_7
    replace hr_3 := hr_3.mono hlev_7
    replace hs_6 := hs_6.mono hlev_7
    replace hr_10 := hr_10.mono hlev_7
    obtain rfl := some_inj h
    exact leaveS Tryd.results33 hF hS (.cons (.tmp rfl) (.cons (.cellN 2 sz_26 rfl rfl rfl) .nil)) .nil ⟨_, _, _, _, _, _, _, _, rfl, hs_6, hs, hs_4, hs_9⟩

end Go.Proofs.YtpniidbbbhbglaaDoor.Rt
