/- Walks of the functions of this seat: what each Go function comes to, as a Lean function, and the proof. A law. Under no conditions. -/
import Derived.Test.YtmbgmefmkjeahaaDoorC15L15j
set_option linter.unusedVariables false
set_option linter.unusedSimpArgs false
set_option maxRecDepth 100000
set_option maxHeartbeats 40000000
namespace Go.Proofs.YtmbgmefmkjeahaaDoor.Rt
open Go Go.RowKit
theorem w7SlaveKnown_ok {w0 : World} {D0 : Stab} (hD : D0.on w0) (hG : Glob D0) (out : Bool → Prop) (h : w7SlaveKnown out) : Calls Tryd.prog 15 [].toArray w0 (RetPN D0 w0 out fun (out : Bool) => .bool out) := by
 refine enter _ 527 Tryd.func15 rfl Tryd.ntmps15 rfl fun a hF => ?_
 replace hF : Frm 527 [] [] a := hF
 have hS := St.start hD
 unfold w7SlaveKnown at h
 refine seq (region (step hF (Y.assign hF rfl) rfl fun a hF => nT (seq ?_)))
 replace h := ndet h
 obtain ⟨rv, hx, h⟩ := h
 replace h := ndet h
 obtain ⟨rv_1, hx_1, h⟩ := h
 replace h := ndet h
 obtain ⟨rv_2, hx_2, h⟩ := h
 replace h := ndet h
 obtain ⟨rv_3, hx_3, h⟩ := h
 replace h := ndet h
 obtain ⟨rv_4, hx_4, h⟩ := h
 replace h := ndet h
 obtain ⟨rv_5, hx_5, h⟩ := h
 replace h := ndet h
 obtain ⟨rv_6, hx_6, h⟩ := h
 replace h := ndet h
 obtain ⟨rv_7, hx_7, h⟩ := h
 replace h := ndet h
 obtain ⟨rv_8, hx_8, h⟩ := h
 replace h := ndet h
 obtain ⟨rv_9, hx_9, h⟩ := h
 replace h := ngrd h
 obtain ⟨hg, h⟩ := h
 replace h := ndet h
 obtain ⟨rv_10, hx_10, h⟩ := h
 refine drawsV 16 w7SlaveKnown_tr1_45 mixed_ (drawOkF [(61, msk [], msk []), (62, msk [], msk []), (63, msk [], msk [1]), (64, msk [], msk [2]), (65, msk [], msk [3]), (66, msk [], msk [4]), (67, msk [], msk [5]), (68, msk [], msk [6]), (69, msk [], msk [7]), (70, msk [], msk [8]), (71, msk [], msk []), (72, msk [70], msk [9, 10]), (73, msk [], msk []), (74, msk [72], msk [11, 12]), (75, msk [60, 61, 62, 63, 64, 65, 66, 67, 68, 69, 71, 73], msk [0, 1, 2, 3, 4, 5, 6, 7, 8, 9, 11, 13]), (2, msk [74], msk (List.range 15))] _ 16 (by kernel_rfl) (by kernel_rfl) (by kernel_rfl) (by kernel_rfl) (by kernel_rfl)) (fun w => St w0 D0 D0 [] w) (fun a w => ∃ (Dv_200 : Stab) (b_1 : Nat) (og_29 : Nat → Option Addr × Nat × List Value), D0.le Dv_200 ∧ Frm 527 [] [(0, .bool false), (1, .slice (some ⟨b_1, 0, none⟩) 12 12)] a ∧ St w0 D0 Dv_200 [(1, oL (og_29 0) rv.Starts.length 57 2), (2, oL (og_29 1) rv.Events.length 66 6), (3, oL (og_29 2) rv_1.Starts.length 57 2), (4, oL (og_29 3) rv_1.Events.length 66 6), (5, oL (og_29 4) rv_2.Starts.length 57 2), (6, oL (og_29 5) rv_2.Events.length 66 6), (7, oL (og_29 6) rv_3.Starts.length 57 2), (8, oL (og_29 7) rv_3.Events.length 66 6), (9, oL (og_29 8) rv_4.Starts.length 57 2), (10, oL (og_29 9) rv_4.Events.length 66 6), (11, oL (og_29 10) rv_5.Starts.length 57 2), (12, oL (og_29 11) rv_5.Events.length 66 6), (13, oL (og_29 12) rv_6.Starts.length 57 2), (14, oL (og_29 13) rv_6.Events.length 66 6), (15, oL (og_29 14) rv_7.Starts.length 57 2), (16, oL (og_29 15) rv_7.Events.length 66 6), (17, oL (og_29 16) rv_8.Starts.length 57 2), (18, oL (og_29 17) rv_8.Events.length 66 6), (20, oL (og_29 18) rv_9.Starts.length 57 2), (21, oL (og_29 19) rv_9.Events.length 66 6), (23, oL (og_29 20) rv_10.Starts.length 57 2), (24, oL (og_29 21) rv_10.Events.length 66 6), (25, .cells b_1 [iv 0, .slice none 0 0, .slice none 0 0, iv rv.Ring, oV (og_29 0) rv.Starts.length, oV (og_29 1) rv.Events.length, iv rv_1.Ring, oV (og_29 2) rv_1.Starts.length, oV (og_29 3) rv_1.Events.length, iv rv_2.Ring, oV (og_29 4) rv_2.Starts.length, oV (og_29 5) rv_2.Events.length, iv rv_3.Ring, oV (og_29 6) rv_3.Starts.length, oV (og_29 7) rv_3.Events.length, iv rv_4.Ring, oV (og_29 8) rv_4.Starts.length, oV (og_29 9) rv_4.Events.length, iv rv_5.Ring, oV (og_29 10) rv_5.Starts.length, oV (og_29 11) rv_5.Events.length, iv rv_6.Ring, oV (og_29 12) rv_6.Starts.length, oV (og_29 13) rv_6.Events.length, iv rv_7.Ring, oV (og_29 14) rv_7.Starts.length, oV (og_29 15) rv_7.Events.length, iv rv_8.Ring, oV (og_29 16) rv_8.Starts.length, oV (og_29 17) rv_8.Events.length, iv rv_9.Ring, oV (og_29 18) rv_9.Starts.length, oV (og_29 19) rv_9.Events.length, iv rv_10.Ring, oV (og_29 20) rv_10.Starts.length, oV (og_29 21) rv_10.Events.length] 25)] w ∧ Reps C_SlaveStart Dv_200 rv.Starts ((og_29 0).2.2) ∧ Reps C_SlaveEvent Dv_200 rv.Events ((og_29 1).2.2) ∧ Reps C_SlaveStart Dv_200 rv_1.Starts ((og_29 2).2.2) ∧ Reps C_SlaveEvent Dv_200 rv_1.Events ((og_29 3).2.2) ∧ Reps C_SlaveStart Dv_200 rv_2.Starts ((og_29 4).2.2) ∧ Reps C_SlaveEvent Dv_200 rv_2.Events ((og_29 5).2.2) ∧ Reps C_SlaveStart Dv_200 rv_3.Starts ((og_29 6).2.2) ∧ Reps C_SlaveEvent Dv_200 rv_3.Events ((og_29 7).2.2) ∧ Reps C_SlaveStart Dv_200 rv_4.Starts ((og_29 8).2.2) ∧ Reps C_SlaveEvent Dv_200 rv_4.Events ((og_29 9).2.2) ∧ Reps C_SlaveStart Dv_200 rv_5.Starts ((og_29 10).2.2) ∧ Reps C_SlaveEvent Dv_200 rv_5.Events ((og_29 11).2.2) ∧ Reps C_SlaveStart Dv_200 rv_6.Starts ((og_29 12).2.2) ∧ Reps C_SlaveEvent Dv_200 rv_6.Events ((og_29 13).2.2) ∧ Reps C_SlaveStart Dv_200 rv_7.Starts ((og_29 14).2.2) ∧ Reps C_SlaveEvent Dv_200 rv_7.Events ((og_29 15).2.2) ∧ Reps C_SlaveStart Dv_200 rv_8.Starts ((og_29 16).2.2) ∧ Reps C_SlaveEvent Dv_200 rv_8.Events ((og_29 17).2.2) ∧ Reps C_SlaveStart Dv_200 rv_9.Starts ((og_29 18).2.2) ∧ Reps C_SlaveEvent Dv_200 rv_9.Events ((og_29 19).2.2) ∧ Reps C_SlaveStart Dv_200 rv_10.Starts ((og_29 20).2.2) ∧ Reps C_SlaveEvent Dv_200 rv_10.Events ((og_29 21).2.2)) (hS.weak (ms := []) trivial).drew (fun _ _ _ _ h => h) ?_ ?_
 ·replace hS := hS.drew
  have hle0 := hS.le
  have hS0 := hS
  refine haveV (u := w7SlaveKnown_tr1_3) (fun a w => ∃ (Dv_24 : Stab) (og : Nat → Option Addr × Nat × List Value), D0.le Dv_24 ∧ Frm 527 [] [(0, .bool false), (60, .agg #[iv 0, .slice none 0 0, .slice none 0 0]), (61, .agg #[iv rv.Ring, oV (og 0) rv.Starts.length, oV (og 1) rv.Events.length]), (62, .agg #[iv rv_1.Ring, oV (og 2) rv_1.Starts.length, oV (og 3) rv_1.Events.length]), (63, .agg #[iv rv_2.Ring, oV (og 4) rv_2.Starts.length, oV (og 5) rv_2.Events.length]), (64, .agg #[iv rv_3.Ring, oV (og 6) rv_3.Starts.length, oV (og 7) rv_3.Events.length]), (65, .agg #[iv rv_4.Ring, oV (og 8) rv_4.Starts.length, oV (og 9) rv_4.Events.length]), (66, .agg #[iv rv_5.Ring, oV (og 10) rv_5.Starts.length, oV (og 11) rv_5.Events.length]), (67, .agg #[iv rv_6.Ring, oV (og 12) rv_6.Starts.length, oV (og 13) rv_6.Events.length]), (68, .agg #[iv rv_7.Ring, oV (og 14) rv_7.Starts.length, oV (og 15) rv_7.Events.length]), (69, .agg #[iv rv_8.Ring, oV (og 16) rv_8.Starts.length, oV (og 17) rv_8.Events.length]), (71, .agg #[iv rv_9.Ring, oV (og 18) rv_9.Starts.length, oV (og 19) rv_9.Events.length]), (72, .slice ((og 20).1) (List.replicate (Int.toNat 10) (0 : Int)).length ((List.replicate (Int.toNat 10) (0 : Int)).length))] a ∧ St w0 D0 Dv_24 [(1, oL (og 0) rv.Starts.length 57 2), (2, oL (og 1) rv.Events.length 66 6), (3, oL (og 2) rv_1.Starts.length 57 2), (4, oL (og 3) rv_1.Events.length 66 6), (5, oL (og 4) rv_2.Starts.length 57 2), (6, oL (og 5) rv_2.Events.length 66 6), (7, oL (og 6) rv_3.Starts.length 57 2), (8, oL (og 7) rv_3.Events.length 66 6), (9, oL (og 8) rv_4.Starts.length 57 2), (10, oL (og 9) rv_4.Events.length 66 6), (11, oL (og 10) rv_5.Starts.length 57 2), (12, oL (og 11) rv_5.Events.length 66 6), (13, oL (og 12) rv_6.Starts.length 57 2), (14, oL (og 13) rv_6.Events.length 66 6), (15, oL (og 14) rv_7.Starts.length 57 2), (16, oL (og 15) rv_7.Events.length 66 6), (17, oL (og 16) rv_8.Starts.length 57 2), (18, oL (og 17) rv_8.Events.length 66 6), (20, oL (og 18) rv_9.Starts.length 57 2), (21, oL (og 19) rv_9.Events.length 66 6), (22, .own ((og 20).1) (List.replicate (Int.toNat 10) (0 : Int)).length ((List.replicate (Int.toNat 10) (0 : Int)).length) ((og 20).2.2) 3 1)] w ∧ Reps C_SlaveStart Dv_24 rv.Starts ((og 0).2.2) ∧ Reps C_SlaveEvent Dv_24 rv.Events ((og 1).2.2) ∧ Reps C_SlaveStart Dv_24 rv_1.Starts ((og 2).2.2) ∧ Reps C_SlaveEvent Dv_24 rv_1.Events ((og 3).2.2) ∧ Reps C_SlaveStart Dv_24 rv_2.Starts ((og 4).2.2) ∧ Reps C_SlaveEvent Dv_24 rv_2.Events ((og 5).2.2) ∧ Reps C_SlaveStart Dv_24 rv_3.Starts ((og 6).2.2) ∧ Reps C_SlaveEvent Dv_24 rv_3.Events ((og 7).2.2) ∧ Reps C_SlaveStart Dv_24 rv_4.Starts ((og 8).2.2) ∧ Reps C_SlaveEvent Dv_24 rv_4.Events ((og 9).2.2) ∧ Reps C_SlaveStart Dv_24 rv_5.Starts ((og 10).2.2) ∧ Reps C_SlaveEvent Dv_24 rv_5.Events ((og 11).2.2) ∧ Reps C_SlaveStart Dv_24 rv_6.Starts ((og 12).2.2) ∧ Reps C_SlaveEvent Dv_24 rv_6.Events ((og 13).2.2) ∧ Reps C_SlaveStart Dv_24 rv_7.Starts ((og 14).2.2) ∧ Reps C_SlaveEvent Dv_24 rv_7.Events ((og 15).2.2) ∧ Reps C_SlaveStart Dv_24 rv_8.Starts ((og 16).2.2) ∧ Reps C_SlaveEvent Dv_24 rv_8.Events ((og 17).2.2) ∧ Reps C_SlaveStart Dv_24 rv_9.Starts ((og 18).2.2) ∧ Reps C_SlaveEvent Dv_24 rv_9.Events ((og 19).2.2) ∧ Reps C_int Dv_24 (List.replicate (Int.toNat 10) (0 : Int)) ((og 20).2.2)) ?_ fun hfw => ?_
  ·skip
   rintro a w ⟨Dv_24, og, hlev_172, hF, hS, hjs⟩
   have hj := hjs.1
   have hj_1 := hjs.2.1
   have hj_2 := hjs.2.2.1
   have hj_3 := hjs.2.2.2.1
   have hj_4 := hjs.2.2.2.2.1
   have hj_5 := hjs.2.2.2.2.2.1
   have hj_6 := hjs.2.2.2.2.2.2.1
   have hj_7 := hjs.2.2.2.2.2.2.2.1
   have hj_8 := hjs.2.2.2.2.2.2.2.2.1
   have hj_9 := hjs.2.2.2.2.2.2.2.2.2.1
   have hj_10 := hjs.2.2.2.2.2.2.2.2.2.2.1
   have hj_11 := hjs.2.2.2.2.2.2.2.2.2.2.2.1
   have hj_12 := hjs.2.2.2.2.2.2.2.2.2.2.2.2.1
   have hj_13 := hjs.2.2.2.2.2.2.2.2.2.2.2.2.2.1
   have hj_14 := hjs.2.2.2.2.2.2.2.2.2.2.2.2.2.2.1
   have hj_15 := hjs.2.2.2.2.2.2.2.2.2.2.2.2.2.2.2.1
   have hj_16 := hjs.2.2.2.2.2.2.2.2.2.2.2.2.2.2.2.2.1
   have hj_17 := hjs.2.2.2.2.2.2.2.2.2.2.2.2.2.2.2.2.2.1
   have hj_18 := hjs.2.2.2.2.2.2.2.2.2.2.2.2.2.2.2.2.2.2.1
   have hj_19 := hjs.2.2.2.2.2.2.2.2.2.2.2.2.2.2.2.2.2.2.2.1
   have hj_20 := hjs.2.2.2.2.2.2.2.2.2.2.2.2.2.2.2.2.2.2.2.2
   refine oneV (i := 13) rfl ?_ trivial
   obtain ⟨Dv_201, hlev_173, hs_339, hS⟩ := hS.freezeC (C := C_int) (i := 22) (xs := (List.replicate (Int.toNat 10) (0 : Int))) rfl hj_20
   replace hj := hj.mono hlev_173
   replace hj_1 := hj_1.mono hlev_173
   replace hj_2 := hj_2.mono hlev_173
   replace hj_3 := hj_3.mono hlev_173
   replace hj_4 := hj_4.mono hlev_173
   replace hj_5 := hj_5.mono hlev_173
   replace hj_6 := hj_6.mono hlev_173
   replace hj_7 := hj_7.mono hlev_173
   replace hj_8 := hj_8.mono hlev_173
   replace hj_9 := hj_9.mono hlev_173
   replace hj_10 := hj_10.mono hlev_173
   replace hj_11 := hj_11.mono hlev_173
   replace hj_12 := hj_12.mono hlev_173
   replace hj_13 := hj_13.mono hlev_173
   replace hj_14 := hj_14.mono hlev_173
   replace hj_15 := hj_15.mono hlev_173
   replace hj_16 := hj_16.mono hlev_173
   replace hj_17 := hj_17.mono hlev_173
   replace hj_18 := hj_18.mono hlev_173
   replace hj_19 := hj_19.mono hlev_173
   refine O.callM (us := [.slice ((og 20).1) (List.replicate (Int.toNat 10) (0 : Int)).length ((List.replicate (Int.toNat 10) (0 : Int)).length)]) ca_55 hF (w7line_keep hS.stab (List.replicate (Int.toNat 10) (0 : Int)) hs_339 rv_10 hx_10) rfl rfl fun v_167 Dv_202 a w hK_167 hlev_174 hF => ?_
   replace hj := hj.mono hlev_174
   replace hj_1 := hj_1.mono hlev_174
   replace hj_2 := hj_2.mono hlev_174
   replace hj_3 := hj_3.mono hlev_174
   replace hj_4 := hj_4.mono hlev_174
   replace hj_5 := hj_5.mono hlev_174
   replace hj_6 := hj_6.mono hlev_174
   replace hj_7 := hj_7.mono hlev_174
   replace hj_8 := hj_8.mono hlev_174
   replace hj_9 := hj_9.mono hlev_174
   replace hj_10 := hj_10.mono hlev_174
   replace hj_11 := hj_11.mono hlev_174
   replace hj_12 := hj_12.mono hlev_174
   replace hj_13 := hj_13.mono hlev_174
   replace hj_14 := hj_14.mono hlev_174
   replace hj_15 := hj_15.mono hlev_174
   replace hj_16 := hj_16.mono hlev_174
   replace hj_17 := hj_17.mono hlev_174
   replace hj_18 := hj_18.mono hlev_174
   replace hj_19 := hj_19.mono hlev_174
   obtain ⟨p_378, c_356, cs_356, p_379, c_357, cs_357, hS2_167, rfl, hr_378, hr_379⟩ := hK_167
   replace hS := hS.join hS2_167
   replace hS := hS.move 23 900 rfl (by decide)
   replace hS := hS.move 24 901 rfl (by decide)
   replace hS := hS.weak (ms := [(1, oL (og 0) rv.Starts.length 57 2), (2, oL (og 1) rv.Events.length 66 6), (3, oL (og 2) rv_1.Starts.length 57 2), (4, oL (og 3) rv_1.Events.length 66 6), (5, oL (og 4) rv_2.Starts.length 57 2), (6, oL (og 5) rv_2.Events.length 66 6), (7, oL (og 6) rv_3.Starts.length 57 2), (8, oL (og 7) rv_3.Events.length 66 6), (9, oL (og 8) rv_4.Starts.length 57 2), (10, oL (og 9) rv_4.Events.length 66 6), (11, oL (og 10) rv_5.Starts.length 57 2), (12, oL (og 11) rv_5.Events.length 66 6), (13, oL (og 12) rv_6.Starts.length 57 2), (14, oL (og 13) rv_6.Events.length 66 6), (15, oL (og 14) rv_7.Starts.length 57 2), (16, oL (og 15) rv_7.Events.length 66 6), (17, oL (og 16) rv_8.Starts.length 57 2), (18, oL (og 17) rv_8.Events.length 66 6), (20, oL (og 18) rv_9.Starts.length 57 2), (21, oL (og 19) rv_9.Events.length 66 6), (23, .own p_378 rv_10.Starts.length c_356 cs_356 57 2), (24, .own p_379 rv_10.Events.length c_357 cs_357 66 6)]) (AL rfl)
   refine nT ⟨(hS.weak (ms := []) trivial).weakD (hlev_172.trans (hlev_173.trans hlev_174)) hle0, ?_⟩
   refine oneV (i := 14) rfl ?_ trivial
   refine O.buildLit (E := 25) (cs := [iv 0, .slice none 0 0, .slice none 0 0, iv rv.Ring, oV (og 0) rv.Starts.length, oV (og 1) rv.Events.length, iv rv_1.Ring, oV (og 2) rv_1.Starts.length, oV (og 3) rv_1.Events.length, iv rv_2.Ring, oV (og 4) rv_2.Starts.length, oV (og 5) rv_2.Events.length, iv rv_3.Ring, oV (og 6) rv_3.Starts.length, oV (og 7) rv_3.Events.length, iv rv_4.Ring, oV (og 8) rv_4.Starts.length, oV (og 9) rv_4.Events.length, iv rv_5.Ring, oV (og 10) rv_5.Starts.length, oV (og 11) rv_5.Events.length, iv rv_6.Ring, oV (og 12) rv_6.Starts.length, oV (og 13) rv_6.Events.length, iv rv_7.Ring, oV (og 14) rv_7.Starts.length, oV (og 15) rv_7.Events.length, iv rv_8.Ring, oV (og 16) rv_8.Starts.length, oV (og 17) rv_8.Events.length, iv rv_9.Ring, oV (og 18) rv_9.Starts.length, oV (og 19) rv_9.Events.length, iv rv_10.Ring, .slice p_378 rv_10.Starts.length c_356, .slice p_379 rv_10.Events.length c_357]) (us := [.agg #[iv 0, .slice none 0 0, .slice none 0 0], .agg #[iv rv.Ring, oV (og 0) rv.Starts.length, oV (og 1) rv.Events.length], .agg #[iv rv_1.Ring, oV (og 2) rv_1.Starts.length, oV (og 3) rv_1.Events.length], .agg #[iv rv_2.Ring, oV (og 4) rv_2.Starts.length, oV (og 5) rv_2.Events.length], .agg #[iv rv_3.Ring, oV (og 6) rv_3.Starts.length, oV (og 7) rv_3.Events.length], .agg #[iv rv_4.Ring, oV (og 8) rv_4.Starts.length, oV (og 9) rv_4.Events.length], .agg #[iv rv_5.Ring, oV (og 10) rv_5.Starts.length, oV (og 11) rv_5.Events.length], .agg #[iv rv_6.Ring, oV (og 12) rv_6.Starts.length, oV (og 13) rv_6.Events.length], .agg #[iv rv_7.Ring, oV (og 14) rv_7.Starts.length, oV (og 15) rv_7.Events.length], .agg #[iv rv_8.Ring, oV (og 16) rv_8.Starts.length, oV (og 17) rv_8.Events.length], .agg #[iv rv_9.Ring, oV (og 18) rv_9.Starts.length, oV (og 19) rv_9.Events.length], .agg #[iv rv_10.Ring, .slice p_378 rv_10.Starts.length c_356, .slice p_379 rv_10.Events.length c_357]]) (parts := [(0, (.tmp 60)), (1, (.tmp 61)), (2, (.tmp 62)), (3, (.tmp 63)), (4, (.tmp 64)), (5, (.tmp 65)), (6, (.tmp 66)), (7, (.tmp 67)), (8, (.tmp 68)), (9, (.tmp 69)), (10, (.tmp 71)), (11, (.tmp 73))]) 25 hF hS rfl (by kernel_rfl) rfl fun b_2 a w hF hS => nT ⟨(hS.weak (ms := []) trivial).weakD (hlev_172.trans (hlev_173.trans hlev_174)) hle0, ?_⟩
   refine stepV (i := 15) rfl hF (fun w hS => Y.assign hF rfl) rfl fun a hF => toTailV ⟨Dv_202, b_2, gt3 [og 0, og 1, og 2, og 3, og 4, og 5, og 6, og 7, og 8, og 9, og 10, og 11, og 12, og 13, og 14, og 15, og 16, og 17, og 18, og 19, (p_378, c_356, cs_356), (p_379, c_357, cs_357)], hlev_172.trans (hlev_173.trans hlev_174), hF.weak ⟨rfl, rfl, trivial⟩, hS.weak (AL rfl), hj, hj_1, hj_2, hj_3, hj_4, hj_5, hj_6, hj_7, hj_8, hj_9, hj_10, hj_11, hj_12, hj_13, hj_14, hj_15, hj_16, hj_17, hj_18, hj_19, hr_378, hr_379⟩
  have h3 := fun (a : Act) (w : World) (h : KK w0 D0 (gL [rv, rv_1, rv_2, rv_3, rv_4, rv_5, rv_6, rv_7, rv_8]) rv_9 true a w) => hfw a w (by
    obtain ⟨o, y, u, v, hF, hS, hP, hy, h1, h2⟩ := h
    exact ⟨D0, gt3 [o 0, o 1, o 2, o 3, o 4, o 5, o 6, o 7, o 8, o 9, o 10, o 11, o 12, o 13, o 14, o 15, o 16, o 17, u, v, y], Stab.le.refl _, hF.weak (AF rfl), hS.weak (AL rfl), hP.2.2.2.2.2.2.2.2.2.2.2.2.2.2.2.2.1, hP.2.2.2.2.2.2.2.2.2.2.2.2.2.2.2.2.2.1, hP.2.2.2.2.2.2.2.2.2.2.2.2.2.2.1, hP.2.2.2.2.2.2.2.2.2.2.2.2.2.2.2.1, hP.2.2.2.2.2.2.2.2.2.2.2.2.1, hP.2.2.2.2.2.2.2.2.2.2.2.2.2.1, hP.2.2.2.2.2.2.2.2.2.2.1, hP.2.2.2.2.2.2.2.2.2.2.2.1, hP.2.2.2.2.2.2.2.2.1, hP.2.2.2.2.2.2.2.2.2.1, hP.2.2.2.2.2.2.1, hP.2.2.2.2.2.2.2.1, hP.2.2.2.2.1, hP.2.2.2.2.2.1, hP.2.2.1, hP.2.2.2.1, hP.1, hP.2.1, h1, h2, hy rfl⟩)
  refine haveV (u := w7SlaveKnown_tr1_4) (KK w0 D0 (gL [rv, rv_1, rv_2, rv_3, rv_4, rv_5, rv_6, rv_7, rv_8]) rv_9 false) ?_ fun h4 => ?_
  ·intro a w h
   refine oneV (i := 12) rfl (KK.y hg (fun _ _ _ => AF rfl) (fun _ _ _ _ => AL rfl) h fun a w h => nT ⟨h.T, h3 _ _ h⟩) trivial
  refine haveV (u := w7SlaveKnown_tr1_5) (JJ w0 D0 (gL [rv, rv_1, rv_2, rv_3, rv_4, rv_5, rv_6, rv_7, rv_8]) 9 true true) ?_ fun h5 => ?_
  ·intro a w h
   refine oneV (i := 11) rfl (JJ.last hx_9 h (fun a w h => nT ⟨h.T, h3 _ _ h⟩) (fun _ _ _ _ => AF rfl) (fun _ _ _ _ _ => AL rfl) (fun _ _ _ => rfl) (fun _ _ _ => rfl)) trivial
  refine haveV (u := w7SlaveKnown_tr1_6) (JJ w0 D0 (gL [rv, rv_1, rv_2, rv_3, rv_4, rv_5, rv_6, rv_7, rv_8]) 9 true false) ?_ fun h6 => ?_
  ·intro a w h
   refine oneV (i := 11) rfl (JJ.last hx_9 h (fun a w h => nT ⟨h.T, h4 _ _ h⟩) (fun _ _ _ _ => AF rfl) (fun _ _ _ _ _ => AL rfl) (fun _ _ _ => rfl) (fun _ _ _ => rfl)) (oneV (i := 12) rfl (JJ.y hg (fun _ _ _ => AF rfl) (fun _ _ _ => AL rfl) h fun a w h => nT ⟨h.T, h5 _ _ h⟩) trivial)
  refine haveV (u := w7SlaveKnown_tr1_7) (JJ w0 D0 (gL [rv, rv_1, rv_2, rv_3, rv_4, rv_5, rv_6, rv_7, rv_8]) 9 false true) ?_ fun h7 => ?_
  ·intro a w h
   refine oneV (i := 10) rfl (JJ.x (fun _ _ _ => AF rfl) (fun _ _ _ => AL rfl) h fun a w h => nT ⟨h.T, h5 _ _ h⟩) trivial
  refine haveV (u := w7SlaveKnown_tr1_8) (JJ w0 D0 (gL [rv, rv_1, rv_2, rv_3, rv_4, rv_5, rv_6, rv_7, rv_8]) 8 true true) ?_ fun h8 => ?_
  ·intro a w h
   refine oneV (i := 9) rfl (JJ.call (L := (gL [rv, rv_1, rv_2, rv_3, rv_4, rv_5, rv_6, rv_7, rv_8])) (i := 8) hx_8 rfl h fun a w h => nT ⟨h.T, h5 _ _ h⟩) trivial
  refine haveV (u := w7SlaveKnown_tr1_9) (JJ w0 D0 (gL [rv, rv_1, rv_2, rv_3, rv_4, rv_5, rv_6, rv_7, rv_8]) 9 false false) ?_ fun h9 => ?_
  ·intro a w h
   refine oneV (i := 10) rfl (JJ.x (fun _ _ _ => AF rfl) (fun _ _ _ => AL rfl) h fun a w h => nT ⟨h.T, h6 _ _ h⟩) (oneV (i := 12) rfl (JJ.y hg (fun _ _ _ => AF rfl) (fun _ _ _ => AL rfl) h fun a w h => nT ⟨h.T, h7 _ _ h⟩) trivial)
  refine haveV (u := w7SlaveKnown_tr1_10) (JJ w0 D0 (gL [rv, rv_1, rv_2, rv_3, rv_4, rv_5, rv_6, rv_7, rv_8]) 8 true false) ?_ fun h10 => ?_
  ·intro a w h
   refine oneV (i := 9) rfl (JJ.call (L := (gL [rv, rv_1, rv_2, rv_3, rv_4, rv_5, rv_6, rv_7, rv_8])) (i := 8) hx_8 rfl h fun a w h => nT ⟨h.T, h6 _ _ h⟩) (oneV (i := 12) rfl (JJ.y hg (fun _ _ _ => AF rfl) (fun _ _ _ => AL rfl) h fun a w h => nT ⟨h.T, h8 _ _ h⟩) trivial)
  refine haveV (u := w7SlaveKnown_tr1_11) (JJ w0 D0 (gL [rv, rv_1, rv_2, rv_3, rv_4, rv_5, rv_6, rv_7, rv_8]) 8 false true) ?_ fun h11 => ?_
  ·intro a w h
   refine oneV (i := 9) rfl (JJ.call (L := (gL [rv, rv_1, rv_2, rv_3, rv_4, rv_5, rv_6, rv_7, rv_8])) (i := 8) hx_8 rfl h fun a w h => nT ⟨h.T, h7 _ _ h⟩) (oneV (i := 10) rfl (JJ.x (fun _ _ _ => AF rfl) (fun _ _ _ => AL rfl) h fun a w h => nT ⟨h.T, h8 _ _ h⟩) trivial)
  refine haveV (u := w7SlaveKnown_tr1_12) (JJ w0 D0 (gL [rv, rv_1, rv_2, rv_3, rv_4, rv_5, rv_6, rv_7, rv_8]) 7 true true) ?_ fun h12 => ?_
  ·intro a w h
   refine oneV (i := 8) rfl (JJ.call (L := (gL [rv, rv_1, rv_2, rv_3, rv_4, rv_5, rv_6, rv_7, rv_8])) (i := 7) hx_7 rfl h fun a w h => nT ⟨h.T, h8 _ _ h⟩) trivial
  refine haveV (u := w7SlaveKnown_tr1_13) (JJ w0 D0 (gL [rv, rv_1, rv_2, rv_3, rv_4, rv_5, rv_6, rv_7, rv_8]) 8 false false) ?_ fun h13 => ?_
  ·intro a w h
   refine oneV (i := 9) rfl (JJ.call (L := (gL [rv, rv_1, rv_2, rv_3, rv_4, rv_5, rv_6, rv_7, rv_8])) (i := 8) hx_8 rfl h fun a w h => nT ⟨h.T, h9 _ _ h⟩) (oneV (i := 10) rfl (JJ.x (fun _ _ _ => AF rfl) (fun _ _ _ => AL rfl) h fun a w h => nT ⟨h.T, h10 _ _ h⟩) (oneV (i := 12) rfl (JJ.y hg (fun _ _ _ => AF rfl) (fun _ _ _ => AL rfl) h fun a w h => nT ⟨h.T, h11 _ _ h⟩) trivial))
  refine haveV (u := w7SlaveKnown_tr1_14) (JJ w0 D0 (gL [rv, rv_1, rv_2, rv_3, rv_4, rv_5, rv_6, rv_7, rv_8]) 7 true false) ?_ fun h14 => ?_
  ·intro a w h
   refine oneV (i := 8) rfl (JJ.call (L := (gL [rv, rv_1, rv_2, rv_3, rv_4, rv_5, rv_6, rv_7, rv_8])) (i := 7) hx_7 rfl h fun a w h => nT ⟨h.T, h10 _ _ h⟩) (oneV (i := 12) rfl (JJ.y hg (fun _ _ _ => AF rfl) (fun _ _ _ => AL rfl) h fun a w h => nT ⟨h.T, h12 _ _ h⟩) trivial)
  refine haveV (u := w7SlaveKnown_tr1_15) (JJ w0 D0 (gL [rv, rv_1, rv_2, rv_3, rv_4, rv_5, rv_6, rv_7, rv_8]) 7 false true) ?_ fun h15 => ?_
  ·intro a w h
   refine oneV (i := 8) rfl (JJ.call (L := (gL [rv, rv_1, rv_2, rv_3, rv_4, rv_5, rv_6, rv_7, rv_8])) (i := 7) hx_7 rfl h fun a w h => nT ⟨h.T, h11 _ _ h⟩) (oneV (i := 10) rfl (JJ.x (fun _ _ _ => AF rfl) (fun _ _ _ => AL rfl) h fun a w h => nT ⟨h.T, h12 _ _ h⟩) trivial)
  refine haveV (u := w7SlaveKnown_tr1_16) (JJ w0 D0 (gL [rv, rv_1, rv_2, rv_3, rv_4, rv_5, rv_6, rv_7, rv_8]) 6 true true) ?_ fun h16 => ?_
  ·intro a w h
   refine oneV (i := 7) rfl (JJ.call (L := (gL [rv, rv_1, rv_2, rv_3, rv_4, rv_5, rv_6, rv_7, rv_8])) (i := 6) hx_6 rfl h fun a w h => nT ⟨h.T, h12 _ _ h⟩) trivial
  refine haveV (u := w7SlaveKnown_tr1_17) (JJ w0 D0 (gL [rv, rv_1, rv_2, rv_3, rv_4, rv_5, rv_6, rv_7, rv_8]) 7 false false) ?_ fun h17 => ?_
  ·intro a w h
   refine oneV (i := 8) rfl (JJ.call (L := (gL [rv, rv_1, rv_2, rv_3, rv_4, rv_5, rv_6, rv_7, rv_8])) (i := 7) hx_7 rfl h fun a w h => nT ⟨h.T, h13 _ _ h⟩) (oneV (i := 10) rfl (JJ.x (fun _ _ _ => AF rfl) (fun _ _ _ => AL rfl) h fun a w h => nT ⟨h.T, h14 _ _ h⟩) (oneV (i := 12) rfl (JJ.y hg (fun _ _ _ => AF rfl) (fun _ _ _ => AL rfl) h fun a w h => nT ⟨h.T, h15 _ _ h⟩) trivial))
  refine haveV (u := w7SlaveKnown_tr1_18) (JJ w0 D0 (gL [rv, rv_1, rv_2, rv_3, rv_4, rv_5, rv_6, rv_7, rv_8]) 6 true false) ?_ fun h18 => ?_
  ·intro a w h
   refine oneV (i := 7) rfl (JJ.call (L := (gL [rv, rv_1, rv_2, rv_3, rv_4, rv_5, rv_6, rv_7, rv_8])) (i := 6) hx_6 rfl h fun a w h => nT ⟨h.T, h14 _ _ h⟩) (oneV (i := 12) rfl (JJ.y hg (fun _ _ _ => AF rfl) (fun _ _ _ => AL rfl) h fun a w h => nT ⟨h.T, h16 _ _ h⟩) trivial)
  refine haveV (u := w7SlaveKnown_tr1_19) (JJ w0 D0 (gL [rv, rv_1, rv_2, rv_3, rv_4, rv_5, rv_6, rv_7, rv_8]) 6 false true) ?_ fun h19 => ?_
  ·intro a w h
   refine oneV (i := 7) rfl (JJ.call (L := (gL [rv, rv_1, rv_2, rv_3, rv_4, rv_5, rv_6, rv_7, rv_8])) (i := 6) hx_6 rfl h fun a w h => nT ⟨h.T, h15 _ _ h⟩) (oneV (i := 10) rfl (JJ.x (fun _ _ _ => AF rfl) (fun _ _ _ => AL rfl) h fun a w h => nT ⟨h.T, h16 _ _ h⟩) trivial)
  refine haveV (u := w7SlaveKnown_tr1_20) (JJ w0 D0 (gL [rv, rv_1, rv_2, rv_3, rv_4, rv_5, rv_6, rv_7, rv_8]) 5 true true) ?_ fun h20 => ?_
  ·intro a w h
   refine oneV (i := 6) rfl (JJ.call (L := (gL [rv, rv_1, rv_2, rv_3, rv_4, rv_5, rv_6, rv_7, rv_8])) (i := 5) hx_5 rfl h fun a w h => nT ⟨h.T, h16 _ _ h⟩) trivial
  refine haveV (u := w7SlaveKnown_tr1_21) (JJ w0 D0 (gL [rv, rv_1, rv_2, rv_3, rv_4, rv_5, rv_6, rv_7, rv_8]) 6 false false) ?_ fun h21 => ?_
  ·intro a w h
   refine oneV (i := 7) rfl (JJ.call (L := (gL [rv, rv_1, rv_2, rv_3, rv_4, rv_5, rv_6, rv_7, rv_8])) (i := 6) hx_6 rfl h fun a w h => nT ⟨h.T, h17 _ _ h⟩) (oneV (i := 10) rfl (JJ.x (fun _ _ _ => AF rfl) (fun _ _ _ => AL rfl) h fun a w h => nT ⟨h.T, h18 _ _ h⟩) (oneV (i := 12) rfl (JJ.y hg (fun _ _ _ => AF rfl) (fun _ _ _ => AL rfl) h fun a w h => nT ⟨h.T, h19 _ _ h⟩) trivial))
  refine haveV (u := w7SlaveKnown_tr1_22) (JJ w0 D0 (gL [rv, rv_1, rv_2, rv_3, rv_4, rv_5, rv_6, rv_7, rv_8]) 5 true false) ?_ fun h22 => ?_
  ·intro a w h
   refine oneV (i := 6) rfl (JJ.call (L := (gL [rv, rv_1, rv_2, rv_3, rv_4, rv_5, rv_6, rv_7, rv_8])) (i := 5) hx_5 rfl h fun a w h => nT ⟨h.T, h18 _ _ h⟩) (oneV (i := 12) rfl (JJ.y hg (fun _ _ _ => AF rfl) (fun _ _ _ => AL rfl) h fun a w h => nT ⟨h.T, h20 _ _ h⟩) trivial)
  refine haveV (u := w7SlaveKnown_tr1_23) (JJ w0 D0 (gL [rv, rv_1, rv_2, rv_3, rv_4, rv_5, rv_6, rv_7, rv_8]) 5 false true) ?_ fun h23 => ?_
  ·intro a w h
   refine oneV (i := 6) rfl (JJ.call (L := (gL [rv, rv_1, rv_2, rv_3, rv_4, rv_5, rv_6, rv_7, rv_8])) (i := 5) hx_5 rfl h fun a w h => nT ⟨h.T, h19 _ _ h⟩) (oneV (i := 10) rfl (JJ.x (fun _ _ _ => AF rfl) (fun _ _ _ => AL rfl) h fun a w h => nT ⟨h.T, h20 _ _ h⟩) trivial)
  refine haveV (u := w7SlaveKnown_tr1_24) (JJ w0 D0 (gL [rv, rv_1, rv_2, rv_3, rv_4, rv_5, rv_6, rv_7, rv_8]) 4 true true) ?_ fun h24 => ?_
  ·intro a w h
   refine oneV (i := 5) rfl (JJ.call (L := (gL [rv, rv_1, rv_2, rv_3, rv_4, rv_5, rv_6, rv_7, rv_8])) (i := 4) hx_4 rfl h fun a w h => nT ⟨h.T, h20 _ _ h⟩) trivial
  refine haveV (u := w7SlaveKnown_tr1_25) (JJ w0 D0 (gL [rv, rv_1, rv_2, rv_3, rv_4, rv_5, rv_6, rv_7, rv_8]) 5 false false) ?_ fun h25 => ?_
  ·intro a w h
   refine oneV (i := 6) rfl (JJ.call (L := (gL [rv, rv_1, rv_2, rv_3, rv_4, rv_5, rv_6, rv_7, rv_8])) (i := 5) hx_5 rfl h fun a w h => nT ⟨h.T, h21 _ _ h⟩) (oneV (i := 10) rfl (JJ.x (fun _ _ _ => AF rfl) (fun _ _ _ => AL rfl) h fun a w h => nT ⟨h.T, h22 _ _ h⟩) (oneV (i := 12) rfl (JJ.y hg (fun _ _ _ => AF rfl) (fun _ _ _ => AL rfl) h fun a w h => nT ⟨h.T, h23 _ _ h⟩) trivial))
  refine haveV (u := w7SlaveKnown_tr1_26) (JJ w0 D0 (gL [rv, rv_1, rv_2, rv_3, rv_4, rv_5, rv_6, rv_7, rv_8]) 4 true false) ?_ fun h26 => ?_
  ·intro a w h
   refine oneV (i := 5) rfl (JJ.call (L := (gL [rv, rv_1, rv_2, rv_3, rv_4, rv_5, rv_6, rv_7, rv_8])) (i := 4) hx_4 rfl h fun a w h => nT ⟨h.T, h22 _ _ h⟩) (oneV (i := 12) rfl (JJ.y hg (fun _ _ _ => AF rfl) (fun _ _ _ => AL rfl) h fun a w h => nT ⟨h.T, h24 _ _ h⟩) trivial)
  refine haveV (u := w7SlaveKnown_tr1_27) (JJ w0 D0 (gL [rv, rv_1, rv_2, rv_3, rv_4, rv_5, rv_6, rv_7, rv_8]) 4 false true) ?_ fun h27 => ?_
  ·intro a w h
   refine oneV (i := 5) rfl (JJ.call (L := (gL [rv, rv_1, rv_2, rv_3, rv_4, rv_5, rv_6, rv_7, rv_8])) (i := 4) hx_4 rfl h fun a w h => nT ⟨h.T, h23 _ _ h⟩) (oneV (i := 10) rfl (JJ.x (fun _ _ _ => AF rfl) (fun _ _ _ => AL rfl) h fun a w h => nT ⟨h.T, h24 _ _ h⟩) trivial)
  refine haveV (u := w7SlaveKnown_tr1_28) (JJ w0 D0 (gL [rv, rv_1, rv_2, rv_3, rv_4, rv_5, rv_6, rv_7, rv_8]) 3 true true) ?_ fun h28 => ?_
  ·intro a w h
   refine oneV (i := 4) rfl (JJ.call (L := (gL [rv, rv_1, rv_2, rv_3, rv_4, rv_5, rv_6, rv_7, rv_8])) (i := 3) hx_3 rfl h fun a w h => nT ⟨h.T, h24 _ _ h⟩) trivial
  refine haveV (u := w7SlaveKnown_tr1_29) (JJ w0 D0 (gL [rv, rv_1, rv_2, rv_3, rv_4, rv_5, rv_6, rv_7, rv_8]) 4 false false) ?_ fun h29 => ?_
  ·intro a w h
   refine oneV (i := 5) rfl (JJ.call (L := (gL [rv, rv_1, rv_2, rv_3, rv_4, rv_5, rv_6, rv_7, rv_8])) (i := 4) hx_4 rfl h fun a w h => nT ⟨h.T, h25 _ _ h⟩) (oneV (i := 10) rfl (JJ.x (fun _ _ _ => AF rfl) (fun _ _ _ => AL rfl) h fun a w h => nT ⟨h.T, h26 _ _ h⟩) (oneV (i := 12) rfl (JJ.y hg (fun _ _ _ => AF rfl) (fun _ _ _ => AL rfl) h fun a w h => nT ⟨h.T, h27 _ _ h⟩) trivial))
  refine haveV (u := w7SlaveKnown_tr1_30) (JJ w0 D0 (gL [rv, rv_1, rv_2, rv_3, rv_4, rv_5, rv_6, rv_7, rv_8]) 3 true false) ?_ fun h30 => ?_
  ·intro a w h
   refine oneV (i := 4) rfl (JJ.call (L := (gL [rv, rv_1, rv_2, rv_3, rv_4, rv_5, rv_6, rv_7, rv_8])) (i := 3) hx_3 rfl h fun a w h => nT ⟨h.T, h26 _ _ h⟩) (oneV (i := 12) rfl (JJ.y hg (fun _ _ _ => AF rfl) (fun _ _ _ => AL rfl) h fun a w h => nT ⟨h.T, h28 _ _ h⟩) trivial)
  refine haveV (u := w7SlaveKnown_tr1_31) (JJ w0 D0 (gL [rv, rv_1, rv_2, rv_3, rv_4, rv_5, rv_6, rv_7, rv_8]) 3 false true) ?_ fun h31 => ?_
  ·intro a w h
   refine oneV (i := 4) rfl (JJ.call (L := (gL [rv, rv_1, rv_2, rv_3, rv_4, rv_5, rv_6, rv_7, rv_8])) (i := 3) hx_3 rfl h fun a w h => nT ⟨h.T, h27 _ _ h⟩) (oneV (i := 10) rfl (JJ.x (fun _ _ _ => AF rfl) (fun _ _ _ => AL rfl) h fun a w h => nT ⟨h.T, h28 _ _ h⟩) trivial)
  refine haveV (u := w7SlaveKnown_tr1_32) (JJ w0 D0 (gL [rv, rv_1, rv_2, rv_3, rv_4, rv_5, rv_6, rv_7, rv_8]) 2 true true) ?_ fun h32 => ?_
  ·intro a w h
   refine oneV (i := 3) rfl (JJ.call (L := (gL [rv, rv_1, rv_2, rv_3, rv_4, rv_5, rv_6, rv_7, rv_8])) (i := 2) hx_2 rfl h fun a w h => nT ⟨h.T, h28 _ _ h⟩) trivial
  refine haveV (u := w7SlaveKnown_tr1_33) (JJ w0 D0 (gL [rv, rv_1, rv_2, rv_3, rv_4, rv_5, rv_6, rv_7, rv_8]) 3 false false) ?_ fun h33 => ?_
  ·intro a w h
   refine oneV (i := 4) rfl (JJ.call (L := (gL [rv, rv_1, rv_2, rv_3, rv_4, rv_5, rv_6, rv_7, rv_8])) (i := 3) hx_3 rfl h fun a w h => nT ⟨h.T, h29 _ _ h⟩) (oneV (i := 10) rfl (JJ.x (fun _ _ _ => AF rfl) (fun _ _ _ => AL rfl) h fun a w h => nT ⟨h.T, h30 _ _ h⟩) (oneV (i := 12) rfl (JJ.y hg (fun _ _ _ => AF rfl) (fun _ _ _ => AL rfl) h fun a w h => nT ⟨h.T, h31 _ _ h⟩) trivial))
  refine haveV (u := w7SlaveKnown_tr1_34) (JJ w0 D0 (gL [rv, rv_1, rv_2, rv_3, rv_4, rv_5, rv_6, rv_7, rv_8]) 2 true false) ?_ fun h34 => ?_
  ·intro a w h
   refine oneV (i := 3) rfl (JJ.call (L := (gL [rv, rv_1, rv_2, rv_3, rv_4, rv_5, rv_6, rv_7, rv_8])) (i := 2) hx_2 rfl h fun a w h => nT ⟨h.T, h30 _ _ h⟩) (oneV (i := 12) rfl (JJ.y hg (fun _ _ _ => AF rfl) (fun _ _ _ => AL rfl) h fun a w h => nT ⟨h.T, h32 _ _ h⟩) trivial)
  refine haveV (u := w7SlaveKnown_tr1_35) (JJ w0 D0 (gL [rv, rv_1, rv_2, rv_3, rv_4, rv_5, rv_6, rv_7, rv_8]) 2 false true) ?_ fun h35 => ?_
  ·intro a w h
   refine oneV (i := 3) rfl (JJ.call (L := (gL [rv, rv_1, rv_2, rv_3, rv_4, rv_5, rv_6, rv_7, rv_8])) (i := 2) hx_2 rfl h fun a w h => nT ⟨h.T, h31 _ _ h⟩) (oneV (i := 10) rfl (JJ.x (fun _ _ _ => AF rfl) (fun _ _ _ => AL rfl) h fun a w h => nT ⟨h.T, h32 _ _ h⟩) trivial)
  refine haveV (u := w7SlaveKnown_tr1_36) (JJ w0 D0 (gL [rv, rv_1, rv_2, rv_3, rv_4, rv_5, rv_6, rv_7, rv_8]) 1 true true) ?_ fun h36 => ?_
  ·intro a w h
   refine oneV (i := 2) rfl (JJ.call (L := (gL [rv, rv_1, rv_2, rv_3, rv_4, rv_5, rv_6, rv_7, rv_8])) (i := 1) hx_1 rfl h fun a w h => nT ⟨h.T, h32 _ _ h⟩) trivial
  refine haveV (u := w7SlaveKnown_tr1_37) (JJ w0 D0 (gL [rv, rv_1, rv_2, rv_3, rv_4, rv_5, rv_6, rv_7, rv_8]) 2 false false) ?_ fun h37 => ?_
  ·intro a w h
   refine oneV (i := 3) rfl (JJ.call (L := (gL [rv, rv_1, rv_2, rv_3, rv_4, rv_5, rv_6, rv_7, rv_8])) (i := 2) hx_2 rfl h fun a w h => nT ⟨h.T, h33 _ _ h⟩) (oneV (i := 10) rfl (JJ.x (fun _ _ _ => AF rfl) (fun _ _ _ => AL rfl) h fun a w h => nT ⟨h.T, h34 _ _ h⟩) (oneV (i := 12) rfl (JJ.y hg (fun _ _ _ => AF rfl) (fun _ _ _ => AL rfl) h fun a w h => nT ⟨h.T, h35 _ _ h⟩) trivial))
  refine haveV (u := w7SlaveKnown_tr1_38) (JJ w0 D0 (gL [rv, rv_1, rv_2, rv_3, rv_4, rv_5, rv_6, rv_7, rv_8]) 1 true false) ?_ fun h38 => ?_
  ·intro a w h
   refine oneV (i := 2) rfl (JJ.call (L := (gL [rv, rv_1, rv_2, rv_3, rv_4, rv_5, rv_6, rv_7, rv_8])) (i := 1) hx_1 rfl h fun a w h => nT ⟨h.T, h34 _ _ h⟩) (oneV (i := 12) rfl (JJ.y hg (fun _ _ _ => AF rfl) (fun _ _ _ => AL rfl) h fun a w h => nT ⟨h.T, h36 _ _ h⟩) trivial)
  refine haveV (u := w7SlaveKnown_tr1_39) (JJ w0 D0 (gL [rv, rv_1, rv_2, rv_3, rv_4, rv_5, rv_6, rv_7, rv_8]) 1 false true) ?_ fun h39 => ?_
  ·intro a w h
   refine oneV (i := 2) rfl (JJ.call (L := (gL [rv, rv_1, rv_2, rv_3, rv_4, rv_5, rv_6, rv_7, rv_8])) (i := 1) hx_1 rfl h fun a w h => nT ⟨h.T, h35 _ _ h⟩) (oneV (i := 10) rfl (JJ.x (fun _ _ _ => AF rfl) (fun _ _ _ => AL rfl) h fun a w h => nT ⟨h.T, h36 _ _ h⟩) trivial)
  refine haveV (u := w7SlaveKnown_tr1_40) (JJ w0 D0 (gL [rv, rv_1, rv_2, rv_3, rv_4, rv_5, rv_6, rv_7, rv_8]) 0 true true) ?_ fun h40 => ?_
  ·intro a w h
   refine oneV (i := 1) rfl (JJ.call (L := (gL [rv, rv_1, rv_2, rv_3, rv_4, rv_5, rv_6, rv_7, rv_8])) (i := 0) hx rfl h fun a w h => nT ⟨h.T, h36 _ _ h⟩) trivial
  refine haveV (u := w7SlaveKnown_tr1_41) (JJ w0 D0 (gL [rv, rv_1, rv_2, rv_3, rv_4, rv_5, rv_6, rv_7, rv_8]) 1 false false) ?_ fun h41 => ?_
  ·intro a w h
   refine oneV (i := 2) rfl (JJ.call (L := (gL [rv, rv_1, rv_2, rv_3, rv_4, rv_5, rv_6, rv_7, rv_8])) (i := 1) hx_1 rfl h fun a w h => nT ⟨h.T, h37 _ _ h⟩) (oneV (i := 10) rfl (JJ.x (fun _ _ _ => AF rfl) (fun _ _ _ => AL rfl) h fun a w h => nT ⟨h.T, h38 _ _ h⟩) (oneV (i := 12) rfl (JJ.y hg (fun _ _ _ => AF rfl) (fun _ _ _ => AL rfl) h fun a w h => nT ⟨h.T, h39 _ _ h⟩) trivial))
  refine haveV (u := w7SlaveKnown_tr1_42) (JJ w0 D0 (gL [rv, rv_1, rv_2, rv_3, rv_4, rv_5, rv_6, rv_7, rv_8]) 0 true false) ?_ fun h42 => ?_
  ·intro a w h
   refine oneV (i := 1) rfl (JJ.call (L := (gL [rv, rv_1, rv_2, rv_3, rv_4, rv_5, rv_6, rv_7, rv_8])) (i := 0) hx rfl h fun a w h => nT ⟨h.T, h38 _ _ h⟩) (oneV (i := 12) rfl (JJ.y hg (fun _ _ _ => AF rfl) (fun _ _ _ => AL rfl) h fun a w h => nT ⟨h.T, h40 _ _ h⟩) trivial)
  refine haveV (u := w7SlaveKnown_tr1_43) (JJ w0 D0 (gL [rv, rv_1, rv_2, rv_3, rv_4, rv_5, rv_6, rv_7, rv_8]) 0 false true) ?_ fun h43 => ?_
  ·intro a w h
   refine oneV (i := 1) rfl (JJ.call (L := (gL [rv, rv_1, rv_2, rv_3, rv_4, rv_5, rv_6, rv_7, rv_8])) (i := 0) hx rfl h fun a w h => nT ⟨h.T, h39 _ _ h⟩) (oneV (i := 10) rfl (JJ.x (fun _ _ _ => AF rfl) (fun _ _ _ => AL rfl) h fun a w h => nT ⟨h.T, h40 _ _ h⟩) trivial)
  refine haveV (u := w7SlaveKnown_tr1_44) (JJ w0 D0 (gL [rv, rv_1, rv_2, rv_3, rv_4, rv_5, rv_6, rv_7, rv_8]) 0 false false) ?_ fun h44 => ?_
  ·intro a w h
   refine oneV (i := 1) rfl (JJ.call (L := (gL [rv, rv_1, rv_2, rv_3, rv_4, rv_5, rv_6, rv_7, rv_8])) (i := 0) hx rfl h fun a w h => nT ⟨h.T, h41 _ _ h⟩) (oneV (i := 10) rfl (JJ.x (fun _ _ _ => AF rfl) (fun _ _ _ => AL rfl) h fun a w h => nT ⟨h.T, h42 _ _ h⟩) (oneV (i := 12) rfl (JJ.y hg (fun _ _ _ => AF rfl) (fun _ _ _ => AL rfl) h fun a w h => nT ⟨h.T, h43 _ _ h⟩) trivial))
  replace hS := hS0
  refine stepV (i := 0) rfl hF (fun w hS => Y.build (parts := []) (cs := #[iv 0, .slice none 0 0, .slice none 0 0]) hF rfl (by kernel_rfl)) rfl fun a hF => h44 _ _ ⟨fun _ => (none, 0, []), (none, 0, []), (none, 0, []), hF, hS, trivial, fun h => by cases h⟩
 rintro a w ⟨Dv_200, b_1, og_29, hlev_243, hF, hS, hjs⟩
 have hj_329 := hjs.1
 have hj_330 := hjs.2.1
 have hj_331 := hjs.2.2.1
 have hj_332 := hjs.2.2.2.1
 have hj_333 := hjs.2.2.2.2.1
 have hj_334 := hjs.2.2.2.2.2.1
 have hj_335 := hjs.2.2.2.2.2.2.1
 have hj_336 := hjs.2.2.2.2.2.2.2.1
 have hj_337 := hjs.2.2.2.2.2.2.2.2.1
 have hj_338 := hjs.2.2.2.2.2.2.2.2.2.1
 have hj_339 := hjs.2.2.2.2.2.2.2.2.2.2.1
 have hj_340 := hjs.2.2.2.2.2.2.2.2.2.2.2.1
 have hj_341 := hjs.2.2.2.2.2.2.2.2.2.2.2.2.1
 have hj_342 := hjs.2.2.2.2.2.2.2.2.2.2.2.2.2.1
 have hj_343 := hjs.2.2.2.2.2.2.2.2.2.2.2.2.2.2.1
 have hj_344 := hjs.2.2.2.2.2.2.2.2.2.2.2.2.2.2.2.1
 have hj_345 := hjs.2.2.2.2.2.2.2.2.2.2.2.2.2.2.2.2.1
 have hj_346 := hjs.2.2.2.2.2.2.2.2.2.2.2.2.2.2.2.2.2.1
 have hj_347 := hjs.2.2.2.2.2.2.2.2.2.2.2.2.2.2.2.2.2.2.1
 have hj_348 := hjs.2.2.2.2.2.2.2.2.2.2.2.2.2.2.2.2.2.2.2.1
 have hj_349 := hjs.2.2.2.2.2.2.2.2.2.2.2.2.2.2.2.2.2.2.2.2.1
 have hj_350 := hjs.2.2.2.2.2.2.2.2.2.2.2.2.2.2.2.2.2.2.2.2.2
 replace hG := hG.mono hlev_243
 refine nT (seq (region (step hF (Y.move hF rfl) rfl fun a hF => step hF (Y.indexSl u_82 sz_25 hF rfl rfl (by decide) (by decide)) rfl fun a hF => step hF (Y.fieldAddr fo_25_0 hF rfl) rfl fun a hF => O.store (us := [iv 61]) 25 sz_3 hF rfl rfl rfl rfl hS rfl rfl fun a w hF hS => nT (seq (region (step hF (Y.move hF rfl) rfl fun a hF => step hF (Y.indexSl u_82 sz_25 hF rfl rfl (by decide) (by decide)) rfl fun a hF => step hF (Y.fieldAddr fo_25_1 hF rfl) rfl fun a hF => O.store (us := [.slice none 0 0]) 25 sz_22 hF rfl rfl rfl rfl hS rfl rfl fun a w hF hS => ?_))))))
 replace hS := hS.ownNil 26 57 2
 refine nT (seq (region (step hF (Y.move hF rfl) rfl fun a hF => step hF (Y.indexSl u_82 sz_25 hF rfl rfl (by decide) (by decide)) rfl fun a hF => step hF (Y.fieldAddr fo_25_1 hF rfl) rfl fun a hF => step hF (Y.load1L 25 sz_22 hF rfl hS rfl rfl) rfl fun a hF => ?_)))
 replace h := ndet h
 obtain ⟨e, hx_11, h⟩ := h
 obtain ⟨b_3, hp⟩ := hS.ownPtr (i := 5) rfl (idx_rng hx_11)
 obtain ⟨cc, hc, hsub⟩ := ownElI (C := C_SlaveStart) hj_333 hx_11
 obtain rfl := C_SlaveStart.open hc
 refine step hF (Y.indexOwn hp u_22 sz_57 (idx_rng hx_11) hF rfl rfl) rfl fun a hF => step hF (Y.fieldAddr fo_57_0 hF rfl) rfl fun a hF => O.storePart (C := C_SlaveStart) (v0 := (SlaveStart.mk 12 e.Last)) (x0 := e) (xs := rv_2.Starts) (us := [iv 12]) (k := 0) 5 hp sz_3 (idx_rng hx_11) hF rfl rfl rfl rfl hx_11 (fun c0 h => by obtain rfl := C_SlaveStart.open h; rfl) (show 0 + 1 ≤ 2 by decide) hS rfl hj_333 fun cs_455 a w hF hS hr_497 => ?_
 try rw [show rv_2.Starts.length = (rv_2.Starts.set (Int.toNat 0) (SlaveStart.mk 12 e.Last)).length from List.length_set.symm] at hF
 try rw [show rv_2.Starts.length = (rv_2.Starts.set (Int.toNat 0) (SlaveStart.mk 12 e.Last)).length from List.length_set.symm] at hS
 refine nT (seq (region (step hF (Y.move hF rfl) rfl fun a hF => step hF (Y.indexSl u_82 sz_25 hF rfl rfl (by decide) (by decide)) rfl fun a hF => step hF (Y.fieldAddr fo_25_1 hF rfl) rfl fun a hF => step hF (Y.load1L 25 sz_22 hF rfl hS rfl rfl) rfl fun a hF => ?_)))
 replace h := ndet h
 obtain ⟨e_1, hx_12, h⟩ := h
 obtain ⟨b_4, hp_1⟩ := hS.ownPtr (i := 7) rfl (idx_rng hx_12)
 obtain ⟨cc_1, hc_1, hsub_1⟩ := ownElI (C := C_SlaveStart) hj_335 hx_12
 obtain rfl := C_SlaveStart.open hc_1
 refine step hF (Y.indexOwn hp_1 u_22 sz_57 (idx_rng hx_12) hF rfl rfl) rfl fun a hF => step hF (Y.fieldAddr fo_57_1 hF rfl) rfl fun a hF => O.storePart (C := C_SlaveStart) (v0 := (SlaveStart.mk e_1.Shown 2)) (x0 := e_1) (xs := rv_3.Starts) (us := [iv 2]) (k := 1) 7 hp_1 sz_3 (idx_rng hx_12) hF rfl rfl rfl rfl hx_12 (fun c0 h => by obtain rfl := C_SlaveStart.open h; rfl) (show 1 + 1 ≤ 2 by decide) hS rfl hj_335 fun cs_456 a w hF hS hr_498 => ?_
 try rw [show rv_3.Starts.length = (rv_3.Starts.set (Int.toNat 0) (SlaveStart.mk e_1.Shown 2)).length from List.length_set.symm] at hF
 try rw [show rv_3.Starts.length = (rv_3.Starts.set (Int.toNat 0) (SlaveStart.mk e_1.Shown 2)).length from List.length_set.symm] at hS
 refine nT (seq (region (step hF (Y.move hF rfl) rfl fun a hF => step hF (Y.indexSl u_82 sz_25 hF rfl rfl (by decide) (by decide)) rfl fun a hF => step hF (Y.fieldAddr fo_25_2 hF rfl) rfl fun a hF => step hF (Y.load1L 25 sz_23 hF rfl hS rfl rfl) rfl fun a hF => ?_)))
 replace h := ndet h
 obtain ⟨e_2, hx_13, h⟩ := h
 obtain ⟨b_5, hp_2⟩ := hS.ownPtr (i := 10) rfl (idx_rng hx_13)
 obtain ⟨cc_2, hc_2, hsub_2⟩ := ownElI (C := C_SlaveEvent) hj_338 hx_13
 obtain rfl := C_SlaveEvent.open hc_2
 refine step hF (Y.indexOwn hp_2 u_23 sz_66 (idx_rng hx_13) hF rfl rfl) rfl fun a hF => step hF (Y.fieldAddr fo_66_0 hF rfl) rfl fun a hF => O.storePart (C := C_SlaveEvent) (v0 := (SlaveEvent.mk 3 e_2.First e_2.Count e_2.Lost e_2.Who e_2.Shown)) (x0 := e_2) (xs := rv_4.Events) (us := [iv 3]) (k := 0) 10 hp_2 sz_3 (idx_rng hx_13) hF rfl rfl rfl rfl hx_13 (fun c0 h => by obtain rfl := C_SlaveEvent.open h; rfl) (show 0 + 1 ≤ 6 by decide) hS rfl hj_338 fun cs_457 a w hF hS hr_499 => ?_
 try rw [show rv_4.Events.length = (rv_4.Events.set (Int.toNat 0) (SlaveEvent.mk 3 e_2.First e_2.Count e_2.Lost e_2.Who e_2.Shown)).length from List.length_set.symm] at hF
 try rw [show rv_4.Events.length = (rv_4.Events.set (Int.toNat 0) (SlaveEvent.mk 3 e_2.First e_2.Count e_2.Lost e_2.Who e_2.Shown)).length from List.length_set.symm] at hS
 refine nT (seq (region (step hF (Y.move hF rfl) rfl fun a hF => step hF (Y.indexSl u_82 sz_25 hF rfl rfl (by decide) (by decide)) rfl fun a hF => step hF (Y.fieldAddr fo_25_2 hF rfl) rfl fun a hF => step hF (Y.load1L 25 sz_23 hF rfl hS rfl rfl) rfl fun a hF => ?_)))
 replace h := ndet h
 obtain ⟨e_3, hx_14, h⟩ := h
 obtain ⟨b_6, hp_3⟩ := hS.ownPtr (i := 12) rfl (idx_rng hx_14)
 obtain ⟨cc_3, hc_3, hsub_3⟩ := ownElI (C := C_SlaveEvent) hj_340 hx_14
 obtain rfl := C_SlaveEvent.open hc_3
 refine step hF (Y.indexOwn hp_3 u_23 sz_66 (idx_rng hx_14) hF rfl rfl) rfl fun a hF => step hF (Y.fieldAddr fo_66_1 hF rfl) rfl fun a hF => O.storePart (C := C_SlaveEvent) (v0 := (SlaveEvent.mk e_3.Kind 2 e_3.Count e_3.Lost e_3.Who e_3.Shown)) (x0 := e_3) (xs := rv_5.Events) (us := [iv 2]) (k := 1) 12 hp_3 sz_3 (idx_rng hx_14) hF rfl rfl rfl rfl hx_14 (fun c0 h => by obtain rfl := C_SlaveEvent.open h; rfl) (show 1 + 1 ≤ 6 by decide) hS rfl hj_340 fun cs_458 a w hF hS hr_500 => ?_
 try rw [show rv_5.Events.length = (rv_5.Events.set (Int.toNat 0) (SlaveEvent.mk e_3.Kind 2 e_3.Count e_3.Lost e_3.Who e_3.Shown)).length from List.length_set.symm] at hF
 try rw [show rv_5.Events.length = (rv_5.Events.set (Int.toNat 0) (SlaveEvent.mk e_3.Kind 2 e_3.Count e_3.Lost e_3.Who e_3.Shown)).length from List.length_set.symm] at hS
 refine nT (seq (region (step hF (Y.move hF rfl) rfl fun a hF => step hF (Y.indexSl u_82 sz_25 hF rfl rfl (by decide) (by decide)) rfl fun a hF => step hF (Y.fieldAddr fo_25_2 hF rfl) rfl fun a hF => step hF (Y.load1L 25 sz_23 hF rfl hS rfl rfl) rfl fun a hF => ?_)))
 replace h := ndet h
 obtain ⟨e_4, hx_15, h⟩ := h
 obtain ⟨b_7, hp_4⟩ := hS.ownPtr (i := 14) rfl (idx_rng hx_15)
 obtain ⟨cc_4, hc_4, hsub_4⟩ := ownElI (C := C_SlaveEvent) hj_342 hx_15
 obtain rfl := C_SlaveEvent.open hc_4
 refine step hF (Y.indexOwn hp_4 u_23 sz_66 (idx_rng hx_15) hF rfl rfl) rfl fun a hF => step hF (Y.fieldAddr fo_66_2 hF rfl) rfl fun a hF => O.storePart (C := C_SlaveEvent) (v0 := (SlaveEvent.mk e_4.Kind e_4.First 61 e_4.Lost e_4.Who e_4.Shown)) (x0 := e_4) (xs := rv_6.Events) (us := [iv 61]) (k := 2) 14 hp_4 sz_3 (idx_rng hx_15) hF rfl rfl rfl rfl hx_15 (fun c0 h => by obtain rfl := C_SlaveEvent.open h; rfl) (show 2 + 1 ≤ 6 by decide) hS rfl hj_342 fun cs_459 a w hF hS hr_501 => ?_
 try rw [show rv_6.Events.length = (rv_6.Events.set (Int.toNat 0) (SlaveEvent.mk e_4.Kind e_4.First 61 e_4.Lost e_4.Who e_4.Shown)).length from List.length_set.symm] at hF
 try rw [show rv_6.Events.length = (rv_6.Events.set (Int.toNat 0) (SlaveEvent.mk e_4.Kind e_4.First 61 e_4.Lost e_4.Who e_4.Shown)).length from List.length_set.symm] at hS
 refine nT (seq (region (step hF (Y.move hF rfl) rfl fun a hF => step hF (Y.indexSl u_82 sz_25 hF rfl rfl (by decide) (by decide)) rfl fun a hF => step hF (Y.fieldAddr fo_25_2 hF rfl) rfl fun a hF => step hF (Y.load1L 25 sz_23 hF rfl hS rfl rfl) rfl fun a hF => ?_)))
 replace h := ndet h
 obtain ⟨e_5, hx_16, h⟩ := h
 obtain ⟨b_8, hp_5⟩ := hS.ownPtr (i := 16) rfl (idx_rng hx_16)
 obtain ⟨cc_5, hc_5, hsub_5⟩ := ownElI (C := C_SlaveEvent) hj_344 hx_16
 obtain rfl := C_SlaveEvent.open hc_5
 refine step hF (Y.indexOwn hp_5 u_23 sz_66 (idx_rng hx_16) hF rfl rfl) rfl fun a hF => step hF (Y.fieldAddr fo_66_3 hF rfl) rfl fun a hF => O.storePart (C := C_SlaveEvent) (v0 := (SlaveEvent.mk e_5.Kind e_5.First e_5.Count 4 e_5.Who e_5.Shown)) (x0 := e_5) (xs := rv_7.Events) (us := [iv 4]) (k := 3) 16 hp_5 sz_3 (idx_rng hx_16) hF rfl rfl rfl rfl hx_16 (fun c0 h => by obtain rfl := C_SlaveEvent.open h; rfl) (show 3 + 1 ≤ 6 by decide) hS rfl hj_344 fun cs_460 a w hF hS hr_502 => ?_
 try rw [show rv_7.Events.length = (rv_7.Events.set (Int.toNat 0) (SlaveEvent.mk e_5.Kind e_5.First e_5.Count 4 e_5.Who e_5.Shown)).length from List.length_set.symm] at hF
 try rw [show rv_7.Events.length = (rv_7.Events.set (Int.toNat 0) (SlaveEvent.mk e_5.Kind e_5.First e_5.Count 4 e_5.Who e_5.Shown)).length from List.length_set.symm] at hS
 refine nT (seq (region (step hF (Y.move hF rfl) rfl fun a hF => ?_)))
 replace h := ndet h
 obtain ⟨rv_11, hx_17, h⟩ := h
 refine O.callP (us := [iv 1, iv 0]) ca_42 hF hS (w7look_ok hS.stab 1 0 rv_11 hx_17) rfl rfl fun a w hF hS => ?_
 have hr_503 : Reps C_SlaveEvent Dv_200 [rv_11] [iv rv_11.Kind, iv rv_11.First, iv rv_11.Count, iv rv_11.Lost, iv rv_11.Who, iv rv_11.Shown] := Reps.cons (C := C_SlaveEvent) (x := rv_11) (c := [iv rv_11.Kind, iv rv_11.First, iv rv_11.Count, iv rv_11.Lost, iv rv_11.Who, iv rv_11.Shown]) (r := []) rfl (Reps.nil)
 refine O.buildSlice (E := 66) (C := C_SlaveEvent) (xs := [rv_11]) (cs := [iv rv_11.Kind, iv rv_11.First, iv rv_11.Count, iv rv_11.Lost, iv rv_11.Who, iv rv_11.Shown]) (us := [.agg #[iv rv_11.Kind, iv rv_11.First, iv rv_11.Count, iv rv_11.Lost, iv rv_11.Who, iv rv_11.Shown]]) (parts := [(0, (.tmp 118))]) 27 hF hS rfl (by kernel_rfl) hr_503 rfl rfl rfl fun p_497 c_454 a w hF hS => step hF (Y.indexSl u_82 sz_25 hF rfl rfl (by decide) (by decide)) rfl fun a hF => step hF (Y.fieldAddr fo_25_2 hF rfl) rfl fun a hF => O.store (us := [.slice p_497 ([rv_11]).length c_454]) 25 sz_23 hF rfl rfl rfl rfl hS rfl rfl fun a w hF hS => nT (seq (seq (region (step hF (Y.assign hF rfl) rfl fun a hF => nT (block ?_)))))
 obtain ⟨Dv_243, hlev_244, hs_420, hS⟩ := hS.freezeC (C := C_SlaveStart) (i := 1) (xs := rv.Starts) rfl hj_329
 replace hG := hG.mono hlev_244
 replace hj_330 := hj_330.mono hlev_244
 replace hj_332 := hj_332.mono hlev_244
 replace hj_334 := hj_334.mono hlev_244
 replace hj_336 := hj_336.mono hlev_244
 replace hj_337 := hj_337.mono hlev_244
 replace hj_339 := hj_339.mono hlev_244
 replace hj_341 := hj_341.mono hlev_244
 replace hj_343 := hj_343.mono hlev_244
 replace hj_345 := hj_345.mono hlev_244
 replace hj_347 := hj_347.mono hlev_244
 replace hj_348 := hj_348.mono hlev_244
 replace hj_349 := hj_349.mono hlev_244
 replace hj_350 := hj_350.mono hlev_244
 replace hr_497 := hr_497.mono hlev_244
 replace hr_498 := hr_498.mono hlev_244
 replace hr_499 := hr_499.mono hlev_244
 replace hr_500 := hr_500.mono hlev_244
 replace hr_501 := hr_501.mono hlev_244
 replace hr_502 := hr_502.mono hlev_244
 replace hr_503 := hr_503.mono hlev_244
 obtain ⟨Dv_244, hlev_245, hs_421, hS⟩ := hS.freezeC (C := C_SlaveEvent) (i := 2) (xs := rv.Events) rfl hj_330
 replace hG := hG.mono hlev_245
 replace hj_332 := hj_332.mono hlev_245
 replace hj_334 := hj_334.mono hlev_245
 replace hj_336 := hj_336.mono hlev_245
 replace hj_337 := hj_337.mono hlev_245
 replace hj_339 := hj_339.mono hlev_245
 replace hj_341 := hj_341.mono hlev_245
 replace hj_343 := hj_343.mono hlev_245
 replace hj_345 := hj_345.mono hlev_245
 replace hj_347 := hj_347.mono hlev_245
 replace hj_348 := hj_348.mono hlev_245
 replace hj_349 := hj_349.mono hlev_245
 replace hj_350 := hj_350.mono hlev_245
 replace hr_497 := hr_497.mono hlev_245
 replace hr_498 := hr_498.mono hlev_245
 replace hr_499 := hr_499.mono hlev_245
 replace hr_500 := hr_500.mono hlev_245
 replace hr_501 := hr_501.mono hlev_245
 replace hr_502 := hr_502.mono hlev_245
 replace hr_503 := hr_503.mono hlev_245
 replace hs_420 := hs_420.mono hlev_245
 obtain ⟨Dv_245, hlev_246, hs_422, hS⟩ := hS.freezeC (C := C_SlaveStart) (i := 26) (xs := ([] : List SlaveStart)) rfl Reps.nil
 replace hG := hG.mono hlev_246
 replace hj_332 := hj_332.mono hlev_246
 replace hj_334 := hj_334.mono hlev_246
 replace hj_336 := hj_336.mono hlev_246
 replace hj_337 := hj_337.mono hlev_246
 replace hj_339 := hj_339.mono hlev_246
 replace hj_341 := hj_341.mono hlev_246
 replace hj_343 := hj_343.mono hlev_246
 replace hj_345 := hj_345.mono hlev_246
 replace hj_347 := hj_347.mono hlev_246
 replace hj_348 := hj_348.mono hlev_246
 replace hj_349 := hj_349.mono hlev_246
 replace hj_350 := hj_350.mono hlev_246
 replace hr_497 := hr_497.mono hlev_246
 replace hr_498 := hr_498.mono hlev_246
 replace hr_499 := hr_499.mono hlev_246
 replace hr_500 := hr_500.mono hlev_246
 replace hr_501 := hr_501.mono hlev_246
 replace hr_502 := hr_502.mono hlev_246
 replace hr_503 := hr_503.mono hlev_246
 replace hs_420 := hs_420.mono hlev_246
 replace hs_421 := hs_421.mono hlev_246
 obtain ⟨Dv_246, hlev_247, hs_423, hS⟩ := hS.freezeC (C := C_SlaveEvent) (i := 4) (xs := rv_1.Events) rfl hj_332
 replace hG := hG.mono hlev_247
 replace hj_334 := hj_334.mono hlev_247
 replace hj_336 := hj_336.mono hlev_247
 replace hj_337 := hj_337.mono hlev_247
 replace hj_339 := hj_339.mono hlev_247
 replace hj_341 := hj_341.mono hlev_247
 replace hj_343 := hj_343.mono hlev_247
 replace hj_345 := hj_345.mono hlev_247
 replace hj_347 := hj_347.mono hlev_247
 replace hj_348 := hj_348.mono hlev_247
 replace hj_349 := hj_349.mono hlev_247
 replace hj_350 := hj_350.mono hlev_247
 replace hr_497 := hr_497.mono hlev_247
 replace hr_498 := hr_498.mono hlev_247
 replace hr_499 := hr_499.mono hlev_247
 replace hr_500 := hr_500.mono hlev_247
 replace hr_501 := hr_501.mono hlev_247
 replace hr_502 := hr_502.mono hlev_247
 replace hr_503 := hr_503.mono hlev_247
 replace hs_420 := hs_420.mono hlev_247
 replace hs_421 := hs_421.mono hlev_247
 replace hs_422 := hs_422.mono hlev_247
 obtain ⟨Dv_247, hlev_248, hs_424, hS⟩ := hS.freezeC (C := C_SlaveStart) (i := 5) (xs := (rv_2.Starts.set (Int.toNat 0) (SlaveStart.mk 12 e.Last))) rfl hr_497
 replace hG := hG.mono hlev_248
 replace hj_334 := hj_334.mono hlev_248
 replace hj_336 := hj_336.mono hlev_248
 replace hj_337 := hj_337.mono hlev_248
 replace hj_339 := hj_339.mono hlev_248
 replace hj_341 := hj_341.mono hlev_248
 replace hj_343 := hj_343.mono hlev_248
 replace hj_345 := hj_345.mono hlev_248
 replace hj_347 := hj_347.mono hlev_248
 replace hj_348 := hj_348.mono hlev_248
 replace hj_349 := hj_349.mono hlev_248
 replace hj_350 := hj_350.mono hlev_248
 replace hr_498 := hr_498.mono hlev_248
 replace hr_499 := hr_499.mono hlev_248
 replace hr_500 := hr_500.mono hlev_248
 replace hr_501 := hr_501.mono hlev_248
 replace hr_502 := hr_502.mono hlev_248
 replace hr_503 := hr_503.mono hlev_248
 replace hs_420 := hs_420.mono hlev_248
 replace hs_421 := hs_421.mono hlev_248
 replace hs_422 := hs_422.mono hlev_248
 replace hs_423 := hs_423.mono hlev_248
 obtain ⟨Dv_248, hlev_249, hs_425, hS⟩ := hS.freezeC (C := C_SlaveEvent) (i := 6) (xs := rv_2.Events) rfl hj_334
 replace hG := hG.mono hlev_249
 replace hj_336 := hj_336.mono hlev_249
 replace hj_337 := hj_337.mono hlev_249
 replace hj_339 := hj_339.mono hlev_249
 replace hj_341 := hj_341.mono hlev_249
 replace hj_343 := hj_343.mono hlev_249
 replace hj_345 := hj_345.mono hlev_249
 replace hj_347 := hj_347.mono hlev_249
 replace hj_348 := hj_348.mono hlev_249
 replace hj_349 := hj_349.mono hlev_249
 replace hj_350 := hj_350.mono hlev_249
 replace hr_498 := hr_498.mono hlev_249
 replace hr_499 := hr_499.mono hlev_249
 replace hr_500 := hr_500.mono hlev_249
 replace hr_501 := hr_501.mono hlev_249
 replace hr_502 := hr_502.mono hlev_249
 replace hr_503 := hr_503.mono hlev_249
 replace hs_420 := hs_420.mono hlev_249
 replace hs_421 := hs_421.mono hlev_249
 replace hs_422 := hs_422.mono hlev_249
 replace hs_423 := hs_423.mono hlev_249
 replace hs_424 := hs_424.mono hlev_249
 obtain ⟨Dv_249, hlev_250, hs_426, hS⟩ := hS.freezeC (C := C_SlaveStart) (i := 7) (xs := (rv_3.Starts.set (Int.toNat 0) (SlaveStart.mk e_1.Shown 2))) rfl hr_498
 replace hG := hG.mono hlev_250
 replace hj_336 := hj_336.mono hlev_250
 replace hj_337 := hj_337.mono hlev_250
 replace hj_339 := hj_339.mono hlev_250
 replace hj_341 := hj_341.mono hlev_250
 replace hj_343 := hj_343.mono hlev_250
 replace hj_345 := hj_345.mono hlev_250
 replace hj_347 := hj_347.mono hlev_250
 replace hj_348 := hj_348.mono hlev_250
 replace hj_349 := hj_349.mono hlev_250
 replace hj_350 := hj_350.mono hlev_250
 replace hr_499 := hr_499.mono hlev_250
 replace hr_500 := hr_500.mono hlev_250
 replace hr_501 := hr_501.mono hlev_250
 replace hr_502 := hr_502.mono hlev_250
 replace hr_503 := hr_503.mono hlev_250
 replace hs_420 := hs_420.mono hlev_250
 replace hs_421 := hs_421.mono hlev_250
 replace hs_422 := hs_422.mono hlev_250
 replace hs_423 := hs_423.mono hlev_250
 replace hs_424 := hs_424.mono hlev_250
 replace hs_425 := hs_425.mono hlev_250
 obtain ⟨Dv_250, hlev_251, hs_427, hS⟩ := hS.freezeC (C := C_SlaveEvent) (i := 8) (xs := rv_3.Events) rfl hj_336
 replace hG := hG.mono hlev_251
 replace hj_337 := hj_337.mono hlev_251
 replace hj_339 := hj_339.mono hlev_251
 replace hj_341 := hj_341.mono hlev_251
 replace hj_343 := hj_343.mono hlev_251
 replace hj_345 := hj_345.mono hlev_251
 replace hj_347 := hj_347.mono hlev_251
 replace hj_348 := hj_348.mono hlev_251
 replace hj_349 := hj_349.mono hlev_251
 replace hj_350 := hj_350.mono hlev_251
 replace hr_499 := hr_499.mono hlev_251
 replace hr_500 := hr_500.mono hlev_251
 replace hr_501 := hr_501.mono hlev_251
 replace hr_502 := hr_502.mono hlev_251
 replace hr_503 := hr_503.mono hlev_251
 replace hs_420 := hs_420.mono hlev_251
 replace hs_421 := hs_421.mono hlev_251
 replace hs_422 := hs_422.mono hlev_251
 replace hs_423 := hs_423.mono hlev_251
 replace hs_424 := hs_424.mono hlev_251
 replace hs_425 := hs_425.mono hlev_251
 replace hs_426 := hs_426.mono hlev_251
 obtain ⟨Dv_251, hlev_252, hs_428, hS⟩ := hS.freezeC (C := C_SlaveStart) (i := 9) (xs := rv_4.Starts) rfl hj_337
 replace hG := hG.mono hlev_252
 replace hj_339 := hj_339.mono hlev_252
 replace hj_341 := hj_341.mono hlev_252
 replace hj_343 := hj_343.mono hlev_252
 replace hj_345 := hj_345.mono hlev_252
 replace hj_347 := hj_347.mono hlev_252
 replace hj_348 := hj_348.mono hlev_252
 replace hj_349 := hj_349.mono hlev_252
 replace hj_350 := hj_350.mono hlev_252
 replace hr_499 := hr_499.mono hlev_252
 replace hr_500 := hr_500.mono hlev_252
 replace hr_501 := hr_501.mono hlev_252
 replace hr_502 := hr_502.mono hlev_252
 replace hr_503 := hr_503.mono hlev_252
 replace hs_420 := hs_420.mono hlev_252
 replace hs_421 := hs_421.mono hlev_252
 replace hs_422 := hs_422.mono hlev_252
 replace hs_423 := hs_423.mono hlev_252
 replace hs_424 := hs_424.mono hlev_252
 replace hs_425 := hs_425.mono hlev_252
 replace hs_426 := hs_426.mono hlev_252
 replace hs_427 := hs_427.mono hlev_252
 obtain ⟨Dv_252, hlev_253, hs_429, hS⟩ := hS.freezeC (C := C_SlaveEvent) (i := 10) (xs := (rv_4.Events.set (Int.toNat 0) (SlaveEvent.mk 3 e_2.First e_2.Count e_2.Lost e_2.Who e_2.Shown))) rfl hr_499
 replace hG := hG.mono hlev_253
 replace hj_339 := hj_339.mono hlev_253
 replace hj_341 := hj_341.mono hlev_253
 replace hj_343 := hj_343.mono hlev_253
 replace hj_345 := hj_345.mono hlev_253
 replace hj_347 := hj_347.mono hlev_253
 replace hj_348 := hj_348.mono hlev_253
 replace hj_349 := hj_349.mono hlev_253
 replace hj_350 := hj_350.mono hlev_253
 replace hr_500 := hr_500.mono hlev_253
 replace hr_501 := hr_501.mono hlev_253
 replace hr_502 := hr_502.mono hlev_253
 replace hr_503 := hr_503.mono hlev_253
 replace hs_420 := hs_420.mono hlev_253
 replace hs_421 := hs_421.mono hlev_253
 replace hs_422 := hs_422.mono hlev_253
 replace hs_423 := hs_423.mono hlev_253
 replace hs_424 := hs_424.mono hlev_253
 replace hs_425 := hs_425.mono hlev_253
 replace hs_426 := hs_426.mono hlev_253
 replace hs_427 := hs_427.mono hlev_253
 replace hs_428 := hs_428.mono hlev_253
 obtain ⟨Dv_253, hlev_254, hs_430, hS⟩ := hS.freezeC (C := C_SlaveStart) (i := 11) (xs := rv_5.Starts) rfl hj_339
 replace hG := hG.mono hlev_254
 replace hj_341 := hj_341.mono hlev_254
 replace hj_343 := hj_343.mono hlev_254
 replace hj_345 := hj_345.mono hlev_254
 replace hj_347 := hj_347.mono hlev_254
 replace hj_348 := hj_348.mono hlev_254
 replace hj_349 := hj_349.mono hlev_254
 replace hj_350 := hj_350.mono hlev_254
 replace hr_500 := hr_500.mono hlev_254
 replace hr_501 := hr_501.mono hlev_254
 replace hr_502 := hr_502.mono hlev_254
 replace hr_503 := hr_503.mono hlev_254
 replace hs_420 := hs_420.mono hlev_254
 replace hs_421 := hs_421.mono hlev_254
 replace hs_422 := hs_422.mono hlev_254
 replace hs_423 := hs_423.mono hlev_254
 replace hs_424 := hs_424.mono hlev_254
 replace hs_425 := hs_425.mono hlev_254
 replace hs_426 := hs_426.mono hlev_254
 replace hs_427 := hs_427.mono hlev_254
 replace hs_428 := hs_428.mono hlev_254
 replace hs_429 := hs_429.mono hlev_254
 obtain ⟨Dv_254, hlev_255, hs_431, hS⟩ := hS.freezeC (C := C_SlaveEvent) (i := 12) (xs := (rv_5.Events.set (Int.toNat 0) (SlaveEvent.mk e_3.Kind 2 e_3.Count e_3.Lost e_3.Who e_3.Shown))) rfl hr_500
 replace hG := hG.mono hlev_255
 replace hj_341 := hj_341.mono hlev_255
 replace hj_343 := hj_343.mono hlev_255
 replace hj_345 := hj_345.mono hlev_255
 replace hj_347 := hj_347.mono hlev_255
 replace hj_348 := hj_348.mono hlev_255
 replace hj_349 := hj_349.mono hlev_255
 replace hj_350 := hj_350.mono hlev_255
 replace hr_501 := hr_501.mono hlev_255
 replace hr_502 := hr_502.mono hlev_255
 replace hr_503 := hr_503.mono hlev_255
 replace hs_420 := hs_420.mono hlev_255
 replace hs_421 := hs_421.mono hlev_255
 replace hs_422 := hs_422.mono hlev_255
 replace hs_423 := hs_423.mono hlev_255
 replace hs_424 := hs_424.mono hlev_255
 replace hs_425 := hs_425.mono hlev_255
 replace hs_426 := hs_426.mono hlev_255
 replace hs_427 := hs_427.mono hlev_255
 replace hs_428 := hs_428.mono hlev_255
 replace hs_429 := hs_429.mono hlev_255
 replace hs_430 := hs_430.mono hlev_255
 obtain ⟨Dv_255, hlev_256, hs_432, hS⟩ := hS.freezeC (C := C_SlaveStart) (i := 13) (xs := rv_6.Starts) rfl hj_341
 replace hG := hG.mono hlev_256
 replace hj_343 := hj_343.mono hlev_256
 replace hj_345 := hj_345.mono hlev_256
 replace hj_347 := hj_347.mono hlev_256
 replace hj_348 := hj_348.mono hlev_256
 replace hj_349 := hj_349.mono hlev_256
 replace hj_350 := hj_350.mono hlev_256
 replace hr_501 := hr_501.mono hlev_256
 replace hr_502 := hr_502.mono hlev_256
 replace hr_503 := hr_503.mono hlev_256
 replace hs_420 := hs_420.mono hlev_256
 replace hs_421 := hs_421.mono hlev_256
 replace hs_422 := hs_422.mono hlev_256
 replace hs_423 := hs_423.mono hlev_256
 replace hs_424 := hs_424.mono hlev_256
 replace hs_425 := hs_425.mono hlev_256
 replace hs_426 := hs_426.mono hlev_256
 replace hs_427 := hs_427.mono hlev_256
 replace hs_428 := hs_428.mono hlev_256
 replace hs_429 := hs_429.mono hlev_256
 replace hs_430 := hs_430.mono hlev_256
 replace hs_431 := hs_431.mono hlev_256
 obtain ⟨Dv_256, hlev_257, hs_433, hS⟩ := hS.freezeC (C := C_SlaveEvent) (i := 14) (xs := (rv_6.Events.set (Int.toNat 0) (SlaveEvent.mk e_4.Kind e_4.First 61 e_4.Lost e_4.Who e_4.Shown))) rfl hr_501
 replace hG := hG.mono hlev_257
 replace hj_343 := hj_343.mono hlev_257
 replace hj_345 := hj_345.mono hlev_257
 replace hj_347 := hj_347.mono hlev_257
 replace hj_348 := hj_348.mono hlev_257
 replace hj_349 := hj_349.mono hlev_257
 replace hj_350 := hj_350.mono hlev_257
 replace hr_502 := hr_502.mono hlev_257
 replace hr_503 := hr_503.mono hlev_257
 replace hs_420 := hs_420.mono hlev_257
 replace hs_421 := hs_421.mono hlev_257
 replace hs_422 := hs_422.mono hlev_257
 replace hs_423 := hs_423.mono hlev_257
 replace hs_424 := hs_424.mono hlev_257
 replace hs_425 := hs_425.mono hlev_257
 replace hs_426 := hs_426.mono hlev_257
 replace hs_427 := hs_427.mono hlev_257
 replace hs_428 := hs_428.mono hlev_257
 replace hs_429 := hs_429.mono hlev_257
 replace hs_430 := hs_430.mono hlev_257
 replace hs_431 := hs_431.mono hlev_257
 replace hs_432 := hs_432.mono hlev_257
 obtain ⟨Dv_257, hlev_258, hs_434, hS⟩ := hS.freezeC (C := C_SlaveStart) (i := 15) (xs := rv_7.Starts) rfl hj_343
 replace hG := hG.mono hlev_258
 replace hj_345 := hj_345.mono hlev_258
 replace hj_347 := hj_347.mono hlev_258
 replace hj_348 := hj_348.mono hlev_258
 replace hj_349 := hj_349.mono hlev_258
 replace hj_350 := hj_350.mono hlev_258
 replace hr_502 := hr_502.mono hlev_258
 replace hr_503 := hr_503.mono hlev_258
 replace hs_420 := hs_420.mono hlev_258
 replace hs_421 := hs_421.mono hlev_258
 replace hs_422 := hs_422.mono hlev_258
 replace hs_423 := hs_423.mono hlev_258
 replace hs_424 := hs_424.mono hlev_258
 replace hs_425 := hs_425.mono hlev_258
 replace hs_426 := hs_426.mono hlev_258
 replace hs_427 := hs_427.mono hlev_258
 replace hs_428 := hs_428.mono hlev_258
 replace hs_429 := hs_429.mono hlev_258
 replace hs_430 := hs_430.mono hlev_258
 replace hs_431 := hs_431.mono hlev_258
 replace hs_432 := hs_432.mono hlev_258
 replace hs_433 := hs_433.mono hlev_258
 obtain ⟨Dv_258, hlev_259, hs_435, hS⟩ := hS.freezeC (C := C_SlaveEvent) (i := 16) (xs := (rv_7.Events.set (Int.toNat 0) (SlaveEvent.mk e_5.Kind e_5.First e_5.Count 4 e_5.Who e_5.Shown))) rfl hr_502
 replace hG := hG.mono hlev_259
 replace hj_345 := hj_345.mono hlev_259
 replace hj_347 := hj_347.mono hlev_259
 replace hj_348 := hj_348.mono hlev_259
 replace hj_349 := hj_349.mono hlev_259
 replace hj_350 := hj_350.mono hlev_259
 replace hr_503 := hr_503.mono hlev_259
 replace hs_420 := hs_420.mono hlev_259
 replace hs_421 := hs_421.mono hlev_259
 replace hs_422 := hs_422.mono hlev_259
 replace hs_423 := hs_423.mono hlev_259
 replace hs_424 := hs_424.mono hlev_259
 replace hs_425 := hs_425.mono hlev_259
 replace hs_426 := hs_426.mono hlev_259
 replace hs_427 := hs_427.mono hlev_259
 replace hs_428 := hs_428.mono hlev_259
 replace hs_429 := hs_429.mono hlev_259
 replace hs_430 := hs_430.mono hlev_259
 replace hs_431 := hs_431.mono hlev_259
 replace hs_432 := hs_432.mono hlev_259
 replace hs_433 := hs_433.mono hlev_259
 replace hs_434 := hs_434.mono hlev_259
 obtain ⟨Dv_259, hlev_260, hs_436, hS⟩ := hS.freezeC (C := C_SlaveStart) (i := 17) (xs := rv_8.Starts) rfl hj_345
 replace hG := hG.mono hlev_260
 replace hj_347 := hj_347.mono hlev_260
 replace hj_348 := hj_348.mono hlev_260
 replace hj_349 := hj_349.mono hlev_260
 replace hj_350 := hj_350.mono hlev_260
 replace hr_503 := hr_503.mono hlev_260
 replace hs_420 := hs_420.mono hlev_260
 replace hs_421 := hs_421.mono hlev_260
 replace hs_422 := hs_422.mono hlev_260
 replace hs_423 := hs_423.mono hlev_260
 replace hs_424 := hs_424.mono hlev_260
 replace hs_425 := hs_425.mono hlev_260
 replace hs_426 := hs_426.mono hlev_260
 replace hs_427 := hs_427.mono hlev_260
 replace hs_428 := hs_428.mono hlev_260
 replace hs_429 := hs_429.mono hlev_260
 replace hs_430 := hs_430.mono hlev_260
 replace hs_431 := hs_431.mono hlev_260
 replace hs_432 := hs_432.mono hlev_260
 replace hs_433 := hs_433.mono hlev_260
 replace hs_434 := hs_434.mono hlev_260
 replace hs_435 := hs_435.mono hlev_260
 obtain ⟨Dv_260, hlev_261, hs_437, hS⟩ := hS.freezeC (C := C_SlaveEvent) (i := 27) (xs := [rv_11]) rfl hr_503
 replace hG := hG.mono hlev_261
 replace hj_347 := hj_347.mono hlev_261
 replace hj_348 := hj_348.mono hlev_261
 replace hj_349 := hj_349.mono hlev_261
 replace hj_350 := hj_350.mono hlev_261
 replace hs_420 := hs_420.mono hlev_261
 replace hs_421 := hs_421.mono hlev_261
 replace hs_422 := hs_422.mono hlev_261
 replace hs_423 := hs_423.mono hlev_261
 replace hs_424 := hs_424.mono hlev_261
 replace hs_425 := hs_425.mono hlev_261
 replace hs_426 := hs_426.mono hlev_261
 replace hs_427 := hs_427.mono hlev_261
 replace hs_428 := hs_428.mono hlev_261
 replace hs_429 := hs_429.mono hlev_261
 replace hs_430 := hs_430.mono hlev_261
 replace hs_431 := hs_431.mono hlev_261
 replace hs_432 := hs_432.mono hlev_261
 replace hs_433 := hs_433.mono hlev_261
 replace hs_434 := hs_434.mono hlev_261
 replace hs_435 := hs_435.mono hlev_261
 replace hs_436 := hs_436.mono hlev_261
 obtain ⟨Dv_261, hlev_262, hs_438, hS⟩ := hS.freezeC (C := C_SlaveStart) (i := 20) (xs := rv_9.Starts) rfl hj_347
 replace hG := hG.mono hlev_262
 replace hj_348 := hj_348.mono hlev_262
 replace hj_349 := hj_349.mono hlev_262
 replace hj_350 := hj_350.mono hlev_262
 replace hs_420 := hs_420.mono hlev_262
 replace hs_421 := hs_421.mono hlev_262
 replace hs_422 := hs_422.mono hlev_262
 replace hs_423 := hs_423.mono hlev_262
 replace hs_424 := hs_424.mono hlev_262
 replace hs_425 := hs_425.mono hlev_262
 replace hs_426 := hs_426.mono hlev_262
 replace hs_427 := hs_427.mono hlev_262
 replace hs_428 := hs_428.mono hlev_262
 replace hs_429 := hs_429.mono hlev_262
 replace hs_430 := hs_430.mono hlev_262
 replace hs_431 := hs_431.mono hlev_262
 replace hs_432 := hs_432.mono hlev_262
 replace hs_433 := hs_433.mono hlev_262
 replace hs_434 := hs_434.mono hlev_262
 replace hs_435 := hs_435.mono hlev_262
 replace hs_436 := hs_436.mono hlev_262
 replace hs_437 := hs_437.mono hlev_262
 obtain ⟨Dv_262, hlev_263, hs_439, hS⟩ := hS.freezeC (C := C_SlaveEvent) (i := 21) (xs := rv_9.Events) rfl hj_348
 replace hG := hG.mono hlev_263
 replace hj_349 := hj_349.mono hlev_263
 replace hj_350 := hj_350.mono hlev_263
 replace hs_420 := hs_420.mono hlev_263
 replace hs_421 := hs_421.mono hlev_263
 replace hs_422 := hs_422.mono hlev_263
 replace hs_423 := hs_423.mono hlev_263
 replace hs_424 := hs_424.mono hlev_263
 replace hs_425 := hs_425.mono hlev_263
 replace hs_426 := hs_426.mono hlev_263
 replace hs_427 := hs_427.mono hlev_263
 replace hs_428 := hs_428.mono hlev_263
 replace hs_429 := hs_429.mono hlev_263
 replace hs_430 := hs_430.mono hlev_263
 replace hs_431 := hs_431.mono hlev_263
 replace hs_432 := hs_432.mono hlev_263
 replace hs_433 := hs_433.mono hlev_263
 replace hs_434 := hs_434.mono hlev_263
 replace hs_435 := hs_435.mono hlev_263
 replace hs_436 := hs_436.mono hlev_263
 replace hs_437 := hs_437.mono hlev_263
 replace hs_438 := hs_438.mono hlev_263
 obtain ⟨Dv_263, hlev_264, hs_440, hS⟩ := hS.freezeC (C := C_SlaveStart) (i := 23) (xs := rv_10.Starts) rfl hj_349
 replace hG := hG.mono hlev_264
 replace hj_350 := hj_350.mono hlev_264
 replace hs_420 := hs_420.mono hlev_264
 replace hs_421 := hs_421.mono hlev_264
 replace hs_422 := hs_422.mono hlev_264
 replace hs_423 := hs_423.mono hlev_264
 replace hs_424 := hs_424.mono hlev_264
 replace hs_425 := hs_425.mono hlev_264
 replace hs_426 := hs_426.mono hlev_264
 replace hs_427 := hs_427.mono hlev_264
 replace hs_428 := hs_428.mono hlev_264
 replace hs_429 := hs_429.mono hlev_264
 replace hs_430 := hs_430.mono hlev_264
 replace hs_431 := hs_431.mono hlev_264
 replace hs_432 := hs_432.mono hlev_264
 replace hs_433 := hs_433.mono hlev_264
 replace hs_434 := hs_434.mono hlev_264
 replace hs_435 := hs_435.mono hlev_264
 replace hs_436 := hs_436.mono hlev_264
 replace hs_437 := hs_437.mono hlev_264
 replace hs_438 := hs_438.mono hlev_264
 replace hs_439 := hs_439.mono hlev_264
 obtain ⟨Dv_264, hlev_265, hs_441, hS⟩ := hS.freezeC (C := C_SlaveEvent) (i := 24) (xs := rv_10.Events) rfl hj_350
 replace hG := hG.mono hlev_265
 replace hs_420 := hs_420.mono hlev_265
 replace hs_421 := hs_421.mono hlev_265
 replace hs_422 := hs_422.mono hlev_265
 replace hs_423 := hs_423.mono hlev_265
 replace hs_424 := hs_424.mono hlev_265
 replace hs_425 := hs_425.mono hlev_265
 replace hs_426 := hs_426.mono hlev_265
 replace hs_427 := hs_427.mono hlev_265
 replace hs_428 := hs_428.mono hlev_265
 replace hs_429 := hs_429.mono hlev_265
 replace hs_430 := hs_430.mono hlev_265
 replace hs_431 := hs_431.mono hlev_265
 replace hs_432 := hs_432.mono hlev_265
 replace hs_433 := hs_433.mono hlev_265
 replace hs_434 := hs_434.mono hlev_265
 replace hs_435 := hs_435.mono hlev_265
 replace hs_436 := hs_436.mono hlev_265
 replace hs_437 := hs_437.mono hlev_265
 replace hs_438 := hs_438.mono hlev_265
 replace hs_439 := hs_439.mono hlev_265
 replace hs_440 := hs_440.mono hlev_265
 obtain ⟨Dv_265, hlev_266, hbv, hS⟩ := hS.freezeB (i := 25) rfl
 replace hG := hG.mono hlev_266
 replace hs_420 := hs_420.mono hlev_266
 replace hs_421 := hs_421.mono hlev_266
 replace hs_422 := hs_422.mono hlev_266
 replace hs_423 := hs_423.mono hlev_266
 replace hs_424 := hs_424.mono hlev_266
 replace hs_425 := hs_425.mono hlev_266
 replace hs_426 := hs_426.mono hlev_266
 replace hs_427 := hs_427.mono hlev_266
 replace hs_428 := hs_428.mono hlev_266
 replace hs_429 := hs_429.mono hlev_266
 replace hs_430 := hs_430.mono hlev_266
 replace hs_431 := hs_431.mono hlev_266
 replace hs_432 := hs_432.mono hlev_266
 replace hs_433 := hs_433.mono hlev_266
 replace hs_434 := hs_434.mono hlev_266
 replace hs_435 := hs_435.mono hlev_266
 replace hs_436 := hs_436.mono hlev_266
 replace hs_437 := hs_437.mono hlev_266
 replace hs_438 := hs_438.mono hlev_266
 replace hs_439 := hs_439.mono hlev_266
 replace hs_440 := hs_440.mono hlev_266
 replace hs_441 := hs_441.mono hlev_266
 have hr_504 : Reps C_SlaveLine Dv_265 ([(SlaveLine.mk 0 ([] : List SlaveStart) ([] : List SlaveEvent)), (SlaveLine.mk 61 rv.Starts rv.Events), (SlaveLine.mk rv_1.Ring ([] : List SlaveStart) rv_1.Events), (SlaveLine.mk rv_2.Ring (rv_2.Starts.set (Int.toNat 0) (SlaveStart.mk 12 e.Last)) rv_2.Events), (SlaveLine.mk rv_3.Ring (rv_3.Starts.set (Int.toNat 0) (SlaveStart.mk e_1.Shown 2)) rv_3.Events), (SlaveLine.mk rv_4.Ring rv_4.Starts (rv_4.Events.set (Int.toNat 0) (SlaveEvent.mk 3 e_2.First e_2.Count e_2.Lost e_2.Who e_2.Shown))), (SlaveLine.mk rv_5.Ring rv_5.Starts (rv_5.Events.set (Int.toNat 0) (SlaveEvent.mk e_3.Kind 2 e_3.Count e_3.Lost e_3.Who e_3.Shown))), (SlaveLine.mk rv_6.Ring rv_6.Starts (rv_6.Events.set (Int.toNat 0) (SlaveEvent.mk e_4.Kind e_4.First 61 e_4.Lost e_4.Who e_4.Shown))), (SlaveLine.mk rv_7.Ring rv_7.Starts (rv_7.Events.set (Int.toNat 0) (SlaveEvent.mk e_5.Kind e_5.First e_5.Count 4 e_5.Who e_5.Shown))), (SlaveLine.mk rv_8.Ring rv_8.Starts ([rv_11])), rv_9, rv_10] : List SlaveLine) [iv 0, .slice none 0 0, .slice none 0 0, iv 61, oV (og_29 0) rv.Starts.length, oV (og_29 1) rv.Events.length, iv rv_1.Ring, .slice none ([] : List SlaveStart).length 0, oV (og_29 3) rv_1.Events.length, iv rv_2.Ring, oV (og_29 4) (rv_2.Starts.set (Int.toNat 0) (SlaveStart.mk 12 e.Last)).length, oV (og_29 5) rv_2.Events.length, iv rv_3.Ring, oV (og_29 6) (rv_3.Starts.set (Int.toNat 0) (SlaveStart.mk e_1.Shown 2)).length, oV (og_29 7) rv_3.Events.length, iv rv_4.Ring, oV (og_29 8) rv_4.Starts.length, oV (og_29 9) (rv_4.Events.set (Int.toNat 0) (SlaveEvent.mk 3 e_2.First e_2.Count e_2.Lost e_2.Who e_2.Shown)).length, iv rv_5.Ring, oV (og_29 10) rv_5.Starts.length, oV (og_29 11) (rv_5.Events.set (Int.toNat 0) (SlaveEvent.mk e_3.Kind 2 e_3.Count e_3.Lost e_3.Who e_3.Shown)).length, iv rv_6.Ring, oV (og_29 12) rv_6.Starts.length, oV (og_29 13) (rv_6.Events.set (Int.toNat 0) (SlaveEvent.mk e_4.Kind e_4.First 61 e_4.Lost e_4.Who e_4.Shown)).length, iv rv_7.Ring, oV (og_29 14) rv_7.Starts.length, oV (og_29 15) (rv_7.Events.set (Int.toNat 0) (SlaveEvent.mk e_5.Kind e_5.First e_5.Count 4 e_5.Who e_5.Shown)).length, iv rv_8.Ring, oV (og_29 16) rv_8.Starts.length, .slice p_497 ([rv_11]).length c_454, iv rv_9.Ring, oV (og_29 18) rv_9.Starts.length, oV (og_29 19) rv_9.Events.length, iv rv_10.Ring, oV (og_29 20) rv_10.Starts.length, oV (og_29 21) rv_10.Events.length] := Reps.cons (C := C_SlaveLine) (x := (SlaveLine.mk 0 ([] : List SlaveStart) ([] : List SlaveEvent))) (c := [iv 0, .slice none 0 0, .slice none 0 0]) (⟨_, _, _, _, rfl, SRc.nil, SRc.nil⟩) (Reps.cons (C := C_SlaveLine) (x := (SlaveLine.mk 61 rv.Starts rv.Events)) (c := [iv 61, oV (og_29 0) rv.Starts.length, oV (og_29 1) rv.Events.length]) (⟨_, _, _, _, rfl, hs_420, hs_421⟩) (Reps.cons (C := C_SlaveLine) (x := (SlaveLine.mk rv_1.Ring ([] : List SlaveStart) rv_1.Events)) (c := [iv rv_1.Ring, .slice none ([] : List SlaveStart).length 0, oV (og_29 3) rv_1.Events.length]) (⟨_, _, _, _, rfl, hs_422, hs_423⟩) (Reps.cons (C := C_SlaveLine) (x := (SlaveLine.mk rv_2.Ring (rv_2.Starts.set (Int.toNat 0) (SlaveStart.mk 12 e.Last)) rv_2.Events)) (c := [iv rv_2.Ring, oV (og_29 4) (rv_2.Starts.set (Int.toNat 0) (SlaveStart.mk 12 e.Last)).length, oV (og_29 5) rv_2.Events.length]) (⟨_, _, _, _, rfl, hs_424, hs_425⟩) (Reps.cons (C := C_SlaveLine) (x := (SlaveLine.mk rv_3.Ring (rv_3.Starts.set (Int.toNat 0) (SlaveStart.mk e_1.Shown 2)) rv_3.Events)) (c := [iv rv_3.Ring, oV (og_29 6) (rv_3.Starts.set (Int.toNat 0) (SlaveStart.mk e_1.Shown 2)).length, oV (og_29 7) rv_3.Events.length]) (⟨_, _, _, _, rfl, hs_426, hs_427⟩) (Reps.cons (C := C_SlaveLine) (x := (SlaveLine.mk rv_4.Ring rv_4.Starts (rv_4.Events.set (Int.toNat 0) (SlaveEvent.mk 3 e_2.First e_2.Count e_2.Lost e_2.Who e_2.Shown)))) (c := [iv rv_4.Ring, oV (og_29 8) rv_4.Starts.length, oV (og_29 9) (rv_4.Events.set (Int.toNat 0) (SlaveEvent.mk 3 e_2.First e_2.Count e_2.Lost e_2.Who e_2.Shown)).length]) (⟨_, _, _, _, rfl, hs_428, hs_429⟩) (Reps.cons (C := C_SlaveLine) (x := (SlaveLine.mk rv_5.Ring rv_5.Starts (rv_5.Events.set (Int.toNat 0) (SlaveEvent.mk e_3.Kind 2 e_3.Count e_3.Lost e_3.Who e_3.Shown)))) (c := [iv rv_5.Ring, oV (og_29 10) rv_5.Starts.length, oV (og_29 11) (rv_5.Events.set (Int.toNat 0) (SlaveEvent.mk e_3.Kind 2 e_3.Count e_3.Lost e_3.Who e_3.Shown)).length]) (⟨_, _, _, _, rfl, hs_430, hs_431⟩) (Reps.cons (C := C_SlaveLine) (x := (SlaveLine.mk rv_6.Ring rv_6.Starts (rv_6.Events.set (Int.toNat 0) (SlaveEvent.mk e_4.Kind e_4.First 61 e_4.Lost e_4.Who e_4.Shown)))) (c := [iv rv_6.Ring, oV (og_29 12) rv_6.Starts.length, oV (og_29 13) (rv_6.Events.set (Int.toNat 0) (SlaveEvent.mk e_4.Kind e_4.First 61 e_4.Lost e_4.Who e_4.Shown)).length]) (⟨_, _, _, _, rfl, hs_432, hs_433⟩) (Reps.cons (C := C_SlaveLine) (x := (SlaveLine.mk rv_7.Ring rv_7.Starts (rv_7.Events.set (Int.toNat 0) (SlaveEvent.mk e_5.Kind e_5.First e_5.Count 4 e_5.Who e_5.Shown)))) (c := [iv rv_7.Ring, oV (og_29 14) rv_7.Starts.length, oV (og_29 15) (rv_7.Events.set (Int.toNat 0) (SlaveEvent.mk e_5.Kind e_5.First e_5.Count 4 e_5.Who e_5.Shown)).length]) (⟨_, _, _, _, rfl, hs_434, hs_435⟩) (Reps.cons (C := C_SlaveLine) (x := (SlaveLine.mk rv_8.Ring rv_8.Starts ([rv_11]))) (c := [iv rv_8.Ring, oV (og_29 16) rv_8.Starts.length, .slice p_497 ([rv_11]).length c_454]) (⟨_, _, _, _, rfl, hs_436, hs_437⟩) (Reps.cons (C := C_SlaveLine) (x := rv_9) (c := [iv rv_9.Ring, oV (og_29 18) rv_9.Starts.length, oV (og_29 19) rv_9.Events.length]) (⟨_, _, _, _, rfl, hs_438, hs_439⟩) (Reps.cons (C := C_SlaveLine) (x := rv_10) (c := [iv rv_10.Ring, oV (og_29 20) rv_10.Starts.length, oV (og_29 21) rv_10.Events.length]) (⟨_, _, _, _, rfl, hs_440, hs_441⟩) (Reps.nil))))))))))))
 have hs_442 : SRc C_SlaveLine Dv_265 ([(SlaveLine.mk 0 ([] : List SlaveStart) ([] : List SlaveEvent)), (SlaveLine.mk 61 rv.Starts rv.Events), (SlaveLine.mk rv_1.Ring ([] : List SlaveStart) rv_1.Events), (SlaveLine.mk rv_2.Ring (rv_2.Starts.set (Int.toNat 0) (SlaveStart.mk 12 e.Last)) rv_2.Events), (SlaveLine.mk rv_3.Ring (rv_3.Starts.set (Int.toNat 0) (SlaveStart.mk e_1.Shown 2)) rv_3.Events), (SlaveLine.mk rv_4.Ring rv_4.Starts (rv_4.Events.set (Int.toNat 0) (SlaveEvent.mk 3 e_2.First e_2.Count e_2.Lost e_2.Who e_2.Shown))), (SlaveLine.mk rv_5.Ring rv_5.Starts (rv_5.Events.set (Int.toNat 0) (SlaveEvent.mk e_3.Kind 2 e_3.Count e_3.Lost e_3.Who e_3.Shown))), (SlaveLine.mk rv_6.Ring rv_6.Starts (rv_6.Events.set (Int.toNat 0) (SlaveEvent.mk e_4.Kind e_4.First 61 e_4.Lost e_4.Who e_4.Shown))), (SlaveLine.mk rv_7.Ring rv_7.Starts (rv_7.Events.set (Int.toNat 0) (SlaveEvent.mk e_5.Kind e_5.First e_5.Count 4 e_5.Who e_5.Shown))), (SlaveLine.mk rv_8.Ring rv_8.Starts ([rv_11])), rv_9, rv_10] : List SlaveLine) (some ⟨b_1, 0, none⟩) 12 := SRc.ofCells hbv hr_504 (Nat.le_refl 12)
 replace hF := hF.weak (us := [(0, .bool false), (1, .slice (some ⟨b_1, 0, none⟩) ([(SlaveLine.mk 0 ([] : List SlaveStart) ([] : List SlaveEvent)), (SlaveLine.mk 61 rv.Starts rv.Events), (SlaveLine.mk rv_1.Ring ([] : List SlaveStart) rv_1.Events), (SlaveLine.mk rv_2.Ring (rv_2.Starts.set (Int.toNat 0) (SlaveStart.mk 12 e.Last)) rv_2.Events), (SlaveLine.mk rv_3.Ring (rv_3.Starts.set (Int.toNat 0) (SlaveStart.mk e_1.Shown 2)) rv_3.Events), (SlaveLine.mk rv_4.Ring rv_4.Starts (rv_4.Events.set (Int.toNat 0) (SlaveEvent.mk 3 e_2.First e_2.Count e_2.Lost e_2.Who e_2.Shown))), (SlaveLine.mk rv_5.Ring rv_5.Starts (rv_5.Events.set (Int.toNat 0) (SlaveEvent.mk e_3.Kind 2 e_3.Count e_3.Lost e_3.Who e_3.Shown))), (SlaveLine.mk rv_6.Ring rv_6.Starts (rv_6.Events.set (Int.toNat 0) (SlaveEvent.mk e_4.Kind e_4.First 61 e_4.Lost e_4.Who e_4.Shown))), (SlaveLine.mk rv_7.Ring rv_7.Starts (rv_7.Events.set (Int.toNat 0) (SlaveEvent.mk e_5.Kind e_5.First e_5.Count 4 e_5.Who e_5.Shown))), (SlaveLine.mk rv_8.Ring rv_8.Starts ([rv_11])), rv_9, rv_10] : List SlaveLine).length 12), (2, iv 0)]) (AF rfl)
 replace h := ndet h
 obtain ⟨bad, hx_18, h⟩ := h
 rw [some_inj hx_18] at hs_442 hF
 refine loop_cutN (body := w7SlaveKnown_b2 bad) (out := out) (fun s a w => ∃ (v0_0 : Bool) (i : Int), ∃ (Dv_266 : Stab), s = (v0_0, i) ∧ Dv_265.le Dv_266 ∧ Frm 527 [] [(0, .bool v0_0), (1, .slice (some ⟨b_1, 0, none⟩) bad.length 12), (2, iv i)] a ∧ St w0 D0 Dv_266 [(3, oL (og_29 2) rv_1.Starts.length 57 2), (18, oL (og_29 17) rv_8.Events.length 66 6)] w) (false, 0) h ⟨false, 0, Dv_265, rfl, Stab.le.refl _, hF.weak (AF rfl), hS.weak ⟨rfl, rfl, trivial⟩⟩ ?_
 rintro s a w xo ⟨v0_0, i, Dv_266, rfl, hlev_267, hF, hS⟩ h
 unfold w7SlaveKnown_b2 at h
 try dsimp only at h
 replace hG := hG.mono hlev_267
 replace hs_442 := hs_442.mono hlev_267
 refine seq (seq (region (step hF (Y.move hF rfl) rfl fun a hF => step hF (Y.move hF rfl) rfl fun a hF => step hF (Y.lenSl u_82 hF rfl) rfl fun a hF => step hF (Y.lss hF rfl rfl) rfl fun a hF => nT (cond_b hF rfl (fun hbv_1 => ?_) (fun hbv_1 => ?_)))))
 ·replace h := ncond_t h hbv_1
  refine skip_ (then_n (seq (block (seq (region (step hF (Y.move hF rfl) rfl fun a hF => step hF (Y.move hF rfl) rfl fun a hF => ?_))))))
  replace h := ndet h
  obtain ⟨e_6, hx_19, h⟩ := h
  obtain ⟨b_9, o, hE, hY⟩ := Y.indexS (P := Tryd.prog) (C := C_SlaveLine) (xs := bad) (T := 82) (x := (.tmp 129)) (y := (.tmp 130)) u_82 sz_25 hF rfl rfl (hs_442).1 hx_19
  obtain ⟨cc_6, hc_6, hcell⟩ := hE.open
  obtain ⟨p_498, c_455, p_499, c_456, rfl, hs_443, hs_444⟩ := C_SlaveLine.open hc_6
  refine step hF (hY) rfl fun a hF => step hF (Y.loadNE (o := o) (k := 0) sz_25 hF rfl (hcell _ hS.stab) rfl rfl) rfl fun a hF => ?_
  obtain ⟨KQ, hx_20, hk⟩ := nbnd_ex h
  refine O.callSN (us := [.agg #[iv e_6.Ring, .slice p_498 e_6.Starts.length c_455, .slice p_499 e_6.Events.length c_456], iv (-1)]) ca_16 hF hS (slave_Can_ok hS.stab e_6 (-1) hs_443 hs_444 hG KQ hx_20) rfl rfl fun rv_12 h v_206 Dv_267 a w hR hlev_268 hF hS => ?_
  replace h := hk _ h
  replace hG := hG.mono hlev_268
  replace hs_442 := hs_442.mono hlev_268
  obtain ⟨p_500, c_457, rfl, hs_445⟩ := hR
  refine step hF (Y.move hF rfl) rfl fun a hF => step hF (Y.extract hF rfl rfl) rfl fun a hF => step hF (Y.extract hF rfl rfl) rfl fun a hF => step hF (Y.assign hF rfl) rfl fun a hF => step hF (Y.assign hF rfl) rfl fun a hF => nT (seq (region (step hF (Y.move hF rfl) rfl fun a hF => step hF (Y.move hF rfl) rfl fun a hF => ?_)))
  obtain ⟨b_10, o_1, hE_1, hY_1⟩ := Y.indexS (P := Tryd.prog) (C := C_SlaveLine) (xs := bad) (T := 82) (x := (.tmp 137)) (y := (.tmp 138)) u_82 sz_25 hF rfl rfl (hs_442).1 hx_19
  obtain ⟨cc_7, hc_7, hcell_1⟩ := hE_1.open
  obtain ⟨p_501, c_458, p_502, c_459, rfl, hs_446, hs_447⟩ := C_SlaveLine.open hc_7
  refine step hF (hY_1) rfl fun a hF => step hF (Y.loadNE (o := o_1) (k := 0) sz_25 hF rfl (hcell_1 _ hS.stab) rfl rfl) rfl fun a hF => ?_
  obtain ⟨KQ_1, hx_21, hk_1⟩ := nbnd_ex h
  refine O.callPN (us := [.agg #[iv e_6.Ring, .slice p_501 e_6.Starts.length c_458, .slice p_502 e_6.Events.length c_459], iv (-1)]) ca_21 hF hS (slave_Lost_ok hS.stab e_6 (-1) hs_446 hs_447 hG KQ_1 hx_21) rfl rfl fun rv_13 h a w hF hS => ?_
  replace h := hk_1 _ h
  refine step hF (Y.move hF rfl) rfl fun a hF => step hF (Y.extract hF rfl rfl) rfl fun a hF => step hF (Y.extract hF rfl rfl) rfl fun a hF => O.alloc 28 zc_33 hF hS rfl fun b_11 a w hF hS => O.store (us := [iv rv_13.1.Low, iv rv_13.1.High]) 28 sz_33 hF rfl rfl rfl rfl hS rfl rfl fun a w hF hS => step hF (Y.assign hF rfl) rfl fun a hF => nT (seq (region (step hF (Y.move hF rfl) rfl fun a hF => step hF (Y.move hF rfl) rfl fun a hF => ?_)))
  obtain ⟨b_12, o_2, hE_2, hY_2⟩ := Y.indexS (P := Tryd.prog) (C := C_SlaveLine) (xs := bad) (T := 82) (x := (.tmp 145)) (y := (.tmp 146)) u_82 sz_25 hF rfl rfl (hs_442).1 hx_19
  obtain ⟨cc_8, hc_8, hcell_2⟩ := hE_2.open
  obtain ⟨p_503, c_460, p_504, c_461, rfl, hs_448, hs_449⟩ := C_SlaveLine.open hc_8
  refine step hF (hY_2) rfl fun a hF => step hF (Y.loadNE (o := o_2) (k := 0) sz_25 hF rfl (hcell_2 _ hS.stab) rfl rfl) rfl fun a hF => ?_
  replace h := ndet h
  obtain ⟨rv_14, hx_22, h⟩ := h
  refine O.callP (us := [.agg #[iv e_6.Ring, .slice p_503 e_6.Starts.length c_460, .slice p_504 e_6.Events.length c_461], iv (-1), .slice none 0 0]) ca_24 hF hS (slave_IsStory_ok hS.stab e_6 (-1) ([] : List (List Int)) hs_448 hs_449 SRc.nil hG rv_14 hx_22) rfl rfl fun a w hF hS => step hF (Y.move hF rfl) rfl fun a hF => step hF (Y.extract hF rfl rfl) rfl fun a hF => step hF (Y.extract hF rfl rfl) rfl fun a hF => step hF (Y.assign hF rfl) rfl fun a hF => step hF (Y.assign hF rfl) rfl fun a hF => nT (seq (region (step hF (Y.move hF rfl) rfl fun a hF => step hF (Y.move hF rfl) rfl fun a hF => ?_)))
  obtain ⟨b_13, o_3, hE_3, hY_3⟩ := Y.indexS (P := Tryd.prog) (C := C_SlaveLine) (xs := bad) (T := 82) (x := (.tmp 153)) (y := (.tmp 154)) u_82 sz_25 hF rfl rfl (hs_442).1 hx_19
  obtain ⟨cc_9, hc_9, hcell_3⟩ := hE_3.open
  obtain ⟨p_505, c_462, p_506, c_463, rfl, hs_450, hs_451⟩ := C_SlaveLine.open hc_9
  refine step hF (hY_3) rfl fun a hF => step hF (Y.loadNE (o := o_3) (k := 0) sz_25 hF rfl (hcell_3 _ hS.stab) rfl rfl) rfl fun a hF => ?_
  obtain ⟨KQ_2, hx_23, hk_2⟩ := nbnd_ex h
  refine O.callSN (us := [.agg #[iv e_6.Ring, .slice p_505 e_6.Starts.length c_462, .slice p_506 e_6.Events.length c_463], iv (-1)]) ca_26 hF hS (slave_Story_ok hS.stab e_6 (-1) hs_450 hs_451 hG KQ_2 hx_23) rfl rfl fun rv_15 h v_207 Dv_268 a w hR_1 hlev_269 hF hS => ?_
  replace h := hk_2 _ h
  replace hG := hG.mono hlev_269
  replace hs_442 := hs_442.mono hlev_269
  obtain ⟨p_507, c_464, rfl, hs_452⟩ := hR_1
  refine step hF (Y.move hF rfl) rfl fun a hF => step hF (Y.extract hF rfl rfl) rfl fun a hF => step hF (Y.extract hF rfl rfl) rfl fun a hF => step hF (Y.assign hF rfl) rfl fun a hF => step hF (Y.assign hF rfl) rfl fun a hF => nT (seq (region (step hF (Y.move hF rfl) rfl fun a hF => step hF (Y.move hF rfl) rfl fun a hF => ?_)))
  obtain ⟨b_14, o_4, hE_4, hY_4⟩ := Y.indexS (P := Tryd.prog) (C := C_SlaveLine) (xs := bad) (T := 82) (x := (.tmp 161)) (y := (.tmp 162)) u_82 sz_25 hF rfl rfl (hs_442).1 hx_19
  obtain ⟨cc_10, hc_10, hcell_4⟩ := hE_4.open
  obtain ⟨p_508, c_465, p_509, c_466, rfl, hs_453, hs_454⟩ := C_SlaveLine.open hc_10
  refine step hF (hY_4) rfl fun a hF => step hF (Y.loadNE (o := o_4) (k := 0) sz_25 hF rfl (hcell_4 _ hS.stab) rfl rfl) rfl fun a hF => ?_
  obtain ⟨KQ_3, hx_24, hk_3⟩ := nbnd_ex h
  refine O.callSN (us := [.agg #[iv e_6.Ring, .slice p_508 e_6.Starts.length c_465, .slice p_509 e_6.Events.length c_466]]) ca_28 hF hS (slave_Wrong_ok hS.stab e_6 hs_453 hs_454 hG KQ_3 hx_24) rfl rfl fun rv_16 h v_208 Dv_269 a w hR_2 hlev_270 hF hS => ?_
  replace h := hk_3 _ h
  replace hG := hG.mono hlev_270
  replace hs_442 := hs_442.mono hlev_270
  obtain ⟨p_510, c_467, rfl, hs_455⟩ := hR_2
  refine step hF (Y.move hF rfl) rfl fun a hF => step hF (Y.extract hF rfl rfl) rfl fun a hF => step hF (Y.extract hF rfl rfl) rfl fun a hF => step hF (Y.assign hF rfl) rfl fun a hF => step hF (Y.assign hF rfl) rfl fun a hF => nT (seq (region (step hF (Y.move hF rfl) rfl fun a hF => step hF (Y.move hF rfl) rfl fun a hF => ?_)))
  obtain ⟨b_15, o_5, hE_5, hY_5⟩ := Y.indexS (P := Tryd.prog) (C := C_SlaveLine) (xs := bad) (T := 82) (x := (.tmp 169)) (y := (.tmp 170)) u_82 sz_25 hF rfl rfl (hs_442).1 hx_19
  obtain ⟨cc_11, hc_11, hcell_5⟩ := hE_5.open
  obtain ⟨p_511, c_468, p_512, c_469, rfl, hs_456, hs_457⟩ := C_SlaveLine.open hc_11
  refine step hF (hY_5) rfl fun a hF => step hF (Y.loadNE (o := o_5) (k := 0) sz_25 hF rfl (hcell_5 _ hS.stab) rfl rfl) rfl fun a hF => step hF (Y.build (parts := []) (cs := #[iv 0, iv 0, iv 0, iv 0]) hF rfl (by kernel_rfl)) rfl fun a hF => ?_
  obtain ⟨KQ_4, hx_25, hk_4⟩ := nbnd_ex h
  refine O.callPN (us := [.agg #[iv e_6.Ring, .slice p_511 e_6.Starts.length c_468, .slice p_512 e_6.Events.length c_469], iv (-1), .agg #[iv 0, iv 0, iv 0, iv 0]]) ca_32 hF hS (slave_Sets_ok hS.stab e_6 (-1) (SlavePlan.mk 0 0 0 0) hs_456 hs_457 hG KQ_4 hx_25) rfl rfl fun rv_17 h a w hF hS => ?_
  replace h := hk_4 _ h
  refine step hF (Y.move hF rfl) rfl fun a hF => step hF (Y.extract hF rfl rfl) rfl fun a hF => step hF (Y.extract hF rfl rfl) rfl fun a hF => step hF (Y.assign hF rfl) rfl fun a hF => step hF (Y.assign hF rfl) rfl fun a hF => nT (seq (region (step hF (Y.move hF rfl) rfl fun a hF => step hF (Y.move hF rfl) rfl fun a hF => ?_)))
  obtain ⟨b_16, o_6, hE_6, hY_6⟩ := Y.indexS (P := Tryd.prog) (C := C_SlaveLine) (xs := bad) (T := 82) (x := (.tmp 178)) (y := (.tmp 179)) u_82 sz_25 hF rfl rfl (hs_442).1 hx_19
  obtain ⟨cc_12, hc_12, hcell_6⟩ := hE_6.open
  obtain ⟨p_513, c_470, p_514, c_471, rfl, hs_458, hs_459⟩ := C_SlaveLine.open hc_12
  refine step hF (hY_6) rfl fun a hF => step hF (Y.loadNE (o := o_6) (k := 0) sz_25 hF rfl (hcell_6 _ hS.stab) rfl rfl) rfl fun a hF => ?_
  obtain ⟨KQ_5, hx_26, hk_5⟩ := nbnd_ex h
  refine O.callPN (us := [.agg #[iv e_6.Ring, .slice p_513 e_6.Starts.length c_470, .slice p_514 e_6.Events.length c_471], iv (-1)]) ca_34 hF hS (slave_Set_ok hS.stab e_6 (-1) hs_458 hs_459 hG KQ_5 hx_26) rfl rfl fun rv_18 h a w hF hS => ?_
  replace h := hk_5 _ h
  refine step hF (Y.move hF rfl) rfl fun a hF => step hF (Y.extract hF rfl rfl) rfl fun a hF => step hF (Y.extract hF rfl rfl) rfl fun a hF => O.alloc 29 zc_49 hF hS rfl fun b_17 a w hF hS => O.store (us := [iv rv_18.1.Pre, iv rv_18.1.Home, iv rv_18.1.First, iv rv_18.1.Send]) 29 sz_49 hF rfl rfl rfl rfl hS rfl rfl fun a w hF hS => step hF (Y.assign hF rfl) rfl fun a hF => nT (seq (region (step hF (Y.move hF rfl) rfl fun a hF => step hF (Y.move hF rfl) rfl fun a hF => ?_)))
  obtain ⟨b_18, o_7, hE_7, hY_7⟩ := Y.indexS (P := Tryd.prog) (C := C_SlaveLine) (xs := bad) (T := 82) (x := (.tmp 186)) (y := (.tmp 187)) u_82 sz_25 hF rfl rfl (hs_442).1 hx_19
  obtain ⟨cc_13, hc_13, hcell_7⟩ := hE_7.open
  obtain ⟨p_515, c_472, p_516, c_473, rfl, hs_460, hs_461⟩ := C_SlaveLine.open hc_13
  refine step hF (hY_7) rfl fun a hF => step hF (Y.loadNE (o := o_7) (k := 0) sz_25 hF rfl (hcell_7 _ hS.stab) rfl rfl) rfl fun a hF => ?_
  obtain ⟨KQ_6, hx_27, hk_6⟩ := nbnd_ex h
  refine O.callPN (us := [.agg #[iv e_6.Ring, .slice p_515 e_6.Starts.length c_472, .slice p_516 e_6.Events.length c_473], iv (-1)]) ca_30 hF hS (slave_Homes_ok hS.stab e_6 (-1) hs_460 hs_461 hG KQ_6 hx_27) rfl rfl fun rv_19 h a w hF hS => ?_
  replace h := hk_6 _ h
  refine step hF (Y.move hF rfl) rfl fun a hF => step hF (Y.extract hF rfl rfl) rfl fun a hF => step hF (Y.extract hF rfl rfl) rfl fun a hF => step hF (Y.assign hF rfl) rfl fun a hF => step hF (Y.assign hF rfl) rfl fun a hF => nT (seq (region (step hF (Y.move hF rfl) rfl fun a hF => step hF (Y.move hF rfl) rfl fun a hF => ?_)))
  obtain ⟨b_19, o_8, hE_8, hY_8⟩ := Y.indexS (P := Tryd.prog) (C := C_SlaveLine) (xs := bad) (T := 82) (x := (.tmp 193)) (y := (.tmp 194)) u_82 sz_25 hF rfl rfl (hs_442).1 hx_19
  obtain ⟨cc_14, hc_14, hcell_8⟩ := hE_8.open
  obtain ⟨p_517, c_474, p_518, c_475, rfl, hs_462, hs_463⟩ := C_SlaveLine.open hc_14
  refine step hF (hY_8) rfl fun a hF => step hF (Y.loadNE (o := o_8) (k := 0) sz_25 hF rfl (hcell_8 _ hS.stab) rfl rfl) rfl fun a hF => ?_
  replace h := ndet h
  obtain ⟨rv_20, hx_28, h⟩ := h
  refine O.callP (us := [.agg #[iv e_6.Ring, .slice p_517 e_6.Starts.length c_474, .slice p_518 e_6.Events.length c_475]]) ca_19 hF hS (slave_Check_ok hS.stab e_6 hs_462 hs_463 rv_20 hx_28) rfl rfl fun a w hF hS => step hF (Y.neq hF rfl rfl) rfl fun a hF => step hF (Y.move hF rfl) rfl fun a hF => join (N := 527) (rs := []) (w0 := w0) (D0 := D0) 3 (us := [(0, .bool v0_0), (1, .slice (some ⟨b_1, 0, none⟩) bad.length 12), (2, iv i), (6, iv rv_13.2), (8, iv rv_14.2), (10, iv rv_15.2), (12, iv rv_16.2), (14, iv rv_17.2), (16, iv rv_18.2), (18, iv rv_19.2), (202, .bool ((rv_20 != 70) || (rv_12.2 != 70)))]) (ms := [(3, oL (og_29 2) rv_1.Starts.length 57 2), (18, oL (og_29 17) rv_8.Events.length 66 6), (28, .cells b_11 [iv rv_13.1.Low, iv rv_13.1.High] 33), (29, .cells b_17 [iv rv_18.1.Pre, iv rv_18.1.Home, iv rv_18.1.First, iv rv_18.1.Send] 49)]) (D' := Dv_269) ?_ ?_
  ·rcases bcases (rv_20 != 70) with hbv_2 | hbv_2
   ·skip
    refine guard_off hF rfl rfl hbv_2 rfl fun a hF => guard_off hF rfl rfl hbv_2 rfl fun a hF => step hF (Y.pick_t hF rfl hbv_2 rfl) rfl fun a hF => nT ⟨hF.weak ⟨rfl, rfl, rfl, rfl, rfl, rfl, rfl, rfl, rfl, rfl, (by rw [hbv_2]; rfl), trivial⟩, hS.weak (AL rfl)⟩
   refine guard_on hF rfl rfl hbv_2 (step hF (Y.move hF rfl) rfl fun a hF => guard_on hF rfl rfl hbv_2 (step hF (Y.neq hF rfl rfl) rfl fun a hF => step hF (Y.pick_f hF rfl hbv_2 rfl) rfl fun a hF => nT ⟨hF.weak ⟨rfl, rfl, rfl, rfl, rfl, rfl, rfl, rfl, rfl, rfl, (by rw [hbv_2]; rfl), trivial⟩, hS.weak (AL rfl)⟩))
  intro a w hF hS
  refine step hF (Y.move hF rfl) rfl fun a hF => join (N := 527) (rs := []) (w0 := w0) (D0 := D0) 3 (us := [(0, .bool v0_0), (1, .slice (some ⟨b_1, 0, none⟩) bad.length 12), (2, iv i), (8, iv rv_14.2), (10, iv rv_15.2), (12, iv rv_16.2), (14, iv rv_17.2), (16, iv rv_18.2), (18, iv rv_19.2), (206, .bool (((rv_20 != 70) || (rv_12.2 != 70)) || (rv_13.2 != 70)))]) (ms := [(3, oL (og_29 2) rv_1.Starts.length 57 2), (18, oL (og_29 17) rv_8.Events.length 66 6), (28, .cells b_11 [iv rv_13.1.Low, iv rv_13.1.High] 33), (29, .cells b_17 [iv rv_18.1.Pre, iv rv_18.1.Home, iv rv_18.1.First, iv rv_18.1.Send] 49)]) (D' := Dv_269) ?_ ?_
  ·rcases bcases ((rv_20 != 70) || (rv_12.2 != 70)) with hbv_3 | hbv_3
   ·skip
    refine guard_off hF rfl rfl hbv_3 rfl fun a hF => guard_off hF rfl rfl hbv_3 rfl fun a hF => step hF (Y.pick_t hF rfl hbv_3 rfl) rfl fun a hF => nT ⟨hF.weak ⟨rfl, rfl, rfl, rfl, rfl, rfl, rfl, rfl, rfl, (by rw [hbv_3]; rfl), trivial⟩, hS.weak (AL rfl)⟩
   refine guard_on hF rfl rfl hbv_3 (step hF (Y.move hF rfl) rfl fun a hF => guard_on hF rfl rfl hbv_3 (step hF (Y.neq hF rfl rfl) rfl fun a hF => step hF (Y.pick_f hF rfl hbv_3 rfl) rfl fun a hF => nT ⟨hF.weak ⟨rfl, rfl, rfl, rfl, rfl, rfl, rfl, rfl, rfl, (by rw [hbv_3]; rfl), trivial⟩, hS.weak (AL rfl)⟩))
  intro a w hF hS
  refine step hF (Y.move hF rfl) rfl fun a hF => join (N := 527) (rs := []) (w0 := w0) (D0 := D0) 3 (us := [(0, .bool v0_0), (1, .slice (some ⟨b_1, 0, none⟩) bad.length 12), (2, iv i), (10, iv rv_15.2), (12, iv rv_16.2), (14, iv rv_17.2), (16, iv rv_18.2), (18, iv rv_19.2), (210, .bool ((((rv_20 != 70) || (rv_12.2 != 70)) || (rv_13.2 != 70)) || (rv_14.2 != 70)))]) (ms := [(3, oL (og_29 2) rv_1.Starts.length 57 2), (18, oL (og_29 17) rv_8.Events.length 66 6), (28, .cells b_11 [iv rv_13.1.Low, iv rv_13.1.High] 33), (29, .cells b_17 [iv rv_18.1.Pre, iv rv_18.1.Home, iv rv_18.1.First, iv rv_18.1.Send] 49)]) (D' := Dv_269) ?_ ?_
  ·rcases bcases (((rv_20 != 70) || (rv_12.2 != 70)) || (rv_13.2 != 70)) with hbv_4 | hbv_4
   ·skip
    refine guard_off hF rfl rfl hbv_4 rfl fun a hF => guard_off hF rfl rfl hbv_4 rfl fun a hF => step hF (Y.pick_t hF rfl hbv_4 rfl) rfl fun a hF => nT ⟨hF.weak ⟨rfl, rfl, rfl, rfl, rfl, rfl, rfl, rfl, (by rw [hbv_4]; rfl), trivial⟩, hS.weak (AL rfl)⟩
   refine guard_on hF rfl rfl hbv_4 (step hF (Y.move hF rfl) rfl fun a hF => guard_on hF rfl rfl hbv_4 (step hF (Y.neq hF rfl rfl) rfl fun a hF => step hF (Y.pick_f hF rfl hbv_4 rfl) rfl fun a hF => nT ⟨hF.weak ⟨rfl, rfl, rfl, rfl, rfl, rfl, rfl, rfl, (by rw [hbv_4]; rfl), trivial⟩, hS.weak (AL rfl)⟩))
  intro a w hF hS
  refine step hF (Y.move hF rfl) rfl fun a hF => join (N := 527) (rs := []) (w0 := w0) (D0 := D0) 3 (us := [(0, .bool v0_0), (1, .slice (some ⟨b_1, 0, none⟩) bad.length 12), (2, iv i), (12, iv rv_16.2), (14, iv rv_17.2), (16, iv rv_18.2), (18, iv rv_19.2), (214, .bool (((((rv_20 != 70) || (rv_12.2 != 70)) || (rv_13.2 != 70)) || (rv_14.2 != 70)) || (rv_15.2 != 70)))]) (ms := [(3, oL (og_29 2) rv_1.Starts.length 57 2), (18, oL (og_29 17) rv_8.Events.length 66 6), (28, .cells b_11 [iv rv_13.1.Low, iv rv_13.1.High] 33), (29, .cells b_17 [iv rv_18.1.Pre, iv rv_18.1.Home, iv rv_18.1.First, iv rv_18.1.Send] 49)]) (D' := Dv_269) ?_ ?_
  ·rcases bcases ((((rv_20 != 70) || (rv_12.2 != 70)) || (rv_13.2 != 70)) || (rv_14.2 != 70)) with hbv_5 | hbv_5
   ·skip
    refine guard_off hF rfl rfl hbv_5 rfl fun a hF => guard_off hF rfl rfl hbv_5 rfl fun a hF => step hF (Y.pick_t hF rfl hbv_5 rfl) rfl fun a hF => nT ⟨hF.weak ⟨rfl, rfl, rfl, rfl, rfl, rfl, rfl, (by rw [hbv_5]; rfl), trivial⟩, hS.weak (AL rfl)⟩
   refine guard_on hF rfl rfl hbv_5 (step hF (Y.move hF rfl) rfl fun a hF => guard_on hF rfl rfl hbv_5 (step hF (Y.neq hF rfl rfl) rfl fun a hF => step hF (Y.pick_f hF rfl hbv_5 rfl) rfl fun a hF => nT ⟨hF.weak ⟨rfl, rfl, rfl, rfl, rfl, rfl, rfl, (by rw [hbv_5]; rfl), trivial⟩, hS.weak (AL rfl)⟩))
  intro a w hF hS
  refine step hF (Y.move hF rfl) rfl fun a hF => join (N := 527) (rs := []) (w0 := w0) (D0 := D0) 3 (us := [(0, .bool v0_0), (1, .slice (some ⟨b_1, 0, none⟩) bad.length 12), (2, iv i), (14, iv rv_17.2), (16, iv rv_18.2), (18, iv rv_19.2), (218, .bool ((((((rv_20 != 70) || (rv_12.2 != 70)) || (rv_13.2 != 70)) || (rv_14.2 != 70)) || (rv_15.2 != 70)) || (rv_16.2 != 70)))]) (ms := [(3, oL (og_29 2) rv_1.Starts.length 57 2), (18, oL (og_29 17) rv_8.Events.length 66 6), (28, .cells b_11 [iv rv_13.1.Low, iv rv_13.1.High] 33), (29, .cells b_17 [iv rv_18.1.Pre, iv rv_18.1.Home, iv rv_18.1.First, iv rv_18.1.Send] 49)]) (D' := Dv_269) ?_ ?_
  ·rcases bcases (((((rv_20 != 70) || (rv_12.2 != 70)) || (rv_13.2 != 70)) || (rv_14.2 != 70)) || (rv_15.2 != 70)) with hbv_6 | hbv_6
   ·skip
    refine guard_off hF rfl rfl hbv_6 rfl fun a hF => guard_off hF rfl rfl hbv_6 rfl fun a hF => step hF (Y.pick_t hF rfl hbv_6 rfl) rfl fun a hF => nT ⟨hF.weak ⟨rfl, rfl, rfl, rfl, rfl, rfl, (by rw [hbv_6]; rfl), trivial⟩, hS.weak (AL rfl)⟩
   refine guard_on hF rfl rfl hbv_6 (step hF (Y.move hF rfl) rfl fun a hF => guard_on hF rfl rfl hbv_6 (step hF (Y.neq hF rfl rfl) rfl fun a hF => step hF (Y.pick_f hF rfl hbv_6 rfl) rfl fun a hF => nT ⟨hF.weak ⟨rfl, rfl, rfl, rfl, rfl, rfl, (by rw [hbv_6]; rfl), trivial⟩, hS.weak (AL rfl)⟩))
  intro a w hF hS
  refine step hF (Y.move hF rfl) rfl fun a hF => join (N := 527) (rs := []) (w0 := w0) (D0 := D0) 3 (us := [(0, .bool v0_0), (1, .slice (some ⟨b_1, 0, none⟩) bad.length 12), (2, iv i), (16, iv rv_18.2), (18, iv rv_19.2), (222, .bool (((((((rv_20 != 70) || (rv_12.2 != 70)) || (rv_13.2 != 70)) || (rv_14.2 != 70)) || (rv_15.2 != 70)) || (rv_16.2 != 70)) || (rv_17.2 != 70)))]) (ms := [(3, oL (og_29 2) rv_1.Starts.length 57 2), (18, oL (og_29 17) rv_8.Events.length 66 6), (28, .cells b_11 [iv rv_13.1.Low, iv rv_13.1.High] 33), (29, .cells b_17 [iv rv_18.1.Pre, iv rv_18.1.Home, iv rv_18.1.First, iv rv_18.1.Send] 49)]) (D' := Dv_269) ?_ ?_
  ·rcases bcases ((((((rv_20 != 70) || (rv_12.2 != 70)) || (rv_13.2 != 70)) || (rv_14.2 != 70)) || (rv_15.2 != 70)) || (rv_16.2 != 70)) with hbv_7 | hbv_7
   ·skip
    refine guard_off hF rfl rfl hbv_7 rfl fun a hF => guard_off hF rfl rfl hbv_7 rfl fun a hF => step hF (Y.pick_t hF rfl hbv_7 rfl) rfl fun a hF => nT ⟨hF.weak ⟨rfl, rfl, rfl, rfl, rfl, (by rw [hbv_7]; rfl), trivial⟩, hS.weak (AL rfl)⟩
   refine guard_on hF rfl rfl hbv_7 (step hF (Y.move hF rfl) rfl fun a hF => guard_on hF rfl rfl hbv_7 (step hF (Y.neq hF rfl rfl) rfl fun a hF => step hF (Y.pick_f hF rfl hbv_7 rfl) rfl fun a hF => nT ⟨hF.weak ⟨rfl, rfl, rfl, rfl, rfl, (by rw [hbv_7]; rfl), trivial⟩, hS.weak (AL rfl)⟩))
  intro a w hF hS
  refine step hF (Y.move hF rfl) rfl fun a hF => join (N := 527) (rs := []) (w0 := w0) (D0 := D0) 3 (us := [(0, .bool v0_0), (1, .slice (some ⟨b_1, 0, none⟩) bad.length 12), (2, iv i), (18, iv rv_19.2), (226, .bool ((((((((rv_20 != 70) || (rv_12.2 != 70)) || (rv_13.2 != 70)) || (rv_14.2 != 70)) || (rv_15.2 != 70)) || (rv_16.2 != 70)) || (rv_17.2 != 70)) || (rv_18.2 != 70)))]) (ms := [(3, oL (og_29 2) rv_1.Starts.length 57 2), (18, oL (og_29 17) rv_8.Events.length 66 6), (28, .cells b_11 [iv rv_13.1.Low, iv rv_13.1.High] 33), (29, .cells b_17 [iv rv_18.1.Pre, iv rv_18.1.Home, iv rv_18.1.First, iv rv_18.1.Send] 49)]) (D' := Dv_269) ?_ ?_
  ·rcases bcases (((((((rv_20 != 70) || (rv_12.2 != 70)) || (rv_13.2 != 70)) || (rv_14.2 != 70)) || (rv_15.2 != 70)) || (rv_16.2 != 70)) || (rv_17.2 != 70)) with hbv_8 | hbv_8
   ·skip
    refine guard_off hF rfl rfl hbv_8 rfl fun a hF => guard_off hF rfl rfl hbv_8 rfl fun a hF => step hF (Y.pick_t hF rfl hbv_8 rfl) rfl fun a hF => nT ⟨hF.weak ⟨rfl, rfl, rfl, rfl, (by rw [hbv_8]; rfl), trivial⟩, hS.weak (AL rfl)⟩
   refine guard_on hF rfl rfl hbv_8 (step hF (Y.move hF rfl) rfl fun a hF => guard_on hF rfl rfl hbv_8 (step hF (Y.neq hF rfl rfl) rfl fun a hF => step hF (Y.pick_f hF rfl hbv_8 rfl) rfl fun a hF => nT ⟨hF.weak ⟨rfl, rfl, rfl, rfl, (by rw [hbv_8]; rfl), trivial⟩, hS.weak (AL rfl)⟩))
  intro a w hF hS
  refine step hF (Y.move hF rfl) rfl fun a hF => join (N := 527) (rs := []) (w0 := w0) (D0 := D0) 3 (us := [(0, .bool v0_0), (1, .slice (some ⟨b_1, 0, none⟩) bad.length 12), (2, iv i), (230, .bool (((((((((rv_20 != 70) || (rv_12.2 != 70)) || (rv_13.2 != 70)) || (rv_14.2 != 70)) || (rv_15.2 != 70)) || (rv_16.2 != 70)) || (rv_17.2 != 70)) || (rv_18.2 != 70)) || (rv_19.2 != 70)))]) (ms := [(3, oL (og_29 2) rv_1.Starts.length 57 2), (18, oL (og_29 17) rv_8.Events.length 66 6), (28, .cells b_11 [iv rv_13.1.Low, iv rv_13.1.High] 33), (29, .cells b_17 [iv rv_18.1.Pre, iv rv_18.1.Home, iv rv_18.1.First, iv rv_18.1.Send] 49)]) (D' := Dv_269) ?_ ?_
  ·rcases bcases ((((((((rv_20 != 70) || (rv_12.2 != 70)) || (rv_13.2 != 70)) || (rv_14.2 != 70)) || (rv_15.2 != 70)) || (rv_16.2 != 70)) || (rv_17.2 != 70)) || (rv_18.2 != 70)) with hbv_9 | hbv_9
   ·skip
    refine guard_off hF rfl rfl hbv_9 rfl fun a hF => guard_off hF rfl rfl hbv_9 rfl fun a hF => step hF (Y.pick_t hF rfl hbv_9 rfl) rfl fun a hF => nT ⟨hF.weak ⟨rfl, rfl, rfl, (by rw [hbv_9]; rfl), trivial⟩, hS.weak (AL rfl)⟩
   refine guard_on hF rfl rfl hbv_9 (step hF (Y.move hF rfl) rfl fun a hF => guard_on hF rfl rfl hbv_9 (step hF (Y.neq hF rfl rfl) rfl fun a hF => step hF (Y.pick_f hF rfl hbv_9 rfl) rfl fun a hF => nT ⟨hF.weak ⟨rfl, rfl, rfl, (by rw [hbv_9]; rfl), trivial⟩, hS.weak (AL rfl)⟩))
  intro a w hF hS
  refine nT (cond_b hF rfl (fun hbv_10 => ?_) (fun hbv_10 => ?_))
  ·replace h := ncond_t h hbv_10
   refine seq (region (step hF (Y.assign hF rfl) rfl fun a hF => nT (ret_ (blk_r (then_r (then_r (blk_r (then_r ?_))))))))
   replace h := next_h h
   exact leavePN _ (nret h) Tryd.results15 hF hS (.cons (.tmp rfl) .nil) .nil rfl
  replace h := ncond_f h hbv_10
  refine skip_ (blk_n (then_n (region (step hF (Y.move hF rfl) rfl fun a hF => step hF (Y.add hF rfl rfl) rfl fun a hF => step hF (Y.assign hF rfl) rfl fun a hF => nT (⟨_, nnxt_h h, v0_0, (wr (i + 1)), Dv_269, rfl, hlev_267.trans (hlev_268.trans (hlev_269.trans hlev_270)), hF.weak (AF rfl), hS.weak ⟨rfl, rfl, trivial⟩⟩)))))
 replace h := ncond_f h hbv_1
 refine exit_ (then_x (then_x (blk_hit (then_n ?_))))
 replace h := next_h h
 exact w7SlaveKnown_s1_ok v0_0 (hlev_243.trans (hlev_244.trans (hlev_245.trans (hlev_246.trans (hlev_247.trans (hlev_248.trans (hlev_249.trans (hlev_250.trans (hlev_251.trans (hlev_252.trans (hlev_253.trans (hlev_254.trans (hlev_255.trans (hlev_256.trans (hlev_257.trans (hlev_258.trans (hlev_259.trans (hlev_260.trans (hlev_261.trans (hlev_262.trans (hlev_263.trans (hlev_264.trans (hlev_265.trans (hlev_266.trans hlev_267)))))))))))))))))))))))) hG out h (hF.weak (us := [(0, .bool v0_0)]) ⟨rfl, trivial⟩) (hS.weak (ms := []) trivial)
end Go.Proofs.YtmbgmefmkjeahaaDoor.Rt
