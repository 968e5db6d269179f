/- Walks of the functions of this seat: what each Go function comes to, as a Lean function, and the proof. Part WN1. Under no conditions. -/
import Derived.Test.YtmbgmefmkjeahaaDoorC13WSZ
set_option linter.unusedVariables false
set_option linter.unusedSimpArgs false
set_option maxRecDepth 100000
set_option maxHeartbeats 4000000
namespace Go.Proofs.YtmbgmefmkjeahaaDoor.Rt
open Go Go.RowKit
noncomputable def w7moved (ring : Int) (sv : SlaveStart) (sign : Int) : Option SlaveStart :=
  cond (sv.Last == sign)
  (some sv)
  (if ring ≠ 0 then
  some (SlaveStart.mk (Int.tmod (wr (sv.Shown + 1)) ring) sign)
  else none)
theorem w7moved_ok {w0 : World} {D0 : Stab} (hD : D0.on w0) (ring : Int) (sv : SlaveStart) (sign : Int) (out : SlaveStart) (h : w7moved ring sv sign = some out) : Calls Tryd.prog 52 [.int .i64 ring, .agg #[.int .i64 sv.Shown, .int .i64 sv.Last], .int .i64 sign].toArray w0 (RetP D0 w0 (.agg #[.int .i64 out.Shown, .int .i64 out.Last])) := by
 refine enter _ 19 Tryd.func52 rfl Tryd.ntmps52 rfl fun a hF => ?_
 replace hF : Frm 19 [] [(0, .int .i64 ring), (1, .agg #[.int .i64 sv.Shown, .int .i64 sv.Last]), (2, .int .i64 sign)] a := hF
 have hS := St.start hD
 unfold w7moved at h
 refine seq (region (O.box (cs := [.int .i64 sv.Shown, .int .i64 sv.Last]) 1 hF rfl rfl hS rfl fun b a w hF hS => O.alloc 2 zc_57 hF hS rfl fun b_1 a w hF hS => nil (then_n (seq (seq (region (step hF (Y.fieldAddr fo_57_1 hF rfl) rfl fun a hF => step hF (Y.load1L 1 sz_3 hF rfl hS rfl rfl) rfl fun a hF => step hF (Y.move hF rfl) rfl fun a hF => step hF (Y.eql hF rfl rfl) rfl fun a hF => nil (then_n (cond_b hF rfl (fun hbv => ?_) (fun hbv => ?_))))))))))
 ·replace h := cond_t h hbv
  refine seq (region (step hF (Y.loadNL 1 sz_57 hF rfl hS rfl rfl rfl) rfl fun a hF => O.store (us := [.int .i64 sv.Shown, .int .i64 sv.Last]) 2 sz_57 hF rfl rfl rfl rfl hS rfl rfl fun a w hF hS => nil (then_n (ret_ (then_r ?_)))))
  obtain rfl := some_inj h
  exact leaveP Tryd.results52 hF hS (.cons (.cellN 2 sz_57 rfl rfl rfl) .nil) .nil rfl
 replace h := cond_f h hbv
 refine skip_ (then_n (seq (region (step hF (Y.fieldAddr fo_57_0 hF rfl) rfl fun a hF => step hF (Y.load1L 1 sz_3 hF rfl hS rfl rfl) rfl fun a hF => step hF (Y.add hF rfl rfl) rfl fun a hF => step hF (Y.move hF rfl) rfl fun a hF => ?_))))
 obtain ⟨hg, h⟩ := ite_some h
 refine step hF (Y.rem hF rfl rfl hg) rfl fun a hF => step hF (Y.move hF rfl) rfl fun a hF => step hF (Y.build (parts := [(0, (.tmp 16)), (1, (.tmp 17))]) (cs := #[.int .i64 (Int.tmod (wr (sv.Shown + 1)) ring), .int .i64 sign]) hF rfl (by kernel_rfl)) rfl fun a hF => O.store (us := [.int .i64 (Int.tmod (wr (sv.Shown + 1)) ring), .int .i64 sign]) 2 sz_57 hF rfl rfl rfl rfl hS rfl rfl fun a w hF hS => nil (then_n (ret_ ?_))
 obtain rfl := some_inj h
 exact leaveP Tryd.results52 hF hS (.cons (.cellN 2 sz_57 rfl rfl rfl) .nil) .nil rfl
noncomputable def w7homed_b1 (ring : Int) (sv : SlaveStart) (many : Int) : (Int × Int) → Option ((Int × Int) ⊕ SlaveStart)
 | (i, z) =>
  cond ((decide (i < many)) && (z != 0))
  (if ring ≠ 0 then
  nxt (wr (i + 1), Int.tmod (wr (z + 1)) ring)
  else none)
  (ext (some (SlaveStart.mk z sv.Last)))
noncomputable def w7homed (ring : Int) (sv : SlaveStart) (many : Int) : Option SlaveStart :=
  loopU (w7homed_b1 ring sv many) (0, sv.Shown)
theorem w7homed_ok {w0 : World} {D0 : Stab} (hD : D0.on w0) (ring : Int) (sv : SlaveStart) (many : Int) (out : SlaveStart) (h : w7homed ring sv many = some out) : Calls Tryd.prog 53 [.int .i64 ring, .agg #[.int .i64 sv.Shown, .int .i64 sv.Last], .int .i64 many].toArray w0 (RetP D0 w0 (.agg #[.int .i64 out.Shown, .int .i64 out.Last])) := by
 refine enter _ 25 Tryd.func53 rfl Tryd.ntmps53 rfl fun a hF => ?_
 replace hF : Frm 25 [] [(0, .int .i64 ring), (1, .agg #[.int .i64 sv.Shown, .int .i64 sv.Last]), (2, .int .i64 many)] a := hF
 have hS := St.start hD
 unfold w7homed at h
 refine seq (region (O.box (cs := [.int .i64 sv.Shown, .int .i64 sv.Last]) 1 hF rfl rfl hS rfl fun b a w hF hS => O.alloc 2 zc_57 hF hS rfl fun b_1 a w hF hS => nil (then_n (seq (seq (region (step hF (Y.assign hF rfl) rfl fun a hF => nil (then_n (block (loop_cut (body := w7homed_b1 ring sv many) (out := out) (fun s a w => ∃ (i : Int) (z : Int), s = (i, z) ∧ Frm 25 [] [(0, .int .i64 ring), (2, .int .i64 many), (4, .pointer (some ⟨b, 0, none⟩)), (6, .pointer (some ⟨b_1, 0, none⟩)), (7, .int .i64 i)] a ∧ St w0 D0 D0 [(1, .cells b [.int .i64 z, .int .i64 sv.Last] 57), (2, .cells b_1 [.int .i64 0, .int .i64 0] 57)] w) (0, sv.Shown) h ⟨0, sv.Shown, rfl, hF.weak ⟨rfl, rfl, rfl, rfl, rfl, trivial⟩, hS.weak ⟨rfl, rfl, trivial⟩⟩ ?_))))))))))
 rintro s a w xo ⟨i, z, rfl, hF, hS⟩ h hxo
 unfold w7homed_b1 at h
 dsimp only at h
 refine seq (seq (region (step hF (Y.move hF rfl) rfl fun a hF => step hF (Y.move hF rfl) rfl fun a hF => step hF (Y.lss hF rfl rfl) rfl fun a hF => step hF (Y.move hF rfl) rfl fun a hF => join (N := 25) (rs := []) (w0 := w0) (D0 := D0) 4 (us := [(0, .int .i64 ring), (2, .int .i64 many), (4, .pointer (some ⟨b, 0, none⟩)), (6, .pointer (some ⟨b_1, 0, none⟩)), (7, .int .i64 i), (15, .bool ((decide (i < many)) && (z != 0)))]) (ms := [(1, .cells b [.int .i64 z, .int .i64 sv.Last] 57), (2, .cells b_1 [.int .i64 0, .int .i64 0] 57)]) (D' := D0) ?_ ?_)))
 ·rcases bcases (decide (i < many)) with hbv | hbv
  ·skip
   refine guard_on hF rfl rfl hbv (step hF (Y.fieldAddr fo_57_0 hF rfl) rfl fun a hF => guard_on hF rfl rfl hbv (step hF (Y.load1L 1 sz_3 hF rfl hS rfl rfl) rfl fun a hF => guard_on hF rfl rfl hbv (step hF (Y.neq hF rfl rfl) rfl fun a hF => step hF (Y.pick_t hF rfl hbv rfl) rfl fun a hF => nil (then_n ⟨hF.weak ⟨rfl, rfl, rfl, rfl, rfl, (by rw [hbv]; rfl), trivial⟩, hS.weak ⟨rfl, rfl, trivial⟩⟩))))
  refine guard_off hF rfl rfl hbv rfl fun a hF => guard_off hF rfl rfl hbv rfl fun a hF => guard_off hF rfl rfl hbv rfl fun a hF => step hF (Y.pick_f hF rfl hbv rfl) rfl fun a hF => nil (then_n ⟨hF.weak ⟨rfl, rfl, rfl, rfl, rfl, (by rw [hbv]; rfl), trivial⟩, hS.weak ⟨rfl, rfl, trivial⟩⟩)
 intro a w hF hS
 refine nil (then_n (cond_b hF rfl (fun hbv_1 => ?_) (fun hbv_1 => ?_)))
 ·replace h := cond_t h hbv_1
  refine skip_ (then_n (seq (block (region (step hF (Y.fieldAddr fo_57_0 hF rfl) rfl fun a hF => step hF (Y.load1L 1 sz_3 hF rfl hS rfl rfl) rfl fun a hF => step hF (Y.add hF rfl rfl) rfl fun a hF => step hF (Y.move hF rfl) rfl fun a hF => ?_)))))
  obtain ⟨hg, h⟩ := ite_some h
  refine step hF (Y.rem hF rfl rfl hg) rfl fun a hF => step hF (Y.fieldAddr fo_57_0 hF rfl) rfl fun a hF => O.store (us := [.int .i64 (Int.tmod (wr (z + 1)) ring)]) 1 sz_3 hF rfl rfl rfl rfl hS rfl rfl fun a w hF hS => nil (blk_n (then_n (region (step hF (Y.move hF rfl) rfl fun a hF => step hF (Y.add hF rfl rfl) rfl fun a hF => step hF (Y.assign hF rfl) rfl fun a hF => nil (then_n (⟨_, nxt_some h, (wr (i + 1)), (Int.tmod (wr (z + 1)) ring), rfl, hF.weak ⟨rfl, rfl, rfl, rfl, rfl, trivial⟩, hS.weak ⟨rfl, rfl, trivial⟩⟩))))))
 replace h := cond_f h hbv_1
 refine exit_ (then_x (then_x (blk_hit (then_n ?_))))
 replace h := ext_some h hxo
 refine seq (region (step hF (Y.loadNL 1 sz_57 hF rfl hS rfl rfl rfl) rfl fun a hF => O.store (us := [.int .i64 z, .int .i64 sv.Last]) 2 sz_57 hF rfl rfl rfl rfl hS rfl rfl fun a w hF hS => nil (then_n (ret_ ?_))))
 obtain rfl := some_inj h
 exact leaveP Tryd.results53 hF hS (.cons (.cellN 2 sz_57 rfl rfl rfl) .nil) .nil rfl
noncomputable def w7was_b3 (l : SlaveLine) (bits : (List Int)) (story : (List (List Int))) (i : Int) (e_1 : SlaveEvent) (l_2 : (List SlaveEvent)) : (Int × (List Int) × Int × Int × Int) → Option ((Int × (List Int) × Int × Int × Int) ⊕ (((List (List Int)) × Int × Int × (List SlaveEvent) × Int × Int) ⊕ ((List (List Int)) × SlaveStart × SlaveLine)))
 | (next_1, lost, p_9, z_2, z_3) =>
  cond ((decide (p_9 < e_1.Count)) && (e_1.Kind != 2))
  ((cond (decide ((lost.length : Int) < e_1.Lost)) ((r0At bits (wr (next_1 + 1))).bind fun rv =>
  (r0Rest rv 4).bind fun rv_1 =>
  some (rv_1 == 0)) (some false)).bind fun t =>
  cond t
  (if lost.length + ([p_9]).length ≤ lim then
  nxt (wr (next_1 + 1), (lost ++ [p_9]), wr (p_9 + 1), z_2, z_3)
  else none)
  (cond (e_1.Kind == 1)
  ((w7homed l.Ring (SlaveStart.mk z_2 z_3) 1).bind fun rv_2 =>
  nxt (wr (next_1 + 1), lost, wr (p_9 + 1), rv_2.Shown, rv_2.Last))
  ((r0Rest (wr (e_1.First + p_9)) 2).bind fun rv_3 =>
  (w7moved l.Ring (SlaveStart.mk z_2 z_3) rv_3).bind fun rv_4 =>
  nxt (wr (next_1 + 1), lost, wr (p_9 + 1), rv_4.Shown, rv_4.Last))))
  (ext (if story.length + ([lost]).length ≤ lim then
  nxt ((story ++ [lost]), next_1, wr (i + 1), l_2, z_2, z_3)
  else none))
noncomputable def w7was_k2 (l : SlaveLine) (bits : (List Int)) (story : (List (List Int))) (next : Int) (i : Int) (z : Int) (z_1 : Int) (e_1 : SlaveEvent) (l_2 : (List SlaveEvent)) : Option (((List (List Int)) × Int × Int × (List SlaveEvent) × Int × Int) ⊕ ((List (List Int)) × SlaveStart × SlaveLine)) :=
  loopU (w7was_b3 l bits story i e_1 l_2) (next, ([] : List Int), 0, z, z_1)
noncomputable def w7was_b1 (l : SlaveLine) (who : Int) (bits : (List Int)) : ((List (List Int)) × Int × Int × (List SlaveEvent) × Int × Int) → Option (((List (List Int)) × Int × Int × (List SlaveEvent) × Int × Int) ⊕ ((List (List Int)) × SlaveStart × SlaveLine))
 | (story, next, i, l_1, z, z_1) =>
  cond (decide (i < (l.Events.length : Int)))
  ((idx l.Events i).bind fun e_1 =>
  cond ((e_1.Kind == 2) && (e_1.Who == who))
  ((w7look who z).bind fun rv_5 =>
  if (0 : Int) ≤ i ∧ i < (l_1.length : Int) then
  w7was_k2 l bits story next i z z_1 e_1 (l_1.set (Int.toNat i) rv_5)
  else none)
  (w7was_k2 l bits story next i z z_1 e_1 l_1))
  (ext (some (story, (SlaveStart.mk z z_1), (SlaveLine.mk l.Ring l.Starts l_1))))
noncomputable def w7was (l : SlaveLine) (who : Int) (bits : (List Int)) : Option ((List (List Int)) × SlaveStart × SlaveLine) :=
  if ([] : List SlaveEvent).length + l.Events.length ≤ lim then
  (idx l.Starts who).bind fun e =>
  loopU (w7was_b1 l who bits) (([] : List (List Int)), 0, 0, (([] : List SlaveEvent) ++ l.Events), e.Shown, e.Last)
  else none
theorem w7was_ok {w0 : World} {D0 : Stab} (hD : D0.on w0) (l : SlaveLine) (who : Int) (bits : (List Int)) {p : Option Addr} {c : Nat} {p_1 : Option Addr} {c_1 : Nat} {p_2 : Option Addr} {c_2 : Nat} (hs : SRc C_SlaveStart D0 l.Starts p c) (hs_1 : SRc C_SlaveEvent D0 l.Events p_1 c_1) (hs_2 : SRc C_int D0 bits p_2 c_2) (out : ((List (List Int)) × SlaveStart × SlaveLine)) (h : w7was l who bits = some out) : Calls Tryd.prog 38 [.agg #[.int .i64 l.Ring, .slice p l.Starts.length c, .slice p_1 l.Events.length c_1], .int .i64 who, .slice p_2 bits.length c_2].toArray w0 (RetS D0 w0 fun D v => ∃ p_14 c_13 p_15 c_14 p_16 c_15, v = .tuple #[.slice p_14 out.1.length c_13, .agg #[.int .i64 out.2.1.Shown, .int .i64 out.2.1.Last], .agg #[.int .i64 out.2.2.Ring, .slice p_15 out.2.2.Starts.length c_14, .slice p_16 out.2.2.Events.length c_15]] ∧ SRc (C_sl C_int) D out.1 p_14 c_13 ∧ SRc C_SlaveStart D out.2.2.Starts p_15 c_14 ∧ SRc C_SlaveEvent D out.2.2.Events p_16 c_15) := by
 refine enter _ 109 Tryd.func38 rfl Tryd.ntmps38 rfl fun a hF => ?_
 replace hF : Frm 109 [] [(0, .agg #[.int .i64 l.Ring, .slice p l.Starts.length c, .slice p_1 l.Events.length c_1]), (1, .int .i64 who), (2, .slice p_2 bits.length c_2)] a := hF
 have hS := St.start hD
 unfold w7was at h
 refine seq (region (O.box (cs := [.int .i64 l.Ring, .slice p l.Starts.length c, .slice p_1 l.Events.length c_1]) 1 hF rfl rfl hS rfl fun b a w hF hS => step hF (Y.assign hF rfl) rfl fun a hF => O.alloc 2 zc_57 hF hS rfl fun b_1 a w hF hS => O.alloc 3 zc_25 hF hS rfl fun b_2 a w hF hS => nil (then_n (seq (region (step hF (Y.loadNL 1 sz_25 hF rfl hS rfl rfl rfl) rfl fun a hF => O.alloc 4 zc_25 hF hS rfl fun b_3 a w hF hS => O.store (us := [.int .i64 l.Ring, .slice p l.Starts.length c, .slice p_1 l.Events.length c_1]) 4 sz_25 hF rfl rfl rfl rfl hS rfl rfl fun a w hF hS => nil (then_n (seq (region ?_)))))))))
 have hr : Reps C_SlaveEvent D0 ([] : List SlaveEvent) [] := Reps.nil
 refine O.buildSlice (E := 66) (C := C_SlaveEvent) (xs := ([] : List SlaveEvent)) (cs := []) (us := []) (parts := []) 5 hF hS rfl (by kernel_rfl) hr rfl rfl rfl fun p_3 c_3 a w hF hS => step hF (Y.fieldAddr fo_25_2 hF rfl) rfl fun a hF => step hF (Y.load1L 1 sz_23 hF rfl hS rfl rfl) rfl fun a hF => ?_
 obtain ⟨hg, h⟩ := ite_some h
 obtain ⟨ds, hds, hsrc⟩ := src_stab (C := C_SlaveEvent) (xs := l.Events) (hs_1).1 hS.stab
 refine O.append (C := C_SlaveEvent) (xs := ([] : List SlaveEvent)) (ys := l.Events) 5 gr_23 hF rfl rfl hS rfl hsrc hr hds hg rfl fun p_4 c_4 a w hF hS hr_1 => step hF (Y.fieldAddr fo_25_2 hF rfl) rfl fun a hF => O.store (us := [.slice p_4 (([] : List SlaveEvent) ++ l.Events).length c_4]) 4 sz_23 hF rfl rfl rfl rfl hS rfl rfl fun a w hF hS => nil (then_n (seq (region (step hF (Y.fieldAddr fo_25_1 hF rfl) rfl fun a hF => step hF (Y.load1L 1 sz_22 hF rfl hS rfl rfl) rfl fun a hF => step hF (Y.move hF rfl) rfl fun a hF => ?_))))
 obtain ⟨e, hx, h⟩ := bind_some h
 obtain ⟨b_4, o, hE, hY⟩ := Y.indexS (P := Tryd.prog) (C := C_SlaveStart) (xs := l.Starts) (T := 22) (x := (.tmp 24)) (y := (.tmp 25)) u_22 sz_57 hF rfl rfl (hs).1 hx
 obtain ⟨cc, hc, hcell⟩ := hE.open
 obtain rfl := C_SlaveStart.open hc
 refine step hF (hY) rfl fun a hF => step hF (Y.loadNE (o := o) (k := 0) sz_57 hF rfl (hcell _ hS.stab) rfl rfl) rfl fun a hF => O.alloc 6 zc_57 hF hS rfl fun b_5 a w hF hS => O.store (us := [.int .i64 e.Shown, .int .i64 e.Last]) 6 sz_57 hF rfl rfl rfl rfl hS rfl rfl fun a w hF hS => nil (then_n (seq (region (step hF (Y.assign hF rfl) rfl fun a hF => ?_))))
 replace hS := hS.ownNil 7 26 1
 refine nil (then_n (seq (region (step hF (Y.assign hF rfl) rfl fun a hF => nil (then_n (seq (seq (region (step hF (Y.assign hF rfl) rfl fun a hF => nil (then_n (block (loop_cut (body := w7was_b1 l who bits) (out := out) (fun s a w => ∃ (story : (List (List Int))) (next : Int) (i : Int) (l_1 : (List SlaveEvent)) (z : Int) (z_1 : Int), ∃ (Dv : Stab), ∃ p_5 c_5 cs p_6 c_6 cs_1, s = (story, next, i, l_1, z, z_1) ∧ D0.le Dv ∧ Frm 109 [] [(1, .int .i64 who), (2, .slice p_2 bits.length c_2), (3, .pointer (some ⟨b, 0, none⟩)), (6, .slice none 0 0), (7, .pointer (some ⟨b_1, 0, none⟩)), (8, .pointer (some ⟨b_2, 0, none⟩)), (9, .pointer (some ⟨b_3, 0, none⟩)), (10, .pointer (some ⟨b_5, 0, none⟩)), (11, .slice p_5 story.length c_5), (12, .int .i64 next), (13, .int .i64 i)] a ∧ St w0 D0 Dv [(1, .cells b [.int .i64 l.Ring, .slice p l.Starts.length c, .slice p_1 l.Events.length c_1] 25), (2, .cells b_1 [.int .i64 0, .int .i64 0] 57), (3, .cells b_2 [.int .i64 0, .slice none 0 0, .slice none 0 0] 25), (4, .cells b_3 [.int .i64 l.Ring, .slice p l.Starts.length c, .slice p_6 l_1.length c_6] 25), (5, .own p_6 l_1.length c_6 cs_1 66 6), (6, .cells b_5 [.int .i64 z, .int .i64 z_1] 57), (7, .own p_5 story.length c_5 cs 26 1)] w ∧ Reps (C_sl C_int) Dv story cs ∧ Reps C_SlaveEvent Dv l_1 cs_1) (([] : List (List Int)), 0, 0, (([] : List SlaveEvent) ++ l.Events), e.Shown, e.Last) h ⟨([] : List (List Int)), 0, 0, (([] : List SlaveEvent) ++ l.Events), e.Shown, e.Last, D0, none, 0, ([]), p_4, c_4, ([] ++ ds), rfl, Stab.le.refl _, hF.weak ⟨rfl, rfl, rfl, rfl, rfl, rfl, rfl, rfl, rfl, rfl, rfl, trivial⟩, hS.weak ⟨rfl, rfl, rfl, rfl, rfl, rfl, rfl, trivial⟩, Reps.nil, hr_1⟩ ?_))))))))))))
 rintro s a w xo ⟨story, next, i, l_1, z, z_1, Dv, p_5, c_5, cs, p_6, c_6, cs_1, rfl, hlev, hF, hS, hr_2, hr_3⟩ h hxo
 unfold w7was_b1 at h
 dsimp only at h
 replace hs := hs.mono hlev
 replace hs_1 := hs_1.mono hlev
 replace hs_2 := hs_2.mono hlev
 refine seq (seq (region (step hF (Y.move hF rfl) rfl fun a hF => step hF (Y.fieldAddr fo_25_2 hF rfl) rfl fun a hF => step hF (Y.load1L 1 sz_23 hF rfl hS rfl rfl) rfl fun a hF => step hF (Y.lenSl u_23 hF rfl) rfl fun a hF => step hF (Y.lss hF rfl rfl) rfl fun a hF => nil (then_n (cond_b hF rfl (fun hbv => ?_) (fun hbv => ?_))))))
 ·replace h := cond_t h hbv
  refine skip_ (then_n (seq (block (seq (region (step hF (Y.fieldAddr fo_25_2 hF rfl) rfl fun a hF => step hF (Y.load1L 1 sz_23 hF rfl hS rfl rfl) rfl fun a hF => step hF (Y.move hF rfl) rfl fun a hF => ?_))))))
  obtain ⟨e_1, hx_1, h⟩ := bind_some h
  obtain ⟨b_6, o_1, hE_1, hY_1⟩ := Y.indexS (P := Tryd.prog) (C := C_SlaveEvent) (xs := l.Events) (T := 23) (x := (.tmp 36)) (y := (.tmp 37)) u_23 sz_66 hF rfl rfl (hs_1).1 hx_1
  obtain ⟨cc_1, hc_1, hcell_1⟩ := hE_1.open
  obtain rfl := C_SlaveEvent.open hc_1
  refine step hF (hY_1) rfl fun a hF => step hF (Y.loadNE (o := o_1) (k := 0) sz_66 hF rfl (hcell_1 _ hS.stab) rfl rfl) rfl fun a hF => O.alloc 8 zc_66 hF hS rfl fun b_7 a w hF hS => O.store (us := [.int .i64 e_1.Kind, .int .i64 e_1.First, .int .i64 e_1.Count, .int .i64 e_1.Lost, .int .i64 e_1.Who, .int .i64 e_1.Shown]) 8 sz_66 hF rfl rfl rfl rfl hS rfl rfl fun a w hF hS => nil (then_n (seq (region (step hF (Y.assign hF rfl) rfl fun a hF => ?_))))
  replace hS := hS.ownNil 9 3 1
  refine nil (then_n (seq_cut (fun a w => ∃ (l_2 : (List SlaveEvent)), ∃ p_7 c_7 cs_2, Frm 109 [] [(1, .int .i64 who), (2, .slice p_2 bits.length c_2), (3, .pointer (some ⟨b, 0, none⟩)), (6, .slice none 0 0), (7, .pointer (some ⟨b_1, 0, none⟩)), (8, .pointer (some ⟨b_2, 0, none⟩)), (9, .pointer (some ⟨b_3, 0, none⟩)), (10, .pointer (some ⟨b_5, 0, none⟩)), (11, .slice p_5 story.length c_5), (12, .int .i64 next), (13, .int .i64 i), (14, .pointer (some ⟨b_7, 0, none⟩)), (15, .slice none ([] : List Int).length 0)] a ∧ St w0 D0 Dv [(1, .cells b [.int .i64 l.Ring, .slice p l.Starts.length c, .slice p_1 l.Events.length c_1] 25), (2, .cells b_1 [.int .i64 0, .int .i64 0] 57), (3, .cells b_2 [.int .i64 0, .slice none 0 0, .slice none 0 0] 25), (4, .cells b_3 [.int .i64 l.Ring, .slice p l.Starts.length c, .slice p_7 l_2.length c_7] 25), (5, .own p_7 l_2.length c_7 cs_2 66 6), (6, .cells b_5 [.int .i64 z, .int .i64 z_1] 57), (7, .own p_5 story.length c_5 cs 26 1), (8, .cells b_7 [.int .i64 e_1.Kind, .int .i64 e_1.First, .int .i64 e_1.Count, .int .i64 e_1.Lost, .int .i64 e_1.Who, .int .i64 e_1.Shown] 66), (9, .own none ([] : List Int).length 0 ([]) 3 1)] w ∧ Reps C_SlaveEvent Dv l_2 cs_2 ∧ w7was_k2 l bits story next i z z_1 e_1 l_2 = some xo) ?_ ?_))
  ·skip
   refine seq (region (step hF (Y.fieldAddr fo_66_0 hF rfl) rfl fun a hF => step hF (Y.load1L 8 sz_3 hF rfl hS rfl rfl) rfl fun a hF => step hF (Y.eql hF rfl rfl) rfl fun a hF => step hF (Y.move hF rfl) rfl fun a hF => join (N := 109) (rs := []) (w0 := w0) (D0 := D0) 5 (us := [(1, .int .i64 who), (2, .slice p_2 bits.length c_2), (3, .pointer (some ⟨b, 0, none⟩)), (6, .slice none 0 0), (7, .pointer (some ⟨b_1, 0, none⟩)), (8, .pointer (some ⟨b_2, 0, none⟩)), (9, .pointer (some ⟨b_3, 0, none⟩)), (10, .pointer (some ⟨b_5, 0, none⟩)), (11, .slice p_5 story.length c_5), (12, .int .i64 next), (13, .int .i64 i), (14, .pointer (some ⟨b_7, 0, none⟩)), (15, .slice none ([] : List Int).length 0), (48, .bool ((e_1.Kind == 2) && (e_1.Who == who)))]) (ms := [(1, .cells b [.int .i64 l.Ring, .slice p l.Starts.length c, .slice p_1 l.Events.length c_1] 25), (2, .cells b_1 [.int .i64 0, .int .i64 0] 57), (3, .cells b_2 [.int .i64 0, .slice none 0 0, .slice none 0 0] 25), (4, .cells b_3 [.int .i64 l.Ring, .slice p l.Starts.length c, .slice p_6 l_1.length c_6] 25), (5, .own p_6 l_1.length c_6 cs_1 66 6), (6, .cells b_5 [.int .i64 z, .int .i64 z_1] 57), (7, .own p_5 story.length c_5 cs 26 1), (8, .cells b_7 [.int .i64 e_1.Kind, .int .i64 e_1.First, .int .i64 e_1.Count, .int .i64 e_1.Lost, .int .i64 e_1.Who, .int .i64 e_1.Shown] 66), (9, .own none ([] : List Int).length 0 ([]) 3 1)]) (D' := Dv) ?_ ?_))
   ·rcases bcases (e_1.Kind == 2) with hbv_6 | hbv_6
    ·skip
     refine guard_on hF rfl rfl hbv_6 (step hF (Y.fieldAddr fo_66_4 hF rfl) rfl fun a hF => guard_on hF rfl rfl hbv_6 (step hF (Y.load1L 8 sz_3 hF rfl hS rfl rfl) rfl fun a hF => guard_on hF rfl rfl hbv_6 (step hF (Y.move hF rfl) rfl fun a hF => guard_on hF rfl rfl hbv_6 (step hF (Y.eql hF rfl rfl) rfl fun a hF => step hF (Y.pick_t hF rfl hbv_6 rfl) rfl fun a hF => nil (then_n ⟨hF.weak ⟨rfl, rfl, rfl, rfl, rfl, rfl, rfl, rfl, rfl, rfl, rfl, rfl, rfl, (by rw [hbv_6]; rfl), trivial⟩, hS.weak ⟨rfl, rfl, rfl, rfl, rfl, rfl, rfl, rfl, rfl, trivial⟩⟩)))))
    refine guard_off hF rfl rfl hbv_6 rfl fun a hF => guard_off hF rfl rfl hbv_6 rfl fun a hF => guard_off hF rfl rfl hbv_6 rfl fun a hF => guard_off hF rfl rfl hbv_6 rfl fun a hF => step hF (Y.pick_f hF rfl hbv_6 rfl) rfl fun a hF => nil (then_n ⟨hF.weak ⟨rfl, rfl, rfl, rfl, rfl, rfl, rfl, rfl, rfl, rfl, rfl, rfl, rfl, (by rw [hbv_6]; rfl), trivial⟩, hS.weak ⟨rfl, rfl, rfl, rfl, rfl, rfl, rfl, rfl, rfl, trivial⟩⟩)
   intro a w hF hS
   refine nil (then_n (cond_b hF rfl (fun hbv_7 => ?_) (fun hbv_7 => ?_)))
   ·replace h := cond_t h hbv_7
    obtain ⟨rv_5, hx_7, h⟩ := bind_some h
    refine drawsV 7 (.flt 0 (.flt 1 (.flt 2 (.flt 3 (.flt 4 (.flt 5 (.alt 6 .done .stop))))))) mixed_ (by kernel_rfl) (fun w => St w0 D0 Dv [(1, .cells b [.int .i64 l.Ring, .slice p l.Starts.length c, .slice p_1 l.Events.length c_1] 25), (2, .cells b_1 [.int .i64 0, .int .i64 0] 57), (3, .cells b_2 [.int .i64 0, .slice none 0 0, .slice none 0 0] 25), (4, .cells b_3 [.int .i64 l.Ring, .slice p l.Starts.length c, .slice p_6 l_1.length c_6] 25), (5, .own p_6 l_1.length c_6 cs_1 66 6), (6, .cells b_5 [.int .i64 z, .int .i64 z_1] 57), (7, .own p_5 story.length c_5 cs 26 1), (8, .cells b_7 [.int .i64 e_1.Kind, .int .i64 e_1.First, .int .i64 e_1.Count, .int .i64 e_1.Lost, .int .i64 e_1.Who, .int .i64 e_1.Shown] 66), (9, .own none ([] : List Int).length 0 ([]) 3 1)] w) (fun a w => Frm 109 [] [(1, .int .i64 who), (2, .slice p_2 bits.length c_2), (3, .pointer (some ⟨b, 0, none⟩)), (6, .slice none 0 0), (7, .pointer (some ⟨b_1, 0, none⟩)), (8, .pointer (some ⟨b_2, 0, none⟩)), (9, .pointer (some ⟨b_3, 0, none⟩)), (10, .pointer (some ⟨b_5, 0, none⟩)), (11, .slice p_5 story.length c_5), (12, .int .i64 next), (13, .int .i64 i), (14, .pointer (some ⟨b_7, 0, none⟩)), (15, .slice none ([] : List Int).length 0), (50, .slice p_6 l_1.length c_6), (51, .int .i64 i), (55, .agg #[.int .i64 rv_5.Kind, .int .i64 rv_5.First, .int .i64 rv_5.Count, .int .i64 rv_5.Lost, .int .i64 rv_5.Who, .int .i64 rv_5.Shown])] a ∧ St w0 D0 Dv [(1, .cells b [.int .i64 l.Ring, .slice p l.Starts.length c, .slice p_1 l.Events.length c_1] 25), (2, .cells b_1 [.int .i64 0, .int .i64 0] 57), (3, .cells b_2 [.int .i64 0, .slice none 0 0, .slice none 0 0] 25), (4, .cells b_3 [.int .i64 l.Ring, .slice p l.Starts.length c, .slice p_6 l_1.length c_6] 25), (5, .own p_6 l_1.length c_6 cs_1 66 6), (6, .cells b_5 [.int .i64 z, .int .i64 z_1] 57), (7, .own p_5 story.length c_5 cs 26 1), (8, .cells b_7 [.int .i64 e_1.Kind, .int .i64 e_1.First, .int .i64 e_1.Count, .int .i64 e_1.Lost, .int .i64 e_1.Who, .int .i64 e_1.Shown] 66), (9, .own none ([] : List Int).length 0 ([]) 3 1)] w) (hS.weak (ms := [(1, .cells b [.int .i64 l.Ring, .slice p l.Starts.length c, .slice p_1 l.Events.length c_1] 25), (2, .cells b_1 [.int .i64 0, .int .i64 0] 57), (3, .cells b_2 [.int .i64 0, .slice none 0 0, .slice none 0 0] 25), (4, .cells b_3 [.int .i64 l.Ring, .slice p l.Starts.length c, .slice p_6 l_1.length c_6] 25), (5, .own p_6 l_1.length c_6 cs_1 66 6), (6, .cells b_5 [.int .i64 z, .int .i64 z_1] 57), (7, .own p_5 story.length c_5 cs 26 1), (8, .cells b_7 [.int .i64 e_1.Kind, .int .i64 e_1.First, .int .i64 e_1.Count, .int .i64 e_1.Lost, .int .i64 e_1.Who, .int .i64 e_1.Shown] 66), (9, .own none ([] : List Int).length 0 ([]) 3 1)]) ⟨rfl, rfl, rfl, rfl, rfl, rfl, rfl, rfl, rfl, trivial⟩).drew (fun _ _ _ _ h => h) ?_ ?_
    ·replace hS := hS.drew
     have hle0 := hS.le
     refine stepV (i := 0) rfl hF (fun w hS => Y.fieldAddr fo_25_2 hF rfl) rfl fun a hF => stepV (i := 1) rfl hF (fun w hS => Y.load1L 4 sz_23 hF rfl hS rfl rfl) rfl fun a hF => stepV (i := 2) rfl hF (fun w hS => Y.move hF rfl) rfl fun a hF => stepV (i := 3) rfl hF (fun w hS => Y.move hF rfl) rfl fun a hF => stepV (i := 4) rfl hF (fun w hS => Y.fieldAddr fo_57_0 hF rfl) rfl fun a hF => stepV (i := 5) rfl hF (fun w hS => Y.load1L 6 sz_3 hF rfl hS rfl rfl) rfl fun a hF => oneV (i := 6) rfl ?_ trivial
     refine O.callP (us := [.int .i64 who, .int .i64 z]) ca_42 hF hS (w7look_ok hS.stab who z rv_5 hx_7) rfl rfl fun a w hF hS => nil (then_n ⟨hS.weak ⟨rfl, rfl, rfl, rfl, rfl, rfl, rfl, rfl, rfl, trivial⟩, ?_⟩)
     exact toTailV ⟨hF.weak ⟨rfl, rfl, rfl, rfl, rfl, rfl, rfl, rfl, rfl, rfl, rfl, rfl, rfl, rfl, rfl, rfl, trivial⟩, hS.weak ⟨rfl, rfl, rfl, rfl, rfl, rfl, rfl, rfl, rfl, trivial⟩⟩
    rintro a w ⟨hF, hS⟩
    obtain ⟨hg_3, h⟩ := ite_some h
    obtain ⟨b_8, hp⟩ := hS.ownPtr (i := 5) rfl hg_3
    refine step hF (Y.indexOwn hp u_23 sz_66 hg_3 hF rfl rfl) rfl fun a hF => O.storeOwnP (C := C_SlaveEvent) (v0 := rv_5) (xs := l_1) (us := [.int .i64 rv_5.Kind, .int .i64 rv_5.First, .int .i64 rv_5.Count, .int .i64 rv_5.Lost, .int .i64 rv_5.Who, .int .i64 rv_5.Shown]) 5 hp sz_66 hg_3 hF rfl rfl rfl rfl hS rfl hr_3 fun cs_4 a w hF hS hr_10 => ?_
    try rw [show l_1.length = (l_1.set (Int.toNat i) rv_5).length from List.length_set.symm] at hF
    try rw [show l_1.length = (l_1.set (Int.toNat i) rv_5).length from List.length_set.symm] at hS
    refine nil (then_n (⟨(l_1.set (Int.toNat i) rv_5), p_6, c_6, cs_4, hF.weak ⟨rfl, rfl, rfl, rfl, rfl, rfl, rfl, rfl, rfl, rfl, rfl, rfl, rfl, trivial⟩, hS.weak ⟨rfl, rfl, rfl, rfl, rfl, rfl, rfl, rfl, rfl, trivial⟩, hr_10, h⟩))
   replace h := cond_f h hbv_7
   refine skip_ (then_n (⟨l_1, p_6, c_6, cs_1, hF.weak ⟨rfl, rfl, rfl, rfl, rfl, rfl, rfl, rfl, rfl, rfl, rfl, rfl, rfl, trivial⟩, hS.weak ⟨rfl, rfl, rfl, rfl, rfl, rfl, rfl, rfl, rfl, trivial⟩, hr_3, h⟩))
  rintro a w ⟨l_2, p_7, c_7, cs_2, hF, hS, hr_4, h⟩
  unfold w7was_k2 at h
  refine seq (seq (region (step hF (Y.assign hF rfl) rfl fun a hF => nil (then_n (block (loop_cut (body := w7was_b3 l bits story i e_1 l_2) (out := xo) (fun s a w => ∃ (next_1 : Int) (lost : (List Int)) (p_9 : Int) (z_2 : Int) (z_3 : Int), ∃ (Dv_1 : Stab), ∃ p_8 c_8 cs_3, s = (next_1, lost, p_9, z_2, z_3) ∧ Dv.le Dv_1 ∧ Frm 109 [] [(1, .int .i64 who), (2, .slice p_2 bits.length c_2), (3, .pointer (some ⟨b, 0, none⟩)), (6, .slice none 0 0), (7, .pointer (some ⟨b_1, 0, none⟩)), (8, .pointer (some ⟨b_2, 0, none⟩)), (9, .pointer (some ⟨b_3, 0, none⟩)), (10, .pointer (some ⟨b_5, 0, none⟩)), (11, .slice p_5 story.length c_5), (12, .int .i64 next_1), (13, .int .i64 i), (14, .pointer (some ⟨b_7, 0, none⟩)), (15, .slice p_8 lost.length c_8), (16, .int .i64 p_9)] a ∧ St w0 D0 Dv_1 [(1, .cells b [.int .i64 l.Ring, .slice p l.Starts.length c, .slice p_1 l.Events.length c_1] 25), (2, .cells b_1 [.int .i64 0, .int .i64 0] 57), (3, .cells b_2 [.int .i64 0, .slice none 0 0, .slice none 0 0] 25), (4, .cells b_3 [.int .i64 l.Ring, .slice p l.Starts.length c, .slice p_7 l_2.length c_7] 25), (5, .own p_7 l_2.length c_7 cs_2 66 6), (6, .cells b_5 [.int .i64 z_2, .int .i64 z_3] 57), (7, .own p_5 story.length c_5 cs 26 1), (8, .cells b_7 [.int .i64 e_1.Kind, .int .i64 e_1.First, .int .i64 e_1.Count, .int .i64 e_1.Lost, .int .i64 e_1.Who, .int .i64 e_1.Shown] 66), (9, .own p_8 lost.length c_8 cs_3 3 1)] w ∧ Reps C_int Dv_1 lost cs_3) (next, ([] : List Int), 0, z, z_1) h ⟨next, ([] : List Int), 0, z, z_1, Dv, none, 0, ([]), rfl, Stab.le.refl _, hF.weak ⟨rfl, rfl, rfl, rfl, rfl, rfl, rfl, rfl, rfl, rfl, rfl, rfl, rfl, rfl, trivial⟩, hS.weak ⟨rfl, rfl, rfl, rfl, rfl, rfl, rfl, rfl, rfl, trivial⟩, Reps.nil⟩ ?_))))))
  rintro s a w xo_1 ⟨next_1, lost, p_9, z_2, z_3, Dv_1, p_8, c_8, cs_3, rfl, hlev_1, hF, hS, hr_5⟩ h hxo_1
  unfold w7was_b3 at h
  dsimp only at h
  replace hs_2 := hs_2.mono hlev_1
  replace hr_2 := hr_2.mono hlev_1
  replace hr_4 := hr_4.mono hlev_1
  refine seq (seq (region (step hF (Y.move hF rfl) rfl fun a hF => step hF (Y.fieldAddr fo_66_2 hF rfl) rfl fun a hF => step hF (Y.load1L 8 sz_3 hF rfl hS rfl rfl) rfl fun a hF => step hF (Y.lss hF rfl rfl) rfl fun a hF => step hF (Y.move hF rfl) rfl fun a hF => join (N := 109) (rs := []) (w0 := w0) (D0 := D0) 4 (us := [(1, .int .i64 who), (2, .slice p_2 bits.length c_2), (3, .pointer (some ⟨b, 0, none⟩)), (6, .slice none 0 0), (7, .pointer (some ⟨b_1, 0, none⟩)), (8, .pointer (some ⟨b_2, 0, none⟩)), (9, .pointer (some ⟨b_3, 0, none⟩)), (10, .pointer (some ⟨b_5, 0, none⟩)), (11, .slice p_5 story.length c_5), (12, .int .i64 next_1), (13, .int .i64 i), (14, .pointer (some ⟨b_7, 0, none⟩)), (15, .slice p_8 lost.length c_8), (16, .int .i64 p_9), (65, .bool ((decide (p_9 < e_1.Count)) && (e_1.Kind != 2)))]) (ms := [(1, .cells b [.int .i64 l.Ring, .slice p l.Starts.length c, .slice p_1 l.Events.length c_1] 25), (2, .cells b_1 [.int .i64 0, .int .i64 0] 57), (3, .cells b_2 [.int .i64 0, .slice none 0 0, .slice none 0 0] 25), (4, .cells b_3 [.int .i64 l.Ring, .slice p l.Starts.length c, .slice p_7 l_2.length c_7] 25), (5, .own p_7 l_2.length c_7 cs_2 66 6), (6, .cells b_5 [.int .i64 z_2, .int .i64 z_3] 57), (7, .own p_5 story.length c_5 cs 26 1), (8, .cells b_7 [.int .i64 e_1.Kind, .int .i64 e_1.First, .int .i64 e_1.Count, .int .i64 e_1.Lost, .int .i64 e_1.Who, .int .i64 e_1.Shown] 66), (9, .own p_8 lost.length c_8 cs_3 3 1)]) (D' := Dv_1) ?_ ?_)))
  ·rcases bcases (decide (p_9 < e_1.Count)) with hbv_1 | hbv_1
   ·skip
    refine guard_on hF rfl rfl hbv_1 (step hF (Y.fieldAddr fo_66_0 hF rfl) rfl fun a hF => guard_on hF rfl rfl hbv_1 (step hF (Y.load1L 8 sz_3 hF rfl hS rfl rfl) rfl fun a hF => guard_on hF rfl rfl hbv_1 (step hF (Y.neq hF rfl rfl) rfl fun a hF => step hF (Y.pick_t hF rfl hbv_1 rfl) rfl fun a hF => nil (then_n ⟨hF.weak ⟨rfl, rfl, rfl, rfl, rfl, rfl, rfl, rfl, rfl, rfl, rfl, rfl, rfl, rfl, (by rw [hbv_1]; rfl), trivial⟩, hS.weak ⟨rfl, rfl, rfl, rfl, rfl, rfl, rfl, rfl, rfl, trivial⟩⟩))))
   refine guard_off hF rfl rfl hbv_1 rfl fun a hF => guard_off hF rfl rfl hbv_1 rfl fun a hF => guard_off hF rfl rfl hbv_1 rfl fun a hF => step hF (Y.pick_f hF rfl hbv_1 rfl) rfl fun a hF => nil (then_n ⟨hF.weak ⟨rfl, rfl, rfl, rfl, rfl, rfl, rfl, rfl, rfl, rfl, rfl, rfl, rfl, rfl, (by rw [hbv_1]; rfl), trivial⟩, hS.weak ⟨rfl, rfl, rfl, rfl, rfl, rfl, rfl, rfl, rfl, trivial⟩⟩)
  intro a w hF hS
  refine nil (then_n (cond_b hF rfl (fun hbv_2 => ?_) (fun hbv_2 => ?_)))
  ·replace h := cond_t h hbv_2
   refine skip_ (then_n (seq (block (seq (region (step hF (Y.move hF rfl) rfl fun a hF => step hF (Y.add hF rfl rfl) rfl fun a hF => step hF (Y.assign hF rfl) rfl fun a hF => nil (then_n (seq (region (step hF (Y.move hF rfl) rfl fun a hF => step hF (Y.lenSl u_26 hF rfl) rfl fun a hF => step hF (Y.fieldAddr fo_66_3 hF rfl) rfl fun a hF => step hF (Y.load1L 8 sz_3 hF rfl hS rfl rfl) rfl fun a hF => step hF (Y.lss hF rfl rfl) rfl fun a hF => step hF (Y.move hF rfl) rfl fun a hF => ?_))))))))))
   obtain ⟨t, ht, h⟩ := bind_some h
   refine join (N := 109) (rs := []) (w0 := w0) (D0 := D0) 6 (us := [(1, .int .i64 who), (2, .slice p_2 bits.length c_2), (3, .pointer (some ⟨b, 0, none⟩)), (6, .slice none 0 0), (7, .pointer (some ⟨b_1, 0, none⟩)), (8, .pointer (some ⟨b_2, 0, none⟩)), (9, .pointer (some ⟨b_3, 0, none⟩)), (10, .pointer (some ⟨b_5, 0, none⟩)), (11, .slice p_5 story.length c_5), (12, .int .i64 (wr (next_1 + 1))), (13, .int .i64 i), (14, .pointer (some ⟨b_7, 0, none⟩)), (15, .slice p_8 lost.length c_8), (16, .int .i64 p_9), (81, .bool t)]) (ms := [(1, .cells b [.int .i64 l.Ring, .slice p l.Starts.length c, .slice p_1 l.Events.length c_1] 25), (2, .cells b_1 [.int .i64 0, .int .i64 0] 57), (3, .cells b_2 [.int .i64 0, .slice none 0 0, .slice none 0 0] 25), (4, .cells b_3 [.int .i64 l.Ring, .slice p l.Starts.length c, .slice p_7 l_2.length c_7] 25), (5, .own p_7 l_2.length c_7 cs_2 66 6), (6, .cells b_5 [.int .i64 z_2, .int .i64 z_3] 57), (7, .own p_5 story.length c_5 cs 26 1), (8, .cells b_7 [.int .i64 e_1.Kind, .int .i64 e_1.First, .int .i64 e_1.Count, .int .i64 e_1.Lost, .int .i64 e_1.Who, .int .i64 e_1.Shown] 66), (9, .own p_8 lost.length c_8 cs_3 3 1)]) (D' := Dv_1) ?_ ?_
   ·rcases bcases (decide ((lost.length : Int) < e_1.Lost)) with hbv_3 | hbv_3
    ·skip
     replace h := cond_t ht hbv_3
     refine guard_on hF rfl rfl hbv_3 (step hF (Y.move hF rfl) rfl fun a hF => guard_on hF rfl rfl hbv_3 (step hF (Y.move hF rfl) rfl fun a hF => guard_on hF rfl rfl hbv_3 ?_))
     obtain ⟨rv, hx_2, h⟩ := bind_some h
     refine O.callP (us := [.slice p_2 bits.length c_2, .int .i64 (wr (next_1 + 1))]) ca_54 hF hS (r0At_ok hS.stab bits (wr (next_1 + 1)) hs_2 rv hx_2) rfl rfl fun a w hF hS => guard_on hF rfl rfl hbv_3 ?_
     obtain ⟨rv_1, hx_3, h⟩ := bind_some h
     refine O.callP (us := [.int .i64 rv, .int .i64 4]) ca_37 hF hS (r0Rest_ok hS.stab rv 4 rv_1 hx_3) rfl rfl fun a w hF hS => guard_on hF rfl rfl hbv_3 (step hF (Y.eql hF rfl rfl) rfl fun a hF => step hF (Y.pick_t hF rfl hbv_3 rfl) rfl fun a hF => ?_)
     obtain rfl := some_inj h
     exact nil (then_n ⟨hF.weak ⟨rfl, rfl, rfl, rfl, rfl, rfl, rfl, rfl, rfl, rfl, rfl, rfl, rfl, rfl, rfl, trivial⟩, hS.weak ⟨rfl, rfl, rfl, rfl, rfl, rfl, rfl, rfl, rfl, trivial⟩⟩)
    replace h := cond_f ht hbv_3
    refine guard_off hF rfl rfl hbv_3 rfl fun a hF => guard_off hF rfl rfl hbv_3 rfl fun a hF => guard_off hF rfl rfl hbv_3 rfl fun a hF => guard_off hF rfl rfl hbv_3 rfl fun a hF => guard_off hF rfl rfl hbv_3 rfl fun a hF => step hF (Y.pick_f hF rfl hbv_3 rfl) rfl fun a hF => ?_
    obtain rfl := some_inj h
    exact nil (then_n ⟨hF.weak ⟨rfl, rfl, rfl, rfl, rfl, rfl, rfl, rfl, rfl, rfl, rfl, rfl, rfl, rfl, rfl, trivial⟩, hS.weak ⟨rfl, rfl, rfl, rfl, rfl, rfl, rfl, rfl, rfl, trivial⟩⟩)
   intro a w hF hS
   refine nil (then_n (cond_b hF rfl (fun hbv_4 => ?_) (fun hbv_4 => ?_)))
   ·replace h := cond_t h hbv_4
    refine region (step hF (Y.move hF rfl) rfl fun a hF => step hF (Y.move hF rfl) rfl fun a hF => ?_)
    have hr_6 : Reps C_int Dv_1 [p_9] [.int .i64 p_9] := Reps.cons (C := C_int) (x := p_9) (c := [.int .i64 p_9]) (r := []) rfl (Reps.nil)
    refine O.buildSlice (E := 3) (C := C_int) (xs := [p_9]) (cs := [.int .i64 p_9]) (us := [.int .i64 p_9]) (parts := [(0, (.tmp 83))]) 10 hF hS rfl (by kernel_rfl) hr_6 rfl rfl rfl fun p_10 c_9 a w hF hS => ?_
    obtain ⟨hg_1, h⟩ := ite_some h
    refine O.append (C := C_int) (xs := lost) (ys := [p_9]) 9 gr_26 hF rfl rfl hS rfl (src_own (i := 10) hS rfl) hr_5 hr_6 hg_1 rfl fun p_11 c_10 a w hF hS hr_7 => step hF (Y.assign hF rfl) rfl fun a hF => nil (blk_n (then_n (region (step hF (Y.move hF rfl) rfl fun a hF => step hF (Y.add hF rfl rfl) rfl fun a hF => step hF (Y.assign hF rfl) rfl fun a hF => nil (then_n (⟨_, nxt_some h, (wr (next_1 + 1)), (lost ++ [p_9]), (wr (p_9 + 1)), z_2, z_3, Dv_1, p_11, c_10, (cs_3 ++ [.int .i64 p_9]), rfl, hlev_1, hF.weak ⟨rfl, rfl, rfl, rfl, rfl, rfl, rfl, rfl, rfl, rfl, rfl, rfl, rfl, rfl, trivial⟩, hS.weak ⟨rfl, rfl, rfl, rfl, rfl, rfl, rfl, rfl, rfl, trivial⟩, hr_7⟩))))))
   replace h := cond_f h hbv_4
   refine seq (region (step hF (Y.fieldAddr fo_66_0 hF rfl) rfl fun a hF => step hF (Y.load1L 8 sz_3 hF rfl hS rfl rfl) rfl fun a hF => step hF (Y.eql hF rfl rfl) rfl fun a hF => nil (then_n (cond_b hF rfl (fun hbv_5 => ?_) (fun hbv_5 => ?_)))))
   ·replace h := cond_t h hbv_5
    refine region (step hF (Y.fieldAddr fo_25_0 hF rfl) rfl fun a hF => step hF (Y.load1L 1 sz_3 hF rfl hS rfl rfl) rfl fun a hF => step hF (Y.loadNL 6 sz_57 hF rfl hS rfl rfl rfl) rfl fun a hF => ?_)
    obtain ⟨rv_2, hx_4, h⟩ := bind_some h
    refine O.callP (us := [.int .i64 l.Ring, .agg #[.int .i64 z_2, .int .i64 z_3], .int .i64 1]) ca_53 hF hS (w7homed_ok hS.stab l.Ring (SlaveStart.mk z_2 z_3) 1 rv_2 hx_4) rfl rfl fun a w hF hS => O.store (us := [.int .i64 rv_2.Shown, .int .i64 rv_2.Last]) 6 sz_57 hF rfl rfl rfl rfl hS rfl rfl fun a w hF hS => nil (blk_n (then_n (region (step hF (Y.move hF rfl) rfl fun a hF => step hF (Y.add hF rfl rfl) rfl fun a hF => step hF (Y.assign hF rfl) rfl fun a hF => nil (then_n (⟨_, nxt_some h, (wr (next_1 + 1)), lost, (wr (p_9 + 1)), rv_2.Shown, rv_2.Last, Dv_1, p_8, c_8, cs_3, rfl, hlev_1, hF.weak ⟨rfl, rfl, rfl, rfl, rfl, rfl, rfl, rfl, rfl, rfl, rfl, rfl, rfl, rfl, trivial⟩, hS.weak ⟨rfl, rfl, rfl, rfl, rfl, rfl, rfl, rfl, rfl, trivial⟩, hr_5⟩))))))
   replace h := cond_f h hbv_5
   obtain ⟨rv_3, hx_5, h⟩ := bind_some h
   refine drawsV 8 (.flt 0 (.flt 1 (.flt 2 (.flt 3 (.flt 4 (.flt 5 (.flt 6 (.alt 7 .done .stop)))))))) mixed_ (by kernel_rfl) (fun w => St w0 D0 Dv_1 [(1, .cells b [.int .i64 l.Ring, .slice p l.Starts.length c, .slice p_1 l.Events.length c_1] 25), (2, .cells b_1 [.int .i64 0, .int .i64 0] 57), (3, .cells b_2 [.int .i64 0, .slice none 0 0, .slice none 0 0] 25), (4, .cells b_3 [.int .i64 l.Ring, .slice p l.Starts.length c, .slice p_7 l_2.length c_7] 25), (5, .own p_7 l_2.length c_7 cs_2 66 6), (6, .cells b_5 [.int .i64 z_2, .int .i64 z_3] 57), (7, .own p_5 story.length c_5 cs 26 1), (8, .cells b_7 [.int .i64 e_1.Kind, .int .i64 e_1.First, .int .i64 e_1.Count, .int .i64 e_1.Lost, .int .i64 e_1.Who, .int .i64 e_1.Shown] 66), (9, .own p_8 lost.length c_8 cs_3 3 1)] w) (fun a w => Frm 109 [] [(1, .int .i64 who), (2, .slice p_2 bits.length c_2), (3, .pointer (some ⟨b, 0, none⟩)), (6, .slice none 0 0), (7, .pointer (some ⟨b_1, 0, none⟩)), (8, .pointer (some ⟨b_2, 0, none⟩)), (9, .pointer (some ⟨b_3, 0, none⟩)), (10, .pointer (some ⟨b_5, 0, none⟩)), (11, .slice p_5 story.length c_5), (12, .int .i64 (wr (next_1 + 1))), (13, .int .i64 i), (14, .pointer (some ⟨b_7, 0, none⟩)), (15, .slice p_8 lost.length c_8), (16, .int .i64 p_9), (94, .int .i64 l.Ring), (95, .agg #[.int .i64 z_2, .int .i64 z_3]), (100, .int .i64 rv_3)] a ∧ St w0 D0 Dv_1 [(1, .cells b [.int .i64 l.Ring, .slice p l.Starts.length c, .slice p_1 l.Events.length c_1] 25), (2, .cells b_1 [.int .i64 0, .int .i64 0] 57), (3, .cells b_2 [.int .i64 0, .slice none 0 0, .slice none 0 0] 25), (4, .cells b_3 [.int .i64 l.Ring, .slice p l.Starts.length c, .slice p_7 l_2.length c_7] 25), (5, .own p_7 l_2.length c_7 cs_2 66 6), (6, .cells b_5 [.int .i64 z_2, .int .i64 z_3] 57), (7, .own p_5 story.length c_5 cs 26 1), (8, .cells b_7 [.int .i64 e_1.Kind, .int .i64 e_1.First, .int .i64 e_1.Count, .int .i64 e_1.Lost, .int .i64 e_1.Who, .int .i64 e_1.Shown] 66), (9, .own p_8 lost.length c_8 cs_3 3 1)] w) (hS.weak (ms := [(1, .cells b [.int .i64 l.Ring, .slice p l.Starts.length c, .slice p_1 l.Events.length c_1] 25), (2, .cells b_1 [.int .i64 0, .int .i64 0] 57), (3, .cells b_2 [.int .i64 0, .slice none 0 0, .slice none 0 0] 25), (4, .cells b_3 [.int .i64 l.Ring, .slice p l.Starts.length c, .slice p_7 l_2.length c_7] 25), (5, .own p_7 l_2.length c_7 cs_2 66 6), (6, .cells b_5 [.int .i64 z_2, .int .i64 z_3] 57), (7, .own p_5 story.length c_5 cs 26 1), (8, .cells b_7 [.int .i64 e_1.Kind, .int .i64 e_1.First, .int .i64 e_1.Count, .int .i64 e_1.Lost, .int .i64 e_1.Who, .int .i64 e_1.Shown] 66), (9, .own p_8 lost.length c_8 cs_3 3 1)]) ⟨rfl, rfl, rfl, rfl, rfl, rfl, rfl, rfl, rfl, trivial⟩).drew (fun _ _ _ _ h => h) ?_ ?_
   ·replace hS := hS.drew
    have hle0 := hS.le
    refine stepV (i := 0) rfl hF (fun w hS => Y.fieldAddr fo_25_0 hF rfl) rfl fun a hF => stepV (i := 1) rfl hF (fun w hS => Y.load1L 1 sz_3 hF rfl hS rfl rfl) rfl fun a hF => stepV (i := 2) rfl hF (fun w hS => Y.loadNL 6 sz_57 hF rfl hS rfl rfl rfl) rfl fun a hF => stepV (i := 3) rfl hF (fun w hS => Y.fieldAddr fo_66_1 hF rfl) rfl fun a hF => stepV (i := 4) rfl hF (fun w hS => Y.load1L 8 sz_3 hF rfl hS rfl rfl) rfl fun a hF => stepV (i := 5) rfl hF (fun w hS => Y.move hF rfl) rfl fun a hF => stepV (i := 6) rfl hF (fun w hS => Y.add hF rfl rfl) rfl fun a hF => oneV (i := 7) rfl ?_ trivial
    refine O.callP (us := [.int .i64 (wr (e_1.First + p_9)), .int .i64 2]) ca_37 hF hS (r0Rest_ok hS.stab (wr (e_1.First + p_9)) 2 rv_3 hx_5) rfl rfl fun a w hF hS => nil (then_n ⟨hS.weak ⟨rfl, rfl, rfl, rfl, rfl, rfl, rfl, rfl, rfl, trivial⟩, ?_⟩)
    exact toTailV ⟨hF.weak ⟨rfl, rfl, rfl, rfl, rfl, rfl, rfl, rfl, rfl, rfl, rfl, rfl, rfl, rfl, rfl, rfl, rfl, trivial⟩, hS.weak ⟨rfl, rfl, rfl, rfl, rfl, rfl, rfl, rfl, rfl, trivial⟩⟩
   rintro a w ⟨hF, hS⟩
   obtain ⟨rv_4, hx_6, h⟩ := bind_some h
   refine O.callP (us := [.int .i64 l.Ring, .agg #[.int .i64 z_2, .int .i64 z_3], .int .i64 rv_3]) ca_52 hF hS (w7moved_ok hS.stab l.Ring (SlaveStart.mk z_2 z_3) rv_3 rv_4 hx_6) rfl rfl fun a w hF hS => O.store (us := [.int .i64 rv_4.Shown, .int .i64 rv_4.Last]) 6 sz_57 hF rfl rfl rfl rfl hS rfl rfl fun a w hF hS => nil (blk_n (then_n (region (step hF (Y.move hF rfl) rfl fun a hF => step hF (Y.add hF rfl rfl) rfl fun a hF => step hF (Y.assign hF rfl) rfl fun a hF => nil (then_n (⟨_, nxt_some h, (wr (next_1 + 1)), lost, (wr (p_9 + 1)), rv_4.Shown, rv_4.Last, Dv_1, p_8, c_8, cs_3, rfl, hlev_1, hF.weak ⟨rfl, rfl, rfl, rfl, rfl, rfl, rfl, rfl, rfl, rfl, rfl, rfl, rfl, rfl, trivial⟩, hS.weak ⟨rfl, rfl, rfl, rfl, rfl, rfl, rfl, rfl, rfl, trivial⟩, hr_5⟩))))))
  replace h := cond_f h hbv_2
  refine exit_ (then_x (then_x (blk_hit (then_n ?_))))
  replace h := ext_some h hxo_1
  refine region (step hF (Y.move hF rfl) rfl fun a hF => step hF (Y.move hF rfl) rfl fun a hF => ?_)
  obtain ⟨Dv_2, hlev_2, hs_3, hS⟩ := hS.freezeC (i := 9) (xs := lost) rfl hr_5
  replace hr_2 := hr_2.mono hlev_2
  replace hr_4 := hr_4.mono hlev_2
  have hr_8 : Reps (C_sl C_int) Dv_2 [lost] [.slice p_8 lost.length c_8] := Reps.cons (C := (C_sl C_int)) (x := lost) (c := [.slice p_8 lost.length c_8]) (r := []) (⟨_, _, rfl, hs_3⟩) (Reps.nil)
  refine O.buildSlice (E := 26) (C := (C_sl C_int)) (xs := [lost]) (cs := [.slice p_8 lost.length c_8]) (us := [.slice p_8 lost.length c_8]) (parts := [(0, (.tmp 103))]) 11 hF hS rfl (by kernel_rfl) hr_8 rfl rfl rfl fun p_12 c_11 a w hF hS => ?_
  obtain ⟨hg_2, h⟩ := ite_some h
  refine O.append (C := (C_sl C_int)) (xs := story) (ys := [lost]) 7 gr_38 hF rfl rfl hS rfl (src_own (i := 11) hS rfl) hr_2 hr_8 hg_2 rfl fun p_13 c_12 a w hF hS hr_9 => step hF (Y.assign hF rfl) rfl fun a hF => nil (blk_n (then_n (region (step hF (Y.move hF rfl) rfl fun a hF => step hF (Y.add hF rfl rfl) rfl fun a hF => step hF (Y.assign hF rfl) rfl fun a hF => nil (then_n (⟨_, nxt_some h, (story ++ [lost]), next_1, (wr (i + 1)), l_2, z_2, z_3, Dv_2, p_13, c_12, (cs ++ [.slice p_8 lost.length c_8]), p_7, c_7, cs_2, rfl, hlev.trans (hlev_1.trans hlev_2), hF.weak ⟨rfl, rfl, rfl, rfl, rfl, rfl, rfl, rfl, rfl, rfl, rfl, trivial⟩, hS.weak ⟨rfl, rfl, rfl, rfl, rfl, rfl, rfl, trivial⟩, hr_9, hr_4⟩))))))
 replace h := cond_f h hbv
 refine exit_ (then_x (then_x (blk_hit (then_n ?_))))
 replace h := ext_some h hxo
 refine seq (drawsV 5 (.flt 0 (.flt 1 (.flt 2 (.flt 3 (.alt 4 .done .stop))))) mixed_ (by kernel_rfl) (fun w => St w0 D0 Dv [(1, .cells b [.int .i64 l.Ring, .slice p l.Starts.length c, .slice p_1 l.Events.length c_1] 25), (3, .cells b_2 [.int .i64 0, .slice none 0 0, .slice none 0 0] 25), (4, .cells b_3 [.int .i64 l.Ring, .slice p l.Starts.length c, .slice p_6 l_1.length c_6] 25), (5, .own p_6 l_1.length c_6 cs_1 66 6), (6, .cells b_5 [.int .i64 z, .int .i64 z_1] 57), (7, .own p_5 story.length c_5 cs 26 1)] w) (fun a w => Frm 109 [] [(6, .slice p_5 story.length c_5), (7, .pointer (some ⟨b_1, 0, none⟩)), (8, .pointer (some ⟨b_2, 0, none⟩)), (108, .agg #[.int .i64 l.Ring, .slice p l.Starts.length c, .slice p_6 l_1.length c_6])] a ∧ St w0 D0 Dv [(1, .cells b [.int .i64 l.Ring, .slice p l.Starts.length c, .slice p_1 l.Events.length c_1] 25), (2, .cells b_1 [.int .i64 z, .int .i64 z_1] 57), (3, .cells b_2 [.int .i64 0, .slice none 0 0, .slice none 0 0] 25), (4, .cells b_3 [.int .i64 l.Ring, .slice p l.Starts.length c, .slice p_6 l_1.length c_6] 25), (5, .own p_6 l_1.length c_6 cs_1 66 6), (6, .cells b_5 [.int .i64 z, .int .i64 z_1] 57), (7, .own p_5 story.length c_5 cs 26 1)] w) (hS.weak (ms := [(1, .cells b [.int .i64 l.Ring, .slice p l.Starts.length c, .slice p_1 l.Events.length c_1] 25), (3, .cells b_2 [.int .i64 0, .slice none 0 0, .slice none 0 0] 25), (4, .cells b_3 [.int .i64 l.Ring, .slice p l.Starts.length c, .slice p_6 l_1.length c_6] 25), (5, .own p_6 l_1.length c_6 cs_1 66 6), (6, .cells b_5 [.int .i64 z, .int .i64 z_1] 57), (7, .own p_5 story.length c_5 cs 26 1)]) ⟨rfl, rfl, rfl, rfl, rfl, rfl, trivial⟩).drew (fun _ _ _ _ h => h) ?_ ?_)
 ·replace hS := hS.drew
  have hle0 := hS.le
  refine stepV (i := 0) rfl hF (fun w hS => Y.move hF rfl) rfl fun a hF => stepV (i := 1) rfl hF (fun w hS => Y.loadNL 6 sz_57 hF rfl hS rfl rfl rfl) rfl fun a hF => stepV (i := 2) rfl hF (fun w hS => Y.loadNL 4 sz_25 hF rfl hS rfl rfl rfl) rfl fun a hF => stepV (i := 3) rfl hF (fun w hS => Y.assign hF rfl) rfl fun a hF => oneV (i := 4) rfl ?_ trivial
  refine O.store (us := [.int .i64 z, .int .i64 z_1]) 2 sz_57 hF rfl rfl rfl rfl hS rfl rfl fun a w hF hS => nil (then_n ⟨hS.weak ⟨rfl, rfl, rfl, rfl, rfl, rfl, trivial⟩, ?_⟩)
  exact toTailV ⟨hF.weak ⟨rfl, rfl, rfl, rfl, trivial⟩, hS.weak ⟨rfl, rfl, rfl, rfl, rfl, rfl, rfl, trivial⟩⟩
 rintro a w ⟨hF, hS⟩
 refine O.store (us := [.int .i64 l.Ring, .slice p l.Starts.length c, .slice p_6 l_1.length c_6]) 3 sz_25 hF rfl rfl rfl rfl hS rfl rfl fun a w hF hS => nil (then_n (ret_ ?_))
 obtain ⟨Dv_3, hlev_3, hs_4, hS⟩ := hS.freezeC (i := 7) (xs := story) rfl hr_2
 replace hs := hs.mono hlev_3
 replace hr_3 := hr_3.mono hlev_3
 obtain ⟨Dv_4, hlev_4, hs_5, hS⟩ := hS.freezeC (i := 5) (xs := l_1) rfl hr_3
 replace hs := hs.mono hlev_4
 replace hs_4 := hs_4.mono hlev_4
 obtain rfl := some_inj h
 exact leaveS Tryd.results38 hF hS (.cons (.tmp rfl) (.cons (.cellN 2 sz_57 rfl rfl rfl) (.cons (.cellN 3 sz_25 rfl rfl rfl) .nil))) .nil ⟨_, _, _, _, _, _, rfl, hs_4, hs, hs_5⟩
end Go.Proofs.YtmbgmefmkjeahaaDoor.Rt
