/- Walks of the functions of this seat: what each Go function comes to, as a Lean function, and the proof. A law. Under no conditions. -/
import Derived.Test.YtmbgmefmkjeahaaDoorC9WSZ
set_option linter.unusedVariables false
set_option linter.unusedSimpArgs false
set_option maxRecDepth 100000
set_option maxHeartbeats 4000000
namespace Go.Proofs.YtmbgmefmkjeahaaDoor.Rt
open Go Go.RowKit
noncomputable def w7SlaveNone_b1 (counts : (List Int)) (rv : Int) (rv_1 : Int) (rv_2 : Int) (e : SlaveStart) : (Int × Int × Int × (List SlaveEvent)) → ND ((Int × Int × Int × (List SlaveEvent)) ⊕ Bool)
 | (shown, sign, i, l) =>
  cond ((decide (i < (counts.length : Int))) && (decide (i < 10)))
  ((ND.det (idx counts i) fun e_2 =>
  (ND.det (r0Rest e_2 61) fun rv_3 =>
  (ND.det (w7send sign rv_3 0) fun rv_4 =>
  (ND.grd (l.length + ([rv_4]).length ≤ lim) (
  (ND.det (r0Rest (wr (sign + rv_3)) 2) fun rv_5 =>
  (ND.grd ((wr (2 + rv)) ≠ 0) (
  nnxt (Int.tmod (wr (shown + rv_3)) (wr (2 + rv)), rv_5, wr (i + 1), (l ++ [rv_4])))))))))))
  (next_ ((ND.bnd (slave_Can (SlaveLine.mk (wr (2 + rv)) (([(SlaveStart.mk 0 rv_1)]).set (Int.toNat 0) (SlaveStart.mk rv_2 e.Last)) l) 0) fun rv_6 =>
  (ND.bnd (slave_Lost (SlaveLine.mk (wr (2 + rv)) (([(SlaveStart.mk 0 rv_1)]).set (Int.toNat 0) (SlaveStart.mk rv_2 e.Last)) l) 0) fun rv_7 =>
  (ND.det (cond ((rv_6.2 == 0) && (rv_7.2 == 0)) ((r0Alike rv_6.1 ([shown])).bind fun rv_12 =>
  some rv_12) (some false)) fun t_3 =>
  (ND.det (cond t_3 ((r0To 0 0).bind fun rv_13 =>
  some ([rv_7.1.Low, rv_7.1.High] == [rv_13.Low, rv_13.High])) (some false)) fun t_4 =>
  (ND.bnd (cond t_4 ((ND.bnd (w7works) fun rv_15 =>
  ND.ret rv_15)) (ND.ret false)) fun t_5 =>
  ND.ret t_5)))))))
noncomputable def w7SlaveNone (ring : Int) (sv : SlaveStart) (counts : (List Int)) : ND Bool :=
  (ND.det (r0Rest ring 59) fun rv =>
  (ND.det (r0Rest sv.Last 2) fun rv_1 =>
  (ND.det (r0Rest sv.Shown (wr (2 + rv))) fun rv_2 =>
  (ND.det (idx ([(SlaveStart.mk 0 rv_1)]) 0) fun e =>
  (ND.det (idx (([(SlaveStart.mk 0 rv_1)]).set (Int.toNat 0) (SlaveStart.mk rv_2 e.Last)) 0) fun e_1 =>
  loopN (w7SlaveNone_b1 counts rv rv_1 rv_2 e) (rv_2, wr (1 - e_1.Last), 0, ([] : List SlaveEvent)))))))
theorem w7SlaveNone_ok {w0 : World} {D0 : Stab} (hD : D0.on w0) (ring : Int) (sv : SlaveStart) (counts : (List Int)) {p : Option Addr} {c : Nat} (hs : SRc C_int D0 counts p c) (hG : Glob D0) (out : Bool → Prop) (h : w7SlaveNone ring sv counts out) : Calls Tryd.prog 9 [.int .i64 ring, .agg #[.int .i64 sv.Shown, .int .i64 sv.Last], .slice p counts.length c].toArray w0 (RetPN D0 w0 out fun (out : Bool) => .bool out) := by
 refine enter _ 104 Tryd.func9 rfl Tryd.ntmps9 rfl fun a hF => ?_
 replace hF : Frm 104 [] [(0, .int .i64 ring), (1, .agg #[.int .i64 sv.Shown, .int .i64 sv.Last]), (2, .slice p counts.length c)] a := hF
 have hS := St.start hD
 unfold w7SlaveNone at h
 refine seq (region (O.box (cs := [.int .i64 sv.Shown, .int .i64 sv.Last]) 1 hF rfl rfl hS rfl fun b a w hF hS => step hF (Y.assign hF rfl) rfl fun a hF => nil (then_n (seq ?_))))
 obtain ⟨rv, hx, h⟩ := ndet h
 obtain ⟨rv_1, hx_1, h⟩ := ndet h
 refine drawsV 10 (.flt 0 (.flt 3 (.flt 4 (.alt 1 (.flt 2 (.alt 5 (.flt 6 (.alt 7 (.flt 8 (.alt 9 .done .stop)) (.alt 9 (.alt 7 (.flt 8 .done) .stop) .stop))) (.alt 9 (.alt 5 (.flt 6 (.alt 7 (.flt 8 .done) .stop)) .stop) .stop))) (.alt 9 (.alt 1 (.flt 2 (.alt 5 (.flt 6 (.alt 7 (.flt 8 .done) .stop)) .stop)) .stop) .stop))))) mixed_ (by kernel_rfl) (fun w => St w0 D0 D0 [(1, .cells b [.int .i64 sv.Shown, .int .i64 sv.Last] 57)] w) (fun a w => ∃ (b_1 : Nat) (p_1 : Option Addr) (c_1 : Nat) (cs : List Value), Frm 104 [] [(2, .slice p counts.length c), (4, .pointer (some ⟨b, 0, none⟩)), (6, .bool false), (7, .pointer (some ⟨b_1, 0, none⟩)), (24, .agg #[.int .i64 (wr (2 + rv)), .slice p_1 ([(SlaveStart.mk 0 rv_1)]).length c_1, .slice none 0 0])] a ∧ St w0 D0 D0 [(1, .cells b [.int .i64 sv.Shown, .int .i64 sv.Last] 57), (2, .own p_1 ([(SlaveStart.mk 0 rv_1)]).length c_1 cs 57 2), (3, .cells b_1 [.int .i64 0, .slice none 0 0, .slice none ([] : List SlaveEvent).length 0] 25), (4, .own none ([] : List SlaveEvent).length 0 ([]) 66 6)] w ∧ Reps C_SlaveStart D0 ([(SlaveStart.mk 0 rv_1)]) cs) (hS.weak (ms := [(1, .cells b [.int .i64 sv.Shown, .int .i64 sv.Last] 57)]) ⟨rfl, trivial⟩).drew (fun _ _ _ _ h => h) ?_ ?_
 ·replace hS := hS.drew
  have hle0 := hS.le
  refine stepV (i := 0) rfl hF (fun w hS => Y.move hF rfl) rfl fun a hF => stepV (i := 3) rfl hF (fun w hS => Y.fieldAddr fo_57_1 hF rfl) rfl fun a hF => stepV (i := 4) rfl hF (fun w hS => Y.load1L 1 sz_3 hF rfl hS rfl rfl) rfl fun a hF => oneV (i := 1) rfl ?_ ?_
  ·skip
   refine O.callP (us := [.int .i64 ring, .int .i64 59]) ca_37 hF hS (r0Rest_ok hS.stab ring 59 rv hx) rfl rfl fun a w hF hS => nil (then_n ⟨hS.weak ⟨rfl, trivial⟩, ?_⟩)
   refine stepV (i := 2) rfl hF (fun w hS => Y.add hF rfl rfl) rfl fun a hF => oneV (i := 5) rfl ?_ ?_
   ·skip
    refine O.callP (us := [.int .i64 sv.Last, .int .i64 2]) ca_37 hF hS (r0Rest_ok hS.stab sv.Last 2 rv_1 hx_1) rfl rfl fun a w hF hS => nil (then_n ⟨hS.weak ⟨rfl, trivial⟩, ?_⟩)
    refine stepV (i := 6) rfl hF (fun w hS => Y.build (parts := [(1, (.tmp 21))]) (cs := #[.int .i64 0, .int .i64 rv_1]) hF rfl (by kernel_rfl)) rfl fun a hF => oneV (i := 7) rfl ?_ ?_
    ·skip
     have hr_1 : Reps C_SlaveStart D0 [(SlaveStart.mk 0 rv_1)] [.int .i64 0, .int .i64 rv_1] := Reps.cons (C := C_SlaveStart) (x := (SlaveStart.mk 0 rv_1)) (c := [.int .i64 0, .int .i64 rv_1]) (r := []) rfl (Reps.nil)
     refine O.buildSlice (E := 57) (C := C_SlaveStart) (xs := [(SlaveStart.mk 0 rv_1)]) (cs := [.int .i64 0, .int .i64 rv_1]) (us := [.agg #[.int .i64 0, .int .i64 rv_1]]) (parts := [(0, (.tmp 22))]) 2 hF hS rfl (by kernel_rfl) hr_1 rfl rfl rfl fun p_2 c_2 a w hF hS => nil (then_n ⟨hS.weak ⟨rfl, trivial⟩, ?_⟩)
     refine stepV (i := 8) rfl hF (fun w hS => Y.build (parts := [(0, (.tmp 18)), (1, (.tmp 23))]) (cs := #[.int .i64 (wr (2 + rv)), .slice p_2 ([(SlaveStart.mk 0 rv_1)]).length c_2, .slice none 0 0]) hF rfl (by kernel_rfl)) rfl fun a hF => oneV (i := 9) rfl ?_ trivial
     refine O.alloc 3 zc_25 hF hS rfl fun b_2 a w hF hS => ?_
     replace hS := hS.ownNil 4 66 6
     refine nil (then_n ⟨hS.weak ⟨rfl, trivial⟩, ?_⟩)
     exact toTailV ⟨b_2, p_2, c_2, ([.int .i64 0, .int .i64 rv_1]), hF.weak ⟨rfl, rfl, rfl, rfl, rfl, trivial⟩, hS.weak ⟨rfl, rfl, rfl, rfl, trivial⟩, hr_1⟩
    refine oneV (i := 9) rfl ?_ trivial
    refine O.alloc 3 zc_25 hF hS rfl fun b_3 a w hF hS => ?_
    replace hS := hS.ownNil 4 66 6
    refine nil (then_n ⟨hS.weak ⟨rfl, trivial⟩, ?_⟩)
    refine oneV (i := 7) rfl ?_ trivial
    have hr_2 : Reps C_SlaveStart D0 [(SlaveStart.mk 0 rv_1)] [.int .i64 0, .int .i64 rv_1] := Reps.cons (C := C_SlaveStart) (x := (SlaveStart.mk 0 rv_1)) (c := [.int .i64 0, .int .i64 rv_1]) (r := []) rfl (Reps.nil)
    refine O.buildSlice (E := 57) (C := C_SlaveStart) (xs := [(SlaveStart.mk 0 rv_1)]) (cs := [.int .i64 0, .int .i64 rv_1]) (us := [.agg #[.int .i64 0, .int .i64 rv_1]]) (parts := [(0, (.tmp 22))]) 2 hF hS rfl (by kernel_rfl) hr_2 rfl rfl rfl fun p_3 c_3 a w hF hS => nil (then_n ⟨hS.weak ⟨rfl, trivial⟩, ?_⟩)
    refine stepV (i := 8) rfl hF (fun w hS => Y.build (parts := [(0, (.tmp 18)), (1, (.tmp 23))]) (cs := #[.int .i64 (wr (2 + rv)), .slice p_3 ([(SlaveStart.mk 0 rv_1)]).length c_3, .slice none 0 0]) hF rfl (by kernel_rfl)) rfl fun a hF => toTailV ⟨b_3, p_3, c_3, ([.int .i64 0, .int .i64 rv_1]), hF.weak ⟨rfl, rfl, rfl, rfl, rfl, trivial⟩, hS.weak ⟨rfl, rfl, rfl, rfl, trivial⟩, hr_2⟩
   refine oneV (i := 9) rfl ?_ trivial
   refine O.alloc 3 zc_25 hF hS rfl fun b_4 a w hF hS => ?_
   replace hS := hS.ownNil 4 66 6
   refine nil (then_n ⟨hS.weak ⟨rfl, trivial⟩, ?_⟩)
   refine oneV (i := 5) rfl ?_ trivial
   refine O.callP (us := [.int .i64 sv.Last, .int .i64 2]) ca_37 hF hS (r0Rest_ok hS.stab sv.Last 2 rv_1 hx_1) rfl rfl fun a w hF hS => nil (then_n ⟨hS.weak ⟨rfl, trivial⟩, ?_⟩)
   refine stepV (i := 6) rfl hF (fun w hS => Y.build (parts := [(1, (.tmp 21))]) (cs := #[.int .i64 0, .int .i64 rv_1]) hF rfl (by kernel_rfl)) rfl fun a hF => oneV (i := 7) rfl ?_ trivial
   have hr_3 : Reps C_SlaveStart D0 [(SlaveStart.mk 0 rv_1)] [.int .i64 0, .int .i64 rv_1] := Reps.cons (C := C_SlaveStart) (x := (SlaveStart.mk 0 rv_1)) (c := [.int .i64 0, .int .i64 rv_1]) (r := []) rfl (Reps.nil)
   refine O.buildSlice (E := 57) (C := C_SlaveStart) (xs := [(SlaveStart.mk 0 rv_1)]) (cs := [.int .i64 0, .int .i64 rv_1]) (us := [.agg #[.int .i64 0, .int .i64 rv_1]]) (parts := [(0, (.tmp 22))]) 2 hF hS rfl (by kernel_rfl) hr_3 rfl rfl rfl fun p_4 c_4 a w hF hS => nil (then_n ⟨hS.weak ⟨rfl, trivial⟩, ?_⟩)
   refine stepV (i := 8) rfl hF (fun w hS => Y.build (parts := [(0, (.tmp 18)), (1, (.tmp 23))]) (cs := #[.int .i64 (wr (2 + rv)), .slice p_4 ([(SlaveStart.mk 0 rv_1)]).length c_4, .slice none 0 0]) hF rfl (by kernel_rfl)) rfl fun a hF => toTailV ⟨b_4, p_4, c_4, ([.int .i64 0, .int .i64 rv_1]), hF.weak ⟨rfl, rfl, rfl, rfl, rfl, trivial⟩, hS.weak ⟨rfl, rfl, rfl, rfl, trivial⟩, hr_3⟩
  refine oneV (i := 9) rfl ?_ trivial
  refine O.alloc 3 zc_25 hF hS rfl fun b_5 a w hF hS => ?_
  replace hS := hS.ownNil 4 66 6
  refine nil (then_n ⟨hS.weak ⟨rfl, trivial⟩, ?_⟩)
  refine oneV (i := 1) rfl ?_ trivial
  refine O.callP (us := [.int .i64 ring, .int .i64 59]) ca_37 hF hS (r0Rest_ok hS.stab ring 59 rv hx) rfl rfl fun a w hF hS => nil (then_n ⟨hS.weak ⟨rfl, trivial⟩, ?_⟩)
  refine stepV (i := 2) rfl hF (fun w hS => Y.add hF rfl rfl) rfl fun a hF => oneV (i := 5) rfl ?_ trivial
  refine O.callP (us := [.int .i64 sv.Last, .int .i64 2]) ca_37 hF hS (r0Rest_ok hS.stab sv.Last 2 rv_1 hx_1) rfl rfl fun a w hF hS => nil (then_n ⟨hS.weak ⟨rfl, trivial⟩, ?_⟩)
  refine stepV (i := 6) rfl hF (fun w hS => Y.build (parts := [(1, (.tmp 21))]) (cs := #[.int .i64 0, .int .i64 rv_1]) hF rfl (by kernel_rfl)) rfl fun a hF => oneV (i := 7) rfl ?_ trivial
  have hr_4 : Reps C_SlaveStart D0 [(SlaveStart.mk 0 rv_1)] [.int .i64 0, .int .i64 rv_1] := Reps.cons (C := C_SlaveStart) (x := (SlaveStart.mk 0 rv_1)) (c := [.int .i64 0, .int .i64 rv_1]) (r := []) rfl (Reps.nil)
  refine O.buildSlice (E := 57) (C := C_SlaveStart) (xs := [(SlaveStart.mk 0 rv_1)]) (cs := [.int .i64 0, .int .i64 rv_1]) (us := [.agg #[.int .i64 0, .int .i64 rv_1]]) (parts := [(0, (.tmp 22))]) 2 hF hS rfl (by kernel_rfl) hr_4 rfl rfl rfl fun p_5 c_5 a w hF hS => nil (then_n ⟨hS.weak ⟨rfl, trivial⟩, ?_⟩)
  refine stepV (i := 8) rfl hF (fun w hS => Y.build (parts := [(0, (.tmp 18)), (1, (.tmp 23))]) (cs := #[.int .i64 (wr (2 + rv)), .slice p_5 ([(SlaveStart.mk 0 rv_1)]).length c_5, .slice none 0 0]) hF rfl (by kernel_rfl)) rfl fun a hF => toTailV ⟨b_5, p_5, c_5, ([.int .i64 0, .int .i64 rv_1]), hF.weak ⟨rfl, rfl, rfl, rfl, rfl, trivial⟩, hS.weak ⟨rfl, rfl, rfl, rfl, trivial⟩, hr_4⟩
 rintro a w ⟨b_1, p_1, c_1, cs, hF, hS, hj⟩
 refine O.store (us := [.int .i64 (wr (2 + rv)), .slice p_1 ([(SlaveStart.mk 0 rv_1)]).length c_1, .slice none 0 0]) 3 sz_25 hF rfl rfl rfl rfl hS rfl rfl fun a w hF hS => ?_
 replace hS := hS.ownNil 5 66 6
 refine nil (then_n (seq (region (step hF (Y.fieldAddr fo_57_0 hF rfl) rfl fun a hF => step hF (Y.load1L 1 sz_3 hF rfl hS rfl rfl) rfl fun a hF => step hF (Y.fieldAddr fo_25_0 hF rfl) rfl fun a hF => step hF (Y.load1L 3 sz_3 hF rfl hS rfl rfl) rfl fun a hF => ?_))))
 obtain ⟨rv_2, hx_2, h⟩ := ndet h
 refine O.callP (us := [.int .i64 sv.Shown, .int .i64 (wr (2 + rv))]) ca_37 hF hS (r0Rest_ok hS.stab sv.Shown (wr (2 + rv)) rv_2 hx_2) rfl rfl fun a w hF hS => step hF (Y.assign hF rfl) rfl fun a hF => nil (then_n (seq (region (step hF (Y.fieldAddr fo_25_1 hF rfl) rfl fun a hF => step hF (Y.load1L 3 sz_22 hF rfl hS rfl rfl) rfl fun a hF => step hF (Y.move hF rfl) rfl fun a hF => ?_))))
 obtain ⟨e, hx_3, h⟩ := ndet h
 obtain ⟨b_6, hp⟩ := hS.ownPtr (i := 2) rfl (idx_rng hx_3)
 obtain ⟨cc, hc, hsub⟩ := ownElI (C := C_SlaveStart) hj hx_3
 obtain rfl := C_SlaveStart.open hc
 refine step hF (Y.indexOwn hp u_22 sz_57 (idx_rng hx_3) hF rfl rfl) rfl fun a hF => step hF (Y.fieldAddr fo_57_0 hF rfl) rfl fun a hF => O.storePart (C := C_SlaveStart) (v0 := (SlaveStart.mk rv_2 e.Last)) (x0 := e) (xs := ([(SlaveStart.mk 0 rv_1)])) (us := [.int .i64 rv_2]) (k := 0) 2 hp sz_3 (idx_rng hx_3) hF rfl rfl rfl rfl hx_3 (fun c0 h => by obtain rfl := C_SlaveStart.open h; rfl) (show 0 + 1 ≤ 2 by decide) hS rfl hj fun cs_1 a w hF hS hr_5 => ?_
 try rw [show ([(SlaveStart.mk 0 rv_1)]).length = (([(SlaveStart.mk 0 rv_1)]).set (Int.toNat 0) (SlaveStart.mk rv_2 e.Last)).length from List.length_set.symm] at hF
 try rw [show ([(SlaveStart.mk 0 rv_1)]).length = (([(SlaveStart.mk 0 rv_1)]).set (Int.toNat 0) (SlaveStart.mk rv_2 e.Last)).length from List.length_set.symm] at hS
 refine nil (then_n (seq (region (step hF (Y.fieldAddr fo_25_1 hF rfl) rfl fun a hF => step hF (Y.load1L 3 sz_22 hF rfl hS rfl rfl) rfl fun a hF => ?_))))
 obtain ⟨e_1, hx_4, h⟩ := ndet h
 obtain ⟨b_7, hp_1⟩ := hS.ownPtr (i := 2) rfl (idx_rng hx_4)
 obtain ⟨cc_1, hc_1, hsub_1⟩ := ownElI (C := C_SlaveStart) hr_5 hx_4
 obtain rfl := C_SlaveStart.open hc_1
 refine step hF (Y.indexOwn hp_1 u_22 sz_57 (idx_rng hx_4) hF rfl rfl) rfl fun a hF => step hF (Y.fieldAddr fo_57_1 hF rfl) rfl fun a hF => step hF (Y.load1 sz_3 hF rfl (ownElCell (C := C_SlaveStart) (i := 2) hS rfl hp_1 hsub_1 1 _ rfl)) rfl fun a hF => step hF (Y.sub hF rfl rfl) rfl fun a hF => step hF (Y.assign hF rfl) rfl fun a hF => nil (then_n (seq (seq (region (step hF (Y.assign hF rfl) rfl fun a hF => nil (then_n (block (loop_cutN (body := w7SlaveNone_b1 counts rv rv_1 rv_2 e) (out := out) (fun s a w => ∃ (shown : Int) (sign : Int) (i : Int) (l : (List SlaveEvent)), ∃ p_6 c_6 cs_2, s = (shown, sign, i, l) ∧ Frm 104 [] [(2, .slice p counts.length c), (6, .bool false), (7, .pointer (some ⟨b_1, 0, none⟩)), (8, .int .i64 shown), (9, .int .i64 sign), (10, .int .i64 i)] a ∧ St w0 D0 D0 [(1, .cells b [.int .i64 sv.Shown, .int .i64 sv.Last] 57), (2, .own p_1 (([(SlaveStart.mk 0 rv_1)]).set (Int.toNat 0) (SlaveStart.mk rv_2 e.Last)).length c_1 cs_1 57 2), (3, .cells b_1 [.int .i64 (wr (2 + rv)), .slice p_1 (([(SlaveStart.mk 0 rv_1)]).set (Int.toNat 0) (SlaveStart.mk rv_2 e.Last)).length c_1, .slice p_6 l.length c_6] 25), (4, .own none ([] : List SlaveEvent).length 0 ([]) 66 6), (5, .own p_6 l.length c_6 cs_2 66 6)] w ∧ Reps C_SlaveEvent D0 l cs_2) (rv_2, wr (1 - e_1.Last), 0, ([] : List SlaveEvent)) h ⟨rv_2, (wr (1 - e_1.Last)), 0, ([] : List SlaveEvent), none, 0, ([]), rfl, hF.weak ⟨rfl, rfl, rfl, rfl, rfl, rfl, trivial⟩, hS.weak ⟨rfl, rfl, rfl, rfl, rfl, trivial⟩, Reps.nil⟩ ?_))))))))
 rintro s a w xo ⟨shown, sign, i, l, p_6, c_6, cs_2, rfl, hF, hS, hr_6⟩ h
 unfold w7SlaveNone_b1 at h
 try dsimp only at h
 refine seq (seq (region (step hF (Y.move hF rfl) rfl fun a hF => step hF (Y.move hF rfl) rfl fun a hF => step hF (Y.lenSl u_26 hF rfl) rfl fun a hF => step hF (Y.lss hF rfl rfl) rfl fun a hF => step hF (Y.move hF rfl) rfl fun a hF => join (N := 104) (rs := []) (w0 := w0) (D0 := D0) 3 (us := [(2, .slice p counts.length c), (6, .bool false), (7, .pointer (some ⟨b_1, 0, none⟩)), (8, .int .i64 shown), (9, .int .i64 sign), (10, .int .i64 i), (48, .bool ((decide (i < (counts.length : Int))) && (decide (i < 10))))]) (ms := [(1, .cells b [.int .i64 sv.Shown, .int .i64 sv.Last] 57), (2, .own p_1 (([(SlaveStart.mk 0 rv_1)]).set (Int.toNat 0) (SlaveStart.mk rv_2 e.Last)).length c_1 cs_1 57 2), (3, .cells b_1 [.int .i64 (wr (2 + rv)), .slice p_1 (([(SlaveStart.mk 0 rv_1)]).set (Int.toNat 0) (SlaveStart.mk rv_2 e.Last)).length c_1, .slice p_6 l.length c_6] 25), (4, .own none ([] : List SlaveEvent).length 0 ([]) 66 6), (5, .own p_6 l.length c_6 cs_2 66 6)]) (D' := D0) ?_ ?_)))
 ·rcases bcases (decide (i < (counts.length : Int))) with hbv | hbv
  ·skip
   refine guard_on hF rfl rfl hbv (step hF (Y.move hF rfl) rfl fun a hF => guard_on hF rfl rfl hbv (step hF (Y.lss hF rfl rfl) rfl fun a hF => step hF (Y.pick_t hF rfl hbv rfl) rfl fun a hF => nil (then_n ⟨hF.weak ⟨rfl, rfl, rfl, rfl, rfl, rfl, (by rw [hbv]; rfl), trivial⟩, hS.weak ⟨rfl, rfl, rfl, rfl, rfl, trivial⟩⟩)))
  refine guard_off hF rfl rfl hbv rfl fun a hF => guard_off hF rfl rfl hbv rfl fun a hF => step hF (Y.pick_f hF rfl hbv rfl) rfl fun a hF => nil (then_n ⟨hF.weak ⟨rfl, rfl, rfl, rfl, rfl, rfl, (by rw [hbv]; rfl), trivial⟩, hS.weak ⟨rfl, rfl, rfl, rfl, rfl, trivial⟩⟩)
 intro a w hF hS
 refine nil (then_n (cond_b hF rfl (fun hbv_1 => ?_) (fun hbv_1 => ?_)))
 ·replace h := ncond_t h hbv_1
  refine skip_ (then_n (seq (block (seq (region (step hF (Y.move hF rfl) rfl fun a hF => step hF (Y.move hF rfl) rfl fun a hF => ?_))))))
  obtain ⟨e_2, hx_5, h⟩ := ndet h
  obtain ⟨b_8, o, hE, hY⟩ := Y.indexS (P := Tryd.prog) (C := C_int) (xs := counts) (T := 26) (x := (.tmp 51)) (y := (.tmp 52)) u_26 sz_3 hF rfl rfl (hs).1 hx_5
  obtain ⟨cc_2, hc_2, hcell⟩ := hE.open
  obtain rfl := hc_2
  refine step hF (hY) rfl fun a hF => step hF (Y.load1 sz_3 hF rfl (hcell _ hS.stab 0 _ rfl)) rfl fun a hF => ?_
  obtain ⟨rv_3, hx_6, h⟩ := ndet h
  refine O.callP (us := [.int .i64 e_2, .int .i64 61]) ca_37 hF hS (r0Rest_ok hS.stab e_2 61 rv_3 hx_6) rfl rfl fun a w hF hS => step hF (Y.assign hF rfl) rfl fun a hF => nil (then_n (seq ?_))
  obtain ⟨rv_4, hx_7, h⟩ := ndet h
  refine drawsV 6 (.flt 0 (.flt 1 (.flt 2 (.flt 3 (.alt 4 (.alt 5 .done .stop) .stop))))) mixed_ (by kernel_rfl) (fun w => St w0 D0 D0 [(1, .cells b [.int .i64 sv.Shown, .int .i64 sv.Last] 57), (2, .own p_1 (([(SlaveStart.mk 0 rv_1)]).set (Int.toNat 0) (SlaveStart.mk rv_2 e.Last)).length c_1 cs_1 57 2), (3, .cells b_1 [.int .i64 (wr (2 + rv)), .slice p_1 (([(SlaveStart.mk 0 rv_1)]).set (Int.toNat 0) (SlaveStart.mk rv_2 e.Last)).length c_1, .slice p_6 l.length c_6] 25), (4, .own none ([] : List SlaveEvent).length 0 ([]) 66 6), (5, .own p_6 l.length c_6 cs_2 66 6)] w) (fun a w => ∃ (p_7 : Option Addr) (c_7 : Nat) (cs_3 : List Value), Frm 104 [] [(2, .slice p counts.length c), (6, .bool false), (7, .pointer (some ⟨b_1, 0, none⟩)), (8, .int .i64 shown), (9, .int .i64 sign), (10, .int .i64 i), (11, .int .i64 rv_3), (57, .slice p_6 l.length c_6), (61, .slice p_7 ([rv_4]).length c_7)] a ∧ St w0 D0 D0 [(1, .cells b [.int .i64 sv.Shown, .int .i64 sv.Last] 57), (2, .own p_1 (([(SlaveStart.mk 0 rv_1)]).set (Int.toNat 0) (SlaveStart.mk rv_2 e.Last)).length c_1 cs_1 57 2), (3, .cells b_1 [.int .i64 (wr (2 + rv)), .slice p_1 (([(SlaveStart.mk 0 rv_1)]).set (Int.toNat 0) (SlaveStart.mk rv_2 e.Last)).length c_1, .slice p_6 l.length c_6] 25), (4, .own none ([] : List SlaveEvent).length 0 ([]) 66 6), (5, .own p_6 l.length c_6 cs_2 66 6), (6, .own p_7 ([rv_4]).length c_7 cs_3 66 6)] w ∧ Reps C_SlaveEvent D0 ([rv_4]) cs_3) (hS.weak (ms := [(1, .cells b [.int .i64 sv.Shown, .int .i64 sv.Last] 57), (2, .own p_1 (([(SlaveStart.mk 0 rv_1)]).set (Int.toNat 0) (SlaveStart.mk rv_2 e.Last)).length c_1 cs_1 57 2), (3, .cells b_1 [.int .i64 (wr (2 + rv)), .slice p_1 (([(SlaveStart.mk 0 rv_1)]).set (Int.toNat 0) (SlaveStart.mk rv_2 e.Last)).length c_1, .slice p_6 l.length c_6] 25), (4, .own none ([] : List SlaveEvent).length 0 ([]) 66 6), (5, .own p_6 l.length c_6 cs_2 66 6)]) ⟨rfl, rfl, rfl, rfl, rfl, trivial⟩).drew (fun _ _ _ _ h => h) ?_ ?_
  ·replace hS := hS.drew
   have hle0 := hS.le
   refine stepV (i := 0) rfl hF (fun w hS => Y.fieldAddr fo_25_2 hF rfl) rfl fun a hF => stepV (i := 1) rfl hF (fun w hS => Y.load1L 3 sz_23 hF rfl hS rfl rfl) rfl fun a hF => stepV (i := 2) rfl hF (fun w hS => Y.move hF rfl) rfl fun a hF => stepV (i := 3) rfl hF (fun w hS => Y.move hF rfl) rfl fun a hF => oneV (i := 4) rfl ?_ trivial
   refine O.callP (us := [.int .i64 sign, .int .i64 rv_3, .int .i64 0]) ca_45 hF hS (w7send_ok hS.stab sign rv_3 0 rv_4 hx_7) rfl rfl fun a w hF hS => nil (then_n ⟨hS.weak ⟨rfl, rfl, rfl, rfl, rfl, trivial⟩, ?_⟩)
   refine oneV (i := 5) rfl ?_ trivial
   have hr_8 : Reps C_SlaveEvent D0 [rv_4] [.int .i64 rv_4.Kind, .int .i64 rv_4.First, .int .i64 rv_4.Count, .int .i64 rv_4.Lost, .int .i64 rv_4.Who, .int .i64 rv_4.Shown] := Reps.cons (C := C_SlaveEvent) (x := rv_4) (c := [.int .i64 rv_4.Kind, .int .i64 rv_4.First, .int .i64 rv_4.Count, .int .i64 rv_4.Lost, .int .i64 rv_4.Who, .int .i64 rv_4.Shown]) (r := []) rfl (Reps.nil)
   refine O.buildSlice (E := 66) (C := C_SlaveEvent) (xs := [rv_4]) (cs := [.int .i64 rv_4.Kind, .int .i64 rv_4.First, .int .i64 rv_4.Count, .int .i64 rv_4.Lost, .int .i64 rv_4.Who, .int .i64 rv_4.Shown]) (us := [.agg #[.int .i64 rv_4.Kind, .int .i64 rv_4.First, .int .i64 rv_4.Count, .int .i64 rv_4.Lost, .int .i64 rv_4.Who, .int .i64 rv_4.Shown]]) (parts := [(0, (.tmp 60))]) 6 hF hS rfl (by kernel_rfl) hr_8 rfl rfl rfl fun p_8 c_8 a w hF hS => nil (then_n ⟨hS.weak ⟨rfl, rfl, rfl, rfl, rfl, trivial⟩, ?_⟩)
   exact toTailV ⟨p_8, c_8, ([.int .i64 rv_4.Kind, .int .i64 rv_4.First, .int .i64 rv_4.Count, .int .i64 rv_4.Lost, .int .i64 rv_4.Who, .int .i64 rv_4.Shown]), hF.weak ⟨rfl, rfl, rfl, rfl, rfl, rfl, rfl, rfl, rfl, trivial⟩, hS.weak ⟨rfl, rfl, rfl, rfl, rfl, rfl, trivial⟩, hr_8⟩
  rintro a w ⟨p_7, c_7, cs_3, hF, hS, hj_1⟩
  obtain ⟨hg, h⟩ := ngrd h
  refine O.append (C := C_SlaveEvent) (xs := l) (ys := [rv_4]) 5 gr_23 hF rfl rfl hS rfl (src_own (i := 6) hS rfl) hr_6 hj_1 hg rfl fun p_9 c_9 a w hF hS hr_9 => step hF (Y.fieldAddr fo_25_2 hF rfl) rfl fun a hF => O.store (us := [.slice p_9 (l ++ [rv_4]).length c_9]) 3 sz_23 hF rfl rfl rfl rfl hS rfl rfl fun a w hF hS => nil (then_n (seq (region (step hF (Y.move hF rfl) rfl fun a hF => step hF (Y.move hF rfl) rfl fun a hF => step hF (Y.add hF rfl rfl) rfl fun a hF => ?_))))
  obtain ⟨rv_5, hx_8, h⟩ := ndet h
  refine O.callP (us := [.int .i64 (wr (sign + rv_3)), .int .i64 2]) ca_37 hF hS (r0Rest_ok hS.stab (wr (sign + rv_3)) 2 rv_5 hx_8) rfl rfl fun a w hF hS => step hF (Y.assign hF rfl) rfl fun a hF => nil (then_n (region (step hF (Y.move hF rfl) rfl fun a hF => step hF (Y.move hF rfl) rfl fun a hF => step hF (Y.add hF rfl rfl) rfl fun a hF => step hF (Y.fieldAddr fo_25_0 hF rfl) rfl fun a hF => step hF (Y.load1L 3 sz_3 hF rfl hS rfl rfl) rfl fun a hF => ?_)))
  obtain ⟨hg_1, h⟩ := ngrd h
  refine step hF (Y.rem hF rfl rfl hg_1) rfl fun a hF => step hF (Y.assign hF rfl) rfl fun a hF => nil (blk_n (then_n (region (step hF (Y.move hF rfl) rfl fun a hF => step hF (Y.add hF rfl rfl) rfl fun a hF => step hF (Y.assign hF rfl) rfl fun a hF => nil (then_n (⟨_, nnxt_h h, (Int.tmod (wr (shown + rv_3)) (wr (2 + rv))), rv_5, (wr (i + 1)), (l ++ [rv_4]), p_9, c_9, (cs_2 ++ cs_3), rfl, hF.weak ⟨rfl, rfl, rfl, rfl, rfl, rfl, trivial⟩, hS.weak ⟨rfl, rfl, rfl, rfl, rfl, trivial⟩, hr_9⟩))))))
 replace h := ncond_f h hbv_1
 refine exit_ (then_x (then_x (blk_hit (then_n ?_))))
 replace h := next_h h
 refine seq (region (step hF (Y.loadNL 3 sz_25 hF rfl hS rfl rfl rfl) rfl fun a hF => ?_))
 obtain ⟨Dv, hlev, hs_1, hS⟩ := hS.freezeC (i := 2) (xs := (([(SlaveStart.mk 0 rv_1)]).set (Int.toNat 0) (SlaveStart.mk rv_2 e.Last))) rfl hr_5
 replace hG := hG.mono hlev
 replace hr_6 := hr_6.mono hlev
 obtain ⟨Dv_1, hlev_1, hs_2, hS⟩ := hS.freezeC (i := 5) (xs := l) rfl hr_6
 replace hG := hG.mono hlev_1
 replace hs_1 := hs_1.mono hlev_1
 obtain ⟨KQ, hx_9, hk⟩ := nbnd_ex h
 refine O.callSN (us := [.agg #[.int .i64 (wr (2 + rv)), .slice p_1 (([(SlaveStart.mk 0 rv_1)]).set (Int.toNat 0) (SlaveStart.mk rv_2 e.Last)).length c_1, .slice p_6 l.length c_6], .int .i64 0]) ca_16 hF hS (slave_Can_ok hS.stab (SlaveLine.mk (wr (2 + rv)) (([(SlaveStart.mk 0 rv_1)]).set (Int.toNat 0) (SlaveStart.mk rv_2 e.Last)) l) 0 hs_1 hs_2 hG KQ hx_9) rfl rfl fun rv_6 h v Dv_2 a w hR hlev_2 hF hS => ?_
 replace h := hk _ h
 replace hG := hG.mono hlev_2
 replace hs_1 := hs_1.mono hlev_2
 replace hs_2 := hs_2.mono hlev_2
 obtain ⟨p_10, c_10, rfl, hs_3⟩ := hR
 refine step hF (Y.move hF rfl) rfl fun a hF => step hF (Y.extract hF rfl rfl) rfl fun a hF => step hF (Y.extract hF rfl rfl) rfl fun a hF => step hF (Y.assign hF rfl) rfl fun a hF => step hF (Y.assign hF rfl) rfl fun a hF => nil (then_n (seq (region (step hF (Y.loadNL 3 sz_25 hF rfl hS rfl rfl rfl) rfl fun a hF => ?_))))
 obtain ⟨KQ_1, hx_10, hk_1⟩ := nbnd_ex h
 refine O.callPN (us := [.agg #[.int .i64 (wr (2 + rv)), .slice p_1 (([(SlaveStart.mk 0 rv_1)]).set (Int.toNat 0) (SlaveStart.mk rv_2 e.Last)).length c_1, .slice p_6 l.length c_6], .int .i64 0]) ca_21 hF hS (slave_Lost_ok hS.stab (SlaveLine.mk (wr (2 + rv)) (([(SlaveStart.mk 0 rv_1)]).set (Int.toNat 0) (SlaveStart.mk rv_2 e.Last)) l) 0 hs_1 hs_2 hG KQ_1 hx_10) rfl rfl fun rv_7 h a w hF hS => ?_
 replace h := hk_1 _ h
 refine step hF (Y.move hF rfl) rfl fun a hF => step hF (Y.extract hF rfl rfl) rfl fun a hF => step hF (Y.extract hF rfl rfl) rfl fun a hF => O.alloc 7 zc_33 hF hS rfl fun b_9 a w hF hS => O.store (us := [.int .i64 rv_7.1.Low, .int .i64 rv_7.1.High]) 7 sz_33 hF rfl rfl rfl rfl hS rfl rfl fun a w hF hS => step hF (Y.assign hF rfl) rfl fun a hF => nil (then_n (seq (drawsV 21 (.flt 0 (.flt 1 (.flt 2 (.flt 3 (.flt 4 (.flt 5 (.flt 6 (.flt 7 (.flt 8 (.alt 9 (.alt 10 (.flt 11 (.flt 12 (.flt 13 (.alt 14 (.flt 15 (.flt 16 (.flt 17 (.alt 18 (.flt 19 (.flt 20 .done)) .stop)))) .stop)))) .stop) .stop)))))))))) mixed_ (by kernel_rfl) (fun w => St w0 D0 Dv_2 [(1, .cells b [.int .i64 sv.Shown, .int .i64 sv.Last] 57), (3, .cells b_1 [.int .i64 (wr (2 + rv)), .slice p_1 (([(SlaveStart.mk 0 rv_1)]).set (Int.toNat 0) (SlaveStart.mk rv_2 e.Last)).length c_1, .slice p_6 l.length c_6] 25), (4, .own none ([] : List SlaveEvent).length 0 ([]) 66 6), (7, .cells b_9 [.int .i64 rv_7.1.Low, .int .i64 rv_7.1.High] 33)] w) _ (hS.weak (ms := [(1, .cells b [.int .i64 sv.Shown, .int .i64 sv.Last] 57), (3, .cells b_1 [.int .i64 (wr (2 + rv)), .slice p_1 (([(SlaveStart.mk 0 rv_1)]).set (Int.toNat 0) (SlaveStart.mk rv_2 e.Last)).length c_1, .slice p_6 l.length c_6] 25), (4, .own none ([] : List SlaveEvent).length 0 ([]) 66 6), (7, .cells b_9 [.int .i64 rv_7.1.Low, .int .i64 rv_7.1.High] 33)]) ⟨rfl, rfl, rfl, rfl, trivial⟩).drew (fun _ _ _ _ h => h) ?_ (fun _ _ h => h))))
 replace hS := hS.drew
 have hle0 := hS.le
 refine stepV (i := 0) rfl hF (fun w hS => Y.move hF rfl) rfl fun a hF => stepV (i := 1) rfl hF (fun w hS => Y.eql hF rfl rfl) rfl fun a hF => stepV (i := 2) rfl hF (fun w hS => Y.move hF rfl) rfl fun a hF => cutV (u := (.flt 6 (.flt 7 (.flt 8 (.alt 9 (.alt 10 (.flt 11 (.flt 12 (.flt 13 (.alt 14 (.flt 15 (.flt 16 (.flt 17 (.alt 18 (.flt 19 (.flt 20 .done)) .stop)))) .stop)))) .stop) .stop))))) (fun a w => ∃ (D : Stab), Dv_2.le D ∧ Frm 104 [] [(6, .bool false), (8, .int .i64 shown), (12, .slice p_10 rv_6.1.length c_10), (14, .pointer (some ⟨b_9, 0, none⟩)), (89, .bool ((rv_6.2 == 0) && (rv_7.2 == 0)))] a ∧ St w0 D0 D [(1, .cells b [.int .i64 sv.Shown, .int .i64 sv.Last] 57), (3, .cells b_1 [.int .i64 (wr (2 + rv)), .slice p_1 (([(SlaveStart.mk 0 rv_1)]).set (Int.toNat 0) (SlaveStart.mk rv_2 e.Last)).length c_1, .slice p_6 l.length c_6] 25), (4, .own none ([] : List SlaveEvent).length 0 ([]) 66 6), (7, .cells b_9 [.int .i64 rv_7.1.Low, .int .i64 rv_7.1.High] 33)] w) ?_ ?_
 ·intro hcut
  rcases bcases (rv_6.2 == 0) with hbv_6 | hbv_6
  ·skip
   refine stepV_on (i := 3) rfl hF rfl rfl hbv_6 (fun w hS => Y.move hF rfl) rfl fun a hF => stepV_on (i := 4) rfl hF rfl rfl hbv_6 (fun w hS => Y.eql hF rfl rfl) rfl fun a hF => stepV (i := 5) rfl hF (fun w hS => Y.pick_t hF rfl hbv_6 rfl) rfl fun a hF => hcut _ _ ⟨Dv_2, Stab.le.refl _, hF.weak ⟨rfl, rfl, rfl, rfl, (by rw [hbv_6]; rfl), trivial⟩, hS.weak ⟨rfl, rfl, rfl, rfl, trivial⟩⟩
  refine stepV_off (i := 3) rfl hF rfl rfl hbv_6 rfl fun a hF => stepV_off (i := 4) rfl hF rfl rfl hbv_6 rfl fun a hF => stepV (i := 5) rfl hF (fun w hS => Y.pick_f hF rfl hbv_6 rfl) rfl fun a hF => hcut _ _ ⟨Dv_2, Stab.le.refl _, hF.weak ⟨rfl, rfl, rfl, rfl, (by rw [hbv_6]; rfl), trivial⟩, hS.weak ⟨rfl, rfl, rfl, rfl, trivial⟩⟩
 rintro a w ⟨Dv_6, hlev_6, hF, hS⟩
 replace hG := hG.mono hlev_6
 replace hs_3 := hs_3.mono hlev_6
 refine stepV (i := 6) rfl hF (fun w hS => Y.move hF rfl) rfl fun a hF => ?_
 obtain ⟨t_3, ht_3, h⟩ := ndet h
 refine cutV (u := (.flt 12 (.flt 13 (.alt 14 (.flt 15 (.flt 16 (.flt 17 (.alt 18 (.flt 19 (.flt 20 .done)) .stop)))) .stop)))) (fun a w => ∃ (D : Stab), Dv_6.le D ∧ Frm 104 [] [(6, .bool false), (14, .pointer (some ⟨b_9, 0, none⟩)), (95, .bool t_3)] a ∧ St w0 D0 D [(1, .cells b [.int .i64 sv.Shown, .int .i64 sv.Last] 57), (3, .cells b_1 [.int .i64 (wr (2 + rv)), .slice p_1 (([(SlaveStart.mk 0 rv_1)]).set (Int.toNat 0) (SlaveStart.mk rv_2 e.Last)).length c_1, .slice p_6 l.length c_6] 25), (4, .own none ([] : List SlaveEvent).length 0 ([]) 66 6), (7, .cells b_9 [.int .i64 rv_7.1.Low, .int .i64 rv_7.1.High] 33)] w) ?_ ?_
 ·intro hcut
  rcases bcases ((rv_6.2 == 0) && (rv_7.2 == 0)) with hbv_7 | hbv_7
  ·skip
   replace h := cond_t ht_3 hbv_7
   refine stepV_on (i := 7) rfl hF rfl rfl hbv_7 (fun w hS => Y.move hF rfl) rfl fun a hF => stepV_on (i := 8) rfl hF rfl rfl hbv_7 (fun w hS => Y.move hF rfl) rfl fun a hF => oneV (i := 9) rfl ?_ trivial
   refine guard_on hF rfl rfl hbv_7 ?_
   have hr_11 : Reps C_int Dv_6 [shown] [.int .i64 shown] := Reps.cons (C := C_int) (x := shown) (c := [.int .i64 shown]) (r := []) rfl (Reps.nil)
   refine O.buildSlice (E := 3) (C := C_int) (xs := [shown]) (cs := [.int .i64 shown]) (us := [.int .i64 shown]) (parts := [(0, (.tmp 92))]) 9 hF hS rfl (by kernel_rfl) hr_11 rfl rfl rfl fun p_12 c_12 a w hF hS => nil (then_n ⟨(hS.weak (ms := [(1, .cells b [.int .i64 sv.Shown, .int .i64 sv.Last] 57), (3, .cells b_1 [.int .i64 (wr (2 + rv)), .slice p_1 (([(SlaveStart.mk 0 rv_1)]).set (Int.toNat 0) (SlaveStart.mk rv_2 e.Last)).length c_1, .slice p_6 l.length c_6] 25), (4, .own none ([] : List SlaveEvent).length 0 ([]) 66 6), (7, .cells b_9 [.int .i64 rv_7.1.Low, .int .i64 rv_7.1.High] 33)]) ⟨rfl, rfl, rfl, rfl, trivial⟩).weakD hlev_6 hle0, ?_⟩)
   refine oneV (i := 10) rfl ?_ trivial
   refine guard_on hF rfl rfl hbv_7 ?_
   obtain ⟨Dv_7, hlev_7, hs_5, hS⟩ := hS.freezeC (i := 9) (xs := [shown]) rfl hr_11
   replace hs_3 := hs_3.mono hlev_7
   obtain ⟨rv_12, hx_14, h⟩ := bind_some h
   refine O.callP (us := [.slice p_10 rv_6.1.length c_10, .slice p_12 ([shown]).length c_12]) ca_18 hF hS (r0Alike_ok hS.stab rv_6.1 ([shown]) hs_3 hs_5 rv_12 hx_14) rfl rfl fun a w hF hS => nil (then_n ⟨(hS.weak (ms := [(1, .cells b [.int .i64 sv.Shown, .int .i64 sv.Last] 57), (3, .cells b_1 [.int .i64 (wr (2 + rv)), .slice p_1 (([(SlaveStart.mk 0 rv_1)]).set (Int.toNat 0) (SlaveStart.mk rv_2 e.Last)).length c_1, .slice p_6 l.length c_6] 25), (4, .own none ([] : List SlaveEvent).length 0 ([]) 66 6), (7, .cells b_9 [.int .i64 rv_7.1.Low, .int .i64 rv_7.1.High] 33)]) ⟨rfl, rfl, rfl, rfl, trivial⟩).weakD (hlev_6.trans hlev_7) hle0, ?_⟩)
   refine stepV (i := 11) rfl hF (fun w hS => Y.pick_t hF rfl hbv_7 rfl) rfl fun a hF => ?_
   obtain rfl := some_inj h
   exact hcut _ _ ⟨Dv_7, hlev_7, hF.weak ⟨rfl, rfl, rfl, trivial⟩, hS.weak ⟨rfl, rfl, rfl, rfl, trivial⟩⟩
  replace h := cond_f ht_3 hbv_7
  refine stepV_off (i := 7) rfl hF rfl rfl hbv_7 rfl fun a hF => stepV_off (i := 8) rfl hF rfl rfl hbv_7 rfl fun a hF => oneV (i := 9) rfl (guard_off hF rfl rfl hbv_7 rfl fun a hF => nil (then_n ⟨(hS.weak (ms := [(1, .cells b [.int .i64 sv.Shown, .int .i64 sv.Last] 57), (3, .cells b_1 [.int .i64 (wr (2 + rv)), .slice p_1 (([(SlaveStart.mk 0 rv_1)]).set (Int.toNat 0) (SlaveStart.mk rv_2 e.Last)).length c_1, .slice p_6 l.length c_6] 25), (4, .own none ([] : List SlaveEvent).length 0 ([]) 66 6), (7, .cells b_9 [.int .i64 rv_7.1.Low, .int .i64 rv_7.1.High] 33)]) ⟨rfl, rfl, rfl, rfl, trivial⟩).weakD hlev_6 hle0, ?_⟩)) trivial
  refine oneV (i := 10) rfl (guard_off hF rfl rfl hbv_7 rfl fun a hF => nil (then_n ⟨(hS.weak (ms := [(1, .cells b [.int .i64 sv.Shown, .int .i64 sv.Last] 57), (3, .cells b_1 [.int .i64 (wr (2 + rv)), .slice p_1 (([(SlaveStart.mk 0 rv_1)]).set (Int.toNat 0) (SlaveStart.mk rv_2 e.Last)).length c_1, .slice p_6 l.length c_6] 25), (4, .own none ([] : List SlaveEvent).length 0 ([]) 66 6), (7, .cells b_9 [.int .i64 rv_7.1.Low, .int .i64 rv_7.1.High] 33)]) ⟨rfl, rfl, rfl, rfl, trivial⟩).weakD hlev_6 hle0, ?_⟩)) trivial
  refine stepV (i := 11) rfl hF (fun w hS => Y.pick_f hF rfl hbv_7 rfl) rfl fun a hF => ?_
  obtain rfl := some_inj h
  exact hcut _ _ ⟨Dv_6, Stab.le.refl _, hF.weak ⟨rfl, rfl, rfl, trivial⟩, hS.weak ⟨rfl, rfl, rfl, rfl, trivial⟩⟩
 rintro a w ⟨Dv_8, hlev_8, hF, hS⟩
 replace hG := hG.mono hlev_8
 refine stepV (i := 12) rfl hF (fun w hS => Y.move hF rfl) rfl fun a hF => ?_
 obtain ⟨t_4, ht_4, h⟩ := ndet h
 refine cutV (u := (.flt 17 (.alt 18 (.flt 19 (.flt 20 .done)) .stop))) (fun a w => ∃ (D : Stab), Dv_8.le D ∧ Frm 104 [] [(6, .bool false), (100, .bool t_4)] a ∧ St w0 D0 D [(1, .cells b [.int .i64 sv.Shown, .int .i64 sv.Last] 57), (3, .cells b_1 [.int .i64 (wr (2 + rv)), .slice p_1 (([(SlaveStart.mk 0 rv_1)]).set (Int.toNat 0) (SlaveStart.mk rv_2 e.Last)).length c_1, .slice p_6 l.length c_6] 25), (4, .own none ([] : List SlaveEvent).length 0 ([]) 66 6), (7, .cells b_9 [.int .i64 rv_7.1.Low, .int .i64 rv_7.1.High] 33)] w) ?_ ?_
 ·intro hcut
  rcases bcases t_3 with hbv_8 | hbv_8
  ·skip
   replace h := cond_t ht_4 hbv_8
   refine stepV_on (i := 13) rfl hF rfl rfl hbv_8 (fun w hS => Y.loadNL 7 sz_33 hF rfl hS rfl rfl rfl) rfl fun a hF => oneV (i := 14) rfl ?_ trivial
   refine guard_on hF rfl rfl hbv_8 ?_
   obtain ⟨rv_13, hx_15, h⟩ := bind_some h
   refine O.callP (us := [.int .i64 0, .int .i64 0]) ca_43 hF hS (r0To_ok hS.stab 0 0 rv_13 hx_15) rfl rfl fun a w hF hS => nil (then_n ⟨(hS.weak (ms := [(1, .cells b [.int .i64 sv.Shown, .int .i64 sv.Last] 57), (3, .cells b_1 [.int .i64 (wr (2 + rv)), .slice p_1 (([(SlaveStart.mk 0 rv_1)]).set (Int.toNat 0) (SlaveStart.mk rv_2 e.Last)).length c_1, .slice p_6 l.length c_6] 25), (4, .own none ([] : List SlaveEvent).length 0 ([]) 66 6), (7, .cells b_9 [.int .i64 rv_7.1.Low, .int .i64 rv_7.1.High] 33)]) ⟨rfl, rfl, rfl, rfl, trivial⟩).weakD (hlev_6.trans hlev_8) hle0, ?_⟩)
   refine stepV_on (i := 15) rfl hF rfl rfl hbv_8 (fun w hS => Y.eqst (fun w => eqT_33.equal (by decide) (l := [rv_7.1.Low, rv_7.1.High]) (m := [rv_13.Low, rv_13.High]) rfl rfl) (fun w => run_eqGuard_agg _ _ _ _ _ _ _ eg_33) hF rfl rfl) rfl fun a hF => stepV (i := 16) rfl hF (fun w hS => Y.pick_t hF rfl hbv_8 rfl) rfl fun a hF => ?_
   obtain rfl := some_inj h
   exact hcut _ _ ⟨Dv_8, Stab.le.refl _, hF.weak ⟨rfl, rfl, trivial⟩, hS.weak ⟨rfl, rfl, rfl, rfl, trivial⟩⟩
  replace h := cond_f ht_4 hbv_8
  refine stepV_off (i := 13) rfl hF rfl rfl hbv_8 rfl fun a hF => oneV (i := 14) rfl (guard_off hF rfl rfl hbv_8 rfl fun a hF => nil (then_n ⟨(hS.weak (ms := [(1, .cells b [.int .i64 sv.Shown, .int .i64 sv.Last] 57), (3, .cells b_1 [.int .i64 (wr (2 + rv)), .slice p_1 (([(SlaveStart.mk 0 rv_1)]).set (Int.toNat 0) (SlaveStart.mk rv_2 e.Last)).length c_1, .slice p_6 l.length c_6] 25), (4, .own none ([] : List SlaveEvent).length 0 ([]) 66 6), (7, .cells b_9 [.int .i64 rv_7.1.Low, .int .i64 rv_7.1.High] 33)]) ⟨rfl, rfl, rfl, rfl, trivial⟩).weakD (hlev_6.trans hlev_8) hle0, ?_⟩)) trivial
  refine stepV_off (i := 15) rfl hF rfl rfl hbv_8 rfl fun a hF => stepV (i := 16) rfl hF (fun w hS => Y.pick_f hF rfl hbv_8 rfl) rfl fun a hF => ?_
  obtain rfl := some_inj h
  exact hcut _ _ ⟨Dv_8, Stab.le.refl _, hF.weak ⟨rfl, rfl, trivial⟩, hS.weak ⟨rfl, rfl, rfl, rfl, trivial⟩⟩
 rintro a w ⟨Dv_9, hlev_9, hF, hS⟩
 replace hG := hG.mono hlev_9
 refine stepV (i := 17) rfl hF (fun w hS => Y.move hF rfl) rfl fun a hF => ?_
 obtain ⟨KQ_5, ht_5, hk_5⟩ := nbnd_ex h
 refine cutV (u := (.flt 20 .done)) (fun a w => ∃ (t_5 : Bool) (D : Stab), Dv_9.le D ∧ Frm 104 [] [(6, .bool false), (103, .bool t_5)] a ∧ St w0 D0 D [(1, .cells b [.int .i64 sv.Shown, .int .i64 sv.Last] 57), (3, .cells b_1 [.int .i64 (wr (2 + rv)), .slice p_1 (([(SlaveStart.mk 0 rv_1)]).set (Int.toNat 0) (SlaveStart.mk rv_2 e.Last)).length c_1, .slice p_6 l.length c_6] 25), (4, .own none ([] : List SlaveEvent).length 0 ([]) 66 6), (7, .cells b_9 [.int .i64 rv_7.1.Low, .int .i64 rv_7.1.High] 33)] w ∧ KQ_5 t_5) ?_ ?_
 ·intro hcut
  rcases bcases t_4 with hbv_9 | hbv_9
  ·skip
   replace h := ncond_t ht_5 hbv_9
   refine oneV (i := 18) rfl ?_ trivial
   refine guard_on hF rfl rfl hbv_9 ?_
   obtain ⟨KQ_4, hx_16, hk_4⟩ := nbnd_ex h
   refine O.callPN (us := []) ca_23 hF hS (w7works_ok hS.stab hG KQ_4 hx_16) rfl rfl fun rv_15 h a w hF hS => ?_
   replace h := hk_4 _ h
   refine nil (then_n ⟨(hS.weak (ms := [(1, .cells b [.int .i64 sv.Shown, .int .i64 sv.Last] 57), (3, .cells b_1 [.int .i64 (wr (2 + rv)), .slice p_1 (([(SlaveStart.mk 0 rv_1)]).set (Int.toNat 0) (SlaveStart.mk rv_2 e.Last)).length c_1, .slice p_6 l.length c_6] 25), (4, .own none ([] : List SlaveEvent).length 0 ([]) 66 6), (7, .cells b_9 [.int .i64 rv_7.1.Low, .int .i64 rv_7.1.High] 33)]) ⟨rfl, rfl, rfl, rfl, trivial⟩).weakD (hlev_6.trans (hlev_8.trans hlev_9)) hle0, ?_⟩)
   refine stepV (i := 19) rfl hF (fun w hS => Y.pick_t hF rfl hbv_9 rfl) rfl fun a hF => hcut _ _ ⟨_, Dv_9, Stab.le.refl _, hF.weak ⟨rfl, rfl, trivial⟩, hS.weak ⟨rfl, rfl, rfl, rfl, trivial⟩, nret h⟩
  replace h := ncond_f ht_5 hbv_9
  refine oneV (i := 18) rfl (guard_off hF rfl rfl hbv_9 rfl fun a hF => nil (then_n ⟨(hS.weak (ms := [(1, .cells b [.int .i64 sv.Shown, .int .i64 sv.Last] 57), (3, .cells b_1 [.int .i64 (wr (2 + rv)), .slice p_1 (([(SlaveStart.mk 0 rv_1)]).set (Int.toNat 0) (SlaveStart.mk rv_2 e.Last)).length c_1, .slice p_6 l.length c_6] 25), (4, .own none ([] : List SlaveEvent).length 0 ([]) 66 6), (7, .cells b_9 [.int .i64 rv_7.1.Low, .int .i64 rv_7.1.High] 33)]) ⟨rfl, rfl, rfl, rfl, trivial⟩).weakD (hlev_6.trans (hlev_8.trans hlev_9)) hle0, ?_⟩)) trivial
  refine stepV (i := 19) rfl hF (fun w hS => Y.pick_f hF rfl hbv_9 rfl) rfl fun a hF => hcut _ _ ⟨_, Dv_9, Stab.le.refl _, hF.weak ⟨rfl, rfl, trivial⟩, hS.weak ⟨rfl, rfl, rfl, rfl, trivial⟩, nret h⟩
 rintro a w ⟨t_5, Dv_10, hlev_10, hF, hS, h⟩
 replace h := hk_5 _ h
 refine stepV (i := 20) rfl hF (fun w hS => Y.assign hF rfl) rfl fun a hF => toTailV (nil (then_n (ret_ (leavePN _ (nret h) Tryd.results9 hF hS (.cons (.tmp rfl) .nil) .nil rfl))))
end Go.Proofs.YtmbgmefmkjeahaaDoor.Rt
