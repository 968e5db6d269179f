/- Walks of the functions of this seat: what each Go function comes to, as a Lean function, and the proof. Part WB1. Under no conditions. -/
import Derived.Test.YthdbokigcfbgeaaDoorC14W0
set_option linter.unusedVariables false
set_option linter.unusedSimpArgs false
set_option maxRecDepth 100000
set_option maxHeartbeats 4000000
namespace Go.Proofs.YthdbokigcfbgeaaDoor.Rt
open Go Go.RowKit
noncomputable def r0To (low : Int) (high : Int) : Option Span :=
  some (Span.mk low high)
theorem r0To_ok {w0 : World} {D0 : Stab} (hD : D0.on w0) (low : Int) (high : Int) (out : Span) (h : r0To low high = some out) : Calls Tryd.prog 44 [.int .i64 low, .int .i64 high].toArray w0 (RetP D0 w0 (.agg #[.int .i64 out.Low, .int .i64 out.High])) := by
 refine enter _ 8 Tryd.func44 rfl Tryd.ntmps44 rfl fun a hF => ?_
 replace hF : Frm 8 [] [(0, .int .i64 low), (1, .int .i64 high)] a := hF
 have hS := St.start hD
 unfold r0To at h
 refine seq (region (O.alloc 1 zc_40 hF hS rfl fun b a w hF hS => nil (then_n (seq (region (step hF (Y.move hF rfl) rfl fun a hF => step hF (Y.move hF rfl) rfl fun a hF => step hF (Y.build (parts := [(0, (.tmp 5)), (1, (.tmp 6))]) (cs := #[.int .i64 low, .int .i64 high]) hF rfl (by kernel_rfl)) rfl fun a hF => O.store (us := [.int .i64 low, .int .i64 high]) 1 sz_40 hF rfl rfl rfl rfl hS rfl rfl fun a w hF hS => nil (then_n (ret_ ?_))))))))
 obtain rfl := some_inj h
 exact leaveP Tryd.results44 hF hS (.cons (.cellN 1 sz_40 rfl rfl rfl) .nil) .nil rfl
noncomputable def r0First_b1 (av : (List Int)) (b : (List Int)) : Int → Option (Int ⊕ Int)
 | i =>
  (cond ((decide (i < (av.length : Int))) && (decide (i < (b.length : Int)))) ((idx av i).bind fun e =>
  (idx b i).bind fun e_1 =>
  some (e == e_1)) (some false)).bind fun t =>
  cond t
  (nxt (wr (i + 1)))
  (ext (some i))
noncomputable def r0First (av : (List Int)) (b : (List Int)) : Option Int :=
  loopU (r0First_b1 av b) 0
theorem r0First_ok {w0 : World} {D0 : Stab} (hD : D0.on w0) (av : (List Int)) (b : (List Int)) {p : Option Addr} {c : Nat} {p_1 : Option Addr} {c_1 : Nat} (hs : SRc C_int D0 av p c) (hs_1 : SRc C_int D0 b p_1 c_1) (out : Int) (h : r0First av b = some out) : Calls Tryd.prog 66 [.slice p av.length c, .slice p_1 b.length c_1].toArray w0 (RetP D0 w0 (.int .i64 out)) := by
 refine enter _ 30 Tryd.func66 rfl Tryd.ntmps66 rfl fun a hF => ?_
 replace hF : Frm 30 [] [(0, .slice p av.length c), (1, .slice p_1 b.length c_1)] a := hF
 have hS := St.start hD
 unfold r0First at h
 refine seq (region (step hF (Y.assign hF rfl) rfl fun a hF => nil (then_n (seq (region (step hF (Y.assign hF rfl) rfl fun a hF => nil (then_n (seq (block (loop_cut (body := r0First_b1 av b) (out := out) (fun i a w => Frm 30 [] [(0, .slice p av.length c), (1, .slice p_1 b.length c_1), (4, .int .i64 0), (5, .int .i64 i)] a ∧ St w0 D0 D0 [] w) 0 h ⟨hF.weak ⟨rfl, rfl, rfl, rfl, trivial⟩, hS.weak trivial⟩ ?_))))))))))
 rintro i a w xo ⟨hF, hS⟩ h hxo
 unfold r0First_b1 at h
 dsimp only at h
 refine seq (seq (draws 21 [(0, true), (1, true), (2, true), (3, true), (4, true), (5, true), (6, true), (7, true), (8, true), (9, true), (10, true), (11, true), (12, true), (13, true), (14, true), (15, true), (16, true), (17, true), (18, true), (19, true), (20, true)] mixed_ (by kernel_rfl) (fun w => St w0 D0 D0 _ w) hS.drew (fun _ _ _ _ h => h) ?_))
 replace hS := hS.drew
 refine stepT (i := 0) rfl hF (fun w hS => Y.move hF rfl) rfl fun a hF => stepT (i := 1) rfl hF (fun w hS => Y.move hF rfl) rfl fun a hF => stepT (i := 2) rfl hF (fun w hS => Y.lenSl u_32 hF rfl) rfl fun a hF => stepT (i := 3) rfl hF (fun w hS => Y.lss hF rfl rfl) rfl fun a hF => stepT (i := 4) rfl hF (fun w hS => Y.move hF rfl) rfl fun a hF => joinT (N := 30) (rs := []) (w0 := w0) (D0 := D0) 5 (us := [(0, .slice p av.length c), (1, .slice p_1 b.length c_1), (4, .int .i64 0), (5, .int .i64 i), (15, .bool ((decide (i < (av.length : Int))) && (decide (i < (b.length : Int)))))]) (ms := []) (D' := D0) ?_ ?_
 ·rcases bcases (decide (i < (av.length : Int))) with hbv | hbv
  ·skip
   refine stepT_on (i := 5) rfl hF rfl rfl hbv (fun w hS => Y.move hF rfl) rfl fun a hF => stepT_on (i := 6) rfl hF rfl rfl hbv (fun w hS => Y.move hF rfl) rfl fun a hF => stepT_on (i := 7) rfl hF rfl rfl hbv (fun w hS => Y.lenSl u_32 hF rfl) rfl fun a hF => stepT_on (i := 8) rfl hF rfl rfl hbv (fun w hS => Y.lss hF rfl rfl) rfl fun a hF => stepT (i := 9) rfl hF (fun w hS => Y.pick_t hF rfl hbv rfl) rfl fun a hF => toTail ⟨hF.weak ⟨rfl, rfl, rfl, rfl, (by rw [hbv]; rfl), trivial⟩, hS.weak trivial⟩
  refine stepT_off (i := 5) rfl hF rfl rfl hbv rfl fun a hF => stepT_off (i := 6) rfl hF rfl rfl hbv rfl fun a hF => stepT_off (i := 7) rfl hF rfl rfl hbv rfl fun a hF => stepT_off (i := 8) rfl hF rfl rfl hbv rfl fun a hF => stepT (i := 9) rfl hF (fun w hS => Y.pick_f hF rfl hbv rfl) rfl fun a hF => toTail ⟨hF.weak ⟨rfl, rfl, rfl, rfl, (by rw [hbv]; rfl), trivial⟩, hS.weak trivial⟩
 intro a w hF hS
 refine stepT (i := 10) rfl hF (fun w hS => Y.move hF rfl) rfl fun a hF => ?_
 obtain ⟨t, ht, h⟩ := bind_some h
 refine joinT (N := 30) (rs := []) (w0 := w0) (D0 := D0) 10 (us := [(0, .slice p av.length c), (1, .slice p_1 b.length c_1), (4, .int .i64 0), (5, .int .i64 i), (26, .bool t)]) (ms := []) (D' := D0) ?_ ?_
 ·rcases bcases ((decide (i < (av.length : Int))) && (decide (i < (b.length : Int)))) with hbv_1 | hbv_1
  ·skip
   replace h := cond_t ht hbv_1
   refine stepT_on (i := 11) rfl hF rfl rfl hbv_1 (fun w hS => Y.move hF rfl) rfl fun a hF => stepT_on (i := 12) rfl hF rfl rfl hbv_1 (fun w hS => Y.move hF rfl) rfl fun a hF => ?_
   obtain ⟨e, hx, h⟩ := bind_some h
   obtain ⟨b_1, o, hE, hY⟩ := Y.indexS (P := Tryd.prog) (C := C_int) (xs := av) (T := 32) (x := (.tmp 17)) (y := (.tmp 18)) u_32 sz_3 hF rfl rfl (hs).1 hx
   obtain ⟨cc, hc, hcell⟩ := hE.open
   obtain rfl := hc
   refine stepT_on (i := 13) rfl hF rfl rfl hbv_1 (fun w hS => hY) rfl fun a hF => stepT_on (i := 14) rfl hF rfl rfl hbv_1 (fun w hS => Y.load1 sz_3 hF rfl (hcell _ hS.stab 0 _ rfl)) rfl fun a hF => stepT_on (i := 15) rfl hF rfl rfl hbv_1 (fun w hS => Y.move hF rfl) rfl fun a hF => stepT_on (i := 16) rfl hF rfl rfl hbv_1 (fun w hS => Y.move hF rfl) rfl fun a hF => ?_
   obtain ⟨e_1, hx_1, h⟩ := bind_some h
   obtain ⟨b_2, o_1, hE_1, hY_1⟩ := Y.indexS (P := Tryd.prog) (C := C_int) (xs := b) (T := 32) (x := (.tmp 21)) (y := (.tmp 22)) u_32 sz_3 hF rfl rfl (hs_1).1 hx_1
   obtain ⟨cc_1, hc_1, hcell_1⟩ := hE_1.open
   obtain rfl := hc_1
   refine stepT_on (i := 17) rfl hF rfl rfl hbv_1 (fun w hS => hY_1) rfl fun a hF => stepT_on (i := 18) rfl hF rfl rfl hbv_1 (fun w hS => Y.load1 sz_3 hF rfl (hcell_1 _ hS.stab 0 _ rfl)) rfl fun a hF => stepT_on (i := 19) rfl hF rfl rfl hbv_1 (fun w hS => Y.eql hF rfl rfl) rfl fun a hF => stepT (i := 20) rfl hF (fun w hS => Y.pick_t hF rfl hbv_1 rfl) rfl fun a hF => ?_
   obtain rfl := some_inj h
   exact toTail ⟨hF.weak ⟨rfl, rfl, rfl, rfl, rfl, trivial⟩, hS.weak trivial⟩
  replace h := cond_f ht hbv_1
  refine stepT_off (i := 11) rfl hF rfl rfl hbv_1 rfl fun a hF => stepT_off (i := 12) rfl hF rfl rfl hbv_1 rfl fun a hF => stepT_off (i := 13) rfl hF rfl rfl hbv_1 rfl fun a hF => stepT_off (i := 14) rfl hF rfl rfl hbv_1 rfl fun a hF => stepT_off (i := 15) rfl hF rfl rfl hbv_1 rfl fun a hF => stepT_off (i := 16) rfl hF rfl rfl hbv_1 rfl fun a hF => stepT_off (i := 17) rfl hF rfl rfl hbv_1 rfl fun a hF => stepT_off (i := 18) rfl hF rfl rfl hbv_1 rfl fun a hF => stepT_off (i := 19) rfl hF rfl rfl hbv_1 rfl fun a hF => stepT (i := 20) rfl hF (fun w hS => Y.pick_f hF rfl hbv_1 rfl) rfl fun a hF => ?_
  obtain rfl := some_inj h
  exact toTail ⟨hF.weak ⟨rfl, rfl, rfl, rfl, rfl, trivial⟩, hS.weak trivial⟩
 intro a w hF hS
 refine toTail (nil (then_n (cond_b hF rfl (fun hbv_2 => ?_) (fun hbv_2 => ?_))))
 ·replace h := cond_t h hbv_2
  refine skip_ (then_n (block (region (step hF (Y.move hF rfl) rfl fun a hF => step hF (Y.add hF rfl rfl) rfl fun a hF => step hF (Y.assign hF rfl) rfl fun a hF => nil (blk_n (then_n (⟨_, nxt_some h, hF.weak ⟨rfl, rfl, rfl, rfl, trivial⟩, hS.weak trivial⟩)))))))
 replace h := cond_f h hbv_2
 refine exit_ (then_x (then_x (blk_hit (then_n ?_))))
 replace h := ext_some h hxo
 refine seq (region (step hF (Y.move hF rfl) rfl fun a hF => step hF (Y.assign hF rfl) rfl fun a hF => nil (then_n (ret_ ?_))))
 obtain rfl := some_inj h
 exact leaveP Tryd.results66 hF hS (.cons (.tmp rfl) .nil) .nil rfl
noncomputable def r0Alike (av : (List Int)) (b : (List Int)) : Option Bool :=
  (cond ((av.length : Int) == (b.length : Int)) ((r0First av b).bind fun rv =>
  some (rv == (av.length : Int))) (some false)).bind fun t =>
  some t
theorem r0Alike_ok {w0 : World} {D0 : Stab} (hD : D0.on w0) (av : (List Int)) (b : (List Int)) {p : Option Addr} {c : Nat} {p_1 : Option Addr} {c_1 : Nat} (hs : SRc C_int D0 av p c) (hs_1 : SRc C_int D0 b p_1 c_1) (out : Bool) (h : r0Alike av b = some out) : Calls Tryd.prog 22 [.slice p av.length c, .slice p_1 b.length c_1].toArray w0 (RetP D0 w0 (.bool out)) := by
 refine enter _ 18 Tryd.func22 rfl Tryd.ntmps22 rfl fun a hF => ?_
 replace hF : Frm 18 [] [(0, .slice p av.length c), (1, .slice p_1 b.length c_1)] a := hF
 have hS := St.start hD
 unfold r0Alike at h
 refine seq (region (step hF (Y.assign hF rfl) rfl fun a hF => nil (then_n (seq (region (step hF (Y.move hF rfl) rfl fun a hF => step hF (Y.lenSl u_32 hF rfl) rfl fun a hF => step hF (Y.move hF rfl) rfl fun a hF => step hF (Y.lenSl u_32 hF rfl) rfl fun a hF => step hF (Y.eql hF rfl rfl) rfl fun a hF => step hF (Y.move hF rfl) rfl fun a hF => ?_))))))
 obtain ⟨t, ht, h⟩ := bind_some h
 refine join (N := 18) (rs := []) (w0 := w0) (D0 := D0) 7 (us := [(4, .bool false), (17, .bool t)]) (ms := []) (D' := D0) ?_ ?_
 ·rcases bcases ((av.length : Int) == (b.length : Int)) with hbv | hbv
  ·skip
   replace h := cond_t ht hbv
   refine guard_on hF rfl rfl hbv (step hF (Y.move hF rfl) rfl fun a hF => guard_on hF rfl rfl hbv (step hF (Y.move hF rfl) rfl fun a hF => guard_on hF rfl rfl hbv ?_))
   obtain ⟨rv, hx, h⟩ := bind_some h
   refine O.callP (us := [.slice p av.length c, .slice p_1 b.length c_1]) ca_66 hF hS (r0First_ok hS.stab av b hs hs_1 rv hx) rfl rfl fun a w hF hS => guard_on hF rfl rfl hbv (step hF (Y.move hF rfl) rfl fun a hF => guard_on hF rfl rfl hbv (step hF (Y.lenSl u_32 hF rfl) rfl fun a hF => guard_on hF rfl rfl hbv (step hF (Y.eql hF rfl rfl) rfl fun a hF => step hF (Y.pick_t hF rfl hbv rfl) rfl fun a hF => ?_)))
   obtain rfl := some_inj h
   exact nil (then_n ⟨hF.weak ⟨rfl, rfl, trivial⟩, hS.weak trivial⟩)
  replace h := cond_f ht hbv
  refine guard_off hF rfl rfl hbv rfl fun a hF => guard_off hF rfl rfl hbv rfl fun a hF => guard_off hF rfl rfl hbv rfl fun a hF => guard_off hF rfl rfl hbv rfl fun a hF => guard_off hF rfl rfl hbv rfl fun a hF => guard_off hF rfl rfl hbv rfl fun a hF => step hF (Y.pick_f hF rfl hbv rfl) rfl fun a hF => ?_
  obtain rfl := some_inj h
  exact nil (then_n ⟨hF.weak ⟨rfl, rfl, trivial⟩, hS.weak trivial⟩)
 intro a w hF hS
 refine step hF (Y.assign hF rfl) rfl fun a hF => nil (then_n (ret_ ?_))
 obtain rfl := some_inj h
 exact leaveP Tryd.results22 hF hS (.cons (.tmp rfl) .nil) .nil rfl
noncomputable def r0AlikeRows_b1 (av : (List (List Int))) (b : (List (List Int))) : (Bool × Int) → Option ((Bool × Int) ⊕ Bool)
 | (same, i) =>
  cond (same && (decide (i < (av.length : Int))))
  ((idx av i).bind fun e =>
  (idx b i).bind fun e_1 =>
  (r0Alike e e_1).bind fun rv =>
  nxt (rv, wr (i + 1)))
  (ext (some same))
noncomputable def r0AlikeRows (av : (List (List Int))) (b : (List (List Int))) : Option Bool :=
  loopU (r0AlikeRows_b1 av b) ((av.length : Int) == (b.length : Int), 0)
theorem r0AlikeRows_ok {w0 : World} {D0 : Stab} (hD : D0.on w0) (av : (List (List Int))) (b : (List (List Int))) {p : Option Addr} {c : Nat} {p_1 : Option Addr} {c_1 : Nat} (hs : SRc (C_sl C_int) D0 av p c) (hs_1 : SRc (C_sl C_int) D0 b p_1 c_1) (out : Bool) (h : r0AlikeRows av b = some out) : Calls Tryd.prog 17 [.slice p av.length c, .slice p_1 b.length c_1].toArray w0 (RetP D0 w0 (.bool out)) := by
 refine enter _ 31 Tryd.func17 rfl Tryd.ntmps17 rfl fun a hF => ?_
 replace hF : Frm 31 [] [(0, .slice p av.length c), (1, .slice p_1 b.length c_1)] a := hF
 have hS := St.start hD
 unfold r0AlikeRows at h
 refine seq (region (step hF (Y.assign hF rfl) rfl fun a hF => nil (then_n (seq (region (step hF (Y.move hF rfl) rfl fun a hF => step hF (Y.lenSl u_26 hF rfl) rfl fun a hF => step hF (Y.move hF rfl) rfl fun a hF => step hF (Y.lenSl u_26 hF rfl) rfl fun a hF => step hF (Y.eql hF rfl rfl) rfl fun a hF => step hF (Y.assign hF rfl) rfl fun a hF => nil (then_n (seq (seq (region (step hF (Y.assign hF rfl) rfl fun a hF => nil (then_n (block (loop_cut (body := r0AlikeRows_b1 av b) (out := out) (fun s a w => ∃ (same : Bool) (i : Int), ∃ (Dv : Stab), s = (same, i) ∧ D0.le Dv ∧ Frm 31 [] [(0, .slice p av.length c), (1, .slice p_1 b.length c_1), (4, .bool false), (5, .bool same), (6, .int .i64 i)] a ∧ St w0 D0 Dv [] w) ((av.length : Int) == (b.length : Int), 0) h ⟨((av.length : Int) == (b.length : Int)), 0, D0, rfl, Stab.le.refl _, hF.weak ⟨rfl, rfl, rfl, rfl, rfl, trivial⟩, hS.weak trivial⟩ ?_))))))))))))))
 rintro s a w xo ⟨same, i, Dv, rfl, hlev, hF, hS⟩ h hxo
 unfold r0AlikeRows_b1 at h
 dsimp only at h
 replace hs := hs.mono hlev
 replace hs_1 := hs_1.mono hlev
 refine seq (seq (region (step hF (Y.move hF rfl) rfl fun a hF => step hF (Y.move hF rfl) rfl fun a hF => join (N := 31) (rs := []) (w0 := w0) (D0 := D0) 5 (us := [(0, .slice p av.length c), (1, .slice p_1 b.length c_1), (4, .bool false), (5, .bool same), (6, .int .i64 i), (18, .bool (same && (decide (i < (av.length : Int)))))]) (ms := []) (D' := Dv) ?_ ?_)))
 ·rcases bcases same with hbv | hbv
  ·skip
   refine guard_on hF rfl rfl hbv (step hF (Y.move hF rfl) rfl fun a hF => guard_on hF rfl rfl hbv (step hF (Y.move hF rfl) rfl fun a hF => guard_on hF rfl rfl hbv (step hF (Y.lenSl u_26 hF rfl) rfl fun a hF => guard_on hF rfl rfl hbv (step hF (Y.lss hF rfl rfl) rfl fun a hF => step hF (Y.pick_t hF rfl hbv rfl) rfl fun a hF => nil (then_n ⟨hF.weak ⟨rfl, rfl, rfl, rfl, rfl, (by rw [hbv]; rfl), trivial⟩, hS.weak trivial⟩)))))
  refine guard_off hF rfl rfl hbv rfl fun a hF => guard_off hF rfl rfl hbv rfl fun a hF => guard_off hF rfl rfl hbv rfl fun a hF => guard_off hF rfl rfl hbv rfl fun a hF => step hF (Y.pick_f hF rfl hbv rfl) rfl fun a hF => nil (then_n ⟨hF.weak ⟨rfl, rfl, rfl, rfl, rfl, (by rw [hbv]; rfl), trivial⟩, hS.weak trivial⟩)
 intro a w hF hS
 refine nil (then_n (cond_b hF rfl (fun hbv_1 => ?_) (fun hbv_1 => ?_)))
 ·replace h := cond_t h hbv_1
  refine skip_ (then_n (seq (block ?_)))
  obtain ⟨e, hx, h⟩ := bind_some h
  obtain ⟨e_1, hx_1, h⟩ := bind_some h
  refine drawsV 8 (.flt 0 (.flt 1 (.flt 2 (.flt 3 (.flt 4 (.flt 5 (.flt 6 (.flt 7 .done)))))))) mixed_ (by kernel_rfl) (fun w => St w0 D0 Dv [] w) (fun a w => ∃ (p_2 : Option Addr) (c_2 : Nat) (p_3 : Option Addr) (c_3 : Nat), Frm 31 [] [(0, .slice p av.length c), (1, .slice p_1 b.length c_1), (4, .bool false), (5, .bool same), (6, .int .i64 i), (24, .slice p_2 e.length c_2), (28, .slice p_3 e_1.length c_3)] a ∧ St w0 D0 Dv [] w ∧ SRc C_int Dv e p_2 c_2 ∧ SRc C_int Dv e_1 p_3 c_3) (hS.weak (ms := []) trivial).drew (fun _ _ _ _ h => h) ?_ ?_
  ·replace hS := hS.drew
   have hle0 := hS.le
   refine stepV (i := 0) rfl hF (fun w hS => Y.move hF rfl) rfl fun a hF => stepV (i := 1) rfl hF (fun w hS => Y.move hF rfl) rfl fun a hF => ?_
   obtain ⟨b_3, o_2, hE_2, hY_2⟩ := Y.indexS (P := Tryd.prog) (C := (C_sl C_int)) (xs := av) (T := 26) (x := (.tmp 21)) (y := (.tmp 22)) u_26 sz_32 hF rfl rfl (hs).1 hx
   obtain ⟨cc_2, hc_2, hcell_2⟩ := hE_2.open
   obtain ⟨p_4, c_4, rfl, hs_4⟩ := hc_2
   refine stepV (i := 2) rfl hF (fun w hS => hY_2) rfl fun a hF => stepV (i := 3) rfl hF (fun w hS => Y.load1 sz_32 hF rfl (hcell_2 _ hS.stab 0 _ rfl)) rfl fun a hF => stepV (i := 4) rfl hF (fun w hS => Y.move hF rfl) rfl fun a hF => stepV (i := 5) rfl hF (fun w hS => Y.move hF rfl) rfl fun a hF => ?_
   obtain ⟨b_4, o_3, hE_3, hY_3⟩ := Y.indexS (P := Tryd.prog) (C := (C_sl C_int)) (xs := b) (T := 26) (x := (.tmp 25)) (y := (.tmp 26)) u_26 sz_32 hF rfl rfl (hs_1).1 hx_1
   obtain ⟨cc_3, hc_3, hcell_3⟩ := hE_3.open
   obtain ⟨p_5, c_5, rfl, hs_5⟩ := hc_3
   refine stepV (i := 6) rfl hF (fun w hS => hY_3) rfl fun a hF => stepV (i := 7) rfl hF (fun w hS => Y.load1 sz_32 hF rfl (hcell_3 _ hS.stab 0 _ rfl)) rfl fun a hF => toTailV ⟨p_4, c_4, p_5, c_5, hF.weak ⟨rfl, rfl, rfl, rfl, rfl, rfl, rfl, trivial⟩, hS.weak trivial, hs_4, hs_5⟩
  rintro a w ⟨p_2, c_2, p_3, c_3, hF, hS, hj, hj_1⟩
  obtain ⟨rv, hx_2, h⟩ := bind_some h
  refine O.callP (us := [.slice p_2 e.length c_2, .slice p_3 e_1.length c_3]) ca_22 hF hS (r0Alike_ok hS.stab e e_1 hj hj_1 rv hx_2) rfl rfl fun a w hF hS => step hF (Y.assign hF rfl) rfl fun a hF => nil (blk_n (then_n (region (step hF (Y.move hF rfl) rfl fun a hF => step hF (Y.add hF rfl rfl) rfl fun a hF => step hF (Y.assign hF rfl) rfl fun a hF => nil (then_n (⟨_, nxt_some h, rv, (wr (i + 1)), Dv, rfl, hlev, hF.weak ⟨rfl, rfl, rfl, rfl, rfl, trivial⟩, hS.weak trivial⟩))))))
 replace h := cond_f h hbv_1
 refine exit_ (then_x (then_x (blk_hit (then_n ?_))))
 replace h := ext_some h hxo
 refine seq (region (step hF (Y.move hF rfl) rfl fun a hF => step hF (Y.assign hF rfl) rfl fun a hF => nil (then_n (ret_ ?_))))
 obtain rfl := some_inj h
 exact leaveP Tryd.results17 hF hS (.cons (.tmp rfl) .nil) .nil rfl
noncomputable def r0In (set : Int) (k : Int) : Option Bool :=
  if ¬ k < 0 then
  some ((bitsOp .and (gshr set k) 1) == 1)
  else none
noncomputable def line_lies (n : Int) (least : Int) (most : Int) : Option Bool :=
  some ((decide (least ≤ n)) && (decide (n ≤ most)))
theorem line_lies_ok {w0 : World} {D0 : Stab} (hD : D0.on w0) (n : Int) (least : Int) (most : Int) (out : Bool) (h : line_lies n least most = some out) : Calls Tryd.prog 62 [.int .i64 n, .int .i64 least, .int .i64 most].toArray w0 (RetP D0 w0 (.bool out)) := by
 refine enter _ 15 Tryd.func62 rfl Tryd.ntmps62 rfl fun a hF => ?_
 replace hF : Frm 15 [] [(0, .int .i64 n), (1, .int .i64 least), (2, .int .i64 most)] a := hF
 have hS := St.start hD
 unfold line_lies at h
 refine seq (region (step hF (Y.assign hF rfl) rfl fun a hF => nil (then_n (seq (region (step hF (Y.move hF rfl) rfl fun a hF => step hF (Y.move hF rfl) rfl fun a hF => step hF (Y.leq hF rfl rfl) rfl fun a hF => step hF (Y.move hF rfl) rfl fun a hF => join (N := 15) (rs := []) (w0 := w0) (D0 := D0) 4 (us := [(6, .bool false), (14, .bool ((decide (least ≤ n)) && (decide (n ≤ most))))]) (ms := []) (D' := D0) ?_ ?_))))))
 ·rcases bcases (decide (least ≤ n)) with hbv | hbv
  ·skip
   refine guard_on hF rfl rfl hbv (step hF (Y.move hF rfl) rfl fun a hF => guard_on hF rfl rfl hbv (step hF (Y.move hF rfl) rfl fun a hF => guard_on hF rfl rfl hbv (step hF (Y.leq hF rfl rfl) rfl fun a hF => step hF (Y.pick_t hF rfl hbv rfl) rfl fun a hF => nil (then_n ⟨hF.weak ⟨rfl, (by rw [hbv]; rfl), trivial⟩, hS.weak trivial⟩))))
  refine guard_off hF rfl rfl hbv rfl fun a hF => guard_off hF rfl rfl hbv rfl fun a hF => guard_off hF rfl rfl hbv rfl fun a hF => step hF (Y.pick_f hF rfl hbv rfl) rfl fun a hF => nil (then_n ⟨hF.weak ⟨rfl, (by rw [hbv]; rfl), trivial⟩, hS.weak trivial⟩)
 intro a w hF hS
 refine step hF (Y.assign hF rfl) rfl fun a hF => nil (then_n (ret_ ?_))
 obtain rfl := some_inj h
 exact leaveP Tryd.results62 hF hS (.cons (.tmp rfl) .nil) .nil rfl
noncomputable def line_isSpan (sv : Span) (most : Int) : Option Bool :=
  some (((decide (0 ≤ sv.Low)) && (decide (sv.Low ≤ sv.High))) && (decide (sv.High ≤ most)))
theorem line_isSpan_ok {w0 : World} {D0 : Stab} (hD : D0.on w0) (sv : Span) (most : Int) (out : Bool) (h : line_isSpan sv most = some out) : Calls Tryd.prog 63 [.agg #[.int .i64 sv.Low, .int .i64 sv.High], .int .i64 most].toArray w0 (RetP D0 w0 (.bool out)) := by
 refine enter _ 21 Tryd.func63 rfl Tryd.ntmps63 rfl fun a hF => ?_
 replace hF : Frm 21 [] [(0, .agg #[.int .i64 sv.Low, .int .i64 sv.High]), (1, .int .i64 most)] a := hF
 have hS := St.start hD
 unfold line_isSpan at h
 refine seq (region (O.box (cs := [.int .i64 sv.Low, .int .i64 sv.High]) 1 hF rfl rfl hS rfl fun b a w hF hS => step hF (Y.assign hF rfl) rfl fun a hF => nil (then_n (seq (region (step hF (Y.fieldAddr fo_40_0 hF rfl) rfl fun a hF => step hF (Y.load1L 1 sz_3 hF rfl hS rfl rfl) rfl fun a hF => step hF (Y.leq hF rfl rfl) rfl fun a hF => step hF (Y.move hF rfl) rfl fun a hF => join (N := 21) (rs := []) (w0 := w0) (D0 := D0) 6 (us := [(1, .int .i64 most), (2, .pointer (some ⟨b, 0, none⟩)), (4, .bool false), (14, .bool ((decide (0 ≤ sv.Low)) && (decide (sv.Low ≤ sv.High))))]) (ms := [(1, .cells b [.int .i64 sv.Low, .int .i64 sv.High] 40)]) (D' := D0) ?_ ?_))))))
 ·rcases bcases (decide (0 ≤ sv.Low)) with hbv | hbv
  ·skip
   refine guard_on hF rfl rfl hbv (step hF (Y.fieldAddr fo_40_0 hF rfl) rfl fun a hF => guard_on hF rfl rfl hbv (step hF (Y.load1L 1 sz_3 hF rfl hS rfl rfl) rfl fun a hF => guard_on hF rfl rfl hbv (step hF (Y.fieldAddr fo_40_1 hF rfl) rfl fun a hF => guard_on hF rfl rfl hbv (step hF (Y.load1L 1 sz_3 hF rfl hS rfl rfl) rfl fun a hF => guard_on hF rfl rfl hbv (step hF (Y.leq hF rfl rfl) rfl fun a hF => step hF (Y.pick_t hF rfl hbv rfl) rfl fun a hF => nil (then_n ⟨hF.weak ⟨rfl, rfl, rfl, (by rw [hbv]; rfl), trivial⟩, hS.weak ⟨rfl, trivial⟩⟩))))))
  refine guard_off hF rfl rfl hbv rfl fun a hF => guard_off hF rfl rfl hbv rfl fun a hF => guard_off hF rfl rfl hbv rfl fun a hF => guard_off hF rfl rfl hbv rfl fun a hF => guard_off hF rfl rfl hbv rfl fun a hF => step hF (Y.pick_f hF rfl hbv rfl) rfl fun a hF => nil (then_n ⟨hF.weak ⟨rfl, rfl, rfl, (by rw [hbv]; rfl), trivial⟩, hS.weak ⟨rfl, trivial⟩⟩)
 intro a w hF hS
 refine step hF (Y.move hF rfl) rfl fun a hF => join (N := 21) (rs := []) (w0 := w0) (D0 := D0) 5 (us := [(4, .bool false), (20, .bool (((decide (0 ≤ sv.Low)) && (decide (sv.Low ≤ sv.High))) && (decide (sv.High ≤ most))))]) (ms := [(1, .cells b [.int .i64 sv.Low, .int .i64 sv.High] 40)]) (D' := D0) ?_ ?_
 ·rcases bcases ((decide (0 ≤ sv.Low)) && (decide (sv.Low ≤ sv.High))) with hbv_1 | hbv_1
  ·skip
   refine guard_on hF rfl rfl hbv_1 (step hF (Y.fieldAddr fo_40_1 hF rfl) rfl fun a hF => guard_on hF rfl rfl hbv_1 (step hF (Y.load1L 1 sz_3 hF rfl hS rfl rfl) rfl fun a hF => guard_on hF rfl rfl hbv_1 (step hF (Y.move hF rfl) rfl fun a hF => guard_on hF rfl rfl hbv_1 (step hF (Y.leq hF rfl rfl) rfl fun a hF => step hF (Y.pick_t hF rfl hbv_1 rfl) rfl fun a hF => nil (then_n ⟨hF.weak ⟨rfl, (by rw [hbv_1]; rfl), trivial⟩, hS.weak ⟨rfl, trivial⟩⟩)))))
  refine guard_off hF rfl rfl hbv_1 rfl fun a hF => guard_off hF rfl rfl hbv_1 rfl fun a hF => guard_off hF rfl rfl hbv_1 rfl fun a hF => guard_off hF rfl rfl hbv_1 rfl fun a hF => step hF (Y.pick_f hF rfl hbv_1 rfl) rfl fun a hF => nil (then_n ⟨hF.weak ⟨rfl, (by rw [hbv_1]; rfl), trivial⟩, hS.weak ⟨rfl, trivial⟩⟩)
 intro a w hF hS
 refine step hF (Y.assign hF rfl) rfl fun a hF => nil (then_n (ret_ ?_))
 obtain rfl := some_inj h
 exact leaveP Tryd.results63 hF hS (.cons (.tmp rfl) .nil) .nil rfl
noncomputable def line_Check_b2 (n : LineNet) : (Bool × Int) → Option ((Bool × Int) ⊕ Int)
 | (ok_1, v68_0) =>
  cond (decide (v68_0 < (n.Loops.length : Int)))
  ((idx n.Loops v68_0).bind fun e_1 =>
  (cond ok_1 ((line_lies e_1.Exchange 0 (wr (n.Exchanges - 1))).bind fun rv_5 =>
  some rv_5) (some false)).bind fun t_4 =>
  (cond t_4 ((line_isSpan e_1.Read 12000).bind fun rv_6 =>
  some rv_6) (some false)).bind fun t_5 =>
  nxt (t_5, wr (v68_0 + 1)))
  (ext (cond (!ok_1)
  (some 60)
  (some 0)))
noncomputable def line_Check_b1 (n : LineNet) : (Bool × Int) → Option ((Bool × Int) ⊕ Int)
 | (ok, v31_0) =>
  cond (decide (v31_0 < (n.Lines.length : Int)))
  ((idx n.Lines v31_0).bind fun e =>
  (cond ok ((line_lies e.From 0 (wr (n.Exchanges - 1))).bind fun rv_2 =>
  some rv_2) (some false)).bind fun t_1 =>
  (cond t_1 ((line_lies e.To 0 (wr (n.Exchanges - 1))).bind fun rv_3 =>
  some rv_3) (some false)).bind fun t_2 =>
  (cond (t_2 && (e.From != e.To)) ((line_isSpan e.Delay 1000).bind fun rv_4 =>
  some rv_4) (some false)).bind fun t_3 =>
  nxt (t_3, wr (v31_0 + 1)))
  (ext (loopU (line_Check_b2 n) (ok, 0)))
noncomputable def line_Check (n : LineNet) : Option Int :=
  (line_lies n.Exchanges 1 7).bind fun rv =>
  (cond (rv && (decide ((n.Lines.length : Int) ≤ 12))) ((line_lies n.Hops 1 6).bind fun rv_1 =>
  some rv_1) (some false)).bind fun t =>
  loopU (line_Check_b1 n) ((t && (decide ((n.Loops.length : Int) ≤ 10))), 0)
theorem line_Check_ok {w0 : World} {D0 : Stab} (hD : D0.on w0) (n : LineNet) {p : Option Addr} {c : Nat} {p_1 : Option Addr} {c_1 : Nat} (hs : SRc C_LineLine D0 n.Lines p c) (hs_1 : SRc C_LineLoop D0 n.Loops p_1 c_1) (out : Int) (h : line_Check n = some out) : Calls Tryd.prog 18 [.agg #[.int .i64 n.Exchanges, .slice p n.Lines.length c, .int .i64 n.Hops, .slice p_1 n.Loops.length c_1]].toArray w0 (RetP D0 w0 (.int .i64 out)) := by
 refine enter _ 89 Tryd.func18 rfl Tryd.ntmps18 rfl fun a hF => ?_
 replace hF : Frm 89 [] [(0, .agg #[.int .i64 n.Exchanges, .slice p n.Lines.length c, .int .i64 n.Hops, .slice p_1 n.Loops.length c_1])] a := hF
 have hS := St.start hD
 unfold line_Check at h
 refine seq (region (O.box (cs := [.int .i64 n.Exchanges, .slice p n.Lines.length c, .int .i64 n.Hops, .slice p_1 n.Loops.length c_1]) 1 hF rfl rfl hS rfl fun b a w hF hS => step hF (Y.assign hF rfl) rfl fun a hF => nil (then_n (seq (region (step hF (Y.fieldAddr fo_25_0 hF rfl) rfl fun a hF => step hF (Y.load1L 1 sz_3 hF rfl hS rfl rfl) rfl fun a hF => ?_))))))
 obtain ⟨rv, hx, h⟩ := bind_some h
 refine O.callP (us := [.int .i64 n.Exchanges, .int .i64 1, .int .i64 7]) ca_62 hF hS (line_lies_ok hS.stab n.Exchanges 1 7 rv hx) rfl rfl fun a w hF hS => step hF (Y.move hF rfl) rfl fun a hF => join (N := 89) (rs := []) (w0 := w0) (D0 := D0) 5 (us := [(1, .pointer (some ⟨b, 0, none⟩)), (2, .int .i64 0), (16, .bool (rv && (decide ((n.Lines.length : Int) ≤ 12))))]) (ms := [(1, .cells b [.int .i64 n.Exchanges, .slice p n.Lines.length c, .int .i64 n.Hops, .slice p_1 n.Loops.length c_1] 25)]) (D' := D0) ?_ ?_
 ·rcases bcases rv with hbv | hbv
  ·skip
   refine guard_on hF rfl rfl hbv (step hF (Y.fieldAddr fo_25_1 hF rfl) rfl fun a hF => guard_on hF rfl rfl hbv (step hF (Y.load1L 1 sz_22 hF rfl hS rfl rfl) rfl fun a hF => guard_on hF rfl rfl hbv (step hF (Y.lenSl u_22 hF rfl) rfl fun a hF => guard_on hF rfl rfl hbv (step hF (Y.leq hF rfl rfl) rfl fun a hF => step hF (Y.pick_t hF rfl hbv rfl) rfl fun a hF => nil (then_n ⟨hF.weak ⟨rfl, rfl, (by rw [hbv]; rfl), trivial⟩, hS.weak ⟨rfl, trivial⟩⟩)))))
  refine guard_off hF rfl rfl hbv rfl fun a hF => guard_off hF rfl rfl hbv rfl fun a hF => guard_off hF rfl rfl hbv rfl fun a hF => guard_off hF rfl rfl hbv rfl fun a hF => step hF (Y.pick_f hF rfl hbv rfl) rfl fun a hF => nil (then_n ⟨hF.weak ⟨rfl, rfl, (by rw [hbv]; rfl), trivial⟩, hS.weak ⟨rfl, trivial⟩⟩)
 intro a w hF hS
 refine step hF (Y.move hF rfl) rfl fun a hF => ?_
 obtain ⟨t, ht, h⟩ := bind_some h
 refine join (N := 89) (rs := []) (w0 := w0) (D0 := D0) 4 (us := [(1, .pointer (some ⟨b, 0, none⟩)), (2, .int .i64 0), (21, .bool t)]) (ms := [(1, .cells b [.int .i64 n.Exchanges, .slice p n.Lines.length c, .int .i64 n.Hops, .slice p_1 n.Loops.length c_1] 25)]) (D' := D0) ?_ ?_
 ·rcases bcases (rv && (decide ((n.Lines.length : Int) ≤ 12))) with hbv_1 | hbv_1
  ·skip
   replace h := cond_t ht hbv_1
   refine guard_on hF rfl rfl hbv_1 (step hF (Y.fieldAddr fo_25_2 hF rfl) rfl fun a hF => guard_on hF rfl rfl hbv_1 (step hF (Y.load1L 1 sz_3 hF rfl hS rfl rfl) rfl fun a hF => guard_on hF rfl rfl hbv_1 ?_))
   obtain ⟨rv_1, hx_1, h⟩ := bind_some h
   refine O.callP (us := [.int .i64 n.Hops, .int .i64 1, .int .i64 6]) ca_62 hF hS (line_lies_ok hS.stab n.Hops 1 6 rv_1 hx_1) rfl rfl fun a w hF hS => step hF (Y.pick_t hF rfl hbv_1 rfl) rfl fun a hF => ?_
   obtain rfl := some_inj h
   exact nil (then_n ⟨hF.weak ⟨rfl, rfl, rfl, trivial⟩, hS.weak ⟨rfl, trivial⟩⟩)
  replace h := cond_f ht hbv_1
  refine guard_off hF rfl rfl hbv_1 rfl fun a hF => guard_off hF rfl rfl hbv_1 rfl fun a hF => guard_off hF rfl rfl hbv_1 rfl fun a hF => step hF (Y.pick_f hF rfl hbv_1 rfl) rfl fun a hF => ?_
  obtain rfl := some_inj h
  exact nil (then_n ⟨hF.weak ⟨rfl, rfl, rfl, trivial⟩, hS.weak ⟨rfl, trivial⟩⟩)
 intro a w hF hS
 refine step hF (Y.move hF rfl) rfl fun a hF => join (N := 89) (rs := []) (w0 := w0) (D0 := D0) 5 (us := [(1, .pointer (some ⟨b, 0, none⟩)), (2, .int .i64 0), (27, .bool (t && (decide ((n.Loops.length : Int) ≤ 10))))]) (ms := [(1, .cells b [.int .i64 n.Exchanges, .slice p n.Lines.length c, .int .i64 n.Hops, .slice p_1 n.Loops.length c_1] 25)]) (D' := D0) ?_ ?_
 ·rcases bcases t with hbv_2 | hbv_2
  ·skip
   refine guard_on hF rfl rfl hbv_2 (step hF (Y.fieldAddr fo_25_3 hF rfl) rfl fun a hF => guard_on hF rfl rfl hbv_2 (step hF (Y.load1L 1 sz_23 hF rfl hS rfl rfl) rfl fun a hF => guard_on hF rfl rfl hbv_2 (step hF (Y.lenSl u_23 hF rfl) rfl fun a hF => guard_on hF rfl rfl hbv_2 (step hF (Y.leq hF rfl rfl) rfl fun a hF => step hF (Y.pick_t hF rfl hbv_2 rfl) rfl fun a hF => nil (then_n ⟨hF.weak ⟨rfl, rfl, (by rw [hbv_2]; rfl), trivial⟩, hS.weak ⟨rfl, trivial⟩⟩)))))
  refine guard_off hF rfl rfl hbv_2 rfl fun a hF => guard_off hF rfl rfl hbv_2 rfl fun a hF => guard_off hF rfl rfl hbv_2 rfl fun a hF => guard_off hF rfl rfl hbv_2 rfl fun a hF => step hF (Y.pick_f hF rfl hbv_2 rfl) rfl fun a hF => nil (then_n ⟨hF.weak ⟨rfl, rfl, (by rw [hbv_2]; rfl), trivial⟩, hS.weak ⟨rfl, trivial⟩⟩)
 intro a w hF hS
 refine step hF (Y.assign hF rfl) rfl fun a hF => nil (then_n (seq (seq (region (step hF (Y.fieldAddr fo_25_1 hF rfl) rfl fun a hF => step hF (Y.load1L 1 sz_22 hF rfl hS rfl rfl) rfl fun a hF => step hF (Y.lenSl u_22 hF rfl) rfl fun a hF => step hF (Y.move hF rfl) rfl fun a hF => nil (then_n (block (loop_cut (body := line_Check_b1 n) (out := out) (fun s a w => ∃ (ok : Bool) (v31_0 : Int), s = (ok, v31_0) ∧ Frm 89 [] [(1, .pointer (some ⟨b, 0, none⟩)), (2, .int .i64 0), (3, .bool ok), (29, .slice p n.Lines.length c), (30, .int .i64 (n.Lines.length : Int)), (31, .int .i64 v31_0)] a ∧ St w0 D0 D0 [(1, .cells b [.int .i64 n.Exchanges, .slice p n.Lines.length c, .int .i64 n.Hops, .slice p_1 n.Loops.length c_1] 25)] w) ((t && (decide ((n.Loops.length : Int) ≤ 10))), 0) h ⟨(t && (decide ((n.Loops.length : Int) ≤ 10))), 0, rfl, hF.weak ⟨rfl, rfl, rfl, rfl, rfl, rfl, trivial⟩, hS.weak ⟨rfl, trivial⟩⟩ ?_))))))))
 rintro s a w xo ⟨ok, v31_0, rfl, hF, hS⟩ h hxo
 unfold line_Check_b1 at h
 dsimp only at h
 refine seq (region (step hF (Y.lss hF rfl rfl) rfl fun a hF => nil (then_n (seq (cond_b hF rfl (fun hbv_3 => ?_) (fun hbv_3 => ?_))))))
 ·replace h := cond_t h hbv_3
  refine skip_ (then_n (seq (block (seq (region ?_)))))
  obtain ⟨e, hx_2, h⟩ := bind_some h
  obtain ⟨b_1, o, hE, hY⟩ := Y.indexS (P := Tryd.prog) (C := C_LineLine) (xs := n.Lines) (T := 22) (x := (.tmp 29)) (y := (.tmp 31)) u_22 sz_68 hF rfl rfl (hs).1 hx_2
  obtain ⟨cc, hc, hcell⟩ := hE.open
  obtain rfl := C_LineLine.open hc
  refine step hF (hY) rfl fun a hF => step hF (Y.loadNE (o := o) (k := 0) sz_68 hF rfl (hcell _ hS.stab) rfl rfl) rfl fun a hF => O.alloc 2 zc_68 hF hS rfl fun b_2 a w hF hS => O.store (us := [.int .i64 e.From, .int .i64 e.To, .int .i64 e.Delay.Low, .int .i64 e.Delay.High]) 2 sz_68 hF rfl rfl rfl rfl hS rfl rfl fun a w hF hS => nil (then_n (region (step hF (Y.move hF rfl) rfl fun a hF => step hF (Y.move hF rfl) rfl fun a hF => ?_)))
  obtain ⟨t_1, ht_1, h⟩ := bind_some h
  refine join (N := 89) (rs := []) (w0 := w0) (D0 := D0) 7 (us := [(1, .pointer (some ⟨b, 0, none⟩)), (2, .int .i64 0), (3, .bool ok), (5, .pointer (some ⟨b_2, 0, none⟩)), (29, .slice p n.Lines.length c), (30, .int .i64 (n.Lines.length : Int)), (31, .int .i64 v31_0), (43, .bool t_1)]) (ms := [(1, .cells b [.int .i64 n.Exchanges, .slice p n.Lines.length c, .int .i64 n.Hops, .slice p_1 n.Loops.length c_1] 25), (2, .cells b_2 [.int .i64 e.From, .int .i64 e.To, .int .i64 e.Delay.Low, .int .i64 e.Delay.High] 68)]) (D' := D0) ?_ ?_
  ·rcases bcases ok with hbv_4 | hbv_4
   ·skip
    replace h := cond_t ht_1 hbv_4
    refine guard_on hF rfl rfl hbv_4 (step hF (Y.fieldAddr fo_68_0 hF rfl) rfl fun a hF => guard_on hF rfl rfl hbv_4 (step hF (Y.load1L 2 sz_3 hF rfl hS rfl rfl) rfl fun a hF => guard_on hF rfl rfl hbv_4 (step hF (Y.fieldAddr fo_25_0 hF rfl) rfl fun a hF => guard_on hF rfl rfl hbv_4 (step hF (Y.load1L 1 sz_3 hF rfl hS rfl rfl) rfl fun a hF => guard_on hF rfl rfl hbv_4 (step hF (Y.sub hF rfl rfl) rfl fun a hF => guard_on hF rfl rfl hbv_4 ?_)))))
    obtain ⟨rv_2, hx_3, h⟩ := bind_some h
    refine O.callP (us := [.int .i64 e.From, .int .i64 0, .int .i64 (wr (n.Exchanges - 1))]) ca_62 hF hS (line_lies_ok hS.stab e.From 0 (wr (n.Exchanges - 1)) rv_2 hx_3) rfl rfl fun a w hF hS => step hF (Y.pick_t hF rfl hbv_4 rfl) rfl fun a hF => ?_
    obtain rfl := some_inj h
    exact nil (then_n ⟨hF.weak ⟨rfl, rfl, rfl, rfl, rfl, rfl, rfl, rfl, trivial⟩, hS.weak ⟨rfl, rfl, trivial⟩⟩)
   replace h := cond_f ht_1 hbv_4
   refine guard_off hF rfl rfl hbv_4 rfl fun a hF => guard_off hF rfl rfl hbv_4 rfl fun a hF => guard_off hF rfl rfl hbv_4 rfl fun a hF => guard_off hF rfl rfl hbv_4 rfl fun a hF => guard_off hF rfl rfl hbv_4 rfl fun a hF => guard_off hF rfl rfl hbv_4 rfl fun a hF => step hF (Y.pick_f hF rfl hbv_4 rfl) rfl fun a hF => ?_
   obtain rfl := some_inj h
   exact nil (then_n ⟨hF.weak ⟨rfl, rfl, rfl, rfl, rfl, rfl, rfl, rfl, trivial⟩, hS.weak ⟨rfl, rfl, trivial⟩⟩)
  intro a w hF hS
  refine step hF (Y.move hF rfl) rfl fun a hF => ?_
  obtain ⟨t_2, ht_2, h⟩ := bind_some h
  refine join (N := 89) (rs := []) (w0 := w0) (D0 := D0) 7 (us := [(1, .pointer (some ⟨b, 0, none⟩)), (2, .int .i64 0), (3, .bool ok), (5, .pointer (some ⟨b_2, 0, none⟩)), (29, .slice p n.Lines.length c), (30, .int .i64 (n.Lines.length : Int)), (31, .int .i64 v31_0), (51, .bool t_2)]) (ms := [(1, .cells b [.int .i64 n.Exchanges, .slice p n.Lines.length c, .int .i64 n.Hops, .slice p_1 n.Loops.length c_1] 25), (2, .cells b_2 [.int .i64 e.From, .int .i64 e.To, .int .i64 e.Delay.Low, .int .i64 e.Delay.High] 68)]) (D' := D0) ?_ ?_
  ·rcases bcases t_1 with hbv_5 | hbv_5
   ·skip
    replace h := cond_t ht_2 hbv_5
    refine guard_on hF rfl rfl hbv_5 (step hF (Y.fieldAddr fo_68_1 hF rfl) rfl fun a hF => guard_on hF rfl rfl hbv_5 (step hF (Y.load1L 2 sz_3 hF rfl hS rfl rfl) rfl fun a hF => guard_on hF rfl rfl hbv_5 (step hF (Y.fieldAddr fo_25_0 hF rfl) rfl fun a hF => guard_on hF rfl rfl hbv_5 (step hF (Y.load1L 1 sz_3 hF rfl hS rfl rfl) rfl fun a hF => guard_on hF rfl rfl hbv_5 (step hF (Y.sub hF rfl rfl) rfl fun a hF => guard_on hF rfl rfl hbv_5 ?_)))))
    obtain ⟨rv_3, hx_4, h⟩ := bind_some h
    refine O.callP (us := [.int .i64 e.To, .int .i64 0, .int .i64 (wr (n.Exchanges - 1))]) ca_62 hF hS (line_lies_ok hS.stab e.To 0 (wr (n.Exchanges - 1)) rv_3 hx_4) rfl rfl fun a w hF hS => step hF (Y.pick_t hF rfl hbv_5 rfl) rfl fun a hF => ?_
    obtain rfl := some_inj h
    exact nil (then_n ⟨hF.weak ⟨rfl, rfl, rfl, rfl, rfl, rfl, rfl, rfl, trivial⟩, hS.weak ⟨rfl, rfl, trivial⟩⟩)
   replace h := cond_f ht_2 hbv_5
   refine guard_off hF rfl rfl hbv_5 rfl fun a hF => guard_off hF rfl rfl hbv_5 rfl fun a hF => guard_off hF rfl rfl hbv_5 rfl fun a hF => guard_off hF rfl rfl hbv_5 rfl fun a hF => guard_off hF rfl rfl hbv_5 rfl fun a hF => guard_off hF rfl rfl hbv_5 rfl fun a hF => step hF (Y.pick_f hF rfl hbv_5 rfl) rfl fun a hF => ?_
   obtain rfl := some_inj h
   exact nil (then_n ⟨hF.weak ⟨rfl, rfl, rfl, rfl, rfl, rfl, rfl, rfl, trivial⟩, hS.weak ⟨rfl, rfl, trivial⟩⟩)
  intro a w hF hS
  refine step hF (Y.move hF rfl) rfl fun a hF => join (N := 89) (rs := []) (w0 := w0) (D0 := D0) 6 (us := [(1, .pointer (some ⟨b, 0, none⟩)), (2, .int .i64 0), (3, .bool ok), (5, .pointer (some ⟨b_2, 0, none⟩)), (29, .slice p n.Lines.length c), (30, .int .i64 (n.Lines.length : Int)), (31, .int .i64 v31_0), (58, .bool (t_2 && (e.From != e.To)))]) (ms := [(1, .cells b [.int .i64 n.Exchanges, .slice p n.Lines.length c, .int .i64 n.Hops, .slice p_1 n.Loops.length c_1] 25), (2, .cells b_2 [.int .i64 e.From, .int .i64 e.To, .int .i64 e.Delay.Low, .int .i64 e.Delay.High] 68)]) (D' := D0) ?_ ?_
  ·rcases bcases t_2 with hbv_6 | hbv_6
   ·skip
    refine guard_on hF rfl rfl hbv_6 (step hF (Y.fieldAddr fo_68_0 hF rfl) rfl fun a hF => guard_on hF rfl rfl hbv_6 (step hF (Y.load1L 2 sz_3 hF rfl hS rfl rfl) rfl fun a hF => guard_on hF rfl rfl hbv_6 (step hF (Y.fieldAddr fo_68_1 hF rfl) rfl fun a hF => guard_on hF rfl rfl hbv_6 (step hF (Y.load1L 2 sz_3 hF rfl hS rfl rfl) rfl fun a hF => guard_on hF rfl rfl hbv_6 (step hF (Y.neq hF rfl rfl) rfl fun a hF => step hF (Y.pick_t hF rfl hbv_6 rfl) rfl fun a hF => nil (then_n ⟨hF.weak ⟨rfl, rfl, rfl, rfl, rfl, rfl, rfl, (by rw [hbv_6]; rfl), trivial⟩, hS.weak ⟨rfl, rfl, trivial⟩⟩))))))
   refine guard_off hF rfl rfl hbv_6 rfl fun a hF => guard_off hF rfl rfl hbv_6 rfl fun a hF => guard_off hF rfl rfl hbv_6 rfl fun a hF => guard_off hF rfl rfl hbv_6 rfl fun a hF => guard_off hF rfl rfl hbv_6 rfl fun a hF => step hF (Y.pick_f hF rfl hbv_6 rfl) rfl fun a hF => nil (then_n ⟨hF.weak ⟨rfl, rfl, rfl, rfl, rfl, rfl, rfl, (by rw [hbv_6]; rfl), trivial⟩, hS.weak ⟨rfl, rfl, trivial⟩⟩)
  intro a w hF hS
  refine step hF (Y.move hF rfl) rfl fun a hF => ?_
  obtain ⟨t_3, ht_3, h⟩ := bind_some h
  refine join (N := 89) (rs := []) (w0 := w0) (D0 := D0) 4 (us := [(1, .pointer (some ⟨b, 0, none⟩)), (2, .int .i64 0), (3, .bool ok), (29, .slice p n.Lines.length c), (30, .int .i64 (n.Lines.length : Int)), (31, .int .i64 v31_0), (63, .bool t_3)]) (ms := [(1, .cells b [.int .i64 n.Exchanges, .slice p n.Lines.length c, .int .i64 n.Hops, .slice p_1 n.Loops.length c_1] 25), (2, .cells b_2 [.int .i64 e.From, .int .i64 e.To, .int .i64 e.Delay.Low, .int .i64 e.Delay.High] 68)]) (D' := D0) ?_ ?_
  ·rcases bcases (t_2 && (e.From != e.To)) with hbv_7 | hbv_7
   ·skip
    replace h := cond_t ht_3 hbv_7
    refine guard_on hF rfl rfl hbv_7 (step hF (Y.fieldAddr fo_68_2 hF rfl) rfl fun a hF => guard_on hF rfl rfl hbv_7 (step hF (Y.loadNL 2 sz_40 hF rfl hS rfl rfl rfl) rfl fun a hF => guard_on hF rfl rfl hbv_7 ?_))
    obtain ⟨rv_4, hx_5, h⟩ := bind_some h
    refine O.callP (us := [.agg #[.int .i64 e.Delay.Low, .int .i64 e.Delay.High], .int .i64 1000]) ca_63 hF hS (line_isSpan_ok hS.stab e.Delay 1000 rv_4 hx_5) rfl rfl fun a w hF hS => step hF (Y.pick_t hF rfl hbv_7 rfl) rfl fun a hF => ?_
    obtain rfl := some_inj h
    exact nil (then_n ⟨hF.weak ⟨rfl, rfl, rfl, rfl, rfl, rfl, rfl, trivial⟩, hS.weak ⟨rfl, rfl, trivial⟩⟩)
   replace h := cond_f ht_3 hbv_7
   refine guard_off hF rfl rfl hbv_7 rfl fun a hF => guard_off hF rfl rfl hbv_7 rfl fun a hF => guard_off hF rfl rfl hbv_7 rfl fun a hF => step hF (Y.pick_f hF rfl hbv_7 rfl) rfl fun a hF => ?_
   obtain rfl := some_inj h
   exact nil (then_n ⟨hF.weak ⟨rfl, rfl, rfl, rfl, rfl, rfl, rfl, trivial⟩, hS.weak ⟨rfl, rfl, trivial⟩⟩)
  intro a w hF hS
  refine step hF (Y.assign hF rfl) rfl fun a hF => nil (blk_n (then_n (region (step hF (Y.add hF rfl rfl) rfl fun a hF => step hF (Y.move hF rfl) rfl fun a hF => nil (then_n (⟨_, nxt_some h, t_3, (wr (v31_0 + 1)), rfl, hF.weak ⟨rfl, rfl, rfl, rfl, rfl, rfl, trivial⟩, hS.weak ⟨rfl, trivial⟩⟩))))))
 replace h := cond_f h hbv_3
 refine exit_ (then_x (then_x (blk_hit (then_n ?_))))
 replace h := ext_some h hxo
 refine seq (seq (region (step hF (Y.fieldAddr fo_25_3 hF rfl) rfl fun a hF => step hF (Y.load1L 1 sz_23 hF rfl hS rfl rfl) rfl fun a hF => step hF (Y.lenSl u_23 hF rfl) rfl fun a hF => step hF (Y.move hF rfl) rfl fun a hF => nil (then_n (block (loop_cut (body := line_Check_b2 n) (out := out) (fun s a w => ∃ (ok_1 : Bool) (v68_0 : Int), s = (ok_1, v68_0) ∧ Frm 89 [] [(1, .pointer (some ⟨b, 0, none⟩)), (2, .int .i64 0), (3, .bool ok_1), (66, .slice p_1 n.Loops.length c_1), (67, .int .i64 (n.Loops.length : Int)), (68, .int .i64 v68_0)] a ∧ St w0 D0 D0 [(1, .cells b [.int .i64 n.Exchanges, .slice p n.Lines.length c, .int .i64 n.Hops, .slice p_1 n.Loops.length c_1] 25)] w) (ok, 0) h ⟨ok, 0, rfl, hF.weak ⟨rfl, rfl, rfl, rfl, rfl, rfl, trivial⟩, hS.weak ⟨rfl, trivial⟩⟩ ?_))))))
 rintro s a w xo_1 ⟨ok_1, v68_0, rfl, hF, hS⟩ h hxo_1
 unfold line_Check_b2 at h
 dsimp only at h
 refine seq (region (step hF (Y.lss hF rfl rfl) rfl fun a hF => nil (then_n (seq (cond_b hF rfl (fun hbv_8 => ?_) (fun hbv_8 => ?_))))))
 ·replace h := cond_t h hbv_8
  refine skip_ (then_n (seq (block (seq (region ?_)))))
  obtain ⟨e_1, hx_6, h⟩ := bind_some h
  obtain ⟨b_3, o_1, hE_1, hY_1⟩ := Y.indexS (P := Tryd.prog) (C := C_LineLoop) (xs := n.Loops) (T := 23) (x := (.tmp 66)) (y := (.tmp 68)) u_23 sz_71 hF rfl rfl (hs_1).1 hx_6
  obtain ⟨cc_1, hc_1, hcell_1⟩ := hE_1.open
  obtain rfl := C_LineLoop.open hc_1
  refine step hF (hY_1) rfl fun a hF => step hF (Y.loadNE (o := o_1) (k := 0) sz_71 hF rfl (hcell_1 _ hS.stab) rfl rfl) rfl fun a hF => O.alloc 3 zc_71 hF hS rfl fun b_4 a w hF hS => O.store (us := [.int .i64 e_1.Exchange, .int .i64 e_1.Read.Low, .int .i64 e_1.Read.High]) 3 sz_71 hF rfl rfl rfl rfl hS rfl rfl fun a w hF hS => nil (then_n (region (step hF (Y.move hF rfl) rfl fun a hF => step hF (Y.move hF rfl) rfl fun a hF => ?_)))
  obtain ⟨t_4, ht_4, h⟩ := bind_some h
  refine join (N := 89) (rs := []) (w0 := w0) (D0 := D0) 7 (us := [(1, .pointer (some ⟨b, 0, none⟩)), (2, .int .i64 0), (3, .bool ok_1), (7, .pointer (some ⟨b_4, 0, none⟩)), (66, .slice p_1 n.Loops.length c_1), (67, .int .i64 (n.Loops.length : Int)), (68, .int .i64 v68_0), (80, .bool t_4)]) (ms := [(1, .cells b [.int .i64 n.Exchanges, .slice p n.Lines.length c, .int .i64 n.Hops, .slice p_1 n.Loops.length c_1] 25), (3, .cells b_4 [.int .i64 e_1.Exchange, .int .i64 e_1.Read.Low, .int .i64 e_1.Read.High] 71)]) (D' := D0) ?_ ?_
  ·rcases bcases ok_1 with hbv_9 | hbv_9
   ·skip
    replace h := cond_t ht_4 hbv_9
    refine guard_on hF rfl rfl hbv_9 (step hF (Y.fieldAddr fo_71_0 hF rfl) rfl fun a hF => guard_on hF rfl rfl hbv_9 (step hF (Y.load1L 3 sz_3 hF rfl hS rfl rfl) rfl fun a hF => guard_on hF rfl rfl hbv_9 (step hF (Y.fieldAddr fo_25_0 hF rfl) rfl fun a hF => guard_on hF rfl rfl hbv_9 (step hF (Y.load1L 1 sz_3 hF rfl hS rfl rfl) rfl fun a hF => guard_on hF rfl rfl hbv_9 (step hF (Y.sub hF rfl rfl) rfl fun a hF => guard_on hF rfl rfl hbv_9 ?_)))))
    obtain ⟨rv_5, hx_7, h⟩ := bind_some h
    refine O.callP (us := [.int .i64 e_1.Exchange, .int .i64 0, .int .i64 (wr (n.Exchanges - 1))]) ca_62 hF hS (line_lies_ok hS.stab e_1.Exchange 0 (wr (n.Exchanges - 1)) rv_5 hx_7) rfl rfl fun a w hF hS => step hF (Y.pick_t hF rfl hbv_9 rfl) rfl fun a hF => ?_
    obtain rfl := some_inj h
    exact nil (then_n ⟨hF.weak ⟨rfl, rfl, rfl, rfl, rfl, rfl, rfl, rfl, trivial⟩, hS.weak ⟨rfl, rfl, trivial⟩⟩)
   replace h := cond_f ht_4 hbv_9
   refine guard_off hF rfl rfl hbv_9 rfl fun a hF => guard_off hF rfl rfl hbv_9 rfl fun a hF => guard_off hF rfl rfl hbv_9 rfl fun a hF => guard_off hF rfl rfl hbv_9 rfl fun a hF => guard_off hF rfl rfl hbv_9 rfl fun a hF => guard_off hF rfl rfl hbv_9 rfl fun a hF => step hF (Y.pick_f hF rfl hbv_9 rfl) rfl fun a hF => ?_
   obtain rfl := some_inj h
   exact nil (then_n ⟨hF.weak ⟨rfl, rfl, rfl, rfl, rfl, rfl, rfl, rfl, trivial⟩, hS.weak ⟨rfl, rfl, trivial⟩⟩)
  intro a w hF hS
  refine step hF (Y.move hF rfl) rfl fun a hF => ?_
  obtain ⟨t_5, ht_5, h⟩ := bind_some h
  refine join (N := 89) (rs := []) (w0 := w0) (D0 := D0) 4 (us := [(1, .pointer (some ⟨b, 0, none⟩)), (2, .int .i64 0), (3, .bool ok_1), (66, .slice p_1 n.Loops.length c_1), (67, .int .i64 (n.Loops.length : Int)), (68, .int .i64 v68_0), (85, .bool t_5)]) (ms := [(1, .cells b [.int .i64 n.Exchanges, .slice p n.Lines.length c, .int .i64 n.Hops, .slice p_1 n.Loops.length c_1] 25), (3, .cells b_4 [.int .i64 e_1.Exchange, .int .i64 e_1.Read.Low, .int .i64 e_1.Read.High] 71)]) (D' := D0) ?_ ?_
  ·rcases bcases t_4 with hbv_10 | hbv_10
   ·skip
    replace h := cond_t ht_5 hbv_10
    refine guard_on hF rfl rfl hbv_10 (step hF (Y.fieldAddr fo_71_1 hF rfl) rfl fun a hF => guard_on hF rfl rfl hbv_10 (step hF (Y.loadNL 3 sz_40 hF rfl hS rfl rfl rfl) rfl fun a hF => guard_on hF rfl rfl hbv_10 ?_))
    obtain ⟨rv_6, hx_8, h⟩ := bind_some h
    refine O.callP (us := [.agg #[.int .i64 e_1.Read.Low, .int .i64 e_1.Read.High], .int .i64 12000]) ca_63 hF hS (line_isSpan_ok hS.stab e_1.Read 12000 rv_6 hx_8) rfl rfl fun a w hF hS => step hF (Y.pick_t hF rfl hbv_10 rfl) rfl fun a hF => ?_
    obtain rfl := some_inj h
    exact nil (then_n ⟨hF.weak ⟨rfl, rfl, rfl, rfl, rfl, rfl, rfl, trivial⟩, hS.weak ⟨rfl, rfl, trivial⟩⟩)
   replace h := cond_f ht_5 hbv_10
   refine guard_off hF rfl rfl hbv_10 rfl fun a hF => guard_off hF rfl rfl hbv_10 rfl fun a hF => guard_off hF rfl rfl hbv_10 rfl fun a hF => step hF (Y.pick_f hF rfl hbv_10 rfl) rfl fun a hF => ?_
   obtain rfl := some_inj h
   exact nil (then_n ⟨hF.weak ⟨rfl, rfl, rfl, rfl, rfl, rfl, rfl, trivial⟩, hS.weak ⟨rfl, rfl, trivial⟩⟩)
  intro a w hF hS
  refine step hF (Y.assign hF rfl) rfl fun a hF => nil (blk_n (then_n (region (step hF (Y.add hF rfl rfl) rfl fun a hF => step hF (Y.move hF rfl) rfl fun a hF => nil (then_n (⟨_, nxt_some h, t_5, (wr (v68_0 + 1)), rfl, hF.weak ⟨rfl, rfl, rfl, rfl, rfl, rfl, trivial⟩, hS.weak ⟨rfl, trivial⟩⟩))))))
 replace h := cond_f h hbv_8
 refine exit_ (then_x (then_x (blk_hit (then_n ?_))))
 replace h := ext_some h hxo_1
 refine seq (seq (region (step hF (Y.move hF rfl) rfl fun a hF => step hF (Y.not hF rfl) rfl fun a hF => nil (then_n (cond_b hF rfl (fun hbv_11 => ?_) (fun hbv_11 => ?_))))))
 ·replace h := cond_t h hbv_11
  refine seq (region (step hF (Y.assign hF rfl) rfl fun a hF => nil (then_n (ret_ (then_r ?_)))))
  obtain rfl := some_inj h
  exact leaveP Tryd.results18 hF hS (.cons (.tmp rfl) .nil) .nil rfl
 replace h := cond_f h hbv_11
 refine skip_ (then_n (seq (region (step hF (Y.assign hF rfl) rfl fun a hF => nil (then_n (ret_ ?_))))))
 obtain rfl := some_inj h
 exact leaveP Tryd.results18 hF hS (.cons (.tmp rfl) .nil) .nil rfl
noncomputable def slices_Index___int_int__b1 (sv : (List Int)) (v : Int) : (Int × Int) → Option ((Int × Int) ⊕ Int)
 | (v4_0, v8_0) =>
  cond (decide (v8_0 < (sv.length : Int)))
  ((idx sv v8_0).bind fun e =>
  cond (v == e)
  (ext (some v8_0))
  (nxt (v4_0, wr (v8_0 + 1))))
  (ext (some (-1)))
noncomputable def slices_Index___int_int_ (sv : (List Int)) (v : Int) : Option Int :=
  loopU (slices_Index___int_int__b1 sv v) (0, 0)
theorem slices_Index___int_int__ok {w0 : World} {D0 : Stab} (hD : D0.on w0) (sv : (List Int)) (v : Int) {p : Option Addr} {c : Nat} (hs : SRc C_int D0 sv p c) (out : Int) (h : slices_Index___int_int_ sv v = some out) : Calls Tryd.prog 94 [.slice p sv.length c, .int .i64 v].toArray w0 (RetP D0 w0 (.int .i64 out)) := by
 refine enter _ 19 Tryd.func94 rfl Tryd.ntmps94 rfl fun a hF => ?_
 replace hF : Frm 19 [] [(0, .slice p sv.length c), (1, .int .i64 v)] a := hF
 have hS := St.start hD
 unfold slices_Index___int_int_ at h
 refine seq (region (step hF (Y.assign hF rfl) rfl fun a hF => nil (then_n (seq (seq (region (step hF (Y.move hF rfl) rfl fun a hF => step hF (Y.lenSl u_32 hF rfl) rfl fun a hF => step hF (Y.move hF rfl) rfl fun a hF => nil (then_n (block (loop_cut (body := slices_Index___int_int__b1 sv v) (out := out) (fun s a w => ∃ (v4_0 : Int) (v8_0 : Int), s = (v4_0, v8_0) ∧ Frm 19 [] [(0, .slice p sv.length c), (1, .int .i64 v), (4, .int .i64 v4_0), (7, .int .i64 (sv.length : Int)), (8, .int .i64 v8_0)] a ∧ St w0 D0 D0 [] w) (0, 0) h ⟨0, 0, rfl, hF.weak ⟨rfl, rfl, rfl, rfl, rfl, trivial⟩, hS.weak trivial⟩ ?_))))))))))
 rintro s a w xo ⟨v4_0, v8_0, rfl, hF, hS⟩ h hxo
 unfold slices_Index___int_int__b1 at h
 dsimp only at h
 refine seq (region (step hF (Y.lss hF rfl rfl) rfl fun a hF => nil (then_n (seq (cond_b hF rfl (fun hbv => ?_) (fun hbv => ?_))))))
 ·replace h := cond_t h hbv
  refine skip_ (then_n (seq (block (seq (region (step hF (Y.move hF rfl) rfl fun a hF => step hF (Y.assign hF rfl) rfl fun a hF => nil (then_n (seq (region (step hF (Y.move hF rfl) rfl fun a hF => step hF (Y.move hF rfl) rfl fun a hF => step hF (Y.move hF rfl) rfl fun a hF => ?_))))))))))
  obtain ⟨e, hx, h⟩ := bind_some h
  obtain ⟨b, o, hE, hY⟩ := Y.indexS (P := Tryd.prog) (C := C_int) (xs := sv) (T := 32) (x := (.tmp 12)) (y := (.tmp 13)) u_32 sz_3 hF rfl rfl (hs).1 hx
  obtain ⟨cc, hc, hcell⟩ := hE.open
  obtain rfl := hc
  refine step hF (hY) rfl fun a hF => step hF (Y.load1 sz_3 hF rfl (hcell _ hS.stab 0 _ rfl)) rfl fun a hF => step hF (Y.eql hF rfl rfl) rfl fun a hF => nil (then_n (cond_b hF rfl (fun hbv_1 => ?_) (fun hbv_1 => ?_)))
  ·replace h := cond_t h hbv_1
   refine seq (region (step hF (Y.move hF rfl) rfl fun a hF => step hF (Y.assign hF rfl) rfl fun a hF => nil (then_n (ret_ (blk_r (then_r (then_r (blk_r (then_r ?_)))))))))
   replace h := ext_some h hxo
   obtain rfl := some_inj h
   exact leaveP Tryd.results94 hF hS (.cons (.tmp rfl) .nil) .nil rfl
  replace h := cond_f h hbv_1
  refine skip_ (blk_n (then_n (region (step hF (Y.add hF rfl rfl) rfl fun a hF => step hF (Y.move hF rfl) rfl fun a hF => nil (then_n (⟨_, nxt_some h, v4_0, (wr (v8_0 + 1)), rfl, hF.weak ⟨rfl, rfl, rfl, rfl, rfl, trivial⟩, hS.weak trivial⟩))))))
 replace h := cond_f h hbv
 refine exit_ (then_x (then_x (blk_hit (then_n ?_))))
 replace h := ext_some h hxo
 refine seq (region (step hF (Y.assign hF rfl) rfl fun a hF => nil (then_n (ret_ ?_))))
 obtain rfl := some_inj h
 exact leaveP Tryd.results94 hF hS (.cons (.tmp rfl) .nil) .nil rfl
noncomputable def slices_Contains___int_int_ (sv : (List Int)) (v : Int) : Option Bool :=
  (slices_Index___int_int_ sv v).bind fun rv =>
  some (decide (rv ≥ 0))
theorem slices_Contains___int_int__ok {w0 : World} {D0 : Stab} (hD : D0.on w0) (sv : (List Int)) (v : Int) {p : Option Addr} {c : Nat} (hs : SRc C_int D0 sv p c) (out : Bool) (h : slices_Contains___int_int_ sv v = some out) : Calls Tryd.prog 82 [.slice p sv.length c, .int .i64 v].toArray w0 (RetP D0 w0 (.bool out)) := by
 refine enter _ 9 Tryd.func82 rfl Tryd.ntmps82 rfl fun a hF => ?_
 replace hF : Frm 9 [] [(0, .slice p sv.length c), (1, .int .i64 v)] a := hF
 have hS := St.start hD
 unfold slices_Contains___int_int_ at h
 refine seq (region (step hF (Y.assign hF rfl) rfl fun a hF => nil (then_n (seq (region (step hF (Y.move hF rfl) rfl fun a hF => step hF (Y.move hF rfl) rfl fun a hF => ?_))))))
 obtain ⟨rv, hx, h⟩ := bind_some h
 refine O.callP (us := [.slice p sv.length c, .int .i64 v]) ca_94 hF hS (slices_Index___int_int__ok hS.stab sv v hs rv hx) rfl rfl fun a w hF hS => step hF (Y.geq hF rfl rfl) rfl fun a hF => step hF (Y.assign hF rfl) rfl fun a hF => nil (then_n (ret_ ?_))
 obtain rfl := some_inj h
 exact leaveP Tryd.results82 hF hS (.cons (.tmp rfl) .nil) .nil rfl
noncomputable def line_on_b1 (l : (List (List Int))) (line : Int) : (Int × Int) → Option ((Int × Int) ⊕ Int)
 | (n, v10_0) =>
  cond (decide (v10_0 < (l.length : Int)))
  ((idx l v10_0).bind fun e =>
  (slices_Contains___int_int_ e line).bind fun rv =>
  cond rv
  (nxt (wr (n + 1), wr (v10_0 + 1)))
  (nxt (n, wr (v10_0 + 1))))
  (ext (some n))
noncomputable def line_on (l : (List (List Int))) (line : Int) : Option Int :=
  loopU (line_on_b1 l line) (0, 0)
theorem line_on_ok {w0 : World} {D0 : Stab} (hD : D0.on w0) (l : (List (List Int))) (line : Int) {p : Option Addr} {c : Nat} (hs : SRc (C_sl C_int) D0 l p c) (out : Int) (h : line_on l line = some out) : Calls Tryd.prog 64 [.slice p l.length c, .int .i64 line].toArray w0 (RetP D0 w0 (.int .i64 out)) := by
 refine enter _ 21 Tryd.func64 rfl Tryd.ntmps64 rfl fun a hF => ?_
 replace hF : Frm 21 [] [(0, .slice p l.length c), (1, .int .i64 line)] a := hF
 have hS := St.start hD
 unfold line_on at h
 refine seq (region (step hF (Y.assign hF rfl) rfl fun a hF => nil (then_n (seq (region (step hF (Y.assign hF rfl) rfl fun a hF => nil (then_n (seq (seq (region (step hF (Y.move hF rfl) rfl fun a hF => step hF (Y.lenSl u_26 hF rfl) rfl fun a hF => step hF (Y.move hF rfl) rfl fun a hF => nil (then_n (block (loop_cut (body := line_on_b1 l line) (out := out) (fun s a w => ∃ (n : Int) (v10_0 : Int), ∃ (Dv : Stab), s = (n, v10_0) ∧ D0.le Dv ∧ Frm 21 [] [(1, .int .i64 line), (4, .int .i64 0), (5, .int .i64 n), (8, .slice p l.length c), (9, .int .i64 (l.length : Int)), (10, .int .i64 v10_0)] a ∧ St w0 D0 Dv [] w) (0, 0) h ⟨0, 0, D0, rfl, Stab.le.refl _, hF.weak ⟨rfl, rfl, rfl, rfl, rfl, rfl, trivial⟩, hS.weak trivial⟩ ?_))))))))))))))
 rintro s a w xo ⟨n, v10_0, Dv, rfl, hlev, hF, hS⟩ h hxo
 unfold line_on_b1 at h
 dsimp only at h
 replace hs := hs.mono hlev
 refine seq (region (step hF (Y.lss hF rfl rfl) rfl fun a hF => nil (then_n (seq (cond_b hF rfl (fun hbv => ?_) (fun hbv => ?_))))))
 ·replace h := cond_t h hbv
  refine skip_ (then_n (seq (block (seq (region ?_)))))
  obtain ⟨e, hx, h⟩ := bind_some h
  obtain ⟨b, o, hE, hY⟩ := Y.indexS (P := Tryd.prog) (C := (C_sl C_int)) (xs := l) (T := 26) (x := (.tmp 8)) (y := (.tmp 10)) u_26 sz_32 hF rfl rfl (hs).1 hx
  obtain ⟨cc, hc, hcell⟩ := hE.open
  obtain ⟨p_1, c_1, rfl, hs_1⟩ := hc
  refine step hF (hY) rfl fun a hF => step hF (Y.load1 sz_32 hF rfl (hcell _ hS.stab 0 _ rfl)) rfl fun a hF => step hF (Y.assign hF rfl) rfl fun a hF => nil (then_n (seq (region (step hF (Y.move hF rfl) rfl fun a hF => step hF (Y.move hF rfl) rfl fun a hF => ?_))))
  obtain ⟨rv, hx_1, h⟩ := bind_some h
  refine O.callP (us := [.slice p_1 e.length c_1, .int .i64 line]) ca_82 hF hS (slices_Contains___int_int__ok hS.stab e line hs_1 rv hx_1) rfl rfl fun a w hF hS => nil (then_n (cond_b hF rfl (fun hbv_1 => ?_) (fun hbv_1 => ?_)))
  ·replace h := cond_t h hbv_1
   refine region (step hF (Y.move hF rfl) rfl fun a hF => step hF (Y.add hF rfl rfl) rfl fun a hF => step hF (Y.assign hF rfl) rfl fun a hF => nil (blk_n (then_n (region (step hF (Y.add hF rfl rfl) rfl fun a hF => step hF (Y.move hF rfl) rfl fun a hF => nil (then_n (⟨_, nxt_some h, (wr (n + 1)), (wr (v10_0 + 1)), Dv, rfl, hlev, hF.weak ⟨rfl, rfl, rfl, rfl, rfl, rfl, trivial⟩, hS.weak trivial⟩)))))))
  replace h := cond_f h hbv_1
  refine skip_ (blk_n (then_n (region (step hF (Y.add hF rfl rfl) rfl fun a hF => step hF (Y.move hF rfl) rfl fun a hF => nil (then_n (⟨_, nxt_some h, n, (wr (v10_0 + 1)), Dv, rfl, hlev, hF.weak ⟨rfl, rfl, rfl, rfl, rfl, rfl, trivial⟩, hS.weak trivial⟩))))))
 replace h := cond_f h hbv
 refine exit_ (then_x (then_x (blk_hit (then_n ?_))))
 replace h := ext_some h hxo
 refine seq (region (step hF (Y.move hF rfl) rfl fun a hF => step hF (Y.assign hF rfl) rfl fun a hF => nil (then_n (ret_ ?_))))
 obtain rfl := some_inj h
 exact leaveP Tryd.results64 hF hS (.cons (.tmp rfl) .nil) .nil rfl
noncomputable def slices_Clone___int_int_ (s : List Int) : Option (List Int) := if s.length ≤ lim then some s else none
theorem slices_Clone___int_int__own {w0 : World} {D0 : Stab} (hD : D0.on w0) (s : List Int) {p : Option Addr} {c : Nat} (hs : SRc C_int D0 s p c) (out : List Int) (h : slices_Clone___int_int_ s = some out) : Calls Tryd.prog 59 [.slice p s.length c].toArray w0 (RetM D0 (RetO w0 D0 C_int out 3 fun p c => .slice p out.length c)) := by
 unfold slices_Clone___int_int_ at h
 obtain ⟨hlim, h⟩ := ite_some h
 obtain rfl := some_inj h
 refine enter _ 8 Tryd.func59 rfl Tryd.ntmps59 rfl fun a hF => ?_
 replace hF : Frm 8 [] [(0, .slice p s.length c)] a := hF
 have hS := St.start hD
 refine seq (region (step hF (Y.assign hF rfl) rfl fun a hF => nil (then_n (seq (seq (region (step hF (Y.move hF rfl) rfl fun a hF => step hF (Y.eqNil u_32 hF rfl) rfl fun a hF => nil (then_n ?_))))))))
 rcases nilCases hs.1 with ⟨rfl, rfl⟩ | ⟨q, rfl⟩
 ·refine cond_b hF rfl (fun _ => ?_) (fun hb => by cases hb)
  refine seq (region (step hF (Y.assign hF rfl) rfl fun a hF => ?_))
  replace hS := hS.ownNil 1 3 1
  refine nil (then_n (ret_ (then_r (leaveO (C := C_int) (xs := []) 1 Tryd.results59 hF hS (.cons (.tmp rfl) .nil) (.inl rfl) rfl rfl Reps.nil))))
 refine cond_b hF rfl (fun hb => by cases hb) (fun _ => skip_ (then_n (seq (region (O.buildSlice (E := 3) (C := C_int) (xs := ([] : List Int)) (cs := []) (us := []) (parts := []) 1 hF hS rfl (by kernel_rfl) Reps.nil rfl rfl rfl fun p1 c1 a w hF hS => step hF (Y.move hF rfl) rfl fun a hF => ?_)))))
 obtain ⟨ds, hds, hsrc⟩ := src_stab (C := C_int) (xs := s) hs.1 hS.stab
 refine O.append (C := C_int) (xs := []) (ys := s) 1 gr_32 hF rfl rfl hS rfl hsrc Reps.nil hds (by simpa using hlim) rfl fun p2 c2 a w hF hS hr => step hF (Y.assign hF rfl) rfl fun a hF => nil (then_n (ret_ (leaveO (C := C_int) 1 Tryd.results59 hF hS (.cons (.tmp rfl) .nil) (.inl rfl) rfl rfl hr)))
theorem slices_Clone___int_int__ok {w0 : World} {D0 : Stab} (hD : D0.on w0) (s : List Int) {p : Option Addr} {c : Nat} (hs : SRc C_int D0 s p c) (out : List Int) (h : slices_Clone___int_int_ s = some out) : Calls Tryd.prog 59 [.slice p s.length c].toArray w0 (RetS D0 w0 fun D v => ∃ p c, v = .slice p out.length c ∧ SRc C_int D out p c) :=
 (slices_Clone___int_int__own hD s hs out h).mono fun _ _ h => retO_S h
noncomputable def line_low : Option Unit :=
  some ()
theorem line_low_ok {w0 : World} {D0 : Stab} (hD : D0.on w0) (out : Unit) (h : line_low = some out) : Calls Tryd.prog 85 [].toArray w0 (RetP D0 w0 (.agg #[.func (.func 96) #[] #[]])) := by
 refine enter _ 2 Tryd.func85 rfl Tryd.ntmps85 rfl fun a hF => ?_
 replace hF : Frm 2 [] [] a := hF
 have hS := St.start hD
 unfold line_low at h
 refine seq (region (O.alloc 1 zc_108 hF hS rfl fun b a w hF hS => nil (then_n (seq (region (step hF (Y.build (parts := [(0, (.func 96))]) (cs := #[.func (.func 96) #[] #[]]) hF rfl (by kernel_rfl)) rfl fun a hF => O.store (us := [.func (.func 96) #[] #[]]) 1 sz_108 hF rfl rfl rfl rfl hS rfl rfl fun a w hF hS => nil (then_n (ret_ (leaveP Tryd.results85 hF hS (.cons (.cellN 1 sz_108 rfl rfl rfl) .nil) .nil rfl)))))))))
noncomputable def line_high : Option Unit :=
  some ()
theorem line_high_ok {w0 : World} {D0 : Stab} (hD : D0.on w0) (out : Unit) (h : line_high = some out) : Calls Tryd.prog 86 [].toArray w0 (RetP D0 w0 (.agg #[.func (.func 97) #[] #[]])) := by
 refine enter _ 2 Tryd.func86 rfl Tryd.ntmps86 rfl fun a hF => ?_
 replace hF : Frm 2 [] [] a := hF
 have hS := St.start hD
 unfold line_high at h
 refine seq (region (O.alloc 1 zc_108 hF hS rfl fun b a w hF hS => nil (then_n (seq (region (step hF (Y.build (parts := [(0, (.func 97))]) (cs := #[.func (.func 97) #[] #[]]) hF rfl (by kernel_rfl)) rfl fun a hF => O.store (us := [.func (.func 97) #[] #[]]) 1 sz_108 hF rfl rfl rfl rfl hS rfl rfl fun a w hF hS => nil (then_n (ret_ (leaveP Tryd.results86 hF hS (.cons (.cellN 1 sz_108 rfl rfl rfl) .nil) .nil rfl)))))))))
noncomputable def line_low_1 (sv : Span) : Option Int :=
  some sv.Low
theorem line_low_1_ok {w0 : World} {D0 : Stab} (hD : D0.on w0) (sv : Span) (out : Int) (h : line_low_1 sv = some out) : Calls Tryd.prog 96 [.agg #[.int .i64 sv.Low, .int .i64 sv.High]].toArray w0 (RetP D0 w0 (.int .i64 out)) := by
 refine enter _ 5 Tryd.func96 rfl Tryd.ntmps96 rfl fun a hF => ?_
 replace hF : Frm 5 [] [(0, .agg #[.int .i64 sv.Low, .int .i64 sv.High])] a := hF
 have hS := St.start hD
 unfold line_low_1 at h
 refine seq (region (O.box (cs := [.int .i64 sv.Low, .int .i64 sv.High]) 1 hF rfl rfl hS rfl fun b a w hF hS => step hF (Y.assign hF rfl) rfl fun a hF => nil (then_n (seq (region (step hF (Y.fieldAddr fo_40_0 hF rfl) rfl fun a hF => step hF (Y.load1L 1 sz_3 hF rfl hS rfl rfl) rfl fun a hF => step hF (Y.assign hF rfl) rfl fun a hF => nil (then_n (ret_ ?_))))))))
 obtain rfl := some_inj h
 exact leaveP Tryd.results96 hF hS (.cons (.tmp rfl) .nil) .nil rfl
noncomputable def line_high_1 (sv : Span) : Option Int :=
  some sv.High
theorem line_high_1_ok {w0 : World} {D0 : Stab} (hD : D0.on w0) (sv : Span) (out : Int) (h : line_high_1 sv = some out) : Calls Tryd.prog 97 [.agg #[.int .i64 sv.Low, .int .i64 sv.High]].toArray w0 (RetP D0 w0 (.int .i64 out)) := by
 refine enter _ 5 Tryd.func97 rfl Tryd.ntmps97 rfl fun a hF => ?_
 replace hF : Frm 5 [] [(0, .agg #[.int .i64 sv.Low, .int .i64 sv.High])] a := hF
 have hS := St.start hD
 unfold line_high_1 at h
 refine seq (region (O.box (cs := [.int .i64 sv.Low, .int .i64 sv.High]) 1 hF rfl rfl hS rfl fun b a w hF hS => step hF (Y.assign hF rfl) rfl fun a hF => nil (then_n (seq (region (step hF (Y.fieldAddr fo_40_1 hF rfl) rfl fun a hF => step hF (Y.load1L 1 sz_3 hF rfl hS rfl rfl) rfl fun a hF => step hF (Y.assign hF rfl) rfl fun a hF => nil (then_n (ret_ ?_))))))))
 obtain rfl := some_inj h
 exact leaveP Tryd.results97 hF hS (.cons (.tmp rfl) .nil) .nil rfl
noncomputable def line_sum_int__b1 (l : (List Int)) : (Int × Int) → Option ((Int × Int) ⊕ Int)
 | (outv, v8_0) =>
  cond (decide (v8_0 < (l.length : Int)))
  ((idx l v8_0).bind fun e =>
  nxt (wr (outv + e), wr (v8_0 + 1)))
  (ext (some outv))
noncomputable def line_sum_int_ (l : (List Int)) : Option Int :=
  loopU (line_sum_int__b1 l) (0, 0)
theorem line_sum_int__ok {w0 : World} {D0 : Stab} (hD : D0.on w0) (l : (List Int)) {p : Option Addr} {c : Nat} (hs : SRc C_int D0 l p c) (out : Int) (h : line_sum_int_ l = some out) : Calls Tryd.prog 95 [.slice p l.length c].toArray w0 (RetP D0 w0 (.int .i64 out)) := by
 refine enter _ 17 Tryd.func95 rfl Tryd.ntmps95 rfl fun a hF => ?_
 replace hF : Frm 17 [] [(0, .slice p l.length c)] a := hF
 have hS := St.start hD
 unfold line_sum_int_ at h
 refine seq (region (step hF (Y.assign hF rfl) rfl fun a hF => nil (then_n (seq (region (step hF (Y.assign hF rfl) rfl fun a hF => nil (then_n (seq (seq (region (step hF (Y.move hF rfl) rfl fun a hF => step hF (Y.lenSl u_32 hF rfl) rfl fun a hF => step hF (Y.move hF rfl) rfl fun a hF => nil (then_n (block (loop_cut (body := line_sum_int__b1 l) (out := out) (fun s a w => ∃ (outv : Int) (v8_0 : Int), s = (outv, v8_0) ∧ Frm 17 [] [(2, .int .i64 0), (3, .int .i64 outv), (6, .slice p l.length c), (7, .int .i64 (l.length : Int)), (8, .int .i64 v8_0)] a ∧ St w0 D0 D0 [] w) (0, 0) h ⟨0, 0, rfl, hF.weak ⟨rfl, rfl, rfl, rfl, rfl, trivial⟩, hS.weak trivial⟩ ?_))))))))))))))
 rintro s a w xo ⟨outv, v8_0, rfl, hF, hS⟩ h hxo
 unfold line_sum_int__b1 at h
 dsimp only at h
 refine seq (region (step hF (Y.lss hF rfl rfl) rfl fun a hF => nil (then_n (seq (cond_b hF rfl (fun hbv => ?_) (fun hbv => ?_))))))
 ·replace h := cond_t h hbv
  refine skip_ (then_n (seq (block (seq (region ?_)))))
  obtain ⟨e, hx, h⟩ := bind_some h
  obtain ⟨b, o, hE, hY⟩ := Y.indexS (P := Tryd.prog) (C := C_int) (xs := l) (T := 32) (x := (.tmp 6)) (y := (.tmp 8)) u_32 sz_3 hF rfl rfl (hs).1 hx
  obtain ⟨cc, hc, hcell⟩ := hE.open
  obtain rfl := hc
  refine step hF (hY) rfl fun a hF => step hF (Y.load1 sz_3 hF rfl (hcell _ hS.stab 0 _ rfl)) rfl fun a hF => step hF (Y.assign hF rfl) rfl fun a hF => nil (then_n (region (step hF (Y.move hF rfl) rfl fun a hF => step hF (Y.move hF rfl) rfl fun a hF => step hF (Y.add hF rfl rfl) rfl fun a hF => step hF (Y.assign hF rfl) rfl fun a hF => nil (blk_n (then_n (region (step hF (Y.add hF rfl rfl) rfl fun a hF => step hF (Y.move hF rfl) rfl fun a hF => nil (then_n (⟨_, nxt_some h, (wr (outv + e)), (wr (v8_0 + 1)), rfl, hF.weak ⟨rfl, rfl, rfl, rfl, rfl, trivial⟩, hS.weak trivial⟩)))))))))
 replace h := cond_f h hbv
 refine exit_ (then_x (then_x (blk_hit (then_n ?_))))
 replace h := ext_some h hxo
 refine seq (region (step hF (Y.move hF rfl) rfl fun a hF => step hF (Y.assign hF rfl) rfl fun a hF => nil (then_n (ret_ ?_))))
 obtain rfl := some_inj h
 exact leaveP Tryd.results95 hF hS (.cons (.tmp rfl) .nil) .nil rfl
noncomputable def line_net_begin (n : line_net) (line : Int) : Option Int :=
  (idx n.LineNet.Lines line).bind fun e =>
  some e.From
theorem line_net_begin_ok {w0 : World} {D0 : Stab} (hD : D0.on w0) (n : line_net) (line : Int) {p : Option Addr} {c : Nat} {p_1 : Option Addr} {c_1 : Nat} {bm : Option Nat} (hs : SRc C_LineLine D0 n.LineNet.Lines p c) (hs_1 : SRc C_LineLoop D0 n.LineNet.Loops p_1 c_1) (out : Int) (h : line_net_begin n line = some out) : Calls Tryd.prog 133 [.agg #[.int .i64 n.LineNet.Exchanges, .slice p n.LineNet.Lines.length c, .int .i64 n.LineNet.Hops, .slice p_1 n.LineNet.Loops.length c_1, .map bm, .int .i64 n.left], .int .i64 line].toArray w0 (RetP D0 w0 (.int .i64 out)) := by
 refine enter _ 12 Tryd.func133 rfl Tryd.ntmps133 rfl fun a hF => ?_
 replace hF : Frm 12 [] [(0, .agg #[.int .i64 n.LineNet.Exchanges, .slice p n.LineNet.Lines.length c, .int .i64 n.LineNet.Hops, .slice p_1 n.LineNet.Loops.length c_1, .map bm, .int .i64 n.left]), (1, .int .i64 line)] a := hF
 have hS := St.start hD
 unfold line_net_begin at h
 refine seq (region (O.box (cs := [.int .i64 n.LineNet.Exchanges, .slice p n.LineNet.Lines.length c, .int .i64 n.LineNet.Hops, .slice p_1 n.LineNet.Loops.length c_1, .map bm, .int .i64 n.left]) 1 hF rfl rfl hS rfl fun b a w hF hS => step hF (Y.assign hF rfl) rfl fun a hF => nil (then_n (seq (region (step hF (Y.fieldAddr fo_85_0 hF rfl) rfl fun a hF => step hF (Y.fieldAddr fo_25_1 hF rfl) rfl fun a hF => step hF (Y.load1L 1 sz_22 hF rfl hS rfl rfl) rfl fun a hF => step hF (Y.move hF rfl) rfl fun a hF => ?_))))))
 obtain ⟨e, hx, h⟩ := bind_some h
 obtain ⟨b_1, o, hE, hY⟩ := Y.indexS (P := Tryd.prog) (C := C_LineLine) (xs := n.LineNet.Lines) (T := 22) (x := (.tmp 7)) (y := (.tmp 8)) u_22 sz_68 hF rfl rfl (hs).1 hx
 obtain ⟨cc, hc, hcell⟩ := hE.open
 obtain rfl := C_LineLine.open hc
 refine step hF (hY) rfl fun a hF => step hF (Y.fieldAddr fo_68_0 hF rfl) rfl fun a hF => step hF (Y.load1 sz_3 hF rfl (hcell _ hS.stab 0 _ rfl)) rfl fun a hF => step hF (Y.assign hF rfl) rfl fun a hF => nil (then_n (ret_ ?_))
 obtain rfl := some_inj h
 exact leaveP Tryd.results133 hF hS (.cons (.tmp rfl) .nil) .nil rfl
noncomputable def line_net_end (n : line_net) (line : Int) : Option Int :=
  (idx n.LineNet.Lines line).bind fun e =>
  some e.To
theorem line_net_end_ok {w0 : World} {D0 : Stab} (hD : D0.on w0) (n : line_net) (line : Int) {p : Option Addr} {c : Nat} {p_1 : Option Addr} {c_1 : Nat} {bm : Option Nat} (hs : SRc C_LineLine D0 n.LineNet.Lines p c) (hs_1 : SRc C_LineLoop D0 n.LineNet.Loops p_1 c_1) (out : Int) (h : line_net_end n line = some out) : Calls Tryd.prog 134 [.agg #[.int .i64 n.LineNet.Exchanges, .slice p n.LineNet.Lines.length c, .int .i64 n.LineNet.Hops, .slice p_1 n.LineNet.Loops.length c_1, .map bm, .int .i64 n.left], .int .i64 line].toArray w0 (RetP D0 w0 (.int .i64 out)) := by
 refine enter _ 12 Tryd.func134 rfl Tryd.ntmps134 rfl fun a hF => ?_
 replace hF : Frm 12 [] [(0, .agg #[.int .i64 n.LineNet.Exchanges, .slice p n.LineNet.Lines.length c, .int .i64 n.LineNet.Hops, .slice p_1 n.LineNet.Loops.length c_1, .map bm, .int .i64 n.left]), (1, .int .i64 line)] a := hF
 have hS := St.start hD
 unfold line_net_end at h
 refine seq (region (O.box (cs := [.int .i64 n.LineNet.Exchanges, .slice p n.LineNet.Lines.length c, .int .i64 n.LineNet.Hops, .slice p_1 n.LineNet.Loops.length c_1, .map bm, .int .i64 n.left]) 1 hF rfl rfl hS rfl fun b a w hF hS => step hF (Y.assign hF rfl) rfl fun a hF => nil (then_n (seq (region (step hF (Y.fieldAddr fo_85_0 hF rfl) rfl fun a hF => step hF (Y.fieldAddr fo_25_1 hF rfl) rfl fun a hF => step hF (Y.load1L 1 sz_22 hF rfl hS rfl rfl) rfl fun a hF => step hF (Y.move hF rfl) rfl fun a hF => ?_))))))
 obtain ⟨e, hx, h⟩ := bind_some h
 obtain ⟨b_1, o, hE, hY⟩ := Y.indexS (P := Tryd.prog) (C := C_LineLine) (xs := n.LineNet.Lines) (T := 22) (x := (.tmp 7)) (y := (.tmp 8)) u_22 sz_68 hF rfl rfl (hs).1 hx
 obtain ⟨cc, hc, hcell⟩ := hE.open
 obtain rfl := C_LineLine.open hc
 refine step hF (hY) rfl fun a hF => step hF (Y.fieldAddr fo_68_1 hF rfl) rfl fun a hF => step hF (Y.load1 sz_3 hF rfl (hcell _ hS.stab 1 _ rfl)) rfl fun a hF => step hF (Y.assign hF rfl) rfl fun a hF => nil (then_n (ret_ ?_))
 obtain rfl := some_inj h
 exact leaveP Tryd.results134 hF hS (.cons (.tmp rfl) .nil) .nil rfl
noncomputable def tabf_0 (i : Int) (n : line_net) (line : Int) : Option Int := if i = 0 then line_net_begin n line else if i = 1 then line_net_end n line else none
theorem tab_0_ok {w0 : World} {D0 : Stab} (hD : D0.on w0) (i : Int) (hi : 0 ≤ i ∧ i < ((2 : Nat) : Int)) (n : line_net) (line : Int) {p : Option Addr} {c : Nat} {p_1 : Option Addr} {c_1 : Nat} {bm : Option Nat} (hs : SRc C_LineLine D0 n.LineNet.Lines p c) (hs_1 : SRc C_LineLoop D0 n.LineNet.Loops p_1 c_1) (out : Int) (h : tabf_0 i n line = some out) : ∃ f, tab_0.getD (Int.toNat i) undef = .func (.func f) #[] #[] ∧ callable Tryd.prog f = true ∧ Calls Tryd.prog f [.agg #[.int .i64 n.LineNet.Exchanges, .slice p n.LineNet.Lines.length c, .int .i64 n.LineNet.Hops, .slice p_1 n.LineNet.Loops.length c_1, .map bm, .int .i64 n.left], .int .i64 line].toArray w0 (RetP D0 w0 (.int .i64 out)) := by
 have hc : i = 0 ∨ i = 1 := by omega
 rcases hc with rfl | rfl
 ·exact ⟨133, rfl, ca_133, line_net_begin_ok hD n line hs hs_1 out h⟩
 exact ⟨134, rfl, ca_134, line_net_end_ok hD n line hs hs_1 out h⟩
noncomputable def line_net_leave_1_b2 {σ : Type} (cv : line_net) (cv_1 : Int) (yield_ : (Int × Int) → σ → Option σ) (v11_0 : Int) : (Int × σ) → Option ((Int × σ) ⊕ ((Int × σ) ⊕ σ))
 | (v15_0, sy_1) =>
  cond (decide (v15_0 < 2))
  (if (0 : Int) ≤ v15_0 ∧ v15_0 < ((2 : Nat) : Int) then
  (tabf_0 v15_0 cv v11_0).bind fun rv_2 =>
  cond (rv_2 == cv_1)
  (if (0 : Int) ≤ (wr (1 - v15_0)) ∧ (wr (1 - v15_0)) < ((2 : Nat) : Int) then
  (tabf_0 (wr (1 - v15_0)) cv v11_0).bind fun rv_3 =>
  (yield_ (v11_0, rv_3) sy_1).bind fun sy_3 =>
  nxt (wr (v15_0 + 1), sy_3)
  else none)
  (nxt (wr (v15_0 + 1), sy_1))
  else none)
  (ext (nxt (wr (v11_0 + 1), sy_1)))
noncomputable def line_net_leave_1_b1 {σ : Type} (cv : line_net) (cv_1 : Int) (yield_ : (Int × Int) → σ → Option σ) : (Int × σ) → Option ((Int × σ) ⊕ σ)
 | (v11_0, sy) =>
  cond (decide (v11_0 < (cv.LineNet.Lines.length : Int)))
  (loopU (line_net_leave_1_b2 cv cv_1 yield_ v11_0) (0, sy))
  (ext (some sy))
noncomputable def line_net_leave_1 {σ : Type} (yield_ : (Int × Int) → σ → Option σ) (cv : line_net) (cv_1 : Int) (s0 : σ) : Option σ :=
  loopU (line_net_leave_1_b1 cv cv_1 yield_) (0, s0)
theorem line_net_leave_1_it {w0 : World} {D0 : Stab} {σ : Type} {Inv : σ → Stab → List (Nat × LR) → Prop} {yield_ : (Int × Int) → σ → Option σ} (hlt : ∀ s D ms, Inv s D ms → ∀ i r, lk ms i = some r → i < 1000) (hmono : ∀ s D ms D2, Inv s D ms → D.le D2 → Inv s D2 ms) (l : Nat) (cv : line_net) (cv_1 : Int) {p : Option Addr} {c : Nat} {p_1 : Option Addr} {c_1 : Nat} {bm : Option Nat} {bb : Nat} {bb_1 : Nat} {Ds : Stab} (hs : SRc C_LineLine Ds cv.LineNet.Lines p c) (hs_1 : SRc C_LineLoop Ds cv.LineNet.Loops p_1 c_1) (hbv : Ds bb = some (.cells ([.int .i64 cv.LineNet.Exchanges, .slice p cv.LineNet.Lines.length c, .int .i64 cv.LineNet.Hops, .slice p_1 cv.LineNet.Loops.length c_1, .map bm, .int .i64 cv.left]).toArray 85 (0, 0))) (hbv_1 : Ds bb_1 = some (.cells ([.int .i64 cv_1]).toArray 3 (0, 0))) (hG : Glob Ds) (s0 out : σ) (hround : ∀ (x : (Int × Int)) (s s2 : σ) (D : Stab) (ms : List (Nat × LR)) (w : World), yield_ x s = some s2 → Ds.le D → Inv s D ms → St w0 D0 D ms w → Yld Tryd.prog l [.int .i64 x.1, .int .i64 x.2] w (fun w2 => ∃ D2 ms2, D.le D2 ∧ Inv s2 D2 ms2 ∧ St w0 D0 D2 ms2 w2)) (h : line_net_leave_1 yield_ cv cv_1 s0 = some out) {ms : List (Nat × LR)} {w : World} (hI : Inv s0 Ds ms) (hS : St w0 D0 Ds ms w) :
  CallsIn (Fw none) 0 Tryd.prog 98 [.func (.yield l) #[] #[], .pointer (some ⟨bb, 0, none⟩), .pointer (some ⟨bb_1, 0, none⟩)].toArray w (fun e w2 => (∃ v, e = .returned v) ∧ ∃ D2 ms2, Ds.le D2 ∧ Inv out D2 ms2 ∧ St w0 D0 D2 ms2 w2) := by
 refine callsIn_fw (r := none) (enter _ 40 Tryd.func98 rfl Tryd.ntmps98 rfl fun a hF => ?_)
 replace hF : Frm 40 [] [(0, .func (.yield l) #[] #[]), (1, .pointer (some ⟨bb, 0, none⟩)), (2, .pointer (some ⟨bb_1, 0, none⟩))] a := hF
 unfold line_net_leave_1 at h
 refine seq (region (step hF (Y.fieldAddr fo_85_0 hF rfl) rfl fun a hF => step hF (Y.fieldAddr fo_25_1 hF rfl) rfl fun a hF => step hF (Y.load1H sz_22 hF rfl (hS.stab _ _ hbv) rfl) rfl fun a hF => step hF (Y.lenSl u_22 hF rfl) rfl fun a hF => step hF (Y.move hF rfl) rfl fun a hF => nil (then_n (block (loop_cut (body := line_net_leave_1_b1 cv cv_1 yield_) (out := out) (fun s a w => ∃ (v11_0 : Int) (sy : σ), ∃ (Dv : Stab), ∃ ms_1, s = (v11_0, sy) ∧ Ds.le Dv ∧ Frm 40 [] [(0, .func (.yield l) #[] #[]), (1, .pointer (some ⟨bb, 0, none⟩)), (2, .pointer (some ⟨bb_1, 0, none⟩)), (10, .int .i64 (cv.LineNet.Lines.length : Int)), (11, .int .i64 v11_0)] a ∧ St w0 D0 Dv (ms_1) w ∧ Inv sy Dv ms_1) (0, s0) h ⟨0, s0, Ds, ms, rfl, Stab.le.refl _, hF.weak ⟨rfl, rfl, rfl, rfl, rfl, trivial⟩, hS.sub (fun j r hj => by have hl := (hlt _ _ _ hI) j r hj; (repeat rw [lk_ne (by omega)]); exact hj), hI⟩ ?_)))))
 rintro s a w xo ⟨v11_0, sy, Dv, ms_1, rfl, hlev, hF, hS, hI_1⟩ h hxo
 unfold line_net_leave_1_b1 at h
 dsimp only at h
 replace hs := hs.mono hlev
 replace hs_1 := hs_1.mono hlev
 replace hbv := hlev _ _ hbv
 replace hbv_1 := hlev _ _ hbv_1
 replace hG := hG.mono hlev
 replace hI := hmono _ _ _ _ hI hlev
 refine seq (region (step hF (Y.lss hF rfl rfl) rfl fun a hF => nil (then_n (seq (cond_b hF rfl (fun hbv_2 => ?_) (fun hbv_2 => ?_))))))
 ·replace h := cond_t h hbv_2
  refine skip_ (then_n (seq (block (seq (region (step hF (Y.move hF rfl) rfl fun a hF => step hF (Y.assign hF rfl) rfl fun a hF => nil (then_n (seq (region ?_)))))))))
  obtain ⟨E, fr, hGb⟩ := hG
  have hG : Glob _ := ⟨E, fr, hGb⟩
  refine step hF (Y.loadNH (cs := tab_0) sz_122 hF rfl (hS.stab _ _ hGb) rfl rfl) rfl fun a hF => step hF (Y.move hF rfl) rfl fun a hF => nil (then_n (block (loop_cut (body := line_net_leave_1_b2 cv cv_1 yield_ v11_0) (out := xo) (fun s a w => ∃ (v15_0 : Int) (sy_1 : σ), ∃ (Dv_1 : Stab), ∃ ms_2, s = (v15_0, sy_1) ∧ Dv.le Dv_1 ∧ Frm 40 [] [(0, .func (.yield l) #[] #[]), (1, .pointer (some ⟨bb, 0, none⟩)), (2, .pointer (some ⟨bb_1, 0, none⟩)), (4, .int .i64 v11_0), (10, .int .i64 (cv.LineNet.Lines.length : Int)), (11, .int .i64 v11_0), (14, .agg tab_0.toArray), (15, .int .i64 v15_0)] a ∧ St w0 D0 Dv_1 (ms_2) w ∧ Inv sy_1 Dv_1 ms_2) (0, sy) h ⟨0, sy, Dv, ms_1, rfl, Stab.le.refl _, hF.weak ⟨rfl, rfl, rfl, rfl, rfl, rfl, rfl, rfl, trivial⟩, hS.sub (fun j r hj => by have hl := (hlt _ _ _ hI_1) j r hj; (repeat rw [lk_ne (by omega)]); exact hj), hI_1⟩ ?_)))
  rintro s a w xo_1 ⟨v15_0, sy_1, Dv_1, ms_2, rfl, hlev_1, hF, hS, hI_2⟩ h hxo_1
  unfold line_net_leave_1_b2 at h
  dsimp only at h
  replace hs := hs.mono hlev_1
  replace hs_1 := hs_1.mono hlev_1
  replace hbv := hlev_1 _ _ hbv
  replace hbv_1 := hlev_1 _ _ hbv_1
  replace hG := hG.mono hlev_1
  replace hI := hmono _ _ _ _ hI hlev_1
  replace hI_1 := hmono _ _ _ _ hI_1 hlev_1
  refine seq (region (step hF (Y.lss hF rfl rfl) rfl fun a hF => nil (then_n (seq (cond_b hF rfl (fun hbv_3 => ?_) (fun hbv_3 => ?_))))))
  ·replace h := cond_t h hbv_3
   refine skip_ (then_n (seq (block (seq (region (step hF (Y.move hF rfl) rfl fun a hF => ?_))))))
   obtain ⟨hg, h⟩ := ite_some h
   refine step hF ((show Yields _ _ _ _ (tab_0.getD (Int.toNat v15_0) undef) from Y.indexG u_122 sz_121 rfl hg hF rfl rfl)) rfl fun a hF => step hF (Y.assign hF rfl) rfl fun a hF => step hF (Y.assign hF rfl) rfl fun a hF => nil (then_n (seq (drawsV 19 (.flt 0 (.flt 1 (.flt 2 (.flt 4 (.alt 3 (.flt 5 (.flt 6 (.flt 7 (.flt 8 (.flt 9 (.flt 10 (.flt 11 (.flt 12 (.flt 13 (.flt 14 (.alt 15 (.alt 16 (.flt 17 (.flt 18 .done)) .stop) .stop))))))))))) .stop))))) mixed_ (by kernel_rfl) (fun w => St w0 D0 Dv_1 [] w) _ (hS.sub (ms := []) (fun j r hj => by simp [lk] at hj)).drew (fun _ _ _ _ h => h) ?_ (fun _ _ h => h))))
   replace hS := hS.drew
   have hle0 := hS.le
   refine stepV (i := 0) rfl hF (fun w hS => Y.move hF rfl) rfl fun a hF => stepV (i := 1) rfl hF (fun w hS => Y.loadNH sz_85 hF rfl (hS.stab _ _ hbv) rfl rfl) rfl fun a hF => stepV (i := 2) rfl hF (fun w hS => Y.move hF rfl) rfl fun a hF => stepV (i := 4) rfl hF (fun w hS => Y.load1H sz_3 hF rfl (hS.stab _ _ hbv_1) rfl) rfl fun a hF => oneV (i := 3) rfl ?_ trivial
   obtain ⟨rv_2, hx_3, h⟩ := bind_some h
   obtain ⟨f_2, hfv_2, hfc_2, hcall_2⟩ := tab_0_ok hS.stab v15_0 hg cv v11_0 hs hs_1 rv_2 hx_3
   refine O.callVP (f := f_2) (first := []) (cap := []) (us := [.agg #[.int .i64 cv.LineNet.Exchanges, .slice p cv.LineNet.Lines.length c, .int .i64 cv.LineNet.Hops, .slice p_1 cv.LineNet.Loops.length c_1, .map bm, .int .i64 cv.left], .int .i64 v11_0]) hfc_2 hF hS (congrArg some hfv_2) rfl hcall_2 rfl fun a w hF hS => nil (then_n ⟨hS.sub (ms := []) (fun j r hj => by simp [lk] at hj), ?_⟩)
   refine stepV (i := 5) rfl hF (fun w hS => Y.eql hF rfl rfl) rfl fun a hF => stepV (i := 6) rfl hF (fun w hS => Y.move hF rfl) rfl fun a hF => ?_
   rcases bcases (rv_2 == cv_1) with hbg_1 | hbg_1
   ·replace h := cond_t h hbg_1
    refine stepV_on (i := 7) rfl hF rfl rfl hbg_1 (fun w hS => Y.move hF rfl) rfl fun a hF => stepV_on (i := 8) rfl hF rfl rfl hbg_1 (fun w hS => Y.move hF rfl) rfl fun a hF => stepV_on (i := 9) rfl hF rfl rfl hbg_1 (fun w hS => Y.move hF rfl) rfl fun a hF => stepV_on (i := 10) rfl hF rfl rfl hbg_1 (fun w hS => Y.sub hF rfl rfl) rfl fun a hF => ?_
    obtain ⟨hg_2, h⟩ := ite_some h
    refine stepV_on (i := 11) rfl hF rfl rfl hbg_1 (fun w hS => Y.indexArr u_122 sz_121 hF rfl rfl hg_2.1 hg_2.2) rfl fun a hF => ?_
    obtain ⟨E_2, fr_2, hGb_2⟩ := hG
    have hG : Glob _ := ⟨E_2, fr_2, hGb_2⟩
    refine stepV_on (i := 12) rfl hF rfl rfl hbg_1 (fun w hS => (show Yields _ _ _ _ (tab_0.getD (Int.toNat (wr (1 - v15_0))) undef) from Y.load1H (cs := tab_0) sz_121 hF rfl (hS.stab _ _ hGb_2) (tabAt rfl hg_2))) rfl fun a hF => stepV_on (i := 13) rfl hF rfl rfl hbg_1 (fun w hS => Y.loadNH sz_85 hF rfl (hS.stab _ _ hbv) rfl rfl) rfl fun a hF => stepV_on (i := 14) rfl hF rfl rfl hbg_1 (fun w hS => Y.move hF rfl) rfl fun a hF => oneV (i := 15) rfl ?_ trivial
    refine guard_on hF rfl rfl hbg_1 ?_
    obtain ⟨rv_3, hx_4, h⟩ := bind_some h
    obtain ⟨f_3, hfv_3, hfc_3, hcall_3⟩ := tab_0_ok hS.stab (wr (1 - v15_0)) hg_2 cv v11_0 hs hs_1 rv_3 hx_4
    refine O.callVP (f := f_3) (first := []) (cap := []) (us := [.agg #[.int .i64 cv.LineNet.Exchanges, .slice p cv.LineNet.Lines.length c, .int .i64 cv.LineNet.Hops, .slice p_1 cv.LineNet.Loops.length c_1, .map bm, .int .i64 cv.left], .int .i64 v11_0]) hfc_3 hF hS (congrArg some hfv_3) rfl hcall_3 rfl fun a w hF hS => nil (then_n ⟨hS.sub (ms := []) (fun j r hj => by simp [lk] at hj), ?_⟩)
    refine oneV (i := 16) rfl ?_ trivial
    refine guard_on hF rfl rfl hbg_1 ?_
    replace hS := hS.sub (ms := ms_2) (fun j r hj => by have hl := (hlt _ _ _ hI_2) j r hj; (repeat rw [lk_ne (by omega)]); exact hj)
    obtain ⟨sy_3, hx_5, h⟩ := bind_some h
    refine O.yield (us := [.int .i64 v11_0, .int .i64 rv_3]) hF rfl rfl (hround (v11_0, rv_3) _ _ _ _ _ hx_5 (hlev.trans hlev_1) hI_2 hS) rfl fun a w hF hK => ?_
    obtain ⟨Dv_3, ms_4, hlev_3, hI_4, hS⟩ := hK
    replace hbv := hlev_3 _ _ hbv
    replace hbv_1 := hlev_3 _ _ hbv_1
    refine nil (then_n ⟨(hS.sub (ms := []) (fun j r hj => by simp [lk] at hj)).weakD hlev_3 hle0, ?_⟩)
    refine stepV_on (i := 17) rfl hF rfl rfl hbg_1 (fun w hS => Y.not hF rfl) rfl fun a hF => stepV (i := 18) rfl hF (fun w hS => Y.pick_t hF rfl hbg_1 rfl) rfl fun a hF => toTailV (nil (then_n (cond_b hF rfl (fun hb => by cases hb) (fun hb => skip_ (blk_n (then_n (region (step hF (Y.add hF rfl rfl) rfl fun a hF => step hF (Y.move hF rfl) rfl fun a hF => nil (then_n (⟨_, nxt_some h, (wr (v15_0 + 1)), sy_3, Dv_3, ms_4, rfl, hlev_1.trans hlev_3, hF.weak ⟨rfl, rfl, rfl, rfl, rfl, rfl, rfl, rfl, trivial⟩, hS.sub (fun j r hj => by have hl := (hlt _ _ _ hI_4) j r hj; (repeat rw [lk_ne (by omega)]); exact hj), hI_4⟩))))))))))
   replace h := cond_f h hbg_1
   refine stepV_off (i := 7) rfl hF rfl rfl hbg_1 rfl fun a hF => stepV_off (i := 8) rfl hF rfl rfl hbg_1 rfl fun a hF => stepV_off (i := 9) rfl hF rfl rfl hbg_1 rfl fun a hF => stepV_off (i := 10) rfl hF rfl rfl hbg_1 rfl fun a hF => stepV_off (i := 11) rfl hF rfl rfl hbg_1 rfl fun a hF => stepV_off (i := 12) rfl hF rfl rfl hbg_1 rfl fun a hF => stepV_off (i := 13) rfl hF rfl rfl hbg_1 rfl fun a hF => stepV_off (i := 14) rfl hF rfl rfl hbg_1 rfl fun a hF => oneV (i := 15) rfl (guard_off hF rfl rfl hbg_1 rfl fun a hF => nil (then_n ⟨hS.sub (ms := []) (fun j r hj => by simp [lk] at hj), ?_⟩)) trivial
   refine oneV (i := 16) rfl (guard_off hF rfl rfl hbg_1 rfl fun a hF => nil (then_n ⟨hS.sub (ms := []) (fun j r hj => by simp [lk] at hj), ?_⟩)) trivial
   refine stepV_off (i := 17) rfl hF rfl rfl hbg_1 rfl fun a hF => stepV (i := 18) rfl hF (fun w hS => Y.pick_f hF rfl hbg_1 rfl) rfl fun a hF => toTailV (nil (then_n (cond_b hF rfl (fun hb => by cases hb) (fun hb => skip_ (blk_n (then_n (region (step hF (Y.add hF rfl rfl) rfl fun a hF => step hF (Y.move hF rfl) rfl fun a hF => nil (then_n (⟨_, nxt_some h, (wr (v15_0 + 1)), sy_1, Dv_1, ms_2, rfl, hlev_1, hF.weak ⟨rfl, rfl, rfl, rfl, rfl, rfl, rfl, rfl, trivial⟩, hS.sub (fun j r hj => by have hl := (hlt _ _ _ hI_2) j r hj; (repeat rw [lk_ne (by omega)]); exact hj), hI_2⟩))))))))))
  replace h := cond_f h hbv_3
  refine exit_ (then_x (then_x (blk_hit (blk_n (then_n ?_)))))
  replace h := ext_some h hxo_1
  refine region (step hF (Y.add hF rfl rfl) rfl fun a hF => step hF (Y.move hF rfl) rfl fun a hF => nil (then_n (⟨_, nxt_some h, (wr (v11_0 + 1)), sy_1, Dv_1, ms_2, rfl, hlev.trans hlev_1, hF.weak ⟨rfl, rfl, rfl, rfl, rfl, trivial⟩, hS.sub (fun j r hj => by have hl := (hlt _ _ _ hI_2) j r hj; (repeat rw [lk_ne (by omega)]); exact hj), hI_2⟩)))
 replace h := cond_f h hbv_2
 refine exit_ (then_x (then_x (blk_hit ?_)))
 replace h := ext_some h hxo
 replace hS := hS.sub (ms := ms_1) (fun j r hj => by have hl := (hlt _ _ _ hI_1) j r hj; (repeat rw [lk_ne (by omega)]); exact hj)
 obtain rfl := some_inj h
 exact leaveIn (by rfl) hF ⟨⟨_, rfl⟩, Dv, ms_1, hlev, hI_1, hS⟩
noncomputable def line_net_leave (n : line_net) (exchange : Int) : Option (line_net × Int) :=
  some (n, exchange)
theorem line_net_leave_ok {w0 : World} {D0 : Stab} (hD : D0.on w0) (n : line_net) (exchange : Int) {p : Option Addr} {c : Nat} {p_1 : Option Addr} {c_1 : Nat} {bm : Option Nat} (hs : SRc C_LineLine D0 n.LineNet.Lines p c) (hs_1 : SRc C_LineLoop D0 n.LineNet.Loops p_1 c_1) (out : (line_net × Int)) (h : line_net_leave n exchange = some out) : Calls Tryd.prog 89 [.agg #[.int .i64 n.LineNet.Exchanges, .slice p n.LineNet.Lines.length c, .int .i64 n.LineNet.Hops, .slice p_1 n.LineNet.Loops.length c_1, .map bm, .int .i64 n.left], .int .i64 exchange].toArray w0 (RetS D0 w0 fun D v => ∃ bb bb_1 p_2 c_2 p_3 c_3 bm_1, v = .func (.func 98) #[] #[.pointer (some ⟨bb, 0, none⟩), .pointer (some ⟨bb_1, 0, none⟩)] ∧ D bb = some (.cells ([.int .i64 out.1.LineNet.Exchanges, .slice p_2 out.1.LineNet.Lines.length c_2, .int .i64 out.1.LineNet.Hops, .slice p_3 out.1.LineNet.Loops.length c_3, .map bm_1, .int .i64 out.1.left]).toArray 85 (0, 0)) ∧ D bb_1 = some (.cells ([.int .i64 out.2]).toArray 3 (0, 0)) ∧ SRc C_LineLine D out.1.LineNet.Lines p_2 c_2 ∧ SRc C_LineLoop D out.1.LineNet.Loops p_3 c_3) := by
 refine enter _ 6 Tryd.func89 rfl Tryd.ntmps89 rfl fun a hF => ?_
 replace hF : Frm 6 [] [(0, .agg #[.int .i64 n.LineNet.Exchanges, .slice p n.LineNet.Lines.length c, .int .i64 n.LineNet.Hops, .slice p_1 n.LineNet.Loops.length c_1, .map bm, .int .i64 n.left]), (1, .int .i64 exchange)] a := hF
 have hS := St.start hD
 unfold line_net_leave at h
 refine seq (region (O.box (cs := [.int .i64 n.LineNet.Exchanges, .slice p n.LineNet.Lines.length c, .int .i64 n.LineNet.Hops, .slice p_1 n.LineNet.Loops.length c_1, .map bm, .int .i64 n.left]) 1 hF rfl rfl hS rfl fun b a w hF hS => O.box (cs := [.int .i64 exchange]) 2 hF rfl rfl hS rfl fun b_1 a w hF hS => step hF (Y.assign hF rfl) rfl fun a hF => nil (then_n (seq (region (step hF (Y.makeFunc (first := []) (cap := [(.tmp 2), (.tmp 3)]) (fs := []) (cs := [.pointer (some ⟨b, 0, none⟩), .pointer (some ⟨b_1, 0, none⟩)]) hF rfl rfl) rfl fun a hF => step hF (Y.assign hF rfl) rfl fun a hF => nil (then_n (ret_ ?_))))))))
 obtain ⟨Dv, hlev, hbv, hS⟩ := hS.freezeB (i := 1) rfl
 replace hs := hs.mono hlev
 replace hs_1 := hs_1.mono hlev
 obtain ⟨Dv_1, hlev_1, hbv_1, hS⟩ := hS.freezeB (i := 2) rfl
 replace hs := hs.mono hlev_1
 replace hs_1 := hs_1.mono hlev_1
 replace hbv := hlev_1 _ _ hbv
 obtain rfl := some_inj h
 exact leaveS Tryd.results89 hF hS (.cons (.tmp rfl) .nil) .nil ⟨_, _, _, _, _, _, _, rfl, hbv, hbv_1, hs, hs_1⟩
noncomputable def line_net_all_b1 (n : line_net) (way : (List Int)) (byv : line_side) : ((List Int) × Int) → Option (((List Int) × Int) ⊕ Int)
 | (l, v12_0) =>
  cond (decide (v12_0 < (way.length : Int)))
  ((idx way v12_0).bind fun e =>
  (idx n.LineNet.Lines e).bind fun e_1 =>
  (byv.of_ e_1.Delay).bind fun rv =>
  if l.length + ([rv]).length ≤ lim then
  nxt ((l ++ [rv]), wr (v12_0 + 1))
  else none)
  (ext ((line_sum_int_ l).bind fun rv_1 =>
  some rv_1))
noncomputable def line_net_all (n : line_net) (way : (List Int)) (byv : line_side) : Option Int :=
  loopU (line_net_all_b1 n way byv) (([] : List Int), 0)
theorem line_net_all_ok {w0 : World} {D0 : Stab} (hD : D0.on w0) (n : line_net) (way : (List Int)) (byv : line_side) {p : Option Addr} {c : Nat} {p_1 : Option Addr} {c_1 : Nat} {bm : Option Nat} {p_2 : Option Addr} {c_2 : Nat} {fid : FuncId} {first : List Value} {cap : List Value} (hs : SRc C_LineLine D0 n.LineNet.Lines p c) (hs_1 : SRc C_LineLoop D0 n.LineNet.Loops p_1 c_1) (hm : MapB kl_115 (C_sl (C_sl C_int)) false D0 n.ways bm) (hs_2 : SRc C_int D0 way p_2 c_2) (hf : FnOk_106 w0 D0 fid first cap byv.of_) (out : Int) (h : line_net_all n way byv = some out) : Calls Tryd.prog 84 [.agg #[.int .i64 n.LineNet.Exchanges, .slice p n.LineNet.Lines.length c, .int .i64 n.LineNet.Hops, .slice p_1 n.LineNet.Loops.length c_1, .map bm, .int .i64 n.left], .slice p_2 way.length c_2, .agg #[.func (.func fid) first.toArray cap.toArray]].toArray w0 (RetP D0 w0 (.int .i64 out)) := by
 refine enter _ 32 Tryd.func84 rfl Tryd.ntmps84 rfl fun a hF => ?_
 replace hF : Frm 32 [] [(0, .agg #[.int .i64 n.LineNet.Exchanges, .slice p n.LineNet.Lines.length c, .int .i64 n.LineNet.Hops, .slice p_1 n.LineNet.Loops.length c_1, .map bm, .int .i64 n.left]), (1, .slice p_2 way.length c_2), (2, .agg #[.func (.func fid) first.toArray cap.toArray])] a := hF
 have hS := St.start hD
 unfold line_net_all at h
 refine seq (region (O.box (cs := [.int .i64 n.LineNet.Exchanges, .slice p n.LineNet.Lines.length c, .int .i64 n.LineNet.Hops, .slice p_1 n.LineNet.Loops.length c_1, .map bm, .int .i64 n.left]) 1 hF rfl rfl hS rfl fun b a w hF hS => O.box (cs := [.func (.func fid) first.toArray cap.toArray]) 2 hF rfl rfl hS rfl fun b_1 a w hF hS => step hF (Y.assign hF rfl) rfl fun a hF => nil (then_n (seq (region (step hF (Y.assign hF rfl) rfl fun a hF => ?_))))))
 replace hS := hS.ownNil 3 3 1
 refine nil (then_n (seq (seq (region (step hF (Y.move hF rfl) rfl fun a hF => step hF (Y.lenSl u_32 hF rfl) rfl fun a hF => step hF (Y.move hF rfl) rfl fun a hF => nil (then_n (block (loop_cut (body := line_net_all_b1 n way byv) (out := out) (fun s a w => ∃ (l : (List Int)) (v12_0 : Int), ∃ (Dv : Stab), ∃ p_3 c_3 cs, s = (l, v12_0) ∧ D0.le Dv ∧ Frm 32 [] [(3, .pointer (some ⟨b, 0, none⟩)), (5, .pointer (some ⟨b_1, 0, none⟩)), (6, .int .i64 0), (7, .slice p_3 l.length c_3), (10, .slice p_2 way.length c_2), (11, .int .i64 (way.length : Int)), (12, .int .i64 v12_0)] a ∧ St w0 D0 Dv [(1, .cells b [.int .i64 n.LineNet.Exchanges, .slice p n.LineNet.Lines.length c, .int .i64 n.LineNet.Hops, .slice p_1 n.LineNet.Loops.length c_1, .map bm, .int .i64 n.left] 85), (2, .cells b_1 [.func (.func fid) first.toArray cap.toArray] 108), (3, .own p_3 l.length c_3 cs 3 1)] w ∧ Reps C_int Dv l cs) (([] : List Int), 0) h ⟨([] : List Int), 0, D0, none, 0, ([]), rfl, Stab.le.refl _, hF.weak ⟨rfl, rfl, rfl, rfl, rfl, rfl, rfl, trivial⟩, hS.weak ⟨rfl, rfl, rfl, trivial⟩, Reps.nil⟩ ?_))))))))
 rintro s a w xo ⟨l, v12_0, Dv, p_3, c_3, cs, rfl, hlev, hF, hS, hr⟩ h hxo
 unfold line_net_all_b1 at h
 dsimp only at h
 replace hs := hs.mono hlev
 replace hs_2 := hs_2.mono hlev
 refine seq (region (step hF (Y.lss hF rfl rfl) rfl fun a hF => nil (then_n (seq (cond_b hF rfl (fun hbv => ?_) (fun hbv => ?_))))))
 ·replace h := cond_t h hbv
  refine skip_ (then_n (seq (block (seq (region ?_)))))
  obtain ⟨e, hx, h⟩ := bind_some h
  obtain ⟨b_2, o, hE, hY⟩ := Y.indexS (P := Tryd.prog) (C := C_int) (xs := way) (T := 32) (x := (.tmp 10)) (y := (.tmp 12)) u_32 sz_3 hF rfl rfl (hs_2).1 hx
  obtain ⟨cc, hc, hcell⟩ := hE.open
  obtain rfl := hc
  refine step hF (hY) rfl fun a hF => step hF (Y.load1 sz_3 hF rfl (hcell _ hS.stab 0 _ rfl)) rfl fun a hF => step hF (Y.assign hF rfl) rfl fun a hF => nil (then_n ?_)
  obtain ⟨e_1, hx_1, h⟩ := bind_some h
  obtain ⟨rv, hx_2, h⟩ := bind_some h
  refine drawsV 12 (.flt 0 (.flt 1 (.flt 2 (.flt 3 (.flt 4 (.flt 5 (.flt 6 (.flt 7 (.flt 8 (.flt 9 (.alt 10 (.alt 11 .done .stop) .stop))))))))))) mixed_ (by kernel_rfl) (fun w => St w0 D0 Dv [(1, .cells b [.int .i64 n.LineNet.Exchanges, .slice p n.LineNet.Lines.length c, .int .i64 n.LineNet.Hops, .slice p_1 n.LineNet.Loops.length c_1, .map bm, .int .i64 n.left] 85), (2, .cells b_1 [.func (.func fid) first.toArray cap.toArray] 108), (3, .own p_3 l.length c_3 cs 3 1)] w) (fun a w => ∃ (p_4 : Option Addr) (c_4 : Nat) (cs_1 : List Value), Frm 32 [] [(3, .pointer (some ⟨b, 0, none⟩)), (5, .pointer (some ⟨b_1, 0, none⟩)), (6, .int .i64 0), (7, .slice p_3 l.length c_3), (10, .slice p_2 way.length c_2), (11, .int .i64 (way.length : Int)), (12, .int .i64 v12_0), (16, .slice p_3 l.length c_3), (27, .slice p_4 ([rv]).length c_4)] a ∧ St w0 D0 Dv [(1, .cells b [.int .i64 n.LineNet.Exchanges, .slice p n.LineNet.Lines.length c, .int .i64 n.LineNet.Hops, .slice p_1 n.LineNet.Loops.length c_1, .map bm, .int .i64 n.left] 85), (2, .cells b_1 [.func (.func fid) first.toArray cap.toArray] 108), (3, .own p_3 l.length c_3 cs 3 1), (4, .own p_4 ([rv]).length c_4 cs_1 3 1)] w ∧ Reps C_int Dv ([rv]) cs_1) (hS.weak (ms := [(1, .cells b [.int .i64 n.LineNet.Exchanges, .slice p n.LineNet.Lines.length c, .int .i64 n.LineNet.Hops, .slice p_1 n.LineNet.Loops.length c_1, .map bm, .int .i64 n.left] 85), (2, .cells b_1 [.func (.func fid) first.toArray cap.toArray] 108), (3, .own p_3 l.length c_3 cs 3 1)]) ⟨rfl, rfl, rfl, trivial⟩).drew (fun _ _ _ _ h => h) ?_ ?_
  ·replace hS := hS.drew
   have hle0 := hS.le
   refine stepV (i := 0) rfl hF (fun w hS => Y.move hF rfl) rfl fun a hF => stepV (i := 1) rfl hF (fun w hS => Y.fieldAddr fo_108_0 hF rfl) rfl fun a hF => stepV (i := 2) rfl hF (fun w hS => Y.load1L 2 sz_106 hF rfl hS rfl rfl) rfl fun a hF => stepV (i := 3) rfl hF (fun w hS => Y.fieldAddr fo_85_0 hF rfl) rfl fun a hF => stepV (i := 4) rfl hF (fun w hS => Y.fieldAddr fo_25_1 hF rfl) rfl fun a hF => stepV (i := 5) rfl hF (fun w hS => Y.load1L 1 sz_22 hF rfl hS rfl rfl) rfl fun a hF => stepV (i := 6) rfl hF (fun w hS => Y.move hF rfl) rfl fun a hF => ?_
   obtain ⟨b_4, o_2, hE_2, hY_2⟩ := Y.indexS (P := Tryd.prog) (C := C_LineLine) (xs := n.LineNet.Lines) (T := 22) (x := (.tmp 21)) (y := (.tmp 22)) u_22 sz_68 hF rfl rfl (hs).1 hx_1
   obtain ⟨cc_2, hc_2, hcell_2⟩ := hE_2.open
   obtain rfl := C_LineLine.open hc_2
   refine stepV (i := 7) rfl hF (fun w hS => hY_2) rfl fun a hF => stepV (i := 8) rfl hF (fun w hS => Y.fieldAddr fo_68_2 hF rfl) rfl fun a hF => stepV (i := 9) rfl hF (fun w hS => Y.loadNE (o := o_2) (k := 2) sz_40 hF rfl (hcell_2 _ hS.stab) rfl rfl) rfl fun a hF => oneV (i := 10) rfl ?_ trivial
   refine O.callVP (f := fid) (first := first) (cap := cap) (us := [.agg #[.int .i64 e_1.Delay.Low, .int .i64 e_1.Delay.High]]) hf.1 hF hS rfl rfl (hf.2 _ _ hS.below hS.le hS.stab e_1.Delay rv hx_2) rfl fun a w hF hS => nil (then_n ⟨hS.weak ⟨rfl, rfl, rfl, trivial⟩, ?_⟩)
   refine oneV (i := 11) rfl ?_ trivial
   have hr_2 : Reps C_int Dv [rv] [.int .i64 rv] := Reps.cons (C := C_int) (x := rv) (c := [.int .i64 rv]) (r := []) rfl (Reps.nil)
   refine O.buildSlice (E := 3) (C := C_int) (xs := [rv]) (cs := [.int .i64 rv]) (us := [.int .i64 rv]) (parts := [(0, (.tmp 26))]) 4 hF hS rfl (by kernel_rfl) hr_2 rfl rfl rfl fun p_5 c_5 a w hF hS => nil (then_n ⟨hS.weak ⟨rfl, rfl, rfl, trivial⟩, ?_⟩)
   exact toTailV ⟨p_5, c_5, ([.int .i64 rv]), hF.weak ⟨rfl, rfl, rfl, rfl, rfl, rfl, rfl, rfl, rfl, trivial⟩, hS.weak ⟨rfl, rfl, rfl, rfl, trivial⟩, hr_2⟩
  rintro a w ⟨p_4, c_4, cs_1, hF, hS, hj⟩
  obtain ⟨hg, h⟩ := ite_some h
  refine O.append (C := C_int) (xs := l) (ys := [rv]) 3 gr_32 hF rfl rfl hS rfl (src_own (i := 4) hS rfl) hr hj hg rfl fun p_6 c_6 a w hF hS hr_3 => step hF (Y.assign hF rfl) rfl fun a hF => nil (blk_n (then_n (region (step hF (Y.add hF rfl rfl) rfl fun a hF => step hF (Y.move hF rfl) rfl fun a hF => nil (then_n (⟨_, nxt_some h, (l ++ [rv]), (wr (v12_0 + 1)), Dv, p_6, c_6, (cs ++ cs_1), rfl, hlev, hF.weak ⟨rfl, rfl, rfl, rfl, rfl, rfl, rfl, trivial⟩, hS.weak ⟨rfl, rfl, rfl, trivial⟩, hr_3⟩))))))
 replace h := cond_f h hbv
 refine exit_ (then_x (then_x (blk_hit (then_n ?_))))
 replace h := ext_some h hxo
 refine seq (region (step hF (Y.move hF rfl) rfl fun a hF => ?_))
 obtain ⟨Dv_1, hlev_1, hs_3, hS⟩ := hS.freezeC (C := C_int) (i := 3) (xs := l) rfl hr
 obtain ⟨rv_1, hx_3, h⟩ := bind_some h
 refine O.callP (us := [.slice p_3 l.length c_3]) ca_95 hF hS (line_sum_int__ok hS.stab l hs_3 rv_1 hx_3) rfl rfl fun a w hF hS => step hF (Y.assign hF rfl) rfl fun a hF => nil (then_n (ret_ ?_))
 obtain rfl := some_inj h
 exact leaveP Tryd.results84 hF hS (.cons (.tmp rfl) .nil) .nil rfl
noncomputable def line_net_delay_b1 (n : line_net) (exchange : Int) : (Int × Int × Int) → Option ((Int × Int × Int) ⊕ (Span × Bool))
 | (v24_0, z, z_1) =>
  cond (decide (v24_0 < (n.LineNet.Loops.length : Int)))
  ((idx n.LineNet.Loops v24_0).bind fun e =>
  if ¬ v24_0 < 0 then
  cond (((bitsOp .and (gshr n.left v24_0) 1) == 0) && (e.Exchange == exchange))
  (nxt (wr (v24_0 + 1), (if wr (Int.tdiv (wr (e.Read.Low + 1)) 2) > z then wr (Int.tdiv (wr (e.Read.Low + 1)) 2) else z), (if wr (Int.tdiv e.Read.High 2) < z_1 then wr (Int.tdiv e.Read.High 2) else z_1)))
  (nxt (wr (v24_0 + 1), z, z_1))
  else none)
  (ext (some ((Span.mk z z_1), decide (z ≤ z_1))))
noncomputable def line_net_delay (n : line_net) (exchange : Int) (way : (List Int)) : Option (Span × Bool) :=
  (line_low).bind fun rv =>
  (line_net_all n way (line_side.mk (fun q_z => line_low_1 q_z))).bind fun rv_1 =>
  (line_high).bind fun rv_2 =>
  (line_net_all n way (line_side.mk (fun q_z => line_high_1 q_z))).bind fun rv_3 =>
  loopU (line_net_delay_b1 n exchange) (0, rv_1, rv_3)
theorem line_net_delay_ok {w0 : World} {D0 : Stab} (hD : D0.on w0) (n : line_net) (exchange : Int) (way : (List Int)) {p : Option Addr} {c : Nat} {p_1 : Option Addr} {c_1 : Nat} {bm : Option Nat} {p_2 : Option Addr} {c_2 : Nat} (hs : SRc C_LineLine D0 n.LineNet.Lines p c) (hs_1 : SRc C_LineLoop D0 n.LineNet.Loops p_1 c_1) (hm : MapB kl_115 (C_sl (C_sl C_int)) false D0 n.ways bm) (hs_2 : SRc C_int D0 way p_2 c_2) (out : (Span × Bool)) (h : line_net_delay n exchange way = some out) : Calls Tryd.prog 67 [.agg #[.int .i64 n.LineNet.Exchanges, .slice p n.LineNet.Lines.length c, .int .i64 n.LineNet.Hops, .slice p_1 n.LineNet.Loops.length c_1, .map bm, .int .i64 n.left], .int .i64 exchange, .slice p_2 way.length c_2].toArray w0 (RetP D0 w0 (.tuple #[.agg #[.int .i64 out.1.Low, .int .i64 out.1.High], .bool out.2])) := by
 refine enter _ 64 Tryd.func67 rfl Tryd.ntmps67 rfl fun a hF => ?_
 replace hF : Frm 64 [] [(0, .agg #[.int .i64 n.LineNet.Exchanges, .slice p n.LineNet.Lines.length c, .int .i64 n.LineNet.Hops, .slice p_1 n.LineNet.Loops.length c_1, .map bm, .int .i64 n.left]), (1, .int .i64 exchange), (2, .slice p_2 way.length c_2)] a := hF
 have hS := St.start hD
 unfold line_net_delay at h
 refine seq (region (O.box (cs := [.int .i64 n.LineNet.Exchanges, .slice p n.LineNet.Lines.length c, .int .i64 n.LineNet.Hops, .slice p_1 n.LineNet.Loops.length c_1, .map bm, .int .i64 n.left]) 1 hF rfl rfl hS rfl fun b a w hF hS => O.alloc 2 zc_40 hF hS rfl fun b_1 a w hF hS => step hF (Y.assign hF rfl) rfl fun a hF => nil (then_n (seq ?_))))
 obtain ⟨rv, hx, h⟩ := bind_some h
 obtain ⟨rv_1, hx_1, h⟩ := bind_some h
 obtain ⟨rv_2, hx_2, h⟩ := bind_some h
 obtain ⟨rv_3, hx_3, h⟩ := bind_some h
 refine drawsV 10 (.flt 0 (.flt 1 (.flt 4 (.flt 5 (.alt 2 (.alt 3 (.alt 6 (.alt 7 (.flt 8 (.alt 9 .done .stop)) (.alt 9 (.alt 7 (.flt 8 .done) .stop) .stop)) (.alt 9 (.alt 6 (.alt 7 (.flt 8 .done) .stop) .stop) .stop)) (.alt 9 (.alt 3 (.alt 6 (.alt 7 (.flt 8 .done) .stop) .stop) .stop) .stop)) (.alt 9 (.alt 2 (.alt 3 (.alt 6 (.alt 7 (.flt 8 .done) .stop) .stop) .stop) .stop) .stop)))))) mixed_ (by kernel_rfl) (fun w => St w0 D0 D0 [(1, .cells b [.int .i64 n.LineNet.Exchanges, .slice p n.LineNet.Lines.length c, .int .i64 n.LineNet.Hops, .slice p_1 n.LineNet.Loops.length c_1, .map bm, .int .i64 n.left] 85), (2, .cells b_1 [.int .i64 0, .int .i64 0] 40)] w) (fun a w => ∃ (b_2 : Nat), Frm 64 [] [(1, .int .i64 exchange), (3, .pointer (some ⟨b, 0, none⟩)), (6, .pointer (some ⟨b_1, 0, none⟩)), (7, .bool false), (8, .pointer (some ⟨b_2, 0, none⟩)), (19, .agg #[.int .i64 rv_1, .int .i64 rv_3])] a ∧ St w0 D0 D0 [(1, .cells b [.int .i64 n.LineNet.Exchanges, .slice p n.LineNet.Lines.length c, .int .i64 n.LineNet.Hops, .slice p_1 n.LineNet.Loops.length c_1, .map bm, .int .i64 n.left] 85), (2, .cells b_1 [.int .i64 0, .int .i64 0] 40), (3, .cells b_2 [.int .i64 0, .int .i64 0] 40)] w) (hS.weak (ms := [(1, .cells b [.int .i64 n.LineNet.Exchanges, .slice p n.LineNet.Lines.length c, .int .i64 n.LineNet.Hops, .slice p_1 n.LineNet.Loops.length c_1, .map bm, .int .i64 n.left] 85), (2, .cells b_1 [.int .i64 0, .int .i64 0] 40)]) ⟨rfl, rfl, trivial⟩).drew (fun _ _ _ _ h => h) ?_ ?_
 ·replace hS := hS.drew
  have hle0 := hS.le
  refine stepV (i := 0) rfl hF (fun w hS => Y.loadNL 1 sz_85 hF rfl hS rfl rfl rfl) rfl fun a hF => stepV (i := 1) rfl hF (fun w hS => Y.move hF rfl) rfl fun a hF => stepV (i := 4) rfl hF (fun w hS => Y.loadNL 1 sz_85 hF rfl hS rfl rfl rfl) rfl fun a hF => stepV (i := 5) rfl hF (fun w hS => Y.move hF rfl) rfl fun a hF => oneV (i := 2) rfl ?_ ?_
  ·skip
   refine O.callP (us := []) ca_85 hF hS (line_low_ok hS.stab rv hx) rfl rfl fun a w hF hS => nil (then_n ⟨hS.weak ⟨rfl, rfl, trivial⟩, ?_⟩)
   refine oneV (i := 3) rfl ?_ ?_
   ·skip
    refine O.callP (us := [.agg #[.int .i64 n.LineNet.Exchanges, .slice p n.LineNet.Lines.length c, .int .i64 n.LineNet.Hops, .slice p_1 n.LineNet.Loops.length c_1, .map bm, .int .i64 n.left], .slice p_2 way.length c_2, .agg #[.func (.func 96) #[] #[]]]) ca_84 hF hS (line_net_all_ok hS.stab n way (line_side.mk (fun q_z => line_low_1 q_z)) hs hs_1 hm hs_2 (show FnOk_106 _ _ 96 [] [] (fun q_z => line_low_1 q_z) from ⟨ca_96, fun w D hb hle hon q_z r h => line_low_1_ok hon q_z r h⟩) rv_1 hx_1) rfl rfl fun a w hF hS => nil (then_n ⟨hS.weak ⟨rfl, rfl, trivial⟩, ?_⟩)
    refine oneV (i := 6) rfl ?_ ?_
    ·skip
     refine O.callP (us := []) ca_86 hF hS (line_high_ok hS.stab rv_2 hx_2) rfl rfl fun a w hF hS => nil (then_n ⟨hS.weak ⟨rfl, rfl, trivial⟩, ?_⟩)
     refine oneV (i := 7) rfl ?_ ?_
     ·skip
      refine O.callP (us := [.agg #[.int .i64 n.LineNet.Exchanges, .slice p n.LineNet.Lines.length c, .int .i64 n.LineNet.Hops, .slice p_1 n.LineNet.Loops.length c_1, .map bm, .int .i64 n.left], .slice p_2 way.length c_2, .agg #[.func (.func 97) #[] #[]]]) ca_84 hF hS (line_net_all_ok hS.stab n way (line_side.mk (fun q_z => line_high_1 q_z)) hs hs_1 hm hs_2 (show FnOk_106 _ _ 97 [] [] (fun q_z => line_high_1 q_z) from ⟨ca_97, fun w D hb hle hon q_z r h => line_high_1_ok hon q_z r h⟩) rv_3 hx_3) rfl rfl fun a w hF hS => nil (then_n ⟨hS.weak ⟨rfl, rfl, trivial⟩, ?_⟩)
      refine stepV (i := 8) rfl hF (fun w hS => Y.build (parts := [(0, (.tmp 14)), (1, (.tmp 18))]) (cs := #[.int .i64 rv_1, .int .i64 rv_3]) hF rfl (by kernel_rfl)) rfl fun a hF => oneV (i := 9) rfl ?_ trivial
      refine O.alloc 3 zc_40 hF hS rfl fun b_3 a w hF hS => nil (then_n ⟨hS.weak ⟨rfl, rfl, trivial⟩, ?_⟩)
      exact toTailV ⟨b_3, hF.weak ⟨rfl, rfl, rfl, rfl, rfl, rfl, trivial⟩, hS.weak ⟨rfl, rfl, rfl, trivial⟩⟩
     refine oneV (i := 9) rfl ?_ trivial
     refine O.alloc 3 zc_40 hF hS rfl fun b_4 a w hF hS => nil (then_n ⟨hS.weak ⟨rfl, rfl, trivial⟩, ?_⟩)
     refine oneV (i := 7) rfl ?_ trivial
     refine O.callP (us := [.agg #[.int .i64 n.LineNet.Exchanges, .slice p n.LineNet.Lines.length c, .int .i64 n.LineNet.Hops, .slice p_1 n.LineNet.Loops.length c_1, .map bm, .int .i64 n.left], .slice p_2 way.length c_2, .agg #[.func (.func 97) #[] #[]]]) ca_84 hF hS (line_net_all_ok hS.stab n way (line_side.mk (fun q_z => line_high_1 q_z)) hs hs_1 hm hs_2 (show FnOk_106 _ _ 97 [] [] (fun q_z => line_high_1 q_z) from ⟨ca_97, fun w D hb hle hon q_z r h => line_high_1_ok hon q_z r h⟩) rv_3 hx_3) rfl rfl fun a w hF hS => nil (then_n ⟨hS.weak ⟨rfl, rfl, trivial⟩, ?_⟩)
     refine stepV (i := 8) rfl hF (fun w hS => Y.build (parts := [(0, (.tmp 14)), (1, (.tmp 18))]) (cs := #[.int .i64 rv_1, .int .i64 rv_3]) hF rfl (by kernel_rfl)) rfl fun a hF => toTailV ⟨b_4, hF.weak ⟨rfl, rfl, rfl, rfl, rfl, rfl, trivial⟩, hS.weak ⟨rfl, rfl, rfl, trivial⟩⟩
    refine oneV (i := 9) rfl ?_ trivial
    refine O.alloc 3 zc_40 hF hS rfl fun b_5 a w hF hS => nil (then_n ⟨hS.weak ⟨rfl, rfl, trivial⟩, ?_⟩)
    refine oneV (i := 6) rfl ?_ trivial
    refine O.callP (us := []) ca_86 hF hS (line_high_ok hS.stab rv_2 hx_2) rfl rfl fun a w hF hS => nil (then_n ⟨hS.weak ⟨rfl, rfl, trivial⟩, ?_⟩)
    refine oneV (i := 7) rfl ?_ trivial
    refine O.callP (us := [.agg #[.int .i64 n.LineNet.Exchanges, .slice p n.LineNet.Lines.length c, .int .i64 n.LineNet.Hops, .slice p_1 n.LineNet.Loops.length c_1, .map bm, .int .i64 n.left], .slice p_2 way.length c_2, .agg #[.func (.func 97) #[] #[]]]) ca_84 hF hS (line_net_all_ok hS.stab n way (line_side.mk (fun q_z => line_high_1 q_z)) hs hs_1 hm hs_2 (show FnOk_106 _ _ 97 [] [] (fun q_z => line_high_1 q_z) from ⟨ca_97, fun w D hb hle hon q_z r h => line_high_1_ok hon q_z r h⟩) rv_3 hx_3) rfl rfl fun a w hF hS => nil (then_n ⟨hS.weak ⟨rfl, rfl, trivial⟩, ?_⟩)
    refine stepV (i := 8) rfl hF (fun w hS => Y.build (parts := [(0, (.tmp 14)), (1, (.tmp 18))]) (cs := #[.int .i64 rv_1, .int .i64 rv_3]) hF rfl (by kernel_rfl)) rfl fun a hF => toTailV ⟨b_5, hF.weak ⟨rfl, rfl, rfl, rfl, rfl, rfl, trivial⟩, hS.weak ⟨rfl, rfl, rfl, trivial⟩⟩
   refine oneV (i := 9) rfl ?_ trivial
   refine O.alloc 3 zc_40 hF hS rfl fun b_6 a w hF hS => nil (then_n ⟨hS.weak ⟨rfl, rfl, trivial⟩, ?_⟩)
   refine oneV (i := 3) rfl ?_ trivial
   refine O.callP (us := [.agg #[.int .i64 n.LineNet.Exchanges, .slice p n.LineNet.Lines.length c, .int .i64 n.LineNet.Hops, .slice p_1 n.LineNet.Loops.length c_1, .map bm, .int .i64 n.left], .slice p_2 way.length c_2, .agg #[.func (.func 96) #[] #[]]]) ca_84 hF hS (line_net_all_ok hS.stab n way (line_side.mk (fun q_z => line_low_1 q_z)) hs hs_1 hm hs_2 (show FnOk_106 _ _ 96 [] [] (fun q_z => line_low_1 q_z) from ⟨ca_96, fun w D hb hle hon q_z r h => line_low_1_ok hon q_z r h⟩) rv_1 hx_1) rfl rfl fun a w hF hS => nil (then_n ⟨hS.weak ⟨rfl, rfl, trivial⟩, ?_⟩)
   refine oneV (i := 6) rfl ?_ trivial
   refine O.callP (us := []) ca_86 hF hS (line_high_ok hS.stab rv_2 hx_2) rfl rfl fun a w hF hS => nil (then_n ⟨hS.weak ⟨rfl, rfl, trivial⟩, ?_⟩)
   refine oneV (i := 7) rfl ?_ trivial
   refine O.callP (us := [.agg #[.int .i64 n.LineNet.Exchanges, .slice p n.LineNet.Lines.length c, .int .i64 n.LineNet.Hops, .slice p_1 n.LineNet.Loops.length c_1, .map bm, .int .i64 n.left], .slice p_2 way.length c_2, .agg #[.func (.func 97) #[] #[]]]) ca_84 hF hS (line_net_all_ok hS.stab n way (line_side.mk (fun q_z => line_high_1 q_z)) hs hs_1 hm hs_2 (show FnOk_106 _ _ 97 [] [] (fun q_z => line_high_1 q_z) from ⟨ca_97, fun w D hb hle hon q_z r h => line_high_1_ok hon q_z r h⟩) rv_3 hx_3) rfl rfl fun a w hF hS => nil (then_n ⟨hS.weak ⟨rfl, rfl, trivial⟩, ?_⟩)
   refine stepV (i := 8) rfl hF (fun w hS => Y.build (parts := [(0, (.tmp 14)), (1, (.tmp 18))]) (cs := #[.int .i64 rv_1, .int .i64 rv_3]) hF rfl (by kernel_rfl)) rfl fun a hF => toTailV ⟨b_6, hF.weak ⟨rfl, rfl, rfl, rfl, rfl, rfl, trivial⟩, hS.weak ⟨rfl, rfl, rfl, trivial⟩⟩
  refine oneV (i := 9) rfl ?_ trivial
  refine O.alloc 3 zc_40 hF hS rfl fun b_7 a w hF hS => nil (then_n ⟨hS.weak ⟨rfl, rfl, trivial⟩, ?_⟩)
  refine oneV (i := 2) rfl ?_ trivial
  refine O.callP (us := []) ca_85 hF hS (line_low_ok hS.stab rv hx) rfl rfl fun a w hF hS => nil (then_n ⟨hS.weak ⟨rfl, rfl, trivial⟩, ?_⟩)
  refine oneV (i := 3) rfl ?_ trivial
  refine O.callP (us := [.agg #[.int .i64 n.LineNet.Exchanges, .slice p n.LineNet.Lines.length c, .int .i64 n.LineNet.Hops, .slice p_1 n.LineNet.Loops.length c_1, .map bm, .int .i64 n.left], .slice p_2 way.length c_2, .agg #[.func (.func 96) #[] #[]]]) ca_84 hF hS (line_net_all_ok hS.stab n way (line_side.mk (fun q_z => line_low_1 q_z)) hs hs_1 hm hs_2 (show FnOk_106 _ _ 96 [] [] (fun q_z => line_low_1 q_z) from ⟨ca_96, fun w D hb hle hon q_z r h => line_low_1_ok hon q_z r h⟩) rv_1 hx_1) rfl rfl fun a w hF hS => nil (then_n ⟨hS.weak ⟨rfl, rfl, trivial⟩, ?_⟩)
  refine oneV (i := 6) rfl ?_ trivial
  refine O.callP (us := []) ca_86 hF hS (line_high_ok hS.stab rv_2 hx_2) rfl rfl fun a w hF hS => nil (then_n ⟨hS.weak ⟨rfl, rfl, trivial⟩, ?_⟩)
  refine oneV (i := 7) rfl ?_ trivial
  refine O.callP (us := [.agg #[.int .i64 n.LineNet.Exchanges, .slice p n.LineNet.Lines.length c, .int .i64 n.LineNet.Hops, .slice p_1 n.LineNet.Loops.length c_1, .map bm, .int .i64 n.left], .slice p_2 way.length c_2, .agg #[.func (.func 97) #[] #[]]]) ca_84 hF hS (line_net_all_ok hS.stab n way (line_side.mk (fun q_z => line_high_1 q_z)) hs hs_1 hm hs_2 (show FnOk_106 _ _ 97 [] [] (fun q_z => line_high_1 q_z) from ⟨ca_97, fun w D hb hle hon q_z r h => line_high_1_ok hon q_z r h⟩) rv_3 hx_3) rfl rfl fun a w hF hS => nil (then_n ⟨hS.weak ⟨rfl, rfl, trivial⟩, ?_⟩)
  refine stepV (i := 8) rfl hF (fun w hS => Y.build (parts := [(0, (.tmp 14)), (1, (.tmp 18))]) (cs := #[.int .i64 rv_1, .int .i64 rv_3]) hF rfl (by kernel_rfl)) rfl fun a hF => toTailV ⟨b_7, hF.weak ⟨rfl, rfl, rfl, rfl, rfl, rfl, trivial⟩, hS.weak ⟨rfl, rfl, rfl, trivial⟩⟩
 rintro a w ⟨b_2, hF, hS⟩
 refine O.store (us := [.int .i64 rv_1, .int .i64 rv_3]) 3 sz_40 hF rfl rfl rfl rfl hS rfl rfl fun a w hF hS => nil (then_n (seq (seq (region (step hF (Y.fieldAddr fo_85_0 hF rfl) rfl fun a hF => step hF (Y.fieldAddr fo_25_3 hF rfl) rfl fun a hF => step hF (Y.load1L 1 sz_23 hF rfl hS rfl rfl) rfl fun a hF => step hF (Y.lenSl u_23 hF rfl) rfl fun a hF => step hF (Y.move hF rfl) rfl fun a hF => nil (then_n (block (loop_cut (body := line_net_delay_b1 n exchange) (out := out) (fun s a w => ∃ (v24_0 : Int) (z : Int) (z_1 : Int), s = (v24_0, z, z_1) ∧ Frm 64 [] [(1, .int .i64 exchange), (3, .pointer (some ⟨b, 0, none⟩)), (6, .pointer (some ⟨b_1, 0, none⟩)), (7, .bool false), (8, .pointer (some ⟨b_2, 0, none⟩)), (22, .slice p_1 n.LineNet.Loops.length c_1), (23, .int .i64 (n.LineNet.Loops.length : Int)), (24, .int .i64 v24_0)] a ∧ St w0 D0 D0 [(1, .cells b [.int .i64 n.LineNet.Exchanges, .slice p n.LineNet.Lines.length c, .int .i64 n.LineNet.Hops, .slice p_1 n.LineNet.Loops.length c_1, .map bm, .int .i64 n.left] 85), (2, .cells b_1 [.int .i64 0, .int .i64 0] 40), (3, .cells b_2 [.int .i64 z, .int .i64 z_1] 40)] w) (0, rv_1, rv_3) h ⟨0, rv_1, rv_3, rfl, hF.weak ⟨rfl, rfl, rfl, rfl, rfl, rfl, rfl, rfl, trivial⟩, hS.weak ⟨rfl, rfl, rfl, trivial⟩⟩ ?_))))))))
 rintro s a w xo ⟨v24_0, z, z_1, rfl, hF, hS⟩ h hxo
 unfold line_net_delay_b1 at h
 dsimp only at h
 refine seq (region (step hF (Y.lss hF rfl rfl) rfl fun a hF => nil (then_n (seq (cond_b hF rfl (fun hbv => ?_) (fun hbv => ?_))))))
 ·replace h := cond_t h hbv
  refine skip_ (then_n (seq (block (seq (region (step hF (Y.move hF rfl) rfl fun a hF => ?_))))))
  obtain ⟨e, hx_4, h⟩ := bind_some h
  obtain ⟨b_8, o, hE, hY⟩ := Y.indexS (P := Tryd.prog) (C := C_LineLoop) (xs := n.LineNet.Loops) (T := 23) (x := (.tmp 22)) (y := (.tmp 24)) u_23 sz_71 hF rfl rfl (hs_1).1 hx_4
  obtain ⟨cc, hc, hcell⟩ := hE.open
  obtain rfl := C_LineLoop.open hc
  refine step hF (hY) rfl fun a hF => step hF (Y.loadNE (o := o) (k := 0) sz_71 hF rfl (hcell _ hS.stab) rfl rfl) rfl fun a hF => O.alloc 4 zc_71 hF hS rfl fun b_9 a w hF hS => step hF (Y.assign hF rfl) rfl fun a hF => O.store (us := [.int .i64 e.Exchange, .int .i64 e.Read.Low, .int .i64 e.Read.High]) 4 sz_71 hF rfl rfl rfl rfl hS rfl rfl fun a w hF hS => nil (then_n (seq (region (step hF (Y.fieldAddr fo_85_2 hF rfl) rfl fun a hF => step hF (Y.load1L 1 sz_3 hF rfl hS rfl rfl) rfl fun a hF => step hF (Y.move hF rfl) rfl fun a hF => ?_))))
  obtain ⟨hg, h⟩ := ite_some h
  refine step hF (Y.shr hF rfl rfl hg) rfl fun a hF => step hF (Y.and hF rfl rfl) rfl fun a hF => step hF (Y.eql hF rfl rfl) rfl fun a hF => step hF (Y.move hF rfl) rfl fun a hF => join (N := 64) (rs := []) (w0 := w0) (D0 := D0) 5 (us := [(1, .int .i64 exchange), (3, .pointer (some ⟨b, 0, none⟩)), (6, .pointer (some ⟨b_1, 0, none⟩)), (7, .bool false), (8, .pointer (some ⟨b_2, 0, none⟩)), (10, .pointer (some ⟨b_9, 0, none⟩)), (22, .slice p_1 n.LineNet.Loops.length c_1), (23, .int .i64 (n.LineNet.Loops.length : Int)), (24, .int .i64 v24_0), (40, .bool (((bitsOp .and (gshr n.left v24_0) 1) == 0) && (e.Exchange == exchange)))]) (ms := [(1, .cells b [.int .i64 n.LineNet.Exchanges, .slice p n.LineNet.Lines.length c, .int .i64 n.LineNet.Hops, .slice p_1 n.LineNet.Loops.length c_1, .map bm, .int .i64 n.left] 85), (2, .cells b_1 [.int .i64 0, .int .i64 0] 40), (3, .cells b_2 [.int .i64 z, .int .i64 z_1] 40), (4, .cells b_9 [.int .i64 e.Exchange, .int .i64 e.Read.Low, .int .i64 e.Read.High] 71)]) (D' := D0) ?_ ?_
  ·rcases bcases ((bitsOp .and (gshr n.left v24_0) 1) == 0) with hbv_1 | hbv_1
   ·skip
    refine guard_on hF rfl rfl hbv_1 (step hF (Y.fieldAddr fo_71_0 hF rfl) rfl fun a hF => guard_on hF rfl rfl hbv_1 (step hF (Y.load1L 4 sz_3 hF rfl hS rfl rfl) rfl fun a hF => guard_on hF rfl rfl hbv_1 (step hF (Y.move hF rfl) rfl fun a hF => guard_on hF rfl rfl hbv_1 (step hF (Y.eql hF rfl rfl) rfl fun a hF => step hF (Y.pick_t hF rfl hbv_1 rfl) rfl fun a hF => nil (then_n ⟨hF.weak ⟨rfl, rfl, rfl, rfl, rfl, rfl, rfl, rfl, rfl, (by rw [hbv_1]; rfl), trivial⟩, hS.weak ⟨rfl, rfl, rfl, rfl, trivial⟩⟩)))))
   refine guard_off hF rfl rfl hbv_1 rfl fun a hF => guard_off hF rfl rfl hbv_1 rfl fun a hF => guard_off hF rfl rfl hbv_1 rfl fun a hF => guard_off hF rfl rfl hbv_1 rfl fun a hF => step hF (Y.pick_f hF rfl hbv_1 rfl) rfl fun a hF => nil (then_n ⟨hF.weak ⟨rfl, rfl, rfl, rfl, rfl, rfl, rfl, rfl, rfl, (by rw [hbv_1]; rfl), trivial⟩, hS.weak ⟨rfl, rfl, rfl, rfl, trivial⟩⟩)
  intro a w hF hS
  refine nil (then_n (cond_b hF rfl (fun hbv_2 => ?_) (fun hbv_2 => ?_)))
  ·replace h := cond_t h hbv_2
   refine region (step hF (Y.fieldAddr fo_40_0 hF rfl) rfl fun a hF => step hF (Y.load1L 3 sz_3 hF rfl hS rfl rfl) rfl fun a hF => step hF (Y.fieldAddr fo_71_1 hF rfl) rfl fun a hF => step hF (Y.fieldAddr fo_40_0 hF rfl) rfl fun a hF => step hF (Y.load1L 4 sz_3 hF rfl hS rfl rfl) rfl fun a hF => step hF (Y.add hF rfl rfl) rfl fun a hF => step hF (Y.quo hF rfl rfl (by decide)) rfl fun a hF => step hF (Y.max2 hF rfl rfl) rfl fun a hF => step hF (Y.fieldAddr fo_40_1 hF rfl) rfl fun a hF => step hF (Y.load1L 3 sz_3 hF rfl hS rfl rfl) rfl fun a hF => step hF (Y.fieldAddr fo_71_1 hF rfl) rfl fun a hF => step hF (Y.fieldAddr fo_40_1 hF rfl) rfl fun a hF => step hF (Y.load1L 4 sz_3 hF rfl hS rfl rfl) rfl fun a hF => step hF (Y.quo hF rfl rfl (by decide)) rfl fun a hF => step hF (Y.min2 hF rfl rfl) rfl fun a hF => step hF (Y.build (parts := [(0, (.tmp 48)), (1, (.tmp 55))]) (cs := #[.int .i64 (if wr (Int.tdiv (wr (e.Read.Low + 1)) 2) > z then wr (Int.tdiv (wr (e.Read.Low + 1)) 2) else z), .int .i64 (if wr (Int.tdiv e.Read.High 2) < z_1 then wr (Int.tdiv e.Read.High 2) else z_1)]) hF rfl (by kernel_rfl)) rfl fun a hF => O.store (us := [.int .i64 (if wr (Int.tdiv (wr (e.Read.Low + 1)) 2) > z then wr (Int.tdiv (wr (e.Read.Low + 1)) 2) else z), .int .i64 (if wr (Int.tdiv e.Read.High 2) < z_1 then wr (Int.tdiv e.Read.High 2) else z_1)]) 3 sz_40 hF rfl rfl rfl rfl hS rfl rfl fun a w hF hS => nil (blk_n (then_n (region (step hF (Y.add hF rfl rfl) rfl fun a hF => step hF (Y.move hF rfl) rfl fun a hF => nil (then_n (⟨_, nxt_some h, (wr (v24_0 + 1)), (if wr (Int.tdiv (wr (e.Read.Low + 1)) 2) > z then wr (Int.tdiv (wr (e.Read.Low + 1)) 2) else z), (if wr (Int.tdiv e.Read.High 2) < z_1 then wr (Int.tdiv e.Read.High 2) else z_1), rfl, hF.weak ⟨rfl, rfl, rfl, rfl, rfl, rfl, rfl, rfl, trivial⟩, hS.weak ⟨rfl, rfl, rfl, trivial⟩⟩)))))))
  replace h := cond_f h hbv_2
  refine skip_ (blk_n (then_n (region (step hF (Y.add hF rfl rfl) rfl fun a hF => step hF (Y.move hF rfl) rfl fun a hF => nil (then_n (⟨_, nxt_some h, (wr (v24_0 + 1)), z, z_1, rfl, hF.weak ⟨rfl, rfl, rfl, rfl, rfl, rfl, rfl, rfl, trivial⟩, hS.weak ⟨rfl, rfl, rfl, trivial⟩⟩))))))
 replace h := cond_f h hbv
 refine exit_ (then_x (then_x (blk_hit (then_n ?_))))
 replace h := ext_some h hxo
 refine seq (drawsV 7 (.flt 0 (.flt 1 (.flt 2 (.flt 3 (.flt 4 (.flt 5 (.alt 6 .done .stop))))))) mixed_ (by kernel_rfl) (fun w => St w0 D0 D0 [(1, .cells b [.int .i64 n.LineNet.Exchanges, .slice p n.LineNet.Lines.length c, .int .i64 n.LineNet.Hops, .slice p_1 n.LineNet.Loops.length c_1, .map bm, .int .i64 n.left] 85), (3, .cells b_2 [.int .i64 z, .int .i64 z_1] 40)] w) (fun a w => Frm 64 [] [(6, .pointer (some ⟨b_1, 0, none⟩)), (7, .bool false), (63, .bool (decide (z ≤ z_1)))] a ∧ St w0 D0 D0 [(1, .cells b [.int .i64 n.LineNet.Exchanges, .slice p n.LineNet.Lines.length c, .int .i64 n.LineNet.Hops, .slice p_1 n.LineNet.Loops.length c_1, .map bm, .int .i64 n.left] 85), (2, .cells b_1 [.int .i64 z, .int .i64 z_1] 40), (3, .cells b_2 [.int .i64 z, .int .i64 z_1] 40)] w) (hS.weak (ms := [(1, .cells b [.int .i64 n.LineNet.Exchanges, .slice p n.LineNet.Lines.length c, .int .i64 n.LineNet.Hops, .slice p_1 n.LineNet.Loops.length c_1, .map bm, .int .i64 n.left] 85), (3, .cells b_2 [.int .i64 z, .int .i64 z_1] 40)]) ⟨rfl, rfl, trivial⟩).drew (fun _ _ _ _ h => h) ?_ ?_)
 ·replace hS := hS.drew
  have hle0 := hS.le
  refine stepV (i := 0) rfl hF (fun w hS => Y.loadNL 3 sz_40 hF rfl hS rfl rfl rfl) rfl fun a hF => stepV (i := 1) rfl hF (fun w hS => Y.fieldAddr fo_40_0 hF rfl) rfl fun a hF => stepV (i := 2) rfl hF (fun w hS => Y.load1L 3 sz_3 hF rfl hS rfl rfl) rfl fun a hF => stepV (i := 3) rfl hF (fun w hS => Y.fieldAddr fo_40_1 hF rfl) rfl fun a hF => stepV (i := 4) rfl hF (fun w hS => Y.load1L 3 sz_3 hF rfl hS rfl rfl) rfl fun a hF => stepV (i := 5) rfl hF (fun w hS => Y.leq hF rfl rfl) rfl fun a hF => oneV (i := 6) rfl ?_ trivial
  refine O.store (us := [.int .i64 z, .int .i64 z_1]) 2 sz_40 hF rfl rfl rfl rfl hS rfl rfl fun a w hF hS => nil (then_n ⟨hS.weak ⟨rfl, rfl, trivial⟩, ?_⟩)
  exact toTailV ⟨hF.weak ⟨rfl, rfl, rfl, trivial⟩, hS.weak ⟨rfl, rfl, rfl, trivial⟩⟩
 rintro a w ⟨hF, hS⟩
 refine step hF (Y.assign hF rfl) rfl fun a hF => nil (then_n (ret_ ?_))
 obtain rfl := some_inj h
 exact leaveP Tryd.results67 hF hS (.cons (.cellN 2 sz_40 rfl rfl rfl) (.cons (.tmp rfl) .nil)) .nil rfl
noncomputable def line_net_reaches_b1 (n : line_net) (exchange : Int) : (Bool × Int) → Option ((Bool × Int) ⊕ Bool)
 | (v4_0, v6_0) =>
  cond (decide (v6_0 < 7))
  (cond (decide ((((mget kl_115 n.ways (line_kind.mk exchange v6_0)).getD (([] : List (List Int)) : (List (List Int)))).length : Int) > 0))
  (ext (some true))
  (nxt (v4_0, wr (v6_0 + 1))))
  (ext (some false))
noncomputable def line_net_reaches (n : line_net) (exchange : Int) : Option Bool :=
  loopU (line_net_reaches_b1 n exchange) (false, 0)
theorem line_net_reaches_ok {w0 : World} {D0 : Stab} (hD : D0.on w0) (n : line_net) (exchange : Int) {p : Option Addr} {c : Nat} {p_1 : Option Addr} {c_1 : Nat} {bm : Option Nat} (hs : SRc C_LineLine D0 n.LineNet.Lines p c) (hs_1 : SRc C_LineLoop D0 n.LineNet.Loops p_1 c_1) (hm : MapB kl_115 (C_sl (C_sl C_int)) false D0 n.ways bm) (out : Bool) (h : line_net_reaches n exchange = some out) : Calls Tryd.prog 80 [.agg #[.int .i64 n.LineNet.Exchanges, .slice p n.LineNet.Lines.length c, .int .i64 n.LineNet.Hops, .slice p_1 n.LineNet.Loops.length c_1, .map bm, .int .i64 n.left], .int .i64 exchange].toArray w0 (RetP D0 w0 (.bool out)) := by
 refine enter _ 18 Tryd.func80 rfl Tryd.ntmps80 rfl fun a hF => ?_
 replace hF : Frm 18 [] [(0, .agg #[.int .i64 n.LineNet.Exchanges, .slice p n.LineNet.Lines.length c, .int .i64 n.LineNet.Hops, .slice p_1 n.LineNet.Loops.length c_1, .map bm, .int .i64 n.left]), (1, .int .i64 exchange)] a := hF
 have hS := St.start hD
 unfold line_net_reaches at h
 refine seq (region (O.box (cs := [.int .i64 n.LineNet.Exchanges, .slice p n.LineNet.Lines.length c, .int .i64 n.LineNet.Hops, .slice p_1 n.LineNet.Loops.length c_1, .map bm, .int .i64 n.left]) 1 hF rfl rfl hS rfl fun b a w hF hS => step hF (Y.assign hF rfl) rfl fun a hF => nil (then_n (seq (seq (region (step hF (Y.move hF rfl) rfl fun a hF => nil (then_n (block (loop_cut (body := line_net_reaches_b1 n exchange) (out := out) (fun s a w => ∃ (v4_0 : Bool) (v6_0 : Int), s = (v4_0, v6_0) ∧ Frm 18 [] [(1, .int .i64 exchange), (2, .pointer (some ⟨b, 0, none⟩)), (4, .bool v4_0), (6, .int .i64 v6_0)] a ∧ St w0 D0 D0 [(1, .cells b [.int .i64 n.LineNet.Exchanges, .slice p n.LineNet.Lines.length c, .int .i64 n.LineNet.Hops, .slice p_1 n.LineNet.Loops.length c_1, .map bm, .int .i64 n.left] 85)] w) (false, 0) h ⟨false, 0, rfl, hF.weak ⟨rfl, rfl, rfl, rfl, trivial⟩, hS.weak ⟨rfl, trivial⟩⟩ ?_))))))))))
 rintro s a w xo ⟨v4_0, v6_0, rfl, hF, hS⟩ h hxo
 unfold line_net_reaches_b1 at h
 dsimp only at h
 refine seq (region (step hF (Y.lss hF rfl rfl) rfl fun a hF => nil (then_n (seq (cond_b hF rfl (fun hbv => ?_) (fun hbv => ?_))))))
 ·replace h := cond_t h hbv
  refine skip_ (then_n (seq (block (seq (region (step hF (Y.move hF rfl) rfl fun a hF => step hF (Y.assign hF rfl) rfl fun a hF => nil (then_n (seq (region (step hF (Y.fieldAddr fo_85_1 hF rfl) rfl fun a hF => step hF (Y.load1L 1 sz_83 hF rfl hS rfl rfl) rfl fun a hF => step hF (Y.move hF rfl) rfl fun a hF => step hF (Y.move hF rfl) rfl fun a hF => step hF (Y.build (parts := [(0, (.tmp 11)), (1, (.tmp 12))]) (cs := #[.int .i64 exchange, .int .i64 v6_0]) hF rfl (by kernel_rfl)) rfl fun a hF => ?_))))))))))
  obtain ⟨cc, hc, hY⟩ := Y.lookupS (kl := kl_115) (C := (C_sl (C_sl C_int))) (agg := false) (xs := n.ways) (x := (.tmp 10)) (y := (.tmp 13)) (z := [.slice none 0 0]) (z0 := (([] : List (List Int)) : (List (List Int)))) false  mt_83 (fun _ => rfl) (⟨_, _, rfl, SRc.nil⟩) (line_kind.mk exchange v6_0) hm.toS hF rfl rfl
  obtain ⟨p_2, c_2, rfl, hs_2⟩ := hc
  refine step hF ((show Yields _ _ _ _ (.slice p_2 ((mget kl_115 n.ways (line_kind.mk exchange v6_0)).getD (([] : List (List Int)) : (List (List Int)))).length c_2) from hY hS.stab)) rfl fun a hF => step hF (Y.lenSl u_26 hF rfl) rfl fun a hF => step hF (Y.gtr hF rfl rfl) rfl fun a hF => nil (then_n (cond_b hF rfl (fun hbv_1 => ?_) (fun hbv_1 => ?_)))
  ·replace h := cond_t h hbv_1
   refine seq (region (step hF (Y.assign hF rfl) rfl fun a hF => nil (then_n (ret_ (blk_r (then_r (then_r (blk_r (then_r ?_)))))))))
   replace h := ext_some h hxo
   obtain rfl := some_inj h
   exact leaveP Tryd.results80 hF hS (.cons (.tmp rfl) .nil) .nil rfl
  replace h := cond_f h hbv_1
  refine skip_ (blk_n (then_n (region (step hF (Y.add hF rfl rfl) rfl fun a hF => step hF (Y.move hF rfl) rfl fun a hF => nil (then_n (⟨_, nxt_some h, v4_0, (wr (v6_0 + 1)), rfl, hF.weak ⟨rfl, rfl, rfl, rfl, trivial⟩, hS.weak ⟨rfl, trivial⟩⟩))))))
 replace h := cond_f h hbv
 refine exit_ (then_x (then_x (blk_hit (then_n ?_))))
 replace h := ext_some h hxo
 refine seq (region (step hF (Y.assign hF rfl) rfl fun a hF => nil (then_n (ret_ ?_))))
 obtain rfl := some_inj h
 exact leaveP Tryd.results80 hF hS (.cons (.tmp rfl) .nil) .nil rfl
end Go.Proofs.YthdbokigcfbgeaaDoor.Rt
