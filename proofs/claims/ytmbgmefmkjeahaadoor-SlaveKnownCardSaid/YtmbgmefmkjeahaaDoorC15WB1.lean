/- Walks of the functions of this seat: what each Go function comes to, as a Lean function, and the proof. Part WB1. Under no conditions. -/
import Derived.Test.YtmbgmefmkjeahaaDoorC15W0
set_option linter.unusedVariables false
set_option linter.unusedSimpArgs false
set_option maxRecDepth 100000
set_option maxHeartbeats 4000000
namespace Go.Proofs.YtmbgmefmkjeahaaDoor.Rt
open Go Go.RowKit
noncomputable def r0To (low : Int) (high : Int) : Option Span :=
  some (Span.mk low high)
theorem r0To_ok {w0 : World} {D0 : Stab} (hD : D0.on w0) (low : Int) (high : Int) (out : Span) (h : r0To low high = some out) : Calls Tryd.prog 43 [iv low, iv high].toArray w0 (RetP D0 w0 (.agg #[iv out.Low, iv out.High])) := by
 refine enter _ 8 Tryd.func43 rfl Tryd.ntmps43 rfl fun a hF => ?_
 replace hF : Frm 8 [] [(0, iv low), (1, iv high)] a := hF
 have hS := St.start hD
 unfold r0To at h
 refine seq (region (O.alloc 1 zc_33 hF hS rfl fun b a w hF hS => nT (seq (region (step hF (Y.move hF rfl) rfl fun a hF => step hF (Y.move hF rfl) rfl fun a hF => step hF (Y.build (parts := [(0, (.tmp 5)), (1, (.tmp 6))]) (cs := #[iv low, iv high]) hF rfl (by kernel_rfl)) rfl fun a hF => O.store (us := [iv low, iv high]) 1 sz_33 hF rfl rfl rfl rfl hS rfl rfl fun a w hF hS => nT (ret_ ?_))))))
 obtain rfl := some_inj h
 exact leaveP Tryd.results43 hF hS (.cons (.cellN 1 sz_33 rfl rfl rfl) .nil) .nil rfl
noncomputable def r0First_b1 (av : (List Int)) (b : (List Int)) : Int → Option (Int ⊕ Int)
 | i =>
  (cond ((decide (i < (av.length : Int))) && (decide (i < (b.length : Int)))) ((idx av i).bind fun e =>
  (idx b i).bind fun e_1 =>
  some (e == e_1)) (some false)).bind fun t =>
  cond t
  (nxt (wr (i + 1)))
  (ext (some i))
noncomputable def r0First (av : (List Int)) (b : (List Int)) : Option Int :=
  loopU (r0First_b1 av b) 0
theorem r0First_ok {w0 : World} {D0 : Stab} (hD : D0.on w0) (av : (List Int)) (b : (List Int)) {p : Option Addr} {c : Nat} {p_1 : Option Addr} {c_1 : Nat} (hs : SRc C_int D0 av p c) (hs_1 : SRc C_int D0 b p_1 c_1) (out : Int) (h : r0First av b = some out) : Calls Tryd.prog 59 [.slice p av.length c, .slice p_1 b.length c_1].toArray w0 (RetP D0 w0 (iv out)) := by
 refine enter _ 30 Tryd.func59 rfl Tryd.ntmps59 rfl fun a hF => ?_
 replace hF : Frm 30 [] [(0, .slice p av.length c), (1, .slice p_1 b.length c_1)] a := hF
 have hS := St.start hD
 unfold r0First at h
 refine seq (region (step hF (Y.assign hF rfl) rfl fun a hF => nT (seq (region (step hF (Y.assign hF rfl) rfl fun a hF => nT (seq (block (loop_cut (body := r0First_b1 av b) (out := out) (fun i a w => Frm 30 [] [(0, .slice p av.length c), (1, .slice p_1 b.length c_1), (4, iv 0), (5, iv i)] a ∧ St w0 D0 D0 [] w) 0 h ⟨hF.weak (AF rfl), hS.weak trivial⟩ ?_))))))))
 rintro i a w xo ⟨hF, hS⟩ h hxo
 unfold r0First_b1 at h
 dsimp only at h
 refine seq (seq (draws 21 [(0, true), (1, true), (2, true), (3, true), (4, true), (5, true), (6, true), (7, true), (8, true), (9, true), (10, true), (11, true), (12, true), (13, true), (14, true), (15, true), (16, true), (17, true), (18, true), (19, true), (20, true)] mixed_ (by kernel_rfl) (fun w => St w0 D0 D0 _ w) hS.drew (fun _ _ _ _ h => h) ?_))
 replace hS := hS.drew
 refine stepT (i := 0) rfl hF (fun w hS => Y.move hF rfl) rfl fun a hF => stepT (i := 1) rfl hF (fun w hS => Y.move hF rfl) rfl fun a hF => stepT (i := 2) rfl hF (fun w hS => Y.lenSl u_26 hF rfl) rfl fun a hF => stepT (i := 3) rfl hF (fun w hS => Y.lss hF rfl rfl) rfl fun a hF => stepT (i := 4) rfl hF (fun w hS => Y.move hF rfl) rfl fun a hF => joinT (N := 30) (rs := []) (w0 := w0) (D0 := D0) 5 (us := [(0, .slice p av.length c), (1, .slice p_1 b.length c_1), (4, iv 0), (5, iv i), (15, .bool ((decide (i < (av.length : Int))) && (decide (i < (b.length : Int)))))]) (ms := []) (D' := D0) ?_ ?_
 ·rcases bcases (decide (i < (av.length : Int))) with hbv | hbv
  ·skip
   refine stepT_on (i := 5) rfl hF rfl rfl hbv (fun w hS => Y.move hF rfl) rfl fun a hF => stepT_on (i := 6) rfl hF rfl rfl hbv (fun w hS => Y.move hF rfl) rfl fun a hF => stepT_on (i := 7) rfl hF rfl rfl hbv (fun w hS => Y.lenSl u_26 hF rfl) rfl fun a hF => stepT_on (i := 8) rfl hF rfl rfl hbv (fun w hS => Y.lss hF rfl rfl) rfl fun a hF => stepT (i := 9) rfl hF (fun w hS => Y.pick_t hF rfl hbv rfl) rfl fun a hF => toTail ⟨hF.weak ⟨rfl, rfl, rfl, rfl, (by rw [hbv]; rfl), trivial⟩, hS.weak trivial⟩
  refine stepT_off (i := 5) rfl hF rfl rfl hbv rfl fun a hF => stepT_off (i := 6) rfl hF rfl rfl hbv rfl fun a hF => stepT_off (i := 7) rfl hF rfl rfl hbv rfl fun a hF => stepT_off (i := 8) rfl hF rfl rfl hbv rfl fun a hF => stepT (i := 9) rfl hF (fun w hS => Y.pick_f hF rfl hbv rfl) rfl fun a hF => toTail ⟨hF.weak ⟨rfl, rfl, rfl, rfl, (by rw [hbv]; rfl), trivial⟩, hS.weak trivial⟩
 intro a w hF hS
 refine stepT (i := 10) rfl hF (fun w hS => Y.move hF rfl) rfl fun a hF => ?_
 obtain ⟨t, ht, h⟩ := bind_some h
 refine joinT (N := 30) (rs := []) (w0 := w0) (D0 := D0) 10 (us := [(0, .slice p av.length c), (1, .slice p_1 b.length c_1), (4, iv 0), (5, iv i), (26, .bool t)]) (ms := []) (D' := D0) ?_ ?_
 ·rcases bcases ((decide (i < (av.length : Int))) && (decide (i < (b.length : Int)))) with hbv_1 | hbv_1
  ·skip
   replace h := cond_t ht hbv_1
   refine stepT_on (i := 11) rfl hF rfl rfl hbv_1 (fun w hS => Y.move hF rfl) rfl fun a hF => stepT_on (i := 12) rfl hF rfl rfl hbv_1 (fun w hS => Y.move hF rfl) rfl fun a hF => ?_
   obtain ⟨e, hx, h⟩ := bind_some h
   obtain ⟨b_1, o, hE, hY⟩ := Y.indexS (P := Tryd.prog) (C := C_int) (xs := av) (T := 26) (x := (.tmp 17)) (y := (.tmp 18)) u_26 sz_3 hF rfl rfl (hs).1 hx
   obtain ⟨cc, hc, hcell⟩ := hE.open
   obtain rfl := hc
   refine stepT_on (i := 13) rfl hF rfl rfl hbv_1 (fun w hS => hY) rfl fun a hF => stepT_on (i := 14) rfl hF rfl rfl hbv_1 (fun w hS => Y.load1 sz_3 hF rfl (hcell _ hS.stab 0 _ rfl)) rfl fun a hF => stepT_on (i := 15) rfl hF rfl rfl hbv_1 (fun w hS => Y.move hF rfl) rfl fun a hF => stepT_on (i := 16) rfl hF rfl rfl hbv_1 (fun w hS => Y.move hF rfl) rfl fun a hF => ?_
   obtain ⟨e_1, hx_1, h⟩ := bind_some h
   obtain ⟨b_2, o_1, hE_1, hY_1⟩ := Y.indexS (P := Tryd.prog) (C := C_int) (xs := b) (T := 26) (x := (.tmp 21)) (y := (.tmp 22)) u_26 sz_3 hF rfl rfl (hs_1).1 hx_1
   obtain ⟨cc_1, hc_1, hcell_1⟩ := hE_1.open
   obtain rfl := hc_1
   refine stepT_on (i := 17) rfl hF rfl rfl hbv_1 (fun w hS => hY_1) rfl fun a hF => stepT_on (i := 18) rfl hF rfl rfl hbv_1 (fun w hS => Y.load1 sz_3 hF rfl (hcell_1 _ hS.stab 0 _ rfl)) rfl fun a hF => stepT_on (i := 19) rfl hF rfl rfl hbv_1 (fun w hS => Y.eql hF rfl rfl) rfl fun a hF => stepT (i := 20) rfl hF (fun w hS => Y.pick_t hF rfl hbv_1 rfl) rfl fun a hF => ?_
   obtain rfl := some_inj h
   exact toTail ⟨hF.weak (AF rfl), hS.weak trivial⟩
  replace h := cond_f ht hbv_1
  refine stepT_off (i := 11) rfl hF rfl rfl hbv_1 rfl fun a hF => stepT_off (i := 12) rfl hF rfl rfl hbv_1 rfl fun a hF => stepT_off (i := 13) rfl hF rfl rfl hbv_1 rfl fun a hF => stepT_off (i := 14) rfl hF rfl rfl hbv_1 rfl fun a hF => stepT_off (i := 15) rfl hF rfl rfl hbv_1 rfl fun a hF => stepT_off (i := 16) rfl hF rfl rfl hbv_1 rfl fun a hF => stepT_off (i := 17) rfl hF rfl rfl hbv_1 rfl fun a hF => stepT_off (i := 18) rfl hF rfl rfl hbv_1 rfl fun a hF => stepT_off (i := 19) rfl hF rfl rfl hbv_1 rfl fun a hF => stepT (i := 20) rfl hF (fun w hS => Y.pick_f hF rfl hbv_1 rfl) rfl fun a hF => ?_
  obtain rfl := some_inj h
  exact toTail ⟨hF.weak (AF rfl), hS.weak trivial⟩
 intro a w hF hS
 refine toTail (nT (cond_b hF rfl (fun hbv_2 => ?_) (fun hbv_2 => ?_)))
 ·replace h := cond_t h hbv_2
  refine skip_ (then_n (block (region (step hF (Y.move hF rfl) rfl fun a hF => step hF (Y.add hF rfl rfl) rfl fun a hF => step hF (Y.assign hF rfl) rfl fun a hF => nil (blk_n (then_n (⟨_, nxt_some h, hF.weak (AF rfl), hS.weak trivial⟩)))))))
 replace h := cond_f h hbv_2
 refine exit_ (then_x (then_x (blk_hit (then_n ?_))))
 replace h := ext_some h hxo
 refine seq (region (step hF (Y.move hF rfl) rfl fun a hF => step hF (Y.assign hF rfl) rfl fun a hF => nT (ret_ ?_)))
 obtain rfl := some_inj h
 exact leaveP Tryd.results59 hF hS (.cons (.tmp rfl) .nil) .nil rfl
noncomputable def r0Alike (av : (List Int)) (b : (List Int)) : Option Bool :=
  (cond ((av.length : Int) == (b.length : Int)) ((r0First av b).bind fun rv =>
  some (rv == (av.length : Int))) (some false)).bind fun t =>
  some t
theorem r0Alike_ok {w0 : World} {D0 : Stab} (hD : D0.on w0) (av : (List Int)) (b : (List Int)) {p : Option Addr} {c : Nat} {p_1 : Option Addr} {c_1 : Nat} (hs : SRc C_int D0 av p c) (hs_1 : SRc C_int D0 b p_1 c_1) (out : Bool) (h : r0Alike av b = some out) : Calls Tryd.prog 18 [.slice p av.length c, .slice p_1 b.length c_1].toArray w0 (RetP D0 w0 (.bool out)) := by
 refine enter _ 18 Tryd.func18 rfl Tryd.ntmps18 rfl fun a hF => ?_
 replace hF : Frm 18 [] [(0, .slice p av.length c), (1, .slice p_1 b.length c_1)] a := hF
 have hS := St.start hD
 unfold r0Alike at h
 refine seq (region (step hF (Y.assign hF rfl) rfl fun a hF => nT (seq (region (step hF (Y.move hF rfl) rfl fun a hF => step hF (Y.lenSl u_26 hF rfl) rfl fun a hF => step hF (Y.move hF rfl) rfl fun a hF => step hF (Y.lenSl u_26 hF rfl) rfl fun a hF => step hF (Y.eql hF rfl rfl) rfl fun a hF => step hF (Y.move hF rfl) rfl fun a hF => ?_)))))
 obtain ⟨t, ht, h⟩ := bind_some h
 refine join (N := 18) (rs := []) (w0 := w0) (D0 := D0) 7 (us := [(4, .bool false), (17, .bool t)]) (ms := []) (D' := D0) ?_ ?_
 ·rcases bcases ((av.length : Int) == (b.length : Int)) with hbv | hbv
  ·skip
   replace h := cond_t ht hbv
   refine guard_on hF rfl rfl hbv (step hF (Y.move hF rfl) rfl fun a hF => guard_on hF rfl rfl hbv (step hF (Y.move hF rfl) rfl fun a hF => guard_on hF rfl rfl hbv ?_))
   obtain ⟨rv, hx, h⟩ := bind_some h
   refine O.callP (us := [.slice p av.length c, .slice p_1 b.length c_1]) ca_59 hF hS (r0First_ok hS.stab av b hs hs_1 rv hx) rfl rfl fun a w hF hS => guard_on hF rfl rfl hbv (step hF (Y.move hF rfl) rfl fun a hF => guard_on hF rfl rfl hbv (step hF (Y.lenSl u_26 hF rfl) rfl fun a hF => guard_on hF rfl rfl hbv (step hF (Y.eql hF rfl rfl) rfl fun a hF => step hF (Y.pick_t hF rfl hbv rfl) rfl fun a hF => ?_)))
   obtain rfl := some_inj h
   exact nT ⟨hF.weak ⟨rfl, rfl, trivial⟩, hS.weak trivial⟩
  replace h := cond_f ht hbv
  refine guard_off hF rfl rfl hbv rfl fun a hF => guard_off hF rfl rfl hbv rfl fun a hF => guard_off hF rfl rfl hbv rfl fun a hF => guard_off hF rfl rfl hbv rfl fun a hF => guard_off hF rfl rfl hbv rfl fun a hF => guard_off hF rfl rfl hbv rfl fun a hF => step hF (Y.pick_f hF rfl hbv rfl) rfl fun a hF => ?_
  obtain rfl := some_inj h
  exact nT ⟨hF.weak ⟨rfl, rfl, trivial⟩, hS.weak trivial⟩
 intro a w hF hS
 refine step hF (Y.assign hF rfl) rfl fun a hF => nT (ret_ ?_)
 obtain rfl := some_inj h
 exact leaveP Tryd.results18 hF hS (.cons (.tmp rfl) .nil) .nil rfl
noncomputable def r0AlikeRows_b1 (av : (List (List Int))) (b : (List (List Int))) : (Bool × Int) → Option ((Bool × Int) ⊕ Bool)
 | (same, i) =>
  cond (same && (decide (i < (av.length : Int))))
  ((idx av i).bind fun e =>
  (idx b i).bind fun e_1 =>
  (r0Alike e e_1).bind fun rv =>
  nxt (rv, wr (i + 1)))
  (ext (some same))
noncomputable def r0AlikeRows (av : (List (List Int))) (b : (List (List Int))) : Option Bool :=
  loopU (r0AlikeRows_b1 av b) ((av.length : Int) == (b.length : Int), 0)
theorem r0AlikeRows_ok {w0 : World} {D0 : Stab} (hD : D0.on w0) (av : (List (List Int))) (b : (List (List Int))) {p : Option Addr} {c : Nat} {p_1 : Option Addr} {c_1 : Nat} (hs : SRc (C_sl C_int) D0 av p c) (hs_1 : SRc (C_sl C_int) D0 b p_1 c_1) (out : Bool) (h : r0AlikeRows av b = some out) : Calls Tryd.prog 63 [.slice p av.length c, .slice p_1 b.length c_1].toArray w0 (RetP D0 w0 (.bool out)) := by
 refine enter _ 31 Tryd.func63 rfl Tryd.ntmps63 rfl fun a hF => ?_
 replace hF : Frm 31 [] [(0, .slice p av.length c), (1, .slice p_1 b.length c_1)] a := hF
 have hS := St.start hD
 unfold r0AlikeRows at h
 refine seq (region (step hF (Y.assign hF rfl) rfl fun a hF => nT (seq (region (step hF (Y.move hF rfl) rfl fun a hF => step hF (Y.lenSl u_38 hF rfl) rfl fun a hF => step hF (Y.move hF rfl) rfl fun a hF => step hF (Y.lenSl u_38 hF rfl) rfl fun a hF => step hF (Y.eql hF rfl rfl) rfl fun a hF => step hF (Y.assign hF rfl) rfl fun a hF => nT (seq (seq (region (step hF (Y.assign hF rfl) rfl fun a hF => nT (block (loop_cut (body := r0AlikeRows_b1 av b) (out := out) (fun s a w => ∃ (same : Bool) (i : Int), ∃ (Dv : Stab), s = (same, i) ∧ D0.le Dv ∧ Frm 31 [] [(0, .slice p av.length c), (1, .slice p_1 b.length c_1), (4, .bool false), (5, .bool same), (6, iv i)] a ∧ St w0 D0 Dv [] w) ((av.length : Int) == (b.length : Int), 0) h ⟨((av.length : Int) == (b.length : Int)), 0, D0, rfl, Stab.le.refl _, hF.weak (AF rfl), hS.weak trivial⟩ ?_)))))))))))
 rintro s a w xo ⟨same, i, Dv, rfl, hlev, hF, hS⟩ h hxo
 unfold r0AlikeRows_b1 at h
 dsimp only at h
 replace hs := hs.mono hlev
 replace hs_1 := hs_1.mono hlev
 refine seq (seq (region (step hF (Y.move hF rfl) rfl fun a hF => step hF (Y.move hF rfl) rfl fun a hF => join (N := 31) (rs := []) (w0 := w0) (D0 := D0) 5 (us := [(0, .slice p av.length c), (1, .slice p_1 b.length c_1), (4, .bool false), (5, .bool same), (6, iv i), (18, .bool (same && (decide (i < (av.length : Int)))))]) (ms := []) (D' := Dv) ?_ ?_)))
 ·rcases bcases same with hbv | hbv
  ·skip
   refine guard_on hF rfl rfl hbv (step hF (Y.move hF rfl) rfl fun a hF => guard_on hF rfl rfl hbv (step hF (Y.move hF rfl) rfl fun a hF => guard_on hF rfl rfl hbv (step hF (Y.lenSl u_38 hF rfl) rfl fun a hF => guard_on hF rfl rfl hbv (step hF (Y.lss hF rfl rfl) rfl fun a hF => step hF (Y.pick_t hF rfl hbv rfl) rfl fun a hF => nT ⟨hF.weak ⟨rfl, rfl, rfl, rfl, rfl, (by rw [hbv]; rfl), trivial⟩, hS.weak trivial⟩))))
  refine guard_off hF rfl rfl hbv rfl fun a hF => guard_off hF rfl rfl hbv rfl fun a hF => guard_off hF rfl rfl hbv rfl fun a hF => guard_off hF rfl rfl hbv rfl fun a hF => step hF (Y.pick_f hF rfl hbv rfl) rfl fun a hF => nT ⟨hF.weak ⟨rfl, rfl, rfl, rfl, rfl, (by rw [hbv]; rfl), trivial⟩, hS.weak trivial⟩
 intro a w hF hS
 refine nT (cond_b hF rfl (fun hbv_1 => ?_) (fun hbv_1 => ?_))
 ·replace h := cond_t h hbv_1
  refine skip_ (then_n (seq (block ?_)))
  obtain ⟨e, hx, h⟩ := bind_some h
  obtain ⟨e_1, hx_1, h⟩ := bind_some h
  refine drawsV 8 (.flt 0 (.flt 1 (.flt 2 (.flt 3 (.flt 4 (.flt 5 (.flt 6 (.flt 7 .done)))))))) mixed_ (by kernel_rfl) (fun w => St w0 D0 Dv [] w) (fun a w => ∃ (p_2 : Option Addr) (c_2 : Nat) (p_3 : Option Addr) (c_3 : Nat), Frm 31 [] [(0, .slice p av.length c), (1, .slice p_1 b.length c_1), (4, .bool false), (5, .bool same), (6, iv i), (24, .slice p_2 e.length c_2), (28, .slice p_3 e_1.length c_3)] a ∧ St w0 D0 Dv [] w ∧ SRc C_int Dv e p_2 c_2 ∧ SRc C_int Dv e_1 p_3 c_3) (hS.weak (ms := []) trivial).drew (fun _ _ _ _ h => h) ?_ ?_
  ·replace hS := hS.drew
   have hle0 := hS.le
   refine stepV (i := 0) rfl hF (fun w hS => Y.move hF rfl) rfl fun a hF => stepV (i := 1) rfl hF (fun w hS => Y.move hF rfl) rfl fun a hF => ?_
   obtain ⟨b_3, o_2, hE_2, hY_2⟩ := Y.indexS (P := Tryd.prog) (C := (C_sl C_int)) (xs := av) (T := 38) (x := (.tmp 21)) (y := (.tmp 22)) u_38 sz_26 hF rfl rfl (hs).1 hx
   obtain ⟨cc_2, hc_2, hcell_2⟩ := hE_2.open
   obtain ⟨p_4, c_4, rfl, hs_4⟩ := hc_2
   refine stepV (i := 2) rfl hF (fun w hS => hY_2) rfl fun a hF => stepV (i := 3) rfl hF (fun w hS => Y.load1 sz_26 hF rfl (hcell_2 _ hS.stab 0 _ rfl)) rfl fun a hF => stepV (i := 4) rfl hF (fun w hS => Y.move hF rfl) rfl fun a hF => stepV (i := 5) rfl hF (fun w hS => Y.move hF rfl) rfl fun a hF => ?_
   obtain ⟨b_4, o_3, hE_3, hY_3⟩ := Y.indexS (P := Tryd.prog) (C := (C_sl C_int)) (xs := b) (T := 38) (x := (.tmp 25)) (y := (.tmp 26)) u_38 sz_26 hF rfl rfl (hs_1).1 hx_1
   obtain ⟨cc_3, hc_3, hcell_3⟩ := hE_3.open
   obtain ⟨p_5, c_5, rfl, hs_5⟩ := hc_3
   refine stepV (i := 6) rfl hF (fun w hS => hY_3) rfl fun a hF => stepV (i := 7) rfl hF (fun w hS => Y.load1 sz_26 hF rfl (hcell_3 _ hS.stab 0 _ rfl)) rfl fun a hF => toTailV ⟨p_4, c_4, p_5, c_5, hF.weak (AF rfl), hS.weak trivial, hs_4, hs_5⟩
  rintro a w ⟨p_2, c_2, p_3, c_3, hF, hS, hj, hj_1⟩
  obtain ⟨rv, hx_2, h⟩ := bind_some h
  refine O.callP (us := [.slice p_2 e.length c_2, .slice p_3 e_1.length c_3]) ca_18 hF hS (r0Alike_ok hS.stab e e_1 hj hj_1 rv hx_2) rfl rfl fun a w hF hS => step hF (Y.assign hF rfl) rfl fun a hF => nil (blk_n (then_n (region (step hF (Y.move hF rfl) rfl fun a hF => step hF (Y.add hF rfl rfl) rfl fun a hF => step hF (Y.assign hF rfl) rfl fun a hF => nT (⟨_, nxt_some h, rv, (wr (i + 1)), Dv, rfl, hlev, hF.weak (AF rfl), hS.weak trivial⟩)))))
 replace h := cond_f h hbv_1
 refine exit_ (then_x (then_x (blk_hit (then_n ?_))))
 replace h := ext_some h hxo
 refine seq (region (step hF (Y.move hF rfl) rfl fun a hF => step hF (Y.assign hF rfl) rfl fun a hF => nT (ret_ ?_)))
 obtain rfl := some_inj h
 exact leaveP Tryd.results63 hF hS (.cons (.tmp rfl) .nil) .nil rfl
noncomputable def slave_within (n : Int) (first : Int) (last : Int) : Option Bool :=
  some ((decide (first ≤ n)) && (decide (n ≤ last)))
theorem slave_within_ok {w0 : World} {D0 : Stab} (hD : D0.on w0) (n : Int) (first : Int) (last : Int) (out : Bool) (h : slave_within n first last = some out) : Calls Tryd.prog 60 [iv n, iv first, iv last].toArray w0 (RetP D0 w0 (.bool out)) := by
 refine enter _ 15 Tryd.func60 rfl Tryd.ntmps60 rfl fun a hF => ?_
 replace hF : Frm 15 [] [(0, iv n), (1, iv first), (2, iv last)] a := hF
 have hS := St.start hD
 unfold slave_within at h
 refine seq (region (step hF (Y.assign hF rfl) rfl fun a hF => nT (seq (region (step hF (Y.move hF rfl) rfl fun a hF => step hF (Y.move hF rfl) rfl fun a hF => step hF (Y.leq hF rfl rfl) rfl fun a hF => step hF (Y.move hF rfl) rfl fun a hF => join (N := 15) (rs := []) (w0 := w0) (D0 := D0) 4 (us := [(6, .bool false), (14, .bool ((decide (first ≤ n)) && (decide (n ≤ last))))]) (ms := []) (D' := D0) ?_ ?_)))))
 ·rcases bcases (decide (first ≤ n)) with hbv | hbv
  ·skip
   refine guard_on hF rfl rfl hbv (step hF (Y.move hF rfl) rfl fun a hF => guard_on hF rfl rfl hbv (step hF (Y.move hF rfl) rfl fun a hF => guard_on hF rfl rfl hbv (step hF (Y.leq hF rfl rfl) rfl fun a hF => step hF (Y.pick_t hF rfl hbv rfl) rfl fun a hF => nT ⟨hF.weak ⟨rfl, (by rw [hbv]; rfl), trivial⟩, hS.weak trivial⟩)))
  refine guard_off hF rfl rfl hbv rfl fun a hF => guard_off hF rfl rfl hbv rfl fun a hF => guard_off hF rfl rfl hbv rfl fun a hF => step hF (Y.pick_f hF rfl hbv rfl) rfl fun a hF => nT ⟨hF.weak ⟨rfl, (by rw [hbv]; rfl), trivial⟩, hS.weak trivial⟩
 intro a w hF hS
 refine step hF (Y.assign hF rfl) rfl fun a hF => nT (ret_ ?_)
 obtain rfl := some_inj h
 exact leaveP Tryd.results60 hF hS (.cons (.tmp rfl) .nil) .nil rfl
noncomputable def slave_Check_b2 (l : SlaveLine) : (Bool × Int) → Option ((Bool × Int) ⊕ Int)
 | (ok_1, v48_0) =>
  cond (decide (v48_0 < (l.Events.length : Int)))
  ((idx l.Events v48_0).bind fun e_1 =>
  cond (e_1.Kind == 0)
  ((cond ok_1 ((slave_within e_1.First 0 1).bind fun rv_4 =>
  some rv_4) (some false)).bind fun t_3 =>
  (cond t_3 ((slave_within e_1.Count 0 60).bind fun rv_5 =>
  some rv_5) (some false)).bind fun t_4 =>
  (cond t_4 ((slave_within e_1.Lost 0 3).bind fun rv_6 =>
  some rv_6) (some false)).bind fun t_5 =>
  nxt (t_5, wr (v48_0 + 1)))
  (cond (e_1.Kind == 1)
  ((cond ok_1 ((slave_within e_1.Count 0 60).bind fun rv_7 =>
  some rv_7) (some false)).bind fun t_6 =>
  (cond t_6 ((slave_within e_1.Lost 0 3).bind fun rv_8 =>
  some rv_8) (some false)).bind fun t_7 =>
  nxt (t_7, wr (v48_0 + 1)))
  (cond (e_1.Kind == 2)
  ((cond ok_1 ((slave_within e_1.Who 0 (wr ((l.Starts.length : Int) - 1))).bind fun rv_9 =>
  some rv_9) (some false)).bind fun t_8 =>
  (cond t_8 ((slave_within e_1.Shown 0 (wr (l.Ring - 1))).bind fun rv_10 =>
  some rv_10) (some false)).bind fun t_9 =>
  nxt (t_9, wr (v48_0 + 1)))
  (nxt (false, wr (v48_0 + 1))))))
  (ext (cond (!ok_1)
  (some 70)
  (some 0)))
noncomputable def slave_Check_b1 (l : SlaveLine) : (Bool × Int) → Option ((Bool × Int) ⊕ Int)
 | (ok, v26_0) =>
  cond (decide (v26_0 < (l.Starts.length : Int)))
  ((idx l.Starts v26_0).bind fun e =>
  (cond ok ((slave_within e.Shown 0 (wr (l.Ring - 1))).bind fun rv_2 =>
  some rv_2) (some false)).bind fun t_1 =>
  (cond t_1 ((slave_within e.Last 0 1).bind fun rv_3 =>
  some rv_3) (some false)).bind fun t_2 =>
  nxt (t_2, wr (v26_0 + 1)))
  (ext (loopU (slave_Check_b2 l) (ok, 0)))
noncomputable def slave_Check (l : SlaveLine) : Option Int :=
  (slave_within l.Ring 2 60).bind fun rv =>
  (cond rv ((slave_within (l.Starts.length : Int) 1 4).bind fun rv_1 =>
  some rv_1) (some false)).bind fun t =>
  loopU (slave_Check_b1 l) ((t && (decide ((l.Events.length : Int) ≤ 10))), 0)
theorem slave_Check_ok {w0 : World} {D0 : Stab} (hD : D0.on w0) (l : SlaveLine) {p : Option Addr} {c : Nat} {p_1 : Option Addr} {c_1 : Nat} (hs : SRc C_SlaveStart D0 l.Starts p c) (hs_1 : SRc C_SlaveEvent D0 l.Events p_1 c_1) (out : Int) (h : slave_Check l = some out) : Calls Tryd.prog 19 [.agg #[iv l.Ring, .slice p l.Starts.length c, .slice p_1 l.Events.length c_1]].toArray w0 (RetP D0 w0 (iv out)) := by
 refine enter _ 108 Tryd.func19 rfl Tryd.ntmps19 rfl fun a hF => ?_
 replace hF : Frm 108 [] [(0, .agg #[iv l.Ring, .slice p l.Starts.length c, .slice p_1 l.Events.length c_1])] a := hF
 have hS := St.start hD
 unfold slave_Check at h
 refine seq (region (O.box (cs := [iv l.Ring, .slice p l.Starts.length c, .slice p_1 l.Events.length c_1]) 1 hF rfl rfl hS rfl fun b a w hF hS => step hF (Y.assign hF rfl) rfl fun a hF => nT (seq (region (step hF (Y.fieldAddr fo_25_0 hF rfl) rfl fun a hF => step hF (Y.load1L 1 sz_3 hF rfl hS rfl rfl) rfl fun a hF => ?_)))))
 obtain ⟨rv, hx, h⟩ := bind_some h
 refine O.callP (us := [iv l.Ring, iv 2, iv 60]) ca_60 hF hS (slave_within_ok hS.stab l.Ring 2 60 rv hx) rfl rfl fun a w hF hS => step hF (Y.move hF rfl) rfl fun a hF => ?_
 obtain ⟨t, ht, h⟩ := bind_some h
 refine join (N := 108) (rs := []) (w0 := w0) (D0 := D0) 5 (us := [(1, .pointer (some ⟨b, 0, none⟩)), (2, iv 0), (16, .bool t)]) (ms := [(1, .cells b [iv l.Ring, .slice p l.Starts.length c, .slice p_1 l.Events.length c_1] 25)]) (D' := D0) ?_ ?_
 ·rcases bcases rv with hbv | hbv
  ·skip
   replace h := cond_t ht hbv
   refine guard_on hF rfl rfl hbv (step hF (Y.fieldAddr fo_25_1 hF rfl) rfl fun a hF => guard_on hF rfl rfl hbv (step hF (Y.load1L 1 sz_22 hF rfl hS rfl rfl) rfl fun a hF => guard_on hF rfl rfl hbv (step hF (Y.lenSl u_22 hF rfl) rfl fun a hF => guard_on hF rfl rfl hbv ?_)))
   obtain ⟨rv_1, hx_1, h⟩ := bind_some h
   refine O.callP (us := [iv (l.Starts.length : Int), iv 1, iv 4]) ca_60 hF hS (slave_within_ok hS.stab (l.Starts.length : Int) 1 4 rv_1 hx_1) rfl rfl fun a w hF hS => step hF (Y.pick_t hF rfl hbv rfl) rfl fun a hF => ?_
   obtain rfl := some_inj h
   exact nT ⟨hF.weak (AF rfl), hS.weak ⟨rfl, trivial⟩⟩
  replace h := cond_f ht hbv
  refine guard_off hF rfl rfl hbv rfl fun a hF => guard_off hF rfl rfl hbv rfl fun a hF => guard_off hF rfl rfl hbv rfl fun a hF => guard_off hF rfl rfl hbv rfl fun a hF => step hF (Y.pick_f hF rfl hbv rfl) rfl fun a hF => ?_
  obtain rfl := some_inj h
  exact nT ⟨hF.weak (AF rfl), hS.weak ⟨rfl, trivial⟩⟩
 intro a w hF hS
 refine step hF (Y.move hF rfl) rfl fun a hF => join (N := 108) (rs := []) (w0 := w0) (D0 := D0) 5 (us := [(1, .pointer (some ⟨b, 0, none⟩)), (2, iv 0), (22, .bool (t && (decide ((l.Events.length : Int) ≤ 10))))]) (ms := [(1, .cells b [iv l.Ring, .slice p l.Starts.length c, .slice p_1 l.Events.length c_1] 25)]) (D' := D0) ?_ ?_
 ·rcases bcases t with hbv_1 | hbv_1
  ·skip
   refine guard_on hF rfl rfl hbv_1 (step hF (Y.fieldAddr fo_25_2 hF rfl) rfl fun a hF => guard_on hF rfl rfl hbv_1 (step hF (Y.load1L 1 sz_23 hF rfl hS rfl rfl) rfl fun a hF => guard_on hF rfl rfl hbv_1 (step hF (Y.lenSl u_23 hF rfl) rfl fun a hF => guard_on hF rfl rfl hbv_1 (step hF (Y.leq hF rfl rfl) rfl fun a hF => step hF (Y.pick_t hF rfl hbv_1 rfl) rfl fun a hF => nT ⟨hF.weak ⟨rfl, rfl, (by rw [hbv_1]; rfl), trivial⟩, hS.weak ⟨rfl, trivial⟩⟩))))
  refine guard_off hF rfl rfl hbv_1 rfl fun a hF => guard_off hF rfl rfl hbv_1 rfl fun a hF => guard_off hF rfl rfl hbv_1 rfl fun a hF => guard_off hF rfl rfl hbv_1 rfl fun a hF => step hF (Y.pick_f hF rfl hbv_1 rfl) rfl fun a hF => nT ⟨hF.weak ⟨rfl, rfl, (by rw [hbv_1]; rfl), trivial⟩, hS.weak ⟨rfl, trivial⟩⟩
 intro a w hF hS
 refine step hF (Y.assign hF rfl) rfl fun a hF => nT (seq (seq (region (step hF (Y.fieldAddr fo_25_1 hF rfl) rfl fun a hF => step hF (Y.load1L 1 sz_22 hF rfl hS rfl rfl) rfl fun a hF => step hF (Y.lenSl u_22 hF rfl) rfl fun a hF => step hF (Y.move hF rfl) rfl fun a hF => nT (block (loop_cut (body := slave_Check_b1 l) (out := out) (fun s a w => ∃ (ok : Bool) (v26_0 : Int), s = (ok, v26_0) ∧ Frm 108 [] [(1, .pointer (some ⟨b, 0, none⟩)), (2, iv 0), (3, .bool ok), (24, .slice p l.Starts.length c), (25, iv (l.Starts.length : Int)), (26, iv v26_0)] a ∧ St w0 D0 D0 [(1, .cells b [iv l.Ring, .slice p l.Starts.length c, .slice p_1 l.Events.length c_1] 25)] w) ((t && (decide ((l.Events.length : Int) ≤ 10))), 0) h ⟨(t && (decide ((l.Events.length : Int) ≤ 10))), 0, rfl, hF.weak (AF rfl), hS.weak ⟨rfl, trivial⟩⟩ ?_))))))
 rintro s a w xo ⟨ok, v26_0, rfl, hF, hS⟩ h hxo
 unfold slave_Check_b1 at h
 dsimp only at h
 refine seq (region (step hF (Y.lss hF rfl rfl) rfl fun a hF => nT (seq (cond_b hF rfl (fun hbv_2 => ?_) (fun hbv_2 => ?_)))))
 ·replace h := cond_t h hbv_2
  refine skip_ (then_n (seq (block (seq (region ?_)))))
  obtain ⟨e, hx_2, h⟩ := bind_some h
  obtain ⟨b_1, o, hE, hY⟩ := Y.indexS (P := Tryd.prog) (C := C_SlaveStart) (xs := l.Starts) (T := 22) (x := (.tmp 24)) (y := (.tmp 26)) u_22 sz_57 hF rfl rfl (hs).1 hx_2
  obtain ⟨cc, hc, hcell⟩ := hE.open
  obtain rfl := C_SlaveStart.open hc
  refine step hF (hY) rfl fun a hF => step hF (Y.loadNE (o := o) (k := 0) sz_57 hF rfl (hcell _ hS.stab) rfl rfl) rfl fun a hF => O.alloc 2 zc_57 hF hS rfl fun b_2 a w hF hS => O.store (us := [iv e.Shown, iv e.Last]) 2 sz_57 hF rfl rfl rfl rfl hS rfl rfl fun a w hF hS => nT (region (step hF (Y.move hF rfl) rfl fun a hF => step hF (Y.move hF rfl) rfl fun a hF => ?_))
  obtain ⟨t_1, ht_1, h⟩ := bind_some h
  refine join (N := 108) (rs := []) (w0 := w0) (D0 := D0) 7 (us := [(1, .pointer (some ⟨b, 0, none⟩)), (2, iv 0), (3, .bool ok), (5, .pointer (some ⟨b_2, 0, none⟩)), (24, .slice p l.Starts.length c), (25, iv (l.Starts.length : Int)), (26, iv v26_0), (38, .bool t_1)]) (ms := [(1, .cells b [iv l.Ring, .slice p l.Starts.length c, .slice p_1 l.Events.length c_1] 25), (2, .cells b_2 [iv e.Shown, iv e.Last] 57)]) (D' := D0) ?_ ?_
  ·rcases bcases ok with hbv_3 | hbv_3
   ·skip
    replace h := cond_t ht_1 hbv_3
    refine guard_on hF rfl rfl hbv_3 (step hF (Y.fieldAddr fo_57_0 hF rfl) rfl fun a hF => guard_on hF rfl rfl hbv_3 (step hF (Y.load1L 2 sz_3 hF rfl hS rfl rfl) rfl fun a hF => guard_on hF rfl rfl hbv_3 (step hF (Y.fieldAddr fo_25_0 hF rfl) rfl fun a hF => guard_on hF rfl rfl hbv_3 (step hF (Y.load1L 1 sz_3 hF rfl hS rfl rfl) rfl fun a hF => guard_on hF rfl rfl hbv_3 (step hF (Y.sub hF rfl rfl) rfl fun a hF => guard_on hF rfl rfl hbv_3 ?_)))))
    obtain ⟨rv_2, hx_3, h⟩ := bind_some h
    refine O.callP (us := [iv e.Shown, iv 0, iv (wr (l.Ring - 1))]) ca_60 hF hS (slave_within_ok hS.stab e.Shown 0 (wr (l.Ring - 1)) rv_2 hx_3) rfl rfl fun a w hF hS => step hF (Y.pick_t hF rfl hbv_3 rfl) rfl fun a hF => ?_
    obtain rfl := some_inj h
    exact nT ⟨hF.weak (AF rfl), hS.weak ⟨rfl, rfl, trivial⟩⟩
   replace h := cond_f ht_1 hbv_3
   refine guard_off hF rfl rfl hbv_3 rfl fun a hF => guard_off hF rfl rfl hbv_3 rfl fun a hF => guard_off hF rfl rfl hbv_3 rfl fun a hF => guard_off hF rfl rfl hbv_3 rfl fun a hF => guard_off hF rfl rfl hbv_3 rfl fun a hF => guard_off hF rfl rfl hbv_3 rfl fun a hF => step hF (Y.pick_f hF rfl hbv_3 rfl) rfl fun a hF => ?_
   obtain rfl := some_inj h
   exact nT ⟨hF.weak (AF rfl), hS.weak ⟨rfl, rfl, trivial⟩⟩
  intro a w hF hS
  refine step hF (Y.move hF rfl) rfl fun a hF => ?_
  obtain ⟨t_2, ht_2, h⟩ := bind_some h
  refine join (N := 108) (rs := []) (w0 := w0) (D0 := D0) 4 (us := [(1, .pointer (some ⟨b, 0, none⟩)), (2, iv 0), (3, .bool ok), (24, .slice p l.Starts.length c), (25, iv (l.Starts.length : Int)), (26, iv v26_0), (43, .bool t_2)]) (ms := [(1, .cells b [iv l.Ring, .slice p l.Starts.length c, .slice p_1 l.Events.length c_1] 25), (2, .cells b_2 [iv e.Shown, iv e.Last] 57)]) (D' := D0) ?_ ?_
  ·rcases bcases t_1 with hbv_4 | hbv_4
   ·skip
    replace h := cond_t ht_2 hbv_4
    refine guard_on hF rfl rfl hbv_4 (step hF (Y.fieldAddr fo_57_1 hF rfl) rfl fun a hF => guard_on hF rfl rfl hbv_4 (step hF (Y.load1L 2 sz_3 hF rfl hS rfl rfl) rfl fun a hF => guard_on hF rfl rfl hbv_4 ?_))
    obtain ⟨rv_3, hx_4, h⟩ := bind_some h
    refine O.callP (us := [iv e.Last, iv 0, iv 1]) ca_60 hF hS (slave_within_ok hS.stab e.Last 0 1 rv_3 hx_4) rfl rfl fun a w hF hS => step hF (Y.pick_t hF rfl hbv_4 rfl) rfl fun a hF => ?_
    obtain rfl := some_inj h
    exact nT ⟨hF.weak (AF rfl), hS.weak ⟨rfl, rfl, trivial⟩⟩
   replace h := cond_f ht_2 hbv_4
   refine guard_off hF rfl rfl hbv_4 rfl fun a hF => guard_off hF rfl rfl hbv_4 rfl fun a hF => guard_off hF rfl rfl hbv_4 rfl fun a hF => step hF (Y.pick_f hF rfl hbv_4 rfl) rfl fun a hF => ?_
   obtain rfl := some_inj h
   exact nT ⟨hF.weak (AF rfl), hS.weak ⟨rfl, rfl, trivial⟩⟩
  intro a w hF hS
  refine step hF (Y.assign hF rfl) rfl fun a hF => nil (blk_n (then_n (region (step hF (Y.add hF rfl rfl) rfl fun a hF => step hF (Y.move hF rfl) rfl fun a hF => nT (⟨_, nxt_some h, t_2, (wr (v26_0 + 1)), rfl, hF.weak (AF rfl), hS.weak ⟨rfl, trivial⟩⟩)))))
 replace h := cond_f h hbv_2
 refine exit_ (then_x (then_x (blk_hit (then_n ?_))))
 replace h := ext_some h hxo
 refine seq (seq (region (step hF (Y.fieldAddr fo_25_2 hF rfl) rfl fun a hF => step hF (Y.load1L 1 sz_23 hF rfl hS rfl rfl) rfl fun a hF => step hF (Y.lenSl u_23 hF rfl) rfl fun a hF => step hF (Y.move hF rfl) rfl fun a hF => nT (block (loop_cut (body := slave_Check_b2 l) (out := out) (fun s a w => ∃ (ok_1 : Bool) (v48_0 : Int), s = (ok_1, v48_0) ∧ Frm 108 [] [(1, .pointer (some ⟨b, 0, none⟩)), (2, iv 0), (3, .bool ok_1), (46, .slice p_1 l.Events.length c_1), (47, iv (l.Events.length : Int)), (48, iv v48_0)] a ∧ St w0 D0 D0 [(1, .cells b [iv l.Ring, .slice p l.Starts.length c, .slice p_1 l.Events.length c_1] 25)] w) (ok, 0) h ⟨ok, 0, rfl, hF.weak (AF rfl), hS.weak ⟨rfl, trivial⟩⟩ ?_)))))
 rintro s a w xo_1 ⟨ok_1, v48_0, rfl, hF, hS⟩ h hxo_1
 unfold slave_Check_b2 at h
 dsimp only at h
 refine seq (region (step hF (Y.lss hF rfl rfl) rfl fun a hF => nT (seq (cond_b hF rfl (fun hbv_5 => ?_) (fun hbv_5 => ?_)))))
 ·replace h := cond_t h hbv_5
  refine skip_ (then_n (seq (block (seq (region ?_)))))
  obtain ⟨e_1, hx_5, h⟩ := bind_some h
  obtain ⟨b_3, o_1, hE_1, hY_1⟩ := Y.indexS (P := Tryd.prog) (C := C_SlaveEvent) (xs := l.Events) (T := 23) (x := (.tmp 46)) (y := (.tmp 48)) u_23 sz_66 hF rfl rfl (hs_1).1 hx_5
  obtain ⟨cc_1, hc_1, hcell_1⟩ := hE_1.open
  obtain rfl := C_SlaveEvent.open hc_1
  refine step hF (hY_1) rfl fun a hF => step hF (Y.loadNE (o := o_1) (k := 0) sz_66 hF rfl (hcell_1 _ hS.stab) rfl rfl) rfl fun a hF => O.alloc 3 zc_66 hF hS rfl fun b_4 a w hF hS => O.store (us := [iv e_1.Kind, iv e_1.First, iv e_1.Count, iv e_1.Lost, iv e_1.Who, iv e_1.Shown]) 3 sz_66 hF rfl rfl rfl rfl hS rfl rfl fun a w hF hS => nT (seq (region (step hF (Y.fieldAddr fo_66_0 hF rfl) rfl fun a hF => step hF (Y.load1L 3 sz_3 hF rfl hS rfl rfl) rfl fun a hF => nT (block (seq (region (step hF (Y.eql hF rfl rfl) rfl fun a hF => step hF (Y.assign hF rfl) rfl fun a hF => nT (cond_b hF rfl (fun hbv_6 => ?_) (fun hbv_6 => ?_)))))))))
  ·replace h := cond_t h hbv_6
   refine region (step hF (Y.move hF rfl) rfl fun a hF => step hF (Y.move hF rfl) rfl fun a hF => ?_)
   obtain ⟨t_3, ht_3, h⟩ := bind_some h
   refine join (N := 108) (rs := []) (w0 := w0) (D0 := D0) 4 (us := [(1, .pointer (some ⟨b, 0, none⟩)), (2, iv 0), (3, .bool ok_1), (7, .pointer (some ⟨b_4, 0, none⟩)), (46, .slice p_1 l.Events.length c_1), (47, iv (l.Events.length : Int)), (48, iv v48_0), (61, .bool t_3)]) (ms := [(1, .cells b [iv l.Ring, .slice p l.Starts.length c, .slice p_1 l.Events.length c_1] 25), (3, .cells b_4 [iv e_1.Kind, iv e_1.First, iv e_1.Count, iv e_1.Lost, iv e_1.Who, iv e_1.Shown] 66)]) (D' := D0) ?_ ?_
   ·rcases bcases ok_1 with hbv_7 | hbv_7
    ·skip
     replace h := cond_t ht_3 hbv_7
     refine guard_on hF rfl rfl hbv_7 (step hF (Y.fieldAddr fo_66_1 hF rfl) rfl fun a hF => guard_on hF rfl rfl hbv_7 (step hF (Y.load1L 3 sz_3 hF rfl hS rfl rfl) rfl fun a hF => guard_on hF rfl rfl hbv_7 ?_))
     obtain ⟨rv_4, hx_6, h⟩ := bind_some h
     refine O.callP (us := [iv e_1.First, iv 0, iv 1]) ca_60 hF hS (slave_within_ok hS.stab e_1.First 0 1 rv_4 hx_6) rfl rfl fun a w hF hS => step hF (Y.pick_t hF rfl hbv_7 rfl) rfl fun a hF => ?_
     obtain rfl := some_inj h
     exact nT ⟨hF.weak (AF rfl), hS.weak ⟨rfl, rfl, trivial⟩⟩
    replace h := cond_f ht_3 hbv_7
    refine guard_off hF rfl rfl hbv_7 rfl fun a hF => guard_off hF rfl rfl hbv_7 rfl fun a hF => guard_off hF rfl rfl hbv_7 rfl fun a hF => step hF (Y.pick_f hF rfl hbv_7 rfl) rfl fun a hF => ?_
    obtain rfl := some_inj h
    exact nT ⟨hF.weak (AF rfl), hS.weak ⟨rfl, rfl, trivial⟩⟩
   intro a w hF hS
   refine step hF (Y.move hF rfl) rfl fun a hF => ?_
   obtain ⟨t_4, ht_4, h⟩ := bind_some h
   refine join (N := 108) (rs := []) (w0 := w0) (D0 := D0) 4 (us := [(1, .pointer (some ⟨b, 0, none⟩)), (2, iv 0), (3, .bool ok_1), (7, .pointer (some ⟨b_4, 0, none⟩)), (46, .slice p_1 l.Events.length c_1), (47, iv (l.Events.length : Int)), (48, iv v48_0), (66, .bool t_4)]) (ms := [(1, .cells b [iv l.Ring, .slice p l.Starts.length c, .slice p_1 l.Events.length c_1] 25), (3, .cells b_4 [iv e_1.Kind, iv e_1.First, iv e_1.Count, iv e_1.Lost, iv e_1.Who, iv e_1.Shown] 66)]) (D' := D0) ?_ ?_
   ·rcases bcases t_3 with hbv_8 | hbv_8
    ·skip
     replace h := cond_t ht_4 hbv_8
     refine guard_on hF rfl rfl hbv_8 (step hF (Y.fieldAddr fo_66_2 hF rfl) rfl fun a hF => guard_on hF rfl rfl hbv_8 (step hF (Y.load1L 3 sz_3 hF rfl hS rfl rfl) rfl fun a hF => guard_on hF rfl rfl hbv_8 ?_))
     obtain ⟨rv_5, hx_7, h⟩ := bind_some h
     refine O.callP (us := [iv e_1.Count, iv 0, iv 60]) ca_60 hF hS (slave_within_ok hS.stab e_1.Count 0 60 rv_5 hx_7) rfl rfl fun a w hF hS => step hF (Y.pick_t hF rfl hbv_8 rfl) rfl fun a hF => ?_
     obtain rfl := some_inj h
     exact nT ⟨hF.weak (AF rfl), hS.weak ⟨rfl, rfl, trivial⟩⟩
    replace h := cond_f ht_4 hbv_8
    refine guard_off hF rfl rfl hbv_8 rfl fun a hF => guard_off hF rfl rfl hbv_8 rfl fun a hF => guard_off hF rfl rfl hbv_8 rfl fun a hF => step hF (Y.pick_f hF rfl hbv_8 rfl) rfl fun a hF => ?_
    obtain rfl := some_inj h
    exact nT ⟨hF.weak (AF rfl), hS.weak ⟨rfl, rfl, trivial⟩⟩
   intro a w hF hS
   refine step hF (Y.move hF rfl) rfl fun a hF => ?_
   obtain ⟨t_5, ht_5, h⟩ := bind_some h
   refine join (N := 108) (rs := []) (w0 := w0) (D0 := D0) 4 (us := [(1, .pointer (some ⟨b, 0, none⟩)), (2, iv 0), (3, .bool ok_1), (46, .slice p_1 l.Events.length c_1), (47, iv (l.Events.length : Int)), (48, iv v48_0), (71, .bool t_5)]) (ms := [(1, .cells b [iv l.Ring, .slice p l.Starts.length c, .slice p_1 l.Events.length c_1] 25), (3, .cells b_4 [iv e_1.Kind, iv e_1.First, iv e_1.Count, iv e_1.Lost, iv e_1.Who, iv e_1.Shown] 66)]) (D' := D0) ?_ ?_
   ·rcases bcases t_4 with hbv_9 | hbv_9
    ·skip
     replace h := cond_t ht_5 hbv_9
     refine guard_on hF rfl rfl hbv_9 (step hF (Y.fieldAddr fo_66_3 hF rfl) rfl fun a hF => guard_on hF rfl rfl hbv_9 (step hF (Y.load1L 3 sz_3 hF rfl hS rfl rfl) rfl fun a hF => guard_on hF rfl rfl hbv_9 ?_))
     obtain ⟨rv_6, hx_8, h⟩ := bind_some h
     refine O.callP (us := [iv e_1.Lost, iv 0, iv 3]) ca_60 hF hS (slave_within_ok hS.stab e_1.Lost 0 3 rv_6 hx_8) rfl rfl fun a w hF hS => step hF (Y.pick_t hF rfl hbv_9 rfl) rfl fun a hF => ?_
     obtain rfl := some_inj h
     exact nT ⟨hF.weak (AF rfl), hS.weak ⟨rfl, rfl, trivial⟩⟩
    replace h := cond_f ht_5 hbv_9
    refine guard_off hF rfl rfl hbv_9 rfl fun a hF => guard_off hF rfl rfl hbv_9 rfl fun a hF => guard_off hF rfl rfl hbv_9 rfl fun a hF => step hF (Y.pick_f hF rfl hbv_9 rfl) rfl fun a hF => ?_
    obtain rfl := some_inj h
    exact nT ⟨hF.weak (AF rfl), hS.weak ⟨rfl, rfl, trivial⟩⟩
   intro a w hF hS
   refine step hF (Y.assign hF rfl) rfl fun a hF => nil (blk_n (blk_n (then_n (region (step hF (Y.add hF rfl rfl) rfl fun a hF => step hF (Y.move hF rfl) rfl fun a hF => nT (⟨_, nxt_some h, t_5, (wr (v48_0 + 1)), rfl, hF.weak (AF rfl), hS.weak ⟨rfl, trivial⟩⟩))))))
  replace h := cond_f h hbv_6
  refine seq (region (step hF (Y.eql hF rfl rfl) rfl fun a hF => step hF (Y.assign hF rfl) rfl fun a hF => nT (cond_b hF rfl (fun hbv_10 => ?_) (fun hbv_10 => ?_))))
  ·replace h := cond_t h hbv_10
   refine region (step hF (Y.move hF rfl) rfl fun a hF => step hF (Y.move hF rfl) rfl fun a hF => ?_)
   obtain ⟨t_6, ht_6, h⟩ := bind_some h
   refine join (N := 108) (rs := []) (w0 := w0) (D0 := D0) 4 (us := [(1, .pointer (some ⟨b, 0, none⟩)), (2, iv 0), (3, .bool ok_1), (7, .pointer (some ⟨b_4, 0, none⟩)), (46, .slice p_1 l.Events.length c_1), (47, iv (l.Events.length : Int)), (48, iv v48_0), (79, .bool t_6)]) (ms := [(1, .cells b [iv l.Ring, .slice p l.Starts.length c, .slice p_1 l.Events.length c_1] 25), (3, .cells b_4 [iv e_1.Kind, iv e_1.First, iv e_1.Count, iv e_1.Lost, iv e_1.Who, iv e_1.Shown] 66)]) (D' := D0) ?_ ?_
   ·rcases bcases ok_1 with hbv_11 | hbv_11
    ·skip
     replace h := cond_t ht_6 hbv_11
     refine guard_on hF rfl rfl hbv_11 (step hF (Y.fieldAddr fo_66_2 hF rfl) rfl fun a hF => guard_on hF rfl rfl hbv_11 (step hF (Y.load1L 3 sz_3 hF rfl hS rfl rfl) rfl fun a hF => guard_on hF rfl rfl hbv_11 ?_))
     obtain ⟨rv_7, hx_9, h⟩ := bind_some h
     refine O.callP (us := [iv e_1.Count, iv 0, iv 60]) ca_60 hF hS (slave_within_ok hS.stab e_1.Count 0 60 rv_7 hx_9) rfl rfl fun a w hF hS => step hF (Y.pick_t hF rfl hbv_11 rfl) rfl fun a hF => ?_
     obtain rfl := some_inj h
     exact nT ⟨hF.weak (AF rfl), hS.weak ⟨rfl, rfl, trivial⟩⟩
    replace h := cond_f ht_6 hbv_11
    refine guard_off hF rfl rfl hbv_11 rfl fun a hF => guard_off hF rfl rfl hbv_11 rfl fun a hF => guard_off hF rfl rfl hbv_11 rfl fun a hF => step hF (Y.pick_f hF rfl hbv_11 rfl) rfl fun a hF => ?_
    obtain rfl := some_inj h
    exact nT ⟨hF.weak (AF rfl), hS.weak ⟨rfl, rfl, trivial⟩⟩
   intro a w hF hS
   refine step hF (Y.move hF rfl) rfl fun a hF => ?_
   obtain ⟨t_7, ht_7, h⟩ := bind_some h
   refine join (N := 108) (rs := []) (w0 := w0) (D0 := D0) 4 (us := [(1, .pointer (some ⟨b, 0, none⟩)), (2, iv 0), (3, .bool ok_1), (46, .slice p_1 l.Events.length c_1), (47, iv (l.Events.length : Int)), (48, iv v48_0), (84, .bool t_7)]) (ms := [(1, .cells b [iv l.Ring, .slice p l.Starts.length c, .slice p_1 l.Events.length c_1] 25), (3, .cells b_4 [iv e_1.Kind, iv e_1.First, iv e_1.Count, iv e_1.Lost, iv e_1.Who, iv e_1.Shown] 66)]) (D' := D0) ?_ ?_
   ·rcases bcases t_6 with hbv_12 | hbv_12
    ·skip
     replace h := cond_t ht_7 hbv_12
     refine guard_on hF rfl rfl hbv_12 (step hF (Y.fieldAddr fo_66_3 hF rfl) rfl fun a hF => guard_on hF rfl rfl hbv_12 (step hF (Y.load1L 3 sz_3 hF rfl hS rfl rfl) rfl fun a hF => guard_on hF rfl rfl hbv_12 ?_))
     obtain ⟨rv_8, hx_10, h⟩ := bind_some h
     refine O.callP (us := [iv e_1.Lost, iv 0, iv 3]) ca_60 hF hS (slave_within_ok hS.stab e_1.Lost 0 3 rv_8 hx_10) rfl rfl fun a w hF hS => step hF (Y.pick_t hF rfl hbv_12 rfl) rfl fun a hF => ?_
     obtain rfl := some_inj h
     exact nT ⟨hF.weak (AF rfl), hS.weak ⟨rfl, rfl, trivial⟩⟩
    replace h := cond_f ht_7 hbv_12
    refine guard_off hF rfl rfl hbv_12 rfl fun a hF => guard_off hF rfl rfl hbv_12 rfl fun a hF => guard_off hF rfl rfl hbv_12 rfl fun a hF => step hF (Y.pick_f hF rfl hbv_12 rfl) rfl fun a hF => ?_
    obtain rfl := some_inj h
    exact nT ⟨hF.weak (AF rfl), hS.weak ⟨rfl, rfl, trivial⟩⟩
   intro a w hF hS
   refine step hF (Y.assign hF rfl) rfl fun a hF => nil (blk_n (blk_n (then_n (region (step hF (Y.add hF rfl rfl) rfl fun a hF => step hF (Y.move hF rfl) rfl fun a hF => nT (⟨_, nxt_some h, t_7, (wr (v48_0 + 1)), rfl, hF.weak (AF rfl), hS.weak ⟨rfl, trivial⟩⟩))))))
  replace h := cond_f h hbv_10
  refine seq (region (step hF (Y.eql hF rfl rfl) rfl fun a hF => step hF (Y.assign hF rfl) rfl fun a hF => nT (cond_b hF rfl (fun hbv_13 => ?_) (fun hbv_13 => ?_))))
  ·replace h := cond_t h hbv_13
   refine region (step hF (Y.move hF rfl) rfl fun a hF => step hF (Y.move hF rfl) rfl fun a hF => ?_)
   obtain ⟨t_8, ht_8, h⟩ := bind_some h
   refine join (N := 108) (rs := []) (w0 := w0) (D0 := D0) 8 (us := [(1, .pointer (some ⟨b, 0, none⟩)), (2, iv 0), (3, .bool ok_1), (7, .pointer (some ⟨b_4, 0, none⟩)), (46, .slice p_1 l.Events.length c_1), (47, iv (l.Events.length : Int)), (48, iv v48_0), (96, .bool t_8)]) (ms := [(1, .cells b [iv l.Ring, .slice p l.Starts.length c, .slice p_1 l.Events.length c_1] 25), (3, .cells b_4 [iv e_1.Kind, iv e_1.First, iv e_1.Count, iv e_1.Lost, iv e_1.Who, iv e_1.Shown] 66)]) (D' := D0) ?_ ?_
   ·rcases bcases ok_1 with hbv_14 | hbv_14
    ·skip
     replace h := cond_t ht_8 hbv_14
     refine guard_on hF rfl rfl hbv_14 (step hF (Y.fieldAddr fo_66_4 hF rfl) rfl fun a hF => guard_on hF rfl rfl hbv_14 (step hF (Y.load1L 3 sz_3 hF rfl hS rfl rfl) rfl fun a hF => guard_on hF rfl rfl hbv_14 (step hF (Y.fieldAddr fo_25_1 hF rfl) rfl fun a hF => guard_on hF rfl rfl hbv_14 (step hF (Y.load1L 1 sz_22 hF rfl hS rfl rfl) rfl fun a hF => guard_on hF rfl rfl hbv_14 (step hF (Y.lenSl u_22 hF rfl) rfl fun a hF => guard_on hF rfl rfl hbv_14 (step hF (Y.sub hF rfl rfl) rfl fun a hF => guard_on hF rfl rfl hbv_14 ?_))))))
     obtain ⟨rv_9, hx_11, h⟩ := bind_some h
     refine O.callP (us := [iv e_1.Who, iv 0, iv (wr ((l.Starts.length : Int) - 1))]) ca_60 hF hS (slave_within_ok hS.stab e_1.Who 0 (wr ((l.Starts.length : Int) - 1)) rv_9 hx_11) rfl rfl fun a w hF hS => step hF (Y.pick_t hF rfl hbv_14 rfl) rfl fun a hF => ?_
     obtain rfl := some_inj h
     exact nT ⟨hF.weak (AF rfl), hS.weak ⟨rfl, rfl, trivial⟩⟩
    replace h := cond_f ht_8 hbv_14
    refine guard_off hF rfl rfl hbv_14 rfl fun a hF => guard_off hF rfl rfl hbv_14 rfl fun a hF => guard_off hF rfl rfl hbv_14 rfl fun a hF => guard_off hF rfl rfl hbv_14 rfl fun a hF => guard_off hF rfl rfl hbv_14 rfl fun a hF => guard_off hF rfl rfl hbv_14 rfl fun a hF => guard_off hF rfl rfl hbv_14 rfl fun a hF => step hF (Y.pick_f hF rfl hbv_14 rfl) rfl fun a hF => ?_
    obtain rfl := some_inj h
    exact nT ⟨hF.weak (AF rfl), hS.weak ⟨rfl, rfl, trivial⟩⟩
   intro a w hF hS
   refine step hF (Y.move hF rfl) rfl fun a hF => ?_
   obtain ⟨t_9, ht_9, h⟩ := bind_some h
   refine join (N := 108) (rs := []) (w0 := w0) (D0 := D0) 7 (us := [(1, .pointer (some ⟨b, 0, none⟩)), (2, iv 0), (3, .bool ok_1), (46, .slice p_1 l.Events.length c_1), (47, iv (l.Events.length : Int)), (48, iv v48_0), (104, .bool t_9)]) (ms := [(1, .cells b [iv l.Ring, .slice p l.Starts.length c, .slice p_1 l.Events.length c_1] 25), (3, .cells b_4 [iv e_1.Kind, iv e_1.First, iv e_1.Count, iv e_1.Lost, iv e_1.Who, iv e_1.Shown] 66)]) (D' := D0) ?_ ?_
   ·rcases bcases t_8 with hbv_15 | hbv_15
    ·skip
     replace h := cond_t ht_9 hbv_15
     refine guard_on hF rfl rfl hbv_15 (step hF (Y.fieldAddr fo_66_5 hF rfl) rfl fun a hF => guard_on hF rfl rfl hbv_15 (step hF (Y.load1L 3 sz_3 hF rfl hS rfl rfl) rfl fun a hF => guard_on hF rfl rfl hbv_15 (step hF (Y.fieldAddr fo_25_0 hF rfl) rfl fun a hF => guard_on hF rfl rfl hbv_15 (step hF (Y.load1L 1 sz_3 hF rfl hS rfl rfl) rfl fun a hF => guard_on hF rfl rfl hbv_15 (step hF (Y.sub hF rfl rfl) rfl fun a hF => guard_on hF rfl rfl hbv_15 ?_)))))
     obtain ⟨rv_10, hx_12, h⟩ := bind_some h
     refine O.callP (us := [iv e_1.Shown, iv 0, iv (wr (l.Ring - 1))]) ca_60 hF hS (slave_within_ok hS.stab e_1.Shown 0 (wr (l.Ring - 1)) rv_10 hx_12) rfl rfl fun a w hF hS => step hF (Y.pick_t hF rfl hbv_15 rfl) rfl fun a hF => ?_
     obtain rfl := some_inj h
     exact nT ⟨hF.weak (AF rfl), hS.weak ⟨rfl, rfl, trivial⟩⟩
    replace h := cond_f ht_9 hbv_15
    refine guard_off hF rfl rfl hbv_15 rfl fun a hF => guard_off hF rfl rfl hbv_15 rfl fun a hF => guard_off hF rfl rfl hbv_15 rfl fun a hF => guard_off hF rfl rfl hbv_15 rfl fun a hF => guard_off hF rfl rfl hbv_15 rfl fun a hF => guard_off hF rfl rfl hbv_15 rfl fun a hF => step hF (Y.pick_f hF rfl hbv_15 rfl) rfl fun a hF => ?_
    obtain rfl := some_inj h
    exact nT ⟨hF.weak (AF rfl), hS.weak ⟨rfl, rfl, trivial⟩⟩
   intro a w hF hS
   refine step hF (Y.assign hF rfl) rfl fun a hF => nil (blk_n (blk_n (then_n (region (step hF (Y.add hF rfl rfl) rfl fun a hF => step hF (Y.move hF rfl) rfl fun a hF => nT (⟨_, nxt_some h, t_9, (wr (v48_0 + 1)), rfl, hF.weak (AF rfl), hS.weak ⟨rfl, trivial⟩⟩))))))
  replace h := cond_f h hbv_13
  refine region (step hF (Y.assign hF rfl) rfl fun a hF => nil (blk_n (blk_n (then_n (region (step hF (Y.add hF rfl rfl) rfl fun a hF => step hF (Y.move hF rfl) rfl fun a hF => nT (⟨_, nxt_some h, false, (wr (v48_0 + 1)), rfl, hF.weak (AF rfl), hS.weak ⟨rfl, trivial⟩⟩)))))))
 replace h := cond_f h hbv_5
 refine exit_ (then_x (then_x (blk_hit (then_n ?_))))
 replace h := ext_some h hxo_1
 refine seq (seq (region (step hF (Y.move hF rfl) rfl fun a hF => step hF (Y.not hF rfl) rfl fun a hF => nT (cond_b hF rfl (fun hbv_16 => ?_) (fun hbv_16 => ?_)))))
 ·replace h := cond_t h hbv_16
  refine seq (region (step hF (Y.assign hF rfl) rfl fun a hF => nT (ret_ (then_r ?_))))
  obtain rfl := some_inj h
  exact leaveP Tryd.results19 hF hS (.cons (.tmp rfl) .nil) .nil rfl
 replace h := cond_f h hbv_16
 refine skip_ (then_n (seq (region (step hF (Y.assign hF rfl) rfl fun a hF => nT (ret_ ?_)))))
 obtain rfl := some_inj h
 exact leaveP Tryd.results19 hF hS (.cons (.tmp rfl) .nil) .nil rfl
noncomputable def slave_line_after_k2 (l : slave_line) (sv : SlaveStart) (z : Int) : Option SlaveStart :=
  some (SlaveStart.mk (Int.tmod (wr (sv.Shown + 1)) l.SlaveLine.Ring) z)
noncomputable def slave_line_after_k3 (sv : SlaveStart) (z_1 : Int) : Option SlaveStart :=
  some (SlaveStart.mk sv.Shown z_1)
noncomputable def slave_line_after_k1 (l : slave_line) (sv : SlaveStart) (sign : Int) (v7_0 : Bool) : Option SlaveStart :=
  cond v7_0
  (if l.SlaveLine.Ring ≠ 0 then
  cond (sign != (-1))
  (slave_line_after_k2 l sv sign)
  (slave_line_after_k2 l sv sv.Last)
  else none)
  (cond (sign != (-1))
  (slave_line_after_k3 sv sign)
  (slave_line_after_k3 sv sv.Last))
noncomputable def slave_line_after (l : slave_line) (sv : SlaveStart) (sign : Int) : Option SlaveStart :=
  cond ((sign == (-1)) && (sv.Shown != 0))
  (slave_line_after_k1 l sv sign ((sign == (-1)) && (sv.Shown != 0)))
  (slave_line_after_k1 l sv sign ((sign != (-1)) && (sv.Last != sign)))
theorem slave_line_after_ok {w0 : World} {D0 : Stab} (hD : D0.on w0) (l : slave_line) (sv : SlaveStart) (sign : Int) {p : Option Addr} {c : Nat} {p_1 : Option Addr} {c_1 : Nat} {p_2 : Option Addr} {c_2 : Nat} (hs : SRc C_SlaveStart D0 l.SlaveLine.Starts p c) (hs_1 : SRc C_SlaveEvent D0 l.SlaveLine.Events p_1 c_1) (hs_2 : SRc C_int D0 l.without p_2 c_2) (out : SlaveStart) (h : slave_line_after l sv sign = some out) : Calls Tryd.prog 65 [.agg #[iv l.SlaveLine.Ring, .slice p l.SlaveLine.Starts.length c, .slice p_1 l.SlaveLine.Events.length c_1, .slice p_2 l.without.length c_2], .agg #[iv sv.Shown, iv sv.Last], iv sign].toArray w0 (RetP D0 w0 (.agg #[iv out.Shown, iv out.Last])) := by
 refine enter _ 36 Tryd.func65 rfl Tryd.ntmps65 rfl fun a hF => ?_
 replace hF : Frm 36 [] [(0, .agg #[iv l.SlaveLine.Ring, .slice p l.SlaveLine.Starts.length c, .slice p_1 l.SlaveLine.Events.length c_1, .slice p_2 l.without.length c_2]), (1, .agg #[iv sv.Shown, iv sv.Last]), (2, iv sign)] a := hF
 have hS := St.start hD
 unfold slave_line_after at h
 refine seq (region (O.box (cs := [iv l.SlaveLine.Ring, .slice p l.SlaveLine.Starts.length c, .slice p_1 l.SlaveLine.Events.length c_1, .slice p_2 l.without.length c_2]) 1 hF rfl rfl hS rfl fun b a w hF hS => O.box (cs := [iv sv.Shown, iv sv.Last]) 2 hF rfl rfl hS rfl fun b_1 a w hF hS => O.alloc 3 zc_57 hF hS rfl fun b_2 a w hF hS => nT (seq (block (seq_cut (fun a w => ∃ (v7_0 : Bool), Frm 36 [] [(2, iv sign), (3, .pointer (some ⟨b, 0, none⟩)), (4, .pointer (some ⟨b_1, 0, none⟩)), (6, .pointer (some ⟨b_2, 0, none⟩)), (7, .bool v7_0)] a ∧ St w0 D0 D0 [(1, .cells b [iv l.SlaveLine.Ring, .slice p l.SlaveLine.Starts.length c, .slice p_1 l.SlaveLine.Events.length c_1, .slice p_2 l.without.length c_2] 103), (2, .cells b_1 [iv sv.Shown, iv sv.Last] 57), (3, .cells b_2 [iv 0, iv 0] 57)] w ∧ slave_line_after_k1 l sv sign v7_0 = some out) ?_ ?_)))))
 ·skip
  refine seq (region (step hF (Y.move hF rfl) rfl fun a hF => step hF (Y.eql hF rfl rfl) rfl fun a hF => step hF (Y.move hF rfl) rfl fun a hF => join (N := 36) (rs := []) (w0 := w0) (D0 := D0) 4 (us := [(2, iv sign), (3, .pointer (some ⟨b, 0, none⟩)), (4, .pointer (some ⟨b_1, 0, none⟩)), (6, .pointer (some ⟨b_2, 0, none⟩)), (14, .bool ((sign == (-1)) && (sv.Shown != 0)))]) (ms := [(1, .cells b [iv l.SlaveLine.Ring, .slice p l.SlaveLine.Starts.length c, .slice p_1 l.SlaveLine.Events.length c_1, .slice p_2 l.without.length c_2] 103), (2, .cells b_1 [iv sv.Shown, iv sv.Last] 57), (3, .cells b_2 [iv 0, iv 0] 57)]) (D' := D0) ?_ ?_))
  ·rcases bcases (sign == (-1)) with hbv_3 | hbv_3
   ·skip
    refine guard_on hF rfl rfl hbv_3 (step hF (Y.fieldAddr fo_57_0 hF rfl) rfl fun a hF => guard_on hF rfl rfl hbv_3 (step hF (Y.load1L 2 sz_3 hF rfl hS rfl rfl) rfl fun a hF => guard_on hF rfl rfl hbv_3 (step hF (Y.neq hF rfl rfl) rfl fun a hF => step hF (Y.pick_t hF rfl hbv_3 rfl) rfl fun a hF => nT ⟨hF.weak ⟨rfl, rfl, rfl, rfl, (by rw [hbv_3]; rfl), trivial⟩, hS.weak (AL rfl)⟩)))
   refine guard_off hF rfl rfl hbv_3 rfl fun a hF => guard_off hF rfl rfl hbv_3 rfl fun a hF => guard_off hF rfl rfl hbv_3 rfl fun a hF => step hF (Y.pick_f hF rfl hbv_3 rfl) rfl fun a hF => nT ⟨hF.weak ⟨rfl, rfl, rfl, rfl, (by rw [hbv_3]; rfl), trivial⟩, hS.weak (AL rfl)⟩
  intro a w hF hS
  refine step hF (Y.assign hF rfl) rfl fun a hF => nT (cond_b hF rfl (fun hbv_4 => ?_) (fun hbv_4 => ?_))
  ·replace h := cond_t h hbv_4
   refine skip_ (then_n (⟨((sign == (-1)) && (sv.Shown != 0)), hF.weak (AF rfl), hS.weak (AL rfl), h⟩))
  replace h := cond_f h hbv_4
  refine region (step hF (Y.move hF rfl) rfl fun a hF => step hF (Y.neq hF rfl rfl) rfl fun a hF => step hF (Y.move hF rfl) rfl fun a hF => join (N := 36) (rs := []) (w0 := w0) (D0 := D0) 5 (us := [(2, iv sign), (3, .pointer (some ⟨b, 0, none⟩)), (4, .pointer (some ⟨b_1, 0, none⟩)), (6, .pointer (some ⟨b_2, 0, none⟩)), (7, .bool ((sign == (-1)) && (sv.Shown != 0))), (22, .bool ((sign != (-1)) && (sv.Last != sign)))]) (ms := [(1, .cells b [iv l.SlaveLine.Ring, .slice p l.SlaveLine.Starts.length c, .slice p_1 l.SlaveLine.Events.length c_1, .slice p_2 l.without.length c_2] 103), (2, .cells b_1 [iv sv.Shown, iv sv.Last] 57), (3, .cells b_2 [iv 0, iv 0] 57)]) (D' := D0) ?_ ?_)
  ·rcases bcases (sign != (-1)) with hbv_5 | hbv_5
   ·skip
    refine guard_on hF rfl rfl hbv_5 (step hF (Y.fieldAddr fo_57_1 hF rfl) rfl fun a hF => guard_on hF rfl rfl hbv_5 (step hF (Y.load1L 2 sz_3 hF rfl hS rfl rfl) rfl fun a hF => guard_on hF rfl rfl hbv_5 (step hF (Y.move hF rfl) rfl fun a hF => guard_on hF rfl rfl hbv_5 (step hF (Y.neq hF rfl rfl) rfl fun a hF => step hF (Y.pick_t hF rfl hbv_5 rfl) rfl fun a hF => nT ⟨hF.weak ⟨rfl, rfl, rfl, rfl, rfl, (by rw [hbv_5]; rfl), trivial⟩, hS.weak (AL rfl)⟩))))
   refine guard_off hF rfl rfl hbv_5 rfl fun a hF => guard_off hF rfl rfl hbv_5 rfl fun a hF => guard_off hF rfl rfl hbv_5 rfl fun a hF => guard_off hF rfl rfl hbv_5 rfl fun a hF => step hF (Y.pick_f hF rfl hbv_5 rfl) rfl fun a hF => nT ⟨hF.weak ⟨rfl, rfl, rfl, rfl, rfl, (by rw [hbv_5]; rfl), trivial⟩, hS.weak (AL rfl)⟩
  intro a w hF hS
  refine step hF (Y.assign hF rfl) rfl fun a hF => nT (⟨((sign != (-1)) && (sv.Last != sign)), hF.weak (AF rfl), hS.weak (AL rfl), h⟩)
 rintro a w ⟨v7_0, hF, hS, h⟩
 unfold slave_line_after_k1 at h
 refine cond_b hF rfl (fun hbv => ?_) (fun hbv => ?_)
 ·replace h := cond_t h hbv
  refine region (step hF (Y.fieldAddr fo_57_0 hF rfl) rfl fun a hF => step hF (Y.load1L 2 sz_3 hF rfl hS rfl rfl) rfl fun a hF => step hF (Y.add hF rfl rfl) rfl fun a hF => step hF (Y.fieldAddr fo_103_0 hF rfl) rfl fun a hF => step hF (Y.fieldAddr fo_25_0 hF rfl) rfl fun a hF => step hF (Y.load1L 1 sz_3 hF rfl hS rfl rfl) rfl fun a hF => ?_)
  obtain ⟨hg, h⟩ := ite_some h
  refine step hF (Y.rem hF rfl rfl hg) rfl fun a hF => step hF (Y.fieldAddr fo_57_0 hF rfl) rfl fun a hF => O.store (us := [iv (Int.tmod (wr (sv.Shown + 1)) l.SlaveLine.Ring)]) 2 sz_3 hF rfl rfl rfl rfl hS rfl rfl fun a w hF hS => nil (blk_n (then_n (seq_cut (fun a w => ∃ (z : Int), Frm 36 [] [(4, .pointer (some ⟨b_1, 0, none⟩)), (6, .pointer (some ⟨b_2, 0, none⟩))] a ∧ St w0 D0 D0 [(1, .cells b [iv l.SlaveLine.Ring, .slice p l.SlaveLine.Starts.length c, .slice p_1 l.SlaveLine.Events.length c_1, .slice p_2 l.without.length c_2] 103), (2, .cells b_1 [iv (Int.tmod (wr (sv.Shown + 1)) l.SlaveLine.Ring), iv z] 57), (3, .cells b_2 [iv 0, iv 0] 57)] w ∧ slave_line_after_k2 l sv z = some out) ?_ ?_)))
  ·skip
   refine seq (region (step hF (Y.move hF rfl) rfl fun a hF => step hF (Y.neq hF rfl rfl) rfl fun a hF => nT (cond_b hF rfl (fun hbv_1 => ?_) (fun hbv_1 => ?_))))
   ·replace h := cond_t h hbv_1
    refine region (step hF (Y.move hF rfl) rfl fun a hF => step hF (Y.fieldAddr fo_57_1 hF rfl) rfl fun a hF => O.store (us := [iv sign]) 2 sz_3 hF rfl rfl rfl rfl hS rfl rfl fun a w hF hS => nT (⟨sign, hF.weak ⟨rfl, rfl, trivial⟩, hS.weak (AL rfl), h⟩))
   replace h := cond_f h hbv_1
   refine skip_ (then_n (⟨sv.Last, hF.weak ⟨rfl, rfl, trivial⟩, hS.weak (AL rfl), h⟩))
  rintro a w ⟨z, hF, hS, h⟩
  unfold slave_line_after_k2 at h
  refine seq (region (step hF (Y.loadNL 2 sz_57 hF rfl hS rfl rfl rfl) rfl fun a hF => O.store (us := [iv (Int.tmod (wr (sv.Shown + 1)) l.SlaveLine.Ring), iv z]) 3 sz_57 hF rfl rfl rfl rfl hS rfl rfl fun a w hF hS => nT (ret_ ?_)))
  obtain rfl := some_inj h
  exact leaveP Tryd.results65 hF hS (.cons (.cellN 3 sz_57 rfl rfl rfl) .nil) .nil rfl
 replace h := cond_f h hbv
 refine skip_ (blk_n (then_n (seq_cut (fun a w => ∃ (z_1 : Int), Frm 36 [] [(4, .pointer (some ⟨b_1, 0, none⟩)), (6, .pointer (some ⟨b_2, 0, none⟩))] a ∧ St w0 D0 D0 [(1, .cells b [iv l.SlaveLine.Ring, .slice p l.SlaveLine.Starts.length c, .slice p_1 l.SlaveLine.Events.length c_1, .slice p_2 l.without.length c_2] 103), (2, .cells b_1 [iv sv.Shown, iv z_1] 57), (3, .cells b_2 [iv 0, iv 0] 57)] w ∧ slave_line_after_k3 sv z_1 = some out) ?_ ?_)))
 ·skip
  refine seq (region (step hF (Y.move hF rfl) rfl fun a hF => step hF (Y.neq hF rfl rfl) rfl fun a hF => nT (cond_b hF rfl (fun hbv_2 => ?_) (fun hbv_2 => ?_))))
  ·replace h := cond_t h hbv_2
   refine region (step hF (Y.move hF rfl) rfl fun a hF => step hF (Y.fieldAddr fo_57_1 hF rfl) rfl fun a hF => O.store (us := [iv sign]) 2 sz_3 hF rfl rfl rfl rfl hS rfl rfl fun a w hF hS => nT (⟨sign, hF.weak ⟨rfl, rfl, trivial⟩, hS.weak (AL rfl), h⟩))
  replace h := cond_f h hbv_2
  refine skip_ (then_n (⟨sv.Last, hF.weak ⟨rfl, rfl, trivial⟩, hS.weak (AL rfl), h⟩))
 rintro a w ⟨z_1, hF, hS, h⟩
 unfold slave_line_after_k3 at h
 refine seq (region (step hF (Y.loadNL 2 sz_57 hF rfl hS rfl rfl rfl) rfl fun a hF => O.store (us := [iv sv.Shown, iv z_1]) 3 sz_57 hF rfl rfl rfl rfl hS rfl rfl fun a w hF hS => nT (ret_ ?_)))
 obtain rfl := some_inj h
 exact leaveP Tryd.results65 hF hS (.cons (.cellN 3 sz_57 rfl rfl rfl) .nil) .nil rfl
noncomputable def slave_line_sent (l : slave_line) (first : Int) (k : Int) : Option Int :=
  some (Int.tmod (wr (first + k)) 2)
theorem slave_line_sent_ok {w0 : World} {D0 : Stab} (hD : D0.on w0) (l : slave_line) (first : Int) (k : Int) {p : Option Addr} {c : Nat} {p_1 : Option Addr} {c_1 : Nat} {p_2 : Option Addr} {c_2 : Nat} (hs : SRc C_SlaveStart D0 l.SlaveLine.Starts p c) (hs_1 : SRc C_SlaveEvent D0 l.SlaveLine.Events p_1 c_1) (hs_2 : SRc C_int D0 l.without p_2 c_2) (out : Int) (h : slave_line_sent l first k = some out) : Calls Tryd.prog 114 [.agg #[iv l.SlaveLine.Ring, .slice p l.SlaveLine.Starts.length c, .slice p_1 l.SlaveLine.Events.length c_1, .slice p_2 l.without.length c_2], iv first, iv k].toArray w0 (RetP D0 w0 (iv out)) := by
 refine enter _ 11 Tryd.func114 rfl Tryd.ntmps114 rfl fun a hF => ?_
 replace hF : Frm 11 [] [(0, .agg #[iv l.SlaveLine.Ring, .slice p l.SlaveLine.Starts.length c, .slice p_1 l.SlaveLine.Events.length c_1, .slice p_2 l.without.length c_2]), (1, iv first), (2, iv k)] a := hF
 have hS := St.start hD
 unfold slave_line_sent at h
 refine seq (region (O.box (cs := [iv l.SlaveLine.Ring, .slice p l.SlaveLine.Starts.length c, .slice p_1 l.SlaveLine.Events.length c_1, .slice p_2 l.without.length c_2]) 1 hF rfl rfl hS rfl fun b a w hF hS => step hF (Y.assign hF rfl) rfl fun a hF => nT (seq (region (step hF (Y.move hF rfl) rfl fun a hF => step hF (Y.move hF rfl) rfl fun a hF => step hF (Y.add hF rfl rfl) rfl fun a hF => step hF (Y.rem hF rfl rfl (by decide)) rfl fun a hF => step hF (Y.assign hF rfl) rfl fun a hF => nT (ret_ ?_))))))
 obtain rfl := some_inj h
 exact leaveP Tryd.results114 hF hS (.cons (.tmp rfl) .nil) .nil rfl
noncomputable def slave_line_homes (l : slave_line) (nn : Int) (nn_1 : Int) : Option Int :=
  some (-1)
theorem slave_line_homes_ok {w0 : World} {D0 : Stab} (hD : D0.on w0) (l : slave_line) (nn : Int) (nn_1 : Int) {p : Option Addr} {c : Nat} {p_1 : Option Addr} {c_1 : Nat} {p_2 : Option Addr} {c_2 : Nat} (hs : SRc C_SlaveStart D0 l.SlaveLine.Starts p c) (hs_1 : SRc C_SlaveEvent D0 l.SlaveLine.Events p_1 c_1) (hs_2 : SRc C_int D0 l.without p_2 c_2) (out : Int) (h : slave_line_homes l nn nn_1 = some out) : Calls Tryd.prog 115 [.agg #[iv l.SlaveLine.Ring, .slice p l.SlaveLine.Starts.length c, .slice p_1 l.SlaveLine.Events.length c_1, .slice p_2 l.without.length c_2], iv nn, iv nn_1].toArray w0 (RetP D0 w0 (iv out)) := by
 refine enter _ 7 Tryd.func115 rfl Tryd.ntmps115 rfl fun a hF => ?_
 replace hF : Frm 7 [] [(0, .agg #[iv l.SlaveLine.Ring, .slice p l.SlaveLine.Starts.length c, .slice p_1 l.SlaveLine.Events.length c_1, .slice p_2 l.without.length c_2]), (1, iv nn), (2, iv nn_1)] a := hF
 have hS := St.start hD
 unfold slave_line_homes at h
 refine seq (region (O.box (cs := [iv l.SlaveLine.Ring, .slice p l.SlaveLine.Starts.length c, .slice p_1 l.SlaveLine.Events.length c_1, .slice p_2 l.without.length c_2]) 1 hF rfl rfl hS rfl fun b a w hF hS => step hF (Y.assign hF rfl) rfl fun a hF => nT (seq (region (step hF (Y.assign hF rfl) rfl fun a hF => nT (ret_ ?_))))))
 obtain rfl := some_inj h
 exact leaveP Tryd.results115 hF hS (.cons (.tmp rfl) .nil) .nil rfl
noncomputable def tabf_0 (i : Int) (l : slave_line) (first : Int) (k : Int) : Option Int := if i = 0 then slave_line_sent l first k else if i = 1 then slave_line_homes l first k else none
theorem tab_0_ok {w0 : World} {D0 : Stab} (hD : D0.on w0) (i : Int) (hi : 0 ≤ i ∧ i < ((2 : Nat) : Int)) (l : slave_line) (first : Int) (k : Int) {p : Option Addr} {c : Nat} {p_1 : Option Addr} {c_1 : Nat} {p_2 : Option Addr} {c_2 : Nat} (hs : SRc C_SlaveStart D0 l.SlaveLine.Starts p c) (hs_1 : SRc C_SlaveEvent D0 l.SlaveLine.Events p_1 c_1) (hs_2 : SRc C_int D0 l.without p_2 c_2) (out : Int) (h : tabf_0 i l first k = some out) : ∃ f, tab_0.getD (Int.toNat i) undef = .func (.func f) #[] #[] ∧ callable Tryd.prog f = true ∧ Calls Tryd.prog f [.agg #[iv l.SlaveLine.Ring, .slice p l.SlaveLine.Starts.length c, .slice p_1 l.SlaveLine.Events.length c_1, .slice p_2 l.without.length c_2], iv first, iv k].toArray w0 (RetP D0 w0 (iv out)) := by
 have hc : i = 0 ∨ i = 1 := by omega
 rcases hc with rfl | rfl
 ·exact ⟨114, rfl, ca_114, slave_line_sent_ok hD l first k hs hs_1 hs_2 out h⟩
 exact ⟨115, rfl, ca_115, slave_line_homes_ok hD l first k hs hs_1 hs_2 out h⟩
noncomputable def slave_line_pulses_1_b1 {σ : Type} (cv : SlaveEvent) (cv_1 : slave_line) (yield_ : (Int × Int) → σ → Option σ) : (Int × σ) → Option ((Int × σ) ⊕ σ)
 | (v7_0, sy) =>
  cond (decide (v7_0 < cv.Count))
  (if (0 : Int) ≤ cv.Kind ∧ cv.Kind < ((2 : Nat) : Int) then
  (tabf_0 cv.Kind cv_1 cv.First v7_0).bind fun rv =>
  (yield_ (v7_0, rv) sy).bind fun sy_1 =>
  nxt (wr (v7_0 + 1), sy_1)
  else none)
  (ext (some sy))
noncomputable def slave_line_pulses_1 {σ : Type} (yield_ : (Int × Int) → σ → Option σ) (cv : SlaveEvent) (cv_1 : slave_line) (s0 : σ) : Option σ :=
  loopU (slave_line_pulses_1_b1 cv cv_1 yield_) (0, s0)
theorem slave_line_pulses_1_it {w0 : World} {D0 : Stab} {σ : Type} {Inv : σ → Stab → List (Nat × LR) → Prop} {yield_ : (Int × Int) → σ → Option σ} (hlt : ∀ s D ms, Inv s D ms → ∀ i r, lk ms i = some r → i < 1000) (hmono : ∀ s D ms D2, Inv s D ms → D.le D2 → Inv s D2 ms) (l : Nat) (cv : SlaveEvent) (cv_1 : slave_line) {bb : Nat} {p : Option Addr} {c : Nat} {p_1 : Option Addr} {c_1 : Nat} {p_2 : Option Addr} {c_2 : Nat} {bb_1 : Nat} {Ds : Stab} (hs : SRc C_SlaveStart Ds cv_1.SlaveLine.Starts p c) (hs_1 : SRc C_SlaveEvent Ds cv_1.SlaveLine.Events p_1 c_1) (hs_2 : SRc C_int Ds cv_1.without p_2 c_2) (hbv : Ds bb = some (.cells ([iv cv.Kind, iv cv.First, iv cv.Count, iv cv.Lost, iv cv.Who, iv cv.Shown]).toArray 66 (0, 0))) (hbv_1 : Ds bb_1 = some (.cells ([iv cv_1.SlaveLine.Ring, .slice p cv_1.SlaveLine.Starts.length c, .slice p_1 cv_1.SlaveLine.Events.length c_1, .slice p_2 cv_1.without.length c_2]).toArray 103 (0, 0))) (hG : Glob Ds) (s0 out : σ) (hround : ∀ (x : (Int × Int)) (s s2 : σ) (D : Stab) (ms : List (Nat × LR)) (w : World), yield_ x s = some s2 → Ds.le D → Inv s D ms → St w0 D0 D ms w → Yld Tryd.prog l [iv x.1, iv x.2] w (fun w2 => ∃ D2 ms2, D.le D2 ∧ Inv s2 D2 ms2 ∧ St w0 D0 D2 ms2 w2)) (h : slave_line_pulses_1 yield_ cv cv_1 s0 = some out) {ms : List (Nat × LR)} {w : World} (hI : Inv s0 Ds ms) (hS : St w0 D0 Ds ms w) :
  CallsIn (Fw none) 0 Tryd.prog 85 [.func (.yield l) #[] #[], .pointer (some ⟨bb, 0, none⟩), .pointer (some ⟨bb_1, 0, none⟩)].toArray w (fun e w2 => (∃ v, e = .returned v) ∧ ∃ D2 ms2, Ds.le D2 ∧ Inv out D2 ms2 ∧ St w0 D0 D2 ms2 w2) := by
 refine callsIn_fw (r := none) (enter _ 24 Tryd.func85 rfl Tryd.ntmps85 rfl fun a hF => ?_)
 replace hF : Frm 24 [] [(0, .func (.yield l) #[] #[]), (1, .pointer (some ⟨bb, 0, none⟩)), (2, .pointer (some ⟨bb_1, 0, none⟩))] a := hF
 unfold slave_line_pulses_1 at h
 refine seq (region (step hF (Y.fieldAddr fo_66_2 hF rfl) rfl fun a hF => step hF (Y.load1H sz_3 hF rfl (hS.stab _ _ hbv) rfl) rfl fun a hF => step hF (Y.move hF rfl) rfl fun a hF => nT (block (loop_cut (body := slave_line_pulses_1_b1 cv cv_1 yield_) (out := out) (fun s a w => ∃ (v7_0 : Int) (sy : σ), ∃ (Dv : Stab), ∃ ms_1, s = (v7_0, sy) ∧ Ds.le Dv ∧ Frm 24 [] [(0, .func (.yield l) #[] #[]), (1, .pointer (some ⟨bb, 0, none⟩)), (2, .pointer (some ⟨bb_1, 0, none⟩)), (6, iv cv.Count), (7, iv v7_0)] a ∧ St w0 D0 Dv (ms_1) w ∧ Inv sy Dv ms_1) (0, s0) h ⟨0, s0, Ds, ms, rfl, Stab.le.refl _, hF.weak (AF rfl), hS.sub (fun j r hj => by have hl := (hlt _ _ _ hI) j r hj; (repeat rw [lk_ne (by omega)]); exact hj), hI⟩ ?_))))
 rintro s a w xo ⟨v7_0, sy, Dv, ms_1, rfl, hlev, hF, hS, hI_1⟩ h hxo
 unfold slave_line_pulses_1_b1 at h
 dsimp only at h
 replace hs := hs.mono hlev
 replace hs_1 := hs_1.mono hlev
 replace hs_2 := hs_2.mono hlev
 replace hbv := hlev _ _ hbv
 replace hbv_1 := hlev _ _ hbv_1
 replace hG := hG.mono hlev
 replace hI := hmono _ _ _ _ hI hlev
 refine seq (region (step hF (Y.lss hF rfl rfl) rfl fun a hF => nT (seq (cond_b hF rfl (fun hbv_2 => ?_) (fun hbv_2 => ?_)))))
 ·replace h := cond_t h hbv_2
  refine skip_ (then_n (seq (block (seq (region (step hF (Y.move hF rfl) rfl fun a hF => step hF (Y.assign hF rfl) rfl fun a hF => nT (seq ?_)))))))
  obtain ⟨hg, h⟩ := ite_some h
  obtain ⟨rv, hx, h⟩ := bind_some h
  refine drawsV 11 (.flt 0 (.flt 1 (.flt 2 (.flt 3 (.flt 4 (.flt 5 (.flt 6 (.flt 7 (.flt 8 (.flt 9 (.alt 10 .done .stop))))))))))) mixed_ (by kernel_rfl) (fun w => St w0 D0 Dv (ms_1) w) (fun a w => Frm 24 [] [(0, .func (.yield l) #[] #[]), (1, .pointer (some ⟨bb, 0, none⟩)), (2, .pointer (some ⟨bb_1, 0, none⟩)), (6, iv cv.Count), (7, iv v7_0), (10, .func (.yield l) #[] #[]), (11, iv v7_0), (20, iv rv)] a ∧ St w0 D0 Dv (ms_1) w) (hS.sub (ms := (ms_1)) (fun j r hj => by have hl := (hlt _ _ _ hI_1) j r hj; (repeat rw [lk_ne (by omega)]); exact hj)).drew (fun _ _ _ _ h => h) ?_ ?_
  ·replace hS := hS.drew
   have hle0 := hS.le
   refine stepV (i := 0) rfl hF (fun w hS => Y.move hF rfl) rfl fun a hF => stepV (i := 1) rfl hF (fun w hS => Y.move hF rfl) rfl fun a hF => stepV (i := 2) rfl hF (fun w hS => Y.fieldAddr fo_66_0 hF rfl) rfl fun a hF => stepV (i := 3) rfl hF (fun w hS => Y.load1H sz_3 hF rfl (hS.stab _ _ hbv) rfl) rfl fun a hF => stepV (i := 4) rfl hF (fun w hS => Y.indexArr u_134 sz_133 hF rfl rfl hg.1 hg.2) rfl fun a hF => ?_
   obtain ⟨E_1, fr_1, hGb_1⟩ := hG
   have hG : Glob _ := ⟨E_1, fr_1, hGb_1⟩
   refine stepV (i := 5) rfl hF (fun w hS => (show Yields _ _ _ _ (tab_0.getD (Int.toNat cv.Kind) undef) from Y.load1H (cs := tab_0) sz_133 hF rfl (hS.stab _ _ hGb_1) (tabAt rfl hg))) rfl fun a hF => stepV (i := 6) rfl hF (fun w hS => Y.loadNH sz_103 hF rfl (hS.stab _ _ hbv_1) rfl rfl) rfl fun a hF => stepV (i := 7) rfl hF (fun w hS => Y.fieldAddr fo_66_1 hF rfl) rfl fun a hF => stepV (i := 8) rfl hF (fun w hS => Y.load1H sz_3 hF rfl (hS.stab _ _ hbv) rfl) rfl fun a hF => stepV (i := 9) rfl hF (fun w hS => Y.move hF rfl) rfl fun a hF => oneV (i := 10) rfl ?_ trivial
   obtain ⟨f_1, hfv_1, hfc_1, hcall_1⟩ := tab_0_ok hS.stab cv.Kind hg cv_1 cv.First v7_0 hs hs_1 hs_2 rv hx
   refine O.callVP (f := f_1) (first := []) (cap := []) (us := [.agg #[iv cv_1.SlaveLine.Ring, .slice p cv_1.SlaveLine.Starts.length c, .slice p_1 cv_1.SlaveLine.Events.length c_1, .slice p_2 cv_1.without.length c_2], iv cv.First, iv v7_0]) hfc_1 hF hS (congrArg some hfv_1) rfl hcall_1 rfl fun a w hF hS => nT ⟨hS.sub (ms := (ms_1)) (fun j r hj => by have hl := (hlt _ _ _ hI_1) j r hj; (repeat rw [lk_ne (by omega)]); exact hj), ?_⟩
   exact toTailV ⟨hF.weak (AF rfl), hS.sub (fun j r hj => by have hl := (hlt _ _ _ hI_1) j r hj; (repeat rw [lk_ne (by omega)]); exact hj)⟩
  rintro a w ⟨hF, hS⟩
  replace hS := hS.sub (ms := ms_1) (fun j r hj => by have hl := (hlt _ _ _ hI_1) j r hj; (repeat rw [lk_ne (by omega)]); exact hj)
  obtain ⟨sy_1, hx_1, h⟩ := bind_some h
  refine O.yield (us := [iv v7_0, iv rv]) hF rfl rfl (hround (v7_0, rv) _ _ _ _ _ hx_1 hlev hI_1 hS) rfl fun a w hF hK => ?_
  obtain ⟨Dv_1, ms_2, hlev_1, hI_2, hS⟩ := hK
  replace hbv := hlev_1 _ _ hbv
  replace hbv_1 := hlev_1 _ _ hbv_1
  refine step hF (Y.not hF rfl) rfl fun a hF => nT (cond_b hF rfl (fun hb => by cases hb) (fun hb => skip_ (blk_n (then_n (region (step hF (Y.add hF rfl rfl) rfl fun a hF => step hF (Y.move hF rfl) rfl fun a hF => nT (⟨_, nxt_some h, (wr (v7_0 + 1)), sy_1, Dv_1, ms_2, rfl, hlev.trans hlev_1, hF.weak (AF rfl), hS.sub (fun j r hj => by have hl := (hlt _ _ _ hI_2) j r hj; (repeat rw [lk_ne (by omega)]); exact hj), hI_2⟩)))))))
 replace h := cond_f h hbv_2
 refine exit_ (then_x (then_x (blk_hit ?_)))
 replace h := ext_some h hxo
 replace hS := hS.sub (ms := ms_1) (fun j r hj => by have hl := (hlt _ _ _ hI_1) j r hj; (repeat rw [lk_ne (by omega)]); exact hj)
 obtain rfl := some_inj h
 exact leaveIn (by rfl) hF ⟨⟨_, rfl⟩, Dv, ms_1, hlev, hI_1, hS⟩
noncomputable def slave_line_pulses_1N_b1 {σ : Type} (cv : SlaveEvent) (cv_1 : slave_line) (yield_ : (Int × Int) → σ → ND σ) : (Int × σ) → ND ((Int × σ) ⊕ σ)
 | (v7_0, sy) =>
  cond (decide (v7_0 < cv.Count))
  ((ND.grd ((0 : Int) ≤ cv.Kind ∧ cv.Kind < ((2 : Nat) : Int)) (
  (ND.det (tabf_0 cv.Kind cv_1 cv.First v7_0) fun rv_1 =>
  (ND.bnd (yield_ (v7_0, rv_1) sy) fun sy_2 =>
  nnxt (wr (v7_0 + 1), sy_2))))))
  (next_ (ND.ret sy))
noncomputable def slave_line_pulses_1N {σ : Type} (yield_ : (Int × Int) → σ → ND σ) (cv : SlaveEvent) (cv_1 : slave_line) (s0 : σ) : ND σ :=
  loopN (slave_line_pulses_1N_b1 cv cv_1 yield_) (0, s0)
theorem slave_line_pulses_1N_it {w0 : World} {D0 : Stab} {σ : Type} {Inv : σ → Stab → List (Nat × LR) → Prop} {yield_ : (Int × Int) → σ → ND σ} (hlt : ∀ s D ms, Inv s D ms → ∀ i r, lk ms i = some r → i < 1000) (hmono : ∀ s D ms D2, Inv s D ms → D.le D2 → Inv s D2 ms) (l : Nat) (cv : SlaveEvent) (cv_1 : slave_line) {bb : Nat} {p : Option Addr} {c : Nat} {p_1 : Option Addr} {c_1 : Nat} {p_2 : Option Addr} {c_2 : Nat} {bb_1 : Nat} {Ds : Stab} (hs : SRc C_SlaveStart Ds cv_1.SlaveLine.Starts p c) (hs_1 : SRc C_SlaveEvent Ds cv_1.SlaveLine.Events p_1 c_1) (hs_2 : SRc C_int Ds cv_1.without p_2 c_2) (hbv : Ds bb = some (.cells ([iv cv.Kind, iv cv.First, iv cv.Count, iv cv.Lost, iv cv.Who, iv cv.Shown]).toArray 66 (0, 0))) (hbv_1 : Ds bb_1 = some (.cells ([iv cv_1.SlaveLine.Ring, .slice p cv_1.SlaveLine.Starts.length c, .slice p_1 cv_1.SlaveLine.Events.length c_1, .slice p_2 cv_1.without.length c_2]).toArray 103 (0, 0))) (hG : Glob Ds) (s0 : σ) (out : σ → Prop) (hround : ∀ (x : (Int × Int)) (s : σ) (Qs : σ → Prop) (Sx : List Nat) (hpx : Nat → Option Obj) (D : Stab) (ms : List (Nat × LR)) (w : World), yield_ x s Qs → Ds.le D → Inv s D ms → St w0 D0 D ((1000, .snap Sx hpx) :: ms) w → Yld Tryd.prog l [iv x.1, iv x.2] w (fun w2 => ∃ s2 D2 ms2, Qs s2 ∧ D.le D2 ∧ Inv s2 D2 ms2 ∧ St w0 D0 D2 ((1000, .snap Sx hpx) :: ms2) w2)) (h : slave_line_pulses_1N yield_ cv cv_1 s0 out) {ms : List (Nat × LR)} {w : World} (hI : Inv s0 Ds ms) (hS : St w0 D0 Ds ms w) :
  CallsIn (Fw none) 0 Tryd.prog 85 [.func (.yield l) #[] #[], .pointer (some ⟨bb, 0, none⟩), .pointer (some ⟨bb_1, 0, none⟩)].toArray w (fun e w2 => (∃ v, e = .returned v) ∧ ∃ s D2 ms2, out s ∧ Ds.le D2 ∧ Inv s D2 ms2 ∧ St w0 D0 D2 ms2 w2) := by
 refine callsIn_fw (r := none) (enter _ 24 Tryd.func85 rfl Tryd.ntmps85 rfl fun a hF => ?_)
 replace hF : Frm 24 [] [(0, .func (.yield l) #[] #[]), (1, .pointer (some ⟨bb, 0, none⟩)), (2, .pointer (some ⟨bb_1, 0, none⟩))] a := hF
 unfold slave_line_pulses_1N at h
 refine seq (region (step hF (Y.fieldAddr fo_66_2 hF rfl) rfl fun a hF => step hF (Y.load1H sz_3 hF rfl (hS.stab _ _ hbv) rfl) rfl fun a hF => step hF (Y.move hF rfl) rfl fun a hF => nT (block (loop_cutN (body := slave_line_pulses_1N_b1 cv cv_1 yield_) (out := out) (fun s a w => ∃ (v7_0 : Int) (sy : σ), ∃ (Dv : Stab), ∃ ms_1, s = (v7_0, sy) ∧ Ds.le Dv ∧ Frm 24 [] [(0, .func (.yield l) #[] #[]), (1, .pointer (some ⟨bb, 0, none⟩)), (2, .pointer (some ⟨bb_1, 0, none⟩)), (6, iv cv.Count), (7, iv v7_0)] a ∧ St w0 D0 Dv (ms_1) w ∧ Inv sy Dv ms_1) (0, s0) h ⟨0, s0, Ds, ms, rfl, Stab.le.refl _, hF.weak (AF rfl), hS.sub (fun j r hj => by have hl := (hlt _ _ _ hI) j r hj; (repeat rw [lk_ne (by omega)]); exact hj), hI⟩ ?_))))
 rintro s a w xo ⟨v7_0, sy, Dv, ms_1, rfl, hlev, hF, hS, hI_1⟩ h
 unfold slave_line_pulses_1N_b1 at h
 try dsimp only at h
 replace hs := hs.mono hlev
 replace hs_1 := hs_1.mono hlev
 replace hs_2 := hs_2.mono hlev
 replace hbv := hlev _ _ hbv
 replace hbv_1 := hlev _ _ hbv_1
 replace hG := hG.mono hlev
 replace hI := hmono _ _ _ _ hI hlev
 refine seq (region (step hF (Y.lss hF rfl rfl) rfl fun a hF => nT (seq (cond_b hF rfl (fun hbv_2 => ?_) (fun hbv_2 => ?_)))))
 ·replace h := ncond_t h hbv_2
  refine skip_ (then_n (seq (block (seq (region (step hF (Y.move hF rfl) rfl fun a hF => step hF (Y.assign hF rfl) rfl fun a hF => nT (seq (drawsV 13 (.flt 0 (.flt 1 (.flt 2 (.flt 3 (.flt 4 (.flt 5 (.flt 6 (.flt 7 (.flt 8 (.flt 9 (.alt 10 (.alt 11 (.flt 12 .done) .stop) .stop))))))))))) mixed_ (by kernel_rfl) (fun w => St w0 D0 Dv [] w) _ (hS.sub (ms := []) (fun j r hj => by simp [lk] at hj)).drew (fun _ _ _ _ h => h) ?_ (fun _ _ h => h)))))))))
  replace hS := hS.drew
  have hle0 := hS.le
  refine stepV (i := 0) rfl hF (fun w hS => Y.move hF rfl) rfl fun a hF => stepV (i := 1) rfl hF (fun w hS => Y.move hF rfl) rfl fun a hF => stepV (i := 2) rfl hF (fun w hS => Y.fieldAddr fo_66_0 hF rfl) rfl fun a hF => stepV (i := 3) rfl hF (fun w hS => Y.load1H sz_3 hF rfl (hS.stab _ _ hbv) rfl) rfl fun a hF => ?_
  obtain ⟨hg_1, h⟩ := ngrd h
  refine stepV (i := 4) rfl hF (fun w hS => Y.indexArr u_134 sz_133 hF rfl rfl hg_1.1 hg_1.2) rfl fun a hF => ?_
  obtain ⟨E_1, fr_1, hGb_1⟩ := hG
  have hG : Glob _ := ⟨E_1, fr_1, hGb_1⟩
  refine stepV (i := 5) rfl hF (fun w hS => (show Yields _ _ _ _ (tab_0.getD (Int.toNat cv.Kind) undef) from Y.load1H (cs := tab_0) sz_133 hF rfl (hS.stab _ _ hGb_1) (tabAt rfl hg_1))) rfl fun a hF => stepV (i := 6) rfl hF (fun w hS => Y.loadNH sz_103 hF rfl (hS.stab _ _ hbv_1) rfl rfl) rfl fun a hF => stepV (i := 7) rfl hF (fun w hS => Y.fieldAddr fo_66_1 hF rfl) rfl fun a hF => stepV (i := 8) rfl hF (fun w hS => Y.load1H sz_3 hF rfl (hS.stab _ _ hbv) rfl) rfl fun a hF => stepV (i := 9) rfl hF (fun w hS => Y.move hF rfl) rfl fun a hF => oneV (i := 10) rfl ?_ trivial
  obtain ⟨rv_1, hx_2, h⟩ := ndet h
  obtain ⟨f_1, hfv_1, hfc_1, hcall_1⟩ := tab_0_ok hS.stab cv.Kind hg_1 cv_1 cv.First v7_0 hs hs_1 hs_2 rv_1 hx_2
  refine O.callVP (f := f_1) (first := []) (cap := []) (us := [.agg #[iv cv_1.SlaveLine.Ring, .slice p cv_1.SlaveLine.Starts.length c, .slice p_1 cv_1.SlaveLine.Events.length c_1, .slice p_2 cv_1.without.length c_2], iv cv.First, iv v7_0]) hfc_1 hF hS (congrArg some hfv_1) rfl hcall_1 rfl fun a w hF hS => nT ⟨hS.sub (ms := []) (fun j r hj => by simp [lk] at hj), ?_⟩
  refine oneV (i := 11) rfl ?_ trivial
  replace hS := (hS.nilRes 1000000).toSnap (ms := ms_1) (fun j r hj => by have hl := (hlt _ _ _ hI_1) j r hj; (repeat rw [lk_ne (by omega)]); exact hj) (hlt _ _ _ hI_1) (i := 1000000) (by decide) rfl
  obtain ⟨KQ_1, hx_3, hk_1⟩ := nbnd_ex h
  refine O.yield (us := [iv v7_0, iv rv_1]) hF rfl rfl (hround (v7_0, rv_1) _ _ _ _ _ _ _ hx_3 hlev hI_1 hS) rfl fun a w hF hK => ?_
  obtain ⟨sy_2, Dv_2, ms_3, h, hlev_2, hI_3, hS⟩ := hK
  replace h := hk_1 _ h
  replace hS := hS.sub (ms := ms_3) (fun j r hj => by have hl := hlt _ _ _ hI_3 j r hj; (repeat rw [lk_ne (by omega)]); exact hj)
  replace hbv := hlev_2 _ _ hbv
  replace hbv_1 := hlev_2 _ _ hbv_1
  refine nT ⟨(hS.sub (ms := []) (fun j r hj => by simp [lk] at hj)).weakD hlev_2 hle0, ?_⟩
  refine stepV (i := 12) rfl hF (fun w hS => Y.not hF rfl) rfl fun a hF => toTailV (nT (cond_b hF rfl (fun hb => by cases hb) (fun hb => skip_ (blk_n (then_n (region (step hF (Y.add hF rfl rfl) rfl fun a hF => step hF (Y.move hF rfl) rfl fun a hF => nT (⟨_, nnxt_h h, (wr (v7_0 + 1)), sy_2, Dv_2, ms_3, rfl, hlev.trans hlev_2, hF.weak (AF rfl), hS.sub (fun j r hj => by have hl := (hlt _ _ _ hI_3) j r hj; (repeat rw [lk_ne (by omega)]); exact hj), hI_3⟩))))))))
 replace h := ncond_f h hbv_2
 refine exit_ (then_x (then_x (blk_hit ?_)))
 replace h := next_h h
 replace hS := hS.sub (ms := ms_1) (fun j r hj => by have hl := (hlt _ _ _ hI_1) j r hj; (repeat rw [lk_ne (by omega)]); exact hj)
 exact leaveIn (by rfl) hF ⟨⟨_, rfl⟩, _, Dv, ms_1, nret h, hlev, hI_1, hS⟩
noncomputable def slave_line_pulses (l : slave_line) (e : SlaveEvent) : Option (SlaveEvent × slave_line) :=
  some (e, l)
theorem slave_line_pulses_ok {w0 : World} {D0 : Stab} (hD : D0.on w0) (l : slave_line) (e : SlaveEvent) {p : Option Addr} {c : Nat} {p_1 : Option Addr} {c_1 : Nat} {p_2 : Option Addr} {c_2 : Nat} (hs : SRc C_SlaveStart D0 l.SlaveLine.Starts p c) (hs_1 : SRc C_SlaveEvent D0 l.SlaveLine.Events p_1 c_1) (hs_2 : SRc C_int D0 l.without p_2 c_2) (out : (SlaveEvent × slave_line)) (h : slave_line_pulses l e = some out) : Calls Tryd.prog 64 [.agg #[iv l.SlaveLine.Ring, .slice p l.SlaveLine.Starts.length c, .slice p_1 l.SlaveLine.Events.length c_1, .slice p_2 l.without.length c_2], .agg #[iv e.Kind, iv e.First, iv e.Count, iv e.Lost, iv e.Who, iv e.Shown]].toArray w0 (RetS D0 w0 fun D v => ∃ bb bb_1 p_3 c_3 p_4 c_4 p_5 c_5, v = .func (.func 85) #[] #[.pointer (some ⟨bb, 0, none⟩), .pointer (some ⟨bb_1, 0, none⟩)] ∧ D bb = some (.cells ([iv out.1.Kind, iv out.1.First, iv out.1.Count, iv out.1.Lost, iv out.1.Who, iv out.1.Shown]).toArray 66 (0, 0)) ∧ D bb_1 = some (.cells ([iv out.2.SlaveLine.Ring, .slice p_3 out.2.SlaveLine.Starts.length c_3, .slice p_4 out.2.SlaveLine.Events.length c_4, .slice p_5 out.2.without.length c_5]).toArray 103 (0, 0)) ∧ SRc C_SlaveStart D out.2.SlaveLine.Starts p_3 c_3 ∧ SRc C_SlaveEvent D out.2.SlaveLine.Events p_4 c_4 ∧ SRc C_int D out.2.without p_5 c_5) := by
 refine enter _ 6 Tryd.func64 rfl Tryd.ntmps64 rfl fun a hF => ?_
 replace hF : Frm 6 [] [(0, .agg #[iv l.SlaveLine.Ring, .slice p l.SlaveLine.Starts.length c, .slice p_1 l.SlaveLine.Events.length c_1, .slice p_2 l.without.length c_2]), (1, .agg #[iv e.Kind, iv e.First, iv e.Count, iv e.Lost, iv e.Who, iv e.Shown])] a := hF
 have hS := St.start hD
 unfold slave_line_pulses at h
 refine seq (region (O.box (cs := [iv l.SlaveLine.Ring, .slice p l.SlaveLine.Starts.length c, .slice p_1 l.SlaveLine.Events.length c_1, .slice p_2 l.without.length c_2]) 1 hF rfl rfl hS rfl fun b a w hF hS => O.box (cs := [iv e.Kind, iv e.First, iv e.Count, iv e.Lost, iv e.Who, iv e.Shown]) 2 hF rfl rfl hS rfl fun b_1 a w hF hS => step hF (Y.assign hF rfl) rfl fun a hF => nT (seq (region (step hF (Y.makeFunc (first := []) (cap := [(.tmp 3), (.tmp 2)]) (fs := []) (cs := [.pointer (some ⟨b_1, 0, none⟩), .pointer (some ⟨b, 0, none⟩)]) hF rfl rfl) rfl fun a hF => step hF (Y.assign hF rfl) rfl fun a hF => nT (ret_ ?_))))))
 obtain ⟨Dv, hlev, hbv, hS⟩ := hS.freezeB (i := 2) rfl
 replace hs := hs.mono hlev
 replace hs_1 := hs_1.mono hlev
 replace hs_2 := hs_2.mono hlev
 obtain ⟨Dv_1, hlev_1, hbv_1, hS⟩ := hS.freezeB (i := 1) rfl
 replace hs := hs.mono hlev_1
 replace hs_1 := hs_1.mono hlev_1
 replace hs_2 := hs_2.mono hlev_1
 replace hbv := hlev_1 _ _ hbv
 obtain rfl := some_inj h
 exact leaveS Tryd.results64 hF hS (.cons (.tmp rfl) .nil) .nil ⟨_, _, _, _, _, _, _, _, rfl, hbv, hbv_1, hs, hs_1, hs_2⟩
noncomputable def slave_widened_k1 (av : slave_way) (b : slave_way) (l : (List (List Int))) : Option slave_way :=
  some (slave_way.mk (Span.mk (if b.lost.Low < av.lost.Low then b.lost.Low else av.lost.Low) (if b.lost.High > av.lost.High then b.lost.High else av.lost.High)) l)
noncomputable def slave_widened (av : slave_way) (b : slave_way) : Option slave_way :=
  cond (decide (b.lost.Low < av.lost.Low))
  (slave_widened_k1 av b b.story)
  (slave_widened_k1 av b av.story)
theorem slave_widened_ok {w0 : World} {D0 : Stab} (hD : D0.on w0) (av : slave_way) (b : slave_way) {p : Option Addr} {c : Nat} {p_1 : Option Addr} {c_1 : Nat} (hs : SRc (C_sl C_int) D0 av.story p c) (hs_1 : SRc (C_sl C_int) D0 b.story p_1 c_1) (out : slave_way) (h : slave_widened av b = some out) : Calls Tryd.prog 84 [.agg #[iv av.lost.Low, iv av.lost.High, .slice p av.story.length c], .agg #[iv b.lost.Low, iv b.lost.High, .slice p_1 b.story.length c_1]].toArray w0 (RetS D0 w0 fun D v => ∃ p_3 c_3, v = .agg #[iv out.lost.Low, iv out.lost.High, .slice p_3 out.story.length c_3] ∧ SRc (C_sl C_int) D out.story p_3 c_3) := by
 refine enter _ 32 Tryd.func84 rfl Tryd.ntmps84 rfl fun a hF => ?_
 replace hF : Frm 32 [] [(0, .agg #[iv av.lost.Low, iv av.lost.High, .slice p av.story.length c]), (1, .agg #[iv b.lost.Low, iv b.lost.High, .slice p_1 b.story.length c_1])] a := hF
 have hS := St.start hD
 unfold slave_widened at h
 refine seq (region (O.box (cs := [iv av.lost.Low, iv av.lost.High, .slice p av.story.length c]) 1 hF rfl rfl hS rfl fun b_1 a w hF hS => O.box (cs := [iv b.lost.Low, iv b.lost.High, .slice p_1 b.story.length c_1]) 2 hF rfl rfl hS rfl fun b_2 a w hF hS => O.alloc 3 zc_98 hF hS rfl fun b_3 a w hF hS => nT (seq_cut (fun a w => ∃ (l : (List (List Int))), ∃ p_2 c_2, Frm 32 [] [(2, .pointer (some ⟨b_1, 0, none⟩)), (3, .pointer (some ⟨b_2, 0, none⟩)), (4, .pointer (some ⟨b_3, 0, none⟩))] a ∧ St w0 D0 D0 [(1, .cells b_1 [iv av.lost.Low, iv av.lost.High, .slice p_2 l.length c_2] 98), (2, .cells b_2 [iv b.lost.Low, iv b.lost.High, .slice p_1 b.story.length c_1] 98), (3, .cells b_3 [iv 0, iv 0, .slice none 0 0] 98)] w ∧ SRc (C_sl C_int) D0 l p_2 c_2 ∧ slave_widened_k1 av b l = some out) ?_ ?_)))
 ·skip
  refine seq (region (step hF (Y.fieldAddr fo_98_0 hF rfl) rfl fun a hF => step hF (Y.fieldAddr fo_33_0 hF rfl) rfl fun a hF => step hF (Y.load1L 2 sz_3 hF rfl hS rfl rfl) rfl fun a hF => step hF (Y.fieldAddr fo_98_0 hF rfl) rfl fun a hF => step hF (Y.fieldAddr fo_33_0 hF rfl) rfl fun a hF => step hF (Y.load1L 1 sz_3 hF rfl hS rfl rfl) rfl fun a hF => step hF (Y.lss hF rfl rfl) rfl fun a hF => nT (cond_b hF rfl (fun hbv => ?_) (fun hbv => ?_))))
  ·replace h := cond_t h hbv
   refine region (step hF (Y.fieldAddr fo_98_1 hF rfl) rfl fun a hF => step hF (Y.load1L 2 sz_38 hF rfl hS rfl rfl) rfl fun a hF => step hF (Y.fieldAddr fo_98_1 hF rfl) rfl fun a hF => O.store (us := [.slice p_1 b.story.length c_1]) 1 sz_38 hF rfl rfl rfl rfl hS rfl rfl fun a w hF hS => nT (⟨b.story, p_1, c_1, hF.weak (AF rfl), hS.weak (AL rfl), hs_1, h⟩))
  replace h := cond_f h hbv
  refine skip_ (then_n (⟨av.story, p, c, hF.weak (AF rfl), hS.weak (AL rfl), hs, h⟩))
 rintro a w ⟨l, p_2, c_2, hF, hS, hs_2, h⟩
 unfold slave_widened_k1 at h
 refine seq (region (step hF (Y.fieldAddr fo_98_0 hF rfl) rfl fun a hF => step hF (Y.fieldAddr fo_33_0 hF rfl) rfl fun a hF => step hF (Y.load1L 1 sz_3 hF rfl hS rfl rfl) rfl fun a hF => step hF (Y.fieldAddr fo_98_0 hF rfl) rfl fun a hF => step hF (Y.fieldAddr fo_33_0 hF rfl) rfl fun a hF => step hF (Y.load1L 2 sz_3 hF rfl hS rfl rfl) rfl fun a hF => step hF (Y.min2 hF rfl rfl) rfl fun a hF => step hF (Y.fieldAddr fo_98_0 hF rfl) rfl fun a hF => step hF (Y.fieldAddr fo_33_1 hF rfl) rfl fun a hF => step hF (Y.load1L 1 sz_3 hF rfl hS rfl rfl) rfl fun a hF => step hF (Y.fieldAddr fo_98_0 hF rfl) rfl fun a hF => step hF (Y.fieldAddr fo_33_1 hF rfl) rfl fun a hF => step hF (Y.load1L 2 sz_3 hF rfl hS rfl rfl) rfl fun a hF => step hF (Y.max2 hF rfl rfl) rfl fun a hF => step hF (Y.build (parts := [(0, (.tmp 21)), (1, (.tmp 28))]) (cs := #[iv (if b.lost.Low < av.lost.Low then b.lost.Low else av.lost.Low), iv (if b.lost.High > av.lost.High then b.lost.High else av.lost.High)]) hF rfl (by kernel_rfl)) rfl fun a hF => step hF (Y.fieldAddr fo_98_0 hF rfl) rfl fun a hF => O.store (us := [iv (if b.lost.Low < av.lost.Low then b.lost.Low else av.lost.Low), iv (if b.lost.High > av.lost.High then b.lost.High else av.lost.High)]) 1 sz_33 hF rfl rfl rfl rfl hS rfl rfl fun a w hF hS => nT (seq (region (step hF (Y.loadNL 1 sz_98 hF rfl hS rfl rfl rfl) rfl fun a hF => O.store (us := [iv (if b.lost.Low < av.lost.Low then b.lost.Low else av.lost.Low), iv (if b.lost.High > av.lost.High then b.lost.High else av.lost.High), .slice p_2 l.length c_2]) 3 sz_98 hF rfl rfl rfl rfl hS rfl rfl fun a w hF hS => nT (ret_ ?_))))))
 obtain rfl := some_inj h
 exact leaveS Tryd.results84 hF hS (.cons (.cellN 3 sz_98 rfl rfl rfl) .nil) .nil ⟨_, _, rfl, hs_2⟩
noncomputable def slave_add_k1 (m : (List (slave_spot × slave_way))) (xv : slave_spot) (z : Int) (z_1 : Int) (l : (List (List Int))) : Option (List (slave_spot × slave_way)) :=
  some (mput kl_143 m xv (slave_way.mk (Span.mk z z_1) l))
noncomputable def slave_add (m : (List (slave_spot × slave_way))) (xv : slave_spot) (wv : slave_way) : Option (List (slave_spot × slave_way)) :=
  cond ((mget kl_143 m xv).isSome)
  ((slave_widened (slave_way.mk (Span.mk ((((mget kl_143 m xv).getD ((slave_way.mk (Span.mk 0 0) ([] : List (List Int))) : slave_way)).lost).Low) ((((mget kl_143 m xv).getD ((slave_way.mk (Span.mk 0 0) ([] : List (List Int))) : slave_way)).lost).High)) (((mget kl_143 m xv).getD ((slave_way.mk (Span.mk 0 0) ([] : List (List Int))) : slave_way)).story)) wv).bind fun rv =>
  slave_add_k1 m xv rv.lost.Low rv.lost.High rv.story)
  (slave_add_k1 m xv wv.lost.Low wv.lost.High wv.story)
theorem slave_add_ok {wb w0 : World} {Db D0 : Stab} {Sx : List Nat} {hpx : Nat → Option Obj} (m : (List (slave_spot × slave_way))) (xv : slave_spot) (wv : slave_way) {bb : Nat} {es : Array MapEntry} {clk : Nat} {p : Option Addr} {c : Nat} (hm_1 : MRepB kl_143 C_slave_way true D0 m es clk) (hs : SRc (C_sl C_int) D0 wv.story p c) (hS0 : St wb Db D0 [(1, .obj bb (.map es clk)), (0, .snap Sx hpx)] w0) (out : (List (slave_spot × slave_way))) (h : slave_add m xv wv = some out) : Calls Tryd.prog 94 [.map (some bb), .agg #[iv xv.state.Shown, iv xv.state.Last, iv xv.lost], .agg #[iv wv.lost.Low, iv wv.lost.High, .slice p wv.story.length c]].toArray w0 (RetM D0 fun D w v => ∃ (es1 : Array MapEntry) (ck1 : Nat), St wb Db D [(1, .obj bb (.map es1 ck1)), (0, .snap Sx hpx)] w ∧ v = .tuple #[] ∧ MRepB kl_143 C_slave_way true D out es1 ck1) := by
 refine enter _ 21 Tryd.func94 rfl Tryd.ntmps94 rfl fun a hF => ?_
 replace hF : Frm 21 [] [(0, .map (some bb)), (1, .agg #[iv xv.state.Shown, iv xv.state.Last, iv xv.lost]), (2, .agg #[iv wv.lost.Low, iv wv.lost.High, .slice p wv.story.length c])] a := hF
 have hS := hS0
 unfold slave_add at h
 refine seq (region (O.box (cs := [iv xv.state.Shown, iv xv.state.Last, iv xv.lost]) 2 hF rfl rfl hS rfl fun b a w hF hS => O.box (cs := [iv wv.lost.Low, iv wv.lost.High, .slice p wv.story.length c]) 3 hF rfl rfl hS rfl fun b_1 a w hF hS => nT (seq_cut (fun a w => ∃ (z : Int) (z_1 : Int) (l : (List (List Int))), ∃ (Dv : Stab), ∃ p_1 c_1, D0.le Dv ∧ Frm 21 [] [(0, .map (some bb)), (4, .pointer (some ⟨b, 0, none⟩)), (5, .pointer (some ⟨b_1, 0, none⟩))] a ∧ St wb Db Dv [(1, .obj bb (.map es clk)), (2, .cells b [iv xv.state.Shown, iv xv.state.Last, iv xv.lost] 143), (3, .cells b_1 [iv z, iv z_1, .slice p_1 l.length c_1] 98), (0, .snap Sx hpx)] w ∧ SRc (C_sl C_int) Dv l p_1 c_1 ∧ slave_add_k1 m xv z z_1 l = some out) ?_ ?_)))
 ·skip
  refine seq (region (step hF (Y.move hF rfl) rfl fun a hF => step hF (Y.loadNL 2 sz_143 hF rfl hS rfl rfl rfl) rfl fun a hF => ?_))
  obtain ⟨cc, hc, hY⟩ := Y.lookupO (kl := kl_143) (C := C_slave_way) (agg := true) (xs := m) (x := (.tmp 9)) (y := (.tmp 10)) (z := [iv 0, iv 0, .slice none 0 0]) (z0 := ((slave_way.mk (Span.mk 0 0) ([] : List (List Int))) : slave_way)) true 1 mt_141 (fun _ => rfl) (⟨_, _, rfl, SRc.nil⟩) xv hm_1.1 hF rfl rfl (lkOf hS rfl)
  obtain ⟨p_2, c_2, rfl, hs_2⟩ := C_slave_way.open hc
  refine step hF ((show Yields _ _ _ _ (.tuple #[.agg #[iv ((((mget kl_143 m xv).getD ((slave_way.mk (Span.mk 0 0) ([] : List (List Int))) : slave_way)).lost).Low), iv ((((mget kl_143 m xv).getD ((slave_way.mk (Span.mk 0 0) ([] : List (List Int))) : slave_way)).lost).High), .slice p_2 (((mget kl_143 m xv).getD ((slave_way.mk (Span.mk 0 0) ([] : List (List Int))) : slave_way)).story).length c_2], .bool ((mget kl_143 m xv).isSome)]) from hY hS)) rfl fun a hF => step hF (Y.move hF rfl) rfl fun a hF => step hF (Y.extract hF rfl rfl) rfl fun a hF => step hF (Y.extract hF rfl rfl) rfl fun a hF => O.alloc 4 zc_98 hF hS rfl fun b_2 a w hF hS => O.store (us := [iv ((((mget kl_143 m xv).getD ((slave_way.mk (Span.mk 0 0) ([] : List (List Int))) : slave_way)).lost).Low), iv ((((mget kl_143 m xv).getD ((slave_way.mk (Span.mk 0 0) ([] : List (List Int))) : slave_way)).lost).High), .slice p_2 (((mget kl_143 m xv).getD ((slave_way.mk (Span.mk 0 0) ([] : List (List Int))) : slave_way)).story).length c_2]) 4 sz_98 hF rfl rfl rfl rfl hS rfl rfl fun a w hF hS => step hF (Y.assign hF rfl) rfl fun a hF => nT (seq (region (step hF (Y.move hF rfl) rfl fun a hF => nT (cond_b hF rfl (fun hbv => ?_) (fun hbv => ?_)))))
  ·replace h := cond_t h hbv
   refine region (step hF (Y.loadNL 4 sz_98 hF rfl hS rfl rfl rfl) rfl fun a hF => step hF (Y.loadNL 3 sz_98 hF rfl hS rfl rfl rfl) rfl fun a hF => ?_)
   obtain ⟨rv, hx, h⟩ := bind_some h
   refine O.callS (us := [.agg #[iv ((((mget kl_143 m xv).getD ((slave_way.mk (Span.mk 0 0) ([] : List (List Int))) : slave_way)).lost).Low), iv ((((mget kl_143 m xv).getD ((slave_way.mk (Span.mk 0 0) ([] : List (List Int))) : slave_way)).lost).High), .slice p_2 (((mget kl_143 m xv).getD ((slave_way.mk (Span.mk 0 0) ([] : List (List Int))) : slave_way)).story).length c_2], .agg #[iv wv.lost.Low, iv wv.lost.High, .slice p wv.story.length c]]) ca_84 hF hS (slave_widened_ok hS.stab (slave_way.mk (Span.mk ((((mget kl_143 m xv).getD ((slave_way.mk (Span.mk 0 0) ([] : List (List Int))) : slave_way)).lost).Low) ((((mget kl_143 m xv).getD ((slave_way.mk (Span.mk 0 0) ([] : List (List Int))) : slave_way)).lost).High)) (((mget kl_143 m xv).getD ((slave_way.mk (Span.mk 0 0) ([] : List (List Int))) : slave_way)).story)) wv hs_2 hs rv hx) rfl rfl fun v Dv_1 a w hR hlev_1 hF hS => ?_
   obtain ⟨p_3, c_3, rfl, hs_3⟩ := hR
   refine O.store (us := [iv rv.lost.Low, iv rv.lost.High, .slice p_3 rv.story.length c_3]) 3 sz_98 hF rfl rfl rfl rfl hS rfl rfl fun a w hF hS => nT (⟨rv.lost.Low, rv.lost.High, rv.story, Dv_1, p_3, c_3, hlev_1, hF.weak (AF rfl), hS.weak (AL rfl), hs_3, h⟩)
  replace h := cond_f h hbv
  refine skip_ (then_n (⟨wv.lost.Low, wv.lost.High, wv.story, D0, p, c, Stab.le.refl _, hF.weak (AF rfl), hS.weak (AL rfl), hs, h⟩))
 rintro a w ⟨z, z_1, l, Dv, p_1, c_1, hlev, hF, hS, hs_1, h⟩
 unfold slave_add_k1 at h
 replace hm_1 := hm_1.mono hlev
 refine region (step hF (Y.move hF rfl) rfl fun a hF => step hF (Y.loadNL 2 sz_143 hF rfl hS rfl rfl rfl) rfl fun a hF => step hF (Y.loadNL 3 sz_98 hF rfl hS rfl rfl rfl) rfl fun a hF => map_putB (kl := kl_143) (C := C_slave_way) (agg := true) (x := (.tmp 18)) (y := (.tmp 19)) (u := (.tmp 20)) (v0 := (slave_way.mk (Span.mk z z_1) l)) (cs := [iv z, iv z_1, .slice p_1 l.length c_1]) (.inl rfl) 1 mt_141 (fun _ => rfl) xv hm_1 (⟨_, _, rfl, hs_1⟩) hF rfl rfl rfl hS rfl fun es_1 clk_1 a w hF hS hm_2 => nil ?_)
 obtain rfl := some_inj h
 exact leaveM (ms := [(1, .obj bb (.map es_1 clk_1)), (0, .snap Sx hpx)]) Tryd.results94 hF hS .nil (.inl rfl) ⟨rfl, rfl, trivial⟩ hlev fun w hS => ⟨_, _, hS, rfl, hm_2⟩
noncomputable def slices_Clone_____int___int_ (s : List (List Int)) : Option (List (List Int)) := if s.length ≤ lim then some s else none
theorem slices_Clone_____int___int__own {w0 : World} {D0 : Stab} (hD : D0.on w0) (s : List (List Int)) {p : Option Addr} {c : Nat} (hs : SRc (C_sl C_int) D0 s p c) (out : List (List Int)) (h : slices_Clone_____int___int_ s = some out) : Calls Tryd.prog 97 [.slice p s.length c].toArray w0 (RetM D0 (RetO w0 D0 (C_sl C_int) out 26 fun p c => .slice p out.length c)) := by
 unfold slices_Clone_____int___int_ at h
 obtain ⟨hlim, h⟩ := ite_some h
 obtain rfl := some_inj h
 refine enter _ 8 Tryd.func97 rfl Tryd.ntmps97 rfl fun a hF => ?_
 replace hF : Frm 8 [] [(0, .slice p s.length c)] a := hF
 have hS := St.start hD
 refine seq (region (step hF (Y.assign hF rfl) rfl fun a hF => nT (seq (seq (region (step hF (Y.move hF rfl) rfl fun a hF => step hF (Y.eqNil u_38 hF rfl) rfl fun a hF => nT ?_))))))
 rcases nilCases hs.1 with ⟨rfl, rfl⟩ | ⟨q, rfl⟩
 ·refine cond_b hF rfl (fun _ => ?_) (fun hb => by cases hb)
  refine seq (region (step hF (Y.assign hF rfl) rfl fun a hF => ?_))
  replace hS := hS.ownNil 1 26 1
  refine nT (ret_ (then_r (leaveO (C := (C_sl C_int)) (xs := []) 1 Tryd.results97 hF hS (.cons (.tmp rfl) .nil) (.inl rfl) rfl rfl Reps.nil)))
 refine cond_b hF rfl (fun hb => by cases hb) (fun _ => skip_ (then_n (seq (region (O.buildSlice (E := 26) (C := (C_sl C_int)) (xs := ([] : List (List Int))) (cs := []) (us := []) (parts := []) 1 hF hS rfl (by kernel_rfl) Reps.nil rfl rfl rfl fun p1 c1 a w hF hS => step hF (Y.move hF rfl) rfl fun a hF => ?_)))))
 obtain ⟨ds, hds, hsrc⟩ := src_stab (C := (C_sl C_int)) (xs := s) hs.1 hS.stab
 refine O.append (C := (C_sl C_int)) (xs := []) (ys := s) 1 gr_38 hF rfl rfl hS rfl hsrc Reps.nil hds (by simpa using hlim) rfl fun p2 c2 a w hF hS hr => step hF (Y.assign hF rfl) rfl fun a hF => nT (ret_ (leaveO (C := (C_sl C_int)) 1 Tryd.results97 hF hS (.cons (.tmp rfl) .nil) (.inl rfl) rfl rfl hr))
noncomputable def slices_Clone___int_int_ (s : List Int) : Option (List Int) := if s.length ≤ lim then some s else none
theorem slices_Clone___int_int__own {w0 : World} {D0 : Stab} (hD : D0.on w0) (s : List Int) {p : Option Addr} {c : Nat} (hs : SRc C_int D0 s p c) (out : List Int) (h : slices_Clone___int_int_ s = some out) : Calls Tryd.prog 68 [.slice p s.length c].toArray w0 (RetM D0 (RetO w0 D0 C_int out 3 fun p c => .slice p out.length c)) := by
 unfold slices_Clone___int_int_ at h
 obtain ⟨hlim, h⟩ := ite_some h
 obtain rfl := some_inj h
 refine enter _ 8 Tryd.func68 rfl Tryd.ntmps68 rfl fun a hF => ?_
 replace hF : Frm 8 [] [(0, .slice p s.length c)] a := hF
 have hS := St.start hD
 refine seq (region (step hF (Y.assign hF rfl) rfl fun a hF => nT (seq (seq (region (step hF (Y.move hF rfl) rfl fun a hF => step hF (Y.eqNil u_26 hF rfl) rfl fun a hF => nT ?_))))))
 rcases nilCases hs.1 with ⟨rfl, rfl⟩ | ⟨q, rfl⟩
 ·refine cond_b hF rfl (fun _ => ?_) (fun hb => by cases hb)
  refine seq (region (step hF (Y.assign hF rfl) rfl fun a hF => ?_))
  replace hS := hS.ownNil 1 3 1
  refine nT (ret_ (then_r (leaveO (C := C_int) (xs := []) 1 Tryd.results68 hF hS (.cons (.tmp rfl) .nil) (.inl rfl) rfl rfl Reps.nil)))
 refine cond_b hF rfl (fun hb => by cases hb) (fun _ => skip_ (then_n (seq (region (O.buildSlice (E := 3) (C := C_int) (xs := ([] : List Int)) (cs := []) (us := []) (parts := []) 1 hF hS rfl (by kernel_rfl) Reps.nil rfl rfl rfl fun p1 c1 a w hF hS => step hF (Y.move hF rfl) rfl fun a hF => ?_)))))
 obtain ⟨ds, hds, hsrc⟩ := src_stab (C := C_int) (xs := s) hs.1 hS.stab
 refine O.append (C := C_int) (xs := []) (ys := s) 1 gr_26 hF rfl rfl hS rfl hsrc Reps.nil hds (by simpa using hlim) rfl fun p2 c2 a w hF hS hr => step hF (Y.assign hF rfl) rfl fun a hF => nT (ret_ (leaveO (C := C_int) 1 Tryd.results68 hF hS (.cons (.tmp rfl) .nil) (.inl rfl) rfl rfl hr))
theorem slices_Clone___int_int__ok {w0 : World} {D0 : Stab} (hD : D0.on w0) (s : List Int) {p : Option Addr} {c : Nat} (hs : SRc C_int D0 s p c) (out : List Int) (h : slices_Clone___int_int_ s = some out) : Calls Tryd.prog 68 [.slice p s.length c].toArray w0 (RetS D0 w0 fun D v => ∃ p c, v = .slice p out.length c ∧ SRc C_int D out p c) :=
 (slices_Clone___int_int__own hD s hs out h).mono fun _ _ h => retO_S h
noncomputable def slave_lose (wv : slave_way) (k : Int) : Option slave_way :=
  (slices_Clone_____int___int_ wv.story).bind fun rv =>
  (idx rv (wr ((wv.story.length : Int) - 1))).bind fun e =>
  if e.length + ([k]).length ≤ lim then
  if (0 : Int) ≤ (wr ((wv.story.length : Int) - 1)) ∧ (wr ((wv.story.length : Int) - 1)) < (rv.length : Int) then
  some (slave_way.mk (Span.mk (wr (wv.lost.Low + 1)) (wr (wv.lost.High + 1))) (rv.set (Int.toNat (wr ((wv.story.length : Int) - 1))) (e ++ [k])))
  else none
  else none
theorem slave_lose_ok {w0 : World} {D0 : Stab} (hD : D0.on w0) (wv : slave_way) (k : Int) {p : Option Addr} {c : Nat} (hs : SRc (C_sl C_int) D0 wv.story p c) (out : slave_way) (h : slave_lose wv k = some out) : Calls Tryd.prog 95 [.agg #[iv wv.lost.Low, iv wv.lost.High, .slice p wv.story.length c], iv k].toArray w0 (RetS D0 w0 fun D v => ∃ p_50 c_50, v = .agg #[iv out.lost.Low, iv out.lost.High, .slice p_50 out.story.length c_50] ∧ SRc (C_sl C_int) D out.story p_50 c_50) := by
 refine enter _ 46 Tryd.func95 rfl Tryd.ntmps95 rfl fun a hF => ?_
 replace hF : Frm 46 [] [(0, .agg #[iv wv.lost.Low, iv wv.lost.High, .slice p wv.story.length c]), (1, iv k)] a := hF
 have hS := St.start hD
 unfold slave_lose at h
 refine seq (region (O.box (cs := [iv wv.lost.Low, iv wv.lost.High, .slice p wv.story.length c]) 1 hF rfl rfl hS rfl fun b a w hF hS => O.alloc 2 zc_98 hF hS rfl fun b_1 a w hF hS => nT (seq (region (step hF (Y.fieldAddr fo_98_1 hF rfl) rfl fun a hF => step hF (Y.load1L 1 sz_38 hF rfl hS rfl rfl) rfl fun a hF => step hF (Y.lenSl u_38 hF rfl) rfl fun a hF => step hF (Y.sub hF rfl rfl) rfl fun a hF => step hF (Y.assign hF rfl) rfl fun a hF => nT (seq (region (step hF (Y.fieldAddr fo_98_1 hF rfl) rfl fun a hF => step hF (Y.load1L 1 sz_38 hF rfl hS rfl rfl) rfl fun a hF => ?_))))))))
 obtain ⟨rv, hx, h⟩ := bind_some h
 refine O.callO 3 (us := [.slice p wv.story.length c]) ca_97 hF hS (slices_Clone_____int___int__own hS.stab wv.story hs rv hx) rfl rfl fun p_1 c_1 cs Dv a w hlev hr hF hS => step hF (Y.assign hF rfl) rfl fun a hF => nT (seq ?_)
 obtain ⟨e, hx_1, h⟩ := bind_some h
 obtain ⟨hg, h⟩ := ite_some h
 refine drawsV 20 (.flt 0 (.flt 1 (.flt 2 (.flt 3 (.flt 4 (.flt 6 (.flt 7 (.flt 8 (.flt 11 (.flt 12 (.flt 13 (.flt 17 (.alt 5 (.alt 9 (.flt 10 (.alt 14 (.flt 15 (.flt 16 (.alt 18 (.alt 19 .done .stop) .stop))) (.alt 18 (.alt 14 (.flt 15 (.flt 16 (.alt 19 .done .stop))) .stop) .stop))) (.alt 14 (.flt 15 (.alt 9 (.flt 10 (.flt 16 (.alt 18 (.alt 19 .done .stop) .stop))) (.alt 18 (.alt 9 (.flt 10 (.flt 16 (.alt 19 .done .stop))) .stop) .stop))) (.alt 18 (.alt 9 (.flt 10 (.alt 14 (.flt 15 (.flt 16 (.alt 19 .done .stop))) .stop)) (.alt 14 (.flt 15 (.alt 9 (.flt 10 (.flt 16 (.alt 19 .done .stop))) .stop)) .stop)) .stop))) (.alt 9 (.flt 10 (.alt 5 (.alt 14 (.flt 15 (.flt 16 (.alt 18 (.alt 19 .done .stop) .stop))) (.alt 18 (.alt 14 (.flt 15 (.flt 16 (.alt 19 .done .stop))) .stop) .stop)) (.alt 14 (.flt 15 (.alt 5 (.flt 16 (.alt 18 (.alt 19 .done .stop) .stop)) (.alt 18 (.alt 5 (.flt 16 (.alt 19 .done .stop)) .stop) .stop))) (.alt 18 (.alt 5 (.alt 14 (.flt 15 (.flt 16 (.alt 19 .done .stop))) .stop) (.alt 14 (.flt 15 (.alt 5 (.flt 16 (.alt 19 .done .stop)) .stop)) .stop)) .stop)))) (.alt 14 (.flt 15 (.alt 5 (.alt 9 (.flt 10 (.flt 16 (.alt 18 (.alt 19 .done .stop) .stop))) (.alt 18 (.alt 9 (.flt 10 (.flt 16 (.alt 19 .done .stop))) .stop) .stop)) (.alt 9 (.flt 10 (.alt 5 (.flt 16 (.alt 18 (.alt 19 .done .stop) .stop)) (.alt 18 (.alt 5 (.flt 16 (.alt 19 .done .stop)) .stop) .stop))) (.alt 18 (.alt 5 (.alt 9 (.flt 10 (.flt 16 (.alt 19 .done .stop))) .stop) (.alt 9 (.flt 10 (.alt 5 (.flt 16 (.alt 19 .done .stop)) .stop)) .stop)) .stop)))) (.alt 18 (.alt 5 (.alt 9 (.flt 10 (.alt 14 (.flt 15 (.flt 16 (.alt 19 .done .stop))) .stop)) (.alt 14 (.flt 15 (.alt 9 (.flt 10 (.flt 16 (.alt 19 .done .stop))) .stop)) .stop)) (.alt 9 (.flt 10 (.alt 5 (.alt 14 (.flt 15 (.flt 16 (.alt 19 .done .stop))) .stop) (.alt 14 (.flt 15 (.alt 5 (.flt 16 (.alt 19 .done .stop)) .stop)) .stop))) (.alt 14 (.flt 15 (.alt 5 (.alt 9 (.flt 10 (.flt 16 (.alt 19 .done .stop))) .stop) (.alt 9 (.flt 10 (.alt 5 (.flt 16 (.alt 19 .done .stop)) .stop)) .stop))) .stop))) .stop)))))))))))))))) mixed_ (by kernel_rfl) (fun w => St w0 D0 Dv [(1, .cells b [iv wv.lost.Low, iv wv.lost.High, .slice p wv.story.length c] 98), (2, .cells b_1 [iv 0, iv 0, .slice none 0 0] 98), (3, .own p_1 rv.length c_1 cs 26 1)] w) (fun a w => ∃ (p_6 : Option Addr) (c_6 : Nat) (p_5 : Option Addr) (c_5 : Nat) (cs_1 : List Value), Frm 46 [] [(2, .pointer (some ⟨b, 0, none⟩)), (4, .pointer (some ⟨b_1, 0, none⟩)), (6, .slice p_1 rv.length c_1), (14, .slice p_1 rv.length c_1), (15, iv (wr ((wv.story.length : Int) - 1))), (33, .slice p_6 (e ++ [k]).length c_6)] a ∧ St w0 D0 Dv [(1, .cells b [iv wv.lost.Low, iv wv.lost.High, .slice p wv.story.length c] 98), (2, .cells b_1 [iv 0, iv 0, .slice none 0 0] 98), (3, .own p_1 rv.length c_1 cs 26 1), (4, .own p_5 ([k]).length c_5 ([iv k]) 3 1), (5, .own p_6 (e ++ [k]).length c_6 cs_1 3 1)] w ∧ Reps C_int Dv ([k]) ([iv k]) ∧ Reps C_int Dv (e ++ [k]) cs_1) (hS.weak (ms := [(1, .cells b [iv wv.lost.Low, iv wv.lost.High, .slice p wv.story.length c] 98), (2, .cells b_1 [iv 0, iv 0, .slice none 0 0] 98), (3, .own p_1 rv.length c_1 cs 26 1)]) (AL rfl)).drew (fun _ _ _ _ h => h) ?_ ?_
 ·replace hS := hS.drew
  have hle0 := hS.le
  refine stepV (i := 0) rfl hF (fun w hS => Y.move hF rfl) rfl fun a hF => stepV (i := 1) rfl hF (fun w hS => Y.move hF rfl) rfl fun a hF => stepV (i := 2) rfl hF (fun w hS => Y.move hF rfl) rfl fun a hF => stepV (i := 3) rfl hF (fun w hS => Y.move hF rfl) rfl fun a hF => ?_
  obtain ⟨b_5, hp_3⟩ := hS.ownPtr (i := 3) rfl (idx_rng hx_1)
  obtain ⟨cc_3, hc_3, hsub_3⟩ := ownElI (C := (C_sl C_int)) hr hx_1
  obtain ⟨p_7, c_7, rfl, hs_4⟩ := hc_3
  refine stepV (i := 4) rfl hF (fun w hS => Y.indexOwn hp_3 u_38 sz_26 (idx_rng hx_1) hF rfl rfl) rfl fun a hF => stepV (i := 6) rfl hF (fun w hS => Y.move hF rfl) rfl fun a hF => stepV (i := 7) rfl hF (fun w hS => Y.move hF rfl) rfl fun a hF => ?_
  obtain ⟨b_6, hp_4⟩ := hS.ownPtr (i := 3) rfl (idx_rng hx_1)
  obtain ⟨cc_4, hc_4, hsub_4⟩ := ownElI (C := (C_sl C_int)) hr hx_1
  obtain ⟨p_8, c_8, rfl, hs_5⟩ := hc_4
  refine stepV (i := 8) rfl hF (fun w hS => Y.indexOwn hp_4 u_38 sz_26 (idx_rng hx_1) hF rfl rfl) rfl fun a hF => stepV (i := 11) rfl hF (fun w hS => Y.move hF rfl) rfl fun a hF => stepV (i := 12) rfl hF (fun w hS => Y.move hF rfl) rfl fun a hF => ?_
  obtain ⟨b_7, hp_5⟩ := hS.ownPtr (i := 3) rfl (idx_rng hx_1)
  obtain ⟨cc_5, hc_5, hsub_5⟩ := ownElI (C := (C_sl C_int)) hr hx_1
  obtain ⟨p_9, c_9, rfl, hs_6⟩ := hc_5
  refine stepV (i := 13) rfl hF (fun w hS => Y.indexOwn hp_5 u_38 sz_26 (idx_rng hx_1) hF rfl rfl) rfl fun a hF => stepV (i := 17) rfl hF (fun w hS => Y.move hF rfl) rfl fun a hF => oneV (i := 5) rfl ?_ ?_
  ·skip
   refine step hF (Y.load1 sz_26 hF rfl (ownElCell (C := (C_sl C_int)) (i := 3) hS rfl hp_3 hsub_3 0 _ rfl)) rfl fun a hF => nT ⟨hS.weak (AL rfl), ?_⟩
   refine oneV (i := 9) rfl ?_ ?_
   ·skip
    refine step hF (Y.load1 sz_26 hF rfl (ownElCell (C := (C_sl C_int)) (i := 3) hS rfl hp_4 hsub_4 0 _ rfl)) rfl fun a hF => nT ⟨hS.weak (AL rfl), ?_⟩
    refine stepV (i := 10) rfl hF (fun w hS => Y.lenSl u_26 hF rfl) rfl fun a hF => oneV (i := 14) rfl ?_ ?_
    ·skip
     refine step hF (Y.load1 sz_26 hF rfl (ownElCell (C := (C_sl C_int)) (i := 3) hS rfl hp_5 hsub_5 0 _ rfl)) rfl fun a hF => nT ⟨hS.weak (AL rfl), ?_⟩
     refine stepV (i := 15) rfl hF (fun w hS => Y.lenSl u_26 hF rfl) rfl fun a hF => stepV (i := 16) rfl hF (fun w hS => Y.slice3 u_26 sz_3 hF rfl rfl rfl hs_4.2) rfl fun a hF => oneV (i := 18) rfl ?_ trivial
     have hr_3 : Reps C_int Dv [k] [iv k] := Reps.cons (C := C_int) (x := k) (c := [iv k]) (r := []) rfl (Reps.nil)
     refine O.buildSlice (E := 3) (C := C_int) (xs := [k]) (cs := [iv k]) (us := [iv k]) (parts := [(0, (.tmp 31))]) 4 hF hS rfl (by kernel_rfl) hr_3 rfl rfl rfl fun p_10 c_10 a w hF hS => nT ⟨hS.weak (AL rfl), ?_⟩
     refine oneV (i := 19) rfl ?_ trivial
     refine O.appendS (C := C_int) (xs := e) (ys := [k]) 5 gr_26 hF rfl rfl hS ((⟨hs_4.1, Nat.le_refl _⟩ : SRc _ _ _ _ _)).1 (src_own (i := 4) hS rfl) hr_3 (Nat.succ_pos _) hg rfl fun p_11 c_11 cs_2 a w hF hS hr_4 => nT ⟨hS.weak (AL rfl), ?_⟩
     exact toTailV ⟨p_11, c_11, p_10, c_10, cs_2, hF.weak (AF rfl), hS.weak (AL rfl), hr_3, hr_4⟩
    refine oneV (i := 18) rfl ?_ trivial
    have hr_5 : Reps C_int Dv [k] [iv k] := Reps.cons (C := C_int) (x := k) (c := [iv k]) (r := []) rfl (Reps.nil)
    refine O.buildSlice (E := 3) (C := C_int) (xs := [k]) (cs := [iv k]) (us := [iv k]) (parts := [(0, (.tmp 31))]) 4 hF hS rfl (by kernel_rfl) hr_5 rfl rfl rfl fun p_12 c_12 a w hF hS => nT ⟨hS.weak (AL rfl), ?_⟩
    refine oneV (i := 14) rfl ?_ trivial
    refine step hF (Y.load1 sz_26 hF rfl (ownElCell (C := (C_sl C_int)) (i := 3) hS rfl hp_5 hsub_5 0 _ rfl)) rfl fun a hF => nT ⟨hS.weak (AL rfl), ?_⟩
    refine stepV (i := 15) rfl hF (fun w hS => Y.lenSl u_26 hF rfl) rfl fun a hF => stepV (i := 16) rfl hF (fun w hS => Y.slice3 u_26 sz_3 hF rfl rfl rfl hs_4.2) rfl fun a hF => oneV (i := 19) rfl ?_ trivial
    refine O.appendS (C := C_int) (xs := e) (ys := [k]) 5 gr_26 hF rfl rfl hS ((⟨hs_4.1, Nat.le_refl _⟩ : SRc _ _ _ _ _)).1 (src_own (i := 4) hS rfl) hr_5 (Nat.succ_pos _) hg rfl fun p_13 c_13 cs_3 a w hF hS hr_6 => nT ⟨hS.weak (AL rfl), ?_⟩
    exact toTailV ⟨p_13, c_13, p_12, c_12, cs_3, hF.weak (AF rfl), hS.weak (AL rfl), hr_5, hr_6⟩
   refine oneV (i := 14) rfl ?_ ?_
   ·skip
    refine step hF (Y.load1 sz_26 hF rfl (ownElCell (C := (C_sl C_int)) (i := 3) hS rfl hp_5 hsub_5 0 _ rfl)) rfl fun a hF => nT ⟨hS.weak (AL rfl), ?_⟩
    refine stepV (i := 15) rfl hF (fun w hS => Y.lenSl u_26 hF rfl) rfl fun a hF => oneV (i := 9) rfl ?_ ?_
    ·skip
     refine step hF (Y.load1 sz_26 hF rfl (ownElCell (C := (C_sl C_int)) (i := 3) hS rfl hp_4 hsub_4 0 _ rfl)) rfl fun a hF => nT ⟨hS.weak (AL rfl), ?_⟩
     refine stepV (i := 10) rfl hF (fun w hS => Y.lenSl u_26 hF rfl) rfl fun a hF => stepV (i := 16) rfl hF (fun w hS => Y.slice3 u_26 sz_3 hF rfl rfl rfl hs_4.2) rfl fun a hF => oneV (i := 18) rfl ?_ trivial
     have hr_7 : Reps C_int Dv [k] [iv k] := Reps.cons (C := C_int) (x := k) (c := [iv k]) (r := []) rfl (Reps.nil)
     refine O.buildSlice (E := 3) (C := C_int) (xs := [k]) (cs := [iv k]) (us := [iv k]) (parts := [(0, (.tmp 31))]) 4 hF hS rfl (by kernel_rfl) hr_7 rfl rfl rfl fun p_14 c_14 a w hF hS => nT ⟨hS.weak (AL rfl), ?_⟩
     refine oneV (i := 19) rfl ?_ trivial
     refine O.appendS (C := C_int) (xs := e) (ys := [k]) 5 gr_26 hF rfl rfl hS ((⟨hs_4.1, Nat.le_refl _⟩ : SRc _ _ _ _ _)).1 (src_own (i := 4) hS rfl) hr_7 (Nat.succ_pos _) hg rfl fun p_15 c_15 cs_4 a w hF hS hr_8 => nT ⟨hS.weak (AL rfl), ?_⟩
     exact toTailV ⟨p_15, c_15, p_14, c_14, cs_4, hF.weak (AF rfl), hS.weak (AL rfl), hr_7, hr_8⟩
    refine oneV (i := 18) rfl ?_ trivial
    have hr_9 : Reps C_int Dv [k] [iv k] := Reps.cons (C := C_int) (x := k) (c := [iv k]) (r := []) rfl (Reps.nil)
    refine O.buildSlice (E := 3) (C := C_int) (xs := [k]) (cs := [iv k]) (us := [iv k]) (parts := [(0, (.tmp 31))]) 4 hF hS rfl (by kernel_rfl) hr_9 rfl rfl rfl fun p_16 c_16 a w hF hS => nT ⟨hS.weak (AL rfl), ?_⟩
    refine oneV (i := 9) rfl ?_ trivial
    refine step hF (Y.load1 sz_26 hF rfl (ownElCell (C := (C_sl C_int)) (i := 3) hS rfl hp_4 hsub_4 0 _ rfl)) rfl fun a hF => nT ⟨hS.weak (AL rfl), ?_⟩
    refine stepV (i := 10) rfl hF (fun w hS => Y.lenSl u_26 hF rfl) rfl fun a hF => stepV (i := 16) rfl hF (fun w hS => Y.slice3 u_26 sz_3 hF rfl rfl rfl hs_4.2) rfl fun a hF => oneV (i := 19) rfl ?_ trivial
    refine O.appendS (C := C_int) (xs := e) (ys := [k]) 5 gr_26 hF rfl rfl hS ((⟨hs_4.1, Nat.le_refl _⟩ : SRc _ _ _ _ _)).1 (src_own (i := 4) hS rfl) hr_9 (Nat.succ_pos _) hg rfl fun p_17 c_17 cs_5 a w hF hS hr_10 => nT ⟨hS.weak (AL rfl), ?_⟩
    exact toTailV ⟨p_17, c_17, p_16, c_16, cs_5, hF.weak (AF rfl), hS.weak (AL rfl), hr_9, hr_10⟩
   refine oneV (i := 18) rfl ?_ trivial
   have hr_11 : Reps C_int Dv [k] [iv k] := Reps.cons (C := C_int) (x := k) (c := [iv k]) (r := []) rfl (Reps.nil)
   refine O.buildSlice (E := 3) (C := C_int) (xs := [k]) (cs := [iv k]) (us := [iv k]) (parts := [(0, (.tmp 31))]) 4 hF hS rfl (by kernel_rfl) hr_11 rfl rfl rfl fun p_18 c_18 a w hF hS => nT ⟨hS.weak (AL rfl), ?_⟩
   refine oneV (i := 9) rfl ?_ ?_
   ·skip
    refine step hF (Y.load1 sz_26 hF rfl (ownElCell (C := (C_sl C_int)) (i := 3) hS rfl hp_4 hsub_4 0 _ rfl)) rfl fun a hF => nT ⟨hS.weak (AL rfl), ?_⟩
    refine stepV (i := 10) rfl hF (fun w hS => Y.lenSl u_26 hF rfl) rfl fun a hF => oneV (i := 14) rfl ?_ trivial
    refine step hF (Y.load1 sz_26 hF rfl (ownElCell (C := (C_sl C_int)) (i := 3) hS rfl hp_5 hsub_5 0 _ rfl)) rfl fun a hF => nT ⟨hS.weak (AL rfl), ?_⟩
    refine stepV (i := 15) rfl hF (fun w hS => Y.lenSl u_26 hF rfl) rfl fun a hF => stepV (i := 16) rfl hF (fun w hS => Y.slice3 u_26 sz_3 hF rfl rfl rfl hs_4.2) rfl fun a hF => oneV (i := 19) rfl ?_ trivial
    refine O.appendS (C := C_int) (xs := e) (ys := [k]) 5 gr_26 hF rfl rfl hS ((⟨hs_4.1, Nat.le_refl _⟩ : SRc _ _ _ _ _)).1 (src_own (i := 4) hS rfl) hr_11 (Nat.succ_pos _) hg rfl fun p_19 c_19 cs_6 a w hF hS hr_12 => nT ⟨hS.weak (AL rfl), ?_⟩
    exact toTailV ⟨p_19, c_19, p_18, c_18, cs_6, hF.weak (AF rfl), hS.weak (AL rfl), hr_11, hr_12⟩
   refine oneV (i := 14) rfl ?_ trivial
   refine step hF (Y.load1 sz_26 hF rfl (ownElCell (C := (C_sl C_int)) (i := 3) hS rfl hp_5 hsub_5 0 _ rfl)) rfl fun a hF => nT ⟨hS.weak (AL rfl), ?_⟩
   refine stepV (i := 15) rfl hF (fun w hS => Y.lenSl u_26 hF rfl) rfl fun a hF => oneV (i := 9) rfl ?_ trivial
   refine step hF (Y.load1 sz_26 hF rfl (ownElCell (C := (C_sl C_int)) (i := 3) hS rfl hp_4 hsub_4 0 _ rfl)) rfl fun a hF => nT ⟨hS.weak (AL rfl), ?_⟩
   refine stepV (i := 10) rfl hF (fun w hS => Y.lenSl u_26 hF rfl) rfl fun a hF => stepV (i := 16) rfl hF (fun w hS => Y.slice3 u_26 sz_3 hF rfl rfl rfl hs_4.2) rfl fun a hF => oneV (i := 19) rfl ?_ trivial
   refine O.appendS (C := C_int) (xs := e) (ys := [k]) 5 gr_26 hF rfl rfl hS ((⟨hs_4.1, Nat.le_refl _⟩ : SRc _ _ _ _ _)).1 (src_own (i := 4) hS rfl) hr_11 (Nat.succ_pos _) hg rfl fun p_20 c_20 cs_7 a w hF hS hr_13 => nT ⟨hS.weak (AL rfl), ?_⟩
   exact toTailV ⟨p_20, c_20, p_18, c_18, cs_7, hF.weak (AF rfl), hS.weak (AL rfl), hr_11, hr_13⟩
  refine oneV (i := 9) rfl ?_ ?_
  ·skip
   refine step hF (Y.load1 sz_26 hF rfl (ownElCell (C := (C_sl C_int)) (i := 3) hS rfl hp_4 hsub_4 0 _ rfl)) rfl fun a hF => nT ⟨hS.weak (AL rfl), ?_⟩
   refine stepV (i := 10) rfl hF (fun w hS => Y.lenSl u_26 hF rfl) rfl fun a hF => oneV (i := 5) rfl ?_ ?_
   ·skip
    refine step hF (Y.load1 sz_26 hF rfl (ownElCell (C := (C_sl C_int)) (i := 3) hS rfl hp_3 hsub_3 0 _ rfl)) rfl fun a hF => nT ⟨hS.weak (AL rfl), ?_⟩
    refine oneV (i := 14) rfl ?_ ?_
    ·skip
     refine step hF (Y.load1 sz_26 hF rfl (ownElCell (C := (C_sl C_int)) (i := 3) hS rfl hp_5 hsub_5 0 _ rfl)) rfl fun a hF => nT ⟨hS.weak (AL rfl), ?_⟩
     refine stepV (i := 15) rfl hF (fun w hS => Y.lenSl u_26 hF rfl) rfl fun a hF => stepV (i := 16) rfl hF (fun w hS => Y.slice3 u_26 sz_3 hF rfl rfl rfl hs_4.2) rfl fun a hF => oneV (i := 18) rfl ?_ trivial
     have hr_14 : Reps C_int Dv [k] [iv k] := Reps.cons (C := C_int) (x := k) (c := [iv k]) (r := []) rfl (Reps.nil)
     refine O.buildSlice (E := 3) (C := C_int) (xs := [k]) (cs := [iv k]) (us := [iv k]) (parts := [(0, (.tmp 31))]) 4 hF hS rfl (by kernel_rfl) hr_14 rfl rfl rfl fun p_21 c_21 a w hF hS => nT ⟨hS.weak (AL rfl), ?_⟩
     refine oneV (i := 19) rfl ?_ trivial
     refine O.appendS (C := C_int) (xs := e) (ys := [k]) 5 gr_26 hF rfl rfl hS ((⟨hs_4.1, Nat.le_refl _⟩ : SRc _ _ _ _ _)).1 (src_own (i := 4) hS rfl) hr_14 (Nat.succ_pos _) hg rfl fun p_22 c_22 cs_8 a w hF hS hr_15 => nT ⟨hS.weak (AL rfl), ?_⟩
     exact toTailV ⟨p_22, c_22, p_21, c_21, cs_8, hF.weak (AF rfl), hS.weak (AL rfl), hr_14, hr_15⟩
    refine oneV (i := 18) rfl ?_ trivial
    have hr_16 : Reps C_int Dv [k] [iv k] := Reps.cons (C := C_int) (x := k) (c := [iv k]) (r := []) rfl (Reps.nil)
    refine O.buildSlice (E := 3) (C := C_int) (xs := [k]) (cs := [iv k]) (us := [iv k]) (parts := [(0, (.tmp 31))]) 4 hF hS rfl (by kernel_rfl) hr_16 rfl rfl rfl fun p_23 c_23 a w hF hS => nT ⟨hS.weak (AL rfl), ?_⟩
    refine oneV (i := 14) rfl ?_ trivial
    refine step hF (Y.load1 sz_26 hF rfl (ownElCell (C := (C_sl C_int)) (i := 3) hS rfl hp_5 hsub_5 0 _ rfl)) rfl fun a hF => nT ⟨hS.weak (AL rfl), ?_⟩
    refine stepV (i := 15) rfl hF (fun w hS => Y.lenSl u_26 hF rfl) rfl fun a hF => stepV (i := 16) rfl hF (fun w hS => Y.slice3 u_26 sz_3 hF rfl rfl rfl hs_4.2) rfl fun a hF => oneV (i := 19) rfl ?_ trivial
    refine O.appendS (C := C_int) (xs := e) (ys := [k]) 5 gr_26 hF rfl rfl hS ((⟨hs_4.1, Nat.le_refl _⟩ : SRc _ _ _ _ _)).1 (src_own (i := 4) hS rfl) hr_16 (Nat.succ_pos _) hg rfl fun p_24 c_24 cs_9 a w hF hS hr_17 => nT ⟨hS.weak (AL rfl), ?_⟩
    exact toTailV ⟨p_24, c_24, p_23, c_23, cs_9, hF.weak (AF rfl), hS.weak (AL rfl), hr_16, hr_17⟩
   refine oneV (i := 14) rfl ?_ ?_
   ·skip
    refine step hF (Y.load1 sz_26 hF rfl (ownElCell (C := (C_sl C_int)) (i := 3) hS rfl hp_5 hsub_5 0 _ rfl)) rfl fun a hF => nT ⟨hS.weak (AL rfl), ?_⟩
    refine stepV (i := 15) rfl hF (fun w hS => Y.lenSl u_26 hF rfl) rfl fun a hF => oneV (i := 5) rfl ?_ ?_
    ·skip
     refine step hF (Y.load1 sz_26 hF rfl (ownElCell (C := (C_sl C_int)) (i := 3) hS rfl hp_3 hsub_3 0 _ rfl)) rfl fun a hF => nT ⟨hS.weak (AL rfl), ?_⟩
     refine stepV (i := 16) rfl hF (fun w hS => Y.slice3 u_26 sz_3 hF rfl rfl rfl hs_4.2) rfl fun a hF => oneV (i := 18) rfl ?_ trivial
     have hr_18 : Reps C_int Dv [k] [iv k] := Reps.cons (C := C_int) (x := k) (c := [iv k]) (r := []) rfl (Reps.nil)
     refine O.buildSlice (E := 3) (C := C_int) (xs := [k]) (cs := [iv k]) (us := [iv k]) (parts := [(0, (.tmp 31))]) 4 hF hS rfl (by kernel_rfl) hr_18 rfl rfl rfl fun p_25 c_25 a w hF hS => nT ⟨hS.weak (AL rfl), ?_⟩
     refine oneV (i := 19) rfl ?_ trivial
     refine O.appendS (C := C_int) (xs := e) (ys := [k]) 5 gr_26 hF rfl rfl hS ((⟨hs_4.1, Nat.le_refl _⟩ : SRc _ _ _ _ _)).1 (src_own (i := 4) hS rfl) hr_18 (Nat.succ_pos _) hg rfl fun p_26 c_26 cs_10 a w hF hS hr_19 => nT ⟨hS.weak (AL rfl), ?_⟩
     exact toTailV ⟨p_26, c_26, p_25, c_25, cs_10, hF.weak (AF rfl), hS.weak (AL rfl), hr_18, hr_19⟩
    refine oneV (i := 18) rfl ?_ trivial
    have hr_20 : Reps C_int Dv [k] [iv k] := Reps.cons (C := C_int) (x := k) (c := [iv k]) (r := []) rfl (Reps.nil)
    refine O.buildSlice (E := 3) (C := C_int) (xs := [k]) (cs := [iv k]) (us := [iv k]) (parts := [(0, (.tmp 31))]) 4 hF hS rfl (by kernel_rfl) hr_20 rfl rfl rfl fun p_27 c_27 a w hF hS => nT ⟨hS.weak (AL rfl), ?_⟩
    refine oneV (i := 5) rfl ?_ trivial
    refine step hF (Y.load1 sz_26 hF rfl (ownElCell (C := (C_sl C_int)) (i := 3) hS rfl hp_3 hsub_3 0 _ rfl)) rfl fun a hF => nT ⟨hS.weak (AL rfl), ?_⟩
    refine stepV (i := 16) rfl hF (fun w hS => Y.slice3 u_26 sz_3 hF rfl rfl rfl hs_4.2) rfl fun a hF => oneV (i := 19) rfl ?_ trivial
    refine O.appendS (C := C_int) (xs := e) (ys := [k]) 5 gr_26 hF rfl rfl hS ((⟨hs_4.1, Nat.le_refl _⟩ : SRc _ _ _ _ _)).1 (src_own (i := 4) hS rfl) hr_20 (Nat.succ_pos _) hg rfl fun p_28 c_28 cs_11 a w hF hS hr_21 => nT ⟨hS.weak (AL rfl), ?_⟩
    exact toTailV ⟨p_28, c_28, p_27, c_27, cs_11, hF.weak (AF rfl), hS.weak (AL rfl), hr_20, hr_21⟩
   refine oneV (i := 18) rfl ?_ trivial
   have hr_22 : Reps C_int Dv [k] [iv k] := Reps.cons (C := C_int) (x := k) (c := [iv k]) (r := []) rfl (Reps.nil)
   refine O.buildSlice (E := 3) (C := C_int) (xs := [k]) (cs := [iv k]) (us := [iv k]) (parts := [(0, (.tmp 31))]) 4 hF hS rfl (by kernel_rfl) hr_22 rfl rfl rfl fun p_29 c_29 a w hF hS => nT ⟨hS.weak (AL rfl), ?_⟩
   refine oneV (i := 5) rfl ?_ ?_
   ·skip
    refine step hF (Y.load1 sz_26 hF rfl (ownElCell (C := (C_sl C_int)) (i := 3) hS rfl hp_3 hsub_3 0 _ rfl)) rfl fun a hF => nT ⟨hS.weak (AL rfl), ?_⟩
    refine oneV (i := 14) rfl ?_ trivial
    refine step hF (Y.load1 sz_26 hF rfl (ownElCell (C := (C_sl C_int)) (i := 3) hS rfl hp_5 hsub_5 0 _ rfl)) rfl fun a hF => nT ⟨hS.weak (AL rfl), ?_⟩
    refine stepV (i := 15) rfl hF (fun w hS => Y.lenSl u_26 hF rfl) rfl fun a hF => stepV (i := 16) rfl hF (fun w hS => Y.slice3 u_26 sz_3 hF rfl rfl rfl hs_4.2) rfl fun a hF => oneV (i := 19) rfl ?_ trivial
    refine O.appendS (C := C_int) (xs := e) (ys := [k]) 5 gr_26 hF rfl rfl hS ((⟨hs_4.1, Nat.le_refl _⟩ : SRc _ _ _ _ _)).1 (src_own (i := 4) hS rfl) hr_22 (Nat.succ_pos _) hg rfl fun p_30 c_30 cs_12 a w hF hS hr_23 => nT ⟨hS.weak (AL rfl), ?_⟩
    exact toTailV ⟨p_30, c_30, p_29, c_29, cs_12, hF.weak (AF rfl), hS.weak (AL rfl), hr_22, hr_23⟩
   refine oneV (i := 14) rfl ?_ trivial
   refine step hF (Y.load1 sz_26 hF rfl (ownElCell (C := (C_sl C_int)) (i := 3) hS rfl hp_5 hsub_5 0 _ rfl)) rfl fun a hF => nT ⟨hS.weak (AL rfl), ?_⟩
   refine stepV (i := 15) rfl hF (fun w hS => Y.lenSl u_26 hF rfl) rfl fun a hF => oneV (i := 5) rfl ?_ trivial
   refine step hF (Y.load1 sz_26 hF rfl (ownElCell (C := (C_sl C_int)) (i := 3) hS rfl hp_3 hsub_3 0 _ rfl)) rfl fun a hF => nT ⟨hS.weak (AL rfl), ?_⟩
   refine stepV (i := 16) rfl hF (fun w hS => Y.slice3 u_26 sz_3 hF rfl rfl rfl hs_4.2) rfl fun a hF => oneV (i := 19) rfl ?_ trivial
   refine O.appendS (C := C_int) (xs := e) (ys := [k]) 5 gr_26 hF rfl rfl hS ((⟨hs_4.1, Nat.le_refl _⟩ : SRc _ _ _ _ _)).1 (src_own (i := 4) hS rfl) hr_22 (Nat.succ_pos _) hg rfl fun p_31 c_31 cs_13 a w hF hS hr_24 => nT ⟨hS.weak (AL rfl), ?_⟩
   exact toTailV ⟨p_31, c_31, p_29, c_29, cs_13, hF.weak (AF rfl), hS.weak (AL rfl), hr_22, hr_24⟩
  refine oneV (i := 14) rfl ?_ ?_
  ·skip
   refine step hF (Y.load1 sz_26 hF rfl (ownElCell (C := (C_sl C_int)) (i := 3) hS rfl hp_5 hsub_5 0 _ rfl)) rfl fun a hF => nT ⟨hS.weak (AL rfl), ?_⟩
   refine stepV (i := 15) rfl hF (fun w hS => Y.lenSl u_26 hF rfl) rfl fun a hF => oneV (i := 5) rfl ?_ ?_
   ·skip
    refine step hF (Y.load1 sz_26 hF rfl (ownElCell (C := (C_sl C_int)) (i := 3) hS rfl hp_3 hsub_3 0 _ rfl)) rfl fun a hF => nT ⟨hS.weak (AL rfl), ?_⟩
    refine oneV (i := 9) rfl ?_ ?_
    ·skip
     refine step hF (Y.load1 sz_26 hF rfl (ownElCell (C := (C_sl C_int)) (i := 3) hS rfl hp_4 hsub_4 0 _ rfl)) rfl fun a hF => nT ⟨hS.weak (AL rfl), ?_⟩
     refine stepV (i := 10) rfl hF (fun w hS => Y.lenSl u_26 hF rfl) rfl fun a hF => stepV (i := 16) rfl hF (fun w hS => Y.slice3 u_26 sz_3 hF rfl rfl rfl hs_4.2) rfl fun a hF => oneV (i := 18) rfl ?_ trivial
     have hr_25 : Reps C_int Dv [k] [iv k] := Reps.cons (C := C_int) (x := k) (c := [iv k]) (r := []) rfl (Reps.nil)
     refine O.buildSlice (E := 3) (C := C_int) (xs := [k]) (cs := [iv k]) (us := [iv k]) (parts := [(0, (.tmp 31))]) 4 hF hS rfl (by kernel_rfl) hr_25 rfl rfl rfl fun p_32 c_32 a w hF hS => nT ⟨hS.weak (AL rfl), ?_⟩
     refine oneV (i := 19) rfl ?_ trivial
     refine O.appendS (C := C_int) (xs := e) (ys := [k]) 5 gr_26 hF rfl rfl hS ((⟨hs_4.1, Nat.le_refl _⟩ : SRc _ _ _ _ _)).1 (src_own (i := 4) hS rfl) hr_25 (Nat.succ_pos _) hg rfl fun p_33 c_33 cs_14 a w hF hS hr_26 => nT ⟨hS.weak (AL rfl), ?_⟩
     exact toTailV ⟨p_33, c_33, p_32, c_32, cs_14, hF.weak (AF rfl), hS.weak (AL rfl), hr_25, hr_26⟩
    refine oneV (i := 18) rfl ?_ trivial
    have hr_27 : Reps C_int Dv [k] [iv k] := Reps.cons (C := C_int) (x := k) (c := [iv k]) (r := []) rfl (Reps.nil)
    refine O.buildSlice (E := 3) (C := C_int) (xs := [k]) (cs := [iv k]) (us := [iv k]) (parts := [(0, (.tmp 31))]) 4 hF hS rfl (by kernel_rfl) hr_27 rfl rfl rfl fun p_34 c_34 a w hF hS => nT ⟨hS.weak (AL rfl), ?_⟩
    refine oneV (i := 9) rfl ?_ trivial
    refine step hF (Y.load1 sz_26 hF rfl (ownElCell (C := (C_sl C_int)) (i := 3) hS rfl hp_4 hsub_4 0 _ rfl)) rfl fun a hF => nT ⟨hS.weak (AL rfl), ?_⟩
    refine stepV (i := 10) rfl hF (fun w hS => Y.lenSl u_26 hF rfl) rfl fun a hF => stepV (i := 16) rfl hF (fun w hS => Y.slice3 u_26 sz_3 hF rfl rfl rfl hs_4.2) rfl fun a hF => oneV (i := 19) rfl ?_ trivial
    refine O.appendS (C := C_int) (xs := e) (ys := [k]) 5 gr_26 hF rfl rfl hS ((⟨hs_4.1, Nat.le_refl _⟩ : SRc _ _ _ _ _)).1 (src_own (i := 4) hS rfl) hr_27 (Nat.succ_pos _) hg rfl fun p_35 c_35 cs_15 a w hF hS hr_28 => nT ⟨hS.weak (AL rfl), ?_⟩
    exact toTailV ⟨p_35, c_35, p_34, c_34, cs_15, hF.weak (AF rfl), hS.weak (AL rfl), hr_27, hr_28⟩
   refine oneV (i := 9) rfl ?_ ?_
   ·skip
    refine step hF (Y.load1 sz_26 hF rfl (ownElCell (C := (C_sl C_int)) (i := 3) hS rfl hp_4 hsub_4 0 _ rfl)) rfl fun a hF => nT ⟨hS.weak (AL rfl), ?_⟩
    refine stepV (i := 10) rfl hF (fun w hS => Y.lenSl u_26 hF rfl) rfl fun a hF => oneV (i := 5) rfl ?_ ?_
    ·skip
     refine step hF (Y.load1 sz_26 hF rfl (ownElCell (C := (C_sl C_int)) (i := 3) hS rfl hp_3 hsub_3 0 _ rfl)) rfl fun a hF => nT ⟨hS.weak (AL rfl), ?_⟩
     refine stepV (i := 16) rfl hF (fun w hS => Y.slice3 u_26 sz_3 hF rfl rfl rfl hs_4.2) rfl fun a hF => oneV (i := 18) rfl ?_ trivial
     have hr_29 : Reps C_int Dv [k] [iv k] := Reps.cons (C := C_int) (x := k) (c := [iv k]) (r := []) rfl (Reps.nil)
     refine O.buildSlice (E := 3) (C := C_int) (xs := [k]) (cs := [iv k]) (us := [iv k]) (parts := [(0, (.tmp 31))]) 4 hF hS rfl (by kernel_rfl) hr_29 rfl rfl rfl fun p_36 c_36 a w hF hS => nT ⟨hS.weak (AL rfl), ?_⟩
     refine oneV (i := 19) rfl ?_ trivial
     refine O.appendS (C := C_int) (xs := e) (ys := [k]) 5 gr_26 hF rfl rfl hS ((⟨hs_4.1, Nat.le_refl _⟩ : SRc _ _ _ _ _)).1 (src_own (i := 4) hS rfl) hr_29 (Nat.succ_pos _) hg rfl fun p_37 c_37 cs_16 a w hF hS hr_30 => nT ⟨hS.weak (AL rfl), ?_⟩
     exact toTailV ⟨p_37, c_37, p_36, c_36, cs_16, hF.weak (AF rfl), hS.weak (AL rfl), hr_29, hr_30⟩
    refine oneV (i := 18) rfl ?_ trivial
    have hr_31 : Reps C_int Dv [k] [iv k] := Reps.cons (C := C_int) (x := k) (c := [iv k]) (r := []) rfl (Reps.nil)
    refine O.buildSlice (E := 3) (C := C_int) (xs := [k]) (cs := [iv k]) (us := [iv k]) (parts := [(0, (.tmp 31))]) 4 hF hS rfl (by kernel_rfl) hr_31 rfl rfl rfl fun p_38 c_38 a w hF hS => nT ⟨hS.weak (AL rfl), ?_⟩
    refine oneV (i := 5) rfl ?_ trivial
    refine step hF (Y.load1 sz_26 hF rfl (ownElCell (C := (C_sl C_int)) (i := 3) hS rfl hp_3 hsub_3 0 _ rfl)) rfl fun a hF => nT ⟨hS.weak (AL rfl), ?_⟩
    refine stepV (i := 16) rfl hF (fun w hS => Y.slice3 u_26 sz_3 hF rfl rfl rfl hs_4.2) rfl fun a hF => oneV (i := 19) rfl ?_ trivial
    refine O.appendS (C := C_int) (xs := e) (ys := [k]) 5 gr_26 hF rfl rfl hS ((⟨hs_4.1, Nat.le_refl _⟩ : SRc _ _ _ _ _)).1 (src_own (i := 4) hS rfl) hr_31 (Nat.succ_pos _) hg rfl fun p_39 c_39 cs_17 a w hF hS hr_32 => nT ⟨hS.weak (AL rfl), ?_⟩
    exact toTailV ⟨p_39, c_39, p_38, c_38, cs_17, hF.weak (AF rfl), hS.weak (AL rfl), hr_31, hr_32⟩
   refine oneV (i := 18) rfl ?_ trivial
   have hr_33 : Reps C_int Dv [k] [iv k] := Reps.cons (C := C_int) (x := k) (c := [iv k]) (r := []) rfl (Reps.nil)
   refine O.buildSlice (E := 3) (C := C_int) (xs := [k]) (cs := [iv k]) (us := [iv k]) (parts := [(0, (.tmp 31))]) 4 hF hS rfl (by kernel_rfl) hr_33 rfl rfl rfl fun p_40 c_40 a w hF hS => nT ⟨hS.weak (AL rfl), ?_⟩
   refine oneV (i := 5) rfl ?_ ?_
   ·skip
    refine step hF (Y.load1 sz_26 hF rfl (ownElCell (C := (C_sl C_int)) (i := 3) hS rfl hp_3 hsub_3 0 _ rfl)) rfl fun a hF => nT ⟨hS.weak (AL rfl), ?_⟩
    refine oneV (i := 9) rfl ?_ trivial
    refine step hF (Y.load1 sz_26 hF rfl (ownElCell (C := (C_sl C_int)) (i := 3) hS rfl hp_4 hsub_4 0 _ rfl)) rfl fun a hF => nT ⟨hS.weak (AL rfl), ?_⟩
    refine stepV (i := 10) rfl hF (fun w hS => Y.lenSl u_26 hF rfl) rfl fun a hF => stepV (i := 16) rfl hF (fun w hS => Y.slice3 u_26 sz_3 hF rfl rfl rfl hs_4.2) rfl fun a hF => oneV (i := 19) rfl ?_ trivial
    refine O.appendS (C := C_int) (xs := e) (ys := [k]) 5 gr_26 hF rfl rfl hS ((⟨hs_4.1, Nat.le_refl _⟩ : SRc _ _ _ _ _)).1 (src_own (i := 4) hS rfl) hr_33 (Nat.succ_pos _) hg rfl fun p_41 c_41 cs_18 a w hF hS hr_34 => nT ⟨hS.weak (AL rfl), ?_⟩
    exact toTailV ⟨p_41, c_41, p_40, c_40, cs_18, hF.weak (AF rfl), hS.weak (AL rfl), hr_33, hr_34⟩
   refine oneV (i := 9) rfl ?_ trivial
   refine step hF (Y.load1 sz_26 hF rfl (ownElCell (C := (C_sl C_int)) (i := 3) hS rfl hp_4 hsub_4 0 _ rfl)) rfl fun a hF => nT ⟨hS.weak (AL rfl), ?_⟩
   refine stepV (i := 10) rfl hF (fun w hS => Y.lenSl u_26 hF rfl) rfl fun a hF => oneV (i := 5) rfl ?_ trivial
   refine step hF (Y.load1 sz_26 hF rfl (ownElCell (C := (C_sl C_int)) (i := 3) hS rfl hp_3 hsub_3 0 _ rfl)) rfl fun a hF => nT ⟨hS.weak (AL rfl), ?_⟩
   refine stepV (i := 16) rfl hF (fun w hS => Y.slice3 u_26 sz_3 hF rfl rfl rfl hs_4.2) rfl fun a hF => oneV (i := 19) rfl ?_ trivial
   refine O.appendS (C := C_int) (xs := e) (ys := [k]) 5 gr_26 hF rfl rfl hS ((⟨hs_4.1, Nat.le_refl _⟩ : SRc _ _ _ _ _)).1 (src_own (i := 4) hS rfl) hr_33 (Nat.succ_pos _) hg rfl fun p_42 c_42 cs_19 a w hF hS hr_35 => nT ⟨hS.weak (AL rfl), ?_⟩
   exact toTailV ⟨p_42, c_42, p_40, c_40, cs_19, hF.weak (AF rfl), hS.weak (AL rfl), hr_33, hr_35⟩
  refine oneV (i := 18) rfl ?_ trivial
  have hr_36 : Reps C_int Dv [k] [iv k] := Reps.cons (C := C_int) (x := k) (c := [iv k]) (r := []) rfl (Reps.nil)
  refine O.buildSlice (E := 3) (C := C_int) (xs := [k]) (cs := [iv k]) (us := [iv k]) (parts := [(0, (.tmp 31))]) 4 hF hS rfl (by kernel_rfl) hr_36 rfl rfl rfl fun p_43 c_43 a w hF hS => nT ⟨hS.weak (AL rfl), ?_⟩
  refine oneV (i := 5) rfl ?_ ?_
  ·skip
   refine step hF (Y.load1 sz_26 hF rfl (ownElCell (C := (C_sl C_int)) (i := 3) hS rfl hp_3 hsub_3 0 _ rfl)) rfl fun a hF => nT ⟨hS.weak (AL rfl), ?_⟩
   refine oneV (i := 9) rfl ?_ ?_
   ·skip
    refine step hF (Y.load1 sz_26 hF rfl (ownElCell (C := (C_sl C_int)) (i := 3) hS rfl hp_4 hsub_4 0 _ rfl)) rfl fun a hF => nT ⟨hS.weak (AL rfl), ?_⟩
    refine stepV (i := 10) rfl hF (fun w hS => Y.lenSl u_26 hF rfl) rfl fun a hF => oneV (i := 14) rfl ?_ trivial
    refine step hF (Y.load1 sz_26 hF rfl (ownElCell (C := (C_sl C_int)) (i := 3) hS rfl hp_5 hsub_5 0 _ rfl)) rfl fun a hF => nT ⟨hS.weak (AL rfl), ?_⟩
    refine stepV (i := 15) rfl hF (fun w hS => Y.lenSl u_26 hF rfl) rfl fun a hF => stepV (i := 16) rfl hF (fun w hS => Y.slice3 u_26 sz_3 hF rfl rfl rfl hs_4.2) rfl fun a hF => oneV (i := 19) rfl ?_ trivial
    refine O.appendS (C := C_int) (xs := e) (ys := [k]) 5 gr_26 hF rfl rfl hS ((⟨hs_4.1, Nat.le_refl _⟩ : SRc _ _ _ _ _)).1 (src_own (i := 4) hS rfl) hr_36 (Nat.succ_pos _) hg rfl fun p_44 c_44 cs_20 a w hF hS hr_37 => nT ⟨hS.weak (AL rfl), ?_⟩
    exact toTailV ⟨p_44, c_44, p_43, c_43, cs_20, hF.weak (AF rfl), hS.weak (AL rfl), hr_36, hr_37⟩
   refine oneV (i := 14) rfl ?_ trivial
   refine step hF (Y.load1 sz_26 hF rfl (ownElCell (C := (C_sl C_int)) (i := 3) hS rfl hp_5 hsub_5 0 _ rfl)) rfl fun a hF => nT ⟨hS.weak (AL rfl), ?_⟩
   refine stepV (i := 15) rfl hF (fun w hS => Y.lenSl u_26 hF rfl) rfl fun a hF => oneV (i := 9) rfl ?_ trivial
   refine step hF (Y.load1 sz_26 hF rfl (ownElCell (C := (C_sl C_int)) (i := 3) hS rfl hp_4 hsub_4 0 _ rfl)) rfl fun a hF => nT ⟨hS.weak (AL rfl), ?_⟩
   refine stepV (i := 10) rfl hF (fun w hS => Y.lenSl u_26 hF rfl) rfl fun a hF => stepV (i := 16) rfl hF (fun w hS => Y.slice3 u_26 sz_3 hF rfl rfl rfl hs_4.2) rfl fun a hF => oneV (i := 19) rfl ?_ trivial
   refine O.appendS (C := C_int) (xs := e) (ys := [k]) 5 gr_26 hF rfl rfl hS ((⟨hs_4.1, Nat.le_refl _⟩ : SRc _ _ _ _ _)).1 (src_own (i := 4) hS rfl) hr_36 (Nat.succ_pos _) hg rfl fun p_45 c_45 cs_21 a w hF hS hr_38 => nT ⟨hS.weak (AL rfl), ?_⟩
   exact toTailV ⟨p_45, c_45, p_43, c_43, cs_21, hF.weak (AF rfl), hS.weak (AL rfl), hr_36, hr_38⟩
  refine oneV (i := 9) rfl ?_ ?_
  ·skip
   refine step hF (Y.load1 sz_26 hF rfl (ownElCell (C := (C_sl C_int)) (i := 3) hS rfl hp_4 hsub_4 0 _ rfl)) rfl fun a hF => nT ⟨hS.weak (AL rfl), ?_⟩
   refine stepV (i := 10) rfl hF (fun w hS => Y.lenSl u_26 hF rfl) rfl fun a hF => oneV (i := 5) rfl ?_ ?_
   ·skip
    refine step hF (Y.load1 sz_26 hF rfl (ownElCell (C := (C_sl C_int)) (i := 3) hS rfl hp_3 hsub_3 0 _ rfl)) rfl fun a hF => nT ⟨hS.weak (AL rfl), ?_⟩
    refine oneV (i := 14) rfl ?_ trivial
    refine step hF (Y.load1 sz_26 hF rfl (ownElCell (C := (C_sl C_int)) (i := 3) hS rfl hp_5 hsub_5 0 _ rfl)) rfl fun a hF => nT ⟨hS.weak (AL rfl), ?_⟩
    refine stepV (i := 15) rfl hF (fun w hS => Y.lenSl u_26 hF rfl) rfl fun a hF => stepV (i := 16) rfl hF (fun w hS => Y.slice3 u_26 sz_3 hF rfl rfl rfl hs_4.2) rfl fun a hF => oneV (i := 19) rfl ?_ trivial
    refine O.appendS (C := C_int) (xs := e) (ys := [k]) 5 gr_26 hF rfl rfl hS ((⟨hs_4.1, Nat.le_refl _⟩ : SRc _ _ _ _ _)).1 (src_own (i := 4) hS rfl) hr_36 (Nat.succ_pos _) hg rfl fun p_46 c_46 cs_22 a w hF hS hr_39 => nT ⟨hS.weak (AL rfl), ?_⟩
    exact toTailV ⟨p_46, c_46, p_43, c_43, cs_22, hF.weak (AF rfl), hS.weak (AL rfl), hr_36, hr_39⟩
   refine oneV (i := 14) rfl ?_ trivial
   refine step hF (Y.load1 sz_26 hF rfl (ownElCell (C := (C_sl C_int)) (i := 3) hS rfl hp_5 hsub_5 0 _ rfl)) rfl fun a hF => nT ⟨hS.weak (AL rfl), ?_⟩
   refine stepV (i := 15) rfl hF (fun w hS => Y.lenSl u_26 hF rfl) rfl fun a hF => oneV (i := 5) rfl ?_ trivial
   refine step hF (Y.load1 sz_26 hF rfl (ownElCell (C := (C_sl C_int)) (i := 3) hS rfl hp_3 hsub_3 0 _ rfl)) rfl fun a hF => nT ⟨hS.weak (AL rfl), ?_⟩
   refine stepV (i := 16) rfl hF (fun w hS => Y.slice3 u_26 sz_3 hF rfl rfl rfl hs_4.2) rfl fun a hF => oneV (i := 19) rfl ?_ trivial
   refine O.appendS (C := C_int) (xs := e) (ys := [k]) 5 gr_26 hF rfl rfl hS ((⟨hs_4.1, Nat.le_refl _⟩ : SRc _ _ _ _ _)).1 (src_own (i := 4) hS rfl) hr_36 (Nat.succ_pos _) hg rfl fun p_47 c_47 cs_23 a w hF hS hr_40 => nT ⟨hS.weak (AL rfl), ?_⟩
   exact toTailV ⟨p_47, c_47, p_43, c_43, cs_23, hF.weak (AF rfl), hS.weak (AL rfl), hr_36, hr_40⟩
  refine oneV (i := 14) rfl ?_ trivial
  refine step hF (Y.load1 sz_26 hF rfl (ownElCell (C := (C_sl C_int)) (i := 3) hS rfl hp_5 hsub_5 0 _ rfl)) rfl fun a hF => nT ⟨hS.weak (AL rfl), ?_⟩
  refine stepV (i := 15) rfl hF (fun w hS => Y.lenSl u_26 hF rfl) rfl fun a hF => oneV (i := 5) rfl ?_ ?_
  ·skip
   refine step hF (Y.load1 sz_26 hF rfl (ownElCell (C := (C_sl C_int)) (i := 3) hS rfl hp_3 hsub_3 0 _ rfl)) rfl fun a hF => nT ⟨hS.weak (AL rfl), ?_⟩
   refine oneV (i := 9) rfl ?_ trivial
   refine step hF (Y.load1 sz_26 hF rfl (ownElCell (C := (C_sl C_int)) (i := 3) hS rfl hp_4 hsub_4 0 _ rfl)) rfl fun a hF => nT ⟨hS.weak (AL rfl), ?_⟩
   refine stepV (i := 10) rfl hF (fun w hS => Y.lenSl u_26 hF rfl) rfl fun a hF => stepV (i := 16) rfl hF (fun w hS => Y.slice3 u_26 sz_3 hF rfl rfl rfl hs_4.2) rfl fun a hF => oneV (i := 19) rfl ?_ trivial
   refine O.appendS (C := C_int) (xs := e) (ys := [k]) 5 gr_26 hF rfl rfl hS ((⟨hs_4.1, Nat.le_refl _⟩ : SRc _ _ _ _ _)).1 (src_own (i := 4) hS rfl) hr_36 (Nat.succ_pos _) hg rfl fun p_48 c_48 cs_24 a w hF hS hr_41 => nT ⟨hS.weak (AL rfl), ?_⟩
   exact toTailV ⟨p_48, c_48, p_43, c_43, cs_24, hF.weak (AF rfl), hS.weak (AL rfl), hr_36, hr_41⟩
  refine oneV (i := 9) rfl ?_ trivial
  refine step hF (Y.load1 sz_26 hF rfl (ownElCell (C := (C_sl C_int)) (i := 3) hS rfl hp_4 hsub_4 0 _ rfl)) rfl fun a hF => nT ⟨hS.weak (AL rfl), ?_⟩
  refine stepV (i := 10) rfl hF (fun w hS => Y.lenSl u_26 hF rfl) rfl fun a hF => oneV (i := 5) rfl ?_ trivial
  refine step hF (Y.load1 sz_26 hF rfl (ownElCell (C := (C_sl C_int)) (i := 3) hS rfl hp_3 hsub_3 0 _ rfl)) rfl fun a hF => nT ⟨hS.weak (AL rfl), ?_⟩
  refine stepV (i := 16) rfl hF (fun w hS => Y.slice3 u_26 sz_3 hF rfl rfl rfl hs_4.2) rfl fun a hF => oneV (i := 19) rfl ?_ trivial
  refine O.appendS (C := C_int) (xs := e) (ys := [k]) 5 gr_26 hF rfl rfl hS ((⟨hs_4.1, Nat.le_refl _⟩ : SRc _ _ _ _ _)).1 (src_own (i := 4) hS rfl) hr_36 (Nat.succ_pos _) hg rfl fun p_49 c_49 cs_25 a w hF hS hr_42 => nT ⟨hS.weak (AL rfl), ?_⟩
  exact toTailV ⟨p_49, c_49, p_43, c_43, cs_25, hF.weak (AF rfl), hS.weak (AL rfl), hr_36, hr_42⟩
 rintro a w ⟨p_6, c_6, p_5, c_5, cs_1, hF, hS, hj, hj_1⟩
 obtain ⟨hg_1, h⟩ := ite_some h
 obtain ⟨b_8, hp_6⟩ := hS.ownPtr (i := 3) rfl hg_1
 refine step hF (Y.indexOwn hp_6 u_38 sz_26 hg_1 hF rfl rfl) rfl fun a hF => ?_
 obtain ⟨Dv_1, hlev_1, hs_7, hS⟩ := hS.freezeC (C := C_int) (i := 5) (xs := (e ++ [k])) rfl hj_1
 replace hr := hr.mono hlev_1
 refine O.storeOwnP (C := (C_sl C_int)) (v0 := (e ++ [k])) (xs := rv) (us := [.slice p_6 (e ++ [k]).length c_6]) 3 hp_6 sz_26 hg_1 hF rfl rfl rfl (⟨_, _, rfl, hs_7⟩) hS rfl hr fun cs_26 a w hF hS hr_43 => ?_
 try rw [show rv.length = (rv.set (Int.toNat (wr ((wv.story.length : Int) - 1))) (e ++ [k])).length from List.length_set.symm] at hF
 try rw [show rv.length = (rv.set (Int.toNat (wr ((wv.story.length : Int) - 1))) (e ++ [k])).length from List.length_set.symm] at hS
 refine nT (seq (region (step hF (Y.fieldAddr fo_98_0 hF rfl) rfl fun a hF => step hF (Y.fieldAddr fo_33_0 hF rfl) rfl fun a hF => step hF (Y.load1L 1 sz_3 hF rfl hS rfl rfl) rfl fun a hF => step hF (Y.add hF rfl rfl) rfl fun a hF => step hF (Y.fieldAddr fo_98_0 hF rfl) rfl fun a hF => step hF (Y.fieldAddr fo_33_1 hF rfl) rfl fun a hF => step hF (Y.load1L 1 sz_3 hF rfl hS rfl rfl) rfl fun a hF => step hF (Y.add hF rfl rfl) rfl fun a hF => step hF (Y.build (parts := [(0, (.tmp 38)), (1, (.tmp 42))]) (cs := #[iv (wr (wv.lost.Low + 1)), iv (wr (wv.lost.High + 1))]) hF rfl (by kernel_rfl)) rfl fun a hF => step hF (Y.move hF rfl) rfl fun a hF => step hF (Y.build (parts := [(0, (.tmp 43)), (1, (.tmp 44))]) (cs := #[iv (wr (wv.lost.Low + 1)), iv (wr (wv.lost.High + 1)), .slice p_1 (rv.set (Int.toNat (wr ((wv.story.length : Int) - 1))) (e ++ [k])).length c_1]) hF rfl (by kernel_rfl)) rfl fun a hF => O.store (us := [iv (wr (wv.lost.Low + 1)), iv (wr (wv.lost.High + 1)), .slice p_1 (rv.set (Int.toNat (wr ((wv.story.length : Int) - 1))) (e ++ [k])).length c_1]) 2 sz_98 hF rfl rfl rfl rfl hS rfl rfl fun a w hF hS => nT (ret_ ?_))))
 obtain ⟨Dv_2, hlev_2, hs_8, hS⟩ := hS.freezeC (C := (C_sl C_int)) (i := 3) (xs := (rv.set (Int.toNat (wr ((wv.story.length : Int) - 1))) (e ++ [k]))) rfl hr_43
 obtain rfl := some_inj h
 exact leaveS Tryd.results95 hF hS (.cons (.cellN 2 sz_98 rfl rfl rfl) .nil) .nil ⟨_, _, rfl, hs_8⟩
noncomputable def slices_Index___int_int__b1 (sv : (List Int)) (v : Int) : (Int × Int) → Option ((Int × Int) ⊕ Int)
 | (v4_0, v8_0) =>
  cond (decide (v8_0 < (sv.length : Int)))
  ((idx sv v8_0).bind fun e =>
  cond (v == e)
  (ext (some v8_0))
  (nxt (v4_0, wr (v8_0 + 1))))
  (ext (some (-1)))
noncomputable def slices_Index___int_int_ (sv : (List Int)) (v : Int) : Option Int :=
  loopU (slices_Index___int_int__b1 sv v) (0, 0)
theorem slices_Index___int_int__ok {w0 : World} {D0 : Stab} (hD : D0.on w0) (sv : (List Int)) (v : Int) {p : Option Addr} {c : Nat} (hs : SRc C_int D0 sv p c) (out : Int) (h : slices_Index___int_int_ sv v = some out) : Calls Tryd.prog 86 [.slice p sv.length c, iv v].toArray w0 (RetP D0 w0 (iv out)) := by
 refine enter _ 19 Tryd.func86 rfl Tryd.ntmps86 rfl fun a hF => ?_
 replace hF : Frm 19 [] [(0, .slice p sv.length c), (1, iv v)] a := hF
 have hS := St.start hD
 unfold slices_Index___int_int_ at h
 refine seq (region (step hF (Y.assign hF rfl) rfl fun a hF => nT (seq (seq (region (step hF (Y.move hF rfl) rfl fun a hF => step hF (Y.lenSl u_26 hF rfl) rfl fun a hF => step hF (Y.move hF rfl) rfl fun a hF => nT (block (loop_cut (body := slices_Index___int_int__b1 sv v) (out := out) (fun s a w => ∃ (v4_0 : Int) (v8_0 : Int), s = (v4_0, v8_0) ∧ Frm 19 [] [(0, .slice p sv.length c), (1, iv v), (4, iv v4_0), (7, iv (sv.length : Int)), (8, iv v8_0)] a ∧ St w0 D0 D0 [] w) (0, 0) h ⟨0, 0, rfl, hF.weak (AF rfl), hS.weak trivial⟩ ?_))))))))
 rintro s a w xo ⟨v4_0, v8_0, rfl, hF, hS⟩ h hxo
 unfold slices_Index___int_int__b1 at h
 dsimp only at h
 refine seq (region (step hF (Y.lss hF rfl rfl) rfl fun a hF => nT (seq (cond_b hF rfl (fun hbv => ?_) (fun hbv => ?_)))))
 ·replace h := cond_t h hbv
  refine skip_ (then_n (seq (block (seq (region (step hF (Y.move hF rfl) rfl fun a hF => step hF (Y.assign hF rfl) rfl fun a hF => nT (seq (region (step hF (Y.move hF rfl) rfl fun a hF => step hF (Y.move hF rfl) rfl fun a hF => step hF (Y.move hF rfl) rfl fun a hF => ?_)))))))))
  obtain ⟨e, hx, h⟩ := bind_some h
  obtain ⟨b, o, hE, hY⟩ := Y.indexS (P := Tryd.prog) (C := C_int) (xs := sv) (T := 26) (x := (.tmp 12)) (y := (.tmp 13)) u_26 sz_3 hF rfl rfl (hs).1 hx
  obtain ⟨cc, hc, hcell⟩ := hE.open
  obtain rfl := hc
  refine step hF (hY) rfl fun a hF => step hF (Y.load1 sz_3 hF rfl (hcell _ hS.stab 0 _ rfl)) rfl fun a hF => step hF (Y.eql hF rfl rfl) rfl fun a hF => nT (cond_b hF rfl (fun hbv_1 => ?_) (fun hbv_1 => ?_))
  ·replace h := cond_t h hbv_1
   refine seq (region (step hF (Y.move hF rfl) rfl fun a hF => step hF (Y.assign hF rfl) rfl fun a hF => nT (ret_ (blk_r (then_r (then_r (blk_r (then_r ?_))))))))
   replace h := ext_some h hxo
   obtain rfl := some_inj h
   exact leaveP Tryd.results86 hF hS (.cons (.tmp rfl) .nil) .nil rfl
  replace h := cond_f h hbv_1
  refine skip_ (blk_n (then_n (region (step hF (Y.add hF rfl rfl) rfl fun a hF => step hF (Y.move hF rfl) rfl fun a hF => nT (⟨_, nxt_some h, v4_0, (wr (v8_0 + 1)), rfl, hF.weak (AF rfl), hS.weak trivial⟩)))))
 replace h := cond_f h hbv
 refine exit_ (then_x (then_x (blk_hit (then_n ?_))))
 replace h := ext_some h hxo
 refine seq (region (step hF (Y.assign hF rfl) rfl fun a hF => nT (ret_ ?_)))
 obtain rfl := some_inj h
 exact leaveP Tryd.results86 hF hS (.cons (.tmp rfl) .nil) .nil rfl
noncomputable def slices_Contains___int_int_ (sv : (List Int)) (v : Int) : Option Bool :=
  (slices_Index___int_int_ sv v).bind fun rv =>
  some (decide (rv ≥ 0))
theorem slices_Contains___int_int__ok {w0 : World} {D0 : Stab} (hD : D0.on w0) (sv : (List Int)) (v : Int) {p : Option Addr} {c : Nat} (hs : SRc C_int D0 sv p c) (out : Bool) (h : slices_Contains___int_int_ sv v = some out) : Calls Tryd.prog 66 [.slice p sv.length c, iv v].toArray w0 (RetP D0 w0 (.bool out)) := by
 refine enter _ 9 Tryd.func66 rfl Tryd.ntmps66 rfl fun a hF => ?_
 replace hF : Frm 9 [] [(0, .slice p sv.length c), (1, iv v)] a := hF
 have hS := St.start hD
 unfold slices_Contains___int_int_ at h
 refine seq (region (step hF (Y.assign hF rfl) rfl fun a hF => nT (seq (region (step hF (Y.move hF rfl) rfl fun a hF => step hF (Y.move hF rfl) rfl fun a hF => ?_)))))
 obtain ⟨rv, hx, h⟩ := bind_some h
 refine O.callP (us := [.slice p sv.length c, iv v]) ca_86 hF hS (slices_Index___int_int__ok hS.stab sv v hs rv hx) rfl rfl fun a w hF hS => step hF (Y.geq hF rfl rfl) rfl fun a hF => step hF (Y.assign hF rfl) rfl fun a hF => nT (ret_ ?_)
 obtain rfl := some_inj h
 exact leaveP Tryd.results66 hF hS (.cons (.tmp rfl) .nil) .nil rfl
noncomputable def sb1_k4 (mp_2 : (List (SlaveStart × slave_way))) (kv_1 : (slave_spot × slave_way)) (left_3 : (List (slave_spot × slave_way))) (z : Int) (z_1 : Int) (l : (List (List Int))) : ND (((List (slave_spot × slave_way)) × (List (SlaveStart × slave_way))) ⊕ (List (SlaveStart × slave_way))) :=
  nnxt (left_3, (mput kl_57 mp_2 kv_1.1.state (slave_way.mk (Span.mk z z_1) l)))
noncomputable def sb1_b3 (atv : Int) (cv : slave_line) (cv_1 : Int) (self_ : (List (SlaveStart × slave_way)) → Int → slave_line → Int → ND (List (SlaveStart × slave_way))) : ((List (slave_spot × slave_way)) × (List (SlaveStart × slave_way))) → ND (((List (slave_spot × slave_way)) × (List (SlaveStart × slave_way))) ⊕ (List (SlaveStart × slave_way)))
 | (left_2, mp_2) =>
  (ND.pickE left_2
  (next_ ((ND.bnd (self_ mp_2 (wr (atv + 1)) cv cv_1) fun rv_2 =>
  ND.ret rv_2)))
  (fun kv_1 left_3 => cond ((mget kl_57 mp_2 kv_1.1.state).isSome)
  ((ND.det (slave_widened (slave_way.mk (Span.mk ((((mget kl_57 mp_2 kv_1.1.state).getD ((slave_way.mk (Span.mk 0 0) ([] : List (List Int))) : slave_way)).lost).Low) ((((mget kl_57 mp_2 kv_1.1.state).getD ((slave_way.mk (Span.mk 0 0) ([] : List (List Int))) : slave_way)).lost).High)) (((mget kl_57 mp_2 kv_1.1.state).getD ((slave_way.mk (Span.mk 0 0) ([] : List (List Int))) : slave_way)).story)) kv_1.2) fun rv_3 =>
  sb1_k4 mp_2 kv_1 left_3 rv_3.lost.Low rv_3.lost.High rv_3.story))
  (sb1_k4 mp_2 kv_1 left_3 kv_1.2.lost.Low kv_1.2.lost.High kv_1.2.story)))
noncomputable def sb1_k2 (atv : Int) (cv : slave_line) (cv_1 : Int) (self_ : (List (SlaveStart × slave_way)) → Int → slave_line → Int → ND (List (SlaveStart × slave_way))) (mp_1 : (List (slave_spot × slave_way))) : ND (List (SlaveStart × slave_way)) :=
  loopN (sb1_b3 atv cv cv_1 self_) (mp_1, ([] : (List (SlaveStart × slave_way))))
noncomputable def sb1_b6 (cv : slave_line) (e : SlaveEvent) (xy : (Int × Int)) : ((List (slave_spot × slave_way)) × (List (slave_spot × slave_way))) → ND (((List (slave_spot × slave_way)) × (List (slave_spot × slave_way))) ⊕ (List (slave_spot × slave_way)))
 | (left_4, mp_4) =>
  (ND.pickE left_4
  (next_ (ND.ret mp_4))
  (fun kv_2 left_5 => (ND.det (slave_line_after cv kv_2.1.state xy.2) fun rv_6 =>
  (ND.det (slave_add mp_4 (slave_spot.mk rv_6 kv_2.1.lost) kv_2.2) fun rv_7 =>
  cond (decide (kv_2.1.lost < e.Lost))
  ((ND.det (slave_lose kv_2.2 xy.1) fun rv_8 =>
  (ND.det (slave_add rv_7 (slave_spot.mk kv_2.1.state (wr (kv_2.1.lost + 1))) rv_8) fun rv_9 =>
  nnxt (left_5, rv_9))))
  (nnxt (left_5, rv_7))))))
noncomputable def sb1_y5 (cv : slave_line) (e : SlaveEvent) (xy : (Int × Int)) : (List (slave_spot × slave_way)) → ND (List (slave_spot × slave_way))
 | mp_3 =>
  loopN (sb1_b6 cv e xy) (mp_3, ([] : (List (slave_spot × slave_way))))
noncomputable def sb1_b1 (atv : Int) (cv : slave_line) (cv_1 : Int) (self_ : (List (SlaveStart × slave_way)) → Int → slave_line → Int → ND (List (SlaveStart × slave_way))) (e : SlaveEvent) : ((List (SlaveStart × slave_way)) × (List (slave_spot × slave_way))) → ND (((List (SlaveStart × slave_way)) × (List (slave_spot × slave_way))) ⊕ (List (SlaveStart × slave_way)))
 | (left, mp) =>
  (ND.pickE left
  (next_ (cond (e.Kind != 2)
  ((ND.det (slave_line_pulses cv e) fun rv_4 =>
  (ND.bnd (slave_line_pulses_1N (sb1_y5 cv e) rv_4.1 rv_4.2 mp) fun so =>
  sb1_k2 atv cv cv_1 self_ so)))
  (sb1_k2 atv cv cv_1 self_ mp)))
  (fun kv left_1 => (ND.det (cond (((e.Kind == 2) && (e.Who == cv_1)) && (kv.1.Shown != e.Shown)) ((slices_Contains___int_int_ cv.without atv).bind fun rv_10 =>
  some (!rv_10)) (some false)) fun t =>
  cond t
  (nnxt (left_1, mp))
  ((ND.grd (kv.2.story.length + ([([] : List Int)]).length ≤ lim) (
  nnxt (left_1, (mput kl_143 mp (slave_spot.mk kv.1 0) (slave_way.mk kv.2.lost (kv.2.story ++ [([] : List Int)]))))))))))
noncomputable def sb1_step (self_ : (List (SlaveStart × slave_way)) → Int → slave_line → Int → ND (List (SlaveStart × slave_way))) (now : (List (SlaveStart × slave_way))) (atv : Int) (cv : slave_line) (cv_1 : Int) : ND (List (SlaveStart × slave_way)) :=
  cond (atv == (cv.SlaveLine.Events.length : Int))
  (ND.ret now)
  ((ND.det (idx cv.SlaveLine.Events atv) fun e =>
  loopN (sb1_b1 atv cv cv_1 self_ e) (now, ([] : (List (slave_spot × slave_way))))))
theorem sb1_step_ok {w0 : World} {D0 : Stab} (self_ : (List (SlaveStart × slave_way)) → Int → slave_line → Int → ND (List (SlaveStart × slave_way))) (hself : ∀ {w0 : World} {D0 : Stab} (hD : D0.on w0) (now : (List (SlaveStart × slave_way))) (atv : Int) (cv : slave_line) (cv_1 : Int) {bm : Option Nat} {p : Option Addr} {c : Nat} {p_1 : Option Addr} {c_1 : Nat} {p_2 : Option Addr} {c_2 : Nat} {bb : Nat} {bb_1 : Nat} {bb_2 : Nat} (hm : MapB kl_57 C_slave_way true D0 now bm) (hs : SRc C_SlaveStart D0 cv.SlaveLine.Starts p c) (hs_1 : SRc C_SlaveEvent D0 cv.SlaveLine.Events p_1 c_1) (hs_2 : SRc C_int D0 cv.without p_2 c_2) (hbv : w0.heap[bb]? = some (.cells ([iv cv.SlaveLine.Ring, .slice p cv.SlaveLine.Starts.length c, .slice p_1 cv.SlaveLine.Events.length c_1, .slice p_2 cv.without.length c_2]).toArray 103 (0, 0))) (hbv_1 : w0.heap[bb_1]? = some (.cells ([iv cv_1]).toArray 3 (0, 0))) (hbv_2 : w0.heap[bb_2]? = some (.cells ([.func (.func 93) #[] #[.pointer (some ⟨bb, 0, none⟩), .pointer (some ⟨bb_1, 0, none⟩), .pointer (some ⟨bb_2, 0, none⟩)]]).toArray 140 (0, 0))) (hG : Glob D0) (out : (List (SlaveStart × slave_way)) → Prop) (h : self_ now atv cv cv_1 out), Calls Tryd.prog 93 [.map bm, iv atv, .pointer (some ⟨bb, 0, none⟩), .pointer (some ⟨bb_1, 0, none⟩), .pointer (some ⟨bb_2, 0, none⟩)].toArray w0 (RetSN D0 w0 out fun (out : (List (SlaveStart × slave_way))) D v => ∃ bm_4, v = .map bm_4 ∧ MapB kl_57 C_slave_way true D out bm_4)) (hD : D0.on w0) (now : (List (SlaveStart × slave_way))) (atv : Int) (cv : slave_line) (cv_1 : Int) {bm : Option Nat} {p : Option Addr} {c : Nat} {p_1 : Option Addr} {c_1 : Nat} {p_2 : Option Addr} {c_2 : Nat} {bb : Nat} {bb_1 : Nat} {bb_2 : Nat} (hm : MapB kl_57 C_slave_way true D0 now bm) (hs : SRc C_SlaveStart D0 cv.SlaveLine.Starts p c) (hs_1 : SRc C_SlaveEvent D0 cv.SlaveLine.Events p_1 c_1) (hs_2 : SRc C_int D0 cv.without p_2 c_2) (hbv : w0.heap[bb]? = some (.cells ([iv cv.SlaveLine.Ring, .slice p cv.SlaveLine.Starts.length c, .slice p_1 cv.SlaveLine.Events.length c_1, .slice p_2 cv.without.length c_2]).toArray 103 (0, 0))) (hbv_1 : w0.heap[bb_1]? = some (.cells ([iv cv_1]).toArray 3 (0, 0))) (hbv_2 : w0.heap[bb_2]? = some (.cells ([.func (.func 93) #[] #[.pointer (some ⟨bb, 0, none⟩), .pointer (some ⟨bb_1, 0, none⟩), .pointer (some ⟨bb_2, 0, none⟩)]]).toArray 140 (0, 0))) (hG : Glob D0) (out : (List (SlaveStart × slave_way)) → Prop) (h : sb1_step self_ now atv cv cv_1 out) : Calls Tryd.prog 93 [.map bm, iv atv, .pointer (some ⟨bb, 0, none⟩), .pointer (some ⟨bb_1, 0, none⟩), .pointer (some ⟨bb_2, 0, none⟩)].toArray w0 (RetSN D0 w0 out fun (out : (List (SlaveStart × slave_way))) D v => ∃ bm_4, v = .map bm_4 ∧ MapB kl_57 C_slave_way true D out bm_4) := by
 refine enter _ 154 Tryd.func93 rfl Tryd.ntmps93 rfl fun a hF => ?_
 replace hF : Frm 154 [] [(0, .map bm), (1, iv atv), (2, .pointer (some ⟨bb, 0, none⟩)), (3, .pointer (some ⟨bb_1, 0, none⟩)), (4, .pointer (some ⟨bb_2, 0, none⟩))] a := hF
 have hS := St.start hD
 replace hS := hS.noMarks 4
 unfold sb1_step at h
 refine seq (region (step hF (Y.assign hF rfl) rfl fun a hF => nT (scope_ (seq (seq (region (step hF (Y.move hF rfl) rfl fun a hF => step hF (Y.fieldAddr fo_103_0 hF rfl) rfl fun a hF => step hF (Y.fieldAddr fo_25_2 hF rfl) rfl fun a hF => step hF (Y.load1H sz_23 hF rfl (hS.old hbv) rfl) rfl fun a hF => step hF (Y.lenSl u_23 hF rfl) rfl fun a hF => step hF (Y.eql hF rfl rfl) rfl fun a hF => nT (cond_b hF rfl (fun hbv_3 => ?_) (fun hbv_3 => ?_)))))))))
 ·replace h := ncond_t h hbv_3
  refine seq (region (step hF (Y.move hF rfl) rfl fun a hF => step hF (Y.assign hF rfl) rfl fun a hF => nT (ret_ (then_r (scp_r (leaveSN _ (nret h) Tryd.results93 hF hS (.cons (.tmp rfl) .nil) (.inr ⟨4, rfl⟩) ⟨_, rfl, hm⟩))))))
 replace h := ncond_f h hbv_3
 refine skip_ (then_n (seq (region (step hF (Y.fieldAddr fo_103_0 hF rfl) rfl fun a hF => step hF (Y.fieldAddr fo_25_2 hF rfl) rfl fun a hF => step hF (Y.load1H sz_23 hF rfl (hS.old hbv) rfl) rfl fun a hF => step hF (Y.move hF rfl) rfl fun a hF => ?_))))
 obtain ⟨e, hx, h⟩ := ndet h
 obtain ⟨b, o, hE, hY⟩ := Y.indexS (P := Tryd.prog) (C := C_SlaveEvent) (xs := cv.SlaveLine.Events) (T := 23) (x := (.tmp 31)) (y := (.tmp 32)) u_23 sz_66 hF rfl rfl (hs_1).1 hx
 obtain ⟨cc, hc, hcell⟩ := hE.open
 obtain rfl := C_SlaveEvent.open hc
 refine step hF (hY) rfl fun a hF => step hF (Y.loadNE (o := o) (k := 0) sz_66 hF rfl (hcell _ hS.stab) rfl rfl) rfl fun a hF => O.alloc 5 zc_66 hF hS rfl fun b_1 a w hF hS => O.store (us := [iv e.Kind, iv e.First, iv e.Count, iv e.Lost, iv e.Who, iv e.Shown]) 5 sz_66 hF rfl rfl rfl rfl hS rfl rfl fun a w hF hS => nT (seq (region (O.makeMap 6 hF hS rfl fun b_2 a w hF hS => ?_)))
 have hm_1 : MRepB kl_143 C_slave_way true D0 ([] : (List (slave_spot × slave_way))) (#[] : Array MapEntry) 0 := MRepB.nil
 refine O.alloc 7 zc_141 hF hS rfl fun b_3 a w hF hS => O.store (us := [.map (some b_2)]) 7 sz_141 hF rfl rfl rfl rfl hS rfl rfl fun a w hF hS => nT (seq (label_ (then_n (seq (seq (region (step hF (Y.move hF rfl) rfl fun a hF => O.rangeM (kl := kl_57) (C := C_slave_way) (agg := true) 8 u_85 hm hF rfl hS rfl fun b_4 oi a w hF hS hI => nT (block (loop_cutN (body := sb1_b1 atv cv cv_1 self_ e) (out := out) (fun s a w => ∃ (left : (List (SlaveStart × slave_way))) (mp : (List (slave_spot × slave_way))), ∃ (Dv : Stab), ∃ oi_1 es clk, s = (left, mp) ∧ D0.le Dv ∧ Frm 154 [] [(1, iv atv), (2, .pointer (some ⟨bb, 0, none⟩)), (3, .pointer (some ⟨bb_1, 0, none⟩)), (4, .pointer (some ⟨bb_2, 0, none⟩)), (7, .map none), (8, .pointer (some ⟨b_1, 0, none⟩)), (9, .pointer (some ⟨b_3, 0, none⟩)), (37, .pointer (some ⟨b_4, 0, none⟩))] a ∧ St w0 D0 Dv [(5, .cells b_1 [iv e.Kind, iv e.First, iv e.Count, iv e.Lost, iv e.Who, iv e.Shown] 66), (6, .obj b_2 (.map es clk)), (7, .cells b_3 [.map (some b_2)] 141), (8, .obj b_4 oi_1), (4, .marks [])] w ∧ IterB kl_57 C_slave_way true Dv left oi_1 ∧ MRepB kl_143 C_slave_way true Dv mp es clk) (now, ([] : (List (slave_spot × slave_way)))) h ⟨now, ([] : (List (slave_spot × slave_way))), D0, oi, (#[]), 0, rfl, Stab.le.refl _, hF.weak (AF rfl), hS.weak (AL rfl), hI, hm_1⟩ ?_)))))))))
 rintro s a w xo ⟨left, mp, Dv, oi_1, es, clk, rfl, hlev, hF, hS, hI_1, hm_2⟩ h
 unfold sb1_b1 at h
 try dsimp only at h
 replace hs := hs.mono hlev
 replace hs_1 := hs_1.mono hlev
 replace hs_2 := hs_2.mono hlev
 replace hG := hG.mono hlev
 refine seq (region (O.nextM 8 hF rfl hS rfl hI_1 rfl (fun hnil a hF => ?_) (fun kv left_1 hpk oi_2 ru rv a w hst hF hS => ?_)))
 ·replace h := npickz h hnil
  refine step hF (Y.extract hF rfl rfl) rfl fun a hF => nT (seq (cond_b hF rfl (fun hb => by cases hb) (fun hb => exit_ (then_x (then_x (blk_hit (then_n ?_)))))))
  replace h := next_h h
  obtain ⟨Dv_1, hlev_1, hm_3, hS⟩ := hS.freezeMB (i := 6) rfl hm_2
  replace hs := hs.mono hlev_1
  replace hs_1 := hs_1.mono hlev_1
  replace hs_2 := hs_2.mono hlev_1
  replace hG := hG.mono hlev_1
  refine seq_cut (fun a w => ∃ (mp_1 : (List (slave_spot × slave_way))), ∃ (Dv_2 : Stab), ∃ rs bm_1, Dv_1.le Dv_2 ∧ Frm 154 rs [(1, iv atv), (4, .pointer (some ⟨bb_2, 0, none⟩)), (7, .map none), (9, .pointer (some ⟨b_3, 0, none⟩))] a ∧ St w0 D0 Dv_2 [(5, .cells b_1 [iv e.Kind, iv e.First, iv e.Count, iv e.Lost, iv e.Who, iv e.Shown] 66), (7, .cells b_3 [.map bm_1] 141), (8, .obj b_4 oi_1), (4, .marks rs)] w ∧ MapB kl_143 C_slave_way true Dv_2 mp_1 bm_1 ∧ (sb1_k2 atv cv cv_1 self_ mp_1) out) ?_ ?_
  ·skip
   refine seq (region (step hF (Y.fieldAddr fo_66_0 hF rfl) rfl fun a hF => step hF (Y.load1L 5 sz_3 hF rfl hS rfl rfl) rfl fun a hF => step hF (Y.neq hF rfl rfl) rfl fun a hF => nT (cond_b hF rfl (fun hbv_5 => ?_) (fun hbv_5 => ?_))))
   ·replace h := ncond_t h hbv_5
    refine seq (region (step hF (Y.loadNH sz_103 hF rfl (hS.old hbv) rfl rfl) rfl fun a hF => step hF (Y.loadNL 5 sz_66 hF rfl hS rfl rfl rfl) rfl fun a hF => ?_))
    obtain ⟨rv_4, hx_3, h⟩ := ndet h
    refine O.callS (us := [.agg #[iv cv.SlaveLine.Ring, .slice p cv.SlaveLine.Starts.length c, .slice p_1 cv.SlaveLine.Events.length c_1, .slice p_2 cv.without.length c_2], .agg #[iv e.Kind, iv e.First, iv e.Count, iv e.Lost, iv e.Who, iv e.Shown]]) ca_64 hF hS (slave_line_pulses_ok hS.stab cv e hs hs_1 hs_2 rv_4 hx_3) rfl rfl fun v_2 Dv_8 a w hR_2 hlev_8 hF hS => ?_
    replace hs := hs.mono hlev_8
    replace hs_1 := hs_1.mono hlev_8
    replace hs_2 := hs_2.mono hlev_8
    replace hG := hG.mono hlev_8
    replace hm_3 := hm_3.mono hlev_8
    obtain ⟨bb_3, bb_4, p_7, c_7, p_8, c_8, p_9, c_9, rfl, hbv_6, hbv_7, hs_7, hs_8, hs_9⟩ := hR_2
    refine nT (block ?_)
    replace hF := hF.weak (us := [(1, iv atv), (2, .pointer (some ⟨bb, 0, none⟩)), (4, .pointer (some ⟨bb_2, 0, none⟩)), (7, .map none), (8, .pointer (some ⟨b_1, 0, none⟩)), (9, .pointer (some ⟨b_3, 0, none⟩)), (87, .func (.func 85) #[] #[.pointer (some ⟨bb_3, 0, none⟩), .pointer (some ⟨bb_4, 0, none⟩)])]) (AF rfl)
    obtain ⟨KQ_1, hx_8, hk_1⟩ := nbnd_ex h
    have hsz := hF.size
    have hgt := hF.get
    refine range_cut (first := []) (cap := [.pointer (some ⟨bb_3, 0, none⟩), .pointer (some ⟨bb_4, 0, none⟩)]) (K := fun m lp R w => ∃ (sox : (List (slave_spot × slave_way))), ∃ D ms, KQ_1 sox ∧ Dv_8.le D ∧ (fun (mp_3 : (List (slave_spot × slave_way))) D ms => ∃ bm_3, ms = [(16, .obj lp R), (5, .cells b_1 [iv e.Kind, iv e.First, iv e.Count, iv e.Lost, iv e.Who, iv e.Shown] 66), (7, .cells b_3 [.map bm_3] 141), (8, .obj b_4 oi_1), (4, .marks (m :: []))] ∧ MapB kl_143 C_slave_way true D mp_3 bm_3) sox D ms ∧ St w0 D0 D ms w) 4 16 (by decide) ca_85 hF hS rfl rfl (fun fn m lp R hR w hS => ?_) (fun m lp R w hK => ?_)
    ·refine slave_line_pulses_1N_it (Inv := fun (mp_3 : (List (slave_spot × slave_way))) D ms => ∃ bm_3, ms = [(16, .obj lp R), (5, .cells b_1 [iv e.Kind, iv e.First, iv e.Count, iv e.Lost, iv e.Who, iv e.Shown] 66), (7, .cells b_3 [.map bm_3] 141), (8, .obj b_4 oi_1), (4, .marks (m :: []))] ∧ MapB kl_143 C_slave_way true D mp_3 bm_3) (yield_ := sb1_y5 cv e) ?_ ?_ lp rv_4.1 rv_4.2 hs_7 hs_8 hs_9 hbv_6 hbv_7 hG mp KQ_1 ?_ hx_8 (ms := [(16, .obj lp R), (5, .cells b_1 [iv e.Kind, iv e.First, iv e.Count, iv e.Lost, iv e.Who, iv e.Shown] 66), (7, .cells b_3 [.map (some b_2)] 141), (8, .obj b_4 oi_1), (4, .marks (m :: []))]) ⟨(some b_2), rfl, hm_3⟩ (hS.weak (AL rfl))
     ·rintro s D ms ⟨_, rfl, z0⟩; exact small_lt rfl
     ·rintro s D ms D2 ⟨_, rfl, z0⟩ hle; exact ⟨_, rfl, z0.mono hle⟩
     rintro xy mp_3 Qs Sx hpx Dv_9 ms w h hlev_9 ⟨bm_3, rfl, hm_10⟩ hS
     unfold sb1_y5 at h
     try dsimp only at h
     refine round_cut2 16 hsz hgt rfl rfl hS rfl hR fun R2 a hF => ?_
     replace hs := hs.mono hlev_9
     replace hs_1 := hs_1.mono hlev_9
     replace hs_2 := hs_2.mono hlev_9
     replace hbv_6 := hlev_9 _ _ hbv_6
     replace hbv_7 := hlev_9 _ _ hbv_7
     refine seq (region (step hF (Y.assign hF rfl) rfl fun a hF => nT (region (step hF (Y.assign hF rfl) rfl fun a hF => nT (⟨_, _, hS, rfl, fun w hS => ?_⟩)))))
     refine block (seq (region (O.makeMap 17 hF hS rfl fun b_10 a w hF hS => ?_)))
     have hm_11 : MRepB kl_143 C_slave_way true Dv_9 ([] : (List (slave_spot × slave_way))) (#[] : Array MapEntry) 0 := MRepB.nil
     refine step hF (Y.assign hF rfl) rfl fun a hF => nT (seq (seq (region (step hF (Y.load1L 7 sz_141 hF rfl hS rfl rfl) rfl fun a hF => O.rangeM (kl := kl_143) (C := C_slave_way) (agg := true) 18 u_141 hm_10 hF rfl hS rfl fun b_11 oi_6 a w hF hS hI_4 => nT (block (loop_cutN (body := sb1_b6 cv e xy) (out := Qs) (fun s a w => ∃ (left_4 : (List (slave_spot × slave_way))) (mp_4 : (List (slave_spot × slave_way))), ∃ (Dv_10 : Stab), ∃ oi_7 es_3 clk_3, s = (left_4, mp_4) ∧ Dv_9.le Dv_10 ∧ Frm 154 [] [(2, .pointer (some ⟨bb, 0, none⟩)), (7, .map none), (8, .pointer (some ⟨b_1, 0, none⟩)), (9, .pointer (some ⟨b_3, 0, none⟩)), (12, iv xy.1), (13, iv xy.2), (14, .map (some b_10)), (92, .pointer (some ⟨b_11, 0, none⟩))] a ∧ St w0 D0 Dv_10 [(5, .cells b_1 [iv e.Kind, iv e.First, iv e.Count, iv e.Lost, iv e.Who, iv e.Shown] 66), (7, .cells b_3 [.map bm_3] 141), (8, .obj b_4 oi_1), (17, .obj b_10 (.map es_3 clk_3)), (18, .obj b_11 oi_7), (16, .obj lp R2), (1000, .snap Sx hpx), (4, .marks (m :: []))] w ∧ IterB kl_143 C_slave_way true Dv_10 left_4 oi_7 ∧ MRepB kl_143 C_slave_way true Dv_10 mp_4 es_3 clk_3) (mp_3, ([] : (List (slave_spot × slave_way)))) h ⟨mp_3, ([] : (List (slave_spot × slave_way))), Dv_9, oi_6, (#[]), 0, rfl, Stab.le.refl _, hF.weak (AF rfl), hS.weak (AL rfl), hI_4, hm_11⟩ ?_))))))
     rintro s a w xo_2 ⟨left_4, mp_4, Dv_10, oi_7, es_3, clk_3, rfl, hlev_10, hF, hS, hI_5, hm_12⟩ h
     unfold sb1_b6 at h
     try dsimp only at h
     replace hs := hs.mono hlev_10
     replace hs_1 := hs_1.mono hlev_10
     replace hs_2 := hs_2.mono hlev_10
     replace hbv_6 := hlev_10 _ _ hbv_6
     replace hbv_7 := hlev_10 _ _ hbv_7
     refine seq (region (O.nextM 18 hF rfl hS rfl hI_5 rfl (fun hnil a hF => ?_) (fun kv_2 left_5 hpk_2 oi_8 ru_2 rv_5 a w hst_2 hF hS => ?_)))
     ·replace h := npickz h hnil
      refine step hF (Y.extract hF rfl rfl) rfl fun a hF => nT (seq (cond_b hF rfl (fun hb => by cases hb) (fun hb => exit_ (then_x (then_x (blk_hit (then_n ?_)))))))
      replace h := next_h h
      refine region (step hF (Y.move hF rfl) rfl fun a hF => O.store (us := [.map (some b_10)]) 7 sz_141 hF rfl rfl rfl rfl hS rfl rfl fun a w hF hS => nil (blk_n (then_n ?_)))
      obtain ⟨Dv_11, hlev_11, hm_13, hS⟩ := hS.freezeMB (i := 17) rfl hm_12
      replace hbv_6 := hlev_11 _ _ hbv_6
      replace hbv_7 := hlev_11 _ _ hbv_7
      refine ⟨_, _, hS, rfl, fun w hS => ⟨_, Dv_11, _, nret h, hlev_10.trans hlev_11, ⟨(some b_10), rfl, hm_13⟩, hS.weak (AL rfl)⟩⟩
     replace h := npick1 h hpk_2
     refine step hF (Y.extract hF rfl rfl) rfl fun a hF => nT (seq (cond_b hF rfl (fun hb => ?_) (fun hb => by cases hb)))
     refine skip_ (then_n (block (seq (region ?_))))
     obtain ⟨cc_3, hc_3, hY_3⟩ := Y.entryM (P := Tryd.prog) (x := (.tmp 92)) 18 hst_2 hF rfl (lkOf hS rfl)
     obtain ⟨p_10, c_10, rfl, hs_10⟩ := C_slave_way.open hc_3
     refine step hF ((show Yields _ _ _ _ (.tuple #[.agg #[iv kv_2.1.state.Shown, iv kv_2.1.state.Last, iv kv_2.1.lost], .agg #[iv kv_2.2.lost.Low, iv kv_2.2.lost.High, .slice p_10 kv_2.2.story.length c_10]]) from hY_3 hS)) rfl fun a hF => step hF (Y.extract hF rfl rfl) rfl fun a hF => step hF (Y.extract hF rfl rfl) rfl fun a hF => O.alloc 19 zc_143 hF hS rfl fun b_12 a w hF hS => O.alloc 20 zc_98 hF hS rfl fun b_13 a w hF hS => O.store (us := [iv kv_2.1.state.Shown, iv kv_2.1.state.Last, iv kv_2.1.lost]) 19 sz_143 hF rfl rfl rfl rfl hS rfl rfl fun a w hF hS => O.store (us := [iv kv_2.2.lost.Low, iv kv_2.2.lost.High, .slice p_10 kv_2.2.story.length c_10]) 20 sz_98 hF rfl rfl rfl rfl hS rfl rfl fun a w hF hS => nT (seq ?_)
     obtain ⟨rv_6, hx_4, h⟩ := ndet h
     refine drawsV 10 (.flt 0 (.flt 1 (.flt 2 (.flt 3 (.flt 4 (.flt 6 (.flt 7 (.flt 9 (.alt 5 (.flt 8 .done) .stop))))))))) mixed_ (by kernel_rfl) (fun w => St w0 D0 Dv_10 [(5, .cells b_1 [iv e.Kind, iv e.First, iv e.Count, iv e.Lost, iv e.Who, iv e.Shown] 66), (7, .cells b_3 [.map bm_3] 141), (8, .obj b_4 oi_1), (17, .obj b_10 (.map es_3 clk_3)), (18, .obj b_11 oi_8), (19, .cells b_12 [iv kv_2.1.state.Shown, iv kv_2.1.state.Last, iv kv_2.1.lost] 143), (20, .cells b_13 [iv kv_2.2.lost.Low, iv kv_2.2.lost.High, .slice p_10 kv_2.2.story.length c_10] 98), (16, .obj lp R2), (1000, .snap Sx hpx), (4, .marks (m :: []))] w) (fun a w => Frm 154 [] [(2, .pointer (some ⟨bb, 0, none⟩)), (7, .map none), (8, .pointer (some ⟨b_1, 0, none⟩)), (9, .pointer (some ⟨b_3, 0, none⟩)), (12, iv xy.1), (13, iv xy.2), (14, .map (some b_10)), (15, .pointer (some ⟨b_12, 0, none⟩)), (16, .pointer (some ⟨b_13, 0, none⟩)), (92, .pointer (some ⟨b_11, 0, none⟩)), (98, .map (some b_10)), (106, .agg #[iv rv_6.Shown, iv rv_6.Last, iv kv_2.1.lost]), (107, .agg #[iv kv_2.2.lost.Low, iv kv_2.2.lost.High, .slice p_10 kv_2.2.story.length c_10])] a ∧ St w0 D0 Dv_10 [(5, .cells b_1 [iv e.Kind, iv e.First, iv e.Count, iv e.Lost, iv e.Who, iv e.Shown] 66), (7, .cells b_3 [.map bm_3] 141), (8, .obj b_4 oi_1), (17, .obj b_10 (.map es_3 clk_3)), (18, .obj b_11 oi_8), (19, .cells b_12 [iv kv_2.1.state.Shown, iv kv_2.1.state.Last, iv kv_2.1.lost] 143), (20, .cells b_13 [iv kv_2.2.lost.Low, iv kv_2.2.lost.High, .slice p_10 kv_2.2.story.length c_10] 98), (16, .obj lp R2), (1000, .snap Sx hpx), (4, .marks (m :: []))] w ∧ IterB kl_143 C_slave_way true Dv_10 left_5 oi_8) (hS.weak (ms := [(5, .cells b_1 [iv e.Kind, iv e.First, iv e.Count, iv e.Lost, iv e.Who, iv e.Shown] 66), (7, .cells b_3 [.map bm_3] 141), (8, .obj b_4 oi_1), (17, .obj b_10 (.map es_3 clk_3)), (18, .obj b_11 oi_8), (19, .cells b_12 [iv kv_2.1.state.Shown, iv kv_2.1.state.Last, iv kv_2.1.lost] 143), (20, .cells b_13 [iv kv_2.2.lost.Low, iv kv_2.2.lost.High, .slice p_10 kv_2.2.story.length c_10] 98), (16, .obj lp R2), (1000, .snap Sx hpx), (4, .marks (m :: []))]) (AL rfl)).drew (fun _ _ _ _ h => h) ?_ ?_
     ·replace hS := hS.drew
      have hle0 := hS.le
      refine stepV (i := 0) rfl hF (fun w hS => Y.move hF rfl) rfl fun a hF => stepV (i := 1) rfl hF (fun w hS => Y.loadNH sz_103 hF rfl (hS.old hbv) rfl rfl) rfl fun a hF => stepV (i := 2) rfl hF (fun w hS => Y.fieldAddr fo_143_0 hF rfl) rfl fun a hF => stepV (i := 3) rfl hF (fun w hS => Y.loadNL 19 sz_57 hF rfl hS rfl rfl rfl) rfl fun a hF => stepV (i := 4) rfl hF (fun w hS => Y.move hF rfl) rfl fun a hF => stepV (i := 6) rfl hF (fun w hS => Y.fieldAddr fo_143_1 hF rfl) rfl fun a hF => stepV (i := 7) rfl hF (fun w hS => Y.load1L 19 sz_3 hF rfl hS rfl rfl) rfl fun a hF => stepV (i := 9) rfl hF (fun w hS => Y.loadNL 20 sz_98 hF rfl hS rfl rfl rfl) rfl fun a hF => oneV (i := 5) rfl ?_ trivial
      refine O.callP (us := [.agg #[iv cv.SlaveLine.Ring, .slice p cv.SlaveLine.Starts.length c, .slice p_1 cv.SlaveLine.Events.length c_1, .slice p_2 cv.without.length c_2], .agg #[iv kv_2.1.state.Shown, iv kv_2.1.state.Last], iv xy.2]) ca_65 hF hS (slave_line_after_ok hS.stab cv kv_2.1.state xy.2 hs hs_1 hs_2 rv_6 hx_4) rfl rfl fun a w hF hS => nT ⟨hS.weak (AL rfl), ?_⟩
      refine stepV (i := 8) rfl hF (fun w hS => Y.build (parts := [(0, (.tmp 103)), (1, (.tmp 105))]) (cs := #[iv rv_6.Shown, iv rv_6.Last, iv kv_2.1.lost]) hF rfl (by kernel_rfl)) rfl fun a hF => toTailV ⟨hF.weak (AF rfl), hS.weak (AL rfl), hst_2.it⟩
     rintro a w ⟨hF, hS, hj⟩
     obtain ⟨rv_7, hx_5, h⟩ := ndet h
     refine O.callM (us := [.map (some b_10), .agg #[iv rv_6.Shown, iv rv_6.Last, iv kv_2.1.lost], .agg #[iv kv_2.2.lost.Low, iv kv_2.2.lost.High, .slice p_10 kv_2.2.story.length c_10]]) ca_94 hF (slave_add_ok mp_4 (slave_spot.mk rv_6 kv_2.1.lost) kv_2.2 hm_12 hs_10 (hS.lend1 (i := 17) rfl) rv_7 hx_5) rfl rfl fun v_3 Dv_12 a w hR_3 hlev_12 hF => ?_
     replace hbv_6 := hlev_12 _ _ hbv_6
     replace hbv_7 := hlev_12 _ _ hbv_7
     replace hst_2 := hst_2.mono hlev_12
     replace hs_10 := hs_10.mono hlev_12
     obtain ⟨es_4, clk_4, hS2_0, rfl, hm_14⟩ := hR_3
     replace hS := hS.back1 (i := 17) rfl hS2_0
     refine nT (seq (region (step hF (Y.fieldAddr fo_143_1 hF rfl) rfl fun a hF => step hF (Y.load1L 19 sz_3 hF rfl hS rfl rfl) rfl fun a hF => step hF (Y.fieldAddr fo_66_3 hF rfl) rfl fun a hF => step hF (Y.load1L 5 sz_3 hF rfl hS rfl rfl) rfl fun a hF => step hF (Y.lss hF rfl rfl) rfl fun a hF => nT (cond_b hF rfl (fun hbv_8 => ?_) (fun hbv_8 => ?_)))))
     ·replace h := ncond_t h hbv_8
      obtain ⟨rv_8, hx_6, h⟩ := ndet h
      refine drawsV 10 (.flt 0 (.flt 1 (.flt 2 (.flt 3 (.flt 4 (.flt 5 (.flt 6 (.flt 7 (.flt 8 (.alt 9 .done .stop)))))))))) mixed_ (by kernel_rfl) (fun w => St w0 D0 Dv_12 [(5, .cells b_1 [iv e.Kind, iv e.First, iv e.Count, iv e.Lost, iv e.Who, iv e.Shown] 66), (7, .cells b_3 [.map bm_3] 141), (8, .obj b_4 oi_1), (17, .obj b_10 (.map es_4 clk_4)), (18, .obj b_11 oi_8), (19, .cells b_12 [iv kv_2.1.state.Shown, iv kv_2.1.state.Last, iv kv_2.1.lost] 143), (20, .cells b_13 [iv kv_2.2.lost.Low, iv kv_2.2.lost.High, .slice p_10 kv_2.2.story.length c_10] 98), (16, .obj lp R2), (1000, .snap Sx hpx), (4, .marks (m :: []))] w) (fun a w => ∃ (Dv_14 : Stab) (p_11 : Option Addr) (c_11 : Nat), Dv_12.le Dv_14 ∧ Frm 154 [] [(2, .pointer (some ⟨bb, 0, none⟩)), (7, .map none), (8, .pointer (some ⟨b_1, 0, none⟩)), (9, .pointer (some ⟨b_3, 0, none⟩)), (12, iv xy.1), (13, iv xy.2), (14, .map (some b_10)), (92, .pointer (some ⟨b_11, 0, none⟩)), (114, .map (some b_10)), (120, .agg #[iv kv_2.1.state.Shown, iv kv_2.1.state.Last, iv (wr (kv_2.1.lost + 1))]), (123, .agg #[iv rv_8.lost.Low, iv rv_8.lost.High, .slice p_11 rv_8.story.length c_11])] a ∧ St w0 D0 Dv_14 [(5, .cells b_1 [iv e.Kind, iv e.First, iv e.Count, iv e.Lost, iv e.Who, iv e.Shown] 66), (7, .cells b_3 [.map bm_3] 141), (8, .obj b_4 oi_1), (17, .obj b_10 (.map es_4 clk_4)), (18, .obj b_11 oi_8), (19, .cells b_12 [iv kv_2.1.state.Shown, iv kv_2.1.state.Last, iv kv_2.1.lost] 143), (20, .cells b_13 [iv kv_2.2.lost.Low, iv kv_2.2.lost.High, .slice p_10 kv_2.2.story.length c_10] 98), (16, .obj lp R2), (1000, .snap Sx hpx), (4, .marks (m :: []))] w ∧ SRc (C_sl C_int) Dv_14 rv_8.story p_11 c_11 ∧ IterB kl_143 C_slave_way true Dv_14 left_5 oi_8) (hS.weak (ms := [(5, .cells b_1 [iv e.Kind, iv e.First, iv e.Count, iv e.Lost, iv e.Who, iv e.Shown] 66), (7, .cells b_3 [.map bm_3] 141), (8, .obj b_4 oi_1), (17, .obj b_10 (.map es_4 clk_4)), (18, .obj b_11 oi_8), (19, .cells b_12 [iv kv_2.1.state.Shown, iv kv_2.1.state.Last, iv kv_2.1.lost] 143), (20, .cells b_13 [iv kv_2.2.lost.Low, iv kv_2.2.lost.High, .slice p_10 kv_2.2.story.length c_10] 98), (16, .obj lp R2), (1000, .snap Sx hpx), (4, .marks (m :: []))]) (AL rfl)).drew (fun _ _ _ _ h => h) ?_ ?_
      ·replace hS := hS.drew
       have hle0 := hS.le
       refine stepV (i := 0) rfl hF (fun w hS => Y.move hF rfl) rfl fun a hF => stepV (i := 1) rfl hF (fun w hS => Y.fieldAddr fo_143_0 hF rfl) rfl fun a hF => stepV (i := 2) rfl hF (fun w hS => Y.loadNL 19 sz_57 hF rfl hS rfl rfl rfl) rfl fun a hF => stepV (i := 3) rfl hF (fun w hS => Y.fieldAddr fo_143_1 hF rfl) rfl fun a hF => stepV (i := 4) rfl hF (fun w hS => Y.load1L 19 sz_3 hF rfl hS rfl rfl) rfl fun a hF => stepV (i := 5) rfl hF (fun w hS => Y.add hF rfl rfl) rfl fun a hF => stepV (i := 6) rfl hF (fun w hS => Y.build (parts := [(0, (.tmp 116)), (1, (.tmp 119))]) (cs := #[iv kv_2.1.state.Shown, iv kv_2.1.state.Last, iv (wr (kv_2.1.lost + 1))]) hF rfl (by kernel_rfl)) rfl fun a hF => stepV (i := 7) rfl hF (fun w hS => Y.loadNL 20 sz_98 hF rfl hS rfl rfl rfl) rfl fun a hF => stepV (i := 8) rfl hF (fun w hS => Y.move hF rfl) rfl fun a hF => oneV (i := 9) rfl ?_ trivial
       refine O.callS (us := [.agg #[iv kv_2.2.lost.Low, iv kv_2.2.lost.High, .slice p_10 kv_2.2.story.length c_10], iv xy.1]) ca_95 hF hS (slave_lose_ok hS.stab kv_2.2 xy.1 hs_10 rv_8 hx_6) rfl rfl fun v_5 Dv_15 a w hR_5 hlev_14 hF hS => ?_
       replace hbv_6 := hlev_14 _ _ hbv_6
       replace hbv_7 := hlev_14 _ _ hbv_7
       replace hst_2 := hst_2.mono hlev_14
       obtain ⟨p_12, c_12, rfl, hs_12⟩ := hR_5
       refine nT ⟨(hS.weak (ms := [(5, .cells b_1 [iv e.Kind, iv e.First, iv e.Count, iv e.Lost, iv e.Who, iv e.Shown] 66), (7, .cells b_3 [.map bm_3] 141), (8, .obj b_4 oi_1), (17, .obj b_10 (.map es_4 clk_4)), (18, .obj b_11 oi_8), (19, .cells b_12 [iv kv_2.1.state.Shown, iv kv_2.1.state.Last, iv kv_2.1.lost] 143), (20, .cells b_13 [iv kv_2.2.lost.Low, iv kv_2.2.lost.High, .slice p_10 kv_2.2.story.length c_10] 98), (16, .obj lp R2), (1000, .snap Sx hpx), (4, .marks (m :: []))]) (AL rfl)).weakD hlev_14 hle0, ?_⟩
       exact toTailV ⟨Dv_15, p_12, c_12, hlev_14, hF.weak (AF rfl), hS.weak (AL rfl), hs_12, hst_2.it⟩
      rintro a w ⟨Dv_14, p_11, c_11, hle, hF, hS, hj_1, hj_2⟩
      have hlev_15 := hle
      replace hbv_6 := hlev_15 _ _ hbv_6
      replace hbv_7 := hlev_15 _ _ hbv_7
      replace hst_2 := hst_2.mono hlev_15
      replace hm_14 := hm_14.mono hlev_15
      obtain ⟨rv_9, hx_7, h⟩ := ndet h
      refine O.callM (us := [.map (some b_10), .agg #[iv kv_2.1.state.Shown, iv kv_2.1.state.Last, iv (wr (kv_2.1.lost + 1))], .agg #[iv rv_8.lost.Low, iv rv_8.lost.High, .slice p_11 rv_8.story.length c_11]]) ca_94 hF (slave_add_ok rv_7 (slave_spot.mk kv_2.1.state (wr (kv_2.1.lost + 1))) rv_8 hm_14 hj_1 (hS.lend1 (i := 17) rfl) rv_9 hx_7) rfl rfl fun v_6 Dv_16 a w hR_6 hlev_16 hF => ?_
      replace hbv_6 := hlev_16 _ _ hbv_6
      replace hbv_7 := hlev_16 _ _ hbv_7
      replace hst_2 := hst_2.mono hlev_16
      obtain ⟨es_5, clk_5, hS2_1, rfl, hm_15⟩ := hR_6
      replace hS := hS.back1 (i := 17) rfl hS2_1
      refine nil (blk_n (then_n (⟨_, nnxt_h h, left_5, rv_9, Dv_16, oi_8, es_5, clk_5, rfl, hlev_10.trans (hlev_12.trans (hlev_15.trans hlev_16)), hF.weak (AF rfl), hS.weak (AL rfl), hst_2.it, hm_15⟩)))
     replace h := ncond_f h hbv_8
     refine skip_ (blk_n (then_n (⟨_, nnxt_h h, left_5, rv_7, Dv_12, oi_8, es_4, clk_4, rfl, hlev_10.trans hlev_12, hF.weak (AF rfl), hS.weak (AL rfl), hst_2.it, hm_14⟩)))
    obtain ⟨so, Dv_9, ms, hsox, hlev_17, ⟨bm_3, rfl, hm_10⟩, hS⟩ := hK
    replace h := hk_1 _ hsox
    refine ⟨Dv_9, _, hS, rfl, fun a w hF hS => ?_⟩
    replace hbv_6 := hlev_17 _ _ hbv_6
    replace hbv_7 := hlev_17 _ _ hbv_7
    refine blk_n (then_n (⟨so, Dv_9, (m :: []), bm_3, hlev_8.trans hlev_17, hF.weak (AF rfl), hS.weak (AL rfl), hm_10, h⟩))
   replace h := ncond_f h hbv_5
   refine skip_ (then_n (⟨mp, Dv_1, ([]), (some b_2), Stab.le.refl _, hF.weak (AF rfl), hS.weak (AL rfl), hm_3, h⟩))
  rintro a w ⟨mp_1, Dv_2, rs, bm_1, hlev_2, hF, hS, hm_4, h⟩
  unfold sb1_k2 at h
  replace hs := hs.mono hlev_2
  replace hs_1 := hs_1.mono hlev_2
  replace hs_2 := hs_2.mono hlev_2
  replace hG := hG.mono hlev_2
  refine seq (region (O.makeMap 9 hF hS rfl fun b_5 a w hF hS => ?_))
  have hm_5 : MRepB kl_57 C_slave_way true Dv_2 ([] : (List (SlaveStart × slave_way))) (#[] : Array MapEntry) 0 := MRepB.nil
  refine step hF (Y.assign hF rfl) rfl fun a hF => nT (seq (seq (region (step hF (Y.load1L 7 sz_141 hF rfl hS rfl rfl) rfl fun a hF => O.rangeM (kl := kl_143) (C := C_slave_way) (agg := true) 10 u_141 hm_4 hF rfl hS rfl fun b_6 oi_3 a w hF hS hI_2 => nT (block (loop_cutN (body := sb1_b3 atv cv cv_1 self_) (out := out) (fun s a w => ∃ (left_2 : (List (slave_spot × slave_way))) (mp_2 : (List (SlaveStart × slave_way))), ∃ (Dv_3 : Stab), ∃ oi_4 es_1 clk_1, s = (left_2, mp_2) ∧ Dv_2.le Dv_3 ∧ Frm 154 rs [(1, iv atv), (4, .pointer (some ⟨bb_2, 0, none⟩)), (7, .map none), (17, .map (some b_5)), (128, .pointer (some ⟨b_6, 0, none⟩))] a ∧ St w0 D0 Dv_3 [(5, .cells b_1 [iv e.Kind, iv e.First, iv e.Count, iv e.Lost, iv e.Who, iv e.Shown] 66), (7, .cells b_3 [.map bm_1] 141), (8, .obj b_4 oi_1), (9, .obj b_5 (.map es_1 clk_1)), (10, .obj b_6 oi_4), (4, .marks rs)] w ∧ IterB kl_143 C_slave_way true Dv_3 left_2 oi_4 ∧ MRepB kl_57 C_slave_way true Dv_3 mp_2 es_1 clk_1) (mp_1, ([] : (List (SlaveStart × slave_way)))) h ⟨mp_1, ([] : (List (SlaveStart × slave_way))), Dv_2, oi_3, (#[]), 0, rfl, Stab.le.refl _, hF.weak (AF rfl), hS.weak (AL rfl), hI_2, hm_5⟩ ?_))))))
  rintro s a w xo_1 ⟨left_2, mp_2, Dv_3, oi_4, es_1, clk_1, rfl, hlev_3, hF, hS, hI_3, hm_6⟩ h
  unfold sb1_b3 at h
  try dsimp only at h
  replace hs := hs.mono hlev_3
  replace hs_1 := hs_1.mono hlev_3
  replace hs_2 := hs_2.mono hlev_3
  replace hG := hG.mono hlev_3
  refine seq (region (O.nextM 10 hF rfl hS rfl hI_3 rfl (fun hnil a hF => ?_) (fun kv_1 left_3 hpk_1 oi_5 ru_1 rv_1 a w hst_1 hF hS => ?_)))
  ·replace h := npickz h hnil
   refine step hF (Y.extract hF rfl rfl) rfl fun a hF => nT (seq (cond_b hF rfl (fun hb => by cases hb) (fun hb => exit_ (then_x (then_x (blk_hit (then_n ?_)))))))
   replace h := next_h h
   refine seq (region (step hF (Y.load1H sz_140 hF rfl (hS.old hbv_2) rfl) rfl fun a hF => step hF (Y.move hF rfl) rfl fun a hF => step hF (Y.move hF rfl) rfl fun a hF => step hF (Y.add hF rfl rfl) rfl fun a hF => ?_))
   obtain ⟨Dv_4, hlev_4, hm_7, hS⟩ := hS.freezeMB (i := 9) rfl hm_6
   replace hs := hs.mono hlev_4
   replace hs_1 := hs_1.mono hlev_4
   replace hs_2 := hs_2.mono hlev_4
   replace hG := hG.mono hlev_4
   obtain ⟨KQ, hx_1, hk⟩ := nbnd_ex h
   refine O.callVSN (f := 93) (first := []) (cap := [.pointer (some ⟨bb, 0, none⟩), .pointer (some ⟨bb_1, 0, none⟩), .pointer (some ⟨bb_2, 0, none⟩)]) (us := [.map (some b_5), iv (wr (atv + 1))]) ca_93 hF hS rfl rfl (hself hS.stab mp_2 (wr (atv + 1)) cv cv_1 hm_7 hs hs_1 hs_2 (hS.old hbv) (hS.old hbv_1) (hS.old hbv_2) hG KQ hx_1) rfl fun rv_2 h v Dv_5 a w hR hlev_5 hF hS => ?_
   replace h := hk _ h
   obtain ⟨bm_2, rfl, hm_8⟩ := hR
   refine step hF (Y.assign hF rfl) rfl fun a hF => nT (ret_ (scp_r (leaveSN _ (nret h) Tryd.results93 hF hS (.cons (.tmp rfl) .nil) (.inr ⟨4, rfl⟩) ⟨_, rfl, hm_8⟩)))
  replace h := npick1 h hpk_1
  refine step hF (Y.extract hF rfl rfl) rfl fun a hF => nT (seq (cond_b hF rfl (fun hb => ?_) (fun hb => by cases hb)))
  refine skip_ (then_n (block (seq (region ?_))))
  obtain ⟨cc_1, hc_1, hY_1⟩ := Y.entryM (P := Tryd.prog) (x := (.tmp 128)) 10 hst_1 hF rfl (lkOf hS rfl)
  obtain ⟨p_3, c_3, rfl, hs_3⟩ := C_slave_way.open hc_1
  refine step hF ((show Yields _ _ _ _ (.tuple #[.agg #[iv kv_1.1.state.Shown, iv kv_1.1.state.Last, iv kv_1.1.lost], .agg #[iv kv_1.2.lost.Low, iv kv_1.2.lost.High, .slice p_3 kv_1.2.story.length c_3]]) from hY_1 hS)) rfl fun a hF => step hF (Y.extract hF rfl rfl) rfl fun a hF => step hF (Y.extract hF rfl rfl) rfl fun a hF => O.alloc 11 zc_143 hF hS rfl fun b_7 a w hF hS => O.alloc 12 zc_98 hF hS rfl fun b_8 a w hF hS => O.store (us := [iv kv_1.1.state.Shown, iv kv_1.1.state.Last, iv kv_1.1.lost]) 11 sz_143 hF rfl rfl rfl rfl hS rfl rfl fun a w hF hS => O.store (us := [iv kv_1.2.lost.Low, iv kv_1.2.lost.High, .slice p_3 kv_1.2.story.length c_3]) 12 sz_98 hF rfl rfl rfl rfl hS rfl rfl fun a w hF hS => nT (seq_cut (fun a w => ∃ (z : Int) (z_1 : Int) (l : (List (List Int))), ∃ (Dv_6 : Stab), ∃ p_4 c_4, Dv_3.le Dv_6 ∧ Frm 154 rs [(1, iv atv), (4, .pointer (some ⟨bb_2, 0, none⟩)), (7, .map none), (17, .map (some b_5)), (18, .pointer (some ⟨b_7, 0, none⟩)), (19, .pointer (some ⟨b_8, 0, none⟩)), (128, .pointer (some ⟨b_6, 0, none⟩))] a ∧ St w0 D0 Dv_6 [(5, .cells b_1 [iv e.Kind, iv e.First, iv e.Count, iv e.Lost, iv e.Who, iv e.Shown] 66), (7, .cells b_3 [.map bm_1] 141), (8, .obj b_4 oi_1), (9, .obj b_5 (.map es_1 clk_1)), (10, .obj b_6 oi_5), (11, .cells b_7 [iv kv_1.1.state.Shown, iv kv_1.1.state.Last, iv kv_1.1.lost] 143), (12, .cells b_8 [iv z, iv z_1, .slice p_4 l.length c_4] 98), (4, .marks rs)] w ∧ SRc (C_sl C_int) Dv_6 l p_4 c_4 ∧ (sb1_k4 mp_2 kv_1 left_3 z z_1 l) (nlp xo_1 out)) ?_ ?_)
  ·skip
   refine seq (region (step hF (Y.move hF rfl) rfl fun a hF => step hF (Y.fieldAddr fo_143_0 hF rfl) rfl fun a hF => step hF (Y.loadNL 11 sz_57 hF rfl hS rfl rfl rfl) rfl fun a hF => ?_))
   obtain ⟨cc_2, hc_2, hY_2⟩ := Y.lookupO (kl := kl_57) (C := C_slave_way) (agg := true) (xs := mp_2) (x := (.tmp 135)) (y := (.tmp 137)) (z := [iv 0, iv 0, .slice none 0 0]) (z0 := ((slave_way.mk (Span.mk 0 0) ([] : List (List Int))) : slave_way)) true 9 mt_85 (fun _ => rfl) (⟨_, _, rfl, SRc.nil⟩) kv_1.1.state hm_6.1 hF rfl rfl (lkOf hS rfl)
   obtain ⟨p_5, c_5, rfl, hs_5⟩ := C_slave_way.open hc_2
   refine step hF ((show Yields _ _ _ _ (.tuple #[.agg #[iv ((((mget kl_57 mp_2 kv_1.1.state).getD ((slave_way.mk (Span.mk 0 0) ([] : List (List Int))) : slave_way)).lost).Low), iv ((((mget kl_57 mp_2 kv_1.1.state).getD ((slave_way.mk (Span.mk 0 0) ([] : List (List Int))) : slave_way)).lost).High), .slice p_5 (((mget kl_57 mp_2 kv_1.1.state).getD ((slave_way.mk (Span.mk 0 0) ([] : List (List Int))) : slave_way)).story).length c_5], .bool ((mget kl_57 mp_2 kv_1.1.state).isSome)]) from hY_2 hS)) rfl fun a hF => step hF (Y.move hF rfl) rfl fun a hF => step hF (Y.extract hF rfl rfl) rfl fun a hF => step hF (Y.extract hF rfl rfl) rfl fun a hF => O.alloc 13 zc_98 hF hS rfl fun b_9 a w hF hS => O.store (us := [iv ((((mget kl_57 mp_2 kv_1.1.state).getD ((slave_way.mk (Span.mk 0 0) ([] : List (List Int))) : slave_way)).lost).Low), iv ((((mget kl_57 mp_2 kv_1.1.state).getD ((slave_way.mk (Span.mk 0 0) ([] : List (List Int))) : slave_way)).lost).High), .slice p_5 (((mget kl_57 mp_2 kv_1.1.state).getD ((slave_way.mk (Span.mk 0 0) ([] : List (List Int))) : slave_way)).story).length c_5]) 13 sz_98 hF rfl rfl rfl rfl hS rfl rfl fun a w hF hS => step hF (Y.assign hF rfl) rfl fun a hF => nT (seq (region (step hF (Y.move hF rfl) rfl fun a hF => nT (cond_b hF rfl (fun hbv_4 => ?_) (fun hbv_4 => ?_)))))
   ·replace h := ncond_t h hbv_4
    refine region (step hF (Y.loadNL 13 sz_98 hF rfl hS rfl rfl rfl) rfl fun a hF => step hF (Y.loadNL 12 sz_98 hF rfl hS rfl rfl rfl) rfl fun a hF => ?_)
    obtain ⟨rv_3, hx_2, h⟩ := ndet h
    refine O.callS (us := [.agg #[iv ((((mget kl_57 mp_2 kv_1.1.state).getD ((slave_way.mk (Span.mk 0 0) ([] : List (List Int))) : slave_way)).lost).Low), iv ((((mget kl_57 mp_2 kv_1.1.state).getD ((slave_way.mk (Span.mk 0 0) ([] : List (List Int))) : slave_way)).lost).High), .slice p_5 (((mget kl_57 mp_2 kv_1.1.state).getD ((slave_way.mk (Span.mk 0 0) ([] : List (List Int))) : slave_way)).story).length c_5], .agg #[iv kv_1.2.lost.Low, iv kv_1.2.lost.High, .slice p_3 kv_1.2.story.length c_3]]) ca_84 hF hS (slave_widened_ok hS.stab (slave_way.mk (Span.mk ((((mget kl_57 mp_2 kv_1.1.state).getD ((slave_way.mk (Span.mk 0 0) ([] : List (List Int))) : slave_way)).lost).Low) ((((mget kl_57 mp_2 kv_1.1.state).getD ((slave_way.mk (Span.mk 0 0) ([] : List (List Int))) : slave_way)).lost).High)) (((mget kl_57 mp_2 kv_1.1.state).getD ((slave_way.mk (Span.mk 0 0) ([] : List (List Int))) : slave_way)).story)) kv_1.2 hs_5 hs_3 rv_3 hx_2) rfl rfl fun v_1 Dv_7 a w hR_1 hlev_7 hF hS => ?_
    obtain ⟨p_6, c_6, rfl, hs_6⟩ := hR_1
    refine O.store (us := [iv rv_3.lost.Low, iv rv_3.lost.High, .slice p_6 rv_3.story.length c_6]) 12 sz_98 hF rfl rfl rfl rfl hS rfl rfl fun a w hF hS => nT (⟨rv_3.lost.Low, rv_3.lost.High, rv_3.story, Dv_7, p_6, c_6, hlev_7, hF.weak (AF rfl), hS.weak (AL rfl), hs_6, h⟩)
   replace h := ncond_f h hbv_4
   refine skip_ (then_n (⟨kv_1.2.lost.Low, kv_1.2.lost.High, kv_1.2.story, Dv_3, p_3, c_3, Stab.le.refl _, hF.weak (AF rfl), hS.weak (AL rfl), hs_3, h⟩))
  rintro a w ⟨z, z_1, l, Dv_6, p_4, c_4, hlev_6, hF, hS, hs_4, h⟩
  unfold sb1_k4 at h
  replace hm_6 := hm_6.mono hlev_6
  replace hst_1 := hst_1.mono hlev_6
  refine region (step hF (Y.move hF rfl) rfl fun a hF => step hF (Y.fieldAddr fo_143_0 hF rfl) rfl fun a hF => step hF (Y.loadNL 11 sz_57 hF rfl hS rfl rfl rfl) rfl fun a hF => step hF (Y.loadNL 12 sz_98 hF rfl hS rfl rfl rfl) rfl fun a hF => map_putB (kl := kl_57) (C := C_slave_way) (agg := true) (x := (.tmp 145)) (y := (.tmp 147)) (u := (.tmp 148)) (v0 := (slave_way.mk (Span.mk z z_1) l)) (cs := [iv z, iv z_1, .slice p_4 l.length c_4]) (.inl rfl) 9 mt_85 (fun _ => rfl) kv_1.1.state hm_6 (⟨_, _, rfl, hs_4⟩) hF rfl rfl rfl hS rfl fun es_2 clk_2 a w hF hS hm_9 => nil (blk_n (then_n (⟨_, nnxt_h h, left_3, (mput kl_57 mp_2 kv_1.1.state (slave_way.mk (Span.mk z z_1) l)), Dv_6, oi_5, es_2, clk_2, rfl, hlev_3.trans hlev_6, hF.weak (AF rfl), hS.weak (AL rfl), hst_1.it, hm_9⟩))))
 replace h := npick1 h hpk
 refine step hF (Y.extract hF rfl rfl) rfl fun a hF => nT (seq (cond_b hF rfl (fun hb => ?_) (fun hb => by cases hb)))
 refine skip_ (then_n (block (seq (region ?_))))
 obtain ⟨cc_4, hc_4, hY_4⟩ := Y.entryM (P := Tryd.prog) (x := (.tmp 37)) 8 hst hF rfl (lkOf hS rfl)
 obtain ⟨p_13, c_13, rfl, hs_13⟩ := C_slave_way.open hc_4
 refine step hF ((show Yields _ _ _ _ (.tuple #[.agg #[iv kv.1.Shown, iv kv.1.Last], .agg #[iv kv.2.lost.Low, iv kv.2.lost.High, .slice p_13 kv.2.story.length c_13]]) from hY_4 hS)) rfl fun a hF => step hF (Y.extract hF rfl rfl) rfl fun a hF => step hF (Y.extract hF rfl rfl) rfl fun a hF => O.alloc 21 zc_57 hF hS rfl fun b_14 a w hF hS => O.alloc 22 zc_98 hF hS rfl fun b_15 a w hF hS => O.store (us := [iv kv.1.Shown, iv kv.1.Last]) 21 sz_57 hF rfl rfl rfl rfl hS rfl rfl fun a w hF hS => O.store (us := [iv kv.2.lost.Low, iv kv.2.lost.High, .slice p_13 kv.2.story.length c_13]) 22 sz_98 hF rfl rfl rfl rfl hS rfl rfl fun a w hF hS => nT (seq (seq (region (step hF (Y.fieldAddr fo_66_0 hF rfl) rfl fun a hF => step hF (Y.load1L 5 sz_3 hF rfl hS rfl rfl) rfl fun a hF => step hF (Y.eql hF rfl rfl) rfl fun a hF => step hF (Y.move hF rfl) rfl fun a hF => join (N := 154) (rs := []) (w0 := w0) (D0 := D0) 5 (us := [(1, iv atv), (2, .pointer (some ⟨bb, 0, none⟩)), (3, .pointer (some ⟨bb_1, 0, none⟩)), (4, .pointer (some ⟨bb_2, 0, none⟩)), (7, .map none), (8, .pointer (some ⟨b_1, 0, none⟩)), (9, .pointer (some ⟨b_3, 0, none⟩)), (10, .pointer (some ⟨b_14, 0, none⟩)), (11, .pointer (some ⟨b_15, 0, none⟩)), (37, .pointer (some ⟨b_4, 0, none⟩)), (51, .bool ((e.Kind == 2) && (e.Who == cv_1)))]) (ms := [(5, .cells b_1 [iv e.Kind, iv e.First, iv e.Count, iv e.Lost, iv e.Who, iv e.Shown] 66), (6, .obj b_2 (.map es clk)), (7, .cells b_3 [.map (some b_2)] 141), (8, .obj b_4 oi_2), (21, .cells b_14 [iv kv.1.Shown, iv kv.1.Last] 57), (22, .cells b_15 [iv kv.2.lost.Low, iv kv.2.lost.High, .slice p_13 kv.2.story.length c_13] 98), (4, .marks [])]) (D' := Dv) ?_ ?_))))
 ·rcases bcases (e.Kind == 2) with hbv_9 | hbv_9
  ·skip
   refine guard_on hF rfl rfl hbv_9 (step hF (Y.fieldAddr fo_66_4 hF rfl) rfl fun a hF => guard_on hF rfl rfl hbv_9 (step hF (Y.load1L 5 sz_3 hF rfl hS rfl rfl) rfl fun a hF => guard_on hF rfl rfl hbv_9 (step hF (Y.load1H sz_3 hF rfl (hS.old hbv_1) rfl) rfl fun a hF => guard_on hF rfl rfl hbv_9 (step hF (Y.eql hF rfl rfl) rfl fun a hF => step hF (Y.pick_t hF rfl hbv_9 rfl) rfl fun a hF => nT ⟨hF.weak ⟨rfl, rfl, rfl, rfl, rfl, rfl, rfl, rfl, rfl, rfl, (by rw [hbv_9]; rfl), trivial⟩, hS.weak (AL rfl)⟩))))
  refine guard_off hF rfl rfl hbv_9 rfl fun a hF => guard_off hF rfl rfl hbv_9 rfl fun a hF => guard_off hF rfl rfl hbv_9 rfl fun a hF => guard_off hF rfl rfl hbv_9 rfl fun a hF => step hF (Y.pick_f hF rfl hbv_9 rfl) rfl fun a hF => nT ⟨hF.weak ⟨rfl, rfl, rfl, rfl, rfl, rfl, rfl, rfl, rfl, rfl, (by rw [hbv_9]; rfl), trivial⟩, hS.weak (AL rfl)⟩
 intro a w hF hS
 refine step hF (Y.move hF rfl) rfl fun a hF => join (N := 154) (rs := []) (w0 := w0) (D0 := D0) 6 (us := [(1, iv atv), (2, .pointer (some ⟨bb, 0, none⟩)), (3, .pointer (some ⟨bb_1, 0, none⟩)), (4, .pointer (some ⟨bb_2, 0, none⟩)), (7, .map none), (8, .pointer (some ⟨b_1, 0, none⟩)), (9, .pointer (some ⟨b_3, 0, none⟩)), (10, .pointer (some ⟨b_14, 0, none⟩)), (11, .pointer (some ⟨b_15, 0, none⟩)), (37, .pointer (some ⟨b_4, 0, none⟩)), (58, .bool (((e.Kind == 2) && (e.Who == cv_1)) && (kv.1.Shown != e.Shown)))]) (ms := [(5, .cells b_1 [iv e.Kind, iv e.First, iv e.Count, iv e.Lost, iv e.Who, iv e.Shown] 66), (6, .obj b_2 (.map es clk)), (7, .cells b_3 [.map (some b_2)] 141), (8, .obj b_4 oi_2), (21, .cells b_14 [iv kv.1.Shown, iv kv.1.Last] 57), (22, .cells b_15 [iv kv.2.lost.Low, iv kv.2.lost.High, .slice p_13 kv.2.story.length c_13] 98), (4, .marks [])]) (D' := Dv) ?_ ?_
 ·rcases bcases ((e.Kind == 2) && (e.Who == cv_1)) with hbv_10 | hbv_10
  ·skip
   refine guard_on hF rfl rfl hbv_10 (step hF (Y.fieldAddr fo_57_0 hF rfl) rfl fun a hF => guard_on hF rfl rfl hbv_10 (step hF (Y.load1L 21 sz_3 hF rfl hS rfl rfl) rfl fun a hF => guard_on hF rfl rfl hbv_10 (step hF (Y.fieldAddr fo_66_5 hF rfl) rfl fun a hF => guard_on hF rfl rfl hbv_10 (step hF (Y.load1L 5 sz_3 hF rfl hS rfl rfl) rfl fun a hF => guard_on hF rfl rfl hbv_10 (step hF (Y.neq hF rfl rfl) rfl fun a hF => step hF (Y.pick_t hF rfl hbv_10 rfl) rfl fun a hF => nT ⟨hF.weak ⟨rfl, rfl, rfl, rfl, rfl, rfl, rfl, rfl, rfl, rfl, (by rw [hbv_10]; rfl), trivial⟩, hS.weak (AL rfl)⟩)))))
  refine guard_off hF rfl rfl hbv_10 rfl fun a hF => guard_off hF rfl rfl hbv_10 rfl fun a hF => guard_off hF rfl rfl hbv_10 rfl fun a hF => guard_off hF rfl rfl hbv_10 rfl fun a hF => guard_off hF rfl rfl hbv_10 rfl fun a hF => step hF (Y.pick_f hF rfl hbv_10 rfl) rfl fun a hF => nT ⟨hF.weak ⟨rfl, rfl, rfl, rfl, rfl, rfl, rfl, rfl, rfl, rfl, (by rw [hbv_10]; rfl), trivial⟩, hS.weak (AL rfl)⟩
 intro a w hF hS
 refine step hF (Y.move hF rfl) rfl fun a hF => ?_
 obtain ⟨t, ht, h⟩ := ndet h
 refine join (N := 154) (rs := []) (w0 := w0) (D0 := D0) 6 (us := [(1, iv atv), (2, .pointer (some ⟨bb, 0, none⟩)), (3, .pointer (some ⟨bb_1, 0, none⟩)), (4, .pointer (some ⟨bb_2, 0, none⟩)), (7, .map none), (8, .pointer (some ⟨b_1, 0, none⟩)), (9, .pointer (some ⟨b_3, 0, none⟩)), (10, .pointer (some ⟨b_14, 0, none⟩)), (11, .pointer (some ⟨b_15, 0, none⟩)), (37, .pointer (some ⟨b_4, 0, none⟩)), (65, .bool t)]) (ms := [(5, .cells b_1 [iv e.Kind, iv e.First, iv e.Count, iv e.Lost, iv e.Who, iv e.Shown] 66), (6, .obj b_2 (.map es clk)), (7, .cells b_3 [.map (some b_2)] 141), (8, .obj b_4 oi_2), (21, .cells b_14 [iv kv.1.Shown, iv kv.1.Last] 57), (22, .cells b_15 [iv kv.2.lost.Low, iv kv.2.lost.High, .slice p_13 kv.2.story.length c_13] 98), (4, .marks [])]) (D' := Dv) ?_ ?_
 ·rcases bcases (((e.Kind == 2) && (e.Who == cv_1)) && (kv.1.Shown != e.Shown)) with hbv_11 | hbv_11
  ·skip
   replace h := cond_t ht hbv_11
   refine guard_on hF rfl rfl hbv_11 (step hF (Y.fieldAddr fo_103_1 hF rfl) rfl fun a hF => guard_on hF rfl rfl hbv_11 (step hF (Y.load1H sz_26 hF rfl (hS.old hbv) rfl) rfl fun a hF => guard_on hF rfl rfl hbv_11 (step hF (Y.move hF rfl) rfl fun a hF => guard_on hF rfl rfl hbv_11 ?_)))
   obtain ⟨rv_10, hx_9, h⟩ := bind_some h
   refine O.callP (us := [.slice p_2 cv.without.length c_2, iv atv]) ca_66 hF hS (slices_Contains___int_int__ok hS.stab cv.without atv hs_2 rv_10 hx_9) rfl rfl fun a w hF hS => guard_on hF rfl rfl hbv_11 (step hF (Y.not hF rfl) rfl fun a hF => step hF (Y.pick_t hF rfl hbv_11 rfl) rfl fun a hF => ?_)
   obtain rfl := some_inj h
   exact nT ⟨hF.weak (AF rfl), hS.weak (AL rfl)⟩
  replace h := cond_f ht hbv_11
  refine guard_off hF rfl rfl hbv_11 rfl fun a hF => guard_off hF rfl rfl hbv_11 rfl fun a hF => guard_off hF rfl rfl hbv_11 rfl fun a hF => guard_off hF rfl rfl hbv_11 rfl fun a hF => guard_off hF rfl rfl hbv_11 rfl fun a hF => step hF (Y.pick_f hF rfl hbv_11 rfl) rfl fun a hF => ?_
  obtain rfl := some_inj h
  exact nT ⟨hF.weak (AF rfl), hS.weak (AL rfl)⟩
 intro a w hF hS
 refine nT (cond_b hF rfl (fun hbv_12 => ?_) (fun hbv_12 => ?_))
 ·replace h := ncond_t h hbv_12
  refine exit_ (then_x (blk_hit (then_n (⟨_, nnxt_h h, left_1, mp, Dv, oi_2, es, clk, rfl, hlev, hF.weak (AF rfl), hS.weak (AL rfl), hst.it, hm_2⟩))))
 replace h := ncond_f h hbv_12
 refine skip_ (then_n (seq (region (step hF (Y.fieldAddr fo_98_1 hF rfl) rfl fun a hF => step hF (Y.load1L 22 sz_38 hF rfl hS rfl rfl) rfl fun a hF => step hF (Y.fieldAddr fo_98_1 hF rfl) rfl fun a hF => step hF (Y.load1L 22 sz_38 hF rfl hS rfl rfl) rfl fun a hF => step hF (Y.lenSl u_38 hF rfl) rfl fun a hF => step hF (Y.fieldAddr fo_98_1 hF rfl) rfl fun a hF => step hF (Y.load1L 22 sz_38 hF rfl hS rfl rfl) rfl fun a hF => step hF (Y.lenSl u_38 hF rfl) rfl fun a hF => step hF (Y.slice3 u_38 sz_26 hF rfl rfl rfl hs_13.2) rfl fun a hF => ?_))))
 have hr : Reps (C_sl C_int) Dv [([] : List Int)] [.slice none 0 0] := Reps.cons (C := (C_sl C_int)) (x := ([] : List Int)) (c := [.slice none 0 0]) (r := []) (⟨_, _, rfl, SRc.nil⟩) (Reps.nil)
 refine O.buildSlice (E := 26) (C := (C_sl C_int)) (xs := [([] : List Int)]) (cs := [.slice none 0 0]) (us := [.slice none 0 0]) (parts := [(0, (.const (.slice none 0 0)))]) 23 hF hS rfl (by kernel_rfl) hr rfl rfl rfl fun p_14 c_14 a w hF hS => ?_
 obtain ⟨hg, h⟩ := ngrd h
 refine O.appendS (C := (C_sl C_int)) (xs := kv.2.story) (ys := [([] : List Int)]) 24 gr_38 hF rfl rfl hS ((⟨hs_13.1, Nat.le_refl _⟩ : SRc _ _ _ _ _)).1 (src_own (i := 23) hS rfl) hr (Nat.succ_pos _) hg rfl fun p_15 c_15 cs a w hF hS hr_1 => step hF (Y.fieldAddr fo_98_1 hF rfl) rfl fun a hF => O.store (us := [.slice p_15 (kv.2.story ++ [([] : List Int)]).length c_15]) 22 sz_38 hF rfl rfl rfl rfl hS rfl rfl fun a w hF hS => nT (region (step hF (Y.load1L 7 sz_141 hF rfl hS rfl rfl) rfl fun a hF => step hF (Y.loadNL 21 sz_57 hF rfl hS rfl rfl rfl) rfl fun a hF => step hF (Y.build (parts := [(0, (.tmp 79)), (1, (.const (iv 0)))]) (cs := #[iv kv.1.Shown, iv kv.1.Last, iv 0]) hF rfl (by kernel_rfl)) rfl fun a hF => step hF (Y.loadNL 22 sz_98 hF rfl hS rfl rfl rfl) rfl fun a hF => ?_))
 obtain ⟨Dv_18, hlev_18, hs_14, hS⟩ := hS.freezeC (C := (C_sl C_int)) (i := 24) (xs := (kv.2.story ++ [([] : List Int)])) rfl hr_1
 replace hm_2 := hm_2.mono hlev_18
 replace hst := hst.mono hlev_18
 refine map_putB (kl := kl_143) (C := C_slave_way) (agg := true) (x := (.tmp 78)) (y := (.tmp 80)) (u := (.tmp 81)) (v0 := (slave_way.mk kv.2.lost (kv.2.story ++ [([] : List Int)]))) (cs := [iv kv.2.lost.Low, iv kv.2.lost.High, .slice p_15 (kv.2.story ++ [([] : List Int)]).length c_15]) (.inl rfl) 6 mt_141 (fun _ => rfl) (slave_spot.mk kv.1 0) hm_2 (⟨_, _, rfl, hs_14⟩) hF rfl rfl rfl hS rfl fun es_6 clk_6 a w hF hS hm_16 => nil (blk_n (then_n (⟨_, nnxt_h h, left_1, (mput kl_143 mp (slave_spot.mk kv.1 0) (slave_way.mk kv.2.lost (kv.2.story ++ [([] : List Int)]))), Dv_18, oi_2, es_6, clk_6, rfl, hlev.trans hlev_18, hF.weak (AF rfl), hS.weak (AL rfl), hst.it, hm_16⟩)))
noncomputable def sb1_n : Nat → (List (SlaveStart × slave_way)) → Int → slave_line → Int → ND (List (SlaveStart × slave_way))
 | 0 => fun _ _ _ _ => (fun _ => False : ND (List (SlaveStart × slave_way)))
 | n + 1 => sb1_step (sb1_n n)
theorem sb1_n_ok : ∀ n, ∀ {w0 : World} {D0 : Stab} (hD : D0.on w0) (now : (List (SlaveStart × slave_way))) (atv : Int) (cv : slave_line) (cv_1 : Int) {bm : Option Nat} {p : Option Addr} {c : Nat} {p_1 : Option Addr} {c_1 : Nat} {p_2 : Option Addr} {c_2 : Nat} {bb : Nat} {bb_1 : Nat} {bb_2 : Nat} (hm : MapB kl_57 C_slave_way true D0 now bm) (hs : SRc C_SlaveStart D0 cv.SlaveLine.Starts p c) (hs_1 : SRc C_SlaveEvent D0 cv.SlaveLine.Events p_1 c_1) (hs_2 : SRc C_int D0 cv.without p_2 c_2) (hbv : w0.heap[bb]? = some (.cells ([iv cv.SlaveLine.Ring, .slice p cv.SlaveLine.Starts.length c, .slice p_1 cv.SlaveLine.Events.length c_1, .slice p_2 cv.without.length c_2]).toArray 103 (0, 0))) (hbv_1 : w0.heap[bb_1]? = some (.cells ([iv cv_1]).toArray 3 (0, 0))) (hbv_2 : w0.heap[bb_2]? = some (.cells ([.func (.func 93) #[] #[.pointer (some ⟨bb, 0, none⟩), .pointer (some ⟨bb_1, 0, none⟩), .pointer (some ⟨bb_2, 0, none⟩)]]).toArray 140 (0, 0))) (hG : Glob D0) (out : (List (SlaveStart × slave_way)) → Prop) (h : sb1_n n now atv cv cv_1 out), Calls Tryd.prog 93 [.map bm, iv atv, .pointer (some ⟨bb, 0, none⟩), .pointer (some ⟨bb_1, 0, none⟩), .pointer (some ⟨bb_2, 0, none⟩)].toArray w0 (RetSN D0 w0 out fun (out : (List (SlaveStart × slave_way))) D v => ∃ bm_4, v = .map bm_4 ∧ MapB kl_57 C_slave_way true D out bm_4)
 | 0 => by intros; rename_i h; exact h.elim
 | n + 1 => fun hD => sb1_step_ok (sb1_n n) (sb1_n_ok n) hD
noncomputable def sb1 (now : (List (SlaveStart × slave_way))) (atv : Int) (cv : slave_line) (cv_1 : Int) : ND (List (SlaveStart × slave_way)) := limN fun n => sb1_n n now atv cv cv_1
theorem sb1_ok {w0 : World} {D0 : Stab} (hD : D0.on w0) (now : (List (SlaveStart × slave_way))) (atv : Int) (cv : slave_line) (cv_1 : Int) {bm : Option Nat} {p : Option Addr} {c : Nat} {p_1 : Option Addr} {c_1 : Nat} {p_2 : Option Addr} {c_2 : Nat} {bb : Nat} {bb_1 : Nat} {bb_2 : Nat} (hm : MapB kl_57 C_slave_way true D0 now bm) (hs : SRc C_SlaveStart D0 cv.SlaveLine.Starts p c) (hs_1 : SRc C_SlaveEvent D0 cv.SlaveLine.Events p_1 c_1) (hs_2 : SRc C_int D0 cv.without p_2 c_2) (hbv : w0.heap[bb]? = some (.cells ([iv cv.SlaveLine.Ring, .slice p cv.SlaveLine.Starts.length c, .slice p_1 cv.SlaveLine.Events.length c_1, .slice p_2 cv.without.length c_2]).toArray 103 (0, 0))) (hbv_1 : w0.heap[bb_1]? = some (.cells ([iv cv_1]).toArray 3 (0, 0))) (hbv_2 : w0.heap[bb_2]? = some (.cells ([.func (.func 93) #[] #[.pointer (some ⟨bb, 0, none⟩), .pointer (some ⟨bb_1, 0, none⟩), .pointer (some ⟨bb_2, 0, none⟩)]]).toArray 140 (0, 0))) (hG : Glob D0) (out : (List (SlaveStart × slave_way)) → Prop) (h : sb1 now atv cv cv_1 out) : Calls Tryd.prog 93 [.map bm, iv atv, .pointer (some ⟨bb, 0, none⟩), .pointer (some ⟨bb_1, 0, none⟩), .pointer (some ⟨bb_2, 0, none⟩)].toArray w0 (RetSN D0 w0 out fun (out : (List (SlaveStart × slave_way))) D v => ∃ bm_4, v = .map bm_4 ∧ MapB kl_57 C_slave_way true D out bm_4) := by
 obtain ⟨n, hfu_⟩ := limN_some h
 exact sb1_n_ok n hD now atv cv cv_1 hm hs hs_1 hs_2 hbv hbv_1 hbv_2 hG out hfu_
end Go.Proofs.YtmbgmefmkjeahaaDoor.Rt
