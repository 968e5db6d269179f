/- Walks of the functions of this seat: what each Go function comes to, as a Lean function, and the proof. Part WB2. Under no conditions. -/
import Derived.Test.YthdbokigcfbgeaaDoorC14WB1
set_option linter.unusedVariables false
set_option linter.unusedSimpArgs false
set_option maxRecDepth 100000
set_option maxHeartbeats 4000000
namespace Go.Proofs.YthdbokigcfbgeaaDoor.Rt
open Go Go.RowKit
noncomputable def cmp_isNaN_int_ (xv : Int) : Option Bool :=
  some (xv != xv)
theorem cmp_isNaN_int__ok {w0 : World} {D0 : Stab} (hD : D0.on w0) (xv : Int) (out : Bool) (h : cmp_isNaN_int_ xv = some out) : Calls Tryd.prog 91 [.int .i64 xv].toArray w0 (RetP D0 w0 (.bool out)) := by
 refine enter _ 6 Tryd.func91 rfl Tryd.ntmps91 rfl fun a hF => ?_
 replace hF : Frm 6 [] [(0, .int .i64 xv)] a := hF
 have hS := St.start hD
 unfold cmp_isNaN_int_ at h
 refine seq (region (step hF (Y.assign hF rfl) rfl fun a hF => nil (then_n (seq (region (step hF (Y.move hF rfl) rfl fun a hF => step hF (Y.move hF rfl) rfl fun a hF => step hF (Y.neq hF rfl rfl) rfl fun a hF => step hF (Y.assign hF rfl) rfl fun a hF => nil (then_n (ret_ ?_))))))))
 obtain rfl := some_inj h
 exact leaveP Tryd.results91 hF hS (.cons (.tmp rfl) .nil) .nil rfl
theorem cmp_isNaN_int__q {w0 : World} {D0 : Stab} (hD : D0.on w0) (xv : Int) (out : Bool) (h : cmp_isNaN_int_ xv = some out) : Calls Tryd.prog 91 [.int .i64 xv].toArray w0 (RetQ w0 (.bool out)) := by
 refine enter _ 6 Tryd.func91 rfl Tryd.ntmps91 rfl fun a hF => ?_
 replace hF : Frm 6 [] [(0, .int .i64 xv)] a := hF
 have hS := St.start hD
 unfold cmp_isNaN_int_ at h
 refine seq (region (step hF (Y.assign hF rfl) rfl fun a hF => nil (then_n (seq (region (step hF (Y.move hF rfl) rfl fun a hF => step hF (Y.move hF rfl) rfl fun a hF => step hF (Y.neq hF rfl rfl) rfl fun a hF => step hF (Y.assign hF rfl) rfl fun a hF => nil (then_n (ret_ ?_))))))))
 obtain rfl := some_inj h
 exact leaveQ Tryd.results91 hF hS (.cons (.tmp rfl) .nil) rfl
noncomputable def cmp_Compare_int_ (xv : Int) (y : Int) : Option Int :=
  (cmp_isNaN_int_ xv).bind fun rv =>
  (cmp_isNaN_int_ y).bind fun rv_1 =>
  cond rv
  (cond rv_1
  (some 0)
  (some (-1)))
  (cond rv_1
  (some 1)
  (cond (decide (xv < y))
  (some (-1))
  (cond (decide (xv > y))
  (some 1)
  (some 0))))
theorem cmp_Compare_int__ok {w0 : World} {D0 : Stab} (hD : D0.on w0) (xv : Int) (y : Int) (out : Int) (h : cmp_Compare_int_ xv y = some out) : Calls Tryd.prog 74 [.int .i64 xv, .int .i64 y].toArray w0 (RetP D0 w0 (.int .i64 out)) := by
 refine enter _ 20 Tryd.func74 rfl Tryd.ntmps74 rfl fun a hF => ?_
 replace hF : Frm 20 [] [(0, .int .i64 xv), (1, .int .i64 y)] a := hF
 have hS := St.start hD
 unfold cmp_Compare_int_ at h
 refine seq (region (step hF (Y.assign hF rfl) rfl fun a hF => nil (then_n (seq (region (step hF (Y.move hF rfl) rfl fun a hF => ?_))))))
 obtain ⟨rv, hx, h⟩ := bind_some h
 refine O.callP (us := [.int .i64 xv]) ca_91 hF hS (cmp_isNaN_int__ok hS.stab xv rv hx) rfl rfl fun a w hF hS => step hF (Y.assign hF rfl) rfl fun a hF => nil (then_n (seq (region (step hF (Y.move hF rfl) rfl fun a hF => ?_))))
 obtain ⟨rv_1, hx_1, h⟩ := bind_some h
 refine O.callP (us := [.int .i64 y]) ca_91 hF hS (cmp_isNaN_int__ok hS.stab y rv_1 hx_1) rfl rfl fun a w hF hS => step hF (Y.assign hF rfl) rfl fun a hF => nil (then_n (seq (seq (region (step hF (Y.move hF rfl) rfl fun a hF => nil (then_n (cond_b hF rfl (fun hbv => ?_) (fun hbv => ?_))))))))
 ·replace h := cond_t h hbv
  refine seq (seq (region (step hF (Y.move hF rfl) rfl fun a hF => nil (then_n (cond_b hF rfl (fun hbv_1 => ?_) (fun hbv_1 => ?_))))))
  ·replace h := cond_t h hbv_1
   refine seq (region (step hF (Y.assign hF rfl) rfl fun a hF => nil (then_n (ret_ (then_r (then_r ?_))))))
   obtain rfl := some_inj h
   exact leaveP Tryd.results74 hF hS (.cons (.tmp rfl) .nil) .nil rfl
  replace h := cond_f h hbv_1
  refine skip_ (then_n (seq (region (step hF (Y.assign hF rfl) rfl fun a hF => nil (then_n (ret_ (then_r ?_)))))))
  obtain rfl := some_inj h
  exact leaveP Tryd.results74 hF hS (.cons (.tmp rfl) .nil) .nil rfl
 replace h := cond_f h hbv
 refine skip_ (then_n (seq (seq (region (step hF (Y.move hF rfl) rfl fun a hF => nil (then_n (cond_b hF rfl (fun hbv_2 => ?_) (fun hbv_2 => ?_))))))))
 ·replace h := cond_t h hbv_2
  refine seq (region (step hF (Y.assign hF rfl) rfl fun a hF => nil (then_n (ret_ (then_r ?_)))))
  obtain rfl := some_inj h
  exact leaveP Tryd.results74 hF hS (.cons (.tmp rfl) .nil) .nil rfl
 replace h := cond_f h hbv_2
 refine skip_ (then_n (seq (seq (region (step hF (Y.move hF rfl) rfl fun a hF => step hF (Y.move hF rfl) rfl fun a hF => step hF (Y.lss hF rfl rfl) rfl fun a hF => nil (then_n (cond_b hF rfl (fun hbv_3 => ?_) (fun hbv_3 => ?_))))))))
 ·replace h := cond_t h hbv_3
  refine seq (region (step hF (Y.assign hF rfl) rfl fun a hF => nil (then_n (ret_ (then_r ?_)))))
  obtain rfl := some_inj h
  exact leaveP Tryd.results74 hF hS (.cons (.tmp rfl) .nil) .nil rfl
 replace h := cond_f h hbv_3
 refine skip_ (then_n (seq (seq (region (step hF (Y.move hF rfl) rfl fun a hF => step hF (Y.move hF rfl) rfl fun a hF => step hF (Y.gtr hF rfl rfl) rfl fun a hF => nil (then_n (cond_b hF rfl (fun hbv_4 => ?_) (fun hbv_4 => ?_))))))))
 ·replace h := cond_t h hbv_4
  refine seq (region (step hF (Y.assign hF rfl) rfl fun a hF => nil (then_n (ret_ (then_r ?_)))))
  obtain rfl := some_inj h
  exact leaveP Tryd.results74 hF hS (.cons (.tmp rfl) .nil) .nil rfl
 replace h := cond_f h hbv_4
 refine skip_ (then_n (seq (region (step hF (Y.assign hF rfl) rfl fun a hF => nil (then_n (ret_ ?_))))))
 obtain rfl := some_inj h
 exact leaveP Tryd.results74 hF hS (.cons (.tmp rfl) .nil) .nil rfl
theorem cmp_Compare_int__q {w0 : World} {D0 : Stab} (hD : D0.on w0) (xv : Int) (y : Int) (out : Int) (h : cmp_Compare_int_ xv y = some out) : Calls Tryd.prog 74 [.int .i64 xv, .int .i64 y].toArray w0 (RetQ w0 (.int .i64 out)) := by
 refine enter _ 20 Tryd.func74 rfl Tryd.ntmps74 rfl fun a hF => ?_
 replace hF : Frm 20 [] [(0, .int .i64 xv), (1, .int .i64 y)] a := hF
 have hS := St.start hD
 unfold cmp_Compare_int_ at h
 refine seq (region (step hF (Y.assign hF rfl) rfl fun a hF => nil (then_n (seq (region (step hF (Y.move hF rfl) rfl fun a hF => ?_))))))
 obtain ⟨rv, hx, h⟩ := bind_some h
 refine O.callQ (us := [.int .i64 xv]) ca_91 hF (cmp_isNaN_int__q hS.stab xv rv hx) rfl rfl fun a hF => step hF (Y.assign hF rfl) rfl fun a hF => nil (then_n (seq (region (step hF (Y.move hF rfl) rfl fun a hF => ?_))))
 obtain ⟨rv_1, hx_1, h⟩ := bind_some h
 refine O.callQ (us := [.int .i64 y]) ca_91 hF (cmp_isNaN_int__q hS.stab y rv_1 hx_1) rfl rfl fun a hF => step hF (Y.assign hF rfl) rfl fun a hF => nil (then_n (seq (seq (region (step hF (Y.move hF rfl) rfl fun a hF => nil (then_n (cond_b hF rfl (fun hbv => ?_) (fun hbv => ?_))))))))
 ·replace h := cond_t h hbv
  refine seq (seq (region (step hF (Y.move hF rfl) rfl fun a hF => nil (then_n (cond_b hF rfl (fun hbv_1 => ?_) (fun hbv_1 => ?_))))))
  ·replace h := cond_t h hbv_1
   refine seq (region (step hF (Y.assign hF rfl) rfl fun a hF => nil (then_n (ret_ (then_r (then_r ?_))))))
   obtain rfl := some_inj h
   exact leaveQ Tryd.results74 hF hS (.cons (.tmp rfl) .nil) rfl
  replace h := cond_f h hbv_1
  refine skip_ (then_n (seq (region (step hF (Y.assign hF rfl) rfl fun a hF => nil (then_n (ret_ (then_r ?_)))))))
  obtain rfl := some_inj h
  exact leaveQ Tryd.results74 hF hS (.cons (.tmp rfl) .nil) rfl
 replace h := cond_f h hbv
 refine skip_ (then_n (seq (seq (region (step hF (Y.move hF rfl) rfl fun a hF => nil (then_n (cond_b hF rfl (fun hbv_2 => ?_) (fun hbv_2 => ?_))))))))
 ·replace h := cond_t h hbv_2
  refine seq (region (step hF (Y.assign hF rfl) rfl fun a hF => nil (then_n (ret_ (then_r ?_)))))
  obtain rfl := some_inj h
  exact leaveQ Tryd.results74 hF hS (.cons (.tmp rfl) .nil) rfl
 replace h := cond_f h hbv_2
 refine skip_ (then_n (seq (seq (region (step hF (Y.move hF rfl) rfl fun a hF => step hF (Y.move hF rfl) rfl fun a hF => step hF (Y.lss hF rfl rfl) rfl fun a hF => nil (then_n (cond_b hF rfl (fun hbv_3 => ?_) (fun hbv_3 => ?_))))))))
 ·replace h := cond_t h hbv_3
  refine seq (region (step hF (Y.assign hF rfl) rfl fun a hF => nil (then_n (ret_ (then_r ?_)))))
  obtain rfl := some_inj h
  exact leaveQ Tryd.results74 hF hS (.cons (.tmp rfl) .nil) rfl
 replace h := cond_f h hbv_3
 refine skip_ (then_n (seq (seq (region (step hF (Y.move hF rfl) rfl fun a hF => step hF (Y.move hF rfl) rfl fun a hF => step hF (Y.gtr hF rfl rfl) rfl fun a hF => nil (then_n (cond_b hF rfl (fun hbv_4 => ?_) (fun hbv_4 => ?_))))))))
 ·replace h := cond_t h hbv_4
  refine seq (region (step hF (Y.assign hF rfl) rfl fun a hF => nil (then_n (ret_ (then_r ?_)))))
  obtain rfl := some_inj h
  exact leaveQ Tryd.results74 hF hS (.cons (.tmp rfl) .nil) rfl
 replace h := cond_f h hbv_4
 refine skip_ (then_n (seq (region (step hF (Y.assign hF rfl) rfl fun a hF => nil (then_n (ret_ ?_))))))
 obtain rfl := some_inj h
 exact leaveQ Tryd.results74 hF hS (.cons (.tmp rfl) .nil) rfl
noncomputable def slices_Compare___int_int__b1 (s1_0 : (List Int)) (s2_0 : (List Int)) : (Int × Int) → Option ((Int × Int) ⊕ Int)
 | (v4_0, v11_0) =>
  cond (decide (v11_0 < (s1_0.length : Int)))
  ((idx s1_0 v11_0).bind fun e =>
  cond (decide (v11_0 ≥ (s2_0.length : Int)))
  (ext (some 1))
  ((idx s2_0 v11_0).bind fun e_1 =>
  (cmp_Compare_int_ e e_1).bind fun rv =>
  cond (rv != 0)
  (ext (some rv))
  (nxt (v4_0, wr (v11_0 + 1)))))
  (ext (cond (decide ((s1_0.length : Int) < (s2_0.length : Int)))
  (some (-1))
  (some 0)))
noncomputable def slices_Compare___int_int_ (s1_0 : (List Int)) (s2_0 : (List Int)) : Option Int :=
  loopU (slices_Compare___int_int__b1 s1_0 s2_0) (0, 0)
theorem slices_Compare___int_int__ok {w0 : World} {D0 : Stab} (hD : D0.on w0) (s1_0 : (List Int)) (s2_0 : (List Int)) {p : Option Addr} {c : Nat} {p_1 : Option Addr} {c_1 : Nat} (hs : SRc C_int D0 s1_0 p c) (hs_1 : SRc C_int D0 s2_0 p_1 c_1) (out : Int) (h : slices_Compare___int_int_ s1_0 s2_0 = some out) : Calls Tryd.prog 75 [.slice p s1_0.length c, .slice p_1 s2_0.length c_1].toArray w0 (RetP D0 w0 (.int .i64 out)) := by
 refine enter _ 36 Tryd.func75 rfl Tryd.ntmps75 rfl fun a hF => ?_
 replace hF : Frm 36 [] [(0, .slice p s1_0.length c), (1, .slice p_1 s2_0.length c_1)] a := hF
 have hS := St.start hD
 unfold slices_Compare___int_int_ at h
 refine seq (region (step hF (Y.assign hF rfl) rfl fun a hF => nil (then_n (seq (seq (region (step hF (Y.move hF rfl) rfl fun a hF => step hF (Y.lenSl u_32 hF rfl) rfl fun a hF => step hF (Y.move hF rfl) rfl fun a hF => nil (then_n (block (loop_cut (body := slices_Compare___int_int__b1 s1_0 s2_0) (out := out) (fun s a w => ∃ (v4_0 : Int) (v11_0 : Int), s = (v4_0, v11_0) ∧ Frm 36 [] [(0, .slice p s1_0.length c), (1, .slice p_1 s2_0.length c_1), (4, .int .i64 v4_0), (9, .slice p s1_0.length c), (10, .int .i64 (s1_0.length : Int)), (11, .int .i64 v11_0)] a ∧ St w0 D0 D0 [] w) (0, 0) h ⟨0, 0, rfl, hF.weak ⟨rfl, rfl, rfl, rfl, rfl, rfl, trivial⟩, hS.weak trivial⟩ ?_))))))))))
 rintro s a w xo ⟨v4_0, v11_0, rfl, hF, hS⟩ h hxo
 unfold slices_Compare___int_int__b1 at h
 dsimp only at h
 refine seq (region (step hF (Y.lss hF rfl rfl) rfl fun a hF => nil (then_n (seq (cond_b hF rfl (fun hbv => ?_) (fun hbv => ?_))))))
 ·replace h := cond_t h hbv
  refine skip_ (then_n (seq (block (seq (region (step hF (Y.move hF rfl) rfl fun a hF => ?_))))))
  obtain ⟨e, hx, h⟩ := bind_some h
  obtain ⟨b, o, hE, hY⟩ := Y.indexS (P := Tryd.prog) (C := C_int) (xs := s1_0) (T := 32) (x := (.tmp 9)) (y := (.tmp 11)) u_32 sz_3 hF rfl rfl (hs).1 hx
  obtain ⟨cc, hc, hcell⟩ := hE.open
  obtain rfl := hc
  refine step hF (hY) rfl fun a hF => step hF (Y.load1 sz_3 hF rfl (hcell _ hS.stab 0 _ rfl)) rfl fun a hF => step hF (Y.assign hF rfl) rfl fun a hF => step hF (Y.assign hF rfl) rfl fun a hF => nil (then_n (seq (seq (region (step hF (Y.move hF rfl) rfl fun a hF => step hF (Y.move hF rfl) rfl fun a hF => step hF (Y.lenSl u_32 hF rfl) rfl fun a hF => step hF (Y.geq hF rfl rfl) rfl fun a hF => nil (then_n (cond_b hF rfl (fun hbv_1 => ?_) (fun hbv_1 => ?_))))))))
  ·replace h := cond_t h hbv_1
   refine seq (region (step hF (Y.assign hF rfl) rfl fun a hF => nil (then_n (ret_ (then_r (blk_r (then_r (then_r (blk_r (then_r ?_))))))))))
   replace h := ext_some h hxo
   obtain rfl := some_inj h
   exact leaveP Tryd.results75 hF hS (.cons (.tmp rfl) .nil) .nil rfl
  replace h := cond_f h hbv_1
  refine skip_ (then_n (seq (region (step hF (Y.move hF rfl) rfl fun a hF => step hF (Y.move hF rfl) rfl fun a hF => ?_))))
  obtain ⟨e_1, hx_1, h⟩ := bind_some h
  obtain ⟨b_1, o_1, hE_1, hY_1⟩ := Y.indexS (P := Tryd.prog) (C := C_int) (xs := s2_0) (T := 32) (x := (.tmp 20)) (y := (.tmp 21)) u_32 sz_3 hF rfl rfl (hs_1).1 hx_1
  obtain ⟨cc_1, hc_1, hcell_1⟩ := hE_1.open
  obtain rfl := hc_1
  refine step hF (hY_1) rfl fun a hF => step hF (Y.load1 sz_3 hF rfl (hcell_1 _ hS.stab 0 _ rfl)) rfl fun a hF => step hF (Y.assign hF rfl) rfl fun a hF => nil (then_n (seq (region (step hF (Y.move hF rfl) rfl fun a hF => step hF (Y.move hF rfl) rfl fun a hF => ?_))))
  obtain ⟨rv, hx_2, h⟩ := bind_some h
  refine O.callP (us := [.int .i64 e, .int .i64 e_1]) ca_74 hF hS (cmp_Compare_int__ok hS.stab e e_1 rv hx_2) rfl rfl fun a w hF hS => step hF (Y.assign hF rfl) rfl fun a hF => nil (then_n (seq (region (step hF (Y.move hF rfl) rfl fun a hF => step hF (Y.neq hF rfl rfl) rfl fun a hF => nil (then_n (cond_b hF rfl (fun hbv_2 => ?_) (fun hbv_2 => ?_)))))))
  ·replace h := cond_t h hbv_2
   refine seq (region (step hF (Y.move hF rfl) rfl fun a hF => step hF (Y.assign hF rfl) rfl fun a hF => nil (then_n (ret_ (blk_r (then_r (then_r (blk_r (then_r ?_)))))))))
   replace h := ext_some h hxo
   obtain rfl := some_inj h
   exact leaveP Tryd.results75 hF hS (.cons (.tmp rfl) .nil) .nil rfl
  replace h := cond_f h hbv_2
  refine skip_ (blk_n (then_n (region (step hF (Y.add hF rfl rfl) rfl fun a hF => step hF (Y.move hF rfl) rfl fun a hF => nil (then_n (⟨_, nxt_some h, v4_0, (wr (v11_0 + 1)), rfl, hF.weak ⟨rfl, rfl, rfl, rfl, rfl, rfl, trivial⟩, hS.weak trivial⟩))))))
 replace h := cond_f h hbv
 refine exit_ (then_x (then_x (blk_hit (then_n ?_))))
 replace h := ext_some h hxo
 refine seq (seq (region (step hF (Y.move hF rfl) rfl fun a hF => step hF (Y.lenSl u_32 hF rfl) rfl fun a hF => step hF (Y.move hF rfl) rfl fun a hF => step hF (Y.lenSl u_32 hF rfl) rfl fun a hF => step hF (Y.lss hF rfl rfl) rfl fun a hF => nil (then_n (cond_b hF rfl (fun hbv_3 => ?_) (fun hbv_3 => ?_))))))
 ·replace h := cond_t h hbv_3
  refine seq (region (step hF (Y.assign hF rfl) rfl fun a hF => nil (then_n (ret_ (then_r ?_)))))
  obtain rfl := some_inj h
  exact leaveP Tryd.results75 hF hS (.cons (.tmp rfl) .nil) .nil rfl
 replace h := cond_f h hbv_3
 refine skip_ (then_n (seq (region (step hF (Y.assign hF rfl) rfl fun a hF => nil (then_n (ret_ ?_))))))
 obtain rfl := some_inj h
 exact leaveP Tryd.results75 hF hS (.cons (.tmp rfl) .nil) .nil rfl
theorem slices_Compare___int_int__q {w0 : World} {D0 : Stab} (hD : D0.on w0) (s1_0 : (List Int)) (s2_0 : (List Int)) {p : Option Addr} {c : Nat} {p_1 : Option Addr} {c_1 : Nat} (hs : SRc C_int D0 s1_0 p c) (hs_1 : SRc C_int D0 s2_0 p_1 c_1) (out : Int) (h : slices_Compare___int_int_ s1_0 s2_0 = some out) : Calls Tryd.prog 75 [.slice p s1_0.length c, .slice p_1 s2_0.length c_1].toArray w0 (RetQ w0 (.int .i64 out)) := by
 refine enter _ 36 Tryd.func75 rfl Tryd.ntmps75 rfl fun a hF => ?_
 replace hF : Frm 36 [] [(0, .slice p s1_0.length c), (1, .slice p_1 s2_0.length c_1)] a := hF
 have hS := St.start hD
 unfold slices_Compare___int_int_ at h
 refine seq (region (step hF (Y.assign hF rfl) rfl fun a hF => nil (then_n (seq (seq (region (step hF (Y.move hF rfl) rfl fun a hF => step hF (Y.lenSl u_32 hF rfl) rfl fun a hF => step hF (Y.move hF rfl) rfl fun a hF => nil (then_n (block (loop_cut (body := slices_Compare___int_int__b1 s1_0 s2_0) (out := out) (fun s a w => ∃ (v4_0 : Int) (v11_0 : Int), s = (v4_0, v11_0) ∧ Frm 36 [] [(0, .slice p s1_0.length c), (1, .slice p_1 s2_0.length c_1), (4, .int .i64 v4_0), (9, .slice p s1_0.length c), (10, .int .i64 (s1_0.length : Int)), (11, .int .i64 v11_0)] a ∧ St w0 D0 D0 [] w ∧ w = w0) (0, 0) h ⟨0, 0, rfl, hF.weak ⟨rfl, rfl, rfl, rfl, rfl, rfl, trivial⟩, hS.weak trivial, rfl⟩ ?_))))))))))
 rintro s a w xo ⟨v4_0, v11_0, rfl, hF, hS, hw_⟩ h hxo
 subst hw_
 unfold slices_Compare___int_int__b1 at h
 dsimp only at h
 refine seq (region (step hF (Y.lss hF rfl rfl) rfl fun a hF => nil (then_n (seq (cond_b hF rfl (fun hbv => ?_) (fun hbv => ?_))))))
 ·replace h := cond_t h hbv
  refine skip_ (then_n (seq (block (seq (region (step hF (Y.move hF rfl) rfl fun a hF => ?_))))))
  obtain ⟨e, hx, h⟩ := bind_some h
  obtain ⟨b, o, hE, hY⟩ := Y.indexS (P := Tryd.prog) (C := C_int) (xs := s1_0) (T := 32) (x := (.tmp 9)) (y := (.tmp 11)) u_32 sz_3 hF rfl rfl (hs).1 hx
  obtain ⟨cc, hc, hcell⟩ := hE.open
  obtain rfl := hc
  refine step hF (hY) rfl fun a hF => step hF (Y.load1 sz_3 hF rfl (hcell _ hS.stab 0 _ rfl)) rfl fun a hF => step hF (Y.assign hF rfl) rfl fun a hF => step hF (Y.assign hF rfl) rfl fun a hF => nil (then_n (seq (seq (region (step hF (Y.move hF rfl) rfl fun a hF => step hF (Y.move hF rfl) rfl fun a hF => step hF (Y.lenSl u_32 hF rfl) rfl fun a hF => step hF (Y.geq hF rfl rfl) rfl fun a hF => nil (then_n (cond_b hF rfl (fun hbv_1 => ?_) (fun hbv_1 => ?_))))))))
  ·replace h := cond_t h hbv_1
   refine seq (region (step hF (Y.assign hF rfl) rfl fun a hF => nil (then_n (ret_ (then_r (blk_r (then_r (then_r (blk_r (then_r ?_))))))))))
   replace h := ext_some h hxo
   obtain rfl := some_inj h
   exact leaveQ Tryd.results75 hF hS (.cons (.tmp rfl) .nil) rfl
  replace h := cond_f h hbv_1
  refine skip_ (then_n (seq (region (step hF (Y.move hF rfl) rfl fun a hF => step hF (Y.move hF rfl) rfl fun a hF => ?_))))
  obtain ⟨e_1, hx_1, h⟩ := bind_some h
  obtain ⟨b_1, o_1, hE_1, hY_1⟩ := Y.indexS (P := Tryd.prog) (C := C_int) (xs := s2_0) (T := 32) (x := (.tmp 20)) (y := (.tmp 21)) u_32 sz_3 hF rfl rfl (hs_1).1 hx_1
  obtain ⟨cc_1, hc_1, hcell_1⟩ := hE_1.open
  obtain rfl := hc_1
  refine step hF (hY_1) rfl fun a hF => step hF (Y.load1 sz_3 hF rfl (hcell_1 _ hS.stab 0 _ rfl)) rfl fun a hF => step hF (Y.assign hF rfl) rfl fun a hF => nil (then_n (seq (region (step hF (Y.move hF rfl) rfl fun a hF => step hF (Y.move hF rfl) rfl fun a hF => ?_))))
  obtain ⟨rv, hx_2, h⟩ := bind_some h
  refine O.callQ (us := [.int .i64 e, .int .i64 e_1]) ca_74 hF (cmp_Compare_int__q hS.stab e e_1 rv hx_2) rfl rfl fun a hF => step hF (Y.assign hF rfl) rfl fun a hF => nil (then_n (seq (region (step hF (Y.move hF rfl) rfl fun a hF => step hF (Y.neq hF rfl rfl) rfl fun a hF => nil (then_n (cond_b hF rfl (fun hbv_2 => ?_) (fun hbv_2 => ?_)))))))
  ·replace h := cond_t h hbv_2
   refine seq (region (step hF (Y.move hF rfl) rfl fun a hF => step hF (Y.assign hF rfl) rfl fun a hF => nil (then_n (ret_ (blk_r (then_r (then_r (blk_r (then_r ?_)))))))))
   replace h := ext_some h hxo
   obtain rfl := some_inj h
   exact leaveQ Tryd.results75 hF hS (.cons (.tmp rfl) .nil) rfl
  replace h := cond_f h hbv_2
  refine skip_ (blk_n (then_n (region (step hF (Y.add hF rfl rfl) rfl fun a hF => step hF (Y.move hF rfl) rfl fun a hF => nil (then_n (⟨_, nxt_some h, v4_0, (wr (v11_0 + 1)), rfl, hF.weak ⟨rfl, rfl, rfl, rfl, rfl, rfl, trivial⟩, hS.weak trivial, rfl⟩))))))
 replace h := cond_f h hbv
 refine exit_ (then_x (then_x (blk_hit (then_n ?_))))
 replace h := ext_some h hxo
 refine seq (seq (region (step hF (Y.move hF rfl) rfl fun a hF => step hF (Y.lenSl u_32 hF rfl) rfl fun a hF => step hF (Y.move hF rfl) rfl fun a hF => step hF (Y.lenSl u_32 hF rfl) rfl fun a hF => step hF (Y.lss hF rfl rfl) rfl fun a hF => nil (then_n (cond_b hF rfl (fun hbv_3 => ?_) (fun hbv_3 => ?_))))))
 ·replace h := cond_t h hbv_3
  refine seq (region (step hF (Y.assign hF rfl) rfl fun a hF => nil (then_n (ret_ (then_r ?_)))))
  obtain rfl := some_inj h
  exact leaveQ Tryd.results75 hF hS (.cons (.tmp rfl) .nil) rfl
 replace h := cond_f h hbv_3
 refine skip_ (then_n (seq (region (step hF (Y.assign hF rfl) rfl fun a hF => nil (then_n (ret_ ?_))))))
 obtain rfl := some_inj h
 exact leaveQ Tryd.results75 hF hS (.cons (.tmp rfl) .nil) rfl
def sort_ren_90 : Go.Shelf.Ren := ⟨fun | 6 => 90 | 14 => 99 | 15 => 100 | 20 => 101 | 21 => 102 | 22 => 103 | 23 => 104 | 24 => 105 | 25 => 106 | 26 => 107 | 27 => 108 | 28 => 109 | 29 => 110 | 46 => 111 | 47 => 112 | 48 => 113 | 49 => 114 | 50 => 115 | 57 => 116 | n => n, fun | 0 => 0 | 3 => 3 | 4 => 4 | 5 => 5 | 9 => 9 | 22 => 26 | 24 => 32 | 25 => 93 | 39 => 125 | 45 => 127 | 46 => 128 | 50 => 132 | 53 => 135 | 55 => 137 | 66 => 138 | 70 => 142 | 76 => 144 | 77 => 145 | n => n, fun  | n => n⟩
theorem sort_lay_90 : SlLaysF.n6 Tryd.prog sort_ren_90 where
 mixed := by kernel_rfl
 f6 := ⟨Tryd.f90.name, by decide, Tryd.func90.trans (congrArg some (by kernel_rfl))⟩
 f14 := ⟨Tryd.f99.name, by decide, Tryd.func99.trans (congrArg some (by kernel_rfl))⟩
 f15 := Tryd.func100.trans (congrArg some (by kernel_rfl))
 f20 := ⟨Tryd.f101.name, by decide, Tryd.func101.trans (congrArg some (by kernel_rfl))⟩
 f21 := ⟨Tryd.f102.name, by decide, Tryd.func102.trans (congrArg some (by kernel_rfl))⟩
 f22 := ⟨Tryd.f103.name, by decide, Tryd.func103.trans (congrArg some (by kernel_rfl))⟩
 f23 := ⟨Tryd.f104.name, by decide, Tryd.func104.trans (congrArg some (by kernel_rfl))⟩
 f24 := ⟨Tryd.f105.name, by decide, Tryd.func105.trans (congrArg some (by kernel_rfl))⟩
 f25 := ⟨Tryd.f106.name, by decide, Tryd.func106.trans (congrArg some (by kernel_rfl))⟩
 f26 := ⟨Tryd.f107.name, by decide, Tryd.func107.trans (congrArg some (by kernel_rfl))⟩
 f27 := ⟨Tryd.f108.name, by decide, Tryd.func108.trans (congrArg some (by kernel_rfl))⟩
 f28 := Tryd.func109.trans (congrArg some (by kernel_rfl))
 f29 := Tryd.func110.trans (congrArg some (by kernel_rfl))
 f46 := ⟨Tryd.f111.name, by decide, Tryd.func111.trans (congrArg some (by kernel_rfl))⟩
 f47 := Tryd.func112.trans (congrArg some (by kernel_rfl))
 f48 := Tryd.func113.trans (congrArg some (by kernel_rfl))
 f49 := ⟨Tryd.f114.name, by decide, Tryd.func114.trans (congrArg some (by kernel_rfl))⟩
 f50 := ⟨Tryd.f115.name, by decide, Tryd.func115.trans (congrArg some (by kernel_rfl))⟩
 f57 := ⟨Tryd.f116.name, by decide, Tryd.func116.trans (congrArg some (by kernel_rfl))⟩
 t0 := Tryd.underlying0
 a0 := Tryd.isAgg0
 z0 := Tryd.sizeOf0
 v0 := Tryd.zeroValue0
 t3 := Tryd.underlying3
 a3 := Tryd.isAgg3
 z3 := Tryd.sizeOf3
 v3 := Tryd.zeroValue3
 t4 := Tryd.underlying4
 a4 := Tryd.isAgg4
 z4 := Tryd.sizeOf4
 v4 := Tryd.zeroValue4
 t5 := Tryd.underlying5
 a5 := Tryd.isAgg5
 z5 := Tryd.sizeOf5
 v5 := Tryd.zeroValue5
 t9 := Tryd.underlying9
 a9 := Tryd.isAgg9
 z9 := Tryd.sizeOf9
 v9 := Tryd.zeroValue9
 t22 := Tryd.underlying26
 a22 := Tryd.isAgg26
 z22 := Tryd.sizeOf26
 v22 := Tryd.zeroValue26
 a24 := Tryd.isAgg32
 z24 := Tryd.sizeOf32
 t25 := Tryd.underlying93
 a25 := Tryd.isAgg93
 z25 := Tryd.sizeOf93
 v25 := Tryd.zeroValue93
 t39 := Tryd.underlying125
 a39 := Tryd.isAgg125
 z39 := Tryd.sizeOf125
 v39 := Tryd.zeroValue125
 t45 := Tryd.underlying127
 a45 := Tryd.isAgg127
 z45 := Tryd.sizeOf127
 v45 := Tryd.zeroValue127
 t46 := Tryd.underlying128
 a46 := Tryd.isAgg128
 z46 := Tryd.sizeOf128
 v46 := Tryd.zeroValue128
 t50 := Tryd.underlying132
 a50 := Tryd.isAgg132
 z50 := Tryd.sizeOf132
 v50 := Tryd.zeroValue132
 t53 := Tryd.underlying135
 a53 := Tryd.isAgg135
 z53 := Tryd.sizeOf135
 v53 := Tryd.zeroValue135
 t55 := Tryd.underlying137
 a55 := Tryd.isAgg137
 z55 := Tryd.sizeOf137
 v55 := Tryd.zeroValue137
 t66 := Tryd.underlying138
 a66 := Tryd.isAgg138
 z66 := Tryd.sizeOf138
 v66 := Tryd.zeroValue138
 t70 := Tryd.underlying142
 a70 := Tryd.isAgg142
 z70 := Tryd.sizeOf142
 v70 := Tryd.zeroValue142
 t76 := Tryd.underlying144
 a76 := Tryd.isAgg144
 z76 := Tryd.sizeOf144
 v76 := Tryd.zeroValue144
 t77 := Tryd.underlying145
 a77 := Tryd.isAgg145
 z77 := Tryd.sizeOf145
 v77 := Tryd.zeroValue145
theorem cmp_Compare_int__eq (x y : Int) : cmp_Compare_int_ x y = some (if x < y then -1 else if x > y then 1 else 0) := by
 have e : ∀ a : Int, cmp_isNaN_int_ a = some false := fun a => by simp [cmp_isNaN_int_]
 simp only [cmp_Compare_int_, e, Option.bind_some, cond_false]
 by_cases h1 : x < y
 ·simp [h1]
 by_cases h2 : y < x <;> simp [h1, h2]
theorem slices_Compare___int_int__eq (a b : List Int) (ha : a.length ≤ lim) (hb : b.length ≤ lim) : slices_Compare___int_int_ a b = some (cmpL a b) := by
 have key : ∀ (n i : Nat) (v : Int), i + n = a.length → i ≤ b.length → loopU (slices_Compare___int_int__b1 a b) (v, (i : Int)) = some (cmpL (a.drop i) (b.drop i)) := by
  intro n
  induction n with
  | zero =>
   intro i v hi hib
   refine loopU_ext ?_
   simp only [slices_Compare___int_int__b1]
   rw [show decide ((i : Int) < (a.length : Int)) = false by simp; omega, cond_false, List.drop_eq_nil_of_le (by omega : a.length ≤ i)]
   cases hd : b.drop i with
   | nil =>
    have : b.length ≤ i := by simpa using hd
    rw [show decide ((a.length : Int) < (b.length : Int)) = false by simp; omega]; rfl
   | cons y ys =>
    have : i < b.length := by
     rcases Nat.lt_or_ge i b.length with h | h
     ·exact h
     rw [List.drop_eq_nil_of_le h] at hd; cases hd
    rw [show decide ((a.length : Int) < (b.length : Int)) = true by simp; omega]; rfl
  | succ n ih =>
   intro i v hi hib
   have hia : i < a.length := by omega
   have h1 : decide ((i : Int) < (a.length : Int)) = true := by simp; omega
   rw [List.drop_eq_getElem_cons hia]
   rcases Nat.lt_or_ge i b.length with hlt | hge
   ·have h2 : decide ((i : Int) ≥ (b.length : Int)) = false := by simp; omega
    rw [List.drop_eq_getElem_cons hlt]
    by_cases h3 : a[i] < b[i]
    ·refine loopU_ext ?_
     simp only [slices_Compare___int_int__b1, h1, cond_true, idx_get hia, idx_get hlt, Option.bind_some, h2, cond_false, cmp_Compare_int__eq, cmpL, if_pos h3]; rfl
    by_cases h4 : a[i] > b[i]
    ·refine loopU_ext ?_
     simp only [slices_Compare___int_int__b1, h1, cond_true, idx_get hia, idx_get hlt, Option.bind_some, h2, cond_false, cmp_Compare_int__eq, cmpL, if_neg h3, if_pos h4]; rfl
    rw [loopU_nxt (s' := (v, ((i + 1 : Nat) : Int))) ?_, ih (i + 1) v (by omega) (by omega)]
    ·simp only [cmpL, if_neg h3, if_neg h4]
    simp only [slices_Compare___int_int__b1, h1, cond_true, idx_get hia, idx_get hlt, Option.bind_some, h2, cond_false, cmp_Compare_int__eq, if_neg h3, if_neg h4]
    rw [wr_id' (by omega) (by simp only [lim] at ha; omega)]; rfl
   have h2 : decide ((i : Int) ≥ (b.length : Int)) = true := by simp; omega
   rw [List.drop_eq_nil_of_le hge]
   refine loopU_ext ?_
   simp only [slices_Compare___int_int__b1, h1, cond_true, idx_get hia, Option.bind_some, h2, cmpL]
 simpa [slices_Compare___int_int_] using key a.length 0 0 (by omega) (Nat.zero_le _)
theorem slices_Compare___int_int__all {w : World} {D : Stab} (hD : D.on w) (a b : List Int) {p : Option Addr} {c : Nat} {p2 : Option Addr} {c2 : Nat} (h1 : SRc C_int D a p c) (h2 : SRc C_int D b p2 c2) (h3 : a.length ≤ lim) (h4 : b.length ≤ lim) :
  Calls Tryd.prog 75 [.slice p a.length c, .slice p2 b.length c2].toArray w (RetQ w (.int .i64 (cmpL a b))) := slices_Compare___int_int__q hD a b h1 h2 _ (slices_Compare___int_int__eq a b h3 h4)
noncomputable def cmp_Or_int__b1 (vals : (List Int)) : (Int × Int) → Option ((Int × Int) ⊕ Int)
 | (v2_0, v8_0) =>
  cond (decide (v8_0 < (vals.length : Int)))
  ((idx vals v8_0).bind fun e =>
  cond (e != 0)
  (ext (some e))
  (nxt (v2_0, wr (v8_0 + 1))))
  (ext (some 0))
noncomputable def cmp_Or_int_ (vals : (List Int)) : Option Int :=
  loopU (cmp_Or_int__b1 vals) (0, 0)
theorem cmp_Or_int__ok {w0 : World} {D0 : Stab} (hD : D0.on w0) (vals : (List Int)) {p : Option Addr} {c : Nat} (hs : SRc C_int D0 vals p c) (out : Int) (h : cmp_Or_int_ vals = some out) : Calls Tryd.prog 73 [.slice p vals.length c].toArray w0 (RetP D0 w0 (.int .i64 out)) := by
 refine enter _ 18 Tryd.func73 rfl Tryd.ntmps73 rfl fun a hF => ?_
 replace hF : Frm 18 [] [(0, .slice p vals.length c)] a := hF
 have hS := St.start hD
 unfold cmp_Or_int_ at h
 refine seq (region (step hF (Y.assign hF rfl) rfl fun a hF => nil (then_n (seq (region (step hF (Y.assign hF rfl) rfl fun a hF => nil (then_n (seq (seq (region (step hF (Y.move hF rfl) rfl fun a hF => step hF (Y.lenSl u_32 hF rfl) rfl fun a hF => step hF (Y.move hF rfl) rfl fun a hF => nil (then_n (block (loop_cut (body := cmp_Or_int__b1 vals) (out := out) (fun s a w => ∃ (v2_0 : Int) (v8_0 : Int), s = (v2_0, v8_0) ∧ Frm 18 [] [(2, .int .i64 v2_0), (3, .int .i64 0), (6, .slice p vals.length c), (7, .int .i64 (vals.length : Int)), (8, .int .i64 v8_0)] a ∧ St w0 D0 D0 [] w) (0, 0) h ⟨0, 0, rfl, hF.weak ⟨rfl, rfl, rfl, rfl, rfl, trivial⟩, hS.weak trivial⟩ ?_))))))))))))))
 rintro s a w xo ⟨v2_0, v8_0, rfl, hF, hS⟩ h hxo
 unfold cmp_Or_int__b1 at h
 dsimp only at h
 refine seq (region (step hF (Y.lss hF rfl rfl) rfl fun a hF => nil (then_n (seq (cond_b hF rfl (fun hbv => ?_) (fun hbv => ?_))))))
 ·replace h := cond_t h hbv
  refine skip_ (then_n (seq (block (seq (region ?_)))))
  obtain ⟨e, hx, h⟩ := bind_some h
  obtain ⟨b, o, hE, hY⟩ := Y.indexS (P := Tryd.prog) (C := C_int) (xs := vals) (T := 32) (x := (.tmp 6)) (y := (.tmp 8)) u_32 sz_3 hF rfl rfl (hs).1 hx
  obtain ⟨cc, hc, hcell⟩ := hE.open
  obtain rfl := hc
  refine step hF (hY) rfl fun a hF => step hF (Y.load1 sz_3 hF rfl (hcell _ hS.stab 0 _ rfl)) rfl fun a hF => step hF (Y.assign hF rfl) rfl fun a hF => nil (then_n (seq (region (step hF (Y.move hF rfl) rfl fun a hF => step hF (Y.move hF rfl) rfl fun a hF => step hF (Y.neq hF rfl rfl) rfl fun a hF => nil (then_n (cond_b hF rfl (fun hbv_1 => ?_) (fun hbv_1 => ?_)))))))
  ·replace h := cond_t h hbv_1
   refine seq (region (step hF (Y.move hF rfl) rfl fun a hF => step hF (Y.assign hF rfl) rfl fun a hF => nil (then_n (ret_ (blk_r (then_r (then_r (blk_r (then_r ?_)))))))))
   replace h := ext_some h hxo
   obtain rfl := some_inj h
   exact leaveP Tryd.results73 hF hS (.cons (.tmp rfl) .nil) .nil rfl
  replace h := cond_f h hbv_1
  refine skip_ (blk_n (then_n (region (step hF (Y.add hF rfl rfl) rfl fun a hF => step hF (Y.move hF rfl) rfl fun a hF => nil (then_n (⟨_, nxt_some h, v2_0, (wr (v8_0 + 1)), rfl, hF.weak ⟨rfl, rfl, rfl, rfl, rfl, trivial⟩, hS.weak trivial⟩))))))
 replace h := cond_f h hbv
 refine exit_ (then_x (then_x (blk_hit (then_n ?_))))
 replace h := ext_some h hxo
 refine seq (region (step hF (Y.move hF rfl) rfl fun a hF => step hF (Y.assign hF rfl) rfl fun a hF => nil (then_n (ret_ ?_))))
 obtain rfl := some_inj h
 exact leaveP Tryd.results73 hF hS (.cons (.tmp rfl) .nil) .nil rfl
noncomputable def remontoirlaw06_net (more : (List LineLoop)) : Option LineNet :=
  (r0To 10 12).bind fun rv =>
  (r0To 5 6).bind fun rv_1 =>
  (r0To 20 30).bind fun rv_2 =>
  (r0To 7 7).bind fun rv_3 =>
  (r0To 36 50).bind fun rv_4 =>
  (r0To 0 100).bind fun rv_5 =>
  if ([(LineLoop.mk 2 rv_4), (LineLoop.mk 3 rv_5)]).length + more.length ≤ lim then
  some (LineNet.mk 5 ([(LineLine.mk 0 1 rv), (LineLine.mk 1 2 rv_1), (LineLine.mk 0 2 rv_2), (LineLine.mk 2 3 rv_3)]) 3 ([(LineLoop.mk 2 rv_4), (LineLoop.mk 3 rv_5)] ++ more))
  else none
theorem remontoirlaw06_net_ok {w0 : World} {D0 : Stab} (hD : D0.on w0) (more : (List LineLoop)) {p : Option Addr} {c : Nat} (hs : SRc C_LineLoop D0 more p c) (out : LineNet) (h : remontoirlaw06_net more = some out) : Calls Tryd.prog 56 [.slice p more.length c].toArray w0 (RetS D0 w0 fun D v => ∃ p_4 c_4 p_5 c_5, v = .agg #[.int .i64 out.Exchanges, .slice p_4 out.Lines.length c_4, .int .i64 out.Hops, .slice p_5 out.Loops.length c_5] ∧ SRc C_LineLine D out.Lines p_4 c_4 ∧ SRc C_LineLoop D out.Loops p_5 c_5) := by
 refine enter _ 25 Tryd.func56 rfl Tryd.ntmps56 rfl fun a hF => ?_
 replace hF : Frm 25 [] [(0, .slice p more.length c)] a := hF
 have hS := St.start hD
 unfold remontoirlaw06_net at h
 refine seq (region (O.alloc 1 zc_25 hF hS rfl fun b a w hF hS => nil (then_n (seq (region ?_)))))
 obtain ⟨rv, hx, h⟩ := bind_some h
 refine O.callP (us := [.int .i64 10, .int .i64 12]) ca_44 hF hS (r0To_ok hS.stab 10 12 rv hx) rfl rfl fun a w hF hS => step hF (Y.build (parts := [(0, (.const (.int .i64 0))), (1, (.const (.int .i64 1))), (2, (.tmp 4))]) (cs := #[.int .i64 0, .int .i64 1, .int .i64 rv.Low, .int .i64 rv.High]) hF rfl (by kernel_rfl)) rfl fun a hF => ?_
 obtain ⟨rv_1, hx_1, h⟩ := bind_some h
 refine O.callP (us := [.int .i64 5, .int .i64 6]) ca_44 hF hS (r0To_ok hS.stab 5 6 rv_1 hx_1) rfl rfl fun a w hF hS => step hF (Y.build (parts := [(0, (.const (.int .i64 1))), (1, (.const (.int .i64 2))), (2, (.tmp 6))]) (cs := #[.int .i64 1, .int .i64 2, .int .i64 rv_1.Low, .int .i64 rv_1.High]) hF rfl (by kernel_rfl)) rfl fun a hF => ?_
 obtain ⟨rv_2, hx_2, h⟩ := bind_some h
 refine O.callP (us := [.int .i64 20, .int .i64 30]) ca_44 hF hS (r0To_ok hS.stab 20 30 rv_2 hx_2) rfl rfl fun a w hF hS => step hF (Y.build (parts := [(0, (.const (.int .i64 0))), (1, (.const (.int .i64 2))), (2, (.tmp 8))]) (cs := #[.int .i64 0, .int .i64 2, .int .i64 rv_2.Low, .int .i64 rv_2.High]) hF rfl (by kernel_rfl)) rfl fun a hF => ?_
 obtain ⟨rv_3, hx_3, h⟩ := bind_some h
 refine O.callP (us := [.int .i64 7, .int .i64 7]) ca_44 hF hS (r0To_ok hS.stab 7 7 rv_3 hx_3) rfl rfl fun a w hF hS => step hF (Y.build (parts := [(0, (.const (.int .i64 2))), (1, (.const (.int .i64 3))), (2, (.tmp 10))]) (cs := #[.int .i64 2, .int .i64 3, .int .i64 rv_3.Low, .int .i64 rv_3.High]) hF rfl (by kernel_rfl)) rfl fun a hF => ?_
 have hr : Reps C_LineLine D0 [(LineLine.mk 0 1 rv), (LineLine.mk 1 2 rv_1), (LineLine.mk 0 2 rv_2), (LineLine.mk 2 3 rv_3)] [.int .i64 0, .int .i64 1, .int .i64 rv.Low, .int .i64 rv.High, .int .i64 1, .int .i64 2, .int .i64 rv_1.Low, .int .i64 rv_1.High, .int .i64 0, .int .i64 2, .int .i64 rv_2.Low, .int .i64 rv_2.High, .int .i64 2, .int .i64 3, .int .i64 rv_3.Low, .int .i64 rv_3.High] := Reps.cons (C := C_LineLine) (x := (LineLine.mk 0 1 rv)) (c := [.int .i64 0, .int .i64 1, .int .i64 rv.Low, .int .i64 rv.High]) (r := [.int .i64 1, .int .i64 2, .int .i64 rv_1.Low, .int .i64 rv_1.High, .int .i64 0, .int .i64 2, .int .i64 rv_2.Low, .int .i64 rv_2.High, .int .i64 2, .int .i64 3, .int .i64 rv_3.Low, .int .i64 rv_3.High]) rfl (Reps.cons (C := C_LineLine) (x := (LineLine.mk 1 2 rv_1)) (c := [.int .i64 1, .int .i64 2, .int .i64 rv_1.Low, .int .i64 rv_1.High]) (r := [.int .i64 0, .int .i64 2, .int .i64 rv_2.Low, .int .i64 rv_2.High, .int .i64 2, .int .i64 3, .int .i64 rv_3.Low, .int .i64 rv_3.High]) rfl (Reps.cons (C := C_LineLine) (x := (LineLine.mk 0 2 rv_2)) (c := [.int .i64 0, .int .i64 2, .int .i64 rv_2.Low, .int .i64 rv_2.High]) (r := [.int .i64 2, .int .i64 3, .int .i64 rv_3.Low, .int .i64 rv_3.High]) rfl (Reps.cons (C := C_LineLine) (x := (LineLine.mk 2 3 rv_3)) (c := [.int .i64 2, .int .i64 3, .int .i64 rv_3.Low, .int .i64 rv_3.High]) (r := []) rfl (Reps.nil))))
 refine O.buildSlice (E := 68) (C := C_LineLine) (xs := [(LineLine.mk 0 1 rv), (LineLine.mk 1 2 rv_1), (LineLine.mk 0 2 rv_2), (LineLine.mk 2 3 rv_3)]) (cs := [.int .i64 0, .int .i64 1, .int .i64 rv.Low, .int .i64 rv.High, .int .i64 1, .int .i64 2, .int .i64 rv_1.Low, .int .i64 rv_1.High, .int .i64 0, .int .i64 2, .int .i64 rv_2.Low, .int .i64 rv_2.High, .int .i64 2, .int .i64 3, .int .i64 rv_3.Low, .int .i64 rv_3.High]) (us := [.agg #[.int .i64 0, .int .i64 1, .int .i64 rv.Low, .int .i64 rv.High], .agg #[.int .i64 1, .int .i64 2, .int .i64 rv_1.Low, .int .i64 rv_1.High], .agg #[.int .i64 0, .int .i64 2, .int .i64 rv_2.Low, .int .i64 rv_2.High], .agg #[.int .i64 2, .int .i64 3, .int .i64 rv_3.Low, .int .i64 rv_3.High]]) (parts := [(0, (.tmp 5)), (1, (.tmp 7)), (2, (.tmp 9)), (3, (.tmp 11))]) 2 hF hS rfl (by kernel_rfl) hr rfl rfl rfl fun p_1 c_1 a w hF hS => ?_
 obtain ⟨rv_4, hx_4, h⟩ := bind_some h
 refine O.callP (us := [.int .i64 36, .int .i64 50]) ca_44 hF hS (r0To_ok hS.stab 36 50 rv_4 hx_4) rfl rfl fun a w hF hS => step hF (Y.build (parts := [(0, (.const (.int .i64 2))), (1, (.tmp 13))]) (cs := #[.int .i64 2, .int .i64 rv_4.Low, .int .i64 rv_4.High]) hF rfl (by kernel_rfl)) rfl fun a hF => ?_
 obtain ⟨rv_5, hx_5, h⟩ := bind_some h
 refine O.callP (us := [.int .i64 0, .int .i64 100]) ca_44 hF hS (r0To_ok hS.stab 0 100 rv_5 hx_5) rfl rfl fun a w hF hS => step hF (Y.build (parts := [(0, (.const (.int .i64 3))), (1, (.tmp 15))]) (cs := #[.int .i64 3, .int .i64 rv_5.Low, .int .i64 rv_5.High]) hF rfl (by kernel_rfl)) rfl fun a hF => ?_
 have hr_1 : Reps C_LineLoop D0 [(LineLoop.mk 2 rv_4), (LineLoop.mk 3 rv_5)] [.int .i64 2, .int .i64 rv_4.Low, .int .i64 rv_4.High, .int .i64 3, .int .i64 rv_5.Low, .int .i64 rv_5.High] := Reps.cons (C := C_LineLoop) (x := (LineLoop.mk 2 rv_4)) (c := [.int .i64 2, .int .i64 rv_4.Low, .int .i64 rv_4.High]) (r := [.int .i64 3, .int .i64 rv_5.Low, .int .i64 rv_5.High]) rfl (Reps.cons (C := C_LineLoop) (x := (LineLoop.mk 3 rv_5)) (c := [.int .i64 3, .int .i64 rv_5.Low, .int .i64 rv_5.High]) (r := []) rfl (Reps.nil))
 refine O.buildSlice (E := 71) (C := C_LineLoop) (xs := [(LineLoop.mk 2 rv_4), (LineLoop.mk 3 rv_5)]) (cs := [.int .i64 2, .int .i64 rv_4.Low, .int .i64 rv_4.High, .int .i64 3, .int .i64 rv_5.Low, .int .i64 rv_5.High]) (us := [.agg #[.int .i64 2, .int .i64 rv_4.Low, .int .i64 rv_4.High], .agg #[.int .i64 3, .int .i64 rv_5.Low, .int .i64 rv_5.High]]) (parts := [(0, (.tmp 14)), (1, (.tmp 16))]) 3 hF hS rfl (by kernel_rfl) hr_1 rfl rfl rfl fun p_2 c_2 a w hF hS => step hF (Y.build (parts := [(0, (.const (.int .i64 5))), (2, (.const (.int .i64 3))), (1, (.tmp 12)), (3, (.tmp 17))]) (cs := #[.int .i64 5, .slice p_1 ([(LineLine.mk 0 1 rv), (LineLine.mk 1 2 rv_1), (LineLine.mk 0 2 rv_2), (LineLine.mk 2 3 rv_3)]).length c_1, .int .i64 3, .slice p_2 ([(LineLoop.mk 2 rv_4), (LineLoop.mk 3 rv_5)]).length c_2]) hF rfl (by kernel_rfl)) rfl fun a hF => O.alloc 4 zc_25 hF hS rfl fun b_1 a w hF hS => ?_
 replace hS := hS.ownNil 5 71 3
 refine O.store (us := [.int .i64 5, .slice p_1 ([(LineLine.mk 0 1 rv), (LineLine.mk 1 2 rv_1), (LineLine.mk 0 2 rv_2), (LineLine.mk 2 3 rv_3)]).length c_1, .int .i64 3, .slice p_2 ([(LineLoop.mk 2 rv_4), (LineLoop.mk 3 rv_5)]).length c_2]) 4 sz_25 hF rfl rfl rfl rfl hS rfl rfl fun a w hF hS => nil (then_n (seq (region (step hF (Y.fieldAddr fo_25_3 hF rfl) rfl fun a hF => step hF (Y.load1L 4 sz_23 hF rfl hS rfl rfl) rfl fun a hF => step hF (Y.move hF rfl) rfl fun a hF => ?_))))
 obtain ⟨hg, h⟩ := ite_some h
 obtain ⟨ds, hds, hsrc⟩ := src_stab (C := C_LineLoop) (xs := more) (hs).1 hS.stab
 refine O.append (C := C_LineLoop) (xs := [(LineLoop.mk 2 rv_4), (LineLoop.mk 3 rv_5)]) (ys := more) 3 gr_23 hF rfl rfl hS rfl hsrc hr_1 hds hg rfl fun p_3 c_3 a w hF hS hr_2 => step hF (Y.fieldAddr fo_25_3 hF rfl) rfl fun a hF => O.store (us := [.slice p_3 ([(LineLoop.mk 2 rv_4), (LineLoop.mk 3 rv_5)] ++ more).length c_3]) 4 sz_23 hF rfl rfl rfl rfl hS rfl rfl fun a w hF hS => nil (then_n (seq (region (step hF (Y.loadNL 4 sz_25 hF rfl hS rfl rfl rfl) rfl fun a hF => O.store (us := [.int .i64 5, .slice p_1 ([(LineLine.mk 0 1 rv), (LineLine.mk 1 2 rv_1), (LineLine.mk 0 2 rv_2), (LineLine.mk 2 3 rv_3)]).length c_1, .int .i64 3, .slice p_3 ([(LineLoop.mk 2 rv_4), (LineLoop.mk 3 rv_5)] ++ more).length c_3]) 1 sz_25 hF rfl rfl rfl rfl hS rfl rfl fun a w hF hS => nil (then_n (ret_ ?_))))))
 obtain ⟨Dv, hlev, hs_1, hS⟩ := hS.freezeC (C := C_LineLine) (i := 2) (xs := [(LineLine.mk 0 1 rv), (LineLine.mk 1 2 rv_1), (LineLine.mk 0 2 rv_2), (LineLine.mk 2 3 rv_3)]) rfl hr
 replace hr_2 := hr_2.mono hlev
 obtain ⟨Dv_1, hlev_1, hs_2, hS⟩ := hS.freezeC (C := C_LineLoop) (i := 3) (xs := ([(LineLoop.mk 2 rv_4), (LineLoop.mk 3 rv_5)] ++ more)) rfl hr_2
 replace hs_1 := hs_1.mono hlev_1
 obtain rfl := some_inj h
 exact leaveS Tryd.results56 hF hS (.cons (.cellN 1 sz_25 rfl rfl rfl) .nil) .nil ⟨_, _, _, _, rfl, hs_1, hs_2⟩
noncomputable def remontoirlaw06_torn : Option (List LineLoop) :=
  (r0To 70 80).bind fun rv =>
  some ([(LineLoop.mk 2 rv)])
theorem remontoirlaw06_torn_ok {w0 : World} {D0 : Stab} (hD : D0.on w0) (out : (List LineLoop)) (h : remontoirlaw06_torn = some out) : Calls Tryd.prog 57 [].toArray w0 (RetS D0 w0 fun D v => ∃ p_1 c_1, v = .slice p_1 out.length c_1 ∧ SRc C_LineLoop D out p_1 c_1) := by
 refine enter _ 4 Tryd.func57 rfl Tryd.ntmps57 rfl fun a hF => ?_
 replace hF : Frm 4 [] [] a := hF
 have hS := St.start hD
 unfold remontoirlaw06_torn at h
 refine seq (region (step hF (Y.assign hF rfl) rfl fun a hF => nil (then_n (seq (region ?_)))))
 obtain ⟨rv, hx, h⟩ := bind_some h
 refine O.callP (us := [.int .i64 70, .int .i64 80]) ca_44 hF hS (r0To_ok hS.stab 70 80 rv hx) rfl rfl fun a w hF hS => step hF (Y.build (parts := [(0, (.const (.int .i64 2))), (1, (.tmp 1))]) (cs := #[.int .i64 2, .int .i64 rv.Low, .int .i64 rv.High]) hF rfl (by kernel_rfl)) rfl fun a hF => ?_
 have hr : Reps C_LineLoop D0 [(LineLoop.mk 2 rv)] [.int .i64 2, .int .i64 rv.Low, .int .i64 rv.High] := Reps.cons (C := C_LineLoop) (x := (LineLoop.mk 2 rv)) (c := [.int .i64 2, .int .i64 rv.Low, .int .i64 rv.High]) (r := []) rfl (Reps.nil)
 refine O.buildSlice (E := 71) (C := C_LineLoop) (xs := [(LineLoop.mk 2 rv)]) (cs := [.int .i64 2, .int .i64 rv.Low, .int .i64 rv.High]) (us := [.agg #[.int .i64 2, .int .i64 rv.Low, .int .i64 rv.High]]) (parts := [(0, (.tmp 2))]) 1 hF hS rfl (by kernel_rfl) hr rfl rfl rfl fun p c a w hF hS => step hF (Y.assign hF rfl) rfl fun a hF => nil (then_n (ret_ ?_))
 obtain ⟨Dv, hlev, hs, hS⟩ := hS.freezeC (C := C_LineLoop) (i := 1) (xs := [(LineLoop.mk 2 rv)]) rfl hr
 obtain rfl := some_inj h
 exact leaveS Tryd.results57 hF hS (.cons (.tmp rfl) .nil) .nil ⟨_, _, rfl, hs⟩
end Go.Proofs.YthdbokigcfbgeaaDoor.Rt
