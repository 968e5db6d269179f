/- Walks of the functions of this seat: what each Go function comes to, as a Lean function, and the proof. Part WO1. Under no conditions. -/
import Derived.Test.YtmbgmefmkjeahaaDoorC14WNZ
set_option linter.unusedVariables false
set_option linter.unusedSimpArgs false
set_option maxRecDepth 100000
set_option maxHeartbeats 4000000
namespace Go.Proofs.YtmbgmefmkjeahaaDoor.Rt
open Go Go.RowKit
noncomputable def w7all_b1 (l : SlaveLine) : (Bool × Int) → ND ((Bool × Int) ⊕ Bool)
 | (v2_0, who) =>
  cond (decide (who < (l.Starts.length : Int)))
  ((ND.bnd (slave_Can l who) fun rv =>
  cond (rv.2 != 0)
  (next_ (ND.ret false))
  (nnxt (v2_0, wr (who + 1)))))
  (next_ (ND.ret true))
noncomputable def w7all (l : SlaveLine) : ND Bool :=
  loopN (w7all_b1 l) (false, 0)
theorem w7all_ok {w0 : World} {D0 : Stab} (hD : D0.on w0) (l : SlaveLine) {p : Option Addr} {c : Nat} {p_1 : Option Addr} {c_1 : Nat} (hs : SRc C_SlaveStart D0 l.Starts p c) (hs_1 : SRc C_SlaveEvent D0 l.Events p_1 c_1) (hG : Glob D0) (out : Bool → Prop) (h : w7all l out) : Calls Tryd.prog 46 [.agg #[.int .i64 l.Ring, .slice p l.Starts.length c, .slice p_1 l.Events.length c_1]].toArray w0 (RetPN D0 w0 out fun (out : Bool) => .bool out) := by
 refine enter _ 21 Tryd.func46 rfl Tryd.ntmps46 rfl fun a hF => ?_
 replace hF : Frm 21 [] [(0, .agg #[.int .i64 l.Ring, .slice p l.Starts.length c, .slice p_1 l.Events.length c_1])] a := hF
 have hS := St.start hD
 unfold w7all at h
 refine seq (region (O.box (cs := [.int .i64 l.Ring, .slice p l.Starts.length c, .slice p_1 l.Events.length c_1]) 1 hF rfl rfl hS rfl fun b a w hF hS => step hF (Y.assign hF rfl) rfl fun a hF => nil (then_n (seq (seq (region (step hF (Y.assign hF rfl) rfl fun a hF => nil (then_n (block (loop_cutN (body := w7all_b1 l) (out := out) (fun s a w => ∃ (v2_0 : Bool) (who : Int), ∃ (Dv : Stab), s = (v2_0, who) ∧ D0.le Dv ∧ Frm 21 [] [(1, .pointer (some ⟨b, 0, none⟩)), (2, .bool v2_0), (3, .int .i64 who)] a ∧ St w0 D0 Dv [(1, .cells b [.int .i64 l.Ring, .slice p l.Starts.length c, .slice p_1 l.Events.length c_1] 25)] w) (false, 0) h ⟨false, 0, D0, rfl, Stab.le.refl _, hF.weak ⟨rfl, rfl, rfl, trivial⟩, hS.weak ⟨rfl, trivial⟩⟩ ?_))))))))))
 rintro s a w xo ⟨v2_0, who, Dv, rfl, hlev, hF, hS⟩ h
 unfold w7all_b1 at h
 try dsimp only at h
 replace hs := hs.mono hlev
 replace hs_1 := hs_1.mono hlev
 replace hG := hG.mono hlev
 refine seq (seq (region (step hF (Y.move hF rfl) rfl fun a hF => step hF (Y.fieldAddr fo_25_1 hF rfl) rfl fun a hF => step hF (Y.load1L 1 sz_22 hF rfl hS rfl rfl) rfl fun a hF => step hF (Y.lenSl u_22 hF rfl) rfl fun a hF => step hF (Y.lss hF rfl rfl) rfl fun a hF => nil (then_n (cond_b hF rfl (fun hbv => ?_) (fun hbv => ?_))))))
 ·replace h := ncond_t h hbv
  refine skip_ (then_n (seq (block (seq (region (step hF (Y.loadNL 1 sz_25 hF rfl hS rfl rfl rfl) rfl fun a hF => step hF (Y.move hF rfl) rfl fun a hF => ?_))))))
  obtain ⟨KQ, hx, hk⟩ := nbnd_ex h
  refine O.callSN (us := [.agg #[.int .i64 l.Ring, .slice p l.Starts.length c, .slice p_1 l.Events.length c_1], .int .i64 who]) ca_16 hF hS (slave_Can_ok hS.stab l who hs hs_1 hG KQ hx) rfl rfl fun rv h v Dv_1 a w hR hlev_1 hF hS => ?_
  replace h := hk _ h
  obtain ⟨p_2, c_2, rfl, hs_2⟩ := hR
  refine step hF (Y.move hF rfl) rfl fun a hF => step hF (Y.extract hF rfl rfl) rfl fun a hF => step hF (Y.extract hF rfl rfl) rfl fun a hF => step hF (Y.assign hF rfl) rfl fun a hF => step hF (Y.assign hF rfl) rfl fun a hF => nil (then_n (seq (region (step hF (Y.move hF rfl) rfl fun a hF => step hF (Y.neq hF rfl rfl) rfl fun a hF => nil (then_n (cond_b hF rfl (fun hbv_1 => ?_) (fun hbv_1 => ?_)))))))
  ·replace h := ncond_t h hbv_1
   refine seq (region (step hF (Y.assign hF rfl) rfl fun a hF => nil (then_n (ret_ (blk_r (then_r (then_r (blk_r (then_r ?_)))))))))
   replace h := next_h h
   exact leavePN _ (nret h) Tryd.results46 hF hS (.cons (.tmp rfl) .nil) .nil rfl
  replace h := ncond_f h hbv_1
  refine skip_ (blk_n (then_n (region (step hF (Y.move hF rfl) rfl fun a hF => step hF (Y.add hF rfl rfl) rfl fun a hF => step hF (Y.assign hF rfl) rfl fun a hF => nil (then_n (⟨_, nnxt_h h, v2_0, (wr (who + 1)), Dv_1, rfl, hlev.trans hlev_1, hF.weak ⟨rfl, rfl, rfl, trivial⟩, hS.weak ⟨rfl, trivial⟩⟩))))))
 replace h := ncond_f h hbv
 refine exit_ (then_x (then_x (blk_hit (then_n ?_))))
 replace h := next_h h
 refine seq (region (step hF (Y.assign hF rfl) rfl fun a hF => nil (then_n (ret_ (leavePN _ (nret h) Tryd.results46 hF hS (.cons (.tmp rfl) .nil) .nil rfl)))))
end Go.Proofs.YtmbgmefmkjeahaaDoor.Rt
