/- Walks of the functions of this seat: what each Go function comes to, as a Lean function, and the proof. Part WH1. Under no conditions. -/
import Derived.Test.YtmbgmefmkjeahaaDoorC14WOZ
import Derived.Test.YtmbgmefmkjeahaaDoorC14W0h
set_option linter.unusedVariables false
set_option linter.unusedSimpArgs false
set_option maxRecDepth 100000
set_option maxHeartbeats 4000000
namespace Go.Proofs.YtmbgmefmkjeahaaDoor.Rt
open Go Go.RowKit
theorem slave_Can_keep {w0 : World} {D0 : Stab} (hD : D0.on w0) (xv : SlaveLine) (who : Int) {p : Option Addr} {c : Nat} {p_1 : Option Addr} {c_1 : Nat} (hs : SRc C_SlaveStart D0 xv.Starts p c) (hs_1 : SRc C_SlaveEvent D0 xv.Events p_1 c_1) (hG : Glob D0) (out : ((List Int) × Int) → Prop) (h : slave_Can xv who out) : Calls Tryd.prog 16 [.agg #[.int .i64 xv.Ring, .slice p xv.Starts.length c, .slice p_1 xv.Events.length c_1], .int .i64 who].toArray w0 (RetM D0 fun D w v => ∃ q_, out q_ ∧ ∃ (p_6 : Option Addr) (c_6 : Nat) (kcs0 : List Value), St w0 D0 D [(900, .own p_6 q_.1.length c_6 kcs0 3 1)] w ∧ v = .tuple #[.slice p_6 q_.1.length q_.1.length, .int .i64 q_.2] ∧ Reps C_int D q_.1 kcs0) := by
 refine enter _ 38 Tryd.func16 rfl Tryd.ntmps16 rfl fun a hF => ?_
 replace hF : Frm 38 [] [(0, .agg #[.int .i64 xv.Ring, .slice p xv.Starts.length c, .slice p_1 xv.Events.length c_1]), (1, .int .i64 who)] a := hF
 have hS := St.start hD
 unfold slave_Can at h
 refine seq (region (O.box (cs := [.int .i64 xv.Ring, .slice p xv.Starts.length c, .slice p_1 xv.Events.length c_1]) 1 hF rfl rfl hS rfl fun b a w hF hS => step hF (Y.assign hF rfl) rfl fun a hF => step hF (Y.assign hF rfl) rfl fun a hF => nil (then_n (seq (region (step hF (Y.loadNL 1 sz_25 hF rfl hS rfl rfl rfl) rfl fun a hF => step hF (Y.move hF rfl) rfl fun a hF => ?_))))))
 obtain ⟨KQ, hx, hk⟩ := nbnd_ex h
 refine O.callSN (us := [.agg #[.int .i64 xv.Ring, .slice p xv.Starts.length c, .slice p_1 xv.Events.length c_1], .int .i64 who]) ca_56 hF hS (slave_asked_ok hS.stab xv who hs hs_1 hG KQ hx) rfl rfl fun rv h v Dv a w hR hlev hF hS => ?_
 replace h := hk _ h
 obtain ⟨bm, rfl, hm⟩ := hR
 refine step hF (Y.move hF rfl) rfl fun a hF => step hF (Y.extract hF rfl rfl) rfl fun a hF => step hF (Y.extract hF rfl rfl) rfl fun a hF => step hF (Y.assign hF rfl) rfl fun a hF => step hF (Y.assign hF rfl) rfl fun a hF => nil (then_n (seq (seq (region (step hF (Y.move hF rfl) rfl fun a hF => step hF (Y.neq hF rfl rfl) rfl fun a hF => nil (then_n (cond_b hF rfl (fun hbv => ?_) (fun hbv => ?_))))))))
 ·replace h := ncond_t h hbv
  refine seq (region (step hF (Y.move hF rfl) rfl fun a hF => step hF (Y.assign hF rfl) rfl fun a hF => step hF (Y.assign hF rfl) rfl fun a hF => nil (then_n (ret_ (then_r ?_)))))
  replace hS := hS.ownNil 900 3 1
  exact leaveM (ms := [(900, .own none ([] : List Int).length 0 ([]) 3 1)]) Tryd.results16 hF hS (.cons (.tmp rfl) (.cons (.tmp rfl) .nil)) (.inl rfl) ⟨rfl, trivial⟩ hlev fun w hS => ⟨_, nret h, _, _, _, hS, rfl, Reps.nil⟩
 replace h := ncond_f h hbv
 refine skip_ (then_n (seq (region (step hF (Y.assign hF rfl) rfl fun a hF => ?_))))
 replace hS := hS.ownNil 2 3 1
 refine nil (then_n (seq (seq (region (step hF (Y.move hF rfl) rfl fun a hF => ?_)))))
 obtain ⟨KQ_1, hx_1, hk_1⟩ := nbnd_ex h
 refine O.callSN (us := [.map bm]) ca_57 hF hS (slave_minutes_ok hS.stab rv.1 hm KQ_1 hx_1) rfl rfl fun rv_1 h v_1 Dv_1 a w hR_1 hlev_1 hF hS => ?_
 replace h := hk_1 _ h
 obtain ⟨rfl, hn⟩ := hR_1
 refine step hF (Y.move hF rfl) rfl fun a hF => nil (then_n (block (loop_cutN (body := slave_Can_b1 rv_1) (out := out) (fun s a w => ∃ (outv : (List Int)) (v22_0 : Int), ∃ p_2 c_2 cs, s = (outv, v22_0) ∧ Frm 38 [] [(4, .slice none 0 0), (5, .int .i64 0), (8, .slice p_2 outv.length c_2), (21, .agg (arr celB rv_1).toArray), (22, .int .i64 v22_0)] a ∧ St w0 D0 Dv_1 [(1, .cells b [.int .i64 xv.Ring, .slice p xv.Starts.length c, .slice p_1 xv.Events.length c_1] 25), (2, .own p_2 outv.length c_2 cs 3 1)] w ∧ Reps C_int Dv_1 outv cs) (([] : List Int), 0) h ⟨([] : List Int), 0, none, 0, ([]), rfl, hF.weak ⟨rfl, rfl, rfl, rfl, rfl, trivial⟩, hS.weak ⟨rfl, rfl, trivial⟩, Reps.nil⟩ ?_)))
 rintro s a w xo ⟨outv, v22_0, p_2, c_2, cs, rfl, hF, hS, hr⟩ h
 unfold slave_Can_b1 at h
 try dsimp only at h
 refine seq (region (step hF (Y.lss hF rfl rfl) rfl fun a hF => nil (then_n (seq (cond_b hF rfl (fun hbv_1 => ?_) (fun hbv_1 => ?_))))))
 ·replace h := ncond_t h hbv_1
  refine skip_ (then_n (seq (block (seq (region (step hF (Y.move hF rfl) rfl fun a hF => ?_))))))
  obtain ⟨hg, h⟩ := ngrd h
  refine step hF ((show Yields _ _ _ _ (.bool (rv_1.getD (Int.toNat v22_0) false)) from Y.indexV (m := 1) (F := celB) false u_89 sz_4 hn hg hF rfl rfl)) rfl fun a hF => step hF (Y.assign hF rfl) rfl fun a hF => step hF (Y.assign hF rfl) rfl fun a hF => nil (then_n (seq (region (step hF (Y.move hF rfl) rfl fun a hF => nil (then_n (cond_b hF rfl (fun hbv_2 => ?_) (fun hbv_2 => ?_)))))))
  ·replace h := ncond_t h hbv_2
   refine region (step hF (Y.move hF rfl) rfl fun a hF => step hF (Y.move hF rfl) rfl fun a hF => ?_)
   have hr_1 : Reps C_int Dv_1 [v22_0] [.int .i64 v22_0] := Reps.cons (C := C_int) (x := v22_0) (c := [.int .i64 v22_0]) (r := []) rfl (Reps.nil)
   refine O.buildSlice (E := 3) (C := C_int) (xs := [v22_0]) (cs := [.int .i64 v22_0]) (us := [.int .i64 v22_0]) (parts := [(0, (.tmp 28))]) 3 hF hS rfl (by kernel_rfl) hr_1 rfl rfl rfl fun p_3 c_3 a w hF hS => ?_
   obtain ⟨hg_1, h⟩ := ngrd h
   refine O.append (C := C_int) (xs := outv) (ys := [v22_0]) 2 gr_26 hF rfl rfl hS rfl (src_own (i := 3) hS rfl) hr hr_1 hg_1 rfl fun p_4 c_4 a w hF hS hr_2 => step hF (Y.assign hF rfl) rfl fun a hF => nil (blk_n (then_n (region (step hF (Y.add hF rfl rfl) rfl fun a hF => step hF (Y.move hF rfl) rfl fun a hF => nil (then_n (⟨_, nnxt_h h, (outv ++ [v22_0]), (wr (v22_0 + 1)), p_4, c_4, (cs ++ [.int .i64 v22_0]), rfl, hF.weak ⟨rfl, rfl, rfl, rfl, rfl, trivial⟩, hS.weak ⟨rfl, rfl, trivial⟩, hr_2⟩))))))
  replace h := ncond_f h hbv_2
  refine skip_ (blk_n (then_n (region (step hF (Y.add hF rfl rfl) rfl fun a hF => step hF (Y.move hF rfl) rfl fun a hF => nil (then_n (⟨_, nnxt_h h, outv, (wr (v22_0 + 1)), p_2, c_2, cs, rfl, hF.weak ⟨rfl, rfl, rfl, rfl, rfl, trivial⟩, hS.weak ⟨rfl, rfl, trivial⟩, hr⟩))))))
 replace h := ncond_f h hbv_1
 refine exit_ (then_x (then_x (blk_hit (then_n ?_))))
 replace h := next_h h
 refine seq (region (step hF (Y.move hF rfl) rfl fun a hF => step hF (Y.move hF rfl) rfl fun a hF => step hF (Y.lenSl u_26 hF rfl) rfl fun a hF => step hF (Y.move hF rfl) rfl fun a hF => step hF (Y.lenSl u_26 hF rfl) rfl fun a hF => step hF (Y.slice3 u_26 sz_3 hF rfl rfl rfl (own_cap (i := 2) hS rfl)) rfl fun a hF => step hF (Y.assign hF rfl) rfl fun a hF => step hF (Y.assign hF rfl) rfl fun a hF => nil (then_n (ret_ ?_))))
 replace hS := hS.move 900 2 rfl (by decide)
 exact leaveM (ms := [(900, .own p_2 outv.length c_2 cs 3 1)]) Tryd.results16 hF hS (.cons (.tmp rfl) (.cons (.tmp rfl) .nil)) (.inl rfl) ⟨rfl, trivial⟩ (hlev.trans hlev_1) fun w hS => ⟨_, nret h, _, _, _, hS, rfl, hr⟩
end Go.Proofs.YtmbgmefmkjeahaaDoor.Rt
