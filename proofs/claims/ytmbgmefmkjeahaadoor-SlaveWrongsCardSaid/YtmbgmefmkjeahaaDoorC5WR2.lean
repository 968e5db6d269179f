/- Walks of the functions of this seat: what each Go function comes to, as a Lean function, and the proof. Part WR2. Under no conditions. -/
import Derived.Test.YtmbgmefmkjeahaaDoorC5WR1
set_option linter.unusedVariables false
set_option linter.unusedSimpArgs false
set_option maxRecDepth 100000
set_option maxHeartbeats 4000000
namespace Go.Proofs.YtmbgmefmkjeahaaDoor.Rt
open Go Go.RowKit
noncomputable def r7Homes_b1 (l : SlaveLine) (lost : Int) (rv_2 : ((List SlaveStart) × Int)) : (Int × Int) → Option ((Int × Int) ⊕ (Int × Int))
 | (n, i) =>
  cond (decide (i < (rv_2.1.length : Int)))
  ((idx rv_2.1 i).bind fun e =>
  if l.Ring ≠ 0 then
  cond (decide ((Int.tmod (wr (l.Ring - e.Shown)) l.Ring) > 0))
  (nxt ((if wr ((Int.tmod (wr (l.Ring - e.Shown)) l.Ring) + lost) > n then wr ((Int.tmod (wr (l.Ring - e.Shown)) l.Ring) + lost) else n), wr (i + 1)))
  (nxt (n, wr (i + 1)))
  else none)
  (ext (some (n, 0)))
noncomputable def r7Homes (l : SlaveLine) (lost : Int) : Option (Int × Int) :=
  (r7Check l).bind fun rv =>
  cond (rv != 0)
  (some (0, rv))
  ((r0Lies lost 0 3).bind fun rv_1 =>
  cond (!rv_1)
  (some (0, 71))
  ((r7every l).bind fun rv_2 =>
  cond (rv_2.2 != 0)
  (some (0, rv_2.2))
  (loopU (r7Homes_b1 l lost rv_2) (0, 0))))
theorem r7Homes_ok {w0 : World} {D0 : Stab} (hD : D0.on w0) (l : SlaveLine) (lost : Int) {p : Option Addr} {c : Nat} {p_1 : Option Addr} {c_1 : Nat} (hs : SRc C_SlaveStart D0 l.Starts p c) (hs_1 : SRc C_SlaveEvent D0 l.Events p_1 c_1) (out : (Int × Int)) (h : r7Homes l lost = some out) : Calls Tryd.prog 31 [.agg #[.int .i64 l.Ring, .slice p l.Starts.length c, .slice p_1 l.Events.length c_1], .int .i64 lost].toArray w0 (RetP D0 w0 (.tuple #[.int .i64 out.1, .int .i64 out.2])) := by
 refine enter _ 53 Tryd.func31 rfl Tryd.ntmps31 rfl fun a hF => ?_
 replace hF : Frm 53 [] [(0, .agg #[.int .i64 l.Ring, .slice p l.Starts.length c, .slice p_1 l.Events.length c_1]), (1, .int .i64 lost)] a := hF
 have hS := St.start hD
 unfold r7Homes at h
 refine seq (region (O.box (cs := [.int .i64 l.Ring, .slice p l.Starts.length c, .slice p_1 l.Events.length c_1]) 1 hF rfl rfl hS rfl fun b a w hF hS => step hF (Y.assign hF rfl) rfl fun a hF => step hF (Y.assign hF rfl) rfl fun a hF => nil (then_n (seq (seq (region (step hF (Y.loadNL 1 sz_25 hF rfl hS rfl rfl rfl) rfl fun a hF => ?_)))))))
 obtain ⟨rv, hx, h⟩ := bind_some h
 refine O.callP (us := [.agg #[.int .i64 l.Ring, .slice p l.Starts.length c, .slice p_1 l.Events.length c_1]]) ca_20 hF hS (r7Check_ok hS.stab l hs hs_1 rv hx) rfl rfl fun a w hF hS => step hF (Y.assign hF rfl) rfl fun a hF => nil (then_n (seq (region (step hF (Y.move hF rfl) rfl fun a hF => step hF (Y.neq hF rfl rfl) rfl fun a hF => nil (then_n (cond_b hF rfl (fun hbv => ?_) (fun hbv => ?_)))))))
 ·replace h := cond_t h hbv
  refine seq (region (step hF (Y.move hF rfl) rfl fun a hF => step hF (Y.assign hF rfl) rfl fun a hF => step hF (Y.assign hF rfl) rfl fun a hF => nil (then_n (ret_ (then_r ?_)))))
  obtain rfl := some_inj h
  exact leaveP Tryd.results31 hF hS (.cons (.tmp rfl) (.cons (.tmp rfl) .nil)) .nil rfl
 replace h := cond_f h hbv
 refine skip_ (then_n (seq (seq (region (step hF (Y.move hF rfl) rfl fun a hF => ?_)))))
 obtain ⟨rv_1, hx_1, h⟩ := bind_some h
 refine O.callP (us := [.int .i64 lost, .int .i64 0, .int .i64 3]) ca_50 hF hS (r0Lies_ok hS.stab lost 0 3 rv_1 hx_1) rfl rfl fun a w hF hS => step hF (Y.not hF rfl) rfl fun a hF => nil (then_n (cond_b hF rfl (fun hbv_1 => ?_) (fun hbv_1 => ?_)))
 ·replace h := cond_t h hbv_1
  refine seq (region (step hF (Y.assign hF rfl) rfl fun a hF => step hF (Y.assign hF rfl) rfl fun a hF => nil (then_n (ret_ (then_r ?_)))))
  obtain rfl := some_inj h
  exact leaveP Tryd.results31 hF hS (.cons (.tmp rfl) (.cons (.tmp rfl) .nil)) .nil rfl
 replace h := cond_f h hbv_1
 refine skip_ (then_n (seq (region (step hF (Y.loadNL 1 sz_25 hF rfl hS rfl rfl rfl) rfl fun a hF => ?_))))
 obtain ⟨rv_2, hx_2, h⟩ := bind_some h
 refine O.callS (us := [.agg #[.int .i64 l.Ring, .slice p l.Starts.length c, .slice p_1 l.Events.length c_1]]) ca_76 hF hS (r7every_ok hS.stab l hs hs_1 rv_2 hx_2) rfl rfl fun v Dv a w hR hlev hF hS => ?_
 obtain ⟨p_2, c_2, rfl, hs_2⟩ := hR
 refine step hF (Y.move hF rfl) rfl fun a hF => step hF (Y.extract hF rfl rfl) rfl fun a hF => step hF (Y.extract hF rfl rfl) rfl fun a hF => step hF (Y.assign hF rfl) rfl fun a hF => step hF (Y.assign hF rfl) rfl fun a hF => nil (then_n (seq (seq (region (step hF (Y.move hF rfl) rfl fun a hF => step hF (Y.neq hF rfl rfl) rfl fun a hF => nil (then_n (cond_b hF rfl (fun hbv_2 => ?_) (fun hbv_2 => ?_))))))))
 ·replace h := cond_t h hbv_2
  refine seq (region (step hF (Y.move hF rfl) rfl fun a hF => step hF (Y.assign hF rfl) rfl fun a hF => step hF (Y.assign hF rfl) rfl fun a hF => nil (then_n (ret_ (then_r ?_)))))
  obtain rfl := some_inj h
  exact leaveP Tryd.results31 hF hS (.cons (.tmp rfl) (.cons (.tmp rfl) .nil)) .nil rfl
 replace h := cond_f h hbv_2
 refine skip_ (then_n (seq (region (step hF (Y.assign hF rfl) rfl fun a hF => nil (then_n (seq (seq (region (step hF (Y.assign hF rfl) rfl fun a hF => nil (then_n (block (loop_cut (body := r7Homes_b1 l lost rv_2) (out := out) (fun s a w => ∃ (n : Int) (i : Int), s = (n, i) ∧ Frm 53 [] [(1, .int .i64 lost), (2, .pointer (some ⟨b, 0, none⟩)), (4, .int .i64 0), (5, .int .i64 0), (7, .slice p_2 rv_2.1.length c_2), (9, .int .i64 n), (10, .int .i64 i)] a ∧ St w0 D0 Dv [(1, .cells b [.int .i64 l.Ring, .slice p l.Starts.length c, .slice p_1 l.Events.length c_1] 25)] w) (0, 0) h ⟨0, 0, rfl, hF.weak ⟨rfl, rfl, rfl, rfl, rfl, rfl, rfl, trivial⟩, hS.weak ⟨rfl, trivial⟩⟩ ?_))))))))))))
 rintro s a w xo ⟨n, i, rfl, hF, hS⟩ h hxo
 unfold r7Homes_b1 at h
 dsimp only at h
 refine seq (seq (region (step hF (Y.move hF rfl) rfl fun a hF => step hF (Y.move hF rfl) rfl fun a hF => step hF (Y.lenSl u_22 hF rfl) rfl fun a hF => step hF (Y.lss hF rfl rfl) rfl fun a hF => nil (then_n (cond_b hF rfl (fun hbv_3 => ?_) (fun hbv_3 => ?_))))))
 ·replace h := cond_t h hbv_3
  refine skip_ (then_n (seq (block (seq (draws 12 [(0, true), (1, true), (2, true), (3, true), (4, true), (5, true), (6, true), (7, true), (8, true), (9, true), (10, true), (11, true)] mixed_ (by kernel_rfl) (fun w => St w0 D0 Dv _ w) hS.drew (fun _ _ _ _ h => h) ?_)))))
  replace hS := hS.drew
  refine stepT (i := 0) rfl hF (fun w hS => Y.fieldAddr fo_25_0 hF rfl) rfl fun a hF => stepT (i := 1) rfl hF (fun w hS => Y.load1L 1 sz_3 hF rfl hS rfl rfl) rfl fun a hF => stepT (i := 2) rfl hF (fun w hS => Y.move hF rfl) rfl fun a hF => stepT (i := 3) rfl hF (fun w hS => Y.move hF rfl) rfl fun a hF => ?_
  obtain ⟨e, hx_3, h⟩ := bind_some h
  obtain ⟨b_1, o, hE, hY⟩ := Y.indexS (P := Tryd.prog) (C := C_SlaveStart) (xs := rv_2.1) (T := 22) (x := (.tmp 36)) (y := (.tmp 37)) u_22 sz_57 hF rfl rfl (hs_2).1 hx_3
  obtain ⟨cc, hc, hcell⟩ := hE.open
  obtain rfl := C_SlaveStart.open hc
  refine stepT (i := 4) rfl hF (fun w hS => hY) rfl fun a hF => stepT (i := 5) rfl hF (fun w hS => Y.fieldAddr fo_57_0 hF rfl) rfl fun a hF => stepT (i := 6) rfl hF (fun w hS => Y.load1 sz_3 hF rfl (hcell _ hS.stab 0 _ rfl)) rfl fun a hF => stepT (i := 7) rfl hF (fun w hS => Y.sub hF rfl rfl) rfl fun a hF => stepT (i := 8) rfl hF (fun w hS => Y.fieldAddr fo_25_0 hF rfl) rfl fun a hF => stepT (i := 9) rfl hF (fun w hS => Y.load1L 1 sz_3 hF rfl hS rfl rfl) rfl fun a hF => ?_
  obtain ⟨hg, h⟩ := ite_some h
  refine stepT (i := 10) rfl hF (fun w hS => Y.rem hF rfl rfl hg) rfl fun a hF => stepT (i := 11) rfl hF (fun w hS => Y.assign hF rfl) rfl fun a hF => toTail (nil (then_n (seq (region (step hF (Y.move hF rfl) rfl fun a hF => step hF (Y.gtr hF rfl rfl) rfl fun a hF => nil (then_n (cond_b hF rfl (fun hbv_4 => ?_) (fun hbv_4 => ?_))))))))
  ·replace h := cond_t h hbv_4
   refine region (step hF (Y.move hF rfl) rfl fun a hF => step hF (Y.move hF rfl) rfl fun a hF => step hF (Y.move hF rfl) rfl fun a hF => step hF (Y.add hF rfl rfl) rfl fun a hF => step hF (Y.max2 hF rfl rfl) rfl fun a hF => step hF (Y.assign hF rfl) rfl fun a hF => nil (blk_n (then_n (region (step hF (Y.move hF rfl) rfl fun a hF => step hF (Y.add hF rfl rfl) rfl fun a hF => step hF (Y.assign hF rfl) rfl fun a hF => nil (then_n (⟨_, nxt_some h, (if wr ((Int.tmod (wr (l.Ring - e.Shown)) l.Ring) + lost) > n then wr ((Int.tmod (wr (l.Ring - e.Shown)) l.Ring) + lost) else n), (wr (i + 1)), rfl, hF.weak ⟨rfl, rfl, rfl, rfl, rfl, rfl, rfl, trivial⟩, hS.weak ⟨rfl, trivial⟩⟩)))))))
  replace h := cond_f h hbv_4
  refine skip_ (blk_n (then_n (region (step hF (Y.move hF rfl) rfl fun a hF => step hF (Y.add hF rfl rfl) rfl fun a hF => step hF (Y.assign hF rfl) rfl fun a hF => nil (then_n (⟨_, nxt_some h, n, (wr (i + 1)), rfl, hF.weak ⟨rfl, rfl, rfl, rfl, rfl, rfl, rfl, trivial⟩, hS.weak ⟨rfl, trivial⟩⟩))))))
 replace h := cond_f h hbv_3
 refine exit_ (then_x (then_x (blk_hit (then_n ?_))))
 replace h := ext_some h hxo
 refine seq (region (step hF (Y.move hF rfl) rfl fun a hF => step hF (Y.assign hF rfl) rfl fun a hF => step hF (Y.assign hF rfl) rfl fun a hF => nil (then_n (ret_ ?_))))
 obtain rfl := some_inj h
 exact leaveP Tryd.results31 hF hS (.cons (.tmp rfl) (.cons (.tmp rfl) .nil)) .nil rfl
end Go.Proofs.YtmbgmefmkjeahaaDoor.Rt
