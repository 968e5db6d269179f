/- Walks of the functions of this seat: what each Go function comes to, as a Lean function, and the proof. Part WR2. Under no conditions. -/
import Derived.Test.YtmbgmefmkjeahaaDoorC6WR1
set_option linter.unusedVariables false
set_option linter.unusedSimpArgs false
set_option maxRecDepth 100000
set_option maxHeartbeats 4000000
namespace Go.Proofs.YtmbgmefmkjeahaaDoor.Rt
open Go Go.RowKit
noncomputable def r7Sets (l : SlaveLine) (minute : Int) (p_2 : SlavePlan) : Option (Bool × Int) :=
  (r7Check l).bind fun rv =>
  cond (rv != 0)
  (some (false, rv))
  ((r0Lies minute 0 (wr (l.Ring - 1))).bind fun rv_1 =>
  (cond (!rv_1) (some true) ((r0Lies p_2.Pre (-1) 1).bind fun rv_2 =>
  some (!rv_2))).bind fun t =>
  (cond t (some true) ((r0Lies p_2.Home 0 60).bind fun rv_3 =>
  some (!rv_3))).bind fun t_1 =>
  (cond t_1 (some true) ((r0Lies p_2.First 0 1).bind fun rv_4 =>
  some (!rv_4))).bind fun t_2 =>
  (cond t_2 (some true) ((r0Lies p_2.Send 0 60).bind fun rv_5 =>
  some (!rv_5))).bind fun t_3 =>
  cond t_3
  (some (false, 71))
  ((r7every l).bind fun rv_6 =>
  cond (rv_6.2 != 0)
  (some (false, rv_6.2))
  ((r7sets l rv_6.1 minute p_2).bind fun rv_7 =>
  some (rv_7, 0))))
theorem r7Sets_ok {w0 : World} {D0 : Stab} (hD : D0.on w0) (l : SlaveLine) (minute : Int) (p_2 : SlavePlan) {p : Option Addr} {c : Nat} {p_1 : Option Addr} {c_1 : Nat} (hs : SRc C_SlaveStart D0 l.Starts p c) (hs_1 : SRc C_SlaveEvent D0 l.Events p_1 c_1) (out : (Bool × Int)) (h : r7Sets l minute p_2 = some out) : Calls Tryd.prog 33 [.agg #[.int .i64 l.Ring, .slice p l.Starts.length c, .slice p_1 l.Events.length c_1], .int .i64 minute, .agg #[.int .i64 p_2.Pre, .int .i64 p_2.Home, .int .i64 p_2.First, .int .i64 p_2.Send]].toArray w0 (RetP D0 w0 (.tuple #[.bool out.1, .int .i64 out.2])) := by
 refine enter _ 59 Tryd.func33 rfl Tryd.ntmps33 rfl fun a hF => ?_
 replace hF : Frm 59 [] [(0, .agg #[.int .i64 l.Ring, .slice p l.Starts.length c, .slice p_1 l.Events.length c_1]), (1, .int .i64 minute), (2, .agg #[.int .i64 p_2.Pre, .int .i64 p_2.Home, .int .i64 p_2.First, .int .i64 p_2.Send])] a := hF
 have hS := St.start hD
 unfold r7Sets at h
 refine seq (region (O.box (cs := [.int .i64 l.Ring, .slice p l.Starts.length c, .slice p_1 l.Events.length c_1]) 1 hF rfl rfl hS rfl fun b a w hF hS => O.box (cs := [.int .i64 p_2.Pre, .int .i64 p_2.Home, .int .i64 p_2.First, .int .i64 p_2.Send]) 2 hF rfl rfl hS rfl fun b_1 a w hF hS => step hF (Y.assign hF rfl) rfl fun a hF => step hF (Y.assign hF rfl) rfl fun a hF => nil (then_n (seq (seq (region (step hF (Y.loadNL 1 sz_25 hF rfl hS rfl rfl rfl) rfl fun a hF => ?_)))))))
 obtain ⟨rv, hx, h⟩ := bind_some h
 refine O.callP (us := [.agg #[.int .i64 l.Ring, .slice p l.Starts.length c, .slice p_1 l.Events.length c_1]]) ca_20 hF hS (r7Check_ok hS.stab l hs hs_1 rv hx) rfl rfl fun a w hF hS => step hF (Y.assign hF rfl) rfl fun a hF => nil (then_n (seq (region (step hF (Y.move hF rfl) rfl fun a hF => step hF (Y.neq hF rfl rfl) rfl fun a hF => nil (then_n (cond_b hF rfl (fun hbv => ?_) (fun hbv => ?_)))))))
 ·replace h := cond_t h hbv
  refine seq (region (step hF (Y.move hF rfl) rfl fun a hF => step hF (Y.assign hF rfl) rfl fun a hF => step hF (Y.assign hF rfl) rfl fun a hF => nil (then_n (ret_ (then_r ?_)))))
  obtain rfl := some_inj h
  exact leaveP Tryd.results33 hF hS (.cons (.tmp rfl) (.cons (.tmp rfl) .nil)) .nil rfl
 replace h := cond_f h hbv
 refine skip_ (then_n (seq (seq (region (step hF (Y.move hF rfl) rfl fun a hF => step hF (Y.fieldAddr fo_25_0 hF rfl) rfl fun a hF => step hF (Y.load1L 1 sz_3 hF rfl hS rfl rfl) rfl fun a hF => step hF (Y.sub hF rfl rfl) rfl fun a hF => ?_)))))
 obtain ⟨rv_1, hx_1, h⟩ := bind_some h
 refine O.callP (us := [.int .i64 minute, .int .i64 0, .int .i64 (wr (l.Ring - 1))]) ca_50 hF hS (r0Lies_ok hS.stab minute 0 (wr (l.Ring - 1)) rv_1 hx_1) rfl rfl fun a w hF hS => step hF (Y.not hF rfl) rfl fun a hF => step hF (Y.move hF rfl) rfl fun a hF => ?_
 obtain ⟨t, ht, h⟩ := bind_some h
 refine join (N := 59) (rs := []) (w0 := w0) (D0 := D0) 5 (us := [(1, .int .i64 minute), (3, .pointer (some ⟨b, 0, none⟩)), (5, .pointer (some ⟨b_1, 0, none⟩)), (6, .bool false), (7, .int .i64 0), (27, .bool t)]) (ms := [(1, .cells b [.int .i64 l.Ring, .slice p l.Starts.length c, .slice p_1 l.Events.length c_1] 25), (2, .cells b_1 [.int .i64 p_2.Pre, .int .i64 p_2.Home, .int .i64 p_2.First, .int .i64 p_2.Send] 49)]) (D' := D0) ?_ ?_
 ·rcases bcases (!rv_1) with hbv_1 | hbv_1
  ·skip
   replace h := cond_t ht hbv_1
   refine guard_off hF rfl rfl hbv_1 rfl fun a hF => guard_off hF rfl rfl hbv_1 rfl fun a hF => guard_off hF rfl rfl hbv_1 rfl fun a hF => guard_off hF rfl rfl hbv_1 rfl fun a hF => step hF (Y.pick_t hF rfl hbv_1 rfl) rfl fun a hF => ?_
   obtain rfl := some_inj h
   exact nil (then_n ⟨hF.weak ⟨rfl, rfl, rfl, rfl, rfl, rfl, trivial⟩, hS.weak ⟨rfl, rfl, trivial⟩⟩)
  replace h := cond_f ht hbv_1
  refine guard_on hF rfl rfl hbv_1 (step hF (Y.fieldAddr fo_49_0 hF rfl) rfl fun a hF => guard_on hF rfl rfl hbv_1 (step hF (Y.load1L 2 sz_3 hF rfl hS rfl rfl) rfl fun a hF => guard_on hF rfl rfl hbv_1 ?_))
  obtain ⟨rv_2, hx_2, h⟩ := bind_some h
  refine O.callP (us := [.int .i64 p_2.Pre, .int .i64 (-1), .int .i64 1]) ca_50 hF hS (r0Lies_ok hS.stab p_2.Pre (-1) 1 rv_2 hx_2) rfl rfl fun a w hF hS => guard_on hF rfl rfl hbv_1 (step hF (Y.not hF rfl) rfl fun a hF => step hF (Y.pick_f hF rfl hbv_1 rfl) rfl fun a hF => ?_)
  obtain rfl := some_inj h
  exact nil (then_n ⟨hF.weak ⟨rfl, rfl, rfl, rfl, rfl, rfl, trivial⟩, hS.weak ⟨rfl, rfl, trivial⟩⟩)
 intro a w hF hS
 refine step hF (Y.move hF rfl) rfl fun a hF => ?_
 obtain ⟨t_1, ht_1, h⟩ := bind_some h
 refine join (N := 59) (rs := []) (w0 := w0) (D0 := D0) 5 (us := [(1, .int .i64 minute), (3, .pointer (some ⟨b, 0, none⟩)), (5, .pointer (some ⟨b_1, 0, none⟩)), (6, .bool false), (7, .int .i64 0), (33, .bool t_1)]) (ms := [(1, .cells b [.int .i64 l.Ring, .slice p l.Starts.length c, .slice p_1 l.Events.length c_1] 25), (2, .cells b_1 [.int .i64 p_2.Pre, .int .i64 p_2.Home, .int .i64 p_2.First, .int .i64 p_2.Send] 49)]) (D' := D0) ?_ ?_
 ·rcases bcases t with hbv_2 | hbv_2
  ·skip
   replace h := cond_t ht_1 hbv_2
   refine guard_off hF rfl rfl hbv_2 rfl fun a hF => guard_off hF rfl rfl hbv_2 rfl fun a hF => guard_off hF rfl rfl hbv_2 rfl fun a hF => guard_off hF rfl rfl hbv_2 rfl fun a hF => step hF (Y.pick_t hF rfl hbv_2 rfl) rfl fun a hF => ?_
   obtain rfl := some_inj h
   exact nil (then_n ⟨hF.weak ⟨rfl, rfl, rfl, rfl, rfl, rfl, trivial⟩, hS.weak ⟨rfl, rfl, trivial⟩⟩)
  replace h := cond_f ht_1 hbv_2
  refine guard_on hF rfl rfl hbv_2 (step hF (Y.fieldAddr fo_49_1 hF rfl) rfl fun a hF => guard_on hF rfl rfl hbv_2 (step hF (Y.load1L 2 sz_3 hF rfl hS rfl rfl) rfl fun a hF => guard_on hF rfl rfl hbv_2 ?_))
  obtain ⟨rv_3, hx_3, h⟩ := bind_some h
  refine O.callP (us := [.int .i64 p_2.Home, .int .i64 0, .int .i64 60]) ca_50 hF hS (r0Lies_ok hS.stab p_2.Home 0 60 rv_3 hx_3) rfl rfl fun a w hF hS => guard_on hF rfl rfl hbv_2 (step hF (Y.not hF rfl) rfl fun a hF => step hF (Y.pick_f hF rfl hbv_2 rfl) rfl fun a hF => ?_)
  obtain rfl := some_inj h
  exact nil (then_n ⟨hF.weak ⟨rfl, rfl, rfl, rfl, rfl, rfl, trivial⟩, hS.weak ⟨rfl, rfl, trivial⟩⟩)
 intro a w hF hS
 refine step hF (Y.move hF rfl) rfl fun a hF => ?_
 obtain ⟨t_2, ht_2, h⟩ := bind_some h
 refine join (N := 59) (rs := []) (w0 := w0) (D0 := D0) 5 (us := [(1, .int .i64 minute), (3, .pointer (some ⟨b, 0, none⟩)), (5, .pointer (some ⟨b_1, 0, none⟩)), (6, .bool false), (7, .int .i64 0), (39, .bool t_2)]) (ms := [(1, .cells b [.int .i64 l.Ring, .slice p l.Starts.length c, .slice p_1 l.Events.length c_1] 25), (2, .cells b_1 [.int .i64 p_2.Pre, .int .i64 p_2.Home, .int .i64 p_2.First, .int .i64 p_2.Send] 49)]) (D' := D0) ?_ ?_
 ·rcases bcases t_1 with hbv_3 | hbv_3
  ·skip
   replace h := cond_t ht_2 hbv_3
   refine guard_off hF rfl rfl hbv_3 rfl fun a hF => guard_off hF rfl rfl hbv_3 rfl fun a hF => guard_off hF rfl rfl hbv_3 rfl fun a hF => guard_off hF rfl rfl hbv_3 rfl fun a hF => step hF (Y.pick_t hF rfl hbv_3 rfl) rfl fun a hF => ?_
   obtain rfl := some_inj h
   exact nil (then_n ⟨hF.weak ⟨rfl, rfl, rfl, rfl, rfl, rfl, trivial⟩, hS.weak ⟨rfl, rfl, trivial⟩⟩)
  replace h := cond_f ht_2 hbv_3
  refine guard_on hF rfl rfl hbv_3 (step hF (Y.fieldAddr fo_49_2 hF rfl) rfl fun a hF => guard_on hF rfl rfl hbv_3 (step hF (Y.load1L 2 sz_3 hF rfl hS rfl rfl) rfl fun a hF => guard_on hF rfl rfl hbv_3 ?_))
  obtain ⟨rv_4, hx_4, h⟩ := bind_some h
  refine O.callP (us := [.int .i64 p_2.First, .int .i64 0, .int .i64 1]) ca_50 hF hS (r0Lies_ok hS.stab p_2.First 0 1 rv_4 hx_4) rfl rfl fun a w hF hS => guard_on hF rfl rfl hbv_3 (step hF (Y.not hF rfl) rfl fun a hF => step hF (Y.pick_f hF rfl hbv_3 rfl) rfl fun a hF => ?_)
  obtain rfl := some_inj h
  exact nil (then_n ⟨hF.weak ⟨rfl, rfl, rfl, rfl, rfl, rfl, trivial⟩, hS.weak ⟨rfl, rfl, trivial⟩⟩)
 intro a w hF hS
 refine step hF (Y.move hF rfl) rfl fun a hF => ?_
 obtain ⟨t_3, ht_3, h⟩ := bind_some h
 refine join (N := 59) (rs := []) (w0 := w0) (D0 := D0) 5 (us := [(1, .int .i64 minute), (3, .pointer (some ⟨b, 0, none⟩)), (5, .pointer (some ⟨b_1, 0, none⟩)), (6, .bool false), (7, .int .i64 0), (45, .bool t_3)]) (ms := [(1, .cells b [.int .i64 l.Ring, .slice p l.Starts.length c, .slice p_1 l.Events.length c_1] 25), (2, .cells b_1 [.int .i64 p_2.Pre, .int .i64 p_2.Home, .int .i64 p_2.First, .int .i64 p_2.Send] 49)]) (D' := D0) ?_ ?_
 ·rcases bcases t_2 with hbv_4 | hbv_4
  ·skip
   replace h := cond_t ht_3 hbv_4
   refine guard_off hF rfl rfl hbv_4 rfl fun a hF => guard_off hF rfl rfl hbv_4 rfl fun a hF => guard_off hF rfl rfl hbv_4 rfl fun a hF => guard_off hF rfl rfl hbv_4 rfl fun a hF => step hF (Y.pick_t hF rfl hbv_4 rfl) rfl fun a hF => ?_
   obtain rfl := some_inj h
   exact nil (then_n ⟨hF.weak ⟨rfl, rfl, rfl, rfl, rfl, rfl, trivial⟩, hS.weak ⟨rfl, rfl, trivial⟩⟩)
  replace h := cond_f ht_3 hbv_4
  refine guard_on hF rfl rfl hbv_4 (step hF (Y.fieldAddr fo_49_3 hF rfl) rfl fun a hF => guard_on hF rfl rfl hbv_4 (step hF (Y.load1L 2 sz_3 hF rfl hS rfl rfl) rfl fun a hF => guard_on hF rfl rfl hbv_4 ?_))
  obtain ⟨rv_5, hx_5, h⟩ := bind_some h
  refine O.callP (us := [.int .i64 p_2.Send, .int .i64 0, .int .i64 60]) ca_50 hF hS (r0Lies_ok hS.stab p_2.Send 0 60 rv_5 hx_5) rfl rfl fun a w hF hS => guard_on hF rfl rfl hbv_4 (step hF (Y.not hF rfl) rfl fun a hF => step hF (Y.pick_f hF rfl hbv_4 rfl) rfl fun a hF => ?_)
  obtain rfl := some_inj h
  exact nil (then_n ⟨hF.weak ⟨rfl, rfl, rfl, rfl, rfl, rfl, trivial⟩, hS.weak ⟨rfl, rfl, trivial⟩⟩)
 intro a w hF hS
 refine nil (then_n (cond_b hF rfl (fun hbv_5 => ?_) (fun hbv_5 => ?_)))
 ·replace h := cond_t h hbv_5
  refine seq (region (step hF (Y.assign hF rfl) rfl fun a hF => step hF (Y.assign hF rfl) rfl fun a hF => nil (then_n (ret_ (then_r ?_)))))
  obtain rfl := some_inj h
  exact leaveP Tryd.results33 hF hS (.cons (.tmp rfl) (.cons (.tmp rfl) .nil)) .nil rfl
 replace h := cond_f h hbv_5
 refine skip_ (then_n (seq (region (step hF (Y.loadNL 1 sz_25 hF rfl hS rfl rfl rfl) rfl fun a hF => ?_))))
 obtain ⟨rv_6, hx_6, h⟩ := bind_some h
 refine O.callS (us := [.agg #[.int .i64 l.Ring, .slice p l.Starts.length c, .slice p_1 l.Events.length c_1]]) ca_76 hF hS (r7every_ok hS.stab l hs hs_1 rv_6 hx_6) rfl rfl fun v Dv a w hR hlev hF hS => ?_
 replace hs := hs.mono hlev
 replace hs_1 := hs_1.mono hlev
 obtain ⟨p_3, c_2, rfl, hs_2⟩ := hR
 refine step hF (Y.move hF rfl) rfl fun a hF => step hF (Y.extract hF rfl rfl) rfl fun a hF => step hF (Y.extract hF rfl rfl) rfl fun a hF => step hF (Y.assign hF rfl) rfl fun a hF => step hF (Y.assign hF rfl) rfl fun a hF => nil (then_n (seq (seq (region (step hF (Y.move hF rfl) rfl fun a hF => step hF (Y.neq hF rfl rfl) rfl fun a hF => nil (then_n (cond_b hF rfl (fun hbv_6 => ?_) (fun hbv_6 => ?_))))))))
 ·replace h := cond_t h hbv_6
  refine seq (region (step hF (Y.move hF rfl) rfl fun a hF => step hF (Y.assign hF rfl) rfl fun a hF => step hF (Y.assign hF rfl) rfl fun a hF => nil (then_n (ret_ (then_r ?_)))))
  obtain rfl := some_inj h
  exact leaveP Tryd.results33 hF hS (.cons (.tmp rfl) (.cons (.tmp rfl) .nil)) .nil rfl
 replace h := cond_f h hbv_6
 refine skip_ (then_n (seq (region (step hF (Y.loadNL 1 sz_25 hF rfl hS rfl rfl rfl) rfl fun a hF => step hF (Y.move hF rfl) rfl fun a hF => step hF (Y.move hF rfl) rfl fun a hF => step hF (Y.loadNL 2 sz_49 hF rfl hS rfl rfl rfl) rfl fun a hF => ?_))))
 obtain ⟨rv_7, hx_7, h⟩ := bind_some h
 refine O.callP (us := [.agg #[.int .i64 l.Ring, .slice p l.Starts.length c, .slice p_1 l.Events.length c_1], .slice p_3 rv_6.1.length c_2, .int .i64 minute, .agg #[.int .i64 p_2.Pre, .int .i64 p_2.Home, .int .i64 p_2.First, .int .i64 p_2.Send]]) ca_78 hF hS (r7sets_ok hS.stab l rv_6.1 minute p_2 hs hs_1 hs_2 rv_7 hx_7) rfl rfl fun a w hF hS => step hF (Y.assign hF rfl) rfl fun a hF => step hF (Y.assign hF rfl) rfl fun a hF => nil (then_n (ret_ ?_))
 obtain rfl := some_inj h
 exact leaveP Tryd.results33 hF hS (.cons (.tmp rfl) (.cons (.tmp rfl) .nil)) .nil rfl
noncomputable def r7Pulses_k1 (n : Int) : Option Int :=
  some n
noncomputable def r7Pulses (p : SlavePlan) : Option Int :=
  cond (decide (p.Pre ≥ 0))
  (r7Pulses_k1 (wr ((wr (p.Home + p.Send)) + 1)))
  (r7Pulses_k1 (wr (p.Home + p.Send)))
theorem r7Pulses_ok {w0 : World} {D0 : Stab} (hD : D0.on w0) (p : SlavePlan) (out : Int) (h : r7Pulses p = some out) : Calls Tryd.prog 81 [.agg #[.int .i64 p.Pre, .int .i64 p.Home, .int .i64 p.First, .int .i64 p.Send]].toArray w0 (RetP D0 w0 (.int .i64 out)) := by
 refine enter _ 15 Tryd.func81 rfl Tryd.ntmps81 rfl fun a hF => ?_
 replace hF : Frm 15 [] [(0, .agg #[.int .i64 p.Pre, .int .i64 p.Home, .int .i64 p.First, .int .i64 p.Send])] a := hF
 have hS := St.start hD
 unfold r7Pulses at h
 refine seq (region (O.box (cs := [.int .i64 p.Pre, .int .i64 p.Home, .int .i64 p.First, .int .i64 p.Send]) 1 hF rfl rfl hS rfl fun b a w hF hS => step hF (Y.assign hF rfl) rfl fun a hF => nil (then_n (seq (region (step hF (Y.fieldAddr fo_49_1 hF rfl) rfl fun a hF => step hF (Y.load1L 1 sz_3 hF rfl hS rfl rfl) rfl fun a hF => step hF (Y.fieldAddr fo_49_3 hF rfl) rfl fun a hF => step hF (Y.load1L 1 sz_3 hF rfl hS rfl rfl) rfl fun a hF => step hF (Y.add hF rfl rfl) rfl fun a hF => step hF (Y.assign hF rfl) rfl fun a hF => nil (then_n (seq_cut (fun a w => ∃ (n : Int), Frm 15 [] [(2, .int .i64 0), (3, .int .i64 n)] a ∧ St w0 D0 D0 [(1, .cells b [.int .i64 p.Pre, .int .i64 p.Home, .int .i64 p.First, .int .i64 p.Send] 49)] w ∧ r7Pulses_k1 n = some out) ?_ ?_))))))))
 ·skip
  refine seq (region (step hF (Y.fieldAddr fo_49_0 hF rfl) rfl fun a hF => step hF (Y.load1L 1 sz_3 hF rfl hS rfl rfl) rfl fun a hF => step hF (Y.geq hF rfl rfl) rfl fun a hF => nil (then_n (cond_b hF rfl (fun hbv => ?_) (fun hbv => ?_)))))
  ·replace h := cond_t h hbv
   refine region (step hF (Y.move hF rfl) rfl fun a hF => step hF (Y.add hF rfl rfl) rfl fun a hF => step hF (Y.assign hF rfl) rfl fun a hF => nil (then_n (⟨(wr ((wr (p.Home + p.Send)) + 1)), hF.weak ⟨rfl, rfl, trivial⟩, hS.weak ⟨rfl, trivial⟩, h⟩)))
  replace h := cond_f h hbv
  refine skip_ (then_n (⟨(wr (p.Home + p.Send)), hF.weak ⟨rfl, rfl, trivial⟩, hS.weak ⟨rfl, trivial⟩, h⟩))
 rintro a w ⟨n, hF, hS, h⟩
 unfold r7Pulses_k1 at h
 refine seq (region (step hF (Y.move hF rfl) rfl fun a hF => step hF (Y.assign hF rfl) rfl fun a hF => nil (then_n (ret_ ?_))))
 obtain rfl := some_inj h
 exact leaveP Tryd.results81 hF hS (.cons (.tmp rfl) .nil) .nil rfl
noncomputable def r7Set_b4 (l : SlaveLine) (minute : Int) (rv_2 : ((List SlaveStart) × Int)) (pre : Int) (home : Int) (first : Int) : (Int × Int × Int × Int × Int) → Option ((Int × Int × Int × Int × Int) ⊕ ((Int × Int × Int × Int × Int) ⊕ ((Int × Int × Int × Int × Int) ⊕ ((Int × Int × Int × Int × Int) ⊕ (SlavePlan × Int)))))
 | (send, z_12, z_13, z_14, z_15) =>
  cond (decide (send ≤ 60))
  ((r7Pulses (SlavePlan.mk pre home first send)).bind fun rv_3 =>
  (r7Pulses (SlavePlan.mk z_12 z_13 z_14 z_15)).bind fun rv_4 =>
  (cond (decide (rv_3 < rv_4)) ((r7sets l rv_2.1 minute (SlavePlan.mk pre home first send)).bind fun rv_5 =>
  some rv_5) (some false)).bind fun t =>
  cond t
  (nxt (wr (send + 1), pre, home, first, send))
  (nxt (wr (send + 1), z_12, z_13, z_14, z_15)))
  (ext (nxt (wr (first + 1), z_12, z_13, z_14, z_15)))
noncomputable def r7Set_b3 (l : SlaveLine) (minute : Int) (rv_2 : ((List SlaveStart) × Int)) (pre : Int) (home : Int) : (Int × Int × Int × Int × Int) → Option ((Int × Int × Int × Int × Int) ⊕ ((Int × Int × Int × Int × Int) ⊕ ((Int × Int × Int × Int × Int) ⊕ (SlavePlan × Int))))
 | (first, z_8, z_9, z_10, z_11) =>
  cond (decide (first ≤ 1))
  (loopU (r7Set_b4 l minute rv_2 pre home first) (0, z_8, z_9, z_10, z_11))
  (ext (nxt (wr (home + 1), z_8, z_9, z_10, z_11)))
noncomputable def r7Set_b2 (l : SlaveLine) (minute : Int) (rv_2 : ((List SlaveStart) × Int)) (pre : Int) : (Int × Int × Int × Int × Int) → Option ((Int × Int × Int × Int × Int) ⊕ ((Int × Int × Int × Int × Int) ⊕ (SlavePlan × Int)))
 | (home, z_4, z_5, z_6, z_7) =>
  cond (decide (home ≤ 60))
  (loopU (r7Set_b3 l minute rv_2 pre home) (0, z_4, z_5, z_6, z_7))
  (ext (nxt (wr (pre + 1), z_4, z_5, z_6, z_7)))
noncomputable def r7Set_b1 (l : SlaveLine) (minute : Int) (rv_2 : ((List SlaveStart) × Int)) : (Int × Int × Int × Int × Int) → Option ((Int × Int × Int × Int × Int) ⊕ (SlavePlan × Int))
 | (pre, z, z_1, z_2, z_3) =>
  cond (decide (pre ≤ 1))
  (loopU (r7Set_b2 l minute rv_2 pre) (0, z, z_1, z_2, z_3))
  (ext (some ((SlavePlan.mk z z_1 z_2 z_3), 0)))
noncomputable def r7Set (l : SlaveLine) (minute : Int) : Option (SlavePlan × Int) :=
  (r7Check l).bind fun rv =>
  cond (rv != 0)
  (some ((SlavePlan.mk 0 0 0 0), rv))
  ((r0Lies minute 0 (wr (l.Ring - 1))).bind fun rv_1 =>
  cond (!rv_1)
  (some ((SlavePlan.mk 0 0 0 0), 71))
  ((r7every l).bind fun rv_2 =>
  cond (rv_2.2 != 0)
  (some ((SlavePlan.mk 0 0 0 0), rv_2.2))
  (loopU (r7Set_b1 l minute rv_2) (-1, 0, 1000, 0, 0))))
theorem r7Set_ok {w0 : World} {D0 : Stab} (hD : D0.on w0) (l : SlaveLine) (minute : Int) {p : Option Addr} {c : Nat} {p_1 : Option Addr} {c_1 : Nat} (hs : SRc C_SlaveStart D0 l.Starts p c) (hs_1 : SRc C_SlaveEvent D0 l.Events p_1 c_1) (out : (SlavePlan × Int)) (h : r7Set l minute = some out) : Calls Tryd.prog 35 [.agg #[.int .i64 l.Ring, .slice p l.Starts.length c, .slice p_1 l.Events.length c_1], .int .i64 minute].toArray w0 (RetP D0 w0 (.tuple #[.agg #[.int .i64 out.1.Pre, .int .i64 out.1.Home, .int .i64 out.1.First, .int .i64 out.1.Send], .int .i64 out.2])) := by
 refine enter _ 73 Tryd.func35 rfl Tryd.ntmps35 rfl fun a hF => ?_
 replace hF : Frm 73 [] [(0, .agg #[.int .i64 l.Ring, .slice p l.Starts.length c, .slice p_1 l.Events.length c_1]), (1, .int .i64 minute)] a := hF
 have hS := St.start hD
 unfold r7Set at h
 refine seq (region (O.box (cs := [.int .i64 l.Ring, .slice p l.Starts.length c, .slice p_1 l.Events.length c_1]) 1 hF rfl rfl hS rfl fun b a w hF hS => O.alloc 2 zc_49 hF hS rfl fun b_1 a w hF hS => step hF (Y.assign hF rfl) rfl fun a hF => nil (then_n (seq (seq (region (step hF (Y.loadNL 1 sz_25 hF rfl hS rfl rfl rfl) rfl fun a hF => ?_)))))))
 obtain ⟨rv, hx, h⟩ := bind_some h
 refine O.callP (us := [.agg #[.int .i64 l.Ring, .slice p l.Starts.length c, .slice p_1 l.Events.length c_1]]) ca_20 hF hS (r7Check_ok hS.stab l hs hs_1 rv hx) rfl rfl fun a w hF hS => step hF (Y.assign hF rfl) rfl fun a hF => nil (then_n (seq (region (step hF (Y.move hF rfl) rfl fun a hF => step hF (Y.neq hF rfl rfl) rfl fun a hF => nil (then_n (cond_b hF rfl (fun hbv => ?_) (fun hbv => ?_)))))))
 ·replace h := cond_t h hbv
  refine seq (region (step hF (Y.build (parts := []) (cs := #[.int .i64 0, .int .i64 0, .int .i64 0, .int .i64 0]) hF rfl (by kernel_rfl)) rfl fun a hF => step hF (Y.move hF rfl) rfl fun a hF => O.store (us := [.int .i64 0, .int .i64 0, .int .i64 0, .int .i64 0]) 2 sz_49 hF rfl rfl rfl rfl hS rfl rfl fun a w hF hS => step hF (Y.assign hF rfl) rfl fun a hF => nil (then_n (ret_ (then_r ?_)))))
  obtain rfl := some_inj h
  exact leaveP Tryd.results35 hF hS (.cons (.cellN 2 sz_49 rfl rfl rfl) (.cons (.tmp rfl) .nil)) .nil rfl
 replace h := cond_f h hbv
 refine skip_ (then_n (seq (seq (region (step hF (Y.move hF rfl) rfl fun a hF => step hF (Y.fieldAddr fo_25_0 hF rfl) rfl fun a hF => step hF (Y.load1L 1 sz_3 hF rfl hS rfl rfl) rfl fun a hF => step hF (Y.sub hF rfl rfl) rfl fun a hF => ?_)))))
 obtain ⟨rv_1, hx_1, h⟩ := bind_some h
 refine O.callP (us := [.int .i64 minute, .int .i64 0, .int .i64 (wr (l.Ring - 1))]) ca_50 hF hS (r0Lies_ok hS.stab minute 0 (wr (l.Ring - 1)) rv_1 hx_1) rfl rfl fun a w hF hS => step hF (Y.not hF rfl) rfl fun a hF => nil (then_n (cond_b hF rfl (fun hbv_1 => ?_) (fun hbv_1 => ?_)))
 ·replace h := cond_t h hbv_1
  refine seq (region (step hF (Y.build (parts := []) (cs := #[.int .i64 0, .int .i64 0, .int .i64 0, .int .i64 0]) hF rfl (by kernel_rfl)) rfl fun a hF => O.store (us := [.int .i64 0, .int .i64 0, .int .i64 0, .int .i64 0]) 2 sz_49 hF rfl rfl rfl rfl hS rfl rfl fun a w hF hS => step hF (Y.assign hF rfl) rfl fun a hF => nil (then_n (ret_ (then_r ?_)))))
  obtain rfl := some_inj h
  exact leaveP Tryd.results35 hF hS (.cons (.cellN 2 sz_49 rfl rfl rfl) (.cons (.tmp rfl) .nil)) .nil rfl
 replace h := cond_f h hbv_1
 refine skip_ (then_n (seq (region (step hF (Y.loadNL 1 sz_25 hF rfl hS rfl rfl rfl) rfl fun a hF => ?_))))
 obtain ⟨rv_2, hx_2, h⟩ := bind_some h
 refine O.callS (us := [.agg #[.int .i64 l.Ring, .slice p l.Starts.length c, .slice p_1 l.Events.length c_1]]) ca_76 hF hS (r7every_ok hS.stab l hs hs_1 rv_2 hx_2) rfl rfl fun v Dv a w hR hlev hF hS => ?_
 replace hs := hs.mono hlev
 replace hs_1 := hs_1.mono hlev
 obtain ⟨p_2, c_2, rfl, hs_2⟩ := hR
 refine step hF (Y.move hF rfl) rfl fun a hF => step hF (Y.extract hF rfl rfl) rfl fun a hF => step hF (Y.extract hF rfl rfl) rfl fun a hF => step hF (Y.assign hF rfl) rfl fun a hF => step hF (Y.assign hF rfl) rfl fun a hF => nil (then_n (seq (seq (region (step hF (Y.move hF rfl) rfl fun a hF => step hF (Y.neq hF rfl rfl) rfl fun a hF => nil (then_n (cond_b hF rfl (fun hbv_2 => ?_) (fun hbv_2 => ?_))))))))
 ·replace h := cond_t h hbv_2
  refine seq (region (step hF (Y.build (parts := []) (cs := #[.int .i64 0, .int .i64 0, .int .i64 0, .int .i64 0]) hF rfl (by kernel_rfl)) rfl fun a hF => step hF (Y.move hF rfl) rfl fun a hF => O.store (us := [.int .i64 0, .int .i64 0, .int .i64 0, .int .i64 0]) 2 sz_49 hF rfl rfl rfl rfl hS rfl rfl fun a w hF hS => step hF (Y.assign hF rfl) rfl fun a hF => nil (then_n (ret_ (then_r ?_)))))
  obtain rfl := some_inj h
  exact leaveP Tryd.results35 hF hS (.cons (.cellN 2 sz_49 rfl rfl rfl) (.cons (.tmp rfl) .nil)) .nil rfl
 replace h := cond_f h hbv_2
 refine skip_ (then_n (seq (region (step hF (Y.build (parts := [(1, (.const (.int .i64 1000)))]) (cs := #[.int .i64 0, .int .i64 1000, .int .i64 0, .int .i64 0]) hF rfl (by kernel_rfl)) rfl fun a hF => O.alloc 3 zc_49 hF hS rfl fun b_2 a w hF hS => O.store (us := [.int .i64 0, .int .i64 1000, .int .i64 0, .int .i64 0]) 3 sz_49 hF rfl rfl rfl rfl hS rfl rfl fun a w hF hS => nil (then_n (seq (seq (region (step hF (Y.assign hF rfl) rfl fun a hF => nil (then_n (block (loop_cut (body := r7Set_b1 l minute rv_2) (out := out) (fun s a w => ∃ (pre : Int) (z : Int) (z_1 : Int) (z_2 : Int) (z_3 : Int), ∃ (Dv_1 : Stab), s = (pre, z, z_1, z_2, z_3) ∧ Dv.le Dv_1 ∧ Frm 73 [] [(1, .int .i64 minute), (2, .pointer (some ⟨b, 0, none⟩)), (4, .pointer (some ⟨b_1, 0, none⟩)), (5, .int .i64 0), (7, .slice p_2 rv_2.1.length c_2), (9, .pointer (some ⟨b_2, 0, none⟩)), (10, .int .i64 pre)] a ∧ St w0 D0 Dv_1 [(1, .cells b [.int .i64 l.Ring, .slice p l.Starts.length c, .slice p_1 l.Events.length c_1] 25), (2, .cells b_1 [.int .i64 0, .int .i64 0, .int .i64 0, .int .i64 0] 49), (3, .cells b_2 [.int .i64 z, .int .i64 z_1, .int .i64 z_2, .int .i64 z_3] 49)] w) (-1, 0, 1000, 0, 0) h ⟨(-1), 0, 1000, 0, 0, Dv, rfl, Stab.le.refl _, hF.weak ⟨rfl, rfl, rfl, rfl, rfl, rfl, rfl, trivial⟩, hS.weak ⟨rfl, rfl, rfl, trivial⟩⟩ ?_))))))))))))
 rintro s a w xo ⟨pre, z, z_1, z_2, z_3, Dv_1, rfl, hlev_1, hF, hS⟩ h hxo
 unfold r7Set_b1 at h
 dsimp only at h
 replace hs := hs.mono hlev_1
 replace hs_1 := hs_1.mono hlev_1
 replace hs_2 := hs_2.mono hlev_1
 refine seq (seq (region (step hF (Y.move hF rfl) rfl fun a hF => step hF (Y.leq hF rfl rfl) rfl fun a hF => nil (then_n (cond_b hF rfl (fun hbv_3 => ?_) (fun hbv_3 => ?_))))))
 ·replace h := cond_t h hbv_3
  refine skip_ (then_n (seq (block (seq (region (step hF (Y.assign hF rfl) rfl fun a hF => nil (then_n (block (loop_cut (body := r7Set_b2 l minute rv_2 pre) (out := xo) (fun s a w => ∃ (home : Int) (z_4 : Int) (z_5 : Int) (z_6 : Int) (z_7 : Int), ∃ (Dv_2 : Stab), s = (home, z_4, z_5, z_6, z_7) ∧ Dv_1.le Dv_2 ∧ Frm 73 [] [(1, .int .i64 minute), (2, .pointer (some ⟨b, 0, none⟩)), (4, .pointer (some ⟨b_1, 0, none⟩)), (5, .int .i64 0), (7, .slice p_2 rv_2.1.length c_2), (9, .pointer (some ⟨b_2, 0, none⟩)), (10, .int .i64 pre), (11, .int .i64 home)] a ∧ St w0 D0 Dv_2 [(1, .cells b [.int .i64 l.Ring, .slice p l.Starts.length c, .slice p_1 l.Events.length c_1] 25), (2, .cells b_1 [.int .i64 0, .int .i64 0, .int .i64 0, .int .i64 0] 49), (3, .cells b_2 [.int .i64 z_4, .int .i64 z_5, .int .i64 z_6, .int .i64 z_7] 49)] w) (0, z, z_1, z_2, z_3) h ⟨0, z, z_1, z_2, z_3, Dv_1, rfl, Stab.le.refl _, hF.weak ⟨rfl, rfl, rfl, rfl, rfl, rfl, rfl, rfl, trivial⟩, hS.weak ⟨rfl, rfl, rfl, trivial⟩⟩ ?_)))))))))
  rintro s a w xo_1 ⟨home, z_4, z_5, z_6, z_7, Dv_2, rfl, hlev_2, hF, hS⟩ h hxo_1
  unfold r7Set_b2 at h
  dsimp only at h
  replace hs := hs.mono hlev_2
  replace hs_1 := hs_1.mono hlev_2
  replace hs_2 := hs_2.mono hlev_2
  refine seq (seq (region (step hF (Y.move hF rfl) rfl fun a hF => step hF (Y.leq hF rfl rfl) rfl fun a hF => nil (then_n (cond_b hF rfl (fun hbv_4 => ?_) (fun hbv_4 => ?_))))))
  ·replace h := cond_t h hbv_4
   refine skip_ (then_n (seq (block (seq (region (step hF (Y.assign hF rfl) rfl fun a hF => nil (then_n (block (loop_cut (body := r7Set_b3 l minute rv_2 pre home) (out := xo_1) (fun s a w => ∃ (first : Int) (z_8 : Int) (z_9 : Int) (z_10 : Int) (z_11 : Int), ∃ (Dv_3 : Stab), s = (first, z_8, z_9, z_10, z_11) ∧ Dv_2.le Dv_3 ∧ Frm 73 [] [(1, .int .i64 minute), (2, .pointer (some ⟨b, 0, none⟩)), (4, .pointer (some ⟨b_1, 0, none⟩)), (5, .int .i64 0), (7, .slice p_2 rv_2.1.length c_2), (9, .pointer (some ⟨b_2, 0, none⟩)), (10, .int .i64 pre), (11, .int .i64 home), (12, .int .i64 first)] a ∧ St w0 D0 Dv_3 [(1, .cells b [.int .i64 l.Ring, .slice p l.Starts.length c, .slice p_1 l.Events.length c_1] 25), (2, .cells b_1 [.int .i64 0, .int .i64 0, .int .i64 0, .int .i64 0] 49), (3, .cells b_2 [.int .i64 z_8, .int .i64 z_9, .int .i64 z_10, .int .i64 z_11] 49)] w) (0, z_4, z_5, z_6, z_7) h ⟨0, z_4, z_5, z_6, z_7, Dv_2, rfl, Stab.le.refl _, hF.weak ⟨rfl, rfl, rfl, rfl, rfl, rfl, rfl, rfl, rfl, trivial⟩, hS.weak ⟨rfl, rfl, rfl, trivial⟩⟩ ?_)))))))))
   rintro s a w xo_2 ⟨first, z_8, z_9, z_10, z_11, Dv_3, rfl, hlev_3, hF, hS⟩ h hxo_2
   unfold r7Set_b3 at h
   dsimp only at h
   replace hs := hs.mono hlev_3
   replace hs_1 := hs_1.mono hlev_3
   replace hs_2 := hs_2.mono hlev_3
   refine seq (seq (region (step hF (Y.move hF rfl) rfl fun a hF => step hF (Y.leq hF rfl rfl) rfl fun a hF => nil (then_n (cond_b hF rfl (fun hbv_5 => ?_) (fun hbv_5 => ?_))))))
   ·replace h := cond_t h hbv_5
    refine skip_ (then_n (seq (block (seq (region (step hF (Y.assign hF rfl) rfl fun a hF => nil (then_n (block (loop_cut (body := r7Set_b4 l minute rv_2 pre home first) (out := xo_2) (fun s a w => ∃ (send : Int) (z_12 : Int) (z_13 : Int) (z_14 : Int) (z_15 : Int), ∃ (Dv_4 : Stab), s = (send, z_12, z_13, z_14, z_15) ∧ Dv_3.le Dv_4 ∧ Frm 73 [] [(1, .int .i64 minute), (2, .pointer (some ⟨b, 0, none⟩)), (4, .pointer (some ⟨b_1, 0, none⟩)), (5, .int .i64 0), (7, .slice p_2 rv_2.1.length c_2), (9, .pointer (some ⟨b_2, 0, none⟩)), (10, .int .i64 pre), (11, .int .i64 home), (12, .int .i64 first), (13, .int .i64 send)] a ∧ St w0 D0 Dv_4 [(1, .cells b [.int .i64 l.Ring, .slice p l.Starts.length c, .slice p_1 l.Events.length c_1] 25), (2, .cells b_1 [.int .i64 0, .int .i64 0, .int .i64 0, .int .i64 0] 49), (3, .cells b_2 [.int .i64 z_12, .int .i64 z_13, .int .i64 z_14, .int .i64 z_15] 49)] w) (0, z_8, z_9, z_10, z_11) h ⟨0, z_8, z_9, z_10, z_11, Dv_3, rfl, Stab.le.refl _, hF.weak ⟨rfl, rfl, rfl, rfl, rfl, rfl, rfl, rfl, rfl, rfl, trivial⟩, hS.weak ⟨rfl, rfl, rfl, trivial⟩⟩ ?_)))))))))
    rintro s a w xo_3 ⟨send, z_12, z_13, z_14, z_15, Dv_4, rfl, hlev_4, hF, hS⟩ h hxo_3
    unfold r7Set_b4 at h
    dsimp only at h
    replace hs := hs.mono hlev_4
    replace hs_1 := hs_1.mono hlev_4
    replace hs_2 := hs_2.mono hlev_4
    refine seq (seq (region (step hF (Y.move hF rfl) rfl fun a hF => step hF (Y.leq hF rfl rfl) rfl fun a hF => nil (then_n (cond_b hF rfl (fun hbv_6 => ?_) (fun hbv_6 => ?_))))))
    ·replace h := cond_t h hbv_6
     refine skip_ (then_n (seq (block (seq (region (step hF (Y.move hF rfl) rfl fun a hF => step hF (Y.move hF rfl) rfl fun a hF => step hF (Y.move hF rfl) rfl fun a hF => step hF (Y.move hF rfl) rfl fun a hF => step hF (Y.build (parts := [(0, (.tmp 54)), (1, (.tmp 55)), (2, (.tmp 56)), (3, (.tmp 57))]) (cs := #[.int .i64 pre, .int .i64 home, .int .i64 first, .int .i64 send]) hF rfl (by kernel_rfl)) rfl fun a hF => O.alloc 4 zc_49 hF hS rfl fun b_3 a w hF hS => O.store (us := [.int .i64 pre, .int .i64 home, .int .i64 first, .int .i64 send]) 4 sz_49 hF rfl rfl rfl rfl hS rfl rfl fun a w hF hS => nil (then_n (seq ?_))))))))
     obtain ⟨rv_3, hx_3, h⟩ := bind_some h
     obtain ⟨rv_4, hx_4, h⟩ := bind_some h
     obtain ⟨t, ht, h⟩ := bind_some h
     refine drawsV 12 (.flt 0 (.flt 2 (.alt 1 (.alt 3 (.flt 4 (.flt 5 (.flt 6 (.flt 7 (.flt 8 (.flt 9 (.alt 10 (.flt 11 .done) .stop))))))) .stop) .stop))) mixed_ (by kernel_rfl) (fun w => St w0 D0 Dv_4 [(1, .cells b [.int .i64 l.Ring, .slice p l.Starts.length c, .slice p_1 l.Events.length c_1] 25), (2, .cells b_1 [.int .i64 0, .int .i64 0, .int .i64 0, .int .i64 0] 49), (3, .cells b_2 [.int .i64 z_12, .int .i64 z_13, .int .i64 z_14, .int .i64 z_15] 49), (4, .cells b_3 [.int .i64 pre, .int .i64 home, .int .i64 first, .int .i64 send] 49)] w) (fun a w => Frm 73 [] [(1, .int .i64 minute), (2, .pointer (some ⟨b, 0, none⟩)), (4, .pointer (some ⟨b_1, 0, none⟩)), (5, .int .i64 0), (7, .slice p_2 rv_2.1.length c_2), (9, .pointer (some ⟨b_2, 0, none⟩)), (10, .int .i64 pre), (11, .int .i64 home), (12, .int .i64 first), (13, .int .i64 send), (14, .pointer (some ⟨b_3, 0, none⟩)), (70, .bool t)] a ∧ St w0 D0 Dv_4 [(1, .cells b [.int .i64 l.Ring, .slice p l.Starts.length c, .slice p_1 l.Events.length c_1] 25), (2, .cells b_1 [.int .i64 0, .int .i64 0, .int .i64 0, .int .i64 0] 49), (3, .cells b_2 [.int .i64 z_12, .int .i64 z_13, .int .i64 z_14, .int .i64 z_15] 49), (4, .cells b_3 [.int .i64 pre, .int .i64 home, .int .i64 first, .int .i64 send] 49)] w) (hS.weak (ms := [(1, .cells b [.int .i64 l.Ring, .slice p l.Starts.length c, .slice p_1 l.Events.length c_1] 25), (2, .cells b_1 [.int .i64 0, .int .i64 0, .int .i64 0, .int .i64 0] 49), (3, .cells b_2 [.int .i64 z_12, .int .i64 z_13, .int .i64 z_14, .int .i64 z_15] 49), (4, .cells b_3 [.int .i64 pre, .int .i64 home, .int .i64 first, .int .i64 send] 49)]) ⟨rfl, rfl, rfl, rfl, trivial⟩).drew (fun _ _ _ _ h => h) ?_ ?_
     ·replace hS := hS.drew
      have hle0 := hS.le
      rcases bcases (decide (rv_3 < rv_4)) with hbv_7 | hbv_7
      ·skip
       replace ht := cond_t ht hbv_7
       obtain ⟨rv_5, hx_5, ht⟩ := bind_some ht
       obtain rfl := some_inj ht
       refine stepV (i := 0) rfl hF (fun w hS => Y.loadNL 4 sz_49 hF rfl hS rfl rfl rfl) rfl fun a hF => stepV (i := 2) rfl hF (fun w hS => Y.loadNL 3 sz_49 hF rfl hS rfl rfl rfl) rfl fun a hF => oneV (i := 1) rfl ?_ trivial
       refine O.callP (us := [.agg #[.int .i64 pre, .int .i64 home, .int .i64 first, .int .i64 send]]) ca_81 hF hS (r7Pulses_ok hS.stab (SlavePlan.mk pre home first send) rv_3 hx_3) rfl rfl fun a w hF hS => nil (then_n ⟨hS.weak ⟨rfl, rfl, rfl, rfl, trivial⟩, ?_⟩)
       refine oneV (i := 3) rfl ?_ trivial
       refine O.callP (us := [.agg #[.int .i64 z_12, .int .i64 z_13, .int .i64 z_14, .int .i64 z_15]]) ca_81 hF hS (r7Pulses_ok hS.stab (SlavePlan.mk z_12 z_13 z_14 z_15) rv_4 hx_4) rfl rfl fun a w hF hS => nil (then_n ⟨hS.weak ⟨rfl, rfl, rfl, rfl, trivial⟩, ?_⟩)
       refine stepV (i := 4) rfl hF (fun w hS => Y.lss hF rfl rfl) rfl fun a hF => stepV (i := 5) rfl hF (fun w hS => Y.move hF rfl) rfl fun a hF => stepV_on (i := 6) rfl hF rfl rfl hbv_7 (fun w hS => Y.loadNL 1 sz_25 hF rfl hS rfl rfl rfl) rfl fun a hF => stepV_on (i := 7) rfl hF rfl rfl hbv_7 (fun w hS => Y.move hF rfl) rfl fun a hF => stepV_on (i := 8) rfl hF rfl rfl hbv_7 (fun w hS => Y.move hF rfl) rfl fun a hF => stepV_on (i := 9) rfl hF rfl rfl hbv_7 (fun w hS => Y.loadNL 4 sz_49 hF rfl hS rfl rfl rfl) rfl fun a hF => oneV (i := 10) rfl ?_ trivial
       refine guard_on hF rfl rfl hbv_7 (O.callP (us := [.agg #[.int .i64 l.Ring, .slice p l.Starts.length c, .slice p_1 l.Events.length c_1], .slice p_2 rv_2.1.length c_2, .int .i64 minute, .agg #[.int .i64 pre, .int .i64 home, .int .i64 first, .int .i64 send]]) ca_78 hF hS (r7sets_ok hS.stab l rv_2.1 minute (SlavePlan.mk pre home first send) hs hs_1 hs_2 rv_5 hx_5) rfl rfl fun a w hF hS => nil (then_n ⟨hS.weak ⟨rfl, rfl, rfl, rfl, trivial⟩, ?_⟩))
       refine stepV (i := 11) rfl hF (fun w hS => Y.pick_t hF rfl hbv_7 rfl) rfl fun a hF => toTailV ⟨hF.weak ⟨rfl, rfl, rfl, rfl, rfl, rfl, rfl, rfl, rfl, rfl, rfl, rfl, trivial⟩, hS.weak ⟨rfl, rfl, rfl, rfl, trivial⟩⟩
      replace ht := cond_f ht hbv_7
      obtain rfl := some_inj ht
      refine stepV (i := 0) rfl hF (fun w hS => Y.loadNL 4 sz_49 hF rfl hS rfl rfl rfl) rfl fun a hF => stepV (i := 2) rfl hF (fun w hS => Y.loadNL 3 sz_49 hF rfl hS rfl rfl rfl) rfl fun a hF => oneV (i := 1) rfl ?_ trivial
      refine O.callP (us := [.agg #[.int .i64 pre, .int .i64 home, .int .i64 first, .int .i64 send]]) ca_81 hF hS (r7Pulses_ok hS.stab (SlavePlan.mk pre home first send) rv_3 hx_3) rfl rfl fun a w hF hS => nil (then_n ⟨hS.weak ⟨rfl, rfl, rfl, rfl, trivial⟩, ?_⟩)
      refine oneV (i := 3) rfl ?_ trivial
      refine O.callP (us := [.agg #[.int .i64 z_12, .int .i64 z_13, .int .i64 z_14, .int .i64 z_15]]) ca_81 hF hS (r7Pulses_ok hS.stab (SlavePlan.mk z_12 z_13 z_14 z_15) rv_4 hx_4) rfl rfl fun a w hF hS => nil (then_n ⟨hS.weak ⟨rfl, rfl, rfl, rfl, trivial⟩, ?_⟩)
      refine stepV (i := 4) rfl hF (fun w hS => Y.lss hF rfl rfl) rfl fun a hF => stepV (i := 5) rfl hF (fun w hS => Y.move hF rfl) rfl fun a hF => stepV_off (i := 6) rfl hF rfl rfl hbv_7 rfl fun a hF => stepV_off (i := 7) rfl hF rfl rfl hbv_7 rfl fun a hF => stepV_off (i := 8) rfl hF rfl rfl hbv_7 rfl fun a hF => stepV_off (i := 9) rfl hF rfl rfl hbv_7 rfl fun a hF => oneV (i := 10) rfl ?_ trivial
      refine guard_off hF rfl rfl hbv_7 rfl fun a hF => nil (then_n ⟨hS.weak ⟨rfl, rfl, rfl, rfl, trivial⟩, ?_⟩)
      refine stepV (i := 11) rfl hF (fun w hS => Y.pick_f hF rfl hbv_7 rfl) rfl fun a hF => toTailV ⟨hF.weak ⟨rfl, rfl, rfl, rfl, rfl, rfl, rfl, rfl, rfl, rfl, rfl, rfl, trivial⟩, hS.weak ⟨rfl, rfl, rfl, rfl, trivial⟩⟩
     rintro a w ⟨hF, hS⟩
     refine nil (then_n (cond_b hF rfl (fun hbv_8 => ?_) (fun hbv_8 => ?_)))
     ·replace h := cond_t h hbv_8
      refine region (step hF (Y.loadNL 4 sz_49 hF rfl hS rfl rfl rfl) rfl fun a hF => O.store (us := [.int .i64 pre, .int .i64 home, .int .i64 first, .int .i64 send]) 3 sz_49 hF rfl rfl rfl rfl hS rfl rfl fun a w hF hS => nil (blk_n (then_n (region (step hF (Y.move hF rfl) rfl fun a hF => step hF (Y.add hF rfl rfl) rfl fun a hF => step hF (Y.assign hF rfl) rfl fun a hF => nil (then_n (⟨_, nxt_some h, (wr (send + 1)), pre, home, first, send, Dv_4, rfl, hlev_4, hF.weak ⟨rfl, rfl, rfl, rfl, rfl, rfl, rfl, rfl, rfl, rfl, trivial⟩, hS.weak ⟨rfl, rfl, rfl, trivial⟩⟩)))))))
     replace h := cond_f h hbv_8
     refine skip_ (blk_n (then_n (region (step hF (Y.move hF rfl) rfl fun a hF => step hF (Y.add hF rfl rfl) rfl fun a hF => step hF (Y.assign hF rfl) rfl fun a hF => nil (then_n (⟨_, nxt_some h, (wr (send + 1)), z_12, z_13, z_14, z_15, Dv_4, rfl, hlev_4, hF.weak ⟨rfl, rfl, rfl, rfl, rfl, rfl, rfl, rfl, rfl, rfl, trivial⟩, hS.weak ⟨rfl, rfl, rfl, trivial⟩⟩))))))
    replace h := cond_f h hbv_6
    refine exit_ (then_x (then_x (blk_hit (blk_n (then_n ?_)))))
    replace h := ext_some h hxo_3
    refine region (step hF (Y.move hF rfl) rfl fun a hF => step hF (Y.add hF rfl rfl) rfl fun a hF => step hF (Y.assign hF rfl) rfl fun a hF => nil (then_n (⟨_, nxt_some h, (wr (first + 1)), z_12, z_13, z_14, z_15, Dv_4, rfl, hlev_3.trans hlev_4, hF.weak ⟨rfl, rfl, rfl, rfl, rfl, rfl, rfl, rfl, rfl, trivial⟩, hS.weak ⟨rfl, rfl, rfl, trivial⟩⟩)))
   replace h := cond_f h hbv_5
   refine exit_ (then_x (then_x (blk_hit (blk_n (then_n ?_)))))
   replace h := ext_some h hxo_2
   refine region (step hF (Y.move hF rfl) rfl fun a hF => step hF (Y.add hF rfl rfl) rfl fun a hF => step hF (Y.assign hF rfl) rfl fun a hF => nil (then_n (⟨_, nxt_some h, (wr (home + 1)), z_8, z_9, z_10, z_11, Dv_3, rfl, hlev_2.trans hlev_3, hF.weak ⟨rfl, rfl, rfl, rfl, rfl, rfl, rfl, rfl, trivial⟩, hS.weak ⟨rfl, rfl, rfl, trivial⟩⟩)))
  replace h := cond_f h hbv_4
  refine exit_ (then_x (then_x (blk_hit (blk_n (then_n ?_)))))
  replace h := ext_some h hxo_1
  refine region (step hF (Y.move hF rfl) rfl fun a hF => step hF (Y.add hF rfl rfl) rfl fun a hF => step hF (Y.assign hF rfl) rfl fun a hF => nil (then_n (⟨_, nxt_some h, (wr (pre + 1)), z_4, z_5, z_6, z_7, Dv_2, rfl, hlev_1.trans hlev_2, hF.weak ⟨rfl, rfl, rfl, rfl, rfl, rfl, rfl, trivial⟩, hS.weak ⟨rfl, rfl, rfl, trivial⟩⟩)))
 replace h := cond_f h hbv_3
 refine exit_ (then_x (then_x (blk_hit (then_n ?_))))
 replace h := ext_some h hxo
 refine seq (region (step hF (Y.loadNL 3 sz_49 hF rfl hS rfl rfl rfl) rfl fun a hF => O.store (us := [.int .i64 z, .int .i64 z_1, .int .i64 z_2, .int .i64 z_3]) 2 sz_49 hF rfl rfl rfl rfl hS rfl rfl fun a w hF hS => step hF (Y.assign hF rfl) rfl fun a hF => nil (then_n (ret_ ?_))))
 obtain rfl := some_inj h
 exact leaveP Tryd.results35 hF hS (.cons (.cellN 2 sz_49 rfl rfl rfl) (.cons (.tmp rfl) .nil)) .nil rfl
end Go.Proofs.YtmbgmefmkjeahaaDoor.Rt
