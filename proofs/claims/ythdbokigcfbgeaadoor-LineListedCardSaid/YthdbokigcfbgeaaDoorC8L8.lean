/- Walks of the functions of this seat: what each Go function comes to, as a Lean function, and the proof. A law. Under no conditions. -/
import Derived.Test.YthdbokigcfbgeaaDoorC8WBZ
set_option linter.unusedVariables false
set_option linter.unusedSimpArgs false
set_option maxRecDepth 100000
set_option maxHeartbeats 4000000
namespace Go.Proofs.YthdbokigcfbgeaaDoor.Rt
open Go Go.RowKit
noncomputable def remontoirlaw06_LineListed_b3 (n : LineNet) (rv_2 : Int) (i : Int) (v4_1 : Bool) (atv : Int) (l_1 : (List Int)) : (Int × Int × Int) → Option ((Int × Int × Int) ⊕ ((Bool × Int × (List Int)) ⊕ Bool))
 | (k_1, z_2, z_3) =>
  cond (decide (k_1 < (n.Loops.length : Int)))
  ((idx n.Loops k_1).bind fun e_5 =>
  cond (e_5.Exchange == rv_2)
  ((r0Ceil e_5.Read.Low 2).bind fun rv_11 =>
  (r0Floor e_5.Read.High 2).bind fun rv_12 =>
  (r0To rv_11 rv_12).bind fun rv_13 =>
  (r0Both (Span.mk z_2 z_3) rv_13).bind fun rv_14 =>
  nxt (wr (k_1 + 1), rv_14.Low, rv_14.High))
  (nxt (wr (k_1 + 1), z_2, z_3)))
  (ext (cond ((atv != rv_2) || (decide (z_2 > z_3)))
  (ext (some false))
  (nxt (v4_1, wr (i + 1), l_1))))
noncomputable def remontoirlaw06_LineListed_b2 (n : LineNet) (rv_2 : Int) (i : Int) (e : (List Int)) : (Bool × Int × Int × Int × (List Int) × Int × Int) → Option ((Bool × Int × Int × Int × (List Int) × Int × Int) ⊕ ((Bool × Int × (List Int)) ⊕ Bool))
 | (v4_1, atv, met, k, l_1, z, z_1) =>
  cond (decide (k < (e.length : Int)))
  ((idx e k).bind fun e_2 =>
  (r0Lies e_2 0 (wr ((n.Lines.length : Int) - 1))).bind fun rv_8 =>
  cond (!rv_8)
  (ext (ext (some false)))
  ((idx n.Lines e_2).bind fun e_3 =>
  cond ((e_3.From != atv) && (e_3.To != atv))
  (ext (ext (some false)))
  ((r0In met (wr ((wr (e_3.From + e_3.To)) - atv))).bind fun rv_9 =>
  cond rv_9
  (ext (ext (some false)))
  (if ¬ (wr ((wr (e_3.From + e_3.To)) - atv)) < 0 then
  (idx l_1 e_2).bind fun e_4 =>
  if (0 : Int) ≤ e_2 ∧ e_2 < (l_1.length : Int) then
  (r0To (wr (z + e_3.Delay.Low)) (wr (z_1 + e_3.Delay.High))).bind fun rv_10 =>
  nxt (v4_1, wr ((wr (e_3.From + e_3.To)) - atv), bitsOp .or met (gshl 1 (wr ((wr (e_3.From + e_3.To)) - atv))), wr (k + 1), (l_1.set (Int.toNat e_2) (wr (e_4 + 1))), rv_10.Low, rv_10.High)
  else none
  else none))))
  (ext (loopU (remontoirlaw06_LineListed_b3 n rv_2 i v4_1 atv l_1) (0, z, z_1)))
noncomputable def remontoirlaw06_LineListed_b4 (n : LineNet) (rv_3 : ((List (List Int)) × Int)) (rv_4 : ((List Int) × Int)) (l : (List Int)) : (Bool × Int) → Option ((Bool × Int) ⊕ Bool)
 | (v4_2, i_1) =>
  cond (decide (i_1 < (n.Lines.length : Int)))
  ((idx l i_1).bind fun e_6 =>
  (r0Find rv_4.1 i_1).bind fun rv_15 =>
  cond ((e_6 == (rv_3.1.length : Int)) != (decide (rv_15 ≥ 0)))
  (ext (some false))
  (nxt (v4_2, wr (i_1 + 1))))
  (ext ((cond (decide ((rv_3.1.length : Int) > 0)) ((r0Climbs rv_4.1 (n.Lines.length : Int)).bind fun rv_16 =>
  some rv_16) (some false)).bind fun t_5 =>
  (cond t_5 ((remontoirlaw06_works).bind fun rv_17 =>
  some rv_17) (some false)).bind fun t_6 =>
  some t_6))
noncomputable def remontoirlaw06_LineListed_b1 (n : LineNet) (rv_2 : Int) (rv_3 : ((List (List Int)) × Int)) (rv_4 : ((List Int) × Int)) : (Bool × Int × (List Int)) → Option ((Bool × Int × (List Int)) ⊕ Bool)
 | (v4_0, i, l) =>
  cond (decide (i < (rv_3.1.length : Int)))
  ((idx rv_3.1 i).bind fun e =>
  (cond (decide ((e.length : Int) > n.Hops)) (some true) ((cond (decide (i > 0)) ((idx rv_3.1 (wr (i - 1))).bind fun e_1 =>
  (cond (decide ((e.length : Int) < (e_1.length : Int))) (some true) ((cond ((e.length : Int) == (e_1.length : Int)) ((r0Ahead e_1 e).bind fun rv_6 =>
  some (!rv_6)) (some false)).bind fun t_1 =>
  some t_1)).bind fun t_2 =>
  some t_2) (some false)).bind fun t_3 =>
  some t_3)).bind fun t_4 =>
  cond t_4
  (ext (some false))
  ((r0To 0 0).bind fun rv_7 =>
  loopU (remontoirlaw06_LineListed_b2 n rv_2 i e) (v4_0, 0, 1, 0, l, rv_7.Low, rv_7.High)))
  (ext (loopU (remontoirlaw06_LineListed_b4 n rv_3 rv_4 l) (v4_0, 0)))
noncomputable def remontoirlaw06_LineListed (n : LineNet) (exchange : Int) : Option Bool :=
  (remontoirlaw06_sound n).bind fun rv =>
  cond (!rv)
  ((remontoirlaw06_works).bind fun rv_1 =>
  some rv_1)
  ((r0Rest exchange n.Exchanges).bind fun rv_2 =>
  (line_Routes n rv_2).bind fun rv_3 =>
  (line_Surely n rv_2).bind fun rv_4 =>
  cond ((rv_3.2 != rv_4.2) || (rv_3.2 != 0))
  ((cond (((rv_3.2 == rv_4.2) && ((rv_3.2 == 4) || (rv_3.2 == 62))) && ((wr ((rv_3.1.length : Int) + (rv_4.1.length : Int))) == 0)) ((remontoirlaw06_works).bind fun rv_5 =>
  some rv_5) (some false)).bind fun t =>
  some t)
  (if (0 : Int) ≤ (n.Lines.length : Int) ∧ (n.Lines.length : Int) ≤ (mlim : Int) then
  loopU (remontoirlaw06_LineListed_b1 n rv_2 rv_3 rv_4) (false, 0, (List.replicate (Int.toNat (n.Lines.length : Int)) (0 : Int)))
  else none))
theorem remontoirlaw06_LineListed_ok {w0 : World} {D0 : Stab} (hD : D0.on w0) (n : LineNet) (exchange : Int) {p : Option Addr} {c : Nat} {p_1 : Option Addr} {c_1 : Nat} (hs : SRc C_LineLine D0 n.Lines p c) (hs_1 : SRc C_LineLoop D0 n.Loops p_1 c_1) (hG : Glob D0) (out : Bool) (h : remontoirlaw06_LineListed n exchange = some out) : Calls Tryd.prog 8 [.agg #[.int .i64 n.Exchanges, .slice p n.Lines.length c, .int .i64 n.Hops, .slice p_1 n.Loops.length c_1], .int .i64 exchange].toArray w0 (RetP D0 w0 (.bool out)) := by
 refine enter _ 284 Tryd.func8 rfl Tryd.ntmps8 rfl fun a hF => ?_
 replace hF : Frm 284 [] [(0, .agg #[.int .i64 n.Exchanges, .slice p n.Lines.length c, .int .i64 n.Hops, .slice p_1 n.Loops.length c_1]), (1, .int .i64 exchange)] a := hF
 have hS := St.start hD
 unfold remontoirlaw06_LineListed at h
 refine seq (region (O.box (cs := [.int .i64 n.Exchanges, .slice p n.Lines.length c, .int .i64 n.Hops, .slice p_1 n.Loops.length c_1]) 1 hF rfl rfl hS rfl fun b a w hF hS => step hF (Y.assign hF rfl) rfl fun a hF => nil (then_n (seq (seq (region (step hF (Y.loadNL 1 sz_25 hF rfl hS rfl rfl rfl) rfl fun a hF => ?_)))))))
 obtain ⟨rv, hx, h⟩ := bind_some h
 refine O.callP (us := [.agg #[.int .i64 n.Exchanges, .slice p n.Lines.length c, .int .i64 n.Hops, .slice p_1 n.Loops.length c_1]]) ca_34 hF hS (remontoirlaw06_sound_ok hS.stab n hs hs_1 rv hx) rfl rfl fun a w hF hS => step hF (Y.not hF rfl) rfl fun a hF => nil (then_n (cond_b hF rfl (fun hbv => ?_) (fun hbv => ?_)))
 ·replace h := cond_t h hbv
  refine seq (region ?_)
  obtain ⟨rv_1, hx_1, h⟩ := bind_some h
  refine O.callP (us := []) ca_23 hF hS (remontoirlaw06_works_ok hS.stab hG rv_1 hx_1) rfl rfl fun a w hF hS => step hF (Y.assign hF rfl) rfl fun a hF => nil (then_n (ret_ (then_r ?_)))
  obtain rfl := some_inj h
  exact leaveP Tryd.results8 hF hS (.cons (.tmp rfl) .nil) .nil rfl
 replace h := cond_f h hbv
 refine skip_ (then_n (seq (region (step hF (Y.move hF rfl) rfl fun a hF => step hF (Y.fieldAddr fo_25_0 hF rfl) rfl fun a hF => step hF (Y.load1L 1 sz_3 hF rfl hS rfl rfl) rfl fun a hF => ?_))))
 obtain ⟨rv_2, hx_2, h⟩ := bind_some h
 refine O.callP (us := [.int .i64 exchange, .int .i64 n.Exchanges]) ca_41 hF hS (r0Rest_ok hS.stab exchange n.Exchanges rv_2 hx_2) rfl rfl fun a w hF hS => step hF (Y.assign hF rfl) rfl fun a hF => nil (then_n (seq (region (step hF (Y.loadNL 1 sz_25 hF rfl hS rfl rfl rfl) rfl fun a hF => step hF (Y.move hF rfl) rfl fun a hF => ?_))))
 obtain ⟨rv_3, hx_3, h⟩ := bind_some h
 refine O.callS (us := [.agg #[.int .i64 n.Exchanges, .slice p n.Lines.length c, .int .i64 n.Hops, .slice p_1 n.Loops.length c_1], .int .i64 rv_2]) ca_15 hF hS (line_Routes_ok hS.stab n rv_2 hs hs_1 hG rv_3 hx_3) rfl rfl fun v Dv a w hR hlev hF hS => ?_
 replace hs := hs.mono hlev
 replace hs_1 := hs_1.mono hlev
 replace hG := hG.mono hlev
 obtain ⟨p_2, c_2, rfl, hs_2⟩ := hR
 refine step hF (Y.move hF rfl) rfl fun a hF => step hF (Y.extract hF rfl rfl) rfl fun a hF => step hF (Y.extract hF rfl rfl) rfl fun a hF => step hF (Y.assign hF rfl) rfl fun a hF => step hF (Y.assign hF rfl) rfl fun a hF => nil (then_n (seq (region (step hF (Y.loadNL 1 sz_25 hF rfl hS rfl rfl rfl) rfl fun a hF => step hF (Y.move hF rfl) rfl fun a hF => ?_))))
 obtain ⟨rv_4, hx_4, h⟩ := bind_some h
 refine O.callS (us := [.agg #[.int .i64 n.Exchanges, .slice p n.Lines.length c, .int .i64 n.Hops, .slice p_1 n.Loops.length c_1], .int .i64 rv_2]) ca_20 hF hS (line_Surely_ok hS.stab n rv_2 hs hs_1 hG rv_4 hx_4) rfl rfl fun v_1 Dv_1 a w hR_1 hlev_1 hF hS => ?_
 replace hs := hs.mono hlev_1
 replace hs_1 := hs_1.mono hlev_1
 replace hG := hG.mono hlev_1
 replace hs_2 := hs_2.mono hlev_1
 obtain ⟨p_3, c_3, rfl, hs_3⟩ := hR_1
 refine step hF (Y.move hF rfl) rfl fun a hF => step hF (Y.extract hF rfl rfl) rfl fun a hF => step hF (Y.extract hF rfl rfl) rfl fun a hF => step hF (Y.assign hF rfl) rfl fun a hF => step hF (Y.assign hF rfl) rfl fun a hF => nil (then_n (seq (seq (region (step hF (Y.move hF rfl) rfl fun a hF => step hF (Y.move hF rfl) rfl fun a hF => step hF (Y.neq hF rfl rfl) rfl fun a hF => step hF (Y.move hF rfl) rfl fun a hF => join (N := 284) (rs := []) (w0 := w0) (D0 := D0) 3 (us := [(2, .pointer (some ⟨b, 0, none⟩)), (4, .bool false), (5, .int .i64 rv_2), (6, .slice p_2 rv_3.1.length c_2), (7, .int .i64 rv_3.2), (8, .slice p_3 rv_4.1.length c_3), (9, .int .i64 rv_4.2), (46, .bool ((rv_3.2 != rv_4.2) || (rv_3.2 != 0)))]) (ms := [(1, .cells b [.int .i64 n.Exchanges, .slice p n.Lines.length c, .int .i64 n.Hops, .slice p_1 n.Loops.length c_1] 25)]) (D' := Dv_1) ?_ ?_)))))
 ·rcases bcases (rv_3.2 != rv_4.2) with hbv_1 | hbv_1
  ·skip
   refine guard_off hF rfl rfl hbv_1 rfl fun a hF => guard_off hF rfl rfl hbv_1 rfl fun a hF => step hF (Y.pick_t hF rfl hbv_1 rfl) rfl fun a hF => nil (then_n ⟨hF.weak ⟨rfl, rfl, rfl, rfl, rfl, rfl, rfl, (by rw [hbv_1]; rfl), trivial⟩, hS.weak ⟨rfl, trivial⟩⟩)
  refine guard_on hF rfl rfl hbv_1 (step hF (Y.move hF rfl) rfl fun a hF => guard_on hF rfl rfl hbv_1 (step hF (Y.neq hF rfl rfl) rfl fun a hF => step hF (Y.pick_f hF rfl hbv_1 rfl) rfl fun a hF => nil (then_n ⟨hF.weak ⟨rfl, rfl, rfl, rfl, rfl, rfl, rfl, (by rw [hbv_1]; rfl), trivial⟩, hS.weak ⟨rfl, trivial⟩⟩)))
 intro a w hF hS
 refine nil (then_n (cond_b hF rfl (fun hbv_2 => ?_) (fun hbv_2 => ?_)))
 ·replace h := cond_t h hbv_2
  refine seq (region (step hF (Y.move hF rfl) rfl fun a hF => step hF (Y.move hF rfl) rfl fun a hF => step hF (Y.eql hF rfl rfl) rfl fun a hF => step hF (Y.move hF rfl) rfl fun a hF => join (N := 284) (rs := []) (w0 := w0) (D0 := D0) 7 (us := [(2, .pointer (some ⟨b, 0, none⟩)), (4, .bool false), (5, .int .i64 rv_2), (6, .slice p_2 rv_3.1.length c_2), (8, .slice p_3 rv_4.1.length c_3), (57, .bool ((rv_3.2 == rv_4.2) && ((rv_3.2 == 4) || (rv_3.2 == 62))))]) (ms := [(1, .cells b [.int .i64 n.Exchanges, .slice p n.Lines.length c, .int .i64 n.Hops, .slice p_1 n.Loops.length c_1] 25)]) (D' := Dv_1) ?_ ?_))
  ·rcases bcases (rv_3.2 == rv_4.2) with hbv_3 | hbv_3
   ·skip
    refine guard_on hF rfl rfl hbv_3 (step hF (Y.move hF rfl) rfl fun a hF => guard_on hF rfl rfl hbv_3 (step hF (Y.eql hF rfl rfl) rfl fun a hF => guard_on hF rfl rfl hbv_3 (step hF (Y.move hF rfl) rfl fun a hF => join (N := 284) (rs := []) (w0 := w0) (D0 := D0) 3 (us := [(2, .pointer (some ⟨b, 0, none⟩)), (4, .bool false), (5, .int .i64 rv_2), (6, .slice p_2 rv_3.1.length c_2), (8, .slice p_3 rv_4.1.length c_3), (50, .bool (rv_3.2 == rv_4.2)), (56, .bool ((rv_3.2 == 4) || (rv_3.2 == 62)))]) (ms := [(1, .cells b [.int .i64 n.Exchanges, .slice p n.Lines.length c, .int .i64 n.Hops, .slice p_1 n.Loops.length c_1] 25)]) (D' := Dv_1) ?_ ?_)))
    ·rcases bcases (rv_3.2 == 4) with hbv_4 | hbv_4
     ·skip
      refine guard_off hF rfl rfl hbv_4 rfl fun a hF => guard_off hF rfl rfl hbv_4 rfl fun a hF => guard_on hF rfl rfl hbv_3 (step hF (Y.pick_t hF rfl hbv_4 rfl) rfl fun a hF => nil (then_n ⟨hF.weak ⟨rfl, rfl, rfl, rfl, rfl, rfl, (by rw [hbv_4]; rfl), trivial⟩, hS.weak ⟨rfl, trivial⟩⟩))
     refine guard_on hF rfl rfl hbv_4 (step hF (Y.move hF rfl) rfl fun a hF => guard_on hF rfl rfl hbv_4 (step hF (Y.eql hF rfl rfl) rfl fun a hF => guard_on hF rfl rfl hbv_3 (step hF (Y.pick_f hF rfl hbv_4 rfl) rfl fun a hF => nil (then_n ⟨hF.weak ⟨rfl, rfl, rfl, rfl, rfl, rfl, (by rw [hbv_4]; rfl), trivial⟩, hS.weak ⟨rfl, trivial⟩⟩))))
    intro a w hF hS
    refine step hF (Y.pick_t hF rfl hbv_3 rfl) rfl fun a hF => nil (then_n ⟨hF.weak ⟨rfl, rfl, rfl, rfl, rfl, (by rw [hbv_3]; rfl), trivial⟩, hS.weak ⟨rfl, trivial⟩⟩)
   refine guard_off hF rfl rfl hbv_3 rfl fun a hF => guard_off hF rfl rfl hbv_3 rfl fun a hF => guard_off hF rfl rfl hbv_3 rfl fun a hF => guard_offu hF rfl rfl rfl fun a hF => guard_offu hF rfl rfl rfl fun a hF => guard_off hF rfl rfl hbv_3 rfl fun a hF => step hF (Y.pick_f hF rfl hbv_3 rfl) rfl fun a hF => nil (then_n ⟨hF.weak ⟨rfl, rfl, rfl, rfl, rfl, (by rw [hbv_3]; rfl), trivial⟩, hS.weak ⟨rfl, trivial⟩⟩)
  intro a w hF hS
  refine step hF (Y.move hF rfl) rfl fun a hF => join (N := 284) (rs := []) (w0 := w0) (D0 := D0) 7 (us := [(2, .pointer (some ⟨b, 0, none⟩)), (4, .bool false), (5, .int .i64 rv_2), (6, .slice p_2 rv_3.1.length c_2), (8, .slice p_3 rv_4.1.length c_3), (65, .bool (((rv_3.2 == rv_4.2) && ((rv_3.2 == 4) || (rv_3.2 == 62))) && ((wr ((rv_3.1.length : Int) + (rv_4.1.length : Int))) == 0)))]) (ms := [(1, .cells b [.int .i64 n.Exchanges, .slice p n.Lines.length c, .int .i64 n.Hops, .slice p_1 n.Loops.length c_1] 25)]) (D' := Dv_1) ?_ ?_
  ·rcases bcases ((rv_3.2 == rv_4.2) && ((rv_3.2 == 4) || (rv_3.2 == 62))) with hbv_5 | hbv_5
   ·skip
    refine guard_on hF rfl rfl hbv_5 (step hF (Y.move hF rfl) rfl fun a hF => guard_on hF rfl rfl hbv_5 (step hF (Y.lenSl u_26 hF rfl) rfl fun a hF => guard_on hF rfl rfl hbv_5 (step hF (Y.move hF rfl) rfl fun a hF => guard_on hF rfl rfl hbv_5 (step hF (Y.lenSl u_32 hF rfl) rfl fun a hF => guard_on hF rfl rfl hbv_5 (step hF (Y.add hF rfl rfl) rfl fun a hF => guard_on hF rfl rfl hbv_5 (step hF (Y.eql hF rfl rfl) rfl fun a hF => step hF (Y.pick_t hF rfl hbv_5 rfl) rfl fun a hF => nil (then_n ⟨hF.weak ⟨rfl, rfl, rfl, rfl, rfl, (by rw [hbv_5]; rfl), trivial⟩, hS.weak ⟨rfl, trivial⟩⟩)))))))
   refine guard_off hF rfl rfl hbv_5 rfl fun a hF => guard_off hF rfl rfl hbv_5 rfl fun a hF => guard_off hF rfl rfl hbv_5 rfl fun a hF => guard_off hF rfl rfl hbv_5 rfl fun a hF => guard_off hF rfl rfl hbv_5 rfl fun a hF => guard_off hF rfl rfl hbv_5 rfl fun a hF => step hF (Y.pick_f hF rfl hbv_5 rfl) rfl fun a hF => nil (then_n ⟨hF.weak ⟨rfl, rfl, rfl, rfl, rfl, (by rw [hbv_5]; rfl), trivial⟩, hS.weak ⟨rfl, trivial⟩⟩)
  intro a w hF hS
  refine step hF (Y.move hF rfl) rfl fun a hF => ?_
  obtain ⟨t, ht, h⟩ := bind_some h
  refine join (N := 284) (rs := []) (w0 := w0) (D0 := D0) 2 (us := [(2, .pointer (some ⟨b, 0, none⟩)), (4, .bool false), (5, .int .i64 rv_2), (6, .slice p_2 rv_3.1.length c_2), (8, .slice p_3 rv_4.1.length c_3), (68, .bool t)]) (ms := [(1, .cells b [.int .i64 n.Exchanges, .slice p n.Lines.length c, .int .i64 n.Hops, .slice p_1 n.Loops.length c_1] 25)]) (D' := Dv_1) ?_ ?_
  ·rcases bcases (((rv_3.2 == rv_4.2) && ((rv_3.2 == 4) || (rv_3.2 == 62))) && ((wr ((rv_3.1.length : Int) + (rv_4.1.length : Int))) == 0)) with hbv_6 | hbv_6
   ·skip
    replace h := cond_t ht hbv_6
    refine guard_on hF rfl rfl hbv_6 ?_
    obtain ⟨rv_5, hx_5, h⟩ := bind_some h
    refine O.callP (us := []) ca_23 hF hS (remontoirlaw06_works_ok hS.stab hG rv_5 hx_5) rfl rfl fun a w hF hS => step hF (Y.pick_t hF rfl hbv_6 rfl) rfl fun a hF => ?_
    obtain rfl := some_inj h
    exact nil (then_n ⟨hF.weak ⟨rfl, rfl, rfl, rfl, rfl, rfl, trivial⟩, hS.weak ⟨rfl, trivial⟩⟩)
   replace h := cond_f ht hbv_6
   refine guard_off hF rfl rfl hbv_6 rfl fun a hF => step hF (Y.pick_f hF rfl hbv_6 rfl) rfl fun a hF => ?_
   obtain rfl := some_inj h
   exact nil (then_n ⟨hF.weak ⟨rfl, rfl, rfl, rfl, rfl, rfl, trivial⟩, hS.weak ⟨rfl, trivial⟩⟩)
  intro a w hF hS
  refine step hF (Y.assign hF rfl) rfl fun a hF => nil (then_n (ret_ (then_r ?_)))
  obtain rfl := some_inj h
  exact leaveP Tryd.results8 hF hS (.cons (.tmp rfl) .nil) .nil rfl
 replace h := cond_f h hbv_2
 refine skip_ (then_n (seq (region (step hF (Y.fieldAddr fo_25_1 hF rfl) rfl fun a hF => step hF (Y.load1L 1 sz_22 hF rfl hS rfl rfl) rfl fun a hF => step hF (Y.lenSl u_22 hF rfl) rfl fun a hF => ?_))))
 obtain ⟨hg, h⟩ := ite_some h
 refine O.makeRow (C := C_int) (0 : Int) 2 gr_32 zc_3 rfl hF rfl rfl hS hg rfl fun p_4 cs a w hF hS hr => step hF (Y.assign hF rfl) rfl fun a hF => nil (then_n (seq (seq (region (step hF (Y.assign hF rfl) rfl fun a hF => nil (then_n (block (loop_cut (body := remontoirlaw06_LineListed_b1 n rv_2 rv_3 rv_4) (out := out) (fun s a w => ∃ (v4_0 : Bool) (i : Int) (l : (List Int)), ∃ (Dv_2 : Stab), ∃ p_5 c_4 cs_1, s = (v4_0, i, l) ∧ Dv_1.le Dv_2 ∧ Frm 284 [] [(2, .pointer (some ⟨b, 0, none⟩)), (4, .bool v4_0), (5, .int .i64 rv_2), (6, .slice p_2 rv_3.1.length c_2), (8, .slice p_3 rv_4.1.length c_3), (10, .slice p_5 l.length c_4), (11, .int .i64 i)] a ∧ St w0 D0 Dv_2 [(1, .cells b [.int .i64 n.Exchanges, .slice p n.Lines.length c, .int .i64 n.Hops, .slice p_1 n.Loops.length c_1] 25), (2, .own p_5 l.length c_4 cs_1 3 1)] w ∧ Reps C_int Dv_2 l cs_1) (false, 0, (List.replicate (Int.toNat (n.Lines.length : Int)) (0 : Int))) h ⟨false, 0, (List.replicate (Int.toNat (n.Lines.length : Int)) (0 : Int)), Dv_1, p_4, ((List.replicate (Int.toNat (n.Lines.length : Int)) (0 : Int)).length), cs, rfl, Stab.le.refl _, hF.weak ⟨rfl, rfl, rfl, rfl, rfl, rfl, rfl, trivial⟩, hS.weak ⟨rfl, rfl, trivial⟩, hr⟩ ?_))))))))
 rintro s a w xo ⟨v4_0, i, l, Dv_2, p_5, c_4, cs_1, rfl, hlev_2, hF, hS, hr_1⟩ h hxo
 unfold remontoirlaw06_LineListed_b1 at h
 dsimp only at h
 replace hs := hs.mono hlev_2
 replace hs_1 := hs_1.mono hlev_2
 replace hG := hG.mono hlev_2
 replace hs_2 := hs_2.mono hlev_2
 replace hs_3 := hs_3.mono hlev_2
 refine seq (seq (region (step hF (Y.move hF rfl) rfl fun a hF => step hF (Y.move hF rfl) rfl fun a hF => step hF (Y.lenSl u_26 hF rfl) rfl fun a hF => step hF (Y.lss hF rfl rfl) rfl fun a hF => nil (then_n (cond_b hF rfl (fun hbv_7 => ?_) (fun hbv_7 => ?_))))))
 ·replace h := cond_t h hbv_7
  refine skip_ (then_n (seq (block (seq (region (step hF (Y.assign hF rfl) rfl fun a hF => step hF (Y.assign hF rfl) rfl fun a hF => nil (then_n (seq (seq ?_)))))))))
  obtain ⟨e, hx_6, h⟩ := bind_some h
  obtain ⟨t_4, ht_4, h⟩ := bind_some h
  refine drawsV 53 (.flt 0 (.flt 1 (.flt 2 (.flt 3 (.flt 4 (.flt 5 (.flt 6 (.flt 7 (.flt 8 (.flt 9 (.flt 10 (.flt 11 (.flt 12 (.flt 13 (.flt 14 (.flt 15 (.flt 16 (.flt 17 (.flt 18 (.flt 19 (.flt 20 (.flt 21 (.flt 22 (.flt 23 (.flt 24 (.flt 25 (.flt 26 (.flt 27 (.flt 28 (.flt 29 (.flt 30 (.flt 31 (.flt 32 (.flt 33 (.flt 34 (.flt 35 (.flt 36 (.flt 37 (.flt 38 (.flt 39 (.flt 40 (.flt 41 (.flt 42 (.flt 43 (.flt 44 (.flt 45 (.flt 46 (.alt 47 (.flt 48 (.flt 49 (.flt 50 (.flt 51 (.flt 52 .done))))) .stop)))))))))))))))))))))))))))))))))))))))))))))))) mixed_ (by kernel_rfl) (fun w => St w0 D0 Dv_2 [(1, .cells b [.int .i64 n.Exchanges, .slice p n.Lines.length c, .int .i64 n.Hops, .slice p_1 n.Loops.length c_1] 25), (2, .own p_5 l.length c_4 cs_1 3 1)] w) (fun a w => Frm 284 [] [(2, .pointer (some ⟨b, 0, none⟩)), (4, .bool v4_0), (5, .int .i64 rv_2), (6, .slice p_2 rv_3.1.length c_2), (8, .slice p_3 rv_4.1.length c_3), (10, .slice p_5 l.length c_4), (11, .int .i64 i), (12, .int .i64 0), (13, .int .i64 1), (131, .bool t_4)] a ∧ St w0 D0 Dv_2 [(1, .cells b [.int .i64 n.Exchanges, .slice p n.Lines.length c, .int .i64 n.Hops, .slice p_1 n.Loops.length c_1] 25), (2, .own p_5 l.length c_4 cs_1 3 1)] w) (hS.weak (ms := [(1, .cells b [.int .i64 n.Exchanges, .slice p n.Lines.length c, .int .i64 n.Hops, .slice p_1 n.Loops.length c_1] 25), (2, .own p_5 l.length c_4 cs_1 3 1)]) ⟨rfl, rfl, trivial⟩).drew (fun _ _ _ _ h => h) ?_ ?_
  ·replace hS := hS.drew
   have hle0 := hS.le
   rcases bcases (decide ((e.length : Int) > n.Hops)) with hbv_8 | hbv_8
   ·skip
    replace ht_4 := cond_t ht_4 hbv_8
    obtain rfl := some_inj ht_4
    refine stepV (i := 0) rfl hF (fun w hS => Y.move hF rfl) rfl fun a hF => stepV (i := 1) rfl hF (fun w hS => Y.move hF rfl) rfl fun a hF => ?_
    obtain ⟨b_8, o_7, hE_7, hY_7⟩ := Y.indexS (P := Tryd.prog) (C := (C_sl C_int)) (xs := rv_3.1) (T := 26) (x := (.tmp 79)) (y := (.tmp 80)) u_26 sz_32 hF rfl rfl (hs_2).1 hx_6
    obtain ⟨cc_7, hc_7, hcell_7⟩ := hE_7.open
    obtain ⟨p_13, c_12, rfl, hs_11⟩ := hc_7
    refine stepV (i := 2) rfl hF (fun w hS => hY_7) rfl fun a hF => stepV (i := 3) rfl hF (fun w hS => Y.load1 sz_32 hF rfl (hcell_7 _ hS.stab 0 _ rfl)) rfl fun a hF => stepV (i := 4) rfl hF (fun w hS => Y.lenSl u_32 hF rfl) rfl fun a hF => stepV (i := 5) rfl hF (fun w hS => Y.fieldAddr fo_25_2 hF rfl) rfl fun a hF => stepV (i := 6) rfl hF (fun w hS => Y.load1L 1 sz_3 hF rfl hS rfl rfl) rfl fun a hF => stepV (i := 7) rfl hF (fun w hS => Y.gtr hF rfl rfl) rfl fun a hF => stepV (i := 8) rfl hF (fun w hS => Y.move hF rfl) rfl fun a hF => stepV_off (i := 9) rfl hF rfl rfl hbv_8 rfl fun a hF => stepV_off (i := 10) rfl hF rfl rfl hbv_8 rfl fun a hF => stepV_off (i := 11) rfl hF rfl rfl hbv_8 rfl fun a hF => stepV_offu (i := 12) rfl hF rfl rfl rfl fun a hF => stepV_offu (i := 13) rfl hF rfl rfl rfl fun a hF => stepV_offu (i := 14) rfl hF rfl rfl rfl fun a hF => stepV_offu (i := 15) rfl hF rfl rfl rfl fun a hF => stepV_offu (i := 16) rfl hF rfl rfl rfl fun a hF => stepV_offu (i := 17) rfl hF rfl rfl rfl fun a hF => stepV_offu (i := 18) rfl hF rfl rfl rfl fun a hF => stepV_offu (i := 19) rfl hF rfl rfl rfl fun a hF => stepV_offu (i := 20) rfl hF rfl rfl rfl fun a hF => stepV_offu (i := 21) rfl hF rfl rfl rfl fun a hF => stepV_offu (i := 22) rfl hF rfl rfl rfl fun a hF => stepV_offu (i := 23) rfl hF rfl rfl rfl fun a hF => stepV_offu (i := 24) rfl hF rfl rfl rfl fun a hF => stepV_offu (i := 25) rfl hF rfl rfl rfl fun a hF => stepV_offu (i := 26) rfl hF rfl rfl rfl fun a hF => stepV_offu (i := 27) rfl hF rfl rfl rfl fun a hF => stepV_offu (i := 28) rfl hF rfl rfl rfl fun a hF => stepV_offu (i := 29) rfl hF rfl rfl rfl fun a hF => stepV_offu (i := 30) rfl hF rfl rfl rfl fun a hF => stepV_offu (i := 31) rfl hF rfl rfl rfl fun a hF => stepV_offu (i := 32) rfl hF rfl rfl rfl fun a hF => stepV_offu (i := 33) rfl hF rfl rfl rfl fun a hF => stepV_offu (i := 34) rfl hF rfl rfl rfl fun a hF => stepV_offu (i := 35) rfl hF rfl rfl rfl fun a hF => stepV_offu (i := 36) rfl hF rfl rfl rfl fun a hF => stepV_offu (i := 37) rfl hF rfl rfl rfl fun a hF => stepV_offu (i := 38) rfl hF rfl rfl rfl fun a hF => stepV_offu (i := 39) rfl hF rfl rfl rfl fun a hF => stepV_offu (i := 40) rfl hF rfl rfl rfl fun a hF => stepV_offu (i := 41) rfl hF rfl rfl rfl fun a hF => stepV_offu (i := 42) rfl hF rfl rfl rfl fun a hF => stepV_offu (i := 43) rfl hF rfl rfl rfl fun a hF => stepV_offu (i := 44) rfl hF rfl rfl rfl fun a hF => stepV_offu (i := 45) rfl hF rfl rfl rfl fun a hF => stepV_offu (i := 46) rfl hF rfl rfl rfl fun a hF => oneV (i := 47) rfl ?_ trivial
    refine guard_offu hF rfl rfl rfl fun a hF => nil (then_n ⟨hS.weak ⟨rfl, rfl, trivial⟩, ?_⟩)
    refine stepV_offu (i := 48) rfl hF rfl rfl rfl fun a hF => stepV_offu (i := 49) rfl hF rfl rfl rfl fun a hF => stepV_offu (i := 50) rfl hF rfl rfl rfl fun a hF => stepV_off (i := 51) rfl hF rfl rfl hbv_8 rfl fun a hF => stepV (i := 52) rfl hF (fun w hS => Y.pick_t hF rfl hbv_8 rfl) rfl fun a hF => toTailV ⟨hF.weak ⟨rfl, rfl, rfl, rfl, rfl, rfl, rfl, rfl, rfl, rfl, trivial⟩, hS.weak ⟨rfl, rfl, trivial⟩⟩
   replace ht_4 := cond_f ht_4 hbv_8
   obtain ⟨t_3, ht_3, ht_4⟩ := bind_some ht_4
   obtain rfl := some_inj ht_4
   rcases bcases (decide (i > 0)) with hbv_9 | hbv_9
   ·skip
    replace ht_3 := cond_t ht_3 hbv_9
    obtain ⟨e_1, hx_7, ht_3⟩ := bind_some ht_3
    obtain ⟨t_2, ht_2, ht_3⟩ := bind_some ht_3
    obtain rfl := some_inj ht_3
    rcases bcases (decide ((e.length : Int) < (e_1.length : Int))) with hbv_10 | hbv_10
    ·skip
     replace ht_2 := cond_t ht_2 hbv_10
     obtain rfl := some_inj ht_2
     refine stepV (i := 0) rfl hF (fun w hS => Y.move hF rfl) rfl fun a hF => stepV (i := 1) rfl hF (fun w hS => Y.move hF rfl) rfl fun a hF => ?_
     obtain ⟨b_9, o_8, hE_8, hY_8⟩ := Y.indexS (P := Tryd.prog) (C := (C_sl C_int)) (xs := rv_3.1) (T := 26) (x := (.tmp 79)) (y := (.tmp 80)) u_26 sz_32 hF rfl rfl (hs_2).1 hx_6
     obtain ⟨cc_8, hc_8, hcell_8⟩ := hE_8.open
     obtain ⟨p_14, c_13, rfl, hs_12⟩ := hc_8
     refine stepV (i := 2) rfl hF (fun w hS => hY_8) rfl fun a hF => stepV (i := 3) rfl hF (fun w hS => Y.load1 sz_32 hF rfl (hcell_8 _ hS.stab 0 _ rfl)) rfl fun a hF => stepV (i := 4) rfl hF (fun w hS => Y.lenSl u_32 hF rfl) rfl fun a hF => stepV (i := 5) rfl hF (fun w hS => Y.fieldAddr fo_25_2 hF rfl) rfl fun a hF => stepV (i := 6) rfl hF (fun w hS => Y.load1L 1 sz_3 hF rfl hS rfl rfl) rfl fun a hF => stepV (i := 7) rfl hF (fun w hS => Y.gtr hF rfl rfl) rfl fun a hF => stepV (i := 8) rfl hF (fun w hS => Y.move hF rfl) rfl fun a hF => stepV_on (i := 9) rfl hF rfl rfl hbv_8 (fun w hS => Y.move hF rfl) rfl fun a hF => stepV_on (i := 10) rfl hF rfl rfl hbv_8 (fun w hS => Y.gtr hF rfl rfl) rfl fun a hF => stepV_on (i := 11) rfl hF rfl rfl hbv_8 (fun w hS => Y.move hF rfl) rfl fun a hF => stepV_on (i := 12) rfl hF rfl rfl hbv_9 (fun w hS => Y.move hF rfl) rfl fun a hF => stepV_on (i := 13) rfl hF rfl rfl hbv_9 (fun w hS => Y.move hF rfl) rfl fun a hF => ?_
     obtain ⟨b_10, o_9, hE_9, hY_9⟩ := Y.indexS (P := Tryd.prog) (C := (C_sl C_int)) (xs := rv_3.1) (T := 26) (x := (.tmp 91)) (y := (.tmp 92)) u_26 sz_32 hF rfl rfl (hs_2).1 hx_6
     obtain ⟨cc_9, hc_9, hcell_9⟩ := hE_9.open
     obtain ⟨p_15, c_14, rfl, hs_13⟩ := hc_9
     refine stepV_on (i := 14) rfl hF rfl rfl hbv_9 (fun w hS => hY_9) rfl fun a hF => stepV_on (i := 15) rfl hF rfl rfl hbv_9 (fun w hS => Y.load1 sz_32 hF rfl (hcell_9 _ hS.stab 0 _ rfl)) rfl fun a hF => stepV_on (i := 16) rfl hF rfl rfl hbv_9 (fun w hS => Y.lenSl u_32 hF rfl) rfl fun a hF => stepV_on (i := 17) rfl hF rfl rfl hbv_9 (fun w hS => Y.move hF rfl) rfl fun a hF => stepV_on (i := 18) rfl hF rfl rfl hbv_9 (fun w hS => Y.move hF rfl) rfl fun a hF => stepV_on (i := 19) rfl hF rfl rfl hbv_9 (fun w hS => Y.sub hF rfl rfl) rfl fun a hF => ?_
     obtain ⟨b_11, o_10, hE_10, hY_10⟩ := Y.indexS (P := Tryd.prog) (C := (C_sl C_int)) (xs := rv_3.1) (T := 26) (x := (.tmp 96)) (y := (.tmp 98)) u_26 sz_32 hF rfl rfl (hs_2).1 hx_7
     obtain ⟨cc_10, hc_10, hcell_10⟩ := hE_10.open
     obtain ⟨p_16, c_15, rfl, hs_14⟩ := hc_10
     refine stepV_on (i := 20) rfl hF rfl rfl hbv_9 (fun w hS => hY_10) rfl fun a hF => stepV_on (i := 21) rfl hF rfl rfl hbv_9 (fun w hS => Y.load1 sz_32 hF rfl (hcell_10 _ hS.stab 0 _ rfl)) rfl fun a hF => stepV_on (i := 22) rfl hF rfl rfl hbv_9 (fun w hS => Y.lenSl u_32 hF rfl) rfl fun a hF => stepV_on (i := 23) rfl hF rfl rfl hbv_9 (fun w hS => Y.lss hF rfl rfl) rfl fun a hF => stepV_on (i := 24) rfl hF rfl rfl hbv_9 (fun w hS => Y.move hF rfl) rfl fun a hF => stepV_off (i := 25) rfl hF rfl rfl hbv_10 rfl fun a hF => stepV_off (i := 26) rfl hF rfl rfl hbv_10 rfl fun a hF => stepV_off (i := 27) rfl hF rfl rfl hbv_10 rfl fun a hF => stepV_off (i := 28) rfl hF rfl rfl hbv_10 rfl fun a hF => stepV_off (i := 29) rfl hF rfl rfl hbv_10 rfl fun a hF => stepV_off (i := 30) rfl hF rfl rfl hbv_10 rfl fun a hF => stepV_off (i := 31) rfl hF rfl rfl hbv_10 rfl fun a hF => stepV_off (i := 32) rfl hF rfl rfl hbv_10 rfl fun a hF => stepV_off (i := 33) rfl hF rfl rfl hbv_10 rfl fun a hF => stepV_off (i := 34) rfl hF rfl rfl hbv_10 rfl fun a hF => stepV_off (i := 35) rfl hF rfl rfl hbv_10 rfl fun a hF => stepV_off (i := 36) rfl hF rfl rfl hbv_10 rfl fun a hF => stepV_off (i := 37) rfl hF rfl rfl hbv_10 rfl fun a hF => stepV_offu (i := 38) rfl hF rfl rfl rfl fun a hF => stepV_offu (i := 39) rfl hF rfl rfl rfl fun a hF => stepV_offu (i := 40) rfl hF rfl rfl rfl fun a hF => stepV_offu (i := 41) rfl hF rfl rfl rfl fun a hF => stepV_offu (i := 42) rfl hF rfl rfl rfl fun a hF => stepV_offu (i := 43) rfl hF rfl rfl rfl fun a hF => stepV_offu (i := 44) rfl hF rfl rfl rfl fun a hF => stepV_offu (i := 45) rfl hF rfl rfl rfl fun a hF => stepV_offu (i := 46) rfl hF rfl rfl rfl fun a hF => oneV (i := 47) rfl ?_ trivial
     refine guard_offu hF rfl rfl rfl fun a hF => nil (then_n ⟨hS.weak ⟨rfl, rfl, trivial⟩, ?_⟩)
     refine stepV_offu (i := 48) rfl hF rfl rfl rfl fun a hF => stepV_off (i := 49) rfl hF rfl rfl hbv_10 rfl fun a hF => stepV_on (i := 50) rfl hF rfl rfl hbv_9 (fun w hS => Y.pick_t hF rfl hbv_10 rfl) rfl fun a hF => stepV_on (i := 51) rfl hF rfl rfl hbv_8 (fun w hS => Y.pick_t hF rfl hbv_9 rfl) rfl fun a hF => stepV (i := 52) rfl hF (fun w hS => Y.pick_f hF rfl hbv_8 rfl) rfl fun a hF => toTailV ⟨hF.weak ⟨rfl, rfl, rfl, rfl, rfl, rfl, rfl, rfl, rfl, rfl, trivial⟩, hS.weak ⟨rfl, rfl, trivial⟩⟩
    replace ht_2 := cond_f ht_2 hbv_10
    obtain ⟨t_1, ht_1, ht_2⟩ := bind_some ht_2
    obtain rfl := some_inj ht_2
    rcases bcases ((e.length : Int) == (e_1.length : Int)) with hbv_11 | hbv_11
    ·skip
     replace ht_1 := cond_t ht_1 hbv_11
     obtain ⟨rv_6, hx_8, ht_1⟩ := bind_some ht_1
     obtain rfl := some_inj ht_1
     refine stepV (i := 0) rfl hF (fun w hS => Y.move hF rfl) rfl fun a hF => stepV (i := 1) rfl hF (fun w hS => Y.move hF rfl) rfl fun a hF => ?_
     obtain ⟨b_12, o_11, hE_11, hY_11⟩ := Y.indexS (P := Tryd.prog) (C := (C_sl C_int)) (xs := rv_3.1) (T := 26) (x := (.tmp 79)) (y := (.tmp 80)) u_26 sz_32 hF rfl rfl (hs_2).1 hx_6
     obtain ⟨cc_11, hc_11, hcell_11⟩ := hE_11.open
     obtain ⟨p_17, c_16, rfl, hs_15⟩ := hc_11
     refine stepV (i := 2) rfl hF (fun w hS => hY_11) rfl fun a hF => stepV (i := 3) rfl hF (fun w hS => Y.load1 sz_32 hF rfl (hcell_11 _ hS.stab 0 _ rfl)) rfl fun a hF => stepV (i := 4) rfl hF (fun w hS => Y.lenSl u_32 hF rfl) rfl fun a hF => stepV (i := 5) rfl hF (fun w hS => Y.fieldAddr fo_25_2 hF rfl) rfl fun a hF => stepV (i := 6) rfl hF (fun w hS => Y.load1L 1 sz_3 hF rfl hS rfl rfl) rfl fun a hF => stepV (i := 7) rfl hF (fun w hS => Y.gtr hF rfl rfl) rfl fun a hF => stepV (i := 8) rfl hF (fun w hS => Y.move hF rfl) rfl fun a hF => stepV_on (i := 9) rfl hF rfl rfl hbv_8 (fun w hS => Y.move hF rfl) rfl fun a hF => stepV_on (i := 10) rfl hF rfl rfl hbv_8 (fun w hS => Y.gtr hF rfl rfl) rfl fun a hF => stepV_on (i := 11) rfl hF rfl rfl hbv_8 (fun w hS => Y.move hF rfl) rfl fun a hF => stepV_on (i := 12) rfl hF rfl rfl hbv_9 (fun w hS => Y.move hF rfl) rfl fun a hF => stepV_on (i := 13) rfl hF rfl rfl hbv_9 (fun w hS => Y.move hF rfl) rfl fun a hF => ?_
     obtain ⟨b_13, o_12, hE_12, hY_12⟩ := Y.indexS (P := Tryd.prog) (C := (C_sl C_int)) (xs := rv_3.1) (T := 26) (x := (.tmp 91)) (y := (.tmp 92)) u_26 sz_32 hF rfl rfl (hs_2).1 hx_6
     obtain ⟨cc_12, hc_12, hcell_12⟩ := hE_12.open
     obtain ⟨p_18, c_17, rfl, hs_16⟩ := hc_12
     refine stepV_on (i := 14) rfl hF rfl rfl hbv_9 (fun w hS => hY_12) rfl fun a hF => stepV_on (i := 15) rfl hF rfl rfl hbv_9 (fun w hS => Y.load1 sz_32 hF rfl (hcell_12 _ hS.stab 0 _ rfl)) rfl fun a hF => stepV_on (i := 16) rfl hF rfl rfl hbv_9 (fun w hS => Y.lenSl u_32 hF rfl) rfl fun a hF => stepV_on (i := 17) rfl hF rfl rfl hbv_9 (fun w hS => Y.move hF rfl) rfl fun a hF => stepV_on (i := 18) rfl hF rfl rfl hbv_9 (fun w hS => Y.move hF rfl) rfl fun a hF => stepV_on (i := 19) rfl hF rfl rfl hbv_9 (fun w hS => Y.sub hF rfl rfl) rfl fun a hF => ?_
     obtain ⟨b_14, o_13, hE_13, hY_13⟩ := Y.indexS (P := Tryd.prog) (C := (C_sl C_int)) (xs := rv_3.1) (T := 26) (x := (.tmp 96)) (y := (.tmp 98)) u_26 sz_32 hF rfl rfl (hs_2).1 hx_7
     obtain ⟨cc_13, hc_13, hcell_13⟩ := hE_13.open
     obtain ⟨p_19, c_18, rfl, hs_17⟩ := hc_13
     refine stepV_on (i := 20) rfl hF rfl rfl hbv_9 (fun w hS => hY_13) rfl fun a hF => stepV_on (i := 21) rfl hF rfl rfl hbv_9 (fun w hS => Y.load1 sz_32 hF rfl (hcell_13 _ hS.stab 0 _ rfl)) rfl fun a hF => stepV_on (i := 22) rfl hF rfl rfl hbv_9 (fun w hS => Y.lenSl u_32 hF rfl) rfl fun a hF => stepV_on (i := 23) rfl hF rfl rfl hbv_9 (fun w hS => Y.lss hF rfl rfl) rfl fun a hF => stepV_on (i := 24) rfl hF rfl rfl hbv_9 (fun w hS => Y.move hF rfl) rfl fun a hF => stepV_on (i := 25) rfl hF rfl rfl hbv_10 (fun w hS => Y.move hF rfl) rfl fun a hF => stepV_on (i := 26) rfl hF rfl rfl hbv_10 (fun w hS => Y.move hF rfl) rfl fun a hF => ?_
     obtain ⟨b_15, o_14, hE_14, hY_14⟩ := Y.indexS (P := Tryd.prog) (C := (C_sl C_int)) (xs := rv_3.1) (T := 26) (x := (.tmp 104)) (y := (.tmp 105)) u_26 sz_32 hF rfl rfl (hs_2).1 hx_6
     obtain ⟨cc_14, hc_14, hcell_14⟩ := hE_14.open
     obtain ⟨p_20, c_19, rfl, hs_18⟩ := hc_14
     refine stepV_on (i := 27) rfl hF rfl rfl hbv_10 (fun w hS => hY_14) rfl fun a hF => stepV_on (i := 28) rfl hF rfl rfl hbv_10 (fun w hS => Y.load1 sz_32 hF rfl (hcell_14 _ hS.stab 0 _ rfl)) rfl fun a hF => stepV_on (i := 29) rfl hF rfl rfl hbv_10 (fun w hS => Y.lenSl u_32 hF rfl) rfl fun a hF => stepV_on (i := 30) rfl hF rfl rfl hbv_10 (fun w hS => Y.move hF rfl) rfl fun a hF => stepV_on (i := 31) rfl hF rfl rfl hbv_10 (fun w hS => Y.move hF rfl) rfl fun a hF => stepV_on (i := 32) rfl hF rfl rfl hbv_10 (fun w hS => Y.sub hF rfl rfl) rfl fun a hF => ?_
     obtain ⟨b_16, o_15, hE_15, hY_15⟩ := Y.indexS (P := Tryd.prog) (C := (C_sl C_int)) (xs := rv_3.1) (T := 26) (x := (.tmp 109)) (y := (.tmp 111)) u_26 sz_32 hF rfl rfl (hs_2).1 hx_7
     obtain ⟨cc_15, hc_15, hcell_15⟩ := hE_15.open
     obtain ⟨p_21, c_20, rfl, hs_19⟩ := hc_15
     refine stepV_on (i := 33) rfl hF rfl rfl hbv_10 (fun w hS => hY_15) rfl fun a hF => stepV_on (i := 34) rfl hF rfl rfl hbv_10 (fun w hS => Y.load1 sz_32 hF rfl (hcell_15 _ hS.stab 0 _ rfl)) rfl fun a hF => stepV_on (i := 35) rfl hF rfl rfl hbv_10 (fun w hS => Y.lenSl u_32 hF rfl) rfl fun a hF => stepV_on (i := 36) rfl hF rfl rfl hbv_10 (fun w hS => Y.eql hF rfl rfl) rfl fun a hF => stepV_on (i := 37) rfl hF rfl rfl hbv_10 (fun w hS => Y.move hF rfl) rfl fun a hF => stepV_on (i := 38) rfl hF rfl rfl hbv_11 (fun w hS => Y.move hF rfl) rfl fun a hF => stepV_on (i := 39) rfl hF rfl rfl hbv_11 (fun w hS => Y.move hF rfl) rfl fun a hF => stepV_on (i := 40) rfl hF rfl rfl hbv_11 (fun w hS => Y.sub hF rfl rfl) rfl fun a hF => ?_
     obtain ⟨b_17, o_16, hE_16, hY_16⟩ := Y.indexS (P := Tryd.prog) (C := (C_sl C_int)) (xs := rv_3.1) (T := 26) (x := (.tmp 117)) (y := (.tmp 119)) u_26 sz_32 hF rfl rfl (hs_2).1 hx_7
     obtain ⟨cc_16, hc_16, hcell_16⟩ := hE_16.open
     obtain ⟨p_22, c_21, rfl, hs_20⟩ := hc_16
     refine stepV_on (i := 41) rfl hF rfl rfl hbv_11 (fun w hS => hY_16) rfl fun a hF => stepV_on (i := 42) rfl hF rfl rfl hbv_11 (fun w hS => Y.load1 sz_32 hF rfl (hcell_16 _ hS.stab 0 _ rfl)) rfl fun a hF => stepV_on (i := 43) rfl hF rfl rfl hbv_11 (fun w hS => Y.move hF rfl) rfl fun a hF => stepV_on (i := 44) rfl hF rfl rfl hbv_11 (fun w hS => Y.move hF rfl) rfl fun a hF => ?_
     obtain ⟨b_18, o_17, hE_17, hY_17⟩ := Y.indexS (P := Tryd.prog) (C := (C_sl C_int)) (xs := rv_3.1) (T := 26) (x := (.tmp 122)) (y := (.tmp 123)) u_26 sz_32 hF rfl rfl (hs_2).1 hx_6
     obtain ⟨cc_17, hc_17, hcell_17⟩ := hE_17.open
     obtain ⟨p_23, c_22, rfl, hs_21⟩ := hc_17
     refine stepV_on (i := 45) rfl hF rfl rfl hbv_11 (fun w hS => hY_17) rfl fun a hF => stepV_on (i := 46) rfl hF rfl rfl hbv_11 (fun w hS => Y.load1 sz_32 hF rfl (hcell_17 _ hS.stab 0 _ rfl)) rfl fun a hF => oneV (i := 47) rfl ?_ trivial
     refine guard_on hF rfl rfl hbv_11 (O.callP (us := [.slice p_22 e_1.length c_21, .slice p_23 e.length c_22]) ca_43 hF hS (r0Ahead_ok hS.stab e_1 e hs_20 hs_21 rv_6 hx_8) rfl rfl fun a w hF hS => nil (then_n ⟨hS.weak ⟨rfl, rfl, trivial⟩, ?_⟩))
     refine stepV_on (i := 48) rfl hF rfl rfl hbv_11 (fun w hS => Y.not hF rfl) rfl fun a hF => stepV_on (i := 49) rfl hF rfl rfl hbv_10 (fun w hS => Y.pick_t hF rfl hbv_11 rfl) rfl fun a hF => stepV_on (i := 50) rfl hF rfl rfl hbv_9 (fun w hS => Y.pick_f hF rfl hbv_10 rfl) rfl fun a hF => stepV_on (i := 51) rfl hF rfl rfl hbv_8 (fun w hS => Y.pick_t hF rfl hbv_9 rfl) rfl fun a hF => stepV (i := 52) rfl hF (fun w hS => Y.pick_f hF rfl hbv_8 rfl) rfl fun a hF => toTailV ⟨hF.weak ⟨rfl, rfl, rfl, rfl, rfl, rfl, rfl, rfl, rfl, rfl, trivial⟩, hS.weak ⟨rfl, rfl, trivial⟩⟩
    replace ht_1 := cond_f ht_1 hbv_11
    obtain rfl := some_inj ht_1
    refine stepV (i := 0) rfl hF (fun w hS => Y.move hF rfl) rfl fun a hF => stepV (i := 1) rfl hF (fun w hS => Y.move hF rfl) rfl fun a hF => ?_
    obtain ⟨b_19, o_18, hE_18, hY_18⟩ := Y.indexS (P := Tryd.prog) (C := (C_sl C_int)) (xs := rv_3.1) (T := 26) (x := (.tmp 79)) (y := (.tmp 80)) u_26 sz_32 hF rfl rfl (hs_2).1 hx_6
    obtain ⟨cc_18, hc_18, hcell_18⟩ := hE_18.open
    obtain ⟨p_24, c_23, rfl, hs_22⟩ := hc_18
    refine stepV (i := 2) rfl hF (fun w hS => hY_18) rfl fun a hF => stepV (i := 3) rfl hF (fun w hS => Y.load1 sz_32 hF rfl (hcell_18 _ hS.stab 0 _ rfl)) rfl fun a hF => stepV (i := 4) rfl hF (fun w hS => Y.lenSl u_32 hF rfl) rfl fun a hF => stepV (i := 5) rfl hF (fun w hS => Y.fieldAddr fo_25_2 hF rfl) rfl fun a hF => stepV (i := 6) rfl hF (fun w hS => Y.load1L 1 sz_3 hF rfl hS rfl rfl) rfl fun a hF => stepV (i := 7) rfl hF (fun w hS => Y.gtr hF rfl rfl) rfl fun a hF => stepV (i := 8) rfl hF (fun w hS => Y.move hF rfl) rfl fun a hF => stepV_on (i := 9) rfl hF rfl rfl hbv_8 (fun w hS => Y.move hF rfl) rfl fun a hF => stepV_on (i := 10) rfl hF rfl rfl hbv_8 (fun w hS => Y.gtr hF rfl rfl) rfl fun a hF => stepV_on (i := 11) rfl hF rfl rfl hbv_8 (fun w hS => Y.move hF rfl) rfl fun a hF => stepV_on (i := 12) rfl hF rfl rfl hbv_9 (fun w hS => Y.move hF rfl) rfl fun a hF => stepV_on (i := 13) rfl hF rfl rfl hbv_9 (fun w hS => Y.move hF rfl) rfl fun a hF => ?_
    obtain ⟨b_20, o_19, hE_19, hY_19⟩ := Y.indexS (P := Tryd.prog) (C := (C_sl C_int)) (xs := rv_3.1) (T := 26) (x := (.tmp 91)) (y := (.tmp 92)) u_26 sz_32 hF rfl rfl (hs_2).1 hx_6
    obtain ⟨cc_19, hc_19, hcell_19⟩ := hE_19.open
    obtain ⟨p_25, c_24, rfl, hs_23⟩ := hc_19
    refine stepV_on (i := 14) rfl hF rfl rfl hbv_9 (fun w hS => hY_19) rfl fun a hF => stepV_on (i := 15) rfl hF rfl rfl hbv_9 (fun w hS => Y.load1 sz_32 hF rfl (hcell_19 _ hS.stab 0 _ rfl)) rfl fun a hF => stepV_on (i := 16) rfl hF rfl rfl hbv_9 (fun w hS => Y.lenSl u_32 hF rfl) rfl fun a hF => stepV_on (i := 17) rfl hF rfl rfl hbv_9 (fun w hS => Y.move hF rfl) rfl fun a hF => stepV_on (i := 18) rfl hF rfl rfl hbv_9 (fun w hS => Y.move hF rfl) rfl fun a hF => stepV_on (i := 19) rfl hF rfl rfl hbv_9 (fun w hS => Y.sub hF rfl rfl) rfl fun a hF => ?_
    obtain ⟨b_21, o_20, hE_20, hY_20⟩ := Y.indexS (P := Tryd.prog) (C := (C_sl C_int)) (xs := rv_3.1) (T := 26) (x := (.tmp 96)) (y := (.tmp 98)) u_26 sz_32 hF rfl rfl (hs_2).1 hx_7
    obtain ⟨cc_20, hc_20, hcell_20⟩ := hE_20.open
    obtain ⟨p_26, c_25, rfl, hs_24⟩ := hc_20
    refine stepV_on (i := 20) rfl hF rfl rfl hbv_9 (fun w hS => hY_20) rfl fun a hF => stepV_on (i := 21) rfl hF rfl rfl hbv_9 (fun w hS => Y.load1 sz_32 hF rfl (hcell_20 _ hS.stab 0 _ rfl)) rfl fun a hF => stepV_on (i := 22) rfl hF rfl rfl hbv_9 (fun w hS => Y.lenSl u_32 hF rfl) rfl fun a hF => stepV_on (i := 23) rfl hF rfl rfl hbv_9 (fun w hS => Y.lss hF rfl rfl) rfl fun a hF => stepV_on (i := 24) rfl hF rfl rfl hbv_9 (fun w hS => Y.move hF rfl) rfl fun a hF => stepV_on (i := 25) rfl hF rfl rfl hbv_10 (fun w hS => Y.move hF rfl) rfl fun a hF => stepV_on (i := 26) rfl hF rfl rfl hbv_10 (fun w hS => Y.move hF rfl) rfl fun a hF => ?_
    obtain ⟨b_22, o_21, hE_21, hY_21⟩ := Y.indexS (P := Tryd.prog) (C := (C_sl C_int)) (xs := rv_3.1) (T := 26) (x := (.tmp 104)) (y := (.tmp 105)) u_26 sz_32 hF rfl rfl (hs_2).1 hx_6
    obtain ⟨cc_21, hc_21, hcell_21⟩ := hE_21.open
    obtain ⟨p_27, c_26, rfl, hs_25⟩ := hc_21
    refine stepV_on (i := 27) rfl hF rfl rfl hbv_10 (fun w hS => hY_21) rfl fun a hF => stepV_on (i := 28) rfl hF rfl rfl hbv_10 (fun w hS => Y.load1 sz_32 hF rfl (hcell_21 _ hS.stab 0 _ rfl)) rfl fun a hF => stepV_on (i := 29) rfl hF rfl rfl hbv_10 (fun w hS => Y.lenSl u_32 hF rfl) rfl fun a hF => stepV_on (i := 30) rfl hF rfl rfl hbv_10 (fun w hS => Y.move hF rfl) rfl fun a hF => stepV_on (i := 31) rfl hF rfl rfl hbv_10 (fun w hS => Y.move hF rfl) rfl fun a hF => stepV_on (i := 32) rfl hF rfl rfl hbv_10 (fun w hS => Y.sub hF rfl rfl) rfl fun a hF => ?_
    obtain ⟨b_23, o_22, hE_22, hY_22⟩ := Y.indexS (P := Tryd.prog) (C := (C_sl C_int)) (xs := rv_3.1) (T := 26) (x := (.tmp 109)) (y := (.tmp 111)) u_26 sz_32 hF rfl rfl (hs_2).1 hx_7
    obtain ⟨cc_22, hc_22, hcell_22⟩ := hE_22.open
    obtain ⟨p_28, c_27, rfl, hs_26⟩ := hc_22
    refine stepV_on (i := 33) rfl hF rfl rfl hbv_10 (fun w hS => hY_22) rfl fun a hF => stepV_on (i := 34) rfl hF rfl rfl hbv_10 (fun w hS => Y.load1 sz_32 hF rfl (hcell_22 _ hS.stab 0 _ rfl)) rfl fun a hF => stepV_on (i := 35) rfl hF rfl rfl hbv_10 (fun w hS => Y.lenSl u_32 hF rfl) rfl fun a hF => stepV_on (i := 36) rfl hF rfl rfl hbv_10 (fun w hS => Y.eql hF rfl rfl) rfl fun a hF => stepV_on (i := 37) rfl hF rfl rfl hbv_10 (fun w hS => Y.move hF rfl) rfl fun a hF => stepV_off (i := 38) rfl hF rfl rfl hbv_11 rfl fun a hF => stepV_off (i := 39) rfl hF rfl rfl hbv_11 rfl fun a hF => stepV_off (i := 40) rfl hF rfl rfl hbv_11 rfl fun a hF => stepV_off (i := 41) rfl hF rfl rfl hbv_11 rfl fun a hF => stepV_off (i := 42) rfl hF rfl rfl hbv_11 rfl fun a hF => stepV_off (i := 43) rfl hF rfl rfl hbv_11 rfl fun a hF => stepV_off (i := 44) rfl hF rfl rfl hbv_11 rfl fun a hF => stepV_off (i := 45) rfl hF rfl rfl hbv_11 rfl fun a hF => stepV_off (i := 46) rfl hF rfl rfl hbv_11 rfl fun a hF => oneV (i := 47) rfl ?_ trivial
    refine guard_off hF rfl rfl hbv_11 rfl fun a hF => nil (then_n ⟨hS.weak ⟨rfl, rfl, trivial⟩, ?_⟩)
    refine stepV_off (i := 48) rfl hF rfl rfl hbv_11 rfl fun a hF => stepV_on (i := 49) rfl hF rfl rfl hbv_10 (fun w hS => Y.pick_f hF rfl hbv_11 rfl) rfl fun a hF => stepV_on (i := 50) rfl hF rfl rfl hbv_9 (fun w hS => Y.pick_f hF rfl hbv_10 rfl) rfl fun a hF => stepV_on (i := 51) rfl hF rfl rfl hbv_8 (fun w hS => Y.pick_t hF rfl hbv_9 rfl) rfl fun a hF => stepV (i := 52) rfl hF (fun w hS => Y.pick_f hF rfl hbv_8 rfl) rfl fun a hF => toTailV ⟨hF.weak ⟨rfl, rfl, rfl, rfl, rfl, rfl, rfl, rfl, rfl, rfl, trivial⟩, hS.weak ⟨rfl, rfl, trivial⟩⟩
   replace ht_3 := cond_f ht_3 hbv_9
   obtain rfl := some_inj ht_3
   refine stepV (i := 0) rfl hF (fun w hS => Y.move hF rfl) rfl fun a hF => stepV (i := 1) rfl hF (fun w hS => Y.move hF rfl) rfl fun a hF => ?_
   obtain ⟨b_24, o_23, hE_23, hY_23⟩ := Y.indexS (P := Tryd.prog) (C := (C_sl C_int)) (xs := rv_3.1) (T := 26) (x := (.tmp 79)) (y := (.tmp 80)) u_26 sz_32 hF rfl rfl (hs_2).1 hx_6
   obtain ⟨cc_23, hc_23, hcell_23⟩ := hE_23.open
   obtain ⟨p_29, c_28, rfl, hs_27⟩ := hc_23
   refine stepV (i := 2) rfl hF (fun w hS => hY_23) rfl fun a hF => stepV (i := 3) rfl hF (fun w hS => Y.load1 sz_32 hF rfl (hcell_23 _ hS.stab 0 _ rfl)) rfl fun a hF => stepV (i := 4) rfl hF (fun w hS => Y.lenSl u_32 hF rfl) rfl fun a hF => stepV (i := 5) rfl hF (fun w hS => Y.fieldAddr fo_25_2 hF rfl) rfl fun a hF => stepV (i := 6) rfl hF (fun w hS => Y.load1L 1 sz_3 hF rfl hS rfl rfl) rfl fun a hF => stepV (i := 7) rfl hF (fun w hS => Y.gtr hF rfl rfl) rfl fun a hF => stepV (i := 8) rfl hF (fun w hS => Y.move hF rfl) rfl fun a hF => stepV_on (i := 9) rfl hF rfl rfl hbv_8 (fun w hS => Y.move hF rfl) rfl fun a hF => stepV_on (i := 10) rfl hF rfl rfl hbv_8 (fun w hS => Y.gtr hF rfl rfl) rfl fun a hF => stepV_on (i := 11) rfl hF rfl rfl hbv_8 (fun w hS => Y.move hF rfl) rfl fun a hF => stepV_off (i := 12) rfl hF rfl rfl hbv_9 rfl fun a hF => stepV_off (i := 13) rfl hF rfl rfl hbv_9 rfl fun a hF => stepV_off (i := 14) rfl hF rfl rfl hbv_9 rfl fun a hF => stepV_off (i := 15) rfl hF rfl rfl hbv_9 rfl fun a hF => stepV_off (i := 16) rfl hF rfl rfl hbv_9 rfl fun a hF => stepV_off (i := 17) rfl hF rfl rfl hbv_9 rfl fun a hF => stepV_off (i := 18) rfl hF rfl rfl hbv_9 rfl fun a hF => stepV_off (i := 19) rfl hF rfl rfl hbv_9 rfl fun a hF => stepV_off (i := 20) rfl hF rfl rfl hbv_9 rfl fun a hF => stepV_off (i := 21) rfl hF rfl rfl hbv_9 rfl fun a hF => stepV_off (i := 22) rfl hF rfl rfl hbv_9 rfl fun a hF => stepV_off (i := 23) rfl hF rfl rfl hbv_9 rfl fun a hF => stepV_off (i := 24) rfl hF rfl rfl hbv_9 rfl fun a hF => stepV_offu (i := 25) rfl hF rfl rfl rfl fun a hF => stepV_offu (i := 26) rfl hF rfl rfl rfl fun a hF => stepV_offu (i := 27) rfl hF rfl rfl rfl fun a hF => stepV_offu (i := 28) rfl hF rfl rfl rfl fun a hF => stepV_offu (i := 29) rfl hF rfl rfl rfl fun a hF => stepV_offu (i := 30) rfl hF rfl rfl rfl fun a hF => stepV_offu (i := 31) rfl hF rfl rfl rfl fun a hF => stepV_offu (i := 32) rfl hF rfl rfl rfl fun a hF => stepV_offu (i := 33) rfl hF rfl rfl rfl fun a hF => stepV_offu (i := 34) rfl hF rfl rfl rfl fun a hF => stepV_offu (i := 35) rfl hF rfl rfl rfl fun a hF => stepV_offu (i := 36) rfl hF rfl rfl rfl fun a hF => stepV_offu (i := 37) rfl hF rfl rfl rfl fun a hF => stepV_offu (i := 38) rfl hF rfl rfl rfl fun a hF => stepV_offu (i := 39) rfl hF rfl rfl rfl fun a hF => stepV_offu (i := 40) rfl hF rfl rfl rfl fun a hF => stepV_offu (i := 41) rfl hF rfl rfl rfl fun a hF => stepV_offu (i := 42) rfl hF rfl rfl rfl fun a hF => stepV_offu (i := 43) rfl hF rfl rfl rfl fun a hF => stepV_offu (i := 44) rfl hF rfl rfl rfl fun a hF => stepV_offu (i := 45) rfl hF rfl rfl rfl fun a hF => stepV_offu (i := 46) rfl hF rfl rfl rfl fun a hF => oneV (i := 47) rfl ?_ trivial
   refine guard_offu hF rfl rfl rfl fun a hF => nil (then_n ⟨hS.weak ⟨rfl, rfl, trivial⟩, ?_⟩)
   refine stepV_offu (i := 48) rfl hF rfl rfl rfl fun a hF => stepV_offu (i := 49) rfl hF rfl rfl rfl fun a hF => stepV_off (i := 50) rfl hF rfl rfl hbv_9 rfl fun a hF => stepV_on (i := 51) rfl hF rfl rfl hbv_8 (fun w hS => Y.pick_f hF rfl hbv_9 rfl) rfl fun a hF => stepV (i := 52) rfl hF (fun w hS => Y.pick_f hF rfl hbv_8 rfl) rfl fun a hF => toTailV ⟨hF.weak ⟨rfl, rfl, rfl, rfl, rfl, rfl, rfl, rfl, rfl, rfl, trivial⟩, hS.weak ⟨rfl, rfl, trivial⟩⟩
  rintro a w ⟨hF, hS⟩
  refine nil (then_n (cond_b hF rfl (fun hbv_12 => ?_) (fun hbv_12 => ?_)))
  ·replace h := cond_t h hbv_12
   refine seq (region (step hF (Y.assign hF rfl) rfl fun a hF => nil (then_n (ret_ (then_r (blk_r (then_r (then_r (blk_r (then_r ?_))))))))))
   replace h := ext_some h hxo
   obtain rfl := some_inj h
   exact leaveP Tryd.results8 hF hS (.cons (.tmp rfl) .nil) .nil rfl
  replace h := cond_f h hbv_12
  refine skip_ (then_n (seq (region ?_)))
  obtain ⟨rv_7, hx_9, h⟩ := bind_some h
  refine O.callP (us := [.int .i64 0, .int .i64 0]) ca_44 hF hS (r0To_ok hS.stab 0 0 rv_7 hx_9) rfl rfl fun a w hF hS => O.alloc 3 zc_40 hF hS rfl fun b_25 a w hF hS => O.store (us := [.int .i64 rv_7.Low, .int .i64 rv_7.High]) 3 sz_40 hF rfl rfl rfl rfl hS rfl rfl fun a w hF hS => nil (then_n (seq (seq (region (step hF (Y.assign hF rfl) rfl fun a hF => nil (then_n (block (loop_cut (body := remontoirlaw06_LineListed_b2 n rv_2 i e) (out := xo) (fun s a w => ∃ (v4_1 : Bool) (atv : Int) (met : Int) (k : Int) (l_1 : (List Int)) (z : Int) (z_1 : Int), ∃ p_30 c_29 cs_2, s = (v4_1, atv, met, k, l_1, z, z_1) ∧ Frm 284 [] [(2, .pointer (some ⟨b, 0, none⟩)), (4, .bool v4_1), (5, .int .i64 rv_2), (6, .slice p_2 rv_3.1.length c_2), (8, .slice p_3 rv_4.1.length c_3), (10, .slice p_30 l_1.length c_29), (11, .int .i64 i), (12, .int .i64 atv), (13, .int .i64 met), (14, .pointer (some ⟨b_25, 0, none⟩)), (15, .int .i64 k)] a ∧ St w0 D0 Dv_2 [(1, .cells b [.int .i64 n.Exchanges, .slice p n.Lines.length c, .int .i64 n.Hops, .slice p_1 n.Loops.length c_1] 25), (2, .own p_30 l_1.length c_29 cs_2 3 1), (3, .cells b_25 [.int .i64 z, .int .i64 z_1] 40)] w ∧ Reps C_int Dv_2 l_1 cs_2) (v4_0, 0, 1, 0, l, rv_7.Low, rv_7.High) h ⟨v4_0, 0, 1, 0, l, rv_7.Low, rv_7.High, p_5, c_4, cs_1, rfl, hF.weak ⟨rfl, rfl, rfl, rfl, rfl, rfl, rfl, rfl, rfl, rfl, rfl, trivial⟩, hS.weak ⟨rfl, rfl, rfl, trivial⟩, hr_1⟩ ?_))))))))
  rintro s a w xo_1 ⟨v4_1, atv, met, k, l_1, z, z_1, p_30, c_29, cs_2, rfl, hF, hS, hr_2⟩ h hxo_1
  unfold remontoirlaw06_LineListed_b2 at h
  dsimp only at h
  refine seq (seq (region (step hF (Y.move hF rfl) rfl fun a hF => step hF (Y.move hF rfl) rfl fun a hF => step hF (Y.move hF rfl) rfl fun a hF => ?_)))
  obtain ⟨b_26, o_24, hE_24, hY_24⟩ := Y.indexS (P := Tryd.prog) (C := (C_sl C_int)) (xs := rv_3.1) (T := 26) (x := (.tmp 134)) (y := (.tmp 135)) u_26 sz_32 hF rfl rfl (hs_2).1 hx_6
  obtain ⟨cc_24, hc_24, hcell_24⟩ := hE_24.open
  obtain ⟨p_31, c_30, rfl, hs_28⟩ := hc_24
  refine step hF (hY_24) rfl fun a hF => step hF (Y.load1 sz_32 hF rfl (hcell_24 _ hS.stab 0 _ rfl)) rfl fun a hF => step hF (Y.lenSl u_32 hF rfl) rfl fun a hF => step hF (Y.lss hF rfl rfl) rfl fun a hF => nil (then_n (cond_b hF rfl (fun hbv_13 => ?_) (fun hbv_13 => ?_)))
  ·replace h := cond_t h hbv_13
   refine skip_ (then_n (seq (block (seq (seq ?_)))))
   obtain ⟨e_2, hx_10, h⟩ := bind_some h
   refine drawsV 11 (.flt 0 (.flt 1 (.flt 2 (.flt 3 (.flt 4 (.flt 5 (.flt 6 (.flt 7 (.flt 8 (.flt 9 (.flt 10 .done))))))))))) mixed_ (by kernel_rfl) (fun w => St w0 D0 Dv_2 [(1, .cells b [.int .i64 n.Exchanges, .slice p n.Lines.length c, .int .i64 n.Hops, .slice p_1 n.Loops.length c_1] 25), (2, .own p_30 l_1.length c_29 cs_2 3 1), (3, .cells b_25 [.int .i64 z, .int .i64 z_1] 40)] w) (fun a w => Frm 284 [] [(2, .pointer (some ⟨b, 0, none⟩)), (4, .bool v4_1), (5, .int .i64 rv_2), (6, .slice p_2 rv_3.1.length c_2), (8, .slice p_3 rv_4.1.length c_3), (10, .slice p_30 l_1.length c_29), (11, .int .i64 i), (12, .int .i64 atv), (13, .int .i64 met), (14, .pointer (some ⟨b_25, 0, none⟩)), (15, .int .i64 k), (148, .int .i64 e_2), (152, .int .i64 (wr ((n.Lines.length : Int) - 1)))] a ∧ St w0 D0 Dv_2 [(1, .cells b [.int .i64 n.Exchanges, .slice p n.Lines.length c, .int .i64 n.Hops, .slice p_1 n.Loops.length c_1] 25), (2, .own p_30 l_1.length c_29 cs_2 3 1), (3, .cells b_25 [.int .i64 z, .int .i64 z_1] 40)] w) (hS.weak (ms := [(1, .cells b [.int .i64 n.Exchanges, .slice p n.Lines.length c, .int .i64 n.Hops, .slice p_1 n.Loops.length c_1] 25), (2, .own p_30 l_1.length c_29 cs_2 3 1), (3, .cells b_25 [.int .i64 z, .int .i64 z_1] 40)]) ⟨rfl, rfl, rfl, trivial⟩).drew (fun _ _ _ _ h => h) ?_ ?_
   ·replace hS := hS.drew
    have hle0 := hS.le
    refine stepV (i := 0) rfl hF (fun w hS => Y.move hF rfl) rfl fun a hF => stepV (i := 1) rfl hF (fun w hS => Y.move hF rfl) rfl fun a hF => ?_
    obtain ⟨b_29, o_27, hE_27, hY_27⟩ := Y.indexS (P := Tryd.prog) (C := (C_sl C_int)) (xs := rv_3.1) (T := 26) (x := (.tmp 142)) (y := (.tmp 143)) u_26 sz_32 hF rfl rfl (hs_2).1 hx_6
    obtain ⟨cc_27, hc_27, hcell_27⟩ := hE_27.open
    obtain ⟨p_33, c_32, rfl, hs_30⟩ := hc_27
    refine stepV (i := 2) rfl hF (fun w hS => hY_27) rfl fun a hF => stepV (i := 3) rfl hF (fun w hS => Y.load1 sz_32 hF rfl (hcell_27 _ hS.stab 0 _ rfl)) rfl fun a hF => stepV (i := 4) rfl hF (fun w hS => Y.move hF rfl) rfl fun a hF => ?_
    obtain ⟨b_30, o_28, hE_28, hY_28⟩ := Y.indexS (P := Tryd.prog) (C := C_int) (xs := e) (T := 32) (x := (.tmp 145)) (y := (.tmp 146)) u_32 sz_3 hF rfl rfl (hs_30).1 hx_10
    obtain ⟨cc_28, hc_28, hcell_28⟩ := hE_28.open
    obtain rfl := hc_28
    refine stepV (i := 5) rfl hF (fun w hS => hY_28) rfl fun a hF => stepV (i := 6) rfl hF (fun w hS => Y.load1 sz_3 hF rfl (hcell_28 _ hS.stab 0 _ rfl)) rfl fun a hF => stepV (i := 7) rfl hF (fun w hS => Y.fieldAddr fo_25_1 hF rfl) rfl fun a hF => stepV (i := 8) rfl hF (fun w hS => Y.load1L 1 sz_22 hF rfl hS rfl rfl) rfl fun a hF => stepV (i := 9) rfl hF (fun w hS => Y.lenSl u_22 hF rfl) rfl fun a hF => stepV (i := 10) rfl hF (fun w hS => Y.sub hF rfl rfl) rfl fun a hF => toTailV ⟨hF.weak ⟨rfl, rfl, rfl, rfl, rfl, rfl, rfl, rfl, rfl, rfl, rfl, rfl, rfl, trivial⟩, hS.weak ⟨rfl, rfl, rfl, trivial⟩⟩
   rintro a w ⟨hF, hS⟩
   obtain ⟨rv_8, hx_11, h⟩ := bind_some h
   refine O.callP (us := [.int .i64 e_2, .int .i64 0, .int .i64 (wr ((n.Lines.length : Int) - 1))]) ca_45 hF hS (r0Lies_ok hS.stab e_2 0 (wr ((n.Lines.length : Int) - 1)) rv_8 hx_11) rfl rfl fun a w hF hS => step hF (Y.not hF rfl) rfl fun a hF => nil (then_n (cond_b hF rfl (fun hbv_14 => ?_) (fun hbv_14 => ?_)))
   ·replace h := cond_t h hbv_14
    refine seq (region (step hF (Y.assign hF rfl) rfl fun a hF => nil (then_n (ret_ (then_r (blk_r (then_r (then_r (blk_r (then_r (blk_r (then_r (then_r (blk_r (then_r ?_)))))))))))))))
    replace h := ext_some h hxo_1
    replace h := ext_some h hxo
    obtain rfl := some_inj h
    exact leaveP Tryd.results8 hF hS (.cons (.tmp rfl) .nil) .nil rfl
   replace h := cond_f h hbv_14
   refine skip_ (then_n (seq ?_))
   obtain ⟨e_3, hx_12, h⟩ := bind_some h
   refine drawsV 12 (.flt 0 (.flt 1 (.flt 2 (.flt 3 (.flt 4 (.flt 5 (.flt 6 (.flt 7 (.flt 8 (.flt 9 (.flt 10 (.alt 11 .done .stop)))))))))))) mixed_ (by kernel_rfl) (fun w => St w0 D0 Dv_2 [(1, .cells b [.int .i64 n.Exchanges, .slice p n.Lines.length c, .int .i64 n.Hops, .slice p_1 n.Loops.length c_1] 25), (2, .own p_30 l_1.length c_29 cs_2 3 1), (3, .cells b_25 [.int .i64 z, .int .i64 z_1] 40)] w) (fun a w => ∃ (b_34 : Nat), Frm 284 [] [(2, .pointer (some ⟨b, 0, none⟩)), (4, .bool v4_1), (5, .int .i64 rv_2), (6, .slice p_2 rv_3.1.length c_2), (8, .slice p_3 rv_4.1.length c_3), (10, .slice p_30 l_1.length c_29), (11, .int .i64 i), (12, .int .i64 atv), (13, .int .i64 met), (14, .pointer (some ⟨b_25, 0, none⟩)), (15, .int .i64 k), (16, .pointer (some ⟨b_34, 0, none⟩)), (165, .agg #[.int .i64 e_3.From, .int .i64 e_3.To, .int .i64 e_3.Delay.Low, .int .i64 e_3.Delay.High])] a ∧ St w0 D0 Dv_2 [(1, .cells b [.int .i64 n.Exchanges, .slice p n.Lines.length c, .int .i64 n.Hops, .slice p_1 n.Loops.length c_1] 25), (2, .own p_30 l_1.length c_29 cs_2 3 1), (3, .cells b_25 [.int .i64 z, .int .i64 z_1] 40), (4, .cells b_34 [.int .i64 0, .int .i64 0, .int .i64 0, .int .i64 0] 68)] w) (hS.weak (ms := [(1, .cells b [.int .i64 n.Exchanges, .slice p n.Lines.length c, .int .i64 n.Hops, .slice p_1 n.Loops.length c_1] 25), (2, .own p_30 l_1.length c_29 cs_2 3 1), (3, .cells b_25 [.int .i64 z, .int .i64 z_1] 40)]) ⟨rfl, rfl, rfl, trivial⟩).drew (fun _ _ _ _ h => h) ?_ ?_
   ·replace hS := hS.drew
    have hle0 := hS.le
    refine stepV (i := 0) rfl hF (fun w hS => Y.fieldAddr fo_25_1 hF rfl) rfl fun a hF => stepV (i := 1) rfl hF (fun w hS => Y.load1L 1 sz_22 hF rfl hS rfl rfl) rfl fun a hF => stepV (i := 2) rfl hF (fun w hS => Y.move hF rfl) rfl fun a hF => stepV (i := 3) rfl hF (fun w hS => Y.move hF rfl) rfl fun a hF => ?_
    obtain ⟨b_35, o_32, hE_32, hY_32⟩ := Y.indexS (P := Tryd.prog) (C := (C_sl C_int)) (xs := rv_3.1) (T := 26) (x := (.tmp 157)) (y := (.tmp 158)) u_26 sz_32 hF rfl rfl (hs_2).1 hx_6
    obtain ⟨cc_32, hc_32, hcell_32⟩ := hE_32.open
    obtain ⟨p_35, c_34, rfl, hs_32⟩ := hc_32
    refine stepV (i := 4) rfl hF (fun w hS => hY_32) rfl fun a hF => stepV (i := 5) rfl hF (fun w hS => Y.load1 sz_32 hF rfl (hcell_32 _ hS.stab 0 _ rfl)) rfl fun a hF => stepV (i := 6) rfl hF (fun w hS => Y.move hF rfl) rfl fun a hF => ?_
    obtain ⟨b_36, o_33, hE_33, hY_33⟩ := Y.indexS (P := Tryd.prog) (C := C_int) (xs := e) (T := 32) (x := (.tmp 160)) (y := (.tmp 161)) u_32 sz_3 hF rfl rfl (hs_32).1 hx_10
    obtain ⟨cc_33, hc_33, hcell_33⟩ := hE_33.open
    obtain rfl := hc_33
    refine stepV (i := 7) rfl hF (fun w hS => hY_33) rfl fun a hF => stepV (i := 8) rfl hF (fun w hS => Y.load1 sz_3 hF rfl (hcell_33 _ hS.stab 0 _ rfl)) rfl fun a hF => ?_
    obtain ⟨b_37, o_34, hE_34, hY_34⟩ := Y.indexS (P := Tryd.prog) (C := C_LineLine) (xs := n.Lines) (T := 22) (x := (.tmp 156)) (y := (.tmp 163)) u_22 sz_68 hF rfl rfl (hs).1 hx_12
    obtain ⟨cc_34, hc_34, hcell_34⟩ := hE_34.open
    obtain rfl := C_LineLine.open hc_34
    refine stepV (i := 9) rfl hF (fun w hS => hY_34) rfl fun a hF => stepV (i := 10) rfl hF (fun w hS => Y.loadNE (o := o_34) (k := 0) sz_68 hF rfl (hcell_34 _ hS.stab) rfl rfl) rfl fun a hF => oneV (i := 11) rfl ?_ trivial
    refine O.alloc 4 zc_68 hF hS rfl fun b_38 a w hF hS => nil (then_n ⟨hS.weak ⟨rfl, rfl, rfl, trivial⟩, ?_⟩)
    exact toTailV ⟨b_38, hF.weak ⟨rfl, rfl, rfl, rfl, rfl, rfl, rfl, rfl, rfl, rfl, rfl, rfl, rfl, trivial⟩, hS.weak ⟨rfl, rfl, rfl, rfl, trivial⟩⟩
   rintro a w ⟨b_34, hF, hS⟩
   refine O.store (us := [.int .i64 e_3.From, .int .i64 e_3.To, .int .i64 e_3.Delay.Low, .int .i64 e_3.Delay.High]) 4 sz_68 hF rfl rfl rfl rfl hS rfl rfl fun a w hF hS => nil (then_n (seq (seq (region (step hF (Y.fieldAddr fo_68_0 hF rfl) rfl fun a hF => step hF (Y.load1L 4 sz_3 hF rfl hS rfl rfl) rfl fun a hF => step hF (Y.move hF rfl) rfl fun a hF => step hF (Y.neq hF rfl rfl) rfl fun a hF => step hF (Y.move hF rfl) rfl fun a hF => join (N := 284) (rs := []) (w0 := w0) (D0 := D0) 5 (us := [(2, .pointer (some ⟨b, 0, none⟩)), (4, .bool v4_1), (5, .int .i64 rv_2), (6, .slice p_2 rv_3.1.length c_2), (8, .slice p_3 rv_4.1.length c_3), (10, .slice p_30 l_1.length c_29), (11, .int .i64 i), (12, .int .i64 atv), (13, .int .i64 met), (14, .pointer (some ⟨b_25, 0, none⟩)), (15, .int .i64 k), (16, .pointer (some ⟨b_34, 0, none⟩)), (175, .bool ((e_3.From != atv) && (e_3.To != atv)))]) (ms := [(1, .cells b [.int .i64 n.Exchanges, .slice p n.Lines.length c, .int .i64 n.Hops, .slice p_1 n.Loops.length c_1] 25), (2, .own p_30 l_1.length c_29 cs_2 3 1), (3, .cells b_25 [.int .i64 z, .int .i64 z_1] 40), (4, .cells b_34 [.int .i64 e_3.From, .int .i64 e_3.To, .int .i64 e_3.Delay.Low, .int .i64 e_3.Delay.High] 68)]) (D' := Dv_2) ?_ ?_)))))
   ·rcases bcases (e_3.From != atv) with hbv_15 | hbv_15
    ·skip
     refine guard_on hF rfl rfl hbv_15 (step hF (Y.fieldAddr fo_68_1 hF rfl) rfl fun a hF => guard_on hF rfl rfl hbv_15 (step hF (Y.load1L 4 sz_3 hF rfl hS rfl rfl) rfl fun a hF => guard_on hF rfl rfl hbv_15 (step hF (Y.move hF rfl) rfl fun a hF => guard_on hF rfl rfl hbv_15 (step hF (Y.neq hF rfl rfl) rfl fun a hF => step hF (Y.pick_t hF rfl hbv_15 rfl) rfl fun a hF => nil (then_n ⟨hF.weak ⟨rfl, rfl, rfl, rfl, rfl, rfl, rfl, rfl, rfl, rfl, rfl, rfl, (by rw [hbv_15]; rfl), trivial⟩, hS.weak ⟨rfl, rfl, rfl, rfl, trivial⟩⟩)))))
    refine guard_off hF rfl rfl hbv_15 rfl fun a hF => guard_off hF rfl rfl hbv_15 rfl fun a hF => guard_off hF rfl rfl hbv_15 rfl fun a hF => guard_off hF rfl rfl hbv_15 rfl fun a hF => step hF (Y.pick_f hF rfl hbv_15 rfl) rfl fun a hF => nil (then_n ⟨hF.weak ⟨rfl, rfl, rfl, rfl, rfl, rfl, rfl, rfl, rfl, rfl, rfl, rfl, (by rw [hbv_15]; rfl), trivial⟩, hS.weak ⟨rfl, rfl, rfl, rfl, trivial⟩⟩)
   intro a w hF hS
   refine nil (then_n (cond_b hF rfl (fun hbv_16 => ?_) (fun hbv_16 => ?_)))
   ·replace h := cond_t h hbv_16
    refine seq (region (step hF (Y.assign hF rfl) rfl fun a hF => nil (then_n (ret_ (then_r (blk_r (then_r (then_r (blk_r (then_r (blk_r (then_r (then_r (blk_r (then_r ?_)))))))))))))))
    replace h := ext_some h hxo_1
    replace h := ext_some h hxo
    obtain rfl := some_inj h
    exact leaveP Tryd.results8 hF hS (.cons (.tmp rfl) .nil) .nil rfl
   replace h := cond_f h hbv_16
   refine skip_ (then_n (seq (region (step hF (Y.fieldAddr fo_68_0 hF rfl) rfl fun a hF => step hF (Y.load1L 4 sz_3 hF rfl hS rfl rfl) rfl fun a hF => step hF (Y.fieldAddr fo_68_1 hF rfl) rfl fun a hF => step hF (Y.load1L 4 sz_3 hF rfl hS rfl rfl) rfl fun a hF => step hF (Y.add hF rfl rfl) rfl fun a hF => step hF (Y.move hF rfl) rfl fun a hF => step hF (Y.sub hF rfl rfl) rfl fun a hF => step hF (Y.assign hF rfl) rfl fun a hF => nil (then_n (seq (seq (region (step hF (Y.move hF rfl) rfl fun a hF => step hF (Y.move hF rfl) rfl fun a hF => ?_)))))))))
   obtain ⟨rv_9, hx_13, h⟩ := bind_some h
   refine O.callP (us := [.int .i64 met, .int .i64 (wr ((wr (e_3.From + e_3.To)) - atv))]) ca_46 hF hS (r0In_ok hS.stab met (wr ((wr (e_3.From + e_3.To)) - atv)) rv_9 hx_13) rfl rfl fun a w hF hS => nil (then_n (cond_b hF rfl (fun hbv_17 => ?_) (fun hbv_17 => ?_)))
   ·replace h := cond_t h hbv_17
    refine seq (region (step hF (Y.assign hF rfl) rfl fun a hF => nil (then_n (ret_ (then_r (blk_r (then_r (then_r (blk_r (then_r (blk_r (then_r (then_r (blk_r (then_r ?_)))))))))))))))
    replace h := ext_some h hxo_1
    replace h := ext_some h hxo
    obtain rfl := some_inj h
    exact leaveP Tryd.results8 hF hS (.cons (.tmp rfl) .nil) .nil rfl
   replace h := cond_f h hbv_17
   refine skip_ (then_n (seq (region (step hF (Y.move hF rfl) rfl fun a hF => step hF (Y.move hF rfl) rfl fun a hF => ?_))))
   obtain ⟨hg_1, h⟩ := ite_some h
   refine step hF (Y.shl hF rfl rfl hg_1) rfl fun a hF => step hF (Y.or hF rfl rfl) rfl fun a hF => step hF (Y.assign hF rfl) rfl fun a hF => nil (then_n (seq (region (step hF (Y.move hF rfl) rfl fun a hF => step hF (Y.move hF rfl) rfl fun a hF => step hF (Y.move hF rfl) rfl fun a hF => ?_))))
   obtain ⟨b_39, o_35, hE_35, hY_35⟩ := Y.indexS (P := Tryd.prog) (C := (C_sl C_int)) (xs := rv_3.1) (T := 26) (x := (.tmp 191)) (y := (.tmp 192)) u_26 sz_32 hF rfl rfl (hs_2).1 hx_6
   obtain ⟨cc_35, hc_35, hcell_35⟩ := hE_35.open
   obtain ⟨p_36, c_35, rfl, hs_33⟩ := hc_35
   refine step hF (hY_35) rfl fun a hF => step hF (Y.load1 sz_32 hF rfl (hcell_35 _ hS.stab 0 _ rfl)) rfl fun a hF => step hF (Y.move hF rfl) rfl fun a hF => ?_
   obtain ⟨b_40, o_36, hE_36, hY_36⟩ := Y.indexS (P := Tryd.prog) (C := C_int) (xs := e) (T := 32) (x := (.tmp 194)) (y := (.tmp 195)) u_32 sz_3 hF rfl rfl (hs_33).1 hx_10
   obtain ⟨cc_36, hc_36, hcell_36⟩ := hE_36.open
   obtain rfl := hc_36
   refine step hF (hY_36) rfl fun a hF => step hF (Y.load1 sz_3 hF rfl (hcell_36 _ hS.stab 0 _ rfl)) rfl fun a hF => ?_
   obtain ⟨e_4, hx_14, h⟩ := bind_some h
   obtain ⟨b_41, hp⟩ := hS.ownPtr (i := 2) rfl (idx_rng hx_14)
   obtain ⟨cc_37, hc_37, hsub⟩ := ownElI (C := C_int) hr_2 hx_14
   obtain rfl := hc_37
   refine step hF (Y.indexOwn hp u_32 sz_3 (idx_rng hx_14) hF rfl rfl) rfl fun a hF => step hF (Y.load1 sz_3 hF rfl (ownElCell (C := C_int) (i := 2) hS rfl hp hsub 0 _ rfl)) rfl fun a hF => step hF (Y.add hF rfl rfl) rfl fun a hF => ?_
   obtain ⟨hg_2, h⟩ := ite_some h
   obtain ⟨b_42, hp_1⟩ := hS.ownPtr (i := 2) rfl hg_2
   refine step hF (Y.indexOwn hp_1 u_32 sz_3 hg_2 hF rfl rfl) rfl fun a hF => O.storeOwnP (C := C_int) (v0 := (wr (e_4 + 1))) (xs := l_1) (us := [.int .i64 (wr (e_4 + 1))]) 2 hp_1 sz_3 hg_2 hF rfl rfl rfl rfl hS rfl hr_2 fun cs_3 a w hF hS hr_3 => ?_
   try rw [show l_1.length = (l_1.set (Int.toNat e_2) (wr (e_4 + 1))).length from List.length_set.symm] at hF
   try rw [show l_1.length = (l_1.set (Int.toNat e_2) (wr (e_4 + 1))).length from List.length_set.symm] at hS
   refine nil (then_n (region (step hF (Y.fieldAddr fo_40_0 hF rfl) rfl fun a hF => step hF (Y.load1L 3 sz_3 hF rfl hS rfl rfl) rfl fun a hF => step hF (Y.fieldAddr fo_68_2 hF rfl) rfl fun a hF => step hF (Y.fieldAddr fo_40_0 hF rfl) rfl fun a hF => step hF (Y.load1L 4 sz_3 hF rfl hS rfl rfl) rfl fun a hF => step hF (Y.add hF rfl rfl) rfl fun a hF => step hF (Y.fieldAddr fo_40_1 hF rfl) rfl fun a hF => step hF (Y.load1L 3 sz_3 hF rfl hS rfl rfl) rfl fun a hF => step hF (Y.fieldAddr fo_68_2 hF rfl) rfl fun a hF => step hF (Y.fieldAddr fo_40_1 hF rfl) rfl fun a hF => step hF (Y.load1L 4 sz_3 hF rfl hS rfl rfl) rfl fun a hF => step hF (Y.add hF rfl rfl) rfl fun a hF => ?_)))
   obtain ⟨rv_10, hx_15, h⟩ := bind_some h
   refine O.callP (us := [.int .i64 (wr (z + e_3.Delay.Low)), .int .i64 (wr (z_1 + e_3.Delay.High))]) ca_44 hF hS (r0To_ok hS.stab (wr (z + e_3.Delay.Low)) (wr (z_1 + e_3.Delay.High)) rv_10 hx_15) rfl rfl fun a w hF hS => O.store (us := [.int .i64 rv_10.Low, .int .i64 rv_10.High]) 3 sz_40 hF rfl rfl rfl rfl hS rfl rfl fun a w hF hS => nil (blk_n (then_n (region (step hF (Y.move hF rfl) rfl fun a hF => step hF (Y.add hF rfl rfl) rfl fun a hF => step hF (Y.assign hF rfl) rfl fun a hF => nil (then_n (⟨_, nxt_some h, v4_1, (wr ((wr (e_3.From + e_3.To)) - atv)), (bitsOp .or met (gshl 1 (wr ((wr (e_3.From + e_3.To)) - atv)))), (wr (k + 1)), (l_1.set (Int.toNat e_2) (wr (e_4 + 1))), rv_10.Low, rv_10.High, p_30, c_29, cs_3, rfl, hF.weak ⟨rfl, rfl, rfl, rfl, rfl, rfl, rfl, rfl, rfl, rfl, rfl, trivial⟩, hS.weak ⟨rfl, rfl, rfl, trivial⟩, hr_3⟩))))))
  replace h := cond_f h hbv_13
  refine exit_ (then_x (then_x (blk_hit (then_n ?_))))
  replace h := ext_some h hxo_1
  refine seq (seq (region (step hF (Y.assign hF rfl) rfl fun a hF => nil (then_n (block (loop_cut (body := remontoirlaw06_LineListed_b3 n rv_2 i v4_1 atv l_1) (out := xo) (fun s a w => ∃ (k_1 : Int) (z_2 : Int) (z_3 : Int), s = (k_1, z_2, z_3) ∧ Frm 284 [] [(2, .pointer (some ⟨b, 0, none⟩)), (4, .bool v4_1), (5, .int .i64 rv_2), (6, .slice p_2 rv_3.1.length c_2), (8, .slice p_3 rv_4.1.length c_3), (10, .slice p_30 l_1.length c_29), (11, .int .i64 i), (12, .int .i64 atv), (14, .pointer (some ⟨b_25, 0, none⟩)), (17, .int .i64 k_1)] a ∧ St w0 D0 Dv_2 [(1, .cells b [.int .i64 n.Exchanges, .slice p n.Lines.length c, .int .i64 n.Hops, .slice p_1 n.Loops.length c_1] 25), (2, .own p_30 l_1.length c_29 cs_2 3 1), (3, .cells b_25 [.int .i64 z_2, .int .i64 z_3] 40)] w) (0, z, z_1) h ⟨0, z, z_1, rfl, hF.weak ⟨rfl, rfl, rfl, rfl, rfl, rfl, rfl, rfl, rfl, rfl, trivial⟩, hS.weak ⟨rfl, rfl, rfl, trivial⟩⟩ ?_))))))
  rintro s a w xo_2 ⟨k_1, z_2, z_3, rfl, hF, hS⟩ h hxo_2
  unfold remontoirlaw06_LineListed_b3 at h
  dsimp only at h
  refine seq (seq (region (step hF (Y.move hF rfl) rfl fun a hF => step hF (Y.fieldAddr fo_25_3 hF rfl) rfl fun a hF => step hF (Y.load1L 1 sz_23 hF rfl hS rfl rfl) rfl fun a hF => step hF (Y.lenSl u_23 hF rfl) rfl fun a hF => step hF (Y.lss hF rfl rfl) rfl fun a hF => nil (then_n (cond_b hF rfl (fun hbv_18 => ?_) (fun hbv_18 => ?_))))))
  ·replace h := cond_t h hbv_18
   refine skip_ (then_n (seq (block (seq (region (step hF (Y.fieldAddr fo_25_3 hF rfl) rfl fun a hF => step hF (Y.load1L 1 sz_23 hF rfl hS rfl rfl) rfl fun a hF => step hF (Y.move hF rfl) rfl fun a hF => ?_))))))
   obtain ⟨e_5, hx_16, h⟩ := bind_some h
   obtain ⟨b_43, o_37, hE_37, hY_37⟩ := Y.indexS (P := Tryd.prog) (C := C_LineLoop) (xs := n.Loops) (T := 23) (x := (.tmp 223)) (y := (.tmp 224)) u_23 sz_71 hF rfl rfl (hs_1).1 hx_16
   obtain ⟨cc_38, hc_38, hcell_37⟩ := hE_37.open
   obtain rfl := C_LineLoop.open hc_38
   refine step hF (hY_37) rfl fun a hF => step hF (Y.loadNE (o := o_37) (k := 0) sz_71 hF rfl (hcell_37 _ hS.stab) rfl rfl) rfl fun a hF => O.alloc 5 zc_71 hF hS rfl fun b_44 a w hF hS => O.store (us := [.int .i64 e_5.Exchange, .int .i64 e_5.Read.Low, .int .i64 e_5.Read.High]) 5 sz_71 hF rfl rfl rfl rfl hS rfl rfl fun a w hF hS => nil (then_n (seq (region (step hF (Y.fieldAddr fo_71_0 hF rfl) rfl fun a hF => step hF (Y.load1L 5 sz_3 hF rfl hS rfl rfl) rfl fun a hF => step hF (Y.move hF rfl) rfl fun a hF => step hF (Y.eql hF rfl rfl) rfl fun a hF => nil (then_n (cond_b hF rfl (fun hbv_19 => ?_) (fun hbv_19 => ?_)))))))
   ·replace h := cond_t h hbv_19
    obtain ⟨rv_11, hx_17, h⟩ := bind_some h
    obtain ⟨rv_12, hx_18, h⟩ := bind_some h
    obtain ⟨rv_13, hx_19, h⟩ := bind_some h
    refine drawsV 10 (.flt 0 (.flt 1 (.flt 2 (.flt 3 (.flt 5 (.flt 6 (.flt 7 (.alt 4 (.alt 8 (.alt 9 .done .stop) .stop) .stop)))))))) mixed_ (by kernel_rfl) (fun w => St w0 D0 Dv_2 [(1, .cells b [.int .i64 n.Exchanges, .slice p n.Lines.length c, .int .i64 n.Hops, .slice p_1 n.Loops.length c_1] 25), (2, .own p_30 l_1.length c_29 cs_2 3 1), (3, .cells b_25 [.int .i64 z_2, .int .i64 z_3] 40), (5, .cells b_44 [.int .i64 e_5.Exchange, .int .i64 e_5.Read.Low, .int .i64 e_5.Read.High] 71)] w) (fun a w => Frm 284 [] [(2, .pointer (some ⟨b, 0, none⟩)), (4, .bool v4_1), (5, .int .i64 rv_2), (6, .slice p_2 rv_3.1.length c_2), (8, .slice p_3 rv_4.1.length c_3), (10, .slice p_30 l_1.length c_29), (11, .int .i64 i), (12, .int .i64 atv), (14, .pointer (some ⟨b_25, 0, none⟩)), (17, .int .i64 k_1), (231, .agg #[.int .i64 z_2, .int .i64 z_3]), (240, .agg #[.int .i64 rv_13.Low, .int .i64 rv_13.High])] a ∧ St w0 D0 Dv_2 [(1, .cells b [.int .i64 n.Exchanges, .slice p n.Lines.length c, .int .i64 n.Hops, .slice p_1 n.Loops.length c_1] 25), (2, .own p_30 l_1.length c_29 cs_2 3 1), (3, .cells b_25 [.int .i64 z_2, .int .i64 z_3] 40), (5, .cells b_44 [.int .i64 e_5.Exchange, .int .i64 e_5.Read.Low, .int .i64 e_5.Read.High] 71)] w) (hS.weak (ms := [(1, .cells b [.int .i64 n.Exchanges, .slice p n.Lines.length c, .int .i64 n.Hops, .slice p_1 n.Loops.length c_1] 25), (2, .own p_30 l_1.length c_29 cs_2 3 1), (3, .cells b_25 [.int .i64 z_2, .int .i64 z_3] 40), (5, .cells b_44 [.int .i64 e_5.Exchange, .int .i64 e_5.Read.Low, .int .i64 e_5.Read.High] 71)]) ⟨rfl, rfl, rfl, rfl, trivial⟩).drew (fun _ _ _ _ h => h) ?_ ?_
    ·replace hS := hS.drew
     have hle0 := hS.le
     refine stepV (i := 0) rfl hF (fun w hS => Y.loadNL 3 sz_40 hF rfl hS rfl rfl rfl) rfl fun a hF => stepV (i := 1) rfl hF (fun w hS => Y.fieldAddr fo_71_1 hF rfl) rfl fun a hF => stepV (i := 2) rfl hF (fun w hS => Y.fieldAddr fo_40_0 hF rfl) rfl fun a hF => stepV (i := 3) rfl hF (fun w hS => Y.load1L 5 sz_3 hF rfl hS rfl rfl) rfl fun a hF => stepV (i := 5) rfl hF (fun w hS => Y.fieldAddr fo_71_1 hF rfl) rfl fun a hF => stepV (i := 6) rfl hF (fun w hS => Y.fieldAddr fo_40_1 hF rfl) rfl fun a hF => stepV (i := 7) rfl hF (fun w hS => Y.load1L 5 sz_3 hF rfl hS rfl rfl) rfl fun a hF => oneV (i := 4) rfl ?_ trivial
     refine O.callP (us := [.int .i64 e_5.Read.Low, .int .i64 2]) ca_48 hF hS (r0Ceil_ok hS.stab e_5.Read.Low 2 rv_11 hx_17) rfl rfl fun a w hF hS => nil (then_n ⟨hS.weak ⟨rfl, rfl, rfl, rfl, trivial⟩, ?_⟩)
     refine oneV (i := 8) rfl ?_ trivial
     refine O.callP (us := [.int .i64 e_5.Read.High, .int .i64 2]) ca_49 hF hS (r0Floor_ok hS.stab e_5.Read.High 2 rv_12 hx_18) rfl rfl fun a w hF hS => nil (then_n ⟨hS.weak ⟨rfl, rfl, rfl, rfl, trivial⟩, ?_⟩)
     refine oneV (i := 9) rfl ?_ trivial
     refine O.callP (us := [.int .i64 rv_11, .int .i64 rv_12]) ca_44 hF hS (r0To_ok hS.stab rv_11 rv_12 rv_13 hx_19) rfl rfl fun a w hF hS => nil (then_n ⟨hS.weak ⟨rfl, rfl, rfl, rfl, trivial⟩, ?_⟩)
     exact toTailV ⟨hF.weak ⟨rfl, rfl, rfl, rfl, rfl, rfl, rfl, rfl, rfl, rfl, rfl, rfl, trivial⟩, hS.weak ⟨rfl, rfl, rfl, rfl, trivial⟩⟩
    rintro a w ⟨hF, hS⟩
    obtain ⟨rv_14, hx_20, h⟩ := bind_some h
    refine O.callP (us := [.agg #[.int .i64 z_2, .int .i64 z_3], .agg #[.int .i64 rv_13.Low, .int .i64 rv_13.High]]) ca_47 hF hS (r0Both_ok hS.stab (Span.mk z_2 z_3) rv_13 rv_14 hx_20) rfl rfl fun a w hF hS => O.store (us := [.int .i64 rv_14.Low, .int .i64 rv_14.High]) 3 sz_40 hF rfl rfl rfl rfl hS rfl rfl fun a w hF hS => nil (blk_n (then_n (region (step hF (Y.move hF rfl) rfl fun a hF => step hF (Y.add hF rfl rfl) rfl fun a hF => step hF (Y.assign hF rfl) rfl fun a hF => nil (then_n (⟨_, nxt_some h, (wr (k_1 + 1)), rv_14.Low, rv_14.High, rfl, hF.weak ⟨rfl, rfl, rfl, rfl, rfl, rfl, rfl, rfl, rfl, rfl, trivial⟩, hS.weak ⟨rfl, rfl, rfl, trivial⟩⟩))))))
   replace h := cond_f h hbv_19
   refine skip_ (blk_n (then_n (region (step hF (Y.move hF rfl) rfl fun a hF => step hF (Y.add hF rfl rfl) rfl fun a hF => step hF (Y.assign hF rfl) rfl fun a hF => nil (then_n (⟨_, nxt_some h, (wr (k_1 + 1)), z_2, z_3, rfl, hF.weak ⟨rfl, rfl, rfl, rfl, rfl, rfl, rfl, rfl, rfl, rfl, trivial⟩, hS.weak ⟨rfl, rfl, rfl, trivial⟩⟩))))))
  replace h := cond_f h hbv_18
  refine exit_ (then_x (then_x (blk_hit (then_n ?_))))
  replace h := ext_some h hxo_2
  refine seq (region (step hF (Y.move hF rfl) rfl fun a hF => step hF (Y.move hF rfl) rfl fun a hF => step hF (Y.neq hF rfl rfl) rfl fun a hF => step hF (Y.move hF rfl) rfl fun a hF => join (N := 284) (rs := []) (w0 := w0) (D0 := D0) 6 (us := [(2, .pointer (some ⟨b, 0, none⟩)), (4, .bool v4_1), (5, .int .i64 rv_2), (6, .slice p_2 rv_3.1.length c_2), (8, .slice p_3 rv_4.1.length c_3), (10, .slice p_30 l_1.length c_29), (11, .int .i64 i), (251, .bool ((atv != rv_2) || (decide (z_2 > z_3))))]) (ms := [(1, .cells b [.int .i64 n.Exchanges, .slice p n.Lines.length c, .int .i64 n.Hops, .slice p_1 n.Loops.length c_1] 25), (2, .own p_30 l_1.length c_29 cs_2 3 1), (3, .cells b_25 [.int .i64 z_2, .int .i64 z_3] 40)]) (D' := Dv_2) ?_ ?_))
  ·rcases bcases (atv != rv_2) with hbv_20 | hbv_20
   ·skip
    refine guard_off hF rfl rfl hbv_20 rfl fun a hF => guard_off hF rfl rfl hbv_20 rfl fun a hF => guard_off hF rfl rfl hbv_20 rfl fun a hF => guard_off hF rfl rfl hbv_20 rfl fun a hF => guard_off hF rfl rfl hbv_20 rfl fun a hF => step hF (Y.pick_t hF rfl hbv_20 rfl) rfl fun a hF => nil (then_n ⟨hF.weak ⟨rfl, rfl, rfl, rfl, rfl, rfl, rfl, (by rw [hbv_20]; rfl), trivial⟩, hS.weak ⟨rfl, rfl, rfl, trivial⟩⟩)
   refine guard_on hF rfl rfl hbv_20 (step hF (Y.fieldAddr fo_40_0 hF rfl) rfl fun a hF => guard_on hF rfl rfl hbv_20 (step hF (Y.load1L 3 sz_3 hF rfl hS rfl rfl) rfl fun a hF => guard_on hF rfl rfl hbv_20 (step hF (Y.fieldAddr fo_40_1 hF rfl) rfl fun a hF => guard_on hF rfl rfl hbv_20 (step hF (Y.load1L 3 sz_3 hF rfl hS rfl rfl) rfl fun a hF => guard_on hF rfl rfl hbv_20 (step hF (Y.gtr hF rfl rfl) rfl fun a hF => step hF (Y.pick_f hF rfl hbv_20 rfl) rfl fun a hF => nil (then_n ⟨hF.weak ⟨rfl, rfl, rfl, rfl, rfl, rfl, rfl, (by rw [hbv_20]; rfl), trivial⟩, hS.weak ⟨rfl, rfl, rfl, trivial⟩⟩))))))
  intro a w hF hS
  refine nil (then_n (cond_b hF rfl (fun hbv_21 => ?_) (fun hbv_21 => ?_)))
  ·replace h := cond_t h hbv_21
   refine seq (region (step hF (Y.assign hF rfl) rfl fun a hF => nil (then_n (ret_ (blk_r (then_r (then_r (blk_r (then_r ?_)))))))))
   replace h := ext_some h hxo
   obtain rfl := some_inj h
   exact leaveP Tryd.results8 hF hS (.cons (.tmp rfl) .nil) .nil rfl
  replace h := cond_f h hbv_21
  refine skip_ (blk_n (then_n (region (step hF (Y.move hF rfl) rfl fun a hF => step hF (Y.add hF rfl rfl) rfl fun a hF => step hF (Y.assign hF rfl) rfl fun a hF => nil (then_n (⟨_, nxt_some h, v4_1, (wr (i + 1)), l_1, Dv_2, p_30, c_29, cs_2, rfl, hlev_2, hF.weak ⟨rfl, rfl, rfl, rfl, rfl, rfl, rfl, trivial⟩, hS.weak ⟨rfl, rfl, trivial⟩, hr_2⟩))))))
 replace h := cond_f h hbv_7
 refine exit_ (then_x (then_x (blk_hit (then_n ?_))))
 replace h := ext_some h hxo
 refine seq (seq (region (step hF (Y.assign hF rfl) rfl fun a hF => nil (then_n (block (loop_cut (body := remontoirlaw06_LineListed_b4 n rv_3 rv_4 l) (out := out) (fun s a w => ∃ (v4_2 : Bool) (i_1 : Int), ∃ (Dv_3 : Stab), s = (v4_2, i_1) ∧ Dv_2.le Dv_3 ∧ Frm 284 [] [(2, .pointer (some ⟨b, 0, none⟩)), (4, .bool v4_2), (6, .slice p_2 rv_3.1.length c_2), (8, .slice p_3 rv_4.1.length c_3), (10, .slice p_5 l.length c_4), (19, .int .i64 i_1)] a ∧ St w0 D0 Dv_3 [(1, .cells b [.int .i64 n.Exchanges, .slice p n.Lines.length c, .int .i64 n.Hops, .slice p_1 n.Loops.length c_1] 25), (2, .own p_5 l.length c_4 cs_1 3 1)] w) (v4_0, 0) h ⟨v4_0, 0, Dv_2, rfl, Stab.le.refl _, hF.weak ⟨rfl, rfl, rfl, rfl, rfl, rfl, trivial⟩, hS.weak ⟨rfl, rfl, trivial⟩⟩ ?_))))))
 rintro s a w xo_3 ⟨v4_2, i_1, Dv_3, rfl, hlev_3, hF, hS⟩ h hxo_3
 unfold remontoirlaw06_LineListed_b4 at h
 dsimp only at h
 replace hG := hG.mono hlev_3
 replace hs_3 := hs_3.mono hlev_3
 replace hr_1 := hr_1.mono hlev_3
 refine seq (seq (region (step hF (Y.move hF rfl) rfl fun a hF => step hF (Y.fieldAddr fo_25_1 hF rfl) rfl fun a hF => step hF (Y.load1L 1 sz_22 hF rfl hS rfl rfl) rfl fun a hF => step hF (Y.lenSl u_22 hF rfl) rfl fun a hF => step hF (Y.lss hF rfl rfl) rfl fun a hF => nil (then_n (cond_b hF rfl (fun hbv_22 => ?_) (fun hbv_22 => ?_))))))
 ·replace h := cond_t h hbv_22
  refine skip_ (then_n (seq (block (seq ?_))))
  obtain ⟨e_6, hx_21, h⟩ := bind_some h
  obtain ⟨rv_15, hx_22, h⟩ := bind_some h
  refine drawsV 11 (.flt 0 (.flt 1 (.flt 2 (.flt 3 (.flt 4 (.flt 5 (.flt 6 (.flt 7 (.flt 8 (.alt 9 (.flt 10 .done) .stop)))))))))) mixed_ (by kernel_rfl) (fun w => St w0 D0 Dv_3 [(1, .cells b [.int .i64 n.Exchanges, .slice p n.Lines.length c, .int .i64 n.Hops, .slice p_1 n.Loops.length c_1] 25), (2, .own p_5 l.length c_4 cs_1 3 1)] w) (fun a w => Frm 284 [] [(2, .pointer (some ⟨b, 0, none⟩)), (4, .bool v4_2), (6, .slice p_2 rv_3.1.length c_2), (8, .slice p_3 rv_4.1.length c_3), (10, .slice p_5 l.length c_4), (19, .int .i64 i_1), (265, .bool (e_6 == (rv_3.1.length : Int))), (269, .bool (decide (rv_15 ≥ 0)))] a ∧ St w0 D0 Dv_3 [(1, .cells b [.int .i64 n.Exchanges, .slice p n.Lines.length c, .int .i64 n.Hops, .slice p_1 n.Loops.length c_1] 25), (2, .own p_5 l.length c_4 cs_1 3 1)] w) (hS.weak (ms := [(1, .cells b [.int .i64 n.Exchanges, .slice p n.Lines.length c, .int .i64 n.Hops, .slice p_1 n.Loops.length c_1] 25), (2, .own p_5 l.length c_4 cs_1 3 1)]) ⟨rfl, rfl, trivial⟩).drew (fun _ _ _ _ h => h) ?_ ?_
  ·replace hS := hS.drew
   have hle0 := hS.le
   refine stepV (i := 0) rfl hF (fun w hS => Y.move hF rfl) rfl fun a hF => stepV (i := 1) rfl hF (fun w hS => Y.move hF rfl) rfl fun a hF => ?_
   obtain ⟨b_46, hp_3⟩ := hS.ownPtr (i := 2) rfl (idx_rng hx_21)
   obtain ⟨cc_40, hc_40, hsub_2⟩ := ownElI (C := C_int) hr_1 hx_21
   obtain rfl := hc_40
   refine stepV (i := 2) rfl hF (fun w hS => Y.indexOwn hp_3 u_32 sz_3 (idx_rng hx_21) hF rfl rfl) rfl fun a hF => stepV (i := 3) rfl hF (fun w hS => Y.load1 sz_3 hF rfl (ownElCell (C := C_int) (i := 2) hS rfl hp_3 hsub_2 0 _ rfl)) rfl fun a hF => stepV (i := 4) rfl hF (fun w hS => Y.move hF rfl) rfl fun a hF => stepV (i := 5) rfl hF (fun w hS => Y.lenSl u_26 hF rfl) rfl fun a hF => stepV (i := 6) rfl hF (fun w hS => Y.eql hF rfl rfl) rfl fun a hF => stepV (i := 7) rfl hF (fun w hS => Y.move hF rfl) rfl fun a hF => stepV (i := 8) rfl hF (fun w hS => Y.move hF rfl) rfl fun a hF => oneV (i := 9) rfl ?_ trivial
   refine O.callP (us := [.slice p_3 rv_4.1.length c_3, .int .i64 i_1]) ca_40 hF hS (r0Find_ok hS.stab rv_4.1 i_1 hs_3 rv_15 hx_22) rfl rfl fun a w hF hS => nil (then_n ⟨hS.weak ⟨rfl, rfl, trivial⟩, ?_⟩)
   refine stepV (i := 10) rfl hF (fun w hS => Y.geq hF rfl rfl) rfl fun a hF => toTailV ⟨hF.weak ⟨rfl, rfl, rfl, rfl, rfl, rfl, rfl, rfl, trivial⟩, hS.weak ⟨rfl, rfl, trivial⟩⟩
  rintro a w ⟨hF, hS⟩
  refine step hF (Y.neb u_4 hF rfl rfl) rfl fun a hF => nil (then_n (cond_b hF rfl (fun hbv_23 => ?_) (fun hbv_23 => ?_)))
  ·replace h := cond_t h hbv_23
   refine seq (region (step hF (Y.assign hF rfl) rfl fun a hF => nil (then_n (ret_ (blk_r (then_r (then_r (blk_r (then_r ?_)))))))))
   replace h := ext_some h hxo_3
   obtain rfl := some_inj h
   exact leaveP Tryd.results8 hF hS (.cons (.tmp rfl) .nil) .nil rfl
  replace h := cond_f h hbv_23
  refine skip_ (blk_n (then_n (region (step hF (Y.move hF rfl) rfl fun a hF => step hF (Y.add hF rfl rfl) rfl fun a hF => step hF (Y.assign hF rfl) rfl fun a hF => nil (then_n (⟨_, nxt_some h, v4_2, (wr (i_1 + 1)), Dv_3, rfl, hlev_3, hF.weak ⟨rfl, rfl, rfl, rfl, rfl, rfl, trivial⟩, hS.weak ⟨rfl, rfl, trivial⟩⟩))))))
 replace h := cond_f h hbv_22
 refine exit_ (then_x (then_x (blk_hit (then_n ?_))))
 replace h := ext_some h hxo_3
 refine seq (region (step hF (Y.move hF rfl) rfl fun a hF => step hF (Y.lenSl u_26 hF rfl) rfl fun a hF => step hF (Y.gtr hF rfl rfl) rfl fun a hF => step hF (Y.move hF rfl) rfl fun a hF => ?_))
 obtain ⟨t_5, ht_5, h⟩ := bind_some h
 refine join (N := 284) (rs := []) (w0 := w0) (D0 := D0) 6 (us := [(4, .bool v4_2), (280, .bool t_5)]) (ms := [(1, .cells b [.int .i64 n.Exchanges, .slice p n.Lines.length c, .int .i64 n.Hops, .slice p_1 n.Loops.length c_1] 25), (2, .own p_5 l.length c_4 cs_1 3 1)]) (D' := Dv_3) ?_ ?_
 ·rcases bcases (decide ((rv_3.1.length : Int) > 0)) with hbv_24 | hbv_24
  ·skip
   replace h := cond_t ht_5 hbv_24
   refine guard_on hF rfl rfl hbv_24 (step hF (Y.move hF rfl) rfl fun a hF => guard_on hF rfl rfl hbv_24 (step hF (Y.fieldAddr fo_25_1 hF rfl) rfl fun a hF => guard_on hF rfl rfl hbv_24 (step hF (Y.load1L 1 sz_22 hF rfl hS rfl rfl) rfl fun a hF => guard_on hF rfl rfl hbv_24 (step hF (Y.lenSl u_22 hF rfl) rfl fun a hF => guard_on hF rfl rfl hbv_24 ?_))))
   obtain ⟨rv_16, hx_23, h⟩ := bind_some h
   refine O.callP (us := [.slice p_3 rv_4.1.length c_3, .int .i64 (n.Lines.length : Int)]) ca_50 hF hS (r0Climbs_ok hS.stab rv_4.1 (n.Lines.length : Int) hs_3 rv_16 hx_23) rfl rfl fun a w hF hS => step hF (Y.pick_t hF rfl hbv_24 rfl) rfl fun a hF => ?_
   obtain rfl := some_inj h
   exact nil (then_n ⟨hF.weak ⟨rfl, rfl, trivial⟩, hS.weak ⟨rfl, rfl, trivial⟩⟩)
  replace h := cond_f ht_5 hbv_24
  refine guard_off hF rfl rfl hbv_24 rfl fun a hF => guard_off hF rfl rfl hbv_24 rfl fun a hF => guard_off hF rfl rfl hbv_24 rfl fun a hF => guard_off hF rfl rfl hbv_24 rfl fun a hF => guard_off hF rfl rfl hbv_24 rfl fun a hF => step hF (Y.pick_f hF rfl hbv_24 rfl) rfl fun a hF => ?_
  obtain rfl := some_inj h
  exact nil (then_n ⟨hF.weak ⟨rfl, rfl, trivial⟩, hS.weak ⟨rfl, rfl, trivial⟩⟩)
 intro a w hF hS
 refine step hF (Y.move hF rfl) rfl fun a hF => ?_
 obtain ⟨t_6, ht_6, h⟩ := bind_some h
 refine join (N := 284) (rs := []) (w0 := w0) (D0 := D0) 2 (us := [(4, .bool v4_2), (283, .bool t_6)]) (ms := [(1, .cells b [.int .i64 n.Exchanges, .slice p n.Lines.length c, .int .i64 n.Hops, .slice p_1 n.Loops.length c_1] 25), (2, .own p_5 l.length c_4 cs_1 3 1)]) (D' := Dv_3) ?_ ?_
 ·rcases bcases t_5 with hbv_25 | hbv_25
  ·skip
   replace h := cond_t ht_6 hbv_25
   refine guard_on hF rfl rfl hbv_25 ?_
   obtain ⟨rv_17, hx_24, h⟩ := bind_some h
   refine O.callP (us := []) ca_23 hF hS (remontoirlaw06_works_ok hS.stab hG rv_17 hx_24) rfl rfl fun a w hF hS => step hF (Y.pick_t hF rfl hbv_25 rfl) rfl fun a hF => ?_
   obtain rfl := some_inj h
   exact nil (then_n ⟨hF.weak ⟨rfl, rfl, trivial⟩, hS.weak ⟨rfl, rfl, trivial⟩⟩)
  replace h := cond_f ht_6 hbv_25
  refine guard_off hF rfl rfl hbv_25 rfl fun a hF => step hF (Y.pick_f hF rfl hbv_25 rfl) rfl fun a hF => ?_
  obtain rfl := some_inj h
  exact nil (then_n ⟨hF.weak ⟨rfl, rfl, trivial⟩, hS.weak ⟨rfl, rfl, trivial⟩⟩)
 intro a w hF hS
 refine step hF (Y.assign hF rfl) rfl fun a hF => nil (then_n (ret_ ?_))
 obtain rfl := some_inj h
 exact leaveP Tryd.results8 hF hS (.cons (.tmp rfl) .nil) .nil rfl
end Go.Proofs.YthdbokigcfbgeaaDoor.Rt
