/- Walks of the functions of this seat: what each Go function comes to, as a Lean function, and the proof. Part WB2. Under no conditions. -/
import Derived.Test.YthdbokigcfbgeaaDoorC5WB1
set_option linter.unusedVariables false
set_option linter.unusedSimpArgs false
set_option maxRecDepth 100000
set_option maxHeartbeats 4000000
namespace Go.Proofs.YthdbokigcfbgeaaDoor.Rt
open Go Go.RowKit
noncomputable def remontoirref06_routes_b1 (n : LineNet) (to : Int) (wrong : Int) (rv : (List (List Int))) : ((List (List Int)) × Int) → Option (((List (List Int)) × Int) ⊕ (List (List Int)))
 | (outv, i) =>
  cond (decide (i < (rv.length : Int)))
  ((idx rv i).bind fun e =>
  (remontoirref06_delays n to e wrong).bind fun rv_1 =>
  cond (decide (rv_1.Low ≤ rv_1.High))
  (if outv.length + ([e]).length ≤ lim then
  nxt ((outv ++ [e]), wr (i + 1))
  else none)
  (nxt (outv, wr (i + 1))))
  (ext (some outv))
noncomputable def remontoirref06_routes (n : LineNet) (to : Int) (wrong : Int) : Option (List (List Int)) :=
  (remontoirref06_all n to).bind fun rv =>
  loopU (remontoirref06_routes_b1 n to wrong rv) (([] : List (List Int)), 0)
theorem remontoirref06_routes_ok {w0 : World} {D0 : Stab} (hD : D0.on w0) (n : LineNet) (to : Int) (wrong : Int) {p : Option Addr} {c : Nat} {p_1 : Option Addr} {c_1 : Nat} (hs : SRc C_LineLine D0 n.Lines p c) (hs_1 : SRc C_LineLoop D0 n.Loops p_1 c_1) (hG : Glob D0) (out : (List (List Int))) (h : remontoirref06_routes n to wrong = some out) : Calls Tryd.prog 61 [.agg #[.int .i64 n.Exchanges, .slice p n.Lines.length c, .int .i64 n.Hops, .slice p_1 n.Loops.length c_1], .int .i64 to, .int .i64 wrong].toArray w0 (RetS D0 w0 fun D v => ∃ p_9 c_9, v = .slice p_9 out.length c_9 ∧ SRc (C_sl C_int) D out p_9 c_9) := by
 refine enter _ 41 Tryd.func61 rfl Tryd.ntmps61 rfl fun a hF => ?_
 replace hF : Frm 41 [] [(0, .agg #[.int .i64 n.Exchanges, .slice p n.Lines.length c, .int .i64 n.Hops, .slice p_1 n.Loops.length c_1]), (1, .int .i64 to), (2, .int .i64 wrong)] a := hF
 have hS := St.start hD
 unfold remontoirref06_routes at h
 refine seq (region (O.box (cs := [.int .i64 n.Exchanges, .slice p n.Lines.length c, .int .i64 n.Hops, .slice p_1 n.Loops.length c_1]) 1 hF rfl rfl hS rfl fun b a w hF hS => step hF (Y.assign hF rfl) rfl fun a hF => nil (then_n (seq (region (step hF (Y.loadNL 1 sz_25 hF rfl hS rfl rfl rfl) rfl fun a hF => step hF (Y.move hF rfl) rfl fun a hF => ?_))))))
 obtain ⟨rv, hx, h⟩ := bind_some h
 refine O.callS (us := [.agg #[.int .i64 n.Exchanges, .slice p n.Lines.length c, .int .i64 n.Hops, .slice p_1 n.Loops.length c_1], .int .i64 to]) ca_60 hF hS (remontoirref06_all_ok hS.stab n to hs hs_1 hG rv hx) rfl rfl fun v Dv a w hR hlev hF hS => ?_
 replace hs := hs.mono hlev
 replace hs_1 := hs_1.mono hlev
 obtain ⟨p_2, c_2, rfl, hs_2⟩ := hR
 refine step hF (Y.assign hF rfl) rfl fun a hF => nil (then_n (seq (region (step hF (Y.assign hF rfl) rfl fun a hF => ?_))))
 replace hS := hS.ownNil 2 32 1
 refine nil (then_n (seq (seq (region (step hF (Y.assign hF rfl) rfl fun a hF => nil (then_n (block (loop_cut (body := remontoirref06_routes_b1 n to wrong rv) (out := out) (fun s a w => ∃ (outv : (List (List Int))) (i : Int), ∃ (Dv_1 : Stab), ∃ p_3 c_3 cs, s = (outv, i) ∧ Dv.le Dv_1 ∧ Frm 41 [] [(1, .int .i64 to), (2, .int .i64 wrong), (3, .pointer (some ⟨b, 0, none⟩)), (6, .slice none 0 0), (7, .slice p_2 rv.length c_2), (8, .slice p_3 outv.length c_3), (9, .int .i64 i)] a ∧ St w0 D0 Dv_1 [(1, .cells b [.int .i64 n.Exchanges, .slice p n.Lines.length c, .int .i64 n.Hops, .slice p_1 n.Loops.length c_1] 25), (2, .own p_3 outv.length c_3 cs 32 1)] w ∧ Reps (C_sl C_int) Dv_1 outv cs) (([] : List (List Int)), 0) h ⟨([] : List (List Int)), 0, Dv, none, 0, ([]), rfl, Stab.le.refl _, hF.weak ⟨rfl, rfl, rfl, rfl, rfl, rfl, rfl, trivial⟩, hS.weak ⟨rfl, rfl, trivial⟩, Reps.nil⟩ ?_))))))))
 rintro s a w xo ⟨outv, i, Dv_1, p_3, c_3, cs, rfl, hlev_1, hF, hS, hr⟩ h hxo
 unfold remontoirref06_routes_b1 at h
 dsimp only at h
 replace hs := hs.mono hlev_1
 replace hs_1 := hs_1.mono hlev_1
 replace hs_2 := hs_2.mono hlev_1
 refine seq (seq (region (step hF (Y.move hF rfl) rfl fun a hF => step hF (Y.move hF rfl) rfl fun a hF => step hF (Y.lenSl u_26 hF rfl) rfl fun a hF => step hF (Y.lss hF rfl rfl) rfl fun a hF => nil (then_n (cond_b hF rfl (fun hbv => ?_) (fun hbv => ?_))))))
 ·replace h := cond_t h hbv
  refine skip_ (then_n (seq (block (seq ?_))))
  obtain ⟨e, hx_1, h⟩ := bind_some h
  obtain ⟨rv_1, hx_2, h⟩ := bind_some h
  refine drawsV 9 (.flt 0 (.flt 1 (.flt 2 (.flt 3 (.flt 4 (.flt 5 (.flt 6 (.alt 7 (.alt 8 .done .stop) (.alt 8 (.alt 7 .done .stop) .stop))))))))) mixed_ (by kernel_rfl) (fun w => St w0 D0 Dv_1 [(1, .cells b [.int .i64 n.Exchanges, .slice p n.Lines.length c, .int .i64 n.Hops, .slice p_1 n.Loops.length c_1] 25), (2, .own p_3 outv.length c_3 cs 32 1)] w) (fun a w => ∃ (b_2 : Nat), Frm 41 [] [(1, .int .i64 to), (2, .int .i64 wrong), (3, .pointer (some ⟨b, 0, none⟩)), (6, .slice none 0 0), (7, .slice p_2 rv.length c_2), (8, .slice p_3 outv.length c_3), (9, .int .i64 i), (10, .pointer (some ⟨b_2, 0, none⟩)), (27, .agg #[.int .i64 rv_1.Low, .int .i64 rv_1.High])] a ∧ St w0 D0 Dv_1 [(1, .cells b [.int .i64 n.Exchanges, .slice p n.Lines.length c, .int .i64 n.Hops, .slice p_1 n.Loops.length c_1] 25), (2, .own p_3 outv.length c_3 cs 32 1), (3, .cells b_2 [.int .i64 0, .int .i64 0] 40)] w) (hS.weak (ms := [(1, .cells b [.int .i64 n.Exchanges, .slice p n.Lines.length c, .int .i64 n.Hops, .slice p_1 n.Loops.length c_1] 25), (2, .own p_3 outv.length c_3 cs 32 1)]) ⟨rfl, rfl, trivial⟩).drew (fun _ _ _ _ h => h) ?_ ?_
  ·replace hS := hS.drew
   have hle0 := hS.le
   refine stepV (i := 0) rfl hF (fun w hS => Y.loadNL 1 sz_25 hF rfl hS rfl rfl rfl) rfl fun a hF => stepV (i := 1) rfl hF (fun w hS => Y.move hF rfl) rfl fun a hF => stepV (i := 2) rfl hF (fun w hS => Y.move hF rfl) rfl fun a hF => stepV (i := 3) rfl hF (fun w hS => Y.move hF rfl) rfl fun a hF => ?_
   obtain ⟨b_3, o_1, hE_1, hY_1⟩ := Y.indexS (P := Tryd.prog) (C := (C_sl C_int)) (xs := rv) (T := 26) (x := (.tmp 22)) (y := (.tmp 23)) u_26 sz_32 hF rfl rfl (hs_2).1 hx_1
   obtain ⟨cc_1, hc_1, hcell_1⟩ := hE_1.open
   obtain ⟨p_5, c_5, rfl, hs_4⟩ := hc_1
   refine stepV (i := 4) rfl hF (fun w hS => hY_1) rfl fun a hF => stepV (i := 5) rfl hF (fun w hS => Y.load1 sz_32 hF rfl (hcell_1 _ hS.stab 0 _ rfl)) rfl fun a hF => stepV (i := 6) rfl hF (fun w hS => Y.move hF rfl) rfl fun a hF => oneV (i := 7) rfl ?_ ?_
   ·skip
    refine O.callP (us := [.agg #[.int .i64 n.Exchanges, .slice p n.Lines.length c, .int .i64 n.Hops, .slice p_1 n.Loops.length c_1], .int .i64 to, .slice p_5 e.length c_5, .int .i64 wrong]) ca_68 hF hS (remontoirref06_delays_ok hS.stab n to e wrong hs hs_1 hs_4 rv_1 hx_2) rfl rfl fun a w hF hS => nil (then_n ⟨hS.weak ⟨rfl, rfl, trivial⟩, ?_⟩)
    refine oneV (i := 8) rfl ?_ trivial
    refine O.alloc 3 zc_40 hF hS rfl fun b_4 a w hF hS => nil (then_n ⟨hS.weak ⟨rfl, rfl, trivial⟩, ?_⟩)
    exact toTailV ⟨b_4, hF.weak ⟨rfl, rfl, rfl, rfl, rfl, rfl, rfl, rfl, rfl, trivial⟩, hS.weak ⟨rfl, rfl, rfl, trivial⟩⟩
   refine oneV (i := 8) rfl ?_ trivial
   refine O.alloc 3 zc_40 hF hS rfl fun b_5 a w hF hS => nil (then_n ⟨hS.weak ⟨rfl, rfl, trivial⟩, ?_⟩)
   refine oneV (i := 7) rfl ?_ trivial
   refine O.callP (us := [.agg #[.int .i64 n.Exchanges, .slice p n.Lines.length c, .int .i64 n.Hops, .slice p_1 n.Loops.length c_1], .int .i64 to, .slice p_5 e.length c_5, .int .i64 wrong]) ca_68 hF hS (remontoirref06_delays_ok hS.stab n to e wrong hs hs_1 hs_4 rv_1 hx_2) rfl rfl fun a w hF hS => nil (then_n ⟨hS.weak ⟨rfl, rfl, trivial⟩, ?_⟩)
   exact toTailV ⟨b_5, hF.weak ⟨rfl, rfl, rfl, rfl, rfl, rfl, rfl, rfl, rfl, trivial⟩, hS.weak ⟨rfl, rfl, rfl, trivial⟩⟩
  rintro a w ⟨b_2, hF, hS⟩
  refine O.store (us := [.int .i64 rv_1.Low, .int .i64 rv_1.High]) 3 sz_40 hF rfl rfl rfl rfl hS rfl rfl fun a w hF hS => nil (then_n (seq (region (step hF (Y.fieldAddr fo_40_0 hF rfl) rfl fun a hF => step hF (Y.load1L 3 sz_3 hF rfl hS rfl rfl) rfl fun a hF => step hF (Y.fieldAddr fo_40_1 hF rfl) rfl fun a hF => step hF (Y.load1L 3 sz_3 hF rfl hS rfl rfl) rfl fun a hF => step hF (Y.leq hF rfl rfl) rfl fun a hF => nil (then_n (cond_b hF rfl (fun hbv_1 => ?_) (fun hbv_1 => ?_)))))))
  ·replace h := cond_t h hbv_1
   refine region (step hF (Y.move hF rfl) rfl fun a hF => step hF (Y.move hF rfl) rfl fun a hF => step hF (Y.move hF rfl) rfl fun a hF => ?_)
   obtain ⟨b_6, o_2, hE_2, hY_2⟩ := Y.indexS (P := Tryd.prog) (C := (C_sl C_int)) (xs := rv) (T := 26) (x := (.tmp 34)) (y := (.tmp 35)) u_26 sz_32 hF rfl rfl (hs_2).1 hx_1
   obtain ⟨cc_2, hc_2, hcell_2⟩ := hE_2.open
   obtain ⟨p_6, c_6, rfl, hs_5⟩ := hc_2
   refine step hF (hY_2) rfl fun a hF => step hF (Y.load1 sz_32 hF rfl (hcell_2 _ hS.stab 0 _ rfl)) rfl fun a hF => ?_
   have hr_1 : Reps (C_sl C_int) Dv_1 [e] [.slice p_6 e.length c_6] := Reps.cons (C := (C_sl C_int)) (x := e) (c := [.slice p_6 e.length c_6]) (r := []) (⟨_, _, rfl, hs_5⟩) (Reps.nil)
   refine O.buildSlice (E := 32) (C := (C_sl C_int)) (xs := [e]) (cs := [.slice p_6 e.length c_6]) (us := [.slice p_6 e.length c_6]) (parts := [(0, (.tmp 37))]) 4 hF hS rfl (by kernel_rfl) hr_1 rfl rfl rfl fun p_7 c_7 a w hF hS => ?_
   obtain ⟨hg, h⟩ := ite_some h
   refine O.append (C := (C_sl C_int)) (xs := outv) (ys := [e]) 2 gr_26 hF rfl rfl hS rfl (src_own (i := 4) hS rfl) hr hr_1 hg rfl fun p_8 c_8 a w hF hS hr_2 => step hF (Y.assign hF rfl) rfl fun a hF => nil (blk_n (then_n (region (step hF (Y.move hF rfl) rfl fun a hF => step hF (Y.add hF rfl rfl) rfl fun a hF => step hF (Y.assign hF rfl) rfl fun a hF => nil (then_n (⟨_, nxt_some h, (outv ++ [e]), (wr (i + 1)), Dv_1, p_8, c_8, (cs ++ [.slice p_6 e.length c_6]), rfl, hlev_1, hF.weak ⟨rfl, rfl, rfl, rfl, rfl, rfl, rfl, trivial⟩, hS.weak ⟨rfl, rfl, trivial⟩, hr_2⟩))))))
  replace h := cond_f h hbv_1
  refine skip_ (blk_n (then_n (region (step hF (Y.move hF rfl) rfl fun a hF => step hF (Y.add hF rfl rfl) rfl fun a hF => step hF (Y.assign hF rfl) rfl fun a hF => nil (then_n (⟨_, nxt_some h, outv, (wr (i + 1)), Dv_1, p_3, c_3, cs, rfl, hlev_1, hF.weak ⟨rfl, rfl, rfl, rfl, rfl, rfl, rfl, trivial⟩, hS.weak ⟨rfl, rfl, trivial⟩, hr⟩))))))
 replace h := cond_f h hbv
 refine exit_ (then_x (then_x (blk_hit (then_n ?_))))
 replace h := ext_some h hxo
 refine seq (region (step hF (Y.move hF rfl) rfl fun a hF => step hF (Y.assign hF rfl) rfl fun a hF => nil (then_n (ret_ ?_))))
 obtain ⟨Dv_2, hlev_2, hs_6, hS⟩ := hS.freezeC (C := (C_sl C_int)) (i := 2) (xs := outv) rfl hr
 obtain rfl := some_inj h
 exact leaveS Tryd.results61 hF hS (.cons (.tmp rfl) .nil) .nil ⟨_, _, rfl, hs_6⟩
noncomputable def remontoirref06_can_b1 (n : LineNet) (wrong : Int) : (Bool × Int) → Option ((Bool × Int) ⊕ Bool)
 | (v4_0, i) =>
  cond (decide (i < (n.Loops.length : Int)))
  ((idx n.Loops i).bind fun e =>
  (r0In wrong i).bind fun rv =>
  (cond (!rv) ((remontoirref06_routes n e.Exchange wrong).bind fun rv_1 =>
  some ((rv_1.length : Int) == 0)) (some false)).bind fun t =>
  cond t
  (ext (some false))
  (nxt (v4_0, wr (i + 1))))
  (ext (some true))
noncomputable def remontoirref06_can (n : LineNet) (wrong : Int) : Option Bool :=
  loopU (remontoirref06_can_b1 n wrong) (false, 0)
theorem remontoirref06_can_ok {w0 : World} {D0 : Stab} (hD : D0.on w0) (n : LineNet) (wrong : Int) {p : Option Addr} {c : Nat} {p_1 : Option Addr} {c_1 : Nat} (hs : SRc C_LineLine D0 n.Lines p c) (hs_1 : SRc C_LineLoop D0 n.Loops p_1 c_1) (hG : Glob D0) (out : Bool) (h : remontoirref06_can n wrong = some out) : Calls Tryd.prog 77 [.agg #[.int .i64 n.Exchanges, .slice p n.Lines.length c, .int .i64 n.Hops, .slice p_1 n.Loops.length c_1], .int .i64 wrong].toArray w0 (RetP D0 w0 (.bool out)) := by
 refine enter _ 32 Tryd.func77 rfl Tryd.ntmps77 rfl fun a hF => ?_
 replace hF : Frm 32 [] [(0, .agg #[.int .i64 n.Exchanges, .slice p n.Lines.length c, .int .i64 n.Hops, .slice p_1 n.Loops.length c_1]), (1, .int .i64 wrong)] a := hF
 have hS := St.start hD
 unfold remontoirref06_can at h
 refine seq (region (O.box (cs := [.int .i64 n.Exchanges, .slice p n.Lines.length c, .int .i64 n.Hops, .slice p_1 n.Loops.length c_1]) 1 hF rfl rfl hS rfl fun b a w hF hS => step hF (Y.assign hF rfl) rfl fun a hF => nil (then_n (seq (seq (region (step hF (Y.assign hF rfl) rfl fun a hF => nil (then_n (block (loop_cut (body := remontoirref06_can_b1 n wrong) (out := out) (fun s a w => ∃ (v4_0 : Bool) (i : Int), ∃ (Dv : Stab), s = (v4_0, i) ∧ D0.le Dv ∧ Frm 32 [] [(1, .int .i64 wrong), (2, .pointer (some ⟨b, 0, none⟩)), (4, .bool v4_0), (5, .int .i64 i)] a ∧ St w0 D0 Dv [(1, .cells b [.int .i64 n.Exchanges, .slice p n.Lines.length c, .int .i64 n.Hops, .slice p_1 n.Loops.length c_1] 25)] w) (false, 0) h ⟨false, 0, D0, rfl, Stab.le.refl _, hF.weak ⟨rfl, rfl, rfl, rfl, trivial⟩, hS.weak ⟨rfl, trivial⟩⟩ ?_))))))))))
 rintro s a w xo ⟨v4_0, i, Dv, rfl, hlev, hF, hS⟩ h hxo
 unfold remontoirref06_can_b1 at h
 dsimp only at h
 replace hs := hs.mono hlev
 replace hs_1 := hs_1.mono hlev
 replace hG := hG.mono hlev
 refine seq (seq (region (step hF (Y.move hF rfl) rfl fun a hF => step hF (Y.fieldAddr fo_25_3 hF rfl) rfl fun a hF => step hF (Y.load1L 1 sz_23 hF rfl hS rfl rfl) rfl fun a hF => step hF (Y.lenSl u_23 hF rfl) rfl fun a hF => step hF (Y.lss hF rfl rfl) rfl fun a hF => nil (then_n (cond_b hF rfl (fun hbv => ?_) (fun hbv => ?_))))))
 ·replace h := cond_t h hbv
  refine skip_ (then_n (seq (block (seq (region (step hF (Y.fieldAddr fo_25_3 hF rfl) rfl fun a hF => step hF (Y.load1L 1 sz_23 hF rfl hS rfl rfl) rfl fun a hF => step hF (Y.move hF rfl) rfl fun a hF => ?_))))))
  obtain ⟨e, hx, h⟩ := bind_some h
  obtain ⟨b_1, o, hE, hY⟩ := Y.indexS (P := Tryd.prog) (C := C_LineLoop) (xs := n.Loops) (T := 23) (x := (.tmp 15)) (y := (.tmp 16)) u_23 sz_71 hF rfl rfl (hs_1).1 hx
  obtain ⟨cc, hc, hcell⟩ := hE.open
  obtain rfl := C_LineLoop.open hc
  refine step hF (hY) rfl fun a hF => step hF (Y.fieldAddr fo_71_0 hF rfl) rfl fun a hF => step hF (Y.load1 sz_3 hF rfl (hcell _ hS.stab 0 _ rfl)) rfl fun a hF => step hF (Y.assign hF rfl) rfl fun a hF => nil (then_n (seq (region (step hF (Y.move hF rfl) rfl fun a hF => step hF (Y.move hF rfl) rfl fun a hF => ?_))))
  obtain ⟨rv, hx_1, h⟩ := bind_some h
  refine O.callP (us := [.int .i64 wrong, .int .i64 i]) ca_46 hF hS (r0In_ok hS.stab wrong i rv hx_1) rfl rfl fun a w hF hS => step hF (Y.not hF rfl) rfl fun a hF => step hF (Y.move hF rfl) rfl fun a hF => ?_
  obtain ⟨t, ht, h⟩ := bind_some h
  refine list_cut 7 (fun a w => ∃ D, Dv.le D ∧ Frm 32 [] [(1, .int .i64 wrong), (2, .pointer (some ⟨b, 0, none⟩)), (4, .bool v4_0), (5, .int .i64 i), (31, .bool t)] a ∧ St w0 D0 D [(1, .cells b [.int .i64 n.Exchanges, .slice p n.Lines.length c, .int .i64 n.Hops, .slice p_1 n.Loops.length c_1] 25)] w) ?_ ?_
  ·rcases bcases (!rv) with hbv_1 | hbv_1
   ·skip
    replace h := cond_t ht hbv_1
    refine guard_on hF rfl rfl hbv_1 (step hF (Y.loadNL 1 sz_25 hF rfl hS rfl rfl rfl) rfl fun a hF => guard_on hF rfl rfl hbv_1 (step hF (Y.move hF rfl) rfl fun a hF => guard_on hF rfl rfl hbv_1 (step hF (Y.move hF rfl) rfl fun a hF => guard_on hF rfl rfl hbv_1 ?_)))
    obtain ⟨rv_1, hx_2, h⟩ := bind_some h
    refine O.callS (us := [.agg #[.int .i64 n.Exchanges, .slice p n.Lines.length c, .int .i64 n.Hops, .slice p_1 n.Loops.length c_1], .int .i64 e.Exchange, .int .i64 wrong]) ca_61 hF hS (remontoirref06_routes_ok hS.stab n e.Exchange wrong hs hs_1 hG rv_1 hx_2) rfl rfl fun v Dv_1 a w hR hlev_1 hF hS => ?_
    obtain ⟨p_2, c_2, rfl, hs_2⟩ := hR
    refine guard_on hF rfl rfl hbv_1 (step hF (Y.lenSl u_26 hF rfl) rfl fun a hF => guard_on hF rfl rfl hbv_1 (step hF (Y.eql hF rfl rfl) rfl fun a hF => step hF (Y.pick_t hF rfl hbv_1 rfl) rfl fun a hF => ?_))
    obtain rfl := some_inj h
    exact nil (then_n ⟨Dv_1, hlev_1, hF.weak ⟨rfl, rfl, rfl, rfl, rfl, trivial⟩, hS.weak ⟨rfl, trivial⟩⟩)
   replace h := cond_f ht hbv_1
   refine guard_off hF rfl rfl hbv_1 rfl fun a hF => guard_off hF rfl rfl hbv_1 rfl fun a hF => guard_off hF rfl rfl hbv_1 rfl fun a hF => guard_off hF rfl rfl hbv_1 rfl fun a hF => guard_off hF rfl rfl hbv_1 rfl fun a hF => guard_off hF rfl rfl hbv_1 rfl fun a hF => step hF (Y.pick_f hF rfl hbv_1 rfl) rfl fun a hF => ?_
   obtain rfl := some_inj h
   exact nil (then_n ⟨Dv, Stab.le.refl _, hF.weak ⟨rfl, rfl, rfl, rfl, rfl, trivial⟩, hS.weak ⟨rfl, trivial⟩⟩)
  rintro a w ⟨Dv_2, hlev_2, hF, hS⟩
  refine nil (then_n (cond_b hF rfl (fun hbv_2 => ?_) (fun hbv_2 => ?_)))
  ·replace h := cond_t h hbv_2
   refine seq (region (step hF (Y.assign hF rfl) rfl fun a hF => nil (then_n (ret_ (blk_r (then_r (then_r (blk_r (then_r ?_)))))))))
   replace h := ext_some h hxo
   obtain rfl := some_inj h
   exact leaveP Tryd.results77 hF hS (.cons (.tmp rfl) .nil) .nil rfl
  replace h := cond_f h hbv_2
  refine skip_ (blk_n (then_n (region (step hF (Y.move hF rfl) rfl fun a hF => step hF (Y.add hF rfl rfl) rfl fun a hF => step hF (Y.assign hF rfl) rfl fun a hF => nil (then_n (⟨_, nxt_some h, v4_0, (wr (i + 1)), Dv_2, rfl, hlev.trans hlev_2, hF.weak ⟨rfl, rfl, rfl, rfl, trivial⟩, hS.weak ⟨rfl, trivial⟩⟩))))))
 replace h := cond_f h hbv
 refine exit_ (then_x (then_x (blk_hit (then_n ?_))))
 replace h := ext_some h hxo
 refine seq (region (step hF (Y.assign hF rfl) rfl fun a hF => nil (then_n (ret_ ?_))))
 obtain rfl := some_inj h
 exact leaveP Tryd.results77 hF hS (.cons (.tmp rfl) .nil) .nil rfl
noncomputable def remontoirref06_Cut_b2 (line : Int) (surely : (List Int)) (perhaps : (List Int)) (k : Int) (rv_2 : (List (List Int))) : (Int × Int) → Option ((Int × Int) ⊕ (((List Int) × (List Int) × Int) ⊕ ((List Int) × (List Int) × Int)))
 | (many, i) =>
  cond (decide (i < (rv_2.length : Int)))
  ((idx rv_2 i).bind fun e =>
  (remontoirref06_on e).bind fun rv_3 =>
  (r0In rv_3 line).bind fun rv_4 =>
  cond rv_4
  (nxt (wr (many + 1), wr (i + 1)))
  (nxt (many, wr (i + 1))))
  (ext (cond ((decide (many > 0)) && (many == (rv_2.length : Int)))
  (if surely.length + ([k]).length ≤ lim then
  nxt ((surely ++ [k]), perhaps, wr (k + 1))
  else none)
  (cond (decide (many > 0))
  (if perhaps.length + ([k]).length ≤ lim then
  nxt (surely, (perhaps ++ [k]), wr (k + 1))
  else none)
  (nxt (surely, perhaps, wr (k + 1))))))
noncomputable def remontoirref06_Cut_b1 (n : LineNet) (line : Int) : ((List Int) × (List Int) × Int) → Option (((List Int) × (List Int) × Int) ⊕ ((List Int) × (List Int) × Int))
 | (surely, perhaps, k) =>
  cond (decide (k < n.Exchanges))
  ((remontoirref06_routes n k 0).bind fun rv_2 =>
  loopU (remontoirref06_Cut_b2 line surely perhaps k rv_2) (0, 0))
  (ext (some (surely, perhaps, 0)))
noncomputable def remontoirref06_Cut (n : LineNet) (line : Int) : Option ((List Int) × (List Int) × Int) :=
  (remontoirref06_Check n).bind fun rv =>
  cond (rv != 0)
  (some (([] : List Int), ([] : List Int), rv))
  ((r0Lies line 0 (wr ((n.Lines.length : Int) - 1))).bind fun rv_1 =>
  cond (!rv_1)
  (some (([] : List Int), ([] : List Int), 61))
  (loopU (remontoirref06_Cut_b1 n line) (([] : List Int), ([] : List Int), 0)))
theorem remontoirref06_Cut_ok {w0 : World} {D0 : Stab} (hD : D0.on w0) (n : LineNet) (line : Int) {p : Option Addr} {c : Nat} {p_1 : Option Addr} {c_1 : Nat} (hs : SRc C_LineLine D0 n.Lines p c) (hs_1 : SRc C_LineLoop D0 n.Loops p_1 c_1) (hG : Glob D0) (out : ((List Int) × (List Int) × Int)) (h : remontoirref06_Cut n line = some out) : Calls Tryd.prog 31 [.agg #[.int .i64 n.Exchanges, .slice p n.Lines.length c, .int .i64 n.Hops, .slice p_1 n.Loops.length c_1], .int .i64 line].toArray w0 (RetS D0 w0 fun D v => ∃ p_10 c_10 p_11 c_11, v = .tuple #[.slice p_10 out.1.length c_10, .slice p_11 out.2.1.length c_11, .int .i64 out.2.2] ∧ SRc C_int D out.1 p_10 c_10 ∧ SRc C_int D out.2.1 p_11 c_11) := by
 refine enter _ 70 Tryd.func31 rfl Tryd.ntmps31 rfl fun a hF => ?_
 replace hF : Frm 70 [] [(0, .agg #[.int .i64 n.Exchanges, .slice p n.Lines.length c, .int .i64 n.Hops, .slice p_1 n.Loops.length c_1]), (1, .int .i64 line)] a := hF
 have hS := St.start hD
 unfold remontoirref06_Cut at h
 refine seq (region (O.box (cs := [.int .i64 n.Exchanges, .slice p n.Lines.length c, .int .i64 n.Hops, .slice p_1 n.Loops.length c_1]) 1 hF rfl rfl hS rfl fun b a w hF hS => step hF (Y.assign hF rfl) rfl fun a hF => step hF (Y.assign hF rfl) rfl fun a hF => step hF (Y.assign hF rfl) rfl fun a hF => nil (then_n (seq (seq (region (step hF (Y.loadNL 1 sz_25 hF rfl hS rfl rfl rfl) rfl fun a hF => ?_)))))))
 obtain ⟨rv, hx, h⟩ := bind_some h
 refine O.callP (us := [.agg #[.int .i64 n.Exchanges, .slice p n.Lines.length c, .int .i64 n.Hops, .slice p_1 n.Loops.length c_1]]) ca_19 hF hS (remontoirref06_Check_ok hS.stab n hs hs_1 rv hx) rfl rfl fun a w hF hS => step hF (Y.assign hF rfl) rfl fun a hF => nil (then_n (seq (region (step hF (Y.move hF rfl) rfl fun a hF => step hF (Y.neq hF rfl rfl) rfl fun a hF => nil (then_n (cond_b hF rfl (fun hbv => ?_) (fun hbv => ?_)))))))
 ·replace h := cond_t h hbv
  refine seq (region (step hF (Y.move hF rfl) rfl fun a hF => step hF (Y.assign hF rfl) rfl fun a hF => step hF (Y.assign hF rfl) rfl fun a hF => step hF (Y.assign hF rfl) rfl fun a hF => nil (then_n (ret_ (then_r ?_)))))
  obtain rfl := some_inj h
  exact leaveS Tryd.results31 hF hS (.cons (.tmp rfl) (.cons (.tmp rfl) (.cons (.tmp rfl) .nil))) .nil ⟨_, _, _, _, rfl, SRc.nil, SRc.nil⟩
 replace h := cond_f h hbv
 refine skip_ (then_n (seq (seq (region (step hF (Y.move hF rfl) rfl fun a hF => step hF (Y.fieldAddr fo_25_1 hF rfl) rfl fun a hF => step hF (Y.load1L 1 sz_22 hF rfl hS rfl rfl) rfl fun a hF => step hF (Y.lenSl u_22 hF rfl) rfl fun a hF => step hF (Y.sub hF rfl rfl) rfl fun a hF => ?_)))))
 obtain ⟨rv_1, hx_1, h⟩ := bind_some h
 refine O.callP (us := [.int .i64 line, .int .i64 0, .int .i64 (wr ((n.Lines.length : Int) - 1))]) ca_45 hF hS (r0Lies_ok hS.stab line 0 (wr ((n.Lines.length : Int) - 1)) rv_1 hx_1) rfl rfl fun a w hF hS => step hF (Y.not hF rfl) rfl fun a hF => nil (then_n (cond_b hF rfl (fun hbv_1 => ?_) (fun hbv_1 => ?_)))
 ·replace h := cond_t h hbv_1
  refine seq (region (step hF (Y.assign hF rfl) rfl fun a hF => step hF (Y.assign hF rfl) rfl fun a hF => step hF (Y.assign hF rfl) rfl fun a hF => nil (then_n (ret_ (then_r ?_)))))
  obtain rfl := some_inj h
  exact leaveS Tryd.results31 hF hS (.cons (.tmp rfl) (.cons (.tmp rfl) (.cons (.tmp rfl) .nil))) .nil ⟨_, _, _, _, rfl, SRc.nil, SRc.nil⟩
 replace h := cond_f h hbv_1
 refine skip_ (then_n (seq (region (step hF (Y.assign hF rfl) rfl fun a hF => ?_))))
 replace hS := hS.ownNil 2 3 1
 refine step hF (Y.assign hF rfl) rfl fun a hF => ?_
 replace hS := hS.ownNil 3 3 1
 refine nil (then_n (seq (seq (region (step hF (Y.assign hF rfl) rfl fun a hF => nil (then_n (block (loop_cut (body := remontoirref06_Cut_b1 n line) (out := out) (fun s a w => ∃ (surely : (List Int)) (perhaps : (List Int)) (k : Int), ∃ (Dv : Stab), ∃ p_2 c_2 cs p_3 c_3 cs_1, s = (surely, perhaps, k) ∧ D0.le Dv ∧ Frm 70 [] [(1, .int .i64 line), (2, .pointer (some ⟨b, 0, none⟩)), (4, .slice none 0 0), (5, .slice none 0 0), (6, .int .i64 0), (8, .slice p_2 surely.length c_2), (9, .slice p_3 perhaps.length c_3), (10, .int .i64 k)] a ∧ St w0 D0 Dv [(1, .cells b [.int .i64 n.Exchanges, .slice p n.Lines.length c, .int .i64 n.Hops, .slice p_1 n.Loops.length c_1] 25), (2, .own p_2 surely.length c_2 cs 3 1), (3, .own p_3 perhaps.length c_3 cs_1 3 1)] w ∧ Reps C_int Dv surely cs ∧ Reps C_int Dv perhaps cs_1) (([] : List Int), ([] : List Int), 0) h ⟨([] : List Int), ([] : List Int), 0, D0, none, 0, ([]), none, 0, ([]), rfl, Stab.le.refl _, hF.weak ⟨rfl, rfl, rfl, rfl, rfl, rfl, rfl, rfl, trivial⟩, hS.weak ⟨rfl, rfl, rfl, trivial⟩, Reps.nil, Reps.nil⟩ ?_))))))))
 rintro s a w xo ⟨surely, perhaps, k, Dv, p_2, c_2, cs, p_3, c_3, cs_1, rfl, hlev, hF, hS, hr, hr_1⟩ h hxo
 unfold remontoirref06_Cut_b1 at h
 dsimp only at h
 replace hs := hs.mono hlev
 replace hs_1 := hs_1.mono hlev
 replace hG := hG.mono hlev
 refine seq (seq (region (step hF (Y.move hF rfl) rfl fun a hF => step hF (Y.fieldAddr fo_25_0 hF rfl) rfl fun a hF => step hF (Y.load1L 1 sz_3 hF rfl hS rfl rfl) rfl fun a hF => step hF (Y.lss hF rfl rfl) rfl fun a hF => nil (then_n (cond_b hF rfl (fun hbv_2 => ?_) (fun hbv_2 => ?_))))))
 ·replace h := cond_t h hbv_2
  refine skip_ (then_n (seq (block (seq (region (step hF (Y.loadNL 1 sz_25 hF rfl hS rfl rfl rfl) rfl fun a hF => step hF (Y.move hF rfl) rfl fun a hF => ?_))))))
  obtain ⟨rv_2, hx_2, h⟩ := bind_some h
  refine O.callS (us := [.agg #[.int .i64 n.Exchanges, .slice p n.Lines.length c, .int .i64 n.Hops, .slice p_1 n.Loops.length c_1], .int .i64 k, .int .i64 0]) ca_61 hF hS (remontoirref06_routes_ok hS.stab n k 0 hs hs_1 hG rv_2 hx_2) rfl rfl fun v Dv_1 a w hR hlev_1 hF hS => ?_
  replace hr := hr.mono hlev_1
  replace hr_1 := hr_1.mono hlev_1
  obtain ⟨p_4, c_4, rfl, hs_2⟩ := hR
  refine step hF (Y.assign hF rfl) rfl fun a hF => nil (then_n (seq (region (step hF (Y.assign hF rfl) rfl fun a hF => nil (then_n (seq (seq (region (step hF (Y.assign hF rfl) rfl fun a hF => nil (then_n (block (loop_cut (body := remontoirref06_Cut_b2 line surely perhaps k rv_2) (out := xo) (fun s a w => ∃ (many : Int) (i : Int), ∃ (Dv_2 : Stab), s = (many, i) ∧ Dv_1.le Dv_2 ∧ Frm 70 [] [(1, .int .i64 line), (2, .pointer (some ⟨b, 0, none⟩)), (4, .slice none 0 0), (5, .slice none 0 0), (6, .int .i64 0), (8, .slice p_2 surely.length c_2), (9, .slice p_3 perhaps.length c_3), (10, .int .i64 k), (11, .slice p_4 rv_2.length c_4), (12, .int .i64 many), (13, .int .i64 i)] a ∧ St w0 D0 Dv_2 [(1, .cells b [.int .i64 n.Exchanges, .slice p n.Lines.length c, .int .i64 n.Hops, .slice p_1 n.Loops.length c_1] 25), (2, .own p_2 surely.length c_2 cs 3 1), (3, .own p_3 perhaps.length c_3 cs_1 3 1)] w) (0, 0) h ⟨0, 0, Dv_1, rfl, Stab.le.refl _, hF.weak ⟨rfl, rfl, rfl, rfl, rfl, rfl, rfl, rfl, rfl, rfl, rfl, trivial⟩, hS.weak ⟨rfl, rfl, rfl, trivial⟩⟩ ?_))))))))))))
  rintro s a w xo_1 ⟨many, i, Dv_2, rfl, hlev_2, hF, hS⟩ h hxo_1
  unfold remontoirref06_Cut_b2 at h
  dsimp only at h
  replace hr := hr.mono hlev_2
  replace hr_1 := hr_1.mono hlev_2
  replace hs_2 := hs_2.mono hlev_2
  refine seq (seq (region (step hF (Y.move hF rfl) rfl fun a hF => step hF (Y.move hF rfl) rfl fun a hF => step hF (Y.lenSl u_26 hF rfl) rfl fun a hF => step hF (Y.lss hF rfl rfl) rfl fun a hF => nil (then_n (cond_b hF rfl (fun hbv_3 => ?_) (fun hbv_3 => ?_))))))
  ·replace h := cond_t h hbv_3
   refine skip_ (then_n (seq (block (seq (region (step hF (Y.move hF rfl) rfl fun a hF => step hF (Y.move hF rfl) rfl fun a hF => ?_))))))
   obtain ⟨e, hx_3, h⟩ := bind_some h
   obtain ⟨b_1, o, hE, hY⟩ := Y.indexS (P := Tryd.prog) (C := (C_sl C_int)) (xs := rv_2) (T := 26) (x := (.tmp 41)) (y := (.tmp 42)) u_26 sz_32 hF rfl rfl (hs_2).1 hx_3
   obtain ⟨cc, hc, hcell⟩ := hE.open
   obtain ⟨p_5, c_5, rfl, hs_3⟩ := hc
   refine step hF (hY) rfl fun a hF => step hF (Y.load1 sz_32 hF rfl (hcell _ hS.stab 0 _ rfl)) rfl fun a hF => ?_
   obtain ⟨rv_3, hx_4, h⟩ := bind_some h
   refine O.callP (us := [.slice p_5 e.length c_5]) ca_65 hF hS (remontoirref06_on_ok hS.stab e hs_3 rv_3 hx_4) rfl rfl fun a w hF hS => step hF (Y.move hF rfl) rfl fun a hF => ?_
   obtain ⟨rv_4, hx_5, h⟩ := bind_some h
   refine O.callP (us := [.int .i64 rv_3, .int .i64 line]) ca_46 hF hS (r0In_ok hS.stab rv_3 line rv_4 hx_5) rfl rfl fun a w hF hS => nil (then_n (cond_b hF rfl (fun hbv_4 => ?_) (fun hbv_4 => ?_)))
   ·replace h := cond_t h hbv_4
    refine region (step hF (Y.move hF rfl) rfl fun a hF => step hF (Y.add hF rfl rfl) rfl fun a hF => step hF (Y.assign hF rfl) rfl fun a hF => nil (blk_n (then_n (region (step hF (Y.move hF rfl) rfl fun a hF => step hF (Y.add hF rfl rfl) rfl fun a hF => step hF (Y.assign hF rfl) rfl fun a hF => nil (then_n (⟨_, nxt_some h, (wr (many + 1)), (wr (i + 1)), Dv_2, rfl, hlev_2, hF.weak ⟨rfl, rfl, rfl, rfl, rfl, rfl, rfl, rfl, rfl, rfl, rfl, trivial⟩, hS.weak ⟨rfl, rfl, rfl, trivial⟩⟩)))))))
   replace h := cond_f h hbv_4
   refine skip_ (blk_n (then_n (region (step hF (Y.move hF rfl) rfl fun a hF => step hF (Y.add hF rfl rfl) rfl fun a hF => step hF (Y.assign hF rfl) rfl fun a hF => nil (then_n (⟨_, nxt_some h, many, (wr (i + 1)), Dv_2, rfl, hlev_2, hF.weak ⟨rfl, rfl, rfl, rfl, rfl, rfl, rfl, rfl, rfl, rfl, rfl, trivial⟩, hS.weak ⟨rfl, rfl, rfl, trivial⟩⟩))))))
  replace h := cond_f h hbv_3
  refine exit_ (then_x (then_x (blk_hit (then_n ?_))))
  replace h := ext_some h hxo_1
  refine seq (region (step hF (Y.move hF rfl) rfl fun a hF => step hF (Y.gtr hF rfl rfl) rfl fun a hF => step hF (Y.move hF rfl) rfl fun a hF => join (N := 70) (rs := []) (w0 := w0) (D0 := D0) 5 (us := [(1, .int .i64 line), (2, .pointer (some ⟨b, 0, none⟩)), (4, .slice none 0 0), (5, .slice none 0 0), (6, .int .i64 0), (8, .slice p_2 surely.length c_2), (9, .slice p_3 perhaps.length c_3), (10, .int .i64 k), (12, .int .i64 many), (57, .bool ((decide (many > 0)) && (many == (rv_2.length : Int))))]) (ms := [(1, .cells b [.int .i64 n.Exchanges, .slice p n.Lines.length c, .int .i64 n.Hops, .slice p_1 n.Loops.length c_1] 25), (2, .own p_2 surely.length c_2 cs 3 1), (3, .own p_3 perhaps.length c_3 cs_1 3 1)]) (D' := Dv_2) ?_ ?_))
  ·rcases bcases (decide (many > 0)) with hbv_5 | hbv_5
   ·skip
    refine guard_on hF rfl rfl hbv_5 (step hF (Y.move hF rfl) rfl fun a hF => guard_on hF rfl rfl hbv_5 (step hF (Y.move hF rfl) rfl fun a hF => guard_on hF rfl rfl hbv_5 (step hF (Y.lenSl u_26 hF rfl) rfl fun a hF => guard_on hF rfl rfl hbv_5 (step hF (Y.eql hF rfl rfl) rfl fun a hF => step hF (Y.pick_t hF rfl hbv_5 rfl) rfl fun a hF => nil (then_n ⟨hF.weak ⟨rfl, rfl, rfl, rfl, rfl, rfl, rfl, rfl, rfl, (by rw [hbv_5]; rfl), trivial⟩, hS.weak ⟨rfl, rfl, rfl, trivial⟩⟩)))))
   refine guard_off hF rfl rfl hbv_5 rfl fun a hF => guard_off hF rfl rfl hbv_5 rfl fun a hF => guard_off hF rfl rfl hbv_5 rfl fun a hF => guard_off hF rfl rfl hbv_5 rfl fun a hF => step hF (Y.pick_f hF rfl hbv_5 rfl) rfl fun a hF => nil (then_n ⟨hF.weak ⟨rfl, rfl, rfl, rfl, rfl, rfl, rfl, rfl, rfl, (by rw [hbv_5]; rfl), trivial⟩, hS.weak ⟨rfl, rfl, rfl, trivial⟩⟩)
  intro a w hF hS
  refine nil (then_n (cond_b hF rfl (fun hbv_6 => ?_) (fun hbv_6 => ?_)))
  ·replace h := cond_t h hbv_6
   refine region (step hF (Y.move hF rfl) rfl fun a hF => step hF (Y.move hF rfl) rfl fun a hF => ?_)
   have hr_2 : Reps C_int Dv_2 [k] [.int .i64 k] := Reps.cons (C := C_int) (x := k) (c := [.int .i64 k]) (r := []) rfl (Reps.nil)
   refine O.buildSlice (E := 3) (C := C_int) (xs := [k]) (cs := [.int .i64 k]) (us := [.int .i64 k]) (parts := [(0, (.tmp 59))]) 4 hF hS rfl (by kernel_rfl) hr_2 rfl rfl rfl fun p_6 c_6 a w hF hS => ?_
   obtain ⟨hg, h⟩ := ite_some h
   refine O.append (C := C_int) (xs := surely) (ys := [k]) 2 gr_32 hF rfl rfl hS rfl (src_own (i := 4) hS rfl) hr hr_2 hg rfl fun p_7 c_7 a w hF hS hr_3 => step hF (Y.assign hF rfl) rfl fun a hF => nil (blk_n (then_n (region (step hF (Y.move hF rfl) rfl fun a hF => step hF (Y.add hF rfl rfl) rfl fun a hF => step hF (Y.assign hF rfl) rfl fun a hF => nil (then_n (⟨_, nxt_some h, (surely ++ [k]), perhaps, (wr (k + 1)), Dv_2, p_7, c_7, (cs ++ [.int .i64 k]), p_3, c_3, cs_1, rfl, hlev.trans (hlev_1.trans hlev_2), hF.weak ⟨rfl, rfl, rfl, rfl, rfl, rfl, rfl, rfl, trivial⟩, hS.weak ⟨rfl, rfl, rfl, trivial⟩, hr_3, hr_1⟩))))))
  replace h := cond_f h hbv_6
  refine seq (region (step hF (Y.move hF rfl) rfl fun a hF => step hF (Y.gtr hF rfl rfl) rfl fun a hF => nil (then_n (cond_b hF rfl (fun hbv_7 => ?_) (fun hbv_7 => ?_)))))
  ·replace h := cond_t h hbv_7
   refine region (step hF (Y.move hF rfl) rfl fun a hF => step hF (Y.move hF rfl) rfl fun a hF => ?_)
   have hr_4 : Reps C_int Dv_2 [k] [.int .i64 k] := Reps.cons (C := C_int) (x := k) (c := [.int .i64 k]) (r := []) rfl (Reps.nil)
   refine O.buildSlice (E := 3) (C := C_int) (xs := [k]) (cs := [.int .i64 k]) (us := [.int .i64 k]) (parts := [(0, (.tmp 65))]) 5 hF hS rfl (by kernel_rfl) hr_4 rfl rfl rfl fun p_8 c_8 a w hF hS => ?_
   obtain ⟨hg_1, h⟩ := ite_some h
   refine O.append (C := C_int) (xs := perhaps) (ys := [k]) 3 gr_32 hF rfl rfl hS rfl (src_own (i := 5) hS rfl) hr_1 hr_4 hg_1 rfl fun p_9 c_9 a w hF hS hr_5 => step hF (Y.assign hF rfl) rfl fun a hF => nil (blk_n (then_n (region (step hF (Y.move hF rfl) rfl fun a hF => step hF (Y.add hF rfl rfl) rfl fun a hF => step hF (Y.assign hF rfl) rfl fun a hF => nil (then_n (⟨_, nxt_some h, surely, (perhaps ++ [k]), (wr (k + 1)), Dv_2, p_2, c_2, cs, p_9, c_9, (cs_1 ++ [.int .i64 k]), rfl, hlev.trans (hlev_1.trans hlev_2), hF.weak ⟨rfl, rfl, rfl, rfl, rfl, rfl, rfl, rfl, trivial⟩, hS.weak ⟨rfl, rfl, rfl, trivial⟩, hr, hr_5⟩))))))
  replace h := cond_f h hbv_7
  refine skip_ (blk_n (then_n (region (step hF (Y.move hF rfl) rfl fun a hF => step hF (Y.add hF rfl rfl) rfl fun a hF => step hF (Y.assign hF rfl) rfl fun a hF => nil (then_n (⟨_, nxt_some h, surely, perhaps, (wr (k + 1)), Dv_2, p_2, c_2, cs, p_3, c_3, cs_1, rfl, hlev.trans (hlev_1.trans hlev_2), hF.weak ⟨rfl, rfl, rfl, rfl, rfl, rfl, rfl, rfl, trivial⟩, hS.weak ⟨rfl, rfl, rfl, trivial⟩, hr, hr_1⟩))))))
 replace h := cond_f h hbv_2
 refine exit_ (then_x (then_x (blk_hit (then_n ?_))))
 replace h := ext_some h hxo
 refine seq (region (step hF (Y.move hF rfl) rfl fun a hF => step hF (Y.move hF rfl) rfl fun a hF => step hF (Y.assign hF rfl) rfl fun a hF => step hF (Y.assign hF rfl) rfl fun a hF => step hF (Y.assign hF rfl) rfl fun a hF => nil (then_n (ret_ ?_))))
 obtain ⟨Dv_3, hlev_3, hs_4, hS⟩ := hS.freezeC (C := C_int) (i := 2) (xs := surely) rfl hr
 replace hr_1 := hr_1.mono hlev_3
 obtain ⟨Dv_4, hlev_4, hs_5, hS⟩ := hS.freezeC (C := C_int) (i := 3) (xs := perhaps) rfl hr_1
 replace hs_4 := hs_4.mono hlev_4
 obtain rfl := some_inj h
 exact leaveS Tryd.results31 hF hS (.cons (.tmp rfl) (.cons (.tmp rfl) (.cons (.tmp rfl) .nil))) .nil ⟨_, _, _, _, rfl, hs_4, hs_5⟩
noncomputable def remontoirref06_Wrong_b1 (n : LineNet) : ((List Int) × Int) → Option (((List Int) × Int) ⊕ ((List Int) × Int))
 | (best, set) =>
  if ¬ (n.Loops.length : Int) < 0 then
  cond (decide (set < (gshl 1 (n.Loops.length : Int))))
  ((r0List set (n.Loops.length : Int)).bind fun rv_2 =>
  (cond (decide ((rv_2.length : Int) < (best.length : Int))) (some true) ((cond ((rv_2.length : Int) == (best.length : Int)) ((r0Ahead rv_2 best).bind fun rv_3 =>
  some rv_3) (some false)).bind fun t =>
  some t)).bind fun t_1 =>
  (cond t_1 ((remontoirref06_can n set).bind fun rv_4 =>
  some rv_4) (some false)).bind fun t_2 =>
  cond t_2
  (nxt (rv_2, wr (set + 1)))
  (nxt (best, wr (set + 1))))
  (ext (some (best, 0)))
  else none
noncomputable def remontoirref06_Wrong (n : LineNet) : Option ((List Int) × Int) :=
  (remontoirref06_Check n).bind fun rv =>
  cond (rv != 0)
  (some (([] : List Int), rv))
  (if ¬ (n.Loops.length : Int) < 0 then
  (r0List (wr ((gshl 1 (n.Loops.length : Int)) - 1)) (n.Loops.length : Int)).bind fun rv_1 =>
  loopU (remontoirref06_Wrong_b1 n) (rv_1, 0)
  else none)
theorem remontoirref06_Wrong_ok {w0 : World} {D0 : Stab} (hD : D0.on w0) (n : LineNet) {p : Option Addr} {c : Nat} {p_1 : Option Addr} {c_1 : Nat} (hs : SRc C_LineLine D0 n.Lines p c) (hs_1 : SRc C_LineLoop D0 n.Loops p_1 c_1) (hG : Glob D0) (out : ((List Int) × Int)) (h : remontoirref06_Wrong n = some out) : Calls Tryd.prog 33 [.agg #[.int .i64 n.Exchanges, .slice p n.Lines.length c, .int .i64 n.Hops, .slice p_1 n.Loops.length c_1]].toArray w0 (RetS D0 w0 fun D v => ∃ p_5 c_5, v = .tuple #[.slice p_5 out.1.length c_5, .int .i64 out.2] ∧ SRc C_int D out.1 p_5 c_5) := by
 refine enter _ 59 Tryd.func33 rfl Tryd.ntmps33 rfl fun a hF => ?_
 replace hF : Frm 59 [] [(0, .agg #[.int .i64 n.Exchanges, .slice p n.Lines.length c, .int .i64 n.Hops, .slice p_1 n.Loops.length c_1])] a := hF
 have hS := St.start hD
 unfold remontoirref06_Wrong at h
 refine seq (region (O.box (cs := [.int .i64 n.Exchanges, .slice p n.Lines.length c, .int .i64 n.Hops, .slice p_1 n.Loops.length c_1]) 1 hF rfl rfl hS rfl fun b a w hF hS => step hF (Y.assign hF rfl) rfl fun a hF => step hF (Y.assign hF rfl) rfl fun a hF => nil (then_n (seq (seq (region (step hF (Y.loadNL 1 sz_25 hF rfl hS rfl rfl rfl) rfl fun a hF => ?_)))))))
 obtain ⟨rv, hx, h⟩ := bind_some h
 refine O.callP (us := [.agg #[.int .i64 n.Exchanges, .slice p n.Lines.length c, .int .i64 n.Hops, .slice p_1 n.Loops.length c_1]]) ca_19 hF hS (remontoirref06_Check_ok hS.stab n hs hs_1 rv hx) rfl rfl fun a w hF hS => step hF (Y.assign hF rfl) rfl fun a hF => nil (then_n (seq (region (step hF (Y.move hF rfl) rfl fun a hF => step hF (Y.neq hF rfl rfl) rfl fun a hF => nil (then_n (cond_b hF rfl (fun hbv => ?_) (fun hbv => ?_)))))))
 ·replace h := cond_t h hbv
  refine seq (region (step hF (Y.move hF rfl) rfl fun a hF => step hF (Y.assign hF rfl) rfl fun a hF => step hF (Y.assign hF rfl) rfl fun a hF => nil (then_n (ret_ (then_r ?_)))))
  obtain rfl := some_inj h
  exact leaveS Tryd.results33 hF hS (.cons (.tmp rfl) (.cons (.tmp rfl) .nil)) .nil ⟨_, _, rfl, SRc.nil⟩
 replace h := cond_f h hbv
 refine skip_ (then_n (seq ?_))
 obtain ⟨hg, h⟩ := ite_some h
 refine drawsV 8 (.flt 0 (.flt 1 (.flt 2 (.flt 3 (.flt 4 (.flt 5 (.flt 6 (.flt 7 .done)))))))) mixed_ (by kernel_rfl) (fun w => St w0 D0 D0 [(1, .cells b [.int .i64 n.Exchanges, .slice p n.Lines.length c, .int .i64 n.Hops, .slice p_1 n.Loops.length c_1] 25)] w) (fun a w => Frm 59 [] [(1, .pointer (some ⟨b, 0, none⟩)), (2, .slice none 0 0), (3, .int .i64 0), (17, .int .i64 (wr ((gshl 1 (n.Loops.length : Int)) - 1))), (20, .int .i64 (n.Loops.length : Int))] a ∧ St w0 D0 D0 [(1, .cells b [.int .i64 n.Exchanges, .slice p n.Lines.length c, .int .i64 n.Hops, .slice p_1 n.Loops.length c_1] 25)] w) (hS.weak (ms := [(1, .cells b [.int .i64 n.Exchanges, .slice p n.Lines.length c, .int .i64 n.Hops, .slice p_1 n.Loops.length c_1] 25)]) ⟨rfl, trivial⟩).drew (fun _ _ _ _ h => h) ?_ ?_
 ·replace hS := hS.drew
  have hle0 := hS.le
  refine stepV (i := 0) rfl hF (fun w hS => Y.fieldAddr fo_25_3 hF rfl) rfl fun a hF => stepV (i := 1) rfl hF (fun w hS => Y.load1L 1 sz_23 hF rfl hS rfl rfl) rfl fun a hF => stepV (i := 2) rfl hF (fun w hS => Y.lenSl u_23 hF rfl) rfl fun a hF => stepV (i := 3) rfl hF (fun w hS => Y.shl hF rfl rfl hg) rfl fun a hF => stepV (i := 4) rfl hF (fun w hS => Y.sub hF rfl rfl) rfl fun a hF => stepV (i := 5) rfl hF (fun w hS => Y.fieldAddr fo_25_3 hF rfl) rfl fun a hF => stepV (i := 6) rfl hF (fun w hS => Y.load1L 1 sz_23 hF rfl hS rfl rfl) rfl fun a hF => stepV (i := 7) rfl hF (fun w hS => Y.lenSl u_23 hF rfl) rfl fun a hF => toTailV ⟨hF.weak ⟨rfl, rfl, rfl, rfl, rfl, trivial⟩, hS.weak ⟨rfl, trivial⟩⟩
 rintro a w ⟨hF, hS⟩
 obtain ⟨rv_1, hx_1, h⟩ := bind_some h
 refine O.callS (us := [.int .i64 (wr ((gshl 1 (n.Loops.length : Int)) - 1)), .int .i64 (n.Loops.length : Int)]) ca_54 hF hS (r0List_ok hS.stab (wr ((gshl 1 (n.Loops.length : Int)) - 1)) (n.Loops.length : Int) rv_1 hx_1) rfl rfl fun v Dv a w hR hlev hF hS => ?_
 replace hs := hs.mono hlev
 replace hs_1 := hs_1.mono hlev
 replace hG := hG.mono hlev
 obtain ⟨p_2, c_2, rfl, hs_2⟩ := hR
 refine step hF (Y.assign hF rfl) rfl fun a hF => nil (then_n (seq (seq (region (step hF (Y.assign hF rfl) rfl fun a hF => nil (then_n (block (loop_cut (body := remontoirref06_Wrong_b1 n) (out := out) (fun s a w => ∃ (best : (List Int)) (set : Int), ∃ (Dv_1 : Stab), ∃ p_3 c_3, s = (best, set) ∧ Dv.le Dv_1 ∧ Frm 59 [] [(1, .pointer (some ⟨b, 0, none⟩)), (2, .slice none 0 0), (3, .int .i64 0), (5, .slice p_3 best.length c_3), (6, .int .i64 set)] a ∧ St w0 D0 Dv_1 [(1, .cells b [.int .i64 n.Exchanges, .slice p n.Lines.length c, .int .i64 n.Hops, .slice p_1 n.Loops.length c_1] 25)] w ∧ SRc C_int Dv_1 best p_3 c_3) (rv_1, 0) h ⟨rv_1, 0, Dv, p_2, c_2, rfl, Stab.le.refl _, hF.weak ⟨rfl, rfl, rfl, rfl, rfl, trivial⟩, hS.weak ⟨rfl, trivial⟩, hs_2⟩ ?_))))))))
 rintro s a w xo ⟨best, set, Dv_1, p_3, c_3, rfl, hlev_1, hF, hS, hs_3⟩ h hxo
 unfold remontoirref06_Wrong_b1 at h
 dsimp only at h
 replace hs := hs.mono hlev_1
 replace hs_1 := hs_1.mono hlev_1
 replace hG := hG.mono hlev_1
 refine seq (seq (region (step hF (Y.move hF rfl) rfl fun a hF => step hF (Y.fieldAddr fo_25_3 hF rfl) rfl fun a hF => step hF (Y.load1L 1 sz_23 hF rfl hS rfl rfl) rfl fun a hF => step hF (Y.lenSl u_23 hF rfl) rfl fun a hF => ?_)))
 obtain ⟨hg_1, h⟩ := ite_some h
 refine step hF (Y.shl hF rfl rfl hg_1) rfl fun a hF => step hF (Y.lss hF rfl rfl) rfl fun a hF => nil (then_n (cond_b hF rfl (fun hbv_1 => ?_) (fun hbv_1 => ?_)))
 ·replace h := cond_t h hbv_1
  refine skip_ (then_n (seq (block (seq (region (step hF (Y.move hF rfl) rfl fun a hF => step hF (Y.fieldAddr fo_25_3 hF rfl) rfl fun a hF => step hF (Y.load1L 1 sz_23 hF rfl hS rfl rfl) rfl fun a hF => step hF (Y.lenSl u_23 hF rfl) rfl fun a hF => ?_))))))
  obtain ⟨rv_2, hx_2, h⟩ := bind_some h
  refine O.callS (us := [.int .i64 set, .int .i64 (n.Loops.length : Int)]) ca_54 hF hS (r0List_ok hS.stab set (n.Loops.length : Int) rv_2 hx_2) rfl rfl fun v_1 Dv_2 a w hR_1 hlev_2 hF hS => ?_
  replace hs := hs.mono hlev_2
  replace hs_1 := hs_1.mono hlev_2
  replace hG := hG.mono hlev_2
  replace hs_3 := hs_3.mono hlev_2
  obtain ⟨p_4, c_4, rfl, hs_4⟩ := hR_1
  refine step hF (Y.assign hF rfl) rfl fun a hF => nil (then_n (seq (region (step hF (Y.move hF rfl) rfl fun a hF => step hF (Y.lenSl u_32 hF rfl) rfl fun a hF => step hF (Y.move hF rfl) rfl fun a hF => step hF (Y.lenSl u_32 hF rfl) rfl fun a hF => step hF (Y.lss hF rfl rfl) rfl fun a hF => step hF (Y.move hF rfl) rfl fun a hF => ?_))))
  obtain ⟨t_1, ht_1, h⟩ := bind_some h
  refine join (N := 59) (rs := []) (w0 := w0) (D0 := D0) 11 (us := [(1, .pointer (some ⟨b, 0, none⟩)), (2, .slice none 0 0), (3, .int .i64 0), (5, .slice p_3 best.length c_3), (6, .int .i64 set), (7, .slice p_4 rv_2.length c_4), (51, .bool t_1)]) (ms := [(1, .cells b [.int .i64 n.Exchanges, .slice p n.Lines.length c, .int .i64 n.Hops, .slice p_1 n.Loops.length c_1] 25)]) (D' := Dv_2) ?_ ?_
  ·rcases bcases (decide ((rv_2.length : Int) < (best.length : Int))) with hbv_2 | hbv_2
   ·skip
    replace h := cond_t ht_1 hbv_2
    refine guard_off hF rfl rfl hbv_2 rfl fun a hF => guard_off hF rfl rfl hbv_2 rfl fun a hF => guard_off hF rfl rfl hbv_2 rfl fun a hF => guard_off hF rfl rfl hbv_2 rfl fun a hF => guard_off hF rfl rfl hbv_2 rfl fun a hF => guard_off hF rfl rfl hbv_2 rfl fun a hF => guard_offu hF rfl rfl rfl fun a hF => guard_offu hF rfl rfl rfl fun a hF => guard_offu hF rfl rfl rfl fun a hF => guard_off hF rfl rfl hbv_2 rfl fun a hF => step hF (Y.pick_t hF rfl hbv_2 rfl) rfl fun a hF => ?_
    obtain rfl := some_inj h
    exact nil (then_n ⟨hF.weak ⟨rfl, rfl, rfl, rfl, rfl, rfl, rfl, trivial⟩, hS.weak ⟨rfl, trivial⟩⟩)
   replace h := cond_f ht_1 hbv_2
   refine guard_on hF rfl rfl hbv_2 (step hF (Y.move hF rfl) rfl fun a hF => guard_on hF rfl rfl hbv_2 (step hF (Y.lenSl u_32 hF rfl) rfl fun a hF => guard_on hF rfl rfl hbv_2 (step hF (Y.move hF rfl) rfl fun a hF => guard_on hF rfl rfl hbv_2 (step hF (Y.lenSl u_32 hF rfl) rfl fun a hF => guard_on hF rfl rfl hbv_2 (step hF (Y.eql hF rfl rfl) rfl fun a hF => guard_on hF rfl rfl hbv_2 (step hF (Y.move hF rfl) rfl fun a hF => ?_))))))
   obtain ⟨t, ht, h⟩ := bind_some h
   refine join (N := 59) (rs := []) (w0 := w0) (D0 := D0) 4 (us := [(1, .pointer (some ⟨b, 0, none⟩)), (2, .slice none 0 0), (3, .int .i64 0), (5, .slice p_3 best.length c_3), (6, .int .i64 set), (7, .slice p_4 rv_2.length c_4), (40, .bool (decide ((rv_2.length : Int) < (best.length : Int)))), (50, .bool t)]) (ms := [(1, .cells b [.int .i64 n.Exchanges, .slice p n.Lines.length c, .int .i64 n.Hops, .slice p_1 n.Loops.length c_1] 25)]) (D' := Dv_2) ?_ ?_
   ·rcases bcases ((rv_2.length : Int) == (best.length : Int)) with hbv_3 | hbv_3
    ·skip
     replace h := cond_t ht hbv_3
     refine guard_on hF rfl rfl hbv_3 (step hF (Y.move hF rfl) rfl fun a hF => guard_on hF rfl rfl hbv_3 (step hF (Y.move hF rfl) rfl fun a hF => guard_on hF rfl rfl hbv_3 ?_))
     obtain ⟨rv_3, hx_3, h⟩ := bind_some h
     refine O.callP (us := [.slice p_4 rv_2.length c_4, .slice p_3 best.length c_3]) ca_43 hF hS (r0Ahead_ok hS.stab rv_2 best hs_4 hs_3 rv_3 hx_3) rfl rfl fun a w hF hS => guard_on hF rfl rfl hbv_2 (step hF (Y.pick_t hF rfl hbv_3 rfl) rfl fun a hF => ?_)
     obtain rfl := some_inj h
     exact nil (then_n ⟨hF.weak ⟨rfl, rfl, rfl, rfl, rfl, rfl, rfl, rfl, trivial⟩, hS.weak ⟨rfl, trivial⟩⟩)
    replace h := cond_f ht hbv_3
    refine guard_off hF rfl rfl hbv_3 rfl fun a hF => guard_off hF rfl rfl hbv_3 rfl fun a hF => guard_off hF rfl rfl hbv_3 rfl fun a hF => guard_on hF rfl rfl hbv_2 (step hF (Y.pick_f hF rfl hbv_3 rfl) rfl fun a hF => ?_)
    obtain rfl := some_inj h
    exact nil (then_n ⟨hF.weak ⟨rfl, rfl, rfl, rfl, rfl, rfl, rfl, rfl, trivial⟩, hS.weak ⟨rfl, trivial⟩⟩)
   intro a w hF hS
   refine step hF (Y.pick_f hF rfl hbv_2 rfl) rfl fun a hF => ?_
   obtain rfl := some_inj h
   exact nil (then_n ⟨hF.weak ⟨rfl, rfl, rfl, rfl, rfl, rfl, rfl, trivial⟩, hS.weak ⟨rfl, trivial⟩⟩)
  intro a w hF hS
  refine step hF (Y.move hF rfl) rfl fun a hF => ?_
  obtain ⟨t_2, ht_2, h⟩ := bind_some h
  refine join (N := 59) (rs := []) (w0 := w0) (D0 := D0) 4 (us := [(1, .pointer (some ⟨b, 0, none⟩)), (2, .slice none 0 0), (3, .int .i64 0), (5, .slice p_3 best.length c_3), (6, .int .i64 set), (7, .slice p_4 rv_2.length c_4), (56, .bool t_2)]) (ms := [(1, .cells b [.int .i64 n.Exchanges, .slice p n.Lines.length c, .int .i64 n.Hops, .slice p_1 n.Loops.length c_1] 25)]) (D' := Dv_2) ?_ ?_
  ·rcases bcases t_1 with hbv_4 | hbv_4
   ·skip
    replace h := cond_t ht_2 hbv_4
    refine guard_on hF rfl rfl hbv_4 (step hF (Y.loadNL 1 sz_25 hF rfl hS rfl rfl rfl) rfl fun a hF => guard_on hF rfl rfl hbv_4 (step hF (Y.move hF rfl) rfl fun a hF => guard_on hF rfl rfl hbv_4 ?_))
    obtain ⟨rv_4, hx_4, h⟩ := bind_some h
    refine O.callP (us := [.agg #[.int .i64 n.Exchanges, .slice p n.Lines.length c, .int .i64 n.Hops, .slice p_1 n.Loops.length c_1], .int .i64 set]) ca_77 hF hS (remontoirref06_can_ok hS.stab n set hs hs_1 hG rv_4 hx_4) rfl rfl fun a w hF hS => step hF (Y.pick_t hF rfl hbv_4 rfl) rfl fun a hF => ?_
    obtain rfl := some_inj h
    exact nil (then_n ⟨hF.weak ⟨rfl, rfl, rfl, rfl, rfl, rfl, rfl, trivial⟩, hS.weak ⟨rfl, trivial⟩⟩)
   replace h := cond_f ht_2 hbv_4
   refine guard_off hF rfl rfl hbv_4 rfl fun a hF => guard_off hF rfl rfl hbv_4 rfl fun a hF => guard_off hF rfl rfl hbv_4 rfl fun a hF => step hF (Y.pick_f hF rfl hbv_4 rfl) rfl fun a hF => ?_
   obtain rfl := some_inj h
   exact nil (then_n ⟨hF.weak ⟨rfl, rfl, rfl, rfl, rfl, rfl, rfl, trivial⟩, hS.weak ⟨rfl, trivial⟩⟩)
  intro a w hF hS
  refine nil (then_n (cond_b hF rfl (fun hbv_5 => ?_) (fun hbv_5 => ?_)))
  ·replace h := cond_t h hbv_5
   refine region (step hF (Y.move hF rfl) rfl fun a hF => step hF (Y.assign hF rfl) rfl fun a hF => nil (blk_n (then_n (region (step hF (Y.move hF rfl) rfl fun a hF => step hF (Y.add hF rfl rfl) rfl fun a hF => step hF (Y.assign hF rfl) rfl fun a hF => nil (then_n (⟨_, nxt_some h, rv_2, (wr (set + 1)), Dv_2, p_4, c_4, rfl, hlev_1.trans hlev_2, hF.weak ⟨rfl, rfl, rfl, rfl, rfl, trivial⟩, hS.weak ⟨rfl, trivial⟩, hs_4⟩)))))))
  replace h := cond_f h hbv_5
  refine skip_ (blk_n (then_n (region (step hF (Y.move hF rfl) rfl fun a hF => step hF (Y.add hF rfl rfl) rfl fun a hF => step hF (Y.assign hF rfl) rfl fun a hF => nil (then_n (⟨_, nxt_some h, best, (wr (set + 1)), Dv_2, p_3, c_3, rfl, hlev_1.trans hlev_2, hF.weak ⟨rfl, rfl, rfl, rfl, rfl, trivial⟩, hS.weak ⟨rfl, trivial⟩, hs_3⟩))))))
 replace h := cond_f h hbv_1
 refine exit_ (then_x (then_x (blk_hit (then_n ?_))))
 replace h := ext_some h hxo
 refine seq (region (step hF (Y.move hF rfl) rfl fun a hF => step hF (Y.assign hF rfl) rfl fun a hF => step hF (Y.assign hF rfl) rfl fun a hF => nil (then_n (ret_ ?_))))
 obtain rfl := some_inj h
 exact leaveS Tryd.results33 hF hS (.cons (.tmp rfl) (.cons (.tmp rfl) .nil)) .nil ⟨_, _, rfl, hs_3⟩
noncomputable def cmp_isNaN_int_ (xv : Int) : Option Bool :=
  some (xv != xv)
theorem cmp_isNaN_int__ok {w0 : World} {D0 : Stab} (hD : D0.on w0) (xv : Int) (out : Bool) (h : cmp_isNaN_int_ xv = some out) : Calls Tryd.prog 91 [.int .i64 xv].toArray w0 (RetP D0 w0 (.bool out)) := by
 refine enter _ 6 Tryd.func91 rfl Tryd.ntmps91 rfl fun a hF => ?_
 replace hF : Frm 6 [] [(0, .int .i64 xv)] a := hF
 have hS := St.start hD
 unfold cmp_isNaN_int_ at h
 refine seq (region (step hF (Y.assign hF rfl) rfl fun a hF => nil (then_n (seq (region (step hF (Y.move hF rfl) rfl fun a hF => step hF (Y.move hF rfl) rfl fun a hF => step hF (Y.neq hF rfl rfl) rfl fun a hF => step hF (Y.assign hF rfl) rfl fun a hF => nil (then_n (ret_ ?_))))))))
 obtain rfl := some_inj h
 exact leaveP Tryd.results91 hF hS (.cons (.tmp rfl) .nil) .nil rfl
theorem cmp_isNaN_int__q {w0 : World} {D0 : Stab} (hD : D0.on w0) (xv : Int) (out : Bool) (h : cmp_isNaN_int_ xv = some out) : Calls Tryd.prog 91 [.int .i64 xv].toArray w0 (RetQ w0 (.bool out)) := by
 refine enter _ 6 Tryd.func91 rfl Tryd.ntmps91 rfl fun a hF => ?_
 replace hF : Frm 6 [] [(0, .int .i64 xv)] a := hF
 have hS := St.start hD
 unfold cmp_isNaN_int_ at h
 refine seq (region (step hF (Y.assign hF rfl) rfl fun a hF => nil (then_n (seq (region (step hF (Y.move hF rfl) rfl fun a hF => step hF (Y.move hF rfl) rfl fun a hF => step hF (Y.neq hF rfl rfl) rfl fun a hF => step hF (Y.assign hF rfl) rfl fun a hF => nil (then_n (ret_ ?_))))))))
 obtain rfl := some_inj h
 exact leaveQ Tryd.results91 hF hS (.cons (.tmp rfl) .nil) rfl
noncomputable def cmp_Compare_int_ (xv : Int) (y : Int) : Option Int :=
  (cmp_isNaN_int_ xv).bind fun rv =>
  (cmp_isNaN_int_ y).bind fun rv_1 =>
  cond rv
  (cond rv_1
  (some 0)
  (some (-1)))
  (cond rv_1
  (some 1)
  (cond (decide (xv < y))
  (some (-1))
  (cond (decide (xv > y))
  (some 1)
  (some 0))))
theorem cmp_Compare_int__ok {w0 : World} {D0 : Stab} (hD : D0.on w0) (xv : Int) (y : Int) (out : Int) (h : cmp_Compare_int_ xv y = some out) : Calls Tryd.prog 74 [.int .i64 xv, .int .i64 y].toArray w0 (RetP D0 w0 (.int .i64 out)) := by
 refine enter _ 20 Tryd.func74 rfl Tryd.ntmps74 rfl fun a hF => ?_
 replace hF : Frm 20 [] [(0, .int .i64 xv), (1, .int .i64 y)] a := hF
 have hS := St.start hD
 unfold cmp_Compare_int_ at h
 refine seq (region (step hF (Y.assign hF rfl) rfl fun a hF => nil (then_n (seq (region (step hF (Y.move hF rfl) rfl fun a hF => ?_))))))
 obtain ⟨rv, hx, h⟩ := bind_some h
 refine O.callP (us := [.int .i64 xv]) ca_91 hF hS (cmp_isNaN_int__ok hS.stab xv rv hx) rfl rfl fun a w hF hS => step hF (Y.assign hF rfl) rfl fun a hF => nil (then_n (seq (region (step hF (Y.move hF rfl) rfl fun a hF => ?_))))
 obtain ⟨rv_1, hx_1, h⟩ := bind_some h
 refine O.callP (us := [.int .i64 y]) ca_91 hF hS (cmp_isNaN_int__ok hS.stab y rv_1 hx_1) rfl rfl fun a w hF hS => step hF (Y.assign hF rfl) rfl fun a hF => nil (then_n (seq (seq (region (step hF (Y.move hF rfl) rfl fun a hF => nil (then_n (cond_b hF rfl (fun hbv => ?_) (fun hbv => ?_))))))))
 ·replace h := cond_t h hbv
  refine seq (seq (region (step hF (Y.move hF rfl) rfl fun a hF => nil (then_n (cond_b hF rfl (fun hbv_1 => ?_) (fun hbv_1 => ?_))))))
  ·replace h := cond_t h hbv_1
   refine seq (region (step hF (Y.assign hF rfl) rfl fun a hF => nil (then_n (ret_ (then_r (then_r ?_))))))
   obtain rfl := some_inj h
   exact leaveP Tryd.results74 hF hS (.cons (.tmp rfl) .nil) .nil rfl
  replace h := cond_f h hbv_1
  refine skip_ (then_n (seq (region (step hF (Y.assign hF rfl) rfl fun a hF => nil (then_n (ret_ (then_r ?_)))))))
  obtain rfl := some_inj h
  exact leaveP Tryd.results74 hF hS (.cons (.tmp rfl) .nil) .nil rfl
 replace h := cond_f h hbv
 refine skip_ (then_n (seq (seq (region (step hF (Y.move hF rfl) rfl fun a hF => nil (then_n (cond_b hF rfl (fun hbv_2 => ?_) (fun hbv_2 => ?_))))))))
 ·replace h := cond_t h hbv_2
  refine seq (region (step hF (Y.assign hF rfl) rfl fun a hF => nil (then_n (ret_ (then_r ?_)))))
  obtain rfl := some_inj h
  exact leaveP Tryd.results74 hF hS (.cons (.tmp rfl) .nil) .nil rfl
 replace h := cond_f h hbv_2
 refine skip_ (then_n (seq (seq (region (step hF (Y.move hF rfl) rfl fun a hF => step hF (Y.move hF rfl) rfl fun a hF => step hF (Y.lss hF rfl rfl) rfl fun a hF => nil (then_n (cond_b hF rfl (fun hbv_3 => ?_) (fun hbv_3 => ?_))))))))
 ·replace h := cond_t h hbv_3
  refine seq (region (step hF (Y.assign hF rfl) rfl fun a hF => nil (then_n (ret_ (then_r ?_)))))
  obtain rfl := some_inj h
  exact leaveP Tryd.results74 hF hS (.cons (.tmp rfl) .nil) .nil rfl
 replace h := cond_f h hbv_3
 refine skip_ (then_n (seq (seq (region (step hF (Y.move hF rfl) rfl fun a hF => step hF (Y.move hF rfl) rfl fun a hF => step hF (Y.gtr hF rfl rfl) rfl fun a hF => nil (then_n (cond_b hF rfl (fun hbv_4 => ?_) (fun hbv_4 => ?_))))))))
 ·replace h := cond_t h hbv_4
  refine seq (region (step hF (Y.assign hF rfl) rfl fun a hF => nil (then_n (ret_ (then_r ?_)))))
  obtain rfl := some_inj h
  exact leaveP Tryd.results74 hF hS (.cons (.tmp rfl) .nil) .nil rfl
 replace h := cond_f h hbv_4
 refine skip_ (then_n (seq (region (step hF (Y.assign hF rfl) rfl fun a hF => nil (then_n (ret_ ?_))))))
 obtain rfl := some_inj h
 exact leaveP Tryd.results74 hF hS (.cons (.tmp rfl) .nil) .nil rfl
theorem cmp_Compare_int__q {w0 : World} {D0 : Stab} (hD : D0.on w0) (xv : Int) (y : Int) (out : Int) (h : cmp_Compare_int_ xv y = some out) : Calls Tryd.prog 74 [.int .i64 xv, .int .i64 y].toArray w0 (RetQ w0 (.int .i64 out)) := by
 refine enter _ 20 Tryd.func74 rfl Tryd.ntmps74 rfl fun a hF => ?_
 replace hF : Frm 20 [] [(0, .int .i64 xv), (1, .int .i64 y)] a := hF
 have hS := St.start hD
 unfold cmp_Compare_int_ at h
 refine seq (region (step hF (Y.assign hF rfl) rfl fun a hF => nil (then_n (seq (region (step hF (Y.move hF rfl) rfl fun a hF => ?_))))))
 obtain ⟨rv, hx, h⟩ := bind_some h
 refine O.callQ (us := [.int .i64 xv]) ca_91 hF (cmp_isNaN_int__q hS.stab xv rv hx) rfl rfl fun a hF => step hF (Y.assign hF rfl) rfl fun a hF => nil (then_n (seq (region (step hF (Y.move hF rfl) rfl fun a hF => ?_))))
 obtain ⟨rv_1, hx_1, h⟩ := bind_some h
 refine O.callQ (us := [.int .i64 y]) ca_91 hF (cmp_isNaN_int__q hS.stab y rv_1 hx_1) rfl rfl fun a hF => step hF (Y.assign hF rfl) rfl fun a hF => nil (then_n (seq (seq (region (step hF (Y.move hF rfl) rfl fun a hF => nil (then_n (cond_b hF rfl (fun hbv => ?_) (fun hbv => ?_))))))))
 ·replace h := cond_t h hbv
  refine seq (seq (region (step hF (Y.move hF rfl) rfl fun a hF => nil (then_n (cond_b hF rfl (fun hbv_1 => ?_) (fun hbv_1 => ?_))))))
  ·replace h := cond_t h hbv_1
   refine seq (region (step hF (Y.assign hF rfl) rfl fun a hF => nil (then_n (ret_ (then_r (then_r ?_))))))
   obtain rfl := some_inj h
   exact leaveQ Tryd.results74 hF hS (.cons (.tmp rfl) .nil) rfl
  replace h := cond_f h hbv_1
  refine skip_ (then_n (seq (region (step hF (Y.assign hF rfl) rfl fun a hF => nil (then_n (ret_ (then_r ?_)))))))
  obtain rfl := some_inj h
  exact leaveQ Tryd.results74 hF hS (.cons (.tmp rfl) .nil) rfl
 replace h := cond_f h hbv
 refine skip_ (then_n (seq (seq (region (step hF (Y.move hF rfl) rfl fun a hF => nil (then_n (cond_b hF rfl (fun hbv_2 => ?_) (fun hbv_2 => ?_))))))))
 ·replace h := cond_t h hbv_2
  refine seq (region (step hF (Y.assign hF rfl) rfl fun a hF => nil (then_n (ret_ (then_r ?_)))))
  obtain rfl := some_inj h
  exact leaveQ Tryd.results74 hF hS (.cons (.tmp rfl) .nil) rfl
 replace h := cond_f h hbv_2
 refine skip_ (then_n (seq (seq (region (step hF (Y.move hF rfl) rfl fun a hF => step hF (Y.move hF rfl) rfl fun a hF => step hF (Y.lss hF rfl rfl) rfl fun a hF => nil (then_n (cond_b hF rfl (fun hbv_3 => ?_) (fun hbv_3 => ?_))))))))
 ·replace h := cond_t h hbv_3
  refine seq (region (step hF (Y.assign hF rfl) rfl fun a hF => nil (then_n (ret_ (then_r ?_)))))
  obtain rfl := some_inj h
  exact leaveQ Tryd.results74 hF hS (.cons (.tmp rfl) .nil) rfl
 replace h := cond_f h hbv_3
 refine skip_ (then_n (seq (seq (region (step hF (Y.move hF rfl) rfl fun a hF => step hF (Y.move hF rfl) rfl fun a hF => step hF (Y.gtr hF rfl rfl) rfl fun a hF => nil (then_n (cond_b hF rfl (fun hbv_4 => ?_) (fun hbv_4 => ?_))))))))
 ·replace h := cond_t h hbv_4
  refine seq (region (step hF (Y.assign hF rfl) rfl fun a hF => nil (then_n (ret_ (then_r ?_)))))
  obtain rfl := some_inj h
  exact leaveQ Tryd.results74 hF hS (.cons (.tmp rfl) .nil) rfl
 replace h := cond_f h hbv_4
 refine skip_ (then_n (seq (region (step hF (Y.assign hF rfl) rfl fun a hF => nil (then_n (ret_ ?_))))))
 obtain rfl := some_inj h
 exact leaveQ Tryd.results74 hF hS (.cons (.tmp rfl) .nil) rfl
noncomputable def slices_Compare___int_int__b1 (s1_0 : (List Int)) (s2_0 : (List Int)) : (Int × Int) → Option ((Int × Int) ⊕ Int)
 | (v4_0, v11_0) =>
  cond (decide (v11_0 < (s1_0.length : Int)))
  ((idx s1_0 v11_0).bind fun e =>
  cond (decide (v11_0 ≥ (s2_0.length : Int)))
  (ext (some 1))
  ((idx s2_0 v11_0).bind fun e_1 =>
  (cmp_Compare_int_ e e_1).bind fun rv =>
  cond (rv != 0)
  (ext (some rv))
  (nxt (v4_0, wr (v11_0 + 1)))))
  (ext (cond (decide ((s1_0.length : Int) < (s2_0.length : Int)))
  (some (-1))
  (some 0)))
noncomputable def slices_Compare___int_int_ (s1_0 : (List Int)) (s2_0 : (List Int)) : Option Int :=
  loopU (slices_Compare___int_int__b1 s1_0 s2_0) (0, 0)
theorem slices_Compare___int_int__ok {w0 : World} {D0 : Stab} (hD : D0.on w0) (s1_0 : (List Int)) (s2_0 : (List Int)) {p : Option Addr} {c : Nat} {p_1 : Option Addr} {c_1 : Nat} (hs : SRc C_int D0 s1_0 p c) (hs_1 : SRc C_int D0 s2_0 p_1 c_1) (out : Int) (h : slices_Compare___int_int_ s1_0 s2_0 = some out) : Calls Tryd.prog 75 [.slice p s1_0.length c, .slice p_1 s2_0.length c_1].toArray w0 (RetP D0 w0 (.int .i64 out)) := by
 refine enter _ 36 Tryd.func75 rfl Tryd.ntmps75 rfl fun a hF => ?_
 replace hF : Frm 36 [] [(0, .slice p s1_0.length c), (1, .slice p_1 s2_0.length c_1)] a := hF
 have hS := St.start hD
 unfold slices_Compare___int_int_ at h
 refine seq (region (step hF (Y.assign hF rfl) rfl fun a hF => nil (then_n (seq (seq (region (step hF (Y.move hF rfl) rfl fun a hF => step hF (Y.lenSl u_32 hF rfl) rfl fun a hF => step hF (Y.move hF rfl) rfl fun a hF => nil (then_n (block (loop_cut (body := slices_Compare___int_int__b1 s1_0 s2_0) (out := out) (fun s a w => ∃ (v4_0 : Int) (v11_0 : Int), s = (v4_0, v11_0) ∧ Frm 36 [] [(0, .slice p s1_0.length c), (1, .slice p_1 s2_0.length c_1), (4, .int .i64 v4_0), (9, .slice p s1_0.length c), (10, .int .i64 (s1_0.length : Int)), (11, .int .i64 v11_0)] a ∧ St w0 D0 D0 [] w) (0, 0) h ⟨0, 0, rfl, hF.weak ⟨rfl, rfl, rfl, rfl, rfl, rfl, trivial⟩, hS.weak trivial⟩ ?_))))))))))
 rintro s a w xo ⟨v4_0, v11_0, rfl, hF, hS⟩ h hxo
 unfold slices_Compare___int_int__b1 at h
 dsimp only at h
 refine seq (region (step hF (Y.lss hF rfl rfl) rfl fun a hF => nil (then_n (seq (cond_b hF rfl (fun hbv => ?_) (fun hbv => ?_))))))
 ·replace h := cond_t h hbv
  refine skip_ (then_n (seq (block (seq (region (step hF (Y.move hF rfl) rfl fun a hF => ?_))))))
  obtain ⟨e, hx, h⟩ := bind_some h
  obtain ⟨b, o, hE, hY⟩ := Y.indexS (P := Tryd.prog) (C := C_int) (xs := s1_0) (T := 32) (x := (.tmp 9)) (y := (.tmp 11)) u_32 sz_3 hF rfl rfl (hs).1 hx
  obtain ⟨cc, hc, hcell⟩ := hE.open
  obtain rfl := hc
  refine step hF (hY) rfl fun a hF => step hF (Y.load1 sz_3 hF rfl (hcell _ hS.stab 0 _ rfl)) rfl fun a hF => step hF (Y.assign hF rfl) rfl fun a hF => step hF (Y.assign hF rfl) rfl fun a hF => nil (then_n (seq (seq (region (step hF (Y.move hF rfl) rfl fun a hF => step hF (Y.move hF rfl) rfl fun a hF => step hF (Y.lenSl u_32 hF rfl) rfl fun a hF => step hF (Y.geq hF rfl rfl) rfl fun a hF => nil (then_n (cond_b hF rfl (fun hbv_1 => ?_) (fun hbv_1 => ?_))))))))
  ·replace h := cond_t h hbv_1
   refine seq (region (step hF (Y.assign hF rfl) rfl fun a hF => nil (then_n (ret_ (then_r (blk_r (then_r (then_r (blk_r (then_r ?_))))))))))
   replace h := ext_some h hxo
   obtain rfl := some_inj h
   exact leaveP Tryd.results75 hF hS (.cons (.tmp rfl) .nil) .nil rfl
  replace h := cond_f h hbv_1
  refine skip_ (then_n (seq (region (step hF (Y.move hF rfl) rfl fun a hF => step hF (Y.move hF rfl) rfl fun a hF => ?_))))
  obtain ⟨e_1, hx_1, h⟩ := bind_some h
  obtain ⟨b_1, o_1, hE_1, hY_1⟩ := Y.indexS (P := Tryd.prog) (C := C_int) (xs := s2_0) (T := 32) (x := (.tmp 20)) (y := (.tmp 21)) u_32 sz_3 hF rfl rfl (hs_1).1 hx_1
  obtain ⟨cc_1, hc_1, hcell_1⟩ := hE_1.open
  obtain rfl := hc_1
  refine step hF (hY_1) rfl fun a hF => step hF (Y.load1 sz_3 hF rfl (hcell_1 _ hS.stab 0 _ rfl)) rfl fun a hF => step hF (Y.assign hF rfl) rfl fun a hF => nil (then_n (seq (region (step hF (Y.move hF rfl) rfl fun a hF => step hF (Y.move hF rfl) rfl fun a hF => ?_))))
  obtain ⟨rv, hx_2, h⟩ := bind_some h
  refine O.callP (us := [.int .i64 e, .int .i64 e_1]) ca_74 hF hS (cmp_Compare_int__ok hS.stab e e_1 rv hx_2) rfl rfl fun a w hF hS => step hF (Y.assign hF rfl) rfl fun a hF => nil (then_n (seq (region (step hF (Y.move hF rfl) rfl fun a hF => step hF (Y.neq hF rfl rfl) rfl fun a hF => nil (then_n (cond_b hF rfl (fun hbv_2 => ?_) (fun hbv_2 => ?_)))))))
  ·replace h := cond_t h hbv_2
   refine seq (region (step hF (Y.move hF rfl) rfl fun a hF => step hF (Y.assign hF rfl) rfl fun a hF => nil (then_n (ret_ (blk_r (then_r (then_r (blk_r (then_r ?_)))))))))
   replace h := ext_some h hxo
   obtain rfl := some_inj h
   exact leaveP Tryd.results75 hF hS (.cons (.tmp rfl) .nil) .nil rfl
  replace h := cond_f h hbv_2
  refine skip_ (blk_n (then_n (region (step hF (Y.add hF rfl rfl) rfl fun a hF => step hF (Y.move hF rfl) rfl fun a hF => nil (then_n (⟨_, nxt_some h, v4_0, (wr (v11_0 + 1)), rfl, hF.weak ⟨rfl, rfl, rfl, rfl, rfl, rfl, trivial⟩, hS.weak trivial⟩))))))
 replace h := cond_f h hbv
 refine exit_ (then_x (then_x (blk_hit (then_n ?_))))
 replace h := ext_some h hxo
 refine seq (seq (region (step hF (Y.move hF rfl) rfl fun a hF => step hF (Y.lenSl u_32 hF rfl) rfl fun a hF => step hF (Y.move hF rfl) rfl fun a hF => step hF (Y.lenSl u_32 hF rfl) rfl fun a hF => step hF (Y.lss hF rfl rfl) rfl fun a hF => nil (then_n (cond_b hF rfl (fun hbv_3 => ?_) (fun hbv_3 => ?_))))))
 ·replace h := cond_t h hbv_3
  refine seq (region (step hF (Y.assign hF rfl) rfl fun a hF => nil (then_n (ret_ (then_r ?_)))))
  obtain rfl := some_inj h
  exact leaveP Tryd.results75 hF hS (.cons (.tmp rfl) .nil) .nil rfl
 replace h := cond_f h hbv_3
 refine skip_ (then_n (seq (region (step hF (Y.assign hF rfl) rfl fun a hF => nil (then_n (ret_ ?_))))))
 obtain rfl := some_inj h
 exact leaveP Tryd.results75 hF hS (.cons (.tmp rfl) .nil) .nil rfl
theorem slices_Compare___int_int__q {w0 : World} {D0 : Stab} (hD : D0.on w0) (s1_0 : (List Int)) (s2_0 : (List Int)) {p : Option Addr} {c : Nat} {p_1 : Option Addr} {c_1 : Nat} (hs : SRc C_int D0 s1_0 p c) (hs_1 : SRc C_int D0 s2_0 p_1 c_1) (out : Int) (h : slices_Compare___int_int_ s1_0 s2_0 = some out) : Calls Tryd.prog 75 [.slice p s1_0.length c, .slice p_1 s2_0.length c_1].toArray w0 (RetQ w0 (.int .i64 out)) := by
 refine enter _ 36 Tryd.func75 rfl Tryd.ntmps75 rfl fun a hF => ?_
 replace hF : Frm 36 [] [(0, .slice p s1_0.length c), (1, .slice p_1 s2_0.length c_1)] a := hF
 have hS := St.start hD
 unfold slices_Compare___int_int_ at h
 refine seq (region (step hF (Y.assign hF rfl) rfl fun a hF => nil (then_n (seq (seq (region (step hF (Y.move hF rfl) rfl fun a hF => step hF (Y.lenSl u_32 hF rfl) rfl fun a hF => step hF (Y.move hF rfl) rfl fun a hF => nil (then_n (block (loop_cut (body := slices_Compare___int_int__b1 s1_0 s2_0) (out := out) (fun s a w => ∃ (v4_0 : Int) (v11_0 : Int), s = (v4_0, v11_0) ∧ Frm 36 [] [(0, .slice p s1_0.length c), (1, .slice p_1 s2_0.length c_1), (4, .int .i64 v4_0), (9, .slice p s1_0.length c), (10, .int .i64 (s1_0.length : Int)), (11, .int .i64 v11_0)] a ∧ St w0 D0 D0 [] w ∧ w = w0) (0, 0) h ⟨0, 0, rfl, hF.weak ⟨rfl, rfl, rfl, rfl, rfl, rfl, trivial⟩, hS.weak trivial, rfl⟩ ?_))))))))))
 rintro s a w xo ⟨v4_0, v11_0, rfl, hF, hS, hw_⟩ h hxo
 subst hw_
 unfold slices_Compare___int_int__b1 at h
 dsimp only at h
 refine seq (region (step hF (Y.lss hF rfl rfl) rfl fun a hF => nil (then_n (seq (cond_b hF rfl (fun hbv => ?_) (fun hbv => ?_))))))
 ·replace h := cond_t h hbv
  refine skip_ (then_n (seq (block (seq (region (step hF (Y.move hF rfl) rfl fun a hF => ?_))))))
  obtain ⟨e, hx, h⟩ := bind_some h
  obtain ⟨b, o, hE, hY⟩ := Y.indexS (P := Tryd.prog) (C := C_int) (xs := s1_0) (T := 32) (x := (.tmp 9)) (y := (.tmp 11)) u_32 sz_3 hF rfl rfl (hs).1 hx
  obtain ⟨cc, hc, hcell⟩ := hE.open
  obtain rfl := hc
  refine step hF (hY) rfl fun a hF => step hF (Y.load1 sz_3 hF rfl (hcell _ hS.stab 0 _ rfl)) rfl fun a hF => step hF (Y.assign hF rfl) rfl fun a hF => step hF (Y.assign hF rfl) rfl fun a hF => nil (then_n (seq (seq (region (step hF (Y.move hF rfl) rfl fun a hF => step hF (Y.move hF rfl) rfl fun a hF => step hF (Y.lenSl u_32 hF rfl) rfl fun a hF => step hF (Y.geq hF rfl rfl) rfl fun a hF => nil (then_n (cond_b hF rfl (fun hbv_1 => ?_) (fun hbv_1 => ?_))))))))
  ·replace h := cond_t h hbv_1
   refine seq (region (step hF (Y.assign hF rfl) rfl fun a hF => nil (then_n (ret_ (then_r (blk_r (then_r (then_r (blk_r (then_r ?_))))))))))
   replace h := ext_some h hxo
   obtain rfl := some_inj h
   exact leaveQ Tryd.results75 hF hS (.cons (.tmp rfl) .nil) rfl
  replace h := cond_f h hbv_1
  refine skip_ (then_n (seq (region (step hF (Y.move hF rfl) rfl fun a hF => step hF (Y.move hF rfl) rfl fun a hF => ?_))))
  obtain ⟨e_1, hx_1, h⟩ := bind_some h
  obtain ⟨b_1, o_1, hE_1, hY_1⟩ := Y.indexS (P := Tryd.prog) (C := C_int) (xs := s2_0) (T := 32) (x := (.tmp 20)) (y := (.tmp 21)) u_32 sz_3 hF rfl rfl (hs_1).1 hx_1
  obtain ⟨cc_1, hc_1, hcell_1⟩ := hE_1.open
  obtain rfl := hc_1
  refine step hF (hY_1) rfl fun a hF => step hF (Y.load1 sz_3 hF rfl (hcell_1 _ hS.stab 0 _ rfl)) rfl fun a hF => step hF (Y.assign hF rfl) rfl fun a hF => nil (then_n (seq (region (step hF (Y.move hF rfl) rfl fun a hF => step hF (Y.move hF rfl) rfl fun a hF => ?_))))
  obtain ⟨rv, hx_2, h⟩ := bind_some h
  refine O.callQ (us := [.int .i64 e, .int .i64 e_1]) ca_74 hF (cmp_Compare_int__q hS.stab e e_1 rv hx_2) rfl rfl fun a hF => step hF (Y.assign hF rfl) rfl fun a hF => nil (then_n (seq (region (step hF (Y.move hF rfl) rfl fun a hF => step hF (Y.neq hF rfl rfl) rfl fun a hF => nil (then_n (cond_b hF rfl (fun hbv_2 => ?_) (fun hbv_2 => ?_)))))))
  ·replace h := cond_t h hbv_2
   refine seq (region (step hF (Y.move hF rfl) rfl fun a hF => step hF (Y.assign hF rfl) rfl fun a hF => nil (then_n (ret_ (blk_r (then_r (then_r (blk_r (then_r ?_)))))))))
   replace h := ext_some h hxo
   obtain rfl := some_inj h
   exact leaveQ Tryd.results75 hF hS (.cons (.tmp rfl) .nil) rfl
  replace h := cond_f h hbv_2
  refine skip_ (blk_n (then_n (region (step hF (Y.add hF rfl rfl) rfl fun a hF => step hF (Y.move hF rfl) rfl fun a hF => nil (then_n (⟨_, nxt_some h, v4_0, (wr (v11_0 + 1)), rfl, hF.weak ⟨rfl, rfl, rfl, rfl, rfl, rfl, trivial⟩, hS.weak trivial, rfl⟩))))))
 replace h := cond_f h hbv
 refine exit_ (then_x (then_x (blk_hit (then_n ?_))))
 replace h := ext_some h hxo
 refine seq (seq (region (step hF (Y.move hF rfl) rfl fun a hF => step hF (Y.lenSl u_32 hF rfl) rfl fun a hF => step hF (Y.move hF rfl) rfl fun a hF => step hF (Y.lenSl u_32 hF rfl) rfl fun a hF => step hF (Y.lss hF rfl rfl) rfl fun a hF => nil (then_n (cond_b hF rfl (fun hbv_3 => ?_) (fun hbv_3 => ?_))))))
 ·replace h := cond_t h hbv_3
  refine seq (region (step hF (Y.assign hF rfl) rfl fun a hF => nil (then_n (ret_ (then_r ?_)))))
  obtain rfl := some_inj h
  exact leaveQ Tryd.results75 hF hS (.cons (.tmp rfl) .nil) rfl
 replace h := cond_f h hbv_3
 refine skip_ (then_n (seq (region (step hF (Y.assign hF rfl) rfl fun a hF => nil (then_n (ret_ ?_))))))
 obtain rfl := some_inj h
 exact leaveQ Tryd.results75 hF hS (.cons (.tmp rfl) .nil) rfl
def sort_ren_90 : Go.Shelf.Ren := ⟨fun | 6 => 90 | 14 => 99 | 15 => 100 | 20 => 101 | 21 => 102 | 22 => 103 | 23 => 104 | 24 => 105 | 25 => 106 | 26 => 107 | 27 => 108 | 28 => 109 | 29 => 110 | 46 => 111 | 47 => 112 | 48 => 113 | 49 => 114 | 50 => 115 | 57 => 116 | n => n, fun | 0 => 0 | 3 => 3 | 4 => 4 | 5 => 5 | 9 => 9 | 22 => 26 | 24 => 32 | 25 => 93 | 39 => 125 | 45 => 127 | 46 => 128 | 50 => 132 | 53 => 135 | 55 => 137 | 66 => 138 | 70 => 142 | 76 => 144 | 77 => 145 | n => n, fun  | n => n⟩
theorem sort_lay_90 : SlLaysF.n6 Tryd.prog sort_ren_90 where
 mixed := by kernel_rfl
 f6 := ⟨Tryd.f90.name, by decide, Tryd.func90.trans (congrArg some (by kernel_rfl))⟩
 f14 := ⟨Tryd.f99.name, by decide, Tryd.func99.trans (congrArg some (by kernel_rfl))⟩
 f15 := Tryd.func100.trans (congrArg some (by kernel_rfl))
 f20 := ⟨Tryd.f101.name, by decide, Tryd.func101.trans (congrArg some (by kernel_rfl))⟩
 f21 := ⟨Tryd.f102.name, by decide, Tryd.func102.trans (congrArg some (by kernel_rfl))⟩
 f22 := ⟨Tryd.f103.name, by decide, Tryd.func103.trans (congrArg some (by kernel_rfl))⟩
 f23 := ⟨Tryd.f104.name, by decide, Tryd.func104.trans (congrArg some (by kernel_rfl))⟩
 f24 := ⟨Tryd.f105.name, by decide, Tryd.func105.trans (congrArg some (by kernel_rfl))⟩
 f25 := ⟨Tryd.f106.name, by decide, Tryd.func106.trans (congrArg some (by kernel_rfl))⟩
 f26 := ⟨Tryd.f107.name, by decide, Tryd.func107.trans (congrArg some (by kernel_rfl))⟩
 f27 := ⟨Tryd.f108.name, by decide, Tryd.func108.trans (congrArg some (by kernel_rfl))⟩
 f28 := Tryd.func109.trans (congrArg some (by kernel_rfl))
 f29 := Tryd.func110.trans (congrArg some (by kernel_rfl))
 f46 := ⟨Tryd.f111.name, by decide, Tryd.func111.trans (congrArg some (by kernel_rfl))⟩
 f47 := Tryd.func112.trans (congrArg some (by kernel_rfl))
 f48 := Tryd.func113.trans (congrArg some (by kernel_rfl))
 f49 := ⟨Tryd.f114.name, by decide, Tryd.func114.trans (congrArg some (by kernel_rfl))⟩
 f50 := ⟨Tryd.f115.name, by decide, Tryd.func115.trans (congrArg some (by kernel_rfl))⟩
 f57 := ⟨Tryd.f116.name, by decide, Tryd.func116.trans (congrArg some (by kernel_rfl))⟩
 t0 := Tryd.underlying0
 a0 := Tryd.isAgg0
 z0 := Tryd.sizeOf0
 v0 := Tryd.zeroValue0
 t3 := Tryd.underlying3
 a3 := Tryd.isAgg3
 z3 := Tryd.sizeOf3
 v3 := Tryd.zeroValue3
 t4 := Tryd.underlying4
 a4 := Tryd.isAgg4
 z4 := Tryd.sizeOf4
 v4 := Tryd.zeroValue4
 t5 := Tryd.underlying5
 a5 := Tryd.isAgg5
 z5 := Tryd.sizeOf5
 v5 := Tryd.zeroValue5
 t9 := Tryd.underlying9
 a9 := Tryd.isAgg9
 z9 := Tryd.sizeOf9
 v9 := Tryd.zeroValue9
 t22 := Tryd.underlying26
 a22 := Tryd.isAgg26
 z22 := Tryd.sizeOf26
 v22 := Tryd.zeroValue26
 a24 := Tryd.isAgg32
 z24 := Tryd.sizeOf32
 t25 := Tryd.underlying93
 a25 := Tryd.isAgg93
 z25 := Tryd.sizeOf93
 v25 := Tryd.zeroValue93
 t39 := Tryd.underlying125
 a39 := Tryd.isAgg125
 z39 := Tryd.sizeOf125
 v39 := Tryd.zeroValue125
 t45 := Tryd.underlying127
 a45 := Tryd.isAgg127
 z45 := Tryd.sizeOf127
 v45 := Tryd.zeroValue127
 t46 := Tryd.underlying128
 a46 := Tryd.isAgg128
 z46 := Tryd.sizeOf128
 v46 := Tryd.zeroValue128
 t50 := Tryd.underlying132
 a50 := Tryd.isAgg132
 z50 := Tryd.sizeOf132
 v50 := Tryd.zeroValue132
 t53 := Tryd.underlying135
 a53 := Tryd.isAgg135
 z53 := Tryd.sizeOf135
 v53 := Tryd.zeroValue135
 t55 := Tryd.underlying137
 a55 := Tryd.isAgg137
 z55 := Tryd.sizeOf137
 v55 := Tryd.zeroValue137
 t66 := Tryd.underlying138
 a66 := Tryd.isAgg138
 z66 := Tryd.sizeOf138
 v66 := Tryd.zeroValue138
 t70 := Tryd.underlying142
 a70 := Tryd.isAgg142
 z70 := Tryd.sizeOf142
 v70 := Tryd.zeroValue142
 t76 := Tryd.underlying144
 a76 := Tryd.isAgg144
 z76 := Tryd.sizeOf144
 v76 := Tryd.zeroValue144
 t77 := Tryd.underlying145
 a77 := Tryd.isAgg145
 z77 := Tryd.sizeOf145
 v77 := Tryd.zeroValue145
theorem cmp_Compare_int__eq (x y : Int) : cmp_Compare_int_ x y = some (if x < y then -1 else if x > y then 1 else 0) := by
 have e : ∀ a : Int, cmp_isNaN_int_ a = some false := fun a => by simp [cmp_isNaN_int_]
 simp only [cmp_Compare_int_, e, Option.bind_some, cond_false]
 by_cases h1 : x < y
 ·simp [h1]
 by_cases h2 : y < x <;> simp [h1, h2]
theorem slices_Compare___int_int__eq (a b : List Int) (ha : a.length ≤ lim) (hb : b.length ≤ lim) : slices_Compare___int_int_ a b = some (cmpL a b) := by
 have key : ∀ (n i : Nat) (v : Int), i + n = a.length → i ≤ b.length → loopU (slices_Compare___int_int__b1 a b) (v, (i : Int)) = some (cmpL (a.drop i) (b.drop i)) := by
  intro n
  induction n with
  | zero =>
   intro i v hi hib
   refine loopU_ext ?_
   simp only [slices_Compare___int_int__b1]
   rw [show decide ((i : Int) < (a.length : Int)) = false by simp; omega, cond_false, List.drop_eq_nil_of_le (by omega : a.length ≤ i)]
   cases hd : b.drop i with
   | nil =>
    have : b.length ≤ i := by simpa using hd
    rw [show decide ((a.length : Int) < (b.length : Int)) = false by simp; omega]; rfl
   | cons y ys =>
    have : i < b.length := by
     rcases Nat.lt_or_ge i b.length with h | h
     ·exact h
     rw [List.drop_eq_nil_of_le h] at hd; cases hd
    rw [show decide ((a.length : Int) < (b.length : Int)) = true by simp; omega]; rfl
  | succ n ih =>
   intro i v hi hib
   have hia : i < a.length := by omega
   have h1 : decide ((i : Int) < (a.length : Int)) = true := by simp; omega
   rw [List.drop_eq_getElem_cons hia]
   rcases Nat.lt_or_ge i b.length with hlt | hge
   ·have h2 : decide ((i : Int) ≥ (b.length : Int)) = false := by simp; omega
    rw [List.drop_eq_getElem_cons hlt]
    by_cases h3 : a[i] < b[i]
    ·refine loopU_ext ?_
     simp only [slices_Compare___int_int__b1, h1, cond_true, idx_get hia, idx_get hlt, Option.bind_some, h2, cond_false, cmp_Compare_int__eq, cmpL, if_pos h3]; rfl
    by_cases h4 : a[i] > b[i]
    ·refine loopU_ext ?_
     simp only [slices_Compare___int_int__b1, h1, cond_true, idx_get hia, idx_get hlt, Option.bind_some, h2, cond_false, cmp_Compare_int__eq, cmpL, if_neg h3, if_pos h4]; rfl
    rw [loopU_nxt (s' := (v, ((i + 1 : Nat) : Int))) ?_, ih (i + 1) v (by omega) (by omega)]
    ·simp only [cmpL, if_neg h3, if_neg h4]
    simp only [slices_Compare___int_int__b1, h1, cond_true, idx_get hia, idx_get hlt, Option.bind_some, h2, cond_false, cmp_Compare_int__eq, if_neg h3, if_neg h4]
    rw [wr_id' (by omega) (by simp only [lim] at ha; omega)]; rfl
   have h2 : decide ((i : Int) ≥ (b.length : Int)) = true := by simp; omega
   rw [List.drop_eq_nil_of_le hge]
   refine loopU_ext ?_
   simp only [slices_Compare___int_int__b1, h1, cond_true, idx_get hia, Option.bind_some, h2, cmpL]
 simpa [slices_Compare___int_int_] using key a.length 0 0 (by omega) (Nat.zero_le _)
theorem slices_Compare___int_int__all {w : World} {D : Stab} (hD : D.on w) (a b : List Int) {p : Option Addr} {c : Nat} {p2 : Option Addr} {c2 : Nat} (h1 : SRc C_int D a p c) (h2 : SRc C_int D b p2 c2) (h3 : a.length ≤ lim) (h4 : b.length ≤ lim) :
  Calls Tryd.prog 75 [.slice p a.length c, .slice p2 b.length c2].toArray w (RetQ w (.int .i64 (cmpL a b))) := slices_Compare___int_int__q hD a b h1 h2 _ (slices_Compare___int_int__eq a b h3 h4)
noncomputable def cmp_Or_int__b1 (vals : (List Int)) : (Int × Int) → Option ((Int × Int) ⊕ Int)
 | (v2_0, v8_0) =>
  cond (decide (v8_0 < (vals.length : Int)))
  ((idx vals v8_0).bind fun e =>
  cond (e != 0)
  (ext (some e))
  (nxt (v2_0, wr (v8_0 + 1))))
  (ext (some 0))
noncomputable def cmp_Or_int_ (vals : (List Int)) : Option Int :=
  loopU (cmp_Or_int__b1 vals) (0, 0)
theorem cmp_Or_int__ok {w0 : World} {D0 : Stab} (hD : D0.on w0) (vals : (List Int)) {p : Option Addr} {c : Nat} (hs : SRc C_int D0 vals p c) (out : Int) (h : cmp_Or_int_ vals = some out) : Calls Tryd.prog 73 [.slice p vals.length c].toArray w0 (RetP D0 w0 (.int .i64 out)) := by
 refine enter _ 18 Tryd.func73 rfl Tryd.ntmps73 rfl fun a hF => ?_
 replace hF : Frm 18 [] [(0, .slice p vals.length c)] a := hF
 have hS := St.start hD
 unfold cmp_Or_int_ at h
 refine seq (region (step hF (Y.assign hF rfl) rfl fun a hF => nil (then_n (seq (region (step hF (Y.assign hF rfl) rfl fun a hF => nil (then_n (seq (seq (region (step hF (Y.move hF rfl) rfl fun a hF => step hF (Y.lenSl u_32 hF rfl) rfl fun a hF => step hF (Y.move hF rfl) rfl fun a hF => nil (then_n (block (loop_cut (body := cmp_Or_int__b1 vals) (out := out) (fun s a w => ∃ (v2_0 : Int) (v8_0 : Int), s = (v2_0, v8_0) ∧ Frm 18 [] [(2, .int .i64 v2_0), (3, .int .i64 0), (6, .slice p vals.length c), (7, .int .i64 (vals.length : Int)), (8, .int .i64 v8_0)] a ∧ St w0 D0 D0 [] w) (0, 0) h ⟨0, 0, rfl, hF.weak ⟨rfl, rfl, rfl, rfl, rfl, trivial⟩, hS.weak trivial⟩ ?_))))))))))))))
 rintro s a w xo ⟨v2_0, v8_0, rfl, hF, hS⟩ h hxo
 unfold cmp_Or_int__b1 at h
 dsimp only at h
 refine seq (region (step hF (Y.lss hF rfl rfl) rfl fun a hF => nil (then_n (seq (cond_b hF rfl (fun hbv => ?_) (fun hbv => ?_))))))
 ·replace h := cond_t h hbv
  refine skip_ (then_n (seq (block (seq (region ?_)))))
  obtain ⟨e, hx, h⟩ := bind_some h
  obtain ⟨b, o, hE, hY⟩ := Y.indexS (P := Tryd.prog) (C := C_int) (xs := vals) (T := 32) (x := (.tmp 6)) (y := (.tmp 8)) u_32 sz_3 hF rfl rfl (hs).1 hx
  obtain ⟨cc, hc, hcell⟩ := hE.open
  obtain rfl := hc
  refine step hF (hY) rfl fun a hF => step hF (Y.load1 sz_3 hF rfl (hcell _ hS.stab 0 _ rfl)) rfl fun a hF => step hF (Y.assign hF rfl) rfl fun a hF => nil (then_n (seq (region (step hF (Y.move hF rfl) rfl fun a hF => step hF (Y.move hF rfl) rfl fun a hF => step hF (Y.neq hF rfl rfl) rfl fun a hF => nil (then_n (cond_b hF rfl (fun hbv_1 => ?_) (fun hbv_1 => ?_)))))))
  ·replace h := cond_t h hbv_1
   refine seq (region (step hF (Y.move hF rfl) rfl fun a hF => step hF (Y.assign hF rfl) rfl fun a hF => nil (then_n (ret_ (blk_r (then_r (then_r (blk_r (then_r ?_)))))))))
   replace h := ext_some h hxo
   obtain rfl := some_inj h
   exact leaveP Tryd.results73 hF hS (.cons (.tmp rfl) .nil) .nil rfl
  replace h := cond_f h hbv_1
  refine skip_ (blk_n (then_n (region (step hF (Y.add hF rfl rfl) rfl fun a hF => step hF (Y.move hF rfl) rfl fun a hF => nil (then_n (⟨_, nxt_some h, v2_0, (wr (v8_0 + 1)), rfl, hF.weak ⟨rfl, rfl, rfl, rfl, rfl, trivial⟩, hS.weak trivial⟩))))))
 replace h := cond_f h hbv
 refine exit_ (then_x (then_x (blk_hit (then_n ?_))))
 replace h := ext_some h hxo
 refine seq (region (step hF (Y.move hF rfl) rfl fun a hF => step hF (Y.assign hF rfl) rfl fun a hF => nil (then_n (ret_ ?_))))
 obtain rfl := some_inj h
 exact leaveP Tryd.results73 hF hS (.cons (.tmp rfl) .nil) .nil rfl
noncomputable def remontoirlaw06_net (more : (List LineLoop)) : Option LineNet :=
  (r0To 10 12).bind fun rv =>
  (r0To 5 6).bind fun rv_1 =>
  (r0To 20 30).bind fun rv_2 =>
  (r0To 7 7).bind fun rv_3 =>
  (r0To 36 50).bind fun rv_4 =>
  (r0To 0 100).bind fun rv_5 =>
  if ([(LineLoop.mk 2 rv_4), (LineLoop.mk 3 rv_5)]).length + more.length ≤ lim then
  some (LineNet.mk 5 ([(LineLine.mk 0 1 rv), (LineLine.mk 1 2 rv_1), (LineLine.mk 0 2 rv_2), (LineLine.mk 2 3 rv_3)]) 3 ([(LineLoop.mk 2 rv_4), (LineLoop.mk 3 rv_5)] ++ more))
  else none
theorem remontoirlaw06_net_ok {w0 : World} {D0 : Stab} (hD : D0.on w0) (more : (List LineLoop)) {p : Option Addr} {c : Nat} (hs : SRc C_LineLoop D0 more p c) (out : LineNet) (h : remontoirlaw06_net more = some out) : Calls Tryd.prog 56 [.slice p more.length c].toArray w0 (RetS D0 w0 fun D v => ∃ p_4 c_4 p_5 c_5, v = .agg #[.int .i64 out.Exchanges, .slice p_4 out.Lines.length c_4, .int .i64 out.Hops, .slice p_5 out.Loops.length c_5] ∧ SRc C_LineLine D out.Lines p_4 c_4 ∧ SRc C_LineLoop D out.Loops p_5 c_5) := by
 refine enter _ 25 Tryd.func56 rfl Tryd.ntmps56 rfl fun a hF => ?_
 replace hF : Frm 25 [] [(0, .slice p more.length c)] a := hF
 have hS := St.start hD
 unfold remontoirlaw06_net at h
 refine seq (region (O.alloc 1 zc_25 hF hS rfl fun b a w hF hS => nil (then_n (seq (region ?_)))))
 obtain ⟨rv, hx, h⟩ := bind_some h
 refine O.callP (us := [.int .i64 10, .int .i64 12]) ca_44 hF hS (r0To_ok hS.stab 10 12 rv hx) rfl rfl fun a w hF hS => step hF (Y.build (parts := [(0, (.const (.int .i64 0))), (1, (.const (.int .i64 1))), (2, (.tmp 4))]) (cs := #[.int .i64 0, .int .i64 1, .int .i64 rv.Low, .int .i64 rv.High]) hF rfl (by kernel_rfl)) rfl fun a hF => ?_
 obtain ⟨rv_1, hx_1, h⟩ := bind_some h
 refine O.callP (us := [.int .i64 5, .int .i64 6]) ca_44 hF hS (r0To_ok hS.stab 5 6 rv_1 hx_1) rfl rfl fun a w hF hS => step hF (Y.build (parts := [(0, (.const (.int .i64 1))), (1, (.const (.int .i64 2))), (2, (.tmp 6))]) (cs := #[.int .i64 1, .int .i64 2, .int .i64 rv_1.Low, .int .i64 rv_1.High]) hF rfl (by kernel_rfl)) rfl fun a hF => ?_
 obtain ⟨rv_2, hx_2, h⟩ := bind_some h
 refine O.callP (us := [.int .i64 20, .int .i64 30]) ca_44 hF hS (r0To_ok hS.stab 20 30 rv_2 hx_2) rfl rfl fun a w hF hS => step hF (Y.build (parts := [(0, (.const (.int .i64 0))), (1, (.const (.int .i64 2))), (2, (.tmp 8))]) (cs := #[.int .i64 0, .int .i64 2, .int .i64 rv_2.Low, .int .i64 rv_2.High]) hF rfl (by kernel_rfl)) rfl fun a hF => ?_
 obtain ⟨rv_3, hx_3, h⟩ := bind_some h
 refine O.callP (us := [.int .i64 7, .int .i64 7]) ca_44 hF hS (r0To_ok hS.stab 7 7 rv_3 hx_3) rfl rfl fun a w hF hS => step hF (Y.build (parts := [(0, (.const (.int .i64 2))), (1, (.const (.int .i64 3))), (2, (.tmp 10))]) (cs := #[.int .i64 2, .int .i64 3, .int .i64 rv_3.Low, .int .i64 rv_3.High]) hF rfl (by kernel_rfl)) rfl fun a hF => ?_
 have hr : Reps C_LineLine D0 [(LineLine.mk 0 1 rv), (LineLine.mk 1 2 rv_1), (LineLine.mk 0 2 rv_2), (LineLine.mk 2 3 rv_3)] [.int .i64 0, .int .i64 1, .int .i64 rv.Low, .int .i64 rv.High, .int .i64 1, .int .i64 2, .int .i64 rv_1.Low, .int .i64 rv_1.High, .int .i64 0, .int .i64 2, .int .i64 rv_2.Low, .int .i64 rv_2.High, .int .i64 2, .int .i64 3, .int .i64 rv_3.Low, .int .i64 rv_3.High] := Reps.cons (C := C_LineLine) (x := (LineLine.mk 0 1 rv)) (c := [.int .i64 0, .int .i64 1, .int .i64 rv.Low, .int .i64 rv.High]) (r := [.int .i64 1, .int .i64 2, .int .i64 rv_1.Low, .int .i64 rv_1.High, .int .i64 0, .int .i64 2, .int .i64 rv_2.Low, .int .i64 rv_2.High, .int .i64 2, .int .i64 3, .int .i64 rv_3.Low, .int .i64 rv_3.High]) rfl (Reps.cons (C := C_LineLine) (x := (LineLine.mk 1 2 rv_1)) (c := [.int .i64 1, .int .i64 2, .int .i64 rv_1.Low, .int .i64 rv_1.High]) (r := [.int .i64 0, .int .i64 2, .int .i64 rv_2.Low, .int .i64 rv_2.High, .int .i64 2, .int .i64 3, .int .i64 rv_3.Low, .int .i64 rv_3.High]) rfl (Reps.cons (C := C_LineLine) (x := (LineLine.mk 0 2 rv_2)) (c := [.int .i64 0, .int .i64 2, .int .i64 rv_2.Low, .int .i64 rv_2.High]) (r := [.int .i64 2, .int .i64 3, .int .i64 rv_3.Low, .int .i64 rv_3.High]) rfl (Reps.cons (C := C_LineLine) (x := (LineLine.mk 2 3 rv_3)) (c := [.int .i64 2, .int .i64 3, .int .i64 rv_3.Low, .int .i64 rv_3.High]) (r := []) rfl (Reps.nil))))
 refine O.buildSlice (E := 68) (C := C_LineLine) (xs := [(LineLine.mk 0 1 rv), (LineLine.mk 1 2 rv_1), (LineLine.mk 0 2 rv_2), (LineLine.mk 2 3 rv_3)]) (cs := [.int .i64 0, .int .i64 1, .int .i64 rv.Low, .int .i64 rv.High, .int .i64 1, .int .i64 2, .int .i64 rv_1.Low, .int .i64 rv_1.High, .int .i64 0, .int .i64 2, .int .i64 rv_2.Low, .int .i64 rv_2.High, .int .i64 2, .int .i64 3, .int .i64 rv_3.Low, .int .i64 rv_3.High]) (us := [.agg #[.int .i64 0, .int .i64 1, .int .i64 rv.Low, .int .i64 rv.High], .agg #[.int .i64 1, .int .i64 2, .int .i64 rv_1.Low, .int .i64 rv_1.High], .agg #[.int .i64 0, .int .i64 2, .int .i64 rv_2.Low, .int .i64 rv_2.High], .agg #[.int .i64 2, .int .i64 3, .int .i64 rv_3.Low, .int .i64 rv_3.High]]) (parts := [(0, (.tmp 5)), (1, (.tmp 7)), (2, (.tmp 9)), (3, (.tmp 11))]) 2 hF hS rfl (by kernel_rfl) hr rfl rfl rfl fun p_1 c_1 a w hF hS => ?_
 obtain ⟨rv_4, hx_4, h⟩ := bind_some h
 refine O.callP (us := [.int .i64 36, .int .i64 50]) ca_44 hF hS (r0To_ok hS.stab 36 50 rv_4 hx_4) rfl rfl fun a w hF hS => step hF (Y.build (parts := [(0, (.const (.int .i64 2))), (1, (.tmp 13))]) (cs := #[.int .i64 2, .int .i64 rv_4.Low, .int .i64 rv_4.High]) hF rfl (by kernel_rfl)) rfl fun a hF => ?_
 obtain ⟨rv_5, hx_5, h⟩ := bind_some h
 refine O.callP (us := [.int .i64 0, .int .i64 100]) ca_44 hF hS (r0To_ok hS.stab 0 100 rv_5 hx_5) rfl rfl fun a w hF hS => step hF (Y.build (parts := [(0, (.const (.int .i64 3))), (1, (.tmp 15))]) (cs := #[.int .i64 3, .int .i64 rv_5.Low, .int .i64 rv_5.High]) hF rfl (by kernel_rfl)) rfl fun a hF => ?_
 have hr_1 : Reps C_LineLoop D0 [(LineLoop.mk 2 rv_4), (LineLoop.mk 3 rv_5)] [.int .i64 2, .int .i64 rv_4.Low, .int .i64 rv_4.High, .int .i64 3, .int .i64 rv_5.Low, .int .i64 rv_5.High] := Reps.cons (C := C_LineLoop) (x := (LineLoop.mk 2 rv_4)) (c := [.int .i64 2, .int .i64 rv_4.Low, .int .i64 rv_4.High]) (r := [.int .i64 3, .int .i64 rv_5.Low, .int .i64 rv_5.High]) rfl (Reps.cons (C := C_LineLoop) (x := (LineLoop.mk 3 rv_5)) (c := [.int .i64 3, .int .i64 rv_5.Low, .int .i64 rv_5.High]) (r := []) rfl (Reps.nil))
 refine O.buildSlice (E := 71) (C := C_LineLoop) (xs := [(LineLoop.mk 2 rv_4), (LineLoop.mk 3 rv_5)]) (cs := [.int .i64 2, .int .i64 rv_4.Low, .int .i64 rv_4.High, .int .i64 3, .int .i64 rv_5.Low, .int .i64 rv_5.High]) (us := [.agg #[.int .i64 2, .int .i64 rv_4.Low, .int .i64 rv_4.High], .agg #[.int .i64 3, .int .i64 rv_5.Low, .int .i64 rv_5.High]]) (parts := [(0, (.tmp 14)), (1, (.tmp 16))]) 3 hF hS rfl (by kernel_rfl) hr_1 rfl rfl rfl fun p_2 c_2 a w hF hS => step hF (Y.build (parts := [(0, (.const (.int .i64 5))), (2, (.const (.int .i64 3))), (1, (.tmp 12)), (3, (.tmp 17))]) (cs := #[.int .i64 5, .slice p_1 ([(LineLine.mk 0 1 rv), (LineLine.mk 1 2 rv_1), (LineLine.mk 0 2 rv_2), (LineLine.mk 2 3 rv_3)]).length c_1, .int .i64 3, .slice p_2 ([(LineLoop.mk 2 rv_4), (LineLoop.mk 3 rv_5)]).length c_2]) hF rfl (by kernel_rfl)) rfl fun a hF => O.alloc 4 zc_25 hF hS rfl fun b_1 a w hF hS => ?_
 replace hS := hS.ownNil 5 71 3
 refine O.store (us := [.int .i64 5, .slice p_1 ([(LineLine.mk 0 1 rv), (LineLine.mk 1 2 rv_1), (LineLine.mk 0 2 rv_2), (LineLine.mk 2 3 rv_3)]).length c_1, .int .i64 3, .slice p_2 ([(LineLoop.mk 2 rv_4), (LineLoop.mk 3 rv_5)]).length c_2]) 4 sz_25 hF rfl rfl rfl rfl hS rfl rfl fun a w hF hS => nil (then_n (seq (region (step hF (Y.fieldAddr fo_25_3 hF rfl) rfl fun a hF => step hF (Y.load1L 4 sz_23 hF rfl hS rfl rfl) rfl fun a hF => step hF (Y.move hF rfl) rfl fun a hF => ?_))))
 obtain ⟨hg, h⟩ := ite_some h
 obtain ⟨ds, hds, hsrc⟩ := src_stab (C := C_LineLoop) (xs := more) (hs).1 hS.stab
 refine O.append (C := C_LineLoop) (xs := [(LineLoop.mk 2 rv_4), (LineLoop.mk 3 rv_5)]) (ys := more) 3 gr_23 hF rfl rfl hS rfl hsrc hr_1 hds hg rfl fun p_3 c_3 a w hF hS hr_2 => step hF (Y.fieldAddr fo_25_3 hF rfl) rfl fun a hF => O.store (us := [.slice p_3 ([(LineLoop.mk 2 rv_4), (LineLoop.mk 3 rv_5)] ++ more).length c_3]) 4 sz_23 hF rfl rfl rfl rfl hS rfl rfl fun a w hF hS => nil (then_n (seq (region (step hF (Y.loadNL 4 sz_25 hF rfl hS rfl rfl rfl) rfl fun a hF => O.store (us := [.int .i64 5, .slice p_1 ([(LineLine.mk 0 1 rv), (LineLine.mk 1 2 rv_1), (LineLine.mk 0 2 rv_2), (LineLine.mk 2 3 rv_3)]).length c_1, .int .i64 3, .slice p_3 ([(LineLoop.mk 2 rv_4), (LineLoop.mk 3 rv_5)] ++ more).length c_3]) 1 sz_25 hF rfl rfl rfl rfl hS rfl rfl fun a w hF hS => nil (then_n (ret_ ?_))))))
 obtain ⟨Dv, hlev, hs_1, hS⟩ := hS.freezeC (C := C_LineLine) (i := 2) (xs := [(LineLine.mk 0 1 rv), (LineLine.mk 1 2 rv_1), (LineLine.mk 0 2 rv_2), (LineLine.mk 2 3 rv_3)]) rfl hr
 replace hr_2 := hr_2.mono hlev
 obtain ⟨Dv_1, hlev_1, hs_2, hS⟩ := hS.freezeC (C := C_LineLoop) (i := 3) (xs := ([(LineLoop.mk 2 rv_4), (LineLoop.mk 3 rv_5)] ++ more)) rfl hr_2
 replace hs_1 := hs_1.mono hlev_1
 obtain rfl := some_inj h
 exact leaveS Tryd.results56 hF hS (.cons (.cellN 1 sz_25 rfl rfl rfl) .nil) .nil ⟨_, _, _, _, rfl, hs_1, hs_2⟩
noncomputable def remontoirlaw06_torn : Option (List LineLoop) :=
  (r0To 70 80).bind fun rv =>
  some ([(LineLoop.mk 2 rv)])
theorem remontoirlaw06_torn_ok {w0 : World} {D0 : Stab} (hD : D0.on w0) (out : (List LineLoop)) (h : remontoirlaw06_torn = some out) : Calls Tryd.prog 57 [].toArray w0 (RetS D0 w0 fun D v => ∃ p_1 c_1, v = .slice p_1 out.length c_1 ∧ SRc C_LineLoop D out p_1 c_1) := by
 refine enter _ 4 Tryd.func57 rfl Tryd.ntmps57 rfl fun a hF => ?_
 replace hF : Frm 4 [] [] a := hF
 have hS := St.start hD
 unfold remontoirlaw06_torn at h
 refine seq (region (step hF (Y.assign hF rfl) rfl fun a hF => nil (then_n (seq (region ?_)))))
 obtain ⟨rv, hx, h⟩ := bind_some h
 refine O.callP (us := [.int .i64 70, .int .i64 80]) ca_44 hF hS (r0To_ok hS.stab 70 80 rv hx) rfl rfl fun a w hF hS => step hF (Y.build (parts := [(0, (.const (.int .i64 2))), (1, (.tmp 1))]) (cs := #[.int .i64 2, .int .i64 rv.Low, .int .i64 rv.High]) hF rfl (by kernel_rfl)) rfl fun a hF => ?_
 have hr : Reps C_LineLoop D0 [(LineLoop.mk 2 rv)] [.int .i64 2, .int .i64 rv.Low, .int .i64 rv.High] := Reps.cons (C := C_LineLoop) (x := (LineLoop.mk 2 rv)) (c := [.int .i64 2, .int .i64 rv.Low, .int .i64 rv.High]) (r := []) rfl (Reps.nil)
 refine O.buildSlice (E := 71) (C := C_LineLoop) (xs := [(LineLoop.mk 2 rv)]) (cs := [.int .i64 2, .int .i64 rv.Low, .int .i64 rv.High]) (us := [.agg #[.int .i64 2, .int .i64 rv.Low, .int .i64 rv.High]]) (parts := [(0, (.tmp 2))]) 1 hF hS rfl (by kernel_rfl) hr rfl rfl rfl fun p c a w hF hS => step hF (Y.assign hF rfl) rfl fun a hF => nil (then_n (ret_ ?_))
 obtain ⟨Dv, hlev, hs, hS⟩ := hS.freezeC (C := C_LineLoop) (i := 1) (xs := [(LineLoop.mk 2 rv)]) rfl hr
 obtain rfl := some_inj h
 exact leaveS Tryd.results57 hF hS (.cons (.tmp rfl) .nil) .nil ⟨_, _, rfl, hs⟩
end Go.Proofs.YthdbokigcfbgeaaDoor.Rt
