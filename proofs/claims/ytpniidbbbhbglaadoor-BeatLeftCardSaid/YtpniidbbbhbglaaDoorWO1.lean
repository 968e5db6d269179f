/- Walks of the functions of this seat: what each Go function comes to, as a Lean function, and the proof. Part WO1. Under no conditions. -/
import Derived.Test.YtpniidbbbhbglaaDoorWSZ
set_option linter.unusedVariables false
set_option linter.unusedSimpArgs false
set_option maxRecDepth 100000
set_option maxHeartbeats 4000000
namespace Go.Proofs.YtpniidbbbhbglaaDoor.Rt
open Go Go.RowKit
noncomputable def remontoirlaw02_without_b1 (c : BeatCellar) (l : (List Int)) : (Int × (List BeatPair)) → Option ((Int × (List BeatPair)) ⊕ BeatCellar)
 | (i, l_1) =>
  cond (decide (i < (c.Pairs.length : Int)))
  ((idx c.Pairs i).bind fun e =>
  (remontoirref00_Find l e.One).bind fun rv =>
  (cond (decide (rv < 0)) ((cond (decide (e.Other < 0)) (some true) ((remontoirref00_Find l e.Other).bind fun rv_1 =>
  some (decide (rv_1 < 0)))).bind fun t =>
  some t) (some false)).bind fun t_1 =>
  cond t_1
  (if l_1.length + ([e]).length ≤ lim then
  nxt (wr (i + 1), (l_1 ++ [e]))
  else none)
  (nxt (wr (i + 1), l_1)))
  (ext (some (BeatCellar.mk c.Hours c.Rates c.Opens l_1)))
noncomputable def remontoirlaw02_without (c : BeatCellar) (l : (List Int)) : Option BeatCellar :=
  loopU (remontoirlaw02_without_b1 c l) (0, ([] : List BeatPair))
theorem remontoirlaw02_without_ok {w0 : World} {D0 : Stab} (hD : D0.on w0) (c : BeatCellar) (l : (List Int)) {p : Option Addr} {c_1 : Nat} {p_1 : Option Addr} {c_2 : Nat} {p_2 : Option Addr} {c_3 : Nat} {p_3 : Option Addr} {c_4 : Nat} (hs : SRc C_Span D0 c.Rates p c_1) (hs_1 : SRc C_BeatOpen D0 c.Opens p_1 c_2) (hs_2 : SRc C_BeatPair D0 c.Pairs p_2 c_3) (hs_3 : SRc C_int D0 l p_3 c_4) (out : BeatCellar) (h : remontoirlaw02_without c l = some out) : Calls Tryd.prog 39 [.agg #[.int .i64 c.Hours, .slice p c.Rates.length c_1, .slice p_1 c.Opens.length c_2, .slice p_2 c.Pairs.length c_3], .slice p_3 l.length c_4].toArray w0 (RetS D0 w0 fun D v => ∃ p_7 c_8 p_8 c_9 p_9 c_10, v = .agg #[.int .i64 out.Hours, .slice p_7 out.Rates.length c_8, .slice p_8 out.Opens.length c_9, .slice p_9 out.Pairs.length c_10] ∧ SRc C_Span D out.Rates p_7 c_8 ∧ SRc C_BeatOpen D out.Opens p_8 c_9 ∧ SRc C_BeatPair D out.Pairs p_9 c_10) := by
 refine enter _ 46 Tryd.func39 rfl Tryd.ntmps39 rfl fun a hF => ?_
 replace hF : Frm 46 [] [(0, .agg #[.int .i64 c.Hours, .slice p c.Rates.length c_1, .slice p_1 c.Opens.length c_2, .slice p_2 c.Pairs.length c_3]), (1, .slice p_3 l.length c_4)] a := hF
 have hS := St.start hD
 unfold remontoirlaw02_without at h
 refine seq ?_
 refine region ?_
 refine O.box (cs := [.int .i64 c.Hours, .slice p c.Rates.length c_1, .slice p_1 c.Opens.length c_2, .slice p_2 c.Pairs.length c_3]) 1 hF rfl rfl hS rfl fun b a w hF hS => ?_
 refine O.alloc 2 zc_26 hF hS rfl fun b_1 a w hF hS => ?_
 refine nil (then_n ?_)
 refine seq ?_
 refine region ?_
 refine step hF (Y.loadNL 1 sz_26 hF rfl hS rfl rfl rfl) rfl fun a hF => ?_
 refine O.alloc 3 zc_26 hF hS rfl fun b_2 a w hF hS => ?_
 replace hS := hS.ownNil 4 61 5
 refine O.store (us := [.int .i64 c.Hours, .slice p c.Rates.length c_1, .slice p_1 c.Opens.length c_2, .slice p_2 c.Pairs.length c_3]) 3 sz_26 hF rfl rfl rfl rfl hS rfl rfl fun a w hF hS => ?_
 refine nil (then_n ?_)
 refine seq ?_
 refine region ?_
 refine step hF (Y.fieldAddr fo_26_3 hF rfl) rfl fun a hF => ?_
 refine O.store (us := [.slice none 0 0]) 3 sz_24 hF rfl rfl rfl rfl hS rfl rfl fun a w hF hS => ?_
 replace hS := hS.ownNil 5 61 5
 refine nil (then_n ?_)
 refine seq ?_
 refine seq ?_
 refine region ?_
 refine step hF (Y.assign hF rfl) rfl fun a hF => ?_
 refine nil (then_n ?_)
 refine block ?_
 refine loop_cut (body := remontoirlaw02_without_b1 c l) (out := out) (fun s a w => ∃ (i : Int) (l_1 : (List BeatPair)), ∃ (Dv : Stab), ∃ p_4 c_5 cs, s = (i, l_1) ∧ D0.le Dv ∧ Frm 46 [] [(1, .slice p_3 l.length c_4), (2, .pointer (some ⟨b, 0, none⟩)), (4, .pointer (some ⟨b_1, 0, none⟩)), (5, .pointer (some ⟨b_2, 0, none⟩)), (6, .int .i64 i)] a ∧ St w0 D0 Dv [(1, .cells b [.int .i64 c.Hours, .slice p c.Rates.length c_1, .slice p_1 c.Opens.length c_2, .slice p_2 c.Pairs.length c_3] 26), (2, .cells b_1 [.int .i64 0, .slice none 0 0, .slice none 0 0, .slice none 0 0] 26), (3, .cells b_2 [.int .i64 c.Hours, .slice p c.Rates.length c_1, .slice p_1 c.Opens.length c_2, .slice p_4 l_1.length c_5] 26), (4, .own none ([] : List BeatPair).length 0 ([]) 61 5), (5, .own p_4 l_1.length c_5 cs 61 5)] w ∧ Reps C_BeatPair Dv l_1 cs) (0, ([] : List BeatPair)) h ⟨0, ([] : List BeatPair), D0, none, 0, ([]), rfl, Stab.le.refl _, hF.weak ⟨rfl, rfl, rfl, rfl, rfl, trivial⟩, hS.weak ⟨rfl, rfl, rfl, rfl, rfl, trivial⟩, Reps.nil⟩ ?_
 rintro s a w xo ⟨i, l_1, Dv, p_4, c_5, cs, rfl, hlev, hF, hS, hr⟩ h hxo
 unfold remontoirlaw02_without_b1 at h
 dsimp only at h
 replace hs := hs.mono hlev
 replace hs_1 := hs_1.mono hlev
 replace hs_2 := hs_2.mono hlev
 replace hs_3 := hs_3.mono hlev
 refine seq ?_
 refine seq ?_
 refine region ?_
 refine step hF (Y.move hF rfl) rfl fun a hF => ?_
 refine step hF (Y.fieldAddr fo_26_3 hF rfl) rfl fun a hF => ?_
 refine step hF (Y.load1L 1 sz_24 hF rfl hS rfl rfl) rfl fun a hF => ?_
 refine step hF (Y.lenSl u_24 hF rfl) rfl fun a hF => ?_
 refine step hF (Y.lss hF rfl rfl) rfl fun a hF => ?_
 refine nil (then_n ?_)
 refine cond_b hF rfl (fun hbv => ?_) (fun hbv => ?_)
 ·replace h := cond_t h hbv
  refine skip_ (then_n ?_)
  refine seq ?_
  refine block ?_
  refine seq ?_
  refine region ?_
  refine step hF (Y.fieldAddr fo_26_3 hF rfl) rfl fun a hF => ?_
  refine step hF (Y.load1L 1 sz_24 hF rfl hS rfl rfl) rfl fun a hF => ?_
  refine step hF (Y.move hF rfl) rfl fun a hF => ?_
  obtain ⟨e, hx, h⟩ := bind_some h
  obtain ⟨b_3, o, hE, hY⟩ := Y.indexS (P := Tryd.prog) (C := C_BeatPair) (xs := c.Pairs) (T := 24) (x := (.tmp 18)) (y := (.tmp 19)) u_24 sz_61 hF rfl rfl (hs_2).1 hx
  obtain ⟨cc, hc, hcell⟩ := hE.open
  obtain rfl := C_BeatPair.open hc
  refine step hF (hY) rfl fun a hF => ?_
  refine step hF (Y.loadNE (o := o) (k := 0) sz_61 hF rfl (hcell _ hS.stab) rfl rfl) rfl fun a hF => ?_
  refine O.alloc 6 zc_61 hF hS rfl fun b_4 a w hF hS => ?_
  refine O.store (us := [.int .i64 e.Hour, .int .i64 e.One, .int .i64 e.Other, .int .i64 e.Read.Low, .int .i64 e.Read.High]) 6 sz_61 hF rfl rfl rfl rfl hS rfl rfl fun a w hF hS => ?_
  refine nil (then_n ?_)
  refine seq ?_
  refine region ?_
  refine step hF (Y.move hF rfl) rfl fun a hF => ?_
  refine step hF (Y.fieldAddr fo_61_1 hF rfl) rfl fun a hF => ?_
  refine step hF (Y.load1L 6 sz_3 hF rfl hS rfl rfl) rfl fun a hF => ?_
  obtain ⟨rv, hx_1, h⟩ := bind_some h
  refine O.callP (us := [.slice p_3 l.length c_4, .int .i64 e.One]) ca_70 hF hS (remontoirref00_Find_ok hS.stab l e.One hs_3 rv hx_1) rfl rfl fun a w hF hS => ?_
  refine step hF (Y.lss hF rfl rfl) rfl fun a hF => ?_
  refine step hF (Y.move hF rfl) rfl fun a hF => ?_
  obtain ⟨t_1, ht_1, h⟩ := bind_some h
  refine join (N := 46) (rs := []) (w0 := w0) (D0 := D0) 11 (us := [(1, .slice p_3 l.length c_4), (2, .pointer (some ⟨b, 0, none⟩)), (4, .pointer (some ⟨b_1, 0, none⟩)), (5, .pointer (some ⟨b_2, 0, none⟩)), (6, .int .i64 i), (7, .pointer (some ⟨b_4, 0, none⟩)), (38, .bool t_1)]) (ms := [(1, .cells b [.int .i64 c.Hours, .slice p c.Rates.length c_1, .slice p_1 c.Opens.length c_2, .slice p_2 c.Pairs.length c_3] 26), (2, .cells b_1 [.int .i64 0, .slice none 0 0, .slice none 0 0, .slice none 0 0] 26), (3, .cells b_2 [.int .i64 c.Hours, .slice p c.Rates.length c_1, .slice p_1 c.Opens.length c_2, .slice p_4 l_1.length c_5] 26), (4, .own none ([] : List BeatPair).length 0 ([]) 61 5), (5, .own p_4 l_1.length c_5 cs 61 5), (6, .cells b_4 [.int .i64 e.Hour, .int .i64 e.One, .int .i64 e.Other, .int .i64 e.Read.Low, .int .i64 e.Read.High] 61)]) (D' := Dv) ?_ ?_
  ·rcases bcases (decide (rv < 0)) with hbv_1 | hbv_1
   ·-- true
    replace h := cond_t ht_1 hbv_1
    refine guard_on hF rfl rfl hbv_1 ?_
    refine step hF (Y.fieldAddr fo_61_2 hF rfl) rfl fun a hF => ?_
    refine guard_on hF rfl rfl hbv_1 ?_
    refine step hF (Y.load1L 6 sz_3 hF rfl hS rfl rfl) rfl fun a hF => ?_
    refine guard_on hF rfl rfl hbv_1 ?_
    refine step hF (Y.lss hF rfl rfl) rfl fun a hF => ?_
    refine guard_on hF rfl rfl hbv_1 ?_
    refine step hF (Y.move hF rfl) rfl fun a hF => ?_
    obtain ⟨t, ht, h⟩ := bind_some h
    refine join (N := 46) (rs := []) (w0 := w0) (D0 := D0) 6 (us := [(1, .slice p_3 l.length c_4), (2, .pointer (some ⟨b, 0, none⟩)), (4, .pointer (some ⟨b_1, 0, none⟩)), (5, .pointer (some ⟨b_2, 0, none⟩)), (6, .int .i64 i), (7, .pointer (some ⟨b_4, 0, none⟩)), (27, .bool (decide (rv < 0))), (37, .bool t)]) (ms := [(1, .cells b [.int .i64 c.Hours, .slice p c.Rates.length c_1, .slice p_1 c.Opens.length c_2, .slice p_2 c.Pairs.length c_3] 26), (2, .cells b_1 [.int .i64 0, .slice none 0 0, .slice none 0 0, .slice none 0 0] 26), (3, .cells b_2 [.int .i64 c.Hours, .slice p c.Rates.length c_1, .slice p_1 c.Opens.length c_2, .slice p_4 l_1.length c_5] 26), (4, .own none ([] : List BeatPair).length 0 ([]) 61 5), (5, .own p_4 l_1.length c_5 cs 61 5), (6, .cells b_4 [.int .i64 e.Hour, .int .i64 e.One, .int .i64 e.Other, .int .i64 e.Read.Low, .int .i64 e.Read.High] 61)]) (D' := Dv) ?_ ?_
    ·rcases bcases (decide (e.Other < 0)) with hbv_2 | hbv_2
     ·-- true
      replace h := cond_t ht hbv_2
      refine guard_off hF rfl rfl hbv_2 rfl fun a hF => ?_
      refine guard_off hF rfl rfl hbv_2 rfl fun a hF => ?_
      refine guard_off hF rfl rfl hbv_2 rfl fun a hF => ?_
      refine guard_off hF rfl rfl hbv_2 rfl fun a hF => ?_
      refine guard_off hF rfl rfl hbv_2 rfl fun a hF => ?_
      refine guard_on hF rfl rfl hbv_1 ?_
      refine step hF (Y.pick_t hF rfl hbv_2 rfl) rfl fun a hF => ?_
      obtain rfl := some_inj h
      exact nil (then_n ⟨hF.weak ⟨rfl, rfl, rfl, rfl, rfl, rfl, rfl, rfl, trivial⟩, hS.weak ⟨rfl, rfl, rfl, rfl, rfl, rfl, trivial⟩⟩)
     ·-- false
      replace h := cond_f ht hbv_2
      refine guard_on hF rfl rfl hbv_2 ?_
      refine step hF (Y.move hF rfl) rfl fun a hF => ?_
      refine guard_on hF rfl rfl hbv_2 ?_
      refine step hF (Y.fieldAddr fo_61_2 hF rfl) rfl fun a hF => ?_
      refine guard_on hF rfl rfl hbv_2 ?_
      refine step hF (Y.load1L 6 sz_3 hF rfl hS rfl rfl) rfl fun a hF => ?_
      refine guard_on hF rfl rfl hbv_2 ?_
      obtain ⟨rv_1, hx_2, h⟩ := bind_some h
      refine O.callP (us := [.slice p_3 l.length c_4, .int .i64 e.Other]) ca_70 hF hS (remontoirref00_Find_ok hS.stab l e.Other hs_3 rv_1 hx_2) rfl rfl fun a w hF hS => ?_
      refine guard_on hF rfl rfl hbv_2 ?_
      refine step hF (Y.lss hF rfl rfl) rfl fun a hF => ?_
      refine guard_on hF rfl rfl hbv_1 ?_
      refine step hF (Y.pick_f hF rfl hbv_2 rfl) rfl fun a hF => ?_
      obtain rfl := some_inj h
      exact nil (then_n ⟨hF.weak ⟨rfl, rfl, rfl, rfl, rfl, rfl, rfl, rfl, trivial⟩, hS.weak ⟨rfl, rfl, rfl, rfl, rfl, rfl, trivial⟩⟩)
    intro a w hF hS
    refine step hF (Y.pick_t hF rfl hbv_1 rfl) rfl fun a hF => ?_
    obtain rfl := some_inj h
    exact nil (then_n ⟨hF.weak ⟨rfl, rfl, rfl, rfl, rfl, rfl, rfl, trivial⟩, hS.weak ⟨rfl, rfl, rfl, rfl, rfl, rfl, trivial⟩⟩)
   ·-- false
    replace h := cond_f ht_1 hbv_1
    refine guard_off hF rfl rfl hbv_1 rfl fun a hF => ?_
    refine guard_off hF rfl rfl hbv_1 rfl fun a hF => ?_
    refine guard_off hF rfl rfl hbv_1 rfl fun a hF => ?_
    refine guard_off hF rfl rfl hbv_1 rfl fun a hF => ?_
    refine guard_offu hF rfl rfl rfl fun a hF => ?_
    refine guard_offu hF rfl rfl rfl fun a hF => ?_
    refine guard_offu hF rfl rfl rfl fun a hF => ?_
    refine guard_offu hF rfl rfl rfl fun a hF => ?_
    refine guard_offu hF rfl rfl rfl fun a hF => ?_
    refine guard_off hF rfl rfl hbv_1 rfl fun a hF => ?_
    refine step hF (Y.pick_f hF rfl hbv_1 rfl) rfl fun a hF => ?_
    obtain rfl := some_inj h
    exact nil (then_n ⟨hF.weak ⟨rfl, rfl, rfl, rfl, rfl, rfl, rfl, trivial⟩, hS.weak ⟨rfl, rfl, rfl, rfl, rfl, rfl, trivial⟩⟩)
  intro a w hF hS
  refine nil (then_n ?_)
  refine cond_b hF rfl (fun hbv_3 => ?_) (fun hbv_3 => ?_)
  ·replace h := cond_t h hbv_3
   refine region ?_
   refine step hF (Y.fieldAddr fo_26_3 hF rfl) rfl fun a hF => ?_
   refine step hF (Y.load1L 3 sz_24 hF rfl hS rfl rfl) rfl fun a hF => ?_
   refine step hF (Y.loadNL 6 sz_61 hF rfl hS rfl rfl rfl) rfl fun a hF => ?_
   have hr_1 : Reps C_BeatPair Dv [e] [.int .i64 e.Hour, .int .i64 e.One, .int .i64 e.Other, .int .i64 e.Read.Low, .int .i64 e.Read.High] := Reps.cons (C := C_BeatPair) (x := e) (c := [.int .i64 e.Hour, .int .i64 e.One, .int .i64 e.Other, .int .i64 e.Read.Low, .int .i64 e.Read.High]) (r := []) rfl (Reps.nil)
   refine O.buildSlice (E := 61) (C := C_BeatPair) (xs := [e]) (cs := [.int .i64 e.Hour, .int .i64 e.One, .int .i64 e.Other, .int .i64 e.Read.Low, .int .i64 e.Read.High]) (us := [.agg #[.int .i64 e.Hour, .int .i64 e.One, .int .i64 e.Other, .int .i64 e.Read.Low, .int .i64 e.Read.High]]) (parts := [(0, (.tmp 41))]) 7 hF hS rfl (by kernel_rfl) hr_1 rfl rfl rfl fun p_5 c_6 a w hF hS => ?_
   obtain ⟨hg, h⟩ := ite_some h
   refine O.append (C := C_BeatPair) (xs := l_1) (ys := [e]) 5 gr_24 hF rfl rfl hS rfl (src_own (i := 7) hS rfl) hr hr_1 hg rfl fun p_6 c_7 a w hF hS hr_2 => ?_
   refine step hF (Y.fieldAddr fo_26_3 hF rfl) rfl fun a hF => ?_
   refine O.store (us := [.slice p_6 (l_1 ++ [e]).length c_7]) 3 sz_24 hF rfl rfl rfl rfl hS rfl rfl fun a w hF hS => ?_
   refine nil (blk_n (then_n ?_))
   refine region ?_
   refine step hF (Y.move hF rfl) rfl fun a hF => ?_
   refine step hF (Y.add hF rfl rfl) rfl fun a hF => ?_
   refine step hF (Y.assign hF rfl) rfl fun a hF => ?_
   refine nil (then_n ?_)
   exact ⟨_, nxt_some h, (wr (i + 1)), (l_1 ++ [e]), Dv, p_6, c_7, (cs ++ [.int .i64 e.Hour, .int .i64 e.One, .int .i64 e.Other, .int .i64 e.Read.Low, .int .i64 e.Read.High]), rfl, hlev, hF.weak ⟨rfl, rfl, rfl, rfl, rfl, trivial⟩, hS.weak ⟨rfl, rfl, rfl, rfl, rfl, trivial⟩, hr_2⟩
  ·replace h := cond_f h hbv_3
   refine skip_ (blk_n (then_n ?_))
   refine region ?_
   refine step hF (Y.move hF rfl) rfl fun a hF => ?_
   refine step hF (Y.add hF rfl rfl) rfl fun a hF => ?_
   refine step hF (Y.assign hF rfl) rfl fun a hF => ?_
   refine nil (then_n ?_)
   exact ⟨_, nxt_some h, (wr (i + 1)), l_1, Dv, p_4, c_5, cs, rfl, hlev, hF.weak ⟨rfl, rfl, rfl, rfl, rfl, trivial⟩, hS.weak ⟨rfl, rfl, rfl, rfl, rfl, trivial⟩, hr⟩
 ·replace h := cond_f h hbv
  refine exit_ (then_x (then_x (blk_hit (then_n ?_))))
  replace h := ext_some h hxo
  refine seq ?_
  refine region ?_
  refine step hF (Y.loadNL 3 sz_26 hF rfl hS rfl rfl rfl) rfl fun a hF => ?_
  refine O.store (us := [.int .i64 c.Hours, .slice p c.Rates.length c_1, .slice p_1 c.Opens.length c_2, .slice p_4 l_1.length c_5]) 2 sz_26 hF rfl rfl rfl rfl hS rfl rfl fun a w hF hS => ?_
  refine nil (then_n ?_)
  refine ret_ ?_
  obtain ⟨Dv_1, hlev_1, hs_4, hS⟩ := hS.freezeC (i := 5) (xs := l_1) rfl hr
  replace hs := hs.mono hlev_1
  replace hs_1 := hs_1.mono hlev_1
  replace hs_2 := hs_2.mono hlev_1
  replace hs_3 := hs_3.mono hlev_1
  replace hr := hr.mono hlev_1
  obtain rfl := some_inj h
  exact leaveS Tryd.results39 hF hS (.cons (.cellN 2 sz_26 rfl rfl rfl) .nil) .nil ⟨_, _, _, _, _, _, rfl, hs, hs_1, hs_4⟩

end Go.Proofs.YtpniidbbbhbglaaDoor.Rt
