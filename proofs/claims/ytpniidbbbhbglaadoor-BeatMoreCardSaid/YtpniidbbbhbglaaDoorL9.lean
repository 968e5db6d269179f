/- Walks of the functions of this seat: what each Go function comes to, as a Lean function, and the proof. A law. Under no conditions. -/
import Derived.Test.YtpniidbbbhbglaaDoorWSZ
set_option linter.unusedVariables false
set_option linter.unusedSimpArgs false
set_option maxRecDepth 100000
set_option maxHeartbeats 4000000
namespace Go.Proofs.YtpniidbbbhbglaaDoor.Rt
open Go Go.RowKit
noncomputable def remontoirlaw02_BeatMore_k3 (c : BeatCellar) (more : BeatPair) (rv_2 : Int) (rv_3 : Int) (l : (List BeatOpen)) (l_2 : (List BeatPair)) : Option Bool :=
  (beat_Offset c rv_2 rv_3).bind fun rv_4 =>
  (beat_Offset (BeatCellar.mk c.Hours c.Rates l l_2) rv_2 rv_3).bind fun rv_5 =>
  cond ((!([rv_4.1.Low, rv_4.1.High] == [rv_5.1.Low, rv_5.1.High])) || (rv_4.2 != rv_5.2))
  (some false)
  (cond ((c.Pairs.length : Int) == 14)
  ((remontoirlaw02_works).bind fun rv_6 =>
  some rv_6)
  (if ([] : List BeatPair).length + c.Pairs.length ≤ lim then
  if (([] : List BeatPair) ++ c.Pairs).length + ([more]).length ≤ lim then
  (beat_Offset (BeatCellar.mk c.Hours c.Rates c.Opens ((([] : List BeatPair) ++ c.Pairs) ++ [more])) rv_2 rv_3).bind fun rv_7 =>
  cond (rv_7.2 != 0)
  ((cond (((rv_7.2 == 20) || (rv_7.2 == 22)) && ([rv_7.1.Low, rv_7.1.High] == [0, 0])) ((remontoirlaw02_works).bind fun rv_8 =>
  some rv_8) (some false)).bind fun t =>
  some t)
  ((cond (rv_4.2 == 0) ((remontoirref00_Within rv_7.1 rv_4.1).bind fun rv_9 =>
  some rv_9) (some false)).bind fun t_1 =>
  (cond t_1 ((remontoirlaw02_works).bind fun rv_10 =>
  some rv_10) (some false)).bind fun t_2 =>
  some t_2)
  else none
  else none))
noncomputable def remontoirlaw02_BeatMore_b2 (c : BeatCellar) (more : BeatPair) (rv_2 : Int) (rv_3 : Int) (l : (List BeatOpen)) : (Int × (List BeatPair)) → Option ((Int × (List BeatPair)) ⊕ Bool)
 | (i_1, l_1) =>
  cond (decide (i_1 ≥ 0))
  ((idx c.Pairs i_1).bind fun e_1 =>
  if l_1.length + ([e_1]).length ≤ lim then
  nxt (wr (i_1 - 1), (l_1 ++ [e_1]))
  else none)
  (ext (cond ((decide ((c.Pairs.length : Int) > 0)) && (decide ((c.Pairs.length : Int) < 14)))
  ((idx c.Pairs 0).bind fun e_2 =>
  if l_1.length + ([e_2]).length ≤ lim then
  remontoirlaw02_BeatMore_k3 c more rv_2 rv_3 l (l_1 ++ [e_2])
  else none)
  (remontoirlaw02_BeatMore_k3 c more rv_2 rv_3 l l_1)))
noncomputable def remontoirlaw02_BeatMore_b1 (c : BeatCellar) (more : BeatPair) (rv_2 : Int) (rv_3 : Int) : (Int × (List BeatOpen)) → Option ((Int × (List BeatOpen)) ⊕ Bool)
 | (i, l) =>
  cond (decide (i ≥ 0))
  ((idx c.Opens i).bind fun e =>
  if l.length + ([e]).length ≤ lim then
  nxt (wr (i - 1), (l ++ [e]))
  else none)
  (ext (loopU (remontoirlaw02_BeatMore_b2 c more rv_2 rv_3 l) (wr ((c.Pairs.length : Int) - 1), ([] : List BeatPair))))
noncomputable def remontoirlaw02_BeatMore (c : BeatCellar) (more : BeatPair) (n : Arr2) : Option Bool :=
  (remontoirlaw02_sound c).bind fun rv =>
  cond (!rv)
  ((remontoirlaw02_works).bind fun rv_1 =>
  some rv_1)
  ((remontoirref00_Rest n.a0 (c.Rates.length : Int)).bind fun rv_2 =>
  (remontoirref00_Rest n.a1 (wr (c.Hours + 1))).bind fun rv_3 =>
  loopU (remontoirlaw02_BeatMore_b1 c more rv_2 rv_3) (wr ((c.Opens.length : Int) - 1), ([] : List BeatOpen)))
theorem remontoirlaw02_BeatMore_ok {w0 : World} {D0 : Stab} (hD : D0.on w0) (c : BeatCellar) (more : BeatPair) (n : Arr2) {p : Option Addr} {c_1 : Nat} {p_1 : Option Addr} {c_2 : Nat} {p_2 : Option Addr} {c_3 : Nat} (hs : SRc C_Span D0 c.Rates p c_1) (hs_1 : SRc C_BeatOpen D0 c.Opens p_1 c_2) (hs_2 : SRc C_BeatPair D0 c.Pairs p_2 c_3) (hG : Glob D0) (out : Bool) (h : remontoirlaw02_BeatMore c more n = some out) : Calls Tryd.prog 9 [.agg #[.int .i64 c.Hours, .slice p c.Rates.length c_1, .slice p_1 c.Opens.length c_2, .slice p_2 c.Pairs.length c_3], .agg #[.int .i64 more.Hour, .int .i64 more.One, .int .i64 more.Other, .int .i64 more.Read.Low, .int .i64 more.Read.High], .agg #[.int .i64 n.a0, .int .i64 n.a1]].toArray w0 (RetP D0 w0 (.bool out)) := by
 refine enter _ 162 Tryd.func9 rfl Tryd.ntmps9 rfl fun a hF => ?_
 replace hF : Frm 162 [] [(0, .agg #[.int .i64 c.Hours, .slice p c.Rates.length c_1, .slice p_1 c.Opens.length c_2, .slice p_2 c.Pairs.length c_3]), (1, .agg #[.int .i64 more.Hour, .int .i64 more.One, .int .i64 more.Other, .int .i64 more.Read.Low, .int .i64 more.Read.High]), (2, .agg #[.int .i64 n.a0, .int .i64 n.a1])] a := hF
 have hS := St.start hD
 unfold remontoirlaw02_BeatMore at h
 refine seq ?_
 refine region ?_
 refine O.box (cs := [.int .i64 c.Hours, .slice p c.Rates.length c_1, .slice p_1 c.Opens.length c_2, .slice p_2 c.Pairs.length c_3]) 1 hF rfl rfl hS rfl fun b a w hF hS => ?_
 refine O.box (cs := [.int .i64 more.Hour, .int .i64 more.One, .int .i64 more.Other, .int .i64 more.Read.Low, .int .i64 more.Read.High]) 2 hF rfl rfl hS rfl fun b_1 a w hF hS => ?_
 refine O.box (cs := [.int .i64 n.a0, .int .i64 n.a1]) 3 hF rfl rfl hS rfl fun b_2 a w hF hS => ?_
 refine step hF (Y.assign hF rfl) rfl fun a hF => ?_
 refine nil (then_n ?_)
 refine seq ?_
 refine seq ?_
 refine region ?_
 refine step hF (Y.loadNL 1 sz_26 hF rfl hS rfl rfl rfl) rfl fun a hF => ?_
 obtain ⟨rv, hx, h⟩ := bind_some h
 refine O.callP (us := [.agg #[.int .i64 c.Hours, .slice p c.Rates.length c_1, .slice p_1 c.Opens.length c_2, .slice p_2 c.Pairs.length c_3]]) ca_32 hF hS (remontoirlaw02_sound_ok hS.stab c hs hs_1 hs_2 rv hx) rfl rfl fun a w hF hS => ?_
 refine step hF (Y.not hF rfl) rfl fun a hF => ?_
 refine nil (then_n ?_)
 refine cond_b hF rfl (fun hbv => ?_) (fun hbv => ?_)
 ·replace h := cond_t h hbv
  refine seq ?_
  refine region ?_
  obtain ⟨rv_1, hx_1, h⟩ := bind_some h
  refine O.callP (us := []) ca_21 hF hS (remontoirlaw02_works_ok hS.stab hG rv_1 hx_1) rfl rfl fun a w hF hS => ?_
  refine step hF (Y.assign hF rfl) rfl fun a hF => ?_
  refine nil (then_n ?_)
  refine ret_ (then_r ?_)
  obtain rfl := some_inj h
  exact leaveP Tryd.results9 hF hS (.cons (.tmp rfl) .nil) .nil rfl
 ·replace h := cond_f h hbv
  refine skip_ (then_n ?_)
  refine seq ?_
  obtain ⟨rv_2, hx_2, h⟩ := bind_some h
  refine drawsV 11 (.flt 0 (.flt 1 (.flt 2 (.flt 3 (.flt 4 (.flt 6 (.flt 7 (.flt 8 (.flt 9 (.flt 10 (.alt 5 .done .stop))))))))))) mixed_ (by kernel_rfl) (fun w => St w0 D0 D0 [(1, .cells b [.int .i64 c.Hours, .slice p c.Rates.length c_1, .slice p_1 c.Opens.length c_2, .slice p_2 c.Pairs.length c_3] 26), (2, .cells b_1 [.int .i64 more.Hour, .int .i64 more.One, .int .i64 more.Other, .int .i64 more.Read.Low, .int .i64 more.Read.High] 61), (3, .cells b_2 [.int .i64 n.a0, .int .i64 n.a1] 28)] w) (fun a w => Frm 162 [] [(3, .pointer (some ⟨b, 0, none⟩)), (4, .pointer (some ⟨b_1, 0, none⟩)), (6, .bool false), (28, .int .i64 rv_2), (30, .int .i64 n.a1), (33, .int .i64 (wr (c.Hours + 1)))] a ∧ St w0 D0 D0 [(1, .cells b [.int .i64 c.Hours, .slice p c.Rates.length c_1, .slice p_1 c.Opens.length c_2, .slice p_2 c.Pairs.length c_3] 26), (2, .cells b_1 [.int .i64 more.Hour, .int .i64 more.One, .int .i64 more.Other, .int .i64 more.Read.Low, .int .i64 more.Read.High] 61), (3, .cells b_2 [.int .i64 n.a0, .int .i64 n.a1] 28)] w) (hS.weak (ms := [(1, .cells b [.int .i64 c.Hours, .slice p c.Rates.length c_1, .slice p_1 c.Opens.length c_2, .slice p_2 c.Pairs.length c_3] 26), (2, .cells b_1 [.int .i64 more.Hour, .int .i64 more.One, .int .i64 more.Other, .int .i64 more.Read.Low, .int .i64 more.Read.High] 61), (3, .cells b_2 [.int .i64 n.a0, .int .i64 n.a1] 28)]) ⟨rfl, rfl, rfl, trivial⟩).drew (fun _ _ _ _ h => h) ?_ ?_
  ·replace hS := hS.drew
   have hle0 := hS.le
   refine stepV (i := 0) rfl hF (fun w hS => Y.indexArr u_28 sz_3 hF rfl rfl (by decide) (by decide)) rfl fun a hF => ?_
   refine stepV (i := 1) rfl hF (fun w hS => Y.load1L 3 sz_3 hF rfl hS rfl rfl) rfl fun a hF => ?_
   refine stepV (i := 2) rfl hF (fun w hS => Y.fieldAddr fo_26_1 hF rfl) rfl fun a hF => ?_
   refine stepV (i := 3) rfl hF (fun w hS => Y.load1L 1 sz_22 hF rfl hS rfl rfl) rfl fun a hF => ?_
   refine stepV (i := 4) rfl hF (fun w hS => Y.lenSl u_22 hF rfl) rfl fun a hF => ?_
   refine stepV (i := 6) rfl hF (fun w hS => Y.indexArr u_28 sz_3 hF rfl rfl (by decide) (by decide)) rfl fun a hF => ?_
   refine stepV (i := 7) rfl hF (fun w hS => Y.load1L 3 sz_3 hF rfl hS rfl rfl) rfl fun a hF => ?_
   refine stepV (i := 8) rfl hF (fun w hS => Y.fieldAddr fo_26_0 hF rfl) rfl fun a hF => ?_
   refine stepV (i := 9) rfl hF (fun w hS => Y.load1L 1 sz_3 hF rfl hS rfl rfl) rfl fun a hF => ?_
   refine stepV (i := 10) rfl hF (fun w hS => Y.add hF rfl rfl) rfl fun a hF => ?_
   refine oneV (i := 5) rfl ?_ trivial
   refine O.callP (us := [.int .i64 n.a0, .int .i64 (c.Rates.length : Int)]) ca_34 hF hS (remontoirref00_Rest_ok hS.stab n.a0 (c.Rates.length : Int) rv_2 hx_2) rfl rfl fun a w hF hS => ?_
   refine nil (then_n ⟨hS.weak (ms := [(1, .cells b [.int .i64 c.Hours, .slice p c.Rates.length c_1, .slice p_1 c.Opens.length c_2, .slice p_2 c.Pairs.length c_3] 26), (2, .cells b_1 [.int .i64 more.Hour, .int .i64 more.One, .int .i64 more.Other, .int .i64 more.Read.Low, .int .i64 more.Read.High] 61), (3, .cells b_2 [.int .i64 n.a0, .int .i64 n.a1] 28)]) ⟨rfl, rfl, rfl, trivial⟩, ?_⟩)
   exact toTailV ⟨hF.weak ⟨rfl, rfl, rfl, rfl, rfl, rfl, trivial⟩, hS.weak ⟨rfl, rfl, rfl, trivial⟩⟩
  rintro a w ⟨hF, hS⟩
  obtain ⟨rv_3, hx_3, h⟩ := bind_some h
  refine O.callP (us := [.int .i64 n.a1, .int .i64 (wr (c.Hours + 1))]) ca_34 hF hS (remontoirref00_Rest_ok hS.stab n.a1 (wr (c.Hours + 1)) rv_3 hx_3) rfl rfl fun a w hF hS => ?_
  refine step hF (Y.assign hF rfl) rfl fun a hF => ?_
  refine step hF (Y.assign hF rfl) rfl fun a hF => ?_
  refine nil (then_n ?_)
  refine seq ?_
  refine region ?_
  refine step hF (Y.loadNL 1 sz_26 hF rfl hS rfl rfl rfl) rfl fun a hF => ?_
  refine O.alloc 4 zc_26 hF hS rfl fun b_3 a w hF hS => ?_
  replace hS := hS.ownNil 5 63 4
  replace hS := hS.ownNil 6 61 5
  replace hS := hS.ownNil 7 61 5
  refine O.store (us := [.int .i64 c.Hours, .slice p c.Rates.length c_1, .slice p_1 c.Opens.length c_2, .slice p_2 c.Pairs.length c_3]) 4 sz_26 hF rfl rfl rfl rfl hS rfl rfl fun a w hF hS => ?_
  refine nil (then_n ?_)
  refine seq ?_
  refine region ?_
  refine step hF (Y.fieldAddr fo_26_2 hF rfl) rfl fun a hF => ?_
  refine O.store (us := [.slice none 0 0]) 4 sz_23 hF rfl rfl rfl rfl hS rfl rfl fun a w hF hS => ?_
  replace hS := hS.ownNil 8 63 4
  refine step hF (Y.fieldAddr fo_26_3 hF rfl) rfl fun a hF => ?_
  refine O.store (us := [.slice none 0 0]) 4 sz_24 hF rfl rfl rfl rfl hS rfl rfl fun a w hF hS => ?_
  replace hS := hS.ownNil 9 61 5
  refine nil (then_n ?_)
  refine seq ?_
  refine seq ?_
  refine region ?_
  refine step hF (Y.fieldAddr fo_26_2 hF rfl) rfl fun a hF => ?_
  refine step hF (Y.load1L 1 sz_23 hF rfl hS rfl rfl) rfl fun a hF => ?_
  refine step hF (Y.lenSl u_23 hF rfl) rfl fun a hF => ?_
  refine step hF (Y.sub hF rfl rfl) rfl fun a hF => ?_
  refine step hF (Y.assign hF rfl) rfl fun a hF => ?_
  refine nil (then_n ?_)
  refine block ?_
  refine loop_cut (body := remontoirlaw02_BeatMore_b1 c more rv_2 rv_3) (out := out) (fun s a w => ∃ (i : Int) (l : (List BeatOpen)), ∃ p_3 c_4 cs, s = (i, l) ∧ Frm 162 [] [(3, .pointer (some ⟨b, 0, none⟩)), (4, .pointer (some ⟨b_1, 0, none⟩)), (6, .bool false), (7, .int .i64 rv_2), (8, .int .i64 rv_3), (9, .pointer (some ⟨b_3, 0, none⟩)), (10, .int .i64 i)] a ∧ St w0 D0 D0 [(1, .cells b [.int .i64 c.Hours, .slice p c.Rates.length c_1, .slice p_1 c.Opens.length c_2, .slice p_2 c.Pairs.length c_3] 26), (2, .cells b_1 [.int .i64 more.Hour, .int .i64 more.One, .int .i64 more.Other, .int .i64 more.Read.Low, .int .i64 more.Read.High] 61), (3, .cells b_2 [.int .i64 n.a0, .int .i64 n.a1] 28), (4, .cells b_3 [.int .i64 c.Hours, .slice p c.Rates.length c_1, .slice p_3 l.length c_4, .slice none ([] : List BeatPair).length 0] 26), (5, .own none ([] : List BeatOpen).length 0 ([]) 63 4), (6, .own none ([] : List BeatPair).length 0 ([]) 61 5), (7, .own none ([] : List BeatPair).length 0 ([]) 61 5), (8, .own p_3 l.length c_4 cs 63 4), (9, .own none ([] : List BeatPair).length 0 ([]) 61 5)] w ∧ Reps C_BeatOpen D0 l cs) (wr ((c.Opens.length : Int) - 1), ([] : List BeatOpen)) h ⟨(wr ((c.Opens.length : Int) - 1)), ([] : List BeatOpen), none, 0, ([]), rfl, hF.weak ⟨rfl, rfl, rfl, rfl, rfl, rfl, rfl, trivial⟩, hS.weak ⟨rfl, rfl, rfl, rfl, rfl, rfl, rfl, rfl, rfl, trivial⟩, Reps.nil⟩ ?_
  rintro s a w xo ⟨i, l, p_3, c_4, cs, rfl, hF, hS, hr⟩ h hxo
  unfold remontoirlaw02_BeatMore_b1 at h
  dsimp only at h
  refine seq ?_
  refine seq ?_
  refine region ?_
  refine step hF (Y.move hF rfl) rfl fun a hF => ?_
  refine step hF (Y.geq hF rfl rfl) rfl fun a hF => ?_
  refine nil (then_n ?_)
  refine cond_b hF rfl (fun hbv_1 => ?_) (fun hbv_1 => ?_)
  ·replace h := cond_t h hbv_1
   refine skip_ (then_n ?_)
   refine seq ?_
   refine block ?_
   obtain ⟨e, hx_4, h⟩ := bind_some h
   refine drawsV 8 (.flt 0 (.flt 1 (.flt 2 (.flt 3 (.flt 4 (.flt 5 (.flt 6 (.alt 7 .done .stop)))))))) mixed_ (by kernel_rfl) (fun w => St w0 D0 D0 [(1, .cells b [.int .i64 c.Hours, .slice p c.Rates.length c_1, .slice p_1 c.Opens.length c_2, .slice p_2 c.Pairs.length c_3] 26), (2, .cells b_1 [.int .i64 more.Hour, .int .i64 more.One, .int .i64 more.Other, .int .i64 more.Read.Low, .int .i64 more.Read.High] 61), (3, .cells b_2 [.int .i64 n.a0, .int .i64 n.a1] 28), (4, .cells b_3 [.int .i64 c.Hours, .slice p c.Rates.length c_1, .slice p_3 l.length c_4, .slice none ([] : List BeatPair).length 0] 26), (5, .own none ([] : List BeatOpen).length 0 ([]) 63 4), (6, .own none ([] : List BeatPair).length 0 ([]) 61 5), (7, .own none ([] : List BeatPair).length 0 ([]) 61 5), (8, .own p_3 l.length c_4 cs 63 4), (9, .own none ([] : List BeatPair).length 0 ([]) 61 5)] w) (fun a w => ∃ (p_4 : Option Addr) (c_5 : Nat) (cs_1 : List Value), Frm 162 [] [(3, .pointer (some ⟨b, 0, none⟩)), (4, .pointer (some ⟨b_1, 0, none⟩)), (6, .bool false), (7, .int .i64 rv_2), (8, .int .i64 rv_3), (9, .pointer (some ⟨b_3, 0, none⟩)), (10, .int .i64 i), (47, .slice p_3 l.length c_4), (53, .slice p_4 ([e]).length c_5)] a ∧ St w0 D0 D0 [(1, .cells b [.int .i64 c.Hours, .slice p c.Rates.length c_1, .slice p_1 c.Opens.length c_2, .slice p_2 c.Pairs.length c_3] 26), (2, .cells b_1 [.int .i64 more.Hour, .int .i64 more.One, .int .i64 more.Other, .int .i64 more.Read.Low, .int .i64 more.Read.High] 61), (3, .cells b_2 [.int .i64 n.a0, .int .i64 n.a1] 28), (4, .cells b_3 [.int .i64 c.Hours, .slice p c.Rates.length c_1, .slice p_3 l.length c_4, .slice none ([] : List BeatPair).length 0] 26), (5, .own none ([] : List BeatOpen).length 0 ([]) 63 4), (6, .own none ([] : List BeatPair).length 0 ([]) 61 5), (7, .own none ([] : List BeatPair).length 0 ([]) 61 5), (8, .own p_3 l.length c_4 cs 63 4), (9, .own none ([] : List BeatPair).length 0 ([]) 61 5), (10, .own p_4 ([e]).length c_5 cs_1 63 4)] w ∧ Reps C_BeatOpen D0 ([e]) cs_1) (hS.weak (ms := [(1, .cells b [.int .i64 c.Hours, .slice p c.Rates.length c_1, .slice p_1 c.Opens.length c_2, .slice p_2 c.Pairs.length c_3] 26), (2, .cells b_1 [.int .i64 more.Hour, .int .i64 more.One, .int .i64 more.Other, .int .i64 more.Read.Low, .int .i64 more.Read.High] 61), (3, .cells b_2 [.int .i64 n.a0, .int .i64 n.a1] 28), (4, .cells b_3 [.int .i64 c.Hours, .slice p c.Rates.length c_1, .slice p_3 l.length c_4, .slice none ([] : List BeatPair).length 0] 26), (5, .own none ([] : List BeatOpen).length 0 ([]) 63 4), (6, .own none ([] : List BeatPair).length 0 ([]) 61 5), (7, .own none ([] : List BeatPair).length 0 ([]) 61 5), (8, .own p_3 l.length c_4 cs 63 4), (9, .own none ([] : List BeatPair).length 0 ([]) 61 5)]) ⟨rfl, rfl, rfl, rfl, rfl, rfl, rfl, rfl, rfl, trivial⟩).drew (fun _ _ _ _ h => h) ?_ ?_
   ·replace hS := hS.drew
    have hle0 := hS.le
    refine stepV (i := 0) rfl hF (fun w hS => Y.fieldAddr fo_26_2 hF rfl) rfl fun a hF => ?_
    refine stepV (i := 1) rfl hF (fun w hS => Y.load1L 4 sz_23 hF rfl hS rfl rfl) rfl fun a hF => ?_
    refine stepV (i := 2) rfl hF (fun w hS => Y.fieldAddr fo_26_2 hF rfl) rfl fun a hF => ?_
    refine stepV (i := 3) rfl hF (fun w hS => Y.load1L 1 sz_23 hF rfl hS rfl rfl) rfl fun a hF => ?_
    refine stepV (i := 4) rfl hF (fun w hS => Y.move hF rfl) rfl fun a hF => ?_
    obtain ⟨b_5, o_1, hE_1, hY_1⟩ := Y.indexS (P := Tryd.prog) (C := C_BeatOpen) (xs := c.Opens) (T := 23) (x := (.tmp 49)) (y := (.tmp 50)) u_23 sz_63 hF rfl rfl (hs_1).1 hx_4
    obtain ⟨cc_1, hc_1, hcell_1⟩ := hE_1.open
    obtain rfl := C_BeatOpen.open hc_1
    refine stepV (i := 5) rfl hF (fun w hS => hY_1) rfl fun a hF => ?_
    refine stepV (i := 6) rfl hF (fun w hS => Y.loadNE (o := o_1) (k := 0) sz_63 hF rfl (hcell_1 _ hS.stab) rfl rfl) rfl fun a hF => ?_
    refine oneV (i := 7) rfl ?_ trivial
    have hr_2 : Reps C_BeatOpen D0 [e] [.int .i64 e.Clock, .int .i64 e.Hour, .int .i64 e.Step.Low, .int .i64 e.Step.High] := Reps.cons (C := C_BeatOpen) (x := e) (c := [.int .i64 e.Clock, .int .i64 e.Hour, .int .i64 e.Step.Low, .int .i64 e.Step.High]) (r := []) rfl (Reps.nil)
    refine O.buildSlice (E := 63) (C := C_BeatOpen) (xs := [e]) (cs := [.int .i64 e.Clock, .int .i64 e.Hour, .int .i64 e.Step.Low, .int .i64 e.Step.High]) (us := [.agg #[.int .i64 e.Clock, .int .i64 e.Hour, .int .i64 e.Step.Low, .int .i64 e.Step.High]]) (parts := [(0, (.tmp 52))]) 10 hF hS rfl (by kernel_rfl) hr_2 rfl rfl rfl fun p_5 c_6 a w hF hS => ?_
    refine nil (then_n ⟨hS.weak (ms := [(1, .cells b [.int .i64 c.Hours, .slice p c.Rates.length c_1, .slice p_1 c.Opens.length c_2, .slice p_2 c.Pairs.length c_3] 26), (2, .cells b_1 [.int .i64 more.Hour, .int .i64 more.One, .int .i64 more.Other, .int .i64 more.Read.Low, .int .i64 more.Read.High] 61), (3, .cells b_2 [.int .i64 n.a0, .int .i64 n.a1] 28), (4, .cells b_3 [.int .i64 c.Hours, .slice p c.Rates.length c_1, .slice p_3 l.length c_4, .slice none ([] : List BeatPair).length 0] 26), (5, .own none ([] : List BeatOpen).length 0 ([]) 63 4), (6, .own none ([] : List BeatPair).length 0 ([]) 61 5), (7, .own none ([] : List BeatPair).length 0 ([]) 61 5), (8, .own p_3 l.length c_4 cs 63 4), (9, .own none ([] : List BeatPair).length 0 ([]) 61 5)]) ⟨rfl, rfl, rfl, rfl, rfl, rfl, rfl, rfl, rfl, trivial⟩, ?_⟩)
    exact toTailV ⟨p_5, c_6, ([.int .i64 e.Clock, .int .i64 e.Hour, .int .i64 e.Step.Low, .int .i64 e.Step.High]), hF.weak ⟨rfl, rfl, rfl, rfl, rfl, rfl, rfl, rfl, rfl, trivial⟩, hS.weak ⟨rfl, rfl, rfl, rfl, rfl, rfl, rfl, rfl, rfl, rfl, trivial⟩, hr_2⟩
   rintro a w ⟨p_4, c_5, cs_1, hF, hS, hj⟩
   obtain ⟨hg, h⟩ := ite_some h
   refine O.append (C := C_BeatOpen) (xs := l) (ys := [e]) 8 gr_23 hF rfl rfl hS rfl (src_own (i := 10) hS rfl) hr hj hg rfl fun p_6 c_7 a w hF hS hr_3 => ?_
   refine step hF (Y.fieldAddr fo_26_2 hF rfl) rfl fun a hF => ?_
   refine O.store (us := [.slice p_6 (l ++ [e]).length c_7]) 4 sz_23 hF rfl rfl rfl rfl hS rfl rfl fun a w hF hS => ?_
   refine nil (blk_n (then_n ?_))
   refine region ?_
   refine step hF (Y.move hF rfl) rfl fun a hF => ?_
   refine step hF (Y.sub hF rfl rfl) rfl fun a hF => ?_
   refine step hF (Y.assign hF rfl) rfl fun a hF => ?_
   refine nil (then_n ?_)
   exact ⟨_, nxt_some h, (wr (i - 1)), (l ++ [e]), p_6, c_7, (cs ++ cs_1), rfl, hF.weak ⟨rfl, rfl, rfl, rfl, rfl, rfl, rfl, trivial⟩, hS.weak ⟨rfl, rfl, rfl, rfl, rfl, rfl, rfl, rfl, rfl, trivial⟩, hr_3⟩
  ·replace h := cond_f h hbv_1
   refine exit_ (then_x (then_x (blk_hit (then_n ?_))))
   replace h := ext_some h hxo
   refine seq ?_
   refine seq ?_
   refine region ?_
   refine step hF (Y.fieldAddr fo_26_3 hF rfl) rfl fun a hF => ?_
   refine step hF (Y.load1L 1 sz_24 hF rfl hS rfl rfl) rfl fun a hF => ?_
   refine step hF (Y.lenSl u_24 hF rfl) rfl fun a hF => ?_
   refine step hF (Y.sub hF rfl rfl) rfl fun a hF => ?_
   refine step hF (Y.assign hF rfl) rfl fun a hF => ?_
   refine nil (then_n ?_)
   refine block ?_
   refine loop_cut (body := remontoirlaw02_BeatMore_b2 c more rv_2 rv_3 l) (out := out) (fun s a w => ∃ (i_1 : Int) (l_1 : (List BeatPair)), ∃ p_7 c_8 cs_2, s = (i_1, l_1) ∧ Frm 162 [] [(3, .pointer (some ⟨b, 0, none⟩)), (4, .pointer (some ⟨b_1, 0, none⟩)), (6, .bool false), (7, .int .i64 rv_2), (8, .int .i64 rv_3), (9, .pointer (some ⟨b_3, 0, none⟩)), (11, .int .i64 i_1)] a ∧ St w0 D0 D0 [(1, .cells b [.int .i64 c.Hours, .slice p c.Rates.length c_1, .slice p_1 c.Opens.length c_2, .slice p_2 c.Pairs.length c_3] 26), (2, .cells b_1 [.int .i64 more.Hour, .int .i64 more.One, .int .i64 more.Other, .int .i64 more.Read.Low, .int .i64 more.Read.High] 61), (3, .cells b_2 [.int .i64 n.a0, .int .i64 n.a1] 28), (4, .cells b_3 [.int .i64 c.Hours, .slice p c.Rates.length c_1, .slice p_3 l.length c_4, .slice p_7 l_1.length c_8] 26), (5, .own none ([] : List BeatOpen).length 0 ([]) 63 4), (6, .own none ([] : List BeatPair).length 0 ([]) 61 5), (7, .own none ([] : List BeatPair).length 0 ([]) 61 5), (8, .own p_3 l.length c_4 cs 63 4), (9, .own p_7 l_1.length c_8 cs_2 61 5)] w ∧ Reps C_BeatPair D0 l_1 cs_2) (wr ((c.Pairs.length : Int) - 1), ([] : List BeatPair)) h ⟨(wr ((c.Pairs.length : Int) - 1)), ([] : List BeatPair), none, 0, ([]), rfl, hF.weak ⟨rfl, rfl, rfl, rfl, rfl, rfl, rfl, trivial⟩, hS.weak ⟨rfl, rfl, rfl, rfl, rfl, rfl, rfl, rfl, rfl, trivial⟩, Reps.nil⟩ ?_
   rintro s a w xo_1 ⟨i_1, l_1, p_7, c_8, cs_2, rfl, hF, hS, hr_4⟩ h hxo_1
   unfold remontoirlaw02_BeatMore_b2 at h
   dsimp only at h
   refine seq ?_
   refine seq ?_
   refine region ?_
   refine step hF (Y.move hF rfl) rfl fun a hF => ?_
   refine step hF (Y.geq hF rfl rfl) rfl fun a hF => ?_
   refine nil (then_n ?_)
   refine cond_b hF rfl (fun hbv_2 => ?_) (fun hbv_2 => ?_)
   ·replace h := cond_t h hbv_2
    refine skip_ (then_n ?_)
    refine seq ?_
    refine block ?_
    obtain ⟨e_1, hx_5, h⟩ := bind_some h
    refine drawsV 8 (.flt 0 (.flt 1 (.flt 2 (.flt 3 (.flt 4 (.flt 5 (.flt 6 (.alt 7 .done .stop)))))))) mixed_ (by kernel_rfl) (fun w => St w0 D0 D0 [(1, .cells b [.int .i64 c.Hours, .slice p c.Rates.length c_1, .slice p_1 c.Opens.length c_2, .slice p_2 c.Pairs.length c_3] 26), (2, .cells b_1 [.int .i64 more.Hour, .int .i64 more.One, .int .i64 more.Other, .int .i64 more.Read.Low, .int .i64 more.Read.High] 61), (3, .cells b_2 [.int .i64 n.a0, .int .i64 n.a1] 28), (4, .cells b_3 [.int .i64 c.Hours, .slice p c.Rates.length c_1, .slice p_3 l.length c_4, .slice p_7 l_1.length c_8] 26), (5, .own none ([] : List BeatOpen).length 0 ([]) 63 4), (6, .own none ([] : List BeatPair).length 0 ([]) 61 5), (7, .own none ([] : List BeatPair).length 0 ([]) 61 5), (8, .own p_3 l.length c_4 cs 63 4), (9, .own p_7 l_1.length c_8 cs_2 61 5)] w) (fun a w => ∃ (p_8 : Option Addr) (c_9 : Nat) (cs_3 : List Value), Frm 162 [] [(3, .pointer (some ⟨b, 0, none⟩)), (4, .pointer (some ⟨b_1, 0, none⟩)), (6, .bool false), (7, .int .i64 rv_2), (8, .int .i64 rv_3), (9, .pointer (some ⟨b_3, 0, none⟩)), (11, .int .i64 i_1), (65, .slice p_7 l_1.length c_8), (71, .slice p_8 ([e_1]).length c_9)] a ∧ St w0 D0 D0 [(1, .cells b [.int .i64 c.Hours, .slice p c.Rates.length c_1, .slice p_1 c.Opens.length c_2, .slice p_2 c.Pairs.length c_3] 26), (2, .cells b_1 [.int .i64 more.Hour, .int .i64 more.One, .int .i64 more.Other, .int .i64 more.Read.Low, .int .i64 more.Read.High] 61), (3, .cells b_2 [.int .i64 n.a0, .int .i64 n.a1] 28), (4, .cells b_3 [.int .i64 c.Hours, .slice p c.Rates.length c_1, .slice p_3 l.length c_4, .slice p_7 l_1.length c_8] 26), (5, .own none ([] : List BeatOpen).length 0 ([]) 63 4), (6, .own none ([] : List BeatPair).length 0 ([]) 61 5), (7, .own none ([] : List BeatPair).length 0 ([]) 61 5), (8, .own p_3 l.length c_4 cs 63 4), (9, .own p_7 l_1.length c_8 cs_2 61 5), (11, .own p_8 ([e_1]).length c_9 cs_3 61 5)] w ∧ Reps C_BeatPair D0 ([e_1]) cs_3) (hS.weak (ms := [(1, .cells b [.int .i64 c.Hours, .slice p c.Rates.length c_1, .slice p_1 c.Opens.length c_2, .slice p_2 c.Pairs.length c_3] 26), (2, .cells b_1 [.int .i64 more.Hour, .int .i64 more.One, .int .i64 more.Other, .int .i64 more.Read.Low, .int .i64 more.Read.High] 61), (3, .cells b_2 [.int .i64 n.a0, .int .i64 n.a1] 28), (4, .cells b_3 [.int .i64 c.Hours, .slice p c.Rates.length c_1, .slice p_3 l.length c_4, .slice p_7 l_1.length c_8] 26), (5, .own none ([] : List BeatOpen).length 0 ([]) 63 4), (6, .own none ([] : List BeatPair).length 0 ([]) 61 5), (7, .own none ([] : List BeatPair).length 0 ([]) 61 5), (8, .own p_3 l.length c_4 cs 63 4), (9, .own p_7 l_1.length c_8 cs_2 61 5)]) ⟨rfl, rfl, rfl, rfl, rfl, rfl, rfl, rfl, rfl, trivial⟩).drew (fun _ _ _ _ h => h) ?_ ?_
    ·replace hS := hS.drew
     have hle0 := hS.le
     refine stepV (i := 0) rfl hF (fun w hS => Y.fieldAddr fo_26_3 hF rfl) rfl fun a hF => ?_
     refine stepV (i := 1) rfl hF (fun w hS => Y.load1L 4 sz_24 hF rfl hS rfl rfl) rfl fun a hF => ?_
     refine stepV (i := 2) rfl hF (fun w hS => Y.fieldAddr fo_26_3 hF rfl) rfl fun a hF => ?_
     refine stepV (i := 3) rfl hF (fun w hS => Y.load1L 1 sz_24 hF rfl hS rfl rfl) rfl fun a hF => ?_
     refine stepV (i := 4) rfl hF (fun w hS => Y.move hF rfl) rfl fun a hF => ?_
     obtain ⟨b_7, o_3, hE_3, hY_3⟩ := Y.indexS (P := Tryd.prog) (C := C_BeatPair) (xs := c.Pairs) (T := 24) (x := (.tmp 67)) (y := (.tmp 68)) u_24 sz_61 hF rfl rfl (hs_2).1 hx_5
     obtain ⟨cc_3, hc_3, hcell_3⟩ := hE_3.open
     obtain rfl := C_BeatPair.open hc_3
     refine stepV (i := 5) rfl hF (fun w hS => hY_3) rfl fun a hF => ?_
     refine stepV (i := 6) rfl hF (fun w hS => Y.loadNE (o := o_3) (k := 0) sz_61 hF rfl (hcell_3 _ hS.stab) rfl rfl) rfl fun a hF => ?_
     refine oneV (i := 7) rfl ?_ trivial
     have hr_6 : Reps C_BeatPair D0 [e_1] [.int .i64 e_1.Hour, .int .i64 e_1.One, .int .i64 e_1.Other, .int .i64 e_1.Read.Low, .int .i64 e_1.Read.High] := Reps.cons (C := C_BeatPair) (x := e_1) (c := [.int .i64 e_1.Hour, .int .i64 e_1.One, .int .i64 e_1.Other, .int .i64 e_1.Read.Low, .int .i64 e_1.Read.High]) (r := []) rfl (Reps.nil)
     refine O.buildSlice (E := 61) (C := C_BeatPair) (xs := [e_1]) (cs := [.int .i64 e_1.Hour, .int .i64 e_1.One, .int .i64 e_1.Other, .int .i64 e_1.Read.Low, .int .i64 e_1.Read.High]) (us := [.agg #[.int .i64 e_1.Hour, .int .i64 e_1.One, .int .i64 e_1.Other, .int .i64 e_1.Read.Low, .int .i64 e_1.Read.High]]) (parts := [(0, (.tmp 70))]) 11 hF hS rfl (by kernel_rfl) hr_6 rfl rfl rfl fun p_9 c_10 a w hF hS => ?_
     refine nil (then_n ⟨hS.weak (ms := [(1, .cells b [.int .i64 c.Hours, .slice p c.Rates.length c_1, .slice p_1 c.Opens.length c_2, .slice p_2 c.Pairs.length c_3] 26), (2, .cells b_1 [.int .i64 more.Hour, .int .i64 more.One, .int .i64 more.Other, .int .i64 more.Read.Low, .int .i64 more.Read.High] 61), (3, .cells b_2 [.int .i64 n.a0, .int .i64 n.a1] 28), (4, .cells b_3 [.int .i64 c.Hours, .slice p c.Rates.length c_1, .slice p_3 l.length c_4, .slice p_7 l_1.length c_8] 26), (5, .own none ([] : List BeatOpen).length 0 ([]) 63 4), (6, .own none ([] : List BeatPair).length 0 ([]) 61 5), (7, .own none ([] : List BeatPair).length 0 ([]) 61 5), (8, .own p_3 l.length c_4 cs 63 4), (9, .own p_7 l_1.length c_8 cs_2 61 5)]) ⟨rfl, rfl, rfl, rfl, rfl, rfl, rfl, rfl, rfl, trivial⟩, ?_⟩)
     exact toTailV ⟨p_9, c_10, ([.int .i64 e_1.Hour, .int .i64 e_1.One, .int .i64 e_1.Other, .int .i64 e_1.Read.Low, .int .i64 e_1.Read.High]), hF.weak ⟨rfl, rfl, rfl, rfl, rfl, rfl, rfl, rfl, rfl, trivial⟩, hS.weak ⟨rfl, rfl, rfl, rfl, rfl, rfl, rfl, rfl, rfl, rfl, trivial⟩, hr_6⟩
    rintro a w ⟨p_8, c_9, cs_3, hF, hS, hj_1⟩
    obtain ⟨hg_1, h⟩ := ite_some h
    refine O.append (C := C_BeatPair) (xs := l_1) (ys := [e_1]) 9 gr_24 hF rfl rfl hS rfl (src_own (i := 11) hS rfl) hr_4 hj_1 hg_1 rfl fun p_10 c_11 a w hF hS hr_7 => ?_
    refine step hF (Y.fieldAddr fo_26_3 hF rfl) rfl fun a hF => ?_
    refine O.store (us := [.slice p_10 (l_1 ++ [e_1]).length c_11]) 4 sz_24 hF rfl rfl rfl rfl hS rfl rfl fun a w hF hS => ?_
    refine nil (blk_n (then_n ?_))
    refine region ?_
    refine step hF (Y.move hF rfl) rfl fun a hF => ?_
    refine step hF (Y.sub hF rfl rfl) rfl fun a hF => ?_
    refine step hF (Y.assign hF rfl) rfl fun a hF => ?_
    refine nil (then_n ?_)
    exact ⟨_, nxt_some h, (wr (i_1 - 1)), (l_1 ++ [e_1]), p_10, c_11, (cs_2 ++ cs_3), rfl, hF.weak ⟨rfl, rfl, rfl, rfl, rfl, rfl, rfl, trivial⟩, hS.weak ⟨rfl, rfl, rfl, rfl, rfl, rfl, rfl, rfl, rfl, trivial⟩, hr_7⟩
   ·replace h := cond_f h hbv_2
    refine exit_ (then_x (then_x (blk_hit (then_n ?_))))
    replace h := ext_some h hxo_1
    refine seq_cut (fun a w => ∃ (l_2 : (List BeatPair)), ∃ p_11 c_12 cs_4, Frm 162 [] [(3, .pointer (some ⟨b, 0, none⟩)), (4, .pointer (some ⟨b_1, 0, none⟩)), (6, .bool false), (7, .int .i64 rv_2), (8, .int .i64 rv_3), (9, .pointer (some ⟨b_3, 0, none⟩))] a ∧ St w0 D0 D0 [(1, .cells b [.int .i64 c.Hours, .slice p c.Rates.length c_1, .slice p_1 c.Opens.length c_2, .slice p_2 c.Pairs.length c_3] 26), (2, .cells b_1 [.int .i64 more.Hour, .int .i64 more.One, .int .i64 more.Other, .int .i64 more.Read.Low, .int .i64 more.Read.High] 61), (3, .cells b_2 [.int .i64 n.a0, .int .i64 n.a1] 28), (4, .cells b_3 [.int .i64 c.Hours, .slice p c.Rates.length c_1, .slice p_3 l.length c_4, .slice p_11 l_2.length c_12] 26), (5, .own none ([] : List BeatOpen).length 0 ([]) 63 4), (6, .own none ([] : List BeatPair).length 0 ([]) 61 5), (7, .own none ([] : List BeatPair).length 0 ([]) 61 5), (8, .own p_3 l.length c_4 cs 63 4), (9, .own p_11 l_2.length c_12 cs_4 61 5)] w ∧ Reps C_BeatPair D0 l_2 cs_4 ∧ remontoirlaw02_BeatMore_k3 c more rv_2 rv_3 l l_2 = some out) ?_ ?_
    ·skip
     refine seq ?_
     refine region ?_
     refine step hF (Y.fieldAddr fo_26_3 hF rfl) rfl fun a hF => ?_
     refine step hF (Y.load1L 1 sz_24 hF rfl hS rfl rfl) rfl fun a hF => ?_
     refine step hF (Y.lenSl u_24 hF rfl) rfl fun a hF => ?_
     refine step hF (Y.gtr hF rfl rfl) rfl fun a hF => ?_
     refine step hF (Y.move hF rfl) rfl fun a hF => ?_
     refine join (N := 162) (rs := []) (w0 := w0) (D0 := D0) 5 (us := [(3, .pointer (some ⟨b, 0, none⟩)), (4, .pointer (some ⟨b_1, 0, none⟩)), (6, .bool false), (7, .int .i64 rv_2), (8, .int .i64 rv_3), (9, .pointer (some ⟨b_3, 0, none⟩)), (83, .bool ((decide ((c.Pairs.length : Int) > 0)) && (decide ((c.Pairs.length : Int) < 14))))]) (ms := [(1, .cells b [.int .i64 c.Hours, .slice p c.Rates.length c_1, .slice p_1 c.Opens.length c_2, .slice p_2 c.Pairs.length c_3] 26), (2, .cells b_1 [.int .i64 more.Hour, .int .i64 more.One, .int .i64 more.Other, .int .i64 more.Read.Low, .int .i64 more.Read.High] 61), (3, .cells b_2 [.int .i64 n.a0, .int .i64 n.a1] 28), (4, .cells b_3 [.int .i64 c.Hours, .slice p c.Rates.length c_1, .slice p_3 l.length c_4, .slice p_7 l_1.length c_8] 26), (5, .own none ([] : List BeatOpen).length 0 ([]) 63 4), (6, .own none ([] : List BeatPair).length 0 ([]) 61 5), (7, .own none ([] : List BeatPair).length 0 ([]) 61 5), (8, .own p_3 l.length c_4 cs 63 4), (9, .own p_7 l_1.length c_8 cs_2 61 5)]) (D' := D0) ?_ ?_
     ·rcases bcases (decide ((c.Pairs.length : Int) > 0)) with hbv_12 | hbv_12
      ·-- true
       refine guard_on hF rfl rfl hbv_12 ?_
       refine step hF (Y.fieldAddr fo_26_3 hF rfl) rfl fun a hF => ?_
       refine guard_on hF rfl rfl hbv_12 ?_
       refine step hF (Y.load1L 1 sz_24 hF rfl hS rfl rfl) rfl fun a hF => ?_
       refine guard_on hF rfl rfl hbv_12 ?_
       refine step hF (Y.lenSl u_24 hF rfl) rfl fun a hF => ?_
       refine guard_on hF rfl rfl hbv_12 ?_
       refine step hF (Y.lss hF rfl rfl) rfl fun a hF => ?_
       refine step hF (Y.pick_t hF rfl hbv_12 rfl) rfl fun a hF => ?_
       exact nil (then_n ⟨hF.weak ⟨rfl, rfl, rfl, rfl, rfl, rfl, (by rw [hbv_12]; rfl), trivial⟩, hS.weak ⟨rfl, rfl, rfl, rfl, rfl, rfl, rfl, rfl, rfl, trivial⟩⟩)
      ·-- false
       refine guard_off hF rfl rfl hbv_12 rfl fun a hF => ?_
       refine guard_off hF rfl rfl hbv_12 rfl fun a hF => ?_
       refine guard_off hF rfl rfl hbv_12 rfl fun a hF => ?_
       refine guard_off hF rfl rfl hbv_12 rfl fun a hF => ?_
       refine step hF (Y.pick_f hF rfl hbv_12 rfl) rfl fun a hF => ?_
       exact nil (then_n ⟨hF.weak ⟨rfl, rfl, rfl, rfl, rfl, rfl, (by rw [hbv_12]; rfl), trivial⟩, hS.weak ⟨rfl, rfl, rfl, rfl, rfl, rfl, rfl, rfl, rfl, trivial⟩⟩)
     intro a w hF hS
     refine nil (then_n ?_)
     refine cond_b hF rfl (fun hbv_13 => ?_) (fun hbv_13 => ?_)
     ·replace h := cond_t h hbv_13
      obtain ⟨e_2, hx_13, h⟩ := bind_some h
      refine drawsV 7 (.flt 0 (.flt 1 (.flt 2 (.flt 3 (.flt 4 (.flt 5 (.alt 6 .done .stop))))))) mixed_ (by kernel_rfl) (fun w => St w0 D0 D0 [(1, .cells b [.int .i64 c.Hours, .slice p c.Rates.length c_1, .slice p_1 c.Opens.length c_2, .slice p_2 c.Pairs.length c_3] 26), (2, .cells b_1 [.int .i64 more.Hour, .int .i64 more.One, .int .i64 more.Other, .int .i64 more.Read.Low, .int .i64 more.Read.High] 61), (3, .cells b_2 [.int .i64 n.a0, .int .i64 n.a1] 28), (4, .cells b_3 [.int .i64 c.Hours, .slice p c.Rates.length c_1, .slice p_3 l.length c_4, .slice p_7 l_1.length c_8] 26), (5, .own none ([] : List BeatOpen).length 0 ([]) 63 4), (6, .own none ([] : List BeatPair).length 0 ([]) 61 5), (7, .own none ([] : List BeatPair).length 0 ([]) 61 5), (8, .own p_3 l.length c_4 cs 63 4), (9, .own p_7 l_1.length c_8 cs_2 61 5)] w) (fun a w => ∃ (p_24 : Option Addr) (c_25 : Nat) (cs_6 : List Value), Frm 162 [] [(3, .pointer (some ⟨b, 0, none⟩)), (4, .pointer (some ⟨b_1, 0, none⟩)), (6, .bool false), (7, .int .i64 rv_2), (8, .int .i64 rv_3), (9, .pointer (some ⟨b_3, 0, none⟩)), (85, .slice p_7 l_1.length c_8), (90, .slice p_24 ([e_2]).length c_25)] a ∧ St w0 D0 D0 [(1, .cells b [.int .i64 c.Hours, .slice p c.Rates.length c_1, .slice p_1 c.Opens.length c_2, .slice p_2 c.Pairs.length c_3] 26), (2, .cells b_1 [.int .i64 more.Hour, .int .i64 more.One, .int .i64 more.Other, .int .i64 more.Read.Low, .int .i64 more.Read.High] 61), (3, .cells b_2 [.int .i64 n.a0, .int .i64 n.a1] 28), (4, .cells b_3 [.int .i64 c.Hours, .slice p c.Rates.length c_1, .slice p_3 l.length c_4, .slice p_7 l_1.length c_8] 26), (5, .own none ([] : List BeatOpen).length 0 ([]) 63 4), (6, .own none ([] : List BeatPair).length 0 ([]) 61 5), (7, .own none ([] : List BeatPair).length 0 ([]) 61 5), (8, .own p_3 l.length c_4 cs 63 4), (9, .own p_7 l_1.length c_8 cs_2 61 5), (18, .own p_24 ([e_2]).length c_25 cs_6 61 5)] w ∧ Reps C_BeatPair D0 ([e_2]) cs_6) (hS.weak (ms := [(1, .cells b [.int .i64 c.Hours, .slice p c.Rates.length c_1, .slice p_1 c.Opens.length c_2, .slice p_2 c.Pairs.length c_3] 26), (2, .cells b_1 [.int .i64 more.Hour, .int .i64 more.One, .int .i64 more.Other, .int .i64 more.Read.Low, .int .i64 more.Read.High] 61), (3, .cells b_2 [.int .i64 n.a0, .int .i64 n.a1] 28), (4, .cells b_3 [.int .i64 c.Hours, .slice p c.Rates.length c_1, .slice p_3 l.length c_4, .slice p_7 l_1.length c_8] 26), (5, .own none ([] : List BeatOpen).length 0 ([]) 63 4), (6, .own none ([] : List BeatPair).length 0 ([]) 61 5), (7, .own none ([] : List BeatPair).length 0 ([]) 61 5), (8, .own p_3 l.length c_4 cs 63 4), (9, .own p_7 l_1.length c_8 cs_2 61 5)]) ⟨rfl, rfl, rfl, rfl, rfl, rfl, rfl, rfl, rfl, trivial⟩).drew (fun _ _ _ _ h => h) ?_ ?_
      ·replace hS := hS.drew
       have hle0 := hS.le
       refine stepV (i := 0) rfl hF (fun w hS => Y.fieldAddr fo_26_3 hF rfl) rfl fun a hF => ?_
       refine stepV (i := 1) rfl hF (fun w hS => Y.load1L 4 sz_24 hF rfl hS rfl rfl) rfl fun a hF => ?_
       refine stepV (i := 2) rfl hF (fun w hS => Y.fieldAddr fo_26_3 hF rfl) rfl fun a hF => ?_
       refine stepV (i := 3) rfl hF (fun w hS => Y.load1L 1 sz_24 hF rfl hS rfl rfl) rfl fun a hF => ?_
       obtain ⟨b_13, o_5, hE_5, hY_5⟩ := Y.indexS (P := Tryd.prog) (C := C_BeatPair) (xs := c.Pairs) (T := 24) (x := (.tmp 87)) (y := (.const (.int .i64 0))) u_24 sz_61 hF rfl rfl (hs_2).1 hx_13
       obtain ⟨cc_5, hc_5, hcell_5⟩ := hE_5.open
       obtain rfl := C_BeatPair.open hc_5
       refine stepV (i := 4) rfl hF (fun w hS => hY_5) rfl fun a hF => ?_
       refine stepV (i := 5) rfl hF (fun w hS => Y.loadNE (o := o_5) (k := 0) sz_61 hF rfl (hcell_5 _ hS.stab) rfl rfl) rfl fun a hF => ?_
       refine oneV (i := 6) rfl ?_ trivial
       have hr_22 : Reps C_BeatPair D0 [e_2] [.int .i64 e_2.Hour, .int .i64 e_2.One, .int .i64 e_2.Other, .int .i64 e_2.Read.Low, .int .i64 e_2.Read.High] := Reps.cons (C := C_BeatPair) (x := e_2) (c := [.int .i64 e_2.Hour, .int .i64 e_2.One, .int .i64 e_2.Other, .int .i64 e_2.Read.Low, .int .i64 e_2.Read.High]) (r := []) rfl (Reps.nil)
       refine O.buildSlice (E := 61) (C := C_BeatPair) (xs := [e_2]) (cs := [.int .i64 e_2.Hour, .int .i64 e_2.One, .int .i64 e_2.Other, .int .i64 e_2.Read.Low, .int .i64 e_2.Read.High]) (us := [.agg #[.int .i64 e_2.Hour, .int .i64 e_2.One, .int .i64 e_2.Other, .int .i64 e_2.Read.Low, .int .i64 e_2.Read.High]]) (parts := [(0, (.tmp 89))]) 18 hF hS rfl (by kernel_rfl) hr_22 rfl rfl rfl fun p_25 c_26 a w hF hS => ?_
       refine nil (then_n ⟨hS.weak (ms := [(1, .cells b [.int .i64 c.Hours, .slice p c.Rates.length c_1, .slice p_1 c.Opens.length c_2, .slice p_2 c.Pairs.length c_3] 26), (2, .cells b_1 [.int .i64 more.Hour, .int .i64 more.One, .int .i64 more.Other, .int .i64 more.Read.Low, .int .i64 more.Read.High] 61), (3, .cells b_2 [.int .i64 n.a0, .int .i64 n.a1] 28), (4, .cells b_3 [.int .i64 c.Hours, .slice p c.Rates.length c_1, .slice p_3 l.length c_4, .slice p_7 l_1.length c_8] 26), (5, .own none ([] : List BeatOpen).length 0 ([]) 63 4), (6, .own none ([] : List BeatPair).length 0 ([]) 61 5), (7, .own none ([] : List BeatPair).length 0 ([]) 61 5), (8, .own p_3 l.length c_4 cs 63 4), (9, .own p_7 l_1.length c_8 cs_2 61 5)]) ⟨rfl, rfl, rfl, rfl, rfl, rfl, rfl, rfl, rfl, trivial⟩, ?_⟩)
       exact toTailV ⟨p_25, c_26, ([.int .i64 e_2.Hour, .int .i64 e_2.One, .int .i64 e_2.Other, .int .i64 e_2.Read.Low, .int .i64 e_2.Read.High]), hF.weak ⟨rfl, rfl, rfl, rfl, rfl, rfl, rfl, rfl, trivial⟩, hS.weak ⟨rfl, rfl, rfl, rfl, rfl, rfl, rfl, rfl, rfl, rfl, trivial⟩, hr_22⟩
      rintro a w ⟨p_24, c_25, cs_6, hF, hS, hj_4⟩
      obtain ⟨hg_4, h⟩ := ite_some h
      refine O.append (C := C_BeatPair) (xs := l_1) (ys := [e_2]) 9 gr_24 hF rfl rfl hS rfl (src_own (i := 18) hS rfl) hr_4 hj_4 hg_4 rfl fun p_26 c_27 a w hF hS hr_23 => ?_
      refine step hF (Y.fieldAddr fo_26_3 hF rfl) rfl fun a hF => ?_
      refine O.store (us := [.slice p_26 (l_1 ++ [e_2]).length c_27]) 4 sz_24 hF rfl rfl rfl rfl hS rfl rfl fun a w hF hS => ?_
      refine nil (then_n ?_)
      exact ⟨(l_1 ++ [e_2]), p_26, c_27, (cs_2 ++ cs_6), hF.weak ⟨rfl, rfl, rfl, rfl, rfl, rfl, trivial⟩, hS.weak ⟨rfl, rfl, rfl, rfl, rfl, rfl, rfl, rfl, rfl, trivial⟩, hr_23, h⟩
     ·replace h := cond_f h hbv_13
      refine skip_ (then_n ?_)
      exact ⟨l_1, p_7, c_8, cs_2, hF.weak ⟨rfl, rfl, rfl, rfl, rfl, rfl, trivial⟩, hS.weak ⟨rfl, rfl, rfl, rfl, rfl, rfl, rfl, rfl, rfl, trivial⟩, hr_4, h⟩
    ·rintro a w ⟨l_2, p_11, c_12, cs_4, hF, hS, hr_8, h⟩
     unfold remontoirlaw02_BeatMore_k3 at h
     refine seq ?_
     refine region ?_
     refine step hF (Y.loadNL 1 sz_26 hF rfl hS rfl rfl rfl) rfl fun a hF => ?_
     refine step hF (Y.move hF rfl) rfl fun a hF => ?_
     refine step hF (Y.move hF rfl) rfl fun a hF => ?_
     obtain ⟨rv_4, hx_6, h⟩ := bind_some h
     refine O.callP (us := [.agg #[.int .i64 c.Hours, .slice p c.Rates.length c_1, .slice p_1 c.Opens.length c_2, .slice p_2 c.Pairs.length c_3], .int .i64 rv_2, .int .i64 rv_3]) ca_19 hF hS (beat_Offset_ok hS.stab c rv_2 rv_3 hs hs_1 hs_2 hG rv_4 hx_6) rfl rfl fun a w hF hS => ?_
     refine step hF (Y.move hF rfl) rfl fun a hF => ?_
     refine step hF (Y.extract hF rfl rfl) rfl fun a hF => ?_
     refine step hF (Y.extract hF rfl rfl) rfl fun a hF => ?_
     refine O.alloc 12 zc_34 hF hS rfl fun b_8 a w hF hS => ?_
     refine O.store (us := [.int .i64 rv_4.1.Low, .int .i64 rv_4.1.High]) 12 sz_34 hF rfl rfl rfl rfl hS rfl rfl fun a w hF hS => ?_
     refine step hF (Y.assign hF rfl) rfl fun a hF => ?_
     refine nil (then_n ?_)
     refine seq ?_
     refine region ?_
     refine step hF (Y.loadNL 4 sz_26 hF rfl hS rfl rfl rfl) rfl fun a hF => ?_
     refine step hF (Y.move hF rfl) rfl fun a hF => ?_
     refine step hF (Y.move hF rfl) rfl fun a hF => ?_
     obtain ⟨Dv, hlev, hs_3, hS⟩ := hS.freezeC (i := 8) (xs := l) rfl hr
     replace hs := hs.mono hlev
     replace hs_1 := hs_1.mono hlev
     replace hs_2 := hs_2.mono hlev
     replace hG := hG.mono hlev
     replace hr := hr.mono hlev
     replace hr_4 := hr_4.mono hlev
     replace hr_8 := hr_8.mono hlev
     obtain ⟨Dv_1, hlev_1, hs_4, hS⟩ := hS.freezeC (i := 9) (xs := l_2) rfl hr_8
     replace hs := hs.mono hlev_1
     replace hs_1 := hs_1.mono hlev_1
     replace hs_2 := hs_2.mono hlev_1
     replace hG := hG.mono hlev_1
     replace hr := hr.mono hlev_1
     replace hr_4 := hr_4.mono hlev_1
     replace hr_8 := hr_8.mono hlev_1
     replace hs_3 := hs_3.mono hlev_1
     obtain ⟨rv_5, hx_7, h⟩ := bind_some h
     refine O.callP (us := [.agg #[.int .i64 c.Hours, .slice p c.Rates.length c_1, .slice p_3 l.length c_4, .slice p_11 l_2.length c_12], .int .i64 rv_2, .int .i64 rv_3]) ca_19 hF hS (beat_Offset_ok hS.stab (BeatCellar.mk c.Hours c.Rates l l_2) rv_2 rv_3 hs hs_3 hs_4 hG rv_5 hx_7) rfl rfl fun a w hF hS => ?_
     refine step hF (Y.move hF rfl) rfl fun a hF => ?_
     refine step hF (Y.extract hF rfl rfl) rfl fun a hF => ?_
     refine step hF (Y.extract hF rfl rfl) rfl fun a hF => ?_
     refine O.alloc 13 zc_34 hF hS rfl fun b_9 a w hF hS => ?_
     refine O.store (us := [.int .i64 rv_5.1.Low, .int .i64 rv_5.1.High]) 13 sz_34 hF rfl rfl rfl rfl hS rfl rfl fun a w hF hS => ?_
     refine step hF (Y.assign hF rfl) rfl fun a hF => ?_
     refine nil (then_n ?_)
     refine seq ?_
     refine seq ?_
     refine region ?_
     refine step hF (Y.loadNL 12 sz_34 hF rfl hS rfl rfl rfl) rfl fun a hF => ?_
     refine step hF (Y.loadNL 13 sz_34 hF rfl hS rfl rfl rfl) rfl fun a hF => ?_
     refine step hF (Y.nest (fun w => eqT_34.equal (by decide) (l := [rv_4.1.Low, rv_4.1.High]) (m := [rv_5.1.Low, rv_5.1.High]) rfl rfl) (fun w => run_eqGuard_agg _ _ _ _ _ _ _ eg_34) hF rfl rfl) rfl fun a hF => ?_
     refine step hF (Y.move hF rfl) rfl fun a hF => ?_
     refine join (N := 162) (rs := []) (w0 := w0) (D0 := D0) 4 (us := [(3, .pointer (some ⟨b, 0, none⟩)), (4, .pointer (some ⟨b_1, 0, none⟩)), (6, .bool false), (7, .int .i64 rv_2), (8, .int .i64 rv_3), (12, .pointer (some ⟨b_8, 0, none⟩)), (13, .int .i64 rv_4.2), (114, .bool ((!([rv_4.1.Low, rv_4.1.High] == [rv_5.1.Low, rv_5.1.High])) || (rv_4.2 != rv_5.2)))]) (ms := [(1, .cells b [.int .i64 c.Hours, .slice p c.Rates.length c_1, .slice p_1 c.Opens.length c_2, .slice p_2 c.Pairs.length c_3] 26), (2, .cells b_1 [.int .i64 more.Hour, .int .i64 more.One, .int .i64 more.Other, .int .i64 more.Read.Low, .int .i64 more.Read.High] 61), (3, .cells b_2 [.int .i64 n.a0, .int .i64 n.a1] 28), (4, .cells b_3 [.int .i64 c.Hours, .slice p c.Rates.length c_1, .slice p_3 l.length c_4, .slice p_11 l_2.length c_12] 26), (5, .own none ([] : List BeatOpen).length 0 ([]) 63 4), (6, .own none ([] : List BeatPair).length 0 ([]) 61 5), (7, .own none ([] : List BeatPair).length 0 ([]) 61 5), (12, .cells b_8 [.int .i64 rv_4.1.Low, .int .i64 rv_4.1.High] 34), (13, .cells b_9 [.int .i64 rv_5.1.Low, .int .i64 rv_5.1.High] 34)]) (D' := Dv_1) ?_ ?_
     ·rcases bcases (!([rv_4.1.Low, rv_4.1.High] == [rv_5.1.Low, rv_5.1.High])) with hbv_3 | hbv_3
      ·-- true
       refine guard_off hF rfl rfl hbv_3 rfl fun a hF => ?_
       refine guard_off hF rfl rfl hbv_3 rfl fun a hF => ?_
       refine guard_off hF rfl rfl hbv_3 rfl fun a hF => ?_
       refine step hF (Y.pick_t hF rfl hbv_3 rfl) rfl fun a hF => ?_
       exact nil (then_n ⟨hF.weak ⟨rfl, rfl, rfl, rfl, rfl, rfl, rfl, (by rw [hbv_3]; rfl), trivial⟩, hS.weak ⟨rfl, rfl, rfl, rfl, rfl, rfl, rfl, rfl, rfl, trivial⟩⟩)
      ·-- false
       refine guard_on hF rfl rfl hbv_3 ?_
       refine step hF (Y.move hF rfl) rfl fun a hF => ?_
       refine guard_on hF rfl rfl hbv_3 ?_
       refine step hF (Y.move hF rfl) rfl fun a hF => ?_
       refine guard_on hF rfl rfl hbv_3 ?_
       refine step hF (Y.neq hF rfl rfl) rfl fun a hF => ?_
       refine step hF (Y.pick_f hF rfl hbv_3 rfl) rfl fun a hF => ?_
       exact nil (then_n ⟨hF.weak ⟨rfl, rfl, rfl, rfl, rfl, rfl, rfl, (by rw [hbv_3]; rfl), trivial⟩, hS.weak ⟨rfl, rfl, rfl, rfl, rfl, rfl, rfl, rfl, rfl, trivial⟩⟩)
     intro a w hF hS
     refine nil (then_n ?_)
     refine cond_b hF rfl (fun hbv_4 => ?_) (fun hbv_4 => ?_)
     ·replace h := cond_t h hbv_4
      refine seq ?_
      refine region ?_
      refine step hF (Y.assign hF rfl) rfl fun a hF => ?_
      refine nil (then_n ?_)
      refine ret_ (then_r ?_)
      obtain rfl := some_inj h
      exact leaveP Tryd.results9 hF hS (.cons (.tmp rfl) .nil) .nil rfl
     ·replace h := cond_f h hbv_4
      refine skip_ (then_n ?_)
      refine seq ?_
      refine seq ?_
      refine region ?_
      refine step hF (Y.fieldAddr fo_26_3 hF rfl) rfl fun a hF => ?_
      refine step hF (Y.load1L 1 sz_24 hF rfl hS rfl rfl) rfl fun a hF => ?_
      refine step hF (Y.lenSl u_24 hF rfl) rfl fun a hF => ?_
      refine step hF (Y.eql hF rfl rfl) rfl fun a hF => ?_
      refine nil (then_n ?_)
      refine cond_b hF rfl (fun hbv_5 => ?_) (fun hbv_5 => ?_)
      ·replace h := cond_t h hbv_5
       refine seq ?_
       refine region ?_
       obtain ⟨rv_6, hx_8, h⟩ := bind_some h
       refine O.callP (us := []) ca_21 hF hS (remontoirlaw02_works_ok hS.stab hG rv_6 hx_8) rfl rfl fun a w hF hS => ?_
       refine step hF (Y.assign hF rfl) rfl fun a hF => ?_
       refine nil (then_n ?_)
       refine ret_ (then_r ?_)
       obtain rfl := some_inj h
       exact leaveP Tryd.results9 hF hS (.cons (.tmp rfl) .nil) .nil rfl
      ·replace h := cond_f h hbv_5
       refine skip_ (then_n ?_)
       refine seq ?_
       refine region ?_
       refine step hF (Y.loadNL 1 sz_26 hF rfl hS rfl rfl rfl) rfl fun a hF => ?_
       refine O.alloc 14 zc_26 hF hS rfl fun b_10 a w hF hS => ?_
       refine O.store (us := [.int .i64 c.Hours, .slice p c.Rates.length c_1, .slice p_1 c.Opens.length c_2, .slice p_2 c.Pairs.length c_3]) 14 sz_26 hF rfl rfl rfl rfl hS rfl rfl fun a w hF hS => ?_
       refine nil (then_n ?_)
       refine seq ?_
       obtain ⟨hg_2, h⟩ := ite_some h
       refine drawsV 6 (.flt 1 (.flt 2 (.flt 4 (.alt 0 (.alt 3 (.alt 5 .done .stop) (.alt 5 (.alt 3 .done .stop) .stop)) (.alt 5 (.alt 0 (.alt 3 .done .stop) .stop) .stop))))) mixed_ (by kernel_rfl) (fun w => St w0 D0 Dv_1 [(1, .cells b [.int .i64 c.Hours, .slice p c.Rates.length c_1, .slice p_1 c.Opens.length c_2, .slice p_2 c.Pairs.length c_3] 26), (2, .cells b_1 [.int .i64 more.Hour, .int .i64 more.One, .int .i64 more.Other, .int .i64 more.Read.Low, .int .i64 more.Read.High] 61), (3, .cells b_2 [.int .i64 n.a0, .int .i64 n.a1] 28), (4, .cells b_3 [.int .i64 c.Hours, .slice p c.Rates.length c_1, .slice p_3 l.length c_4, .slice p_11 l_2.length c_12] 26), (5, .own none ([] : List BeatOpen).length 0 ([]) 63 4), (6, .own none ([] : List BeatPair).length 0 ([]) 61 5), (7, .own none ([] : List BeatPair).length 0 ([]) 61 5), (12, .cells b_8 [.int .i64 rv_4.1.Low, .int .i64 rv_4.1.High] 34), (13, .cells b_9 [.int .i64 rv_5.1.Low, .int .i64 rv_5.1.High] 34), (14, .cells b_10 [.int .i64 c.Hours, .slice p c.Rates.length c_1, .slice p_1 c.Opens.length c_2, .slice p_2 c.Pairs.length c_3] 26)] w) (fun a w => ∃ (p_13 : Option Addr) (c_14 : Nat) (p_14 : Option Addr) (c_15 : Nat) (cs_5 : List Value), Frm 162 [] [(6, .bool false), (7, .int .i64 rv_2), (8, .int .i64 rv_3), (12, .pointer (some ⟨b_8, 0, none⟩)), (13, .int .i64 rv_4.2), (16, .pointer (some ⟨b_10, 0, none⟩)), (124, .slice p_13 (([] : List BeatPair) ++ c.Pairs).length c_14), (126, .slice p_14 ([more]).length c_15)] a ∧ St w0 D0 Dv_1 [(1, .cells b [.int .i64 c.Hours, .slice p c.Rates.length c_1, .slice p_1 c.Opens.length c_2, .slice p_2 c.Pairs.length c_3] 26), (2, .cells b_1 [.int .i64 more.Hour, .int .i64 more.One, .int .i64 more.Other, .int .i64 more.Read.Low, .int .i64 more.Read.High] 61), (3, .cells b_2 [.int .i64 n.a0, .int .i64 n.a1] 28), (4, .cells b_3 [.int .i64 c.Hours, .slice p c.Rates.length c_1, .slice p_3 l.length c_4, .slice p_11 l_2.length c_12] 26), (5, .own none ([] : List BeatOpen).length 0 ([]) 63 4), (6, .own none ([] : List BeatPair).length 0 ([]) 61 5), (7, .own none ([] : List BeatPair).length 0 ([]) 61 5), (12, .cells b_8 [.int .i64 rv_4.1.Low, .int .i64 rv_4.1.High] 34), (13, .cells b_9 [.int .i64 rv_5.1.Low, .int .i64 rv_5.1.High] 34), (14, .cells b_10 [.int .i64 c.Hours, .slice p c.Rates.length c_1, .slice p_1 c.Opens.length c_2, .slice p_2 c.Pairs.length c_3] 26), (15, .own p_13 (([] : List BeatPair) ++ c.Pairs).length c_14 cs_5 61 5), (16, .own p_14 ([more]).length c_15 ([.int .i64 more.Hour, .int .i64 more.One, .int .i64 more.Other, .int .i64 more.Read.Low, .int .i64 more.Read.High]) 61 5)] w ∧ Reps C_BeatPair Dv_1 (([] : List BeatPair) ++ c.Pairs) cs_5 ∧ Reps C_BeatPair Dv_1 ([more]) ([.int .i64 more.Hour, .int .i64 more.One, .int .i64 more.Other, .int .i64 more.Read.Low, .int .i64 more.Read.High])) (hS.weak (ms := [(1, .cells b [.int .i64 c.Hours, .slice p c.Rates.length c_1, .slice p_1 c.Opens.length c_2, .slice p_2 c.Pairs.length c_3] 26), (2, .cells b_1 [.int .i64 more.Hour, .int .i64 more.One, .int .i64 more.Other, .int .i64 more.Read.Low, .int .i64 more.Read.High] 61), (3, .cells b_2 [.int .i64 n.a0, .int .i64 n.a1] 28), (4, .cells b_3 [.int .i64 c.Hours, .slice p c.Rates.length c_1, .slice p_3 l.length c_4, .slice p_11 l_2.length c_12] 26), (5, .own none ([] : List BeatOpen).length 0 ([]) 63 4), (6, .own none ([] : List BeatPair).length 0 ([]) 61 5), (7, .own none ([] : List BeatPair).length 0 ([]) 61 5), (12, .cells b_8 [.int .i64 rv_4.1.Low, .int .i64 rv_4.1.High] 34), (13, .cells b_9 [.int .i64 rv_5.1.Low, .int .i64 rv_5.1.High] 34), (14, .cells b_10 [.int .i64 c.Hours, .slice p c.Rates.length c_1, .slice p_1 c.Opens.length c_2, .slice p_2 c.Pairs.length c_3] 26)]) ⟨rfl, rfl, rfl, rfl, rfl, rfl, rfl, rfl, rfl, rfl, trivial⟩).drew (fun _ _ _ _ h => h) ?_ ?_
       ·replace hS := hS.drew
        have hle0 := hS.le
        refine stepV (i := 1) rfl hF (fun w hS => Y.fieldAddr fo_26_3 hF rfl) rfl fun a hF => ?_
        refine stepV (i := 2) rfl hF (fun w hS => Y.load1L 1 sz_24 hF rfl hS rfl rfl) rfl fun a hF => ?_
        refine stepV (i := 4) rfl hF (fun w hS => Y.loadNL 2 sz_61 hF rfl hS rfl rfl rfl) rfl fun a hF => ?_
        refine oneV (i := 0) rfl ?_ ?_
        ·skip
         have hr_12 : Reps C_BeatPair Dv_1 ([] : List BeatPair) [] := Reps.nil
         refine O.buildSlice (E := 61) (C := C_BeatPair) (xs := ([] : List BeatPair)) (cs := []) (us := []) (parts := []) 15 hF hS rfl (by kernel_rfl) hr_12 rfl rfl rfl fun p_15 c_16 a w hF hS => ?_
         refine nil (then_n ⟨hS.weak (ms := [(1, .cells b [.int .i64 c.Hours, .slice p c.Rates.length c_1, .slice p_1 c.Opens.length c_2, .slice p_2 c.Pairs.length c_3] 26), (2, .cells b_1 [.int .i64 more.Hour, .int .i64 more.One, .int .i64 more.Other, .int .i64 more.Read.Low, .int .i64 more.Read.High] 61), (3, .cells b_2 [.int .i64 n.a0, .int .i64 n.a1] 28), (4, .cells b_3 [.int .i64 c.Hours, .slice p c.Rates.length c_1, .slice p_3 l.length c_4, .slice p_11 l_2.length c_12] 26), (5, .own none ([] : List BeatOpen).length 0 ([]) 63 4), (6, .own none ([] : List BeatPair).length 0 ([]) 61 5), (7, .own none ([] : List BeatPair).length 0 ([]) 61 5), (12, .cells b_8 [.int .i64 rv_4.1.Low, .int .i64 rv_4.1.High] 34), (13, .cells b_9 [.int .i64 rv_5.1.Low, .int .i64 rv_5.1.High] 34), (14, .cells b_10 [.int .i64 c.Hours, .slice p c.Rates.length c_1, .slice p_1 c.Opens.length c_2, .slice p_2 c.Pairs.length c_3] 26)]) ⟨rfl, rfl, rfl, rfl, rfl, rfl, rfl, rfl, rfl, rfl, trivial⟩, ?_⟩)
         refine oneV (i := 3) rfl ?_ ?_
         ·skip
          obtain ⟨ds_1, hds_1, hsrc_1⟩ := src_stab (C := C_BeatPair) (xs := c.Pairs) (hs_2).1 hS.stab
          refine O.append (C := C_BeatPair) (xs := ([] : List BeatPair)) (ys := c.Pairs) 15 gr_24 hF rfl rfl hS rfl hsrc_1 hr_12 hds_1 hg_2 rfl fun p_16 c_17 a w hF hS hr_13 => ?_
          refine nil (then_n ⟨hS.weak (ms := [(1, .cells b [.int .i64 c.Hours, .slice p c.Rates.length c_1, .slice p_1 c.Opens.length c_2, .slice p_2 c.Pairs.length c_3] 26), (2, .cells b_1 [.int .i64 more.Hour, .int .i64 more.One, .int .i64 more.Other, .int .i64 more.Read.Low, .int .i64 more.Read.High] 61), (3, .cells b_2 [.int .i64 n.a0, .int .i64 n.a1] 28), (4, .cells b_3 [.int .i64 c.Hours, .slice p c.Rates.length c_1, .slice p_3 l.length c_4, .slice p_11 l_2.length c_12] 26), (5, .own none ([] : List BeatOpen).length 0 ([]) 63 4), (6, .own none ([] : List BeatPair).length 0 ([]) 61 5), (7, .own none ([] : List BeatPair).length 0 ([]) 61 5), (12, .cells b_8 [.int .i64 rv_4.1.Low, .int .i64 rv_4.1.High] 34), (13, .cells b_9 [.int .i64 rv_5.1.Low, .int .i64 rv_5.1.High] 34), (14, .cells b_10 [.int .i64 c.Hours, .slice p c.Rates.length c_1, .slice p_1 c.Opens.length c_2, .slice p_2 c.Pairs.length c_3] 26)]) ⟨rfl, rfl, rfl, rfl, rfl, rfl, rfl, rfl, rfl, rfl, trivial⟩, ?_⟩)
          refine oneV (i := 5) rfl ?_ trivial
          have hr_14 : Reps C_BeatPair Dv_1 [more] [.int .i64 more.Hour, .int .i64 more.One, .int .i64 more.Other, .int .i64 more.Read.Low, .int .i64 more.Read.High] := Reps.cons (C := C_BeatPair) (x := more) (c := [.int .i64 more.Hour, .int .i64 more.One, .int .i64 more.Other, .int .i64 more.Read.Low, .int .i64 more.Read.High]) (r := []) rfl (Reps.nil)
          refine O.buildSlice (E := 61) (C := C_BeatPair) (xs := [more]) (cs := [.int .i64 more.Hour, .int .i64 more.One, .int .i64 more.Other, .int .i64 more.Read.Low, .int .i64 more.Read.High]) (us := [.agg #[.int .i64 more.Hour, .int .i64 more.One, .int .i64 more.Other, .int .i64 more.Read.Low, .int .i64 more.Read.High]]) (parts := [(0, (.tmp 125))]) 16 hF hS rfl (by kernel_rfl) hr_14 rfl rfl rfl fun p_17 c_18 a w hF hS => ?_
          refine nil (then_n ⟨hS.weak (ms := [(1, .cells b [.int .i64 c.Hours, .slice p c.Rates.length c_1, .slice p_1 c.Opens.length c_2, .slice p_2 c.Pairs.length c_3] 26), (2, .cells b_1 [.int .i64 more.Hour, .int .i64 more.One, .int .i64 more.Other, .int .i64 more.Read.Low, .int .i64 more.Read.High] 61), (3, .cells b_2 [.int .i64 n.a0, .int .i64 n.a1] 28), (4, .cells b_3 [.int .i64 c.Hours, .slice p c.Rates.length c_1, .slice p_3 l.length c_4, .slice p_11 l_2.length c_12] 26), (5, .own none ([] : List BeatOpen).length 0 ([]) 63 4), (6, .own none ([] : List BeatPair).length 0 ([]) 61 5), (7, .own none ([] : List BeatPair).length 0 ([]) 61 5), (12, .cells b_8 [.int .i64 rv_4.1.Low, .int .i64 rv_4.1.High] 34), (13, .cells b_9 [.int .i64 rv_5.1.Low, .int .i64 rv_5.1.High] 34), (14, .cells b_10 [.int .i64 c.Hours, .slice p c.Rates.length c_1, .slice p_1 c.Opens.length c_2, .slice p_2 c.Pairs.length c_3] 26)]) ⟨rfl, rfl, rfl, rfl, rfl, rfl, rfl, rfl, rfl, rfl, trivial⟩, ?_⟩)
          exact toTailV ⟨p_16, c_17, p_17, c_18, ([] ++ ds_1), hF.weak ⟨rfl, rfl, rfl, rfl, rfl, rfl, rfl, rfl, trivial⟩, hS.weak ⟨rfl, rfl, rfl, rfl, rfl, rfl, rfl, rfl, rfl, rfl, rfl, rfl, trivial⟩, hr_13, hr_14⟩
         refine oneV (i := 5) rfl ?_ trivial
         have hr_15 : Reps C_BeatPair Dv_1 [more] [.int .i64 more.Hour, .int .i64 more.One, .int .i64 more.Other, .int .i64 more.Read.Low, .int .i64 more.Read.High] := Reps.cons (C := C_BeatPair) (x := more) (c := [.int .i64 more.Hour, .int .i64 more.One, .int .i64 more.Other, .int .i64 more.Read.Low, .int .i64 more.Read.High]) (r := []) rfl (Reps.nil)
         refine O.buildSlice (E := 61) (C := C_BeatPair) (xs := [more]) (cs := [.int .i64 more.Hour, .int .i64 more.One, .int .i64 more.Other, .int .i64 more.Read.Low, .int .i64 more.Read.High]) (us := [.agg #[.int .i64 more.Hour, .int .i64 more.One, .int .i64 more.Other, .int .i64 more.Read.Low, .int .i64 more.Read.High]]) (parts := [(0, (.tmp 125))]) 16 hF hS rfl (by kernel_rfl) hr_15 rfl rfl rfl fun p_18 c_19 a w hF hS => ?_
         refine nil (then_n ⟨hS.weak (ms := [(1, .cells b [.int .i64 c.Hours, .slice p c.Rates.length c_1, .slice p_1 c.Opens.length c_2, .slice p_2 c.Pairs.length c_3] 26), (2, .cells b_1 [.int .i64 more.Hour, .int .i64 more.One, .int .i64 more.Other, .int .i64 more.Read.Low, .int .i64 more.Read.High] 61), (3, .cells b_2 [.int .i64 n.a0, .int .i64 n.a1] 28), (4, .cells b_3 [.int .i64 c.Hours, .slice p c.Rates.length c_1, .slice p_3 l.length c_4, .slice p_11 l_2.length c_12] 26), (5, .own none ([] : List BeatOpen).length 0 ([]) 63 4), (6, .own none ([] : List BeatPair).length 0 ([]) 61 5), (7, .own none ([] : List BeatPair).length 0 ([]) 61 5), (12, .cells b_8 [.int .i64 rv_4.1.Low, .int .i64 rv_4.1.High] 34), (13, .cells b_9 [.int .i64 rv_5.1.Low, .int .i64 rv_5.1.High] 34), (14, .cells b_10 [.int .i64 c.Hours, .slice p c.Rates.length c_1, .slice p_1 c.Opens.length c_2, .slice p_2 c.Pairs.length c_3] 26)]) ⟨rfl, rfl, rfl, rfl, rfl, rfl, rfl, rfl, rfl, rfl, trivial⟩, ?_⟩)
         refine oneV (i := 3) rfl ?_ trivial
         obtain ⟨ds_2, hds_2, hsrc_2⟩ := src_stab (C := C_BeatPair) (xs := c.Pairs) (hs_2).1 hS.stab
         refine O.append (C := C_BeatPair) (xs := ([] : List BeatPair)) (ys := c.Pairs) 15 gr_24 hF rfl rfl hS rfl hsrc_2 hr_12 hds_2 hg_2 rfl fun p_19 c_20 a w hF hS hr_16 => ?_
         refine nil (then_n ⟨hS.weak (ms := [(1, .cells b [.int .i64 c.Hours, .slice p c.Rates.length c_1, .slice p_1 c.Opens.length c_2, .slice p_2 c.Pairs.length c_3] 26), (2, .cells b_1 [.int .i64 more.Hour, .int .i64 more.One, .int .i64 more.Other, .int .i64 more.Read.Low, .int .i64 more.Read.High] 61), (3, .cells b_2 [.int .i64 n.a0, .int .i64 n.a1] 28), (4, .cells b_3 [.int .i64 c.Hours, .slice p c.Rates.length c_1, .slice p_3 l.length c_4, .slice p_11 l_2.length c_12] 26), (5, .own none ([] : List BeatOpen).length 0 ([]) 63 4), (6, .own none ([] : List BeatPair).length 0 ([]) 61 5), (7, .own none ([] : List BeatPair).length 0 ([]) 61 5), (12, .cells b_8 [.int .i64 rv_4.1.Low, .int .i64 rv_4.1.High] 34), (13, .cells b_9 [.int .i64 rv_5.1.Low, .int .i64 rv_5.1.High] 34), (14, .cells b_10 [.int .i64 c.Hours, .slice p c.Rates.length c_1, .slice p_1 c.Opens.length c_2, .slice p_2 c.Pairs.length c_3] 26)]) ⟨rfl, rfl, rfl, rfl, rfl, rfl, rfl, rfl, rfl, rfl, trivial⟩, ?_⟩)
         exact toTailV ⟨p_19, c_20, p_18, c_19, ([] ++ ds_2), hF.weak ⟨rfl, rfl, rfl, rfl, rfl, rfl, rfl, rfl, trivial⟩, hS.weak ⟨rfl, rfl, rfl, rfl, rfl, rfl, rfl, rfl, rfl, rfl, rfl, rfl, trivial⟩, hr_16, hr_15⟩
        refine oneV (i := 5) rfl ?_ trivial
        have hr_17 : Reps C_BeatPair Dv_1 [more] [.int .i64 more.Hour, .int .i64 more.One, .int .i64 more.Other, .int .i64 more.Read.Low, .int .i64 more.Read.High] := Reps.cons (C := C_BeatPair) (x := more) (c := [.int .i64 more.Hour, .int .i64 more.One, .int .i64 more.Other, .int .i64 more.Read.Low, .int .i64 more.Read.High]) (r := []) rfl (Reps.nil)
        refine O.buildSlice (E := 61) (C := C_BeatPair) (xs := [more]) (cs := [.int .i64 more.Hour, .int .i64 more.One, .int .i64 more.Other, .int .i64 more.Read.Low, .int .i64 more.Read.High]) (us := [.agg #[.int .i64 more.Hour, .int .i64 more.One, .int .i64 more.Other, .int .i64 more.Read.Low, .int .i64 more.Read.High]]) (parts := [(0, (.tmp 125))]) 16 hF hS rfl (by kernel_rfl) hr_17 rfl rfl rfl fun p_20 c_21 a w hF hS => ?_
        refine nil (then_n ⟨hS.weak (ms := [(1, .cells b [.int .i64 c.Hours, .slice p c.Rates.length c_1, .slice p_1 c.Opens.length c_2, .slice p_2 c.Pairs.length c_3] 26), (2, .cells b_1 [.int .i64 more.Hour, .int .i64 more.One, .int .i64 more.Other, .int .i64 more.Read.Low, .int .i64 more.Read.High] 61), (3, .cells b_2 [.int .i64 n.a0, .int .i64 n.a1] 28), (4, .cells b_3 [.int .i64 c.Hours, .slice p c.Rates.length c_1, .slice p_3 l.length c_4, .slice p_11 l_2.length c_12] 26), (5, .own none ([] : List BeatOpen).length 0 ([]) 63 4), (6, .own none ([] : List BeatPair).length 0 ([]) 61 5), (7, .own none ([] : List BeatPair).length 0 ([]) 61 5), (12, .cells b_8 [.int .i64 rv_4.1.Low, .int .i64 rv_4.1.High] 34), (13, .cells b_9 [.int .i64 rv_5.1.Low, .int .i64 rv_5.1.High] 34), (14, .cells b_10 [.int .i64 c.Hours, .slice p c.Rates.length c_1, .slice p_1 c.Opens.length c_2, .slice p_2 c.Pairs.length c_3] 26)]) ⟨rfl, rfl, rfl, rfl, rfl, rfl, rfl, rfl, rfl, rfl, trivial⟩, ?_⟩)
        refine oneV (i := 0) rfl ?_ trivial
        have hr_18 : Reps C_BeatPair Dv_1 ([] : List BeatPair) [] := Reps.nil
        refine O.buildSlice (E := 61) (C := C_BeatPair) (xs := ([] : List BeatPair)) (cs := []) (us := []) (parts := []) 15 hF hS rfl (by kernel_rfl) hr_18 rfl rfl rfl fun p_21 c_22 a w hF hS => ?_
        refine nil (then_n ⟨hS.weak (ms := [(1, .cells b [.int .i64 c.Hours, .slice p c.Rates.length c_1, .slice p_1 c.Opens.length c_2, .slice p_2 c.Pairs.length c_3] 26), (2, .cells b_1 [.int .i64 more.Hour, .int .i64 more.One, .int .i64 more.Other, .int .i64 more.Read.Low, .int .i64 more.Read.High] 61), (3, .cells b_2 [.int .i64 n.a0, .int .i64 n.a1] 28), (4, .cells b_3 [.int .i64 c.Hours, .slice p c.Rates.length c_1, .slice p_3 l.length c_4, .slice p_11 l_2.length c_12] 26), (5, .own none ([] : List BeatOpen).length 0 ([]) 63 4), (6, .own none ([] : List BeatPair).length 0 ([]) 61 5), (7, .own none ([] : List BeatPair).length 0 ([]) 61 5), (12, .cells b_8 [.int .i64 rv_4.1.Low, .int .i64 rv_4.1.High] 34), (13, .cells b_9 [.int .i64 rv_5.1.Low, .int .i64 rv_5.1.High] 34), (14, .cells b_10 [.int .i64 c.Hours, .slice p c.Rates.length c_1, .slice p_1 c.Opens.length c_2, .slice p_2 c.Pairs.length c_3] 26)]) ⟨rfl, rfl, rfl, rfl, rfl, rfl, rfl, rfl, rfl, rfl, trivial⟩, ?_⟩)
        refine oneV (i := 3) rfl ?_ trivial
        obtain ⟨ds_3, hds_3, hsrc_3⟩ := src_stab (C := C_BeatPair) (xs := c.Pairs) (hs_2).1 hS.stab
        refine O.append (C := C_BeatPair) (xs := ([] : List BeatPair)) (ys := c.Pairs) 15 gr_24 hF rfl rfl hS rfl hsrc_3 hr_18 hds_3 hg_2 rfl fun p_22 c_23 a w hF hS hr_19 => ?_
        refine nil (then_n ⟨hS.weak (ms := [(1, .cells b [.int .i64 c.Hours, .slice p c.Rates.length c_1, .slice p_1 c.Opens.length c_2, .slice p_2 c.Pairs.length c_3] 26), (2, .cells b_1 [.int .i64 more.Hour, .int .i64 more.One, .int .i64 more.Other, .int .i64 more.Read.Low, .int .i64 more.Read.High] 61), (3, .cells b_2 [.int .i64 n.a0, .int .i64 n.a1] 28), (4, .cells b_3 [.int .i64 c.Hours, .slice p c.Rates.length c_1, .slice p_3 l.length c_4, .slice p_11 l_2.length c_12] 26), (5, .own none ([] : List BeatOpen).length 0 ([]) 63 4), (6, .own none ([] : List BeatPair).length 0 ([]) 61 5), (7, .own none ([] : List BeatPair).length 0 ([]) 61 5), (12, .cells b_8 [.int .i64 rv_4.1.Low, .int .i64 rv_4.1.High] 34), (13, .cells b_9 [.int .i64 rv_5.1.Low, .int .i64 rv_5.1.High] 34), (14, .cells b_10 [.int .i64 c.Hours, .slice p c.Rates.length c_1, .slice p_1 c.Opens.length c_2, .slice p_2 c.Pairs.length c_3] 26)]) ⟨rfl, rfl, rfl, rfl, rfl, rfl, rfl, rfl, rfl, rfl, trivial⟩, ?_⟩)
        exact toTailV ⟨p_22, c_23, p_20, c_21, ([] ++ ds_3), hF.weak ⟨rfl, rfl, rfl, rfl, rfl, rfl, rfl, rfl, trivial⟩, hS.weak ⟨rfl, rfl, rfl, rfl, rfl, rfl, rfl, rfl, rfl, rfl, rfl, rfl, trivial⟩, hr_19, hr_17⟩
       rintro a w ⟨p_13, c_14, p_14, c_15, cs_5, hF, hS, hj_2, hj_3⟩
       obtain ⟨hg_3, h⟩ := ite_some h
       refine O.append (C := C_BeatPair) (xs := (([] : List BeatPair) ++ c.Pairs)) (ys := [more]) 15 gr_24 hF rfl rfl hS rfl (src_own (i := 16) hS rfl) hj_2 hj_3 hg_3 rfl fun p_23 c_24 a w hF hS hr_20 => ?_
       refine step hF (Y.fieldAddr fo_26_3 hF rfl) rfl fun a hF => ?_
       refine O.store (us := [.slice p_23 ((([] : List BeatPair) ++ c.Pairs) ++ [more]).length c_24]) 14 sz_24 hF rfl rfl rfl rfl hS rfl rfl fun a w hF hS => ?_
       refine nil (then_n ?_)
       refine seq ?_
       refine region ?_
       refine step hF (Y.loadNL 14 sz_26 hF rfl hS rfl rfl rfl) rfl fun a hF => ?_
       refine step hF (Y.move hF rfl) rfl fun a hF => ?_
       refine step hF (Y.move hF rfl) rfl fun a hF => ?_
       obtain ⟨Dv_2, hlev_2, hs_5, hS⟩ := hS.freezeC (i := 15) (xs := ((([] : List BeatPair) ++ c.Pairs) ++ [more])) rfl hr_20
       replace hs := hs.mono hlev_2
       replace hs_1 := hs_1.mono hlev_2
       replace hs_2 := hs_2.mono hlev_2
       replace hG := hG.mono hlev_2
       replace hr := hr.mono hlev_2
       replace hr_4 := hr_4.mono hlev_2
       replace hr_8 := hr_8.mono hlev_2
       replace hs_3 := hs_3.mono hlev_2
       replace hs_4 := hs_4.mono hlev_2
       replace hj_2 := hj_2.mono hlev_2
       replace hj_3 := hj_3.mono hlev_2
       replace hr_20 := hr_20.mono hlev_2
       obtain ⟨rv_7, hx_9, h⟩ := bind_some h
       refine O.callP (us := [.agg #[.int .i64 c.Hours, .slice p c.Rates.length c_1, .slice p_1 c.Opens.length c_2, .slice p_23 ((([] : List BeatPair) ++ c.Pairs) ++ [more]).length c_24], .int .i64 rv_2, .int .i64 rv_3]) ca_19 hF hS (beat_Offset_ok hS.stab (BeatCellar.mk c.Hours c.Rates c.Opens ((([] : List BeatPair) ++ c.Pairs) ++ [more])) rv_2 rv_3 hs hs_1 hs_5 hG rv_7 hx_9) rfl rfl fun a w hF hS => ?_
       refine step hF (Y.move hF rfl) rfl fun a hF => ?_
       refine step hF (Y.extract hF rfl rfl) rfl fun a hF => ?_
       refine step hF (Y.extract hF rfl rfl) rfl fun a hF => ?_
       refine O.alloc 17 zc_34 hF hS rfl fun b_11 a w hF hS => ?_
       refine O.store (us := [.int .i64 rv_7.1.Low, .int .i64 rv_7.1.High]) 17 sz_34 hF rfl rfl rfl rfl hS rfl rfl fun a w hF hS => ?_
       refine step hF (Y.assign hF rfl) rfl fun a hF => ?_
       refine nil (then_n ?_)
       refine seq ?_
       refine seq ?_
       refine region ?_
       refine step hF (Y.move hF rfl) rfl fun a hF => ?_
       refine step hF (Y.neq hF rfl rfl) rfl fun a hF => ?_
       refine nil (then_n ?_)
       refine cond_b hF rfl (fun hbv_6 => ?_) (fun hbv_6 => ?_)
       ·replace h := cond_t h hbv_6
        refine seq ?_
        refine region ?_
        refine step hF (Y.move hF rfl) rfl fun a hF => ?_
        refine step hF (Y.eql hF rfl rfl) rfl fun a hF => ?_
        refine step hF (Y.move hF rfl) rfl fun a hF => ?_
        refine join (N := 162) (rs := []) (w0 := w0) (D0 := D0) 3 (us := [(6, .bool false), (12, .pointer (some ⟨b_8, 0, none⟩)), (13, .int .i64 rv_4.2), (17, .pointer (some ⟨b_11, 0, none⟩)), (143, .bool ((rv_7.2 == 20) || (rv_7.2 == 22)))]) (ms := [(1, .cells b [.int .i64 c.Hours, .slice p c.Rates.length c_1, .slice p_1 c.Opens.length c_2, .slice p_2 c.Pairs.length c_3] 26), (2, .cells b_1 [.int .i64 more.Hour, .int .i64 more.One, .int .i64 more.Other, .int .i64 more.Read.Low, .int .i64 more.Read.High] 61), (3, .cells b_2 [.int .i64 n.a0, .int .i64 n.a1] 28), (4, .cells b_3 [.int .i64 c.Hours, .slice p c.Rates.length c_1, .slice p_3 l.length c_4, .slice p_11 l_2.length c_12] 26), (5, .own none ([] : List BeatOpen).length 0 ([]) 63 4), (6, .own none ([] : List BeatPair).length 0 ([]) 61 5), (7, .own none ([] : List BeatPair).length 0 ([]) 61 5), (12, .cells b_8 [.int .i64 rv_4.1.Low, .int .i64 rv_4.1.High] 34), (13, .cells b_9 [.int .i64 rv_5.1.Low, .int .i64 rv_5.1.High] 34), (14, .cells b_10 [.int .i64 c.Hours, .slice p c.Rates.length c_1, .slice p_1 c.Opens.length c_2, .slice p_23 ((([] : List BeatPair) ++ c.Pairs) ++ [more]).length c_24] 26), (16, .own p_14 ([more]).length c_15 ([.int .i64 more.Hour, .int .i64 more.One, .int .i64 more.Other, .int .i64 more.Read.Low, .int .i64 more.Read.High]) 61 5), (17, .cells b_11 [.int .i64 rv_7.1.Low, .int .i64 rv_7.1.High] 34)]) (D' := Dv_2) ?_ ?_
        ·rcases bcases (rv_7.2 == 20) with hbv_7 | hbv_7
         ·-- true
          refine guard_off hF rfl rfl hbv_7 rfl fun a hF => ?_
          refine guard_off hF rfl rfl hbv_7 rfl fun a hF => ?_
          refine step hF (Y.pick_t hF rfl hbv_7 rfl) rfl fun a hF => ?_
          exact nil (then_n ⟨hF.weak ⟨rfl, rfl, rfl, rfl, (by rw [hbv_7]; rfl), trivial⟩, hS.weak ⟨rfl, rfl, rfl, rfl, rfl, rfl, rfl, rfl, rfl, rfl, rfl, rfl, trivial⟩⟩)
         ·-- false
          refine guard_on hF rfl rfl hbv_7 ?_
          refine step hF (Y.move hF rfl) rfl fun a hF => ?_
          refine guard_on hF rfl rfl hbv_7 ?_
          refine step hF (Y.eql hF rfl rfl) rfl fun a hF => ?_
          refine step hF (Y.pick_f hF rfl hbv_7 rfl) rfl fun a hF => ?_
          exact nil (then_n ⟨hF.weak ⟨rfl, rfl, rfl, rfl, (by rw [hbv_7]; rfl), trivial⟩, hS.weak ⟨rfl, rfl, rfl, rfl, rfl, rfl, rfl, rfl, rfl, rfl, rfl, rfl, trivial⟩⟩)
        intro a w hF hS
        refine step hF (Y.move hF rfl) rfl fun a hF => ?_
        refine join (N := 162) (rs := []) (w0 := w0) (D0 := D0) 4 (us := [(6, .bool false), (12, .pointer (some ⟨b_8, 0, none⟩)), (13, .int .i64 rv_4.2), (17, .pointer (some ⟨b_11, 0, none⟩)), (148, .bool (((rv_7.2 == 20) || (rv_7.2 == 22)) && ([rv_7.1.Low, rv_7.1.High] == [0, 0])))]) (ms := [(1, .cells b [.int .i64 c.Hours, .slice p c.Rates.length c_1, .slice p_1 c.Opens.length c_2, .slice p_2 c.Pairs.length c_3] 26), (2, .cells b_1 [.int .i64 more.Hour, .int .i64 more.One, .int .i64 more.Other, .int .i64 more.Read.Low, .int .i64 more.Read.High] 61), (3, .cells b_2 [.int .i64 n.a0, .int .i64 n.a1] 28), (4, .cells b_3 [.int .i64 c.Hours, .slice p c.Rates.length c_1, .slice p_3 l.length c_4, .slice p_11 l_2.length c_12] 26), (5, .own none ([] : List BeatOpen).length 0 ([]) 63 4), (6, .own none ([] : List BeatPair).length 0 ([]) 61 5), (7, .own none ([] : List BeatPair).length 0 ([]) 61 5), (12, .cells b_8 [.int .i64 rv_4.1.Low, .int .i64 rv_4.1.High] 34), (13, .cells b_9 [.int .i64 rv_5.1.Low, .int .i64 rv_5.1.High] 34), (14, .cells b_10 [.int .i64 c.Hours, .slice p c.Rates.length c_1, .slice p_1 c.Opens.length c_2, .slice p_23 ((([] : List BeatPair) ++ c.Pairs) ++ [more]).length c_24] 26), (16, .own p_14 ([more]).length c_15 ([.int .i64 more.Hour, .int .i64 more.One, .int .i64 more.Other, .int .i64 more.Read.Low, .int .i64 more.Read.High]) 61 5), (17, .cells b_11 [.int .i64 rv_7.1.Low, .int .i64 rv_7.1.High] 34)]) (D' := Dv_2) ?_ ?_
        ·rcases bcases ((rv_7.2 == 20) || (rv_7.2 == 22)) with hbv_8 | hbv_8
         ·-- true
          refine guard_on hF rfl rfl hbv_8 ?_
          refine step hF (Y.loadNL 17 sz_34 hF rfl hS rfl rfl rfl) rfl fun a hF => ?_
          refine guard_on hF rfl rfl hbv_8 ?_
          refine step hF (Y.build (parts := []) (cs := #[.int .i64 0, .int .i64 0]) hF rfl (by kernel_rfl)) rfl fun a hF => ?_
          refine guard_on hF rfl rfl hbv_8 ?_
          refine step hF (Y.eqst (fun w => eqT_34.equal (by decide) (l := [rv_7.1.Low, rv_7.1.High]) (m := [0, 0]) rfl rfl) (fun w => run_eqGuard_agg _ _ _ _ _ _ _ eg_34) hF rfl rfl) rfl fun a hF => ?_
          refine step hF (Y.pick_t hF rfl hbv_8 rfl) rfl fun a hF => ?_
          exact nil (then_n ⟨hF.weak ⟨rfl, rfl, rfl, rfl, (by rw [hbv_8]; rfl), trivial⟩, hS.weak ⟨rfl, rfl, rfl, rfl, rfl, rfl, rfl, rfl, rfl, rfl, rfl, rfl, trivial⟩⟩)
         ·-- false
          refine guard_off hF rfl rfl hbv_8 rfl fun a hF => ?_
          refine guard_off hF rfl rfl hbv_8 rfl fun a hF => ?_
          refine guard_off hF rfl rfl hbv_8 rfl fun a hF => ?_
          refine step hF (Y.pick_f hF rfl hbv_8 rfl) rfl fun a hF => ?_
          exact nil (then_n ⟨hF.weak ⟨rfl, rfl, rfl, rfl, (by rw [hbv_8]; rfl), trivial⟩, hS.weak ⟨rfl, rfl, rfl, rfl, rfl, rfl, rfl, rfl, rfl, rfl, rfl, rfl, trivial⟩⟩)
        intro a w hF hS
        refine step hF (Y.move hF rfl) rfl fun a hF => ?_
        obtain ⟨t, ht, h⟩ := bind_some h
        refine join (N := 162) (rs := []) (w0 := w0) (D0 := D0) 2 (us := [(6, .bool false), (12, .pointer (some ⟨b_8, 0, none⟩)), (13, .int .i64 rv_4.2), (17, .pointer (some ⟨b_11, 0, none⟩)), (151, .bool t)]) (ms := [(1, .cells b [.int .i64 c.Hours, .slice p c.Rates.length c_1, .slice p_1 c.Opens.length c_2, .slice p_2 c.Pairs.length c_3] 26), (2, .cells b_1 [.int .i64 more.Hour, .int .i64 more.One, .int .i64 more.Other, .int .i64 more.Read.Low, .int .i64 more.Read.High] 61), (3, .cells b_2 [.int .i64 n.a0, .int .i64 n.a1] 28), (4, .cells b_3 [.int .i64 c.Hours, .slice p c.Rates.length c_1, .slice p_3 l.length c_4, .slice p_11 l_2.length c_12] 26), (5, .own none ([] : List BeatOpen).length 0 ([]) 63 4), (6, .own none ([] : List BeatPair).length 0 ([]) 61 5), (7, .own none ([] : List BeatPair).length 0 ([]) 61 5), (12, .cells b_8 [.int .i64 rv_4.1.Low, .int .i64 rv_4.1.High] 34), (13, .cells b_9 [.int .i64 rv_5.1.Low, .int .i64 rv_5.1.High] 34), (14, .cells b_10 [.int .i64 c.Hours, .slice p c.Rates.length c_1, .slice p_1 c.Opens.length c_2, .slice p_23 ((([] : List BeatPair) ++ c.Pairs) ++ [more]).length c_24] 26), (16, .own p_14 ([more]).length c_15 ([.int .i64 more.Hour, .int .i64 more.One, .int .i64 more.Other, .int .i64 more.Read.Low, .int .i64 more.Read.High]) 61 5), (17, .cells b_11 [.int .i64 rv_7.1.Low, .int .i64 rv_7.1.High] 34)]) (D' := Dv_2) ?_ ?_
        ·rcases bcases (((rv_7.2 == 20) || (rv_7.2 == 22)) && ([rv_7.1.Low, rv_7.1.High] == [0, 0])) with hbv_9 | hbv_9
         ·-- true
          replace h := cond_t ht hbv_9
          refine guard_on hF rfl rfl hbv_9 ?_
          obtain ⟨rv_8, hx_10, h⟩ := bind_some h
          refine O.callP (us := []) ca_21 hF hS (remontoirlaw02_works_ok hS.stab hG rv_8 hx_10) rfl rfl fun a w hF hS => ?_
          refine step hF (Y.pick_t hF rfl hbv_9 rfl) rfl fun a hF => ?_
          obtain rfl := some_inj h
          exact nil (then_n ⟨hF.weak ⟨rfl, rfl, rfl, rfl, rfl, trivial⟩, hS.weak ⟨rfl, rfl, rfl, rfl, rfl, rfl, rfl, rfl, rfl, rfl, rfl, rfl, trivial⟩⟩)
         ·-- false
          replace h := cond_f ht hbv_9
          refine guard_off hF rfl rfl hbv_9 rfl fun a hF => ?_
          refine step hF (Y.pick_f hF rfl hbv_9 rfl) rfl fun a hF => ?_
          obtain rfl := some_inj h
          exact nil (then_n ⟨hF.weak ⟨rfl, rfl, rfl, rfl, rfl, trivial⟩, hS.weak ⟨rfl, rfl, rfl, rfl, rfl, rfl, rfl, rfl, rfl, rfl, rfl, rfl, trivial⟩⟩)
        intro a w hF hS
        refine step hF (Y.assign hF rfl) rfl fun a hF => ?_
        refine nil (then_n ?_)
        refine ret_ (then_r ?_)
        obtain rfl := some_inj h
        exact leaveP Tryd.results9 hF hS (.cons (.tmp rfl) .nil) .nil rfl
       ·replace h := cond_f h hbv_6
        refine skip_ (then_n ?_)
        refine seq ?_
        refine region ?_
        refine step hF (Y.move hF rfl) rfl fun a hF => ?_
        refine step hF (Y.eql hF rfl rfl) rfl fun a hF => ?_
        refine step hF (Y.move hF rfl) rfl fun a hF => ?_
        obtain ⟨t_1, ht_1, h⟩ := bind_some h
        refine join (N := 162) (rs := []) (w0 := w0) (D0 := D0) 4 (us := [(6, .bool false), (158, .bool t_1)]) (ms := [(1, .cells b [.int .i64 c.Hours, .slice p c.Rates.length c_1, .slice p_1 c.Opens.length c_2, .slice p_2 c.Pairs.length c_3] 26), (2, .cells b_1 [.int .i64 more.Hour, .int .i64 more.One, .int .i64 more.Other, .int .i64 more.Read.Low, .int .i64 more.Read.High] 61), (3, .cells b_2 [.int .i64 n.a0, .int .i64 n.a1] 28), (4, .cells b_3 [.int .i64 c.Hours, .slice p c.Rates.length c_1, .slice p_3 l.length c_4, .slice p_11 l_2.length c_12] 26), (5, .own none ([] : List BeatOpen).length 0 ([]) 63 4), (6, .own none ([] : List BeatPair).length 0 ([]) 61 5), (7, .own none ([] : List BeatPair).length 0 ([]) 61 5), (12, .cells b_8 [.int .i64 rv_4.1.Low, .int .i64 rv_4.1.High] 34), (13, .cells b_9 [.int .i64 rv_5.1.Low, .int .i64 rv_5.1.High] 34), (14, .cells b_10 [.int .i64 c.Hours, .slice p c.Rates.length c_1, .slice p_1 c.Opens.length c_2, .slice p_23 ((([] : List BeatPair) ++ c.Pairs) ++ [more]).length c_24] 26), (16, .own p_14 ([more]).length c_15 ([.int .i64 more.Hour, .int .i64 more.One, .int .i64 more.Other, .int .i64 more.Read.Low, .int .i64 more.Read.High]) 61 5), (17, .cells b_11 [.int .i64 rv_7.1.Low, .int .i64 rv_7.1.High] 34)]) (D' := Dv_2) ?_ ?_
        ·rcases bcases (rv_4.2 == 0) with hbv_10 | hbv_10
         ·-- true
          replace h := cond_t ht_1 hbv_10
          refine guard_on hF rfl rfl hbv_10 ?_
          refine step hF (Y.loadNL 17 sz_34 hF rfl hS rfl rfl rfl) rfl fun a hF => ?_
          refine guard_on hF rfl rfl hbv_10 ?_
          refine step hF (Y.loadNL 12 sz_34 hF rfl hS rfl rfl rfl) rfl fun a hF => ?_
          refine guard_on hF rfl rfl hbv_10 ?_
          obtain ⟨rv_9, hx_11, h⟩ := bind_some h
          refine O.callP (us := [.agg #[.int .i64 rv_7.1.Low, .int .i64 rv_7.1.High], .agg #[.int .i64 rv_4.1.Low, .int .i64 rv_4.1.High]]) ca_36 hF hS (remontoirref00_Within_ok hS.stab rv_7.1 rv_4.1 rv_9 hx_11) rfl rfl fun a w hF hS => ?_
          refine step hF (Y.pick_t hF rfl hbv_10 rfl) rfl fun a hF => ?_
          obtain rfl := some_inj h
          exact nil (then_n ⟨hF.weak ⟨rfl, rfl, trivial⟩, hS.weak ⟨rfl, rfl, rfl, rfl, rfl, rfl, rfl, rfl, rfl, rfl, rfl, rfl, trivial⟩⟩)
         ·-- false
          replace h := cond_f ht_1 hbv_10
          refine guard_off hF rfl rfl hbv_10 rfl fun a hF => ?_
          refine guard_off hF rfl rfl hbv_10 rfl fun a hF => ?_
          refine guard_off hF rfl rfl hbv_10 rfl fun a hF => ?_
          refine step hF (Y.pick_f hF rfl hbv_10 rfl) rfl fun a hF => ?_
          obtain rfl := some_inj h
          exact nil (then_n ⟨hF.weak ⟨rfl, rfl, trivial⟩, hS.weak ⟨rfl, rfl, rfl, rfl, rfl, rfl, rfl, rfl, rfl, rfl, rfl, rfl, trivial⟩⟩)
        intro a w hF hS
        refine step hF (Y.move hF rfl) rfl fun a hF => ?_
        obtain ⟨t_2, ht_2, h⟩ := bind_some h
        refine join (N := 162) (rs := []) (w0 := w0) (D0 := D0) 2 (us := [(6, .bool false), (161, .bool t_2)]) (ms := [(1, .cells b [.int .i64 c.Hours, .slice p c.Rates.length c_1, .slice p_1 c.Opens.length c_2, .slice p_2 c.Pairs.length c_3] 26), (2, .cells b_1 [.int .i64 more.Hour, .int .i64 more.One, .int .i64 more.Other, .int .i64 more.Read.Low, .int .i64 more.Read.High] 61), (3, .cells b_2 [.int .i64 n.a0, .int .i64 n.a1] 28), (4, .cells b_3 [.int .i64 c.Hours, .slice p c.Rates.length c_1, .slice p_3 l.length c_4, .slice p_11 l_2.length c_12] 26), (5, .own none ([] : List BeatOpen).length 0 ([]) 63 4), (6, .own none ([] : List BeatPair).length 0 ([]) 61 5), (7, .own none ([] : List BeatPair).length 0 ([]) 61 5), (12, .cells b_8 [.int .i64 rv_4.1.Low, .int .i64 rv_4.1.High] 34), (13, .cells b_9 [.int .i64 rv_5.1.Low, .int .i64 rv_5.1.High] 34), (14, .cells b_10 [.int .i64 c.Hours, .slice p c.Rates.length c_1, .slice p_1 c.Opens.length c_2, .slice p_23 ((([] : List BeatPair) ++ c.Pairs) ++ [more]).length c_24] 26), (16, .own p_14 ([more]).length c_15 ([.int .i64 more.Hour, .int .i64 more.One, .int .i64 more.Other, .int .i64 more.Read.Low, .int .i64 more.Read.High]) 61 5), (17, .cells b_11 [.int .i64 rv_7.1.Low, .int .i64 rv_7.1.High] 34)]) (D' := Dv_2) ?_ ?_
        ·rcases bcases t_1 with hbv_11 | hbv_11
         ·-- true
          replace h := cond_t ht_2 hbv_11
          refine guard_on hF rfl rfl hbv_11 ?_
          obtain ⟨rv_10, hx_12, h⟩ := bind_some h
          refine O.callP (us := []) ca_21 hF hS (remontoirlaw02_works_ok hS.stab hG rv_10 hx_12) rfl rfl fun a w hF hS => ?_
          refine step hF (Y.pick_t hF rfl hbv_11 rfl) rfl fun a hF => ?_
          obtain rfl := some_inj h
          exact nil (then_n ⟨hF.weak ⟨rfl, rfl, trivial⟩, hS.weak ⟨rfl, rfl, rfl, rfl, rfl, rfl, rfl, rfl, rfl, rfl, rfl, rfl, trivial⟩⟩)
         ·-- false
          replace h := cond_f ht_2 hbv_11
          refine guard_off hF rfl rfl hbv_11 rfl fun a hF => ?_
          refine step hF (Y.pick_f hF rfl hbv_11 rfl) rfl fun a hF => ?_
          obtain rfl := some_inj h
          exact nil (then_n ⟨hF.weak ⟨rfl, rfl, trivial⟩, hS.weak ⟨rfl, rfl, rfl, rfl, rfl, rfl, rfl, rfl, rfl, rfl, rfl, rfl, trivial⟩⟩)
        intro a w hF hS
        refine step hF (Y.assign hF rfl) rfl fun a hF => ?_
        refine nil (then_n ?_)
        refine ret_ ?_
        obtain rfl := some_inj h
        exact leaveP Tryd.results9 hF hS (.cons (.tmp rfl) .nil) .nil rfl

end Go.Proofs.YtpniidbbbhbglaaDoor.Rt
