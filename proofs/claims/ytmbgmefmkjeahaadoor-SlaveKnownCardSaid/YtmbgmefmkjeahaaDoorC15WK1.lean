/- Walks of the functions of this seat: what each Go function comes to, as a Lean function, and the proof. Part WK1. Under no conditions. -/
import Derived.Test.YtmbgmefmkjeahaaDoorC15WBZ
import Derived.Test.YtmbgmefmkjeahaaDoorC15W0b
set_option linter.unusedVariables false
set_option linter.unusedSimpArgs false
set_option maxRecDepth 100000
set_option maxHeartbeats 4000000
namespace Go.Proofs.YtmbgmefmkjeahaaDoor.Rt
open Go Go.RowKit
theorem w7line_keep {w0 : World} {D0 : Stab} (hD : D0.on w0) (shown : (List Int)) {p : Option Addr} {c : Nat} (hs : SRc C_int D0 shown p c) (out : SlaveLine) (h : w7line shown = some out) : Calls Tryd.prog 55 [.slice p shown.length c].toArray w0 (RetM D0 fun D w v => ∃ (p_7 : Option Addr) (c_7 : Nat) (kcs0 : List Value) (p_8 : Option Addr) (c_8 : Nat) (kcs1 : List Value), St w0 D0 D [(900, .own p_7 out.Starts.length c_7 kcs0 57 2), (901, .own p_8 out.Events.length c_8 kcs1 66 6)] w ∧ v = .agg #[iv out.Ring, .slice p_7 out.Starts.length c_7, .slice p_8 out.Events.length c_8] ∧ Reps C_SlaveStart D out.Starts kcs0 ∧ Reps C_SlaveEvent D out.Events kcs1) := by
 refine enter _ 27 Tryd.func55 rfl Tryd.ntmps55 rfl fun a hF => ?_
 replace hF : Frm 27 [] [(0, .slice p shown.length c)] a := hF
 have hS := St.start hD
 unfold w7line at h
 refine seq (region (O.alloc 1 zc_25 hF hS rfl fun b a w hF hS => nT (seq (region (step hF (Y.build (parts := [(0, (.const (iv 10))), (1, (.const (iv 1)))]) (cs := #[iv 10, iv 1]) hF rfl (by kernel_rfl)) rfl fun a hF => ?_)))))
 have hr : Reps C_SlaveStart D0 [(SlaveStart.mk 10 1)] [iv 10, iv 1] := Reps.cons (C := C_SlaveStart) (x := (SlaveStart.mk 10 1)) (c := [iv 10, iv 1]) (r := []) rfl (Reps.nil)
 refine O.buildSlice (E := 57) (C := C_SlaveStart) (xs := [(SlaveStart.mk 10 1)]) (cs := [iv 10, iv 1]) (us := [.agg #[iv 10, iv 1]]) (parts := [(0, (.tmp 5))]) 2 hF hS rfl (by kernel_rfl) hr rfl rfl rfl fun p_1 c_1 a w hF hS => ?_
 obtain ⟨rv, hx, h⟩ := bind_some h
 refine O.callP (us := [iv 0, iv 4, iv 1]) ca_45 hF hS (w7send_ok hS.stab 0 4 1 rv hx) rfl rfl fun a w hF hS => ?_
 have hr_1 : Reps C_SlaveEvent D0 [rv] [iv rv.Kind, iv rv.First, iv rv.Count, iv rv.Lost, iv rv.Who, iv rv.Shown] := Reps.cons (C := C_SlaveEvent) (x := rv) (c := [iv rv.Kind, iv rv.First, iv rv.Count, iv rv.Lost, iv rv.Who, iv rv.Shown]) (r := []) rfl (Reps.nil)
 refine O.buildSlice (E := 66) (C := C_SlaveEvent) (xs := [rv]) (cs := [iv rv.Kind, iv rv.First, iv rv.Count, iv rv.Lost, iv rv.Who, iv rv.Shown]) (us := [.agg #[iv rv.Kind, iv rv.First, iv rv.Count, iv rv.Lost, iv rv.Who, iv rv.Shown]]) (parts := [(0, (.tmp 7))]) 3 hF hS rfl (by kernel_rfl) hr_1 rfl rfl rfl fun p_2 c_2 a w hF hS => step hF (Y.build (parts := [(0, (.const (iv 12))), (1, (.tmp 6)), (2, (.tmp 8))]) (cs := #[iv 12, .slice p_1 ([(SlaveStart.mk 10 1)]).length c_1, .slice p_2 ([rv]).length c_2]) hF rfl (by kernel_rfl)) rfl fun a hF => O.alloc 4 zc_25 hF hS rfl fun b_1 a w hF hS => ?_
 replace hS := hS.ownNil 5 66 6
 refine O.store (us := [iv 12, .slice p_1 ([(SlaveStart.mk 10 1)]).length c_1, .slice p_2 ([rv]).length c_2]) 4 sz_25 hF rfl rfl rfl rfl hS rfl rfl fun a w hF hS => nT (seq (seq (region (step hF (Y.assign hF rfl) rfl fun a hF => nT (block (loop_cut (body := w7line_b1 shown) (out := out) (fun s a w => ∃ (i : Int) (l : (List SlaveEvent)), ∃ p_3 c_3 cs, s = (i, l) ∧ Frm 27 [] [(0, .slice p shown.length c), (2, .pointer (some ⟨b, 0, none⟩)), (3, .pointer (some ⟨b_1, 0, none⟩)), (4, iv i)] a ∧ St w0 D0 D0 [(1, .cells b [iv 0, .slice none 0 0, .slice none 0 0] 25), (2, .own p_1 ([(SlaveStart.mk 10 1)]).length c_1 ([iv 10, iv 1]) 57 2), (3, .own p_3 l.length c_3 cs 66 6), (4, .cells b_1 [iv 12, .slice p_1 ([(SlaveStart.mk 10 1)]).length c_1, .slice p_3 l.length c_3] 25), (5, .own none ([] : List SlaveEvent).length 0 ([]) 66 6)] w ∧ Reps C_SlaveEvent D0 l cs) (0, [rv]) h ⟨0, ([rv]), p_2, c_2, ([iv rv.Kind, iv rv.First, iv rv.Count, iv rv.Lost, iv rv.Who, iv rv.Shown]), rfl, hF.weak (AF rfl), hS.weak (AL rfl), hr_1⟩ ?_))))))
 rintro s a w xo ⟨i, l, p_3, c_3, cs, rfl, hF, hS, hr_2⟩ h hxo
 unfold w7line_b1 at h
 dsimp only at h
 refine seq (seq (region (step hF (Y.move hF rfl) rfl fun a hF => step hF (Y.move hF rfl) rfl fun a hF => step hF (Y.lenSl u_26 hF rfl) rfl fun a hF => step hF (Y.lss hF rfl rfl) rfl fun a hF => nT (cond_b hF rfl (fun hbv => ?_) (fun hbv => ?_)))))
 ·replace h := cond_t h hbv
  refine skip_ (then_n (seq (block ?_)))
  obtain ⟨e, hx_1, h⟩ := bind_some h
  obtain ⟨rv_1, hx_2, h⟩ := bind_some h
  refine drawsV 8 (.flt 0 (.flt 1 (.flt 2 (.flt 3 (.flt 4 (.flt 5 (.alt 6 (.alt 7 .done .stop) .stop))))))) mixed_ (by kernel_rfl) (fun w => St w0 D0 D0 [(1, .cells b [iv 0, .slice none 0 0, .slice none 0 0] 25), (2, .own p_1 ([(SlaveStart.mk 10 1)]).length c_1 ([iv 10, iv 1]) 57 2), (3, .own p_3 l.length c_3 cs 66 6), (4, .cells b_1 [iv 12, .slice p_1 ([(SlaveStart.mk 10 1)]).length c_1, .slice p_3 l.length c_3] 25), (5, .own none ([] : List SlaveEvent).length 0 ([]) 66 6)] w) (fun a w => ∃ (p_4 : Option Addr) (c_4 : Nat) (cs_1 : List Value), Frm 27 [] [(0, .slice p shown.length c), (2, .pointer (some ⟨b, 0, none⟩)), (3, .pointer (some ⟨b_1, 0, none⟩)), (4, iv i), (17, .slice p_3 l.length c_3), (23, .slice p_4 ([rv_1]).length c_4)] a ∧ St w0 D0 D0 [(1, .cells b [iv 0, .slice none 0 0, .slice none 0 0] 25), (2, .own p_1 ([(SlaveStart.mk 10 1)]).length c_1 ([iv 10, iv 1]) 57 2), (3, .own p_3 l.length c_3 cs 66 6), (4, .cells b_1 [iv 12, .slice p_1 ([(SlaveStart.mk 10 1)]).length c_1, .slice p_3 l.length c_3] 25), (5, .own none ([] : List SlaveEvent).length 0 ([]) 66 6), (6, .own p_4 ([rv_1]).length c_4 cs_1 66 6)] w ∧ Reps C_SlaveEvent D0 ([rv_1]) cs_1) (hS.weak (ms := [(1, .cells b [iv 0, .slice none 0 0, .slice none 0 0] 25), (2, .own p_1 ([(SlaveStart.mk 10 1)]).length c_1 ([iv 10, iv 1]) 57 2), (3, .own p_3 l.length c_3 cs 66 6), (4, .cells b_1 [iv 12, .slice p_1 ([(SlaveStart.mk 10 1)]).length c_1, .slice p_3 l.length c_3] 25), (5, .own none ([] : List SlaveEvent).length 0 ([]) 66 6)]) (AL rfl)).drew (fun _ _ _ _ h => h) ?_ ?_
  ·replace hS := hS.drew
   have hle0 := hS.le
   refine stepV (i := 0) rfl hF (fun w hS => Y.fieldAddr fo_25_2 hF rfl) rfl fun a hF => stepV (i := 1) rfl hF (fun w hS => Y.load1L 4 sz_23 hF rfl hS rfl rfl) rfl fun a hF => stepV (i := 2) rfl hF (fun w hS => Y.move hF rfl) rfl fun a hF => stepV (i := 3) rfl hF (fun w hS => Y.move hF rfl) rfl fun a hF => ?_
   obtain ⟨b_3, o_1, hE_1, hY_1⟩ := Y.indexS (P := Tryd.prog) (C := C_int) (xs := shown) (T := 26) (x := (.tmp 18)) (y := (.tmp 19)) u_26 sz_3 hF rfl rfl (hs).1 hx_1
   obtain ⟨cc_1, hc_1, hcell_1⟩ := hE_1.open
   obtain rfl := hc_1
   refine stepV (i := 4) rfl hF (fun w hS => hY_1) rfl fun a hF => stepV (i := 5) rfl hF (fun w hS => Y.load1 sz_3 hF rfl (hcell_1 _ hS.stab 0 _ rfl)) rfl fun a hF => oneV (i := 6) rfl ?_ trivial
   refine O.callP (us := [iv 0, iv e]) ca_42 hF hS (w7look_ok hS.stab 0 e rv_1 hx_2) rfl rfl fun a w hF hS => nT ⟨hS.weak (AL rfl), ?_⟩
   refine oneV (i := 7) rfl ?_ trivial
   have hr_4 : Reps C_SlaveEvent D0 [rv_1] [iv rv_1.Kind, iv rv_1.First, iv rv_1.Count, iv rv_1.Lost, iv rv_1.Who, iv rv_1.Shown] := Reps.cons (C := C_SlaveEvent) (x := rv_1) (c := [iv rv_1.Kind, iv rv_1.First, iv rv_1.Count, iv rv_1.Lost, iv rv_1.Who, iv rv_1.Shown]) (r := []) rfl (Reps.nil)
   refine O.buildSlice (E := 66) (C := C_SlaveEvent) (xs := [rv_1]) (cs := [iv rv_1.Kind, iv rv_1.First, iv rv_1.Count, iv rv_1.Lost, iv rv_1.Who, iv rv_1.Shown]) (us := [.agg #[iv rv_1.Kind, iv rv_1.First, iv rv_1.Count, iv rv_1.Lost, iv rv_1.Who, iv rv_1.Shown]]) (parts := [(0, (.tmp 22))]) 6 hF hS rfl (by kernel_rfl) hr_4 rfl rfl rfl fun p_5 c_5 a w hF hS => nT ⟨hS.weak (AL rfl), ?_⟩
   exact toTailV ⟨p_5, c_5, ([iv rv_1.Kind, iv rv_1.First, iv rv_1.Count, iv rv_1.Lost, iv rv_1.Who, iv rv_1.Shown]), hF.weak (AF rfl), hS.weak (AL rfl), hr_4⟩
  rintro a w ⟨p_4, c_4, cs_1, hF, hS, hj⟩
  obtain ⟨hg, h⟩ := ite_some h
  refine O.append (C := C_SlaveEvent) (xs := l) (ys := [rv_1]) 3 gr_23 hF rfl rfl hS rfl (src_own (i := 6) hS rfl) hr_2 hj hg rfl fun p_6 c_6 a w hF hS hr_5 => step hF (Y.fieldAddr fo_25_2 hF rfl) rfl fun a hF => O.store (us := [.slice p_6 (l ++ [rv_1]).length c_6]) 4 sz_23 hF rfl rfl rfl rfl hS rfl rfl fun a w hF hS => nil (blk_n (then_n (region (step hF (Y.move hF rfl) rfl fun a hF => step hF (Y.add hF rfl rfl) rfl fun a hF => step hF (Y.assign hF rfl) rfl fun a hF => nT (⟨_, nxt_some h, (wr (i + 1)), (l ++ [rv_1]), p_6, c_6, (cs ++ cs_1), rfl, hF.weak (AF rfl), hS.weak (AL rfl), hr_5⟩)))))
 replace h := cond_f h hbv
 refine exit_ (then_x (then_x (blk_hit (then_n ?_))))
 replace h := ext_some h hxo
 refine seq (region (step hF (Y.loadNL 4 sz_25 hF rfl hS rfl rfl rfl) rfl fun a hF => O.store (us := [iv 12, .slice p_1 ([(SlaveStart.mk 10 1)]).length c_1, .slice p_3 l.length c_3]) 1 sz_25 hF rfl rfl rfl rfl hS rfl rfl fun a w hF hS => nT (ret_ ?_)))
 replace hS := hS.move 900 2 rfl (by decide)
 replace hS := hS.move 901 3 rfl (by decide)
 obtain rfl := some_inj h
 exact leaveM (ms := [(900, .own p_1 ([(SlaveStart.mk 10 1)]).length c_1 ([iv 10, iv 1]) 57 2), (901, .own p_3 l.length c_3 cs 66 6)]) Tryd.results55 hF hS (.cons (.cellN 1 sz_25 rfl rfl rfl) .nil) (.inl rfl) ⟨rfl, rfl, trivial⟩ (Stab.le.refl _) fun w hS => ⟨_, _, _, _, _, _, hS, rfl, hr, hr_2⟩
end Go.Proofs.YtmbgmefmkjeahaaDoor.Rt
