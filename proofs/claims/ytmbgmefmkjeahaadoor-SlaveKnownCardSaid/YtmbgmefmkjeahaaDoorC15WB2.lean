/- Walks of the functions of this seat: what each Go function comes to, as a Lean function, and the proof. Part WB2. Under no conditions. -/
import Derived.Test.YtmbgmefmkjeahaaDoorC15WB1
set_option linter.unusedVariables false
set_option linter.unusedSimpArgs false
set_option maxRecDepth 100000
set_option maxHeartbeats 4000000
namespace Go.Proofs.YtmbgmefmkjeahaaDoor.Rt
open Go Go.RowKit
noncomputable def slave_line_behind (l : slave_line) (who : Int) : ND (List (SlaveStart × slave_way)) :=
  (ND.det (idx l.SlaveLine.Starts who) fun e_1 =>
  (ND.bnd (sb1 (mput kl_57 ([] : (List (SlaveStart × slave_way))) e_1 (slave_way.mk (Span.mk 0 0) ([] : List (List Int)))) 0 l who) fun rv_1 =>
  ND.ret rv_1))
theorem slave_line_behind_ok {w0 : World} {D0 : Stab} (hD : D0.on w0) (l : slave_line) (who : Int) {p : Option Addr} {c : Nat} {p_1 : Option Addr} {c_1 : Nat} {p_2 : Option Addr} {c_2 : Nat} (hs : SRc C_SlaveStart D0 l.SlaveLine.Starts p c) (hs_1 : SRc C_SlaveEvent D0 l.SlaveLine.Events p_1 c_1) (hs_2 : SRc C_int D0 l.without p_2 c_2) (hG : Glob D0) (out : (List (SlaveStart × slave_way)) → Prop) (h : slave_line_behind l who out) : Calls Tryd.prog 82 [.agg #[iv l.SlaveLine.Ring, .slice p l.SlaveLine.Starts.length c, .slice p_1 l.SlaveLine.Events.length c_1, .slice p_2 l.without.length c_2], iv who].toArray w0 (RetSN D0 w0 out fun (out : (List (SlaveStart × slave_way))) D v => ∃ bm_2, v = .map bm_2 ∧ MapB kl_57 C_slave_way true D out bm_2) := by
 refine enter _ 18 Tryd.func82 rfl Tryd.ntmps82 rfl fun a hF => ?_
 replace hF : Frm 18 [] [(0, .agg #[iv l.SlaveLine.Ring, .slice p l.SlaveLine.Starts.length c, .slice p_1 l.SlaveLine.Events.length c_1, .slice p_2 l.without.length c_2]), (1, iv who)] a := hF
 have hS := St.start hD
 unfold slave_line_behind at h
 refine seq (region (O.box (cs := [iv l.SlaveLine.Ring, .slice p l.SlaveLine.Starts.length c, .slice p_1 l.SlaveLine.Events.length c_1, .slice p_2 l.without.length c_2]) 1 hF rfl rfl hS rfl fun b a w hF hS => O.box (cs := [iv who]) 2 hF rfl rfl hS rfl fun b_1 a w hF hS => step hF (Y.assign hF rfl) rfl fun a hF => nT (seq (region (O.alloc 3 zc_140 hF hS rfl fun b_2 a w hF hS => nT (seq (region (step hF (Y.makeFunc (first := []) (cap := [(.tmp 2), (.tmp 3), (.tmp 5)]) (fs := []) (cs := [.pointer (some ⟨b, 0, none⟩), .pointer (some ⟨b_1, 0, none⟩), .pointer (some ⟨b_2, 0, none⟩)]) hF rfl rfl) rfl fun a hF => O.store (us := [.func (.func 93) #[] #[.pointer (some ⟨b, 0, none⟩), .pointer (some ⟨b_1, 0, none⟩), .pointer (some ⟨b_2, 0, none⟩)]]) 3 sz_140 hF rfl rfl rfl rfl hS rfl rfl fun a w hF hS => nT (seq (drawsV 13 (.flt 0 (.flt 2 (.flt 3 (.flt 4 (.flt 5 (.flt 6 (.flt 7 (.flt 8 (.alt 1 (.alt 9 (.flt 10 (.alt 11 (.flt 12 .done) .stop)) .stop) .stop))))))))) mixed_ (by kernel_rfl) (fun w => St w0 D0 D0 [(1, .cells b [iv l.SlaveLine.Ring, .slice p l.SlaveLine.Starts.length c, .slice p_1 l.SlaveLine.Events.length c_1, .slice p_2 l.without.length c_2] 103), (2, .cells b_1 [iv who] 3), (3, .cells b_2 [.func (.func 93) #[] #[.pointer (some ⟨b, 0, none⟩), .pointer (some ⟨b_1, 0, none⟩), .pointer (some ⟨b_2, 0, none⟩)]] 140)] w) _ (hS.weak (ms := [(1, .cells b [iv l.SlaveLine.Ring, .slice p l.SlaveLine.Starts.length c, .slice p_1 l.SlaveLine.Events.length c_1, .slice p_2 l.without.length c_2] 103), (2, .cells b_1 [iv who] 3), (3, .cells b_2 [.func (.func 93) #[] #[.pointer (some ⟨b, 0, none⟩), .pointer (some ⟨b_1, 0, none⟩), .pointer (some ⟨b_2, 0, none⟩)]] 140)]) (AL rfl)).drew (fun _ _ _ _ h => h) ?_ (fun _ _ h => h)))))))))))
 replace hS := hS.drew
 have hle0 := hS.le
 refine stepV (i := 0) rfl hF (fun w hS => Y.load1L 3 sz_140 hF rfl hS rfl rfl) rfl fun a hF => stepV (i := 2) rfl hF (fun w hS => Y.fieldAddr fo_103_0 hF rfl) rfl fun a hF => stepV (i := 3) rfl hF (fun w hS => Y.fieldAddr fo_25_1 hF rfl) rfl fun a hF => stepV (i := 4) rfl hF (fun w hS => Y.load1L 1 sz_22 hF rfl hS rfl rfl) rfl fun a hF => stepV (i := 5) rfl hF (fun w hS => Y.load1L 2 sz_3 hF rfl hS rfl rfl) rfl fun a hF => ?_
 obtain ⟨e_1, hx_2, h⟩ := ndet h
 obtain ⟨b_5, o_1, hE_1, hY_1⟩ := Y.indexS (P := Tryd.prog) (C := C_SlaveStart) (xs := l.SlaveLine.Starts) (T := 22) (x := (.tmp 11)) (y := (.tmp 12)) u_22 sz_57 hF rfl rfl (hs).1 hx_2
 obtain ⟨cc_1, hc_1, hcell_1⟩ := hE_1.open
 obtain rfl := C_SlaveStart.open hc_1
 refine stepV (i := 6) rfl hF (fun w hS => hY_1) rfl fun a hF => stepV (i := 7) rfl hF (fun w hS => Y.loadNE (o := o_1) (k := 0) sz_57 hF rfl (hcell_1 _ hS.stab) rfl rfl) rfl fun a hF => stepV (i := 8) rfl hF (fun w hS => Y.build (parts := []) (cs := #[iv 0, iv 0, .slice none 0 0]) hF rfl (by kernel_rfl)) rfl fun a hF => oneV (i := 1) rfl ?_ trivial
 refine O.makeMap 5 hF hS rfl fun b_6 a w hF hS => ?_
 have hm_4 : MRepB kl_57 C_slave_way true D0 ([] : (List (SlaveStart × slave_way))) (#[] : Array MapEntry) 0 := MRepB.nil
 refine nT ⟨hS.weak (AL rfl), ?_⟩
 refine oneV (i := 9) rfl ?_ trivial
 refine map_putB (kl := kl_57) (C := C_slave_way) (agg := true) (x := (.tmp 8)) (y := (.tmp 14)) (u := (.tmp 15)) (v0 := (slave_way.mk (Span.mk 0 0) ([] : List (List Int)))) (cs := [iv 0, iv 0, .slice none 0 0]) (.inr rfl) 5 mt_85 (fun _ => rfl) e_1 hm_4 (⟨_, _, rfl, SRc.nil⟩) hF rfl rfl rfl hS rfl fun es_1 clk_1 a w hF hS hm_5 => nT ⟨hS.weak (AL rfl), ?_⟩
 refine stepV (i := 10) rfl hF (fun w hS => Y.move hF rfl) rfl fun a hF => oneV (i := 11) rfl ?_ trivial
 obtain ⟨Dv_2, hlev_2, hm_6, hS⟩ := hS.freezeMB (i := 5) rfl hm_5
 replace hs := hs.mono hlev_2
 replace hs_1 := hs_1.mono hlev_2
 replace hs_2 := hs_2.mono hlev_2
 replace hG := hG.mono hlev_2
 obtain ⟨KQ_1, hx_3, hk_1⟩ := nbnd_ex h
 refine O.callVSN (f := 93) (first := []) (cap := [.pointer (some ⟨b, 0, none⟩), .pointer (some ⟨b_1, 0, none⟩), .pointer (some ⟨b_2, 0, none⟩)]) (us := [.map (some b_6), iv 0]) ca_93 hF hS rfl rfl (sb1_ok hS.stab (mput kl_57 ([] : (List (SlaveStart × slave_way))) e_1 (slave_way.mk (Span.mk 0 0) ([] : List (List Int)))) 0 l who hm_6 hs hs_1 hs_2 (hS.each 1 _ rfl) (hS.each 2 _ rfl) (hS.each 3 _ rfl) hG KQ_1 hx_3) rfl fun rv_1 h v_1 Dv_3 a w hR_1 hlev_3 hF hS => ?_
 replace h := hk_1 _ h
 obtain ⟨bm_1, rfl, hm_7⟩ := hR_1
 refine nT ⟨(hS.weak (ms := [(1, .cells b [iv l.SlaveLine.Ring, .slice p l.SlaveLine.Starts.length c, .slice p_1 l.SlaveLine.Events.length c_1, .slice p_2 l.without.length c_2] 103), (2, .cells b_1 [iv who] 3), (3, .cells b_2 [.func (.func 93) #[] #[.pointer (some ⟨b, 0, none⟩), .pointer (some ⟨b_1, 0, none⟩), .pointer (some ⟨b_2, 0, none⟩)]] 140)]) (AL rfl)).weakD (hlev_2.trans hlev_3) hle0, ?_⟩
 refine stepV (i := 12) rfl hF (fun w hS => Y.assign hF rfl) rfl fun a hF => toTailV (nT (ret_ (leaveSN _ (nret h) Tryd.results82 hF hS (.cons (.tmp rfl) .nil) .nil ⟨_, rfl, hm_7⟩)))
noncomputable def mkk_1N_b1 {σ : Type} (yield_ : SlaveStart → σ → ND σ) : (σ × (List (SlaveStart × slave_way))) → ND ((σ × (List (SlaveStart × slave_way))) ⊕ σ)
 | (sy, left) =>
  (ND.pickE left
  (next_ (ND.ret sy))
  (fun kv left_1 => (ND.bnd (yield_ kv.1 sy) fun sy_1 =>
  nnxt (sy_1, left_1))))
noncomputable def mkk_1N {σ : Type} (yield_ : SlaveStart → σ → ND σ) (cv : (List (SlaveStart × slave_way))) (s0 : σ) : ND σ :=
  loopN (mkk_1N_b1 yield_) (s0, cv)
theorem mkk_1N_it {w0 : World} {D0 : Stab} {σ : Type} {Inv : σ → Stab → List (Nat × LR) → Prop} {yield_ : SlaveStart → σ → ND σ} (hlt : ∀ s D ms, Inv s D ms → ∀ i r, lk ms i = some r → i < 1000) (hmono : ∀ s D ms D2, Inv s D ms → D.le D2 → Inv s D2 ms) (l : Nat) (cv : (List (SlaveStart × slave_way))) {bm : Option Nat} {bb : Nat} {Ds : Stab} (hm : MapB kl_57 C_slave_way true Ds cv bm) (hbv : Ds bb = some (.cells ([.map bm]).toArray 85 (0, 0))) (s0 : σ) (out : σ → Prop) (hround : ∀ (x : SlaveStart) (s : σ) (Qs : σ → Prop) (Sx : List Nat) (hpx : Nat → Option Obj) (D : Stab) (ms : List (Nat × LR)) (w : World), yield_ x s Qs → Ds.le D → Inv s D ms → St w0 D0 D ((1000, .snap Sx hpx) :: ms) w → Yld Tryd.prog l [.agg #[iv x.Shown, iv x.Last]] w (fun w2 => ∃ s2 D2 ms2, Qs s2 ∧ D.le D2 ∧ Inv s2 D2 ms2 ∧ St w0 D0 D2 ((1000, .snap Sx hpx) :: ms2) w2)) (h : mkk_1N yield_ cv s0 out) {ms : List (Nat × LR)} {w : World} (hI : Inv s0 Ds ms) (hS : St w0 D0 Ds ms w) :
  CallsIn (Fw none) 0 Tryd.prog 96 [.func (.yield l) #[] #[], .pointer (some ⟨bb, 0, none⟩)].toArray w (fun e w2 => (∃ v, e = .returned v) ∧ ∃ s D2 ms2, out s ∧ Ds.le D2 ∧ Inv s D2 ms2 ∧ St w0 D0 D2 ms2 w2) := by
 refine callsIn_fw (r := none) (enter _ 14 Tryd.func96 rfl Tryd.ntmps96 rfl fun a hF => ?_)
 replace hF : Frm 14 [] [(0, .func (.yield l) #[] #[]), (1, .pointer (some ⟨bb, 0, none⟩))] a := hF
 unfold mkk_1N at h
 refine seq (region (step hF (Y.load1H sz_85 hF rfl (hS.stab _ _ hbv) rfl) rfl fun a hF => O.rangeM (kl := kl_57) (C := C_slave_way) (agg := true) 1002 u_85 hm hF rfl hS rfl fun b oi a w hF hS hI_1 => nT (block (loop_cutN (body := mkk_1N_b1 yield_) (out := out) (fun s a w => ∃ (sy : σ) (left : (List (SlaveStart × slave_way))), ∃ (Dv : Stab), ∃ ms_1 oi_1, s = (sy, left) ∧ Ds.le Dv ∧ Frm 14 [] [(0, .func (.yield l) #[] #[]), (5, .pointer (some ⟨b, 0, none⟩))] a ∧ St w0 D0 Dv ((1002, .obj b oi_1) :: ms_1) w ∧ Inv sy Dv ms_1 ∧ IterB kl_57 C_slave_way true Dv left oi_1) (s0, cv) h ⟨s0, cv, Ds, ms, oi, rfl, Stab.le.refl _, hF.weak ⟨rfl, rfl, trivial⟩, hS.sub (subc rfl (fun j r hj => by have hl := (hlt _ _ _ hI) j r hj; (repeat rw [lk_ne (by omega)]); exact hj)), hI, hI_1⟩ ?_))))
 rintro s a w xo ⟨sy, left, Dv, ms_1, oi_1, rfl, hlev, hF, hS, hI_2, hI_3⟩ h
 unfold mkk_1N_b1 at h
 try dsimp only at h
 replace hbv := hlev _ _ hbv
 replace hI := hmono _ _ _ _ hI hlev
 refine seq (region (O.nextM 1002 hF rfl hS rfl hI_3 rfl (fun hnil a hF => ?_) (fun kv left_1 hpk oi_2 ru rv a w hst hF hS => ?_)))
 ·replace h := npickz h hnil
  refine step hF (Y.extract hF rfl rfl) rfl fun a hF => nT (seq (cond_b hF rfl (fun hb => by cases hb) (fun hb => exit_ (then_x (then_x (blk_hit ?_))))))
  replace h := next_h h
  replace hS := hS.sub (ms := ms_1) (fun j r hj => by have hl := (hlt _ _ _ hI_2) j r hj; (repeat rw [lk_ne (by omega)]); exact hj)
  exact leaveIn (by rfl) hF ⟨⟨_, rfl⟩, _, Dv, ms_1, nret h, hlev, hI_2, hS⟩
 replace h := npick1 h hpk
 refine step hF (Y.extract hF rfl rfl) rfl fun a hF => nT (seq (cond_b hF rfl (fun hb => ?_) (fun hb => by cases hb)))
 refine skip_ (then_n (block (seq (region ?_))))
 obtain ⟨cc, hc, hY⟩ := Y.entryM (P := Tryd.prog) (x := (.tmp 5)) 1002 hst hF rfl (lkOf hS rfl)
 obtain ⟨p, c, rfl, hs⟩ := C_slave_way.open hc
 refine step hF ((show Yields _ _ _ _ (.tuple #[.agg #[iv kv.1.Shown, iv kv.1.Last], .agg #[iv kv.2.lost.Low, iv kv.2.lost.High, .slice p kv.2.story.length c]]) from hY hS)) rfl fun a hF => step hF (Y.extract hF rfl rfl) rfl fun a hF => O.alloc 1003 zc_57 hF hS rfl fun b_1 a w hF hS => O.store (us := [iv kv.1.Shown, iv kv.1.Last]) 1003 sz_57 hF rfl rfl rfl rfl hS rfl rfl fun a w hF hS => nT (seq (region (step hF (Y.move hF rfl) rfl fun a hF => step hF (Y.loadNL 1003 sz_57 hF rfl hS rfl rfl rfl) rfl fun a hF => ?_)))
 have hwk := hS.each 1002 _ rfl
 replace hS := hS.toSnap (ms := ms_1) (fun j r hj => by have hl := (hlt _ _ _ hI_2) j r hj; (repeat rw [lk_ne (by omega)]); exact hj) (hlt _ _ _ hI_2) (i := 1002) (by decide) rfl
 obtain ⟨KQ, hx, hk⟩ := nbnd_ex h
 refine O.yield (us := [.agg #[iv kv.1.Shown, iv kv.1.Last]]) hF rfl rfl (hround kv.1 _ _ _ _ _ _ _ hx hlev hI_2 hS) rfl fun a w hF hK => ?_
 obtain ⟨sy_1, Dv_1, ms_2, h, hlev_1, hI_4, hS⟩ := hK
 replace h := hk _ h
 replace hS := hS.fromSnap (i := 1002) (hlt _ _ _ hI_4) (by decide) hwk
 replace hbv := hlev_1 _ _ hbv
 replace hst := hst.mono hlev_1
 refine step hF (Y.not hF rfl) rfl fun a hF => nT (cond_b hF rfl (fun hb => by cases hb) (fun hb => skip_ (blk_n (then_n (⟨_, nnxt_h h, sy_1, left_1, Dv_1, ms_2, oi_2, rfl, hlev.trans hlev_1, hF.weak ⟨rfl, rfl, trivial⟩, hS.sub (subc rfl (fun j r hj => by have hl := (hlt _ _ _ hI_4) j r hj; (repeat rw [lk_ne (by omega)]); exact hj)), hI_4, hst.it⟩)))))
noncomputable def mkk (m : (List (SlaveStart × slave_way))) : Option (List (SlaveStart × slave_way)) :=
  some m
theorem mkk_ok {w0 : World} {D0 : Stab} (hD : D0.on w0) (m : (List (SlaveStart × slave_way))) {bm : Option Nat} (hm : MapB kl_57 C_slave_way true D0 m bm) (out : (List (SlaveStart × slave_way))) (h : mkk m = some out) : Calls Tryd.prog 83 [.map bm].toArray w0 (RetS D0 w0 fun D v => ∃ bb bm_1, v = .func (.func 96) #[] #[.pointer (some ⟨bb, 0, none⟩)] ∧ D bb = some (.cells ([.map bm_1]).toArray 85 (0, 0)) ∧ MapB kl_57 C_slave_way true D out bm_1) := by
 refine enter _ 4 Tryd.func83 rfl Tryd.ntmps83 rfl fun a hF => ?_
 replace hF : Frm 4 [] [(0, .map bm)] a := hF
 have hS := St.start hD
 unfold mkk at h
 refine seq (region (O.box (cs := [.map bm]) 1 hF rfl rfl hS rfl fun b a w hF hS => step hF (Y.assign hF rfl) rfl fun a hF => nT (seq (region (step hF (Y.makeFunc (first := []) (cap := [(.tmp 1)]) (fs := []) (cs := [.pointer (some ⟨b, 0, none⟩)]) hF rfl rfl) rfl fun a hF => step hF (Y.assign hF rfl) rfl fun a hF => nT (ret_ ?_))))))
 obtain ⟨Dv, hlev, hbv, hS⟩ := hS.freezeB (i := 1) rfl
 replace hm := hm.mono hlev
 obtain rfl := some_inj h
 exact leaveS Tryd.results83 hF hS (.cons (.tmp rfl) .nil) .nil ⟨_, _, rfl, hbv, hm⟩
noncomputable def slave_minutes_y1  (xy : SlaveStart) : (List Bool) → ND (List Bool)
 | l =>
  (ND.grd ((0 : Int) ≤ xy.Shown ∧ xy.Shown < ((60 : Nat) : Int)) (
  ND.ret (l.set (Int.toNat xy.Shown) true)))
noncomputable def slave_minutes (m : (List (SlaveStart × slave_way))) : ND (List Bool) :=
  (ND.det (mkk m) fun rv =>
  (ND.bnd (mkk_1N (slave_minutes_y1) rv (List.replicate 60 false)) fun so =>
  ND.ret so))
theorem slave_minutes_ok {w0 : World} {D0 : Stab} (hD : D0.on w0) (m : (List (SlaveStart × slave_way))) {bm : Option Nat} (hm : MapB kl_57 C_slave_way true D0 m bm) (out : (List Bool) → Prop) (h : slave_minutes m out) : Calls Tryd.prog 57 [.map bm].toArray w0 (RetSN D0 w0 out fun (out : (List Bool)) D v => v = .agg (arr celB out).toArray ∧ out.length = 60) := by
 refine enter _ 12 Tryd.func57 rfl Tryd.ntmps57 rfl fun a hF => ?_
 replace hF : Frm 12 [] [(0, .map bm)] a := hF
 have hS := St.start hD
 replace hS := hS.noMarks 1
 unfold slave_minutes at h
 refine seq (region (O.alloc 2 zc_89 hF hS rfl fun b a w hF hS => nT (seq (region (O.alloc 3 zc_89 hF hS rfl fun b_1 a w hF hS => nT (seq (seq (region (step hF (Y.move hF rfl) rfl fun a hF => ?_)))))))))
 obtain ⟨rv, hx, h⟩ := ndet h
 refine O.callS (us := [.map bm]) ca_83 hF hS (mkk_ok hS.stab m hm rv hx) rfl rfl fun v Dv a w hR hlev hF hS => ?_
 obtain ⟨bb, bm_1, rfl, hbv, hm_1⟩ := hR
 refine nT (block ?_)
 replace hF := hF.weak (us := [(2, .pointer (some ⟨b, 0, none⟩)), (3, .pointer (some ⟨b_1, 0, none⟩)), (6, .func (.func 96) #[] #[.pointer (some ⟨bb, 0, none⟩)])]) (AF rfl)
 obtain ⟨KQ, hx_1, hk⟩ := nbnd_ex h
 have hsz := hF.size
 have hgt := hF.get
 refine range_cut (first := []) (cap := [.pointer (some ⟨bb, 0, none⟩)]) (K := fun m_1 lp R w => ∃ (sox : (List Bool)), ∃ D ms, KQ sox ∧ Dv.le D ∧ (fun (l : (List Bool)) D ms => ms = [(5, .obj lp R), (2, .cells b (arr celB (List.replicate 60 false)) 89), (3, .cells b_1 (arr celB l) 89), (1, .marks (m_1 :: []))] ∧ l.length = 60) sox D ms ∧ St w0 D0 D ms w) 1 5 (by decide) ca_96 hF hS rfl rfl (fun fn m_1 lp R hR w hS => ?_) (fun m_1 lp R w hK => ?_)
 ·refine mkk_1N_it (Inv := fun (l : (List Bool)) D ms => ms = [(5, .obj lp R), (2, .cells b (arr celB (List.replicate 60 false)) 89), (3, .cells b_1 (arr celB l) 89), (1, .marks (m_1 :: []))] ∧ l.length = 60) (yield_ := slave_minutes_y1) ?_ ?_ lp rv hm_1 hbv (List.replicate 60 false) KQ ?_ hx_1 (ms := [(5, .obj lp R), (2, .cells b (arr celB (List.replicate 60 false)) 89), (3, .cells b_1 (arr celB (List.replicate 60 false)) 89), (1, .marks (m_1 :: []))]) ⟨rfl, List.length_replicate⟩ (hS.weak (AL rfl))
  ·rintro s D ms ⟨rfl, z0⟩; exact small_lt rfl
  ·rintro s D ms D2 ⟨rfl, z0⟩ hle; exact ⟨rfl, z0⟩
  rintro xy l Qs Sx hpx Dv_1 ms w h hlev_1 ⟨rfl, hn⟩ hS
  unfold slave_minutes_y1 at h
  try dsimp only at h
  refine round_cut 5 hsz hgt rfl hS rfl hR fun R2 a hF => ?_
  replace hbv := hlev_1 _ _ hbv
  refine region (O.alloc 6 zc_57 hF hS rfl fun b_2 a w hF hS => O.store (us := [iv xy.Shown, iv xy.Last]) 6 sz_57 hF rfl rfl rfl rfl hS rfl rfl fun a w hF hS => nT (⟨_, _, hS, rfl, fun w hS => ?_⟩))
  refine block (region (step hF (Y.fieldAddr fo_57_0 hF rfl) rfl fun a hF => step hF (Y.load1L 6 sz_3 hF rfl hS rfl rfl) rfl fun a hF => ?_))
  obtain ⟨hg, h⟩ := ngrd h
  refine step hF (Y.indexArr u_89 sz_4 hF rfl rfl hg.1 hg.2) rfl fun a hF => O.storeA (F := celB) (u := true) 3 sz_4 hn hg hF rfl rfl hS rfl fun a w hF hS => nil (blk_n (then_n (⟨_, _, hS, rfl, fun w hS => ⟨_, Dv_1, _, nret h, Stab.le.refl _, ⟨rfl, ((List.length_set).trans hn)⟩, hS.weak (AL rfl)⟩⟩)))
 obtain ⟨so, Dv_1, ms, hsox, hlev_2, ⟨rfl, hn⟩, hS⟩ := hK
 replace h := hk _ hsox
 refine ⟨Dv_1, _, hS, rfl, fun a w hF hS => ?_⟩
 replace hbv := hlev_2 _ _ hbv
 refine blk_n (then_n (seq (region (step hF (Y.loadA (F := celB) 3 sz_89 hn hF rfl hS rfl) rfl fun a hF => O.storeW (F := celB) 2 sz_89 List.length_replicate hn hF rfl rfl hS rfl fun a w hF hS => nT (ret_ (leaveSN _ (nret h) Tryd.results57 hF hS (.cons (.cellN 2 sz_89 rfl rfl ((arr_len _).trans hn)) .nil) (.inr ⟨1, rfl⟩) ⟨rfl, hn⟩))))))
noncomputable def slave_line_can (l : slave_line) (who : Int) : ND Bool :=
  (ND.bnd (slave_line_behind l who) fun rv =>
  (ND.bnd (slave_minutes rv) fun rv_1 =>
  ND.ret (!(rv_1 == (List.replicate 60 false)))))
theorem slave_line_can_ok {w0 : World} {D0 : Stab} (hD : D0.on w0) (l : slave_line) (who : Int) {p : Option Addr} {c : Nat} {p_1 : Option Addr} {c_1 : Nat} {p_2 : Option Addr} {c_2 : Nat} (hs : SRc C_SlaveStart D0 l.SlaveLine.Starts p c) (hs_1 : SRc C_SlaveEvent D0 l.SlaveLine.Events p_1 c_1) (hs_2 : SRc C_int D0 l.without p_2 c_2) (hG : Glob D0) (out : Bool → Prop) (h : slave_line_can l who out) : Calls Tryd.prog 70 [.agg #[iv l.SlaveLine.Ring, .slice p l.SlaveLine.Starts.length c, .slice p_1 l.SlaveLine.Events.length c_1, .slice p_2 l.without.length c_2], iv who].toArray w0 (RetPN D0 w0 out fun (out : Bool) => .bool out) := by
 refine enter _ 11 Tryd.func70 rfl Tryd.ntmps70 rfl fun a hF => ?_
 replace hF : Frm 11 [] [(0, .agg #[iv l.SlaveLine.Ring, .slice p l.SlaveLine.Starts.length c, .slice p_1 l.SlaveLine.Events.length c_1, .slice p_2 l.without.length c_2]), (1, iv who)] a := hF
 have hS := St.start hD
 unfold slave_line_can at h
 refine seq (region (O.box (cs := [iv l.SlaveLine.Ring, .slice p l.SlaveLine.Starts.length c, .slice p_1 l.SlaveLine.Events.length c_1, .slice p_2 l.without.length c_2]) 1 hF rfl rfl hS rfl fun b a w hF hS => step hF (Y.assign hF rfl) rfl fun a hF => nT (seq (region (step hF (Y.loadNL 1 sz_103 hF rfl hS rfl rfl rfl) rfl fun a hF => step hF (Y.move hF rfl) rfl fun a hF => ?_)))))
 obtain ⟨KQ, hx, hk⟩ := nbnd_ex h
 refine O.callSN (us := [.agg #[iv l.SlaveLine.Ring, .slice p l.SlaveLine.Starts.length c, .slice p_1 l.SlaveLine.Events.length c_1, .slice p_2 l.without.length c_2], iv who]) ca_82 hF hS (slave_line_behind_ok hS.stab l who hs hs_1 hs_2 hG KQ hx) rfl rfl fun rv h v Dv a w hR hlev hF hS => ?_
 replace h := hk _ h
 obtain ⟨bm, rfl, hm⟩ := hR
 obtain ⟨KQ_1, hx_1, hk_1⟩ := nbnd_ex h
 refine O.callSN (us := [.map bm]) ca_57 hF hS (slave_minutes_ok hS.stab rv hm KQ_1 hx_1) rfl rfl fun rv_1 h v_1 Dv_1 a w hR_1 hlev_1 hF hS => ?_
 replace h := hk_1 _ h
 obtain ⟨rfl, hn⟩ := hR_1
 refine step hF (Y.build (parts := []) (cs := (arr celB (List.replicate 60 false)).toArray) hF rfl (by kernel_rfl)) rfl fun a hF => step hF (Y.nest (fun w => run_equal_arr (F := celB) u_89 sz_4 (fun D x y w => eqB u_4 D x y w) hn List.length_replicate) (fun w => run_eqGuard_agg _ _ _ _ _ _ _ eg_89) hF rfl rfl) rfl fun a hF => step hF (Y.assign hF rfl) rfl fun a hF => nT (ret_ (leavePN _ (nret h) Tryd.results70 hF hS (.cons (.tmp rfl) .nil) .nil rfl))
noncomputable def slave_asked (xv : SlaveLine) (who : Int) : ND ((List (SlaveStart × slave_way)) × Int) :=
  (ND.det (slave_Check xv) fun rv =>
  cond (rv != 0)
  (ND.ret (([] : (List (SlaveStart × slave_way))), rv))
  ((ND.det (slave_within who 0 (wr ((xv.Starts.length : Int) - 1))) fun rv_1 =>
  cond (!rv_1)
  (ND.ret (([] : (List (SlaveStart × slave_way))), 71))
  ((ND.bnd (slave_line_behind (slave_line.mk xv ([] : List Int)) who) fun rv_2 =>
  cond ((rv_2.length : Int) == 0)
  (ND.ret (([] : (List (SlaveStart × slave_way))), 72))
  (ND.ret (rv_2, 0)))))))
theorem slave_asked_ok {w0 : World} {D0 : Stab} (hD : D0.on w0) (xv : SlaveLine) (who : Int) {p : Option Addr} {c : Nat} {p_1 : Option Addr} {c_1 : Nat} (hs : SRc C_SlaveStart D0 xv.Starts p c) (hs_1 : SRc C_SlaveEvent D0 xv.Events p_1 c_1) (hG : Glob D0) (out : ((List (SlaveStart × slave_way)) × Int) → Prop) (h : slave_asked xv who out) : Calls Tryd.prog 56 [.agg #[iv xv.Ring, .slice p xv.Starts.length c, .slice p_1 xv.Events.length c_1], iv who].toArray w0 (RetSN D0 w0 out fun (out : ((List (SlaveStart × slave_way)) × Int)) D v => ∃ bm_1, v = .tuple #[.map bm_1, iv out.2] ∧ MapB kl_57 C_slave_way true D out.1 bm_1) := by
 refine enter _ 28 Tryd.func56 rfl Tryd.ntmps56 rfl fun a hF => ?_
 replace hF : Frm 28 [] [(0, .agg #[iv xv.Ring, .slice p xv.Starts.length c, .slice p_1 xv.Events.length c_1]), (1, iv who)] a := hF
 have hS := St.start hD
 unfold slave_asked at h
 refine seq (region (O.box (cs := [iv xv.Ring, .slice p xv.Starts.length c, .slice p_1 xv.Events.length c_1]) 1 hF rfl rfl hS rfl fun b a w hF hS => step hF (Y.assign hF rfl) rfl fun a hF => step hF (Y.assign hF rfl) rfl fun a hF => nT (seq (seq (region (step hF (Y.loadNL 1 sz_25 hF rfl hS rfl rfl rfl) rfl fun a hF => ?_))))))
 obtain ⟨rv, hx, h⟩ := ndet h
 refine O.callP (us := [.agg #[iv xv.Ring, .slice p xv.Starts.length c, .slice p_1 xv.Events.length c_1]]) ca_19 hF hS (slave_Check_ok hS.stab xv hs hs_1 rv hx) rfl rfl fun a w hF hS => step hF (Y.assign hF rfl) rfl fun a hF => nT (seq (region (step hF (Y.move hF rfl) rfl fun a hF => step hF (Y.neq hF rfl rfl) rfl fun a hF => nT (cond_b hF rfl (fun hbv => ?_) (fun hbv => ?_)))))
 ·replace h := ncond_t h hbv
  refine seq (region (step hF (Y.move hF rfl) rfl fun a hF => step hF (Y.assign hF rfl) rfl fun a hF => step hF (Y.assign hF rfl) rfl fun a hF => nT (ret_ (then_r (leaveSN _ (nret h) Tryd.results56 hF hS (.cons (.tmp rfl) (.cons (.tmp rfl) .nil)) .nil ⟨_, rfl, MapB.nil⟩)))))
 replace h := ncond_f h hbv
 refine skip_ (then_n (seq (seq (region (step hF (Y.move hF rfl) rfl fun a hF => step hF (Y.fieldAddr fo_25_1 hF rfl) rfl fun a hF => step hF (Y.load1L 1 sz_22 hF rfl hS rfl rfl) rfl fun a hF => step hF (Y.lenSl u_22 hF rfl) rfl fun a hF => step hF (Y.sub hF rfl rfl) rfl fun a hF => ?_)))))
 obtain ⟨rv_1, hx_1, h⟩ := ndet h
 refine O.callP (us := [iv who, iv 0, iv (wr ((xv.Starts.length : Int) - 1))]) ca_60 hF hS (slave_within_ok hS.stab who 0 (wr ((xv.Starts.length : Int) - 1)) rv_1 hx_1) rfl rfl fun a w hF hS => step hF (Y.not hF rfl) rfl fun a hF => nT (cond_b hF rfl (fun hbv_1 => ?_) (fun hbv_1 => ?_))
 ·replace h := ncond_t h hbv_1
  refine seq (region (step hF (Y.assign hF rfl) rfl fun a hF => step hF (Y.assign hF rfl) rfl fun a hF => nT (ret_ (then_r (leaveSN _ (nret h) Tryd.results56 hF hS (.cons (.tmp rfl) (.cons (.tmp rfl) .nil)) .nil ⟨_, rfl, MapB.nil⟩)))))
 replace h := ncond_f h hbv_1
 refine skip_ (then_n (seq (region (step hF (Y.loadNL 1 sz_25 hF rfl hS rfl rfl rfl) rfl fun a hF => step hF (Y.build (parts := [(0, (.tmp 20)), (1, (.const (.slice none 0 0)))]) (cs := #[iv xv.Ring, .slice p xv.Starts.length c, .slice p_1 xv.Events.length c_1, .slice none 0 0]) hF rfl (by kernel_rfl)) rfl fun a hF => step hF (Y.move hF rfl) rfl fun a hF => ?_))))
 obtain ⟨KQ, hx_2, hk⟩ := nbnd_ex h
 refine O.callSN (us := [.agg #[iv xv.Ring, .slice p xv.Starts.length c, .slice p_1 xv.Events.length c_1, .slice none 0 0], iv who]) ca_82 hF hS (slave_line_behind_ok hS.stab (slave_line.mk xv ([] : List Int)) who hs hs_1 SRc.nil hG KQ hx_2) rfl rfl fun rv_2 h v Dv a w hR hlev hF hS => ?_
 replace h := hk _ h
 obtain ⟨bm, rfl, hm⟩ := hR
 refine step hF (Y.assign hF rfl) rfl fun a hF => nT (seq (seq (region (step hF (Y.move hF rfl) rfl fun a hF => step hF (Y.lenMS u_85 hm.toS hF rfl hS.stab) rfl fun a hF => step hF (Y.eql hF rfl rfl) rfl fun a hF => nT (cond_b hF rfl (fun hbv_2 => ?_) (fun hbv_2 => ?_))))))
 ·replace h := ncond_t h hbv_2
  refine seq (region (step hF (Y.assign hF rfl) rfl fun a hF => step hF (Y.assign hF rfl) rfl fun a hF => nT (ret_ (then_r (leaveSN _ (nret h) Tryd.results56 hF hS (.cons (.tmp rfl) (.cons (.tmp rfl) .nil)) .nil ⟨_, rfl, MapB.nil⟩)))))
 replace h := ncond_f h hbv_2
 refine skip_ (then_n (seq (region (step hF (Y.move hF rfl) rfl fun a hF => step hF (Y.assign hF rfl) rfl fun a hF => step hF (Y.assign hF rfl) rfl fun a hF => nT (ret_ (leaveSN _ (nret h) Tryd.results56 hF hS (.cons (.tmp rfl) (.cons (.tmp rfl) .nil)) .nil ⟨_, rfl, hm⟩))))))
noncomputable def slave_Can_b1 (rv_1 : (List Bool)) : ((List Int) × Int) → ND (((List Int) × Int) ⊕ ((List Int) × Int))
 | (outv, v22_0) =>
  cond (decide (v22_0 < 60))
  ((ND.grd ((0 : Int) ≤ v22_0 ∧ v22_0 < ((60 : Nat) : Int)) (
  cond (rv_1.getD (Int.toNat v22_0) false)
  ((ND.grd (outv.length + ([v22_0]).length ≤ lim) (
  nnxt ((outv ++ [v22_0]), wr (v22_0 + 1)))))
  (nnxt (outv, wr (v22_0 + 1))))))
  (next_ (ND.ret (outv, 0)))
noncomputable def slave_Can (xv : SlaveLine) (who : Int) : ND ((List Int) × Int) :=
  (ND.bnd (slave_asked xv who) fun rv =>
  cond (rv.2 != 0)
  (ND.ret (([] : List Int), rv.2))
  ((ND.bnd (slave_minutes rv.1) fun rv_1 =>
  loopN (slave_Can_b1 rv_1) (([] : List Int), 0))))
theorem slave_Can_ok {w0 : World} {D0 : Stab} (hD : D0.on w0) (xv : SlaveLine) (who : Int) {p : Option Addr} {c : Nat} {p_1 : Option Addr} {c_1 : Nat} (hs : SRc C_SlaveStart D0 xv.Starts p c) (hs_1 : SRc C_SlaveEvent D0 xv.Events p_1 c_1) (hG : Glob D0) (out : ((List Int) × Int) → Prop) (h : slave_Can xv who out) : Calls Tryd.prog 16 [.agg #[iv xv.Ring, .slice p xv.Starts.length c, .slice p_1 xv.Events.length c_1], iv who].toArray w0 (RetSN D0 w0 out fun (out : ((List Int) × Int)) D v => ∃ p_5 c_5, v = .tuple #[.slice p_5 out.1.length c_5, iv out.2] ∧ SRc C_int D out.1 p_5 c_5) := by
 refine enter _ 38 Tryd.func16 rfl Tryd.ntmps16 rfl fun a hF => ?_
 replace hF : Frm 38 [] [(0, .agg #[iv xv.Ring, .slice p xv.Starts.length c, .slice p_1 xv.Events.length c_1]), (1, iv who)] a := hF
 have hS := St.start hD
 unfold slave_Can at h
 refine seq (region (O.box (cs := [iv xv.Ring, .slice p xv.Starts.length c, .slice p_1 xv.Events.length c_1]) 1 hF rfl rfl hS rfl fun b a w hF hS => step hF (Y.assign hF rfl) rfl fun a hF => step hF (Y.assign hF rfl) rfl fun a hF => nT (seq (region (step hF (Y.loadNL 1 sz_25 hF rfl hS rfl rfl rfl) rfl fun a hF => step hF (Y.move hF rfl) rfl fun a hF => ?_)))))
 obtain ⟨KQ, hx, hk⟩ := nbnd_ex h
 refine O.callSN (us := [.agg #[iv xv.Ring, .slice p xv.Starts.length c, .slice p_1 xv.Events.length c_1], iv who]) ca_56 hF hS (slave_asked_ok hS.stab xv who hs hs_1 hG KQ hx) rfl rfl fun rv h v Dv a w hR hlev hF hS => ?_
 replace h := hk _ h
 obtain ⟨bm, rfl, hm⟩ := hR
 refine step hF (Y.move hF rfl) rfl fun a hF => step hF (Y.extract hF rfl rfl) rfl fun a hF => step hF (Y.extract hF rfl rfl) rfl fun a hF => step hF (Y.assign hF rfl) rfl fun a hF => step hF (Y.assign hF rfl) rfl fun a hF => nT (seq (seq (region (step hF (Y.move hF rfl) rfl fun a hF => step hF (Y.neq hF rfl rfl) rfl fun a hF => nT (cond_b hF rfl (fun hbv => ?_) (fun hbv => ?_))))))
 ·replace h := ncond_t h hbv
  refine seq (region (step hF (Y.move hF rfl) rfl fun a hF => step hF (Y.assign hF rfl) rfl fun a hF => step hF (Y.assign hF rfl) rfl fun a hF => nT (ret_ (then_r (leaveSN _ (nret h) Tryd.results16 hF hS (.cons (.tmp rfl) (.cons (.tmp rfl) .nil)) .nil ⟨_, _, rfl, SRc.nil⟩)))))
 replace h := ncond_f h hbv
 refine skip_ (then_n (seq (region (step hF (Y.assign hF rfl) rfl fun a hF => ?_))))
 replace hS := hS.ownNil 2 3 1
 refine nT (seq (seq (region (step hF (Y.move hF rfl) rfl fun a hF => ?_))))
 obtain ⟨KQ_1, hx_1, hk_1⟩ := nbnd_ex h
 refine O.callSN (us := [.map bm]) ca_57 hF hS (slave_minutes_ok hS.stab rv.1 hm KQ_1 hx_1) rfl rfl fun rv_1 h v_1 Dv_1 a w hR_1 hlev_1 hF hS => ?_
 replace h := hk_1 _ h
 obtain ⟨rfl, hn⟩ := hR_1
 refine step hF (Y.move hF rfl) rfl fun a hF => nT (block (loop_cutN (body := slave_Can_b1 rv_1) (out := out) (fun s a w => ∃ (outv : (List Int)) (v22_0 : Int), ∃ p_2 c_2 cs, s = (outv, v22_0) ∧ Frm 38 [] [(4, .slice none 0 0), (5, iv 0), (8, .slice p_2 outv.length c_2), (21, .agg (arr celB rv_1).toArray), (22, iv v22_0)] a ∧ St w0 D0 Dv_1 [(1, .cells b [iv xv.Ring, .slice p xv.Starts.length c, .slice p_1 xv.Events.length c_1] 25), (2, .own p_2 outv.length c_2 cs 3 1)] w ∧ Reps C_int Dv_1 outv cs) (([] : List Int), 0) h ⟨([] : List Int), 0, none, 0, ([]), rfl, hF.weak (AF rfl), hS.weak ⟨rfl, rfl, trivial⟩, Reps.nil⟩ ?_))
 rintro s a w xo ⟨outv, v22_0, p_2, c_2, cs, rfl, hF, hS, hr⟩ h
 unfold slave_Can_b1 at h
 try dsimp only at h
 refine seq (region (step hF (Y.lss hF rfl rfl) rfl fun a hF => nT (seq (cond_b hF rfl (fun hbv_1 => ?_) (fun hbv_1 => ?_)))))
 ·replace h := ncond_t h hbv_1
  refine skip_ (then_n (seq (block (seq (region (step hF (Y.move hF rfl) rfl fun a hF => ?_))))))
  obtain ⟨hg, h⟩ := ngrd h
  refine step hF ((show Yields _ _ _ _ (.bool (rv_1.getD (Int.toNat v22_0) false)) from Y.indexV (m := 1) (F := celB) false u_89 sz_4 hn hg hF rfl rfl)) rfl fun a hF => step hF (Y.assign hF rfl) rfl fun a hF => step hF (Y.assign hF rfl) rfl fun a hF => nT (seq (region (step hF (Y.move hF rfl) rfl fun a hF => nT (cond_b hF rfl (fun hbv_2 => ?_) (fun hbv_2 => ?_)))))
  ·replace h := ncond_t h hbv_2
   refine region (step hF (Y.move hF rfl) rfl fun a hF => step hF (Y.move hF rfl) rfl fun a hF => ?_)
   have hr_1 : Reps C_int Dv_1 [v22_0] [iv v22_0] := Reps.cons (C := C_int) (x := v22_0) (c := [iv v22_0]) (r := []) rfl (Reps.nil)
   refine O.buildSlice (E := 3) (C := C_int) (xs := [v22_0]) (cs := [iv v22_0]) (us := [iv v22_0]) (parts := [(0, (.tmp 28))]) 3 hF hS rfl (by kernel_rfl) hr_1 rfl rfl rfl fun p_3 c_3 a w hF hS => ?_
   obtain ⟨hg_1, h⟩ := ngrd h
   refine O.append (C := C_int) (xs := outv) (ys := [v22_0]) 2 gr_26 hF rfl rfl hS rfl (src_own (i := 3) hS rfl) hr hr_1 hg_1 rfl fun p_4 c_4 a w hF hS hr_2 => step hF (Y.assign hF rfl) rfl fun a hF => nil (blk_n (then_n (region (step hF (Y.add hF rfl rfl) rfl fun a hF => step hF (Y.move hF rfl) rfl fun a hF => nT (⟨_, nnxt_h h, (outv ++ [v22_0]), (wr (v22_0 + 1)), p_4, c_4, (cs ++ [iv v22_0]), rfl, hF.weak (AF rfl), hS.weak ⟨rfl, rfl, trivial⟩, hr_2⟩)))))
  replace h := ncond_f h hbv_2
  refine skip_ (blk_n (then_n (region (step hF (Y.add hF rfl rfl) rfl fun a hF => step hF (Y.move hF rfl) rfl fun a hF => nT (⟨_, nnxt_h h, outv, (wr (v22_0 + 1)), p_2, c_2, cs, rfl, hF.weak (AF rfl), hS.weak ⟨rfl, rfl, trivial⟩, hr⟩)))))
 replace h := ncond_f h hbv_1
 refine exit_ (then_x (then_x (blk_hit (then_n ?_))))
 replace h := next_h h
 refine seq (region (step hF (Y.move hF rfl) rfl fun a hF => step hF (Y.move hF rfl) rfl fun a hF => step hF (Y.lenSl u_26 hF rfl) rfl fun a hF => step hF (Y.move hF rfl) rfl fun a hF => step hF (Y.lenSl u_26 hF rfl) rfl fun a hF => step hF (Y.slice3 u_26 sz_3 hF rfl rfl rfl (own_cap (i := 2) hS rfl)) rfl fun a hF => step hF (Y.assign hF rfl) rfl fun a hF => step hF (Y.assign hF rfl) rfl fun a hF => nT (ret_ ?_)))
 obtain ⟨Dv_2, hlev_2, hs_2, hS⟩ := hS.freezeC (C := C_int) (i := 2) (xs := outv) rfl hr
 exact leaveSN _ (nret h) Tryd.results16 hF hS (.cons (.tmp rfl) (.cons (.tmp rfl) .nil)) .nil ⟨_, _, rfl, (⟨hs_2.1, Nat.le_refl _⟩ : SRc _ _ _ _ _)⟩
noncomputable def slave_all_k2 (kv : (SlaveStart × slave_way)) (left_1 : (List (SlaveStart × slave_way))) (found_1 : Bool) (z_2 : Int) (z_3 : Int) (l_1 : (List (List Int))) : ND ((Bool × (List (SlaveStart × slave_way)) × Int × Int × (List (List Int))) ⊕ slave_way) :=
  (ND.det (slave_widened (slave_way.mk (Span.mk z_2 z_3) l_1) kv.2) fun rv_1 =>
  nnxt (found_1, left_1, rv_1.lost.Low, rv_1.lost.High, rv_1.story))
noncomputable def slave_all_b1  : (Bool × (List (SlaveStart × slave_way)) × Int × Int × (List (List Int))) → ND ((Bool × (List (SlaveStart × slave_way)) × Int × Int × (List (List Int))) ⊕ slave_way)
 | (found, left, z, z_1, l) =>
  (ND.pickE left
  (next_ (ND.ret (slave_way.mk (Span.mk z z_1) l)))
  (fun kv left_1 => cond (!found)
  (slave_all_k2 kv left_1 true kv.2.lost.Low kv.2.lost.High kv.2.story)
  (slave_all_k2 kv left_1 found z z_1 l)))
noncomputable def slave_all (m : (List (SlaveStart × slave_way))) : ND slave_way :=
  loopN (slave_all_b1) (false, m, 0, 0, ([] : List (List Int)))
theorem slave_all_ok {w0 : World} {D0 : Stab} (hD : D0.on w0) (m : (List (SlaveStart × slave_way))) {bm : Option Nat} (hm : MapB kl_57 C_slave_way true D0 m bm) (out : slave_way → Prop) (h : slave_all m out) : Calls Tryd.prog 61 [.map bm].toArray w0 (RetSN D0 w0 out fun (out : slave_way) D v => ∃ p_4 c_4, v = .agg #[iv out.lost.Low, iv out.lost.High, .slice p_4 out.story.length c_4] ∧ SRc (C_sl C_int) D out.story p_4 c_4) := by
 refine enter _ 20 Tryd.func61 rfl Tryd.ntmps61 rfl fun a hF => ?_
 replace hF : Frm 20 [] [(0, .map bm)] a := hF
 have hS := St.start hD
 unfold slave_all at h
 refine seq (region (O.alloc 1 zc_98 hF hS rfl fun b a w hF hS => nT (seq (region (O.alloc 2 zc_98 hF hS rfl fun b_1 a w hF hS => nT (seq (region (step hF (Y.assign hF rfl) rfl fun a hF => nT (seq (seq (region (step hF (Y.move hF rfl) rfl fun a hF => O.rangeM (kl := kl_57) (C := C_slave_way) (agg := true) 3 u_85 hm hF rfl hS rfl fun b_2 oi a w hF hS hI => nT (block (loop_cutN (body := slave_all_b1) (out := out) (fun s a w => ∃ (found : Bool) (left : (List (SlaveStart × slave_way))) (z : Int) (z_1 : Int) (l : (List (List Int))), ∃ (Dv : Stab), ∃ oi_1 p c, s = (found, left, z, z_1, l) ∧ D0.le Dv ∧ Frm 20 [] [(2, .pointer (some ⟨b, 0, none⟩)), (3, .pointer (some ⟨b_1, 0, none⟩)), (4, .bool found), (8, .pointer (some ⟨b_2, 0, none⟩))] a ∧ St w0 D0 Dv [(1, .cells b [iv 0, iv 0, .slice none 0 0] 98), (2, .cells b_1 [iv z, iv z_1, .slice p l.length c] 98), (3, .obj b_2 oi_1)] w ∧ IterB kl_57 C_slave_way true Dv left oi_1 ∧ SRc (C_sl C_int) Dv l p c) (false, m, 0, 0, ([] : List (List Int))) h ⟨false, m, 0, 0, ([] : List (List Int)), D0, oi, none, 0, rfl, Stab.le.refl _, hF.weak (AF rfl), hS.weak (AL rfl), hI, SRc.nil⟩ ?_))))))))))))))
 rintro s a w xo ⟨found, left, z, z_1, l, Dv, oi_1, p, c, rfl, hlev, hF, hS, hI_1, hs⟩ h
 unfold slave_all_b1 at h
 try dsimp only at h
 refine seq (region (O.nextM 3 hF rfl hS rfl hI_1 rfl (fun hnil a hF => ?_) (fun kv left_1 hpk oi_2 ru rv a w hst hF hS => ?_)))
 ·replace h := npickz h hnil
  refine step hF (Y.extract hF rfl rfl) rfl fun a hF => nT (seq (cond_b hF rfl (fun hb => by cases hb) (fun hb => exit_ (then_x (then_x (blk_hit (then_n ?_)))))))
  replace h := next_h h
  refine seq (region (step hF (Y.loadNL 2 sz_98 hF rfl hS rfl rfl rfl) rfl fun a hF => O.store (us := [iv z, iv z_1, .slice p l.length c]) 1 sz_98 hF rfl rfl rfl rfl hS rfl rfl fun a w hF hS => nT (ret_ (leaveSN _ (nret h) Tryd.results61 hF hS (.cons (.cellN 1 sz_98 rfl rfl rfl) .nil) .nil ⟨_, _, rfl, hs⟩))))
 replace h := npick1 h hpk
 refine step hF (Y.extract hF rfl rfl) rfl fun a hF => nT (seq (cond_b hF rfl (fun hb => ?_) (fun hb => by cases hb)))
 refine skip_ (then_n (block (seq (region ?_))))
 obtain ⟨cc, hc, hY⟩ := Y.entryM (P := Tryd.prog) (x := (.tmp 8)) 3 hst hF rfl (lkOf hS rfl)
 obtain ⟨p_1, c_1, rfl, hs_1⟩ := C_slave_way.open hc
 refine step hF ((show Yields _ _ _ _ (.tuple #[.agg #[iv kv.1.Shown, iv kv.1.Last], .agg #[iv kv.2.lost.Low, iv kv.2.lost.High, .slice p_1 kv.2.story.length c_1]]) from hY hS)) rfl fun a hF => step hF (Y.extract hF rfl rfl) rfl fun a hF => O.alloc 4 zc_98 hF hS rfl fun b_3 a w hF hS => O.store (us := [iv kv.2.lost.Low, iv kv.2.lost.High, .slice p_1 kv.2.story.length c_1]) 4 sz_98 hF rfl rfl rfl rfl hS rfl rfl fun a w hF hS => nT (seq_cut (fun a w => ∃ (found_1 : Bool) (z_2 : Int) (z_3 : Int) (l_1 : (List (List Int))), ∃ p_2 c_2, Frm 20 [] [(2, .pointer (some ⟨b, 0, none⟩)), (3, .pointer (some ⟨b_1, 0, none⟩)), (4, .bool found_1), (6, .pointer (some ⟨b_3, 0, none⟩)), (8, .pointer (some ⟨b_2, 0, none⟩))] a ∧ St w0 D0 Dv [(1, .cells b [iv 0, iv 0, .slice none 0 0] 98), (2, .cells b_1 [iv z_2, iv z_3, .slice p_2 l_1.length c_2] 98), (3, .obj b_2 oi_2), (4, .cells b_3 [iv kv.2.lost.Low, iv kv.2.lost.High, .slice p_1 kv.2.story.length c_1] 98)] w ∧ SRc (C_sl C_int) Dv l_1 p_2 c_2 ∧ (slave_all_k2 kv left_1 found_1 z_2 z_3 l_1) (nlp xo out)) ?_ ?_)
 ·skip
  refine seq (region (step hF (Y.move hF rfl) rfl fun a hF => step hF (Y.not hF rfl) rfl fun a hF => nT (cond_b hF rfl (fun hbv => ?_) (fun hbv => ?_))))
  ·replace h := ncond_t h hbv
   refine region (step hF (Y.loadNL 4 sz_98 hF rfl hS rfl rfl rfl) rfl fun a hF => O.store (us := [iv kv.2.lost.Low, iv kv.2.lost.High, .slice p_1 kv.2.story.length c_1]) 2 sz_98 hF rfl rfl rfl rfl hS rfl rfl fun a w hF hS => step hF (Y.assign hF rfl) rfl fun a hF => nT (⟨true, kv.2.lost.Low, kv.2.lost.High, kv.2.story, p_1, c_1, hF.weak (AF rfl), hS.weak (AL rfl), hs_1, h⟩))
  replace h := ncond_f h hbv
  refine skip_ (then_n (⟨found, z, z_1, l, p, c, hF.weak (AF rfl), hS.weak (AL rfl), hs, h⟩))
 rintro a w ⟨found_1, z_2, z_3, l_1, p_2, c_2, hF, hS, hs_2, h⟩
 unfold slave_all_k2 at h
 refine region (step hF (Y.loadNL 2 sz_98 hF rfl hS rfl rfl rfl) rfl fun a hF => step hF (Y.loadNL 4 sz_98 hF rfl hS rfl rfl rfl) rfl fun a hF => ?_)
 obtain ⟨rv_1, hx, h⟩ := ndet h
 refine O.callS (us := [.agg #[iv z_2, iv z_3, .slice p_2 l_1.length c_2], .agg #[iv kv.2.lost.Low, iv kv.2.lost.High, .slice p_1 kv.2.story.length c_1]]) ca_84 hF hS (slave_widened_ok hS.stab (slave_way.mk (Span.mk z_2 z_3) l_1) kv.2 hs_2 hs_1 rv_1 hx) rfl rfl fun v Dv_1 a w hR hlev_1 hF hS => ?_
 replace hst := hst.mono hlev_1
 obtain ⟨p_3, c_3, rfl, hs_3⟩ := hR
 refine O.store (us := [iv rv_1.lost.Low, iv rv_1.lost.High, .slice p_3 rv_1.story.length c_3]) 2 sz_98 hF rfl rfl rfl rfl hS rfl rfl fun a w hF hS => nil (blk_n (then_n (⟨_, nnxt_h h, found_1, left_1, rv_1.lost.Low, rv_1.lost.High, rv_1.story, Dv_1, oi_2, p_3, c_3, rfl, hlev.trans hlev_1, hF.weak (AF rfl), hS.weak (AL rfl), hst.it, hs_3⟩)))
noncomputable def slave_Lost (xv : SlaveLine) (who : Int) : ND (Span × Int) :=
  (ND.bnd (slave_asked xv who) fun rv =>
  cond (rv.2 != 0)
  (ND.ret ((Span.mk 0 0), rv.2))
  ((ND.bnd (slave_all rv.1) fun rv_1 =>
  ND.ret (rv_1.lost, 0))))
theorem slave_Lost_ok {w0 : World} {D0 : Stab} (hD : D0.on w0) (xv : SlaveLine) (who : Int) {p : Option Addr} {c : Nat} {p_1 : Option Addr} {c_1 : Nat} (hs : SRc C_SlaveStart D0 xv.Starts p c) (hs_1 : SRc C_SlaveEvent D0 xv.Events p_1 c_1) (hG : Glob D0) (out : (Span × Int) → Prop) (h : slave_Lost xv who out) : Calls Tryd.prog 21 [.agg #[iv xv.Ring, .slice p xv.Starts.length c, .slice p_1 xv.Events.length c_1], iv who].toArray w0 (RetPN D0 w0 out fun (out : (Span × Int)) => .tuple #[.agg #[iv out.1.Low, iv out.1.High], iv out.2]) := by
 refine enter _ 21 Tryd.func21 rfl Tryd.ntmps21 rfl fun a hF => ?_
 replace hF : Frm 21 [] [(0, .agg #[iv xv.Ring, .slice p xv.Starts.length c, .slice p_1 xv.Events.length c_1]), (1, iv who)] a := hF
 have hS := St.start hD
 unfold slave_Lost at h
 refine seq (region (O.box (cs := [iv xv.Ring, .slice p xv.Starts.length c, .slice p_1 xv.Events.length c_1]) 1 hF rfl rfl hS rfl fun b a w hF hS => O.alloc 2 zc_33 hF hS rfl fun b_1 a w hF hS => step hF (Y.assign hF rfl) rfl fun a hF => nT (seq (region (step hF (Y.loadNL 1 sz_25 hF rfl hS rfl rfl rfl) rfl fun a hF => step hF (Y.move hF rfl) rfl fun a hF => ?_)))))
 obtain ⟨KQ, hx, hk⟩ := nbnd_ex h
 refine O.callSN (us := [.agg #[iv xv.Ring, .slice p xv.Starts.length c, .slice p_1 xv.Events.length c_1], iv who]) ca_56 hF hS (slave_asked_ok hS.stab xv who hs hs_1 hG KQ hx) rfl rfl fun rv h v Dv a w hR hlev hF hS => ?_
 replace h := hk _ h
 obtain ⟨bm, rfl, hm⟩ := hR
 refine step hF (Y.move hF rfl) rfl fun a hF => step hF (Y.extract hF rfl rfl) rfl fun a hF => step hF (Y.extract hF rfl rfl) rfl fun a hF => step hF (Y.assign hF rfl) rfl fun a hF => step hF (Y.assign hF rfl) rfl fun a hF => nT (seq (seq (region (step hF (Y.move hF rfl) rfl fun a hF => step hF (Y.neq hF rfl rfl) rfl fun a hF => nT (cond_b hF rfl (fun hbv => ?_) (fun hbv => ?_))))))
 ·replace h := ncond_t h hbv
  refine seq (region (step hF (Y.build (parts := []) (cs := #[iv 0, iv 0]) hF rfl (by kernel_rfl)) rfl fun a hF => step hF (Y.move hF rfl) rfl fun a hF => O.store (us := [iv 0, iv 0]) 2 sz_33 hF rfl rfl rfl rfl hS rfl rfl fun a w hF hS => step hF (Y.assign hF rfl) rfl fun a hF => nT (ret_ (then_r (leavePN _ (nret h) Tryd.results21 hF hS (.cons (.cellN 2 sz_33 rfl rfl rfl) (.cons (.tmp rfl) .nil)) .nil rfl)))))
 replace h := ncond_f h hbv
 refine skip_ (then_n (seq (region (step hF (Y.move hF rfl) rfl fun a hF => ?_))))
 obtain ⟨KQ_1, hx_1, hk_1⟩ := nbnd_ex h
 refine O.callSN (us := [.map bm]) ca_61 hF hS (slave_all_ok hS.stab rv.1 hm KQ_1 hx_1) rfl rfl fun rv_1 h v_1 Dv_1 a w hR_1 hlev_1 hF hS => ?_
 replace h := hk_1 _ h
 obtain ⟨p_2, c_2, rfl, hs_2⟩ := hR_1
 refine step hF ((show Yields _ _ _ _ (.agg #[iv rv_1.lost.Low, iv rv_1.lost.High]) from Y.fieldN fT_98_0 hF rfl rfl)) rfl fun a hF => O.store (us := [iv rv_1.lost.Low, iv rv_1.lost.High]) 2 sz_33 hF rfl rfl rfl rfl hS rfl rfl fun a w hF hS => step hF (Y.assign hF rfl) rfl fun a hF => nT (ret_ (leavePN _ (nret h) Tryd.results21 hF hS (.cons (.cellN 2 sz_33 rfl rfl rfl) (.cons (.tmp rfl) .nil)) .nil rfl))
noncomputable def slave_Story_b1 (rv_1 : slave_way) : ((List (List Int)) × Int) → ND (((List (List Int)) × Int) ⊕ ((List (List Int)) × Int))
 | (outv, v24_0) =>
  cond (decide (v24_0 < (rv_1.story.length : Int)))
  ((ND.det (idx rv_1.story v24_0) fun e =>
  (ND.det (slices_Clone___int_int_ e) fun rv_2 =>
  (ND.grd (outv.length + ([rv_2]).length ≤ lim) (
  nnxt ((outv ++ [rv_2]), wr (v24_0 + 1)))))))
  (next_ (ND.ret (outv, 0)))
noncomputable def slave_Story (xv : SlaveLine) (who : Int) : ND ((List (List Int)) × Int) :=
  (ND.bnd (slave_asked xv who) fun rv =>
  cond (rv.2 != 0)
  (ND.ret (([] : List (List Int)), rv.2))
  ((ND.bnd (slave_all rv.1) fun rv_1 =>
  loopN (slave_Story_b1 rv_1) (([] : List (List Int)), 0))))
theorem slave_Story_ok {w0 : World} {D0 : Stab} (hD : D0.on w0) (xv : SlaveLine) (who : Int) {p : Option Addr} {c : Nat} {p_1 : Option Addr} {c_1 : Nat} (hs : SRc C_SlaveStart D0 xv.Starts p c) (hs_1 : SRc C_SlaveEvent D0 xv.Events p_1 c_1) (hG : Glob D0) (out : ((List (List Int)) × Int) → Prop) (h : slave_Story xv who out) : Calls Tryd.prog 26 [.agg #[iv xv.Ring, .slice p xv.Starts.length c, .slice p_1 xv.Events.length c_1], iv who].toArray w0 (RetSN D0 w0 out fun (out : ((List (List Int)) × Int)) D v => ∃ p_8 c_8, v = .tuple #[.slice p_8 out.1.length c_8, iv out.2] ∧ SRc (C_sl C_int) D out.1 p_8 c_8) := by
 refine enter _ 40 Tryd.func26 rfl Tryd.ntmps26 rfl fun a hF => ?_
 replace hF : Frm 40 [] [(0, .agg #[iv xv.Ring, .slice p xv.Starts.length c, .slice p_1 xv.Events.length c_1]), (1, iv who)] a := hF
 have hS := St.start hD
 unfold slave_Story at h
 refine seq (region (O.box (cs := [iv xv.Ring, .slice p xv.Starts.length c, .slice p_1 xv.Events.length c_1]) 1 hF rfl rfl hS rfl fun b a w hF hS => step hF (Y.assign hF rfl) rfl fun a hF => step hF (Y.assign hF rfl) rfl fun a hF => nT (seq (region (step hF (Y.loadNL 1 sz_25 hF rfl hS rfl rfl rfl) rfl fun a hF => step hF (Y.move hF rfl) rfl fun a hF => ?_)))))
 obtain ⟨KQ, hx, hk⟩ := nbnd_ex h
 refine O.callSN (us := [.agg #[iv xv.Ring, .slice p xv.Starts.length c, .slice p_1 xv.Events.length c_1], iv who]) ca_56 hF hS (slave_asked_ok hS.stab xv who hs hs_1 hG KQ hx) rfl rfl fun rv h v Dv a w hR hlev hF hS => ?_
 replace h := hk _ h
 obtain ⟨bm, rfl, hm⟩ := hR
 refine step hF (Y.move hF rfl) rfl fun a hF => step hF (Y.extract hF rfl rfl) rfl fun a hF => step hF (Y.extract hF rfl rfl) rfl fun a hF => step hF (Y.assign hF rfl) rfl fun a hF => step hF (Y.assign hF rfl) rfl fun a hF => nT (seq (seq (region (step hF (Y.move hF rfl) rfl fun a hF => step hF (Y.neq hF rfl rfl) rfl fun a hF => nT (cond_b hF rfl (fun hbv => ?_) (fun hbv => ?_))))))
 ·replace h := ncond_t h hbv
  refine seq (region (step hF (Y.move hF rfl) rfl fun a hF => step hF (Y.assign hF rfl) rfl fun a hF => step hF (Y.assign hF rfl) rfl fun a hF => nT (ret_ (then_r (leaveSN _ (nret h) Tryd.results26 hF hS (.cons (.tmp rfl) (.cons (.tmp rfl) .nil)) .nil ⟨_, _, rfl, SRc.nil⟩)))))
 replace h := ncond_f h hbv
 refine skip_ (then_n (seq (region (step hF (Y.assign hF rfl) rfl fun a hF => ?_))))
 replace hS := hS.ownNil 2 26 1
 refine nT (seq (seq (region (step hF (Y.move hF rfl) rfl fun a hF => ?_))))
 obtain ⟨KQ_1, hx_1, hk_1⟩ := nbnd_ex h
 refine O.callSN (us := [.map bm]) ca_61 hF hS (slave_all_ok hS.stab rv.1 hm KQ_1 hx_1) rfl rfl fun rv_1 h v_1 Dv_1 a w hR_1 hlev_1 hF hS => ?_
 replace h := hk_1 _ h
 obtain ⟨p_2, c_2, rfl, hs_2⟩ := hR_1
 refine step hF (Y.field1 fT_98_1 hF rfl rfl) rfl fun a hF => step hF (Y.lenSl u_38 hF rfl) rfl fun a hF => step hF (Y.move hF rfl) rfl fun a hF => nT (block (loop_cutN (body := slave_Story_b1 rv_1) (out := out) (fun s a w => ∃ (outv : (List (List Int))) (v24_0 : Int), ∃ (Dv_2 : Stab), ∃ p_3 c_3 cs, s = (outv, v24_0) ∧ Dv_1.le Dv_2 ∧ Frm 40 [] [(4, .slice none 0 0), (5, iv 0), (8, .slice p_3 outv.length c_3), (22, .slice p_2 rv_1.story.length c_2), (23, iv (rv_1.story.length : Int)), (24, iv v24_0)] a ∧ St w0 D0 Dv_2 [(1, .cells b [iv xv.Ring, .slice p xv.Starts.length c, .slice p_1 xv.Events.length c_1] 25), (2, .own p_3 outv.length c_3 cs 26 1)] w ∧ Reps (C_sl C_int) Dv_2 outv cs) (([] : List (List Int)), 0) h ⟨([] : List (List Int)), 0, Dv_1, none, 0, ([]), rfl, Stab.le.refl _, hF.weak (AF rfl), hS.weak ⟨rfl, rfl, trivial⟩, Reps.nil⟩ ?_))
 rintro s a w xo ⟨outv, v24_0, Dv_2, p_3, c_3, cs, rfl, hlev_2, hF, hS, hr⟩ h
 unfold slave_Story_b1 at h
 try dsimp only at h
 replace hs_2 := hs_2.mono hlev_2
 refine seq (region (step hF (Y.lss hF rfl rfl) rfl fun a hF => nT (seq (cond_b hF rfl (fun hbv_1 => ?_) (fun hbv_1 => ?_)))))
 ·replace h := ncond_t h hbv_1
  refine skip_ (then_n (seq (block (seq (region ?_)))))
  obtain ⟨e, hx_2, h⟩ := ndet h
  obtain ⟨b_1, o, hE, hY⟩ := Y.indexS (P := Tryd.prog) (C := (C_sl C_int)) (xs := rv_1.story) (T := 38) (x := (.tmp 22)) (y := (.tmp 24)) u_38 sz_26 hF rfl rfl (hs_2).1 hx_2
  obtain ⟨cc, hc, hcell⟩ := hE.open
  obtain ⟨p_4, c_4, rfl, hs_3⟩ := hc
  refine step hF (hY) rfl fun a hF => step hF (Y.load1 sz_26 hF rfl (hcell _ hS.stab 0 _ rfl)) rfl fun a hF => step hF (Y.assign hF rfl) rfl fun a hF => nT (region (step hF (Y.move hF rfl) rfl fun a hF => step hF (Y.move hF rfl) rfl fun a hF => ?_))
  obtain ⟨rv_2, hx_3, h⟩ := ndet h
  refine O.callS (us := [.slice p_4 e.length c_4]) ca_68 hF hS (slices_Clone___int_int__ok hS.stab e hs_3 rv_2 hx_3) rfl rfl fun v_2 Dv_3 a w hR_2 hlev_3 hF hS => ?_
  replace hr := hr.mono hlev_3
  obtain ⟨p_5, c_5, rfl, hs_4⟩ := hR_2
  have hr_1 : Reps (C_sl C_int) Dv_3 [rv_2] [.slice p_5 rv_2.length c_5] := Reps.cons (C := (C_sl C_int)) (x := rv_2) (c := [.slice p_5 rv_2.length c_5]) (r := []) (⟨_, _, rfl, hs_4⟩) (Reps.nil)
  refine O.buildSlice (E := 26) (C := (C_sl C_int)) (xs := [rv_2]) (cs := [.slice p_5 rv_2.length c_5]) (us := [.slice p_5 rv_2.length c_5]) (parts := [(0, (.tmp 30))]) 3 hF hS rfl (by kernel_rfl) hr_1 rfl rfl rfl fun p_6 c_6 a w hF hS => ?_
  obtain ⟨hg, h⟩ := ngrd h
  refine O.append (C := (C_sl C_int)) (xs := outv) (ys := [rv_2]) 2 gr_38 hF rfl rfl hS rfl (src_own (i := 3) hS rfl) hr hr_1 hg rfl fun p_7 c_7 a w hF hS hr_2 => step hF (Y.assign hF rfl) rfl fun a hF => nil (blk_n (then_n (region (step hF (Y.add hF rfl rfl) rfl fun a hF => step hF (Y.move hF rfl) rfl fun a hF => nT (⟨_, nnxt_h h, (outv ++ [rv_2]), (wr (v24_0 + 1)), Dv_3, p_7, c_7, (cs ++ [.slice p_5 rv_2.length c_5]), rfl, hlev_2.trans hlev_3, hF.weak (AF rfl), hS.weak ⟨rfl, rfl, trivial⟩, hr_2⟩)))))
 replace h := ncond_f h hbv_1
 refine exit_ (then_x (then_x (blk_hit (then_n ?_))))
 replace h := next_h h
 refine seq (region (step hF (Y.move hF rfl) rfl fun a hF => step hF (Y.move hF rfl) rfl fun a hF => step hF (Y.lenSl u_38 hF rfl) rfl fun a hF => step hF (Y.move hF rfl) rfl fun a hF => step hF (Y.lenSl u_38 hF rfl) rfl fun a hF => step hF (Y.slice3 u_38 sz_26 hF rfl rfl rfl (own_cap (i := 2) hS rfl)) rfl fun a hF => step hF (Y.assign hF rfl) rfl fun a hF => step hF (Y.assign hF rfl) rfl fun a hF => nT (ret_ ?_)))
 obtain ⟨Dv_4, hlev_4, hs_5, hS⟩ := hS.freezeC (C := (C_sl C_int)) (i := 2) (xs := outv) rfl hr
 exact leaveSN _ (nret h) Tryd.results26 hF hS (.cons (.tmp rfl) (.cons (.tmp rfl) .nil)) .nil ⟨_, _, rfl, (⟨hs_5.1, Nat.le_refl _⟩ : SRc _ _ _ _ _)⟩
noncomputable def slave_IsStory_k2 (v47_0 : Int) (v6_1 : Bool) (v7_1 : Int) (z_2 : Int) (z_3 : Int) : Option ((Bool × Int × Int × Int × Int) ⊕ (Bool × Int)) :=
  nxt (v6_1, v7_1, wr (v47_0 + 1), z_2, z_3)
noncomputable def slave_IsStory_y4 (xv : SlaveLine) (e_3 : (List Int)) (xy : (Int × Int)) : (Int × Int) → Option (Int × Int)
 | (z_4, z_5) =>
  (slave_line_after (slave_line.mk xv ([] : List Int)) (SlaveStart.mk z_4 z_5) xy.2).bind fun rv_4 =>
  (cond (!([rv_4.Shown, rv_4.Last] == [z_4, z_5])) ((slices_Contains___int_int_ e_3 xy.1).bind fun rv_5 =>
  some (!rv_5)) (some false)).bind fun t =>
  cond t
  (some (rv_4.Shown, rv_4.Last))
  (some (z_4, z_5))
noncomputable def slave_IsStory_b3 (xv : SlaveLine) (v47_0 : Int) (z : Int) (z_1 : Int) (e_1 : SlaveEvent) (e_3 : (List Int)) : (Bool × Int × Int × Int) → Option ((Bool × Int × Int × Int) ⊕ ((Bool × Int × Int × Int × Int) ⊕ (Bool × Int)))
 | (v6_2, v7_2, last, v79_0) =>
  cond (decide (v79_0 < (e_3.length : Int)))
  ((idx e_3 v79_0).bind fun e_4 =>
  (slave_within e_4 (wr (last + 1)) (wr (e_1.Count - 1))).bind fun rv_2 =>
  cond (!rv_2)
  (ext (ext (some (false, 0))))
  (nxt (v6_2, v7_2, e_4, wr (v79_0 + 1))))
  (ext (cond (decide ((e_3.length : Int) > e_1.Lost))
  (ext (some (false, 0)))
  ((slave_line_pulses (slave_line.mk xv ([] : List Int)) e_1).bind fun rv_3 =>
  (slave_line_pulses_1 (slave_IsStory_y4 xv e_3) rv_3.1 rv_3.2 (z, z_1)).bind fun (so, so_1) =>
  slave_IsStory_k2 v47_0 v6_2 v7_2 so so_1)))
noncomputable def slave_IsStory_b1 (xv : SlaveLine) (who : Int) (story : (List (List Int))) : (Bool × Int × Int × Int × Int) → Option ((Bool × Int × Int × Int × Int) ⊕ (Bool × Int))
 | (v6_0, v7_0, v47_0, z, z_1) =>
  cond (decide (v47_0 < (xv.Events.length : Int)))
  ((idx xv.Events v47_0).bind fun e_1 =>
  cond (e_1.Kind == 2)
  ((idx story v47_0).bind fun e_2 =>
  cond ((decide ((e_2.length : Int) > 0)) || ((e_1.Who == who) && (e_1.Shown != z)))
  (ext (some (false, 0)))
  (slave_IsStory_k2 v47_0 v6_0 v7_0 z z_1))
  ((idx story v47_0).bind fun e_3 =>
  loopU (slave_IsStory_b3 xv v47_0 z z_1 e_1 e_3) (v6_0, v7_0, -1, 0)))
  (ext (some (true, 0)))
noncomputable def slave_IsStory (xv : SlaveLine) (who : Int) (story : (List (List Int))) : Option (Bool × Int) :=
  (slave_Check xv).bind fun rv =>
  cond (rv != 0)
  (some (false, rv))
  ((slave_within who 0 (wr ((xv.Starts.length : Int) - 1))).bind fun rv_1 =>
  cond (!rv_1)
  (some (false, 71))
  (cond ((story.length : Int) != (xv.Events.length : Int))
  (some (false, 0))
  ((idx xv.Starts who).bind fun e =>
  loopU (slave_IsStory_b1 xv who story) (false, 0, 0, e.Shown, e.Last))))
theorem slave_IsStory_ok {w0 : World} {D0 : Stab} (hD : D0.on w0) (xv : SlaveLine) (who : Int) (story : (List (List Int))) {p : Option Addr} {c : Nat} {p_1 : Option Addr} {c_1 : Nat} {p_2 : Option Addr} {c_2 : Nat} (hs : SRc C_SlaveStart D0 xv.Starts p c) (hs_1 : SRc C_SlaveEvent D0 xv.Events p_1 c_1) (hs_2 : SRc (C_sl C_int) D0 story p_2 c_2) (hG : Glob D0) (out : (Bool × Int)) (h : slave_IsStory xv who story = some out) : Calls Tryd.prog 24 [.agg #[iv xv.Ring, .slice p xv.Starts.length c, .slice p_1 xv.Events.length c_1], iv who, .slice p_2 story.length c_2].toArray w0 (RetP D0 w0 (.tuple #[.bool out.1, iv out.2])) := by
 refine enter _ 124 Tryd.func24 rfl Tryd.ntmps24 rfl fun a hF => ?_
 replace hF : Frm 124 [] [(0, .agg #[iv xv.Ring, .slice p xv.Starts.length c, .slice p_1 xv.Events.length c_1]), (1, iv who), (2, .slice p_2 story.length c_2)] a := hF
 have hS := St.start hD
 replace hS := hS.noMarks 1
 unfold slave_IsStory at h
 refine seq (region (O.box (cs := [iv xv.Ring, .slice p xv.Starts.length c, .slice p_1 xv.Events.length c_1]) 2 hF rfl rfl hS rfl fun b a w hF hS => O.box (cs := [.slice p_2 story.length c_2]) 3 hF rfl rfl hS rfl fun b_1 a w hF hS => step hF (Y.assign hF rfl) rfl fun a hF => step hF (Y.assign hF rfl) rfl fun a hF => nT (seq (seq (region (step hF (Y.loadNL 2 sz_25 hF rfl hS rfl rfl rfl) rfl fun a hF => ?_))))))
 obtain ⟨rv, hx, h⟩ := bind_some h
 refine O.callP (us := [.agg #[iv xv.Ring, .slice p xv.Starts.length c, .slice p_1 xv.Events.length c_1]]) ca_19 hF hS (slave_Check_ok hS.stab xv hs hs_1 rv hx) rfl rfl fun a w hF hS => step hF (Y.assign hF rfl) rfl fun a hF => nT (seq (region (step hF (Y.move hF rfl) rfl fun a hF => step hF (Y.neq hF rfl rfl) rfl fun a hF => nT (cond_b hF rfl (fun hbv => ?_) (fun hbv => ?_)))))
 ·replace h := cond_t h hbv
  refine seq (region (step hF (Y.move hF rfl) rfl fun a hF => step hF (Y.assign hF rfl) rfl fun a hF => step hF (Y.assign hF rfl) rfl fun a hF => nT (ret_ (then_r ?_))))
  obtain rfl := some_inj h
  exact leaveP Tryd.results24 hF hS (.cons (.tmp rfl) (.cons (.tmp rfl) .nil)) (.inr ⟨1, rfl⟩) rfl
 replace h := cond_f h hbv
 refine skip_ (then_n (seq (seq (region (step hF (Y.move hF rfl) rfl fun a hF => step hF (Y.fieldAddr fo_25_1 hF rfl) rfl fun a hF => step hF (Y.load1L 2 sz_22 hF rfl hS rfl rfl) rfl fun a hF => step hF (Y.lenSl u_22 hF rfl) rfl fun a hF => step hF (Y.sub hF rfl rfl) rfl fun a hF => ?_)))))
 obtain ⟨rv_1, hx_1, h⟩ := bind_some h
 refine O.callP (us := [iv who, iv 0, iv (wr ((xv.Starts.length : Int) - 1))]) ca_60 hF hS (slave_within_ok hS.stab who 0 (wr ((xv.Starts.length : Int) - 1)) rv_1 hx_1) rfl rfl fun a w hF hS => step hF (Y.not hF rfl) rfl fun a hF => nT (cond_b hF rfl (fun hbv_1 => ?_) (fun hbv_1 => ?_))
 ·replace h := cond_t h hbv_1
  refine seq (region (step hF (Y.assign hF rfl) rfl fun a hF => step hF (Y.assign hF rfl) rfl fun a hF => nT (ret_ (then_r ?_))))
  obtain rfl := some_inj h
  exact leaveP Tryd.results24 hF hS (.cons (.tmp rfl) (.cons (.tmp rfl) .nil)) (.inr ⟨1, rfl⟩) rfl
 replace h := cond_f h hbv_1
 refine skip_ (then_n (seq (seq (region (step hF (Y.load1L 3 sz_38 hF rfl hS rfl rfl) rfl fun a hF => step hF (Y.lenSl u_38 hF rfl) rfl fun a hF => step hF (Y.fieldAddr fo_25_2 hF rfl) rfl fun a hF => step hF (Y.load1L 2 sz_23 hF rfl hS rfl rfl) rfl fun a hF => step hF (Y.lenSl u_23 hF rfl) rfl fun a hF => step hF (Y.neq hF rfl rfl) rfl fun a hF => nT (cond_b hF rfl (fun hbv_2 => ?_) (fun hbv_2 => ?_)))))))
 ·replace h := cond_t h hbv_2
  refine seq (region (step hF (Y.assign hF rfl) rfl fun a hF => step hF (Y.assign hF rfl) rfl fun a hF => nT (ret_ (then_r ?_))))
  obtain rfl := some_inj h
  exact leaveP Tryd.results24 hF hS (.cons (.tmp rfl) (.cons (.tmp rfl) .nil)) (.inr ⟨1, rfl⟩) rfl
 replace h := cond_f h hbv_2
 refine skip_ (then_n (seq (region (step hF (Y.loadNL 2 sz_25 hF rfl hS rfl rfl rfl) rfl fun a hF => step hF (Y.build (parts := [(0, (.tmp 37)), (1, (.const (.slice none 0 0)))]) (cs := #[iv xv.Ring, .slice p xv.Starts.length c, .slice p_1 xv.Events.length c_1, .slice none 0 0]) hF rfl (by kernel_rfl)) rfl fun a hF => O.alloc 4 zc_103 hF hS rfl fun b_2 a w hF hS => O.store (us := [iv xv.Ring, .slice p xv.Starts.length c, .slice p_1 xv.Events.length c_1, .slice none 0 0]) 4 sz_103 hF rfl rfl rfl rfl hS rfl rfl fun a w hF hS => nT (seq (region (step hF (Y.fieldAddr fo_25_1 hF rfl) rfl fun a hF => step hF (Y.load1L 2 sz_22 hF rfl hS rfl rfl) rfl fun a hF => step hF (Y.move hF rfl) rfl fun a hF => ?_)))))))
 obtain ⟨e, hx_2, h⟩ := bind_some h
 obtain ⟨b_3, o, hE, hY⟩ := Y.indexS (P := Tryd.prog) (C := C_SlaveStart) (xs := xv.Starts) (T := 22) (x := (.tmp 40)) (y := (.tmp 41)) u_22 sz_57 hF rfl rfl (hs).1 hx_2
 obtain ⟨cc, hc, hcell⟩ := hE.open
 obtain rfl := C_SlaveStart.open hc
 refine step hF (hY) rfl fun a hF => step hF (Y.loadNE (o := o) (k := 0) sz_57 hF rfl (hcell _ hS.stab) rfl rfl) rfl fun a hF => O.alloc 5 zc_57 hF hS rfl fun b_4 a w hF hS => O.store (us := [iv e.Shown, iv e.Last]) 5 sz_57 hF rfl rfl rfl rfl hS rfl rfl fun a w hF hS => nT (seq (seq (region (step hF (Y.fieldAddr fo_25_2 hF rfl) rfl fun a hF => step hF (Y.load1L 2 sz_23 hF rfl hS rfl rfl) rfl fun a hF => step hF (Y.lenSl u_23 hF rfl) rfl fun a hF => step hF (Y.move hF rfl) rfl fun a hF => nT (block (loop_cut (body := slave_IsStory_b1 xv who story) (out := out) (fun s a w => ∃ (v6_0 : Bool) (v7_0 : Int) (v47_0 : Int) (z : Int) (z_1 : Int), ∃ (Dv : Stab), ∃ rs, s = (v6_0, v7_0, v47_0, z, z_1) ∧ D0.le Dv ∧ Frm 124 rs [(1, iv who), (5, .pointer (some ⟨b_1, 0, none⟩)), (6, .bool v6_0), (7, iv v7_0), (9, .pointer (some ⟨b_2, 0, none⟩)), (10, .pointer (some ⟨b_4, 0, none⟩)), (45, .slice p_1 xv.Events.length c_1), (46, iv (xv.Events.length : Int)), (47, iv v47_0)] a ∧ St w0 D0 Dv [(2, .cells b [iv xv.Ring, .slice p xv.Starts.length c, .slice p_1 xv.Events.length c_1] 25), (3, .cells b_1 [.slice p_2 story.length c_2] 38), (4, .cells b_2 [iv xv.Ring, .slice p xv.Starts.length c, .slice p_1 xv.Events.length c_1, .slice none 0 0] 103), (5, .cells b_4 [iv z, iv z_1] 57), (1, .marks rs)] w) (false, 0, 0, e.Shown, e.Last) h ⟨false, 0, 0, e.Shown, e.Last, D0, ([]), rfl, Stab.le.refl _, hF.weak (AF rfl), hS.weak (AL rfl)⟩ ?_))))))
 rintro s a w xo ⟨v6_0, v7_0, v47_0, z, z_1, Dv, rs, rfl, hlev, hF, hS⟩ h hxo
 unfold slave_IsStory_b1 at h
 dsimp only at h
 replace hs := hs.mono hlev
 replace hs_1 := hs_1.mono hlev
 replace hs_2 := hs_2.mono hlev
 replace hG := hG.mono hlev
 refine seq (region (step hF (Y.lss hF rfl rfl) rfl fun a hF => nT (seq (cond_b hF rfl (fun hbv_3 => ?_) (fun hbv_3 => ?_)))))
 ·replace h := cond_t h hbv_3
  refine skip_ (then_n (seq_cut (fun a w => ∃ (v6_1 : Bool) (v7_1 : Int) (z_2 : Int) (z_3 : Int), ∃ (Dv_1 : Stab), ∃ rs_1, Dv.le Dv_1 ∧ Frm 124 rs_1 [(1, iv who), (5, .pointer (some ⟨b_1, 0, none⟩)), (6, .bool v6_1), (7, iv v7_1), (9, .pointer (some ⟨b_2, 0, none⟩)), (10, .pointer (some ⟨b_4, 0, none⟩)), (45, .slice p_1 xv.Events.length c_1), (46, iv (xv.Events.length : Int)), (47, iv v47_0)] a ∧ St w0 D0 Dv_1 [(2, .cells b [iv xv.Ring, .slice p xv.Starts.length c, .slice p_1 xv.Events.length c_1] 25), (3, .cells b_1 [.slice p_2 story.length c_2] 38), (4, .cells b_2 [iv xv.Ring, .slice p xv.Starts.length c, .slice p_1 xv.Events.length c_1, .slice none 0 0] 103), (5, .cells b_4 [iv z_2, iv z_3] 57), (1, .marks rs_1)] w ∧ slave_IsStory_k2 v47_0 v6_1 v7_1 z_2 z_3 = some xo) ?_ ?_))
  ·skip
   refine block (seq (region (step hF (Y.move hF rfl) rfl fun a hF => ?_)))
   obtain ⟨e_1, hx_3, h⟩ := bind_some h
   obtain ⟨b_5, o_1, hE_1, hY_1⟩ := Y.indexS (P := Tryd.prog) (C := C_SlaveEvent) (xs := xv.Events) (T := 23) (x := (.tmp 45)) (y := (.tmp 47)) u_23 sz_66 hF rfl rfl (hs_1).1 hx_3
   obtain ⟨cc_1, hc_1, hcell_1⟩ := hE_1.open
   obtain rfl := C_SlaveEvent.open hc_1
   refine step hF (hY_1) rfl fun a hF => step hF (Y.loadNE (o := o_1) (k := 0) sz_66 hF rfl (hcell_1 _ hS.stab) rfl rfl) rfl fun a hF => O.alloc 6 zc_3 hF hS rfl fun b_6 a w hF hS => O.alloc 7 zc_66 hF hS rfl fun b_7 a w hF hS => O.store (us := [iv v47_0]) 6 sz_3 hF rfl rfl rfl rfl hS rfl rfl fun a w hF hS => O.store (us := [iv e_1.Kind, iv e_1.First, iv e_1.Count, iv e_1.Lost, iv e_1.Who, iv e_1.Shown]) 7 sz_66 hF rfl rfl rfl rfl hS rfl rfl fun a w hF hS => nT (seq (seq (region (step hF (Y.fieldAddr fo_66_0 hF rfl) rfl fun a hF => step hF (Y.load1L 7 sz_3 hF rfl hS rfl rfl) rfl fun a hF => step hF (Y.eql hF rfl rfl) rfl fun a hF => nT (cond_b hF rfl (fun hbv_4 => ?_) (fun hbv_4 => ?_))))))
   ·replace h := cond_t h hbv_4
    refine seq (seq (region (step hF (Y.load1L 3 sz_38 hF rfl hS rfl rfl) rfl fun a hF => step hF (Y.load1L 6 sz_3 hF rfl hS rfl rfl) rfl fun a hF => ?_)))
    obtain ⟨e_2, hx_4, h⟩ := bind_some h
    obtain ⟨b_8, o_2, hE_2, hY_2⟩ := Y.indexS (P := Tryd.prog) (C := (C_sl C_int)) (xs := story) (T := 38) (x := (.tmp 55)) (y := (.tmp 56)) u_38 sz_26 hF rfl rfl (hs_2).1 hx_4
    obtain ⟨cc_2, hc_2, hcell_2⟩ := hE_2.open
    obtain ⟨p_3, c_3, rfl, hs_3⟩ := hc_2
    refine step hF (hY_2) rfl fun a hF => step hF (Y.load1 sz_26 hF rfl (hcell_2 _ hS.stab 0 _ rfl)) rfl fun a hF => step hF (Y.lenSl u_26 hF rfl) rfl fun a hF => step hF (Y.gtr hF rfl rfl) rfl fun a hF => step hF (Y.move hF rfl) rfl fun a hF => join (N := 124) (rs := rs) (w0 := w0) (D0 := D0) 12 (us := [(1, iv who), (5, .pointer (some ⟨b_1, 0, none⟩)), (6, .bool v6_0), (7, iv v7_0), (9, .pointer (some ⟨b_2, 0, none⟩)), (10, .pointer (some ⟨b_4, 0, none⟩)), (11, .pointer (some ⟨b_6, 0, none⟩)), (12, .pointer (some ⟨b_7, 0, none⟩)), (45, .slice p_1 xv.Events.length c_1), (46, iv (xv.Events.length : Int)), (47, iv v47_0), (73, .bool ((decide ((e_2.length : Int) > 0)) || ((e_1.Who == who) && (e_1.Shown != z))))]) (ms := [(2, .cells b [iv xv.Ring, .slice p xv.Starts.length c, .slice p_1 xv.Events.length c_1] 25), (3, .cells b_1 [.slice p_2 story.length c_2] 38), (4, .cells b_2 [iv xv.Ring, .slice p xv.Starts.length c, .slice p_1 xv.Events.length c_1, .slice none 0 0] 103), (5, .cells b_4 [iv z, iv z_1] 57), (6, .cells b_6 [iv v47_0] 3), (7, .cells b_7 [iv e_1.Kind, iv e_1.First, iv e_1.Count, iv e_1.Lost, iv e_1.Who, iv e_1.Shown] 66), (1, .marks rs)]) (D' := Dv) ?_ ?_
    ·rcases bcases (decide ((e_2.length : Int) > 0)) with hbv_5 | hbv_5
     ·skip
      refine guard_off hF rfl rfl hbv_5 rfl fun a hF => guard_off hF rfl rfl hbv_5 rfl fun a hF => guard_off hF rfl rfl hbv_5 rfl fun a hF => guard_off hF rfl rfl hbv_5 rfl fun a hF => guard_off hF rfl rfl hbv_5 rfl fun a hF => guard_offu hF rfl rfl rfl fun a hF => guard_offu hF rfl rfl rfl fun a hF => guard_offu hF rfl rfl rfl fun a hF => guard_offu hF rfl rfl rfl fun a hF => guard_offu hF rfl rfl rfl fun a hF => guard_off hF rfl rfl hbv_5 rfl fun a hF => step hF (Y.pick_t hF rfl hbv_5 rfl) rfl fun a hF => nT ⟨hF.weak ⟨rfl, rfl, rfl, rfl, rfl, rfl, rfl, rfl, rfl, rfl, rfl, (by rw [hbv_5]; rfl), trivial⟩, hS.weak (AL rfl)⟩
     refine guard_on hF rfl rfl hbv_5 (step hF (Y.fieldAddr fo_66_4 hF rfl) rfl fun a hF => guard_on hF rfl rfl hbv_5 (step hF (Y.load1L 7 sz_3 hF rfl hS rfl rfl) rfl fun a hF => guard_on hF rfl rfl hbv_5 (step hF (Y.move hF rfl) rfl fun a hF => guard_on hF rfl rfl hbv_5 (step hF (Y.eql hF rfl rfl) rfl fun a hF => guard_on hF rfl rfl hbv_5 (step hF (Y.move hF rfl) rfl fun a hF => join (N := 124) (rs := rs) (w0 := w0) (D0 := D0) 6 (us := [(1, iv who), (5, .pointer (some ⟨b_1, 0, none⟩)), (6, .bool v6_0), (7, iv v7_0), (9, .pointer (some ⟨b_2, 0, none⟩)), (10, .pointer (some ⟨b_4, 0, none⟩)), (11, .pointer (some ⟨b_6, 0, none⟩)), (12, .pointer (some ⟨b_7, 0, none⟩)), (45, .slice p_1 xv.Events.length c_1), (46, iv (xv.Events.length : Int)), (47, iv v47_0), (61, .bool (decide ((e_2.length : Int) > 0))), (72, .bool ((e_1.Who == who) && (e_1.Shown != z)))]) (ms := [(2, .cells b [iv xv.Ring, .slice p xv.Starts.length c, .slice p_1 xv.Events.length c_1] 25), (3, .cells b_1 [.slice p_2 story.length c_2] 38), (4, .cells b_2 [iv xv.Ring, .slice p xv.Starts.length c, .slice p_1 xv.Events.length c_1, .slice none 0 0] 103), (5, .cells b_4 [iv z, iv z_1] 57), (6, .cells b_6 [iv v47_0] 3), (7, .cells b_7 [iv e_1.Kind, iv e_1.First, iv e_1.Count, iv e_1.Lost, iv e_1.Who, iv e_1.Shown] 66), (1, .marks rs)]) (D' := Dv) ?_ ?_)))))
     ·rcases bcases (e_1.Who == who) with hbv_6 | hbv_6
      ·skip
       refine guard_on hF rfl rfl hbv_6 (step hF (Y.fieldAddr fo_66_5 hF rfl) rfl fun a hF => guard_on hF rfl rfl hbv_6 (step hF (Y.load1L 7 sz_3 hF rfl hS rfl rfl) rfl fun a hF => guard_on hF rfl rfl hbv_6 (step hF (Y.fieldAddr fo_57_0 hF rfl) rfl fun a hF => guard_on hF rfl rfl hbv_6 (step hF (Y.load1L 5 sz_3 hF rfl hS rfl rfl) rfl fun a hF => guard_on hF rfl rfl hbv_6 (step hF (Y.neq hF rfl rfl) rfl fun a hF => guard_on hF rfl rfl hbv_5 (step hF (Y.pick_t hF rfl hbv_6 rfl) rfl fun a hF => nT ⟨hF.weak ⟨rfl, rfl, rfl, rfl, rfl, rfl, rfl, rfl, rfl, rfl, rfl, rfl, (by rw [hbv_6]; rfl), trivial⟩, hS.weak (AL rfl)⟩))))))
      refine guard_off hF rfl rfl hbv_6 rfl fun a hF => guard_off hF rfl rfl hbv_6 rfl fun a hF => guard_off hF rfl rfl hbv_6 rfl fun a hF => guard_off hF rfl rfl hbv_6 rfl fun a hF => guard_off hF rfl rfl hbv_6 rfl fun a hF => guard_on hF rfl rfl hbv_5 (step hF (Y.pick_f hF rfl hbv_6 rfl) rfl fun a hF => nT ⟨hF.weak ⟨rfl, rfl, rfl, rfl, rfl, rfl, rfl, rfl, rfl, rfl, rfl, rfl, (by rw [hbv_6]; rfl), trivial⟩, hS.weak (AL rfl)⟩)
     intro a w hF hS
     refine step hF (Y.pick_f hF rfl hbv_5 rfl) rfl fun a hF => nT ⟨hF.weak ⟨rfl, rfl, rfl, rfl, rfl, rfl, rfl, rfl, rfl, rfl, rfl, (by rw [hbv_5]; rfl), trivial⟩, hS.weak (AL rfl)⟩
    intro a w hF hS
    refine nT (cond_b hF rfl (fun hbv_7 => ?_) (fun hbv_7 => ?_))
    ·replace h := cond_t h hbv_7
     refine seq (region (step hF (Y.assign hF rfl) rfl fun a hF => step hF (Y.assign hF rfl) rfl fun a hF => nT (ret_ (then_r (then_r (blk_r (then_r (then_r (blk_r (then_r ?_))))))))))
     replace h := ext_some h hxo
     obtain rfl := some_inj h
     exact leaveP Tryd.results24 hF hS (.cons (.tmp rfl) (.cons (.tmp rfl) .nil)) (.inr ⟨1, rfl⟩) rfl
    replace h := cond_f h hbv_7
    refine skip_ (then_n (exit_ (then_x (blk_hit (then_n (⟨v6_0, v7_0, z, z_1, Dv, rs, Stab.le.refl _, hF.weak (AF rfl), hS.weak (AL rfl), h⟩))))))
   replace h := cond_f h hbv_4
   refine skip_ (then_n (seq (region (step hF (Y.assign hF rfl) rfl fun a hF => nT (seq (seq (region (step hF (Y.load1L 3 sz_38 hF rfl hS rfl rfl) rfl fun a hF => step hF (Y.load1L 6 sz_3 hF rfl hS rfl rfl) rfl fun a hF => ?_))))))))
   obtain ⟨e_3, hx_5, h⟩ := bind_some h
   obtain ⟨b_9, o_3, hE_3, hY_3⟩ := Y.indexS (P := Tryd.prog) (C := (C_sl C_int)) (xs := story) (T := 38) (x := (.tmp 74)) (y := (.tmp 75)) u_38 sz_26 hF rfl rfl (hs_2).1 hx_5
   obtain ⟨cc_3, hc_3, hcell_3⟩ := hE_3.open
   obtain ⟨p_4, c_4, rfl, hs_4⟩ := hc_3
   refine step hF (hY_3) rfl fun a hF => step hF (Y.load1 sz_26 hF rfl (hcell_3 _ hS.stab 0 _ rfl)) rfl fun a hF => step hF (Y.lenSl u_26 hF rfl) rfl fun a hF => step hF (Y.move hF rfl) rfl fun a hF => nT (block (loop_cut (body := slave_IsStory_b3 xv v47_0 z z_1 e_1 e_3) (out := xo) (fun s a w => ∃ (v6_2 : Bool) (v7_2 : Int) (last : Int) (v79_0 : Int), s = (v6_2, v7_2, last, v79_0) ∧ Frm 124 rs [(1, iv who), (5, .pointer (some ⟨b_1, 0, none⟩)), (6, .bool v6_2), (7, iv v7_2), (9, .pointer (some ⟨b_2, 0, none⟩)), (10, .pointer (some ⟨b_4, 0, none⟩)), (11, .pointer (some ⟨b_6, 0, none⟩)), (12, .pointer (some ⟨b_7, 0, none⟩)), (13, iv last), (45, .slice p_1 xv.Events.length c_1), (46, iv (xv.Events.length : Int)), (47, iv v47_0), (77, .slice p_4 e_3.length c_4), (78, iv (e_3.length : Int)), (79, iv v79_0)] a ∧ St w0 D0 Dv [(2, .cells b [iv xv.Ring, .slice p xv.Starts.length c, .slice p_1 xv.Events.length c_1] 25), (3, .cells b_1 [.slice p_2 story.length c_2] 38), (4, .cells b_2 [iv xv.Ring, .slice p xv.Starts.length c, .slice p_1 xv.Events.length c_1, .slice none 0 0] 103), (5, .cells b_4 [iv z, iv z_1] 57), (6, .cells b_6 [iv v47_0] 3), (7, .cells b_7 [iv e_1.Kind, iv e_1.First, iv e_1.Count, iv e_1.Lost, iv e_1.Who, iv e_1.Shown] 66), (1, .marks rs)] w) (v6_0, v7_0, -1, 0) h ⟨v6_0, v7_0, (-1), 0, rfl, hF.weak (AF rfl), hS.weak (AL rfl)⟩ ?_))
   rintro s a w xo_1 ⟨v6_2, v7_2, last, v79_0, rfl, hF, hS⟩ h hxo_1
   unfold slave_IsStory_b3 at h
   dsimp only at h
   refine seq (region (step hF (Y.lss hF rfl rfl) rfl fun a hF => nT (seq (cond_b hF rfl (fun hbv_8 => ?_) (fun hbv_8 => ?_)))))
   ·replace h := cond_t h hbv_8
    refine skip_ (then_n (seq (block (seq (region ?_)))))
    obtain ⟨e_4, hx_6, h⟩ := bind_some h
    obtain ⟨b_10, o_4, hE_4, hY_4⟩ := Y.indexS (P := Tryd.prog) (C := C_int) (xs := e_3) (T := 26) (x := (.tmp 77)) (y := (.tmp 79)) u_26 sz_3 hF rfl rfl (hs_4).1 hx_6
    obtain ⟨cc_4, hc_4, hcell_4⟩ := hE_4.open
    obtain rfl := hc_4
    refine step hF (hY_4) rfl fun a hF => step hF (Y.load1 sz_3 hF rfl (hcell_4 _ hS.stab 0 _ rfl)) rfl fun a hF => step hF (Y.assign hF rfl) rfl fun a hF => nT (seq (seq (region (step hF (Y.move hF rfl) rfl fun a hF => step hF (Y.move hF rfl) rfl fun a hF => step hF (Y.add hF rfl rfl) rfl fun a hF => step hF (Y.fieldAddr fo_66_2 hF rfl) rfl fun a hF => step hF (Y.load1L 7 sz_3 hF rfl hS rfl rfl) rfl fun a hF => step hF (Y.sub hF rfl rfl) rfl fun a hF => ?_))))
    obtain ⟨rv_2, hx_7, h⟩ := bind_some h
    refine O.callP (us := [iv e_4, iv (wr (last + 1)), iv (wr (e_1.Count - 1))]) ca_60 hF hS (slave_within_ok hS.stab e_4 (wr (last + 1)) (wr (e_1.Count - 1)) rv_2 hx_7) rfl rfl fun a w hF hS => step hF (Y.not hF rfl) rfl fun a hF => nT (cond_b hF rfl (fun hbv_9 => ?_) (fun hbv_9 => ?_))
    ·replace h := cond_t h hbv_9
     refine seq (region (step hF (Y.assign hF rfl) rfl fun a hF => step hF (Y.assign hF rfl) rfl fun a hF => nT (ret_ (then_r (blk_r (then_r (then_r (blk_r (then_r (blk_r (then_r (then_r (blk_r (then_r ?_))))))))))))))
     replace h := ext_some h hxo_1
     replace h := ext_some h hxo
     obtain rfl := some_inj h
     exact leaveP Tryd.results24 hF hS (.cons (.tmp rfl) (.cons (.tmp rfl) .nil)) (.inr ⟨1, rfl⟩) rfl
    replace h := cond_f h hbv_9
    refine skip_ (then_n (region (step hF (Y.move hF rfl) rfl fun a hF => step hF (Y.assign hF rfl) rfl fun a hF => nil (blk_n (then_n (region (step hF (Y.add hF rfl rfl) rfl fun a hF => step hF (Y.move hF rfl) rfl fun a hF => nT (⟨_, nxt_some h, v6_2, v7_2, e_4, (wr (v79_0 + 1)), rfl, hF.weak (AF rfl), hS.weak (AL rfl)⟩))))))))
   replace h := cond_f h hbv_8
   refine exit_ (then_x (then_x (blk_hit (then_n ?_))))
   replace h := ext_some h hxo_1
   refine seq (seq (draws 8 [(0, true), (1, true), (2, true), (3, true), (4, true), (5, true), (6, true), (7, true)] mixed_ (by kernel_rfl) (fun w => St w0 D0 Dv _ w) hS.drew (fun _ _ _ _ h => h) ?_))
   replace hS := hS.drew
   refine stepT (i := 0) rfl hF (fun w hS => Y.load1L 3 sz_38 hF rfl hS rfl rfl) rfl fun a hF => stepT (i := 1) rfl hF (fun w hS => Y.load1L 6 sz_3 hF rfl hS rfl rfl) rfl fun a hF => ?_
   obtain ⟨b_11, o_5, hE_5, hY_5⟩ := Y.indexS (P := Tryd.prog) (C := (C_sl C_int)) (xs := story) (T := 38) (x := (.tmp 93)) (y := (.tmp 94)) u_38 sz_26 hF rfl rfl (hs_2).1 hx_5
   obtain ⟨cc_5, hc_5, hcell_5⟩ := hE_5.open
   obtain ⟨p_5, c_5, rfl, hs_5⟩ := hc_5
   refine stepT (i := 2) rfl hF (fun w hS => hY_5) rfl fun a hF => stepT (i := 3) rfl hF (fun w hS => Y.load1 sz_26 hF rfl (hcell_5 _ hS.stab 0 _ rfl)) rfl fun a hF => stepT (i := 4) rfl hF (fun w hS => Y.lenSl u_26 hF rfl) rfl fun a hF => stepT (i := 5) rfl hF (fun w hS => Y.fieldAddr fo_66_3 hF rfl) rfl fun a hF => stepT (i := 6) rfl hF (fun w hS => Y.load1L 7 sz_3 hF rfl hS rfl rfl) rfl fun a hF => stepT (i := 7) rfl hF (fun w hS => Y.gtr hF rfl rfl) rfl fun a hF => toTail (nT (cond_b hF rfl (fun hbv_10 => ?_) (fun hbv_10 => ?_)))
   ·replace h := cond_t h hbv_10
    refine seq (region (step hF (Y.assign hF rfl) rfl fun a hF => step hF (Y.assign hF rfl) rfl fun a hF => nT (ret_ (then_r (blk_r (then_r (then_r (blk_r (then_r ?_)))))))))
    replace h := ext_some h hxo
    obtain rfl := some_inj h
    exact leaveP Tryd.results24 hF hS (.cons (.tmp rfl) (.cons (.tmp rfl) .nil)) (.inr ⟨1, rfl⟩) rfl
   replace h := cond_f h hbv_10
   refine skip_ (then_n (seq (region (step hF (Y.loadNL 4 sz_103 hF rfl hS rfl rfl rfl) rfl fun a hF => step hF (Y.loadNL 7 sz_66 hF rfl hS rfl rfl rfl) rfl fun a hF => ?_))))
   obtain ⟨rv_3, hx_8, h⟩ := bind_some h
   refine O.callS (us := [.agg #[iv xv.Ring, .slice p xv.Starts.length c, .slice p_1 xv.Events.length c_1, .slice none 0 0], .agg #[iv e_1.Kind, iv e_1.First, iv e_1.Count, iv e_1.Lost, iv e_1.Who, iv e_1.Shown]]) ca_64 hF hS (slave_line_pulses_ok hS.stab (slave_line.mk xv ([] : List Int)) e_1 hs hs_1 SRc.nil rv_3 hx_8) rfl rfl fun v Dv_2 a w hR hlev_2 hF hS => ?_
   replace hs := hs.mono hlev_2
   replace hs_1 := hs_1.mono hlev_2
   replace hs_2 := hs_2.mono hlev_2
   replace hG := hG.mono hlev_2
   obtain ⟨bb, bb_1, p_6, c_6, p_7, c_7, p_8, c_8, rfl, hbv_11, hbv_12, hs_6, hs_7, hs_8⟩ := hR
   refine nT (block ?_)
   replace hF := hF.weak (us := [(1, iv who), (5, .pointer (some ⟨b_1, 0, none⟩)), (6, .bool v6_2), (7, iv v7_2), (9, .pointer (some ⟨b_2, 0, none⟩)), (10, .pointer (some ⟨b_4, 0, none⟩)), (11, .pointer (some ⟨b_6, 0, none⟩)), (45, .slice p_1 xv.Events.length c_1), (46, iv (xv.Events.length : Int)), (47, iv v47_0), (103, .func (.func 85) #[] #[.pointer (some ⟨bb, 0, none⟩), .pointer (some ⟨bb_1, 0, none⟩)])]) (AF rfl)
   obtain ⟨⟨so, so_1⟩, hx_11, h⟩ := bind_some h
   dsimp only at h
   have hsz := hF.size
   have hgt := hF.get
   refine range_cut (first := []) (cap := [.pointer (some ⟨bb, 0, none⟩), .pointer (some ⟨bb_1, 0, none⟩)]) (K := fun m lp R w => ∃ D ms, Dv_2.le D ∧ (fun (s : (Int × Int)) D ms => ∃ (z_4 : Int) (z_5 : Int), s = (z_4, z_5) ∧ ms = [(10, .obj lp R), (2, .cells b [iv xv.Ring, .slice p xv.Starts.length c, .slice p_1 xv.Events.length c_1] 25), (3, .cells b_1 [.slice p_2 story.length c_2] 38), (4, .cells b_2 [iv xv.Ring, .slice p xv.Starts.length c, .slice p_1 xv.Events.length c_1, .slice none 0 0] 103), (5, .cells b_4 [iv z_4, iv z_5] 57), (6, .cells b_6 [iv v47_0] 3), (7, .cells b_7 [iv e_1.Kind, iv e_1.First, iv e_1.Count, iv e_1.Lost, iv e_1.Who, iv e_1.Shown] 66), (1, .marks (m :: rs))]) (so, so_1) D ms ∧ St w0 D0 D ms w) 1 10 (by decide) ca_85 hF hS rfl rfl (fun fn m lp R hR w hS => ?_) (fun m lp R w hK => ?_)
   ·refine slave_line_pulses_1_it (Inv := fun (s : (Int × Int)) D ms => ∃ (z_4 : Int) (z_5 : Int), s = (z_4, z_5) ∧ ms = [(10, .obj lp R), (2, .cells b [iv xv.Ring, .slice p xv.Starts.length c, .slice p_1 xv.Events.length c_1] 25), (3, .cells b_1 [.slice p_2 story.length c_2] 38), (4, .cells b_2 [iv xv.Ring, .slice p xv.Starts.length c, .slice p_1 xv.Events.length c_1, .slice none 0 0] 103), (5, .cells b_4 [iv z_4, iv z_5] 57), (6, .cells b_6 [iv v47_0] 3), (7, .cells b_7 [iv e_1.Kind, iv e_1.First, iv e_1.Count, iv e_1.Lost, iv e_1.Who, iv e_1.Shown] 66), (1, .marks (m :: rs))]) (yield_ := slave_IsStory_y4 xv e_3) ?_ ?_ lp rv_3.1 rv_3.2 hs_6 hs_7 hs_8 hbv_11 hbv_12 hG (z, z_1) (so, so_1) ?_ hx_11 (ms := [(10, .obj lp R), (2, .cells b [iv xv.Ring, .slice p xv.Starts.length c, .slice p_1 xv.Events.length c_1] 25), (3, .cells b_1 [.slice p_2 story.length c_2] 38), (4, .cells b_2 [iv xv.Ring, .slice p xv.Starts.length c, .slice p_1 xv.Events.length c_1, .slice none 0 0] 103), (5, .cells b_4 [iv z, iv z_1] 57), (6, .cells b_6 [iv v47_0] 3), (7, .cells b_7 [iv e_1.Kind, iv e_1.First, iv e_1.Count, iv e_1.Lost, iv e_1.Who, iv e_1.Shown] 66), (1, .marks (m :: rs))]) ⟨z, z_1, rfl, rfl⟩ (hS.weak (AL rfl))
    ·rintro s D ms ⟨_, _, rfl, rfl⟩; exact small_lt rfl
    ·rintro s D ms D2 ⟨_, _, rfl, rfl⟩ hle; exact ⟨_, _, rfl, rfl⟩
    rintro xy s s2 Dv_3 ms w h hlev_3 ⟨z_4, z_5, rfl, rfl⟩ hS
    unfold slave_IsStory_y4 at h
    dsimp only at h
    refine round_cut2 10 hsz hgt rfl rfl hS rfl hR fun R2 a hF => ?_
    replace hs := hs.mono hlev_3
    replace hs_1 := hs_1.mono hlev_3
    replace hs_2 := hs_2.mono hlev_3
    replace hbv_11 := hlev_3 _ _ hbv_11
    replace hbv_12 := hlev_3 _ _ hbv_12
    refine seq (region (step hF (Y.assign hF rfl) rfl fun a hF => nT (region (step hF (Y.assign hF rfl) rfl fun a hF => nT (⟨_, _, hS, rfl, fun w hS => ?_⟩)))))
    refine block (seq (region (step hF (Y.loadNL 4 sz_103 hF rfl hS rfl rfl rfl) rfl fun a hF => step hF (Y.loadNL 5 sz_57 hF rfl hS rfl rfl rfl) rfl fun a hF => step hF (Y.move hF rfl) rfl fun a hF => ?_)))
    obtain ⟨rv_4, hx_9, h⟩ := bind_some h
    refine O.callP (us := [.agg #[iv xv.Ring, .slice p xv.Starts.length c, .slice p_1 xv.Events.length c_1, .slice none 0 0], .agg #[iv z_4, iv z_5], iv xy.2]) ca_65 hF hS (slave_line_after_ok hS.stab (slave_line.mk xv ([] : List Int)) (SlaveStart.mk z_4 z_5) xy.2 hs hs_1 SRc.nil rv_4 hx_9) rfl rfl fun a w hF hS => O.alloc 11 zc_57 hF hS rfl fun b_12 a w hF hS => O.store (us := [iv rv_4.Shown, iv rv_4.Last]) 11 sz_57 hF rfl rfl rfl rfl hS rfl rfl fun a w hF hS => nT (seq (region (step hF (Y.loadNL 11 sz_57 hF rfl hS rfl rfl rfl) rfl fun a hF => step hF (Y.loadNL 5 sz_57 hF rfl hS rfl rfl rfl) rfl fun a hF => step hF (Y.nest (fun w => eqT_57.equal (by decide) (l := [rv_4.Shown, rv_4.Last]) (m := [z_4, z_5]) rfl rfl) (fun w => run_eqGuard_agg _ _ _ _ _ _ _ eg_57) hF rfl rfl) rfl fun a hF => step hF (Y.move hF rfl) rfl fun a hF => ?_)))
    obtain ⟨t, ht, h⟩ := bind_some h
    refine join (N := 124) (rs := []) (w0 := w0) (D0 := D0) 8 (us := [(6, .bool v6_2), (7, iv v7_2), (10, .pointer (some ⟨b_4, 0, none⟩)), (18, .pointer (some ⟨b_12, 0, none⟩)), (121, .bool t)]) (ms := [(2, .cells b [iv xv.Ring, .slice p xv.Starts.length c, .slice p_1 xv.Events.length c_1] 25), (3, .cells b_1 [.slice p_2 story.length c_2] 38), (4, .cells b_2 [iv xv.Ring, .slice p xv.Starts.length c, .slice p_1 xv.Events.length c_1, .slice none 0 0] 103), (5, .cells b_4 [iv z_4, iv z_5] 57), (6, .cells b_6 [iv v47_0] 3), (7, .cells b_7 [iv e_1.Kind, iv e_1.First, iv e_1.Count, iv e_1.Lost, iv e_1.Who, iv e_1.Shown] 66), (11, .cells b_12 [iv rv_4.Shown, iv rv_4.Last] 57), (10, .obj lp R2), (1, .marks (m :: rs))]) (D' := Dv_3) ?_ ?_
    ·rcases bcases (!([rv_4.Shown, rv_4.Last] == [z_4, z_5])) with hbv_13 | hbv_13
     ·skip
      replace h := cond_t ht hbv_13
      refine guard_on hF rfl rfl hbv_13 (step hF (Y.load1L 3 sz_38 hF rfl hS rfl rfl) rfl fun a hF => guard_on hF rfl rfl hbv_13 (step hF (Y.load1L 6 sz_3 hF rfl hS rfl rfl) rfl fun a hF => ?_))
      obtain ⟨b_13, o_6, hE_6, hY_6⟩ := Y.indexS (P := Tryd.prog) (C := (C_sl C_int)) (xs := story) (T := 38) (x := (.tmp 114)) (y := (.tmp 115)) u_38 sz_26 hF rfl rfl (hs_2).1 hx_5
      obtain ⟨cc_6, hc_6, hcell_6⟩ := hE_6.open
      obtain ⟨p_9, c_9, rfl, hs_9⟩ := hc_6
      refine guard_on hF rfl rfl hbv_13 (step hF (hY_6) rfl fun a hF => guard_on hF rfl rfl hbv_13 (step hF (Y.load1 sz_26 hF rfl (hcell_6 _ hS.stab 0 _ rfl)) rfl fun a hF => guard_on hF rfl rfl hbv_13 (step hF (Y.move hF rfl) rfl fun a hF => guard_on hF rfl rfl hbv_13 ?_)))
      obtain ⟨rv_5, hx_10, h⟩ := bind_some h
      refine O.callP (us := [.slice p_9 e_3.length c_9, iv xy.1]) ca_66 hF hS (slices_Contains___int_int__ok hS.stab e_3 xy.1 hs_9 rv_5 hx_10) rfl rfl fun a w hF hS => guard_on hF rfl rfl hbv_13 (step hF (Y.not hF rfl) rfl fun a hF => step hF (Y.pick_t hF rfl hbv_13 rfl) rfl fun a hF => ?_)
      obtain rfl := some_inj h
      exact nT ⟨hF.weak (AF rfl), hS.weak (AL rfl)⟩
     replace h := cond_f ht hbv_13
     refine guard_off hF rfl rfl hbv_13 rfl fun a hF => guard_off hF rfl rfl hbv_13 rfl fun a hF => guard_off hF rfl rfl hbv_13 rfl fun a hF => guard_off hF rfl rfl hbv_13 rfl fun a hF => guard_off hF rfl rfl hbv_13 rfl fun a hF => guard_off hF rfl rfl hbv_13 rfl fun a hF => guard_off hF rfl rfl hbv_13 rfl fun a hF => step hF (Y.pick_f hF rfl hbv_13 rfl) rfl fun a hF => ?_
     obtain rfl := some_inj h
     exact nT ⟨hF.weak (AF rfl), hS.weak (AL rfl)⟩
    intro a w hF hS
    refine nT (cond_b hF rfl (fun hbv_14 => ?_) (fun hbv_14 => ?_))
    ·replace h := cond_t h hbv_14
     refine region (step hF (Y.loadNL 11 sz_57 hF rfl hS rfl rfl rfl) rfl fun a hF => O.store (us := [iv rv_4.Shown, iv rv_4.Last]) 5 sz_57 hF rfl rfl rfl rfl hS rfl rfl fun a w hF hS => nil (blk_n (then_n ?_)))
     obtain rfl := some_inj h
     refine ⟨_, _, hS, rfl, fun w hS => ⟨Dv_3, _, Stab.le.refl _, ⟨rv_4.Shown, rv_4.Last, rfl, rfl⟩, hS.weak (AL rfl)⟩⟩
    replace h := cond_f h hbv_14
    refine skip_ (blk_n (then_n ?_))
    obtain rfl := some_inj h
    refine ⟨_, _, hS, rfl, fun w hS => ⟨Dv_3, _, Stab.le.refl _, ⟨z_4, z_5, rfl, rfl⟩, hS.weak (AL rfl)⟩⟩
   obtain ⟨Dv_3, ms, hlev_4, ⟨so, so_1, hso, rfl⟩, hS⟩ := hK
   obtain ⟨rfl, rfl⟩ := hso
   refine ⟨Dv_3, _, hS, rfl, fun a w hF hS => ?_⟩
   replace hbv_11 := hlev_4 _ _ hbv_11
   replace hbv_12 := hlev_4 _ _ hbv_12
   refine blk_n (blk_n (then_n (⟨v6_2, v7_2, so, so_1, Dv_3, (m :: rs), hlev_2.trans hlev_4, hF.weak (AF rfl), hS.weak (AL rfl), h⟩)))
  rintro a w ⟨v6_1, v7_1, z_2, z_3, Dv_1, rs_1, hlev_1, hF, hS, h⟩
  unfold slave_IsStory_k2 at h
  refine region (step hF (Y.add hF rfl rfl) rfl fun a hF => step hF (Y.move hF rfl) rfl fun a hF => nT (⟨_, nxt_some h, v6_1, v7_1, (wr (v47_0 + 1)), z_2, z_3, Dv_1, rs_1, rfl, hlev.trans hlev_1, hF.weak (AF rfl), hS.weak (AL rfl)⟩))
 replace h := cond_f h hbv_3
 refine exit_ (then_x (then_x (blk_hit (then_n ?_))))
 replace h := ext_some h hxo
 refine seq (region (step hF (Y.assign hF rfl) rfl fun a hF => step hF (Y.assign hF rfl) rfl fun a hF => nT (ret_ ?_)))
 obtain rfl := some_inj h
 exact leaveP Tryd.results24 hF hS (.cons (.tmp rfl) (.cons (.tmp rfl) .nil)) (.inr ⟨1, rfl⟩) rfl
noncomputable def slave_Wrong_1_b1 (somev : (List Int)) (cv : SlaveLine) : ((List Int) × Bool × Int) → ND (((List Int) × Bool × Int) ⊕ ((List Int) × Bool))
 | (v9_0, v10_0, v27_0) =>
  cond (decide (v27_0 < (cv.Starts.length : Int)))
  ((ND.bnd (slave_line_can (slave_line.mk cv somev) v27_0) fun rv =>
  cond (!rv)
  (next_ (ND.ret (([] : List Int), false)))
  (nnxt (v9_0, v10_0, wr (v27_0 + 1)))))
  (next_ (ND.ret (somev, true)))
noncomputable def slave_Wrong_1_b2 (somev : (List Int)) (many : Int) (cv : SlaveLine) (cv_1 : (List Int)) (self_ : (List Int) → Int → Int → SlaveLine → (List Int) → ND ((List Int) × Bool)) : ((List Int) × Bool × Int) → ND (((List Int) × Bool × Int) ⊕ ((List Int) × Bool))
 | (v9_1, v10_1, k) =>
  cond (decide (k < (cv_1.length : Int)))
  ((ND.det (idx cv_1 k) fun e_1 =>
  (ND.grd (somev.length + ([e_1]).length ≤ lim) (
  (ND.bnd (self_ (somev ++ [e_1]) many (wr (k + 1)) cv cv_1) fun rv_2 =>
  cond rv_2.2
  (next_ (ND.ret (rv_2.1, true)))
  (nnxt (v9_1, v10_1, wr (k + 1))))))))
  (next_ (ND.ret (([] : List Int), false)))
noncomputable def slave_Wrong_1_step (self_ : (List Int) → Int → Int → SlaveLine → (List Int) → ND ((List Int) × Bool)) (somev : (List Int)) (many : Int) (fromv : Int) (cv : SlaveLine) (cv_1 : (List Int)) : ND ((List Int) × Bool) :=
  cond ((somev.length : Int) == many)
  (loopN (slave_Wrong_1_b1 somev cv) (([] : List Int), false, 0))
  (loopN (slave_Wrong_1_b2 somev many cv cv_1 self_) (([] : List Int), false, fromv))
theorem slave_Wrong_1_step_ok {w0 : World} {D0 : Stab} (self_ : (List Int) → Int → Int → SlaveLine → (List Int) → ND ((List Int) × Bool)) (hself : ∀ {w0 : World} {D0 : Stab} (hD : D0.on w0) (somev : (List Int)) (many : Int) (fromv : Int) (cv : SlaveLine) (cv_1 : (List Int)) {p : Option Addr} {c : Nat} {p_1 : Option Addr} {c_1 : Nat} {p_2 : Option Addr} {c_2 : Nat} {bb : Nat} {p_3 : Option Addr} {c_3 : Nat} {bb_1 : Nat} {bb_2 : Nat} (hs : SRc C_int D0 somev p c) (hs_1 : SRc C_SlaveStart D0 cv.Starts p_1 c_1) (hs_2 : SRc C_SlaveEvent D0 cv.Events p_2 c_2) (hs_3 : SRc C_int D0 cv_1 p_3 c_3) (hbv : w0.heap[bb]? = some (.cells ([iv cv.Ring, .slice p_1 cv.Starts.length c_1, .slice p_2 cv.Events.length c_2]).toArray 25 (0, 0))) (hbv_1 : w0.heap[bb_1]? = some (.cells ([.slice p_3 cv_1.length c_3]).toArray 26 (0, 0))) (hbv_2 : w0.heap[bb_2]? = some (.cells ([.func (.func 69) #[] #[.pointer (some ⟨bb, 0, none⟩), .pointer (some ⟨bb_1, 0, none⟩), .pointer (some ⟨bb_2, 0, none⟩)]]).toArray 109 (0, 0))) (hG : Glob D0) (out : ((List Int) × Bool) → Prop) (h : self_ somev many fromv cv cv_1 out), Calls Tryd.prog 69 [.slice p somev.length c, iv many, iv fromv, .pointer (some ⟨bb, 0, none⟩), .pointer (some ⟨bb_1, 0, none⟩), .pointer (some ⟨bb_2, 0, none⟩)].toArray w0 (RetSN D0 w0 out fun (out : ((List Int) × Bool)) D v => ∃ p_12 c_12, v = .tuple #[.slice p_12 out.1.length c_12, .bool out.2] ∧ SRc C_int D out.1 p_12 c_12)) (hD : D0.on w0) (somev : (List Int)) (many : Int) (fromv : Int) (cv : SlaveLine) (cv_1 : (List Int)) {p : Option Addr} {c : Nat} {p_1 : Option Addr} {c_1 : Nat} {p_2 : Option Addr} {c_2 : Nat} {bb : Nat} {p_3 : Option Addr} {c_3 : Nat} {bb_1 : Nat} {bb_2 : Nat} (hs : SRc C_int D0 somev p c) (hs_1 : SRc C_SlaveStart D0 cv.Starts p_1 c_1) (hs_2 : SRc C_SlaveEvent D0 cv.Events p_2 c_2) (hs_3 : SRc C_int D0 cv_1 p_3 c_3) (hbv : w0.heap[bb]? = some (.cells ([iv cv.Ring, .slice p_1 cv.Starts.length c_1, .slice p_2 cv.Events.length c_2]).toArray 25 (0, 0))) (hbv_1 : w0.heap[bb_1]? = some (.cells ([.slice p_3 cv_1.length c_3]).toArray 26 (0, 0))) (hbv_2 : w0.heap[bb_2]? = some (.cells ([.func (.func 69) #[] #[.pointer (some ⟨bb, 0, none⟩), .pointer (some ⟨bb_1, 0, none⟩), .pointer (some ⟨bb_2, 0, none⟩)]]).toArray 109 (0, 0))) (hG : Glob D0) (out : ((List Int) × Bool) → Prop) (h : slave_Wrong_1_step self_ somev many fromv cv cv_1 out) : Calls Tryd.prog 69 [.slice p somev.length c, iv many, iv fromv, .pointer (some ⟨bb, 0, none⟩), .pointer (some ⟨bb_1, 0, none⟩), .pointer (some ⟨bb_2, 0, none⟩)].toArray w0 (RetSN D0 w0 out fun (out : ((List Int) × Bool)) D v => ∃ p_12 c_12, v = .tuple #[.slice p_12 out.1.length c_12, .bool out.2] ∧ SRc C_int D out.1 p_12 c_12) := by
 refine enter _ 65 Tryd.func69 rfl Tryd.ntmps69 rfl fun a hF => ?_
 replace hF : Frm 65 [] [(0, .slice p somev.length c), (1, iv many), (2, iv fromv), (3, .pointer (some ⟨bb, 0, none⟩)), (4, .pointer (some ⟨bb_1, 0, none⟩)), (5, .pointer (some ⟨bb_2, 0, none⟩))] a := hF
 have hS := St.start hD
 unfold slave_Wrong_1_step at h
 refine seq (region (step hF (Y.assign hF rfl) rfl fun a hF => step hF (Y.assign hF rfl) rfl fun a hF => nT (seq (seq (region (step hF (Y.move hF rfl) rfl fun a hF => step hF (Y.lenSl u_26 hF rfl) rfl fun a hF => step hF (Y.move hF rfl) rfl fun a hF => step hF (Y.eql hF rfl rfl) rfl fun a hF => nT (cond_b hF rfl (fun hbv_3 => ?_) (fun hbv_3 => ?_))))))))
 ·replace h := ncond_t h hbv_3
  refine seq (region (step hF (Y.loadNH sz_25 hF rfl (hS.old hbv) rfl rfl) rfl fun a hF => step hF (Y.move hF rfl) rfl fun a hF => step hF (Y.build (parts := [(0, (.tmp 20)), (1, (.tmp 21))]) (cs := #[iv cv.Ring, .slice p_1 cv.Starts.length c_1, .slice p_2 cv.Events.length c_2, .slice p somev.length c]) hF rfl (by kernel_rfl)) rfl fun a hF => step hF (Y.makeFunc (first := [(.tmp 22)]) (cap := []) (fs := [.agg #[iv cv.Ring, .slice p_1 cv.Starts.length c_1, .slice p_2 cv.Events.length c_2, .slice p somev.length c]]) (cs := []) hF rfl rfl) rfl fun a hF => step hF (Y.assign hF rfl) rfl fun a hF => nT (seq (seq (region (step hF (Y.fieldAddr fo_25_1 hF rfl) rfl fun a hF => step hF (Y.load1H sz_22 hF rfl (hS.old hbv) rfl) rfl fun a hF => step hF (Y.lenSl u_22 hF rfl) rfl fun a hF => step hF (Y.move hF rfl) rfl fun a hF => nT (block (loop_cutN (body := slave_Wrong_1_b1 somev cv) (out := out) (fun s a w => ∃ (v9_0 : (List Int)) (v10_0 : Bool) (v27_0 : Int), ∃ (Dv : Stab), ∃ p_4 c_4, s = (v9_0, v10_0, v27_0) ∧ D0.le Dv ∧ Frm 65 [] [(0, .slice p somev.length c), (1, iv many), (2, iv fromv), (4, .pointer (some ⟨bb_1, 0, none⟩)), (5, .pointer (some ⟨bb_2, 0, none⟩)), (9, .slice p_4 v9_0.length c_4), (10, .bool v10_0), (11, .func (.func 70) #[.agg #[iv cv.Ring, .slice p_1 cv.Starts.length c_1, .slice p_2 cv.Events.length c_2, .slice p somev.length c]] #[]), (26, iv (cv.Starts.length : Int)), (27, iv v27_0)] a ∧ St w0 D0 Dv [] w ∧ SRc C_int Dv v9_0 p_4 c_4) (([] : List Int), false, 0) h ⟨([] : List Int), false, 0, D0, none, 0, rfl, Stab.le.refl _, hF.weak (AF rfl), hS.weak trivial, SRc.nil⟩ ?_))))))))
  rintro s a w xo ⟨v9_0, v10_0, v27_0, Dv, p_4, c_4, rfl, hlev, hF, hS, hs_4⟩ h
  unfold slave_Wrong_1_b1 at h
  try dsimp only at h
  replace hs := hs.mono hlev
  replace hs_1 := hs_1.mono hlev
  replace hs_2 := hs_2.mono hlev
  replace hG := hG.mono hlev
  refine seq (region (step hF (Y.lss hF rfl rfl) rfl fun a hF => nT (seq (cond_b hF rfl (fun hbv_4 => ?_) (fun hbv_4 => ?_)))))
  ·replace h := ncond_t h hbv_4
   refine skip_ (then_n (seq (block (seq (region (step hF (Y.move hF rfl) rfl fun a hF => step hF (Y.assign hF rfl) rfl fun a hF => nT (seq (region (step hF (Y.move hF rfl) rfl fun a hF => step hF (Y.move hF rfl) rfl fun a hF => ?_)))))))))
   obtain ⟨KQ, hx, hk⟩ := nbnd_ex h
   refine O.callVPN (f := 70) (first := [.agg #[iv cv.Ring, .slice p_1 cv.Starts.length c_1, .slice p_2 cv.Events.length c_2, .slice p somev.length c]]) (cap := []) (us := [iv v27_0]) ca_70 hF hS rfl rfl (slave_line_can_ok hS.stab (slave_line.mk cv somev) v27_0 hs_1 hs_2 hs hG KQ hx) rfl fun rv h a w hF hS => ?_
   replace h := hk _ h
   refine step hF (Y.not hF rfl) rfl fun a hF => nT (cond_b hF rfl (fun hbv_5 => ?_) (fun hbv_5 => ?_))
   ·replace h := ncond_t h hbv_5
    refine seq (region (step hF (Y.assign hF rfl) rfl fun a hF => step hF (Y.assign hF rfl) rfl fun a hF => nT (ret_ (blk_r (then_r (then_r (blk_r (then_r (then_r ?_)))))))))
    replace h := next_h h
    exact leaveSN _ (nret h) Tryd.results69 hF hS (.cons (.tmp rfl) (.cons (.tmp rfl) .nil)) .nil ⟨_, _, rfl, SRc.nil⟩
   replace h := ncond_f h hbv_5
   refine skip_ (blk_n (then_n (region (step hF (Y.add hF rfl rfl) rfl fun a hF => step hF (Y.move hF rfl) rfl fun a hF => nT (⟨_, nnxt_h h, v9_0, v10_0, (wr (v27_0 + 1)), Dv, p_4, c_4, rfl, hlev, hF.weak (AF rfl), hS.weak trivial, hs_4⟩)))))
  replace h := ncond_f h hbv_4
  refine exit_ (then_x (then_x (blk_hit (then_n ?_))))
  replace h := next_h h
  refine seq (region (step hF (Y.move hF rfl) rfl fun a hF => step hF (Y.assign hF rfl) rfl fun a hF => step hF (Y.assign hF rfl) rfl fun a hF => nT (ret_ (then_r (leaveSN _ (nret h) Tryd.results69 hF hS (.cons (.tmp rfl) (.cons (.tmp rfl) .nil)) .nil ⟨_, _, rfl, hs⟩)))))
 replace h := ncond_f h hbv_3
 refine skip_ (then_n (seq (seq (region (step hF (Y.move hF rfl) rfl fun a hF => step hF (Y.assign hF rfl) rfl fun a hF => nT (block (loop_cutN (body := slave_Wrong_1_b2 somev many cv cv_1 self_) (out := out) (fun s a w => ∃ (v9_1 : (List Int)) (v10_1 : Bool) (k : Int), ∃ (Dv_1 : Stab), ∃ p_5 c_5, s = (v9_1, v10_1, k) ∧ D0.le Dv_1 ∧ Frm 65 [] [(0, .slice p somev.length c), (1, iv many), (4, .pointer (some ⟨bb_1, 0, none⟩)), (5, .pointer (some ⟨bb_2, 0, none⟩)), (9, .slice p_5 v9_1.length c_5), (10, .bool v10_1), (13, iv k)] a ∧ St w0 D0 Dv_1 [] w ∧ SRc C_int Dv_1 v9_1 p_5 c_5) (([] : List Int), false, fromv) h ⟨([] : List Int), false, fromv, D0, none, 0, rfl, Stab.le.refl _, hF.weak (AF rfl), hS.weak trivial, SRc.nil⟩ ?_)))))))
 rintro s a w xo_1 ⟨v9_1, v10_1, k, Dv_1, p_5, c_5, rfl, hlev_1, hF, hS, hs_5⟩ h
 unfold slave_Wrong_1_b2 at h
 try dsimp only at h
 replace hs := hs.mono hlev_1
 replace hs_1 := hs_1.mono hlev_1
 replace hs_2 := hs_2.mono hlev_1
 replace hs_3 := hs_3.mono hlev_1
 replace hG := hG.mono hlev_1
 refine seq (seq (region (step hF (Y.move hF rfl) rfl fun a hF => step hF (Y.load1H sz_26 hF rfl (hS.old hbv_1) rfl) rfl fun a hF => step hF (Y.lenSl u_26 hF rfl) rfl fun a hF => step hF (Y.lss hF rfl rfl) rfl fun a hF => nT (cond_b hF rfl (fun hbv_6 => ?_) (fun hbv_6 => ?_)))))
 ·replace h := ncond_t h hbv_6
  refine skip_ (then_n (seq (block (seq (drawsV 22 (.flt 0 (.flt 1 (.flt 2 (.flt 3 (.flt 4 (.flt 5 (.flt 6 (.flt 7 (.flt 8 (.flt 9 (.flt 10 (.flt 13 (.flt 14 (.flt 15 (.alt 11 (.alt 12 (.alt 16 (.flt 17 (.flt 18 (.flt 19 (.flt 20 (.flt 21 .done))))) .stop) .stop) .stop))))))))))))))) mixed_ (by kernel_rfl) (fun w => St w0 D0 Dv_1 [] w) _ (hS.weak (ms := []) trivial).drew (fun _ _ _ _ h => h) ?_ (fun _ _ h => h))))))
  replace hS := hS.drew
  have hle0 := hS.le
  refine stepV (i := 0) rfl hF (fun w hS => Y.load1H sz_109 hF rfl (hS.old hbv_2) rfl) rfl fun a hF => stepV (i := 1) rfl hF (fun w hS => Y.move hF rfl) rfl fun a hF => stepV (i := 2) rfl hF (fun w hS => Y.move hF rfl) rfl fun a hF => stepV (i := 3) rfl hF (fun w hS => Y.lenSl u_26 hF rfl) rfl fun a hF => stepV (i := 4) rfl hF (fun w hS => Y.move hF rfl) rfl fun a hF => stepV (i := 5) rfl hF (fun w hS => Y.lenSl u_26 hF rfl) rfl fun a hF => stepV (i := 6) rfl hF (fun w hS => Y.slice3 u_26 sz_3 hF rfl rfl rfl hs.2) rfl fun a hF => stepV (i := 7) rfl hF (fun w hS => Y.load1H sz_26 hF rfl (hS.old hbv_1) rfl) rfl fun a hF => stepV (i := 8) rfl hF (fun w hS => Y.move hF rfl) rfl fun a hF => ?_
  obtain ⟨e_1, hx_3, h⟩ := ndet h
  obtain ⟨b_1, o_1, hE_1, hY_1⟩ := Y.indexS (P := Tryd.prog) (C := C_int) (xs := cv_1) (T := 26) (x := (.tmp 51)) (y := (.tmp 52)) u_26 sz_3 hF rfl rfl (hs_3).1 hx_3
  obtain ⟨cc_1, hc_1, hcell_1⟩ := hE_1.open
  obtain rfl := hc_1
  refine stepV (i := 9) rfl hF (fun w hS => hY_1) rfl fun a hF => stepV (i := 10) rfl hF (fun w hS => Y.load1 sz_3 hF rfl (hcell_1 _ hS.stab 0 _ rfl)) rfl fun a hF => stepV (i := 13) rfl hF (fun w hS => Y.move hF rfl) rfl fun a hF => stepV (i := 14) rfl hF (fun w hS => Y.move hF rfl) rfl fun a hF => stepV (i := 15) rfl hF (fun w hS => Y.add hF rfl rfl) rfl fun a hF => oneV (i := 11) rfl ?_ trivial
  have hr_2 : Reps C_int Dv_1 [e_1] [iv e_1] := Reps.cons (C := C_int) (x := e_1) (c := [iv e_1]) (r := []) rfl (Reps.nil)
  refine O.buildSlice (E := 3) (C := C_int) (xs := [e_1]) (cs := [iv e_1]) (us := [iv e_1]) (parts := [(0, (.tmp 54))]) 6 hF hS rfl (by kernel_rfl) hr_2 rfl rfl rfl fun p_9 c_9 a w hF hS => nT ⟨hS.weak trivial, ?_⟩
  refine oneV (i := 12) rfl ?_ trivial
  obtain ⟨hg_1, h⟩ := ngrd h
  refine O.appendS (C := C_int) (xs := somev) (ys := [e_1]) 7 gr_26 hF rfl rfl hS ((⟨hs.1, Nat.le_refl _⟩ : SRc _ _ _ _ _)).1 (src_own (i := 6) hS rfl) hr_2 (Nat.succ_pos _) hg_1 rfl fun p_10 c_10 cs_1 a w hF hS hr_3 => nT ⟨hS.weak trivial, ?_⟩
  refine oneV (i := 16) rfl ?_ trivial
  obtain ⟨Dv_4, hlev_4, hs_8, hS⟩ := hS.freezeC (C := C_int) (i := 7) (xs := (somev ++ [e_1])) rfl hr_3
  replace hs_1 := hs_1.mono hlev_4
  replace hs_2 := hs_2.mono hlev_4
  replace hs_3 := hs_3.mono hlev_4
  replace hG := hG.mono hlev_4
  replace hs_5 := hs_5.mono hlev_4
  obtain ⟨KQ_2, hx_4, hk_2⟩ := nbnd_ex h
  refine O.callVSN (f := 69) (first := []) (cap := [.pointer (some ⟨bb, 0, none⟩), .pointer (some ⟨bb_1, 0, none⟩), .pointer (some ⟨bb_2, 0, none⟩)]) (us := [.slice p_10 (somev ++ [e_1]).length c_10, iv many, iv (wr (k + 1))]) ca_69 hF hS rfl rfl (hself hS.stab (somev ++ [e_1]) many (wr (k + 1)) cv cv_1 hs_8 hs_1 hs_2 hs_3 (hS.old hbv) (hS.old hbv_1) (hS.old hbv_2) hG KQ_2 hx_4) rfl fun rv_2 h v_1 Dv_5 a w hR_1 hlev_5 hF hS => ?_
  replace h := hk_2 _ h
  replace hs_5 := hs_5.mono hlev_5
  obtain ⟨p_11, c_11, rfl, hs_9⟩ := hR_1
  refine nT ⟨(hS.weak (ms := []) trivial).weakD (hlev_4.trans hlev_5) hle0, ?_⟩
  refine stepV (i := 17) rfl hF (fun w hS => Y.move hF rfl) rfl fun a hF => stepV (i := 18) rfl hF (fun w hS => Y.extract hF rfl rfl) rfl fun a hF => stepV (i := 19) rfl hF (fun w hS => Y.extract hF rfl rfl) rfl fun a hF => stepV (i := 20) rfl hF (fun w hS => Y.assign hF rfl) rfl fun a hF => stepV (i := 21) rfl hF (fun w hS => Y.assign hF rfl) rfl fun a hF => toTailV (nT (seq (region (step hF (Y.move hF rfl) rfl fun a hF => nT (cond_b hF rfl (fun hbv_7 => ?_) (fun hbv_7 => ?_))))))
  ·replace h := ncond_t h hbv_7
   refine seq (region (step hF (Y.move hF rfl) rfl fun a hF => step hF (Y.assign hF rfl) rfl fun a hF => step hF (Y.assign hF rfl) rfl fun a hF => nT (ret_ (blk_r (then_r (then_r (blk_r (then_r ?_))))))))
   replace h := next_h h
   exact leaveSN _ (nret h) Tryd.results69 hF hS (.cons (.tmp rfl) (.cons (.tmp rfl) .nil)) .nil ⟨_, _, rfl, hs_9⟩
  replace h := ncond_f h hbv_7
  refine skip_ (blk_n (then_n (region (step hF (Y.move hF rfl) rfl fun a hF => step hF (Y.add hF rfl rfl) rfl fun a hF => step hF (Y.assign hF rfl) rfl fun a hF => nT (⟨_, nnxt_h h, v9_1, v10_1, (wr (k + 1)), Dv_5, p_5, c_5, rfl, hlev_1.trans (hlev_4.trans hlev_5), hF.weak (AF rfl), hS.weak trivial, hs_5⟩)))))
 replace h := ncond_f h hbv_6
 refine exit_ (then_x (then_x (blk_hit (then_n ?_))))
 replace h := next_h h
 refine seq (region (step hF (Y.assign hF rfl) rfl fun a hF => step hF (Y.assign hF rfl) rfl fun a hF => nT (ret_ (leaveSN _ (nret h) Tryd.results69 hF hS (.cons (.tmp rfl) (.cons (.tmp rfl) .nil)) .nil ⟨_, _, rfl, SRc.nil⟩))))
noncomputable def slave_Wrong_1_n : Nat → (List Int) → Int → Int → SlaveLine → (List Int) → ND ((List Int) × Bool)
 | 0 => fun _ _ _ _ _ => (fun _ => False : ND ((List Int) × Bool))
 | n + 1 => slave_Wrong_1_step (slave_Wrong_1_n n)
theorem slave_Wrong_1_n_ok : ∀ n, ∀ {w0 : World} {D0 : Stab} (hD : D0.on w0) (somev : (List Int)) (many : Int) (fromv : Int) (cv : SlaveLine) (cv_1 : (List Int)) {p : Option Addr} {c : Nat} {p_1 : Option Addr} {c_1 : Nat} {p_2 : Option Addr} {c_2 : Nat} {bb : Nat} {p_3 : Option Addr} {c_3 : Nat} {bb_1 : Nat} {bb_2 : Nat} (hs : SRc C_int D0 somev p c) (hs_1 : SRc C_SlaveStart D0 cv.Starts p_1 c_1) (hs_2 : SRc C_SlaveEvent D0 cv.Events p_2 c_2) (hs_3 : SRc C_int D0 cv_1 p_3 c_3) (hbv : w0.heap[bb]? = some (.cells ([iv cv.Ring, .slice p_1 cv.Starts.length c_1, .slice p_2 cv.Events.length c_2]).toArray 25 (0, 0))) (hbv_1 : w0.heap[bb_1]? = some (.cells ([.slice p_3 cv_1.length c_3]).toArray 26 (0, 0))) (hbv_2 : w0.heap[bb_2]? = some (.cells ([.func (.func 69) #[] #[.pointer (some ⟨bb, 0, none⟩), .pointer (some ⟨bb_1, 0, none⟩), .pointer (some ⟨bb_2, 0, none⟩)]]).toArray 109 (0, 0))) (hG : Glob D0) (out : ((List Int) × Bool) → Prop) (h : slave_Wrong_1_n n somev many fromv cv cv_1 out), Calls Tryd.prog 69 [.slice p somev.length c, iv many, iv fromv, .pointer (some ⟨bb, 0, none⟩), .pointer (some ⟨bb_1, 0, none⟩), .pointer (some ⟨bb_2, 0, none⟩)].toArray w0 (RetSN D0 w0 out fun (out : ((List Int) × Bool)) D v => ∃ p_12 c_12, v = .tuple #[.slice p_12 out.1.length c_12, .bool out.2] ∧ SRc C_int D out.1 p_12 c_12)
 | 0 => by intros; rename_i h; exact h.elim
 | n + 1 => fun hD => slave_Wrong_1_step_ok (slave_Wrong_1_n n) (slave_Wrong_1_n_ok n) hD
noncomputable def slave_Wrong_1 (somev : (List Int)) (many : Int) (fromv : Int) (cv : SlaveLine) (cv_1 : (List Int)) : ND ((List Int) × Bool) := limN fun n => slave_Wrong_1_n n somev many fromv cv cv_1
theorem slave_Wrong_1_ok {w0 : World} {D0 : Stab} (hD : D0.on w0) (somev : (List Int)) (many : Int) (fromv : Int) (cv : SlaveLine) (cv_1 : (List Int)) {p : Option Addr} {c : Nat} {p_1 : Option Addr} {c_1 : Nat} {p_2 : Option Addr} {c_2 : Nat} {bb : Nat} {p_3 : Option Addr} {c_3 : Nat} {bb_1 : Nat} {bb_2 : Nat} (hs : SRc C_int D0 somev p c) (hs_1 : SRc C_SlaveStart D0 cv.Starts p_1 c_1) (hs_2 : SRc C_SlaveEvent D0 cv.Events p_2 c_2) (hs_3 : SRc C_int D0 cv_1 p_3 c_3) (hbv : w0.heap[bb]? = some (.cells ([iv cv.Ring, .slice p_1 cv.Starts.length c_1, .slice p_2 cv.Events.length c_2]).toArray 25 (0, 0))) (hbv_1 : w0.heap[bb_1]? = some (.cells ([.slice p_3 cv_1.length c_3]).toArray 26 (0, 0))) (hbv_2 : w0.heap[bb_2]? = some (.cells ([.func (.func 69) #[] #[.pointer (some ⟨bb, 0, none⟩), .pointer (some ⟨bb_1, 0, none⟩), .pointer (some ⟨bb_2, 0, none⟩)]]).toArray 109 (0, 0))) (hG : Glob D0) (out : ((List Int) × Bool) → Prop) (h : slave_Wrong_1 somev many fromv cv cv_1 out) : Calls Tryd.prog 69 [.slice p somev.length c, iv many, iv fromv, .pointer (some ⟨bb, 0, none⟩), .pointer (some ⟨bb_1, 0, none⟩), .pointer (some ⟨bb_2, 0, none⟩)].toArray w0 (RetSN D0 w0 out fun (out : ((List Int) × Bool)) D v => ∃ p_12 c_12, v = .tuple #[.slice p_12 out.1.length c_12, .bool out.2] ∧ SRc C_int D out.1 p_12 c_12) := by
 obtain ⟨n, hfu_⟩ := limN_some h
 exact slave_Wrong_1_n_ok n hD somev many fromv cv cv_1 hs hs_1 hs_2 hs_3 hbv hbv_1 hbv_2 hG out hfu_
noncomputable def slave_Wrong_b2 (xv : SlaveLine) (l : (List Int)) : ((List Int) × Int × Int) → ND (((List Int) × Int × Int) ⊕ ((List Int) × Int))
 | (v2_0, v3_0, v37_0) =>
  cond (decide (v37_0 < (wr ((l.length : Int) + 1))))
  ((ND.bnd (slave_Wrong_1 ([] : List Int) v37_0 0 xv l) fun rv_1 =>
  cond rv_1.2
  (next_ (ND.ret (rv_1.1, 0)))
  (nnxt (v2_0, v3_0, wr (v37_0 + 1)))))
  (next_ (ND.ret (([] : List Int), 0)))
noncomputable def slave_Wrong_b1 (xv : SlaveLine) : (Int × (List Int)) → ND ((Int × (List Int)) ⊕ ((List Int) × Int))
 | (v20_0, l) =>
  cond (decide (v20_0 < (xv.Events.length : Int)))
  ((ND.det (idx xv.Events v20_0) fun e =>
  cond (e.Kind == 2)
  ((ND.grd (l.length + ([v20_0]).length ≤ lim) (
  nnxt (wr (v20_0 + 1), (l ++ [v20_0])))))
  (nnxt (wr (v20_0 + 1), l))))
  (next_ (loopN (slave_Wrong_b2 xv l) (([] : List Int), 0, 0)))
noncomputable def slave_Wrong (xv : SlaveLine) : ND ((List Int) × Int) :=
  (ND.det (slave_Check xv) fun rv =>
  cond (rv != 0)
  (ND.ret (([] : List Int), rv))
  (loopN (slave_Wrong_b1 xv) (0, ([] : List Int))))
theorem slave_Wrong_ok {w0 : World} {D0 : Stab} (hD : D0.on w0) (xv : SlaveLine) {p : Option Addr} {c : Nat} {p_1 : Option Addr} {c_1 : Nat} (hs : SRc C_SlaveStart D0 xv.Starts p c) (hs_1 : SRc C_SlaveEvent D0 xv.Events p_1 c_1) (hG : Glob D0) (out : ((List Int) × Int) → Prop) (h : slave_Wrong xv out) : Calls Tryd.prog 28 [.agg #[iv xv.Ring, .slice p xv.Starts.length c, .slice p_1 xv.Events.length c_1]].toArray w0 (RetSN D0 w0 out fun (out : ((List Int) × Int)) D v => ∃ p_7 c_7, v = .tuple #[.slice p_7 out.1.length c_7, iv out.2] ∧ SRc C_int D out.1 p_7 c_7) := by
 refine enter _ 54 Tryd.func28 rfl Tryd.ntmps28 rfl fun a hF => ?_
 replace hF : Frm 54 [] [(0, .agg #[iv xv.Ring, .slice p xv.Starts.length c, .slice p_1 xv.Events.length c_1])] a := hF
 have hS := St.start hD
 unfold slave_Wrong at h
 refine seq (region (O.box (cs := [iv xv.Ring, .slice p xv.Starts.length c, .slice p_1 xv.Events.length c_1]) 1 hF rfl rfl hS rfl fun b a w hF hS => step hF (Y.assign hF rfl) rfl fun a hF => step hF (Y.assign hF rfl) rfl fun a hF => nT (seq (seq (region (step hF (Y.loadNL 1 sz_25 hF rfl hS rfl rfl rfl) rfl fun a hF => ?_))))))
 obtain ⟨rv, hx, h⟩ := ndet h
 refine O.callP (us := [.agg #[iv xv.Ring, .slice p xv.Starts.length c, .slice p_1 xv.Events.length c_1]]) ca_19 hF hS (slave_Check_ok hS.stab xv hs hs_1 rv hx) rfl rfl fun a w hF hS => step hF (Y.assign hF rfl) rfl fun a hF => nT (seq (region (step hF (Y.move hF rfl) rfl fun a hF => step hF (Y.neq hF rfl rfl) rfl fun a hF => nT (cond_b hF rfl (fun hbv => ?_) (fun hbv => ?_)))))
 ·replace h := ncond_t h hbv
  refine seq (region (step hF (Y.move hF rfl) rfl fun a hF => step hF (Y.assign hF rfl) rfl fun a hF => step hF (Y.assign hF rfl) rfl fun a hF => nT (ret_ (then_r (leaveSN _ (nret h) Tryd.results28 hF hS (.cons (.tmp rfl) (.cons (.tmp rfl) .nil)) .nil ⟨_, _, rfl, SRc.nil⟩)))))
 replace h := ncond_f h hbv
 refine skip_ (then_n (seq (region (O.alloc 2 zc_26 hF hS rfl fun b_1 a w hF hS => ?_))))
 replace hS := hS.ownNil 3 3 1
 refine nT (seq (seq (region (step hF (Y.fieldAddr fo_25_2 hF rfl) rfl fun a hF => step hF (Y.load1L 1 sz_23 hF rfl hS rfl rfl) rfl fun a hF => step hF (Y.lenSl u_23 hF rfl) rfl fun a hF => step hF (Y.move hF rfl) rfl fun a hF => nT (block (loop_cutN (body := slave_Wrong_b1 xv) (out := out) (fun s a w => ∃ (v20_0 : Int) (l : (List Int)), ∃ p_2 c_2 cs, s = (v20_0, l) ∧ Frm 54 [] [(1, .pointer (some ⟨b, 0, none⟩)), (2, .slice none 0 0), (3, iv 0), (5, .pointer (some ⟨b_1, 0, none⟩)), (18, .slice p_1 xv.Events.length c_1), (19, iv (xv.Events.length : Int)), (20, iv v20_0)] a ∧ St w0 D0 D0 [(1, .cells b [iv xv.Ring, .slice p xv.Starts.length c, .slice p_1 xv.Events.length c_1] 25), (2, .cells b_1 [.slice p_2 l.length c_2] 26), (3, .own p_2 l.length c_2 cs 3 1)] w ∧ Reps C_int D0 l cs) (0, ([] : List Int)) h ⟨0, ([] : List Int), none, 0, ([]), rfl, hF.weak (AF rfl), hS.weak (AL rfl), Reps.nil⟩ ?_))))))
 rintro s a w xo ⟨v20_0, l, p_2, c_2, cs, rfl, hF, hS, hr⟩ h
 unfold slave_Wrong_b1 at h
 try dsimp only at h
 refine seq (region (step hF (Y.lss hF rfl rfl) rfl fun a hF => nT (seq (cond_b hF rfl (fun hbv_1 => ?_) (fun hbv_1 => ?_)))))
 ·replace h := ncond_t h hbv_1
  refine skip_ (then_n (seq (block (seq (region (step hF (Y.move hF rfl) rfl fun a hF => ?_))))))
  obtain ⟨e, hx_1, h⟩ := ndet h
  obtain ⟨b_2, o, hE, hY⟩ := Y.indexS (P := Tryd.prog) (C := C_SlaveEvent) (xs := xv.Events) (T := 23) (x := (.tmp 18)) (y := (.tmp 20)) u_23 sz_66 hF rfl rfl (hs_1).1 hx_1
  obtain ⟨cc, hc, hcell⟩ := hE.open
  obtain rfl := C_SlaveEvent.open hc
  refine step hF (hY) rfl fun a hF => step hF (Y.loadNE (o := o) (k := 0) sz_66 hF rfl (hcell _ hS.stab) rfl rfl) rfl fun a hF => O.alloc 4 zc_66 hF hS rfl fun b_3 a w hF hS => step hF (Y.assign hF rfl) rfl fun a hF => O.store (us := [iv e.Kind, iv e.First, iv e.Count, iv e.Lost, iv e.Who, iv e.Shown]) 4 sz_66 hF rfl rfl rfl rfl hS rfl rfl fun a w hF hS => nT (seq (region (step hF (Y.fieldAddr fo_66_0 hF rfl) rfl fun a hF => step hF (Y.load1L 4 sz_3 hF rfl hS rfl rfl) rfl fun a hF => step hF (Y.eql hF rfl rfl) rfl fun a hF => nT (cond_b hF rfl (fun hbv_2 => ?_) (fun hbv_2 => ?_)))))
  ·replace h := ncond_t h hbv_2
   refine region (step hF (Y.load1L 2 sz_26 hF rfl hS rfl rfl) rfl fun a hF => step hF (Y.move hF rfl) rfl fun a hF => ?_)
   have hr_1 : Reps C_int D0 [v20_0] [iv v20_0] := Reps.cons (C := C_int) (x := v20_0) (c := [iv v20_0]) (r := []) rfl (Reps.nil)
   refine O.buildSlice (E := 3) (C := C_int) (xs := [v20_0]) (cs := [iv v20_0]) (us := [iv v20_0]) (parts := [(0, (.tmp 29))]) 5 hF hS rfl (by kernel_rfl) hr_1 rfl rfl rfl fun p_3 c_3 a w hF hS => ?_
   obtain ⟨hg, h⟩ := ngrd h
   refine O.append (C := C_int) (xs := l) (ys := [v20_0]) 3 gr_26 hF rfl rfl hS rfl (src_own (i := 5) hS rfl) hr hr_1 hg rfl fun p_4 c_4 a w hF hS hr_2 => O.store (us := [.slice p_4 (l ++ [v20_0]).length c_4]) 2 sz_26 hF rfl rfl rfl rfl hS rfl rfl fun a w hF hS => nil (blk_n (then_n (region (step hF (Y.add hF rfl rfl) rfl fun a hF => step hF (Y.move hF rfl) rfl fun a hF => nT (⟨_, nnxt_h h, (wr (v20_0 + 1)), (l ++ [v20_0]), p_4, c_4, (cs ++ [iv v20_0]), rfl, hF.weak (AF rfl), hS.weak (AL rfl), hr_2⟩)))))
  replace h := ncond_f h hbv_2
  refine skip_ (blk_n (then_n (region (step hF (Y.add hF rfl rfl) rfl fun a hF => step hF (Y.move hF rfl) rfl fun a hF => nT (⟨_, nnxt_h h, (wr (v20_0 + 1)), l, p_2, c_2, cs, rfl, hF.weak (AF rfl), hS.weak (AL rfl), hr⟩)))))
 replace h := ncond_f h hbv_1
 refine exit_ (then_x (then_x (blk_hit (then_n ?_))))
 replace h := next_h h
 refine seq (region (O.alloc 6 zc_109 hF hS rfl fun b_4 a w hF hS => nT (seq (region (step hF (Y.makeFunc (first := []) (cap := [(.tmp 1), (.tmp 5), (.tmp 8)]) (fs := []) (cs := [.pointer (some ⟨b, 0, none⟩), .pointer (some ⟨b_1, 0, none⟩), .pointer (some ⟨b_4, 0, none⟩)]) hF rfl rfl) rfl fun a hF => O.store (us := [.func (.func 69) #[] #[.pointer (some ⟨b, 0, none⟩), .pointer (some ⟨b_1, 0, none⟩), .pointer (some ⟨b_4, 0, none⟩)]]) 6 sz_109 hF rfl rfl rfl rfl hS rfl rfl fun a w hF hS => nT (seq (seq (region (step hF (Y.load1L 2 sz_26 hF rfl hS rfl rfl) rfl fun a hF => step hF (Y.lenSl u_26 hF rfl) rfl fun a hF => step hF (Y.add hF rfl rfl) rfl fun a hF => step hF (Y.move hF rfl) rfl fun a hF => nT (block ?_))))))))))
 obtain ⟨Dv, hlev, hs_2, hS⟩ := hS.freezeC (C := C_int) (i := 3) (xs := l) rfl hr
 replace hs := hs.mono hlev
 replace hs_1 := hs_1.mono hlev
 replace hG := hG.mono hlev
 refine loop_cutN (body := slave_Wrong_b2 xv l) (out := out) (fun s a w => ∃ (v2_0 : (List Int)) (v3_0 : Int) (v37_0 : Int), ∃ (Dv_1 : Stab), ∃ p_5 c_5, s = (v2_0, v3_0, v37_0) ∧ Dv.le Dv_1 ∧ Frm 54 [] [(2, .slice p_5 v2_0.length c_5), (3, iv v3_0), (8, .pointer (some ⟨b_4, 0, none⟩)), (36, iv (wr ((l.length : Int) + 1))), (37, iv v37_0)] a ∧ St w0 D0 Dv_1 [(1, .cells b [iv xv.Ring, .slice p xv.Starts.length c, .slice p_1 xv.Events.length c_1] 25), (2, .cells b_1 [.slice p_2 l.length c_2] 26), (6, .cells b_4 [.func (.func 69) #[] #[.pointer (some ⟨b, 0, none⟩), .pointer (some ⟨b_1, 0, none⟩), .pointer (some ⟨b_4, 0, none⟩)]] 109)] w ∧ SRc C_int Dv_1 v2_0 p_5 c_5) (([] : List Int), 0, 0) h ⟨([] : List Int), 0, 0, Dv, none, 0, rfl, Stab.le.refl _, hF.weak (AF rfl), hS.weak (AL rfl), SRc.nil⟩ ?_
 rintro s a w xo_1 ⟨v2_0, v3_0, v37_0, Dv_1, p_5, c_5, rfl, hlev_1, hF, hS, hs_3⟩ h
 unfold slave_Wrong_b2 at h
 try dsimp only at h
 replace hs := hs.mono hlev_1
 replace hs_1 := hs_1.mono hlev_1
 replace hG := hG.mono hlev_1
 replace hs_2 := hs_2.mono hlev_1
 refine seq (region (step hF (Y.lss hF rfl rfl) rfl fun a hF => nT (seq (cond_b hF rfl (fun hbv_3 => ?_) (fun hbv_3 => ?_)))))
 ·replace h := ncond_t h hbv_3
  refine skip_ (then_n (seq (block (seq (region (step hF (Y.move hF rfl) rfl fun a hF => step hF (Y.assign hF rfl) rfl fun a hF => nT (seq (region (step hF (Y.load1L 6 sz_109 hF rfl hS rfl rfl) rfl fun a hF => step hF (Y.move hF rfl) rfl fun a hF => ?_)))))))))
  obtain ⟨KQ, hx_2, hk⟩ := nbnd_ex h
  refine O.callVSN (f := 69) (first := []) (cap := [.pointer (some ⟨b, 0, none⟩), .pointer (some ⟨b_1, 0, none⟩), .pointer (some ⟨b_4, 0, none⟩)]) (us := [.slice none 0 0, iv v37_0, iv 0]) ca_69 hF hS rfl rfl (slave_Wrong_1_ok hS.stab ([] : List Int) v37_0 0 xv l SRc.nil hs hs_1 hs_2 (hS.each 1 _ rfl) (hS.each 2 _ rfl) (hS.each 6 _ rfl) hG KQ hx_2) rfl fun rv_1 h v Dv_2 a w hR hlev_2 hF hS => ?_
  replace h := hk _ h
  replace hs_3 := hs_3.mono hlev_2
  obtain ⟨p_6, c_6, rfl, hs_4⟩ := hR
  refine step hF (Y.move hF rfl) rfl fun a hF => step hF (Y.extract hF rfl rfl) rfl fun a hF => step hF (Y.extract hF rfl rfl) rfl fun a hF => step hF (Y.assign hF rfl) rfl fun a hF => step hF (Y.assign hF rfl) rfl fun a hF => nT (seq (region (step hF (Y.move hF rfl) rfl fun a hF => nT (cond_b hF rfl (fun hbv_4 => ?_) (fun hbv_4 => ?_)))))
  ·replace h := ncond_t h hbv_4
   refine seq (region (step hF (Y.move hF rfl) rfl fun a hF => step hF (Y.move hF rfl) rfl fun a hF => step hF (Y.lenSl u_26 hF rfl) rfl fun a hF => step hF (Y.move hF rfl) rfl fun a hF => step hF (Y.lenSl u_26 hF rfl) rfl fun a hF => step hF (Y.slice3 u_26 sz_3 hF rfl rfl rfl hs_4.2) rfl fun a hF => step hF (Y.assign hF rfl) rfl fun a hF => step hF (Y.assign hF rfl) rfl fun a hF => nT (ret_ (blk_r (then_r (then_r (blk_r (then_r ?_))))))))
   replace h := next_h h
   exact leaveSN _ (nret h) Tryd.results28 hF hS (.cons (.tmp rfl) (.cons (.tmp rfl) .nil)) .nil ⟨_, _, rfl, (⟨hs_4.1, Nat.le_refl _⟩ : SRc _ _ _ _ _)⟩
  replace h := ncond_f h hbv_4
  refine skip_ (blk_n (then_n (region (step hF (Y.add hF rfl rfl) rfl fun a hF => step hF (Y.move hF rfl) rfl fun a hF => nT (⟨_, nnxt_h h, v2_0, v3_0, (wr (v37_0 + 1)), Dv_2, p_5, c_5, rfl, hlev_1.trans hlev_2, hF.weak (AF rfl), hS.weak (AL rfl), hs_3⟩)))))
 replace h := ncond_f h hbv_3
 refine exit_ (then_x (then_x (blk_hit (then_n ?_))))
 replace h := next_h h
 refine seq (region (step hF (Y.assign hF rfl) rfl fun a hF => step hF (Y.assign hF rfl) rfl fun a hF => nT (ret_ (leaveSN _ (nret h) Tryd.results28 hF hS (.cons (.tmp rfl) (.cons (.tmp rfl) .nil)) .nil ⟨_, _, rfl, SRc.nil⟩))))
noncomputable def slave_greatest_int__b1 (more : (List Int)) : (Int × Int) → Option ((Int × Int) ⊕ Int)
 | (n_1, v9_0) =>
  cond (decide (v9_0 < (more.length : Int)))
  ((idx more v9_0).bind fun e =>
  nxt ((if e > n_1 then e else n_1), wr (v9_0 + 1)))
  (ext (some n_1))
noncomputable def slave_greatest_int_ (n : Int) (more : (List Int)) : Option Int :=
  loopU (slave_greatest_int__b1 more) (n, 0)
theorem slave_greatest_int__ok {w0 : World} {D0 : Stab} (hD : D0.on w0) (n : Int) (more : (List Int)) {p : Option Addr} {c : Nat} (hs : SRc C_int D0 more p c) (out : Int) (h : slave_greatest_int_ n more = some out) : Calls Tryd.prog 75 [iv n, .slice p more.length c].toArray w0 (RetP D0 w0 (iv out)) := by
 refine enter _ 18 Tryd.func75 rfl Tryd.ntmps75 rfl fun a hF => ?_
 replace hF : Frm 18 [] [(0, iv n), (1, .slice p more.length c)] a := hF
 have hS := St.start hD
 unfold slave_greatest_int_ at h
 refine seq (region (step hF (Y.assign hF rfl) rfl fun a hF => nT (seq (seq (region (step hF (Y.move hF rfl) rfl fun a hF => step hF (Y.lenSl u_26 hF rfl) rfl fun a hF => step hF (Y.move hF rfl) rfl fun a hF => nT (block (loop_cut (body := slave_greatest_int__b1 more) (out := out) (fun s a w => ∃ (n_1 : Int) (v9_0 : Int), s = (n_1, v9_0) ∧ Frm 18 [] [(0, iv n_1), (4, iv 0), (7, .slice p more.length c), (8, iv (more.length : Int)), (9, iv v9_0)] a ∧ St w0 D0 D0 [] w) (n, 0) h ⟨n, 0, rfl, hF.weak (AF rfl), hS.weak trivial⟩ ?_))))))))
 rintro s a w xo ⟨n_1, v9_0, rfl, hF, hS⟩ h hxo
 unfold slave_greatest_int__b1 at h
 dsimp only at h
 refine seq (region (step hF (Y.lss hF rfl rfl) rfl fun a hF => nT (seq (cond_b hF rfl (fun hbv => ?_) (fun hbv => ?_)))))
 ·replace h := cond_t h hbv
  refine skip_ (then_n (seq (block (seq (region ?_)))))
  obtain ⟨e, hx, h⟩ := bind_some h
  obtain ⟨b, o, hE, hY⟩ := Y.indexS (P := Tryd.prog) (C := C_int) (xs := more) (T := 26) (x := (.tmp 7)) (y := (.tmp 9)) u_26 sz_3 hF rfl rfl (hs).1 hx
  obtain ⟨cc, hc, hcell⟩ := hE.open
  obtain rfl := hc
  refine step hF (hY) rfl fun a hF => step hF (Y.load1 sz_3 hF rfl (hcell _ hS.stab 0 _ rfl)) rfl fun a hF => step hF (Y.assign hF rfl) rfl fun a hF => nT (region (step hF (Y.move hF rfl) rfl fun a hF => step hF (Y.move hF rfl) rfl fun a hF => step hF (Y.max2 hF rfl rfl) rfl fun a hF => step hF (Y.assign hF rfl) rfl fun a hF => nil (blk_n (then_n (region (step hF (Y.add hF rfl rfl) rfl fun a hF => step hF (Y.move hF rfl) rfl fun a hF => nT (⟨_, nxt_some h, (if e > n_1 then e else n_1), (wr (v9_0 + 1)), rfl, hF.weak (AF rfl), hS.weak trivial⟩)))))))
 replace h := cond_f h hbv
 refine exit_ (then_x (then_x (blk_hit (then_n ?_))))
 replace h := ext_some h hxo
 refine seq (region (step hF (Y.move hF rfl) rfl fun a hF => step hF (Y.assign hF rfl) rfl fun a hF => nT (ret_ ?_)))
 obtain rfl := some_inj h
 exact leaveP Tryd.results75 hF hS (.cons (.tmp rfl) .nil) .nil rfl
noncomputable def slave_line_stepped_k3 (z_3 : Int) (z_4 : Int) : Option SlaveStart :=
  some (SlaveStart.mk z_3 z_4)
noncomputable def slave_line_stepped_k4 (l : slave_line) (p_3 : SlavePlan) (z_2 : Int) (n : Int) : Option SlaveStart :=
  if l.SlaveLine.Ring ≠ 0 then
  slave_line_stepped_k3 (Int.tmod (wr (z_2 + n)) l.SlaveLine.Ring) (Int.tmod (wr ((wr (p_3.First + p_3.Send)) - 1)) 2)
  else none
noncomputable def slave_line_stepped_k2 (l : slave_line) (p_3 : SlavePlan) (z_1 : Int) (z_2 : Int) : Option SlaveStart :=
  cond (decide (p_3.Send > 0))
  (cond (z_1 == p_3.First)
  (slave_line_stepped_k4 l p_3 z_2 (wr (p_3.Send - 1)))
  (slave_line_stepped_k4 l p_3 z_2 p_3.Send))
  (slave_line_stepped_k3 z_2 z_1)
noncomputable def slave_line_stepped_k1 (l : slave_line) (p_3 : SlavePlan) (z : Int) (z_1 : Int) : Option SlaveStart :=
  if l.SlaveLine.Ring ≠ 0 then
  cond (decide ((Int.tmod (wr (l.SlaveLine.Ring - z)) l.SlaveLine.Ring) ≤ p_3.Home))
  (slave_line_stepped_k2 l p_3 z_1 0)
  (slave_line_stepped_k2 l p_3 z_1 (wr (z + p_3.Home)))
  else none
noncomputable def slave_line_stepped (l : slave_line) (sv : SlaveStart) (p_3 : SlavePlan) : Option SlaveStart :=
  cond (p_3.Pre != (-1))
  ((slave_line_after l sv p_3.Pre).bind fun rv =>
  slave_line_stepped_k1 l p_3 rv.Shown rv.Last)
  (slave_line_stepped_k1 l p_3 sv.Shown sv.Last)
theorem slave_line_stepped_ok {w0 : World} {D0 : Stab} (hD : D0.on w0) (l : slave_line) (sv : SlaveStart) (p_3 : SlavePlan) {p : Option Addr} {c : Nat} {p_1 : Option Addr} {c_1 : Nat} {p_2 : Option Addr} {c_2 : Nat} (hs : SRc C_SlaveStart D0 l.SlaveLine.Starts p c) (hs_1 : SRc C_SlaveEvent D0 l.SlaveLine.Events p_1 c_1) (hs_2 : SRc C_int D0 l.without p_2 c_2) (out : SlaveStart) (h : slave_line_stepped l sv p_3 = some out) : Calls Tryd.prog 91 [.agg #[iv l.SlaveLine.Ring, .slice p l.SlaveLine.Starts.length c, .slice p_1 l.SlaveLine.Events.length c_1, .slice p_2 l.without.length c_2], .agg #[iv sv.Shown, iv sv.Last], .agg #[iv p_3.Pre, iv p_3.Home, iv p_3.First, iv p_3.Send]].toArray w0 (RetP D0 w0 (.agg #[iv out.Shown, iv out.Last])) := by
 refine enter _ 68 Tryd.func91 rfl Tryd.ntmps91 rfl fun a hF => ?_
 replace hF : Frm 68 [] [(0, .agg #[iv l.SlaveLine.Ring, .slice p l.SlaveLine.Starts.length c, .slice p_1 l.SlaveLine.Events.length c_1, .slice p_2 l.without.length c_2]), (1, .agg #[iv sv.Shown, iv sv.Last]), (2, .agg #[iv p_3.Pre, iv p_3.Home, iv p_3.First, iv p_3.Send])] a := hF
 have hS := St.start hD
 unfold slave_line_stepped at h
 refine seq (region (O.box (cs := [iv l.SlaveLine.Ring, .slice p l.SlaveLine.Starts.length c, .slice p_1 l.SlaveLine.Events.length c_1, .slice p_2 l.without.length c_2]) 1 hF rfl rfl hS rfl fun b a w hF hS => O.box (cs := [iv sv.Shown, iv sv.Last]) 2 hF rfl rfl hS rfl fun b_1 a w hF hS => O.box (cs := [iv p_3.Pre, iv p_3.Home, iv p_3.First, iv p_3.Send]) 3 hF rfl rfl hS rfl fun b_2 a w hF hS => O.alloc 4 zc_57 hF hS rfl fun b_3 a w hF hS => nT (seq_cut (fun a w => ∃ (z : Int) (z_1 : Int), ∃ (Dv : Stab), D0.le Dv ∧ Frm 68 [] [(3, .pointer (some ⟨b, 0, none⟩)), (4, .pointer (some ⟨b_1, 0, none⟩)), (5, .pointer (some ⟨b_2, 0, none⟩)), (6, .pointer (some ⟨b_3, 0, none⟩))] a ∧ St w0 D0 Dv [(1, .cells b [iv l.SlaveLine.Ring, .slice p l.SlaveLine.Starts.length c, .slice p_1 l.SlaveLine.Events.length c_1, .slice p_2 l.without.length c_2] 103), (2, .cells b_1 [iv z, iv z_1] 57), (3, .cells b_2 [iv p_3.Pre, iv p_3.Home, iv p_3.First, iv p_3.Send] 49), (4, .cells b_3 [iv 0, iv 0] 57)] w ∧ slave_line_stepped_k1 l p_3 z z_1 = some out) ?_ ?_)))
 ·skip
  refine seq (region (step hF (Y.fieldAddr fo_49_0 hF rfl) rfl fun a hF => step hF (Y.load1L 3 sz_3 hF rfl hS rfl rfl) rfl fun a hF => step hF (Y.neq hF rfl rfl) rfl fun a hF => nT (cond_b hF rfl (fun hbv_3 => ?_) (fun hbv_3 => ?_))))
  ·replace h := cond_t h hbv_3
   refine region (step hF (Y.loadNL 1 sz_103 hF rfl hS rfl rfl rfl) rfl fun a hF => step hF (Y.loadNL 2 sz_57 hF rfl hS rfl rfl rfl) rfl fun a hF => step hF (Y.fieldAddr fo_49_0 hF rfl) rfl fun a hF => step hF (Y.load1L 3 sz_3 hF rfl hS rfl rfl) rfl fun a hF => ?_)
   obtain ⟨rv, hx, h⟩ := bind_some h
   refine O.callP (us := [.agg #[iv l.SlaveLine.Ring, .slice p l.SlaveLine.Starts.length c, .slice p_1 l.SlaveLine.Events.length c_1, .slice p_2 l.without.length c_2], .agg #[iv sv.Shown, iv sv.Last], iv p_3.Pre]) ca_65 hF hS (slave_line_after_ok hS.stab l sv p_3.Pre hs hs_1 hs_2 rv hx) rfl rfl fun a w hF hS => O.store (us := [iv rv.Shown, iv rv.Last]) 2 sz_57 hF rfl rfl rfl rfl hS rfl rfl fun a w hF hS => nT (⟨rv.Shown, rv.Last, D0, Stab.le.refl _, hF.weak (AF rfl), hS.weak (AL rfl), h⟩)
  replace h := cond_f h hbv_3
  refine skip_ (then_n (⟨sv.Shown, sv.Last, D0, Stab.le.refl _, hF.weak (AF rfl), hS.weak (AL rfl), h⟩))
 rintro a w ⟨z, z_1, Dv, hlev, hF, hS, h⟩
 unfold slave_line_stepped_k1 at h
 refine seq_cut (fun a w => ∃ (z_2 : Int), Frm 68 [] [(3, .pointer (some ⟨b, 0, none⟩)), (4, .pointer (some ⟨b_1, 0, none⟩)), (5, .pointer (some ⟨b_2, 0, none⟩)), (6, .pointer (some ⟨b_3, 0, none⟩))] a ∧ St w0 D0 Dv [(1, .cells b [iv l.SlaveLine.Ring, .slice p l.SlaveLine.Starts.length c, .slice p_1 l.SlaveLine.Events.length c_1, .slice p_2 l.without.length c_2] 103), (2, .cells b_1 [iv z_2, iv z_1] 57), (3, .cells b_2 [iv p_3.Pre, iv p_3.Home, iv p_3.First, iv p_3.Send] 49), (4, .cells b_3 [iv 0, iv 0] 57)] w ∧ slave_line_stepped_k2 l p_3 z_1 z_2 = some out) ?_ ?_
 ·skip
  refine seq (region (step hF (Y.fieldAddr fo_103_0 hF rfl) rfl fun a hF => step hF (Y.fieldAddr fo_25_0 hF rfl) rfl fun a hF => step hF (Y.load1L 1 sz_3 hF rfl hS rfl rfl) rfl fun a hF => step hF (Y.fieldAddr fo_57_0 hF rfl) rfl fun a hF => step hF (Y.load1L 2 sz_3 hF rfl hS rfl rfl) rfl fun a hF => step hF (Y.sub hF rfl rfl) rfl fun a hF => step hF (Y.fieldAddr fo_103_0 hF rfl) rfl fun a hF => step hF (Y.fieldAddr fo_25_0 hF rfl) rfl fun a hF => step hF (Y.load1L 1 sz_3 hF rfl hS rfl rfl) rfl fun a hF => ?_))
  obtain ⟨hg_1, h⟩ := ite_some h
  refine step hF (Y.rem hF rfl rfl hg_1) rfl fun a hF => step hF (Y.assign hF rfl) rfl fun a hF => nT (seq (region (step hF (Y.move hF rfl) rfl fun a hF => step hF (Y.fieldAddr fo_49_1 hF rfl) rfl fun a hF => step hF (Y.load1L 3 sz_3 hF rfl hS rfl rfl) rfl fun a hF => step hF (Y.leq hF rfl rfl) rfl fun a hF => nT (cond_b hF rfl (fun hbv_2 => ?_) (fun hbv_2 => ?_)))))
  ·replace h := cond_t h hbv_2
   refine region (step hF (Y.fieldAddr fo_57_0 hF rfl) rfl fun a hF => O.store (us := [iv 0]) 2 sz_3 hF rfl rfl rfl rfl hS rfl rfl fun a w hF hS => nT (⟨0, hF.weak (AF rfl), hS.weak (AL rfl), h⟩))
  replace h := cond_f h hbv_2
  refine region (step hF (Y.fieldAddr fo_57_0 hF rfl) rfl fun a hF => step hF (Y.load1L 2 sz_3 hF rfl hS rfl rfl) rfl fun a hF => step hF (Y.fieldAddr fo_49_1 hF rfl) rfl fun a hF => step hF (Y.load1L 3 sz_3 hF rfl hS rfl rfl) rfl fun a hF => step hF (Y.add hF rfl rfl) rfl fun a hF => step hF (Y.fieldAddr fo_57_0 hF rfl) rfl fun a hF => O.store (us := [iv (wr (z + p_3.Home))]) 2 sz_3 hF rfl rfl rfl rfl hS rfl rfl fun a w hF hS => nT (⟨(wr (z + p_3.Home)), hF.weak (AF rfl), hS.weak (AL rfl), h⟩))
 rintro a w ⟨z_2, hF, hS, h⟩
 unfold slave_line_stepped_k2 at h
 refine seq_cut (fun a w => ∃ (z_3 : Int) (z_4 : Int), Frm 68 [] [(4, .pointer (some ⟨b_1, 0, none⟩)), (6, .pointer (some ⟨b_3, 0, none⟩))] a ∧ St w0 D0 Dv [(1, .cells b [iv l.SlaveLine.Ring, .slice p l.SlaveLine.Starts.length c, .slice p_1 l.SlaveLine.Events.length c_1, .slice p_2 l.without.length c_2] 103), (2, .cells b_1 [iv z_3, iv z_4] 57), (3, .cells b_2 [iv p_3.Pre, iv p_3.Home, iv p_3.First, iv p_3.Send] 49), (4, .cells b_3 [iv 0, iv 0] 57)] w ∧ slave_line_stepped_k3 z_3 z_4 = some out) ?_ ?_
 ·skip
  refine seq (region (step hF (Y.fieldAddr fo_49_3 hF rfl) rfl fun a hF => step hF (Y.load1L 3 sz_3 hF rfl hS rfl rfl) rfl fun a hF => step hF (Y.gtr hF rfl rfl) rfl fun a hF => nT (cond_b hF rfl (fun hbv => ?_) (fun hbv => ?_))))
  ·replace h := cond_t h hbv
   refine seq (region (step hF (Y.fieldAddr fo_49_3 hF rfl) rfl fun a hF => step hF (Y.load1L 3 sz_3 hF rfl hS rfl rfl) rfl fun a hF => step hF (Y.assign hF rfl) rfl fun a hF => nT (seq_cut (fun a w => ∃ (n : Int), Frm 68 [] [(3, .pointer (some ⟨b, 0, none⟩)), (4, .pointer (some ⟨b_1, 0, none⟩)), (5, .pointer (some ⟨b_2, 0, none⟩)), (6, .pointer (some ⟨b_3, 0, none⟩)), (8, iv n)] a ∧ St w0 D0 Dv [(1, .cells b [iv l.SlaveLine.Ring, .slice p l.SlaveLine.Starts.length c, .slice p_1 l.SlaveLine.Events.length c_1, .slice p_2 l.without.length c_2] 103), (2, .cells b_1 [iv z_2, iv z_1] 57), (3, .cells b_2 [iv p_3.Pre, iv p_3.Home, iv p_3.First, iv p_3.Send] 49), (4, .cells b_3 [iv 0, iv 0] 57)] w ∧ slave_line_stepped_k4 l p_3 z_2 n = some out) ?_ ?_)))
   ·skip
    refine seq (region (step hF (Y.fieldAddr fo_57_1 hF rfl) rfl fun a hF => step hF (Y.load1L 2 sz_3 hF rfl hS rfl rfl) rfl fun a hF => step hF (Y.fieldAddr fo_49_2 hF rfl) rfl fun a hF => step hF (Y.load1L 3 sz_3 hF rfl hS rfl rfl) rfl fun a hF => step hF (Y.eql hF rfl rfl) rfl fun a hF => nT (cond_b hF rfl (fun hbv_1 => ?_) (fun hbv_1 => ?_))))
    ·replace h := cond_t h hbv_1
     refine region (step hF (Y.move hF rfl) rfl fun a hF => step hF (Y.sub hF rfl rfl) rfl fun a hF => step hF (Y.assign hF rfl) rfl fun a hF => nT (⟨(wr (p_3.Send - 1)), hF.weak (AF rfl), hS.weak (AL rfl), h⟩))
    replace h := cond_f h hbv_1
    refine skip_ (then_n (⟨p_3.Send, hF.weak (AF rfl), hS.weak (AL rfl), h⟩))
   rintro a w ⟨n, hF, hS, h⟩
   unfold slave_line_stepped_k4 at h
   refine seq (region (step hF (Y.fieldAddr fo_57_0 hF rfl) rfl fun a hF => step hF (Y.load1L 2 sz_3 hF rfl hS rfl rfl) rfl fun a hF => step hF (Y.move hF rfl) rfl fun a hF => step hF (Y.add hF rfl rfl) rfl fun a hF => step hF (Y.fieldAddr fo_103_0 hF rfl) rfl fun a hF => step hF (Y.fieldAddr fo_25_0 hF rfl) rfl fun a hF => step hF (Y.load1L 1 sz_3 hF rfl hS rfl rfl) rfl fun a hF => ?_))
   obtain ⟨hg, h⟩ := ite_some h
   refine step hF (Y.rem hF rfl rfl hg) rfl fun a hF => step hF (Y.fieldAddr fo_57_0 hF rfl) rfl fun a hF => O.store (us := [iv (Int.tmod (wr (z_2 + n)) l.SlaveLine.Ring)]) 2 sz_3 hF rfl rfl rfl rfl hS rfl rfl fun a w hF hS => nT (region (step hF (Y.fieldAddr fo_49_2 hF rfl) rfl fun a hF => step hF (Y.load1L 3 sz_3 hF rfl hS rfl rfl) rfl fun a hF => step hF (Y.fieldAddr fo_49_3 hF rfl) rfl fun a hF => step hF (Y.load1L 3 sz_3 hF rfl hS rfl rfl) rfl fun a hF => step hF (Y.add hF rfl rfl) rfl fun a hF => step hF (Y.sub hF rfl rfl) rfl fun a hF => step hF (Y.rem hF rfl rfl (by decide)) rfl fun a hF => step hF (Y.fieldAddr fo_57_1 hF rfl) rfl fun a hF => O.store (us := [iv (Int.tmod (wr ((wr (p_3.First + p_3.Send)) - 1)) 2)]) 2 sz_3 hF rfl rfl rfl rfl hS rfl rfl fun a w hF hS => nT (⟨(Int.tmod (wr (z_2 + n)) l.SlaveLine.Ring), (Int.tmod (wr ((wr (p_3.First + p_3.Send)) - 1)) 2), hF.weak ⟨rfl, rfl, trivial⟩, hS.weak (AL rfl), h⟩)))
  replace h := cond_f h hbv
  refine skip_ (then_n (⟨z_2, z_1, hF.weak ⟨rfl, rfl, trivial⟩, hS.weak (AL rfl), h⟩))
 rintro a w ⟨z_3, z_4, hF, hS, h⟩
 unfold slave_line_stepped_k3 at h
 refine seq (region (step hF (Y.loadNL 2 sz_57 hF rfl hS rfl rfl rfl) rfl fun a hF => O.store (us := [iv z_3, iv z_4]) 4 sz_57 hF rfl rfl rfl rfl hS rfl rfl fun a w hF hS => nT (ret_ ?_)))
 obtain rfl := some_inj h
 exact leaveP Tryd.results91 hF hS (.cons (.cellN 4 sz_57 rfl rfl rfl) .nil) .nil rfl
noncomputable def slave_setter_sets_b1 (xv : slave_setter) (p_4 : SlavePlan) : (Bool × Int) → Option ((Bool × Int) ⊕ Bool)
 | (v4_0, v10_0) =>
  cond (decide (v10_0 < (xv.states.length : Int)))
  ((idx xv.states v10_0).bind fun e =>
  (slave_line_stepped xv.line e p_4).bind fun rv =>
  cond (rv.Shown != xv.minute)
  (ext (some false))
  (nxt (v4_0, wr (v10_0 + 1))))
  (ext (some true))
noncomputable def slave_setter_sets (xv : slave_setter) (p_4 : SlavePlan) : Option Bool :=
  loopU (slave_setter_sets_b1 xv p_4) (false, 0)
theorem slave_setter_sets_ok {w0 : World} {D0 : Stab} (hD : D0.on w0) (xv : slave_setter) (p_4 : SlavePlan) {p : Option Addr} {c : Nat} {p_1 : Option Addr} {c_1 : Nat} {p_2 : Option Addr} {c_2 : Nat} {p_3 : Option Addr} {c_3 : Nat} (hs : SRc C_SlaveStart D0 xv.line.SlaveLine.Starts p c) (hs_1 : SRc C_SlaveEvent D0 xv.line.SlaveLine.Events p_1 c_1) (hs_2 : SRc C_int D0 xv.line.without p_2 c_2) (hs_3 : SRc C_SlaveStart D0 xv.states p_3 c_3) (out : Bool) (h : slave_setter_sets xv p_4 = some out) : Calls Tryd.prog 77 [.agg #[iv xv.line.SlaveLine.Ring, .slice p xv.line.SlaveLine.Starts.length c, .slice p_1 xv.line.SlaveLine.Events.length c_1, .slice p_2 xv.line.without.length c_2, .slice p_3 xv.states.length c_3, iv xv.minute], .agg #[iv p_4.Pre, iv p_4.Home, iv p_4.First, iv p_4.Send]].toArray w0 (RetP D0 w0 (.bool out)) := by
 refine enter _ 24 Tryd.func77 rfl Tryd.ntmps77 rfl fun a hF => ?_
 replace hF : Frm 24 [] [(0, .agg #[iv xv.line.SlaveLine.Ring, .slice p xv.line.SlaveLine.Starts.length c, .slice p_1 xv.line.SlaveLine.Events.length c_1, .slice p_2 xv.line.without.length c_2, .slice p_3 xv.states.length c_3, iv xv.minute]), (1, .agg #[iv p_4.Pre, iv p_4.Home, iv p_4.First, iv p_4.Send])] a := hF
 have hS := St.start hD
 unfold slave_setter_sets at h
 refine seq (region (O.box (cs := [iv xv.line.SlaveLine.Ring, .slice p xv.line.SlaveLine.Starts.length c, .slice p_1 xv.line.SlaveLine.Events.length c_1, .slice p_2 xv.line.without.length c_2, .slice p_3 xv.states.length c_3, iv xv.minute]) 1 hF rfl rfl hS rfl fun b a w hF hS => O.box (cs := [iv p_4.Pre, iv p_4.Home, iv p_4.First, iv p_4.Send]) 2 hF rfl rfl hS rfl fun b_1 a w hF hS => step hF (Y.assign hF rfl) rfl fun a hF => nT (seq (seq (region (step hF (Y.fieldAddr fo_116_1 hF rfl) rfl fun a hF => step hF (Y.load1L 1 sz_22 hF rfl hS rfl rfl) rfl fun a hF => step hF (Y.lenSl u_22 hF rfl) rfl fun a hF => step hF (Y.move hF rfl) rfl fun a hF => nT (block (loop_cut (body := slave_setter_sets_b1 xv p_4) (out := out) (fun s a w => ∃ (v4_0 : Bool) (v10_0 : Int), ∃ (Dv : Stab), s = (v4_0, v10_0) ∧ D0.le Dv ∧ Frm 24 [] [(2, .pointer (some ⟨b, 0, none⟩)), (3, .pointer (some ⟨b_1, 0, none⟩)), (4, .bool v4_0), (8, .slice p_3 xv.states.length c_3), (9, iv (xv.states.length : Int)), (10, iv v10_0)] a ∧ St w0 D0 Dv [(1, .cells b [iv xv.line.SlaveLine.Ring, .slice p xv.line.SlaveLine.Starts.length c, .slice p_1 xv.line.SlaveLine.Events.length c_1, .slice p_2 xv.line.without.length c_2, .slice p_3 xv.states.length c_3, iv xv.minute] 116), (2, .cells b_1 [iv p_4.Pre, iv p_4.Home, iv p_4.First, iv p_4.Send] 49)] w) (false, 0) h ⟨false, 0, D0, rfl, Stab.le.refl _, hF.weak (AF rfl), hS.weak ⟨rfl, rfl, trivial⟩⟩ ?_))))))))
 rintro s a w xo ⟨v4_0, v10_0, Dv, rfl, hlev, hF, hS⟩ h hxo
 unfold slave_setter_sets_b1 at h
 dsimp only at h
 replace hs := hs.mono hlev
 replace hs_1 := hs_1.mono hlev
 replace hs_2 := hs_2.mono hlev
 replace hs_3 := hs_3.mono hlev
 refine seq (region (step hF (Y.lss hF rfl rfl) rfl fun a hF => nT (seq (cond_b hF rfl (fun hbv => ?_) (fun hbv => ?_)))))
 ·replace h := cond_t h hbv
  refine skip_ (then_n (seq (block (seq (region ?_)))))
  obtain ⟨e, hx, h⟩ := bind_some h
  obtain ⟨b_2, o, hE, hY⟩ := Y.indexS (P := Tryd.prog) (C := C_SlaveStart) (xs := xv.states) (T := 22) (x := (.tmp 8)) (y := (.tmp 10)) u_22 sz_57 hF rfl rfl (hs_3).1 hx
  obtain ⟨cc, hc, hcell⟩ := hE.open
  obtain rfl := C_SlaveStart.open hc
  refine step hF (hY) rfl fun a hF => step hF (Y.loadNE (o := o) (k := 0) sz_57 hF rfl (hcell _ hS.stab) rfl rfl) rfl fun a hF => O.alloc 3 zc_57 hF hS rfl fun b_3 a w hF hS => O.store (us := [iv e.Shown, iv e.Last]) 3 sz_57 hF rfl rfl rfl rfl hS rfl rfl fun a w hF hS => nT (seq ?_)
  obtain ⟨rv, hx_1, h⟩ := bind_some h
  refine drawsV 8 (.flt 0 (.flt 1 (.flt 2 (.flt 3 (.flt 6 (.flt 7 (.alt 4 (.flt 5 .done) .stop))))))) mixed_ (by kernel_rfl) (fun w => St w0 D0 Dv [(1, .cells b [iv xv.line.SlaveLine.Ring, .slice p xv.line.SlaveLine.Starts.length c, .slice p_1 xv.line.SlaveLine.Events.length c_1, .slice p_2 xv.line.without.length c_2, .slice p_3 xv.states.length c_3, iv xv.minute] 116), (2, .cells b_1 [iv p_4.Pre, iv p_4.Home, iv p_4.First, iv p_4.Send] 49), (3, .cells b_3 [iv e.Shown, iv e.Last] 57)] w) (fun a w => Frm 24 [] [(2, .pointer (some ⟨b, 0, none⟩)), (3, .pointer (some ⟨b_1, 0, none⟩)), (4, .bool v4_0), (8, .slice p_3 xv.states.length c_3), (9, iv (xv.states.length : Int)), (10, iv v10_0), (19, iv rv.Shown), (21, iv xv.minute)] a ∧ St w0 D0 Dv [(1, .cells b [iv xv.line.SlaveLine.Ring, .slice p xv.line.SlaveLine.Starts.length c, .slice p_1 xv.line.SlaveLine.Events.length c_1, .slice p_2 xv.line.without.length c_2, .slice p_3 xv.states.length c_3, iv xv.minute] 116), (2, .cells b_1 [iv p_4.Pre, iv p_4.Home, iv p_4.First, iv p_4.Send] 49), (3, .cells b_3 [iv e.Shown, iv e.Last] 57)] w) (hS.weak (ms := [(1, .cells b [iv xv.line.SlaveLine.Ring, .slice p xv.line.SlaveLine.Starts.length c, .slice p_1 xv.line.SlaveLine.Events.length c_1, .slice p_2 xv.line.without.length c_2, .slice p_3 xv.states.length c_3, iv xv.minute] 116), (2, .cells b_1 [iv p_4.Pre, iv p_4.Home, iv p_4.First, iv p_4.Send] 49), (3, .cells b_3 [iv e.Shown, iv e.Last] 57)]) (AL rfl)).drew (fun _ _ _ _ h => h) ?_ ?_
  ·replace hS := hS.drew
   have hle0 := hS.le
   refine stepV (i := 0) rfl hF (fun w hS => Y.fieldAddr fo_116_0 hF rfl) rfl fun a hF => stepV (i := 1) rfl hF (fun w hS => Y.loadNL 1 sz_103 hF rfl hS rfl rfl rfl) rfl fun a hF => stepV (i := 2) rfl hF (fun w hS => Y.loadNL 3 sz_57 hF rfl hS rfl rfl rfl) rfl fun a hF => stepV (i := 3) rfl hF (fun w hS => Y.loadNL 2 sz_49 hF rfl hS rfl rfl rfl) rfl fun a hF => stepV (i := 6) rfl hF (fun w hS => Y.fieldAddr fo_116_2 hF rfl) rfl fun a hF => stepV (i := 7) rfl hF (fun w hS => Y.load1L 1 sz_3 hF rfl hS rfl rfl) rfl fun a hF => oneV (i := 4) rfl ?_ trivial
   refine O.callP (us := [.agg #[iv xv.line.SlaveLine.Ring, .slice p xv.line.SlaveLine.Starts.length c, .slice p_1 xv.line.SlaveLine.Events.length c_1, .slice p_2 xv.line.without.length c_2], .agg #[iv e.Shown, iv e.Last], .agg #[iv p_4.Pre, iv p_4.Home, iv p_4.First, iv p_4.Send]]) ca_91 hF hS (slave_line_stepped_ok hS.stab xv.line e p_4 hs hs_1 hs_2 rv hx_1) rfl rfl fun a w hF hS => nT ⟨hS.weak (AL rfl), ?_⟩
   refine stepV (i := 5) rfl hF (fun w hS => Y.field1 fT_57_0 hF rfl rfl) rfl fun a hF => toTailV ⟨hF.weak (AF rfl), hS.weak (AL rfl)⟩
  rintro a w ⟨hF, hS⟩
  refine step hF (Y.neq hF rfl rfl) rfl fun a hF => nT (cond_b hF rfl (fun hbv_1 => ?_) (fun hbv_1 => ?_))
  ·replace h := cond_t h hbv_1
   refine seq (region (step hF (Y.assign hF rfl) rfl fun a hF => nT (ret_ (blk_r (then_r (then_r (blk_r (then_r ?_))))))))
   replace h := ext_some h hxo
   obtain rfl := some_inj h
   exact leaveP Tryd.results77 hF hS (.cons (.tmp rfl) .nil) .nil rfl
  replace h := cond_f h hbv_1
  refine skip_ (blk_n (then_n (region (step hF (Y.add hF rfl rfl) rfl fun a hF => step hF (Y.move hF rfl) rfl fun a hF => nT (⟨_, nxt_some h, v4_0, (wr (v10_0 + 1)), Dv, rfl, hlev, hF.weak (AF rfl), hS.weak ⟨rfl, rfl, trivial⟩⟩)))))
 replace h := cond_f h hbv
 refine exit_ (then_x (then_x (blk_hit (then_n ?_))))
 replace h := ext_some h hxo
 refine seq (region (step hF (Y.assign hF rfl) rfl fun a hF => nT (ret_ ?_)))
 obtain rfl := some_inj h
 exact leaveP Tryd.results77 hF hS (.cons (.tmp rfl) .nil) .nil rfl
noncomputable def slave_states_b2 (v2_0 : (List SlaveStart)) (v3_0 : Int) (v12_0 : Int) : ((List SlaveStart) × (List (SlaveStart × slave_way))) → ND (((List SlaveStart) × (List (SlaveStart × slave_way))) ⊕ (((List SlaveStart) × Int × (List SlaveStart) × Int) ⊕ ((List SlaveStart) × Int)))
 | (outv_1, left) =>
  (ND.pickE left
  (next_ (nnxt (v2_0, v3_0, outv_1, wr (v12_0 + 1))))
  (fun kv left_1 => (ND.grd (outv_1.length + ([kv.1]).length ≤ lim) (
  nnxt ((outv_1 ++ [kv.1]), left_1)))))
noncomputable def slave_states_b1 (xv : SlaveLine) : ((List SlaveStart) × Int × (List SlaveStart) × Int) → ND (((List SlaveStart) × Int × (List SlaveStart) × Int) ⊕ ((List SlaveStart) × Int))
 | (v2_0, v3_0, outv, v12_0) =>
  cond (decide (v12_0 < (xv.Starts.length : Int)))
  ((ND.bnd (slave_asked xv v12_0) fun rv =>
  cond (rv.2 != 0)
  (next_ (ND.ret (([] : List SlaveStart), rv.2)))
  (loopN (slave_states_b2 v2_0 v3_0 v12_0) (outv, rv.1))))
  (next_ (ND.ret (outv, 0)))
noncomputable def slave_states (xv : SlaveLine) : ND ((List SlaveStart) × Int) :=
  loopN (slave_states_b1 xv) (([] : List SlaveStart), 0, ([] : List SlaveStart), 0)
theorem slave_states_ok {w0 : World} {D0 : Stab} (hD : D0.on w0) (xv : SlaveLine) {p : Option Addr} {c : Nat} {p_1 : Option Addr} {c_1 : Nat} (hs : SRc C_SlaveStart D0 xv.Starts p c) (hs_1 : SRc C_SlaveEvent D0 xv.Events p_1 c_1) (hG : Glob D0) (out : ((List SlaveStart) × Int) → Prop) (h : slave_states xv out) : Calls Tryd.prog 90 [.agg #[iv xv.Ring, .slice p xv.Starts.length c, .slice p_1 xv.Events.length c_1]].toArray w0 (RetSN D0 w0 out fun (out : ((List SlaveStart) × Int)) D v => ∃ p_8 c_8, v = .tuple #[.slice p_8 out.1.length c_8, iv out.2] ∧ SRc C_SlaveStart D out.1 p_8 c_8) := by
 refine enter _ 36 Tryd.func90 rfl Tryd.ntmps90 rfl fun a hF => ?_
 replace hF : Frm 36 [] [(0, .agg #[iv xv.Ring, .slice p xv.Starts.length c, .slice p_1 xv.Events.length c_1])] a := hF
 have hS := St.start hD
 unfold slave_states at h
 refine seq (region (O.box (cs := [iv xv.Ring, .slice p xv.Starts.length c, .slice p_1 xv.Events.length c_1]) 1 hF rfl rfl hS rfl fun b a w hF hS => step hF (Y.assign hF rfl) rfl fun a hF => step hF (Y.assign hF rfl) rfl fun a hF => nT (seq (region (step hF (Y.assign hF rfl) rfl fun a hF => ?_)))))
 replace hS := hS.ownNil 2 57 2
 refine nT (seq (seq (region (step hF (Y.fieldAddr fo_25_1 hF rfl) rfl fun a hF => step hF (Y.load1L 1 sz_22 hF rfl hS rfl rfl) rfl fun a hF => step hF (Y.lenSl u_22 hF rfl) rfl fun a hF => step hF (Y.move hF rfl) rfl fun a hF => nT (block (loop_cutN (body := slave_states_b1 xv) (out := out) (fun s a w => ∃ (v2_0 : (List SlaveStart)) (v3_0 : Int) (outv : (List SlaveStart)) (v12_0 : Int), ∃ (Dv : Stab), ∃ p_2 c_2 p_3 c_3 cs, s = (v2_0, v3_0, outv, v12_0) ∧ D0.le Dv ∧ Frm 36 [] [(1, .pointer (some ⟨b, 0, none⟩)), (2, .slice p_2 v2_0.length c_2), (3, iv v3_0), (4, .slice p_3 outv.length c_3), (11, iv (xv.Starts.length : Int)), (12, iv v12_0)] a ∧ St w0 D0 Dv [(1, .cells b [iv xv.Ring, .slice p xv.Starts.length c, .slice p_1 xv.Events.length c_1] 25), (2, .own p_3 outv.length c_3 cs 57 2)] w ∧ SRc C_SlaveStart Dv v2_0 p_2 c_2 ∧ Reps C_SlaveStart Dv outv cs) (([] : List SlaveStart), 0, ([] : List SlaveStart), 0) h ⟨([] : List SlaveStart), 0, ([] : List SlaveStart), 0, D0, none, 0, none, 0, ([]), rfl, Stab.le.refl _, hF.weak (AF rfl), hS.weak ⟨rfl, rfl, trivial⟩, SRc.nil, Reps.nil⟩ ?_))))))
 rintro s a w xo ⟨v2_0, v3_0, outv, v12_0, Dv, p_2, c_2, p_3, c_3, cs, rfl, hlev, hF, hS, hs_2, hr⟩ h
 unfold slave_states_b1 at h
 try dsimp only at h
 replace hs := hs.mono hlev
 replace hs_1 := hs_1.mono hlev
 replace hG := hG.mono hlev
 refine seq (region (step hF (Y.lss hF rfl rfl) rfl fun a hF => nT (seq (cond_b hF rfl (fun hbv => ?_) (fun hbv => ?_)))))
 ·replace h := ncond_t h hbv
  refine skip_ (then_n (seq (block (seq (region (step hF (Y.move hF rfl) rfl fun a hF => step hF (Y.assign hF rfl) rfl fun a hF => nT (seq (region (step hF (Y.loadNL 1 sz_25 hF rfl hS rfl rfl rfl) rfl fun a hF => step hF (Y.move hF rfl) rfl fun a hF => ?_)))))))))
  obtain ⟨KQ, hx, hk⟩ := nbnd_ex h
  refine O.callSN (us := [.agg #[iv xv.Ring, .slice p xv.Starts.length c, .slice p_1 xv.Events.length c_1], iv v12_0]) ca_56 hF hS (slave_asked_ok hS.stab xv v12_0 hs hs_1 hG KQ hx) rfl rfl fun rv h v Dv_1 a w hR hlev_1 hF hS => ?_
  replace h := hk _ h
  replace hs_2 := hs_2.mono hlev_1
  replace hr := hr.mono hlev_1
  obtain ⟨bm, rfl, hm⟩ := hR
  refine step hF (Y.move hF rfl) rfl fun a hF => step hF (Y.extract hF rfl rfl) rfl fun a hF => step hF (Y.extract hF rfl rfl) rfl fun a hF => step hF (Y.assign hF rfl) rfl fun a hF => step hF (Y.assign hF rfl) rfl fun a hF => nT (seq (seq (region (step hF (Y.move hF rfl) rfl fun a hF => step hF (Y.neq hF rfl rfl) rfl fun a hF => nT (cond_b hF rfl (fun hbv_1 => ?_) (fun hbv_1 => ?_))))))
  ·replace h := ncond_t h hbv_1
   refine seq (region (step hF (Y.move hF rfl) rfl fun a hF => step hF (Y.assign hF rfl) rfl fun a hF => step hF (Y.assign hF rfl) rfl fun a hF => nT (ret_ (then_r (blk_r (then_r (then_r (blk_r (then_r ?_)))))))))
   replace h := next_h h
   exact leaveSN _ (nret h) Tryd.results90 hF hS (.cons (.tmp rfl) (.cons (.tmp rfl) .nil)) .nil ⟨_, _, rfl, SRc.nil⟩
  replace h := ncond_f h hbv_1
  refine skip_ (then_n (seq (region (step hF (Y.move hF rfl) rfl fun a hF => O.rangeM (kl := kl_57) (C := C_slave_way) (agg := true) 3 u_85 hm hF rfl hS rfl fun b_1 oi a w hF hS hI => nT (block (loop_cutN (body := slave_states_b2 v2_0 v3_0 v12_0) (out := (nlp xo out)) (fun s a w => ∃ (outv_1 : (List SlaveStart)) (left : (List (SlaveStart × slave_way))), ∃ p_4 c_4 cs_1 oi_1, s = (outv_1, left) ∧ Frm 36 [] [(1, .pointer (some ⟨b, 0, none⟩)), (2, .slice p_2 v2_0.length c_2), (3, iv v3_0), (4, .slice p_4 outv_1.length c_4), (11, iv (xv.Starts.length : Int)), (12, iv v12_0), (25, .pointer (some ⟨b_1, 0, none⟩))] a ∧ St w0 D0 Dv_1 [(1, .cells b [iv xv.Ring, .slice p xv.Starts.length c, .slice p_1 xv.Events.length c_1] 25), (2, .own p_4 outv_1.length c_4 cs_1 57 2), (3, .obj b_1 oi_1)] w ∧ Reps C_SlaveStart Dv_1 outv_1 cs_1 ∧ IterB kl_57 C_slave_way true Dv_1 left oi_1) (outv, rv.1) h ⟨outv, rv.1, p_3, c_3, cs, oi, rfl, hF.weak (AF rfl), hS.weak (AL rfl), hr, hI⟩ ?_))))))
  rintro s a w xo_1 ⟨outv_1, left, p_4, c_4, cs_1, oi_1, rfl, hF, hS, hr_1, hI_1⟩ h
  unfold slave_states_b2 at h
  try dsimp only at h
  refine seq (region (O.nextM 3 hF rfl hS rfl hI_1 rfl (fun hnil a hF => ?_) (fun kv left_1 hpk oi_2 ru rv_1 a w hst hF hS => ?_)))
  ·replace h := npickz h hnil
   refine step hF (Y.extract hF rfl rfl) rfl fun a hF => nT (seq (cond_b hF rfl (fun hb => by cases hb) (fun hb => exit_ (then_x (then_x (blk_hit (blk_n (then_n ?_))))))))
   replace h := next_h h
   refine region (step hF (Y.add hF rfl rfl) rfl fun a hF => step hF (Y.move hF rfl) rfl fun a hF => nT (⟨_, nnxt_h h, v2_0, v3_0, outv_1, (wr (v12_0 + 1)), Dv_1, p_2, c_2, p_4, c_4, cs_1, rfl, hlev.trans hlev_1, hF.weak (AF rfl), hS.weak ⟨rfl, rfl, trivial⟩, hs_2, hr_1⟩))
  replace h := npick1 h hpk
  refine step hF (Y.extract hF rfl rfl) rfl fun a hF => nT (seq (cond_b hF rfl (fun hb => ?_) (fun hb => by cases hb)))
  refine skip_ (then_n (block (seq (region ?_))))
  obtain ⟨cc, hc, hY⟩ := Y.entryM (P := Tryd.prog) (x := (.tmp 25)) 3 hst hF rfl (lkOf hS rfl)
  obtain ⟨p_5, c_5, rfl, hs_3⟩ := C_slave_way.open hc
  refine step hF ((show Yields _ _ _ _ (.tuple #[.agg #[iv kv.1.Shown, iv kv.1.Last], .agg #[iv kv.2.lost.Low, iv kv.2.lost.High, .slice p_5 kv.2.story.length c_5]]) from hY hS)) rfl fun a hF => step hF (Y.extract hF rfl rfl) rfl fun a hF => O.alloc 4 zc_57 hF hS rfl fun b_2 a w hF hS => O.store (us := [iv kv.1.Shown, iv kv.1.Last]) 4 sz_57 hF rfl rfl rfl rfl hS rfl rfl fun a w hF hS => nT (region (step hF (Y.move hF rfl) rfl fun a hF => step hF (Y.loadNL 4 sz_57 hF rfl hS rfl rfl rfl) rfl fun a hF => ?_))
  have hr_2 : Reps C_SlaveStart Dv_1 [kv.1] [iv kv.1.Shown, iv kv.1.Last] := Reps.cons (C := C_SlaveStart) (x := kv.1) (c := [iv kv.1.Shown, iv kv.1.Last]) (r := []) rfl (Reps.nil)
  refine O.buildSlice (E := 57) (C := C_SlaveStart) (xs := [kv.1]) (cs := [iv kv.1.Shown, iv kv.1.Last]) (us := [.agg #[iv kv.1.Shown, iv kv.1.Last]]) (parts := [(0, (.tmp 31))]) 5 hF hS rfl (by kernel_rfl) hr_2 rfl rfl rfl fun p_6 c_6 a w hF hS => ?_
  obtain ⟨hg, h⟩ := ngrd h
  refine O.append (C := C_SlaveStart) (xs := outv_1) (ys := [kv.1]) 2 gr_22 hF rfl rfl hS rfl (src_own (i := 5) hS rfl) hr_1 hr_2 hg rfl fun p_7 c_7 a w hF hS hr_3 => step hF (Y.assign hF rfl) rfl fun a hF => nil (blk_n (then_n (⟨_, nnxt_h h, (outv_1 ++ [kv.1]), left_1, p_7, c_7, (cs_1 ++ [iv kv.1.Shown, iv kv.1.Last]), oi_2, rfl, hF.weak (AF rfl), hS.weak (AL rfl), hr_3, hst.it⟩)))
 replace h := ncond_f h hbv
 refine exit_ (then_x (then_x (blk_hit (then_n ?_))))
 replace h := next_h h
 refine seq (region (step hF (Y.move hF rfl) rfl fun a hF => step hF (Y.assign hF rfl) rfl fun a hF => step hF (Y.assign hF rfl) rfl fun a hF => nT (ret_ ?_)))
 obtain ⟨Dv_2, hlev_2, hs_4, hS⟩ := hS.freezeC (C := C_SlaveStart) (i := 2) (xs := outv) rfl hr
 exact leaveSN _ (nret h) Tryd.results90 hF hS (.cons (.tmp rfl) (.cons (.tmp rfl) .nil)) .nil ⟨_, _, rfl, hs_4⟩
noncomputable def slave_opened (xv : SlaveLine) (minute : Int) (ok : Bool) : ND (slave_setter × Int) :=
  (ND.det (slave_Check xv) fun rv =>
  cond (rv != 0)
  (ND.ret ((slave_setter.mk (slave_line.mk (SlaveLine.mk 0 ([] : List SlaveStart) ([] : List SlaveEvent)) ([] : List Int)) ([] : List SlaveStart) 0), rv))
  (cond (!ok)
  (ND.ret ((slave_setter.mk (slave_line.mk (SlaveLine.mk 0 ([] : List SlaveStart) ([] : List SlaveEvent)) ([] : List Int)) ([] : List SlaveStart) 0), 71))
  ((ND.bnd (slave_states xv) fun rv_1 =>
  ND.ret ((slave_setter.mk (slave_line.mk xv ([] : List Int)) rv_1.1 minute), rv_1.2)))))
theorem slave_opened_ok {w0 : World} {D0 : Stab} (hD : D0.on w0) (xv : SlaveLine) (minute : Int) (ok : Bool) {p : Option Addr} {c : Nat} {p_1 : Option Addr} {c_1 : Nat} (hs : SRc C_SlaveStart D0 xv.Starts p c) (hs_1 : SRc C_SlaveEvent D0 xv.Events p_1 c_1) (hG : Glob D0) (out : (slave_setter × Int) → Prop) (h : slave_opened xv minute ok out) : Calls Tryd.prog 74 [.agg #[iv xv.Ring, .slice p xv.Starts.length c, .slice p_1 xv.Events.length c_1], iv minute, .bool ok].toArray w0 (RetSN D0 w0 out fun (out : (slave_setter × Int)) D v => ∃ p_3 c_3 p_4 c_4 p_5 c_5 p_6 c_6, v = .tuple #[.agg #[iv out.1.line.SlaveLine.Ring, .slice p_3 out.1.line.SlaveLine.Starts.length c_3, .slice p_4 out.1.line.SlaveLine.Events.length c_4, .slice p_5 out.1.line.without.length c_5, .slice p_6 out.1.states.length c_6, iv out.1.minute], iv out.2] ∧ SRc C_SlaveStart D out.1.line.SlaveLine.Starts p_3 c_3 ∧ SRc C_SlaveEvent D out.1.line.SlaveLine.Events p_4 c_4 ∧ SRc C_int D out.1.line.without p_5 c_5 ∧ SRc C_SlaveStart D out.1.states p_6 c_6) := by
 refine enter _ 31 Tryd.func74 rfl Tryd.ntmps74 rfl fun a hF => ?_
 replace hF : Frm 31 [] [(0, .agg #[iv xv.Ring, .slice p xv.Starts.length c, .slice p_1 xv.Events.length c_1]), (1, iv minute), (2, .bool ok)] a := hF
 have hS := St.start hD
 unfold slave_opened at h
 refine seq (region (O.box (cs := [iv xv.Ring, .slice p xv.Starts.length c, .slice p_1 xv.Events.length c_1]) 1 hF rfl rfl hS rfl fun b a w hF hS => O.alloc 2 zc_116 hF hS rfl fun b_1 a w hF hS => step hF (Y.assign hF rfl) rfl fun a hF => nT (seq (seq (region (step hF (Y.loadNL 1 sz_25 hF rfl hS rfl rfl rfl) rfl fun a hF => ?_))))))
 obtain ⟨rv, hx, h⟩ := ndet h
 refine O.callP (us := [.agg #[iv xv.Ring, .slice p xv.Starts.length c, .slice p_1 xv.Events.length c_1]]) ca_19 hF hS (slave_Check_ok hS.stab xv hs hs_1 rv hx) rfl rfl fun a w hF hS => step hF (Y.assign hF rfl) rfl fun a hF => nT (seq (region (step hF (Y.move hF rfl) rfl fun a hF => step hF (Y.neq hF rfl rfl) rfl fun a hF => nT (cond_b hF rfl (fun hbv => ?_) (fun hbv => ?_)))))
 ·replace h := ncond_t h hbv
  refine seq (region (step hF (Y.build (parts := []) (cs := #[iv 0, .slice none 0 0, .slice none 0 0, .slice none 0 0, .slice none 0 0, iv 0]) hF rfl (by kernel_rfl)) rfl fun a hF => step hF (Y.move hF rfl) rfl fun a hF => O.store (us := [iv 0, .slice none 0 0, .slice none 0 0, .slice none 0 0, .slice none 0 0, iv 0]) 2 sz_116 hF rfl rfl rfl rfl hS rfl rfl fun a w hF hS => step hF (Y.assign hF rfl) rfl fun a hF => nT (ret_ (then_r (leaveSN _ (nret h) Tryd.results74 hF hS (.cons (.cellN 2 sz_116 rfl rfl rfl) (.cons (.tmp rfl) .nil)) .nil ⟨_, _, _, _, _, _, _, _, rfl, SRc.nil, SRc.nil, SRc.nil, SRc.nil⟩)))))
 replace h := ncond_f h hbv
 refine skip_ (then_n (seq (seq (region (step hF (Y.move hF rfl) rfl fun a hF => step hF (Y.not hF rfl) rfl fun a hF => nT (cond_b hF rfl (fun hbv_1 => ?_) (fun hbv_1 => ?_)))))))
 ·replace h := ncond_t h hbv_1
  refine seq (region (step hF (Y.build (parts := []) (cs := #[iv 0, .slice none 0 0, .slice none 0 0, .slice none 0 0, .slice none 0 0, iv 0]) hF rfl (by kernel_rfl)) rfl fun a hF => O.store (us := [iv 0, .slice none 0 0, .slice none 0 0, .slice none 0 0, .slice none 0 0, iv 0]) 2 sz_116 hF rfl rfl rfl rfl hS rfl rfl fun a w hF hS => step hF (Y.assign hF rfl) rfl fun a hF => nT (ret_ (then_r (leaveSN _ (nret h) Tryd.results74 hF hS (.cons (.cellN 2 sz_116 rfl rfl rfl) (.cons (.tmp rfl) .nil)) .nil ⟨_, _, _, _, _, _, _, _, rfl, SRc.nil, SRc.nil, SRc.nil, SRc.nil⟩)))))
 replace h := ncond_f h hbv_1
 refine skip_ (then_n (seq (region (step hF (Y.loadNL 1 sz_25 hF rfl hS rfl rfl rfl) rfl fun a hF => ?_))))
 obtain ⟨KQ, hx_1, hk⟩ := nbnd_ex h
 refine O.callSN (us := [.agg #[iv xv.Ring, .slice p xv.Starts.length c, .slice p_1 xv.Events.length c_1]]) ca_90 hF hS (slave_states_ok hS.stab xv hs hs_1 hG KQ hx_1) rfl rfl fun rv_1 h v Dv a w hR hlev hF hS => ?_
 replace h := hk _ h
 replace hs := hs.mono hlev
 replace hs_1 := hs_1.mono hlev
 obtain ⟨p_2, c_2, rfl, hs_2⟩ := hR
 refine step hF (Y.move hF rfl) rfl fun a hF => step hF (Y.extract hF rfl rfl) rfl fun a hF => step hF (Y.extract hF rfl rfl) rfl fun a hF => step hF (Y.assign hF rfl) rfl fun a hF => step hF (Y.assign hF rfl) rfl fun a hF => nT (seq (region (step hF (Y.loadNL 1 sz_25 hF rfl hS rfl rfl rfl) rfl fun a hF => step hF (Y.build (parts := [(0, (.tmp 25)), (1, (.const (.slice none 0 0)))]) (cs := #[iv xv.Ring, .slice p xv.Starts.length c, .slice p_1 xv.Events.length c_1, .slice none 0 0]) hF rfl (by kernel_rfl)) rfl fun a hF => step hF (Y.move hF rfl) rfl fun a hF => step hF (Y.move hF rfl) rfl fun a hF => step hF (Y.build (parts := [(0, (.tmp 26)), (1, (.tmp 27)), (2, (.tmp 28))]) (cs := #[iv xv.Ring, .slice p xv.Starts.length c, .slice p_1 xv.Events.length c_1, .slice none 0 0, .slice p_2 rv_1.1.length c_2, iv minute]) hF rfl (by kernel_rfl)) rfl fun a hF => step hF (Y.move hF rfl) rfl fun a hF => O.store (us := [iv xv.Ring, .slice p xv.Starts.length c, .slice p_1 xv.Events.length c_1, .slice none 0 0, .slice p_2 rv_1.1.length c_2, iv minute]) 2 sz_116 hF rfl rfl rfl rfl hS rfl rfl fun a w hF hS => step hF (Y.assign hF rfl) rfl fun a hF => nT (ret_ (leaveSN _ (nret h) Tryd.results74 hF hS (.cons (.cellN 2 sz_116 rfl rfl rfl) (.cons (.tmp rfl) .nil)) .nil ⟨_, _, _, _, _, _, _, _, rfl, hs, hs_1, SRc.nil, hs_2⟩)))))
end Go.Proofs.YtmbgmefmkjeahaaDoor.Rt
