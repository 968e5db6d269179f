/- Walks of the functions of this seat: what each Go function comes to, as a Lean function, and the proof. Part WB1. Under no conditions. -/
import Derived.Test.YtgdfljiliflhfaaGreatDoorC3WL1
set_option linter.unusedVariables false
set_option linter.unusedSimpArgs false
set_option maxRecDepth 100000
set_option maxHeartbeats 4000000
namespace Go.Proofs.YtgdfljiliflhfaaGreatDoor.Rt
open Go Go.RowKit
noncomputable def slices_IndexFunc___int_int__b1 (sv:(List Int)) (f:(Int→Option Bool)):(Int × Int)→Option ((Int × Int) ⊕ Int)
 | (v4_0,v8_0)=>
  cond (decide (v8_0 < (sv.length:Int)))
  ((idx sv v8_0).bind fun e=>
  (f e).bind fun rv=>
  cond rv
  (ext (some v8_0))
  (nxt (v4_0,wr (v8_0 + 1))))
  (ext (some (-1)))
noncomputable def slices_IndexFunc___int_int_ (sv:(List Int)) (f:(Int→Option Bool)):Option Int:=
  loopU (slices_IndexFunc___int_int__b1 sv f) (0,0)
theorem slices_IndexFunc___int_int__ok {w0:World} {D0:Stab} (hD:D0.on w0) (sv:(List Int)) (f:(Int→Option Bool)) {p:Option Addr} {c:Nat} {fid:FuncId} {first:List Value} {cap:List Value} (hs:SRc C_int D0 sv p c) (hf:FnOk_93 w0 D0 fid first cap f) (out:Int) (h:slices_IndexFunc___int_int_ sv f=some out):Calls Tryz.prog 57 [.slice p sv.length c,.func (.func fid) first.toArray cap.toArray].toArray w0 (RetP D0 w0 (iv out)):=by
 refine enter _ 19 Tryz.func57 rfl Tryz.ntmps57 rfl fun a hF=>?_
 replace hF:Frm 19 [] [(0,.slice p sv.length c),(1,.func (.func fid) first.toArray cap.toArray)] a:=hF
 have hS:=St.start hD
 unfold slices_IndexFunc___int_int_ at h
 refine seq (region (step hF (Y.assign hF rfl) rfl fun a hF=>nT (seq (seq (region (step hF (Y.move hF rfl) rfl fun a hF=>step hF (Y.lenSl u_30 hF rfl) rfl fun a hF=>step hF (Y.move hF rfl) rfl fun a hF=>nT (block (loop_cut (body:=slices_IndexFunc___int_int__b1 sv f) (out:=out) (fun s a w=>∃ (v4_0:Int) (v8_0:Int),∃ (Dv:Stab),s=(v4_0,v8_0)∧D0.le Dv∧Frm 19 [] [(0,.slice p sv.length c),(1,.func (.func fid) first.toArray cap.toArray),(4,iv v4_0),(7,iv (sv.length:Int)),(8,iv v8_0)] a∧St w0 D0 Dv [] w) (0,0) h ⟨0,0,D0,rfl,Stab.le.refl _,hF.weak (AF rfl),hS.weak trivial⟩ ?_))))))))
 rintro s a w xo ⟨v4_0,v8_0,Dv,rfl,hlev,hF,hS⟩ h hxo
 unfold slices_IndexFunc___int_int__b1 at h
 dsimp only at h
 replace hs:=hs.mono hlev
 refine seq (region (step hF (Y.lss hF rfl rfl) rfl fun a hF=>nT (seq (cond_b hF rfl (fun hbv=>?_) (fun hbv=>?_)))))
 ·replace h:=cond_t h hbv
  refine skip_ (then_n (seq (block (seq (region (step hF (Y.move hF rfl) rfl fun a hF=>step hF (Y.assign hF rfl) rfl fun a hF=>nT (seq (region (step hF (Y.move hF rfl) rfl fun a hF=>step hF (Y.move hF rfl) rfl fun a hF=>step hF (Y.move hF rfl) rfl fun a hF=>?_)))))))))
  obtain ⟨e,hx,h⟩:=bind_some h
  obtain ⟨b,o,hE,hY⟩:=Y.indexS (P:=Tryz.prog) (C:=C_int) (xs:=sv) (T:=30) (x:=(.tmp 12)) (y:=(.tmp 13)) u_30 sz_3 hF rfl rfl (hs).1 hx
  obtain ⟨cc,hc,hcell⟩:=hE.open
  obtain rfl:=hc
  refine step hF (hY) rfl fun a hF=>step hF (Y.load1 sz_3 hF rfl (hcell _ hS.stab 0 _ rfl)) rfl fun a hF=>?_
  obtain ⟨rv,hx_1,h⟩:=bind_some h
  refine O.callVP (f:=fid) (first:=first) (cap:=cap) (us:=[iv e]) hf.1 hF hS rfl rfl (hf.2 _ _ hS.below hS.le hS.stab e rv hx_1) rfl fun a w hF hS=>nT (cond_b hF rfl (fun hbv_1=>?_) (fun hbv_1=>?_))
  ·replace h:=cond_t h hbv_1
   refine seq (region (step hF (Y.move hF rfl) rfl fun a hF=>step hF (Y.assign hF rfl) rfl fun a hF=>nT (ret_ (blk_r (then_r (then_r (blk_r (then_r ?_))))))))
   replace h:=ext_some h hxo
   obtain rfl:=some_inj h
   exact leaveP Tryz.results57 hF hS (.cons (.tmp rfl) .nil) .nil rfl
  replace h:=cond_f h hbv_1
  refine skip_ (blk_n (then_n (region (step hF (Y.add hF rfl rfl) rfl fun a hF=>step hF (Y.move hF rfl) rfl fun a hF=>nT (⟨_,nxt_some h,v4_0,(wr (v8_0 + 1)),Dv,rfl,hlev,hF.weak (AF rfl),hS.weak trivial⟩)))))
 replace h:=cond_f h hbv
 refine exit_ (then_x (then_x (blk_hit (then_n ?_))))
 replace h:=ext_some h hxo
 refine seq (region (step hF (Y.assign hF rfl) rfl fun a hF=>nT (ret_ ?_)))
 obtain rfl:=some_inj h
 exact leaveP Tryz.results57 hF hS (.cons (.tmp rfl) .nil) .nil rfl
noncomputable def slices_ContainsFunc___int_int_ (sv:(List Int)) (f:(Int→Option Bool)):Option Bool:=
  (slices_IndexFunc___int_int_ sv f).bind fun rv=>
  some (decide (rv ≥ 0))
theorem slices_ContainsFunc___int_int__ok {w0:World} {D0:Stab} (hD:D0.on w0) (sv:(List Int)) (f:(Int→Option Bool)) {p:Option Addr} {c:Nat} {fid:FuncId} {first:List Value} {cap:List Value} (hs:SRc C_int D0 sv p c) (hf:FnOk_93 w0 D0 fid first cap f) (out:Bool) (h:slices_ContainsFunc___int_int_ sv f=some out):Calls Tryz.prog 32 [.slice p sv.length c,.func (.func fid) first.toArray cap.toArray].toArray w0 (RetP D0 w0 (.bool out)):=by
 refine enter _ 9 Tryz.func32 rfl Tryz.ntmps32 rfl fun a hF=>?_
 replace hF:Frm 9 [] [(0,.slice p sv.length c),(1,.func (.func fid) first.toArray cap.toArray)] a:=hF
 have hS:=St.start hD
 unfold slices_ContainsFunc___int_int_ at h
 refine seq (region (step hF (Y.assign hF rfl) rfl fun a hF=>nT (seq (region (step hF (Y.move hF rfl) rfl fun a hF=>step hF (Y.move hF rfl) rfl fun a hF=>?_)))))
 obtain ⟨rv,hx,h⟩:=bind_some h
 refine O.callP (us:=[.slice p sv.length c,.func (.func fid) first.toArray cap.toArray]) ca_57 hF hS (slices_IndexFunc___int_int__ok hS.stab sv f hs (show FnOk_93 _ _ fid first cap f from ⟨hf.1,fun w D hb hle hon=>hf.2 w D (hS.below.trans (hb.mono hS.below.size)) (hS.le.trans hle) hon⟩) rv hx) rfl rfl fun a w hF hS=>step hF (Y.geq hF rfl rfl) rfl fun a hF=>step hF (Y.assign hF rfl) rfl fun a hF=>nT (ret_ ?_)
 obtain rfl:=some_inj h
 exact leaveP Tryz.results32 hF hS (.cons (.tmp rfl) .nil) .nil rfl
noncomputable def beat_lies (n:Int) (least:Int) (most:Int):Option Bool:=
  some ((decide (least≤n)) && (decide (n≤most)))
theorem beat_lies_ok {w0:World} {D0:Stab} (hD:D0.on w0) (n:Int) (least:Int) (most:Int) (out:Bool) (h:beat_lies n least most=some out):Calls Tryz.prog 21 [iv n,iv least,iv most].toArray w0 (RetP D0 w0 (.bool out)):=by
 refine enter _ 15 Tryz.func21 rfl Tryz.ntmps21 rfl fun a hF=>?_
 replace hF:Frm 15 [] [(0,iv n),(1,iv least),(2,iv most)] a:=hF
 have hS:=St.start hD
 unfold beat_lies at h
 refine seq (region (step hF (Y.assign hF rfl) rfl fun a hF=>nT (seq (region (step hF (Y.move hF rfl) rfl fun a hF=>step hF (Y.move hF rfl) rfl fun a hF=>step hF (Y.leq hF rfl rfl) rfl fun a hF=>step hF (Y.move hF rfl) rfl fun a hF=>join (N:=15) (rs:=[]) (w0:=w0) (D0:=D0) 4 (us:=[(6,.bool false),(14,.bool ((decide (least≤n)) && (decide (n≤most))))]) (ms:=[]) (D':=D0) ?_ ?_)))))
 ·rcases bcases (decide (least≤n)) with hbv | hbv
  ·skip
   refine guard_on hF rfl rfl hbv (step hF (Y.move hF rfl) rfl fun a hF=>guard_on hF rfl rfl hbv (step hF (Y.move hF rfl) rfl fun a hF=>guard_on hF rfl rfl hbv (step hF (Y.leq hF rfl rfl) rfl fun a hF=>step hF (Y.pick_t hF rfl hbv rfl) rfl fun a hF=>nT ⟨hF.weak ⟨rfl,(by rw [hbv];rfl),trivial⟩,hS.weak trivial⟩)))
  refine guard_off hF rfl rfl hbv rfl fun a hF=>guard_off hF rfl rfl hbv rfl fun a hF=>guard_off hF rfl rfl hbv rfl fun a hF=>step hF (Y.pick_f hF rfl hbv rfl) rfl fun a hF=>nT ⟨hF.weak ⟨rfl,(by rw [hbv];rfl),trivial⟩,hS.weak trivial⟩
 intro a w hF hS
 refine step hF (Y.assign hF rfl) rfl fun a hF=>nT (ret_ ?_)
 obtain rfl:=some_inj h
 exact leaveP Tryz.results21 hF hS (.cons (.tmp rfl) .nil) .nil rfl
noncomputable def beat_isSpan (sv:Span) (most:Int):Option Bool:=
  some (((decide ((wr (0 - most))≤sv.Low)) && (decide (sv.Low≤sv.High))) && (decide (sv.High≤most)))
theorem beat_isSpan_ok {w0:World} {D0:Stab} (hD:D0.on w0) (sv:Span) (most:Int) (out:Bool) (h:beat_isSpan sv most=some out):Calls Tryz.prog 22 [.agg #[iv sv.Low,iv sv.High],iv most].toArray w0 (RetP D0 w0 (.bool out)):=by
 refine enter _ 23 Tryz.func22 rfl Tryz.ntmps22 rfl fun a hF=>?_
 replace hF:Frm 23 [] [(0,.agg #[iv sv.Low,iv sv.High]),(1,iv most)] a:=hF
 have hS:=St.start hD
 unfold beat_isSpan at h
 refine seq (region (O.box (cs:=[iv sv.Low,iv sv.High]) 1 hF rfl rfl hS rfl fun b a w hF hS=>step hF (Y.assign hF rfl) rfl fun a hF=>nT (seq (region (step hF (Y.move hF rfl) rfl fun a hF=>step hF (Y.neg hF rfl) rfl fun a hF=>step hF (Y.fieldAddr fo_27_0 hF rfl) rfl fun a hF=>step hF (Y.load1L 1 sz_3 hF rfl hS rfl rfl) rfl fun a hF=>step hF (Y.leq hF rfl rfl) rfl fun a hF=>step hF (Y.move hF rfl) rfl fun a hF=>join (N:=23) (rs:=[]) (w0:=w0) (D0:=D0) 6 (us:=[(1,iv most),(2,.pointer (some ⟨b,0,none⟩)),(4,.bool false),(16,.bool ((decide ((wr (0 - most))≤sv.Low)) && (decide (sv.Low≤sv.High))))]) (ms:=[(1,.cells b [iv sv.Low,iv sv.High] 27)]) (D':=D0) ?_ ?_)))))
 ·rcases bcases (decide ((wr (0 - most))≤sv.Low)) with hbv | hbv
  ·skip
   refine guard_on hF rfl rfl hbv (step hF (Y.fieldAddr fo_27_0 hF rfl) rfl fun a hF=>guard_on hF rfl rfl hbv (step hF (Y.load1L 1 sz_3 hF rfl hS rfl rfl) rfl fun a hF=>guard_on hF rfl rfl hbv (step hF (Y.fieldAddr fo_27_1 hF rfl) rfl fun a hF=>guard_on hF rfl rfl hbv (step hF (Y.load1L 1 sz_3 hF rfl hS rfl rfl) rfl fun a hF=>guard_on hF rfl rfl hbv (step hF (Y.leq hF rfl rfl) rfl fun a hF=>step hF (Y.pick_t hF rfl hbv rfl) rfl fun a hF=>nT ⟨hF.weak ⟨rfl,rfl,rfl,(by rw [hbv];rfl),trivial⟩,hS.weak ⟨rfl,trivial⟩⟩)))))
  refine guard_off hF rfl rfl hbv rfl fun a hF=>guard_off hF rfl rfl hbv rfl fun a hF=>guard_off hF rfl rfl hbv rfl fun a hF=>guard_off hF rfl rfl hbv rfl fun a hF=>guard_off hF rfl rfl hbv rfl fun a hF=>step hF (Y.pick_f hF rfl hbv rfl) rfl fun a hF=>nT ⟨hF.weak ⟨rfl,rfl,rfl,(by rw [hbv];rfl),trivial⟩,hS.weak ⟨rfl,trivial⟩⟩
 intro a w hF hS
 refine step hF (Y.move hF rfl) rfl fun a hF=>join (N:=23) (rs:=[]) (w0:=w0) (D0:=D0) 5 (us:=[(4,.bool false),(22,.bool (((decide ((wr (0 - most))≤sv.Low)) && (decide (sv.Low≤sv.High))) && (decide (sv.High≤most))))]) (ms:=[(1,.cells b [iv sv.Low,iv sv.High] 27)]) (D':=D0) ?_ ?_
 ·rcases bcases ((decide ((wr (0 - most))≤sv.Low)) && (decide (sv.Low≤sv.High))) with hbv_1 | hbv_1
  ·skip
   refine guard_on hF rfl rfl hbv_1 (step hF (Y.fieldAddr fo_27_1 hF rfl) rfl fun a hF=>guard_on hF rfl rfl hbv_1 (step hF (Y.load1L 1 sz_3 hF rfl hS rfl rfl) rfl fun a hF=>guard_on hF rfl rfl hbv_1 (step hF (Y.move hF rfl) rfl fun a hF=>guard_on hF rfl rfl hbv_1 (step hF (Y.leq hF rfl rfl) rfl fun a hF=>step hF (Y.pick_t hF rfl hbv_1 rfl) rfl fun a hF=>nT ⟨hF.weak ⟨rfl,(by rw [hbv_1];rfl),trivial⟩,hS.weak ⟨rfl,trivial⟩⟩))))
  refine guard_off hF rfl rfl hbv_1 rfl fun a hF=>guard_off hF rfl rfl hbv_1 rfl fun a hF=>guard_off hF rfl rfl hbv_1 rfl fun a hF=>guard_off hF rfl rfl hbv_1 rfl fun a hF=>step hF (Y.pick_f hF rfl hbv_1 rfl) rfl fun a hF=>nT ⟨hF.weak ⟨rfl,(by rw [hbv_1];rfl),trivial⟩,hS.weak ⟨rfl,trivial⟩⟩
 intro a w hF hS
 refine step hF (Y.assign hF rfl) rfl fun a hF=>nT (ret_ ?_)
 obtain rfl:=some_inj h
 exact leaveP Tryz.results22 hF hS (.cons (.tmp rfl) .nil) .nil rfl
noncomputable def beat_Check_b3 (c:BeatCellar):(Bool × Int)→Option ((Bool × Int) ⊕ Int)
 | (ok_2,v78_0)=>
  cond (decide (v78_0 < (c.Pairs.length:Int)))
  ((idx c.Pairs v78_0).bind fun e_2=>
  (cond ok_2 ((beat_lies e_2.Hour 0 c.Hours).bind fun rv_6=>
  some rv_6) (some false)).bind fun t_5=>
  (cond t_5 ((beat_lies e_2.One 0 (wr ((c.Rates.length:Int) - 1))).bind fun rv_7=>
  some rv_7) (some false)).bind fun t_6=>
  (cond t_6 ((beat_lies e_2.Other (-1) (wr ((c.Rates.length:Int) - 1))).bind fun rv_8=>
  some rv_8) (some false)).bind fun t_7=>
  (cond (t_7 && (e_2.One != e_2.Other)) ((beat_isSpan e_2.Read 200000).bind fun rv_9=>
  some rv_9) (some false)).bind fun t_8=>
  nxt (t_8,wr (v78_0 + 1)))
  (ext (cond (!ok_2)
  (some 20)
  (some 0)))
noncomputable def beat_Check_b2 (c:BeatCellar):(Bool × Int)→Option ((Bool × Int) ⊕ Int)
 | (ok_1,v47_0)=>
  cond (decide (v47_0 < (c.Opens.length:Int)))
  ((idx c.Opens v47_0).bind fun e_1=>
  (cond ok_1 ((beat_lies e_1.Clock 0 (wr ((c.Rates.length:Int) - 1))).bind fun rv_3=>
  some rv_3) (some false)).bind fun t_2=>
  (cond t_2 ((beat_lies e_1.Hour 0 (wr (c.Hours - 1))).bind fun rv_4=>
  some rv_4) (some false)).bind fun t_3=>
  (cond t_3 ((beat_isSpan e_1.Step 100000).bind fun rv_5=>
  some rv_5) (some false)).bind fun t_4=>
  nxt (t_4,wr (v47_0 + 1)))
  (ext (loopU (beat_Check_b3 c) (ok_1,0)))
noncomputable def beat_Check_b1 (c:BeatCellar):(Bool × Int)→Option ((Bool × Int) ⊕ Int)
 | (ok,v34_0)=>
  cond (decide (v34_0 < (c.Rates.length:Int)))
  ((idx c.Rates v34_0).bind fun e=>
  (cond ok ((beat_isSpan e 1000).bind fun rv_2=>
  some rv_2) (some false)).bind fun t_1=>
  nxt (t_1,wr (v34_0 + 1)))
  (ext (loopU (beat_Check_b2 c) (ok,0)))
noncomputable def beat_Check (c:BeatCellar):Option Int:=
  (beat_lies c.Hours 1 12).bind fun rv=>
  (cond rv ((beat_lies (c.Rates.length:Int) 1 5).bind fun rv_1=>
  some rv_1) (some false)).bind fun t=>
  loopU (beat_Check_b1 c) (((t && (decide ((c.Opens.length:Int)≤6))) && (decide ((c.Pairs.length:Int)≤14))),0)
theorem beat_Check_ok {w0:World} {D0:Stab} (hD:D0.on w0) (c:BeatCellar) {p:Option Addr} {c_1:Nat} {p_1:Option Addr} {c_2:Nat} {p_2:Option Addr} {c_3:Nat} (hs:SRc C_Span D0 c.Rates p c_1) (hs_1:SRc C_BeatOpen D0 c.Opens p_1 c_2) (hs_2:SRc C_BeatPair D0 c.Pairs p_2 c_3) (out:Int) (h:beat_Check c=some out):Calls Tryz.prog 5 [.agg #[iv c.Hours,.slice p c.Rates.length c_1,.slice p_1 c.Opens.length c_2,.slice p_2 c.Pairs.length c_3]].toArray w0 (RetP D0 w0 (iv out)):=by
 refine enter _ 123 Tryz.func5 rfl Tryz.ntmps5 rfl fun a hF=>?_
 replace hF:Frm 123 [] [(0,.agg #[iv c.Hours,.slice p c.Rates.length c_1,.slice p_1 c.Opens.length c_2,.slice p_2 c.Pairs.length c_3])] a:=hF
 have hS:=St.start hD
 unfold beat_Check at h
 refine seq (region (O.box (cs:=[iv c.Hours,.slice p c.Rates.length c_1,.slice p_1 c.Opens.length c_2,.slice p_2 c.Pairs.length c_3]) 1 hF rfl rfl hS rfl fun b a w hF hS=>step hF (Y.assign hF rfl) rfl fun a hF=>nT (seq (region (step hF (Y.fieldAddr fo_35_0 hF rfl) rfl fun a hF=>step hF (Y.load1L 1 sz_3 hF rfl hS rfl rfl) rfl fun a hF=>?_)))))
 obtain ⟨rv,hx,h⟩:=bind_some h
 refine O.callP (us:=[iv c.Hours,iv 1,iv 12]) ca_21 hF hS (beat_lies_ok hS.stab c.Hours 1 12 rv hx) rfl rfl fun a w hF hS=>step hF (Y.move hF rfl) rfl fun a hF=>?_
 obtain ⟨t,ht,h⟩:=bind_some h
 refine join (N:=123) (rs:=[]) (w0:=w0) (D0:=D0) 5 (us:=[(1,.pointer (some ⟨b,0,none⟩)),(2,iv 0),(18,.bool t)]) (ms:=[(1,.cells b [iv c.Hours,.slice p c.Rates.length c_1,.slice p_1 c.Opens.length c_2,.slice p_2 c.Pairs.length c_3] 35)]) (D':=D0) ?_ ?_
 ·rcases bcases rv with hbv | hbv
  ·skip
   replace h:=cond_t ht hbv
   refine guard_on hF rfl rfl hbv (step hF (Y.fieldAddr fo_35_1 hF rfl) rfl fun a hF=>guard_on hF rfl rfl hbv (step hF (Y.load1L 1 sz_31 hF rfl hS rfl rfl) rfl fun a hF=>guard_on hF rfl rfl hbv (step hF (Y.lenSl u_31 hF rfl) rfl fun a hF=>guard_on hF rfl rfl hbv ?_)))
   obtain ⟨rv_1,hx_1,h⟩:=bind_some h
   refine O.callP (us:=[iv (c.Rates.length:Int),iv 1,iv 5]) ca_21 hF hS (beat_lies_ok hS.stab (c.Rates.length:Int) 1 5 rv_1 hx_1) rfl rfl fun a w hF hS=>step hF (Y.pick_t hF rfl hbv rfl) rfl fun a hF=>?_
   obtain rfl:=some_inj h
   exact nT ⟨hF.weak (AF rfl),hS.weak ⟨rfl,trivial⟩⟩
  replace h:=cond_f ht hbv
  refine guard_off hF rfl rfl hbv rfl fun a hF=>guard_off hF rfl rfl hbv rfl fun a hF=>guard_off hF rfl rfl hbv rfl fun a hF=>guard_off hF rfl rfl hbv rfl fun a hF=>step hF (Y.pick_f hF rfl hbv rfl) rfl fun a hF=>?_
  obtain rfl:=some_inj h
  exact nT ⟨hF.weak (AF rfl),hS.weak ⟨rfl,trivial⟩⟩
 intro a w hF hS
 refine step hF (Y.move hF rfl) rfl fun a hF=>join (N:=123) (rs:=[]) (w0:=w0) (D0:=D0) 5 (us:=[(1,.pointer (some ⟨b,0,none⟩)),(2,iv 0),(24,.bool (t && (decide ((c.Opens.length:Int)≤6))))]) (ms:=[(1,.cells b [iv c.Hours,.slice p c.Rates.length c_1,.slice p_1 c.Opens.length c_2,.slice p_2 c.Pairs.length c_3] 35)]) (D':=D0) ?_ ?_
 ·rcases bcases t with hbv_1 | hbv_1
  ·skip
   refine guard_on hF rfl rfl hbv_1 (step hF (Y.fieldAddr fo_35_2 hF rfl) rfl fun a hF=>guard_on hF rfl rfl hbv_1 (step hF (Y.load1L 1 sz_32 hF rfl hS rfl rfl) rfl fun a hF=>guard_on hF rfl rfl hbv_1 (step hF (Y.lenSl u_32 hF rfl) rfl fun a hF=>guard_on hF rfl rfl hbv_1 (step hF (Y.leq hF rfl rfl) rfl fun a hF=>step hF (Y.pick_t hF rfl hbv_1 rfl) rfl fun a hF=>nT ⟨hF.weak ⟨rfl,rfl,(by rw [hbv_1];rfl),trivial⟩,hS.weak ⟨rfl,trivial⟩⟩))))
  refine guard_off hF rfl rfl hbv_1 rfl fun a hF=>guard_off hF rfl rfl hbv_1 rfl fun a hF=>guard_off hF rfl rfl hbv_1 rfl fun a hF=>guard_off hF rfl rfl hbv_1 rfl fun a hF=>step hF (Y.pick_f hF rfl hbv_1 rfl) rfl fun a hF=>nT ⟨hF.weak ⟨rfl,rfl,(by rw [hbv_1];rfl),trivial⟩,hS.weak ⟨rfl,trivial⟩⟩
 intro a w hF hS
 refine step hF (Y.move hF rfl) rfl fun a hF=>join (N:=123) (rs:=[]) (w0:=w0) (D0:=D0) 5 (us:=[(1,.pointer (some ⟨b,0,none⟩)),(2,iv 0),(30,.bool ((t && (decide ((c.Opens.length:Int)≤6))) && (decide ((c.Pairs.length:Int)≤14))))]) (ms:=[(1,.cells b [iv c.Hours,.slice p c.Rates.length c_1,.slice p_1 c.Opens.length c_2,.slice p_2 c.Pairs.length c_3] 35)]) (D':=D0) ?_ ?_
 ·rcases bcases (t && (decide ((c.Opens.length:Int)≤6))) with hbv_2 | hbv_2
  ·skip
   refine guard_on hF rfl rfl hbv_2 (step hF (Y.fieldAddr fo_35_3 hF rfl) rfl fun a hF=>guard_on hF rfl rfl hbv_2 (step hF (Y.load1L 1 sz_33 hF rfl hS rfl rfl) rfl fun a hF=>guard_on hF rfl rfl hbv_2 (step hF (Y.lenSl u_33 hF rfl) rfl fun a hF=>guard_on hF rfl rfl hbv_2 (step hF (Y.leq hF rfl rfl) rfl fun a hF=>step hF (Y.pick_t hF rfl hbv_2 rfl) rfl fun a hF=>nT ⟨hF.weak ⟨rfl,rfl,(by rw [hbv_2];rfl),trivial⟩,hS.weak ⟨rfl,trivial⟩⟩))))
  refine guard_off hF rfl rfl hbv_2 rfl fun a hF=>guard_off hF rfl rfl hbv_2 rfl fun a hF=>guard_off hF rfl rfl hbv_2 rfl fun a hF=>guard_off hF rfl rfl hbv_2 rfl fun a hF=>step hF (Y.pick_f hF rfl hbv_2 rfl) rfl fun a hF=>nT ⟨hF.weak ⟨rfl,rfl,(by rw [hbv_2];rfl),trivial⟩,hS.weak ⟨rfl,trivial⟩⟩
 intro a w hF hS
 refine step hF (Y.assign hF rfl) rfl fun a hF=>nT (seq (seq (region (step hF (Y.fieldAddr fo_35_1 hF rfl) rfl fun a hF=>step hF (Y.load1L 1 sz_31 hF rfl hS rfl rfl) rfl fun a hF=>step hF (Y.lenSl u_31 hF rfl) rfl fun a hF=>step hF (Y.move hF rfl) rfl fun a hF=>nT (block (loop_cut (body:=beat_Check_b1 c) (out:=out) (fun s a w=>∃ (ok:Bool) (v34_0:Int),s=(ok,v34_0)∧Frm 123 [] [(1,.pointer (some ⟨b,0,none⟩)),(2,iv 0),(3,.bool ok),(32,.slice p c.Rates.length c_1),(33,iv (c.Rates.length:Int)),(34,iv v34_0)] a∧St w0 D0 D0 [(1,.cells b [iv c.Hours,.slice p c.Rates.length c_1,.slice p_1 c.Opens.length c_2,.slice p_2 c.Pairs.length c_3] 35)] w) (((t && (decide ((c.Opens.length:Int)≤6))) && (decide ((c.Pairs.length:Int)≤14))),0) h ⟨((t && (decide ((c.Opens.length:Int)≤6))) && (decide ((c.Pairs.length:Int)≤14))),0,rfl,hF.weak (AF rfl),hS.weak ⟨rfl,trivial⟩⟩ ?_))))))
 rintro s a w xo ⟨ok,v34_0,rfl,hF,hS⟩ h hxo
 unfold beat_Check_b1 at h
 dsimp only at h
 refine seq (region (step hF (Y.lss hF rfl rfl) rfl fun a hF=>nT (seq (cond_b hF rfl (fun hbv_3=>?_) (fun hbv_3=>?_)))))
 ·replace h:=cond_t h hbv_3
  refine skip_ (then_n (seq (block (seq (region ?_)))))
  obtain ⟨e,hx_2,h⟩:=bind_some h
  obtain ⟨b_1,o,hE,hY⟩:=Y.indexS (P:=Tryz.prog) (C:=C_Span) (xs:=c.Rates) (T:=31) (x:=(.tmp 32)) (y:=(.tmp 34)) u_31 sz_27 hF rfl rfl (hs).1 hx_2
  obtain ⟨cc,hc,hcell⟩:=hE.open
  obtain rfl:=C_Span.open hc
  refine step hF (hY) rfl fun a hF=>step hF (Y.loadNE (o:=o) (k:=0) sz_27 hF rfl (hcell _ hS.stab) rfl rfl) rfl fun a hF=>O.alloc 2 zc_27 hF hS rfl fun b_2 a w hF hS=>O.store (us:=[iv e.Low,iv e.High]) 2 sz_27 hF rfl rfl rfl rfl hS rfl rfl fun a w hF hS=>nT (region (step hF (Y.move hF rfl) rfl fun a hF=>step hF (Y.move hF rfl) rfl fun a hF=>?_))
  obtain ⟨t_1,ht_1,h⟩:=bind_some h
  refine join (N:=123) (rs:=[]) (w0:=w0) (D0:=D0) 3 (us:=[(1,.pointer (some ⟨b,0,none⟩)),(2,iv 0),(3,.bool ok),(32,.slice p c.Rates.length c_1),(33,iv (c.Rates.length:Int)),(34,iv v34_0),(42,.bool t_1)]) (ms:=[(1,.cells b [iv c.Hours,.slice p c.Rates.length c_1,.slice p_1 c.Opens.length c_2,.slice p_2 c.Pairs.length c_3] 35),(2,.cells b_2 [iv e.Low,iv e.High] 27)]) (D':=D0) ?_ ?_
  ·rcases bcases ok with hbv_4 | hbv_4
   ·skip
    replace h:=cond_t ht_1 hbv_4
    refine guard_on hF rfl rfl hbv_4 (step hF (Y.loadNL 2 sz_27 hF rfl hS rfl rfl rfl) rfl fun a hF=>guard_on hF rfl rfl hbv_4 ?_)
    obtain ⟨rv_2,hx_3,h⟩:=bind_some h
    refine O.callP (us:=[.agg #[iv e.Low,iv e.High],iv 1000]) ca_22 hF hS (beat_isSpan_ok hS.stab e 1000 rv_2 hx_3) rfl rfl fun a w hF hS=>step hF (Y.pick_t hF rfl hbv_4 rfl) rfl fun a hF=>?_
    obtain rfl:=some_inj h
    exact nT ⟨hF.weak (AF rfl),hS.weak ⟨rfl,rfl,trivial⟩⟩
   replace h:=cond_f ht_1 hbv_4
   refine guard_off hF rfl rfl hbv_4 rfl fun a hF=>guard_off hF rfl rfl hbv_4 rfl fun a hF=>step hF (Y.pick_f hF rfl hbv_4 rfl) rfl fun a hF=>?_
   obtain rfl:=some_inj h
   exact nT ⟨hF.weak (AF rfl),hS.weak ⟨rfl,rfl,trivial⟩⟩
  intro a w hF hS
  refine step hF (Y.assign hF rfl) rfl fun a hF=>nil (blk_n (then_n (region (step hF (Y.add hF rfl rfl) rfl fun a hF=>step hF (Y.move hF rfl) rfl fun a hF=>nT (⟨_,nxt_some h,t_1,(wr (v34_0 + 1)),rfl,hF.weak (AF rfl),hS.weak ⟨rfl,trivial⟩⟩)))))
 replace h:=cond_f h hbv_3
 refine exit_ (then_x (then_x (blk_hit (then_n ?_))))
 replace h:=ext_some h hxo
 refine seq (seq (region (step hF (Y.fieldAddr fo_35_2 hF rfl) rfl fun a hF=>step hF (Y.load1L 1 sz_32 hF rfl hS rfl rfl) rfl fun a hF=>step hF (Y.lenSl u_32 hF rfl) rfl fun a hF=>step hF (Y.move hF rfl) rfl fun a hF=>nT (block (loop_cut (body:=beat_Check_b2 c) (out:=out) (fun s a w=>∃ (ok_1:Bool) (v47_0:Int),s=(ok_1,v47_0)∧Frm 123 [] [(1,.pointer (some ⟨b,0,none⟩)),(2,iv 0),(3,.bool ok_1),(45,.slice p_1 c.Opens.length c_2),(46,iv (c.Opens.length:Int)),(47,iv v47_0)] a∧St w0 D0 D0 [(1,.cells b [iv c.Hours,.slice p c.Rates.length c_1,.slice p_1 c.Opens.length c_2,.slice p_2 c.Pairs.length c_3] 35)] w) (ok,0) h ⟨ok,0,rfl,hF.weak (AF rfl),hS.weak ⟨rfl,trivial⟩⟩ ?_)))))
 rintro s a w xo_1 ⟨ok_1,v47_0,rfl,hF,hS⟩ h hxo_1
 unfold beat_Check_b2 at h
 dsimp only at h
 refine seq (region (step hF (Y.lss hF rfl rfl) rfl fun a hF=>nT (seq (cond_b hF rfl (fun hbv_5=>?_) (fun hbv_5=>?_)))))
 ·replace h:=cond_t h hbv_5
  refine skip_ (then_n (seq (block (seq (region ?_)))))
  obtain ⟨e_1,hx_4,h⟩:=bind_some h
  obtain ⟨b_3,o_1,hE_1,hY_1⟩:=Y.indexS (P:=Tryz.prog) (C:=C_BeatOpen) (xs:=c.Opens) (T:=32) (x:=(.tmp 45)) (y:=(.tmp 47)) u_32 sz_64 hF rfl rfl (hs_1).1 hx_4
  obtain ⟨cc_1,hc_1,hcell_1⟩:=hE_1.open
  obtain rfl:=C_BeatOpen.open hc_1
  refine step hF (hY_1) rfl fun a hF=>step hF (Y.loadNE (o:=o_1) (k:=0) sz_64 hF rfl (hcell_1 _ hS.stab) rfl rfl) rfl fun a hF=>O.alloc 3 zc_64 hF hS rfl fun b_4 a w hF hS=>O.store (us:=[iv e_1.Clock,iv e_1.Hour,iv e_1.Step.Low,iv e_1.Step.High]) 3 sz_64 hF rfl rfl rfl rfl hS rfl rfl fun a w hF hS=>nT (region (step hF (Y.move hF rfl) rfl fun a hF=>step hF (Y.move hF rfl) rfl fun a hF=>?_))
  obtain ⟨t_2,ht_2,h⟩:=bind_some h
  refine join (N:=123) (rs:=[]) (w0:=w0) (D0:=D0) 8 (us:=[(1,.pointer (some ⟨b,0,none⟩)),(2,iv 0),(3,.bool ok_1),(7,.pointer (some ⟨b_4,0,none⟩)),(45,.slice p_1 c.Opens.length c_2),(46,iv (c.Opens.length:Int)),(47,iv v47_0),(60,.bool t_2)]) (ms:=[(1,.cells b [iv c.Hours,.slice p c.Rates.length c_1,.slice p_1 c.Opens.length c_2,.slice p_2 c.Pairs.length c_3] 35),(3,.cells b_4 [iv e_1.Clock,iv e_1.Hour,iv e_1.Step.Low,iv e_1.Step.High] 64)]) (D':=D0) ?_ ?_
  ·rcases bcases ok_1 with hbv_6 | hbv_6
   ·skip
    replace h:=cond_t ht_2 hbv_6
    refine guard_on hF rfl rfl hbv_6 (step hF (Y.fieldAddr fo_64_0 hF rfl) rfl fun a hF=>guard_on hF rfl rfl hbv_6 (step hF (Y.load1L 3 sz_3 hF rfl hS rfl rfl) rfl fun a hF=>guard_on hF rfl rfl hbv_6 (step hF (Y.fieldAddr fo_35_1 hF rfl) rfl fun a hF=>guard_on hF rfl rfl hbv_6 (step hF (Y.load1L 1 sz_31 hF rfl hS rfl rfl) rfl fun a hF=>guard_on hF rfl rfl hbv_6 (step hF (Y.lenSl u_31 hF rfl) rfl fun a hF=>guard_on hF rfl rfl hbv_6 (step hF (Y.sub hF rfl rfl) rfl fun a hF=>guard_on hF rfl rfl hbv_6 ?_))))))
    obtain ⟨rv_3,hx_5,h⟩:=bind_some h
    refine O.callP (us:=[iv e_1.Clock,iv 0,iv (wr ((c.Rates.length:Int) - 1))]) ca_21 hF hS (beat_lies_ok hS.stab e_1.Clock 0 (wr ((c.Rates.length:Int) - 1)) rv_3 hx_5) rfl rfl fun a w hF hS=>step hF (Y.pick_t hF rfl hbv_6 rfl) rfl fun a hF=>?_
    obtain rfl:=some_inj h
    exact nT ⟨hF.weak (AF rfl),hS.weak ⟨rfl,rfl,trivial⟩⟩
   replace h:=cond_f ht_2 hbv_6
   refine guard_off hF rfl rfl hbv_6 rfl fun a hF=>guard_off hF rfl rfl hbv_6 rfl fun a hF=>guard_off hF rfl rfl hbv_6 rfl fun a hF=>guard_off hF rfl rfl hbv_6 rfl fun a hF=>guard_off hF rfl rfl hbv_6 rfl fun a hF=>guard_off hF rfl rfl hbv_6 rfl fun a hF=>guard_off hF rfl rfl hbv_6 rfl fun a hF=>step hF (Y.pick_f hF rfl hbv_6 rfl) rfl fun a hF=>?_
   obtain rfl:=some_inj h
   exact nT ⟨hF.weak (AF rfl),hS.weak ⟨rfl,rfl,trivial⟩⟩
  intro a w hF hS
  refine step hF (Y.move hF rfl) rfl fun a hF=>?_
  obtain ⟨t_3,ht_3,h⟩:=bind_some h
  refine join (N:=123) (rs:=[]) (w0:=w0) (D0:=D0) 7 (us:=[(1,.pointer (some ⟨b,0,none⟩)),(2,iv 0),(3,.bool ok_1),(7,.pointer (some ⟨b_4,0,none⟩)),(45,.slice p_1 c.Opens.length c_2),(46,iv (c.Opens.length:Int)),(47,iv v47_0),(68,.bool t_3)]) (ms:=[(1,.cells b [iv c.Hours,.slice p c.Rates.length c_1,.slice p_1 c.Opens.length c_2,.slice p_2 c.Pairs.length c_3] 35),(3,.cells b_4 [iv e_1.Clock,iv e_1.Hour,iv e_1.Step.Low,iv e_1.Step.High] 64)]) (D':=D0) ?_ ?_
  ·rcases bcases t_2 with hbv_7 | hbv_7
   ·skip
    replace h:=cond_t ht_3 hbv_7
    refine guard_on hF rfl rfl hbv_7 (step hF (Y.fieldAddr fo_64_1 hF rfl) rfl fun a hF=>guard_on hF rfl rfl hbv_7 (step hF (Y.load1L 3 sz_3 hF rfl hS rfl rfl) rfl fun a hF=>guard_on hF rfl rfl hbv_7 (step hF (Y.fieldAddr fo_35_0 hF rfl) rfl fun a hF=>guard_on hF rfl rfl hbv_7 (step hF (Y.load1L 1 sz_3 hF rfl hS rfl rfl) rfl fun a hF=>guard_on hF rfl rfl hbv_7 (step hF (Y.sub hF rfl rfl) rfl fun a hF=>guard_on hF rfl rfl hbv_7 ?_)))))
    obtain ⟨rv_4,hx_6,h⟩:=bind_some h
    refine O.callP (us:=[iv e_1.Hour,iv 0,iv (wr (c.Hours - 1))]) ca_21 hF hS (beat_lies_ok hS.stab e_1.Hour 0 (wr (c.Hours - 1)) rv_4 hx_6) rfl rfl fun a w hF hS=>step hF (Y.pick_t hF rfl hbv_7 rfl) rfl fun a hF=>?_
    obtain rfl:=some_inj h
    exact nT ⟨hF.weak (AF rfl),hS.weak ⟨rfl,rfl,trivial⟩⟩
   replace h:=cond_f ht_3 hbv_7
   refine guard_off hF rfl rfl hbv_7 rfl fun a hF=>guard_off hF rfl rfl hbv_7 rfl fun a hF=>guard_off hF rfl rfl hbv_7 rfl fun a hF=>guard_off hF rfl rfl hbv_7 rfl fun a hF=>guard_off hF rfl rfl hbv_7 rfl fun a hF=>guard_off hF rfl rfl hbv_7 rfl fun a hF=>step hF (Y.pick_f hF rfl hbv_7 rfl) rfl fun a hF=>?_
   obtain rfl:=some_inj h
   exact nT ⟨hF.weak (AF rfl),hS.weak ⟨rfl,rfl,trivial⟩⟩
  intro a w hF hS
  refine step hF (Y.move hF rfl) rfl fun a hF=>?_
  obtain ⟨t_4,ht_4,h⟩:=bind_some h
  refine join (N:=123) (rs:=[]) (w0:=w0) (D0:=D0) 4 (us:=[(1,.pointer (some ⟨b,0,none⟩)),(2,iv 0),(3,.bool ok_1),(45,.slice p_1 c.Opens.length c_2),(46,iv (c.Opens.length:Int)),(47,iv v47_0),(73,.bool t_4)]) (ms:=[(1,.cells b [iv c.Hours,.slice p c.Rates.length c_1,.slice p_1 c.Opens.length c_2,.slice p_2 c.Pairs.length c_3] 35),(3,.cells b_4 [iv e_1.Clock,iv e_1.Hour,iv e_1.Step.Low,iv e_1.Step.High] 64)]) (D':=D0) ?_ ?_
  ·rcases bcases t_3 with hbv_8 | hbv_8
   ·skip
    replace h:=cond_t ht_4 hbv_8
    refine guard_on hF rfl rfl hbv_8 (step hF (Y.fieldAddr fo_64_2 hF rfl) rfl fun a hF=>guard_on hF rfl rfl hbv_8 (step hF (Y.loadNL 3 sz_27 hF rfl hS rfl rfl rfl) rfl fun a hF=>guard_on hF rfl rfl hbv_8 ?_))
    obtain ⟨rv_5,hx_7,h⟩:=bind_some h
    refine O.callP (us:=[.agg #[iv e_1.Step.Low,iv e_1.Step.High],iv 100000]) ca_22 hF hS (beat_isSpan_ok hS.stab e_1.Step 100000 rv_5 hx_7) rfl rfl fun a w hF hS=>step hF (Y.pick_t hF rfl hbv_8 rfl) rfl fun a hF=>?_
    obtain rfl:=some_inj h
    exact nT ⟨hF.weak (AF rfl),hS.weak ⟨rfl,rfl,trivial⟩⟩
   replace h:=cond_f ht_4 hbv_8
   refine guard_off hF rfl rfl hbv_8 rfl fun a hF=>guard_off hF rfl rfl hbv_8 rfl fun a hF=>guard_off hF rfl rfl hbv_8 rfl fun a hF=>step hF (Y.pick_f hF rfl hbv_8 rfl) rfl fun a hF=>?_
   obtain rfl:=some_inj h
   exact nT ⟨hF.weak (AF rfl),hS.weak ⟨rfl,rfl,trivial⟩⟩
  intro a w hF hS
  refine step hF (Y.assign hF rfl) rfl fun a hF=>nil (blk_n (then_n (region (step hF (Y.add hF rfl rfl) rfl fun a hF=>step hF (Y.move hF rfl) rfl fun a hF=>nT (⟨_,nxt_some h,t_4,(wr (v47_0 + 1)),rfl,hF.weak (AF rfl),hS.weak ⟨rfl,trivial⟩⟩)))))
 replace h:=cond_f h hbv_5
 refine exit_ (then_x (then_x (blk_hit (then_n ?_))))
 replace h:=ext_some h hxo_1
 refine seq (seq (region (step hF (Y.fieldAddr fo_35_3 hF rfl) rfl fun a hF=>step hF (Y.load1L 1 sz_33 hF rfl hS rfl rfl) rfl fun a hF=>step hF (Y.lenSl u_33 hF rfl) rfl fun a hF=>step hF (Y.move hF rfl) rfl fun a hF=>nT (block (loop_cut (body:=beat_Check_b3 c) (out:=out) (fun s a w=>∃ (ok_2:Bool) (v78_0:Int),s=(ok_2,v78_0)∧Frm 123 [] [(1,.pointer (some ⟨b,0,none⟩)),(2,iv 0),(3,.bool ok_2),(76,.slice p_2 c.Pairs.length c_3),(77,iv (c.Pairs.length:Int)),(78,iv v78_0)] a∧St w0 D0 D0 [(1,.cells b [iv c.Hours,.slice p c.Rates.length c_1,.slice p_1 c.Opens.length c_2,.slice p_2 c.Pairs.length c_3] 35)] w) (ok_1,0) h ⟨ok_1,0,rfl,hF.weak (AF rfl),hS.weak ⟨rfl,trivial⟩⟩ ?_)))))
 rintro s a w xo_2 ⟨ok_2,v78_0,rfl,hF,hS⟩ h hxo_2
 unfold beat_Check_b3 at h
 dsimp only at h
 refine seq (region (step hF (Y.lss hF rfl rfl) rfl fun a hF=>nT (seq (cond_b hF rfl (fun hbv_9=>?_) (fun hbv_9=>?_)))))
 ·replace h:=cond_t h hbv_9
  refine skip_ (then_n (seq (block (seq (region ?_)))))
  obtain ⟨e_2,hx_8,h⟩:=bind_some h
  obtain ⟨b_5,o_2,hE_2,hY_2⟩:=Y.indexS (P:=Tryz.prog) (C:=C_BeatPair) (xs:=c.Pairs) (T:=33) (x:=(.tmp 76)) (y:=(.tmp 78)) u_33 sz_52 hF rfl rfl (hs_2).1 hx_8
  obtain ⟨cc_2,hc_2,hcell_2⟩:=hE_2.open
  obtain rfl:=C_BeatPair.open hc_2
  refine step hF (hY_2) rfl fun a hF=>step hF (Y.loadNE (o:=o_2) (k:=0) sz_52 hF rfl (hcell_2 _ hS.stab) rfl rfl) rfl fun a hF=>O.alloc 4 zc_52 hF hS rfl fun b_6 a w hF hS=>O.store (us:=[iv e_2.Hour,iv e_2.One,iv e_2.Other,iv e_2.Read.Low,iv e_2.Read.High]) 4 sz_52 hF rfl rfl rfl rfl hS rfl rfl fun a w hF hS=>nT (region (step hF (Y.move hF rfl) rfl fun a hF=>step hF (Y.move hF rfl) rfl fun a hF=>?_))
  obtain ⟨t_5,ht_5,h⟩:=bind_some h
  refine join (N:=123) (rs:=[]) (w0:=w0) (D0:=D0) 6 (us:=[(1,.pointer (some ⟨b,0,none⟩)),(2,iv 0),(3,.bool ok_2),(9,.pointer (some ⟨b_6,0,none⟩)),(76,.slice p_2 c.Pairs.length c_3),(77,iv (c.Pairs.length:Int)),(78,iv v78_0),(89,.bool t_5)]) (ms:=[(1,.cells b [iv c.Hours,.slice p c.Rates.length c_1,.slice p_1 c.Opens.length c_2,.slice p_2 c.Pairs.length c_3] 35),(4,.cells b_6 [iv e_2.Hour,iv e_2.One,iv e_2.Other,iv e_2.Read.Low,iv e_2.Read.High] 52)]) (D':=D0) ?_ ?_
  ·rcases bcases ok_2 with hbv_10 | hbv_10
   ·skip
    replace h:=cond_t ht_5 hbv_10
    refine guard_on hF rfl rfl hbv_10 (step hF (Y.fieldAddr fo_52_0 hF rfl) rfl fun a hF=>guard_on hF rfl rfl hbv_10 (step hF (Y.load1L 4 sz_3 hF rfl hS rfl rfl) rfl fun a hF=>guard_on hF rfl rfl hbv_10 (step hF (Y.fieldAddr fo_35_0 hF rfl) rfl fun a hF=>guard_on hF rfl rfl hbv_10 (step hF (Y.load1L 1 sz_3 hF rfl hS rfl rfl) rfl fun a hF=>guard_on hF rfl rfl hbv_10 ?_))))
    obtain ⟨rv_6,hx_9,h⟩:=bind_some h
    refine O.callP (us:=[iv e_2.Hour,iv 0,iv c.Hours]) ca_21 hF hS (beat_lies_ok hS.stab e_2.Hour 0 c.Hours rv_6 hx_9) rfl rfl fun a w hF hS=>step hF (Y.pick_t hF rfl hbv_10 rfl) rfl fun a hF=>?_
    obtain rfl:=some_inj h
    exact nT ⟨hF.weak (AF rfl),hS.weak ⟨rfl,rfl,trivial⟩⟩
   replace h:=cond_f ht_5 hbv_10
   refine guard_off hF rfl rfl hbv_10 rfl fun a hF=>guard_off hF rfl rfl hbv_10 rfl fun a hF=>guard_off hF rfl rfl hbv_10 rfl fun a hF=>guard_off hF rfl rfl hbv_10 rfl fun a hF=>guard_off hF rfl rfl hbv_10 rfl fun a hF=>step hF (Y.pick_f hF rfl hbv_10 rfl) rfl fun a hF=>?_
   obtain rfl:=some_inj h
   exact nT ⟨hF.weak (AF rfl),hS.weak ⟨rfl,rfl,trivial⟩⟩
  intro a w hF hS
  refine step hF (Y.move hF rfl) rfl fun a hF=>?_
  obtain ⟨t_6,ht_6,h⟩:=bind_some h
  refine join (N:=123) (rs:=[]) (w0:=w0) (D0:=D0) 8 (us:=[(1,.pointer (some ⟨b,0,none⟩)),(2,iv 0),(3,.bool ok_2),(9,.pointer (some ⟨b_6,0,none⟩)),(76,.slice p_2 c.Pairs.length c_3),(77,iv (c.Pairs.length:Int)),(78,iv v78_0),(98,.bool t_6)]) (ms:=[(1,.cells b [iv c.Hours,.slice p c.Rates.length c_1,.slice p_1 c.Opens.length c_2,.slice p_2 c.Pairs.length c_3] 35),(4,.cells b_6 [iv e_2.Hour,iv e_2.One,iv e_2.Other,iv e_2.Read.Low,iv e_2.Read.High] 52)]) (D':=D0) ?_ ?_
  ·rcases bcases t_5 with hbv_11 | hbv_11
   ·skip
    replace h:=cond_t ht_6 hbv_11
    refine guard_on hF rfl rfl hbv_11 (step hF (Y.fieldAddr fo_52_1 hF rfl) rfl fun a hF=>guard_on hF rfl rfl hbv_11 (step hF (Y.load1L 4 sz_3 hF rfl hS rfl rfl) rfl fun a hF=>guard_on hF rfl rfl hbv_11 (step hF (Y.fieldAddr fo_35_1 hF rfl) rfl fun a hF=>guard_on hF rfl rfl hbv_11 (step hF (Y.load1L 1 sz_31 hF rfl hS rfl rfl) rfl fun a hF=>guard_on hF rfl rfl hbv_11 (step hF (Y.lenSl u_31 hF rfl) rfl fun a hF=>guard_on hF rfl rfl hbv_11 (step hF (Y.sub hF rfl rfl) rfl fun a hF=>guard_on hF rfl rfl hbv_11 ?_))))))
    obtain ⟨rv_7,hx_10,h⟩:=bind_some h
    refine O.callP (us:=[iv e_2.One,iv 0,iv (wr ((c.Rates.length:Int) - 1))]) ca_21 hF hS (beat_lies_ok hS.stab e_2.One 0 (wr ((c.Rates.length:Int) - 1)) rv_7 hx_10) rfl rfl fun a w hF hS=>step hF (Y.pick_t hF rfl hbv_11 rfl) rfl fun a hF=>?_
    obtain rfl:=some_inj h
    exact nT ⟨hF.weak (AF rfl),hS.weak ⟨rfl,rfl,trivial⟩⟩
   replace h:=cond_f ht_6 hbv_11
   refine guard_off hF rfl rfl hbv_11 rfl fun a hF=>guard_off hF rfl rfl hbv_11 rfl fun a hF=>guard_off hF rfl rfl hbv_11 rfl fun a hF=>guard_off hF rfl rfl hbv_11 rfl fun a hF=>guard_off hF rfl rfl hbv_11 rfl fun a hF=>guard_off hF rfl rfl hbv_11 rfl fun a hF=>guard_off hF rfl rfl hbv_11 rfl fun a hF=>step hF (Y.pick_f hF rfl hbv_11 rfl) rfl fun a hF=>?_
   obtain rfl:=some_inj h
   exact nT ⟨hF.weak (AF rfl),hS.weak ⟨rfl,rfl,trivial⟩⟩
  intro a w hF hS
  refine step hF (Y.move hF rfl) rfl fun a hF=>?_
  obtain ⟨t_7,ht_7,h⟩:=bind_some h
  refine join (N:=123) (rs:=[]) (w0:=w0) (D0:=D0) 8 (us:=[(1,.pointer (some ⟨b,0,none⟩)),(2,iv 0),(3,.bool ok_2),(9,.pointer (some ⟨b_6,0,none⟩)),(76,.slice p_2 c.Pairs.length c_3),(77,iv (c.Pairs.length:Int)),(78,iv v78_0),(107,.bool t_7)]) (ms:=[(1,.cells b [iv c.Hours,.slice p c.Rates.length c_1,.slice p_1 c.Opens.length c_2,.slice p_2 c.Pairs.length c_3] 35),(4,.cells b_6 [iv e_2.Hour,iv e_2.One,iv e_2.Other,iv e_2.Read.Low,iv e_2.Read.High] 52)]) (D':=D0) ?_ ?_
  ·rcases bcases t_6 with hbv_12 | hbv_12
   ·skip
    replace h:=cond_t ht_7 hbv_12
    refine guard_on hF rfl rfl hbv_12 (step hF (Y.fieldAddr fo_52_2 hF rfl) rfl fun a hF=>guard_on hF rfl rfl hbv_12 (step hF (Y.load1L 4 sz_3 hF rfl hS rfl rfl) rfl fun a hF=>guard_on hF rfl rfl hbv_12 (step hF (Y.fieldAddr fo_35_1 hF rfl) rfl fun a hF=>guard_on hF rfl rfl hbv_12 (step hF (Y.load1L 1 sz_31 hF rfl hS rfl rfl) rfl fun a hF=>guard_on hF rfl rfl hbv_12 (step hF (Y.lenSl u_31 hF rfl) rfl fun a hF=>guard_on hF rfl rfl hbv_12 (step hF (Y.sub hF rfl rfl) rfl fun a hF=>guard_on hF rfl rfl hbv_12 ?_))))))
    obtain ⟨rv_8,hx_11,h⟩:=bind_some h
    refine O.callP (us:=[iv e_2.Other,iv (-1),iv (wr ((c.Rates.length:Int) - 1))]) ca_21 hF hS (beat_lies_ok hS.stab e_2.Other (-1) (wr ((c.Rates.length:Int) - 1)) rv_8 hx_11) rfl rfl fun a w hF hS=>step hF (Y.pick_t hF rfl hbv_12 rfl) rfl fun a hF=>?_
    obtain rfl:=some_inj h
    exact nT ⟨hF.weak (AF rfl),hS.weak ⟨rfl,rfl,trivial⟩⟩
   replace h:=cond_f ht_7 hbv_12
   refine guard_off hF rfl rfl hbv_12 rfl fun a hF=>guard_off hF rfl rfl hbv_12 rfl fun a hF=>guard_off hF rfl rfl hbv_12 rfl fun a hF=>guard_off hF rfl rfl hbv_12 rfl fun a hF=>guard_off hF rfl rfl hbv_12 rfl fun a hF=>guard_off hF rfl rfl hbv_12 rfl fun a hF=>guard_off hF rfl rfl hbv_12 rfl fun a hF=>step hF (Y.pick_f hF rfl hbv_12 rfl) rfl fun a hF=>?_
   obtain rfl:=some_inj h
   exact nT ⟨hF.weak (AF rfl),hS.weak ⟨rfl,rfl,trivial⟩⟩
  intro a w hF hS
  refine step hF (Y.move hF rfl) rfl fun a hF=>join (N:=123) (rs:=[]) (w0:=w0) (D0:=D0) 6 (us:=[(1,.pointer (some ⟨b,0,none⟩)),(2,iv 0),(3,.bool ok_2),(9,.pointer (some ⟨b_6,0,none⟩)),(76,.slice p_2 c.Pairs.length c_3),(77,iv (c.Pairs.length:Int)),(78,iv v78_0),(114,.bool (t_7 && (e_2.One != e_2.Other)))]) (ms:=[(1,.cells b [iv c.Hours,.slice p c.Rates.length c_1,.slice p_1 c.Opens.length c_2,.slice p_2 c.Pairs.length c_3] 35),(4,.cells b_6 [iv e_2.Hour,iv e_2.One,iv e_2.Other,iv e_2.Read.Low,iv e_2.Read.High] 52)]) (D':=D0) ?_ ?_
  ·rcases bcases t_7 with hbv_13 | hbv_13
   ·skip
    refine guard_on hF rfl rfl hbv_13 (step hF (Y.fieldAddr fo_52_1 hF rfl) rfl fun a hF=>guard_on hF rfl rfl hbv_13 (step hF (Y.load1L 4 sz_3 hF rfl hS rfl rfl) rfl fun a hF=>guard_on hF rfl rfl hbv_13 (step hF (Y.fieldAddr fo_52_2 hF rfl) rfl fun a hF=>guard_on hF rfl rfl hbv_13 (step hF (Y.load1L 4 sz_3 hF rfl hS rfl rfl) rfl fun a hF=>guard_on hF rfl rfl hbv_13 (step hF (Y.neq hF rfl rfl) rfl fun a hF=>step hF (Y.pick_t hF rfl hbv_13 rfl) rfl fun a hF=>nT ⟨hF.weak ⟨rfl,rfl,rfl,rfl,rfl,rfl,rfl,(by rw [hbv_13];rfl),trivial⟩,hS.weak ⟨rfl,rfl,trivial⟩⟩)))))
   refine guard_off hF rfl rfl hbv_13 rfl fun a hF=>guard_off hF rfl rfl hbv_13 rfl fun a hF=>guard_off hF rfl rfl hbv_13 rfl fun a hF=>guard_off hF rfl rfl hbv_13 rfl fun a hF=>guard_off hF rfl rfl hbv_13 rfl fun a hF=>step hF (Y.pick_f hF rfl hbv_13 rfl) rfl fun a hF=>nT ⟨hF.weak ⟨rfl,rfl,rfl,rfl,rfl,rfl,rfl,(by rw [hbv_13];rfl),trivial⟩,hS.weak ⟨rfl,rfl,trivial⟩⟩
  intro a w hF hS
  refine step hF (Y.move hF rfl) rfl fun a hF=>?_
  obtain ⟨t_8,ht_8,h⟩:=bind_some h
  refine join (N:=123) (rs:=[]) (w0:=w0) (D0:=D0) 4 (us:=[(1,.pointer (some ⟨b,0,none⟩)),(2,iv 0),(3,.bool ok_2),(76,.slice p_2 c.Pairs.length c_3),(77,iv (c.Pairs.length:Int)),(78,iv v78_0),(119,.bool t_8)]) (ms:=[(1,.cells b [iv c.Hours,.slice p c.Rates.length c_1,.slice p_1 c.Opens.length c_2,.slice p_2 c.Pairs.length c_3] 35),(4,.cells b_6 [iv e_2.Hour,iv e_2.One,iv e_2.Other,iv e_2.Read.Low,iv e_2.Read.High] 52)]) (D':=D0) ?_ ?_
  ·rcases bcases (t_7 && (e_2.One != e_2.Other)) with hbv_14 | hbv_14
   ·skip
    replace h:=cond_t ht_8 hbv_14
    refine guard_on hF rfl rfl hbv_14 (step hF (Y.fieldAddr fo_52_3 hF rfl) rfl fun a hF=>guard_on hF rfl rfl hbv_14 (step hF (Y.loadNL 4 sz_27 hF rfl hS rfl rfl rfl) rfl fun a hF=>guard_on hF rfl rfl hbv_14 ?_))
    obtain ⟨rv_9,hx_12,h⟩:=bind_some h
    refine O.callP (us:=[.agg #[iv e_2.Read.Low,iv e_2.Read.High],iv 200000]) ca_22 hF hS (beat_isSpan_ok hS.stab e_2.Read 200000 rv_9 hx_12) rfl rfl fun a w hF hS=>step hF (Y.pick_t hF rfl hbv_14 rfl) rfl fun a hF=>?_
    obtain rfl:=some_inj h
    exact nT ⟨hF.weak (AF rfl),hS.weak ⟨rfl,rfl,trivial⟩⟩
   replace h:=cond_f ht_8 hbv_14
   refine guard_off hF rfl rfl hbv_14 rfl fun a hF=>guard_off hF rfl rfl hbv_14 rfl fun a hF=>guard_off hF rfl rfl hbv_14 rfl fun a hF=>step hF (Y.pick_f hF rfl hbv_14 rfl) rfl fun a hF=>?_
   obtain rfl:=some_inj h
   exact nT ⟨hF.weak (AF rfl),hS.weak ⟨rfl,rfl,trivial⟩⟩
  intro a w hF hS
  refine step hF (Y.assign hF rfl) rfl fun a hF=>nil (blk_n (then_n (region (step hF (Y.add hF rfl rfl) rfl fun a hF=>step hF (Y.move hF rfl) rfl fun a hF=>nT (⟨_,nxt_some h,t_8,(wr (v78_0 + 1)),rfl,hF.weak (AF rfl),hS.weak ⟨rfl,trivial⟩⟩)))))
 replace h:=cond_f h hbv_9
 refine exit_ (then_x (then_x (blk_hit (then_n ?_))))
 replace h:=ext_some h hxo_2
 refine seq (seq (region (step hF (Y.move hF rfl) rfl fun a hF=>step hF (Y.not hF rfl) rfl fun a hF=>nT (cond_b hF rfl (fun hbv_15=>?_) (fun hbv_15=>?_)))))
 ·replace h:=cond_t h hbv_15
  refine seq (region (step hF (Y.assign hF rfl) rfl fun a hF=>nT (ret_ (then_r ?_))))
  obtain rfl:=some_inj h
  exact leaveP Tryz.results5 hF hS (.cons (.tmp rfl) .nil) .nil rfl
 replace h:=cond_f h hbv_15
 refine skip_ (then_n (seq (region (step hF (Y.assign hF rfl) rfl fun a hF=>nT (ret_ ?_)))))
 obtain rfl:=some_inj h
 exact leaveP Tryz.results5 hF hS (.cons (.tmp rfl) .nil) .nil rfl
noncomputable def beat_isSpot (c:BeatCellar) (clock:Int) (hour:Int):Option Bool:=
  (beat_lies clock 0 (wr ((c.Rates.length:Int) - 1))).bind fun rv=>
  (cond rv ((beat_lies hour 0 c.Hours).bind fun rv_1=>
  some rv_1) (some false)).bind fun t=>
  some t
theorem beat_isSpot_ok {w0:World} {D0:Stab} (hD:D0.on w0) (c:BeatCellar) (clock:Int) (hour:Int) {p:Option Addr} {c_1:Nat} {p_1:Option Addr} {c_2:Nat} {p_2:Option Addr} {c_3:Nat} (hs:SRc C_Span D0 c.Rates p c_1) (hs_1:SRc C_BeatOpen D0 c.Opens p_1 c_2) (hs_2:SRc C_BeatPair D0 c.Pairs p_2 c_3) (out:Bool) (h:beat_isSpot c clock hour=some out):Calls Tryz.prog 40 [.agg #[iv c.Hours,.slice p c.Rates.length c_1,.slice p_1 c.Opens.length c_2,.slice p_2 c.Pairs.length c_3],iv clock,iv hour].toArray w0 (RetP D0 w0 (.bool out)):=by
 refine enter _ 19 Tryz.func40 rfl Tryz.ntmps40 rfl fun a hF=>?_
 replace hF:Frm 19 [] [(0,.agg #[iv c.Hours,.slice p c.Rates.length c_1,.slice p_1 c.Opens.length c_2,.slice p_2 c.Pairs.length c_3]),(1,iv clock),(2,iv hour)] a:=hF
 have hS:=St.start hD
 unfold beat_isSpot at h
 refine seq (region (O.box (cs:=[iv c.Hours,.slice p c.Rates.length c_1,.slice p_1 c.Opens.length c_2,.slice p_2 c.Pairs.length c_3]) 1 hF rfl rfl hS rfl fun b a w hF hS=>step hF (Y.assign hF rfl) rfl fun a hF=>nT (seq (region (step hF (Y.move hF rfl) rfl fun a hF=>step hF (Y.fieldAddr fo_35_1 hF rfl) rfl fun a hF=>step hF (Y.load1L 1 sz_31 hF rfl hS rfl rfl) rfl fun a hF=>step hF (Y.lenSl u_31 hF rfl) rfl fun a hF=>step hF (Y.sub hF rfl rfl) rfl fun a hF=>?_)))))
 obtain ⟨rv,hx,h⟩:=bind_some h
 refine O.callP (us:=[iv clock,iv 0,iv (wr ((c.Rates.length:Int) - 1))]) ca_21 hF hS (beat_lies_ok hS.stab clock 0 (wr ((c.Rates.length:Int) - 1)) rv hx) rfl rfl fun a w hF hS=>step hF (Y.move hF rfl) rfl fun a hF=>?_
 obtain ⟨t,ht,h⟩:=bind_some h
 refine join (N:=19) (rs:=[]) (w0:=w0) (D0:=D0) 5 (us:=[(6,.bool false),(18,.bool t)]) (ms:=[(1,.cells b [iv c.Hours,.slice p c.Rates.length c_1,.slice p_1 c.Opens.length c_2,.slice p_2 c.Pairs.length c_3] 35)]) (D':=D0) ?_ ?_
 ·rcases bcases rv with hbv | hbv
  ·skip
   replace h:=cond_t ht hbv
   refine guard_on hF rfl rfl hbv (step hF (Y.move hF rfl) rfl fun a hF=>guard_on hF rfl rfl hbv (step hF (Y.fieldAddr fo_35_0 hF rfl) rfl fun a hF=>guard_on hF rfl rfl hbv (step hF (Y.load1L 1 sz_3 hF rfl hS rfl rfl) rfl fun a hF=>guard_on hF rfl rfl hbv ?_)))
   obtain ⟨rv_1,hx_1,h⟩:=bind_some h
   refine O.callP (us:=[iv hour,iv 0,iv c.Hours]) ca_21 hF hS (beat_lies_ok hS.stab hour 0 c.Hours rv_1 hx_1) rfl rfl fun a w hF hS=>step hF (Y.pick_t hF rfl hbv rfl) rfl fun a hF=>?_
   obtain rfl:=some_inj h
   exact nT ⟨hF.weak ⟨rfl,rfl,trivial⟩,hS.weak ⟨rfl,trivial⟩⟩
  replace h:=cond_f ht hbv
  refine guard_off hF rfl rfl hbv rfl fun a hF=>guard_off hF rfl rfl hbv rfl fun a hF=>guard_off hF rfl rfl hbv rfl fun a hF=>guard_off hF rfl rfl hbv rfl fun a hF=>step hF (Y.pick_f hF rfl hbv rfl) rfl fun a hF=>?_
  obtain rfl:=some_inj h
  exact nT ⟨hF.weak ⟨rfl,rfl,trivial⟩,hS.weak ⟨rfl,trivial⟩⟩
 intro a w hF hS
 refine step hF (Y.assign hF rfl) rfl fun a hF=>nT (ret_ ?_)
 obtain rfl:=some_inj h
 exact leaveP Tryz.results40 hF hS (.cons (.tmp rfl) .nil) .nil rfl
noncomputable def beat_truth:Option beat_spot:=
  some (beat_spot.mk (-1) 0)
theorem beat_truth_ok {w0:World} {D0:Stab} (hD:D0.on w0) (out:beat_spot) (h:beat_truth=some out):Calls Tryz.prog 36 [].toArray w0 (RetP D0 w0 (.agg #[iv out.clock,iv out.hour])):=by
 refine enter _ 2 Tryz.func36 rfl Tryz.ntmps36 rfl fun a hF=>?_
 replace hF:Frm 2 [] [] a:=hF
 have hS:=St.start hD
 unfold beat_truth at h
 refine seq (region (O.alloc 1 zc_99 hF hS rfl fun b a w hF hS=>nT (seq (region (step hF (Y.build (parts:=[(0,(.const (iv (-1)))),(1,(.const (iv 0)))]) (cs:=#[iv (-1),iv 0]) hF rfl (by kernel_rfl)) rfl fun a hF=>O.store (us:=[iv (-1),iv 0]) 1 sz_99 hF rfl rfl rfl rfl hS rfl rfl fun a w hF hS=>nT (ret_ ?_))))))
 obtain rfl:=some_inj h
 exact leaveP Tryz.results36 hF hS (.cons (.cellN 1 sz_99 rfl rfl rfl) .nil) .nil rfl
noncomputable def beat_both (ofv:beat_spot) (over:beat_spot) (sv:Span):Option (List beat_bound):=
  some ([(beat_bound.mk ofv over sv.High),(beat_bound.mk over ofv (wr (0 - sv.Low)))])
theorem beat_both_ok {w0:World} {D0:Stab} (hD:D0.on w0) (ofv:beat_spot) (over:beat_spot) (sv:Span) (out:(List beat_bound)) (h:beat_both ofv over sv=some out):Calls Tryz.prog 129 [.agg #[iv ofv.clock,iv ofv.hour],.agg #[iv over.clock,iv over.hour],.agg #[iv sv.Low,iv sv.High]].toArray w0 (RetS D0 w0 fun D v=>∃ p_1 c_1,v=.slice p_1 out.length c_1∧SRc C_beat_bound D out p_1 c_1):=by
 refine enter _ 19 Tryz.func129 rfl Tryz.ntmps129 rfl fun a hF=>?_
 replace hF:Frm 19 [] [(0,.agg #[iv ofv.clock,iv ofv.hour]),(1,.agg #[iv over.clock,iv over.hour]),(2,.agg #[iv sv.Low,iv sv.High])] a:=hF
 have hS:=St.start hD
 unfold beat_both at h
 refine seq (region (O.box (cs:=[iv ofv.clock,iv ofv.hour]) 1 hF rfl rfl hS rfl fun b a w hF hS=>O.box (cs:=[iv over.clock,iv over.hour]) 2 hF rfl rfl hS rfl fun b_1 a w hF hS=>O.box (cs:=[iv sv.Low,iv sv.High]) 3 hF rfl rfl hS rfl fun b_2 a w hF hS=>step hF (Y.assign hF rfl) rfl fun a hF=>nT (seq (region (step hF (Y.loadNL 1 sz_99 hF rfl hS rfl rfl rfl) rfl fun a hF=>step hF (Y.loadNL 2 sz_99 hF rfl hS rfl rfl rfl) rfl fun a hF=>step hF (Y.fieldAddr fo_27_1 hF rfl) rfl fun a hF=>step hF (Y.load1L 3 sz_3 hF rfl hS rfl rfl) rfl fun a hF=>step hF (Y.build (parts:=[(0,(.tmp 7)),(1,(.tmp 8)),(2,(.tmp 10))]) (cs:=#[iv ofv.clock,iv ofv.hour,iv over.clock,iv over.hour,iv sv.High]) hF rfl (by kernel_rfl)) rfl fun a hF=>step hF (Y.loadNL 2 sz_99 hF rfl hS rfl rfl rfl) rfl fun a hF=>step hF (Y.loadNL 1 sz_99 hF rfl hS rfl rfl rfl) rfl fun a hF=>step hF (Y.fieldAddr fo_27_0 hF rfl) rfl fun a hF=>step hF (Y.load1L 3 sz_3 hF rfl hS rfl rfl) rfl fun a hF=>step hF (Y.neg hF rfl) rfl fun a hF=>step hF (Y.build (parts:=[(0,(.tmp 12)),(1,(.tmp 13)),(2,(.tmp 16))]) (cs:=#[iv over.clock,iv over.hour,iv ofv.clock,iv ofv.hour,iv (wr (0 - sv.Low))]) hF rfl (by kernel_rfl)) rfl fun a hF=>?_)))))
 have hr:Reps C_beat_bound D0 [(beat_bound.mk ofv over sv.High),(beat_bound.mk over ofv (wr (0 - sv.Low)))] [iv ofv.clock,iv ofv.hour,iv over.clock,iv over.hour,iv sv.High,iv over.clock,iv over.hour,iv ofv.clock,iv ofv.hour,iv (wr (0 - sv.Low))]:=Reps.cons (C:=C_beat_bound) (x:=(beat_bound.mk ofv over sv.High)) (c:=[iv ofv.clock,iv ofv.hour,iv over.clock,iv over.hour,iv sv.High]) (r:=[iv over.clock,iv over.hour,iv ofv.clock,iv ofv.hour,iv (wr (0 - sv.Low))]) rfl (Reps.cons (C:=C_beat_bound) (x:=(beat_bound.mk over ofv (wr (0 - sv.Low)))) (c:=[iv over.clock,iv over.hour,iv ofv.clock,iv ofv.hour,iv (wr (0 - sv.Low))]) (r:=[]) rfl (Reps.nil))
 refine O.buildSlice (E:=106) (C:=C_beat_bound) (xs:=[(beat_bound.mk ofv over sv.High),(beat_bound.mk over ofv (wr (0 - sv.Low)))]) (cs:=[iv ofv.clock,iv ofv.hour,iv over.clock,iv over.hour,iv sv.High,iv over.clock,iv over.hour,iv ofv.clock,iv ofv.hour,iv (wr (0 - sv.Low))]) (us:=[.agg #[iv ofv.clock,iv ofv.hour,iv over.clock,iv over.hour,iv sv.High],.agg #[iv over.clock,iv over.hour,iv ofv.clock,iv ofv.hour,iv (wr (0 - sv.Low))]]) (parts:=[(0,(.tmp 11)),(1,(.tmp 17))]) 4 hF hS rfl (by kernel_rfl) hr rfl rfl rfl fun p c a w hF hS=>step hF (Y.assign hF rfl) rfl fun a hF=>nT (ret_ ?_)
 obtain ⟨Dv,hlev,hs,hS⟩:=hS.freezeC (C:=C_beat_bound) (i:=4) (xs:=[(beat_bound.mk ofv over sv.High),(beat_bound.mk over ofv (wr (0 - sv.Low)))]) rfl hr
 obtain rfl:=some_inj h
 exact leaveS Tryz.results129 hF hS (.cons (.tmp rfl) .nil) .nil ⟨_,_,rfl,hs⟩
noncomputable def beat_opened_b2 (xv:BeatCellar) (v17_0:Int):(Int × (List (beat_spot × Int)))→Option ((Int × (List (beat_spot × Int))) ⊕ ((Int × (List (beat_spot × Int))) ⊕ beat_cellar))
 | (v23_0,mp_1)=>
  cond (decide (v23_0 < (wr (xv.Hours + 1))))
  (nxt (wr (v23_0 + 1),(mput kl_99 mp_1 (beat_spot.mk v17_0 v23_0) (mp_1.length:Int))))
  (ext (nxt (wr (v17_0 + 1),mp_1)))
noncomputable def beat_opened_b1 (xv:BeatCellar) (left:Int):(Int × (List (beat_spot × Int)))→Option ((Int × (List (beat_spot × Int))) ⊕ beat_cellar)
 | (v17_0,mp)=>
  cond (decide (v17_0 < (xv.Rates.length:Int)))
  (loopU (beat_opened_b2 xv v17_0) (0,mp))
  (ext (some (beat_cellar.mk xv left mp)))
noncomputable def beat_opened (xv:BeatCellar) (left:Int):Option beat_cellar:=
  loopU (beat_opened_b1 xv left) (0,(mput kl_99 ([]:(List (beat_spot × Int))) (beat_spot.mk (-1) 0) 0))
theorem beat_opened_ok {w0:World} {D0:Stab} (hD:D0.on w0) (xv:BeatCellar) (left:Int) {p:Option Addr} {c:Nat} {p_1:Option Addr} {c_1:Nat} {p_2:Option Addr} {c_2:Nat} (hs:SRc C_Span D0 xv.Rates p c) (hs_1:SRc C_BeatOpen D0 xv.Opens p_1 c_1) (hs_2:SRc C_BeatPair D0 xv.Pairs p_2 c_2) (out:beat_cellar) (h:beat_opened xv left=some out):Calls Tryz.prog 34 [.agg #[iv xv.Hours,.slice p xv.Rates.length c,.slice p_1 xv.Opens.length c_1,.slice p_2 xv.Pairs.length c_2],iv left].toArray w0 (RetS D0 w0 fun D v=>∃ p_3 c_3 p_4 c_4 p_5 c_5 bm,v=.agg #[iv out.BeatCellar.Hours,.slice p_3 out.BeatCellar.Rates.length c_3,.slice p_4 out.BeatCellar.Opens.length c_4,.slice p_5 out.BeatCellar.Pairs.length c_5,iv out.left,.map bm]∧SRc C_Span D out.BeatCellar.Rates p_3 c_3∧SRc C_BeatOpen D out.BeatCellar.Opens p_4 c_4∧SRc C_BeatPair D out.BeatCellar.Pairs p_5 c_5∧MapB kl_99 C_int false D out.place bm):=by
 refine enter _ 37 Tryz.func34 rfl Tryz.ntmps34 rfl fun a hF=>?_
 replace hF:Frm 37 [] [(0,.agg #[iv xv.Hours,.slice p xv.Rates.length c,.slice p_1 xv.Opens.length c_1,.slice p_2 xv.Pairs.length c_2]),(1,iv left)] a:=hF
 have hS:=St.start hD
 unfold beat_opened at h
 refine seq (region (O.box (cs:=[iv xv.Hours,.slice p xv.Rates.length c,.slice p_1 xv.Opens.length c_1,.slice p_2 xv.Pairs.length c_2]) 1 hF rfl rfl hS rfl fun b a w hF hS=>O.alloc 2 zc_96 hF hS rfl fun b_1 a w hF hS=>nT (seq (drawsV 8 (.flt 0 (.flt 1 (.flt 3 (.alt 2 (.alt 4 (.flt 5 (.flt 6 (.alt 7 .done .stop))) (.alt 7 (.alt 4 (.flt 5 (.flt 6 .done)) .stop) .stop)) (.alt 7 (.alt 2 (.alt 4 (.flt 5 (.flt 6 .done)) .stop) .stop) .stop))))) mixed_ (by kernel_rfl) (fun w=>St w0 D0 D0 [(1,.cells b [iv xv.Hours,.slice p xv.Rates.length c,.slice p_1 xv.Opens.length c_1,.slice p_2 xv.Pairs.length c_2] 35),(2,.cells b_1 [iv 0,.slice none 0 0,.slice none 0 0,.slice none 0 0,iv 0,.map none] 96)] w) (fun a w=>∃ (b_3:Nat) (b_2:Nat) (es:Array MapEntry) (clk:Nat),Frm 37 [] [(2,.pointer (some ⟨b,0,none⟩)),(4,.pointer (some ⟨b_1,0,none⟩)),(5,.pointer (some ⟨b_3,0,none⟩)),(13,.agg #[iv xv.Hours,.slice p xv.Rates.length c,.slice p_1 xv.Opens.length c_1,.slice p_2 xv.Pairs.length c_2,iv left,.map (some b_2)])] a∧St w0 D0 D0 [(1,.cells b [iv xv.Hours,.slice p xv.Rates.length c,.slice p_1 xv.Opens.length c_1,.slice p_2 xv.Pairs.length c_2] 35),(2,.cells b_1 [iv 0,.slice none 0 0,.slice none 0 0,.slice none 0 0,iv 0,.map none] 96),(3,.obj b_2 (.map es clk)),(4,.cells b_3 [iv 0,.slice none 0 0,.slice none 0 0,.slice none 0 0,iv 0,.map none] 96)] w∧MRepB kl_99 C_int false D0 (mput kl_99 ([]:(List (beat_spot × Int))) (beat_spot.mk (-1) 0) 0) es clk) (hS.weak (ms:=[(1,.cells b [iv xv.Hours,.slice p xv.Rates.length c,.slice p_1 xv.Opens.length c_1,.slice p_2 xv.Pairs.length c_2] 35),(2,.cells b_1 [iv 0,.slice none 0 0,.slice none 0 0,.slice none 0 0,iv 0,.map none] 96)]) ⟨rfl,rfl,trivial⟩).drew (fun _ _ _ _ h=>h) ?_ ?_))))
 ·replace hS:=hS.drew
  have hle0:=hS.le
  refine stepV (i:=0) rfl hF (fun w hS=>Y.loadNL 1 sz_35 hF rfl hS rfl rfl rfl) rfl fun a hF=>stepV (i:=1) rfl hF (fun w hS=>Y.move hF rfl) rfl fun a hF=>stepV (i:=3) rfl hF (fun w hS=>Y.build (parts:=[(0,(.const (iv (-1)))),(1,(.const (iv 0)))]) (cs:=#[iv (-1),iv 0]) hF rfl (by kernel_rfl)) rfl fun a hF=>oneV (i:=2) rfl ?_ ?_
  ·skip
   refine O.makeMap 3 hF hS rfl fun b_4 a w hF hS=>?_
   have hm_2:MRepB kl_99 C_int false D0 ([]:(List (beat_spot × Int))) (#[]:Array MapEntry) 0:=MRepB.nil
   refine nT ⟨hS.weak ⟨rfl,rfl,trivial⟩,?_⟩
   refine oneV (i:=4) rfl ?_ ?_
   ·skip
    refine map_putB (kl:=kl_99) (C:=C_int) (agg:=false) (x:=(.tmp 10)) (y:=(.tmp 11)) (u:=(.const (iv 0))) (v0:=0) (cs:=[iv 0]) (.inr rfl) 3 mt_94 (fun _=>rfl) (beat_spot.mk (-1) 0) hm_2 rfl hF rfl rfl rfl hS rfl fun es_1 clk_1 a w hF hS hm_3=>nT ⟨hS.weak ⟨rfl,rfl,trivial⟩,?_⟩
    refine stepV (i:=5) rfl hF (fun w hS=>Y.move hF rfl) rfl fun a hF=>stepV (i:=6) rfl hF (fun w hS=>Y.build (parts:=[(0,(.tmp 8)),(1,(.tmp 9)),(2,(.tmp 12))]) (cs:=#[iv xv.Hours,.slice p xv.Rates.length c,.slice p_1 xv.Opens.length c_1,.slice p_2 xv.Pairs.length c_2,iv left,.map (some b_4)]) hF rfl (by kernel_rfl)) rfl fun a hF=>oneV (i:=7) rfl ?_ trivial
    refine O.alloc 4 zc_96 hF hS rfl fun b_5 a w hF hS=>nT ⟨hS.weak ⟨rfl,rfl,trivial⟩,?_⟩
    exact toTailV ⟨b_5,b_4,es_1,clk_1,hF.weak (AF rfl),hS.weak (AL rfl),hm_3⟩
   refine oneV (i:=7) rfl ?_ trivial
   refine O.alloc 4 zc_96 hF hS rfl fun b_6 a w hF hS=>nT ⟨hS.weak ⟨rfl,rfl,trivial⟩,?_⟩
   refine oneV (i:=4) rfl ?_ trivial
   refine map_putB (kl:=kl_99) (C:=C_int) (agg:=false) (x:=(.tmp 10)) (y:=(.tmp 11)) (u:=(.const (iv 0))) (v0:=0) (cs:=[iv 0]) (.inr rfl) 3 mt_94 (fun _=>rfl) (beat_spot.mk (-1) 0) hm_2 rfl hF rfl rfl rfl hS rfl fun es_2 clk_2 a w hF hS hm_4=>nT ⟨hS.weak ⟨rfl,rfl,trivial⟩,?_⟩
   refine stepV (i:=5) rfl hF (fun w hS=>Y.move hF rfl) rfl fun a hF=>stepV (i:=6) rfl hF (fun w hS=>Y.build (parts:=[(0,(.tmp 8)),(1,(.tmp 9)),(2,(.tmp 12))]) (cs:=#[iv xv.Hours,.slice p xv.Rates.length c,.slice p_1 xv.Opens.length c_1,.slice p_2 xv.Pairs.length c_2,iv left,.map (some b_4)]) hF rfl (by kernel_rfl)) rfl fun a hF=>toTailV ⟨b_6,b_4,es_2,clk_2,hF.weak (AF rfl),hS.weak (AL rfl),hm_4⟩
  refine oneV (i:=7) rfl ?_ trivial
  refine O.alloc 4 zc_96 hF hS rfl fun b_7 a w hF hS=>nT ⟨hS.weak ⟨rfl,rfl,trivial⟩,?_⟩
  refine oneV (i:=2) rfl ?_ trivial
  refine O.makeMap 3 hF hS rfl fun b_8 a w hF hS=>?_
  have hm_5:MRepB kl_99 C_int false D0 ([]:(List (beat_spot × Int))) (#[]:Array MapEntry) 0:=MRepB.nil
  refine nT ⟨hS.weak ⟨rfl,rfl,trivial⟩,?_⟩
  refine oneV (i:=4) rfl ?_ trivial
  refine map_putB (kl:=kl_99) (C:=C_int) (agg:=false) (x:=(.tmp 10)) (y:=(.tmp 11)) (u:=(.const (iv 0))) (v0:=0) (cs:=[iv 0]) (.inr rfl) 3 mt_94 (fun _=>rfl) (beat_spot.mk (-1) 0) hm_5 rfl hF rfl rfl rfl hS rfl fun es_3 clk_3 a w hF hS hm_6=>nT ⟨hS.weak ⟨rfl,rfl,trivial⟩,?_⟩
  refine stepV (i:=5) rfl hF (fun w hS=>Y.move hF rfl) rfl fun a hF=>stepV (i:=6) rfl hF (fun w hS=>Y.build (parts:=[(0,(.tmp 8)),(1,(.tmp 9)),(2,(.tmp 12))]) (cs:=#[iv xv.Hours,.slice p xv.Rates.length c,.slice p_1 xv.Opens.length c_1,.slice p_2 xv.Pairs.length c_2,iv left,.map (some b_8)]) hF rfl (by kernel_rfl)) rfl fun a hF=>toTailV ⟨b_7,b_8,es_3,clk_3,hF.weak (AF rfl),hS.weak (AL rfl),hm_6⟩
 rintro a w ⟨b_3,b_2,es,clk,hF,hS,hj⟩
 refine O.store (us:=[iv xv.Hours,.slice p xv.Rates.length c,.slice p_1 xv.Opens.length c_1,.slice p_2 xv.Pairs.length c_2,iv left,.map (some b_2)]) 4 sz_96 hF rfl rfl rfl rfl hS rfl rfl fun a w hF hS=>nT (seq (seq (region (step hF (Y.fieldAddr fo_35_1 hF rfl) rfl fun a hF=>step hF (Y.load1L 1 sz_31 hF rfl hS rfl rfl) rfl fun a hF=>step hF (Y.lenSl u_31 hF rfl) rfl fun a hF=>step hF (Y.move hF rfl) rfl fun a hF=>nT (block (loop_cut (body:=beat_opened_b1 xv left) (out:=out) (fun s a w=>∃ (v17_0:Int) (mp:(List (beat_spot × Int))),∃ es_4 clk_4,s=(v17_0,mp)∧Frm 37 [] [(2,.pointer (some ⟨b,0,none⟩)),(4,.pointer (some ⟨b_1,0,none⟩)),(5,.pointer (some ⟨b_3,0,none⟩)),(16,iv (xv.Rates.length:Int)),(17,iv v17_0)] a∧St w0 D0 D0 [(1,.cells b [iv xv.Hours,.slice p xv.Rates.length c,.slice p_1 xv.Opens.length c_1,.slice p_2 xv.Pairs.length c_2] 35),(2,.cells b_1 [iv 0,.slice none 0 0,.slice none 0 0,.slice none 0 0,iv 0,.map none] 96),(3,.obj b_2 (.map es_4 clk_4)),(4,.cells b_3 [iv xv.Hours,.slice p xv.Rates.length c,.slice p_1 xv.Opens.length c_1,.slice p_2 xv.Pairs.length c_2,iv left,.map (some b_2)] 96)] w∧MRepB kl_99 C_int false D0 mp es_4 clk_4) (0,(mput kl_99 ([]:(List (beat_spot × Int))) (beat_spot.mk (-1) 0) 0)) h ⟨0,(mput kl_99 ([]:(List (beat_spot × Int))) (beat_spot.mk (-1) 0) 0),es,clk,rfl,hF.weak (AF rfl),hS.weak (AL rfl),hj⟩ ?_))))))
 rintro s a w xo ⟨v17_0,mp,es_4,clk_4,rfl,hF,hS,hm_7⟩ h hxo
 unfold beat_opened_b1 at h
 dsimp only at h
 refine seq (region (step hF (Y.lss hF rfl rfl) rfl fun a hF=>nT (seq (cond_b hF rfl (fun hbv=>?_) (fun hbv=>?_)))))
 ·replace h:=cond_t h hbv
  refine skip_ (then_n (seq (block (seq (region (step hF (Y.move hF rfl) rfl fun a hF=>step hF (Y.assign hF rfl) rfl fun a hF=>nT (seq (region (step hF (Y.fieldAddr fo_35_0 hF rfl) rfl fun a hF=>step hF (Y.load1L 1 sz_3 hF rfl hS rfl rfl) rfl fun a hF=>step hF (Y.add hF rfl rfl) rfl fun a hF=>step hF (Y.move hF rfl) rfl fun a hF=>nT (block (loop_cut (body:=beat_opened_b2 xv v17_0) (out:=xo) (fun s a w=>∃ (v23_0:Int) (mp_1:(List (beat_spot × Int))),∃ es_5 clk_5,s=(v23_0,mp_1)∧Frm 37 [] [(2,.pointer (some ⟨b,0,none⟩)),(4,.pointer (some ⟨b_1,0,none⟩)),(5,.pointer (some ⟨b_3,0,none⟩)),(6,iv v17_0),(16,iv (xv.Rates.length:Int)),(17,iv v17_0),(22,iv (wr (xv.Hours + 1))),(23,iv v23_0)] a∧St w0 D0 D0 [(1,.cells b [iv xv.Hours,.slice p xv.Rates.length c,.slice p_1 xv.Opens.length c_1,.slice p_2 xv.Pairs.length c_2] 35),(2,.cells b_1 [iv 0,.slice none 0 0,.slice none 0 0,.slice none 0 0,iv 0,.map none] 96),(3,.obj b_2 (.map es_5 clk_5)),(4,.cells b_3 [iv xv.Hours,.slice p xv.Rates.length c,.slice p_1 xv.Opens.length c_1,.slice p_2 xv.Pairs.length c_2,iv left,.map (some b_2)] 96)] w∧MRepB kl_99 C_int false D0 mp_1 es_5 clk_5) (0,mp) h ⟨0,mp,es_4,clk_4,rfl,hF.weak (AF rfl),hS.weak (AL rfl),hm_7⟩ ?_)))))))))))
  rintro s a w xo_1 ⟨v23_0,mp_1,es_5,clk_5,rfl,hF,hS,hm_8⟩ h hxo_1
  unfold beat_opened_b2 at h
  dsimp only at h
  refine seq (region (step hF (Y.lss hF rfl rfl) rfl fun a hF=>nT (seq (cond_b hF rfl (fun hbv_1=>?_) (fun hbv_1=>?_)))))
  ·replace h:=cond_t h hbv_1
   refine skip_ (then_n (seq (block (seq (region (step hF (Y.move hF rfl) rfl fun a hF=>step hF (Y.assign hF rfl) rfl fun a hF=>nT (region (step hF (Y.fieldAddr fo_96_2 hF rfl) rfl fun a hF=>step hF (Y.load1L 4 sz_94 hF rfl hS rfl rfl) rfl fun a hF=>step hF (Y.move hF rfl) rfl fun a hF=>step hF (Y.move hF rfl) rfl fun a hF=>step hF (Y.build (parts:=[(0,(.tmp 28)),(1,(.tmp 29))]) (cs:=#[iv v17_0,iv v23_0]) hF rfl (by kernel_rfl)) rfl fun a hF=>step hF (Y.fieldAddr fo_96_2 hF rfl) rfl fun a hF=>step hF (Y.load1L 4 sz_94 hF rfl hS rfl rfl) rfl fun a hF=>step hF (Y.lenM u_94 hm_8.1 hF rfl (hS.each 3 _ rfl)) rfl fun a hF=>map_putB (kl:=kl_99) (C:=C_int) (agg:=false) (x:=(.tmp 27)) (y:=(.tmp 30)) (u:=(.tmp 33)) (v0:=(mp_1.length:Int)) (cs:=[iv (mp_1.length:Int)]) (.inl rfl) 3 mt_94 (fun _=>rfl) (beat_spot.mk v17_0 v23_0) hm_8 rfl hF rfl rfl rfl hS rfl fun es_6 clk_6 a w hF hS hm_9=>nil (blk_n (then_n (region (step hF (Y.add hF rfl rfl) rfl fun a hF=>step hF (Y.move hF rfl) rfl fun a hF=>nT (⟨_,nxt_some h,(wr (v23_0 + 1)),(mput kl_99 mp_1 (beat_spot.mk v17_0 v23_0) (mp_1.length:Int)),es_6,clk_6,rfl,hF.weak (AF rfl),hS.weak (AL rfl),hm_9⟩)))))))))))))
  replace h:=cond_f h hbv_1
  refine exit_ (then_x (then_x (blk_hit (blk_n (then_n ?_)))))
  replace h:=ext_some h hxo_1
  refine region (step hF (Y.add hF rfl rfl) rfl fun a hF=>step hF (Y.move hF rfl) rfl fun a hF=>nT (⟨_,nxt_some h,(wr (v17_0 + 1)),mp_1,es_5,clk_5,rfl,hF.weak (AF rfl),hS.weak (AL rfl),hm_8⟩))
 replace h:=cond_f h hbv
 refine exit_ (then_x (then_x (blk_hit (then_n ?_))))
 replace h:=ext_some h hxo
 refine seq (region (step hF (Y.loadNL 4 sz_96 hF rfl hS rfl rfl rfl) rfl fun a hF=>O.store (us:=[iv xv.Hours,.slice p xv.Rates.length c,.slice p_1 xv.Opens.length c_1,.slice p_2 xv.Pairs.length c_2,iv left,.map (some b_2)]) 2 sz_96 hF rfl rfl rfl rfl hS rfl rfl fun a w hF hS=>nT (ret_ ?_)))
 obtain ⟨Dv,hlev,hm_10,hS⟩:=hS.freezeMB (i:=3) rfl hm_7
 replace hs:=hs.mono hlev
 replace hs_1:=hs_1.mono hlev
 replace hs_2:=hs_2.mono hlev
 obtain rfl:=some_inj h
 exact leaveS Tryz.results34 hF hS (.cons (.cellN 2 sz_96 rfl rfl rfl) .nil) .nil ⟨_,_,_,_,_,_,_,rfl,hs,hs_1,hs_2,hm_10⟩
noncomputable def beat_sum_int__b1 (l:(List Int)):(Int × Int)→Option ((Int × Int) ⊕ Int)
 | (first_1,v9_0)=>
  cond (decide (v9_0 < (l.length:Int)))
  ((idx l v9_0).bind fun e=>
  nxt (wr (first_1 + e),wr (v9_0 + 1)))
  (ext (some first_1))
noncomputable def beat_sum_int_ (first:Int) (l:(List Int)):Option Int:=
  loopU (beat_sum_int__b1 l) (first,0)
theorem beat_sum_int__ok {w0:World} {D0:Stab} (hD:D0.on w0) (first:Int) (l:(List Int)) {p:Option Addr} {c:Nat} (hs:SRc C_int D0 l p c) (out:Int) (h:beat_sum_int_ first l=some out):Calls Tryz.prog 130 [iv first,.slice p l.length c].toArray w0 (RetP D0 w0 (iv out)):=by
 refine enter _ 18 Tryz.func130 rfl Tryz.ntmps130 rfl fun a hF=>?_
 replace hF:Frm 18 [] [(0,iv first),(1,.slice p l.length c)] a:=hF
 have hS:=St.start hD
 unfold beat_sum_int_ at h
 refine seq (region (step hF (Y.assign hF rfl) rfl fun a hF=>nT (seq (seq (region (step hF (Y.move hF rfl) rfl fun a hF=>step hF (Y.lenSl u_30 hF rfl) rfl fun a hF=>step hF (Y.move hF rfl) rfl fun a hF=>nT (block (loop_cut (body:=beat_sum_int__b1 l) (out:=out) (fun s a w=>∃ (first_1:Int) (v9_0:Int),s=(first_1,v9_0)∧Frm 18 [] [(0,iv first_1),(4,iv 0),(7,.slice p l.length c),(8,iv (l.length:Int)),(9,iv v9_0)] a∧St w0 D0 D0 [] w) (first,0) h ⟨first,0,rfl,hF.weak (AF rfl),hS.weak trivial⟩ ?_))))))))
 rintro s a w xo ⟨first_1,v9_0,rfl,hF,hS⟩ h hxo
 unfold beat_sum_int__b1 at h
 dsimp only at h
 refine seq (region (step hF (Y.lss hF rfl rfl) rfl fun a hF=>nT (seq (cond_b hF rfl (fun hbv=>?_) (fun hbv=>?_)))))
 ·replace h:=cond_t h hbv
  refine skip_ (then_n (seq (block (seq (region ?_)))))
  obtain ⟨e,hx,h⟩:=bind_some h
  obtain ⟨b,o,hE,hY⟩:=Y.indexS (P:=Tryz.prog) (C:=C_int) (xs:=l) (T:=30) (x:=(.tmp 7)) (y:=(.tmp 9)) u_30 sz_3 hF rfl rfl (hs).1 hx
  obtain ⟨cc,hc,hcell⟩:=hE.open
  obtain rfl:=hc
  refine step hF (hY) rfl fun a hF=>step hF (Y.load1 sz_3 hF rfl (hcell _ hS.stab 0 _ rfl)) rfl fun a hF=>step hF (Y.assign hF rfl) rfl fun a hF=>nT (region (step hF (Y.move hF rfl) rfl fun a hF=>step hF (Y.move hF rfl) rfl fun a hF=>step hF (Y.add hF rfl rfl) rfl fun a hF=>step hF (Y.assign hF rfl) rfl fun a hF=>nil (blk_n (then_n (region (step hF (Y.add hF rfl rfl) rfl fun a hF=>step hF (Y.move hF rfl) rfl fun a hF=>nT (⟨_,nxt_some h,(wr (first_1 + e)),(wr (v9_0 + 1)),rfl,hF.weak (AF rfl),hS.weak trivial⟩)))))))
 replace h:=cond_f h hbv
 refine exit_ (then_x (then_x (blk_hit (then_n ?_))))
 replace h:=ext_some h hxo
 refine seq (region (step hF (Y.move hF rfl) rfl fun a hF=>step hF (Y.assign hF rfl) rfl fun a hF=>nT (ret_ ?_)))
 obtain rfl:=some_inj h
 exact leaveP Tryz.results130 hF hS (.cons (.tmp rfl) .nil) .nil rfl
noncomputable def beat_cellar_grows_b3 (c:beat_cellar) (v15_0:Int) (e:Span) (outv_1:(List beat_bound)) (v23_0:Int):((List Int) × (List Int) × Int)→Option (((List Int) × (List Int) × Int) ⊕ (((List beat_bound) × Int) ⊕ (((List beat_bound) × Int) ⊕ (List beat_bound))))
 | (lows,highs,v32_0)=>
  cond (decide (v32_0 < (c.BeatCellar.Opens.length:Int)))
  ((idx c.BeatCellar.Opens v32_0).bind fun e_1=>
  cond ((e_1.Clock == v15_0) && (e_1.Hour == v23_0))
  (if lows.length + ([e_1.Step.Low]).length≤lim then
  if highs.length + ([e_1.Step.High]).length≤lim then
  nxt ((lows ++ [e_1.Step.Low]),(highs ++ [e_1.Step.High]),wr (v32_0 + 1))
  else none
  else none)
  (nxt (lows,highs,wr (v32_0 + 1))))
  (ext ((beat_sum_int_ e.Low lows).bind fun rv=>
  (beat_sum_int_ e.High highs).bind fun rv_1=>
  (beat_both (beat_spot.mk v15_0 (wr (v23_0 + 1))) (beat_spot.mk v15_0 v23_0) (Span.mk rv rv_1)).bind fun rv_2=>
  if outv_1.length + rv_2.length≤lim then
  nxt ((outv_1 ++ rv_2),wr (v23_0 + 1))
  else none))
noncomputable def beat_cellar_grows_b2 (c:beat_cellar) (v15_0:Int) (e:Span):((List beat_bound) × Int)→Option (((List beat_bound) × Int) ⊕ (((List beat_bound) × Int) ⊕ (List beat_bound)))
 | (outv_1,v23_0)=>
  cond (decide (v23_0 < c.BeatCellar.Hours))
  (loopU (beat_cellar_grows_b3 c v15_0 e outv_1 v23_0) (([]:List Int),([]:List Int),0))
  (ext (nxt (outv_1,wr (v15_0 + 1))))
noncomputable def beat_cellar_grows_b1 (c:beat_cellar):((List beat_bound) × Int)→Option (((List beat_bound) × Int) ⊕ (List beat_bound))
 | (outv,v15_0)=>
  cond (decide (v15_0 < (c.BeatCellar.Rates.length:Int)))
  ((idx c.BeatCellar.Rates v15_0).bind fun e=>
  loopU (beat_cellar_grows_b2 c v15_0 e) (outv,0))
  (ext (some outv))
noncomputable def beat_cellar_grows (c:beat_cellar):Option (List beat_bound):=
  loopU (beat_cellar_grows_b1 c) (([]:List beat_bound),0)
theorem beat_cellar_grows_ok {w0:World} {D0:Stab} (hD:D0.on w0) (c:beat_cellar) {p:Option Addr} {c_1:Nat} {p_1:Option Addr} {c_2:Nat} {p_2:Option Addr} {c_3:Nat} {bm:Option Nat} (hs:SRc C_Span D0 c.BeatCellar.Rates p c_1) (hs_1:SRc C_BeatOpen D0 c.BeatCellar.Opens p_1 c_2) (hs_2:SRc C_BeatPair D0 c.BeatCellar.Pairs p_2 c_3) (hm:MapB kl_99 C_int false D0 c.place bm) (out:(List beat_bound)) (h:beat_cellar_grows c=some out):Calls Tryz.prog 126 [.agg #[iv c.BeatCellar.Hours,.slice p c.BeatCellar.Rates.length c_1,.slice p_1 c.BeatCellar.Opens.length c_2,.slice p_2 c.BeatCellar.Pairs.length c_3,iv c.left,.map bm]].toArray w0 (RetS D0 w0 fun D v=>∃ p_24 c_25,v=.slice p_24 out.length c_25∧SRc C_beat_bound D out p_24 c_25):=by
 refine enter _ 81 Tryz.func126 rfl Tryz.ntmps126 rfl fun a hF=>?_
 replace hF:Frm 81 [] [(0,.agg #[iv c.BeatCellar.Hours,.slice p c.BeatCellar.Rates.length c_1,.slice p_1 c.BeatCellar.Opens.length c_2,.slice p_2 c.BeatCellar.Pairs.length c_3,iv c.left,.map bm])] a:=hF
 have hS:=St.start hD
 unfold beat_cellar_grows at h
 refine seq (region (O.box (cs:=[iv c.BeatCellar.Hours,.slice p c.BeatCellar.Rates.length c_1,.slice p_1 c.BeatCellar.Opens.length c_2,.slice p_2 c.BeatCellar.Pairs.length c_3,iv c.left,.map bm]) 1 hF rfl rfl hS rfl fun b a w hF hS=>step hF (Y.assign hF rfl) rfl fun a hF=>nT (seq (region (step hF (Y.assign hF rfl) rfl fun a hF=>?_)))))
 replace hS:=hS.ownNil 2 106 5
 refine nT (seq (seq (region (step hF (Y.fieldAddr fo_96_0 hF rfl) rfl fun a hF=>step hF (Y.fieldAddr fo_35_1 hF rfl) rfl fun a hF=>step hF (Y.load1L 1 sz_31 hF rfl hS rfl rfl) rfl fun a hF=>step hF (Y.lenSl u_31 hF rfl) rfl fun a hF=>step hF (Y.move hF rfl) rfl fun a hF=>nT (block (loop_cut (body:=beat_cellar_grows_b1 c) (out:=out) (fun s a w=>∃ (outv:(List beat_bound)) (v15_0:Int),∃ (Dv:Stab),∃ p_3 c_4 cs,s=(outv,v15_0)∧D0.le Dv∧Frm 81 [] [(1,.pointer (some ⟨b,0,none⟩)),(2,.slice none 0 0),(3,.slice p_3 outv.length c_4),(13,.slice p c.BeatCellar.Rates.length c_1),(14,iv (c.BeatCellar.Rates.length:Int)),(15,iv v15_0)] a∧St w0 D0 Dv [(1,.cells b [iv c.BeatCellar.Hours,.slice p c.BeatCellar.Rates.length c_1,.slice p_1 c.BeatCellar.Opens.length c_2,.slice p_2 c.BeatCellar.Pairs.length c_3,iv c.left,.map bm] 96),(2,.own p_3 outv.length c_4 cs 106 5)] w∧Reps C_beat_bound Dv outv cs) (([]:List beat_bound),0) h ⟨([]:List beat_bound),0,D0,none,0,([]),rfl,Stab.le.refl _,hF.weak (AF rfl),hS.weak ⟨rfl,rfl,trivial⟩,Reps.nil⟩ ?_))))))
 rintro s a w xo ⟨outv,v15_0,Dv,p_3,c_4,cs,rfl,hlev,hF,hS,hr⟩ h hxo
 unfold beat_cellar_grows_b1 at h
 dsimp only at h
 replace hs:=hs.mono hlev
 replace hs_1:=hs_1.mono hlev
 refine seq (region (step hF (Y.lss hF rfl rfl) rfl fun a hF=>nT (seq (cond_b hF rfl (fun hbv=>?_) (fun hbv=>?_)))))
 ·replace h:=cond_t h hbv
  refine skip_ (then_n (seq (block (seq (region (step hF (Y.move hF rfl) rfl fun a hF=>?_))))))
  obtain ⟨e,hx,h⟩:=bind_some h
  obtain ⟨b_1,o,hE,hY⟩:=Y.indexS (P:=Tryz.prog) (C:=C_Span) (xs:=c.BeatCellar.Rates) (T:=31) (x:=(.tmp 13)) (y:=(.tmp 15)) u_31 sz_27 hF rfl rfl (hs).1 hx
  obtain ⟨cc,hc,hcell⟩:=hE.open
  obtain rfl:=C_Span.open hc
  refine step hF (hY) rfl fun a hF=>step hF (Y.loadNE (o:=o) (k:=0) sz_27 hF rfl (hcell _ hS.stab) rfl rfl) rfl fun a hF=>O.alloc 3 zc_27 hF hS rfl fun b_2 a w hF hS=>step hF (Y.assign hF rfl) rfl fun a hF=>O.store (us:=[iv e.Low,iv e.High]) 3 sz_27 hF rfl rfl rfl rfl hS rfl rfl fun a w hF hS=>nT (seq (region (step hF (Y.fieldAddr fo_96_0 hF rfl) rfl fun a hF=>step hF (Y.fieldAddr fo_35_0 hF rfl) rfl fun a hF=>step hF (Y.load1L 1 sz_3 hF rfl hS rfl rfl) rfl fun a hF=>step hF (Y.move hF rfl) rfl fun a hF=>nT (block (loop_cut (body:=beat_cellar_grows_b2 c v15_0 e) (out:=xo) (fun s a w=>∃ (outv_1:(List beat_bound)) (v23_0:Int),∃ (Dv_1:Stab),∃ p_4 c_5 cs_1,s=(outv_1,v23_0)∧Dv.le Dv_1∧Frm 81 [] [(1,.pointer (some ⟨b,0,none⟩)),(2,.slice none 0 0),(3,.slice p_4 outv_1.length c_5),(4,iv v15_0),(5,.pointer (some ⟨b_2,0,none⟩)),(13,.slice p c.BeatCellar.Rates.length c_1),(14,iv (c.BeatCellar.Rates.length:Int)),(15,iv v15_0),(22,iv c.BeatCellar.Hours),(23,iv v23_0)] a∧St w0 D0 Dv_1 [(1,.cells b [iv c.BeatCellar.Hours,.slice p c.BeatCellar.Rates.length c_1,.slice p_1 c.BeatCellar.Opens.length c_2,.slice p_2 c.BeatCellar.Pairs.length c_3,iv c.left,.map bm] 96),(2,.own p_4 outv_1.length c_5 cs_1 106 5),(3,.cells b_2 [iv e.Low,iv e.High] 27)] w∧Reps C_beat_bound Dv_1 outv_1 cs_1) (outv,0) h ⟨outv,0,Dv,p_3,c_4,cs,rfl,Stab.le.refl _,hF.weak (AF rfl),hS.weak (AL rfl),hr⟩ ?_)))))
  rintro s a w xo_1 ⟨outv_1,v23_0,Dv_1,p_4,c_5,cs_1,rfl,hlev_1,hF,hS,hr_1⟩ h hxo_1
  unfold beat_cellar_grows_b2 at h
  dsimp only at h
  replace hs_1:=hs_1.mono hlev_1
  refine seq (region (step hF (Y.lss hF rfl rfl) rfl fun a hF=>nT (seq (cond_b hF rfl (fun hbv_1=>?_) (fun hbv_1=>?_)))))
  ·replace h:=cond_t h hbv_1
   refine skip_ (then_n (seq (block (seq (region (step hF (Y.move hF rfl) rfl fun a hF=>step hF (Y.assign hF rfl) rfl fun a hF=>nT (seq (region ?_))))))))
   have hr_2:Reps C_int Dv_1 ([]:List Int) []:=Reps.nil
   refine O.buildSlice (E:=3) (C:=C_int) (xs:=([]:List Int)) (cs:=[]) (us:=[]) (parts:=[]) 4 hF hS rfl (by kernel_rfl) hr_2 rfl rfl rfl fun p_5 c_6 a w hF hS=>?_
   have hr_3:Reps C_int Dv_1 ([]:List Int) []:=Reps.nil
   refine O.buildSlice (E:=3) (C:=C_int) (xs:=([]:List Int)) (cs:=[]) (us:=[]) (parts:=[]) 5 hF hS rfl (by kernel_rfl) hr_3 rfl rfl rfl fun p_6 c_7 a w hF hS=>step hF (Y.assign hF rfl) rfl fun a hF=>step hF (Y.assign hF rfl) rfl fun a hF=>nT (seq (seq (region (step hF (Y.fieldAddr fo_96_0 hF rfl) rfl fun a hF=>step hF (Y.fieldAddr fo_35_2 hF rfl) rfl fun a hF=>step hF (Y.load1L 1 sz_32 hF rfl hS rfl rfl) rfl fun a hF=>step hF (Y.lenSl u_32 hF rfl) rfl fun a hF=>step hF (Y.move hF rfl) rfl fun a hF=>nT (block (loop_cut (body:=beat_cellar_grows_b3 c v15_0 e outv_1 v23_0) (out:=xo_1) (fun s a w=>∃ (lows:(List Int)) (highs:(List Int)) (v32_0:Int),∃ p_7 c_8 cs_2 p_8 c_9 cs_3,s=(lows,highs,v32_0)∧Frm 81 [] [(1,.pointer (some ⟨b,0,none⟩)),(2,.slice none 0 0),(3,.slice p_4 outv_1.length c_5),(4,iv v15_0),(5,.pointer (some ⟨b_2,0,none⟩)),(6,iv v23_0),(7,.slice p_7 lows.length c_8),(8,.slice p_8 highs.length c_9),(13,.slice p c.BeatCellar.Rates.length c_1),(14,iv (c.BeatCellar.Rates.length:Int)),(15,iv v15_0),(22,iv c.BeatCellar.Hours),(23,iv v23_0),(30,.slice p_1 c.BeatCellar.Opens.length c_2),(31,iv (c.BeatCellar.Opens.length:Int)),(32,iv v32_0)] a∧St w0 D0 Dv_1 [(1,.cells b [iv c.BeatCellar.Hours,.slice p c.BeatCellar.Rates.length c_1,.slice p_1 c.BeatCellar.Opens.length c_2,.slice p_2 c.BeatCellar.Pairs.length c_3,iv c.left,.map bm] 96),(2,.own p_4 outv_1.length c_5 cs_1 106 5),(3,.cells b_2 [iv e.Low,iv e.High] 27),(4,.own p_7 lows.length c_8 cs_2 3 1),(5,.own p_8 highs.length c_9 cs_3 3 1)] w∧Reps C_int Dv_1 lows cs_2∧Reps C_int Dv_1 highs cs_3) (([]:List Int),([]:List Int),0) h ⟨([]:List Int),([]:List Int),0,p_5,c_6,([]),p_6,c_7,([]),rfl,hF.weak (AF rfl),hS.weak (AL rfl),hr_2,hr_3⟩ ?_))))))
   rintro s a w xo_2 ⟨lows,highs,v32_0,p_7,c_8,cs_2,p_8,c_9,cs_3,rfl,hF,hS,hr_4,hr_5⟩ h hxo_2
   unfold beat_cellar_grows_b3 at h
   dsimp only at h
   refine seq (region (step hF (Y.lss hF rfl rfl) rfl fun a hF=>nT (seq (cond_b hF rfl (fun hbv_2=>?_) (fun hbv_2=>?_)))))
   ·replace h:=cond_t h hbv_2
    refine skip_ (then_n (seq (block (seq (region ?_)))))
    obtain ⟨e_1,hx_1,h⟩:=bind_some h
    obtain ⟨b_3,o_1,hE_1,hY_1⟩:=Y.indexS (P:=Tryz.prog) (C:=C_BeatOpen) (xs:=c.BeatCellar.Opens) (T:=32) (x:=(.tmp 30)) (y:=(.tmp 32)) u_32 sz_64 hF rfl rfl (hs_1).1 hx_1
    obtain ⟨cc_1,hc_1,hcell_1⟩:=hE_1.open
    obtain rfl:=C_BeatOpen.open hc_1
    refine step hF (hY_1) rfl fun a hF=>step hF (Y.loadNE (o:=o_1) (k:=0) sz_64 hF rfl (hcell_1 _ hS.stab) rfl rfl) rfl fun a hF=>O.alloc 6 zc_64 hF hS rfl fun b_4 a w hF hS=>O.store (us:=[iv e_1.Clock,iv e_1.Hour,iv e_1.Step.Low,iv e_1.Step.High]) 6 sz_64 hF rfl rfl rfl rfl hS rfl rfl fun a w hF hS=>nT (seq (region (step hF (Y.fieldAddr fo_64_0 hF rfl) rfl fun a hF=>step hF (Y.load1L 6 sz_3 hF rfl hS rfl rfl) rfl fun a hF=>step hF (Y.move hF rfl) rfl fun a hF=>step hF (Y.eql hF rfl rfl) rfl fun a hF=>step hF (Y.move hF rfl) rfl fun a hF=>join (N:=81) (rs:=[]) (w0:=w0) (D0:=D0) 5 (us:=[(1,.pointer (some ⟨b,0,none⟩)),(2,.slice none 0 0),(3,.slice p_4 outv_1.length c_5),(4,iv v15_0),(5,.pointer (some ⟨b_2,0,none⟩)),(6,iv v23_0),(7,.slice p_7 lows.length c_8),(8,.slice p_8 highs.length c_9),(10,.pointer (some ⟨b_4,0,none⟩)),(13,.slice p c.BeatCellar.Rates.length c_1),(14,iv (c.BeatCellar.Rates.length:Int)),(15,iv v15_0),(22,iv c.BeatCellar.Hours),(23,iv v23_0),(30,.slice p_1 c.BeatCellar.Opens.length c_2),(31,iv (c.BeatCellar.Opens.length:Int)),(32,iv v32_0),(45,.bool ((e_1.Clock == v15_0) && (e_1.Hour == v23_0)))]) (ms:=[(1,.cells b [iv c.BeatCellar.Hours,.slice p c.BeatCellar.Rates.length c_1,.slice p_1 c.BeatCellar.Opens.length c_2,.slice p_2 c.BeatCellar.Pairs.length c_3,iv c.left,.map bm] 96),(2,.own p_4 outv_1.length c_5 cs_1 106 5),(3,.cells b_2 [iv e.Low,iv e.High] 27),(4,.own p_7 lows.length c_8 cs_2 3 1),(5,.own p_8 highs.length c_9 cs_3 3 1),(6,.cells b_4 [iv e_1.Clock,iv e_1.Hour,iv e_1.Step.Low,iv e_1.Step.High] 64)]) (D':=Dv_1) ?_ ?_)))
    ·rcases bcases (e_1.Clock == v15_0) with hbv_3 | hbv_3
     ·skip
      refine guard_on hF rfl rfl hbv_3 (step hF (Y.fieldAddr fo_64_1 hF rfl) rfl fun a hF=>guard_on hF rfl rfl hbv_3 (step hF (Y.load1L 6 sz_3 hF rfl hS rfl rfl) rfl fun a hF=>guard_on hF rfl rfl hbv_3 (step hF (Y.move hF rfl) rfl fun a hF=>guard_on hF rfl rfl hbv_3 (step hF (Y.eql hF rfl rfl) rfl fun a hF=>step hF (Y.pick_t hF rfl hbv_3 rfl) rfl fun a hF=>nT ⟨hF.weak ⟨rfl,rfl,rfl,rfl,rfl,rfl,rfl,rfl,rfl,rfl,rfl,rfl,rfl,rfl,rfl,rfl,rfl,(by rw [hbv_3];rfl),trivial⟩,hS.weak (AL rfl)⟩))))
     refine guard_off hF rfl rfl hbv_3 rfl fun a hF=>guard_off hF rfl rfl hbv_3 rfl fun a hF=>guard_off hF rfl rfl hbv_3 rfl fun a hF=>guard_off hF rfl rfl hbv_3 rfl fun a hF=>step hF (Y.pick_f hF rfl hbv_3 rfl) rfl fun a hF=>nT ⟨hF.weak ⟨rfl,rfl,rfl,rfl,rfl,rfl,rfl,rfl,rfl,rfl,rfl,rfl,rfl,rfl,rfl,rfl,rfl,(by rw [hbv_3];rfl),trivial⟩,hS.weak (AL rfl)⟩
    intro a w hF hS
    refine nT (cond_b hF rfl (fun hbv_4=>?_) (fun hbv_4=>?_))
    ·replace h:=cond_t h hbv_4
     obtain ⟨hg,h⟩:=ite_some h
     refine drawsV 11 (.flt 0 (.flt 1 (.flt 2 (.flt 3 (.flt 6 (.flt 7 (.flt 8 (.flt 9 (.alt 4 (.alt 5 (.alt 10 .done .stop) (.alt 10 (.alt 5 .done .stop) .stop)) (.alt 10 (.alt 4 (.alt 5 .done .stop) .stop) .stop)))))))))) mixed_ (by kernel_rfl) (fun w=>St w0 D0 Dv_1 [(1,.cells b [iv c.BeatCellar.Hours,.slice p c.BeatCellar.Rates.length c_1,.slice p_1 c.BeatCellar.Opens.length c_2,.slice p_2 c.BeatCellar.Pairs.length c_3,iv c.left,.map bm] 96),(2,.own p_4 outv_1.length c_5 cs_1 106 5),(3,.cells b_2 [iv e.Low,iv e.High] 27),(5,.own p_8 highs.length c_9 cs_3 3 1),(6,.cells b_4 [iv e_1.Clock,iv e_1.Hour,iv e_1.Step.Low,iv e_1.Step.High] 64)] w) (fun a w=>∃ (p_10:Option Addr) (c_11:Nat) (p_11:Option Addr) (c_12:Nat) (p_9:Option Addr) (c_10:Nat),Frm 81 [] [(1,.pointer (some ⟨b,0,none⟩)),(2,.slice none 0 0),(3,.slice p_4 outv_1.length c_5),(4,iv v15_0),(5,.pointer (some ⟨b_2,0,none⟩)),(6,iv v23_0),(7,.slice p_7 lows.length c_8),(8,.slice p_8 highs.length c_9),(13,.slice p c.BeatCellar.Rates.length c_1),(14,iv (c.BeatCellar.Rates.length:Int)),(15,iv v15_0),(22,iv c.BeatCellar.Hours),(23,iv v23_0),(30,.slice p_1 c.BeatCellar.Opens.length c_2),(31,iv (c.BeatCellar.Opens.length:Int)),(32,iv v32_0),(51,.slice p_10 (lows ++ [e_1.Step.Low]).length c_11),(52,.slice p_8 highs.length c_9),(56,.slice p_11 ([e_1.Step.High]).length c_12)] a∧St w0 D0 Dv_1 [(1,.cells b [iv c.BeatCellar.Hours,.slice p c.BeatCellar.Rates.length c_1,.slice p_1 c.BeatCellar.Opens.length c_2,.slice p_2 c.BeatCellar.Pairs.length c_3,iv c.left,.map bm] 96),(2,.own p_4 outv_1.length c_5 cs_1 106 5),(3,.cells b_2 [iv e.Low,iv e.High] 27),(4,.own p_10 (lows ++ [e_1.Step.Low]).length c_11 (cs_2 ++ [iv e_1.Step.Low]) 3 1),(5,.own p_8 highs.length c_9 cs_3 3 1),(6,.cells b_4 [iv e_1.Clock,iv e_1.Hour,iv e_1.Step.Low,iv e_1.Step.High] 64),(7,.own p_9 ([e_1.Step.Low]).length c_10 ([iv e_1.Step.Low]) 3 1),(8,.own p_11 ([e_1.Step.High]).length c_12 ([iv e_1.Step.High]) 3 1)] w∧Reps C_int Dv_1 (lows ++ [e_1.Step.Low]) (cs_2 ++ [iv e_1.Step.Low])∧Reps C_int Dv_1 ([e_1.Step.Low]) ([iv e_1.Step.Low])∧Reps C_int Dv_1 ([e_1.Step.High]) ([iv e_1.Step.High])) (hS.weak (ms:=[(1,.cells b [iv c.BeatCellar.Hours,.slice p c.BeatCellar.Rates.length c_1,.slice p_1 c.BeatCellar.Opens.length c_2,.slice p_2 c.BeatCellar.Pairs.length c_3,iv c.left,.map bm] 96),(2,.own p_4 outv_1.length c_5 cs_1 106 5),(3,.cells b_2 [iv e.Low,iv e.High] 27),(5,.own p_8 highs.length c_9 cs_3 3 1),(6,.cells b_4 [iv e_1.Clock,iv e_1.Hour,iv e_1.Step.Low,iv e_1.Step.High] 64)]) (AL rfl)).drew (fun _ _ _ _ h=>h) ?_ ?_
     ·replace hS:=hS.drew
      have hle0:=hS.le
      refine stepV (i:=0) rfl hF (fun w hS=>Y.move hF rfl) rfl fun a hF=>stepV (i:=1) rfl hF (fun w hS=>Y.fieldAddr fo_64_2 hF rfl) rfl fun a hF=>stepV (i:=2) rfl hF (fun w hS=>Y.fieldAddr fo_27_0 hF rfl) rfl fun a hF=>stepV (i:=3) rfl hF (fun w hS=>Y.load1L 6 sz_3 hF rfl hS rfl rfl) rfl fun a hF=>stepV (i:=6) rfl hF (fun w hS=>Y.move hF rfl) rfl fun a hF=>stepV (i:=7) rfl hF (fun w hS=>Y.fieldAddr fo_64_2 hF rfl) rfl fun a hF=>stepV (i:=8) rfl hF (fun w hS=>Y.fieldAddr fo_27_1 hF rfl) rfl fun a hF=>stepV (i:=9) rfl hF (fun w hS=>Y.load1L 6 sz_3 hF rfl hS rfl rfl) rfl fun a hF=>oneV (i:=4) rfl ?_ ?_
      ·skip
       have hr_9:Reps C_int Dv_1 [e_1.Step.Low] [iv e_1.Step.Low]:=Reps.cons (C:=C_int) (x:=e_1.Step.Low) (c:=[iv e_1.Step.Low]) (r:=[]) rfl (Reps.nil)
       refine O.buildSlice (E:=3) (C:=C_int) (xs:=[e_1.Step.Low]) (cs:=[iv e_1.Step.Low]) (us:=[iv e_1.Step.Low]) (parts:=[(0,(.tmp 49))]) 7 hF hS rfl (by kernel_rfl) hr_9 rfl rfl rfl fun p_12 c_13 a w hF hS=>nT ⟨hS.weak (AL rfl),?_⟩
       refine oneV (i:=5) rfl ?_ ?_
       ·skip
        refine O.append (C:=C_int) (xs:=lows) (ys:=[e_1.Step.Low]) 4 gr_30 hF rfl rfl hS rfl (src_own (i:=7) hS rfl) hr_4 hr_9 hg rfl fun p_13 c_14 a w hF hS hr_10=>nT ⟨hS.weak (AL rfl),?_⟩
        refine oneV (i:=10) rfl ?_ trivial
        have hr_11:Reps C_int Dv_1 [e_1.Step.High] [iv e_1.Step.High]:=Reps.cons (C:=C_int) (x:=e_1.Step.High) (c:=[iv e_1.Step.High]) (r:=[]) rfl (Reps.nil)
        refine O.buildSlice (E:=3) (C:=C_int) (xs:=[e_1.Step.High]) (cs:=[iv e_1.Step.High]) (us:=[iv e_1.Step.High]) (parts:=[(0,(.tmp 55))]) 8 hF hS rfl (by kernel_rfl) hr_11 rfl rfl rfl fun p_14 c_15 a w hF hS=>nT ⟨hS.weak (AL rfl),?_⟩
        exact toTailV ⟨p_13,c_14,p_14,c_15,p_12,c_13,hF.weak (AF rfl),hS.weak (AL rfl),hr_10,hr_9,hr_11⟩
       refine oneV (i:=10) rfl ?_ trivial
       have hr_12:Reps C_int Dv_1 [e_1.Step.High] [iv e_1.Step.High]:=Reps.cons (C:=C_int) (x:=e_1.Step.High) (c:=[iv e_1.Step.High]) (r:=[]) rfl (Reps.nil)
       refine O.buildSlice (E:=3) (C:=C_int) (xs:=[e_1.Step.High]) (cs:=[iv e_1.Step.High]) (us:=[iv e_1.Step.High]) (parts:=[(0,(.tmp 55))]) 8 hF hS rfl (by kernel_rfl) hr_12 rfl rfl rfl fun p_15 c_16 a w hF hS=>nT ⟨hS.weak (AL rfl),?_⟩
       refine oneV (i:=5) rfl ?_ trivial
       refine O.append (C:=C_int) (xs:=lows) (ys:=[e_1.Step.Low]) 4 gr_30 hF rfl rfl hS rfl (src_own (i:=7) hS rfl) hr_4 hr_9 hg rfl fun p_16 c_17 a w hF hS hr_13=>nT ⟨hS.weak (AL rfl),?_⟩
       exact toTailV ⟨p_16,c_17,p_15,c_16,p_12,c_13,hF.weak (AF rfl),hS.weak (AL rfl),hr_13,hr_9,hr_12⟩
      refine oneV (i:=10) rfl ?_ trivial
      have hr_14:Reps C_int Dv_1 [e_1.Step.High] [iv e_1.Step.High]:=Reps.cons (C:=C_int) (x:=e_1.Step.High) (c:=[iv e_1.Step.High]) (r:=[]) rfl (Reps.nil)
      refine O.buildSlice (E:=3) (C:=C_int) (xs:=[e_1.Step.High]) (cs:=[iv e_1.Step.High]) (us:=[iv e_1.Step.High]) (parts:=[(0,(.tmp 55))]) 8 hF hS rfl (by kernel_rfl) hr_14 rfl rfl rfl fun p_17 c_18 a w hF hS=>nT ⟨hS.weak (AL rfl),?_⟩
      refine oneV (i:=4) rfl ?_ trivial
      have hr_15:Reps C_int Dv_1 [e_1.Step.Low] [iv e_1.Step.Low]:=Reps.cons (C:=C_int) (x:=e_1.Step.Low) (c:=[iv e_1.Step.Low]) (r:=[]) rfl (Reps.nil)
      refine O.buildSlice (E:=3) (C:=C_int) (xs:=[e_1.Step.Low]) (cs:=[iv e_1.Step.Low]) (us:=[iv e_1.Step.Low]) (parts:=[(0,(.tmp 49))]) 7 hF hS rfl (by kernel_rfl) hr_15 rfl rfl rfl fun p_18 c_19 a w hF hS=>nT ⟨hS.weak (AL rfl),?_⟩
      refine oneV (i:=5) rfl ?_ trivial
      refine O.append (C:=C_int) (xs:=lows) (ys:=[e_1.Step.Low]) 4 gr_30 hF rfl rfl hS rfl (src_own (i:=7) hS rfl) hr_4 hr_15 hg rfl fun p_19 c_20 a w hF hS hr_16=>nT ⟨hS.weak (AL rfl),?_⟩
      exact toTailV ⟨p_19,c_20,p_17,c_18,p_18,c_19,hF.weak (AF rfl),hS.weak (AL rfl),hr_16,hr_15,hr_14⟩
     rintro a w ⟨p_10,c_11,p_11,c_12,p_9,c_10,hF,hS,hj,hj_1,hj_2⟩
     obtain ⟨hg_1,h⟩:=ite_some h
     refine O.append (C:=C_int) (xs:=highs) (ys:=[e_1.Step.High]) 5 gr_30 hF rfl rfl hS rfl (src_own (i:=8) hS rfl) hr_5 hj_2 hg_1 rfl fun p_20 c_21 a w hF hS hr_17=>step hF (Y.assign hF rfl) rfl fun a hF=>step hF (Y.assign hF rfl) rfl fun a hF=>nil (blk_n (then_n (region (step hF (Y.add hF rfl rfl) rfl fun a hF=>step hF (Y.move hF rfl) rfl fun a hF=>nT (⟨_,nxt_some h,(lows ++ [e_1.Step.Low]),(highs ++ [e_1.Step.High]),(wr (v32_0 + 1)),p_10,c_11,(cs_2 ++ [iv e_1.Step.Low]),p_20,c_21,(cs_3 ++ [iv e_1.Step.High]),rfl,hF.weak (AF rfl),hS.weak (AL rfl),hj,hr_17⟩)))))
    replace h:=cond_f h hbv_4
    refine skip_ (blk_n (then_n (region (step hF (Y.add hF rfl rfl) rfl fun a hF=>step hF (Y.move hF rfl) rfl fun a hF=>nT (⟨_,nxt_some h,lows,highs,(wr (v32_0 + 1)),p_7,c_8,cs_2,p_8,c_9,cs_3,rfl,hF.weak (AF rfl),hS.weak (AL rfl),hr_4,hr_5⟩)))))
   replace h:=cond_f h hbv_2
   refine exit_ (then_x (then_x (blk_hit (then_n ?_))))
   replace h:=ext_some h hxo_2
   obtain ⟨rv,hx_2,h⟩:=bind_some h
   obtain ⟨rv_1,hx_3,h⟩:=bind_some h
   obtain ⟨rv_2,hx_4,h⟩:=bind_some h
   refine drawsV 18 (.flt 0 (.flt 1 (.flt 2 (.flt 3 (.flt 4 (.flt 5 (.flt 6 (.flt 7 (.flt 8 (.flt 9 (.flt 10 (.flt 12 (.flt 13 (.flt 14 (.alt 11 (.alt 15 (.flt 16 (.alt 17 .done .stop)) .stop) .stop))))))))))))))) mixed_ (by kernel_rfl) (fun w=>St w0 D0 Dv_1 [(1,.cells b [iv c.BeatCellar.Hours,.slice p c.BeatCellar.Rates.length c_1,.slice p_1 c.BeatCellar.Opens.length c_2,.slice p_2 c.BeatCellar.Pairs.length c_3,iv c.left,.map bm] 96),(2,.own p_4 outv_1.length c_5 cs_1 106 5),(3,.cells b_2 [iv e.Low,iv e.High] 27)] w) (fun a w=>∃ (Dv_5:Stab) (p_21:Option Addr) (c_22:Nat),Dv_1.le Dv_5∧Frm 81 [] [(1,.pointer (some ⟨b,0,none⟩)),(2,.slice none 0 0),(3,.slice p_4 outv_1.length c_5),(4,iv v15_0),(5,.pointer (some ⟨b_2,0,none⟩)),(13,.slice p c.BeatCellar.Rates.length c_1),(14,iv (c.BeatCellar.Rates.length:Int)),(15,iv v15_0),(22,iv c.BeatCellar.Hours),(23,iv v23_0),(59,.slice p_4 outv_1.length c_5),(76,.slice p_21 rv_2.length c_22)] a∧St w0 D0 Dv_5 [(1,.cells b [iv c.BeatCellar.Hours,.slice p c.BeatCellar.Rates.length c_1,.slice p_1 c.BeatCellar.Opens.length c_2,.slice p_2 c.BeatCellar.Pairs.length c_3,iv c.left,.map bm] 96),(2,.own p_4 outv_1.length c_5 cs_1 106 5),(3,.cells b_2 [iv e.Low,iv e.High] 27)] w∧SRc C_beat_bound Dv_5 rv_2 p_21 c_22) (hS.weak (ms:=[(1,.cells b [iv c.BeatCellar.Hours,.slice p c.BeatCellar.Rates.length c_1,.slice p_1 c.BeatCellar.Opens.length c_2,.slice p_2 c.BeatCellar.Pairs.length c_3,iv c.left,.map bm] 96),(2,.own p_4 outv_1.length c_5 cs_1 106 5),(3,.cells b_2 [iv e.Low,iv e.High] 27)]) (AL rfl)).drew (fun _ _ _ _ h=>h) ?_ ?_
   ·replace hS:=hS.drew
    have hle0:=hS.le
    refine stepV (i:=0) rfl hF (fun w hS=>Y.move hF rfl) rfl fun a hF=>stepV (i:=1) rfl hF (fun w hS=>Y.move hF rfl) rfl fun a hF=>stepV (i:=2) rfl hF (fun w hS=>Y.move hF rfl) rfl fun a hF=>stepV (i:=3) rfl hF (fun w hS=>Y.add hF rfl rfl) rfl fun a hF=>stepV (i:=4) rfl hF (fun w hS=>Y.build (parts:=[(0,(.tmp 60)),(1,(.tmp 62))]) (cs:=#[iv v15_0,iv (wr (v23_0 + 1))]) hF rfl (by kernel_rfl)) rfl fun a hF=>stepV (i:=5) rfl hF (fun w hS=>Y.move hF rfl) rfl fun a hF=>stepV (i:=6) rfl hF (fun w hS=>Y.move hF rfl) rfl fun a hF=>stepV (i:=7) rfl hF (fun w hS=>Y.build (parts:=[(0,(.tmp 64)),(1,(.tmp 65))]) (cs:=#[iv v15_0,iv v23_0]) hF rfl (by kernel_rfl)) rfl fun a hF=>stepV (i:=8) rfl hF (fun w hS=>Y.fieldAddr fo_27_0 hF rfl) rfl fun a hF=>stepV (i:=9) rfl hF (fun w hS=>Y.load1L 3 sz_3 hF rfl hS rfl rfl) rfl fun a hF=>stepV (i:=10) rfl hF (fun w hS=>Y.move hF rfl) rfl fun a hF=>stepV (i:=12) rfl hF (fun w hS=>Y.fieldAddr fo_27_1 hF rfl) rfl fun a hF=>stepV (i:=13) rfl hF (fun w hS=>Y.load1L 3 sz_3 hF rfl hS rfl rfl) rfl fun a hF=>stepV (i:=14) rfl hF (fun w hS=>Y.move hF rfl) rfl fun a hF=>oneV (i:=11) rfl ?_ trivial
    obtain ⟨Dv_6,hlev_5,hs_6,hS⟩:=hS.freezeC (C:=C_int) (i:=4) (xs:=lows) rfl hr_4
    replace hr_5:=hr_5.mono hlev_5
    refine O.callP (us:=[iv e.Low,.slice p_7 lows.length c_8]) ca_130 hF hS (beat_sum_int__ok hS.stab e.Low lows hs_6 rv hx_2) rfl rfl fun a w hF hS=>nT ⟨(hS.weak (ms:=[(1,.cells b [iv c.BeatCellar.Hours,.slice p c.BeatCellar.Rates.length c_1,.slice p_1 c.BeatCellar.Opens.length c_2,.slice p_2 c.BeatCellar.Pairs.length c_3,iv c.left,.map bm] 96),(2,.own p_4 outv_1.length c_5 cs_1 106 5),(3,.cells b_2 [iv e.Low,iv e.High] 27)]) (AL rfl)).weakD hlev_5 hle0,?_⟩
    refine oneV (i:=15) rfl ?_ trivial
    obtain ⟨Dv_7,hlev_6,hs_7,hS⟩:=hS.freezeC (C:=C_int) (i:=5) (xs:=highs) rfl hr_5
    refine O.callP (us:=[iv e.High,.slice p_8 highs.length c_9]) ca_130 hF hS (beat_sum_int__ok hS.stab e.High highs hs_7 rv_1 hx_3) rfl rfl fun a w hF hS=>nT ⟨(hS.weak (ms:=[(1,.cells b [iv c.BeatCellar.Hours,.slice p c.BeatCellar.Rates.length c_1,.slice p_1 c.BeatCellar.Opens.length c_2,.slice p_2 c.BeatCellar.Pairs.length c_3,iv c.left,.map bm] 96),(2,.own p_4 outv_1.length c_5 cs_1 106 5),(3,.cells b_2 [iv e.Low,iv e.High] 27)]) (AL rfl)).weakD (hlev_5.trans hlev_6) hle0,?_⟩
    refine stepV (i:=16) rfl hF (fun w hS=>Y.build (parts:=[(0,(.tmp 70)),(1,(.tmp 74))]) (cs:=#[iv rv,iv rv_1]) hF rfl (by kernel_rfl)) rfl fun a hF=>oneV (i:=17) rfl ?_ trivial
    refine O.callS (us:=[.agg #[iv v15_0,iv (wr (v23_0 + 1))],.agg #[iv v15_0,iv v23_0],.agg #[iv rv,iv rv_1]]) ca_129 hF hS (beat_both_ok hS.stab (beat_spot.mk v15_0 (wr (v23_0 + 1))) (beat_spot.mk v15_0 v23_0) (Span.mk rv rv_1) rv_2 hx_4) rfl rfl fun v_1 Dv_8 a w hR_1 hlev_7 hF hS=>?_
    obtain ⟨p_22,c_23,rfl,hs_8⟩:=hR_1
    refine nT ⟨(hS.weak (ms:=[(1,.cells b [iv c.BeatCellar.Hours,.slice p c.BeatCellar.Rates.length c_1,.slice p_1 c.BeatCellar.Opens.length c_2,.slice p_2 c.BeatCellar.Pairs.length c_3,iv c.left,.map bm] 96),(2,.own p_4 outv_1.length c_5 cs_1 106 5),(3,.cells b_2 [iv e.Low,iv e.High] 27)]) (AL rfl)).weakD (hlev_5.trans (hlev_6.trans hlev_7)) hle0,?_⟩
    exact toTailV ⟨Dv_8,p_22,c_23,hlev_5.trans (hlev_6.trans hlev_7),hF.weak (AF rfl),hS.weak (AL rfl),hs_8⟩
   rintro a w ⟨Dv_5,p_21,c_22,hle,hF,hS,hj_3⟩
   have hlev_8:=hle
   replace hr_1:=hr_1.mono hlev_8
   obtain ⟨hg_2,h⟩:=ite_some h
   obtain ⟨ds,hds,hsrc⟩:=src_stab (C:=C_beat_bound) (xs:=rv_2) (hj_3).1 hS.stab
   refine O.append (C:=C_beat_bound) (xs:=outv_1) (ys:=rv_2) 2 gr_104 hF rfl rfl hS rfl hsrc hr_1 hds hg_2 rfl fun p_23 c_24 a w hF hS hr_18=>step hF (Y.assign hF rfl) rfl fun a hF=>nil (blk_n (then_n (region (step hF (Y.add hF rfl rfl) rfl fun a hF=>step hF (Y.move hF rfl) rfl fun a hF=>nT (⟨_,nxt_some h,(outv_1 ++ rv_2),(wr (v23_0 + 1)),Dv_5,p_23,c_24,(cs_1 ++ ds),rfl,hlev_1.trans hlev_8,hF.weak (AF rfl),hS.weak (AL rfl),hr_18⟩)))))
  replace h:=cond_f h hbv_1
  refine exit_ (then_x (then_x (blk_hit (blk_n (then_n ?_)))))
  replace h:=ext_some h hxo_1
  refine region (step hF (Y.add hF rfl rfl) rfl fun a hF=>step hF (Y.move hF rfl) rfl fun a hF=>nT (⟨_,nxt_some h,outv_1,(wr (v15_0 + 1)),Dv_1,p_4,c_5,cs_1,rfl,hlev.trans hlev_1,hF.weak (AF rfl),hS.weak ⟨rfl,rfl,trivial⟩,hr_1⟩))
 replace h:=cond_f h hbv
 refine exit_ (then_x (then_x (blk_hit (then_n ?_))))
 replace h:=ext_some h hxo
 refine seq (region (step hF (Y.move hF rfl) rfl fun a hF=>step hF (Y.assign hF rfl) rfl fun a hF=>nT (ret_ ?_)))
 obtain ⟨Dv_9,hlev_9,hs_9,hS⟩:=hS.freezeC (C:=C_beat_bound) (i:=2) (xs:=outv) rfl hr
 obtain rfl:=some_inj h
 exact leaveS Tryz.results126 hF hS (.cons (.tmp rfl) .nil) .nil ⟨_,_,rfl,hs_9⟩
noncomputable def beat_cellar_of (c:beat_cellar) (p_3:BeatPair):Option Bool:=
  if ¬ p_3.One < 0 then
  (cond ((bitsOp .and (gshr c.left p_3.One) 1) == 1) (some true) ((cond (decide (p_3.Other ≥ 0)) (if ¬ p_3.Other < 0 then
  some ((bitsOp .and (gshr c.left p_3.Other) 1) == 1)
  else none) (some false)).bind fun t=>
  some t)).bind fun t_1=>
  some t_1
  else none
theorem beat_cellar_of_ok {w0:World} {D0:Stab} (hD:D0.on w0) (c:beat_cellar) (p_3:BeatPair) {p:Option Addr} {c_1:Nat} {p_1:Option Addr} {c_2:Nat} {p_2:Option Addr} {c_3:Nat} {bm:Option Nat} (hs:SRc C_Span D0 c.BeatCellar.Rates p c_1) (hs_1:SRc C_BeatOpen D0 c.BeatCellar.Opens p_1 c_2) (hs_2:SRc C_BeatPair D0 c.BeatCellar.Pairs p_2 c_3) (hm:MapB kl_99 C_int false D0 c.place bm) (out:Bool) (h:beat_cellar_of c p_3=some out):Calls Tryz.prog 133 [.agg #[iv c.BeatCellar.Hours,.slice p c.BeatCellar.Rates.length c_1,.slice p_1 c.BeatCellar.Opens.length c_2,.slice p_2 c.BeatCellar.Pairs.length c_3,iv c.left,.map bm],.agg #[iv p_3.Hour,iv p_3.One,iv p_3.Other,iv p_3.Read.Low,iv p_3.Read.High]].toArray w0 (RetP D0 w0 (.bool out)):=by
 refine enter _ 26 Tryz.func133 rfl Tryz.ntmps133 rfl fun a hF=>?_
 replace hF:Frm 26 [] [(0,.agg #[iv c.BeatCellar.Hours,.slice p c.BeatCellar.Rates.length c_1,.slice p_1 c.BeatCellar.Opens.length c_2,.slice p_2 c.BeatCellar.Pairs.length c_3,iv c.left,.map bm]),(1,.agg #[iv p_3.Hour,iv p_3.One,iv p_3.Other,iv p_3.Read.Low,iv p_3.Read.High])] a:=hF
 have hS:=St.start hD
 unfold beat_cellar_of at h
 refine seq (region (O.box (cs:=[iv c.BeatCellar.Hours,.slice p c.BeatCellar.Rates.length c_1,.slice p_1 c.BeatCellar.Opens.length c_2,.slice p_2 c.BeatCellar.Pairs.length c_3,iv c.left,.map bm]) 1 hF rfl rfl hS rfl fun b a w hF hS=>O.box (cs:=[iv p_3.Hour,iv p_3.One,iv p_3.Other,iv p_3.Read.Low,iv p_3.Read.High]) 2 hF rfl rfl hS rfl fun b_1 a w hF hS=>step hF (Y.assign hF rfl) rfl fun a hF=>nT (seq (region (step hF (Y.fieldAddr fo_96_1 hF rfl) rfl fun a hF=>step hF (Y.load1L 1 sz_3 hF rfl hS rfl rfl) rfl fun a hF=>step hF (Y.fieldAddr fo_52_1 hF rfl) rfl fun a hF=>step hF (Y.load1L 2 sz_3 hF rfl hS rfl rfl) rfl fun a hF=>?_)))))
 obtain ⟨hg,h⟩:=ite_some h
 refine step hF (Y.shr hF rfl rfl hg) rfl fun a hF=>step hF (Y.and hF rfl rfl) rfl fun a hF=>step hF (Y.eql hF rfl rfl) rfl fun a hF=>step hF (Y.move hF rfl) rfl fun a hF=>?_
 obtain ⟨t_1,ht_1,h⟩:=bind_some h
 refine join (N:=26) (rs:=[]) (w0:=w0) (D0:=D0) 13 (us:=[(4,.bool false),(25,.bool t_1)]) (ms:=[(1,.cells b [iv c.BeatCellar.Hours,.slice p c.BeatCellar.Rates.length c_1,.slice p_1 c.BeatCellar.Opens.length c_2,.slice p_2 c.BeatCellar.Pairs.length c_3,iv c.left,.map bm] 96),(2,.cells b_1 [iv p_3.Hour,iv p_3.One,iv p_3.Other,iv p_3.Read.Low,iv p_3.Read.High] 52)]) (D':=D0) ?_ ?_
 ·rcases bcases ((bitsOp .and (gshr c.left p_3.One) 1) == 1) with hbv | hbv
  ·skip
   replace h:=cond_t ht_1 hbv
   refine guard_off hF rfl rfl hbv rfl fun a hF=>guard_off hF rfl rfl hbv rfl fun a hF=>guard_off hF rfl rfl hbv rfl fun a hF=>guard_off hF rfl rfl hbv rfl fun a hF=>guard_offu hF rfl rfl rfl fun a hF=>guard_offu hF rfl rfl rfl fun a hF=>guard_offu hF rfl rfl rfl fun a hF=>guard_offu hF rfl rfl rfl fun a hF=>guard_offu hF rfl rfl rfl fun a hF=>guard_offu hF rfl rfl rfl fun a hF=>guard_offu hF rfl rfl rfl fun a hF=>guard_off hF rfl rfl hbv rfl fun a hF=>step hF (Y.pick_t hF rfl hbv rfl) rfl fun a hF=>?_
   obtain rfl:=some_inj h
   exact nT ⟨hF.weak ⟨rfl,rfl,trivial⟩,hS.weak ⟨rfl,rfl,trivial⟩⟩
  replace h:=cond_f ht_1 hbv
  refine guard_on hF rfl rfl hbv (step hF (Y.fieldAddr fo_52_2 hF rfl) rfl fun a hF=>guard_on hF rfl rfl hbv (step hF (Y.load1L 2 sz_3 hF rfl hS rfl rfl) rfl fun a hF=>guard_on hF rfl rfl hbv (step hF (Y.geq hF rfl rfl) rfl fun a hF=>guard_on hF rfl rfl hbv (step hF (Y.move hF rfl) rfl fun a hF=>?_))))
  obtain ⟨t,ht,h⟩:=bind_some h
  refine join (N:=26) (rs:=[]) (w0:=w0) (D0:=D0) 8 (us:=[(4,.bool false),(12,.bool ((bitsOp .and (gshr c.left p_3.One) 1) == 1)),(24,.bool t)]) (ms:=[(1,.cells b [iv c.BeatCellar.Hours,.slice p c.BeatCellar.Rates.length c_1,.slice p_1 c.BeatCellar.Opens.length c_2,.slice p_2 c.BeatCellar.Pairs.length c_3,iv c.left,.map bm] 96),(2,.cells b_1 [iv p_3.Hour,iv p_3.One,iv p_3.Other,iv p_3.Read.Low,iv p_3.Read.High] 52)]) (D':=D0) ?_ ?_
  ·rcases bcases (decide (p_3.Other ≥ 0)) with hbv_1 | hbv_1
   ·skip
    replace h:=cond_t ht hbv_1
    refine guard_on hF rfl rfl hbv_1 (step hF (Y.fieldAddr fo_96_1 hF rfl) rfl fun a hF=>guard_on hF rfl rfl hbv_1 (step hF (Y.load1L 1 sz_3 hF rfl hS rfl rfl) rfl fun a hF=>guard_on hF rfl rfl hbv_1 (step hF (Y.fieldAddr fo_52_2 hF rfl) rfl fun a hF=>guard_on hF rfl rfl hbv_1 (step hF (Y.load1L 2 sz_3 hF rfl hS rfl rfl) rfl fun a hF=>?_))))
    obtain ⟨hg_1,h⟩:=ite_some h
    refine guard_on hF rfl rfl hbv_1 (step hF (Y.shr hF rfl rfl hg_1) rfl fun a hF=>guard_on hF rfl rfl hbv_1 (step hF (Y.and hF rfl rfl) rfl fun a hF=>guard_on hF rfl rfl hbv_1 (step hF (Y.eql hF rfl rfl) rfl fun a hF=>guard_on hF rfl rfl hbv (step hF (Y.pick_t hF rfl hbv_1 rfl) rfl fun a hF=>?_))))
    obtain rfl:=some_inj h
    exact nT ⟨hF.weak (AF rfl),hS.weak ⟨rfl,rfl,trivial⟩⟩
   replace h:=cond_f ht hbv_1
   refine guard_off hF rfl rfl hbv_1 rfl fun a hF=>guard_off hF rfl rfl hbv_1 rfl fun a hF=>guard_off hF rfl rfl hbv_1 rfl fun a hF=>guard_off hF rfl rfl hbv_1 rfl fun a hF=>guard_off hF rfl rfl hbv_1 rfl fun a hF=>guard_off hF rfl rfl hbv_1 rfl fun a hF=>guard_off hF rfl rfl hbv_1 rfl fun a hF=>guard_on hF rfl rfl hbv (step hF (Y.pick_f hF rfl hbv_1 rfl) rfl fun a hF=>?_)
   obtain rfl:=some_inj h
   exact nT ⟨hF.weak (AF rfl),hS.weak ⟨rfl,rfl,trivial⟩⟩
  intro a w hF hS
  refine step hF (Y.pick_f hF rfl hbv rfl) rfl fun a hF=>?_
  obtain rfl:=some_inj h
  exact nT ⟨hF.weak ⟨rfl,rfl,trivial⟩,hS.weak ⟨rfl,rfl,trivial⟩⟩
 intro a w hF hS
 refine step hF (Y.assign hF rfl) rfl fun a hF=>nT (ret_ ?_)
 obtain rfl:=some_inj h
 exact leaveP Tryz.results133 hF hS (.cons (.tmp rfl) .nil) .nil rfl
noncomputable def beat_cellar_pairs_1_b1 {σ:Type} (cv:beat_cellar) (cv_1:Int) (yield_:BeatPair→σ→Option σ):(Int × σ)→Option ((Int × σ) ⊕ σ)
 | (v10_0,sy)=>
  cond (decide (v10_0 < (cv.BeatCellar.Pairs.length:Int)))
  ((idx cv.BeatCellar.Pairs v10_0).bind fun e=>
  (cond (e.Hour == cv_1) ((beat_cellar_of cv e).bind fun rv=>
  some (!rv)) (some false)).bind fun t=>
  cond t
  ((yield_ e sy).bind fun sy_1=>
  nxt (wr (v10_0 + 1),sy_1))
  (nxt (wr (v10_0 + 1),sy)))
  (ext (some sy))
noncomputable def beat_cellar_pairs_1 {σ:Type} (yield_:BeatPair→σ→Option σ) (cv:beat_cellar) (cv_1:Int) (s0:σ):Option σ:=
  loopU (beat_cellar_pairs_1_b1 cv cv_1 yield_) (0,s0)
theorem beat_cellar_pairs_1_it {w0:World} {D0:Stab} {σ:Type} {Inv:σ→Stab→List (Nat × LR)→Prop} {yield_:BeatPair→σ→Option σ} (hlt:∀ s D ms,Inv s D ms→∀ i r,lk ms i=some r→i < 1000) (hmono:∀ s D ms D2,Inv s D ms→D.le D2→Inv s D2 ms) (l:Nat) (cv:beat_cellar) (cv_1:Int) {p:Option Addr} {c:Nat} {p_1:Option Addr} {c_1:Nat} {p_2:Option Addr} {c_2:Nat} {bm:Option Nat} {bb:Nat} {bb_1:Nat} {Ds:Stab} (hs:SRc C_Span Ds cv.BeatCellar.Rates p c) (hs_1:SRc C_BeatOpen Ds cv.BeatCellar.Opens p_1 c_1) (hs_2:SRc C_BeatPair Ds cv.BeatCellar.Pairs p_2 c_2) (hm:MapB kl_99 C_int false Ds cv.place bm) (hbv:Ds bb=some (.cells ([iv cv.BeatCellar.Hours,.slice p cv.BeatCellar.Rates.length c,.slice p_1 cv.BeatCellar.Opens.length c_1,.slice p_2 cv.BeatCellar.Pairs.length c_2,iv cv.left,.map bm]).toArray 96 (0,0))) (hbv_1:Ds bb_1=some (.cells ([iv cv_1]).toArray 3 (0,0))) (s0 out:σ) (hround:∀ (x:BeatPair) (s s2:σ) (D:Stab) (ms:List (Nat × LR)) (w:World),yield_ x s=some s2→Ds.le D→Inv s D ms→St w0 D0 D ms w→Yld Tryz.prog l [.agg #[iv x.Hour,iv x.One,iv x.Other,iv x.Read.Low,iv x.Read.High]] w (fun w2=>∃ D2 ms2,D.le D2∧Inv s2 D2 ms2∧St w0 D0 D2 ms2 w2)) (h:beat_cellar_pairs_1 yield_ cv cv_1 s0=some out) {ms:List (Nat × LR)} {w:World} (hI:Inv s0 Ds ms) (hS:St w0 D0 Ds ms w):
  CallsIn (Fw none) 0 Tryz.prog 132 [.func (.yield l) #[] #[],.pointer (some ⟨bb,0,none⟩),.pointer (some ⟨bb_1,0,none⟩)].toArray w (fun e w2=>(∃ v,e=.returned v)∧∃ D2 ms2,Ds.le D2∧Inv out D2 ms2∧St w0 D0 D2 ms2 w2):=by
 refine callsIn_fw (r:=none) (enter _ 31 Tryz.func132 rfl Tryz.ntmps132 rfl fun a hF=>?_)
 replace hF:Frm 31 [] [(0,.func (.yield l) #[] #[]),(1,.pointer (some ⟨bb,0,none⟩)),(2,.pointer (some ⟨bb_1,0,none⟩))] a:=hF
 unfold beat_cellar_pairs_1 at h
 refine seq (region (step hF (Y.fieldAddr fo_96_0 hF rfl) rfl fun a hF=>step hF (Y.fieldAddr fo_35_3 hF rfl) rfl fun a hF=>step hF (Y.load1H sz_33 hF rfl (hS.stab _ _ hbv) rfl) rfl fun a hF=>step hF (Y.lenSl u_33 hF rfl) rfl fun a hF=>step hF (Y.move hF rfl) rfl fun a hF=>nT (block (loop_cut (body:=beat_cellar_pairs_1_b1 cv cv_1 yield_) (out:=out) (fun s a w=>∃ (v10_0:Int) (sy:σ),∃ (Dv:Stab),∃ ms_1,s=(v10_0,sy)∧Ds.le Dv∧Frm 31 [] [(0,.func (.yield l) #[] #[]),(1,.pointer (some ⟨bb,0,none⟩)),(2,.pointer (some ⟨bb_1,0,none⟩)),(8,.slice p_2 cv.BeatCellar.Pairs.length c_2),(9,iv (cv.BeatCellar.Pairs.length:Int)),(10,iv v10_0)] a∧St w0 D0 Dv (ms_1) w∧Inv sy Dv ms_1) (0,s0) h ⟨0,s0,Ds,ms,rfl,Stab.le.refl _,hF.weak (AF rfl),hS.sub (fun j r hj=>by have hl:=(hlt _ _ _ hI) j r hj;(repeat rw [lk_ne (by omega)]);exact hj),hI⟩ ?_))))
 rintro s a w xo ⟨v10_0,sy,Dv,ms_1,rfl,hlev,hF,hS,hI_1⟩ h hxo
 unfold beat_cellar_pairs_1_b1 at h
 dsimp only at h
 replace hs:=hs.mono hlev
 replace hs_1:=hs_1.mono hlev
 replace hs_2:=hs_2.mono hlev
 replace hm:=hm.mono hlev
 replace hbv:=hlev _ _ hbv
 replace hbv_1:=hlev _ _ hbv_1
 replace hI:=hmono _ _ _ _ hI hlev
 refine seq (region (step hF (Y.lss hF rfl rfl) rfl fun a hF=>nT (seq (cond_b hF rfl (fun hbv_2=>?_) (fun hbv_2=>?_)))))
 ·replace h:=cond_t h hbv_2
  refine skip_ (then_n (seq (block (seq (region ?_)))))
  obtain ⟨e,hx,h⟩:=bind_some h
  obtain ⟨b,o,hE,hY⟩:=Y.indexS (P:=Tryz.prog) (C:=C_BeatPair) (xs:=cv.BeatCellar.Pairs) (T:=33) (x:=(.tmp 8)) (y:=(.tmp 10)) u_33 sz_52 hF rfl rfl (hs_2).1 hx
  obtain ⟨cc,hc,hcell⟩:=hE.open
  obtain rfl:=C_BeatPair.open hc
  refine step hF (hY) rfl fun a hF=>step hF (Y.loadNE (o:=o) (k:=0) sz_52 hF rfl (hcell _ hS.stab) rfl rfl) rfl fun a hF=>O.alloc 1003 zc_52 hF hS rfl fun b_1 a w hF hS=>O.store (us:=[iv e.Hour,iv e.One,iv e.Other,iv e.Read.Low,iv e.Read.High]) 1003 sz_52 hF rfl rfl rfl rfl hS rfl rfl fun a w hF hS=>nT (seq (region (step hF (Y.fieldAddr fo_52_0 hF rfl) rfl fun a hF=>step hF (Y.load1L 1003 sz_3 hF rfl hS rfl rfl) rfl fun a hF=>step hF (Y.load1H sz_3 hF rfl (hS.stab _ _ hbv_1) rfl) rfl fun a hF=>step hF (Y.eql hF rfl rfl) rfl fun a hF=>step hF (Y.move hF rfl) rfl fun a hF=>?_)))
  obtain ⟨t,ht,h⟩:=bind_some h
  refine join (N:=31) (rs:=[]) (w0:=w0) (D0:=D0) 5 (us:=[(0,.func (.yield l) #[] #[]),(1,.pointer (some ⟨bb,0,none⟩)),(2,.pointer (some ⟨bb_1,0,none⟩)),(5,.pointer (some ⟨b_1,0,none⟩)),(8,.slice p_2 cv.BeatCellar.Pairs.length c_2),(9,iv (cv.BeatCellar.Pairs.length:Int)),(10,iv v10_0),(23,.bool t)]) (ms:=((1003,.cells b_1 [iv e.Hour,iv e.One,iv e.Other,iv e.Read.Low,iv e.Read.High] 52)::ms_1)) (D':=Dv) ?_ ?_
  ·rcases bcases (e.Hour == cv_1) with hbv_3 | hbv_3
   ·skip
    replace h:=cond_t ht hbv_3
    refine guard_on hF rfl rfl hbv_3 (step hF (Y.loadNH sz_96 hF rfl (hS.stab _ _ hbv) rfl rfl) rfl fun a hF=>guard_on hF rfl rfl hbv_3 (step hF (Y.loadNL 1003 sz_52 hF rfl hS rfl rfl rfl) rfl fun a hF=>guard_on hF rfl rfl hbv_3 ?_))
    obtain ⟨rv,hx_1,h⟩:=bind_some h
    refine O.callP (us:=[.agg #[iv cv.BeatCellar.Hours,.slice p cv.BeatCellar.Rates.length c,.slice p_1 cv.BeatCellar.Opens.length c_1,.slice p_2 cv.BeatCellar.Pairs.length c_2,iv cv.left,.map bm],.agg #[iv e.Hour,iv e.One,iv e.Other,iv e.Read.Low,iv e.Read.High]]) ca_133 hF hS (beat_cellar_of_ok hS.stab cv e hs hs_1 hs_2 hm rv hx_1) rfl rfl fun a w hF hS=>guard_on hF rfl rfl hbv_3 (step hF (Y.not hF rfl) rfl fun a hF=>step hF (Y.pick_t hF rfl hbv_3 rfl) rfl fun a hF=>?_)
    obtain rfl:=some_inj h
    exact nT ⟨hF.weak (AF rfl),hS.sub (subc rfl (fun j r hj=>by have hl:=(hlt _ _ _ hI_1) j r hj;(repeat rw [lk_ne (by omega)]);exact hj))⟩
   replace h:=cond_f ht hbv_3
   refine guard_off hF rfl rfl hbv_3 rfl fun a hF=>guard_off hF rfl rfl hbv_3 rfl fun a hF=>guard_off hF rfl rfl hbv_3 rfl fun a hF=>guard_off hF rfl rfl hbv_3 rfl fun a hF=>step hF (Y.pick_f hF rfl hbv_3 rfl) rfl fun a hF=>?_
   obtain rfl:=some_inj h
   exact nT ⟨hF.weak (AF rfl),hS.sub (subc rfl (fun j r hj=>by have hl:=(hlt _ _ _ hI_1) j r hj;(repeat rw [lk_ne (by omega)]);exact hj))⟩
  intro a w hF hS
  refine step hF (Y.move hF rfl) rfl fun a hF=>?_
  rcases bcases t with hbg | hbg
  ·replace h:=cond_t h hbg
   refine guard_on hF rfl rfl hbg (step hF (Y.move hF rfl) rfl fun a hF=>guard_on hF rfl rfl hbg (step hF (Y.loadNL 1003 sz_52 hF rfl hS rfl rfl rfl) rfl fun a hF=>guard_on hF rfl rfl hbg ?_))
   replace hS:=hS.sub (ms:=ms_1) (fun j r hj=>by have hl:=(hlt _ _ _ hI_1) j r hj;(repeat rw [lk_ne (by omega)]);exact hj)
   obtain ⟨sy_1,hx_2,h⟩:=bind_some h
   refine O.yield (us:=[.agg #[iv e.Hour,iv e.One,iv e.Other,iv e.Read.Low,iv e.Read.High]]) hF rfl rfl (hround e _ _ _ _ _ hx_2 hlev hI_1 hS) rfl fun a w hF hK=>?_
   obtain ⟨Dv_1,ms_2,hlev_1,hI_2,hS⟩:=hK
   replace hbv:=hlev_1 _ _ hbv
   replace hbv_1:=hlev_1 _ _ hbv_1
   refine guard_on hF rfl rfl hbg (step hF (Y.not hF rfl) rfl fun a hF=>step hF (Y.pick_t hF rfl hbg rfl) rfl fun a hF=>nT (cond_b hF rfl (fun hb=>by cases hb) (fun hb=>skip_ (blk_n (then_n (region (step hF (Y.add hF rfl rfl) rfl fun a hF=>step hF (Y.move hF rfl) rfl fun a hF=>nT (⟨_,nxt_some h,(wr (v10_0 + 1)),sy_1,Dv_1,ms_2,rfl,hlev.trans hlev_1,hF.weak (AF rfl),hS.sub (fun j r hj=>by have hl:=(hlt _ _ _ hI_2) j r hj;(repeat rw [lk_ne (by omega)]);exact hj),hI_2⟩))))))))
  replace h:=cond_f h hbg
  refine guard_off hF rfl rfl hbg rfl fun a hF=>guard_off hF rfl rfl hbg rfl fun a hF=>guard_off hF rfl rfl hbg rfl fun a hF=>guard_off hF rfl rfl hbg rfl fun a hF=>step hF (Y.pick_f hF rfl hbg rfl) rfl fun a hF=>nT (cond_b hF rfl (fun hb=>by cases hb) (fun hb=>skip_ (blk_n (then_n (region (step hF (Y.add hF rfl rfl) rfl fun a hF=>step hF (Y.move hF rfl) rfl fun a hF=>nT (⟨_,nxt_some h,(wr (v10_0 + 1)),sy,Dv,ms_1,rfl,hlev,hF.weak (AF rfl),hS.sub (fun j r hj=>by have hl:=(hlt _ _ _ hI_1) j r hj;(repeat rw [lk_ne (by omega)]);exact hj),hI_1⟩)))))))
 replace h:=cond_f h hbv_2
 refine exit_ (then_x (then_x (blk_hit ?_)))
 replace h:=ext_some h hxo
 replace hS:=hS.sub (ms:=ms_1) (fun j r hj=>by have hl:=(hlt _ _ _ hI_1) j r hj;(repeat rw [lk_ne (by omega)]);exact hj)
 obtain rfl:=some_inj h
 exact leaveIn (by rfl) hF ⟨⟨_,rfl⟩,Dv,ms_1,hlev,hI_1,hS⟩
noncomputable def beat_cellar_pairs (c:beat_cellar) (hour:Int):Option (beat_cellar × Int):=
  some (c,hour)
theorem beat_cellar_pairs_ok {w0:World} {D0:Stab} (hD:D0.on w0) (c:beat_cellar) (hour:Int) {p:Option Addr} {c_1:Nat} {p_1:Option Addr} {c_2:Nat} {p_2:Option Addr} {c_3:Nat} {bm:Option Nat} (hs:SRc C_Span D0 c.BeatCellar.Rates p c_1) (hs_1:SRc C_BeatOpen D0 c.BeatCellar.Opens p_1 c_2) (hs_2:SRc C_BeatPair D0 c.BeatCellar.Pairs p_2 c_3) (hm:MapB kl_99 C_int false D0 c.place bm) (out:(beat_cellar × Int)) (h:beat_cellar_pairs c hour=some out):Calls Tryz.prog 131 [.agg #[iv c.BeatCellar.Hours,.slice p c.BeatCellar.Rates.length c_1,.slice p_1 c.BeatCellar.Opens.length c_2,.slice p_2 c.BeatCellar.Pairs.length c_3,iv c.left,.map bm],iv hour].toArray w0 (RetS D0 w0 fun D v=>∃ bb bb_1 p_3 c_4 p_4 c_5 p_5 c_6 bm_1,v=.func (.func 132) #[] #[.pointer (some ⟨bb,0,none⟩),.pointer (some ⟨bb_1,0,none⟩)]∧D bb=some (.cells ([iv out.1.BeatCellar.Hours,.slice p_3 out.1.BeatCellar.Rates.length c_4,.slice p_4 out.1.BeatCellar.Opens.length c_5,.slice p_5 out.1.BeatCellar.Pairs.length c_6,iv out.1.left,.map bm_1]).toArray 96 (0,0))∧D bb_1=some (.cells ([iv out.2]).toArray 3 (0,0))∧SRc C_Span D out.1.BeatCellar.Rates p_3 c_4∧SRc C_BeatOpen D out.1.BeatCellar.Opens p_4 c_5∧SRc C_BeatPair D out.1.BeatCellar.Pairs p_5 c_6∧MapB kl_99 C_int false D out.1.place bm_1):=by
 refine enter _ 6 Tryz.func131 rfl Tryz.ntmps131 rfl fun a hF=>?_
 replace hF:Frm 6 [] [(0,.agg #[iv c.BeatCellar.Hours,.slice p c.BeatCellar.Rates.length c_1,.slice p_1 c.BeatCellar.Opens.length c_2,.slice p_2 c.BeatCellar.Pairs.length c_3,iv c.left,.map bm]),(1,iv hour)] a:=hF
 have hS:=St.start hD
 unfold beat_cellar_pairs at h
 refine seq (region (O.box (cs:=[iv c.BeatCellar.Hours,.slice p c.BeatCellar.Rates.length c_1,.slice p_1 c.BeatCellar.Opens.length c_2,.slice p_2 c.BeatCellar.Pairs.length c_3,iv c.left,.map bm]) 1 hF rfl rfl hS rfl fun b a w hF hS=>O.box (cs:=[iv hour]) 2 hF rfl rfl hS rfl fun b_1 a w hF hS=>step hF (Y.assign hF rfl) rfl fun a hF=>nT (seq (region (step hF (Y.makeFunc (first:=[]) (cap:=[(.tmp 2),(.tmp 3)]) (fs:=[]) (cs:=[.pointer (some ⟨b,0,none⟩),.pointer (some ⟨b_1,0,none⟩)]) hF rfl rfl) rfl fun a hF=>step hF (Y.assign hF rfl) rfl fun a hF=>nT (ret_ ?_))))))
 obtain ⟨Dv,hlev,hbv,hS⟩:=hS.freezeB (i:=1) rfl
 replace hs:=hs.mono hlev
 replace hs_1:=hs_1.mono hlev
 replace hs_2:=hs_2.mono hlev
 replace hm:=hm.mono hlev
 obtain ⟨Dv_1,hlev_1,hbv_1,hS⟩:=hS.freezeB (i:=2) rfl
 replace hs:=hs.mono hlev_1
 replace hs_1:=hs_1.mono hlev_1
 replace hs_2:=hs_2.mono hlev_1
 replace hm:=hm.mono hlev_1
 replace hbv:=hlev_1 _ _ hbv
 obtain rfl:=some_inj h
 exact leaveS Tryz.results131 hF hS (.cons (.tmp rfl) .nil) .nil ⟨_,_,_,_,_,_,_,_,_,rfl,hbv,hbv_1,hs,hs_1,hs_2,hm⟩
noncomputable def beat_cellar_reads_k3 (v11_0:Int) (l_1:(List beat_bound)) (xy:BeatPair) (z:Int) (z_1:Int):Option (List beat_bound):=
  (beat_both (beat_spot.mk xy.One v11_0) (beat_spot.mk z z_1) xy.Read).bind fun rv_2=>
  if l_1.length + rv_2.length≤lim then
  some (l_1 ++ rv_2)
  else none
noncomputable def beat_cellar_reads_y2 (v11_0:Int) (xy:BeatPair):(List beat_bound)→Option (List beat_bound)
 | l_1=>
  (beat_truth).bind fun rv_1=>
  cond (decide (xy.Other ≥ 0))
  (beat_cellar_reads_k3 v11_0 l_1 xy xy.Other v11_0)
  (beat_cellar_reads_k3 v11_0 l_1 xy rv_1.clock rv_1.hour)
noncomputable def beat_cellar_reads_b1 (c:beat_cellar):(Int × (List beat_bound))→Option ((Int × (List beat_bound)) ⊕ (List beat_bound))
 | (v11_0,l)=>
  cond (decide (v11_0 < (wr (c.BeatCellar.Hours + 1))))
  ((beat_cellar_pairs c v11_0).bind fun rv=>
  (beat_cellar_pairs_1 (beat_cellar_reads_y2 v11_0) rv.1 rv.2 l).bind fun so=>
  nxt (wr (v11_0 + 1),so))
  (ext (some l))
noncomputable def beat_cellar_reads (c:beat_cellar):Option (List beat_bound):=
  loopU (beat_cellar_reads_b1 c) (0,([]:List beat_bound))
theorem beat_cellar_reads_ok {w0:World} {D0:Stab} (hD:D0.on w0) (c:beat_cellar) {p:Option Addr} {c_1:Nat} {p_1:Option Addr} {c_2:Nat} {p_2:Option Addr} {c_3:Nat} {bm:Option Nat} (hs:SRc C_Span D0 c.BeatCellar.Rates p c_1) (hs_1:SRc C_BeatOpen D0 c.BeatCellar.Opens p_1 c_2) (hs_2:SRc C_BeatPair D0 c.BeatCellar.Pairs p_2 c_3) (hm:MapB kl_99 C_int false D0 c.place bm) (out:(List beat_bound)) (h:beat_cellar_reads c=some out):Calls Tryz.prog 127 [.agg #[iv c.BeatCellar.Hours,.slice p c.BeatCellar.Rates.length c_1,.slice p_1 c.BeatCellar.Opens.length c_2,.slice p_2 c.BeatCellar.Pairs.length c_3,iv c.left,.map bm]].toArray w0 (RetS D0 w0 fun D v=>∃ p_11 c_12,v=.slice p_11 out.length c_12∧SRc C_beat_bound D out p_11 c_12):=by
 refine enter _ 38 Tryz.func127 rfl Tryz.ntmps127 rfl fun a hF=>?_
 replace hF:Frm 38 [] [(0,.agg #[iv c.BeatCellar.Hours,.slice p c.BeatCellar.Rates.length c_1,.slice p_1 c.BeatCellar.Opens.length c_2,.slice p_2 c.BeatCellar.Pairs.length c_3,iv c.left,.map bm])] a:=hF
 have hS:=St.start hD
 replace hS:=hS.noMarks 1
 unfold beat_cellar_reads at h
 refine seq (region (O.box (cs:=[iv c.BeatCellar.Hours,.slice p c.BeatCellar.Rates.length c_1,.slice p_1 c.BeatCellar.Opens.length c_2,.slice p_2 c.BeatCellar.Pairs.length c_3,iv c.left,.map bm]) 2 hF rfl rfl hS rfl fun b a w hF hS=>step hF (Y.assign hF rfl) rfl fun a hF=>nT (seq (region (O.alloc 3 zc_104 hF hS rfl fun b_1 a w hF hS=>?_)))))
 replace hS:=hS.ownNil 4 106 5
 refine nT (seq (seq (region (step hF (Y.fieldAddr fo_96_0 hF rfl) rfl fun a hF=>step hF (Y.fieldAddr fo_35_0 hF rfl) rfl fun a hF=>step hF (Y.load1L 2 sz_3 hF rfl hS rfl rfl) rfl fun a hF=>step hF (Y.add hF rfl rfl) rfl fun a hF=>step hF (Y.move hF rfl) rfl fun a hF=>nT (block (loop_cut (body:=beat_cellar_reads_b1 c) (out:=out) (fun s a w=>∃ (v11_0:Int) (l:(List beat_bound)),∃ (Dv:Stab),∃ rs p_3 c_4 cs,s=(v11_0,l)∧D0.le Dv∧Frm 38 rs [(1,.pointer (some ⟨b,0,none⟩)),(2,.slice none 0 0),(3,.pointer (some ⟨b_1,0,none⟩)),(10,iv (wr (c.BeatCellar.Hours + 1))),(11,iv v11_0)] a∧St w0 D0 Dv [(2,.cells b [iv c.BeatCellar.Hours,.slice p c.BeatCellar.Rates.length c_1,.slice p_1 c.BeatCellar.Opens.length c_2,.slice p_2 c.BeatCellar.Pairs.length c_3,iv c.left,.map bm] 96),(3,.cells b_1 [.slice p_3 l.length c_4] 104),(4,.own p_3 l.length c_4 cs 106 5),(1,.marks rs)] w∧Reps C_beat_bound Dv l cs) (0,([]:List beat_bound)) h ⟨0,([]:List beat_bound),D0,([]),none,0,([]),rfl,Stab.le.refl _,hF.weak (AF rfl),hS.weak (AL rfl),Reps.nil⟩ ?_))))))
 rintro s a w xo ⟨v11_0,l,Dv,rs,p_3,c_4,cs,rfl,hlev,hF,hS,hr⟩ h hxo
 unfold beat_cellar_reads_b1 at h
 dsimp only at h
 replace hs:=hs.mono hlev
 replace hs_1:=hs_1.mono hlev
 replace hs_2:=hs_2.mono hlev
 replace hm:=hm.mono hlev
 refine seq (region (step hF (Y.lss hF rfl rfl) rfl fun a hF=>nT (seq (cond_b hF rfl (fun hbv=>?_) (fun hbv=>?_)))))
 ·replace h:=cond_t h hbv
  refine skip_ (then_n (seq (block (seq (region (step hF (Y.move hF rfl) rfl fun a hF=>O.alloc 5 zc_3 hF hS rfl fun b_2 a w hF hS=>O.store (us:=[iv v11_0]) 5 sz_3 hF rfl rfl rfl rfl hS rfl rfl fun a w hF hS=>nT (seq (region (step hF (Y.loadNL 2 sz_96 hF rfl hS rfl rfl rfl) rfl fun a hF=>step hF (Y.load1L 5 sz_3 hF rfl hS rfl rfl) rfl fun a hF=>?_)))))))))
  obtain ⟨rv,hx,h⟩:=bind_some h
  refine O.callS (us:=[.agg #[iv c.BeatCellar.Hours,.slice p c.BeatCellar.Rates.length c_1,.slice p_1 c.BeatCellar.Opens.length c_2,.slice p_2 c.BeatCellar.Pairs.length c_3,iv c.left,.map bm],iv v11_0]) ca_131 hF hS (beat_cellar_pairs_ok hS.stab c v11_0 hs hs_1 hs_2 hm rv hx) rfl rfl fun v Dv_1 a w hR hlev_1 hF hS=>?_
  replace hr:=hr.mono hlev_1
  obtain ⟨bb,bb_1,p_4,c_5,p_5,c_6,p_6,c_7,bm_1,rfl,hbv_1,hbv_2,hs_3,hs_4,hs_5,hm_1⟩:=hR
  refine nT (block ?_)
  replace hF:=hF.weak (us:=[(1,.pointer (some ⟨b,0,none⟩)),(2,.slice none 0 0),(3,.pointer (some ⟨b_1,0,none⟩)),(4,.pointer (some ⟨b_2,0,none⟩)),(10,iv (wr (c.BeatCellar.Hours + 1))),(11,iv v11_0),(16,.func (.func 132) #[] #[.pointer (some ⟨bb,0,none⟩),.pointer (some ⟨bb_1,0,none⟩)])]) (AF rfl)
  obtain ⟨so,hx_3,h⟩:=bind_some h
  have hsz:=hF.size
  have hgt:=hF.get
  refine range_cut (first:=[]) (cap:=[.pointer (some ⟨bb,0,none⟩),.pointer (some ⟨bb_1,0,none⟩)]) (K:=fun m lp R w=>∃ D ms,Dv_1.le D∧(fun (l_1:(List beat_bound)) D ms=>∃ p_7 c_8 cs_1,ms=[(8,.obj lp R),(2,.cells b [iv c.BeatCellar.Hours,.slice p c.BeatCellar.Rates.length c_1,.slice p_1 c.BeatCellar.Opens.length c_2,.slice p_2 c.BeatCellar.Pairs.length c_3,iv c.left,.map bm] 96),(3,.cells b_1 [.slice p_7 l_1.length c_8] 104),(4,.own p_7 l_1.length c_8 cs_1 106 5),(5,.cells b_2 [iv v11_0] 3),(1,.marks (m::rs))]∧Reps C_beat_bound D l_1 cs_1) so D ms∧St w0 D0 D ms w) 1 8 (by decide) ca_132 hF hS rfl rfl (fun fn m lp R hR w hS=>?_) (fun m lp R w hK=>?_)
  ·refine beat_cellar_pairs_1_it (Inv:=fun (l_1:(List beat_bound)) D ms=>∃ p_7 c_8 cs_1,ms=[(8,.obj lp R),(2,.cells b [iv c.BeatCellar.Hours,.slice p c.BeatCellar.Rates.length c_1,.slice p_1 c.BeatCellar.Opens.length c_2,.slice p_2 c.BeatCellar.Pairs.length c_3,iv c.left,.map bm] 96),(3,.cells b_1 [.slice p_7 l_1.length c_8] 104),(4,.own p_7 l_1.length c_8 cs_1 106 5),(5,.cells b_2 [iv v11_0] 3),(1,.marks (m::rs))]∧Reps C_beat_bound D l_1 cs_1) (yield_:=beat_cellar_reads_y2 v11_0) ?_ ?_ lp rv.1 rv.2 hs_3 hs_4 hs_5 hm_1 hbv_1 hbv_2 l so ?_ hx_3 (ms:=[(8,.obj lp R),(2,.cells b [iv c.BeatCellar.Hours,.slice p c.BeatCellar.Rates.length c_1,.slice p_1 c.BeatCellar.Opens.length c_2,.slice p_2 c.BeatCellar.Pairs.length c_3,iv c.left,.map bm] 96),(3,.cells b_1 [.slice p_3 l.length c_4] 104),(4,.own p_3 l.length c_4 cs 106 5),(5,.cells b_2 [iv v11_0] 3),(1,.marks (m::rs))]) ⟨p_3,c_4,cs,rfl,hr⟩ (hS.weak (AL rfl))
   ·rintro s D ms ⟨_,_,_,rfl,z0⟩;exact small_lt rfl
   ·rintro s D ms D2 ⟨_,_,_,rfl,z0⟩ hle;exact ⟨_,_,_,rfl,z0.mono hle⟩
   rintro xy l_1 s2 Dv_2 ms w h hlev_2 ⟨p_7,c_8,cs_1,rfl,hr_1⟩ hS
   unfold beat_cellar_reads_y2 at h
   dsimp only at h
   refine round_cut 8 hsz hgt rfl hS rfl hR fun R2 a hF=>?_
   replace hbv_1:=hlev_2 _ _ hbv_1
   replace hbv_2:=hlev_2 _ _ hbv_2
   refine region (O.alloc 9 zc_52 hF hS rfl fun b_3 a w hF hS=>O.store (us:=[iv xy.Hour,iv xy.One,iv xy.Other,iv xy.Read.Low,iv xy.Read.High]) 9 sz_52 hF rfl rfl rfl rfl hS rfl rfl fun a w hF hS=>nT (⟨_,_,hS,rfl,fun w hS=>?_⟩))
   refine block (seq (region ?_))
   obtain ⟨rv_1,hx_1,h⟩:=bind_some h
   refine O.callP (us:=[]) ca_36 hF hS (beat_truth_ok hS.stab rv_1 hx_1) rfl rfl fun a w hF hS=>O.alloc 10 zc_99 hF hS rfl fun b_4 a w hF hS=>O.store (us:=[iv rv_1.clock,iv rv_1.hour]) 10 sz_99 hF rfl rfl rfl rfl hS rfl rfl fun a w hF hS=>nT (seq_cut (fun a w=>∃ (z:Int) (z_1:Int),Frm 38 [] [(2,.slice none 0 0),(3,.pointer (some ⟨b_1,0,none⟩)),(4,.pointer (some ⟨b_2,0,none⟩)),(5,.pointer (some ⟨b_3,0,none⟩)),(6,.pointer (some ⟨b_4,0,none⟩))] a∧St w0 D0 Dv_2 [(2,.cells b [iv c.BeatCellar.Hours,.slice p c.BeatCellar.Rates.length c_1,.slice p_1 c.BeatCellar.Opens.length c_2,.slice p_2 c.BeatCellar.Pairs.length c_3,iv c.left,.map bm] 96),(3,.cells b_1 [.slice p_7 l_1.length c_8] 104),(4,.own p_7 l_1.length c_8 cs_1 106 5),(5,.cells b_2 [iv v11_0] 3),(9,.cells b_3 [iv xy.Hour,iv xy.One,iv xy.Other,iv xy.Read.Low,iv xy.Read.High] 52),(10,.cells b_4 [iv z,iv z_1] 99),(8,.obj lp R2),(1,.marks (m::rs))] w∧beat_cellar_reads_k3 v11_0 l_1 xy z z_1=some s2) ?_ ?_)
   ·skip
    refine seq (region (step hF (Y.fieldAddr fo_52_2 hF rfl) rfl fun a hF=>step hF (Y.load1L 9 sz_3 hF rfl hS rfl rfl) rfl fun a hF=>step hF (Y.geq hF rfl rfl) rfl fun a hF=>nT (cond_b hF rfl (fun hbv_3=>?_) (fun hbv_3=>?_))))
    ·replace h:=cond_t h hbv_3
     refine region (step hF (Y.fieldAddr fo_52_2 hF rfl) rfl fun a hF=>step hF (Y.load1L 9 sz_3 hF rfl hS rfl rfl) rfl fun a hF=>step hF (Y.load1L 5 sz_3 hF rfl hS rfl rfl) rfl fun a hF=>step hF (Y.build (parts:=[(0,(.tmp 23)),(1,(.tmp 24))]) (cs:=#[iv xy.Other,iv v11_0]) hF rfl (by kernel_rfl)) rfl fun a hF=>O.store (us:=[iv xy.Other,iv v11_0]) 10 sz_99 hF rfl rfl rfl rfl hS rfl rfl fun a w hF hS=>nT (⟨xy.Other,v11_0,hF.weak (AF rfl),hS.weak (AL rfl),h⟩))
    replace h:=cond_f h hbv_3
    refine skip_ (then_n (⟨rv_1.clock,rv_1.hour,hF.weak (AF rfl),hS.weak (AL rfl),h⟩))
   rintro a w ⟨z,z_1,hF,hS,h⟩
   unfold beat_cellar_reads_k3 at h
   obtain ⟨rv_2,hx_2,h⟩:=bind_some h
   refine drawsV 9 (.flt 0 (.flt 1 (.flt 2 (.flt 3 (.flt 4 (.flt 5 (.flt 6 (.flt 7 (.alt 8 .done .stop))))))))) mixed_ (by kernel_rfl) (fun w=>St w0 D0 Dv_2 [(2,.cells b [iv c.BeatCellar.Hours,.slice p c.BeatCellar.Rates.length c_1,.slice p_1 c.BeatCellar.Opens.length c_2,.slice p_2 c.BeatCellar.Pairs.length c_3,iv c.left,.map bm] 96),(3,.cells b_1 [.slice p_7 l_1.length c_8] 104),(4,.own p_7 l_1.length c_8 cs_1 106 5),(5,.cells b_2 [iv v11_0] 3),(9,.cells b_3 [iv xy.Hour,iv xy.One,iv xy.Other,iv xy.Read.Low,iv xy.Read.High] 52),(10,.cells b_4 [iv z,iv z_1] 99),(8,.obj lp R2),(1,.marks (m::rs))] w) (fun a w=>∃ (Dv_4:Stab) (p_8:Option Addr) (c_9:Nat),Dv_2.le Dv_4∧Frm 38 [] [(2,.slice none 0 0),(3,.pointer (some ⟨b_1,0,none⟩)),(26,.slice p_7 l_1.length c_8),(34,.slice p_8 rv_2.length c_9)] a∧St w0 D0 Dv_4 [(2,.cells b [iv c.BeatCellar.Hours,.slice p c.BeatCellar.Rates.length c_1,.slice p_1 c.BeatCellar.Opens.length c_2,.slice p_2 c.BeatCellar.Pairs.length c_3,iv c.left,.map bm] 96),(3,.cells b_1 [.slice p_7 l_1.length c_8] 104),(4,.own p_7 l_1.length c_8 cs_1 106 5),(5,.cells b_2 [iv v11_0] 3),(9,.cells b_3 [iv xy.Hour,iv xy.One,iv xy.Other,iv xy.Read.Low,iv xy.Read.High] 52),(10,.cells b_4 [iv z,iv z_1] 99),(8,.obj lp R2),(1,.marks (m::rs))] w∧SRc C_beat_bound Dv_4 rv_2 p_8 c_9) (hS.weak (ms:=[(2,.cells b [iv c.BeatCellar.Hours,.slice p c.BeatCellar.Rates.length c_1,.slice p_1 c.BeatCellar.Opens.length c_2,.slice p_2 c.BeatCellar.Pairs.length c_3,iv c.left,.map bm] 96),(3,.cells b_1 [.slice p_7 l_1.length c_8] 104),(4,.own p_7 l_1.length c_8 cs_1 106 5),(5,.cells b_2 [iv v11_0] 3),(9,.cells b_3 [iv xy.Hour,iv xy.One,iv xy.Other,iv xy.Read.Low,iv xy.Read.High] 52),(10,.cells b_4 [iv z,iv z_1] 99),(8,.obj lp R2),(1,.marks (m::rs))]) (AL rfl)).drew (fun _ _ _ _ h=>h) ?_ ?_
   ·replace hS:=hS.drew
    have hle0:=hS.le
    refine stepV (i:=0) rfl hF (fun w hS=>Y.load1L 3 sz_104 hF rfl hS rfl rfl) rfl fun a hF=>stepV (i:=1) rfl hF (fun w hS=>Y.fieldAddr fo_52_1 hF rfl) rfl fun a hF=>stepV (i:=2) rfl hF (fun w hS=>Y.load1L 9 sz_3 hF rfl hS rfl rfl) rfl fun a hF=>stepV (i:=3) rfl hF (fun w hS=>Y.load1L 5 sz_3 hF rfl hS rfl rfl) rfl fun a hF=>stepV (i:=4) rfl hF (fun w hS=>Y.build (parts:=[(0,(.tmp 28)),(1,(.tmp 29))]) (cs:=#[iv xy.One,iv v11_0]) hF rfl (by kernel_rfl)) rfl fun a hF=>stepV (i:=5) rfl hF (fun w hS=>Y.loadNL 10 sz_99 hF rfl hS rfl rfl rfl) rfl fun a hF=>stepV (i:=6) rfl hF (fun w hS=>Y.fieldAddr fo_52_3 hF rfl) rfl fun a hF=>stepV (i:=7) rfl hF (fun w hS=>Y.loadNL 9 sz_27 hF rfl hS rfl rfl rfl) rfl fun a hF=>oneV (i:=8) rfl ?_ trivial
    refine O.callS (us:=[.agg #[iv xy.One,iv v11_0],.agg #[iv z,iv z_1],.agg #[iv xy.Read.Low,iv xy.Read.High]]) ca_129 hF hS (beat_both_ok hS.stab (beat_spot.mk xy.One v11_0) (beat_spot.mk z z_1) xy.Read rv_2 hx_2) rfl rfl fun v_2 Dv_5 a w hR_2 hlev_4 hF hS=>?_
    replace hbv_1:=hlev_4 _ _ hbv_1
    replace hbv_2:=hlev_4 _ _ hbv_2
    obtain ⟨p_9,c_10,rfl,hs_7⟩:=hR_2
    refine nT ⟨(hS.weak (ms:=[(2,.cells b [iv c.BeatCellar.Hours,.slice p c.BeatCellar.Rates.length c_1,.slice p_1 c.BeatCellar.Opens.length c_2,.slice p_2 c.BeatCellar.Pairs.length c_3,iv c.left,.map bm] 96),(3,.cells b_1 [.slice p_7 l_1.length c_8] 104),(4,.own p_7 l_1.length c_8 cs_1 106 5),(5,.cells b_2 [iv v11_0] 3),(9,.cells b_3 [iv xy.Hour,iv xy.One,iv xy.Other,iv xy.Read.Low,iv xy.Read.High] 52),(10,.cells b_4 [iv z,iv z_1] 99),(8,.obj lp R2),(1,.marks (m::rs))]) (AL rfl)).weakD hlev_4 hle0,?_⟩
    exact toTailV ⟨Dv_5,p_9,c_10,hlev_4,hF.weak (AF rfl),hS.weak (AL rfl),hs_7⟩
   rintro a w ⟨Dv_4,p_8,c_9,hle,hF,hS,hj⟩
   have hlev_5:=hle
   replace hbv_1:=hlev_5 _ _ hbv_1
   replace hbv_2:=hlev_5 _ _ hbv_2
   replace hr_1:=hr_1.mono hlev_5
   obtain ⟨hg,h⟩:=ite_some h
   obtain ⟨ds,hds,hsrc⟩:=src_stab (C:=C_beat_bound) (xs:=rv_2) (hj).1 hS.stab
   refine O.append (C:=C_beat_bound) (xs:=l_1) (ys:=rv_2) 4 gr_104 hF rfl rfl hS rfl hsrc hr_1 hds hg rfl fun p_10 c_11 a w hF hS hr_2=>O.store (us:=[.slice p_10 (l_1 ++ rv_2).length c_11]) 3 sz_104 hF rfl rfl rfl rfl hS rfl rfl fun a w hF hS=>nil (blk_n (then_n ?_))
   obtain rfl:=some_inj h
   refine ⟨_,_,hS,rfl,fun w hS=>⟨Dv_4,_,hlev_5,⟨p_10,c_11,(cs_1 ++ ds),rfl,hr_2⟩,hS.weak (AL rfl)⟩⟩
  obtain ⟨Dv_2,ms,hlev_6,⟨p_7,c_8,cs_1,rfl,hr_1⟩,hS⟩:=hK
  refine ⟨Dv_2,_,hS,rfl,fun a w hF hS=>?_⟩
  replace hbv_1:=hlev_6 _ _ hbv_1
  replace hbv_2:=hlev_6 _ _ hbv_2
  refine blk_n (blk_n (then_n (region (step hF (Y.add hF rfl rfl) rfl fun a hF=>step hF (Y.move hF rfl) rfl fun a hF=>nT (⟨_,nxt_some h,(wr (v11_0 + 1)),so,Dv_2,(m::rs),p_7,c_8,cs_1,rfl,hlev.trans (hlev_1.trans hlev_6),hF.weak (AF rfl),hS.weak (AL rfl),hr_1⟩)))))
 replace h:=cond_f h hbv
 refine exit_ (then_x (then_x (blk_hit (then_n ?_))))
 replace h:=ext_some h hxo
 refine seq (region (step hF (Y.load1L 3 sz_104 hF rfl hS rfl rfl) rfl fun a hF=>step hF (Y.assign hF rfl) rfl fun a hF=>nT (ret_ ?_)))
 obtain ⟨Dv_7,hlev_7,hs_8,hS⟩:=hS.freezeC (C:=C_beat_bound) (i:=4) (xs:=l) rfl hr
 obtain rfl:=some_inj h
 exact leaveS Tryz.results127 hF hS (.cons (.tmp rfl) .nil) (.inr ⟨1,rfl⟩) ⟨_,_,rfl,hs_8⟩
noncomputable def beat_cellar_holds_b2 (c:beat_cellar) (v10_0:Int):((List beat_bound) × Int)→Option (((List beat_bound) × Int) ⊕ (((List beat_bound) × Int) ⊕ (List beat_bound)))
 | (outv_1,v17_0)=>
  cond (decide (v17_0 < (wr (c.BeatCellar.Hours + 1))))
  ((beat_truth).bind fun rv=>
  (beat_both (beat_spot.mk v10_0 v17_0) rv (Span.mk (-100000) 100000)).bind fun rv_1=>
  if outv_1.length + rv_1.length≤lim then
  nxt ((outv_1 ++ rv_1),wr (v17_0 + 1))
  else none)
  (ext (nxt (outv_1,wr (v10_0 + 1))))
noncomputable def beat_cellar_holds_b1 (c:beat_cellar):((List beat_bound) × Int)→Option (((List beat_bound) × Int) ⊕ (List beat_bound))
 | (outv,v10_0)=>
  cond (decide (v10_0 < (c.BeatCellar.Rates.length:Int)))
  (loopU (beat_cellar_holds_b2 c v10_0) (outv,0))
  (ext (some outv))
noncomputable def beat_cellar_holds (c:beat_cellar):Option (List beat_bound):=
  loopU (beat_cellar_holds_b1 c) (([]:List beat_bound),0)
theorem beat_cellar_holds_ok {w0:World} {D0:Stab} (hD:D0.on w0) (c:beat_cellar) {p:Option Addr} {c_1:Nat} {p_1:Option Addr} {c_2:Nat} {p_2:Option Addr} {c_3:Nat} {bm:Option Nat} (hs:SRc C_Span D0 c.BeatCellar.Rates p c_1) (hs_1:SRc C_BeatOpen D0 c.BeatCellar.Opens p_1 c_2) (hs_2:SRc C_BeatPair D0 c.BeatCellar.Pairs p_2 c_3) (hm:MapB kl_99 C_int false D0 c.place bm) (out:(List beat_bound)) (h:beat_cellar_holds c=some out):Calls Tryz.prog 128 [.agg #[iv c.BeatCellar.Hours,.slice p c.BeatCellar.Rates.length c_1,.slice p_1 c.BeatCellar.Opens.length c_2,.slice p_2 c.BeatCellar.Pairs.length c_3,iv c.left,.map bm]].toArray w0 (RetS D0 w0 fun D v=>∃ p_7 c_8,v=.slice p_7 out.length c_8∧SRc C_beat_bound D out p_7 c_8):=by
 refine enter _ 31 Tryz.func128 rfl Tryz.ntmps128 rfl fun a hF=>?_
 replace hF:Frm 31 [] [(0,.agg #[iv c.BeatCellar.Hours,.slice p c.BeatCellar.Rates.length c_1,.slice p_1 c.BeatCellar.Opens.length c_2,.slice p_2 c.BeatCellar.Pairs.length c_3,iv c.left,.map bm])] a:=hF
 have hS:=St.start hD
 unfold beat_cellar_holds at h
 refine seq (region (O.box (cs:=[iv c.BeatCellar.Hours,.slice p c.BeatCellar.Rates.length c_1,.slice p_1 c.BeatCellar.Opens.length c_2,.slice p_2 c.BeatCellar.Pairs.length c_3,iv c.left,.map bm]) 1 hF rfl rfl hS rfl fun b a w hF hS=>step hF (Y.assign hF rfl) rfl fun a hF=>nT (seq (region (step hF (Y.assign hF rfl) rfl fun a hF=>?_)))))
 replace hS:=hS.ownNil 2 106 5
 refine nT (seq (seq (region (step hF (Y.fieldAddr fo_96_0 hF rfl) rfl fun a hF=>step hF (Y.fieldAddr fo_35_1 hF rfl) rfl fun a hF=>step hF (Y.load1L 1 sz_31 hF rfl hS rfl rfl) rfl fun a hF=>step hF (Y.lenSl u_31 hF rfl) rfl fun a hF=>step hF (Y.move hF rfl) rfl fun a hF=>nT (block (loop_cut (body:=beat_cellar_holds_b1 c) (out:=out) (fun s a w=>∃ (outv:(List beat_bound)) (v10_0:Int),∃ (Dv:Stab),∃ p_3 c_4 cs,s=(outv,v10_0)∧D0.le Dv∧Frm 31 [] [(1,.pointer (some ⟨b,0,none⟩)),(2,.slice none 0 0),(3,.slice p_3 outv.length c_4),(9,iv (c.BeatCellar.Rates.length:Int)),(10,iv v10_0)] a∧St w0 D0 Dv [(1,.cells b [iv c.BeatCellar.Hours,.slice p c.BeatCellar.Rates.length c_1,.slice p_1 c.BeatCellar.Opens.length c_2,.slice p_2 c.BeatCellar.Pairs.length c_3,iv c.left,.map bm] 96),(2,.own p_3 outv.length c_4 cs 106 5)] w∧Reps C_beat_bound Dv outv cs) (([]:List beat_bound),0) h ⟨([]:List beat_bound),0,D0,none,0,([]),rfl,Stab.le.refl _,hF.weak (AF rfl),hS.weak ⟨rfl,rfl,trivial⟩,Reps.nil⟩ ?_))))))
 rintro s a w xo ⟨outv,v10_0,Dv,p_3,c_4,cs,rfl,hlev,hF,hS,hr⟩ h hxo
 unfold beat_cellar_holds_b1 at h
 dsimp only at h
 refine seq (region (step hF (Y.lss hF rfl rfl) rfl fun a hF=>nT (seq (cond_b hF rfl (fun hbv=>?_) (fun hbv=>?_)))))
 ·replace h:=cond_t h hbv
  refine skip_ (then_n (seq (block (seq (region (step hF (Y.move hF rfl) rfl fun a hF=>step hF (Y.assign hF rfl) rfl fun a hF=>nT (seq (region (step hF (Y.fieldAddr fo_96_0 hF rfl) rfl fun a hF=>step hF (Y.fieldAddr fo_35_0 hF rfl) rfl fun a hF=>step hF (Y.load1L 1 sz_3 hF rfl hS rfl rfl) rfl fun a hF=>step hF (Y.add hF rfl rfl) rfl fun a hF=>step hF (Y.move hF rfl) rfl fun a hF=>nT (block (loop_cut (body:=beat_cellar_holds_b2 c v10_0) (out:=xo) (fun s a w=>∃ (outv_1:(List beat_bound)) (v17_0:Int),∃ (Dv_1:Stab),∃ p_4 c_5 cs_1,s=(outv_1,v17_0)∧Dv.le Dv_1∧Frm 31 [] [(1,.pointer (some ⟨b,0,none⟩)),(2,.slice none 0 0),(3,.slice p_4 outv_1.length c_5),(4,iv v10_0),(9,iv (c.BeatCellar.Rates.length:Int)),(10,iv v10_0),(16,iv (wr (c.BeatCellar.Hours + 1))),(17,iv v17_0)] a∧St w0 D0 Dv_1 [(1,.cells b [iv c.BeatCellar.Hours,.slice p c.BeatCellar.Rates.length c_1,.slice p_1 c.BeatCellar.Opens.length c_2,.slice p_2 c.BeatCellar.Pairs.length c_3,iv c.left,.map bm] 96),(2,.own p_4 outv_1.length c_5 cs_1 106 5)] w∧Reps C_beat_bound Dv_1 outv_1 cs_1) (outv,0) h ⟨outv,0,Dv,p_3,c_4,cs,rfl,Stab.le.refl _,hF.weak (AF rfl),hS.weak ⟨rfl,rfl,trivial⟩,hr⟩ ?_)))))))))))
  rintro s a w xo_1 ⟨outv_1,v17_0,Dv_1,p_4,c_5,cs_1,rfl,hlev_1,hF,hS,hr_1⟩ h hxo_1
  unfold beat_cellar_holds_b2 at h
  dsimp only at h
  refine seq (region (step hF (Y.lss hF rfl rfl) rfl fun a hF=>nT (seq (cond_b hF rfl (fun hbv_1=>?_) (fun hbv_1=>?_)))))
  ·replace h:=cond_t h hbv_1
   refine skip_ (then_n (seq (block (seq (region (step hF (Y.move hF rfl) rfl fun a hF=>step hF (Y.assign hF rfl) rfl fun a hF=>nT (region (step hF (Y.move hF rfl) rfl fun a hF=>step hF (Y.move hF rfl) rfl fun a hF=>step hF (Y.move hF rfl) rfl fun a hF=>step hF (Y.build (parts:=[(0,(.tmp 21)),(1,(.tmp 22))]) (cs:=#[iv v10_0,iv v17_0]) hF rfl (by kernel_rfl)) rfl fun a hF=>?_))))))))
   obtain ⟨rv,hx,h⟩:=bind_some h
   refine O.callP (us:=[]) ca_36 hF hS (beat_truth_ok hS.stab rv hx) rfl rfl fun a w hF hS=>step hF (Y.build (parts:=[(0,(.const (iv (-100000)))),(1,(.const (iv 100000)))]) (cs:=#[iv (-100000),iv 100000]) hF rfl (by kernel_rfl)) rfl fun a hF=>?_
   obtain ⟨rv_1,hx_1,h⟩:=bind_some h
   refine O.callS (us:=[.agg #[iv v10_0,iv v17_0],.agg #[iv rv.clock,iv rv.hour],.agg #[iv (-100000),iv 100000]]) ca_129 hF hS (beat_both_ok hS.stab (beat_spot.mk v10_0 v17_0) rv (Span.mk (-100000) 100000) rv_1 hx_1) rfl rfl fun v Dv_2 a w hR hlev_2 hF hS=>?_
   replace hr_1:=hr_1.mono hlev_2
   obtain ⟨p_5,c_6,rfl,hs_3⟩:=hR
   obtain ⟨hg,h⟩:=ite_some h
   obtain ⟨ds,hds,hsrc⟩:=src_stab (C:=C_beat_bound) (xs:=rv_1) (hs_3).1 hS.stab
   refine O.append (C:=C_beat_bound) (xs:=outv_1) (ys:=rv_1) 2 gr_104 hF rfl rfl hS rfl hsrc hr_1 hds hg rfl fun p_6 c_7 a w hF hS hr_2=>step hF (Y.assign hF rfl) rfl fun a hF=>nil (blk_n (then_n (region (step hF (Y.add hF rfl rfl) rfl fun a hF=>step hF (Y.move hF rfl) rfl fun a hF=>nT (⟨_,nxt_some h,(outv_1 ++ rv_1),(wr (v17_0 + 1)),Dv_2,p_6,c_7,(cs_1 ++ ds),rfl,hlev_1.trans hlev_2,hF.weak (AF rfl),hS.weak ⟨rfl,rfl,trivial⟩,hr_2⟩)))))
  replace h:=cond_f h hbv_1
  refine exit_ (then_x (then_x (blk_hit (blk_n (then_n ?_)))))
  replace h:=ext_some h hxo_1
  refine region (step hF (Y.add hF rfl rfl) rfl fun a hF=>step hF (Y.move hF rfl) rfl fun a hF=>nT (⟨_,nxt_some h,outv_1,(wr (v10_0 + 1)),Dv_1,p_4,c_5,cs_1,rfl,hlev.trans hlev_1,hF.weak (AF rfl),hS.weak ⟨rfl,rfl,trivial⟩,hr_1⟩))
 replace h:=cond_f h hbv
 refine exit_ (then_x (then_x (blk_hit (then_n ?_))))
 replace h:=ext_some h hxo
 refine seq (region (step hF (Y.move hF rfl) rfl fun a hF=>step hF (Y.assign hF rfl) rfl fun a hF=>nT (ret_ ?_)))
 obtain ⟨Dv_3,hlev_3,hs_4,hS⟩:=hS.freezeC (C:=C_beat_bound) (i:=2) (xs:=outv) rfl hr
 obtain rfl:=some_inj h
 exact leaveS Tryz.results128 hF hS (.cons (.tmp rfl) .nil) .nil ⟨_,_,rfl,hs_4⟩
noncomputable def tabf_0 (i:Int) (c:beat_cellar):Option (List beat_bound):=if i=0 then beat_cellar_grows c else if i=1 then beat_cellar_reads c else if i=2 then beat_cellar_holds c else none
theorem tab_0_ok {w0:World} {D0:Stab} (hD:D0.on w0) (i:Int) (hi:0≤i∧i < ((3:Nat):Int)) (c:beat_cellar) {p:Option Addr} {c_1:Nat} {p_1:Option Addr} {c_2:Nat} {p_2:Option Addr} {c_3:Nat} {bm:Option Nat} (hs:SRc C_Span D0 c.BeatCellar.Rates p c_1) (hs_1:SRc C_BeatOpen D0 c.BeatCellar.Opens p_1 c_2) (hs_2:SRc C_BeatPair D0 c.BeatCellar.Pairs p_2 c_3) (hm:MapB kl_99 C_int false D0 c.place bm) (out:(List beat_bound)) (h:tabf_0 i c=some out):∃ f,tab_0.getD (Int.toNat i) undef=.func (.func f) #[] #[]∧callable Tryz.prog f=true∧Calls Tryz.prog f [.agg #[iv c.BeatCellar.Hours,.slice p c.BeatCellar.Rates.length c_1,.slice p_1 c.BeatCellar.Opens.length c_2,.slice p_2 c.BeatCellar.Pairs.length c_3,iv c.left,.map bm]].toArray w0 (RetS D0 w0 fun D v=>∃ p_24 c_25,v=.slice p_24 out.length c_25∧SRc C_beat_bound D out p_24 c_25):=by
 have hc:i=0∨i=1∨i=2:=by omega
 rcases hc with rfl | rfl | rfl
 ·exact ⟨126,rfl,ca_126,beat_cellar_grows_ok hD c hs hs_1 hs_2 hm out h⟩
 ·exact ⟨127,rfl,ca_127,beat_cellar_reads_ok hD c hs hs_1 hs_2 hm out h⟩
 exact ⟨128,rfl,ca_128,beat_cellar_holds_ok hD c hs hs_1 hs_2 hm out h⟩
noncomputable def beat_cellar_above_k5 (v46_0:Int) (l_4:(List Int)):Option ((Int × (List Int)) ⊕ ((Bool × Int × (List Int) × (List Int)) ⊕ ((List Int) × Bool))):=
  nxt (wr (v46_0 + 1),l_4)
noncomputable def beat_cellar_above_b4 (c:beat_cellar) (all:(List beat_bound)) (v5_0:Bool) (v41_0:Int) (l_1:(List Int)) (l_2:(List Int)):(Int × (List Int))→Option ((Int × (List Int)) ⊕ ((Bool × Int × (List Int) × (List Int)) ⊕ ((List Int) × Bool)))
 | (v46_0,l_3)=>
  cond (decide (v46_0 < (all.length:Int)))
  ((idx all v46_0).bind fun e=>
  if (0:Int)≤((mget kl_99 c.place e.over).getD 0)∧((mget kl_99 c.place e.over).getD 0) < ((66:Nat):Int) then
  cond ((l_3.getD (Int.toNat ((mget kl_99 c.place e.over).getD 0)) 0) == 1099511627776)
  (beat_cellar_above_k5 v46_0 l_3)
  (if (0:Int)≤((mget kl_99 c.place e.of_).getD 0)∧((mget kl_99 c.place e.of_).getD 0) < ((66:Nat):Int) then
  if (0:Int)≤((mget kl_99 c.place e.over).getD 0)∧((mget kl_99 c.place e.over).getD 0) < ((66:Nat):Int) then
  if (0:Int)≤((mget kl_99 c.place e.of_).getD 0)∧((mget kl_99 c.place e.of_).getD 0) < ((66:Nat):Int) then
  beat_cellar_above_k5 v46_0 (l_3.set (Int.toNat ((mget kl_99 c.place e.of_).getD 0)) (if wr ((l_3.getD (Int.toNat ((mget kl_99 c.place e.over).getD 0)) 0) + e.by_) < l_3.getD (Int.toNat ((mget kl_99 c.place e.of_).getD 0)) 0 then wr ((l_3.getD (Int.toNat ((mget kl_99 c.place e.over).getD 0)) 0) + e.by_) else l_3.getD (Int.toNat ((mget kl_99 c.place e.of_).getD 0)) 0))
  else none
  else none
  else none)
  else none)
  (ext (cond (l_3 == l_1)
  (ext (some (l_3,true)))
  (nxt (v5_0,wr (v41_0 + 1),l_3,l_2))))
noncomputable def beat_cellar_above_b3 (c:beat_cellar) (all:(List beat_bound)):(Bool × Int × (List Int) × (List Int))→Option ((Bool × Int × (List Int) × (List Int)) ⊕ ((List Int) × Bool))
 | (v5_0,v41_0,l_1,l_2)=>
  cond (decide (v41_0 < (wr ((c.place.length:Int) + 1))))
  (loopU (beat_cellar_above_b4 c all v5_0 v41_0 l_1 l_2) (0,l_1))
  (ext (some (l_1,false)))
noncomputable def beat_cellar_above_b2 (c:beat_cellar) (fromv:beat_spot) (l:(List Int)):((List beat_bound) × Int)→Option (((List beat_bound) × Int) ⊕ ((List Int) × Bool))
 | (all,v28_0)=>
  cond (decide (v28_0 < 3))
  (if (0:Int)≤v28_0∧v28_0 < ((3:Nat):Int) then
  (tabf_0 v28_0 c).bind fun rv=>
  if all.length + rv.length≤lim then
  nxt ((all ++ rv),wr (v28_0 + 1))
  else none
  else none)
  (ext (loopU (beat_cellar_above_b3 c all) (false,0,(l.set (Int.toNat ((mget kl_99 c.place fromv).getD 0)) 0),(List.replicate 66 (0:Int)))))
noncomputable def beat_cellar_above_b1 (c:beat_cellar) (fromv:beat_spot):(Int × (List Int))→Option ((Int × (List Int)) ⊕ ((List Int) × Bool))
 | (v16_0,l)=>
  cond (decide (v16_0 < 66))
  (if (0:Int)≤v16_0∧v16_0 < ((66:Nat):Int) then
  nxt (wr (v16_0 + 1),(l.set (Int.toNat v16_0) 1099511627776))
  else none)
  (ext (if (0:Int)≤((mget kl_99 c.place fromv).getD 0)∧((mget kl_99 c.place fromv).getD 0) < ((66:Nat):Int) then
  loopU (beat_cellar_above_b2 c fromv l) (([]:List beat_bound),0)
  else none))
noncomputable def beat_cellar_above (c:beat_cellar) (fromv:beat_spot):Option ((List Int) × Bool):=
  loopU (beat_cellar_above_b1 c fromv) (0,(List.replicate 66 (0:Int)))
theorem beat_cellar_above_ok {w0:World} {D0:Stab} (hD:D0.on w0) (c:beat_cellar) (fromv:beat_spot) {p:Option Addr} {c_1:Nat} {p_1:Option Addr} {c_2:Nat} {p_2:Option Addr} {c_3:Nat} {bm:Option Nat} (hs:SRc C_Span D0 c.BeatCellar.Rates p c_1) (hs_1:SRc C_BeatOpen D0 c.BeatCellar.Opens p_1 c_2) (hs_2:SRc C_BeatPair D0 c.BeatCellar.Pairs p_2 c_3) (hm:MapB kl_99 C_int false D0 c.place bm) (hG:Glob D0) (out:((List Int) × Bool)) (h:beat_cellar_above c fromv=some out):Calls Tryz.prog 58 [.agg #[iv c.BeatCellar.Hours,.slice p c.BeatCellar.Rates.length c_1,.slice p_1 c.BeatCellar.Opens.length c_2,.slice p_2 c.BeatCellar.Pairs.length c_3,iv c.left,.map bm],.agg #[iv fromv.clock,iv fromv.hour]].toArray w0 (RetS D0 w0 fun D v=>v=.tuple #[.agg (arr celI out.1).toArray,.bool out.2]∧out.1.length=66):=by
 refine enter _ 83 Tryz.func58 rfl Tryz.ntmps58 rfl fun a hF=>?_
 replace hF:Frm 83 [] [(0,.agg #[iv c.BeatCellar.Hours,.slice p c.BeatCellar.Rates.length c_1,.slice p_1 c.BeatCellar.Opens.length c_2,.slice p_2 c.BeatCellar.Pairs.length c_3,iv c.left,.map bm]),(1,.agg #[iv fromv.clock,iv fromv.hour])] a:=hF
 have hS:=St.start hD
 unfold beat_cellar_above at h
 refine seq (region (O.box (cs:=[iv c.BeatCellar.Hours,.slice p c.BeatCellar.Rates.length c_1,.slice p_1 c.BeatCellar.Opens.length c_2,.slice p_2 c.BeatCellar.Pairs.length c_3,iv c.left,.map bm]) 1 hF rfl rfl hS rfl fun b a w hF hS=>O.box (cs:=[iv fromv.clock,iv fromv.hour]) 2 hF rfl rfl hS rfl fun b_1 a w hF hS=>O.alloc 3 zc_134 hF hS rfl fun b_2 a w hF hS=>step hF (Y.assign hF rfl) rfl fun a hF=>nT (seq (region (O.alloc 4 zc_134 hF hS rfl fun b_3 a w hF hS=>nT (seq (seq (region (step hF (Y.move hF rfl) rfl fun a hF=>nT (block (loop_cut (body:=beat_cellar_above_b1 c fromv) (out:=out) (fun s a w=>∃ (v16_0:Int) (l:(List Int)),s=(v16_0,l)∧Frm 83 [] [(2,.pointer (some ⟨b,0,none⟩)),(3,.pointer (some ⟨b_1,0,none⟩)),(4,.pointer (some ⟨b_2,0,none⟩)),(5,.bool false),(6,.pointer (some ⟨b_3,0,none⟩)),(16,iv v16_0)] a∧St w0 D0 D0 [(1,.cells b [iv c.BeatCellar.Hours,.slice p c.BeatCellar.Rates.length c_1,.slice p_1 c.BeatCellar.Opens.length c_2,.slice p_2 c.BeatCellar.Pairs.length c_3,iv c.left,.map bm] 96),(2,.cells b_1 [iv fromv.clock,iv fromv.hour] 99),(3,.cells b_2 (arr celI (List.replicate 66 (0:Int))) 134),(4,.cells b_3 (arr celI l) 134)] w∧l.length=66) (0,(List.replicate 66 (0:Int))) h ⟨0,(List.replicate 66 (0:Int)),rfl,hF.weak (AF rfl),hS.weak (AL rfl),List.length_replicate⟩ ?_)))))))))))
 rintro s a w xo ⟨v16_0,l,rfl,hF,hS,hn⟩ h hxo
 unfold beat_cellar_above_b1 at h
 dsimp only at h
 refine seq (region (step hF (Y.lss hF rfl rfl) rfl fun a hF=>nT (seq (cond_b hF rfl (fun hbv=>?_) (fun hbv=>?_)))))
 ·replace h:=cond_t h hbv
  refine skip_ (then_n (seq (block (seq (region (step hF (Y.move hF rfl) rfl fun a hF=>step hF (Y.assign hF rfl) rfl fun a hF=>nT (region (step hF (Y.move hF rfl) rfl fun a hF=>?_))))))))
  obtain ⟨hg,h⟩:=ite_some h
  refine step hF (Y.indexArr u_134 sz_3 hF rfl rfl hg.1 hg.2) rfl fun a hF=>O.storeA (F:=celI) (u:=1099511627776) 4 sz_3 hn hg hF rfl rfl hS rfl fun a w hF hS=>nil (blk_n (then_n (region (step hF (Y.add hF rfl rfl) rfl fun a hF=>step hF (Y.move hF rfl) rfl fun a hF=>nT (⟨_,nxt_some h,(wr (v16_0 + 1)),(l.set (Int.toNat v16_0) 1099511627776),rfl,hF.weak (AF rfl),hS.weak (AL rfl),((List.length_set).trans hn)⟩)))))
 replace h:=cond_f h hbv
 refine exit_ (then_x (then_x (blk_hit (then_n ?_))))
 replace h:=ext_some h hxo
 refine seq (region (step hF (Y.fieldAddr fo_96_2 hF rfl) rfl fun a hF=>step hF (Y.load1L 1 sz_94 hF rfl hS rfl rfl) rfl fun a hF=>step hF (Y.loadNL 2 sz_99 hF rfl hS rfl rfl rfl) rfl fun a hF=>?_))
 obtain ⟨cc,hc,hY⟩:=Y.lookupS (kl:=kl_99) (C:=C_int) (agg:=false) (xs:=c.place) (x:=(.tmp 23)) (y:=(.tmp 24)) (z:=[iv 0]) (z0:=(0:Int)) false  mt_94 (fun _=>rfl) rfl fromv hm.toS hF rfl rfl
 obtain rfl:=hc
 refine step hF ((show Yields _ _ _ _ (iv ((mget kl_99 c.place fromv).getD 0)) from hY hS.stab)) rfl fun a hF=>?_
 obtain ⟨hg_1,h⟩:=ite_some h
 refine step hF (Y.indexArr u_134 sz_3 hF rfl rfl hg_1.1 hg_1.2) rfl fun a hF=>O.storeA (F:=celI) (u:=0) 4 sz_3 hn hg_1 hF rfl rfl hS rfl fun a w hF hS=>nT (seq (region (step hF (Y.assign hF rfl) rfl fun a hF=>?_)))
 replace hS:=hS.ownNil 5 106 5
 refine nT (seq (seq (region ?_)))
 obtain ⟨E,fr,hGb⟩:=hG.1
 refine step hF (Y.loadNH (cs:=tab_0) sz_103 hF rfl (hS.stab _ _ hGb) rfl rfl) rfl fun a hF=>step hF (Y.move hF rfl) rfl fun a hF=>nT (block (loop_cut (body:=beat_cellar_above_b2 c fromv l) (out:=out) (fun s a w=>∃ (all:(List beat_bound)) (v28_0:Int),∃ (Dv:Stab),∃ p_3 c_4 cs,s=(all,v28_0)∧D0.le Dv∧Frm 83 [] [(2,.pointer (some ⟨b,0,none⟩)),(4,.pointer (some ⟨b_2,0,none⟩)),(5,.bool false),(6,.pointer (some ⟨b_3,0,none⟩)),(8,.slice p_3 all.length c_4),(27,.agg tab_0.toArray),(28,iv v28_0)] a∧St w0 D0 Dv [(1,.cells b [iv c.BeatCellar.Hours,.slice p c.BeatCellar.Rates.length c_1,.slice p_1 c.BeatCellar.Opens.length c_2,.slice p_2 c.BeatCellar.Pairs.length c_3,iv c.left,.map bm] 96),(2,.cells b_1 [iv fromv.clock,iv fromv.hour] 99),(3,.cells b_2 (arr celI (List.replicate 66 (0:Int))) 134),(4,.cells b_3 (arr celI (l.set (Int.toNat ((mget kl_99 c.place fromv).getD 0)) 0)) 134),(5,.own p_3 all.length c_4 cs 106 5)] w∧Reps C_beat_bound Dv all cs) (([]:List beat_bound),0) h ⟨([]:List beat_bound),0,D0,none,0,([]),rfl,Stab.le.refl _,hF.weak (AF rfl),hS.weak (AL rfl),Reps.nil⟩ ?_))
 rintro s a w xo_1 ⟨all,v28_0,Dv,p_3,c_4,cs,rfl,hlev,hF,hS,hr⟩ h hxo_1
 unfold beat_cellar_above_b2 at h
 dsimp only at h
 replace hs:=hs.mono hlev
 replace hs_1:=hs_1.mono hlev
 replace hs_2:=hs_2.mono hlev
 replace hm:=hm.mono hlev
 refine seq (region (step hF (Y.lss hF rfl rfl) rfl fun a hF=>nT (seq (cond_b hF rfl (fun hbv_1=>?_) (fun hbv_1=>?_)))))
 ·replace h:=cond_t h hbv_1
  refine skip_ (then_n (seq (block (seq (region ?_)))))
  obtain ⟨hg_2,h⟩:=ite_some h
  refine step hF ((show Yields _ _ _ _ (tab_0.getD (Int.toNat v28_0) undef) from Y.indexG u_103 sz_102 rfl hg_2 hF rfl rfl)) rfl fun a hF=>step hF (Y.assign hF rfl) rfl fun a hF=>nT (region (step hF (Y.move hF rfl) rfl fun a hF=>step hF (Y.move hF rfl) rfl fun a hF=>step hF (Y.loadNL 1 sz_96 hF rfl hS rfl rfl rfl) rfl fun a hF=>?_))
  obtain ⟨rv,hx,h⟩:=bind_some h
  obtain ⟨f,hfv,hfc,hcall⟩:=tab_0_ok hS.stab v28_0 hg_2 c hs hs_1 hs_2 hm rv hx
  refine O.callVS (f:=f) (first:=[]) (cap:=[]) (us:=[.agg #[iv c.BeatCellar.Hours,.slice p c.BeatCellar.Rates.length c_1,.slice p_1 c.BeatCellar.Opens.length c_2,.slice p_2 c.BeatCellar.Pairs.length c_3,iv c.left,.map bm]]) hfc hF hS (congrArg some hfv) rfl hcall rfl fun v Dv_1 a w hR hlev_1 hF hS=>?_
  replace hr:=hr.mono hlev_1
  obtain ⟨p_4,c_5,rfl,hs_3⟩:=hR
  obtain ⟨hg_3,h⟩:=ite_some h
  obtain ⟨ds,hds,hsrc⟩:=src_stab (C:=C_beat_bound) (xs:=rv) (hs_3).1 hS.stab
  refine O.append (C:=C_beat_bound) (xs:=all) (ys:=rv) 5 gr_104 hF rfl rfl hS rfl hsrc hr hds hg_3 rfl fun p_5 c_6 a w hF hS hr_1=>step hF (Y.assign hF rfl) rfl fun a hF=>nil (blk_n (then_n (region (step hF (Y.add hF rfl rfl) rfl fun a hF=>step hF (Y.move hF rfl) rfl fun a hF=>nT (⟨_,nxt_some h,(all ++ rv),(wr (v28_0 + 1)),Dv_1,p_5,c_6,(cs ++ ds),rfl,hlev.trans hlev_1,hF.weak (AF rfl),hS.weak (AL rfl),hr_1⟩)))))
 replace h:=cond_f h hbv_1
 refine exit_ (then_x (then_x (blk_hit (then_n ?_))))
 replace h:=ext_some h hxo_1
 refine seq (seq (region (step hF (Y.fieldAddr fo_96_2 hF rfl) rfl fun a hF=>step hF (Y.load1L 1 sz_94 hF rfl hS rfl rfl) rfl fun a hF=>step hF (Y.lenMS u_94 hm.toS hF rfl hS.stab) rfl fun a hF=>step hF (Y.add hF rfl rfl) rfl fun a hF=>step hF (Y.move hF rfl) rfl fun a hF=>nT (block ?_))))
 obtain ⟨Dv_2,hlev_2,hs_4,hS⟩:=hS.freezeC (C:=C_beat_bound) (i:=5) (xs:=all) rfl hr
 replace hm:=hm.mono hlev_2
 refine loop_cut (body:=beat_cellar_above_b3 c all) (out:=out) (fun s a w=>∃ (v5_0:Bool) (v41_0:Int) (l_1:(List Int)) (l_2:(List Int)),s=(v5_0,v41_0,l_1,l_2)∧Frm 83 [] [(2,.pointer (some ⟨b,0,none⟩)),(4,.pointer (some ⟨b_2,0,none⟩)),(5,.bool v5_0),(6,.pointer (some ⟨b_3,0,none⟩)),(8,.slice p_3 all.length c_4),(40,iv (wr ((c.place.length:Int) + 1))),(41,iv v41_0)] a∧St w0 D0 Dv_2 [(1,.cells b [iv c.BeatCellar.Hours,.slice p c.BeatCellar.Rates.length c_1,.slice p_1 c.BeatCellar.Opens.length c_2,.slice p_2 c.BeatCellar.Pairs.length c_3,iv c.left,.map bm] 96),(2,.cells b_1 [iv fromv.clock,iv fromv.hour] 99),(3,.cells b_2 (arr celI l_2) 134),(4,.cells b_3 (arr celI l_1) 134)] w∧l_1.length=66∧l_2.length=66) (false,0,(l.set (Int.toNat ((mget kl_99 c.place fromv).getD 0)) 0),(List.replicate 66 (0:Int))) h ⟨false,0,(l.set (Int.toNat ((mget kl_99 c.place fromv).getD 0)) 0),(List.replicate 66 (0:Int)),rfl,hF.weak (AF rfl),hS.weak (AL rfl),((List.length_set).trans hn),List.length_replicate⟩ ?_
 rintro s a w xo_2 ⟨v5_0,v41_0,l_1,l_2,rfl,hF,hS,hn_1,hn_2⟩ h hxo_2
 unfold beat_cellar_above_b3 at h
 dsimp only at h
 refine seq (region (step hF (Y.lss hF rfl rfl) rfl fun a hF=>nT (seq (cond_b hF rfl (fun hbv_2=>?_) (fun hbv_2=>?_)))))
 ·replace h:=cond_t h hbv_2
  refine skip_ (then_n (seq (block (scope_ (seq (region (step hF (Y.loadA (F:=celI) 4 sz_134 hn_1 hF rfl hS rfl) rfl fun a hF=>O.alloc 6 zc_134 hF hS rfl fun b_4 a w hF hS=>O.storeW (F:=celI) 6 sz_134 List.length_replicate hn_1 hF rfl rfl hS rfl fun a w hF hS=>nT (seq (label_ (then_n (seq (seq (region (step hF (Y.move hF rfl) rfl fun a hF=>step hF (Y.lenSl u_104 hF rfl) rfl fun a hF=>step hF (Y.move hF rfl) rfl fun a hF=>nT (block (loop_cut (body:=beat_cellar_above_b4 c all v5_0 v41_0 l_1 l_2) (out:=xo_2) (fun s a w=>∃ (v46_0:Int) (l_3:(List Int)),s=(v46_0,l_3)∧Frm 83 [] [(2,.pointer (some ⟨b,0,none⟩)),(4,.pointer (some ⟨b_2,0,none⟩)),(5,.bool v5_0),(6,.pointer (some ⟨b_3,0,none⟩)),(8,.slice p_3 all.length c_4),(11,.pointer (some ⟨b_4,0,none⟩)),(40,iv (wr ((c.place.length:Int) + 1))),(41,iv v41_0),(44,.slice p_3 all.length c_4),(45,iv (all.length:Int)),(46,iv v46_0)] a∧St w0 D0 Dv_2 [(1,.cells b [iv c.BeatCellar.Hours,.slice p c.BeatCellar.Rates.length c_1,.slice p_1 c.BeatCellar.Opens.length c_2,.slice p_2 c.BeatCellar.Pairs.length c_3,iv c.left,.map bm] 96),(2,.cells b_1 [iv fromv.clock,iv fromv.hour] 99),(3,.cells b_2 (arr celI l_2) 134),(4,.cells b_3 (arr celI l_3) 134),(6,.cells b_4 (arr celI l_1) 134)] w∧l_3.length=66) (0,l_1) h ⟨0,l_1,rfl,hF.weak (AF rfl),hS.weak (AL rfl),hn_1⟩ ?_))))))))))))))))
  rintro s a w xo_3 ⟨v46_0,l_3,rfl,hF,hS,hn_3⟩ h hxo_3
  unfold beat_cellar_above_b4 at h
  dsimp only at h
  refine seq (region (step hF (Y.lss hF rfl rfl) rfl fun a hF=>nT (seq (cond_b hF rfl (fun hbv_3=>?_) (fun hbv_3=>?_)))))
  ·replace h:=cond_t h hbv_3
   refine skip_ (then_n (seq_cut (fun a w=>∃ (l_4:(List Int)),Frm 83 [] [(2,.pointer (some ⟨b,0,none⟩)),(4,.pointer (some ⟨b_2,0,none⟩)),(5,.bool v5_0),(6,.pointer (some ⟨b_3,0,none⟩)),(8,.slice p_3 all.length c_4),(11,.pointer (some ⟨b_4,0,none⟩)),(40,iv (wr ((c.place.length:Int) + 1))),(41,iv v41_0),(44,.slice p_3 all.length c_4),(45,iv (all.length:Int)),(46,iv v46_0)] a∧St w0 D0 Dv_2 [(1,.cells b [iv c.BeatCellar.Hours,.slice p c.BeatCellar.Rates.length c_1,.slice p_1 c.BeatCellar.Opens.length c_2,.slice p_2 c.BeatCellar.Pairs.length c_3,iv c.left,.map bm] 96),(2,.cells b_1 [iv fromv.clock,iv fromv.hour] 99),(3,.cells b_2 (arr celI l_2) 134),(4,.cells b_3 (arr celI l_4) 134),(6,.cells b_4 (arr celI l_1) 134)] w∧l_4.length=66∧beat_cellar_above_k5 v46_0 l_4=some xo_3) ?_ ?_))
   ·skip
    refine block (seq (region ?_))
    obtain ⟨e,hx_1,h⟩:=bind_some h
    obtain ⟨b_5,o,hE,hY_1⟩:=Y.indexS (P:=Tryz.prog) (C:=C_beat_bound) (xs:=all) (T:=104) (x:=(.tmp 44)) (y:=(.tmp 46)) u_104 sz_106 hF rfl rfl (hs_4).1 hx_1
    obtain ⟨cc_1,hc_1,hcell⟩:=hE.open
    obtain rfl:=C_beat_bound.open hc_1
    refine step hF (hY_1) rfl fun a hF=>step hF (Y.loadNE (o:=o) (k:=0) sz_106 hF rfl (hcell _ hS.stab) rfl rfl) rfl fun a hF=>O.alloc 7 zc_106 hF hS rfl fun b_6 a w hF hS=>O.store (us:=[iv e.of_.clock,iv e.of_.hour,iv e.over.clock,iv e.over.hour,iv e.by_]) 7 sz_106 hF rfl rfl rfl rfl hS rfl rfl fun a w hF hS=>nT (seq (draws 12 [(0,true),(1,true),(2,true),(3,true),(4,true),(5,true),(6,true),(7,true),(8,true),(9,true),(10,true),(11,true)] mixed_ (by kernel_rfl) (fun w=>St w0 D0 Dv_2 _ w) hS.drew (fun _ _ _ _ h=>h) ?_))
    replace hS:=hS.drew
    refine stepT (i:=0) rfl hF (fun w hS=>Y.fieldAddr fo_96_2 hF rfl) rfl fun a hF=>stepT (i:=1) rfl hF (fun w hS=>Y.load1L 1 sz_94 hF rfl hS rfl rfl) rfl fun a hF=>stepT (i:=2) rfl hF (fun w hS=>Y.fieldAddr fo_106_1 hF rfl) rfl fun a hF=>stepT (i:=3) rfl hF (fun w hS=>Y.loadNL 7 sz_99 hF rfl hS rfl rfl rfl) rfl fun a hF=>?_
    obtain ⟨cc_2,hc_2,hY_2⟩:=Y.lookupS (kl:=kl_99) (C:=C_int) (agg:=false) (xs:=c.place) (x:=(.tmp 51)) (y:=(.tmp 53)) (z:=[iv 0]) (z0:=(0:Int)) false  mt_94 (fun _=>rfl) rfl e.over hm.toS hF rfl rfl
    obtain rfl:=hc_2
    refine stepT (i:=4) rfl hF (fun w hS=>(show Yields _ _ _ _ (iv ((mget kl_99 c.place e.over).getD 0)) from hY_2 hS.stab)) rfl fun a hF=>stepT (i:=5) rfl hF (fun w hS=>Y.fieldAddr fo_96_2 hF rfl) rfl fun a hF=>stepT (i:=6) rfl hF (fun w hS=>Y.load1L 1 sz_94 hF rfl hS rfl rfl) rfl fun a hF=>stepT (i:=7) rfl hF (fun w hS=>Y.fieldAddr fo_106_0 hF rfl) rfl fun a hF=>stepT (i:=8) rfl hF (fun w hS=>Y.loadNL 7 sz_99 hF rfl hS rfl rfl rfl) rfl fun a hF=>?_
    obtain ⟨cc_3,hc_3,hY_3⟩:=Y.lookupS (kl:=kl_99) (C:=C_int) (agg:=false) (xs:=c.place) (x:=(.tmp 56)) (y:=(.tmp 58)) (z:=[iv 0]) (z0:=(0:Int)) false  mt_94 (fun _=>rfl) rfl e.of_ hm.toS hF rfl rfl
    obtain rfl:=hc_3
    refine stepT (i:=9) rfl hF (fun w hS=>(show Yields _ _ _ _ (iv ((mget kl_99 c.place e.of_).getD 0)) from hY_3 hS.stab)) rfl fun a hF=>stepT (i:=10) rfl hF (fun w hS=>Y.assign hF rfl) rfl fun a hF=>stepT (i:=11) rfl hF (fun w hS=>Y.assign hF rfl) rfl fun a hF=>toTail (nT (seq (seq (region (step hF (Y.move hF rfl) rfl fun a hF=>?_)))))
    obtain ⟨hg_4,h⟩:=ite_some h
    refine step hF (Y.indexArr u_134 sz_3 hF rfl rfl hg_4.1 hg_4.2) rfl fun a hF=>step hF ((show Yields _ _ _ _ (iv (l_3.getD (Int.toNat ((mget kl_99 c.place e.over).getD 0)) 0)) from Y.load1A (F:=celI) 4 0 sz_3 hn_3 hg_4 hF rfl hS rfl)) rfl fun a hF=>step hF (Y.eql hF rfl rfl) rfl fun a hF=>nT (cond_b hF rfl (fun hbv_4=>?_) (fun hbv_4=>?_))
    ·replace h:=cond_t h hbv_4
     refine exit_ (then_x (blk_hit (then_n (⟨l_3,hF.weak (AF rfl),hS.weak (AL rfl),hn_3,h⟩))))
    replace h:=cond_f h hbv_4
    refine skip_ (then_n (draws 11 [(0,true),(1,true),(2,true),(3,true),(4,true),(5,true),(6,true),(7,true),(8,true),(9,true),(10,true)] mixed_ (by kernel_rfl) (fun w=>St w0 D0 Dv_2 _ w) hS.drew (fun _ _ _ _ h=>h) ?_))
    replace hS:=hS.drew
    refine stepT (i:=0) rfl hF (fun w hS=>Y.move hF rfl) rfl fun a hF=>stepT (i:=1) rfl hF (fun w hS=>Y.move hF rfl) rfl fun a hF=>?_
    obtain ⟨hg_5,h⟩:=ite_some h
    refine stepT (i:=2) rfl hF (fun w hS=>Y.indexArr u_134 sz_3 hF rfl rfl hg_5.1 hg_5.2) rfl fun a hF=>stepT (i:=3) rfl hF (fun w hS=>(show Yields _ _ _ _ (iv (l_3.getD (Int.toNat ((mget kl_99 c.place e.of_).getD 0)) 0)) from Y.load1A (F:=celI) 4 0 sz_3 hn_3 hg_5 hF rfl hS rfl)) rfl fun a hF=>stepT (i:=4) rfl hF (fun w hS=>Y.move hF rfl) rfl fun a hF=>?_
    obtain ⟨hg_6,h⟩:=ite_some h
    refine stepT (i:=5) rfl hF (fun w hS=>Y.indexArr u_134 sz_3 hF rfl rfl hg_6.1 hg_6.2) rfl fun a hF=>stepT (i:=6) rfl hF (fun w hS=>(show Yields _ _ _ _ (iv (l_3.getD (Int.toNat ((mget kl_99 c.place e.over).getD 0)) 0)) from Y.load1A (F:=celI) 4 0 sz_3 hn_3 hg_6 hF rfl hS rfl)) rfl fun a hF=>stepT (i:=7) rfl hF (fun w hS=>Y.fieldAddr fo_106_2 hF rfl) rfl fun a hF=>stepT (i:=8) rfl hF (fun w hS=>Y.load1L 7 sz_3 hF rfl hS rfl rfl) rfl fun a hF=>stepT (i:=9) rfl hF (fun w hS=>Y.add hF rfl rfl) rfl fun a hF=>stepT (i:=10) rfl hF (fun w hS=>Y.min2 hF rfl rfl) rfl fun a hF=>toTail ?_
    obtain ⟨hg_7,h⟩:=ite_some h
    refine step hF (Y.indexArr u_134 sz_3 hF rfl rfl hg_7.1 hg_7.2) rfl fun a hF=>O.storeA (F:=celI) (u:=(if wr ((l_3.getD (Int.toNat ((mget kl_99 c.place e.over).getD 0)) 0) + e.by_) < l_3.getD (Int.toNat ((mget kl_99 c.place e.of_).getD 0)) 0 then wr ((l_3.getD (Int.toNat ((mget kl_99 c.place e.over).getD 0)) 0) + e.by_) else l_3.getD (Int.toNat ((mget kl_99 c.place e.of_).getD 0)) 0)) 4 sz_3 hn_3 hg_7 hF rfl rfl hS rfl fun a w hF hS=>nil (blk_n (then_n (⟨(l_3.set (Int.toNat ((mget kl_99 c.place e.of_).getD 0)) (if wr ((l_3.getD (Int.toNat ((mget kl_99 c.place e.over).getD 0)) 0) + e.by_) < l_3.getD (Int.toNat ((mget kl_99 c.place e.of_).getD 0)) 0 then wr ((l_3.getD (Int.toNat ((mget kl_99 c.place e.over).getD 0)) 0) + e.by_) else l_3.getD (Int.toNat ((mget kl_99 c.place e.of_).getD 0)) 0)),hF.weak (AF rfl),hS.weak (AL rfl),((List.length_set).trans hn_3),h⟩)))
   rintro a w ⟨l_4,hF,hS,hn_4,h⟩
   unfold beat_cellar_above_k5 at h
   refine region (step hF (Y.add hF rfl rfl) rfl fun a hF=>step hF (Y.move hF rfl) rfl fun a hF=>nT (⟨_,nxt_some h,(wr (v46_0 + 1)),l_4,rfl,hF.weak (AF rfl),hS.weak (AL rfl),hn_4⟩))
  replace h:=cond_f h hbv_3
  refine exit_ (then_x (then_x (blk_hit (then_n ?_))))
  replace h:=ext_some h hxo_3
  refine seq (region (step hF (Y.loadA (F:=celI) 4 sz_134 hn_3 hF rfl hS rfl) rfl fun a hF=>step hF (Y.loadA (F:=celI) 6 sz_134 hn_1 hF rfl hS rfl) rfl fun a hF=>step hF (Y.eqst (fun w=>run_equal_arr (F:=celI) u_134 sz_3 (fun D x y w=>eqI u_3 D x y w) hn_3 hn_1) (fun w=>run_eqGuard_agg _ _ _ _ _ _ _ eg_134) hF rfl rfl) rfl fun a hF=>nT (cond_b hF rfl (fun hbv_5=>?_) (fun hbv_5=>?_))))
  ·replace h:=cond_t h hbv_5
   refine seq (region (step hF (Y.loadA (F:=celI) 4 sz_134 hn_3 hF rfl hS rfl) rfl fun a hF=>O.storeW (F:=celI) 3 sz_134 hn_2 hn_3 hF rfl rfl hS rfl fun a w hF hS=>step hF (Y.assign hF rfl) rfl fun a hF=>nT (ret_ (scp_r (blk_r (then_r (then_r (blk_r (then_r ?_)))))))))
   replace h:=ext_some h hxo_2
   obtain rfl:=some_inj h
   exact leaveS Tryz.results58 hF hS (.cons (.cellN 3 sz_134 rfl rfl ((arr_len _).trans hn_3)) (.cons (.tmp rfl) .nil)) .nil ⟨rfl,hn_3⟩
  replace h:=cond_f h hbv_5
  refine skip_ (scp_n (blk_n (then_n (region (step hF (Y.add hF rfl rfl) rfl fun a hF=>step hF (Y.move hF rfl) rfl fun a hF=>nT (⟨_,nxt_some h,v5_0,(wr (v41_0 + 1)),l_3,l_2,rfl,hF.weak (AF rfl),hS.weak (AL rfl),hn_3,hn_2⟩))))))
 replace h:=cond_f h hbv_2
 refine exit_ (then_x (then_x (blk_hit (then_n ?_))))
 replace h:=ext_some h hxo_2
 refine seq (region (step hF (Y.loadA (F:=celI) 4 sz_134 hn_1 hF rfl hS rfl) rfl fun a hF=>O.storeW (F:=celI) 3 sz_134 hn_2 hn_1 hF rfl rfl hS rfl fun a w hF hS=>step hF (Y.assign hF rfl) rfl fun a hF=>nT (ret_ ?_)))
 obtain rfl:=some_inj h
 exact leaveS Tryz.results58 hF hS (.cons (.cellN 3 sz_134 rfl rfl ((arr_len _).trans hn_1)) (.cons (.tmp rfl) .nil)) .nil ⟨rfl,hn_1⟩
noncomputable def beat_cellar_can (c:beat_cellar):Option Bool:=
  (beat_truth).bind fun rv=>
  (beat_cellar_above c rv).bind fun rv_1=>
  some rv_1.2
theorem beat_cellar_can_ok {w0:World} {D0:Stab} (hD:D0.on w0) (c:beat_cellar) {p:Option Addr} {c_1:Nat} {p_1:Option Addr} {c_2:Nat} {p_2:Option Addr} {c_3:Nat} {bm:Option Nat} (hs:SRc C_Span D0 c.BeatCellar.Rates p c_1) (hs_1:SRc C_BeatOpen D0 c.BeatCellar.Opens p_1 c_2) (hs_2:SRc C_BeatPair D0 c.BeatCellar.Pairs p_2 c_3) (hm:MapB kl_99 C_int false D0 c.place bm) (hG:Glob D0) (out:Bool) (h:beat_cellar_can c=some out):Calls Tryz.prog 38 [.agg #[iv c.BeatCellar.Hours,.slice p c.BeatCellar.Rates.length c_1,.slice p_1 c.BeatCellar.Opens.length c_2,.slice p_2 c.BeatCellar.Pairs.length c_3,iv c.left,.map bm]].toArray w0 (RetP D0 w0 (.bool out)):=by
 refine enter _ 12 Tryz.func38 rfl Tryz.ntmps38 rfl fun a hF=>?_
 replace hF:Frm 12 [] [(0,.agg #[iv c.BeatCellar.Hours,.slice p c.BeatCellar.Rates.length c_1,.slice p_1 c.BeatCellar.Opens.length c_2,.slice p_2 c.BeatCellar.Pairs.length c_3,iv c.left,.map bm])] a:=hF
 have hS:=St.start hD
 unfold beat_cellar_can at h
 refine seq (region (O.box (cs:=[iv c.BeatCellar.Hours,.slice p c.BeatCellar.Rates.length c_1,.slice p_1 c.BeatCellar.Opens.length c_2,.slice p_2 c.BeatCellar.Pairs.length c_3,iv c.left,.map bm]) 1 hF rfl rfl hS rfl fun b a w hF hS=>step hF (Y.assign hF rfl) rfl fun a hF=>nT (seq ?_)))
 obtain ⟨rv,hx,h⟩:=bind_some h
 obtain ⟨rv_1,hx_1,h⟩:=bind_some h
 refine drawsV 8 (.flt 0 (.alt 1 (.alt 2 (.flt 3 (.flt 4 (.flt 5 (.alt 6 (.alt 7 .done .stop) .stop)))) (.alt 6 (.alt 2 (.flt 3 (.flt 4 (.flt 5 (.alt 7 .done .stop)))) .stop) .stop)) (.alt 6 (.alt 1 (.alt 2 (.flt 3 (.flt 4 (.flt 5 (.alt 7 .done .stop)))) .stop) .stop) .stop))) mixed_ (by kernel_rfl) (fun w=>St w0 D0 D0 [(1,.cells b [iv c.BeatCellar.Hours,.slice p c.BeatCellar.Rates.length c_1,.slice p_1 c.BeatCellar.Opens.length c_2,.slice p_2 c.BeatCellar.Pairs.length c_3,iv c.left,.map bm] 96)] w) (fun a w=>∃ (Dv_1:Stab) (b_1:Nat),D0.le Dv_1∧Frm 12 [] [(2,.bool false),(10,.bool rv_1.2)] a∧St w0 D0 Dv_1 [(1,.cells b [iv c.BeatCellar.Hours,.slice p c.BeatCellar.Rates.length c_1,.slice p_1 c.BeatCellar.Opens.length c_2,.slice p_2 c.BeatCellar.Pairs.length c_3,iv c.left,.map bm] 96),(2,.cells b_1 (arr celI rv_1.1) 134)] w∧rv_1.1.length=66) (hS.weak (ms:=[(1,.cells b [iv c.BeatCellar.Hours,.slice p c.BeatCellar.Rates.length c_1,.slice p_1 c.BeatCellar.Opens.length c_2,.slice p_2 c.BeatCellar.Pairs.length c_3,iv c.left,.map bm] 96)]) ⟨rfl,trivial⟩).drew (fun _ _ _ _ h=>h) ?_ ?_
 ·replace hS:=hS.drew
  have hle0:=hS.le
  refine stepV (i:=0) rfl hF (fun w hS=>Y.loadNL 1 sz_96 hF rfl hS rfl rfl rfl) rfl fun a hF=>oneV (i:=1) rfl ?_ ?_
  ·skip
   refine O.callP (us:=[]) ca_36 hF hS (beat_truth_ok hS.stab rv hx) rfl rfl fun a w hF hS=>nT ⟨hS.weak ⟨rfl,trivial⟩,?_⟩
   refine oneV (i:=2) rfl ?_ ?_
   ·skip
    refine O.callS (us:=[.agg #[iv c.BeatCellar.Hours,.slice p c.BeatCellar.Rates.length c_1,.slice p_1 c.BeatCellar.Opens.length c_2,.slice p_2 c.BeatCellar.Pairs.length c_3,iv c.left,.map bm],.agg #[iv rv.clock,iv rv.hour]]) ca_58 hF hS (beat_cellar_above_ok hS.stab c rv hs hs_1 hs_2 hm hG rv_1 hx_1) rfl rfl fun v_1 Dv_2 a w hR_1 hlev_1 hF hS=>?_
    obtain ⟨rfl,hn_1⟩:=hR_1
    refine nT ⟨(hS.weak (ms:=[(1,.cells b [iv c.BeatCellar.Hours,.slice p c.BeatCellar.Rates.length c_1,.slice p_1 c.BeatCellar.Opens.length c_2,.slice p_2 c.BeatCellar.Pairs.length c_3,iv c.left,.map bm] 96)]) ⟨rfl,trivial⟩).weakD hlev_1 hle0,?_⟩
    refine stepV (i:=3) rfl hF (fun w hS=>Y.move hF rfl) rfl fun a hF=>stepV (i:=4) rfl hF (fun w hS=>Y.extract hF rfl rfl) rfl fun a hF=>stepV (i:=5) rfl hF (fun w hS=>Y.extract hF rfl rfl) rfl fun a hF=>oneV (i:=6) rfl ?_ trivial
    refine O.alloc 2 zc_134 hF hS rfl fun b_2 a w hF hS=>nT ⟨(hS.weak (ms:=[(1,.cells b [iv c.BeatCellar.Hours,.slice p c.BeatCellar.Rates.length c_1,.slice p_1 c.BeatCellar.Opens.length c_2,.slice p_2 c.BeatCellar.Pairs.length c_3,iv c.left,.map bm] 96)]) ⟨rfl,trivial⟩).weakD hlev_1 hle0,?_⟩
    refine oneV (i:=7) rfl ?_ trivial
    refine O.storeW (F:=celI) 2 sz_134 List.length_replicate hn_1 hF rfl rfl hS rfl fun a w hF hS=>nT ⟨(hS.weak (ms:=[(1,.cells b [iv c.BeatCellar.Hours,.slice p c.BeatCellar.Rates.length c_1,.slice p_1 c.BeatCellar.Opens.length c_2,.slice p_2 c.BeatCellar.Pairs.length c_3,iv c.left,.map bm] 96)]) ⟨rfl,trivial⟩).weakD hlev_1 hle0,?_⟩
    exact toTailV ⟨Dv_2,b_2,hlev_1,hF.weak ⟨rfl,rfl,trivial⟩,hS.weak ⟨rfl,rfl,trivial⟩,hn_1⟩
   refine oneV (i:=6) rfl ?_ trivial
   refine O.alloc 2 zc_134 hF hS rfl fun b_3 a w hF hS=>nT ⟨hS.weak ⟨rfl,trivial⟩,?_⟩
   refine oneV (i:=2) rfl ?_ trivial
   refine O.callS (us:=[.agg #[iv c.BeatCellar.Hours,.slice p c.BeatCellar.Rates.length c_1,.slice p_1 c.BeatCellar.Opens.length c_2,.slice p_2 c.BeatCellar.Pairs.length c_3,iv c.left,.map bm],.agg #[iv rv.clock,iv rv.hour]]) ca_58 hF hS (beat_cellar_above_ok hS.stab c rv hs hs_1 hs_2 hm hG rv_1 hx_1) rfl rfl fun v_2 Dv_3 a w hR_2 hlev_2 hF hS=>?_
   obtain ⟨rfl,hn_2⟩:=hR_2
   refine nT ⟨(hS.weak (ms:=[(1,.cells b [iv c.BeatCellar.Hours,.slice p c.BeatCellar.Rates.length c_1,.slice p_1 c.BeatCellar.Opens.length c_2,.slice p_2 c.BeatCellar.Pairs.length c_3,iv c.left,.map bm] 96)]) ⟨rfl,trivial⟩).weakD hlev_2 hle0,?_⟩
   refine stepV (i:=3) rfl hF (fun w hS=>Y.move hF rfl) rfl fun a hF=>stepV (i:=4) rfl hF (fun w hS=>Y.extract hF rfl rfl) rfl fun a hF=>stepV (i:=5) rfl hF (fun w hS=>Y.extract hF rfl rfl) rfl fun a hF=>oneV (i:=7) rfl ?_ trivial
   refine O.storeW (F:=celI) 2 sz_134 List.length_replicate hn_2 hF rfl rfl hS rfl fun a w hF hS=>nT ⟨(hS.weak (ms:=[(1,.cells b [iv c.BeatCellar.Hours,.slice p c.BeatCellar.Rates.length c_1,.slice p_1 c.BeatCellar.Opens.length c_2,.slice p_2 c.BeatCellar.Pairs.length c_3,iv c.left,.map bm] 96)]) ⟨rfl,trivial⟩).weakD hlev_2 hle0,?_⟩
   exact toTailV ⟨Dv_3,b_3,hlev_2,hF.weak ⟨rfl,rfl,trivial⟩,hS.weak ⟨rfl,rfl,trivial⟩,hn_2⟩
  refine oneV (i:=6) rfl ?_ trivial
  refine O.alloc 2 zc_134 hF hS rfl fun b_4 a w hF hS=>nT ⟨hS.weak ⟨rfl,trivial⟩,?_⟩
  refine oneV (i:=1) rfl ?_ trivial
  refine O.callP (us:=[]) ca_36 hF hS (beat_truth_ok hS.stab rv hx) rfl rfl fun a w hF hS=>nT ⟨hS.weak ⟨rfl,trivial⟩,?_⟩
  refine oneV (i:=2) rfl ?_ trivial
  refine O.callS (us:=[.agg #[iv c.BeatCellar.Hours,.slice p c.BeatCellar.Rates.length c_1,.slice p_1 c.BeatCellar.Opens.length c_2,.slice p_2 c.BeatCellar.Pairs.length c_3,iv c.left,.map bm],.agg #[iv rv.clock,iv rv.hour]]) ca_58 hF hS (beat_cellar_above_ok hS.stab c rv hs hs_1 hs_2 hm hG rv_1 hx_1) rfl rfl fun v_3 Dv_4 a w hR_3 hlev_3 hF hS=>?_
  obtain ⟨rfl,hn_3⟩:=hR_3
  refine nT ⟨(hS.weak (ms:=[(1,.cells b [iv c.BeatCellar.Hours,.slice p c.BeatCellar.Rates.length c_1,.slice p_1 c.BeatCellar.Opens.length c_2,.slice p_2 c.BeatCellar.Pairs.length c_3,iv c.left,.map bm] 96)]) ⟨rfl,trivial⟩).weakD hlev_3 hle0,?_⟩
  refine stepV (i:=3) rfl hF (fun w hS=>Y.move hF rfl) rfl fun a hF=>stepV (i:=4) rfl hF (fun w hS=>Y.extract hF rfl rfl) rfl fun a hF=>stepV (i:=5) rfl hF (fun w hS=>Y.extract hF rfl rfl) rfl fun a hF=>oneV (i:=7) rfl ?_ trivial
  refine O.storeW (F:=celI) 2 sz_134 List.length_replicate hn_3 hF rfl rfl hS rfl fun a w hF hS=>nT ⟨(hS.weak (ms:=[(1,.cells b [iv c.BeatCellar.Hours,.slice p c.BeatCellar.Rates.length c_1,.slice p_1 c.BeatCellar.Opens.length c_2,.slice p_2 c.BeatCellar.Pairs.length c_3,iv c.left,.map bm] 96)]) ⟨rfl,trivial⟩).weakD hlev_3 hle0,?_⟩
  exact toTailV ⟨Dv_4,b_4,hlev_3,hF.weak ⟨rfl,rfl,trivial⟩,hS.weak ⟨rfl,rfl,trivial⟩,hn_3⟩
 rintro a w ⟨Dv_1,b_1,hle,hF,hS,hj⟩
 have hlev_4:=hle
 refine step hF (Y.assign hF rfl) rfl fun a hF=>nT (seq (region (step hF (Y.move hF rfl) rfl fun a hF=>step hF (Y.assign hF rfl) rfl fun a hF=>nT (ret_ ?_))))
 obtain rfl:=some_inj h
 exact leaveP Tryz.results38 hF hS (.cons (.tmp rfl) .nil) .nil rfl
noncomputable def beat_asked (xv:BeatCellar) (right:Bool):Option (beat_cellar × Int):=
  (beat_Check xv).bind fun rv=>
  cond (rv != 0)
  (some ((beat_cellar.mk (BeatCellar.mk 0 ([]:List Span) ([]:List BeatOpen) ([]:List BeatPair)) 0 ([]:(List (beat_spot × Int)))),rv))
  (cond (!right)
  (some ((beat_cellar.mk (BeatCellar.mk 0 ([]:List Span) ([]:List BeatOpen) ([]:List BeatPair)) 0 ([]:(List (beat_spot × Int)))),21))
  ((beat_opened xv 0).bind fun rv_1=>
  (beat_cellar_can rv_1).bind fun rv_2=>
  cond (!rv_2)
  (some ((beat_cellar.mk (BeatCellar.mk 0 ([]:List Span) ([]:List BeatOpen) ([]:List BeatPair)) 0 ([]:(List (beat_spot × Int)))),22))
  (some (rv_1,0))))
theorem beat_asked_ok {w0:World} {D0:Stab} (hD:D0.on w0) (xv:BeatCellar) (right:Bool) {p:Option Addr} {c:Nat} {p_1:Option Addr} {c_1:Nat} {p_2:Option Addr} {c_2:Nat} (hs:SRc C_Span D0 xv.Rates p c) (hs_1:SRc C_BeatOpen D0 xv.Opens p_1 c_1) (hs_2:SRc C_BeatPair D0 xv.Pairs p_2 c_2) (hG:Glob D0) (out:(beat_cellar × Int)) (h:beat_asked xv right=some out):Calls Tryz.prog 39 [.agg #[iv xv.Hours,.slice p xv.Rates.length c,.slice p_1 xv.Opens.length c_1,.slice p_2 xv.Pairs.length c_2],.bool right].toArray w0 (RetS D0 w0 fun D v=>∃ p_6 c_6 p_7 c_7 p_8 c_8 bm_1,v=.tuple #[.agg #[iv out.1.BeatCellar.Hours,.slice p_6 out.1.BeatCellar.Rates.length c_6,.slice p_7 out.1.BeatCellar.Opens.length c_7,.slice p_8 out.1.BeatCellar.Pairs.length c_8,iv out.1.left,.map bm_1],iv out.2]∧SRc C_Span D out.1.BeatCellar.Rates p_6 c_6∧SRc C_BeatOpen D out.1.BeatCellar.Opens p_7 c_7∧SRc C_BeatPair D out.1.BeatCellar.Pairs p_8 c_8∧MapB kl_99 C_int false D out.1.place bm_1):=by
 refine enter _ 27 Tryz.func39 rfl Tryz.ntmps39 rfl fun a hF=>?_
 replace hF:Frm 27 [] [(0,.agg #[iv xv.Hours,.slice p xv.Rates.length c,.slice p_1 xv.Opens.length c_1,.slice p_2 xv.Pairs.length c_2]),(1,.bool right)] a:=hF
 have hS:=St.start hD
 unfold beat_asked at h
 refine seq (region (O.box (cs:=[iv xv.Hours,.slice p xv.Rates.length c,.slice p_1 xv.Opens.length c_1,.slice p_2 xv.Pairs.length c_2]) 1 hF rfl rfl hS rfl fun b a w hF hS=>O.alloc 2 zc_96 hF hS rfl fun b_1 a w hF hS=>step hF (Y.assign hF rfl) rfl fun a hF=>nT (seq (seq (region (step hF (Y.loadNL 1 sz_35 hF rfl hS rfl rfl rfl) rfl fun a hF=>?_))))))
 obtain ⟨rv,hx,h⟩:=bind_some h
 refine O.callP (us:=[.agg #[iv xv.Hours,.slice p xv.Rates.length c,.slice p_1 xv.Opens.length c_1,.slice p_2 xv.Pairs.length c_2]]) ca_5 hF hS (beat_Check_ok hS.stab xv hs hs_1 hs_2 rv hx) rfl rfl fun a w hF hS=>step hF (Y.assign hF rfl) rfl fun a hF=>nT (seq (region (step hF (Y.move hF rfl) rfl fun a hF=>step hF (Y.neq hF rfl rfl) rfl fun a hF=>nT (cond_b hF rfl (fun hbv=>?_) (fun hbv=>?_)))))
 ·replace h:=cond_t h hbv
  refine seq (region (step hF (Y.build (parts:=[]) (cs:=#[iv 0,.slice none 0 0,.slice none 0 0,.slice none 0 0,iv 0,.map none]) hF rfl (by kernel_rfl)) rfl fun a hF=>step hF (Y.move hF rfl) rfl fun a hF=>O.store (us:=[iv 0,.slice none 0 0,.slice none 0 0,.slice none 0 0,iv 0,.map none]) 2 sz_96 hF rfl rfl rfl rfl hS rfl rfl fun a w hF hS=>step hF (Y.assign hF rfl) rfl fun a hF=>nT (ret_ (then_r ?_))))
  obtain rfl:=some_inj h
  exact leaveS Tryz.results39 hF hS (.cons (.cellN 2 sz_96 rfl rfl rfl) (.cons (.tmp rfl) .nil)) .nil ⟨_,_,_,_,_,_,_,rfl,SRc.nil,SRc.nil,SRc.nil,MapB.nil⟩
 replace h:=cond_f h hbv
 refine skip_ (then_n (seq (seq (region (step hF (Y.move hF rfl) rfl fun a hF=>step hF (Y.not hF rfl) rfl fun a hF=>nT (cond_b hF rfl (fun hbv_1=>?_) (fun hbv_1=>?_)))))))
 ·replace h:=cond_t h hbv_1
  refine seq (region (step hF (Y.build (parts:=[]) (cs:=#[iv 0,.slice none 0 0,.slice none 0 0,.slice none 0 0,iv 0,.map none]) hF rfl (by kernel_rfl)) rfl fun a hF=>O.store (us:=[iv 0,.slice none 0 0,.slice none 0 0,.slice none 0 0,iv 0,.map none]) 2 sz_96 hF rfl rfl rfl rfl hS rfl rfl fun a w hF hS=>step hF (Y.assign hF rfl) rfl fun a hF=>nT (ret_ (then_r ?_))))
  obtain rfl:=some_inj h
  exact leaveS Tryz.results39 hF hS (.cons (.cellN 2 sz_96 rfl rfl rfl) (.cons (.tmp rfl) .nil)) .nil ⟨_,_,_,_,_,_,_,rfl,SRc.nil,SRc.nil,SRc.nil,MapB.nil⟩
 replace h:=cond_f h hbv_1
 refine skip_ (then_n (seq (region (step hF (Y.loadNL 1 sz_35 hF rfl hS rfl rfl rfl) rfl fun a hF=>?_))))
 obtain ⟨rv_1,hx_1,h⟩:=bind_some h
 refine O.callS (us:=[.agg #[iv xv.Hours,.slice p xv.Rates.length c,.slice p_1 xv.Opens.length c_1,.slice p_2 xv.Pairs.length c_2],iv 0]) ca_34 hF hS (beat_opened_ok hS.stab xv 0 hs hs_1 hs_2 rv_1 hx_1) rfl rfl fun v Dv a w hR hlev hF hS=>?_
 replace hG:=hG.mono hlev
 obtain ⟨p_3,c_3,p_4,c_4,p_5,c_5,bm,rfl,hs_3,hs_4,hs_5,hm⟩:=hR
 refine O.alloc 3 zc_96 hF hS rfl fun b_2 a w hF hS=>O.store (us:=[iv rv_1.BeatCellar.Hours,.slice p_3 rv_1.BeatCellar.Rates.length c_3,.slice p_4 rv_1.BeatCellar.Opens.length c_4,.slice p_5 rv_1.BeatCellar.Pairs.length c_5,iv rv_1.left,.map bm]) 3 sz_96 hF rfl rfl rfl rfl hS rfl rfl fun a w hF hS=>nT (seq (region (step hF (Y.loadNL 3 sz_96 hF rfl hS rfl rfl rfl) rfl fun a hF=>step hF (Y.makeFunc (first:=[(.tmp 20)]) (cap:=[]) (fs:=[.agg #[iv rv_1.BeatCellar.Hours,.slice p_3 rv_1.BeatCellar.Rates.length c_3,.slice p_4 rv_1.BeatCellar.Opens.length c_4,.slice p_5 rv_1.BeatCellar.Pairs.length c_5,iv rv_1.left,.map bm]]) (cs:=[]) hF rfl rfl) rfl fun a hF=>step hF (Y.assign hF rfl) rfl fun a hF=>nT (seq (seq (region (step hF (Y.move hF rfl) rfl fun a hF=>?_)))))))
 obtain ⟨rv_2,hx_2,h⟩:=bind_some h
 refine O.callVP (f:=38) (first:=[.agg #[iv rv_1.BeatCellar.Hours,.slice p_3 rv_1.BeatCellar.Rates.length c_3,.slice p_4 rv_1.BeatCellar.Opens.length c_4,.slice p_5 rv_1.BeatCellar.Pairs.length c_5,iv rv_1.left,.map bm]]) (cap:=[]) (us:=[]) ca_38 hF hS rfl rfl (beat_cellar_can_ok hS.stab rv_1 hs_3 hs_4 hs_5 hm hG rv_2 hx_2) rfl fun a w hF hS=>step hF (Y.not hF rfl) rfl fun a hF=>nT (cond_b hF rfl (fun hbv_2=>?_) (fun hbv_2=>?_))
 ·replace h:=cond_t h hbv_2
  refine seq (region (step hF (Y.build (parts:=[]) (cs:=#[iv 0,.slice none 0 0,.slice none 0 0,.slice none 0 0,iv 0,.map none]) hF rfl (by kernel_rfl)) rfl fun a hF=>O.store (us:=[iv 0,.slice none 0 0,.slice none 0 0,.slice none 0 0,iv 0,.map none]) 2 sz_96 hF rfl rfl rfl rfl hS rfl rfl fun a w hF hS=>step hF (Y.assign hF rfl) rfl fun a hF=>nT (ret_ (then_r ?_))))
  obtain rfl:=some_inj h
  exact leaveS Tryz.results39 hF hS (.cons (.cellN 2 sz_96 rfl rfl rfl) (.cons (.tmp rfl) .nil)) .nil ⟨_,_,_,_,_,_,_,rfl,SRc.nil,SRc.nil,SRc.nil,MapB.nil⟩
 replace h:=cond_f h hbv_2
 refine skip_ (then_n (seq (region (step hF (Y.loadNL 3 sz_96 hF rfl hS rfl rfl rfl) rfl fun a hF=>O.store (us:=[iv rv_1.BeatCellar.Hours,.slice p_3 rv_1.BeatCellar.Rates.length c_3,.slice p_4 rv_1.BeatCellar.Opens.length c_4,.slice p_5 rv_1.BeatCellar.Pairs.length c_5,iv rv_1.left,.map bm]) 2 sz_96 hF rfl rfl rfl rfl hS rfl rfl fun a w hF hS=>step hF (Y.assign hF rfl) rfl fun a hF=>nT (ret_ ?_)))))
 obtain rfl:=some_inj h
 exact leaveS Tryz.results39 hF hS (.cons (.cellN 2 sz_96 rfl rfl rfl) (.cons (.tmp rfl) .nil)) .nil ⟨_,_,_,_,_,_,_,rfl,hs_3,hs_4,hs_5,hm⟩
noncomputable def beat_cellar_between (c:beat_cellar) (ofv:beat_spot) (over:beat_spot):Option Span:=
  (beat_cellar_above c over).bind fun rv=>
  (beat_cellar_above c ofv).bind fun rv_1=>
  if (0:Int)≤((mget kl_99 c.place over).getD 0)∧((mget kl_99 c.place over).getD 0) < ((66:Nat):Int) then
  if (0:Int)≤((mget kl_99 c.place ofv).getD 0)∧((mget kl_99 c.place ofv).getD 0) < ((66:Nat):Int) then
  some (Span.mk (wr (0 - (rv_1.1.getD (Int.toNat ((mget kl_99 c.place over).getD 0)) 0))) (rv.1.getD (Int.toNat ((mget kl_99 c.place ofv).getD 0)) 0))
  else none
  else none
theorem beat_cellar_between_ok {w0:World} {D0:Stab} (hD:D0.on w0) (c:beat_cellar) (ofv:beat_spot) (over:beat_spot) {p:Option Addr} {c_1:Nat} {p_1:Option Addr} {c_2:Nat} {p_2:Option Addr} {c_3:Nat} {bm:Option Nat} (hs:SRc C_Span D0 c.BeatCellar.Rates p c_1) (hs_1:SRc C_BeatOpen D0 c.BeatCellar.Opens p_1 c_2) (hs_2:SRc C_BeatPair D0 c.BeatCellar.Pairs p_2 c_3) (hm:MapB kl_99 C_int false D0 c.place bm) (hG:Glob D0) (out:Span) (h:beat_cellar_between c ofv over=some out):Calls Tryz.prog 41 [.agg #[iv c.BeatCellar.Hours,.slice p c.BeatCellar.Rates.length c_1,.slice p_1 c.BeatCellar.Opens.length c_2,.slice p_2 c.BeatCellar.Pairs.length c_3,iv c.left,.map bm],.agg #[iv ofv.clock,iv ofv.hour],.agg #[iv over.clock,iv over.hour]].toArray w0 (RetP D0 w0 (.agg #[iv out.Low,iv out.High])):=by
 refine enter _ 37 Tryz.func41 rfl Tryz.ntmps41 rfl fun a hF=>?_
 replace hF:Frm 37 [] [(0,.agg #[iv c.BeatCellar.Hours,.slice p c.BeatCellar.Rates.length c_1,.slice p_1 c.BeatCellar.Opens.length c_2,.slice p_2 c.BeatCellar.Pairs.length c_3,iv c.left,.map bm]),(1,.agg #[iv ofv.clock,iv ofv.hour]),(2,.agg #[iv over.clock,iv over.hour])] a:=hF
 have hS:=St.start hD
 unfold beat_cellar_between at h
 refine seq (region (O.box (cs:=[iv c.BeatCellar.Hours,.slice p c.BeatCellar.Rates.length c_1,.slice p_1 c.BeatCellar.Opens.length c_2,.slice p_2 c.BeatCellar.Pairs.length c_3,iv c.left,.map bm]) 1 hF rfl rfl hS rfl fun b a w hF hS=>O.box (cs:=[iv ofv.clock,iv ofv.hour]) 2 hF rfl rfl hS rfl fun b_1 a w hF hS=>O.box (cs:=[iv over.clock,iv over.hour]) 3 hF rfl rfl hS rfl fun b_2 a w hF hS=>O.alloc 4 zc_27 hF hS rfl fun b_3 a w hF hS=>nT (seq (region (step hF (Y.loadNL 1 sz_96 hF rfl hS rfl rfl rfl) rfl fun a hF=>step hF (Y.loadNL 3 sz_99 hF rfl hS rfl rfl rfl) rfl fun a hF=>?_)))))
 obtain ⟨rv,hx,h⟩:=bind_some h
 refine O.callS (us:=[.agg #[iv c.BeatCellar.Hours,.slice p c.BeatCellar.Rates.length c_1,.slice p_1 c.BeatCellar.Opens.length c_2,.slice p_2 c.BeatCellar.Pairs.length c_3,iv c.left,.map bm],.agg #[iv over.clock,iv over.hour]]) ca_58 hF hS (beat_cellar_above_ok hS.stab c over hs hs_1 hs_2 hm hG rv hx) rfl rfl fun v Dv a w hR hlev hF hS=>?_
 replace hs:=hs.mono hlev
 replace hs_1:=hs_1.mono hlev
 replace hs_2:=hs_2.mono hlev
 replace hm:=hm.mono hlev
 replace hG:=hG.mono hlev
 obtain ⟨rfl,hn⟩:=hR
 refine step hF (Y.move hF rfl) rfl fun a hF=>step hF (Y.extract hF rfl rfl) rfl fun a hF=>step hF (Y.extract hF rfl rfl) rfl fun a hF=>O.alloc 5 zc_134 hF hS rfl fun b_4 a w hF hS=>O.storeW (F:=celI) 5 sz_134 List.length_replicate hn hF rfl rfl hS rfl fun a w hF hS=>step hF (Y.assign hF rfl) rfl fun a hF=>nT (seq (region (step hF (Y.loadNL 1 sz_96 hF rfl hS rfl rfl rfl) rfl fun a hF=>step hF (Y.loadNL 2 sz_99 hF rfl hS rfl rfl rfl) rfl fun a hF=>?_)))
 obtain ⟨rv_1,hx_1,h⟩:=bind_some h
 refine O.callS (us:=[.agg #[iv c.BeatCellar.Hours,.slice p c.BeatCellar.Rates.length c_1,.slice p_1 c.BeatCellar.Opens.length c_2,.slice p_2 c.BeatCellar.Pairs.length c_3,iv c.left,.map bm],.agg #[iv ofv.clock,iv ofv.hour]]) ca_58 hF hS (beat_cellar_above_ok hS.stab c ofv hs hs_1 hs_2 hm hG rv_1 hx_1) rfl rfl fun v_1 Dv_1 a w hR_1 hlev_1 hF hS=>?_
 replace hm:=hm.mono hlev_1
 obtain ⟨rfl,hn_1⟩:=hR_1
 refine step hF (Y.move hF rfl) rfl fun a hF=>step hF (Y.extract hF rfl rfl) rfl fun a hF=>step hF (Y.extract hF rfl rfl) rfl fun a hF=>O.alloc 6 zc_134 hF hS rfl fun b_5 a w hF hS=>O.storeW (F:=celI) 6 sz_134 List.length_replicate hn_1 hF rfl rfl hS rfl fun a w hF hS=>step hF (Y.assign hF rfl) rfl fun a hF=>nT (seq (draws 13 [(0,true),(1,true),(2,true),(3,true),(4,true),(5,true),(6,true),(7,true),(8,true),(9,true),(10,true),(11,true),(12,true)] mixed_ (by kernel_rfl) (fun w=>St w0 D0 Dv_1 _ w) hS.drew (fun _ _ _ _ h=>h) ?_))
 replace hS:=hS.drew
 refine stepT (i:=0) rfl hF (fun w hS=>Y.fieldAddr fo_96_2 hF rfl) rfl fun a hF=>stepT (i:=1) rfl hF (fun w hS=>Y.load1L 1 sz_94 hF rfl hS rfl rfl) rfl fun a hF=>stepT (i:=2) rfl hF (fun w hS=>Y.loadNL 3 sz_99 hF rfl hS rfl rfl rfl) rfl fun a hF=>?_
 obtain ⟨cc,hc,hY⟩:=Y.lookupS (kl:=kl_99) (C:=C_int) (agg:=false) (xs:=c.place) (x:=(.tmp 24)) (y:=(.tmp 25)) (z:=[iv 0]) (z0:=(0:Int)) false  mt_94 (fun _=>rfl) rfl over hm.toS hF rfl rfl
 obtain rfl:=hc
 refine stepT (i:=3) rfl hF (fun w hS=>(show Yields _ _ _ _ (iv ((mget kl_99 c.place over).getD 0)) from hY hS.stab)) rfl fun a hF=>?_
 obtain ⟨hg,h⟩:=ite_some h
 refine stepT (i:=4) rfl hF (fun w hS=>Y.indexArr u_134 sz_3 hF rfl rfl hg.1 hg.2) rfl fun a hF=>stepT (i:=5) rfl hF (fun w hS=>(show Yields _ _ _ _ (iv (rv_1.1.getD (Int.toNat ((mget kl_99 c.place over).getD 0)) 0)) from Y.load1A (F:=celI) 6 0 sz_3 hn_1 hg hF rfl hS rfl)) rfl fun a hF=>stepT (i:=6) rfl hF (fun w hS=>Y.neg hF rfl) rfl fun a hF=>stepT (i:=7) rfl hF (fun w hS=>Y.fieldAddr fo_96_2 hF rfl) rfl fun a hF=>stepT (i:=8) rfl hF (fun w hS=>Y.load1L 1 sz_94 hF rfl hS rfl rfl) rfl fun a hF=>stepT (i:=9) rfl hF (fun w hS=>Y.loadNL 2 sz_99 hF rfl hS rfl rfl rfl) rfl fun a hF=>?_
 obtain ⟨cc_1,hc_1,hY_1⟩:=Y.lookupS (kl:=kl_99) (C:=C_int) (agg:=false) (xs:=c.place) (x:=(.tmp 31)) (y:=(.tmp 32)) (z:=[iv 0]) (z0:=(0:Int)) false  mt_94 (fun _=>rfl) rfl ofv hm.toS hF rfl rfl
 obtain rfl:=hc_1
 refine stepT (i:=10) rfl hF (fun w hS=>(show Yields _ _ _ _ (iv ((mget kl_99 c.place ofv).getD 0)) from hY_1 hS.stab)) rfl fun a hF=>?_
 obtain ⟨hg_1,h⟩:=ite_some h
 refine stepT (i:=11) rfl hF (fun w hS=>Y.indexArr u_134 sz_3 hF rfl rfl hg_1.1 hg_1.2) rfl fun a hF=>stepT (i:=12) rfl hF (fun w hS=>(show Yields _ _ _ _ (iv (rv.1.getD (Int.toNat ((mget kl_99 c.place ofv).getD 0)) 0)) from Y.load1A (F:=celI) 5 0 sz_3 hn hg_1 hF rfl hS rfl)) rfl fun a hF=>toTail (step hF (Y.build (parts:=[(0,(.tmp 29)),(1,(.tmp 35))]) (cs:=#[iv (wr (0 - (rv_1.1.getD (Int.toNat ((mget kl_99 c.place over).getD 0)) 0))),iv (rv.1.getD (Int.toNat ((mget kl_99 c.place ofv).getD 0)) 0)]) hF rfl (by kernel_rfl)) rfl fun a hF=>O.store (us:=[iv (wr (0 - (rv_1.1.getD (Int.toNat ((mget kl_99 c.place over).getD 0)) 0))),iv (rv.1.getD (Int.toNat ((mget kl_99 c.place ofv).getD 0)) 0)]) 4 sz_27 hF rfl rfl rfl rfl hS rfl rfl fun a w hF hS=>nT (ret_ ?_))
 obtain rfl:=some_inj h
 exact leaveP Tryz.results41 hF hS (.cons (.cellN 4 sz_27 rfl rfl rfl) .nil) .nil rfl
noncomputable def beat_Apart (xv:BeatCellar) (one:Int) (other:Int) (hour:Int):Option (Span × Int):=
  (beat_isSpot xv one hour).bind fun rv=>
  (cond rv ((beat_isSpot xv other hour).bind fun rv_1=>
  some rv_1) (some false)).bind fun t=>
  (beat_asked xv t).bind fun rv_2=>
  cond (rv_2.2 != 0)
  (some ((Span.mk 0 0),rv_2.2))
  ((beat_cellar_between rv_2.1 (beat_spot.mk one hour) (beat_spot.mk other hour)).bind fun rv_3=>
  some (rv_3,0))
theorem beat_Apart_ok {w0:World} {D0:Stab} (hD:D0.on w0) (xv:BeatCellar) (one:Int) (other:Int) (hour:Int) {p:Option Addr} {c:Nat} {p_1:Option Addr} {c_1:Nat} {p_2:Option Addr} {c_2:Nat} (hs:SRc C_Span D0 xv.Rates p c) (hs_1:SRc C_BeatOpen D0 xv.Opens p_1 c_1) (hs_2:SRc C_BeatPair D0 xv.Pairs p_2 c_2) (hG:Glob D0) (out:(Span × Int)) (h:beat_Apart xv one other hour=some out):Calls Tryz.prog 17 [.agg #[iv xv.Hours,.slice p xv.Rates.length c,.slice p_1 xv.Opens.length c_1,.slice p_2 xv.Pairs.length c_2],iv one,iv other,iv hour].toArray w0 (RetP D0 w0 (.tuple #[.agg #[iv out.1.Low,iv out.1.High],iv out.2])):=by
 refine enter _ 39 Tryz.func17 rfl Tryz.ntmps17 rfl fun a hF=>?_
 replace hF:Frm 39 [] [(0,.agg #[iv xv.Hours,.slice p xv.Rates.length c,.slice p_1 xv.Opens.length c_1,.slice p_2 xv.Pairs.length c_2]),(1,iv one),(2,iv other),(3,iv hour)] a:=hF
 have hS:=St.start hD
 unfold beat_Apart at h
 refine seq (region (O.box (cs:=[iv xv.Hours,.slice p xv.Rates.length c,.slice p_1 xv.Opens.length c_1,.slice p_2 xv.Pairs.length c_2]) 1 hF rfl rfl hS rfl fun b a w hF hS=>O.alloc 2 zc_27 hF hS rfl fun b_1 a w hF hS=>step hF (Y.assign hF rfl) rfl fun a hF=>nT (seq ?_)))
 obtain ⟨rv,hx,h⟩:=bind_some h
 obtain ⟨t,ht,h⟩:=bind_some h
 obtain ⟨rv_2,hx_2,h⟩:=bind_some h
 refine drawsV 17 (.flt 0 (.flt 1 (.flt 2 (.flt 3 (.alt 4 (.flt 5 (.flt 6 (.flt 7 (.flt 8 (.alt 9 (.flt 10 (.alt 11 (.flt 12 (.flt 13 (.flt 14 (.alt 15 (.alt 16 .done .stop) .stop)))) (.alt 15 (.alt 11 (.flt 12 (.flt 13 (.flt 14 (.alt 16 .done .stop)))) .stop) .stop))) (.alt 15 (.alt 9 (.flt 10 (.alt 11 (.flt 12 (.flt 13 (.flt 14 (.alt 16 .done .stop)))) .stop)) .stop) .stop)))))) (.alt 15 (.alt 4 (.flt 5 (.flt 6 (.flt 7 (.flt 8 (.alt 9 (.flt 10 (.alt 11 (.flt 12 (.flt 13 (.flt 14 (.alt 16 .done .stop)))) .stop)) .stop))))) .stop) .stop)))))) mixed_ (by kernel_rfl) (fun w=>St w0 D0 D0 [(1,.cells b [iv xv.Hours,.slice p xv.Rates.length c,.slice p_1 xv.Opens.length c_1,.slice p_2 xv.Pairs.length c_2] 35),(2,.cells b_1 [iv 0,iv 0] 27)] w) (fun a w=>∃ (Dv_1:Stab) (b_2:Nat) (p_3:Option Addr) (c_3:Nat) (p_4:Option Addr) (c_4:Nat) (p_5:Option Addr) (c_5:Nat) (bm:Option Nat),D0.le Dv_1∧Frm 39 [] [(1,iv one),(2,iv other),(3,iv hour),(8,.pointer (some ⟨b_1,0,none⟩)),(9,iv 0),(10,.pointer (some ⟨b_2,0,none⟩)),(26,iv rv_2.2)] a∧St w0 D0 Dv_1 [(1,.cells b [iv xv.Hours,.slice p xv.Rates.length c,.slice p_1 xv.Opens.length c_1,.slice p_2 xv.Pairs.length c_2] 35),(2,.cells b_1 [iv 0,iv 0] 27),(3,.cells b_2 [iv rv_2.1.BeatCellar.Hours,.slice p_3 rv_2.1.BeatCellar.Rates.length c_3,.slice p_4 rv_2.1.BeatCellar.Opens.length c_4,.slice p_5 rv_2.1.BeatCellar.Pairs.length c_5,iv rv_2.1.left,.map bm] 96)] w∧SRc C_Span Dv_1 rv_2.1.BeatCellar.Rates p_3 c_3∧SRc C_BeatOpen Dv_1 rv_2.1.BeatCellar.Opens p_4 c_4∧SRc C_BeatPair Dv_1 rv_2.1.BeatCellar.Pairs p_5 c_5∧MapB kl_99 C_int false Dv_1 rv_2.1.place bm) (hS.weak (ms:=[(1,.cells b [iv xv.Hours,.slice p xv.Rates.length c,.slice p_1 xv.Opens.length c_1,.slice p_2 xv.Pairs.length c_2] 35),(2,.cells b_1 [iv 0,iv 0] 27)]) ⟨rfl,rfl,trivial⟩).drew (fun _ _ _ _ h=>h) ?_ ?_
 ·replace hS:=hS.drew
  have hle0:=hS.le
  rcases bcases rv with hbv | hbv
  ·skip
   replace ht:=cond_t ht hbv
   obtain ⟨rv_1,hx_1,ht⟩:=bind_some ht
   obtain rfl:=some_inj ht
   refine stepV (i:=0) rfl hF (fun w hS=>Y.loadNL 1 sz_35 hF rfl hS rfl rfl rfl) rfl fun a hF=>stepV (i:=1) rfl hF (fun w hS=>Y.loadNL 1 sz_35 hF rfl hS rfl rfl rfl) rfl fun a hF=>stepV (i:=2) rfl hF (fun w hS=>Y.move hF rfl) rfl fun a hF=>stepV (i:=3) rfl hF (fun w hS=>Y.move hF rfl) rfl fun a hF=>oneV (i:=4) rfl ?_ ?_
   ·skip
    refine O.callP (us:=[.agg #[iv xv.Hours,.slice p xv.Rates.length c,.slice p_1 xv.Opens.length c_1,.slice p_2 xv.Pairs.length c_2],iv one,iv hour]) ca_40 hF hS (beat_isSpot_ok hS.stab xv one hour hs hs_1 hs_2 rv hx) rfl rfl fun a w hF hS=>nT ⟨hS.weak ⟨rfl,rfl,trivial⟩,?_⟩
    refine stepV (i:=5) rfl hF (fun w hS=>Y.move hF rfl) rfl fun a hF=>stepV_on (i:=6) rfl hF rfl rfl hbv (fun w hS=>Y.loadNL 1 sz_35 hF rfl hS rfl rfl rfl) rfl fun a hF=>stepV_on (i:=7) rfl hF rfl rfl hbv (fun w hS=>Y.move hF rfl) rfl fun a hF=>stepV_on (i:=8) rfl hF rfl rfl hbv (fun w hS=>Y.move hF rfl) rfl fun a hF=>oneV (i:=9) rfl ?_ ?_
    ·skip
     refine guard_on hF rfl rfl hbv (O.callP (us:=[.agg #[iv xv.Hours,.slice p xv.Rates.length c,.slice p_1 xv.Opens.length c_1,.slice p_2 xv.Pairs.length c_2],iv other,iv hour]) ca_40 hF hS (beat_isSpot_ok hS.stab xv other hour hs hs_1 hs_2 rv_1 hx_1) rfl rfl fun a w hF hS=>nT ⟨hS.weak ⟨rfl,rfl,trivial⟩,?_⟩)
     refine stepV (i:=10) rfl hF (fun w hS=>Y.pick_t hF rfl hbv rfl) rfl fun a hF=>oneV (i:=11) rfl ?_ ?_
     ·skip
      refine O.callS (us:=[.agg #[iv xv.Hours,.slice p xv.Rates.length c,.slice p_1 xv.Opens.length c_1,.slice p_2 xv.Pairs.length c_2],.bool rv_1]) ca_39 hF hS (beat_asked_ok hS.stab xv rv_1 hs hs_1 hs_2 hG rv_2 hx_2) rfl rfl fun v_1 Dv_2 a w hR_1 hlev_1 hF hS=>?_
      obtain ⟨p_6,c_6,p_7,c_7,p_8,c_8,bm_1,rfl,hs_6,hs_7,hs_8,hm_1⟩:=hR_1
      refine nT ⟨(hS.weak (ms:=[(1,.cells b [iv xv.Hours,.slice p xv.Rates.length c,.slice p_1 xv.Opens.length c_1,.slice p_2 xv.Pairs.length c_2] 35),(2,.cells b_1 [iv 0,iv 0] 27)]) ⟨rfl,rfl,trivial⟩).weakD hlev_1 hle0,?_⟩
      refine stepV (i:=12) rfl hF (fun w hS=>Y.move hF rfl) rfl fun a hF=>stepV (i:=13) rfl hF (fun w hS=>Y.extract hF rfl rfl) rfl fun a hF=>stepV (i:=14) rfl hF (fun w hS=>Y.extract hF rfl rfl) rfl fun a hF=>oneV (i:=15) rfl ?_ trivial
      refine O.alloc 3 zc_96 hF hS rfl fun b_3 a w hF hS=>nT ⟨(hS.weak (ms:=[(1,.cells b [iv xv.Hours,.slice p xv.Rates.length c,.slice p_1 xv.Opens.length c_1,.slice p_2 xv.Pairs.length c_2] 35),(2,.cells b_1 [iv 0,iv 0] 27)]) ⟨rfl,rfl,trivial⟩).weakD hlev_1 hle0,?_⟩
      refine oneV (i:=16) rfl ?_ trivial
      refine O.store (us:=[iv rv_2.1.BeatCellar.Hours,.slice p_6 rv_2.1.BeatCellar.Rates.length c_6,.slice p_7 rv_2.1.BeatCellar.Opens.length c_7,.slice p_8 rv_2.1.BeatCellar.Pairs.length c_8,iv rv_2.1.left,.map bm_1]) 3 sz_96 hF rfl rfl rfl rfl hS rfl rfl fun a w hF hS=>nT ⟨(hS.weak (ms:=[(1,.cells b [iv xv.Hours,.slice p xv.Rates.length c,.slice p_1 xv.Opens.length c_1,.slice p_2 xv.Pairs.length c_2] 35),(2,.cells b_1 [iv 0,iv 0] 27)]) ⟨rfl,rfl,trivial⟩).weakD hlev_1 hle0,?_⟩
      exact toTailV ⟨Dv_2,b_3,p_6,c_6,p_7,c_7,p_8,c_8,bm_1,hlev_1,hF.weak (AF rfl),hS.weak (AL rfl),hs_6,hs_7,hs_8,hm_1⟩
     refine oneV (i:=15) rfl ?_ trivial
     refine O.alloc 3 zc_96 hF hS rfl fun b_4 a w hF hS=>nT ⟨hS.weak ⟨rfl,rfl,trivial⟩,?_⟩
     refine oneV (i:=11) rfl ?_ trivial
     refine O.callS (us:=[.agg #[iv xv.Hours,.slice p xv.Rates.length c,.slice p_1 xv.Opens.length c_1,.slice p_2 xv.Pairs.length c_2],.bool rv_1]) ca_39 hF hS (beat_asked_ok hS.stab xv rv_1 hs hs_1 hs_2 hG rv_2 hx_2) rfl rfl fun v_2 Dv_3 a w hR_2 hlev_2 hF hS=>?_
     obtain ⟨p_9,c_9,p_10,c_10,p_11,c_11,bm_2,rfl,hs_9,hs_10,hs_11,hm_2⟩:=hR_2
     refine nT ⟨(hS.weak (ms:=[(1,.cells b [iv xv.Hours,.slice p xv.Rates.length c,.slice p_1 xv.Opens.length c_1,.slice p_2 xv.Pairs.length c_2] 35),(2,.cells b_1 [iv 0,iv 0] 27)]) ⟨rfl,rfl,trivial⟩).weakD hlev_2 hle0,?_⟩
     refine stepV (i:=12) rfl hF (fun w hS=>Y.move hF rfl) rfl fun a hF=>stepV (i:=13) rfl hF (fun w hS=>Y.extract hF rfl rfl) rfl fun a hF=>stepV (i:=14) rfl hF (fun w hS=>Y.extract hF rfl rfl) rfl fun a hF=>oneV (i:=16) rfl ?_ trivial
     refine O.store (us:=[iv rv_2.1.BeatCellar.Hours,.slice p_9 rv_2.1.BeatCellar.Rates.length c_9,.slice p_10 rv_2.1.BeatCellar.Opens.length c_10,.slice p_11 rv_2.1.BeatCellar.Pairs.length c_11,iv rv_2.1.left,.map bm_2]) 3 sz_96 hF rfl rfl rfl rfl hS rfl rfl fun a w hF hS=>nT ⟨(hS.weak (ms:=[(1,.cells b [iv xv.Hours,.slice p xv.Rates.length c,.slice p_1 xv.Opens.length c_1,.slice p_2 xv.Pairs.length c_2] 35),(2,.cells b_1 [iv 0,iv 0] 27)]) ⟨rfl,rfl,trivial⟩).weakD hlev_2 hle0,?_⟩
     exact toTailV ⟨Dv_3,b_4,p_9,c_9,p_10,c_10,p_11,c_11,bm_2,hlev_2,hF.weak (AF rfl),hS.weak (AL rfl),hs_9,hs_10,hs_11,hm_2⟩
    refine oneV (i:=15) rfl ?_ trivial
    refine O.alloc 3 zc_96 hF hS rfl fun b_5 a w hF hS=>nT ⟨hS.weak ⟨rfl,rfl,trivial⟩,?_⟩
    refine oneV (i:=9) rfl ?_ trivial
    refine guard_on hF rfl rfl hbv (O.callP (us:=[.agg #[iv xv.Hours,.slice p xv.Rates.length c,.slice p_1 xv.Opens.length c_1,.slice p_2 xv.Pairs.length c_2],iv other,iv hour]) ca_40 hF hS (beat_isSpot_ok hS.stab xv other hour hs hs_1 hs_2 rv_1 hx_1) rfl rfl fun a w hF hS=>nT ⟨hS.weak ⟨rfl,rfl,trivial⟩,?_⟩)
    refine stepV (i:=10) rfl hF (fun w hS=>Y.pick_t hF rfl hbv rfl) rfl fun a hF=>oneV (i:=11) rfl ?_ trivial
    refine O.callS (us:=[.agg #[iv xv.Hours,.slice p xv.Rates.length c,.slice p_1 xv.Opens.length c_1,.slice p_2 xv.Pairs.length c_2],.bool rv_1]) ca_39 hF hS (beat_asked_ok hS.stab xv rv_1 hs hs_1 hs_2 hG rv_2 hx_2) rfl rfl fun v_3 Dv_4 a w hR_3 hlev_3 hF hS=>?_
    obtain ⟨p_12,c_12,p_13,c_13,p_14,c_14,bm_3,rfl,hs_12,hs_13,hs_14,hm_3⟩:=hR_3
    refine nT ⟨(hS.weak (ms:=[(1,.cells b [iv xv.Hours,.slice p xv.Rates.length c,.slice p_1 xv.Opens.length c_1,.slice p_2 xv.Pairs.length c_2] 35),(2,.cells b_1 [iv 0,iv 0] 27)]) ⟨rfl,rfl,trivial⟩).weakD hlev_3 hle0,?_⟩
    refine stepV (i:=12) rfl hF (fun w hS=>Y.move hF rfl) rfl fun a hF=>stepV (i:=13) rfl hF (fun w hS=>Y.extract hF rfl rfl) rfl fun a hF=>stepV (i:=14) rfl hF (fun w hS=>Y.extract hF rfl rfl) rfl fun a hF=>oneV (i:=16) rfl ?_ trivial
    refine O.store (us:=[iv rv_2.1.BeatCellar.Hours,.slice p_12 rv_2.1.BeatCellar.Rates.length c_12,.slice p_13 rv_2.1.BeatCellar.Opens.length c_13,.slice p_14 rv_2.1.BeatCellar.Pairs.length c_14,iv rv_2.1.left,.map bm_3]) 3 sz_96 hF rfl rfl rfl rfl hS rfl rfl fun a w hF hS=>nT ⟨(hS.weak (ms:=[(1,.cells b [iv xv.Hours,.slice p xv.Rates.length c,.slice p_1 xv.Opens.length c_1,.slice p_2 xv.Pairs.length c_2] 35),(2,.cells b_1 [iv 0,iv 0] 27)]) ⟨rfl,rfl,trivial⟩).weakD hlev_3 hle0,?_⟩
    exact toTailV ⟨Dv_4,b_5,p_12,c_12,p_13,c_13,p_14,c_14,bm_3,hlev_3,hF.weak (AF rfl),hS.weak (AL rfl),hs_12,hs_13,hs_14,hm_3⟩
   refine oneV (i:=15) rfl ?_ trivial
   refine O.alloc 3 zc_96 hF hS rfl fun b_6 a w hF hS=>nT ⟨hS.weak ⟨rfl,rfl,trivial⟩,?_⟩
   refine oneV (i:=4) rfl ?_ trivial
   refine O.callP (us:=[.agg #[iv xv.Hours,.slice p xv.Rates.length c,.slice p_1 xv.Opens.length c_1,.slice p_2 xv.Pairs.length c_2],iv one,iv hour]) ca_40 hF hS (beat_isSpot_ok hS.stab xv one hour hs hs_1 hs_2 rv hx) rfl rfl fun a w hF hS=>nT ⟨hS.weak ⟨rfl,rfl,trivial⟩,?_⟩
   refine stepV (i:=5) rfl hF (fun w hS=>Y.move hF rfl) rfl fun a hF=>stepV_on (i:=6) rfl hF rfl rfl hbv (fun w hS=>Y.loadNL 1 sz_35 hF rfl hS rfl rfl rfl) rfl fun a hF=>stepV_on (i:=7) rfl hF rfl rfl hbv (fun w hS=>Y.move hF rfl) rfl fun a hF=>stepV_on (i:=8) rfl hF rfl rfl hbv (fun w hS=>Y.move hF rfl) rfl fun a hF=>oneV (i:=9) rfl ?_ trivial
   refine guard_on hF rfl rfl hbv (O.callP (us:=[.agg #[iv xv.Hours,.slice p xv.Rates.length c,.slice p_1 xv.Opens.length c_1,.slice p_2 xv.Pairs.length c_2],iv other,iv hour]) ca_40 hF hS (beat_isSpot_ok hS.stab xv other hour hs hs_1 hs_2 rv_1 hx_1) rfl rfl fun a w hF hS=>nT ⟨hS.weak ⟨rfl,rfl,trivial⟩,?_⟩)
   refine stepV (i:=10) rfl hF (fun w hS=>Y.pick_t hF rfl hbv rfl) rfl fun a hF=>oneV (i:=11) rfl ?_ trivial
   refine O.callS (us:=[.agg #[iv xv.Hours,.slice p xv.Rates.length c,.slice p_1 xv.Opens.length c_1,.slice p_2 xv.Pairs.length c_2],.bool rv_1]) ca_39 hF hS (beat_asked_ok hS.stab xv rv_1 hs hs_1 hs_2 hG rv_2 hx_2) rfl rfl fun v_4 Dv_5 a w hR_4 hlev_4 hF hS=>?_
   obtain ⟨p_15,c_15,p_16,c_16,p_17,c_17,bm_4,rfl,hs_15,hs_16,hs_17,hm_4⟩:=hR_4
   refine nT ⟨(hS.weak (ms:=[(1,.cells b [iv xv.Hours,.slice p xv.Rates.length c,.slice p_1 xv.Opens.length c_1,.slice p_2 xv.Pairs.length c_2] 35),(2,.cells b_1 [iv 0,iv 0] 27)]) ⟨rfl,rfl,trivial⟩).weakD hlev_4 hle0,?_⟩
   refine stepV (i:=12) rfl hF (fun w hS=>Y.move hF rfl) rfl fun a hF=>stepV (i:=13) rfl hF (fun w hS=>Y.extract hF rfl rfl) rfl fun a hF=>stepV (i:=14) rfl hF (fun w hS=>Y.extract hF rfl rfl) rfl fun a hF=>oneV (i:=16) rfl ?_ trivial
   refine O.store (us:=[iv rv_2.1.BeatCellar.Hours,.slice p_15 rv_2.1.BeatCellar.Rates.length c_15,.slice p_16 rv_2.1.BeatCellar.Opens.length c_16,.slice p_17 rv_2.1.BeatCellar.Pairs.length c_17,iv rv_2.1.left,.map bm_4]) 3 sz_96 hF rfl rfl rfl rfl hS rfl rfl fun a w hF hS=>nT ⟨(hS.weak (ms:=[(1,.cells b [iv xv.Hours,.slice p xv.Rates.length c,.slice p_1 xv.Opens.length c_1,.slice p_2 xv.Pairs.length c_2] 35),(2,.cells b_1 [iv 0,iv 0] 27)]) ⟨rfl,rfl,trivial⟩).weakD hlev_4 hle0,?_⟩
   exact toTailV ⟨Dv_5,b_6,p_15,c_15,p_16,c_16,p_17,c_17,bm_4,hlev_4,hF.weak (AF rfl),hS.weak (AL rfl),hs_15,hs_16,hs_17,hm_4⟩
  replace ht:=cond_f ht hbv
  obtain rfl:=some_inj ht
  refine stepV (i:=0) rfl hF (fun w hS=>Y.loadNL 1 sz_35 hF rfl hS rfl rfl rfl) rfl fun a hF=>stepV (i:=1) rfl hF (fun w hS=>Y.loadNL 1 sz_35 hF rfl hS rfl rfl rfl) rfl fun a hF=>stepV (i:=2) rfl hF (fun w hS=>Y.move hF rfl) rfl fun a hF=>stepV (i:=3) rfl hF (fun w hS=>Y.move hF rfl) rfl fun a hF=>oneV (i:=4) rfl ?_ ?_
  ·skip
   refine O.callP (us:=[.agg #[iv xv.Hours,.slice p xv.Rates.length c,.slice p_1 xv.Opens.length c_1,.slice p_2 xv.Pairs.length c_2],iv one,iv hour]) ca_40 hF hS (beat_isSpot_ok hS.stab xv one hour hs hs_1 hs_2 rv hx) rfl rfl fun a w hF hS=>nT ⟨hS.weak ⟨rfl,rfl,trivial⟩,?_⟩
   refine stepV (i:=5) rfl hF (fun w hS=>Y.move hF rfl) rfl fun a hF=>stepV_off (i:=6) rfl hF rfl rfl hbv rfl fun a hF=>stepV_off (i:=7) rfl hF rfl rfl hbv rfl fun a hF=>stepV_off (i:=8) rfl hF rfl rfl hbv rfl fun a hF=>oneV (i:=9) rfl ?_ ?_
   ·skip
    refine guard_off hF rfl rfl hbv rfl fun a hF=>nT ⟨hS.weak ⟨rfl,rfl,trivial⟩,?_⟩
    refine stepV (i:=10) rfl hF (fun w hS=>Y.pick_f hF rfl hbv rfl) rfl fun a hF=>oneV (i:=11) rfl ?_ ?_
    ·skip
     refine O.callS (us:=[.agg #[iv xv.Hours,.slice p xv.Rates.length c,.slice p_1 xv.Opens.length c_1,.slice p_2 xv.Pairs.length c_2],.bool false]) ca_39 hF hS (beat_asked_ok hS.stab xv false hs hs_1 hs_2 hG rv_2 hx_2) rfl rfl fun v_5 Dv_6 a w hR_5 hlev_5 hF hS=>?_
     obtain ⟨p_18,c_18,p_19,c_19,p_20,c_20,bm_5,rfl,hs_18,hs_19,hs_20,hm_5⟩:=hR_5
     refine nT ⟨(hS.weak (ms:=[(1,.cells b [iv xv.Hours,.slice p xv.Rates.length c,.slice p_1 xv.Opens.length c_1,.slice p_2 xv.Pairs.length c_2] 35),(2,.cells b_1 [iv 0,iv 0] 27)]) ⟨rfl,rfl,trivial⟩).weakD hlev_5 hle0,?_⟩
     refine stepV (i:=12) rfl hF (fun w hS=>Y.move hF rfl) rfl fun a hF=>stepV (i:=13) rfl hF (fun w hS=>Y.extract hF rfl rfl) rfl fun a hF=>stepV (i:=14) rfl hF (fun w hS=>Y.extract hF rfl rfl) rfl fun a hF=>oneV (i:=15) rfl ?_ trivial
     refine O.alloc 3 zc_96 hF hS rfl fun b_7 a w hF hS=>nT ⟨(hS.weak (ms:=[(1,.cells b [iv xv.Hours,.slice p xv.Rates.length c,.slice p_1 xv.Opens.length c_1,.slice p_2 xv.Pairs.length c_2] 35),(2,.cells b_1 [iv 0,iv 0] 27)]) ⟨rfl,rfl,trivial⟩).weakD hlev_5 hle0,?_⟩
     refine oneV (i:=16) rfl ?_ trivial
     refine O.store (us:=[iv rv_2.1.BeatCellar.Hours,.slice p_18 rv_2.1.BeatCellar.Rates.length c_18,.slice p_19 rv_2.1.BeatCellar.Opens.length c_19,.slice p_20 rv_2.1.BeatCellar.Pairs.length c_20,iv rv_2.1.left,.map bm_5]) 3 sz_96 hF rfl rfl rfl rfl hS rfl rfl fun a w hF hS=>nT ⟨(hS.weak (ms:=[(1,.cells b [iv xv.Hours,.slice p xv.Rates.length c,.slice p_1 xv.Opens.length c_1,.slice p_2 xv.Pairs.length c_2] 35),(2,.cells b_1 [iv 0,iv 0] 27)]) ⟨rfl,rfl,trivial⟩).weakD hlev_5 hle0,?_⟩
     exact toTailV ⟨Dv_6,b_7,p_18,c_18,p_19,c_19,p_20,c_20,bm_5,hlev_5,hF.weak (AF rfl),hS.weak (AL rfl),hs_18,hs_19,hs_20,hm_5⟩
    refine oneV (i:=15) rfl ?_ trivial
    refine O.alloc 3 zc_96 hF hS rfl fun b_8 a w hF hS=>nT ⟨hS.weak ⟨rfl,rfl,trivial⟩,?_⟩
    refine oneV (i:=11) rfl ?_ trivial
    refine O.callS (us:=[.agg #[iv xv.Hours,.slice p xv.Rates.length c,.slice p_1 xv.Opens.length c_1,.slice p_2 xv.Pairs.length c_2],.bool false]) ca_39 hF hS (beat_asked_ok hS.stab xv false hs hs_1 hs_2 hG rv_2 hx_2) rfl rfl fun v_6 Dv_7 a w hR_6 hlev_6 hF hS=>?_
    obtain ⟨p_21,c_21,p_22,c_22,p_23,c_23,bm_6,rfl,hs_21,hs_22,hs_23,hm_6⟩:=hR_6
    refine nT ⟨(hS.weak (ms:=[(1,.cells b [iv xv.Hours,.slice p xv.Rates.length c,.slice p_1 xv.Opens.length c_1,.slice p_2 xv.Pairs.length c_2] 35),(2,.cells b_1 [iv 0,iv 0] 27)]) ⟨rfl,rfl,trivial⟩).weakD hlev_6 hle0,?_⟩
    refine stepV (i:=12) rfl hF (fun w hS=>Y.move hF rfl) rfl fun a hF=>stepV (i:=13) rfl hF (fun w hS=>Y.extract hF rfl rfl) rfl fun a hF=>stepV (i:=14) rfl hF (fun w hS=>Y.extract hF rfl rfl) rfl fun a hF=>oneV (i:=16) rfl ?_ trivial
    refine O.store (us:=[iv rv_2.1.BeatCellar.Hours,.slice p_21 rv_2.1.BeatCellar.Rates.length c_21,.slice p_22 rv_2.1.BeatCellar.Opens.length c_22,.slice p_23 rv_2.1.BeatCellar.Pairs.length c_23,iv rv_2.1.left,.map bm_6]) 3 sz_96 hF rfl rfl rfl rfl hS rfl rfl fun a w hF hS=>nT ⟨(hS.weak (ms:=[(1,.cells b [iv xv.Hours,.slice p xv.Rates.length c,.slice p_1 xv.Opens.length c_1,.slice p_2 xv.Pairs.length c_2] 35),(2,.cells b_1 [iv 0,iv 0] 27)]) ⟨rfl,rfl,trivial⟩).weakD hlev_6 hle0,?_⟩
    exact toTailV ⟨Dv_7,b_8,p_21,c_21,p_22,c_22,p_23,c_23,bm_6,hlev_6,hF.weak (AF rfl),hS.weak (AL rfl),hs_21,hs_22,hs_23,hm_6⟩
   refine oneV (i:=15) rfl ?_ trivial
   refine O.alloc 3 zc_96 hF hS rfl fun b_9 a w hF hS=>nT ⟨hS.weak ⟨rfl,rfl,trivial⟩,?_⟩
   refine oneV (i:=9) rfl ?_ trivial
   refine guard_off hF rfl rfl hbv rfl fun a hF=>nT ⟨hS.weak ⟨rfl,rfl,trivial⟩,?_⟩
   refine stepV (i:=10) rfl hF (fun w hS=>Y.pick_f hF rfl hbv rfl) rfl fun a hF=>oneV (i:=11) rfl ?_ trivial
   refine O.callS (us:=[.agg #[iv xv.Hours,.slice p xv.Rates.length c,.slice p_1 xv.Opens.length c_1,.slice p_2 xv.Pairs.length c_2],.bool false]) ca_39 hF hS (beat_asked_ok hS.stab xv false hs hs_1 hs_2 hG rv_2 hx_2) rfl rfl fun v_7 Dv_8 a w hR_7 hlev_7 hF hS=>?_
   obtain ⟨p_24,c_24,p_25,c_25,p_26,c_26,bm_7,rfl,hs_24,hs_25,hs_26,hm_7⟩:=hR_7
   refine nT ⟨(hS.weak (ms:=[(1,.cells b [iv xv.Hours,.slice p xv.Rates.length c,.slice p_1 xv.Opens.length c_1,.slice p_2 xv.Pairs.length c_2] 35),(2,.cells b_1 [iv 0,iv 0] 27)]) ⟨rfl,rfl,trivial⟩).weakD hlev_7 hle0,?_⟩
   refine stepV (i:=12) rfl hF (fun w hS=>Y.move hF rfl) rfl fun a hF=>stepV (i:=13) rfl hF (fun w hS=>Y.extract hF rfl rfl) rfl fun a hF=>stepV (i:=14) rfl hF (fun w hS=>Y.extract hF rfl rfl) rfl fun a hF=>oneV (i:=16) rfl ?_ trivial
   refine O.store (us:=[iv rv_2.1.BeatCellar.Hours,.slice p_24 rv_2.1.BeatCellar.Rates.length c_24,.slice p_25 rv_2.1.BeatCellar.Opens.length c_25,.slice p_26 rv_2.1.BeatCellar.Pairs.length c_26,iv rv_2.1.left,.map bm_7]) 3 sz_96 hF rfl rfl rfl rfl hS rfl rfl fun a w hF hS=>nT ⟨(hS.weak (ms:=[(1,.cells b [iv xv.Hours,.slice p xv.Rates.length c,.slice p_1 xv.Opens.length c_1,.slice p_2 xv.Pairs.length c_2] 35),(2,.cells b_1 [iv 0,iv 0] 27)]) ⟨rfl,rfl,trivial⟩).weakD hlev_7 hle0,?_⟩
   exact toTailV ⟨Dv_8,b_9,p_24,c_24,p_25,c_25,p_26,c_26,bm_7,hlev_7,hF.weak (AF rfl),hS.weak (AL rfl),hs_24,hs_25,hs_26,hm_7⟩
  refine oneV (i:=15) rfl ?_ trivial
  refine O.alloc 3 zc_96 hF hS rfl fun b_10 a w hF hS=>nT ⟨hS.weak ⟨rfl,rfl,trivial⟩,?_⟩
  refine oneV (i:=4) rfl ?_ trivial
  refine O.callP (us:=[.agg #[iv xv.Hours,.slice p xv.Rates.length c,.slice p_1 xv.Opens.length c_1,.slice p_2 xv.Pairs.length c_2],iv one,iv hour]) ca_40 hF hS (beat_isSpot_ok hS.stab xv one hour hs hs_1 hs_2 rv hx) rfl rfl fun a w hF hS=>nT ⟨hS.weak ⟨rfl,rfl,trivial⟩,?_⟩
  refine stepV (i:=5) rfl hF (fun w hS=>Y.move hF rfl) rfl fun a hF=>stepV_off (i:=6) rfl hF rfl rfl hbv rfl fun a hF=>stepV_off (i:=7) rfl hF rfl rfl hbv rfl fun a hF=>stepV_off (i:=8) rfl hF rfl rfl hbv rfl fun a hF=>oneV (i:=9) rfl ?_ trivial
  refine guard_off hF rfl rfl hbv rfl fun a hF=>nT ⟨hS.weak ⟨rfl,rfl,trivial⟩,?_⟩
  refine stepV (i:=10) rfl hF (fun w hS=>Y.pick_f hF rfl hbv rfl) rfl fun a hF=>oneV (i:=11) rfl ?_ trivial
  refine O.callS (us:=[.agg #[iv xv.Hours,.slice p xv.Rates.length c,.slice p_1 xv.Opens.length c_1,.slice p_2 xv.Pairs.length c_2],.bool false]) ca_39 hF hS (beat_asked_ok hS.stab xv false hs hs_1 hs_2 hG rv_2 hx_2) rfl rfl fun v_8 Dv_9 a w hR_8 hlev_8 hF hS=>?_
  obtain ⟨p_27,c_27,p_28,c_28,p_29,c_29,bm_8,rfl,hs_27,hs_28,hs_29,hm_8⟩:=hR_8
  refine nT ⟨(hS.weak (ms:=[(1,.cells b [iv xv.Hours,.slice p xv.Rates.length c,.slice p_1 xv.Opens.length c_1,.slice p_2 xv.Pairs.length c_2] 35),(2,.cells b_1 [iv 0,iv 0] 27)]) ⟨rfl,rfl,trivial⟩).weakD hlev_8 hle0,?_⟩
  refine stepV (i:=12) rfl hF (fun w hS=>Y.move hF rfl) rfl fun a hF=>stepV (i:=13) rfl hF (fun w hS=>Y.extract hF rfl rfl) rfl fun a hF=>stepV (i:=14) rfl hF (fun w hS=>Y.extract hF rfl rfl) rfl fun a hF=>oneV (i:=16) rfl ?_ trivial
  refine O.store (us:=[iv rv_2.1.BeatCellar.Hours,.slice p_27 rv_2.1.BeatCellar.Rates.length c_27,.slice p_28 rv_2.1.BeatCellar.Opens.length c_28,.slice p_29 rv_2.1.BeatCellar.Pairs.length c_29,iv rv_2.1.left,.map bm_8]) 3 sz_96 hF rfl rfl rfl rfl hS rfl rfl fun a w hF hS=>nT ⟨(hS.weak (ms:=[(1,.cells b [iv xv.Hours,.slice p xv.Rates.length c,.slice p_1 xv.Opens.length c_1,.slice p_2 xv.Pairs.length c_2] 35),(2,.cells b_1 [iv 0,iv 0] 27)]) ⟨rfl,rfl,trivial⟩).weakD hlev_8 hle0,?_⟩
  exact toTailV ⟨Dv_9,b_10,p_27,c_27,p_28,c_28,p_29,c_29,bm_8,hlev_8,hF.weak (AF rfl),hS.weak (AL rfl),hs_27,hs_28,hs_29,hm_8⟩
 rintro a w ⟨Dv_1,b_2,p_3,c_3,p_4,c_4,p_5,c_5,bm,hle,hF,hS,hj,hj_1,hj_2,hj_3⟩
 have hlev_9:=hle
 replace hG:=hG.mono hlev_9
 refine step hF (Y.assign hF rfl) rfl fun a hF=>nT (seq (seq (region (step hF (Y.move hF rfl) rfl fun a hF=>step hF (Y.neq hF rfl rfl) rfl fun a hF=>nT (cond_b hF rfl (fun hbv_1=>?_) (fun hbv_1=>?_))))))
 ·replace h:=cond_t h hbv_1
  refine seq (region (step hF (Y.build (parts:=[]) (cs:=#[iv 0,iv 0]) hF rfl (by kernel_rfl)) rfl fun a hF=>step hF (Y.move hF rfl) rfl fun a hF=>O.store (us:=[iv 0,iv 0]) 2 sz_27 hF rfl rfl rfl rfl hS rfl rfl fun a w hF hS=>step hF (Y.assign hF rfl) rfl fun a hF=>nT (ret_ (then_r ?_))))
  obtain rfl:=some_inj h
  exact leaveP Tryz.results17 hF hS (.cons (.cellN 2 sz_27 rfl rfl rfl) (.cons (.tmp rfl) .nil)) .nil rfl
 replace h:=cond_f h hbv_1
 refine skip_ (then_n (seq (region (step hF (Y.loadNL 3 sz_96 hF rfl hS rfl rfl rfl) rfl fun a hF=>step hF (Y.move hF rfl) rfl fun a hF=>step hF (Y.move hF rfl) rfl fun a hF=>step hF (Y.build (parts:=[(0,(.tmp 32)),(1,(.tmp 33))]) (cs:=#[iv one,iv hour]) hF rfl (by kernel_rfl)) rfl fun a hF=>step hF (Y.move hF rfl) rfl fun a hF=>step hF (Y.move hF rfl) rfl fun a hF=>step hF (Y.build (parts:=[(0,(.tmp 35)),(1,(.tmp 36))]) (cs:=#[iv other,iv hour]) hF rfl (by kernel_rfl)) rfl fun a hF=>?_))))
 obtain ⟨rv_3,hx_3,h⟩:=bind_some h
 refine O.callP (us:=[.agg #[iv rv_2.1.BeatCellar.Hours,.slice p_3 rv_2.1.BeatCellar.Rates.length c_3,.slice p_4 rv_2.1.BeatCellar.Opens.length c_4,.slice p_5 rv_2.1.BeatCellar.Pairs.length c_5,iv rv_2.1.left,.map bm],.agg #[iv one,iv hour],.agg #[iv other,iv hour]]) ca_41 hF hS (beat_cellar_between_ok hS.stab rv_2.1 (beat_spot.mk one hour) (beat_spot.mk other hour) hj hj_1 hj_2 hj_3 hG rv_3 hx_3) rfl rfl fun a w hF hS=>O.store (us:=[iv rv_3.Low,iv rv_3.High]) 2 sz_27 hF rfl rfl rfl rfl hS rfl rfl fun a w hF hS=>step hF (Y.assign hF rfl) rfl fun a hF=>nT (ret_ ?_)
 obtain rfl:=some_inj h
 exact leaveP Tryz.results17 hF hS (.cons (.cellN 2 sz_27 rfl rfl rfl) (.cons (.tmp rfl) .nil)) .nil rfl
noncomputable def beat_IsTruth_1 (l:(List Int)) (cv:BeatCellar):Option Bool:=
  some ((l.length:Int) != (wr (cv.Hours + 1)))
theorem beat_IsTruth_1_ok {w0:World} {D0:Stab} (hD:D0.on w0) (l:(List Int)) (cv:BeatCellar) {p:Option Addr} {c:Nat} {p_1:Option Addr} {c_1:Nat} {p_2:Option Addr} {c_2:Nat} {p_3:Option Addr} {c_3:Nat} {bb:Nat} (hs:SRc C_int D0 l p c) (hs_1:SRc C_Span D0 cv.Rates p_1 c_1) (hs_2:SRc C_BeatOpen D0 cv.Opens p_2 c_2) (hs_3:SRc C_BeatPair D0 cv.Pairs p_3 c_3) (hbv:w0.heap[bb]?=some (.cells ([iv cv.Hours,.slice p_1 cv.Rates.length c_1,.slice p_2 cv.Opens.length c_2,.slice p_3 cv.Pairs.length c_3]).toArray 35 (0,0))) (out:Bool) (h:beat_IsTruth_1 l cv=some out):Calls Tryz.prog 31 [.slice p l.length c,.pointer (some ⟨bb,0,none⟩)].toArray w0 (RetP D0 w0 (.bool out)):=by
 refine enter _ 10 Tryz.func31 rfl Tryz.ntmps31 rfl fun a hF=>?_
 replace hF:Frm 10 [] [(0,.slice p l.length c),(1,.pointer (some ⟨bb,0,none⟩))] a:=hF
 have hS:=St.start hD
 unfold beat_IsTruth_1 at h
 refine seq (region (step hF (Y.assign hF rfl) rfl fun a hF=>nT (seq (region (step hF (Y.move hF rfl) rfl fun a hF=>step hF (Y.lenSl u_30 hF rfl) rfl fun a hF=>step hF (Y.fieldAddr fo_35_0 hF rfl) rfl fun a hF=>step hF (Y.load1H sz_3 hF rfl (hS.old hbv) rfl) rfl fun a hF=>step hF (Y.add hF rfl rfl) rfl fun a hF=>step hF (Y.neq hF rfl rfl) rfl fun a hF=>step hF (Y.assign hF rfl) rfl fun a hF=>nT (ret_ ?_))))))
 obtain rfl:=some_inj h
 exact leaveP Tryz.results31 hF hS (.cons (.tmp rfl) .nil) .nil rfl
noncomputable def beat_IsTruth_2 (n:Int):Option Bool:=
  (beat_lies n (-100000) 100000).bind fun rv=>
  some (!rv)
theorem beat_IsTruth_2_ok {w0:World} {D0:Stab} (hD:D0.on w0) (n:Int) (out:Bool) (h:beat_IsTruth_2 n=some out):Calls Tryz.prog 33 [iv n].toArray w0 (RetP D0 w0 (.bool out)):=by
 refine enter _ 6 Tryz.func33 rfl Tryz.ntmps33 rfl fun a hF=>?_
 replace hF:Frm 6 [] [(0,iv n)] a:=hF
 have hS:=St.start hD
 unfold beat_IsTruth_2 at h
 refine seq (region (step hF (Y.assign hF rfl) rfl fun a hF=>nT (seq (region (step hF (Y.move hF rfl) rfl fun a hF=>?_)))))
 obtain ⟨rv,hx,h⟩:=bind_some h
 refine O.callP (us:=[iv n,iv (-100000),iv 100000]) ca_21 hF hS (beat_lies_ok hS.stab n (-100000) 100000 rv hx) rfl rfl fun a w hF hS=>step hF (Y.not hF rfl) rfl fun a hF=>step hF (Y.assign hF rfl) rfl fun a hF=>nT (ret_ ?_)
 obtain rfl:=some_inj h
 exact leaveP Tryz.results33 hF hS (.cons (.tmp rfl) .nil) .nil rfl
noncomputable def beat_IsTruth_3 (sv:beat_spot) (cv:(List (List Int))):Option Int:=
  (beat_truth).bind fun rv=>
  cond ([sv.clock,sv.hour] == [rv.clock,rv.hour])
  (some 0)
  ((idx cv sv.clock).bind fun e=>
  (idx e sv.hour).bind fun e_1=>
  some e_1)
theorem beat_IsTruth_3_ok {w0:World} {D0:Stab} (hD:D0.on w0) (sv:beat_spot) (cv:(List (List Int))) {p:Option Addr} {c:Nat} {bb:Nat} (hs:SRc (C_sl C_int) D0 cv p c) (hbv:w0.heap[bb]?=some (.cells ([.slice p cv.length c]).toArray 45 (0,0))) (out:Int) (h:beat_IsTruth_3 sv cv=some out):Calls Tryz.prog 35 [.agg #[iv sv.clock,iv sv.hour],.pointer (some ⟨bb,0,none⟩)].toArray w0 (RetP D0 w0 (iv out)):=by
 refine enter _ 16 Tryz.func35 rfl Tryz.ntmps35 rfl fun a hF=>?_
 replace hF:Frm 16 [] [(0,.agg #[iv sv.clock,iv sv.hour]),(1,.pointer (some ⟨bb,0,none⟩))] a:=hF
 have hS:=St.start hD
 unfold beat_IsTruth_3 at h
 refine seq (region (O.box (cs:=[iv sv.clock,iv sv.hour]) 2 hF rfl rfl hS rfl fun b a w hF hS=>step hF (Y.assign hF rfl) rfl fun a hF=>nT (seq (seq ?_))))
 obtain ⟨rv,hx,h⟩:=bind_some h
 refine drawsV 2 (.flt 0 (.alt 1 .done .stop)) mixed_ (by kernel_rfl) (fun w=>St w0 D0 D0 [(2,.cells b [iv sv.clock,iv sv.hour] 99)] w) (fun a w=>Frm 16 [] [(1,.pointer (some ⟨bb,0,none⟩)),(2,.pointer (some ⟨b,0,none⟩)),(3,iv 0),(4,.agg #[iv sv.clock,iv sv.hour]),(5,.agg #[iv rv.clock,iv rv.hour])] a∧St w0 D0 D0 [(2,.cells b [iv sv.clock,iv sv.hour] 99)] w) (hS.weak (ms:=[(2,.cells b [iv sv.clock,iv sv.hour] 99)]) ⟨rfl,trivial⟩).drew (fun _ _ _ _ h=>h) ?_ ?_
 ·replace hS:=hS.drew
  have hle0:=hS.le
  refine stepV (i:=0) rfl hF (fun w hS=>Y.loadNL 2 sz_99 hF rfl hS rfl rfl rfl) rfl fun a hF=>oneV (i:=1) rfl ?_ trivial
  refine O.callP (us:=[]) ca_36 hF hS (beat_truth_ok hS.stab rv hx) rfl rfl fun a w hF hS=>nT ⟨hS.weak ⟨rfl,trivial⟩,?_⟩
  exact toTailV ⟨hF.weak (AF rfl),hS.weak ⟨rfl,trivial⟩⟩
 rintro a w ⟨hF,hS⟩
 refine step hF (Y.eqst (fun w=>eqT_99.equal (by decide) (l:=[sv.clock,sv.hour]) (m:=[rv.clock,rv.hour]) rfl rfl) (fun w=>run_eqGuard_agg _ _ _ _ _ _ _ eg_99) hF rfl rfl) rfl fun a hF=>nT (cond_b hF rfl (fun hbv_1=>?_) (fun hbv_1=>?_))
 ·replace h:=cond_t h hbv_1
  refine seq (region (step hF (Y.assign hF rfl) rfl fun a hF=>nT (ret_ (then_r ?_))))
  obtain rfl:=some_inj h
  exact leaveP Tryz.results35 hF hS (.cons (.tmp rfl) .nil) .nil rfl
 replace h:=cond_f h hbv_1
 refine skip_ (then_n (seq (draws 10 [(0,true),(1,true),(2,true),(3,true),(4,true),(5,true),(6,true),(7,true),(8,true),(9,true)] mixed_ (by kernel_rfl) (fun w=>St w0 D0 D0 _ w) hS.drew (fun _ _ _ _ h=>h) ?_)))
 replace hS:=hS.drew
 refine stepT (i:=0) rfl hF (fun w hS=>Y.load1H sz_45 hF rfl (hS.old hbv) rfl) rfl fun a hF=>stepT (i:=1) rfl hF (fun w hS=>Y.fieldAddr fo_99_0 hF rfl) rfl fun a hF=>stepT (i:=2) rfl hF (fun w hS=>Y.load1L 2 sz_3 hF rfl hS rfl rfl) rfl fun a hF=>?_
 obtain ⟨e,hx_1,h⟩:=bind_some h
 obtain ⟨b_1,o,hE,hY⟩:=Y.indexS (P:=Tryz.prog) (C:=(C_sl C_int)) (xs:=cv) (T:=45) (x:=(.tmp 7)) (y:=(.tmp 9)) u_45 sz_30 hF rfl rfl (hs).1 hx_1
 obtain ⟨cc,hc,hcell⟩:=hE.open
 obtain ⟨p_1,c_1,rfl,hs_1⟩:=hc
 refine stepT (i:=3) rfl hF (fun w hS=>hY) rfl fun a hF=>stepT (i:=4) rfl hF (fun w hS=>Y.load1 sz_30 hF rfl (hcell _ hS.stab 0 _ rfl)) rfl fun a hF=>stepT (i:=5) rfl hF (fun w hS=>Y.fieldAddr fo_99_1 hF rfl) rfl fun a hF=>stepT (i:=6) rfl hF (fun w hS=>Y.load1L 2 sz_3 hF rfl hS rfl rfl) rfl fun a hF=>?_
 obtain ⟨e_1,hx_2,h⟩:=bind_some h
 obtain ⟨b_2,o_1,hE_1,hY_1⟩:=Y.indexS (P:=Tryz.prog) (C:=C_int) (xs:=e) (T:=30) (x:=(.tmp 11)) (y:=(.tmp 13)) u_30 sz_3 hF rfl rfl (hs_1).1 hx_2
 obtain ⟨cc_1,hc_1,hcell_1⟩:=hE_1.open
 obtain rfl:=hc_1
 refine stepT (i:=7) rfl hF (fun w hS=>hY_1) rfl fun a hF=>stepT (i:=8) rfl hF (fun w hS=>Y.load1 sz_3 hF rfl (hcell_1 _ hS.stab 0 _ rfl)) rfl fun a hF=>stepT (i:=9) rfl hF (fun w hS=>Y.assign hF rfl) rfl fun a hF=>toTail (nT (ret_ ?_))
 obtain rfl:=some_inj h
 exact leaveP Tryz.results35 hF hS (.cons (.tmp rfl) .nil) .nil rfl
end Go.Proofs.YtgdfljiliflhfaaGreatDoor.Rt
