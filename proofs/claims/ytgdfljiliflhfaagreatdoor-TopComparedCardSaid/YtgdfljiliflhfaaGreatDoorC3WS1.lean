/- Walks of the functions of this seat: what each Go function comes to, as a Lean function, and the proof. Part WS1. Under no conditions. -/
import Derived.Test.YtgdfljiliflhfaaGreatDoorC3WB2
set_option linter.unusedVariables false
set_option linter.unusedSimpArgs false
set_option maxRecDepth 100000
set_option maxHeartbeats 4000000
namespace Go.Proofs.YtgdfljiliflhfaaGreatDoor.Rt
open Go Go.RowKit
noncomputable def scale_lies (n:Int) (least:Int) (most:Int):Option Bool:=
  some ((decide (least≤n)) && (decide (n≤most)))
theorem scale_lies_ok {w0:World} {D0:Stab} (hD:D0.on w0) (n:Int) (least:Int) (most:Int) (out:Bool) (h:scale_lies n least most=some out):Calls Tryz.prog 66 [iv n,iv least,iv most].toArray w0 (RetP D0 w0 (.bool out)):=by
 refine enter _ 15 Tryz.func66 rfl Tryz.ntmps66 rfl fun a hF=>?_
 replace hF:Frm 15 [] [(0,iv n),(1,iv least),(2,iv most)] a:=hF
 have hS:=St.start hD
 unfold scale_lies at h
 refine seq (region (step hF (Y.assign hF rfl) rfl fun a hF=>nT (seq (region (step hF (Y.move hF rfl) rfl fun a hF=>step hF (Y.move hF rfl) rfl fun a hF=>step hF (Y.leq hF rfl rfl) rfl fun a hF=>step hF (Y.move hF rfl) rfl fun a hF=>join (N:=15) (rs:=[]) (w0:=w0) (D0:=D0) 4 (us:=[(6,.bool false),(14,.bool ((decide (least≤n)) && (decide (n≤most))))]) (ms:=[]) (D':=D0) ?_ ?_)))))
 ·rcases bcases (decide (least≤n)) with hbv | hbv
  ·skip
   refine guard_on hF rfl rfl hbv (step hF (Y.move hF rfl) rfl fun a hF=>guard_on hF rfl rfl hbv (step hF (Y.move hF rfl) rfl fun a hF=>guard_on hF rfl rfl hbv (step hF (Y.leq hF rfl rfl) rfl fun a hF=>step hF (Y.pick_t hF rfl hbv rfl) rfl fun a hF=>nT ⟨hF.weak ⟨rfl,(by rw [hbv];rfl),trivial⟩,hS.weak trivial⟩)))
  refine guard_off hF rfl rfl hbv rfl fun a hF=>guard_off hF rfl rfl hbv rfl fun a hF=>guard_off hF rfl rfl hbv rfl fun a hF=>step hF (Y.pick_f hF rfl hbv rfl) rfl fun a hF=>nT ⟨hF.weak ⟨rfl,(by rw [hbv];rfl),trivial⟩,hS.weak trivial⟩
 intro a w hF hS
 refine step hF (Y.assign hF rfl) rfl fun a hF=>nT (ret_ ?_)
 obtain rfl:=some_inj h
 exact leaveP Tryz.results66 hF hS (.cons (.tmp rfl) .nil) .nil rfl
noncomputable def scale_isRule (rv:ScaleRule):Option Bool:=
  (scale_lies rv.Fast 0 500).bind fun rv_1=>
  (cond rv_1 ((scale_lies rv.Slow 0 500).bind fun rv_2=>
  some rv_2) (some false)).bind fun t=>
  (cond t ((scale_lies rv.Jerk 1 500).bind fun rv_3=>
  some rv_3) (some false)).bind fun t_1=>
  some (((t_1 && (decide ((-100)≤rv.Drift.Low))) && (decide (rv.Drift.Low≤rv.Drift.High))) && (decide (rv.Drift.High≤100)))
theorem scale_isRule_ok {w0:World} {D0:Stab} (hD:D0.on w0) (rv:ScaleRule) (out:Bool) (h:scale_isRule rv=some out):Calls Tryz.prog 100 [.agg #[iv rv.Fast,iv rv.Slow,iv rv.Jerk,iv rv.Drift.Low,iv rv.Drift.High]].toArray w0 (RetP D0 w0 (.bool out)):=by
 refine enter _ 37 Tryz.func100 rfl Tryz.ntmps100 rfl fun a hF=>?_
 replace hF:Frm 37 [] [(0,.agg #[iv rv.Fast,iv rv.Slow,iv rv.Jerk,iv rv.Drift.Low,iv rv.Drift.High])] a:=hF
 have hS:=St.start hD
 unfold scale_isRule at h
 refine seq (region (O.box (cs:=[iv rv.Fast,iv rv.Slow,iv rv.Jerk,iv rv.Drift.Low,iv rv.Drift.High]) 1 hF rfl rfl hS rfl fun b a w hF hS=>step hF (Y.assign hF rfl) rfl fun a hF=>nT (seq (region (step hF (Y.fieldAddr fo_76_0 hF rfl) rfl fun a hF=>step hF (Y.load1L 1 sz_3 hF rfl hS rfl rfl) rfl fun a hF=>?_)))))
 obtain ⟨rv_1,hx,h⟩:=bind_some h
 refine O.callP (us:=[iv rv.Fast,iv 0,iv 500]) ca_66 hF hS (scale_lies_ok hS.stab rv.Fast 0 500 rv_1 hx) rfl rfl fun a w hF hS=>step hF (Y.move hF rfl) rfl fun a hF=>?_
 obtain ⟨t,ht,h⟩:=bind_some h
 refine join (N:=37) (rs:=[]) (w0:=w0) (D0:=D0) 4 (us:=[(1,.pointer (some ⟨b,0,none⟩)),(2,.bool false),(10,.bool t)]) (ms:=[(1,.cells b [iv rv.Fast,iv rv.Slow,iv rv.Jerk,iv rv.Drift.Low,iv rv.Drift.High] 76)]) (D':=D0) ?_ ?_
 ·rcases bcases rv_1 with hbv | hbv
  ·skip
   replace h:=cond_t ht hbv
   refine guard_on hF rfl rfl hbv (step hF (Y.fieldAddr fo_76_1 hF rfl) rfl fun a hF=>guard_on hF rfl rfl hbv (step hF (Y.load1L 1 sz_3 hF rfl hS rfl rfl) rfl fun a hF=>guard_on hF rfl rfl hbv ?_))
   obtain ⟨rv_2,hx_1,h⟩:=bind_some h
   refine O.callP (us:=[iv rv.Slow,iv 0,iv 500]) ca_66 hF hS (scale_lies_ok hS.stab rv.Slow 0 500 rv_2 hx_1) rfl rfl fun a w hF hS=>step hF (Y.pick_t hF rfl hbv rfl) rfl fun a hF=>?_
   obtain rfl:=some_inj h
   exact nT ⟨hF.weak (AF rfl),hS.weak ⟨rfl,trivial⟩⟩
  replace h:=cond_f ht hbv
  refine guard_off hF rfl rfl hbv rfl fun a hF=>guard_off hF rfl rfl hbv rfl fun a hF=>guard_off hF rfl rfl hbv rfl fun a hF=>step hF (Y.pick_f hF rfl hbv rfl) rfl fun a hF=>?_
  obtain rfl:=some_inj h
  exact nT ⟨hF.weak (AF rfl),hS.weak ⟨rfl,trivial⟩⟩
 intro a w hF hS
 refine step hF (Y.move hF rfl) rfl fun a hF=>?_
 obtain ⟨t_1,ht_1,h⟩:=bind_some h
 refine join (N:=37) (rs:=[]) (w0:=w0) (D0:=D0) 4 (us:=[(1,.pointer (some ⟨b,0,none⟩)),(2,.bool false),(15,.bool t_1)]) (ms:=[(1,.cells b [iv rv.Fast,iv rv.Slow,iv rv.Jerk,iv rv.Drift.Low,iv rv.Drift.High] 76)]) (D':=D0) ?_ ?_
 ·rcases bcases t with hbv_1 | hbv_1
  ·skip
   replace h:=cond_t ht_1 hbv_1
   refine guard_on hF rfl rfl hbv_1 (step hF (Y.fieldAddr fo_76_2 hF rfl) rfl fun a hF=>guard_on hF rfl rfl hbv_1 (step hF (Y.load1L 1 sz_3 hF rfl hS rfl rfl) rfl fun a hF=>guard_on hF rfl rfl hbv_1 ?_))
   obtain ⟨rv_3,hx_2,h⟩:=bind_some h
   refine O.callP (us:=[iv rv.Jerk,iv 1,iv 500]) ca_66 hF hS (scale_lies_ok hS.stab rv.Jerk 1 500 rv_3 hx_2) rfl rfl fun a w hF hS=>step hF (Y.pick_t hF rfl hbv_1 rfl) rfl fun a hF=>?_
   obtain rfl:=some_inj h
   exact nT ⟨hF.weak (AF rfl),hS.weak ⟨rfl,trivial⟩⟩
  replace h:=cond_f ht_1 hbv_1
  refine guard_off hF rfl rfl hbv_1 rfl fun a hF=>guard_off hF rfl rfl hbv_1 rfl fun a hF=>guard_off hF rfl rfl hbv_1 rfl fun a hF=>step hF (Y.pick_f hF rfl hbv_1 rfl) rfl fun a hF=>?_
  obtain rfl:=some_inj h
  exact nT ⟨hF.weak (AF rfl),hS.weak ⟨rfl,trivial⟩⟩
 intro a w hF hS
 refine step hF (Y.move hF rfl) rfl fun a hF=>join (N:=37) (rs:=[]) (w0:=w0) (D0:=D0) 5 (us:=[(1,.pointer (some ⟨b,0,none⟩)),(2,.bool false),(21,.bool (t_1 && (decide ((-100)≤rv.Drift.Low))))]) (ms:=[(1,.cells b [iv rv.Fast,iv rv.Slow,iv rv.Jerk,iv rv.Drift.Low,iv rv.Drift.High] 76)]) (D':=D0) ?_ ?_
 ·rcases bcases t_1 with hbv_2 | hbv_2
  ·skip
   refine guard_on hF rfl rfl hbv_2 (step hF (Y.fieldAddr fo_76_3 hF rfl) rfl fun a hF=>guard_on hF rfl rfl hbv_2 (step hF (Y.fieldAddr fo_27_0 hF rfl) rfl fun a hF=>guard_on hF rfl rfl hbv_2 (step hF (Y.load1L 1 sz_3 hF rfl hS rfl rfl) rfl fun a hF=>guard_on hF rfl rfl hbv_2 (step hF (Y.leq hF rfl rfl) rfl fun a hF=>step hF (Y.pick_t hF rfl hbv_2 rfl) rfl fun a hF=>nT ⟨hF.weak ⟨rfl,rfl,(by rw [hbv_2];rfl),trivial⟩,hS.weak ⟨rfl,trivial⟩⟩))))
  refine guard_off hF rfl rfl hbv_2 rfl fun a hF=>guard_off hF rfl rfl hbv_2 rfl fun a hF=>guard_off hF rfl rfl hbv_2 rfl fun a hF=>guard_off hF rfl rfl hbv_2 rfl fun a hF=>step hF (Y.pick_f hF rfl hbv_2 rfl) rfl fun a hF=>nT ⟨hF.weak ⟨rfl,rfl,(by rw [hbv_2];rfl),trivial⟩,hS.weak ⟨rfl,trivial⟩⟩
 intro a w hF hS
 refine step hF (Y.move hF rfl) rfl fun a hF=>join (N:=37) (rs:=[]) (w0:=w0) (D0:=D0) 8 (us:=[(1,.pointer (some ⟨b,0,none⟩)),(2,.bool false),(30,.bool ((t_1 && (decide ((-100)≤rv.Drift.Low))) && (decide (rv.Drift.Low≤rv.Drift.High))))]) (ms:=[(1,.cells b [iv rv.Fast,iv rv.Slow,iv rv.Jerk,iv rv.Drift.Low,iv rv.Drift.High] 76)]) (D':=D0) ?_ ?_
 ·rcases bcases (t_1 && (decide ((-100)≤rv.Drift.Low))) with hbv_3 | hbv_3
  ·skip
   refine guard_on hF rfl rfl hbv_3 (step hF (Y.fieldAddr fo_76_3 hF rfl) rfl fun a hF=>guard_on hF rfl rfl hbv_3 (step hF (Y.fieldAddr fo_27_0 hF rfl) rfl fun a hF=>guard_on hF rfl rfl hbv_3 (step hF (Y.load1L 1 sz_3 hF rfl hS rfl rfl) rfl fun a hF=>guard_on hF rfl rfl hbv_3 (step hF (Y.fieldAddr fo_76_3 hF rfl) rfl fun a hF=>guard_on hF rfl rfl hbv_3 (step hF (Y.fieldAddr fo_27_1 hF rfl) rfl fun a hF=>guard_on hF rfl rfl hbv_3 (step hF (Y.load1L 1 sz_3 hF rfl hS rfl rfl) rfl fun a hF=>guard_on hF rfl rfl hbv_3 (step hF (Y.leq hF rfl rfl) rfl fun a hF=>step hF (Y.pick_t hF rfl hbv_3 rfl) rfl fun a hF=>nT ⟨hF.weak ⟨rfl,rfl,(by rw [hbv_3];rfl),trivial⟩,hS.weak ⟨rfl,trivial⟩⟩)))))))
  refine guard_off hF rfl rfl hbv_3 rfl fun a hF=>guard_off hF rfl rfl hbv_3 rfl fun a hF=>guard_off hF rfl rfl hbv_3 rfl fun a hF=>guard_off hF rfl rfl hbv_3 rfl fun a hF=>guard_off hF rfl rfl hbv_3 rfl fun a hF=>guard_off hF rfl rfl hbv_3 rfl fun a hF=>guard_off hF rfl rfl hbv_3 rfl fun a hF=>step hF (Y.pick_f hF rfl hbv_3 rfl) rfl fun a hF=>nT ⟨hF.weak ⟨rfl,rfl,(by rw [hbv_3];rfl),trivial⟩,hS.weak ⟨rfl,trivial⟩⟩
 intro a w hF hS
 refine step hF (Y.move hF rfl) rfl fun a hF=>join (N:=37) (rs:=[]) (w0:=w0) (D0:=D0) 5 (us:=[(2,.bool false),(36,.bool (((t_1 && (decide ((-100)≤rv.Drift.Low))) && (decide (rv.Drift.Low≤rv.Drift.High))) && (decide (rv.Drift.High≤100))))]) (ms:=[(1,.cells b [iv rv.Fast,iv rv.Slow,iv rv.Jerk,iv rv.Drift.Low,iv rv.Drift.High] 76)]) (D':=D0) ?_ ?_
 ·rcases bcases ((t_1 && (decide ((-100)≤rv.Drift.Low))) && (decide (rv.Drift.Low≤rv.Drift.High))) with hbv_4 | hbv_4
  ·skip
   refine guard_on hF rfl rfl hbv_4 (step hF (Y.fieldAddr fo_76_3 hF rfl) rfl fun a hF=>guard_on hF rfl rfl hbv_4 (step hF (Y.fieldAddr fo_27_1 hF rfl) rfl fun a hF=>guard_on hF rfl rfl hbv_4 (step hF (Y.load1L 1 sz_3 hF rfl hS rfl rfl) rfl fun a hF=>guard_on hF rfl rfl hbv_4 (step hF (Y.leq hF rfl rfl) rfl fun a hF=>step hF (Y.pick_t hF rfl hbv_4 rfl) rfl fun a hF=>nT ⟨hF.weak ⟨rfl,(by rw [hbv_4];rfl),trivial⟩,hS.weak ⟨rfl,trivial⟩⟩))))
  refine guard_off hF rfl rfl hbv_4 rfl fun a hF=>guard_off hF rfl rfl hbv_4 rfl fun a hF=>guard_off hF rfl rfl hbv_4 rfl fun a hF=>guard_off hF rfl rfl hbv_4 rfl fun a hF=>step hF (Y.pick_f hF rfl hbv_4 rfl) rfl fun a hF=>nT ⟨hF.weak ⟨rfl,(by rw [hbv_4];rfl),trivial⟩,hS.weak ⟨rfl,trivial⟩⟩
 intro a w hF hS
 refine step hF (Y.assign hF rfl) rfl fun a hF=>nT (ret_ ?_)
 obtain rfl:=some_inj h
 exact leaveP Tryz.results100 hF hS (.cons (.tmp rfl) .nil) .nil rfl
noncomputable def scale_opened (rv:ScaleRule) (right:Bool):Option (scale_rule × Int):=
  (scale_isRule rv).bind fun rv_1=>
  cond (!rv_1)
  (some ((scale_rule.mk (ScaleRule.mk 0 0 0 (Span.mk 0 0)) ([]:(List (scale_part × Int)))),40))
  (cond (!right)
  (some ((scale_rule.mk (ScaleRule.mk 0 0 0 (Span.mk 0 0)) ([]:(List (scale_part × Int)))),41))
  (some ((scale_rule.mk rv ([]:(List (scale_part × Int)))),0)))
theorem scale_opened_ok {w0:World} {D0:Stab} (hD:D0.on w0) (rv:ScaleRule) (right:Bool) (out:(scale_rule × Int)) (h:scale_opened rv right=some out):Calls Tryz.prog 85 [.agg #[iv rv.Fast,iv rv.Slow,iv rv.Jerk,iv rv.Drift.Low,iv rv.Drift.High],.bool right].toArray w0 (RetS D0 w0 fun D v=>∃ bm,v=.tuple #[.agg #[iv out.1.ScaleRule.Fast,iv out.1.ScaleRule.Slow,iv out.1.ScaleRule.Jerk,iv out.1.ScaleRule.Drift.Low,iv out.1.ScaleRule.Drift.High,.map bm],iv out.2]∧MapB kl_213 C_int false D out.1.known bm):=by
 refine enter _ 18 Tryz.func85 rfl Tryz.ntmps85 rfl fun a hF=>?_
 replace hF:Frm 18 [] [(0,.agg #[iv rv.Fast,iv rv.Slow,iv rv.Jerk,iv rv.Drift.Low,iv rv.Drift.High]),(1,.bool right)] a:=hF
 have hS:=St.start hD
 unfold scale_opened at h
 refine seq (region (O.box (cs:=[iv rv.Fast,iv rv.Slow,iv rv.Jerk,iv rv.Drift.Low,iv rv.Drift.High]) 1 hF rfl rfl hS rfl fun b a w hF hS=>O.alloc 2 zc_170 hF hS rfl fun b_1 a w hF hS=>step hF (Y.assign hF rfl) rfl fun a hF=>nT (seq (block (seq (region (step hF (Y.loadNL 1 sz_76 hF rfl hS rfl rfl rfl) rfl fun a hF=>?_)))))))
 obtain ⟨rv_1,hx,h⟩:=bind_some h
 refine O.callP (us:=[.agg #[iv rv.Fast,iv rv.Slow,iv rv.Jerk,iv rv.Drift.Low,iv rv.Drift.High]]) ca_100 hF hS (scale_isRule_ok hS.stab rv rv_1 hx) rfl rfl fun a w hF hS=>step hF (Y.not hF rfl) rfl fun a hF=>step hF (Y.assign hF rfl) rfl fun a hF=>nT (cond_b hF rfl (fun hbv=>?_) (fun hbv=>?_))
 ·replace h:=cond_t h hbv
  refine seq (region (step hF (Y.build (parts:=[]) (cs:=#[iv 0,iv 0,iv 0,iv 0,iv 0,.map none]) hF rfl (by kernel_rfl)) rfl fun a hF=>O.store (us:=[iv 0,iv 0,iv 0,iv 0,iv 0,.map none]) 2 sz_170 hF rfl rfl rfl rfl hS rfl rfl fun a w hF hS=>step hF (Y.assign hF rfl) rfl fun a hF=>nT (ret_ (blk_r (then_r ?_)))))
  obtain rfl:=some_inj h
  exact leaveS Tryz.results85 hF hS (.cons (.cellN 2 sz_170 rfl rfl rfl) (.cons (.tmp rfl) .nil)) .nil ⟨_,rfl,MapB.nil⟩
 replace h:=cond_f h hbv
 refine seq (region (step hF (Y.move hF rfl) rfl fun a hF=>step hF (Y.not hF rfl) rfl fun a hF=>step hF (Y.assign hF rfl) rfl fun a hF=>nT (cond_b hF rfl (fun hbv_1=>?_) (fun hbv_1=>?_))))
 ·replace h:=cond_t h hbv_1
  refine seq (region (step hF (Y.build (parts:=[]) (cs:=#[iv 0,iv 0,iv 0,iv 0,iv 0,.map none]) hF rfl (by kernel_rfl)) rfl fun a hF=>O.store (us:=[iv 0,iv 0,iv 0,iv 0,iv 0,.map none]) 2 sz_170 hF rfl rfl rfl rfl hS rfl rfl fun a w hF hS=>step hF (Y.assign hF rfl) rfl fun a hF=>nT (ret_ (blk_r (then_r ?_)))))
  obtain rfl:=some_inj h
  exact leaveS Tryz.results85 hF hS (.cons (.cellN 2 sz_170 rfl rfl rfl) (.cons (.tmp rfl) .nil)) .nil ⟨_,rfl,MapB.nil⟩
 replace h:=cond_f h hbv_1
 refine skip_ (blk_n (then_n (seq (region (step hF (Y.loadNL 1 sz_76 hF rfl hS rfl rfl rfl) rfl fun a hF=>O.makeMap 3 hF hS rfl fun b_2 a w hF hS=>?_)))))
 have hm:MRepB kl_213 C_int false D0 ([]:(List (scale_part × Int))) (#[]:Array MapEntry) 0:=MRepB.nil
 refine step hF (Y.build (parts:=[(0,(.tmp 15)),(1,(.tmp 16))]) (cs:=#[iv rv.Fast,iv rv.Slow,iv rv.Jerk,iv rv.Drift.Low,iv rv.Drift.High,.map (some b_2)]) hF rfl (by kernel_rfl)) rfl fun a hF=>O.store (us:=[iv rv.Fast,iv rv.Slow,iv rv.Jerk,iv rv.Drift.Low,iv rv.Drift.High,.map (some b_2)]) 2 sz_170 hF rfl rfl rfl rfl hS rfl rfl fun a w hF hS=>step hF (Y.assign hF rfl) rfl fun a hF=>nT (ret_ ?_)
 obtain ⟨Dv,hlev,hm_1,hS⟩:=hS.freezeMB (i:=3) rfl hm
 obtain rfl:=some_inj h
 exact leaveS Tryz.results85 hF hS (.cons (.cellN 2 sz_170 rfl rfl rfl) (.cons (.tmp rfl) .nil)) .nil ⟨_,rfl,hm_1⟩
noncomputable def scale_rule_keeps_b1 (rv:scale_rule) (l:(List Int)):(Bool × Int × Int)→Option ((Bool × Int × Int) ⊕ Bool)
 | (v4_0,last,v10_0)=>
  cond (decide (v10_0 < (l.length:Int)))
  ((idx l v10_0).bind fun e=>
  (scale_lies e (wr (0 - rv.ScaleRule.Slow)) rv.ScaleRule.Fast).bind fun rv_1=>
  (cond (!rv_1) (some true) ((scale_lies (wr (e - last)) (wr (0 - rv.ScaleRule.Jerk)) rv.ScaleRule.Jerk).bind fun rv_2=>
  some (!rv_2))).bind fun t=>
  cond t
  (ext (some false))
  (nxt (v4_0,e,wr (v10_0 + 1))))
  (ext (some true))
noncomputable def scale_rule_keeps (rv:scale_rule) (l:(List Int)):Option Bool:=
  loopU (scale_rule_keeps_b1 rv l) (false,0,0)
theorem scale_rule_keeps_ok {w0:World} {D0:Stab} (hD:D0.on w0) (rv:scale_rule) (l:(List Int)) {bm:Option Nat} {p:Option Addr} {c:Nat} (hm:MapB kl_213 C_int false D0 rv.known bm) (hs:SRc C_int D0 l p c) (out:Bool) (h:scale_rule_keeps rv l=some out):Calls Tryz.prog 86 [.agg #[iv rv.ScaleRule.Fast,iv rv.ScaleRule.Slow,iv rv.ScaleRule.Jerk,iv rv.ScaleRule.Drift.Low,iv rv.ScaleRule.Drift.High,.map bm],.slice p l.length c].toArray w0 (RetP D0 w0 (.bool out)):=by
 refine enter _ 40 Tryz.func86 rfl Tryz.ntmps86 rfl fun a hF=>?_
 replace hF:Frm 40 [] [(0,.agg #[iv rv.ScaleRule.Fast,iv rv.ScaleRule.Slow,iv rv.ScaleRule.Jerk,iv rv.ScaleRule.Drift.Low,iv rv.ScaleRule.Drift.High,.map bm]),(1,.slice p l.length c)] a:=hF
 have hS:=St.start hD
 unfold scale_rule_keeps at h
 refine seq (region (O.box (cs:=[iv rv.ScaleRule.Fast,iv rv.ScaleRule.Slow,iv rv.ScaleRule.Jerk,iv rv.ScaleRule.Drift.Low,iv rv.ScaleRule.Drift.High,.map bm]) 1 hF rfl rfl hS rfl fun b a w hF hS=>step hF (Y.assign hF rfl) rfl fun a hF=>nT (seq (region (step hF (Y.assign hF rfl) rfl fun a hF=>nT (seq (seq (region (step hF (Y.move hF rfl) rfl fun a hF=>step hF (Y.lenSl u_30 hF rfl) rfl fun a hF=>step hF (Y.move hF rfl) rfl fun a hF=>nT (block (loop_cut (body:=scale_rule_keeps_b1 rv l) (out:=out) (fun s a w=>∃ (v4_0:Bool) (last:Int) (v10_0:Int),s=(v4_0,last,v10_0)∧Frm 40 [] [(2,.pointer (some ⟨b,0,none⟩)),(4,.bool v4_0),(5,iv last),(8,.slice p l.length c),(9,iv (l.length:Int)),(10,iv v10_0)] a∧St w0 D0 D0 [(1,.cells b [iv rv.ScaleRule.Fast,iv rv.ScaleRule.Slow,iv rv.ScaleRule.Jerk,iv rv.ScaleRule.Drift.Low,iv rv.ScaleRule.Drift.High,.map bm] 170)] w) (false,0,0) h ⟨false,0,0,rfl,hF.weak (AF rfl),hS.weak ⟨rfl,trivial⟩⟩ ?_)))))))))))
 rintro s a w xo ⟨v4_0,last,v10_0,rfl,hF,hS⟩ h hxo
 unfold scale_rule_keeps_b1 at h
 dsimp only at h
 refine seq (region (step hF (Y.lss hF rfl rfl) rfl fun a hF=>nT (seq (cond_b hF rfl (fun hbv=>?_) (fun hbv=>?_)))))
 ·replace h:=cond_t h hbv
  refine skip_ (then_n (seq (block (seq (region ?_)))))
  obtain ⟨e,hx,h⟩:=bind_some h
  obtain ⟨b_1,o,hE,hY⟩:=Y.indexS (P:=Tryz.prog) (C:=C_int) (xs:=l) (T:=30) (x:=(.tmp 8)) (y:=(.tmp 10)) u_30 sz_3 hF rfl rfl (hs).1 hx
  obtain ⟨cc,hc,hcell⟩:=hE.open
  obtain rfl:=hc
  refine step hF (hY) rfl fun a hF=>step hF (Y.load1 sz_3 hF rfl (hcell _ hS.stab 0 _ rfl)) rfl fun a hF=>step hF (Y.assign hF rfl) rfl fun a hF=>nT (seq (seq (region (step hF (Y.move hF rfl) rfl fun a hF=>step hF (Y.fieldAddr fo_170_0 hF rfl) rfl fun a hF=>step hF (Y.fieldAddr fo_76_1 hF rfl) rfl fun a hF=>step hF (Y.load1L 1 sz_3 hF rfl hS rfl rfl) rfl fun a hF=>step hF (Y.neg hF rfl) rfl fun a hF=>step hF (Y.fieldAddr fo_170_0 hF rfl) rfl fun a hF=>step hF (Y.fieldAddr fo_76_0 hF rfl) rfl fun a hF=>step hF (Y.load1L 1 sz_3 hF rfl hS rfl rfl) rfl fun a hF=>?_))))
  obtain ⟨rv_1,hx_1,h⟩:=bind_some h
  refine O.callP (us:=[iv e,iv (wr (0 - rv.ScaleRule.Slow)),iv rv.ScaleRule.Fast]) ca_66 hF hS (scale_lies_ok hS.stab e (wr (0 - rv.ScaleRule.Slow)) rv.ScaleRule.Fast rv_1 hx_1) rfl rfl fun a w hF hS=>step hF (Y.not hF rfl) rfl fun a hF=>step hF (Y.move hF rfl) rfl fun a hF=>?_
  obtain ⟨t,ht,h⟩:=bind_some h
  refine join (N:=40) (rs:=[]) (w0:=w0) (D0:=D0) 13 (us:=[(2,.pointer (some ⟨b,0,none⟩)),(4,.bool v4_0),(5,iv last),(7,iv e),(8,.slice p l.length c),(9,iv (l.length:Int)),(10,iv v10_0),(37,.bool t)]) (ms:=[(1,.cells b [iv rv.ScaleRule.Fast,iv rv.ScaleRule.Slow,iv rv.ScaleRule.Jerk,iv rv.ScaleRule.Drift.Low,iv rv.ScaleRule.Drift.High,.map bm] 170)]) (D':=D0) ?_ ?_
  ·rcases bcases (!rv_1) with hbv_1 | hbv_1
   ·skip
    replace h:=cond_t ht hbv_1
    refine guard_off hF rfl rfl hbv_1 rfl fun a hF=>guard_off hF rfl rfl hbv_1 rfl fun a hF=>guard_off hF rfl rfl hbv_1 rfl fun a hF=>guard_off hF rfl rfl hbv_1 rfl fun a hF=>guard_off hF rfl rfl hbv_1 rfl fun a hF=>guard_off hF rfl rfl hbv_1 rfl fun a hF=>guard_off hF rfl rfl hbv_1 rfl fun a hF=>guard_off hF rfl rfl hbv_1 rfl fun a hF=>guard_off hF rfl rfl hbv_1 rfl fun a hF=>guard_off hF rfl rfl hbv_1 rfl fun a hF=>guard_off hF rfl rfl hbv_1 rfl fun a hF=>guard_off hF rfl rfl hbv_1 rfl fun a hF=>step hF (Y.pick_t hF rfl hbv_1 rfl) rfl fun a hF=>?_
    obtain rfl:=some_inj h
    exact nT ⟨hF.weak (AF rfl),hS.weak ⟨rfl,trivial⟩⟩
   replace h:=cond_f ht hbv_1
   refine guard_on hF rfl rfl hbv_1 (step hF (Y.move hF rfl) rfl fun a hF=>guard_on hF rfl rfl hbv_1 (step hF (Y.move hF rfl) rfl fun a hF=>guard_on hF rfl rfl hbv_1 (step hF (Y.sub hF rfl rfl) rfl fun a hF=>guard_on hF rfl rfl hbv_1 (step hF (Y.fieldAddr fo_170_0 hF rfl) rfl fun a hF=>guard_on hF rfl rfl hbv_1 (step hF (Y.fieldAddr fo_76_2 hF rfl) rfl fun a hF=>guard_on hF rfl rfl hbv_1 (step hF (Y.load1L 1 sz_3 hF rfl hS rfl rfl) rfl fun a hF=>guard_on hF rfl rfl hbv_1 (step hF (Y.neg hF rfl) rfl fun a hF=>guard_on hF rfl rfl hbv_1 (step hF (Y.fieldAddr fo_170_0 hF rfl) rfl fun a hF=>guard_on hF rfl rfl hbv_1 (step hF (Y.fieldAddr fo_76_2 hF rfl) rfl fun a hF=>guard_on hF rfl rfl hbv_1 (step hF (Y.load1L 1 sz_3 hF rfl hS rfl rfl) rfl fun a hF=>guard_on hF rfl rfl hbv_1 ?_))))))))))
   obtain ⟨rv_2,hx_2,h⟩:=bind_some h
   refine O.callP (us:=[iv (wr (e - last)),iv (wr (0 - rv.ScaleRule.Jerk)),iv rv.ScaleRule.Jerk]) ca_66 hF hS (scale_lies_ok hS.stab (wr (e - last)) (wr (0 - rv.ScaleRule.Jerk)) rv.ScaleRule.Jerk rv_2 hx_2) rfl rfl fun a w hF hS=>guard_on hF rfl rfl hbv_1 (step hF (Y.not hF rfl) rfl fun a hF=>step hF (Y.pick_f hF rfl hbv_1 rfl) rfl fun a hF=>?_)
   obtain rfl:=some_inj h
   exact nT ⟨hF.weak (AF rfl),hS.weak ⟨rfl,trivial⟩⟩
  intro a w hF hS
  refine nT (cond_b hF rfl (fun hbv_2=>?_) (fun hbv_2=>?_))
  ·replace h:=cond_t h hbv_2
   refine seq (region (step hF (Y.assign hF rfl) rfl fun a hF=>nT (ret_ (then_r (blk_r (then_r (then_r (blk_r (then_r ?_)))))))))
   replace h:=ext_some h hxo
   obtain rfl:=some_inj h
   exact leaveP Tryz.results86 hF hS (.cons (.tmp rfl) .nil) .nil rfl
  replace h:=cond_f h hbv_2
  refine skip_ (then_n (region (step hF (Y.move hF rfl) rfl fun a hF=>step hF (Y.assign hF rfl) rfl fun a hF=>nil (blk_n (then_n (region (step hF (Y.add hF rfl rfl) rfl fun a hF=>step hF (Y.move hF rfl) rfl fun a hF=>nT (⟨_,nxt_some h,v4_0,e,(wr (v10_0 + 1)),rfl,hF.weak (AF rfl),hS.weak ⟨rfl,trivial⟩⟩))))))))
 replace h:=cond_f h hbv
 refine exit_ (then_x (then_x (blk_hit (then_n ?_))))
 replace h:=ext_some h hxo
 refine seq (region (step hF (Y.assign hF rfl) rfl fun a hF=>nT (ret_ ?_)))
 obtain rfl:=some_inj h
 exact leaveP Tryz.results86 hF hS (.cons (.tmp rfl) .nil) .nil rfl
noncomputable def scale_Check_b1 (b:ScaleBook):(Bool × Int)→Option ((Bool × Int) ⊕ Int)
 | (ok,v44_0)=>
  cond (decide (v44_0 < (b.Looks.length:Int)))
  ((idx b.Looks v44_0).bind fun e=>
  (cond ok ((scale_lies e.Tick 0 b.Ticks).bind fun rv_3=>
  some rv_3) (some false)).bind fun t_2=>
  nxt ((((t_2 && (decide ((-20000)≤e.Off.Low))) && (decide (e.Off.Low≤e.Off.High))) && (decide (e.Off.High≤20000))),wr (v44_0 + 1)))
  (ext (cond (!ok)
  (some 40)
  (some 0)))
noncomputable def scale_Check (b:ScaleBook):Option Int:=
  (scale_opened b.Rule true).bind fun rv=>
  (cond (rv.2 == 0) ((scale_lies b.Ticks 1 60).bind fun rv_1=>
  some rv_1) (some false)).bind fun t=>
  (cond (t && (decide ((b.Steer.length:Int)≤b.Ticks))) ((scale_rule_keeps rv.1 b.Steer).bind fun rv_2=>
  some rv_2) (some false)).bind fun t_1=>
  loopU (scale_Check_b1 b) ((t_1 && (decide ((b.Looks.length:Int)≤10))),0)
theorem scale_Check_ok {w0:World} {D0:Stab} (hD:D0.on w0) (b:ScaleBook) {p:Option Addr} {c:Nat} {p_1:Option Addr} {c_1:Nat} (hs:SRc C_int D0 b.Steer p c) (hs_1:SRc C_ScaleLook D0 b.Looks p_1 c_1) (out:Int) (h:scale_Check b=some out):Calls Tryz.prog 79 [.agg #[iv b.Rule.Fast,iv b.Rule.Slow,iv b.Rule.Jerk,iv b.Rule.Drift.Low,iv b.Rule.Drift.High,iv b.Ticks,.slice p b.Steer.length c,.slice p_1 b.Looks.length c_1]].toArray w0 (RetP D0 w0 (iv out)):=by
 refine enter _ 80 Tryz.func79 rfl Tryz.ntmps79 rfl fun a hF=>?_
 replace hF:Frm 80 [] [(0,.agg #[iv b.Rule.Fast,iv b.Rule.Slow,iv b.Rule.Jerk,iv b.Rule.Drift.Low,iv b.Rule.Drift.High,iv b.Ticks,.slice p b.Steer.length c,.slice p_1 b.Looks.length c_1])] a:=hF
 have hS:=St.start hD
 unfold scale_Check at h
 refine seq (region (O.box (cs:=[iv b.Rule.Fast,iv b.Rule.Slow,iv b.Rule.Jerk,iv b.Rule.Drift.Low,iv b.Rule.Drift.High,iv b.Ticks,.slice p b.Steer.length c,.slice p_1 b.Looks.length c_1]) 1 hF rfl rfl hS rfl fun b_1 a w hF hS=>step hF (Y.assign hF rfl) rfl fun a hF=>nT (seq (region (step hF (Y.fieldAddr fo_81_0 hF rfl) rfl fun a hF=>step hF (Y.loadNL 1 sz_76 hF rfl hS rfl rfl rfl) rfl fun a hF=>?_)))))
 obtain ⟨rv,hx,h⟩:=bind_some h
 refine O.callS (us:=[.agg #[iv b.Rule.Fast,iv b.Rule.Slow,iv b.Rule.Jerk,iv b.Rule.Drift.Low,iv b.Rule.Drift.High],.bool true]) ca_85 hF hS (scale_opened_ok hS.stab b.Rule true rv hx) rfl rfl fun v Dv a w hR hlev hF hS=>?_
 replace hs:=hs.mono hlev
 replace hs_1:=hs_1.mono hlev
 obtain ⟨bm,rfl,hm⟩:=hR
 refine step hF (Y.move hF rfl) rfl fun a hF=>step hF (Y.extract hF rfl rfl) rfl fun a hF=>step hF (Y.extract hF rfl rfl) rfl fun a hF=>O.alloc 2 zc_170 hF hS rfl fun b_2 a w hF hS=>O.store (us:=[iv rv.1.ScaleRule.Fast,iv rv.1.ScaleRule.Slow,iv rv.1.ScaleRule.Jerk,iv rv.1.ScaleRule.Drift.Low,iv rv.1.ScaleRule.Drift.High,.map bm]) 2 sz_170 hF rfl rfl rfl rfl hS rfl rfl fun a w hF hS=>step hF (Y.assign hF rfl) rfl fun a hF=>nT (seq (region (step hF (Y.move hF rfl) rfl fun a hF=>step hF (Y.eql hF rfl rfl) rfl fun a hF=>step hF (Y.move hF rfl) rfl fun a hF=>?_)))
 obtain ⟨t,ht,h⟩:=bind_some h
 refine join (N:=80) (rs:=[]) (w0:=w0) (D0:=D0) 4 (us:=[(1,.pointer (some ⟨b_1,0,none⟩)),(2,iv 0),(3,.pointer (some ⟨b_2,0,none⟩)),(20,.bool t)]) (ms:=[(1,.cells b_1 [iv b.Rule.Fast,iv b.Rule.Slow,iv b.Rule.Jerk,iv b.Rule.Drift.Low,iv b.Rule.Drift.High,iv b.Ticks,.slice p b.Steer.length c,.slice p_1 b.Looks.length c_1] 81),(2,.cells b_2 [iv rv.1.ScaleRule.Fast,iv rv.1.ScaleRule.Slow,iv rv.1.ScaleRule.Jerk,iv rv.1.ScaleRule.Drift.Low,iv rv.1.ScaleRule.Drift.High,.map bm] 170)]) (D':=Dv) ?_ ?_
 ·rcases bcases (rv.2 == 0) with hbv | hbv
  ·skip
   replace h:=cond_t ht hbv
   refine guard_on hF rfl rfl hbv (step hF (Y.fieldAddr fo_81_1 hF rfl) rfl fun a hF=>guard_on hF rfl rfl hbv (step hF (Y.load1L 1 sz_3 hF rfl hS rfl rfl) rfl fun a hF=>guard_on hF rfl rfl hbv ?_))
   obtain ⟨rv_1,hx_1,h⟩:=bind_some h
   refine O.callP (us:=[iv b.Ticks,iv 1,iv 60]) ca_66 hF hS (scale_lies_ok hS.stab b.Ticks 1 60 rv_1 hx_1) rfl rfl fun a w hF hS=>step hF (Y.pick_t hF rfl hbv rfl) rfl fun a hF=>?_
   obtain rfl:=some_inj h
   exact nT ⟨hF.weak (AF rfl),hS.weak ⟨rfl,rfl,trivial⟩⟩
  replace h:=cond_f ht hbv
  refine guard_off hF rfl rfl hbv rfl fun a hF=>guard_off hF rfl rfl hbv rfl fun a hF=>guard_off hF rfl rfl hbv rfl fun a hF=>step hF (Y.pick_f hF rfl hbv rfl) rfl fun a hF=>?_
  obtain rfl:=some_inj h
  exact nT ⟨hF.weak (AF rfl),hS.weak ⟨rfl,rfl,trivial⟩⟩
 intro a w hF hS
 refine step hF (Y.move hF rfl) rfl fun a hF=>join (N:=80) (rs:=[]) (w0:=w0) (D0:=D0) 7 (us:=[(1,.pointer (some ⟨b_1,0,none⟩)),(2,iv 0),(3,.pointer (some ⟨b_2,0,none⟩)),(28,.bool (t && (decide ((b.Steer.length:Int)≤b.Ticks))))]) (ms:=[(1,.cells b_1 [iv b.Rule.Fast,iv b.Rule.Slow,iv b.Rule.Jerk,iv b.Rule.Drift.Low,iv b.Rule.Drift.High,iv b.Ticks,.slice p b.Steer.length c,.slice p_1 b.Looks.length c_1] 81),(2,.cells b_2 [iv rv.1.ScaleRule.Fast,iv rv.1.ScaleRule.Slow,iv rv.1.ScaleRule.Jerk,iv rv.1.ScaleRule.Drift.Low,iv rv.1.ScaleRule.Drift.High,.map bm] 170)]) (D':=Dv) ?_ ?_
 ·rcases bcases t with hbv_1 | hbv_1
  ·skip
   refine guard_on hF rfl rfl hbv_1 (step hF (Y.fieldAddr fo_81_2 hF rfl) rfl fun a hF=>guard_on hF rfl rfl hbv_1 (step hF (Y.load1L 1 sz_30 hF rfl hS rfl rfl) rfl fun a hF=>guard_on hF rfl rfl hbv_1 (step hF (Y.lenSl u_30 hF rfl) rfl fun a hF=>guard_on hF rfl rfl hbv_1 (step hF (Y.fieldAddr fo_81_1 hF rfl) rfl fun a hF=>guard_on hF rfl rfl hbv_1 (step hF (Y.load1L 1 sz_3 hF rfl hS rfl rfl) rfl fun a hF=>guard_on hF rfl rfl hbv_1 (step hF (Y.leq hF rfl rfl) rfl fun a hF=>step hF (Y.pick_t hF rfl hbv_1 rfl) rfl fun a hF=>nT ⟨hF.weak ⟨rfl,rfl,rfl,(by rw [hbv_1];rfl),trivial⟩,hS.weak ⟨rfl,rfl,trivial⟩⟩))))))
  refine guard_off hF rfl rfl hbv_1 rfl fun a hF=>guard_off hF rfl rfl hbv_1 rfl fun a hF=>guard_off hF rfl rfl hbv_1 rfl fun a hF=>guard_off hF rfl rfl hbv_1 rfl fun a hF=>guard_off hF rfl rfl hbv_1 rfl fun a hF=>guard_off hF rfl rfl hbv_1 rfl fun a hF=>step hF (Y.pick_f hF rfl hbv_1 rfl) rfl fun a hF=>nT ⟨hF.weak ⟨rfl,rfl,rfl,(by rw [hbv_1];rfl),trivial⟩,hS.weak ⟨rfl,rfl,trivial⟩⟩
 intro a w hF hS
 refine step hF (Y.move hF rfl) rfl fun a hF=>?_
 obtain ⟨t_1,ht_1,h⟩:=bind_some h
 refine join (N:=80) (rs:=[]) (w0:=w0) (D0:=D0) 5 (us:=[(1,.pointer (some ⟨b_1,0,none⟩)),(2,iv 0),(34,.bool t_1)]) (ms:=[(1,.cells b_1 [iv b.Rule.Fast,iv b.Rule.Slow,iv b.Rule.Jerk,iv b.Rule.Drift.Low,iv b.Rule.Drift.High,iv b.Ticks,.slice p b.Steer.length c,.slice p_1 b.Looks.length c_1] 81),(2,.cells b_2 [iv rv.1.ScaleRule.Fast,iv rv.1.ScaleRule.Slow,iv rv.1.ScaleRule.Jerk,iv rv.1.ScaleRule.Drift.Low,iv rv.1.ScaleRule.Drift.High,.map bm] 170)]) (D':=Dv) ?_ ?_
 ·rcases bcases (t && (decide ((b.Steer.length:Int)≤b.Ticks))) with hbv_2 | hbv_2
  ·skip
   replace h:=cond_t ht_1 hbv_2
   refine guard_on hF rfl rfl hbv_2 (step hF (Y.loadNL 2 sz_170 hF rfl hS rfl rfl rfl) rfl fun a hF=>guard_on hF rfl rfl hbv_2 (step hF (Y.fieldAddr fo_81_2 hF rfl) rfl fun a hF=>guard_on hF rfl rfl hbv_2 (step hF (Y.load1L 1 sz_30 hF rfl hS rfl rfl) rfl fun a hF=>guard_on hF rfl rfl hbv_2 ?_)))
   obtain ⟨rv_2,hx_2,h⟩:=bind_some h
   refine O.callP (us:=[.agg #[iv rv.1.ScaleRule.Fast,iv rv.1.ScaleRule.Slow,iv rv.1.ScaleRule.Jerk,iv rv.1.ScaleRule.Drift.Low,iv rv.1.ScaleRule.Drift.High,.map bm],.slice p b.Steer.length c]) ca_86 hF hS (scale_rule_keeps_ok hS.stab rv.1 b.Steer hm hs rv_2 hx_2) rfl rfl fun a w hF hS=>step hF (Y.pick_t hF rfl hbv_2 rfl) rfl fun a hF=>?_
   obtain rfl:=some_inj h
   exact nT ⟨hF.weak (AF rfl),hS.weak ⟨rfl,rfl,trivial⟩⟩
  replace h:=cond_f ht_1 hbv_2
  refine guard_off hF rfl rfl hbv_2 rfl fun a hF=>guard_off hF rfl rfl hbv_2 rfl fun a hF=>guard_off hF rfl rfl hbv_2 rfl fun a hF=>guard_off hF rfl rfl hbv_2 rfl fun a hF=>step hF (Y.pick_f hF rfl hbv_2 rfl) rfl fun a hF=>?_
  obtain rfl:=some_inj h
  exact nT ⟨hF.weak (AF rfl),hS.weak ⟨rfl,rfl,trivial⟩⟩
 intro a w hF hS
 refine step hF (Y.move hF rfl) rfl fun a hF=>join (N:=80) (rs:=[]) (w0:=w0) (D0:=D0) 5 (us:=[(1,.pointer (some ⟨b_1,0,none⟩)),(2,iv 0),(40,.bool (t_1 && (decide ((b.Looks.length:Int)≤10))))]) (ms:=[(1,.cells b_1 [iv b.Rule.Fast,iv b.Rule.Slow,iv b.Rule.Jerk,iv b.Rule.Drift.Low,iv b.Rule.Drift.High,iv b.Ticks,.slice p b.Steer.length c,.slice p_1 b.Looks.length c_1] 81),(2,.cells b_2 [iv rv.1.ScaleRule.Fast,iv rv.1.ScaleRule.Slow,iv rv.1.ScaleRule.Jerk,iv rv.1.ScaleRule.Drift.Low,iv rv.1.ScaleRule.Drift.High,.map bm] 170)]) (D':=Dv) ?_ ?_
 ·rcases bcases t_1 with hbv_3 | hbv_3
  ·skip
   refine guard_on hF rfl rfl hbv_3 (step hF (Y.fieldAddr fo_81_3 hF rfl) rfl fun a hF=>guard_on hF rfl rfl hbv_3 (step hF (Y.load1L 1 sz_79 hF rfl hS rfl rfl) rfl fun a hF=>guard_on hF rfl rfl hbv_3 (step hF (Y.lenSl u_79 hF rfl) rfl fun a hF=>guard_on hF rfl rfl hbv_3 (step hF (Y.leq hF rfl rfl) rfl fun a hF=>step hF (Y.pick_t hF rfl hbv_3 rfl) rfl fun a hF=>nT ⟨hF.weak ⟨rfl,rfl,(by rw [hbv_3];rfl),trivial⟩,hS.weak ⟨rfl,rfl,trivial⟩⟩))))
  refine guard_off hF rfl rfl hbv_3 rfl fun a hF=>guard_off hF rfl rfl hbv_3 rfl fun a hF=>guard_off hF rfl rfl hbv_3 rfl fun a hF=>guard_off hF rfl rfl hbv_3 rfl fun a hF=>step hF (Y.pick_f hF rfl hbv_3 rfl) rfl fun a hF=>nT ⟨hF.weak ⟨rfl,rfl,(by rw [hbv_3];rfl),trivial⟩,hS.weak ⟨rfl,rfl,trivial⟩⟩
 intro a w hF hS
 refine step hF (Y.assign hF rfl) rfl fun a hF=>nT (seq (seq (region (step hF (Y.fieldAddr fo_81_3 hF rfl) rfl fun a hF=>step hF (Y.load1L 1 sz_79 hF rfl hS rfl rfl) rfl fun a hF=>step hF (Y.lenSl u_79 hF rfl) rfl fun a hF=>step hF (Y.move hF rfl) rfl fun a hF=>nT (block (loop_cut (body:=scale_Check_b1 b) (out:=out) (fun s a w=>∃ (ok:Bool) (v44_0:Int),s=(ok,v44_0)∧Frm 80 [] [(1,.pointer (some ⟨b_1,0,none⟩)),(2,iv 0),(5,.bool ok),(42,.slice p_1 b.Looks.length c_1),(43,iv (b.Looks.length:Int)),(44,iv v44_0)] a∧St w0 D0 Dv [(1,.cells b_1 [iv b.Rule.Fast,iv b.Rule.Slow,iv b.Rule.Jerk,iv b.Rule.Drift.Low,iv b.Rule.Drift.High,iv b.Ticks,.slice p b.Steer.length c,.slice p_1 b.Looks.length c_1] 81),(2,.cells b_2 [iv rv.1.ScaleRule.Fast,iv rv.1.ScaleRule.Slow,iv rv.1.ScaleRule.Jerk,iv rv.1.ScaleRule.Drift.Low,iv rv.1.ScaleRule.Drift.High,.map bm] 170)] w) ((t_1 && (decide ((b.Looks.length:Int)≤10))),0) h ⟨(t_1 && (decide ((b.Looks.length:Int)≤10))),0,rfl,hF.weak (AF rfl),hS.weak ⟨rfl,rfl,trivial⟩⟩ ?_))))))
 rintro s a w xo ⟨ok,v44_0,rfl,hF,hS⟩ h hxo
 unfold scale_Check_b1 at h
 dsimp only at h
 refine seq (region (step hF (Y.lss hF rfl rfl) rfl fun a hF=>nT (seq (cond_b hF rfl (fun hbv_4=>?_) (fun hbv_4=>?_)))))
 ·replace h:=cond_t h hbv_4
  refine skip_ (then_n (seq (block (seq (region ?_)))))
  obtain ⟨e,hx_3,h⟩:=bind_some h
  obtain ⟨b_3,o,hE,hY⟩:=Y.indexS (P:=Tryz.prog) (C:=C_ScaleLook) (xs:=b.Looks) (T:=79) (x:=(.tmp 42)) (y:=(.tmp 44)) u_79 sz_78 hF rfl rfl (hs_1).1 hx_3
  obtain ⟨cc,hc,hcell⟩:=hE.open
  obtain rfl:=C_ScaleLook.open hc
  refine step hF (hY) rfl fun a hF=>step hF (Y.loadNE (o:=o) (k:=0) sz_78 hF rfl (hcell _ hS.stab) rfl rfl) rfl fun a hF=>O.alloc 3 zc_78 hF hS rfl fun b_4 a w hF hS=>O.store (us:=[iv e.Tick,iv e.Off.Low,iv e.Off.High]) 3 sz_78 hF rfl rfl rfl rfl hS rfl rfl fun a w hF hS=>nT (region (step hF (Y.move hF rfl) rfl fun a hF=>step hF (Y.move hF rfl) rfl fun a hF=>?_))
  obtain ⟨t_2,ht_2,h⟩:=bind_some h
  refine join (N:=80) (rs:=[]) (w0:=w0) (D0:=D0) 6 (us:=[(1,.pointer (some ⟨b_1,0,none⟩)),(2,iv 0),(5,.bool ok),(7,.pointer (some ⟨b_4,0,none⟩)),(42,.slice p_1 b.Looks.length c_1),(43,iv (b.Looks.length:Int)),(44,iv v44_0),(55,.bool t_2)]) (ms:=[(1,.cells b_1 [iv b.Rule.Fast,iv b.Rule.Slow,iv b.Rule.Jerk,iv b.Rule.Drift.Low,iv b.Rule.Drift.High,iv b.Ticks,.slice p b.Steer.length c,.slice p_1 b.Looks.length c_1] 81),(2,.cells b_2 [iv rv.1.ScaleRule.Fast,iv rv.1.ScaleRule.Slow,iv rv.1.ScaleRule.Jerk,iv rv.1.ScaleRule.Drift.Low,iv rv.1.ScaleRule.Drift.High,.map bm] 170),(3,.cells b_4 [iv e.Tick,iv e.Off.Low,iv e.Off.High] 78)]) (D':=Dv) ?_ ?_
  ·rcases bcases ok with hbv_5 | hbv_5
   ·skip
    replace h:=cond_t ht_2 hbv_5
    refine guard_on hF rfl rfl hbv_5 (step hF (Y.fieldAddr fo_78_0 hF rfl) rfl fun a hF=>guard_on hF rfl rfl hbv_5 (step hF (Y.load1L 3 sz_3 hF rfl hS rfl rfl) rfl fun a hF=>guard_on hF rfl rfl hbv_5 (step hF (Y.fieldAddr fo_81_1 hF rfl) rfl fun a hF=>guard_on hF rfl rfl hbv_5 (step hF (Y.load1L 1 sz_3 hF rfl hS rfl rfl) rfl fun a hF=>guard_on hF rfl rfl hbv_5 ?_))))
    obtain ⟨rv_3,hx_4,h⟩:=bind_some h
    refine O.callP (us:=[iv e.Tick,iv 0,iv b.Ticks]) ca_66 hF hS (scale_lies_ok hS.stab e.Tick 0 b.Ticks rv_3 hx_4) rfl rfl fun a w hF hS=>step hF (Y.pick_t hF rfl hbv_5 rfl) rfl fun a hF=>?_
    obtain rfl:=some_inj h
    exact nT ⟨hF.weak (AF rfl),hS.weak (AL rfl)⟩
   replace h:=cond_f ht_2 hbv_5
   refine guard_off hF rfl rfl hbv_5 rfl fun a hF=>guard_off hF rfl rfl hbv_5 rfl fun a hF=>guard_off hF rfl rfl hbv_5 rfl fun a hF=>guard_off hF rfl rfl hbv_5 rfl fun a hF=>guard_off hF rfl rfl hbv_5 rfl fun a hF=>step hF (Y.pick_f hF rfl hbv_5 rfl) rfl fun a hF=>?_
   obtain rfl:=some_inj h
   exact nT ⟨hF.weak (AF rfl),hS.weak (AL rfl)⟩
  intro a w hF hS
  refine step hF (Y.move hF rfl) rfl fun a hF=>join (N:=80) (rs:=[]) (w0:=w0) (D0:=D0) 5 (us:=[(1,.pointer (some ⟨b_1,0,none⟩)),(2,iv 0),(5,.bool ok),(7,.pointer (some ⟨b_4,0,none⟩)),(42,.slice p_1 b.Looks.length c_1),(43,iv (b.Looks.length:Int)),(44,iv v44_0),(61,.bool (t_2 && (decide ((-20000)≤e.Off.Low))))]) (ms:=[(1,.cells b_1 [iv b.Rule.Fast,iv b.Rule.Slow,iv b.Rule.Jerk,iv b.Rule.Drift.Low,iv b.Rule.Drift.High,iv b.Ticks,.slice p b.Steer.length c,.slice p_1 b.Looks.length c_1] 81),(2,.cells b_2 [iv rv.1.ScaleRule.Fast,iv rv.1.ScaleRule.Slow,iv rv.1.ScaleRule.Jerk,iv rv.1.ScaleRule.Drift.Low,iv rv.1.ScaleRule.Drift.High,.map bm] 170),(3,.cells b_4 [iv e.Tick,iv e.Off.Low,iv e.Off.High] 78)]) (D':=Dv) ?_ ?_
  ·rcases bcases t_2 with hbv_6 | hbv_6
   ·skip
    refine guard_on hF rfl rfl hbv_6 (step hF (Y.fieldAddr fo_78_1 hF rfl) rfl fun a hF=>guard_on hF rfl rfl hbv_6 (step hF (Y.fieldAddr fo_27_0 hF rfl) rfl fun a hF=>guard_on hF rfl rfl hbv_6 (step hF (Y.load1L 3 sz_3 hF rfl hS rfl rfl) rfl fun a hF=>guard_on hF rfl rfl hbv_6 (step hF (Y.leq hF rfl rfl) rfl fun a hF=>step hF (Y.pick_t hF rfl hbv_6 rfl) rfl fun a hF=>nT ⟨hF.weak ⟨rfl,rfl,rfl,rfl,rfl,rfl,rfl,(by rw [hbv_6];rfl),trivial⟩,hS.weak (AL rfl)⟩))))
   refine guard_off hF rfl rfl hbv_6 rfl fun a hF=>guard_off hF rfl rfl hbv_6 rfl fun a hF=>guard_off hF rfl rfl hbv_6 rfl fun a hF=>guard_off hF rfl rfl hbv_6 rfl fun a hF=>step hF (Y.pick_f hF rfl hbv_6 rfl) rfl fun a hF=>nT ⟨hF.weak ⟨rfl,rfl,rfl,rfl,rfl,rfl,rfl,(by rw [hbv_6];rfl),trivial⟩,hS.weak (AL rfl)⟩
  intro a w hF hS
  refine step hF (Y.move hF rfl) rfl fun a hF=>join (N:=80) (rs:=[]) (w0:=w0) (D0:=D0) 8 (us:=[(1,.pointer (some ⟨b_1,0,none⟩)),(2,iv 0),(5,.bool ok),(7,.pointer (some ⟨b_4,0,none⟩)),(42,.slice p_1 b.Looks.length c_1),(43,iv (b.Looks.length:Int)),(44,iv v44_0),(70,.bool ((t_2 && (decide ((-20000)≤e.Off.Low))) && (decide (e.Off.Low≤e.Off.High))))]) (ms:=[(1,.cells b_1 [iv b.Rule.Fast,iv b.Rule.Slow,iv b.Rule.Jerk,iv b.Rule.Drift.Low,iv b.Rule.Drift.High,iv b.Ticks,.slice p b.Steer.length c,.slice p_1 b.Looks.length c_1] 81),(2,.cells b_2 [iv rv.1.ScaleRule.Fast,iv rv.1.ScaleRule.Slow,iv rv.1.ScaleRule.Jerk,iv rv.1.ScaleRule.Drift.Low,iv rv.1.ScaleRule.Drift.High,.map bm] 170),(3,.cells b_4 [iv e.Tick,iv e.Off.Low,iv e.Off.High] 78)]) (D':=Dv) ?_ ?_
  ·rcases bcases (t_2 && (decide ((-20000)≤e.Off.Low))) with hbv_7 | hbv_7
   ·skip
    refine guard_on hF rfl rfl hbv_7 (step hF (Y.fieldAddr fo_78_1 hF rfl) rfl fun a hF=>guard_on hF rfl rfl hbv_7 (step hF (Y.fieldAddr fo_27_0 hF rfl) rfl fun a hF=>guard_on hF rfl rfl hbv_7 (step hF (Y.load1L 3 sz_3 hF rfl hS rfl rfl) rfl fun a hF=>guard_on hF rfl rfl hbv_7 (step hF (Y.fieldAddr fo_78_1 hF rfl) rfl fun a hF=>guard_on hF rfl rfl hbv_7 (step hF (Y.fieldAddr fo_27_1 hF rfl) rfl fun a hF=>guard_on hF rfl rfl hbv_7 (step hF (Y.load1L 3 sz_3 hF rfl hS rfl rfl) rfl fun a hF=>guard_on hF rfl rfl hbv_7 (step hF (Y.leq hF rfl rfl) rfl fun a hF=>step hF (Y.pick_t hF rfl hbv_7 rfl) rfl fun a hF=>nT ⟨hF.weak ⟨rfl,rfl,rfl,rfl,rfl,rfl,rfl,(by rw [hbv_7];rfl),trivial⟩,hS.weak (AL rfl)⟩)))))))
   refine guard_off hF rfl rfl hbv_7 rfl fun a hF=>guard_off hF rfl rfl hbv_7 rfl fun a hF=>guard_off hF rfl rfl hbv_7 rfl fun a hF=>guard_off hF rfl rfl hbv_7 rfl fun a hF=>guard_off hF rfl rfl hbv_7 rfl fun a hF=>guard_off hF rfl rfl hbv_7 rfl fun a hF=>guard_off hF rfl rfl hbv_7 rfl fun a hF=>step hF (Y.pick_f hF rfl hbv_7 rfl) rfl fun a hF=>nT ⟨hF.weak ⟨rfl,rfl,rfl,rfl,rfl,rfl,rfl,(by rw [hbv_7];rfl),trivial⟩,hS.weak (AL rfl)⟩
  intro a w hF hS
  refine step hF (Y.move hF rfl) rfl fun a hF=>join (N:=80) (rs:=[]) (w0:=w0) (D0:=D0) 5 (us:=[(1,.pointer (some ⟨b_1,0,none⟩)),(2,iv 0),(5,.bool ok),(42,.slice p_1 b.Looks.length c_1),(43,iv (b.Looks.length:Int)),(44,iv v44_0),(76,.bool (((t_2 && (decide ((-20000)≤e.Off.Low))) && (decide (e.Off.Low≤e.Off.High))) && (decide (e.Off.High≤20000))))]) (ms:=[(1,.cells b_1 [iv b.Rule.Fast,iv b.Rule.Slow,iv b.Rule.Jerk,iv b.Rule.Drift.Low,iv b.Rule.Drift.High,iv b.Ticks,.slice p b.Steer.length c,.slice p_1 b.Looks.length c_1] 81),(2,.cells b_2 [iv rv.1.ScaleRule.Fast,iv rv.1.ScaleRule.Slow,iv rv.1.ScaleRule.Jerk,iv rv.1.ScaleRule.Drift.Low,iv rv.1.ScaleRule.Drift.High,.map bm] 170),(3,.cells b_4 [iv e.Tick,iv e.Off.Low,iv e.Off.High] 78)]) (D':=Dv) ?_ ?_
  ·rcases bcases ((t_2 && (decide ((-20000)≤e.Off.Low))) && (decide (e.Off.Low≤e.Off.High))) with hbv_8 | hbv_8
   ·skip
    refine guard_on hF rfl rfl hbv_8 (step hF (Y.fieldAddr fo_78_1 hF rfl) rfl fun a hF=>guard_on hF rfl rfl hbv_8 (step hF (Y.fieldAddr fo_27_1 hF rfl) rfl fun a hF=>guard_on hF rfl rfl hbv_8 (step hF (Y.load1L 3 sz_3 hF rfl hS rfl rfl) rfl fun a hF=>guard_on hF rfl rfl hbv_8 (step hF (Y.leq hF rfl rfl) rfl fun a hF=>step hF (Y.pick_t hF rfl hbv_8 rfl) rfl fun a hF=>nT ⟨hF.weak ⟨rfl,rfl,rfl,rfl,rfl,rfl,(by rw [hbv_8];rfl),trivial⟩,hS.weak (AL rfl)⟩))))
   refine guard_off hF rfl rfl hbv_8 rfl fun a hF=>guard_off hF rfl rfl hbv_8 rfl fun a hF=>guard_off hF rfl rfl hbv_8 rfl fun a hF=>guard_off hF rfl rfl hbv_8 rfl fun a hF=>step hF (Y.pick_f hF rfl hbv_8 rfl) rfl fun a hF=>nT ⟨hF.weak ⟨rfl,rfl,rfl,rfl,rfl,rfl,(by rw [hbv_8];rfl),trivial⟩,hS.weak (AL rfl)⟩
  intro a w hF hS
  refine step hF (Y.assign hF rfl) rfl fun a hF=>nil (blk_n (then_n (region (step hF (Y.add hF rfl rfl) rfl fun a hF=>step hF (Y.move hF rfl) rfl fun a hF=>nT (⟨_,nxt_some h,(((t_2 && (decide ((-20000)≤e.Off.Low))) && (decide (e.Off.Low≤e.Off.High))) && (decide (e.Off.High≤20000))),(wr (v44_0 + 1)),rfl,hF.weak (AF rfl),hS.weak ⟨rfl,rfl,trivial⟩⟩)))))
 replace h:=cond_f h hbv_4
 refine exit_ (then_x (then_x (blk_hit (then_n ?_))))
 replace h:=ext_some h hxo
 refine seq (seq (region (step hF (Y.move hF rfl) rfl fun a hF=>step hF (Y.not hF rfl) rfl fun a hF=>nT (cond_b hF rfl (fun hbv_9=>?_) (fun hbv_9=>?_)))))
 ·replace h:=cond_t h hbv_9
  refine seq (region (step hF (Y.assign hF rfl) rfl fun a hF=>nT (ret_ (then_r ?_))))
  obtain rfl:=some_inj h
  exact leaveP Tryz.results79 hF hS (.cons (.tmp rfl) .nil) .nil rfl
 replace h:=cond_f h hbv_9
 refine skip_ (then_n (seq (region (step hF (Y.assign hF rfl) rfl fun a hF=>nT (ret_ ?_)))))
 obtain rfl:=some_inj h
 exact leaveP Tryz.results79 hF hS (.cons (.tmp rfl) .nil) .nil rfl
noncomputable def scale_both (sv:Span) (t:Span):Option Span:=
  some (Span.mk (if t.Low > sv.Low then t.Low else sv.Low) (if t.High < sv.High then t.High else sv.High))
theorem scale_both_ok {w0:World} {D0:Stab} (hD:D0.on w0) (sv:Span) (t:Span) (out:Span) (h:scale_both sv t=some out):Calls Tryz.prog 87 [.agg #[iv sv.Low,iv sv.High],.agg #[iv t.Low,iv t.High]].toArray w0 (RetP D0 w0 (.agg #[iv out.Low,iv out.High])):=by
 refine enter _ 16 Tryz.func87 rfl Tryz.ntmps87 rfl fun a hF=>?_
 replace hF:Frm 16 [] [(0,.agg #[iv sv.Low,iv sv.High]),(1,.agg #[iv t.Low,iv t.High])] a:=hF
 have hS:=St.start hD
 unfold scale_both at h
 refine seq (region (O.box (cs:=[iv sv.Low,iv sv.High]) 1 hF rfl rfl hS rfl fun b a w hF hS=>O.box (cs:=[iv t.Low,iv t.High]) 2 hF rfl rfl hS rfl fun b_1 a w hF hS=>O.alloc 3 zc_27 hF hS rfl fun b_2 a w hF hS=>nT (seq (region (step hF (Y.fieldAddr fo_27_0 hF rfl) rfl fun a hF=>step hF (Y.load1L 1 sz_3 hF rfl hS rfl rfl) rfl fun a hF=>step hF (Y.fieldAddr fo_27_0 hF rfl) rfl fun a hF=>step hF (Y.load1L 2 sz_3 hF rfl hS rfl rfl) rfl fun a hF=>step hF (Y.max2 hF rfl rfl) rfl fun a hF=>step hF (Y.fieldAddr fo_27_1 hF rfl) rfl fun a hF=>step hF (Y.load1L 1 sz_3 hF rfl hS rfl rfl) rfl fun a hF=>step hF (Y.fieldAddr fo_27_1 hF rfl) rfl fun a hF=>step hF (Y.load1L 2 sz_3 hF rfl hS rfl rfl) rfl fun a hF=>step hF (Y.min2 hF rfl rfl) rfl fun a hF=>step hF (Y.build (parts:=[(0,(.tmp 9)),(1,(.tmp 14))]) (cs:=#[iv (if t.Low > sv.Low then t.Low else sv.Low),iv (if t.High < sv.High then t.High else sv.High)]) hF rfl (by kernel_rfl)) rfl fun a hF=>O.store (us:=[iv (if t.Low > sv.Low then t.Low else sv.Low),iv (if t.High < sv.High then t.High else sv.High)]) 3 sz_27 hF rfl rfl rfl rfl hS rfl rfl fun a w hF hS=>nT (ret_ ?_))))))
 obtain rfl:=some_inj h
 exact leaveP Tryz.results87 hF hS (.cons (.cellN 3 sz_27 rfl rfl rfl) .nil) .nil rfl
noncomputable def scale_between_1 (tick:Int) (cv:ScaleBook):Option Int:=
  cond (decide (tick < (cv.Steer.length:Int)))
  ((idx cv.Steer tick).bind fun e=>
  some e)
  (some 0)
theorem scale_between_1_ok {w0:World} {D0:Stab} (hD:D0.on w0) (tick:Int) (cv:ScaleBook) {p:Option Addr} {c:Nat} {p_1:Option Addr} {c_1:Nat} {bb:Nat} (hs:SRc C_int D0 cv.Steer p c) (hs_1:SRc C_ScaleLook D0 cv.Looks p_1 c_1) (hbv:w0.heap[bb]?=some (.cells ([iv cv.Rule.Fast,iv cv.Rule.Slow,iv cv.Rule.Jerk,iv cv.Rule.Drift.Low,iv cv.Rule.Drift.High,iv cv.Ticks,.slice p cv.Steer.length c,.slice p_1 cv.Looks.length c_1]).toArray 81 (0,0))) (out:Int) (h:scale_between_1 tick cv=some out):Calls Tryz.prog 88 [iv tick,.pointer (some ⟨bb,0,none⟩)].toArray w0 (RetP D0 w0 (iv out)):=by
 refine enter _ 14 Tryz.func88 rfl Tryz.ntmps88 rfl fun a hF=>?_
 replace hF:Frm 14 [] [(0,iv tick),(1,.pointer (some ⟨bb,0,none⟩))] a:=hF
 have hS:=St.start hD
 unfold scale_between_1 at h
 refine seq (region (step hF (Y.assign hF rfl) rfl fun a hF=>nT (seq (seq (region (step hF (Y.move hF rfl) rfl fun a hF=>step hF (Y.fieldAddr fo_81_2 hF rfl) rfl fun a hF=>step hF (Y.load1H sz_30 hF rfl (hS.old hbv) rfl) rfl fun a hF=>step hF (Y.lenSl u_30 hF rfl) rfl fun a hF=>step hF (Y.lss hF rfl rfl) rfl fun a hF=>nT (cond_b hF rfl (fun hbv_1=>?_) (fun hbv_1=>?_))))))))
 ·replace h:=cond_t h hbv_1
  refine seq (region (step hF (Y.fieldAddr fo_81_2 hF rfl) rfl fun a hF=>step hF (Y.load1H sz_30 hF rfl (hS.old hbv) rfl) rfl fun a hF=>step hF (Y.move hF rfl) rfl fun a hF=>?_))
  obtain ⟨e,hx,h⟩:=bind_some h
  obtain ⟨b,o,hE,hY⟩:=Y.indexS (P:=Tryz.prog) (C:=C_int) (xs:=cv.Steer) (T:=30) (x:=(.tmp 10)) (y:=(.tmp 11)) u_30 sz_3 hF rfl rfl (hs).1 hx
  obtain ⟨cc,hc,hcell⟩:=hE.open
  obtain rfl:=hc
  refine step hF (hY) rfl fun a hF=>step hF (Y.load1 sz_3 hF rfl (hcell _ hS.stab 0 _ rfl)) rfl fun a hF=>step hF (Y.assign hF rfl) rfl fun a hF=>nT (ret_ (then_r ?_))
  obtain rfl:=some_inj h
  exact leaveP Tryz.results88 hF hS (.cons (.tmp rfl) .nil) .nil rfl
 replace h:=cond_f h hbv_1
 refine skip_ (then_n (seq (region (step hF (Y.assign hF rfl) rfl fun a hF=>nT (ret_ ?_)))))
 obtain rfl:=some_inj h
 exact leaveP Tryz.results88 hF hS (.cons (.tmp rfl) .nil) .nil rfl
noncomputable def scale_between_b6 (b:ScaleBook) (l_3:(List Span)) (l_6:(List Span)):(Bool × Int × (List Span))→Option ((Bool × Int × (List Span)) ⊕ ((Bool × (List Span) × (List Span) × (List Span)) ⊕ ((List Span) × Bool)))
 | (v3_1,v130_0,l_7)=>
  cond (decide (v130_0 < (wr (b.Ticks + 1))))
  (if (0:Int)≤v130_0∧v130_0 < ((61:Nat):Int) then
  if (0:Int)≤v130_0∧v130_0 < ((61:Nat):Int) then
  cond (decide (((l_6.getD (Int.toNat v130_0) (Span.mk 0 0)).Low)≤((l_6.getD (Int.toNat v130_0) (Span.mk 0 0)).High)))
  (nxt (v3_1,wr (v130_0 + 1),l_7))
  (ext (ext (some (l_6,false))))
  else none
  else none)
  (ext (nxt (v3_1,l_3,l_6,l_7)))
noncomputable def scale_between_b5 (b:ScaleBook) (v3_0:Bool) (l_3:(List Span)) (l_4:(List Span)):(Int × (List Span))→Option ((Int × (List Span)) ⊕ ((Bool × (List Span) × (List Span) × (List Span)) ⊕ ((List Span) × Bool)))
 | (k,l_6)=>
  cond (decide (k ≥ 0))
  ((scale_between_1 k b).bind fun rv_3=>
  if (0:Int)≤k∧k < ((61:Nat):Int) then
  if (0:Int)≤(wr (k + 1))∧(wr (k + 1)) < ((61:Nat):Int) then
  if (0:Int)≤(wr (k + 1))∧(wr (k + 1)) < ((61:Nat):Int) then
  (scale_both (Span.mk ((l_6.getD (Int.toNat k) (Span.mk 0 0)).Low) ((l_6.getD (Int.toNat k) (Span.mk 0 0)).High)) (Span.mk (wr ((wr (((l_6.getD (Int.toNat (wr (k + 1))) (Span.mk 0 0)).Low) - rv_3)) - b.Rule.Drift.High)) (wr ((wr (((l_6.getD (Int.toNat (wr (k + 1))) (Span.mk 0 0)).High) - rv_3)) - b.Rule.Drift.Low)))).bind fun rv_4=>
  if (0:Int)≤k∧k < ((61:Nat):Int) then
  nxt (wr (k - 1),(l_6.set (Int.toNat k) rv_4))
  else none
  else none
  else none
  else none)
  (ext (loopU (scale_between_b6 b l_3 l_6) (v3_0,0,l_4)))
noncomputable def scale_between_b4 (b:ScaleBook) (v3_0:Bool) (l_3:(List Span)) (l_4:(List Span)):(Int × (List Span))→Option ((Int × (List Span)) ⊕ ((Bool × (List Span) × (List Span) × (List Span)) ⊕ ((List Span) × Bool)))
 | (v48_0,l_5)=>
  cond (decide (v48_0 < b.Ticks))
  ((scale_between_1 v48_0 b).bind fun rv_1=>
  if (0:Int)≤(wr (v48_0 + 1))∧(wr (v48_0 + 1)) < ((61:Nat):Int) then
  if (0:Int)≤v48_0∧v48_0 < ((61:Nat):Int) then
  if (0:Int)≤v48_0∧v48_0 < ((61:Nat):Int) then
  (scale_both (Span.mk ((l_5.getD (Int.toNat (wr (v48_0 + 1))) (Span.mk 0 0)).Low) ((l_5.getD (Int.toNat (wr (v48_0 + 1))) (Span.mk 0 0)).High)) (Span.mk (wr ((wr (((l_5.getD (Int.toNat v48_0) (Span.mk 0 0)).Low) + rv_1)) + b.Rule.Drift.Low)) (wr ((wr (((l_5.getD (Int.toNat v48_0) (Span.mk 0 0)).High) + rv_1)) + b.Rule.Drift.High)))).bind fun rv_2=>
  if (0:Int)≤(wr (v48_0 + 1))∧(wr (v48_0 + 1)) < ((61:Nat):Int) then
  nxt (wr (v48_0 + 1),(l_5.set (Int.toNat (wr (v48_0 + 1))) rv_2))
  else none
  else none
  else none
  else none)
  (ext (loopU (scale_between_b5 b v3_0 l_3 l_4) (wr (b.Ticks - 1),l_5)))
noncomputable def scale_between_b3 (b:ScaleBook):(Bool × (List Span) × (List Span) × (List Span))→Option ((Bool × (List Span) × (List Span) × (List Span)) ⊕ ((List Span) × Bool))
 | (v3_0,l_2,l_3,l_4)=>
  cond (!(l_3.map celN_27.f == l_2.map celN_27.f))
  (loopU (scale_between_b4 b v3_0 l_3 l_4) (0,l_3))
  (ext (some (l_3,true)))
noncomputable def scale_between_b2 (b:ScaleBook):(Int × (List Span))→Option ((Int × (List Span)) ⊕ ((List Span) × Bool))
 | (v25_0,l_1)=>
  cond (decide (v25_0 < (b.Looks.length:Int)))
  ((idx b.Looks v25_0).bind fun e=>
  if (0:Int)≤e.Tick∧e.Tick < ((61:Nat):Int) then
  (scale_both (Span.mk ((l_1.getD (Int.toNat e.Tick) (Span.mk 0 0)).Low) ((l_1.getD (Int.toNat e.Tick) (Span.mk 0 0)).High)) e.Off).bind fun rv=>
  if (0:Int)≤e.Tick∧e.Tick < ((61:Nat):Int) then
  nxt (wr (v25_0 + 1),(l_1.set (Int.toNat e.Tick) rv))
  else none
  else none)
  (ext (loopU (scale_between_b3 b) (false,(List.replicate 61 (Span.mk 0 0)),l_1,(List.replicate 61 (Span.mk 0 0)))))
noncomputable def scale_between_b1 (b:ScaleBook):(Int × (List Span))→Option ((Int × (List Span)) ⊕ ((List Span) × Bool))
 | (v15_0,l)=>
  cond (decide (v15_0 < 61))
  (if (0:Int)≤v15_0∧v15_0 < ((61:Nat):Int) then
  nxt (wr (v15_0 + 1),(l.set (Int.toNat v15_0) (Span.mk (-20000) 20000)))
  else none)
  (ext (loopU (scale_between_b2 b) (0,l)))
noncomputable def scale_between (b:ScaleBook):Option ((List Span) × Bool):=
  loopU (scale_between_b1 b) (0,(List.replicate 61 (Span.mk 0 0)))
theorem scale_between_ok {w0:World} {D0:Stab} (hD:D0.on w0) (b:ScaleBook) {p:Option Addr} {c:Nat} {p_1:Option Addr} {c_1:Nat} (hs:SRc C_int D0 b.Steer p c) (hs_1:SRc C_ScaleLook D0 b.Looks p_1 c_1) (out:((List Span) × Bool)) (h:scale_between b=some out):Calls Tryz.prog 80 [.agg #[iv b.Rule.Fast,iv b.Rule.Slow,iv b.Rule.Jerk,iv b.Rule.Drift.Low,iv b.Rule.Drift.High,iv b.Ticks,.slice p b.Steer.length c,.slice p_1 b.Looks.length c_1]].toArray w0 (RetS D0 w0 fun D v=>v=.tuple #[.agg (arrN celN_27 out.1).toArray,.bool out.2]∧out.1.length=61):=by
 refine enter _ 146 Tryz.func80 rfl Tryz.ntmps80 rfl fun a hF=>?_
 replace hF:Frm 146 [] [(0,.agg #[iv b.Rule.Fast,iv b.Rule.Slow,iv b.Rule.Jerk,iv b.Rule.Drift.Low,iv b.Rule.Drift.High,iv b.Ticks,.slice p b.Steer.length c,.slice p_1 b.Looks.length c_1])] a:=hF
 have hS:=St.start hD
 unfold scale_between at h
 refine seq (region (O.box (cs:=[iv b.Rule.Fast,iv b.Rule.Slow,iv b.Rule.Jerk,iv b.Rule.Drift.Low,iv b.Rule.Drift.High,iv b.Ticks,.slice p b.Steer.length c,.slice p_1 b.Looks.length c_1]) 1 hF rfl rfl hS rfl fun b_1 a w hF hS=>O.alloc 2 zc_145 hF hS rfl fun b_2 a w hF hS=>step hF (Y.assign hF rfl) rfl fun a hF=>nT (seq (region (O.alloc 3 zc_145 hF hS rfl fun b_3 a w hF hS=>nT (seq (seq (region (step hF (Y.move hF rfl) rfl fun a hF=>nT (block (loop_cut (body:=scale_between_b1 b) (out:=out) (fun s a w=>∃ (v15_0:Int) (l:(List Span)),s=(v15_0,l)∧Frm 146 [] [(1,.pointer (some ⟨b_1,0,none⟩)),(2,.pointer (some ⟨b_2,0,none⟩)),(3,.bool false),(4,.pointer (some ⟨b_3,0,none⟩)),(15,iv v15_0)] a∧St w0 D0 D0 [(1,.cells b_1 [iv b.Rule.Fast,iv b.Rule.Slow,iv b.Rule.Jerk,iv b.Rule.Drift.Low,iv b.Rule.Drift.High,iv b.Ticks,.slice p b.Steer.length c,.slice p_1 b.Looks.length c_1] 81),(2,.cells b_2 (arrN celN_27 (List.replicate 61 (Span.mk 0 0))) 145),(3,.cells b_3 (arrN celN_27 l) 145)] w∧l.length=61) (0,(List.replicate 61 (Span.mk 0 0))) h ⟨0,(List.replicate 61 (Span.mk 0 0)),rfl,hF.weak (AF rfl),hS.weak (AL rfl),List.length_replicate⟩ ?_)))))))))))
 rintro s a w xo ⟨v15_0,l,rfl,hF,hS,hn⟩ h hxo
 unfold scale_between_b1 at h
 dsimp only at h
 refine seq (region (step hF (Y.lss hF rfl rfl) rfl fun a hF=>nT (seq (cond_b hF rfl (fun hbv=>?_) (fun hbv=>?_)))))
 ·replace h:=cond_t h hbv
  refine skip_ (then_n (seq (block (seq (region (step hF (Y.move hF rfl) rfl fun a hF=>step hF (Y.assign hF rfl) rfl fun a hF=>nT (region (step hF (Y.move hF rfl) rfl fun a hF=>step hF (Y.build (parts:=[(0,(.const (iv (-20000)))),(1,(.const (iv 20000)))]) (cs:=#[iv (-20000),iv 20000]) hF rfl (by kernel_rfl)) rfl fun a hF=>?_))))))))
  obtain ⟨hg,h⟩:=ite_some h
  refine step hF (Y.indexArr u_145 sz_27 hF rfl rfl hg.1 hg.2) rfl fun a hF=>O.storeAN (F:=celN_27) (u:=(Span.mk (-20000) 20000)) 3 sz_27 hn hg hF rfl rfl hS rfl fun a w hF hS=>nil (blk_n (then_n (region (step hF (Y.add hF rfl rfl) rfl fun a hF=>step hF (Y.move hF rfl) rfl fun a hF=>nT (⟨_,nxt_some h,(wr (v15_0 + 1)),(l.set (Int.toNat v15_0) (Span.mk (-20000) 20000)),rfl,hF.weak (AF rfl),hS.weak (AL rfl),((List.length_set).trans hn)⟩)))))
 replace h:=cond_f h hbv
 refine exit_ (then_x (then_x (blk_hit (then_n ?_))))
 replace h:=ext_some h hxo
 refine seq (seq (region (step hF (Y.fieldAddr fo_81_3 hF rfl) rfl fun a hF=>step hF (Y.load1L 1 sz_79 hF rfl hS rfl rfl) rfl fun a hF=>step hF (Y.lenSl u_79 hF rfl) rfl fun a hF=>step hF (Y.move hF rfl) rfl fun a hF=>nT (block (loop_cut (body:=scale_between_b2 b) (out:=out) (fun s a w=>∃ (v25_0:Int) (l_1:(List Span)),s=(v25_0,l_1)∧Frm 146 [] [(1,.pointer (some ⟨b_1,0,none⟩)),(2,.pointer (some ⟨b_2,0,none⟩)),(3,.bool false),(4,.pointer (some ⟨b_3,0,none⟩)),(23,.slice p_1 b.Looks.length c_1),(24,iv (b.Looks.length:Int)),(25,iv v25_0)] a∧St w0 D0 D0 [(1,.cells b_1 [iv b.Rule.Fast,iv b.Rule.Slow,iv b.Rule.Jerk,iv b.Rule.Drift.Low,iv b.Rule.Drift.High,iv b.Ticks,.slice p b.Steer.length c,.slice p_1 b.Looks.length c_1] 81),(2,.cells b_2 (arrN celN_27 (List.replicate 61 (Span.mk 0 0))) 145),(3,.cells b_3 (arrN celN_27 l_1) 145)] w∧l_1.length=61) (0,l) h ⟨0,l,rfl,hF.weak (AF rfl),hS.weak (AL rfl),hn⟩ ?_)))))
 rintro s a w xo_1 ⟨v25_0,l_1,rfl,hF,hS,hn_1⟩ h hxo_1
 unfold scale_between_b2 at h
 dsimp only at h
 refine seq (region (step hF (Y.lss hF rfl rfl) rfl fun a hF=>nT (seq (cond_b hF rfl (fun hbv_1=>?_) (fun hbv_1=>?_)))))
 ·replace h:=cond_t h hbv_1
  refine skip_ (then_n (seq (block (seq (region ?_)))))
  obtain ⟨e,hx,h⟩:=bind_some h
  obtain ⟨b_4,o,hE,hY⟩:=Y.indexS (P:=Tryz.prog) (C:=C_ScaleLook) (xs:=b.Looks) (T:=79) (x:=(.tmp 23)) (y:=(.tmp 25)) u_79 sz_78 hF rfl rfl (hs_1).1 hx
  obtain ⟨cc,hc,hcell⟩:=hE.open
  obtain rfl:=C_ScaleLook.open hc
  refine step hF (hY) rfl fun a hF=>step hF (Y.loadNE (o:=o) (k:=0) sz_78 hF rfl (hcell _ hS.stab) rfl rfl) rfl fun a hF=>O.alloc 4 zc_78 hF hS rfl fun b_5 a w hF hS=>O.store (us:=[iv e.Tick,iv e.Off.Low,iv e.Off.High]) 4 sz_78 hF rfl rfl rfl rfl hS rfl rfl fun a w hF hS=>nT ?_
  obtain ⟨hg_1,h⟩:=ite_some h
  obtain ⟨rv,hx_1,h⟩:=bind_some h
  refine drawsV 9 (.flt 0 (.flt 1 (.flt 2 (.flt 3 (.flt 4 (.flt 5 (.flt 6 (.flt 7 (.alt 8 .done .stop))))))))) mixed_ (by kernel_rfl) (fun w=>St w0 D0 D0 [(1,.cells b_1 [iv b.Rule.Fast,iv b.Rule.Slow,iv b.Rule.Jerk,iv b.Rule.Drift.Low,iv b.Rule.Drift.High,iv b.Ticks,.slice p b.Steer.length c,.slice p_1 b.Looks.length c_1] 81),(2,.cells b_2 (arrN celN_27 (List.replicate 61 (Span.mk 0 0))) 145),(3,.cells b_3 (arrN celN_27 l_1) 145),(4,.cells b_5 [iv e.Tick,iv e.Off.Low,iv e.Off.High] 78)] w) (fun a w=>Frm 146 [] [(1,.pointer (some ⟨b_1,0,none⟩)),(2,.pointer (some ⟨b_2,0,none⟩)),(3,.bool false),(4,.pointer (some ⟨b_3,0,none⟩)),(23,.slice p_1 b.Looks.length c_1),(24,iv (b.Looks.length:Int)),(25,iv v25_0),(30,iv e.Tick),(37,.agg #[iv rv.Low,iv rv.High])] a∧St w0 D0 D0 [(1,.cells b_1 [iv b.Rule.Fast,iv b.Rule.Slow,iv b.Rule.Jerk,iv b.Rule.Drift.Low,iv b.Rule.Drift.High,iv b.Ticks,.slice p b.Steer.length c,.slice p_1 b.Looks.length c_1] 81),(2,.cells b_2 (arrN celN_27 (List.replicate 61 (Span.mk 0 0))) 145),(3,.cells b_3 (arrN celN_27 l_1) 145),(4,.cells b_5 [iv e.Tick,iv e.Off.Low,iv e.Off.High] 78)] w) (hS.weak (ms:=[(1,.cells b_1 [iv b.Rule.Fast,iv b.Rule.Slow,iv b.Rule.Jerk,iv b.Rule.Drift.Low,iv b.Rule.Drift.High,iv b.Ticks,.slice p b.Steer.length c,.slice p_1 b.Looks.length c_1] 81),(2,.cells b_2 (arrN celN_27 (List.replicate 61 (Span.mk 0 0))) 145),(3,.cells b_3 (arrN celN_27 l_1) 145),(4,.cells b_5 [iv e.Tick,iv e.Off.Low,iv e.Off.High] 78)]) (AL rfl)).drew (fun _ _ _ _ h=>h) ?_ ?_
  ·replace hS:=hS.drew
   have hle0:=hS.le
   refine stepV (i:=0) rfl hF (fun w hS=>Y.fieldAddr fo_78_0 hF rfl) rfl fun a hF=>stepV (i:=1) rfl hF (fun w hS=>Y.load1L 4 sz_3 hF rfl hS rfl rfl) rfl fun a hF=>stepV (i:=2) rfl hF (fun w hS=>Y.fieldAddr fo_78_0 hF rfl) rfl fun a hF=>stepV (i:=3) rfl hF (fun w hS=>Y.load1L 4 sz_3 hF rfl hS rfl rfl) rfl fun a hF=>stepV (i:=4) rfl hF (fun w hS=>Y.indexArr u_145 sz_27 hF rfl rfl hg_1.1 hg_1.2) rfl fun a hF=>stepV (i:=5) rfl hF (fun w hS=>(show Yields _ _ _ _ (.agg #[iv ((l_1.getD (Int.toNat e.Tick) (Span.mk 0 0)).Low),iv ((l_1.getD (Int.toNat e.Tick) (Span.mk 0 0)).High)]) from Y.loadAN (F:=celN_27) 3 (Span.mk 0 0) sz_27 hn_1 hg_1 hF rfl hS rfl)) rfl fun a hF=>stepV (i:=6) rfl hF (fun w hS=>Y.fieldAddr fo_78_1 hF rfl) rfl fun a hF=>stepV (i:=7) rfl hF (fun w hS=>Y.loadNL 4 sz_27 hF rfl hS rfl rfl rfl) rfl fun a hF=>oneV (i:=8) rfl ?_ trivial
   refine O.callP (us:=[.agg #[iv ((l_1.getD (Int.toNat e.Tick) (Span.mk 0 0)).Low),iv ((l_1.getD (Int.toNat e.Tick) (Span.mk 0 0)).High)],.agg #[iv e.Off.Low,iv e.Off.High]]) ca_87 hF hS (scale_both_ok hS.stab (Span.mk ((l_1.getD (Int.toNat e.Tick) (Span.mk 0 0)).Low) ((l_1.getD (Int.toNat e.Tick) (Span.mk 0 0)).High)) e.Off rv hx_1) rfl rfl fun a w hF hS=>nT ⟨hS.weak (AL rfl),?_⟩
   exact toTailV ⟨hF.weak (AF rfl),hS.weak (AL rfl)⟩
  rintro a w ⟨hF,hS⟩
  obtain ⟨hg_2,h⟩:=ite_some h
  refine step hF (Y.indexArr u_145 sz_27 hF rfl rfl hg_2.1 hg_2.2) rfl fun a hF=>O.storeAN (F:=celN_27) (u:=rv) 3 sz_27 hn_1 hg_2 hF rfl rfl hS rfl fun a w hF hS=>nil (blk_n (then_n (region (step hF (Y.add hF rfl rfl) rfl fun a hF=>step hF (Y.move hF rfl) rfl fun a hF=>nT (⟨_,nxt_some h,(wr (v25_0 + 1)),(l_1.set (Int.toNat e.Tick) rv),rfl,hF.weak (AF rfl),hS.weak (AL rfl),((List.length_set).trans hn_1)⟩)))))
 replace h:=cond_f h hbv_1
 refine exit_ (then_x (then_x (blk_hit (then_n ?_))))
 replace h:=ext_some h hxo_1
 refine seq (region (step hF (Y.makeFunc (first:=[]) (cap:=[(.tmp 1)]) (fs:=[]) (cs:=[.pointer (some ⟨b_1,0,none⟩)]) hF rfl rfl) rfl fun a hF=>step hF (Y.assign hF rfl) rfl fun a hF=>nT (seq (seq (region (step hF (Y.build (parts:=[]) (cs:=(arrN celN_27 (List.replicate 61 (Span.mk 0 0))).toArray) hF rfl (by kernel_rfl)) rfl fun a hF=>O.alloc 5 zc_145 hF hS rfl fun b_6 a w hF hS=>O.storeWN (F:=celN_27) 5 sz_145 List.length_replicate List.length_replicate (M:=122) (by decide) hF rfl rfl hS rfl fun a w hF hS=>nT (block (loop_cut (body:=scale_between_b3 b) (out:=out) (fun s a w=>∃ (v3_0:Bool) (l_2:(List Span)) (l_3:(List Span)) (l_4:(List Span)),∃ (Dv:Stab),∃ b_7,s=(v3_0,l_2,l_3,l_4)∧D0.le Dv∧Frm 146 [] [(1,.pointer (some ⟨b_1,0,none⟩)),(2,.pointer (some ⟨b_2,0,none⟩)),(3,.bool v3_0),(4,.pointer (some ⟨b_3,0,none⟩)),(8,.func (.func 88) #[] #[.pointer (some ⟨b_1,0,none⟩)]),(9,.pointer (some ⟨b_7,0,none⟩))] a∧St w0 D0 Dv [(1,.cells b_1 [iv b.Rule.Fast,iv b.Rule.Slow,iv b.Rule.Jerk,iv b.Rule.Drift.Low,iv b.Rule.Drift.High,iv b.Ticks,.slice p b.Steer.length c,.slice p_1 b.Looks.length c_1] 81),(2,.cells b_2 (arrN celN_27 l_4) 145),(3,.cells b_3 (arrN celN_27 l_3) 145),(5,.cells b_7 (arrN celN_27 l_2) 145)] w∧l_2.length=61∧l_3.length=61∧l_4.length=61) (false,(List.replicate 61 (Span.mk 0 0)),l_1,(List.replicate 61 (Span.mk 0 0))) h ⟨false,(List.replicate 61 (Span.mk 0 0)),l_1,(List.replicate 61 (Span.mk 0 0)),D0,b_6,rfl,Stab.le.refl _,hF.weak (AF rfl),hS.weak (AL rfl),List.length_replicate,hn_1,List.length_replicate⟩ ?_))))))))
 rintro s a w xo_2 ⟨v3_0,l_2,l_3,l_4,Dv,b_7,rfl,hlev,hF,hS,hn_2,hn_3,hn_4⟩ h hxo_2
 unfold scale_between_b3 at h
 dsimp only at h
 replace hs:=hs.mono hlev
 replace hs_1:=hs_1.mono hlev
 refine seq (seq (region (step hF (Y.loadAW (F:=celN_27) 3 sz_145 hn_3 (M:=122) (by decide) hF rfl hS rfl) rfl fun a hF=>step hF (Y.loadAW (F:=celN_27) 5 sz_145 hn_2 (M:=122) (by decide) hF rfl hS rfl) rfl fun a hF=>step hF (Y.nest (fun w=>run_equal_arrN (F:=celN_27) u_145 eqT_27 (by decide) hn_3 hn_2) (fun w=>run_eqGuard_agg _ _ _ _ _ _ _ eg_145) hF rfl rfl) rfl fun a hF=>nT (cond_b hF rfl (fun hbv_2=>?_) (fun hbv_2=>?_)))))
 ·replace h:=cond_t h hbv_2
  refine skip_ (then_n (seq (block (scope_ (seq (region (step hF (Y.loadAW (F:=celN_27) 3 sz_145 hn_3 (M:=122) (by decide) hF rfl hS rfl) rfl fun a hF=>O.storeWN (F:=celN_27) 5 sz_145 hn_2 hn_3 (M:=122) (by decide) hF rfl rfl hS rfl fun a w hF hS=>nT (seq (seq (region (step hF (Y.fieldAddr fo_81_1 hF rfl) rfl fun a hF=>step hF (Y.load1L 1 sz_3 hF rfl hS rfl rfl) rfl fun a hF=>step hF (Y.move hF rfl) rfl fun a hF=>nT (block (loop_cut (body:=scale_between_b4 b v3_0 l_3 l_4) (out:=xo_2) (fun s a w=>∃ (v48_0:Int) (l_5:(List Span)),∃ (Dv_1:Stab),s=(v48_0,l_5)∧Dv.le Dv_1∧Frm 146 [] [(1,.pointer (some ⟨b_1,0,none⟩)),(2,.pointer (some ⟨b_2,0,none⟩)),(3,.bool v3_0),(4,.pointer (some ⟨b_3,0,none⟩)),(8,.func (.func 88) #[] #[.pointer (some ⟨b_1,0,none⟩)]),(9,.pointer (some ⟨b_7,0,none⟩)),(47,iv b.Ticks),(48,iv v48_0)] a∧St w0 D0 Dv_1 [(1,.cells b_1 [iv b.Rule.Fast,iv b.Rule.Slow,iv b.Rule.Jerk,iv b.Rule.Drift.Low,iv b.Rule.Drift.High,iv b.Ticks,.slice p b.Steer.length c,.slice p_1 b.Looks.length c_1] 81),(2,.cells b_2 (arrN celN_27 l_4) 145),(3,.cells b_3 (arrN celN_27 l_5) 145),(5,.cells b_7 (arrN celN_27 l_3) 145)] w∧l_5.length=61) (0,l_3) h ⟨0,l_3,Dv,rfl,Stab.le.refl _,hF.weak (AF rfl),hS.weak (AL rfl),hn_3⟩ ?_)))))))))))))
  rintro s a w xo_3 ⟨v48_0,l_5,Dv_1,rfl,hlev_1,hF,hS,hn_5⟩ h hxo_3
  unfold scale_between_b4 at h
  dsimp only at h
  replace hs:=hs.mono hlev_1
  replace hs_1:=hs_1.mono hlev_1
  refine seq (region (step hF (Y.lss hF rfl rfl) rfl fun a hF=>nT (seq (cond_b hF rfl (fun hbv_3=>?_) (fun hbv_3=>?_)))))
  ·replace h:=cond_t h hbv_3
   refine skip_ (then_n (seq (block (seq (region (step hF (Y.move hF rfl) rfl fun a hF=>step hF (Y.assign hF rfl) rfl fun a hF=>nT (seq (region (step hF (Y.move hF rfl) rfl fun a hF=>step hF (Y.move hF rfl) rfl fun a hF=>?_)))))))))
   obtain ⟨rv_1,hx_2,h⟩:=bind_some h
   refine O.callVP (f:=88) (first:=[]) (cap:=[.pointer (some ⟨b_1,0,none⟩)]) (us:=[iv v48_0]) ca_88 hF hS rfl rfl (scale_between_1_ok hS.stab v48_0 b hs hs_1 (hS.each 1 _ rfl) rv_1 hx_2) rfl fun a w hF hS=>step hF (Y.assign hF rfl) rfl fun a hF=>nT ?_
   obtain ⟨hg_3,h⟩:=ite_some h
   obtain ⟨hg_4,h⟩:=ite_some h
   obtain ⟨hg_5,h⟩:=ite_some h
   obtain ⟨rv_2,hx_3,h⟩:=bind_some h
   refine drawsV 30 (.flt 0 (.flt 1 (.flt 2 (.flt 3 (.flt 4 (.flt 5 (.flt 6 (.flt 7 (.flt 8 (.flt 9 (.flt 10 (.flt 11 (.flt 12 (.flt 13 (.flt 14 (.flt 15 (.flt 16 (.flt 17 (.flt 18 (.flt 19 (.flt 20 (.flt 21 (.flt 22 (.flt 23 (.flt 24 (.flt 25 (.flt 26 (.flt 27 (.flt 28 (.alt 29 .done .stop)))))))))))))))))))))))))))))) mixed_ (by kernel_rfl) (fun w=>St w0 D0 Dv_1 [(1,.cells b_1 [iv b.Rule.Fast,iv b.Rule.Slow,iv b.Rule.Jerk,iv b.Rule.Drift.Low,iv b.Rule.Drift.High,iv b.Ticks,.slice p b.Steer.length c,.slice p_1 b.Looks.length c_1] 81),(2,.cells b_2 (arrN celN_27 l_4) 145),(3,.cells b_3 (arrN celN_27 l_5) 145),(5,.cells b_7 (arrN celN_27 l_3) 145)] w) (fun a w=>Frm 146 [] [(1,.pointer (some ⟨b_1,0,none⟩)),(2,.pointer (some ⟨b_2,0,none⟩)),(3,.bool v3_0),(4,.pointer (some ⟨b_3,0,none⟩)),(8,.func (.func 88) #[] #[.pointer (some ⟨b_1,0,none⟩)]),(9,.pointer (some ⟨b_7,0,none⟩)),(47,iv b.Ticks),(48,iv v48_0),(55,iv (wr (v48_0 + 1))),(83,.agg #[iv rv_2.Low,iv rv_2.High])] a∧St w0 D0 Dv_1 [(1,.cells b_1 [iv b.Rule.Fast,iv b.Rule.Slow,iv b.Rule.Jerk,iv b.Rule.Drift.Low,iv b.Rule.Drift.High,iv b.Ticks,.slice p b.Steer.length c,.slice p_1 b.Looks.length c_1] 81),(2,.cells b_2 (arrN celN_27 l_4) 145),(3,.cells b_3 (arrN celN_27 l_5) 145),(5,.cells b_7 (arrN celN_27 l_3) 145)] w) (hS.weak (ms:=[(1,.cells b_1 [iv b.Rule.Fast,iv b.Rule.Slow,iv b.Rule.Jerk,iv b.Rule.Drift.Low,iv b.Rule.Drift.High,iv b.Ticks,.slice p b.Steer.length c,.slice p_1 b.Looks.length c_1] 81),(2,.cells b_2 (arrN celN_27 l_4) 145),(3,.cells b_3 (arrN celN_27 l_5) 145),(5,.cells b_7 (arrN celN_27 l_3) 145)]) (AL rfl)).drew (fun _ _ _ _ h=>h) ?_ ?_
   ·replace hS:=hS.drew
    have hle0:=hS.le
    refine stepV (i:=0) rfl hF (fun w hS=>Y.move hF rfl) rfl fun a hF=>stepV (i:=1) rfl hF (fun w hS=>Y.add hF rfl rfl) rfl fun a hF=>stepV (i:=2) rfl hF (fun w hS=>Y.move hF rfl) rfl fun a hF=>stepV (i:=3) rfl hF (fun w hS=>Y.add hF rfl rfl) rfl fun a hF=>stepV (i:=4) rfl hF (fun w hS=>Y.indexArr u_145 sz_27 hF rfl rfl hg_3.1 hg_3.2) rfl fun a hF=>stepV (i:=5) rfl hF (fun w hS=>(show Yields _ _ _ _ (.agg #[iv ((l_5.getD (Int.toNat (wr (v48_0 + 1))) (Span.mk 0 0)).Low),iv ((l_5.getD (Int.toNat (wr (v48_0 + 1))) (Span.mk 0 0)).High)]) from Y.loadAN (F:=celN_27) 3 (Span.mk 0 0) sz_27 hn_5 hg_3 hF rfl hS rfl)) rfl fun a hF=>stepV (i:=6) rfl hF (fun w hS=>Y.move hF rfl) rfl fun a hF=>stepV (i:=7) rfl hF (fun w hS=>Y.indexArr u_145 sz_27 hF rfl rfl hg_4.1 hg_4.2) rfl fun a hF=>stepV (i:=8) rfl hF (fun w hS=>Y.fieldAddr fo_27_0 hF rfl) rfl fun a hF=>stepV (i:=9) rfl hF (fun w hS=>Y.load1AN (F:=celN_27) (k:=0) 3 (Span.mk 0 0) sz_3 hn_5 hg_4 (by decide) hF rfl hS rfl rfl) rfl fun a hF=>stepV (i:=10) rfl hF (fun w hS=>Y.move hF rfl) rfl fun a hF=>stepV (i:=11) rfl hF (fun w hS=>Y.add hF rfl rfl) rfl fun a hF=>stepV (i:=12) rfl hF (fun w hS=>Y.fieldAddr fo_81_0 hF rfl) rfl fun a hF=>stepV (i:=13) rfl hF (fun w hS=>Y.fieldAddr fo_76_3 hF rfl) rfl fun a hF=>stepV (i:=14) rfl hF (fun w hS=>Y.fieldAddr fo_27_0 hF rfl) rfl fun a hF=>stepV (i:=15) rfl hF (fun w hS=>Y.load1L 1 sz_3 hF rfl hS rfl rfl) rfl fun a hF=>stepV (i:=16) rfl hF (fun w hS=>Y.add hF rfl rfl) rfl fun a hF=>stepV (i:=17) rfl hF (fun w hS=>Y.move hF rfl) rfl fun a hF=>stepV (i:=18) rfl hF (fun w hS=>Y.indexArr u_145 sz_27 hF rfl rfl hg_5.1 hg_5.2) rfl fun a hF=>stepV (i:=19) rfl hF (fun w hS=>Y.fieldAddr fo_27_1 hF rfl) rfl fun a hF=>stepV (i:=20) rfl hF (fun w hS=>Y.load1AN (F:=celN_27) (k:=1) 3 (Span.mk 0 0) sz_3 hn_5 hg_5 (by decide) hF rfl hS rfl rfl) rfl fun a hF=>stepV (i:=21) rfl hF (fun w hS=>Y.move hF rfl) rfl fun a hF=>stepV (i:=22) rfl hF (fun w hS=>Y.add hF rfl rfl) rfl fun a hF=>stepV (i:=23) rfl hF (fun w hS=>Y.fieldAddr fo_81_0 hF rfl) rfl fun a hF=>stepV (i:=24) rfl hF (fun w hS=>Y.fieldAddr fo_76_3 hF rfl) rfl fun a hF=>stepV (i:=25) rfl hF (fun w hS=>Y.fieldAddr fo_27_1 hF rfl) rfl fun a hF=>stepV (i:=26) rfl hF (fun w hS=>Y.load1L 1 sz_3 hF rfl hS rfl rfl) rfl fun a hF=>stepV (i:=27) rfl hF (fun w hS=>Y.add hF rfl rfl) rfl fun a hF=>stepV (i:=28) rfl hF (fun w hS=>Y.build (parts:=[(0,(.tmp 70)),(1,(.tmp 81))]) (cs:=#[iv (wr ((wr (((l_5.getD (Int.toNat v48_0) (Span.mk 0 0)).Low) + rv_1)) + b.Rule.Drift.Low)),iv (wr ((wr (((l_5.getD (Int.toNat v48_0) (Span.mk 0 0)).High) + rv_1)) + b.Rule.Drift.High))]) hF rfl (by kernel_rfl)) rfl fun a hF=>oneV (i:=29) rfl ?_ trivial
    refine O.callP (us:=[.agg #[iv ((l_5.getD (Int.toNat (wr (v48_0 + 1))) (Span.mk 0 0)).Low),iv ((l_5.getD (Int.toNat (wr (v48_0 + 1))) (Span.mk 0 0)).High)],.agg #[iv (wr ((wr (((l_5.getD (Int.toNat v48_0) (Span.mk 0 0)).Low) + rv_1)) + b.Rule.Drift.Low)),iv (wr ((wr (((l_5.getD (Int.toNat v48_0) (Span.mk 0 0)).High) + rv_1)) + b.Rule.Drift.High))]]) ca_87 hF hS (scale_both_ok hS.stab (Span.mk ((l_5.getD (Int.toNat (wr (v48_0 + 1))) (Span.mk 0 0)).Low) ((l_5.getD (Int.toNat (wr (v48_0 + 1))) (Span.mk 0 0)).High)) (Span.mk (wr ((wr (((l_5.getD (Int.toNat v48_0) (Span.mk 0 0)).Low) + rv_1)) + b.Rule.Drift.Low)) (wr ((wr (((l_5.getD (Int.toNat v48_0) (Span.mk 0 0)).High) + rv_1)) + b.Rule.Drift.High))) rv_2 hx_3) rfl rfl fun a w hF hS=>nT ⟨hS.weak (AL rfl),?_⟩
    exact toTailV ⟨hF.weak (AF rfl),hS.weak (AL rfl)⟩
   rintro a w ⟨hF,hS⟩
   obtain ⟨hg_6,h⟩:=ite_some h
   refine step hF (Y.indexArr u_145 sz_27 hF rfl rfl hg_6.1 hg_6.2) rfl fun a hF=>O.storeAN (F:=celN_27) (u:=rv_2) 3 sz_27 hn_5 hg_6 hF rfl rfl hS rfl fun a w hF hS=>nil (blk_n (then_n (region (step hF (Y.add hF rfl rfl) rfl fun a hF=>step hF (Y.move hF rfl) rfl fun a hF=>nT (⟨_,nxt_some h,(wr (v48_0 + 1)),(l_5.set (Int.toNat (wr (v48_0 + 1))) rv_2),Dv_1,rfl,hlev_1,hF.weak (AF rfl),hS.weak (AL rfl),((List.length_set).trans hn_5)⟩)))))
  replace h:=cond_f h hbv_3
  refine exit_ (then_x (then_x (blk_hit (then_n ?_))))
  replace h:=ext_some h hxo_3
  refine seq (seq (region (step hF (Y.fieldAddr fo_81_1 hF rfl) rfl fun a hF=>step hF (Y.load1L 1 sz_3 hF rfl hS rfl rfl) rfl fun a hF=>step hF (Y.sub hF rfl rfl) rfl fun a hF=>step hF (Y.assign hF rfl) rfl fun a hF=>nT (block (loop_cut (body:=scale_between_b5 b v3_0 l_3 l_4) (out:=xo_2) (fun s a w=>∃ (k:Int) (l_6:(List Span)),∃ (Dv_2:Stab),s=(k,l_6)∧Dv_1.le Dv_2∧Frm 146 [] [(1,.pointer (some ⟨b_1,0,none⟩)),(2,.pointer (some ⟨b_2,0,none⟩)),(3,.bool v3_0),(4,.pointer (some ⟨b_3,0,none⟩)),(8,.func (.func 88) #[] #[.pointer (some ⟨b_1,0,none⟩)]),(9,.pointer (some ⟨b_7,0,none⟩)),(12,iv k)] a∧St w0 D0 Dv_2 [(1,.cells b_1 [iv b.Rule.Fast,iv b.Rule.Slow,iv b.Rule.Jerk,iv b.Rule.Drift.Low,iv b.Rule.Drift.High,iv b.Ticks,.slice p b.Steer.length c,.slice p_1 b.Looks.length c_1] 81),(2,.cells b_2 (arrN celN_27 l_4) 145),(3,.cells b_3 (arrN celN_27 l_6) 145),(5,.cells b_7 (arrN celN_27 l_3) 145)] w∧l_6.length=61) (wr (b.Ticks - 1),l_5) h ⟨(wr (b.Ticks - 1)),l_5,Dv_1,rfl,Stab.le.refl _,hF.weak (AF rfl),hS.weak (AL rfl),hn_5⟩ ?_)))))
  rintro s a w xo_4 ⟨k,l_6,Dv_2,rfl,hlev_2,hF,hS,hn_6⟩ h hxo_4
  unfold scale_between_b5 at h
  dsimp only at h
  replace hs:=hs.mono hlev_2
  replace hs_1:=hs_1.mono hlev_2
  refine seq (seq (region (step hF (Y.move hF rfl) rfl fun a hF=>step hF (Y.geq hF rfl rfl) rfl fun a hF=>nT (cond_b hF rfl (fun hbv_4=>?_) (fun hbv_4=>?_)))))
  ·replace h:=cond_t h hbv_4
   refine skip_ (then_n (seq (block (seq (region (step hF (Y.move hF rfl) rfl fun a hF=>step hF (Y.move hF rfl) rfl fun a hF=>?_))))))
   obtain ⟨rv_3,hx_4,h⟩:=bind_some h
   refine O.callVP (f:=88) (first:=[]) (cap:=[.pointer (some ⟨b_1,0,none⟩)]) (us:=[iv k]) ca_88 hF hS rfl rfl (scale_between_1_ok hS.stab k b hs hs_1 (hS.each 1 _ rfl) rv_3 hx_4) rfl fun a w hF hS=>step hF (Y.assign hF rfl) rfl fun a hF=>nT ?_
   obtain ⟨hg_7,h⟩:=ite_some h
   obtain ⟨hg_8,h⟩:=ite_some h
   obtain ⟨hg_9,h⟩:=ite_some h
   obtain ⟨rv_4,hx_5,h⟩:=bind_some h
   refine drawsV 30 (.flt 0 (.flt 1 (.flt 2 (.flt 3 (.flt 4 (.flt 5 (.flt 6 (.flt 7 (.flt 8 (.flt 9 (.flt 10 (.flt 11 (.flt 12 (.flt 13 (.flt 14 (.flt 15 (.flt 16 (.flt 17 (.flt 18 (.flt 19 (.flt 20 (.flt 21 (.flt 22 (.flt 23 (.flt 24 (.flt 25 (.flt 26 (.flt 27 (.flt 28 (.alt 29 .done .stop)))))))))))))))))))))))))))))) mixed_ (by kernel_rfl) (fun w=>St w0 D0 Dv_2 [(1,.cells b_1 [iv b.Rule.Fast,iv b.Rule.Slow,iv b.Rule.Jerk,iv b.Rule.Drift.Low,iv b.Rule.Drift.High,iv b.Ticks,.slice p b.Steer.length c,.slice p_1 b.Looks.length c_1] 81),(2,.cells b_2 (arrN celN_27 l_4) 145),(3,.cells b_3 (arrN celN_27 l_6) 145),(5,.cells b_7 (arrN celN_27 l_3) 145)] w) (fun a w=>Frm 146 [] [(1,.pointer (some ⟨b_1,0,none⟩)),(2,.pointer (some ⟨b_2,0,none⟩)),(3,.bool v3_0),(4,.pointer (some ⟨b_3,0,none⟩)),(8,.func (.func 88) #[] #[.pointer (some ⟨b_1,0,none⟩)]),(9,.pointer (some ⟨b_7,0,none⟩)),(12,iv k),(96,iv k),(125,.agg #[iv rv_4.Low,iv rv_4.High])] a∧St w0 D0 Dv_2 [(1,.cells b_1 [iv b.Rule.Fast,iv b.Rule.Slow,iv b.Rule.Jerk,iv b.Rule.Drift.Low,iv b.Rule.Drift.High,iv b.Ticks,.slice p b.Steer.length c,.slice p_1 b.Looks.length c_1] 81),(2,.cells b_2 (arrN celN_27 l_4) 145),(3,.cells b_3 (arrN celN_27 l_6) 145),(5,.cells b_7 (arrN celN_27 l_3) 145)] w) (hS.weak (ms:=[(1,.cells b_1 [iv b.Rule.Fast,iv b.Rule.Slow,iv b.Rule.Jerk,iv b.Rule.Drift.Low,iv b.Rule.Drift.High,iv b.Ticks,.slice p b.Steer.length c,.slice p_1 b.Looks.length c_1] 81),(2,.cells b_2 (arrN celN_27 l_4) 145),(3,.cells b_3 (arrN celN_27 l_6) 145),(5,.cells b_7 (arrN celN_27 l_3) 145)]) (AL rfl)).drew (fun _ _ _ _ h=>h) ?_ ?_
   ·replace hS:=hS.drew
    have hle0:=hS.le
    refine stepV (i:=0) rfl hF (fun w hS=>Y.move hF rfl) rfl fun a hF=>stepV (i:=1) rfl hF (fun w hS=>Y.move hF rfl) rfl fun a hF=>stepV (i:=2) rfl hF (fun w hS=>Y.indexArr u_145 sz_27 hF rfl rfl hg_7.1 hg_7.2) rfl fun a hF=>stepV (i:=3) rfl hF (fun w hS=>(show Yields _ _ _ _ (.agg #[iv ((l_6.getD (Int.toNat k) (Span.mk 0 0)).Low),iv ((l_6.getD (Int.toNat k) (Span.mk 0 0)).High)]) from Y.loadAN (F:=celN_27) 3 (Span.mk 0 0) sz_27 hn_6 hg_7 hF rfl hS rfl)) rfl fun a hF=>stepV (i:=4) rfl hF (fun w hS=>Y.move hF rfl) rfl fun a hF=>stepV (i:=5) rfl hF (fun w hS=>Y.add hF rfl rfl) rfl fun a hF=>stepV (i:=6) rfl hF (fun w hS=>Y.indexArr u_145 sz_27 hF rfl rfl hg_8.1 hg_8.2) rfl fun a hF=>stepV (i:=7) rfl hF (fun w hS=>Y.fieldAddr fo_27_0 hF rfl) rfl fun a hF=>stepV (i:=8) rfl hF (fun w hS=>Y.load1AN (F:=celN_27) (k:=0) 3 (Span.mk 0 0) sz_3 hn_6 hg_8 (by decide) hF rfl hS rfl rfl) rfl fun a hF=>stepV (i:=9) rfl hF (fun w hS=>Y.move hF rfl) rfl fun a hF=>stepV (i:=10) rfl hF (fun w hS=>Y.sub hF rfl rfl) rfl fun a hF=>stepV (i:=11) rfl hF (fun w hS=>Y.fieldAddr fo_81_0 hF rfl) rfl fun a hF=>stepV (i:=12) rfl hF (fun w hS=>Y.fieldAddr fo_76_3 hF rfl) rfl fun a hF=>stepV (i:=13) rfl hF (fun w hS=>Y.fieldAddr fo_27_1 hF rfl) rfl fun a hF=>stepV (i:=14) rfl hF (fun w hS=>Y.load1L 1 sz_3 hF rfl hS rfl rfl) rfl fun a hF=>stepV (i:=15) rfl hF (fun w hS=>Y.sub hF rfl rfl) rfl fun a hF=>stepV (i:=16) rfl hF (fun w hS=>Y.move hF rfl) rfl fun a hF=>stepV (i:=17) rfl hF (fun w hS=>Y.add hF rfl rfl) rfl fun a hF=>stepV (i:=18) rfl hF (fun w hS=>Y.indexArr u_145 sz_27 hF rfl rfl hg_9.1 hg_9.2) rfl fun a hF=>stepV (i:=19) rfl hF (fun w hS=>Y.fieldAddr fo_27_1 hF rfl) rfl fun a hF=>stepV (i:=20) rfl hF (fun w hS=>Y.load1AN (F:=celN_27) (k:=1) 3 (Span.mk 0 0) sz_3 hn_6 hg_9 (by decide) hF rfl hS rfl rfl) rfl fun a hF=>stepV (i:=21) rfl hF (fun w hS=>Y.move hF rfl) rfl fun a hF=>stepV (i:=22) rfl hF (fun w hS=>Y.sub hF rfl rfl) rfl fun a hF=>stepV (i:=23) rfl hF (fun w hS=>Y.fieldAddr fo_81_0 hF rfl) rfl fun a hF=>stepV (i:=24) rfl hF (fun w hS=>Y.fieldAddr fo_76_3 hF rfl) rfl fun a hF=>stepV (i:=25) rfl hF (fun w hS=>Y.fieldAddr fo_27_0 hF rfl) rfl fun a hF=>stepV (i:=26) rfl hF (fun w hS=>Y.load1L 1 sz_3 hF rfl hS rfl rfl) rfl fun a hF=>stepV (i:=27) rfl hF (fun w hS=>Y.sub hF rfl rfl) rfl fun a hF=>stepV (i:=28) rfl hF (fun w hS=>Y.build (parts:=[(0,(.tmp 111)),(1,(.tmp 123))]) (cs:=#[iv (wr ((wr (((l_6.getD (Int.toNat (wr (k + 1))) (Span.mk 0 0)).Low) - rv_3)) - b.Rule.Drift.High)),iv (wr ((wr (((l_6.getD (Int.toNat (wr (k + 1))) (Span.mk 0 0)).High) - rv_3)) - b.Rule.Drift.Low))]) hF rfl (by kernel_rfl)) rfl fun a hF=>oneV (i:=29) rfl ?_ trivial
    refine O.callP (us:=[.agg #[iv ((l_6.getD (Int.toNat k) (Span.mk 0 0)).Low),iv ((l_6.getD (Int.toNat k) (Span.mk 0 0)).High)],.agg #[iv (wr ((wr (((l_6.getD (Int.toNat (wr (k + 1))) (Span.mk 0 0)).Low) - rv_3)) - b.Rule.Drift.High)),iv (wr ((wr (((l_6.getD (Int.toNat (wr (k + 1))) (Span.mk 0 0)).High) - rv_3)) - b.Rule.Drift.Low))]]) ca_87 hF hS (scale_both_ok hS.stab (Span.mk ((l_6.getD (Int.toNat k) (Span.mk 0 0)).Low) ((l_6.getD (Int.toNat k) (Span.mk 0 0)).High)) (Span.mk (wr ((wr (((l_6.getD (Int.toNat (wr (k + 1))) (Span.mk 0 0)).Low) - rv_3)) - b.Rule.Drift.High)) (wr ((wr (((l_6.getD (Int.toNat (wr (k + 1))) (Span.mk 0 0)).High) - rv_3)) - b.Rule.Drift.Low))) rv_4 hx_5) rfl rfl fun a w hF hS=>nT ⟨hS.weak (AL rfl),?_⟩
    exact toTailV ⟨hF.weak (AF rfl),hS.weak (AL rfl)⟩
   rintro a w ⟨hF,hS⟩
   obtain ⟨hg_10,h⟩:=ite_some h
   refine step hF (Y.indexArr u_145 sz_27 hF rfl rfl hg_10.1 hg_10.2) rfl fun a hF=>O.storeAN (F:=celN_27) (u:=rv_4) 3 sz_27 hn_6 hg_10 hF rfl rfl hS rfl fun a w hF hS=>nil (blk_n (then_n (region (step hF (Y.move hF rfl) rfl fun a hF=>step hF (Y.sub hF rfl rfl) rfl fun a hF=>step hF (Y.assign hF rfl) rfl fun a hF=>nT (⟨_,nxt_some h,(wr (k - 1)),(l_6.set (Int.toNat k) rv_4),Dv_2,rfl,hlev_2,hF.weak (AF rfl),hS.weak (AL rfl),((List.length_set).trans hn_6)⟩)))))
  replace h:=cond_f h hbv_4
  refine exit_ (then_x (then_x (blk_hit (then_n ?_))))
  replace h:=ext_some h hxo_4
  refine seq (label_ (then_n (seq (region (step hF (Y.fieldAddr fo_81_1 hF rfl) rfl fun a hF=>step hF (Y.load1L 1 sz_3 hF rfl hS rfl rfl) rfl fun a hF=>step hF (Y.add hF rfl rfl) rfl fun a hF=>step hF (Y.move hF rfl) rfl fun a hF=>nT (block (loop_cut (body:=scale_between_b6 b l_3 l_6) (out:=xo_2) (fun s a w=>∃ (v3_1:Bool) (v130_0:Int) (l_7:(List Span)),s=(v3_1,v130_0,l_7)∧Frm 146 [] [(1,.pointer (some ⟨b_1,0,none⟩)),(2,.pointer (some ⟨b_2,0,none⟩)),(3,.bool v3_1),(4,.pointer (some ⟨b_3,0,none⟩)),(8,.func (.func 88) #[] #[.pointer (some ⟨b_1,0,none⟩)]),(9,.pointer (some ⟨b_7,0,none⟩)),(129,iv (wr (b.Ticks + 1))),(130,iv v130_0)] a∧St w0 D0 Dv_2 [(1,.cells b_1 [iv b.Rule.Fast,iv b.Rule.Slow,iv b.Rule.Jerk,iv b.Rule.Drift.Low,iv b.Rule.Drift.High,iv b.Ticks,.slice p b.Steer.length c,.slice p_1 b.Looks.length c_1] 81),(2,.cells b_2 (arrN celN_27 l_7) 145),(3,.cells b_3 (arrN celN_27 l_6) 145),(5,.cells b_7 (arrN celN_27 l_3) 145)] w∧l_7.length=61) (v3_0,0,l_4) h ⟨v3_0,0,l_4,rfl,hF.weak (AF rfl),hS.weak (AL rfl),hn_4⟩ ?_)))))))
  rintro s a w xo_5 ⟨v3_1,v130_0,l_7,rfl,hF,hS,hn_7⟩ h hxo_5
  unfold scale_between_b6 at h
  dsimp only at h
  refine seq (region (step hF (Y.lss hF rfl rfl) rfl fun a hF=>nT (seq (cond_b hF rfl (fun hbv_5=>?_) (fun hbv_5=>?_)))))
  ·replace h:=cond_t h hbv_5
   refine skip_ (then_n (seq (block (seq (region (step hF (Y.move hF rfl) rfl fun a hF=>step hF (Y.assign hF rfl) rfl fun a hF=>nT (seq (seq (draws 9 [(0,true),(1,true),(2,true),(3,true),(4,true),(5,true),(6,true),(7,true),(8,true)] mixed_ (by kernel_rfl) (fun w=>St w0 D0 Dv_2 _ w) hS.drew (fun _ _ _ _ h=>h) ?_)))))))))
   replace hS:=hS.drew
   refine stepT (i:=0) rfl hF (fun w hS=>Y.move hF rfl) rfl fun a hF=>?_
   obtain ⟨hg_11,h⟩:=ite_some h
   refine stepT (i:=1) rfl hF (fun w hS=>Y.indexArr u_145 sz_27 hF rfl rfl hg_11.1 hg_11.2) rfl fun a hF=>stepT (i:=2) rfl hF (fun w hS=>Y.fieldAddr fo_27_0 hF rfl) rfl fun a hF=>stepT (i:=3) rfl hF (fun w hS=>Y.load1AN (F:=celN_27) (k:=0) 3 (Span.mk 0 0) sz_3 hn_6 hg_11 (by decide) hF rfl hS rfl rfl) rfl fun a hF=>stepT (i:=4) rfl hF (fun w hS=>Y.move hF rfl) rfl fun a hF=>?_
   obtain ⟨hg_12,h⟩:=ite_some h
   refine stepT (i:=5) rfl hF (fun w hS=>Y.indexArr u_145 sz_27 hF rfl rfl hg_12.1 hg_12.2) rfl fun a hF=>stepT (i:=6) rfl hF (fun w hS=>Y.fieldAddr fo_27_1 hF rfl) rfl fun a hF=>stepT (i:=7) rfl hF (fun w hS=>Y.load1AN (F:=celN_27) (k:=1) 3 (Span.mk 0 0) sz_3 hn_6 hg_12 (by decide) hF rfl hS rfl rfl) rfl fun a hF=>stepT (i:=8) rfl hF (fun w hS=>Y.leq hF rfl rfl) rfl fun a hF=>toTail (nT (cond_b hF rfl (fun hbv_6=>?_) (fun hbv_6=>?_)))
   ·replace h:=cond_t h hbv_6
    refine exit_ (then_x (blk_hit (then_n (region (step hF (Y.add hF rfl rfl) rfl fun a hF=>step hF (Y.move hF rfl) rfl fun a hF=>nT (⟨_,nxt_some h,v3_1,(wr (v130_0 + 1)),l_7,rfl,hF.weak (AF rfl),hS.weak (AL rfl),hn_7⟩))))))
   replace h:=cond_f h hbv_6
   refine skip_ (then_n (seq (region (step hF (Y.loadAW (F:=celN_27) 3 sz_145 hn_6 (M:=122) (by decide) hF rfl hS rfl) rfl fun a hF=>O.storeWN (F:=celN_27) 2 sz_145 hn_7 hn_6 (M:=122) (by decide) hF rfl rfl hS rfl fun a w hF hS=>step hF (Y.assign hF rfl) rfl fun a hF=>nT (ret_ (blk_r (then_r (then_r (blk_r (scp_r (blk_r (then_r (then_r (blk_r (then_r ?_)))))))))))))))
   replace h:=ext_some h hxo_5
   replace h:=ext_some h hxo_2
   obtain rfl:=some_inj h
   exact leaveS Tryz.results80 hF hS (.cons (.cellN 2 sz_145 rfl rfl ((arrN_len _).trans (by rw [hn_6]))) (.cons (.tmp rfl) .nil)) .nil ⟨rfl,hn_6⟩
  replace h:=cond_f h hbv_5
  refine exit_ (then_x (then_x (blk_hit (scp_n (blk_n (then_n ?_))))))
  replace h:=ext_some h hxo_5
  refine seq (region (step hF (Y.loadAW (F:=celN_27) 5 sz_145 hn_3 (M:=122) (by decide) hF rfl hS rfl) rfl fun a hF=>nT (region (O.alloc 6 zc_145 hF hS rfl fun b_8 a w hF hS=>O.storeWN (F:=celN_27) 6 sz_145 List.length_replicate hn_3 (M:=122) (by decide) hF rfl rfl hS rfl fun a w hF hS=>nT ?_))))
  replace hS:=hS.move 5 6 rfl (by decide)
  exact ⟨_,nxt_some h,v3_1,l_3,l_6,l_7,Dv_2,b_8,rfl,hlev.trans (hlev_1.trans hlev_2),hF.weak (AF rfl),hS.weak (AL rfl),hn_3,hn_6,hn_7⟩
 replace h:=cond_f h hbv_2
 refine exit_ (then_x (then_x (blk_hit (then_n ?_))))
 replace h:=ext_some h hxo_2
 refine seq (region (step hF (Y.loadAW (F:=celN_27) 3 sz_145 hn_3 (M:=122) (by decide) hF rfl hS rfl) rfl fun a hF=>O.storeWN (F:=celN_27) 2 sz_145 hn_4 hn_3 (M:=122) (by decide) hF rfl rfl hS rfl fun a w hF hS=>step hF (Y.assign hF rfl) rfl fun a hF=>nT (ret_ ?_)))
 obtain rfl:=some_inj h
 exact leaveS Tryz.results80 hF hS (.cons (.cellN 2 sz_145 rfl rfl ((arrN_len _).trans (by rw [hn_3]))) (.cons (.tmp rfl) .nil)) .nil ⟨rfl,hn_3⟩
noncomputable def scale_asked (b:ScaleBook) (right:Bool):Option ((List Span) × Int):=
  (scale_Check b).bind fun rv=>
  cond (rv != 0)
  (some ((List.replicate 61 (Span.mk 0 0)),rv))
  (cond (!right)
  (some ((List.replicate 61 (Span.mk 0 0)),41))
  ((scale_between b).bind fun rv_1=>
  cond (!rv_1.2)
  (some ((List.replicate 61 (Span.mk 0 0)),42))
  (some (rv_1.1,0))))
theorem scale_asked_ok {w0:World} {D0:Stab} (hD:D0.on w0) (b:ScaleBook) (right:Bool) {p:Option Addr} {c:Nat} {p_1:Option Addr} {c_1:Nat} (hs:SRc C_int D0 b.Steer p c) (hs_1:SRc C_ScaleLook D0 b.Looks p_1 c_1) (out:((List Span) × Int)) (h:scale_asked b right=some out):Calls Tryz.prog 65 [.agg #[iv b.Rule.Fast,iv b.Rule.Slow,iv b.Rule.Jerk,iv b.Rule.Drift.Low,iv b.Rule.Drift.High,iv b.Ticks,.slice p b.Steer.length c,.slice p_1 b.Looks.length c_1],.bool right].toArray w0 (RetS D0 w0 fun D v=>v=.tuple #[.agg (arrN celN_27 out.1).toArray,iv out.2]∧out.1.length=61):=by
 refine enter _ 27 Tryz.func65 rfl Tryz.ntmps65 rfl fun a hF=>?_
 replace hF:Frm 27 [] [(0,.agg #[iv b.Rule.Fast,iv b.Rule.Slow,iv b.Rule.Jerk,iv b.Rule.Drift.Low,iv b.Rule.Drift.High,iv b.Ticks,.slice p b.Steer.length c,.slice p_1 b.Looks.length c_1]),(1,.bool right)] a:=hF
 have hS:=St.start hD
 unfold scale_asked at h
 refine seq (region (O.box (cs:=[iv b.Rule.Fast,iv b.Rule.Slow,iv b.Rule.Jerk,iv b.Rule.Drift.Low,iv b.Rule.Drift.High,iv b.Ticks,.slice p b.Steer.length c,.slice p_1 b.Looks.length c_1]) 1 hF rfl rfl hS rfl fun b_1 a w hF hS=>O.alloc 2 zc_145 hF hS rfl fun b_2 a w hF hS=>step hF (Y.assign hF rfl) rfl fun a hF=>nT (seq (seq (region (step hF (Y.loadNL 1 sz_81 hF rfl hS rfl rfl rfl) rfl fun a hF=>?_))))))
 obtain ⟨rv,hx,h⟩:=bind_some h
 refine O.callP (us:=[.agg #[iv b.Rule.Fast,iv b.Rule.Slow,iv b.Rule.Jerk,iv b.Rule.Drift.Low,iv b.Rule.Drift.High,iv b.Ticks,.slice p b.Steer.length c,.slice p_1 b.Looks.length c_1]]) ca_79 hF hS (scale_Check_ok hS.stab b hs hs_1 rv hx) rfl rfl fun a w hF hS=>step hF (Y.assign hF rfl) rfl fun a hF=>nT (seq (region (step hF (Y.move hF rfl) rfl fun a hF=>step hF (Y.neq hF rfl rfl) rfl fun a hF=>nT (cond_b hF rfl (fun hbv=>?_) (fun hbv=>?_)))))
 ·replace h:=cond_t h hbv
  refine seq (region (step hF (Y.build (parts:=[]) (cs:=(arrN celN_27 (List.replicate 61 (Span.mk 0 0))).toArray) hF rfl (by kernel_rfl)) rfl fun a hF=>step hF (Y.move hF rfl) rfl fun a hF=>O.storeWN (F:=celN_27) 2 sz_145 List.length_replicate List.length_replicate (M:=122) (by decide) hF rfl rfl hS rfl fun a w hF hS=>step hF (Y.assign hF rfl) rfl fun a hF=>nT (ret_ (then_r ?_))))
  obtain rfl:=some_inj h
  exact leaveS Tryz.results65 hF hS (.cons (.cellN 2 sz_145 rfl rfl ((arrN_len _).trans (by rw [List.length_replicate]))) (.cons (.tmp rfl) .nil)) .nil ⟨rfl,List.length_replicate⟩
 replace h:=cond_f h hbv
 refine skip_ (then_n (seq (seq (region (step hF (Y.move hF rfl) rfl fun a hF=>step hF (Y.not hF rfl) rfl fun a hF=>nT (cond_b hF rfl (fun hbv_1=>?_) (fun hbv_1=>?_)))))))
 ·replace h:=cond_t h hbv_1
  refine seq (region (step hF (Y.build (parts:=[]) (cs:=(arrN celN_27 (List.replicate 61 (Span.mk 0 0))).toArray) hF rfl (by kernel_rfl)) rfl fun a hF=>O.storeWN (F:=celN_27) 2 sz_145 List.length_replicate List.length_replicate (M:=122) (by decide) hF rfl rfl hS rfl fun a w hF hS=>step hF (Y.assign hF rfl) rfl fun a hF=>nT (ret_ (then_r ?_))))
  obtain rfl:=some_inj h
  exact leaveS Tryz.results65 hF hS (.cons (.cellN 2 sz_145 rfl rfl ((arrN_len _).trans (by rw [List.length_replicate]))) (.cons (.tmp rfl) .nil)) .nil ⟨rfl,List.length_replicate⟩
 replace h:=cond_f h hbv_1
 refine skip_ (then_n (seq (region (step hF (Y.loadNL 1 sz_81 hF rfl hS rfl rfl rfl) rfl fun a hF=>?_))))
 obtain ⟨rv_1,hx_1,h⟩:=bind_some h
 refine O.callS (us:=[.agg #[iv b.Rule.Fast,iv b.Rule.Slow,iv b.Rule.Jerk,iv b.Rule.Drift.Low,iv b.Rule.Drift.High,iv b.Ticks,.slice p b.Steer.length c,.slice p_1 b.Looks.length c_1]]) ca_80 hF hS (scale_between_ok hS.stab b hs hs_1 rv_1 hx_1) rfl rfl fun v Dv a w hR hlev hF hS=>?_
 obtain ⟨rfl,hn⟩:=hR
 refine step hF (Y.move hF rfl) rfl fun a hF=>step hF (Y.extract hF rfl rfl) rfl fun a hF=>step hF (Y.extract hF rfl rfl) rfl fun a hF=>O.alloc 3 zc_145 hF hS rfl fun b_3 a w hF hS=>O.storeWN (F:=celN_27) 3 sz_145 List.length_replicate hn (M:=122) (by decide) hF rfl rfl hS rfl fun a w hF hS=>step hF (Y.assign hF rfl) rfl fun a hF=>nT (seq (seq (region (step hF (Y.move hF rfl) rfl fun a hF=>step hF (Y.not hF rfl) rfl fun a hF=>nT (cond_b hF rfl (fun hbv_2=>?_) (fun hbv_2=>?_))))))
 ·replace h:=cond_t h hbv_2
  refine seq (region (step hF (Y.build (parts:=[]) (cs:=(arrN celN_27 (List.replicate 61 (Span.mk 0 0))).toArray) hF rfl (by kernel_rfl)) rfl fun a hF=>O.storeWN (F:=celN_27) 2 sz_145 List.length_replicate List.length_replicate (M:=122) (by decide) hF rfl rfl hS rfl fun a w hF hS=>step hF (Y.assign hF rfl) rfl fun a hF=>nT (ret_ (then_r ?_))))
  obtain rfl:=some_inj h
  exact leaveS Tryz.results65 hF hS (.cons (.cellN 2 sz_145 rfl rfl ((arrN_len _).trans (by rw [List.length_replicate]))) (.cons (.tmp rfl) .nil)) .nil ⟨rfl,List.length_replicate⟩
 replace h:=cond_f h hbv_2
 refine skip_ (then_n (seq (region (step hF (Y.loadAW (F:=celN_27) 3 sz_145 hn (M:=122) (by decide) hF rfl hS rfl) rfl fun a hF=>O.storeWN (F:=celN_27) 2 sz_145 List.length_replicate hn (M:=122) (by decide) hF rfl rfl hS rfl fun a w hF hS=>step hF (Y.assign hF rfl) rfl fun a hF=>nT (ret_ ?_)))))
 obtain rfl:=some_inj h
 exact leaveS Tryz.results65 hF hS (.cons (.cellN 2 sz_145 rfl rfl ((arrN_len _).trans (by rw [hn]))) (.cons (.tmp rfl) .nil)) .nil ⟨rfl,hn⟩
noncomputable def scale_Error (b:ScaleBook) (tick:Int):Option (Span × Int):=
  (scale_lies tick 0 b.Ticks).bind fun rv=>
  (scale_asked b rv).bind fun rv_1=>
  cond (rv_1.2 != 0)
  (some ((Span.mk 0 0),rv_1.2))
  (if (0:Int)≤tick∧tick < ((61:Nat):Int) then
  some ((Span.mk ((rv_1.1.getD (Int.toNat tick) (Span.mk 0 0)).Low) ((rv_1.1.getD (Int.toNat tick) (Span.mk 0 0)).High)),0)
  else none)
theorem scale_Error_ok {w0:World} {D0:Stab} (hD:D0.on w0) (b:ScaleBook) (tick:Int) {p:Option Addr} {c:Nat} {p_1:Option Addr} {c_1:Nat} (hs:SRc C_int D0 b.Steer p c) (hs_1:SRc C_ScaleLook D0 b.Looks p_1 c_1) (out:(Span × Int)) (h:scale_Error b tick=some out):Calls Tryz.prog 47 [.agg #[iv b.Rule.Fast,iv b.Rule.Slow,iv b.Rule.Jerk,iv b.Rule.Drift.Low,iv b.Rule.Drift.High,iv b.Ticks,.slice p b.Steer.length c,.slice p_1 b.Looks.length c_1],iv tick].toArray w0 (RetP D0 w0 (.tuple #[.agg #[iv out.1.Low,iv out.1.High],iv out.2])):=by
 refine enter _ 24 Tryz.func47 rfl Tryz.ntmps47 rfl fun a hF=>?_
 replace hF:Frm 24 [] [(0,.agg #[iv b.Rule.Fast,iv b.Rule.Slow,iv b.Rule.Jerk,iv b.Rule.Drift.Low,iv b.Rule.Drift.High,iv b.Ticks,.slice p b.Steer.length c,.slice p_1 b.Looks.length c_1]),(1,iv tick)] a:=hF
 have hS:=St.start hD
 unfold scale_Error at h
 refine seq (region (O.box (cs:=[iv b.Rule.Fast,iv b.Rule.Slow,iv b.Rule.Jerk,iv b.Rule.Drift.Low,iv b.Rule.Drift.High,iv b.Ticks,.slice p b.Steer.length c,.slice p_1 b.Looks.length c_1]) 1 hF rfl rfl hS rfl fun b_1 a w hF hS=>O.alloc 2 zc_27 hF hS rfl fun b_2 a w hF hS=>step hF (Y.assign hF rfl) rfl fun a hF=>nT (seq ?_)))
 obtain ⟨rv,hx,h⟩:=bind_some h
 obtain ⟨rv_1,hx_1,h⟩:=bind_some h
 refine drawsV 11 (.flt 0 (.flt 1 (.flt 2 (.flt 3 (.alt 4 (.alt 5 (.flt 6 (.flt 7 (.flt 8 (.alt 9 (.alt 10 .done .stop) .stop)))) (.alt 9 (.alt 5 (.flt 6 (.flt 7 (.flt 8 (.alt 10 .done .stop)))) .stop) .stop)) (.alt 9 (.alt 4 (.alt 5 (.flt 6 (.flt 7 (.flt 8 (.alt 10 .done .stop)))) .stop) .stop) .stop)))))) mixed_ (by kernel_rfl) (fun w=>St w0 D0 D0 [(1,.cells b_1 [iv b.Rule.Fast,iv b.Rule.Slow,iv b.Rule.Jerk,iv b.Rule.Drift.Low,iv b.Rule.Drift.High,iv b.Ticks,.slice p b.Steer.length c,.slice p_1 b.Looks.length c_1] 81),(2,.cells b_2 [iv 0,iv 0] 27)] w) (fun a w=>∃ (Dv_1:Stab) (b_3:Nat),D0.le Dv_1∧Frm 24 [] [(1,iv tick),(4,.pointer (some ⟨b_2,0,none⟩)),(5,iv 0),(6,.pointer (some ⟨b_3,0,none⟩)),(16,iv rv_1.2)] a∧St w0 D0 Dv_1 [(1,.cells b_1 [iv b.Rule.Fast,iv b.Rule.Slow,iv b.Rule.Jerk,iv b.Rule.Drift.Low,iv b.Rule.Drift.High,iv b.Ticks,.slice p b.Steer.length c,.slice p_1 b.Looks.length c_1] 81),(2,.cells b_2 [iv 0,iv 0] 27),(3,.cells b_3 (arrN celN_27 rv_1.1) 145)] w∧rv_1.1.length=61) (hS.weak (ms:=[(1,.cells b_1 [iv b.Rule.Fast,iv b.Rule.Slow,iv b.Rule.Jerk,iv b.Rule.Drift.Low,iv b.Rule.Drift.High,iv b.Ticks,.slice p b.Steer.length c,.slice p_1 b.Looks.length c_1] 81),(2,.cells b_2 [iv 0,iv 0] 27)]) ⟨rfl,rfl,trivial⟩).drew (fun _ _ _ _ h=>h) ?_ ?_
 ·replace hS:=hS.drew
  have hle0:=hS.le
  refine stepV (i:=0) rfl hF (fun w hS=>Y.loadNL 1 sz_81 hF rfl hS rfl rfl rfl) rfl fun a hF=>stepV (i:=1) rfl hF (fun w hS=>Y.move hF rfl) rfl fun a hF=>stepV (i:=2) rfl hF (fun w hS=>Y.fieldAddr fo_81_1 hF rfl) rfl fun a hF=>stepV (i:=3) rfl hF (fun w hS=>Y.load1L 1 sz_3 hF rfl hS rfl rfl) rfl fun a hF=>oneV (i:=4) rfl ?_ ?_
  ·skip
   refine O.callP (us:=[iv tick,iv 0,iv b.Ticks]) ca_66 hF hS (scale_lies_ok hS.stab tick 0 b.Ticks rv hx) rfl rfl fun a w hF hS=>nT ⟨hS.weak ⟨rfl,rfl,trivial⟩,?_⟩
   refine oneV (i:=5) rfl ?_ ?_
   ·skip
    refine O.callS (us:=[.agg #[iv b.Rule.Fast,iv b.Rule.Slow,iv b.Rule.Jerk,iv b.Rule.Drift.Low,iv b.Rule.Drift.High,iv b.Ticks,.slice p b.Steer.length c,.slice p_1 b.Looks.length c_1],.bool rv]) ca_65 hF hS (scale_asked_ok hS.stab b rv hs hs_1 rv_1 hx_1) rfl rfl fun v_1 Dv_2 a w hR_1 hlev_1 hF hS=>?_
    obtain ⟨rfl,hn_1⟩:=hR_1
    refine nT ⟨(hS.weak (ms:=[(1,.cells b_1 [iv b.Rule.Fast,iv b.Rule.Slow,iv b.Rule.Jerk,iv b.Rule.Drift.Low,iv b.Rule.Drift.High,iv b.Ticks,.slice p b.Steer.length c,.slice p_1 b.Looks.length c_1] 81),(2,.cells b_2 [iv 0,iv 0] 27)]) ⟨rfl,rfl,trivial⟩).weakD hlev_1 hle0,?_⟩
    refine stepV (i:=6) rfl hF (fun w hS=>Y.move hF rfl) rfl fun a hF=>stepV (i:=7) rfl hF (fun w hS=>Y.extract hF rfl rfl) rfl fun a hF=>stepV (i:=8) rfl hF (fun w hS=>Y.extract hF rfl rfl) rfl fun a hF=>oneV (i:=9) rfl ?_ trivial
    refine O.alloc 3 zc_145 hF hS rfl fun b_4 a w hF hS=>nT ⟨(hS.weak (ms:=[(1,.cells b_1 [iv b.Rule.Fast,iv b.Rule.Slow,iv b.Rule.Jerk,iv b.Rule.Drift.Low,iv b.Rule.Drift.High,iv b.Ticks,.slice p b.Steer.length c,.slice p_1 b.Looks.length c_1] 81),(2,.cells b_2 [iv 0,iv 0] 27)]) ⟨rfl,rfl,trivial⟩).weakD hlev_1 hle0,?_⟩
    refine oneV (i:=10) rfl ?_ trivial
    refine O.storeWN (F:=celN_27) 3 sz_145 List.length_replicate hn_1 (M:=122) (by decide) hF rfl rfl hS rfl fun a w hF hS=>nT ⟨(hS.weak (ms:=[(1,.cells b_1 [iv b.Rule.Fast,iv b.Rule.Slow,iv b.Rule.Jerk,iv b.Rule.Drift.Low,iv b.Rule.Drift.High,iv b.Ticks,.slice p b.Steer.length c,.slice p_1 b.Looks.length c_1] 81),(2,.cells b_2 [iv 0,iv 0] 27)]) ⟨rfl,rfl,trivial⟩).weakD hlev_1 hle0,?_⟩
    exact toTailV ⟨Dv_2,b_4,hlev_1,hF.weak (AF rfl),hS.weak (AL rfl),hn_1⟩
   refine oneV (i:=9) rfl ?_ trivial
   refine O.alloc 3 zc_145 hF hS rfl fun b_5 a w hF hS=>nT ⟨hS.weak ⟨rfl,rfl,trivial⟩,?_⟩
   refine oneV (i:=5) rfl ?_ trivial
   refine O.callS (us:=[.agg #[iv b.Rule.Fast,iv b.Rule.Slow,iv b.Rule.Jerk,iv b.Rule.Drift.Low,iv b.Rule.Drift.High,iv b.Ticks,.slice p b.Steer.length c,.slice p_1 b.Looks.length c_1],.bool rv]) ca_65 hF hS (scale_asked_ok hS.stab b rv hs hs_1 rv_1 hx_1) rfl rfl fun v_2 Dv_3 a w hR_2 hlev_2 hF hS=>?_
   obtain ⟨rfl,hn_2⟩:=hR_2
   refine nT ⟨(hS.weak (ms:=[(1,.cells b_1 [iv b.Rule.Fast,iv b.Rule.Slow,iv b.Rule.Jerk,iv b.Rule.Drift.Low,iv b.Rule.Drift.High,iv b.Ticks,.slice p b.Steer.length c,.slice p_1 b.Looks.length c_1] 81),(2,.cells b_2 [iv 0,iv 0] 27)]) ⟨rfl,rfl,trivial⟩).weakD hlev_2 hle0,?_⟩
   refine stepV (i:=6) rfl hF (fun w hS=>Y.move hF rfl) rfl fun a hF=>stepV (i:=7) rfl hF (fun w hS=>Y.extract hF rfl rfl) rfl fun a hF=>stepV (i:=8) rfl hF (fun w hS=>Y.extract hF rfl rfl) rfl fun a hF=>oneV (i:=10) rfl ?_ trivial
   refine O.storeWN (F:=celN_27) 3 sz_145 List.length_replicate hn_2 (M:=122) (by decide) hF rfl rfl hS rfl fun a w hF hS=>nT ⟨(hS.weak (ms:=[(1,.cells b_1 [iv b.Rule.Fast,iv b.Rule.Slow,iv b.Rule.Jerk,iv b.Rule.Drift.Low,iv b.Rule.Drift.High,iv b.Ticks,.slice p b.Steer.length c,.slice p_1 b.Looks.length c_1] 81),(2,.cells b_2 [iv 0,iv 0] 27)]) ⟨rfl,rfl,trivial⟩).weakD hlev_2 hle0,?_⟩
   exact toTailV ⟨Dv_3,b_5,hlev_2,hF.weak (AF rfl),hS.weak (AL rfl),hn_2⟩
  refine oneV (i:=9) rfl ?_ trivial
  refine O.alloc 3 zc_145 hF hS rfl fun b_6 a w hF hS=>nT ⟨hS.weak ⟨rfl,rfl,trivial⟩,?_⟩
  refine oneV (i:=4) rfl ?_ trivial
  refine O.callP (us:=[iv tick,iv 0,iv b.Ticks]) ca_66 hF hS (scale_lies_ok hS.stab tick 0 b.Ticks rv hx) rfl rfl fun a w hF hS=>nT ⟨hS.weak ⟨rfl,rfl,trivial⟩,?_⟩
  refine oneV (i:=5) rfl ?_ trivial
  refine O.callS (us:=[.agg #[iv b.Rule.Fast,iv b.Rule.Slow,iv b.Rule.Jerk,iv b.Rule.Drift.Low,iv b.Rule.Drift.High,iv b.Ticks,.slice p b.Steer.length c,.slice p_1 b.Looks.length c_1],.bool rv]) ca_65 hF hS (scale_asked_ok hS.stab b rv hs hs_1 rv_1 hx_1) rfl rfl fun v_3 Dv_4 a w hR_3 hlev_3 hF hS=>?_
  obtain ⟨rfl,hn_3⟩:=hR_3
  refine nT ⟨(hS.weak (ms:=[(1,.cells b_1 [iv b.Rule.Fast,iv b.Rule.Slow,iv b.Rule.Jerk,iv b.Rule.Drift.Low,iv b.Rule.Drift.High,iv b.Ticks,.slice p b.Steer.length c,.slice p_1 b.Looks.length c_1] 81),(2,.cells b_2 [iv 0,iv 0] 27)]) ⟨rfl,rfl,trivial⟩).weakD hlev_3 hle0,?_⟩
  refine stepV (i:=6) rfl hF (fun w hS=>Y.move hF rfl) rfl fun a hF=>stepV (i:=7) rfl hF (fun w hS=>Y.extract hF rfl rfl) rfl fun a hF=>stepV (i:=8) rfl hF (fun w hS=>Y.extract hF rfl rfl) rfl fun a hF=>oneV (i:=10) rfl ?_ trivial
  refine O.storeWN (F:=celN_27) 3 sz_145 List.length_replicate hn_3 (M:=122) (by decide) hF rfl rfl hS rfl fun a w hF hS=>nT ⟨(hS.weak (ms:=[(1,.cells b_1 [iv b.Rule.Fast,iv b.Rule.Slow,iv b.Rule.Jerk,iv b.Rule.Drift.Low,iv b.Rule.Drift.High,iv b.Ticks,.slice p b.Steer.length c,.slice p_1 b.Looks.length c_1] 81),(2,.cells b_2 [iv 0,iv 0] 27)]) ⟨rfl,rfl,trivial⟩).weakD hlev_3 hle0,?_⟩
  exact toTailV ⟨Dv_4,b_6,hlev_3,hF.weak (AF rfl),hS.weak (AL rfl),hn_3⟩
 rintro a w ⟨Dv_1,b_3,hle,hF,hS,hj⟩
 have hlev_4:=hle
 refine step hF (Y.assign hF rfl) rfl fun a hF=>nT (seq (seq (region (step hF (Y.move hF rfl) rfl fun a hF=>step hF (Y.neq hF rfl rfl) rfl fun a hF=>nT (cond_b hF rfl (fun hbv=>?_) (fun hbv=>?_))))))
 ·replace h:=cond_t h hbv
  refine seq (region (step hF (Y.build (parts:=[]) (cs:=#[iv 0,iv 0]) hF rfl (by kernel_rfl)) rfl fun a hF=>step hF (Y.move hF rfl) rfl fun a hF=>O.store (us:=[iv 0,iv 0]) 2 sz_27 hF rfl rfl rfl rfl hS rfl rfl fun a w hF hS=>step hF (Y.assign hF rfl) rfl fun a hF=>nT (ret_ (then_r ?_))))
  obtain rfl:=some_inj h
  exact leaveP Tryz.results47 hF hS (.cons (.cellN 2 sz_27 rfl rfl rfl) (.cons (.tmp rfl) .nil)) .nil rfl
 replace h:=cond_f h hbv
 refine skip_ (then_n (seq (region (step hF (Y.move hF rfl) rfl fun a hF=>?_))))
 obtain ⟨hg,h⟩:=ite_some h
 refine step hF (Y.indexArr u_145 sz_27 hF rfl rfl hg.1 hg.2) rfl fun a hF=>step hF ((show Yields _ _ _ _ (.agg #[iv ((rv_1.1.getD (Int.toNat tick) (Span.mk 0 0)).Low),iv ((rv_1.1.getD (Int.toNat tick) (Span.mk 0 0)).High)]) from Y.loadAN (F:=celN_27) 3 (Span.mk 0 0) sz_27 hj hg hF rfl hS rfl)) rfl fun a hF=>O.store (us:=[iv ((rv_1.1.getD (Int.toNat tick) (Span.mk 0 0)).Low),iv ((rv_1.1.getD (Int.toNat tick) (Span.mk 0 0)).High)]) 2 sz_27 hF rfl rfl rfl rfl hS rfl rfl fun a w hF hS=>step hF (Y.assign hF rfl) rfl fun a hF=>nT (ret_ ?_)
 obtain rfl:=some_inj h
 exact leaveP Tryz.results47 hF hS (.cons (.cellN 2 sz_27 rfl rfl rfl) (.cons (.tmp rfl) .nil)) .nil rfl
noncomputable def scale_stated_1 (sv:Span):Option Int:=
  some sv.Low
theorem scale_stated_1_ok {w0:World} {D0:Stab} (hD:D0.on w0) (sv:Span) (out:Int) (h:scale_stated_1 sv=some out):Calls Tryz.prog 67 [.agg #[iv sv.Low,iv sv.High]].toArray w0 (RetP D0 w0 (iv out)):=by
 refine enter _ 5 Tryz.func67 rfl Tryz.ntmps67 rfl fun a hF=>?_
 replace hF:Frm 5 [] [(0,.agg #[iv sv.Low,iv sv.High])] a:=hF
 have hS:=St.start hD
 unfold scale_stated_1 at h
 refine seq (region (O.box (cs:=[iv sv.Low,iv sv.High]) 1 hF rfl rfl hS rfl fun b a w hF hS=>step hF (Y.assign hF rfl) rfl fun a hF=>nT (seq (region (step hF (Y.fieldAddr fo_27_0 hF rfl) rfl fun a hF=>step hF (Y.load1L 1 sz_3 hF rfl hS rfl rfl) rfl fun a hF=>step hF (Y.assign hF rfl) rfl fun a hF=>nT (ret_ ?_))))))
 obtain rfl:=some_inj h
 exact leaveP Tryz.results67 hF hS (.cons (.tmp rfl) .nil) .nil rfl
noncomputable def scale_stated_2 (sv:Span):Option Int:=
  some sv.High
theorem scale_stated_2_ok {w0:World} {D0:Stab} (hD:D0.on w0) (sv:Span) (out:Int) (h:scale_stated_2 sv=some out):Calls Tryz.prog 68 [.agg #[iv sv.Low,iv sv.High]].toArray w0 (RetP D0 w0 (iv out)):=by
 refine enter _ 5 Tryz.func68 rfl Tryz.ntmps68 rfl fun a hF=>?_
 replace hF:Frm 5 [] [(0,.agg #[iv sv.Low,iv sv.High])] a:=hF
 have hS:=St.start hD
 unfold scale_stated_2 at h
 refine seq (region (O.box (cs:=[iv sv.Low,iv sv.High]) 1 hF rfl rfl hS rfl fun b a w hF hS=>step hF (Y.assign hF rfl) rfl fun a hF=>nT (seq (region (step hF (Y.fieldAddr fo_27_1 hF rfl) rfl fun a hF=>step hF (Y.load1L 1 sz_3 hF rfl hS rfl rfl) rfl fun a hF=>step hF (Y.assign hF rfl) rfl fun a hF=>nT (ret_ ?_))))))
 obtain rfl:=some_inj h
 exact leaveP Tryz.results68 hF hS (.cons (.tmp rfl) .nil) .nil rfl
noncomputable def scale_stated (sv:Span):Option Int:=
  (scale_stated_1 sv).bind fun rv=>
  (scale_stated_2 sv).bind fun rv_1=>
  some (if rv_1 > wr (0 - rv) then rv_1 else wr (0 - rv))
theorem scale_stated_ok {w0:World} {D0:Stab} (hD:D0.on w0) (sv:Span) (out:Int) (h:scale_stated sv=some out):Calls Tryz.prog 48 [.agg #[iv sv.Low,iv sv.High]].toArray w0 (RetP D0 w0 (iv out)):=by
 refine enter _ 17 Tryz.func48 rfl Tryz.ntmps48 rfl fun a hF=>?_
 replace hF:Frm 17 [] [(0,.agg #[iv sv.Low,iv sv.High])] a:=hF
 have hS:=St.start hD
 unfold scale_stated at h
 refine seq (region (O.box (cs:=[iv sv.Low,iv sv.High]) 1 hF rfl rfl hS rfl fun b a w hF hS=>step hF (Y.assign hF rfl) rfl fun a hF=>nT (seq (region (step hF (Y.build (parts:=[(0,(.func 67))]) (cs:=#[.func (.func 67) #[] #[]]) hF rfl (by kernel_rfl)) rfl fun a hF=>step hF (Y.build (parts:=[(0,(.func 68))]) (cs:=#[.func (.func 68) #[] #[]]) hF rfl (by kernel_rfl)) rfl fun a hF=>O.alloc 2 zc_149 hF hS rfl fun b_1 a w hF hS=>O.alloc 3 zc_149 hF hS rfl fun b_2 a w hF hS=>O.store (us:=[.func (.func 67) #[] #[]]) 2 sz_149 hF rfl rfl rfl rfl hS rfl rfl fun a w hF hS=>O.store (us:=[.func (.func 68) #[] #[]]) 3 sz_149 hF rfl rfl rfl rfl hS rfl rfl fun a w hF hS=>nT (seq ?_))))))
 obtain ⟨rv,hx,h⟩:=bind_some h
 obtain ⟨rv_1,hx_1,h⟩:=bind_some h
 refine drawsV 9 (.flt 0 (.flt 1 (.flt 2 (.flt 5 (.flt 6 (.flt 7 (.alt 3 (.flt 4 (.alt 8 .done .stop)) .stop))))))) mixed_ (by kernel_rfl) (fun w=>St w0 D0 D0 [(1,.cells b [iv sv.Low,iv sv.High] 27),(2,.cells b_1 [.func (.func 67) #[] #[]] 149),(3,.cells b_2 [.func (.func 68) #[] #[]] 149)] w) (fun a w=>Frm 17 [] [(2,iv 0),(11,iv (wr (0 - rv))),(15,iv rv_1)] a∧St w0 D0 D0 [(1,.cells b [iv sv.Low,iv sv.High] 27),(2,.cells b_1 [.func (.func 67) #[] #[]] 149),(3,.cells b_2 [.func (.func 68) #[] #[]] 149)] w) (hS.weak (ms:=[(1,.cells b [iv sv.Low,iv sv.High] 27),(2,.cells b_1 [.func (.func 67) #[] #[]] 149),(3,.cells b_2 [.func (.func 68) #[] #[]] 149)]) (AL rfl)).drew (fun _ _ _ _ h=>h) ?_ ?_
 ·replace hS:=hS.drew
  have hle0:=hS.le
  refine stepV (i:=0) rfl hF (fun w hS=>Y.fieldAddr fo_149_0 hF rfl) rfl fun a hF=>stepV (i:=1) rfl hF (fun w hS=>Y.load1L 2 sz_123 hF rfl hS rfl rfl) rfl fun a hF=>stepV (i:=2) rfl hF (fun w hS=>Y.loadNL 1 sz_27 hF rfl hS rfl rfl rfl) rfl fun a hF=>stepV (i:=5) rfl hF (fun w hS=>Y.fieldAddr fo_149_0 hF rfl) rfl fun a hF=>stepV (i:=6) rfl hF (fun w hS=>Y.load1L 3 sz_123 hF rfl hS rfl rfl) rfl fun a hF=>stepV (i:=7) rfl hF (fun w hS=>Y.loadNL 1 sz_27 hF rfl hS rfl rfl rfl) rfl fun a hF=>oneV (i:=3) rfl ?_ trivial
  refine O.callVP (f:=67) (first:=[]) (cap:=[]) (us:=[.agg #[iv sv.Low,iv sv.High]]) ca_67 hF hS rfl rfl (scale_stated_1_ok hS.stab sv rv hx) rfl fun a w hF hS=>nT ⟨hS.weak (AL rfl),?_⟩
  refine stepV (i:=4) rfl hF (fun w hS=>Y.neg hF rfl) rfl fun a hF=>oneV (i:=8) rfl ?_ trivial
  refine O.callVP (f:=68) (first:=[]) (cap:=[]) (us:=[.agg #[iv sv.Low,iv sv.High]]) ca_68 hF hS rfl rfl (scale_stated_2_ok hS.stab sv rv_1 hx_1) rfl fun a w hF hS=>nT ⟨hS.weak (AL rfl),?_⟩
  exact toTailV ⟨hF.weak (AF rfl),hS.weak (AL rfl)⟩
 rintro a w ⟨hF,hS⟩
 refine step hF (Y.max2 hF rfl rfl) rfl fun a hF=>step hF (Y.assign hF rfl) rfl fun a hF=>nT (ret_ ?_)
 obtain rfl:=some_inj h
 exact leaveP Tryz.results48 hF hS (.cons (.tmp rfl) .nil) .nil rfl
noncomputable def scale_Stated (b:ScaleBook) (tick:Int):Option (Int × Int):=
  (scale_Error b tick).bind fun rv=>
  cond (rv.2 != 0)
  (some (0,rv.2))
  ((scale_stated rv.1).bind fun rv_1=>
  some (rv_1,0))
theorem scale_Stated_ok {w0:World} {D0:Stab} (hD:D0.on w0) (b:ScaleBook) (tick:Int) {p:Option Addr} {c:Nat} {p_1:Option Addr} {c_1:Nat} (hs:SRc C_int D0 b.Steer p c) (hs_1:SRc C_ScaleLook D0 b.Looks p_1 c_1) (out:(Int × Int)) (h:scale_Stated b tick=some out):Calls Tryz.prog 25 [.agg #[iv b.Rule.Fast,iv b.Rule.Slow,iv b.Rule.Jerk,iv b.Rule.Drift.Low,iv b.Rule.Drift.High,iv b.Ticks,.slice p b.Steer.length c,.slice p_1 b.Looks.length c_1],iv tick].toArray w0 (RetP D0 w0 (.tuple #[iv out.1,iv out.2])):=by
 refine enter _ 19 Tryz.func25 rfl Tryz.ntmps25 rfl fun a hF=>?_
 replace hF:Frm 19 [] [(0,.agg #[iv b.Rule.Fast,iv b.Rule.Slow,iv b.Rule.Jerk,iv b.Rule.Drift.Low,iv b.Rule.Drift.High,iv b.Ticks,.slice p b.Steer.length c,.slice p_1 b.Looks.length c_1]),(1,iv tick)] a:=hF
 have hS:=St.start hD
 unfold scale_Stated at h
 refine seq (region (O.box (cs:=[iv b.Rule.Fast,iv b.Rule.Slow,iv b.Rule.Jerk,iv b.Rule.Drift.Low,iv b.Rule.Drift.High,iv b.Ticks,.slice p b.Steer.length c,.slice p_1 b.Looks.length c_1]) 1 hF rfl rfl hS rfl fun b_1 a w hF hS=>step hF (Y.assign hF rfl) rfl fun a hF=>step hF (Y.assign hF rfl) rfl fun a hF=>nT (seq (region (step hF (Y.loadNL 1 sz_81 hF rfl hS rfl rfl rfl) rfl fun a hF=>step hF (Y.move hF rfl) rfl fun a hF=>?_)))))
 obtain ⟨rv,hx,h⟩:=bind_some h
 refine O.callP (us:=[.agg #[iv b.Rule.Fast,iv b.Rule.Slow,iv b.Rule.Jerk,iv b.Rule.Drift.Low,iv b.Rule.Drift.High,iv b.Ticks,.slice p b.Steer.length c,.slice p_1 b.Looks.length c_1],iv tick]) ca_47 hF hS (scale_Error_ok hS.stab b tick hs hs_1 rv hx) rfl rfl fun a w hF hS=>step hF (Y.move hF rfl) rfl fun a hF=>step hF (Y.extract hF rfl rfl) rfl fun a hF=>step hF (Y.extract hF rfl rfl) rfl fun a hF=>O.alloc 2 zc_27 hF hS rfl fun b_2 a w hF hS=>O.store (us:=[iv rv.1.Low,iv rv.1.High]) 2 sz_27 hF rfl rfl rfl rfl hS rfl rfl fun a w hF hS=>step hF (Y.assign hF rfl) rfl fun a hF=>nT (seq (seq (region (step hF (Y.move hF rfl) rfl fun a hF=>step hF (Y.neq hF rfl rfl) rfl fun a hF=>nT (cond_b hF rfl (fun hbv=>?_) (fun hbv=>?_))))))
 ·replace h:=cond_t h hbv
  refine seq (region (step hF (Y.move hF rfl) rfl fun a hF=>step hF (Y.assign hF rfl) rfl fun a hF=>step hF (Y.assign hF rfl) rfl fun a hF=>nT (ret_ (then_r ?_))))
  obtain rfl:=some_inj h
  exact leaveP Tryz.results25 hF hS (.cons (.tmp rfl) (.cons (.tmp rfl) .nil)) .nil rfl
 replace h:=cond_f h hbv
 refine skip_ (then_n (seq (region (step hF (Y.loadNL 2 sz_27 hF rfl hS rfl rfl rfl) rfl fun a hF=>?_))))
 obtain ⟨rv_1,hx_1,h⟩:=bind_some h
 refine O.callP (us:=[.agg #[iv rv.1.Low,iv rv.1.High]]) ca_48 hF hS (scale_stated_ok hS.stab rv.1 rv_1 hx_1) rfl rfl fun a w hF hS=>step hF (Y.assign hF rfl) rfl fun a hF=>step hF (Y.assign hF rfl) rfl fun a hF=>nT (ret_ ?_)
 obtain rfl:=some_inj h
 exact leaveP Tryz.results25 hF hS (.cons (.tmp rfl) (.cons (.tmp rfl) .nil)) .nil rfl
end Go.Proofs.YtgdfljiliflhfaaGreatDoor.Rt
