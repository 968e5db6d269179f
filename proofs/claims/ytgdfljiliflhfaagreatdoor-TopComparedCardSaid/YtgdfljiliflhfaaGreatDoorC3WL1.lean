/- Walks of the functions of this seat: what each Go function comes to, as a Lean function, and the proof. Part WL1. Under no conditions. -/
import Derived.Test.YtgdfljiliflhfaaGreatDoorC3W0
set_option linter.unusedVariables false
set_option linter.unusedSimpArgs false
set_option maxRecDepth 100000
set_option maxHeartbeats 4000000
namespace Go.Proofs.YtgdfljiliflhfaaGreatDoor.Rt
open Go Go.RowKit
noncomputable def r0Lies (n:Int) (least:Int) (most:Int):Option Bool:=
  some ((decide (least≤n)) && (decide (n≤most)))
theorem r0Lies_ok {w0:World} {D0:Stab} (hD:D0.on w0) (n:Int) (least:Int) (most:Int) (out:Bool) (h:r0Lies n least most=some out):Calls Tryz.prog 6 [iv n,iv least,iv most].toArray w0 (RetP D0 w0 (.bool out)):=by
 refine enter _ 15 Tryz.func6 rfl Tryz.ntmps6 rfl fun a hF=>?_
 replace hF:Frm 15 [] [(0,iv n),(1,iv least),(2,iv most)] a:=hF
 have hS:=St.start hD
 unfold r0Lies at h
 refine seq (region (step hF (Y.assign hF rfl) rfl fun a hF=>nT (seq (region (step hF (Y.move hF rfl) rfl fun a hF=>step hF (Y.move hF rfl) rfl fun a hF=>step hF (Y.leq hF rfl rfl) rfl fun a hF=>step hF (Y.move hF rfl) rfl fun a hF=>join (N:=15) (rs:=[]) (w0:=w0) (D0:=D0) 4 (us:=[(6,.bool false),(14,.bool ((decide (least≤n)) && (decide (n≤most))))]) (ms:=[]) (D':=D0) ?_ ?_)))))
 ·rcases bcases (decide (least≤n)) with hbv | hbv
  ·skip
   refine guard_on hF rfl rfl hbv (step hF (Y.move hF rfl) rfl fun a hF=>guard_on hF rfl rfl hbv (step hF (Y.move hF rfl) rfl fun a hF=>guard_on hF rfl rfl hbv (step hF (Y.leq hF rfl rfl) rfl fun a hF=>step hF (Y.pick_t hF rfl hbv rfl) rfl fun a hF=>nT ⟨hF.weak ⟨rfl,(by rw [hbv];rfl),trivial⟩,hS.weak trivial⟩)))
  refine guard_off hF rfl rfl hbv rfl fun a hF=>guard_off hF rfl rfl hbv rfl fun a hF=>guard_off hF rfl rfl hbv rfl fun a hF=>step hF (Y.pick_f hF rfl hbv rfl) rfl fun a hF=>nT ⟨hF.weak ⟨rfl,(by rw [hbv];rfl),trivial⟩,hS.weak trivial⟩
 intro a w hF hS
 refine step hF (Y.assign hF rfl) rfl fun a hF=>nT (ret_ ?_)
 obtain rfl:=some_inj h
 exact leaveP Tryz.results6 hF hS (.cons (.tmp rfl) .nil) .nil rfl
noncomputable def r0To (low:Int) (high:Int):Option Span:=
  some (Span.mk low high)
theorem r0To_ok {w0:World} {D0:Stab} (hD:D0.on w0) (low:Int) (high:Int) (out:Span) (h:r0To low high=some out):Calls Tryz.prog 12 [iv low,iv high].toArray w0 (RetP D0 w0 (.agg #[iv out.Low,iv out.High])):=by
 refine enter _ 8 Tryz.func12 rfl Tryz.ntmps12 rfl fun a hF=>?_
 replace hF:Frm 8 [] [(0,iv low),(1,iv high)] a:=hF
 have hS:=St.start hD
 unfold r0To at h
 refine seq (region (O.alloc 1 zc_27 hF hS rfl fun b a w hF hS=>nT (seq (region (step hF (Y.move hF rfl) rfl fun a hF=>step hF (Y.move hF rfl) rfl fun a hF=>step hF (Y.build (parts:=[(0,(.tmp 5)),(1,(.tmp 6))]) (cs:=#[iv low,iv high]) hF rfl (by kernel_rfl)) rfl fun a hF=>O.store (us:=[iv low,iv high]) 1 sz_27 hF rfl rfl rfl rfl hS rfl rfl fun a w hF hS=>nT (ret_ ?_))))))
 obtain rfl:=some_inj h
 exact leaveP Tryz.results12 hF hS (.cons (.cellN 1 sz_27 rfl rfl rfl) .nil) .nil rfl
noncomputable def r0Rest_k1 (rest:Int):Option Int:=
  some rest
noncomputable def r0Rest (n:Int) (byv:Int):Option Int:=
  if byv ≠ 0 then
  cond (decide ((Int.tmod n byv) < 0))
  (r0Rest_k1 (wr ((Int.tmod n byv) + byv)))
  (r0Rest_k1 (Int.tmod n byv))
  else none
theorem r0Rest_ok {w0:World} {D0:Stab} (hD:D0.on w0) (n:Int) (byv:Int) (out:Int) (h:r0Rest n byv=some out):Calls Tryz.prog 9 [iv n,iv byv].toArray w0 (RetP D0 w0 (iv out)):=by
 refine enter _ 15 Tryz.func9 rfl Tryz.ntmps9 rfl fun a hF=>?_
 replace hF:Frm 15 [] [(0,iv n),(1,iv byv)] a:=hF
 have hS:=St.start hD
 unfold r0Rest at h
 refine seq (region (step hF (Y.assign hF rfl) rfl fun a hF=>nT (seq (region (step hF (Y.move hF rfl) rfl fun a hF=>step hF (Y.move hF rfl) rfl fun a hF=>?_)))))
 obtain ⟨hg,h⟩:=ite_some h
 refine step hF (Y.rem hF rfl rfl hg) rfl fun a hF=>step hF (Y.assign hF rfl) rfl fun a hF=>nT (seq_cut (fun a w=>∃ (rest:Int),Frm 15 [] [(4,iv 0),(5,iv rest)] a∧St w0 D0 D0 [] w∧r0Rest_k1 rest=some out) ?_ ?_)
 ·skip
  refine seq (region (step hF (Y.move hF rfl) rfl fun a hF=>step hF (Y.lss hF rfl rfl) rfl fun a hF=>nT (cond_b hF rfl (fun hbv=>?_) (fun hbv=>?_))))
  ·replace h:=cond_t h hbv
   refine region (step hF (Y.move hF rfl) rfl fun a hF=>step hF (Y.move hF rfl) rfl fun a hF=>step hF (Y.add hF rfl rfl) rfl fun a hF=>step hF (Y.assign hF rfl) rfl fun a hF=>nT (⟨(wr ((Int.tmod n byv) + byv)),hF.weak ⟨rfl,rfl,trivial⟩,hS.weak trivial,h⟩))
  replace h:=cond_f h hbv
  refine skip_ (then_n (⟨(Int.tmod n byv),hF.weak ⟨rfl,rfl,trivial⟩,hS.weak trivial,h⟩))
 rintro a w ⟨rest,hF,hS,h⟩
 unfold r0Rest_k1 at h
 refine seq (region (step hF (Y.move hF rfl) rfl fun a hF=>step hF (Y.assign hF rfl) rfl fun a hF=>nT (ret_ ?_)))
 obtain rfl:=some_inj h
 exact leaveP Tryz.results9 hF hS (.cons (.tmp rfl) .nil) .nil rfl
noncomputable def r0Valid (sv:Span) (least:Int) (most:Int):Option Bool:=
  some (((decide (sv.Low≤sv.High)) && (decide (least≤sv.Low))) && (decide (sv.High≤most)))
theorem r0Valid_ok {w0:World} {D0:Stab} (hD:D0.on w0) (sv:Span) (least:Int) (most:Int) (out:Bool) (h:r0Valid sv least most=some out):Calls Tryz.prog 7 [.agg #[iv sv.Low,iv sv.High],iv least,iv most].toArray w0 (RetP D0 w0 (.bool out)):=by
 refine enter _ 24 Tryz.func7 rfl Tryz.ntmps7 rfl fun a hF=>?_
 replace hF:Frm 24 [] [(0,.agg #[iv sv.Low,iv sv.High]),(1,iv least),(2,iv most)] a:=hF
 have hS:=St.start hD
 unfold r0Valid at h
 refine seq (region (O.box (cs:=[iv sv.Low,iv sv.High]) 1 hF rfl rfl hS rfl fun b a w hF hS=>step hF (Y.assign hF rfl) rfl fun a hF=>nT (seq (region (step hF (Y.fieldAddr fo_27_0 hF rfl) rfl fun a hF=>step hF (Y.load1L 1 sz_3 hF rfl hS rfl rfl) rfl fun a hF=>step hF (Y.fieldAddr fo_27_1 hF rfl) rfl fun a hF=>step hF (Y.load1L 1 sz_3 hF rfl hS rfl rfl) rfl fun a hF=>step hF (Y.leq hF rfl rfl) rfl fun a hF=>step hF (Y.move hF rfl) rfl fun a hF=>join (N:=24) (rs:=[]) (w0:=w0) (D0:=D0) 5 (us:=[(2,iv most),(3,.pointer (some ⟨b,0,none⟩)),(6,.bool false),(17,.bool ((decide (sv.Low≤sv.High)) && (decide (least≤sv.Low))))]) (ms:=[(1,.cells b [iv sv.Low,iv sv.High] 27)]) (D':=D0) ?_ ?_)))))
 ·rcases bcases (decide (sv.Low≤sv.High)) with hbv | hbv
  ·skip
   refine guard_on hF rfl rfl hbv (step hF (Y.move hF rfl) rfl fun a hF=>guard_on hF rfl rfl hbv (step hF (Y.fieldAddr fo_27_0 hF rfl) rfl fun a hF=>guard_on hF rfl rfl hbv (step hF (Y.load1L 1 sz_3 hF rfl hS rfl rfl) rfl fun a hF=>guard_on hF rfl rfl hbv (step hF (Y.leq hF rfl rfl) rfl fun a hF=>step hF (Y.pick_t hF rfl hbv rfl) rfl fun a hF=>nT ⟨hF.weak ⟨rfl,rfl,rfl,(by rw [hbv];rfl),trivial⟩,hS.weak ⟨rfl,trivial⟩⟩))))
  refine guard_off hF rfl rfl hbv rfl fun a hF=>guard_off hF rfl rfl hbv rfl fun a hF=>guard_off hF rfl rfl hbv rfl fun a hF=>guard_off hF rfl rfl hbv rfl fun a hF=>step hF (Y.pick_f hF rfl hbv rfl) rfl fun a hF=>nT ⟨hF.weak ⟨rfl,rfl,rfl,(by rw [hbv];rfl),trivial⟩,hS.weak ⟨rfl,trivial⟩⟩
 intro a w hF hS
 refine step hF (Y.move hF rfl) rfl fun a hF=>join (N:=24) (rs:=[]) (w0:=w0) (D0:=D0) 5 (us:=[(6,.bool false),(23,.bool (((decide (sv.Low≤sv.High)) && (decide (least≤sv.Low))) && (decide (sv.High≤most))))]) (ms:=[(1,.cells b [iv sv.Low,iv sv.High] 27)]) (D':=D0) ?_ ?_
 ·rcases bcases ((decide (sv.Low≤sv.High)) && (decide (least≤sv.Low))) with hbv_1 | hbv_1
  ·skip
   refine guard_on hF rfl rfl hbv_1 (step hF (Y.fieldAddr fo_27_1 hF rfl) rfl fun a hF=>guard_on hF rfl rfl hbv_1 (step hF (Y.load1L 1 sz_3 hF rfl hS rfl rfl) rfl fun a hF=>guard_on hF rfl rfl hbv_1 (step hF (Y.move hF rfl) rfl fun a hF=>guard_on hF rfl rfl hbv_1 (step hF (Y.leq hF rfl rfl) rfl fun a hF=>step hF (Y.pick_t hF rfl hbv_1 rfl) rfl fun a hF=>nT ⟨hF.weak ⟨rfl,(by rw [hbv_1];rfl),trivial⟩,hS.weak ⟨rfl,trivial⟩⟩))))
  refine guard_off hF rfl rfl hbv_1 rfl fun a hF=>guard_off hF rfl rfl hbv_1 rfl fun a hF=>guard_off hF rfl rfl hbv_1 rfl fun a hF=>guard_off hF rfl rfl hbv_1 rfl fun a hF=>step hF (Y.pick_f hF rfl hbv_1 rfl) rfl fun a hF=>nT ⟨hF.weak ⟨rfl,(by rw [hbv_1];rfl),trivial⟩,hS.weak ⟨rfl,trivial⟩⟩
 intro a w hF hS
 refine step hF (Y.assign hF rfl) rfl fun a hF=>nT (ret_ ?_)
 obtain rfl:=some_inj h
 exact leaveP Tryz.results7 hF hS (.cons (.tmp rfl) .nil) .nil rfl
noncomputable def r0First_b1 (av:(List Int)) (b:(List Int)):Int→Option (Int ⊕ Int)
 | i=>
  (cond ((decide (i < (av.length:Int))) && (decide (i < (b.length:Int)))) ((idx av i).bind fun e=>
  (idx b i).bind fun e_1=>
  some (e == e_1)) (some false)).bind fun t=>
  cond t
  (nxt (wr (i + 1)))
  (ext (some i))
noncomputable def r0First (av:(List Int)) (b:(List Int)):Option Int:=
  loopU (r0First_b1 av b) 0
theorem r0First_ok {w0:World} {D0:Stab} (hD:D0.on w0) (av:(List Int)) (b:(List Int)) {p:Option Addr} {c:Nat} {p_1:Option Addr} {c_1:Nat} (hs:SRc C_int D0 av p c) (hs_1:SRc C_int D0 b p_1 c_1) (out:Int) (h:r0First av b=some out):Calls Tryz.prog 49 [.slice p av.length c,.slice p_1 b.length c_1].toArray w0 (RetP D0 w0 (iv out)):=by
 refine enter _ 30 Tryz.func49 rfl Tryz.ntmps49 rfl fun a hF=>?_
 replace hF:Frm 30 [] [(0,.slice p av.length c),(1,.slice p_1 b.length c_1)] a:=hF
 have hS:=St.start hD
 unfold r0First at h
 refine seq (region (step hF (Y.assign hF rfl) rfl fun a hF=>nT (seq (region (step hF (Y.assign hF rfl) rfl fun a hF=>nT (seq (block (loop_cut (body:=r0First_b1 av b) (out:=out) (fun i a w=>Frm 30 [] [(0,.slice p av.length c),(1,.slice p_1 b.length c_1),(4,iv 0),(5,iv i)] a∧St w0 D0 D0 [] w) 0 h ⟨hF.weak (AF rfl),hS.weak trivial⟩ ?_))))))))
 rintro i a w xo ⟨hF,hS⟩ h hxo
 unfold r0First_b1 at h
 dsimp only at h
 refine seq (seq (draws 21 [(0,true),(1,true),(2,true),(3,true),(4,true),(5,true),(6,true),(7,true),(8,true),(9,true),(10,true),(11,true),(12,true),(13,true),(14,true),(15,true),(16,true),(17,true),(18,true),(19,true),(20,true)] mixed_ (by kernel_rfl) (fun w=>St w0 D0 D0 _ w) hS.drew (fun _ _ _ _ h=>h) ?_))
 replace hS:=hS.drew
 refine stepT (i:=0) rfl hF (fun w hS=>Y.move hF rfl) rfl fun a hF=>stepT (i:=1) rfl hF (fun w hS=>Y.move hF rfl) rfl fun a hF=>stepT (i:=2) rfl hF (fun w hS=>Y.lenSl u_30 hF rfl) rfl fun a hF=>stepT (i:=3) rfl hF (fun w hS=>Y.lss hF rfl rfl) rfl fun a hF=>stepT (i:=4) rfl hF (fun w hS=>Y.move hF rfl) rfl fun a hF=>joinT (N:=30) (rs:=[]) (w0:=w0) (D0:=D0) 5 (us:=[(0,.slice p av.length c),(1,.slice p_1 b.length c_1),(4,iv 0),(5,iv i),(15,.bool ((decide (i < (av.length:Int))) && (decide (i < (b.length:Int)))))]) (ms:=[]) (D':=D0) ?_ ?_
 ·rcases bcases (decide (i < (av.length:Int))) with hbv | hbv
  ·skip
   refine stepT_on (i:=5) rfl hF rfl rfl hbv (fun w hS=>Y.move hF rfl) rfl fun a hF=>stepT_on (i:=6) rfl hF rfl rfl hbv (fun w hS=>Y.move hF rfl) rfl fun a hF=>stepT_on (i:=7) rfl hF rfl rfl hbv (fun w hS=>Y.lenSl u_30 hF rfl) rfl fun a hF=>stepT_on (i:=8) rfl hF rfl rfl hbv (fun w hS=>Y.lss hF rfl rfl) rfl fun a hF=>stepT (i:=9) rfl hF (fun w hS=>Y.pick_t hF rfl hbv rfl) rfl fun a hF=>toTail ⟨hF.weak ⟨rfl,rfl,rfl,rfl,(by rw [hbv];rfl),trivial⟩,hS.weak trivial⟩
  refine stepT_off (i:=5) rfl hF rfl rfl hbv rfl fun a hF=>stepT_off (i:=6) rfl hF rfl rfl hbv rfl fun a hF=>stepT_off (i:=7) rfl hF rfl rfl hbv rfl fun a hF=>stepT_off (i:=8) rfl hF rfl rfl hbv rfl fun a hF=>stepT (i:=9) rfl hF (fun w hS=>Y.pick_f hF rfl hbv rfl) rfl fun a hF=>toTail ⟨hF.weak ⟨rfl,rfl,rfl,rfl,(by rw [hbv];rfl),trivial⟩,hS.weak trivial⟩
 intro a w hF hS
 refine stepT (i:=10) rfl hF (fun w hS=>Y.move hF rfl) rfl fun a hF=>?_
 obtain ⟨t,ht,h⟩:=bind_some h
 refine joinT (N:=30) (rs:=[]) (w0:=w0) (D0:=D0) 10 (us:=[(0,.slice p av.length c),(1,.slice p_1 b.length c_1),(4,iv 0),(5,iv i),(26,.bool t)]) (ms:=[]) (D':=D0) ?_ ?_
 ·rcases bcases ((decide (i < (av.length:Int))) && (decide (i < (b.length:Int)))) with hbv_1 | hbv_1
  ·skip
   replace h:=cond_t ht hbv_1
   refine stepT_on (i:=11) rfl hF rfl rfl hbv_1 (fun w hS=>Y.move hF rfl) rfl fun a hF=>stepT_on (i:=12) rfl hF rfl rfl hbv_1 (fun w hS=>Y.move hF rfl) rfl fun a hF=>?_
   obtain ⟨e,hx,h⟩:=bind_some h
   obtain ⟨b_1,o,hE,hY⟩:=Y.indexS (P:=Tryz.prog) (C:=C_int) (xs:=av) (T:=30) (x:=(.tmp 17)) (y:=(.tmp 18)) u_30 sz_3 hF rfl rfl (hs).1 hx
   obtain ⟨cc,hc,hcell⟩:=hE.open
   obtain rfl:=hc
   refine stepT_on (i:=13) rfl hF rfl rfl hbv_1 (fun w hS=>hY) rfl fun a hF=>stepT_on (i:=14) rfl hF rfl rfl hbv_1 (fun w hS=>Y.load1 sz_3 hF rfl (hcell _ hS.stab 0 _ rfl)) rfl fun a hF=>stepT_on (i:=15) rfl hF rfl rfl hbv_1 (fun w hS=>Y.move hF rfl) rfl fun a hF=>stepT_on (i:=16) rfl hF rfl rfl hbv_1 (fun w hS=>Y.move hF rfl) rfl fun a hF=>?_
   obtain ⟨e_1,hx_1,h⟩:=bind_some h
   obtain ⟨b_2,o_1,hE_1,hY_1⟩:=Y.indexS (P:=Tryz.prog) (C:=C_int) (xs:=b) (T:=30) (x:=(.tmp 21)) (y:=(.tmp 22)) u_30 sz_3 hF rfl rfl (hs_1).1 hx_1
   obtain ⟨cc_1,hc_1,hcell_1⟩:=hE_1.open
   obtain rfl:=hc_1
   refine stepT_on (i:=17) rfl hF rfl rfl hbv_1 (fun w hS=>hY_1) rfl fun a hF=>stepT_on (i:=18) rfl hF rfl rfl hbv_1 (fun w hS=>Y.load1 sz_3 hF rfl (hcell_1 _ hS.stab 0 _ rfl)) rfl fun a hF=>stepT_on (i:=19) rfl hF rfl rfl hbv_1 (fun w hS=>Y.eql hF rfl rfl) rfl fun a hF=>stepT (i:=20) rfl hF (fun w hS=>Y.pick_t hF rfl hbv_1 rfl) rfl fun a hF=>?_
   obtain rfl:=some_inj h
   exact toTail ⟨hF.weak (AF rfl),hS.weak trivial⟩
  replace h:=cond_f ht hbv_1
  refine stepT_off (i:=11) rfl hF rfl rfl hbv_1 rfl fun a hF=>stepT_off (i:=12) rfl hF rfl rfl hbv_1 rfl fun a hF=>stepT_off (i:=13) rfl hF rfl rfl hbv_1 rfl fun a hF=>stepT_off (i:=14) rfl hF rfl rfl hbv_1 rfl fun a hF=>stepT_off (i:=15) rfl hF rfl rfl hbv_1 rfl fun a hF=>stepT_off (i:=16) rfl hF rfl rfl hbv_1 rfl fun a hF=>stepT_off (i:=17) rfl hF rfl rfl hbv_1 rfl fun a hF=>stepT_off (i:=18) rfl hF rfl rfl hbv_1 rfl fun a hF=>stepT_off (i:=19) rfl hF rfl rfl hbv_1 rfl fun a hF=>stepT (i:=20) rfl hF (fun w hS=>Y.pick_f hF rfl hbv_1 rfl) rfl fun a hF=>?_
  obtain rfl:=some_inj h
  exact toTail ⟨hF.weak (AF rfl),hS.weak trivial⟩
 intro a w hF hS
 refine toTail (nT (cond_b hF rfl (fun hbv_2=>?_) (fun hbv_2=>?_)))
 ·replace h:=cond_t h hbv_2
  refine skip_ (then_n (block (region (step hF (Y.move hF rfl) rfl fun a hF=>step hF (Y.add hF rfl rfl) rfl fun a hF=>step hF (Y.assign hF rfl) rfl fun a hF=>nil (blk_n (then_n (⟨_,nxt_some h,hF.weak (AF rfl),hS.weak trivial⟩)))))))
 replace h:=cond_f h hbv_2
 refine exit_ (then_x (then_x (blk_hit (then_n ?_))))
 replace h:=ext_some h hxo
 refine seq (region (step hF (Y.move hF rfl) rfl fun a hF=>step hF (Y.assign hF rfl) rfl fun a hF=>nT (ret_ ?_)))
 obtain rfl:=some_inj h
 exact leaveP Tryz.results49 hF hS (.cons (.tmp rfl) .nil) .nil rfl
noncomputable def r0Alike (av:(List Int)) (b:(List Int)):Option Bool:=
  (cond ((av.length:Int) == (b.length:Int)) ((r0First av b).bind fun rv=>
  some (rv == (av.length:Int))) (some false)).bind fun t=>
  some t
theorem r0Alike_ok {w0:World} {D0:Stab} (hD:D0.on w0) (av:(List Int)) (b:(List Int)) {p:Option Addr} {c:Nat} {p_1:Option Addr} {c_1:Nat} (hs:SRc C_int D0 av p c) (hs_1:SRc C_int D0 b p_1 c_1) (out:Bool) (h:r0Alike av b=some out):Calls Tryz.prog 26 [.slice p av.length c,.slice p_1 b.length c_1].toArray w0 (RetP D0 w0 (.bool out)):=by
 refine enter _ 18 Tryz.func26 rfl Tryz.ntmps26 rfl fun a hF=>?_
 replace hF:Frm 18 [] [(0,.slice p av.length c),(1,.slice p_1 b.length c_1)] a:=hF
 have hS:=St.start hD
 unfold r0Alike at h
 refine seq (region (step hF (Y.assign hF rfl) rfl fun a hF=>nT (seq (region (step hF (Y.move hF rfl) rfl fun a hF=>step hF (Y.lenSl u_30 hF rfl) rfl fun a hF=>step hF (Y.move hF rfl) rfl fun a hF=>step hF (Y.lenSl u_30 hF rfl) rfl fun a hF=>step hF (Y.eql hF rfl rfl) rfl fun a hF=>step hF (Y.move hF rfl) rfl fun a hF=>?_)))))
 obtain ⟨t,ht,h⟩:=bind_some h
 refine join (N:=18) (rs:=[]) (w0:=w0) (D0:=D0) 7 (us:=[(4,.bool false),(17,.bool t)]) (ms:=[]) (D':=D0) ?_ ?_
 ·rcases bcases ((av.length:Int) == (b.length:Int)) with hbv | hbv
  ·skip
   replace h:=cond_t ht hbv
   refine guard_on hF rfl rfl hbv (step hF (Y.move hF rfl) rfl fun a hF=>guard_on hF rfl rfl hbv (step hF (Y.move hF rfl) rfl fun a hF=>guard_on hF rfl rfl hbv ?_))
   obtain ⟨rv,hx,h⟩:=bind_some h
   refine O.callP (us:=[.slice p av.length c,.slice p_1 b.length c_1]) ca_49 hF hS (r0First_ok hS.stab av b hs hs_1 rv hx) rfl rfl fun a w hF hS=>guard_on hF rfl rfl hbv (step hF (Y.move hF rfl) rfl fun a hF=>guard_on hF rfl rfl hbv (step hF (Y.lenSl u_30 hF rfl) rfl fun a hF=>guard_on hF rfl rfl hbv (step hF (Y.eql hF rfl rfl) rfl fun a hF=>step hF (Y.pick_t hF rfl hbv rfl) rfl fun a hF=>?_)))
   obtain rfl:=some_inj h
   exact nT ⟨hF.weak ⟨rfl,rfl,trivial⟩,hS.weak trivial⟩
  replace h:=cond_f ht hbv
  refine guard_off hF rfl rfl hbv rfl fun a hF=>guard_off hF rfl rfl hbv rfl fun a hF=>guard_off hF rfl rfl hbv rfl fun a hF=>guard_off hF rfl rfl hbv rfl fun a hF=>guard_off hF rfl rfl hbv rfl fun a hF=>guard_off hF rfl rfl hbv rfl fun a hF=>step hF (Y.pick_f hF rfl hbv rfl) rfl fun a hF=>?_
  obtain rfl:=some_inj h
  exact nT ⟨hF.weak ⟨rfl,rfl,trivial⟩,hS.weak trivial⟩
 intro a w hF hS
 refine step hF (Y.assign hF rfl) rfl fun a hF=>nT (ret_ ?_)
 obtain rfl:=some_inj h
 exact leaveP Tryz.results26 hF hS (.cons (.tmp rfl) .nil) .nil rfl
noncomputable def r0From (sv:Span) (n:Int):Option Int:=
  cond (decide (sv.High≤sv.Low))
  (some sv.Low)
  (cond (decide ((wr ((wr (sv.High - sv.Low)) + 1)) < 1))
  (some (if sv.High < (if sv.Low > n then sv.Low else n) then sv.High else (if sv.Low > n then sv.Low else n)))
  ((r0Rest n (wr ((wr (sv.High - sv.Low)) + 1))).bind fun rv=>
  some (wr (sv.Low + rv))))
theorem r0From_ok {w0:World} {D0:Stab} (hD:D0.on w0) (sv:Span) (n:Int) (out:Int) (h:r0From sv n=some out):Calls Tryz.prog 11 [.agg #[iv sv.Low,iv sv.High],iv n].toArray w0 (RetP D0 w0 (iv out)):=by
 refine enter _ 34 Tryz.func11 rfl Tryz.ntmps11 rfl fun a hF=>?_
 replace hF:Frm 34 [] [(0,.agg #[iv sv.Low,iv sv.High]),(1,iv n)] a:=hF
 have hS:=St.start hD
 unfold r0From at h
 refine seq (region (O.box (cs:=[iv sv.Low,iv sv.High]) 1 hF rfl rfl hS rfl fun b a w hF hS=>step hF (Y.assign hF rfl) rfl fun a hF=>nT (seq (seq (region (step hF (Y.fieldAddr fo_27_1 hF rfl) rfl fun a hF=>step hF (Y.load1L 1 sz_3 hF rfl hS rfl rfl) rfl fun a hF=>step hF (Y.fieldAddr fo_27_0 hF rfl) rfl fun a hF=>step hF (Y.load1L 1 sz_3 hF rfl hS rfl rfl) rfl fun a hF=>step hF (Y.leq hF rfl rfl) rfl fun a hF=>nT (cond_b hF rfl (fun hbv=>?_) (fun hbv=>?_))))))))
 ·replace h:=cond_t h hbv
  refine seq (region (step hF (Y.fieldAddr fo_27_0 hF rfl) rfl fun a hF=>step hF (Y.load1L 1 sz_3 hF rfl hS rfl rfl) rfl fun a hF=>step hF (Y.assign hF rfl) rfl fun a hF=>nT (ret_ (then_r ?_))))
  obtain rfl:=some_inj h
  exact leaveP Tryz.results11 hF hS (.cons (.tmp rfl) .nil) .nil rfl
 replace h:=cond_f h hbv
 refine skip_ (then_n (seq (region (step hF (Y.fieldAddr fo_27_1 hF rfl) rfl fun a hF=>step hF (Y.load1L 1 sz_3 hF rfl hS rfl rfl) rfl fun a hF=>step hF (Y.fieldAddr fo_27_0 hF rfl) rfl fun a hF=>step hF (Y.load1L 1 sz_3 hF rfl hS rfl rfl) rfl fun a hF=>step hF (Y.sub hF rfl rfl) rfl fun a hF=>step hF (Y.add hF rfl rfl) rfl fun a hF=>step hF (Y.assign hF rfl) rfl fun a hF=>nT (seq (seq (region (step hF (Y.move hF rfl) rfl fun a hF=>step hF (Y.lss hF rfl rfl) rfl fun a hF=>nT (cond_b hF rfl (fun hbv_1=>?_) (fun hbv_1=>?_))))))))))
 ·replace h:=cond_t h hbv_1
  refine seq (region (step hF (Y.move hF rfl) rfl fun a hF=>step hF (Y.fieldAddr fo_27_0 hF rfl) rfl fun a hF=>step hF (Y.load1L 1 sz_3 hF rfl hS rfl rfl) rfl fun a hF=>step hF (Y.max2 hF rfl rfl) rfl fun a hF=>step hF (Y.fieldAddr fo_27_1 hF rfl) rfl fun a hF=>step hF (Y.load1L 1 sz_3 hF rfl hS rfl rfl) rfl fun a hF=>step hF (Y.min2 hF rfl rfl) rfl fun a hF=>step hF (Y.assign hF rfl) rfl fun a hF=>nT (ret_ (then_r ?_))))
  obtain rfl:=some_inj h
  exact leaveP Tryz.results11 hF hS (.cons (.tmp rfl) .nil) .nil rfl
 replace h:=cond_f h hbv_1
 refine skip_ (then_n (seq ?_))
 obtain ⟨rv,hx,h⟩:=bind_some h
 refine drawsV 5 (.flt 0 (.flt 1 (.flt 2 (.flt 3 (.alt 4 .done .stop))))) mixed_ (by kernel_rfl) (fun w=>St w0 D0 D0 [(1,.cells b [iv sv.Low,iv sv.High] 27)] w) (fun a w=>Frm 34 [] [(4,iv 0),(29,iv sv.Low),(32,iv rv)] a∧St w0 D0 D0 [(1,.cells b [iv sv.Low,iv sv.High] 27)] w) (hS.weak (ms:=[(1,.cells b [iv sv.Low,iv sv.High] 27)]) ⟨rfl,trivial⟩).drew (fun _ _ _ _ h=>h) ?_ ?_
 ·replace hS:=hS.drew
  have hle0:=hS.le
  refine stepV (i:=0) rfl hF (fun w hS=>Y.fieldAddr fo_27_0 hF rfl) rfl fun a hF=>stepV (i:=1) rfl hF (fun w hS=>Y.load1L 1 sz_3 hF rfl hS rfl rfl) rfl fun a hF=>stepV (i:=2) rfl hF (fun w hS=>Y.move hF rfl) rfl fun a hF=>stepV (i:=3) rfl hF (fun w hS=>Y.move hF rfl) rfl fun a hF=>oneV (i:=4) rfl ?_ trivial
  refine O.callP (us:=[iv n,iv (wr ((wr (sv.High - sv.Low)) + 1))]) ca_9 hF hS (r0Rest_ok hS.stab n (wr ((wr (sv.High - sv.Low)) + 1)) rv hx) rfl rfl fun a w hF hS=>nT ⟨hS.weak ⟨rfl,trivial⟩,?_⟩
  exact toTailV ⟨hF.weak (AF rfl),hS.weak ⟨rfl,trivial⟩⟩
 rintro a w ⟨hF,hS⟩
 refine step hF (Y.add hF rfl rfl) rfl fun a hF=>step hF (Y.assign hF rfl) rfl fun a hF=>nT (ret_ ?_)
 obtain rfl:=some_inj h
 exact leaveP Tryz.results11 hF hS (.cons (.tmp rfl) .nil) .nil rfl
noncomputable def r0At (l:(List Int)) (n:Int):Option Int:=
  cond ((l.length:Int) == 0)
  (some 0)
  ((r0Rest n (l.length:Int)).bind fun rv=>
  (idx l rv).bind fun e=>
  some e)
theorem r0At_ok {w0:World} {D0:Stab} (hD:D0.on w0) (l:(List Int)) (n:Int) {p:Option Addr} {c:Nat} (hs:SRc C_int D0 l p c) (out:Int) (h:r0At l n=some out):Calls Tryz.prog 13 [.slice p l.length c,iv n].toArray w0 (RetP D0 w0 (iv out)):=by
 refine enter _ 15 Tryz.func13 rfl Tryz.ntmps13 rfl fun a hF=>?_
 replace hF:Frm 15 [] [(0,.slice p l.length c),(1,iv n)] a:=hF
 have hS:=St.start hD
 unfold r0At at h
 refine seq (region (step hF (Y.assign hF rfl) rfl fun a hF=>nT (seq (seq (region (step hF (Y.move hF rfl) rfl fun a hF=>step hF (Y.lenSl u_30 hF rfl) rfl fun a hF=>step hF (Y.eql hF rfl rfl) rfl fun a hF=>nT (cond_b hF rfl (fun hbv=>?_) (fun hbv=>?_))))))))
 ·replace h:=cond_t h hbv
  refine seq (region (step hF (Y.assign hF rfl) rfl fun a hF=>nT (ret_ (then_r ?_))))
  obtain rfl:=some_inj h
  exact leaveP Tryz.results13 hF hS (.cons (.tmp rfl) .nil) .nil rfl
 replace h:=cond_f h hbv
 refine skip_ (then_n (seq (region (step hF (Y.move hF rfl) rfl fun a hF=>step hF (Y.move hF rfl) rfl fun a hF=>step hF (Y.move hF rfl) rfl fun a hF=>step hF (Y.lenSl u_30 hF rfl) rfl fun a hF=>?_))))
 obtain ⟨rv,hx,h⟩:=bind_some h
 refine O.callP (us:=[iv n,iv (l.length:Int)]) ca_9 hF hS (r0Rest_ok hS.stab n (l.length:Int) rv hx) rfl rfl fun a w hF hS=>?_
 obtain ⟨e,hx_1,h⟩:=bind_some h
 obtain ⟨b,o,hE,hY⟩:=Y.indexS (P:=Tryz.prog) (C:=C_int) (xs:=l) (T:=30) (x:=(.tmp 8)) (y:=(.tmp 12)) u_30 sz_3 hF rfl rfl (hs).1 hx_1
 obtain ⟨cc,hc,hcell⟩:=hE.open
 obtain rfl:=hc
 refine step hF (hY) rfl fun a hF=>step hF (Y.load1 sz_3 hF rfl (hcell _ hS.stab 0 _ rfl)) rfl fun a hF=>step hF (Y.assign hF rfl) rfl fun a hF=>nT (ret_ ?_)
 obtain rfl:=some_inj h
 exact leaveP Tryz.results13 hF hS (.cons (.tmp rfl) .nil) .nil rfl
noncomputable def r0Has (sv:Span) (n:Int):Option Bool:=
  (r0Lies n sv.Low sv.High).bind fun rv=>
  some rv
theorem r0Has_ok {w0:World} {D0:Stab} (hD:D0.on w0) (sv:Span) (n:Int) (out:Bool) (h:r0Has sv n=some out):Calls Tryz.prog 18 [.agg #[iv sv.Low,iv sv.High],iv n].toArray w0 (RetP D0 w0 (.bool out)):=by
 refine enter _ 11 Tryz.func18 rfl Tryz.ntmps18 rfl fun a hF=>?_
 replace hF:Frm 11 [] [(0,.agg #[iv sv.Low,iv sv.High]),(1,iv n)] a:=hF
 have hS:=St.start hD
 unfold r0Has at h
 refine seq (region (O.box (cs:=[iv sv.Low,iv sv.High]) 1 hF rfl rfl hS rfl fun b a w hF hS=>step hF (Y.assign hF rfl) rfl fun a hF=>nT (seq (region (step hF (Y.move hF rfl) rfl fun a hF=>step hF (Y.fieldAddr fo_27_0 hF rfl) rfl fun a hF=>step hF (Y.load1L 1 sz_3 hF rfl hS rfl rfl) rfl fun a hF=>step hF (Y.fieldAddr fo_27_1 hF rfl) rfl fun a hF=>step hF (Y.load1L 1 sz_3 hF rfl hS rfl rfl) rfl fun a hF=>?_)))))
 obtain ⟨rv,hx,h⟩:=bind_some h
 refine O.callP (us:=[iv n,iv sv.Low,iv sv.High]) ca_6 hF hS (r0Lies_ok hS.stab n sv.Low sv.High rv hx) rfl rfl fun a w hF hS=>step hF (Y.assign hF rfl) rfl fun a hF=>nT (ret_ ?_)
 obtain rfl:=some_inj h
 exact leaveP Tryz.results18 hF hS (.cons (.tmp rfl) .nil) .nil rfl
noncomputable def line_lies (n:Int) (least:Int) (most:Int):Option Bool:=
  some ((decide (least≤n)) && (decide (n≤most)))
theorem line_lies_ok {w0:World} {D0:Stab} (hD:D0.on w0) (n:Int) (least:Int) (most:Int) (out:Bool) (h:line_lies n least most=some out):Calls Tryz.prog 19 [iv n,iv least,iv most].toArray w0 (RetP D0 w0 (.bool out)):=by
 refine enter _ 15 Tryz.func19 rfl Tryz.ntmps19 rfl fun a hF=>?_
 replace hF:Frm 15 [] [(0,iv n),(1,iv least),(2,iv most)] a:=hF
 have hS:=St.start hD
 unfold line_lies at h
 refine seq (region (step hF (Y.assign hF rfl) rfl fun a hF=>nT (seq (region (step hF (Y.move hF rfl) rfl fun a hF=>step hF (Y.move hF rfl) rfl fun a hF=>step hF (Y.leq hF rfl rfl) rfl fun a hF=>step hF (Y.move hF rfl) rfl fun a hF=>join (N:=15) (rs:=[]) (w0:=w0) (D0:=D0) 4 (us:=[(6,.bool false),(14,.bool ((decide (least≤n)) && (decide (n≤most))))]) (ms:=[]) (D':=D0) ?_ ?_)))))
 ·rcases bcases (decide (least≤n)) with hbv | hbv
  ·skip
   refine guard_on hF rfl rfl hbv (step hF (Y.move hF rfl) rfl fun a hF=>guard_on hF rfl rfl hbv (step hF (Y.move hF rfl) rfl fun a hF=>guard_on hF rfl rfl hbv (step hF (Y.leq hF rfl rfl) rfl fun a hF=>step hF (Y.pick_t hF rfl hbv rfl) rfl fun a hF=>nT ⟨hF.weak ⟨rfl,(by rw [hbv];rfl),trivial⟩,hS.weak trivial⟩)))
  refine guard_off hF rfl rfl hbv rfl fun a hF=>guard_off hF rfl rfl hbv rfl fun a hF=>guard_off hF rfl rfl hbv rfl fun a hF=>step hF (Y.pick_f hF rfl hbv rfl) rfl fun a hF=>nT ⟨hF.weak ⟨rfl,(by rw [hbv];rfl),trivial⟩,hS.weak trivial⟩
 intro a w hF hS
 refine step hF (Y.assign hF rfl) rfl fun a hF=>nT (ret_ ?_)
 obtain rfl:=some_inj h
 exact leaveP Tryz.results19 hF hS (.cons (.tmp rfl) .nil) .nil rfl
noncomputable def line_isSpan (sv:Span) (most:Int):Option Bool:=
  some (((decide (0≤sv.Low)) && (decide (sv.Low≤sv.High))) && (decide (sv.High≤most)))
theorem line_isSpan_ok {w0:World} {D0:Stab} (hD:D0.on w0) (sv:Span) (most:Int) (out:Bool) (h:line_isSpan sv most=some out):Calls Tryz.prog 20 [.agg #[iv sv.Low,iv sv.High],iv most].toArray w0 (RetP D0 w0 (.bool out)):=by
 refine enter _ 21 Tryz.func20 rfl Tryz.ntmps20 rfl fun a hF=>?_
 replace hF:Frm 21 [] [(0,.agg #[iv sv.Low,iv sv.High]),(1,iv most)] a:=hF
 have hS:=St.start hD
 unfold line_isSpan at h
 refine seq (region (O.box (cs:=[iv sv.Low,iv sv.High]) 1 hF rfl rfl hS rfl fun b a w hF hS=>step hF (Y.assign hF rfl) rfl fun a hF=>nT (seq (region (step hF (Y.fieldAddr fo_27_0 hF rfl) rfl fun a hF=>step hF (Y.load1L 1 sz_3 hF rfl hS rfl rfl) rfl fun a hF=>step hF (Y.leq hF rfl rfl) rfl fun a hF=>step hF (Y.move hF rfl) rfl fun a hF=>join (N:=21) (rs:=[]) (w0:=w0) (D0:=D0) 6 (us:=[(1,iv most),(2,.pointer (some ⟨b,0,none⟩)),(4,.bool false),(14,.bool ((decide (0≤sv.Low)) && (decide (sv.Low≤sv.High))))]) (ms:=[(1,.cells b [iv sv.Low,iv sv.High] 27)]) (D':=D0) ?_ ?_)))))
 ·rcases bcases (decide (0≤sv.Low)) with hbv | hbv
  ·skip
   refine guard_on hF rfl rfl hbv (step hF (Y.fieldAddr fo_27_0 hF rfl) rfl fun a hF=>guard_on hF rfl rfl hbv (step hF (Y.load1L 1 sz_3 hF rfl hS rfl rfl) rfl fun a hF=>guard_on hF rfl rfl hbv (step hF (Y.fieldAddr fo_27_1 hF rfl) rfl fun a hF=>guard_on hF rfl rfl hbv (step hF (Y.load1L 1 sz_3 hF rfl hS rfl rfl) rfl fun a hF=>guard_on hF rfl rfl hbv (step hF (Y.leq hF rfl rfl) rfl fun a hF=>step hF (Y.pick_t hF rfl hbv rfl) rfl fun a hF=>nT ⟨hF.weak ⟨rfl,rfl,rfl,(by rw [hbv];rfl),trivial⟩,hS.weak ⟨rfl,trivial⟩⟩)))))
  refine guard_off hF rfl rfl hbv rfl fun a hF=>guard_off hF rfl rfl hbv rfl fun a hF=>guard_off hF rfl rfl hbv rfl fun a hF=>guard_off hF rfl rfl hbv rfl fun a hF=>guard_off hF rfl rfl hbv rfl fun a hF=>step hF (Y.pick_f hF rfl hbv rfl) rfl fun a hF=>nT ⟨hF.weak ⟨rfl,rfl,rfl,(by rw [hbv];rfl),trivial⟩,hS.weak ⟨rfl,trivial⟩⟩
 intro a w hF hS
 refine step hF (Y.move hF rfl) rfl fun a hF=>join (N:=21) (rs:=[]) (w0:=w0) (D0:=D0) 5 (us:=[(4,.bool false),(20,.bool (((decide (0≤sv.Low)) && (decide (sv.Low≤sv.High))) && (decide (sv.High≤most))))]) (ms:=[(1,.cells b [iv sv.Low,iv sv.High] 27)]) (D':=D0) ?_ ?_
 ·rcases bcases ((decide (0≤sv.Low)) && (decide (sv.Low≤sv.High))) with hbv_1 | hbv_1
  ·skip
   refine guard_on hF rfl rfl hbv_1 (step hF (Y.fieldAddr fo_27_1 hF rfl) rfl fun a hF=>guard_on hF rfl rfl hbv_1 (step hF (Y.load1L 1 sz_3 hF rfl hS rfl rfl) rfl fun a hF=>guard_on hF rfl rfl hbv_1 (step hF (Y.move hF rfl) rfl fun a hF=>guard_on hF rfl rfl hbv_1 (step hF (Y.leq hF rfl rfl) rfl fun a hF=>step hF (Y.pick_t hF rfl hbv_1 rfl) rfl fun a hF=>nT ⟨hF.weak ⟨rfl,(by rw [hbv_1];rfl),trivial⟩,hS.weak ⟨rfl,trivial⟩⟩))))
  refine guard_off hF rfl rfl hbv_1 rfl fun a hF=>guard_off hF rfl rfl hbv_1 rfl fun a hF=>guard_off hF rfl rfl hbv_1 rfl fun a hF=>guard_off hF rfl rfl hbv_1 rfl fun a hF=>step hF (Y.pick_f hF rfl hbv_1 rfl) rfl fun a hF=>nT ⟨hF.weak ⟨rfl,(by rw [hbv_1];rfl),trivial⟩,hS.weak ⟨rfl,trivial⟩⟩
 intro a w hF hS
 refine step hF (Y.assign hF rfl) rfl fun a hF=>nT (ret_ ?_)
 obtain rfl:=some_inj h
 exact leaveP Tryz.results20 hF hS (.cons (.tmp rfl) .nil) .nil rfl
noncomputable def line_Check_b2 (n:LineNet):(Bool × Int)→Option ((Bool × Int) ⊕ Int)
 | (ok_1,v68_0)=>
  cond (decide (v68_0 < (n.Loops.length:Int)))
  ((idx n.Loops v68_0).bind fun e_1=>
  (cond ok_1 ((line_lies e_1.Exchange 0 (wr (n.Exchanges - 1))).bind fun rv_5=>
  some rv_5) (some false)).bind fun t_4=>
  (cond t_4 ((line_isSpan e_1.Read 12000).bind fun rv_6=>
  some rv_6) (some false)).bind fun t_5=>
  nxt (t_5,wr (v68_0 + 1)))
  (ext (cond (!ok_1)
  (some 60)
  (some 0)))
noncomputable def line_Check_b1 (n:LineNet):(Bool × Int)→Option ((Bool × Int) ⊕ Int)
 | (ok,v31_0)=>
  cond (decide (v31_0 < (n.Lines.length:Int)))
  ((idx n.Lines v31_0).bind fun e=>
  (cond ok ((line_lies e.From 0 (wr (n.Exchanges - 1))).bind fun rv_2=>
  some rv_2) (some false)).bind fun t_1=>
  (cond t_1 ((line_lies e.To 0 (wr (n.Exchanges - 1))).bind fun rv_3=>
  some rv_3) (some false)).bind fun t_2=>
  (cond (t_2 && (e.From != e.To)) ((line_isSpan e.Delay 1000).bind fun rv_4=>
  some rv_4) (some false)).bind fun t_3=>
  nxt (t_3,wr (v31_0 + 1)))
  (ext (loopU (line_Check_b2 n) (ok,0)))
noncomputable def line_Check (n:LineNet):Option Int:=
  (line_lies n.Exchanges 1 7).bind fun rv=>
  (cond (rv && (decide ((n.Lines.length:Int)≤12))) ((line_lies n.Hops 1 6).bind fun rv_1=>
  some rv_1) (some false)).bind fun t=>
  loopU (line_Check_b1 n) ((t && (decide ((n.Loops.length:Int)≤10))),0)
theorem line_Check_ok {w0:World} {D0:Stab} (hD:D0.on w0) (n:LineNet) {p:Option Addr} {c:Nat} {p_1:Option Addr} {c_1:Nat} (hs:SRc C_LineLine D0 n.Lines p c) (hs_1:SRc C_LineLoop D0 n.Loops p_1 c_1) (out:Int) (h:line_Check n=some out):Calls Tryz.prog 4 [.agg #[iv n.Exchanges,.slice p n.Lines.length c,iv n.Hops,.slice p_1 n.Loops.length c_1]].toArray w0 (RetP D0 w0 (iv out)):=by
 refine enter _ 89 Tryz.func4 rfl Tryz.ntmps4 rfl fun a hF=>?_
 replace hF:Frm 89 [] [(0,.agg #[iv n.Exchanges,.slice p n.Lines.length c,iv n.Hops,.slice p_1 n.Loops.length c_1])] a:=hF
 have hS:=St.start hD
 unfold line_Check at h
 refine seq (region (O.box (cs:=[iv n.Exchanges,.slice p n.Lines.length c,iv n.Hops,.slice p_1 n.Loops.length c_1]) 1 hF rfl rfl hS rfl fun b a w hF hS=>step hF (Y.assign hF rfl) rfl fun a hF=>nT (seq (region (step hF (Y.fieldAddr fo_25_0 hF rfl) rfl fun a hF=>step hF (Y.load1L 1 sz_3 hF rfl hS rfl rfl) rfl fun a hF=>?_)))))
 obtain ⟨rv,hx,h⟩:=bind_some h
 refine O.callP (us:=[iv n.Exchanges,iv 1,iv 7]) ca_19 hF hS (line_lies_ok hS.stab n.Exchanges 1 7 rv hx) rfl rfl fun a w hF hS=>step hF (Y.move hF rfl) rfl fun a hF=>join (N:=89) (rs:=[]) (w0:=w0) (D0:=D0) 5 (us:=[(1,.pointer (some ⟨b,0,none⟩)),(2,iv 0),(16,.bool (rv && (decide ((n.Lines.length:Int)≤12))))]) (ms:=[(1,.cells b [iv n.Exchanges,.slice p n.Lines.length c,iv n.Hops,.slice p_1 n.Loops.length c_1] 25)]) (D':=D0) ?_ ?_
 ·rcases bcases rv with hbv | hbv
  ·skip
   refine guard_on hF rfl rfl hbv (step hF (Y.fieldAddr fo_25_1 hF rfl) rfl fun a hF=>guard_on hF rfl rfl hbv (step hF (Y.load1L 1 sz_22 hF rfl hS rfl rfl) rfl fun a hF=>guard_on hF rfl rfl hbv (step hF (Y.lenSl u_22 hF rfl) rfl fun a hF=>guard_on hF rfl rfl hbv (step hF (Y.leq hF rfl rfl) rfl fun a hF=>step hF (Y.pick_t hF rfl hbv rfl) rfl fun a hF=>nT ⟨hF.weak ⟨rfl,rfl,(by rw [hbv];rfl),trivial⟩,hS.weak ⟨rfl,trivial⟩⟩))))
  refine guard_off hF rfl rfl hbv rfl fun a hF=>guard_off hF rfl rfl hbv rfl fun a hF=>guard_off hF rfl rfl hbv rfl fun a hF=>guard_off hF rfl rfl hbv rfl fun a hF=>step hF (Y.pick_f hF rfl hbv rfl) rfl fun a hF=>nT ⟨hF.weak ⟨rfl,rfl,(by rw [hbv];rfl),trivial⟩,hS.weak ⟨rfl,trivial⟩⟩
 intro a w hF hS
 refine step hF (Y.move hF rfl) rfl fun a hF=>?_
 obtain ⟨t,ht,h⟩:=bind_some h
 refine join (N:=89) (rs:=[]) (w0:=w0) (D0:=D0) 4 (us:=[(1,.pointer (some ⟨b,0,none⟩)),(2,iv 0),(21,.bool t)]) (ms:=[(1,.cells b [iv n.Exchanges,.slice p n.Lines.length c,iv n.Hops,.slice p_1 n.Loops.length c_1] 25)]) (D':=D0) ?_ ?_
 ·rcases bcases (rv && (decide ((n.Lines.length:Int)≤12))) with hbv_1 | hbv_1
  ·skip
   replace h:=cond_t ht hbv_1
   refine guard_on hF rfl rfl hbv_1 (step hF (Y.fieldAddr fo_25_2 hF rfl) rfl fun a hF=>guard_on hF rfl rfl hbv_1 (step hF (Y.load1L 1 sz_3 hF rfl hS rfl rfl) rfl fun a hF=>guard_on hF rfl rfl hbv_1 ?_))
   obtain ⟨rv_1,hx_1,h⟩:=bind_some h
   refine O.callP (us:=[iv n.Hops,iv 1,iv 6]) ca_19 hF hS (line_lies_ok hS.stab n.Hops 1 6 rv_1 hx_1) rfl rfl fun a w hF hS=>step hF (Y.pick_t hF rfl hbv_1 rfl) rfl fun a hF=>?_
   obtain rfl:=some_inj h
   exact nT ⟨hF.weak (AF rfl),hS.weak ⟨rfl,trivial⟩⟩
  replace h:=cond_f ht hbv_1
  refine guard_off hF rfl rfl hbv_1 rfl fun a hF=>guard_off hF rfl rfl hbv_1 rfl fun a hF=>guard_off hF rfl rfl hbv_1 rfl fun a hF=>step hF (Y.pick_f hF rfl hbv_1 rfl) rfl fun a hF=>?_
  obtain rfl:=some_inj h
  exact nT ⟨hF.weak (AF rfl),hS.weak ⟨rfl,trivial⟩⟩
 intro a w hF hS
 refine step hF (Y.move hF rfl) rfl fun a hF=>join (N:=89) (rs:=[]) (w0:=w0) (D0:=D0) 5 (us:=[(1,.pointer (some ⟨b,0,none⟩)),(2,iv 0),(27,.bool (t && (decide ((n.Loops.length:Int)≤10))))]) (ms:=[(1,.cells b [iv n.Exchanges,.slice p n.Lines.length c,iv n.Hops,.slice p_1 n.Loops.length c_1] 25)]) (D':=D0) ?_ ?_
 ·rcases bcases t with hbv_2 | hbv_2
  ·skip
   refine guard_on hF rfl rfl hbv_2 (step hF (Y.fieldAddr fo_25_3 hF rfl) rfl fun a hF=>guard_on hF rfl rfl hbv_2 (step hF (Y.load1L 1 sz_23 hF rfl hS rfl rfl) rfl fun a hF=>guard_on hF rfl rfl hbv_2 (step hF (Y.lenSl u_23 hF rfl) rfl fun a hF=>guard_on hF rfl rfl hbv_2 (step hF (Y.leq hF rfl rfl) rfl fun a hF=>step hF (Y.pick_t hF rfl hbv_2 rfl) rfl fun a hF=>nT ⟨hF.weak ⟨rfl,rfl,(by rw [hbv_2];rfl),trivial⟩,hS.weak ⟨rfl,trivial⟩⟩))))
  refine guard_off hF rfl rfl hbv_2 rfl fun a hF=>guard_off hF rfl rfl hbv_2 rfl fun a hF=>guard_off hF rfl rfl hbv_2 rfl fun a hF=>guard_off hF rfl rfl hbv_2 rfl fun a hF=>step hF (Y.pick_f hF rfl hbv_2 rfl) rfl fun a hF=>nT ⟨hF.weak ⟨rfl,rfl,(by rw [hbv_2];rfl),trivial⟩,hS.weak ⟨rfl,trivial⟩⟩
 intro a w hF hS
 refine step hF (Y.assign hF rfl) rfl fun a hF=>nT (seq (seq (region (step hF (Y.fieldAddr fo_25_1 hF rfl) rfl fun a hF=>step hF (Y.load1L 1 sz_22 hF rfl hS rfl rfl) rfl fun a hF=>step hF (Y.lenSl u_22 hF rfl) rfl fun a hF=>step hF (Y.move hF rfl) rfl fun a hF=>nT (block (loop_cut (body:=line_Check_b1 n) (out:=out) (fun s a w=>∃ (ok:Bool) (v31_0:Int),s=(ok,v31_0)∧Frm 89 [] [(1,.pointer (some ⟨b,0,none⟩)),(2,iv 0),(3,.bool ok),(29,.slice p n.Lines.length c),(30,iv (n.Lines.length:Int)),(31,iv v31_0)] a∧St w0 D0 D0 [(1,.cells b [iv n.Exchanges,.slice p n.Lines.length c,iv n.Hops,.slice p_1 n.Loops.length c_1] 25)] w) ((t && (decide ((n.Loops.length:Int)≤10))),0) h ⟨(t && (decide ((n.Loops.length:Int)≤10))),0,rfl,hF.weak (AF rfl),hS.weak ⟨rfl,trivial⟩⟩ ?_))))))
 rintro s a w xo ⟨ok,v31_0,rfl,hF,hS⟩ h hxo
 unfold line_Check_b1 at h
 dsimp only at h
 refine seq (region (step hF (Y.lss hF rfl rfl) rfl fun a hF=>nT (seq (cond_b hF rfl (fun hbv_3=>?_) (fun hbv_3=>?_)))))
 ·replace h:=cond_t h hbv_3
  refine skip_ (then_n (seq (block (seq (region ?_)))))
  obtain ⟨e,hx_2,h⟩:=bind_some h
  obtain ⟨b_1,o,hE,hY⟩:=Y.indexS (P:=Tryz.prog) (C:=C_LineLine) (xs:=n.Lines) (T:=22) (x:=(.tmp 29)) (y:=(.tmp 31)) u_22 sz_60 hF rfl rfl (hs).1 hx_2
  obtain ⟨cc,hc,hcell⟩:=hE.open
  obtain rfl:=C_LineLine.open hc
  refine step hF (hY) rfl fun a hF=>step hF (Y.loadNE (o:=o) (k:=0) sz_60 hF rfl (hcell _ hS.stab) rfl rfl) rfl fun a hF=>O.alloc 2 zc_60 hF hS rfl fun b_2 a w hF hS=>O.store (us:=[iv e.From,iv e.To,iv e.Delay.Low,iv e.Delay.High]) 2 sz_60 hF rfl rfl rfl rfl hS rfl rfl fun a w hF hS=>nT (region (step hF (Y.move hF rfl) rfl fun a hF=>step hF (Y.move hF rfl) rfl fun a hF=>?_))
  obtain ⟨t_1,ht_1,h⟩:=bind_some h
  refine join (N:=89) (rs:=[]) (w0:=w0) (D0:=D0) 7 (us:=[(1,.pointer (some ⟨b,0,none⟩)),(2,iv 0),(3,.bool ok),(5,.pointer (some ⟨b_2,0,none⟩)),(29,.slice p n.Lines.length c),(30,iv (n.Lines.length:Int)),(31,iv v31_0),(43,.bool t_1)]) (ms:=[(1,.cells b [iv n.Exchanges,.slice p n.Lines.length c,iv n.Hops,.slice p_1 n.Loops.length c_1] 25),(2,.cells b_2 [iv e.From,iv e.To,iv e.Delay.Low,iv e.Delay.High] 60)]) (D':=D0) ?_ ?_
  ·rcases bcases ok with hbv_4 | hbv_4
   ·skip
    replace h:=cond_t ht_1 hbv_4
    refine guard_on hF rfl rfl hbv_4 (step hF (Y.fieldAddr fo_60_0 hF rfl) rfl fun a hF=>guard_on hF rfl rfl hbv_4 (step hF (Y.load1L 2 sz_3 hF rfl hS rfl rfl) rfl fun a hF=>guard_on hF rfl rfl hbv_4 (step hF (Y.fieldAddr fo_25_0 hF rfl) rfl fun a hF=>guard_on hF rfl rfl hbv_4 (step hF (Y.load1L 1 sz_3 hF rfl hS rfl rfl) rfl fun a hF=>guard_on hF rfl rfl hbv_4 (step hF (Y.sub hF rfl rfl) rfl fun a hF=>guard_on hF rfl rfl hbv_4 ?_)))))
    obtain ⟨rv_2,hx_3,h⟩:=bind_some h
    refine O.callP (us:=[iv e.From,iv 0,iv (wr (n.Exchanges - 1))]) ca_19 hF hS (line_lies_ok hS.stab e.From 0 (wr (n.Exchanges - 1)) rv_2 hx_3) rfl rfl fun a w hF hS=>step hF (Y.pick_t hF rfl hbv_4 rfl) rfl fun a hF=>?_
    obtain rfl:=some_inj h
    exact nT ⟨hF.weak (AF rfl),hS.weak ⟨rfl,rfl,trivial⟩⟩
   replace h:=cond_f ht_1 hbv_4
   refine guard_off hF rfl rfl hbv_4 rfl fun a hF=>guard_off hF rfl rfl hbv_4 rfl fun a hF=>guard_off hF rfl rfl hbv_4 rfl fun a hF=>guard_off hF rfl rfl hbv_4 rfl fun a hF=>guard_off hF rfl rfl hbv_4 rfl fun a hF=>guard_off hF rfl rfl hbv_4 rfl fun a hF=>step hF (Y.pick_f hF rfl hbv_4 rfl) rfl fun a hF=>?_
   obtain rfl:=some_inj h
   exact nT ⟨hF.weak (AF rfl),hS.weak ⟨rfl,rfl,trivial⟩⟩
  intro a w hF hS
  refine step hF (Y.move hF rfl) rfl fun a hF=>?_
  obtain ⟨t_2,ht_2,h⟩:=bind_some h
  refine join (N:=89) (rs:=[]) (w0:=w0) (D0:=D0) 7 (us:=[(1,.pointer (some ⟨b,0,none⟩)),(2,iv 0),(3,.bool ok),(5,.pointer (some ⟨b_2,0,none⟩)),(29,.slice p n.Lines.length c),(30,iv (n.Lines.length:Int)),(31,iv v31_0),(51,.bool t_2)]) (ms:=[(1,.cells b [iv n.Exchanges,.slice p n.Lines.length c,iv n.Hops,.slice p_1 n.Loops.length c_1] 25),(2,.cells b_2 [iv e.From,iv e.To,iv e.Delay.Low,iv e.Delay.High] 60)]) (D':=D0) ?_ ?_
  ·rcases bcases t_1 with hbv_5 | hbv_5
   ·skip
    replace h:=cond_t ht_2 hbv_5
    refine guard_on hF rfl rfl hbv_5 (step hF (Y.fieldAddr fo_60_1 hF rfl) rfl fun a hF=>guard_on hF rfl rfl hbv_5 (step hF (Y.load1L 2 sz_3 hF rfl hS rfl rfl) rfl fun a hF=>guard_on hF rfl rfl hbv_5 (step hF (Y.fieldAddr fo_25_0 hF rfl) rfl fun a hF=>guard_on hF rfl rfl hbv_5 (step hF (Y.load1L 1 sz_3 hF rfl hS rfl rfl) rfl fun a hF=>guard_on hF rfl rfl hbv_5 (step hF (Y.sub hF rfl rfl) rfl fun a hF=>guard_on hF rfl rfl hbv_5 ?_)))))
    obtain ⟨rv_3,hx_4,h⟩:=bind_some h
    refine O.callP (us:=[iv e.To,iv 0,iv (wr (n.Exchanges - 1))]) ca_19 hF hS (line_lies_ok hS.stab e.To 0 (wr (n.Exchanges - 1)) rv_3 hx_4) rfl rfl fun a w hF hS=>step hF (Y.pick_t hF rfl hbv_5 rfl) rfl fun a hF=>?_
    obtain rfl:=some_inj h
    exact nT ⟨hF.weak (AF rfl),hS.weak ⟨rfl,rfl,trivial⟩⟩
   replace h:=cond_f ht_2 hbv_5
   refine guard_off hF rfl rfl hbv_5 rfl fun a hF=>guard_off hF rfl rfl hbv_5 rfl fun a hF=>guard_off hF rfl rfl hbv_5 rfl fun a hF=>guard_off hF rfl rfl hbv_5 rfl fun a hF=>guard_off hF rfl rfl hbv_5 rfl fun a hF=>guard_off hF rfl rfl hbv_5 rfl fun a hF=>step hF (Y.pick_f hF rfl hbv_5 rfl) rfl fun a hF=>?_
   obtain rfl:=some_inj h
   exact nT ⟨hF.weak (AF rfl),hS.weak ⟨rfl,rfl,trivial⟩⟩
  intro a w hF hS
  refine step hF (Y.move hF rfl) rfl fun a hF=>join (N:=89) (rs:=[]) (w0:=w0) (D0:=D0) 6 (us:=[(1,.pointer (some ⟨b,0,none⟩)),(2,iv 0),(3,.bool ok),(5,.pointer (some ⟨b_2,0,none⟩)),(29,.slice p n.Lines.length c),(30,iv (n.Lines.length:Int)),(31,iv v31_0),(58,.bool (t_2 && (e.From != e.To)))]) (ms:=[(1,.cells b [iv n.Exchanges,.slice p n.Lines.length c,iv n.Hops,.slice p_1 n.Loops.length c_1] 25),(2,.cells b_2 [iv e.From,iv e.To,iv e.Delay.Low,iv e.Delay.High] 60)]) (D':=D0) ?_ ?_
  ·rcases bcases t_2 with hbv_6 | hbv_6
   ·skip
    refine guard_on hF rfl rfl hbv_6 (step hF (Y.fieldAddr fo_60_0 hF rfl) rfl fun a hF=>guard_on hF rfl rfl hbv_6 (step hF (Y.load1L 2 sz_3 hF rfl hS rfl rfl) rfl fun a hF=>guard_on hF rfl rfl hbv_6 (step hF (Y.fieldAddr fo_60_1 hF rfl) rfl fun a hF=>guard_on hF rfl rfl hbv_6 (step hF (Y.load1L 2 sz_3 hF rfl hS rfl rfl) rfl fun a hF=>guard_on hF rfl rfl hbv_6 (step hF (Y.neq hF rfl rfl) rfl fun a hF=>step hF (Y.pick_t hF rfl hbv_6 rfl) rfl fun a hF=>nT ⟨hF.weak ⟨rfl,rfl,rfl,rfl,rfl,rfl,rfl,(by rw [hbv_6];rfl),trivial⟩,hS.weak ⟨rfl,rfl,trivial⟩⟩)))))
   refine guard_off hF rfl rfl hbv_6 rfl fun a hF=>guard_off hF rfl rfl hbv_6 rfl fun a hF=>guard_off hF rfl rfl hbv_6 rfl fun a hF=>guard_off hF rfl rfl hbv_6 rfl fun a hF=>guard_off hF rfl rfl hbv_6 rfl fun a hF=>step hF (Y.pick_f hF rfl hbv_6 rfl) rfl fun a hF=>nT ⟨hF.weak ⟨rfl,rfl,rfl,rfl,rfl,rfl,rfl,(by rw [hbv_6];rfl),trivial⟩,hS.weak ⟨rfl,rfl,trivial⟩⟩
  intro a w hF hS
  refine step hF (Y.move hF rfl) rfl fun a hF=>?_
  obtain ⟨t_3,ht_3,h⟩:=bind_some h
  refine join (N:=89) (rs:=[]) (w0:=w0) (D0:=D0) 4 (us:=[(1,.pointer (some ⟨b,0,none⟩)),(2,iv 0),(3,.bool ok),(29,.slice p n.Lines.length c),(30,iv (n.Lines.length:Int)),(31,iv v31_0),(63,.bool t_3)]) (ms:=[(1,.cells b [iv n.Exchanges,.slice p n.Lines.length c,iv n.Hops,.slice p_1 n.Loops.length c_1] 25),(2,.cells b_2 [iv e.From,iv e.To,iv e.Delay.Low,iv e.Delay.High] 60)]) (D':=D0) ?_ ?_
  ·rcases bcases (t_2 && (e.From != e.To)) with hbv_7 | hbv_7
   ·skip
    replace h:=cond_t ht_3 hbv_7
    refine guard_on hF rfl rfl hbv_7 (step hF (Y.fieldAddr fo_60_2 hF rfl) rfl fun a hF=>guard_on hF rfl rfl hbv_7 (step hF (Y.loadNL 2 sz_27 hF rfl hS rfl rfl rfl) rfl fun a hF=>guard_on hF rfl rfl hbv_7 ?_))
    obtain ⟨rv_4,hx_5,h⟩:=bind_some h
    refine O.callP (us:=[.agg #[iv e.Delay.Low,iv e.Delay.High],iv 1000]) ca_20 hF hS (line_isSpan_ok hS.stab e.Delay 1000 rv_4 hx_5) rfl rfl fun a w hF hS=>step hF (Y.pick_t hF rfl hbv_7 rfl) rfl fun a hF=>?_
    obtain rfl:=some_inj h
    exact nT ⟨hF.weak (AF rfl),hS.weak ⟨rfl,rfl,trivial⟩⟩
   replace h:=cond_f ht_3 hbv_7
   refine guard_off hF rfl rfl hbv_7 rfl fun a hF=>guard_off hF rfl rfl hbv_7 rfl fun a hF=>guard_off hF rfl rfl hbv_7 rfl fun a hF=>step hF (Y.pick_f hF rfl hbv_7 rfl) rfl fun a hF=>?_
   obtain rfl:=some_inj h
   exact nT ⟨hF.weak (AF rfl),hS.weak ⟨rfl,rfl,trivial⟩⟩
  intro a w hF hS
  refine step hF (Y.assign hF rfl) rfl fun a hF=>nil (blk_n (then_n (region (step hF (Y.add hF rfl rfl) rfl fun a hF=>step hF (Y.move hF rfl) rfl fun a hF=>nT (⟨_,nxt_some h,t_3,(wr (v31_0 + 1)),rfl,hF.weak (AF rfl),hS.weak ⟨rfl,trivial⟩⟩)))))
 replace h:=cond_f h hbv_3
 refine exit_ (then_x (then_x (blk_hit (then_n ?_))))
 replace h:=ext_some h hxo
 refine seq (seq (region (step hF (Y.fieldAddr fo_25_3 hF rfl) rfl fun a hF=>step hF (Y.load1L 1 sz_23 hF rfl hS rfl rfl) rfl fun a hF=>step hF (Y.lenSl u_23 hF rfl) rfl fun a hF=>step hF (Y.move hF rfl) rfl fun a hF=>nT (block (loop_cut (body:=line_Check_b2 n) (out:=out) (fun s a w=>∃ (ok_1:Bool) (v68_0:Int),s=(ok_1,v68_0)∧Frm 89 [] [(1,.pointer (some ⟨b,0,none⟩)),(2,iv 0),(3,.bool ok_1),(66,.slice p_1 n.Loops.length c_1),(67,iv (n.Loops.length:Int)),(68,iv v68_0)] a∧St w0 D0 D0 [(1,.cells b [iv n.Exchanges,.slice p n.Lines.length c,iv n.Hops,.slice p_1 n.Loops.length c_1] 25)] w) (ok,0) h ⟨ok,0,rfl,hF.weak (AF rfl),hS.weak ⟨rfl,trivial⟩⟩ ?_)))))
 rintro s a w xo_1 ⟨ok_1,v68_0,rfl,hF,hS⟩ h hxo_1
 unfold line_Check_b2 at h
 dsimp only at h
 refine seq (region (step hF (Y.lss hF rfl rfl) rfl fun a hF=>nT (seq (cond_b hF rfl (fun hbv_8=>?_) (fun hbv_8=>?_)))))
 ·replace h:=cond_t h hbv_8
  refine skip_ (then_n (seq (block (seq (region ?_)))))
  obtain ⟨e_1,hx_6,h⟩:=bind_some h
  obtain ⟨b_3,o_1,hE_1,hY_1⟩:=Y.indexS (P:=Tryz.prog) (C:=C_LineLoop) (xs:=n.Loops) (T:=23) (x:=(.tmp 66)) (y:=(.tmp 68)) u_23 sz_62 hF rfl rfl (hs_1).1 hx_6
  obtain ⟨cc_1,hc_1,hcell_1⟩:=hE_1.open
  obtain rfl:=C_LineLoop.open hc_1
  refine step hF (hY_1) rfl fun a hF=>step hF (Y.loadNE (o:=o_1) (k:=0) sz_62 hF rfl (hcell_1 _ hS.stab) rfl rfl) rfl fun a hF=>O.alloc 3 zc_62 hF hS rfl fun b_4 a w hF hS=>O.store (us:=[iv e_1.Exchange,iv e_1.Read.Low,iv e_1.Read.High]) 3 sz_62 hF rfl rfl rfl rfl hS rfl rfl fun a w hF hS=>nT (region (step hF (Y.move hF rfl) rfl fun a hF=>step hF (Y.move hF rfl) rfl fun a hF=>?_))
  obtain ⟨t_4,ht_4,h⟩:=bind_some h
  refine join (N:=89) (rs:=[]) (w0:=w0) (D0:=D0) 7 (us:=[(1,.pointer (some ⟨b,0,none⟩)),(2,iv 0),(3,.bool ok_1),(7,.pointer (some ⟨b_4,0,none⟩)),(66,.slice p_1 n.Loops.length c_1),(67,iv (n.Loops.length:Int)),(68,iv v68_0),(80,.bool t_4)]) (ms:=[(1,.cells b [iv n.Exchanges,.slice p n.Lines.length c,iv n.Hops,.slice p_1 n.Loops.length c_1] 25),(3,.cells b_4 [iv e_1.Exchange,iv e_1.Read.Low,iv e_1.Read.High] 62)]) (D':=D0) ?_ ?_
  ·rcases bcases ok_1 with hbv_9 | hbv_9
   ·skip
    replace h:=cond_t ht_4 hbv_9
    refine guard_on hF rfl rfl hbv_9 (step hF (Y.fieldAddr fo_62_0 hF rfl) rfl fun a hF=>guard_on hF rfl rfl hbv_9 (step hF (Y.load1L 3 sz_3 hF rfl hS rfl rfl) rfl fun a hF=>guard_on hF rfl rfl hbv_9 (step hF (Y.fieldAddr fo_25_0 hF rfl) rfl fun a hF=>guard_on hF rfl rfl hbv_9 (step hF (Y.load1L 1 sz_3 hF rfl hS rfl rfl) rfl fun a hF=>guard_on hF rfl rfl hbv_9 (step hF (Y.sub hF rfl rfl) rfl fun a hF=>guard_on hF rfl rfl hbv_9 ?_)))))
    obtain ⟨rv_5,hx_7,h⟩:=bind_some h
    refine O.callP (us:=[iv e_1.Exchange,iv 0,iv (wr (n.Exchanges - 1))]) ca_19 hF hS (line_lies_ok hS.stab e_1.Exchange 0 (wr (n.Exchanges - 1)) rv_5 hx_7) rfl rfl fun a w hF hS=>step hF (Y.pick_t hF rfl hbv_9 rfl) rfl fun a hF=>?_
    obtain rfl:=some_inj h
    exact nT ⟨hF.weak (AF rfl),hS.weak ⟨rfl,rfl,trivial⟩⟩
   replace h:=cond_f ht_4 hbv_9
   refine guard_off hF rfl rfl hbv_9 rfl fun a hF=>guard_off hF rfl rfl hbv_9 rfl fun a hF=>guard_off hF rfl rfl hbv_9 rfl fun a hF=>guard_off hF rfl rfl hbv_9 rfl fun a hF=>guard_off hF rfl rfl hbv_9 rfl fun a hF=>guard_off hF rfl rfl hbv_9 rfl fun a hF=>step hF (Y.pick_f hF rfl hbv_9 rfl) rfl fun a hF=>?_
   obtain rfl:=some_inj h
   exact nT ⟨hF.weak (AF rfl),hS.weak ⟨rfl,rfl,trivial⟩⟩
  intro a w hF hS
  refine step hF (Y.move hF rfl) rfl fun a hF=>?_
  obtain ⟨t_5,ht_5,h⟩:=bind_some h
  refine join (N:=89) (rs:=[]) (w0:=w0) (D0:=D0) 4 (us:=[(1,.pointer (some ⟨b,0,none⟩)),(2,iv 0),(3,.bool ok_1),(66,.slice p_1 n.Loops.length c_1),(67,iv (n.Loops.length:Int)),(68,iv v68_0),(85,.bool t_5)]) (ms:=[(1,.cells b [iv n.Exchanges,.slice p n.Lines.length c,iv n.Hops,.slice p_1 n.Loops.length c_1] 25),(3,.cells b_4 [iv e_1.Exchange,iv e_1.Read.Low,iv e_1.Read.High] 62)]) (D':=D0) ?_ ?_
  ·rcases bcases t_4 with hbv_10 | hbv_10
   ·skip
    replace h:=cond_t ht_5 hbv_10
    refine guard_on hF rfl rfl hbv_10 (step hF (Y.fieldAddr fo_62_1 hF rfl) rfl fun a hF=>guard_on hF rfl rfl hbv_10 (step hF (Y.loadNL 3 sz_27 hF rfl hS rfl rfl rfl) rfl fun a hF=>guard_on hF rfl rfl hbv_10 ?_))
    obtain ⟨rv_6,hx_8,h⟩:=bind_some h
    refine O.callP (us:=[.agg #[iv e_1.Read.Low,iv e_1.Read.High],iv 12000]) ca_20 hF hS (line_isSpan_ok hS.stab e_1.Read 12000 rv_6 hx_8) rfl rfl fun a w hF hS=>step hF (Y.pick_t hF rfl hbv_10 rfl) rfl fun a hF=>?_
    obtain rfl:=some_inj h
    exact nT ⟨hF.weak (AF rfl),hS.weak ⟨rfl,rfl,trivial⟩⟩
   replace h:=cond_f ht_5 hbv_10
   refine guard_off hF rfl rfl hbv_10 rfl fun a hF=>guard_off hF rfl rfl hbv_10 rfl fun a hF=>guard_off hF rfl rfl hbv_10 rfl fun a hF=>step hF (Y.pick_f hF rfl hbv_10 rfl) rfl fun a hF=>?_
   obtain rfl:=some_inj h
   exact nT ⟨hF.weak (AF rfl),hS.weak ⟨rfl,rfl,trivial⟩⟩
  intro a w hF hS
  refine step hF (Y.assign hF rfl) rfl fun a hF=>nil (blk_n (then_n (region (step hF (Y.add hF rfl rfl) rfl fun a hF=>step hF (Y.move hF rfl) rfl fun a hF=>nT (⟨_,nxt_some h,t_5,(wr (v68_0 + 1)),rfl,hF.weak (AF rfl),hS.weak ⟨rfl,trivial⟩⟩)))))
 replace h:=cond_f h hbv_8
 refine exit_ (then_x (then_x (blk_hit (then_n ?_))))
 replace h:=ext_some h hxo_1
 refine seq (seq (region (step hF (Y.move hF rfl) rfl fun a hF=>step hF (Y.not hF rfl) rfl fun a hF=>nT (cond_b hF rfl (fun hbv_11=>?_) (fun hbv_11=>?_)))))
 ·replace h:=cond_t h hbv_11
  refine seq (region (step hF (Y.assign hF rfl) rfl fun a hF=>nT (ret_ (then_r ?_))))
  obtain rfl:=some_inj h
  exact leaveP Tryz.results4 hF hS (.cons (.tmp rfl) .nil) .nil rfl
 replace h:=cond_f h hbv_11
 refine skip_ (then_n (seq (region (step hF (Y.assign hF rfl) rfl fun a hF=>nT (ret_ ?_)))))
 obtain rfl:=some_inj h
 exact leaveP Tryz.results4 hF hS (.cons (.tmp rfl) .nil) .nil rfl
noncomputable def line_low:Option Unit:=
  some ()
theorem line_low_ok {w0:World} {D0:Stab} (hD:D0.on w0) (out:Unit) (h:line_low=some out):Calls Tryz.prog 54 [].toArray w0 (RetP D0 w0 (.agg #[.func (.func 74) #[] #[]])):=by
 refine enter _ 2 Tryz.func54 rfl Tryz.ntmps54 rfl fun a hF=>?_
 replace hF:Frm 2 [] [] a:=hF
 have hS:=St.start hD
 unfold line_low at h
 refine seq (region (O.alloc 1 zc_129 hF hS rfl fun b a w hF hS=>nT (seq (region (step hF (Y.build (parts:=[(0,(.func 74))]) (cs:=#[.func (.func 74) #[] #[]]) hF rfl (by kernel_rfl)) rfl fun a hF=>O.store (us:=[.func (.func 74) #[] #[]]) 1 sz_129 hF rfl rfl rfl rfl hS rfl rfl fun a w hF hS=>nT (ret_ (leaveP Tryz.results54 hF hS (.cons (.cellN 1 sz_129 rfl rfl rfl) .nil) .nil rfl)))))))
noncomputable def line_high:Option Unit:=
  some ()
theorem line_high_ok {w0:World} {D0:Stab} (hD:D0.on w0) (out:Unit) (h:line_high=some out):Calls Tryz.prog 55 [].toArray w0 (RetP D0 w0 (.agg #[.func (.func 75) #[] #[]])):=by
 refine enter _ 2 Tryz.func55 rfl Tryz.ntmps55 rfl fun a hF=>?_
 replace hF:Frm 2 [] [] a:=hF
 have hS:=St.start hD
 unfold line_high at h
 refine seq (region (O.alloc 1 zc_129 hF hS rfl fun b a w hF hS=>nT (seq (region (step hF (Y.build (parts:=[(0,(.func 75))]) (cs:=#[.func (.func 75) #[] #[]]) hF rfl (by kernel_rfl)) rfl fun a hF=>O.store (us:=[.func (.func 75) #[] #[]]) 1 sz_129 hF rfl rfl rfl rfl hS rfl rfl fun a w hF hS=>nT (ret_ (leaveP Tryz.results55 hF hS (.cons (.cellN 1 sz_129 rfl rfl rfl) .nil) .nil rfl)))))))
noncomputable def line_low_1 (sv:Span):Option Int:=
  some sv.Low
theorem line_low_1_ok {w0:World} {D0:Stab} (hD:D0.on w0) (sv:Span) (out:Int) (h:line_low_1 sv=some out):Calls Tryz.prog 74 [.agg #[iv sv.Low,iv sv.High]].toArray w0 (RetP D0 w0 (iv out)):=by
 refine enter _ 5 Tryz.func74 rfl Tryz.ntmps74 rfl fun a hF=>?_
 replace hF:Frm 5 [] [(0,.agg #[iv sv.Low,iv sv.High])] a:=hF
 have hS:=St.start hD
 unfold line_low_1 at h
 refine seq (region (O.box (cs:=[iv sv.Low,iv sv.High]) 1 hF rfl rfl hS rfl fun b a w hF hS=>step hF (Y.assign hF rfl) rfl fun a hF=>nT (seq (region (step hF (Y.fieldAddr fo_27_0 hF rfl) rfl fun a hF=>step hF (Y.load1L 1 sz_3 hF rfl hS rfl rfl) rfl fun a hF=>step hF (Y.assign hF rfl) rfl fun a hF=>nT (ret_ ?_))))))
 obtain rfl:=some_inj h
 exact leaveP Tryz.results74 hF hS (.cons (.tmp rfl) .nil) .nil rfl
noncomputable def line_high_1 (sv:Span):Option Int:=
  some sv.High
theorem line_high_1_ok {w0:World} {D0:Stab} (hD:D0.on w0) (sv:Span) (out:Int) (h:line_high_1 sv=some out):Calls Tryz.prog 75 [.agg #[iv sv.Low,iv sv.High]].toArray w0 (RetP D0 w0 (iv out)):=by
 refine enter _ 5 Tryz.func75 rfl Tryz.ntmps75 rfl fun a hF=>?_
 replace hF:Frm 5 [] [(0,.agg #[iv sv.Low,iv sv.High])] a:=hF
 have hS:=St.start hD
 unfold line_high_1 at h
 refine seq (region (O.box (cs:=[iv sv.Low,iv sv.High]) 1 hF rfl rfl hS rfl fun b a w hF hS=>step hF (Y.assign hF rfl) rfl fun a hF=>nT (seq (region (step hF (Y.fieldAddr fo_27_1 hF rfl) rfl fun a hF=>step hF (Y.load1L 1 sz_3 hF rfl hS rfl rfl) rfl fun a hF=>step hF (Y.assign hF rfl) rfl fun a hF=>nT (ret_ ?_))))))
 obtain rfl:=some_inj h
 exact leaveP Tryz.results75 hF hS (.cons (.tmp rfl) .nil) .nil rfl
noncomputable def line_sum_int__b1 (l:(List Int)):(Int × Int)→Option ((Int × Int) ⊕ Int)
 | (outv,v8_0)=>
  cond (decide (v8_0 < (l.length:Int)))
  ((idx l v8_0).bind fun e=>
  nxt (wr (outv + e),wr (v8_0 + 1)))
  (ext (some outv))
noncomputable def line_sum_int_ (l:(List Int)):Option Int:=
  loopU (line_sum_int__b1 l) (0,0)
theorem line_sum_int__ok {w0:World} {D0:Stab} (hD:D0.on w0) (l:(List Int)) {p:Option Addr} {c:Nat} (hs:SRc C_int D0 l p c) (out:Int) (h:line_sum_int_ l=some out):Calls Tryz.prog 73 [.slice p l.length c].toArray w0 (RetP D0 w0 (iv out)):=by
 refine enter _ 17 Tryz.func73 rfl Tryz.ntmps73 rfl fun a hF=>?_
 replace hF:Frm 17 [] [(0,.slice p l.length c)] a:=hF
 have hS:=St.start hD
 unfold line_sum_int_ at h
 refine seq (region (step hF (Y.assign hF rfl) rfl fun a hF=>nT (seq (region (step hF (Y.assign hF rfl) rfl fun a hF=>nT (seq (seq (region (step hF (Y.move hF rfl) rfl fun a hF=>step hF (Y.lenSl u_30 hF rfl) rfl fun a hF=>step hF (Y.move hF rfl) rfl fun a hF=>nT (block (loop_cut (body:=line_sum_int__b1 l) (out:=out) (fun s a w=>∃ (outv:Int) (v8_0:Int),s=(outv,v8_0)∧Frm 17 [] [(2,iv 0),(3,iv outv),(6,.slice p l.length c),(7,iv (l.length:Int)),(8,iv v8_0)] a∧St w0 D0 D0 [] w) (0,0) h ⟨0,0,rfl,hF.weak (AF rfl),hS.weak trivial⟩ ?_)))))))))))
 rintro s a w xo ⟨outv,v8_0,rfl,hF,hS⟩ h hxo
 unfold line_sum_int__b1 at h
 dsimp only at h
 refine seq (region (step hF (Y.lss hF rfl rfl) rfl fun a hF=>nT (seq (cond_b hF rfl (fun hbv=>?_) (fun hbv=>?_)))))
 ·replace h:=cond_t h hbv
  refine skip_ (then_n (seq (block (seq (region ?_)))))
  obtain ⟨e,hx,h⟩:=bind_some h
  obtain ⟨b,o,hE,hY⟩:=Y.indexS (P:=Tryz.prog) (C:=C_int) (xs:=l) (T:=30) (x:=(.tmp 6)) (y:=(.tmp 8)) u_30 sz_3 hF rfl rfl (hs).1 hx
  obtain ⟨cc,hc,hcell⟩:=hE.open
  obtain rfl:=hc
  refine step hF (hY) rfl fun a hF=>step hF (Y.load1 sz_3 hF rfl (hcell _ hS.stab 0 _ rfl)) rfl fun a hF=>step hF (Y.assign hF rfl) rfl fun a hF=>nT (region (step hF (Y.move hF rfl) rfl fun a hF=>step hF (Y.move hF rfl) rfl fun a hF=>step hF (Y.add hF rfl rfl) rfl fun a hF=>step hF (Y.assign hF rfl) rfl fun a hF=>nil (blk_n (then_n (region (step hF (Y.add hF rfl rfl) rfl fun a hF=>step hF (Y.move hF rfl) rfl fun a hF=>nT (⟨_,nxt_some h,(wr (outv + e)),(wr (v8_0 + 1)),rfl,hF.weak (AF rfl),hS.weak trivial⟩)))))))
 replace h:=cond_f h hbv
 refine exit_ (then_x (then_x (blk_hit (then_n ?_))))
 replace h:=ext_some h hxo
 refine seq (region (step hF (Y.move hF rfl) rfl fun a hF=>step hF (Y.assign hF rfl) rfl fun a hF=>nT (ret_ ?_)))
 obtain rfl:=some_inj h
 exact leaveP Tryz.results73 hF hS (.cons (.tmp rfl) .nil) .nil rfl
noncomputable def line_net_begin (n:line_net) (line:Int):Option Int:=
  (idx n.LineNet.Lines line).bind fun e=>
  some e.From
theorem line_net_begin_ok {w0:World} {D0:Stab} (hD:D0.on w0) (n:line_net) (line:Int) {p:Option Addr} {c:Nat} {p_1:Option Addr} {c_1:Nat} {bm:Option Nat} (hs:SRc C_LineLine D0 n.LineNet.Lines p c) (hs_1:SRc C_LineLoop D0 n.LineNet.Loops p_1 c_1) (out:Int) (h:line_net_begin n line=some out):Calls Tryz.prog 134 [.agg #[iv n.LineNet.Exchanges,.slice p n.LineNet.Lines.length c,iv n.LineNet.Hops,.slice p_1 n.LineNet.Loops.length c_1,.map bm,iv n.left],iv line].toArray w0 (RetP D0 w0 (iv out)):=by
 refine enter _ 12 Tryz.func134 rfl Tryz.ntmps134 rfl fun a hF=>?_
 replace hF:Frm 12 [] [(0,.agg #[iv n.LineNet.Exchanges,.slice p n.LineNet.Lines.length c,iv n.LineNet.Hops,.slice p_1 n.LineNet.Loops.length c_1,.map bm,iv n.left]),(1,iv line)] a:=hF
 have hS:=St.start hD
 unfold line_net_begin at h
 refine seq (region (O.box (cs:=[iv n.LineNet.Exchanges,.slice p n.LineNet.Lines.length c,iv n.LineNet.Hops,.slice p_1 n.LineNet.Loops.length c_1,.map bm,iv n.left]) 1 hF rfl rfl hS rfl fun b a w hF hS=>step hF (Y.assign hF rfl) rfl fun a hF=>nT (seq (region (step hF (Y.fieldAddr fo_85_0 hF rfl) rfl fun a hF=>step hF (Y.fieldAddr fo_25_1 hF rfl) rfl fun a hF=>step hF (Y.load1L 1 sz_22 hF rfl hS rfl rfl) rfl fun a hF=>step hF (Y.move hF rfl) rfl fun a hF=>?_)))))
 obtain ⟨e,hx,h⟩:=bind_some h
 obtain ⟨b_1,o,hE,hY⟩:=Y.indexS (P:=Tryz.prog) (C:=C_LineLine) (xs:=n.LineNet.Lines) (T:=22) (x:=(.tmp 7)) (y:=(.tmp 8)) u_22 sz_60 hF rfl rfl (hs).1 hx
 obtain ⟨cc,hc,hcell⟩:=hE.open
 obtain rfl:=C_LineLine.open hc
 refine step hF (hY) rfl fun a hF=>step hF (Y.fieldAddr fo_60_0 hF rfl) rfl fun a hF=>step hF (Y.load1 sz_3 hF rfl (hcell _ hS.stab 0 _ rfl)) rfl fun a hF=>step hF (Y.assign hF rfl) rfl fun a hF=>nT (ret_ ?_)
 obtain rfl:=some_inj h
 exact leaveP Tryz.results134 hF hS (.cons (.tmp rfl) .nil) .nil rfl
noncomputable def line_net_end (n:line_net) (line:Int):Option Int:=
  (idx n.LineNet.Lines line).bind fun e=>
  some e.To
theorem line_net_end_ok {w0:World} {D0:Stab} (hD:D0.on w0) (n:line_net) (line:Int) {p:Option Addr} {c:Nat} {p_1:Option Addr} {c_1:Nat} {bm:Option Nat} (hs:SRc C_LineLine D0 n.LineNet.Lines p c) (hs_1:SRc C_LineLoop D0 n.LineNet.Loops p_1 c_1) (out:Int) (h:line_net_end n line=some out):Calls Tryz.prog 135 [.agg #[iv n.LineNet.Exchanges,.slice p n.LineNet.Lines.length c,iv n.LineNet.Hops,.slice p_1 n.LineNet.Loops.length c_1,.map bm,iv n.left],iv line].toArray w0 (RetP D0 w0 (iv out)):=by
 refine enter _ 12 Tryz.func135 rfl Tryz.ntmps135 rfl fun a hF=>?_
 replace hF:Frm 12 [] [(0,.agg #[iv n.LineNet.Exchanges,.slice p n.LineNet.Lines.length c,iv n.LineNet.Hops,.slice p_1 n.LineNet.Loops.length c_1,.map bm,iv n.left]),(1,iv line)] a:=hF
 have hS:=St.start hD
 unfold line_net_end at h
 refine seq (region (O.box (cs:=[iv n.LineNet.Exchanges,.slice p n.LineNet.Lines.length c,iv n.LineNet.Hops,.slice p_1 n.LineNet.Loops.length c_1,.map bm,iv n.left]) 1 hF rfl rfl hS rfl fun b a w hF hS=>step hF (Y.assign hF rfl) rfl fun a hF=>nT (seq (region (step hF (Y.fieldAddr fo_85_0 hF rfl) rfl fun a hF=>step hF (Y.fieldAddr fo_25_1 hF rfl) rfl fun a hF=>step hF (Y.load1L 1 sz_22 hF rfl hS rfl rfl) rfl fun a hF=>step hF (Y.move hF rfl) rfl fun a hF=>?_)))))
 obtain ⟨e,hx,h⟩:=bind_some h
 obtain ⟨b_1,o,hE,hY⟩:=Y.indexS (P:=Tryz.prog) (C:=C_LineLine) (xs:=n.LineNet.Lines) (T:=22) (x:=(.tmp 7)) (y:=(.tmp 8)) u_22 sz_60 hF rfl rfl (hs).1 hx
 obtain ⟨cc,hc,hcell⟩:=hE.open
 obtain rfl:=C_LineLine.open hc
 refine step hF (hY) rfl fun a hF=>step hF (Y.fieldAddr fo_60_1 hF rfl) rfl fun a hF=>step hF (Y.load1 sz_3 hF rfl (hcell _ hS.stab 1 _ rfl)) rfl fun a hF=>step hF (Y.assign hF rfl) rfl fun a hF=>nT (ret_ ?_)
 obtain rfl:=some_inj h
 exact leaveP Tryz.results135 hF hS (.cons (.tmp rfl) .nil) .nil rfl
noncomputable def tabf_1 (i:Int) (n:line_net) (line:Int):Option Int:=if i=0 then line_net_begin n line else if i=1 then line_net_end n line else none
theorem tab_1_ok {w0:World} {D0:Stab} (hD:D0.on w0) (i:Int) (hi:0≤i∧i < ((2:Nat):Int)) (n:line_net) (line:Int) {p:Option Addr} {c:Nat} {p_1:Option Addr} {c_1:Nat} {bm:Option Nat} (hs:SRc C_LineLine D0 n.LineNet.Lines p c) (hs_1:SRc C_LineLoop D0 n.LineNet.Loops p_1 c_1) (out:Int) (h:tabf_1 i n line=some out):∃ f,tab_1.getD (Int.toNat i) undef=.func (.func f) #[] #[]∧callable Tryz.prog f=true∧Calls Tryz.prog f [.agg #[iv n.LineNet.Exchanges,.slice p n.LineNet.Lines.length c,iv n.LineNet.Hops,.slice p_1 n.LineNet.Loops.length c_1,.map bm,iv n.left],iv line].toArray w0 (RetP D0 w0 (iv out)):=by
 have hc:i=0∨i=1:=by omega
 rcases hc with rfl | rfl
 ·exact ⟨134,rfl,ca_134,line_net_begin_ok hD n line hs hs_1 out h⟩
 exact ⟨135,rfl,ca_135,line_net_end_ok hD n line hs hs_1 out h⟩
noncomputable def line_net_leave_1_b2 {σ:Type} (cv:line_net) (cv_1:Int) (yield_:(Int × Int)→σ→Option σ) (v11_0:Int):(Int × σ)→Option ((Int × σ) ⊕ ((Int × σ) ⊕ σ))
 | (v15_0,sy_1)=>
  cond (decide (v15_0 < 2))
  (if (0:Int)≤v15_0∧v15_0 < ((2:Nat):Int) then
  (tabf_1 v15_0 cv v11_0).bind fun rv_2=>
  cond (rv_2 == cv_1)
  (if (0:Int)≤(wr (1 - v15_0))∧(wr (1 - v15_0)) < ((2:Nat):Int) then
  (tabf_1 (wr (1 - v15_0)) cv v11_0).bind fun rv_3=>
  (yield_ (v11_0,rv_3) sy_1).bind fun sy_3=>
  nxt (wr (v15_0 + 1),sy_3)
  else none)
  (nxt (wr (v15_0 + 1),sy_1))
  else none)
  (ext (nxt (wr (v11_0 + 1),sy_1)))
noncomputable def line_net_leave_1_b1 {σ:Type} (cv:line_net) (cv_1:Int) (yield_:(Int × Int)→σ→Option σ):(Int × σ)→Option ((Int × σ) ⊕ σ)
 | (v11_0,sy)=>
  cond (decide (v11_0 < (cv.LineNet.Lines.length:Int)))
  (loopU (line_net_leave_1_b2 cv cv_1 yield_ v11_0) (0,sy))
  (ext (some sy))
noncomputable def line_net_leave_1 {σ:Type} (yield_:(Int × Int)→σ→Option σ) (cv:line_net) (cv_1:Int) (s0:σ):Option σ:=
  loopU (line_net_leave_1_b1 cv cv_1 yield_) (0,s0)
theorem line_net_leave_1_it {w0:World} {D0:Stab} {σ:Type} {Inv:σ→Stab→List (Nat × LR)→Prop} {yield_:(Int × Int)→σ→Option σ} (hlt:∀ s D ms,Inv s D ms→∀ i r,lk ms i=some r→i < 1000) (hmono:∀ s D ms D2,Inv s D ms→D.le D2→Inv s D2 ms) (l:Nat) (cv:line_net) (cv_1:Int) {p:Option Addr} {c:Nat} {p_1:Option Addr} {c_1:Nat} {bm:Option Nat} {bb:Nat} {bb_1:Nat} {Ds:Stab} (hs:SRc C_LineLine Ds cv.LineNet.Lines p c) (hs_1:SRc C_LineLoop Ds cv.LineNet.Loops p_1 c_1) (hbv:Ds bb=some (.cells ([iv cv.LineNet.Exchanges,.slice p cv.LineNet.Lines.length c,iv cv.LineNet.Hops,.slice p_1 cv.LineNet.Loops.length c_1,.map bm,iv cv.left]).toArray 85 (0,0))) (hbv_1:Ds bb_1=some (.cells ([iv cv_1]).toArray 3 (0,0))) (hG:Glob Ds) (s0 out:σ) (hround:∀ (x:(Int × Int)) (s s2:σ) (D:Stab) (ms:List (Nat × LR)) (w:World),yield_ x s=some s2→Ds.le D→Inv s D ms→St w0 D0 D ms w→Yld Tryz.prog l [iv x.1,iv x.2] w (fun w2=>∃ D2 ms2,D.le D2∧Inv s2 D2 ms2∧St w0 D0 D2 ms2 w2)) (h:line_net_leave_1 yield_ cv cv_1 s0=some out) {ms:List (Nat × LR)} {w:World} (hI:Inv s0 Ds ms) (hS:St w0 D0 Ds ms w):
  CallsIn (Fw none) 0 Tryz.prog 81 [.func (.yield l) #[] #[],.pointer (some ⟨bb,0,none⟩),.pointer (some ⟨bb_1,0,none⟩)].toArray w (fun e w2=>(∃ v,e=.returned v)∧∃ D2 ms2,Ds.le D2∧Inv out D2 ms2∧St w0 D0 D2 ms2 w2):=by
 refine callsIn_fw (r:=none) (enter _ 40 Tryz.func81 rfl Tryz.ntmps81 rfl fun a hF=>?_)
 replace hF:Frm 40 [] [(0,.func (.yield l) #[] #[]),(1,.pointer (some ⟨bb,0,none⟩)),(2,.pointer (some ⟨bb_1,0,none⟩))] a:=hF
 unfold line_net_leave_1 at h
 refine seq (region (step hF (Y.fieldAddr fo_85_0 hF rfl) rfl fun a hF=>step hF (Y.fieldAddr fo_25_1 hF rfl) rfl fun a hF=>step hF (Y.load1H sz_22 hF rfl (hS.stab _ _ hbv) rfl) rfl fun a hF=>step hF (Y.lenSl u_22 hF rfl) rfl fun a hF=>step hF (Y.move hF rfl) rfl fun a hF=>nT (block (loop_cut (body:=line_net_leave_1_b1 cv cv_1 yield_) (out:=out) (fun s a w=>∃ (v11_0:Int) (sy:σ),∃ (Dv:Stab),∃ ms_1,s=(v11_0,sy)∧Ds.le Dv∧Frm 40 [] [(0,.func (.yield l) #[] #[]),(1,.pointer (some ⟨bb,0,none⟩)),(2,.pointer (some ⟨bb_1,0,none⟩)),(10,iv (cv.LineNet.Lines.length:Int)),(11,iv v11_0)] a∧St w0 D0 Dv (ms_1) w∧Inv sy Dv ms_1) (0,s0) h ⟨0,s0,Ds,ms,rfl,Stab.le.refl _,hF.weak (AF rfl),hS.sub (fun j r hj=>by have hl:=(hlt _ _ _ hI) j r hj;(repeat rw [lk_ne (by omega)]);exact hj),hI⟩ ?_))))
 rintro s a w xo ⟨v11_0,sy,Dv,ms_1,rfl,hlev,hF,hS,hI_1⟩ h hxo
 unfold line_net_leave_1_b1 at h
 dsimp only at h
 replace hs:=hs.mono hlev
 replace hs_1:=hs_1.mono hlev
 replace hbv:=hlev _ _ hbv
 replace hbv_1:=hlev _ _ hbv_1
 replace hG:=hG.mono hlev
 replace hI:=hmono _ _ _ _ hI hlev
 refine seq (region (step hF (Y.lss hF rfl rfl) rfl fun a hF=>nT (seq (cond_b hF rfl (fun hbv_2=>?_) (fun hbv_2=>?_)))))
 ·replace h:=cond_t h hbv_2
  refine skip_ (then_n (seq (block (seq (region (step hF (Y.move hF rfl) rfl fun a hF=>step hF (Y.assign hF rfl) rfl fun a hF=>nT (seq (region ?_))))))))
  obtain ⟨E,fr,hGb⟩:=hG.2
  refine step hF (Y.loadNH (cs:=tab_1) sz_164 hF rfl (hS.stab _ _ hGb) rfl rfl) rfl fun a hF=>step hF (Y.move hF rfl) rfl fun a hF=>nT (block (loop_cut (body:=line_net_leave_1_b2 cv cv_1 yield_ v11_0) (out:=xo) (fun s a w=>∃ (v15_0:Int) (sy_1:σ),∃ (Dv_1:Stab),∃ ms_2,s=(v15_0,sy_1)∧Dv.le Dv_1∧Frm 40 [] [(0,.func (.yield l) #[] #[]),(1,.pointer (some ⟨bb,0,none⟩)),(2,.pointer (some ⟨bb_1,0,none⟩)),(4,iv v11_0),(10,iv (cv.LineNet.Lines.length:Int)),(11,iv v11_0),(14,.agg tab_1.toArray),(15,iv v15_0)] a∧St w0 D0 Dv_1 (ms_2) w∧Inv sy_1 Dv_1 ms_2) (0,sy) h ⟨0,sy,Dv,ms_1,rfl,Stab.le.refl _,hF.weak (AF rfl),hS.sub (fun j r hj=>by have hl:=(hlt _ _ _ hI_1) j r hj;(repeat rw [lk_ne (by omega)]);exact hj),hI_1⟩ ?_))
  rintro s a w xo_1 ⟨v15_0,sy_1,Dv_1,ms_2,rfl,hlev_1,hF,hS,hI_2⟩ h hxo_1
  unfold line_net_leave_1_b2 at h
  dsimp only at h
  replace hs:=hs.mono hlev_1
  replace hs_1:=hs_1.mono hlev_1
  replace hbv:=hlev_1 _ _ hbv
  replace hbv_1:=hlev_1 _ _ hbv_1
  replace hG:=hG.mono hlev_1
  replace hI:=hmono _ _ _ _ hI hlev_1
  replace hI_1:=hmono _ _ _ _ hI_1 hlev_1
  refine seq (region (step hF (Y.lss hF rfl rfl) rfl fun a hF=>nT (seq (cond_b hF rfl (fun hbv_3=>?_) (fun hbv_3=>?_)))))
  ·replace h:=cond_t h hbv_3
   refine skip_ (then_n (seq (block (seq (region (step hF (Y.move hF rfl) rfl fun a hF=>?_))))))
   obtain ⟨hg,h⟩:=ite_some h
   refine step hF ((show Yields _ _ _ _ (tab_1.getD (Int.toNat v15_0) undef) from Y.indexG u_164 sz_163 rfl hg hF rfl rfl)) rfl fun a hF=>step hF (Y.assign hF rfl) rfl fun a hF=>step hF (Y.assign hF rfl) rfl fun a hF=>nT (seq (drawsV 19 (.flt 0 (.flt 1 (.flt 2 (.flt 4 (.alt 3 (.flt 5 (.flt 6 (.flt 7 (.flt 8 (.flt 9 (.flt 10 (.flt 11 (.flt 12 (.flt 13 (.flt 14 (.alt 15 (.alt 16 (.flt 17 (.flt 18 .done)) .stop) .stop))))))))))) .stop))))) mixed_ (by kernel_rfl) (fun w=>St w0 D0 Dv_1 [] w) _ (hS.sub (ms:=[]) (fun j r hj=>by simp [lk] at hj)).drew (fun _ _ _ _ h=>h) ?_ (fun _ _ h=>h)))
   replace hS:=hS.drew
   have hle0:=hS.le
   refine stepV (i:=0) rfl hF (fun w hS=>Y.move hF rfl) rfl fun a hF=>stepV (i:=1) rfl hF (fun w hS=>Y.loadNH sz_85 hF rfl (hS.stab _ _ hbv) rfl rfl) rfl fun a hF=>stepV (i:=2) rfl hF (fun w hS=>Y.move hF rfl) rfl fun a hF=>stepV (i:=4) rfl hF (fun w hS=>Y.load1H sz_3 hF rfl (hS.stab _ _ hbv_1) rfl) rfl fun a hF=>oneV (i:=3) rfl ?_ trivial
   obtain ⟨rv_2,hx_3,h⟩:=bind_some h
   obtain ⟨f_2,hfv_2,hfc_2,hcall_2⟩:=tab_1_ok hS.stab v15_0 hg cv v11_0 hs hs_1 rv_2 hx_3
   refine O.callVP (f:=f_2) (first:=[]) (cap:=[]) (us:=[.agg #[iv cv.LineNet.Exchanges,.slice p cv.LineNet.Lines.length c,iv cv.LineNet.Hops,.slice p_1 cv.LineNet.Loops.length c_1,.map bm,iv cv.left],iv v11_0]) hfc_2 hF hS (congrArg some hfv_2) rfl hcall_2 rfl fun a w hF hS=>nT ⟨hS.sub (ms:=[]) (fun j r hj=>by simp [lk] at hj),?_⟩
   refine stepV (i:=5) rfl hF (fun w hS=>Y.eql hF rfl rfl) rfl fun a hF=>stepV (i:=6) rfl hF (fun w hS=>Y.move hF rfl) rfl fun a hF=>?_
   rcases bcases (rv_2 == cv_1) with hbg_1 | hbg_1
   ·replace h:=cond_t h hbg_1
    refine stepV_on (i:=7) rfl hF rfl rfl hbg_1 (fun w hS=>Y.move hF rfl) rfl fun a hF=>stepV_on (i:=8) rfl hF rfl rfl hbg_1 (fun w hS=>Y.move hF rfl) rfl fun a hF=>stepV_on (i:=9) rfl hF rfl rfl hbg_1 (fun w hS=>Y.move hF rfl) rfl fun a hF=>stepV_on (i:=10) rfl hF rfl rfl hbg_1 (fun w hS=>Y.sub hF rfl rfl) rfl fun a hF=>?_
    obtain ⟨hg_2,h⟩:=ite_some h
    refine stepV_on (i:=11) rfl hF rfl rfl hbg_1 (fun w hS=>Y.indexArr u_164 sz_163 hF rfl rfl hg_2.1 hg_2.2) rfl fun a hF=>?_
    obtain ⟨E_2,fr_2,hGb_2⟩:=hG.2
    refine stepV_on (i:=12) rfl hF rfl rfl hbg_1 (fun w hS=>(show Yields _ _ _ _ (tab_1.getD (Int.toNat (wr (1 - v15_0))) undef) from Y.load1H (cs:=tab_1) sz_163 hF rfl (hS.stab _ _ hGb_2) (tabAt rfl hg_2))) rfl fun a hF=>stepV_on (i:=13) rfl hF rfl rfl hbg_1 (fun w hS=>Y.loadNH sz_85 hF rfl (hS.stab _ _ hbv) rfl rfl) rfl fun a hF=>stepV_on (i:=14) rfl hF rfl rfl hbg_1 (fun w hS=>Y.move hF rfl) rfl fun a hF=>oneV (i:=15) rfl ?_ trivial
    refine guard_on hF rfl rfl hbg_1 ?_
    obtain ⟨rv_3,hx_4,h⟩:=bind_some h
    obtain ⟨f_3,hfv_3,hfc_3,hcall_3⟩:=tab_1_ok hS.stab (wr (1 - v15_0)) hg_2 cv v11_0 hs hs_1 rv_3 hx_4
    refine O.callVP (f:=f_3) (first:=[]) (cap:=[]) (us:=[.agg #[iv cv.LineNet.Exchanges,.slice p cv.LineNet.Lines.length c,iv cv.LineNet.Hops,.slice p_1 cv.LineNet.Loops.length c_1,.map bm,iv cv.left],iv v11_0]) hfc_3 hF hS (congrArg some hfv_3) rfl hcall_3 rfl fun a w hF hS=>nT ⟨hS.sub (ms:=[]) (fun j r hj=>by simp [lk] at hj),?_⟩
    refine oneV (i:=16) rfl ?_ trivial
    refine guard_on hF rfl rfl hbg_1 ?_
    replace hS:=hS.sub (ms:=ms_2) (fun j r hj=>by have hl:=(hlt _ _ _ hI_2) j r hj;(repeat rw [lk_ne (by omega)]);exact hj)
    obtain ⟨sy_3,hx_5,h⟩:=bind_some h
    refine O.yield (us:=[iv v11_0,iv rv_3]) hF rfl rfl (hround (v11_0,rv_3) _ _ _ _ _ hx_5 (hlev.trans hlev_1) hI_2 hS) rfl fun a w hF hK=>?_
    obtain ⟨Dv_3,ms_4,hlev_3,hI_4,hS⟩:=hK
    replace hbv:=hlev_3 _ _ hbv
    replace hbv_1:=hlev_3 _ _ hbv_1
    refine nT ⟨(hS.sub (ms:=[]) (fun j r hj=>by simp [lk] at hj)).weakD hlev_3 hle0,?_⟩
    refine stepV_on (i:=17) rfl hF rfl rfl hbg_1 (fun w hS=>Y.not hF rfl) rfl fun a hF=>stepV (i:=18) rfl hF (fun w hS=>Y.pick_t hF rfl hbg_1 rfl) rfl fun a hF=>toTailV (nT (cond_b hF rfl (fun hb=>by cases hb) (fun hb=>skip_ (blk_n (then_n (region (step hF (Y.add hF rfl rfl) rfl fun a hF=>step hF (Y.move hF rfl) rfl fun a hF=>nT (⟨_,nxt_some h,(wr (v15_0 + 1)),sy_3,Dv_3,ms_4,rfl,hlev_1.trans hlev_3,hF.weak (AF rfl),hS.sub (fun j r hj=>by have hl:=(hlt _ _ _ hI_4) j r hj;(repeat rw [lk_ne (by omega)]);exact hj),hI_4⟩))))))))
   replace h:=cond_f h hbg_1
   refine stepV_off (i:=7) rfl hF rfl rfl hbg_1 rfl fun a hF=>stepV_off (i:=8) rfl hF rfl rfl hbg_1 rfl fun a hF=>stepV_off (i:=9) rfl hF rfl rfl hbg_1 rfl fun a hF=>stepV_off (i:=10) rfl hF rfl rfl hbg_1 rfl fun a hF=>stepV_off (i:=11) rfl hF rfl rfl hbg_1 rfl fun a hF=>stepV_off (i:=12) rfl hF rfl rfl hbg_1 rfl fun a hF=>stepV_off (i:=13) rfl hF rfl rfl hbg_1 rfl fun a hF=>stepV_off (i:=14) rfl hF rfl rfl hbg_1 rfl fun a hF=>oneV (i:=15) rfl (guard_off hF rfl rfl hbg_1 rfl fun a hF=>nT ⟨hS.sub (ms:=[]) (fun j r hj=>by simp [lk] at hj),?_⟩) trivial
   refine oneV (i:=16) rfl (guard_off hF rfl rfl hbg_1 rfl fun a hF=>nT ⟨hS.sub (ms:=[]) (fun j r hj=>by simp [lk] at hj),?_⟩) trivial
   refine stepV_off (i:=17) rfl hF rfl rfl hbg_1 rfl fun a hF=>stepV (i:=18) rfl hF (fun w hS=>Y.pick_f hF rfl hbg_1 rfl) rfl fun a hF=>toTailV (nT (cond_b hF rfl (fun hb=>by cases hb) (fun hb=>skip_ (blk_n (then_n (region (step hF (Y.add hF rfl rfl) rfl fun a hF=>step hF (Y.move hF rfl) rfl fun a hF=>nT (⟨_,nxt_some h,(wr (v15_0 + 1)),sy_1,Dv_1,ms_2,rfl,hlev_1,hF.weak (AF rfl),hS.sub (fun j r hj=>by have hl:=(hlt _ _ _ hI_2) j r hj;(repeat rw [lk_ne (by omega)]);exact hj),hI_2⟩))))))))
  replace h:=cond_f h hbv_3
  refine exit_ (then_x (then_x (blk_hit (blk_n (then_n ?_)))))
  replace h:=ext_some h hxo_1
  refine region (step hF (Y.add hF rfl rfl) rfl fun a hF=>step hF (Y.move hF rfl) rfl fun a hF=>nT (⟨_,nxt_some h,(wr (v11_0 + 1)),sy_1,Dv_1,ms_2,rfl,hlev.trans hlev_1,hF.weak (AF rfl),hS.sub (fun j r hj=>by have hl:=(hlt _ _ _ hI_2) j r hj;(repeat rw [lk_ne (by omega)]);exact hj),hI_2⟩))
 replace h:=cond_f h hbv_2
 refine exit_ (then_x (then_x (blk_hit ?_)))
 replace h:=ext_some h hxo
 replace hS:=hS.sub (ms:=ms_1) (fun j r hj=>by have hl:=(hlt _ _ _ hI_1) j r hj;(repeat rw [lk_ne (by omega)]);exact hj)
 obtain rfl:=some_inj h
 exact leaveIn (by rfl) hF ⟨⟨_,rfl⟩,Dv,ms_1,hlev,hI_1,hS⟩
noncomputable def line_net_leave (n:line_net) (exchange:Int):Option (line_net × Int):=
  some (n,exchange)
theorem line_net_leave_ok {w0:World} {D0:Stab} (hD:D0.on w0) (n:line_net) (exchange:Int) {p:Option Addr} {c:Nat} {p_1:Option Addr} {c_1:Nat} {bm:Option Nat} (hs:SRc C_LineLine D0 n.LineNet.Lines p c) (hs_1:SRc C_LineLoop D0 n.LineNet.Loops p_1 c_1) (out:(line_net × Int)) (h:line_net_leave n exchange=some out):Calls Tryz.prog 70 [.agg #[iv n.LineNet.Exchanges,.slice p n.LineNet.Lines.length c,iv n.LineNet.Hops,.slice p_1 n.LineNet.Loops.length c_1,.map bm,iv n.left],iv exchange].toArray w0 (RetS D0 w0 fun D v=>∃ bb bb_1 p_2 c_2 p_3 c_3 bm_1,v=.func (.func 81) #[] #[.pointer (some ⟨bb,0,none⟩),.pointer (some ⟨bb_1,0,none⟩)]∧D bb=some (.cells ([iv out.1.LineNet.Exchanges,.slice p_2 out.1.LineNet.Lines.length c_2,iv out.1.LineNet.Hops,.slice p_3 out.1.LineNet.Loops.length c_3,.map bm_1,iv out.1.left]).toArray 85 (0,0))∧D bb_1=some (.cells ([iv out.2]).toArray 3 (0,0))∧SRc C_LineLine D out.1.LineNet.Lines p_2 c_2∧SRc C_LineLoop D out.1.LineNet.Loops p_3 c_3):=by
 refine enter _ 6 Tryz.func70 rfl Tryz.ntmps70 rfl fun a hF=>?_
 replace hF:Frm 6 [] [(0,.agg #[iv n.LineNet.Exchanges,.slice p n.LineNet.Lines.length c,iv n.LineNet.Hops,.slice p_1 n.LineNet.Loops.length c_1,.map bm,iv n.left]),(1,iv exchange)] a:=hF
 have hS:=St.start hD
 unfold line_net_leave at h
 refine seq (region (O.box (cs:=[iv n.LineNet.Exchanges,.slice p n.LineNet.Lines.length c,iv n.LineNet.Hops,.slice p_1 n.LineNet.Loops.length c_1,.map bm,iv n.left]) 1 hF rfl rfl hS rfl fun b a w hF hS=>O.box (cs:=[iv exchange]) 2 hF rfl rfl hS rfl fun b_1 a w hF hS=>step hF (Y.assign hF rfl) rfl fun a hF=>nT (seq (region (step hF (Y.makeFunc (first:=[]) (cap:=[(.tmp 2),(.tmp 3)]) (fs:=[]) (cs:=[.pointer (some ⟨b,0,none⟩),.pointer (some ⟨b_1,0,none⟩)]) hF rfl rfl) rfl fun a hF=>step hF (Y.assign hF rfl) rfl fun a hF=>nT (ret_ ?_))))))
 obtain ⟨Dv,hlev,hbv,hS⟩:=hS.freezeB (i:=1) rfl
 replace hs:=hs.mono hlev
 replace hs_1:=hs_1.mono hlev
 obtain ⟨Dv_1,hlev_1,hbv_1,hS⟩:=hS.freezeB (i:=2) rfl
 replace hs:=hs.mono hlev_1
 replace hs_1:=hs_1.mono hlev_1
 replace hbv:=hlev_1 _ _ hbv
 obtain rfl:=some_inj h
 exact leaveS Tryz.results70 hF hS (.cons (.tmp rfl) .nil) .nil ⟨_,_,_,_,_,_,_,rfl,hbv,hbv_1,hs,hs_1⟩
noncomputable def line_net_all_b1 (n:line_net) (way:(List Int)) (byv:line_side):((List Int) × Int)→Option (((List Int) × Int) ⊕ Int)
 | (l,v12_0)=>
  cond (decide (v12_0 < (way.length:Int)))
  ((idx way v12_0).bind fun e=>
  (idx n.LineNet.Lines e).bind fun e_1=>
  (byv.of_ e_1.Delay).bind fun rv=>
  if l.length + ([rv]).length≤lim then
  nxt ((l ++ [rv]),wr (v12_0 + 1))
  else none)
  (ext ((line_sum_int_ l).bind fun rv_1=>
  some rv_1))
noncomputable def line_net_all (n:line_net) (way:(List Int)) (byv:line_side):Option Int:=
  loopU (line_net_all_b1 n way byv) (([]:List Int),0)
theorem line_net_all_ok {w0:World} {D0:Stab} (hD:D0.on w0) (n:line_net) (way:(List Int)) (byv:line_side) {p:Option Addr} {c:Nat} {p_1:Option Addr} {c_1:Nat} {bm:Option Nat} {p_2:Option Addr} {c_2:Nat} {fid:FuncId} {first:List Value} {cap:List Value} (hs:SRc C_LineLine D0 n.LineNet.Lines p c) (hs_1:SRc C_LineLoop D0 n.LineNet.Loops p_1 c_1) (hm:MapB kl_154 (C_sl (C_sl C_int)) false D0 n.ways bm) (hs_2:SRc C_int D0 way p_2 c_2) (hf:FnOk_123 w0 D0 fid first cap byv.of_) (out:Int) (h:line_net_all n way byv=some out):Calls Tryz.prog 53 [.agg #[iv n.LineNet.Exchanges,.slice p n.LineNet.Lines.length c,iv n.LineNet.Hops,.slice p_1 n.LineNet.Loops.length c_1,.map bm,iv n.left],.slice p_2 way.length c_2,.agg #[.func (.func fid) first.toArray cap.toArray]].toArray w0 (RetP D0 w0 (iv out)):=by
 refine enter _ 32 Tryz.func53 rfl Tryz.ntmps53 rfl fun a hF=>?_
 replace hF:Frm 32 [] [(0,.agg #[iv n.LineNet.Exchanges,.slice p n.LineNet.Lines.length c,iv n.LineNet.Hops,.slice p_1 n.LineNet.Loops.length c_1,.map bm,iv n.left]),(1,.slice p_2 way.length c_2),(2,.agg #[.func (.func fid) first.toArray cap.toArray])] a:=hF
 have hS:=St.start hD
 unfold line_net_all at h
 refine seq (region (O.box (cs:=[iv n.LineNet.Exchanges,.slice p n.LineNet.Lines.length c,iv n.LineNet.Hops,.slice p_1 n.LineNet.Loops.length c_1,.map bm,iv n.left]) 1 hF rfl rfl hS rfl fun b a w hF hS=>O.box (cs:=[.func (.func fid) first.toArray cap.toArray]) 2 hF rfl rfl hS rfl fun b_1 a w hF hS=>step hF (Y.assign hF rfl) rfl fun a hF=>nT (seq (region (step hF (Y.assign hF rfl) rfl fun a hF=>?_)))))
 replace hS:=hS.ownNil 3 3 1
 refine nT (seq (seq (region (step hF (Y.move hF rfl) rfl fun a hF=>step hF (Y.lenSl u_30 hF rfl) rfl fun a hF=>step hF (Y.move hF rfl) rfl fun a hF=>nT (block (loop_cut (body:=line_net_all_b1 n way byv) (out:=out) (fun s a w=>∃ (l:(List Int)) (v12_0:Int),∃ (Dv:Stab),∃ p_3 c_3 cs,s=(l,v12_0)∧D0.le Dv∧Frm 32 [] [(3,.pointer (some ⟨b,0,none⟩)),(5,.pointer (some ⟨b_1,0,none⟩)),(6,iv 0),(7,.slice p_3 l.length c_3),(10,.slice p_2 way.length c_2),(11,iv (way.length:Int)),(12,iv v12_0)] a∧St w0 D0 Dv [(1,.cells b [iv n.LineNet.Exchanges,.slice p n.LineNet.Lines.length c,iv n.LineNet.Hops,.slice p_1 n.LineNet.Loops.length c_1,.map bm,iv n.left] 85),(2,.cells b_1 [.func (.func fid) first.toArray cap.toArray] 129),(3,.own p_3 l.length c_3 cs 3 1)] w∧Reps C_int Dv l cs) (([]:List Int),0) h ⟨([]:List Int),0,D0,none,0,([]),rfl,Stab.le.refl _,hF.weak (AF rfl),hS.weak (AL rfl),Reps.nil⟩ ?_))))))
 rintro s a w xo ⟨l,v12_0,Dv,p_3,c_3,cs,rfl,hlev,hF,hS,hr⟩ h hxo
 unfold line_net_all_b1 at h
 dsimp only at h
 replace hs:=hs.mono hlev
 replace hs_2:=hs_2.mono hlev
 refine seq (region (step hF (Y.lss hF rfl rfl) rfl fun a hF=>nT (seq (cond_b hF rfl (fun hbv=>?_) (fun hbv=>?_)))))
 ·replace h:=cond_t h hbv
  refine skip_ (then_n (seq (block (seq (region ?_)))))
  obtain ⟨e,hx,h⟩:=bind_some h
  obtain ⟨b_2,o,hE,hY⟩:=Y.indexS (P:=Tryz.prog) (C:=C_int) (xs:=way) (T:=30) (x:=(.tmp 10)) (y:=(.tmp 12)) u_30 sz_3 hF rfl rfl (hs_2).1 hx
  obtain ⟨cc,hc,hcell⟩:=hE.open
  obtain rfl:=hc
  refine step hF (hY) rfl fun a hF=>step hF (Y.load1 sz_3 hF rfl (hcell _ hS.stab 0 _ rfl)) rfl fun a hF=>step hF (Y.assign hF rfl) rfl fun a hF=>nT ?_
  obtain ⟨e_1,hx_1,h⟩:=bind_some h
  obtain ⟨rv,hx_2,h⟩:=bind_some h
  refine drawsV 12 (.flt 0 (.flt 1 (.flt 2 (.flt 3 (.flt 4 (.flt 5 (.flt 6 (.flt 7 (.flt 8 (.flt 9 (.alt 10 (.alt 11 .done .stop) .stop))))))))))) mixed_ (by kernel_rfl) (fun w=>St w0 D0 Dv [(1,.cells b [iv n.LineNet.Exchanges,.slice p n.LineNet.Lines.length c,iv n.LineNet.Hops,.slice p_1 n.LineNet.Loops.length c_1,.map bm,iv n.left] 85),(2,.cells b_1 [.func (.func fid) first.toArray cap.toArray] 129),(3,.own p_3 l.length c_3 cs 3 1)] w) (fun a w=>∃ (p_4:Option Addr) (c_4:Nat) (cs_1:List Value),Frm 32 [] [(3,.pointer (some ⟨b,0,none⟩)),(5,.pointer (some ⟨b_1,0,none⟩)),(6,iv 0),(7,.slice p_3 l.length c_3),(10,.slice p_2 way.length c_2),(11,iv (way.length:Int)),(12,iv v12_0),(16,.slice p_3 l.length c_3),(27,.slice p_4 ([rv]).length c_4)] a∧St w0 D0 Dv [(1,.cells b [iv n.LineNet.Exchanges,.slice p n.LineNet.Lines.length c,iv n.LineNet.Hops,.slice p_1 n.LineNet.Loops.length c_1,.map bm,iv n.left] 85),(2,.cells b_1 [.func (.func fid) first.toArray cap.toArray] 129),(3,.own p_3 l.length c_3 cs 3 1),(4,.own p_4 ([rv]).length c_4 cs_1 3 1)] w∧Reps C_int Dv ([rv]) cs_1) (hS.weak (ms:=[(1,.cells b [iv n.LineNet.Exchanges,.slice p n.LineNet.Lines.length c,iv n.LineNet.Hops,.slice p_1 n.LineNet.Loops.length c_1,.map bm,iv n.left] 85),(2,.cells b_1 [.func (.func fid) first.toArray cap.toArray] 129),(3,.own p_3 l.length c_3 cs 3 1)]) (AL rfl)).drew (fun _ _ _ _ h=>h) ?_ ?_
  ·replace hS:=hS.drew
   have hle0:=hS.le
   refine stepV (i:=0) rfl hF (fun w hS=>Y.move hF rfl) rfl fun a hF=>stepV (i:=1) rfl hF (fun w hS=>Y.fieldAddr fo_129_0 hF rfl) rfl fun a hF=>stepV (i:=2) rfl hF (fun w hS=>Y.load1L 2 sz_123 hF rfl hS rfl rfl) rfl fun a hF=>stepV (i:=3) rfl hF (fun w hS=>Y.fieldAddr fo_85_0 hF rfl) rfl fun a hF=>stepV (i:=4) rfl hF (fun w hS=>Y.fieldAddr fo_25_1 hF rfl) rfl fun a hF=>stepV (i:=5) rfl hF (fun w hS=>Y.load1L 1 sz_22 hF rfl hS rfl rfl) rfl fun a hF=>stepV (i:=6) rfl hF (fun w hS=>Y.move hF rfl) rfl fun a hF=>?_
   obtain ⟨b_4,o_2,hE_2,hY_2⟩:=Y.indexS (P:=Tryz.prog) (C:=C_LineLine) (xs:=n.LineNet.Lines) (T:=22) (x:=(.tmp 21)) (y:=(.tmp 22)) u_22 sz_60 hF rfl rfl (hs).1 hx_1
   obtain ⟨cc_2,hc_2,hcell_2⟩:=hE_2.open
   obtain rfl:=C_LineLine.open hc_2
   refine stepV (i:=7) rfl hF (fun w hS=>hY_2) rfl fun a hF=>stepV (i:=8) rfl hF (fun w hS=>Y.fieldAddr fo_60_2 hF rfl) rfl fun a hF=>stepV (i:=9) rfl hF (fun w hS=>Y.loadNE (o:=o_2) (k:=2) sz_27 hF rfl (hcell_2 _ hS.stab) rfl rfl) rfl fun a hF=>oneV (i:=10) rfl ?_ trivial
   refine O.callVP (f:=fid) (first:=first) (cap:=cap) (us:=[.agg #[iv e_1.Delay.Low,iv e_1.Delay.High]]) hf.1 hF hS rfl rfl (hf.2 _ _ hS.below hS.le hS.stab e_1.Delay rv hx_2) rfl fun a w hF hS=>nT ⟨hS.weak (AL rfl),?_⟩
   refine oneV (i:=11) rfl ?_ trivial
   have hr_2:Reps C_int Dv [rv] [iv rv]:=Reps.cons (C:=C_int) (x:=rv) (c:=[iv rv]) (r:=[]) rfl (Reps.nil)
   refine O.buildSlice (E:=3) (C:=C_int) (xs:=[rv]) (cs:=[iv rv]) (us:=[iv rv]) (parts:=[(0,(.tmp 26))]) 4 hF hS rfl (by kernel_rfl) hr_2 rfl rfl rfl fun p_5 c_5 a w hF hS=>nT ⟨hS.weak (AL rfl),?_⟩
   exact toTailV ⟨p_5,c_5,([iv rv]),hF.weak (AF rfl),hS.weak (AL rfl),hr_2⟩
  rintro a w ⟨p_4,c_4,cs_1,hF,hS,hj⟩
  obtain ⟨hg,h⟩:=ite_some h
  refine O.append (C:=C_int) (xs:=l) (ys:=[rv]) 3 gr_30 hF rfl rfl hS rfl (src_own (i:=4) hS rfl) hr hj hg rfl fun p_6 c_6 a w hF hS hr_3=>step hF (Y.assign hF rfl) rfl fun a hF=>nil (blk_n (then_n (region (step hF (Y.add hF rfl rfl) rfl fun a hF=>step hF (Y.move hF rfl) rfl fun a hF=>nT (⟨_,nxt_some h,(l ++ [rv]),(wr (v12_0 + 1)),Dv,p_6,c_6,(cs ++ cs_1),rfl,hlev,hF.weak (AF rfl),hS.weak (AL rfl),hr_3⟩)))))
 replace h:=cond_f h hbv
 refine exit_ (then_x (then_x (blk_hit (then_n ?_))))
 replace h:=ext_some h hxo
 refine seq (region (step hF (Y.move hF rfl) rfl fun a hF=>?_))
 obtain ⟨Dv_1,hlev_1,hs_3,hS⟩:=hS.freezeC (C:=C_int) (i:=3) (xs:=l) rfl hr
 obtain ⟨rv_1,hx_3,h⟩:=bind_some h
 refine O.callP (us:=[.slice p_3 l.length c_3]) ca_73 hF hS (line_sum_int__ok hS.stab l hs_3 rv_1 hx_3) rfl rfl fun a w hF hS=>step hF (Y.assign hF rfl) rfl fun a hF=>nT (ret_ ?_)
 obtain rfl:=some_inj h
 exact leaveP Tryz.results53 hF hS (.cons (.tmp rfl) .nil) .nil rfl
noncomputable def line_net_delay_b1 (n:line_net) (exchange:Int):(Int × Int × Int)→Option ((Int × Int × Int) ⊕ (Span × Bool))
 | (v24_0,z,z_1)=>
  cond (decide (v24_0 < (n.LineNet.Loops.length:Int)))
  ((idx n.LineNet.Loops v24_0).bind fun e=>
  if ¬ v24_0 < 0 then
  cond (((bitsOp .and (gshr n.left v24_0) 1) == 0) && (e.Exchange == exchange))
  (nxt (wr (v24_0 + 1),(if wr (Int.tdiv (wr (e.Read.Low + 1)) 2) > z then wr (Int.tdiv (wr (e.Read.Low + 1)) 2) else z),(if wr (Int.tdiv e.Read.High 2) < z_1 then wr (Int.tdiv e.Read.High 2) else z_1)))
  (nxt (wr (v24_0 + 1),z,z_1))
  else none)
  (ext (some ((Span.mk z z_1),decide (z≤z_1))))
noncomputable def line_net_delay (n:line_net) (exchange:Int) (way:(List Int)):Option (Span × Bool):=
  (line_low).bind fun rv=>
  (line_net_all n way (line_side.mk (fun q_z=>line_low_1 q_z))).bind fun rv_1=>
  (line_high).bind fun rv_2=>
  (line_net_all n way (line_side.mk (fun q_z=>line_high_1 q_z))).bind fun rv_3=>
  loopU (line_net_delay_b1 n exchange) (0,rv_1,rv_3)
theorem line_net_delay_ok {w0:World} {D0:Stab} (hD:D0.on w0) (n:line_net) (exchange:Int) (way:(List Int)) {p:Option Addr} {c:Nat} {p_1:Option Addr} {c_1:Nat} {bm:Option Nat} {p_2:Option Addr} {c_2:Nat} (hs:SRc C_LineLine D0 n.LineNet.Lines p c) (hs_1:SRc C_LineLoop D0 n.LineNet.Loops p_1 c_1) (hm:MapB kl_154 (C_sl (C_sl C_int)) false D0 n.ways bm) (hs_2:SRc C_int D0 way p_2 c_2) (out:(Span × Bool)) (h:line_net_delay n exchange way=some out):Calls Tryz.prog 28 [.agg #[iv n.LineNet.Exchanges,.slice p n.LineNet.Lines.length c,iv n.LineNet.Hops,.slice p_1 n.LineNet.Loops.length c_1,.map bm,iv n.left],iv exchange,.slice p_2 way.length c_2].toArray w0 (RetP D0 w0 (.tuple #[.agg #[iv out.1.Low,iv out.1.High],.bool out.2])):=by
 refine enter _ 64 Tryz.func28 rfl Tryz.ntmps28 rfl fun a hF=>?_
 replace hF:Frm 64 [] [(0,.agg #[iv n.LineNet.Exchanges,.slice p n.LineNet.Lines.length c,iv n.LineNet.Hops,.slice p_1 n.LineNet.Loops.length c_1,.map bm,iv n.left]),(1,iv exchange),(2,.slice p_2 way.length c_2)] a:=hF
 have hS:=St.start hD
 unfold line_net_delay at h
 refine seq (region (O.box (cs:=[iv n.LineNet.Exchanges,.slice p n.LineNet.Lines.length c,iv n.LineNet.Hops,.slice p_1 n.LineNet.Loops.length c_1,.map bm,iv n.left]) 1 hF rfl rfl hS rfl fun b a w hF hS=>O.alloc 2 zc_27 hF hS rfl fun b_1 a w hF hS=>step hF (Y.assign hF rfl) rfl fun a hF=>nT (seq ?_)))
 obtain ⟨rv,hx,h⟩:=bind_some h
 obtain ⟨rv_1,hx_1,h⟩:=bind_some h
 obtain ⟨rv_2,hx_2,h⟩:=bind_some h
 obtain ⟨rv_3,hx_3,h⟩:=bind_some h
 refine drawsV 10 (.flt 0 (.flt 1 (.flt 4 (.flt 5 (.alt 2 (.alt 3 (.alt 6 (.alt 7 (.flt 8 (.alt 9 .done .stop)) (.alt 9 (.alt 7 (.flt 8 .done) .stop) .stop)) (.alt 9 (.alt 6 (.alt 7 (.flt 8 .done) .stop) .stop) .stop)) (.alt 9 (.alt 3 (.alt 6 (.alt 7 (.flt 8 .done) .stop) .stop) .stop) .stop)) (.alt 9 (.alt 2 (.alt 3 (.alt 6 (.alt 7 (.flt 8 .done) .stop) .stop) .stop) .stop) .stop)))))) mixed_ (by kernel_rfl) (fun w=>St w0 D0 D0 [(1,.cells b [iv n.LineNet.Exchanges,.slice p n.LineNet.Lines.length c,iv n.LineNet.Hops,.slice p_1 n.LineNet.Loops.length c_1,.map bm,iv n.left] 85),(2,.cells b_1 [iv 0,iv 0] 27)] w) (fun a w=>∃ (b_2:Nat),Frm 64 [] [(1,iv exchange),(3,.pointer (some ⟨b,0,none⟩)),(6,.pointer (some ⟨b_1,0,none⟩)),(7,.bool false),(8,.pointer (some ⟨b_2,0,none⟩)),(19,.agg #[iv rv_1,iv rv_3])] a∧St w0 D0 D0 [(1,.cells b [iv n.LineNet.Exchanges,.slice p n.LineNet.Lines.length c,iv n.LineNet.Hops,.slice p_1 n.LineNet.Loops.length c_1,.map bm,iv n.left] 85),(2,.cells b_1 [iv 0,iv 0] 27),(3,.cells b_2 [iv 0,iv 0] 27)] w) (hS.weak (ms:=[(1,.cells b [iv n.LineNet.Exchanges,.slice p n.LineNet.Lines.length c,iv n.LineNet.Hops,.slice p_1 n.LineNet.Loops.length c_1,.map bm,iv n.left] 85),(2,.cells b_1 [iv 0,iv 0] 27)]) ⟨rfl,rfl,trivial⟩).drew (fun _ _ _ _ h=>h) ?_ ?_
 ·replace hS:=hS.drew
  have hle0:=hS.le
  refine stepV (i:=0) rfl hF (fun w hS=>Y.loadNL 1 sz_85 hF rfl hS rfl rfl rfl) rfl fun a hF=>stepV (i:=1) rfl hF (fun w hS=>Y.move hF rfl) rfl fun a hF=>stepV (i:=4) rfl hF (fun w hS=>Y.loadNL 1 sz_85 hF rfl hS rfl rfl rfl) rfl fun a hF=>stepV (i:=5) rfl hF (fun w hS=>Y.move hF rfl) rfl fun a hF=>oneV (i:=2) rfl ?_ ?_
  ·skip
   refine O.callP (us:=[]) ca_54 hF hS (line_low_ok hS.stab rv hx) rfl rfl fun a w hF hS=>nT ⟨hS.weak ⟨rfl,rfl,trivial⟩,?_⟩
   refine oneV (i:=3) rfl ?_ ?_
   ·skip
    refine O.callP (us:=[.agg #[iv n.LineNet.Exchanges,.slice p n.LineNet.Lines.length c,iv n.LineNet.Hops,.slice p_1 n.LineNet.Loops.length c_1,.map bm,iv n.left],.slice p_2 way.length c_2,.agg #[.func (.func 74) #[] #[]]]) ca_53 hF hS (line_net_all_ok hS.stab n way (line_side.mk (fun q_z=>line_low_1 q_z)) hs hs_1 hm hs_2 (show FnOk_123 _ _ 74 [] [] (fun q_z=>line_low_1 q_z) from ⟨ca_74,fun w D hb hle hon q_z r h=>line_low_1_ok hon q_z r h⟩) rv_1 hx_1) rfl rfl fun a w hF hS=>nT ⟨hS.weak ⟨rfl,rfl,trivial⟩,?_⟩
    refine oneV (i:=6) rfl ?_ ?_
    ·skip
     refine O.callP (us:=[]) ca_55 hF hS (line_high_ok hS.stab rv_2 hx_2) rfl rfl fun a w hF hS=>nT ⟨hS.weak ⟨rfl,rfl,trivial⟩,?_⟩
     refine oneV (i:=7) rfl ?_ ?_
     ·skip
      refine O.callP (us:=[.agg #[iv n.LineNet.Exchanges,.slice p n.LineNet.Lines.length c,iv n.LineNet.Hops,.slice p_1 n.LineNet.Loops.length c_1,.map bm,iv n.left],.slice p_2 way.length c_2,.agg #[.func (.func 75) #[] #[]]]) ca_53 hF hS (line_net_all_ok hS.stab n way (line_side.mk (fun q_z=>line_high_1 q_z)) hs hs_1 hm hs_2 (show FnOk_123 _ _ 75 [] [] (fun q_z=>line_high_1 q_z) from ⟨ca_75,fun w D hb hle hon q_z r h=>line_high_1_ok hon q_z r h⟩) rv_3 hx_3) rfl rfl fun a w hF hS=>nT ⟨hS.weak ⟨rfl,rfl,trivial⟩,?_⟩
      refine stepV (i:=8) rfl hF (fun w hS=>Y.build (parts:=[(0,(.tmp 14)),(1,(.tmp 18))]) (cs:=#[iv rv_1,iv rv_3]) hF rfl (by kernel_rfl)) rfl fun a hF=>oneV (i:=9) rfl ?_ trivial
      refine O.alloc 3 zc_27 hF hS rfl fun b_3 a w hF hS=>nT ⟨hS.weak ⟨rfl,rfl,trivial⟩,?_⟩
      exact toTailV ⟨b_3,hF.weak (AF rfl),hS.weak (AL rfl)⟩
     refine oneV (i:=9) rfl ?_ trivial
     refine O.alloc 3 zc_27 hF hS rfl fun b_4 a w hF hS=>nT ⟨hS.weak ⟨rfl,rfl,trivial⟩,?_⟩
     refine oneV (i:=7) rfl ?_ trivial
     refine O.callP (us:=[.agg #[iv n.LineNet.Exchanges,.slice p n.LineNet.Lines.length c,iv n.LineNet.Hops,.slice p_1 n.LineNet.Loops.length c_1,.map bm,iv n.left],.slice p_2 way.length c_2,.agg #[.func (.func 75) #[] #[]]]) ca_53 hF hS (line_net_all_ok hS.stab n way (line_side.mk (fun q_z=>line_high_1 q_z)) hs hs_1 hm hs_2 (show FnOk_123 _ _ 75 [] [] (fun q_z=>line_high_1 q_z) from ⟨ca_75,fun w D hb hle hon q_z r h=>line_high_1_ok hon q_z r h⟩) rv_3 hx_3) rfl rfl fun a w hF hS=>nT ⟨hS.weak ⟨rfl,rfl,trivial⟩,?_⟩
     refine stepV (i:=8) rfl hF (fun w hS=>Y.build (parts:=[(0,(.tmp 14)),(1,(.tmp 18))]) (cs:=#[iv rv_1,iv rv_3]) hF rfl (by kernel_rfl)) rfl fun a hF=>toTailV ⟨b_4,hF.weak (AF rfl),hS.weak (AL rfl)⟩
    refine oneV (i:=9) rfl ?_ trivial
    refine O.alloc 3 zc_27 hF hS rfl fun b_5 a w hF hS=>nT ⟨hS.weak ⟨rfl,rfl,trivial⟩,?_⟩
    refine oneV (i:=6) rfl ?_ trivial
    refine O.callP (us:=[]) ca_55 hF hS (line_high_ok hS.stab rv_2 hx_2) rfl rfl fun a w hF hS=>nT ⟨hS.weak ⟨rfl,rfl,trivial⟩,?_⟩
    refine oneV (i:=7) rfl ?_ trivial
    refine O.callP (us:=[.agg #[iv n.LineNet.Exchanges,.slice p n.LineNet.Lines.length c,iv n.LineNet.Hops,.slice p_1 n.LineNet.Loops.length c_1,.map bm,iv n.left],.slice p_2 way.length c_2,.agg #[.func (.func 75) #[] #[]]]) ca_53 hF hS (line_net_all_ok hS.stab n way (line_side.mk (fun q_z=>line_high_1 q_z)) hs hs_1 hm hs_2 (show FnOk_123 _ _ 75 [] [] (fun q_z=>line_high_1 q_z) from ⟨ca_75,fun w D hb hle hon q_z r h=>line_high_1_ok hon q_z r h⟩) rv_3 hx_3) rfl rfl fun a w hF hS=>nT ⟨hS.weak ⟨rfl,rfl,trivial⟩,?_⟩
    refine stepV (i:=8) rfl hF (fun w hS=>Y.build (parts:=[(0,(.tmp 14)),(1,(.tmp 18))]) (cs:=#[iv rv_1,iv rv_3]) hF rfl (by kernel_rfl)) rfl fun a hF=>toTailV ⟨b_5,hF.weak (AF rfl),hS.weak (AL rfl)⟩
   refine oneV (i:=9) rfl ?_ trivial
   refine O.alloc 3 zc_27 hF hS rfl fun b_6 a w hF hS=>nT ⟨hS.weak ⟨rfl,rfl,trivial⟩,?_⟩
   refine oneV (i:=3) rfl ?_ trivial
   refine O.callP (us:=[.agg #[iv n.LineNet.Exchanges,.slice p n.LineNet.Lines.length c,iv n.LineNet.Hops,.slice p_1 n.LineNet.Loops.length c_1,.map bm,iv n.left],.slice p_2 way.length c_2,.agg #[.func (.func 74) #[] #[]]]) ca_53 hF hS (line_net_all_ok hS.stab n way (line_side.mk (fun q_z=>line_low_1 q_z)) hs hs_1 hm hs_2 (show FnOk_123 _ _ 74 [] [] (fun q_z=>line_low_1 q_z) from ⟨ca_74,fun w D hb hle hon q_z r h=>line_low_1_ok hon q_z r h⟩) rv_1 hx_1) rfl rfl fun a w hF hS=>nT ⟨hS.weak ⟨rfl,rfl,trivial⟩,?_⟩
   refine oneV (i:=6) rfl ?_ trivial
   refine O.callP (us:=[]) ca_55 hF hS (line_high_ok hS.stab rv_2 hx_2) rfl rfl fun a w hF hS=>nT ⟨hS.weak ⟨rfl,rfl,trivial⟩,?_⟩
   refine oneV (i:=7) rfl ?_ trivial
   refine O.callP (us:=[.agg #[iv n.LineNet.Exchanges,.slice p n.LineNet.Lines.length c,iv n.LineNet.Hops,.slice p_1 n.LineNet.Loops.length c_1,.map bm,iv n.left],.slice p_2 way.length c_2,.agg #[.func (.func 75) #[] #[]]]) ca_53 hF hS (line_net_all_ok hS.stab n way (line_side.mk (fun q_z=>line_high_1 q_z)) hs hs_1 hm hs_2 (show FnOk_123 _ _ 75 [] [] (fun q_z=>line_high_1 q_z) from ⟨ca_75,fun w D hb hle hon q_z r h=>line_high_1_ok hon q_z r h⟩) rv_3 hx_3) rfl rfl fun a w hF hS=>nT ⟨hS.weak ⟨rfl,rfl,trivial⟩,?_⟩
   refine stepV (i:=8) rfl hF (fun w hS=>Y.build (parts:=[(0,(.tmp 14)),(1,(.tmp 18))]) (cs:=#[iv rv_1,iv rv_3]) hF rfl (by kernel_rfl)) rfl fun a hF=>toTailV ⟨b_6,hF.weak (AF rfl),hS.weak (AL rfl)⟩
  refine oneV (i:=9) rfl ?_ trivial
  refine O.alloc 3 zc_27 hF hS rfl fun b_7 a w hF hS=>nT ⟨hS.weak ⟨rfl,rfl,trivial⟩,?_⟩
  refine oneV (i:=2) rfl ?_ trivial
  refine O.callP (us:=[]) ca_54 hF hS (line_low_ok hS.stab rv hx) rfl rfl fun a w hF hS=>nT ⟨hS.weak ⟨rfl,rfl,trivial⟩,?_⟩
  refine oneV (i:=3) rfl ?_ trivial
  refine O.callP (us:=[.agg #[iv n.LineNet.Exchanges,.slice p n.LineNet.Lines.length c,iv n.LineNet.Hops,.slice p_1 n.LineNet.Loops.length c_1,.map bm,iv n.left],.slice p_2 way.length c_2,.agg #[.func (.func 74) #[] #[]]]) ca_53 hF hS (line_net_all_ok hS.stab n way (line_side.mk (fun q_z=>line_low_1 q_z)) hs hs_1 hm hs_2 (show FnOk_123 _ _ 74 [] [] (fun q_z=>line_low_1 q_z) from ⟨ca_74,fun w D hb hle hon q_z r h=>line_low_1_ok hon q_z r h⟩) rv_1 hx_1) rfl rfl fun a w hF hS=>nT ⟨hS.weak ⟨rfl,rfl,trivial⟩,?_⟩
  refine oneV (i:=6) rfl ?_ trivial
  refine O.callP (us:=[]) ca_55 hF hS (line_high_ok hS.stab rv_2 hx_2) rfl rfl fun a w hF hS=>nT ⟨hS.weak ⟨rfl,rfl,trivial⟩,?_⟩
  refine oneV (i:=7) rfl ?_ trivial
  refine O.callP (us:=[.agg #[iv n.LineNet.Exchanges,.slice p n.LineNet.Lines.length c,iv n.LineNet.Hops,.slice p_1 n.LineNet.Loops.length c_1,.map bm,iv n.left],.slice p_2 way.length c_2,.agg #[.func (.func 75) #[] #[]]]) ca_53 hF hS (line_net_all_ok hS.stab n way (line_side.mk (fun q_z=>line_high_1 q_z)) hs hs_1 hm hs_2 (show FnOk_123 _ _ 75 [] [] (fun q_z=>line_high_1 q_z) from ⟨ca_75,fun w D hb hle hon q_z r h=>line_high_1_ok hon q_z r h⟩) rv_3 hx_3) rfl rfl fun a w hF hS=>nT ⟨hS.weak ⟨rfl,rfl,trivial⟩,?_⟩
  refine stepV (i:=8) rfl hF (fun w hS=>Y.build (parts:=[(0,(.tmp 14)),(1,(.tmp 18))]) (cs:=#[iv rv_1,iv rv_3]) hF rfl (by kernel_rfl)) rfl fun a hF=>toTailV ⟨b_7,hF.weak (AF rfl),hS.weak (AL rfl)⟩
 rintro a w ⟨b_2,hF,hS⟩
 refine O.store (us:=[iv rv_1,iv rv_3]) 3 sz_27 hF rfl rfl rfl rfl hS rfl rfl fun a w hF hS=>nT (seq (seq (region (step hF (Y.fieldAddr fo_85_0 hF rfl) rfl fun a hF=>step hF (Y.fieldAddr fo_25_3 hF rfl) rfl fun a hF=>step hF (Y.load1L 1 sz_23 hF rfl hS rfl rfl) rfl fun a hF=>step hF (Y.lenSl u_23 hF rfl) rfl fun a hF=>step hF (Y.move hF rfl) rfl fun a hF=>nT (block (loop_cut (body:=line_net_delay_b1 n exchange) (out:=out) (fun s a w=>∃ (v24_0:Int) (z:Int) (z_1:Int),s=(v24_0,z,z_1)∧Frm 64 [] [(1,iv exchange),(3,.pointer (some ⟨b,0,none⟩)),(6,.pointer (some ⟨b_1,0,none⟩)),(7,.bool false),(8,.pointer (some ⟨b_2,0,none⟩)),(22,.slice p_1 n.LineNet.Loops.length c_1),(23,iv (n.LineNet.Loops.length:Int)),(24,iv v24_0)] a∧St w0 D0 D0 [(1,.cells b [iv n.LineNet.Exchanges,.slice p n.LineNet.Lines.length c,iv n.LineNet.Hops,.slice p_1 n.LineNet.Loops.length c_1,.map bm,iv n.left] 85),(2,.cells b_1 [iv 0,iv 0] 27),(3,.cells b_2 [iv z,iv z_1] 27)] w) (0,rv_1,rv_3) h ⟨0,rv_1,rv_3,rfl,hF.weak (AF rfl),hS.weak (AL rfl)⟩ ?_))))))
 rintro s a w xo ⟨v24_0,z,z_1,rfl,hF,hS⟩ h hxo
 unfold line_net_delay_b1 at h
 dsimp only at h
 refine seq (region (step hF (Y.lss hF rfl rfl) rfl fun a hF=>nT (seq (cond_b hF rfl (fun hbv=>?_) (fun hbv=>?_)))))
 ·replace h:=cond_t h hbv
  refine skip_ (then_n (seq (block (seq (region (step hF (Y.move hF rfl) rfl fun a hF=>?_))))))
  obtain ⟨e,hx_4,h⟩:=bind_some h
  obtain ⟨b_8,o,hE,hY⟩:=Y.indexS (P:=Tryz.prog) (C:=C_LineLoop) (xs:=n.LineNet.Loops) (T:=23) (x:=(.tmp 22)) (y:=(.tmp 24)) u_23 sz_62 hF rfl rfl (hs_1).1 hx_4
  obtain ⟨cc,hc,hcell⟩:=hE.open
  obtain rfl:=C_LineLoop.open hc
  refine step hF (hY) rfl fun a hF=>step hF (Y.loadNE (o:=o) (k:=0) sz_62 hF rfl (hcell _ hS.stab) rfl rfl) rfl fun a hF=>O.alloc 4 zc_62 hF hS rfl fun b_9 a w hF hS=>step hF (Y.assign hF rfl) rfl fun a hF=>O.store (us:=[iv e.Exchange,iv e.Read.Low,iv e.Read.High]) 4 sz_62 hF rfl rfl rfl rfl hS rfl rfl fun a w hF hS=>nT (seq (region (step hF (Y.fieldAddr fo_85_2 hF rfl) rfl fun a hF=>step hF (Y.load1L 1 sz_3 hF rfl hS rfl rfl) rfl fun a hF=>step hF (Y.move hF rfl) rfl fun a hF=>?_)))
  obtain ⟨hg,h⟩:=ite_some h
  refine step hF (Y.shr hF rfl rfl hg) rfl fun a hF=>step hF (Y.and hF rfl rfl) rfl fun a hF=>step hF (Y.eql hF rfl rfl) rfl fun a hF=>step hF (Y.move hF rfl) rfl fun a hF=>join (N:=64) (rs:=[]) (w0:=w0) (D0:=D0) 5 (us:=[(1,iv exchange),(3,.pointer (some ⟨b,0,none⟩)),(6,.pointer (some ⟨b_1,0,none⟩)),(7,.bool false),(8,.pointer (some ⟨b_2,0,none⟩)),(10,.pointer (some ⟨b_9,0,none⟩)),(22,.slice p_1 n.LineNet.Loops.length c_1),(23,iv (n.LineNet.Loops.length:Int)),(24,iv v24_0),(40,.bool (((bitsOp .and (gshr n.left v24_0) 1) == 0) && (e.Exchange == exchange)))]) (ms:=[(1,.cells b [iv n.LineNet.Exchanges,.slice p n.LineNet.Lines.length c,iv n.LineNet.Hops,.slice p_1 n.LineNet.Loops.length c_1,.map bm,iv n.left] 85),(2,.cells b_1 [iv 0,iv 0] 27),(3,.cells b_2 [iv z,iv z_1] 27),(4,.cells b_9 [iv e.Exchange,iv e.Read.Low,iv e.Read.High] 62)]) (D':=D0) ?_ ?_
  ·rcases bcases ((bitsOp .and (gshr n.left v24_0) 1) == 0) with hbv_1 | hbv_1
   ·skip
    refine guard_on hF rfl rfl hbv_1 (step hF (Y.fieldAddr fo_62_0 hF rfl) rfl fun a hF=>guard_on hF rfl rfl hbv_1 (step hF (Y.load1L 4 sz_3 hF rfl hS rfl rfl) rfl fun a hF=>guard_on hF rfl rfl hbv_1 (step hF (Y.move hF rfl) rfl fun a hF=>guard_on hF rfl rfl hbv_1 (step hF (Y.eql hF rfl rfl) rfl fun a hF=>step hF (Y.pick_t hF rfl hbv_1 rfl) rfl fun a hF=>nT ⟨hF.weak ⟨rfl,rfl,rfl,rfl,rfl,rfl,rfl,rfl,rfl,(by rw [hbv_1];rfl),trivial⟩,hS.weak (AL rfl)⟩))))
   refine guard_off hF rfl rfl hbv_1 rfl fun a hF=>guard_off hF rfl rfl hbv_1 rfl fun a hF=>guard_off hF rfl rfl hbv_1 rfl fun a hF=>guard_off hF rfl rfl hbv_1 rfl fun a hF=>step hF (Y.pick_f hF rfl hbv_1 rfl) rfl fun a hF=>nT ⟨hF.weak ⟨rfl,rfl,rfl,rfl,rfl,rfl,rfl,rfl,rfl,(by rw [hbv_1];rfl),trivial⟩,hS.weak (AL rfl)⟩
  intro a w hF hS
  refine nT (cond_b hF rfl (fun hbv_2=>?_) (fun hbv_2=>?_))
  ·replace h:=cond_t h hbv_2
   refine region (step hF (Y.fieldAddr fo_27_0 hF rfl) rfl fun a hF=>step hF (Y.load1L 3 sz_3 hF rfl hS rfl rfl) rfl fun a hF=>step hF (Y.fieldAddr fo_62_1 hF rfl) rfl fun a hF=>step hF (Y.fieldAddr fo_27_0 hF rfl) rfl fun a hF=>step hF (Y.load1L 4 sz_3 hF rfl hS rfl rfl) rfl fun a hF=>step hF (Y.add hF rfl rfl) rfl fun a hF=>step hF (Y.quo hF rfl rfl (by decide)) rfl fun a hF=>step hF (Y.max2 hF rfl rfl) rfl fun a hF=>step hF (Y.fieldAddr fo_27_1 hF rfl) rfl fun a hF=>step hF (Y.load1L 3 sz_3 hF rfl hS rfl rfl) rfl fun a hF=>step hF (Y.fieldAddr fo_62_1 hF rfl) rfl fun a hF=>step hF (Y.fieldAddr fo_27_1 hF rfl) rfl fun a hF=>step hF (Y.load1L 4 sz_3 hF rfl hS rfl rfl) rfl fun a hF=>step hF (Y.quo hF rfl rfl (by decide)) rfl fun a hF=>step hF (Y.min2 hF rfl rfl) rfl fun a hF=>step hF (Y.build (parts:=[(0,(.tmp 48)),(1,(.tmp 55))]) (cs:=#[iv (if wr (Int.tdiv (wr (e.Read.Low + 1)) 2) > z then wr (Int.tdiv (wr (e.Read.Low + 1)) 2) else z),iv (if wr (Int.tdiv e.Read.High 2) < z_1 then wr (Int.tdiv e.Read.High 2) else z_1)]) hF rfl (by kernel_rfl)) rfl fun a hF=>O.store (us:=[iv (if wr (Int.tdiv (wr (e.Read.Low + 1)) 2) > z then wr (Int.tdiv (wr (e.Read.Low + 1)) 2) else z),iv (if wr (Int.tdiv e.Read.High 2) < z_1 then wr (Int.tdiv e.Read.High 2) else z_1)]) 3 sz_27 hF rfl rfl rfl rfl hS rfl rfl fun a w hF hS=>nil (blk_n (then_n (region (step hF (Y.add hF rfl rfl) rfl fun a hF=>step hF (Y.move hF rfl) rfl fun a hF=>nT (⟨_,nxt_some h,(wr (v24_0 + 1)),(if wr (Int.tdiv (wr (e.Read.Low + 1)) 2) > z then wr (Int.tdiv (wr (e.Read.Low + 1)) 2) else z),(if wr (Int.tdiv e.Read.High 2) < z_1 then wr (Int.tdiv e.Read.High 2) else z_1),rfl,hF.weak (AF rfl),hS.weak (AL rfl)⟩))))))
  replace h:=cond_f h hbv_2
  refine skip_ (blk_n (then_n (region (step hF (Y.add hF rfl rfl) rfl fun a hF=>step hF (Y.move hF rfl) rfl fun a hF=>nT (⟨_,nxt_some h,(wr (v24_0 + 1)),z,z_1,rfl,hF.weak (AF rfl),hS.weak (AL rfl)⟩)))))
 replace h:=cond_f h hbv
 refine exit_ (then_x (then_x (blk_hit (then_n ?_))))
 replace h:=ext_some h hxo
 refine seq (drawsV 7 (.flt 0 (.flt 1 (.flt 2 (.flt 3 (.flt 4 (.flt 5 (.alt 6 .done .stop))))))) mixed_ (by kernel_rfl) (fun w=>St w0 D0 D0 [(1,.cells b [iv n.LineNet.Exchanges,.slice p n.LineNet.Lines.length c,iv n.LineNet.Hops,.slice p_1 n.LineNet.Loops.length c_1,.map bm,iv n.left] 85),(3,.cells b_2 [iv z,iv z_1] 27)] w) (fun a w=>Frm 64 [] [(6,.pointer (some ⟨b_1,0,none⟩)),(7,.bool false),(63,.bool (decide (z≤z_1)))] a∧St w0 D0 D0 [(1,.cells b [iv n.LineNet.Exchanges,.slice p n.LineNet.Lines.length c,iv n.LineNet.Hops,.slice p_1 n.LineNet.Loops.length c_1,.map bm,iv n.left] 85),(2,.cells b_1 [iv z,iv z_1] 27),(3,.cells b_2 [iv z,iv z_1] 27)] w) (hS.weak (ms:=[(1,.cells b [iv n.LineNet.Exchanges,.slice p n.LineNet.Lines.length c,iv n.LineNet.Hops,.slice p_1 n.LineNet.Loops.length c_1,.map bm,iv n.left] 85),(3,.cells b_2 [iv z,iv z_1] 27)]) ⟨rfl,rfl,trivial⟩).drew (fun _ _ _ _ h=>h) ?_ ?_)
 ·replace hS:=hS.drew
  have hle0:=hS.le
  refine stepV (i:=0) rfl hF (fun w hS=>Y.loadNL 3 sz_27 hF rfl hS rfl rfl rfl) rfl fun a hF=>stepV (i:=1) rfl hF (fun w hS=>Y.fieldAddr fo_27_0 hF rfl) rfl fun a hF=>stepV (i:=2) rfl hF (fun w hS=>Y.load1L 3 sz_3 hF rfl hS rfl rfl) rfl fun a hF=>stepV (i:=3) rfl hF (fun w hS=>Y.fieldAddr fo_27_1 hF rfl) rfl fun a hF=>stepV (i:=4) rfl hF (fun w hS=>Y.load1L 3 sz_3 hF rfl hS rfl rfl) rfl fun a hF=>stepV (i:=5) rfl hF (fun w hS=>Y.leq hF rfl rfl) rfl fun a hF=>oneV (i:=6) rfl ?_ trivial
  refine O.store (us:=[iv z,iv z_1]) 2 sz_27 hF rfl rfl rfl rfl hS rfl rfl fun a w hF hS=>nT ⟨hS.weak ⟨rfl,rfl,trivial⟩,?_⟩
  exact toTailV ⟨hF.weak (AF rfl),hS.weak (AL rfl)⟩
 rintro a w ⟨hF,hS⟩
 refine step hF (Y.assign hF rfl) rfl fun a hF=>nT (ret_ ?_)
 obtain rfl:=some_inj h
 exact leaveP Tryz.results28 hF hS (.cons (.cellN 2 sz_27 rfl rfl rfl) (.cons (.tmp rfl) .nil)) .nil rfl
noncomputable def line_net_reaches_b1 (n:line_net) (exchange:Int):(Bool × Int)→Option ((Bool × Int) ⊕ Bool)
 | (v4_0,v6_0)=>
  cond (decide (v6_0 < 7))
  (cond (decide ((((mget kl_154 n.ways (line_kind.mk exchange v6_0)).getD (([]:List (List Int)):(List (List Int)))).length:Int) > 0))
  (ext (some true))
  (nxt (v4_0,wr (v6_0 + 1))))
  (ext (some false))
noncomputable def line_net_reaches (n:line_net) (exchange:Int):Option Bool:=
  loopU (line_net_reaches_b1 n exchange) (false,0)
theorem line_net_reaches_ok {w0:World} {D0:Stab} (hD:D0.on w0) (n:line_net) (exchange:Int) {p:Option Addr} {c:Nat} {p_1:Option Addr} {c_1:Nat} {bm:Option Nat} (hs:SRc C_LineLine D0 n.LineNet.Lines p c) (hs_1:SRc C_LineLoop D0 n.LineNet.Loops p_1 c_1) (hm:MapB kl_154 (C_sl (C_sl C_int)) false D0 n.ways bm) (out:Bool) (h:line_net_reaches n exchange=some out):Calls Tryz.prog 51 [.agg #[iv n.LineNet.Exchanges,.slice p n.LineNet.Lines.length c,iv n.LineNet.Hops,.slice p_1 n.LineNet.Loops.length c_1,.map bm,iv n.left],iv exchange].toArray w0 (RetP D0 w0 (.bool out)):=by
 refine enter _ 18 Tryz.func51 rfl Tryz.ntmps51 rfl fun a hF=>?_
 replace hF:Frm 18 [] [(0,.agg #[iv n.LineNet.Exchanges,.slice p n.LineNet.Lines.length c,iv n.LineNet.Hops,.slice p_1 n.LineNet.Loops.length c_1,.map bm,iv n.left]),(1,iv exchange)] a:=hF
 have hS:=St.start hD
 unfold line_net_reaches at h
 refine seq (region (O.box (cs:=[iv n.LineNet.Exchanges,.slice p n.LineNet.Lines.length c,iv n.LineNet.Hops,.slice p_1 n.LineNet.Loops.length c_1,.map bm,iv n.left]) 1 hF rfl rfl hS rfl fun b a w hF hS=>step hF (Y.assign hF rfl) rfl fun a hF=>nT (seq (seq (region (step hF (Y.move hF rfl) rfl fun a hF=>nT (block (loop_cut (body:=line_net_reaches_b1 n exchange) (out:=out) (fun s a w=>∃ (v4_0:Bool) (v6_0:Int),s=(v4_0,v6_0)∧Frm 18 [] [(1,iv exchange),(2,.pointer (some ⟨b,0,none⟩)),(4,.bool v4_0),(6,iv v6_0)] a∧St w0 D0 D0 [(1,.cells b [iv n.LineNet.Exchanges,.slice p n.LineNet.Lines.length c,iv n.LineNet.Hops,.slice p_1 n.LineNet.Loops.length c_1,.map bm,iv n.left] 85)] w) (false,0) h ⟨false,0,rfl,hF.weak (AF rfl),hS.weak ⟨rfl,trivial⟩⟩ ?_))))))))
 rintro s a w xo ⟨v4_0,v6_0,rfl,hF,hS⟩ h hxo
 unfold line_net_reaches_b1 at h
 dsimp only at h
 refine seq (region (step hF (Y.lss hF rfl rfl) rfl fun a hF=>nT (seq (cond_b hF rfl (fun hbv=>?_) (fun hbv=>?_)))))
 ·replace h:=cond_t h hbv
  refine skip_ (then_n (seq (block (seq (region (step hF (Y.move hF rfl) rfl fun a hF=>step hF (Y.assign hF rfl) rfl fun a hF=>nT (seq (region (step hF (Y.fieldAddr fo_85_1 hF rfl) rfl fun a hF=>step hF (Y.load1L 1 sz_83 hF rfl hS rfl rfl) rfl fun a hF=>step hF (Y.move hF rfl) rfl fun a hF=>step hF (Y.move hF rfl) rfl fun a hF=>step hF (Y.build (parts:=[(0,(.tmp 11)),(1,(.tmp 12))]) (cs:=#[iv exchange,iv v6_0]) hF rfl (by kernel_rfl)) rfl fun a hF=>?_)))))))))
  obtain ⟨cc,hc,hY⟩:=Y.lookupS (kl:=kl_154) (C:=(C_sl (C_sl C_int))) (agg:=false) (xs:=n.ways) (x:=(.tmp 10)) (y:=(.tmp 13)) (z:=[.slice none 0 0]) (z0:=(([]:List (List Int)):(List (List Int)))) false  mt_83 (fun _=>rfl) (⟨_,_,rfl,SRc.nil⟩) (line_kind.mk exchange v6_0) hm.toS hF rfl rfl
  obtain ⟨p_2,c_2,rfl,hs_2⟩:=hc
  refine step hF ((show Yields _ _ _ _ (.slice p_2 ((mget kl_154 n.ways (line_kind.mk exchange v6_0)).getD (([]:List (List Int)):(List (List Int)))).length c_2) from hY hS.stab)) rfl fun a hF=>step hF (Y.lenSl u_45 hF rfl) rfl fun a hF=>step hF (Y.gtr hF rfl rfl) rfl fun a hF=>nT (cond_b hF rfl (fun hbv_1=>?_) (fun hbv_1=>?_))
  ·replace h:=cond_t h hbv_1
   refine seq (region (step hF (Y.assign hF rfl) rfl fun a hF=>nT (ret_ (blk_r (then_r (then_r (blk_r (then_r ?_))))))))
   replace h:=ext_some h hxo
   obtain rfl:=some_inj h
   exact leaveP Tryz.results51 hF hS (.cons (.tmp rfl) .nil) .nil rfl
  replace h:=cond_f h hbv_1
  refine skip_ (blk_n (then_n (region (step hF (Y.add hF rfl rfl) rfl fun a hF=>step hF (Y.move hF rfl) rfl fun a hF=>nT (⟨_,nxt_some h,v4_0,(wr (v6_0 + 1)),rfl,hF.weak (AF rfl),hS.weak ⟨rfl,trivial⟩⟩)))))
 replace h:=cond_f h hbv
 refine exit_ (then_x (then_x (blk_hit (then_n ?_))))
 replace h:=ext_some h hxo
 refine seq (region (step hF (Y.assign hF rfl) rfl fun a hF=>nT (ret_ ?_)))
 obtain rfl:=some_inj h
 exact leaveP Tryz.results51 hF hS (.cons (.tmp rfl) .nil) .nil rfl
noncomputable def cmp_isNaN_int_ (xv:Int):Option Bool:=
  some (xv != xv)
theorem cmp_isNaN_int__ok {w0:World} {D0:Stab} (hD:D0.on w0) (xv:Int) (out:Bool) (h:cmp_isNaN_int_ xv=some out):Calls Tryz.prog 99 [iv xv].toArray w0 (RetP D0 w0 (.bool out)):=by
 refine enter _ 6 Tryz.func99 rfl Tryz.ntmps99 rfl fun a hF=>?_
 replace hF:Frm 6 [] [(0,iv xv)] a:=hF
 have hS:=St.start hD
 unfold cmp_isNaN_int_ at h
 refine seq (region (step hF (Y.assign hF rfl) rfl fun a hF=>nT (seq (region (step hF (Y.move hF rfl) rfl fun a hF=>step hF (Y.move hF rfl) rfl fun a hF=>step hF (Y.neq hF rfl rfl) rfl fun a hF=>step hF (Y.assign hF rfl) rfl fun a hF=>nT (ret_ ?_))))))
 obtain rfl:=some_inj h
 exact leaveP Tryz.results99 hF hS (.cons (.tmp rfl) .nil) .nil rfl
theorem cmp_isNaN_int__q {w0:World} {D0:Stab} (hD:D0.on w0) (xv:Int) (out:Bool) (h:cmp_isNaN_int_ xv=some out):Calls Tryz.prog 99 [iv xv].toArray w0 (RetQ w0 (.bool out)):=by
 refine enter _ 6 Tryz.func99 rfl Tryz.ntmps99 rfl fun a hF=>?_
 replace hF:Frm 6 [] [(0,iv xv)] a:=hF
 have hS:=St.start hD
 unfold cmp_isNaN_int_ at h
 refine seq (region (step hF (Y.assign hF rfl) rfl fun a hF=>nT (seq (region (step hF (Y.move hF rfl) rfl fun a hF=>step hF (Y.move hF rfl) rfl fun a hF=>step hF (Y.neq hF rfl rfl) rfl fun a hF=>step hF (Y.assign hF rfl) rfl fun a hF=>nT (ret_ ?_))))))
 obtain rfl:=some_inj h
 exact leaveQ Tryz.results99 hF hS (.cons (.tmp rfl) .nil) rfl
noncomputable def cmp_Compare_int_ (xv:Int) (y:Int):Option Int:=
  (cmp_isNaN_int_ xv).bind fun rv=>
  (cmp_isNaN_int_ y).bind fun rv_1=>
  cond rv
  (cond rv_1
  (some 0)
  (some (-1)))
  (cond rv_1
  (some 1)
  (cond (decide (xv < y))
  (some (-1))
  (cond (decide (xv > y))
  (some 1)
  (some 0))))
theorem cmp_Compare_int__ok {w0:World} {D0:Stab} (hD:D0.on w0) (xv:Int) (y:Int) (out:Int) (h:cmp_Compare_int_ xv y=some out):Calls Tryz.prog 84 [iv xv,iv y].toArray w0 (RetP D0 w0 (iv out)):=by
 refine enter _ 20 Tryz.func84 rfl Tryz.ntmps84 rfl fun a hF=>?_
 replace hF:Frm 20 [] [(0,iv xv),(1,iv y)] a:=hF
 have hS:=St.start hD
 unfold cmp_Compare_int_ at h
 refine seq (region (step hF (Y.assign hF rfl) rfl fun a hF=>nT (seq (region (step hF (Y.move hF rfl) rfl fun a hF=>?_)))))
 obtain ⟨rv,hx,h⟩:=bind_some h
 refine O.callP (us:=[iv xv]) ca_99 hF hS (cmp_isNaN_int__ok hS.stab xv rv hx) rfl rfl fun a w hF hS=>step hF (Y.assign hF rfl) rfl fun a hF=>nT (seq (region (step hF (Y.move hF rfl) rfl fun a hF=>?_)))
 obtain ⟨rv_1,hx_1,h⟩:=bind_some h
 refine O.callP (us:=[iv y]) ca_99 hF hS (cmp_isNaN_int__ok hS.stab y rv_1 hx_1) rfl rfl fun a w hF hS=>step hF (Y.assign hF rfl) rfl fun a hF=>nT (seq (seq (region (step hF (Y.move hF rfl) rfl fun a hF=>nT (cond_b hF rfl (fun hbv=>?_) (fun hbv=>?_))))))
 ·replace h:=cond_t h hbv
  refine seq (seq (region (step hF (Y.move hF rfl) rfl fun a hF=>nT (cond_b hF rfl (fun hbv_1=>?_) (fun hbv_1=>?_)))))
  ·replace h:=cond_t h hbv_1
   refine seq (region (step hF (Y.assign hF rfl) rfl fun a hF=>nT (ret_ (then_r (then_r ?_)))))
   obtain rfl:=some_inj h
   exact leaveP Tryz.results84 hF hS (.cons (.tmp rfl) .nil) .nil rfl
  replace h:=cond_f h hbv_1
  refine skip_ (then_n (seq (region (step hF (Y.assign hF rfl) rfl fun a hF=>nT (ret_ (then_r ?_))))))
  obtain rfl:=some_inj h
  exact leaveP Tryz.results84 hF hS (.cons (.tmp rfl) .nil) .nil rfl
 replace h:=cond_f h hbv
 refine skip_ (then_n (seq (seq (region (step hF (Y.move hF rfl) rfl fun a hF=>nT (cond_b hF rfl (fun hbv_2=>?_) (fun hbv_2=>?_)))))))
 ·replace h:=cond_t h hbv_2
  refine seq (region (step hF (Y.assign hF rfl) rfl fun a hF=>nT (ret_ (then_r ?_))))
  obtain rfl:=some_inj h
  exact leaveP Tryz.results84 hF hS (.cons (.tmp rfl) .nil) .nil rfl
 replace h:=cond_f h hbv_2
 refine skip_ (then_n (seq (seq (region (step hF (Y.move hF rfl) rfl fun a hF=>step hF (Y.move hF rfl) rfl fun a hF=>step hF (Y.lss hF rfl rfl) rfl fun a hF=>nT (cond_b hF rfl (fun hbv_3=>?_) (fun hbv_3=>?_)))))))
 ·replace h:=cond_t h hbv_3
  refine seq (region (step hF (Y.assign hF rfl) rfl fun a hF=>nT (ret_ (then_r ?_))))
  obtain rfl:=some_inj h
  exact leaveP Tryz.results84 hF hS (.cons (.tmp rfl) .nil) .nil rfl
 replace h:=cond_f h hbv_3
 refine skip_ (then_n (seq (seq (region (step hF (Y.move hF rfl) rfl fun a hF=>step hF (Y.move hF rfl) rfl fun a hF=>step hF (Y.gtr hF rfl rfl) rfl fun a hF=>nT (cond_b hF rfl (fun hbv_4=>?_) (fun hbv_4=>?_)))))))
 ·replace h:=cond_t h hbv_4
  refine seq (region (step hF (Y.assign hF rfl) rfl fun a hF=>nT (ret_ (then_r ?_))))
  obtain rfl:=some_inj h
  exact leaveP Tryz.results84 hF hS (.cons (.tmp rfl) .nil) .nil rfl
 replace h:=cond_f h hbv_4
 refine skip_ (then_n (seq (region (step hF (Y.assign hF rfl) rfl fun a hF=>nT (ret_ ?_)))))
 obtain rfl:=some_inj h
 exact leaveP Tryz.results84 hF hS (.cons (.tmp rfl) .nil) .nil rfl
theorem cmp_Compare_int__q {w0:World} {D0:Stab} (hD:D0.on w0) (xv:Int) (y:Int) (out:Int) (h:cmp_Compare_int_ xv y=some out):Calls Tryz.prog 84 [iv xv,iv y].toArray w0 (RetQ w0 (iv out)):=by
 refine enter _ 20 Tryz.func84 rfl Tryz.ntmps84 rfl fun a hF=>?_
 replace hF:Frm 20 [] [(0,iv xv),(1,iv y)] a:=hF
 have hS:=St.start hD
 unfold cmp_Compare_int_ at h
 refine seq (region (step hF (Y.assign hF rfl) rfl fun a hF=>nT (seq (region (step hF (Y.move hF rfl) rfl fun a hF=>?_)))))
 obtain ⟨rv,hx,h⟩:=bind_some h
 refine O.callQ (us:=[iv xv]) ca_99 hF (cmp_isNaN_int__q hS.stab xv rv hx) rfl rfl fun a hF=>step hF (Y.assign hF rfl) rfl fun a hF=>nT (seq (region (step hF (Y.move hF rfl) rfl fun a hF=>?_)))
 obtain ⟨rv_1,hx_1,h⟩:=bind_some h
 refine O.callQ (us:=[iv y]) ca_99 hF (cmp_isNaN_int__q hS.stab y rv_1 hx_1) rfl rfl fun a hF=>step hF (Y.assign hF rfl) rfl fun a hF=>nT (seq (seq (region (step hF (Y.move hF rfl) rfl fun a hF=>nT (cond_b hF rfl (fun hbv=>?_) (fun hbv=>?_))))))
 ·replace h:=cond_t h hbv
  refine seq (seq (region (step hF (Y.move hF rfl) rfl fun a hF=>nT (cond_b hF rfl (fun hbv_1=>?_) (fun hbv_1=>?_)))))
  ·replace h:=cond_t h hbv_1
   refine seq (region (step hF (Y.assign hF rfl) rfl fun a hF=>nT (ret_ (then_r (then_r ?_)))))
   obtain rfl:=some_inj h
   exact leaveQ Tryz.results84 hF hS (.cons (.tmp rfl) .nil) rfl
  replace h:=cond_f h hbv_1
  refine skip_ (then_n (seq (region (step hF (Y.assign hF rfl) rfl fun a hF=>nT (ret_ (then_r ?_))))))
  obtain rfl:=some_inj h
  exact leaveQ Tryz.results84 hF hS (.cons (.tmp rfl) .nil) rfl
 replace h:=cond_f h hbv
 refine skip_ (then_n (seq (seq (region (step hF (Y.move hF rfl) rfl fun a hF=>nT (cond_b hF rfl (fun hbv_2=>?_) (fun hbv_2=>?_)))))))
 ·replace h:=cond_t h hbv_2
  refine seq (region (step hF (Y.assign hF rfl) rfl fun a hF=>nT (ret_ (then_r ?_))))
  obtain rfl:=some_inj h
  exact leaveQ Tryz.results84 hF hS (.cons (.tmp rfl) .nil) rfl
 replace h:=cond_f h hbv_2
 refine skip_ (then_n (seq (seq (region (step hF (Y.move hF rfl) rfl fun a hF=>step hF (Y.move hF rfl) rfl fun a hF=>step hF (Y.lss hF rfl rfl) rfl fun a hF=>nT (cond_b hF rfl (fun hbv_3=>?_) (fun hbv_3=>?_)))))))
 ·replace h:=cond_t h hbv_3
  refine seq (region (step hF (Y.assign hF rfl) rfl fun a hF=>nT (ret_ (then_r ?_))))
  obtain rfl:=some_inj h
  exact leaveQ Tryz.results84 hF hS (.cons (.tmp rfl) .nil) rfl
 replace h:=cond_f h hbv_3
 refine skip_ (then_n (seq (seq (region (step hF (Y.move hF rfl) rfl fun a hF=>step hF (Y.move hF rfl) rfl fun a hF=>step hF (Y.gtr hF rfl rfl) rfl fun a hF=>nT (cond_b hF rfl (fun hbv_4=>?_) (fun hbv_4=>?_)))))))
 ·replace h:=cond_t h hbv_4
  refine seq (region (step hF (Y.assign hF rfl) rfl fun a hF=>nT (ret_ (then_r ?_))))
  obtain rfl:=some_inj h
  exact leaveQ Tryz.results84 hF hS (.cons (.tmp rfl) .nil) rfl
 replace h:=cond_f h hbv_4
 refine skip_ (then_n (seq (region (step hF (Y.assign hF rfl) rfl fun a hF=>nT (ret_ ?_)))))
 obtain rfl:=some_inj h
 exact leaveQ Tryz.results84 hF hS (.cons (.tmp rfl) .nil) rfl
noncomputable def slices_Compare___int_int__b1 (s1_0:(List Int)) (s2_0:(List Int)):(Int × Int)→Option ((Int × Int) ⊕ Int)
 | (v4_0,v11_0)=>
  cond (decide (v11_0 < (s1_0.length:Int)))
  ((idx s1_0 v11_0).bind fun e=>
  cond (decide (v11_0 ≥ (s2_0.length:Int)))
  (ext (some 1))
  ((idx s2_0 v11_0).bind fun e_1=>
  (cmp_Compare_int_ e e_1).bind fun rv=>
  cond (rv != 0)
  (ext (some rv))
  (nxt (v4_0,wr (v11_0 + 1)))))
  (ext (cond (decide ((s1_0.length:Int) < (s2_0.length:Int)))
  (some (-1))
  (some 0)))
noncomputable def slices_Compare___int_int_ (s1_0:(List Int)) (s2_0:(List Int)):Option Int:=
  loopU (slices_Compare___int_int__b1 s1_0 s2_0) (0,0)
theorem slices_Compare___int_int__ok {w0:World} {D0:Stab} (hD:D0.on w0) (s1_0:(List Int)) (s2_0:(List Int)) {p:Option Addr} {c:Nat} {p_1:Option Addr} {c_1:Nat} (hs:SRc C_int D0 s1_0 p c) (hs_1:SRc C_int D0 s2_0 p_1 c_1) (out:Int) (h:slices_Compare___int_int_ s1_0 s2_0=some out):Calls Tryz.prog 72 [.slice p s1_0.length c,.slice p_1 s2_0.length c_1].toArray w0 (RetP D0 w0 (iv out)):=by
 refine enter _ 36 Tryz.func72 rfl Tryz.ntmps72 rfl fun a hF=>?_
 replace hF:Frm 36 [] [(0,.slice p s1_0.length c),(1,.slice p_1 s2_0.length c_1)] a:=hF
 have hS:=St.start hD
 unfold slices_Compare___int_int_ at h
 refine seq (region (step hF (Y.assign hF rfl) rfl fun a hF=>nT (seq (seq (region (step hF (Y.move hF rfl) rfl fun a hF=>step hF (Y.lenSl u_30 hF rfl) rfl fun a hF=>step hF (Y.move hF rfl) rfl fun a hF=>nT (block (loop_cut (body:=slices_Compare___int_int__b1 s1_0 s2_0) (out:=out) (fun s a w=>∃ (v4_0:Int) (v11_0:Int),s=(v4_0,v11_0)∧Frm 36 [] [(0,.slice p s1_0.length c),(1,.slice p_1 s2_0.length c_1),(4,iv v4_0),(9,.slice p s1_0.length c),(10,iv (s1_0.length:Int)),(11,iv v11_0)] a∧St w0 D0 D0 [] w) (0,0) h ⟨0,0,rfl,hF.weak (AF rfl),hS.weak trivial⟩ ?_))))))))
 rintro s a w xo ⟨v4_0,v11_0,rfl,hF,hS⟩ h hxo
 unfold slices_Compare___int_int__b1 at h
 dsimp only at h
 refine seq (region (step hF (Y.lss hF rfl rfl) rfl fun a hF=>nT (seq (cond_b hF rfl (fun hbv=>?_) (fun hbv=>?_)))))
 ·replace h:=cond_t h hbv
  refine skip_ (then_n (seq (block (seq (region (step hF (Y.move hF rfl) rfl fun a hF=>?_))))))
  obtain ⟨e,hx,h⟩:=bind_some h
  obtain ⟨b,o,hE,hY⟩:=Y.indexS (P:=Tryz.prog) (C:=C_int) (xs:=s1_0) (T:=30) (x:=(.tmp 9)) (y:=(.tmp 11)) u_30 sz_3 hF rfl rfl (hs).1 hx
  obtain ⟨cc,hc,hcell⟩:=hE.open
  obtain rfl:=hc
  refine step hF (hY) rfl fun a hF=>step hF (Y.load1 sz_3 hF rfl (hcell _ hS.stab 0 _ rfl)) rfl fun a hF=>step hF (Y.assign hF rfl) rfl fun a hF=>step hF (Y.assign hF rfl) rfl fun a hF=>nT (seq (seq (region (step hF (Y.move hF rfl) rfl fun a hF=>step hF (Y.move hF rfl) rfl fun a hF=>step hF (Y.lenSl u_30 hF rfl) rfl fun a hF=>step hF (Y.geq hF rfl rfl) rfl fun a hF=>nT (cond_b hF rfl (fun hbv_1=>?_) (fun hbv_1=>?_))))))
  ·replace h:=cond_t h hbv_1
   refine seq (region (step hF (Y.assign hF rfl) rfl fun a hF=>nT (ret_ (then_r (blk_r (then_r (then_r (blk_r (then_r ?_)))))))))
   replace h:=ext_some h hxo
   obtain rfl:=some_inj h
   exact leaveP Tryz.results72 hF hS (.cons (.tmp rfl) .nil) .nil rfl
  replace h:=cond_f h hbv_1
  refine skip_ (then_n (seq (region (step hF (Y.move hF rfl) rfl fun a hF=>step hF (Y.move hF rfl) rfl fun a hF=>?_))))
  obtain ⟨e_1,hx_1,h⟩:=bind_some h
  obtain ⟨b_1,o_1,hE_1,hY_1⟩:=Y.indexS (P:=Tryz.prog) (C:=C_int) (xs:=s2_0) (T:=30) (x:=(.tmp 20)) (y:=(.tmp 21)) u_30 sz_3 hF rfl rfl (hs_1).1 hx_1
  obtain ⟨cc_1,hc_1,hcell_1⟩:=hE_1.open
  obtain rfl:=hc_1
  refine step hF (hY_1) rfl fun a hF=>step hF (Y.load1 sz_3 hF rfl (hcell_1 _ hS.stab 0 _ rfl)) rfl fun a hF=>step hF (Y.assign hF rfl) rfl fun a hF=>nT (seq (region (step hF (Y.move hF rfl) rfl fun a hF=>step hF (Y.move hF rfl) rfl fun a hF=>?_)))
  obtain ⟨rv,hx_2,h⟩:=bind_some h
  refine O.callP (us:=[iv e,iv e_1]) ca_84 hF hS (cmp_Compare_int__ok hS.stab e e_1 rv hx_2) rfl rfl fun a w hF hS=>step hF (Y.assign hF rfl) rfl fun a hF=>nT (seq (region (step hF (Y.move hF rfl) rfl fun a hF=>step hF (Y.neq hF rfl rfl) rfl fun a hF=>nT (cond_b hF rfl (fun hbv_2=>?_) (fun hbv_2=>?_)))))
  ·replace h:=cond_t h hbv_2
   refine seq (region (step hF (Y.move hF rfl) rfl fun a hF=>step hF (Y.assign hF rfl) rfl fun a hF=>nT (ret_ (blk_r (then_r (then_r (blk_r (then_r ?_))))))))
   replace h:=ext_some h hxo
   obtain rfl:=some_inj h
   exact leaveP Tryz.results72 hF hS (.cons (.tmp rfl) .nil) .nil rfl
  replace h:=cond_f h hbv_2
  refine skip_ (blk_n (then_n (region (step hF (Y.add hF rfl rfl) rfl fun a hF=>step hF (Y.move hF rfl) rfl fun a hF=>nT (⟨_,nxt_some h,v4_0,(wr (v11_0 + 1)),rfl,hF.weak (AF rfl),hS.weak trivial⟩)))))
 replace h:=cond_f h hbv
 refine exit_ (then_x (then_x (blk_hit (then_n ?_))))
 replace h:=ext_some h hxo
 refine seq (seq (region (step hF (Y.move hF rfl) rfl fun a hF=>step hF (Y.lenSl u_30 hF rfl) rfl fun a hF=>step hF (Y.move hF rfl) rfl fun a hF=>step hF (Y.lenSl u_30 hF rfl) rfl fun a hF=>step hF (Y.lss hF rfl rfl) rfl fun a hF=>nT (cond_b hF rfl (fun hbv_3=>?_) (fun hbv_3=>?_)))))
 ·replace h:=cond_t h hbv_3
  refine seq (region (step hF (Y.assign hF rfl) rfl fun a hF=>nT (ret_ (then_r ?_))))
  obtain rfl:=some_inj h
  exact leaveP Tryz.results72 hF hS (.cons (.tmp rfl) .nil) .nil rfl
 replace h:=cond_f h hbv_3
 refine skip_ (then_n (seq (region (step hF (Y.assign hF rfl) rfl fun a hF=>nT (ret_ ?_)))))
 obtain rfl:=some_inj h
 exact leaveP Tryz.results72 hF hS (.cons (.tmp rfl) .nil) .nil rfl
theorem slices_Compare___int_int__q {w0:World} {D0:Stab} (hD:D0.on w0) (s1_0:(List Int)) (s2_0:(List Int)) {p:Option Addr} {c:Nat} {p_1:Option Addr} {c_1:Nat} (hs:SRc C_int D0 s1_0 p c) (hs_1:SRc C_int D0 s2_0 p_1 c_1) (out:Int) (h:slices_Compare___int_int_ s1_0 s2_0=some out):Calls Tryz.prog 72 [.slice p s1_0.length c,.slice p_1 s2_0.length c_1].toArray w0 (RetQ w0 (iv out)):=by
 refine enter _ 36 Tryz.func72 rfl Tryz.ntmps72 rfl fun a hF=>?_
 replace hF:Frm 36 [] [(0,.slice p s1_0.length c),(1,.slice p_1 s2_0.length c_1)] a:=hF
 have hS:=St.start hD
 unfold slices_Compare___int_int_ at h
 refine seq (region (step hF (Y.assign hF rfl) rfl fun a hF=>nT (seq (seq (region (step hF (Y.move hF rfl) rfl fun a hF=>step hF (Y.lenSl u_30 hF rfl) rfl fun a hF=>step hF (Y.move hF rfl) rfl fun a hF=>nT (block (loop_cut (body:=slices_Compare___int_int__b1 s1_0 s2_0) (out:=out) (fun s a w=>∃ (v4_0:Int) (v11_0:Int),s=(v4_0,v11_0)∧Frm 36 [] [(0,.slice p s1_0.length c),(1,.slice p_1 s2_0.length c_1),(4,iv v4_0),(9,.slice p s1_0.length c),(10,iv (s1_0.length:Int)),(11,iv v11_0)] a∧St w0 D0 D0 [] w∧w=w0) (0,0) h ⟨0,0,rfl,hF.weak (AF rfl),hS.weak trivial,rfl⟩ ?_))))))))
 rintro s a w xo ⟨v4_0,v11_0,rfl,hF,hS,hw_⟩ h hxo
 subst hw_
 unfold slices_Compare___int_int__b1 at h
 dsimp only at h
 refine seq (region (step hF (Y.lss hF rfl rfl) rfl fun a hF=>nT (seq (cond_b hF rfl (fun hbv=>?_) (fun hbv=>?_)))))
 ·replace h:=cond_t h hbv
  refine skip_ (then_n (seq (block (seq (region (step hF (Y.move hF rfl) rfl fun a hF=>?_))))))
  obtain ⟨e,hx,h⟩:=bind_some h
  obtain ⟨b,o,hE,hY⟩:=Y.indexS (P:=Tryz.prog) (C:=C_int) (xs:=s1_0) (T:=30) (x:=(.tmp 9)) (y:=(.tmp 11)) u_30 sz_3 hF rfl rfl (hs).1 hx
  obtain ⟨cc,hc,hcell⟩:=hE.open
  obtain rfl:=hc
  refine step hF (hY) rfl fun a hF=>step hF (Y.load1 sz_3 hF rfl (hcell _ hS.stab 0 _ rfl)) rfl fun a hF=>step hF (Y.assign hF rfl) rfl fun a hF=>step hF (Y.assign hF rfl) rfl fun a hF=>nT (seq (seq (region (step hF (Y.move hF rfl) rfl fun a hF=>step hF (Y.move hF rfl) rfl fun a hF=>step hF (Y.lenSl u_30 hF rfl) rfl fun a hF=>step hF (Y.geq hF rfl rfl) rfl fun a hF=>nT (cond_b hF rfl (fun hbv_1=>?_) (fun hbv_1=>?_))))))
  ·replace h:=cond_t h hbv_1
   refine seq (region (step hF (Y.assign hF rfl) rfl fun a hF=>nT (ret_ (then_r (blk_r (then_r (then_r (blk_r (then_r ?_)))))))))
   replace h:=ext_some h hxo
   obtain rfl:=some_inj h
   exact leaveQ Tryz.results72 hF hS (.cons (.tmp rfl) .nil) rfl
  replace h:=cond_f h hbv_1
  refine skip_ (then_n (seq (region (step hF (Y.move hF rfl) rfl fun a hF=>step hF (Y.move hF rfl) rfl fun a hF=>?_))))
  obtain ⟨e_1,hx_1,h⟩:=bind_some h
  obtain ⟨b_1,o_1,hE_1,hY_1⟩:=Y.indexS (P:=Tryz.prog) (C:=C_int) (xs:=s2_0) (T:=30) (x:=(.tmp 20)) (y:=(.tmp 21)) u_30 sz_3 hF rfl rfl (hs_1).1 hx_1
  obtain ⟨cc_1,hc_1,hcell_1⟩:=hE_1.open
  obtain rfl:=hc_1
  refine step hF (hY_1) rfl fun a hF=>step hF (Y.load1 sz_3 hF rfl (hcell_1 _ hS.stab 0 _ rfl)) rfl fun a hF=>step hF (Y.assign hF rfl) rfl fun a hF=>nT (seq (region (step hF (Y.move hF rfl) rfl fun a hF=>step hF (Y.move hF rfl) rfl fun a hF=>?_)))
  obtain ⟨rv,hx_2,h⟩:=bind_some h
  refine O.callQ (us:=[iv e,iv e_1]) ca_84 hF (cmp_Compare_int__q hS.stab e e_1 rv hx_2) rfl rfl fun a hF=>step hF (Y.assign hF rfl) rfl fun a hF=>nT (seq (region (step hF (Y.move hF rfl) rfl fun a hF=>step hF (Y.neq hF rfl rfl) rfl fun a hF=>nT (cond_b hF rfl (fun hbv_2=>?_) (fun hbv_2=>?_)))))
  ·replace h:=cond_t h hbv_2
   refine seq (region (step hF (Y.move hF rfl) rfl fun a hF=>step hF (Y.assign hF rfl) rfl fun a hF=>nT (ret_ (blk_r (then_r (then_r (blk_r (then_r ?_))))))))
   replace h:=ext_some h hxo
   obtain rfl:=some_inj h
   exact leaveQ Tryz.results72 hF hS (.cons (.tmp rfl) .nil) rfl
  replace h:=cond_f h hbv_2
  refine skip_ (blk_n (then_n (region (step hF (Y.add hF rfl rfl) rfl fun a hF=>step hF (Y.move hF rfl) rfl fun a hF=>nT (⟨_,nxt_some h,v4_0,(wr (v11_0 + 1)),rfl,hF.weak (AF rfl),hS.weak trivial,rfl⟩)))))
 replace h:=cond_f h hbv
 refine exit_ (then_x (then_x (blk_hit (then_n ?_))))
 replace h:=ext_some h hxo
 refine seq (seq (region (step hF (Y.move hF rfl) rfl fun a hF=>step hF (Y.lenSl u_30 hF rfl) rfl fun a hF=>step hF (Y.move hF rfl) rfl fun a hF=>step hF (Y.lenSl u_30 hF rfl) rfl fun a hF=>step hF (Y.lss hF rfl rfl) rfl fun a hF=>nT (cond_b hF rfl (fun hbv_3=>?_) (fun hbv_3=>?_)))))
 ·replace h:=cond_t h hbv_3
  refine seq (region (step hF (Y.assign hF rfl) rfl fun a hF=>nT (ret_ (then_r ?_))))
  obtain rfl:=some_inj h
  exact leaveQ Tryz.results72 hF hS (.cons (.tmp rfl) .nil) rfl
 replace h:=cond_f h hbv_3
 refine skip_ (then_n (seq (region (step hF (Y.assign hF rfl) rfl fun a hF=>nT (ret_ ?_)))))
 obtain rfl:=some_inj h
 exact leaveQ Tryz.results72 hF hS (.cons (.tmp rfl) .nil) rfl
def sort_ren_71:Go.Shelf.Ren:=⟨fun | 6=>71 | 14=>82 | 15=>83 | 20=>89 | 21=>90 | 22=>91 | 23=>92 | 24=>93 | 25=>94 | 26=>95 | 27=>96 | 28=>97 | 29=>98 | 46=>101 | 47=>102 | 48=>103 | 49=>104 | 50=>105 | 57=>106 | n=>n,fun | 0=>0 | 3=>3 | 4=>4 | 5=>5 | 9=>9 | 22=>45 | 24=>30 | 25=>124 | 39=>167 | 45=>176 | 46=>177 | 50=>181 | 53=>184 | 55=>186 | 66=>188 | 70=>192 | 76=>194 | 77=>195 | n=>n,fun  | n=>n⟩
theorem sort_lay_71:SlLaysF.n6 Tryz.prog sort_ren_71 where
 mixed:=by kernel_rfl
 f6:=⟨Tryz.f71.name,by decide,Tryz.func71.trans (congrArg some (by kernel_rfl))⟩
 f14:=⟨Tryz.f82.name,by decide,Tryz.func82.trans (congrArg some (by kernel_rfl))⟩
 f15:=Tryz.func83.trans (congrArg some (by kernel_rfl))
 f20:=⟨Tryz.f89.name,by decide,Tryz.func89.trans (congrArg some (by kernel_rfl))⟩
 f21:=⟨Tryz.f90.name,by decide,Tryz.func90.trans (congrArg some (by kernel_rfl))⟩
 f22:=⟨Tryz.f91.name,by decide,Tryz.func91.trans (congrArg some (by kernel_rfl))⟩
 f23:=⟨Tryz.f92.name,by decide,Tryz.func92.trans (congrArg some (by kernel_rfl))⟩
 f24:=⟨Tryz.f93.name,by decide,Tryz.func93.trans (congrArg some (by kernel_rfl))⟩
 f25:=⟨Tryz.f94.name,by decide,Tryz.func94.trans (congrArg some (by kernel_rfl))⟩
 f26:=⟨Tryz.f95.name,by decide,Tryz.func95.trans (congrArg some (by kernel_rfl))⟩
 f27:=⟨Tryz.f96.name,by decide,Tryz.func96.trans (congrArg some (by kernel_rfl))⟩
 f28:=Tryz.func97.trans (congrArg some (by kernel_rfl))
 f29:=Tryz.func98.trans (congrArg some (by kernel_rfl))
 f46:=⟨Tryz.f101.name,by decide,Tryz.func101.trans (congrArg some (by kernel_rfl))⟩
 f47:=Tryz.func102.trans (congrArg some (by kernel_rfl))
 f48:=Tryz.func103.trans (congrArg some (by kernel_rfl))
 f49:=⟨Tryz.f104.name,by decide,Tryz.func104.trans (congrArg some (by kernel_rfl))⟩
 f50:=⟨Tryz.f105.name,by decide,Tryz.func105.trans (congrArg some (by kernel_rfl))⟩
 f57:=⟨Tryz.f106.name,by decide,Tryz.func106.trans (congrArg some (by kernel_rfl))⟩
 t0:=Tryz.underlying0
 a0:=Tryz.isAgg0
 z0:=Tryz.sizeOf0
 v0:=Tryz.zeroValue0
 t3:=Tryz.underlying3
 a3:=Tryz.isAgg3
 z3:=Tryz.sizeOf3
 v3:=Tryz.zeroValue3
 t4:=Tryz.underlying4
 a4:=Tryz.isAgg4
 z4:=Tryz.sizeOf4
 v4:=Tryz.zeroValue4
 t5:=Tryz.underlying5
 a5:=Tryz.isAgg5
 z5:=Tryz.sizeOf5
 v5:=Tryz.zeroValue5
 t9:=Tryz.underlying9
 a9:=Tryz.isAgg9
 z9:=Tryz.sizeOf9
 v9:=Tryz.zeroValue9
 t22:=Tryz.underlying45
 a22:=Tryz.isAgg45
 z22:=Tryz.sizeOf45
 v22:=Tryz.zeroValue45
 a24:=Tryz.isAgg30
 z24:=Tryz.sizeOf30
 t25:=Tryz.underlying124
 a25:=Tryz.isAgg124
 z25:=Tryz.sizeOf124
 v25:=Tryz.zeroValue124
 t39:=Tryz.underlying167
 a39:=Tryz.isAgg167
 z39:=Tryz.sizeOf167
 v39:=Tryz.zeroValue167
 t45:=Tryz.underlying176
 a45:=Tryz.isAgg176
 z45:=Tryz.sizeOf176
 v45:=Tryz.zeroValue176
 t46:=Tryz.underlying177
 a46:=Tryz.isAgg177
 z46:=Tryz.sizeOf177
 v46:=Tryz.zeroValue177
 t50:=Tryz.underlying181
 a50:=Tryz.isAgg181
 z50:=Tryz.sizeOf181
 v50:=Tryz.zeroValue181
 t53:=Tryz.underlying184
 a53:=Tryz.isAgg184
 z53:=Tryz.sizeOf184
 v53:=Tryz.zeroValue184
 t55:=Tryz.underlying186
 a55:=Tryz.isAgg186
 z55:=Tryz.sizeOf186
 v55:=Tryz.zeroValue186
 t66:=Tryz.underlying188
 a66:=Tryz.isAgg188
 z66:=Tryz.sizeOf188
 v66:=Tryz.zeroValue188
 t70:=Tryz.underlying192
 a70:=Tryz.isAgg192
 z70:=Tryz.sizeOf192
 v70:=Tryz.zeroValue192
 t76:=Tryz.underlying194
 a76:=Tryz.isAgg194
 z76:=Tryz.sizeOf194
 v76:=Tryz.zeroValue194
 t77:=Tryz.underlying195
 a77:=Tryz.isAgg195
 z77:=Tryz.sizeOf195
 v77:=Tryz.zeroValue195
theorem cmp_Compare_int__eq (x y:Int):cmp_Compare_int_ x y=some (if x < y then -1 else if x > y then 1 else 0):=by
 have e:∀ a:Int,cmp_isNaN_int_ a=some false:=fun a=>by simp [cmp_isNaN_int_]
 simp only [cmp_Compare_int_,e,Option.bind_some,cond_false]
 by_cases h1:x < y
 ·simp [h1]
 by_cases h2:y < x <;> simp [h1,h2]
theorem slices_Compare___int_int__eq (a b:List Int) (ha:a.length≤lim) (hb:b.length≤lim):slices_Compare___int_int_ a b=some (cmpL a b):=by
 have key:∀ (n i:Nat) (v:Int),i + n=a.length→i≤b.length→loopU (slices_Compare___int_int__b1 a b) (v,(i:Int))=some (cmpL (a.drop i) (b.drop i)):=by
  intro n
  induction n with
  | zero=>
   intro i v hi hib
   refine loopU_ext ?_
   simp only [slices_Compare___int_int__b1]
   rw [show decide ((i:Int) < (a.length:Int))=false by simp;omega,cond_false,List.drop_eq_nil_of_le (by omega:a.length≤i)]
   cases hd:b.drop i with
   | nil=>
    have:b.length≤i:=by simpa using hd
    rw [show decide ((a.length:Int) < (b.length:Int))=false by simp;omega];rfl
   | cons y ys=>
    have:i < b.length:=by
     rcases Nat.lt_or_ge i b.length with h | h
     ·exact h
     rw [List.drop_eq_nil_of_le h] at hd;cases hd
    rw [show decide ((a.length:Int) < (b.length:Int))=true by simp;omega];rfl
  | succ n ih=>
   intro i v hi hib
   have hia:i < a.length:=by omega
   have h1:decide ((i:Int) < (a.length:Int))=true:=by simp;omega
   rw [List.drop_eq_getElem_cons hia]
   rcases Nat.lt_or_ge i b.length with hlt | hge
   ·have h2:decide ((i:Int) ≥ (b.length:Int))=false:=by simp;omega
    rw [List.drop_eq_getElem_cons hlt]
    by_cases h3:a[i] < b[i]
    ·refine loopU_ext ?_
     simp only [slices_Compare___int_int__b1,h1,cond_true,idx_get hia,idx_get hlt,Option.bind_some,h2,cond_false,cmp_Compare_int__eq,cmpL,if_pos h3];rfl
    by_cases h4:a[i] > b[i]
    ·refine loopU_ext ?_
     simp only [slices_Compare___int_int__b1,h1,cond_true,idx_get hia,idx_get hlt,Option.bind_some,h2,cond_false,cmp_Compare_int__eq,cmpL,if_neg h3,if_pos h4];rfl
    rw [loopU_nxt (s':=(v,((i + 1:Nat):Int))) ?_,ih (i + 1) v (by omega) (by omega)]
    ·simp only [cmpL,if_neg h3,if_neg h4]
    simp only [slices_Compare___int_int__b1,h1,cond_true,idx_get hia,idx_get hlt,Option.bind_some,h2,cond_false,cmp_Compare_int__eq,if_neg h3,if_neg h4]
    rw [wr_id' (by omega) (by simp only [lim] at ha;omega)];rfl
   have h2:decide ((i:Int) ≥ (b.length:Int))=true:=by simp;omega
   rw [List.drop_eq_nil_of_le hge]
   refine loopU_ext ?_
   simp only [slices_Compare___int_int__b1,h1,cond_true,idx_get hia,Option.bind_some,h2,cmpL]
 simpa [slices_Compare___int_int_] using key a.length 0 0 (by omega) (Nat.zero_le _)
theorem slices_Compare___int_int__all {w:World} {D:Stab} (hD:D.on w) (a b:List Int) {p:Option Addr} {c:Nat} {p2:Option Addr} {c2:Nat} (h1:SRc C_int D a p c) (h2:SRc C_int D b p2 c2) (h3:a.length≤lim) (h4:b.length≤lim):
  Calls Tryz.prog 72 [.slice p a.length c,.slice p2 b.length c2].toArray w (RetQ w (iv (cmpL a b))):=slices_Compare___int_int__q hD a b h1 h2 _ (slices_Compare___int_int__eq a b h3 h4)
noncomputable def line_opened_1_y1 (atv:Int) (way:(List Int)) (met:(List Bool)) (cv:line_net) (cv_1:LineNet) (self_:Int→(List Int)→(List Bool)→line_net→LineNet→Option (List (line_kind × (List (List Int))))) (xy:(Int × Int)):(List (line_kind × (List (List Int))))→Option (List (line_kind × (List (List Int))))
 | mp=>
  if (0:Int)≤xy.2∧xy.2 < ((7:Nat):Int) then
  cond ((met.set (Int.toNat atv) true).getD (Int.toNat xy.2) false)
  (some mp)
  (if way.length + ([xy.1]).length≤lim then
  (self_ xy.2 (way ++ [xy.1]) (met.set (Int.toNat atv) true) (line_net.mk cv.LineNet mp cv.left) cv_1).bind fun rv_1=>
  some rv_1
  else none)
  else none
noncomputable def line_opened_1_step (self_:Int→(List Int)→(List Bool)→line_net→LineNet→Option (List (line_kind × (List (List Int))))) (atv:Int) (way:(List Int)) (met:(List Bool)) (cv:line_net) (cv_1:LineNet):Option (List (line_kind × (List (List Int)))):=
  cond ((met == (List.replicate 7 false)) && (atv != 0))
  (some cv.ways)
  (if (0:Int)≤atv∧atv < ((7:Nat):Int) then
  if ((mget kl_154 cv.ways (line_kind.mk atv (way.length:Int))).getD []).length + ([way]).length≤lim then
  cond ((way.length:Int) == cv_1.Hops)
  (some (mput kl_154 cv.ways (line_kind.mk atv (way.length:Int)) (((mget kl_154 cv.ways (line_kind.mk atv (way.length:Int))).getD []) ++ [way])))
  ((line_net_leave (line_net.mk cv.LineNet (mput kl_154 cv.ways (line_kind.mk atv (way.length:Int)) (((mget kl_154 cv.ways (line_kind.mk atv (way.length:Int))).getD []) ++ [way])) cv.left) atv).bind fun rv=>
  (line_net_leave_1 (line_opened_1_y1 atv way met cv cv_1 self_) rv.1 rv.2 (mput kl_154 cv.ways (line_kind.mk atv (way.length:Int)) (((mget kl_154 cv.ways (line_kind.mk atv (way.length:Int))).getD []) ++ [way]))).bind fun so=>
  some so)
  else none
  else none)
theorem line_opened_1_step_ok {wb w0:World} {Db D0:Stab} {Sx:List Nat} {hpx:Nat→Option Obj} (self_:Int→(List Int)→(List Bool)→line_net→LineNet→Option (List (line_kind × (List (List Int))))) (hself:∀ {wb w0:World} {Db D0:Stab} {Sx:List Nat} {hpx:Nat→Option Obj} (atv:Int) (way:(List Int)) (met:(List Bool)) (cv:line_net) (cv_1:LineNet) {p:Option Addr} {c:Nat} {p_1:Option Addr} {c_1:Nat} {p_2:Option Addr} {c_2:Nat} {bb_1:Nat} {es:Array MapEntry} {clk:Nat} {ogS:List Nat} {ogh:Nat→Option Obj} {bb:Nat} {p_3:Option Addr} {c_3:Nat} {p_4:Option Addr} {c_4:Nat} {bb_2:Nat} {bb_3:Nat} (hs:SRc C_int D0 way p c) (hn:met.length=7) (hs_1:SRc C_LineLine D0 cv.LineNet.Lines p_1 c_1) (hs_2:SRc C_LineLoop D0 cv.LineNet.Loops p_2 c_2) (hm_1:OMR kl_154 (C_sl C_int) 30 D0 cv.ways es clk ogS ogh) (hs_3:SRc C_LineLine D0 cv_1.Lines p_3 c_3) (hs_4:SRc C_LineLoop D0 cv_1.Loops p_4 c_4) (hbv:D0 bb=some (.cells ([iv cv.LineNet.Exchanges,.slice p_1 cv.LineNet.Lines.length c_1,iv cv.LineNet.Hops,.slice p_2 cv.LineNet.Loops.length c_2,.map (some bb_1),iv cv.left]).toArray 85 (0,0))) (hbv_1:D0 bb_2=some (.cells ([iv cv_1.Exchanges,.slice p_3 cv_1.Lines.length c_3,iv cv_1.Hops,.slice p_4 cv_1.Loops.length c_4]).toArray 25 (0,0))) (hbv_2:D0 bb_3=some (.cells ([.func (.func 69) #[] #[.pointer (some ⟨bb,0,none⟩),.pointer (some ⟨bb_2,0,none⟩),.pointer (some ⟨bb_3,0,none⟩)]]).toArray 150 (0,0))) (hG:Glob D0) (hS0:St wb Db D0 [(1,.obj bb_1 (.map es clk)),(2,.snap ogS ogh),(0,.snap Sx hpx)] w0) (out:(List (line_kind × (List (List Int))))) (h:self_ atv way met cv cv_1=some out),Calls Tryz.prog 69 [iv atv,.slice p way.length c,.agg (arr celB met).toArray,.pointer (some ⟨bb,0,none⟩),.pointer (some ⟨bb_2,0,none⟩),.pointer (some ⟨bb_3,0,none⟩)].toArray w0 (RetM D0 fun D w v=>∃ (es1:Array MapEntry) (ck1:Nat) (S1:List Nat) (hp1:Nat→Option Obj),St wb Db D [(1,.obj bb_1 (.map es1 ck1)),(2,.snap S1 hp1),(0,.snap Sx hpx)] w∧v=.tuple #[]∧OMR kl_154 (C_sl C_int) 30 D out es1 ck1 S1 hp1)) (atv:Int) (way:(List Int)) (met:(List Bool)) (cv:line_net) (cv_1:LineNet) {p:Option Addr} {c:Nat} {p_1:Option Addr} {c_1:Nat} {p_2:Option Addr} {c_2:Nat} {bb_1:Nat} {es:Array MapEntry} {clk:Nat} {ogS:List Nat} {ogh:Nat→Option Obj} {bb:Nat} {p_3:Option Addr} {c_3:Nat} {p_4:Option Addr} {c_4:Nat} {bb_2:Nat} {bb_3:Nat} (hs:SRc C_int D0 way p c) (hn:met.length=7) (hs_1:SRc C_LineLine D0 cv.LineNet.Lines p_1 c_1) (hs_2:SRc C_LineLoop D0 cv.LineNet.Loops p_2 c_2) (hm_1:OMR kl_154 (C_sl C_int) 30 D0 cv.ways es clk ogS ogh) (hs_3:SRc C_LineLine D0 cv_1.Lines p_3 c_3) (hs_4:SRc C_LineLoop D0 cv_1.Loops p_4 c_4) (hbv:D0 bb=some (.cells ([iv cv.LineNet.Exchanges,.slice p_1 cv.LineNet.Lines.length c_1,iv cv.LineNet.Hops,.slice p_2 cv.LineNet.Loops.length c_2,.map (some bb_1),iv cv.left]).toArray 85 (0,0))) (hbv_1:D0 bb_2=some (.cells ([iv cv_1.Exchanges,.slice p_3 cv_1.Lines.length c_3,iv cv_1.Hops,.slice p_4 cv_1.Loops.length c_4]).toArray 25 (0,0))) (hbv_2:D0 bb_3=some (.cells ([.func (.func 69) #[] #[.pointer (some ⟨bb,0,none⟩),.pointer (some ⟨bb_2,0,none⟩),.pointer (some ⟨bb_3,0,none⟩)]]).toArray 150 (0,0))) (hG:Glob D0) (hS0:St wb Db D0 [(1,.obj bb_1 (.map es clk)),(2,.snap ogS ogh),(0,.snap Sx hpx)] w0) (out:(List (line_kind × (List (List Int))))) (h:line_opened_1_step self_ atv way met cv cv_1=some out):Calls Tryz.prog 69 [iv atv,.slice p way.length c,.agg (arr celB met).toArray,.pointer (some ⟨bb,0,none⟩),.pointer (some ⟨bb_2,0,none⟩),.pointer (some ⟨bb_3,0,none⟩)].toArray w0 (RetM D0 fun D w v=>∃ (es1:Array MapEntry) (ck1:Nat) (S1:List Nat) (hp1:Nat→Option Obj),St wb Db D [(1,.obj bb_1 (.map es1 ck1)),(2,.snap S1 hp1),(0,.snap Sx hpx)] w∧v=.tuple #[]∧OMR kl_154 (C_sl C_int) 30 D out es1 ck1 S1 hp1):=by
 refine enter _ 60 Tryz.func69 rfl Tryz.ntmps69 rfl fun a hF=>?_
 replace hF:Frm 60 [] [(0,iv atv),(1,.slice p way.length c),(2,.agg (arr celB met).toArray),(3,.pointer (some ⟨bb,0,none⟩)),(4,.pointer (some ⟨bb_2,0,none⟩)),(5,.pointer (some ⟨bb_3,0,none⟩))] a:=hF
 have hS:=hS0
 replace hS:=hS.noMarks 6
 unfold line_opened_1_step at h
 refine seq (region (O.box (cs:=[.slice p way.length c]) 7 hF rfl rfl hS rfl fun b a w hF hS=>O.box (cs:=(arr celB met)) 8 hF rfl rfl hS rfl fun b_1 a w hF hS=>nT (scope_ (seq (seq (region (step hF (Y.loadA (F:=celB) 8 sz_152 hn hF rfl hS rfl) rfl fun a hF=>step hF (Y.build (parts:=[]) (cs:=(arr celB (List.replicate 7 false)).toArray) hF rfl (by kernel_rfl)) rfl fun a hF=>step hF (Y.eqst (fun w=>run_equal_arr (F:=celB) u_152 sz_4 (fun D x y w=>eqB u_4 D x y w) hn List.length_replicate) (fun w=>run_eqGuard_agg _ _ _ _ _ _ _ eg_152) hF rfl rfl) rfl fun a hF=>step hF (Y.move hF rfl) rfl fun a hF=>join (N:=60) (rs:=[]) (w0:=wb) (D0:=Db) 3 (us:=[(0,iv atv),(3,.pointer (some ⟨bb,0,none⟩)),(4,.pointer (some ⟨bb_2,0,none⟩)),(5,.pointer (some ⟨bb_3,0,none⟩)),(7,.pointer (some ⟨b,0,none⟩)),(8,.pointer (some ⟨b_1,0,none⟩)),(18,.bool ((met == (List.replicate 7 false)) && (atv != 0)))]) (ms:=[(1,.obj bb_1 (.map es clk)),(2,.snap ogS ogh),(7,.cells b [.slice p way.length c] 30),(8,.cells b_1 (arr celB met) 152),(0,.snap Sx hpx),(6,.marks [])]) (D':=D0) ?_ ?_)))))))
 ·rcases bcases (met == (List.replicate 7 false)) with hbv_3 | hbv_3
  ·skip
   refine guard_on hF rfl rfl hbv_3 (step hF (Y.move hF rfl) rfl fun a hF=>guard_on hF rfl rfl hbv_3 (step hF (Y.neq hF rfl rfl) rfl fun a hF=>step hF (Y.pick_t hF rfl hbv_3 rfl) rfl fun a hF=>nT ⟨hF.weak ⟨rfl,rfl,rfl,rfl,rfl,rfl,(by rw [hbv_3];rfl),trivial⟩,hS.weak (AL rfl)⟩))
  refine guard_off hF rfl rfl hbv_3 rfl fun a hF=>guard_off hF rfl rfl hbv_3 rfl fun a hF=>step hF (Y.pick_f hF rfl hbv_3 rfl) rfl fun a hF=>nT ⟨hF.weak ⟨rfl,rfl,rfl,rfl,rfl,rfl,(by rw [hbv_3];rfl),trivial⟩,hS.weak (AL rfl)⟩
 intro a w hF hS
 refine nT (cond_b hF rfl (fun hbv_4=>?_) (fun hbv_4=>?_))
 ·replace h:=cond_t h hbv_4
  refine ret_ (then_r (scp_r ?_))
  obtain rfl:=some_inj h
  exact leaveM (ms:=[(1,.obj bb_1 (.map es clk)),(2,.snap ogS ogh),(0,.snap Sx hpx)]) Tryz.results69 hF hS .nil (.inr ⟨6,rfl,rfl⟩) ⟨rfl,rfl,rfl,trivial⟩ (Stab.le.refl _) fun w hS=>⟨_,_,_,_,hS,rfl,hm_1⟩
 replace h:=cond_f h hbv_4
 refine skip_ (then_n (seq (region (step hF (Y.move hF rfl) rfl fun a hF=>?_))))
 obtain ⟨hg,h⟩:=ite_some h
 refine step hF (Y.indexArr u_152 sz_4 hF rfl rfl hg.1 hg.2) rfl fun a hF=>O.storeA (F:=celB) (u:=true) 8 sz_4 hn hg hF rfl rfl hS rfl fun a w hF hS=>nT (seq (region (step hF (Y.move hF rfl) rfl fun a hF=>step hF (Y.load1L 7 sz_30 hF rfl hS rfl rfl) rfl fun a hF=>step hF (Y.lenSl u_30 hF rfl) rfl fun a hF=>step hF (Y.build (parts:=[(0,(.tmp 21)),(1,(.tmp 23))]) (cs:=#[iv atv,iv (way.length:Int)]) hF rfl (by kernel_rfl)) rfl fun a hF=>O.alloc 9 zc_154 hF hS rfl fun b_2 a w hF hS=>O.store (us:=[iv atv,iv (way.length:Int)]) 9 sz_154 hF rfl rfl rfl rfl hS rfl rfl fun a w hF hS=>nT (seq (region (step hF (Y.fieldAddr fo_85_1 hF rfl) rfl fun a hF=>step hF (Y.load1H sz_83 hF rfl (hS.stab _ _ hbv) rfl) rfl fun a hF=>step hF (Y.loadNL 9 sz_154 hF rfl hS rfl rfl rfl) rfl fun a hF=>step hF (Y.load1L 7 sz_30 hF rfl hS rfl rfl) rfl fun a hF=>?_))))))
 have hr:Reps (C_sl C_int) D0 [way] [.slice p way.length c]:=Reps.cons (C:=(C_sl C_int)) (x:=way) (c:=[.slice p way.length c]) (r:=[]) (⟨_,_,rfl,hs⟩) (Reps.nil)
 refine O.buildSlice (E:=30) (C:=(C_sl C_int)) (xs:=[way]) (cs:=[.slice p way.length c]) (us:=[.slice p way.length c]) (parts:=[(0,(.tmp 29))]) 10 hF hS rfl (by kernel_rfl) hr rfl rfl rfl fun p_5 c_5 a w hF hS=>O.mapEntryOM (kl:=kl_154) (C:=(C_sl C_int)) (E:=30) (x:=(.tmp 26)) (y:=(.tmp 27)) 1 2 11 (by decide) (by decide) (by decide) mt_83 (fun _=>rfl) (line_kind.mk atv (way.length:Int)) hm_1 hF rfl rfl hS rfl rfl rfl fun es_1 clk_1 stp p_6 c_6 cs ogS_1 hds a w hF hS hr_1 hK hO=>step hF (Y.extract hF rfl rfl) rfl fun a hF=>?_
 obtain ⟨hg_1,h⟩:=ite_some h
 refine O.append (C:=(C_sl C_int)) (xs:=((mget kl_154 cv.ways (line_kind.mk atv (way.length:Int))).getD [])) (ys:=[way]) 11 gr_45 hF rfl rfl hS rfl (src_own (i:=10) hS rfl) hr_1 hr hg_1 rfl fun p_7 c_7 a w hF hS hr_2=>step hF (Y.extract hF rfl rfl) rfl fun a hF=>?_
 have hne:(((mget kl_154 cv.ways (line_kind.mk atv (way.length:Int))).getD []) ++ [way]) ≠ []:=by simp
 refine O.entryStoreOM (kl:=kl_154) (x:=(.tmp 26)) (y:=(.tmp 33)) (u:=(.tmp 32)) 1 2 11 (by decide) (by decide) (by decide) hK hO hr_2 hne hF rfl rfl rfl hS rfl rfl rfl fun es_2 ogS_2 ogh_1 a w hF hS hm_2=>nT (seq (seq (region (step hF (Y.load1L 7 sz_30 hF rfl hS rfl rfl) rfl fun a hF=>step hF (Y.lenSl u_30 hF rfl) rfl fun a hF=>step hF (Y.fieldAddr fo_25_2 hF rfl) rfl fun a hF=>step hF (Y.load1H sz_3 hF rfl (hS.stab _ _ hbv_1) rfl) rfl fun a hF=>step hF (Y.eql hF rfl rfl) rfl fun a hF=>nT (cond_b hF rfl (fun hbv_5=>?_) (fun hbv_5=>?_))))))
 ·replace h:=cond_t h hbv_5
  refine ret_ (then_r (scp_r ?_))
  obtain rfl:=some_inj h
  exact leaveM (ms:=[(1,.obj bb_1 (.map es_2 clk_1)),(2,.snap ogS_2 ogh_1),(0,.snap Sx hpx)]) Tryz.results69 hF hS .nil (.inr ⟨6,rfl,rfl⟩) ⟨rfl,rfl,rfl,trivial⟩ (Stab.le.refl _) fun w hS=>⟨_,_,_,_,hS,rfl,hm_2⟩
 replace h:=cond_f h hbv_5
 refine skip_ (then_n (seq (label_ (then_n (seq (region (step hF (Y.loadNH sz_85 hF rfl (hS.stab _ _ hbv) rfl rfl) rfl fun a hF=>step hF (Y.move hF rfl) rfl fun a hF=>?_)))))))
 obtain ⟨rv,hx,h⟩:=bind_some h
 refine O.callS (us:=[.agg #[iv cv.LineNet.Exchanges,.slice p_1 cv.LineNet.Lines.length c_1,iv cv.LineNet.Hops,.slice p_2 cv.LineNet.Loops.length c_2,.map (some bb_1),iv cv.left],iv atv]) ca_70 hF hS (line_net_leave_ok hS.stab (line_net.mk cv.LineNet (mput kl_154 cv.ways (line_kind.mk atv (way.length:Int)) (((mget kl_154 cv.ways (line_kind.mk atv (way.length:Int))).getD []) ++ [way])) cv.left) atv hs_1 hs_2 rv hx) rfl rfl fun v Dv a w hR hlev hF hS=>?_
 replace hbv:=hlev _ _ hbv
 replace hbv_1:=hlev _ _ hbv_1
 replace hbv_2:=hlev _ _ hbv_2
 replace hs:=hs.mono hlev
 replace hs_1:=hs_1.mono hlev
 replace hs_2:=hs_2.mono hlev
 replace hs_3:=hs_3.mono hlev
 replace hs_4:=hs_4.mono hlev
 replace hG:=hG.mono hlev
 replace hm_2:=hm_2.mono hlev
 obtain ⟨bb_4,bb_5,p_8,c_8,p_9,c_9,bm_1,rfl,hbv_6,hbv_7,hs_5,hs_6⟩:=hR
 refine nT (block ?_)
 replace hF:=hF.weak (us:=[(5,.pointer (some ⟨bb_3,0,none⟩)),(7,.pointer (some ⟨b,0,none⟩)),(8,.pointer (some ⟨b_1,0,none⟩)),(41,.func (.func 81) #[] #[.pointer (some ⟨bb_4,0,none⟩),.pointer (some ⟨bb_5,0,none⟩)])]) (AF rfl)
 obtain ⟨so,hx_2,h⟩:=bind_some h
 have hsz:=hF.size
 have hgt:=hF.get
 refine range_cut (first:=[]) (cap:=[.pointer (some ⟨bb_4,0,none⟩),.pointer (some ⟨bb_5,0,none⟩)]) (K:=fun m lp R w=>∃ D ms,Dv.le D∧(fun (mp:(List (line_kind × (List (List Int))))) D ms=>∃ es_3 clk_2 ogS_3 ogh_2,ms=[(14,.obj lp R),(1,.obj bb_1 (.map es_3 clk_2)),(2,.snap ogS_3 ogh_2),(7,.cells b [.slice p way.length c] 30),(8,.cells b_1 (arr celB (met.set (Int.toNat atv) true)) 152),(9,.cells b_2 [iv atv,iv (way.length:Int)] 154),(10,.own p_5 ([way]).length c_5 ([.slice p way.length c]) 30 1),(0,.snap Sx hpx),(6,.marks (m::[]))]∧OMR kl_154 (C_sl C_int) 30 D mp es_3 clk_2 ogS_3 ogh_2) so D ms∧St wb Db D ms w) 6 14 (by decide) ca_81 hF hS rfl rfl (fun fn m lp R hR w hS=>?_) (fun m lp R w hK=>?_)
 ·refine line_net_leave_1_it (Inv:=fun (mp:(List (line_kind × (List (List Int))))) D ms=>∃ es_3 clk_2 ogS_3 ogh_2,ms=[(14,.obj lp R),(1,.obj bb_1 (.map es_3 clk_2)),(2,.snap ogS_3 ogh_2),(7,.cells b [.slice p way.length c] 30),(8,.cells b_1 (arr celB (met.set (Int.toNat atv) true)) 152),(9,.cells b_2 [iv atv,iv (way.length:Int)] 154),(10,.own p_5 ([way]).length c_5 ([.slice p way.length c]) 30 1),(0,.snap Sx hpx),(6,.marks (m::[]))]∧OMR kl_154 (C_sl C_int) 30 D mp es_3 clk_2 ogS_3 ogh_2) (yield_:=line_opened_1_y1 atv way met cv cv_1 self_) ?_ ?_ lp rv.1 rv.2 hs_5 hs_6 hbv_6 hbv_7 hG (mput kl_154 cv.ways (line_kind.mk atv (way.length:Int)) (((mget kl_154 cv.ways (line_kind.mk atv (way.length:Int))).getD []) ++ [way])) so ?_ hx_2 (ms:=[(14,.obj lp R),(1,.obj bb_1 (.map es_2 clk_1)),(2,.snap ogS_2 ogh_1),(7,.cells b [.slice p way.length c] 30),(8,.cells b_1 (arr celB (met.set (Int.toNat atv) true)) 152),(9,.cells b_2 [iv atv,iv (way.length:Int)] 154),(10,.own p_5 ([way]).length c_5 ([.slice p way.length c]) 30 1),(0,.snap Sx hpx),(6,.marks (m::[]))]) ⟨es_2,clk_1,ogS_2,ogh_1,rfl,hm_2⟩ (hS.weak (AL rfl))
  ·rintro s D ms ⟨_,_,_,_,rfl,z0⟩;exact small_lt rfl
  ·rintro s D ms D2 ⟨_,_,_,_,rfl,z0⟩ hle;exact ⟨_,_,_,_,rfl,z0.mono hle⟩
  rintro xy mp s2 Dv_1 ms w h hlev_1 ⟨es_3,clk_2,ogS_3,ogh_2,rfl,hm_3⟩ hS
  unfold line_opened_1_y1 at h
  dsimp only at h
  refine round_cut2 14 hsz hgt rfl rfl hS rfl hR fun R2 a hF=>?_
  replace hbv:=hlev_1 _ _ hbv
  replace hbv_1:=hlev_1 _ _ hbv_1
  replace hbv_2:=hlev_1 _ _ hbv_2
  replace hs:=hs.mono hlev_1
  replace hs_1:=hs_1.mono hlev_1
  replace hs_2:=hs_2.mono hlev_1
  replace hs_3:=hs_3.mono hlev_1
  replace hs_4:=hs_4.mono hlev_1
  replace hG:=hG.mono hlev_1
  replace hbv_6:=hlev_1 _ _ hbv_6
  replace hbv_7:=hlev_1 _ _ hbv_7
  refine seq (region (step hF (Y.assign hF rfl) rfl fun a hF=>nT (region (step hF (Y.assign hF rfl) rfl fun a hF=>nT (⟨_,_,hS,rfl,fun w hS=>?_⟩)))))
  refine block (seq (seq (region (step hF (Y.move hF rfl) rfl fun a hF=>?_))))
  obtain ⟨hg_2,h⟩:=ite_some h
  refine step hF (Y.indexArr u_152 sz_4 hF rfl rfl hg_2.1 hg_2.2) rfl fun a hF=>step hF ((show Yields _ _ _ _ (.bool ((met.set (Int.toNat atv) true).getD (Int.toNat xy.2) false)) from Y.load1A (F:=celB) 8 false sz_4 ((List.length_set).trans hn) hg_2 hF rfl hS rfl)) rfl fun a hF=>nT (cond_b hF rfl (fun hbv_8=>?_) (fun hbv_8=>?_))
  ·replace h:=cond_t h hbv_8
   refine exit_ (then_x (blk_hit (then_n ?_)))
   obtain rfl:=some_inj h
   refine ⟨_,_,hS,rfl,fun w hS=>⟨Dv_1,_,Stab.le.refl _,⟨es_3,clk_2,ogS_3,ogh_2,rfl,hm_3⟩,hS.weak (AL rfl)⟩⟩
  replace h:=cond_f h hbv_8
  refine skip_ (then_n ?_)
  obtain ⟨hg_3,h⟩:=ite_some h
  refine drawsV 12 (.flt 0 (.flt 1 (.flt 2 (.flt 3 (.flt 4 (.flt 5 (.flt 6 (.flt 7 (.flt 8 (.flt 11 (.alt 9 (.alt 10 .done .stop) .stop))))))))))) mixed_ (by kernel_rfl) (fun w=>St wb Db Dv_1 [(1,.obj bb_1 (.map es_3 clk_2)),(2,.snap ogS_3 ogh_2),(7,.cells b [.slice p way.length c] 30),(8,.cells b_1 (arr celB (met.set (Int.toNat atv) true)) 152),(9,.cells b_2 [iv atv,iv (way.length:Int)] 154),(10,.own p_5 ([way]).length c_5 ([.slice p way.length c]) 30 1),(0,.snap Sx hpx),(14,.obj lp R2),(6,.marks (m::[]))] w) (fun a w=>∃ (p_11:Option Addr) (c_11:Nat) (p_10:Option Addr) (c_10:Nat) (cs_1:List Value),Frm 60 [] [(47,.func (.func 69) #[] #[.pointer (some ⟨bb,0,none⟩),.pointer (some ⟨bb_2,0,none⟩),.pointer (some ⟨bb_3,0,none⟩)]),(48,iv xy.2),(57,.slice p_11 (way ++ [xy.1]).length c_11),(58,.agg (arr celB (met.set (Int.toNat atv) true)).toArray)] a∧St wb Db Dv_1 [(1,.obj bb_1 (.map es_3 clk_2)),(2,.snap ogS_3 ogh_2),(7,.cells b [.slice p way.length c] 30),(8,.cells b_1 (arr celB (met.set (Int.toNat atv) true)) 152),(9,.cells b_2 [iv atv,iv (way.length:Int)] 154),(10,.own p_5 ([way]).length c_5 ([.slice p way.length c]) 30 1),(15,.own p_10 ([xy.1]).length c_10 ([iv xy.1]) 3 1),(16,.own p_11 (way ++ [xy.1]).length c_11 cs_1 3 1),(0,.snap Sx hpx),(14,.obj lp R2),(6,.marks (m::[]))] w∧(met.set (Int.toNat atv) true).length=7∧Reps C_int Dv_1 ([xy.1]) ([iv xy.1])∧Reps C_int Dv_1 (way ++ [xy.1]) cs_1) (hS.weak (ms:=[(1,.obj bb_1 (.map es_3 clk_2)),(2,.snap ogS_3 ogh_2),(7,.cells b [.slice p way.length c] 30),(8,.cells b_1 (arr celB (met.set (Int.toNat atv) true)) 152),(9,.cells b_2 [iv atv,iv (way.length:Int)] 154),(10,.own p_5 ([way]).length c_5 ([.slice p way.length c]) 30 1),(0,.snap Sx hpx),(14,.obj lp R2),(6,.marks (m::[]))]) (AL rfl)).drew (fun _ _ _ _ h=>h) ?_ ?_
  ·replace hS:=hS.drew
   have hle0:=hS.le
   refine stepV (i:=0) rfl hF (fun w hS=>Y.load1H sz_150 hF rfl (hS.stab _ _ hbv_2) rfl) rfl fun a hF=>stepV (i:=1) rfl hF (fun w hS=>Y.move hF rfl) rfl fun a hF=>stepV (i:=2) rfl hF (fun w hS=>Y.load1L 7 sz_30 hF rfl hS rfl rfl) rfl fun a hF=>stepV (i:=3) rfl hF (fun w hS=>Y.load1L 7 sz_30 hF rfl hS rfl rfl) rfl fun a hF=>stepV (i:=4) rfl hF (fun w hS=>Y.lenSl u_30 hF rfl) rfl fun a hF=>stepV (i:=5) rfl hF (fun w hS=>Y.load1L 7 sz_30 hF rfl hS rfl rfl) rfl fun a hF=>stepV (i:=6) rfl hF (fun w hS=>Y.lenSl u_30 hF rfl) rfl fun a hF=>stepV (i:=7) rfl hF (fun w hS=>Y.slice3 u_30 sz_3 hF rfl rfl rfl hs.2) rfl fun a hF=>stepV (i:=8) rfl hF (fun w hS=>Y.move hF rfl) rfl fun a hF=>stepV (i:=11) rfl hF (fun w hS=>Y.loadA (F:=celB) 8 sz_152 ((List.length_set).trans hn) hF rfl hS rfl) rfl fun a hF=>oneV (i:=9) rfl ?_ trivial
   have hr_5:Reps C_int Dv_1 [xy.1] [iv xy.1]:=Reps.cons (C:=C_int) (x:=xy.1) (c:=[iv xy.1]) (r:=[]) rfl (Reps.nil)
   refine O.buildSlice (E:=3) (C:=C_int) (xs:=[xy.1]) (cs:=[iv xy.1]) (us:=[iv xy.1]) (parts:=[(0,(.tmp 55))]) 15 hF hS rfl (by kernel_rfl) hr_5 rfl rfl rfl fun p_12 c_12 a w hF hS=>nT ⟨hS.weak (AL rfl),?_⟩
   refine oneV (i:=10) rfl ?_ trivial
   refine O.appendS (C:=C_int) (xs:=way) (ys:=[xy.1]) 16 gr_30 hF rfl rfl hS ((⟨hs.1,Nat.le_refl _⟩:SRc _ _ _ _ _)).1 (src_own (i:=15) hS rfl) hr_5 (Nat.succ_pos _) hg_3 rfl fun p_13 c_13 cs_2 a w hF hS hr_6=>nT ⟨hS.weak (AL rfl),?_⟩
   exact toTailV ⟨p_13,c_13,p_12,c_12,cs_2,hF.weak (AF rfl),hS.weak (AL rfl),((List.length_set).trans hn),hr_5,hr_6⟩
  rintro a w ⟨p_11,c_11,p_10,c_10,cs_1,hF,hS,hj,hj_1,hj_2⟩
  obtain ⟨Dv_2,hlev_2,hs_7,hS⟩:=hS.freezeC (C:=C_int) (i:=16) (xs:=(way ++ [xy.1])) rfl hj_2
  replace hbv:=hlev_2 _ _ hbv
  replace hbv_1:=hlev_2 _ _ hbv_1
  replace hbv_2:=hlev_2 _ _ hbv_2
  replace hs_1:=hs_1.mono hlev_2
  replace hs_2:=hs_2.mono hlev_2
  replace hs_3:=hs_3.mono hlev_2
  replace hs_4:=hs_4.mono hlev_2
  replace hG:=hG.mono hlev_2
  replace hbv_6:=hlev_2 _ _ hbv_6
  replace hbv_7:=hlev_2 _ _ hbv_7
  replace hm_3:=hm_3.mono hlev_2
  obtain ⟨rv_1,hx_1,h⟩:=bind_some h
  refine O.callVM (f:=69) (first:=[]) (cap:=[.pointer (some ⟨bb,0,none⟩),.pointer (some ⟨bb_2,0,none⟩),.pointer (some ⟨bb_3,0,none⟩)]) (us:=[iv xy.2,.slice p_11 (way ++ [xy.1]).length c_11,.agg (arr celB (met.set (Int.toNat atv) true)).toArray]) ca_69 hF rfl rfl (hself xy.2 (way ++ [xy.1]) (met.set (Int.toNat atv) true) (line_net.mk cv.LineNet mp cv.left) cv_1 hs_7 hj hs_1 hs_2 hm_3 hs_3 hs_4 hbv hbv_1 hbv_2 hG (hS.lend2 (i:=1) (j:=2) rfl rfl (by decide)) rv_1 hx_1) rfl fun v_1 Dv_3 a w hR_1 hlev_3 hF=>?_
  replace hbv:=hlev_3 _ _ hbv
  replace hbv_1:=hlev_3 _ _ hbv_1
  replace hbv_2:=hlev_3 _ _ hbv_2
  replace hbv_6:=hlev_3 _ _ hbv_6
  replace hbv_7:=hlev_3 _ _ hbv_7
  obtain ⟨es_4,clk_3,ogS_4,ogh_3,hS2_0,rfl,hm_4⟩:=hR_1
  replace hS:=hS.back2 (i:=1) (j:=2) rfl rfl (by decide) hS2_0
  refine nil (blk_n (then_n ?_))
  obtain rfl:=some_inj h
  refine ⟨_,_,hS,rfl,fun w hS=>⟨Dv_3,_,hlev_2.trans hlev_3,⟨es_4,clk_3,ogS_4,ogh_3,rfl,hm_4⟩,hS.weak (AL rfl)⟩⟩
 obtain ⟨Dv_1,ms,hlev_4,⟨es_3,clk_2,ogS_3,ogh_2,rfl,hm_3⟩,hS⟩:=hK
 refine ⟨Dv_1,_,hS,rfl,fun a w hF hS=>?_⟩
 replace hbv:=hlev_4 _ _ hbv
 replace hbv_1:=hlev_4 _ _ hbv_1
 replace hbv_2:=hlev_4 _ _ hbv_2
 replace hbv_6:=hlev_4 _ _ hbv_6
 replace hbv_7:=hlev_4 _ _ hbv_7
 refine blk_n (scp_n ?_)
 obtain rfl:=some_inj h
 exact leaveM (ms:=[(1,.obj bb_1 (.map es_3 clk_2)),(2,.snap ogS_3 ogh_2),(0,.snap Sx hpx)]) Tryz.results69 hF hS .nil (.inr ⟨6,rfl,rfl⟩) ⟨rfl,rfl,rfl,trivial⟩ (hlev.trans hlev_4) fun w hS=>⟨_,_,_,_,hS,rfl,hm_3⟩
noncomputable def line_opened_1_n:Nat→Int→(List Int)→(List Bool)→line_net→LineNet→Option (List (line_kind × (List (List Int))))
 | 0=>fun _ _ _ _ _=>none
 | n + 1=>line_opened_1_step (line_opened_1_n n)
theorem line_opened_1_n_ok:∀ n,∀ {wb w0:World} {Db D0:Stab} {Sx:List Nat} {hpx:Nat→Option Obj} (atv:Int) (way:(List Int)) (met:(List Bool)) (cv:line_net) (cv_1:LineNet) {p:Option Addr} {c:Nat} {p_1:Option Addr} {c_1:Nat} {p_2:Option Addr} {c_2:Nat} {bb_1:Nat} {es:Array MapEntry} {clk:Nat} {ogS:List Nat} {ogh:Nat→Option Obj} {bb:Nat} {p_3:Option Addr} {c_3:Nat} {p_4:Option Addr} {c_4:Nat} {bb_2:Nat} {bb_3:Nat} (hs:SRc C_int D0 way p c) (hn:met.length=7) (hs_1:SRc C_LineLine D0 cv.LineNet.Lines p_1 c_1) (hs_2:SRc C_LineLoop D0 cv.LineNet.Loops p_2 c_2) (hm_1:OMR kl_154 (C_sl C_int) 30 D0 cv.ways es clk ogS ogh) (hs_3:SRc C_LineLine D0 cv_1.Lines p_3 c_3) (hs_4:SRc C_LineLoop D0 cv_1.Loops p_4 c_4) (hbv:D0 bb=some (.cells ([iv cv.LineNet.Exchanges,.slice p_1 cv.LineNet.Lines.length c_1,iv cv.LineNet.Hops,.slice p_2 cv.LineNet.Loops.length c_2,.map (some bb_1),iv cv.left]).toArray 85 (0,0))) (hbv_1:D0 bb_2=some (.cells ([iv cv_1.Exchanges,.slice p_3 cv_1.Lines.length c_3,iv cv_1.Hops,.slice p_4 cv_1.Loops.length c_4]).toArray 25 (0,0))) (hbv_2:D0 bb_3=some (.cells ([.func (.func 69) #[] #[.pointer (some ⟨bb,0,none⟩),.pointer (some ⟨bb_2,0,none⟩),.pointer (some ⟨bb_3,0,none⟩)]]).toArray 150 (0,0))) (hG:Glob D0) (hS0:St wb Db D0 [(1,.obj bb_1 (.map es clk)),(2,.snap ogS ogh),(0,.snap Sx hpx)] w0) (out:(List (line_kind × (List (List Int))))) (h:line_opened_1_n n atv way met cv cv_1=some out),Calls Tryz.prog 69 [iv atv,.slice p way.length c,.agg (arr celB met).toArray,.pointer (some ⟨bb,0,none⟩),.pointer (some ⟨bb_2,0,none⟩),.pointer (some ⟨bb_3,0,none⟩)].toArray w0 (RetM D0 fun D w v=>∃ (es1:Array MapEntry) (ck1:Nat) (S1:List Nat) (hp1:Nat→Option Obj),St wb Db D [(1,.obj bb_1 (.map es1 ck1)),(2,.snap S1 hp1),(0,.snap Sx hpx)] w∧v=.tuple #[]∧OMR kl_154 (C_sl C_int) 30 D out es1 ck1 S1 hp1)
 | 0=>by intros;rename_i h;simp only [line_opened_1_n] at h;cases h
 | n + 1=>line_opened_1_step_ok (line_opened_1_n n) (line_opened_1_n_ok n)
noncomputable def line_opened_1 (atv:Int) (way:(List Int)) (met:(List Bool)) (cv:line_net) (cv_1:LineNet):Option (List (line_kind × (List (List Int)))):=limU fun n=>line_opened_1_n n atv way met cv cv_1
theorem line_opened_1_ok {wb w0:World} {Db D0:Stab} {Sx:List Nat} {hpx:Nat→Option Obj} (atv:Int) (way:(List Int)) (met:(List Bool)) (cv:line_net) (cv_1:LineNet) {p:Option Addr} {c:Nat} {p_1:Option Addr} {c_1:Nat} {p_2:Option Addr} {c_2:Nat} {bb_1:Nat} {es:Array MapEntry} {clk:Nat} {ogS:List Nat} {ogh:Nat→Option Obj} {bb:Nat} {p_3:Option Addr} {c_3:Nat} {p_4:Option Addr} {c_4:Nat} {bb_2:Nat} {bb_3:Nat} (hs:SRc C_int D0 way p c) (hn:met.length=7) (hs_1:SRc C_LineLine D0 cv.LineNet.Lines p_1 c_1) (hs_2:SRc C_LineLoop D0 cv.LineNet.Loops p_2 c_2) (hm_1:OMR kl_154 (C_sl C_int) 30 D0 cv.ways es clk ogS ogh) (hs_3:SRc C_LineLine D0 cv_1.Lines p_3 c_3) (hs_4:SRc C_LineLoop D0 cv_1.Loops p_4 c_4) (hbv:D0 bb=some (.cells ([iv cv.LineNet.Exchanges,.slice p_1 cv.LineNet.Lines.length c_1,iv cv.LineNet.Hops,.slice p_2 cv.LineNet.Loops.length c_2,.map (some bb_1),iv cv.left]).toArray 85 (0,0))) (hbv_1:D0 bb_2=some (.cells ([iv cv_1.Exchanges,.slice p_3 cv_1.Lines.length c_3,iv cv_1.Hops,.slice p_4 cv_1.Loops.length c_4]).toArray 25 (0,0))) (hbv_2:D0 bb_3=some (.cells ([.func (.func 69) #[] #[.pointer (some ⟨bb,0,none⟩),.pointer (some ⟨bb_2,0,none⟩),.pointer (some ⟨bb_3,0,none⟩)]]).toArray 150 (0,0))) (hG:Glob D0) (hS0:St wb Db D0 [(1,.obj bb_1 (.map es clk)),(2,.snap ogS ogh),(0,.snap Sx hpx)] w0) (out:(List (line_kind × (List (List Int))))) (h:line_opened_1 atv way met cv cv_1=some out):Calls Tryz.prog 69 [iv atv,.slice p way.length c,.agg (arr celB met).toArray,.pointer (some ⟨bb,0,none⟩),.pointer (some ⟨bb_2,0,none⟩),.pointer (some ⟨bb_3,0,none⟩)].toArray w0 (RetM D0 fun D w v=>∃ (es1:Array MapEntry) (ck1:Nat) (S1:List Nat) (hp1:Nat→Option Obj),St wb Db D [(1,.obj bb_1 (.map es1 ck1)),(2,.snap S1 hp1),(0,.snap Sx hpx)] w∧v=.tuple #[]∧OMR kl_154 (C_sl C_int) 30 D out es1 ck1 S1 hp1):=by
 obtain ⟨n,hfu_⟩:=limU_some h
 exact line_opened_1_n_ok n atv way met cv cv_1 hs hn hs_1 hs_2 hm_1 hs_3 hs_4 hbv hbv_1 hbv_2 hG hS0 out hfu_
noncomputable def line_opened (xv:LineNet) (left:Int):Option line_net:=
  (line_opened_1 0 ([]:List Int) (List.replicate 7 false) (line_net.mk xv ([]:(List (line_kind × (List (List Int))))) left) xv).bind fun rv=>
  some (line_net.mk xv rv left)
theorem line_opened_ok {w0:World} {D0:Stab} (hD:D0.on w0) (xv:LineNet) (left:Int) {p:Option Addr} {c:Nat} {p_1:Option Addr} {c_1:Nat} (hs:SRc C_LineLine D0 xv.Lines p c) (hs_1:SRc C_LineLoop D0 xv.Loops p_1 c_1) (hG:Glob D0) (out:line_net) (h:line_opened xv left=some out):Calls Tryz.prog 50 [.agg #[iv xv.Exchanges,.slice p xv.Lines.length c,iv xv.Hops,.slice p_1 xv.Loops.length c_1],iv left].toArray w0 (RetS D0 w0 fun D v=>∃ p_2 c_2 p_3 c_3 bm,v=.agg #[iv out.LineNet.Exchanges,.slice p_2 out.LineNet.Lines.length c_2,iv out.LineNet.Hops,.slice p_3 out.LineNet.Loops.length c_3,.map bm,iv out.left]∧SRc C_LineLine D out.LineNet.Lines p_2 c_2∧SRc C_LineLoop D out.LineNet.Loops p_3 c_3∧MapB kl_154 (C_sl (C_sl C_int)) false D out.ways bm):=by
 refine enter _ 16 Tryz.func50 rfl Tryz.ntmps50 rfl fun a hF=>?_
 replace hF:Frm 16 [] [(0,.agg #[iv xv.Exchanges,.slice p xv.Lines.length c,iv xv.Hops,.slice p_1 xv.Loops.length c_1]),(1,iv left)] a:=hF
 have hS:=St.start hD
 unfold line_opened at h
 refine seq (region (O.box (cs:=[iv xv.Exchanges,.slice p xv.Lines.length c,iv xv.Hops,.slice p_1 xv.Loops.length c_1]) 1 hF rfl rfl hS rfl fun b a w hF hS=>O.alloc 2 zc_85 hF hS rfl fun b_1 a w hF hS=>nT (seq (region (step hF (Y.loadNL 1 sz_25 hF rfl hS rfl rfl rfl) rfl fun a hF=>O.makeMap 3 hF hS rfl fun b_2 a w hF hS=>?_)))))
 replace hS:=hS.snap0 4
 have hm:OMR kl_154 (C_sl C_int) 30 D0 ([]:(List (line_kind × (List (List Int))))) (#[]:Array MapEntry) 0 ([]:List Nat) (fun _=>none:Nat→Option Obj):=OMR.nil
 refine step hF (Y.move hF rfl) rfl fun a hF=>step hF (Y.build (parts:=[(0,(.tmp 7)),(1,(.tmp 8)),(2,(.tmp 9))]) (cs:=#[iv xv.Exchanges,.slice p xv.Lines.length c,iv xv.Hops,.slice p_1 xv.Loops.length c_1,.map (some b_2),iv left]) hF rfl (by kernel_rfl)) rfl fun a hF=>O.alloc 5 zc_85 hF hS rfl fun b_3 a w hF hS=>O.store (us:=[iv xv.Exchanges,.slice p xv.Lines.length c,iv xv.Hops,.slice p_1 xv.Loops.length c_1,.map (some b_2),iv left]) 5 sz_85 hF rfl rfl rfl rfl hS rfl rfl fun a w hF hS=>nT (seq (region (O.alloc 6 zc_150 hF hS rfl fun b_4 a w hF hS=>nT (seq (region (step hF (Y.makeFunc (first:=[]) (cap:=[(.tmp 5),(.tmp 2),(.tmp 6)]) (fs:=[]) (cs:=[.pointer (some ⟨b_3,0,none⟩),.pointer (some ⟨b,0,none⟩),.pointer (some ⟨b_4,0,none⟩)]) hF rfl rfl) rfl fun a hF=>O.store (us:=[.func (.func 69) #[] #[.pointer (some ⟨b_3,0,none⟩),.pointer (some ⟨b,0,none⟩),.pointer (some ⟨b_4,0,none⟩)]]) 6 sz_150 hF rfl rfl rfl rfl hS rfl rfl fun a w hF hS=>nT (seq (region (step hF (Y.load1L 6 sz_150 hF rfl hS rfl rfl) rfl fun a hF=>step hF (Y.build (parts:=[]) (cs:=(arr celB (List.replicate 7 false)).toArray) hF rfl (by kernel_rfl)) rfl fun a hF=>?_)))))))))
 obtain ⟨Dv,hlev,hbx,hS⟩:=hS.freezeB (i:=5) rfl
 replace hs:=hs.mono hlev
 replace hs_1:=hs_1.mono hlev
 replace hG:=hG.mono hlev
 replace hm:=hm.mono hlev
 obtain ⟨Dv_1,hlev_1,hbx_1,hS⟩:=hS.freezeB (i:=1) rfl
 replace hs:=hs.mono hlev_1
 replace hs_1:=hs_1.mono hlev_1
 replace hG:=hG.mono hlev_1
 replace hm:=hm.mono hlev_1
 replace hbx:=hlev_1 _ _ hbx
 obtain ⟨Dv_2,hlev_2,hbx_2,hS⟩:=hS.freezeB (i:=6) rfl
 replace hs:=hs.mono hlev_2
 replace hs_1:=hs_1.mono hlev_2
 replace hG:=hG.mono hlev_2
 replace hm:=hm.mono hlev_2
 replace hbx:=hlev_2 _ _ hbx
 replace hbx_1:=hlev_2 _ _ hbx_1
 obtain ⟨rv,hx,h⟩:=bind_some h
 refine O.callVM (f:=69) (first:=[]) (cap:=[.pointer (some ⟨b_3,0,none⟩),.pointer (some ⟨b,0,none⟩),.pointer (some ⟨b_4,0,none⟩)]) (us:=[iv 0,.slice none 0 0,.agg (arr celB (List.replicate 7 false)).toArray]) ca_69 hF rfl rfl (line_opened_1_ok 0 ([]:List Int) (List.replicate 7 false) (line_net.mk xv ([]:(List (line_kind × (List (List Int))))) left) xv SRc.nil List.length_replicate hs hs_1 hm hs hs_1 hbx hbx_1 hbx_2 hG (hS.lend2 (i:=3) (j:=4) rfl rfl (by decide)) rv hx) rfl fun v Dv_3 a w hR hlev_3 hF=>?_
 replace hs:=hs.mono hlev_3
 replace hs_1:=hs_1.mono hlev_3
 replace hbx:=hlev_3 _ _ hbx
 replace hbx_1:=hlev_3 _ _ hbx_1
 replace hbx_2:=hlev_3 _ _ hbx_2
 obtain ⟨es,clk,ogS,ogh,hS2_0,rfl,hm_1⟩:=hR
 replace hS:=hS.back2 (i:=3) (j:=4) rfl rfl (by decide) hS2_0
 refine nT (seq (region (step hF (Y.loadNH sz_85 hF rfl (hS.stab _ _ hbx) rfl rfl) rfl fun a hF=>O.store (us:=[iv xv.Exchanges,.slice p xv.Lines.length c,iv xv.Hops,.slice p_1 xv.Loops.length c_1,.map (some b_2),iv left]) 2 sz_85 hF rfl rfl rfl rfl hS rfl rfl fun a w hF hS=>nT (ret_ ?_))))
 obtain ⟨Dv_4,hlev_4,hm_2,hS⟩:=hS.freezeOMR (i:=3) 4 (by decide) rfl rfl hm_1
 replace hs:=hs.mono hlev_4
 replace hs_1:=hs_1.mono hlev_4
 replace hbx:=hlev_4 _ _ hbx
 replace hbx_1:=hlev_4 _ _ hbx_1
 replace hbx_2:=hlev_4 _ _ hbx_2
 obtain rfl:=some_inj h
 exact leaveS Tryz.results50 hF hS (.cons (.cellN 2 sz_85 rfl rfl rfl) .nil) .nil ⟨_,_,_,_,_,rfl,hs,hs_1,hm_2⟩
noncomputable def line_net_routes_b2 (n:line_net) (exchange:Int) (outv:(List (List Int))) (v15_0:Int):((List (List Int)) × Int)→Option (((List (List Int)) × Int) ⊕ (((List (List Int)) × Int) ⊕ (List (List Int))))
 | (l,v25_0)=>
  cond (decide (v25_0 < (((mget kl_154 n.ways (line_kind.mk exchange v15_0)).getD (([]:List (List Int)):(List (List Int)))).length:Int)))
  ((idx ((mget kl_154 n.ways (line_kind.mk exchange v15_0)).getD (([]:List (List Int)):(List (List Int)))) v25_0).bind fun e=>
  (line_net_delay n exchange e).bind fun rv=>
  cond rv.2
  (if l.length + ([e]).length≤lim then
  nxt ((l ++ [e]),wr (v25_0 + 1))
  else none)
  (nxt (l,wr (v25_0 + 1))))
  (ext (if l.length≤lim∧∀ x ∈ l,x.length≤lim then
  if outv.length + (sortL l).length≤lim then
  nxt ((outv ++ (sortL l)),wr (v15_0 + 1))
  else none
  else none))
noncomputable def line_net_routes_b1 (n:line_net) (exchange:Int):((List (List Int)) × Int)→Option (((List (List Int)) × Int) ⊕ (List (List Int)))
 | (outv,v15_0)=>
  cond (decide (v15_0 < 7))
  (loopU (line_net_routes_b2 n exchange outv v15_0) (([]:List (List Int)),0))
  (ext (some outv))
noncomputable def line_net_routes (n:line_net) (exchange:Int):Option (List (List Int)):=
  loopU (line_net_routes_b1 n exchange) (([]:List (List Int)),0)
theorem line_net_routes_ok {w0:World} {D0:Stab} (hD:D0.on w0) (n:line_net) (exchange:Int) {p:Option Addr} {c:Nat} {p_1:Option Addr} {c_1:Nat} {bm:Option Nat} (hs:SRc C_LineLine D0 n.LineNet.Lines p c) (hs_1:SRc C_LineLoop D0 n.LineNet.Loops p_1 c_1) (hm:MapB kl_154 (C_sl (C_sl C_int)) false D0 n.ways bm) (out:(List (List Int))) (h:line_net_routes n exchange=some out):Calls Tryz.prog 52 [.agg #[iv n.LineNet.Exchanges,.slice p n.LineNet.Lines.length c,iv n.LineNet.Hops,.slice p_1 n.LineNet.Loops.length c_1,.map bm,iv n.left],iv exchange].toArray w0 (RetS D0 w0 fun D v=>∃ p_9 c_9,v=.slice p_9 out.length c_9∧SRc (C_sl C_int) D out p_9 c_9):=by
 refine enter _ 49 Tryz.func52 rfl Tryz.ntmps52 rfl fun a hF=>?_
 replace hF:Frm 49 [] [(0,.agg #[iv n.LineNet.Exchanges,.slice p n.LineNet.Lines.length c,iv n.LineNet.Hops,.slice p_1 n.LineNet.Loops.length c_1,.map bm,iv n.left]),(1,iv exchange)] a:=hF
 have hS:=St.start hD
 unfold line_net_routes at h
 refine seq (region (O.box (cs:=[iv n.LineNet.Exchanges,.slice p n.LineNet.Lines.length c,iv n.LineNet.Hops,.slice p_1 n.LineNet.Loops.length c_1,.map bm,iv n.left]) 1 hF rfl rfl hS rfl fun b a w hF hS=>step hF (Y.assign hF rfl) rfl fun a hF=>nT (seq (region (step hF (Y.assign hF rfl) rfl fun a hF=>?_)))))
 replace hS:=hS.ownNil 2 30 1
 refine nT (seq (region (step hF (Y.loadNL 1 sz_85 hF rfl hS rfl rfl rfl) rfl fun a hF=>step hF (Y.makeFunc (first:=[(.tmp 13)]) (cap:=[]) (fs:=[.agg #[iv n.LineNet.Exchanges,.slice p n.LineNet.Lines.length c,iv n.LineNet.Hops,.slice p_1 n.LineNet.Loops.length c_1,.map bm,iv n.left]]) (cs:=[]) hF rfl rfl) rfl fun a hF=>step hF (Y.assign hF rfl) rfl fun a hF=>nT (seq (seq (region (step hF (Y.move hF rfl) rfl fun a hF=>nT (block (loop_cut (body:=line_net_routes_b1 n exchange) (out:=out) (fun s a w=>∃ (outv:(List (List Int))) (v15_0:Int),∃ (Dv:Stab),∃ p_2 c_2 cs,s=(outv,v15_0)∧D0.le Dv∧Frm 49 [] [(1,iv exchange),(2,.pointer (some ⟨b,0,none⟩)),(4,.slice none 0 0),(5,.slice p_2 outv.length c_2),(6,.func (.func 28) #[.agg #[iv n.LineNet.Exchanges,.slice p n.LineNet.Lines.length c,iv n.LineNet.Hops,.slice p_1 n.LineNet.Loops.length c_1,.map bm,iv n.left]] #[]),(15,iv v15_0)] a∧St w0 D0 Dv [(1,.cells b [iv n.LineNet.Exchanges,.slice p n.LineNet.Lines.length c,iv n.LineNet.Hops,.slice p_1 n.LineNet.Loops.length c_1,.map bm,iv n.left] 85),(2,.own p_2 outv.length c_2 cs 30 1)] w∧Reps (C_sl C_int) Dv outv cs) (([]:List (List Int)),0) h ⟨([]:List (List Int)),0,D0,none,0,([]),rfl,Stab.le.refl _,hF.weak (AF rfl),hS.weak ⟨rfl,rfl,trivial⟩,Reps.nil⟩ ?_)))))))))
 rintro s a w xo ⟨outv,v15_0,Dv,p_2,c_2,cs,rfl,hlev,hF,hS,hr⟩ h hxo
 unfold line_net_routes_b1 at h
 dsimp only at h
 replace hs:=hs.mono hlev
 replace hs_1:=hs_1.mono hlev
 replace hm:=hm.mono hlev
 refine seq (region (step hF (Y.lss hF rfl rfl) rfl fun a hF=>nT (seq (cond_b hF rfl (fun hbv=>?_) (fun hbv=>?_)))))
 ·replace h:=cond_t h hbv
  refine skip_ (then_n (seq (block (seq (region (step hF (Y.move hF rfl) rfl fun a hF=>step hF (Y.assign hF rfl) rfl fun a hF=>nT (seq (region (step hF (Y.assign hF rfl) rfl fun a hF=>?_)))))))))
  replace hS:=hS.ownNil 3 30 1
  refine nT (seq (seq (region (step hF (Y.fieldAddr fo_85_1 hF rfl) rfl fun a hF=>step hF (Y.load1L 1 sz_83 hF rfl hS rfl rfl) rfl fun a hF=>step hF (Y.move hF rfl) rfl fun a hF=>step hF (Y.move hF rfl) rfl fun a hF=>step hF (Y.build (parts:=[(0,(.tmp 20)),(1,(.tmp 21))]) (cs:=#[iv exchange,iv v15_0]) hF rfl (by kernel_rfl)) rfl fun a hF=>?_))))
  obtain ⟨cc,hc,hY⟩:=Y.lookupS (kl:=kl_154) (C:=(C_sl (C_sl C_int))) (agg:=false) (xs:=n.ways) (x:=(.tmp 19)) (y:=(.tmp 22)) (z:=[.slice none 0 0]) (z0:=(([]:List (List Int)):(List (List Int)))) false  mt_83 (fun _=>rfl) (⟨_,_,rfl,SRc.nil⟩) (line_kind.mk exchange v15_0) hm.toS hF rfl rfl
  obtain ⟨p_3,c_3,rfl,hs_2⟩:=hc
  refine step hF ((show Yields _ _ _ _ (.slice p_3 ((mget kl_154 n.ways (line_kind.mk exchange v15_0)).getD (([]:List (List Int)):(List (List Int)))).length c_3) from hY hS.stab)) rfl fun a hF=>step hF (Y.lenSl u_45 hF rfl) rfl fun a hF=>step hF (Y.move hF rfl) rfl fun a hF=>nT (block (loop_cut (body:=line_net_routes_b2 n exchange outv v15_0) (out:=xo) (fun s a w=>∃ (l:(List (List Int))) (v25_0:Int),∃ (Dv_1:Stab),∃ p_4 c_4 cs_1,s=(l,v25_0)∧Dv.le Dv_1∧Frm 49 [] [(1,iv exchange),(2,.pointer (some ⟨b,0,none⟩)),(4,.slice none 0 0),(5,.slice p_2 outv.length c_2),(6,.func (.func 28) #[.agg #[iv n.LineNet.Exchanges,.slice p n.LineNet.Lines.length c,iv n.LineNet.Hops,.slice p_1 n.LineNet.Loops.length c_1,.map bm,iv n.left]] #[]),(8,.slice p_4 l.length c_4),(15,iv v15_0),(23,.slice p_3 ((mget kl_154 n.ways (line_kind.mk exchange v15_0)).getD (([]:List (List Int)):(List (List Int)))).length c_3),(24,iv (((mget kl_154 n.ways (line_kind.mk exchange v15_0)).getD (([]:List (List Int)):(List (List Int)))).length:Int)),(25,iv v25_0)] a∧St w0 D0 Dv_1 [(1,.cells b [iv n.LineNet.Exchanges,.slice p n.LineNet.Lines.length c,iv n.LineNet.Hops,.slice p_1 n.LineNet.Loops.length c_1,.map bm,iv n.left] 85),(2,.own p_2 outv.length c_2 cs 30 1),(3,.own p_4 l.length c_4 cs_1 30 1)] w∧Reps (C_sl C_int) Dv_1 l cs_1) (([]:List (List Int)),0) h ⟨([]:List (List Int)),0,Dv,none,0,([]),rfl,Stab.le.refl _,hF.weak (AF rfl),hS.weak (AL rfl),Reps.nil⟩ ?_))
  rintro s a w xo_1 ⟨l,v25_0,Dv_1,p_4,c_4,cs_1,rfl,hlev_1,hF,hS,hr_1⟩ h hxo_1
  unfold line_net_routes_b2 at h
  dsimp only at h
  replace hs:=hs.mono hlev_1
  replace hs_1:=hs_1.mono hlev_1
  replace hm:=hm.mono hlev_1
  replace hr:=hr.mono hlev_1
  replace hs_2:=hs_2.mono hlev_1
  refine seq (region (step hF (Y.lss hF rfl rfl) rfl fun a hF=>nT (seq (cond_b hF rfl (fun hbv_1=>?_) (fun hbv_1=>?_)))))
  ·replace h:=cond_t h hbv_1
   refine skip_ (then_n (seq (block (seq (region ?_)))))
   obtain ⟨e,hx,h⟩:=bind_some h
   obtain ⟨b_1,o,hE,hY_1⟩:=Y.indexS (P:=Tryz.prog) (C:=(C_sl C_int)) (xs:=((mget kl_154 n.ways (line_kind.mk exchange v15_0)).getD (([]:List (List Int)):(List (List Int))))) (T:=45) (x:=(.tmp 23)) (y:=(.tmp 25)) u_45 sz_30 hF rfl rfl (hs_2).1 hx
   obtain ⟨cc_1,hc_1,hcell⟩:=hE.open
   obtain ⟨p_5,c_5,rfl,hs_3⟩:=hc_1
   refine step hF (hY_1) rfl fun a hF=>step hF (Y.load1 sz_30 hF rfl (hcell _ hS.stab 0 _ rfl)) rfl fun a hF=>step hF (Y.assign hF rfl) rfl fun a hF=>nT (seq (region (step hF (Y.move hF rfl) rfl fun a hF=>step hF (Y.move hF rfl) rfl fun a hF=>step hF (Y.move hF rfl) rfl fun a hF=>?_)))
   obtain ⟨rv,hx_1,h⟩:=bind_some h
   refine O.callVP (f:=28) (first:=[.agg #[iv n.LineNet.Exchanges,.slice p n.LineNet.Lines.length c,iv n.LineNet.Hops,.slice p_1 n.LineNet.Loops.length c_1,.map bm,iv n.left]]) (cap:=[]) (us:=[iv exchange,.slice p_5 e.length c_5]) ca_28 hF hS rfl rfl (line_net_delay_ok hS.stab n exchange e hs hs_1 hm hs_3 rv hx_1) rfl fun a w hF hS=>step hF (Y.move hF rfl) rfl fun a hF=>step hF (Y.extract hF rfl rfl) rfl fun a hF=>step hF (Y.extract hF rfl rfl) rfl fun a hF=>O.alloc 4 zc_27 hF hS rfl fun b_2 a w hF hS=>O.store (us:=[iv rv.1.Low,iv rv.1.High]) 4 sz_27 hF rfl rfl rfl rfl hS rfl rfl fun a w hF hS=>step hF (Y.assign hF rfl) rfl fun a hF=>nT (seq (region (step hF (Y.move hF rfl) rfl fun a hF=>nT (cond_b hF rfl (fun hbv_2=>?_) (fun hbv_2=>?_)))))
   ·replace h:=cond_t h hbv_2
    refine region (step hF (Y.move hF rfl) rfl fun a hF=>step hF (Y.move hF rfl) rfl fun a hF=>?_)
    have hr_2:Reps (C_sl C_int) Dv_1 [e] [.slice p_5 e.length c_5]:=Reps.cons (C:=(C_sl C_int)) (x:=e) (c:=[.slice p_5 e.length c_5]) (r:=[]) (⟨_,_,rfl,hs_3⟩) (Reps.nil)
    refine O.buildSlice (E:=30) (C:=(C_sl C_int)) (xs:=[e]) (cs:=[.slice p_5 e.length c_5]) (us:=[.slice p_5 e.length c_5]) (parts:=[(0,(.tmp 38))]) 5 hF hS rfl (by kernel_rfl) hr_2 rfl rfl rfl fun p_6 c_6 a w hF hS=>?_
    obtain ⟨hg,h⟩:=ite_some h
    refine O.append (C:=(C_sl C_int)) (xs:=l) (ys:=[e]) 3 gr_45 hF rfl rfl hS rfl (src_own (i:=5) hS rfl) hr_1 hr_2 hg rfl fun p_7 c_7 a w hF hS hr_3=>step hF (Y.assign hF rfl) rfl fun a hF=>nil (blk_n (then_n (region (step hF (Y.add hF rfl rfl) rfl fun a hF=>step hF (Y.move hF rfl) rfl fun a hF=>nT (⟨_,nxt_some h,(l ++ [e]),(wr (v25_0 + 1)),Dv_1,p_7,c_7,(cs_1 ++ [.slice p_5 e.length c_5]),rfl,hlev_1,hF.weak (AF rfl),hS.weak (AL rfl),hr_3⟩)))))
   replace h:=cond_f h hbv_2
   refine skip_ (blk_n (then_n (region (step hF (Y.add hF rfl rfl) rfl fun a hF=>step hF (Y.move hF rfl) rfl fun a hF=>nT (⟨_,nxt_some h,l,(wr (v25_0 + 1)),Dv_1,p_4,c_4,cs_1,rfl,hlev_1,hF.weak (AF rfl),hS.weak (AL rfl),hr_1⟩)))))
  replace h:=cond_f h hbv_1
  refine exit_ (then_x (then_x (blk_hit (then_n ?_))))
  replace h:=ext_some h hxo_1
  refine seq (region (step hF (Y.move hF rfl) rfl fun a hF=>?_))
  obtain ⟨hg_1,h⟩:=ite_some h
  refine O.sortOwn sort_lay_71 (f:=71) (g:=72) rfl ca_71 ca_72 (fun w D hD a b p c p2 c2 h1 h2 h3 h4=>slices_Compare___int_int__all hD a b h1 h2 h3 h4) (x:=(.tmp 42)) (y:=(.func 72)) 3 hF rfl rfl hS rfl hr_1 hg_1 rfl fun cs_2 a w hF hS hr_4=>?_
  try rw [show l.length=(sortL l).length from (sortL_length l).symm] at hF
  refine nT (region (step hF (Y.move hF rfl) rfl fun a hF=>step hF (Y.move hF rfl) rfl fun a hF=>?_))
  obtain ⟨hg_2,h⟩:=ite_some h
  refine O.append (C:=(C_sl C_int)) (xs:=outv) (ys:=(sortL l)) 2 gr_45 hF rfl rfl hS rfl (src_own (i:=3) hS rfl) hr hr_4 hg_2 rfl fun p_8 c_8 a w hF hS hr_5=>step hF (Y.assign hF rfl) rfl fun a hF=>nil (blk_n (then_n (region (step hF (Y.add hF rfl rfl) rfl fun a hF=>step hF (Y.move hF rfl) rfl fun a hF=>nT (⟨_,nxt_some h,(outv ++ (sortL l)),(wr (v15_0 + 1)),Dv_1,p_8,c_8,(cs ++ cs_2),rfl,hlev.trans hlev_1,hF.weak (AF rfl),hS.weak ⟨rfl,rfl,trivial⟩,hr_5⟩)))))
 replace h:=cond_f h hbv
 refine exit_ (then_x (then_x (blk_hit (then_n ?_))))
 replace h:=ext_some h hxo
 refine seq (region (step hF (Y.move hF rfl) rfl fun a hF=>step hF (Y.assign hF rfl) rfl fun a hF=>nT (ret_ ?_)))
 obtain ⟨Dv_2,hlev_2,hs_4,hS⟩:=hS.freezeC (C:=(C_sl C_int)) (i:=2) (xs:=outv) rfl hr
 obtain rfl:=some_inj h
 exact leaveS Tryz.results52 hF hS (.cons (.tmp rfl) .nil) .nil ⟨_,_,rfl,hs_4⟩
noncomputable def line_asked (xv:LineNet) (exchange:Int):Option (line_net × (List (List Int)) × Int):=
  (line_Check xv).bind fun rv=>
  cond (rv != 0)
  (some ((line_net.mk (LineNet.mk 0 ([]:List LineLine) 0 ([]:List LineLoop)) ([]:(List (line_kind × (List (List Int))))) 0),([]:List (List Int)),rv))
  ((line_lies exchange 0 (wr (xv.Exchanges - 1))).bind fun rv_1=>
  cond (!rv_1)
  (some ((line_net.mk (LineNet.mk 0 ([]:List LineLine) 0 ([]:List LineLoop)) ([]:(List (line_kind × (List (List Int))))) 0),([]:List (List Int)),61))
  ((line_opened xv 0).bind fun rv_2=>
  (line_net_reaches rv_2 exchange).bind fun rv_3=>
  cond (!rv_3)
  (some ((line_net.mk (LineNet.mk 0 ([]:List LineLine) 0 ([]:List LineLoop)) ([]:(List (line_kind × (List (List Int))))) 0),([]:List (List Int)),4))
  ((line_net_routes rv_2 exchange).bind fun rv_4=>
  cond ((rv_4.length:Int) == 0)
  (some ((line_net.mk (LineNet.mk 0 ([]:List LineLine) 0 ([]:List LineLoop)) ([]:(List (line_kind × (List (List Int))))) 0),([]:List (List Int)),62))
  (some (rv_2,rv_4,0)))))
theorem line_asked_ok {w0:World} {D0:Stab} (hD:D0.on w0) (xv:LineNet) (exchange:Int) {p:Option Addr} {c:Nat} {p_1:Option Addr} {c_1:Nat} (hs:SRc C_LineLine D0 xv.Lines p c) (hs_1:SRc C_LineLoop D0 xv.Loops p_1 c_1) (hG:Glob D0) (out:(line_net × (List (List Int)) × Int)) (h:line_asked xv exchange=some out):Calls Tryz.prog 27 [.agg #[iv xv.Exchanges,.slice p xv.Lines.length c,iv xv.Hops,.slice p_1 xv.Loops.length c_1],iv exchange].toArray w0 (RetS D0 w0 fun D v=>∃ p_5 c_5 p_6 c_6 bm_1 p_7 c_7,v=.tuple #[.agg #[iv out.1.LineNet.Exchanges,.slice p_5 out.1.LineNet.Lines.length c_5,iv out.1.LineNet.Hops,.slice p_6 out.1.LineNet.Loops.length c_6,.map bm_1,iv out.1.left],.slice p_7 out.2.1.length c_7,iv out.2.2]∧SRc C_LineLine D out.1.LineNet.Lines p_5 c_5∧SRc C_LineLoop D out.1.LineNet.Loops p_6 c_6∧MapB kl_154 (C_sl (C_sl C_int)) false D out.1.ways bm_1∧SRc (C_sl C_int) D out.2.1 p_7 c_7):=by
 refine enter _ 39 Tryz.func27 rfl Tryz.ntmps27 rfl fun a hF=>?_
 replace hF:Frm 39 [] [(0,.agg #[iv xv.Exchanges,.slice p xv.Lines.length c,iv xv.Hops,.slice p_1 xv.Loops.length c_1]),(1,iv exchange)] a:=hF
 have hS:=St.start hD
 unfold line_asked at h
 refine seq (region (O.box (cs:=[iv xv.Exchanges,.slice p xv.Lines.length c,iv xv.Hops,.slice p_1 xv.Loops.length c_1]) 1 hF rfl rfl hS rfl fun b a w hF hS=>O.alloc 2 zc_85 hF hS rfl fun b_1 a w hF hS=>step hF (Y.assign hF rfl) rfl fun a hF=>step hF (Y.assign hF rfl) rfl fun a hF=>nT (seq (seq (region (step hF (Y.loadNL 1 sz_25 hF rfl hS rfl rfl rfl) rfl fun a hF=>?_))))))
 obtain ⟨rv,hx,h⟩:=bind_some h
 refine O.callP (us:=[.agg #[iv xv.Exchanges,.slice p xv.Lines.length c,iv xv.Hops,.slice p_1 xv.Loops.length c_1]]) ca_4 hF hS (line_Check_ok hS.stab xv hs hs_1 rv hx) rfl rfl fun a w hF hS=>step hF (Y.assign hF rfl) rfl fun a hF=>nT (seq (region (step hF (Y.move hF rfl) rfl fun a hF=>step hF (Y.neq hF rfl rfl) rfl fun a hF=>nT (cond_b hF rfl (fun hbv=>?_) (fun hbv=>?_)))))
 ·replace h:=cond_t h hbv
  refine seq (region (step hF (Y.build (parts:=[]) (cs:=#[iv 0,.slice none 0 0,iv 0,.slice none 0 0,.map none,iv 0]) hF rfl (by kernel_rfl)) rfl fun a hF=>step hF (Y.move hF rfl) rfl fun a hF=>O.store (us:=[iv 0,.slice none 0 0,iv 0,.slice none 0 0,.map none,iv 0]) 2 sz_85 hF rfl rfl rfl rfl hS rfl rfl fun a w hF hS=>step hF (Y.assign hF rfl) rfl fun a hF=>step hF (Y.assign hF rfl) rfl fun a hF=>nT (ret_ (then_r ?_))))
  obtain rfl:=some_inj h
  exact leaveS Tryz.results27 hF hS (.cons (.cellN 2 sz_85 rfl rfl rfl) (.cons (.tmp rfl) (.cons (.tmp rfl) .nil))) .nil ⟨_,_,_,_,_,_,_,rfl,SRc.nil,SRc.nil,MapB.nil,SRc.nil⟩
 replace h:=cond_f h hbv
 refine skip_ (then_n (seq (seq (region (step hF (Y.move hF rfl) rfl fun a hF=>step hF (Y.fieldAddr fo_25_0 hF rfl) rfl fun a hF=>step hF (Y.load1L 1 sz_3 hF rfl hS rfl rfl) rfl fun a hF=>step hF (Y.sub hF rfl rfl) rfl fun a hF=>?_)))))
 obtain ⟨rv_1,hx_1,h⟩:=bind_some h
 refine O.callP (us:=[iv exchange,iv 0,iv (wr (xv.Exchanges - 1))]) ca_19 hF hS (line_lies_ok hS.stab exchange 0 (wr (xv.Exchanges - 1)) rv_1 hx_1) rfl rfl fun a w hF hS=>step hF (Y.not hF rfl) rfl fun a hF=>nT (cond_b hF rfl (fun hbv_1=>?_) (fun hbv_1=>?_))
 ·replace h:=cond_t h hbv_1
  refine seq (region (step hF (Y.build (parts:=[]) (cs:=#[iv 0,.slice none 0 0,iv 0,.slice none 0 0,.map none,iv 0]) hF rfl (by kernel_rfl)) rfl fun a hF=>O.store (us:=[iv 0,.slice none 0 0,iv 0,.slice none 0 0,.map none,iv 0]) 2 sz_85 hF rfl rfl rfl rfl hS rfl rfl fun a w hF hS=>step hF (Y.assign hF rfl) rfl fun a hF=>step hF (Y.assign hF rfl) rfl fun a hF=>nT (ret_ (then_r ?_))))
  obtain rfl:=some_inj h
  exact leaveS Tryz.results27 hF hS (.cons (.cellN 2 sz_85 rfl rfl rfl) (.cons (.tmp rfl) (.cons (.tmp rfl) .nil))) .nil ⟨_,_,_,_,_,_,_,rfl,SRc.nil,SRc.nil,MapB.nil,SRc.nil⟩
 replace h:=cond_f h hbv_1
 refine skip_ (then_n (seq (region (step hF (Y.loadNL 1 sz_25 hF rfl hS rfl rfl rfl) rfl fun a hF=>?_))))
 obtain ⟨rv_2,hx_2,h⟩:=bind_some h
 refine O.callS (us:=[.agg #[iv xv.Exchanges,.slice p xv.Lines.length c,iv xv.Hops,.slice p_1 xv.Loops.length c_1],iv 0]) ca_50 hF hS (line_opened_ok hS.stab xv 0 hs hs_1 hG rv_2 hx_2) rfl rfl fun v Dv a w hR hlev hF hS=>?_
 obtain ⟨p_2,c_2,p_3,c_3,bm,rfl,hs_2,hs_3,hm⟩:=hR
 refine O.alloc 3 zc_85 hF hS rfl fun b_2 a w hF hS=>O.store (us:=[iv rv_2.LineNet.Exchanges,.slice p_2 rv_2.LineNet.Lines.length c_2,iv rv_2.LineNet.Hops,.slice p_3 rv_2.LineNet.Loops.length c_3,.map bm,iv rv_2.left]) 3 sz_85 hF rfl rfl rfl rfl hS rfl rfl fun a w hF hS=>nT (seq (seq (region (step hF (Y.loadNL 3 sz_85 hF rfl hS rfl rfl rfl) rfl fun a hF=>step hF (Y.move hF rfl) rfl fun a hF=>?_))))
 obtain ⟨rv_3,hx_3,h⟩:=bind_some h
 refine O.callP (us:=[.agg #[iv rv_2.LineNet.Exchanges,.slice p_2 rv_2.LineNet.Lines.length c_2,iv rv_2.LineNet.Hops,.slice p_3 rv_2.LineNet.Loops.length c_3,.map bm,iv rv_2.left],iv exchange]) ca_51 hF hS (line_net_reaches_ok hS.stab rv_2 exchange hs_2 hs_3 hm rv_3 hx_3) rfl rfl fun a w hF hS=>step hF (Y.not hF rfl) rfl fun a hF=>nT (cond_b hF rfl (fun hbv_2=>?_) (fun hbv_2=>?_))
 ·replace h:=cond_t h hbv_2
  refine seq (region (step hF (Y.build (parts:=[]) (cs:=#[iv 0,.slice none 0 0,iv 0,.slice none 0 0,.map none,iv 0]) hF rfl (by kernel_rfl)) rfl fun a hF=>O.store (us:=[iv 0,.slice none 0 0,iv 0,.slice none 0 0,.map none,iv 0]) 2 sz_85 hF rfl rfl rfl rfl hS rfl rfl fun a w hF hS=>step hF (Y.assign hF rfl) rfl fun a hF=>step hF (Y.assign hF rfl) rfl fun a hF=>nT (ret_ (then_r ?_))))
  obtain rfl:=some_inj h
  exact leaveS Tryz.results27 hF hS (.cons (.cellN 2 sz_85 rfl rfl rfl) (.cons (.tmp rfl) (.cons (.tmp rfl) .nil))) .nil ⟨_,_,_,_,_,_,_,rfl,SRc.nil,SRc.nil,MapB.nil,SRc.nil⟩
 replace h:=cond_f h hbv_2
 refine skip_ (then_n (seq (region (step hF (Y.loadNL 3 sz_85 hF rfl hS rfl rfl rfl) rfl fun a hF=>step hF (Y.move hF rfl) rfl fun a hF=>?_))))
 obtain ⟨rv_4,hx_4,h⟩:=bind_some h
 refine O.callS (us:=[.agg #[iv rv_2.LineNet.Exchanges,.slice p_2 rv_2.LineNet.Lines.length c_2,iv rv_2.LineNet.Hops,.slice p_3 rv_2.LineNet.Loops.length c_3,.map bm,iv rv_2.left],iv exchange]) ca_52 hF hS (line_net_routes_ok hS.stab rv_2 exchange hs_2 hs_3 hm rv_4 hx_4) rfl rfl fun v_1 Dv_1 a w hR_1 hlev_1 hF hS=>?_
 replace hs_2:=hs_2.mono hlev_1
 replace hs_3:=hs_3.mono hlev_1
 replace hm:=hm.mono hlev_1
 obtain ⟨p_4,c_4,rfl,hs_4⟩:=hR_1
 refine step hF (Y.assign hF rfl) rfl fun a hF=>nT (seq (seq (region (step hF (Y.move hF rfl) rfl fun a hF=>step hF (Y.lenSl u_45 hF rfl) rfl fun a hF=>step hF (Y.eql hF rfl rfl) rfl fun a hF=>nT (cond_b hF rfl (fun hbv_3=>?_) (fun hbv_3=>?_))))))
 ·replace h:=cond_t h hbv_3
  refine seq (region (step hF (Y.build (parts:=[]) (cs:=#[iv 0,.slice none 0 0,iv 0,.slice none 0 0,.map none,iv 0]) hF rfl (by kernel_rfl)) rfl fun a hF=>O.store (us:=[iv 0,.slice none 0 0,iv 0,.slice none 0 0,.map none,iv 0]) 2 sz_85 hF rfl rfl rfl rfl hS rfl rfl fun a w hF hS=>step hF (Y.assign hF rfl) rfl fun a hF=>step hF (Y.assign hF rfl) rfl fun a hF=>nT (ret_ (then_r ?_))))
  obtain rfl:=some_inj h
  exact leaveS Tryz.results27 hF hS (.cons (.cellN 2 sz_85 rfl rfl rfl) (.cons (.tmp rfl) (.cons (.tmp rfl) .nil))) .nil ⟨_,_,_,_,_,_,_,rfl,SRc.nil,SRc.nil,MapB.nil,SRc.nil⟩
 replace h:=cond_f h hbv_3
 refine skip_ (then_n (seq (region (step hF (Y.loadNL 3 sz_85 hF rfl hS rfl rfl rfl) rfl fun a hF=>step hF (Y.move hF rfl) rfl fun a hF=>O.store (us:=[iv rv_2.LineNet.Exchanges,.slice p_2 rv_2.LineNet.Lines.length c_2,iv rv_2.LineNet.Hops,.slice p_3 rv_2.LineNet.Loops.length c_3,.map bm,iv rv_2.left]) 2 sz_85 hF rfl rfl rfl rfl hS rfl rfl fun a w hF hS=>step hF (Y.assign hF rfl) rfl fun a hF=>step hF (Y.assign hF rfl) rfl fun a hF=>nT (ret_ ?_)))))
 obtain rfl:=some_inj h
 exact leaveS Tryz.results27 hF hS (.cons (.cellN 2 sz_85 rfl rfl rfl) (.cons (.tmp rfl) (.cons (.tmp rfl) .nil))) .nil ⟨_,_,_,_,_,_,_,rfl,hs_2,hs_3,hm,hs_4⟩
noncomputable def line_Delay_b1 (exchange:Int) (rv:(line_net × (List (List Int)) × Int)):(Int × Int × Int)→Option ((Int × Int × Int) ⊕ (Span × Int))
 | (v37_0,z,z_1)=>
  cond (decide (v37_0 < (rv.2.1.length:Int)))
  ((idx rv.2.1 v37_0).bind fun e_1=>
  (line_net_delay rv.1 exchange e_1).bind fun rv_2=>
  nxt (wr (v37_0 + 1),(if rv_2.1.Low < z then rv_2.1.Low else z),(if rv_2.1.High > z_1 then rv_2.1.High else z_1)))
  (ext (some ((Span.mk z z_1),0)))
noncomputable def line_Delay (xv:LineNet) (exchange:Int):Option (Span × Int):=
  (line_asked xv exchange).bind fun rv=>
  cond (rv.2.2 != 0)
  (some ((Span.mk 0 0),rv.2.2))
  ((idx rv.2.1 0).bind fun e=>
  (line_net_delay rv.1 exchange e).bind fun rv_1=>
  loopU (line_Delay_b1 exchange rv) (0,rv_1.1.Low,rv_1.1.High))
theorem line_Delay_ok {w0:World} {D0:Stab} (hD:D0.on w0) (xv:LineNet) (exchange:Int) {p:Option Addr} {c:Nat} {p_1:Option Addr} {c_1:Nat} (hs:SRc C_LineLine D0 xv.Lines p c) (hs_1:SRc C_LineLoop D0 xv.Loops p_1 c_1) (hG:Glob D0) (out:(Span × Int)) (h:line_Delay xv exchange=some out):Calls Tryz.prog 10 [.agg #[iv xv.Exchanges,.slice p xv.Lines.length c,iv xv.Hops,.slice p_1 xv.Loops.length c_1],iv exchange].toArray w0 (RetP D0 w0 (.tuple #[.agg #[iv out.1.Low,iv out.1.High],iv out.2])):=by
 refine enter _ 61 Tryz.func10 rfl Tryz.ntmps10 rfl fun a hF=>?_
 replace hF:Frm 61 [] [(0,.agg #[iv xv.Exchanges,.slice p xv.Lines.length c,iv xv.Hops,.slice p_1 xv.Loops.length c_1]),(1,iv exchange)] a:=hF
 have hS:=St.start hD
 unfold line_Delay at h
 refine seq (region (O.box (cs:=[iv xv.Exchanges,.slice p xv.Lines.length c,iv xv.Hops,.slice p_1 xv.Loops.length c_1]) 1 hF rfl rfl hS rfl fun b a w hF hS=>O.alloc 2 zc_27 hF hS rfl fun b_1 a w hF hS=>step hF (Y.assign hF rfl) rfl fun a hF=>nT (seq (region (step hF (Y.loadNL 1 sz_25 hF rfl hS rfl rfl rfl) rfl fun a hF=>step hF (Y.move hF rfl) rfl fun a hF=>?_)))))
 obtain ⟨rv,hx,h⟩:=bind_some h
 refine O.callS (us:=[.agg #[iv xv.Exchanges,.slice p xv.Lines.length c,iv xv.Hops,.slice p_1 xv.Loops.length c_1],iv exchange]) ca_27 hF hS (line_asked_ok hS.stab xv exchange hs hs_1 hG rv hx) rfl rfl fun v Dv a w hR hlev hF hS=>?_
 obtain ⟨p_2,c_2,p_3,c_3,bm,p_4,c_4,rfl,hs_2,hs_3,hm,hs_4⟩:=hR
 refine step hF (Y.move hF rfl) rfl fun a hF=>step hF (Y.extract hF rfl rfl) rfl fun a hF=>step hF (Y.extract hF rfl rfl) rfl fun a hF=>step hF (Y.extract hF rfl rfl) rfl fun a hF=>O.alloc 3 zc_85 hF hS rfl fun b_2 a w hF hS=>O.store (us:=[iv rv.1.LineNet.Exchanges,.slice p_2 rv.1.LineNet.Lines.length c_2,iv rv.1.LineNet.Hops,.slice p_3 rv.1.LineNet.Loops.length c_3,.map bm,iv rv.1.left]) 3 sz_85 hF rfl rfl rfl rfl hS rfl rfl fun a w hF hS=>step hF (Y.assign hF rfl) rfl fun a hF=>step hF (Y.assign hF rfl) rfl fun a hF=>nT (seq (seq (region (step hF (Y.move hF rfl) rfl fun a hF=>step hF (Y.neq hF rfl rfl) rfl fun a hF=>nT (cond_b hF rfl (fun hbv=>?_) (fun hbv=>?_))))))
 ·replace h:=cond_t h hbv
  refine seq (region (step hF (Y.build (parts:=[]) (cs:=#[iv 0,iv 0]) hF rfl (by kernel_rfl)) rfl fun a hF=>step hF (Y.move hF rfl) rfl fun a hF=>O.store (us:=[iv 0,iv 0]) 2 sz_27 hF rfl rfl rfl rfl hS rfl rfl fun a w hF hS=>step hF (Y.assign hF rfl) rfl fun a hF=>nT (ret_ (then_r ?_))))
  obtain rfl:=some_inj h
  exact leaveP Tryz.results10 hF hS (.cons (.cellN 2 sz_27 rfl rfl rfl) (.cons (.tmp rfl) .nil)) .nil rfl
 replace h:=cond_f h hbv
 refine skip_ (then_n (seq ?_))
 obtain ⟨e,hx_1,h⟩:=bind_some h
 obtain ⟨rv_1,hx_2,h⟩:=bind_some h
 refine drawsV 11 (.flt 0 (.flt 1 (.flt 2 (.flt 3 (.flt 4 (.alt 5 (.flt 6 (.flt 7 (.flt 8 (.alt 9 (.alt 10 .done .stop) .stop)))) (.alt 9 (.alt 5 (.flt 6 (.flt 7 (.flt 8 (.alt 10 .done .stop)))) .stop) .stop))))))) mixed_ (by kernel_rfl) (fun w=>St w0 D0 Dv [(1,.cells b [iv xv.Exchanges,.slice p xv.Lines.length c,iv xv.Hops,.slice p_1 xv.Loops.length c_1] 25),(2,.cells b_1 [iv 0,iv 0] 27),(3,.cells b_2 [iv rv.1.LineNet.Exchanges,.slice p_2 rv.1.LineNet.Lines.length c_2,iv rv.1.LineNet.Hops,.slice p_3 rv.1.LineNet.Loops.length c_3,.map bm,iv rv.1.left] 85)] w) (fun a w=>∃ (b_4:Nat),Frm 61 [] [(1,iv exchange),(4,.pointer (some ⟨b_1,0,none⟩)),(5,iv 0),(6,.pointer (some ⟨b_2,0,none⟩)),(7,.slice p_4 rv.2.1.length c_4),(9,.pointer (some ⟨b_4,0,none⟩)),(34,.bool rv_1.2)] a∧St w0 D0 Dv [(1,.cells b [iv xv.Exchanges,.slice p xv.Lines.length c,iv xv.Hops,.slice p_1 xv.Loops.length c_1] 25),(2,.cells b_1 [iv 0,iv 0] 27),(3,.cells b_2 [iv rv.1.LineNet.Exchanges,.slice p_2 rv.1.LineNet.Lines.length c_2,iv rv.1.LineNet.Hops,.slice p_3 rv.1.LineNet.Loops.length c_3,.map bm,iv rv.1.left] 85),(4,.cells b_4 [iv rv_1.1.Low,iv rv_1.1.High] 27)] w) (hS.weak (ms:=[(1,.cells b [iv xv.Exchanges,.slice p xv.Lines.length c,iv xv.Hops,.slice p_1 xv.Loops.length c_1] 25),(2,.cells b_1 [iv 0,iv 0] 27),(3,.cells b_2 [iv rv.1.LineNet.Exchanges,.slice p_2 rv.1.LineNet.Lines.length c_2,iv rv.1.LineNet.Hops,.slice p_3 rv.1.LineNet.Loops.length c_3,.map bm,iv rv.1.left] 85)]) (AL rfl)).drew (fun _ _ _ _ h=>h) ?_ ?_
 ·replace hS:=hS.drew
  have hle0:=hS.le
  refine stepV (i:=0) rfl hF (fun w hS=>Y.loadNL 3 sz_85 hF rfl hS rfl rfl rfl) rfl fun a hF=>stepV (i:=1) rfl hF (fun w hS=>Y.move hF rfl) rfl fun a hF=>stepV (i:=2) rfl hF (fun w hS=>Y.move hF rfl) rfl fun a hF=>?_
  obtain ⟨b_5,o_1,hE_1,hY_1⟩:=Y.indexS (P:=Tryz.prog) (C:=(C_sl C_int)) (xs:=rv.2.1) (T:=45) (x:=(.tmp 29)) (y:=(.const (iv 0))) u_45 sz_30 hF rfl rfl (hs_4).1 hx_1
  obtain ⟨cc_1,hc_1,hcell_1⟩:=hE_1.open
  obtain ⟨p_6,c_6,rfl,hs_6⟩:=hc_1
  refine stepV (i:=3) rfl hF (fun w hS=>hY_1) rfl fun a hF=>stepV (i:=4) rfl hF (fun w hS=>Y.load1 sz_30 hF rfl (hcell_1 _ hS.stab 0 _ rfl)) rfl fun a hF=>oneV (i:=5) rfl ?_ ?_
  ·skip
   refine O.callP (us:=[.agg #[iv rv.1.LineNet.Exchanges,.slice p_2 rv.1.LineNet.Lines.length c_2,iv rv.1.LineNet.Hops,.slice p_3 rv.1.LineNet.Loops.length c_3,.map bm,iv rv.1.left],iv exchange,.slice p_6 e.length c_6]) ca_28 hF hS (line_net_delay_ok hS.stab rv.1 exchange e hs_2 hs_3 hm hs_6 rv_1 hx_2) rfl rfl fun a w hF hS=>nT ⟨hS.weak (AL rfl),?_⟩
   refine stepV (i:=6) rfl hF (fun w hS=>Y.move hF rfl) rfl fun a hF=>stepV (i:=7) rfl hF (fun w hS=>Y.extract hF rfl rfl) rfl fun a hF=>stepV (i:=8) rfl hF (fun w hS=>Y.extract hF rfl rfl) rfl fun a hF=>oneV (i:=9) rfl ?_ trivial
   refine O.alloc 4 zc_27 hF hS rfl fun b_6 a w hF hS=>nT ⟨hS.weak (AL rfl),?_⟩
   refine oneV (i:=10) rfl ?_ trivial
   refine O.store (us:=[iv rv_1.1.Low,iv rv_1.1.High]) 4 sz_27 hF rfl rfl rfl rfl hS rfl rfl fun a w hF hS=>nT ⟨hS.weak (AL rfl),?_⟩
   exact toTailV ⟨b_6,hF.weak (AF rfl),hS.weak (AL rfl)⟩
  refine oneV (i:=9) rfl ?_ trivial
  refine O.alloc 4 zc_27 hF hS rfl fun b_7 a w hF hS=>nT ⟨hS.weak (AL rfl),?_⟩
  refine oneV (i:=5) rfl ?_ trivial
  refine O.callP (us:=[.agg #[iv rv.1.LineNet.Exchanges,.slice p_2 rv.1.LineNet.Lines.length c_2,iv rv.1.LineNet.Hops,.slice p_3 rv.1.LineNet.Loops.length c_3,.map bm,iv rv.1.left],iv exchange,.slice p_6 e.length c_6]) ca_28 hF hS (line_net_delay_ok hS.stab rv.1 exchange e hs_2 hs_3 hm hs_6 rv_1 hx_2) rfl rfl fun a w hF hS=>nT ⟨hS.weak (AL rfl),?_⟩
  refine stepV (i:=6) rfl hF (fun w hS=>Y.move hF rfl) rfl fun a hF=>stepV (i:=7) rfl hF (fun w hS=>Y.extract hF rfl rfl) rfl fun a hF=>stepV (i:=8) rfl hF (fun w hS=>Y.extract hF rfl rfl) rfl fun a hF=>oneV (i:=10) rfl ?_ trivial
  refine O.store (us:=[iv rv_1.1.Low,iv rv_1.1.High]) 4 sz_27 hF rfl rfl rfl rfl hS rfl rfl fun a w hF hS=>nT ⟨hS.weak (AL rfl),?_⟩
  exact toTailV ⟨b_7,hF.weak (AF rfl),hS.weak (AL rfl)⟩
 rintro a w ⟨b_4,hF,hS⟩
 refine step hF (Y.assign hF rfl) rfl fun a hF=>nT (seq (seq (region (step hF (Y.move hF rfl) rfl fun a hF=>step hF (Y.lenSl u_45 hF rfl) rfl fun a hF=>step hF (Y.move hF rfl) rfl fun a hF=>nT (block (loop_cut (body:=line_Delay_b1 exchange rv) (out:=out) (fun s a w=>∃ (v37_0:Int) (z:Int) (z_1:Int),∃ (Dv_1:Stab),s=(v37_0,z,z_1)∧Dv.le Dv_1∧Frm 61 [] [(1,iv exchange),(4,.pointer (some ⟨b_1,0,none⟩)),(5,iv 0),(6,.pointer (some ⟨b_2,0,none⟩)),(9,.pointer (some ⟨b_4,0,none⟩)),(35,.slice p_4 rv.2.1.length c_4),(36,iv (rv.2.1.length:Int)),(37,iv v37_0)] a∧St w0 D0 Dv_1 [(1,.cells b [iv xv.Exchanges,.slice p xv.Lines.length c,iv xv.Hops,.slice p_1 xv.Loops.length c_1] 25),(2,.cells b_1 [iv 0,iv 0] 27),(3,.cells b_2 [iv rv.1.LineNet.Exchanges,.slice p_2 rv.1.LineNet.Lines.length c_2,iv rv.1.LineNet.Hops,.slice p_3 rv.1.LineNet.Loops.length c_3,.map bm,iv rv.1.left] 85),(4,.cells b_4 [iv z,iv z_1] 27)] w) (0,rv_1.1.Low,rv_1.1.High) h ⟨0,rv_1.1.Low,rv_1.1.High,Dv,rfl,Stab.le.refl _,hF.weak (AF rfl),hS.weak (AL rfl)⟩ ?_))))))
 rintro s a w xo ⟨v37_0,z,z_1,Dv_1,rfl,hlev_1,hF,hS⟩ h hxo
 unfold line_Delay_b1 at h
 dsimp only at h
 replace hs_2:=hs_2.mono hlev_1
 replace hs_3:=hs_3.mono hlev_1
 replace hm:=hm.mono hlev_1
 replace hs_4:=hs_4.mono hlev_1
 refine seq (region (step hF (Y.lss hF rfl rfl) rfl fun a hF=>nT (seq (cond_b hF rfl (fun hbv_1=>?_) (fun hbv_1=>?_)))))
 ·replace h:=cond_t h hbv_1
  refine skip_ (then_n (seq (block (seq (region ?_)))))
  obtain ⟨e_1,hx_3,h⟩:=bind_some h
  obtain ⟨b_8,o_2,hE_2,hY_2⟩:=Y.indexS (P:=Tryz.prog) (C:=(C_sl C_int)) (xs:=rv.2.1) (T:=45) (x:=(.tmp 35)) (y:=(.tmp 37)) u_45 sz_30 hF rfl rfl (hs_4).1 hx_3
  obtain ⟨cc_2,hc_2,hcell_2⟩:=hE_2.open
  obtain ⟨p_7,c_7,rfl,hs_7⟩:=hc_2
  refine step hF (hY_2) rfl fun a hF=>step hF (Y.load1 sz_30 hF rfl (hcell_2 _ hS.stab 0 _ rfl)) rfl fun a hF=>step hF (Y.assign hF rfl) rfl fun a hF=>nT (seq (region (step hF (Y.loadNL 3 sz_85 hF rfl hS rfl rfl rfl) rfl fun a hF=>step hF (Y.move hF rfl) rfl fun a hF=>step hF (Y.move hF rfl) rfl fun a hF=>?_)))
  obtain ⟨rv_2,hx_4,h⟩:=bind_some h
  refine O.callP (us:=[.agg #[iv rv.1.LineNet.Exchanges,.slice p_2 rv.1.LineNet.Lines.length c_2,iv rv.1.LineNet.Hops,.slice p_3 rv.1.LineNet.Loops.length c_3,.map bm,iv rv.1.left],iv exchange,.slice p_7 e_1.length c_7]) ca_28 hF hS (line_net_delay_ok hS.stab rv.1 exchange e_1 hs_2 hs_3 hm hs_7 rv_2 hx_4) rfl rfl fun a w hF hS=>step hF (Y.move hF rfl) rfl fun a hF=>step hF (Y.extract hF rfl rfl) rfl fun a hF=>step hF (Y.extract hF rfl rfl) rfl fun a hF=>O.alloc 5 zc_27 hF hS rfl fun b_9 a w hF hS=>O.store (us:=[iv rv_2.1.Low,iv rv_2.1.High]) 5 sz_27 hF rfl rfl rfl rfl hS rfl rfl fun a w hF hS=>step hF (Y.assign hF rfl) rfl fun a hF=>nT (region (step hF (Y.fieldAddr fo_27_0 hF rfl) rfl fun a hF=>step hF (Y.load1L 4 sz_3 hF rfl hS rfl rfl) rfl fun a hF=>step hF (Y.fieldAddr fo_27_0 hF rfl) rfl fun a hF=>step hF (Y.load1L 5 sz_3 hF rfl hS rfl rfl) rfl fun a hF=>step hF (Y.min2 hF rfl rfl) rfl fun a hF=>step hF (Y.fieldAddr fo_27_1 hF rfl) rfl fun a hF=>step hF (Y.load1L 4 sz_3 hF rfl hS rfl rfl) rfl fun a hF=>step hF (Y.fieldAddr fo_27_1 hF rfl) rfl fun a hF=>step hF (Y.load1L 5 sz_3 hF rfl hS rfl rfl) rfl fun a hF=>step hF (Y.max2 hF rfl rfl) rfl fun a hF=>step hF (Y.build (parts:=[(0,(.tmp 52)),(1,(.tmp 57))]) (cs:=#[iv (if rv_2.1.Low < z then rv_2.1.Low else z),iv (if rv_2.1.High > z_1 then rv_2.1.High else z_1)]) hF rfl (by kernel_rfl)) rfl fun a hF=>O.store (us:=[iv (if rv_2.1.Low < z then rv_2.1.Low else z),iv (if rv_2.1.High > z_1 then rv_2.1.High else z_1)]) 4 sz_27 hF rfl rfl rfl rfl hS rfl rfl fun a w hF hS=>nil (blk_n (then_n (region (step hF (Y.add hF rfl rfl) rfl fun a hF=>step hF (Y.move hF rfl) rfl fun a hF=>nT (⟨_,nxt_some h,(wr (v37_0 + 1)),(if rv_2.1.Low < z then rv_2.1.Low else z),(if rv_2.1.High > z_1 then rv_2.1.High else z_1),Dv_1,rfl,hlev_1,hF.weak (AF rfl),hS.weak (AL rfl)⟩)))))))
 replace h:=cond_f h hbv_1
 refine exit_ (then_x (then_x (blk_hit (then_n ?_))))
 replace h:=ext_some h hxo
 refine seq (region (step hF (Y.loadNL 4 sz_27 hF rfl hS rfl rfl rfl) rfl fun a hF=>O.store (us:=[iv z,iv z_1]) 2 sz_27 hF rfl rfl rfl rfl hS rfl rfl fun a w hF hS=>step hF (Y.assign hF rfl) rfl fun a hF=>nT (ret_ ?_)))
 obtain rfl:=some_inj h
 exact leaveP Tryz.results10 hF hS (.cons (.cellN 2 sz_27 rfl rfl rfl) (.cons (.tmp rfl) .nil)) .nil rfl
noncomputable def line_Can_1 (way:(List Int)) (cv:line_net) (cv_1:Int) (cv_2:Int):Option Bool:=
  (line_net_delay cv cv_1 way).bind fun rv=>
  (line_lies cv_2 rv.1.Low rv.1.High).bind fun rv_1=>
  some rv_1
theorem line_Can_1_ok {w0:World} {D0:Stab} (hD:D0.on w0) (way:(List Int)) (cv:line_net) (cv_1:Int) (cv_2:Int) {p:Option Addr} {c:Nat} {p_1:Option Addr} {c_1:Nat} {p_2:Option Addr} {c_2:Nat} {bm:Option Nat} {bb:Nat} {bb_1:Nat} {bb_2:Nat} (hs:SRc C_int D0 way p c) (hs_1:SRc C_LineLine D0 cv.LineNet.Lines p_1 c_1) (hs_2:SRc C_LineLoop D0 cv.LineNet.Loops p_2 c_2) (hm:MapB kl_154 (C_sl (C_sl C_int)) false D0 cv.ways bm) (hbv:w0.heap[bb]?=some (.cells ([iv cv.LineNet.Exchanges,.slice p_1 cv.LineNet.Lines.length c_1,iv cv.LineNet.Hops,.slice p_2 cv.LineNet.Loops.length c_2,.map bm,iv cv.left]).toArray 85 (0,0))) (hbv_1:w0.heap[bb_1]?=some (.cells ([iv cv_1]).toArray 3 (0,0))) (hbv_2:w0.heap[bb_2]?=some (.cells ([iv cv_2]).toArray 3 (0,0))) (out:Bool) (h:line_Can_1 way cv cv_1 cv_2=some out):Calls Tryz.prog 30 [.slice p way.length c,.pointer (some ⟨bb,0,none⟩),.pointer (some ⟨bb_1,0,none⟩),.pointer (some ⟨bb_2,0,none⟩)].toArray w0 (RetP D0 w0 (.bool out)):=by
 refine enter _ 21 Tryz.func30 rfl Tryz.ntmps30 rfl fun a hF=>?_
 replace hF:Frm 21 [] [(0,.slice p way.length c),(1,.pointer (some ⟨bb,0,none⟩)),(2,.pointer (some ⟨bb_1,0,none⟩)),(3,.pointer (some ⟨bb_2,0,none⟩))] a:=hF
 have hS:=St.start hD
 unfold line_Can_1 at h
 refine seq (region (step hF (Y.assign hF rfl) rfl fun a hF=>nT (seq (region (step hF (Y.loadNH sz_85 hF rfl (hS.old hbv) rfl rfl) rfl fun a hF=>step hF (Y.load1H sz_3 hF rfl (hS.old hbv_1) rfl) rfl fun a hF=>step hF (Y.move hF rfl) rfl fun a hF=>?_)))))
 obtain ⟨rv,hx,h⟩:=bind_some h
 refine O.callP (us:=[.agg #[iv cv.LineNet.Exchanges,.slice p_1 cv.LineNet.Lines.length c_1,iv cv.LineNet.Hops,.slice p_2 cv.LineNet.Loops.length c_2,.map bm,iv cv.left],iv cv_1,.slice p way.length c]) ca_28 hF hS (line_net_delay_ok hS.stab cv cv_1 way hs_1 hs_2 hm hs rv hx) rfl rfl fun a w hF hS=>step hF (Y.move hF rfl) rfl fun a hF=>step hF (Y.extract hF rfl rfl) rfl fun a hF=>step hF (Y.extract hF rfl rfl) rfl fun a hF=>O.alloc 4 zc_27 hF hS rfl fun b a w hF hS=>O.store (us:=[iv rv.1.Low,iv rv.1.High]) 4 sz_27 hF rfl rfl rfl rfl hS rfl rfl fun a w hF hS=>step hF (Y.assign hF rfl) rfl fun a hF=>nT (seq (region (step hF (Y.load1H sz_3 hF rfl (hS.old hbv_2) rfl) rfl fun a hF=>step hF (Y.fieldAddr fo_27_0 hF rfl) rfl fun a hF=>step hF (Y.load1L 4 sz_3 hF rfl hS rfl rfl) rfl fun a hF=>step hF (Y.fieldAddr fo_27_1 hF rfl) rfl fun a hF=>step hF (Y.load1L 4 sz_3 hF rfl hS rfl rfl) rfl fun a hF=>?_)))
 obtain ⟨rv_1,hx_1,h⟩:=bind_some h
 refine O.callP (us:=[iv cv_2,iv rv.1.Low,iv rv.1.High]) ca_19 hF hS (line_lies_ok hS.stab cv_2 rv.1.Low rv.1.High rv_1 hx_1) rfl rfl fun a w hF hS=>step hF (Y.assign hF rfl) rfl fun a hF=>nT (ret_ ?_)
 obtain rfl:=some_inj h
 exact leaveP Tryz.results30 hF hS (.cons (.tmp rfl) .nil) .nil rfl
noncomputable def slices_IndexFunc_____int___int__b1 (sv:(List (List Int))) (f:((List Int)→Option Bool)):(Int × Int)→Option ((Int × Int) ⊕ Int)
 | (v4_0,v8_0)=>
  cond (decide (v8_0 < (sv.length:Int)))
  ((idx sv v8_0).bind fun e=>
  (f e).bind fun rv=>
  cond rv
  (ext (some v8_0))
  (nxt (v4_0,wr (v8_0 + 1))))
  (ext (some (-1)))
noncomputable def slices_IndexFunc_____int___int_ (sv:(List (List Int))) (f:((List Int)→Option Bool)):Option Int:=
  loopU (slices_IndexFunc_____int___int__b1 sv f) (0,0)
theorem slices_IndexFunc_____int___int__ok {w0:World} {D0:Stab} (hD:D0.on w0) (sv:(List (List Int))) (f:((List Int)→Option Bool)) {p:Option Addr} {c:Nat} {fid:FuncId} {first:List Value} {cap:List Value} (hs:SRc (C_sl C_int) D0 sv p c) (hf:FnOk_91 w0 D0 fid first cap f) (out:Int) (h:slices_IndexFunc_____int___int_ sv f=some out):Calls Tryz.prog 56 [.slice p sv.length c,.func (.func fid) first.toArray cap.toArray].toArray w0 (RetP D0 w0 (iv out)):=by
 refine enter _ 19 Tryz.func56 rfl Tryz.ntmps56 rfl fun a hF=>?_
 replace hF:Frm 19 [] [(0,.slice p sv.length c),(1,.func (.func fid) first.toArray cap.toArray)] a:=hF
 have hS:=St.start hD
 unfold slices_IndexFunc_____int___int_ at h
 refine seq (region (step hF (Y.assign hF rfl) rfl fun a hF=>nT (seq (seq (region (step hF (Y.move hF rfl) rfl fun a hF=>step hF (Y.lenSl u_45 hF rfl) rfl fun a hF=>step hF (Y.move hF rfl) rfl fun a hF=>nT (block (loop_cut (body:=slices_IndexFunc_____int___int__b1 sv f) (out:=out) (fun s a w=>∃ (v4_0:Int) (v8_0:Int),∃ (Dv:Stab),s=(v4_0,v8_0)∧D0.le Dv∧Frm 19 [] [(0,.slice p sv.length c),(1,.func (.func fid) first.toArray cap.toArray),(4,iv v4_0),(7,iv (sv.length:Int)),(8,iv v8_0)] a∧St w0 D0 Dv [] w) (0,0) h ⟨0,0,D0,rfl,Stab.le.refl _,hF.weak (AF rfl),hS.weak trivial⟩ ?_))))))))
 rintro s a w xo ⟨v4_0,v8_0,Dv,rfl,hlev,hF,hS⟩ h hxo
 unfold slices_IndexFunc_____int___int__b1 at h
 dsimp only at h
 replace hs:=hs.mono hlev
 refine seq (region (step hF (Y.lss hF rfl rfl) rfl fun a hF=>nT (seq (cond_b hF rfl (fun hbv=>?_) (fun hbv=>?_)))))
 ·replace h:=cond_t h hbv
  refine skip_ (then_n (seq (block (seq (region (step hF (Y.move hF rfl) rfl fun a hF=>step hF (Y.assign hF rfl) rfl fun a hF=>nT (seq (region (step hF (Y.move hF rfl) rfl fun a hF=>step hF (Y.move hF rfl) rfl fun a hF=>step hF (Y.move hF rfl) rfl fun a hF=>?_)))))))))
  obtain ⟨e,hx,h⟩:=bind_some h
  obtain ⟨b,o,hE,hY⟩:=Y.indexS (P:=Tryz.prog) (C:=(C_sl C_int)) (xs:=sv) (T:=45) (x:=(.tmp 12)) (y:=(.tmp 13)) u_45 sz_30 hF rfl rfl (hs).1 hx
  obtain ⟨cc,hc,hcell⟩:=hE.open
  obtain ⟨p_1,c_1,rfl,hs_1⟩:=hc
  refine step hF (hY) rfl fun a hF=>step hF (Y.load1 sz_30 hF rfl (hcell _ hS.stab 0 _ rfl)) rfl fun a hF=>?_
  obtain ⟨rv,hx_1,h⟩:=bind_some h
  refine O.callVP (f:=fid) (first:=first) (cap:=cap) (us:=[.slice p_1 e.length c_1]) hf.1 hF hS rfl rfl (hf.2 _ _ hS.below hS.le hS.stab e p_1 c_1 hs_1 rv hx_1) rfl fun a w hF hS=>nT (cond_b hF rfl (fun hbv_1=>?_) (fun hbv_1=>?_))
  ·replace h:=cond_t h hbv_1
   refine seq (region (step hF (Y.move hF rfl) rfl fun a hF=>step hF (Y.assign hF rfl) rfl fun a hF=>nT (ret_ (blk_r (then_r (then_r (blk_r (then_r ?_))))))))
   replace h:=ext_some h hxo
   obtain rfl:=some_inj h
   exact leaveP Tryz.results56 hF hS (.cons (.tmp rfl) .nil) .nil rfl
  replace h:=cond_f h hbv_1
  refine skip_ (blk_n (then_n (region (step hF (Y.add hF rfl rfl) rfl fun a hF=>step hF (Y.move hF rfl) rfl fun a hF=>nT (⟨_,nxt_some h,v4_0,(wr (v8_0 + 1)),Dv,rfl,hlev,hF.weak (AF rfl),hS.weak trivial⟩)))))
 replace h:=cond_f h hbv
 refine exit_ (then_x (then_x (blk_hit (then_n ?_))))
 replace h:=ext_some h hxo
 refine seq (region (step hF (Y.assign hF rfl) rfl fun a hF=>nT (ret_ ?_)))
 obtain rfl:=some_inj h
 exact leaveP Tryz.results56 hF hS (.cons (.tmp rfl) .nil) .nil rfl
noncomputable def slices_ContainsFunc_____int___int_ (sv:(List (List Int))) (f:((List Int)→Option Bool)):Option Bool:=
  (slices_IndexFunc_____int___int_ sv f).bind fun rv=>
  some (decide (rv ≥ 0))
theorem slices_ContainsFunc_____int___int__ok {w0:World} {D0:Stab} (hD:D0.on w0) (sv:(List (List Int))) (f:((List Int)→Option Bool)) {p:Option Addr} {c:Nat} {fid:FuncId} {first:List Value} {cap:List Value} (hs:SRc (C_sl C_int) D0 sv p c) (hf:FnOk_91 w0 D0 fid first cap f) (out:Bool) (h:slices_ContainsFunc_____int___int_ sv f=some out):Calls Tryz.prog 29 [.slice p sv.length c,.func (.func fid) first.toArray cap.toArray].toArray w0 (RetP D0 w0 (.bool out)):=by
 refine enter _ 9 Tryz.func29 rfl Tryz.ntmps29 rfl fun a hF=>?_
 replace hF:Frm 9 [] [(0,.slice p sv.length c),(1,.func (.func fid) first.toArray cap.toArray)] a:=hF
 have hS:=St.start hD
 unfold slices_ContainsFunc_____int___int_ at h
 refine seq (region (step hF (Y.assign hF rfl) rfl fun a hF=>nT (seq (region (step hF (Y.move hF rfl) rfl fun a hF=>step hF (Y.move hF rfl) rfl fun a hF=>?_)))))
 obtain ⟨rv,hx,h⟩:=bind_some h
 refine O.callP (us:=[.slice p sv.length c,.func (.func fid) first.toArray cap.toArray]) ca_56 hF hS (slices_IndexFunc_____int___int__ok hS.stab sv f hs (show FnOk_91 _ _ fid first cap f from ⟨hf.1,fun w D hb hle hon=>hf.2 w D (hS.below.trans (hb.mono hS.below.size)) (hS.le.trans hle) hon⟩) rv hx) rfl rfl fun a w hF hS=>step hF (Y.geq hF rfl rfl) rfl fun a hF=>step hF (Y.assign hF rfl) rfl fun a hF=>nT (ret_ ?_)
 obtain rfl:=some_inj h
 exact leaveP Tryz.results29 hF hS (.cons (.tmp rfl) .nil) .nil rfl
noncomputable def line_Can (xv:LineNet) (exchange:Int) (delay:Int):Option (Bool × Int):=
  (line_asked xv exchange).bind fun rv=>
  cond (rv.2.2 != 0)
  (some (false,rv.2.2))
  ((slices_ContainsFunc_____int___int_ rv.2.1 (fun q_z=>line_Can_1 q_z rv.1 exchange delay)).bind fun rv_1=>
  some (rv_1,0))
theorem line_Can_ok {w0:World} {D0:Stab} (hD:D0.on w0) (xv:LineNet) (exchange:Int) (delay:Int) {p:Option Addr} {c:Nat} {p_1:Option Addr} {c_1:Nat} (hs:SRc C_LineLine D0 xv.Lines p c) (hs_1:SRc C_LineLoop D0 xv.Loops p_1 c_1) (hG:Glob D0) (out:(Bool × Int)) (h:line_Can xv exchange delay=some out):Calls Tryz.prog 14 [.agg #[iv xv.Exchanges,.slice p xv.Lines.length c,iv xv.Hops,.slice p_1 xv.Loops.length c_1],iv exchange,iv delay].toArray w0 (RetP D0 w0 (.tuple #[.bool out.1,iv out.2])):=by
 refine enter _ 24 Tryz.func14 rfl Tryz.ntmps14 rfl fun a hF=>?_
 replace hF:Frm 24 [] [(0,.agg #[iv xv.Exchanges,.slice p xv.Lines.length c,iv xv.Hops,.slice p_1 xv.Loops.length c_1]),(1,iv exchange),(2,iv delay)] a:=hF
 have hS:=St.start hD
 unfold line_Can at h
 refine seq (region (O.box (cs:=[iv xv.Exchanges,.slice p xv.Lines.length c,iv xv.Hops,.slice p_1 xv.Loops.length c_1]) 1 hF rfl rfl hS rfl fun b a w hF hS=>O.box (cs:=[iv exchange]) 2 hF rfl rfl hS rfl fun b_1 a w hF hS=>O.box (cs:=[iv delay]) 3 hF rfl rfl hS rfl fun b_2 a w hF hS=>step hF (Y.assign hF rfl) rfl fun a hF=>step hF (Y.assign hF rfl) rfl fun a hF=>nT (seq (region (step hF (Y.loadNL 1 sz_25 hF rfl hS rfl rfl rfl) rfl fun a hF=>step hF (Y.load1L 2 sz_3 hF rfl hS rfl rfl) rfl fun a hF=>?_)))))
 obtain ⟨rv,hx,h⟩:=bind_some h
 refine O.callS (us:=[.agg #[iv xv.Exchanges,.slice p xv.Lines.length c,iv xv.Hops,.slice p_1 xv.Loops.length c_1],iv exchange]) ca_27 hF hS (line_asked_ok hS.stab xv exchange hs hs_1 hG rv hx) rfl rfl fun v Dv a w hR hlev hF hS=>?_
 obtain ⟨p_2,c_2,p_3,c_3,bm,p_4,c_4,rfl,hs_2,hs_3,hm,hs_4⟩:=hR
 refine step hF (Y.move hF rfl) rfl fun a hF=>step hF (Y.extract hF rfl rfl) rfl fun a hF=>step hF (Y.extract hF rfl rfl) rfl fun a hF=>step hF (Y.extract hF rfl rfl) rfl fun a hF=>O.alloc 4 zc_85 hF hS rfl fun b_3 a w hF hS=>O.store (us:=[iv rv.1.LineNet.Exchanges,.slice p_2 rv.1.LineNet.Lines.length c_2,iv rv.1.LineNet.Hops,.slice p_3 rv.1.LineNet.Loops.length c_3,.map bm,iv rv.1.left]) 4 sz_85 hF rfl rfl rfl rfl hS rfl rfl fun a w hF hS=>step hF (Y.assign hF rfl) rfl fun a hF=>step hF (Y.assign hF rfl) rfl fun a hF=>nT (seq (seq (region (step hF (Y.move hF rfl) rfl fun a hF=>step hF (Y.neq hF rfl rfl) rfl fun a hF=>nT (cond_b hF rfl (fun hbv=>?_) (fun hbv=>?_))))))
 ·replace h:=cond_t h hbv
  refine seq (region (step hF (Y.move hF rfl) rfl fun a hF=>step hF (Y.assign hF rfl) rfl fun a hF=>step hF (Y.assign hF rfl) rfl fun a hF=>nT (ret_ (then_r ?_))))
  obtain rfl:=some_inj h
  exact leaveP Tryz.results14 hF hS (.cons (.tmp rfl) (.cons (.tmp rfl) .nil)) .nil rfl
 replace h:=cond_f h hbv
 refine skip_ (then_n (seq (region (step hF (Y.move hF rfl) rfl fun a hF=>step hF (Y.makeFunc (first:=[]) (cap:=[(.tmp 8),(.tmp 4),(.tmp 5)]) (fs:=[]) (cs:=[.pointer (some ⟨b_3,0,none⟩),.pointer (some ⟨b_1,0,none⟩),.pointer (some ⟨b_2,0,none⟩)]) hF rfl rfl) rfl fun a hF=>?_))))
 obtain ⟨rv_1,hx_1,h⟩:=bind_some h
 refine O.callP (us:=[.slice p_4 rv.2.1.length c_4,.func (.func 30) #[] #[.pointer (some ⟨b_3,0,none⟩),.pointer (some ⟨b_1,0,none⟩),.pointer (some ⟨b_2,0,none⟩)]]) ca_29 hF hS (slices_ContainsFunc_____int___int__ok hS.stab rv.2.1 (fun q_z=>line_Can_1 q_z rv.1 exchange delay) hs_4 (show FnOk_91 _ _ 30 [] [.pointer (some ⟨b_3,0,none⟩),.pointer (some ⟨b_1,0,none⟩),.pointer (some ⟨b_2,0,none⟩)] (fun q_z=>line_Can_1 q_z rv.1 exchange delay) from ⟨ca_30,fun w D hb hle hon q_z q_p q_c q_hs r h=>line_Can_1_ok hon q_z rv.1 exchange delay q_hs (hs_2.mono hle) (hs_3.mono hle) (hm.mono hle) (keep hb (hS.each 4 _ rfl)) (keep hb (hS.each 2 _ rfl)) (keep hb (hS.each 3 _ rfl)) r h⟩) rv_1 hx_1) rfl rfl fun a w hF hS=>step hF (Y.assign hF rfl) rfl fun a hF=>step hF (Y.assign hF rfl) rfl fun a hF=>nT (ret_ ?_)
 obtain rfl:=some_inj h
 exact leaveP Tryz.results14 hF hS (.cons (.tmp rfl) (.cons (.tmp rfl) .nil)) .nil rfl
noncomputable def line_Correct (xv:LineNet) (exchange:Int):Option (Int × Int × Int):=
  (line_Delay xv exchange).bind fun rv=>
  cond (rv.2 != 0)
  (some (0,0,rv.2))
  (some (wr (rv.1.High - (wr (Int.tdiv (wr ((wr (rv.1.High - rv.1.Low)) + 1)) 2))),wr (Int.tdiv (wr ((wr (rv.1.High - rv.1.Low)) + 1)) 2),0))
theorem line_Correct_ok {w0:World} {D0:Stab} (hD:D0.on w0) (xv:LineNet) (exchange:Int) {p:Option Addr} {c:Nat} {p_1:Option Addr} {c_1:Nat} (hs:SRc C_LineLine D0 xv.Lines p c) (hs_1:SRc C_LineLoop D0 xv.Loops p_1 c_1) (hG:Glob D0) (out:(Int × Int × Int)) (h:line_Correct xv exchange=some out):Calls Tryz.prog 24 [.agg #[iv xv.Exchanges,.slice p xv.Lines.length c,iv xv.Hops,.slice p_1 xv.Loops.length c_1],iv exchange].toArray w0 (RetP D0 w0 (.tuple #[iv out.1,iv out.2.1,iv out.2.2])):=by
 refine enter _ 29 Tryz.func24 rfl Tryz.ntmps24 rfl fun a hF=>?_
 replace hF:Frm 29 [] [(0,.agg #[iv xv.Exchanges,.slice p xv.Lines.length c,iv xv.Hops,.slice p_1 xv.Loops.length c_1]),(1,iv exchange)] a:=hF
 have hS:=St.start hD
 unfold line_Correct at h
 refine seq (region (O.box (cs:=[iv xv.Exchanges,.slice p xv.Lines.length c,iv xv.Hops,.slice p_1 xv.Loops.length c_1]) 1 hF rfl rfl hS rfl fun b a w hF hS=>step hF (Y.assign hF rfl) rfl fun a hF=>step hF (Y.assign hF rfl) rfl fun a hF=>step hF (Y.assign hF rfl) rfl fun a hF=>nT (seq (region (step hF (Y.loadNL 1 sz_25 hF rfl hS rfl rfl rfl) rfl fun a hF=>step hF (Y.move hF rfl) rfl fun a hF=>?_)))))
 obtain ⟨rv,hx,h⟩:=bind_some h
 refine O.callP (us:=[.agg #[iv xv.Exchanges,.slice p xv.Lines.length c,iv xv.Hops,.slice p_1 xv.Loops.length c_1],iv exchange]) ca_10 hF hS (line_Delay_ok hS.stab xv exchange hs hs_1 hG rv hx) rfl rfl fun a w hF hS=>step hF (Y.move hF rfl) rfl fun a hF=>step hF (Y.extract hF rfl rfl) rfl fun a hF=>step hF (Y.extract hF rfl rfl) rfl fun a hF=>O.alloc 2 zc_27 hF hS rfl fun b_1 a w hF hS=>O.store (us:=[iv rv.1.Low,iv rv.1.High]) 2 sz_27 hF rfl rfl rfl rfl hS rfl rfl fun a w hF hS=>step hF (Y.assign hF rfl) rfl fun a hF=>nT (seq (seq (region (step hF (Y.move hF rfl) rfl fun a hF=>step hF (Y.neq hF rfl rfl) rfl fun a hF=>nT (cond_b hF rfl (fun hbv=>?_) (fun hbv=>?_))))))
 ·replace h:=cond_t h hbv
  refine seq (region (step hF (Y.move hF rfl) rfl fun a hF=>step hF (Y.assign hF rfl) rfl fun a hF=>step hF (Y.assign hF rfl) rfl fun a hF=>step hF (Y.assign hF rfl) rfl fun a hF=>nT (ret_ (then_r ?_))))
  obtain rfl:=some_inj h
  exact leaveP Tryz.results24 hF hS (.cons (.tmp rfl) (.cons (.tmp rfl) (.cons (.tmp rfl) .nil))) .nil rfl
 replace h:=cond_f h hbv
 refine skip_ (then_n (seq (region (step hF (Y.fieldAddr fo_27_1 hF rfl) rfl fun a hF=>step hF (Y.load1L 2 sz_3 hF rfl hS rfl rfl) rfl fun a hF=>step hF (Y.fieldAddr fo_27_0 hF rfl) rfl fun a hF=>step hF (Y.load1L 2 sz_3 hF rfl hS rfl rfl) rfl fun a hF=>step hF (Y.sub hF rfl rfl) rfl fun a hF=>step hF (Y.add hF rfl rfl) rfl fun a hF=>step hF (Y.quo hF rfl rfl (by decide)) rfl fun a hF=>step hF (Y.assign hF rfl) rfl fun a hF=>nT (seq (region (step hF (Y.fieldAddr fo_27_1 hF rfl) rfl fun a hF=>step hF (Y.load1L 2 sz_3 hF rfl hS rfl rfl) rfl fun a hF=>step hF (Y.move hF rfl) rfl fun a hF=>step hF (Y.sub hF rfl rfl) rfl fun a hF=>step hF (Y.move hF rfl) rfl fun a hF=>step hF (Y.assign hF rfl) rfl fun a hF=>step hF (Y.assign hF rfl) rfl fun a hF=>step hF (Y.assign hF rfl) rfl fun a hF=>nT (ret_ ?_))))))))
 obtain rfl:=some_inj h
 exact leaveP Tryz.results24 hF hS (.cons (.tmp rfl) (.cons (.tmp rfl) (.cons (.tmp rfl) .nil))) .nil rfl
end Go.Proofs.YtgdfljiliflhfaaGreatDoor.Rt
