/- Walks of the functions of this seat: what each Go function comes to, as a Lean function, and the proof. Part WB2. Under no conditions. -/
import Derived.Test.YtgdfljiliflhfaaGreatDoorC3WB1
set_option linter.unusedVariables false
set_option linter.unusedSimpArgs false
set_option maxRecDepth 100000
set_option maxHeartbeats 4000000
namespace Go.Proofs.YtgdfljiliflhfaaGreatDoor.Rt
open Go Go.RowKit
noncomputable def beat_IsTruth_b3 (offsets:(List (List Int))) (v44_0:Int) (rv_4:(List beat_bound)):(Bool × Int × Int)→Option ((Bool × Int × Int) ⊕ ((Bool × Int × Int) ⊕ (Bool × Int)))
 | (v4_2,v5_2,v51_0)=>
  cond (decide (v51_0 < (rv_4.length:Int)))
  ((idx rv_4 v51_0).bind fun e_1=>
  (beat_IsTruth_3 e_1.of_ offsets).bind fun rv_5=>
  (beat_IsTruth_3 e_1.over offsets).bind fun rv_6=>
  cond (decide ((wr (rv_5 - rv_6)) > e_1.by_))
  (ext (ext (some (false,0))))
  (nxt (v4_2,v5_2,wr (v51_0 + 1))))
  (ext (nxt (v4_2,v5_2,wr (v44_0 + 1))))
noncomputable def beat_IsTruth_b2 (offsets:(List (List Int))) (rv_3:beat_cellar):(Bool × Int × Int)→Option ((Bool × Int × Int) ⊕ (Bool × Int))
 | (v4_1,v5_1,v44_0)=>
  cond (decide (v44_0 < 3))
  (if (0:Int)≤v44_0∧v44_0 < ((3:Nat):Int) then
  (tabf_0 v44_0 rv_3).bind fun rv_4=>
  loopU (beat_IsTruth_b3 offsets v44_0 rv_4) (v4_1,v5_1,0)
  else none)
  (ext (some (true,0)))
noncomputable def beat_IsTruth_b1 (xv:BeatCellar) (offsets:(List (List Int))):(Bool × Int × Int)→Option ((Bool × Int × Int) ⊕ (Bool × Int))
 | (v4_0,v5_0,v33_0)=>
  cond (decide (v33_0 < (offsets.length:Int)))
  ((idx offsets v33_0).bind fun e=>
  (slices_ContainsFunc___int_int_ e (fun q_z=>beat_IsTruth_2 q_z)).bind fun rv_2=>
  cond rv_2
  (ext (some (false,0)))
  (nxt (v4_0,v5_0,wr (v33_0 + 1))))
  (ext ((beat_opened xv 0).bind fun rv_3=>
  loopU (beat_IsTruth_b2 offsets rv_3) (v4_0,v5_0,0)))
noncomputable def beat_IsTruth (xv:BeatCellar) (offsets:(List (List Int))):Option (Bool × Int):=
  (beat_Check xv).bind fun rv=>
  cond (rv != 0)
  (some (false,rv))
  ((cond ((offsets.length:Int) != (xv.Rates.length:Int)) (some true) ((slices_ContainsFunc_____int___int_ offsets (fun q_z=>beat_IsTruth_1 q_z xv)).bind fun rv_1=>
  some rv_1)).bind fun t=>
  cond t
  (some (false,0))
  (loopU (beat_IsTruth_b1 xv offsets) (false,0,0)))
theorem beat_IsTruth_ok {w0:World} {D0:Stab} (hD:D0.on w0) (xv:BeatCellar) (offsets:(List (List Int))) {p:Option Addr} {c:Nat} {p_1:Option Addr} {c_1:Nat} {p_2:Option Addr} {c_2:Nat} {p_3:Option Addr} {c_3:Nat} (hs:SRc C_Span D0 xv.Rates p c) (hs_1:SRc C_BeatOpen D0 xv.Opens p_1 c_1) (hs_2:SRc C_BeatPair D0 xv.Pairs p_2 c_2) (hs_3:SRc (C_sl C_int) D0 offsets p_3 c_3) (hG:Glob D0) (out:(Bool × Int)) (h:beat_IsTruth xv offsets=some out):Calls Tryz.prog 15 [.agg #[iv xv.Hours,.slice p xv.Rates.length c,.slice p_1 xv.Opens.length c_1,.slice p_2 xv.Pairs.length c_2],.slice p_3 offsets.length c_3].toArray w0 (RetP D0 w0 (.tuple #[.bool out.1,iv out.2])):=by
 refine enter _ 69 Tryz.func15 rfl Tryz.ntmps15 rfl fun a hF=>?_
 replace hF:Frm 69 [] [(0,.agg #[iv xv.Hours,.slice p xv.Rates.length c,.slice p_1 xv.Opens.length c_1,.slice p_2 xv.Pairs.length c_2]),(1,.slice p_3 offsets.length c_3)] a:=hF
 have hS:=St.start hD
 unfold beat_IsTruth at h
 refine seq (region (O.box (cs:=[iv xv.Hours,.slice p xv.Rates.length c,.slice p_1 xv.Opens.length c_1,.slice p_2 xv.Pairs.length c_2]) 1 hF rfl rfl hS rfl fun b a w hF hS=>O.box (cs:=[.slice p_3 offsets.length c_3]) 2 hF rfl rfl hS rfl fun b_1 a w hF hS=>step hF (Y.assign hF rfl) rfl fun a hF=>step hF (Y.assign hF rfl) rfl fun a hF=>nT (seq (seq (region (step hF (Y.loadNL 1 sz_35 hF rfl hS rfl rfl rfl) rfl fun a hF=>?_))))))
 obtain ⟨rv,hx,h⟩:=bind_some h
 refine O.callP (us:=[.agg #[iv xv.Hours,.slice p xv.Rates.length c,.slice p_1 xv.Opens.length c_1,.slice p_2 xv.Pairs.length c_2]]) ca_5 hF hS (beat_Check_ok hS.stab xv hs hs_1 hs_2 rv hx) rfl rfl fun a w hF hS=>step hF (Y.assign hF rfl) rfl fun a hF=>nT (seq (region (step hF (Y.move hF rfl) rfl fun a hF=>step hF (Y.neq hF rfl rfl) rfl fun a hF=>nT (cond_b hF rfl (fun hbv=>?_) (fun hbv=>?_)))))
 ·replace h:=cond_t h hbv
  refine seq (region (step hF (Y.move hF rfl) rfl fun a hF=>step hF (Y.assign hF rfl) rfl fun a hF=>step hF (Y.assign hF rfl) rfl fun a hF=>nT (ret_ (then_r ?_))))
  obtain rfl:=some_inj h
  exact leaveP Tryz.results15 hF hS (.cons (.tmp rfl) (.cons (.tmp rfl) .nil)) .nil rfl
 replace h:=cond_f h hbv
 refine skip_ (then_n (seq (seq (region (step hF (Y.load1L 2 sz_45 hF rfl hS rfl rfl) rfl fun a hF=>step hF (Y.lenSl u_45 hF rfl) rfl fun a hF=>step hF (Y.fieldAddr fo_35_1 hF rfl) rfl fun a hF=>step hF (Y.load1L 1 sz_31 hF rfl hS rfl rfl) rfl fun a hF=>step hF (Y.lenSl u_31 hF rfl) rfl fun a hF=>step hF (Y.neq hF rfl rfl) rfl fun a hF=>step hF (Y.move hF rfl) rfl fun a hF=>?_)))))
 obtain ⟨t,ht,h⟩:=bind_some h
 refine join (N:=69) (rs:=[]) (w0:=w0) (D0:=D0) 4 (us:=[(2,.pointer (some ⟨b,0,none⟩)),(3,.pointer (some ⟨b_1,0,none⟩)),(4,.bool false),(5,iv 0),(30,.bool t)]) (ms:=[(1,.cells b [iv xv.Hours,.slice p xv.Rates.length c,.slice p_1 xv.Opens.length c_1,.slice p_2 xv.Pairs.length c_2] 35),(2,.cells b_1 [.slice p_3 offsets.length c_3] 45)]) (D':=D0) ?_ ?_
 ·rcases bcases ((offsets.length:Int) != (xv.Rates.length:Int)) with hbv_1 | hbv_1
  ·skip
   replace h:=cond_t ht hbv_1
   refine guard_off hF rfl rfl hbv_1 rfl fun a hF=>guard_off hF rfl rfl hbv_1 rfl fun a hF=>guard_off hF rfl rfl hbv_1 rfl fun a hF=>step hF (Y.pick_t hF rfl hbv_1 rfl) rfl fun a hF=>?_
   obtain rfl:=some_inj h
   exact nT ⟨hF.weak (AF rfl),hS.weak ⟨rfl,rfl,trivial⟩⟩
  replace h:=cond_f ht hbv_1
  refine guard_on hF rfl rfl hbv_1 (step hF (Y.load1L 2 sz_45 hF rfl hS rfl rfl) rfl fun a hF=>guard_on hF rfl rfl hbv_1 (step hF (Y.makeFunc (first:=[]) (cap:=[(.tmp 2)]) (fs:=[]) (cs:=[.pointer (some ⟨b,0,none⟩)]) hF rfl rfl) rfl fun a hF=>guard_on hF rfl rfl hbv_1 ?_))
  obtain ⟨rv_1,hx_1,h⟩:=bind_some h
  refine O.callP (us:=[.slice p_3 offsets.length c_3,.func (.func 31) #[] #[.pointer (some ⟨b,0,none⟩)]]) ca_29 hF hS (slices_ContainsFunc_____int___int__ok hS.stab offsets (fun q_z=>beat_IsTruth_1 q_z xv) hs_3 (show FnOk_91 _ _ 31 [] [.pointer (some ⟨b,0,none⟩)] (fun q_z=>beat_IsTruth_1 q_z xv) from ⟨ca_31,fun w D hb hle hon q_z q_p q_c q_hs r h=>beat_IsTruth_1_ok hon q_z xv q_hs (hs.mono hle) (hs_1.mono hle) (hs_2.mono hle) (keep hb (hS.each 1 _ rfl)) r h⟩) rv_1 hx_1) rfl rfl fun a w hF hS=>step hF (Y.pick_f hF rfl hbv_1 rfl) rfl fun a hF=>?_
  obtain rfl:=some_inj h
  exact nT ⟨hF.weak (AF rfl),hS.weak ⟨rfl,rfl,trivial⟩⟩
 intro a w hF hS
 refine nT (cond_b hF rfl (fun hbv_2=>?_) (fun hbv_2=>?_))
 ·replace h:=cond_t h hbv_2
  refine seq (region (step hF (Y.assign hF rfl) rfl fun a hF=>step hF (Y.assign hF rfl) rfl fun a hF=>nT (ret_ (then_r ?_))))
  obtain rfl:=some_inj h
  exact leaveP Tryz.results15 hF hS (.cons (.tmp rfl) (.cons (.tmp rfl) .nil)) .nil rfl
 replace h:=cond_f h hbv_2
 refine skip_ (then_n (seq (seq (region (step hF (Y.load1L 2 sz_45 hF rfl hS rfl rfl) rfl fun a hF=>step hF (Y.lenSl u_45 hF rfl) rfl fun a hF=>step hF (Y.move hF rfl) rfl fun a hF=>nT (block (loop_cut (body:=beat_IsTruth_b1 xv offsets) (out:=out) (fun s a w=>∃ (v4_0:Bool) (v5_0:Int) (v33_0:Int),∃ (Dv:Stab),s=(v4_0,v5_0,v33_0)∧D0.le Dv∧Frm 69 [] [(2,.pointer (some ⟨b,0,none⟩)),(3,.pointer (some ⟨b_1,0,none⟩)),(4,.bool v4_0),(5,iv v5_0),(31,.slice p_3 offsets.length c_3),(32,iv (offsets.length:Int)),(33,iv v33_0)] a∧St w0 D0 Dv [(1,.cells b [iv xv.Hours,.slice p xv.Rates.length c,.slice p_1 xv.Opens.length c_1,.slice p_2 xv.Pairs.length c_2] 35),(2,.cells b_1 [.slice p_3 offsets.length c_3] 45)] w) (false,0,0) h ⟨false,0,0,D0,rfl,Stab.le.refl _,hF.weak (AF rfl),hS.weak ⟨rfl,rfl,trivial⟩⟩ ?_)))))))
 rintro s a w xo ⟨v4_0,v5_0,v33_0,Dv,rfl,hlev,hF,hS⟩ h hxo
 unfold beat_IsTruth_b1 at h
 dsimp only at h
 replace hs:=hs.mono hlev
 replace hs_1:=hs_1.mono hlev
 replace hs_2:=hs_2.mono hlev
 replace hs_3:=hs_3.mono hlev
 replace hG:=hG.mono hlev
 refine seq (region (step hF (Y.lss hF rfl rfl) rfl fun a hF=>nT (seq (cond_b hF rfl (fun hbv_3=>?_) (fun hbv_3=>?_)))))
 ·replace h:=cond_t h hbv_3
  refine skip_ (then_n (seq (block (seq (region ?_)))))
  obtain ⟨e,hx_2,h⟩:=bind_some h
  obtain ⟨b_2,o,hE,hY⟩:=Y.indexS (P:=Tryz.prog) (C:=(C_sl C_int)) (xs:=offsets) (T:=45) (x:=(.tmp 31)) (y:=(.tmp 33)) u_45 sz_30 hF rfl rfl (hs_3).1 hx_2
  obtain ⟨cc,hc,hcell⟩:=hE.open
  obtain ⟨p_4,c_4,rfl,hs_4⟩:=hc
  refine step hF (hY) rfl fun a hF=>step hF (Y.load1 sz_30 hF rfl (hcell _ hS.stab 0 _ rfl)) rfl fun a hF=>step hF (Y.assign hF rfl) rfl fun a hF=>nT (seq (region (step hF (Y.move hF rfl) rfl fun a hF=>?_)))
  obtain ⟨rv_2,hx_3,h⟩:=bind_some h
  refine O.callP (us:=[.slice p_4 e.length c_4,.func (.func 33) #[] #[]]) ca_32 hF hS (slices_ContainsFunc___int_int__ok hS.stab e (fun q_z=>beat_IsTruth_2 q_z) hs_4 (show FnOk_93 _ _ 33 [] [] (fun q_z=>beat_IsTruth_2 q_z) from ⟨ca_33,fun w D hb hle hon q_z r h=>beat_IsTruth_2_ok hon q_z r h⟩) rv_2 hx_3) rfl rfl fun a w hF hS=>nT (cond_b hF rfl (fun hbv_4=>?_) (fun hbv_4=>?_))
  ·replace h:=cond_t h hbv_4
   refine seq (region (step hF (Y.assign hF rfl) rfl fun a hF=>step hF (Y.assign hF rfl) rfl fun a hF=>nT (ret_ (blk_r (then_r (then_r (blk_r (then_r ?_))))))))
   replace h:=ext_some h hxo
   obtain rfl:=some_inj h
   exact leaveP Tryz.results15 hF hS (.cons (.tmp rfl) (.cons (.tmp rfl) .nil)) .nil rfl
  replace h:=cond_f h hbv_4
  refine skip_ (blk_n (then_n (region (step hF (Y.add hF rfl rfl) rfl fun a hF=>step hF (Y.move hF rfl) rfl fun a hF=>nT (⟨_,nxt_some h,v4_0,v5_0,(wr (v33_0 + 1)),Dv,rfl,hlev,hF.weak (AF rfl),hS.weak ⟨rfl,rfl,trivial⟩⟩)))))
 replace h:=cond_f h hbv_3
 refine exit_ (then_x (then_x (blk_hit (then_n ?_))))
 replace h:=ext_some h hxo
 refine seq (region (step hF (Y.loadNL 1 sz_35 hF rfl hS rfl rfl rfl) rfl fun a hF=>?_))
 obtain ⟨rv_3,hx_4,h⟩:=bind_some h
 refine O.callS (us:=[.agg #[iv xv.Hours,.slice p xv.Rates.length c,.slice p_1 xv.Opens.length c_1,.slice p_2 xv.Pairs.length c_2],iv 0]) ca_34 hF hS (beat_opened_ok hS.stab xv 0 hs hs_1 hs_2 rv_3 hx_4) rfl rfl fun v Dv_1 a w hR hlev_1 hF hS=>?_
 replace hs_3:=hs_3.mono hlev_1
 replace hG:=hG.mono hlev_1
 obtain ⟨p_5,c_5,p_6,c_6,p_7,c_7,bm,rfl,hs_5,hs_6,hs_7,hm⟩:=hR
 refine O.alloc 3 zc_96 hF hS rfl fun b_3 a w hF hS=>O.store (us:=[iv rv_3.BeatCellar.Hours,.slice p_5 rv_3.BeatCellar.Rates.length c_5,.slice p_6 rv_3.BeatCellar.Opens.length c_6,.slice p_7 rv_3.BeatCellar.Pairs.length c_7,iv rv_3.left,.map bm]) 3 sz_96 hF rfl rfl rfl rfl hS rfl rfl fun a w hF hS=>nT (seq (region (step hF (Y.makeFunc (first:=[]) (cap:=[(.tmp 3)]) (fs:=[]) (cs:=[.pointer (some ⟨b_1,0,none⟩)]) hF rfl rfl) rfl fun a hF=>step hF (Y.assign hF rfl) rfl fun a hF=>nT (seq (seq (region ?_))))))
 obtain ⟨E,fr,hGb⟩:=hG.1
 refine step hF (Y.loadNH (cs:=tab_0) sz_103 hF rfl (hS.stab _ _ hGb) rfl rfl) rfl fun a hF=>step hF (Y.move hF rfl) rfl fun a hF=>nT (block (loop_cut (body:=beat_IsTruth_b2 offsets rv_3) (out:=out) (fun s a w=>∃ (v4_1:Bool) (v5_1:Int) (v44_0:Int),∃ (Dv_2:Stab),s=(v4_1,v5_1,v44_0)∧Dv_1.le Dv_2∧Frm 69 [] [(4,.bool v4_1),(5,iv v5_1),(9,.pointer (some ⟨b_3,0,none⟩)),(10,.func (.func 35) #[] #[.pointer (some ⟨b_1,0,none⟩)]),(43,.agg tab_0.toArray),(44,iv v44_0)] a∧St w0 D0 Dv_2 [(1,.cells b [iv xv.Hours,.slice p xv.Rates.length c,.slice p_1 xv.Opens.length c_1,.slice p_2 xv.Pairs.length c_2] 35),(2,.cells b_1 [.slice p_3 offsets.length c_3] 45),(3,.cells b_3 [iv rv_3.BeatCellar.Hours,.slice p_5 rv_3.BeatCellar.Rates.length c_5,.slice p_6 rv_3.BeatCellar.Opens.length c_6,.slice p_7 rv_3.BeatCellar.Pairs.length c_7,iv rv_3.left,.map bm] 96)] w) (v4_0,v5_0,0) h ⟨v4_0,v5_0,0,Dv_1,rfl,Stab.le.refl _,hF.weak (AF rfl),hS.weak (AL rfl)⟩ ?_))
 rintro s a w xo_1 ⟨v4_1,v5_1,v44_0,Dv_2,rfl,hlev_2,hF,hS⟩ h hxo_1
 unfold beat_IsTruth_b2 at h
 dsimp only at h
 replace hs_3:=hs_3.mono hlev_2
 replace hs_5:=hs_5.mono hlev_2
 replace hs_6:=hs_6.mono hlev_2
 replace hs_7:=hs_7.mono hlev_2
 replace hm:=hm.mono hlev_2
 refine seq (region (step hF (Y.lss hF rfl rfl) rfl fun a hF=>nT (seq (cond_b hF rfl (fun hbv_5=>?_) (fun hbv_5=>?_)))))
 ·replace h:=cond_t h hbv_5
  refine skip_ (then_n (seq (block (seq (region ?_)))))
  obtain ⟨hg,h⟩:=ite_some h
  refine step hF ((show Yields _ _ _ _ (tab_0.getD (Int.toNat v44_0) undef) from Y.indexG u_103 sz_102 rfl hg hF rfl rfl)) rfl fun a hF=>step hF (Y.assign hF rfl) rfl fun a hF=>nT (seq (region (step hF (Y.move hF rfl) rfl fun a hF=>step hF (Y.loadNL 3 sz_96 hF rfl hS rfl rfl rfl) rfl fun a hF=>?_)))
  obtain ⟨rv_4,hx_5,h⟩:=bind_some h
  obtain ⟨f,hfv,hfc,hcall⟩:=tab_0_ok hS.stab v44_0 hg rv_3 hs_5 hs_6 hs_7 hm rv_4 hx_5
  refine O.callVS (f:=f) (first:=[]) (cap:=[]) (us:=[.agg #[iv rv_3.BeatCellar.Hours,.slice p_5 rv_3.BeatCellar.Rates.length c_5,.slice p_6 rv_3.BeatCellar.Opens.length c_6,.slice p_7 rv_3.BeatCellar.Pairs.length c_7,iv rv_3.left,.map bm]]) hfc hF hS (congrArg some hfv) rfl hcall rfl fun v_1 Dv_3 a w hR_1 hlev_3 hF hS=>?_
  replace hs_3:=hs_3.mono hlev_3
  obtain ⟨p_8,c_8,rfl,hs_8⟩:=hR_1
  refine step hF (Y.lenSl u_104 hF rfl) rfl fun a hF=>step hF (Y.move hF rfl) rfl fun a hF=>nT (block (loop_cut (body:=beat_IsTruth_b3 offsets v44_0 rv_4) (out:=xo_1) (fun s a w=>∃ (v4_2:Bool) (v5_2:Int) (v51_0:Int),∃ (Dv_4:Stab),s=(v4_2,v5_2,v51_0)∧Dv_3.le Dv_4∧Frm 69 [] [(4,.bool v4_2),(5,iv v5_2),(9,.pointer (some ⟨b_3,0,none⟩)),(10,.func (.func 35) #[] #[.pointer (some ⟨b_1,0,none⟩)]),(43,.agg tab_0.toArray),(44,iv v44_0),(49,.slice p_8 rv_4.length c_8),(50,iv (rv_4.length:Int)),(51,iv v51_0)] a∧St w0 D0 Dv_4 [(1,.cells b [iv xv.Hours,.slice p xv.Rates.length c,.slice p_1 xv.Opens.length c_1,.slice p_2 xv.Pairs.length c_2] 35),(2,.cells b_1 [.slice p_3 offsets.length c_3] 45),(3,.cells b_3 [iv rv_3.BeatCellar.Hours,.slice p_5 rv_3.BeatCellar.Rates.length c_5,.slice p_6 rv_3.BeatCellar.Opens.length c_6,.slice p_7 rv_3.BeatCellar.Pairs.length c_7,iv rv_3.left,.map bm] 96)] w) (v4_1,v5_1,0) h ⟨v4_1,v5_1,0,Dv_3,rfl,Stab.le.refl _,hF.weak (AF rfl),hS.weak (AL rfl)⟩ ?_))
  rintro s a w xo_2 ⟨v4_2,v5_2,v51_0,Dv_4,rfl,hlev_4,hF,hS⟩ h hxo_2
  unfold beat_IsTruth_b3 at h
  dsimp only at h
  replace hs_3:=hs_3.mono hlev_4
  replace hs_8:=hs_8.mono hlev_4
  refine seq (region (step hF (Y.lss hF rfl rfl) rfl fun a hF=>nT (seq (cond_b hF rfl (fun hbv_6=>?_) (fun hbv_6=>?_)))))
  ·replace h:=cond_t h hbv_6
   refine skip_ (then_n (seq (block (seq (region ?_)))))
   obtain ⟨e_1,hx_6,h⟩:=bind_some h
   obtain ⟨b_4,o_1,hE_1,hY_1⟩:=Y.indexS (P:=Tryz.prog) (C:=C_beat_bound) (xs:=rv_4) (T:=104) (x:=(.tmp 49)) (y:=(.tmp 51)) u_104 sz_106 hF rfl rfl (hs_8).1 hx_6
   obtain ⟨cc_1,hc_1,hcell_1⟩:=hE_1.open
   obtain rfl:=C_beat_bound.open hc_1
   refine step hF (hY_1) rfl fun a hF=>step hF (Y.loadNE (o:=o_1) (k:=0) sz_106 hF rfl (hcell_1 _ hS.stab) rfl rfl) rfl fun a hF=>O.alloc 4 zc_106 hF hS rfl fun b_5 a w hF hS=>O.store (us:=[iv e_1.of_.clock,iv e_1.of_.hour,iv e_1.over.clock,iv e_1.over.hour,iv e_1.by_]) 4 sz_106 hF rfl rfl rfl rfl hS rfl rfl fun a w hF hS=>nT (seq ?_)
   obtain ⟨rv_5,hx_7,h⟩:=bind_some h
   obtain ⟨rv_6,hx_8,h⟩:=bind_some h
   refine drawsV 11 (.flt 0 (.flt 1 (.flt 2 (.flt 4 (.flt 5 (.flt 6 (.flt 9 (.flt 10 (.alt 3 (.alt 7 (.flt 8 .done) .stop) .stop))))))))) mixed_ (by kernel_rfl) (fun w=>St w0 D0 Dv_4 [(1,.cells b [iv xv.Hours,.slice p xv.Rates.length c,.slice p_1 xv.Opens.length c_1,.slice p_2 xv.Pairs.length c_2] 35),(2,.cells b_1 [.slice p_3 offsets.length c_3] 45),(3,.cells b_3 [iv rv_3.BeatCellar.Hours,.slice p_5 rv_3.BeatCellar.Rates.length c_5,.slice p_6 rv_3.BeatCellar.Opens.length c_6,.slice p_7 rv_3.BeatCellar.Pairs.length c_7,iv rv_3.left,.map bm] 96),(4,.cells b_5 [iv e_1.of_.clock,iv e_1.of_.hour,iv e_1.over.clock,iv e_1.over.hour,iv e_1.by_] 106)] w) (fun a w=>Frm 69 [] [(4,.bool v4_2),(5,iv v5_2),(9,.pointer (some ⟨b_3,0,none⟩)),(10,.func (.func 35) #[] #[.pointer (some ⟨b_1,0,none⟩)]),(43,.agg tab_0.toArray),(44,iv v44_0),(49,.slice p_8 rv_4.length c_8),(50,iv (rv_4.length:Int)),(51,iv v51_0),(63,iv (wr (rv_5 - rv_6))),(65,iv e_1.by_)] a∧St w0 D0 Dv_4 [(1,.cells b [iv xv.Hours,.slice p xv.Rates.length c,.slice p_1 xv.Opens.length c_1,.slice p_2 xv.Pairs.length c_2] 35),(2,.cells b_1 [.slice p_3 offsets.length c_3] 45),(3,.cells b_3 [iv rv_3.BeatCellar.Hours,.slice p_5 rv_3.BeatCellar.Rates.length c_5,.slice p_6 rv_3.BeatCellar.Opens.length c_6,.slice p_7 rv_3.BeatCellar.Pairs.length c_7,iv rv_3.left,.map bm] 96),(4,.cells b_5 [iv e_1.of_.clock,iv e_1.of_.hour,iv e_1.over.clock,iv e_1.over.hour,iv e_1.by_] 106)] w) (hS.weak (ms:=[(1,.cells b [iv xv.Hours,.slice p xv.Rates.length c,.slice p_1 xv.Opens.length c_1,.slice p_2 xv.Pairs.length c_2] 35),(2,.cells b_1 [.slice p_3 offsets.length c_3] 45),(3,.cells b_3 [iv rv_3.BeatCellar.Hours,.slice p_5 rv_3.BeatCellar.Rates.length c_5,.slice p_6 rv_3.BeatCellar.Opens.length c_6,.slice p_7 rv_3.BeatCellar.Pairs.length c_7,iv rv_3.left,.map bm] 96),(4,.cells b_5 [iv e_1.of_.clock,iv e_1.of_.hour,iv e_1.over.clock,iv e_1.over.hour,iv e_1.by_] 106)]) (AL rfl)).drew (fun _ _ _ _ h=>h) ?_ ?_
   ·replace hS:=hS.drew
    have hle0:=hS.le
    refine stepV (i:=0) rfl hF (fun w hS=>Y.move hF rfl) rfl fun a hF=>stepV (i:=1) rfl hF (fun w hS=>Y.fieldAddr fo_106_0 hF rfl) rfl fun a hF=>stepV (i:=2) rfl hF (fun w hS=>Y.loadNL 4 sz_99 hF rfl hS rfl rfl rfl) rfl fun a hF=>stepV (i:=4) rfl hF (fun w hS=>Y.move hF rfl) rfl fun a hF=>stepV (i:=5) rfl hF (fun w hS=>Y.fieldAddr fo_106_1 hF rfl) rfl fun a hF=>stepV (i:=6) rfl hF (fun w hS=>Y.loadNL 4 sz_99 hF rfl hS rfl rfl rfl) rfl fun a hF=>stepV (i:=9) rfl hF (fun w hS=>Y.fieldAddr fo_106_2 hF rfl) rfl fun a hF=>stepV (i:=10) rfl hF (fun w hS=>Y.load1L 4 sz_3 hF rfl hS rfl rfl) rfl fun a hF=>oneV (i:=3) rfl ?_ trivial
    refine O.callVP (f:=35) (first:=[]) (cap:=[.pointer (some ⟨b_1,0,none⟩)]) (us:=[.agg #[iv e_1.of_.clock,iv e_1.of_.hour]]) ca_35 hF hS rfl rfl (beat_IsTruth_3_ok hS.stab e_1.of_ offsets hs_3 (hS.each 2 _ rfl) rv_5 hx_7) rfl fun a w hF hS=>nT ⟨hS.weak (AL rfl),?_⟩
    refine oneV (i:=7) rfl ?_ trivial
    refine O.callVP (f:=35) (first:=[]) (cap:=[.pointer (some ⟨b_1,0,none⟩)]) (us:=[.agg #[iv e_1.over.clock,iv e_1.over.hour]]) ca_35 hF hS rfl rfl (beat_IsTruth_3_ok hS.stab e_1.over offsets hs_3 (hS.each 2 _ rfl) rv_6 hx_8) rfl fun a w hF hS=>nT ⟨hS.weak (AL rfl),?_⟩
    refine stepV (i:=8) rfl hF (fun w hS=>Y.sub hF rfl rfl) rfl fun a hF=>toTailV ⟨hF.weak (AF rfl),hS.weak (AL rfl)⟩
   rintro a w ⟨hF,hS⟩
   refine step hF (Y.gtr hF rfl rfl) rfl fun a hF=>nT (cond_b hF rfl (fun hbv_7=>?_) (fun hbv_7=>?_))
   ·replace h:=cond_t h hbv_7
    refine seq (region (step hF (Y.assign hF rfl) rfl fun a hF=>step hF (Y.assign hF rfl) rfl fun a hF=>nT (ret_ (blk_r (then_r (then_r (blk_r (blk_r (then_r (then_r (blk_r (then_r ?_))))))))))))
    replace h:=ext_some h hxo_2
    replace h:=ext_some h hxo_1
    obtain rfl:=some_inj h
    exact leaveP Tryz.results15 hF hS (.cons (.tmp rfl) (.cons (.tmp rfl) .nil)) .nil rfl
   replace h:=cond_f h hbv_7
   refine skip_ (blk_n (then_n (region (step hF (Y.add hF rfl rfl) rfl fun a hF=>step hF (Y.move hF rfl) rfl fun a hF=>nT (⟨_,nxt_some h,v4_2,v5_2,(wr (v51_0 + 1)),Dv_4,rfl,hlev_4,hF.weak (AF rfl),hS.weak (AL rfl)⟩)))))
  replace h:=cond_f h hbv_6
  refine exit_ (then_x (then_x (blk_hit (blk_n (then_n ?_)))))
  replace h:=ext_some h hxo_2
  refine region (step hF (Y.add hF rfl rfl) rfl fun a hF=>step hF (Y.move hF rfl) rfl fun a hF=>nT (⟨_,nxt_some h,v4_2,v5_2,(wr (v44_0 + 1)),Dv_4,rfl,hlev_2.trans (hlev_3.trans hlev_4),hF.weak (AF rfl),hS.weak (AL rfl)⟩))
 replace h:=cond_f h hbv_5
 refine exit_ (then_x (then_x (blk_hit (then_n ?_))))
 replace h:=ext_some h hxo_1
 refine seq (region (step hF (Y.assign hF rfl) rfl fun a hF=>step hF (Y.assign hF rfl) rfl fun a hF=>nT (ret_ ?_)))
 obtain rfl:=some_inj h
 exact leaveP Tryz.results15 hF hS (.cons (.tmp rfl) (.cons (.tmp rfl) .nil)) .nil rfl
noncomputable def beat_Wrong_1_b2 (somev:(List Int)) (set:Int) (many:Int) (cv:BeatCellar) (self_:(List Int)→Int→Int→BeatCellar→Option ((List Int) × Bool)):((List Int) × Bool × Int)→Option (((List Int) × Bool × Int) ⊕ ((List Int) × Bool))
 | (v8_0,v9_0,k)=>
  cond (decide (k < (cv.Rates.length:Int)))
  (if somev.length + ([k]).length≤lim then
  if ¬ k < 0 then
  (self_ (somev ++ [k]) (bitsOp .or set (gshl 1 k)) many cv).bind fun rv_2=>
  cond rv_2.2
  (ext (some (rv_2.1,true)))
  (nxt (v8_0,v9_0,wr (k + 1)))
  else none
  else none)
  (ext (some (([]:List Int),false)))
noncomputable def beat_Wrong_1_k1 (somev:(List Int)) (set:Int) (many:Int) (cv:BeatCellar) (self_:(List Int)→Int→Int→BeatCellar→Option ((List Int) × Bool)) (fromv:Int):Option ((List Int) × Bool):=
  loopU (beat_Wrong_1_b2 somev set many cv self_) (([]:List Int),false,fromv)
noncomputable def beat_Wrong_1_step (self_:(List Int)→Int→Int→BeatCellar→Option ((List Int) × Bool)) (somev:(List Int)) (set:Int) (many:Int) (cv:BeatCellar):Option ((List Int) × Bool):=
  cond ((somev.length:Int) == many)
  ((beat_opened cv set).bind fun rv=>
  (beat_cellar_can rv).bind fun rv_1=>
  some (somev,rv_1))
  (cond (decide ((somev.length:Int) > 0))
  ((idx somev (wr ((somev.length:Int) - 1))).bind fun e=>
  beat_Wrong_1_k1 somev set many cv self_ (wr (e + 1)))
  (beat_Wrong_1_k1 somev set many cv self_ 0))
theorem beat_Wrong_1_step_ok {w0:World} {D0:Stab} (self_:(List Int)→Int→Int→BeatCellar→Option ((List Int) × Bool)) (hself:∀ {w0:World} {D0:Stab} (hD:D0.on w0) (somev:(List Int)) (set:Int) (many:Int) (cv:BeatCellar) {p:Option Addr} {c:Nat} {p_1:Option Addr} {c_1:Nat} {p_2:Option Addr} {c_2:Nat} {p_3:Option Addr} {c_3:Nat} {bb:Nat} {bb_1:Nat} (hs:SRc C_int D0 somev p c) (hs_1:SRc C_Span D0 cv.Rates p_1 c_1) (hs_2:SRc C_BeatOpen D0 cv.Opens p_2 c_2) (hs_3:SRc C_BeatPair D0 cv.Pairs p_3 c_3) (hbv:w0.heap[bb]?=some (.cells ([iv cv.Hours,.slice p_1 cv.Rates.length c_1,.slice p_2 cv.Opens.length c_2,.slice p_3 cv.Pairs.length c_3]).toArray 35 (0,0))) (hbv_1:w0.heap[bb_1]?=some (.cells ([.func (.func 37) #[] #[.pointer (some ⟨bb,0,none⟩),.pointer (some ⟨bb_1,0,none⟩)]]).toArray 107 (0,0))) (hG:Glob D0) (out:((List Int) × Bool)) (h:self_ somev set many cv=some out),Calls Tryz.prog 37 [.slice p somev.length c,iv set,iv many,.pointer (some ⟨bb,0,none⟩),.pointer (some ⟨bb_1,0,none⟩)].toArray w0 (RetS D0 w0 fun D v=>∃ p_14 c_14,v=.tuple #[.slice p_14 out.1.length c_14,.bool out.2]∧SRc C_int D out.1 p_14 c_14)) (hD:D0.on w0) (somev:(List Int)) (set:Int) (many:Int) (cv:BeatCellar) {p:Option Addr} {c:Nat} {p_1:Option Addr} {c_1:Nat} {p_2:Option Addr} {c_2:Nat} {p_3:Option Addr} {c_3:Nat} {bb:Nat} {bb_1:Nat} (hs:SRc C_int D0 somev p c) (hs_1:SRc C_Span D0 cv.Rates p_1 c_1) (hs_2:SRc C_BeatOpen D0 cv.Opens p_2 c_2) (hs_3:SRc C_BeatPair D0 cv.Pairs p_3 c_3) (hbv:w0.heap[bb]?=some (.cells ([iv cv.Hours,.slice p_1 cv.Rates.length c_1,.slice p_2 cv.Opens.length c_2,.slice p_3 cv.Pairs.length c_3]).toArray 35 (0,0))) (hbv_1:w0.heap[bb_1]?=some (.cells ([.func (.func 37) #[] #[.pointer (some ⟨bb,0,none⟩),.pointer (some ⟨bb_1,0,none⟩)]]).toArray 107 (0,0))) (hG:Glob D0) (out:((List Int) × Bool)) (h:beat_Wrong_1_step self_ somev set many cv=some out):Calls Tryz.prog 37 [.slice p somev.length c,iv set,iv many,.pointer (some ⟨bb,0,none⟩),.pointer (some ⟨bb_1,0,none⟩)].toArray w0 (RetS D0 w0 fun D v=>∃ p_14 c_14,v=.tuple #[.slice p_14 out.1.length c_14,.bool out.2]∧SRc C_int D out.1 p_14 c_14):=by
 refine enter _ 62 Tryz.func37 rfl Tryz.ntmps37 rfl fun a hF=>?_
 replace hF:Frm 62 [] [(0,.slice p somev.length c),(1,iv set),(2,iv many),(3,.pointer (some ⟨bb,0,none⟩)),(4,.pointer (some ⟨bb_1,0,none⟩))] a:=hF
 have hS:=St.start hD
 unfold beat_Wrong_1_step at h
 refine seq (region (step hF (Y.assign hF rfl) rfl fun a hF=>step hF (Y.assign hF rfl) rfl fun a hF=>nT (seq (seq (region (step hF (Y.move hF rfl) rfl fun a hF=>step hF (Y.lenSl u_30 hF rfl) rfl fun a hF=>step hF (Y.move hF rfl) rfl fun a hF=>step hF (Y.eql hF rfl rfl) rfl fun a hF=>nT (cond_b hF rfl (fun hbv_2=>?_) (fun hbv_2=>?_))))))))
 ·replace h:=cond_t h hbv_2
  refine seq (region (step hF (Y.move hF rfl) rfl fun a hF=>step hF (Y.loadNH sz_35 hF rfl (hS.old hbv) rfl rfl) rfl fun a hF=>step hF (Y.move hF rfl) rfl fun a hF=>?_))
  obtain ⟨rv,hx,h⟩:=bind_some h
  refine O.callS (us:=[.agg #[iv cv.Hours,.slice p_1 cv.Rates.length c_1,.slice p_2 cv.Opens.length c_2,.slice p_3 cv.Pairs.length c_3],iv set]) ca_34 hF hS (beat_opened_ok hS.stab cv set hs_1 hs_2 hs_3 rv hx) rfl rfl fun v Dv a w hR hlev hF hS=>?_
  replace hs:=hs.mono hlev
  replace hG:=hG.mono hlev
  obtain ⟨p_4,c_4,p_5,c_5,p_6,c_6,bm,rfl,hs_4,hs_5,hs_6,hm⟩:=hR
  obtain ⟨rv_1,hx_1,h⟩:=bind_some h
  refine O.callP (us:=[.agg #[iv rv.BeatCellar.Hours,.slice p_4 rv.BeatCellar.Rates.length c_4,.slice p_5 rv.BeatCellar.Opens.length c_5,.slice p_6 rv.BeatCellar.Pairs.length c_6,iv rv.left,.map bm]]) ca_38 hF hS (beat_cellar_can_ok hS.stab rv hs_4 hs_5 hs_6 hm hG rv_1 hx_1) rfl rfl fun a w hF hS=>step hF (Y.assign hF rfl) rfl fun a hF=>step hF (Y.assign hF rfl) rfl fun a hF=>nT (ret_ (then_r ?_))
  obtain rfl:=some_inj h
  exact leaveS Tryz.results37 hF hS (.cons (.tmp rfl) (.cons (.tmp rfl) .nil)) .nil ⟨_,_,rfl,hs⟩
 replace h:=cond_f h hbv_2
 refine skip_ (then_n (seq (region (step hF (Y.assign hF rfl) rfl fun a hF=>nT (seq_cut (fun a w=>∃ (fromv:Int),Frm 62 [] [(0,.slice p somev.length c),(1,iv set),(2,iv many),(3,.pointer (some ⟨bb,0,none⟩)),(4,.pointer (some ⟨bb_1,0,none⟩)),(8,.slice none 0 0),(9,.bool false),(10,iv fromv)] a∧St w0 D0 D0 [] w∧beat_Wrong_1_k1 somev set many cv self_ fromv=some out) ?_ ?_)))))
 ·skip
  refine seq (region (step hF (Y.move hF rfl) rfl fun a hF=>step hF (Y.lenSl u_30 hF rfl) rfl fun a hF=>step hF (Y.gtr hF rfl rfl) rfl fun a hF=>nT (cond_b hF rfl (fun hbv_5=>?_) (fun hbv_5=>?_))))
  ·replace h:=cond_t h hbv_5
   refine region (step hF (Y.move hF rfl) rfl fun a hF=>step hF (Y.move hF rfl) rfl fun a hF=>step hF (Y.lenSl u_30 hF rfl) rfl fun a hF=>step hF (Y.sub hF rfl rfl) rfl fun a hF=>?_)
   obtain ⟨e,hx_3,h⟩:=bind_some h
   obtain ⟨b,o,hE,hY⟩:=Y.indexS (P:=Tryz.prog) (C:=C_int) (xs:=somev) (T:=30) (x:=(.tmp 26)) (y:=(.tmp 29)) u_30 sz_3 hF rfl rfl (hs).1 hx_3
   obtain ⟨cc,hc,hcell⟩:=hE.open
   obtain rfl:=hc
   refine step hF (hY) rfl fun a hF=>step hF (Y.load1 sz_3 hF rfl (hcell _ hS.stab 0 _ rfl)) rfl fun a hF=>step hF (Y.add hF rfl rfl) rfl fun a hF=>step hF (Y.assign hF rfl) rfl fun a hF=>nT (⟨(wr (e + 1)),hF.weak (AF rfl),hS.weak trivial,h⟩)
  replace h:=cond_f h hbv_5
  refine skip_ (then_n (⟨0,hF.weak (AF rfl),hS.weak trivial,h⟩))
 rintro a w ⟨fromv,hF,hS,h⟩
 unfold beat_Wrong_1_k1 at h
 refine seq (seq (region (step hF (Y.move hF rfl) rfl fun a hF=>step hF (Y.assign hF rfl) rfl fun a hF=>nT (block (loop_cut (body:=beat_Wrong_1_b2 somev set many cv self_) (out:=out) (fun s a w=>∃ (v8_0:(List Int)) (v9_0:Bool) (k:Int),∃ (Dv_1:Stab),∃ p_7 c_7,s=(v8_0,v9_0,k)∧D0.le Dv_1∧Frm 62 [] [(0,.slice p somev.length c),(1,iv set),(2,iv many),(3,.pointer (some ⟨bb,0,none⟩)),(4,.pointer (some ⟨bb_1,0,none⟩)),(8,.slice p_7 v8_0.length c_7),(9,.bool v9_0),(11,iv k)] a∧St w0 D0 Dv_1 [] w∧SRc C_int Dv_1 v8_0 p_7 c_7) (([]:List Int),false,fromv) h ⟨([]:List Int),false,fromv,D0,none,0,rfl,Stab.le.refl _,hF.weak (AF rfl),hS.weak trivial,SRc.nil⟩ ?_)))))
 rintro s a w xo ⟨v8_0,v9_0,k,Dv_1,p_7,c_7,rfl,hlev_1,hF,hS,hs_7⟩ h hxo
 unfold beat_Wrong_1_b2 at h
 dsimp only at h
 replace hs:=hs.mono hlev_1
 replace hs_1:=hs_1.mono hlev_1
 replace hs_2:=hs_2.mono hlev_1
 replace hs_3:=hs_3.mono hlev_1
 replace hG:=hG.mono hlev_1
 refine seq (seq (region (step hF (Y.move hF rfl) rfl fun a hF=>step hF (Y.fieldAddr fo_35_1 hF rfl) rfl fun a hF=>step hF (Y.load1H sz_31 hF rfl (hS.old hbv) rfl) rfl fun a hF=>step hF (Y.lenSl u_31 hF rfl) rfl fun a hF=>step hF (Y.lss hF rfl rfl) rfl fun a hF=>nT (cond_b hF rfl (fun hbv_3=>?_) (fun hbv_3=>?_)))))
 ·replace h:=cond_t h hbv_3
  refine skip_ (then_n (seq (block (seq ?_))))
  obtain ⟨hg,h⟩:=ite_some h
  obtain ⟨hg_1,h⟩:=ite_some h
  obtain ⟨rv_2,hx_2,h⟩:=bind_some h
  refine drawsV 20 (.flt 0 (.flt 1 (.flt 2 (.flt 3 (.flt 4 (.flt 5 (.flt 6 (.flt 7 (.flt 10 (.flt 11 (.flt 12 (.flt 13 (.flt 14 (.alt 8 (.alt 9 (.alt 15 (.flt 16 (.flt 17 (.flt 18 (.flt 19 .done)))) .stop) .stop) .stop)))))))))))))) mixed_ (by kernel_rfl) (fun w=>St w0 D0 Dv_1 [] w) (fun a w=>∃ (Dv_4:Stab) (p_10:Option Addr) (c_10:Nat) (p_8:Option Addr) (c_8:Nat),Dv_1.le Dv_4∧Frm 62 [] [(0,.slice p somev.length c),(1,iv set),(2,iv many),(3,.pointer (some ⟨bb,0,none⟩)),(4,.pointer (some ⟨bb_1,0,none⟩)),(8,.slice p_7 v8_0.length c_7),(9,.bool v9_0),(11,iv k),(12,.slice p_10 rv_2.1.length c_10),(59,.bool rv_2.2)] a∧St w0 D0 Dv_4 [(3,.own p_8 ([k]).length c_8 ([iv k]) 3 1)] w∧SRc C_int Dv_4 rv_2.1 p_10 c_10∧Reps C_int Dv_4 ([k]) ([iv k])) (hS.weak (ms:=[]) trivial).drew (fun _ _ _ _ h=>h) ?_ ?_
  ·replace hS:=hS.drew
   have hle0:=hS.le
   refine stepV (i:=0) rfl hF (fun w hS=>Y.load1H sz_107 hF rfl (hS.old hbv_1) rfl) rfl fun a hF=>stepV (i:=1) rfl hF (fun w hS=>Y.move hF rfl) rfl fun a hF=>stepV (i:=2) rfl hF (fun w hS=>Y.move hF rfl) rfl fun a hF=>stepV (i:=3) rfl hF (fun w hS=>Y.lenSl u_30 hF rfl) rfl fun a hF=>stepV (i:=4) rfl hF (fun w hS=>Y.move hF rfl) rfl fun a hF=>stepV (i:=5) rfl hF (fun w hS=>Y.lenSl u_30 hF rfl) rfl fun a hF=>stepV (i:=6) rfl hF (fun w hS=>Y.slice3 u_30 sz_3 hF rfl rfl rfl hs.2) rfl fun a hF=>stepV (i:=7) rfl hF (fun w hS=>Y.move hF rfl) rfl fun a hF=>stepV (i:=10) rfl hF (fun w hS=>Y.move hF rfl) rfl fun a hF=>stepV (i:=11) rfl hF (fun w hS=>Y.move hF rfl) rfl fun a hF=>stepV (i:=12) rfl hF (fun w hS=>Y.shl hF rfl rfl hg_1) rfl fun a hF=>stepV (i:=13) rfl hF (fun w hS=>Y.or hF rfl rfl) rfl fun a hF=>stepV (i:=14) rfl hF (fun w hS=>Y.move hF rfl) rfl fun a hF=>oneV (i:=8) rfl ?_ trivial
   have hr_2:Reps C_int Dv_1 [k] [iv k]:=Reps.cons (C:=C_int) (x:=k) (c:=[iv k]) (r:=[]) rfl (Reps.nil)
   refine O.buildSlice (E:=3) (C:=C_int) (xs:=[k]) (cs:=[iv k]) (us:=[iv k]) (parts:=[(0,(.tmp 49))]) 3 hF hS rfl (by kernel_rfl) hr_2 rfl rfl rfl fun p_11 c_11 a w hF hS=>nT ⟨hS.weak trivial,?_⟩
   refine oneV (i:=9) rfl ?_ trivial
   refine O.appendS (C:=C_int) (xs:=somev) (ys:=[k]) 4 gr_30 hF rfl rfl hS ((⟨hs.1,Nat.le_refl _⟩:SRc _ _ _ _ _)).1 (src_own (i:=3) hS rfl) hr_2 (Nat.succ_pos _) hg rfl fun p_12 c_12 cs_1 a w hF hS hr_3=>nT ⟨hS.weak trivial,?_⟩
   refine oneV (i:=15) rfl ?_ trivial
   obtain ⟨Dv_5,hlev_4,hs_10,hS⟩:=hS.freezeC (C:=C_int) (i:=4) (xs:=(somev ++ [k])) rfl hr_3
   replace hs_1:=hs_1.mono hlev_4
   replace hs_2:=hs_2.mono hlev_4
   replace hs_3:=hs_3.mono hlev_4
   replace hG:=hG.mono hlev_4
   replace hr_2:=hr_2.mono hlev_4
   refine O.callVS (f:=37) (first:=[]) (cap:=[.pointer (some ⟨bb,0,none⟩),.pointer (some ⟨bb_1,0,none⟩)]) (us:=[.slice p_12 (somev ++ [k]).length c_12,iv (bitsOp .or set (gshl 1 k)),iv many]) ca_37 hF hS rfl rfl (hself hS.stab (somev ++ [k]) (bitsOp .or set (gshl 1 k)) many cv hs_10 hs_1 hs_2 hs_3 (hS.old hbv) (hS.old hbv_1) hG rv_2 hx_2) rfl fun v_2 Dv_6 a w hR_2 hlev_5 hF hS=>?_
   replace hr_2:=hr_2.mono hlev_5
   obtain ⟨p_13,c_13,rfl,hs_11⟩:=hR_2
   refine nT ⟨(hS.weak (ms:=[]) trivial).weakD (hlev_4.trans hlev_5) hle0,?_⟩
   refine stepV (i:=16) rfl hF (fun w hS=>Y.move hF rfl) rfl fun a hF=>stepV (i:=17) rfl hF (fun w hS=>Y.extract hF rfl rfl) rfl fun a hF=>stepV (i:=18) rfl hF (fun w hS=>Y.extract hF rfl rfl) rfl fun a hF=>stepV (i:=19) rfl hF (fun w hS=>Y.assign hF rfl) rfl fun a hF=>toTailV ⟨Dv_6,p_13,c_13,p_11,c_11,hlev_4.trans hlev_5,hF.weak (AF rfl),hS.weak ⟨rfl,trivial⟩,hs_11,hr_2⟩
  rintro a w ⟨Dv_4,p_10,c_10,p_8,c_8,hle,hF,hS,hj,hj_1⟩
  have hlev_6:=hle
  replace hs_7:=hs_7.mono hlev_6
  refine step hF (Y.assign hF rfl) rfl fun a hF=>nT (seq (region (step hF (Y.move hF rfl) rfl fun a hF=>nT (cond_b hF rfl (fun hbv_4=>?_) (fun hbv_4=>?_)))))
  ·replace h:=cond_t h hbv_4
   refine seq (region (step hF (Y.move hF rfl) rfl fun a hF=>step hF (Y.assign hF rfl) rfl fun a hF=>step hF (Y.assign hF rfl) rfl fun a hF=>nT (ret_ (blk_r (then_r (then_r (blk_r (then_r ?_))))))))
   replace h:=ext_some h hxo
   obtain rfl:=some_inj h
   exact leaveS Tryz.results37 hF hS (.cons (.tmp rfl) (.cons (.tmp rfl) .nil)) .nil ⟨_,_,rfl,hj⟩
  replace h:=cond_f h hbv_4
  refine skip_ (blk_n (then_n (region (step hF (Y.move hF rfl) rfl fun a hF=>step hF (Y.add hF rfl rfl) rfl fun a hF=>step hF (Y.assign hF rfl) rfl fun a hF=>nT (⟨_,nxt_some h,v8_0,v9_0,(wr (k + 1)),Dv_4,p_7,c_7,rfl,hlev_1.trans hlev_6,hF.weak (AF rfl),hS.weak trivial,hs_7⟩)))))
 replace h:=cond_f h hbv_3
 refine exit_ (then_x (then_x (blk_hit (then_n ?_))))
 replace h:=ext_some h hxo
 refine seq (region (step hF (Y.assign hF rfl) rfl fun a hF=>step hF (Y.assign hF rfl) rfl fun a hF=>nT (ret_ ?_)))
 obtain rfl:=some_inj h
 exact leaveS Tryz.results37 hF hS (.cons (.tmp rfl) (.cons (.tmp rfl) .nil)) .nil ⟨_,_,rfl,SRc.nil⟩
noncomputable def beat_Wrong_1_n:Nat→(List Int)→Int→Int→BeatCellar→Option ((List Int) × Bool)
 | 0=>fun _ _ _ _=>none
 | n + 1=>beat_Wrong_1_step (beat_Wrong_1_n n)
theorem beat_Wrong_1_n_ok:∀ n,∀ {w0:World} {D0:Stab} (hD:D0.on w0) (somev:(List Int)) (set:Int) (many:Int) (cv:BeatCellar) {p:Option Addr} {c:Nat} {p_1:Option Addr} {c_1:Nat} {p_2:Option Addr} {c_2:Nat} {p_3:Option Addr} {c_3:Nat} {bb:Nat} {bb_1:Nat} (hs:SRc C_int D0 somev p c) (hs_1:SRc C_Span D0 cv.Rates p_1 c_1) (hs_2:SRc C_BeatOpen D0 cv.Opens p_2 c_2) (hs_3:SRc C_BeatPair D0 cv.Pairs p_3 c_3) (hbv:w0.heap[bb]?=some (.cells ([iv cv.Hours,.slice p_1 cv.Rates.length c_1,.slice p_2 cv.Opens.length c_2,.slice p_3 cv.Pairs.length c_3]).toArray 35 (0,0))) (hbv_1:w0.heap[bb_1]?=some (.cells ([.func (.func 37) #[] #[.pointer (some ⟨bb,0,none⟩),.pointer (some ⟨bb_1,0,none⟩)]]).toArray 107 (0,0))) (hG:Glob D0) (out:((List Int) × Bool)) (h:beat_Wrong_1_n n somev set many cv=some out),Calls Tryz.prog 37 [.slice p somev.length c,iv set,iv many,.pointer (some ⟨bb,0,none⟩),.pointer (some ⟨bb_1,0,none⟩)].toArray w0 (RetS D0 w0 fun D v=>∃ p_14 c_14,v=.tuple #[.slice p_14 out.1.length c_14,.bool out.2]∧SRc C_int D out.1 p_14 c_14)
 | 0=>by intros;rename_i h;simp only [beat_Wrong_1_n] at h;cases h
 | n + 1=>fun hD=>beat_Wrong_1_step_ok (beat_Wrong_1_n n) (beat_Wrong_1_n_ok n) hD
noncomputable def beat_Wrong_1 (somev:(List Int)) (set:Int) (many:Int) (cv:BeatCellar):Option ((List Int) × Bool):=limU fun n=>beat_Wrong_1_n n somev set many cv
theorem beat_Wrong_1_ok {w0:World} {D0:Stab} (hD:D0.on w0) (somev:(List Int)) (set:Int) (many:Int) (cv:BeatCellar) {p:Option Addr} {c:Nat} {p_1:Option Addr} {c_1:Nat} {p_2:Option Addr} {c_2:Nat} {p_3:Option Addr} {c_3:Nat} {bb:Nat} {bb_1:Nat} (hs:SRc C_int D0 somev p c) (hs_1:SRc C_Span D0 cv.Rates p_1 c_1) (hs_2:SRc C_BeatOpen D0 cv.Opens p_2 c_2) (hs_3:SRc C_BeatPair D0 cv.Pairs p_3 c_3) (hbv:w0.heap[bb]?=some (.cells ([iv cv.Hours,.slice p_1 cv.Rates.length c_1,.slice p_2 cv.Opens.length c_2,.slice p_3 cv.Pairs.length c_3]).toArray 35 (0,0))) (hbv_1:w0.heap[bb_1]?=some (.cells ([.func (.func 37) #[] #[.pointer (some ⟨bb,0,none⟩),.pointer (some ⟨bb_1,0,none⟩)]]).toArray 107 (0,0))) (hG:Glob D0) (out:((List Int) × Bool)) (h:beat_Wrong_1 somev set many cv=some out):Calls Tryz.prog 37 [.slice p somev.length c,iv set,iv many,.pointer (some ⟨bb,0,none⟩),.pointer (some ⟨bb_1,0,none⟩)].toArray w0 (RetS D0 w0 fun D v=>∃ p_14 c_14,v=.tuple #[.slice p_14 out.1.length c_14,.bool out.2]∧SRc C_int D out.1 p_14 c_14):=by
 obtain ⟨n,hfu_⟩:=limU_some h
 exact beat_Wrong_1_n_ok n hD somev set many cv hs hs_1 hs_2 hs_3 hbv hbv_1 hG out hfu_
noncomputable def beat_Wrong_b1 (xv:BeatCellar):((List Int) × Int × Int)→Option (((List Int) × Int × Int) ⊕ ((List Int) × Int))
 | (v2_0,v3_0,v19_0)=>
  cond (decide (v19_0 < (wr ((xv.Rates.length:Int) + 1))))
  ((beat_Wrong_1 ([]:List Int) 0 v19_0 xv).bind fun rv_1=>
  cond rv_1.2
  (ext (some (rv_1.1,0)))
  (nxt (v2_0,v3_0,wr (v19_0 + 1))))
  (ext (some (([]:List Int),22)))
noncomputable def beat_Wrong (xv:BeatCellar):Option ((List Int) × Int):=
  (beat_Check xv).bind fun rv=>
  cond (rv != 0)
  (some (([]:List Int),rv))
  (loopU (beat_Wrong_b1 xv) (([]:List Int),0,0))
theorem beat_Wrong_ok {w0:World} {D0:Stab} (hD:D0.on w0) (xv:BeatCellar) {p:Option Addr} {c:Nat} {p_1:Option Addr} {c_1:Nat} {p_2:Option Addr} {c_2:Nat} (hs:SRc C_Span D0 xv.Rates p c) (hs_1:SRc C_BeatOpen D0 xv.Opens p_1 c_1) (hs_2:SRc C_BeatPair D0 xv.Pairs p_2 c_2) (hG:Glob D0) (out:((List Int) × Int)) (h:beat_Wrong xv=some out):Calls Tryz.prog 16 [.agg #[iv xv.Hours,.slice p xv.Rates.length c,.slice p_1 xv.Opens.length c_1,.slice p_2 xv.Pairs.length c_2]].toArray w0 (RetS D0 w0 fun D v=>∃ p_5 c_5,v=.tuple #[.slice p_5 out.1.length c_5,iv out.2]∧SRc C_int D out.1 p_5 c_5):=by
 refine enter _ 36 Tryz.func16 rfl Tryz.ntmps16 rfl fun a hF=>?_
 replace hF:Frm 36 [] [(0,.agg #[iv xv.Hours,.slice p xv.Rates.length c,.slice p_1 xv.Opens.length c_1,.slice p_2 xv.Pairs.length c_2])] a:=hF
 have hS:=St.start hD
 unfold beat_Wrong at h
 refine seq (region (O.box (cs:=[iv xv.Hours,.slice p xv.Rates.length c,.slice p_1 xv.Opens.length c_1,.slice p_2 xv.Pairs.length c_2]) 1 hF rfl rfl hS rfl fun b a w hF hS=>step hF (Y.assign hF rfl) rfl fun a hF=>step hF (Y.assign hF rfl) rfl fun a hF=>nT (seq (seq (region (step hF (Y.loadNL 1 sz_35 hF rfl hS rfl rfl rfl) rfl fun a hF=>?_))))))
 obtain ⟨rv,hx,h⟩:=bind_some h
 refine O.callP (us:=[.agg #[iv xv.Hours,.slice p xv.Rates.length c,.slice p_1 xv.Opens.length c_1,.slice p_2 xv.Pairs.length c_2]]) ca_5 hF hS (beat_Check_ok hS.stab xv hs hs_1 hs_2 rv hx) rfl rfl fun a w hF hS=>step hF (Y.assign hF rfl) rfl fun a hF=>nT (seq (region (step hF (Y.move hF rfl) rfl fun a hF=>step hF (Y.neq hF rfl rfl) rfl fun a hF=>nT (cond_b hF rfl (fun hbv=>?_) (fun hbv=>?_)))))
 ·replace h:=cond_t h hbv
  refine seq (region (step hF (Y.move hF rfl) rfl fun a hF=>step hF (Y.assign hF rfl) rfl fun a hF=>step hF (Y.assign hF rfl) rfl fun a hF=>nT (ret_ (then_r ?_))))
  obtain rfl:=some_inj h
  exact leaveS Tryz.results16 hF hS (.cons (.tmp rfl) (.cons (.tmp rfl) .nil)) .nil ⟨_,_,rfl,SRc.nil⟩
 replace h:=cond_f h hbv
 refine skip_ (then_n (seq (region (O.alloc 2 zc_107 hF hS rfl fun b_1 a w hF hS=>nT (seq (region (step hF (Y.makeFunc (first:=[]) (cap:=[(.tmp 1),(.tmp 5)]) (fs:=[]) (cs:=[.pointer (some ⟨b,0,none⟩),.pointer (some ⟨b_1,0,none⟩)]) hF rfl rfl) rfl fun a hF=>O.store (us:=[.func (.func 37) #[] #[.pointer (some ⟨b,0,none⟩),.pointer (some ⟨b_1,0,none⟩)]]) 2 sz_107 hF rfl rfl rfl rfl hS rfl rfl fun a w hF hS=>nT (seq (seq (region (step hF (Y.fieldAddr fo_35_1 hF rfl) rfl fun a hF=>step hF (Y.load1L 1 sz_31 hF rfl hS rfl rfl) rfl fun a hF=>step hF (Y.lenSl u_31 hF rfl) rfl fun a hF=>step hF (Y.add hF rfl rfl) rfl fun a hF=>step hF (Y.move hF rfl) rfl fun a hF=>nT (block (loop_cut (body:=beat_Wrong_b1 xv) (out:=out) (fun s a w=>∃ (v2_0:(List Int)) (v3_0:Int) (v19_0:Int),∃ (Dv:Stab),∃ p_3 c_3,s=(v2_0,v3_0,v19_0)∧D0.le Dv∧Frm 36 [] [(2,.slice p_3 v2_0.length c_3),(3,iv v3_0),(5,.pointer (some ⟨b_1,0,none⟩)),(18,iv (wr ((xv.Rates.length:Int) + 1))),(19,iv v19_0)] a∧St w0 D0 Dv [(1,.cells b [iv xv.Hours,.slice p xv.Rates.length c,.slice p_1 xv.Opens.length c_1,.slice p_2 xv.Pairs.length c_2] 35),(2,.cells b_1 [.func (.func 37) #[] #[.pointer (some ⟨b,0,none⟩),.pointer (some ⟨b_1,0,none⟩)]] 107)] w∧SRc C_int Dv v2_0 p_3 c_3) (([]:List Int),0,0) h ⟨([]:List Int),0,0,D0,none,0,rfl,Stab.le.refl _,hF.weak (AF rfl),hS.weak ⟨rfl,rfl,trivial⟩,SRc.nil⟩ ?_)))))))))))))
 rintro s a w xo ⟨v2_0,v3_0,v19_0,Dv,p_3,c_3,rfl,hlev,hF,hS,hs_3⟩ h hxo
 unfold beat_Wrong_b1 at h
 dsimp only at h
 replace hs:=hs.mono hlev
 replace hs_1:=hs_1.mono hlev
 replace hs_2:=hs_2.mono hlev
 replace hG:=hG.mono hlev
 refine seq (region (step hF (Y.lss hF rfl rfl) rfl fun a hF=>nT (seq (cond_b hF rfl (fun hbv_1=>?_) (fun hbv_1=>?_)))))
 ·replace h:=cond_t h hbv_1
  refine skip_ (then_n (seq (block (seq (region (step hF (Y.move hF rfl) rfl fun a hF=>step hF (Y.assign hF rfl) rfl fun a hF=>nT (seq (region (step hF (Y.load1L 2 sz_107 hF rfl hS rfl rfl) rfl fun a hF=>step hF (Y.move hF rfl) rfl fun a hF=>?_)))))))))
  obtain ⟨rv_1,hx_1,h⟩:=bind_some h
  refine O.callVS (f:=37) (first:=[]) (cap:=[.pointer (some ⟨b,0,none⟩),.pointer (some ⟨b_1,0,none⟩)]) (us:=[.slice none 0 0,iv 0,iv v19_0]) ca_37 hF hS rfl rfl (beat_Wrong_1_ok hS.stab ([]:List Int) 0 v19_0 xv SRc.nil hs hs_1 hs_2 (hS.each 1 _ rfl) (hS.each 2 _ rfl) hG rv_1 hx_1) rfl fun v Dv_1 a w hR hlev_1 hF hS=>?_
  replace hs_3:=hs_3.mono hlev_1
  obtain ⟨p_4,c_4,rfl,hs_4⟩:=hR
  refine step hF (Y.move hF rfl) rfl fun a hF=>step hF (Y.extract hF rfl rfl) rfl fun a hF=>step hF (Y.extract hF rfl rfl) rfl fun a hF=>step hF (Y.assign hF rfl) rfl fun a hF=>step hF (Y.assign hF rfl) rfl fun a hF=>nT (seq (region (step hF (Y.move hF rfl) rfl fun a hF=>nT (cond_b hF rfl (fun hbv_2=>?_) (fun hbv_2=>?_)))))
  ·replace h:=cond_t h hbv_2
   refine seq (region (step hF (Y.move hF rfl) rfl fun a hF=>step hF (Y.move hF rfl) rfl fun a hF=>step hF (Y.lenSl u_30 hF rfl) rfl fun a hF=>step hF (Y.move hF rfl) rfl fun a hF=>step hF (Y.lenSl u_30 hF rfl) rfl fun a hF=>step hF (Y.slice3 u_30 sz_3 hF rfl rfl rfl hs_4.2) rfl fun a hF=>step hF (Y.assign hF rfl) rfl fun a hF=>step hF (Y.assign hF rfl) rfl fun a hF=>nT (ret_ (blk_r (then_r (then_r (blk_r (then_r ?_))))))))
   replace h:=ext_some h hxo
   obtain rfl:=some_inj h
   exact leaveS Tryz.results16 hF hS (.cons (.tmp rfl) (.cons (.tmp rfl) .nil)) .nil ⟨_,_,rfl,(⟨hs_4.1,Nat.le_refl _⟩:SRc _ _ _ _ _)⟩
  replace h:=cond_f h hbv_2
  refine skip_ (blk_n (then_n (region (step hF (Y.add hF rfl rfl) rfl fun a hF=>step hF (Y.move hF rfl) rfl fun a hF=>nT (⟨_,nxt_some h,v2_0,v3_0,(wr (v19_0 + 1)),Dv_1,p_3,c_3,rfl,hlev.trans hlev_1,hF.weak (AF rfl),hS.weak ⟨rfl,rfl,trivial⟩,hs_3⟩)))))
 replace h:=cond_f h hbv_1
 refine exit_ (then_x (then_x (blk_hit (then_n ?_))))
 replace h:=ext_some h hxo
 refine seq (region (step hF (Y.assign hF rfl) rfl fun a hF=>step hF (Y.assign hF rfl) rfl fun a hF=>nT (ret_ ?_)))
 obtain rfl:=some_inj h
 exact leaveS Tryz.results16 hF hS (.cons (.tmp rfl) (.cons (.tmp rfl) .nil)) .nil ⟨_,_,rfl,SRc.nil⟩
end Go.Proofs.YtgdfljiliflhfaaGreatDoor.Rt
