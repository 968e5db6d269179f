/- Walks of the functions of this seat: what each Go function comes to, as a Lean function, and the proof. A law. Under no conditions. -/
import Derived.Test.YtgdfljiliflhfaaGreatDoorC3WT1
set_option linter.unusedVariables false
set_option linter.unusedSimpArgs false
set_option maxRecDepth 100000
set_option maxHeartbeats 4000000
namespace Go.Proofs.YtgdfljiliflhfaaGreatDoor.Rt
open Go Go.RowKit
noncomputable def remontoirtop_TopCompared_b2 (rates:Arr2_Span) (bits:(List Int)) (l:(List (List Int))) (i:Int):(Int × (List Int) × Int)→Option ((Int × (List Int) × Int) ⊕ (((List (List Int)) × Int) ⊕ Bool))
 | (now,row,hv)=>
  cond (decide (hv < 3))
  (if (0:Int)≤i∧i < ((2:Nat):Int) then
  (r0At bits (wr ((wr (3 * i)) + hv))).bind fun rv_12=>
  (r0From (Span.mk ((([rates.a0,rates.a1]:List Span).getD (Int.toNat i) (Span.mk 0 0)).Low) ((([rates.a0,rates.a1]:List Span).getD (Int.toNat i) (Span.mk 0 0)).High)) rv_12).bind fun rv_13=>
  if row.length + ([wr (now + rv_13)]).length≤lim then
  nxt (wr (now + rv_13),(row ++ [wr (now + rv_13)]),wr (hv + 1))
  else none
  else none)
  (ext (if l.length + ([row]).length≤lim then
  nxt ((l ++ [row]),wr (i + 1))
  else none))
noncomputable def remontoirtop_TopCompared_k4 (rv_7:(Span × Int)) (l:(List (List Int))) (hv_1:Int) (l_1:(List BeatPair)) (delay:Int):Option ((Int × (List BeatPair)) ⊕ Bool):=
  (idx l 0).bind fun e=>
  (idx e hv_1).bind fun e_1=>
  (idx l 1).bind fun e_2=>
  (idx e_2 hv_1).bind fun e_3=>
  (r0To (wr ((wr ((wr (e_1 - e_3)) - delay)) + rv_7.1.Low)) (wr ((wr ((wr (e_1 - e_3)) - delay)) + rv_7.1.High))).bind fun rv_16=>
  if l_1.length + ([(BeatPair.mk hv_1 0 1 rv_16)]).length≤lim then
  nxt (wr (hv_1 + 1),(l_1 ++ [(BeatPair.mk hv_1 0 1 rv_16)]))
  else none
noncomputable def remontoirtop_TopCompared_b3 (n:LineNet) (rates:Arr2_Span) (k:Arr4) (bits:(List Int)) (rv_6:Int) (rv_7:(Span × Int)) (l:(List (List Int))):(Int × (List BeatPair))→Option ((Int × (List BeatPair)) ⊕ Bool)
 | (hv_1,l_1)=>
  cond (decide (hv_1≤3))
  ((r0At bits (wr (hv_1 + 6))).bind fun rv_14=>
  (r0From rv_7.1 rv_14).bind fun rv_15=>
  (line_Can n rv_6 rv_15).bind fun rv_17=>
  cond ((rv_17.2 != 0) || (!rv_17.1))
  (remontoirtop_TopCompared_k4 rv_7 l hv_1 l_1 rv_7.1.High)
  (remontoirtop_TopCompared_k4 rv_7 l hv_1 l_1 rv_15))
  (ext ((beat_IsTruth (BeatCellar.mk 3 ([rates.a0,rates.a1]) ([]:List BeatOpen) l_1) l).bind fun rv_18=>
  (beat_Wrong (BeatCellar.mk 3 ([rates.a0,rates.a1]) ([]:List BeatOpen) l_1)).bind fun rv_19=>
  (r0Rest k.a3 4).bind fun rv_20=>
  (beat_Apart (BeatCellar.mk 3 ([rates.a0,rates.a1]) ([]:List BeatOpen) l_1) 0 1 rv_20).bind fun rv_21=>
  (cond (rv_18.2 == 0) (some (rv_19.2 == 0)) (some false)).bind fun t_5=>
  (cond t_5 (some (rv_21.2 == 0)) (some false)).bind fun t_6=>
  (cond t_6 (some rv_18.1) (some false)).bind fun t_7=>
  (cond t_7 (some ((rv_19.1.length:Int) == 0)) (some false)).bind fun t_8=>
  (cond t_8 ((idx l 0).bind fun e_4=>
  (idx e_4 rv_20).bind fun e_5=>
  (idx l 1).bind fun e_6=>
  (idx e_6 rv_20).bind fun e_7=>
  (r0Has rv_21.1 (wr (e_5 - e_7))).bind fun rv_22=>
  some rv_22) (some false)).bind fun t_9=>
  (cond t_9 (some (decide ((wr (rv_21.1.High - rv_21.1.Low))≤(wr (rv_7.1.High - rv_7.1.Low))))) (some false)).bind fun t_10=>
  (cond t_10 ((remontoirtop_rung06).bind fun rv_23=>
  some rv_23) (some false)).bind fun t_11=>
  some t_11))
noncomputable def remontoirtop_TopCompared_b1 (n:LineNet) (rates:Arr2_Span) (k:Arr4) (bits:(List Int)) (rv_6:Int) (rv_7:(Span × Int)):((List (List Int)) × Int)→Option (((List (List Int)) × Int) ⊕ Bool)
 | (l,i)=>
  cond (decide (i < 2))
  ((r0To (-2000) 2000).bind fun rv_10=>
  if (0:Int)≤(wr (1 + i))∧(wr (1 + i)) < ((4:Nat):Int) then
  (r0From rv_10 (([k.a0,k.a1,k.a2,k.a3]:List Int).getD (Int.toNat (wr (1 + i))) 0)).bind fun rv_11=>
  loopU (remontoirtop_TopCompared_b2 rates bits l i) (rv_11,[rv_11],0)
  else none)
  (ext (loopU (remontoirtop_TopCompared_b3 n rates k bits rv_6 rv_7 l) (0,([]:List BeatPair))))
noncomputable def remontoirtop_TopCompared (n:LineNet) (rates:Arr2_Span) (k:Arr4) (bits:(List Int)):Option Bool:=
  (line_Check n).bind fun rv=>
  (cond (rv != 0) (some true) ((beat_Check (BeatCellar.mk 3 ([rates.a0,rates.a1]) ([]:List BeatOpen) ([]:List BeatPair))).bind fun rv_1=>
  some (rv_1 != 0))).bind fun t=>
  (cond t (some true) ((r0Lies n.Exchanges 1 7).bind fun rv_2=>
  some (!rv_2))).bind fun t_1=>
  (cond t_1 (some true) ((r0Valid rates.a0 (-1000) 1000).bind fun rv_3=>
  some (!rv_3))).bind fun t_2=>
  (cond t_2 (some true) ((r0Valid rates.a1 (-1000) 1000).bind fun rv_4=>
  some (!rv_4))).bind fun t_3=>
  cond t_3
  ((remontoirtop_rung06).bind fun rv_5=>
  some rv_5)
  ((r0Rest k.a0 n.Exchanges).bind fun rv_6=>
  (line_Delay n rv_6).bind fun rv_7=>
  cond (rv_7.2 != 0)
  ((cond ((rv_7.2 == 4) || (rv_7.2 == 62)) ((remontoirtop_rung06).bind fun rv_8=>
  some rv_8) (some false)).bind fun t_4=>
  some t_4)
  ((r0Valid rv_7.1 0 6000).bind fun rv_9=>
  cond (!rv_9)
  (some false)
  (loopU (remontoirtop_TopCompared_b1 n rates k bits rv_6 rv_7) (([]:List (List Int)),0))))
theorem remontoirtop_TopCompared_ok {w0:World} {D0:Stab} (hD:D0.on w0) (n:LineNet) (rates:Arr2_Span) (k:Arr4) (bits:(List Int)) {p:Option Addr} {c:Nat} {p_1:Option Addr} {c_1:Nat} {p_2:Option Addr} {c_2:Nat} (hs:SRc C_LineLine D0 n.Lines p c) (hs_1:SRc C_LineLoop D0 n.Loops p_1 c_1) (hs_2:SRc C_int D0 bits p_2 c_2) (hG:Glob D0) (out:Bool) (h:remontoirtop_TopCompared n rates k bits=some out):Calls Tryz.prog 3 [.agg #[iv n.Exchanges,.slice p n.Lines.length c,iv n.Hops,.slice p_1 n.Loops.length c_1],.agg #[iv rates.a0.Low,iv rates.a0.High,iv rates.a1.Low,iv rates.a1.High],.agg #[iv k.a0,iv k.a1,iv k.a2,iv k.a3],.slice p_2 bits.length c_2].toArray w0 (RetP D0 w0 (.bool out)):=by
 refine enter _ 250 Tryz.func3 rfl Tryz.ntmps3 rfl fun a hF=>?_
 replace hF:Frm 250 [] [(0,.agg #[iv n.Exchanges,.slice p n.Lines.length c,iv n.Hops,.slice p_1 n.Loops.length c_1]),(1,.agg #[iv rates.a0.Low,iv rates.a0.High,iv rates.a1.Low,iv rates.a1.High]),(2,.agg #[iv k.a0,iv k.a1,iv k.a2,iv k.a3]),(3,.slice p_2 bits.length c_2)] a:=hF
 have hS:=St.start hD
 unfold remontoirtop_TopCompared at h
 refine seq (region (O.box (cs:=[iv n.Exchanges,.slice p n.Lines.length c,iv n.Hops,.slice p_1 n.Loops.length c_1]) 1 hF rfl rfl hS rfl fun b a w hF hS=>O.box (cs:=[iv rates.a0.Low,iv rates.a0.High,iv rates.a1.Low,iv rates.a1.High]) 2 hF rfl rfl hS rfl fun b_1 a w hF hS=>O.box (cs:=[iv k.a0,iv k.a1,iv k.a2,iv k.a3]) 3 hF rfl rfl hS rfl fun b_2 a w hF hS=>step hF (Y.assign hF rfl) rfl fun a hF=>nT (seq (region (step hF (Y.indexArr u_28 sz_27 hF rfl rfl (by decide) (by decide)) rfl fun a hF=>step hF (Y.loadNL 2 sz_27 hF rfl hS rfl rfl rfl) rfl fun a hF=>step hF (Y.indexArr u_28 sz_27 hF rfl rfl (by decide) (by decide)) rfl fun a hF=>step hF (Y.loadNL 2 sz_27 hF rfl hS rfl rfl rfl) rfl fun a hF=>?_)))))
 have hr:Reps C_Span D0 [rates.a0,rates.a1] [iv rates.a0.Low,iv rates.a0.High,iv rates.a1.Low,iv rates.a1.High]:=Reps.cons (C:=C_Span) (x:=rates.a0) (c:=[iv rates.a0.Low,iv rates.a0.High]) (r:=[iv rates.a1.Low,iv rates.a1.High]) rfl (Reps.cons (C:=C_Span) (x:=rates.a1) (c:=[iv rates.a1.Low,iv rates.a1.High]) (r:=[]) rfl (Reps.nil))
 refine O.buildSlice (E:=27) (C:=C_Span) (xs:=[rates.a0,rates.a1]) (cs:=[iv rates.a0.Low,iv rates.a0.High,iv rates.a1.Low,iv rates.a1.High]) (us:=[.agg #[iv rates.a0.Low,iv rates.a0.High],.agg #[iv rates.a1.Low,iv rates.a1.High]]) (parts:=[(0,(.tmp 30)),(1,(.tmp 32))]) 4 hF hS rfl (by kernel_rfl) hr rfl rfl rfl fun p_3 c_3 a w hF hS=>step hF (Y.build (parts:=[(0,(.const (iv 3))),(1,(.tmp 33))]) (cs:=#[iv 3,.slice p_3 ([rates.a0,rates.a1]).length c_3,.slice none 0 0,.slice none 0 0]) hF rfl (by kernel_rfl)) rfl fun a hF=>O.alloc 5 zc_35 hF hS rfl fun b_3 a w hF hS=>?_
 replace hS:=hS.ownNil 6 52 5
 refine O.store (us:=[iv 3,.slice p_3 ([rates.a0,rates.a1]).length c_3,.slice none 0 0,.slice none 0 0]) 5 sz_35 hF rfl rfl rfl rfl hS rfl rfl fun a w hF hS=>?_
 replace hS:=hS.ownNil 7 52 5
 refine nT (seq (seq (region (step hF (Y.loadNL 1 sz_25 hF rfl hS rfl rfl rfl) rfl fun a hF=>?_))))
 obtain ⟨rv,hx,h⟩:=bind_some h
 refine O.callP (us:=[.agg #[iv n.Exchanges,.slice p n.Lines.length c,iv n.Hops,.slice p_1 n.Loops.length c_1]]) ca_4 hF hS (line_Check_ok hS.stab n hs hs_1 rv hx) rfl rfl fun a w hF hS=>step hF (Y.neq hF rfl rfl) rfl fun a hF=>step hF (Y.move hF rfl) rfl fun a hF=>?_
 obtain ⟨Dv,hlev,hs_3,hS⟩:=hS.freezeC (C:=C_Span) (i:=4) (xs:=[rates.a0,rates.a1]) rfl hr
 replace hs:=hs.mono hlev
 replace hs_1:=hs_1.mono hlev
 replace hs_2:=hs_2.mono hlev
 replace hG:=hG.mono hlev
 obtain ⟨Dv_1,hlev_1,hs_4,hS⟩:=hS.freezeC (C:=C_BeatPair) (i:=7) (xs:=([]:List BeatPair)) rfl Reps.nil
 replace hs:=hs.mono hlev_1
 replace hs_1:=hs_1.mono hlev_1
 replace hs_2:=hs_2.mono hlev_1
 replace hG:=hG.mono hlev_1
 replace hs_3:=hs_3.mono hlev_1
 obtain ⟨t,ht,h⟩:=bind_some h
 refine join (N:=250) (rs:=[]) (w0:=w0) (D0:=D0) 4 (us:=[(3,.slice p_2 bits.length c_2),(4,.pointer (some ⟨b,0,none⟩)),(5,.pointer (some ⟨b_1,0,none⟩)),(6,.pointer (some ⟨b_2,0,none⟩)),(8,.bool false),(9,.pointer (some ⟨b_3,0,none⟩)),(42,.bool t)]) (ms:=[(1,.cells b [iv n.Exchanges,.slice p n.Lines.length c,iv n.Hops,.slice p_1 n.Loops.length c_1] 25),(2,.cells b_1 [iv rates.a0.Low,iv rates.a0.High,iv rates.a1.Low,iv rates.a1.High] 28),(3,.cells b_2 [iv k.a0,iv k.a1,iv k.a2,iv k.a3] 29),(5,.cells b_3 [iv 3,.slice p_3 ([rates.a0,rates.a1]).length c_3,.slice none 0 0,.slice none ([]:List BeatPair).length 0] 35),(6,.own none ([]:List BeatPair).length 0 ([]) 52 5)]) (D':=Dv_1) ?_ ?_
 ·rcases bcases (rv != 0) with hbv | hbv
  ·skip
   replace h:=cond_t ht hbv
   refine guard_off hF rfl rfl hbv rfl fun a hF=>guard_off hF rfl rfl hbv rfl fun a hF=>guard_off hF rfl rfl hbv rfl fun a hF=>step hF (Y.pick_t hF rfl hbv rfl) rfl fun a hF=>?_
   obtain rfl:=some_inj h
   exact nT ⟨hF.weak (AF rfl),hS.weak (AL rfl)⟩
  replace h:=cond_f ht hbv
  refine guard_on hF rfl rfl hbv (step hF (Y.loadNL 5 sz_35 hF rfl hS rfl rfl rfl) rfl fun a hF=>guard_on hF rfl rfl hbv ?_)
  obtain ⟨rv_1,hx_1,h⟩:=bind_some h
  refine O.callP (us:=[.agg #[iv 3,.slice p_3 ([rates.a0,rates.a1]).length c_3,.slice none 0 0,.slice none ([]:List BeatPair).length 0]]) ca_5 hF hS (beat_Check_ok hS.stab (BeatCellar.mk 3 ([rates.a0,rates.a1]) ([]:List BeatOpen) ([]:List BeatPair)) hs_3 SRc.nil hs_4 rv_1 hx_1) rfl rfl fun a w hF hS=>guard_on hF rfl rfl hbv (step hF (Y.neq hF rfl rfl) rfl fun a hF=>step hF (Y.pick_f hF rfl hbv rfl) rfl fun a hF=>?_)
  obtain rfl:=some_inj h
  exact nT ⟨hF.weak (AF rfl),hS.weak (AL rfl)⟩
 intro a w hF hS
 refine step hF (Y.move hF rfl) rfl fun a hF=>?_
 obtain ⟨t_1,ht_1,h⟩:=bind_some h
 refine join (N:=250) (rs:=[]) (w0:=w0) (D0:=D0) 5 (us:=[(3,.slice p_2 bits.length c_2),(4,.pointer (some ⟨b,0,none⟩)),(5,.pointer (some ⟨b_1,0,none⟩)),(6,.pointer (some ⟨b_2,0,none⟩)),(8,.bool false),(9,.pointer (some ⟨b_3,0,none⟩)),(48,.bool t_1)]) (ms:=[(1,.cells b [iv n.Exchanges,.slice p n.Lines.length c,iv n.Hops,.slice p_1 n.Loops.length c_1] 25),(2,.cells b_1 [iv rates.a0.Low,iv rates.a0.High,iv rates.a1.Low,iv rates.a1.High] 28),(3,.cells b_2 [iv k.a0,iv k.a1,iv k.a2,iv k.a3] 29),(5,.cells b_3 [iv 3,.slice p_3 ([rates.a0,rates.a1]).length c_3,.slice none 0 0,.slice none ([]:List BeatPair).length 0] 35),(6,.own none ([]:List BeatPair).length 0 ([]) 52 5)]) (D':=Dv_1) ?_ ?_
 ·rcases bcases t with hbv_1 | hbv_1
  ·skip
   replace h:=cond_t ht_1 hbv_1
   refine guard_off hF rfl rfl hbv_1 rfl fun a hF=>guard_off hF rfl rfl hbv_1 rfl fun a hF=>guard_off hF rfl rfl hbv_1 rfl fun a hF=>guard_off hF rfl rfl hbv_1 rfl fun a hF=>step hF (Y.pick_t hF rfl hbv_1 rfl) rfl fun a hF=>?_
   obtain rfl:=some_inj h
   exact nT ⟨hF.weak (AF rfl),hS.weak (AL rfl)⟩
  replace h:=cond_f ht_1 hbv_1
  refine guard_on hF rfl rfl hbv_1 (step hF (Y.fieldAddr fo_25_0 hF rfl) rfl fun a hF=>guard_on hF rfl rfl hbv_1 (step hF (Y.load1L 1 sz_3 hF rfl hS rfl rfl) rfl fun a hF=>guard_on hF rfl rfl hbv_1 ?_))
  obtain ⟨rv_2,hx_2,h⟩:=bind_some h
  refine O.callP (us:=[iv n.Exchanges,iv 1,iv 7]) ca_6 hF hS (r0Lies_ok hS.stab n.Exchanges 1 7 rv_2 hx_2) rfl rfl fun a w hF hS=>guard_on hF rfl rfl hbv_1 (step hF (Y.not hF rfl) rfl fun a hF=>step hF (Y.pick_f hF rfl hbv_1 rfl) rfl fun a hF=>?_)
  obtain rfl:=some_inj h
  exact nT ⟨hF.weak (AF rfl),hS.weak (AL rfl)⟩
 intro a w hF hS
 refine step hF (Y.move hF rfl) rfl fun a hF=>?_
 obtain ⟨t_2,ht_2,h⟩:=bind_some h
 refine join (N:=250) (rs:=[]) (w0:=w0) (D0:=D0) 5 (us:=[(3,.slice p_2 bits.length c_2),(4,.pointer (some ⟨b,0,none⟩)),(5,.pointer (some ⟨b_1,0,none⟩)),(6,.pointer (some ⟨b_2,0,none⟩)),(8,.bool false),(9,.pointer (some ⟨b_3,0,none⟩)),(54,.bool t_2)]) (ms:=[(1,.cells b [iv n.Exchanges,.slice p n.Lines.length c,iv n.Hops,.slice p_1 n.Loops.length c_1] 25),(2,.cells b_1 [iv rates.a0.Low,iv rates.a0.High,iv rates.a1.Low,iv rates.a1.High] 28),(3,.cells b_2 [iv k.a0,iv k.a1,iv k.a2,iv k.a3] 29),(5,.cells b_3 [iv 3,.slice p_3 ([rates.a0,rates.a1]).length c_3,.slice none 0 0,.slice none ([]:List BeatPair).length 0] 35),(6,.own none ([]:List BeatPair).length 0 ([]) 52 5)]) (D':=Dv_1) ?_ ?_
 ·rcases bcases t_1 with hbv_2 | hbv_2
  ·skip
   replace h:=cond_t ht_2 hbv_2
   refine guard_off hF rfl rfl hbv_2 rfl fun a hF=>guard_off hF rfl rfl hbv_2 rfl fun a hF=>guard_off hF rfl rfl hbv_2 rfl fun a hF=>guard_off hF rfl rfl hbv_2 rfl fun a hF=>step hF (Y.pick_t hF rfl hbv_2 rfl) rfl fun a hF=>?_
   obtain rfl:=some_inj h
   exact nT ⟨hF.weak (AF rfl),hS.weak (AL rfl)⟩
  replace h:=cond_f ht_2 hbv_2
  refine guard_on hF rfl rfl hbv_2 (step hF (Y.indexArr u_28 sz_27 hF rfl rfl (by decide) (by decide)) rfl fun a hF=>guard_on hF rfl rfl hbv_2 (step hF (Y.loadNL 2 sz_27 hF rfl hS rfl rfl rfl) rfl fun a hF=>guard_on hF rfl rfl hbv_2 ?_))
  obtain ⟨rv_3,hx_3,h⟩:=bind_some h
  refine O.callP (us:=[.agg #[iv rates.a0.Low,iv rates.a0.High],iv (-1000),iv 1000]) ca_7 hF hS (r0Valid_ok hS.stab rates.a0 (-1000) 1000 rv_3 hx_3) rfl rfl fun a w hF hS=>guard_on hF rfl rfl hbv_2 (step hF (Y.not hF rfl) rfl fun a hF=>step hF (Y.pick_f hF rfl hbv_2 rfl) rfl fun a hF=>?_)
  obtain rfl:=some_inj h
  exact nT ⟨hF.weak (AF rfl),hS.weak (AL rfl)⟩
 intro a w hF hS
 refine step hF (Y.move hF rfl) rfl fun a hF=>?_
 obtain ⟨t_3,ht_3,h⟩:=bind_some h
 refine join (N:=250) (rs:=[]) (w0:=w0) (D0:=D0) 5 (us:=[(3,.slice p_2 bits.length c_2),(4,.pointer (some ⟨b,0,none⟩)),(5,.pointer (some ⟨b_1,0,none⟩)),(6,.pointer (some ⟨b_2,0,none⟩)),(8,.bool false),(9,.pointer (some ⟨b_3,0,none⟩)),(60,.bool t_3)]) (ms:=[(1,.cells b [iv n.Exchanges,.slice p n.Lines.length c,iv n.Hops,.slice p_1 n.Loops.length c_1] 25),(2,.cells b_1 [iv rates.a0.Low,iv rates.a0.High,iv rates.a1.Low,iv rates.a1.High] 28),(3,.cells b_2 [iv k.a0,iv k.a1,iv k.a2,iv k.a3] 29),(5,.cells b_3 [iv 3,.slice p_3 ([rates.a0,rates.a1]).length c_3,.slice none 0 0,.slice none ([]:List BeatPair).length 0] 35),(6,.own none ([]:List BeatPair).length 0 ([]) 52 5)]) (D':=Dv_1) ?_ ?_
 ·rcases bcases t_2 with hbv_3 | hbv_3
  ·skip
   replace h:=cond_t ht_3 hbv_3
   refine guard_off hF rfl rfl hbv_3 rfl fun a hF=>guard_off hF rfl rfl hbv_3 rfl fun a hF=>guard_off hF rfl rfl hbv_3 rfl fun a hF=>guard_off hF rfl rfl hbv_3 rfl fun a hF=>step hF (Y.pick_t hF rfl hbv_3 rfl) rfl fun a hF=>?_
   obtain rfl:=some_inj h
   exact nT ⟨hF.weak (AF rfl),hS.weak (AL rfl)⟩
  replace h:=cond_f ht_3 hbv_3
  refine guard_on hF rfl rfl hbv_3 (step hF (Y.indexArr u_28 sz_27 hF rfl rfl (by decide) (by decide)) rfl fun a hF=>guard_on hF rfl rfl hbv_3 (step hF (Y.loadNL 2 sz_27 hF rfl hS rfl rfl rfl) rfl fun a hF=>guard_on hF rfl rfl hbv_3 ?_))
  obtain ⟨rv_4,hx_4,h⟩:=bind_some h
  refine O.callP (us:=[.agg #[iv rates.a1.Low,iv rates.a1.High],iv (-1000),iv 1000]) ca_7 hF hS (r0Valid_ok hS.stab rates.a1 (-1000) 1000 rv_4 hx_4) rfl rfl fun a w hF hS=>guard_on hF rfl rfl hbv_3 (step hF (Y.not hF rfl) rfl fun a hF=>step hF (Y.pick_f hF rfl hbv_3 rfl) rfl fun a hF=>?_)
  obtain rfl:=some_inj h
  exact nT ⟨hF.weak (AF rfl),hS.weak (AL rfl)⟩
 intro a w hF hS
 refine nT (cond_b hF rfl (fun hbv_4=>?_) (fun hbv_4=>?_))
 ·replace h:=cond_t h hbv_4
  refine seq (region ?_)
  obtain ⟨rv_5,hx_5,h⟩:=bind_some h
  refine O.callP (us:=[]) ca_8 hF hS (remontoirtop_rung06_ok hS.stab hG rv_5 hx_5) rfl rfl fun a w hF hS=>step hF (Y.assign hF rfl) rfl fun a hF=>nT (ret_ (then_r ?_))
  obtain rfl:=some_inj h
  exact leaveP Tryz.results3 hF hS (.cons (.tmp rfl) .nil) .nil rfl
 replace h:=cond_f h hbv_4
 refine skip_ (then_n (seq (region (step hF (Y.indexArr u_29 sz_3 hF rfl rfl (by decide) (by decide)) rfl fun a hF=>step hF (Y.load1L 3 sz_3 hF rfl hS rfl rfl) rfl fun a hF=>step hF (Y.fieldAddr fo_25_0 hF rfl) rfl fun a hF=>step hF (Y.load1L 1 sz_3 hF rfl hS rfl rfl) rfl fun a hF=>?_))))
 obtain ⟨rv_6,hx_6,h⟩:=bind_some h
 refine O.callP (us:=[iv k.a0,iv n.Exchanges]) ca_9 hF hS (r0Rest_ok hS.stab k.a0 n.Exchanges rv_6 hx_6) rfl rfl fun a w hF hS=>step hF (Y.assign hF rfl) rfl fun a hF=>nT (seq (region (step hF (Y.loadNL 1 sz_25 hF rfl hS rfl rfl rfl) rfl fun a hF=>step hF (Y.move hF rfl) rfl fun a hF=>?_)))
 obtain ⟨rv_7,hx_7,h⟩:=bind_some h
 refine O.callP (us:=[.agg #[iv n.Exchanges,.slice p n.Lines.length c,iv n.Hops,.slice p_1 n.Loops.length c_1],iv rv_6]) ca_10 hF hS (line_Delay_ok hS.stab n rv_6 hs hs_1 hG rv_7 hx_7) rfl rfl fun a w hF hS=>step hF (Y.move hF rfl) rfl fun a hF=>step hF (Y.extract hF rfl rfl) rfl fun a hF=>step hF (Y.extract hF rfl rfl) rfl fun a hF=>O.alloc 8 zc_27 hF hS rfl fun b_4 a w hF hS=>O.store (us:=[iv rv_7.1.Low,iv rv_7.1.High]) 8 sz_27 hF rfl rfl rfl rfl hS rfl rfl fun a w hF hS=>step hF (Y.assign hF rfl) rfl fun a hF=>nT (seq (seq (region (step hF (Y.move hF rfl) rfl fun a hF=>step hF (Y.neq hF rfl rfl) rfl fun a hF=>nT (cond_b hF rfl (fun hbv_5=>?_) (fun hbv_5=>?_))))))
 ·replace h:=cond_t h hbv_5
  refine seq (region (step hF (Y.move hF rfl) rfl fun a hF=>step hF (Y.eql hF rfl rfl) rfl fun a hF=>step hF (Y.move hF rfl) rfl fun a hF=>join (N:=250) (rs:=[]) (w0:=w0) (D0:=D0) 3 (us:=[(3,.slice p_2 bits.length c_2),(4,.pointer (some ⟨b,0,none⟩)),(5,.pointer (some ⟨b_1,0,none⟩)),(6,.pointer (some ⟨b_2,0,none⟩)),(8,.bool false),(9,.pointer (some ⟨b_3,0,none⟩)),(10,iv rv_6),(11,.pointer (some ⟨b_4,0,none⟩)),(12,iv rv_7.2),(80,.bool ((rv_7.2 == 4) || (rv_7.2 == 62)))]) (ms:=[(1,.cells b [iv n.Exchanges,.slice p n.Lines.length c,iv n.Hops,.slice p_1 n.Loops.length c_1] 25),(2,.cells b_1 [iv rates.a0.Low,iv rates.a0.High,iv rates.a1.Low,iv rates.a1.High] 28),(3,.cells b_2 [iv k.a0,iv k.a1,iv k.a2,iv k.a3] 29),(5,.cells b_3 [iv 3,.slice p_3 ([rates.a0,rates.a1]).length c_3,.slice none 0 0,.slice none ([]:List BeatPair).length 0] 35),(6,.own none ([]:List BeatPair).length 0 ([]) 52 5),(8,.cells b_4 [iv rv_7.1.Low,iv rv_7.1.High] 27)]) (D':=Dv_1) ?_ ?_))
  ·rcases bcases (rv_7.2 == 4) with hbv_6 | hbv_6
   ·skip
    refine guard_off hF rfl rfl hbv_6 rfl fun a hF=>guard_off hF rfl rfl hbv_6 rfl fun a hF=>step hF (Y.pick_t hF rfl hbv_6 rfl) rfl fun a hF=>nT ⟨hF.weak ⟨rfl,rfl,rfl,rfl,rfl,rfl,rfl,rfl,rfl,(by rw [hbv_6];rfl),trivial⟩,hS.weak (AL rfl)⟩
   refine guard_on hF rfl rfl hbv_6 (step hF (Y.move hF rfl) rfl fun a hF=>guard_on hF rfl rfl hbv_6 (step hF (Y.eql hF rfl rfl) rfl fun a hF=>step hF (Y.pick_f hF rfl hbv_6 rfl) rfl fun a hF=>nT ⟨hF.weak ⟨rfl,rfl,rfl,rfl,rfl,rfl,rfl,rfl,rfl,(by rw [hbv_6];rfl),trivial⟩,hS.weak (AL rfl)⟩))
  intro a w hF hS
  refine step hF (Y.move hF rfl) rfl fun a hF=>?_
  obtain ⟨t_4,ht_4,h⟩:=bind_some h
  refine join (N:=250) (rs:=[]) (w0:=w0) (D0:=D0) 2 (us:=[(3,.slice p_2 bits.length c_2),(4,.pointer (some ⟨b,0,none⟩)),(5,.pointer (some ⟨b_1,0,none⟩)),(6,.pointer (some ⟨b_2,0,none⟩)),(8,.bool false),(9,.pointer (some ⟨b_3,0,none⟩)),(10,iv rv_6),(11,.pointer (some ⟨b_4,0,none⟩)),(12,iv rv_7.2),(83,.bool t_4)]) (ms:=[(1,.cells b [iv n.Exchanges,.slice p n.Lines.length c,iv n.Hops,.slice p_1 n.Loops.length c_1] 25),(2,.cells b_1 [iv rates.a0.Low,iv rates.a0.High,iv rates.a1.Low,iv rates.a1.High] 28),(3,.cells b_2 [iv k.a0,iv k.a1,iv k.a2,iv k.a3] 29),(5,.cells b_3 [iv 3,.slice p_3 ([rates.a0,rates.a1]).length c_3,.slice none 0 0,.slice none ([]:List BeatPair).length 0] 35),(6,.own none ([]:List BeatPair).length 0 ([]) 52 5),(8,.cells b_4 [iv rv_7.1.Low,iv rv_7.1.High] 27)]) (D':=Dv_1) ?_ ?_
  ·rcases bcases ((rv_7.2 == 4) || (rv_7.2 == 62)) with hbv_7 | hbv_7
   ·skip
    replace h:=cond_t ht_4 hbv_7
    refine guard_on hF rfl rfl hbv_7 ?_
    obtain ⟨rv_8,hx_8,h⟩:=bind_some h
    refine O.callP (us:=[]) ca_8 hF hS (remontoirtop_rung06_ok hS.stab hG rv_8 hx_8) rfl rfl fun a w hF hS=>step hF (Y.pick_t hF rfl hbv_7 rfl) rfl fun a hF=>?_
    obtain rfl:=some_inj h
    exact nT ⟨hF.weak (AF rfl),hS.weak (AL rfl)⟩
   replace h:=cond_f ht_4 hbv_7
   refine guard_off hF rfl rfl hbv_7 rfl fun a hF=>step hF (Y.pick_f hF rfl hbv_7 rfl) rfl fun a hF=>?_
   obtain rfl:=some_inj h
   exact nT ⟨hF.weak (AF rfl),hS.weak (AL rfl)⟩
  intro a w hF hS
  refine step hF (Y.assign hF rfl) rfl fun a hF=>nT (ret_ (then_r ?_))
  obtain rfl:=some_inj h
  exact leaveP Tryz.results3 hF hS (.cons (.tmp rfl) .nil) .nil rfl
 replace h:=cond_f h hbv_5
 refine skip_ (then_n (seq (seq (region (step hF (Y.loadNL 8 sz_27 hF rfl hS rfl rfl rfl) rfl fun a hF=>?_)))))
 obtain ⟨rv_9,hx_9,h⟩:=bind_some h
 refine O.callP (us:=[.agg #[iv rv_7.1.Low,iv rv_7.1.High],iv 0,iv 6000]) ca_7 hF hS (r0Valid_ok hS.stab rv_7.1 0 6000 rv_9 hx_9) rfl rfl fun a w hF hS=>step hF (Y.not hF rfl) rfl fun a hF=>nT (cond_b hF rfl (fun hbv_8=>?_) (fun hbv_8=>?_))
 ·replace h:=cond_t h hbv_8
  refine seq (region (step hF (Y.assign hF rfl) rfl fun a hF=>nT (ret_ (then_r ?_))))
  obtain rfl:=some_inj h
  exact leaveP Tryz.results3 hF hS (.cons (.tmp rfl) .nil) .nil rfl
 replace h:=cond_f h hbv_8
 refine skip_ (then_n (seq (region (step hF (Y.assign hF rfl) rfl fun a hF=>?_))))
 replace hS:=hS.ownNil 9 30 1
 refine nT (seq (seq (region (step hF (Y.assign hF rfl) rfl fun a hF=>nT (block (loop_cut (body:=remontoirtop_TopCompared_b1 n rates k bits rv_6 rv_7) (out:=out) (fun s a w=>∃ (l:(List (List Int))) (i:Int),∃ (Dv_2:Stab),∃ p_4 c_4 cs,s=(l,i)∧Dv_1.le Dv_2∧Frm 250 [] [(3,.slice p_2 bits.length c_2),(4,.pointer (some ⟨b,0,none⟩)),(5,.pointer (some ⟨b_1,0,none⟩)),(6,.pointer (some ⟨b_2,0,none⟩)),(8,.bool false),(9,.pointer (some ⟨b_3,0,none⟩)),(10,iv rv_6),(11,.pointer (some ⟨b_4,0,none⟩)),(12,iv rv_7.2),(13,.slice p_4 l.length c_4),(14,iv i)] a∧St w0 D0 Dv_2 [(1,.cells b [iv n.Exchanges,.slice p n.Lines.length c,iv n.Hops,.slice p_1 n.Loops.length c_1] 25),(2,.cells b_1 [iv rates.a0.Low,iv rates.a0.High,iv rates.a1.Low,iv rates.a1.High] 28),(3,.cells b_2 [iv k.a0,iv k.a1,iv k.a2,iv k.a3] 29),(5,.cells b_3 [iv 3,.slice p_3 ([rates.a0,rates.a1]).length c_3,.slice none 0 0,.slice none ([]:List BeatPair).length 0] 35),(6,.own none ([]:List BeatPair).length 0 ([]) 52 5),(8,.cells b_4 [iv rv_7.1.Low,iv rv_7.1.High] 27),(9,.own p_4 l.length c_4 cs 30 1)] w∧Reps (C_sl C_int) Dv_2 l cs) (([]:List (List Int)),0) h ⟨([]:List (List Int)),0,Dv_1,none,0,([]),rfl,Stab.le.refl _,hF.weak (AF rfl),hS.weak (AL rfl),Reps.nil⟩ ?_))))))
 rintro s a w xo ⟨l,i,Dv_2,p_4,c_4,cs,rfl,hlev_2,hF,hS,hr_1⟩ h hxo
 unfold remontoirtop_TopCompared_b1 at h
 dsimp only at h
 replace hs:=hs.mono hlev_2
 replace hs_1:=hs_1.mono hlev_2
 replace hs_2:=hs_2.mono hlev_2
 replace hG:=hG.mono hlev_2
 replace hs_3:=hs_3.mono hlev_2
 refine seq (seq (region (step hF (Y.move hF rfl) rfl fun a hF=>step hF (Y.lss hF rfl rfl) rfl fun a hF=>nT (cond_b hF rfl (fun hbv_9=>?_) (fun hbv_9=>?_)))))
 ·replace h:=cond_t h hbv_9
  refine skip_ (then_n (seq (block (seq ?_))))
  obtain ⟨rv_10,hx_10,h⟩:=bind_some h
  obtain ⟨hg,h⟩:=ite_some h
  refine drawsV 5 (.flt 1 (.flt 2 (.flt 3 (.flt 4 (.alt 0 .done .stop))))) mixed_ (by kernel_rfl) (fun w=>St w0 D0 Dv_2 [(1,.cells b [iv n.Exchanges,.slice p n.Lines.length c,iv n.Hops,.slice p_1 n.Loops.length c_1] 25),(2,.cells b_1 [iv rates.a0.Low,iv rates.a0.High,iv rates.a1.Low,iv rates.a1.High] 28),(3,.cells b_2 [iv k.a0,iv k.a1,iv k.a2,iv k.a3] 29),(5,.cells b_3 [iv 3,.slice p_3 ([rates.a0,rates.a1]).length c_3,.slice none 0 0,.slice none ([]:List BeatPair).length 0] 35),(6,.own none ([]:List BeatPair).length 0 ([]) 52 5),(8,.cells b_4 [iv rv_7.1.Low,iv rv_7.1.High] 27),(9,.own p_4 l.length c_4 cs 30 1)] w) (fun a w=>Frm 250 [] [(3,.slice p_2 bits.length c_2),(4,.pointer (some ⟨b,0,none⟩)),(5,.pointer (some ⟨b_1,0,none⟩)),(6,.pointer (some ⟨b_2,0,none⟩)),(8,.bool false),(9,.pointer (some ⟨b_3,0,none⟩)),(10,iv rv_6),(11,.pointer (some ⟨b_4,0,none⟩)),(12,iv rv_7.2),(13,.slice p_4 l.length c_4),(14,iv i),(91,.agg #[iv rv_10.Low,iv rv_10.High]),(95,iv (([k.a0,k.a1,k.a2,k.a3]:List Int).getD (Int.toNat (wr (1 + i))) 0))] a∧St w0 D0 Dv_2 [(1,.cells b [iv n.Exchanges,.slice p n.Lines.length c,iv n.Hops,.slice p_1 n.Loops.length c_1] 25),(2,.cells b_1 [iv rates.a0.Low,iv rates.a0.High,iv rates.a1.Low,iv rates.a1.High] 28),(3,.cells b_2 [iv k.a0,iv k.a1,iv k.a2,iv k.a3] 29),(5,.cells b_3 [iv 3,.slice p_3 ([rates.a0,rates.a1]).length c_3,.slice none 0 0,.slice none ([]:List BeatPair).length 0] 35),(6,.own none ([]:List BeatPair).length 0 ([]) 52 5),(8,.cells b_4 [iv rv_7.1.Low,iv rv_7.1.High] 27),(9,.own p_4 l.length c_4 cs 30 1)] w) (hS.weak (ms:=[(1,.cells b [iv n.Exchanges,.slice p n.Lines.length c,iv n.Hops,.slice p_1 n.Loops.length c_1] 25),(2,.cells b_1 [iv rates.a0.Low,iv rates.a0.High,iv rates.a1.Low,iv rates.a1.High] 28),(3,.cells b_2 [iv k.a0,iv k.a1,iv k.a2,iv k.a3] 29),(5,.cells b_3 [iv 3,.slice p_3 ([rates.a0,rates.a1]).length c_3,.slice none 0 0,.slice none ([]:List BeatPair).length 0] 35),(6,.own none ([]:List BeatPair).length 0 ([]) 52 5),(8,.cells b_4 [iv rv_7.1.Low,iv rv_7.1.High] 27),(9,.own p_4 l.length c_4 cs 30 1)]) (AL rfl)).drew (fun _ _ _ _ h=>h) ?_ ?_
  ·replace hS:=hS.drew
   have hle0:=hS.le
   refine stepV (i:=1) rfl hF (fun w hS=>Y.move hF rfl) rfl fun a hF=>stepV (i:=2) rfl hF (fun w hS=>Y.add hF rfl rfl) rfl fun a hF=>stepV (i:=3) rfl hF (fun w hS=>Y.indexArr u_29 sz_3 hF rfl rfl hg.1 hg.2) rfl fun a hF=>stepV (i:=4) rfl hF (fun w hS=>(show Yields _ _ _ _ (iv (([k.a0,k.a1,k.a2,k.a3]:List Int).getD (Int.toNat (wr (1 + i))) 0)) from Y.load1A (F:=celI) (xs:=[k.a0,k.a1,k.a2,k.a3]) (n:=4) 3 0 sz_3 rfl hg hF rfl hS rfl)) rfl fun a hF=>oneV (i:=0) rfl ?_ trivial
   refine O.callP (us:=[iv (-2000),iv 2000]) ca_12 hF hS (r0To_ok hS.stab (-2000) 2000 rv_10 hx_10) rfl rfl fun a w hF hS=>nT ⟨hS.weak (AL rfl),?_⟩
   exact toTailV ⟨hF.weak (AF rfl),hS.weak (AL rfl)⟩
  rintro a w ⟨hF,hS⟩
  obtain ⟨rv_11,hx_11,h⟩:=bind_some h
  refine O.callP (us:=[.agg #[iv rv_10.Low,iv rv_10.High],iv (([k.a0,k.a1,k.a2,k.a3]:List Int).getD (Int.toNat (wr (1 + i))) 0)]) ca_11 hF hS (r0From_ok hS.stab rv_10 (([k.a0,k.a1,k.a2,k.a3]:List Int).getD (Int.toNat (wr (1 + i))) 0) rv_11 hx_11) rfl rfl fun a w hF hS=>step hF (Y.assign hF rfl) rfl fun a hF=>nT (seq (region (step hF (Y.move hF rfl) rfl fun a hF=>?_)))
  have hr_2:Reps C_int Dv_2 [rv_11] [iv rv_11]:=Reps.cons (C:=C_int) (x:=rv_11) (c:=[iv rv_11]) (r:=[]) rfl (Reps.nil)
  refine O.buildSlice (E:=3) (C:=C_int) (xs:=[rv_11]) (cs:=[iv rv_11]) (us:=[iv rv_11]) (parts:=[(0,(.tmp 97))]) 10 hF hS rfl (by kernel_rfl) hr_2 rfl rfl rfl fun p_5 c_5 a w hF hS=>step hF (Y.assign hF rfl) rfl fun a hF=>nT (seq (seq (region (step hF (Y.assign hF rfl) rfl fun a hF=>nT (block (loop_cut (body:=remontoirtop_TopCompared_b2 rates bits l i) (out:=xo) (fun s a w=>∃ (now:Int) (row:(List Int)) (hv:Int),∃ (Dv_3:Stab),∃ p_6 c_6 cs_1,s=(now,row,hv)∧Dv_2.le Dv_3∧Frm 250 [] [(3,.slice p_2 bits.length c_2),(4,.pointer (some ⟨b,0,none⟩)),(5,.pointer (some ⟨b_1,0,none⟩)),(6,.pointer (some ⟨b_2,0,none⟩)),(8,.bool false),(9,.pointer (some ⟨b_3,0,none⟩)),(10,iv rv_6),(11,.pointer (some ⟨b_4,0,none⟩)),(12,iv rv_7.2),(13,.slice p_4 l.length c_4),(14,iv i),(15,iv now),(16,.slice p_6 row.length c_6),(17,iv hv)] a∧St w0 D0 Dv_3 [(1,.cells b [iv n.Exchanges,.slice p n.Lines.length c,iv n.Hops,.slice p_1 n.Loops.length c_1] 25),(2,.cells b_1 [iv rates.a0.Low,iv rates.a0.High,iv rates.a1.Low,iv rates.a1.High] 28),(3,.cells b_2 [iv k.a0,iv k.a1,iv k.a2,iv k.a3] 29),(5,.cells b_3 [iv 3,.slice p_3 ([rates.a0,rates.a1]).length c_3,.slice none 0 0,.slice none ([]:List BeatPair).length 0] 35),(6,.own none ([]:List BeatPair).length 0 ([]) 52 5),(8,.cells b_4 [iv rv_7.1.Low,iv rv_7.1.High] 27),(9,.own p_4 l.length c_4 cs 30 1),(10,.own p_6 row.length c_6 cs_1 3 1)] w∧Reps C_int Dv_3 row cs_1) (rv_11,[rv_11],0) h ⟨rv_11,([rv_11]),0,Dv_2,p_5,c_5,([iv rv_11]),rfl,Stab.le.refl _,hF.weak (AF rfl),hS.weak (AL rfl),hr_2⟩ ?_))))))
  rintro s a w xo_1 ⟨now,row,hv,Dv_3,p_6,c_6,cs_1,rfl,hlev_3,hF,hS,hr_3⟩ h hxo_1
  unfold remontoirtop_TopCompared_b2 at h
  dsimp only at h
  replace hs_2:=hs_2.mono hlev_3
  replace hr_1:=hr_1.mono hlev_3
  refine seq (seq (region (step hF (Y.move hF rfl) rfl fun a hF=>step hF (Y.lss hF rfl rfl) rfl fun a hF=>nT (cond_b hF rfl (fun hbv_10=>?_) (fun hbv_10=>?_)))))
  ·replace h:=cond_t h hbv_10
   refine skip_ (then_n (seq (block (seq ?_))))
   obtain ⟨hg_1,h⟩:=ite_some h
   obtain ⟨rv_12,hx_12,h⟩:=bind_some h
   obtain ⟨rv_13,hx_13,h⟩:=bind_some h
   refine drawsV 11 (.flt 0 (.flt 1 (.flt 2 (.flt 3 (.flt 4 (.flt 5 (.flt 6 (.flt 7 (.flt 8 (.alt 9 (.alt 10 .done .stop) .stop)))))))))) mixed_ (by kernel_rfl) (fun w=>St w0 D0 Dv_3 [(1,.cells b [iv n.Exchanges,.slice p n.Lines.length c,iv n.Hops,.slice p_1 n.Loops.length c_1] 25),(2,.cells b_1 [iv rates.a0.Low,iv rates.a0.High,iv rates.a1.Low,iv rates.a1.High] 28),(3,.cells b_2 [iv k.a0,iv k.a1,iv k.a2,iv k.a3] 29),(5,.cells b_3 [iv 3,.slice p_3 ([rates.a0,rates.a1]).length c_3,.slice none 0 0,.slice none ([]:List BeatPair).length 0] 35),(6,.own none ([]:List BeatPair).length 0 ([]) 52 5),(8,.cells b_4 [iv rv_7.1.Low,iv rv_7.1.High] 27),(9,.own p_4 l.length c_4 cs 30 1),(10,.own p_6 row.length c_6 cs_1 3 1)] w) (fun a w=>Frm 250 [] [(3,.slice p_2 bits.length c_2),(4,.pointer (some ⟨b,0,none⟩)),(5,.pointer (some ⟨b_1,0,none⟩)),(6,.pointer (some ⟨b_2,0,none⟩)),(8,.bool false),(9,.pointer (some ⟨b_3,0,none⟩)),(10,iv rv_6),(11,.pointer (some ⟨b_4,0,none⟩)),(12,iv rv_7.2),(13,.slice p_4 l.length c_4),(14,iv i),(15,iv now),(16,.slice p_6 row.length c_6),(17,iv hv),(103,iv now),(113,iv rv_13)] a∧St w0 D0 Dv_3 [(1,.cells b [iv n.Exchanges,.slice p n.Lines.length c,iv n.Hops,.slice p_1 n.Loops.length c_1] 25),(2,.cells b_1 [iv rates.a0.Low,iv rates.a0.High,iv rates.a1.Low,iv rates.a1.High] 28),(3,.cells b_2 [iv k.a0,iv k.a1,iv k.a2,iv k.a3] 29),(5,.cells b_3 [iv 3,.slice p_3 ([rates.a0,rates.a1]).length c_3,.slice none 0 0,.slice none ([]:List BeatPair).length 0] 35),(6,.own none ([]:List BeatPair).length 0 ([]) 52 5),(8,.cells b_4 [iv rv_7.1.Low,iv rv_7.1.High] 27),(9,.own p_4 l.length c_4 cs 30 1),(10,.own p_6 row.length c_6 cs_1 3 1)] w) (hS.weak (ms:=[(1,.cells b [iv n.Exchanges,.slice p n.Lines.length c,iv n.Hops,.slice p_1 n.Loops.length c_1] 25),(2,.cells b_1 [iv rates.a0.Low,iv rates.a0.High,iv rates.a1.Low,iv rates.a1.High] 28),(3,.cells b_2 [iv k.a0,iv k.a1,iv k.a2,iv k.a3] 29),(5,.cells b_3 [iv 3,.slice p_3 ([rates.a0,rates.a1]).length c_3,.slice none 0 0,.slice none ([]:List BeatPair).length 0] 35),(6,.own none ([]:List BeatPair).length 0 ([]) 52 5),(8,.cells b_4 [iv rv_7.1.Low,iv rv_7.1.High] 27),(9,.own p_4 l.length c_4 cs 30 1),(10,.own p_6 row.length c_6 cs_1 3 1)]) (AL rfl)).drew (fun _ _ _ _ h=>h) ?_ ?_
   ·replace hS:=hS.drew
    have hle0:=hS.le
    refine stepV (i:=0) rfl hF (fun w hS=>Y.move hF rfl) rfl fun a hF=>stepV (i:=1) rfl hF (fun w hS=>Y.move hF rfl) rfl fun a hF=>stepV (i:=2) rfl hF (fun w hS=>Y.indexArr u_28 sz_27 hF rfl rfl hg_1.1 hg_1.2) rfl fun a hF=>stepV (i:=3) rfl hF (fun w hS=>(show Yields _ _ _ _ (.agg #[iv ((([rates.a0,rates.a1]:List Span).getD (Int.toNat i) (Span.mk 0 0)).Low),iv ((([rates.a0,rates.a1]:List Span).getD (Int.toNat i) (Span.mk 0 0)).High)]) from Y.loadAN (F:=celN_27) (xs:=[rates.a0,rates.a1]) (m:=2) 2 (Span.mk 0 0) sz_27 rfl hg_1 hF rfl hS rfl)) rfl fun a hF=>stepV (i:=4) rfl hF (fun w hS=>Y.move hF rfl) rfl fun a hF=>stepV (i:=5) rfl hF (fun w hS=>Y.move hF rfl) rfl fun a hF=>stepV (i:=6) rfl hF (fun w hS=>Y.mul hF rfl rfl) rfl fun a hF=>stepV (i:=7) rfl hF (fun w hS=>Y.move hF rfl) rfl fun a hF=>stepV (i:=8) rfl hF (fun w hS=>Y.add hF rfl rfl) rfl fun a hF=>oneV (i:=9) rfl ?_ trivial
    refine O.callP (us:=[.slice p_2 bits.length c_2,iv (wr ((wr (3 * i)) + hv))]) ca_13 hF hS (r0At_ok hS.stab bits (wr ((wr (3 * i)) + hv)) hs_2 rv_12 hx_12) rfl rfl fun a w hF hS=>nT ⟨hS.weak (AL rfl),?_⟩
    refine oneV (i:=10) rfl ?_ trivial
    refine O.callP (us:=[.agg #[iv ((([rates.a0,rates.a1]:List Span).getD (Int.toNat i) (Span.mk 0 0)).Low),iv ((([rates.a0,rates.a1]:List Span).getD (Int.toNat i) (Span.mk 0 0)).High)],iv rv_12]) ca_11 hF hS (r0From_ok hS.stab (Span.mk ((([rates.a0,rates.a1]:List Span).getD (Int.toNat i) (Span.mk 0 0)).Low) ((([rates.a0,rates.a1]:List Span).getD (Int.toNat i) (Span.mk 0 0)).High)) rv_12 rv_13 hx_13) rfl rfl fun a w hF hS=>nT ⟨hS.weak (AL rfl),?_⟩
    exact toTailV ⟨hF.weak (AF rfl),hS.weak (AL rfl)⟩
   rintro a w ⟨hF,hS⟩
   refine step hF (Y.add hF rfl rfl) rfl fun a hF=>step hF (Y.assign hF rfl) rfl fun a hF=>nT (region (step hF (Y.move hF rfl) rfl fun a hF=>step hF (Y.move hF rfl) rfl fun a hF=>?_))
   have hr_4:Reps C_int Dv_3 [wr (now + rv_13)] [iv (wr (now + rv_13))]:=Reps.cons (C:=C_int) (x:=wr (now + rv_13)) (c:=[iv (wr (now + rv_13))]) (r:=[]) rfl (Reps.nil)
   refine O.buildSlice (E:=3) (C:=C_int) (xs:=[wr (now + rv_13)]) (cs:=[iv (wr (now + rv_13))]) (us:=[iv (wr (now + rv_13))]) (parts:=[(0,(.tmp 116))]) 11 hF hS rfl (by kernel_rfl) hr_4 rfl rfl rfl fun p_7 c_7 a w hF hS=>?_
   obtain ⟨hg_2,h⟩:=ite_some h
   refine O.append (C:=C_int) (xs:=row) (ys:=[wr (now + rv_13)]) 10 gr_30 hF rfl rfl hS rfl (src_own (i:=11) hS rfl) hr_3 hr_4 hg_2 rfl fun p_8 c_8 a w hF hS hr_5=>step hF (Y.assign hF rfl) rfl fun a hF=>nil (blk_n (then_n (region (step hF (Y.move hF rfl) rfl fun a hF=>step hF (Y.add hF rfl rfl) rfl fun a hF=>step hF (Y.assign hF rfl) rfl fun a hF=>nT (⟨_,nxt_some h,(wr (now + rv_13)),(row ++ [wr (now + rv_13)]),(wr (hv + 1)),Dv_3,p_8,c_8,(cs_1 ++ [iv (wr (now + rv_13))]),rfl,hlev_3,hF.weak (AF rfl),hS.weak (AL rfl),hr_5⟩)))))
  replace h:=cond_f h hbv_10
  refine exit_ (then_x (then_x (blk_hit (then_n ?_))))
  replace h:=ext_some h hxo_1
  refine region (step hF (Y.move hF rfl) rfl fun a hF=>step hF (Y.move hF rfl) rfl fun a hF=>?_)
  obtain ⟨Dv_4,hlev_4,hs_5,hS⟩:=hS.freezeC (C:=C_int) (i:=10) (xs:=row) rfl hr_3
  replace hr_1:=hr_1.mono hlev_4
  have hr_6:Reps (C_sl C_int) Dv_4 [row] [.slice p_6 row.length c_6]:=Reps.cons (C:=(C_sl C_int)) (x:=row) (c:=[.slice p_6 row.length c_6]) (r:=[]) (⟨_,_,rfl,hs_5⟩) (Reps.nil)
  refine O.buildSlice (E:=30) (C:=(C_sl C_int)) (xs:=[row]) (cs:=[.slice p_6 row.length c_6]) (us:=[.slice p_6 row.length c_6]) (parts:=[(0,(.tmp 120))]) 12 hF hS rfl (by kernel_rfl) hr_6 rfl rfl rfl fun p_9 c_9 a w hF hS=>?_
  obtain ⟨hg_3,h⟩:=ite_some h
  refine O.append (C:=(C_sl C_int)) (xs:=l) (ys:=[row]) 9 gr_45 hF rfl rfl hS rfl (src_own (i:=12) hS rfl) hr_1 hr_6 hg_3 rfl fun p_10 c_10 a w hF hS hr_7=>step hF (Y.assign hF rfl) rfl fun a hF=>nil (blk_n (then_n (region (step hF (Y.move hF rfl) rfl fun a hF=>step hF (Y.add hF rfl rfl) rfl fun a hF=>step hF (Y.assign hF rfl) rfl fun a hF=>nT (⟨_,nxt_some h,(l ++ [row]),(wr (i + 1)),Dv_4,p_10,c_10,(cs ++ [.slice p_6 row.length c_6]),rfl,hlev_2.trans (hlev_3.trans hlev_4),hF.weak (AF rfl),hS.weak (AL rfl),hr_7⟩)))))
 replace h:=cond_f h hbv_9
 refine exit_ (then_x (then_x (blk_hit (then_n ?_))))
 replace h:=ext_some h hxo
 refine seq (seq (region (step hF (Y.assign hF rfl) rfl fun a hF=>nT (block ?_))))
 replace hS:=hS.ownNil 13 52 5
 refine loop_cut (body:=remontoirtop_TopCompared_b3 n rates k bits rv_6 rv_7 l) (out:=out) (fun s a w=>∃ (hv_1:Int) (l_1:(List BeatPair)),∃ (Dv_5:Stab),∃ p_11 c_11 cs_2,s=(hv_1,l_1)∧Dv_2.le Dv_5∧Frm 250 [] [(3,.slice p_2 bits.length c_2),(4,.pointer (some ⟨b,0,none⟩)),(6,.pointer (some ⟨b_2,0,none⟩)),(8,.bool false),(9,.pointer (some ⟨b_3,0,none⟩)),(10,iv rv_6),(11,.pointer (some ⟨b_4,0,none⟩)),(12,iv rv_7.2),(13,.slice p_4 l.length c_4),(18,iv hv_1)] a∧St w0 D0 Dv_5 [(1,.cells b [iv n.Exchanges,.slice p n.Lines.length c,iv n.Hops,.slice p_1 n.Loops.length c_1] 25),(2,.cells b_1 [iv rates.a0.Low,iv rates.a0.High,iv rates.a1.Low,iv rates.a1.High] 28),(3,.cells b_2 [iv k.a0,iv k.a1,iv k.a2,iv k.a3] 29),(5,.cells b_3 [iv 3,.slice p_3 ([rates.a0,rates.a1]).length c_3,.slice none 0 0,.slice p_11 l_1.length c_11] 35),(6,.own none ([]:List BeatPair).length 0 ([]) 52 5),(8,.cells b_4 [iv rv_7.1.Low,iv rv_7.1.High] 27),(9,.own p_4 l.length c_4 cs 30 1),(13,.own p_11 l_1.length c_11 cs_2 52 5)] w∧Reps C_BeatPair Dv_5 l_1 cs_2) (0,([]:List BeatPair)) h ⟨0,([]:List BeatPair),Dv_2,none,0,([]),rfl,Stab.le.refl _,hF.weak (AF rfl),hS.weak (AL rfl),Reps.nil⟩ ?_
 rintro s a w xo_2 ⟨hv_1,l_1,Dv_5,p_11,c_11,cs_2,rfl,hlev_5,hF,hS,hr_8⟩ h hxo_2
 unfold remontoirtop_TopCompared_b3 at h
 dsimp only at h
 replace hs:=hs.mono hlev_5
 replace hs_1:=hs_1.mono hlev_5
 replace hs_2:=hs_2.mono hlev_5
 replace hG:=hG.mono hlev_5
 replace hs_3:=hs_3.mono hlev_5
 replace hr_1:=hr_1.mono hlev_5
 refine seq (seq (region (step hF (Y.move hF rfl) rfl fun a hF=>step hF (Y.leq hF rfl rfl) rfl fun a hF=>nT (cond_b hF rfl (fun hbv_11=>?_) (fun hbv_11=>?_)))))
 ·replace h:=cond_t h hbv_11
  refine skip_ (then_n (seq (block (seq ?_))))
  obtain ⟨rv_14,hx_14,h⟩:=bind_some h
  refine drawsV 5 (.flt 0 (.flt 1 (.flt 2 (.flt 3 (.alt 4 .done .stop))))) mixed_ (by kernel_rfl) (fun w=>St w0 D0 Dv_5 [(1,.cells b [iv n.Exchanges,.slice p n.Lines.length c,iv n.Hops,.slice p_1 n.Loops.length c_1] 25),(2,.cells b_1 [iv rates.a0.Low,iv rates.a0.High,iv rates.a1.Low,iv rates.a1.High] 28),(3,.cells b_2 [iv k.a0,iv k.a1,iv k.a2,iv k.a3] 29),(5,.cells b_3 [iv 3,.slice p_3 ([rates.a0,rates.a1]).length c_3,.slice none 0 0,.slice p_11 l_1.length c_11] 35),(6,.own none ([]:List BeatPair).length 0 ([]) 52 5),(8,.cells b_4 [iv rv_7.1.Low,iv rv_7.1.High] 27),(9,.own p_4 l.length c_4 cs 30 1),(13,.own p_11 l_1.length c_11 cs_2 52 5)] w) (fun a w=>Frm 250 [] [(3,.slice p_2 bits.length c_2),(4,.pointer (some ⟨b,0,none⟩)),(6,.pointer (some ⟨b_2,0,none⟩)),(8,.bool false),(9,.pointer (some ⟨b_3,0,none⟩)),(10,iv rv_6),(11,.pointer (some ⟨b_4,0,none⟩)),(12,iv rv_7.2),(13,.slice p_4 l.length c_4),(18,iv hv_1),(127,.agg #[iv rv_7.1.Low,iv rv_7.1.High]),(131,iv rv_14)] a∧St w0 D0 Dv_5 [(1,.cells b [iv n.Exchanges,.slice p n.Lines.length c,iv n.Hops,.slice p_1 n.Loops.length c_1] 25),(2,.cells b_1 [iv rates.a0.Low,iv rates.a0.High,iv rates.a1.Low,iv rates.a1.High] 28),(3,.cells b_2 [iv k.a0,iv k.a1,iv k.a2,iv k.a3] 29),(5,.cells b_3 [iv 3,.slice p_3 ([rates.a0,rates.a1]).length c_3,.slice none 0 0,.slice p_11 l_1.length c_11] 35),(6,.own none ([]:List BeatPair).length 0 ([]) 52 5),(8,.cells b_4 [iv rv_7.1.Low,iv rv_7.1.High] 27),(9,.own p_4 l.length c_4 cs 30 1),(13,.own p_11 l_1.length c_11 cs_2 52 5)] w) (hS.weak (ms:=[(1,.cells b [iv n.Exchanges,.slice p n.Lines.length c,iv n.Hops,.slice p_1 n.Loops.length c_1] 25),(2,.cells b_1 [iv rates.a0.Low,iv rates.a0.High,iv rates.a1.Low,iv rates.a1.High] 28),(3,.cells b_2 [iv k.a0,iv k.a1,iv k.a2,iv k.a3] 29),(5,.cells b_3 [iv 3,.slice p_3 ([rates.a0,rates.a1]).length c_3,.slice none 0 0,.slice p_11 l_1.length c_11] 35),(6,.own none ([]:List BeatPair).length 0 ([]) 52 5),(8,.cells b_4 [iv rv_7.1.Low,iv rv_7.1.High] 27),(9,.own p_4 l.length c_4 cs 30 1),(13,.own p_11 l_1.length c_11 cs_2 52 5)]) (AL rfl)).drew (fun _ _ _ _ h=>h) ?_ ?_
  ·replace hS:=hS.drew
   have hle0:=hS.le
   refine stepV (i:=0) rfl hF (fun w hS=>Y.loadNL 8 sz_27 hF rfl hS rfl rfl rfl) rfl fun a hF=>stepV (i:=1) rfl hF (fun w hS=>Y.move hF rfl) rfl fun a hF=>stepV (i:=2) rfl hF (fun w hS=>Y.move hF rfl) rfl fun a hF=>stepV (i:=3) rfl hF (fun w hS=>Y.add hF rfl rfl) rfl fun a hF=>oneV (i:=4) rfl ?_ trivial
   refine O.callP (us:=[.slice p_2 bits.length c_2,iv (wr (hv_1 + 6))]) ca_13 hF hS (r0At_ok hS.stab bits (wr (hv_1 + 6)) hs_2 rv_14 hx_14) rfl rfl fun a w hF hS=>nT ⟨hS.weak (AL rfl),?_⟩
   exact toTailV ⟨hF.weak (AF rfl),hS.weak (AL rfl)⟩
  rintro a w ⟨hF,hS⟩
  obtain ⟨rv_15,hx_15,h⟩:=bind_some h
  refine O.callP (us:=[.agg #[iv rv_7.1.Low,iv rv_7.1.High],iv rv_14]) ca_11 hF hS (r0From_ok hS.stab rv_7.1 rv_14 rv_15 hx_15) rfl rfl fun a w hF hS=>step hF (Y.assign hF rfl) rfl fun a hF=>nT (seq_cut (fun a w=>∃ (delay:Int),∃ (Dv_6:Stab),Dv_5.le Dv_6∧Frm 250 [] [(3,.slice p_2 bits.length c_2),(4,.pointer (some ⟨b,0,none⟩)),(6,.pointer (some ⟨b_2,0,none⟩)),(8,.bool false),(9,.pointer (some ⟨b_3,0,none⟩)),(10,iv rv_6),(11,.pointer (some ⟨b_4,0,none⟩)),(12,iv rv_7.2),(13,.slice p_4 l.length c_4),(18,iv hv_1),(19,iv delay)] a∧St w0 D0 Dv_6 [(1,.cells b [iv n.Exchanges,.slice p n.Lines.length c,iv n.Hops,.slice p_1 n.Loops.length c_1] 25),(2,.cells b_1 [iv rates.a0.Low,iv rates.a0.High,iv rates.a1.Low,iv rates.a1.High] 28),(3,.cells b_2 [iv k.a0,iv k.a1,iv k.a2,iv k.a3] 29),(5,.cells b_3 [iv 3,.slice p_3 ([rates.a0,rates.a1]).length c_3,.slice none 0 0,.slice p_11 l_1.length c_11] 35),(6,.own none ([]:List BeatPair).length 0 ([]) 52 5),(8,.cells b_4 [iv rv_7.1.Low,iv rv_7.1.High] 27),(9,.own p_4 l.length c_4 cs 30 1),(13,.own p_11 l_1.length c_11 cs_2 52 5)] w∧remontoirtop_TopCompared_k4 rv_7 l hv_1 l_1 delay=some xo_2) ?_ ?_)
  ·skip
   refine seq (region (step hF (Y.loadNL 1 sz_25 hF rfl hS rfl rfl rfl) rfl fun a hF=>step hF (Y.move hF rfl) rfl fun a hF=>step hF (Y.move hF rfl) rfl fun a hF=>?_))
   obtain ⟨rv_17,hx_21,h⟩:=bind_some h
   refine O.callP (us:=[.agg #[iv n.Exchanges,.slice p n.Lines.length c,iv n.Hops,.slice p_1 n.Loops.length c_1],iv rv_6,iv rv_15]) ca_14 hF hS (line_Can_ok hS.stab n rv_6 rv_15 hs hs_1 hG rv_17 hx_21) rfl rfl fun a w hF hS=>step hF (Y.move hF rfl) rfl fun a hF=>step hF (Y.extract hF rfl rfl) rfl fun a hF=>step hF (Y.extract hF rfl rfl) rfl fun a hF=>step hF (Y.assign hF rfl) rfl fun a hF=>step hF (Y.assign hF rfl) rfl fun a hF=>nT (seq (region (step hF (Y.move hF rfl) rfl fun a hF=>step hF (Y.neq hF rfl rfl) rfl fun a hF=>step hF (Y.move hF rfl) rfl fun a hF=>join (N:=250) (rs:=[]) (w0:=w0) (D0:=D0) 3 (us:=[(3,.slice p_2 bits.length c_2),(4,.pointer (some ⟨b,0,none⟩)),(6,.pointer (some ⟨b_2,0,none⟩)),(8,.bool false),(9,.pointer (some ⟨b_3,0,none⟩)),(10,iv rv_6),(11,.pointer (some ⟨b_4,0,none⟩)),(12,iv rv_7.2),(13,.slice p_4 l.length c_4),(18,iv hv_1),(19,iv rv_15),(145,.bool ((rv_17.2 != 0) || (!rv_17.1)))]) (ms:=[(1,.cells b [iv n.Exchanges,.slice p n.Lines.length c,iv n.Hops,.slice p_1 n.Loops.length c_1] 25),(2,.cells b_1 [iv rates.a0.Low,iv rates.a0.High,iv rates.a1.Low,iv rates.a1.High] 28),(3,.cells b_2 [iv k.a0,iv k.a1,iv k.a2,iv k.a3] 29),(5,.cells b_3 [iv 3,.slice p_3 ([rates.a0,rates.a1]).length c_3,.slice none 0 0,.slice p_11 l_1.length c_11] 35),(6,.own none ([]:List BeatPair).length 0 ([]) 52 5),(8,.cells b_4 [iv rv_7.1.Low,iv rv_7.1.High] 27),(9,.own p_4 l.length c_4 cs 30 1),(13,.own p_11 l_1.length c_11 cs_2 52 5)]) (D':=Dv_5) ?_ ?_)))
   ·rcases bcases (rv_17.2 != 0) with hbv_12 | hbv_12
    ·skip
     refine guard_off hF rfl rfl hbv_12 rfl fun a hF=>guard_off hF rfl rfl hbv_12 rfl fun a hF=>step hF (Y.pick_t hF rfl hbv_12 rfl) rfl fun a hF=>nT ⟨hF.weak ⟨rfl,rfl,rfl,rfl,rfl,rfl,rfl,rfl,rfl,rfl,rfl,(by rw [hbv_12];rfl),trivial⟩,hS.weak (AL rfl)⟩
    refine guard_on hF rfl rfl hbv_12 (step hF (Y.move hF rfl) rfl fun a hF=>guard_on hF rfl rfl hbv_12 (step hF (Y.not hF rfl) rfl fun a hF=>step hF (Y.pick_f hF rfl hbv_12 rfl) rfl fun a hF=>nT ⟨hF.weak ⟨rfl,rfl,rfl,rfl,rfl,rfl,rfl,rfl,rfl,rfl,rfl,(by rw [hbv_12];rfl),trivial⟩,hS.weak (AL rfl)⟩))
   intro a w hF hS
   refine nT (cond_b hF rfl (fun hbv_13=>?_) (fun hbv_13=>?_))
   ·replace h:=cond_t h hbv_13
    refine region (step hF (Y.fieldAddr fo_27_1 hF rfl) rfl fun a hF=>step hF (Y.load1L 8 sz_3 hF rfl hS rfl rfl) rfl fun a hF=>step hF (Y.assign hF rfl) rfl fun a hF=>nT (⟨rv_7.1.High,Dv_5,Stab.le.refl _,hF.weak (AF rfl),hS.weak (AL rfl),h⟩))
   replace h:=cond_f h hbv_13
   refine skip_ (then_n (⟨rv_15,Dv_5,Stab.le.refl _,hF.weak (AF rfl),hS.weak (AL rfl),h⟩))
  rintro a w ⟨delay,Dv_6,hlev_6,hF,hS,h⟩
  unfold remontoirtop_TopCompared_k4 at h
  replace hr_1:=hr_1.mono hlev_6
  replace hr_8:=hr_8.mono hlev_6
  refine seq (draws 16 [(0,true),(1,true),(2,true),(3,true),(4,true),(5,true),(6,true),(7,true),(8,true),(9,true),(10,true),(11,true),(12,true),(13,true),(14,true),(15,true)] mixed_ (by kernel_rfl) (fun w=>St w0 D0 Dv_6 _ w) hS.drew (fun _ _ _ _ h=>h) ?_)
  replace hS:=hS.drew
  refine stepT (i:=0) rfl hF (fun w hS=>Y.move hF rfl) rfl fun a hF=>?_
  obtain ⟨e,hx_16,h⟩:=bind_some h
  obtain ⟨b_5,hp⟩:=hS.ownPtr (i:=9) rfl (idx_rng hx_16)
  obtain ⟨cc,hc,hsub⟩:=ownElI (C:=(C_sl C_int)) hr_1 hx_16
  obtain ⟨p_12,c_12,rfl,hs_6⟩:=hc
  refine stepT (i:=1) rfl hF (fun w hS=>Y.indexOwn hp u_45 sz_30 (idx_rng hx_16) hF rfl rfl) rfl fun a hF=>stepT (i:=2) rfl hF (fun w hS=>Y.load1 sz_30 hF rfl (ownElCell (C:=(C_sl C_int)) (i:=9) hS rfl hp hsub 0 _ rfl)) rfl fun a hF=>stepT (i:=3) rfl hF (fun w hS=>Y.move hF rfl) rfl fun a hF=>?_
  obtain ⟨e_1,hx_17,h⟩:=bind_some h
  obtain ⟨b_6,o,hE,hY⟩:=Y.indexS (P:=Tryz.prog) (C:=C_int) (xs:=e) (T:=30) (x:=(.tmp 150)) (y:=(.tmp 151)) u_30 sz_3 hF rfl rfl (hs_6).1 hx_17
  obtain ⟨cc_1,hc_1,hcell⟩:=hE.open
  obtain rfl:=hc_1
  refine stepT (i:=4) rfl hF (fun w hS=>hY) rfl fun a hF=>stepT (i:=5) rfl hF (fun w hS=>Y.load1 sz_3 hF rfl (hcell _ hS.stab 0 _ rfl)) rfl fun a hF=>stepT (i:=6) rfl hF (fun w hS=>Y.move hF rfl) rfl fun a hF=>?_
  obtain ⟨e_2,hx_18,h⟩:=bind_some h
  obtain ⟨b_7,hp_1⟩:=hS.ownPtr (i:=9) rfl (idx_rng hx_18)
  obtain ⟨cc_2,hc_2,hsub_1⟩:=ownElI (C:=(C_sl C_int)) hr_1 hx_18
  obtain ⟨p_13,c_13,rfl,hs_7⟩:=hc_2
  refine stepT (i:=7) rfl hF (fun w hS=>Y.indexOwn hp_1 u_45 sz_30 (idx_rng hx_18) hF rfl rfl) rfl fun a hF=>stepT (i:=8) rfl hF (fun w hS=>Y.load1 sz_30 hF rfl (ownElCell (C:=(C_sl C_int)) (i:=9) hS rfl hp_1 hsub_1 0 _ rfl)) rfl fun a hF=>stepT (i:=9) rfl hF (fun w hS=>Y.move hF rfl) rfl fun a hF=>?_
  obtain ⟨e_3,hx_19,h⟩:=bind_some h
  obtain ⟨b_8,o_1,hE_1,hY_1⟩:=Y.indexS (P:=Tryz.prog) (C:=C_int) (xs:=e_2) (T:=30) (x:=(.tmp 156)) (y:=(.tmp 157)) u_30 sz_3 hF rfl rfl (hs_7).1 hx_19
  obtain ⟨cc_3,hc_3,hcell_1⟩:=hE_1.open
  obtain rfl:=hc_3
  refine stepT (i:=10) rfl hF (fun w hS=>hY_1) rfl fun a hF=>stepT (i:=11) rfl hF (fun w hS=>Y.load1 sz_3 hF rfl (hcell_1 _ hS.stab 0 _ rfl)) rfl fun a hF=>stepT (i:=12) rfl hF (fun w hS=>Y.sub hF rfl rfl) rfl fun a hF=>stepT (i:=13) rfl hF (fun w hS=>Y.move hF rfl) rfl fun a hF=>stepT (i:=14) rfl hF (fun w hS=>Y.sub hF rfl rfl) rfl fun a hF=>stepT (i:=15) rfl hF (fun w hS=>Y.assign hF rfl) rfl fun a hF=>toTail (nT ?_)
  obtain ⟨rv_16,hx_20,h⟩:=bind_some h
  refine drawsV 14 (.flt 0 (.flt 1 (.flt 2 (.flt 3 (.flt 4 (.flt 5 (.flt 6 (.flt 7 (.flt 8 (.flt 9 (.flt 10 (.alt 11 (.flt 12 (.alt 13 .done .stop)) .stop)))))))))))) mixed_ (by kernel_rfl) (fun w=>St w0 D0 Dv_6 [(1,.cells b [iv n.Exchanges,.slice p n.Lines.length c,iv n.Hops,.slice p_1 n.Loops.length c_1] 25),(2,.cells b_1 [iv rates.a0.Low,iv rates.a0.High,iv rates.a1.Low,iv rates.a1.High] 28),(3,.cells b_2 [iv k.a0,iv k.a1,iv k.a2,iv k.a3] 29),(5,.cells b_3 [iv 3,.slice p_3 ([rates.a0,rates.a1]).length c_3,.slice none 0 0,.slice p_11 l_1.length c_11] 35),(6,.own none ([]:List BeatPair).length 0 ([]) 52 5),(8,.cells b_4 [iv rv_7.1.Low,iv rv_7.1.High] 27),(9,.own p_4 l.length c_4 cs 30 1),(13,.own p_11 l_1.length c_11 cs_2 52 5)] w) (fun a w=>∃ (p_14:Option Addr) (c_14:Nat) (cs_3:List Value),Frm 250 [] [(3,.slice p_2 bits.length c_2),(4,.pointer (some ⟨b,0,none⟩)),(6,.pointer (some ⟨b_2,0,none⟩)),(8,.bool false),(9,.pointer (some ⟨b_3,0,none⟩)),(10,iv rv_6),(11,.pointer (some ⟨b_4,0,none⟩)),(12,iv rv_7.2),(13,.slice p_4 l.length c_4),(18,iv hv_1),(164,.slice p_11 l_1.length c_11),(176,.slice p_14 ([(BeatPair.mk hv_1 0 1 rv_16)]).length c_14)] a∧St w0 D0 Dv_6 [(1,.cells b [iv n.Exchanges,.slice p n.Lines.length c,iv n.Hops,.slice p_1 n.Loops.length c_1] 25),(2,.cells b_1 [iv rates.a0.Low,iv rates.a0.High,iv rates.a1.Low,iv rates.a1.High] 28),(3,.cells b_2 [iv k.a0,iv k.a1,iv k.a2,iv k.a3] 29),(5,.cells b_3 [iv 3,.slice p_3 ([rates.a0,rates.a1]).length c_3,.slice none 0 0,.slice p_11 l_1.length c_11] 35),(6,.own none ([]:List BeatPair).length 0 ([]) 52 5),(8,.cells b_4 [iv rv_7.1.Low,iv rv_7.1.High] 27),(9,.own p_4 l.length c_4 cs 30 1),(13,.own p_11 l_1.length c_11 cs_2 52 5),(14,.own p_14 ([(BeatPair.mk hv_1 0 1 rv_16)]).length c_14 cs_3 52 5)] w∧Reps C_BeatPair Dv_6 ([(BeatPair.mk hv_1 0 1 rv_16)]) cs_3) (hS.weak (ms:=[(1,.cells b [iv n.Exchanges,.slice p n.Lines.length c,iv n.Hops,.slice p_1 n.Loops.length c_1] 25),(2,.cells b_1 [iv rates.a0.Low,iv rates.a0.High,iv rates.a1.Low,iv rates.a1.High] 28),(3,.cells b_2 [iv k.a0,iv k.a1,iv k.a2,iv k.a3] 29),(5,.cells b_3 [iv 3,.slice p_3 ([rates.a0,rates.a1]).length c_3,.slice none 0 0,.slice p_11 l_1.length c_11] 35),(6,.own none ([]:List BeatPair).length 0 ([]) 52 5),(8,.cells b_4 [iv rv_7.1.Low,iv rv_7.1.High] 27),(9,.own p_4 l.length c_4 cs 30 1),(13,.own p_11 l_1.length c_11 cs_2 52 5)]) (AL rfl)).drew (fun _ _ _ _ h=>h) ?_ ?_
  ·replace hS:=hS.drew
   have hle0:=hS.le
   refine stepV (i:=0) rfl hF (fun w hS=>Y.fieldAddr fo_35_3 hF rfl) rfl fun a hF=>stepV (i:=1) rfl hF (fun w hS=>Y.load1L 5 sz_33 hF rfl hS rfl rfl) rfl fun a hF=>stepV (i:=2) rfl hF (fun w hS=>Y.move hF rfl) rfl fun a hF=>stepV (i:=3) rfl hF (fun w hS=>Y.move hF rfl) rfl fun a hF=>stepV (i:=4) rfl hF (fun w hS=>Y.fieldAddr fo_27_0 hF rfl) rfl fun a hF=>stepV (i:=5) rfl hF (fun w hS=>Y.load1L 8 sz_3 hF rfl hS rfl rfl) rfl fun a hF=>stepV (i:=6) rfl hF (fun w hS=>Y.add hF rfl rfl) rfl fun a hF=>stepV (i:=7) rfl hF (fun w hS=>Y.move hF rfl) rfl fun a hF=>stepV (i:=8) rfl hF (fun w hS=>Y.fieldAddr fo_27_1 hF rfl) rfl fun a hF=>stepV (i:=9) rfl hF (fun w hS=>Y.load1L 8 sz_3 hF rfl hS rfl rfl) rfl fun a hF=>stepV (i:=10) rfl hF (fun w hS=>Y.add hF rfl rfl) rfl fun a hF=>oneV (i:=11) rfl ?_ trivial
   refine O.callP (us:=[iv (wr ((wr ((wr (e_1 - e_3)) - delay)) + rv_7.1.Low)),iv (wr ((wr ((wr (e_1 - e_3)) - delay)) + rv_7.1.High))]) ca_12 hF hS (r0To_ok hS.stab (wr ((wr ((wr (e_1 - e_3)) - delay)) + rv_7.1.Low)) (wr ((wr ((wr (e_1 - e_3)) - delay)) + rv_7.1.High)) rv_16 hx_20) rfl rfl fun a w hF hS=>nT ⟨hS.weak (AL rfl),?_⟩
   refine stepV (i:=12) rfl hF (fun w hS=>Y.build (parts:=[(0,(.tmp 165)),(1,(.const (iv 0))),(2,(.const (iv 1))),(3,(.tmp 174))]) (cs:=#[iv hv_1,iv 0,iv 1,iv rv_16.Low,iv rv_16.High]) hF rfl (by kernel_rfl)) rfl fun a hF=>oneV (i:=13) rfl ?_ trivial
   have hr_10:Reps C_BeatPair Dv_6 [(BeatPair.mk hv_1 0 1 rv_16)] [iv hv_1,iv 0,iv 1,iv rv_16.Low,iv rv_16.High]:=Reps.cons (C:=C_BeatPair) (x:=(BeatPair.mk hv_1 0 1 rv_16)) (c:=[iv hv_1,iv 0,iv 1,iv rv_16.Low,iv rv_16.High]) (r:=[]) rfl (Reps.nil)
   refine O.buildSlice (E:=52) (C:=C_BeatPair) (xs:=[(BeatPair.mk hv_1 0 1 rv_16)]) (cs:=[iv hv_1,iv 0,iv 1,iv rv_16.Low,iv rv_16.High]) (us:=[.agg #[iv hv_1,iv 0,iv 1,iv rv_16.Low,iv rv_16.High]]) (parts:=[(0,(.tmp 175))]) 14 hF hS rfl (by kernel_rfl) hr_10 rfl rfl rfl fun p_15 c_15 a w hF hS=>nT ⟨hS.weak (AL rfl),?_⟩
   exact toTailV ⟨p_15,c_15,([iv hv_1,iv 0,iv 1,iv rv_16.Low,iv rv_16.High]),hF.weak (AF rfl),hS.weak (AL rfl),hr_10⟩
  rintro a w ⟨p_14,c_14,cs_3,hF,hS,hj⟩
  obtain ⟨hg_4,h⟩:=ite_some h
  refine O.append (C:=C_BeatPair) (xs:=l_1) (ys:=[(BeatPair.mk hv_1 0 1 rv_16)]) 13 gr_33 hF rfl rfl hS rfl (src_own (i:=14) hS rfl) hr_8 hj hg_4 rfl fun p_16 c_16 a w hF hS hr_11=>step hF (Y.fieldAddr fo_35_3 hF rfl) rfl fun a hF=>O.store (us:=[.slice p_16 (l_1 ++ [(BeatPair.mk hv_1 0 1 rv_16)]).length c_16]) 5 sz_33 hF rfl rfl rfl rfl hS rfl rfl fun a w hF hS=>nil (blk_n (then_n (region (step hF (Y.move hF rfl) rfl fun a hF=>step hF (Y.add hF rfl rfl) rfl fun a hF=>step hF (Y.assign hF rfl) rfl fun a hF=>nT (⟨_,nxt_some h,(wr (hv_1 + 1)),(l_1 ++ [(BeatPair.mk hv_1 0 1 rv_16)]),Dv_6,p_16,c_16,(cs_2 ++ cs_3),rfl,hlev_5.trans hlev_6,hF.weak (AF rfl),hS.weak (AL rfl),hr_11⟩)))))
 replace h:=cond_f h hbv_11
 refine exit_ (then_x (then_x (blk_hit (then_n ?_))))
 replace h:=ext_some h hxo_2
 refine seq (region (step hF (Y.loadNL 5 sz_35 hF rfl hS rfl rfl rfl) rfl fun a hF=>step hF (Y.move hF rfl) rfl fun a hF=>?_))
 obtain ⟨Dv_7,hlev_7,hs_8,hS⟩:=hS.freezeC (C:=C_BeatPair) (i:=13) (xs:=l_1) rfl hr_8
 replace hG:=hG.mono hlev_7
 replace hs_3:=hs_3.mono hlev_7
 replace hr_1:=hr_1.mono hlev_7
 obtain ⟨Dv_8,hlev_8,hs_9,hS⟩:=hS.freezeC (C:=(C_sl C_int)) (i:=9) (xs:=l) rfl hr_1
 replace hG:=hG.mono hlev_8
 replace hs_3:=hs_3.mono hlev_8
 replace hs_8:=hs_8.mono hlev_8
 obtain ⟨rv_18,hx_22,h⟩:=bind_some h
 refine O.callP (us:=[.agg #[iv 3,.slice p_3 ([rates.a0,rates.a1]).length c_3,.slice none 0 0,.slice p_11 l_1.length c_11],.slice p_4 l.length c_4]) ca_15 hF hS (beat_IsTruth_ok hS.stab (BeatCellar.mk 3 ([rates.a0,rates.a1]) ([]:List BeatOpen) l_1) l hs_3 SRc.nil hs_8 hs_9 hG rv_18 hx_22) rfl rfl fun a w hF hS=>step hF (Y.move hF rfl) rfl fun a hF=>step hF (Y.extract hF rfl rfl) rfl fun a hF=>step hF (Y.extract hF rfl rfl) rfl fun a hF=>step hF (Y.assign hF rfl) rfl fun a hF=>step hF (Y.assign hF rfl) rfl fun a hF=>nT (seq (region (step hF (Y.loadNL 5 sz_35 hF rfl hS rfl rfl rfl) rfl fun a hF=>?_)))
 obtain ⟨rv_19,hx_23,h⟩:=bind_some h
 refine O.callS (us:=[.agg #[iv 3,.slice p_3 ([rates.a0,rates.a1]).length c_3,.slice none 0 0,.slice p_11 l_1.length c_11]]) ca_16 hF hS (beat_Wrong_ok hS.stab (BeatCellar.mk 3 ([rates.a0,rates.a1]) ([]:List BeatOpen) l_1) hs_3 SRc.nil hs_8 hG rv_19 hx_23) rfl rfl fun v Dv_9 a w hR hlev_9 hF hS=>?_
 replace hG:=hG.mono hlev_9
 replace hs_3:=hs_3.mono hlev_9
 replace hs_8:=hs_8.mono hlev_9
 replace hs_9:=hs_9.mono hlev_9
 obtain ⟨p_17,c_17,rfl,hs_10⟩:=hR
 refine step hF (Y.move hF rfl) rfl fun a hF=>step hF (Y.extract hF rfl rfl) rfl fun a hF=>step hF (Y.extract hF rfl rfl) rfl fun a hF=>step hF (Y.assign hF rfl) rfl fun a hF=>step hF (Y.assign hF rfl) rfl fun a hF=>nT (seq (region (step hF (Y.indexArr u_29 sz_3 hF rfl rfl (by decide) (by decide)) rfl fun a hF=>step hF (Y.load1L 3 sz_3 hF rfl hS rfl rfl) rfl fun a hF=>?_)))
 obtain ⟨rv_20,hx_24,h⟩:=bind_some h
 refine O.callP (us:=[iv k.a3,iv 4]) ca_9 hF hS (r0Rest_ok hS.stab k.a3 4 rv_20 hx_24) rfl rfl fun a w hF hS=>step hF (Y.assign hF rfl) rfl fun a hF=>nT (seq (region (step hF (Y.loadNL 5 sz_35 hF rfl hS rfl rfl rfl) rfl fun a hF=>step hF (Y.move hF rfl) rfl fun a hF=>?_)))
 obtain ⟨rv_21,hx_25,h⟩:=bind_some h
 refine O.callP (us:=[.agg #[iv 3,.slice p_3 ([rates.a0,rates.a1]).length c_3,.slice none 0 0,.slice p_11 l_1.length c_11],iv 0,iv 1,iv rv_20]) ca_17 hF hS (beat_Apart_ok hS.stab (BeatCellar.mk 3 ([rates.a0,rates.a1]) ([]:List BeatOpen) l_1) 0 1 rv_20 hs_3 SRc.nil hs_8 hG rv_21 hx_25) rfl rfl fun a w hF hS=>step hF (Y.move hF rfl) rfl fun a hF=>step hF (Y.extract hF rfl rfl) rfl fun a hF=>step hF (Y.extract hF rfl rfl) rfl fun a hF=>O.alloc 15 zc_27 hF hS rfl fun b_9 a w hF hS=>O.store (us:=[iv rv_21.1.Low,iv rv_21.1.High]) 15 sz_27 hF rfl rfl rfl rfl hS rfl rfl fun a w hF hS=>step hF (Y.assign hF rfl) rfl fun a hF=>nT (seq ?_)
 obtain ⟨t_5,ht_5,h⟩:=bind_some h
 obtain ⟨t_6,ht_6,h⟩:=bind_some h
 obtain ⟨t_7,ht_7,h⟩:=bind_some h
 obtain ⟨t_8,ht_8,h⟩:=bind_some h
 obtain ⟨t_9,ht_9,h⟩:=bind_some h
 obtain ⟨t_10,ht_10,h⟩:=bind_some h
 refine drawsV 48 (.flt 0 (.flt 1 (.flt 2 (.flt 3 (.flt 4 (.flt 5 (.flt 6 (.flt 7 (.flt 8 (.flt 9 (.flt 10 (.flt 11 (.flt 12 (.flt 13 (.flt 14 (.flt 15 (.flt 16 (.flt 17 (.flt 18 (.flt 19 (.flt 20 (.flt 21 (.flt 22 (.flt 23 (.flt 24 (.flt 25 (.flt 26 (.flt 27 (.flt 28 (.flt 29 (.flt 30 (.flt 31 (.flt 32 (.alt 33 (.flt 34 (.flt 35 (.flt 36 (.flt 37 (.flt 38 (.flt 39 (.flt 40 (.flt 41 (.flt 42 (.flt 43 (.flt 44 (.flt 45 (.flt 46 (.flt 47 .done)))))))))))))) .stop)))))))))))))))))))))))))))))))))) mixed_ (by kernel_rfl) (fun w=>St w0 D0 Dv_9 [(1,.cells b [iv n.Exchanges,.slice p n.Lines.length c,iv n.Hops,.slice p_1 n.Loops.length c_1] 25),(2,.cells b_1 [iv rates.a0.Low,iv rates.a0.High,iv rates.a1.Low,iv rates.a1.High] 28),(3,.cells b_2 [iv k.a0,iv k.a1,iv k.a2,iv k.a3] 29),(5,.cells b_3 [iv 3,.slice p_3 ([rates.a0,rates.a1]).length c_3,.slice none 0 0,.slice p_11 l_1.length c_11] 35),(6,.own none ([]:List BeatPair).length 0 ([]) 52 5),(8,.cells b_4 [iv rv_7.1.Low,iv rv_7.1.High] 27),(15,.cells b_9 [iv rv_21.1.Low,iv rv_21.1.High] 27)] w) (fun a w=>Frm 250 [] [(8,.bool false),(246,.bool t_10)] a∧St w0 D0 Dv_9 [(1,.cells b [iv n.Exchanges,.slice p n.Lines.length c,iv n.Hops,.slice p_1 n.Loops.length c_1] 25),(2,.cells b_1 [iv rates.a0.Low,iv rates.a0.High,iv rates.a1.Low,iv rates.a1.High] 28),(3,.cells b_2 [iv k.a0,iv k.a1,iv k.a2,iv k.a3] 29),(5,.cells b_3 [iv 3,.slice p_3 ([rates.a0,rates.a1]).length c_3,.slice none 0 0,.slice p_11 l_1.length c_11] 35),(6,.own none ([]:List BeatPair).length 0 ([]) 52 5),(8,.cells b_4 [iv rv_7.1.Low,iv rv_7.1.High] 27),(15,.cells b_9 [iv rv_21.1.Low,iv rv_21.1.High] 27)] w) (hS.weak (ms:=[(1,.cells b [iv n.Exchanges,.slice p n.Lines.length c,iv n.Hops,.slice p_1 n.Loops.length c_1] 25),(2,.cells b_1 [iv rates.a0.Low,iv rates.a0.High,iv rates.a1.Low,iv rates.a1.High] 28),(3,.cells b_2 [iv k.a0,iv k.a1,iv k.a2,iv k.a3] 29),(5,.cells b_3 [iv 3,.slice p_3 ([rates.a0,rates.a1]).length c_3,.slice none 0 0,.slice p_11 l_1.length c_11] 35),(6,.own none ([]:List BeatPair).length 0 ([]) 52 5),(8,.cells b_4 [iv rv_7.1.Low,iv rv_7.1.High] 27),(15,.cells b_9 [iv rv_21.1.Low,iv rv_21.1.High] 27)]) (AL rfl)).drew (fun _ _ _ _ h=>h) ?_ ?_
 ·replace hS:=hS.drew
  have hle0:=hS.le
  rcases bcases (rv_18.2 == 0) with hbv_14 | hbv_14
  ·skip
   replace ht_5:=cond_t ht_5 hbv_14
   obtain rfl:=some_inj ht_5
   rcases bcases (rv_19.2 == 0) with hbv_15 | hbv_15
   ·skip
    replace ht_6:=cond_t ht_6 hbv_15
    obtain rfl:=some_inj ht_6
    rcases bcases (rv_21.2 == 0) with hbv_16 | hbv_16
    ·skip
     replace ht_7:=cond_t ht_7 hbv_16
     obtain rfl:=some_inj ht_7
     rcases bcases rv_18.1 with hbv_17 | hbv_17
     ·skip
      replace ht_8:=cond_t ht_8 hbv_17
      obtain rfl:=some_inj ht_8
      rcases bcases ((rv_19.1.length:Int) == 0) with hbv_18 | hbv_18
      ·skip
       replace ht_9:=cond_t ht_9 hbv_18
       obtain ⟨e_4,hx_26,ht_9⟩:=bind_some ht_9
       obtain ⟨e_5,hx_27,ht_9⟩:=bind_some ht_9
       obtain ⟨e_6,hx_28,ht_9⟩:=bind_some ht_9
       obtain ⟨e_7,hx_29,ht_9⟩:=bind_some ht_9
       obtain ⟨rv_22,hx_30,ht_9⟩:=bind_some ht_9
       obtain rfl:=some_inj ht_9
       rcases bcases rv_22 with hbv_19 | hbv_19
       ·skip
        replace ht_10:=cond_t ht_10 hbv_19
        obtain rfl:=some_inj ht_10
        refine stepV (i:=0) rfl hF (fun w hS=>Y.move hF rfl) rfl fun a hF=>stepV (i:=1) rfl hF (fun w hS=>Y.eql hF rfl rfl) rfl fun a hF=>stepV (i:=2) rfl hF (fun w hS=>Y.move hF rfl) rfl fun a hF=>stepV_on (i:=3) rfl hF rfl rfl hbv_14 (fun w hS=>Y.move hF rfl) rfl fun a hF=>stepV_on (i:=4) rfl hF rfl rfl hbv_14 (fun w hS=>Y.eql hF rfl rfl) rfl fun a hF=>stepV (i:=5) rfl hF (fun w hS=>Y.pick_t hF rfl hbv_14 rfl) rfl fun a hF=>stepV (i:=6) rfl hF (fun w hS=>Y.move hF rfl) rfl fun a hF=>stepV_on (i:=7) rfl hF rfl rfl hbv_15 (fun w hS=>Y.move hF rfl) rfl fun a hF=>stepV_on (i:=8) rfl hF rfl rfl hbv_15 (fun w hS=>Y.eql hF rfl rfl) rfl fun a hF=>stepV (i:=9) rfl hF (fun w hS=>Y.pick_t hF rfl hbv_15 rfl) rfl fun a hF=>stepV (i:=10) rfl hF (fun w hS=>Y.move hF rfl) rfl fun a hF=>stepV_on (i:=11) rfl hF rfl rfl hbv_16 (fun w hS=>Y.move hF rfl) rfl fun a hF=>stepV (i:=12) rfl hF (fun w hS=>Y.pick_t hF rfl hbv_16 rfl) rfl fun a hF=>stepV (i:=13) rfl hF (fun w hS=>Y.move hF rfl) rfl fun a hF=>stepV_on (i:=14) rfl hF rfl rfl hbv_17 (fun w hS=>Y.move hF rfl) rfl fun a hF=>stepV_on (i:=15) rfl hF rfl rfl hbv_17 (fun w hS=>Y.lenSl u_30 hF rfl) rfl fun a hF=>stepV_on (i:=16) rfl hF rfl rfl hbv_17 (fun w hS=>Y.eql hF rfl rfl) rfl fun a hF=>stepV (i:=17) rfl hF (fun w hS=>Y.pick_t hF rfl hbv_17 rfl) rfl fun a hF=>stepV (i:=18) rfl hF (fun w hS=>Y.move hF rfl) rfl fun a hF=>stepV_on (i:=19) rfl hF rfl rfl hbv_18 (fun w hS=>Y.loadNL 15 sz_27 hF rfl hS rfl rfl rfl) rfl fun a hF=>stepV_on (i:=20) rfl hF rfl rfl hbv_18 (fun w hS=>Y.move hF rfl) rfl fun a hF=>?_
        obtain ⟨b_14,o_6,hE_6,hY_6⟩:=Y.indexS (P:=Tryz.prog) (C:=(C_sl C_int)) (xs:=l) (T:=45) (x:=(.tmp 219)) (y:=(.const (iv 0))) u_45 sz_30 hF rfl rfl (hs_9).1 hx_26
        obtain ⟨cc_8,hc_8,hcell_6⟩:=hE_6.open
        obtain ⟨p_20,c_20,rfl,hs_13⟩:=hc_8
        refine stepV_on (i:=21) rfl hF rfl rfl hbv_18 (fun w hS=>hY_6) rfl fun a hF=>stepV_on (i:=22) rfl hF rfl rfl hbv_18 (fun w hS=>Y.load1 sz_30 hF rfl (hcell_6 _ hS.stab 0 _ rfl)) rfl fun a hF=>stepV_on (i:=23) rfl hF rfl rfl hbv_18 (fun w hS=>Y.move hF rfl) rfl fun a hF=>?_
        obtain ⟨b_15,o_7,hE_7,hY_7⟩:=Y.indexS (P:=Tryz.prog) (C:=C_int) (xs:=e_4) (T:=30) (x:=(.tmp 221)) (y:=(.tmp 222)) u_30 sz_3 hF rfl rfl (hs_13).1 hx_27
        obtain ⟨cc_9,hc_9,hcell_7⟩:=hE_7.open
        obtain rfl:=hc_9
        refine stepV_on (i:=24) rfl hF rfl rfl hbv_18 (fun w hS=>hY_7) rfl fun a hF=>stepV_on (i:=25) rfl hF rfl rfl hbv_18 (fun w hS=>Y.load1 sz_3 hF rfl (hcell_7 _ hS.stab 0 _ rfl)) rfl fun a hF=>stepV_on (i:=26) rfl hF rfl rfl hbv_18 (fun w hS=>Y.move hF rfl) rfl fun a hF=>?_
        obtain ⟨b_16,o_8,hE_8,hY_8⟩:=Y.indexS (P:=Tryz.prog) (C:=(C_sl C_int)) (xs:=l) (T:=45) (x:=(.tmp 225)) (y:=(.const (iv 1))) u_45 sz_30 hF rfl rfl (hs_9).1 hx_28
        obtain ⟨cc_10,hc_10,hcell_8⟩:=hE_8.open
        obtain ⟨p_21,c_21,rfl,hs_14⟩:=hc_10
        refine stepV_on (i:=27) rfl hF rfl rfl hbv_18 (fun w hS=>hY_8) rfl fun a hF=>stepV_on (i:=28) rfl hF rfl rfl hbv_18 (fun w hS=>Y.load1 sz_30 hF rfl (hcell_8 _ hS.stab 0 _ rfl)) rfl fun a hF=>stepV_on (i:=29) rfl hF rfl rfl hbv_18 (fun w hS=>Y.move hF rfl) rfl fun a hF=>?_
        obtain ⟨b_17,o_9,hE_9,hY_9⟩:=Y.indexS (P:=Tryz.prog) (C:=C_int) (xs:=e_6) (T:=30) (x:=(.tmp 227)) (y:=(.tmp 228)) u_30 sz_3 hF rfl rfl (hs_14).1 hx_29
        obtain ⟨cc_11,hc_11,hcell_9⟩:=hE_9.open
        obtain rfl:=hc_11
        refine stepV_on (i:=30) rfl hF rfl rfl hbv_18 (fun w hS=>hY_9) rfl fun a hF=>stepV_on (i:=31) rfl hF rfl rfl hbv_18 (fun w hS=>Y.load1 sz_3 hF rfl (hcell_9 _ hS.stab 0 _ rfl)) rfl fun a hF=>stepV_on (i:=32) rfl hF rfl rfl hbv_18 (fun w hS=>Y.sub hF rfl rfl) rfl fun a hF=>oneV (i:=33) rfl ?_ trivial
        refine guard_on hF rfl rfl hbv_18 (O.callP (us:=[.agg #[iv rv_21.1.Low,iv rv_21.1.High],iv (wr (e_5 - e_7))]) ca_18 hF hS (r0Has_ok hS.stab rv_21.1 (wr (e_5 - e_7)) rv_22 hx_30) rfl rfl fun a w hF hS=>nT ⟨hS.weak (AL rfl),?_⟩)
        refine stepV (i:=34) rfl hF (fun w hS=>Y.pick_t hF rfl hbv_18 rfl) rfl fun a hF=>stepV (i:=35) rfl hF (fun w hS=>Y.move hF rfl) rfl fun a hF=>stepV_on (i:=36) rfl hF rfl rfl hbv_19 (fun w hS=>Y.fieldAddr fo_27_1 hF rfl) rfl fun a hF=>stepV_on (i:=37) rfl hF rfl rfl hbv_19 (fun w hS=>Y.load1L 15 sz_3 hF rfl hS rfl rfl) rfl fun a hF=>stepV_on (i:=38) rfl hF rfl rfl hbv_19 (fun w hS=>Y.fieldAddr fo_27_0 hF rfl) rfl fun a hF=>stepV_on (i:=39) rfl hF rfl rfl hbv_19 (fun w hS=>Y.load1L 15 sz_3 hF rfl hS rfl rfl) rfl fun a hF=>stepV_on (i:=40) rfl hF rfl rfl hbv_19 (fun w hS=>Y.sub hF rfl rfl) rfl fun a hF=>stepV_on (i:=41) rfl hF rfl rfl hbv_19 (fun w hS=>Y.fieldAddr fo_27_1 hF rfl) rfl fun a hF=>stepV_on (i:=42) rfl hF rfl rfl hbv_19 (fun w hS=>Y.load1L 8 sz_3 hF rfl hS rfl rfl) rfl fun a hF=>stepV_on (i:=43) rfl hF rfl rfl hbv_19 (fun w hS=>Y.fieldAddr fo_27_0 hF rfl) rfl fun a hF=>stepV_on (i:=44) rfl hF rfl rfl hbv_19 (fun w hS=>Y.load1L 8 sz_3 hF rfl hS rfl rfl) rfl fun a hF=>stepV_on (i:=45) rfl hF rfl rfl hbv_19 (fun w hS=>Y.sub hF rfl rfl) rfl fun a hF=>stepV_on (i:=46) rfl hF rfl rfl hbv_19 (fun w hS=>Y.leq hF rfl rfl) rfl fun a hF=>stepV (i:=47) rfl hF (fun w hS=>Y.pick_t hF rfl hbv_19 rfl) rfl fun a hF=>toTailV ⟨hF.weak ⟨rfl,rfl,trivial⟩,hS.weak (AL rfl)⟩
       replace ht_10:=cond_f ht_10 hbv_19
       obtain rfl:=some_inj ht_10
       refine stepV (i:=0) rfl hF (fun w hS=>Y.move hF rfl) rfl fun a hF=>stepV (i:=1) rfl hF (fun w hS=>Y.eql hF rfl rfl) rfl fun a hF=>stepV (i:=2) rfl hF (fun w hS=>Y.move hF rfl) rfl fun a hF=>stepV_on (i:=3) rfl hF rfl rfl hbv_14 (fun w hS=>Y.move hF rfl) rfl fun a hF=>stepV_on (i:=4) rfl hF rfl rfl hbv_14 (fun w hS=>Y.eql hF rfl rfl) rfl fun a hF=>stepV (i:=5) rfl hF (fun w hS=>Y.pick_t hF rfl hbv_14 rfl) rfl fun a hF=>stepV (i:=6) rfl hF (fun w hS=>Y.move hF rfl) rfl fun a hF=>stepV_on (i:=7) rfl hF rfl rfl hbv_15 (fun w hS=>Y.move hF rfl) rfl fun a hF=>stepV_on (i:=8) rfl hF rfl rfl hbv_15 (fun w hS=>Y.eql hF rfl rfl) rfl fun a hF=>stepV (i:=9) rfl hF (fun w hS=>Y.pick_t hF rfl hbv_15 rfl) rfl fun a hF=>stepV (i:=10) rfl hF (fun w hS=>Y.move hF rfl) rfl fun a hF=>stepV_on (i:=11) rfl hF rfl rfl hbv_16 (fun w hS=>Y.move hF rfl) rfl fun a hF=>stepV (i:=12) rfl hF (fun w hS=>Y.pick_t hF rfl hbv_16 rfl) rfl fun a hF=>stepV (i:=13) rfl hF (fun w hS=>Y.move hF rfl) rfl fun a hF=>stepV_on (i:=14) rfl hF rfl rfl hbv_17 (fun w hS=>Y.move hF rfl) rfl fun a hF=>stepV_on (i:=15) rfl hF rfl rfl hbv_17 (fun w hS=>Y.lenSl u_30 hF rfl) rfl fun a hF=>stepV_on (i:=16) rfl hF rfl rfl hbv_17 (fun w hS=>Y.eql hF rfl rfl) rfl fun a hF=>stepV (i:=17) rfl hF (fun w hS=>Y.pick_t hF rfl hbv_17 rfl) rfl fun a hF=>stepV (i:=18) rfl hF (fun w hS=>Y.move hF rfl) rfl fun a hF=>stepV_on (i:=19) rfl hF rfl rfl hbv_18 (fun w hS=>Y.loadNL 15 sz_27 hF rfl hS rfl rfl rfl) rfl fun a hF=>stepV_on (i:=20) rfl hF rfl rfl hbv_18 (fun w hS=>Y.move hF rfl) rfl fun a hF=>?_
       obtain ⟨b_18,o_10,hE_10,hY_10⟩:=Y.indexS (P:=Tryz.prog) (C:=(C_sl C_int)) (xs:=l) (T:=45) (x:=(.tmp 219)) (y:=(.const (iv 0))) u_45 sz_30 hF rfl rfl (hs_9).1 hx_26
       obtain ⟨cc_12,hc_12,hcell_10⟩:=hE_10.open
       obtain ⟨p_22,c_22,rfl,hs_15⟩:=hc_12
       refine stepV_on (i:=21) rfl hF rfl rfl hbv_18 (fun w hS=>hY_10) rfl fun a hF=>stepV_on (i:=22) rfl hF rfl rfl hbv_18 (fun w hS=>Y.load1 sz_30 hF rfl (hcell_10 _ hS.stab 0 _ rfl)) rfl fun a hF=>stepV_on (i:=23) rfl hF rfl rfl hbv_18 (fun w hS=>Y.move hF rfl) rfl fun a hF=>?_
       obtain ⟨b_19,o_11,hE_11,hY_11⟩:=Y.indexS (P:=Tryz.prog) (C:=C_int) (xs:=e_4) (T:=30) (x:=(.tmp 221)) (y:=(.tmp 222)) u_30 sz_3 hF rfl rfl (hs_15).1 hx_27
       obtain ⟨cc_13,hc_13,hcell_11⟩:=hE_11.open
       obtain rfl:=hc_13
       refine stepV_on (i:=24) rfl hF rfl rfl hbv_18 (fun w hS=>hY_11) rfl fun a hF=>stepV_on (i:=25) rfl hF rfl rfl hbv_18 (fun w hS=>Y.load1 sz_3 hF rfl (hcell_11 _ hS.stab 0 _ rfl)) rfl fun a hF=>stepV_on (i:=26) rfl hF rfl rfl hbv_18 (fun w hS=>Y.move hF rfl) rfl fun a hF=>?_
       obtain ⟨b_20,o_12,hE_12,hY_12⟩:=Y.indexS (P:=Tryz.prog) (C:=(C_sl C_int)) (xs:=l) (T:=45) (x:=(.tmp 225)) (y:=(.const (iv 1))) u_45 sz_30 hF rfl rfl (hs_9).1 hx_28
       obtain ⟨cc_14,hc_14,hcell_12⟩:=hE_12.open
       obtain ⟨p_23,c_23,rfl,hs_16⟩:=hc_14
       refine stepV_on (i:=27) rfl hF rfl rfl hbv_18 (fun w hS=>hY_12) rfl fun a hF=>stepV_on (i:=28) rfl hF rfl rfl hbv_18 (fun w hS=>Y.load1 sz_30 hF rfl (hcell_12 _ hS.stab 0 _ rfl)) rfl fun a hF=>stepV_on (i:=29) rfl hF rfl rfl hbv_18 (fun w hS=>Y.move hF rfl) rfl fun a hF=>?_
       obtain ⟨b_21,o_13,hE_13,hY_13⟩:=Y.indexS (P:=Tryz.prog) (C:=C_int) (xs:=e_6) (T:=30) (x:=(.tmp 227)) (y:=(.tmp 228)) u_30 sz_3 hF rfl rfl (hs_16).1 hx_29
       obtain ⟨cc_15,hc_15,hcell_13⟩:=hE_13.open
       obtain rfl:=hc_15
       refine stepV_on (i:=30) rfl hF rfl rfl hbv_18 (fun w hS=>hY_13) rfl fun a hF=>stepV_on (i:=31) rfl hF rfl rfl hbv_18 (fun w hS=>Y.load1 sz_3 hF rfl (hcell_13 _ hS.stab 0 _ rfl)) rfl fun a hF=>stepV_on (i:=32) rfl hF rfl rfl hbv_18 (fun w hS=>Y.sub hF rfl rfl) rfl fun a hF=>oneV (i:=33) rfl ?_ trivial
       refine guard_on hF rfl rfl hbv_18 (O.callP (us:=[.agg #[iv rv_21.1.Low,iv rv_21.1.High],iv (wr (e_5 - e_7))]) ca_18 hF hS (r0Has_ok hS.stab rv_21.1 (wr (e_5 - e_7)) rv_22 hx_30) rfl rfl fun a w hF hS=>nT ⟨hS.weak (AL rfl),?_⟩)
       refine stepV (i:=34) rfl hF (fun w hS=>Y.pick_t hF rfl hbv_18 rfl) rfl fun a hF=>stepV (i:=35) rfl hF (fun w hS=>Y.move hF rfl) rfl fun a hF=>stepV_off (i:=36) rfl hF rfl rfl hbv_19 rfl fun a hF=>stepV_off (i:=37) rfl hF rfl rfl hbv_19 rfl fun a hF=>stepV_off (i:=38) rfl hF rfl rfl hbv_19 rfl fun a hF=>stepV_off (i:=39) rfl hF rfl rfl hbv_19 rfl fun a hF=>stepV_off (i:=40) rfl hF rfl rfl hbv_19 rfl fun a hF=>stepV_off (i:=41) rfl hF rfl rfl hbv_19 rfl fun a hF=>stepV_off (i:=42) rfl hF rfl rfl hbv_19 rfl fun a hF=>stepV_off (i:=43) rfl hF rfl rfl hbv_19 rfl fun a hF=>stepV_off (i:=44) rfl hF rfl rfl hbv_19 rfl fun a hF=>stepV_off (i:=45) rfl hF rfl rfl hbv_19 rfl fun a hF=>stepV_off (i:=46) rfl hF rfl rfl hbv_19 rfl fun a hF=>stepV (i:=47) rfl hF (fun w hS=>Y.pick_f hF rfl hbv_19 rfl) rfl fun a hF=>toTailV ⟨hF.weak ⟨rfl,rfl,trivial⟩,hS.weak (AL rfl)⟩
      replace ht_9:=cond_f ht_9 hbv_18
      obtain rfl:=some_inj ht_9
      replace ht_10:=cond_f ht_10 rfl
      obtain rfl:=some_inj ht_10
      refine stepV (i:=0) rfl hF (fun w hS=>Y.move hF rfl) rfl fun a hF=>stepV (i:=1) rfl hF (fun w hS=>Y.eql hF rfl rfl) rfl fun a hF=>stepV (i:=2) rfl hF (fun w hS=>Y.move hF rfl) rfl fun a hF=>stepV_on (i:=3) rfl hF rfl rfl hbv_14 (fun w hS=>Y.move hF rfl) rfl fun a hF=>stepV_on (i:=4) rfl hF rfl rfl hbv_14 (fun w hS=>Y.eql hF rfl rfl) rfl fun a hF=>stepV (i:=5) rfl hF (fun w hS=>Y.pick_t hF rfl hbv_14 rfl) rfl fun a hF=>stepV (i:=6) rfl hF (fun w hS=>Y.move hF rfl) rfl fun a hF=>stepV_on (i:=7) rfl hF rfl rfl hbv_15 (fun w hS=>Y.move hF rfl) rfl fun a hF=>stepV_on (i:=8) rfl hF rfl rfl hbv_15 (fun w hS=>Y.eql hF rfl rfl) rfl fun a hF=>stepV (i:=9) rfl hF (fun w hS=>Y.pick_t hF rfl hbv_15 rfl) rfl fun a hF=>stepV (i:=10) rfl hF (fun w hS=>Y.move hF rfl) rfl fun a hF=>stepV_on (i:=11) rfl hF rfl rfl hbv_16 (fun w hS=>Y.move hF rfl) rfl fun a hF=>stepV (i:=12) rfl hF (fun w hS=>Y.pick_t hF rfl hbv_16 rfl) rfl fun a hF=>stepV (i:=13) rfl hF (fun w hS=>Y.move hF rfl) rfl fun a hF=>stepV_on (i:=14) rfl hF rfl rfl hbv_17 (fun w hS=>Y.move hF rfl) rfl fun a hF=>stepV_on (i:=15) rfl hF rfl rfl hbv_17 (fun w hS=>Y.lenSl u_30 hF rfl) rfl fun a hF=>stepV_on (i:=16) rfl hF rfl rfl hbv_17 (fun w hS=>Y.eql hF rfl rfl) rfl fun a hF=>stepV (i:=17) rfl hF (fun w hS=>Y.pick_t hF rfl hbv_17 rfl) rfl fun a hF=>stepV (i:=18) rfl hF (fun w hS=>Y.move hF rfl) rfl fun a hF=>stepV_off (i:=19) rfl hF rfl rfl hbv_18 rfl fun a hF=>stepV_off (i:=20) rfl hF rfl rfl hbv_18 rfl fun a hF=>stepV_off (i:=21) rfl hF rfl rfl hbv_18 rfl fun a hF=>stepV_off (i:=22) rfl hF rfl rfl hbv_18 rfl fun a hF=>stepV_off (i:=23) rfl hF rfl rfl hbv_18 rfl fun a hF=>stepV_off (i:=24) rfl hF rfl rfl hbv_18 rfl fun a hF=>stepV_off (i:=25) rfl hF rfl rfl hbv_18 rfl fun a hF=>stepV_off (i:=26) rfl hF rfl rfl hbv_18 rfl fun a hF=>stepV_off (i:=27) rfl hF rfl rfl hbv_18 rfl fun a hF=>stepV_off (i:=28) rfl hF rfl rfl hbv_18 rfl fun a hF=>stepV_off (i:=29) rfl hF rfl rfl hbv_18 rfl fun a hF=>stepV_off (i:=30) rfl hF rfl rfl hbv_18 rfl fun a hF=>stepV_off (i:=31) rfl hF rfl rfl hbv_18 rfl fun a hF=>stepV_off (i:=32) rfl hF rfl rfl hbv_18 rfl fun a hF=>oneV (i:=33) rfl ?_ trivial
      refine guard_off hF rfl rfl hbv_18 rfl fun a hF=>nT ⟨hS.weak (AL rfl),?_⟩
      refine stepV (i:=34) rfl hF (fun w hS=>Y.pick_f hF rfl hbv_18 rfl) rfl fun a hF=>stepV (i:=35) rfl hF (fun w hS=>Y.move hF rfl) rfl fun a hF=>stepV_off (i:=36) rfl hF rfl rfl rfl rfl fun a hF=>stepV_off (i:=37) rfl hF rfl rfl rfl rfl fun a hF=>stepV_off (i:=38) rfl hF rfl rfl rfl rfl fun a hF=>stepV_off (i:=39) rfl hF rfl rfl rfl rfl fun a hF=>stepV_off (i:=40) rfl hF rfl rfl rfl rfl fun a hF=>stepV_off (i:=41) rfl hF rfl rfl rfl rfl fun a hF=>stepV_off (i:=42) rfl hF rfl rfl rfl rfl fun a hF=>stepV_off (i:=43) rfl hF rfl rfl rfl rfl fun a hF=>stepV_off (i:=44) rfl hF rfl rfl rfl rfl fun a hF=>stepV_off (i:=45) rfl hF rfl rfl rfl rfl fun a hF=>stepV_off (i:=46) rfl hF rfl rfl rfl rfl fun a hF=>stepV (i:=47) rfl hF (fun w hS=>Y.pick_f hF rfl rfl rfl) rfl fun a hF=>toTailV ⟨hF.weak ⟨rfl,rfl,trivial⟩,hS.weak (AL rfl)⟩
     replace ht_8:=cond_f ht_8 hbv_17
     obtain rfl:=some_inj ht_8
     replace ht_9:=cond_f ht_9 rfl
     obtain rfl:=some_inj ht_9
     replace ht_10:=cond_f ht_10 rfl
     obtain rfl:=some_inj ht_10
     refine stepV (i:=0) rfl hF (fun w hS=>Y.move hF rfl) rfl fun a hF=>stepV (i:=1) rfl hF (fun w hS=>Y.eql hF rfl rfl) rfl fun a hF=>stepV (i:=2) rfl hF (fun w hS=>Y.move hF rfl) rfl fun a hF=>stepV_on (i:=3) rfl hF rfl rfl hbv_14 (fun w hS=>Y.move hF rfl) rfl fun a hF=>stepV_on (i:=4) rfl hF rfl rfl hbv_14 (fun w hS=>Y.eql hF rfl rfl) rfl fun a hF=>stepV (i:=5) rfl hF (fun w hS=>Y.pick_t hF rfl hbv_14 rfl) rfl fun a hF=>stepV (i:=6) rfl hF (fun w hS=>Y.move hF rfl) rfl fun a hF=>stepV_on (i:=7) rfl hF rfl rfl hbv_15 (fun w hS=>Y.move hF rfl) rfl fun a hF=>stepV_on (i:=8) rfl hF rfl rfl hbv_15 (fun w hS=>Y.eql hF rfl rfl) rfl fun a hF=>stepV (i:=9) rfl hF (fun w hS=>Y.pick_t hF rfl hbv_15 rfl) rfl fun a hF=>stepV (i:=10) rfl hF (fun w hS=>Y.move hF rfl) rfl fun a hF=>stepV_on (i:=11) rfl hF rfl rfl hbv_16 (fun w hS=>Y.move hF rfl) rfl fun a hF=>stepV (i:=12) rfl hF (fun w hS=>Y.pick_t hF rfl hbv_16 rfl) rfl fun a hF=>stepV (i:=13) rfl hF (fun w hS=>Y.move hF rfl) rfl fun a hF=>stepV_off (i:=14) rfl hF rfl rfl hbv_17 rfl fun a hF=>stepV_off (i:=15) rfl hF rfl rfl hbv_17 rfl fun a hF=>stepV_off (i:=16) rfl hF rfl rfl hbv_17 rfl fun a hF=>stepV (i:=17) rfl hF (fun w hS=>Y.pick_f hF rfl hbv_17 rfl) rfl fun a hF=>stepV (i:=18) rfl hF (fun w hS=>Y.move hF rfl) rfl fun a hF=>stepV_off (i:=19) rfl hF rfl rfl rfl rfl fun a hF=>stepV_off (i:=20) rfl hF rfl rfl rfl rfl fun a hF=>stepV_off (i:=21) rfl hF rfl rfl rfl rfl fun a hF=>stepV_off (i:=22) rfl hF rfl rfl rfl rfl fun a hF=>stepV_off (i:=23) rfl hF rfl rfl rfl rfl fun a hF=>stepV_off (i:=24) rfl hF rfl rfl rfl rfl fun a hF=>stepV_off (i:=25) rfl hF rfl rfl rfl rfl fun a hF=>stepV_off (i:=26) rfl hF rfl rfl rfl rfl fun a hF=>stepV_off (i:=27) rfl hF rfl rfl rfl rfl fun a hF=>stepV_off (i:=28) rfl hF rfl rfl rfl rfl fun a hF=>stepV_off (i:=29) rfl hF rfl rfl rfl rfl fun a hF=>stepV_off (i:=30) rfl hF rfl rfl rfl rfl fun a hF=>stepV_off (i:=31) rfl hF rfl rfl rfl rfl fun a hF=>stepV_off (i:=32) rfl hF rfl rfl rfl rfl fun a hF=>oneV (i:=33) rfl ?_ trivial
     refine guard_off hF rfl rfl rfl rfl fun a hF=>nT ⟨hS.weak (AL rfl),?_⟩
     refine stepV (i:=34) rfl hF (fun w hS=>Y.pick_f hF rfl rfl rfl) rfl fun a hF=>stepV (i:=35) rfl hF (fun w hS=>Y.move hF rfl) rfl fun a hF=>stepV_off (i:=36) rfl hF rfl rfl rfl rfl fun a hF=>stepV_off (i:=37) rfl hF rfl rfl rfl rfl fun a hF=>stepV_off (i:=38) rfl hF rfl rfl rfl rfl fun a hF=>stepV_off (i:=39) rfl hF rfl rfl rfl rfl fun a hF=>stepV_off (i:=40) rfl hF rfl rfl rfl rfl fun a hF=>stepV_off (i:=41) rfl hF rfl rfl rfl rfl fun a hF=>stepV_off (i:=42) rfl hF rfl rfl rfl rfl fun a hF=>stepV_off (i:=43) rfl hF rfl rfl rfl rfl fun a hF=>stepV_off (i:=44) rfl hF rfl rfl rfl rfl fun a hF=>stepV_off (i:=45) rfl hF rfl rfl rfl rfl fun a hF=>stepV_off (i:=46) rfl hF rfl rfl rfl rfl fun a hF=>stepV (i:=47) rfl hF (fun w hS=>Y.pick_f hF rfl rfl rfl) rfl fun a hF=>toTailV ⟨hF.weak ⟨rfl,rfl,trivial⟩,hS.weak (AL rfl)⟩
    replace ht_7:=cond_f ht_7 hbv_16
    obtain rfl:=some_inj ht_7
    replace ht_8:=cond_f ht_8 rfl
    obtain rfl:=some_inj ht_8
    replace ht_9:=cond_f ht_9 rfl
    obtain rfl:=some_inj ht_9
    replace ht_10:=cond_f ht_10 rfl
    obtain rfl:=some_inj ht_10
    refine stepV (i:=0) rfl hF (fun w hS=>Y.move hF rfl) rfl fun a hF=>stepV (i:=1) rfl hF (fun w hS=>Y.eql hF rfl rfl) rfl fun a hF=>stepV (i:=2) rfl hF (fun w hS=>Y.move hF rfl) rfl fun a hF=>stepV_on (i:=3) rfl hF rfl rfl hbv_14 (fun w hS=>Y.move hF rfl) rfl fun a hF=>stepV_on (i:=4) rfl hF rfl rfl hbv_14 (fun w hS=>Y.eql hF rfl rfl) rfl fun a hF=>stepV (i:=5) rfl hF (fun w hS=>Y.pick_t hF rfl hbv_14 rfl) rfl fun a hF=>stepV (i:=6) rfl hF (fun w hS=>Y.move hF rfl) rfl fun a hF=>stepV_on (i:=7) rfl hF rfl rfl hbv_15 (fun w hS=>Y.move hF rfl) rfl fun a hF=>stepV_on (i:=8) rfl hF rfl rfl hbv_15 (fun w hS=>Y.eql hF rfl rfl) rfl fun a hF=>stepV (i:=9) rfl hF (fun w hS=>Y.pick_t hF rfl hbv_15 rfl) rfl fun a hF=>stepV (i:=10) rfl hF (fun w hS=>Y.move hF rfl) rfl fun a hF=>stepV_off (i:=11) rfl hF rfl rfl hbv_16 rfl fun a hF=>stepV (i:=12) rfl hF (fun w hS=>Y.pick_f hF rfl hbv_16 rfl) rfl fun a hF=>stepV (i:=13) rfl hF (fun w hS=>Y.move hF rfl) rfl fun a hF=>stepV_off (i:=14) rfl hF rfl rfl rfl rfl fun a hF=>stepV_off (i:=15) rfl hF rfl rfl rfl rfl fun a hF=>stepV_off (i:=16) rfl hF rfl rfl rfl rfl fun a hF=>stepV (i:=17) rfl hF (fun w hS=>Y.pick_f hF rfl rfl rfl) rfl fun a hF=>stepV (i:=18) rfl hF (fun w hS=>Y.move hF rfl) rfl fun a hF=>stepV_off (i:=19) rfl hF rfl rfl rfl rfl fun a hF=>stepV_off (i:=20) rfl hF rfl rfl rfl rfl fun a hF=>stepV_off (i:=21) rfl hF rfl rfl rfl rfl fun a hF=>stepV_off (i:=22) rfl hF rfl rfl rfl rfl fun a hF=>stepV_off (i:=23) rfl hF rfl rfl rfl rfl fun a hF=>stepV_off (i:=24) rfl hF rfl rfl rfl rfl fun a hF=>stepV_off (i:=25) rfl hF rfl rfl rfl rfl fun a hF=>stepV_off (i:=26) rfl hF rfl rfl rfl rfl fun a hF=>stepV_off (i:=27) rfl hF rfl rfl rfl rfl fun a hF=>stepV_off (i:=28) rfl hF rfl rfl rfl rfl fun a hF=>stepV_off (i:=29) rfl hF rfl rfl rfl rfl fun a hF=>stepV_off (i:=30) rfl hF rfl rfl rfl rfl fun a hF=>stepV_off (i:=31) rfl hF rfl rfl rfl rfl fun a hF=>stepV_off (i:=32) rfl hF rfl rfl rfl rfl fun a hF=>oneV (i:=33) rfl ?_ trivial
    refine guard_off hF rfl rfl rfl rfl fun a hF=>nT ⟨hS.weak (AL rfl),?_⟩
    refine stepV (i:=34) rfl hF (fun w hS=>Y.pick_f hF rfl rfl rfl) rfl fun a hF=>stepV (i:=35) rfl hF (fun w hS=>Y.move hF rfl) rfl fun a hF=>stepV_off (i:=36) rfl hF rfl rfl rfl rfl fun a hF=>stepV_off (i:=37) rfl hF rfl rfl rfl rfl fun a hF=>stepV_off (i:=38) rfl hF rfl rfl rfl rfl fun a hF=>stepV_off (i:=39) rfl hF rfl rfl rfl rfl fun a hF=>stepV_off (i:=40) rfl hF rfl rfl rfl rfl fun a hF=>stepV_off (i:=41) rfl hF rfl rfl rfl rfl fun a hF=>stepV_off (i:=42) rfl hF rfl rfl rfl rfl fun a hF=>stepV_off (i:=43) rfl hF rfl rfl rfl rfl fun a hF=>stepV_off (i:=44) rfl hF rfl rfl rfl rfl fun a hF=>stepV_off (i:=45) rfl hF rfl rfl rfl rfl fun a hF=>stepV_off (i:=46) rfl hF rfl rfl rfl rfl fun a hF=>stepV (i:=47) rfl hF (fun w hS=>Y.pick_f hF rfl rfl rfl) rfl fun a hF=>toTailV ⟨hF.weak ⟨rfl,rfl,trivial⟩,hS.weak (AL rfl)⟩
   replace ht_6:=cond_f ht_6 hbv_15
   obtain rfl:=some_inj ht_6
   replace ht_7:=cond_f ht_7 rfl
   obtain rfl:=some_inj ht_7
   replace ht_8:=cond_f ht_8 rfl
   obtain rfl:=some_inj ht_8
   replace ht_9:=cond_f ht_9 rfl
   obtain rfl:=some_inj ht_9
   replace ht_10:=cond_f ht_10 rfl
   obtain rfl:=some_inj ht_10
   refine stepV (i:=0) rfl hF (fun w hS=>Y.move hF rfl) rfl fun a hF=>stepV (i:=1) rfl hF (fun w hS=>Y.eql hF rfl rfl) rfl fun a hF=>stepV (i:=2) rfl hF (fun w hS=>Y.move hF rfl) rfl fun a hF=>stepV_on (i:=3) rfl hF rfl rfl hbv_14 (fun w hS=>Y.move hF rfl) rfl fun a hF=>stepV_on (i:=4) rfl hF rfl rfl hbv_14 (fun w hS=>Y.eql hF rfl rfl) rfl fun a hF=>stepV (i:=5) rfl hF (fun w hS=>Y.pick_t hF rfl hbv_14 rfl) rfl fun a hF=>stepV (i:=6) rfl hF (fun w hS=>Y.move hF rfl) rfl fun a hF=>stepV_off (i:=7) rfl hF rfl rfl hbv_15 rfl fun a hF=>stepV_off (i:=8) rfl hF rfl rfl hbv_15 rfl fun a hF=>stepV (i:=9) rfl hF (fun w hS=>Y.pick_f hF rfl hbv_15 rfl) rfl fun a hF=>stepV (i:=10) rfl hF (fun w hS=>Y.move hF rfl) rfl fun a hF=>stepV_off (i:=11) rfl hF rfl rfl rfl rfl fun a hF=>stepV (i:=12) rfl hF (fun w hS=>Y.pick_f hF rfl rfl rfl) rfl fun a hF=>stepV (i:=13) rfl hF (fun w hS=>Y.move hF rfl) rfl fun a hF=>stepV_off (i:=14) rfl hF rfl rfl rfl rfl fun a hF=>stepV_off (i:=15) rfl hF rfl rfl rfl rfl fun a hF=>stepV_off (i:=16) rfl hF rfl rfl rfl rfl fun a hF=>stepV (i:=17) rfl hF (fun w hS=>Y.pick_f hF rfl rfl rfl) rfl fun a hF=>stepV (i:=18) rfl hF (fun w hS=>Y.move hF rfl) rfl fun a hF=>stepV_off (i:=19) rfl hF rfl rfl rfl rfl fun a hF=>stepV_off (i:=20) rfl hF rfl rfl rfl rfl fun a hF=>stepV_off (i:=21) rfl hF rfl rfl rfl rfl fun a hF=>stepV_off (i:=22) rfl hF rfl rfl rfl rfl fun a hF=>stepV_off (i:=23) rfl hF rfl rfl rfl rfl fun a hF=>stepV_off (i:=24) rfl hF rfl rfl rfl rfl fun a hF=>stepV_off (i:=25) rfl hF rfl rfl rfl rfl fun a hF=>stepV_off (i:=26) rfl hF rfl rfl rfl rfl fun a hF=>stepV_off (i:=27) rfl hF rfl rfl rfl rfl fun a hF=>stepV_off (i:=28) rfl hF rfl rfl rfl rfl fun a hF=>stepV_off (i:=29) rfl hF rfl rfl rfl rfl fun a hF=>stepV_off (i:=30) rfl hF rfl rfl rfl rfl fun a hF=>stepV_off (i:=31) rfl hF rfl rfl rfl rfl fun a hF=>stepV_off (i:=32) rfl hF rfl rfl rfl rfl fun a hF=>oneV (i:=33) rfl ?_ trivial
   refine guard_off hF rfl rfl rfl rfl fun a hF=>nT ⟨hS.weak (AL rfl),?_⟩
   refine stepV (i:=34) rfl hF (fun w hS=>Y.pick_f hF rfl rfl rfl) rfl fun a hF=>stepV (i:=35) rfl hF (fun w hS=>Y.move hF rfl) rfl fun a hF=>stepV_off (i:=36) rfl hF rfl rfl rfl rfl fun a hF=>stepV_off (i:=37) rfl hF rfl rfl rfl rfl fun a hF=>stepV_off (i:=38) rfl hF rfl rfl rfl rfl fun a hF=>stepV_off (i:=39) rfl hF rfl rfl rfl rfl fun a hF=>stepV_off (i:=40) rfl hF rfl rfl rfl rfl fun a hF=>stepV_off (i:=41) rfl hF rfl rfl rfl rfl fun a hF=>stepV_off (i:=42) rfl hF rfl rfl rfl rfl fun a hF=>stepV_off (i:=43) rfl hF rfl rfl rfl rfl fun a hF=>stepV_off (i:=44) rfl hF rfl rfl rfl rfl fun a hF=>stepV_off (i:=45) rfl hF rfl rfl rfl rfl fun a hF=>stepV_off (i:=46) rfl hF rfl rfl rfl rfl fun a hF=>stepV (i:=47) rfl hF (fun w hS=>Y.pick_f hF rfl rfl rfl) rfl fun a hF=>toTailV ⟨hF.weak ⟨rfl,rfl,trivial⟩,hS.weak (AL rfl)⟩
  replace ht_5:=cond_f ht_5 hbv_14
  obtain rfl:=some_inj ht_5
  replace ht_6:=cond_f ht_6 rfl
  obtain rfl:=some_inj ht_6
  replace ht_7:=cond_f ht_7 rfl
  obtain rfl:=some_inj ht_7
  replace ht_8:=cond_f ht_8 rfl
  obtain rfl:=some_inj ht_8
  replace ht_9:=cond_f ht_9 rfl
  obtain rfl:=some_inj ht_9
  replace ht_10:=cond_f ht_10 rfl
  obtain rfl:=some_inj ht_10
  refine stepV (i:=0) rfl hF (fun w hS=>Y.move hF rfl) rfl fun a hF=>stepV (i:=1) rfl hF (fun w hS=>Y.eql hF rfl rfl) rfl fun a hF=>stepV (i:=2) rfl hF (fun w hS=>Y.move hF rfl) rfl fun a hF=>stepV_off (i:=3) rfl hF rfl rfl hbv_14 rfl fun a hF=>stepV_off (i:=4) rfl hF rfl rfl hbv_14 rfl fun a hF=>stepV (i:=5) rfl hF (fun w hS=>Y.pick_f hF rfl hbv_14 rfl) rfl fun a hF=>stepV (i:=6) rfl hF (fun w hS=>Y.move hF rfl) rfl fun a hF=>stepV_off (i:=7) rfl hF rfl rfl rfl rfl fun a hF=>stepV_off (i:=8) rfl hF rfl rfl rfl rfl fun a hF=>stepV (i:=9) rfl hF (fun w hS=>Y.pick_f hF rfl rfl rfl) rfl fun a hF=>stepV (i:=10) rfl hF (fun w hS=>Y.move hF rfl) rfl fun a hF=>stepV_off (i:=11) rfl hF rfl rfl rfl rfl fun a hF=>stepV (i:=12) rfl hF (fun w hS=>Y.pick_f hF rfl rfl rfl) rfl fun a hF=>stepV (i:=13) rfl hF (fun w hS=>Y.move hF rfl) rfl fun a hF=>stepV_off (i:=14) rfl hF rfl rfl rfl rfl fun a hF=>stepV_off (i:=15) rfl hF rfl rfl rfl rfl fun a hF=>stepV_off (i:=16) rfl hF rfl rfl rfl rfl fun a hF=>stepV (i:=17) rfl hF (fun w hS=>Y.pick_f hF rfl rfl rfl) rfl fun a hF=>stepV (i:=18) rfl hF (fun w hS=>Y.move hF rfl) rfl fun a hF=>stepV_off (i:=19) rfl hF rfl rfl rfl rfl fun a hF=>stepV_off (i:=20) rfl hF rfl rfl rfl rfl fun a hF=>stepV_off (i:=21) rfl hF rfl rfl rfl rfl fun a hF=>stepV_off (i:=22) rfl hF rfl rfl rfl rfl fun a hF=>stepV_off (i:=23) rfl hF rfl rfl rfl rfl fun a hF=>stepV_off (i:=24) rfl hF rfl rfl rfl rfl fun a hF=>stepV_off (i:=25) rfl hF rfl rfl rfl rfl fun a hF=>stepV_off (i:=26) rfl hF rfl rfl rfl rfl fun a hF=>stepV_off (i:=27) rfl hF rfl rfl rfl rfl fun a hF=>stepV_off (i:=28) rfl hF rfl rfl rfl rfl fun a hF=>stepV_off (i:=29) rfl hF rfl rfl rfl rfl fun a hF=>stepV_off (i:=30) rfl hF rfl rfl rfl rfl fun a hF=>stepV_off (i:=31) rfl hF rfl rfl rfl rfl fun a hF=>stepV_off (i:=32) rfl hF rfl rfl rfl rfl fun a hF=>oneV (i:=33) rfl ?_ trivial
  refine guard_off hF rfl rfl rfl rfl fun a hF=>nT ⟨hS.weak (AL rfl),?_⟩
  refine stepV (i:=34) rfl hF (fun w hS=>Y.pick_f hF rfl rfl rfl) rfl fun a hF=>stepV (i:=35) rfl hF (fun w hS=>Y.move hF rfl) rfl fun a hF=>stepV_off (i:=36) rfl hF rfl rfl rfl rfl fun a hF=>stepV_off (i:=37) rfl hF rfl rfl rfl rfl fun a hF=>stepV_off (i:=38) rfl hF rfl rfl rfl rfl fun a hF=>stepV_off (i:=39) rfl hF rfl rfl rfl rfl fun a hF=>stepV_off (i:=40) rfl hF rfl rfl rfl rfl fun a hF=>stepV_off (i:=41) rfl hF rfl rfl rfl rfl fun a hF=>stepV_off (i:=42) rfl hF rfl rfl rfl rfl fun a hF=>stepV_off (i:=43) rfl hF rfl rfl rfl rfl fun a hF=>stepV_off (i:=44) rfl hF rfl rfl rfl rfl fun a hF=>stepV_off (i:=45) rfl hF rfl rfl rfl rfl fun a hF=>stepV_off (i:=46) rfl hF rfl rfl rfl rfl fun a hF=>stepV (i:=47) rfl hF (fun w hS=>Y.pick_f hF rfl rfl rfl) rfl fun a hF=>toTailV ⟨hF.weak ⟨rfl,rfl,trivial⟩,hS.weak (AL rfl)⟩
 rintro a w ⟨hF,hS⟩
 refine step hF (Y.move hF rfl) rfl fun a hF=>?_
 obtain ⟨t_11,ht_11,h⟩:=bind_some h
 refine join (N:=250) (rs:=[]) (w0:=w0) (D0:=D0) 2 (us:=[(8,.bool false),(249,.bool t_11)]) (ms:=[(1,.cells b [iv n.Exchanges,.slice p n.Lines.length c,iv n.Hops,.slice p_1 n.Loops.length c_1] 25),(2,.cells b_1 [iv rates.a0.Low,iv rates.a0.High,iv rates.a1.Low,iv rates.a1.High] 28),(3,.cells b_2 [iv k.a0,iv k.a1,iv k.a2,iv k.a3] 29),(5,.cells b_3 [iv 3,.slice p_3 ([rates.a0,rates.a1]).length c_3,.slice none 0 0,.slice p_11 l_1.length c_11] 35),(6,.own none ([]:List BeatPair).length 0 ([]) 52 5),(8,.cells b_4 [iv rv_7.1.Low,iv rv_7.1.High] 27),(15,.cells b_9 [iv rv_21.1.Low,iv rv_21.1.High] 27)]) (D':=Dv_9) ?_ ?_
 ·rcases bcases t_10 with hbv_20 | hbv_20
  ·skip
   replace h:=cond_t ht_11 hbv_20
   refine guard_on hF rfl rfl hbv_20 ?_
   obtain ⟨rv_23,hx_31,h⟩:=bind_some h
   refine O.callP (us:=[]) ca_8 hF hS (remontoirtop_rung06_ok hS.stab hG rv_23 hx_31) rfl rfl fun a w hF hS=>step hF (Y.pick_t hF rfl hbv_20 rfl) rfl fun a hF=>?_
   obtain rfl:=some_inj h
   exact nT ⟨hF.weak ⟨rfl,rfl,trivial⟩,hS.weak (AL rfl)⟩
  replace h:=cond_f ht_11 hbv_20
  refine guard_off hF rfl rfl hbv_20 rfl fun a hF=>step hF (Y.pick_f hF rfl hbv_20 rfl) rfl fun a hF=>?_
  obtain rfl:=some_inj h
  exact nT ⟨hF.weak ⟨rfl,rfl,trivial⟩,hS.weak (AL rfl)⟩
 intro a w hF hS
 refine step hF (Y.assign hF rfl) rfl fun a hF=>nT (ret_ ?_)
 obtain rfl:=some_inj h
 exact leaveP Tryz.results3 hF hS (.cons (.tmp rfl) .nil) .nil rfl
end Go.Proofs.YtgdfljiliflhfaaGreatDoor.Rt
