/- Walks of the functions of this seat: what each Go function comes to, as a Lean function, and the proof. Part WV1. Under no conditions. -/
import Derived.Test.YtgdfljiliflhfaaGreatDoorC3WS1
set_option linter.unusedVariables false
set_option linter.unusedSimpArgs false
set_option maxRecDepth 100000
set_option maxHeartbeats 4000000
namespace Go.Proofs.YtgdfljiliflhfaaGreatDoor.Rt
open Go Go.RowKit
noncomputable def voice_within (n:Int) (first:Int) (last:Int):Option Bool:=
  some ((decide (first≤n)) && (decide (n≤last)))
theorem voice_within_ok {w0:World} {D0:Stab} (hD:D0.on w0) (n:Int) (first:Int) (last:Int) (out:Bool) (h:voice_within n first last=some out):Calls Tryz.prog 59 [iv n,iv first,iv last].toArray w0 (RetP D0 w0 (.bool out)):=by
 refine enter _ 15 Tryz.func59 rfl Tryz.ntmps59 rfl fun a hF=>?_
 replace hF:Frm 15 [] [(0,iv n),(1,iv first),(2,iv last)] a:=hF
 have hS:=St.start hD
 unfold voice_within at h
 refine seq (region (step hF (Y.assign hF rfl) rfl fun a hF=>nT (seq (region (step hF (Y.move hF rfl) rfl fun a hF=>step hF (Y.move hF rfl) rfl fun a hF=>step hF (Y.leq hF rfl rfl) rfl fun a hF=>step hF (Y.move hF rfl) rfl fun a hF=>join (N:=15) (rs:=[]) (w0:=w0) (D0:=D0) 4 (us:=[(6,.bool false),(14,.bool ((decide (first≤n)) && (decide (n≤last))))]) (ms:=[]) (D':=D0) ?_ ?_)))))
 ·rcases bcases (decide (first≤n)) with hbv | hbv
  ·skip
   refine guard_on hF rfl rfl hbv (step hF (Y.move hF rfl) rfl fun a hF=>guard_on hF rfl rfl hbv (step hF (Y.move hF rfl) rfl fun a hF=>guard_on hF rfl rfl hbv (step hF (Y.leq hF rfl rfl) rfl fun a hF=>step hF (Y.pick_t hF rfl hbv rfl) rfl fun a hF=>nT ⟨hF.weak ⟨rfl,(by rw [hbv];rfl),trivial⟩,hS.weak trivial⟩)))
  refine guard_off hF rfl rfl hbv rfl fun a hF=>guard_off hF rfl rfl hbv rfl fun a hF=>guard_off hF rfl rfl hbv rfl fun a hF=>step hF (Y.pick_f hF rfl hbv rfl) rfl fun a hF=>nT ⟨hF.weak ⟨rfl,(by rw [hbv];rfl),trivial⟩,hS.weak trivial⟩
 intro a w hF hS
 refine step hF (Y.assign hF rfl) rfl fun a hF=>nT (ret_ ?_)
 obtain rfl:=some_inj h
 exact leaveP Tryz.results59 hF hS (.cons (.tmp rfl) .nil) .nil rfl
noncomputable def voice_isSpan (sv:Span) (first:Int) (last:Int):Option Bool:=
  some (((decide (first≤sv.Low)) && (decide (sv.Low≤sv.High))) && (decide (sv.High≤last)))
theorem voice_isSpan_ok {w0:World} {D0:Stab} (hD:D0.on w0) (sv:Span) (first:Int) (last:Int) (out:Bool) (h:voice_isSpan sv first last=some out):Calls Tryz.prog 60 [.agg #[iv sv.Low,iv sv.High],iv first,iv last].toArray w0 (RetP D0 w0 (.bool out)):=by
 refine enter _ 24 Tryz.func60 rfl Tryz.ntmps60 rfl fun a hF=>?_
 replace hF:Frm 24 [] [(0,.agg #[iv sv.Low,iv sv.High]),(1,iv first),(2,iv last)] a:=hF
 have hS:=St.start hD
 unfold voice_isSpan at h
 refine seq (region (O.box (cs:=[iv sv.Low,iv sv.High]) 1 hF rfl rfl hS rfl fun b a w hF hS=>step hF (Y.assign hF rfl) rfl fun a hF=>nT (seq (region (step hF (Y.move hF rfl) rfl fun a hF=>step hF (Y.fieldAddr fo_27_0 hF rfl) rfl fun a hF=>step hF (Y.load1L 1 sz_3 hF rfl hS rfl rfl) rfl fun a hF=>step hF (Y.leq hF rfl rfl) rfl fun a hF=>step hF (Y.move hF rfl) rfl fun a hF=>join (N:=24) (rs:=[]) (w0:=w0) (D0:=D0) 6 (us:=[(2,iv last),(3,.pointer (some ⟨b,0,none⟩)),(6,.bool false),(17,.bool ((decide (first≤sv.Low)) && (decide (sv.Low≤sv.High))))]) (ms:=[(1,.cells b [iv sv.Low,iv sv.High] 27)]) (D':=D0) ?_ ?_)))))
 ·rcases bcases (decide (first≤sv.Low)) with hbv | hbv
  ·skip
   refine guard_on hF rfl rfl hbv (step hF (Y.fieldAddr fo_27_0 hF rfl) rfl fun a hF=>guard_on hF rfl rfl hbv (step hF (Y.load1L 1 sz_3 hF rfl hS rfl rfl) rfl fun a hF=>guard_on hF rfl rfl hbv (step hF (Y.fieldAddr fo_27_1 hF rfl) rfl fun a hF=>guard_on hF rfl rfl hbv (step hF (Y.load1L 1 sz_3 hF rfl hS rfl rfl) rfl fun a hF=>guard_on hF rfl rfl hbv (step hF (Y.leq hF rfl rfl) rfl fun a hF=>step hF (Y.pick_t hF rfl hbv rfl) rfl fun a hF=>nT ⟨hF.weak ⟨rfl,rfl,rfl,(by rw [hbv];rfl),trivial⟩,hS.weak ⟨rfl,trivial⟩⟩)))))
  refine guard_off hF rfl rfl hbv rfl fun a hF=>guard_off hF rfl rfl hbv rfl fun a hF=>guard_off hF rfl rfl hbv rfl fun a hF=>guard_off hF rfl rfl hbv rfl fun a hF=>guard_off hF rfl rfl hbv rfl fun a hF=>step hF (Y.pick_f hF rfl hbv rfl) rfl fun a hF=>nT ⟨hF.weak ⟨rfl,rfl,rfl,(by rw [hbv];rfl),trivial⟩,hS.weak ⟨rfl,trivial⟩⟩
 intro a w hF hS
 refine step hF (Y.move hF rfl) rfl fun a hF=>join (N:=24) (rs:=[]) (w0:=w0) (D0:=D0) 5 (us:=[(6,.bool false),(23,.bool (((decide (first≤sv.Low)) && (decide (sv.Low≤sv.High))) && (decide (sv.High≤last))))]) (ms:=[(1,.cells b [iv sv.Low,iv sv.High] 27)]) (D':=D0) ?_ ?_
 ·rcases bcases ((decide (first≤sv.Low)) && (decide (sv.Low≤sv.High))) with hbv_1 | hbv_1
  ·skip
   refine guard_on hF rfl rfl hbv_1 (step hF (Y.fieldAddr fo_27_1 hF rfl) rfl fun a hF=>guard_on hF rfl rfl hbv_1 (step hF (Y.load1L 1 sz_3 hF rfl hS rfl rfl) rfl fun a hF=>guard_on hF rfl rfl hbv_1 (step hF (Y.move hF rfl) rfl fun a hF=>guard_on hF rfl rfl hbv_1 (step hF (Y.leq hF rfl rfl) rfl fun a hF=>step hF (Y.pick_t hF rfl hbv_1 rfl) rfl fun a hF=>nT ⟨hF.weak ⟨rfl,(by rw [hbv_1];rfl),trivial⟩,hS.weak ⟨rfl,trivial⟩⟩))))
  refine guard_off hF rfl rfl hbv_1 rfl fun a hF=>guard_off hF rfl rfl hbv_1 rfl fun a hF=>guard_off hF rfl rfl hbv_1 rfl fun a hF=>guard_off hF rfl rfl hbv_1 rfl fun a hF=>step hF (Y.pick_f hF rfl hbv_1 rfl) rfl fun a hF=>nT ⟨hF.weak ⟨rfl,(by rw [hbv_1];rfl),trivial⟩,hS.weak ⟨rfl,trivial⟩⟩
 intro a w hF hS
 refine step hF (Y.assign hF rfl) rfl fun a hF=>nT (ret_ ?_)
 obtain rfl:=some_inj h
 exact leaveP Tryz.results60 hF hS (.cons (.tmp rfl) .nil) .nil rfl
noncomputable def voice_areWords_1 (n:Int):Option Bool:=
  (voice_within n 0 299).bind fun rv=>
  some (!rv)
theorem voice_areWords_1_ok {w0:World} {D0:Stab} (hD:D0.on w0) (n:Int) (out:Bool) (h:voice_areWords_1 n=some out):Calls Tryz.prog 61 [iv n].toArray w0 (RetP D0 w0 (.bool out)):=by
 refine enter _ 6 Tryz.func61 rfl Tryz.ntmps61 rfl fun a hF=>?_
 replace hF:Frm 6 [] [(0,iv n)] a:=hF
 have hS:=St.start hD
 unfold voice_areWords_1 at h
 refine seq (region (step hF (Y.assign hF rfl) rfl fun a hF=>nT (seq (region (step hF (Y.move hF rfl) rfl fun a hF=>?_)))))
 obtain ⟨rv,hx,h⟩:=bind_some h
 refine O.callP (us:=[iv n,iv 0,iv 299]) ca_59 hF hS (voice_within_ok hS.stab n 0 299 rv hx) rfl rfl fun a w hF hS=>step hF (Y.not hF rfl) rfl fun a hF=>step hF (Y.assign hF rfl) rfl fun a hF=>nT (ret_ ?_)
 obtain rfl:=some_inj h
 exact leaveP Tryz.results61 hF hS (.cons (.tmp rfl) .nil) .nil rfl
noncomputable def voice_areWords (l:(List Int)) (many:Int):Option Bool:=
  (voice_within (l.length:Int) 1 many).bind fun rv=>
  (cond rv ((slices_ContainsFunc___int_int_ l (fun q_z=>voice_areWords_1 q_z)).bind fun rv_1=>
  some (!rv_1)) (some false)).bind fun t=>
  some t
theorem voice_areWords_ok {w0:World} {D0:Stab} (hD:D0.on w0) (l:(List Int)) (many:Int) {p:Option Addr} {c:Nat} (hs:SRc C_int D0 l p c) (out:Bool) (h:voice_areWords l many=some out):Calls Tryz.prog 43 [.slice p l.length c,iv many].toArray w0 (RetP D0 w0 (.bool out)):=by
 refine enter _ 14 Tryz.func43 rfl Tryz.ntmps43 rfl fun a hF=>?_
 replace hF:Frm 14 [] [(0,.slice p l.length c),(1,iv many)] a:=hF
 have hS:=St.start hD
 unfold voice_areWords at h
 refine seq (region (step hF (Y.assign hF rfl) rfl fun a hF=>nT (seq (region (step hF (Y.move hF rfl) rfl fun a hF=>step hF (Y.lenSl u_30 hF rfl) rfl fun a hF=>step hF (Y.move hF rfl) rfl fun a hF=>?_)))))
 obtain ⟨rv,hx,h⟩:=bind_some h
 refine O.callP (us:=[iv (l.length:Int),iv 1,iv many]) ca_59 hF hS (voice_within_ok hS.stab (l.length:Int) 1 many rv hx) rfl rfl fun a w hF hS=>step hF (Y.move hF rfl) rfl fun a hF=>?_
 obtain ⟨t,ht,h⟩:=bind_some h
 refine join (N:=14) (rs:=[]) (w0:=w0) (D0:=D0) 4 (us:=[(4,.bool false),(13,.bool t)]) (ms:=[]) (D':=D0) ?_ ?_
 ·rcases bcases rv with hbv | hbv
  ·skip
   replace h:=cond_t ht hbv
   refine guard_on hF rfl rfl hbv (step hF (Y.move hF rfl) rfl fun a hF=>guard_on hF rfl rfl hbv ?_)
   obtain ⟨rv_1,hx_1,h⟩:=bind_some h
   refine O.callP (us:=[.slice p l.length c,.func (.func 61) #[] #[]]) ca_32 hF hS (slices_ContainsFunc___int_int__ok hS.stab l (fun q_z=>voice_areWords_1 q_z) hs (show FnOk_93 _ _ 61 [] [] (fun q_z=>voice_areWords_1 q_z) from ⟨ca_61,fun w D hb hle hon q_z r h=>voice_areWords_1_ok hon q_z r h⟩) rv_1 hx_1) rfl rfl fun a w hF hS=>guard_on hF rfl rfl hbv (step hF (Y.not hF rfl) rfl fun a hF=>step hF (Y.pick_t hF rfl hbv rfl) rfl fun a hF=>?_)
   obtain rfl:=some_inj h
   exact nT ⟨hF.weak ⟨rfl,rfl,trivial⟩,hS.weak trivial⟩
  replace h:=cond_f ht hbv
  refine guard_off hF rfl rfl hbv rfl fun a hF=>guard_off hF rfl rfl hbv rfl fun a hF=>guard_off hF rfl rfl hbv rfl fun a hF=>step hF (Y.pick_f hF rfl hbv rfl) rfl fun a hF=>?_
  obtain rfl:=some_inj h
  exact nT ⟨hF.weak ⟨rfl,rfl,trivial⟩,hS.weak trivial⟩
 intro a w hF hS
 refine step hF (Y.assign hF rfl) rfl fun a hF=>nT (ret_ ?_)
 obtain rfl:=some_inj h
 exact leaveP Tryz.results43 hF hS (.cons (.tmp rfl) .nil) .nil rfl
noncomputable def voice_Check_b2 (b:VoiceBook):(Bool × Int)→Option ((Bool × Int) ⊕ Int)
 | (ok_1,v44_0)=>
  cond (decide (v44_0 < (b.Pieces.length:Int)))
  ((idx b.Pieces v44_0).bind fun e_1=>
  (cond ok_1 ((voice_areWords e_1.Words 4).bind fun rv_5=>
  some rv_5) (some false)).bind fun t_4=>
  (cond t_4 ((voice_within e_1.Disc 0 (wr ((b.Discs.length:Int) - 1))).bind fun rv_6=>
  some rv_6) (some false)).bind fun t_5=>
  (cond t_5 ((idx b.Discs e_1.Disc).bind fun e_2=>
  (voice_within e_1.Begin 0 (wr (e_2 - 1))).bind fun rv_7=>
  some rv_7) (some false)).bind fun t_6=>
  (cond t_6 ((idx b.Discs e_1.Disc).bind fun e_3=>
  (voice_within e_1.Long 1 e_3).bind fun rv_8=>
  some rv_8) (some false)).bind fun t_7=>
  nxt (t_7,wr (v44_0 + 1)))
  (ext (cond (!ok_1)
  (some 50)
  (some 0)))
noncomputable def voice_Check_b1 (b:VoiceBook):(Bool × Int)→Option ((Bool × Int) ⊕ Int)
 | (ok,v31_0)=>
  cond (decide (v31_0 < (b.Discs.length:Int)))
  ((idx b.Discs v31_0).bind fun e=>
  (cond ok ((voice_within e 1 500).bind fun rv_4=>
  some rv_4) (some false)).bind fun t_3=>
  nxt (t_3,wr (v31_0 + 1)))
  (ext (loopU (voice_Check_b2 b) (ok,0)))
noncomputable def voice_Check (b:VoiceBook):Option Int:=
  (voice_within (b.Discs.length:Int) 1 4).bind fun rv=>
  (cond rv ((voice_within (b.Pieces.length:Int) 1 10).bind fun rv_1=>
  some rv_1) (some false)).bind fun t=>
  (cond t ((voice_isSpan b.Pause 0 200).bind fun rv_2=>
  some rv_2) (some false)).bind fun t_1=>
  (cond t_1 ((voice_isSpan b.Rest 0 500).bind fun rv_3=>
  some rv_3) (some false)).bind fun t_2=>
  loopU (voice_Check_b1 b) (t_2,0)
theorem voice_Check_ok {w0:World} {D0:Stab} (hD:D0.on w0) (b:VoiceBook) {p:Option Addr} {c:Nat} {p_1:Option Addr} {c_1:Nat} (hs:SRc C_int D0 b.Discs p c) (hs_1:SRc C_VoicePiece D0 b.Pieces p_1 c_1) (out:Int) (h:voice_Check b=some out):Calls Tryz.prog 42 [.agg #[.slice p b.Discs.length c,.slice p_1 b.Pieces.length c_1,iv b.Pause.Low,iv b.Pause.High,iv b.Rest.Low,iv b.Rest.High]].toArray w0 (RetP D0 w0 (iv out)):=by
 refine enter _ 90 Tryz.func42 rfl Tryz.ntmps42 rfl fun a hF=>?_
 replace hF:Frm 90 [] [(0,.agg #[.slice p b.Discs.length c,.slice p_1 b.Pieces.length c_1,iv b.Pause.Low,iv b.Pause.High,iv b.Rest.Low,iv b.Rest.High])] a:=hF
 have hS:=St.start hD
 unfold voice_Check at h
 refine seq (region (O.box (cs:=[.slice p b.Discs.length c,.slice p_1 b.Pieces.length c_1,iv b.Pause.Low,iv b.Pause.High,iv b.Rest.Low,iv b.Rest.High]) 1 hF rfl rfl hS rfl fun b_1 a w hF hS=>step hF (Y.assign hF rfl) rfl fun a hF=>nT (seq (region (step hF (Y.fieldAddr fo_70_0 hF rfl) rfl fun a hF=>step hF (Y.load1L 1 sz_30 hF rfl hS rfl rfl) rfl fun a hF=>step hF (Y.lenSl u_30 hF rfl) rfl fun a hF=>?_)))))
 obtain ⟨rv,hx,h⟩:=bind_some h
 refine O.callP (us:=[iv (b.Discs.length:Int),iv 1,iv 4]) ca_59 hF hS (voice_within_ok hS.stab (b.Discs.length:Int) 1 4 rv hx) rfl rfl fun a w hF hS=>step hF (Y.move hF rfl) rfl fun a hF=>?_
 obtain ⟨t,ht,h⟩:=bind_some h
 refine join (N:=90) (rs:=[]) (w0:=w0) (D0:=D0) 5 (us:=[(1,.pointer (some ⟨b_1,0,none⟩)),(2,iv 0),(17,.bool t)]) (ms:=[(1,.cells b_1 [.slice p b.Discs.length c,.slice p_1 b.Pieces.length c_1,iv b.Pause.Low,iv b.Pause.High,iv b.Rest.Low,iv b.Rest.High] 70)]) (D':=D0) ?_ ?_
 ·rcases bcases rv with hbv | hbv
  ·skip
   replace h:=cond_t ht hbv
   refine guard_on hF rfl rfl hbv (step hF (Y.fieldAddr fo_70_1 hF rfl) rfl fun a hF=>guard_on hF rfl rfl hbv (step hF (Y.load1L 1 sz_68 hF rfl hS rfl rfl) rfl fun a hF=>guard_on hF rfl rfl hbv (step hF (Y.lenSl u_68 hF rfl) rfl fun a hF=>guard_on hF rfl rfl hbv ?_)))
   obtain ⟨rv_1,hx_1,h⟩:=bind_some h
   refine O.callP (us:=[iv (b.Pieces.length:Int),iv 1,iv 10]) ca_59 hF hS (voice_within_ok hS.stab (b.Pieces.length:Int) 1 10 rv_1 hx_1) rfl rfl fun a w hF hS=>step hF (Y.pick_t hF rfl hbv rfl) rfl fun a hF=>?_
   obtain rfl:=some_inj h
   exact nT ⟨hF.weak (AF rfl),hS.weak ⟨rfl,trivial⟩⟩
  replace h:=cond_f ht hbv
  refine guard_off hF rfl rfl hbv rfl fun a hF=>guard_off hF rfl rfl hbv rfl fun a hF=>guard_off hF rfl rfl hbv rfl fun a hF=>guard_off hF rfl rfl hbv rfl fun a hF=>step hF (Y.pick_f hF rfl hbv rfl) rfl fun a hF=>?_
  obtain rfl:=some_inj h
  exact nT ⟨hF.weak (AF rfl),hS.weak ⟨rfl,trivial⟩⟩
 intro a w hF hS
 refine step hF (Y.move hF rfl) rfl fun a hF=>?_
 obtain ⟨t_1,ht_1,h⟩:=bind_some h
 refine join (N:=90) (rs:=[]) (w0:=w0) (D0:=D0) 4 (us:=[(1,.pointer (some ⟨b_1,0,none⟩)),(2,iv 0),(22,.bool t_1)]) (ms:=[(1,.cells b_1 [.slice p b.Discs.length c,.slice p_1 b.Pieces.length c_1,iv b.Pause.Low,iv b.Pause.High,iv b.Rest.Low,iv b.Rest.High] 70)]) (D':=D0) ?_ ?_
 ·rcases bcases t with hbv_1 | hbv_1
  ·skip
   replace h:=cond_t ht_1 hbv_1
   refine guard_on hF rfl rfl hbv_1 (step hF (Y.fieldAddr fo_70_2 hF rfl) rfl fun a hF=>guard_on hF rfl rfl hbv_1 (step hF (Y.loadNL 1 sz_27 hF rfl hS rfl rfl rfl) rfl fun a hF=>guard_on hF rfl rfl hbv_1 ?_))
   obtain ⟨rv_2,hx_2,h⟩:=bind_some h
   refine O.callP (us:=[.agg #[iv b.Pause.Low,iv b.Pause.High],iv 0,iv 200]) ca_60 hF hS (voice_isSpan_ok hS.stab b.Pause 0 200 rv_2 hx_2) rfl rfl fun a w hF hS=>step hF (Y.pick_t hF rfl hbv_1 rfl) rfl fun a hF=>?_
   obtain rfl:=some_inj h
   exact nT ⟨hF.weak (AF rfl),hS.weak ⟨rfl,trivial⟩⟩
  replace h:=cond_f ht_1 hbv_1
  refine guard_off hF rfl rfl hbv_1 rfl fun a hF=>guard_off hF rfl rfl hbv_1 rfl fun a hF=>guard_off hF rfl rfl hbv_1 rfl fun a hF=>step hF (Y.pick_f hF rfl hbv_1 rfl) rfl fun a hF=>?_
  obtain rfl:=some_inj h
  exact nT ⟨hF.weak (AF rfl),hS.weak ⟨rfl,trivial⟩⟩
 intro a w hF hS
 refine step hF (Y.move hF rfl) rfl fun a hF=>?_
 obtain ⟨t_2,ht_2,h⟩:=bind_some h
 refine join (N:=90) (rs:=[]) (w0:=w0) (D0:=D0) 4 (us:=[(1,.pointer (some ⟨b_1,0,none⟩)),(2,iv 0),(27,.bool t_2)]) (ms:=[(1,.cells b_1 [.slice p b.Discs.length c,.slice p_1 b.Pieces.length c_1,iv b.Pause.Low,iv b.Pause.High,iv b.Rest.Low,iv b.Rest.High] 70)]) (D':=D0) ?_ ?_
 ·rcases bcases t_1 with hbv_2 | hbv_2
  ·skip
   replace h:=cond_t ht_2 hbv_2
   refine guard_on hF rfl rfl hbv_2 (step hF (Y.fieldAddr fo_70_3 hF rfl) rfl fun a hF=>guard_on hF rfl rfl hbv_2 (step hF (Y.loadNL 1 sz_27 hF rfl hS rfl rfl rfl) rfl fun a hF=>guard_on hF rfl rfl hbv_2 ?_))
   obtain ⟨rv_3,hx_3,h⟩:=bind_some h
   refine O.callP (us:=[.agg #[iv b.Rest.Low,iv b.Rest.High],iv 0,iv 500]) ca_60 hF hS (voice_isSpan_ok hS.stab b.Rest 0 500 rv_3 hx_3) rfl rfl fun a w hF hS=>step hF (Y.pick_t hF rfl hbv_2 rfl) rfl fun a hF=>?_
   obtain rfl:=some_inj h
   exact nT ⟨hF.weak (AF rfl),hS.weak ⟨rfl,trivial⟩⟩
  replace h:=cond_f ht_2 hbv_2
  refine guard_off hF rfl rfl hbv_2 rfl fun a hF=>guard_off hF rfl rfl hbv_2 rfl fun a hF=>guard_off hF rfl rfl hbv_2 rfl fun a hF=>step hF (Y.pick_f hF rfl hbv_2 rfl) rfl fun a hF=>?_
  obtain rfl:=some_inj h
  exact nT ⟨hF.weak (AF rfl),hS.weak ⟨rfl,trivial⟩⟩
 intro a w hF hS
 refine step hF (Y.assign hF rfl) rfl fun a hF=>nT (seq (seq (region (step hF (Y.fieldAddr fo_70_0 hF rfl) rfl fun a hF=>step hF (Y.load1L 1 sz_30 hF rfl hS rfl rfl) rfl fun a hF=>step hF (Y.lenSl u_30 hF rfl) rfl fun a hF=>step hF (Y.move hF rfl) rfl fun a hF=>nT (block (loop_cut (body:=voice_Check_b1 b) (out:=out) (fun s a w=>∃ (ok:Bool) (v31_0:Int),s=(ok,v31_0)∧Frm 90 [] [(1,.pointer (some ⟨b_1,0,none⟩)),(2,iv 0),(3,.bool ok),(29,.slice p b.Discs.length c),(30,iv (b.Discs.length:Int)),(31,iv v31_0)] a∧St w0 D0 D0 [(1,.cells b_1 [.slice p b.Discs.length c,.slice p_1 b.Pieces.length c_1,iv b.Pause.Low,iv b.Pause.High,iv b.Rest.Low,iv b.Rest.High] 70)] w) (t_2,0) h ⟨t_2,0,rfl,hF.weak (AF rfl),hS.weak ⟨rfl,trivial⟩⟩ ?_))))))
 rintro s a w xo ⟨ok,v31_0,rfl,hF,hS⟩ h hxo
 unfold voice_Check_b1 at h
 dsimp only at h
 refine seq (region (step hF (Y.lss hF rfl rfl) rfl fun a hF=>nT (seq (cond_b hF rfl (fun hbv_3=>?_) (fun hbv_3=>?_)))))
 ·replace h:=cond_t h hbv_3
  refine skip_ (then_n (seq (block (seq (region ?_)))))
  obtain ⟨e,hx_4,h⟩:=bind_some h
  obtain ⟨b_2,o,hE,hY⟩:=Y.indexS (P:=Tryz.prog) (C:=C_int) (xs:=b.Discs) (T:=30) (x:=(.tmp 29)) (y:=(.tmp 31)) u_30 sz_3 hF rfl rfl (hs).1 hx_4
  obtain ⟨cc,hc,hcell⟩:=hE.open
  obtain rfl:=hc
  refine step hF (hY) rfl fun a hF=>step hF (Y.load1 sz_3 hF rfl (hcell _ hS.stab 0 _ rfl)) rfl fun a hF=>step hF (Y.assign hF rfl) rfl fun a hF=>nT (region (step hF (Y.move hF rfl) rfl fun a hF=>step hF (Y.move hF rfl) rfl fun a hF=>?_))
  obtain ⟨t_3,ht_3,h⟩:=bind_some h
  refine join (N:=90) (rs:=[]) (w0:=w0) (D0:=D0) 3 (us:=[(1,.pointer (some ⟨b_1,0,none⟩)),(2,iv 0),(3,.bool ok),(29,.slice p b.Discs.length c),(30,iv (b.Discs.length:Int)),(31,iv v31_0),(39,.bool t_3)]) (ms:=[(1,.cells b_1 [.slice p b.Discs.length c,.slice p_1 b.Pieces.length c_1,iv b.Pause.Low,iv b.Pause.High,iv b.Rest.Low,iv b.Rest.High] 70)]) (D':=D0) ?_ ?_
  ·rcases bcases ok with hbv_4 | hbv_4
   ·skip
    replace h:=cond_t ht_3 hbv_4
    refine guard_on hF rfl rfl hbv_4 (step hF (Y.move hF rfl) rfl fun a hF=>guard_on hF rfl rfl hbv_4 ?_)
    obtain ⟨rv_4,hx_5,h⟩:=bind_some h
    refine O.callP (us:=[iv e,iv 1,iv 500]) ca_59 hF hS (voice_within_ok hS.stab e 1 500 rv_4 hx_5) rfl rfl fun a w hF hS=>step hF (Y.pick_t hF rfl hbv_4 rfl) rfl fun a hF=>?_
    obtain rfl:=some_inj h
    exact nT ⟨hF.weak (AF rfl),hS.weak ⟨rfl,trivial⟩⟩
   replace h:=cond_f ht_3 hbv_4
   refine guard_off hF rfl rfl hbv_4 rfl fun a hF=>guard_off hF rfl rfl hbv_4 rfl fun a hF=>step hF (Y.pick_f hF rfl hbv_4 rfl) rfl fun a hF=>?_
   obtain rfl:=some_inj h
   exact nT ⟨hF.weak (AF rfl),hS.weak ⟨rfl,trivial⟩⟩
  intro a w hF hS
  refine step hF (Y.assign hF rfl) rfl fun a hF=>nil (blk_n (then_n (region (step hF (Y.add hF rfl rfl) rfl fun a hF=>step hF (Y.move hF rfl) rfl fun a hF=>nT (⟨_,nxt_some h,t_3,(wr (v31_0 + 1)),rfl,hF.weak (AF rfl),hS.weak ⟨rfl,trivial⟩⟩)))))
 replace h:=cond_f h hbv_3
 refine exit_ (then_x (then_x (blk_hit (then_n ?_))))
 replace h:=ext_some h hxo
 refine seq (seq (region (step hF (Y.fieldAddr fo_70_1 hF rfl) rfl fun a hF=>step hF (Y.load1L 1 sz_68 hF rfl hS rfl rfl) rfl fun a hF=>step hF (Y.lenSl u_68 hF rfl) rfl fun a hF=>step hF (Y.move hF rfl) rfl fun a hF=>nT (block (loop_cut (body:=voice_Check_b2 b) (out:=out) (fun s a w=>∃ (ok_1:Bool) (v44_0:Int),∃ (Dv:Stab),s=(ok_1,v44_0)∧D0.le Dv∧Frm 90 [] [(1,.pointer (some ⟨b_1,0,none⟩)),(2,iv 0),(3,.bool ok_1),(42,.slice p_1 b.Pieces.length c_1),(43,iv (b.Pieces.length:Int)),(44,iv v44_0)] a∧St w0 D0 Dv [(1,.cells b_1 [.slice p b.Discs.length c,.slice p_1 b.Pieces.length c_1,iv b.Pause.Low,iv b.Pause.High,iv b.Rest.Low,iv b.Rest.High] 70)] w) (ok,0) h ⟨ok,0,D0,rfl,Stab.le.refl _,hF.weak (AF rfl),hS.weak ⟨rfl,trivial⟩⟩ ?_)))))
 rintro s a w xo_1 ⟨ok_1,v44_0,Dv,rfl,hlev,hF,hS⟩ h hxo_1
 unfold voice_Check_b2 at h
 dsimp only at h
 replace hs:=hs.mono hlev
 replace hs_1:=hs_1.mono hlev
 refine seq (region (step hF (Y.lss hF rfl rfl) rfl fun a hF=>nT (seq (cond_b hF rfl (fun hbv_5=>?_) (fun hbv_5=>?_)))))
 ·replace h:=cond_t h hbv_5
  refine skip_ (then_n (seq (block (seq (region ?_)))))
  obtain ⟨e_1,hx_6,h⟩:=bind_some h
  obtain ⟨b_3,o_1,hE_1,hY_1⟩:=Y.indexS (P:=Tryz.prog) (C:=C_VoicePiece) (xs:=b.Pieces) (T:=68) (x:=(.tmp 42)) (y:=(.tmp 44)) u_68 sz_67 hF rfl rfl (hs_1).1 hx_6
  obtain ⟨cc_1,hc_1,hcell_1⟩:=hE_1.open
  obtain ⟨p_2,c_2,rfl,hs_2⟩:=C_VoicePiece.open hc_1
  refine step hF (hY_1) rfl fun a hF=>step hF (Y.loadNE (o:=o_1) (k:=0) sz_67 hF rfl (hcell_1 _ hS.stab) rfl rfl) rfl fun a hF=>O.alloc 2 zc_67 hF hS rfl fun b_4 a w hF hS=>O.store (us:=[.slice p_2 e_1.Words.length c_2,iv e_1.Disc,iv e_1.Begin,iv e_1.Long]) 2 sz_67 hF rfl rfl rfl rfl hS rfl rfl fun a w hF hS=>nT (seq (region (step hF (Y.move hF rfl) rfl fun a hF=>step hF (Y.move hF rfl) rfl fun a hF=>?_)))
  obtain ⟨t_4,ht_4,h⟩:=bind_some h
  refine join (N:=90) (rs:=[]) (w0:=w0) (D0:=D0) 4 (us:=[(1,.pointer (some ⟨b_1,0,none⟩)),(2,iv 0),(3,.bool ok_1),(7,.pointer (some ⟨b_4,0,none⟩)),(42,.slice p_1 b.Pieces.length c_1),(43,iv (b.Pieces.length:Int)),(44,iv v44_0),(53,.bool t_4)]) (ms:=[(1,.cells b_1 [.slice p b.Discs.length c,.slice p_1 b.Pieces.length c_1,iv b.Pause.Low,iv b.Pause.High,iv b.Rest.Low,iv b.Rest.High] 70),(2,.cells b_4 [.slice p_2 e_1.Words.length c_2,iv e_1.Disc,iv e_1.Begin,iv e_1.Long] 67)]) (D':=Dv) ?_ ?_
  ·rcases bcases ok_1 with hbv_6 | hbv_6
   ·skip
    replace h:=cond_t ht_4 hbv_6
    refine guard_on hF rfl rfl hbv_6 (step hF (Y.fieldAddr fo_67_0 hF rfl) rfl fun a hF=>guard_on hF rfl rfl hbv_6 (step hF (Y.load1L 2 sz_30 hF rfl hS rfl rfl) rfl fun a hF=>guard_on hF rfl rfl hbv_6 ?_))
    obtain ⟨rv_5,hx_7,h⟩:=bind_some h
    refine O.callP (us:=[.slice p_2 e_1.Words.length c_2,iv 4]) ca_43 hF hS (voice_areWords_ok hS.stab e_1.Words 4 hs_2 rv_5 hx_7) rfl rfl fun a w hF hS=>step hF (Y.pick_t hF rfl hbv_6 rfl) rfl fun a hF=>?_
    obtain rfl:=some_inj h
    exact nT ⟨hF.weak (AF rfl),hS.weak ⟨rfl,rfl,trivial⟩⟩
   replace h:=cond_f ht_4 hbv_6
   refine guard_off hF rfl rfl hbv_6 rfl fun a hF=>guard_off hF rfl rfl hbv_6 rfl fun a hF=>guard_off hF rfl rfl hbv_6 rfl fun a hF=>step hF (Y.pick_f hF rfl hbv_6 rfl) rfl fun a hF=>?_
   obtain rfl:=some_inj h
   exact nT ⟨hF.weak (AF rfl),hS.weak ⟨rfl,rfl,trivial⟩⟩
  intro a w hF hS
  refine step hF (Y.move hF rfl) rfl fun a hF=>?_
  obtain ⟨t_5,ht_5,h⟩:=bind_some h
  refine join (N:=90) (rs:=[]) (w0:=w0) (D0:=D0) 8 (us:=[(1,.pointer (some ⟨b_1,0,none⟩)),(2,iv 0),(3,.bool ok_1),(7,.pointer (some ⟨b_4,0,none⟩)),(42,.slice p_1 b.Pieces.length c_1),(43,iv (b.Pieces.length:Int)),(44,iv v44_0),(62,.bool t_5)]) (ms:=[(1,.cells b_1 [.slice p b.Discs.length c,.slice p_1 b.Pieces.length c_1,iv b.Pause.Low,iv b.Pause.High,iv b.Rest.Low,iv b.Rest.High] 70),(2,.cells b_4 [.slice p_2 e_1.Words.length c_2,iv e_1.Disc,iv e_1.Begin,iv e_1.Long] 67)]) (D':=Dv) ?_ ?_
  ·rcases bcases t_4 with hbv_7 | hbv_7
   ·skip
    replace h:=cond_t ht_5 hbv_7
    refine guard_on hF rfl rfl hbv_7 (step hF (Y.fieldAddr fo_67_1 hF rfl) rfl fun a hF=>guard_on hF rfl rfl hbv_7 (step hF (Y.load1L 2 sz_3 hF rfl hS rfl rfl) rfl fun a hF=>guard_on hF rfl rfl hbv_7 (step hF (Y.fieldAddr fo_70_0 hF rfl) rfl fun a hF=>guard_on hF rfl rfl hbv_7 (step hF (Y.load1L 1 sz_30 hF rfl hS rfl rfl) rfl fun a hF=>guard_on hF rfl rfl hbv_7 (step hF (Y.lenSl u_30 hF rfl) rfl fun a hF=>guard_on hF rfl rfl hbv_7 (step hF (Y.sub hF rfl rfl) rfl fun a hF=>guard_on hF rfl rfl hbv_7 ?_))))))
    obtain ⟨rv_6,hx_8,h⟩:=bind_some h
    refine O.callP (us:=[iv e_1.Disc,iv 0,iv (wr ((b.Discs.length:Int) - 1))]) ca_59 hF hS (voice_within_ok hS.stab e_1.Disc 0 (wr ((b.Discs.length:Int) - 1)) rv_6 hx_8) rfl rfl fun a w hF hS=>step hF (Y.pick_t hF rfl hbv_7 rfl) rfl fun a hF=>?_
    obtain rfl:=some_inj h
    exact nT ⟨hF.weak (AF rfl),hS.weak ⟨rfl,rfl,trivial⟩⟩
   replace h:=cond_f ht_5 hbv_7
   refine guard_off hF rfl rfl hbv_7 rfl fun a hF=>guard_off hF rfl rfl hbv_7 rfl fun a hF=>guard_off hF rfl rfl hbv_7 rfl fun a hF=>guard_off hF rfl rfl hbv_7 rfl fun a hF=>guard_off hF rfl rfl hbv_7 rfl fun a hF=>guard_off hF rfl rfl hbv_7 rfl fun a hF=>guard_off hF rfl rfl hbv_7 rfl fun a hF=>step hF (Y.pick_f hF rfl hbv_7 rfl) rfl fun a hF=>?_
   obtain rfl:=some_inj h
   exact nT ⟨hF.weak (AF rfl),hS.weak ⟨rfl,rfl,trivial⟩⟩
  intro a w hF hS
  refine step hF (Y.assign hF rfl) rfl fun a hF=>nT ?_
  obtain ⟨t_6,ht_6,h⟩:=bind_some h
  obtain ⟨t_7,ht_7,h⟩:=bind_some h
  refine drawsV 24 (.flt 0 (.flt 1 (.flt 2 (.flt 3 (.flt 4 (.flt 5 (.flt 6 (.flt 7 (.flt 8 (.flt 9 (.flt 10 (.alt 11 (.flt 12 (.flt 13 (.flt 14 (.flt 15 (.flt 16 (.flt 17 (.flt 18 (.flt 19 (.flt 20 (.flt 21 (.alt 22 (.flt 23 .done) .stop))))))))))) .stop)))))))))))) mixed_ (by kernel_rfl) (fun w=>St w0 D0 Dv [(1,.cells b_1 [.slice p b.Discs.length c,.slice p_1 b.Pieces.length c_1,iv b.Pause.Low,iv b.Pause.High,iv b.Rest.Low,iv b.Rest.High] 70),(2,.cells b_4 [.slice p_2 e_1.Words.length c_2,iv e_1.Disc,iv e_1.Begin,iv e_1.Long] 67)] w) (fun a w=>Frm 90 [] [(1,.pointer (some ⟨b_1,0,none⟩)),(2,iv 0),(3,.bool t_5),(42,.slice p_1 b.Pieces.length c_1),(43,iv (b.Pieces.length:Int)),(44,iv v44_0),(86,.bool t_7)] a∧St w0 D0 Dv [(1,.cells b_1 [.slice p b.Discs.length c,.slice p_1 b.Pieces.length c_1,iv b.Pause.Low,iv b.Pause.High,iv b.Rest.Low,iv b.Rest.High] 70),(2,.cells b_4 [.slice p_2 e_1.Words.length c_2,iv e_1.Disc,iv e_1.Begin,iv e_1.Long] 67)] w) (hS.weak (ms:=[(1,.cells b_1 [.slice p b.Discs.length c,.slice p_1 b.Pieces.length c_1,iv b.Pause.Low,iv b.Pause.High,iv b.Rest.Low,iv b.Rest.High] 70),(2,.cells b_4 [.slice p_2 e_1.Words.length c_2,iv e_1.Disc,iv e_1.Begin,iv e_1.Long] 67)]) ⟨rfl,rfl,trivial⟩).drew (fun _ _ _ _ h=>h) ?_ ?_
  ·replace hS:=hS.drew
   have hle0:=hS.le
   rcases bcases t_5 with hbv_8 | hbv_8
   ·skip
    replace ht_6:=cond_t ht_6 hbv_8
    obtain ⟨e_2,hx_9,ht_6⟩:=bind_some ht_6
    obtain ⟨rv_7,hx_10,ht_6⟩:=bind_some ht_6
    obtain rfl:=some_inj ht_6
    rcases bcases rv_7 with hbv_9 | hbv_9
    ·skip
     replace ht_7:=cond_t ht_7 hbv_9
     obtain ⟨e_3,hx_11,ht_7⟩:=bind_some ht_7
     obtain ⟨rv_8,hx_12,ht_7⟩:=bind_some ht_7
     obtain rfl:=some_inj ht_7
     refine stepV (i:=0) rfl hF (fun w hS=>Y.move hF rfl) rfl fun a hF=>stepV (i:=1) rfl hF (fun w hS=>Y.move hF rfl) rfl fun a hF=>stepV_on (i:=2) rfl hF rfl rfl hbv_8 (fun w hS=>Y.fieldAddr fo_67_2 hF rfl) rfl fun a hF=>stepV_on (i:=3) rfl hF rfl rfl hbv_8 (fun w hS=>Y.load1L 2 sz_3 hF rfl hS rfl rfl) rfl fun a hF=>stepV_on (i:=4) rfl hF rfl rfl hbv_8 (fun w hS=>Y.fieldAddr fo_70_0 hF rfl) rfl fun a hF=>stepV_on (i:=5) rfl hF rfl rfl hbv_8 (fun w hS=>Y.load1L 1 sz_30 hF rfl hS rfl rfl) rfl fun a hF=>stepV_on (i:=6) rfl hF rfl rfl hbv_8 (fun w hS=>Y.fieldAddr fo_67_1 hF rfl) rfl fun a hF=>stepV_on (i:=7) rfl hF rfl rfl hbv_8 (fun w hS=>Y.load1L 2 sz_3 hF rfl hS rfl rfl) rfl fun a hF=>?_
     obtain ⟨b_7,o_4,hE_4,hY_4⟩:=Y.indexS (P:=Tryz.prog) (C:=C_int) (xs:=b.Discs) (T:=30) (x:=(.tmp 68)) (y:=(.tmp 70)) u_30 sz_3 hF rfl rfl (hs).1 hx_9
     obtain ⟨cc_4,hc_4,hcell_4⟩:=hE_4.open
     obtain rfl:=hc_4
     refine stepV_on (i:=8) rfl hF rfl rfl hbv_8 (fun w hS=>hY_4) rfl fun a hF=>stepV_on (i:=9) rfl hF rfl rfl hbv_8 (fun w hS=>Y.load1 sz_3 hF rfl (hcell_4 _ hS.stab 0 _ rfl)) rfl fun a hF=>stepV_on (i:=10) rfl hF rfl rfl hbv_8 (fun w hS=>Y.sub hF rfl rfl) rfl fun a hF=>oneV (i:=11) rfl ?_ trivial
     refine guard_on hF rfl rfl hbv_8 (O.callP (us:=[iv e_1.Begin,iv 0,iv (wr (e_2 - 1))]) ca_59 hF hS (voice_within_ok hS.stab e_1.Begin 0 (wr (e_2 - 1)) rv_7 hx_10) rfl rfl fun a w hF hS=>nT ⟨hS.weak ⟨rfl,rfl,trivial⟩,?_⟩)
     refine stepV (i:=12) rfl hF (fun w hS=>Y.pick_t hF rfl hbv_8 rfl) rfl fun a hF=>stepV (i:=13) rfl hF (fun w hS=>Y.move hF rfl) rfl fun a hF=>stepV_on (i:=14) rfl hF rfl rfl hbv_9 (fun w hS=>Y.fieldAddr fo_67_3 hF rfl) rfl fun a hF=>stepV_on (i:=15) rfl hF rfl rfl hbv_9 (fun w hS=>Y.load1L 2 sz_3 hF rfl hS rfl rfl) rfl fun a hF=>stepV_on (i:=16) rfl hF rfl rfl hbv_9 (fun w hS=>Y.fieldAddr fo_70_0 hF rfl) rfl fun a hF=>stepV_on (i:=17) rfl hF rfl rfl hbv_9 (fun w hS=>Y.load1L 1 sz_30 hF rfl hS rfl rfl) rfl fun a hF=>stepV_on (i:=18) rfl hF rfl rfl hbv_9 (fun w hS=>Y.fieldAddr fo_67_1 hF rfl) rfl fun a hF=>stepV_on (i:=19) rfl hF rfl rfl hbv_9 (fun w hS=>Y.load1L 2 sz_3 hF rfl hS rfl rfl) rfl fun a hF=>?_
     obtain ⟨b_8,o_5,hE_5,hY_5⟩:=Y.indexS (P:=Tryz.prog) (C:=C_int) (xs:=b.Discs) (T:=30) (x:=(.tmp 80)) (y:=(.tmp 82)) u_30 sz_3 hF rfl rfl (hs).1 hx_11
     obtain ⟨cc_5,hc_5,hcell_5⟩:=hE_5.open
     obtain rfl:=hc_5
     refine stepV_on (i:=20) rfl hF rfl rfl hbv_9 (fun w hS=>hY_5) rfl fun a hF=>stepV_on (i:=21) rfl hF rfl rfl hbv_9 (fun w hS=>Y.load1 sz_3 hF rfl (hcell_5 _ hS.stab 0 _ rfl)) rfl fun a hF=>oneV (i:=22) rfl ?_ trivial
     refine guard_on hF rfl rfl hbv_9 (O.callP (us:=[iv e_1.Long,iv 1,iv e_3]) ca_59 hF hS (voice_within_ok hS.stab e_1.Long 1 e_3 rv_8 hx_12) rfl rfl fun a w hF hS=>nT ⟨hS.weak ⟨rfl,rfl,trivial⟩,?_⟩)
     refine stepV (i:=23) rfl hF (fun w hS=>Y.pick_t hF rfl hbv_9 rfl) rfl fun a hF=>toTailV ⟨hF.weak (AF rfl),hS.weak ⟨rfl,rfl,trivial⟩⟩
    replace ht_7:=cond_f ht_7 hbv_9
    obtain rfl:=some_inj ht_7
    refine stepV (i:=0) rfl hF (fun w hS=>Y.move hF rfl) rfl fun a hF=>stepV (i:=1) rfl hF (fun w hS=>Y.move hF rfl) rfl fun a hF=>stepV_on (i:=2) rfl hF rfl rfl hbv_8 (fun w hS=>Y.fieldAddr fo_67_2 hF rfl) rfl fun a hF=>stepV_on (i:=3) rfl hF rfl rfl hbv_8 (fun w hS=>Y.load1L 2 sz_3 hF rfl hS rfl rfl) rfl fun a hF=>stepV_on (i:=4) rfl hF rfl rfl hbv_8 (fun w hS=>Y.fieldAddr fo_70_0 hF rfl) rfl fun a hF=>stepV_on (i:=5) rfl hF rfl rfl hbv_8 (fun w hS=>Y.load1L 1 sz_30 hF rfl hS rfl rfl) rfl fun a hF=>stepV_on (i:=6) rfl hF rfl rfl hbv_8 (fun w hS=>Y.fieldAddr fo_67_1 hF rfl) rfl fun a hF=>stepV_on (i:=7) rfl hF rfl rfl hbv_8 (fun w hS=>Y.load1L 2 sz_3 hF rfl hS rfl rfl) rfl fun a hF=>?_
    obtain ⟨b_9,o_6,hE_6,hY_6⟩:=Y.indexS (P:=Tryz.prog) (C:=C_int) (xs:=b.Discs) (T:=30) (x:=(.tmp 68)) (y:=(.tmp 70)) u_30 sz_3 hF rfl rfl (hs).1 hx_9
    obtain ⟨cc_6,hc_6,hcell_6⟩:=hE_6.open
    obtain rfl:=hc_6
    refine stepV_on (i:=8) rfl hF rfl rfl hbv_8 (fun w hS=>hY_6) rfl fun a hF=>stepV_on (i:=9) rfl hF rfl rfl hbv_8 (fun w hS=>Y.load1 sz_3 hF rfl (hcell_6 _ hS.stab 0 _ rfl)) rfl fun a hF=>stepV_on (i:=10) rfl hF rfl rfl hbv_8 (fun w hS=>Y.sub hF rfl rfl) rfl fun a hF=>oneV (i:=11) rfl ?_ trivial
    refine guard_on hF rfl rfl hbv_8 (O.callP (us:=[iv e_1.Begin,iv 0,iv (wr (e_2 - 1))]) ca_59 hF hS (voice_within_ok hS.stab e_1.Begin 0 (wr (e_2 - 1)) rv_7 hx_10) rfl rfl fun a w hF hS=>nT ⟨hS.weak ⟨rfl,rfl,trivial⟩,?_⟩)
    refine stepV (i:=12) rfl hF (fun w hS=>Y.pick_t hF rfl hbv_8 rfl) rfl fun a hF=>stepV (i:=13) rfl hF (fun w hS=>Y.move hF rfl) rfl fun a hF=>stepV_off (i:=14) rfl hF rfl rfl hbv_9 rfl fun a hF=>stepV_off (i:=15) rfl hF rfl rfl hbv_9 rfl fun a hF=>stepV_off (i:=16) rfl hF rfl rfl hbv_9 rfl fun a hF=>stepV_off (i:=17) rfl hF rfl rfl hbv_9 rfl fun a hF=>stepV_off (i:=18) rfl hF rfl rfl hbv_9 rfl fun a hF=>stepV_off (i:=19) rfl hF rfl rfl hbv_9 rfl fun a hF=>stepV_off (i:=20) rfl hF rfl rfl hbv_9 rfl fun a hF=>stepV_off (i:=21) rfl hF rfl rfl hbv_9 rfl fun a hF=>oneV (i:=22) rfl ?_ trivial
    refine guard_off hF rfl rfl hbv_9 rfl fun a hF=>nT ⟨hS.weak ⟨rfl,rfl,trivial⟩,?_⟩
    refine stepV (i:=23) rfl hF (fun w hS=>Y.pick_f hF rfl hbv_9 rfl) rfl fun a hF=>toTailV ⟨hF.weak (AF rfl),hS.weak ⟨rfl,rfl,trivial⟩⟩
   replace ht_6:=cond_f ht_6 hbv_8
   obtain rfl:=some_inj ht_6
   replace ht_7:=cond_f ht_7 rfl
   obtain rfl:=some_inj ht_7
   refine stepV (i:=0) rfl hF (fun w hS=>Y.move hF rfl) rfl fun a hF=>stepV (i:=1) rfl hF (fun w hS=>Y.move hF rfl) rfl fun a hF=>stepV_off (i:=2) rfl hF rfl rfl hbv_8 rfl fun a hF=>stepV_off (i:=3) rfl hF rfl rfl hbv_8 rfl fun a hF=>stepV_off (i:=4) rfl hF rfl rfl hbv_8 rfl fun a hF=>stepV_off (i:=5) rfl hF rfl rfl hbv_8 rfl fun a hF=>stepV_off (i:=6) rfl hF rfl rfl hbv_8 rfl fun a hF=>stepV_off (i:=7) rfl hF rfl rfl hbv_8 rfl fun a hF=>stepV_off (i:=8) rfl hF rfl rfl hbv_8 rfl fun a hF=>stepV_off (i:=9) rfl hF rfl rfl hbv_8 rfl fun a hF=>stepV_off (i:=10) rfl hF rfl rfl hbv_8 rfl fun a hF=>oneV (i:=11) rfl ?_ trivial
   refine guard_off hF rfl rfl hbv_8 rfl fun a hF=>nT ⟨hS.weak ⟨rfl,rfl,trivial⟩,?_⟩
   refine stepV (i:=12) rfl hF (fun w hS=>Y.pick_f hF rfl hbv_8 rfl) rfl fun a hF=>stepV (i:=13) rfl hF (fun w hS=>Y.move hF rfl) rfl fun a hF=>stepV_off (i:=14) rfl hF rfl rfl rfl rfl fun a hF=>stepV_off (i:=15) rfl hF rfl rfl rfl rfl fun a hF=>stepV_off (i:=16) rfl hF rfl rfl rfl rfl fun a hF=>stepV_off (i:=17) rfl hF rfl rfl rfl rfl fun a hF=>stepV_off (i:=18) rfl hF rfl rfl rfl rfl fun a hF=>stepV_off (i:=19) rfl hF rfl rfl rfl rfl fun a hF=>stepV_off (i:=20) rfl hF rfl rfl rfl rfl fun a hF=>stepV_off (i:=21) rfl hF rfl rfl rfl rfl fun a hF=>oneV (i:=22) rfl ?_ trivial
   refine guard_off hF rfl rfl rfl rfl fun a hF=>nT ⟨hS.weak ⟨rfl,rfl,trivial⟩,?_⟩
   refine stepV (i:=23) rfl hF (fun w hS=>Y.pick_f hF rfl rfl rfl) rfl fun a hF=>toTailV ⟨hF.weak (AF rfl),hS.weak ⟨rfl,rfl,trivial⟩⟩
  rintro a w ⟨hF,hS⟩
  refine step hF (Y.assign hF rfl) rfl fun a hF=>nil (blk_n (then_n (region (step hF (Y.add hF rfl rfl) rfl fun a hF=>step hF (Y.move hF rfl) rfl fun a hF=>nT (⟨_,nxt_some h,t_7,(wr (v44_0 + 1)),Dv,rfl,hlev,hF.weak (AF rfl),hS.weak ⟨rfl,trivial⟩⟩)))))
 replace h:=cond_f h hbv_5
 refine exit_ (then_x (then_x (blk_hit (then_n ?_))))
 replace h:=ext_some h hxo_1
 refine seq (seq (region (step hF (Y.move hF rfl) rfl fun a hF=>step hF (Y.not hF rfl) rfl fun a hF=>nT (cond_b hF rfl (fun hbv_10=>?_) (fun hbv_10=>?_)))))
 ·replace h:=cond_t h hbv_10
  refine seq (region (step hF (Y.assign hF rfl) rfl fun a hF=>nT (ret_ (then_r ?_))))
  obtain rfl:=some_inj h
  exact leaveP Tryz.results42 hF hS (.cons (.tmp rfl) .nil) .nil rfl
 replace h:=cond_f h hbv_10
 refine skip_ (then_n (seq (region (step hF (Y.assign hF rfl) rfl fun a hF=>nT (ret_ ?_)))))
 obtain rfl:=some_inj h
 exact leaveP Tryz.results42 hF hS (.cons (.tmp rfl) .nil) .nil rfl
noncomputable def voice_all_b1 (b:VoiceBook):((List Int) × Int)→Option (((List Int) × Int) ⊕ (List Int))
 | (l,v8_0)=>
  cond (decide (v8_0 < (b.Pieces.length:Int)))
  (if l.length + ([v8_0]).length≤lim then
  nxt ((l ++ [v8_0]),wr (v8_0 + 1))
  else none)
  (ext (some l))
noncomputable def voice_all (b:VoiceBook):Option (List Int):=
  loopU (voice_all_b1 b) (([]:List Int),0)
theorem voice_all_ok {w0:World} {D0:Stab} (hD:D0.on w0) (b:VoiceBook) {p:Option Addr} {c:Nat} {p_1:Option Addr} {c_1:Nat} (hs:SRc C_int D0 b.Discs p c) (hs_1:SRc C_VoicePiece D0 b.Pieces p_1 c_1) (out:(List Int)) (h:voice_all b=some out):Calls Tryz.prog 45 [.agg #[.slice p b.Discs.length c,.slice p_1 b.Pieces.length c_1,iv b.Pause.Low,iv b.Pause.High,iv b.Rest.Low,iv b.Rest.High]].toArray w0 (RetS D0 w0 fun D v=>∃ p_5 c_5,v=.slice p_5 out.length c_5∧SRc C_int D out p_5 c_5):=by
 refine enter _ 17 Tryz.func45 rfl Tryz.ntmps45 rfl fun a hF=>?_
 replace hF:Frm 17 [] [(0,.agg #[.slice p b.Discs.length c,.slice p_1 b.Pieces.length c_1,iv b.Pause.Low,iv b.Pause.High,iv b.Rest.Low,iv b.Rest.High])] a:=hF
 have hS:=St.start hD
 unfold voice_all at h
 refine seq (region (O.box (cs:=[.slice p b.Discs.length c,.slice p_1 b.Pieces.length c_1,iv b.Pause.Low,iv b.Pause.High,iv b.Rest.Low,iv b.Rest.High]) 1 hF rfl rfl hS rfl fun b_1 a w hF hS=>step hF (Y.assign hF rfl) rfl fun a hF=>nT (seq (region (step hF (Y.assign hF rfl) rfl fun a hF=>?_)))))
 replace hS:=hS.ownNil 2 3 1
 refine nT (seq (seq (region (step hF (Y.fieldAddr fo_70_1 hF rfl) rfl fun a hF=>step hF (Y.load1L 1 sz_68 hF rfl hS rfl rfl) rfl fun a hF=>step hF (Y.lenSl u_68 hF rfl) rfl fun a hF=>step hF (Y.move hF rfl) rfl fun a hF=>nT (block (loop_cut (body:=voice_all_b1 b) (out:=out) (fun s a w=>∃ (l:(List Int)) (v8_0:Int),∃ p_2 c_2 cs,s=(l,v8_0)∧Frm 17 [] [(2,.slice none 0 0),(3,.slice p_2 l.length c_2),(7,iv (b.Pieces.length:Int)),(8,iv v8_0)] a∧St w0 D0 D0 [(1,.cells b_1 [.slice p b.Discs.length c,.slice p_1 b.Pieces.length c_1,iv b.Pause.Low,iv b.Pause.High,iv b.Rest.Low,iv b.Rest.High] 70),(2,.own p_2 l.length c_2 cs 3 1)] w∧Reps C_int D0 l cs) (([]:List Int),0) h ⟨([]:List Int),0,none,0,([]),rfl,hF.weak (AF rfl),hS.weak ⟨rfl,rfl,trivial⟩,Reps.nil⟩ ?_))))))
 rintro s a w xo ⟨l,v8_0,p_2,c_2,cs,rfl,hF,hS,hr⟩ h hxo
 unfold voice_all_b1 at h
 dsimp only at h
 refine seq (region (step hF (Y.lss hF rfl rfl) rfl fun a hF=>nT (seq (cond_b hF rfl (fun hbv=>?_) (fun hbv=>?_)))))
 ·replace h:=cond_t h hbv
  refine skip_ (then_n (seq (block (seq (region (step hF (Y.move hF rfl) rfl fun a hF=>step hF (Y.assign hF rfl) rfl fun a hF=>nT (region (step hF (Y.move hF rfl) rfl fun a hF=>step hF (Y.move hF rfl) rfl fun a hF=>?_))))))))
  have hr_1:Reps C_int D0 [v8_0] [iv v8_0]:=Reps.cons (C:=C_int) (x:=v8_0) (c:=[iv v8_0]) (r:=[]) rfl (Reps.nil)
  refine O.buildSlice (E:=3) (C:=C_int) (xs:=[v8_0]) (cs:=[iv v8_0]) (us:=[iv v8_0]) (parts:=[(0,(.tmp 12))]) 3 hF hS rfl (by kernel_rfl) hr_1 rfl rfl rfl fun p_3 c_3 a w hF hS=>?_
  obtain ⟨hg,h⟩:=ite_some h
  refine O.append (C:=C_int) (xs:=l) (ys:=[v8_0]) 2 gr_30 hF rfl rfl hS rfl (src_own (i:=3) hS rfl) hr hr_1 hg rfl fun p_4 c_4 a w hF hS hr_2=>step hF (Y.assign hF rfl) rfl fun a hF=>nil (blk_n (then_n (region (step hF (Y.add hF rfl rfl) rfl fun a hF=>step hF (Y.move hF rfl) rfl fun a hF=>nT (⟨_,nxt_some h,(l ++ [v8_0]),(wr (v8_0 + 1)),p_4,c_4,(cs ++ [iv v8_0]),rfl,hF.weak (AF rfl),hS.weak ⟨rfl,rfl,trivial⟩,hr_2⟩)))))
 replace h:=cond_f h hbv
 refine exit_ (then_x (then_x (blk_hit (then_n ?_))))
 replace h:=ext_some h hxo
 refine seq (region (step hF (Y.move hF rfl) rfl fun a hF=>step hF (Y.assign hF rfl) rfl fun a hF=>nT (ret_ ?_)))
 obtain ⟨Dv,hlev,hs_2,hS⟩:=hS.freezeC (C:=C_int) (i:=2) (xs:=l) rfl hr
 obtain rfl:=some_inj h
 exact leaveS Tryz.results45 hF hS (.cons (.tmp rfl) .nil) .nil ⟨_,_,rfl,hs_2⟩
noncomputable def voice_fewest_1 (av:(List Int)) (b:(List Int)):Option Bool:=
  (cond (decide ((av.length:Int) < (b.length:Int))) (some true) ((cond ((av.length:Int) == (b.length:Int)) ((slices_Compare___int_int_ av b).bind fun rv=>
  some (decide (rv < 0))) (some false)).bind fun t=>
  some t)).bind fun t_1=>
  some t_1
theorem voice_fewest_1_ok {w0:World} {D0:Stab} (hD:D0.on w0) (av:(List Int)) (b:(List Int)) {p:Option Addr} {c:Nat} {p_1:Option Addr} {c_1:Nat} (hs:SRc C_int D0 av p c) (hs_1:SRc C_int D0 b p_1 c_1) (out:Bool) (h:voice_fewest_1 av b=some out):Calls Tryz.prog 76 [.slice p av.length c,.slice p_1 b.length c_1].toArray w0 (RetP D0 w0 (.bool out)):=by
 refine enter _ 23 Tryz.func76 rfl Tryz.ntmps76 rfl fun a hF=>?_
 replace hF:Frm 23 [] [(0,.slice p av.length c),(1,.slice p_1 b.length c_1)] a:=hF
 have hS:=St.start hD
 unfold voice_fewest_1 at h
 refine seq (region (step hF (Y.assign hF rfl) rfl fun a hF=>nT (seq (region (step hF (Y.move hF rfl) rfl fun a hF=>step hF (Y.lenSl u_30 hF rfl) rfl fun a hF=>step hF (Y.move hF rfl) rfl fun a hF=>step hF (Y.lenSl u_30 hF rfl) rfl fun a hF=>step hF (Y.lss hF rfl rfl) rfl fun a hF=>step hF (Y.move hF rfl) rfl fun a hF=>?_)))))
 obtain ⟨t_1,ht_1,h⟩:=bind_some h
 refine join (N:=23) (rs:=[]) (w0:=w0) (D0:=D0) 12 (us:=[(4,.bool false),(22,.bool t_1)]) (ms:=[]) (D':=D0) ?_ ?_
 ·rcases bcases (decide ((av.length:Int) < (b.length:Int))) with hbv | hbv
  ·skip
   replace h:=cond_t ht_1 hbv
   refine guard_off hF rfl rfl hbv rfl fun a hF=>guard_off hF rfl rfl hbv rfl fun a hF=>guard_off hF rfl rfl hbv rfl fun a hF=>guard_off hF rfl rfl hbv rfl fun a hF=>guard_off hF rfl rfl hbv rfl fun a hF=>guard_off hF rfl rfl hbv rfl fun a hF=>guard_offu hF rfl rfl rfl fun a hF=>guard_offu hF rfl rfl rfl fun a hF=>guard_offu hF rfl rfl rfl fun a hF=>guard_offu hF rfl rfl rfl fun a hF=>guard_off hF rfl rfl hbv rfl fun a hF=>step hF (Y.pick_t hF rfl hbv rfl) rfl fun a hF=>?_
   obtain rfl:=some_inj h
   exact nT ⟨hF.weak ⟨rfl,rfl,trivial⟩,hS.weak trivial⟩
  replace h:=cond_f ht_1 hbv
  refine guard_on hF rfl rfl hbv (step hF (Y.move hF rfl) rfl fun a hF=>guard_on hF rfl rfl hbv (step hF (Y.lenSl u_30 hF rfl) rfl fun a hF=>guard_on hF rfl rfl hbv (step hF (Y.move hF rfl) rfl fun a hF=>guard_on hF rfl rfl hbv (step hF (Y.lenSl u_30 hF rfl) rfl fun a hF=>guard_on hF rfl rfl hbv (step hF (Y.eql hF rfl rfl) rfl fun a hF=>guard_on hF rfl rfl hbv (step hF (Y.move hF rfl) rfl fun a hF=>?_))))))
  obtain ⟨t,ht,h⟩:=bind_some h
  refine join (N:=23) (rs:=[]) (w0:=w0) (D0:=D0) 5 (us:=[(4,.bool false),(10,.bool (decide ((av.length:Int) < (b.length:Int)))),(21,.bool t)]) (ms:=[]) (D':=D0) ?_ ?_
  ·rcases bcases ((av.length:Int) == (b.length:Int)) with hbv_1 | hbv_1
   ·skip
    replace h:=cond_t ht hbv_1
    refine guard_on hF rfl rfl hbv_1 (step hF (Y.move hF rfl) rfl fun a hF=>guard_on hF rfl rfl hbv_1 (step hF (Y.move hF rfl) rfl fun a hF=>guard_on hF rfl rfl hbv_1 ?_))
    obtain ⟨rv,hx,h⟩:=bind_some h
    refine O.callP (us:=[.slice p av.length c,.slice p_1 b.length c_1]) ca_72 hF hS (slices_Compare___int_int__ok hS.stab av b hs hs_1 rv hx) rfl rfl fun a w hF hS=>guard_on hF rfl rfl hbv_1 (step hF (Y.lss hF rfl rfl) rfl fun a hF=>guard_on hF rfl rfl hbv (step hF (Y.pick_t hF rfl hbv_1 rfl) rfl fun a hF=>?_))
    obtain rfl:=some_inj h
    exact nT ⟨hF.weak (AF rfl),hS.weak trivial⟩
   replace h:=cond_f ht hbv_1
   refine guard_off hF rfl rfl hbv_1 rfl fun a hF=>guard_off hF rfl rfl hbv_1 rfl fun a hF=>guard_off hF rfl rfl hbv_1 rfl fun a hF=>guard_off hF rfl rfl hbv_1 rfl fun a hF=>guard_on hF rfl rfl hbv (step hF (Y.pick_f hF rfl hbv_1 rfl) rfl fun a hF=>?_)
   obtain rfl:=some_inj h
   exact nT ⟨hF.weak (AF rfl),hS.weak trivial⟩
  intro a w hF hS
  refine step hF (Y.pick_f hF rfl hbv rfl) rfl fun a hF=>?_
  obtain rfl:=some_inj h
  exact nT ⟨hF.weak ⟨rfl,rfl,trivial⟩,hS.weak trivial⟩
 intro a w hF hS
 refine step hF (Y.assign hF rfl) rfl fun a hF=>nT (ret_ ?_)
 obtain rfl:=some_inj h
 exact leaveP Tryz.results76 hF hS (.cons (.tmp rfl) .nil) .nil rfl
noncomputable def slices_Equal___int_int__b1 (s1_0:(List Int)) (s2_0:(List Int)):(Bool × Int)→Option ((Bool × Int) ⊕ Bool)
 | (v4_0,v13_0)=>
  cond (decide (v13_0 < (s1_0.length:Int)))
  ((idx s1_0 v13_0).bind fun e=>
  (idx s2_0 v13_0).bind fun e_1=>
  cond (e != e_1)
  (ext (some false))
  (nxt (v4_0,wr (v13_0 + 1))))
  (ext (some true))
noncomputable def slices_Equal___int_int_ (s1_0:(List Int)) (s2_0:(List Int)):Option Bool:=
  cond ((s1_0.length:Int) != (s2_0.length:Int))
  (some false)
  (loopU (slices_Equal___int_int__b1 s1_0 s2_0) (false,0))
theorem slices_Equal___int_int__ok {w0:World} {D0:Stab} (hD:D0.on w0) (s1_0:(List Int)) (s2_0:(List Int)) {p:Option Addr} {c:Nat} {p_1:Option Addr} {c_1:Nat} (hs:SRc C_int D0 s1_0 p c) (hs_1:SRc C_int D0 s2_0 p_1 c_1) (out:Bool) (h:slices_Equal___int_int_ s1_0 s2_0=some out):Calls Tryz.prog 78 [.slice p s1_0.length c,.slice p_1 s2_0.length c_1].toArray w0 (RetP D0 w0 (.bool out)):=by
 refine enter _ 26 Tryz.func78 rfl Tryz.ntmps78 rfl fun a hF=>?_
 replace hF:Frm 26 [] [(0,.slice p s1_0.length c),(1,.slice p_1 s2_0.length c_1)] a:=hF
 have hS:=St.start hD
 unfold slices_Equal___int_int_ at h
 refine seq (region (step hF (Y.assign hF rfl) rfl fun a hF=>nT (seq (seq (region (step hF (Y.move hF rfl) rfl fun a hF=>step hF (Y.lenSl u_30 hF rfl) rfl fun a hF=>step hF (Y.move hF rfl) rfl fun a hF=>step hF (Y.lenSl u_30 hF rfl) rfl fun a hF=>step hF (Y.neq hF rfl rfl) rfl fun a hF=>nT (cond_b hF rfl (fun hbv=>?_) (fun hbv=>?_))))))))
 ·replace h:=cond_t h hbv
  refine seq (region (step hF (Y.assign hF rfl) rfl fun a hF=>nT (ret_ (then_r ?_))))
  obtain rfl:=some_inj h
  exact leaveP Tryz.results78 hF hS (.cons (.tmp rfl) .nil) .nil rfl
 replace h:=cond_f h hbv
 refine skip_ (then_n (seq (seq (region (step hF (Y.move hF rfl) rfl fun a hF=>step hF (Y.lenSl u_30 hF rfl) rfl fun a hF=>step hF (Y.move hF rfl) rfl fun a hF=>nT (block (loop_cut (body:=slices_Equal___int_int__b1 s1_0 s2_0) (out:=out) (fun s a w=>∃ (v4_0:Bool) (v13_0:Int),s=(v4_0,v13_0)∧Frm 26 [] [(0,.slice p s1_0.length c),(1,.slice p_1 s2_0.length c_1),(4,.bool v4_0),(12,iv (s1_0.length:Int)),(13,iv v13_0)] a∧St w0 D0 D0 [] w) (false,0) h ⟨false,0,rfl,hF.weak (AF rfl),hS.weak trivial⟩ ?_)))))))
 rintro s a w xo ⟨v4_0,v13_0,rfl,hF,hS⟩ h hxo
 unfold slices_Equal___int_int__b1 at h
 dsimp only at h
 refine seq (region (step hF (Y.lss hF rfl rfl) rfl fun a hF=>nT (seq (cond_b hF rfl (fun hbv_1=>?_) (fun hbv_1=>?_)))))
 ·replace h:=cond_t h hbv_1
  refine skip_ (then_n (seq (block (seq (region (step hF (Y.move hF rfl) rfl fun a hF=>step hF (Y.assign hF rfl) rfl fun a hF=>nT (seq (draws 9 [(0,true),(1,true),(2,true),(3,true),(4,true),(5,true),(6,true),(7,true),(8,true)] mixed_ (by kernel_rfl) (fun w=>St w0 D0 D0 _ w) hS.drew (fun _ _ _ _ h=>h) ?_))))))))
  replace hS:=hS.drew
  refine stepT (i:=0) rfl hF (fun w hS=>Y.move hF rfl) rfl fun a hF=>stepT (i:=1) rfl hF (fun w hS=>Y.move hF rfl) rfl fun a hF=>?_
  obtain ⟨e,hx,h⟩:=bind_some h
  obtain ⟨b,o,hE,hY⟩:=Y.indexS (P:=Tryz.prog) (C:=C_int) (xs:=s1_0) (T:=30) (x:=(.tmp 16)) (y:=(.tmp 17)) u_30 sz_3 hF rfl rfl (hs).1 hx
  obtain ⟨cc,hc,hcell⟩:=hE.open
  obtain rfl:=hc
  refine stepT (i:=2) rfl hF (fun w hS=>hY) rfl fun a hF=>stepT (i:=3) rfl hF (fun w hS=>Y.load1 sz_3 hF rfl (hcell _ hS.stab 0 _ rfl)) rfl fun a hF=>stepT (i:=4) rfl hF (fun w hS=>Y.move hF rfl) rfl fun a hF=>stepT (i:=5) rfl hF (fun w hS=>Y.move hF rfl) rfl fun a hF=>?_
  obtain ⟨e_1,hx_1,h⟩:=bind_some h
  obtain ⟨b_1,o_1,hE_1,hY_1⟩:=Y.indexS (P:=Tryz.prog) (C:=C_int) (xs:=s2_0) (T:=30) (x:=(.tmp 20)) (y:=(.tmp 21)) u_30 sz_3 hF rfl rfl (hs_1).1 hx_1
  obtain ⟨cc_1,hc_1,hcell_1⟩:=hE_1.open
  obtain rfl:=hc_1
  refine stepT (i:=6) rfl hF (fun w hS=>hY_1) rfl fun a hF=>stepT (i:=7) rfl hF (fun w hS=>Y.load1 sz_3 hF rfl (hcell_1 _ hS.stab 0 _ rfl)) rfl fun a hF=>stepT (i:=8) rfl hF (fun w hS=>Y.neq hF rfl rfl) rfl fun a hF=>toTail (nT (cond_b hF rfl (fun hbv_2=>?_) (fun hbv_2=>?_)))
  ·replace h:=cond_t h hbv_2
   refine seq (region (step hF (Y.assign hF rfl) rfl fun a hF=>nT (ret_ (blk_r (then_r (then_r (blk_r (then_r ?_))))))))
   replace h:=ext_some h hxo
   obtain rfl:=some_inj h
   exact leaveP Tryz.results78 hF hS (.cons (.tmp rfl) .nil) .nil rfl
  replace h:=cond_f h hbv_2
  refine skip_ (blk_n (then_n (region (step hF (Y.add hF rfl rfl) rfl fun a hF=>step hF (Y.move hF rfl) rfl fun a hF=>nT (⟨_,nxt_some h,v4_0,(wr (v13_0 + 1)),rfl,hF.weak (AF rfl),hS.weak trivial⟩)))))
 replace h:=cond_f h hbv_1
 refine exit_ (then_x (then_x (blk_hit (then_n ?_))))
 replace h:=ext_some h hxo
 refine seq (region (step hF (Y.assign hF rfl) rfl fun a hF=>nT (ret_ ?_)))
 obtain rfl:=some_inj h
 exact leaveP Tryz.results78 hF hS (.cons (.tmp rfl) .nil) .nil rfl
noncomputable def voice_opened_b1 (b:VoiceBook) (somev:(List Int)):(Int × (List Bool))→Option ((Int × (List Bool)) ⊕ voice_book)
 | (v12_0,l)=>
  cond (decide (v12_0 < (somev.length:Int)))
  ((idx somev v12_0).bind fun e=>
  if (0:Int)≤e∧e < ((10:Nat):Int) then
  nxt (wr (v12_0 + 1),(l.set (Int.toNat e) true))
  else none)
  (ext (some (voice_book.mk b l)))
noncomputable def voice_opened (b:VoiceBook) (somev:(List Int)):Option voice_book:=
  loopU (voice_opened_b1 b somev) (0,(List.replicate 10 false))
theorem voice_opened_ok {w0:World} {D0:Stab} (hD:D0.on w0) (b:VoiceBook) (somev:(List Int)) {p:Option Addr} {c:Nat} {p_1:Option Addr} {c_1:Nat} {p_2:Option Addr} {c_2:Nat} (hs:SRc C_int D0 b.Discs p c) (hs_1:SRc C_VoicePiece D0 b.Pieces p_1 c_1) (hs_2:SRc C_int D0 somev p_2 c_2) (out:voice_book) (h:voice_opened b somev=some out):Calls Tryz.prog 44 [.agg #[.slice p b.Discs.length c,.slice p_1 b.Pieces.length c_1,iv b.Pause.Low,iv b.Pause.High,iv b.Rest.Low,iv b.Rest.High],.slice p_2 somev.length c_2].toArray w0 (RetS D0 w0 fun D v=>∃ p_3 c_3 p_4 c_4,v=.agg #[.slice p_3 out.VoiceBook.Discs.length c_3,.slice p_4 out.VoiceBook.Pieces.length c_4,iv out.VoiceBook.Pause.Low,iv out.VoiceBook.Pause.High,iv out.VoiceBook.Rest.Low,iv out.VoiceBook.Rest.High,.bool (out.can.getD 0 false),.bool (out.can.getD 1 false),.bool (out.can.getD 2 false),.bool (out.can.getD 3 false),.bool (out.can.getD 4 false),.bool (out.can.getD 5 false),.bool (out.can.getD 6 false),.bool (out.can.getD 7 false),.bool (out.can.getD 8 false),.bool (out.can.getD 9 false)]∧SRc C_int D out.VoiceBook.Discs p_3 c_3∧SRc C_VoicePiece D out.VoiceBook.Pieces p_4 c_4∧out.can.length=10):=by
 refine enter _ 21 Tryz.func44 rfl Tryz.ntmps44 rfl fun a hF=>?_
 replace hF:Frm 21 [] [(0,.agg #[.slice p b.Discs.length c,.slice p_1 b.Pieces.length c_1,iv b.Pause.Low,iv b.Pause.High,iv b.Rest.Low,iv b.Rest.High]),(1,.slice p_2 somev.length c_2)] a:=hF
 have hS:=St.start hD
 unfold voice_opened at h
 refine seq (region (O.box (cs:=[.slice p b.Discs.length c,.slice p_1 b.Pieces.length c_1,iv b.Pause.Low,iv b.Pause.High,iv b.Rest.Low,iv b.Rest.High]) 1 hF rfl rfl hS rfl fun b_1 a w hF hS=>O.alloc 2 zc_118 hF hS rfl fun b_2 a w hF hS=>nT (seq (region (step hF (Y.loadNL 1 sz_70 hF rfl hS rfl rfl rfl) rfl fun a hF=>step hF (Y.build (parts:=[(0,(.tmp 8))]) (cs:=#[.slice p b.Discs.length c,.slice p_1 b.Pieces.length c_1,iv b.Pause.Low,iv b.Pause.High,iv b.Rest.Low,iv b.Rest.High,.bool ((List.replicate 10 false).getD 0 false),.bool ((List.replicate 10 false).getD 1 false),.bool ((List.replicate 10 false).getD 2 false),.bool ((List.replicate 10 false).getD 3 false),.bool ((List.replicate 10 false).getD 4 false),.bool ((List.replicate 10 false).getD 5 false),.bool ((List.replicate 10 false).getD 6 false),.bool ((List.replicate 10 false).getD 7 false),.bool ((List.replicate 10 false).getD 8 false),.bool ((List.replicate 10 false).getD 9 false)]) hF rfl (by kernel_rfl)) rfl fun a hF=>O.alloc 3 zc_118 hF hS rfl fun b_3 a w hF hS=>O.store (us:=[.slice p b.Discs.length c,.slice p_1 b.Pieces.length c_1,iv b.Pause.Low,iv b.Pause.High,iv b.Rest.Low,iv b.Rest.High,.bool ((List.replicate 10 false).getD 0 false),.bool ((List.replicate 10 false).getD 1 false),.bool ((List.replicate 10 false).getD 2 false),.bool ((List.replicate 10 false).getD 3 false),.bool ((List.replicate 10 false).getD 4 false),.bool ((List.replicate 10 false).getD 5 false),.bool ((List.replicate 10 false).getD 6 false),.bool ((List.replicate 10 false).getD 7 false),.bool ((List.replicate 10 false).getD 8 false),.bool ((List.replicate 10 false).getD 9 false)]) 3 sz_118 hF rfl rfl rfl rfl hS rfl rfl fun a w hF hS=>nT (seq (seq (region (step hF (Y.move hF rfl) rfl fun a hF=>step hF (Y.lenSl u_30 hF rfl) rfl fun a hF=>step hF (Y.move hF rfl) rfl fun a hF=>nT (block (loop_cut (body:=voice_opened_b1 b somev) (out:=out) (fun s a w=>∃ (v12_0:Int) (l:(List Bool)),s=(v12_0,l)∧Frm 21 [] [(4,.pointer (some ⟨b_2,0,none⟩)),(5,.pointer (some ⟨b_3,0,none⟩)),(10,.slice p_2 somev.length c_2),(11,iv (somev.length:Int)),(12,iv v12_0)] a∧St w0 D0 D0 [(1,.cells b_1 [.slice p b.Discs.length c,.slice p_1 b.Pieces.length c_1,iv b.Pause.Low,iv b.Pause.High,iv b.Rest.Low,iv b.Rest.High] 70),(2,.cells b_2 [.slice none 0 0,.slice none 0 0,iv 0,iv 0,iv 0,iv 0,.bool ((List.replicate 10 false).getD 0 false),.bool ((List.replicate 10 false).getD 1 false),.bool ((List.replicate 10 false).getD 2 false),.bool ((List.replicate 10 false).getD 3 false),.bool ((List.replicate 10 false).getD 4 false),.bool ((List.replicate 10 false).getD 5 false),.bool ((List.replicate 10 false).getD 6 false),.bool ((List.replicate 10 false).getD 7 false),.bool ((List.replicate 10 false).getD 8 false),.bool ((List.replicate 10 false).getD 9 false)] 118),(3,.cells b_3 [.slice p b.Discs.length c,.slice p_1 b.Pieces.length c_1,iv b.Pause.Low,iv b.Pause.High,iv b.Rest.Low,iv b.Rest.High,.bool (l.getD 0 false),.bool (l.getD 1 false),.bool (l.getD 2 false),.bool (l.getD 3 false),.bool (l.getD 4 false),.bool (l.getD 5 false),.bool (l.getD 6 false),.bool (l.getD 7 false),.bool (l.getD 8 false),.bool (l.getD 9 false)] 118)] w∧l.length=10) (0,(List.replicate 10 false)) h ⟨0,(List.replicate 10 false),rfl,hF.weak (AF rfl),hS.weak (AL rfl),List.length_replicate⟩ ?_)))))))))))
 rintro s a w xo ⟨v12_0,l,rfl,hF,hS,hn⟩ h hxo
 unfold voice_opened_b1 at h
 dsimp only at h
 refine seq (region (step hF (Y.lss hF rfl rfl) rfl fun a hF=>nT (seq (cond_b hF rfl (fun hbv=>?_) (fun hbv=>?_)))))
 ·replace h:=cond_t h hbv
  refine skip_ (then_n (seq (block (seq (region ?_)))))
  obtain ⟨e,hx,h⟩:=bind_some h
  obtain ⟨b_4,o,hE,hY⟩:=Y.indexS (P:=Tryz.prog) (C:=C_int) (xs:=somev) (T:=30) (x:=(.tmp 10)) (y:=(.tmp 12)) u_30 sz_3 hF rfl rfl (hs_2).1 hx
  obtain ⟨cc,hc,hcell⟩:=hE.open
  obtain rfl:=hc
  refine step hF (hY) rfl fun a hF=>step hF (Y.load1 sz_3 hF rfl (hcell _ hS.stab 0 _ rfl)) rfl fun a hF=>step hF (Y.assign hF rfl) rfl fun a hF=>nT (region (step hF (Y.move hF rfl) rfl fun a hF=>step hF (Y.fieldAddr fo_118_1 hF rfl) rfl fun a hF=>?_))
  obtain ⟨hg,h⟩:=ite_some h
  refine step hF (Y.indexArr u_116 sz_4 hF rfl rfl hg.1 hg.2) rfl fun a hF=>O.storeAI (pre:=[.slice p b.Discs.length c,.slice p_1 b.Pieces.length c_1,iv b.Pause.Low,iv b.Pause.High,iv b.Rest.Low,iv b.Rest.High]) (xs:=l) (n:=10) (u:=true) 3 sz_4 hn hg hF rfl (by simp) rfl hS rfl rfl fun a w hF hS=>nil (blk_n (then_n (region (step hF (Y.add hF rfl rfl) rfl fun a hF=>step hF (Y.move hF rfl) rfl fun a hF=>nT (⟨_,nxt_some h,(wr (v12_0 + 1)),(l.set (Int.toNat e) true),rfl,hF.weak (AF rfl),hS.weak (AL rfl),((List.length_set).trans hn)⟩)))))
 replace h:=cond_f h hbv
 refine exit_ (then_x (then_x (blk_hit (then_n ?_))))
 replace h:=ext_some h hxo
 refine seq (region (step hF (Y.loadNL 3 sz_118 hF rfl hS rfl rfl rfl) rfl fun a hF=>O.store (us:=[.slice p b.Discs.length c,.slice p_1 b.Pieces.length c_1,iv b.Pause.Low,iv b.Pause.High,iv b.Rest.Low,iv b.Rest.High,.bool (l.getD 0 false),.bool (l.getD 1 false),.bool (l.getD 2 false),.bool (l.getD 3 false),.bool (l.getD 4 false),.bool (l.getD 5 false),.bool (l.getD 6 false),.bool (l.getD 7 false),.bool (l.getD 8 false),.bool (l.getD 9 false)]) 2 sz_118 hF rfl rfl rfl rfl hS rfl rfl fun a w hF hS=>nT (ret_ ?_)))
 obtain rfl:=some_inj h
 exact leaveS Tryz.results44 hF hS (.cons (.cellN 2 sz_118 rfl rfl rfl) .nil) .nil ⟨_,_,_,_,rfl,hs,hs_1,hn⟩
noncomputable def voice_fewest:Option Unit:=
  some ()
theorem voice_fewest_ok {w0:World} {D0:Stab} (hD:D0.on w0) (out:Unit) (h:voice_fewest=some out):Calls Tryz.prog 62 [].toArray w0 (RetP D0 w0 (.agg #[.func (.func 76) #[] #[]])):=by
 refine enter _ 2 Tryz.func62 rfl Tryz.ntmps62 rfl fun a hF=>?_
 replace hF:Frm 2 [] [] a:=hF
 have hS:=St.start hD
 unfold voice_fewest at h
 refine seq (region (O.alloc 1 zc_138 hF hS rfl fun b a w hF hS=>nT (seq (region (step hF (Y.build (parts:=[(0,(.func 76))]) (cs:=#[.func (.func 76) #[] #[]]) hF rfl (by kernel_rfl)) rfl fun a hF=>O.store (us:=[.func (.func 76) #[] #[]]) 1 sz_138 hF rfl rfl rfl rfl hS rfl rfl fun a w hF hS=>nT (ret_ (leaveP Tryz.results62 hF hS (.cons (.cellN 1 sz_138 rfl rfl rfl) .nil) .nil rfl)))))))
noncomputable def voice_book_next (b:voice_book) (text:(List Int)) (atv:Int):Option (voice_book × Int × (List Int)):=
  some (b,atv,text)
theorem voice_book_next_ok {w0:World} {D0:Stab} (hD:D0.on w0) (b:voice_book) (text:(List Int)) (atv:Int) {p:Option Addr} {c:Nat} {p_1:Option Addr} {c_1:Nat} {p_2:Option Addr} {c_2:Nat} (hs:SRc C_int D0 b.VoiceBook.Discs p c) (hs_1:SRc C_VoicePiece D0 b.VoiceBook.Pieces p_1 c_1) (hn:b.can.length=10) (hs_2:SRc C_int D0 text p_2 c_2) (out:(voice_book × Int × (List Int))) (h:voice_book_next b text atv=some out):Calls Tryz.prog 64 [.agg #[.slice p b.VoiceBook.Discs.length c,.slice p_1 b.VoiceBook.Pieces.length c_1,iv b.VoiceBook.Pause.Low,iv b.VoiceBook.Pause.High,iv b.VoiceBook.Rest.Low,iv b.VoiceBook.Rest.High,.bool (b.can.getD 0 false),.bool (b.can.getD 1 false),.bool (b.can.getD 2 false),.bool (b.can.getD 3 false),.bool (b.can.getD 4 false),.bool (b.can.getD 5 false),.bool (b.can.getD 6 false),.bool (b.can.getD 7 false),.bool (b.can.getD 8 false),.bool (b.can.getD 9 false)],.slice p_2 text.length c_2,iv atv].toArray w0 (RetS D0 w0 fun D v=>∃ bb bb_1 bb_2 p_3 c_3 p_4 c_4 p_5 c_5,v=.func (.func 77) #[] #[.pointer (some ⟨bb,0,none⟩),.pointer (some ⟨bb_1,0,none⟩),.pointer (some ⟨bb_2,0,none⟩)]∧D bb=some (.cells ([.slice p_3 out.1.VoiceBook.Discs.length c_3,.slice p_4 out.1.VoiceBook.Pieces.length c_4,iv out.1.VoiceBook.Pause.Low,iv out.1.VoiceBook.Pause.High,iv out.1.VoiceBook.Rest.Low,iv out.1.VoiceBook.Rest.High,.bool (out.1.can.getD 0 false),.bool (out.1.can.getD 1 false),.bool (out.1.can.getD 2 false),.bool (out.1.can.getD 3 false),.bool (out.1.can.getD 4 false),.bool (out.1.can.getD 5 false),.bool (out.1.can.getD 6 false),.bool (out.1.can.getD 7 false),.bool (out.1.can.getD 8 false),.bool (out.1.can.getD 9 false)]).toArray 118 (0,0))∧D bb_1=some (.cells ([iv out.2.1]).toArray 3 (0,0))∧D bb_2=some (.cells ([.slice p_5 out.2.2.length c_5]).toArray 30 (0,0))∧SRc C_int D out.1.VoiceBook.Discs p_3 c_3∧SRc C_VoicePiece D out.1.VoiceBook.Pieces p_4 c_4∧out.1.can.length=10∧SRc C_int D out.2.2 p_5 c_5):=by
 refine enter _ 8 Tryz.func64 rfl Tryz.ntmps64 rfl fun a hF=>?_
 replace hF:Frm 8 [] [(0,.agg #[.slice p b.VoiceBook.Discs.length c,.slice p_1 b.VoiceBook.Pieces.length c_1,iv b.VoiceBook.Pause.Low,iv b.VoiceBook.Pause.High,iv b.VoiceBook.Rest.Low,iv b.VoiceBook.Rest.High,.bool (b.can.getD 0 false),.bool (b.can.getD 1 false),.bool (b.can.getD 2 false),.bool (b.can.getD 3 false),.bool (b.can.getD 4 false),.bool (b.can.getD 5 false),.bool (b.can.getD 6 false),.bool (b.can.getD 7 false),.bool (b.can.getD 8 false),.bool (b.can.getD 9 false)]),(1,.slice p_2 text.length c_2),(2,iv atv)] a:=hF
 have hS:=St.start hD
 unfold voice_book_next at h
 refine seq (region (O.box (cs:=[.slice p b.VoiceBook.Discs.length c,.slice p_1 b.VoiceBook.Pieces.length c_1,iv b.VoiceBook.Pause.Low,iv b.VoiceBook.Pause.High,iv b.VoiceBook.Rest.Low,iv b.VoiceBook.Rest.High,.bool (b.can.getD 0 false),.bool (b.can.getD 1 false),.bool (b.can.getD 2 false),.bool (b.can.getD 3 false),.bool (b.can.getD 4 false),.bool (b.can.getD 5 false),.bool (b.can.getD 6 false),.bool (b.can.getD 7 false),.bool (b.can.getD 8 false),.bool (b.can.getD 9 false)]) 1 hF rfl rfl hS rfl fun b_1 a w hF hS=>O.box (cs:=[.slice p_2 text.length c_2]) 2 hF rfl rfl hS rfl fun b_2 a w hF hS=>O.box (cs:=[iv atv]) 3 hF rfl rfl hS rfl fun b_3 a w hF hS=>step hF (Y.assign hF rfl) rfl fun a hF=>nT (seq (region (step hF (Y.makeFunc (first:=[]) (cap:=[(.tmp 3),(.tmp 5),(.tmp 4)]) (fs:=[]) (cs:=[.pointer (some ⟨b_1,0,none⟩),.pointer (some ⟨b_3,0,none⟩),.pointer (some ⟨b_2,0,none⟩)]) hF rfl rfl) rfl fun a hF=>step hF (Y.assign hF rfl) rfl fun a hF=>nT (ret_ ?_))))))
 obtain ⟨Dv,hlev,hbv,hS⟩:=hS.freezeB (i:=1) rfl
 replace hs:=hs.mono hlev
 replace hs_1:=hs_1.mono hlev
 replace hs_2:=hs_2.mono hlev
 obtain ⟨Dv_1,hlev_1,hbv_1,hS⟩:=hS.freezeB (i:=3) rfl
 replace hs:=hs.mono hlev_1
 replace hs_1:=hs_1.mono hlev_1
 replace hs_2:=hs_2.mono hlev_1
 replace hbv:=hlev_1 _ _ hbv
 obtain ⟨Dv_2,hlev_2,hbv_2,hS⟩:=hS.freezeB (i:=2) rfl
 replace hs:=hs.mono hlev_2
 replace hs_1:=hs_1.mono hlev_2
 replace hs_2:=hs_2.mono hlev_2
 replace hbv:=hlev_2 _ _ hbv
 replace hbv_1:=hlev_2 _ _ hbv_1
 obtain rfl:=some_inj h
 exact leaveS Tryz.results64 hF hS (.cons (.tmp rfl) .nil) .nil ⟨_,_,_,_,_,_,_,_,_,rfl,hbv,hbv_1,hbv_2,hs,hs_1,hn,hs_2⟩
noncomputable def voice_book_next_1_k2 {σ:Type} (v11_0:Int) (sy_1:σ):Option ((Int × σ) ⊕ σ):=
  nxt (wr (v11_0 + 1),sy_1)
noncomputable def voice_book_next_1_b1 {σ:Type} (cv:voice_book) (cv_1:Int) (cv_2:(List Int)) (yield_:Int→σ→Option σ):(Int × σ)→Option ((Int × σ) ⊕ σ)
 | (v11_0,sy)=>
  cond (decide (v11_0 < (cv.VoiceBook.Pieces.length:Int)))
  ((idx cv.VoiceBook.Pieces v11_0).bind fun e=>
  if (0:Int)≤v11_0∧v11_0 < ((10:Nat):Int) then
  cond ((!(cv.can.getD (Int.toNat v11_0) false)) || (decide ((wr (cv_1 + (e.Words.length:Int))) > (cv_2.length:Int))))
  (voice_book_next_1_k2 v11_0 sy)
  (if ((0:Int)≤cv_1∧cv_1≤(wr (cv_1 + (e.Words.length:Int))))∧(wr (cv_1 + (e.Words.length:Int)))≤(cv_2.length:Int) then
  (slices_Equal___int_int_ e.Words ((cv_2.take (Int.toNat (wr (cv_1 + (e.Words.length:Int))))).drop (Int.toNat cv_1))).bind fun rv_1=>
  cond rv_1
  ((yield_ v11_0 sy).bind fun sy_3=>
  voice_book_next_1_k2 v11_0 sy_3)
  (voice_book_next_1_k2 v11_0 sy)
  else none)
  else none)
  (ext (some sy))
noncomputable def voice_book_next_1 {σ:Type} (yield_:Int→σ→Option σ) (cv:voice_book) (cv_1:Int) (cv_2:(List Int)) (s0:σ):Option σ:=
  loopU (voice_book_next_1_b1 cv cv_1 cv_2 yield_) (0,s0)
theorem voice_book_next_1_it {w0:World} {D0:Stab} {σ:Type} {Inv:σ→Stab→List (Nat × LR)→Prop} {yield_:Int→σ→Option σ} (hlt:∀ s D ms,Inv s D ms→∀ i r,lk ms i=some r→i < 1000) (hmono:∀ s D ms D2,Inv s D ms→D.le D2→Inv s D2 ms) (l:Nat) (cv:voice_book) (cv_1:Int) (cv_2:(List Int)) {p:Option Addr} {c:Nat} {p_1:Option Addr} {c_1:Nat} {bb:Nat} {bb_1:Nat} {p_2:Option Addr} {c_2:Nat} {bb_2:Nat} {Ds:Stab} (hs:SRc C_int Ds cv.VoiceBook.Discs p c) (hs_1:SRc C_VoicePiece Ds cv.VoiceBook.Pieces p_1 c_1) (hn:cv.can.length=10) (hs_2:SRc C_int Ds cv_2 p_2 c_2) (hbv:Ds bb=some (.cells ([.slice p cv.VoiceBook.Discs.length c,.slice p_1 cv.VoiceBook.Pieces.length c_1,iv cv.VoiceBook.Pause.Low,iv cv.VoiceBook.Pause.High,iv cv.VoiceBook.Rest.Low,iv cv.VoiceBook.Rest.High,.bool (cv.can.getD 0 false),.bool (cv.can.getD 1 false),.bool (cv.can.getD 2 false),.bool (cv.can.getD 3 false),.bool (cv.can.getD 4 false),.bool (cv.can.getD 5 false),.bool (cv.can.getD 6 false),.bool (cv.can.getD 7 false),.bool (cv.can.getD 8 false),.bool (cv.can.getD 9 false)]).toArray 118 (0,0))) (hbv_1:Ds bb_1=some (.cells ([iv cv_1]).toArray 3 (0,0))) (hbv_2:Ds bb_2=some (.cells ([.slice p_2 cv_2.length c_2]).toArray 30 (0,0))) (s0 out:σ) (hround:∀ (x:Int) (s s2:σ) (D:Stab) (ms:List (Nat × LR)) (w:World),yield_ x s=some s2→Ds.le D→Inv s D ms→St w0 D0 D ms w→Yld Tryz.prog l [iv x] w (fun w2=>∃ D2 ms2,D.le D2∧Inv s2 D2 ms2∧St w0 D0 D2 ms2 w2)) (h:voice_book_next_1 yield_ cv cv_1 cv_2 s0=some out) {ms:List (Nat × LR)} {w:World} (hI:Inv s0 Ds ms) (hS:St w0 D0 Ds ms w):
  CallsIn (Fw none) 0 Tryz.prog 77 [.func (.yield l) #[] #[],.pointer (some ⟨bb,0,none⟩),.pointer (some ⟨bb_1,0,none⟩),.pointer (some ⟨bb_2,0,none⟩)].toArray w (fun e w2=>(∃ v,e=.returned v)∧∃ D2 ms2,Ds.le D2∧Inv out D2 ms2∧St w0 D0 D2 ms2 w2):=by
 refine callsIn_fw (r:=none) (enter _ 49 Tryz.func77 rfl Tryz.ntmps77 rfl fun a hF=>?_)
 replace hF:Frm 49 [] [(0,.func (.yield l) #[] #[]),(1,.pointer (some ⟨bb,0,none⟩)),(2,.pointer (some ⟨bb_1,0,none⟩)),(3,.pointer (some ⟨bb_2,0,none⟩))] a:=hF
 unfold voice_book_next_1 at h
 refine scope_ (seq (label_ (then_n (seq (region (step hF (Y.fieldAddr fo_118_0 hF rfl) rfl fun a hF=>step hF (Y.fieldAddr fo_70_1 hF rfl) rfl fun a hF=>step hF (Y.load1H sz_68 hF rfl (hS.stab _ _ hbv) rfl) rfl fun a hF=>step hF (Y.lenSl u_68 hF rfl) rfl fun a hF=>step hF (Y.move hF rfl) rfl fun a hF=>nT (block (loop_cut (body:=voice_book_next_1_b1 cv cv_1 cv_2 yield_) (out:=out) (fun s a w=>∃ (v11_0:Int) (sy:σ),∃ (Dv:Stab),∃ ms_1,s=(v11_0,sy)∧Ds.le Dv∧Frm 49 [] [(0,.func (.yield l) #[] #[]),(1,.pointer (some ⟨bb,0,none⟩)),(2,.pointer (some ⟨bb_1,0,none⟩)),(3,.pointer (some ⟨bb_2,0,none⟩)),(9,.slice p_1 cv.VoiceBook.Pieces.length c_1),(10,iv (cv.VoiceBook.Pieces.length:Int)),(11,iv v11_0)] a∧St w0 D0 Dv (ms_1) w∧Inv sy Dv ms_1) (0,s0) h ⟨0,s0,Ds,ms,rfl,Stab.le.refl _,hF.weak (AF rfl),hS.sub (fun j r hj=>by have hl:=(hlt _ _ _ hI) j r hj;(repeat rw [lk_ne (by omega)]);exact hj),hI⟩ ?_))))))))
 rintro s a w xo ⟨v11_0,sy,Dv,ms_1,rfl,hlev,hF,hS,hI_1⟩ h hxo
 unfold voice_book_next_1_b1 at h
 dsimp only at h
 replace hs_1:=hs_1.mono hlev
 replace hs_2:=hs_2.mono hlev
 replace hbv:=hlev _ _ hbv
 replace hbv_1:=hlev _ _ hbv_1
 replace hbv_2:=hlev _ _ hbv_2
 replace hI:=hmono _ _ _ _ hI hlev
 refine seq (region (step hF (Y.lss hF rfl rfl) rfl fun a hF=>nT (seq (cond_b hF rfl (fun hbv_3=>?_) (fun hbv_3=>?_)))))
 ·replace h:=cond_t h hbv_3
  refine skip_ (then_n (seq_cut (fun a w=>∃ (sy_1:σ),∃ (Dv_1:Stab),∃ ms_2,Dv.le Dv_1∧Frm 49 [] [(0,.func (.yield l) #[] #[]),(1,.pointer (some ⟨bb,0,none⟩)),(2,.pointer (some ⟨bb_1,0,none⟩)),(3,.pointer (some ⟨bb_2,0,none⟩)),(9,.slice p_1 cv.VoiceBook.Pieces.length c_1),(10,iv (cv.VoiceBook.Pieces.length:Int)),(11,iv v11_0)] a∧St w0 D0 Dv_1 (ms_2) w∧Inv sy_1 Dv_1 ms_2∧voice_book_next_1_k2 v11_0 sy_1=some xo) ?_ ?_))
  ·skip
   refine block (seq (region (step hF (Y.move hF rfl) rfl fun a hF=>?_)))
   obtain ⟨e,hx,h⟩:=bind_some h
   obtain ⟨b,o,hE,hY⟩:=Y.indexS (P:=Tryz.prog) (C:=C_VoicePiece) (xs:=cv.VoiceBook.Pieces) (T:=68) (x:=(.tmp 9)) (y:=(.tmp 11)) u_68 sz_67 hF rfl rfl (hs_1).1 hx
   obtain ⟨cc,hc,hcell⟩:=hE.open
   obtain ⟨p_3,c_3,rfl,hs_3⟩:=C_VoicePiece.open hc
   refine step hF (hY) rfl fun a hF=>step hF (Y.loadNE (o:=o) (k:=0) sz_67 hF rfl (hcell _ hS.stab) rfl rfl) rfl fun a hF=>O.alloc 1004 zc_67 hF hS rfl fun b_1 a w hF hS=>step hF (Y.assign hF rfl) rfl fun a hF=>O.store (us:=[.slice p_3 e.Words.length c_3,iv e.Disc,iv e.Begin,iv e.Long]) 1004 sz_67 hF rfl rfl rfl rfl hS rfl rfl fun a w hF hS=>nT (seq (seq (region (step hF (Y.move hF rfl) rfl fun a hF=>step hF (Y.fieldAddr fo_118_1 hF rfl) rfl fun a hF=>?_))))
   obtain ⟨hg,h⟩:=ite_some h
   refine step hF (Y.indexArr u_116 sz_4 hF rfl rfl hg.1 hg.2) rfl fun a hF=>step hF (Y.load1H sz_4 hF rfl (hS.stab _ _ hbv) (show ([.slice p cv.VoiceBook.Discs.length c,.slice p_1 cv.VoiceBook.Pieces.length c_1,iv cv.VoiceBook.Pause.Low,iv cv.VoiceBook.Pause.High,iv cv.VoiceBook.Rest.Low,iv cv.VoiceBook.Rest.High,.bool (cv.can.getD 0 false),.bool (cv.can.getD 1 false),.bool (cv.can.getD 2 false),.bool (cv.can.getD 3 false),.bool (cv.can.getD 4 false),.bool (cv.can.getD 5 false),.bool (cv.can.getD 6 false),.bool (cv.can.getD 7 false),.bool (cv.can.getD 8 false),.bool (cv.can.getD 9 false)]:List Value)[0 + 6 + Int.toNat v11_0 * 1]?=some (.bool (cv.can.getD (Int.toNat v11_0) false)) from bools_at (pre:=[.slice p cv.VoiceBook.Discs.length c,.slice p_1 cv.VoiceBook.Pieces.length c_1,iv cv.VoiceBook.Pause.Low,iv cv.VoiceBook.Pause.High,iv cv.VoiceBook.Rest.Low,iv cv.VoiceBook.Rest.High]) (xs:=cv.can) (n:=10) hg (by simp))) rfl fun a hF=>step hF (Y.not hF rfl) rfl fun a hF=>step hF (Y.move hF rfl) rfl fun a hF=>join (N:=49) (rs:=[]) (w0:=w0) (D0:=D0) 9 (us:=[(0,.func (.yield l) #[] #[]),(1,.pointer (some ⟨bb,0,none⟩)),(2,.pointer (some ⟨bb_1,0,none⟩)),(3,.pointer (some ⟨bb_2,0,none⟩)),(5,iv v11_0),(6,.pointer (some ⟨b_1,0,none⟩)),(9,.slice p_1 cv.VoiceBook.Pieces.length c_1),(10,iv (cv.VoiceBook.Pieces.length:Int)),(11,iv v11_0),(30,.bool ((!(cv.can.getD (Int.toNat v11_0) false)) || (decide ((wr (cv_1 + (e.Words.length:Int))) > (cv_2.length:Int)))))]) (ms:=((1004,.cells b_1 [.slice p_3 e.Words.length c_3,iv e.Disc,iv e.Begin,iv e.Long] 67)::ms_1)) (D':=Dv) ?_ ?_
   ·rcases bcases (!(cv.can.getD (Int.toNat v11_0) false)) with hbv_4 | hbv_4
    ·skip
     refine guard_off hF rfl rfl hbv_4 rfl fun a hF=>guard_off hF rfl rfl hbv_4 rfl fun a hF=>guard_off hF rfl rfl hbv_4 rfl fun a hF=>guard_off hF rfl rfl hbv_4 rfl fun a hF=>guard_off hF rfl rfl hbv_4 rfl fun a hF=>guard_off hF rfl rfl hbv_4 rfl fun a hF=>guard_off hF rfl rfl hbv_4 rfl fun a hF=>guard_off hF rfl rfl hbv_4 rfl fun a hF=>step hF (Y.pick_t hF rfl hbv_4 rfl) rfl fun a hF=>nT ⟨hF.weak ⟨rfl,rfl,rfl,rfl,rfl,rfl,rfl,rfl,rfl,(by rw [hbv_4];rfl),trivial⟩,hS.sub (subc rfl (fun j r hj=>by have hl:=(hlt _ _ _ hI_1) j r hj;(repeat rw [lk_ne (by omega)]);exact hj))⟩
    refine guard_on hF rfl rfl hbv_4 (step hF (Y.load1H sz_3 hF rfl (hS.stab _ _ hbv_1) rfl) rfl fun a hF=>guard_on hF rfl rfl hbv_4 (step hF (Y.fieldAddr fo_67_0 hF rfl) rfl fun a hF=>guard_on hF rfl rfl hbv_4 (step hF (Y.load1L 1004 sz_30 hF rfl hS rfl rfl) rfl fun a hF=>guard_on hF rfl rfl hbv_4 (step hF (Y.lenSl u_30 hF rfl) rfl fun a hF=>guard_on hF rfl rfl hbv_4 (step hF (Y.add hF rfl rfl) rfl fun a hF=>guard_on hF rfl rfl hbv_4 (step hF (Y.load1H sz_30 hF rfl (hS.stab _ _ hbv_2) rfl) rfl fun a hF=>guard_on hF rfl rfl hbv_4 (step hF (Y.lenSl u_30 hF rfl) rfl fun a hF=>guard_on hF rfl rfl hbv_4 (step hF (Y.gtr hF rfl rfl) rfl fun a hF=>step hF (Y.pick_f hF rfl hbv_4 rfl) rfl fun a hF=>nT ⟨hF.weak ⟨rfl,rfl,rfl,rfl,rfl,rfl,rfl,rfl,rfl,(by rw [hbv_4];rfl),trivial⟩,hS.sub (subc rfl (fun j r hj=>by have hl:=(hlt _ _ _ hI_1) j r hj;(repeat rw [lk_ne (by omega)]);exact hj))⟩))))))))
   intro a w hF hS
   refine nT (cond_b hF rfl (fun hbv_5=>?_) (fun hbv_5=>?_))
   ·replace h:=cond_t h hbv_5
    refine exit_ (then_x (blk_hit (then_n (⟨sy,Dv,ms_1,Stab.le.refl _,hF.weak (AF rfl),hS.sub (fun j r hj=>by have hl:=(hlt _ _ _ hI_1) j r hj;(repeat rw [lk_ne (by omega)]);exact hj),hI_1,h⟩))))
   replace h:=cond_f h hbv_5
   refine skip_ (then_n (seq ?_))
   obtain ⟨Dv_2,hlev_2,hbv_6,hS⟩:=hS.freezeB (i:=1004) rfl
   replace hs_2:=hs_2.mono hlev_2
   replace hbv:=hlev_2 _ _ hbv
   replace hbv_1:=hlev_2 _ _ hbv_1
   replace hbv_2:=hlev_2 _ _ hbv_2
   replace hI:=hmono _ _ _ _ hI hlev_2
   replace hI_1:=hmono _ _ _ _ hI_1 hlev_2
   replace hs_3:=hs_3.mono hlev_2
   refine drawsV 17 (.flt 0 (.flt 1 (.flt 2 (.flt 3 (.flt 4 (.flt 5 (.flt 6 (.flt 7 (.flt 8 (.flt 9 (.alt 10 (.flt 11 (.flt 12 (.flt 13 (.alt 14 (.flt 15 (.flt 16 .done)) .stop)))) .stop))))))))))) mixed_ (by kernel_rfl) (fun w=>St w0 D0 Dv_2 [] w) _ (hS.sub (ms:=[]) (fun j r hj=>by simp [lk] at hj)).drew (fun _ _ _ _ h=>h) ?_ (fun _ _ h=>h)
   replace hS:=hS.drew
   have hle0:=hS.le
   refine stepV (i:=0) rfl hF (fun w hS=>Y.fieldAddr fo_67_0 hF rfl) rfl fun a hF=>stepV (i:=1) rfl hF (fun w hS=>Y.load1H sz_30 hF rfl (hS.stab _ _ hbv_6) rfl) rfl fun a hF=>stepV (i:=2) rfl hF (fun w hS=>Y.load1H sz_30 hF rfl (hS.stab _ _ hbv_2) rfl) rfl fun a hF=>stepV (i:=3) rfl hF (fun w hS=>Y.load1H sz_3 hF rfl (hS.stab _ _ hbv_1) rfl) rfl fun a hF=>stepV (i:=4) rfl hF (fun w hS=>Y.load1H sz_3 hF rfl (hS.stab _ _ hbv_1) rfl) rfl fun a hF=>stepV (i:=5) rfl hF (fun w hS=>Y.fieldAddr fo_67_0 hF rfl) rfl fun a hF=>stepV (i:=6) rfl hF (fun w hS=>Y.load1H sz_30 hF rfl (hS.stab _ _ hbv_6) rfl) rfl fun a hF=>stepV (i:=7) rfl hF (fun w hS=>Y.lenSl u_30 hF rfl) rfl fun a hF=>stepV (i:=8) rfl hF (fun w hS=>Y.add hF rfl rfl) rfl fun a hF=>?_
   obtain ⟨hg_2,h⟩:=ite_some h
   refine stepV (i:=9) rfl hF (fun w hS=>Y.sliceLH (xs:=cv_2) u_30 sz_3 hF rfl rfl rfl hg_2 hs_2.2) rfl fun a hF=>oneV (i:=10) rfl ?_ trivial
   obtain ⟨rv_1,hx_3,h⟩:=bind_some h
   refine O.callP (us:=[.slice p_3 e.Words.length c_3,.slice (if c_2=Int.toNat cv_1 then p_2 else Option.map (fun ad=>ad.add (Int.toNat cv_1 * 1)) p_2) ((cv_2.take (Int.toNat (wr (cv_1 + (e.Words.length:Int))))).drop (Int.toNat cv_1)).length (c_2 - Int.toNat cv_1)]) ca_78 hF hS (slices_Equal___int_int__ok hS.stab e.Words ((cv_2.take (Int.toNat (wr (cv_1 + (e.Words.length:Int))))).drop (Int.toNat cv_1)) hs_3 (SRc.drop (SRc.take hs_2 (Int.toNat (wr (cv_1 + (e.Words.length:Int))))) (k:=Int.toNat cv_1) (by rw [List.length_take];have:=hg_2;omega)) rv_1 hx_3) rfl rfl fun a w hF hS=>nT ⟨hS.sub (ms:=[]) (fun j r hj=>by simp [lk] at hj),?_⟩
   refine stepV (i:=11) rfl hF (fun w hS=>Y.move hF rfl) rfl fun a hF=>?_
   rcases bcases rv_1 with hbg_1 | hbg_1
   ·replace h:=cond_t h hbg_1
    refine stepV_on (i:=12) rfl hF rfl rfl hbg_1 (fun w hS=>Y.move hF rfl) rfl fun a hF=>stepV_on (i:=13) rfl hF rfl rfl hbg_1 (fun w hS=>Y.move hF rfl) rfl fun a hF=>oneV (i:=14) rfl ?_ trivial
    refine guard_on hF rfl rfl hbg_1 ?_
    replace hS:=hS.sub (ms:=ms_1) (fun j r hj=>by have hl:=(hlt _ _ _ hI_1) j r hj;(repeat rw [lk_ne (by omega)]);exact hj)
    obtain ⟨sy_3,hx_4,h⟩:=bind_some h
    refine O.yield (us:=[iv v11_0]) hF rfl rfl (hround v11_0 _ _ _ _ _ hx_4 (hlev.trans hlev_2) hI_1 hS) rfl fun a w hF hK=>?_
    obtain ⟨Dv_4,ms_4,hlev_4,hI_4,hS⟩:=hK
    replace hbv:=hlev_4 _ _ hbv
    replace hbv_1:=hlev_4 _ _ hbv_1
    replace hbv_2:=hlev_4 _ _ hbv_2
    replace hbv_6:=hlev_4 _ _ hbv_6
    refine nT ⟨(hS.sub (ms:=[]) (fun j r hj=>by simp [lk] at hj)).weakD hlev_4 hle0,?_⟩
    refine stepV_on (i:=15) rfl hF rfl rfl hbg_1 (fun w hS=>Y.not hF rfl) rfl fun a hF=>stepV (i:=16) rfl hF (fun w hS=>Y.pick_t hF rfl hbg_1 rfl) rfl fun a hF=>toTailV (nT (cond_b hF rfl (fun hb=>by cases hb) (fun hb=>skip_ (blk_n (then_n (⟨sy_3,Dv_4,ms_4,hlev_2.trans hlev_4,hF.weak (AF rfl),hS.sub (fun j r hj=>by have hl:=(hlt _ _ _ hI_4) j r hj;(repeat rw [lk_ne (by omega)]);exact hj),hI_4,h⟩))))))
   replace h:=cond_f h hbg_1
   refine stepV_off (i:=12) rfl hF rfl rfl hbg_1 rfl fun a hF=>stepV_off (i:=13) rfl hF rfl rfl hbg_1 rfl fun a hF=>oneV (i:=14) rfl (guard_off hF rfl rfl hbg_1 rfl fun a hF=>nT ⟨hS.sub (ms:=[]) (fun j r hj=>by simp [lk] at hj),?_⟩) trivial
   refine stepV_off (i:=15) rfl hF rfl rfl hbg_1 rfl fun a hF=>stepV (i:=16) rfl hF (fun w hS=>Y.pick_f hF rfl hbg_1 rfl) rfl fun a hF=>toTailV (nT (cond_b hF rfl (fun hb=>by cases hb) (fun hb=>skip_ (blk_n (then_n (⟨sy,Dv_2,ms_1,hlev_2,hF.weak (AF rfl),hS.sub (fun j r hj=>by have hl:=(hlt _ _ _ hI_1) j r hj;(repeat rw [lk_ne (by omega)]);exact hj),hI_1,h⟩))))))
  rintro a w ⟨sy_1,Dv_1,ms_2,hlev_1,hF,hS,hI_2,h⟩
  unfold voice_book_next_1_k2 at h
  replace hbv:=hlev_1 _ _ hbv
  replace hbv_1:=hlev_1 _ _ hbv_1
  replace hbv_2:=hlev_1 _ _ hbv_2
  replace hI:=hmono _ _ _ _ hI hlev_1
  replace hI_1:=hmono _ _ _ _ hI_1 hlev_1
  refine region (step hF (Y.add hF rfl rfl) rfl fun a hF=>step hF (Y.move hF rfl) rfl fun a hF=>nT (⟨_,nxt_some h,(wr (v11_0 + 1)),sy_1,Dv_1,ms_2,rfl,hlev.trans hlev_1,hF.weak (AF rfl),hS.sub (fun j r hj=>by have hl:=(hlt _ _ _ hI_2) j r hj;(repeat rw [lk_ne (by omega)]);exact hj),hI_2⟩))
 replace h:=cond_f h hbv_3
 refine exit_ (then_x (then_x (blk_hit (scp_n ?_))))
 replace h:=ext_some h hxo
 replace hS:=hS.sub (ms:=ms_1) (fun j r hj=>by have hl:=(hlt _ _ _ hI_1) j r hj;(repeat rw [lk_ne (by omega)]);exact hj)
 obtain rfl:=some_inj h
 exact leaveIn (by rfl) hF ⟨⟨_,rfl⟩,Dv,ms_1,hlev,hI_1,hS⟩
noncomputable def voice_book_say_1_y1 (atv:Int) (cv_1:voice_book) (cv_2:(List Int)) (cv_3:voice_order) (self_:Int→(List (Int × Option (List Int)))→voice_book→(List Int)→voice_order→Option (((Option (List Int)) × Bool) × (List (Int × Option (List Int))))) (xy:Int):((List (Int × Option (List Int))) × (Option (List Int)))→Option ((List (Int × Option (List Int))) × (Option (List Int)))
 | (mp,l)=>
  (idx cv_1.VoiceBook.Pieces xy).bind fun e=>
  (self_ (wr (atv + (e.Words.length:Int))) mp cv_1 cv_2 (voice_order.mk cv_3.better)).bind fun rv_1=>
  cond rv_1.1.2
  (if ([xy]).length + (rv_1.1.1.getD []).length≤lim then
  (cond l.isNone (some true) ((cv_3.better ([xy] ++ (rv_1.1.1.getD [])) (l.getD [])).bind fun rv_2=>
  some rv_2)).bind fun t=>
  cond t
  (some (rv_1.2,(some ([xy] ++ (rv_1.1.1.getD [])))))
  (some (rv_1.2,l))
  else none)
  (some (rv_1.2,l))
noncomputable def voice_book_say_1_step (self_:Int→(List (Int × Option (List Int)))→voice_book→(List Int)→voice_order→Option (((Option (List Int)) × Bool) × (List (Int × Option (List Int))))) (atv:Int) (cv:(List (Int × Option (List Int)))) (cv_1:voice_book) (cv_2:(List Int)) (cv_3:voice_order):Option (((Option (List Int)) × Bool) × (List (Int × Option (List Int)))):=
  cond ((mget kI cv atv).isSome)
  (some ((((mget kI cv atv).getD (none:(Option (List Int)))),!((mget kI cv atv).getD (none:(Option (List Int)))).isNone),cv))
  ((voice_book_next cv_1 cv_2 atv).bind fun rv=>
  (voice_book_next_1 (voice_book_say_1_y1 atv cv_1 cv_2 cv_3 self_) rv.1 rv.2.1 rv.2.2 (cv,(none:Option (List Int)))).bind fun (so,so_1)=>
  some ((so_1,!so_1.isNone),(mput kI so atv so_1)))
theorem voice_book_say_1_step_ok {wb w0:World} {Db D0:Stab} {Sx:List Nat} {hpx:Nat→Option Obj} (self_:Int→(List (Int × Option (List Int)))→voice_book→(List Int)→voice_order→Option (((Option (List Int)) × Bool) × (List (Int × Option (List Int))))) (hself:∀ {wb w0:World} {Db D0:Stab} {Sx:List Nat} {hpx:Nat→Option Obj} (atv:Int) (cv:(List (Int × Option (List Int)))) (cv_1:voice_book) (cv_2:(List Int)) (cv_3:voice_order) {bb_1:Nat} {es:Array MapEntry} {clk:Nat} {bb:Nat} {p:Option Addr} {c:Nat} {p_1:Option Addr} {c_1:Nat} {bb_2:Nat} {p_2:Option Addr} {c_2:Nat} {bb_3:Nat} {bb_4:Nat} {fid:FuncId} {first:List Value} {cap:List Value} {bb_5:Nat} (hm_1:MRepI (C_osl C_int) false D0 cv es.toList) (hs:SRc C_int D0 cv_1.VoiceBook.Discs p c) (hs_1:SRc C_VoicePiece D0 cv_1.VoiceBook.Pieces p_1 c_1) (hn:cv_1.can.length=10) (hs_2:SRc C_int D0 cv_2 p_2 c_2) (hf:FnOk_82 wb Db fid first cap cv_3.better) (hbv:D0 bb=some (.cells ([.map (some bb_1)]).toArray 140 (0,0))) (hbv_1:D0 bb_2=some (.cells ([.slice p cv_1.VoiceBook.Discs.length c,.slice p_1 cv_1.VoiceBook.Pieces.length c_1,iv cv_1.VoiceBook.Pause.Low,iv cv_1.VoiceBook.Pause.High,iv cv_1.VoiceBook.Rest.Low,iv cv_1.VoiceBook.Rest.High,.bool (cv_1.can.getD 0 false),.bool (cv_1.can.getD 1 false),.bool (cv_1.can.getD 2 false),.bool (cv_1.can.getD 3 false),.bool (cv_1.can.getD 4 false),.bool (cv_1.can.getD 5 false),.bool (cv_1.can.getD 6 false),.bool (cv_1.can.getD 7 false),.bool (cv_1.can.getD 8 false),.bool (cv_1.can.getD 9 false)]).toArray 118 (0,0))) (hbv_2:D0 bb_3=some (.cells ([.slice p_2 cv_2.length c_2]).toArray 30 (0,0))) (hbv_3:D0 bb_4=some (.cells ([.func (.func 63) #[] #[.pointer (some ⟨bb,0,none⟩),.pointer (some ⟨bb_2,0,none⟩),.pointer (some ⟨bb_3,0,none⟩),.pointer (some ⟨bb_4,0,none⟩),.pointer (some ⟨bb_5,0,none⟩)]]).toArray 141 (0,0))) (hbv_4:D0 bb_5=some (.cells ([.func (.func fid) first.toArray cap.toArray]).toArray 138 (0,0))) (hG:Glob D0) (hS0:St wb Db D0 [(1,.obj bb_1 (.map es clk)),(0,.snap Sx hpx)] w0) (out:(((Option (List Int)) × Bool) × (List (Int × Option (List Int))))) (h:self_ atv cv cv_1 cv_2 cv_3=some out),Calls Tryz.prog 63 [iv atv,.pointer (some ⟨bb,0,none⟩),.pointer (some ⟨bb_2,0,none⟩),.pointer (some ⟨bb_3,0,none⟩),.pointer (some ⟨bb_4,0,none⟩),.pointer (some ⟨bb_5,0,none⟩)].toArray w0 (RetM D0 fun D w v=>∃ (es1:Array MapEntry) (ck1:Nat) (p_14:Option Addr) (c_14:Nat),St wb Db D [(1,.obj bb_1 (.map es1 ck1)),(0,.snap Sx hpx)] w∧v=.tuple #[.slice p_14 (out.1.1.getD []).length c_14,.bool out.1.2]∧MRepI (C_osl C_int) false D out.2 es1.toList∧ORc C_int D out.1.1 p_14 c_14)) (atv:Int) (cv:(List (Int × Option (List Int)))) (cv_1:voice_book) (cv_2:(List Int)) (cv_3:voice_order) {bb_1:Nat} {es:Array MapEntry} {clk:Nat} {bb:Nat} {p:Option Addr} {c:Nat} {p_1:Option Addr} {c_1:Nat} {bb_2:Nat} {p_2:Option Addr} {c_2:Nat} {bb_3:Nat} {bb_4:Nat} {fid:FuncId} {first:List Value} {cap:List Value} {bb_5:Nat} (hm_1:MRepI (C_osl C_int) false D0 cv es.toList) (hs:SRc C_int D0 cv_1.VoiceBook.Discs p c) (hs_1:SRc C_VoicePiece D0 cv_1.VoiceBook.Pieces p_1 c_1) (hn:cv_1.can.length=10) (hs_2:SRc C_int D0 cv_2 p_2 c_2) (hf:FnOk_82 wb Db fid first cap cv_3.better) (hbv:D0 bb=some (.cells ([.map (some bb_1)]).toArray 140 (0,0))) (hbv_1:D0 bb_2=some (.cells ([.slice p cv_1.VoiceBook.Discs.length c,.slice p_1 cv_1.VoiceBook.Pieces.length c_1,iv cv_1.VoiceBook.Pause.Low,iv cv_1.VoiceBook.Pause.High,iv cv_1.VoiceBook.Rest.Low,iv cv_1.VoiceBook.Rest.High,.bool (cv_1.can.getD 0 false),.bool (cv_1.can.getD 1 false),.bool (cv_1.can.getD 2 false),.bool (cv_1.can.getD 3 false),.bool (cv_1.can.getD 4 false),.bool (cv_1.can.getD 5 false),.bool (cv_1.can.getD 6 false),.bool (cv_1.can.getD 7 false),.bool (cv_1.can.getD 8 false),.bool (cv_1.can.getD 9 false)]).toArray 118 (0,0))) (hbv_2:D0 bb_3=some (.cells ([.slice p_2 cv_2.length c_2]).toArray 30 (0,0))) (hbv_3:D0 bb_4=some (.cells ([.func (.func 63) #[] #[.pointer (some ⟨bb,0,none⟩),.pointer (some ⟨bb_2,0,none⟩),.pointer (some ⟨bb_3,0,none⟩),.pointer (some ⟨bb_4,0,none⟩),.pointer (some ⟨bb_5,0,none⟩)]]).toArray 141 (0,0))) (hbv_4:D0 bb_5=some (.cells ([.func (.func fid) first.toArray cap.toArray]).toArray 138 (0,0))) (hG:Glob D0) (hS0:St wb Db D0 [(1,.obj bb_1 (.map es clk)),(0,.snap Sx hpx)] w0) (out:(((Option (List Int)) × Bool) × (List (Int × Option (List Int))))) (h:voice_book_say_1_step self_ atv cv cv_1 cv_2 cv_3=some out):Calls Tryz.prog 63 [iv atv,.pointer (some ⟨bb,0,none⟩),.pointer (some ⟨bb_2,0,none⟩),.pointer (some ⟨bb_3,0,none⟩),.pointer (some ⟨bb_4,0,none⟩),.pointer (some ⟨bb_5,0,none⟩)].toArray w0 (RetM D0 fun D w v=>∃ (es1:Array MapEntry) (ck1:Nat) (p_14:Option Addr) (c_14:Nat),St wb Db D [(1,.obj bb_1 (.map es1 ck1)),(0,.snap Sx hpx)] w∧v=.tuple #[.slice p_14 (out.1.1.getD []).length c_14,.bool out.1.2]∧MRepI (C_osl C_int) false D out.2 es1.toList∧ORc C_int D out.1.1 p_14 c_14):=by
 refine enter _ 66 Tryz.func63 rfl Tryz.ntmps63 rfl fun a hF=>?_
 replace hF:Frm 66 [] [(0,iv atv),(1,.pointer (some ⟨bb,0,none⟩)),(2,.pointer (some ⟨bb_2,0,none⟩)),(3,.pointer (some ⟨bb_3,0,none⟩)),(4,.pointer (some ⟨bb_4,0,none⟩)),(5,.pointer (some ⟨bb_5,0,none⟩))] a:=hF
 have hS:=hS0
 replace hS:=hS.noMarks 7
 unfold voice_book_say_1_step at h
 refine seq (region (O.box (cs:=[iv atv]) 8 hF rfl rfl hS rfl fun b a w hF hS=>step hF (Y.assign hF rfl) rfl fun a hF=>step hF (Y.assign hF rfl) rfl fun a hF=>nT (seq (seq (region (step hF (Y.load1H sz_140 hF rfl (hS.stab _ _ hbv) rfl) rfl fun a hF=>step hF (Y.load1L 8 sz_3 hF rfl hS rfl rfl) rfl fun a hF=>?_))))))
 obtain ⟨cc,hc,hY⟩:=Y.lookupOI (C:=(C_osl C_int)) (agg:=false) (xs:=cv) (x:=(.tmp 16)) (y:=(.tmp 17)) (z:=[.slice none 0 0]) (z0:=(none:(Option (List Int)))) true 1 mt_140 ⟨_,_,rfl,ORc.nil⟩ atv hm_1 hF rfl rfl (lkOf hS rfl)
 obtain ⟨p_3,c_3,rfl,hs_3⟩:=hc
 refine step hF ((show Yields _ _ _ _ (.tuple #[.slice p_3 (((mget kI cv atv).getD (none:(Option (List Int)))).getD []).length c_3,.bool ((mget kI cv atv).isSome)]) from hY hS)) rfl fun a hF=>step hF (Y.move hF rfl) rfl fun a hF=>step hF (Y.extract hF rfl rfl) rfl fun a hF=>step hF (Y.extract hF rfl rfl) rfl fun a hF=>step hF (Y.assign hF rfl) rfl fun a hF=>step hF (Y.assign hF rfl) rfl fun a hF=>nT (seq (region (step hF (Y.move hF rfl) rfl fun a hF=>nT (cond_b hF rfl (fun hbv_5=>?_) (fun hbv_5=>?_)))))
 ·replace h:=cond_t h hbv_5
  refine seq (region (step hF (Y.move hF rfl) rfl fun a hF=>step hF (Y.move hF rfl) rfl fun a hF=>step hF (Y.neO u_30 hs_3 hF rfl) rfl fun a hF=>step hF (Y.assign hF rfl) rfl fun a hF=>step hF (Y.assign hF rfl) rfl fun a hF=>nT (ret_ (then_r ?_))))
  obtain rfl:=some_inj h
  exact leaveM (ms:=[(1,.obj bb_1 (.map es clk)),(0,.snap Sx hpx)]) Tryz.results63 hF hS (.cons (.tmp rfl) (.cons (.tmp rfl) .nil)) (.inr ⟨7,rfl,rfl⟩) ⟨rfl,rfl,trivial⟩ (Stab.le.refl _) fun w hS=>⟨_,_,_,_,hS,rfl,hm_1,hs_3⟩
 replace h:=cond_f h hbv_5
 refine skip_ (then_n (seq (region (O.alloc 9 zc_30 hF hS rfl fun b_1 a w hF hS=>nT (seq (seq (region (step hF (Y.loadNH sz_118 hF rfl (hS.stab _ _ hbv_1) rfl rfl) rfl fun a hF=>step hF (Y.load1H sz_30 hF rfl (hS.stab _ _ hbv_2) rfl) rfl fun a hF=>step hF (Y.load1L 8 sz_3 hF rfl hS rfl rfl) rfl fun a hF=>?_))))))))
 obtain ⟨rv,hx,h⟩:=bind_some h
 refine O.callS (us:=[.agg #[.slice p cv_1.VoiceBook.Discs.length c,.slice p_1 cv_1.VoiceBook.Pieces.length c_1,iv cv_1.VoiceBook.Pause.Low,iv cv_1.VoiceBook.Pause.High,iv cv_1.VoiceBook.Rest.Low,iv cv_1.VoiceBook.Rest.High,.bool (cv_1.can.getD 0 false),.bool (cv_1.can.getD 1 false),.bool (cv_1.can.getD 2 false),.bool (cv_1.can.getD 3 false),.bool (cv_1.can.getD 4 false),.bool (cv_1.can.getD 5 false),.bool (cv_1.can.getD 6 false),.bool (cv_1.can.getD 7 false),.bool (cv_1.can.getD 8 false),.bool (cv_1.can.getD 9 false)],.slice p_2 cv_2.length c_2,iv atv]) ca_64 hF hS (voice_book_next_ok hS.stab cv_1 cv_2 atv hs hs_1 hn hs_2 rv hx) rfl rfl fun v Dv a w hR hlev hF hS=>?_
 replace hbv:=hlev _ _ hbv
 replace hbv_1:=hlev _ _ hbv_1
 replace hbv_2:=hlev _ _ hbv_2
 replace hbv_3:=hlev _ _ hbv_3
 replace hbv_4:=hlev _ _ hbv_4
 replace hm_1:=hm_1.mono hlev
 replace hs:=hs.mono hlev
 replace hs_1:=hs_1.mono hlev
 replace hs_2:=hs_2.mono hlev
 replace hG:=hG.mono hlev
 obtain ⟨bb_6,bb_7,bb_8,p_4,c_4,p_5,c_5,p_6,c_6,rfl,hbv_6,hbv_7,hbv_8,hs_4,hs_5,hn_1,hs_6⟩:=hR
 refine nT (block ?_)
 replace hF:=hF.weak (us:=[(1,.pointer (some ⟨bb,0,none⟩)),(2,.pointer (some ⟨bb_2,0,none⟩)),(4,.pointer (some ⟨bb_4,0,none⟩)),(5,.pointer (some ⟨bb_5,0,none⟩)),(6,.pointer (some ⟨b,0,none⟩)),(7,.slice none 0 0),(8,.bool false),(11,.pointer (some ⟨b_1,0,none⟩)),(28,.func (.func 77) #[] #[.pointer (some ⟨bb_6,0,none⟩),.pointer (some ⟨bb_7,0,none⟩),.pointer (some ⟨bb_8,0,none⟩)])]) (AF rfl)
 obtain ⟨⟨so,so_1⟩,hx_4,h⟩:=bind_some h
 dsimp only at h
 have hsz:=hF.size
 have hgt:=hF.get
 refine range_cut (first:=[]) (cap:=[.pointer (some ⟨bb_6,0,none⟩),.pointer (some ⟨bb_7,0,none⟩),.pointer (some ⟨bb_8,0,none⟩)]) (K:=fun m lp R w=>∃ D ms,Dv.le D∧(fun (s:((List (Int × Option (List Int))) × (Option (List Int)))) D ms=>∃ (mp:(List (Int × Option (List Int)))) (l:(Option (List Int))),∃ es_1 clk_1 p_7 c_7,s=(mp,l)∧ms=[(13,.obj lp R),(1,.obj bb_1 (.map es_1 clk_1)),(8,.cells b [iv atv] 3),(9,.cells b_1 [.slice p_7 (l.getD []).length c_7] 30),(0,.snap Sx hpx),(7,.marks (m::[]))]∧MRepI (C_osl C_int) false D mp es_1.toList∧ORc C_int D l p_7 c_7) (so,so_1) D ms∧St wb Db D ms w) 7 13 (by decide) ca_77 hF hS rfl rfl (fun fn m lp R hR w hS=>?_) (fun m lp R w hK=>?_)
 ·refine voice_book_next_1_it (Inv:=fun (s:((List (Int × Option (List Int))) × (Option (List Int)))) D ms=>∃ (mp:(List (Int × Option (List Int)))) (l:(Option (List Int))),∃ es_1 clk_1 p_7 c_7,s=(mp,l)∧ms=[(13,.obj lp R),(1,.obj bb_1 (.map es_1 clk_1)),(8,.cells b [iv atv] 3),(9,.cells b_1 [.slice p_7 (l.getD []).length c_7] 30),(0,.snap Sx hpx),(7,.marks (m::[]))]∧MRepI (C_osl C_int) false D mp es_1.toList∧ORc C_int D l p_7 c_7) (yield_:=voice_book_say_1_y1 atv cv_1 cv_2 cv_3 self_) ?_ ?_ lp rv.1 rv.2.1 rv.2.2 hs_4 hs_5 hn_1 hs_6 hbv_6 hbv_7 hbv_8 (cv,(none:Option (List Int))) (so,so_1) ?_ hx_4 (ms:=[(13,.obj lp R),(1,.obj bb_1 (.map es clk)),(8,.cells b [iv atv] 3),(9,.cells b_1 [.slice none 0 0] 30),(0,.snap Sx hpx),(7,.marks (m::[]))]) ⟨cv,(none:Option (List Int)),es,clk,none,0,rfl,rfl,hm_1,ORc.nil⟩ (hS.weak (AL rfl))
  ·rintro s D ms ⟨_,_,_,_,_,_,rfl,rfl,z0,z1⟩;exact small_lt rfl
  ·rintro s D ms D2 ⟨_,_,_,_,_,_,rfl,rfl,z0,z1⟩ hle;exact ⟨_,_,_,_,_,_,rfl,rfl,z0.mono hle,z1.mono hle⟩
  rintro xy s s2 Dv_1 ms w h hlev_1 ⟨mp,l,es_1,clk_1,p_7,c_7,rfl,rfl,hm_2,hs_7⟩ hS
  unfold voice_book_say_1_y1 at h
  dsimp only at h
  refine round_cut 13 hsz hgt rfl hS rfl hR fun R2 a hF=>?_
  replace hbv:=hlev_1 _ _ hbv
  replace hbv_1:=hlev_1 _ _ hbv_1
  replace hbv_2:=hlev_1 _ _ hbv_2
  replace hbv_3:=hlev_1 _ _ hbv_3
  replace hbv_4:=hlev_1 _ _ hbv_4
  replace hs:=hs.mono hlev_1
  replace hs_1:=hs_1.mono hlev_1
  replace hs_2:=hs_2.mono hlev_1
  replace hG:=hG.mono hlev_1
  replace hbv_6:=hlev_1 _ _ hbv_6
  replace hbv_7:=hlev_1 _ _ hbv_7
  replace hbv_8:=hlev_1 _ _ hbv_8
  refine region (step hF (Y.assign hF rfl) rfl fun a hF=>nT (⟨_,_,hS,rfl,fun w hS=>?_⟩))
  refine block (seq ?_)
  obtain ⟨e,hx_1,h⟩:=bind_some h
  obtain ⟨rv_1,hx_2,h⟩:=bind_some h
  refine drawsV 16 (.flt 0 (.flt 1 (.flt 2 (.flt 3 (.flt 4 (.flt 5 (.flt 6 (.flt 7 (.flt 8 (.flt 9 (.flt 10 (.alt 11 (.flt 12 (.flt 13 (.flt 14 (.flt 15 .done)))) .stop)))))))))))) mixed_ (by kernel_rfl) (fun w=>St wb Db Dv_1 [(8,.cells b [iv atv] 3),(9,.cells b_1 [.slice p_7 (l.getD []).length c_7] 30),(0,.snap Sx hpx),(13,.obj lp R2),(7,.marks (m::[]))] w) (fun a w=>∃ (Dv_3:Stab) (p_9:Option Addr) (c_9:Nat) (es_2:Array MapEntry) (clk_2:Nat),Dv_1.le Dv_3∧Frm 66 [] [(5,.pointer (some ⟨bb_5,0,none⟩)),(7,.slice none 0 0),(8,.bool false),(11,.pointer (some ⟨b_1,0,none⟩)),(12,iv xy),(13,.slice p_9 (rv_1.1.1.getD []).length c_9),(44,.bool rv_1.1.2)] a∧St wb Db Dv_3 [(1,.obj bb_1 (.map es_2 clk_2)),(8,.cells b [iv atv] 3),(9,.cells b_1 [.slice p_7 (l.getD []).length c_7] 30),(0,.snap Sx hpx),(13,.obj lp R2),(7,.marks (m::[]))] w∧ORc C_int Dv_3 rv_1.1.1 p_9 c_9∧MRepI (C_osl C_int) false Dv_3 rv_1.2 es_2.toList) (hS.weak (ms:=[(8,.cells b [iv atv] 3),(9,.cells b_1 [.slice p_7 (l.getD []).length c_7] 30),(0,.snap Sx hpx),(13,.obj lp R2),(7,.marks (m::[]))]) (AL rfl)).drew (fun _ _ _ _ h=>h) ?_ ?_
  ·replace hS:=hS.drew
   have hle0:=hS.le
   refine stepV (i:=0) rfl hF (fun w hS=>Y.load1H sz_141 hF rfl (hS.stab _ _ hbv_3) rfl) rfl fun a hF=>stepV (i:=1) rfl hF (fun w hS=>Y.load1L 8 sz_3 hF rfl hS rfl rfl) rfl fun a hF=>stepV (i:=2) rfl hF (fun w hS=>Y.fieldAddr fo_118_0 hF rfl) rfl fun a hF=>stepV (i:=3) rfl hF (fun w hS=>Y.fieldAddr fo_70_1 hF rfl) rfl fun a hF=>stepV (i:=4) rfl hF (fun w hS=>Y.load1H sz_68 hF rfl (hS.stab _ _ hbv_1) rfl) rfl fun a hF=>stepV (i:=5) rfl hF (fun w hS=>Y.move hF rfl) rfl fun a hF=>?_
   obtain ⟨b_3,o_1,hE_1,hY_2⟩:=Y.indexS (P:=Tryz.prog) (C:=C_VoicePiece) (xs:=cv_1.VoiceBook.Pieces) (T:=68) (x:=(.tmp 35)) (y:=(.tmp 36)) u_68 sz_67 hF rfl rfl (hs_1).1 hx_1
   obtain ⟨cc_2,hc_2,hcell_1⟩:=hE_1.open
   obtain ⟨p_10,c_10,rfl,hs_10⟩:=C_VoicePiece.open hc_2
   refine stepV (i:=6) rfl hF (fun w hS=>hY_2) rfl fun a hF=>stepV (i:=7) rfl hF (fun w hS=>Y.fieldAddr fo_67_0 hF rfl) rfl fun a hF=>stepV (i:=8) rfl hF (fun w hS=>Y.load1 sz_30 hF rfl (hcell_1 _ hS.stab 0 _ rfl)) rfl fun a hF=>stepV (i:=9) rfl hF (fun w hS=>Y.lenSl u_30 hF rfl) rfl fun a hF=>stepV (i:=10) rfl hF (fun w hS=>Y.add hF rfl rfl) rfl fun a hF=>oneV (i:=11) rfl ?_ trivial
   refine O.callVM (f:=63) (first:=[]) (cap:=[.pointer (some ⟨bb,0,none⟩),.pointer (some ⟨bb_2,0,none⟩),.pointer (some ⟨bb_3,0,none⟩),.pointer (some ⟨bb_4,0,none⟩),.pointer (some ⟨bb_5,0,none⟩)]) (us:=[iv (wr (atv + (e.Words.length:Int)))]) ca_63 hF rfl rfl (hself (wr (atv + (e.Words.length:Int))) mp cv_1 cv_2 (voice_order.mk cv_3.better) hm_2 hs hs_1 hn hs_2 hf hbv hbv_1 hbv_2 hbv_3 hbv_4 hG (hS.lend1 (i:=1) rfl) rv_1 hx_2) rfl fun v_2 Dv_4 a w hR_2 hlev_3 hF=>?_
   replace hbv:=hlev_3 _ _ hbv
   replace hbv_1:=hlev_3 _ _ hbv_1
   replace hbv_2:=hlev_3 _ _ hbv_2
   replace hbv_3:=hlev_3 _ _ hbv_3
   replace hbv_4:=hlev_3 _ _ hbv_4
   replace hbv_6:=hlev_3 _ _ hbv_6
   replace hbv_7:=hlev_3 _ _ hbv_7
   replace hbv_8:=hlev_3 _ _ hbv_8
   obtain ⟨es_3,clk_3,p_11,c_11,hS2_1,rfl,hm_4,hs_11⟩:=hR_2
   replace hS:=hS.back1 (i:=1) rfl hS2_1
   refine nT ⟨(hS.weak (ms:=[(8,.cells b [iv atv] 3),(9,.cells b_1 [.slice p_7 (l.getD []).length c_7] 30),(0,.snap Sx hpx),(13,.obj lp R2),(7,.marks (m::[]))]) (AL rfl)).weakD hlev_3 hle0,?_⟩
   refine stepV (i:=12) rfl hF (fun w hS=>Y.move hF rfl) rfl fun a hF=>stepV (i:=13) rfl hF (fun w hS=>Y.extract hF rfl rfl) rfl fun a hF=>stepV (i:=14) rfl hF (fun w hS=>Y.extract hF rfl rfl) rfl fun a hF=>stepV (i:=15) rfl hF (fun w hS=>Y.assign hF rfl) rfl fun a hF=>toTailV ⟨Dv_4,p_11,c_11,es_3,clk_3,hlev_3,hF.weak (AF rfl),hS.weak (AL rfl),hs_11,hm_4⟩
  rintro a w ⟨Dv_3,p_9,c_9,es_2,clk_2,hle,hF,hS,hj,hj_1⟩
  have hlev_4:=hle
  replace hbv:=hlev_4 _ _ hbv
  replace hbv_1:=hlev_4 _ _ hbv_1
  replace hbv_2:=hlev_4 _ _ hbv_2
  replace hbv_3:=hlev_4 _ _ hbv_3
  replace hbv_4:=hlev_4 _ _ hbv_4
  replace hbv_6:=hlev_4 _ _ hbv_6
  replace hbv_7:=hlev_4 _ _ hbv_7
  replace hbv_8:=hlev_4 _ _ hbv_8
  replace hs_7:=hs_7.mono hlev_4
  refine step hF (Y.assign hF rfl) rfl fun a hF=>nT (seq (region (step hF (Y.move hF rfl) rfl fun a hF=>nT (cond_b hF rfl (fun hbv_9=>?_) (fun hbv_9=>?_)))))
  ·replace h:=cond_t h hbv_9
   refine seq (region (step hF (Y.move hF rfl) rfl fun a hF=>?_))
   have hr:Reps C_int Dv_3 [xy] [iv xy]:=Reps.cons (C:=C_int) (x:=xy) (c:=[iv xy]) (r:=[]) rfl (Reps.nil)
   refine O.buildSlice (E:=3) (C:=C_int) (xs:=[xy]) (cs:=[iv xy]) (us:=[iv xy]) (parts:=[(0,(.tmp 46))]) 14 hF hS rfl (by kernel_rfl) hr rfl rfl rfl fun p_12 c_12 a w hF hS=>step hF (Y.move hF rfl) rfl fun a hF=>?_
   obtain ⟨hg,h⟩:=ite_some h
   obtain ⟨ds,hds,hsrc⟩:=src_stab (C:=C_int) (xs:=(rv_1.1.1.getD [])) ((ORc.sl hj)).1 hS.stab
   refine O.append (C:=C_int) (xs:=[xy]) (ys:=(rv_1.1.1.getD [])) 14 gr_30 hF rfl rfl hS rfl hsrc hr hds hg rfl fun p_13 c_13 a w hF hS hr_1=>step hF (Y.assign hF rfl) rfl fun a hF=>nT (seq (region (step hF (Y.load1L 9 sz_30 hF rfl hS rfl rfl) rfl fun a hF=>step hF (Y.eqO u_30 hs_7 hF rfl) rfl fun a hF=>step hF (Y.move hF rfl) rfl fun a hF=>?_)))
   obtain ⟨Dv_5,hlev_5,hs_12,hS⟩:=hS.freezeC (C:=C_int) (i:=14) (xs:=([xy] ++ (rv_1.1.1.getD []))) rfl hr_1
   replace hbv:=hlev_5 _ _ hbv
   replace hbv_1:=hlev_5 _ _ hbv_1
   replace hbv_2:=hlev_5 _ _ hbv_2
   replace hbv_3:=hlev_5 _ _ hbv_3
   replace hbv_4:=hlev_5 _ _ hbv_4
   replace hbv_6:=hlev_5 _ _ hbv_6
   replace hbv_7:=hlev_5 _ _ hbv_7
   replace hbv_8:=hlev_5 _ _ hbv_8
   replace hs_7:=hs_7.mono hlev_5
   replace hj_1:=hj_1.mono hlev_5
   obtain ⟨t,ht,h⟩:=bind_some h
   refine join (N:=66) (rs:=[]) (w0:=wb) (D0:=Db) 6 (us:=[(7,.slice none 0 0),(8,.bool false),(11,.pointer (some ⟨b_1,0,none⟩)),(13,.slice p_13 ([xy] ++ (rv_1.1.1.getD [])).length c_13),(58,.bool t)]) (ms:=[(1,.obj bb_1 (.map es_2 clk_2)),(8,.cells b [iv atv] 3),(9,.cells b_1 [.slice p_7 (l.getD []).length c_7] 30),(0,.snap Sx hpx),(13,.obj lp R2),(7,.marks (m::[]))]) (D':=Dv_5) ?_ ?_
   ·rcases bcases l.isNone with hbv_10 | hbv_10
    ·skip
     replace h:=cond_t ht hbv_10
     refine guard_off hF rfl rfl hbv_10 rfl fun a hF=>guard_off hF rfl rfl hbv_10 rfl fun a hF=>guard_off hF rfl rfl hbv_10 rfl fun a hF=>guard_off hF rfl rfl hbv_10 rfl fun a hF=>guard_off hF rfl rfl hbv_10 rfl fun a hF=>step hF (Y.pick_t hF rfl hbv_10 rfl) rfl fun a hF=>?_
     obtain rfl:=some_inj h
     exact nT ⟨hF.weak (AF rfl),hS.weak (AL rfl)⟩
    replace h:=cond_f ht hbv_10
    refine guard_on hF rfl rfl hbv_10 (step hF (Y.fieldAddr fo_138_0 hF rfl) rfl fun a hF=>guard_on hF rfl rfl hbv_10 (step hF (Y.load1H sz_82 hF rfl (hS.stab _ _ hbv_4) rfl) rfl fun a hF=>guard_on hF rfl rfl hbv_10 (step hF (Y.move hF rfl) rfl fun a hF=>guard_on hF rfl rfl hbv_10 (step hF (Y.load1L 9 sz_30 hF rfl hS rfl rfl) rfl fun a hF=>guard_on hF rfl rfl hbv_10 ?_))))
    obtain ⟨rv_2,hx_3,h⟩:=bind_some h
    refine O.callVP (f:=fid) (first:=first) (cap:=cap) (us:=[.slice p_13 ([xy] ++ (rv_1.1.1.getD [])).length c_13,.slice p_7 (l.getD []).length c_7]) hf.1 hF hS rfl rfl (hf.2 _ _ hS.below hS.le hS.stab ([xy] ++ (rv_1.1.1.getD [])) (l.getD []) p_13 c_13 p_7 c_7 hs_12 (ORc.sl hs_7) rv_2 hx_3) rfl fun a w hF hS=>step hF (Y.pick_f hF rfl hbv_10 rfl) rfl fun a hF=>?_
    obtain rfl:=some_inj h
    exact nT ⟨hF.weak (AF rfl),hS.weak (AL rfl)⟩
   intro a w hF hS
   refine nT (cond_b hF rfl (fun hbv_11=>?_) (fun hbv_11=>?_))
   ·replace h:=cond_t h hbv_11
    refine region (step hF (Y.move hF rfl) rfl fun a hF=>O.store (us:=[.slice p_13 ((some ([xy] ++ (rv_1.1.1.getD []))).getD []).length c_13]) 9 sz_30 hF rfl rfl rfl rfl hS rfl rfl fun a w hF hS=>nil (blk_n (then_n ?_)))
    obtain rfl:=some_inj h
    refine ⟨_,_,hS,rfl,fun w hS=>⟨Dv_5,_,hlev_4.trans hlev_5,⟨rv_1.2,(some ([xy] ++ (rv_1.1.1.getD []))),es_2,clk_2,p_13,c_13,rfl,rfl,hj_1,(ORc.of hs_12 (by simp))⟩,hS.weak (AL rfl)⟩⟩
   replace h:=cond_f h hbv_11
   refine skip_ (blk_n (then_n ?_))
   obtain rfl:=some_inj h
   refine ⟨_,_,hS,rfl,fun w hS=>⟨Dv_5,_,hlev_4.trans hlev_5,⟨rv_1.2,l,es_2,clk_2,p_7,c_7,rfl,rfl,hj_1,hs_7⟩,hS.weak (AL rfl)⟩⟩
  replace h:=cond_f h hbv_9
  refine skip_ (blk_n (then_n ?_))
  obtain rfl:=some_inj h
  refine ⟨_,_,hS,rfl,fun w hS=>⟨Dv_3,_,hlev_4,⟨rv_1.2,l,es_2,clk_2,p_7,c_7,rfl,rfl,hj_1,hs_7⟩,hS.weak (AL rfl)⟩⟩
 obtain ⟨Dv_1,ms,hlev_6,⟨so,so_1,es_1,clk_1,p_7,c_7,hso,rfl,hm_2,hs_7⟩,hS⟩:=hK
 obtain ⟨rfl,rfl⟩:=hso
 refine ⟨Dv_1,_,hS,rfl,fun a w hF hS=>?_⟩
 replace hbv:=hlev_6 _ _ hbv
 replace hbv_1:=hlev_6 _ _ hbv_1
 replace hbv_2:=hlev_6 _ _ hbv_2
 replace hbv_3:=hlev_6 _ _ hbv_3
 replace hbv_4:=hlev_6 _ _ hbv_4
 replace hbv_6:=hlev_6 _ _ hbv_6
 replace hbv_7:=hlev_6 _ _ hbv_7
 replace hbv_8:=hlev_6 _ _ hbv_8
 refine blk_n (then_n (seq (region (step hF (Y.load1H sz_140 hF rfl (hS.stab _ _ hbv) rfl) rfl fun a hF=>step hF (Y.load1L 8 sz_3 hF rfl hS rfl rfl) rfl fun a hF=>step hF (Y.load1L 9 sz_30 hF rfl hS rfl rfl) rfl fun a hF=>map_putI (C:=(C_osl C_int)) (agg:=false) (x:=(.tmp 60)) (y:=(.tmp 61)) (u:=(.tmp 62)) (v0:=so_1) (cs:=[.slice p_7 (so_1.getD []).length c_7]) (.inl rfl) 1 mt_140 atv hm_2 ⟨_,_,rfl,hs_7⟩ hF rfl rfl rfl hS rfl fun es_4 clk_4 a w hF hS hm_5=>nT (seq (draws 5 [(0,true),(1,true),(2,true),(3,true),(4,true)] mixed_ (by kernel_rfl) (fun w=>St wb Db Dv_1 _ w) hS.drew (fun _ _ _ _ h=>h) ?_))))))
 replace hS:=hS.drew
 refine stepT (i:=0) rfl hF (fun w hS=>Y.load1L 9 sz_30 hF rfl hS rfl rfl) rfl fun a hF=>stepT (i:=1) rfl hF (fun w hS=>Y.load1L 9 sz_30 hF rfl hS rfl rfl) rfl fun a hF=>stepT (i:=2) rfl hF (fun w hS=>Y.neO u_30 hs_7 hF rfl) rfl fun a hF=>stepT (i:=3) rfl hF (fun w hS=>Y.assign hF rfl) rfl fun a hF=>stepT (i:=4) rfl hF (fun w hS=>Y.assign hF rfl) rfl fun a hF=>toTail (nT (ret_ ?_))
 obtain rfl:=some_inj h
 exact leaveM (ms:=[(1,.obj bb_1 (.map es_4 clk_4)),(0,.snap Sx hpx)]) Tryz.results63 hF hS (.cons (.tmp rfl) (.cons (.tmp rfl) .nil)) (.inr ⟨7,rfl,rfl⟩) ⟨rfl,rfl,trivial⟩ (hlev.trans hlev_6) fun w hS=>⟨_,_,_,_,hS,rfl,hm_5,hs_7⟩
noncomputable def voice_book_say_1_n:Nat→Int→(List (Int × Option (List Int)))→voice_book→(List Int)→voice_order→Option (((Option (List Int)) × Bool) × (List (Int × Option (List Int))))
 | 0=>fun _ _ _ _ _=>none
 | n + 1=>voice_book_say_1_step (voice_book_say_1_n n)
theorem voice_book_say_1_n_ok:∀ n,∀ {wb w0:World} {Db D0:Stab} {Sx:List Nat} {hpx:Nat→Option Obj} (atv:Int) (cv:(List (Int × Option (List Int)))) (cv_1:voice_book) (cv_2:(List Int)) (cv_3:voice_order) {bb_1:Nat} {es:Array MapEntry} {clk:Nat} {bb:Nat} {p:Option Addr} {c:Nat} {p_1:Option Addr} {c_1:Nat} {bb_2:Nat} {p_2:Option Addr} {c_2:Nat} {bb_3:Nat} {bb_4:Nat} {fid:FuncId} {first:List Value} {cap:List Value} {bb_5:Nat} (hm_1:MRepI (C_osl C_int) false D0 cv es.toList) (hs:SRc C_int D0 cv_1.VoiceBook.Discs p c) (hs_1:SRc C_VoicePiece D0 cv_1.VoiceBook.Pieces p_1 c_1) (hn:cv_1.can.length=10) (hs_2:SRc C_int D0 cv_2 p_2 c_2) (hf:FnOk_82 wb Db fid first cap cv_3.better) (hbv:D0 bb=some (.cells ([.map (some bb_1)]).toArray 140 (0,0))) (hbv_1:D0 bb_2=some (.cells ([.slice p cv_1.VoiceBook.Discs.length c,.slice p_1 cv_1.VoiceBook.Pieces.length c_1,iv cv_1.VoiceBook.Pause.Low,iv cv_1.VoiceBook.Pause.High,iv cv_1.VoiceBook.Rest.Low,iv cv_1.VoiceBook.Rest.High,.bool (cv_1.can.getD 0 false),.bool (cv_1.can.getD 1 false),.bool (cv_1.can.getD 2 false),.bool (cv_1.can.getD 3 false),.bool (cv_1.can.getD 4 false),.bool (cv_1.can.getD 5 false),.bool (cv_1.can.getD 6 false),.bool (cv_1.can.getD 7 false),.bool (cv_1.can.getD 8 false),.bool (cv_1.can.getD 9 false)]).toArray 118 (0,0))) (hbv_2:D0 bb_3=some (.cells ([.slice p_2 cv_2.length c_2]).toArray 30 (0,0))) (hbv_3:D0 bb_4=some (.cells ([.func (.func 63) #[] #[.pointer (some ⟨bb,0,none⟩),.pointer (some ⟨bb_2,0,none⟩),.pointer (some ⟨bb_3,0,none⟩),.pointer (some ⟨bb_4,0,none⟩),.pointer (some ⟨bb_5,0,none⟩)]]).toArray 141 (0,0))) (hbv_4:D0 bb_5=some (.cells ([.func (.func fid) first.toArray cap.toArray]).toArray 138 (0,0))) (hG:Glob D0) (hS0:St wb Db D0 [(1,.obj bb_1 (.map es clk)),(0,.snap Sx hpx)] w0) (out:(((Option (List Int)) × Bool) × (List (Int × Option (List Int))))) (h:voice_book_say_1_n n atv cv cv_1 cv_2 cv_3=some out),Calls Tryz.prog 63 [iv atv,.pointer (some ⟨bb,0,none⟩),.pointer (some ⟨bb_2,0,none⟩),.pointer (some ⟨bb_3,0,none⟩),.pointer (some ⟨bb_4,0,none⟩),.pointer (some ⟨bb_5,0,none⟩)].toArray w0 (RetM D0 fun D w v=>∃ (es1:Array MapEntry) (ck1:Nat) (p_14:Option Addr) (c_14:Nat),St wb Db D [(1,.obj bb_1 (.map es1 ck1)),(0,.snap Sx hpx)] w∧v=.tuple #[.slice p_14 (out.1.1.getD []).length c_14,.bool out.1.2]∧MRepI (C_osl C_int) false D out.2 es1.toList∧ORc C_int D out.1.1 p_14 c_14)
 | 0=>by intros;rename_i h;simp only [voice_book_say_1_n] at h;cases h
 | n + 1=>voice_book_say_1_step_ok (voice_book_say_1_n n) (voice_book_say_1_n_ok n)
noncomputable def voice_book_say_1 (atv:Int) (cv:(List (Int × Option (List Int)))) (cv_1:voice_book) (cv_2:(List Int)) (cv_3:voice_order):Option (((Option (List Int)) × Bool) × (List (Int × Option (List Int)))):=limU fun n=>voice_book_say_1_n n atv cv cv_1 cv_2 cv_3
theorem voice_book_say_1_ok {wb w0:World} {Db D0:Stab} {Sx:List Nat} {hpx:Nat→Option Obj} (atv:Int) (cv:(List (Int × Option (List Int)))) (cv_1:voice_book) (cv_2:(List Int)) (cv_3:voice_order) {bb_1:Nat} {es:Array MapEntry} {clk:Nat} {bb:Nat} {p:Option Addr} {c:Nat} {p_1:Option Addr} {c_1:Nat} {bb_2:Nat} {p_2:Option Addr} {c_2:Nat} {bb_3:Nat} {bb_4:Nat} {fid:FuncId} {first:List Value} {cap:List Value} {bb_5:Nat} (hm_1:MRepI (C_osl C_int) false D0 cv es.toList) (hs:SRc C_int D0 cv_1.VoiceBook.Discs p c) (hs_1:SRc C_VoicePiece D0 cv_1.VoiceBook.Pieces p_1 c_1) (hn:cv_1.can.length=10) (hs_2:SRc C_int D0 cv_2 p_2 c_2) (hf:FnOk_82 wb Db fid first cap cv_3.better) (hbv:D0 bb=some (.cells ([.map (some bb_1)]).toArray 140 (0,0))) (hbv_1:D0 bb_2=some (.cells ([.slice p cv_1.VoiceBook.Discs.length c,.slice p_1 cv_1.VoiceBook.Pieces.length c_1,iv cv_1.VoiceBook.Pause.Low,iv cv_1.VoiceBook.Pause.High,iv cv_1.VoiceBook.Rest.Low,iv cv_1.VoiceBook.Rest.High,.bool (cv_1.can.getD 0 false),.bool (cv_1.can.getD 1 false),.bool (cv_1.can.getD 2 false),.bool (cv_1.can.getD 3 false),.bool (cv_1.can.getD 4 false),.bool (cv_1.can.getD 5 false),.bool (cv_1.can.getD 6 false),.bool (cv_1.can.getD 7 false),.bool (cv_1.can.getD 8 false),.bool (cv_1.can.getD 9 false)]).toArray 118 (0,0))) (hbv_2:D0 bb_3=some (.cells ([.slice p_2 cv_2.length c_2]).toArray 30 (0,0))) (hbv_3:D0 bb_4=some (.cells ([.func (.func 63) #[] #[.pointer (some ⟨bb,0,none⟩),.pointer (some ⟨bb_2,0,none⟩),.pointer (some ⟨bb_3,0,none⟩),.pointer (some ⟨bb_4,0,none⟩),.pointer (some ⟨bb_5,0,none⟩)]]).toArray 141 (0,0))) (hbv_4:D0 bb_5=some (.cells ([.func (.func fid) first.toArray cap.toArray]).toArray 138 (0,0))) (hG:Glob D0) (hS0:St wb Db D0 [(1,.obj bb_1 (.map es clk)),(0,.snap Sx hpx)] w0) (out:(((Option (List Int)) × Bool) × (List (Int × Option (List Int))))) (h:voice_book_say_1 atv cv cv_1 cv_2 cv_3=some out):Calls Tryz.prog 63 [iv atv,.pointer (some ⟨bb,0,none⟩),.pointer (some ⟨bb_2,0,none⟩),.pointer (some ⟨bb_3,0,none⟩),.pointer (some ⟨bb_4,0,none⟩),.pointer (some ⟨bb_5,0,none⟩)].toArray w0 (RetM D0 fun D w v=>∃ (es1:Array MapEntry) (ck1:Nat) (p_14:Option Addr) (c_14:Nat),St wb Db D [(1,.obj bb_1 (.map es1 ck1)),(0,.snap Sx hpx)] w∧v=.tuple #[.slice p_14 (out.1.1.getD []).length c_14,.bool out.1.2]∧MRepI (C_osl C_int) false D out.2 es1.toList∧ORc C_int D out.1.1 p_14 c_14):=by
 obtain ⟨n,hfu_⟩:=limU_some h
 exact voice_book_say_1_n_ok n atv cv cv_1 cv_2 cv_3 hm_1 hs hs_1 hn hs_2 hf hbv hbv_1 hbv_2 hbv_3 hbv_4 hG hS0 out hfu_
noncomputable def voice_book_say (b:voice_book) (text:(List Int)):Option ((Option (List Int)) × Bool):=
  (voice_fewest).bind fun rv=>
  (voice_book_say_1 0 (mput kI ([]:(List (Int × Option (List Int)))) (text.length:Int) (some ([]:List Int))) b text (voice_order.mk (fun q_z q_z_1=>voice_fewest_1 q_z q_z_1))).bind fun rv_1=>
  some (rv_1.1.1,rv_1.1.2)
theorem voice_book_say_ok {w0:World} {D0:Stab} (hD:D0.on w0) (b:voice_book) (text:(List Int)) {p:Option Addr} {c:Nat} {p_1:Option Addr} {c_1:Nat} {p_2:Option Addr} {c_2:Nat} (hs:SRc C_int D0 b.VoiceBook.Discs p c) (hs_1:SRc C_VoicePiece D0 b.VoiceBook.Pieces p_1 c_1) (hn:b.can.length=10) (hs_2:SRc C_int D0 text p_2 c_2) (hG:Glob D0) (out:((Option (List Int)) × Bool)) (h:voice_book_say b text=some out):Calls Tryz.prog 46 [.agg #[.slice p b.VoiceBook.Discs.length c,.slice p_1 b.VoiceBook.Pieces.length c_1,iv b.VoiceBook.Pause.Low,iv b.VoiceBook.Pause.High,iv b.VoiceBook.Rest.Low,iv b.VoiceBook.Rest.High,.bool (b.can.getD 0 false),.bool (b.can.getD 1 false),.bool (b.can.getD 2 false),.bool (b.can.getD 3 false),.bool (b.can.getD 4 false),.bool (b.can.getD 5 false),.bool (b.can.getD 6 false),.bool (b.can.getD 7 false),.bool (b.can.getD 8 false),.bool (b.can.getD 9 false)],.slice p_2 text.length c_2].toArray w0 (RetS D0 w0 fun D v=>∃ p_4 c_4,v=.tuple #[.slice p_4 (out.1.getD []).length c_4,.bool out.2]∧ORc C_int D out.1 p_4 c_4):=by
 refine enter _ 20 Tryz.func46 rfl Tryz.ntmps46 rfl fun a hF=>?_
 replace hF:Frm 20 [] [(0,.agg #[.slice p b.VoiceBook.Discs.length c,.slice p_1 b.VoiceBook.Pieces.length c_1,iv b.VoiceBook.Pause.Low,iv b.VoiceBook.Pause.High,iv b.VoiceBook.Rest.Low,iv b.VoiceBook.Rest.High,.bool (b.can.getD 0 false),.bool (b.can.getD 1 false),.bool (b.can.getD 2 false),.bool (b.can.getD 3 false),.bool (b.can.getD 4 false),.bool (b.can.getD 5 false),.bool (b.can.getD 6 false),.bool (b.can.getD 7 false),.bool (b.can.getD 8 false),.bool (b.can.getD 9 false)]),(1,.slice p_2 text.length c_2)] a:=hF
 have hS:=St.start hD
 unfold voice_book_say at h
 refine seq (region (O.box (cs:=[.slice p b.VoiceBook.Discs.length c,.slice p_1 b.VoiceBook.Pieces.length c_1,iv b.VoiceBook.Pause.Low,iv b.VoiceBook.Pause.High,iv b.VoiceBook.Rest.Low,iv b.VoiceBook.Rest.High,.bool (b.can.getD 0 false),.bool (b.can.getD 1 false),.bool (b.can.getD 2 false),.bool (b.can.getD 3 false),.bool (b.can.getD 4 false),.bool (b.can.getD 5 false),.bool (b.can.getD 6 false),.bool (b.can.getD 7 false),.bool (b.can.getD 8 false),.bool (b.can.getD 9 false)]) 1 hF rfl rfl hS rfl fun b_1 a w hF hS=>O.box (cs:=[.slice p_2 text.length c_2]) 2 hF rfl rfl hS rfl fun b_2 a w hF hS=>step hF (Y.assign hF rfl) rfl fun a hF=>step hF (Y.assign hF rfl) rfl fun a hF=>nT (seq (region ?_))))
 obtain ⟨rv,hx,h⟩:=bind_some h
 refine O.callP (us:=[]) ca_62 hF hS (voice_fewest_ok hS.stab rv hx) rfl rfl fun a w hF hS=>O.alloc 3 zc_138 hF hS rfl fun b_3 a w hF hS=>O.store (us:=[.func (.func 76) #[] #[]]) 3 sz_138 hF rfl rfl rfl rfl hS rfl rfl fun a w hF hS=>nT (seq (region (O.makeMap 4 hF hS rfl fun b_4 a w hF hS=>?_)))
 have hm:MRepI (C_osl C_int) false D0 ([]:(List (Int × Option (List Int)))) (#[]:Array MapEntry).toList:=rfl
 refine step hF (Y.load1L 2 sz_30 hF rfl hS rfl rfl) rfl fun a hF=>step hF (Y.lenSl u_30 hF rfl) rfl fun a hF=>O.buildLit (E:=3) (cs:=[]) (us:=[]) (parts:=[]) 5 hF hS rfl (by kernel_rfl) rfl fun b_5 a w hF hS=>?_
 obtain ⟨Dv,hlev,hbv,hS⟩:=hS.freezeB (i:=5) rfl
 replace hs:=hs.mono hlev
 replace hs_1:=hs_1.mono hlev
 replace hs_2:=hs_2.mono hlev
 replace hG:=hG.mono hlev
 replace hm:=hm.mono hlev
 have hs_3:SRc C_int Dv ([]:List Int) (some ⟨b_5,0,none⟩) 0:=SRc.ofCells hbv Reps.nil (Nat.le_refl 0)
 refine map_putI (C:=(C_osl C_int)) (agg:=false) (x:=(.tmp 10)) (y:=(.tmp 12)) (u:=(.tmp 13)) (v0:=(some ([]:List Int))) (cs:=[.slice (some ⟨b_5,0,none⟩) ((some ([]:List Int)).getD []).length 0]) (.inr rfl) 4 mt_140 (text.length:Int) hm ⟨_,_,rfl,(ORc.at_ hs_3)⟩ hF rfl rfl rfl hS rfl fun es clk a w hF hS hm_1=>step hF (Y.move hF rfl) rfl fun a hF=>O.alloc 6 zc_140 hF hS rfl fun b_6 a w hF hS=>O.store (us:=[.map (some b_4)]) 6 sz_140 hF rfl rfl rfl rfl hS rfl rfl fun a w hF hS=>nT (seq (region (O.alloc 7 zc_141 hF hS rfl fun b_7 a w hF hS=>nT (seq (region (step hF (Y.makeFunc (first:=[]) (cap:=[(.tmp 7),(.tmp 2),(.tmp 3),(.tmp 8),(.tmp 6)]) (fs:=[]) (cs:=[.pointer (some ⟨b_6,0,none⟩),.pointer (some ⟨b_1,0,none⟩),.pointer (some ⟨b_2,0,none⟩),.pointer (some ⟨b_7,0,none⟩),.pointer (some ⟨b_3,0,none⟩)]) hF rfl rfl) rfl fun a hF=>O.store (us:=[.func (.func 63) #[] #[.pointer (some ⟨b_6,0,none⟩),.pointer (some ⟨b_1,0,none⟩),.pointer (some ⟨b_2,0,none⟩),.pointer (some ⟨b_7,0,none⟩),.pointer (some ⟨b_3,0,none⟩)]]) 7 sz_141 hF rfl rfl rfl rfl hS rfl rfl fun a w hF hS=>nT (seq (region (step hF (Y.load1L 7 sz_141 hF rfl hS rfl rfl) rfl fun a hF=>?_)))))))))
 obtain ⟨Dv_1,hlev_1,hbx,hS⟩:=hS.freezeB (i:=6) rfl
 replace hs:=hs.mono hlev_1
 replace hs_1:=hs_1.mono hlev_1
 replace hs_2:=hs_2.mono hlev_1
 replace hG:=hG.mono hlev_1
 replace hm_1:=hm_1.mono hlev_1
 obtain ⟨Dv_2,hlev_2,hbx_1,hS⟩:=hS.freezeB (i:=1) rfl
 replace hs:=hs.mono hlev_2
 replace hs_1:=hs_1.mono hlev_2
 replace hs_2:=hs_2.mono hlev_2
 replace hG:=hG.mono hlev_2
 replace hm_1:=hm_1.mono hlev_2
 replace hbx:=hlev_2 _ _ hbx
 obtain ⟨Dv_3,hlev_3,hbx_2,hS⟩:=hS.freezeB (i:=2) rfl
 replace hs:=hs.mono hlev_3
 replace hs_1:=hs_1.mono hlev_3
 replace hs_2:=hs_2.mono hlev_3
 replace hG:=hG.mono hlev_3
 replace hm_1:=hm_1.mono hlev_3
 replace hbx:=hlev_3 _ _ hbx
 replace hbx_1:=hlev_3 _ _ hbx_1
 obtain ⟨Dv_4,hlev_4,hbx_3,hS⟩:=hS.freezeB (i:=7) rfl
 replace hs:=hs.mono hlev_4
 replace hs_1:=hs_1.mono hlev_4
 replace hs_2:=hs_2.mono hlev_4
 replace hG:=hG.mono hlev_4
 replace hm_1:=hm_1.mono hlev_4
 replace hbx:=hlev_4 _ _ hbx
 replace hbx_1:=hlev_4 _ _ hbx_1
 replace hbx_2:=hlev_4 _ _ hbx_2
 obtain ⟨Dv_5,hlev_5,hbx_4,hS⟩:=hS.freezeB (i:=3) rfl
 replace hs:=hs.mono hlev_5
 replace hs_1:=hs_1.mono hlev_5
 replace hs_2:=hs_2.mono hlev_5
 replace hG:=hG.mono hlev_5
 replace hm_1:=hm_1.mono hlev_5
 replace hbx:=hlev_5 _ _ hbx
 replace hbx_1:=hlev_5 _ _ hbx_1
 replace hbx_2:=hlev_5 _ _ hbx_2
 replace hbx_3:=hlev_5 _ _ hbx_3
 obtain ⟨rv_1,hx_1,h⟩:=bind_some h
 refine O.callVM (f:=63) (first:=[]) (cap:=[.pointer (some ⟨b_6,0,none⟩),.pointer (some ⟨b_1,0,none⟩),.pointer (some ⟨b_2,0,none⟩),.pointer (some ⟨b_7,0,none⟩),.pointer (some ⟨b_3,0,none⟩)]) (us:=[iv 0]) ca_63 hF rfl rfl (voice_book_say_1_ok 0 (mput kI ([]:(List (Int × Option (List Int)))) (text.length:Int) (some ([]:List Int))) b text (voice_order.mk (fun q_z q_z_1=>voice_fewest_1 q_z q_z_1)) hm_1 hs hs_1 hn hs_2 (show FnOk_82 _ _ 76 [] [] (fun q_z q_z_1=>voice_fewest_1 q_z q_z_1) from ⟨ca_76,fun w D hb hle hon q_z q_z_1 q_p q_c q_p_1 q_c_1 q_hs q_hs_1 r h=>voice_fewest_1_ok hon q_z q_z_1 q_hs q_hs_1 r h⟩) hbx hbx_1 hbx_2 hbx_3 hbx_4 hG (hS.lend1 (i:=4) rfl) rv_1 hx_1) rfl fun v Dv_6 a w hR hlev_6 hF=>?_
 replace hbx:=hlev_6 _ _ hbx
 replace hbx_1:=hlev_6 _ _ hbx_1
 replace hbx_2:=hlev_6 _ _ hbx_2
 replace hbx_3:=hlev_6 _ _ hbx_3
 replace hbx_4:=hlev_6 _ _ hbx_4
 obtain ⟨es_1,clk_1,p_3,c_3,hS2_0,rfl,hm_2,hs_4⟩:=hR
 replace hS:=hS.back1 (i:=4) rfl hS2_0
 refine step hF (Y.extract hF rfl rfl) rfl fun a hF=>step hF (Y.extract hF rfl rfl) rfl fun a hF=>step hF (Y.assign hF rfl) rfl fun a hF=>step hF (Y.assign hF rfl) rfl fun a hF=>nT (ret_ ?_)
 obtain rfl:=some_inj h
 exact leaveS Tryz.results46 hF hS (.cons (.tmp rfl) (.cons (.tmp rfl) .nil)) .nil ⟨_,_,rfl,hs_4⟩
noncomputable def voice_Fewest (b:VoiceBook) (text:(List Int)):Option ((List Int) × Int):=
  (voice_Check b).bind fun rv=>
  cond (rv != 0)
  (some (([]:List Int),50))
  ((voice_areWords text 8).bind fun rv_1=>
  cond (!rv_1)
  (some (([]:List Int),51))
  ((voice_all b).bind fun rv_2=>
  (voice_opened b rv_2).bind fun rv_3=>
  (voice_book_say rv_3 text).bind fun rv_4=>
  cond (!rv_4.2)
  (some (([]:List Int),4))
  (some ((rv_4.1.getD []),0))))
theorem voice_Fewest_ok {w0:World} {D0:Stab} (hD:D0.on w0) (b:VoiceBook) (text:(List Int)) {p:Option Addr} {c:Nat} {p_1:Option Addr} {c_1:Nat} {p_2:Option Addr} {c_2:Nat} (hs:SRc C_int D0 b.Discs p c) (hs_1:SRc C_VoicePiece D0 b.Pieces p_1 c_1) (hs_2:SRc C_int D0 text p_2 c_2) (hG:Glob D0) (out:((List Int) × Int)) (h:voice_Fewest b text=some out):Calls Tryz.prog 23 [.agg #[.slice p b.Discs.length c,.slice p_1 b.Pieces.length c_1,iv b.Pause.Low,iv b.Pause.High,iv b.Rest.Low,iv b.Rest.High],.slice p_2 text.length c_2].toArray w0 (RetS D0 w0 fun D v=>∃ p_11 c_11,v=.tuple #[.slice p_11 out.1.length c_11,iv out.2]∧SRc C_int D out.1 p_11 c_11):=by
 refine enter _ 33 Tryz.func23 rfl Tryz.ntmps23 rfl fun a hF=>?_
 replace hF:Frm 33 [] [(0,.agg #[.slice p b.Discs.length c,.slice p_1 b.Pieces.length c_1,iv b.Pause.Low,iv b.Pause.High,iv b.Rest.Low,iv b.Rest.High]),(1,.slice p_2 text.length c_2)] a:=hF
 have hS:=St.start hD
 unfold voice_Fewest at h
 refine seq (region (O.box (cs:=[.slice p b.Discs.length c,.slice p_1 b.Pieces.length c_1,iv b.Pause.Low,iv b.Pause.High,iv b.Rest.Low,iv b.Rest.High]) 1 hF rfl rfl hS rfl fun b_1 a w hF hS=>step hF (Y.assign hF rfl) rfl fun a hF=>step hF (Y.assign hF rfl) rfl fun a hF=>nT (seq (block (seq (region (step hF (Y.loadNL 1 sz_70 hF rfl hS rfl rfl rfl) rfl fun a hF=>?_)))))))
 obtain ⟨rv,hx,h⟩:=bind_some h
 refine O.callP (us:=[.agg #[.slice p b.Discs.length c,.slice p_1 b.Pieces.length c_1,iv b.Pause.Low,iv b.Pause.High,iv b.Rest.Low,iv b.Rest.High]]) ca_42 hF hS (voice_Check_ok hS.stab b hs hs_1 rv hx) rfl rfl fun a w hF hS=>step hF (Y.neq hF rfl rfl) rfl fun a hF=>step hF (Y.assign hF rfl) rfl fun a hF=>nT (cond_b hF rfl (fun hbv=>?_) (fun hbv=>?_))
 ·replace h:=cond_t h hbv
  refine seq (region (step hF (Y.assign hF rfl) rfl fun a hF=>step hF (Y.assign hF rfl) rfl fun a hF=>nT (ret_ (blk_r (then_r ?_)))))
  obtain rfl:=some_inj h
  exact leaveS Tryz.results23 hF hS (.cons (.tmp rfl) (.cons (.tmp rfl) .nil)) .nil ⟨_,_,rfl,SRc.nil⟩
 replace h:=cond_f h hbv
 refine seq (region (step hF (Y.move hF rfl) rfl fun a hF=>?_))
 obtain ⟨rv_1,hx_1,h⟩:=bind_some h
 refine O.callP (us:=[.slice p_2 text.length c_2,iv 8]) ca_43 hF hS (voice_areWords_ok hS.stab text 8 hs_2 rv_1 hx_1) rfl rfl fun a w hF hS=>step hF (Y.not hF rfl) rfl fun a hF=>step hF (Y.assign hF rfl) rfl fun a hF=>nT (cond_b hF rfl (fun hbv_1=>?_) (fun hbv_1=>?_))
 ·replace h:=cond_t h hbv_1
  refine seq (region (step hF (Y.assign hF rfl) rfl fun a hF=>step hF (Y.assign hF rfl) rfl fun a hF=>nT (ret_ (blk_r (then_r ?_)))))
  obtain rfl:=some_inj h
  exact leaveS Tryz.results23 hF hS (.cons (.tmp rfl) (.cons (.tmp rfl) .nil)) .nil ⟨_,_,rfl,SRc.nil⟩
 replace h:=cond_f h hbv_1
 refine skip_ (blk_n (then_n (seq ?_)))
 obtain ⟨rv_2,hx_2,h⟩:=bind_some h
 obtain ⟨rv_3,hx_3,h⟩:=bind_some h
 obtain ⟨rv_4,hx_4,h⟩:=bind_some h
 refine drawsV 10 (.flt 0 (.flt 1 (.flt 4 (.alt 2 (.alt 3 (.alt 5 (.flt 6 (.flt 7 (.flt 8 (.flt 9 .done)))) .stop) .stop) .stop)))) mixed_ (by kernel_rfl) (fun w=>St w0 D0 D0 [(1,.cells b_1 [.slice p b.Discs.length c,.slice p_1 b.Pieces.length c_1,iv b.Pause.Low,iv b.Pause.High,iv b.Rest.Low,iv b.Rest.High] 70)] w) (fun a w=>∃ (Dv_3:Stab) (p_6:Option Addr) (c_6:Nat),D0.le Dv_3∧Frm 33 [] [(4,.slice none 0 0),(5,iv 0),(6,.slice p_6 (rv_4.1.getD []).length c_6),(24,.bool rv_4.2)] a∧St w0 D0 Dv_3 [(1,.cells b_1 [.slice p b.Discs.length c,.slice p_1 b.Pieces.length c_1,iv b.Pause.Low,iv b.Pause.High,iv b.Rest.Low,iv b.Rest.High] 70)] w∧ORc C_int Dv_3 rv_4.1 p_6 c_6) (hS.weak (ms:=[(1,.cells b_1 [.slice p b.Discs.length c,.slice p_1 b.Pieces.length c_1,iv b.Pause.Low,iv b.Pause.High,iv b.Rest.Low,iv b.Rest.High] 70)]) ⟨rfl,trivial⟩).drew (fun _ _ _ _ h=>h) ?_ ?_
 ·replace hS:=hS.drew
  have hle0:=hS.le
  refine stepV (i:=0) rfl hF (fun w hS=>Y.loadNL 1 sz_70 hF rfl hS rfl rfl rfl) rfl fun a hF=>stepV (i:=1) rfl hF (fun w hS=>Y.loadNL 1 sz_70 hF rfl hS rfl rfl rfl) rfl fun a hF=>stepV (i:=4) rfl hF (fun w hS=>Y.move hF rfl) rfl fun a hF=>oneV (i:=2) rfl ?_ trivial
  refine O.callS (us:=[.agg #[.slice p b.Discs.length c,.slice p_1 b.Pieces.length c_1,iv b.Pause.Low,iv b.Pause.High,iv b.Rest.Low,iv b.Rest.High]]) ca_45 hF hS (voice_all_ok hS.stab b hs hs_1 rv_2 hx_2) rfl rfl fun v_3 Dv_4 a w hR_3 hlev_3 hF hS=>?_
  replace hs:=hs.mono hlev_3
  replace hs_1:=hs_1.mono hlev_3
  replace hs_2:=hs_2.mono hlev_3
  replace hG:=hG.mono hlev_3
  obtain ⟨p_7,c_7,rfl,hs_7⟩:=hR_3
  refine nT ⟨(hS.weak (ms:=[(1,.cells b_1 [.slice p b.Discs.length c,.slice p_1 b.Pieces.length c_1,iv b.Pause.Low,iv b.Pause.High,iv b.Rest.Low,iv b.Rest.High] 70)]) ⟨rfl,trivial⟩).weakD hlev_3 hle0,?_⟩
  refine oneV (i:=3) rfl ?_ trivial
  refine O.callS (us:=[.agg #[.slice p b.Discs.length c,.slice p_1 b.Pieces.length c_1,iv b.Pause.Low,iv b.Pause.High,iv b.Rest.Low,iv b.Rest.High],.slice p_7 rv_2.length c_7]) ca_44 hF hS (voice_opened_ok hS.stab b rv_2 hs hs_1 hs_7 rv_3 hx_3) rfl rfl fun v_4 Dv_5 a w hR_4 hlev_4 hF hS=>?_
  replace hs_2:=hs_2.mono hlev_4
  replace hG:=hG.mono hlev_4
  obtain ⟨p_8,c_8,p_9,c_9,rfl,hs_8,hs_9,hn_1⟩:=hR_4
  refine nT ⟨(hS.weak (ms:=[(1,.cells b_1 [.slice p b.Discs.length c,.slice p_1 b.Pieces.length c_1,iv b.Pause.Low,iv b.Pause.High,iv b.Rest.Low,iv b.Rest.High] 70)]) ⟨rfl,trivial⟩).weakD (hlev_3.trans hlev_4) hle0,?_⟩
  refine oneV (i:=5) rfl ?_ trivial
  refine O.callS (us:=[.agg #[.slice p_8 rv_3.VoiceBook.Discs.length c_8,.slice p_9 rv_3.VoiceBook.Pieces.length c_9,iv rv_3.VoiceBook.Pause.Low,iv rv_3.VoiceBook.Pause.High,iv rv_3.VoiceBook.Rest.Low,iv rv_3.VoiceBook.Rest.High,.bool (rv_3.can.getD 0 false),.bool (rv_3.can.getD 1 false),.bool (rv_3.can.getD 2 false),.bool (rv_3.can.getD 3 false),.bool (rv_3.can.getD 4 false),.bool (rv_3.can.getD 5 false),.bool (rv_3.can.getD 6 false),.bool (rv_3.can.getD 7 false),.bool (rv_3.can.getD 8 false),.bool (rv_3.can.getD 9 false)],.slice p_2 text.length c_2]) ca_46 hF hS (voice_book_say_ok hS.stab rv_3 text hs_8 hs_9 hn_1 hs_2 hG rv_4 hx_4) rfl rfl fun v_5 Dv_6 a w hR_5 hlev_5 hF hS=>?_
  obtain ⟨p_10,c_10,rfl,hs_10⟩:=hR_5
  refine nT ⟨(hS.weak (ms:=[(1,.cells b_1 [.slice p b.Discs.length c,.slice p_1 b.Pieces.length c_1,iv b.Pause.Low,iv b.Pause.High,iv b.Rest.Low,iv b.Rest.High] 70)]) ⟨rfl,trivial⟩).weakD (hlev_3.trans (hlev_4.trans hlev_5)) hle0,?_⟩
  refine stepV (i:=6) rfl hF (fun w hS=>Y.move hF rfl) rfl fun a hF=>stepV (i:=7) rfl hF (fun w hS=>Y.extract hF rfl rfl) rfl fun a hF=>stepV (i:=8) rfl hF (fun w hS=>Y.extract hF rfl rfl) rfl fun a hF=>stepV (i:=9) rfl hF (fun w hS=>Y.assign hF rfl) rfl fun a hF=>toTailV ⟨Dv_6,p_10,c_10,hlev_3.trans (hlev_4.trans hlev_5),hF.weak (AF rfl),hS.weak ⟨rfl,trivial⟩,hs_10⟩
 rintro a w ⟨Dv_3,p_6,c_6,hle,hF,hS,hj⟩
 have hlev_6:=hle
 refine step hF (Y.assign hF rfl) rfl fun a hF=>nT (seq (seq (region (step hF (Y.move hF rfl) rfl fun a hF=>step hF (Y.not hF rfl) rfl fun a hF=>nT (cond_b hF rfl (fun hbv_2=>?_) (fun hbv_2=>?_))))))
 ·replace h:=cond_t h hbv_2
  refine seq (region (step hF (Y.assign hF rfl) rfl fun a hF=>step hF (Y.assign hF rfl) rfl fun a hF=>nT (ret_ (then_r ?_))))
  obtain rfl:=some_inj h
  exact leaveS Tryz.results23 hF hS (.cons (.tmp rfl) (.cons (.tmp rfl) .nil)) .nil ⟨_,_,rfl,SRc.nil⟩
 replace h:=cond_f h hbv_2
 refine skip_ (then_n (seq (region (step hF (Y.move hF rfl) rfl fun a hF=>step hF (Y.move hF rfl) rfl fun a hF=>step hF (Y.lenSl u_30 hF rfl) rfl fun a hF=>step hF (Y.move hF rfl) rfl fun a hF=>step hF (Y.lenSl u_30 hF rfl) rfl fun a hF=>step hF (Y.slice3 u_30 sz_3 hF rfl rfl rfl (ORc.sl hj).2) rfl fun a hF=>step hF (Y.assign hF rfl) rfl fun a hF=>step hF (Y.assign hF rfl) rfl fun a hF=>nT (ret_ ?_)))))
 obtain rfl:=some_inj h
 exact leaveS Tryz.results23 hF hS (.cons (.tmp rfl) (.cons (.tmp rfl) .nil)) .nil ⟨_,_,rfl,(⟨(ORc.sl hj).1,Nat.le_refl _⟩:SRc _ _ _ _ _)⟩
end Go.Proofs.YtgdfljiliflhfaaGreatDoor.Rt
