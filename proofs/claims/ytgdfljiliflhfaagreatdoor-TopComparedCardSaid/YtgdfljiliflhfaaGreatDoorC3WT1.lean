/- Walks of the functions of this seat: what each Go function comes to, as a Lean function, and the proof. Part WT1. Under no conditions. -/
import Derived.Test.YtgdfljiliflhfaaGreatDoorC3WV1
set_option linter.unusedVariables false
set_option linter.unusedSimpArgs false
set_option maxRecDepth 100000
set_option maxHeartbeats 4000000
namespace Go.Proofs.YtgdfljiliflhfaaGreatDoor.Rt
open Go Go.RowKit
noncomputable def remontoirtop_rung06:Option Bool:=
  (voice_Fewest (VoiceBook.mk ([9]) ([(VoicePiece.mk ([4]) 0 0 3)]) (Span.mk 0 0) (Span.mk 0 0)) ([4,4])).bind fun rv=>
  (r0To 4 9).bind fun rv_1=>
  (line_Correct (LineNet.mk 2 ([(LineLine.mk 0 1 rv_1)]) 1 ([]:List LineLoop)) 1).bind fun rv_2=>
  (r0To (-3) 2).bind fun rv_3=>
  (scale_Stated (ScaleBook.mk (ScaleRule.mk 0 0 1 (Span.mk 0 0)) 1 ([]:List Int) ([(ScaleLook.mk 0 rv_3)])) 1).bind fun rv_4=>
  if (0:Int)≤2∧2≤(mlim:Int) then
  (r0To 3 4).bind fun rv_5=>
  (beat_Apart (BeatCellar.mk 1 (List.replicate (Int.toNat 2) ((Span.mk 0 0):Span)) ([]:List BeatOpen) ([(BeatPair.mk 0 0 1 rv_5)])) 1 0 1).bind fun rv_6=>
  (cond (rv.2 == 0) (some (rv_2.2.2 == 0)) (some false)).bind fun t=>
  (cond t (some (rv_4.2 == 0)) (some false)).bind fun t_1=>
  (cond t_1 (some (rv_6.2 == 0)) (some false)).bind fun t_2=>
  (cond t_2 ((r0Alike rv.1 ([0,0])).bind fun rv_7=>
  some rv_7) (some false)).bind fun t_3=>
  (cond t_3 (some (rv_2.1 == 6)) (some false)).bind fun t_4=>
  (cond t_4 (some (rv_2.2.1 == 3)) (some false)).bind fun t_5=>
  (cond t_5 (some (rv_4.1 == 3)) (some false)).bind fun t_6=>
  (cond t_6 ((r0To (-4) (-3)).bind fun rv_8=>
  some ([rv_6.1.Low,rv_6.1.High] == [rv_8.Low,rv_8.High])) (some false)).bind fun t_7=>
  some t_7
  else none
theorem remontoirtop_rung06_ok {w0:World} {D0:Stab} (hD:D0.on w0) (hG:Glob D0) (out:Bool) (h:remontoirtop_rung06=some out):Calls Tryz.prog 8 [].toArray w0 (RetP D0 w0 (.bool out)):=by
 refine enter _ 83 Tryz.func8 rfl Tryz.ntmps8 rfl fun a hF=>?_
 replace hF:Frm 83 [] [] a:=hF
 have hS:=St.start hD
 unfold remontoirtop_rung06 at h
 refine seq (region (step hF (Y.assign hF rfl) rfl fun a hF=>nT (seq (region ?_))))
 have hr:Reps C_int D0 [9] [iv 9]:=Reps.cons (C:=C_int) (x:=9) (c:=[iv 9]) (r:=[]) rfl (Reps.nil)
 refine O.buildSlice (E:=3) (C:=C_int) (xs:=[9]) (cs:=[iv 9]) (us:=[iv 9]) (parts:=[(0,(.const (iv 9)))]) 1 hF hS rfl (by kernel_rfl) hr rfl rfl rfl fun p c a w hF hS=>?_
 have hr_1:Reps C_int D0 [4] [iv 4]:=Reps.cons (C:=C_int) (x:=4) (c:=[iv 4]) (r:=[]) rfl (Reps.nil)
 refine O.buildSlice (E:=3) (C:=C_int) (xs:=[4]) (cs:=[iv 4]) (us:=[iv 4]) (parts:=[(0,(.const (iv 4)))]) 2 hF hS rfl (by kernel_rfl) hr_1 rfl rfl rfl fun p_1 c_1 a w hF hS=>step hF (Y.build (parts:=[(0,(.tmp 12)),(3,(.const (iv 3)))]) (cs:=#[.slice p_1 ([4]).length c_1,iv 0,iv 0,iv 3]) hF rfl (by kernel_rfl)) rfl fun a hF=>?_
 obtain ⟨Dv,hlev,hs,hS⟩:=hS.freezeC (C:=C_int) (i:=2) (xs:=[4]) rfl hr_1
 replace hG:=hG.mono hlev
 replace hr:=hr.mono hlev
 have hr_2:Reps C_VoicePiece Dv [(VoicePiece.mk ([4]) 0 0 3)] [.slice p_1 ([4]).length c_1,iv 0,iv 0,iv 3]:=Reps.cons (C:=C_VoicePiece) (x:=(VoicePiece.mk ([4]) 0 0 3)) (c:=[.slice p_1 ([4]).length c_1,iv 0,iv 0,iv 3]) (r:=[]) (⟨_,_,rfl,hs⟩) (Reps.nil)
 refine O.buildSlice (E:=67) (C:=C_VoicePiece) (xs:=[(VoicePiece.mk ([4]) 0 0 3)]) (cs:=[.slice p_1 ([4]).length c_1,iv 0,iv 0,iv 3]) (us:=[.agg #[.slice p_1 ([4]).length c_1,iv 0,iv 0,iv 3]]) (parts:=[(0,(.tmp 13))]) 3 hF hS rfl (by kernel_rfl) hr_2 rfl rfl rfl fun p_2 c_2 a w hF hS=>step hF (Y.build (parts:=[(0,(.tmp 11)),(1,(.tmp 14))]) (cs:=#[.slice p ([9]).length c,.slice p_2 ([(VoicePiece.mk ([4]) 0 0 3)]).length c_2,iv 0,iv 0,iv 0,iv 0]) hF rfl (by kernel_rfl)) rfl fun a hF=>?_
 have hr_3:Reps C_int Dv [4,4] [iv 4,iv 4]:=Reps.cons (C:=C_int) (x:=4) (c:=[iv 4]) (r:=[iv 4]) rfl (Reps.cons (C:=C_int) (x:=4) (c:=[iv 4]) (r:=[]) rfl (Reps.nil))
 refine O.buildSlice (E:=3) (C:=C_int) (xs:=[4,4]) (cs:=[iv 4,iv 4]) (us:=[iv 4,iv 4]) (parts:=[(0,(.const (iv 4))),(1,(.const (iv 4)))]) 4 hF hS rfl (by kernel_rfl) hr_3 rfl rfl rfl fun p_3 c_3 a w hF hS=>?_
 obtain ⟨Dv_1,hlev_1,hs_1,hS⟩:=hS.freezeC (C:=C_int) (i:=1) (xs:=[9]) rfl hr
 replace hG:=hG.mono hlev_1
 replace hr_2:=hr_2.mono hlev_1
 replace hr_3:=hr_3.mono hlev_1
 obtain ⟨Dv_2,hlev_2,hs_2,hS⟩:=hS.freezeC (C:=C_VoicePiece) (i:=3) (xs:=[(VoicePiece.mk ([4]) 0 0 3)]) rfl hr_2
 replace hG:=hG.mono hlev_2
 replace hr_3:=hr_3.mono hlev_2
 replace hs_1:=hs_1.mono hlev_2
 obtain ⟨Dv_3,hlev_3,hs_3,hS⟩:=hS.freezeC (C:=C_int) (i:=4) (xs:=[4,4]) rfl hr_3
 replace hG:=hG.mono hlev_3
 replace hs_1:=hs_1.mono hlev_3
 replace hs_2:=hs_2.mono hlev_3
 obtain ⟨rv,hx,h⟩:=bind_some h
 refine O.callS (us:=[.agg #[.slice p ([9]).length c,.slice p_2 ([(VoicePiece.mk ([4]) 0 0 3)]).length c_2,iv 0,iv 0,iv 0,iv 0],.slice p_3 ([4,4]).length c_3]) ca_23 hF hS (voice_Fewest_ok hS.stab (VoiceBook.mk ([9]) ([(VoicePiece.mk ([4]) 0 0 3)]) (Span.mk 0 0) (Span.mk 0 0)) ([4,4]) hs_1 hs_2 hs_3 hG rv hx) rfl rfl fun v Dv_4 a w hR hlev_4 hF hS=>?_
 replace hG:=hG.mono hlev_4
 obtain ⟨p_4,c_4,rfl,hs_4⟩:=hR
 refine step hF (Y.move hF rfl) rfl fun a hF=>step hF (Y.extract hF rfl rfl) rfl fun a hF=>step hF (Y.extract hF rfl rfl) rfl fun a hF=>step hF (Y.assign hF rfl) rfl fun a hF=>step hF (Y.assign hF rfl) rfl fun a hF=>nT (seq (region ?_))
 obtain ⟨rv_1,hx_1,h⟩:=bind_some h
 refine O.callP (us:=[iv 4,iv 9]) ca_12 hF hS (r0To_ok hS.stab 4 9 rv_1 hx_1) rfl rfl fun a w hF hS=>step hF (Y.build (parts:=[(1,(.const (iv 1))),(2,(.tmp 21))]) (cs:=#[iv 0,iv 1,iv rv_1.Low,iv rv_1.High]) hF rfl (by kernel_rfl)) rfl fun a hF=>?_
 have hr_4:Reps C_LineLine Dv_4 [(LineLine.mk 0 1 rv_1)] [iv 0,iv 1,iv rv_1.Low,iv rv_1.High]:=Reps.cons (C:=C_LineLine) (x:=(LineLine.mk 0 1 rv_1)) (c:=[iv 0,iv 1,iv rv_1.Low,iv rv_1.High]) (r:=[]) rfl (Reps.nil)
 refine O.buildSlice (E:=60) (C:=C_LineLine) (xs:=[(LineLine.mk 0 1 rv_1)]) (cs:=[iv 0,iv 1,iv rv_1.Low,iv rv_1.High]) (us:=[.agg #[iv 0,iv 1,iv rv_1.Low,iv rv_1.High]]) (parts:=[(0,(.tmp 22))]) 5 hF hS rfl (by kernel_rfl) hr_4 rfl rfl rfl fun p_5 c_5 a w hF hS=>step hF (Y.build (parts:=[(0,(.const (iv 2))),(2,(.const (iv 1))),(1,(.tmp 23))]) (cs:=#[iv 2,.slice p_5 ([(LineLine.mk 0 1 rv_1)]).length c_5,iv 1,.slice none 0 0]) hF rfl (by kernel_rfl)) rfl fun a hF=>?_
 obtain ⟨Dv_5,hlev_5,hs_5,hS⟩:=hS.freezeC (C:=C_LineLine) (i:=5) (xs:=[(LineLine.mk 0 1 rv_1)]) rfl hr_4
 replace hG:=hG.mono hlev_5
 replace hs_4:=hs_4.mono hlev_5
 obtain ⟨rv_2,hx_2,h⟩:=bind_some h
 refine O.callP (us:=[.agg #[iv 2,.slice p_5 ([(LineLine.mk 0 1 rv_1)]).length c_5,iv 1,.slice none 0 0],iv 1]) ca_24 hF hS (line_Correct_ok hS.stab (LineNet.mk 2 ([(LineLine.mk 0 1 rv_1)]) 1 ([]:List LineLoop)) 1 hs_5 SRc.nil hG rv_2 hx_2) rfl rfl fun a w hF hS=>step hF (Y.move hF rfl) rfl fun a hF=>step hF (Y.extract hF rfl rfl) rfl fun a hF=>step hF (Y.extract hF rfl rfl) rfl fun a hF=>step hF (Y.extract hF rfl rfl) rfl fun a hF=>step hF (Y.assign hF rfl) rfl fun a hF=>step hF (Y.assign hF rfl) rfl fun a hF=>step hF (Y.assign hF rfl) rfl fun a hF=>nT (seq (region (step hF (Y.build (parts:=[(2,(.const (iv 1)))]) (cs:=#[iv 0,iv 0,iv 1,iv 0,iv 0]) hF rfl (by kernel_rfl)) rfl fun a hF=>?_)))
 obtain ⟨rv_3,hx_3,h⟩:=bind_some h
 refine O.callP (us:=[iv (-3),iv 2]) ca_12 hF hS (r0To_ok hS.stab (-3) 2 rv_3 hx_3) rfl rfl fun a w hF hS=>step hF (Y.build (parts:=[(1,(.tmp 31))]) (cs:=#[iv 0,iv rv_3.Low,iv rv_3.High]) hF rfl (by kernel_rfl)) rfl fun a hF=>?_
 have hr_5:Reps C_ScaleLook Dv_5 [(ScaleLook.mk 0 rv_3)] [iv 0,iv rv_3.Low,iv rv_3.High]:=Reps.cons (C:=C_ScaleLook) (x:=(ScaleLook.mk 0 rv_3)) (c:=[iv 0,iv rv_3.Low,iv rv_3.High]) (r:=[]) rfl (Reps.nil)
 refine O.buildSlice (E:=78) (C:=C_ScaleLook) (xs:=[(ScaleLook.mk 0 rv_3)]) (cs:=[iv 0,iv rv_3.Low,iv rv_3.High]) (us:=[.agg #[iv 0,iv rv_3.Low,iv rv_3.High]]) (parts:=[(0,(.tmp 32))]) 6 hF hS rfl (by kernel_rfl) hr_5 rfl rfl rfl fun p_6 c_6 a w hF hS=>step hF (Y.build (parts:=[(0,(.tmp 30)),(1,(.const (iv 1))),(3,(.tmp 33))]) (cs:=#[iv 0,iv 0,iv 1,iv 0,iv 0,iv 1,.slice none 0 0,.slice p_6 ([(ScaleLook.mk 0 rv_3)]).length c_6]) hF rfl (by kernel_rfl)) rfl fun a hF=>?_
 obtain ⟨Dv_6,hlev_6,hs_6,hS⟩:=hS.freezeC (C:=C_ScaleLook) (i:=6) (xs:=[(ScaleLook.mk 0 rv_3)]) rfl hr_5
 replace hG:=hG.mono hlev_6
 replace hs_4:=hs_4.mono hlev_6
 obtain ⟨rv_4,hx_4,h⟩:=bind_some h
 refine O.callP (us:=[.agg #[iv 0,iv 0,iv 1,iv 0,iv 0,iv 1,.slice none 0 0,.slice p_6 ([(ScaleLook.mk 0 rv_3)]).length c_6],iv 1]) ca_25 hF hS (scale_Stated_ok hS.stab (ScaleBook.mk (ScaleRule.mk 0 0 1 (Span.mk 0 0)) 1 ([]:List Int) ([(ScaleLook.mk 0 rv_3)])) 1 SRc.nil hs_6 rv_4 hx_4) rfl rfl fun a w hF hS=>step hF (Y.move hF rfl) rfl fun a hF=>step hF (Y.extract hF rfl rfl) rfl fun a hF=>step hF (Y.extract hF rfl rfl) rfl fun a hF=>step hF (Y.assign hF rfl) rfl fun a hF=>step hF (Y.assign hF rfl) rfl fun a hF=>nT (seq ?_)
 obtain ⟨hg,h⟩:=ite_some h
 obtain ⟨rv_5,hx_5,h⟩:=bind_some h
 obtain ⟨rv_6,hx_6,h⟩:=bind_some h
 refine drawsV 11 (.alt 0 (.alt 1 (.flt 2 (.alt 3 (.flt 4 (.alt 5 (.flt 6 (.flt 7 (.flt 8 (.alt 9 (.alt 10 .done .stop) .stop)))) (.alt 9 (.alt 5 (.flt 6 (.flt 7 (.flt 8 (.alt 10 .done .stop)))) .stop) .stop))) (.alt 9 (.alt 3 (.flt 4 (.alt 5 (.flt 6 (.flt 7 (.flt 8 (.alt 10 .done .stop)))) .stop)) .stop) .stop))) (.alt 9 (.alt 1 (.flt 2 (.alt 3 (.flt 4 (.alt 5 (.flt 6 (.flt 7 (.flt 8 (.alt 10 .done .stop)))) .stop)) .stop)) .stop) .stop)) (.alt 1 (.flt 2 (.alt 0 (.alt 3 (.flt 4 (.alt 5 (.flt 6 (.flt 7 (.flt 8 (.alt 9 (.alt 10 .done .stop) .stop)))) (.alt 9 (.alt 5 (.flt 6 (.flt 7 (.flt 8 (.alt 10 .done .stop)))) .stop) .stop))) (.alt 9 (.alt 3 (.flt 4 (.alt 5 (.flt 6 (.flt 7 (.flt 8 (.alt 10 .done .stop)))) .stop)) .stop) .stop)) (.alt 3 (.alt 0 (.flt 4 (.alt 5 (.flt 6 (.flt 7 (.flt 8 (.alt 9 (.alt 10 .done .stop) .stop)))) (.alt 9 (.alt 5 (.flt 6 (.flt 7 (.flt 8 (.alt 10 .done .stop)))) .stop) .stop))) (.alt 9 (.alt 0 (.flt 4 (.alt 5 (.flt 6 (.flt 7 (.flt 8 (.alt 10 .done .stop)))) .stop)) .stop) .stop)) (.alt 9 (.alt 0 (.alt 3 (.flt 4 (.alt 5 (.flt 6 (.flt 7 (.flt 8 (.alt 10 .done .stop)))) .stop)) .stop) (.alt 3 (.alt 0 (.flt 4 (.alt 5 (.flt 6 (.flt 7 (.flt 8 (.alt 10 .done .stop)))) .stop)) .stop) .stop)) .stop)))) (.alt 9 (.alt 0 (.alt 1 (.flt 2 (.alt 3 (.flt 4 (.alt 5 (.flt 6 (.flt 7 (.flt 8 (.alt 10 .done .stop)))) .stop)) .stop)) .stop) (.alt 1 (.flt 2 (.alt 0 (.alt 3 (.flt 4 (.alt 5 (.flt 6 (.flt 7 (.flt 8 (.alt 10 .done .stop)))) .stop)) .stop) (.alt 3 (.alt 0 (.flt 4 (.alt 5 (.flt 6 (.flt 7 (.flt 8 (.alt 10 .done .stop)))) .stop)) .stop) .stop))) .stop)) .stop))) mixed_ (by kernel_rfl) (fun w=>St w0 D0 Dv_6 [] w) (fun a w=>∃ (Dv_9:Stab) (b:Nat),Dv_6.le Dv_9∧Frm 83 [] [(0,.bool false),(1,.slice p_4 rv.1.length c_4),(2,iv rv.2),(3,iv rv_2.1),(4,iv rv_2.2.1),(5,iv rv_2.2.2),(6,iv rv_4.1),(7,iv rv_4.2),(8,.pointer (some ⟨b,0,none⟩)),(46,iv rv_6.2)] a∧St w0 D0 Dv_9 [(9,.cells b [iv rv_6.1.Low,iv rv_6.1.High] 27)] w) (hS.weak (ms:=[]) trivial).drew (fun _ _ _ _ h=>h) ?_ ?_
 ·as_aux_lemma=>
   replace hS:=hS.drew
   have hle0:=hS.le
   refine oneV (i:=0) rfl ?_ ?_
   ·as_aux_lemma=>
     skip
     refine O.makeRow (C:=C_Span) ((Span.mk 0 0):Span) 7 gr_31 zc_27 rfl hF rfl rfl hS hg rfl fun p_9 cs_1 a w hF hS hr_8=>nT ⟨hS.weak trivial,?_⟩
     refine oneV (i:=1) rfl ?_ ?_
     ·as_aux_lemma=>
       skip
       refine O.callP (us:=[iv 3,iv 4]) ca_12 hF hS (r0To_ok hS.stab 3 4 rv_5 hx_5) rfl rfl fun a w hF hS=>nT ⟨hS.weak trivial,?_⟩
       refine stepV (i:=2) rfl hF (fun w hS=>Y.build (parts:=[(2,(.const (iv 1))),(3,(.tmp 40))]) (cs:=#[iv 0,iv 0,iv 1,iv rv_5.Low,iv rv_5.High]) hF rfl (by kernel_rfl)) rfl fun a hF=>oneV (i:=3) rfl ?_ ?_
       ·as_aux_lemma=>
         skip
         have hr_9:Reps C_BeatPair Dv_6 [(BeatPair.mk 0 0 1 rv_5)] [iv 0,iv 0,iv 1,iv rv_5.Low,iv rv_5.High]:=Reps.cons (C:=C_BeatPair) (x:=(BeatPair.mk 0 0 1 rv_5)) (c:=[iv 0,iv 0,iv 1,iv rv_5.Low,iv rv_5.High]) (r:=[]) rfl (Reps.nil)
         refine O.buildSlice (E:=52) (C:=C_BeatPair) (xs:=[(BeatPair.mk 0 0 1 rv_5)]) (cs:=[iv 0,iv 0,iv 1,iv rv_5.Low,iv rv_5.High]) (us:=[.agg #[iv 0,iv 0,iv 1,iv rv_5.Low,iv rv_5.High]]) (parts:=[(0,(.tmp 41))]) 8 hF hS rfl (by kernel_rfl) hr_9 rfl rfl rfl fun p_10 c_8 a w hF hS=>nT ⟨hS.weak trivial,?_⟩
         refine stepV (i:=4) rfl hF (fun w hS=>Y.build (parts:=[(0,(.const (iv 1))),(1,(.tmp 39)),(3,(.tmp 42))]) (cs:=#[iv 1,.slice p_9 (List.replicate (Int.toNat 2) ((Span.mk 0 0):Span)).length ((List.replicate (Int.toNat 2) ((Span.mk 0 0):Span)).length),.slice none 0 0,.slice p_10 ([(BeatPair.mk 0 0 1 rv_5)]).length c_8]) hF rfl (by kernel_rfl)) rfl fun a hF=>oneV (i:=5) rfl ?_ ?_
         ·skip
          obtain ⟨Dv_10,hlev_9,hs_9,hS⟩:=hS.freezeC (C:=C_Span) (i:=7) (xs:=(List.replicate (Int.toNat 2) ((Span.mk 0 0):Span))) rfl hr_8
          replace hG:=hG.mono hlev_9
          replace hr_9:=hr_9.mono hlev_9
          obtain ⟨Dv_11,hlev_10,hs_10,hS⟩:=hS.freezeC (C:=C_BeatPair) (i:=8) (xs:=[(BeatPair.mk 0 0 1 rv_5)]) rfl hr_9
          replace hG:=hG.mono hlev_10
          replace hs_9:=hs_9.mono hlev_10
          refine O.callP (us:=[.agg #[iv 1,.slice p_9 (List.replicate (Int.toNat 2) ((Span.mk 0 0):Span)).length ((List.replicate (Int.toNat 2) ((Span.mk 0 0):Span)).length),.slice none 0 0,.slice p_10 ([(BeatPair.mk 0 0 1 rv_5)]).length c_8],iv 1,iv 0,iv 1]) ca_17 hF hS (beat_Apart_ok hS.stab (BeatCellar.mk 1 (List.replicate (Int.toNat 2) ((Span.mk 0 0):Span)) ([]:List BeatOpen) ([(BeatPair.mk 0 0 1 rv_5)])) 1 0 1 hs_9 SRc.nil hs_10 hG rv_6 hx_6) rfl rfl fun a w hF hS=>nT ⟨(hS.weak (ms:=[]) trivial).weakD (hlev_9.trans hlev_10) hle0,?_⟩
          refine stepV (i:=6) rfl hF (fun w hS=>Y.move hF rfl) rfl fun a hF=>stepV (i:=7) rfl hF (fun w hS=>Y.extract hF rfl rfl) rfl fun a hF=>stepV (i:=8) rfl hF (fun w hS=>Y.extract hF rfl rfl) rfl fun a hF=>oneV (i:=9) rfl ?_ trivial
          refine O.alloc 9 zc_27 hF hS rfl fun b_1 a w hF hS=>nT ⟨(hS.weak (ms:=[]) trivial).weakD (hlev_9.trans hlev_10) hle0,?_⟩
          refine oneV (i:=10) rfl ?_ trivial
          refine O.store (us:=[iv rv_6.1.Low,iv rv_6.1.High]) 9 sz_27 hF rfl rfl rfl rfl hS rfl rfl fun a w hF hS=>nT ⟨(hS.weak (ms:=[]) trivial).weakD (hlev_9.trans hlev_10) hle0,?_⟩
          exact toTailV ⟨Dv_11,b_1,hlev_9.trans hlev_10,hF.weak (AF rfl),hS.weak ⟨rfl,trivial⟩⟩
         refine oneV (i:=9) rfl ?_ trivial
         refine O.alloc 9 zc_27 hF hS rfl fun b_2 a w hF hS=>nT ⟨hS.weak trivial,?_⟩
         refine oneV (i:=5) rfl ?_ trivial
         obtain ⟨Dv_12,hlev_11,hs_11,hS⟩:=hS.freezeC (C:=C_Span) (i:=7) (xs:=(List.replicate (Int.toNat 2) ((Span.mk 0 0):Span))) rfl hr_8
         replace hG:=hG.mono hlev_11
         replace hr_9:=hr_9.mono hlev_11
         obtain ⟨Dv_13,hlev_12,hs_12,hS⟩:=hS.freezeC (C:=C_BeatPair) (i:=8) (xs:=[(BeatPair.mk 0 0 1 rv_5)]) rfl hr_9
         replace hG:=hG.mono hlev_12
         replace hs_11:=hs_11.mono hlev_12
         refine O.callP (us:=[.agg #[iv 1,.slice p_9 (List.replicate (Int.toNat 2) ((Span.mk 0 0):Span)).length ((List.replicate (Int.toNat 2) ((Span.mk 0 0):Span)).length),.slice none 0 0,.slice p_10 ([(BeatPair.mk 0 0 1 rv_5)]).length c_8],iv 1,iv 0,iv 1]) ca_17 hF hS (beat_Apart_ok hS.stab (BeatCellar.mk 1 (List.replicate (Int.toNat 2) ((Span.mk 0 0):Span)) ([]:List BeatOpen) ([(BeatPair.mk 0 0 1 rv_5)])) 1 0 1 hs_11 SRc.nil hs_12 hG rv_6 hx_6) rfl rfl fun a w hF hS=>nT ⟨(hS.weak (ms:=[]) trivial).weakD (hlev_11.trans hlev_12) hle0,?_⟩
         refine stepV (i:=6) rfl hF (fun w hS=>Y.move hF rfl) rfl fun a hF=>stepV (i:=7) rfl hF (fun w hS=>Y.extract hF rfl rfl) rfl fun a hF=>stepV (i:=8) rfl hF (fun w hS=>Y.extract hF rfl rfl) rfl fun a hF=>oneV (i:=10) rfl ?_ trivial
         refine O.store (us:=[iv rv_6.1.Low,iv rv_6.1.High]) 9 sz_27 hF rfl rfl rfl rfl hS rfl rfl fun a w hF hS=>nT ⟨(hS.weak (ms:=[]) trivial).weakD (hlev_11.trans hlev_12) hle0,?_⟩
         exact toTailV ⟨Dv_13,b_2,hlev_11.trans hlev_12,hF.weak (AF rfl),hS.weak ⟨rfl,trivial⟩⟩
       refine oneV (i:=9) rfl ?_ trivial
       refine O.alloc 9 zc_27 hF hS rfl fun b_3 a w hF hS=>nT ⟨hS.weak trivial,?_⟩
       refine oneV (i:=3) rfl ?_ trivial
       have hr_10:Reps C_BeatPair Dv_6 [(BeatPair.mk 0 0 1 rv_5)] [iv 0,iv 0,iv 1,iv rv_5.Low,iv rv_5.High]:=Reps.cons (C:=C_BeatPair) (x:=(BeatPair.mk 0 0 1 rv_5)) (c:=[iv 0,iv 0,iv 1,iv rv_5.Low,iv rv_5.High]) (r:=[]) rfl (Reps.nil)
       refine O.buildSlice (E:=52) (C:=C_BeatPair) (xs:=[(BeatPair.mk 0 0 1 rv_5)]) (cs:=[iv 0,iv 0,iv 1,iv rv_5.Low,iv rv_5.High]) (us:=[.agg #[iv 0,iv 0,iv 1,iv rv_5.Low,iv rv_5.High]]) (parts:=[(0,(.tmp 41))]) 8 hF hS rfl (by kernel_rfl) hr_10 rfl rfl rfl fun p_11 c_9 a w hF hS=>nT ⟨hS.weak trivial,?_⟩
       refine stepV (i:=4) rfl hF (fun w hS=>Y.build (parts:=[(0,(.const (iv 1))),(1,(.tmp 39)),(3,(.tmp 42))]) (cs:=#[iv 1,.slice p_9 (List.replicate (Int.toNat 2) ((Span.mk 0 0):Span)).length ((List.replicate (Int.toNat 2) ((Span.mk 0 0):Span)).length),.slice none 0 0,.slice p_11 ([(BeatPair.mk 0 0 1 rv_5)]).length c_9]) hF rfl (by kernel_rfl)) rfl fun a hF=>oneV (i:=5) rfl ?_ trivial
       obtain ⟨Dv_14,hlev_13,hs_13,hS⟩:=hS.freezeC (C:=C_Span) (i:=7) (xs:=(List.replicate (Int.toNat 2) ((Span.mk 0 0):Span))) rfl hr_8
       replace hG:=hG.mono hlev_13
       replace hr_10:=hr_10.mono hlev_13
       obtain ⟨Dv_15,hlev_14,hs_14,hS⟩:=hS.freezeC (C:=C_BeatPair) (i:=8) (xs:=[(BeatPair.mk 0 0 1 rv_5)]) rfl hr_10
       replace hG:=hG.mono hlev_14
       replace hs_13:=hs_13.mono hlev_14
       refine O.callP (us:=[.agg #[iv 1,.slice p_9 (List.replicate (Int.toNat 2) ((Span.mk 0 0):Span)).length ((List.replicate (Int.toNat 2) ((Span.mk 0 0):Span)).length),.slice none 0 0,.slice p_11 ([(BeatPair.mk 0 0 1 rv_5)]).length c_9],iv 1,iv 0,iv 1]) ca_17 hF hS (beat_Apart_ok hS.stab (BeatCellar.mk 1 (List.replicate (Int.toNat 2) ((Span.mk 0 0):Span)) ([]:List BeatOpen) ([(BeatPair.mk 0 0 1 rv_5)])) 1 0 1 hs_13 SRc.nil hs_14 hG rv_6 hx_6) rfl rfl fun a w hF hS=>nT ⟨(hS.weak (ms:=[]) trivial).weakD (hlev_13.trans hlev_14) hle0,?_⟩
       refine stepV (i:=6) rfl hF (fun w hS=>Y.move hF rfl) rfl fun a hF=>stepV (i:=7) rfl hF (fun w hS=>Y.extract hF rfl rfl) rfl fun a hF=>stepV (i:=8) rfl hF (fun w hS=>Y.extract hF rfl rfl) rfl fun a hF=>oneV (i:=10) rfl ?_ trivial
       refine O.store (us:=[iv rv_6.1.Low,iv rv_6.1.High]) 9 sz_27 hF rfl rfl rfl rfl hS rfl rfl fun a w hF hS=>nT ⟨(hS.weak (ms:=[]) trivial).weakD (hlev_13.trans hlev_14) hle0,?_⟩
       exact toTailV ⟨Dv_15,b_3,hlev_13.trans hlev_14,hF.weak (AF rfl),hS.weak ⟨rfl,trivial⟩⟩
     refine oneV (i:=9) rfl ?_ trivial
     refine O.alloc 9 zc_27 hF hS rfl fun b_4 a w hF hS=>nT ⟨hS.weak trivial,?_⟩
     refine oneV (i:=1) rfl ?_ trivial
     refine O.callP (us:=[iv 3,iv 4]) ca_12 hF hS (r0To_ok hS.stab 3 4 rv_5 hx_5) rfl rfl fun a w hF hS=>nT ⟨hS.weak trivial,?_⟩
     refine stepV (i:=2) rfl hF (fun w hS=>Y.build (parts:=[(2,(.const (iv 1))),(3,(.tmp 40))]) (cs:=#[iv 0,iv 0,iv 1,iv rv_5.Low,iv rv_5.High]) hF rfl (by kernel_rfl)) rfl fun a hF=>oneV (i:=3) rfl ?_ trivial
     have hr_11:Reps C_BeatPair Dv_6 [(BeatPair.mk 0 0 1 rv_5)] [iv 0,iv 0,iv 1,iv rv_5.Low,iv rv_5.High]:=Reps.cons (C:=C_BeatPair) (x:=(BeatPair.mk 0 0 1 rv_5)) (c:=[iv 0,iv 0,iv 1,iv rv_5.Low,iv rv_5.High]) (r:=[]) rfl (Reps.nil)
     refine O.buildSlice (E:=52) (C:=C_BeatPair) (xs:=[(BeatPair.mk 0 0 1 rv_5)]) (cs:=[iv 0,iv 0,iv 1,iv rv_5.Low,iv rv_5.High]) (us:=[.agg #[iv 0,iv 0,iv 1,iv rv_5.Low,iv rv_5.High]]) (parts:=[(0,(.tmp 41))]) 8 hF hS rfl (by kernel_rfl) hr_11 rfl rfl rfl fun p_12 c_10 a w hF hS=>nT ⟨hS.weak trivial,?_⟩
     refine stepV (i:=4) rfl hF (fun w hS=>Y.build (parts:=[(0,(.const (iv 1))),(1,(.tmp 39)),(3,(.tmp 42))]) (cs:=#[iv 1,.slice p_9 (List.replicate (Int.toNat 2) ((Span.mk 0 0):Span)).length ((List.replicate (Int.toNat 2) ((Span.mk 0 0):Span)).length),.slice none 0 0,.slice p_12 ([(BeatPair.mk 0 0 1 rv_5)]).length c_10]) hF rfl (by kernel_rfl)) rfl fun a hF=>oneV (i:=5) rfl ?_ trivial
     obtain ⟨Dv_16,hlev_15,hs_15,hS⟩:=hS.freezeC (C:=C_Span) (i:=7) (xs:=(List.replicate (Int.toNat 2) ((Span.mk 0 0):Span))) rfl hr_8
     replace hG:=hG.mono hlev_15
     replace hr_11:=hr_11.mono hlev_15
     obtain ⟨Dv_17,hlev_16,hs_16,hS⟩:=hS.freezeC (C:=C_BeatPair) (i:=8) (xs:=[(BeatPair.mk 0 0 1 rv_5)]) rfl hr_11
     replace hG:=hG.mono hlev_16
     replace hs_15:=hs_15.mono hlev_16
     refine O.callP (us:=[.agg #[iv 1,.slice p_9 (List.replicate (Int.toNat 2) ((Span.mk 0 0):Span)).length ((List.replicate (Int.toNat 2) ((Span.mk 0 0):Span)).length),.slice none 0 0,.slice p_12 ([(BeatPair.mk 0 0 1 rv_5)]).length c_10],iv 1,iv 0,iv 1]) ca_17 hF hS (beat_Apart_ok hS.stab (BeatCellar.mk 1 (List.replicate (Int.toNat 2) ((Span.mk 0 0):Span)) ([]:List BeatOpen) ([(BeatPair.mk 0 0 1 rv_5)])) 1 0 1 hs_15 SRc.nil hs_16 hG rv_6 hx_6) rfl rfl fun a w hF hS=>nT ⟨(hS.weak (ms:=[]) trivial).weakD (hlev_15.trans hlev_16) hle0,?_⟩
     refine stepV (i:=6) rfl hF (fun w hS=>Y.move hF rfl) rfl fun a hF=>stepV (i:=7) rfl hF (fun w hS=>Y.extract hF rfl rfl) rfl fun a hF=>stepV (i:=8) rfl hF (fun w hS=>Y.extract hF rfl rfl) rfl fun a hF=>oneV (i:=10) rfl ?_ trivial
     refine O.store (us:=[iv rv_6.1.Low,iv rv_6.1.High]) 9 sz_27 hF rfl rfl rfl rfl hS rfl rfl fun a w hF hS=>nT ⟨(hS.weak (ms:=[]) trivial).weakD (hlev_15.trans hlev_16) hle0,?_⟩
     exact toTailV ⟨Dv_17,b_4,hlev_15.trans hlev_16,hF.weak (AF rfl),hS.weak ⟨rfl,trivial⟩⟩
   refine oneV (i:=1) rfl ?_ ?_
   ·as_aux_lemma=>
     skip
     refine O.callP (us:=[iv 3,iv 4]) ca_12 hF hS (r0To_ok hS.stab 3 4 rv_5 hx_5) rfl rfl fun a w hF hS=>nT ⟨hS.weak trivial,?_⟩
     refine stepV (i:=2) rfl hF (fun w hS=>Y.build (parts:=[(2,(.const (iv 1))),(3,(.tmp 40))]) (cs:=#[iv 0,iv 0,iv 1,iv rv_5.Low,iv rv_5.High]) hF rfl (by kernel_rfl)) rfl fun a hF=>oneV (i:=0) rfl ?_ ?_
     ·as_aux_lemma=>
       skip
       refine O.makeRow (C:=C_Span) ((Span.mk 0 0):Span) 7 gr_31 zc_27 rfl hF rfl rfl hS hg rfl fun p_13 cs_2 a w hF hS hr_12=>nT ⟨hS.weak trivial,?_⟩
       refine oneV (i:=3) rfl ?_ ?_
       ·as_aux_lemma=>
         skip
         have hr_13:Reps C_BeatPair Dv_6 [(BeatPair.mk 0 0 1 rv_5)] [iv 0,iv 0,iv 1,iv rv_5.Low,iv rv_5.High]:=Reps.cons (C:=C_BeatPair) (x:=(BeatPair.mk 0 0 1 rv_5)) (c:=[iv 0,iv 0,iv 1,iv rv_5.Low,iv rv_5.High]) (r:=[]) rfl (Reps.nil)
         refine O.buildSlice (E:=52) (C:=C_BeatPair) (xs:=[(BeatPair.mk 0 0 1 rv_5)]) (cs:=[iv 0,iv 0,iv 1,iv rv_5.Low,iv rv_5.High]) (us:=[.agg #[iv 0,iv 0,iv 1,iv rv_5.Low,iv rv_5.High]]) (parts:=[(0,(.tmp 41))]) 8 hF hS rfl (by kernel_rfl) hr_13 rfl rfl rfl fun p_14 c_11 a w hF hS=>nT ⟨hS.weak trivial,?_⟩
         refine stepV (i:=4) rfl hF (fun w hS=>Y.build (parts:=[(0,(.const (iv 1))),(1,(.tmp 39)),(3,(.tmp 42))]) (cs:=#[iv 1,.slice p_13 (List.replicate (Int.toNat 2) ((Span.mk 0 0):Span)).length ((List.replicate (Int.toNat 2) ((Span.mk 0 0):Span)).length),.slice none 0 0,.slice p_14 ([(BeatPair.mk 0 0 1 rv_5)]).length c_11]) hF rfl (by kernel_rfl)) rfl fun a hF=>oneV (i:=5) rfl ?_ ?_
         ·skip
          obtain ⟨Dv_18,hlev_17,hs_17,hS⟩:=hS.freezeC (C:=C_Span) (i:=7) (xs:=(List.replicate (Int.toNat 2) ((Span.mk 0 0):Span))) rfl hr_12
          replace hG:=hG.mono hlev_17
          replace hr_13:=hr_13.mono hlev_17
          obtain ⟨Dv_19,hlev_18,hs_18,hS⟩:=hS.freezeC (C:=C_BeatPair) (i:=8) (xs:=[(BeatPair.mk 0 0 1 rv_5)]) rfl hr_13
          replace hG:=hG.mono hlev_18
          replace hs_17:=hs_17.mono hlev_18
          refine O.callP (us:=[.agg #[iv 1,.slice p_13 (List.replicate (Int.toNat 2) ((Span.mk 0 0):Span)).length ((List.replicate (Int.toNat 2) ((Span.mk 0 0):Span)).length),.slice none 0 0,.slice p_14 ([(BeatPair.mk 0 0 1 rv_5)]).length c_11],iv 1,iv 0,iv 1]) ca_17 hF hS (beat_Apart_ok hS.stab (BeatCellar.mk 1 (List.replicate (Int.toNat 2) ((Span.mk 0 0):Span)) ([]:List BeatOpen) ([(BeatPair.mk 0 0 1 rv_5)])) 1 0 1 hs_17 SRc.nil hs_18 hG rv_6 hx_6) rfl rfl fun a w hF hS=>nT ⟨(hS.weak (ms:=[]) trivial).weakD (hlev_17.trans hlev_18) hle0,?_⟩
          refine stepV (i:=6) rfl hF (fun w hS=>Y.move hF rfl) rfl fun a hF=>stepV (i:=7) rfl hF (fun w hS=>Y.extract hF rfl rfl) rfl fun a hF=>stepV (i:=8) rfl hF (fun w hS=>Y.extract hF rfl rfl) rfl fun a hF=>oneV (i:=9) rfl ?_ trivial
          refine O.alloc 9 zc_27 hF hS rfl fun b_5 a w hF hS=>nT ⟨(hS.weak (ms:=[]) trivial).weakD (hlev_17.trans hlev_18) hle0,?_⟩
          refine oneV (i:=10) rfl ?_ trivial
          refine O.store (us:=[iv rv_6.1.Low,iv rv_6.1.High]) 9 sz_27 hF rfl rfl rfl rfl hS rfl rfl fun a w hF hS=>nT ⟨(hS.weak (ms:=[]) trivial).weakD (hlev_17.trans hlev_18) hle0,?_⟩
          exact toTailV ⟨Dv_19,b_5,hlev_17.trans hlev_18,hF.weak (AF rfl),hS.weak ⟨rfl,trivial⟩⟩
         refine oneV (i:=9) rfl ?_ trivial
         refine O.alloc 9 zc_27 hF hS rfl fun b_6 a w hF hS=>nT ⟨hS.weak trivial,?_⟩
         refine oneV (i:=5) rfl ?_ trivial
         obtain ⟨Dv_20,hlev_19,hs_19,hS⟩:=hS.freezeC (C:=C_Span) (i:=7) (xs:=(List.replicate (Int.toNat 2) ((Span.mk 0 0):Span))) rfl hr_12
         replace hG:=hG.mono hlev_19
         replace hr_13:=hr_13.mono hlev_19
         obtain ⟨Dv_21,hlev_20,hs_20,hS⟩:=hS.freezeC (C:=C_BeatPair) (i:=8) (xs:=[(BeatPair.mk 0 0 1 rv_5)]) rfl hr_13
         replace hG:=hG.mono hlev_20
         replace hs_19:=hs_19.mono hlev_20
         refine O.callP (us:=[.agg #[iv 1,.slice p_13 (List.replicate (Int.toNat 2) ((Span.mk 0 0):Span)).length ((List.replicate (Int.toNat 2) ((Span.mk 0 0):Span)).length),.slice none 0 0,.slice p_14 ([(BeatPair.mk 0 0 1 rv_5)]).length c_11],iv 1,iv 0,iv 1]) ca_17 hF hS (beat_Apart_ok hS.stab (BeatCellar.mk 1 (List.replicate (Int.toNat 2) ((Span.mk 0 0):Span)) ([]:List BeatOpen) ([(BeatPair.mk 0 0 1 rv_5)])) 1 0 1 hs_19 SRc.nil hs_20 hG rv_6 hx_6) rfl rfl fun a w hF hS=>nT ⟨(hS.weak (ms:=[]) trivial).weakD (hlev_19.trans hlev_20) hle0,?_⟩
         refine stepV (i:=6) rfl hF (fun w hS=>Y.move hF rfl) rfl fun a hF=>stepV (i:=7) rfl hF (fun w hS=>Y.extract hF rfl rfl) rfl fun a hF=>stepV (i:=8) rfl hF (fun w hS=>Y.extract hF rfl rfl) rfl fun a hF=>oneV (i:=10) rfl ?_ trivial
         refine O.store (us:=[iv rv_6.1.Low,iv rv_6.1.High]) 9 sz_27 hF rfl rfl rfl rfl hS rfl rfl fun a w hF hS=>nT ⟨(hS.weak (ms:=[]) trivial).weakD (hlev_19.trans hlev_20) hle0,?_⟩
         exact toTailV ⟨Dv_21,b_6,hlev_19.trans hlev_20,hF.weak (AF rfl),hS.weak ⟨rfl,trivial⟩⟩
       refine oneV (i:=9) rfl ?_ trivial
       refine O.alloc 9 zc_27 hF hS rfl fun b_7 a w hF hS=>nT ⟨hS.weak trivial,?_⟩
       refine oneV (i:=3) rfl ?_ trivial
       have hr_14:Reps C_BeatPair Dv_6 [(BeatPair.mk 0 0 1 rv_5)] [iv 0,iv 0,iv 1,iv rv_5.Low,iv rv_5.High]:=Reps.cons (C:=C_BeatPair) (x:=(BeatPair.mk 0 0 1 rv_5)) (c:=[iv 0,iv 0,iv 1,iv rv_5.Low,iv rv_5.High]) (r:=[]) rfl (Reps.nil)
       refine O.buildSlice (E:=52) (C:=C_BeatPair) (xs:=[(BeatPair.mk 0 0 1 rv_5)]) (cs:=[iv 0,iv 0,iv 1,iv rv_5.Low,iv rv_5.High]) (us:=[.agg #[iv 0,iv 0,iv 1,iv rv_5.Low,iv rv_5.High]]) (parts:=[(0,(.tmp 41))]) 8 hF hS rfl (by kernel_rfl) hr_14 rfl rfl rfl fun p_15 c_12 a w hF hS=>nT ⟨hS.weak trivial,?_⟩
       refine stepV (i:=4) rfl hF (fun w hS=>Y.build (parts:=[(0,(.const (iv 1))),(1,(.tmp 39)),(3,(.tmp 42))]) (cs:=#[iv 1,.slice p_13 (List.replicate (Int.toNat 2) ((Span.mk 0 0):Span)).length ((List.replicate (Int.toNat 2) ((Span.mk 0 0):Span)).length),.slice none 0 0,.slice p_15 ([(BeatPair.mk 0 0 1 rv_5)]).length c_12]) hF rfl (by kernel_rfl)) rfl fun a hF=>oneV (i:=5) rfl ?_ trivial
       obtain ⟨Dv_22,hlev_21,hs_21,hS⟩:=hS.freezeC (C:=C_Span) (i:=7) (xs:=(List.replicate (Int.toNat 2) ((Span.mk 0 0):Span))) rfl hr_12
       replace hG:=hG.mono hlev_21
       replace hr_14:=hr_14.mono hlev_21
       obtain ⟨Dv_23,hlev_22,hs_22,hS⟩:=hS.freezeC (C:=C_BeatPair) (i:=8) (xs:=[(BeatPair.mk 0 0 1 rv_5)]) rfl hr_14
       replace hG:=hG.mono hlev_22
       replace hs_21:=hs_21.mono hlev_22
       refine O.callP (us:=[.agg #[iv 1,.slice p_13 (List.replicate (Int.toNat 2) ((Span.mk 0 0):Span)).length ((List.replicate (Int.toNat 2) ((Span.mk 0 0):Span)).length),.slice none 0 0,.slice p_15 ([(BeatPair.mk 0 0 1 rv_5)]).length c_12],iv 1,iv 0,iv 1]) ca_17 hF hS (beat_Apart_ok hS.stab (BeatCellar.mk 1 (List.replicate (Int.toNat 2) ((Span.mk 0 0):Span)) ([]:List BeatOpen) ([(BeatPair.mk 0 0 1 rv_5)])) 1 0 1 hs_21 SRc.nil hs_22 hG rv_6 hx_6) rfl rfl fun a w hF hS=>nT ⟨(hS.weak (ms:=[]) trivial).weakD (hlev_21.trans hlev_22) hle0,?_⟩
       refine stepV (i:=6) rfl hF (fun w hS=>Y.move hF rfl) rfl fun a hF=>stepV (i:=7) rfl hF (fun w hS=>Y.extract hF rfl rfl) rfl fun a hF=>stepV (i:=8) rfl hF (fun w hS=>Y.extract hF rfl rfl) rfl fun a hF=>oneV (i:=10) rfl ?_ trivial
       refine O.store (us:=[iv rv_6.1.Low,iv rv_6.1.High]) 9 sz_27 hF rfl rfl rfl rfl hS rfl rfl fun a w hF hS=>nT ⟨(hS.weak (ms:=[]) trivial).weakD (hlev_21.trans hlev_22) hle0,?_⟩
       exact toTailV ⟨Dv_23,b_7,hlev_21.trans hlev_22,hF.weak (AF rfl),hS.weak ⟨rfl,trivial⟩⟩
     refine oneV (i:=3) rfl ?_ ?_
     ·as_aux_lemma=>
       skip
       have hr_15:Reps C_BeatPair Dv_6 [(BeatPair.mk 0 0 1 rv_5)] [iv 0,iv 0,iv 1,iv rv_5.Low,iv rv_5.High]:=Reps.cons (C:=C_BeatPair) (x:=(BeatPair.mk 0 0 1 rv_5)) (c:=[iv 0,iv 0,iv 1,iv rv_5.Low,iv rv_5.High]) (r:=[]) rfl (Reps.nil)
       refine O.buildSlice (E:=52) (C:=C_BeatPair) (xs:=[(BeatPair.mk 0 0 1 rv_5)]) (cs:=[iv 0,iv 0,iv 1,iv rv_5.Low,iv rv_5.High]) (us:=[.agg #[iv 0,iv 0,iv 1,iv rv_5.Low,iv rv_5.High]]) (parts:=[(0,(.tmp 41))]) 8 hF hS rfl (by kernel_rfl) hr_15 rfl rfl rfl fun p_16 c_13 a w hF hS=>nT ⟨hS.weak trivial,?_⟩
       refine oneV (i:=0) rfl ?_ ?_
       ·as_aux_lemma=>
         skip
         refine O.makeRow (C:=C_Span) ((Span.mk 0 0):Span) 7 gr_31 zc_27 rfl hF rfl rfl hS hg rfl fun p_17 cs_3 a w hF hS hr_16=>nT ⟨hS.weak trivial,?_⟩
         refine stepV (i:=4) rfl hF (fun w hS=>Y.build (parts:=[(0,(.const (iv 1))),(1,(.tmp 39)),(3,(.tmp 42))]) (cs:=#[iv 1,.slice p_17 (List.replicate (Int.toNat 2) ((Span.mk 0 0):Span)).length ((List.replicate (Int.toNat 2) ((Span.mk 0 0):Span)).length),.slice none 0 0,.slice p_16 ([(BeatPair.mk 0 0 1 rv_5)]).length c_13]) hF rfl (by kernel_rfl)) rfl fun a hF=>oneV (i:=5) rfl ?_ ?_
         ·skip
          obtain ⟨Dv_24,hlev_23,hs_23,hS⟩:=hS.freezeC (C:=C_Span) (i:=7) (xs:=(List.replicate (Int.toNat 2) ((Span.mk 0 0):Span))) rfl hr_16
          replace hG:=hG.mono hlev_23
          replace hr_15:=hr_15.mono hlev_23
          obtain ⟨Dv_25,hlev_24,hs_24,hS⟩:=hS.freezeC (C:=C_BeatPair) (i:=8) (xs:=[(BeatPair.mk 0 0 1 rv_5)]) rfl hr_15
          replace hG:=hG.mono hlev_24
          replace hs_23:=hs_23.mono hlev_24
          refine O.callP (us:=[.agg #[iv 1,.slice p_17 (List.replicate (Int.toNat 2) ((Span.mk 0 0):Span)).length ((List.replicate (Int.toNat 2) ((Span.mk 0 0):Span)).length),.slice none 0 0,.slice p_16 ([(BeatPair.mk 0 0 1 rv_5)]).length c_13],iv 1,iv 0,iv 1]) ca_17 hF hS (beat_Apart_ok hS.stab (BeatCellar.mk 1 (List.replicate (Int.toNat 2) ((Span.mk 0 0):Span)) ([]:List BeatOpen) ([(BeatPair.mk 0 0 1 rv_5)])) 1 0 1 hs_23 SRc.nil hs_24 hG rv_6 hx_6) rfl rfl fun a w hF hS=>nT ⟨(hS.weak (ms:=[]) trivial).weakD (hlev_23.trans hlev_24) hle0,?_⟩
          refine stepV (i:=6) rfl hF (fun w hS=>Y.move hF rfl) rfl fun a hF=>stepV (i:=7) rfl hF (fun w hS=>Y.extract hF rfl rfl) rfl fun a hF=>stepV (i:=8) rfl hF (fun w hS=>Y.extract hF rfl rfl) rfl fun a hF=>oneV (i:=9) rfl ?_ trivial
          refine O.alloc 9 zc_27 hF hS rfl fun b_8 a w hF hS=>nT ⟨(hS.weak (ms:=[]) trivial).weakD (hlev_23.trans hlev_24) hle0,?_⟩
          refine oneV (i:=10) rfl ?_ trivial
          refine O.store (us:=[iv rv_6.1.Low,iv rv_6.1.High]) 9 sz_27 hF rfl rfl rfl rfl hS rfl rfl fun a w hF hS=>nT ⟨(hS.weak (ms:=[]) trivial).weakD (hlev_23.trans hlev_24) hle0,?_⟩
          exact toTailV ⟨Dv_25,b_8,hlev_23.trans hlev_24,hF.weak (AF rfl),hS.weak ⟨rfl,trivial⟩⟩
         refine oneV (i:=9) rfl ?_ trivial
         refine O.alloc 9 zc_27 hF hS rfl fun b_9 a w hF hS=>nT ⟨hS.weak trivial,?_⟩
         refine oneV (i:=5) rfl ?_ trivial
         obtain ⟨Dv_26,hlev_25,hs_25,hS⟩:=hS.freezeC (C:=C_Span) (i:=7) (xs:=(List.replicate (Int.toNat 2) ((Span.mk 0 0):Span))) rfl hr_16
         replace hG:=hG.mono hlev_25
         replace hr_15:=hr_15.mono hlev_25
         obtain ⟨Dv_27,hlev_26,hs_26,hS⟩:=hS.freezeC (C:=C_BeatPair) (i:=8) (xs:=[(BeatPair.mk 0 0 1 rv_5)]) rfl hr_15
         replace hG:=hG.mono hlev_26
         replace hs_25:=hs_25.mono hlev_26
         refine O.callP (us:=[.agg #[iv 1,.slice p_17 (List.replicate (Int.toNat 2) ((Span.mk 0 0):Span)).length ((List.replicate (Int.toNat 2) ((Span.mk 0 0):Span)).length),.slice none 0 0,.slice p_16 ([(BeatPair.mk 0 0 1 rv_5)]).length c_13],iv 1,iv 0,iv 1]) ca_17 hF hS (beat_Apart_ok hS.stab (BeatCellar.mk 1 (List.replicate (Int.toNat 2) ((Span.mk 0 0):Span)) ([]:List BeatOpen) ([(BeatPair.mk 0 0 1 rv_5)])) 1 0 1 hs_25 SRc.nil hs_26 hG rv_6 hx_6) rfl rfl fun a w hF hS=>nT ⟨(hS.weak (ms:=[]) trivial).weakD (hlev_25.trans hlev_26) hle0,?_⟩
         refine stepV (i:=6) rfl hF (fun w hS=>Y.move hF rfl) rfl fun a hF=>stepV (i:=7) rfl hF (fun w hS=>Y.extract hF rfl rfl) rfl fun a hF=>stepV (i:=8) rfl hF (fun w hS=>Y.extract hF rfl rfl) rfl fun a hF=>oneV (i:=10) rfl ?_ trivial
         refine O.store (us:=[iv rv_6.1.Low,iv rv_6.1.High]) 9 sz_27 hF rfl rfl rfl rfl hS rfl rfl fun a w hF hS=>nT ⟨(hS.weak (ms:=[]) trivial).weakD (hlev_25.trans hlev_26) hle0,?_⟩
         exact toTailV ⟨Dv_27,b_9,hlev_25.trans hlev_26,hF.weak (AF rfl),hS.weak ⟨rfl,trivial⟩⟩
       refine oneV (i:=9) rfl ?_ trivial
       refine O.alloc 9 zc_27 hF hS rfl fun b_10 a w hF hS=>nT ⟨hS.weak trivial,?_⟩
       refine oneV (i:=0) rfl ?_ trivial
       refine O.makeRow (C:=C_Span) ((Span.mk 0 0):Span) 7 gr_31 zc_27 rfl hF rfl rfl hS hg rfl fun p_18 cs_4 a w hF hS hr_17=>nT ⟨hS.weak trivial,?_⟩
       refine stepV (i:=4) rfl hF (fun w hS=>Y.build (parts:=[(0,(.const (iv 1))),(1,(.tmp 39)),(3,(.tmp 42))]) (cs:=#[iv 1,.slice p_18 (List.replicate (Int.toNat 2) ((Span.mk 0 0):Span)).length ((List.replicate (Int.toNat 2) ((Span.mk 0 0):Span)).length),.slice none 0 0,.slice p_16 ([(BeatPair.mk 0 0 1 rv_5)]).length c_13]) hF rfl (by kernel_rfl)) rfl fun a hF=>oneV (i:=5) rfl ?_ trivial
       obtain ⟨Dv_28,hlev_27,hs_27,hS⟩:=hS.freezeC (C:=C_Span) (i:=7) (xs:=(List.replicate (Int.toNat 2) ((Span.mk 0 0):Span))) rfl hr_17
       replace hG:=hG.mono hlev_27
       replace hr_15:=hr_15.mono hlev_27
       obtain ⟨Dv_29,hlev_28,hs_28,hS⟩:=hS.freezeC (C:=C_BeatPair) (i:=8) (xs:=[(BeatPair.mk 0 0 1 rv_5)]) rfl hr_15
       replace hG:=hG.mono hlev_28
       replace hs_27:=hs_27.mono hlev_28
       refine O.callP (us:=[.agg #[iv 1,.slice p_18 (List.replicate (Int.toNat 2) ((Span.mk 0 0):Span)).length ((List.replicate (Int.toNat 2) ((Span.mk 0 0):Span)).length),.slice none 0 0,.slice p_16 ([(BeatPair.mk 0 0 1 rv_5)]).length c_13],iv 1,iv 0,iv 1]) ca_17 hF hS (beat_Apart_ok hS.stab (BeatCellar.mk 1 (List.replicate (Int.toNat 2) ((Span.mk 0 0):Span)) ([]:List BeatOpen) ([(BeatPair.mk 0 0 1 rv_5)])) 1 0 1 hs_27 SRc.nil hs_28 hG rv_6 hx_6) rfl rfl fun a w hF hS=>nT ⟨(hS.weak (ms:=[]) trivial).weakD (hlev_27.trans hlev_28) hle0,?_⟩
       refine stepV (i:=6) rfl hF (fun w hS=>Y.move hF rfl) rfl fun a hF=>stepV (i:=7) rfl hF (fun w hS=>Y.extract hF rfl rfl) rfl fun a hF=>stepV (i:=8) rfl hF (fun w hS=>Y.extract hF rfl rfl) rfl fun a hF=>oneV (i:=10) rfl ?_ trivial
       refine O.store (us:=[iv rv_6.1.Low,iv rv_6.1.High]) 9 sz_27 hF rfl rfl rfl rfl hS rfl rfl fun a w hF hS=>nT ⟨(hS.weak (ms:=[]) trivial).weakD (hlev_27.trans hlev_28) hle0,?_⟩
       exact toTailV ⟨Dv_29,b_10,hlev_27.trans hlev_28,hF.weak (AF rfl),hS.weak ⟨rfl,trivial⟩⟩
     refine oneV (i:=9) rfl ?_ trivial
     refine O.alloc 9 zc_27 hF hS rfl fun b_11 a w hF hS=>nT ⟨hS.weak trivial,?_⟩
     refine oneV (i:=0) rfl ?_ ?_
     ·skip
      refine O.makeRow (C:=C_Span) ((Span.mk 0 0):Span) 7 gr_31 zc_27 rfl hF rfl rfl hS hg rfl fun p_19 cs_5 a w hF hS hr_18=>nT ⟨hS.weak trivial,?_⟩
      refine oneV (i:=3) rfl ?_ trivial
      have hr_19:Reps C_BeatPair Dv_6 [(BeatPair.mk 0 0 1 rv_5)] [iv 0,iv 0,iv 1,iv rv_5.Low,iv rv_5.High]:=Reps.cons (C:=C_BeatPair) (x:=(BeatPair.mk 0 0 1 rv_5)) (c:=[iv 0,iv 0,iv 1,iv rv_5.Low,iv rv_5.High]) (r:=[]) rfl (Reps.nil)
      refine O.buildSlice (E:=52) (C:=C_BeatPair) (xs:=[(BeatPair.mk 0 0 1 rv_5)]) (cs:=[iv 0,iv 0,iv 1,iv rv_5.Low,iv rv_5.High]) (us:=[.agg #[iv 0,iv 0,iv 1,iv rv_5.Low,iv rv_5.High]]) (parts:=[(0,(.tmp 41))]) 8 hF hS rfl (by kernel_rfl) hr_19 rfl rfl rfl fun p_20 c_14 a w hF hS=>nT ⟨hS.weak trivial,?_⟩
      refine stepV (i:=4) rfl hF (fun w hS=>Y.build (parts:=[(0,(.const (iv 1))),(1,(.tmp 39)),(3,(.tmp 42))]) (cs:=#[iv 1,.slice p_19 (List.replicate (Int.toNat 2) ((Span.mk 0 0):Span)).length ((List.replicate (Int.toNat 2) ((Span.mk 0 0):Span)).length),.slice none 0 0,.slice p_20 ([(BeatPair.mk 0 0 1 rv_5)]).length c_14]) hF rfl (by kernel_rfl)) rfl fun a hF=>oneV (i:=5) rfl ?_ trivial
      obtain ⟨Dv_30,hlev_29,hs_29,hS⟩:=hS.freezeC (C:=C_Span) (i:=7) (xs:=(List.replicate (Int.toNat 2) ((Span.mk 0 0):Span))) rfl hr_18
      replace hG:=hG.mono hlev_29
      replace hr_19:=hr_19.mono hlev_29
      obtain ⟨Dv_31,hlev_30,hs_30,hS⟩:=hS.freezeC (C:=C_BeatPair) (i:=8) (xs:=[(BeatPair.mk 0 0 1 rv_5)]) rfl hr_19
      replace hG:=hG.mono hlev_30
      replace hs_29:=hs_29.mono hlev_30
      refine O.callP (us:=[.agg #[iv 1,.slice p_19 (List.replicate (Int.toNat 2) ((Span.mk 0 0):Span)).length ((List.replicate (Int.toNat 2) ((Span.mk 0 0):Span)).length),.slice none 0 0,.slice p_20 ([(BeatPair.mk 0 0 1 rv_5)]).length c_14],iv 1,iv 0,iv 1]) ca_17 hF hS (beat_Apart_ok hS.stab (BeatCellar.mk 1 (List.replicate (Int.toNat 2) ((Span.mk 0 0):Span)) ([]:List BeatOpen) ([(BeatPair.mk 0 0 1 rv_5)])) 1 0 1 hs_29 SRc.nil hs_30 hG rv_6 hx_6) rfl rfl fun a w hF hS=>nT ⟨(hS.weak (ms:=[]) trivial).weakD (hlev_29.trans hlev_30) hle0,?_⟩
      refine stepV (i:=6) rfl hF (fun w hS=>Y.move hF rfl) rfl fun a hF=>stepV (i:=7) rfl hF (fun w hS=>Y.extract hF rfl rfl) rfl fun a hF=>stepV (i:=8) rfl hF (fun w hS=>Y.extract hF rfl rfl) rfl fun a hF=>oneV (i:=10) rfl ?_ trivial
      refine O.store (us:=[iv rv_6.1.Low,iv rv_6.1.High]) 9 sz_27 hF rfl rfl rfl rfl hS rfl rfl fun a w hF hS=>nT ⟨(hS.weak (ms:=[]) trivial).weakD (hlev_29.trans hlev_30) hle0,?_⟩
      exact toTailV ⟨Dv_31,b_11,hlev_29.trans hlev_30,hF.weak (AF rfl),hS.weak ⟨rfl,trivial⟩⟩
     refine oneV (i:=3) rfl ?_ trivial
     have hr_20:Reps C_BeatPair Dv_6 [(BeatPair.mk 0 0 1 rv_5)] [iv 0,iv 0,iv 1,iv rv_5.Low,iv rv_5.High]:=Reps.cons (C:=C_BeatPair) (x:=(BeatPair.mk 0 0 1 rv_5)) (c:=[iv 0,iv 0,iv 1,iv rv_5.Low,iv rv_5.High]) (r:=[]) rfl (Reps.nil)
     refine O.buildSlice (E:=52) (C:=C_BeatPair) (xs:=[(BeatPair.mk 0 0 1 rv_5)]) (cs:=[iv 0,iv 0,iv 1,iv rv_5.Low,iv rv_5.High]) (us:=[.agg #[iv 0,iv 0,iv 1,iv rv_5.Low,iv rv_5.High]]) (parts:=[(0,(.tmp 41))]) 8 hF hS rfl (by kernel_rfl) hr_20 rfl rfl rfl fun p_21 c_15 a w hF hS=>nT ⟨hS.weak trivial,?_⟩
     refine oneV (i:=0) rfl ?_ trivial
     refine O.makeRow (C:=C_Span) ((Span.mk 0 0):Span) 7 gr_31 zc_27 rfl hF rfl rfl hS hg rfl fun p_22 cs_6 a w hF hS hr_21=>nT ⟨hS.weak trivial,?_⟩
     refine stepV (i:=4) rfl hF (fun w hS=>Y.build (parts:=[(0,(.const (iv 1))),(1,(.tmp 39)),(3,(.tmp 42))]) (cs:=#[iv 1,.slice p_22 (List.replicate (Int.toNat 2) ((Span.mk 0 0):Span)).length ((List.replicate (Int.toNat 2) ((Span.mk 0 0):Span)).length),.slice none 0 0,.slice p_21 ([(BeatPair.mk 0 0 1 rv_5)]).length c_15]) hF rfl (by kernel_rfl)) rfl fun a hF=>oneV (i:=5) rfl ?_ trivial
     obtain ⟨Dv_32,hlev_31,hs_31,hS⟩:=hS.freezeC (C:=C_Span) (i:=7) (xs:=(List.replicate (Int.toNat 2) ((Span.mk 0 0):Span))) rfl hr_21
     replace hG:=hG.mono hlev_31
     replace hr_20:=hr_20.mono hlev_31
     obtain ⟨Dv_33,hlev_32,hs_32,hS⟩:=hS.freezeC (C:=C_BeatPair) (i:=8) (xs:=[(BeatPair.mk 0 0 1 rv_5)]) rfl hr_20
     replace hG:=hG.mono hlev_32
     replace hs_31:=hs_31.mono hlev_32
     refine O.callP (us:=[.agg #[iv 1,.slice p_22 (List.replicate (Int.toNat 2) ((Span.mk 0 0):Span)).length ((List.replicate (Int.toNat 2) ((Span.mk 0 0):Span)).length),.slice none 0 0,.slice p_21 ([(BeatPair.mk 0 0 1 rv_5)]).length c_15],iv 1,iv 0,iv 1]) ca_17 hF hS (beat_Apart_ok hS.stab (BeatCellar.mk 1 (List.replicate (Int.toNat 2) ((Span.mk 0 0):Span)) ([]:List BeatOpen) ([(BeatPair.mk 0 0 1 rv_5)])) 1 0 1 hs_31 SRc.nil hs_32 hG rv_6 hx_6) rfl rfl fun a w hF hS=>nT ⟨(hS.weak (ms:=[]) trivial).weakD (hlev_31.trans hlev_32) hle0,?_⟩
     refine stepV (i:=6) rfl hF (fun w hS=>Y.move hF rfl) rfl fun a hF=>stepV (i:=7) rfl hF (fun w hS=>Y.extract hF rfl rfl) rfl fun a hF=>stepV (i:=8) rfl hF (fun w hS=>Y.extract hF rfl rfl) rfl fun a hF=>oneV (i:=10) rfl ?_ trivial
     refine O.store (us:=[iv rv_6.1.Low,iv rv_6.1.High]) 9 sz_27 hF rfl rfl rfl rfl hS rfl rfl fun a w hF hS=>nT ⟨(hS.weak (ms:=[]) trivial).weakD (hlev_31.trans hlev_32) hle0,?_⟩
     exact toTailV ⟨Dv_33,b_11,hlev_31.trans hlev_32,hF.weak (AF rfl),hS.weak ⟨rfl,trivial⟩⟩
   refine oneV (i:=9) rfl ?_ trivial
   refine O.alloc 9 zc_27 hF hS rfl fun b_12 a w hF hS=>nT ⟨hS.weak trivial,?_⟩
   refine oneV (i:=0) rfl ?_ ?_
   ·skip
    refine O.makeRow (C:=C_Span) ((Span.mk 0 0):Span) 7 gr_31 zc_27 rfl hF rfl rfl hS hg rfl fun p_23 cs_7 a w hF hS hr_22=>nT ⟨hS.weak trivial,?_⟩
    refine oneV (i:=1) rfl ?_ trivial
    refine O.callP (us:=[iv 3,iv 4]) ca_12 hF hS (r0To_ok hS.stab 3 4 rv_5 hx_5) rfl rfl fun a w hF hS=>nT ⟨hS.weak trivial,?_⟩
    refine stepV (i:=2) rfl hF (fun w hS=>Y.build (parts:=[(2,(.const (iv 1))),(3,(.tmp 40))]) (cs:=#[iv 0,iv 0,iv 1,iv rv_5.Low,iv rv_5.High]) hF rfl (by kernel_rfl)) rfl fun a hF=>oneV (i:=3) rfl ?_ trivial
    have hr_23:Reps C_BeatPair Dv_6 [(BeatPair.mk 0 0 1 rv_5)] [iv 0,iv 0,iv 1,iv rv_5.Low,iv rv_5.High]:=Reps.cons (C:=C_BeatPair) (x:=(BeatPair.mk 0 0 1 rv_5)) (c:=[iv 0,iv 0,iv 1,iv rv_5.Low,iv rv_5.High]) (r:=[]) rfl (Reps.nil)
    refine O.buildSlice (E:=52) (C:=C_BeatPair) (xs:=[(BeatPair.mk 0 0 1 rv_5)]) (cs:=[iv 0,iv 0,iv 1,iv rv_5.Low,iv rv_5.High]) (us:=[.agg #[iv 0,iv 0,iv 1,iv rv_5.Low,iv rv_5.High]]) (parts:=[(0,(.tmp 41))]) 8 hF hS rfl (by kernel_rfl) hr_23 rfl rfl rfl fun p_24 c_16 a w hF hS=>nT ⟨hS.weak trivial,?_⟩
    refine stepV (i:=4) rfl hF (fun w hS=>Y.build (parts:=[(0,(.const (iv 1))),(1,(.tmp 39)),(3,(.tmp 42))]) (cs:=#[iv 1,.slice p_23 (List.replicate (Int.toNat 2) ((Span.mk 0 0):Span)).length ((List.replicate (Int.toNat 2) ((Span.mk 0 0):Span)).length),.slice none 0 0,.slice p_24 ([(BeatPair.mk 0 0 1 rv_5)]).length c_16]) hF rfl (by kernel_rfl)) rfl fun a hF=>oneV (i:=5) rfl ?_ trivial
    obtain ⟨Dv_34,hlev_33,hs_33,hS⟩:=hS.freezeC (C:=C_Span) (i:=7) (xs:=(List.replicate (Int.toNat 2) ((Span.mk 0 0):Span))) rfl hr_22
    replace hG:=hG.mono hlev_33
    replace hr_23:=hr_23.mono hlev_33
    obtain ⟨Dv_35,hlev_34,hs_34,hS⟩:=hS.freezeC (C:=C_BeatPair) (i:=8) (xs:=[(BeatPair.mk 0 0 1 rv_5)]) rfl hr_23
    replace hG:=hG.mono hlev_34
    replace hs_33:=hs_33.mono hlev_34
    refine O.callP (us:=[.agg #[iv 1,.slice p_23 (List.replicate (Int.toNat 2) ((Span.mk 0 0):Span)).length ((List.replicate (Int.toNat 2) ((Span.mk 0 0):Span)).length),.slice none 0 0,.slice p_24 ([(BeatPair.mk 0 0 1 rv_5)]).length c_16],iv 1,iv 0,iv 1]) ca_17 hF hS (beat_Apart_ok hS.stab (BeatCellar.mk 1 (List.replicate (Int.toNat 2) ((Span.mk 0 0):Span)) ([]:List BeatOpen) ([(BeatPair.mk 0 0 1 rv_5)])) 1 0 1 hs_33 SRc.nil hs_34 hG rv_6 hx_6) rfl rfl fun a w hF hS=>nT ⟨(hS.weak (ms:=[]) trivial).weakD (hlev_33.trans hlev_34) hle0,?_⟩
    refine stepV (i:=6) rfl hF (fun w hS=>Y.move hF rfl) rfl fun a hF=>stepV (i:=7) rfl hF (fun w hS=>Y.extract hF rfl rfl) rfl fun a hF=>stepV (i:=8) rfl hF (fun w hS=>Y.extract hF rfl rfl) rfl fun a hF=>oneV (i:=10) rfl ?_ trivial
    refine O.store (us:=[iv rv_6.1.Low,iv rv_6.1.High]) 9 sz_27 hF rfl rfl rfl rfl hS rfl rfl fun a w hF hS=>nT ⟨(hS.weak (ms:=[]) trivial).weakD (hlev_33.trans hlev_34) hle0,?_⟩
    exact toTailV ⟨Dv_35,b_12,hlev_33.trans hlev_34,hF.weak (AF rfl),hS.weak ⟨rfl,trivial⟩⟩
   refine oneV (i:=1) rfl ?_ trivial
   refine O.callP (us:=[iv 3,iv 4]) ca_12 hF hS (r0To_ok hS.stab 3 4 rv_5 hx_5) rfl rfl fun a w hF hS=>nT ⟨hS.weak trivial,?_⟩
   refine stepV (i:=2) rfl hF (fun w hS=>Y.build (parts:=[(2,(.const (iv 1))),(3,(.tmp 40))]) (cs:=#[iv 0,iv 0,iv 1,iv rv_5.Low,iv rv_5.High]) hF rfl (by kernel_rfl)) rfl fun a hF=>oneV (i:=0) rfl ?_ ?_
   ·skip
    refine O.makeRow (C:=C_Span) ((Span.mk 0 0):Span) 7 gr_31 zc_27 rfl hF rfl rfl hS hg rfl fun p_25 cs_8 a w hF hS hr_24=>nT ⟨hS.weak trivial,?_⟩
    refine oneV (i:=3) rfl ?_ trivial
    have hr_25:Reps C_BeatPair Dv_6 [(BeatPair.mk 0 0 1 rv_5)] [iv 0,iv 0,iv 1,iv rv_5.Low,iv rv_5.High]:=Reps.cons (C:=C_BeatPair) (x:=(BeatPair.mk 0 0 1 rv_5)) (c:=[iv 0,iv 0,iv 1,iv rv_5.Low,iv rv_5.High]) (r:=[]) rfl (Reps.nil)
    refine O.buildSlice (E:=52) (C:=C_BeatPair) (xs:=[(BeatPair.mk 0 0 1 rv_5)]) (cs:=[iv 0,iv 0,iv 1,iv rv_5.Low,iv rv_5.High]) (us:=[.agg #[iv 0,iv 0,iv 1,iv rv_5.Low,iv rv_5.High]]) (parts:=[(0,(.tmp 41))]) 8 hF hS rfl (by kernel_rfl) hr_25 rfl rfl rfl fun p_26 c_17 a w hF hS=>nT ⟨hS.weak trivial,?_⟩
    refine stepV (i:=4) rfl hF (fun w hS=>Y.build (parts:=[(0,(.const (iv 1))),(1,(.tmp 39)),(3,(.tmp 42))]) (cs:=#[iv 1,.slice p_25 (List.replicate (Int.toNat 2) ((Span.mk 0 0):Span)).length ((List.replicate (Int.toNat 2) ((Span.mk 0 0):Span)).length),.slice none 0 0,.slice p_26 ([(BeatPair.mk 0 0 1 rv_5)]).length c_17]) hF rfl (by kernel_rfl)) rfl fun a hF=>oneV (i:=5) rfl ?_ trivial
    obtain ⟨Dv_36,hlev_35,hs_35,hS⟩:=hS.freezeC (C:=C_Span) (i:=7) (xs:=(List.replicate (Int.toNat 2) ((Span.mk 0 0):Span))) rfl hr_24
    replace hG:=hG.mono hlev_35
    replace hr_25:=hr_25.mono hlev_35
    obtain ⟨Dv_37,hlev_36,hs_36,hS⟩:=hS.freezeC (C:=C_BeatPair) (i:=8) (xs:=[(BeatPair.mk 0 0 1 rv_5)]) rfl hr_25
    replace hG:=hG.mono hlev_36
    replace hs_35:=hs_35.mono hlev_36
    refine O.callP (us:=[.agg #[iv 1,.slice p_25 (List.replicate (Int.toNat 2) ((Span.mk 0 0):Span)).length ((List.replicate (Int.toNat 2) ((Span.mk 0 0):Span)).length),.slice none 0 0,.slice p_26 ([(BeatPair.mk 0 0 1 rv_5)]).length c_17],iv 1,iv 0,iv 1]) ca_17 hF hS (beat_Apart_ok hS.stab (BeatCellar.mk 1 (List.replicate (Int.toNat 2) ((Span.mk 0 0):Span)) ([]:List BeatOpen) ([(BeatPair.mk 0 0 1 rv_5)])) 1 0 1 hs_35 SRc.nil hs_36 hG rv_6 hx_6) rfl rfl fun a w hF hS=>nT ⟨(hS.weak (ms:=[]) trivial).weakD (hlev_35.trans hlev_36) hle0,?_⟩
    refine stepV (i:=6) rfl hF (fun w hS=>Y.move hF rfl) rfl fun a hF=>stepV (i:=7) rfl hF (fun w hS=>Y.extract hF rfl rfl) rfl fun a hF=>stepV (i:=8) rfl hF (fun w hS=>Y.extract hF rfl rfl) rfl fun a hF=>oneV (i:=10) rfl ?_ trivial
    refine O.store (us:=[iv rv_6.1.Low,iv rv_6.1.High]) 9 sz_27 hF rfl rfl rfl rfl hS rfl rfl fun a w hF hS=>nT ⟨(hS.weak (ms:=[]) trivial).weakD (hlev_35.trans hlev_36) hle0,?_⟩
    exact toTailV ⟨Dv_37,b_12,hlev_35.trans hlev_36,hF.weak (AF rfl),hS.weak ⟨rfl,trivial⟩⟩
   refine oneV (i:=3) rfl ?_ trivial
   have hr_26:Reps C_BeatPair Dv_6 [(BeatPair.mk 0 0 1 rv_5)] [iv 0,iv 0,iv 1,iv rv_5.Low,iv rv_5.High]:=Reps.cons (C:=C_BeatPair) (x:=(BeatPair.mk 0 0 1 rv_5)) (c:=[iv 0,iv 0,iv 1,iv rv_5.Low,iv rv_5.High]) (r:=[]) rfl (Reps.nil)
   refine O.buildSlice (E:=52) (C:=C_BeatPair) (xs:=[(BeatPair.mk 0 0 1 rv_5)]) (cs:=[iv 0,iv 0,iv 1,iv rv_5.Low,iv rv_5.High]) (us:=[.agg #[iv 0,iv 0,iv 1,iv rv_5.Low,iv rv_5.High]]) (parts:=[(0,(.tmp 41))]) 8 hF hS rfl (by kernel_rfl) hr_26 rfl rfl rfl fun p_27 c_18 a w hF hS=>nT ⟨hS.weak trivial,?_⟩
   refine oneV (i:=0) rfl ?_ trivial
   refine O.makeRow (C:=C_Span) ((Span.mk 0 0):Span) 7 gr_31 zc_27 rfl hF rfl rfl hS hg rfl fun p_28 cs_9 a w hF hS hr_27=>nT ⟨hS.weak trivial,?_⟩
   refine stepV (i:=4) rfl hF (fun w hS=>Y.build (parts:=[(0,(.const (iv 1))),(1,(.tmp 39)),(3,(.tmp 42))]) (cs:=#[iv 1,.slice p_28 (List.replicate (Int.toNat 2) ((Span.mk 0 0):Span)).length ((List.replicate (Int.toNat 2) ((Span.mk 0 0):Span)).length),.slice none 0 0,.slice p_27 ([(BeatPair.mk 0 0 1 rv_5)]).length c_18]) hF rfl (by kernel_rfl)) rfl fun a hF=>oneV (i:=5) rfl ?_ trivial
   obtain ⟨Dv_38,hlev_37,hs_37,hS⟩:=hS.freezeC (C:=C_Span) (i:=7) (xs:=(List.replicate (Int.toNat 2) ((Span.mk 0 0):Span))) rfl hr_27
   replace hG:=hG.mono hlev_37
   replace hr_26:=hr_26.mono hlev_37
   obtain ⟨Dv_39,hlev_38,hs_38,hS⟩:=hS.freezeC (C:=C_BeatPair) (i:=8) (xs:=[(BeatPair.mk 0 0 1 rv_5)]) rfl hr_26
   replace hG:=hG.mono hlev_38
   replace hs_37:=hs_37.mono hlev_38
   refine O.callP (us:=[.agg #[iv 1,.slice p_28 (List.replicate (Int.toNat 2) ((Span.mk 0 0):Span)).length ((List.replicate (Int.toNat 2) ((Span.mk 0 0):Span)).length),.slice none 0 0,.slice p_27 ([(BeatPair.mk 0 0 1 rv_5)]).length c_18],iv 1,iv 0,iv 1]) ca_17 hF hS (beat_Apart_ok hS.stab (BeatCellar.mk 1 (List.replicate (Int.toNat 2) ((Span.mk 0 0):Span)) ([]:List BeatOpen) ([(BeatPair.mk 0 0 1 rv_5)])) 1 0 1 hs_37 SRc.nil hs_38 hG rv_6 hx_6) rfl rfl fun a w hF hS=>nT ⟨(hS.weak (ms:=[]) trivial).weakD (hlev_37.trans hlev_38) hle0,?_⟩
   refine stepV (i:=6) rfl hF (fun w hS=>Y.move hF rfl) rfl fun a hF=>stepV (i:=7) rfl hF (fun w hS=>Y.extract hF rfl rfl) rfl fun a hF=>stepV (i:=8) rfl hF (fun w hS=>Y.extract hF rfl rfl) rfl fun a hF=>oneV (i:=10) rfl ?_ trivial
   refine O.store (us:=[iv rv_6.1.Low,iv rv_6.1.High]) 9 sz_27 hF rfl rfl rfl rfl hS rfl rfl fun a w hF hS=>nT ⟨(hS.weak (ms:=[]) trivial).weakD (hlev_37.trans hlev_38) hle0,?_⟩
   exact toTailV ⟨Dv_39,b_12,hlev_37.trans hlev_38,hF.weak (AF rfl),hS.weak ⟨rfl,trivial⟩⟩
 rintro a w ⟨Dv_9,b,hle,hF,hS⟩
 have hlev_39:=hle
 replace hs_4:=hs_4.mono hlev_39
 refine step hF (Y.assign hF rfl) rfl fun a hF=>nT (seq ?_)
 obtain ⟨t,ht,h⟩:=bind_some h
 obtain ⟨t_1,ht_1,h⟩:=bind_some h
 obtain ⟨t_2,ht_2,h⟩:=bind_some h
 obtain ⟨t_3,ht_3,h⟩:=bind_some h
 obtain ⟨t_4,ht_4,h⟩:=bind_some h
 obtain ⟨t_5,ht_5,h⟩:=bind_some h
 obtain ⟨t_6,ht_6,h⟩:=bind_some h
 obtain ⟨t_7,ht_7,h⟩:=bind_some h
 refine drawsV 36 (.flt 0 (.flt 1 (.flt 2 (.flt 3 (.flt 4 (.flt 5 (.flt 6 (.flt 7 (.flt 8 (.flt 9 (.flt 10 (.flt 11 (.flt 12 (.flt 13 (.flt 14 (.flt 15 (.alt 16 (.alt 17 (.flt 18 (.flt 19 (.flt 20 (.flt 21 (.flt 22 (.flt 23 (.flt 24 (.flt 25 (.flt 26 (.flt 27 (.flt 28 (.flt 29 (.flt 30 (.flt 31 (.flt 32 (.alt 33 (.flt 34 (.flt 35 .done)) .stop)))))))))))))))) .stop) .stop))))))))))))))))) mixed_ (by kernel_rfl) (fun w=>St w0 D0 Dv_9 [(9,.cells b [iv rv_6.1.Low,iv rv_6.1.High] 27)] w) (fun a w=>∃ (Dv_42:Stab),Dv_9.le Dv_42∧Frm 83 [] [(0,.bool false),(82,.bool t_7)] a∧St w0 D0 Dv_42 [(9,.cells b [iv rv_6.1.Low,iv rv_6.1.High] 27)] w) (hS.weak (ms:=[(9,.cells b [iv rv_6.1.Low,iv rv_6.1.High] 27)]) ⟨rfl,trivial⟩).drew (fun _ _ _ _ h=>h) ?_ ?_
 ·as_aux_lemma=>
   replace hS:=hS.drew
   have hle0:=hS.le
   rcases bcases (rv.2 == 0) with hbv | hbv
   ·as_aux_lemma=>
     skip
     replace ht:=cond_t ht hbv
     obtain rfl:=some_inj ht
     rcases bcases (rv_2.2.2 == 0) with hbv_1 | hbv_1
     ·as_aux_lemma=>
       skip
       replace ht_1:=cond_t ht_1 hbv_1
       obtain rfl:=some_inj ht_1
       rcases bcases (rv_4.2 == 0) with hbv_2 | hbv_2
       ·as_aux_lemma=>
         skip
         replace ht_2:=cond_t ht_2 hbv_2
         obtain rfl:=some_inj ht_2
         rcases bcases (rv_6.2 == 0) with hbv_3 | hbv_3
         ·as_aux_lemma=>
           skip
           replace ht_3:=cond_t ht_3 hbv_3
           obtain ⟨rv_7,hx_7,ht_3⟩:=bind_some ht_3
           obtain rfl:=some_inj ht_3
           rcases bcases rv_7 with hbv_4 | hbv_4
           ·as_aux_lemma=>
             skip
             replace ht_4:=cond_t ht_4 hbv_4
             obtain rfl:=some_inj ht_4
             rcases bcases (rv_2.1 == 6) with hbv_5 | hbv_5
             ·as_aux_lemma=>
               skip
               replace ht_5:=cond_t ht_5 hbv_5
               obtain rfl:=some_inj ht_5
               rcases bcases (rv_2.2.1 == 3) with hbv_6 | hbv_6
               ·as_aux_lemma=>
                 skip
                 replace ht_6:=cond_t ht_6 hbv_6
                 obtain rfl:=some_inj ht_6
                 rcases bcases (rv_4.1 == 3) with hbv_7 | hbv_7
                 ·as_aux_lemma=>
                   skip
                   replace ht_7:=cond_t ht_7 hbv_7
                   obtain ⟨rv_8,hx_8,ht_7⟩:=bind_some ht_7
                   obtain rfl:=some_inj ht_7
                   refine stepV (i:=0) rfl hF (fun w hS=>Y.move hF rfl) rfl fun a hF=>stepV (i:=1) rfl hF (fun w hS=>Y.eql hF rfl rfl) rfl fun a hF=>stepV (i:=2) rfl hF (fun w hS=>Y.move hF rfl) rfl fun a hF=>stepV_on (i:=3) rfl hF rfl rfl hbv (fun w hS=>Y.move hF rfl) rfl fun a hF=>stepV_on (i:=4) rfl hF rfl rfl hbv (fun w hS=>Y.eql hF rfl rfl) rfl fun a hF=>stepV (i:=5) rfl hF (fun w hS=>Y.pick_t hF rfl hbv rfl) rfl fun a hF=>stepV (i:=6) rfl hF (fun w hS=>Y.move hF rfl) rfl fun a hF=>stepV_on (i:=7) rfl hF rfl rfl hbv_1 (fun w hS=>Y.move hF rfl) rfl fun a hF=>stepV_on (i:=8) rfl hF rfl rfl hbv_1 (fun w hS=>Y.eql hF rfl rfl) rfl fun a hF=>stepV (i:=9) rfl hF (fun w hS=>Y.pick_t hF rfl hbv_1 rfl) rfl fun a hF=>stepV (i:=10) rfl hF (fun w hS=>Y.move hF rfl) rfl fun a hF=>stepV_on (i:=11) rfl hF rfl rfl hbv_2 (fun w hS=>Y.move hF rfl) rfl fun a hF=>stepV_on (i:=12) rfl hF rfl rfl hbv_2 (fun w hS=>Y.eql hF rfl rfl) rfl fun a hF=>stepV (i:=13) rfl hF (fun w hS=>Y.pick_t hF rfl hbv_2 rfl) rfl fun a hF=>stepV (i:=14) rfl hF (fun w hS=>Y.move hF rfl) rfl fun a hF=>stepV_on (i:=15) rfl hF rfl rfl hbv_3 (fun w hS=>Y.move hF rfl) rfl fun a hF=>oneV (i:=16) rfl ?_ trivial
                   refine guard_on hF rfl rfl hbv_3 ?_
                   have hr_29:Reps C_int Dv_9 [0,0] [iv 0,iv 0]:=Reps.cons (C:=C_int) (x:=0) (c:=[iv 0]) (r:=[iv 0]) rfl (Reps.cons (C:=C_int) (x:=0) (c:=[iv 0]) (r:=[]) rfl (Reps.nil))
                   refine O.buildSlice (E:=3) (C:=C_int) (xs:=[0,0]) (cs:=[iv 0,iv 0]) (us:=[iv 0,iv 0]) (parts:=[(0,(.const (iv 0))),(1,(.const (iv 0)))]) 10 hF hS rfl (by kernel_rfl) hr_29 rfl rfl rfl fun p_30 c_20 a w hF hS=>nT ⟨hS.weak ⟨rfl,trivial⟩,?_⟩
                   refine oneV (i:=17) rfl ?_ trivial
                   refine guard_on hF rfl rfl hbv_3 ?_
                   obtain ⟨Dv_43,hlev_42,hs_40,hS⟩:=hS.freezeC (C:=C_int) (i:=10) (xs:=[0,0]) rfl hr_29
                   replace hs_4:=hs_4.mono hlev_42
                   refine O.callP (us:=[.slice p_4 rv.1.length c_4,.slice p_30 ([0,0]).length c_20]) ca_26 hF hS (r0Alike_ok hS.stab rv.1 ([0,0]) hs_4 hs_40 rv_7 hx_7) rfl rfl fun a w hF hS=>nT ⟨(hS.weak (ms:=[(9,.cells b [iv rv_6.1.Low,iv rv_6.1.High] 27)]) ⟨rfl,trivial⟩).weakD hlev_42 hle0,?_⟩
                   refine stepV (i:=18) rfl hF (fun w hS=>Y.pick_t hF rfl hbv_3 rfl) rfl fun a hF=>stepV (i:=19) rfl hF (fun w hS=>Y.move hF rfl) rfl fun a hF=>stepV_on (i:=20) rfl hF rfl rfl hbv_4 (fun w hS=>Y.move hF rfl) rfl fun a hF=>stepV_on (i:=21) rfl hF rfl rfl hbv_4 (fun w hS=>Y.eql hF rfl rfl) rfl fun a hF=>stepV (i:=22) rfl hF (fun w hS=>Y.pick_t hF rfl hbv_4 rfl) rfl fun a hF=>stepV (i:=23) rfl hF (fun w hS=>Y.move hF rfl) rfl fun a hF=>stepV_on (i:=24) rfl hF rfl rfl hbv_5 (fun w hS=>Y.move hF rfl) rfl fun a hF=>stepV_on (i:=25) rfl hF rfl rfl hbv_5 (fun w hS=>Y.eql hF rfl rfl) rfl fun a hF=>stepV (i:=26) rfl hF (fun w hS=>Y.pick_t hF rfl hbv_5 rfl) rfl fun a hF=>stepV (i:=27) rfl hF (fun w hS=>Y.move hF rfl) rfl fun a hF=>stepV_on (i:=28) rfl hF rfl rfl hbv_6 (fun w hS=>Y.move hF rfl) rfl fun a hF=>stepV_on (i:=29) rfl hF rfl rfl hbv_6 (fun w hS=>Y.eql hF rfl rfl) rfl fun a hF=>stepV (i:=30) rfl hF (fun w hS=>Y.pick_t hF rfl hbv_6 rfl) rfl fun a hF=>stepV (i:=31) rfl hF (fun w hS=>Y.move hF rfl) rfl fun a hF=>stepV_on (i:=32) rfl hF rfl rfl hbv_7 (fun w hS=>Y.loadNL 9 sz_27 hF rfl hS rfl rfl rfl) rfl fun a hF=>oneV (i:=33) rfl ?_ trivial
                   refine guard_on hF rfl rfl hbv_7 (O.callP (us:=[iv (-4),iv (-3)]) ca_12 hF hS (r0To_ok hS.stab (-4) (-3) rv_8 hx_8) rfl rfl fun a w hF hS=>nT ⟨(hS.weak (ms:=[(9,.cells b [iv rv_6.1.Low,iv rv_6.1.High] 27)]) ⟨rfl,trivial⟩).weakD hlev_42 hle0,?_⟩)
                   refine stepV_on (i:=34) rfl hF rfl rfl hbv_7 (fun w hS=>Y.eqst (fun w=>eqT_27.equal (by decide) (l:=[rv_6.1.Low,rv_6.1.High]) (m:=[rv_8.Low,rv_8.High]) rfl rfl) (fun w=>run_eqGuard_agg _ _ _ _ _ _ _ eg_27) hF rfl rfl) rfl fun a hF=>stepV (i:=35) rfl hF (fun w hS=>Y.pick_t hF rfl hbv_7 rfl) rfl fun a hF=>toTailV ⟨Dv_43,hlev_42,hF.weak ⟨rfl,rfl,trivial⟩,hS.weak ⟨rfl,trivial⟩⟩
                 as_aux_lemma=>
                  skip
                  replace ht_7:=cond_f ht_7 hbv_7
                  obtain rfl:=some_inj ht_7
                  refine stepV (i:=0) rfl hF (fun w hS=>Y.move hF rfl) rfl fun a hF=>stepV (i:=1) rfl hF (fun w hS=>Y.eql hF rfl rfl) rfl fun a hF=>stepV (i:=2) rfl hF (fun w hS=>Y.move hF rfl) rfl fun a hF=>stepV_on (i:=3) rfl hF rfl rfl hbv (fun w hS=>Y.move hF rfl) rfl fun a hF=>stepV_on (i:=4) rfl hF rfl rfl hbv (fun w hS=>Y.eql hF rfl rfl) rfl fun a hF=>stepV (i:=5) rfl hF (fun w hS=>Y.pick_t hF rfl hbv rfl) rfl fun a hF=>stepV (i:=6) rfl hF (fun w hS=>Y.move hF rfl) rfl fun a hF=>stepV_on (i:=7) rfl hF rfl rfl hbv_1 (fun w hS=>Y.move hF rfl) rfl fun a hF=>stepV_on (i:=8) rfl hF rfl rfl hbv_1 (fun w hS=>Y.eql hF rfl rfl) rfl fun a hF=>stepV (i:=9) rfl hF (fun w hS=>Y.pick_t hF rfl hbv_1 rfl) rfl fun a hF=>stepV (i:=10) rfl hF (fun w hS=>Y.move hF rfl) rfl fun a hF=>stepV_on (i:=11) rfl hF rfl rfl hbv_2 (fun w hS=>Y.move hF rfl) rfl fun a hF=>stepV_on (i:=12) rfl hF rfl rfl hbv_2 (fun w hS=>Y.eql hF rfl rfl) rfl fun a hF=>stepV (i:=13) rfl hF (fun w hS=>Y.pick_t hF rfl hbv_2 rfl) rfl fun a hF=>stepV (i:=14) rfl hF (fun w hS=>Y.move hF rfl) rfl fun a hF=>stepV_on (i:=15) rfl hF rfl rfl hbv_3 (fun w hS=>Y.move hF rfl) rfl fun a hF=>oneV (i:=16) rfl ?_ trivial
                  refine guard_on hF rfl rfl hbv_3 ?_
                  have hr_30:Reps C_int Dv_9 [0,0] [iv 0,iv 0]:=Reps.cons (C:=C_int) (x:=0) (c:=[iv 0]) (r:=[iv 0]) rfl (Reps.cons (C:=C_int) (x:=0) (c:=[iv 0]) (r:=[]) rfl (Reps.nil))
                  refine O.buildSlice (E:=3) (C:=C_int) (xs:=[0,0]) (cs:=[iv 0,iv 0]) (us:=[iv 0,iv 0]) (parts:=[(0,(.const (iv 0))),(1,(.const (iv 0)))]) 10 hF hS rfl (by kernel_rfl) hr_30 rfl rfl rfl fun p_31 c_21 a w hF hS=>nT ⟨hS.weak ⟨rfl,trivial⟩,?_⟩
                  refine oneV (i:=17) rfl ?_ trivial
                  refine guard_on hF rfl rfl hbv_3 ?_
                  obtain ⟨Dv_44,hlev_43,hs_41,hS⟩:=hS.freezeC (C:=C_int) (i:=10) (xs:=[0,0]) rfl hr_30
                  replace hs_4:=hs_4.mono hlev_43
                  refine O.callP (us:=[.slice p_4 rv.1.length c_4,.slice p_31 ([0,0]).length c_21]) ca_26 hF hS (r0Alike_ok hS.stab rv.1 ([0,0]) hs_4 hs_41 rv_7 hx_7) rfl rfl fun a w hF hS=>nT ⟨(hS.weak (ms:=[(9,.cells b [iv rv_6.1.Low,iv rv_6.1.High] 27)]) ⟨rfl,trivial⟩).weakD hlev_43 hle0,?_⟩
                  refine stepV (i:=18) rfl hF (fun w hS=>Y.pick_t hF rfl hbv_3 rfl) rfl fun a hF=>stepV (i:=19) rfl hF (fun w hS=>Y.move hF rfl) rfl fun a hF=>stepV_on (i:=20) rfl hF rfl rfl hbv_4 (fun w hS=>Y.move hF rfl) rfl fun a hF=>stepV_on (i:=21) rfl hF rfl rfl hbv_4 (fun w hS=>Y.eql hF rfl rfl) rfl fun a hF=>stepV (i:=22) rfl hF (fun w hS=>Y.pick_t hF rfl hbv_4 rfl) rfl fun a hF=>stepV (i:=23) rfl hF (fun w hS=>Y.move hF rfl) rfl fun a hF=>stepV_on (i:=24) rfl hF rfl rfl hbv_5 (fun w hS=>Y.move hF rfl) rfl fun a hF=>stepV_on (i:=25) rfl hF rfl rfl hbv_5 (fun w hS=>Y.eql hF rfl rfl) rfl fun a hF=>stepV (i:=26) rfl hF (fun w hS=>Y.pick_t hF rfl hbv_5 rfl) rfl fun a hF=>stepV (i:=27) rfl hF (fun w hS=>Y.move hF rfl) rfl fun a hF=>stepV_on (i:=28) rfl hF rfl rfl hbv_6 (fun w hS=>Y.move hF rfl) rfl fun a hF=>stepV_on (i:=29) rfl hF rfl rfl hbv_6 (fun w hS=>Y.eql hF rfl rfl) rfl fun a hF=>stepV (i:=30) rfl hF (fun w hS=>Y.pick_t hF rfl hbv_6 rfl) rfl fun a hF=>stepV (i:=31) rfl hF (fun w hS=>Y.move hF rfl) rfl fun a hF=>stepV_off (i:=32) rfl hF rfl rfl hbv_7 rfl fun a hF=>oneV (i:=33) rfl ?_ trivial
                  refine guard_off hF rfl rfl hbv_7 rfl fun a hF=>nT ⟨(hS.weak (ms:=[(9,.cells b [iv rv_6.1.Low,iv rv_6.1.High] 27)]) ⟨rfl,trivial⟩).weakD hlev_43 hle0,?_⟩
                  refine stepV_off (i:=34) rfl hF rfl rfl hbv_7 rfl fun a hF=>stepV (i:=35) rfl hF (fun w hS=>Y.pick_f hF rfl hbv_7 rfl) rfl fun a hF=>toTailV ⟨Dv_44,hlev_43,hF.weak ⟨rfl,rfl,trivial⟩,hS.weak ⟨rfl,trivial⟩⟩
               as_aux_lemma=>
                skip
                replace ht_6:=cond_f ht_6 hbv_6
                obtain rfl:=some_inj ht_6
                replace ht_7:=cond_f ht_7 rfl
                obtain rfl:=some_inj ht_7
                refine stepV (i:=0) rfl hF (fun w hS=>Y.move hF rfl) rfl fun a hF=>stepV (i:=1) rfl hF (fun w hS=>Y.eql hF rfl rfl) rfl fun a hF=>stepV (i:=2) rfl hF (fun w hS=>Y.move hF rfl) rfl fun a hF=>stepV_on (i:=3) rfl hF rfl rfl hbv (fun w hS=>Y.move hF rfl) rfl fun a hF=>stepV_on (i:=4) rfl hF rfl rfl hbv (fun w hS=>Y.eql hF rfl rfl) rfl fun a hF=>stepV (i:=5) rfl hF (fun w hS=>Y.pick_t hF rfl hbv rfl) rfl fun a hF=>stepV (i:=6) rfl hF (fun w hS=>Y.move hF rfl) rfl fun a hF=>stepV_on (i:=7) rfl hF rfl rfl hbv_1 (fun w hS=>Y.move hF rfl) rfl fun a hF=>stepV_on (i:=8) rfl hF rfl rfl hbv_1 (fun w hS=>Y.eql hF rfl rfl) rfl fun a hF=>stepV (i:=9) rfl hF (fun w hS=>Y.pick_t hF rfl hbv_1 rfl) rfl fun a hF=>stepV (i:=10) rfl hF (fun w hS=>Y.move hF rfl) rfl fun a hF=>stepV_on (i:=11) rfl hF rfl rfl hbv_2 (fun w hS=>Y.move hF rfl) rfl fun a hF=>stepV_on (i:=12) rfl hF rfl rfl hbv_2 (fun w hS=>Y.eql hF rfl rfl) rfl fun a hF=>stepV (i:=13) rfl hF (fun w hS=>Y.pick_t hF rfl hbv_2 rfl) rfl fun a hF=>stepV (i:=14) rfl hF (fun w hS=>Y.move hF rfl) rfl fun a hF=>stepV_on (i:=15) rfl hF rfl rfl hbv_3 (fun w hS=>Y.move hF rfl) rfl fun a hF=>oneV (i:=16) rfl ?_ trivial
                refine guard_on hF rfl rfl hbv_3 ?_
                have hr_31:Reps C_int Dv_9 [0,0] [iv 0,iv 0]:=Reps.cons (C:=C_int) (x:=0) (c:=[iv 0]) (r:=[iv 0]) rfl (Reps.cons (C:=C_int) (x:=0) (c:=[iv 0]) (r:=[]) rfl (Reps.nil))
                refine O.buildSlice (E:=3) (C:=C_int) (xs:=[0,0]) (cs:=[iv 0,iv 0]) (us:=[iv 0,iv 0]) (parts:=[(0,(.const (iv 0))),(1,(.const (iv 0)))]) 10 hF hS rfl (by kernel_rfl) hr_31 rfl rfl rfl fun p_32 c_22 a w hF hS=>nT ⟨hS.weak ⟨rfl,trivial⟩,?_⟩
                refine oneV (i:=17) rfl ?_ trivial
                refine guard_on hF rfl rfl hbv_3 ?_
                obtain ⟨Dv_45,hlev_44,hs_42,hS⟩:=hS.freezeC (C:=C_int) (i:=10) (xs:=[0,0]) rfl hr_31
                replace hs_4:=hs_4.mono hlev_44
                refine O.callP (us:=[.slice p_4 rv.1.length c_4,.slice p_32 ([0,0]).length c_22]) ca_26 hF hS (r0Alike_ok hS.stab rv.1 ([0,0]) hs_4 hs_42 rv_7 hx_7) rfl rfl fun a w hF hS=>nT ⟨(hS.weak (ms:=[(9,.cells b [iv rv_6.1.Low,iv rv_6.1.High] 27)]) ⟨rfl,trivial⟩).weakD hlev_44 hle0,?_⟩
                refine stepV (i:=18) rfl hF (fun w hS=>Y.pick_t hF rfl hbv_3 rfl) rfl fun a hF=>stepV (i:=19) rfl hF (fun w hS=>Y.move hF rfl) rfl fun a hF=>stepV_on (i:=20) rfl hF rfl rfl hbv_4 (fun w hS=>Y.move hF rfl) rfl fun a hF=>stepV_on (i:=21) rfl hF rfl rfl hbv_4 (fun w hS=>Y.eql hF rfl rfl) rfl fun a hF=>stepV (i:=22) rfl hF (fun w hS=>Y.pick_t hF rfl hbv_4 rfl) rfl fun a hF=>stepV (i:=23) rfl hF (fun w hS=>Y.move hF rfl) rfl fun a hF=>stepV_on (i:=24) rfl hF rfl rfl hbv_5 (fun w hS=>Y.move hF rfl) rfl fun a hF=>stepV_on (i:=25) rfl hF rfl rfl hbv_5 (fun w hS=>Y.eql hF rfl rfl) rfl fun a hF=>stepV (i:=26) rfl hF (fun w hS=>Y.pick_t hF rfl hbv_5 rfl) rfl fun a hF=>stepV (i:=27) rfl hF (fun w hS=>Y.move hF rfl) rfl fun a hF=>stepV_off (i:=28) rfl hF rfl rfl hbv_6 rfl fun a hF=>stepV_off (i:=29) rfl hF rfl rfl hbv_6 rfl fun a hF=>stepV (i:=30) rfl hF (fun w hS=>Y.pick_f hF rfl hbv_6 rfl) rfl fun a hF=>stepV (i:=31) rfl hF (fun w hS=>Y.move hF rfl) rfl fun a hF=>stepV_off (i:=32) rfl hF rfl rfl rfl rfl fun a hF=>oneV (i:=33) rfl ?_ trivial
                refine guard_off hF rfl rfl rfl rfl fun a hF=>nT ⟨(hS.weak (ms:=[(9,.cells b [iv rv_6.1.Low,iv rv_6.1.High] 27)]) ⟨rfl,trivial⟩).weakD hlev_44 hle0,?_⟩
                refine stepV_off (i:=34) rfl hF rfl rfl rfl rfl fun a hF=>stepV (i:=35) rfl hF (fun w hS=>Y.pick_f hF rfl rfl rfl) rfl fun a hF=>toTailV ⟨Dv_45,hlev_44,hF.weak ⟨rfl,rfl,trivial⟩,hS.weak ⟨rfl,trivial⟩⟩
             as_aux_lemma=>
              skip
              replace ht_5:=cond_f ht_5 hbv_5
              obtain rfl:=some_inj ht_5
              replace ht_6:=cond_f ht_6 rfl
              obtain rfl:=some_inj ht_6
              replace ht_7:=cond_f ht_7 rfl
              obtain rfl:=some_inj ht_7
              refine stepV (i:=0) rfl hF (fun w hS=>Y.move hF rfl) rfl fun a hF=>stepV (i:=1) rfl hF (fun w hS=>Y.eql hF rfl rfl) rfl fun a hF=>stepV (i:=2) rfl hF (fun w hS=>Y.move hF rfl) rfl fun a hF=>stepV_on (i:=3) rfl hF rfl rfl hbv (fun w hS=>Y.move hF rfl) rfl fun a hF=>stepV_on (i:=4) rfl hF rfl rfl hbv (fun w hS=>Y.eql hF rfl rfl) rfl fun a hF=>stepV (i:=5) rfl hF (fun w hS=>Y.pick_t hF rfl hbv rfl) rfl fun a hF=>stepV (i:=6) rfl hF (fun w hS=>Y.move hF rfl) rfl fun a hF=>stepV_on (i:=7) rfl hF rfl rfl hbv_1 (fun w hS=>Y.move hF rfl) rfl fun a hF=>stepV_on (i:=8) rfl hF rfl rfl hbv_1 (fun w hS=>Y.eql hF rfl rfl) rfl fun a hF=>stepV (i:=9) rfl hF (fun w hS=>Y.pick_t hF rfl hbv_1 rfl) rfl fun a hF=>stepV (i:=10) rfl hF (fun w hS=>Y.move hF rfl) rfl fun a hF=>stepV_on (i:=11) rfl hF rfl rfl hbv_2 (fun w hS=>Y.move hF rfl) rfl fun a hF=>stepV_on (i:=12) rfl hF rfl rfl hbv_2 (fun w hS=>Y.eql hF rfl rfl) rfl fun a hF=>stepV (i:=13) rfl hF (fun w hS=>Y.pick_t hF rfl hbv_2 rfl) rfl fun a hF=>stepV (i:=14) rfl hF (fun w hS=>Y.move hF rfl) rfl fun a hF=>stepV_on (i:=15) rfl hF rfl rfl hbv_3 (fun w hS=>Y.move hF rfl) rfl fun a hF=>oneV (i:=16) rfl ?_ trivial
              refine guard_on hF rfl rfl hbv_3 ?_
              have hr_32:Reps C_int Dv_9 [0,0] [iv 0,iv 0]:=Reps.cons (C:=C_int) (x:=0) (c:=[iv 0]) (r:=[iv 0]) rfl (Reps.cons (C:=C_int) (x:=0) (c:=[iv 0]) (r:=[]) rfl (Reps.nil))
              refine O.buildSlice (E:=3) (C:=C_int) (xs:=[0,0]) (cs:=[iv 0,iv 0]) (us:=[iv 0,iv 0]) (parts:=[(0,(.const (iv 0))),(1,(.const (iv 0)))]) 10 hF hS rfl (by kernel_rfl) hr_32 rfl rfl rfl fun p_33 c_23 a w hF hS=>nT ⟨hS.weak ⟨rfl,trivial⟩,?_⟩
              refine oneV (i:=17) rfl ?_ trivial
              refine guard_on hF rfl rfl hbv_3 ?_
              obtain ⟨Dv_46,hlev_45,hs_43,hS⟩:=hS.freezeC (C:=C_int) (i:=10) (xs:=[0,0]) rfl hr_32
              replace hs_4:=hs_4.mono hlev_45
              refine O.callP (us:=[.slice p_4 rv.1.length c_4,.slice p_33 ([0,0]).length c_23]) ca_26 hF hS (r0Alike_ok hS.stab rv.1 ([0,0]) hs_4 hs_43 rv_7 hx_7) rfl rfl fun a w hF hS=>nT ⟨(hS.weak (ms:=[(9,.cells b [iv rv_6.1.Low,iv rv_6.1.High] 27)]) ⟨rfl,trivial⟩).weakD hlev_45 hle0,?_⟩
              refine stepV (i:=18) rfl hF (fun w hS=>Y.pick_t hF rfl hbv_3 rfl) rfl fun a hF=>stepV (i:=19) rfl hF (fun w hS=>Y.move hF rfl) rfl fun a hF=>stepV_on (i:=20) rfl hF rfl rfl hbv_4 (fun w hS=>Y.move hF rfl) rfl fun a hF=>stepV_on (i:=21) rfl hF rfl rfl hbv_4 (fun w hS=>Y.eql hF rfl rfl) rfl fun a hF=>stepV (i:=22) rfl hF (fun w hS=>Y.pick_t hF rfl hbv_4 rfl) rfl fun a hF=>stepV (i:=23) rfl hF (fun w hS=>Y.move hF rfl) rfl fun a hF=>stepV_off (i:=24) rfl hF rfl rfl hbv_5 rfl fun a hF=>stepV_off (i:=25) rfl hF rfl rfl hbv_5 rfl fun a hF=>stepV (i:=26) rfl hF (fun w hS=>Y.pick_f hF rfl hbv_5 rfl) rfl fun a hF=>stepV (i:=27) rfl hF (fun w hS=>Y.move hF rfl) rfl fun a hF=>stepV_off (i:=28) rfl hF rfl rfl rfl rfl fun a hF=>stepV_off (i:=29) rfl hF rfl rfl rfl rfl fun a hF=>stepV (i:=30) rfl hF (fun w hS=>Y.pick_f hF rfl rfl rfl) rfl fun a hF=>stepV (i:=31) rfl hF (fun w hS=>Y.move hF rfl) rfl fun a hF=>stepV_off (i:=32) rfl hF rfl rfl rfl rfl fun a hF=>oneV (i:=33) rfl ?_ trivial
              refine guard_off hF rfl rfl rfl rfl fun a hF=>nT ⟨(hS.weak (ms:=[(9,.cells b [iv rv_6.1.Low,iv rv_6.1.High] 27)]) ⟨rfl,trivial⟩).weakD hlev_45 hle0,?_⟩
              refine stepV_off (i:=34) rfl hF rfl rfl rfl rfl fun a hF=>stepV (i:=35) rfl hF (fun w hS=>Y.pick_f hF rfl rfl rfl) rfl fun a hF=>toTailV ⟨Dv_46,hlev_45,hF.weak ⟨rfl,rfl,trivial⟩,hS.weak ⟨rfl,trivial⟩⟩
           as_aux_lemma=>
            skip
            replace ht_4:=cond_f ht_4 hbv_4
            obtain rfl:=some_inj ht_4
            replace ht_5:=cond_f ht_5 rfl
            obtain rfl:=some_inj ht_5
            replace ht_6:=cond_f ht_6 rfl
            obtain rfl:=some_inj ht_6
            replace ht_7:=cond_f ht_7 rfl
            obtain rfl:=some_inj ht_7
            refine stepV (i:=0) rfl hF (fun w hS=>Y.move hF rfl) rfl fun a hF=>stepV (i:=1) rfl hF (fun w hS=>Y.eql hF rfl rfl) rfl fun a hF=>stepV (i:=2) rfl hF (fun w hS=>Y.move hF rfl) rfl fun a hF=>stepV_on (i:=3) rfl hF rfl rfl hbv (fun w hS=>Y.move hF rfl) rfl fun a hF=>stepV_on (i:=4) rfl hF rfl rfl hbv (fun w hS=>Y.eql hF rfl rfl) rfl fun a hF=>stepV (i:=5) rfl hF (fun w hS=>Y.pick_t hF rfl hbv rfl) rfl fun a hF=>stepV (i:=6) rfl hF (fun w hS=>Y.move hF rfl) rfl fun a hF=>stepV_on (i:=7) rfl hF rfl rfl hbv_1 (fun w hS=>Y.move hF rfl) rfl fun a hF=>stepV_on (i:=8) rfl hF rfl rfl hbv_1 (fun w hS=>Y.eql hF rfl rfl) rfl fun a hF=>stepV (i:=9) rfl hF (fun w hS=>Y.pick_t hF rfl hbv_1 rfl) rfl fun a hF=>stepV (i:=10) rfl hF (fun w hS=>Y.move hF rfl) rfl fun a hF=>stepV_on (i:=11) rfl hF rfl rfl hbv_2 (fun w hS=>Y.move hF rfl) rfl fun a hF=>stepV_on (i:=12) rfl hF rfl rfl hbv_2 (fun w hS=>Y.eql hF rfl rfl) rfl fun a hF=>stepV (i:=13) rfl hF (fun w hS=>Y.pick_t hF rfl hbv_2 rfl) rfl fun a hF=>stepV (i:=14) rfl hF (fun w hS=>Y.move hF rfl) rfl fun a hF=>stepV_on (i:=15) rfl hF rfl rfl hbv_3 (fun w hS=>Y.move hF rfl) rfl fun a hF=>oneV (i:=16) rfl ?_ trivial
            refine guard_on hF rfl rfl hbv_3 ?_
            have hr_33:Reps C_int Dv_9 [0,0] [iv 0,iv 0]:=Reps.cons (C:=C_int) (x:=0) (c:=[iv 0]) (r:=[iv 0]) rfl (Reps.cons (C:=C_int) (x:=0) (c:=[iv 0]) (r:=[]) rfl (Reps.nil))
            refine O.buildSlice (E:=3) (C:=C_int) (xs:=[0,0]) (cs:=[iv 0,iv 0]) (us:=[iv 0,iv 0]) (parts:=[(0,(.const (iv 0))),(1,(.const (iv 0)))]) 10 hF hS rfl (by kernel_rfl) hr_33 rfl rfl rfl fun p_34 c_24 a w hF hS=>nT ⟨hS.weak ⟨rfl,trivial⟩,?_⟩
            refine oneV (i:=17) rfl ?_ trivial
            refine guard_on hF rfl rfl hbv_3 ?_
            obtain ⟨Dv_47,hlev_46,hs_44,hS⟩:=hS.freezeC (C:=C_int) (i:=10) (xs:=[0,0]) rfl hr_33
            replace hs_4:=hs_4.mono hlev_46
            refine O.callP (us:=[.slice p_4 rv.1.length c_4,.slice p_34 ([0,0]).length c_24]) ca_26 hF hS (r0Alike_ok hS.stab rv.1 ([0,0]) hs_4 hs_44 rv_7 hx_7) rfl rfl fun a w hF hS=>nT ⟨(hS.weak (ms:=[(9,.cells b [iv rv_6.1.Low,iv rv_6.1.High] 27)]) ⟨rfl,trivial⟩).weakD hlev_46 hle0,?_⟩
            refine stepV (i:=18) rfl hF (fun w hS=>Y.pick_t hF rfl hbv_3 rfl) rfl fun a hF=>stepV (i:=19) rfl hF (fun w hS=>Y.move hF rfl) rfl fun a hF=>stepV_off (i:=20) rfl hF rfl rfl hbv_4 rfl fun a hF=>stepV_off (i:=21) rfl hF rfl rfl hbv_4 rfl fun a hF=>stepV (i:=22) rfl hF (fun w hS=>Y.pick_f hF rfl hbv_4 rfl) rfl fun a hF=>stepV (i:=23) rfl hF (fun w hS=>Y.move hF rfl) rfl fun a hF=>stepV_off (i:=24) rfl hF rfl rfl rfl rfl fun a hF=>stepV_off (i:=25) rfl hF rfl rfl rfl rfl fun a hF=>stepV (i:=26) rfl hF (fun w hS=>Y.pick_f hF rfl rfl rfl) rfl fun a hF=>stepV (i:=27) rfl hF (fun w hS=>Y.move hF rfl) rfl fun a hF=>stepV_off (i:=28) rfl hF rfl rfl rfl rfl fun a hF=>stepV_off (i:=29) rfl hF rfl rfl rfl rfl fun a hF=>stepV (i:=30) rfl hF (fun w hS=>Y.pick_f hF rfl rfl rfl) rfl fun a hF=>stepV (i:=31) rfl hF (fun w hS=>Y.move hF rfl) rfl fun a hF=>stepV_off (i:=32) rfl hF rfl rfl rfl rfl fun a hF=>oneV (i:=33) rfl ?_ trivial
            refine guard_off hF rfl rfl rfl rfl fun a hF=>nT ⟨(hS.weak (ms:=[(9,.cells b [iv rv_6.1.Low,iv rv_6.1.High] 27)]) ⟨rfl,trivial⟩).weakD hlev_46 hle0,?_⟩
            refine stepV_off (i:=34) rfl hF rfl rfl rfl rfl fun a hF=>stepV (i:=35) rfl hF (fun w hS=>Y.pick_f hF rfl rfl rfl) rfl fun a hF=>toTailV ⟨Dv_47,hlev_46,hF.weak ⟨rfl,rfl,trivial⟩,hS.weak ⟨rfl,trivial⟩⟩
         replace ht_3:=cond_f ht_3 hbv_3
         obtain rfl:=some_inj ht_3
         replace ht_4:=cond_f ht_4 rfl
         obtain rfl:=some_inj ht_4
         replace ht_5:=cond_f ht_5 rfl
         obtain rfl:=some_inj ht_5
         replace ht_6:=cond_f ht_6 rfl
         obtain rfl:=some_inj ht_6
         replace ht_7:=cond_f ht_7 rfl
         obtain rfl:=some_inj ht_7
         refine stepV (i:=0) rfl hF (fun w hS=>Y.move hF rfl) rfl fun a hF=>stepV (i:=1) rfl hF (fun w hS=>Y.eql hF rfl rfl) rfl fun a hF=>stepV (i:=2) rfl hF (fun w hS=>Y.move hF rfl) rfl fun a hF=>stepV_on (i:=3) rfl hF rfl rfl hbv (fun w hS=>Y.move hF rfl) rfl fun a hF=>stepV_on (i:=4) rfl hF rfl rfl hbv (fun w hS=>Y.eql hF rfl rfl) rfl fun a hF=>stepV (i:=5) rfl hF (fun w hS=>Y.pick_t hF rfl hbv rfl) rfl fun a hF=>stepV (i:=6) rfl hF (fun w hS=>Y.move hF rfl) rfl fun a hF=>stepV_on (i:=7) rfl hF rfl rfl hbv_1 (fun w hS=>Y.move hF rfl) rfl fun a hF=>stepV_on (i:=8) rfl hF rfl rfl hbv_1 (fun w hS=>Y.eql hF rfl rfl) rfl fun a hF=>stepV (i:=9) rfl hF (fun w hS=>Y.pick_t hF rfl hbv_1 rfl) rfl fun a hF=>stepV (i:=10) rfl hF (fun w hS=>Y.move hF rfl) rfl fun a hF=>stepV_on (i:=11) rfl hF rfl rfl hbv_2 (fun w hS=>Y.move hF rfl) rfl fun a hF=>stepV_on (i:=12) rfl hF rfl rfl hbv_2 (fun w hS=>Y.eql hF rfl rfl) rfl fun a hF=>stepV (i:=13) rfl hF (fun w hS=>Y.pick_t hF rfl hbv_2 rfl) rfl fun a hF=>stepV (i:=14) rfl hF (fun w hS=>Y.move hF rfl) rfl fun a hF=>stepV_off (i:=15) rfl hF rfl rfl hbv_3 rfl fun a hF=>oneV (i:=16) rfl ?_ trivial
         refine guard_off hF rfl rfl hbv_3 rfl fun a hF=>nT ⟨hS.weak ⟨rfl,trivial⟩,?_⟩
         refine oneV (i:=17) rfl ?_ trivial
         refine guard_off hF rfl rfl hbv_3 rfl fun a hF=>nT ⟨hS.weak ⟨rfl,trivial⟩,?_⟩
         refine stepV (i:=18) rfl hF (fun w hS=>Y.pick_f hF rfl hbv_3 rfl) rfl fun a hF=>stepV (i:=19) rfl hF (fun w hS=>Y.move hF rfl) rfl fun a hF=>stepV_off (i:=20) rfl hF rfl rfl rfl rfl fun a hF=>stepV_off (i:=21) rfl hF rfl rfl rfl rfl fun a hF=>stepV (i:=22) rfl hF (fun w hS=>Y.pick_f hF rfl rfl rfl) rfl fun a hF=>stepV (i:=23) rfl hF (fun w hS=>Y.move hF rfl) rfl fun a hF=>stepV_off (i:=24) rfl hF rfl rfl rfl rfl fun a hF=>stepV_off (i:=25) rfl hF rfl rfl rfl rfl fun a hF=>stepV (i:=26) rfl hF (fun w hS=>Y.pick_f hF rfl rfl rfl) rfl fun a hF=>stepV (i:=27) rfl hF (fun w hS=>Y.move hF rfl) rfl fun a hF=>stepV_off (i:=28) rfl hF rfl rfl rfl rfl fun a hF=>stepV_off (i:=29) rfl hF rfl rfl rfl rfl fun a hF=>stepV (i:=30) rfl hF (fun w hS=>Y.pick_f hF rfl rfl rfl) rfl fun a hF=>stepV (i:=31) rfl hF (fun w hS=>Y.move hF rfl) rfl fun a hF=>stepV_off (i:=32) rfl hF rfl rfl rfl rfl fun a hF=>oneV (i:=33) rfl ?_ trivial
         refine guard_off hF rfl rfl rfl rfl fun a hF=>nT ⟨hS.weak ⟨rfl,trivial⟩,?_⟩
         refine stepV_off (i:=34) rfl hF rfl rfl rfl rfl fun a hF=>stepV (i:=35) rfl hF (fun w hS=>Y.pick_f hF rfl rfl rfl) rfl fun a hF=>toTailV ⟨Dv_9,Stab.le.refl _,hF.weak ⟨rfl,rfl,trivial⟩,hS.weak ⟨rfl,trivial⟩⟩
       replace ht_2:=cond_f ht_2 hbv_2
       obtain rfl:=some_inj ht_2
       replace ht_3:=cond_f ht_3 rfl
       obtain rfl:=some_inj ht_3
       replace ht_4:=cond_f ht_4 rfl
       obtain rfl:=some_inj ht_4
       replace ht_5:=cond_f ht_5 rfl
       obtain rfl:=some_inj ht_5
       replace ht_6:=cond_f ht_6 rfl
       obtain rfl:=some_inj ht_6
       replace ht_7:=cond_f ht_7 rfl
       obtain rfl:=some_inj ht_7
       refine stepV (i:=0) rfl hF (fun w hS=>Y.move hF rfl) rfl fun a hF=>stepV (i:=1) rfl hF (fun w hS=>Y.eql hF rfl rfl) rfl fun a hF=>stepV (i:=2) rfl hF (fun w hS=>Y.move hF rfl) rfl fun a hF=>stepV_on (i:=3) rfl hF rfl rfl hbv (fun w hS=>Y.move hF rfl) rfl fun a hF=>stepV_on (i:=4) rfl hF rfl rfl hbv (fun w hS=>Y.eql hF rfl rfl) rfl fun a hF=>stepV (i:=5) rfl hF (fun w hS=>Y.pick_t hF rfl hbv rfl) rfl fun a hF=>stepV (i:=6) rfl hF (fun w hS=>Y.move hF rfl) rfl fun a hF=>stepV_on (i:=7) rfl hF rfl rfl hbv_1 (fun w hS=>Y.move hF rfl) rfl fun a hF=>stepV_on (i:=8) rfl hF rfl rfl hbv_1 (fun w hS=>Y.eql hF rfl rfl) rfl fun a hF=>stepV (i:=9) rfl hF (fun w hS=>Y.pick_t hF rfl hbv_1 rfl) rfl fun a hF=>stepV (i:=10) rfl hF (fun w hS=>Y.move hF rfl) rfl fun a hF=>stepV_off (i:=11) rfl hF rfl rfl hbv_2 rfl fun a hF=>stepV_off (i:=12) rfl hF rfl rfl hbv_2 rfl fun a hF=>stepV (i:=13) rfl hF (fun w hS=>Y.pick_f hF rfl hbv_2 rfl) rfl fun a hF=>stepV (i:=14) rfl hF (fun w hS=>Y.move hF rfl) rfl fun a hF=>stepV_off (i:=15) rfl hF rfl rfl rfl rfl fun a hF=>oneV (i:=16) rfl ?_ trivial
       refine guard_off hF rfl rfl rfl rfl fun a hF=>nT ⟨hS.weak ⟨rfl,trivial⟩,?_⟩
       refine oneV (i:=17) rfl ?_ trivial
       refine guard_off hF rfl rfl rfl rfl fun a hF=>nT ⟨hS.weak ⟨rfl,trivial⟩,?_⟩
       refine stepV (i:=18) rfl hF (fun w hS=>Y.pick_f hF rfl rfl rfl) rfl fun a hF=>stepV (i:=19) rfl hF (fun w hS=>Y.move hF rfl) rfl fun a hF=>stepV_off (i:=20) rfl hF rfl rfl rfl rfl fun a hF=>stepV_off (i:=21) rfl hF rfl rfl rfl rfl fun a hF=>stepV (i:=22) rfl hF (fun w hS=>Y.pick_f hF rfl rfl rfl) rfl fun a hF=>stepV (i:=23) rfl hF (fun w hS=>Y.move hF rfl) rfl fun a hF=>stepV_off (i:=24) rfl hF rfl rfl rfl rfl fun a hF=>stepV_off (i:=25) rfl hF rfl rfl rfl rfl fun a hF=>stepV (i:=26) rfl hF (fun w hS=>Y.pick_f hF rfl rfl rfl) rfl fun a hF=>stepV (i:=27) rfl hF (fun w hS=>Y.move hF rfl) rfl fun a hF=>stepV_off (i:=28) rfl hF rfl rfl rfl rfl fun a hF=>stepV_off (i:=29) rfl hF rfl rfl rfl rfl fun a hF=>stepV (i:=30) rfl hF (fun w hS=>Y.pick_f hF rfl rfl rfl) rfl fun a hF=>stepV (i:=31) rfl hF (fun w hS=>Y.move hF rfl) rfl fun a hF=>stepV_off (i:=32) rfl hF rfl rfl rfl rfl fun a hF=>oneV (i:=33) rfl ?_ trivial
       refine guard_off hF rfl rfl rfl rfl fun a hF=>nT ⟨hS.weak ⟨rfl,trivial⟩,?_⟩
       refine stepV_off (i:=34) rfl hF rfl rfl rfl rfl fun a hF=>stepV (i:=35) rfl hF (fun w hS=>Y.pick_f hF rfl rfl rfl) rfl fun a hF=>toTailV ⟨Dv_9,Stab.le.refl _,hF.weak ⟨rfl,rfl,trivial⟩,hS.weak ⟨rfl,trivial⟩⟩
     replace ht_1:=cond_f ht_1 hbv_1
     obtain rfl:=some_inj ht_1
     replace ht_2:=cond_f ht_2 rfl
     obtain rfl:=some_inj ht_2
     replace ht_3:=cond_f ht_3 rfl
     obtain rfl:=some_inj ht_3
     replace ht_4:=cond_f ht_4 rfl
     obtain rfl:=some_inj ht_4
     replace ht_5:=cond_f ht_5 rfl
     obtain rfl:=some_inj ht_5
     replace ht_6:=cond_f ht_6 rfl
     obtain rfl:=some_inj ht_6
     replace ht_7:=cond_f ht_7 rfl
     obtain rfl:=some_inj ht_7
     refine stepV (i:=0) rfl hF (fun w hS=>Y.move hF rfl) rfl fun a hF=>stepV (i:=1) rfl hF (fun w hS=>Y.eql hF rfl rfl) rfl fun a hF=>stepV (i:=2) rfl hF (fun w hS=>Y.move hF rfl) rfl fun a hF=>stepV_on (i:=3) rfl hF rfl rfl hbv (fun w hS=>Y.move hF rfl) rfl fun a hF=>stepV_on (i:=4) rfl hF rfl rfl hbv (fun w hS=>Y.eql hF rfl rfl) rfl fun a hF=>stepV (i:=5) rfl hF (fun w hS=>Y.pick_t hF rfl hbv rfl) rfl fun a hF=>stepV (i:=6) rfl hF (fun w hS=>Y.move hF rfl) rfl fun a hF=>stepV_off (i:=7) rfl hF rfl rfl hbv_1 rfl fun a hF=>stepV_off (i:=8) rfl hF rfl rfl hbv_1 rfl fun a hF=>stepV (i:=9) rfl hF (fun w hS=>Y.pick_f hF rfl hbv_1 rfl) rfl fun a hF=>stepV (i:=10) rfl hF (fun w hS=>Y.move hF rfl) rfl fun a hF=>stepV_off (i:=11) rfl hF rfl rfl rfl rfl fun a hF=>stepV_off (i:=12) rfl hF rfl rfl rfl rfl fun a hF=>stepV (i:=13) rfl hF (fun w hS=>Y.pick_f hF rfl rfl rfl) rfl fun a hF=>stepV (i:=14) rfl hF (fun w hS=>Y.move hF rfl) rfl fun a hF=>stepV_off (i:=15) rfl hF rfl rfl rfl rfl fun a hF=>oneV (i:=16) rfl ?_ trivial
     refine guard_off hF rfl rfl rfl rfl fun a hF=>nT ⟨hS.weak ⟨rfl,trivial⟩,?_⟩
     refine oneV (i:=17) rfl ?_ trivial
     refine guard_off hF rfl rfl rfl rfl fun a hF=>nT ⟨hS.weak ⟨rfl,trivial⟩,?_⟩
     refine stepV (i:=18) rfl hF (fun w hS=>Y.pick_f hF rfl rfl rfl) rfl fun a hF=>stepV (i:=19) rfl hF (fun w hS=>Y.move hF rfl) rfl fun a hF=>stepV_off (i:=20) rfl hF rfl rfl rfl rfl fun a hF=>stepV_off (i:=21) rfl hF rfl rfl rfl rfl fun a hF=>stepV (i:=22) rfl hF (fun w hS=>Y.pick_f hF rfl rfl rfl) rfl fun a hF=>stepV (i:=23) rfl hF (fun w hS=>Y.move hF rfl) rfl fun a hF=>stepV_off (i:=24) rfl hF rfl rfl rfl rfl fun a hF=>stepV_off (i:=25) rfl hF rfl rfl rfl rfl fun a hF=>stepV (i:=26) rfl hF (fun w hS=>Y.pick_f hF rfl rfl rfl) rfl fun a hF=>stepV (i:=27) rfl hF (fun w hS=>Y.move hF rfl) rfl fun a hF=>stepV_off (i:=28) rfl hF rfl rfl rfl rfl fun a hF=>stepV_off (i:=29) rfl hF rfl rfl rfl rfl fun a hF=>stepV (i:=30) rfl hF (fun w hS=>Y.pick_f hF rfl rfl rfl) rfl fun a hF=>stepV (i:=31) rfl hF (fun w hS=>Y.move hF rfl) rfl fun a hF=>stepV_off (i:=32) rfl hF rfl rfl rfl rfl fun a hF=>oneV (i:=33) rfl ?_ trivial
     refine guard_off hF rfl rfl rfl rfl fun a hF=>nT ⟨hS.weak ⟨rfl,trivial⟩,?_⟩
     refine stepV_off (i:=34) rfl hF rfl rfl rfl rfl fun a hF=>stepV (i:=35) rfl hF (fun w hS=>Y.pick_f hF rfl rfl rfl) rfl fun a hF=>toTailV ⟨Dv_9,Stab.le.refl _,hF.weak ⟨rfl,rfl,trivial⟩,hS.weak ⟨rfl,trivial⟩⟩
   replace ht:=cond_f ht hbv
   obtain rfl:=some_inj ht
   replace ht_1:=cond_f ht_1 rfl
   obtain rfl:=some_inj ht_1
   replace ht_2:=cond_f ht_2 rfl
   obtain rfl:=some_inj ht_2
   replace ht_3:=cond_f ht_3 rfl
   obtain rfl:=some_inj ht_3
   replace ht_4:=cond_f ht_4 rfl
   obtain rfl:=some_inj ht_4
   replace ht_5:=cond_f ht_5 rfl
   obtain rfl:=some_inj ht_5
   replace ht_6:=cond_f ht_6 rfl
   obtain rfl:=some_inj ht_6
   replace ht_7:=cond_f ht_7 rfl
   obtain rfl:=some_inj ht_7
   refine stepV (i:=0) rfl hF (fun w hS=>Y.move hF rfl) rfl fun a hF=>stepV (i:=1) rfl hF (fun w hS=>Y.eql hF rfl rfl) rfl fun a hF=>stepV (i:=2) rfl hF (fun w hS=>Y.move hF rfl) rfl fun a hF=>stepV_off (i:=3) rfl hF rfl rfl hbv rfl fun a hF=>stepV_off (i:=4) rfl hF rfl rfl hbv rfl fun a hF=>stepV (i:=5) rfl hF (fun w hS=>Y.pick_f hF rfl hbv rfl) rfl fun a hF=>stepV (i:=6) rfl hF (fun w hS=>Y.move hF rfl) rfl fun a hF=>stepV_off (i:=7) rfl hF rfl rfl rfl rfl fun a hF=>stepV_off (i:=8) rfl hF rfl rfl rfl rfl fun a hF=>stepV (i:=9) rfl hF (fun w hS=>Y.pick_f hF rfl rfl rfl) rfl fun a hF=>stepV (i:=10) rfl hF (fun w hS=>Y.move hF rfl) rfl fun a hF=>stepV_off (i:=11) rfl hF rfl rfl rfl rfl fun a hF=>stepV_off (i:=12) rfl hF rfl rfl rfl rfl fun a hF=>stepV (i:=13) rfl hF (fun w hS=>Y.pick_f hF rfl rfl rfl) rfl fun a hF=>stepV (i:=14) rfl hF (fun w hS=>Y.move hF rfl) rfl fun a hF=>stepV_off (i:=15) rfl hF rfl rfl rfl rfl fun a hF=>oneV (i:=16) rfl ?_ trivial
   refine guard_off hF rfl rfl rfl rfl fun a hF=>nT ⟨hS.weak ⟨rfl,trivial⟩,?_⟩
   refine oneV (i:=17) rfl ?_ trivial
   refine guard_off hF rfl rfl rfl rfl fun a hF=>nT ⟨hS.weak ⟨rfl,trivial⟩,?_⟩
   refine stepV (i:=18) rfl hF (fun w hS=>Y.pick_f hF rfl rfl rfl) rfl fun a hF=>stepV (i:=19) rfl hF (fun w hS=>Y.move hF rfl) rfl fun a hF=>stepV_off (i:=20) rfl hF rfl rfl rfl rfl fun a hF=>stepV_off (i:=21) rfl hF rfl rfl rfl rfl fun a hF=>stepV (i:=22) rfl hF (fun w hS=>Y.pick_f hF rfl rfl rfl) rfl fun a hF=>stepV (i:=23) rfl hF (fun w hS=>Y.move hF rfl) rfl fun a hF=>stepV_off (i:=24) rfl hF rfl rfl rfl rfl fun a hF=>stepV_off (i:=25) rfl hF rfl rfl rfl rfl fun a hF=>stepV (i:=26) rfl hF (fun w hS=>Y.pick_f hF rfl rfl rfl) rfl fun a hF=>stepV (i:=27) rfl hF (fun w hS=>Y.move hF rfl) rfl fun a hF=>stepV_off (i:=28) rfl hF rfl rfl rfl rfl fun a hF=>stepV_off (i:=29) rfl hF rfl rfl rfl rfl fun a hF=>stepV (i:=30) rfl hF (fun w hS=>Y.pick_f hF rfl rfl rfl) rfl fun a hF=>stepV (i:=31) rfl hF (fun w hS=>Y.move hF rfl) rfl fun a hF=>stepV_off (i:=32) rfl hF rfl rfl rfl rfl fun a hF=>oneV (i:=33) rfl ?_ trivial
   refine guard_off hF rfl rfl rfl rfl fun a hF=>nT ⟨hS.weak ⟨rfl,trivial⟩,?_⟩
   refine stepV_off (i:=34) rfl hF rfl rfl rfl rfl fun a hF=>stepV (i:=35) rfl hF (fun w hS=>Y.pick_f hF rfl rfl rfl) rfl fun a hF=>toTailV ⟨Dv_9,Stab.le.refl _,hF.weak ⟨rfl,rfl,trivial⟩,hS.weak ⟨rfl,trivial⟩⟩
 rintro a w ⟨Dv_42,hle,hF,hS⟩
 have hlev_47:=hle
 refine step hF (Y.assign hF rfl) rfl fun a hF=>nT (ret_ ?_)
 obtain rfl:=some_inj h
 exact leaveP Tryz.results8 hF hS (.cons (.tmp rfl) .nil) .nil rfl
end Go.Proofs.YtgdfljiliflhfaaGreatDoor.Rt
