/- The example of the top's theorems. Under no conditions. The example of the top's theorems: scale, line, beat. Under no conditions. -/
import Derived.Test.YtgdfljiliflhfaaGreatDoorC3LnG
import Derived.Test.YtgdfljiliflhfaaGreatDoorC3BtC
import Derived.Test.YtgdfljiliflhfaaGreatDoorC3ScB
set_option linter.unusedVariables false
set_option linter.unusedSimpArgs false
set_option maxRecDepth 100000
set_option maxHeartbeats 4000000
namespace Go.Proofs.YtgdfljiliflhfaaGreatDoor.Rt.Tp
open Go Go.RowKit Go.Proofs.YtgdfljiliflhfaaGreatDoor.Rt.Ln
def exP:VoicePiece:=VoicePiece.mk [4] 0 0 3
def exB:VoiceBook:=VoiceBook.mk [9] [exP] (Span.mk 0 0) (Span.mk 0 0)
def exV:voice_book:=voice_book.mk exB (true::List.replicate 9 false)
theorem cont4:slices_ContainsFunc___int_int_ [4] (fun q_z=>voice_areWords_1 q_z)=some false:=by
  unfold slices_ContainsFunc___int_int_ slices_IndexFunc___int_int_
  rw [show loopU (slices_IndexFunc___int_int__b1 [4] (fun q_z=>voice_areWords_1 q_z)) (0,0)=some (-1) from loopU_of (n:=2) (by kernel_rfl)]
  rfl
theorem cont44:slices_ContainsFunc___int_int_ [4,4] (fun q_z=>voice_areWords_1 q_z)=some false:=by
  unfold slices_ContainsFunc___int_int_ slices_IndexFunc___int_int_
  rw [show loopU (slices_IndexFunc___int_int__b1 [4,4] (fun q_z=>voice_areWords_1 q_z)) (0,0)=some (-1) from loopU_of (n:=3) (by kernel_rfl)]
  rfl
theorem words_of {l:List Int} {m:Int} (h:voice_within (l.length:Int) 1 m=some true) (hc:slices_ContainsFunc___int_int_ l (fun q_z=>voice_areWords_1 q_z)=some false):voice_areWords l m=some true:=by
  unfold voice_areWords
  rw [h,Option.bind_some,cond_true,hc]
  rfl
theorem words4:voice_areWords exP.Words 4=some true:=words_of rfl cont4
theorem words44:voice_areWords [4,4] 8=some true:=words_of rfl cont44
theorem check_v:voice_Check exB=some 0:=by
  have h0:voice_Check exB=loopU (voice_Check_b1 exB) (true,0):=by kernel_rfl
  have h1:voice_Check_b1 exB (true,0)=nxt (true,1):=by kernel_rfl
  have h2:voice_Check_b1 exB (true,1)=ext (loopU (voice_Check_b2 exB) (true,0)):=by kernel_rfl
  have h3:voice_Check_b2 exB (true,0)=nxt (true,1):=by
    unfold voice_Check_b2
    simp only []
    rw [show decide ((0:Int) < (exB.Pieces.length:Int))=true from rfl,cond_true,show idx exB.Pieces 0=some exP from rfl,Option.bind_some,cond_true,words4]
    kernel_rfl
  have h4:voice_Check_b2 exB (true,1)=ext (some 0):=by kernel_rfl
  rw [h0,loopU_nxt h1,loopU_ext h2,loopU_nxt h3,loopU_ext h4]
theorem all_v:voice_all exB=some [0]:=loopU_of (n:=2) (by kernel_rfl)
theorem opened_v:voice_opened exB [0]=some exV:=loopU_of (n:=2) (by kernel_rfl)
theorem equal_v:slices_Equal___int_int_ [4] [4]=some true:=by
  have h0:slices_Equal___int_int_ [4] [4]=loopU (slices_Equal___int_int__b1 [4] [4]) (false,0):=by kernel_rfl
  rw [h0]
  exact loopU_of (n:=2) (by kernel_rfl)
theorem next_v {σ:Type} (y:Int→σ→Option σ) (at_:Int) (h:at_=0∨at_=1) (s:σ):voice_book_next_1 y exV at_ [4,4] s=y 0 s:=by
  have hb:voice_book_next_1_b1 exV at_ [4,4] y (0,s)=(slices_Equal___int_int_ [4] [4]).bind fun rv_1=>cond rv_1 ((y 0 s).bind fun sy_3=>voice_book_next_1_k2 0 sy_3) (voice_book_next_1_k2 0 s):=by
    rcases h with rfl | rfl <;> kernel_rfl
  have he:∀ s:σ,voice_book_next_1_b1 exV at_ [4,4] y (1,s)=ext (some s):=by
    intro s
    kernel_rfl
  rw [equal_v,Option.bind_some,cond_true] at hb
  unfold voice_book_next_1
  cases hy:y 0 s with
  | none=>
    rw [hy] at hb
    rw [loopU_eq,hb]
    rfl
  | some s'=>
    rw [hy] at hb
    have hb':voice_book_next_1_b1 exV at_ [4,4] y (0,s)=nxt (1,s'):=by rw [hb];kernel_rfl
    rw [loopU_nxt hb',loopU_ext (he s')]
noncomputable def exO:voice_order:=voice_order.mk (fun q_z q_z_1=>voice_fewest_1 q_z q_z_1)
abbrev Ways:=List (Int × Option (List Int))
abbrev Say:=Int→Ways→voice_book→List Int→voice_order→Option (((Option (List Int)) × Bool) × Ways)
theorem step_none (self_:Say) (at_:Int) (m:Ways) (h:at_=0∨at_=1) (hm:mget kI m at_=none) (hs:self_ (at_ + 1) m exV [4,4] exO=none):
    voice_book_say_1_step self_ at_ m exV [4,4] exO=none:=by
  unfold voice_book_say_1_step
  rw [hm]
  simp only [Option.isSome_none,cond_false]
  unfold voice_book_next
  simp only [Option.bind_some]
  rw [next_v _ at_ h]
  unfold voice_book_say_1_y1
  simp only []
  rw [show idx exV.VoiceBook.Pieces 0=some exP from rfl,Option.bind_some,show wr (at_ + (exP.Words.length:Int))=at_ + 1 by rcases h with rfl | rfl <;> rfl]
  rw [show voice_order.mk exO.better=exO from rfl,hs]
  rfl
theorem step_some (self_:Say) (at_:Int) (m m':Ways) (l:List Int) (h:at_=0∨at_=1) (hm:mget kI m at_=none) (hs:self_ (at_ + 1) m exV [4,4] exO=some ((some l,true),m')) (hl:1 + l.length≤lim):
    voice_book_say_1_step self_ at_ m exV [4,4] exO=some ((some (0::l),true),mput kI m' at_ (some (0::l))):=by
  unfold voice_book_say_1_step
  rw [hm]
  simp only [Option.isSome_none,cond_false]
  unfold voice_book_next
  simp only [Option.bind_some]
  rw [next_v _ at_ h]
  unfold voice_book_say_1_y1
  simp only []
  rw [show idx exV.VoiceBook.Pieces 0=some exP from rfl,Option.bind_some,show wr (at_ + (exP.Words.length:Int))=at_ + 1 by rcases h with rfl | rfl <;> rfl]
  rw [show voice_order.mk exO.better=exO from rfl,hs]
  simp only [Option.bind_some,cond_true,Option.getD_some]
  rw [if_pos (by exact hl)]
  rfl
def m0:Ways:=[(2,some [])]
def m1:Ways:=mput kI m0 1 (some [0])
theorem say2 (n:Nat):voice_book_say_1_n (n + 1) 2 m0 exV [4,4] exO=some ((some [],true),m0):=by
  show voice_book_say_1_step (voice_book_say_1_n n) 2 m0 exV [4,4] exO=_
  unfold voice_book_say_1_step
  rw [show mget kI m0 2=some (some []) from rfl]
  rfl
theorem g1:mget kI m0 1=none:=by kernel_rfl
theorem g0:mget kI m0 0=none:=by kernel_rfl
theorem say1 (n:Nat):voice_book_say_1_n (n + 2) 1 m0 exV [4,4] exO=some ((some [0],true),m1):=
  step_some (voice_book_say_1_n (n + 1)) 1 m0 m0 [] (.inr rfl) g1 (say2 n) (by decide)
theorem say0 (n:Nat):voice_book_say_1_n (n + 3) 0 m0 exV [4,4] exO=some ((some [0,0],true),mput kI m1 0 (some [0,0])):=
  step_some (voice_book_say_1_n (n + 2)) 0 m0 m1 [0] (.inl rfl) g0 (say1 n) (by decide)
theorem say_v:voice_book_say exV [4,4]=some (some [0,0],true):=by
  have h:voice_book_say_1 0 m0 exV [4,4] exO=some ((some [0,0],true),mput kI m1 0 (some [0,0])):=by
    unfold voice_book_say_1
    refine limU_of (n:=3) (say0 0) fun m s hs=>?_
    have n1:voice_book_say_1_n 1 1 m0 exV [4,4] exO=none:=step_none (voice_book_say_1_n 0) 1 m0 (.inr rfl) g1 rfl
    match m,hs with
    | 0,hs=>cases hs
    | 1,hs=>
      have:voice_book_say_1_n 1 0 m0 exV [4,4] exO=none:=step_none (voice_book_say_1_n 0) 0 m0 (.inl rfl) g0 rfl
      rw [this] at hs;cases hs
    | 2,hs=>
      have:voice_book_say_1_n 2 0 m0 exV [4,4] exO=none:=step_none (voice_book_say_1_n 1) 0 m0 (.inl rfl) g0 n1
      rw [this] at hs;cases hs
    | m + 3,hs=>
      rw [say0 m] at hs
      exact (Option.some.inj hs).symm
  unfold voice_book_say voice_fewest
  simp only [Option.bind_some]
  have:(mput kI ([]:Ways) (([4,4]:List Int).length:Int) (some ([]:List Int)))=m0:=by kernel_rfl
  rw [this]
  have h':voice_book_say_1 0 m0 exV [4,4] (voice_order.mk (fun q_z q_z_1=>voice_fewest_1 q_z q_z_1))=_:=h
  rw [h']
  rfl
theorem fewest_v:voice_Fewest exB [4,4]=some ([0,0],0):=by
  unfold voice_Fewest
  rw [check_v]
  simp only [Option.bind_some,show ((0:Int) != 0)=false from rfl,cond_false,words44,Bool.not_true,all_v,opened_v,say_v]
  rfl
end Go.Proofs.YtgdfljiliflhfaaGreatDoor.Rt.Tp
set_option linter.unusedVariables false
set_option linter.unusedSimpArgs false
set_option maxRecDepth 100000
set_option maxHeartbeats 4000000
namespace Go.Proofs.YtgdfljiliflhfaaGreatDoor.Rt.Tp
open Go Go.RowKit Go.Proofs.YtgdfljiliflhfaaGreatDoor.Rt.Ln
def exS:ScaleBook:=ScaleBook.mk (ScaleRule.mk 0 0 1 (Span.mk 0 0)) 1 [] [ScaleLook.mk 0 (Span.mk (-3) 2)]
theorem check_s:scale_Check exS=some 0:=by
  have ho:scale_opened exS.Rule true=some (scale_rule.mk exS.Rule [],0):=by kernel_rfl
  have hk:scale_rule_keeps (scale_rule.mk exS.Rule []) exS.Steer=some true:=by
    unfold scale_rule_keeps
    exact loopU_of (n:=1) (by kernel_rfl)
  unfold scale_Check
  rw [ho,Option.bind_some,show ((scale_rule.mk exS.Rule [],(0:Int)).2 == 0)=true from rfl,cond_true,show scale_lies exS.Ticks 1 60=some true from rfl,Option.bind_some,Option.bind_some,show (true && decide ((exS.Steer.length:Int)≤exS.Ticks))=true from rfl,cond_true,hk]
  show loopU (scale_Check_b1 exS) ((true && decide ((exS.Looks.length:Int)≤10)),0)=some 0
  exact loopU_of (n:=2) (by kernel_rfl)
def full:Span:=Span.mk (-20000) 20000
def zs:List Span:=List.replicate 61 (Span.mk 0 0)
def L0:List Span:=Span.mk (-3) 2::List.replicate 60 full
def L1:List Span:=Span.mk (-3) 2::Span.mk (-3) 2::List.replicate 59 full
theorem round_s (l:List Span) (h:l=L0∨l=L1):loopU (scale_between_b4 exS false l zs) (0,l)=some (.inl (false,l,L1,zs)):=by
  have h1:scale_between_b4 exS false l zs (0,l)=nxt (1,L1):=by rcases h with rfl | rfl <;> kernel_rfl
  have h2:scale_between_b4 exS false l zs (1,L1)=ext (loopU (scale_between_b5 exS false l zs) (0,L1)):=by rcases h with rfl | rfl <;> kernel_rfl
  have h3:scale_between_b5 exS false l zs (0,L1)=nxt (-1,L1):=by rcases h with rfl | rfl <;> kernel_rfl
  have h4:scale_between_b5 exS false l zs (-1,L1)=ext (loopU (scale_between_b6 exS l L1) (false,0,zs)):=by rcases h with rfl | rfl <;> kernel_rfl
  rw [loopU_nxt h1,loopU_ext h2,loopU_nxt h3,loopU_ext h4]
  rcases h with rfl | rfl <;> exact loopU_of (n:=3) (by kernel_rfl)
theorem fill_s:scale_between exS=loopU (scale_between_b2 exS) (0,List.replicate 61 full):=by
  unfold scale_between
  have key:∀ (d i:Nat) (l:List Span),i + d=61→l.length=61→(∀ j,j < i→Sc.at_ l j=full)→loopU (scale_between_b1 exS) ((i:Int),l)=loopU (scale_between_b2 exS) (0,List.replicate 61 full):=by
    intro d
    induction d with
    | zero=>
      intro i l h hl hj
      have e:i=61:=by omega
      subst e
      have hll:l=List.replicate 61 full:=by
        apply List.ext_getElem
        · rw [hl,List.length_replicate]
        · intro j h1 h2
          have:=hj j (by omega)
          unfold Sc.at_ at this
          rw [List.getD_eq_getElem?_getD,List.getElem?_eq_getElem h1] at this
          rw [List.getElem_replicate]
          exact this
      rw [hll]
      exact loopU_ext (by kernel_rfl)
    | succ d ih=>
      intro i l h hl hj
      have hst:scale_between_b1 exS ((i:Int),l)=nxt (((i + 1:Nat):Int),l.set i full):=by
        unfold scale_between_b1
        simp only []
        rw [decide_eq_true (by omega),cond_true,if_pos (by omega),wr_succ (by omega)]
        rfl
      rw [loopU_nxt hst]
      refine ih (i + 1) _ (by omega) (by rw [List.length_set];exact hl) fun j hji=>?_
      rw [Sc.at_set l i j _ (by omega)]
      by_cases e:j=i
      · rw [if_pos e]
      · rw [if_neg e];exact hj j (by omega)
  exact key 61 0 _ (by omega) (by simp) (fun j h=>by omega)
theorem between_s:scale_between exS=some (L1,true):=by
  have h1:scale_between_b2 exS (0,List.replicate 61 full)=nxt (1,L0):=by kernel_rfl
  have h2:scale_between_b2 exS (1,L0)=ext (loopU (scale_between_b3 exS) (false,zs,L0,zs)):=by kernel_rfl
  have h3:scale_between_b3 exS (false,zs,L0,zs)=loopU (scale_between_b4 exS false L0 zs) (0,L0):=by kernel_rfl
  have h4:scale_between_b3 exS (false,L0,L1,zs)=loopU (scale_between_b4 exS false L1 zs) (0,L1):=by kernel_rfl
  have h5:scale_between_b3 exS (false,L1,L1,zs)=ext (some (L1,true)):=by kernel_rfl
  rw [fill_s,loopU_nxt h1,loopU_ext h2]
  rw [loopU_inl (h3.trans (round_s L0 (.inl rfl))),loopU_inl (h4.trans (round_s L1 (.inr rfl))),loopU_ext h5]
theorem stated_s:scale_Stated exS 1=some (3,0):=by
  have hE:scale_Error exS 1=some (Span.mk (-3) 2,0):=by
    unfold scale_Error scale_asked
    rw [show scale_lies 1 0 exS.Ticks=some true from rfl,Option.bind_some,check_s,Option.bind_some,show ((0:Int) != 0)=false from rfl,cond_false,Bool.not_true,cond_false,between_s]
    kernel_rfl
  unfold scale_Stated
  rw [hE]
  rfl
def exN:LineNet:=LineNet.mk 2 [LineLine.mk 0 1 (Span.mk 4 9)] 1 []
instance (n:Int):Decidable (InR n):=by unfold InR;infer_instance
theorem ok_n:Ok_LineNet exN:=by
  refine ⟨by decide,⟨by decide,fun x hx=>?_⟩,by decide,⟨by decide,fun x hx=>?_⟩⟩
  · obtain rfl:x=LineLine.mk 0 1 (Span.mk 4 9):=by simpa [exN] using hx
    exact ⟨by decide,by decide,by decide,by decide⟩
  · simp [exN] at hx
theorem correct_n:line_Correct exN 1=some (6,3,0):=by
  rw [Correct_eq ok_n]
  exact congrArg some (by decide +kernel)
def exC:BeatCellar:=BeatCellar.mk 1 (List.replicate 2 (Span.mk 0 0)) [] [BeatPair.mk 0 0 1 (Span.mk 3 4)]
theorem ok_c:Bt.Ok_BeatCellar exC:=by
  refine ⟨by decide,⟨by decide,fun x hx=>?_⟩,⟨by decide,fun x hx=>?_⟩,⟨by decide,fun x hx=>?_⟩⟩
  · obtain rfl:x=Span.mk 0 0:=by simpa [exC] using hx
    exact ⟨by decide,by decide⟩
  · simp [exC] at hx
  · obtain rfl:x=BeatPair.mk 0 0 1 (Span.mk 3 4):=by simpa [exC] using hx
    exact ⟨by decide,by decide,by decide,by decide,by decide⟩
theorem apart_c:beat_Apart exC 1 0 1=some (Span.mk (-4) (-3),0):=by
  rw [Bt.Apart_eq exC ok_c]
  kernel_rfl
theorem rung_eq:remontoirtop_rung06=some true:=by
  unfold remontoirtop_rung06 r0To
  have hv:voice_Fewest (VoiceBook.mk ([9]) ([(VoicePiece.mk ([4]) 0 0 3)]) (Span.mk 0 0) (Span.mk 0 0)) ([4,4])=some ([0,0],0):=fewest_v
  have hn:line_Correct (LineNet.mk 2 ([(LineLine.mk 0 1 (Span.mk 4 9))]) 1 ([]:List LineLoop)) 1=some (6,3,0):=correct_n
  have hs:scale_Stated (ScaleBook.mk (ScaleRule.mk 0 0 1 (Span.mk 0 0)) 1 ([]:List Int) ([(ScaleLook.mk 0 (Span.mk (-3) 2))])) 1=some (3,0):=stated_s
  have hc:beat_Apart (BeatCellar.mk 1 (List.replicate (Int.toNat 2) ((Span.mk 0 0):Span)) ([]:List BeatOpen) ([(BeatPair.mk 0 0 1 (Span.mk 3 4))])) 1 0 1=some (Span.mk (-4) (-3),0):=apart_c
  rw [hv]
  simp only [Option.bind_some]
  rw [hn]
  simp only [Option.bind_some]
  rw [hs]
  simp only [Option.bind_some]
  rw [if_pos (by decide),hc]
  simp only [Option.bind_some]
  have ha:r0Alike [0,0] [0,0]=some true:=Alike_eq [0,0] [0,0] (by decide)
  rw [ha]
  rfl
end Go.Proofs.YtgdfljiliflhfaaGreatDoor.Rt.Tp
