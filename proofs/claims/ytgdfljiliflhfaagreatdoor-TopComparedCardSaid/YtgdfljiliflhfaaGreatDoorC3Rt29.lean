/- The small program logic of this seat, part 29: maps with whole numbers as keys; slices that may be nil. Under no conditions but those that each rule names. -/
import Derived.Test.YtgdfljiliflhfaaGreatDoorC3Rt28
set_option linter.unusedVariables false
set_option linter.unusedSimpArgs false
set_option maxRecDepth 100000
namespace Go.Proofs.YtgdfljiliflhfaaGreatDoor.Rt
open Go Go.RowKit
def kI (k:Int):List Int:=[k]
theorem kI_eq (k l:Int):(kI k == kI l)=(k == l):=by
  rw [Bool.eq_iff_iff];simp [kI]
section
variable {V:Type} {C:Codec V} {agg:Bool} {D D':Stab}
def MRepI (C:Codec V) (agg:Bool) (D:Stab):List (Int × V)→List MapEntry→Prop
  | [],es=>es=[]
  | p::r,es=>∃ e es',es=e::es'∧e.key=.int .i64 p.1∧(∃ cs,C.rep D p.2 cs∧e.val=valV agg cs)∧MRepI C agg D r es'
theorem MRepI.mono (hle:D.le D'):∀ {xs:List (Int × V)} {es:List MapEntry},MRepI C agg D xs es→MRepI C agg D' xs es
  | [],_,h=>h
  | _::_,_,⟨e,es',h1,h2,⟨cs,h3,h4⟩,h5⟩=>⟨e,es',h1,h2,⟨cs,C.mono hle h3,h4⟩,MRepI.mono hle h5⟩
theorem MRepI.len:∀ {xs:List (Int × V)} {es:List MapEntry},MRepI C agg D xs es→es.length=xs.length
  | [],_,h=>by simp only [MRepI] at h;simp [h]
  | _::_,_,⟨e,es',h1,_,_,h5⟩=>by rw [h1,List.length_cons,List.length_cons,h5.len]
theorem MRepI.snoc {k:Int} {v:V} {e:MapEntry} (hk:e.key=.int .i64 k) {cs:List Value} (hv:C.rep D v cs) (he:e.val=valV agg cs):
    ∀ {xs:List (Int × V)} {es:List MapEntry},MRepI C agg D xs es→MRepI C agg D (xs ++ [(k,v)]) (es ++ [e])
  | [],_,h=>by simp only [MRepI] at h;subst h;exact ⟨e,[],rfl,hk,⟨cs,hv,he⟩,rfl⟩
  | _::_,_,⟨e',es',h1,h2,h3,h5⟩=>by subst h1;exact ⟨e',es' ++ [e],rfl,h2,h3,MRepI.snoc hk hv he h5⟩
end
section
variable {P:Program} {V:Type} {C:Codec V} {agg:Bool} {D:Stab} {w:World} {kt:TypeId}
structure MapTI (P:Program) (T kt E:TypeId) (agg:Bool) (z:List Value):Prop where
  u:P.underlying T=some (.map kt E)
  k:P.underlying kt=some (.int .i64)
  zero:∃ i v,P.info? E=some i∧i.zero=some v∧v=valV agg z
theorem MapTI.mk' {T E:TypeId} {z:List Value} (hu:P.underlying T=some (.map kt E)) (hk:P.underlying kt=some (.int .i64)) (hz:((P.info? E).bind (·.zero))=some (valV agg z)):MapTI P T kt E agg z:=by
  refine ⟨hu,hk,?_⟩
  cases hi:P.info? E with
  | none=>simp [hi] at hz
  | some i=>exact ⟨i,_,rfl,by simpa [hi] using hz,rfl⟩
theorem MapTI.check {T E:TypeId} {z:List Value} (h:MapTI P T kt E agg z) (em:Bool) (k:Int):(Instr.checkKey em 10000 kt (.int .i64 k)).run P w=.ok () w:=by
  unfold Instr.checkKey
  simp only [Sem.run_bind,run_underlying h.k,Result.andThen_ok,Sem.run_pure]
theorem findNowI (k:Int):∀ (xs:List (Int × V)) (es:List MapEntry) (i:Nat),MRepI C agg D xs es →
    (mfind kI xs k i=none∧Instr.findNow (.int .i64) (.int .i64 k) es i=some none) ∨
    ∃ x cs p,mfind kI xs k i=some (i + x)∧xs[x]?=some p∧kI k=kI p.1∧mget kI xs k=some p.2∧C.rep D p.2 cs∧(∃ e,es[x]?=some e∧e.key=.int .i64 p.1) ∧
      Instr.findNow (.int .i64) (.int .i64 k) es i=some (some (i + x,valV agg cs))
  | [],es,i,h=>by simp only [MRepI] at h;subst h;exact .inl ⟨rfl,rfl⟩
  | p::r,es,i,⟨e,es',h1,h2,⟨cs,h3,h4⟩,h5⟩=>by
    subst h1
    have he:Instr.sameNow (.int .i64) (.int .i64 k) e.key=some (k == p.1):=by rw [h2];simp [Instr.sameNow]
    cases hb:(k == p.1) with
    | true=>
      have hb':(kI k == kI p.1)=true:=by rw [kI_eq];exact hb
      refine .inr ⟨0,cs,p,by simp [mfind,hb'],rfl,by simpa using hb',by simp [mget,hb'],h3,⟨e,rfl,h2⟩,?_⟩
      simp only [Instr.findNow,he,hb,h4,Nat.add_zero]
    | false=>
      have hb':(kI k == kI p.1)=false:=by rw [kI_eq];exact hb
      have hrun:Instr.findNow (.int .i64) (.int .i64 k) (e::es') i=Instr.findNow (.int .i64) (.int .i64 k) es' (i + 1):=by simp only [Instr.findNow,he,hb]
      rcases findNowI k r es' (i + 1) h5 with ⟨g1,g2⟩ | ⟨x,cs',p',g1,g2,g3,g4,g5,⟨e',g6,g7⟩,g8⟩
      · exact .inl ⟨by simp [mfind,hb',g1],by rw [hrun,g2]⟩
      · exact .inr ⟨x + 1,cs',p',by simp [mfind,hb',g1];omega,by simpa using g2,g3,by simp [mget,hb',g4],g5,⟨e',by simpa using g6,g7⟩,by rw [hrun,g8,show i + 1 + x=i + (x + 1) by omega]⟩
theorem run_findI {T E:TypeId} {z:List Value} (h:MapTI P T kt E agg z) (k:Int) (xs:List (Int × V)) (es:List MapEntry) (i:Nat) (hi:i=0) (hM:MRepI C agg D xs es):
    (mfind kI xs k i=none∧∀ w,(Instr.findKey kt (.int .i64 k) es).run P w=.ok none w) ∨
    ∃ x cs p,mfind kI xs k i=some (i + x)∧xs[x]?=some p∧kI k=kI p.1∧mget kI xs k=some p.2∧C.rep D p.2 cs∧(∃ e,es[x]?=some e∧e.key=.int .i64 p.1) ∧
      ∀ w,(Instr.findKey kt (.int .i64 k) es).run P w=.ok (some (i + x,valV agg cs)) w:=by
  subst hi
  have hf:∀ o w,Instr.findNow (.int .i64) (.int .i64 k) es 0=some o→(Instr.findKey kt (.int .i64 k) es).run P w=.ok o w:=fun o w ho=>by
    unfold Instr.findKey
    rw [Sem.run_bind,run_underlying h.k,Result.andThen_ok,ho]
    rfl
  rcases findNowI k xs es 0 hM with ⟨g1,g2⟩ | ⟨x,cs,p,g1,g2,g3,g4,g5,g6,g7⟩
  · exact .inl ⟨g1,fun w=>hf _ w g2⟩
  · exact .inr ⟨x,cs,p,g1,g2,g3,g4,g5,g6,fun w=>hf _ w g7⟩
theorem run_lookup_I {T E:TypeId} {z:List Value} (h:MapTI P T kt E agg z) {r:Nat} {es:Array MapEntry} {clock:Nat} {xs:List (Int × V)} (hM:MRepI C agg D xs es.toList)
    {z0:V} (hz:C.rep D z0 z) (k:Int) (ok:Bool):
    ∃ cs,C.rep D ((mget kI xs k).getD z0) cs∧∀ w,w.heap[r]?=some (.map es clock)→(Instr.lookup T (.map (some r)) (.int .i64 k) ok).run P w =
      .ok (bif ok then .tuple #[valV agg cs,.bool (mget kI xs k).isSome] else valV agg cs) w:=by
  obtain ⟨inf,zv,hi,hzv,hzz⟩:=h.zero
  have hzero:∀ w,(zeroValue E).run P w=.ok (valV agg z) w:=fun w=>by simp [zeroValue,typeInfo,hi,hzv,hzz]
  rcases run_findI h k xs es.toList 0 rfl hM with ⟨g1,g2⟩ | ⟨x,cs,p,g1,g2,g3,g4,g5,g6,g8⟩
  · refine ⟨z,by rw [(mfind_none g1).1];exact hz,fun w hr=>?_⟩
    have hget:(getObj r).run P w=.ok (.map es clock) w:=by simp [getObj,Sem.run,hr]
    have hg:(mget kI xs k).isSome=false:=by rw [(mfind_none g1).1];rfl
    simp only [Instr.lookup,Sem.run_bind,run_underlying h.u,Result.andThen_ok,hget,Sem.run_pure,h.check _ k,g2,hzero,hg]
    cases ok <;> rfl
  · refine ⟨cs,by rw [g4];exact g5,fun w hr=>?_⟩
    have hget:(getObj r).run P w=.ok (.map es clock) w:=by simp [getObj,Sem.run,hr]
    have hg:(mget kI xs k).isSome=true:=by rw [g4];rfl
    simp only [Instr.lookup,Sem.run_bind,run_underlying h.u,Result.andThen_ok,hget,Sem.run_pure,h.check _ k,g8,hg]
    cases ok <;> rfl
theorem mput_modifyI {k:Int} {v:V} {cs:List Value} (hv:C.rep D v cs):∀ {xs:List (Int × V)} {es:List MapEntry} {i x:Nat},MRepI C agg D xs es→mfind kI xs k i=some (i + x) →
    MRepI C agg D (mput kI xs k v) (es.modify x fun e=>{ e with key:=.int .i64 k,val:=valV agg cs })
  | [],_,_,_,_,h=>by simp [mfind] at h
  | p::r,es,i,x,⟨e,es',h1,h2,h3,h5⟩,h=>by
    subst h1
    simp only [mfind] at h
    cases hb:(kI k == kI p.1) with
    | true=>
      simp only [hb,cond_true,Option.some.injEq] at h
      have hx:x=0:=by omega
      subst hx
      simp only [mput,hb,cond_true,List.modify_zero_cons]
      exact ⟨_,es',rfl,rfl,⟨cs,hv,rfl⟩,h5⟩
    | false=>
      simp only [hb,cond_false] at h
      have hpos:0 < x:=by
        rcases Nat.eq_zero_or_pos x with h0 | h0
        · subst h0
          exfalso
          have:∀ (ys:List (Int × V)) (i j:Nat),mfind kI ys k i=some j→i≤j:=by
            intro ys
            induction ys with
            | nil=>intro i j h;simp [mfind] at h
            | cons q ys ih=>
              intro i j h
              simp only [mfind] at h
              cases hq:(kI k == kI q.1) with
              | true=>simp [hq] at h;omega
              | false=>simp only [hq,cond_false] at h;have:=ih _ _ h;omega
          have:=this _ _ _ h
          omega
        · exact h0
      obtain ⟨x,rfl⟩:∃ y,x=y + 1:=⟨x - 1,by omega⟩
      simp only [mput,hb,cond_false,List.modify_succ_cons]
      exact ⟨e,_,rfl,h2,h3,mput_modifyI (i:=i + 1) hv h5 (by rw [h];congr 1;omega)⟩
theorem run_mapUpdate_I {T E:TypeId} {z:List Value} (h:MapTI P T kt E agg z) {r:Nat} {es:Array MapEntry} {clock:Nat} (hr:w.heap[r]?=some (.map es clock)) {xs:List (Int × V)} (hM:MRepI C agg D xs es.toList)
    (k:Int) {v:V} {cs:List Value} (hv:C.rep D v cs):
    ∃ es' clock',(Instr.mapUpdate T (.map (some r)) (.int .i64 k) (valV agg cs)).run P w=.ok () { w with heap:=w.heap.setIfInBounds r (.map es' clock') }∧MRepI C agg D (mput kI xs k v) es'.toList:=by
  have hget:(getObj r).run P w=.ok (.map es clock) w:=by simp [getObj,Sem.run,hr]
  have hset:∀ o,(setObj r o).run P w=.ok () { w with heap:=w.heap.setIfInBounds r o }:=fun o=>by simp [setObj,Sem.run,hr]
  rcases run_findI h k xs es.toList 0 rfl hM with ⟨g1,g2⟩ | ⟨x,cs0,p,g1,g2,g3,g4,g5,⟨e,g6,g7⟩,g8⟩
  · refine ⟨es.push ⟨.int .i64 k,valV agg cs,clock⟩,clock + 1,?_,?_⟩
    · simp only [Instr.mapUpdate,Sem.run_bind,run_underlying h.u,Result.andThen_ok,hget,h.check _ k,g2,hset]
    · rw [(mfind_none g1).2 v,Array.toList_push]
      exact hM.snoc rfl hv rfl
  · refine ⟨es.modify x fun e=>{ e with key:=.int .i64 k,val:=valV agg cs },clock,?_,?_⟩
    · have hes:(es[x]?.map (·.key)).getD (.int .i64 k)=.int .i64 k:=by
        rw [← Array.getElem?_toList,g6]
        have hk:k=p.1:=by simpa [kI] using g3
        simp [g7,hk]
      have hkeep:(Instr.keyThatStays (.int .i64 k) (.int .i64 k)).run P w=.ok (.int .i64 k) w:=by
        unfold Instr.keyThatStays
        rw [if_pos (show Instr.sameBits 10000 (.int .i64 k) (.int .i64 k)=true by simp [Instr.sameBits])];rfl
      simp only [Instr.mapUpdate,Sem.run_bind,run_underlying h.u,Result.andThen_ok,hget,h.check _ k,g8,Nat.zero_add]
      rw [hes]
      simp only [hkeep,Result.andThen_ok,hset]
    · rw [Array.toList_modify]
      exact mput_modifyI hv hM g1
variable {N:Nat} {rs:List Nat} {r:Option Nat} {vs:List (Nat × Value)} {a:Act} {w0:World} {ops:Array Oper} {Q:Exit→Act→World→Prop} {rest:List Oper}
variable {d:Nat} {dst:Option Nat} {ty:TypeId} {pos:String} {aft:Array Edge} {gd:Option (Nat × Bool)} {v:Value} {D0:Stab} {ls:List (Nat × LR)}
theorem Y.lookupOI {T E:TypeId} {x y:Operand} {z:List Value} {xs:List (Int × V)} {b:Nat} {z0:V} {es:Array MapEntry} {clock:Nat} (ok:Bool) (i:Nat) (hT:MapTI P T kt E agg z) (hz:C.rep D z0 z) (k:Int)
    (hM:MRepI C agg D xs es.toList) (hF:Frm N rs vs a)
    (hx:ev vs x=some (.map (some b))) (hy:ev vs y=some (.int .i64 k)) (hl:lk ls i=some (.obj b (.map es clock))):
    ∃ cs,C.rep D ((mget kI xs k).getD z0) cs∧∀ {dst ty pos aft gd w},St w0 D0 D ls w→Yields P ⟨dst,.lookup T x y ok,ty,pos,aft,gd⟩ a w (bif ok then .tuple #[valV agg cs,.bool (mget kI xs k).isSome] else valV agg cs):=by
  obtain ⟨cs,h3,h4⟩:=run_lookup_I (r:=b) (clock:=clock) hT hM hz k ok
  exact ⟨cs,h3,fun {dst ty pos aft gd w} hS=>by simp only [Yields,execOp,hF.eval hx,hF.eval hy,Sem.run_bind,h4 w (hS.each i _ hl)];rfl⟩
theorem map_putI {T E:TypeId} {x y u:Operand} {z:List Value} {xs:List (Int × V)} {b:Nat} {es:Array MapEntry} {clock:Nat} {op:Op} (hop:op=.mapUpdate T x y u∨op=.insert T x y u) (i:Nat) (hT:MapTI P T kt E agg z) (k:Int) {v0:V} {cs:List Value}
    (hM:MRepI C agg D xs es.toList) (hv:C.rep D v0 cs) (hF:Frm N rs vs a)
    (hx:ev vs x=some (.map (some b))) (hy:ev vs y=some (.int .i64 k)) (hu:ev vs u=some (valV agg cs)) (hS:St w0 D0 D ls w) (hl:lk ls i=some (.obj b (.map es clock)))
    (h:∀ es' clock' a' w',Frm N rs vs a'→St w0 D0 D ((i,.obj b (.map es' clock'))::ls) w'→MRepI C agg D (mput kI xs k v0) es'.toList→WL r P ops Q rest a' w'):
    WL r P ops Q (⟨none,op,ty,pos,aft,none⟩::rest) a w:=by
  have hb:w.heap[b]?=some (.map es clock):=hS.each i _ hl
  have hlow:=hS.low i _ hl b (by simp [LR.fp])
  obtain ⟨es',clock',h1,h2⟩:=run_mapUpdate_I hT hb hM k hv
  refine wpListIn_plain rfl fun K' hK=>⟨fun _ _=>trivial,?_⟩
  have hr:(execOp a.eval (⟨none,op,ty,pos,aft,none⟩:Oper)).run P w=.ok .skip { w with heap:=w.heap.setIfInBounds b (.map es' clock') }:=by
    rcases hop with rfl | rfl <;> simp only [execOp,hF.eval hx,hF.eval hy,hF.eval hu,Sem.run_bind,h1,Result.andThen_ok] <;> rfl
  rw [show (Fw r).round=r from rfl,semAt_of hr (by intro d h;cases h)]
  refine hK _ _ (h es' clock' _ _ (hF.put_none undef) ?_ h2)
  refine hS.turn i _ ⟨hS.below.os,hS.below.tape,hS.below.output,by simpa using hS.below.size,fun k hk=>?_⟩ (fun k hk hno=>?_) (setObj_heap hb) (fun k hk=>.inr ⟨_,hl,hk⟩)
  · show (w.heap.setIfInBounds b _)[k]?=_
    rw [Array.getElem?_setIfInBounds,if_neg (by have:=hlow.1;omega)]
    exact hS.below.block k hk
  · show (w.heap.setIfInBounds b _)[k]?=_
    rw [Array.getElem?_setIfInBounds,if_neg (fun e=>by subst e;exact hno _ hl (by simp [LR.fp]))]
end
end Go.Proofs.YtgdfljiliflhfaaGreatDoor.Rt
