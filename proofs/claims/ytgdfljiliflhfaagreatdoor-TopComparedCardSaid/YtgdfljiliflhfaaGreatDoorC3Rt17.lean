/- The small program logic of this seat, part 17: maps whose entries were laid one after the other; ranges over them, in whatever order. Under no conditions but those that each rule names. -/
import Derived.Test.YtgdfljiliflhfaaGreatDoorC3Rt16
import Derived.Maps.RangeRun
set_option linter.unusedSimpArgs false
set_option linter.unusedVariables false
set_option maxRecDepth 100000
namespace Go.Proofs.YtgdfljiliflhfaaGreatDoor.Rt
open Go Go.RowKit
def Born (es:Array MapEntry) (clk:Nat):Prop:=(es.toList.map (·.born)).Nodup∧∀ e ∈ es.toList,e.born < clk
theorem Born.empty:Born #[] 0:=⟨List.nodup_nil,fun e he=>by simp at he⟩
section
variable {K V:Type} {kl:K→List Int} {C:Codec V} {agg:Bool} {D D':Stab}
def MRepB (kl:K→List Int) (C:Codec V) (agg:Bool) (D:Stab) (xs:List (K × V)) (es:Array MapEntry) (clk:Nat):Prop:=MReps kl C agg D xs es.toList∧Born es clk
theorem MRepB.mono (hle:D.le D') {xs:List (K × V)} {es:Array MapEntry} {clk:Nat} (h:MRepB kl C agg D xs es clk):MRepB kl C agg D' xs es clk:=⟨h.1.mono hle,h.2⟩
theorem MRepB.nil:MRepB kl C agg D ([]:List (K × V)) #[] 0:=⟨rfl,Born.empty⟩
def MapB (kl:K→List Int) (C:Codec V) (agg:Bool) (D:Stab) (xs:List (K × V)) (b:Option Nat):Prop:=
  (b=none∧xs=[])∨∃ k es clk,b=some k∧D k=some (.map es clk)∧MRepB kl C agg D xs es clk
theorem MapB.mono {xs:List (K × V)} {b:Option Nat} (h:MapB kl C agg D xs b) (hle:D.le D'):MapB kl C agg D' xs b:=by
  rcases h with h | ⟨k,es,clk,h0,h1,h2⟩
  · exact .inl h
  · exact .inr ⟨k,es,clk,h0,hle k _ h1,h2.mono hle⟩
theorem MapB.nil:MapB kl C agg D ([]:List (K × V)) none:=.inl ⟨rfl,rfl⟩
theorem MapB.toS {xs:List (K × V)} {b:Option Nat} (h:MapB kl C agg D xs b):MapS kl C agg D xs b:=by
  rcases h with h | ⟨k,es,clk,h0,h1,h2⟩
  · exact .inl h
  · exact .inr ⟨k,es,clk,h0,h1,h2.1⟩
def IterB (kl:K→List Int) (C:Codec V) (agg:Bool) (D:Stab) (left:List (K × V)) (o:Obj):Prop:=
  (left=[]∧o=.mapIter none 0 #[] 0)∨∃ k es clk seen,D k=some (.map es clk)∧Born es clk∧o=.mapIter (some k) clk seen clk∧MReps kl C agg D left (leftOf es seen).toList
theorem IterB.mono {left:List (K × V)} {o:Obj} (h:IterB kl C agg D left o) (hle:D.le D'):IterB kl C agg D' left o:=by
  rcases h with h | ⟨k,es,clk,seen,h0,h1,h2,h3⟩
  · exact .inl h
  · exact .inr ⟨k,es,clk,seen,hle k _ h0,h1,h2,h3.mono hle⟩
theorem MReps.get:∀ {xs:List (K × V)} {es:List MapEntry} {i:Nat} (h:i < es.length),MReps kl C agg D xs es →
    ∃ h':i < xs.length,es[i].key=.agg (ints (kl xs[i].1)).toArray∧(∃ cs,C.rep D xs[i].2 cs∧es[i].val=valV agg cs)∧MReps kl C agg D (xs.eraseIdx i) (es.eraseIdx i)
  | [],_,i,h,hM=>by simp only [MReps] at hM;subst hM;simp at h
  | p::r,es,i,h,⟨e,es',h1,h2,h3,h5⟩=>by
    subst h1
    cases i with
    | zero=>exact ⟨by simp,h2,h3,by simpa using h5⟩
    | succ i=>
      obtain ⟨g1,g2,g3,g4⟩:=MReps.get (i:=i) (by simpa using h) h5
      exact ⟨by simpa using g1,by simpa using g2,by simpa using g3,⟨e,es'.eraseIdx i,by simp,h2,h3,g4⟩⟩
def StepB (kl:K→List Int) (C:Codec V) (agg:Bool) (D:Stab) (kv:K × V) (left:List (K × V)) (o:Obj):Prop:=
  ∃ (k:Nat) (es:Array MapEntry) (clk:Nat) (seen:Array Nat) (e:MapEntry),D k=some (.map es clk)∧Born es clk∧o=.mapIter (some k) clk (seen.push e.born) clk∧e ∈ es.toList∧e.key=.agg (ints (kl kv.1)).toArray∧(∃ cs,C.rep D kv.2 cs∧e.val=valV agg cs)∧MReps kl C agg D left (leftOf es (seen.push e.born)).toList
theorem StepB.mono {kv:K × V} {left:List (K × V)} {o:Obj} (h:StepB kl C agg D kv left o) (hle:D.le D'):StepB kl C agg D' kv left o:=by
  obtain ⟨k,es,clk,seen,e,h0,h1,h2,h3,h4,⟨cs,h5,h6⟩,h7⟩:=h
  exact ⟨k,es,clk,seen,e,hle k _ h0,h1,h2,h3,h4,⟨cs,C.mono hle h5,h6⟩,h7.mono hle⟩
end
section
variable {P:Program} {K V:Type} {kl:K→List Int} {C:Codec V} {agg:Bool} {D:Stab} {w:World} {kt:TypeId} {n:Nat}
theorem run_mapUpdate_ofB {T E:TypeId} {z:List Value} (h:MapT P T kt E n agg z) {r:Nat} {es:Array MapEntry} {clock:Nat} (hr:w.heap[r]?=some (.map es clock)) {xs:List (K × V)} (hM:MRepB kl C agg D xs es clock)
    (hkl:∀ k,(kl k).length=n) (k:K) {v:V} {cs:List Value} (hv:C.rep D v cs):
    ∃ es' clock',(Instr.mapUpdate T (.map (some r)) (.agg (ints (kl k)).toArray) (valV agg cs)).run P w=.ok () { w with heap:=w.heap.setIfInBounds r (.map es' clock') }∧MRepB kl C agg D (mput kl xs k v) es' clock':=by
  obtain ⟨j,hj,hE⟩:=h.eq
  obtain ⟨hM,hb1,hb2⟩:=hM
  have hget:(getObj r).run P w=.ok (.map es clock) w:=by simp [getObj,Sem.run,hr]
  have hset:∀ o,(setObj r o).run P w=.ok () { w with heap:=w.heap.setIfInBounds r o }:=fun o=>by simp [setObj,Sem.run,hr]
  rcases run_findAsking hE hj hkl k xs es.toList 0 hM with ⟨g1,g2⟩ | ⟨x,cs0,p,g1,g2,g3,g4,g5,⟨e,g6,g7⟩,g8⟩
  · refine ⟨es.push ⟨.agg (ints (kl k)).toArray,valV agg cs,clock⟩,clock + 1,?_,?_,?_,?_⟩
    · simp only [Instr.mapUpdate,Sem.run_bind,run_underlying h.u,Result.andThen_ok,hget,h.check _ (hkl k),run_findKey_st h.st,g2,hset]
    · rw [(mfind_none g1).2 v,Array.toList_push]
      exact hM.snoc rfl hv rfl
    · rw [Array.toList_push,List.map_append,List.map_cons,List.map_nil]
      refine List.nodup_append.2 ⟨hb1,by simp,fun a ha b hb=>?_⟩
      simp only [List.mem_singleton] at hb
      subst hb
      obtain ⟨y,hy,rfl⟩:=List.mem_map.1 ha
      have:=hb2 y hy
      omega
    · intro y hy
      rw [Array.toList_push,List.mem_append] at hy
      rcases hy with hy | hy
      · have:=hb2 y hy;omega
      · rw [List.mem_singleton.1 hy];exact Nat.lt_succ_self _
  · have hmap:((es.modify x fun e=>{ e with key:=.agg (ints (kl k)).toArray,val:=valV agg cs }).toList.map (·.born))=es.toList.map (·.born):=by
      rw [Array.toList_modify]
      have:∀ (l:List MapEntry) (x:Nat),(l.modify x fun e=>{ e with key:=.agg (ints (kl k)).toArray,val:=valV agg cs }).map (·.born)=l.map (·.born):=by
        intro l
        induction l with
        | nil=>intro x;cases x <;> rfl
        | cons y l ih=>intro x;cases x <;> simp [ih]
      exact this _ _
    refine ⟨es.modify x fun e=>{ e with key:=.agg (ints (kl k)).toArray,val:=valV agg cs },clock,?_,?_,?_,?_⟩
    · have hes:(es[x]?.map (·.key)).getD (.agg (ints (kl k)).toArray)=.agg (ints (kl k)).toArray:=by
        rw [← Array.getElem?_toList,g6]
        simp [g7,g3]
      have hkeep:(Instr.keyThatStays (.agg (ints (kl k)).toArray) (.agg (ints (kl k)).toArray)).run P w=.ok (.agg (ints (kl k)).toArray) w:=by
        unfold Instr.keyThatStays
        rw [if_pos (sameBits_ints (kl k) 9998)];rfl
      simp only [Instr.mapUpdate,Sem.run_bind,run_underlying h.u,Result.andThen_ok,hget,h.check _ (hkl k),run_findKey_st h.st,g8,Nat.zero_add]
      rw [hes]
      simp only [hkeep,Result.andThen_ok,hset]
    · rw [Array.toList_modify]
      exact mput_modify hv hM g1
    · rw [hmap];exact hb1
    · intro y hy
      have:y.born ∈ (es.modify x fun e=>{ e with key:=.agg (ints (kl k)).toArray,val:=valV agg cs }).toList.map (·.born):=List.mem_map.2 ⟨y,hy,rfl⟩
      rw [hmap] at this
      obtain ⟨u,hu,e⟩:=List.mem_map.1 this
      have:=hb2 u hu;omega
variable {N:Nat} {rs:List Nat} {r:Option Nat} {vs:List (Nat × Value)} {a:Act} {w0:World} {ops:Array Oper} {Q:Exit→Act→World→Prop} {rest:List Oper}
variable {d:Nat} {dst:Option Nat} {ty:TypeId} {pos:String} {aft:Array Edge} {gd:Option (Nat × Bool)} {v:Value} {D0:Stab} {ls:List (Nat × LR)}
theorem map_putB {T E:TypeId} {x y u:Operand} {z:List Value} {xs:List (K × V)} {b:Nat} {es:Array MapEntry} {clock:Nat} {op:Op} (hop:op=.mapUpdate T x y u∨op=.insert T x y u) (i:Nat) (hT:MapT P T kt E n agg z) (hkl:∀ k,(kl k).length=n) (k:K) {v0:V} {cs:List Value}
    (hM:MRepB kl C agg D xs es clock) (hv:C.rep D v0 cs) (hF:Frm N rs vs a)
    (hx:ev vs x=some (.map (some b))) (hy:ev vs y=some (.agg (ints (kl k)).toArray)) (hu:ev vs u=some (valV agg cs)) (hS:St w0 D0 D ls w) (hl:lk ls i=some (.obj b (.map es clock)))
    (h:∀ es' clock' a' w',Frm N rs vs a'→St w0 D0 D ((i,.obj b (.map es' clock'))::ls) w'→MRepB kl C agg D (mput kl xs k v0) es' clock'→WL r P ops Q rest a' w'):
    WL r P ops Q (⟨none,op,ty,pos,aft,none⟩::rest) a w:=by
  have hb:w.heap[b]?=some (.map es clock):=hS.each i _ hl
  have hlow:=hS.low i _ hl b (by simp [LR.fp])
  obtain ⟨es',clock',h1,h2⟩:=run_mapUpdate_ofB hT hb hM hkl k hv
  refine wpListIn_plain rfl fun K' hK=>⟨fun _ _=>trivial,?_⟩
  have hr:(execOp a.eval (⟨none,op,ty,pos,aft,none⟩:Oper)).run P w=.ok .skip { w with heap:=w.heap.setIfInBounds b (.map es' clock') }:=by
    rcases hop with rfl | rfl <;> simp only [execOp,hF.eval hx,hF.eval hy,hF.eval hu,Sem.run_bind,h1,Result.andThen_ok] <;> rfl
  rw [show (Fw r).round=r from rfl,semAt_of hr (by intro d h;cases h)]
  refine hK _ _ (h es' clock' _ _ (hF.put_none undef) ?_ h2)
  refine hS.turn i _ ⟨hS.below.os,hS.below.tape,hS.below.output,by simpa using hS.below.size,fun k hk=>?_⟩ (fun k hk hno=>?_) (setObj_heap hb) (fun k hk=>.inr ⟨_,hl,hk⟩)
  · show (w.heap.setIfInBounds b _)[k]?=_
    rw [Array.getElem?_setIfInBounds,if_neg (by have:=hlow.1;omega)]
    exact hS.below.block k hk
  · show (w.heap.setIfInBounds b _)[k]?=_
    rw [Array.getElem?_setIfInBounds,if_neg (fun e=>by subst e;exact hno _ hl (by simp [LR.fp]))]
theorem St.freezeMB {i b:Nat} {es:Array MapEntry} {clock:Nat} {xs:List (K × V)} (hS:St w0 D0 D ls w) (hl:lk ls i=some (.obj b (.map es clock))) (hM:MRepB kl C agg D xs es clock):
    ∃ D',D.le D'∧MapB kl C agg D' xs (some b)∧St w0 D0 D' ((i,.gone)::ls) w:=by
  have hb:w.heap[b]?=some (.map es clock):=hS.each i _ hl
  have hlow:=hS.low i _ hl b (by simp [LR.fp])
  have hle:D.le (fun k=>if k=b then some (.map es clock) else D k):=fun k o hk=>by
    by_cases hkb:k=b
    · subst hkb;rw [hlow.2] at hk;cases hk
    · simp only [hkb,if_false];exact hk
  refine ⟨_,hle,.inr ⟨b,es,clock,rfl,by simp,hM.mono hle⟩,?_⟩
  have hS':=hS.turn i .gone hS.below (fun _ _ _=>rfl) trivial (fun b hb=>by simp [LR.fp] at hb)
  refine ⟨hS'.below,hS'.le.trans hle,fun k hk=>?_,fun k o hk=>?_,hS'.each,fun j s hj k hk=>⟨(hS'.low j s hj k hk).1,?_⟩,hS'.sep⟩
  · by_cases hkb:k=b
    · subst hkb;exact .inr hlow.1
    · simp only [hkb,if_false] at hk;exact hS'.new k hk
  · by_cases hkb:k=b
    · subst hkb;simp only [if_true,Option.some.injEq] at hk;rw [hb,hk]
    · simp only [hkb,if_false] at hk;exact hS'.stab k o hk
  · have hne:k ≠ b:=fun e=>by
      subst e
      rcases lk_cons hj with ⟨_,rfl⟩ | ⟨hji,hj'⟩
      · simp [LR.fp] at hk
      · exact hS.sep j i s _ hj' hl hji k hk (by simp [LR.fp])
    simp only [hne,if_false]
    exact (hS'.low j s hj k hk).2
end
end Go.Proofs.YtgdfljiliflhfaaGreatDoor.Rt
