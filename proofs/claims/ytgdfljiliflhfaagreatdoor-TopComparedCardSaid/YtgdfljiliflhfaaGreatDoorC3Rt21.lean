/- The small program logic of this seat, part 21: an entry of a map that is worked upon and set (m[k] = append(m[k], x)). Under no conditions but those that each rule names. -/
import Derived.Test.YtgdfljiliflhfaaGreatDoorC3Rt20
set_option linter.unusedVariables false
set_option linter.unusedSimpArgs false
set_option maxRecDepth 100000
namespace Go.Proofs.YtgdfljiliflhfaaGreatDoor.Rt
open Go Go.RowKit
theorem findIdx_born {es:Array MapEntry} {i:Nat} {e:MapEntry} (hi:es.toList[i]?=some e) (hn:(es.toList.map (·.born)).Nodup):es.findIdx? (fun x=>(x.born:Int) == (e.born:Int))=some i:=by
  have key:∀ (l:List MapEntry) (i:Nat),l[i]?=some e→(l.map (·.born)).Nodup→l.findIdx? (fun x=>(x.born:Int) == (e.born:Int))=some i:=by
    intro l
    induction l with
    | nil=>intro i h;simp at h
    | cons y l ih=>
      intro i h hn
      simp only [List.map_cons,List.nodup_cons] at hn
      cases i with
      | zero=>
        simp only [List.getElem?_cons_zero,Option.some.injEq] at h
        subst h
        simp [List.findIdx?_cons]
      | succ i=>
        simp only [List.getElem?_cons_succ] at h
        have hne:((y.born:Int) == (e.born:Int))=false:=by
          rw [beq_eq_false_iff_ne]
          intro h2
          exact hn.1 (List.mem_map.2 ⟨e,List.mem_of_getElem? h,by omega⟩)
        rw [List.findIdx?_cons,hne]
        simp [ih i h hn.2]
  obtain ⟨l⟩:=es
  rw [List.findIdx?_toArray]
  exact key l i hi hn
section
variable {P:Program} {K:Type} {kl:K→List Int} {D:Stab} {w:World} {kt:TypeId} {n:Nat}
theorem run_mapEntry_of {T E:TypeId} (h:MapT P T kt E n false [.slice none 0 0]) {r:Nat} {es:Array MapEntry} {clock:Nat} (hr:w.heap[r]?=some (.map es clock)) {hs:List (K × Hdr)} (hM:MRepB kl C_hdr false D hs es clock)
    (hkl:∀ k,(kl k).length=n) (k:K):
    ∃ es1 clk1,∃ b:Nat,(Instr.mapEntry T (.map (some r)) (.agg (ints (kl k)).toArray)).run P w=.ok (.tuple #[Value.slice (((mget kl hs k).getD hdr0).p) (((mget kl hs k).getD hdr0).n) (((mget kl hs k).getD hdr0).c),Value.int .i64 (b:Int)]) { w with heap:=w.heap.setIfInBounds r (.map es1 clk1) } ∧
      ∀ h':Hdr,∃ es2,MRepB kl C_hdr false D (mput kl hs k h') es2 clk1∧∀ w':World,w'.heap[r]?=some (.map es1 clk1) →
        (Instr.entryStore T (.map (some r)) (.int .i64 b) (.slice h'.p h'.n h'.c)).run P w'=.ok () { w' with heap:=w'.heap.setIfInBounds r (.map es2 clk1) }:=by
  obtain ⟨j,hj,hE⟩:=h.eq
  obtain ⟨inf,zv,hi,hzv,hzz⟩:=h.zero
  have hzero:∀ w,(zeroValue E).run P w=.ok (.slice none 0 0) w:=fun w=>by
    have:zv=.slice none 0 0:=hzz
    subst this
    simp [zeroValue,typeInfo,hi,hzv]
  have hM0:=hM
  obtain ⟨hM,hb1,hb2⟩:=hM
  have hget:(getObj r).run P w=.ok (.map es clock) w:=by simp [getObj,Sem.run,hr]
  have hset:∀ o,(setObj r o).run P w=.ok () { w with heap:=w.heap.setIfInBounds r o }:=fun o=>by simp [setObj,Sem.run,hr]
  rcases run_findAsking hE hj hkl k hs es.toList 0 hM with ⟨g1,g2⟩ | ⟨x,cs0,p,g1,g2,g3,g4,g5,⟨e,g6,g7⟩,g8⟩
  · refine ⟨es.push ⟨.agg (ints (kl k)).toArray,.slice none 0 0,clock⟩,clock + 1,clock,?_,fun h'=>?_⟩
    · rw [(mfind_none g1).1]
      simp only [Instr.mapEntry,Sem.run_bind,run_underlying h.u,Result.andThen_ok,hget,h.check _ (hkl k),run_findKey_st h.st,g2,hzero,hset]
      rfl
    · have hnd:((es.push ⟨.agg (ints (kl k)).toArray,.slice none 0 0,clock⟩).toList.map (·.born)).Nodup:=by
        rw [Array.toList_push,List.map_append,List.map_cons,List.map_nil]
        refine List.nodup_append.2 ⟨hb1,by simp,fun a ha b hb=>?_⟩
        simp only [List.mem_singleton] at hb
        subst hb
        obtain ⟨y,hy,rfl⟩:=List.mem_map.1 ha
        have:=hb2 y hy
        omega
      have hfi:=findIdx_born (es:=es.push ⟨.agg (ints (kl k)).toArray,.slice none 0 0,clock⟩) (i:=es.size) (e:=⟨.agg (ints (kl k)).toArray,.slice none 0 0,clock⟩) (by simp) hnd
      refine ⟨es.push ⟨.agg (ints (kl k)).toArray,.slice h'.p h'.n h'.c,clock⟩,⟨?_,?_,?_⟩,fun w' hw'=>?_⟩
      · rw [(mfind_none g1).2 h',Array.toList_push]
        exact hM.snoc rfl (cs:=[.slice h'.p h'.n h'.c]) rfl rfl
      · rw [Array.toList_push,List.map_append,List.map_cons,List.map_nil] at hnd ⊢
        exact hnd
      · intro y hy
        rw [Array.toList_push,List.mem_append] at hy
        rcases hy with hy | hy
        · have:=hb2 y hy;omega
        · rw [List.mem_singleton.1 hy];exact Nat.lt_succ_self _
      · have hget':(getObj r).run P w'=.ok (.map (es.push ⟨.agg (ints (kl k)).toArray,.slice none 0 0,clock⟩) (clock + 1)) w':=by simp [getObj,Sem.run,hw']
        have hset':∀ o,(setObj r o).run P w'=.ok () { w' with heap:=w'.heap.setIfInBounds r o }:=fun o=>by simp [setObj,Sem.run,hw']
        have ha:(asInt (.int .i64 (clock:Int))).run P w'=.ok (clock:Int) w':=by simp [asInt,asIntOf]
        simp only [Instr.entryStore,Sem.run_bind,hget',Result.andThen_ok,ha,hfi,hset']
        have he:((es.push ⟨.agg (ints (kl k)).toArray,.slice none 0 0,clock⟩).modify es.size fun e=>{ e with val:=.slice h'.p h'.n h'.c })=es.push ⟨.agg (ints (kl k)).toArray,.slice h'.p h'.n h'.c,clock⟩:=by
          apply Array.ext_getElem?
          intro i
          rw [Array.getElem?_modify,Array.getElem?_push,Array.getElem?_push]
          by_cases hi:es.size=i
          · subst hi;simp
          · rw [if_neg hi,if_neg (fun e=>hi e.symm),if_neg (fun e=>hi e.symm)]
        rw [he]
  · have g5':cs0=[.slice p.2.p p.2.n p.2.c]:=g5
    subst g5'
    have hex:es[x]?=some e:=by rw [← Array.getElem?_toList];exact g6
    have hes:(es[x]?.map (·.key)).getD (.agg (ints (kl k)).toArray)=.agg (ints (kl k)).toArray:=by rw [hex];simp [g7,g3]
    have hborn:((es[x]?).map (fun y=>(y.born:Int))).getD 0=(e.born:Int):=by rw [hex];rfl
    have hkeep:(Instr.keyThatStays (.agg (ints (kl k)).toArray) (.agg (ints (kl k)).toArray)).run P w=.ok (.agg (ints (kl k)).toArray) w:=by
      unfold Instr.keyThatStays
      rw [if_pos (sameBits_ints (kl k) 9998)];rfl
    have hmap:∀ (f:MapEntry→MapEntry),(∀ e,(f e).born=e.born)→((es.modify x f).toList.map (·.born))=es.toList.map (·.born):=by
      intro f hf
      rw [Array.toList_modify]
      have:∀ (l:List MapEntry) (x:Nat),(l.modify x f).map (·.born)=l.map (·.born):=by
        intro l
        induction l with
        | nil=>intro x;cases x <;> rfl
        | cons y l ih=>intro x;cases x <;> simp [ih,hf]
      exact this _ _
    refine ⟨es.modify x fun e=>{ e with key:=.agg (ints (kl k)).toArray },clock,e.born,?_,fun h'=>?_⟩
    · rw [g4]
      simp only [Instr.mapEntry,Sem.run_bind,run_underlying h.u,Result.andThen_ok,hget,h.check _ (hkl k),run_findKey_st h.st,g8,Nat.zero_add]
      rw [hes,hborn]
      simp only [hkeep,Result.andThen_ok,hset]
      rfl
    · have hm2:((es.modify x fun e=>{ e with key:=.agg (ints (kl k)).toArray }).modify x fun e=>{ e with val:=.slice h'.p h'.n h'.c })=es.modify x fun e=>{ e with key:=.agg (ints (kl k)).toArray,val:=.slice h'.p h'.n h'.c }:=by
        apply Array.ext_getElem?
        intro i
        rw [Array.getElem?_modify,Array.getElem?_modify,Array.getElem?_modify]
        by_cases hi:x=i
        · subst hi;rw [if_pos rfl,if_pos rfl,if_pos rfl,Option.map_map];rfl
        · rw [if_neg hi,if_neg hi,if_neg hi]
      have hfi:=findIdx_born (es:=es.modify x fun e=>{ e with key:=.agg (ints (kl k)).toArray }) (i:=x) (e:={ e with key:=.agg (ints (kl k)).toArray }) (by
        rw [Array.getElem?_toList,Array.getElem?_modify,if_pos rfl,hex];rfl) (by rw [hmap (fun e=>{ e with key:=.agg (ints (kl k)).toArray }) fun _=>rfl];exact hb1)
      refine ⟨es.modify x fun e=>{ e with key:=.agg (ints (kl k)).toArray,val:=.slice h'.p h'.n h'.c },⟨?_,?_,?_⟩,fun w' hw'=>?_⟩
      · rw [Array.toList_modify]
        exact mput_modify (cs:=[.slice h'.p h'.n h'.c]) rfl hM g1
      · rw [hmap (fun e=>{ e with key:=.agg (ints (kl k)).toArray,val:=.slice h'.p h'.n h'.c }) fun _=>rfl];exact hb1
      · intro y hy
        have:y.born ∈ (es.modify x fun e=>{ e with key:=.agg (ints (kl k)).toArray,val:=.slice h'.p h'.n h'.c }).toList.map (·.born):=List.mem_map.2 ⟨y,hy,rfl⟩
        rw [hmap (fun e=>{ e with key:=.agg (ints (kl k)).toArray,val:=.slice h'.p h'.n h'.c }) fun _=>rfl] at this
        obtain ⟨u,hu,e2⟩:=List.mem_map.1 this
        have:=hb2 u hu;omega
      · have hget':(getObj r).run P w'=.ok (.map (es.modify x fun e=>{ e with key:=.agg (ints (kl k)).toArray }) clock) w':=by simp [getObj,Sem.run,hw']
        have hset':∀ o,(setObj r o).run P w'=.ok () { w' with heap:=w'.heap.setIfInBounds r o }:=fun o=>by simp [setObj,Sem.run,hw']
        have ha:(asInt (.int .i64 (e.born:Int))).run P w'=.ok (e.born:Int) w':=by simp [asInt,asIntOf]
        simp only [Instr.entryStore,Sem.run_bind,hget',Result.andThen_ok,ha,hfi,hset',hm2]
def Stamp (P:Program) (kl:K→List Int) (D:Stab) (T:TypeId) (b:Nat) (hs:List (K × Hdr)) (k:K) (es1:Array MapEntry) (clk1 st:Nat):Prop:=
  ∀ h':Hdr,∃ es2,MRepB kl C_hdr false D (mput kl hs k h') es2 clk1∧∀ w':World,w'.heap[b]?=some (.map es1 clk1) →
    (Instr.entryStore T (.map (some b)) (.int .i64 st) (.slice h'.p h'.n h'.c)).run P w'=.ok () { w' with heap:=w'.heap.setIfInBounds b (.map es2 clk1) }
variable {N:Nat} {rs:List Nat} {r:Option Nat} {vs:List (Nat × Value)} {a:Act} {w0:World} {ops:Array Oper} {Q:Exit→Act→World→Prop} {rest:List Oper}
variable {d:Nat} {ty:TypeId} {pos:String} {aft:Array Edge} {D0:Stab} {ls:List (Nat × LR)}
theorem St.setMap {i b:Nat} {es es1:Array MapEntry} {clk clk1:Nat} (hS:St w0 D0 D ls w) (hl:lk ls i=some (.obj b (.map es clk))):St w0 D0 D ((i,.obj b (.map es1 clk1))::ls) { w with heap:=w.heap.setIfInBounds b (.map es1 clk1) }:=by
  have hb:w.heap[b]?=some (.map es clk):=hS.each i _ hl
  have hlow:=hS.low i _ hl b (by simp [LR.fp])
  refine hS.turn i _ ⟨hS.below.os,hS.below.tape,hS.below.output,by simpa using hS.below.size,fun k hk=>?_⟩ (fun k hk hno=>?_) (setObj_heap hb) (fun k hk=>.inr ⟨_,hl,hk⟩)
  · show (w.heap.setIfInBounds b _)[k]?=_
    rw [Array.getElem?_setIfInBounds,if_neg (by have:=hlow.1;omega)]
    exact hS.below.block k hk
  · show (w.heap.setIfInBounds b _)[k]?=_
    rw [Array.getElem?_setIfInBounds,if_neg (fun e=>by subst e;exact hno _ hl (by simp [LR.fp]))]
theorem O.mapEntry {T E:TypeId} {x y:Operand} {hs:List (K × Hdr)} {b:Nat} {es:Array MapEntry} {clk:Nat} (i:Nat) (hT:MapT P T kt E n false [.slice none 0 0]) (hkl:∀ k,(kl k).length=n) (k:K)
    (hM:MRepB kl C_hdr false D hs es clk) (hF:Frm N rs vs a) (hx:ev vs x=some (.map (some b))) (hy:ev vs y=some (.agg (ints (kl k)).toArray)) (hS:St w0 D0 D ls w) (hl:lk ls i=some (.obj b (.map es clk))) (hd:Nat.ble (d + 1) N=true)
    (h:∀ es1 clk1 st a' w',Frm N rs ((d,.tuple #[.slice ((mget kl hs k).getD hdr0).p ((mget kl hs k).getD hdr0).n ((mget kl hs k).getD hdr0).c,.int .i64 (st:Nat)])::vs) a'→St w0 D0 D ((i,.obj b (.map es1 clk1))::ls) w'→Stamp P kl D T b hs k es1 clk1 st→WL r P ops Q rest a' w'):
    WL r P ops Q (⟨some d,.mapEntry T x y,ty,pos,aft,none⟩::rest) a w:=by
  have hb:w.heap[b]?=some (.map es clk):=hS.each i _ hl
  obtain ⟨es1,clk1,st,h1,h2⟩:=run_mapEntry_of hT hb hM hkl k
  refine stepw (w':={ w with heap:=w.heap.setIfInBounds b (.map es1 clk1) }) hF ?_ hd fun a' hF'=>h es1 clk1 st a' _ hF' (hS.setMap hl) h2
  simp only [execOp,hF.eval hx,hF.eval hy,Sem.run_bind,h1,Result.andThen_ok];rfl
theorem O.entryStore {T:TypeId} {x y u:Operand} {hs:List (K × Hdr)} {k:K} {b st:Nat} {es1:Array MapEntry} {clk1:Nat} (i:Nat) (h':Hdr) (hK:Stamp P kl D T b hs k es1 clk1 st) (hF:Frm N rs vs a) (hx:ev vs x=some (.map (some b))) (hy:ev vs y=some (.int .i64 st))
    (hu:ev vs u=some (.slice h'.p h'.n h'.c)) (hS:St w0 D0 D ls w) (hl:lk ls i=some (.obj b (.map es1 clk1)))
    (h:∀ es2 a' w',Frm N rs vs a'→St w0 D0 D ((i,.obj b (.map es2 clk1))::ls) w'→MRepB kl C_hdr false D (mput kl hs k h') es2 clk1→WL r P ops Q rest a' w'):
    WL r P ops Q (⟨none,.entryStore T x y u,ty,pos,aft,none⟩::rest) a w:=by
  have hb:w.heap[b]?=some (.map es1 clk1):=hS.each i _ hl
  obtain ⟨es2,h1,h2⟩:=hK h'
  have h3:=h2 w hb
  refine wpListIn_plain rfl fun K' hK=>⟨fun _ _=>trivial,?_⟩
  have hr:(execOp a.eval (⟨none,.entryStore T x y u,ty,pos,aft,none⟩:Oper)).run P w=.ok .skip { w with heap:=w.heap.setIfInBounds b (.map es2 clk1) }:=by
    simp only [execOp,hF.eval hx,hF.eval hy,hF.eval hu,Sem.run_bind,h3,Result.andThen_ok];rfl
  rw [show (Fw r).round=r from rfl,semAt_of hr (by intro d h;cases h)]
  exact hK _ _ (h es2 _ _ (hF.put_none undef) (hS.setMap hl) h1)
end
end Go.Proofs.YtgdfljiliflhfaaGreatDoor.Rt
