/- The small program logic of this seat, part 11: ranges over functions. Under no conditions but those that each rule names. -/
import Derived.Test.YtgdfljiliflhfaaGreatDoorC3Rt10
import Derived.RangeFuncRecord
set_option linter.unusedSimpArgs false
set_option linter.unusedVariables false
namespace Go.Proofs.YtgdfljiliflhfaaGreatDoor.Rt
open Go Go.RowKit
def recOf (fn:FuncId) (tmps:Array Value) (ps:List Tmp) (assign body:Code) (m:Nat) (s:LoopState):Obj:=
  .loop { state:=s,pending:=none,fn:=fn,tmps:=tmps,params:=ps.toArray,assign:=assign,body:=body,defers:=m }
def Yld (P:Program) (l:Nat) (us:List Value) (w:World) (K:World→Prop):Prop:=
  ∃ rc:Loop,w.heap[l]?=some (.loop rc)∧us.length=rc.params.size ∧
    RoundIn (Fw none) 0 P l rc.fn ((rc.params.zip us.toArray).foldl (fun tmps (t,a)=>tmps.setIfInBounds t a) rc.tmps) rc.assign rc.body w (fun e w'=>e=.returned (.bool true)∧K w')
section
variable {P:Program} {N:Nat} {rs:List Nat} {vs:List (Nat × Value)} {a:Act} {w w0:World} {ops:Array Oper} {Q:Exit→Act→World→Prop} {rest:List Oper}
variable {d:Nat} {ty:TypeId} {pos:String} {aft:Array Edge} {D0 D:Stab} {ls:List (Nat × LR)}
theorem O.yield {x:Operand} {xs:List Operand} {Ts:Array TypeId} {l:Nat} {us:List Value} {K:World→Prop} (hF:Frm N rs vs a)
    (hx:ev vs x=some (.func (.yield l) #[] #[])) (hxs:evs vs xs=some us) (hy:Yld P l us w K) (hd:Nat.ble (d + 1) N=true)
    (h:∀ a' w',Frm N rs ((d,.bool true)::vs) a'→K w'→WL none P ops Q rest a' w'):
    WL none P ops Q (⟨some d,.call ⟨.value x,xs.toArray,Ts⟩,ty,pos,aft,none⟩::rest) a w:=by
  obtain ⟨rc,h1,h2,h3⟩:=hy
  have e1:=hF.evals hxs
  have e2:Array.map a.eval xs.toArray=us.toArray:=by simp [e1]
  have hr:(execOp a.eval (⟨some d,.call ⟨.value x,xs.toArray,Ts⟩,ty,pos,aft,none⟩:Oper)).run P w =
      .ok (.round l rc.fn ((rc.params.zip us.toArray).foldl (fun tmps (t,a)=>tmps.setIfInBounds t a) rc.tmps) rc.assign rc.body) w:=by
    have:=run_yield (P:=P) (args:=us.toArray) h1 (by simpa using h2)
    simp only [execOp,resolve,hF.eval hx,Deferred.ofValue,invoke,e2,Sem.run_bind,Sem.run_pure,Result.andThen_ok]
    simpa using this
  refine wpListIn_plain rfl fun K' hK=>⟨fun _ _=>trivial,?_⟩
  rw [show (Fw none).round=none from rfl,semAt_of hr (by intro d h;cases h)]
  refine ⟨fun h=>(by cases h),RoundIn.mono h3 fun e w' hR=>?_⟩
  obtain ⟨rfl,hk⟩:=hR
  exact hK _ _ (h _ w' (hF.put d _ hd) hk)
theorem St.putObj {i b:Nat} {o o':Obj} (hS:St w0 D0 D ls w) (hl:lk ls i=some (.obj b o)):St w0 D0 D ((i,.obj b o')::ls) (w.putObj b o'):=by
  have hb:w.heap[b]?=some o:=hS.each i _ hl
  have hlow:=hS.low i _ hl b (by simp [LR.fp])
  have hlt:b < w.heap.size:=(Array.getElem?_eq_some_iff.1 hb).1
  refine hS.turn i _ ⟨hS.below.os,hS.below.tape,hS.below.output,by simpa using hS.below.size,fun k hk=>?_⟩ (fun k hk hno=>?_) (World.putObj_heap_same hlt) (fun k hk=>.inr ⟨_,hl,hk⟩)
  · rw [World.putObj_heap_other (by have:=hlow.1;omega)]
    exact hS.below.block k hk
  · rw [World.putObj_heap_other (fun e=>by subst e;exact hno _ hl (by simp [LR.fp]))]
theorem St.sub {ms:List (Nat × LR)} (h:St w0 D0 D ls w) (hm:∀ i r,lk ms i=some r→lk ls i=some r):St w0 D0 D ms w:=
  ⟨h.below,h.le,h.new,h.stab,fun i r x=>h.each i r (hm i r x),fun i r x=>h.low i r (hm i r x),fun i j r s x y=>h.sep i j r s (hm i r x) (hm j s y)⟩
theorem St.noMarks (hS:St w0 D0 D ls w) (i:Nat):St w0 D0 D ((i,.marks [])::ls) w:=
  hS.turn i _ hS.below (fun _ _ _=>rfl) ⟨List.nodup_nil,fun b hb=>by cases hb⟩ (fun b hb=>by cases hb)
theorem enter_loop {fn:FuncId} {tmps:Array Value} {ps:List Tmp} {assign body:Code} (im il:Nat) (hne:il ≠ im) (hS:St w0 D0 D ls w) (hm:lk ls im=some (.marks rs)):
    ∃ m l w1,(Instr.enterLoop fn tmps ps.toArray assign body none).run P w=.ok (l,[mk m]) w1 ∧
      St w0 D0 D ((il,.obj l (recOf fn tmps ps assign body m .ready))::(im,.marks (m::rs))::ls) w1:=by
  have hmk:=hS.each im _ hm
  have hlow:=hS.low im _ hm
  refine ⟨w.heap.size,w.heap.size + 1,_,run_enterLoop_outer fn tmps ps.toArray assign body,?_⟩
  have h1:St w0 D0 D ((im,.marks (w.heap.size::rs))::ls) (w.alloc (.deferred (some []))):=by
    refine hS.turn im _ (hS.below.alloc hS.below.size _) (fun b hb _=>alloc_old _ hb) ⟨?_,fun b hb=>?_⟩ (fun b hb=>?_)
    · refine List.nodup_cons.2 ⟨fun hin=>?_,hmk.1⟩
      have:=LR.holds_lt (r:=.marks rs) hmk hin
      omega
    · simp only [List.mem_cons] at hb
      rcases hb with rfl | hb
      · exact World.alloc_heap_new w _
      · rw [alloc_old _ (LR.holds_lt (r:=.marks rs) hmk hb)];exact hmk.2 b hb
    · simp only [LR.fp,List.mem_cons] at hb
      rcases hb with rfl | hb
      · exact .inl (Nat.le_refl _)
      · exact .inr ⟨_,hm,hb⟩
  have hsz:(w.alloc (.deferred (some []))).heap.size=w.heap.size + 1:=World.size_alloc w _
  refine h1.turn il _ (h1.below.alloc h1.below.size _) (fun b hb _=>alloc_old _ hb) ?_ (fun b hb=>.inl ?_)
  · show ((w.alloc (.deferred (some []))).alloc _).heap[w.heap.size + 1]?=_
    rw [← hsz];exact World.alloc_heap_new _ _
  · simp only [LR.fp,List.mem_singleton] at hb;omega
theorem Frm.marked {m:Nat} (hF:Frm N rs vs a):Frm N (m::rs) vs { a with defers:=[Rt.mk m] ++ a.defers }:=
  ⟨hF.size,by simp [hF.defers],hF.get⟩
theorem range_cut {g:Operand} {ps:List Tmp} {assign body:Code} {f:FuncId} {first cap:List Value} {K:Nat→Nat→Obj→World→Prop} (im il:Nat) (hne:il ≠ im) (hc:callable P f=true) (hF:Frm N rs vs a) (hS:St w0 D0 D ls w)
    (hm:lk ls im=some (.marks rs)) (hg:ev vs g=some (.func (.func f) first.toArray cap.toArray))
    (hcall:∀ (fn:FuncId) (m l:Nat) (R:Obj) (hR:R=recOf fn a.tmps ps assign body m .ready) (w1:World),St w0 D0 D ((il,.obj l R)::(im,.marks (m::rs))::ls) w1 →
      CallsIn (Fw none) 0 P f (first ++ ([Value.func (.yield l) #[] #[]]:List Value) ++ cap).toArray w1 (fun e w'=>(∃ v,e=.returned v)∧K m l R w'))
    (hnext:∀ (m l:Nat) (R:Obj) (w':World),K m l R w'→∃ D' ls',St w0 D0 D' ls' w'∧lk ls' il=some (.obj l R) ∧
      ∀ a2 w2,Frm N (m::rs) vs a2→St w0 D0 D' ((il,.gone)::ls') w2→Q .normal a2 w2):
    WP none P (Code.rangeFunc g ps.toArray assign body) Q a w:=by
  refine wpIn_rangeFunc fun fn _=>?_
  obtain ⟨m,l,w1,he,hS1⟩:=enter_loop (P:=P) (fn:=fn) (tmps:=a.tmps) (ps:=ps) (assign:=assign) (body:=body) im il hne hS hm
  have hres:(resolve a.eval (rangeCall g l) 0).run P w1=.ok { target:=.fn (.func f) cap.toArray,args:=first.toArray ++ #[.func (.yield l) #[] #[]] } w1:=by
    have h2:Array.map a.eval #[Operand.const (.func (.yield l) #[] #[])]=#[.func (.yield l) #[] #[]]:=by simp [Act.eval]
    simp only [rangeCall,resolve,hF.eval hg,Deferred.ofValue,h2]
    rfl
  refine ⟨l,_,w1,_,w1,f,(first ++ ([Value.func (.yield l) #[] #[]]:List Value) ++ cap).toArray,w1,he,hres,fun _ _=>trivial,?_,fun h=>(by cases h),CallsIn.mono (hcall fn m l _ rfl w1 hS1) fun e w' hk=>?_⟩
  · simp only [invoke]
    rw [run_callFunc_of hc]
    simp
  · obtain ⟨⟨v,rfl⟩,hk⟩:=hk
    obtain ⟨D',ls',hS',hl,hQ⟩:=hnext m l _ w' hk
    have hrec:w'.heap[l]?=some (recOf fn a.tmps ps assign body m .ready):=hS'.each il _ hl
    refine ⟨none,_,run_endLoop hrec (by simp),?_⟩
    refine hQ _ _ hF.marked ?_
    have h3:=hS'.putObj (o':=.loop { state:=.exhausted,pending:=none,fn:=fn,tmps:=a.tmps,params:=ps.toArray,assign:=assign,body:=body,defers:=m }) hl
    have h4:=h3.turn il .gone h3.below (fun _ _ _=>rfl) trivial (fun b hb=>by simp [LR.fp] at hb)
    refine h4.sub fun i r x=>?_
    rcases lk_cons x with ⟨rfl,rfl⟩ | ⟨hne,x⟩
    · exact lk_same _ _ _
    · have hb:Nat.beq il i=false:=by
        cases hb:Nat.beq il i with
        | true=>exact absurd (Nat.eq_of_beq_eq_true hb).symm hne
        | false=>rfl
      simp only [lk,hb,cond_false];exact x
theorem Frm.round {tmps:Array Value} {t:Nat} {u:Value} (hsz:tmps.size=N) (hget:∀ i v,look vs i=some v→tmps[i]?=some v) (ht:Nat.ble (t + 1) N=true):
    Frm N [] ((t,u)::vs) { tmps:=tmps.setIfInBounds t u,defers:=[] }:=by
  have hF:Frm N [] vs { tmps:=tmps,defers:=[] }:=⟨hsz,rfl,hget⟩
  exact hF.put t u ht
theorem round_cut {fn:FuncId} {tmps:Array Value} {t:Tmp} {assign body:Code} {m l:Nat} {u:Value} {K:World→Prop} {R:Obj} (il:Nat) (hsz:tmps.size=N) (hget:∀ i v,look vs i=some v→tmps[i]?=some v) (ht:Nat.ble (t + 1) N=true)
    (hS:St w0 D0 D ls w) (hl:lk ls il=some (.obj l R)) (hR:R=recOf fn tmps [t] assign body m .ready)
    (h:∀ R2 a,Frm N [] ((t,u)::vs) a→WP (some l) P assign (Exit.then (fun a1 w1=>∃ D1 ls1,St w0 D0 D1 ls1 w1∧lk ls1 il=some (.obj l R) ∧
      ∀ w2,St w0 D0 D1 ((il,.obj l R2)::ls1) w2 →
        WP (some l) P body (Exit.then (fun a2 w2=>∃ D2 ls2,St w0 D0 D2 ls2 w2∧lk ls2 il=some (.obj l R2) ∧
          ∀ w3,St w0 D0 D2 ((il,.obj l R)::ls2) w3→K w3) (fun _ _ _=>False)) a1 w2) (fun _ _ _=>False)) a w):
    Yld P l [u] w K:=by
  subst hR
  replace h:=h (recOf fn tmps [t] assign body m .busy)
  have hrec:w.heap[l]?=some (recOf fn tmps [t] assign body m .ready):=hS.each il _ hl
  refine ⟨_,hrec,by simp,roundIn_of_wpIn trivial ?_⟩
  refine wpIn_mono (h _ ?_) fun e a1 w1 hq=>?_
  · simpa using Frm.round (u:=u) hsz hget ht
  · cases e with
    | normal=>
      obtain ⟨D1,ls1,hS1,hl1,h2⟩:=hq
      have hr1:w1.heap[l]?=some (recOf fn tmps [t] assign body m .ready):=hS1.each il _ hl1
      refine ⟨_,run_beginRound hr1 rfl,wpIn_mono (h2 _ (hS1.putObj hl1)) fun e a2 w2 hq=>?_⟩
      cases e with
      | normal=>
        obtain ⟨D2,ls2,hS2,hl2,h3⟩:=hq
        have hr2:w2.heap[l]?=some (recOf fn tmps [t] assign body m .busy):=hS2.each il _ hl2
        exact ⟨_,_,run_endRound none hr2,rfl,h3 _ (hS2.putObj hl2)⟩
      | ret=>exact hq.elim
      | exit id=>exact hq.elim
      | goto t=>exact hq.elim
      | panic c=>exact hq.elim
      | outgrown=>exact hq.elim
    | ret=>exact hq.elim
    | exit id=>exact hq.elim
    | goto t=>exact hq.elim
    | panic c=>exact hq.elim
    | outgrown=>exact hq.elim
theorem leaveI {fn:Func} {R:Ending→World→Prop} (hr:fn.results=#[]) (hF:Frm N [] vs a) (hR:R (.returned (.tuple #[])) w):base P fn R .ret a w:=by
  show LeavesInM (Fw none) 0 P fn a.tmps R a.defers .returning w
  rw [hF.defers]
  refine ⟨.tuple #[],?_,hR⟩
  simp [results,hr]
theorem leaveIn {fn:Func} {R:Ending→World→Prop} (hr:fn.results=#[]) (hF:Frm N [] vs a) (hR:R (.returned (.tuple #[])) w):base P fn R .normal a w:=leaveI hr hF hR
theorem lk_ne {i j:Nat} {x:LR} {ls:List (Nat × LR)} (h:i ≠ j):lk ((i,x)::ls) j=lk ls j:=by
  have hb:Nat.beq i j=false:=by
    cases hb:Nat.beq i j with
    | true=>exact absurd (Nat.eq_of_beq_eq_true hb) h
    | false=>rfl
  simp only [lk,hb,cond_false]
theorem subc {vs us:List (Nat × LR)} {i:Nat} {v:LR} (h:lk vs i=some v) (hr:∀ j r,lk us j=some r→lk vs j=some r):∀ j r,lk ((i,v)::us) j=some r→lk vs j=some r:=fun j r hj=>by
  rcases lk_cons hj with ⟨rfl,rfl⟩ | ⟨_,hj⟩
  · exact h
  · exact hr j r hj
def small (ms:List (Nat × LR)):Bool:=ms.all fun p=>Nat.blt p.1 1000
theorem small_lt:∀ {ms:List (Nat × LR)},small ms=true→∀ i r,lk ms i=some r→i < 1000
  | [],_,i,r,h=>by simp [lk] at h
  | (k,x)::ms,h,i,r,hl=>by
    simp only [small,List.all_cons,Bool.and_eq_true] at h
    rcases lk_cons hl with ⟨rfl,rfl⟩ | ⟨_,hl⟩
    · simpa using h.1
    · exact small_lt (ms:=ms) h.2 i r hl
end
end Go.Proofs.YtgdfljiliflhfaaGreatDoor.Rt
