/- The small program logic of this seat, part 3: operations that make or write memory; calls; control; loops as least fixpoints. Under no conditions but those that each rule names. -/
import Derived.Test.YtgdfljiliflhfaaGreatDoorC3Rt2
import Derived.Scope
set_option linter.unusedVariables false
set_option linter.unusedSimpArgs false
namespace Go.Proofs.YtgdfljiliflhfaaGreatDoor.Rt
open Go Go.RowKit
section
variable {P:Program} {N:Nat} {rs:List Nat} {r:Option Nat} {vs:List (Nat × Value)} {a:Act} {w w0:World} {ops:Array Oper} {Q:Exit→Act→World→Prop} {rest:List Oper}
variable {d:Nat} {dst:Option Nat} {ty:TypeId} {pos:String} {aft:Array Edge} {gd:Option (Nat × Bool)} {v:Value} {D0 D:Stab} {ls:List (Nat × LR)}
theorem stepw {op:Op} {w':World} (hF:Frm N rs vs a) (hy:(execOp a.eval ⟨some d,op,ty,pos,aft,none⟩).run P w=.ok (.value v) w') (hd:Nat.ble (d + 1) N=true)
    (h:∀ a',Frm N rs ((d,v)::vs) a'→WL r P ops Q rest a' w'):WL r P ops Q (⟨some d,op,ty,pos,aft,none⟩::rest) a w:=by
  refine wpListIn_plain rfl fun K hK=>⟨fun _ _=>trivial,?_⟩
  rw [show (Fw r).round=r from rfl,semAt_of hy (by intro d h;cases h)]
  exact hK _ _ (h _ (hF.put d v hd))
theorem run_newVar (T:TypeId) (u:Value):(newVar T u).run P w=.ok ⟨w.heap.size,0,none⟩ (w.alloc (.cells u.cells T)):=by
  simp only [newVar,newRow,Sem.run_bind,run_newObj,Result.andThen_ok,Sem.run_pure];rfl
theorem alloc_heap (o:Obj):(w.alloc o).heap[w.heap.size]?=some o:=by
  show (w.heap.push o)[w.heap.size]?=some o
  simp
theorem alloc_old (o:Obj) {b:Nat} (h:b < w.heap.size):(w.alloc o).heap[b]?=w.heap[b]?:=Below.heap_alloc w o b h
theorem St.alloc' (hS:St w0 D0 D ls w) (i:Nat) (cs:List Value) (E:TypeId):
    St w0 D0 D ((i,.cells w.heap.size cs E)::ls) (w.alloc (.cells cs.toArray E)):=
  hS.turn i _ (hS.below.alloc hS.below.size _) (fun b hb _=>alloc_old _ hb) (alloc_heap _) (fun b hb=>.inl (by simp [LR.fp] at hb;omega))
def zeroCells (P:Program) (T:TypeId):Option (List Value):=((P.info? T).bind (·.zero)).map fun z=>z.cells.toList
theorem O.alloc {T:TypeId} {cs:List Value} (i:Nat) (hz:zeroCells P T=some cs) (hF:Frm N rs vs a) (hS:St w0 D0 D ls w) (hd:Nat.ble (d + 1) N=true)
    (h:∀ b a' w',Frm N rs ((d,.pointer (some ⟨b,0,none⟩))::vs) a'→St w0 D0 D ((i,.cells b cs T)::ls) w'→WL r P ops Q rest a' w'):
    WL r P ops Q (⟨some d,.alloc T,ty,pos,aft,none⟩::rest) a w:=by
  unfold zeroCells at hz
  cases hi:P.info? T with
  | none=>simp [hi] at hz
  | some inf=>
    cases hq:inf.zero with
    | none=>simp [hi,hq] at hz
    | some z=>
      simp [hi,hq] at hz
      refine stepw (v:=.pointer (some ⟨w.heap.size,0,none⟩)) (w':=w.alloc (.cells cs.toArray T)) hF ?_ hd fun a' hF'=>h _ _ _ hF' (hS.alloc' i cs T)
      have hzv:(zeroValue T).run P w=.ok z w:=by simp [zeroValue,typeInfo,hi,hq]
      simp [execOp,Instr.alloc,hzv,run_newVar,← hz]
theorem O.box {T:TypeId} {x:Operand} {u:Value} {cs:List Value} (i:Nat) (hF:Frm N rs vs a) (hx:ev vs x=some u) (hc:u.cells.toList=cs) (hS:St w0 D0 D ls w) (hd:Nat.ble (d + 1) N=true)
    (h:∀ b a' w',Frm N rs ((d,.pointer (some ⟨b,0,none⟩))::vs) a'→St w0 D0 D ((i,.cells b cs T)::ls) w'→WL r P ops Q rest a' w'):
    WL r P ops Q (⟨some d,.box T x,ty,pos,aft,none⟩::rest) a w:=by
  refine stepw (v:=.pointer (some ⟨w.heap.size,0,none⟩)) (w':=w.alloc (.cells cs.toArray T)) hF ?_ hd fun a' hF'=>h _ _ _ hF' (hS.alloc' i cs T)
  simp [execOp,Instr.box,hF.eval hx,run_newVar,← hc]
def splice (cs:List Value) (o:Nat) (us:List Value):List Value:=cs.take o ++ us ++ cs.drop (o + us.length)
theorem setRow_heap_self {b:Nat} {cs:Array Value} {E:TypeId} {fr:Nat × Nat} {cs':Array Value} (hg:w.heap[b]?=some (.cells cs E fr)):
    (w.setRow b cs').heap[b]?=some (.cells cs' E fr):=setRow_heap w b cs cs' E fr hg
theorem setRow_heap_other {b k:Nat} {cs':Array Value} (hk:k ≠ b):(w.setRow b cs').heap[k]?=w.heap[k]?:=by
  simp only [World.setRow,Array.getElem?_modify]
  rw [if_neg (by omega)]
theorem Below.setRow {B:Nat} {v0:World} (h:Below B v0 w) {b:Nat} (hb:B≤b) (cs:Array Value):Below B v0 (w.setRow b cs):=
  h.trans ⟨rfl,rfl,rfl,by simp [World.setRow],fun k hk=>setRow_heap_other (by omega)⟩
theorem O.store {T:TypeId} {x y:Operand} {b o:Nat} {u:Value} {cs us:List Value} {E:TypeId} (i:Nat) {isA:Bool} (hT:tsz P T=some (isA,us.length)) (hF:Frm N rs vs a)
    (hx:ev vs x=some (.pointer (some ⟨b,o,none⟩))) (hy:ev vs y=some u) (hu:u.cells.toList=us) (h1:us.all (·.oneCell')=true)
    (hS:St w0 D0 D ls w) (hl:lk ls i=some (.cells b cs E)) (hfit':Nat.ble (o + us.length) cs.length=true)
    (h:∀ a' w',Frm N rs vs a'→St w0 D0 D ((i,.cells b (splice cs o us) E)::ls) w'→WL r P ops Q rest a' w'):
    WL r P ops Q (⟨none,.store T x y,ty,pos,aft,none⟩::rest) a w:=by
  have hfit:o + us.length≤cs.length:=Nat.le_of_ble_eq_true hfit'
  have hg:w.heap[b]?=some (.cells cs.toArray E (0,0)):=hS.each i _ hl
  have hlow:=hS.low i _ hl b (by simp [LR.fp])
  have hst:=run_storeCells_at P b o E us 0 cs.toArray w hg (by simpa using hfit) (fun z hz=>(List.all_eq_true.1 h1) z hz)
  have hsz:=run_sizeOf_of (P:=P) (w:=w) hT
  refine wpListIn_plain rfl fun K hK=>⟨fun _ _=>trivial,?_⟩
  have hr:(execOp a.eval (⟨none,.store T x y,ty,pos,aft,none⟩:Oper)).run P w=.ok .skip (w.setRow b (splice cs o us).toArray):=by
    have hlen:u.cells.size=us.length:=by rw [← hu];simp
    simp only [Nat.add_zero,List.append_assoc] at hst
    simp [execOp,hF.eval hx,hF.eval hy,Instr.storeAt,Instr.sureAddr,storeVar,hsz,hlen,hu,hst,splice]
  rw [show (Fw r).round=r from rfl,semAt_of hr (by intro d h;cases h)]
  refine hK _ _ (h _ _ (hF.put_none undef) ?_)
  exact hS.turn i _ (Below.setRow hS.below hlow.1 _) (fun k hk hno=>setRow_heap_other (fun e=>by subst e;exact hno _ hl (by simp [LR.fp])))
    (setRow_heap_self hg) (fun k hk=>.inr ⟨_,hl,hk⟩)
theorem St.cell {i b:Nat} {cs:List Value} {E:TypeId} (hS:St w0 D0 D ls w) (hl:lk ls i=some (.cells b cs E)) {j:Nat} {u:Value} (hj:cs[j]?=some u):w.cell? ⟨b,j,none⟩=some u:=by
  rw [cell_of_heap (hS.each i _ hl)];simpa using hj
theorem Y.load1L {T:TypeId} {x:Operand} {b o n:Nat} {cs:List Value} {E:TypeId} (i:Nat) (hT:tsz P T=some (false,n)) (hF:Frm N rs vs a) (hx:ev vs x=some (.pointer (some ⟨b,o,none⟩)))
    (hS:St w0 D0 D ls w) (hl:lk ls i=some (.cells b cs E)) (hv:cs[o]?=some v):Yields P ⟨dst,.load T x,ty,pos,aft,gd⟩ a w v:=
  Y.load1 hT hF hx (hS.cell hl hv)
theorem Y.loadNL {T:TypeId} {x:Operand} {b o n:Nat} {cs us:List Value} {E:TypeId} (i:Nat) (hT:tsz P T=some (true,n)) (hF:Frm N rs vs a) (hx:ev vs x=some (.pointer (some ⟨b,o,none⟩)))
    (hS:St w0 D0 D ls w) (hl:lk ls i=some (.cells b cs E)) (hu:(cs.drop o).take n=us) (hn:Nat.ble (o + n) cs.length=true):Yields P ⟨dst,.load T x,ty,pos,aft,gd⟩ a w (.agg us.toArray):=by
  have hn':o + n≤cs.length:=Nat.le_of_ble_eq_true hn
  have hlen:us.length=n:=by rw [← hu];simp;omega
  refine Y.loadN (by rw [hlen];exact hT) hF hx fun j u hj=>hS.cell hl ?_
  rw [← hu,List.getElem?_take] at hj
  split at hj
  · rw [List.getElem?_drop] at hj;exact hj
  · cases hj
def callable (P:Program) (f:FuncId):Bool:=
  match P.funcs[f]? with
  | some fn => !(fn.name == "runtime.NumGoroutine") && fn.body.isSome
  | none=>false
theorem run_callFunc_of {f:FuncId} {args:Array Value} (h:callable P f=true):(callFunc f args).run P w=.ok (.enter f args) w:=by
  unfold callable at h
  cases hf:P.funcs[f]? with
  | none=>simp [hf] at h
  | some fn=>
    simp only [hf,Bool.and_eq_true,Bool.not_eq_true'] at h
    obtain ⟨h1,h2⟩:=h
    have h3:fn.body.isNone=false:=by cases hb:fn.body <;> simp_all
    simp only [callFunc,Sem.run_bind,run_program,Result.andThen_ok,hf,h1,h3,Bool.false_eq_true,if_false,Sem.run_pure]
def evs (vs:List (Nat × Value)):List Operand→Option (List Value)
  | []=>some []
  | x::xs=>match ev vs x,evs vs xs with
    | some v,some us=>some (v::us)
    | _,_=>none
theorem Frm.evals (hF:Frm N rs vs a):∀ {xs:List Operand} {us:List Value},evs vs xs=some us→xs.map a.eval=us
  | [],us,h=>by simp [evs] at h;simp [h]
  | x::xs,us,h=>by
    simp only [evs] at h
    split at h
    · rename_i v us' h1 h2
      injection h with h
      rw [← h,List.map_cons,hF.eval h1,hF.evals h2]
    · cases h
theorem run_call {x:Operand} {xs:List Operand} {Ts:Array TypeId} {f:FuncId} {first cap us:List Value} (hc:callable P f=true) (hF:Frm N rs vs a)
    (hx:ev vs x=some (.func (.func f) first.toArray cap.toArray)) (hxs:evs vs xs=some us):
    (execOp a.eval ⟨dst,.call ⟨.value x,xs.toArray,Ts⟩,ty,pos,aft,gd⟩).run P w=.ok (.enter f (first ++ us ++ cap).toArray) w:=by
  have h1:=hF.evals hxs
  have h2:Array.map a.eval xs.toArray=us.toArray:=by simp [h1]
  simp [execOp,resolve,hF.eval hx,Deferred.ofValue,invoke,h2,run_callFunc_of hc]
theorem O.call {x:Operand} {xs:List Operand} {Ts:Array TypeId} {f:FuncId} {first cap us:List Value} {R:Ending→World→Prop} (hc:callable P f=true) (hF:Frm N rs vs a)
    (hx:ev vs x=some (.func (.func f) first.toArray cap.toArray)) (hxs:evs vs xs=some us) (hd:Nat.ble (d + 1) N=true)
    (hcall:Calls P f (first ++ us ++ cap).toArray w R) (hout:∀ e w',R e w'→∃ v,e=.returned v)
    (h:∀ v a' w',R (.returned v) w'→Frm N rs ((d,v)::vs) a'→WL r P ops Q rest a' w'):
    WL r P ops Q (⟨some d,.call ⟨.value x,xs.toArray,Ts⟩,ty,pos,aft,none⟩::rest) a w:=by
  refine wpListIn_plain rfl fun K hK=>⟨fun _ _=>trivial,?_⟩
  rw [show (Fw r).round=r from rfl,semAt_of (run_call hc hF hx hxs) (by intro d h;cases h)]
  refine ⟨fun h=>(by cases h),(callsIn_fw hcall).mono fun e w' hR=>?_⟩
  obtain ⟨u,rfl⟩:=hout e w' hR
  exact hK _ _ (h u _ w' hR (hF.put d u hd))
theorem O.callF {xs:List Operand} {Ts:Array TypeId} {f:FuncId} {us:List Value} {R:Ending→World→Prop} (hc:callable P f=true) (hF:Frm N rs vs a)
    (hxs:evs vs xs=some us) (hd:Nat.ble (d + 1) N=true)
    (hcall:Calls P f us.toArray w R) (hout:∀ e w',R e w'→∃ v,e=.returned v)
    (h:∀ v a' w',R (.returned v) w'→Frm N rs ((d,v)::vs) a'→WL r P ops Q rest a' w'):
    WL r P ops Q (⟨some d,.call ⟨.value (.func f),xs.toArray,Ts⟩,ty,pos,aft,none⟩::rest) a w:=
  O.call (first:=[]) (cap:=[]) (x:=.func f) hc hF rfl hxs hd (by simpa using hcall) hout h
end
section
variable {P:Program} {Q:Exit→Act→World→Prop} {a:Act} {w:World} {N:Nat} {rs:List Nat} {r:Option Nat} {vs:List (Nat × Value)}
theorem region {id:Nat} {l:List Oper} (h:WL r P l.toArray Q l a w):WP r P (Code.region id l.toArray false) Q a w:=wpIn_region_lit h
theorem seq {x y:Code} (h:WP r P x (Exit.then (WP r P y Q) Q) a w):WP r P (Code.seq x y) Q a w:=wpIn_seq h
theorem block {id:Nat} {c:Code} (h:WP r P c (Exit.inBlock id Q) a w):WP r P (Code.block id c) Q a w:=wpIn_block h
theorem skip_ (h:Q .normal a w):WP r P Code.skip Q a w:=wpIn_skip h
theorem label_ {l:Nat} (h:Q .normal a w):WP r P (Code.label l) Q a w:=wpIn_label h
theorem scope_ {c:Code} (h:WP r P c (Exit.noGoto Q) a w):WP r P (Code.scope c) Q a w:=by
  intro b k cs hro hb hr
  have h0:(lone (b.atR a (.code (.scope c)::k)) cs w).fenced P (Fw r):=fenced_calm hb hr rfl
  have s1:Go.step P (lone (b.atR a (.code (.scope c)::k)) cs w)=.next (lone (b.atR a (.code c::.inScope c::k)) cs w):=
    step_lone_go (by simp [stepG,stepG.exec,Frame.atR])
  have s2:∀ a w,Go.step P (lone (b.atR a (.inScope c::k)) cs w)=.next (lone (b.atR a k) cs w):=fun a w=>
    step_lone_go (by simp [stepG,stepG.exec,Frame.atR])
  obtain ⟨e,a₁,w₁,hq,harr⟩:=h b (.inScope c::k) cs hro hb hr
  cases e with
  | normal=>exact ⟨.normal,a₁,w₁,hq,.head h0 s1 (StepsIn.trans harr (.one (fenced_calm hb hr rfl) (s2 _ _)))⟩
  | exit id=>
    have hx:exitTo id (.inScope c::k)=exitTo id k:=by simp [exitTo]
    exact ⟨.exit id,a₁,w₁,hq,fun k' hk=>.head h0 s1 (harr.1 k' (by rw [hx];exact hk)),
      fun hr' hk=>let ⟨k₁,h1,h2⟩:=harr.2 hr' (by rw [hx];exact hk);⟨k₁,h1,.head h0 s1 h2⟩⟩
  | goto l=>exact hq.elim
  | ret=>exact ⟨_,a₁,w₁,hq,.of_steps (.one h0 s1) harr⟩
  | panic ch=>exact ⟨_,a₁,w₁,hq,.of_steps (.one h0 s1) harr⟩
  | outgrown=>exact ⟨_,a₁,w₁,hq,.of_steps (.one h0 s1) harr⟩
theorem scp_n (h:Q .normal a w):Exit.noGoto Q .normal a w:=h
theorem scp_r (h:Q .ret a w):Exit.noGoto Q .ret a w:=h
theorem exit_ {id:Nat} (h:Q (.exit id) a w):WP r P (Code.exit id) Q a w:=wpIn_exit h
theorem ret_ (h:Q .ret a w):WP r P Code.ret Q a w:=wpIn_ret h
theorem seq_cut {x y:Code} (J:Act→World→Prop) (h:WP r P x (Exit.then J Q) a w) (hy:∀ a w,J a w→WP r P y Q a w):WP r P (Code.seq x y) Q a w:=
  wpIn_seq (wpIn_mono h fun e a w hq=>by cases e <;> first | exact hy _ _ hq | exact hq)
theorem cond_b {c:Operand} {x y:Code} {b:Bool} (hF:Frm N rs vs a) (hc:ev vs c=some (.bool b)) (ht:b=true→WP r P x Q a w) (hf:b=false→WP r P y Q a w):
    WP r P (Code.cond c x y) Q a w:=wpIn_cond_split (hF.eval hc) ht hf
theorem nil {ops:Array Oper} (h:Q .normal a w):WL r P ops Q [] a w:=h
theorem then_n {K:Act→World→Prop} (h:K a w):Exit.then K Q .normal a w:=h
theorem nT {ops:Array Oper} {K:Act→World→Prop} (h:K a w):WL r P ops (Exit.then K Q) [] a w:=nil (then_n h)
theorem then_x {K:Act→World→Prop} {id:Nat} (h:Q (.exit id) a w):Exit.then K Q (.exit id) a w:=h
theorem then_r {K:Act→World→Prop} (h:Q .ret a w):Exit.then K Q .ret a w:=h
theorem blk_n {id:Nat} (h:Q .normal a w):Exit.inBlock id Q .normal a w:=h
theorem blk_r {id:Nat} (h:Q .ret a w):Exit.inBlock id Q .ret a w:=h
theorem blk_hit {id:Nat} (h:Q .normal a w):Exit.inBlock id Q (.exit id) a w:=by simp only [Exit.inBlock,if_true];exact h
def enumF:Nat→List Value→List (Nat × Value)
  | _,[]=>[]
  | i,v::r=>(i,v)::enumF (i + 1) r
theorem look_enumF:∀ (us:List Value) (i j:Nat) (v:Value),look (enumF i us) j=some v→i≤j∧us[j - i]?=some v
  | [],i,j,v,h=>by simp [enumF,look] at h
  | u::r,i,j,v,h=>by
    simp only [enumF,look] at h
    cases hb:Nat.beq i j with
    | true=>
      have:i=j:=Nat.eq_of_beq_eq_true hb
      subst this
      simp only [hb,cond_true,Option.some.injEq] at h
      simp [h]
    | false=>
      have hne:i ≠ j:=by intro e;subst e;simp at hb
      simp only [hb,cond_false] at h
      obtain ⟨h1,h2⟩:=look_enumF r (i + 1) j v h
      refine ⟨by omega,?_⟩
      rw [show j - i=(j - (i + 1)) + 1 by omega]
      simpa using h2
def base (P:Program) (fn:Func) (R:Ending→World→Prop):Exit→Act→World→Prop
  | .normal,a,w | .ret,a,w=>LeavesInM (Fw none) 0 P fn a.tmps R a.defers .returning w
  | _,_,_=>False
theorem enter {P:Program} {f:FuncId} {fn:Func} {c:Code} {w:World} {R:Ending→World→Prop} (us:List Value) (N:Nat) (hf:P.funcs[f]?=some fn) (hb:fn.body=some c) (hn:fn.ntmps=N)
    (hle:Nat.ble us.length N=true) (h:∀ a,Frm N [] (enumF 0 us) a→WP none P c (base P fn R) a w):Calls P f us.toArray w R:=by
  refine calls_fw (n:=0) (callsIn_of_wp_marks hf hb trivial (wpIn_mono (h _ ⟨?_,rfl,fun i v hv=>?_⟩) fun e a w hq=>by cases e <;> first | exact hq | exact hq.elim))
  · have:=Nat.le_of_ble_eq_true hle
    simp;omega
  · obtain ⟨_,h2⟩:=look_enumF us 0 i v hv
    have h3:i < us.length:=(List.getElem?_eq_some_iff.1 h2).1
    simp only [Nat.sub_zero] at h2
    have h4:=(List.getElem?_eq_some_iff.1 h2).2
    simp [Array.getElem?_append,h3,h4]
theorem leavesM {fn:Func} {tmps:Array Value} {R:Ending→World→Prop} {v:Value} {rs:List Nat} (hr:∀ w',(∀ b,b ∉ rs→w'.heap[b]?=w.heap[b]?)→w'.heap.size=w.heap.size→w'.os=w.os→w'.tape=w.tape→w'.output=w.output→(results fn tmps).run P w'=.ok v w'∧R (.returned v) w')
    (hrs:∀ b ∈ rs,w.heap[b]?=some (.deferred (some []))) (hnd:rs.Nodup):LeavesInM (Fw none) 0 P fn tmps R (rs.map mk) .returning w:=by
  induction rs generalizing w with
  | nil=>
    obtain ⟨h1,h2⟩:=hr w (fun _ _=>rfl) rfl rfl rfl rfl
    exact ⟨v,h1,h2⟩
  | cons b rs ih=>
    have hb:=hrs b (by simp)
    have hlt:b < w.heap.size:=(Array.getElem?_eq_some_iff.1 hb).1
    have hnb:b ∉ rs:=by simp only [List.nodup_cons] at hnd;exact hnd.1
    refine ⟨by simp,.inl ⟨b,{ w with heap:=w.heap.setIfInBounds b (.deferred none) },rfl,?_,ih (fun w' h1 h2 h3 h4 h5=>hr w' (fun k hk=>?_) ?_ h3 h4 h5) (fun k hk=>?_) (by simp only [List.nodup_cons] at hnd;exact hnd.2)⟩⟩
    · simp [Instr.takeDeferred,getObj,setObj,Sem.run,Sem.run_bind,hb]
    · simp only [List.mem_cons,not_or] at hk
      rw [h1 k hk.2]
      simp only [Array.getElem?_setIfInBounds]
      rw [if_neg (fun e=>hk.1 e.symm)]
    · rw [h2];simp
    · have hne:b ≠ k:=fun e=>hnb (e ▸ hk)
      simp only [Array.getElem?_setIfInBounds]
      rw [if_neg hne];exact hrs k (by simp [hk])
def RetP (D:Stab) (w:World) (v:Value) (e:Ending) (w':World):Prop:=e=.returned v∧Below w.heap.size w w'∧D.on w'
def RetS (D:Stab) (w:World) (R:Stab→Value→Prop) (e:Ending) (w':World):Prop:=
  ∃ v D',e=.returned v∧R D' v∧D.le D'∧D'.on w'∧Below w.heap.size w w'∧∀ b,D' b ≠ none→D b ≠ none∨w.heap.size≤b
inductive RV (P:Program) (vs:List (Nat × Value)) (ls:List (Nat × LR)):ResultVar→Value→Prop
  | tmp {t:Nat} {v:Value} (h:look vs t=some v):RV P vs ls (.tmp t) v
  | cellN {t T b n:Nat} {cs:List Value} {E:TypeId} (i:Nat) (hT:tsz P T=some (true,n)) (h:look vs t=some (.pointer (some ⟨b,0,none⟩))) (hl:lk ls i=some (.cells b cs E)) (hn:cs.length=n):RV P vs ls (.cell t T) (.agg cs.toArray)
  | cell1 {t T b n:Nat} {v:Value} {cs:List Value} {E:TypeId} (i:Nat) (hT:tsz P T=some (false,n)) (h:look vs t=some (.pointer (some ⟨b,0,none⟩))) (hl:lk ls i=some (.cells b cs E)) (hv:cs[0]?=some v):RV P vs ls (.cell t T) v
inductive RVs (P:Program) (vs:List (Nat × Value)) (ls:List (Nat × LR)):List ResultVar→List Value→Prop
  | nil:RVs P vs ls [] []
  | cons {x:ResultVar} {v:Value} {xs:List ResultVar} {us:List Value} (h:RV P vs ls x v) (t:RVs P vs ls xs us):RVs P vs ls (x::xs) (v::us)
def tup:List Value→Value
  | [v]=>v
  | vs=>.tuple vs.toArray
def rvSem (tmps:Array Value) (x:ResultVar):Sem Value:=
  match x with
  | .tmp t=>pure (tmps.getD t undef)
  | .cell p T=>do loadVar T (← asAddr (tmps.getD p undef))
theorem run_rv {w0:World} {D0 D:Stab} {ls:List (Nat × LR)} {x:ResultVar} {v:Value} (hF:Frm N rs vs a) (hS:St w0 D0 D ls w) (h:RV P vs ls x v) {w':World}
    (hw:∀ i b cs E,lk ls i=some (.cells b cs E)→w'.heap[b]?=w.heap[b]?):(rvSem a.tmps x).run P w'=.ok v w':=by
  cases h with
  | tmp h=>
    have:=hF.eval (x:=.tmp _) h
    simp only [Act.eval] at this
    simp only [rvSem,this,Sem.run_pure]
  | cellN i hT h hl hn=>
    subst hn
    have hv:=hF.eval (x:=.tmp _) h
    simp only [Act.eval] at hv
    have hg:=hS.each i _ hl
    simp only [LR.holds] at hg
    rw [← hw i _ _ _ hl] at hg
    have hll:=run_loadCells_list (P:=P) w' ⟨_,0,none⟩ _ (fun j u hu=>by rw [addr_add,cell_of_heap hg];simpa using hu)
    simp only [rvSem,hv,asAddr,pure_bind,loadVar,Sem.run_bind,run_isAgg_of hT,Result.andThen_ok,if_true,run_sizeOf_of hT,hll,Sem.run_pure]
  | cell1 i hT h hl hc=>
    have hv:=hF.eval (x:=.tmp _) h
    simp only [Act.eval] at hv
    have hg:=hS.each i _ hl
    simp only [LR.holds] at hg
    rw [← hw i _ _ _ hl] at hg
    simp only [rvSem,hv,asAddr,pure_bind,loadVar,Sem.run_bind,run_isAgg_of hT,Result.andThen_ok,Bool.false_eq_true,if_false,run_load,cell_of_heap hg]
    simp only [List.getElem?_toArray,hc]
theorem run_rvs {w0:World} {D0 D:Stab} {ls:List (Nat × LR)} (hF:Frm N rs vs a) (hS:St w0 D0 D ls w) {w':World}
    (hw:∀ i b cs E,lk ls i=some (.cells b cs E)→w'.heap[b]?=w.heap[b]?):∀ {xs:List ResultVar} {us:List Value},RVs P vs ls xs us →
    (xs.mapM (rvSem a.tmps)).run P w'=.ok us w'
  | _,_,.nil=>by simp
  | _,_,.cons h t=>by
    rw [List.mapM_cons,Sem.run_bind,run_rv hF hS h hw,Result.andThen_ok,Sem.run_bind,run_rvs hF hS hw t]
    rfl
theorem run_results {fn:Func} {xs:List ResultVar} {us:List Value} {w0:World} {D0 D:Stab} {ls:List (Nat × LR)} (hr:fn.results=xs.toArray) (hF:Frm N rs vs a) (hS:St w0 D0 D ls w) (h:RVs P vs ls xs us) {w':World}
    (hw:∀ i b cs E,lk ls i=some (.cells b cs E)→w'.heap[b]?=w.heap[b]?):(results fn a.tmps).run P w'=.ok (tup us) w':=by
  have h1:=run_rvs hF hS hw h
  have h2:results fn a.tmps=(do let vs ← fn.results.mapM (rvSem a.tmps);pure (if h:vs.size=1 then vs[0] else .tuple vs)):=rfl
  have h3:((xs.toArray.mapM (rvSem a.tmps)).run P w')=.ok us.toArray w':=by
    rw [List.mapM_toArray,map_eq_pure_bind,Sem.run_bind,h1];rfl
  rw [h2,hr,Sem.run_bind,h3,Result.andThen_ok,Sem.run_pure]
  congr 1
  match us with
  | []=>rfl
  | [v]=>rfl
  | _::_::_=>simp [tup]
def Marks (rs:List Nat) (ls:List (Nat × LR)):Prop:=rs=[]∨∃ i,lk ls i=some (.marks rs)
theorem Marks.nil {ls:List (Nat × LR)}:Marks [] ls:=.inl rfl
theorem leave_gen {fn:Func} {xs:List ResultVar} {us:List Value} {w0:World} {D0 D:Stab} {ls:List (Nat × LR)} {R:Ending→World→Prop} (hr:fn.results=xs.toArray) (hF:Frm N rs vs a) (hS:St w0 D0 D ls w) (h:RVs P vs ls xs us)
    (hm:Marks rs ls) (hR:∀ w',Below w0.heap.size w0 w'→D.on w'→R (.returned (tup us)) w'):base P fn R .ret a w:=by
  show LeavesInM (Fw none) 0 P fn a.tmps R a.defers .returning w
  rw [hF.defers]
  have hob:∀ b ∈ rs,w.heap[b]?=some (.deferred (some [])):=fun b hb=>by
    rcases hm with rfl | ⟨i,hi⟩
    · cases hb
    · exact (hS.each i _ hi).2 b hb
  have hfp:∀ b ∈ rs,w0.heap.size≤b∧D b=none:=fun b hb=>by
    rcases hm with rfl | ⟨i,hi⟩
    · cases hb
    · exact hS.low i _ hi b hb
  have hnd:rs.Nodup:=by
    rcases hm with rfl | ⟨i,hi⟩
    · exact List.nodup_nil
    · exact (hS.each i _ hi).1
  refine leavesM (v:=tup us) (fun w' h1 h2 h3 h4 h5=>⟨run_results hr hF hS h fun i b cs E hl=>h1 b fun hb=>?_,hR w' ⟨?_,?_,?_,?_,fun k hk=>?_⟩ fun b o hbo=>?_⟩) hob hnd
  · have:=hob b hb
    rw [hS.each i _ hl] at this;cases this
  · rw [h3];exact hS.below.os
  · rw [h4];exact hS.below.tape
  · rw [h5];exact hS.below.output
  · rw [h2];exact hS.below.size
  · rw [h1 k fun hb=>by have:=(hfp k hb).1;omega];exact hS.below.block k hk
  · rw [h1 b fun hb=>by rw [(hfp b hb).2] at hbo;cases hbo];exact hS.stab b o hbo
theorem leaveP {fn:Func} {xs:List ResultVar} {us:List Value} {v:Value} {w0:World} {D0 D:Stab} {ls:List (Nat × LR)} (hr:fn.results=xs.toArray) (hF:Frm N rs vs a) (hS:St w0 D0 D ls w) (h:RVs P vs ls xs us)
    (hm:Marks rs ls) (hv:tup us=v):base P fn (RetP D0 w0 v) .ret a w:=
  leave_gen hr hF hS h hm fun w' hb hon=>⟨by rw [hv],hb,fun b o hbo=>hon b o (hS.le b o hbo)⟩
theorem leaveS {fn:Func} {xs:List ResultVar} {us:List Value} {R:Stab→Value→Prop} {w0:World} {D0 D:Stab} {ls:List (Nat × LR)} (hr:fn.results=xs.toArray) (hF:Frm N rs vs a) (hS:St w0 D0 D ls w) (h:RVs P vs ls xs us)
    (hm:Marks rs ls) (hR:R D (tup us)):base P fn (RetS D0 w0 R) .ret a w:=
  leave_gen hr hF hS h hm fun _ hb hon=>⟨_,D,rfl,hR,hS.le,hon,hb,hS.new⟩
def iterN {σ ρ:Type} (body:σ→Option (σ ⊕ ρ)):Nat→σ→Option ρ
  | 0,_=>none
  | n + 1,s=>match body s with
    | none=>none
    | some (.inl s')=>iterN body n s'
    | some (.inr r)=>some r
theorem iterN_mono {σ ρ:Type} (body:σ→Option (σ ⊕ ρ)):∀ (n:Nat) (s:σ) (r:ρ),iterN body n s=some r→iterN body (n + 1) s=some r
  | 0,_,_,h=>by simp [iterN] at h
  | n + 1,s,r,h=>by
    simp only [iterN] at h ⊢
    cases hb:body s with
    | none=>simp [hb] at h
    | some x=>
      cases x with
      | inl s'=>simp only [hb] at h ⊢;exact iterN_mono body n s' r h
      | inr r'=>simpa [hb] using h
theorem iterN_le {σ ρ:Type} (body:σ→Option (σ ⊕ ρ)) {n m:Nat} (hnm:n≤m) {s:σ} {r:ρ} (h:iterN body n s=some r):iterN body m s=some r:=by
  induction hnm with
  | refl=>exact h
  | step _ ih=>exact iterN_mono body _ _ _ ih
open Classical in
noncomputable def loopU {σ ρ:Type} (body:σ→Option (σ ⊕ ρ)) (s:σ):Option ρ:=
  if h:∃ n r,iterN body n s=some r then some (Classical.choose (Classical.choose_spec h)) else none
theorem loopU_of {σ ρ:Type} {body:σ→Option (σ ⊕ ρ)} {s:σ} {n:Nat} {r:ρ} (h:iterN body n s=some r):loopU body s=some r:=by
  have hex:∃ n r,iterN body n s=some r:=⟨n,r,h⟩
  unfold loopU
  rw [dif_pos hex]
  have h2:=Classical.choose_spec (Classical.choose_spec hex)
  have h3:=iterN_le body (Nat.le_max_left n (Classical.choose hex)) h
  have h4:=iterN_le body (Nat.le_max_right n (Classical.choose hex)) h2
  rw [h3] at h4
  exact h4.symm
theorem loopU_some {σ ρ:Type} {body:σ→Option (σ ⊕ ρ)} {s:σ} {r:ρ} (h:loopU body s=some r):∃ n,iterN body n s=some r:=by
  unfold loopU at h
  split at h
  · rename_i hex
    injection h with h
    exact ⟨_,h ▸ Classical.choose_spec (Classical.choose_spec hex)⟩
  · cases h
theorem loopU_eq {σ ρ:Type} (body:σ→Option (σ ⊕ ρ)) (s:σ):loopU body s=match body s with
    | none=>none
    | some (.inl s')=>loopU body s'
    | some (.inr r)=>some r:=by
  cases hb:body s with
  | none=>
    simp only
    cases hl:loopU body s with
    | none=>rfl
    | some r=>
      obtain ⟨n,hn⟩:=loopU_some hl
      cases n with
      | zero=>simp [iterN] at hn
      | succ n=>simp [iterN,hb] at hn
  | some x=>
    cases x with
    | inr r=>exact loopU_of (n:=1) (by simp [iterN,hb])
    | inl s'=>
      simp only
      cases hl:loopU body s' with
      | some r=>
        obtain ⟨n,hn⟩:=loopU_some hl
        exact loopU_of (n:=n + 1) (by simp [iterN,hb,hn])
      | none=>
        cases hl2:loopU body s with
        | none=>rfl
        | some r=>
          obtain ⟨n,hn⟩:=loopU_some hl2
          cases n with
          | zero=>simp [iterN] at hn
          | succ n=>
            simp only [iterN,hb] at hn
            rw [loopU_of hn] at hl
            cases hl
theorem loopU_inl {σ ρ:Type} {body:σ→Option (σ ⊕ ρ)} {s s':σ} (h:body s=some (.inl s')):loopU body s=loopU body s':=by rw [loopU_eq,h]
theorem loopU_inr {σ ρ:Type} {body:σ→Option (σ ⊕ ρ)} {s:σ} {r:ρ} (h:body s=some (.inr r)):loopU body s=some r:=by rw [loopU_eq,h]
theorem loop_cut {σ ρ:Type} {c:Code} {body:σ→Option (σ ⊕ ρ)} {out:ρ} (Rel:σ→Act→World→Prop) (s0:σ) (hl:loopU body s0=some out) (h0:Rel s0 a w)
    (round:∀ s a w x,Rel s a w→body s=some x→(∀ r,x=.inr r→r=out) →
      WP r P c (Exit.then (fun a' w'=>∃ s',x=.inl s'∧Rel s' a' w') Q) a w):WP r P (Code.loop c) Q a w:=by
  obtain ⟨n,hn⟩:=loopU_some hl
  intro b k cs hro hb hr
  have key:∀ n s a w,iterN body n s=some out→Rel s a w →
      ∃ e a' w',Q e a' w'∧ArrivesIn (Machine.fenced P (Fw r)) P (lone (b.atR a (.code c::.inLoop c::k)) cs w) b k cs e a' w':=by
    intro n
    induction n with
    | zero=>intro s a w h;simp [iterN] at h
    | succ n ih=>
      intro s a w h hR
      simp only [iterN] at h
      cases hbd:body s with
      | none=>simp [hbd] at h
      | some x=>
        obtain ⟨e,a₁,w₁,hq,harr⟩:=round s a w x hR hbd (fun r hr=>by subst hr;simpa [hbd] using h) b (.inLoop c::k) cs hro hb hr
        cases e with
        | normal=>
          obtain ⟨s',rfl,hR'⟩:=hq
          simp only [hbd] at h
          obtain ⟨e₂,a₂,w₂,hq₂,harr₂⟩:=ih s' a₁ w₁ h hR'
          exact ⟨e₂,a₂,w₂,hq₂,.of_steps (StepsIn.trans harr (.one (fenced_calm hb hr rfl) stepR_inLoop)) harr₂⟩
        | exit id=>exact ⟨_,a₁,w₁,hq,.pass (x:=.inLoop c) rfl (fun _ _=>.inl (by simp)) harr⟩
        | goto l=>exact ⟨_,a₁,w₁,hq,.pass (x:=.inLoop c) rfl (fun _ _=>.inl (by simp)) harr⟩
        | ret=>exact ⟨_,a₁,w₁,hq,.pass (x:=.inLoop c) rfl (fun _ _=>.inl (by simp)) harr⟩
        | panic ch=>exact ⟨_,a₁,w₁,hq,.pass (x:=.inLoop c) rfl (fun _ _=>.inl (by simp)) harr⟩
        | outgrown=>exact ⟨_,a₁,w₁,hq,.pass (x:=.inLoop c) rfl (fun _ _=>.inl (by simp)) harr⟩
  obtain ⟨e,a',w',hq,harr⟩:=key n s0 a w hn h0
  exact ⟨e,a',w',hq,.of_steps (.one (fenced_calm hb hr rfl) stepR_loop) harr⟩
def ext {σ ρ:Type} (o:Option ρ):Option (σ ⊕ ρ):=o.map .inr
theorem ext_some {σ ρ:Type} {o:Option ρ} {x:σ ⊕ ρ} {out:ρ} (h:ext o=some x) (hx:∀ r,x=.inr r→r=out):o=some out:=by
  cases o with
  | none=>simp [ext] at h
  | some r=>simp only [ext,Option.map_some,Option.some.injEq] at h;rw [hx r h.symm]
def nxt {σ ρ:Type} (s:σ):Option (σ ⊕ ρ):=some (.inl s)
theorem nxt_some {σ ρ:Type} {s:σ} {x:σ ⊕ ρ} (h:nxt s=some x):x=.inl s:=by simp only [nxt,Option.some.injEq] at h;exact h.symm
theorem bind_some {α β:Type} {o:Option α} {k:α→Option β} {r:β} (h:o.bind k=some r):∃ x,o=some x∧k x=some r:=by
  cases o with
  | none=>cases h
  | some x=>exact ⟨x,rfl,h⟩
theorem some_inj {α:Type} {x y:α} (h:some x=some y):x=y:=by injection h
theorem cond_t {β:Type} {b:Bool} {x y:Option β} {r:Option β} (h:cond b x y=r) (hb:b=true):x=r:=by subst hb;exact h
theorem cond_f {β:Type} {b:Bool} {x y:Option β} {r:Option β} (h:cond b x y=r) (hb:b=false):y=r:=by subst hb;exact h
theorem bcases (b:Bool):b=true∨b=false:=by cases b <;> simp
theorem ite_some {c:Prop} [Decidable c] {β:Type} {x:Option β} {r:β} (h:(if c then x else none)=some r):c∧x=some r:=by
  split at h
  · exact ⟨‹c›,h⟩
  · cases h
end
end Go.Proofs.YtgdfljiliflhfaaGreatDoor.Rt
