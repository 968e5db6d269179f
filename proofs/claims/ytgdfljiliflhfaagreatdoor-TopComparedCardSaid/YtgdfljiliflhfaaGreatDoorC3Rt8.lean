/- The small program logic of this seat, part 8: maps whose keys are structs of whole numbers. Under no conditions but those that each rule names. -/
import Derived.Test.YtgdfljiliflhfaaGreatDoorC3Rt7
set_option linter.unusedSimpArgs false
set_option linter.unusedVariables false
namespace Go.Proofs.YtgdfljiliflhfaaGreatDoor.Rt
open Go Go.RowKit
def valV (agg:Bool) (cs:List Value):Value:=bif agg then .agg cs.toArray else cs.headD undef
section
variable {K V:Type} {kl:K→List Int} {C:Codec V} {agg:Bool} {D D':Stab}
def MReps (kl:K→List Int) (C:Codec V) (agg:Bool) (D:Stab):List (K × V)→List MapEntry→Prop
  | [],es=>es=[]
  | p::r,es=>∃ e es',es=e::es'∧e.key=.agg (ints (kl p.1)).toArray∧(∃ cs,C.rep D p.2 cs∧e.val=valV agg cs)∧MReps kl C agg D r es'
theorem MReps.mono (hle:D.le D'):∀ {xs:List (K × V)} {es:List MapEntry},MReps kl C agg D xs es→MReps kl C agg D' xs es
  | [],_,h=>h
  | _::_,_,⟨e,es',h1,h2,⟨cs,h3,h4⟩,h5⟩=>⟨e,es',h1,h2,⟨cs,C.mono hle h3,h4⟩,MReps.mono hle h5⟩
theorem MReps.len:∀ {xs:List (K × V)} {es:List MapEntry},MReps kl C agg D xs es→es.length=xs.length
  | [],_,h=>by simp only [MReps] at h;simp [h]
  | _::_,_,⟨e,es',h1,_,_,h5⟩=>by rw [h1,List.length_cons,List.length_cons,h5.len]
theorem MReps.snoc {k:K} {v:V} {e:MapEntry} (hk:e.key=.agg (ints (kl k)).toArray) {cs:List Value} (hv:C.rep D v cs) (he:e.val=valV agg cs):
    ∀ {xs:List (K × V)} {es:List MapEntry},MReps kl C agg D xs es→MReps kl C agg D (xs ++ [(k,v)]) (es ++ [e])
  | [],_,h=>by simp only [MReps] at h;subst h;exact ⟨e,[],rfl,hk,⟨cs,hv,he⟩,rfl⟩
  | _::_,_,⟨e',es',h1,h2,h3,h5⟩=>by subst h1;exact ⟨e',es' ++ [e],rfl,h2,h3,MReps.snoc hk hv he h5⟩
def mget (kl:K→List Int):List (K × V)→K→Option V
  | [],_=>none
  | p::r,k=>bif kl k == kl p.1 then some p.2 else mget kl r k
def mput (kl:K→List Int):List (K × V)→K→V→List (K × V)
  | [],k,v=>[(k,v)]
  | p::r,k,v=>bif kl k == kl p.1 then (k,v)::r else p::mput kl r k v
def mfind (kl:K→List Int):List (K × V)→K→Nat→Option Nat
  | [],_,_=>none
  | p::r,k,i=>bif kl k == kl p.1 then some i else mfind kl r k (i + 1)
theorem mfind_none:∀ {xs:List (K × V)} {k:K} {i:Nat},mfind kl xs k i=none→mget kl xs k=none∧∀ v,mput kl xs k v=xs ++ [(k,v)]
  | [],_,_,_=>⟨rfl,fun _=>rfl⟩
  | p::r,k,i,h=>by
    simp only [mfind] at h
    cases hb:(kl k == kl p.1) with
    | true=>simp [hb] at h
    | false=>
      simp only [hb,cond_false] at h
      obtain ⟨h1,h2⟩:=mfind_none h
      exact ⟨by simp only [mget,hb,cond_false,h1],fun v=>by simp only [mput,hb,cond_false,h2 v,List.cons_append]⟩
end
section
variable {P:Program} {K V:Type} {kl:K→List Int} {C:Codec V} {agg:Bool} {D:Stab} {w:World} {kt:TypeId} {n j:Nat}
theorem run_findAsking (hE:EqT P kt true n j) (hj:j≤5) (hkl:∀ k,(kl k).length=n) (k:K):∀ (xs:List (K × V)) (es:List MapEntry) (i:Nat),MReps kl C agg D xs es →
    (mfind kl xs k i=none∧∀ w,(Instr.findAsking kt (.agg (ints (kl k)).toArray) es i).run P w=.ok none w) ∨
    ∃ x cs p,mfind kl xs k i=some (i + x)∧xs[x]?=some p∧kl k=kl p.1∧mget kl xs k=some p.2∧C.rep D p.2 cs∧(∃ e,es[x]?=some e∧e.key=.agg (ints (kl p.1)).toArray) ∧
      ∀ w,(Instr.findAsking kt (.agg (ints (kl k)).toArray) es i).run P w=.ok (some (i + x,valV agg cs)) w
  | [],es,i,h=>by simp only [MReps] at h;subst h;exact .inl ⟨rfl,fun _=>rfl⟩
  | p::r,es,i,⟨e,es',h1,h2,⟨cs,h3,h4⟩,h5⟩=>by
    subst h1
    have he:∀ w,(Op.equal kt (.agg (ints (kl k)).toArray) e.key).run P w=.ok (kl k == kl p.1) w:=fun w=>by rw [h2];exact hE.equal hj (hkl k) (hkl p.1)
    cases hb:(kl k == kl p.1) with
    | true=>
      refine .inr ⟨0,cs,p,by simp [mfind,hb],rfl,by simpa using hb,by simp [mget,hb],h3,⟨e,rfl,h2⟩,fun w=>?_⟩
      simp only [Instr.findAsking,Sem.run_bind,he,hb,Result.andThen_ok,if_true,Sem.run_pure,h4,Nat.add_zero]
    | false=>
      have hrun:∀ w,(Instr.findAsking kt (.agg (ints (kl k)).toArray) (e::es') i).run P w=(Instr.findAsking kt (.agg (ints (kl k)).toArray) es' (i + 1)).run P w:=fun w=>by
        simp only [Instr.findAsking,Sem.run_bind,he,hb,Result.andThen_ok,Bool.false_eq_true,if_false]
      rcases run_findAsking hE hj hkl k r es' (i + 1) h5 with ⟨g1,g2⟩ | ⟨x,cs',p',g1,g2,g3,g4,g5,⟨e',g6,g7⟩,g8⟩
      · exact .inl ⟨by simp [mfind,hb,g1],fun w=>by rw [hrun,g2]⟩
      · exact .inr ⟨x + 1,cs',p',by simp [mfind,hb,g1];omega,by simpa using g2,g3,by simp [mget,hb,g4],g5,⟨e',by simpa using g6,g7⟩,fun w=>by rw [hrun,g8,show i + 1 + x=i + (x + 1) by omega]⟩
theorem run_findKey_st (hst:(match P.underlying kt with | some (.struct _)=>true | _=>false)=true) (x:Value) (es:List MapEntry):
    (Instr.findKey kt x es).run P w=(Instr.findAsking kt x es).run P w:=by
  cases hu:P.underlying kt with
  | none=>simp [hu] at hst
  | some kd=>
    have hk:∃ fs,kd=.struct fs:=by cases kd <;> simp_all
    obtain ⟨fs,rfl⟩:=hk
    unfold Instr.findKey
    rw [Sem.run_bind,run_underlying hu,Result.andThen_ok]
    cases es with
    | nil=>simp [Instr.findNow,Instr.findAsking]
    | cons e es=>
      have:Instr.sameNow (.struct fs) x e.key=none:=by cases x <;> rfl
      simp [Instr.findNow,this]
structure MapT (P:Program) (T kt E:TypeId) (n:Nat) (agg:Bool) (z:List Value):Prop where
  u:P.underlying T=some (.map kt E)
  st:(match P.underlying kt with | some (.struct _)=>true | _=>false)=true
  eq:∃ j,j≤5∧EqT P kt true n j
  ck:∃ j,j≤5∧CkT P kt true n j
  zero:∃ i v,P.info? E=some i∧i.zero=some v∧v=valV agg z
theorem MapT.mk' {T E:TypeId} {z:List Value} {j j':Nat} (hu:P.underlying T=some (.map kt E)) (hst:(match P.underlying kt with | some (.struct _)=>true | _=>false)=true)
    (he:EqT P kt true n j) (hj:j≤5) (hc:CkT P kt true n j') (hj':j'≤5) (hz:((P.info? E).bind (·.zero))=some (valV agg z)):MapT P T kt E n agg z:=by
  refine ⟨hu,hst,⟨j,hj,he⟩,⟨j',hj',hc⟩,?_⟩
  cases hi:P.info? E with
  | none=>simp [hi] at hz
  | some i=>exact ⟨i,_,rfl,by simpa [hi] using hz,rfl⟩
theorem MapT.check {T E:TypeId} {z:List Value} (h:MapT P T kt E n agg z) (em:Bool) {l:List Int} (hl:l.length=n):(Instr.checkKey em 10000 kt (.agg (ints l).toArray)).run P w=.ok () w:=by
  obtain ⟨j,hj,hc⟩:=h.ck
  have:=hc.2.2 (10000 - j) em l w hl
  rw [show 10000 - j + j=10000 by omega] at this
  exact this
theorem run_lookup_of {T E:TypeId} {z:List Value} (h:MapT P T kt E n agg z) {r:Nat} {es:Array MapEntry} {clock:Nat} {xs:List (K × V)} (hM:MReps kl C agg D xs es.toList)
    (hkl:∀ k,(kl k).length=n) {z0:V} (hz:C.rep D z0 z) (k:K) (ok:Bool):
    ∃ cs,C.rep D ((mget kl xs k).getD z0) cs∧∀ w,w.heap[r]?=some (.map es clock)→(Instr.lookup T (.map (some r)) (.agg (ints (kl k)).toArray) ok).run P w =
      .ok (bif ok then .tuple #[valV agg cs,.bool (mget kl xs k).isSome] else valV agg cs) w:=by
  obtain ⟨j,hj,hE⟩:=h.eq
  obtain ⟨inf,zv,hi,hzv,hzz⟩:=h.zero
  have hzero:∀ w,(zeroValue E).run P w=.ok (valV agg z) w:=fun w=>by simp [zeroValue,typeInfo,hi,hzv,hzz]
  rcases run_findAsking hE hj hkl k xs es.toList 0 hM with ⟨g1,g2⟩ | ⟨x,cs,p,g1,g2,g3,g4,g5,g6,g8⟩
  · refine ⟨z,by rw [(mfind_none g1).1];exact hz,fun w hr=>?_⟩
    have hget:(getObj r).run P w=.ok (.map es clock) w:=by simp [getObj,Sem.run,hr]
    have hg:(mget kl xs k).isSome=false:=by rw [(mfind_none g1).1];rfl
    simp only [Instr.lookup,Sem.run_bind,run_underlying h.u,Result.andThen_ok,hget,Sem.run_pure,h.check _ (hkl k),run_findKey_st h.st,g2,hzero,hg]
    cases ok <;> rfl
  · refine ⟨cs,by rw [g4];exact g5,fun w hr=>?_⟩
    have hget:(getObj r).run P w=.ok (.map es clock) w:=by simp [getObj,Sem.run,hr]
    have hg:(mget kl xs k).isSome=true:=by rw [g4];rfl
    simp only [Instr.lookup,Sem.run_bind,run_underlying h.u,Result.andThen_ok,hget,Sem.run_pure,h.check _ (hkl k),run_findKey_st h.st,g8,hg]
    cases ok <;> rfl
theorem sameBits_ints (l:List Int) (d:Nat):Instr.sameBits (d + 2) (.agg (ints l).toArray) (.agg (ints l).toArray)=true:=by
  simp only [Instr.sameBits,beq_self_eq_true,Bool.true_and,ints]
  induction l with
  | nil=>rfl
  | cons a l ih=>simpa [Instr.sameBits] using ih
theorem mput_modify {k:K} {v:V} {cs:List Value} (hv:C.rep D v cs):∀ {xs:List (K × V)} {es:List MapEntry} {i x:Nat},MReps kl C agg D xs es→mfind kl xs k i=some (i + x) →
    MReps kl C agg D (mput kl xs k v) (es.modify x fun e=>{ e with key:=.agg (ints (kl k)).toArray,val:=valV agg cs })
  | [],_,_,_,_,h=>by simp [mfind] at h
  | p::r,es,i,x,⟨e,es',h1,h2,h3,h5⟩,h=>by
    subst h1
    simp only [mfind] at h
    cases hb:(kl k == kl p.1) with
    | true=>
      simp only [hb,cond_true,Option.some.injEq] at h
      have hx:x=0:=by omega
      subst hx
      simp only [mput,hb,cond_true,List.modify_zero_cons]
      exact ⟨_,es',rfl,rfl,⟨cs,hv,rfl⟩,h5⟩
    | false=>
      simp only [hb,cond_false] at h
      have hpos:0 < x:=by
        rcases Nat.eq_zero_or_pos x with h0 | h0
        · subst h0
          exfalso
          have:∀ (ys:List (K × V)) (i j:Nat),mfind kl ys k i=some j→i≤j:=by
            intro ys
            induction ys with
            | nil=>intro i j h;simp [mfind] at h
            | cons q ys ih=>
              intro i j h
              simp only [mfind] at h
              cases hq:(kl k == kl q.1) with
              | true=>simp [hq] at h;omega
              | false=>simp only [hq,cond_false] at h;have:=ih _ _ h;omega
          have:=this _ _ _ h
          omega
        · exact h0
      obtain ⟨x,rfl⟩:∃ y,x=y + 1:=⟨x - 1,by omega⟩
      simp only [mput,hb,cond_false,List.modify_succ_cons]
      exact ⟨e,_,rfl,h2,h3,mput_modify (i:=i + 1) hv h5 (by rw [h];congr 1;omega)⟩
variable {N:Nat} {rs:List Nat} {r:Option Nat} {vs:List (Nat × Value)} {a:Act} {w0:World} {ops:Array Oper} {Q:Exit→Act→World→Prop} {rest:List Oper}
variable {d:Nat} {dst:Option Nat} {ty:TypeId} {pos:String} {aft:Array Edge} {gd:Option (Nat × Bool)} {v:Value} {D0:Stab} {ls:List (Nat × LR)}
def MapS (kl:K→List Int) (C:Codec V) (agg:Bool) (D:Stab) (xs:List (K × V)) (b:Option Nat):Prop:=
  (b=none∧xs=[])∨∃ k es clock,b=some k∧D k=some (.map es clock)∧MReps kl C agg D xs es.toList
theorem MapS.mono {D D':Stab} (hle:D.le D') {xs:List (K × V)} {b:Option Nat} (h:MapS kl C agg D xs b):MapS kl C agg D' xs b:=by
  rcases h with h | ⟨k,es,clock,h0,h1,h2⟩
  · exact .inl h
  · exact .inr ⟨k,es,clock,h0,hle k _ h1,h2.mono hle⟩
theorem MapS.nil:MapS kl C agg D ([]:List (K × V)) none:=.inl ⟨rfl,rfl⟩
theorem run_lookup_nil {T E:TypeId} {z:List Value} (h:MapT P T kt E n agg z) (hkl:∀ k,(kl k).length=n) (k:K) (ok:Bool):
    (Instr.lookup T (.map none) (.agg (ints (kl k)).toArray) ok).run P w=.ok (bif ok then .tuple #[valV agg z,.bool false] else valV agg z) w:=by
  obtain ⟨inf,zv,hi,hzv,hzz⟩:=h.zero
  have hzero:(zeroValue E).run P w=.ok (valV agg z) w:=by simp [zeroValue,typeInfo,hi,hzv,hzz]
  have hf:(Instr.findKey kt (.agg (ints (kl k)).toArray) []).run P w=.ok none w:=by rw [run_findKey_st h.st];rfl
  simp only [Instr.lookup,Sem.run_bind,run_underlying h.u,Result.andThen_ok,Sem.run_pure,h.check _ (hkl k),hf,hzero]
  cases ok <;> rfl
theorem Y.lookupS {T E:TypeId} {x y:Operand} {z:List Value} {xs:List (K × V)} {b:Option Nat} {z0:V} (ok:Bool) (hT:MapT P T kt E n agg z) (hkl:∀ k,(kl k).length=n) (hz:C.rep D z0 z) (k:K) (hM:MapS kl C agg D xs b) (hF:Frm N rs vs a)
    (hx:ev vs x=some (.map b)) (hy:ev vs y=some (.agg (ints (kl k)).toArray)):
    ∃ cs,C.rep D ((mget kl xs k).getD z0) cs∧∀ {dst ty pos aft gd w},D.on w→Yields P ⟨dst,.lookup T x y ok,ty,pos,aft,gd⟩ a w (bif ok then .tuple #[valV agg cs,.bool (mget kl xs k).isSome] else valV agg cs):=by
  rcases hM with ⟨rfl,rfl⟩ | ⟨b,es,clock,rfl,h1,h2⟩
  · exact ⟨z,hz,fun {dst ty pos aft gd w} hon=>by simp only [Yields,execOp,hF.eval hx,hF.eval hy,Sem.run_bind,run_lookup_nil hT hkl k ok];rfl⟩
  · obtain ⟨cs,h3,h4⟩:=run_lookup_of (r:=b) (clock:=clock) hT h2 hkl hz k ok
    exact ⟨cs,h3,fun {dst ty pos aft gd w} hon=>by simp only [Yields,execOp,hF.eval hx,hF.eval hy,Sem.run_bind,h4 w (hon b _ h1)];rfl⟩
theorem Y.lenMS {T E:TypeId} {x:Operand} {xs:List (K × V)} {b:Option Nat} (hT:P.underlying T=some (.map kt E)) (hM:MapS kl C agg D xs b) (hF:Frm N rs vs a)
    (hx:ev vs x=some (.map b)) (hon:D.on w):Yields P ⟨dst,.call ⟨.builtin .len,#[x],#[T]⟩,ty,pos,aft,gd⟩ a w (.int .i64 xs.length):=by
  rcases hM with ⟨rfl,rfl⟩ | ⟨b,es,clock,rfl,h1,h2⟩
  · simp [Yields,execOp,resolve,invoke,builtin,Builtin.len_,hF.eval hx,run_underlying hT,goInt]
  · have hlen:es.size=xs.length:=by have:=h2.len;simpa using this
    have hget:(getObj b).run P w=.ok (.map es clock) w:=by simp [getObj,Sem.run,hon b _ h1]
    simp [Yields,execOp,resolve,invoke,builtin,Builtin.len_,hF.eval hx,run_underlying hT,hget,goInt,hlen]
theorem Y.lenM {T E:TypeId} {x:Operand} {xs:List (K × V)} {b:Nat} {es:Array MapEntry} {clock:Nat} (hT:P.underlying T=some (.map kt E)) (hM:MReps kl C agg D xs es.toList) (hF:Frm N rs vs a)
    (hx:ev vs x=some (.map (some b))) (hb:w.heap[b]?=some (.map es clock)):Yields P ⟨dst,.call ⟨.builtin .len,#[x],#[T]⟩,ty,pos,aft,gd⟩ a w (.int .i64 xs.length):=by
  have hlen:es.size=xs.length:=by have:=hM.len;simpa using this
  have hget:(getObj b).run P w=.ok (.map es clock) w:=by simp [getObj,Sem.run,hb]
  simp [Yields,execOp,resolve,invoke,builtin,Builtin.len_,hF.eval hx,run_underlying hT,hget,goInt,hlen]
theorem O.makeMap {T:TypeId} (i:Nat) (hF:Frm N rs vs a) (hS:St w0 D0 D ls w) (hd:Nat.ble (d + 1) N=true)
    (h:∀ b a' w',Frm N rs ((d,.map (some b))::vs) a'→St w0 D0 D ((i,.obj b (.map #[] 0))::ls) w'→WL r P ops Q rest a' w'):
    WL r P ops Q (⟨some d,.makeMap T none,ty,pos,aft,none⟩::rest) a w:=by
  refine stepw (v:=.map (some w.heap.size)) (w':=w.alloc (.map #[] 0)) hF ?_ hd fun a' hF'=>h _ a' _ hF' ?_
  · simp only [execOp,Option.map_none,Instr.makeMap,Sem.run_bind,run_newObj,Result.andThen_ok,Sem.run_pure];rfl
  · exact hS.turn i _ (hS.below.alloc hS.below.size _) (fun b hb _=>alloc_old _ hb) (alloc_heap _) (fun b hb=>.inl (by simp [LR.fp] at hb;omega))
theorem setObj_heap {b:Nat} {o o':Obj} (hb:w.heap[b]?=some o):(w.heap.setIfInBounds b o')[b]?=some o':=by
  have:=(Array.getElem?_eq_some_iff.1 hb).1
  simp [this]
end
end Go.Proofs.YtgdfljiliflhfaaGreatDoor.Rt
