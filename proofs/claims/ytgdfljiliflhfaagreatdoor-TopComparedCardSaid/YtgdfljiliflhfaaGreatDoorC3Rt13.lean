/- The small program logic of this seat, part 13: arguments: what is read as data lies in memory as the codecs say; what lay there lies there still. Under no conditions but those that each rule names. -/
import Derived.Test.YtgdfljiliflhfaaGreatDoorC3Rt12
import Derived.ChangeArms
import Derived.OpenShut
import Derived.Carry
import Derived.RowKit
import Derived.WideKeyArgs
import Derived.WideShapes
set_option linter.unusedSimpArgs false
set_option linter.unusedVariables false
namespace Go.Proofs.YtgdfljiliflhfaaGreatDoor.Rt
open Go Go.RowKit Go.ChangeShapes Go.WideShapes
def Heap (w:World):Stab:=fun b=>w.heap[b]?
theorem Heap.on {w:World}:(Heap w).on w:=fun _ _ h=>h
def InR (n:Int):Prop:=-9223372036854775808≤n∧n≤9223372036854775807
def OkL {α:Type} (Ok:α→Prop) (xs:List α):Prop:=(xs.length:Int)≤9223372036854775807∧∀ x ∈ xs,Ok x
def Opens {α:Type} (P:Program) (T:TypeId) (C:Codec α) (Ok:α→Prop):Prop:=
  ∀ (H:Type) (enc:TypeId × Value→H) (w:World) (base:Nat) (sp:Nat→Bool) (held:Bool) (fuel:Nat) (cs:List Value) (x:DataW H × List MemPlace),
    DataW.trod enc P w base sp held fuel T cs=some x→∃ y:α,C.rep (Heap w) y cs∧Ok y
section
variable {P:Program} {T E:TypeId} {α:Type} {C:Codec α} {Ok:α→Prop}
theorem Opens.int (hu:P.underlying T=some (.int .i64)):Opens P T C_int InR:=fun H enc w base sp held fuel cs x h=>by
  obtain ⟨n,rfl,_,hw⟩:=DataW.trod_int hu h
  refine ⟨n,rfl,?_⟩
  simp [Lit.wf,IntKind.min,IntKind.max,IntKind.signed,IntKind.bits] at hw
  simp only [InR];omega
theorem Opens.bool (hu:P.underlying T=some .bool):Opens P T C_bool (fun _=>True):=fun H enc w base sp held fuel cs x h=>by
  obtain ⟨b,rfl,_⟩:=DataW.trod_bool hu h
  exact ⟨b,rfl,trivial⟩
theorem cells?_get {w:World} {base:Nat} {a:Addr} {n:Nat} {cs:List Value} (h:w.cells? base a n=some cs):cs.length=n∧∀ i,i < n→w.cell? (a.add i)=cs[i]?:=by
  unfold World.cells? at h
  split at h
  · refine ⟨by simpa using mapM_some_length h,fun i hi=>?_⟩
    exact mapM_some_get h i i (by simp [hi])
  · cases h
theorem spot_none {w:World} {a:Addr} {v:Value} (h:w.cell? a=some v):a.spot=none∧∃ all E fr,w.heap[a.block]?=some (.cells all E fr)∧all[a.off]?=some v:=by
  unfold World.cell? at h
  split at h
  · rename_i c E fr hc
    split at h
    · cases h
    · rename_i hs
      exact ⟨by simpa using hs,c,E,fr,hc,h⟩
  · cases h
theorem Opens.slice (hu:P.underlying T=some (.slice E)) (hc:P.cellsOf E=C.n) (hpos:0 < C.n) (h:Opens P E C Ok):Opens P T (C_sl C) (OkL Ok):=fun H enc w base sp held fuel cs x hx=>by
  rcases DataW.trod_slice hu hx with ⟨rfl,_⟩ | ⟨a,len,cap,elems,rest,n,_,rfl,_,_,hlc,hcm,hel,hget,_,_⟩
  · exact ⟨[],⟨none,0,rfl,SRc.nil⟩,by simp [OkL]⟩
  · -- each element
    have hone:∀ i,i < len→∃ (y:α) (cs:List Value),w.cells? base (a.add (i * C.n)) C.n=some cs∧C.rep (Heap w) y cs∧Ok y:=fun i hi=>by
      have h1:=hget i hi
      rw [hc] at h1
      have h2:i < elems.length:=by omega
      rw [List.getElem?_eq_getElem h2] at h1
      simp only [Option.bind_eq_some_iff] at h1
      obtain ⟨cs,h3,h4⟩:=h1
      obtain ⟨y,h5,h6⟩:=h H enc w base sp held n cs _ h4
      exact ⟨y,cs,h3,h5,h6⟩
    by_cases h0:len=0
    · subst h0
      exact ⟨[],⟨some a,cap,rfl,.inl rfl,by simp⟩,by simp [OkL]⟩
    · -- the block
      obtain ⟨y0,cs0,g1,g2,_⟩:=hone 0 (by omega)
      obtain ⟨g3,g4⟩:=cells?_get g1
      have g5:=g4 0 hpos
      have g6:(0:Nat) < cs0.length:=by omega
      rw [List.getElem?_eq_getElem g6] at g5
      obtain ⟨hsp,all,E',fr,hblk,_⟩:=spot_none g5
      have hadd:∀ (k:Nat),a.add k=⟨a.block,a.off + k,none⟩:=by
        obtain ⟨b,o,s⟩:=a
        have hs:s=none:=by
          simp only [Addr.add] at hsp
          split at hsp <;> simp_all
        subst hs
        exact fun k=>addr_add b o k
      have hab:(a.add (0 * C.n)).add 0=⟨a.block,a.off + 0 * C.n + 0,none⟩:=by rw [hadd,addr_add]
      rw [hab] at hblk
      have key:∀ m,m≤len→∃ (ys:List α) (css:List Value),ys.length=m∧Reps C (Heap w) ys css∧(∀ y ∈ ys,Ok y)∧∀ j u,css[j]?=some u→all[a.off + j]?=some u:=by
        intro m
        induction m with
        | zero=>intro _;exact ⟨[],[],rfl,rfl,by simp,fun j u hu=>by simp at hu⟩
        | succ m ih=>
          intro hm
          obtain ⟨ys,css,e1,e2,e3,e4⟩:=ih (by omega)
          obtain ⟨y,cs,f1,f2,f3⟩:=hone m (by omega)
          obtain ⟨f4,f5⟩:=cells?_get f1
          refine ⟨ys ++ [y],css ++ cs,by simp [e1],e2.append (Reps.single f2),?_,fun j u hu=>?_⟩
          · intro z hz
            simp only [List.mem_append,List.mem_singleton] at hz
            rcases hz with hz | rfl
            · exact e3 z hz
            · exact f3
          · rcases Nat.lt_or_ge j css.length with hj | hj
            · rw [List.getElem?_append_left hj] at hu;exact e4 j u hu
            · rw [List.getElem?_append_right hj] at hu
              have hlen:=e2.len
              rw [e1] at hlen
              have hj2:j - css.length < C.n:=by
                have:=(List.getElem?_eq_some_iff.1 hu).1
                omega
              have f6:=f5 _ hj2
              rw [hu,hadd,addr_add,cell_of_heap hblk] at f6
              rw [← f6]
              congr 1
              omega
      obtain ⟨ys,css,e1,e2,e3,e4⟩:=key len (Nat.le_refl _)
      subst e1
      refine ⟨ys,⟨some a,cap,rfl,.inr ⟨a.block,a.off,all,E',fr,css,?_,hblk,e2,e4⟩,hlc⟩,by simp only [maxLen] at hcm;omega,e3⟩
      have:=hadd 0
      obtain ⟨b,o,s⟩:=a
      simp only [Addr.add] at this
      split at this <;> simp_all
theorem field_of {H:Type} {enc:TypeId × Value→H} {w:World} {base:Nat} {sp:Nat→Bool} {held:Bool} {fuel:Nat} {t:TypeId} {cs:List Value} {x:DataW H × List MemPlace} (hu:P.underlying t=some (.struct (P.fieldsOf t)))
    (h:DataW.trod enc P w base sp held fuel t cs=some x) (i:Nat) {U:TypeId} {o k:Nat} (hf:((P.fieldsOf t)[i]?).map (fun f=>(f.type,f.offset))=some (U,o)) (hk:P.cellsOf U=k):
    ∃ m y,DataW.trod enc P w base sp held m U ((cs.drop o).take k)=some y:=by
  obtain ⟨xs,n,_,_,_,hx,hget⟩:=DataW.trod_struct hu h
  cases hfi:(P.fieldsOf t)[i]? with
  | none=>simp [hfi] at hf
  | some f=>
    simp only [hfi,Option.map_some,Option.some.injEq,Prod.mk.injEq] at hf
    obtain ⟨rfl,rfl⟩:=hf
    have h1:=hget i f hfi
    have hi:i < (P.fieldsOf t).size:=(Array.getElem?_eq_some_iff.1 hfi).1
    rw [List.getElem?_eq_getElem (by omega),hk] at h1
    exact ⟨n,_,h1⟩
theorem struct_len {H:Type} {enc:TypeId × Value→H} {w:World} {base:Nat} {sp:Nat→Bool} {held:Bool} {fuel:Nat} {t:TypeId} {cs:List Value} {x:DataW H × List MemPlace} (hu:P.underlying t=some (.struct (P.fieldsOf t)))
    (h:DataW.trod enc P w base sp held fuel t cs=some x) {k:Nat} (hk:P.cellsOf t=k):cs.length=k:=by
  obtain ⟨xs,n,_,_,hl,_,_⟩:=DataW.trod_struct hu h
  rw [hl,hk]
theorem item_of {H:Type} {enc:TypeId × Value→H} {w:World} {base:Nat} {sp:Nat→Bool} {held:Bool} {fuel:Nat} {t:TypeId} {cs:List Value} {x:DataW H × List MemPlace} {n k:Nat} (hu:P.underlying t=some (.array n E)) (hk:P.cellsOf E=k)
    (h:DataW.trod enc P w base sp held fuel t cs=some x) (i:Nat) (hi:i < n):∃ m y,DataW.trod enc P w base sp held m E ((cs.drop (i * k)).take k)=some y:=by
  obtain ⟨xs,m,_,_,_,hx,hget⟩:=DataW.trod_array hu h
  have h1:=hget i hi
  rw [List.getElem?_eq_getElem (by omega),hk] at h1
  exact ⟨m,_,h1⟩
theorem array_len {H:Type} {enc:TypeId × Value→H} {w:World} {base:Nat} {sp:Nat→Bool} {held:Bool} {fuel:Nat} {t:TypeId} {cs:List Value} {x:DataW H × List MemPlace} {n k:Nat} (hu:P.underlying t=some (.array n E)) (hk:P.cellsOf t=k)
    (h:DataW.trod enc P w base sp held fuel t cs=some x):cs.length=k:=by
  obtain ⟨xs,m,_,_,hl,hx,hget⟩:=DataW.trod_array hu h
  rw [hl,hk]
section
variable {H:Type} {enc:TypeId × Value→H} {W:World} {base b0:Nat} {sp:Nat→Bool} {held:Bool} {v:Value} {d:DataW H} {ps:List MemPlace}
theorem arg_agg (hO:Opens P T C Ok) (hT:(match P.underlying T with | some (.struct _) | some (.array _ _)=>true | _=>false)=true) (hval:Value.okWide P W .any b0 T v) (hd:DataW.Trod enc P W base sp held T v d ps):
    ∃ (y:α) (cs:List Value),v=.agg cs.toArray∧C.rep (Heap W) y cs∧Ok y:=by
  obtain ⟨fuel,hf⟩:=hd
  obtain ⟨y,h1,h2⟩:=hO H enc W base sp held fuel _ _ hf
  unfold Value.okWide at hval
  split at hval
  · obtain ⟨cs,rfl,_⟩:=hval
    exact ⟨y,cs.toList,rfl,h1,h2⟩
  · obtain ⟨cs,rfl,_⟩:=hval
    exact ⟨y,cs.toList,rfl,h1,h2⟩
  · rename_i h3 h4
    split at hT
    · rename_i x he;exact absurd he (h3 x)
    · rename_i x y he;exact absurd he (h4 x y)
    · cases hT
theorem arg_sl (hu:P.underlying T=some (.slice E)) (hO:Opens P T (C_sl C) (OkL Ok)) (hval:Value.okWide P W .any b0 T v) (hd:DataW.Trod enc P W base sp held T v d ps):
    ∃ (xs:List α) (p:Option Addr) (c:Nat),v=.slice p xs.length c∧SRc C (Heap W) xs p c∧OkL Ok xs:=by
  obtain ⟨q,len,cap,rfl⟩:=okWide_slice hu hval
  obtain ⟨fuel,hf⟩:=hd
  obtain ⟨y,⟨p,c,h1,h2⟩,h3⟩:=hO H enc W base sp held fuel _ _ hf
  have h1':[Value.slice q len cap]=[Value.slice p y.length c]:=h1
  injection h1' with e _
  exact ⟨y,p,c,e,h2,h3⟩
end
theorem trodAll_stays {H:Type} {enc:TypeId × Value→H} {W W':World} {sp':Nat→Bool} (hl:laidOutB P=true):∀ {ts:List TypeId} {vs:List Value} {ds:List (DataW H)} {ps:List MemPlace},
    (∀ t ∈ ts,P.readableRec t=true∧t < P.types.size)→DataW.TrodAll enc P W 0 (fun _=>true) true ts vs ds ps→(∀ p ∈ ps,W.sameAt W' p)→(∀ p ∈ ps,sp' p.block=true)→DataW.TrodAll enc P W' 0 sp' true ts vs ds ps
  | [],vs,ds,ps,_,h,_,_=>by
    obtain ⟨rfl,rfl,rfl⟩:=trodAll_nil h
    exact trodAll_mk0
  | t::ts,vs,ds,ps,hr,h,hs,hsp=>by
    obtain ⟨v,vs',d,ds',p,q,rfl,rfl,rfl,h1,h2⟩:=trodAll_cons h
    obtain ⟨g1,g2⟩:=hr t (by simp)
    exact trodAll_cons_mk (WideElems.Trod_stays hl g1 g2 h1 (fun x hx=>hs x (by simp [hx])) (fun x hx=>hsp x (by simp [hx])))
      (trodAll_stays hl (fun t ht=>hr t (by simp [ht])) h2 (fun x hx=>hs x (by simp [hx])) (fun x hx=>hsp x (by simp [hx])))
theorem close_law {H:Type} {enc:TypeId × Value→H} {fn:Func} {s:ChangeSpec} {W W':World} {args:Array Value} {ds gs:List (DataW H)} {before:List MemPlace} {tb:TypeId} (hl:laidOutB P=true)
    (hts:fn.params.toList.all (fun t=>P.readableRec t && decide (t < P.types.size))=true) (hW:DataW.Whole enc P fn.params.toList s.vars false W args.toList ds gs before) (hv0:s.vars=[])
    (hs:s.fn H (ds ++ [])={ results:=[.lit (.bool true)],args:=ds }) (hres:fn.resultTypes=#[tb]) (hb:P.underlying tb=some .bool) (hB:Below W.heap.size W W'):
    s.post enc P fn false true false false W args (.bool true) W':=by
  have hlt:=hW.lt
  have hW2:=hW
  obtain ⟨p,q,hA,hV,rfl,_,_⟩:=hW2
  rw [hv0] at hV
  obtain ⟨rfl,rfl⟩:=trodVars_none hV
  have hr:∀ t ∈ fn.params.toList,P.readableRec t=true∧t < P.types.size:=fun t ht=>by
    have:=List.all_eq_true.1 hts t ht
    simpa using this
  have hA':=trodAll_stays (W':=W') (sp':=fun b=>decide (b < W.heap.size)) hl hr hA (fun x hx=>hB.same (hlt x (by simp [hx]))) (fun x hx=>by simpa using hlt x (by simp [hx]))
  refine ⟨ds,[],_,[],p,[],hW,?_,?_,?_,?_,fun h=>by cases h⟩
  · rw [hs,hres]
    exact trodAll_cons_mk (p:=[]) (p':=[]) (shut_bool hb true) trodAll_mk0
  · rw [hs];exact hA'
  · rw [hs,hv0];rfl
  · exact hB.frame _
end
end Go.Proofs.YtgdfljiliflhfaaGreatDoor.Rt
