/- The small program logic of this seat, part 14: maps of the caller's own that a callee writes. Under no conditions but those that each rule names. -/
import Derived.Test.YtgdfljiliflhfaaGreatDoorC3Rt13
set_option linter.unusedSimpArgs false
set_option linter.unusedVariables false
namespace Go.Proofs.YtgdfljiliflhfaaGreatDoor.Rt
open Go Go.RowKit
section
variable {P:Program} {N:Nat} {rs:List Nat} {vs:List (Nat × Value)} {a:Act} {w w0:World} {ops:Array Oper} {Q:Exit→Act→World→Prop} {rest:List Oper}
variable {d:Nat} {ty:TypeId} {pos:String} {aft:Array Edge} {D0 D:Stab} {ls:List (Nat × LR)}
theorem round_cut2 {fn:FuncId} {tmps:Array Value} {t t2:Tmp} {assign body:Code} {m l:Nat} {u u2:Value} {K:World→Prop} {R:Obj} (il:Nat) (hsz:tmps.size=N) (hget:∀ i v,look vs i=some v→tmps[i]?=some v) (ht:Nat.ble (t + 1) N=true) (ht2:Nat.ble (t2 + 1) N=true)
    (hS:St w0 D0 D ls w) (hl:lk ls il=some (.obj l R)) (hR:R=recOf fn tmps [t,t2] assign body m .ready)
    (h:∀ R2 a,Frm N [] ((t2,u2)::(t,u)::vs) a→WP (some l) P assign (Exit.then (fun a1 w1=>∃ D1 ls1,St w0 D0 D1 ls1 w1∧lk ls1 il=some (.obj l R) ∧
      ∀ w2,St w0 D0 D1 ((il,.obj l R2)::ls1) w2 →
        WP (some l) P body (Exit.then (fun a2 w2=>∃ D2 ls2,St w0 D0 D2 ls2 w2∧lk ls2 il=some (.obj l R2) ∧
          ∀ w3,St w0 D0 D2 ((il,.obj l R)::ls2) w3→K w3) (fun _ _ _=>False)) a1 w2) (fun _ _ _=>False)) a w):
    Yld P l [u,u2] w K:=by
  subst hR
  replace h:=h (recOf fn tmps [t,t2] assign body m .busy)
  have hrec:w.heap[l]?=some (recOf fn tmps [t,t2] assign body m .ready):=hS.each il _ hl
  refine ⟨_,hrec,by simp,roundIn_of_wpIn trivial ?_⟩
  refine wpIn_mono (h _ ?_) fun e a1 w1 hq=>?_
  · have h1:=Frm.round (u:=u) hsz hget ht
    have h2:=h1.put t2 u2 ht2
    simpa [Act.put] using h2
  · cases e with
    | normal=>
      obtain ⟨D1,ls1,hS1,hl1,h2⟩:=hq
      have hr1:w1.heap[l]?=some (recOf fn tmps [t,t2] assign body m .ready):=hS1.each il _ hl1
      refine ⟨_,run_beginRound hr1 rfl,wpIn_mono (h2 _ (hS1.putObj hl1)) fun e a2 w2 hq=>?_⟩
      cases e with
      | normal=>
        obtain ⟨D2,ls2,hS2,hl2,h3⟩:=hq
        have hr2:w2.heap[l]?=some (recOf fn tmps [t,t2] assign body m .busy):=hS2.each il _ hl2
        exact ⟨_,_,run_endRound none hr2,rfl,h3 _ (hS2.putObj hl2)⟩
      | ret=>exact hq.elim
      | exit id=>exact hq.elim
      | goto t=>exact hq.elim
      | panic c=>exact hq.elim
      | outgrown=>exact hq.elim
    | ret=>exact hq.elim
    | exit id=>exact hq.elim
    | goto t=>exact hq.elim
    | panic c=>exact hq.elim
    | outgrown=>exact hq.elim
end
section
variable {P:Program} {N:Nat} {rs:List Nat} {vs:List (Nat × Value)} {a:Act} {w:World} {dst:Option Nat} {ty:TypeId} {pos:String} {aft:Array Edge} {gd:Option (Nat × Bool)}
theorem tabAt {tab:List Value} {n:Nat} {i:Int} (hn:tab.length=n) (hi:0≤i∧i < (n:Int)):tab[0 + i.toNat * 1]?=some (tab.getD i.toNat undef):=by
  have h:i.toNat < tab.length:=by omega
  simp [List.getD,h]
end
section
variable {w0 w:World} {D0 D:Stab} {ls:List (Nat × LR)} {α:Type} {C:Codec α}
theorem ownElI {xs:List α} {cs:List Value} {j:Int} {e:α} (hR:Reps C D xs cs) (hi:idx xs j=some e):
    ∃ c,C.rep D e c∧∀ q u,c[q]?=some u→cs[j.toNat * C.n + q]?=some u:=by
  obtain ⟨h0,h1,h2⟩:=idx_some hi
  exact hR.get h2
theorem ownElCell {i:Nat} {p:Option Addr} {n c b:Nat} {cs cc:List Value} {E:TypeId} {j:Int} (hS:St w0 D0 D ls w) (hl:lk ls i=some (.own p n c cs E C.n)) (hp:p=some ⟨b,0,none⟩)
    (hsub:∀ q u,cc[q]?=some u→cs[j.toNat * C.n + q]?=some u):∀ q u,cc[q]?=some u→w.cell? ⟨b,0 + j.toNat * C.n + q,none⟩=some u:=by
  intro q u hq
  subst hp
  have hown:w.ownsRow 0 E C.n (.slice (some ⟨b,0,none⟩) n c) n cs:=hS.each i _ hl
  have h1:=hsub q u hq
  rcases hown.2 with ⟨e,h0⟩ | ⟨g,cap,cur,e,hbg,hg,hn,hm,hs,ht⟩
  · cases e
  · injection e with e1 e2 e3
    injection e1 with e1;injection e1 with e1 _ _
    subst e1
    rw [cell_of_heap hg,Nat.zero_add]
    rw [← ht,List.getElem?_take] at h1
    split at h1
    · simpa using h1
    · cases h1
theorem idx_rng {xs:List α} {j:Int} {e:α} (hi:idx xs j=some e):0≤j∧j < (xs.length:Int):=by
  obtain ⟨h0,h1,_⟩:=idx_some hi
  exact ⟨h0,h1⟩
theorem St.move (hS:St w0 D0 D ls w) (i j:Nat) {r:LR} (hj:lk ls j=some r) (hne:i ≠ j):St w0 D0 D ((j,.gone)::(i,r)::ls) w:=by
  have key:∀ k x,lk ((j,.gone)::(i,r)::ls) k=some x→x=.gone∨∃ k',lk ls k'=some x∧(k'=k∨(k=i∧k'=j)):=by
    intro k x hk
    rcases lk_cons hk with ⟨rfl,rfl⟩ | ⟨h1,hk⟩
    · exact .inl rfl
    · rcases lk_cons hk with ⟨rfl,rfl⟩ | ⟨h2,hk⟩
      · exact .inr ⟨j,hj,.inr ⟨rfl,rfl⟩⟩
      · exact .inr ⟨k,hk,.inl rfl⟩
  have keyj:∀ k x,lk ((j,.gone)::(i,r)::ls) k=some x→x ≠ .gone→(k=i∧x=r)∨(k ≠ i∧k ≠ j∧lk ls k=some x):=by
    intro k x hk hx
    rcases lk_cons hk with ⟨rfl,rfl⟩ | ⟨h1,hk⟩
    · exact absurd rfl hx
    · rcases lk_cons hk with ⟨rfl,rfl⟩ | ⟨h2,hk⟩
      · exact .inl ⟨rfl,rfl⟩
      · exact .inr ⟨h2,h1,hk⟩
  refine ⟨hS.below,hS.le,hS.new,hS.stab,fun k x hk=>?_,fun k x hk=>?_,fun k l x y hk hl hkl b hb hb'=>?_⟩
  · rcases key k x hk with rfl | ⟨k',h,_⟩
    · trivial
    · exact hS.each k' x h
  · rcases key k x hk with rfl | ⟨k',h,_⟩
    · intro b hb;simp [LR.fp] at hb
    · exact hS.low k' x h
  · have hx:x ≠ .gone:=fun e=>by subst e;simp [LR.fp] at hb
    have hy:y ≠ .gone:=fun e=>by subst e;simp [LR.fp] at hb'
    rcases keyj k x hk hx with ⟨rfl,rfl⟩ | ⟨a1,a2,hk3⟩ <;> rcases keyj l y hl hy with ⟨rfl,rfl⟩ | ⟨c1,c2,hl3⟩
    · exact hkl rfl
    · exact hS.sep j l x y hj hl3 (fun e=>c2 e.symm) b hb hb'
    · exact hS.sep k j x y hk3 hj a2 b hb hb'
    · exact hS.sep k l x y hk3 hl3 hkl b hb hb'
end
section
variable {w0 w w':World} {D0 D D':Stab} {ls:List (Nat × LR)}
def others (ls:List (Nat × LR)) (i j:Nat):List Nat:=(ls.map (·.1)).flatMap fun k=>if k=i∨k=j then [] else match lk ls k with | some r=>r.fp | none=>[]
theorem lk_mem:∀ {ls:List (Nat × LR)} {k:Nat} {r:LR},lk ls k=some r→k ∈ ls.map (·.1)
  | [],_,_,h=>by simp [lk] at h
  | (a,x)::ls,k,r,h=>by
    rcases lk_cons h with ⟨rfl,_⟩ | ⟨_,h⟩
    · simp
    · simp [lk_mem h]
theorem mem_others {i j k b:Nat} {r:LR} (hk:lk ls k=some r) (hi:k ≠ i) (hj:k ≠ j) (hb:b ∈ r.fp):b ∈ others ls i j:=by
  simp only [others,List.mem_flatMap]
  refine ⟨k,lk_mem hk,?_⟩
  rw [if_neg (by rintro (h | h);exact hi h;exact hj h),hk]
  exact hb
theorem others_of {i j b:Nat} (hb:b ∈ others ls i j):∃ k r,k ≠ i∧k ≠ j∧lk ls k=some r∧b ∈ r.fp:=by
  simp only [others,List.mem_flatMap] at hb
  obtain ⟨k,_,hb⟩:=hb
  by_cases h:k=i∨k=j
  · rw [if_pos h] at hb;simp at hb
  · rw [if_neg h] at hb
    cases hk:lk ls k with
    | none=>rw [hk] at hb;simp at hb
    | some r=>rw [hk] at hb;exact ⟨k,r,fun e=>h (.inl e),fun e=>h (.inr e),hk,hb⟩
theorem St.lend2 (hS:St w0 D0 D ls w) {i j:Nat} {r s:LR} (hi:lk ls i=some r) (hj:lk ls j=some s) (hne:i ≠ j):
    St w0 D0 D [(1,r),(2,s),(0,.snap (others ls i j) fun b=>w.heap[b]?)] w:=by
  have hsep:=hS.sep i j r s hi hj hne
  have hcase:∀ k x,lk [(1,r),(2,s),(0,LR.snap (others ls i j) fun b=>w.heap[b]?)] k=some x→(k=1∧x=r)∨(k=2∧x=s)∨(k=0∧x=.snap (others ls i j) fun b=>w.heap[b]?):=by
    intro k x hk
    rcases lk_cons hk with ⟨rfl,rfl⟩ | ⟨_,hk⟩
    · exact .inl ⟨rfl,rfl⟩
    · rcases lk_cons hk with ⟨rfl,rfl⟩ | ⟨_,hk⟩
      · exact .inr (.inl ⟨rfl,rfl⟩)
      · rcases lk_cons hk with ⟨rfl,rfl⟩ | ⟨_,hk⟩
        · exact .inr (.inr ⟨rfl,rfl⟩)
        · simp [lk] at hk
  have ho:∀ b,b ∈ others ls i j→(w0.heap.size≤b∧D b=none)∧b ∉ r.fp∧b ∉ s.fp∧∃ o,w.heap[b]?=some o:=by
    intro b hb
    obtain ⟨k,x,h1,h2,hk,hbx⟩:=others_of hb
    refine ⟨hS.low k x hk b hbx,fun h=>hS.sep k i x r hk hi h1 b hbx h,fun h=>hS.sep k j x s hk hj h2 b hbx h,?_⟩
    have:=LR.holds_lt (hS.each k x hk) hbx
    exact ⟨_,Array.getElem?_eq_getElem this⟩
  refine ⟨hS.below,hS.le,hS.new,hS.stab,fun k x hk=>?_,fun k x hk b hb=>?_,fun k l x y hk hl hkl b hb hb'=>?_⟩
  · rcases hcase k x hk with ⟨rfl,rfl⟩ | ⟨rfl,rfl⟩ | ⟨rfl,rfl⟩
    · exact hS.each i _ hi
    · exact hS.each j _ hj
    · intro b hb
      obtain ⟨_,_,_,o,h⟩:=ho b hb
      exact ⟨o,h,h⟩
  · rcases hcase k x hk with ⟨rfl,rfl⟩ | ⟨rfl,rfl⟩ | ⟨rfl,rfl⟩
    · exact hS.low i _ hi b hb
    · exact hS.low j _ hj b hb
    · exact (ho b hb).1
  · rcases hcase k x hk with ⟨rfl,rfl⟩ | ⟨rfl,rfl⟩ | ⟨rfl,rfl⟩ <;> rcases hcase l y hl with ⟨rfl,rfl⟩ | ⟨rfl,rfl⟩ | ⟨rfl,rfl⟩
    · exact hkl rfl
    · exact hsep b hb hb'
    · exact (ho b hb').2.1 hb
    · exact hsep b hb' hb
    · exact hkl rfl
    · exact (ho b hb').2.2.1 hb
    · exact (ho b hb).2.1 hb'
    · exact (ho b hb).2.2.1 hb'
    · exact hkl rfl
theorem St.back2 (hS:St w0 D0 D ls w) {i j:Nat} {r s r' s':LR} (hi:lk ls i=some r) (hj:lk ls j=some s) (hne:i ≠ j)
    (hS':St w0 D0 D' [(1,r'),(2,s'),(0,.snap (others ls i j) fun b=>w.heap[b]?)] w'):St w0 D0 D' ((i,r')::(j,s')::ls) w':=by
  have h1:lk [(1,r'),(2,s'),(0,LR.snap (others ls i j) fun b=>w.heap[b]?)] 1=some r':=rfl
  have h2:lk [(1,r'),(2,s'),(0,LR.snap (others ls i j) fun b=>w.heap[b]?)] 2=some s':=rfl
  have h0:lk [(1,r'),(2,s'),(0,LR.snap (others ls i j) fun b=>w.heap[b]?)] 0=some (.snap (others ls i j) fun b=>w.heap[b]?):=rfl
  have hsnap:∀ b ∈ others ls i j,∃ o,w.heap[b]?=some o∧w'.heap[b]?=some o:=hS'.each 0 _ h0
  have hcase:∀ k x,lk ((i,r')::(j,s')::ls) k=some x→(k=i∧x=r')∨(k=j∧k ≠ i∧x=s')∨(k ≠ i∧k ≠ j∧lk ls k=some x):=by
    intro k x hk
    rcases lk_cons hk with ⟨rfl,rfl⟩ | ⟨h,hk⟩
    · exact .inl ⟨rfl,rfl⟩
    · rcases lk_cons hk with ⟨rfl,rfl⟩ | ⟨h',hk⟩
      · exact .inr (.inl ⟨rfl,h,rfl⟩)
      · exact .inr (.inr ⟨h,h',hk⟩)
  have hmem:∀ k x,k ≠ i→k ≠ j→lk ls k=some x→∀ b ∈ x.fp,b ∈ others ls i j:=fun k x a c hk b hb=>mem_others hk a c hb
  have hlow:=hS'.low 0 _ h0
  have hs1:=hS'.sep 0 1 _ _ h0 h1 (by decide)
  have hs2:=hS'.sep 0 2 _ _ h0 h2 (by decide)
  have hs12:=hS'.sep 1 2 _ _ h1 h2 (by decide)
  refine ⟨hS'.below,hS'.le,hS'.new,hS'.stab,fun k x hk=>?_,fun k x hk b hb=>?_,fun k l x y hk hl hkl b hb hb'=>?_⟩
  · rcases hcase k x hk with ⟨rfl,rfl⟩ | ⟨rfl,_,rfl⟩ | ⟨a,c,hk⟩
    · exact hS'.each 1 _ h1
    · exact hS'.each 2 _ h2
    · refine LR.holds_of_eq (hS.each k x hk) fun b hb=>?_
      obtain ⟨o,e1,e2⟩:=hsnap b (hmem k x a c hk b hb)
      rw [e1,e2]
  · rcases hcase k x hk with ⟨rfl,rfl⟩ | ⟨rfl,_,rfl⟩ | ⟨a,c,hk⟩
    · exact hS'.low 1 _ h1 b hb
    · exact hS'.low 2 _ h2 b hb
    · exact hlow b (hmem k x a c hk b hb)
  · rcases hcase k x hk with ⟨rfl,rfl⟩ | ⟨rfl,hki,rfl⟩ | ⟨a,c,hk3⟩ <;> rcases hcase l y hl with ⟨rfl,rfl⟩ | ⟨rfl,hli,rfl⟩ | ⟨a',c',hl3⟩
    · exact hkl rfl
    · exact hs12 b hb hb'
    · exact hs1 b (hmem l y a' c' hl3 b hb') hb
    · exact hs12 b hb' hb
    · exact hkl rfl
    · exact hs2 b (hmem l y a' c' hl3 b hb') hb
    · exact hs1 b (hmem k x a c hk3 b hb) hb'
    · exact hs2 b (hmem k x a c hk3 b hb) hb'
    · exact hS.sep k l x y hk3 hl3 hkl b hb hb'
theorem St.lend1 (hS:St w0 D0 D ls w) {i:Nat} {r:LR} (hi:lk ls i=some r):
    St w0 D0 D [(1,r),(0,.snap (others ls i i) fun b=>w.heap[b]?)] w:=by
  have hcase:∀ k x,lk [(1,r),(0,LR.snap (others ls i i) fun b=>w.heap[b]?)] k=some x→(k=1∧x=r)∨(k=0∧x=.snap (others ls i i) fun b=>w.heap[b]?):=by
    intro k x hk
    rcases lk_cons hk with ⟨rfl,rfl⟩ | ⟨_,hk⟩
    · exact .inl ⟨rfl,rfl⟩
    · rcases lk_cons hk with ⟨rfl,rfl⟩ | ⟨_,hk⟩
      · exact .inr ⟨rfl,rfl⟩
      · simp [lk] at hk
  have ho:∀ b,b ∈ others ls i i→(w0.heap.size≤b∧D b=none)∧b ∉ r.fp∧∃ o,w.heap[b]?=some o:=by
    intro b hb
    obtain ⟨k,x,h1,_,hk,hbx⟩:=others_of hb
    refine ⟨hS.low k x hk b hbx,fun h=>hS.sep k i x r hk hi h1 b hbx h,?_⟩
    have:=LR.holds_lt (hS.each k x hk) hbx
    exact ⟨_,Array.getElem?_eq_getElem this⟩
  refine ⟨hS.below,hS.le,hS.new,hS.stab,fun k x hk=>?_,fun k x hk b hb=>?_,fun k l x y hk hl hkl b hb hb'=>?_⟩
  · rcases hcase k x hk with ⟨rfl,rfl⟩ | ⟨rfl,rfl⟩
    · exact hS.each i _ hi
    · intro b hb
      obtain ⟨_,_,o,h⟩:=ho b hb
      exact ⟨o,h,h⟩
  · rcases hcase k x hk with ⟨rfl,rfl⟩ | ⟨rfl,rfl⟩
    · exact hS.low i _ hi b hb
    · exact (ho b hb).1
  · rcases hcase k x hk with ⟨rfl,rfl⟩ | ⟨rfl,rfl⟩ <;> rcases hcase l y hl with ⟨rfl,rfl⟩ | ⟨rfl,rfl⟩
    · exact hkl rfl
    · exact (ho b hb').2.1 hb
    · exact (ho b hb).2.1 hb'
    · exact hkl rfl
theorem St.back1 (hS:St w0 D0 D ls w) {i:Nat} {r r':LR} (hi:lk ls i=some r)
    (hS':St w0 D0 D' [(1,r'),(0,.snap (others ls i i) fun b=>w.heap[b]?)] w'):St w0 D0 D' ((i,r')::ls) w':=by
  have h1:lk [(1,r'),(0,LR.snap (others ls i i) fun b=>w.heap[b]?)] 1=some r':=rfl
  have h0:lk [(1,r'),(0,LR.snap (others ls i i) fun b=>w.heap[b]?)] 0=some (.snap (others ls i i) fun b=>w.heap[b]?):=rfl
  have hsnap:∀ b ∈ others ls i i,∃ o,w.heap[b]?=some o∧w'.heap[b]?=some o:=hS'.each 0 _ h0
  have hmem:∀ k x,k ≠ i→lk ls k=some x→∀ b ∈ x.fp,b ∈ others ls i i:=fun k x a hk b hb=>mem_others hk a a hb
  have hlow:=hS'.low 0 _ h0
  have hs1:=hS'.sep 0 1 _ _ h0 h1 (by decide)
  refine ⟨hS'.below,hS'.le,hS'.new,hS'.stab,fun k x hk=>?_,fun k x hk b hb=>?_,fun k l x y hk hl hkl b hb hb'=>?_⟩
  · rcases lk_cons hk with ⟨rfl,rfl⟩ | ⟨a,hk⟩
    · exact hS'.each 1 _ h1
    · refine LR.holds_of_eq (hS.each k x hk) fun b hb=>?_
      obtain ⟨o,e1,e2⟩:=hsnap b (hmem k x a hk b hb)
      rw [e1,e2]
  · rcases lk_cons hk with ⟨rfl,rfl⟩ | ⟨a,hk⟩
    · exact hS'.low 1 _ h1 b hb
    · exact hlow b (hmem k x a hk b hb)
  · rcases lk_cons hk with ⟨rfl,rfl⟩ | ⟨a,hk3⟩ <;> rcases lk_cons hl with ⟨rfl,rfl⟩ | ⟨a',hl3⟩
    · exact hkl rfl
    · exact hs1 b (hmem l y a' hl3 b hb') hb
    · exact hs1 b (hmem k x a hk3 b hb) hb'
    · exact hS.sep k l x y hk3 hl3 hkl b hb hb'
end
def RetM (D:Stab) (R:Stab→World→Value→Prop) (e:Ending) (w':World):Prop:=∃ v D',e=.returned v∧D.le D'∧R D' w' v
section
variable {P:Program} {N:Nat} {rs:List Nat} {vs:List (Nat × Value)} {a:Act} {w w0:World} {D0 D:Stab} {ls:List (Nat × LR)}
variable {r:Option Nat} {ops:Array Oper} {Q:Exit→Act→World→Prop} {rest:List Oper} {d:Nat} {ty:TypeId} {pos:String} {aft:Array Edge}
theorem lkOf {i:Nat} {x:LR} (_:St w0 D0 D ls w) (h:lk ls i=some x):lk ls i=some x:=h
theorem leaveM {fn:Func} {xs:List ResultVar} {us:List Value} {Di:Stab} {R:Stab→World→Value→Prop} {ms:List (Nat × LR)} (hr:fn.results=xs.toArray) (hF:Frm N rs vs a) (hS:St w0 D0 D ls w) (h:RVs P vs ls xs us)
    (hm:rs=[]∨∃ i,lk ls i=some (.marks rs)∧lk ms i=none) (hms:AllL ls ms) (hle:Di.le D) (hR:∀ w',St w0 D0 D ms w'→R D w' (tup us)):base P fn (RetM Di R) .ret a w:=by
  show LeavesInM (Fw none) 0 P fn a.tmps (RetM Di R) a.defers .returning w
  rw [hF.defers]
  have hob:∀ b ∈ rs,w.heap[b]?=some (.deferred (some [])):=fun b hb=>by
    rcases hm with rfl | ⟨i,hi,_⟩
    · cases hb
    · exact (hS.each i _ hi).2 b hb
  have hfp:∀ b ∈ rs,w0.heap.size≤b∧D b=none:=fun b hb=>by
    rcases hm with rfl | ⟨i,hi,_⟩
    · cases hb
    · exact hS.low i _ hi b hb
  have hnd:rs.Nodup:=by
    rcases hm with rfl | ⟨i,hi,_⟩
    · exact List.nodup_nil
    · exact (hS.each i _ hi).1
  have hother:∀ j x,lk ms j=some x→∀ b ∈ x.fp,b ∉ rs:=fun j x hj b hb hbr=>by
    rcases hm with rfl | ⟨i,hi,hmi⟩
    · cases hbr
    · have hj':=hms.get j x hj
      have hne:j ≠ i:=fun e=>by subst e;rw [hmi] at hj;cases hj
      exact hS.sep j i x _ hj' hi hne b hb hbr
  refine leavesM (v:=tup us) (fun w' h1 h2 h3 h4 h5=>⟨run_results hr hF hS h fun i b cs E hl=>h1 b fun hb=>?_,⟨_,D,rfl,hle,hR w' ⟨⟨?_,?_,?_,?_,fun k hk=>?_⟩,hS.le,hS.new,fun b o hbo=>?_,fun j x hj=>?_,fun j x hj=>hS.low j x (hms.get j x hj),fun j k x y hj hk=>hS.sep j k x y (hms.get j x hj) (hms.get k y hk)⟩⟩⟩) hob hnd
  · have:=hob b hb
    rw [hS.each i _ hl] at this;cases this
  · rw [h3];exact hS.below.os
  · rw [h4];exact hS.below.tape
  · rw [h5];exact hS.below.output
  · rw [h2];exact hS.below.size
  · rw [h1 k fun hb=>by have:=(hfp k hb).1;omega];exact hS.below.block k hk
  · rw [h1 b fun hb=>by rw [(hfp b hb).2] at hbo;cases hbo];exact hS.stab b o hbo
  · exact LR.holds_of_eq (hS.each j x (hms.get j x hj)) fun b hb=>h1 b (hother j x hj b hb)
theorem O.callVM {x:Operand} {xs:List Operand} {Ts:Array TypeId} {f:FuncId} {first cap us:List Value} {R:Stab→World→Value→Prop} (hc:callable P f=true) (hF:Frm N rs vs a)
    (hx:ev vs x=some (.func (.func f) first.toArray cap.toArray)) (hxs:evs vs xs=some us) (hcall:Calls P f (first ++ us ++ cap).toArray w (RetM D R)) (hd:Nat.ble (d + 1) N=true)
    (h:∀ v D' a' w',R D' w' v→D.le D'→Frm N rs ((d,v)::vs) a'→WL r P ops Q rest a' w'):
    WL r P ops Q (⟨some d,.call ⟨.value x,xs.toArray,Ts⟩,ty,pos,aft,none⟩::rest) a w:=
  O.call hc hF hx hxs hd hcall (fun _ _ h=>⟨h.choose,h.choose_spec.choose_spec.1⟩) fun u a' w' hR hF'=>by
    obtain ⟨v,D',e,hle,hr⟩:=hR
    injection e with e
    subst e
    exact h _ D' a' w' hr hle hF'
end
end Go.Proofs.YtgdfljiliflhfaaGreatDoor.Rt
