/- The small program logic of this seat, part 10: regions that draw, where more than one order is left: a tree of orders. Under no conditions but those that each rule names. -/
import Derived.Test.YtgdfljiliflhfaaGreatDoorC3Rt9
set_option linter.unusedVariables false
set_option linter.unusedSimpArgs false
namespace Go.Proofs.YtgdfljiliflhfaaGreatDoor.Rt
open Go Go.RowKit
inductive Tr where
  | done
  | flt (i:Nat) (t:Tr)
  | alt (i:Nat) (t u:Tr)
  | stop
def Tr.idxs:Tr→List Nat
  | .alt i _ u=>i::u.idxs
  | _=>[]
section
variable {r:Option Nat} {P:Program} {ops:Array Oper} {Q:Exit→Act→World→Prop} {T:World→Prop} {n:Nat} {w:World} {a:Act}
def WV (r:Option Nat) (P:Program) (ops:Array Oper) (Q:Exit→Act→World→Prop) (T:World→Prop) (K:Act→World→Prop):Tr→Act→World→Prop
  | .done,a,w=>K a w
  | .flt i t,a,w=>∃ o v,ops[i]?=some o∧YieldsT P ops T o v a∧WV r P ops Q T K t (a.put o.dst v) w
  | .alt i t u,a,w=>wpOpIn (Fw r) 0 P ops Q i (fun a' w'=>T w'∧WV r P ops Q T K t a' w') a w∧WV r P ops Q T K u a w
  | .stop,_,_=>True
def Tr.ok (ops:Array Oper) (n:Nat):Tr→Bool→Nat→Array Bool→Bool
  | .done,top,m,listed=>top && (m == 0) && Region.seqB .any ops (ops.size - n) n listed
  | .flt i t,top,m,listed=>top && Nat.ble 1 m && Nat.blt i n && (Region.ready .any ops listed).contains i && Region.free .any ops listed i && t.ok ops n true (m - 1) (listed.setIfInBounds i true)
  | .alt i t u,top,m,listed=>(!top || (Region.ready .any ops listed == i::u.idxs)) && Nat.ble 1 m && Nat.blt i n && t.ok ops n true (m - 1) (listed.setIfInBounds i true) && u.ok ops n false m listed
  | .stop,top,_,_ => !top
def drawOkV (ops:Array Oper) (n:Nat) (t:Tr):Bool:=
  Region.noSelect ops && noDefer ops && tailOk ops n && Nat.ble n ops.size && t.ok ops n true n (Array.replicate ops.size false)
theorem WV_any {l:List Oper} (hops:ops=l.toArray) (hk:tailOk ops n=true) (hsel:Region.noSelect ops=true) (hdf:noDefer ops=true) (hle:n≤l.length)
    (hQ:∀ c a a' w,Q (.panic c) a w→Q (.panic c) a' w):∀ t:Tr,
    (∀ (m:Nat) (listed:Array Bool) (a:Act) (w:World),HeadInv .any ops n listed→t.ok ops n true m listed=true→T w →
      WV r P ops Q T (fun a w=>WL r P ops Q (l.drop n) a w) t a w→anyT r P ops Q T n (m + (l.drop n).length) listed a w) ∧
    (∀ (m:Nat) (listed:Array Bool) (a:Act) (w:World),HeadInv .any ops n listed→(∀ j ∈ t.idxs,j ∈ Region.ready .any ops listed)→t.ok ops n false m listed=true →
      WV r P ops Q T (fun a w=>WL r P ops Q (l.drop n) a w) t a w →
      ∀ j ∈ t.idxs,wpOpIn (Fw r) 0 P ops Q j (fun a' w'=>(j < n→T w')∧anyT r P ops Q T n (m - 1 + (l.drop n).length) (listed.setIfInBounds j true) a' w') a w)
  | .done=>⟨fun m listed a w inv hB hT h=>by
      simp only [Tr.ok,Bool.and_eq_true,beq_iff_eq] at hB
      obtain ⟨⟨_,rfl⟩,hB⟩:=hB
      rw [Nat.zero_add]
      refine WL_seq (l.drop n) n listed a w (fun j=>by subst hops;simp [List.getElem?_drop]) (Nat.le_refl _) ?_ h
      have:ops.size - n=(l.drop n).length:=by subst hops;simp
      rw [← this];exact hB,fun m listed a w _ _ _ _ j hj=>by simp [Tr.idxs] at hj⟩
  | .stop=>⟨fun m listed a w _ hB=>by simp [Tr.ok] at hB,fun m listed a w _ _ _ _ j hj=>by simp [Tr.idxs] at hj⟩
  | .flt i t=>⟨fun m listed a w inv hB hT h=>by
      obtain ⟨o,v,ho,hy,h⟩:=h
      simp only [Tr.ok,Bool.and_eq_true] at hB
      obtain ⟨⟨⟨⟨⟨_,hm⟩,h1⟩,h2⟩,h3⟩,h4⟩:=hB
      have hin:i < n:=by simpa using h1
      have hr:i ∈ Region.ready .any ops listed:=by simpa using h2
      have hm':1≤m:=Nat.le_of_ble_eq_true hm
      obtain ⟨m,rfl⟩:∃ k,m=k + 1:=⟨m - 1,by omega⟩
      rw [show m + 1 + (l.drop n).length=(m + (l.drop n).length) + 1 by omega]
      exact first_T ho hin hk hsel hdf (fun c a w hq=>hQ c _ _ w hq) _ listed a w inv (Region.free_spec ho h3) hr hy hT
        ((WV_any hops hk hsel hdf hle hQ t).1 m _ _ w (inv.set hr hin) h4 hT h),fun m listed a w _ _ _ _ j hj=>by simp [Tr.idxs] at hj⟩
  | .alt i t u=>by
    have key:∀ (m:Nat) (listed:Array Bool) (a:Act) (w:World),HeadInv .any ops n listed→(∀ j ∈ (Tr.alt i t u).idxs,j ∈ Region.ready .any ops listed)→(Tr.alt i t u).ok ops n false m listed=true →
        WV r P ops Q T (fun a w=>WL r P ops Q (l.drop n) a w) (.alt i t u) a w →
        ∀ j ∈ (Tr.alt i t u).idxs,wpOpIn (Fw r) 0 P ops Q j (fun a' w'=>(j < n→T w')∧anyT r P ops Q T n (m - 1 + (l.drop n).length) (listed.setIfInBounds j true) a' w') a w:=by
      intro m listed a w inv hre hB h j hj
      simp only [Tr.ok,Bool.and_eq_true] at hB
      obtain ⟨⟨⟨⟨_,hm⟩,h1⟩,h4⟩,h5⟩:=hB
      have hin:i < n:=by simpa using h1
      simp only [Tr.idxs,List.mem_cons] at hj
      rcases hj with rfl | hj
      · exact wpOpIn_mono (fun a' w' h'=>⟨fun _=>h'.1,(WV_any hops hk hsel hdf hle hQ t).1 (m - 1) _ a' w' (inv.set (hre _ (by simp [Tr.idxs])) hin) h4 h'.1 h'.2⟩) h.1
      · exact (WV_any hops hk hsel hdf hle hQ u).2 m listed a w inv (fun j hj=>hre j (by simp [Tr.idxs,hj])) h5 h.2 j hj
    refine ⟨fun m listed a w inv hB hT h=>?_,key⟩
    have hB':=hB
    simp only [Tr.ok,Bool.and_eq_true,Bool.not_true,Bool.false_or,beq_iff_eq] at hB'
    obtain ⟨⟨⟨⟨hr,hm⟩,h1⟩,h4⟩,h5⟩:=hB'
    have hm':1≤m:=Nat.le_of_ble_eq_true hm
    have hB2:(Tr.alt i t u).ok ops n false m listed=true:=by simp only [Tr.ok,Bool.and_eq_true];exact ⟨⟨⟨⟨rfl,hm⟩,h1⟩,h4⟩,h5⟩
    have hk2:=key m listed a w inv (fun j hj=>by rw [hr];exact hj) hB2 h
    obtain ⟨m,rfl⟩:∃ k,m=k + 1:=⟨m - 1,by omega⟩
    rw [show m + 1 + (l.drop n).length=(m + (l.drop n).length) + 1 by omega]
    refine ⟨fun h1=>(by rw [hr] at h1;cases h1),fun j hj=>?_⟩
    have:=hk2 j (by rw [hr] at hj;exact hj)
    rw [show m + 1 - 1=m by omega] at this
    exact this
theorem WV_mono {K K':Act→World→Prop} (hK:∀ a w,K a w→K' a w):∀ (t:Tr) (a:Act) (w:World),WV r P ops Q T K t a w→WV r P ops Q T K' t a w
  | .done,a,w,h=>hK a w h
  | .flt i t,a,w,⟨o,v,ho,hy,h⟩=>⟨o,v,ho,hy,WV_mono hK t _ _ h⟩
  | .alt i t u,a,w,h=>⟨wpOpIn_mono (fun a' w' h'=>⟨h'.1,WV_mono hK t _ _ h'.2⟩) h.1,WV_mono hK u _ _ h.2⟩
  | .stop,_,_,_=>trivial
theorem drawsV {id:Nat} {l:List Oper} (n:Nat) (t:Tr) (hm:P.follows .mixedOrders=true) (hck:drawOkV l.toArray n t=true) (T:World→Prop) (J:Act→World→Prop) (hT:T { w with drawn:=w.drawn + 1 })
    (hQ:∀ c a a' w,Q (.panic c) a w→Q (.panic c) a' w)
    (h:WV r P l.toArray Q T J t a { w with drawn:=w.drawn + 1 }) (hJ:∀ a w,J a w→WL r P l.toArray Q (l.drop n) a w):WP r P (Code.region id l.toArray true) Q a w:=by
  simp only [drawOkV,Bool.and_eq_true] at hck
  obtain ⟨⟨⟨⟨hsel,hdf⟩,hk⟩,hle⟩,hcan⟩:=hck
  have hle':n≤l.length:=by simpa using Nat.le_of_ble_eq_true hle
  refine wpIn_region_any hm (any_of_anyT (T:=T) (n:=n) _ _ _ _ ?_)
  have:=(WV_any (r:=r) (P:=P) rfl hk hsel hdf hle' hQ t).1 n _ a _ ⟨by simp,fun j oj _ hl=>(by rw [getD_replicate_false] at hl;cases hl),fun t _ ht=>getD_in (by simpa using ht) (getD_replicate_false _ _)⟩ hcan hT (WV_mono hJ _ _ _ h)
  rw [show n + (l.drop n).length=l.toArray.size by simp;omega] at this
  exact this
variable {N:Nat} {rs:List Nat} {vs:List (Nat × Value)} {K:Act→World→Prop} {t u:Tr} {v:Value} {d:Nat}
theorem stepV {i:Nat} {op:Op} {ty:TypeId} {pos:String} {aft:Array Edge} (hi:ops[i]?=some ⟨some d,op,ty,pos,aft,none⟩) (hF:Frm N rs vs a)
    (hy:∀ w,T w→Yields P ⟨some d,op,ty,pos,aft,none⟩ a w v) (hd:Nat.ble (d + 1) N=true)
    (h:∀ a',Frm N rs ((d,v)::vs) a'→WV r P ops Q T K t a' w):WV r P ops Q T K (.flt i t) a w:=
  ⟨_,v,hi,.inl ⟨rfl,hy⟩,h _ (hF.put d v hd)⟩
theorem stepV_on {i j dj:Nat} {b b':Bool} {op:Op} {ty:TypeId} {pos:String} {aft:Array Edge} (hi:ops[i]?=some ⟨some d,op,ty,pos,aft,some (j,b)⟩) (hF:Frm N rs vs a)
    (hj:(ops[j]?).bind (·.dst)=some dj) (hv:look vs dj=some (.bool b')) (he:b'=b)
    (hy:∀ w,T w→Yields P ⟨some d,op,ty,pos,aft,some (j,b)⟩ a w v) (hd:Nat.ble (d + 1) N=true)
    (h:∀ a',Frm N rs ((d,v)::vs) a'→WV r P ops Q T K t a' w):WV r P ops Q T K (.flt i t) a w:=by
  subst he
  exact ⟨_,v,hi,.inl ⟨by simp only [Region.wanted,yielded,hj,Option.bind_some,hF.get _ _ hv,beq_self_eq_true],hy⟩,h _ (hF.put d v hd)⟩
theorem stepV_off {i j dj:Nat} {b b':Bool} {op:Op} {ty:TypeId} {pos:String} {aft:Array Edge} (hi:ops[i]?=some ⟨some d,op,ty,pos,aft,some (j,b)⟩) (hF:Frm N rs vs a)
    (hj:(ops[j]?).bind (·.dst)=some dj) (hv:look vs dj=some (.bool b')) (hne:b' = !b) (hd:Nat.ble (d + 1) N=true)
    (h:∀ a',Frm N rs ((d,undef)::vs) a'→WV r P ops Q T K t a' w):WV r P ops Q T K (.flt i t) a w:=
  ⟨_,undef,hi,.inr ⟨by simp only [Region.wanted,yielded,hj,Option.bind_some,hF.get _ _ hv,hne];cases b <;> rfl,rfl⟩,h _ (hF.put d undef hd)⟩
theorem oneV {i:Nat} {o:Oper} (hi:ops[i]?=some o) (h:WL r P ops (Exit.then (fun a' w'=>T w'∧WV r P ops Q T K t a' w') Q) [o] a w) (h2:WV r P ops Q T K u a w):WV r P ops Q T K (.alt i t u) a w:=by
  have:=oneT (Q:=Q) (T:=T) (K:=fun a w=>WV r P ops Q T K t a w) (ks:=[]) hi h
  exact ⟨this,h2⟩
theorem toTailV (h:K a w):WV r P ops Q T K .done a w:=h
end
end Go.Proofs.YtgdfljiliflhfaaGreatDoor.Rt
