/- The small program logic of this seat, part 5: regions that draw their order, brought to one order: what only reads is taken first, calls come one behind the other, what writes comes last. Under no conditions but those that each rule names. -/
import Derived.Test.YtgdfljiliflhfaaGreatDoorC3Rt4
import Derived.StillTail
set_option linter.unusedVariables false
set_option linter.unusedSimpArgs false
namespace Go.Proofs.YtgdfljiliflhfaaGreatDoor.Rt
open Go Go.RowKit
section
variable {r:Option Nat} {P:Program} {ops:Array Oper} {Q:Exit→Act→World→Prop} {T:World→Prop} {n:Nat} {w:World} {a:Act}
def YieldsT (P:Program) (ops:Array Oper) (T:World→Prop) (o:Oper) (v:Value) (a:Act):Prop:=
  (Region.wanted o (yielded ops a.tmps)=true∧∀ w,T w→(execOp a.eval o).run P w=.ok (.value v) w) ∨
  (Region.wanted o (yielded ops a.tmps)=false∧v=undef)
def isDefer:Op→Bool
  | .defer _=>true
  | _=>false
def noDefer (ops:Array Oper):Bool:=ops.all fun o => !isDefer o.op
theorem noDefer_spec (h:noDefer ops=true) {j:Nat} {o:Oper} (ho:ops[j]?=some o):∀ c,o.op ≠ .defer c:=by
  intro c hc
  have:=Array.all_eq_true_iff_forall_mem.1 h o (Array.mem_of_getElem? ho)
  simp [hc,isDefer] at this
theorem YieldsT.wpOpIn {i:Nat} {o:Oper} {v:Value} (hi:ops[i]?=some o) (hnd:∀ c,o.op ≠ .defer c) (hy:YieldsT P ops T o v a)
    {K:Act→World→Prop} (hT:T w) (h:K (a.put o.dst v) w):wpOpIn (Fw r) 0 P ops Q i K a w:=by
  unfold Go.wpOpIn
  simp only [hi]
  rcases hy with ⟨hw,hv⟩ | ⟨hw,rfl⟩
  · simp only [hw,if_true]
    refine ⟨fun _ _=>trivial,?_⟩
    rw [Oper.semAt_eq _ _ _ hnd,hv w hT]
    exact h
  · simp only [hw,Bool.false_eq_true,if_false];exact ⟨fun _ _=>trivial,h⟩
theorem YieldsT.of_same {o:Oper} {v:Value} {a a':Act} (hy:YieldsT P ops T o v a) (he:execOp a'.eval o=execOp a.eval o)
    (hw:Region.wanted o (yielded ops a'.tmps)=Region.wanted o (yielded ops a.tmps)):YieldsT P ops T o v a':=by
  unfold YieldsT at *
  rw [he,hw]
  exact hy
theorem wpOpIn_putT {j:Nat} {oi oj:Oper} {v:Value} (hj:ops[j]?=some oj) (hap:oi.apart ops oj=true) (hnd:∀ c,oj.op ≠ .defer c)
    (hsi:∀ cs b,oi.op ≠ .select cs b) (hsj:∀ cs b,oj.op ≠ .select cs b)
    (hQ:∀ c a w,Q (.panic c) (a.put oi.dst v) w→Q (.panic c) a w) {K:Act→World→Prop}
    (hy:YieldsT P ops T oi v a) (h:wpOpIn (Fw r) 0 P ops Q j K (a.put oi.dst v) w):
    wpOpIn (Fw r) 0 P ops Q j (fun a' w'=>YieldsT P ops T oi v a'∧K (a'.put oi.dst v) w') a w:=by
  obtain ⟨h1,h2,h3⟩:=Oper.apart_spec hap
  have keep:∀ (a:Act),YieldsT P ops T oi v a→∀ u,YieldsT P ops T oi v (a.put oj.dst u):=fun a hy u=>
    hy.of_same (execOp_put oi hsi a oj.dst u h3) (wanted_put oi a oj.dst u h3)
  have keepD:∀ d,YieldsT P ops T oi v { a with defers:=d::a.defers }:=fun d=>hy.of_same rfl rfl
  unfold wpOpIn at *
  simp only [hj] at *
  rw [wanted_put oj a oi.dst v h1] at h
  split
  · rename_i hw
    simp only [hw,if_true] at h
    refine ⟨fun _ _=>trivial,?_⟩
    replace h:=h.2
    rw [Oper.semAt_eq _ _ _ hnd] at h ⊢
    rw [execOp_put oj hsj a oi.dst v h1] at h
    generalize (execOp a.eval oj).run P w=res at *
    cases res with
    | ok x w'=>
      cases x <;> simp only [Oper.uponIn] at h ⊢
      case value u=>exact ⟨keep a hy u,by rw [← Act.put_comm a v u h2];exact h⟩
      case skip=>exact ⟨keep a hy _,by rw [← Act.put_comm a v undef h2];exact h⟩
      case defer d=>
        refine ⟨keep _ (keepD d) _,?_⟩
        rw [← Act.put_comm _ v undef h2,← Act.put_defers]
        exact h
      case enter f args=>
        refine ⟨h.1,CallsIn.mono h.2 fun e w'' he=>?_⟩
        cases e with
        | returned u=>exact ⟨keep a hy u,by rw [← Act.put_comm a v u h2];exact he⟩
        | panicked c=>exact hQ _ _ _ he
        | outgrown=>exact he
      case row row args=>exact ⟨h.1,RowsIn.mono h.2 fun u w'' he=>⟨keep a hy u,by rw [← Act.put_comm a v u h2];exact he⟩⟩
      case round l f tmps assign body=>
        refine ⟨h.1,RoundIn.mono h.2 fun e w'' he=>?_⟩
        cases e with
        | returned u=>exact ⟨keep a hy u,by rw [← Act.put_comm a v u h2];exact he⟩
        | panicked c=>exact hQ _ _ _ he
        | outgrown=>exact he
    | halt x w'=>
      cases x <;> simp only [Oper.uponIn] at h ⊢
      case panic u=>exact hQ _ _ _ h
  · rename_i hw
    simp only [hw,Bool.false_eq_true,if_false] at h
    exact ⟨fun _ _=>trivial,keep a hy _,by rw [← Act.put_comm a v undef h2];exact h.2⟩
def anyT (r:Option Nat) (P:Program) (ops:Array Oper) (Q:Exit→Act→World→Prop) (T:World→Prop) (n:Nat):Nat→Array Bool→Act→World→Prop
  | 0,listed,a,w=>Region.ready .any ops listed=[]∧Q .normal a w
  | f + 1,listed,a,w=>
    (Region.ready .any ops listed=[]→Q .normal a w) ∧
    ∀ i ∈ Region.ready .any ops listed,wpOpIn (Fw r) 0 P ops Q i (fun a' w'=>(i < n→T w')∧anyT r P ops Q T n f (listed.setIfInBounds i true) a' w') a w
theorem any_of_anyT:∀ (f:Nat) (listed:Array Bool) (a:Act) (w:World),anyT r P ops Q T n f listed a w→wpAnyIn (Fw r) 0 P .any ops Q f listed a w
  | 0,_,_,_,h=>h
  | f + 1,_,_,_,h=>⟨h.1,fun i hi=>wpOpIn_mono (fun a' w' h'=>any_of_anyT f _ a' w' h'.2) (h.2 i hi)⟩
def tailOk (ops:Array Oper) (n:Nat):Bool:=(ops.size == n) || (decide (n < ops.size) && Region.sinkB .any ops n && Region.chainB .any ops n)
theorem tail_out {listed:Array Bool} (hk:tailOk ops n=true) (inv:HeadInv .any ops n listed) {i:Nat} (hi:i < n) (hun:listed.getD i true=false) {j:Nat}
    (hj:j ∈ Region.ready .any ops listed):j < n:=by
  simp only [tailOk,Bool.or_eq_true,Bool.and_eq_true,beq_iff_eq,decide_eq_true_eq] at hk
  rcases hk with hk | ⟨⟨h1,h2⟩,h3⟩
  · obtain ⟨_,o,ho,_⟩:=mem_ready.1 hj
    rw [← hk];exact (Array.getElem?_eq_some_iff.1 ho).1
  · rcases Nat.lt_or_ge j n with h | h
    · exact h
    · exact absurd hj (tail_waits h2 h3 h1 inv _ i rfl hi hun j h)
theorem first_T {i:Nat} {oi:Oper} {v:Value} (hi:ops[i]?=some oi) (hin:i < n) (hk:tailOk ops n=true) (hsel:Region.noSelect ops=true) (hdf:noDefer ops=true)
    (hQ:∀ c a w,Q (.panic c) (a.put oi.dst v) w→Q (.panic c) a w):
    ∀ (f:Nat) (listed:Array Bool) (a:Act) (w:World),HeadInv .any ops n listed →
      (∀ j oj,ops[j]?=some oj→j ≠ i→listed.getD j true=false→(∀ e ∈ oj.after,Region.binds .any e=true→e.on ≠ i)→oi.apart ops oj=true) →
      i ∈ Region.ready .any ops listed→YieldsT P ops T oi v a→T w →
      anyT r P ops Q T n f (listed.setIfInBounds i true) (a.put oi.dst v) w→anyT r P ops Q T n (f + 1) listed a w:=by
  intro f
  induction f with
  | zero=>
    intro listed a w inv _ hr hy hT H
    refine ⟨fun h=>(by rw [h] at hr;cases hr),fun j hj=>?_⟩
    by_cases hji:j=i
    · subst hji;exact hy.wpOpIn hi (noDefer_spec hdf hi) hT ⟨fun _=>hT,H⟩
    · have:=ready_mono hj hji
      rw [H.1] at this
      cases this
  | succ f ih=>
    intro listed a w inv hfree hr hy hT H
    refine ⟨fun h=>(by rw [h] at hr;cases hr),fun j hj=>?_⟩
    by_cases hji:j=i
    · subst hji;exact hy.wpOpIn hi (noDefer_spec hdf hi) hT ⟨fun _=>hT,H⟩
    · have hun:=(mem_ready.1 hr).1
      have hjn:j < n:=tail_out hk inv hin hun hj
      have h1:=H.2 j (ready_mono hj hji)
      obtain ⟨hjun,oj,hoj,hall⟩:=mem_ready.1 hj
      have hnot:∀ e ∈ oj.after,Region.binds .any e=true→e.on ≠ i:=fun e he hb heq=>by
        have h1:=hall e he hb
        rw [heq,getD_both hun] at h1
        cases h1
      have h2:=wpOpIn_putT hoj (hfree j oj hoj hji hjun hnot) (noDefer_spec hdf hoj) (fun cs b=>Region.noSelect_spec hsel i oi cs b hi) (fun cs b=>Region.noSelect_spec hsel j oj cs b hoj) hQ hy h1
      have hfree':∀ k ok,ops[k]?=some ok→k ≠ i→(listed.setIfInBounds j true).getD k true=false →
          (∀ e ∈ ok.after,Region.binds .any e=true→e.on ≠ i)→oi.apart ops ok=true:=fun k ok hk hki hun hno=>by
        refine hfree k ok hk hki ?_ hno
        by_cases hjk:j=k
        · subst hjk;exact hjun
        · rw [getD_set_ne true hjk] at hun;exact hun
      refine wpOpIn_mono (fun a' w' h3=>⟨fun _=>h3.2.1 hjn,ih (listed.setIfInBounds j true) a' w' (inv.set hj hjn) hfree' (ready_mono hr (Ne.symm hji)) h3.1 (h3.2.1 hjn) ?_⟩) h2
      rw [Array.setIfInBounds_comm _ _ hji]
      exact h3.2.2
def WT (r:Option Nat) (P:Program) (ops:Array Oper) (Q:Exit→Act→World→Prop) (T:World→Prop) (K:Act→World→Prop):List (Nat × Bool)→Act→World→Prop
  | [],a,w=>K a w
  | (i,true)::ks,a,w=>∃ o v,ops[i]?=some o∧YieldsT P ops T o v a∧WT r P ops Q T K ks (a.put o.dst v) w
  | (i,false)::ks,a,w=>wpOpIn (Fw r) 0 P ops Q i (fun a' w'=>T w'∧WT r P ops Q T K ks a' w') a w
def canonOk (ops:Array Oper) (n:Nat):List (Nat × Bool)→Array Bool→Bool
  | [],listed=>Region.seqB .any ops (ops.size - n) n listed
  | (i,true)::ks,listed=>Nat.blt i n && (Region.ready .any ops listed).contains i && Region.free .any ops listed i && canonOk ops n ks (listed.setIfInBounds i true)
  | (i,false)::ks,listed=>Nat.blt i n && (Region.ready .any ops listed == [i]) && canonOk ops n ks (listed.setIfInBounds i true)
def drawOk (ops:Array Oper) (n:Nat) (ks:List (Nat × Bool)):Bool:=
  Region.noSelect ops && noDefer ops && tailOk ops n && Nat.ble n ops.size && (ks.length == n) && canonOk ops n ks (Array.replicate ops.size false)
theorem WL_seq (l:List Oper):∀ (k:Nat) (listed:Array Bool) (a:Act) (w:World),(∀ j,l[j]?=ops[k + j]?)→n≤k →
    Region.seqB .any ops l.length k listed=true→WL r P ops Q l a w→anyT r P ops Q T n l.length listed a w:=by
  induction l with
  | nil=>intro k listed a w _ _ hB h;exact ⟨by simpa [Region.seqB] using hB,h⟩
  | cons o l ih=>
    intro k listed a w hl hnk hB h
    have h0:ops[k]?=some o:=by simpa using (hl 0).symm
    simp only [List.length_cons,Region.seqB,Bool.and_eq_true,decide_eq_true_eq] at hB
    refine ⟨fun h1=>(by rw [hB.1] at h1;cases h1),fun i hi=>?_⟩
    rw [hB.1] at hi
    have hik:i=k:=by simpa using hi
    subst hik
    have hw:wpOpIn (Fw r) 0 P ops Q i (WL r P ops Q l) a w:=by unfold wpOpIn;simp only [h0];exact h
    exact wpOpIn_mono (fun a' w' h'=>⟨fun h=>by omega,ih (i + 1) _ a' w' (fun j=>by have:=hl (j + 1);simpa [Nat.add_assoc,Nat.add_comm 1 j] using this) (by omega) hB.2 h'⟩) hw
theorem WT_any {l:List Oper} (hops:ops=l.toArray) (hk:tailOk ops n=true) (hsel:Region.noSelect ops=true) (hdf:noDefer ops=true) (hle:n≤l.length)
    (hQ:∀ c a a' w,Q (.panic c) a w→Q (.panic c) a' w):∀ (ks:List (Nat × Bool)) (listed:Array Bool) (a:Act) (w:World),HeadInv .any ops n listed→canonOk ops n ks listed=true→T w →
    WT r P ops Q T (fun a w=>WL r P ops Q (l.drop n) a w) ks a w→anyT r P ops Q T n (ks.length + (l.drop n).length) listed a w
  | [],listed,a,w,_,hB,_,h=>by
    simp only [List.length_nil,Nat.zero_add]
    refine WL_seq (l.drop n) n listed a w (fun j=>by subst hops;simp [List.getElem?_drop]) (Nat.le_refl _) ?_ h
    have:ops.size - n=(l.drop n).length:=by subst hops;simp
    rw [← this];exact hB
  | (i,true)::ks,listed,a,w,inv,hB,hT,⟨o,v,ho,hy,h⟩=>by
    simp only [canonOk,Bool.and_eq_true] at hB
    obtain ⟨⟨⟨h1,h2⟩,h3⟩,h4⟩:=hB
    have hin:i < n:=by simpa using h1
    have hr:i ∈ Region.ready .any ops listed:=by simpa using h2
    rw [List.length_cons,show ks.length + 1 + (l.drop n).length=(ks.length + (l.drop n).length) + 1 by omega]
    exact first_T ho hin hk hsel hdf (fun c a w hq=>hQ c _ _ w hq) _ listed a w inv (Region.free_spec ho h3) hr hy hT
      (WT_any hops hk hsel hdf hle hQ ks _ _ w (inv.set hr hin) h4 hT h)
  | (i,false)::ks,listed,a,w,inv,hB,hT,h=>by
    simp only [canonOk,Bool.and_eq_true] at hB
    obtain ⟨⟨h1,h2⟩,h4⟩:=hB
    have hin:i < n:=by simpa using h1
    have hr:Region.ready .any ops listed=[i]:=by simpa using h2
    rw [List.length_cons,show ks.length + 1 + (l.drop n).length=(ks.length + (l.drop n).length) + 1 by omega]
    refine ⟨fun h1=>(by rw [hr] at h1;cases h1),fun j hj=>?_⟩
    rw [hr] at hj
    obtain rfl:j=i:=by simpa using hj
    exact wpOpIn_mono (fun a' w' h'=>⟨fun _=>h'.1,WT_any hops hk hsel hdf hle hQ ks _ a' w' (inv.set (by rw [hr];simp) hin) h4 h'.1 h'.2⟩) h
theorem draws {id:Nat} {l:List Oper} (n:Nat) (ks:List (Nat × Bool)) (hm:P.follows .mixedOrders=true) (hck:drawOk l.toArray n ks=true) (T:World→Prop) (hT:T { w with drawn:=w.drawn + 1 })
    (hQ:∀ c a a' w,Q (.panic c) a w→Q (.panic c) a' w)
    (h:WT r P l.toArray Q T (fun a w=>WL r P l.toArray Q (l.drop n) a w) ks a { w with drawn:=w.drawn + 1 }):WP r P (Code.region id l.toArray true) Q a w:=by
  simp only [drawOk,Bool.and_eq_true,beq_iff_eq] at hck
  obtain ⟨⟨⟨⟨⟨hsel,hdf⟩,hk⟩,hle⟩,hlen⟩,hcan⟩:=hck
  have hle':n≤l.length:=by simpa using Nat.le_of_ble_eq_true hle
  refine wpIn_region_any hm (any_of_anyT (T:=T) (n:=n) _ _ _ _ ?_)
  have:=WT_any (r:=r) (P:=P) rfl hk hsel hdf hle' hQ ks _ a _ ⟨by simp,fun j oj _ hl=>(by rw [getD_replicate_false] at hl;cases hl),fun t _ ht=>getD_in (by simpa using ht) (getD_replicate_false _ _)⟩ hcan hT h
  rw [hlen,show n + (l.drop n).length=l.toArray.size by simp;omega] at this
  exact this
variable {N:Nat} {rs:List Nat} {vs:List (Nat × Value)} {K:Act→World→Prop} {ks:List (Nat × Bool)} {v:Value} {d:Nat}
theorem stepT {i:Nat} {op:Op} {ty:TypeId} {pos:String} {aft:Array Edge} (hi:ops[i]?=some ⟨some d,op,ty,pos,aft,none⟩) (hF:Frm N rs vs a)
    (hy:∀ w,T w→Yields P ⟨some d,op,ty,pos,aft,none⟩ a w v) (hd:Nat.ble (d + 1) N=true)
    (h:∀ a',Frm N rs ((d,v)::vs) a'→WT r P ops Q T K ks a' w):WT r P ops Q T K ((i,true)::ks) a w:=
  ⟨_,v,hi,.inl ⟨rfl,hy⟩,h _ (hF.put d v hd)⟩
theorem stepT_on {i j dj:Nat} {b b':Bool} {op:Op} {ty:TypeId} {pos:String} {aft:Array Edge} (hi:ops[i]?=some ⟨some d,op,ty,pos,aft,some (j,b)⟩) (hF:Frm N rs vs a)
    (hj:(ops[j]?).bind (·.dst)=some dj) (hv:look vs dj=some (.bool b')) (he:b'=b)
    (hy:∀ w,T w→Yields P ⟨some d,op,ty,pos,aft,some (j,b)⟩ a w v) (hd:Nat.ble (d + 1) N=true)
    (h:∀ a',Frm N rs ((d,v)::vs) a'→WT r P ops Q T K ks a' w):WT r P ops Q T K ((i,true)::ks) a w:=
  ⟨_,v,hi,.inl ⟨by subst he;simp only [Region.wanted,yielded,hj,Option.bind_some,hF.get _ _ hv,beq_self_eq_true],hy⟩,h _ (hF.put d v hd)⟩
theorem stepT_off {i j dj:Nat} {b b':Bool} {op:Op} {ty:TypeId} {pos:String} {aft:Array Edge} (hi:ops[i]?=some ⟨some d,op,ty,pos,aft,some (j,b)⟩) (hF:Frm N rs vs a)
    (hj:(ops[j]?).bind (·.dst)=some dj) (hv:look vs dj=some (.bool b')) (hne:b' = !b) (hd:Nat.ble (d + 1) N=true)
    (h:∀ a',Frm N rs ((d,undef)::vs) a'→WT r P ops Q T K ks a' w):WT r P ops Q T K ((i,true)::ks) a w:=
  ⟨_,undef,hi,.inr ⟨by simp only [Region.wanted,yielded,hj,Option.bind_some,hF.get _ _ hv,hne];cases b <;> rfl,rfl⟩,h _ (hF.put d undef hd)⟩
theorem oneT {i:Nat} {o:Oper} (hi:ops[i]?=some o) (h:WL r P ops (Exit.then (fun a' w'=>T w'∧WT r P ops Q T K ks a' w') Q) [o] a w):WT r P ops Q T K ((i,false)::ks) a w:=by
  simp only [WT,wpOpIn,hi]
  simp only [WL,wpListIn] at h
  split
  · rename_i hw
    rw [if_pos hw] at h
    refine ⟨fun _ _=>trivial,?_⟩
    replace h:=h.2
    generalize (o.semAt (Fw r).round a.eval).run P w=res at *
    cases res with
    | ok x w'=>cases x <;> simp only [Oper.uponIn] at h ⊢ <;> first
        | exact h
        | exact ⟨h.1,CallsIn.mono h.2 fun e w'' he=>by cases e <;> exact he⟩
        | exact ⟨h.1,RowsIn.mono h.2 fun e w'' he=>he⟩
        | exact ⟨h.1,RoundIn.mono h.2 fun e w'' he=>by cases e <;> exact he⟩
    | halt x w'=>cases x <;> simp only [Oper.uponIn] at h ⊢ <;> exact h
  · rename_i hw
    rw [if_neg hw] at h
    exact ⟨fun _ _=>trivial,h.2⟩
theorem toTail (h:K a w):WT r P ops Q T K [] a w:=h
theorem WT_split:∀ (m:Nat) (ks:List (Nat × Bool)) (a:Act) (w:World),WT r P ops Q T (fun a w=>WT r P ops Q T K (ks.drop m) a w) (ks.take m) a w→WT r P ops Q T K ks a w
  | 0,_,_,_,h=>by simpa [WT] using h
  | m + 1,[],_,_,h=>by simpa [WT] using h
  | m + 1,(_,true)::ks,_,_,h=>by
    obtain ⟨o,v,h1,h2,h3⟩:=h
    exact ⟨o,v,h1,h2,WT_split m ks _ _ h3⟩
  | m + 1,(_,false)::ks,_,_,h=>wpOpIn_mono (fun _ _ h'=>⟨h'.1,WT_split m ks _ _ h'.2⟩) h
theorem WT_mono {K':Act→World→Prop} (hK:∀ a w,K a w→K' a w):∀ (ks:List (Nat × Bool)) (a:Act) (w:World),WT r P ops Q T K ks a w→WT r P ops Q T K' ks a w
  | [],_,_,h=>hK _ _ h
  | (_,true)::ks,_,_,⟨o,v,h1,h2,h3⟩=>⟨o,v,h1,h2,WT_mono hK ks _ _ h3⟩
  | (_,false)::ks,_,_,h=>wpOpIn_mono (fun _ _ h'=>⟨h'.1,WT_mono hK ks _ _ h'.2⟩) h
theorem joinT (m:Nat) {us:List (Nat × Value)} {w0:World} {D0 D':Stab} {ms:List (Nat × LR)}
    (h1:WT r P ops Q T (fun a' w'=>Frm N rs us a'∧St w0 D0 D' ms w') (ks.take m) a w)
    (h2:∀ a' w',Frm N rs us a'→St w0 D0 D' ms w'→WT r P ops Q T K (ks.drop m) a' w'):WT r P ops Q T K ks a w:=
  WT_split m ks a w (WT_mono (fun a w h=>h2 a w h.1 h.2) _ _ _ h1)
end
end Go.Proofs.YtgdfljiliflhfaaGreatDoor.Rt
