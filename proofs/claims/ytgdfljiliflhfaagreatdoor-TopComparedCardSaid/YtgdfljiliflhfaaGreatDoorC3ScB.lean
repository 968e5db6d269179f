/- Plain laws of the scale, part 1: what a checked book keeps. Under the conditions that each names. Plain laws of the scale, part 2: the rounds end. Under the conditions that each names. -/
import Derived.Test.YtgdfljiliflhfaaGreatDoorC3LnG
set_option linter.unusedVariables false
set_option linter.unusedSimpArgs false
set_option maxRecDepth 100000
set_option maxHeartbeats 4000000
namespace Go.Proofs.YtgdfljiliflhfaaGreatDoor.Rt.Sc
open Go Go.RowKit Go.Proofs.YtgdfljiliflhfaaGreatDoor.Rt.Ln
structure Good (b:ScaleBook):Prop where
  dl:-100≤b.Rule.Drift.Low
  dh:b.Rule.Drift.Low≤b.Rule.Drift.High
  dt:b.Rule.Drift.High≤100
  t1:1≤b.Ticks
  t2:b.Ticks≤60
  sl:(b.Steer.length:Int)≤b.Ticks
  st:∀ e ∈ b.Steer,-500≤e∧e≤500
  ll:(b.Looks.length:Int)≤10
  lk:∀ e ∈ b.Looks,0≤e.Tick∧e.Tick≤b.Ticks∧-20000≤e.Off.Low∧e.Off.Low≤e.Off.High∧e.Off.High≤20000
theorem lies_eq (n a b:Int):scale_lies n a b=some (inB n a b):=rfl
end Go.Proofs.YtgdfljiliflhfaaGreatDoor.Rt.Sc
set_option linter.unusedVariables false
set_option linter.unusedSimpArgs false
set_option maxRecDepth 100000
set_option maxHeartbeats 4000000
namespace Go.Proofs.YtgdfljiliflhfaaGreatDoor.Rt.Sc
open Go Go.RowKit Go.Proofs.YtgdfljiliflhfaaGreatDoor.Rt.Ln
def at_ (l:List Span) (i:Nat):Span:=l.getD i (Span.mk 0 0)
theorem at_set (l:List Span) (i j:Nat) (s:Span) (h:i < l.length):at_ (l.set i s) j=if j=i then s else at_ l j:=by
  unfold at_
  simp only [List.getD_eq_getElem?_getD,List.getElem?_set]
  by_cases e:j=i
  · subst e;simp [h]
  · rw [if_neg (fun h=>e h.symm),if_neg e]
theorem at_zero (n i:Nat):at_ (List.replicate n (Span.mk 0 0)) i=Span.mk 0 0:=by
  unfold at_
  rw [List.getD_eq_getElem?_getD,List.getElem?_replicate]
  by_cases h:i < n
  · rw [if_pos h];rfl
  · rw [if_neg h];rfl
def Box (lo hi:Int) (l:List Span):Prop:=l.length=61∧∀ i,i < 61→-20000≤(at_ l i).Low∧(at_ l i).Low≤hi∧lo≤(at_ l i).High∧(at_ l i).High≤20000
def Nar (l l':List Span):Prop:=∀ i,(at_ l i).Low≤(at_ l' i).Low∧(at_ l' i).High≤(at_ l i).High
theorem Nar.refl (l:List Span):Nar l l:=fun i=>⟨Int.le_refl _,Int.le_refl _⟩
theorem Nar.trans {l l' l'':List Span} (h:Nar l l') (h':Nar l' l''):Nar l l'':=fun i=>⟨Int.le_trans (h i).1 (h' i).1,Int.le_trans (h' i).2 (h i).2⟩
def mu:List Span→Int
  | []=>0
  | s::l=>(s.High - s.Low) + mu l
theorem mu_lt:∀ (l l':List Span),l.length=l'.length→Nar l l'→mu l'≤mu l∧(mu l'=mu l→l=l'):=by
  intro l
  induction l with
  | nil=>
    intro l' h _
    cases l' with
    | nil=>exact ⟨Int.le_refl _,fun _=>rfl⟩
    | cons _ _=>simp at h
  | cons s l ih=>
    intro l' h hn
    cases l' with
    | nil=>simp at h
    | cons t l'=>
      have h0:=hn 0
      have hr:=ih l' (by simpa using h) (fun i=>hn (i + 1))
      simp only [at_,List.getD_cons_zero] at h0
      obtain ⟨sl,sh⟩:=s
      obtain ⟨tl,th⟩:=t
      simp only at h0
      simp only [mu]
      refine ⟨by omega,fun e=>?_⟩
      have e1:mu l'=mu l:=by omega
      have e2:sl=tl:=by omega
      have e3:sh=th:=by omega
      rw [hr.2 e1,e2,e3]
theorem mu_low (c:Int):∀ (l:List Span),(∀ i,i < l.length→-c≤(at_ l i).High - (at_ l i).Low)→-(c * (l.length:Int))≤mu l:=by
  intro l
  induction l with
  | nil=>intro _;simp [mu]
  | cons s l ih=>
    intro h
    have h0:=h 0 (by simp)
    have hr:=ih (fun i hi=>h (i + 1) (by simpa using hi))
    simp only [at_,List.getD_cons_zero] at h0
    simp only [mu,List.length_cons]
    rw [show c * ((l.length + 1:Nat):Int)=c * (l.length:Int) + c by rw [Int.natCast_add];simp [Int.mul_add]]
    omega
theorem kl27_inj {l m:List Span} (h:l.map celN_27.f=m.map celN_27.f):l=m:=by
  refine (List.map_inj_right ?_).1 h
  intro x y e
  obtain ⟨a,b⟩:=x
  obtain ⟨c,d⟩:=y
  have e':[a,b]=[c,d]:=e
  simp only [List.cons.injEq,and_true] at e'
  rw [e'.1,e'.2]
theorem both_eq (s t:Span):∃ u,scale_both s t=some u∧s.Low≤u.Low∧u.High≤s.High∧(u.Low=s.Low∨u.Low=t.Low)∧(u.High=s.High∨u.High=t.High):=by
  refine ⟨_,rfl,?_,?_,?_,?_⟩
  · show s.Low≤if t.Low > s.Low then t.Low else s.Low
    split <;> omega
  · show (if t.High < s.High then t.High else s.High)≤s.High
    split <;> omega
  · show (if t.Low > s.Low then t.Low else s.Low)=s.Low∨(if t.Low > s.Low then t.Low else s.Low)=t.Low
    split
    · exact .inr rfl
    · exact .inl rfl
  · show (if t.High < s.High then t.High else s.High)=s.High∨(if t.High < s.High then t.High else s.High)=t.High
    split
    · exact .inr rfl
    · exact .inl rfl
theorem steer_eq {b:ScaleBook} (g:Good b) (k:Int) (h0:0≤k):∃ e,scale_between_1 k b=some e∧-500≤e∧e≤500:=by
  unfold scale_between_1
  by_cases h:k < (b.Steer.length:Int)
  · rw [decide_eq_true h,cond_true,idx_int h0 h]
    exact ⟨_,rfl,g.st _ (List.getElem_mem _)⟩
  · rw [decide_eq_false h,cond_false]
    exact ⟨0,rfl,by omega,by omega⟩
def Nice (b:ScaleBook) (l:List Span):Prop:=∀ i:Nat,(i:Int)≤b.Ticks→(at_ l i).Low≤(at_ l i).High
def Past (b:ScaleBook) (l:List Span):Prop:=∀ i:Nat,i < 61→b.Ticks < (i:Int)→(at_ l i).Low≤20000∧-20000≤(at_ l i).High
def Rnd (b:ScaleBook) (l:List Span) (o:Option ((Bool × List Span × List Span × List Span) ⊕ (List Span × Bool))):Prop:=
  ∃ l' l'',l''.length=61∧Nar l l''∧(o=some (.inr (l',false))∨∃ v l7,o=some (.inl (v,l,l'',l7))∧Box (-20000) 20000 l''∧Nice b l'')
theorem b6_eq {b:ScaleBook} (g:Good b) (l3 l6 l7:List Span) (v:Bool) (hB:Box (-92000) 92000 l6) (hP:Past b l6) (hN:Nar l3 l6):
    Rnd b l3 (loopU (scale_between_b6 b l3 l6) (v,0,l7)):=by
  have g1:=g.t1
  have g2:=g.t2
  have key:∀ (d i:Nat),(i:Int) + d=b.Ticks + 1→(∀ j,j < i→(at_ l6 j).Low≤(at_ l6 j).High)→Rnd b l3 (loopU (scale_between_b6 b l3 l6) (v,(i:Int),l7)):=by
    intro d
    induction d with
    | zero=>
      intro i h hj
      refine ⟨l6,l6,hB.1,hN,.inr ⟨v,l7,loopU_ext ?_,⟨hB.1,fun i hi=>?_⟩,fun i hi=>hj i (by omega)⟩⟩
      · unfold scale_between_b6
        simp only []
        rw [wr_id' (n:=b.Ticks + 1) (by omega) (by omega),decide_eq_false (by omega)]
        rfl
      · have:=hB.2 i hi
        by_cases e:(i:Int)≤b.Ticks
        · have:=hj i (by omega)
          omega
        · have:=hP i hi (by omega)
          omega
    | succ d ih=>
      intro i h hj
      by_cases hle:(at_ l6 i).Low≤(at_ l6 i).High
      · have hst:scale_between_b6 b l3 l6 (v,(i:Int),l7)=nxt (v,((i + 1:Nat):Int),l7):=by
          unfold scale_between_b6
          simp only []
          rw [wr_id' (n:=b.Ticks + 1) (by omega) (by omega),decide_eq_true (by omega),cond_true,if_pos (by omega),if_pos (by omega),wr_succ (by omega),decide_eq_true (by exact hle)]
          rfl
        rw [loopU_nxt hst]
        refine ih (i + 1) (by omega) fun j hji=>?_
        by_cases e:j=i
        · subst e;exact hle
        · exact hj j (by omega)
      · refine ⟨l6,l6,hB.1,hN,.inl (loopU_ext ?_)⟩
        unfold scale_between_b6
        simp only []
        rw [wr_id' (n:=b.Ticks + 1) (by omega) (by omega),decide_eq_true (by omega),cond_true,if_pos (by omega),if_pos (by omega),decide_eq_false (by exact hle)]
        rfl
  exact key (b.Ticks + 1).toNat 0 (by omega) (fun j h=>by omega)
theorem b5_eq {b:ScaleBook} (g:Good b) (l3 l4 l5:List Span) (v:Bool) (hB:Box (-56000) 56000 l5) (hP:Past b l5) (hN:Nar l3 l5):
    Rnd b l3 (loopU (scale_between_b5 b v l3 l4) (wr (b.Ticks - 1),l5)):=by
  obtain ⟨g1,g2,d1,d2,d3⟩:(1≤b.Ticks)∧(b.Ticks≤60)∧(-100≤b.Rule.Drift.Low)∧(b.Rule.Drift.Low≤b.Rule.Drift.High)∧(b.Rule.Drift.High≤100):=⟨g.t1,g.t2,g.dl,g.dh,g.dt⟩
  have key:∀ (d:Nat) (l:List Span),(d:Int)≤b.Ticks→Box (-(56000 + 600 * (b.Ticks - d))) (56000 + 600 * (b.Ticks - d)) l→Past b l→Nar l3 l→Rnd b l3 (loopU (scale_between_b5 b v l3 l4) ((d:Int) - 1,l)):=by
    intro d
    induction d with
    | zero=>
      intro l h hB hP hN
      have:Rnd b l3 (loopU (scale_between_b6 b l3 l) (v,0,l4)):=b6_eq g l3 l l4 v ⟨hB.1,fun i hi=>by have:=hB.2 i hi;omega⟩ hP hN
      rw [loopU_ext (o:=loopU (scale_between_b6 b l3 l) (v,0,l4))]
      · exact this
      · unfold scale_between_b5
        simp only []
        rw [decide_eq_false (by omega)]
        rfl
    | succ d ih=>
      intro l h hB hP hN
      obtain ⟨e,he,e1,e2⟩:=steer_eq g (d:Int) (by omega)
      have hd:=hB.2 d (by omega)
      have hd1:=hB.2 (d + 1) (by omega)
      obtain ⟨u,hu,u1,u2,u3,u4⟩:=both_eq (at_ l d) (Span.mk (wr ((wr ((at_ l (d + 1)).Low - e)) - b.Rule.Drift.High)) (wr ((wr ((at_ l (d + 1)).High - e)) - b.Rule.Drift.Low)))
      have hst:scale_between_b5 b v l3 l4 (((d + 1:Nat):Int) - 1,l)=nxt ((d:Int) - 1,l.set d u):=by
        unfold scale_between_b5
        simp only []
        rw [show ((d + 1:Nat):Int) - 1=(d:Int) by omega,decide_eq_true (by omega),cond_true,he,Option.bind_some,wr_succ (by omega),if_pos (by omega),if_pos (by omega),if_pos (by omega)]
        rw [show Int.toNat ((d + 1:Nat):Int)=d + 1 from rfl,show Int.toNat (d:Int)=d from rfl]
        have:scale_both (Span.mk (at_ l d).Low (at_ l d).High) (Span.mk (wr ((wr ((at_ l (d + 1)).Low - e)) - b.Rule.Drift.High)) (wr ((wr ((at_ l (d + 1)).High - e)) - b.Rule.Drift.Low)))=some u:=hu
        unfold at_ at this
        rw [this,Option.bind_some,if_pos (by omega),wr_id' (by omega) (by omega)]
      rw [loopU_nxt hst]
      simp only [] at u3 u4
      rw [wr_id' (n:=(at_ l (d + 1)).Low - e) (by omega) (by omega),wr_id' (by omega) (by omega)] at u3
      rw [wr_id' (n:=(at_ l (d + 1)).High - e) (by omega) (by omega),wr_id' (by omega) (by omega)] at u4
      have hs:∀ j,at_ (l.set d u) j=if j=d then u else at_ l j:=fun j=>at_set l d j u (by have:=hB.1;omega)
      refine ih _ (by omega) ⟨by rw [List.length_set];exact hB.1,fun j hj=>?_⟩ (fun j hj hjt=>?_) (fun j=>?_)
      · rw [hs]
        have hjj:=hB.2 j hj
        split
        · subst_vars
          omega
        · omega
      · rw [hs,if_neg (by omega)]
        exact hP j hj hjt
      · rw [hs]
        have:=hN j
        split
        · subst_vars
          omega
        · exact this
  have:=key b.Ticks.toNat l5 (by omega) ⟨hB.1,fun i hi=>by have:=hB.2 i hi;omega⟩ hP hN
  rw [wr_id' (by omega) (by omega)]
  rw [show (b.Ticks.toNat:Int)=b.Ticks by omega] at this
  exact this
theorem b4_eq {b:ScaleBook} (g:Good b) (l3 l4:List Span) (v:Bool) (hB:Box (-20000) 20000 l3) (hP:Past b l3):
    Rnd b l3 (loopU (scale_between_b4 b v l3 l4) (0,l3)):=by
  obtain ⟨g1,g2,d1,d2,d3⟩:(1≤b.Ticks)∧(b.Ticks≤60)∧(-100≤b.Rule.Drift.Low)∧(b.Rule.Drift.Low≤b.Rule.Drift.High)∧(b.Rule.Drift.High≤100):=⟨g.t1,g.t2,g.dl,g.dh,g.dt⟩
  have key:∀ (d i:Nat) (l:List Span),(i:Int) + d=b.Ticks→Box (-(20000 + 600 * (i:Int))) (20000 + 600 * (i:Int)) l→Past b l→Nar l3 l→Rnd b l3 (loopU (scale_between_b4 b v l3 l4) ((i:Int),l)):=by
    intro d
    induction d with
    | zero=>
      intro i l h hB hP hN
      have:=b5_eq g l3 l4 l v ⟨hB.1,fun i hi=>by have:=hB.2 i hi;omega⟩ hP hN
      rw [loopU_ext (o:=loopU (scale_between_b5 b v l3 l4) (wr (b.Ticks - 1),l))]
      · exact this
      · unfold scale_between_b4
        simp only []
        rw [decide_eq_false (by omega)]
        rfl
    | succ d ih=>
      intro i l h hB hP hN
      obtain ⟨e,he,e1,e2⟩:=steer_eq g (i:Int) (by omega)
      have hd:=hB.2 i (by omega)
      have hd1:=hB.2 (i + 1) (by omega)
      obtain ⟨u,hu,u1,u2,u3,u4⟩:=both_eq (at_ l (i + 1)) (Span.mk (wr ((wr ((at_ l i).Low + e)) + b.Rule.Drift.Low)) (wr ((wr ((at_ l i).High + e)) + b.Rule.Drift.High)))
      have hst:scale_between_b4 b v l3 l4 ((i:Int),l)=nxt (((i + 1:Nat):Int),l.set (i + 1) u):=by
        unfold scale_between_b4
        simp only []
        rw [decide_eq_true (by omega),cond_true,he,Option.bind_some,wr_succ (by omega),if_pos (by omega),if_pos (by omega),if_pos (by omega)]
        rw [show Int.toNat ((i + 1:Nat):Int)=i + 1 from rfl,show Int.toNat (i:Int)=i from rfl]
        have:scale_both (Span.mk (at_ l (i + 1)).Low (at_ l (i + 1)).High) (Span.mk (wr ((wr ((at_ l i).Low + e)) + b.Rule.Drift.Low)) (wr ((wr ((at_ l i).High + e)) + b.Rule.Drift.High)))=some u:=hu
        unfold at_ at this
        rw [this,Option.bind_some,if_pos (by omega)]
      rw [loopU_nxt hst]
      simp only [] at u3 u4
      rw [wr_id' (n:=(at_ l i).Low + e) (by omega) (by omega),wr_id' (by omega) (by omega)] at u3
      rw [wr_id' (n:=(at_ l i).High + e) (by omega) (by omega),wr_id' (by omega) (by omega)] at u4
      have hs:∀ j,at_ (l.set (i + 1) u) j=if j=i + 1 then u else at_ l j:=fun j=>at_set l (i + 1) j u (by have:=hB.1;omega)
      refine ih (i + 1) _ (by omega) ⟨by rw [List.length_set];exact hB.1,fun j hj=>?_⟩ (fun j hj hjt=>?_) (fun j=>?_)
      · rw [hs]
        have hjj:=hB.2 j hj
        split
        · subst_vars
          omega
        · omega
      · rw [hs,if_neg (by omega)]
        exact hP j hj hjt
      · rw [hs]
        have:=hN j
        split
        · subst_vars
          omega
        · exact this
  exact key b.Ticks.toNat 0 l3 (by omega) ⟨hB.1,fun i hi=>by have:=hB.2 i hi;omega⟩ hP (Nar.refl _)
def Fin (b:ScaleBook) (o:Option (List Span × Bool)):Prop:=∃ l r,o=some (l,r)∧(r=true→Box (-20000) 20000 l∧Nice b l)
theorem b3_eq {b:ScaleBook} (g:Good b):∀ (n:Nat) (v:Bool) (l2 l3 l4:List Span),mu l3 + 2440000 < n→Box (-20000) 20000 l3→(l2=List.replicate 61 (Span.mk 0 0)∨Nice b l3) →
    Fin b (loopU (scale_between_b3 b) (v,l2,l3,l4)):=by
  intro n
  induction n with
  | zero=>
    intro v l2 l3 l4 hm hB _
    have:=mu_low 40000 l3 (fun i hi=>by have:=hB.2 i (by rw [← hB.1];exact hi);omega)
    rw [hB.1] at this
    omega
  | succ n ih=>
    intro v l2 l3 l4 hm hB hN
    have hfin:∀ (v:Bool) (l2 l3 l4:List Span),l3=l2→Box (-20000) 20000 l3→(l2=List.replicate 61 (Span.mk 0 0)∨Nice b l3)→Fin b (loopU (scale_between_b3 b) (v,l2,l3,l4)):=by
      intro v l2 l3 l4 e hB hN
      refine ⟨l3,true,loopU_ext ?_,fun _=>⟨hB,?_⟩⟩
      · unfold scale_between_b3
        simp only []
        rw [e,beq_self_eq_true]
        rfl
      · rcases hN with h | h
        · intro i _
          rw [e,h,at_zero]
          exact Int.le_refl _
        · exact h
    by_cases e:l3=l2
    · exact hfin v l2 l3 l4 e hB hN
    · have hne:(l3.map celN_27.f == l2.map celN_27.f)=false:=by
        rw [beq_eq_false_iff_ne]
        exact fun h=>e (kl27_inj h)
      have hbody:scale_between_b3 b (v,l2,l3,l4)=loopU (scale_between_b4 b v l3 l4) (0,l3):=by
        unfold scale_between_b3
        simp only []
        rw [hne]
        rfl
      obtain ⟨l',l'',hlen,hnar,h⟩:=b4_eq g l3 l4 v hB (fun i hi _=>by have:=hB.2 i hi;omega)
      rcases h with h | ⟨v',l7,h,hB',hN'⟩
      · exact ⟨l',false,loopU_inr (by rw [hbody,h]),fun h=>by cases h⟩
      · rw [loopU_inl (by rw [hbody,h])]
        by_cases e':l''=l3
        · exact hfin v' l3 l'' l7 e' hB' (.inr hN')
        · obtain ⟨m1,m2⟩:=mu_lt l3 l'' (by rw [hlen,hB.1]) hnar
          have:mu l'' ≠ mu l3:=fun h=>e' (m2 h).symm
          exact ih v' l3 l'' l7 (by omega) hB' (.inr hN')
theorem b2_eq {b:ScaleBook} (g:Good b) (l:List Span) (hB:Box (-20000) 20000 l):Fin b (loopU (scale_between_b2 b) (0,l)):=by
  have gt:=g.t2
  have gl:=g.ll
  have key:∀ (d i:Nat) (l:List Span),i + d=b.Looks.length→Box (-20000) 20000 l→Fin b (loopU (scale_between_b2 b) ((i:Int),l)):=by
    intro d
    induction d with
    | zero=>
      intro i l h hB
      rw [loopU_ext (o:=loopU (scale_between_b3 b) (false,(List.replicate 61 (Span.mk 0 0)),l,(List.replicate 61 (Span.mk 0 0))))]
      · exact b3_eq g (mu l + 2440000 + 1).toNat _ _ _ _ (by omega) hB (.inl rfl)
      · have e:i=b.Looks.length:=by omega
        subst e
        unfold scale_between_b2
        simp only [lt_f,cond_false]
    | succ d ih=>
      intro i l h hB
      have hi:i < b.Looks.length:=by omega
      obtain ⟨t0,t1,o1,o2,o3⟩:=g.lk b.Looks[i] (List.getElem_mem hi)
      obtain ⟨k,hk⟩:∃ k:Nat,b.Looks[i].Tick=(k:Int):=⟨b.Looks[i].Tick.toNat,by omega⟩
      obtain ⟨u,hu,u1,u2,u3,u4⟩:=both_eq (at_ l k) b.Looks[i].Off
      have hst:scale_between_b2 b ((i:Int),l)=nxt (((i + 1:Nat):Int),l.set k u):=by
        unfold scale_between_b2
        simp only [lt_t hi,cond_true,idx_get hi,Option.bind_some,hk]
        rw [if_pos (by omega),show Int.toNat (k:Int)=k from rfl]
        have:scale_both (Span.mk (at_ l k).Low (at_ l k).High) b.Looks[i].Off=some u:=hu
        unfold at_ at this
        rw [this,Option.bind_some,if_pos (by omega),wr_succ (by omega)]
      rw [loopU_nxt hst]
      refine ih (i + 1) _ (by omega) ⟨by rw [List.length_set];exact hB.1,fun j hj=>?_⟩
      have hkk:=hB.2 k (by omega)
      have hjj:=hB.2 j hj
      rw [at_set l k j u (by have:=hB.1;omega)]
      split <;> omega
  exact key b.Looks.length 0 l (by omega) hB
theorem between_eq {b:ScaleBook} (g:Good b):Fin b (scale_between b):=by
  unfold scale_between
  have key:∀ (d i:Nat) (l:List Span),i + d=61→l.length=61→(∀ j,j < i→at_ l j=Span.mk (-20000) 20000)→Fin b (loopU (scale_between_b1 b) ((i:Int),l)):=by
    intro d
    induction d with
    | zero=>
      intro i l h hl hj
      rw [loopU_ext (o:=loopU (scale_between_b2 b) (0,l))]
      · refine b2_eq g l ⟨hl,fun j hjl=>?_⟩
        rw [hj j (by omega)]
        simp
      · have e:i=61:=by omega
        subst e
        rfl
    | succ d ih=>
      intro i l h hl hj
      have hst:scale_between_b1 b ((i:Int),l)=nxt (((i + 1:Nat):Int),l.set i (Span.mk (-20000) 20000)):=by
        unfold scale_between_b1
        simp only []
        rw [decide_eq_true (by omega),cond_true,if_pos (by omega),wr_succ (by omega)]
        rfl
      rw [loopU_nxt hst]
      refine ih (i + 1) _ (by omega) (by rw [List.length_set];exact hl) fun j hji=>?_
      rw [at_set l i j _ (by omega)]
      by_cases e:j=i
      · rw [if_pos e]
      · rw [if_neg e];exact hj j (by omega)
  exact key 61 0 _ (by omega) (by simp) (fun j h=>by omega)
end Go.Proofs.YtgdfljiliflhfaaGreatDoor.Rt.Sc
