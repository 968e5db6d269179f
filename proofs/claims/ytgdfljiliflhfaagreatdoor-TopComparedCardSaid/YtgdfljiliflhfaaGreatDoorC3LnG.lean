/- Plain laws of the line seat, part 1: numbers, loops, lists, sets of numbers. Under the conditions that each names. Plain laws of the line seat, part 2: the checks of a net. Under the conditions that each names. Plain laws of the line seat, part 3: the ways of a net, as the reference lists them. Under the conditions that each names. Plain laws of the line seat, part 4: the ways of a net, as the program finds them. Under the conditions that each names. Plain laws of the line seat, part 5: delays of a way. Under the conditions that each names. Plain laws of the line seat, part 6: sets as numbers, ways by their lines, routes. Under the conditions that each names. Plain laws of the line seat, part 7: what both sides answer. Under the conditions that each names. -/
import Derived.Test.YtgdfljiliflhfaaGreatDoorC3WT1
import Derived.Test.YtgdfljiliflhfaaGreatDoorC3O0
set_option linter.unusedVariables false
set_option linter.unusedSimpArgs false
set_option maxRecDepth 100000
set_option maxHeartbeats 4000000
namespace Go.Proofs.YtgdfljiliflhfaaGreatDoor.Rt.Ln
open Go Go.RowKit
section
variable {K:Type} {kl:K→List Int}
theorem mget_mput {V:Type} (hinj:∀ a b,kl a=kl b→a=b) (m:List (K × V)) (k k':K) (v:V):mget kl (mput kl m k v) k'=(open Classical in if k'=k then some v else mget kl m k'):=by
  classical
  induction m with
  | nil=>
    simp only [mput,mget]
    by_cases h:k'=k
    · subst h;simp
    · rw [if_neg h]
      have:(kl k' == kl k)=false:=by rw [beq_eq_false_iff_ne];exact fun e=>h (hinj _ _ e)
      rw [this];rfl
  | cons p m ih=>
    simp only [mput]
    cases hb:(kl k == kl p.1) with
    | true=>
      have e:k=p.1:=hinj _ _ (by simpa using hb)
      simp only [cond_true,mget]
      by_cases h:k'=k
      · subst h;rw [if_pos rfl];simp
      · rw [if_neg h]
        have h1:(kl k' == kl k)=false:=by rw [beq_eq_false_iff_ne];exact fun e=>h (hinj _ _ e)
        rw [h1,cond_false,← e,h1,cond_false]
    | false=>
      simp only [cond_false,mget]
      rw [ih]
      by_cases h:k'=k
      · subst h
        rw [if_pos rfl,hb,cond_false,if_pos rfl]
      · rw [if_neg h,if_neg h]
end
def inB (n a b:Int):Bool:=decide (a≤n) && decide (n≤b)
theorem Lies_eq (n a b:Int):r0Lies n a b=some (inB n a b):=rfl
theorem inB_iff {n a b:Int}:inB n a b=true ↔ a≤n∧n≤b:=by simp [inB]
theorem lt_t {i n:Nat} (h:i < n):decide ((i:Int) < (n:Int))=true:=by simp;omega
theorem lt_f (n:Nat):decide ((n:Int) < (n:Int))=false:=by simp
theorem loop_and {α ρ:Type} (xs:List α) (f:α→Bool) (fin:Bool→Option ρ) (body:(Bool × Int)→Option ((Bool × Int) ⊕ ρ))
    (hstep:∀ (i:Nat) (h:i < xs.length) (b:Bool),body (b,(i:Int))=nxt (b && f xs[i],((i + 1:Nat):Int)))
    (hend:∀ b,body (b,(xs.length:Int))=ext (fin b)) (b:Bool):loopU body (b,0)=fin (b && xs.all f):=by
  have key:∀ (k i:Nat) (b:Bool),i + k=xs.length→loopU body (b,(i:Int))=fin (b && (xs.drop i).all f):=by
    intro k
    induction k with
    | zero=>
      intro i b h
      have e:i=xs.length:=by omega
      subst e
      rw [List.drop_length]
      simpa using loopU_ext (hend b)
    | succ k ih=>
      intro i b h
      have hi:i < xs.length:=by omega
      have e:(xs.drop i).all f=(f xs[i] && (xs.drop (i + 1)).all f):=by rw [← List.getElem_cons_drop hi];rfl
      rw [loopU_nxt (hstep i hi b),ih (i + 1) _ (by omega),e,Bool.and_assoc]
  simpa using key xs.length 0 b (by omega)
theorem cond_b_some (b x:Bool):(cond b (some x) (some false))=some (b && x):=by cases b <;> rfl
theorem wr_succ {i:Nat} (h:(i:Int)≤9223372036854775806):wr ((i:Int) + 1)=((i + 1:Nat):Int):=wr_id' (by omega) (by omega)
theorem beqI (a b:Int):(a == b)=decide (a=b):=by
  by_cases h:a=b
  · subst h;simp
  · rw [decide_eq_false h,beq_eq_false_iff_ne];exact h
theorem bneI (a b:Int):(a != b)=decide (a ≠ b):=by rw [bne,beqI];simp
theorem First_eq (l m:List Int) (hl:(l.length:Int)≤9223372036854775806):∃ k:Nat,r0First l m=some (k:Int)∧k≤l.length∧k≤m.length∧(∀ i,i < k→l[i]?=m[i]?)∧(k < l.length→k < m.length→l[k]? ≠ m[k]?):=by
  unfold r0First
  have key:∀ (d i:Nat),i + d=l.length→i≤m.length→(∀ j,j < i→l[j]?=m[j]?)→∃ k:Nat,loopU (r0First_b1 l m) (i:Int)=some (k:Int)∧k≤l.length∧k≤m.length∧(∀ i,i < k→l[i]?=m[i]?)∧(k < l.length→k < m.length→l[k]? ≠ m[k]?):=by
    intro d
    induction d with
    | zero=>
      intro i h hm hj
      have e:i=l.length:=by omega
      subst e
      refine ⟨l.length,loopU_ext ?_,Nat.le_refl _,hm,hj,fun h=>by omega⟩
      unfold r0First_b1
      dsimp only
      rw [lt_f];rfl
    | succ d ih=>
      intro i h hm hj
      have hi:i < l.length:=by omega
      by_cases hi2:i < m.length
      · have hb:r0First_b1 l m (i:Int)=cond (l[i] == m[i]) (nxt ((i + 1:Nat):Int)) (ext (some (i:Int))):=by
          unfold r0First_b1
          dsimp only
          rw [lt_t hi,lt_t hi2,idx_get hi,idx_get hi2]
          show (cond (l[i] == m[i]) _ _)=_
          rw [wr_succ (by omega)]
        cases hc:(l[i] == m[i]) with
        | true=>
          rw [hc] at hb
          rw [loopU_nxt hb]
          refine ih (i + 1) (by omega) (by omega) fun j hj2=>?_
          by_cases e:j=i
          · subst e;rw [List.getElem?_eq_getElem hi,List.getElem?_eq_getElem hi2,show l[j]=m[j] by simpa using hc]
          · exact hj j (by omega)
        | false=>
          rw [hc] at hb
          refine ⟨i,loopU_ext hb,by omega,by omega,hj,fun _ _=>?_⟩
          rw [List.getElem?_eq_getElem hi,List.getElem?_eq_getElem hi2]
          simp at hc ⊢;exact hc
      · refine ⟨i,loopU_ext ?_,by omega,hm,hj,fun _ h=>absurd h hi2⟩
        unfold r0First_b1
        dsimp only
        have e:i=m.length:=by omega
        subst e
        rw [lt_t hi,lt_f];rfl
  exact key l.length 0 (by omega) (Nat.zero_le _) fun j h=>by omega
theorem Alike_eq (l m:List Int) (hl:(l.length:Int)≤9223372036854775806):r0Alike l m=some (decide (l=m)):=by
  unfold r0Alike
  by_cases hlen:l.length=m.length
  · have:((l.length:Int) == (m.length:Int))=true:=by simp [hlen]
    rw [this,cond_true]
    obtain ⟨k,hk,h1,h2,h3,h4⟩:=First_eq l m hl
    rw [hk,bind_s,bind_s,beqI]
    congr 1
    rw [Bool.eq_iff_iff,decide_eq_true_eq,decide_eq_true_eq]
    constructor
    · intro h
      have e:k=l.length:=by omega
      subst e
      refine List.ext_getElem? fun i=>?_
      by_cases hi:i < l.length
      · exact h3 i hi
      · rw [List.getElem?_eq_none (by omega),List.getElem?_eq_none (by omega)]
    · rintro rfl
      by_cases e:k < l.length
      · exact absurd rfl (h4 e e)
      · omega
  · have:((l.length:Int) == (m.length:Int))=false:=by simp;omega
    rw [this,cond_false,bind_s]
    rw [decide_eq_false]
    rintro rfl
    exact hlen rfl
def lexB:List Int→List Int→Bool
  | x::xs,y::ys=>decide (x < y) || (decide (x=y) && lexB xs ys)
  | _,_=>false
theorem lex_trans:∀ {xs ys zs:List Int},lexB xs ys=true→lexB ys zs=true→lexB xs zs=true
  | x::xs,y::ys,z::zs,h1,h2=>by
    simp only [lexB,Bool.or_eq_true,Bool.and_eq_true,decide_eq_true_eq] at h1 h2 ⊢
    rcases h1 with h1 | ⟨rfl,h1⟩
    · rcases h2 with h2 | ⟨rfl,h2⟩
      · left;omega
      · left;exact h1
    · rcases h2 with h2 | ⟨rfl,h2⟩
      · left;exact h2
      · right;exact ⟨rfl,lex_trans h1 h2⟩
  | [],_,_,h1,_=>by simp [lexB] at h1
  | _::_,[],_,h1,_=>by simp [lexB] at h1
  | _::_,_::_,[],_,h2=>by simp [lexB] at h2
def leS (S T:List Int):Prop:=S.length < T.length∨(S.length=T.length∧(S=T∨lexB S T=true))
theorem leS.trans {S T U:List Int} (h1:leS S T) (h2:leS T U):leS S U:=by
  rcases h1 with h1 | ⟨e1,h1⟩
  · rcases h2 with h2 | ⟨e2,_⟩
    · left;omega
    · left;omega
  · rcases h2 with h2 | ⟨e2,h2⟩
    · left;omega
    · right
      refine ⟨by omega,?_⟩
      rcases h1 with rfl | h1
      · exact h2
      · rcases h2 with rfl | h2
        · exact .inr h1
        · exact .inr (lex_trans h1 h2)
theorem dec_or:∀ t < 1024,∀ k < 10,bitsOp .or ((t:Nat):Int) (gshl 1 ((k:Nat):Int))=((t ||| 2 ^ k:Nat):Int):=by decide +kernel
end Go.Proofs.YtgdfljiliflhfaaGreatDoor.Rt.Ln
set_option linter.unusedVariables false
set_option linter.unusedSimpArgs false
set_option maxRecDepth 100000
set_option maxHeartbeats 4000000
namespace Go.Proofs.YtgdfljiliflhfaaGreatDoor.Rt.Ln
open Go Go.RowKit
theorem lies_eq (n a b:Int):line_lies n a b=some (inB n a b):=rfl
def spanB (s:Span) (most:Int):Bool:=(decide (0≤s.Low) && decide (s.Low≤s.High)) && decide (s.High≤most)
theorem isSpan_eq (s:Span) (m:Int):line_isSpan s m=some (spanB s m):=rfl
def lineW (hi:Int) (x:LineLine):Bool:=inB x.From 0 hi && inB x.To 0 hi && decide (x.From ≠ x.To) && spanB x.Delay 1000
def loopW (hi:Int) (x:LineLoop):Bool:=inB x.Exchange 0 hi && spanB x.Read 12000
def sizesB (n:LineNet):Bool:=inB n.Exchanges 1 7 && decide ((n.Lines.length:Int)≤12) && inB n.Hops 1 6 && decide ((n.Loops.length:Int)≤10)
def goodB (n:LineNet):Bool:=sizesB n && n.Lines.all (lineW (n.Exchanges - 1)) && n.Loops.all (loopW (n.Exchanges - 1))
theorem goodW (n:LineNet):(sizesB n && n.Lines.all (lineW (wr (n.Exchanges - 1))) && n.Loops.all (loopW (wr (n.Exchanges - 1))))=goodB n:=by
  unfold goodB
  cases h:sizesB n with
  | false=>rfl
  | true=>
    simp only [sizesB,Bool.and_eq_true,inB_iff,decide_eq_true_eq] at h
    rw [wr_id' (n:=n.Exchanges - 1) (by omega) (by omega)]
theorem Ok_net {n:LineNet} (h:Ok_LineNet n):(n.Lines.length:Int)≤9223372036854775807∧(n.Loops.length:Int)≤9223372036854775807:=⟨h.2.1.1,h.2.2.2.1⟩
theorem neB (a b:Int):(a != b)=decide (a ≠ b):=bneI a b
theorem line_Check_eq (n:LineNet) (h:Ok_LineNet n):line_Check n=some (if goodB n then 0 else 60):=by
  obtain ⟨hs,he⟩:=Ok_net h
  have b2:∀ b,loopU (line_Check_b2 n) (b,0)=some (if b && n.Loops.all (loopW (wr (n.Exchanges - 1))) then 0 else 60):=by
    intro b
    refine loop_and n.Loops (loopW (wr (n.Exchanges - 1))) (fun b=>some (if b then 0 else 60)) _ (fun i hi b=>?_) (fun b=>?_) b
    · unfold line_Check_b2
      simp only [lt_t hi,cond_true,idx_get hi,bind_s,lies_eq,isSpan_eq,cond_b_some,wr_succ (i:=i) (by omega)]
      unfold loopW
      rw [Bool.and_assoc]
    · unfold line_Check_b2
      simp only [lt_f,cond_false]
      cases b <;> rfl
  have b1:∀ b,loopU (line_Check_b1 n) (b,0)=some (if b && n.Lines.all (lineW (wr (n.Exchanges - 1))) && n.Loops.all (loopW (wr (n.Exchanges - 1))) then 0 else 60):=by
    intro b
    refine loop_and n.Lines (lineW (wr (n.Exchanges - 1))) (fun b=>some (if b && n.Loops.all (loopW (wr (n.Exchanges - 1))) then 0 else 60)) _ (fun i hi b=>?_) (fun b=>?_) b
    · unfold line_Check_b1
      simp only [lt_t hi,cond_true,idx_get hi,bind_s,lies_eq,isSpan_eq,cond_b_some,wr_succ (i:=i) (by omega),neB]
      unfold lineW
      simp only [Bool.and_assoc]
    · unfold line_Check_b1
      simp only [lt_f,cond_false]
      rw [b2]
  unfold line_Check
  simp only [lies_eq,bind_s,cond_b_some]
  rw [b1,← goodW]
  unfold sizesB
  simp only [Bool.and_assoc]
structure OkS (n:LineNet):Prop where
  e1:1≤n.Exchanges
  e2:n.Exchanges≤7
  nl:n.Lines.length≤12
  h1:1≤n.Hops
  h2:n.Hops≤6
  no:n.Loops.length≤10
  l:∀ x ∈ n.Lines,lineW (n.Exchanges - 1) x=true
  o:∀ x ∈ n.Loops,loopW (n.Exchanges - 1) x=true
theorem OkS.of {n:LineNet} (h:goodB n=true):OkS n:=by
  simp only [goodB,sizesB,Bool.and_eq_true,inB_iff,decide_eq_true_eq,List.all_eq_true] at h
  obtain ⟨⟨⟨⟨⟨⟨a,b⟩,c⟩,d⟩,e⟩,f⟩,g⟩:=h
  exact ⟨a,b,by omega,by omega,by omega,by omega,f,g⟩
structure OkL1 (E:Int) (x:LineLine):Prop where
  f1:0≤x.From
  f2:x.From < E
  t1:0≤x.To
  t2:x.To < E
  ne:x.From ≠ x.To
  d1:0≤x.Delay.Low
  d2:x.Delay.Low≤x.Delay.High
  d3:x.Delay.High≤1000
theorem OkL1.of {E:Int} {x:LineLine} (h:lineW (E - 1) x=true):OkL1 E x:=by
  simp only [lineW,spanB,Bool.and_eq_true,inB_iff,decide_eq_true_eq] at h
  obtain ⟨⟨⟨⟨a,b⟩,c,d⟩,e⟩,⟨f,g⟩,i⟩:=h
  exact ⟨a,by omega,c,by omega,e,f,g,i⟩
theorem OkL1.is {E:Int} {x:LineLine} (h:OkL1 E x):lineW (E - 1) x=true:=by
  simp only [lineW,spanB,Bool.and_eq_true,inB_iff,decide_eq_true_eq]
  have:=h.f1;have:=h.f2;have:=h.t1;have:=h.t2
  exact ⟨⟨⟨⟨by omega,by omega⟩,by omega,by omega⟩,h.ne⟩,⟨h.d1,h.d2⟩,h.d3⟩
structure OkO1 (E:Int) (x:LineLoop):Prop where
  e1:0≤x.Exchange
  e2:x.Exchange < E
  r1:0≤x.Read.Low
  r2:x.Read.Low≤x.Read.High
  r3:x.Read.High≤12000
theorem OkO1.of {E:Int} {x:LineLoop} (h:loopW (E - 1) x=true):OkO1 E x:=by
  simp only [loopW,spanB,Bool.and_eq_true,inB_iff,decide_eq_true_eq] at h
  obtain ⟨⟨a,b⟩,⟨f,g⟩,i⟩:=h
  exact ⟨a,by omega,f,g,i⟩
theorem OkO1.is {E:Int} {x:LineLoop} (h:OkO1 E x):loopW (E - 1) x=true:=by
  simp only [loopW,spanB,Bool.and_eq_true,inB_iff,decide_eq_true_eq]
  have:=h.e1;have:=h.e2
  exact ⟨⟨by omega,by omega⟩,⟨h.r1,h.r2⟩,h.r3⟩
theorem OkS.at {n:LineNet} (h:OkS n) {i:Nat} (hi:i < n.Lines.length):OkL1 n.Exchanges n.Lines[i]:=OkL1.of (h.l _ (List.getElem_mem hi))
theorem OkS.lo {n:LineNet} (h:OkS n) {i:Nat} (hi:i < n.Loops.length):OkO1 n.Exchanges n.Loops[i]:=OkO1.of (h.o _ (List.getElem_mem hi))
end Go.Proofs.YtgdfljiliflhfaaGreatDoor.Rt.Ln
set_option linter.unusedVariables false
set_option linter.unusedSimpArgs false
set_option maxRecDepth 100000
set_option maxHeartbeats 4000000
namespace Go.Proofs.YtgdfljiliflhfaaGreatDoor.Rt.Ln
open Go Go.RowKit
theorem loopU_none {σ ρ:Type} {body:σ→Option (σ ⊕ ρ)} {s:σ} (h:body s=none):loopU body s=none:=by rw [loopU_eq,h]
theorem flatM_len {α β:Type} (l:List α) (f:α→List β) (B:Nat) (h:∀ x ∈ l,(f x).length≤B):(l.flatMap f).length≤l.length * B:=by
  induction l with
  | nil=>simp
  | cons a l ih=>
    rw [List.flatMap_cons,List.length_append,List.length_cons,Nat.add_mul,Nat.one_mul]
    have h1:=h a (by simp)
    have h2:=ih fun x hx=>h x (by simp [hx])
    omega
theorem loop_cat {α ρ:Type} {body:(List α × Int)→Option ((List α × Int) ⊕ ρ)} {fin:List α→Option ρ} (R:Nat→List α) (L B:Nat) (bad:Prop)
    (hstep:∀ (i:Nat) (out:List α),i < L→out.length≤i * B→body (out,(i:Int))=nxt (out ++ R i,((i + 1:Nat):Int))∨(body (out,(i:Int))=none∧bad))
    (hend:∀ out,body (out,(L:Int))=ext (fin out)) (hR:∀ i,i < L→(R i).length≤B):
    ∀ (k i:Nat) (out:List α),i + k=L→out.length≤i * B→loopU body (out,(i:Int))=fin (out ++ (List.range' i k).flatMap R)∨(loopU body (out,(i:Int))=none∧bad)
  | 0,i,out,h,hl=>by
    obtain rfl:i=L:=by omega
    left
    rw [loopU_ext (hend out)];simp
  | k + 1,i,out,h,hl=>by
    rcases hstep i out (by omega) hl with h1 | ⟨h1,hb⟩
    · have hr:=hR i (by omega)
      have:=loop_cat R L B bad hstep hend hR k (i + 1) (out ++ R i) (by omega) (by rw [List.length_append,Nat.add_mul,Nat.one_mul];omega)
      rw [loopU_nxt h1]
      rw [List.range'_succ,List.flatMap_cons,← List.append_assoc]
      exact this
    · exact .inr ⟨loopU_none h1,hb⟩
theorem loop_cat0 {α ρ:Type} {body:(List α × Int)→Option ((List α × Int) ⊕ ρ)} {fin:List α→Option ρ} (R:Nat→List α) (L B:Nat)
    (hstep:∀ (i:Nat) (out:List α),i < L→out.length≤i * B→body (out,(i:Int))=nxt (out ++ R i,((i + 1:Nat):Int)))
    (hend:∀ out,body (out,(L:Int))=ext (fin out)) (hR:∀ i,i < L→(R i).length≤B):loopU body (([]:List α),0)=fin ((List.range L).flatMap R):=by
  rcases loop_cat R L B False (fun i out h1 h2=>.inl (hstep i out h1 h2)) hend hR L 0 [] (by omega) (by simp) with h | ⟨_,h⟩
  · rw [List.range_eq_range'];simpa using h
  · exact h.elim
def othL (at_:Int) (x:LineLine):Option Int:=if x.From=at_ then some x.To else if x.To=at_ then some x.From else none
def oth (n:LineNet) (at_:Int) (i:Nat):Option Int:=(n.Lines[i]?).bind (othL at_)
def waysS (n:LineNet):Nat→Int→List Int→List (List Int × Int)
  | 0,at_,_=>[([],at_)]
  | m + 1,at_,V=>(List.range n.Lines.length).flatMap fun i=>match oth n at_ i with
    | none=>[]
    | some t=>if t ∈ V then [] else (waysS n m t (t::V)).map fun q=>((i:Int)::q.1,q.2)
def stepW (n:LineNet) (m:Nat) (at_:Int) (V:List Int) (i:Nat):List (List Int × Int):=match oth n at_ i with
    | none=>[]
    | some t=>if t ∈ V then [] else (waysS n m t (t::V)).map fun q=>((i:Int)::q.1,q.2)
theorem waysS_succ (n:LineNet) (m:Nat) (at_:Int) (V:List Int):waysS n (m + 1) at_ V=(List.range n.Lines.length).flatMap (stepW n m at_ V):=rfl
theorem ways_len {n:LineNet} (hS:OkS n):∀ (m:Nat) (at_:Int) (V:List Int),(waysS n m at_ V).length≤12 ^ m
  | 0,_,_=>Nat.le_refl _
  | m + 1,at_,V=>by
    rw [waysS_succ]
    have h:=flatM_len (List.range n.Lines.length) (stepW n m at_ V) (12 ^ m) fun i _=>by
      unfold stepW
      split
      · simp
      · split
        · simp
        · rw [List.length_map];exact ways_len hS m _ _
    rw [List.length_range] at h
    have:=hS.nl
    calc _≤_:=h
      _≤12 * 12 ^ m:=Nat.mul_le_mul_right _ this
      _=12 ^ (m + 1):=by rw [Nat.pow_succ,Nat.mul_comm]
def toF (n:LineNet) (to:Int) (m:Nat) (at_:Int) (V:List Int) (begun:List Int):List (List Int):=((waysS n m at_ V).filter fun q=>decide (q.2=to)).map fun q=>begun ++ q.1
def stepF (n:LineNet) (to:Int) (m:Nat) (at_:Int) (V:List Int) (begun:List Int) (i:Nat):List (List Int):=((stepW n m at_ V i).filter fun q=>decide (q.2=to)).map fun q=>begun ++ q.1
theorem toF_succ (n:LineNet) (to:Int) (m:Nat) (at_:Int) (V:List Int) (begun:List Int):toF n to (m + 1) at_ V begun=(List.range n.Lines.length).flatMap (stepF n to m at_ V begun):=by
  unfold toF stepF
  rw [waysS_succ,List.filter_flatMap,List.map_flatMap]
theorem stepF_eq (n:LineNet) (to:Int) (m:Nat) (at_:Int) (V:List Int) (begun:List Int) (i:Nat):stepF n to m at_ V begun i=match oth n at_ i with
    | none=>[]
    | some t=>if t ∈ V then [] else toF n to m t (t::V) (begun ++ [(i:Int)]):=by
  unfold stepF stepW toF
  split
  · rfl
  · split
    · rfl
    · rw [List.filter_map,List.map_map]
      simp [Function.comp_def]
structure Bits (t:Nat) (V:List Int):Prop where
  lt:t < 128
  is:∀ k:Nat,k < 7→t.testBit k=decide ((k:Int) ∈ V)
theorem Bits.add {t:Nat} {V:List Int} (h:Bits t V) {k:Nat} (hk:k < 7):bitsOp .or (t:Int) (gshl 1 (k:Int))=((t ||| 2 ^ k:Nat):Int)∧Bits (t ||| 2 ^ k) ((k:Int)::V):=by
  refine ⟨dec_or t (by have:=h.lt;omega) k (by omega),Nat.or_lt_two_pow (n:=7) h.lt (Nat.pow_lt_pow_right (by decide) hk),fun j hj=>?_⟩
  rw [Nat.testBit_or,h.is j hj,Nat.testBit_two_pow]
  rw [Bool.eq_iff_iff]
  simp only [Bool.or_eq_true,decide_eq_true_eq,List.mem_cons]
  constructor
  · rintro (h | h)
    · exact .inr h
    · exact .inl (by omega)
  · rintro (h | h)
    · exact .inr (by omega)
    · exact .inl h
theorem Bits.start:Bits 1 [0]:=⟨by decide,fun k hk=>by
  rw [show (1:Nat)=2 ^ 0 from rfl,Nat.testBit_two_pow,Bool.eq_iff_iff]
  simp only [decide_eq_true_eq,List.mem_singleton]
  omega⟩
theorem oth_nat {n:LineNet} (hS:OkS n) {at_:Int} {i:Nat} {t:Int} (h:oth n at_ i=some t):∃ k:Nat,t=(k:Int)∧(k:Int) < n.Exchanges∧k < 7:=by
  unfold oth at h
  rcases hx:n.Lines[i]? with _ | x
  · rw [hx] at h;cases h
  · rw [hx] at h
    obtain ⟨hi,rfl⟩:=List.getElem?_eq_some_iff.1 hx
    have hl:=hS.at hi
    have:=hl.f1;have:=hl.f2;have:=hl.t1;have:=hl.t2;have:=hS.e2
    simp only [Option.bind_some,othL] at h
    split at h
    · injection h with h;exact ⟨t.toNat,by omega,by omega,by omega⟩
    · split at h
      · injection h with h;exact ⟨t.toNat,by omega,by omega,by omega⟩
      · cases h
end Go.Proofs.YtgdfljiliflhfaaGreatDoor.Rt.Ln
set_option linter.unusedVariables false
set_option linter.unusedSimpArgs false
set_option maxRecDepth 100000
set_option maxHeartbeats 4000000
namespace Go.Proofs.YtgdfljiliflhfaaGreatDoor.Rt.Ln
open Go Go.RowKit
abbrev Mp:=List (line_kind × List (List Int))
def keyW (e:Int) (k:Nat):line_kind:=⟨e,(k:Int)⟩
def insM (mp:Mp) (p:Int × List Int):Mp:=mput kl_154 mp (keyW p.1 p.2.length) (((mget kl_154 mp (keyW p.1 p.2.length)).getD []) ++ [p.2])
def dfsS (n:LineNet):Nat→Int→List Int→List Int→List (Int × List Int)
  | 0,at_,way,_=>[(at_,way)]
  | m + 1,at_,way,V=>(at_,way)::(List.range n.Lines.length).flatMap fun i=>match oth n at_ i with
    | none=>[]
    | some t=>if t ∈ V then [] else dfsS n m t (way ++ [(i:Int)]) (t::V)
def stepD (n:LineNet) (m:Nat) (at_:Int) (way:List Int) (V:List Int) (i:Nat):List (Int × List Int):=match oth n at_ i with
    | none=>[]
    | some t=>if t ∈ V then [] else dfsS n m t (way ++ [(i:Int)]) (t::V)
theorem dfsS_succ (n:LineNet) (m:Nat) (at_:Int) (way V:List Int):dfsS n (m + 1) at_ way V=(at_,way)::(List.range n.Lines.length).flatMap (stepD n m at_ way V):=rfl
theorem dfs_len {n:LineNet} (hS:OkS n):∀ (m:Nat) (at_:Int) (way V:List Int),(dfsS n m at_ way V).length≤13 ^ m
  | 0,_,_,_=>Nat.le_refl _
  | m + 1,at_,way,V=>by
    rw [dfsS_succ,List.length_cons]
    have h:=flatM_len (List.range n.Lines.length) (stepD n m at_ way V) (13 ^ m) fun i _=>by
      unfold stepD
      split
      · simp
      · split
        · simp
        · exact dfs_len hS m _ _ _
    rw [List.length_range] at h
    have:=hS.nl
    have h2:n.Lines.length * 13 ^ m≤12 * 13 ^ m:=Nat.mul_le_mul_right _ this
    have h3:0 < 13 ^ m:=Nat.pow_pos (by decide)
    rw [Nat.pow_succ]
    omega
theorem stepD_len {n:LineNet} (hS:OkS n) (m:Nat) (at_:Int) (way V:List Int) (i:Nat):(stepD n m at_ way V i).length≤13 ^ m:=by
  unfold stepD
  split
  · exact Nat.zero_le _
  · split
    · exact Nat.zero_le _
    · exact dfs_len hS m _ _ _
theorem inj_115:∀ a b,kl_154 a=kl_154 b→a=b:=by
  rintro ⟨a1,a2⟩ ⟨b1,b2⟩ h
  simp only [kl_154,List.cons.injEq,and_true] at h
  obtain ⟨rfl,rfl⟩:=h
  rfl
theorem mget_ins (mp:Mp) (p:Int × List Int) (key:line_kind):(mget kl_154 (insM mp p) key).getD []=(mget kl_154 mp key).getD [] ++ (open Classical in if key=keyW p.1 p.2.length then [p.2] else []):=by
  unfold insM
  rw [mget_mput inj_115]
  by_cases h:key=keyW p.1 p.2.length
  · rw [if_pos h,if_pos h,h];rfl
  · rw [if_neg h,if_neg h,List.append_nil]
def Big (mp:Mp) (b:Nat):Prop:=∀ key,((mget kl_154 mp key).getD []).length≤b
theorem Big.ins {mp:Mp} {b:Nat} (h:Big mp b) (p:Int × List Int):Big (insM mp p) (b + 1):=by
  intro key
  rw [mget_ins,List.length_append]
  have:=h key
  split
  · simp only [List.length_singleton];omega
  · simp only [List.length_nil];omega
theorem Big.fold:∀ (l:List (Int × List Int)) {mp:Mp} {b:Nat},Big mp b→Big (l.foldl insM mp) (b + l.length)
  | [],mp,b,h=>by simpa using h
  | p::l,mp,b,h=>by
    have:=Big.fold l (h.ins p)
    rw [List.length_cons,show b + (l.length + 1)=b + 1 + l.length by omega]
    exact this
theorem Big.mono {mp:Mp} {b c:Nat} (h:Big mp b) (hbc:b≤c):Big mp c:=fun k=>Nat.le_trans (h k) hbc
theorem mget_fold:∀ (l:List (Int × List Int)) (mp:Mp) (e:Int) (k:Nat),(mget kl_154 (l.foldl insM mp) (keyW e k)).getD []=(mget kl_154 mp (keyW e k)).getD [] ++ (l.filter fun p=>decide (p.1=e) && decide (p.2.length=k)).map (·.2)
  | [],mp,e,k=>by simp
  | p::l,mp,e,k=>by
    rw [List.foldl_cons,mget_fold l,mget_ins,List.append_assoc]
    congr 1
    have hk:keyW e k=keyW p.1 p.2.length ↔ p.1=e∧p.2.length=k:=by
      unfold keyW
      simp only [line_kind.mk.injEq]
      constructor
      · rintro ⟨h1,h2⟩;exact ⟨h1.symm,by omega⟩
      · rintro ⟨h1,h2⟩;exact ⟨h1.symm,by omega⟩
    by_cases h:p.1=e∧p.2.length=k
    · rw [if_pos (hk.2 h),List.filter_cons_of_pos (by simp [h.1,h.2]),List.map_cons];rfl
    · rw [if_neg (fun g=>h (hk.1 g)),List.filter_cons_of_neg (by simpa using h),List.nil_append]
theorem dfs_kind {n:LineNet} (e:Int):∀ (m j:Nat) (at_:Int) (way V:List Int),((dfsS n m at_ way V).filter fun p=>decide (p.1=e) && decide (p.2.length=way.length + j)).map (·.2)=if j≤m then toF n e j at_ V way else []
  | 0,0,at_,way,V=>by
    by_cases h:at_=e <;> simp [dfsS,toF,waysS,h]
  | 0,j + 1,at_,way,V=>by
    simp [dfsS]
  | m + 1,0,at_,way,V=>by
    rw [dfsS_succ,if_pos (Nat.zero_le _)]
    have h0:((List.range n.Lines.length).flatMap (stepD n m at_ way V)).filter (fun p=>decide (p.1=e) && decide (p.2.length=way.length + 0))=[]:=by
      rw [List.filter_eq_nil_iff]
      intro p hp
      have:way.length < p.2.length:=by
        have key:∀ (m:Nat) (at_:Int) (way V:List Int) (p:Int × List Int),p ∈ dfsS n m at_ way V→way.length≤p.2.length:=by
          intro m
          induction m with
          | zero=>intro at_ way V p hp;simp only [dfsS,List.mem_singleton] at hp;subst hp;exact Nat.le_refl _
          | succ m ih=>
            intro at_ way V p hp
            rw [dfsS_succ,List.mem_cons] at hp
            rcases hp with rfl | hp
            · exact Nat.le_refl _
            · rw [List.mem_flatMap] at hp
              obtain ⟨i,_,hp⟩:=hp
              unfold stepD at hp
              split at hp
              · cases hp
              · split at hp
                · cases hp
                · have:=ih _ _ _ _ hp
                  rw [List.length_append] at this;omega
        rw [List.mem_flatMap] at hp
        obtain ⟨i,_,hp⟩:=hp
        unfold stepD at hp
        split at hp
        · cases hp
        · split at hp
          · cases hp
          · have:=key _ _ _ _ _ hp
            rw [List.length_append,List.length_singleton] at this;omega
      simp;omega
    rw [List.filter_cons,h0]
    by_cases h:at_=e
    · simp [h,toF,waysS]
    · simp [h,toF,waysS]
  | m + 1,j + 1,at_,way,V=>by
    rw [dfsS_succ,List.filter_cons_of_neg (by simp),List.filter_flatMap,List.map_flatMap]
    have hstep:∀ i,((stepD n m at_ way V i).filter fun p=>decide (p.1=e) && decide (p.2.length=way.length + (j + 1))).map (·.2)=if j≤m then stepF n e j at_ V way i else []:=by
      intro i
      rw [stepF_eq]
      unfold stepD
      rcases ho:oth n at_ i with _ | t
      · dsimp only;split <;> rfl
      · dsimp only
        by_cases ht:t ∈ V
        · rw [if_pos ht,if_pos ht];split <;> rfl
        · rw [if_neg ht,if_neg ht]
          have:=dfs_kind (n:=n) e m j t (way ++ [(i:Int)]) (t::V)
          rw [List.length_append,List.length_singleton,show way.length + 1 + j=way.length + (j + 1) by omega] at this
          exact this
    rw [toF_succ]
    by_cases h:j≤m
    · rw [if_pos (by omega)]
      congr 1
      funext i
      rw [hstep,if_pos h]
    · rw [if_neg (by omega),List.flatMap_eq_nil_iff]
      intro i _
      rw [hstep,if_neg h]
theorem tabE {n:line_net} {k:Nat} (hk:k < n.LineNet.Lines.length):tabf_1 0 n (k:Int)=some n.LineNet.Lines[k].From∧tabf_1 1 n (k:Int)=some n.LineNet.Lines[k].To:=by
  unfold tabf_1 line_net_begin line_net_end
  rw [if_pos rfl,if_neg (by decide),if_pos rfl,idx_get hk]
  exact ⟨rfl,rfl⟩
theorem leave_line {σ:Type} {cv:line_net} (hS:OkS cv.LineNet) (at_:Int) (y:(Int × Int)→σ→Option σ) {k:Nat} (hk:k < cv.LineNet.Lines.length) (s:σ):
    loopU (line_net_leave_1_b2 cv at_ y (k:Int)) (0,s)=match oth cv.LineNet at_ k with
      | none=>nxt (((k + 1:Nat):Int),s)
      | some t=>(y ((k:Int),t) s).bind fun s'=>nxt (((k + 1:Nat):Int),s'):=by
  have hL:=hS.at hk
  have hn:=hS.nl
  have ho:oth cv.LineNet at_ k=othL at_ cv.LineNet.Lines[k]:=by unfold oth;rw [List.getElem?_eq_getElem hk];rfl
  rw [ho]
  have hend:∀ s,loopU (line_net_leave_1_b2 cv at_ y (k:Int)) (2,s)=nxt (((k + 1:Nat):Int),s):=fun s=>by
    refine loopU_ext ?_
    unfold line_net_leave_1_b2
    dsimp only
    rw [show decide ((2:Int) < 2)=false by decide,cond_false,wr_succ (by omega)]
  have h1:∀ s,loopU (line_net_leave_1_b2 cv at_ y (k:Int)) (1,s)=if cv.LineNet.Lines[k].To=at_ then (y ((k:Int),cv.LineNet.Lines[k].From) s).bind fun s'=>nxt (((k + 1:Nat):Int),s') else nxt (((k + 1:Nat):Int),s):=fun s=>by
    have e:line_net_leave_1_b2 cv at_ y (k:Int) (1,s)=if cv.LineNet.Lines[k].To=at_ then (y ((k:Int),cv.LineNet.Lines[k].From) s).bind fun s'=>nxt (2,s') else nxt (2,s):=by
      unfold line_net_leave_1_b2
      dsimp only
      rw [show decide ((1:Int) < 2)=true by decide,cond_true,if_pos (by decide),(tabE hk).2,bind_s,beqI,show wr (1 + 1)=2 by decide +kernel,show wr (1 - 1)=0 by decide +kernel]
      by_cases h:cv.LineNet.Lines[k].To=at_
      · rw [decide_eq_true h,if_pos h,cond_true,if_pos (by decide),(tabE hk).1,bind_s]
      · rw [decide_eq_false h,if_neg h,cond_false]
    by_cases h:cv.LineNet.Lines[k].To=at_
    · rw [if_pos h] at e ⊢
      cases hy:y ((k:Int),cv.LineNet.Lines[k].From) s with
      | none=>rw [hy] at e;exact loopU_none e
      | some s'=>rw [hy] at e;rw [loopU_nxt e,hend];rfl
    · rw [if_neg h] at e ⊢
      rw [loopU_nxt e,hend]
  have e:line_net_leave_1_b2 cv at_ y (k:Int) (0,s)=if cv.LineNet.Lines[k].From=at_ then (y ((k:Int),cv.LineNet.Lines[k].To) s).bind fun s'=>nxt (1,s') else nxt (1,s):=by
    unfold line_net_leave_1_b2
    dsimp only
    rw [show decide ((0:Int) < 2)=true by decide,cond_true,if_pos (by decide),(tabE hk).1,bind_s,beqI,show wr (0 + 1)=1 by decide +kernel,show wr (1 - 0)=1 by decide +kernel]
    by_cases h:cv.LineNet.Lines[k].From=at_
    · rw [decide_eq_true h,if_pos h,cond_true,if_pos (by decide),(tabE hk).2,bind_s]
    · rw [decide_eq_false h,if_neg h,cond_false]
  unfold othL
  by_cases h:cv.LineNet.Lines[k].From=at_
  · rw [if_pos h] at e ⊢
    have hne:¬ cv.LineNet.Lines[k].To=at_:=fun h2=>hL.ne (h.trans h2.symm)
    show _=(y ((k:Int),cv.LineNet.Lines[k].To) s).bind fun s'=>nxt (((k + 1:Nat):Int),s')
    cases hy:y ((k:Int),cv.LineNet.Lines[k].To) s with
    | none=>rw [hy] at e;rw [loopU_none e];rfl
    | some s'=>rw [hy] at e;rw [loopU_nxt e,h1,if_neg hne];rfl
  · rw [if_neg h] at e ⊢
    rw [loopU_nxt e,h1]
    by_cases h2:cv.LineNet.Lines[k].To=at_
    · rw [if_pos h2,if_pos h2]
    · rw [if_neg h2,if_neg h2]
theorem leave_run {σ:Type} {cv:line_net} (hS:OkS cv.LineNet) (at_:Int) (y:(Int × Int)→σ→Option σ) (F:Nat→σ→σ) (bad:Prop) (I:Nat→σ→Prop)
    (hstep:∀ i s,i < cv.LineNet.Lines.length→I i s→(match oth cv.LineNet at_ i with | none=>F i s=s | some t=>y ((i:Int),t) s=some (F i s)∨(y ((i:Int),t) s=none∧bad))∧I (i + 1) (F i s)):
    ∀ (k i:Nat) (s:σ),i + k=cv.LineNet.Lines.length→I i s→loopU (line_net_leave_1_b1 cv at_ y) ((i:Int),s)=some ((List.range' i k).foldl (fun s i=>F i s) s)∨(loopU (line_net_leave_1_b1 cv at_ y) ((i:Int),s)=none∧bad)
  | 0,i,s,h,_=>by
    left
    refine loopU_ext ?_
    unfold line_net_leave_1_b1
    dsimp only
    obtain rfl:i=cv.LineNet.Lines.length:=by omega
    rw [lt_f,cond_false];rfl
  | k + 1,i,s,h,hI=>by
    have hi:i < cv.LineNet.Lines.length:=by omega
    obtain ⟨h1,h2⟩:=hstep i s hi hI
    have e:line_net_leave_1_b1 cv at_ y ((i:Int),s)=loopU (line_net_leave_1_b2 cv at_ y (i:Int)) (0,s):=by
      unfold line_net_leave_1_b1
      dsimp only
      rw [lt_t hi,cond_true]
    rw [leave_line hS at_ y hi s] at e
    have rec_:=leave_run hS at_ y F bad I hstep k (i + 1) (F i s) (by omega) h2
    rw [List.range'_succ,List.foldl_cons]
    rcases ho:oth cv.LineNet at_ i with _ | t
    · rw [ho] at e h1
      simp only at e h1
      rw [loopU_nxt e]
      rw [h1] at rec_ ⊢
      exact rec_
    · rw [ho] at e h1
      simp only at e h1
      rcases h1 with h1 | ⟨h1,hb⟩
      · rw [h1,bind_s] at e
        rw [loopU_nxt e]
        exact rec_
      · rw [h1] at e
        exact .inr ⟨loopU_none e,hb⟩
structure MetL (met:List Bool) (V:List Int):Prop where
  len:met.length=7
  is:∀ k:Nat,k < 7→met.getD k false=decide ((k:Int) ∈ V)
theorem MetL.add {met:List Bool} {V:List Int} (h:MetL met V) {a:Nat} (ha:a < 7):MetL (met.set a true) ((a:Int)::V):=by
  refine ⟨by rw [List.length_set];exact h.len,fun k hk=>?_⟩
  rw [List.getD_eq_getElem?_getD,List.getElem?_set]
  by_cases e:a=k
  · subst e
    rw [if_pos rfl,if_pos (by rw [h.len];exact ha)]
    simp
  · rw [if_neg e,← List.getD_eq_getElem?_getD,h.is k hk,Bool.eq_iff_iff]
    simp only [decide_eq_true_eq,List.mem_cons]
    constructor
    · exact .inr
    · rintro (h | h)
      · omega
      · exact h
theorem rep7:∀ k < 7,(List.replicate 7 false).getD k false=false:=by decide
theorem MetL.start:MetL (List.replicate 7 false) []:=⟨by simp,fun k hk=>by rw [rep7 k hk];simp⟩
theorem MetL.some {met:List Bool} {V:List Int} (h:MetL met V) {k:Nat} (hk:k < 7) (hv:(k:Int) ∈ V):(met == List.replicate 7 false)=false:=by
  rw [beq_eq_false_iff_ne]
  rintro rfl
  have:=h.is k hk
  rw [decide_eq_true hv,rep7 k hk] at this
  cases this
theorem opened_n {n:LineNet} (hS:OkS n) (left:Int):∀ (N m a:Nat) (way V:List Int) (met:List Bool) (mp:Mp) (b:Nat),way.length + m=n.Hops.toNat→a < 7→MetL met V→(a=0∨∃ k:Nat,k < 7∧(k:Int) ∈ V)→Big mp b→b + 13 ^ m≤lim →
    line_opened_1_n N (a:Int) way met ⟨n,mp,left⟩ n=some ((dfsS n m (a:Int) way ((a:Int)::V)).foldl insM mp)∨(line_opened_1_n N (a:Int) way met ⟨n,mp,left⟩ n=none∧N≤m)
  | 0,m,_,_,_,_,_,_,_,_,_,_,_,_=>.inr ⟨rfl,Nat.zero_le _⟩
  | N + 1,m,a,way,V,met,mp,b,hw,ha,hM,ha0,hB,hb=>by
    have h2:=hS.h1;have h3:=hS.h2
    have c1:((met == List.replicate 7 false) && ((a:Int) != 0))=false:=by
      rcases ha0 with rfl | ⟨k,hk,hv⟩
      · rw [show (((0:Nat):Int) != 0)=false from rfl,Bool.and_false]
      · rw [hM.some hk hv,Bool.false_and]
    have hp:0 < 13 ^ m:=Nat.pow_pos (by decide)
    have hkey:(line_kind.mk (a:Int) (way.length:Int))=keyW (a:Int) way.length:=rfl
    have e:line_opened_1_n (N + 1) (a:Int) way met ⟨n,mp,left⟩ n=cond ((way.length:Int) == n.Hops) (some (insM mp ((a:Int),way)))
        ((line_net_leave ⟨n,insM mp ((a:Int),way),left⟩ (a:Int)).bind fun rv=>(line_net_leave_1 (line_opened_1_y1 (a:Int) way met ⟨n,mp,left⟩ n (line_opened_1_n N)) rv.1 rv.2 (insM mp ((a:Int),way))).bind fun so=>some so):=by
      show line_opened_1_step _ _ _ _ _ _=_
      unfold line_opened_1_step
      rw [c1,cond_false,if_pos (by omega)]
      simp only
      rw [hkey,if_pos (by have:=hB (keyW (a:Int) way.length);simp only [List.length_singleton];omega)]
      rfl
    rw [e]
    rw [beqI]
    cases m with
    | zero=>
      left
      rw [decide_eq_true (show (way.length:Int)=n.Hops by omega),cond_true]
      rfl
    | succ m=>
      rw [decide_eq_false (show ¬ (way.length:Int)=n.Hops by omega),cond_false]
      unfold line_net_leave
      rw [bind_s]
      unfold line_net_leave_1
      simp only
      rw [dfsS_succ,List.foldl_cons]
      generalize hmp0:insM mp ((a:Int),way)=mp0
      have hB0:Big mp0 (b + 1):=by rw [← hmp0];exact hB.ins _
      have hpow:(13:Nat) ^ (m + 1)=13 ^ m * 13:=Nat.pow_succ _ _
      have hL:=hS.nl
      have:=leave_run (cv:=⟨n,mp0,left⟩) hS (a:Int) (line_opened_1_y1 (a:Int) way met ⟨n,mp,left⟩ n (line_opened_1_n N)) (fun i s=>(stepD n m (a:Int) way ((a:Int)::V) i).foldl insM s) (N≤m)
        (fun i s=>Big s (b + 1 + i * 13 ^ m)) (fun i s hi hI=>by
          have hi:i < n.Lines.length:=hi
          refine ⟨?_,(hI.fold _).mono (by have:=stepD_len hS m (a:Int) way ((a:Int)::V) i;rw [Nat.add_mul,Nat.one_mul];omega)⟩
          show (match oth n (a:Int) i with | none=>_ | some t=>_)
          rcases ho:oth n (a:Int) i with _ | t
          · simp only
            unfold stepD
            rw [ho];rfl
          · simp only
            obtain ⟨k,rfl,hk1,hk2⟩:=oth_nat hS ho
            unfold line_opened_1_y1 stepD
            rw [ho]
            simp only
            have hM':=hM.add ha
            rw [if_pos (by omega),Int.toNat_natCast,Int.toNat_natCast,hM'.is k hk2]
            by_cases hV:(k:Int) ∈ (a:Int)::V
            · rw [decide_eq_true hV,cond_true,if_pos hV]
              exact .inl rfl
            · rw [decide_eq_false hV,cond_false,if_neg hV,if_pos (by simp only [List.length_singleton];unfold lim;omega)]
              have h1:i * 13 ^ m≤11 * 13 ^ m:=Nat.mul_le_mul_right _ (by omega)
              rcases opened_n hS left N m k (way ++ [(i:Int)]) ((a:Int)::V) (met.set a true) s (b + 1 + i * 13 ^ m) (by simp;omega) hk2 hM' (.inr ⟨a,ha,by simp⟩) hI (by omega) with h | ⟨h,hN⟩
              · left;rw [h];rfl
              · right;rw [h];exact ⟨rfl,hN⟩) n.Lines.length 0 mp0 (by show 0 + n.Lines.length=n.Lines.length;omega) (hB0.mono (by omega))
      have hfold:∀ (l:List Nat) (s:Mp),l.foldl (fun s i=>(stepD n m (a:Int) way ((a:Int)::V) i).foldl insM s) s=(l.flatMap (stepD n m (a:Int) way ((a:Int)::V))).foldl insM s:=by
        intro l
        induction l with
        | nil=>intro s;rfl
        | cons x l ih=>intro s;rw [List.foldl_cons,ih,List.flatMap_cons,List.foldl_append]
      rw [hfold,← List.range_eq_range'] at this
      rcases this with h | ⟨h,hN⟩
      · left
        have h:loopU (line_net_leave_1_b1 ⟨n,mp0,left⟩ (a:Int) (line_opened_1_y1 (a:Int) way met ⟨n,mp,left⟩ n (line_opened_1_n N))) (0,mp0)=_:=h
        rw [h];rfl
      · right
        have h:loopU (line_net_leave_1_b1 ⟨n,mp0,left⟩ (a:Int) (line_opened_1_y1 (a:Int) way met ⟨n,mp,left⟩ n (line_opened_1_n N))) (0,mp0)=_:=h
        rw [h];exact ⟨rfl,by omega⟩
def waysM (n:LineNet):Mp:=(dfsS n n.Hops.toNat 0 [] [0]).foldl insM []
theorem opened_eq {n:LineNet} (hS:OkS n) (left:Int):line_opened n left=some ⟨n,waysM n,left⟩:=by
  have h1:=hS.h1;have h2:=hS.h2
  have hp:(13:Nat) ^ n.Hops.toNat≤13 ^ 6:=Nat.pow_le_pow_right (by decide) (by omega)
  have hpv:(13:Nat) ^ 6=4826809:=by decide
  have h:=fun N=>opened_n hS left N n.Hops.toNat 0 [] [] (List.replicate 7 false) [] 0 (by simp) (by decide) MetL.start (.inl rfl) (fun key=>by simp [mget]) (by unfold lim;omega)
  have hm:line_opened_1 0 ([]:List Int) (List.replicate 7 false) ⟨n,[],left⟩ n=some (waysM n):=by
    unfold line_opened_1
    refine limU_of (n:=n.Hops.toNat + 1) ?_ ?_
    · rcases h (n.Hops.toNat + 1) with h | ⟨_,h⟩
      · exact h
      · omega
    · intro N s hs
      have hs:line_opened_1_n N ((0:Nat):Int) [] (List.replicate 7 false) ⟨n,[],left⟩ n=some s:=hs
      rcases h N with h1 | ⟨h1,_⟩
      · rw [h1] at hs;injection hs with hs;exact hs.symm
      · rw [h1] at hs;cases hs
  unfold line_opened
  rw [hm];rfl
def WK (n:LineNet) (e:Int) (k:Nat):List (List Int):=if k≤n.Hops.toNat then toF n e k 0 [0] [] else []
theorem waysM_get (n:LineNet) (e:Int) (k:Nat):(mget kl_154 (waysM n) ⟨e,(k:Int)⟩).getD []=WK n e k:=by
  have h:=mget_fold (dfsS n n.Hops.toNat 0 [] [0]) [] e k
  have h2:=dfs_kind (n:=n) e n.Hops.toNat k 0 [] [0]
  simp only [List.length_nil,Nat.zero_add] at h2
  rw [h2,show (mget kl_154 ([]:Mp) (keyW e k)).getD []=[] from rfl,List.nil_append] at h
  exact h
end Go.Proofs.YtgdfljiliflhfaaGreatDoor.Rt.Ln
set_option linter.unusedVariables false
set_option linter.unusedSimpArgs false
set_option maxRecDepth 100000
set_option maxHeartbeats 4000000
namespace Go.Proofs.YtgdfljiliflhfaaGreatDoor.Rt.Ln
open Go Go.RowKit
theorem range_flat {α β:Type} (g:β→List α):∀ (xs:List β),(List.range xs.length).flatMap (fun i=>match xs[i]? with | some x=>g x | none=>[])=xs.flatMap g:=by
  intro xs
  have key:∀ (ys xs:List β),(List.range' xs.length ys.length).flatMap (fun i=>match (xs ++ ys)[i]? with | some x=>g x | none=>[])=ys.flatMap g:=by
    intro ys
    induction ys with
    | nil=>intro xs;simp
    | cons y ys ih=>
      intro xs
      rw [List.length_cons,List.range'_succ,List.flatMap_cons,List.flatMap_cons]
      have:=ih (xs ++ [y])
      rw [List.length_append,List.length_singleton,List.append_assoc,List.singleton_append] at this
      rw [this]
      simp
  have:=key xs []
  rw [List.nil_append,List.length_nil,← List.range_eq_range'] at this
  exact this
theorem loop_list {α β ρ:Type} {body:(List α × Int)→Option ((List α × Int) ⊕ ρ)} {fin:List α→Option ρ} (xs:List β) (g:β→List α) (B:Nat)
    (hstep:∀ (i:Nat) (out:List α) (hi:i < xs.length),out.length≤i * B→body (out,(i:Int))=nxt (out ++ g xs[i],((i + 1:Nat):Int)))
    (hend:∀ out,body (out,(xs.length:Int))=ext (fin out)) (hg:∀ x ∈ xs,(g x).length≤B):loopU body (([]:List α),0)=fin (xs.flatMap g):=by
  rw [loop_cat0 (fun i=>match xs[i]? with | some x=>g x | none=>[]) xs.length B (fun i out hi ho=>?_) hend (fun i hi=>?_),range_flat]
  · rw [hstep i out hi ho,List.getElem?_eq_getElem hi]
  · rw [List.getElem?_eq_getElem hi]
    exact hg _ (List.getElem_mem hi)
theorem flat_one {α β:Type} (f:β→α) (xs:List β):xs.flatMap (fun x=>[f x])=xs.map f:=by
  induction xs with
  | nil=>rfl
  | cons x xs ih=>rw [List.flatMap_cons,ih];rfl
theorem flat_filter {α:Type} (p:α→Bool) (xs:List α):xs.flatMap (fun x=>if p x then [x] else [])=xs.filter p:=by
  induction xs with
  | nil=>rfl
  | cons x xs ih=>
    rw [List.flatMap_cons,ih,List.filter_cons]
    cases p x <;> rfl
theorem tdiv_nn {a:Int} (h:0≤a):Int.tdiv a 2=a / 2:=Int.tdiv_eq_ediv_of_nonneg h
theorem dec_in0:∀ t < 1024,∀ k < 10,(bitsOp .and (gshr ((t:Nat):Int) ((k:Nat):Int)) 1 == 0) = !t.testBit k:=by decide +kernel
def delayAt (n:LineNet) (e:Int):Span:=((n.Lines[e.toNat]?).map (·.Delay)).getD ⟨0,0⟩
def lowF (n:LineNet) (way:List Int):Int:=(way.map fun e=>(delayAt n e).Low).sum
def highF (n:LineNet) (way:List Int):Int:=(way.map fun e=>(delayAt n e).High).sum
structure WOk (n:LineNet) (way:List Int):Prop where
  len:way.length≤6
  is:∀ e ∈ way,∃ k:Nat,e=(k:Int)∧k < n.Lines.length
theorem WOk.at {n:LineNet} {way:List Int} (h:WOk n way) {i:Nat} (hi:i < way.length):∃ k:Nat,way[i]=(k:Int)∧∃ hk:k < n.Lines.length,delayAt n way[i]=n.Lines[k].Delay:=by
  obtain ⟨k,e,hk⟩:=h.is _ (List.getElem_mem hi)
  exact ⟨k,e,hk,by unfold delayAt;rw [e,Int.toNat_natCast,List.getElem?_eq_getElem hk];rfl⟩
theorem delayAt_bd {n:LineNet} (hS:OkS n) (e:Int):0≤(delayAt n e).Low∧(delayAt n e).Low≤(delayAt n e).High∧(delayAt n e).High≤1000:=by
  unfold delayAt
  rcases h:n.Lines[e.toNat]? with _ | x
  · exact ⟨by decide,by decide,by decide⟩
  · obtain ⟨hi,rfl⟩:=List.getElem?_eq_some_iff.1 h
    have:=hS.at hi
    exact ⟨this.d1,this.d2,this.d3⟩
theorem sum_bd {l:List Int} (h:∀ x ∈ l,0≤x∧x≤1000):0≤l.sum∧l.sum≤1000 * l.length:=by
  induction l with
  | nil=>simp
  | cons x l ih=>
    have h1:=h x (by simp)
    have h2:=ih fun y hy=>h y (by simp [hy])
    rw [List.sum_cons,List.length_cons]
    omega
theorem low_bd {n:LineNet} (hS:OkS n) (way:List Int):0≤lowF n way∧lowF n way≤1000 * way.length:=by
  have:=sum_bd (l:=way.map fun e=>(delayAt n e).Low) (fun x hx=>by
    obtain ⟨e,_,rfl⟩:=List.mem_map.1 hx
    have:=delayAt_bd hS e
    omega)
  rw [List.length_map] at this
  exact this
theorem high_bd {n:LineNet} (hS:OkS n) (way:List Int):0≤highF n way∧highF n way≤1000 * way.length:=by
  have:=sum_bd (l:=way.map fun e=>(delayAt n e).High) (fun x hx=>by
    obtain ⟨e,_,rfl⟩:=List.mem_map.1 hx
    have:=delayAt_bd hS e
    omega)
  rw [List.length_map] at this
  exact this
theorem sum_take_succ (l:List Int) {i:Nat} (hi:i < l.length):(l.take (i + 1)).sum=(l.take i).sum + l[i]:=by
  rw [List.take_succ_eq_append_getElem hi,List.sum_append];simp
theorem sum_eq {l:List Int} (h:∀ x ∈ l,0≤x∧x≤1000) (hl:l.length≤1000):line_sum_int_ l=some l.sum:=by
  unfold line_sum_int_
  refine loopU_for (fun i (s:Int × Int)=>s=((l.take i).sum,(i:Int))) l.length (Post:=fun o=>o=some l.sum) (by simp) ?_ ?_
  · rintro i _ hi rfl
    refine ⟨_,?_,rfl⟩
    unfold line_sum_int__b1
    dsimp only
    have h1:=sum_bd (l:=l.take i) fun x hx=>h x (List.mem_of_mem_take hx)
    have h2:=h _ (List.getElem_mem hi)
    rw [List.length_take] at h1
    rw [lt_t hi,cond_true,idx_get hi,bind_s,wr_succ (by omega),wr_id' (by omega) (by omega),sum_take_succ l hi]
  · rintro _ rfl
    refine ⟨_,?_,rfl⟩
    unfold line_sum_int__b1
    dsimp only
    rw [lt_f,cond_false,List.take_length]
theorem all_eq {nt:line_net} (hS:OkS nt.LineNet) {way:List Int} (hw:WOk nt.LineNet way) (f:Span→Int) (side:line_side) (hf:∀ s,side.of_ s=some (f s)) (hb:∀ e,0≤f (delayAt nt.LineNet e)∧f (delayAt nt.LineNet e)≤1000):
    line_net_all nt way side=some (way.map fun e=>f (delayAt nt.LineNet e)).sum:=by
  unfold line_net_all
  have hl:=hw.len
  rw [loop_list (fin:=fun l=>(line_sum_int_ l).bind fun rv=>some rv) way (fun e=>[f (delayAt nt.LineNet e)]) 1 (fun i out hi ho=>?_) (fun out=>?_) (fun _ _=>Nat.le_refl _),flat_one,sum_eq,bind_s]
  · intro x hx
    obtain ⟨e,_,rfl⟩:=List.mem_map.1 hx
    exact hb e
  · rw [List.length_map];omega
  · unfold line_net_all_b1
    dsimp only
    obtain ⟨k,e,hk,hd⟩:=hw.at hi
    rw [lt_t hi,cond_true,idx_get hi,bind_s,hd,e,idx_get hk,bind_s,hf,bind_s,if_pos (by simp only [List.length_singleton];unfold lim;omega),wr_succ (by omega)]
  · unfold line_net_all_b1
    dsimp only
    rw [lt_f,cond_false]
def loL (x:LineLoop):Int:=(x.Read.Low + 1) / 2
def hiL (x:LineLoop):Int:=x.Read.High / 2
def lpF (n:LineNet) (e:Int) (t:Nat):Nat→Int × Int→Int × Int
  | 0,s=>s
  | i + 1,s=>match n.Loops[i]? with
    | none=>lpF n e t i s
    | some x=>if t.testBit i=false∧x.Exchange=e then (if loL x > (lpF n e t i s).1 then loL x else (lpF n e t i s).1,if hiL x < (lpF n e t i s).2 then hiL x else (lpF n e t i s).2) else lpF n e t i s
def spF (n:LineNet) (e:Int) (t:Nat) (way:List Int):Span:=⟨(lpF n e t n.Loops.length (lowF n way,highF n way)).1,(lpF n e t n.Loops.length (lowF n way,highF n way)).2⟩
def canW (n:LineNet) (e:Int) (t:Nat) (way:List Int):Bool:=decide ((spF n e t way).Low≤(spF n e t way).High)
theorem lp_bd {n:LineNet} (hS:OkS n) (e:Int) (t:Nat) (s:Int × Int) (h0:0≤s.1) (h1:s.1≤100000) (h2:0≤s.2) (h3:s.2≤100000):∀ i,i≤n.Loops.length→s.1≤(lpF n e t i s).1∧(lpF n e t i s).1≤100000∧0≤(lpF n e t i s).2∧(lpF n e t i s).2≤s.2
  | 0,_=>⟨Int.le_refl _,h1,h2,Int.le_refl _⟩
  | i + 1,hi=>by
    have ih:=lp_bd hS e t s h0 h1 h2 h3 i (by omega)
    rw [lpF,List.getElem?_eq_getElem (by omega)]
    dsimp only
    have hx:=hS.lo (i:=i) (by omega)
    have:=hx.r1;have:=hx.r2;have:=hx.r3
    split
    · unfold loL hiL
      dsimp only
      refine ⟨?_,?_,?_,?_⟩ <;> split <;> omega
    · exact ih
theorem sp_bd {n:LineNet} (hS:OkS n) (e:Int) (t:Nat) {way:List Int} (hw:way.length≤6):lowF n way≤(spF n e t way).Low∧0≤(spF n e t way).Low∧(spF n e t way).Low≤100000∧0≤(spF n e t way).High∧(spF n e t way).High≤highF n way∧(spF n e t way).High≤6000:=by
  have h1:=low_bd hS way
  have h2:=high_bd hS way
  have:=lp_bd hS e t (lowF n way,highF n way) (by simp only;omega) (by simp only;omega) (by simp only;omega) (by simp only;omega) n.Loops.length (Nat.le_refl _)
  simp only at this
  unfold spF
  dsimp only
  omega
theorem delay_eq {n:LineNet} (hS:OkS n) (mp:Mp) {t:Nat} (ht:t < 1024) (e:Int) {way:List Int} (hw:WOk n way):line_net_delay ⟨n,mp,(t:Int)⟩ e way=some (spF n e t way,canW n e t way):=by
  unfold line_net_delay line_low line_high
  have hb:=delayAt_bd hS
  rw [bind_s,all_eq (nt:=⟨n,mp,(t:Int)⟩) hS hw (·.Low) _ (fun _=>rfl) (fun e=>by have:=hb e;exact ⟨this.1,by show (delayAt n e).Low≤_;omega⟩),bind_s,bind_s,
    all_eq (nt:=⟨n,mp,(t:Int)⟩) hS hw (·.High) _ (fun _=>rfl) (fun e=>by have:=hb e;exact ⟨by show 0≤(delayAt n e).High;omega,this.2.2⟩),bind_s]
  show loopU (line_net_delay_b1 ⟨n,mp,(t:Int)⟩ e) (0,lowF n way,highF n way)=_
  have hno:=hS.no
  refine loopU_for (fun i (s:Int × Int × Int)=>s=((i:Int),lpF n e t i (lowF n way,highF n way))) n.Loops.length (Post:=fun o=>o=some (spF n e t way,canW n e t way)) rfl ?_ ?_
  · rintro i _ hi rfl
    have hx:=hS.lo hi
    have:=hx.r1;have:=hx.r2;have:=hx.r3
    refine ⟨((i + 1:Nat),lpF n e t (i + 1) (lowF n way,highF n way)),?_,rfl⟩
    unfold line_net_delay_b1
    dsimp only
    rw [lt_t hi,cond_true,idx_get hi,bind_s,if_pos (by omega),dec_in0 t ht i (by omega),beqI,wr_succ (by omega),lpF,List.getElem?_eq_getElem hi]
    dsimp only
    have e1:wr (Int.tdiv (wr (n.Loops[i].Read.Low + 1)) 2)=loL n.Loops[i]:=by unfold loL;rw [wr_id' (n:=n.Loops[i].Read.Low + 1) (by omega) (by omega),tdiv_nn (by omega),wr_id' (by omega) (by omega)]
    have e2:wr (Int.tdiv n.Loops[i].Read.High 2)=hiL n.Loops[i]:=by unfold hiL;rw [tdiv_nn (by omega),wr_id' (by omega) (by omega)]
    rw [e1,e2]
    cases hb:t.testBit i with
    | true=>rw [if_neg (c:=(true=false∧n.Loops[i].Exchange=e)) (by simp)];rfl
    | false=>
      by_cases he:n.Loops[i].Exchange=e
      · rw [if_pos (c:=(false=false∧n.Loops[i].Exchange=e)) ⟨rfl,he⟩,decide_eq_true he];rfl
      · rw [if_neg (c:=(false=false∧n.Loops[i].Exchange=e)) (fun h=>he h.2),decide_eq_false he];rfl
  · rintro _ rfl
    refine ⟨some (spF n e t way,canW n e t way),?_,rfl⟩
    unfold line_net_delay_b1
    dsimp only
    rw [lt_f,cond_false];rfl
end Go.Proofs.YtgdfljiliflhfaaGreatDoor.Rt.Ln
set_option linter.unusedVariables false
set_option linter.unusedSimpArgs false
set_option maxRecDepth 100000
set_option maxHeartbeats 4000000
namespace Go.Proofs.YtgdfljiliflhfaaGreatDoor.Rt.Ln
open Go Go.RowKit
def trk (n:LineNet):Int→List Int→List Int→Option Int
  | at_,_,[]=>some at_
  | at_,V,e::w=>match oth n at_ e.toNat with
    | none=>none
    | some t=>if 0≤e∧t ∉ V then trk n t (t::V) w else none
theorem mem_ways {n:LineNet}:∀ (m:Nat) (at_:Int) (V:List Int) (w:List Int) (x:Int),(w,x) ∈ waysS n m at_ V ↔ w.length=m∧trk n at_ V w=some x
  | 0,at_,V,w,x=>by
    simp only [waysS,List.mem_singleton,Prod.mk.injEq]
    constructor
    · rintro ⟨rfl,rfl⟩;exact ⟨rfl,rfl⟩
    · rintro ⟨h1,h2⟩
      obtain rfl:=List.eq_nil_of_length_eq_zero h1
      simp only [trk,Option.some.injEq] at h2
      exact ⟨rfl,h2.symm⟩
  | m + 1,at_,V,w,x=>by
    rw [waysS_succ,List.mem_flatMap]
    constructor
    · rintro ⟨i,hi,h⟩
      unfold stepW at h
      rcases ho:oth n at_ i with _ | t
      · rw [ho] at h;cases h
      · rw [ho] at h
        simp only at h
        split at h
        · cases h
        · next hV=>
          obtain ⟨⟨w0,x0⟩,h0,h1⟩:=List.mem_map.1 h
          simp only [Prod.mk.injEq] at h1
          obtain ⟨rfl,rfl⟩:=h1
          obtain ⟨h2,h3⟩:=(mem_ways m t (t::V) w0 x0).1 h0
          refine ⟨by rw [List.length_cons,h2],?_⟩
          simp only [trk,Int.toNat_natCast,ho]
          rw [if_pos ⟨by omega,hV⟩]
          exact h3
    · rintro ⟨h1,h2⟩
      cases w with
      | nil=>simp at h1
      | cons e w=>
        simp only [trk] at h2
        rcases ho:oth n at_ e.toNat with _ | t
        · rw [ho] at h2;cases h2
        · rw [ho] at h2
          simp only at h2
          split at h2
          · next hc=>
            have hlt:e.toNat < n.Lines.length:=by
              unfold oth at ho
              rcases hx:n.Lines[e.toNat]? with _ | y
              · rw [hx] at ho;cases ho
              · exact (List.getElem?_eq_some_iff.1 hx).1
            refine ⟨e.toNat,List.mem_range.2 hlt,?_⟩
            unfold stepW
            rw [ho]
            simp only
            rw [if_neg hc.2]
            refine List.mem_map.2 ⟨(w,x),(mem_ways m t (t::V) w x).2 ⟨by rw [List.length_cons] at h1;omega,h2⟩,?_⟩
            simp only [Prod.mk.injEq,List.cons.injEq,and_true]
            omega
          · cases h2
theorem mem_toF {n:LineNet} (to:Int) (m:Nat) (at_:Int) (V w:List Int):w ∈ toF n to m at_ V [] ↔ w.length=m∧trk n at_ V w=some to:=by
  unfold toF
  rw [List.mem_map]
  constructor
  · rintro ⟨⟨w0,x0⟩,h,rfl⟩
    obtain ⟨h1,h2⟩:=List.mem_filter.1 h
    simp only [decide_eq_true_eq] at h2
    subst h2
    exact (mem_ways m at_ V w0 x0).1 h1
  · intro h
    exact ⟨(w,to),List.mem_filter.2 ⟨(mem_ways m at_ V w to).2 h,by simp⟩,rfl⟩
theorem mem_WK {n:LineNet} (e:Int) (k:Nat) (w:List Int):w ∈ WK n e k ↔ k≤n.Hops.toNat∧w.length=k∧trk n 0 [0] w=some e:=by
  unfold WK
  split
  · next h=>rw [mem_toF];exact ⟨fun g=>⟨h,g⟩,fun g=>g.2⟩
  · next h=>exact ⟨fun g=>(by cases g),fun g=>absurd g.1 h⟩
theorem trk_lines {n:LineNet}:∀ (w:List Int) (at_:Int) (V:List Int) (x:Int),trk n at_ V w=some x→∀ e ∈ w,∃ k:Nat,e=(k:Int)∧k < n.Lines.length
  | [],_,_,_,_,e,h=>by cases h
  | e0::w,at_,V,x,h,e,he=>by
    simp only [trk] at h
    rcases ho:oth n at_ e0.toNat with _ | t
    · rw [ho] at h;cases h
    · rw [ho] at h
      simp only at h
      split at h
      · next hc=>
        rcases List.mem_cons.1 he with rfl | he
        · refine ⟨e.toNat,by omega,?_⟩
          unfold oth at ho
          rcases hx:n.Lines[e.toNat]? with _ | y
          · rw [hx] at ho;cases ho
          · exact (List.getElem?_eq_some_iff.1 hx).1
        · exact trk_lines w t (t::V) x h e he
      · cases h
theorem WK_ok {n:LineNet} (hS:OkS n) {e:Int} {k:Nat} {w:List Int} (h:w ∈ WK n e k):WOk n w:=by
  obtain ⟨h1,h2,h3⟩:=(mem_WK e k w).1 h
  have:=hS.h2;have:=hS.h1
  exact ⟨by omega,trk_lines w 0 [0] e h3⟩
theorem ways_pair {n:LineNet}:∀ (m:Nat) (at_:Int) (V:List Int),(waysS n m at_ V).Pairwise (fun a b=>a.1 < b.1)
  | 0,_,_=>List.pairwise_singleton _ _
  | m + 1,at_,V=>by
    rw [waysS_succ,List.pairwise_flatMap]
    have hhead:∀ i q,q ∈ stepW n m at_ V i→∃ w,q.1=(i:Int)::w:=by
      intro i q h
      unfold stepW at h
      split at h
      · cases h
      · split at h
        · cases h
        · obtain ⟨q0,_,rfl⟩:=List.mem_map.1 h
          exact ⟨_,rfl⟩
    refine ⟨fun i _=>?_,List.pairwise_lt_range.imp fun hij q hq r hr=>?_⟩
    · unfold stepW
      split
      · exact List.Pairwise.nil
      · split
        · exact List.Pairwise.nil
        · rw [List.pairwise_map]
          refine (ways_pair m _ _).imp fun h=>?_
          exact List.cons_lt_cons_iff.2 (.inr ⟨rfl,h⟩)
    · obtain ⟨w1,e1⟩:=hhead _ q hq
      obtain ⟨w2,e2⟩:=hhead _ r hr
      rw [e1,e2,List.cons_lt_cons_iff]
      exact .inl (by omega)
theorem WK_pair {n:LineNet} (e:Int) (k:Nat):(WK n e k).Pairwise (· < ·):=by
  unfold WK
  split
  · unfold toF
    rw [List.pairwise_map]
    exact ((ways_pair k 0 [0]).filter _).imp fun h=>by simpa using h
  · exact List.Pairwise.nil
theorem sort_sorted {l:List (List Int)} (h:l.Pairwise (· < ·)):sortL l=l:=by
  refine (sortL_unique (List.Perm.refl l) (h.imp fun {a b} hab=>?_)).symm
  rw [ltOf_cmpL]
  exact decide_eq_false (List.lt_asymm hab)
theorem WK_len {n:LineNet} (hS:OkS n) (e:Int) (k:Nat):(WK n e k).length≤12 ^ 6:=by
  unfold WK
  split
  · next h=>
    unfold toF
    rw [List.length_map]
    have h1:=hS.h1;have h2:=hS.h2
    exact Nat.le_trans (List.length_filter_le _ _) (Nat.le_trans (ways_len hS k 0 [0]) (Nat.pow_le_pow_right (by decide) (by omega)))
  · simp
theorem p126:(12:Nat) ^ 6=2985984:=by decide
def allF (n:LineNet) (e:Int):List (List Int):=(List.range 7).flatMap (WK n e)
def routesF (n:LineNet) (e:Int) (t:Nat):List (List Int):=(List.range 7).flatMap fun k=>(WK n e k).filter (canW n e t)
theorem routesF_all (n:LineNet) (e:Int) (t:Nat):routesF n e t=(allF n e).filter (canW n e t):=by
  unfold routesF allF
  rw [List.filter_flatMap]
theorem mem_allF {n:LineNet} (hS:OkS n) (e:Int) (w:List Int):w ∈ allF n e ↔ (w.length:Int)≤n.Hops∧trk n 0 [0] w=some e:=by
  have:=hS.h1;have:=hS.h2
  unfold allF
  rw [List.mem_flatMap]
  constructor
  · rintro ⟨k,_,h⟩
    obtain ⟨h1,h2,h3⟩:=(mem_WK e k w).1 h
    exact ⟨by omega,h3⟩
  · rintro ⟨h1,h2⟩
    exact ⟨w.length,List.mem_range.2 (by omega),(mem_WK e _ w).2 ⟨by omega,rfl,h2⟩⟩
theorem mem_routesF {n:LineNet} (hS:OkS n) (e:Int) (t:Nat) (w:List Int):w ∈ routesF n e t ↔ (w.length:Int)≤n.Hops∧trk n 0 [0] w=some e∧canW n e t w=true:=by
  rw [routesF_all,List.mem_filter,mem_allF hS,and_assoc]
theorem all_ok {n:LineNet} (hS:OkS n) {e:Int} {w:List Int} (h:w ∈ allF n e):WOk n w:=by
  unfold allF at h
  obtain ⟨k,_,h⟩:=List.mem_flatMap.1 h
  exact WK_ok hS h
theorem routes_ok {n:LineNet} (hS:OkS n) {e:Int} {t:Nat} {w:List Int} (h:w ∈ routesF n e t):WOk n w:=by
  rw [routesF_all] at h
  exact all_ok hS (List.mem_filter.1 h).1
theorem all_len {n:LineNet} (hS:OkS n) (e:Int):(allF n e).length≤7 * 12 ^ 6:=by
  have:=flatM_len (List.range 7) (WK n e) (12 ^ 6) fun k _=>WK_len hS e k
  rw [List.length_range] at this
  exact this
theorem routes_len {n:LineNet} (hS:OkS n) (e:Int) (t:Nat):(routesF n e t).length≤7 * 12 ^ 6:=by
  rw [routesF_all]
  exact Nat.le_trans (List.length_filter_le _ _) (all_len hS e)
theorem loop_any {σ ρ:Type} {body:σ→Option (σ ⊕ ρ)} (st:Nat→σ) (p:Nat→Bool) (x fin:Option ρ) (L:Nat)
    (hstep:∀ i,i < L→body (st i)=if p i then ext x else nxt (st (i + 1))) (hend:body (st L)=ext fin):loopU body (st 0)=if (List.range L).any p then x else fin:=by
  have key:∀ (k i:Nat),i + k=L→loopU body (st i)=if (List.range' i k).any p then x else fin:=by
    intro k
    induction k with
    | zero=>
      intro i h
      obtain rfl:i=L:=by omega
      rw [loopU_ext hend];simp
    | succ k ih=>
      intro i h
      have hs:=hstep i (by omega)
      rw [List.range'_succ,List.any_cons]
      cases hp:p i with
      | true=>rw [hp] at hs;rw [loopU_ext hs];simp
      | false=>rw [hp] at hs;rw [loopU_nxt hs,ih (i + 1) (by omega),Bool.false_or]
  have:=key L 0 (by omega)
  rw [this,List.range_eq_range']
def reachB (n:LineNet) (e:Int):Bool:=(List.range 7).any fun k => !(WK n e k).isEmpty
theorem reaches_eq {n:LineNet} (hS:OkS n) (left e:Int):line_net_reaches ⟨n,waysM n,left⟩ e=some (reachB n e):=by
  unfold line_net_reaches reachB
  have h:=loop_any (body:=line_net_reaches_b1 ⟨n,waysM n,left⟩ e) (fun i:Nat=>((false:Bool),(i:Int))) (fun k => !(WK n e k).isEmpty) (some true) (some false) 7 (fun i hi=>by
    unfold line_net_reaches_b1
    dsimp only
    rw [show decide ((i:Int) < 7)=true by simp;omega,cond_true,waysM_get,wr_succ (by omega)]
    cases hw:WK n e i with
    | nil=>rfl
    | cons a l=>rw [show decide ((((a::l).length:Nat):Int) > 0)=true by simp];rfl) (by unfold line_net_reaches_b1;rfl)
  have h:loopU (line_net_reaches_b1 ⟨n,waysM n,left⟩ e) (false,0)=_:=h
  rw [h]
  cases (List.range 7).any fun k => !(WK n e k).isEmpty <;> rfl
theorem routes_eq {n:LineNet} (hS:OkS n) {t:Nat} (ht:t < 1024) (e:Int):line_net_routes ⟨n,waysM n,(t:Int)⟩ e=some (routesF n e t):=by
  unfold line_net_routes
  have hp:=p126
  rw [loop_cat0 (fin:=some) (fun k=>(WK n e k).filter (canW n e t)) 7 (12 ^ 6) (fun i out hi ho=>?_) (fun out=>?_) (fun i hi=>Nat.le_trans (List.length_filter_le _ _) (WK_len hS e i))]
  · rfl
  · have hlen:=Nat.le_trans (List.length_filter_le (canW n e t) (WK n e i)) (WK_len hS e i)
    have hb1:line_net_routes_b1 ⟨n,waysM n,(t:Int)⟩ e (out,(i:Int))=loopU (line_net_routes_b2 ⟨n,waysM n,(t:Int)⟩ e out (i:Int)) (([]:List (List Int)),0):=by
      unfold line_net_routes_b1
      dsimp only
      rw [show decide ((i:Int) < 7)=true by simp;omega,cond_true]
    rw [hb1,loop_list (fin:=fun l=>if l.length≤lim∧∀ x ∈ l,x.length≤lim then (if out.length + (sortL l).length≤lim then nxt ((out ++ sortL l),wr ((i:Int) + 1)) else none) else none) (WK n e i) (fun w=>if canW n e t w then [w] else []) 1 (fun j o hj ho=>?_) (fun o=>?_) (fun w _=>by split <;> simp),flat_filter]
    · have hx:∀ x ∈ (WK n e i).filter (canW n e t),x.length≤lim:=fun x hx=>by
        have:=(WK_ok hS (List.mem_filter.1 hx).1).len
        unfold lim;omega
      rw [sort_sorted ((WK_pair e i).filter _),if_pos ⟨by unfold lim;omega,hx⟩,if_pos (by unfold lim;omega),wr_succ (by omega)]
    · unfold line_net_routes_b2
      dsimp only
      have hwl:=WK_len hS e i
      rw [waysM_get,lt_t hj,cond_true,idx_get hj,bind_s,delay_eq hS (waysM n) ht e (WK_ok hS (List.getElem_mem hj)),bind_s,wr_succ (by omega)]
      dsimp only
      cases canW n e t (WK n e i)[j] with
      | true=>rw [cond_true,if_pos (by simp only [List.length_singleton];unfold lim;omega),if_pos rfl]
      | false=>rw [cond_false,if_neg (by simp),List.append_nil]
    · unfold line_net_routes_b2
      dsimp only
      rw [waysM_get,lt_f,cond_false]
  · unfold line_net_routes_b1
    rfl
end Go.Proofs.YtgdfljiliflhfaaGreatDoor.Rt.Ln
set_option linter.unusedVariables false
set_option linter.unusedSimpArgs false
set_option maxRecDepth 100000
set_option maxHeartbeats 4000000
namespace Go.Proofs.YtgdfljiliflhfaaGreatDoor.Rt.Ln
open Go Go.RowKit
def errF (n:LineNet) (e:Int):Int:=if goodB n then if inB e 0 (n.Exchanges - 1) then if reachB n e then if (routesF n e 0).isEmpty then 62 else 0 else 4 else 61 else 60
theorem routes0 {n:LineNet} (hS:OkS n) (e:Int):line_net_routes ⟨n,waysM n,0⟩ e=some (routesF n e 0):=routes_eq hS (t:=0) (by decide) e
theorem delay0 {n:LineNet} (hS:OkS n) (e:Int) {way:List Int} (hw:WOk n way):line_net_delay ⟨n,waysM n,0⟩ e way=some (spF n e 0 way,canW n e 0 way):=delay_eq hS (waysM n) (t:=0) (by decide) e hw
structure AskR (n:LineNet) (e:Int) (r:line_net × List (List Int) × Int):Prop where
  err:r.2.2=errF n e
  ok:errF n e=0→r.1=⟨n,waysM n,0⟩∧r.2.1=routesF n e 0
theorem errF_ok {n:LineNet} {e:Int} (h:errF n e=0):OkS n∧inB e 0 (n.Exchanges - 1)=true∧reachB n e=true∧routesF n e 0 ≠ []:=by
  unfold errF at h
  split at h
  · next h1=>
    split at h
    · next h2=>
      split at h
      · next h3=>
        split at h
        · cases h
        · next h4=>exact ⟨OkS.of h1,h2,h3,fun g=>h4 (by rw [g];rfl)⟩
      · cases h
    · cases h
  · cases h
theorem len0 {α:Type} (l:List α):((l.length:Int) == 0)=l.isEmpty:=by
  cases l with
  | nil=>rfl
  | cons a l=>rw [beqI];exact decide_eq_false (by simp only [List.length_cons];omega)
theorem asked_eq {n:LineNet} (h:Ok_LineNet n) (e:Int):∃ r,line_asked n e=some r∧AskR n e r:=by
  unfold line_asked
  rw [line_Check_eq n h,bind_s]
  cases hg:goodB n with
  | false=>
    refine ⟨_,rfl,?_,fun h0=>?_⟩
    · show (60:Int)=_
      unfold errF;rw [hg];rfl
    · unfold errF at h0;rw [hg] at h0;cases h0
  | true=>
    have hS:=OkS.of hg
    have:=hS.e1;have:=hS.e2
    rw [if_pos rfl,show ((0:Int) != 0)=false from rfl,cond_false,lies_eq,bind_s,wr_id' (n:=n.Exchanges - 1) (by omega) (by omega)]
    cases h1:inB e 0 (n.Exchanges - 1) with
    | false=>
      refine ⟨_,rfl,?_,fun h0=>?_⟩
      · show (61:Int)=_
        unfold errF;rw [hg,h1];rfl
      · unfold errF at h0;rw [hg,h1] at h0;cases h0
    | true=>
      rw [Bool.not_true,cond_false,opened_eq hS 0,bind_s,reaches_eq hS,bind_s]
      cases h2:reachB n e with
      | false=>
        refine ⟨_,rfl,?_,fun h0=>?_⟩
        · show (4:Int)=_
          unfold errF;rw [hg,h1,h2];rfl
        · unfold errF at h0;rw [hg,h1,h2] at h0;cases h0
      | true=>
        rw [Bool.not_true,cond_false,routes0 hS,bind_s,len0]
        cases h3:(routesF n e 0).isEmpty with
        | true=>
          refine ⟨_,rfl,?_,fun h0=>?_⟩
          · show (62:Int)=_
            unfold errF;rw [hg,h1,h2,h3];rfl
          · unfold errF at h0;rw [hg,h1,h2,h3] at h0;cases h0
        | false=>
          refine ⟨_,rfl,?_,fun h0=>⟨rfl,rfl⟩⟩
          show (0:Int)=_
          unfold errF;rw [hg,h1,h2,h3];rfl
theorem ne0 {x:Int} (h:x ≠ 0):(x != 0)=true:=by rw [bneI];exact decide_eq_true h
def wid (s t:Span):Span:=⟨if t.Low < s.Low then t.Low else s.Low,if t.High > s.High then t.High else s.High⟩
def spanN (n:LineNet) (e:Int) (m:Nat):Span:=((routesF n e 0).take m).foldl (fun s w=>wid s (spF n e 0 w)) (spF n e 0 ((routesF n e 0).headD []))
def spanF (n:LineNet) (e:Int):Span:=spanN n e (routesF n e 0).length
theorem spanN_succ {n:LineNet} {e:Int} {i:Nat} (hi:i < (routesF n e 0).length):spanN n e (i + 1)=wid (spanN n e i) (spF n e 0 (routesF n e 0)[i]):=by
  unfold spanN
  rw [List.take_succ_eq_append_getElem hi,List.foldl_append];rfl
def DelayF (n:LineNet) (e:Int):Span × Int:=if errF n e=0 then (spanF n e,0) else (⟨0,0⟩,errF n e)
theorem head_get {α:Type} {l:List α} (d:α) (h:0 < l.length):l.headD d=l[0]:=by
  cases l with
  | nil=>simp at h
  | cons a l=>rfl
theorem Delay_eq {n:LineNet} (h:Ok_LineNet n) (e:Int):line_Delay n e=some (DelayF n e):=by
  unfold line_Delay DelayF
  obtain ⟨r,h1,h2,h3⟩:=asked_eq h e
  rw [h1,bind_s,h2]
  by_cases he:errF n e=0
  · obtain ⟨hS,_,_,hne⟩:=errF_ok he
    obtain ⟨h5,h4⟩:=h3 he
    have hpos:0 < (routesF n e 0).length:=List.length_pos_iff.2 hne
    have hp:=p126
    have hl:=routes_len hS e 0
    rw [if_pos he,he,show ((0:Int) != 0)=false from rfl,cond_false,h4,show (0:Int)=((0:Nat):Int) from rfl,idx_get hpos,bind_s,h5]
    have hd:line_net_delay ⟨n,waysM n,0⟩ e (routesF n e 0)[0]=_:=delay0 hS e (routes_ok hS (List.getElem_mem hpos))
    rw [show (((0:Nat):Int))=(0:Int) from rfl,hd,bind_s]
    refine loopU_for (fun i (s:Int × Int × Int)=>s=((i:Int),(spanN n e i).Low,(spanN n e i).High)) (routesF n e 0).length (Post:=fun o=>o=some (spanF n e,0)) ?_ ?_ ?_
    · unfold spanN
      rw [head_get [] hpos];rfl
    · rintro i _ hi rfl
      refine ⟨_,?_,rfl⟩
      unfold line_Delay_b1
      simp only [h4,h5]
      rw [lt_t hi,cond_true,idx_get hi,bind_s,delay0 hS e (routes_ok hS (List.getElem_mem hi)),bind_s,wr_succ (by omega),spanN_succ hi]
      rfl
    · rintro _ rfl
      refine ⟨_,?_,rfl⟩
      unfold line_Delay_b1
      simp only [h4]
      rw [lt_f,cond_false];rfl
  · rw [if_neg he,ne0 he,cond_true]
theorem span_mem {n:LineNet} {e:Int} (hne:routesF n e 0 ≠ []):(∀ w ∈ routesF n e 0,(spanF n e).Low≤(spF n e 0 w).Low∧(spF n e 0 w).High≤(spanF n e).High) ∧
    (∃ w ∈ routesF n e 0,(spanF n e).Low=(spF n e 0 w).Low)∧∃ w ∈ routesF n e 0,(spanF n e).High=(spF n e 0 w).High:=by
  have hpos:0 < (routesF n e 0).length:=List.length_pos_iff.2 hne
  have key:∀ m,m≤(routesF n e 0).length→(∀ w ∈ (routesF n e 0).take m,(spanN n e m).Low≤(spF n e 0 w).Low∧(spF n e 0 w).High≤(spanN n e m).High) ∧
    (∃ w ∈ routesF n e 0,(spanN n e m).Low=(spF n e 0 w).Low)∧∃ w ∈ routesF n e 0,(spanN n e m).High=(spF n e 0 w).High:=by
    intro m
    induction m with
    | zero=>
      intro _
      have:spanN n e 0=spF n e 0 (routesF n e 0)[0]:=by unfold spanN;rw [head_get [] hpos];rfl
      rw [this]
      exact ⟨fun w hw=>by simp at hw,⟨_,List.getElem_mem hpos,rfl⟩,_,List.getElem_mem hpos,rfl⟩
    | succ m ih=>
      intro hm
      have hm':m < (routesF n e 0).length:=by omega
      obtain ⟨h1,⟨w1,hw1,h2⟩,w2,hw2,h3⟩:=ih (by omega)
      rw [spanN_succ hm']
      unfold wid
      dsimp only
      refine ⟨fun w hw=>?_,?_,?_⟩
      · rw [List.take_succ_eq_append_getElem hm'] at hw
        rcases List.mem_append.1 hw with hw | hw
        · have:=h1 w hw
          constructor
          · split <;> omega
          · split <;> omega
        · rw [List.mem_singleton.1 hw]
          constructor
          · split <;> omega
          · split <;> omega
      · split
        · exact ⟨_,List.getElem_mem hm',rfl⟩
        · exact ⟨w1,hw1,h2⟩
      · split
        · exact ⟨_,List.getElem_mem hm',rfl⟩
        · exact ⟨w2,hw2,h3⟩
  have:=key _ (Nat.le_refl _)
  rw [List.take_length] at this
  exact this
theorem span_bd {n:LineNet} {e:Int} (hS:OkS n) (hne:routesF n e 0 ≠ []):0≤(spanF n e).Low∧(spanF n e).Low≤(spanF n e).High∧(spanF n e).High≤6000:=by
  obtain ⟨h1,⟨w1,hw1,h2⟩,w2,hw2,h3⟩:=span_mem hne
  have b1:=sp_bd hS e 0 (routes_ok hS hw1).len
  have b2:=sp_bd hS e 0 (routes_ok hS hw2).len
  have c1:=((mem_routesF hS e 0 w1).1 hw1).2.2
  unfold canW at c1
  simp only [decide_eq_true_eq] at c1
  have:=h1 w1 hw1
  omega
def anyF (n:LineNet) (e d:Int):Bool:=(routesF n e 0).any fun w=>inB d (spF n e 0 w).Low (spF n e 0 w).High
def CanF (n:LineNet) (e d:Int):Bool × Int:=if errF n e=0 then (anyF n e d,0) else (false,errF n e)
theorem indexF_eq (l:List (List Int)) (f:List Int→Option Bool) (p:List Int→Bool) (hf:∀ w ∈ l,f w=some (p w)) (hl:(l.length:Int)≤9223372036854775806):∃ r,slices_IndexFunc_____int___int_ l f=some r∧decide (r ≥ 0)=l.any p:=by
  unfold slices_IndexFunc_____int___int_
  have key:∀ (k i:Nat) (v:Int),i + k=l.length→∃ r,loopU (slices_IndexFunc_____int___int__b1 l f) (v,(i:Int))=some r∧decide (r ≥ 0)=(l.drop i).any p:=by
    intro k
    induction k with
    | zero=>
      intro i v h
      refine ⟨-1,?_,?_⟩
      · refine loopU_ext ?_
        unfold slices_IndexFunc_____int___int__b1
        dsimp only
        obtain rfl:i=l.length:=by omega
        rw [lt_f,cond_false]
      · rw [List.drop_eq_nil_of_le (by omega)];rfl
    | succ k ih=>
      intro i v h
      have hi:i < l.length:=by omega
      have e:slices_IndexFunc_____int___int__b1 l f (v,(i:Int))=cond (p l[i]) (ext (some (i:Int))) (nxt (v,((i + 1:Nat):Int))):=by
        unfold slices_IndexFunc_____int___int__b1
        dsimp only
        rw [lt_t hi,cond_true,idx_get hi,bind_s,hf _ (List.getElem_mem hi),bind_s,wr_succ (by omega)]
      rw [List.drop_eq_getElem_cons hi,List.any_cons]
      cases hp:p l[i] with
      | true=>
        rw [hp] at e
        exact ⟨(i:Int),loopU_ext e,by rw [Bool.true_or];exact decide_eq_true (by omega)⟩
      | false=>
        rw [hp] at e
        rw [loopU_nxt e,Bool.false_or]
        exact ih (i + 1) v (by omega)
  obtain ⟨r,h1,h2⟩:=key l.length 0 0 (by omega)
  exact ⟨r,h1,by rw [List.drop_zero] at h2;exact h2⟩
theorem Can_eq {n:LineNet} (h:Ok_LineNet n) (e d:Int):line_Can n e d=some (CanF n e d):=by
  unfold line_Can CanF
  obtain ⟨r,h1,h2,h3⟩:=asked_eq h e
  rw [h1,bind_s,h2]
  by_cases he:errF n e=0
  · obtain ⟨hS,_,_,hne⟩:=errF_ok he
    obtain ⟨h5,h4⟩:=h3 he
    have hp:=p126
    have hl:=routes_len hS e 0
    rw [if_pos he,he,show ((0:Int) != 0)=false from rfl,cond_false,h4,h5]
    unfold slices_ContainsFunc_____int___int_
    obtain ⟨r,e1,e2⟩:=indexF_eq (routesF n e 0) (fun q_z=>line_Can_1 q_z ⟨n,waysM n,0⟩ e d) (fun w=>inB d (spF n e 0 w).Low (spF n e 0 w).High) (fun w hw=>by
      unfold line_Can_1
      rw [delay0 hS e (routes_ok hS hw),bind_s,lies_eq];rfl) (by omega)
    rw [e1,bind_s,bind_s,e2];rfl
  · rw [if_neg he,ne0 he,cond_true]
def offF (s:Span):Int:=(s.High - s.Low + 1) / 2
def CorrectF (n:LineNet) (e:Int):Int × Int × Int:=if errF n e=0 then ((spanF n e).High - offF (spanF n e),offF (spanF n e),0) else (0,0,errF n e)
theorem Correct_eq {n:LineNet} (h:Ok_LineNet n) (e:Int):line_Correct n e=some (CorrectF n e):=by
  unfold line_Correct CorrectF
  rw [Delay_eq h,bind_s]
  unfold DelayF
  by_cases he:errF n e=0
  · obtain ⟨hS,_,_,hne⟩:=errF_ok he
    have hb:=span_bd hS hne
    rw [if_pos he,if_pos he,show ((0:Int) != 0)=false from rfl,cond_false]
    dsimp only
    rw [wr_id' (n:=(spanF n e).High - (spanF n e).Low) (by omega) (by omega),wr_id' (n:=(spanF n e).High - (spanF n e).Low + 1) (by omega) (by omega),tdiv_nn (by omega)]
    unfold offF
    rw [wr_id' (n:=((spanF n e).High - (spanF n e).Low + 1) / 2) (by omega) (by omega),wr_id' (by omega) (by omega)]
  · rw [if_neg he,if_neg he]
    dsimp only
    rw [ne0 he,cond_true]
end Go.Proofs.YtgdfljiliflhfaaGreatDoor.Rt.Ln
