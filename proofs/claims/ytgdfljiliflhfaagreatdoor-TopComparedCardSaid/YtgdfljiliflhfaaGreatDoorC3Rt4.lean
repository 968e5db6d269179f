/- The small program logic of this seat, part 4: how data lie in memory; slices: elements, append, literals. Under no conditions but those that each rule names. -/
import Derived.Test.YtgdfljiliflhfaaGreatDoorC3Rt3
import Derived.Laws.AppendOwnNone
set_option linter.unusedVariables false
set_option linter.unusedSimpArgs false
namespace Go.Proofs.YtgdfljiliflhfaaGreatDoor.Rt
open Go Go.RowKit
structure Codec (α:Type) where
  n:Nat
  rep:Stab→α→List Value→Prop
  len:∀ {D x cs},rep D x cs→cs.length=n
  mono:∀ {D D' x cs},D.le D'→rep D x cs→rep D' x cs
  one:∀ {D x cs},rep D x cs→cs.all (·.oneCell')=true
def Reps {α:Type} (C:Codec α) (D:Stab):List α→List Value→Prop
  | [],cs=>cs=[]
  | x::xs,cs=>∃ c r,cs=c ++ r∧C.rep D x c∧Reps C D xs r
section
variable {α:Type} {C:Codec α} {D D':Stab}
theorem Reps.mono (h:D.le D'):∀ {xs:List α} {cs:List Value},Reps C D xs cs→Reps C D' xs cs
  | [],_,hr=>hr
  | _::_,_,⟨c,r,e,h1,h2⟩=>⟨c,r,e,C.mono h h1,Reps.mono h h2⟩
theorem Reps.len:∀ {xs:List α} {cs:List Value},Reps C D xs cs→cs.length=xs.length * C.n
  | [],cs,h=>by simp only [Reps] at h;subst h;simp
  | x::xs,cs,⟨c,r,e,h1,h2⟩=>by
    subst e
    rw [List.length_append,C.len h1,h2.len,List.length_cons,Nat.add_mul,Nat.one_mul,Nat.add_comm]
theorem Reps.one:∀ {xs:List α} {cs:List Value},Reps C D xs cs→cs.all (·.oneCell')=true
  | [],cs,h=>by simp only [Reps] at h;subst h;rfl
  | x::xs,cs,⟨c,r,e,h1,h2⟩=>by subst e;rw [List.all_append,C.one h1,h2.one];rfl
theorem Reps.append:∀ {xs ys:List α} {cs ds:List Value},Reps C D xs cs→Reps C D ys ds→Reps C D (xs ++ ys) (cs ++ ds)
  | [],ys,cs,ds,h,h'=>by simp only [Reps] at h;subst h;exact h'
  | x::xs,ys,cs,ds,⟨c,r,e,h1,h2⟩,h'=>by subst e;exact ⟨c,r ++ ds,by simp,h1,h2.append h'⟩
theorem Reps.single {x:α} {c:List Value} (h:C.rep D x c):Reps C D [x] c:=⟨c,[],by simp,h,rfl⟩
theorem Reps.cons {x:α} {xs:List α} {c r:List Value} (h:C.rep D x c) (hr:Reps C D xs r):Reps C D (x::xs) (c ++ r):=⟨c,r,rfl,h,hr⟩
theorem Reps.nil:Reps C D ([]:List α) []:=rfl
theorem Reps.get:∀ {xs:List α} {cs:List Value},Reps C D xs cs→∀ {k:Nat} {x:α},xs[k]?=some x→∃ c,C.rep D x c∧∀ j u,c[j]?=some u→cs[k * C.n + j]?=some u
  | [],_,_,k,x,hx=>by simp at hx
  | y::xs,cs,⟨c,r,e,h1,h2⟩,k,x,hx=>by
    subst e
    cases k with
    | zero=>
      simp only [List.getElem?_cons_zero,Option.some.injEq] at hx
      subst hx
      refine ⟨c,h1,fun j u hu=>?_⟩
      have hj:j < c.length:=(List.getElem?_eq_some_iff.1 hu).1
      simp only [Nat.zero_mul,Nat.zero_add]
      rw [List.getElem?_append_left hj];exact hu
    | succ k=>
      simp only [List.getElem?_cons_succ] at hx
      obtain ⟨c',h3,h4⟩:=h2.get hx
      refine ⟨c',h3,fun j u hu=>?_⟩
      have hlen:=C.len h1
      rw [List.getElem?_append_right (by rw [hlen,Nat.add_mul];omega),show (k + 1) * C.n + j - c.length=k * C.n + j by rw [hlen,Nat.add_mul];omega]
      exact h4 j u hu
def SRep (C:Codec α) (D:Stab) (xs:List α) (p:Option Addr):Prop:=
  xs=[]∨∃ b o all E fr cs,p=some ⟨b,o,none⟩∧D b=some (.cells all E fr)∧Reps C D xs cs∧∀ j u,cs[j]?=some u→all[o + j]?=some u
theorem SRep.mono (h:D.le D') {xs:List α} {p:Option Addr} (hr:SRep C D xs p):SRep C D' xs p:=by
  rcases hr with hr | ⟨b,o,all,E,fr,cs,h1,h2,h3,h4⟩
  · exact .inl hr
  · exact .inr ⟨b,o,all,E,fr,cs,h1,h b _ h2,h3.mono h,h4⟩
theorem SRep.nil {p:Option Addr}:SRep C D ([]:List α) p:=.inl rfl
def idx (xs:List α) (i:Int):Option α:=if 0≤i then xs[i.toNat]? else none
theorem idx_some {xs:List α} {i:Int} {x:α} (h:idx xs i=some x):0≤i∧i < (xs.length:Int)∧xs[i.toNat]?=some x:=by
  unfold idx at h
  split at h
  · rename_i h0
    have:=(List.getElem?_eq_some_iff.1 h).1
    exact ⟨h0,by omega,h⟩
  · cases h
def Elem (C:Codec α) (D:Stab) (x:α) (b o:Nat):Prop:=
  ∃ c all E fr,C.rep D x c∧D b=some (.cells all E fr)∧∀ j u,c[j]?=some u→all[o + j]?=some u
theorem SRep.elem {xs:List α} {p:Option Addr} (hr:SRep C D xs p) {i:Int} {x:α} (hi:idx xs i=some x):
    ∃ b o,p=some ⟨b,o,none⟩∧Elem C D x b (o + i.toNat * C.n):=by
  obtain ⟨h0,h1,h2⟩:=idx_some hi
  rcases hr with rfl | ⟨b,o,all,E,fr,cs,e,hD,h3,h4⟩
  · simp at h2
  · obtain ⟨c,h5,h6⟩:=h3.get h2
    exact ⟨b,o,e,c,all,E,fr,h5,hD,fun j u hu=>by rw [Nat.add_assoc];exact h4 _ u (h6 j u hu)⟩
theorem Elem.open {x:α} {b o:Nat} (h:Elem C D x b o):∃ c,C.rep D x c∧∀ w,D.on w→∀ j u,c[j]?=some u→w.cell? ⟨b,o + j,none⟩=some u:=by
  obtain ⟨c,all,E,fr,h1,h2,h3⟩:=h
  exact ⟨c,h1,fun w hw j u hu=>by rw [cell_of_heap (hw b _ h2)];exact h3 j u hu⟩
end
section
variable {P:Program} {N:Nat} {rs:List Nat} {r:Option Nat} {vs:List (Nat × Value)} {a:Act} {w w0:World} {ops:Array Oper} {Q:Exit→Act→World→Prop} {rest:List Oper}
variable {d:Nat} {dst:Option Nat} {ty:TypeId} {pos:String} {aft:Array Edge} {gd:Option (Nat × Bool)} {v:Value} {D0 D:Stab} {ls:List (Nat × LR)}
variable {α:Type} {C:Codec α}
theorem Y.indexS {T E:TypeId} {x y:Operand} {xs:List α} {p:Option Addr} {c:Nat} {isA:Bool} {i:Int} {e:α} (hT:P.underlying T=some (.slice E)) (hE:tsz P E=some (isA,C.n)) (hF:Frm N rs vs a)
    (hx:ev vs x=some (.slice p xs.length c)) (hy:ev vs y=some (.int .i64 i)) (hR:SRep C D xs p) (hi:idx xs i=some e):
    ∃ b o,Elem C D e b o∧∀ {dst ty pos aft gd w},Yields P ⟨dst,.indexAddr T x y,ty,pos,aft,gd⟩ a w (.pointer (some ⟨b,o,none⟩)):=by
  obtain ⟨b,o,rfl,he⟩:=hR.elem hi
  obtain ⟨h0,h1,_⟩:=idx_some hi
  exact ⟨b,_,he,fun {dst ty pos aft gd w}=>Y.indexSl hT hE hF hx hy h0 h1⟩
theorem Y.loadNE {T:TypeId} {x:Operand} {b o k n:Nat} {c us:List Value} (hT:tsz P T=some (true,n)) (hF:Frm N rs vs a) (hx:ev vs x=some (.pointer (some ⟨b,o + k,none⟩)))
    (hc:∀ j u,c[j]?=some u→w.cell? ⟨b,o + j,none⟩=some u) (hu:(c.drop k).take n=us) (hn:us.length=n):Yields P ⟨dst,.load T x,ty,pos,aft,gd⟩ a w (.agg us.toArray):=by
  refine Y.loadN (by rw [hn];exact hT) hF hx fun j u hj=>?_
  rw [Nat.add_assoc]
  refine hc _ _ ?_
  rw [← hu,List.getElem?_take] at hj
  split at hj
  · rw [List.getElem?_drop] at hj;exact hj
  · cases hj
theorem Y.build {T:TypeId} {parts:List (Nat × Operand)} {us:List Value} {cs:Array Value} (hF:Frm N rs vs a) (hev:evs vs (parts.map (·.2))=some us)
    (hb:P.built T ((parts.map (·.1)).zip us)=some cs):Yields P ⟨dst,.build T parts.toArray,ty,pos,aft,gd⟩ a w (.agg cs):=by
  have h1:(parts.toArray.map fun (i,x)=>(i,a.eval x)).toList=(parts.map (·.1)).zip us:=by
    have h2:=hF.evals hev
    simp only [List.map_toArray,List.map_map] at h2 ⊢
    rw [← h2]
    clear hev hb h2
    induction parts with
    | nil=>rfl
    | cons p ps ih=>simp [ih]
  have hr:=run_build (P:=P) w T (parts.toArray.map fun (i,x)=>(i,a.eval x)) cs (by rw [h1];exact hb)
  simp only [Yields,execOp,Sem.run_bind,hr,Result.andThen_ok]
  rfl
def Src (w:World) (sz:Nat) (p:Option Addr) (m:Nat) (news:List Value):Prop:=
  (m=0∧news=[])∨∃ b o,p=some ⟨b,o,none⟩∧news.length=m * sz∧∀ j u,news[j]?=some u→w.cell? ⟨b,o + j,none⟩=some u
theorem src_stab {xs:List α} {p:Option Addr} (hR:SRep C D xs p) (hon:D.on w):∃ cs,Reps C D xs cs∧Src w C.n p xs.length cs:=by
  rcases hR with rfl | ⟨b,o,all,E,fr,cs,e,hD,h3,h4⟩
  · exact ⟨[],rfl,.inl ⟨rfl,rfl⟩⟩
  · exact ⟨cs,h3,.inr ⟨b,o,e,h3.len,fun j u hu=>by rw [cell_of_heap (hon b _ hD)];exact h4 j u hu⟩⟩
theorem src_own {i:Nat} {p:Option Addr} {n c sz:Nat} {cs:List Value} {E:TypeId} (hS:St w0 D0 D ls w) (hl:lk ls i=some (.own p n c cs E sz)):Src w sz p n cs:=by
  obtain ⟨h1,h2⟩:=hS.each i _ hl
  rcases h2 with ⟨e,h0⟩ | ⟨g,cap,cur,e,hb,hg,hn,hm,hs,ht⟩
  · subst h0;exact .inl ⟨rfl,List.eq_nil_of_length_eq_zero (by simpa using h1)⟩
  · injection e with e
    subst e
    refine .inr ⟨g,0,rfl,h1,fun j u hu=>?_⟩
    rw [cell_of_heap hg,Nat.zero_add]
    rw [← ht,List.getElem?_take] at hu
    split at hu
    · simpa using hu
    · cases hu
def lim:Nat:=1099511627776
def growable (P:Program) (T E:TypeId) (sz:Nat):Bool:=
  match P.underlying T,P.info? E with
  | some (.slice E'),some i=>E' == E && i.size == sz && Nat.ble 1 sz && Nat.ble i.bytes 128 && (match i.zero with | some z=>z.cells.size == sz | none=>false)
  | _,_=>false
theorem growable_spec {T E:TypeId} {sz:Nat} (h:growable P T E sz=true):
    ∃ i z,P.underlying T=some (.slice E)∧P.info? E=some i∧i.zero=some z∧i.size=sz∧z.cells.size=sz∧0 < sz∧i.bytes≤128:=by
  unfold growable at h
  split at h
  · rename_i E' i hu hi
    simp only [Bool.and_eq_true,beq_iff_eq] at h
    obtain ⟨⟨⟨⟨h1,h2⟩,h3⟩,h4⟩,h5⟩:=h
    subst h1
    cases hz:i.zero with
    | none=>simp [hz] at h5
    | some z=>
      simp only [hz,beq_iff_eq] at h5
      exact ⟨i,z,hu,hi,hz,h2,h5,Nat.le_of_ble_eq_true h3,Nat.le_of_ble_eq_true h4⟩
  · cases h
theorem Below.grownBy {B:Nat} {v0 w':World} {row:Option Nat} (h:Below B v0 w) (hg:w.grownBy w' row) (hB:B≤w.heap.size) (hr:∀ k,row=some k→B≤k):Below B v0 w':=h.grown hg hB hr
theorem run_append_zero {T E:TypeId} {sz n c c':Nat} {p q:Option Addr} {cs:List Value} (hT:growable P T E sz=true) (hown:w.ownsRow 0 E sz (.slice p n c) n cs):
    (Builtin.append_ #[T,T] ty #[.slice p n c,.slice q 0 c']).run P w=.ok (.slice p n c) w:=by
  obtain ⟨inf,z,hu,hi,hz,hsz,hzs,hpos,hby⟩:=growable_spec hT
  have hle:n≤c:=by
    rcases hown.2 with ⟨e,h0⟩ | ⟨g,cap,cur,e,_,_,h,_⟩
    · omega
    · injection e with _ _ e3;omega
  have hf:(Builtin.firstCells inf.size 0 (.slice q 0 c')).run P w=.ok #[] w:=by
    cases q with
    | none=>rfl
    | some ad=>simp [Builtin.firstCells,loadCells,loadCellsFrom]
  cases p with
  | none=>simp [Builtin.append_,run_underlying hu,sizeOf,typeInfo,hi,Builtin.lenOf,hle,hf]
  | some ad=>simp [Builtin.append_,run_underlying hu,sizeOf,typeInfo,hi,Builtin.lenOf,hle,hf,storeCells]
theorem run_append_any {T E:TypeId} {sz n c m c':Nat} {p q:Option Addr} {cs ds:List Value} (hT:growable P T E sz=true) (hown:w.ownsRow 0 E sz (.slice p n c) n cs)
    (hsrc:Src w sz q m ds) (h1:ds.all (·.oneCell')=true) (hlim:n + m≤lim):
    ∃ p' c'' w',(Builtin.append_ #[T,T] ty #[.slice p n c,.slice q m c']).run P w=.ok (.slice p' (n + m) c'') w'∧w'.ownsRow 0 E sz (.slice p' (n + m) c'') (n + m) (cs ++ ds) ∧
      w.grownBy w' (Value.ownBlock (.slice p n c))∧(∀ ad,p'=some ad→w.heap.size≤ad.block∨p=some ad):=by
  rcases hsrc with ⟨rfl,rfl⟩ | ⟨b,o,rfl,hlen,hcells⟩
  · exact ⟨p,c,w,run_append_zero hT hown,by simpa using hown,⟨rfl,rfl,rfl,Nat.le_refl _,fun _ _ _=>rfl⟩,fun ad h=>.inr h⟩
  · obtain ⟨inf,z,hu,hi,hz,hsz,hzs,hpos,hby⟩:=growable_spec hT
    subst hsz
    have hb1:n + m≤maxLen:=by simp only [lim,maxLen] at *;omega
    have hb2:(n + m) * inf.bytes≤140737488355328:=by
      have:(n + m) * inf.bytes≤lim * 128:=Nat.mul_le_mul hlim hby
      simp only [lim] at this;omega
    have hone:∀ u ∈ ds,u.oneCell'=true:=fun u hu=>(List.all_eq_true.1 h1) u hu
    have hds:∀ j u,ds[j]?=some u→w.cell? ((⟨b,o,none⟩:Addr).add j)=some u:=fun j u hj=>by rw [addr_add];exact hcells j u hj
    have hown2:=hown.2
    rcases hown2 with ⟨e,h0⟩ | ⟨g,cap,cur,e,hbg,hg,hn,hm,hs,ht⟩
    · injection e with e1 e2 e3
      subst e1;subst e2;subst e3
      have hx:cs=[]:=List.eq_nil_of_length_eq_zero (by simpa using hown.1)
      subst hx
      obtain ⟨v',w',h1,h2,h3,_⟩:=run_append_own (P:=P) w w.heap.size T ty E inf z inf.size inf.bytes hu hi hz rfl rfl hzs hpos _ _ _ (World.ownsRow_nil w w.heap.size E inf.size) ⟨b,o,none⟩ m c' ds hlen hds hone hb1 hb2 (Nat.le_refl _)
      obtain ⟨p',c'',rfl⟩:∃ p' c'',v'=.slice p' (0 + m) c'':=by
        rcases h2.2 with ⟨rfl,e⟩ | ⟨g,cap,cur,rfl,_⟩
        · exact ⟨none,0,by rw [e]⟩
        · exact ⟨_,_,rfl⟩
      refine ⟨p',c'',w',h1,⟨h2.1,?_⟩,h3,fun ad had=>.inl ?_⟩
      · rcases h2.2 with h | ⟨g,cap,cur,e1,_,e2⟩
        · exact .inl h
        · exact .inr ⟨g,cap,cur,e1,Nat.zero_le _,e2⟩
      · subst had
        exact (h2.lt _ rfl).1
    · injection e with e1 e2 e3
      subst e1;subst e3
      obtain ⟨v',w',h1,h2,h3,_⟩:=run_append_own (P:=P) w 0 T ty E inf z inf.size inf.bytes hu hi hz rfl rfl hzs hpos _ _ _ hown ⟨b,o,none⟩ m c' ds hlen hds hone hb1 hb2 (Nat.zero_le _)
      by_cases hroom:n + m≤c
      · have hr:=run_append_room (P:=P) w T ty E inf hu hi g n c cur hg ⟨b,o,none⟩ m c' ds hlen hds hone hroom (by rw [hs,hlen,← Nat.add_mul];exact Nat.mul_le_mul_right _ hroom)
        rw [h1] at hr
        injection hr with e1 e2
        subst e1
        exact ⟨_,_,w',h1,h2,h3,fun ad had=>.inr had⟩
      · have holds:∀ j u,cs[j]?=some u→w.cell? ((⟨g,0,none⟩:Addr).add j)=some u:=hown.cells (g:=g) rfl
        have hr:=run_append_grow (P:=P) w T ty E inf z hu hi hz ⟨g,0,none⟩ n c cs hown.1 holds ⟨b,o,none⟩ m c' ds hlen hds (by omega) (by simp only [lim] at hlim;omega) (growslice_fits (by omega) hb2)
        rw [h1] at hr
        injection hr with e1 e2
        subst e1
        exact ⟨_,_,w',h1,h2,h3,fun ad had=>.inl (by injection had with had;rw [← had];exact Nat.le_refl _)⟩
theorem own_fp {p:Option Addr} {n c:Nat} {cs:List Value} {E:TypeId} {sz k:Nat} (h:k ∈ (LR.own p n c cs E sz).fp):∃ ad,p=some ad∧ad.block=k:=by
  cases p with
  | none=>simp [LR.fp] at h
  | some ad=>simp only [LR.fp,List.mem_singleton] at h;exact ⟨ad,rfl,h.symm⟩
theorem O.append {T E:TypeId} {x y:Operand} {xs ys:List α} {p q:Option Addr} {c c':Nat} {cs ds:List Value} (i:Nat) (hT:growable P T E C.n=true) (hF:Frm N rs vs a)
    (hx:ev vs x=some (.slice p xs.length c)) (hy:ev vs y=some (.slice q ys.length c')) (hS:St w0 D0 D ls w) (hl:lk ls i=some (.own p xs.length c cs E C.n))
    (hsrc:Src w C.n q ys.length ds) (hR:Reps C D xs cs) (hR':Reps C D ys ds) (hlim:xs.length + ys.length≤lim) (hd:Nat.ble (d + 1) N=true)
    (h:∀ p' c'' a' w',Frm N rs ((d,.slice p' (xs ++ ys).length c'')::vs) a'→St w0 D0 D ((i,.own p' (xs ++ ys).length c'' (cs ++ ds) E C.n)::ls) w'→Reps C D (xs ++ ys) (cs ++ ds) →
      WL r P ops Q rest a' w'):
    WL r P ops Q (⟨some d,.call ⟨.builtin .append,#[x,y],#[T,T]⟩,ty,pos,aft,none⟩::rest) a w:=by
  have hown:w.ownsRow 0 E C.n (.slice p xs.length c) xs.length cs:=hS.each i _ hl
  obtain ⟨p',c'',w',h1,h2,h3,h4⟩:=run_append_any (ty:=ty) (c':=c') hT hown hsrc hR'.one hlim
  rw [← List.length_append] at h1 h2
  refine stepw (v:=.slice p' (xs ++ ys).length c'') (w':=w') hF ?_ hd fun a' hF'=>h p' c'' a' w' hF' ?_ (hR.append hR')
  · simp only [execOp,resolve,List.map_toArray,List.map_cons,List.map_nil,hF.eval hx,hF.eval hy,pure_bind,invoke,builtin,Sem.run_bind,h1,Result.andThen_ok]
    rfl
  · have hrow:∀ k,Value.ownBlock (.slice p xs.length c)=some k→k ∈ (LR.own p xs.length c cs E C.n).fp:=fun k hk=>by
      cases p with
      | none=>simp [Value.ownBlock] at hk
      | some ad=>simp only [Value.ownBlock,Option.some.injEq] at hk;simp [LR.fp,hk]
    refine hS.turn i _ (Below.grownBy hS.below h3 hS.below.size fun k hk=>(hS.low i _ hl k (hrow k hk)).1) (fun k hk hno=>h3.block k hk fun e=>hno _ hl (hrow k e.symm)) h2 (fun k hk=>?_)
    obtain ⟨ad,rfl,rfl⟩:=own_fp hk
    rcases h4 ad rfl with h | h
    · exact .inl h
    · exact .inr ⟨_,hl,by subst h;simp [LR.fp]⟩
theorem O.appendS {T E:TypeId} {x y:Operand} {xs ys:List α} {p q:Option Addr} {c':Nat} {ds:List Value} (i:Nat) (hT:growable P T E C.n=true) (hF:Frm N rs vs a)
    (hx:ev vs x=some (.slice p xs.length xs.length)) (hy:ev vs y=some (.slice q ys.length c')) (hS:St w0 D0 D ls w) (hXS:SRep C D xs p)
    (hsrc:Src w C.n q ys.length ds) (hR':Reps C D ys ds) (hpos:0 < ys.length) (hlim:xs.length + ys.length≤lim) (hd:Nat.ble (d + 1) N=true)
    (h:∀ p' c'' cs a' w',Frm N rs ((d,.slice p' (xs ++ ys).length c'')::vs) a'→St w0 D0 D ((i,.own p' (xs ++ ys).length c'' cs E C.n)::ls) w'→Reps C D (xs ++ ys) cs →
      WL r P ops Q rest a' w'):
    WL r P ops Q (⟨some d,.call ⟨.builtin .append,#[x,y],#[T,T]⟩,ty,pos,aft,none⟩::rest) a w:=by
  obtain ⟨inf,z,hu,hi,hz,hsz,hzs,hpos',hby⟩:=growable_spec hT
  rcases hsrc with ⟨h0,_⟩ | ⟨b,o,rfl,hlen,hcells⟩
  · omega
  have hds:∀ j u,ds[j]?=some u→w.cell? ((⟨b,o,none⟩:Addr).add j)=some u:=fun j u hj=>by rw [addr_add];exact hcells j u hj
  have hb2:(xs.length + ys.length) * inf.bytes≤140737488355328:=by
    have:(xs.length + ys.length) * inf.bytes≤lim * 128:=Nat.mul_le_mul hlim hby
    simp only [lim] at this;omega
  have hl63:((xs.length + ys.length:Nat):Int)≤9223372036854775807:=by simp only [lim] at hlim;omega
  obtain ⟨cs,hcs,hcells'⟩:∃ cs,Reps C D xs cs∧∀ ad,p=some ad→∀ j u,cs[j]?=some u→w.cell? (ad.add j)=some u:=by
    rcases hXS with rfl | ⟨b,o,all,E,fr,cs,e,hD,h3,h4⟩
    · exact ⟨[],rfl,fun ad _ j u hj=>by simp at hj⟩
    · refine ⟨cs,h3,fun ad had j u hj=>?_⟩
      subst e
      injection had with had
      subst had
      rw [addr_add,cell_of_heap (hS.stab b _ hD)];exact h4 j u hj
  have hcl:cs.length=xs.length * inf.size:=by rw [hsz];exact hcs.len
  have hlen':ds.length=ys.length * inf.size:=by rw [hsz];exact hlen
  obtain ⟨newCap,zs,hrun,hzl,hge,hle⟩:∃ newCap zs,(Builtin.append_ #[T,T] ty #[.slice p xs.length xs.length,.slice (some ⟨b,o,none⟩) ys.length c']).run P w =
      .ok (.slice (some ⟨w.heap.size,0,none⟩) (xs ++ ys).length newCap) (w.drew.alloc (.cells (cs ++ ds ++ zs).toArray E))∧zs.length=(newCap - (xs ++ ys).length) * C.n∧(xs ++ ys).length≤newCap∧newCap≤maxLen:=by
    have hcap:∀ old,xs.length + ys.length≤grownCap w (xs.length + ys.length) old E∧grownCap w (xs.length + ys.length) old E≤maxLen:=fun old=>
      ⟨grownCap_ge _ _ _ _,grownCap_le_maxLen _ _ _ _ (by simp only [lim,maxLen] at *;omega)⟩
    rw [List.length_append]
    cases p with
    | none=>
      have hx0:xs=[]:=by
        rcases hXS with h | ⟨b,o,all,E,fr,cs,e,_⟩
        · exact h
        · cases e
      subst hx0
      simp only [Reps] at hcs
      subst hcs
      have hr:=run_append_nil (P:=P) w T ty E inf z hu hi hz ⟨b,o,none⟩ ys.length c' ds hlen' hds hpos (by simpa using hl63) (by simp only [List.length_nil,Nat.zero_add] at hb2;omega)
      refine ⟨_,(Builtin.zeroCells z.cells (grownCap w ys.length 0 E - ys.length)).toList,?_,?_,by simpa using (hcap 0).1,by simpa using (hcap 0).2⟩
      · simp only [List.length_nil,Nat.zero_add,List.nil_append]
        rw [hr]
        congr 3
        apply Array.ext'
        simp
      · simp [size_zeroCells,hzs]
    | some ad=>
      have hr:=run_append_grow (P:=P) w T ty E inf z hu hi hz ad xs.length xs.length cs hcl (hcells' ad rfl) ⟨b,o,none⟩ ys.length c' ds hlen' hds (by omega) hl63 (growslice_fits (by omega) hb2)
      refine ⟨_,(Builtin.zeroCells z.cells (grownCap w (xs.length + ys.length) xs.length E - (xs.length + ys.length))).toList,?_,?_,(hcap xs.length).1,(hcap xs.length).2⟩
      · rw [hr]
        congr 3
        apply Array.ext'
        simp
      · simp [size_zeroCells,hzs]
  refine stepw (v:=.slice (some ⟨w.heap.size,0,none⟩) (xs ++ ys).length newCap) (w':=w.drew.alloc (.cells (cs ++ ds ++ zs).toArray E)) hF ?_ hd fun a' hF'=>h _ _ _ a' _ hF' ?_ (hcs.append hR')
  · simp only [execOp,resolve,List.map_toArray,List.map_cons,List.map_nil,hF.eval hx,hF.eval hy,pure_bind,invoke,builtin,Sem.run_bind,hrun,Result.andThen_ok]
    rfl
  · have hlenAll:(cs ++ ds).length=(xs ++ ys).length * C.n:=(hcs.append hR').len
    refine hS.drew.turn i _ (hS.below.drew.alloc hS.below.size _) (fun k hk _=>alloc_old _ hk) ⟨hlenAll,.inr ⟨w.heap.size,newCap,_,rfl,Nat.zero_le _,alloc_heap (w:=w.drew) _,hge,hle,?_,?_⟩⟩ (fun k hk=>.inl ?_)
    · simp only [List.size_toArray,List.length_append (bs:=zs),hlenAll,hzl,← Nat.add_mul]
      congr 1;omega
    · rw [← hlenAll];exact List.take_left
    · simp only [LR.fp,List.mem_singleton] at hk;subst hk;exact Nat.le_refl _
theorem St.freeze {i:Nat} {p:Option Addr} {xs:List α} {c:Nat} {cs:List Value} {E:TypeId} (hS:St w0 D0 D ls w) (hl:lk ls i=some (.own p xs.length c cs E C.n)) (hR:Reps C D xs cs):
    ∃ D',D.le D'∧SRep C D' xs p∧St w0 D0 D' ((i,.gone)::ls) w:=by
  have hown:w.ownsRow 0 E C.n (.slice p xs.length c) xs.length cs:=hS.each i _ hl
  rcases hown.2 with ⟨e,h0⟩ | ⟨g,cap,cur,e,hbg,hg,hn,hm,hs,ht⟩
  · refine ⟨D,Stab.le.refl D,.inl (List.eq_nil_of_length_eq_zero h0),?_⟩
    exact hS.turn i _ hS.below (fun _ _ _=>rfl) trivial (fun b hb=>by simp [LR.fp] at hb)
  · injection e with e1 e2 e3
    subst e1
    have hlow:=hS.low i _ hl g (by simp [LR.fp])
    have hle:D.le (fun b=>if b=g then some (.cells cur E (0,0)) else D b):=fun b o hb=>by
      by_cases hbg:b=g
      · subst hbg;rw [hlow.2] at hb;cases hb
      · simp only [hbg,if_false];exact hb
    refine ⟨_,hle,.inr ⟨g,0,cur,E,(0,0),cs,rfl,by simp,hR.mono hle,fun j u hu=>?_⟩,?_⟩
    · rw [Nat.zero_add,← Array.getElem?_toList]
      rw [← ht,List.getElem?_take] at hu
      split at hu
      · exact hu
      · cases hu
    · have hS':=hS.turn i .gone hS.below (fun _ _ _=>rfl) trivial (fun b hb=>by simp [LR.fp] at hb)
      refine ⟨hS'.below,hS'.le.trans hle,fun b hb=>?_,fun b o hb=>?_,hS'.each,fun j s hj b hb=>⟨(hS'.low j s hj b hb).1,?_⟩,hS'.sep⟩
      · by_cases hbg:b=g
        · subst hbg;exact .inr hlow.1
        · simp only [hbg,if_false] at hb;exact hS'.new b hb
      · by_cases hbg:b=g
        · subst hbg;simp only [if_true,Option.some.injEq] at hb;rw [hg,hb]
        · simp only [hbg,if_false] at hb;exact hS'.stab b o hb
      · have hne:b ≠ g:=fun e=>by
          subst e
          rcases lk_cons hj with ⟨_,rfl⟩ | ⟨hji,hj'⟩
          · simp [LR.fp] at hb
          · exact hS.sep j i s _ hj' hl hji b hb (by simp [LR.fp])
        simp only [hne,if_false]
        exact (hS'.low j s hj b hb).2
end
end Go.Proofs.YtgdfljiliflhfaaGreatDoor.Rt
