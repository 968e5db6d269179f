/- The small program logic of this seat, part 12: slices that are made; tables (slices of slices) that the call owns; elements written. Under no conditions but those that each rule names. -/
import Derived.Test.YtgdfljiliflhfaaGreatDoorC3Rt11
import Derived.Laws.MakeOwn
set_option linter.unusedSimpArgs false
set_option linter.unusedVariables false
namespace Go.Proofs.YtgdfljiliflhfaaGreatDoor.Rt
open Go Go.RowKit
section
variable {P:Program} {N:Nat} {rs:List Nat} {r:Option Nat} {vs:List (Nat × Value)} {a:Act} {w w0:World} {ops:Array Oper} {Q:Exit→Act→World→Prop} {rest:List Oper}
variable {d:Nat} {dst:Option Nat} {ty:TypeId} {pos:String} {aft:Array Edge} {gd:Option (Nat × Bool)} {v:Value} {D0 D:Stab} {ls:List (Nat × LR)}
variable {α:Type} {C:Codec α}
def mlim:Nat:=1048576
theorem made_eq (z:List Value) (n:Nat):(madeCells z.toArray (n * z.length)).toList=(List.replicate n z).flatten:=by
  rcases Nat.eq_zero_or_pos z.length with h0 | hp
  · have hz:z=[]:=List.eq_nil_of_length_eq_zero h0
    subst hz
    apply List.ext_getElem?
    intro i
    simp [madeCells]
  · apply List.ext_getElem
    · simp [madeCells,List.length_flatten,Nat.mul_comm]
    · intro i h1 h2
      have hi:i < n * z.length:=by simpa [madeCells] using h1
      simp only [madeCells,Array.toList_map,List.getElem_map,Array.toList_range,List.getElem_range]
      induction n generalizing i with
      | zero=>simp at hi
      | succ n ih=>
        simp only [List.replicate_succ,List.flatten_cons]
        by_cases hlt:i < z.length
        · rw [List.getElem_append_left hlt]
          simp [Nat.mod_eq_of_lt hlt,hlt]
        · have hge:z.length≤i:=Nat.le_of_not_lt hlt
          rw [List.getElem_append_right hge]
          have hi':i - z.length < n * z.length:=by rw [Nat.add_mul,Nat.one_mul] at hi;omega
          have:=ih (i - z.length) (by simpa [madeCells] using hi') (by simpa [List.length_flatten,Nat.mul_comm] using hi') hi'
          rw [← this]
          simp only [List.size_toArray]
          rw [show i % z.length=(i - z.length) % z.length from (Nat.mod_eq_sub_mod hge)]
theorem reps_replicate {z:List Value} {z0:α} (hz:C.rep D z0 z):∀ n,Reps C D (List.replicate n z0) (List.replicate n z).flatten
  | 0=>rfl
  | n + 1=>⟨z,_,rfl,hz,reps_replicate hz n⟩
theorem O.makeRow {T E:TypeId} {x y:Operand} {n:Int} {z:List Value} (z0:α) (i:Nat) (hT:growable P T E C.n=true) (hz:zeroCells P E=some z) (hz0:C.rep D z0 z) (hF:Frm N rs vs a)
    (hx:ev vs x=some (.int .i64 n)) (hy:ev vs y=some (.int .i64 n)) (hS:St w0 D0 D ls w) (hn:0≤n∧n≤(mlim:Int)) (hd:Nat.ble (d + 1) N=true)
    (h:∀ p cs a' w',Frm N rs ((d,.slice p (List.replicate n.toNat z0).length (List.replicate n.toNat z0).length)::vs) a' →
      St w0 D0 D ((i,.own p (List.replicate n.toNat z0).length (List.replicate n.toNat z0).length cs E C.n)::ls) w'→Reps C D (List.replicate n.toNat z0) cs→WL r P ops Q rest a' w'):
    WL r P ops Q (⟨some d,.makeSlice T x y,ty,pos,aft,none⟩::rest) a w:=by
  obtain ⟨inf,zv,hu,hi,hzv,hsz,hzs,hpos,hby⟩:=growable_spec hT
  have hzz:zv.cells.toList=z:=by
    unfold zeroCells at hz
    simp only [hi,Option.bind_some,hzv,Option.map_some,Option.some.injEq] at hz
    exact hz
  obtain ⟨h0,h1⟩:=hn
  obtain ⟨m,rfl⟩:=Int.eq_ofNat_of_zero_le h0
  have hm:m≤1048576:=by simp only [mlim] at h1;omega
  have hbb:inf.bytes * m≤281474976710656:=Nat.le_trans (Nat.mul_le_mul hby hm) (by decide)
  obtain ⟨w',h2,h3,h4⟩:=run_make_full w 0 T E inf zv C.n hu hi hzv hsz .i64 .i64 m hbb (by simp only [maxLen];omega) (Nat.zero_le _)
  have hl:(List.replicate (Int.toNat (m:Int)) z0).length=m:=by simp
  have hcs:(madeCells zv.cells (m * C.n)).toList=(List.replicate m z).flatten:=by
    have:=made_eq z m
    rw [← hzz] at this ⊢
    simpa [hzs] using this
  refine stepw (v:=.slice (some ⟨w.heap.size,0,none⟩) m m) (w':=w') hF ?_ hd fun a' hF'=>h (some ⟨w.heap.size,0,none⟩) (List.replicate m z).flatten a' w' (by rw [hl];exact hF') ?_ (by simpa using reps_replicate hz0 m)
  · simp only [execOp,hF.eval hx,hF.eval hy,Sem.run_bind,h2,Result.andThen_ok];rfl
  · rw [hl]
    rw [hcs] at h3
    refine hS.turn i _ (Below.grownBy hS.below h4 hS.below.size (fun k hk=>by cases hk)) (fun k hk _=>h4.block k hk (by simp)) h3 (fun k hk=>.inl ?_)
    simp only [LR.fp,List.mem_singleton] at hk;omega
def norow:Row:=⟨none,0,[]⟩
def rowOf (rows:List Row) (i:Nat):Row:=rows.getD i norow
def RepM (C:Codec α) (D:Stab) (xs:List (List α)) (rows:List Row):Prop:=
  rows.length=xs.length∧∀ (i:Nat) (x:List α) (r:Row),xs[i]?=some x→rows[i]?=some r→r.len=x.length∧Reps C D x r.cs
theorem RepM.mono {D':Stab} {xs:List (List α)} {rows:List Row} (h:RepM C D xs rows) (hle:D.le D'):RepM C D' xs rows:=
  ⟨h.1,fun i x r hx hr=>⟨(h.2 i x r hx hr).1,(h.2 i x r hx hr).2.mono hle⟩⟩
theorem RepM.at {xs:List (List α)} {rows:List Row} (h:RepM C D xs rows) {i:Nat} (hi:i < xs.length):
    xs[i]?=some (xs.getD i [])∧rows[i]?=some (rowOf rows i)∧(rowOf rows i).len=(xs.getD i []).length∧Reps C D (xs.getD i []) (rowOf rows i).cs:=by
  have hr:i < rows.length:=by rw [h.1];exact hi
  have e1:xs[i]?=some (xs.getD i []):=by simp [List.getD,hi]
  have e2:rows[i]?=some (rowOf rows i):=by simp [rowOf,List.getD,hr]
  obtain ⟨h1,h2⟩:=h.2 i _ _ e1 e2
  exact ⟨e1,e2,h1,h2⟩
theorem St.turn2 {w':World} (h:St w0 D0 D ls w) (i k:Nat) (hik:i ≠ k) (r:LR)
    (hb:Below w0.heap.size w0 w') (hold:∀ b,b < w.heap.size→(∀ r0,lk ls i=some r0→b ∉ r0.fp)→w'.heap[b]?=w.heap[b]?)
    (hr:r.holds w') (hfp:∀ b ∈ r.fp,w.heap.size≤b∨(∃ r0,lk ls i=some r0∧b ∈ r0.fp)∨∃ r0,lk ls k=some r0∧b ∈ r0.fp):St w0 D0 D ((i,r)::(k,.gone)::ls) w':=by
  have hw0:w0.heap.size≤w.heap.size:=h.below.size
  have hD:∀ b o,D b=some o→w'.heap[b]?=some o:=fun b o hbo=>by
    rw [hold b (h.stab.lt hbo) (fun r0 h0 hm=>by have:=(h.low i r0 h0 b hm).2;rw [hbo] at this;cases this)]
    exact h.stab b o hbo
  have sub:∀ j s,lk ((k,.gone)::ls) j=some s→s=.gone∨(j ≠ k∧lk ls j=some s):=fun j s hj=>by
    rcases lk_cons hj with ⟨rfl,rfl⟩ | ⟨hne,hj⟩
    · exact .inl rfl
    · exact .inr ⟨hne,hj⟩
  have hother:∀ j s,lk ls j=some s→j ≠ i→j ≠ k→∀ b ∈ s.fp,b ∉ r.fp:=fun j s hj hne hnk b hb hm=>by
    rcases hfp b hm with hge | ⟨r0,h0,hm0⟩ | ⟨r0,h0,hm0⟩
    · have:=LR.holds_lt (h.each j s hj) hb;omega
    · exact h.sep j i s r0 hj h0 hne b hb hm0
    · exact h.sep j k s r0 hj h0 hnk b hb hm0
  refine ⟨hb,h.le,h.new,hD,fun j s hj=>?_,fun j s hj b hbm=>?_,fun j m s t hj hm hne b hbs hbt=>?_⟩
  · rcases lk_cons hj with ⟨rfl,rfl⟩ | ⟨hne,hj⟩
    · exact hr
    · rcases sub j s hj with rfl | ⟨hnk,hj⟩
      · trivial
      · exact LR.holds_of_eq (h.each j s hj) fun b hbm=>hold b (LR.holds_lt (h.each j s hj) hbm) fun r0 h0 hm0=>h.sep j i s r0 hj h0 hne b hbm hm0
  · rcases lk_cons hj with ⟨rfl,rfl⟩ | ⟨hne,hj⟩
    · rcases hfp b hbm with hge | ⟨r0,h0,hm0⟩ | ⟨r0,h0,hm0⟩
      · refine ⟨by omega,?_⟩
        cases hq:D b with
        | none=>rfl
        | some o=>have:=h.stab.lt hq;omega
      · exact h.low _ r0 h0 b hm0
      · exact h.low _ r0 h0 b hm0
    · rcases sub j s hj with rfl | ⟨hnk,hj⟩
      · simp [LR.fp] at hbm
      · exact h.low j s hj b hbm
  · rcases lk_cons hj with ⟨rfl,rfl⟩ | ⟨hnj,hj'⟩
    · rcases lk_cons hm with ⟨rfl,rfl⟩ | ⟨hnm,hm'⟩
      · exact hne rfl
      · rcases sub m t hm' with rfl | ⟨hmk,hm''⟩
        · simp [LR.fp] at hbt
        · exact hother m t hm'' hnm hmk b hbt hbs
    · rcases sub j s hj' with rfl | ⟨hjk,hj''⟩
      · simp [LR.fp] at hbs
      · rcases lk_cons hm with ⟨rfl,rfl⟩ | ⟨hnm,hm'⟩
        · exact hother j s hj'' hnj hjk b hbs hbt
        · rcases sub m t hm' with rfl | ⟨hmk,hm''⟩
          · simp [LR.fp] at hbt
          · exact h.sep j m s t hj'' hm'' hne b hbs hbt
theorem hdr_of {p:Option Addr} {n c:Nat} {cs:List Value} {E:TypeId} {sz:Nat} (h:(LR.own p n c cs E sz).holds w):(⟨p.map (·.block),n,cs⟩:Row).hdr=.slice p n n:=by
  rcases h.2 with ⟨e,h0⟩ | ⟨g,cap,cur,e,_⟩
  · injection e with e1;subst e1;rfl
  · injection e with e1;subst e1;rfl
theorem lies_of {p:Option Addr} {n:Nat} {cs:List Value} {E:TypeId} {sz:Nat} (h:(LR.own p n n cs E sz).holds w):(⟨p.map (·.block),n,cs⟩:Row).lies w E:=by
  rcases h.2 with ⟨e,h0⟩ | ⟨g,cap,cur,e,hb,hg,hn,hm,hs,ht⟩
  · injection e with e1;subst e1;exact h0
  · injection e with e1 e2 e3
    subst e1;subst e3
    show w.heap[g]?=some (.cells cs.toArray E (0,0))
    rw [hg]
    have:cur.toList=cs:=by rw [← ht,List.take_of_length_le (by simp [hs])]
    rw [← this]
theorem blks_set {rows:List Row} {i:Nat} {r:Row} {k:Nat} (h:k ∈ blks (rows.set i r)):k ∈ blks rows∨r.blk=some k:=by
  obtain ⟨s,hs,hk⟩:=mem_blks h
  rcases List.mem_or_eq_of_mem_set hs with hs | rfl
  · exact .inl (blk_mem hs hk)
  · exact .inr hk
theorem nodup_set {rows:List Row} {r:Row}:∀ {i:Nat},(blks rows).Nodup→(∀ k,r.blk=some k→k ∉ blks rows)→(blks (rows.set i r)).Nodup:=by
  induction rows with
  | nil=>intro i h _;simpa using h
  | cons s rows ih=>
    intro i h hr
    cases i with
    | zero=>
      simp only [List.set_cons_zero]
      cases hb:r.blk with
      | none=>
        have:blks (r::rows)=blks rows:=by simp [blks,hb]
        rw [this]
        cases hs:s.blk with
        | none=>simpa [blks,hs] using h
        | some k=>simp only [blks,List.filterMap_cons,hs] at h;exact (List.nodup_cons.1 h).2
      | some k=>
        have:blks (r::rows)=k::blks rows:=by simp [blks,hb]
        rw [this]
        have hk:=hr k hb
        cases hs:s.blk with
        | none=>simp only [blks,List.filterMap_cons,hs] at h hk;exact List.nodup_cons.2 ⟨hk,h⟩
        | some k'=>
          simp only [blks,List.filterMap_cons,hs] at h hk
          exact List.nodup_cons.2 ⟨fun hin=>hk (List.mem_cons_of_mem _ hin),(List.nodup_cons.1 h).2⟩
    | succ i=>
      simp only [List.set_cons_succ]
      cases hs:s.blk with
      | none=>
        have e1:∀ l,blks (s::l)=blks l:=fun l=>by simp [blks,hs]
        rw [e1] at h ⊢
        exact ih h (fun k hk=>by have:=hr k hk;rwa [e1] at this)
      | some k'=>
        have e1:∀ l,blks (s::l)=k'::blks l:=fun l=>by simp [blks,hs]
        rw [e1] at h ⊢
        obtain ⟨h1,h2⟩:=List.nodup_cons.1 h
        refine List.nodup_cons.2 ⟨fun hin=>?_,ih h2 (fun k hk=>by have:=hr k hk;rw [e1] at this;exact fun hin=>this (List.mem_cons_of_mem _ hin))⟩
        rcases blks_set hin with hin | hin
        · exact h1 hin
        · have:=hr k' hin;rw [e1] at this;exact this (by simp)
theorem RepM.setRow {xs:List (List α)} {rows:List Row} {x:List α} {r:Row} {i:Nat} (hM:RepM C D xs rows) (h1:r.len=x.length) (h2:Reps C D x r.cs):RepM C D (xs.set i x) (rows.set i r):=by
  refine ⟨by simp [hM.1],fun j y s hy hs=>?_⟩
  rw [List.getElem?_set] at hy hs
  by_cases hij:i=j
  · subst hij
    simp only [if_true] at hy hs
    split at hy <;> split at hs <;> first | (cases hy;done) | (cases hs;done) | skip
    injection hy with hy;injection hs with hs
    subst hy;subst hs
    exact ⟨h1,h2⟩
  · simp only [hij,if_false] at hy hs
    exact hM.2 j y s hy hs
theorem run_store_of {T:TypeId} {x y:Operand} {b o:Nat} {u:Value} {cs us:List Value} {E:TypeId} {isA:Bool} (hT:tsz P T=some (isA,us.length)) (hF:Frm N rs vs a)
    (hx:ev vs x=some (.pointer (some ⟨b,o,none⟩))) (hy:ev vs y=some u) (hu:u.cells.toList=us) (h1:us.all (·.oneCell')=true)
    (hg:w.heap[b]?=some (.cells cs.toArray E (0,0))) (hfit:o + us.length≤cs.length):
    (execOp a.eval (⟨none,.store T x y,ty,pos,aft,none⟩:Oper)).run P w=.ok .skip (w.setRow b (splice cs o us).toArray):=by
  have hst:=run_storeCells_at P b o E us 0 cs.toArray w hg (by simpa using hfit) (fun z hz=>(List.all_eq_true.1 h1) z hz)
  have hsz:=run_sizeOf_of (P:=P) (w:=w) hT
  have hlen:u.cells.size=us.length:=by rw [← hu];simp
  simp only [Nat.add_zero,List.append_assoc] at hst
  simp [execOp,hF.eval hx,hF.eval hy,Instr.storeAt,Instr.sureAddr,storeVar,hsz,hlen,hu,hst,splice]
theorem splice_set {β:Type} {f:β→Value} {rows:List β} {r:β} {u:Value} {i:Nat} (hi:i < rows.length) (hu:f r=u):splice (rows.map f) (0 + i * 1) [u]=(rows.set i r).map f:=by
  simp only [splice,Nat.mul_one,Nat.zero_add,List.length_singleton,List.map_set,hu]
  rw [List.set_eq_take_append_cons_drop]
  simp [hi]
theorem O.setRow {T:TypeId} {x y:Operand} {b sz:Nat} {rows:List Row} {E Ei:TypeId} {i:Int} {p:Option Addr} {xs:List (List α)} {l:List α} {cs:List Value} (im ir:Nat) (hne:im ≠ ir) (hT:tsz P T=some (false,1)) (hi:0≤i∧i < (xs.length:Int)) (hF:Frm N rs vs a)
    (hx:ev vs x=some (.pointer (some ⟨b,0 + i.toNat * 1,none⟩))) (hy:ev vs y=some (.slice p l.length l.length)) (hS:St w0 D0 D ls w) (hl:lk ls im=some (.mat b rows E Ei)) (hr:lk ls ir=some (.own p l.length l.length cs Ei sz))
    (hM:RepM C D xs rows) (hR:Reps C D l cs)
    (h:∀ rows' a' w',Frm N rs vs a'→St w0 D0 D ((im,.mat b rows' E Ei)::(ir,.gone)::ls) w'→RepM C D (xs.set i.toNat l) rows'→WL r P ops Q rest a' w'):
    WL r P ops Q (⟨none,.store T x y,ty,pos,aft,none⟩::rest) a w:=by
  have hh:=hS.each im _ hl
  have hlow:=hS.low im _ hl b (by simp [LR.fp])
  have hrow:=hS.each ir _ hr
  have hlt:i.toNat < rows.length:=by rw [hM.1];omega
  have hb:w.heap[b]?=some (.cells (rows.map Row.hdr).toArray E (0,0)):=hh.1
  have hr':=run_store_of (P:=P) (a:=a) (ty:=ty) (pos:=pos) (aft:=aft) (us:=[Value.slice p l.length l.length]) hT hF hx hy rfl rfl hb (by simp;omega)
  rw [splice_set (f:=Row.hdr) (r:=⟨p.map (·.block),l.length,cs⟩) hlt (hdr_of hrow)] at hr'
  have hfpr:∀ k,(⟨p.map (·.block),l.length,cs⟩:Row).blk=some k→k ∈ (LR.own p l.length l.length cs Ei sz).fp:=fun k hk=>by
    cases p with
    | none=>simp at hk
    | some ad=>simp only [Option.map_some,Option.some.injEq] at hk;simp [LR.fp,hk]
  have hnb:∀ k,(⟨p.map (·.block),l.length,cs⟩:Row).blk=some k→k ≠ b∧k ∉ blks rows:=fun k hk=>by
    have:=hS.sep ir im _ _ hr hl (Ne.symm hne) k (hfpr k hk)
    simp only [LR.fp,List.mem_cons,not_or] at this
    exact this
  refine wpListIn_plain rfl fun K hK=>⟨fun _ _=>trivial,?_⟩
  rw [show (Fw r).round=r from rfl,semAt_of hr' (by intro d h;cases h)]
  refine hK _ _ (h _ _ _ (hF.put_none undef) ?_ (hM.setRow (r:=⟨p.map (·.block),l.length,cs⟩) rfl hR))
  obtain ⟨hnd1,hnd2⟩:=List.nodup_cons.1 hh.2.1
  refine hS.turn2 im ir hne _ (Below.setRow hS.below hlow.1 _) (fun k hk hno=>setRow_heap_other (fun e=>by subst e;exact hno _ hl (by simp [LR.fp]))) ⟨setRow_heap_self hb,?_,?_⟩ (fun k hk=>.inr ?_)
  · refine List.nodup_cons.2 ⟨fun hin=>?_,nodup_set hnd2 fun k hk=>(hnb k hk).2⟩
    rcases blks_set hin with hin | hin
    · exact hnd1 hin
    · exact (hnb b hin).1 rfl
  · intro s hs
    rcases List.mem_or_eq_of_mem_set hs with hs | rfl
    · exact Row.lies_of_eq (hh.2.2 s hs) fun k hk=>setRow_heap_other (fun e=>by subst e;exact hnd1 (blk_mem hs hk))
    · exact Row.lies_of_eq (lies_of hrow) fun k hk=>setRow_heap_other (hnb k hk).1
  · simp only [LR.fp,List.mem_cons] at hk
    rcases hk with rfl | hk
    · exact .inl ⟨_,hl,by simp [LR.fp]⟩
    · rcases blks_set hk with hk | hk
      · exact .inl ⟨_,hl,by simp [LR.fp,hk]⟩
      · exact .inr ⟨_,hr,hfpr k hk⟩
theorem St.ownPtr {i:Nat} {p:Option Addr} {n c sz:Nat} {cs:List Value} {E:TypeId} {j:Int} (hS:St w0 D0 D ls w) (hl:lk ls i=some (.own p n c cs E sz)) (hj:0≤j∧j < (n:Int)):∃ b,p=some ⟨b,0,none⟩:=by
  rcases (hS.each i _ hl).2 with ⟨e,h0⟩ | ⟨g,cap,cur,e,_⟩
  · omega
  · injection e with e1;exact ⟨g,e1⟩
theorem Y.indexOwn {T E:TypeId} {x y:Operand} {b n c sz:Nat} {p:Option Addr} {isA:Bool} {i:Int} (hp:p=some ⟨b,0,none⟩) (hT:P.underlying T=some (.slice E)) (hE:tsz P E=some (isA,sz)) (hj:0≤i∧i < (n:Int)) (hF:Frm N rs vs a)
    (hx:ev vs x=some (.slice p n c)) (hy:ev vs y=some (.int .i64 i)):Yields P ⟨dst,.indexAddr T x y,ty,pos,aft,gd⟩ a w (.pointer (some ⟨b,0 + i.toNat * sz,none⟩)):=by
  subst hp;exact Y.indexSl hT hE hF hx hy hj.1 hj.2
end
end Go.Proofs.YtgdfljiliflhfaaGreatDoor.Rt
