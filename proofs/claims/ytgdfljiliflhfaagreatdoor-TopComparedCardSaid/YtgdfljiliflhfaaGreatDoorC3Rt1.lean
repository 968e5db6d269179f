/- The small program logic of this seat, part 1: frames by live slots, stable memory, the call's own blocks; rules for single operations. Under no conditions. -/
import Derived.Tactics
import Derived.Laws.Rows
import Derived.Laws.Cells
import Derived.Laws.CopyRow
import Derived.Below
import Derived.Laws.OwnMore
import Derived.KernelRfl
import Derived.RangeFuncLeaves
import Derived.OrdersIn
import Derived.TacticsIn
set_option linter.unusedVariables false
set_option linter.unusedSimpArgs false
namespace Go.Proofs.YtgdfljiliflhfaaGreatDoor.Rt
open Go Go.RowKit
def look:List (Nat × Value)→Nat→Option Value
  | [],_=>none
  | (i,v)::r,j=>bif Nat.beq i j then some v else look r j
def ev (vs:List (Nat × Value)):Operand→Option Value
  | .tmp t=>look vs t
  | .const v=>some v
  | .global g=>some (.pointer (some ⟨g,0,none⟩))
  | .func f=>some (.func (.func f) #[] #[])
abbrev iv (n:Int):Value:=.int .i64 n
def mk (r:Nat):Deferred:={ target:=.collected r,args:=#[] }
structure Frm (N:Nat) (rs:List Nat) (vs:List (Nat × Value)) (a:Act):Prop where
  size:a.tmps.size=N
  defers:a.defers=rs.map mk
  get:∀ i v,look vs i=some v→a.tmps[i]?=some v
theorem Frm.eval {N:Nat} {rs:List Nat} {vs:List (Nat × Value)} {a:Act} (h:Frm N rs vs a) {x:Operand} {v:Value} (hx:ev vs x=some v):a.eval x=v:=by
  cases x with
  | tmp t=>
    simp only [ev] at hx
    obtain ⟨h1,h2⟩:=Array.getElem?_eq_some_iff.1 (h.get _ _ hx)
    simp [Act.eval,h1,h2]
  | const c=>simp only [ev,Option.some.injEq] at hx;exact hx
  | global g=>simp only [ev,Option.some.injEq] at hx;exact hx
  | func f=>simp only [ev,Option.some.injEq] at hx;exact hx
theorem Frm.put {N:Nat} {rs:List Nat} {vs:List (Nat × Value)} {a:Act} (h:Frm N rs vs a) (d:Nat) (v:Value) (hd:Nat.ble (d + 1) N=true):
    Frm N rs ((d,v)::vs) (a.put (some d) v):=by
  have hd':d < N:=Nat.le_of_ble_eq_true hd
  refine ⟨by simp [Act.put,h.size],by simp [Act.put,h.defers],fun i u hu=>?_⟩
  simp only [look] at hu
  simp only [Act.put,Array.getElem?_setIfInBounds]
  cases hb:Nat.beq d i with
  | true=>
    have:d=i:=Nat.eq_of_beq_eq_true hb
    subst this
    simp only [hb,cond_true,Option.some.injEq] at hu
    simp [h.size,hd',hu]
  | false=>
    have:d ≠ i:=by intro e;subst e;simp at hb
    simp only [hb,cond_false] at hu
    simp [this,h.get _ _ hu]
theorem Frm.put_none {N:Nat} {rs:List Nat} {vs:List (Nat × Value)} {a:Act} (h:Frm N rs vs a) (v:Value):Frm N rs vs (a.put none v):=h
def AllF (vs:List (Nat × Value)):List (Nat × Value)→Prop
  | []=>True
  | (i,v)::r=>look vs i=some v∧AllF vs r
theorem AllF.get {vs:List (Nat × Value)}:∀ {us:List (Nat × Value)},AllF vs us→∀ i v,look us i=some v→look vs i=some v
  | [],_,i,v,h=>by simp [look] at h
  | (j,u)::r,h,i,v,hl=>by
    simp only [look] at hl
    cases hb:Nat.beq j i with
    | true=>
      have:j=i:=Nat.eq_of_beq_eq_true hb
      subst this
      simp only [hb,cond_true,Option.some.injEq] at hl
      rw [← hl];exact h.1
    | false=>
      simp only [hb,cond_false] at hl
      exact h.2.get i v hl
theorem Frm.weak {N:Nat} {rs:List Nat} {vs us:List (Nat × Value)} {a:Act} (h:Frm N rs vs a) (hu:AllF vs us):Frm N rs us a:=
  ⟨h.size,h.defers,fun i v hl=>h.get i v (hu.get i v hl)⟩
theorem AF {vs:List (Nat × Value)}:∀ {us:List (Nat × Value)},(us.map fun p=>look vs p.1)=(us.map fun p=>some p.2)→AllF vs us
  | [],_=>trivial
  | (i,v)::r,h=>by
    simp only [List.map_cons,List.cons.injEq] at h
    exact ⟨h.1,AF h.2⟩
abbrev Stab:=Nat→Option Obj
def Stab.le (D D':Stab):Prop:=∀ b o,D b=some o→D' b=some o
def Stab.on (D:Stab) (w:World):Prop:=∀ b o,D b=some o→w.heap[b]?=some o
theorem Stab.le.refl (D:Stab):D.le D:=fun _ _ h=>h
theorem Stab.le.trans {D D' D'':Stab} (h:D.le D') (h':D'.le D''):D.le D'':=fun b o x=>h' b o (h b o x)
theorem Stab.on.lt {D:Stab} {w:World} (h:D.on w) {b:Nat} {o:Obj} (hb:D b=some o):b < w.heap.size:=
  (Array.getElem?_eq_some_iff.1 (h b o hb)).1
structure Row where
  blk:Option Nat
  len:Nat
  cs:List Value
def Row.hdr (r:Row):Value:=.slice (r.blk.map fun k=>⟨k,0,none⟩) r.len r.len
def Row.lies (w:World) (E:TypeId) (r:Row):Prop:=match r.blk with
  | some k=>w.heap[k]?=some (.cells r.cs.toArray E (0,0))
  | none=>r.len=0
def blks (rows:List Row):List Nat:=rows.filterMap (·.blk)
inductive LR where
  /-- a block of cells, known whole -/
  | cells (b:Nat) (cs:List Value) (E:TypeId)
  /-- a slice that owns its block: n elements of sz cells: cs -/
  | own (p:Option Addr) (n c:Nat) (cs:List Value) (E:TypeId) (sz:Nat)
  /-- a block of another kind: a map, a loop's record -/
  | obj (b:Nat) (o:Obj)
  /-- the blocks that ranges over functions leave among the deferred calls -/
  | marks (rs:List Nat)
  /-- a slice of slices: a block of rows' slices, and the rows' blocks -/
  | mat (b:Nat) (rows:List Row) (E Ei:TypeId)
  /-- blocks that lie as they lay -/
  | snap (S:List Nat) (hp:Nat→Option Obj)
  | gone
def LR.fp:LR→List Nat
  | .cells b _ _=>[b]
  | .own p _ _ _ _ _=>match p with | some a=>[a.block] | none=>[]
  | .obj b _=>[b]
  | .marks rs=>rs
  | .mat b rows _ _=>b::blks rows
  | .snap S _=>S
  | .gone=>[]
def LR.holds (w:World):LR→Prop
  | .cells b cs E=>w.heap[b]?=some (.cells cs.toArray E (0,0))
  | .own p n c cs E sz=>w.ownsRow 0 E sz (.slice p n c) n cs
  | .obj b o=>w.heap[b]?=some o
  | .marks rs=>rs.Nodup∧∀ b ∈ rs,w.heap[b]?=some (.deferred (some []))
  | .mat b rows E Ei=>w.heap[b]?=some (.cells (rows.map Row.hdr).toArray E (0,0))∧(b::blks rows).Nodup∧∀ r ∈ rows,r.lies w Ei
  | .snap S hp=>∀ b ∈ S,∃ o,hp b=some o∧w.heap[b]?=some o
  | .gone=>True
def lk:List (Nat × LR)→Nat→Option LR
  | [],_=>none
  | (i,v)::r,j=>bif Nat.beq i j then some v else lk r j
theorem lk_same (i:Nat) (r:LR) (ls:List (Nat × LR)):lk ((i,r)::ls) i=some r:=by simp [lk]
theorem lk_cons {i:Nat} {r:LR} {ls:List (Nat × LR)} {j:Nat} {x:LR} (h:lk ((i,r)::ls) j=some x):(j=i∧x=r)∨(j ≠ i∧lk ls j=some x):=by
  simp only [lk] at h
  cases hb:Nat.beq i j with
  | true=>
    have:i=j:=Nat.eq_of_beq_eq_true hb
    subst this
    simp only [hb,cond_true,Option.some.injEq] at h
    exact .inl ⟨rfl,h.symm⟩
  | false=>
    have:i ≠ j:=by intro e;subst e;simp at hb
    simp only [hb,cond_false] at h
    exact .inr ⟨fun e=>this e.symm,h⟩
structure St (w0:World) (D0 D:Stab) (ls:List (Nat × LR)) (w:World):Prop where
  below:Below w0.heap.size w0 w
  le:D0.le D
  new:∀ b,D b ≠ none→D0 b ≠ none∨w0.heap.size≤b
  stab:D.on w
  each:∀ i r,lk ls i=some r→r.holds w
  low:∀ i r,lk ls i=some r→∀ b ∈ r.fp,w0.heap.size≤b∧D b=none
  sep:∀ i j r s,lk ls i=some r→lk ls j=some s→i ≠ j→∀ b ∈ r.fp,b ∉ s.fp
theorem mem_blks {rows:List Row} {k:Nat} (h:k ∈ blks rows):∃ r ∈ rows,r.blk=some k:=by simpa [blks] using h
theorem blk_mem {rows:List Row} {r:Row} {k:Nat} (h:r ∈ rows) (hk:r.blk=some k):k ∈ blks rows:=by simp only [blks,List.mem_filterMap];exact ⟨r,h,hk⟩
theorem Row.lies_some {w:World} {E:TypeId} {r:Row} {k:Nat} (h:r.lies w E) (hk:r.blk=some k):w.heap[k]?=some (.cells r.cs.toArray E (0,0)):=by simpa [Row.lies,hk] using h
theorem Row.lies_of_eq {w w':World} {E:TypeId} {r:Row} (h:r.lies w E) (he:∀ k,r.blk=some k→w'.heap[k]?=w.heap[k]?):r.lies w' E:=by
  unfold Row.lies at *
  split <;> rename_i hk
  · simp only [hk] at h;rw [he _ hk];exact h
  · simpa [hk] using h
theorem LR.holds_lt {w:World} {r:LR} (h:r.holds w) {b:Nat} (hb:b ∈ r.fp):b < w.heap.size:=by
  cases r with
  | cells b' cs E=>simp only [LR.fp,List.mem_singleton] at hb;subst hb;exact (Array.getElem?_eq_some_iff.1 h).1
  | own p n c cs E sz=>
    cases p with
    | none=>simp [LR.fp] at hb
    | some a=>simp only [LR.fp,List.mem_singleton] at hb;subst hb;exact (World.ownsRow.lt h _ rfl).2
  | obj b' o=>simp only [LR.fp,List.mem_singleton] at hb;subst hb;exact (Array.getElem?_eq_some_iff.1 h).1
  | marks rs=>exact (Array.getElem?_eq_some_iff.1 (h.2 b hb)).1
  | mat b' rows E Ei=>
    simp only [LR.fp,List.mem_cons] at hb
    rcases hb with rfl | hb
    · exact (Array.getElem?_eq_some_iff.1 h.1).1
    · obtain ⟨r,hr,hk⟩:=mem_blks hb
      exact (Array.getElem?_eq_some_iff.1 (Row.lies_some (h.2.2 r hr) hk)).1
  | snap S hp=>obtain ⟨o,_,ho⟩:=h b hb;exact (Array.getElem?_eq_some_iff.1 ho).1
  | gone=>simp [LR.fp] at hb
theorem LR.holds_of_eq {w w':World} {r:LR} (h:r.holds w) (he:∀ b ∈ r.fp,w'.heap[b]?=w.heap[b]?):r.holds w':=by
  cases r with
  | cells b' cs E=>simp only [LR.holds] at *;rw [he b' (by simp [LR.fp])];exact h
  | own p n c cs E sz=>
    obtain ⟨h1,h2⟩:=h
    refine ⟨h1,?_⟩
    rcases h2 with h2 | ⟨g,cap,cur,hv,hb,hg,r⟩
    · exact .inl h2
    · refine .inr ⟨g,cap,cur,hv,hb,?_,r⟩
      injection hv with hp
      subst hp
      rw [he g (by simp [LR.fp])];exact hg
  | obj b' o=>simp only [LR.holds] at *;rw [he b' (by simp [LR.fp])];exact h
  | marks rs=>exact ⟨h.1,fun b hb=>by rw [he b hb];exact h.2 b hb⟩
  | mat b' rows E Ei=>exact ⟨by rw [he b' (by simp [LR.fp])];exact h.1,h.2.1,fun r hr=>Row.lies_of_eq (h.2.2 r hr) fun k hk=>he k (by simp only [LR.fp,List.mem_cons];exact .inr (blk_mem hr hk))⟩
  | snap S hp=>intro b hb;obtain ⟨o,h1,h2⟩:=h b hb;exact ⟨o,h1,by rw [he b hb];exact h2⟩
  | gone=>trivial
def AllL (ls:List (Nat × LR)):List (Nat × LR)→Prop
  | []=>True
  | (i,v)::r=>lk ls i=some v∧AllL ls r
theorem AL {ls:List (Nat × LR)}:∀ {ms:List (Nat × LR)},(ms.map fun p=>lk ls p.1)=(ms.map fun p=>some p.2)→AllL ls ms
  | [],_=>trivial
  | (i,v)::r,h=>by
    simp only [List.map_cons,List.cons.injEq] at h
    exact ⟨h.1,AL h.2⟩
theorem AllL.get {vs:List (Nat × LR)}:∀ {us:List (Nat × LR)},AllL vs us→∀ i v,lk us i=some v→lk vs i=some v
  | [],_,i,v,h=>by simp [lk] at h
  | (j,u)::r,h,i,v,hl=>by
    rcases lk_cons hl with ⟨rfl,rfl⟩ | ⟨_,hl⟩
    · exact h.1
    · exact h.2.get i v hl
section
variable {w0 w w':World} {D0 D D':Stab} {ls ms:List (Nat × LR)}
theorem St.weak (h:St w0 D0 D ls w) (hm:AllL ls ms):St w0 D0 D ms w:=
  ⟨h.below,h.le,h.new,h.stab,fun i r x=>h.each i r (hm.get i r x),fun i r x=>h.low i r (hm.get i r x),fun i j r s x y=>h.sep i j r s (hm.get i r x) (hm.get j s y)⟩
theorem St.weakD (h:St w0 D0 D' ls w) (hle:D.le D') (h0:D0.le D):St w0 D0 D ls w:=
  ⟨h.below,h0,fun b hb=>h.new b (fun e=>by
      cases hq:D b with
      | none=>exact hb hq
      | some o=>rw [hle b o hq] at e;cases e),
    fun b o hb=>h.stab b o (hle b o hb),h.each,fun i r x b hb=>⟨(h.low i r x b hb).1,by
      cases hq:D b with
      | none=>rfl
      | some o=>have:=(h.low i r x b hb).2;rw [hle b o hq] at this;cases this⟩,h.sep⟩
theorem St.turn (h:St w0 D0 D ls w) (i:Nat) (r:LR)
    (hb:Below w0.heap.size w0 w') (hold:∀ b,b < w.heap.size→(∀ r0,lk ls i=some r0→b ∉ r0.fp)→w'.heap[b]?=w.heap[b]?)
    (hr:r.holds w') (hfp:∀ b ∈ r.fp,w.heap.size≤b∨∃ r0,lk ls i=some r0∧b ∈ r0.fp):St w0 D0 D ((i,r)::ls) w':=by
  have hw0:w0.heap.size≤w.heap.size:=h.below.size
  have hD:∀ b o,D b=some o→w'.heap[b]?=some o:=fun b o hbo=>by
    rw [hold b (h.stab.lt hbo) (fun r0 h0 hm=>by have:=(h.low i r0 h0 b hm).2;rw [hbo] at this;cases this)]
    exact h.stab b o hbo
  have hother:∀ j s,lk ls j=some s→j ≠ i→∀ b ∈ s.fp,b ∉ r.fp:=fun j s hj hne b hb hm=>by
    rcases hfp b hm with hge | ⟨r0,h0,hm0⟩
    · have:=LR.holds_lt (h.each j s hj) hb;omega
    · exact h.sep j i s r0 hj h0 hne b hb hm0
  refine ⟨hb,h.le,h.new,hD,fun j s hj=>?_,fun j s hj b hbm=>?_,fun j k s t hj hk hne b hbs hbt=>?_⟩
  · rcases lk_cons hj with ⟨rfl,rfl⟩ | ⟨hne,hj⟩
    · exact hr
    · refine LR.holds_of_eq (h.each j s hj) fun b hbm=>hold b (LR.holds_lt (h.each j s hj) hbm) fun r0 h0 hm0=>h.sep j i s r0 hj h0 hne b hbm hm0
  · rcases lk_cons hj with ⟨rfl,rfl⟩ | ⟨hne,hj⟩
    · rcases hfp b hbm with hge | ⟨r0,h0,hm0⟩
      · refine ⟨by omega,?_⟩
        cases hq:D b with
        | none=>rfl
        | some o=>have:=h.stab.lt hq;omega
      · exact h.low _ r0 h0 b hm0
    · exact h.low j s hj b hbm
  · rcases lk_cons hj with ⟨rfl,rfl⟩ | ⟨hnj,hj'⟩
    · rcases lk_cons hk with ⟨rfl,rfl⟩ | ⟨hnk,hk'⟩
      · exact hne rfl
      · exact hother k t hk' hnk b hbt hbs
    · rcases lk_cons hk with ⟨rfl,rfl⟩ | ⟨hnk,hk'⟩
      · exact hother j s hj' hnj b hbs hbt
      · exact h.sep j k s t hj' hk' hne b hbs hbt
theorem St.start (h:D.on w):St w D D [] w:=
  ⟨Below.refl _ _,Stab.le.refl D,fun _ hb=>.inl hb,h,fun i r x=>by simp [lk] at x,fun i r x=>by simp [lk] at x,fun i j r s x=>by simp [lk] at x⟩
theorem St.drew (h:St w0 D0 D ls w):St w0 D0 D ls { w with drawn:=w.drawn + 1 }:=
  ⟨h.below.drew,h.le,h.new,h.stab,fun i r x=>LR.holds_of_eq (h.each i r x) fun _ _=>rfl,h.low,h.sep⟩
theorem St.call (h:St w0 D0 D ls w) (hle:D.le D') (hb:Below w.heap.size w w')
    (hon:D'.on w') (hnew:∀ b,D' b ≠ none→D b ≠ none∨w.heap.size≤b):St w0 D0 D' ls w':=by
  refine ⟨h.below.trans (hb.mono h.below.size),h.le.trans hle,fun b hbn=>?_,hon,fun i r x=>LR.holds_of_eq (h.each i r x) fun b hbm=>hb.block b (LR.holds_lt (h.each i r x) hbm),fun i r x b hbm=>?_,h.sep⟩
  · rcases hnew b hbn with h1 | h1
    · exact h.new b h1
    · exact .inr (Nat.le_trans h.below.size h1)
  · have hl:=h.low i r x b hbm
    refine ⟨hl.1,?_⟩
    cases hq:D' b with
    | none=>rfl
    | some o=>
      rcases hnew b (by rw [hq];simp) with h1 | h1
      · exact absurd hl.2 h1
      · have:=LR.holds_lt (h.each i r x) hbm;omega
theorem St.callP (h:St w0 D0 D ls w) (hb:Below w.heap.size w w') (hon:D.on w'):St w0 D0 D ls w':=h.call (Stab.le.refl D) hb hon fun _ hb=>.inl hb
theorem St.old (h:St w0 D0 D ls w) {b:Nat} {o:Obj} (hb:w0.heap[b]?=some o):w.heap[b]?=some o:=by
  rw [h.below.block b (Array.getElem?_eq_some_iff.1 hb).1];exact hb
end
def Fw (r:Option Nat):Fence:={ fn:=fun _=>True,depth:=none,alive:=false,round:=r }
theorem callsIn_fw {r:Option Nat} {n:Nat} {P:Program} {f:FuncId} {args:Array Value} {w:World} {R:Ending→World→Prop} (h:Calls P f args w R):
    CallsIn (Fw r) n P f args w R:=(callsIn_wide (n:=n)).2 h
theorem calls_fw {n:Nat} {P:Program} {f:FuncId} {args:Array Value} {w:World} {R:Ending→World→Prop} (h:CallsIn (Fw none) n P f args w R):
    Calls P f args w R:=(callsIn_wide (n:=n)).1 h
abbrev WL (r:Option Nat) (P:Program) (ops:Array Oper) (Q:Exit→Act→World→Prop) (l:List Oper) (a:Act) (w:World):Prop:=wpListIn (Fw r) 0 P ops Q l a w
abbrev WP (r:Option Nat) (P:Program) (c:Code) (Q:Exit→Act→World→Prop) (a:Act) (w:World):Prop:=c.wpIn (Fw r) 0 P Q a w
theorem notDefer {P:Program} {ρ:Operand→Value} {o:Oper} {w w':World} {x:Next} (h:(execOp ρ o).run P w=.ok x w') (hx:∀ d,x ≠ .defer d):∀ c,o.op ≠ .defer c:=by
  intro c hc
  have he:execOp ρ o=(do pure (.defer (← resolve ρ c o.type))):=by unfold execOp;simp only [hc]
  rw [he,Sem.run_bind] at h
  cases hr:(resolve ρ c o.type).run P w with
  | ok d w''=>rw [hr] at h;injection h with h1 _;exact hx d h1.symm
  | halt y w''=>rw [hr] at h;cases h
theorem semAt_of {P:Program} {r:Option Nat} {ρ:Operand→Value} {o:Oper} {w w':World} {x:Next} (h:(execOp ρ o).run P w=.ok x w') (hx:∀ d,x ≠ .defer d):
    (o.semAt r ρ).run P w=.ok x w':=by
  rw [Oper.semAt_eq r ρ o (notDefer h hx)];exact h
end Go.Proofs.YtgdfljiliflhfaaGreatDoor.Rt
