/- The small program logic of this seat, part 6: calls by what they do; slices made; slices cut; struct equality; cuts inside a region. Under no conditions but those that each rule names. -/
import Derived.Test.YtgdfljiliflhfaaGreatDoorC3Rt5
set_option linter.unusedSimpArgs false
set_option linter.unusedVariables false
namespace Go.Proofs.YtgdfljiliflhfaaGreatDoor.Rt
open Go Go.RowKit
section
variable {P:Program} {N:Nat} {rs:List Nat} {r:Option Nat} {vs:List (Nat × Value)} {a:Act} {w w0:World} {ops:Array Oper} {Q:Exit→Act→World→Prop} {rest:List Oper}
variable {d:Nat} {dst:Option Nat} {ty:TypeId} {pos:String} {aft:Array Edge} {gd:Option (Nat × Bool)} {v:Value} {D0 D:Stab} {ls:List (Nat × LR)}
variable {α:Type} {C:Codec α}
theorem O.callP {xs:List Operand} {Ts:Array TypeId} {f:FuncId} {us:List Value} (hc:callable P f=true) (hF:Frm N rs vs a) (hS:St w0 D0 D ls w)
    (hcall:Calls P f us.toArray w (RetP D w v)) (hxs:evs vs xs=some us) (hd:Nat.ble (d + 1) N=true)
    (h:∀ a' w',Frm N rs ((d,v)::vs) a'→St w0 D0 D ls w'→WL r P ops Q rest a' w'):
    WL r P ops Q (⟨some d,.call ⟨.value (.func f),xs.toArray,Ts⟩,ty,pos,aft,none⟩::rest) a w:=
  O.callF hc hF hxs hd hcall (fun _ _ h=>⟨v,h.1⟩) fun u a' w' hR hF'=>by
    obtain ⟨e,hb,hon⟩:=hR
    injection e with e
    subst e
    exact h a' w' hF' (hS.callP hb hon)
theorem O.callS {xs:List Operand} {Ts:Array TypeId} {f:FuncId} {us:List Value} {R:Stab→Value→Prop} (hc:callable P f=true) (hF:Frm N rs vs a) (hS:St w0 D0 D ls w)
    (hcall:Calls P f us.toArray w (RetS D w R)) (hxs:evs vs xs=some us) (hd:Nat.ble (d + 1) N=true)
    (h:∀ v D' a' w',R D' v→D.le D'→Frm N rs ((d,v)::vs) a'→St w0 D0 D' ls w'→WL r P ops Q rest a' w'):
    WL r P ops Q (⟨some d,.call ⟨.value (.func f),xs.toArray,Ts⟩,ty,pos,aft,none⟩::rest) a w:=
  O.callF hc hF hxs hd hcall (fun _ _ h=>⟨h.choose,h.choose_spec.choose_spec.1⟩) fun u a' w' hR hF'=>by
    obtain ⟨v,D',e,hr,hle,hon,hb,hnew⟩:=hR
    injection e with e
    subst e
    exact h _ D' a' w' hr hle hF' (hS.call hle hb hon hnew)
theorem O.callVP {x:Operand} {xs:List Operand} {Ts:Array TypeId} {f:FuncId} {first cap us:List Value} (hc:callable P f=true) (hF:Frm N rs vs a) (hS:St w0 D0 D ls w)
    (hx:ev vs x=some (.func (.func f) first.toArray cap.toArray)) (hxs:evs vs xs=some us) (hcall:Calls P f (first ++ us ++ cap).toArray w (RetP D w v)) (hd:Nat.ble (d + 1) N=true)
    (h:∀ a' w',Frm N rs ((d,v)::vs) a'→St w0 D0 D ls w'→WL r P ops Q rest a' w'):
    WL r P ops Q (⟨some d,.call ⟨.value x,xs.toArray,Ts⟩,ty,pos,aft,none⟩::rest) a w:=
  O.call hc hF hx hxs hd hcall (fun _ _ h=>⟨v,h.1⟩) fun u a' w' hR hF'=>by
    obtain ⟨e,hb,hon⟩:=hR
    injection e with e
    subst e
    exact h a' w' hF' (hS.callP hb hon)
theorem O.callVS {x:Operand} {xs:List Operand} {Ts:Array TypeId} {f:FuncId} {first cap us:List Value} {R:Stab→Value→Prop} (hc:callable P f=true) (hF:Frm N rs vs a) (hS:St w0 D0 D ls w)
    (hx:ev vs x=some (.func (.func f) first.toArray cap.toArray)) (hxs:evs vs xs=some us) (hcall:Calls P f (first ++ us ++ cap).toArray w (RetS D w R)) (hd:Nat.ble (d + 1) N=true)
    (h:∀ v D' a' w',R D' v→D.le D'→Frm N rs ((d,v)::vs) a'→St w0 D0 D' ls w'→WL r P ops Q rest a' w'):
    WL r P ops Q (⟨some d,.call ⟨.value x,xs.toArray,Ts⟩,ty,pos,aft,none⟩::rest) a w:=
  O.call hc hF hx hxs hd hcall (fun _ _ h=>⟨h.choose,h.choose_spec.choose_spec.1⟩) fun u a' w' hR hF'=>by
    obtain ⟨v,D',e,hr,hle,hon,hb,hnew⟩:=hR
    injection e with e
    subst e
    exact h _ D' a' w' hr hle hF' (hS.call hle hb hon hnew)
def builtSl (P:Program) (T E:TypeId) (len:Nat) (parts:List (Nat × Value)):Option (Array Value):=
  match P.underlying T,P.info? E with
  | some (.slice E'),some i=>if E' == E && Nat.ble (len * i.size) 16777216 then
      (match i.zero with
        | some z=>if len * i.size=0 then Instr.fill (fun k=>some (k * i.size,i.size)) ((Array.range (len * i.size)).map fun _=>undef) parts
          else Instr.fill (fun k=>some (k * i.size,i.size)) ((Array.range (len * i.size)).map (z.cells[· % z.cells.size]!)) parts
        | none=>none)
    else none
  | _,_=>none
theorem run_buildSlice_of {T E:TypeId} {len:Nat} {parts:Array (Nat × Value)} {cs:Array Value} (h:builtSl P T E len parts.toList=some cs):
    (Instr.buildSlice T len parts).run P w=.ok (.slice (some ⟨w.heap.size,0,none⟩) len len) (w.alloc (.cells cs E)):=by
  unfold builtSl at h
  split at h
  · rename_i E' i hu hi
    split at h
    · rename_i hc
      simp only [Bool.and_eq_true,beq_iff_eq] at hc
      obtain ⟨rfl,hle⟩:=hc
      have hle':len * i.size≤16777216:=Nat.le_of_ble_eq_true hle
      have hle2:¬ (len * i.size > 2 ^ 24):=by omega
      cases hz:i.zero with
      | none=>simp [hz] at h
      | some z=>
        simp only [hz] at h
        by_cases h0:len * i.size=0
        · rw [if_pos h0] at h
          have e0:∀ f:Nat→Value,(Array.range (len * i.size)).map f=#[]:=fun f=>by rw [h0,Array.range_zero'];exact Array.map_empty
          rw [e0] at h
          simp only [Instr.buildSlice,Sem.run_bind,run_underlying hu,Result.andThen_ok,sizeOf,typeInfo,run_program,hi,Sem.run_pure,Sem.run_ite,if_neg hle2]
          rw [if_pos h0]
          simp only [Result.andThen_ok,e0,h,newRow,Sem.run_bind,run_newObj,Sem.run_pure]
          rfl
        · rw [if_neg h0] at h
          simp only [Instr.buildSlice,Sem.run_bind,run_underlying hu,Result.andThen_ok,sizeOf,typeInfo,run_program,hi,Sem.run_pure,Sem.run_ite,if_neg hle2,h0,if_false,zeroValue,hz]
          simp only [h,newRow,Sem.run_bind,run_newObj,Result.andThen_ok,Sem.run_pure]
          rfl
    · cases h
  · cases h
theorem O.buildSlice {T E:TypeId} {len:Nat} {parts:List (Nat × Operand)} {us cs:List Value} {xs:List α} (i:Nat) (hF:Frm N rs vs a) (hS:St w0 D0 D ls w) (hev:evs vs (parts.map (·.2))=some us)
    (hb:builtSl P T E len ((parts.map (·.1)).zip us)=some cs.toArray) (hR:Reps C D xs cs) (hlen:xs.length=len) (hmax:Nat.ble len maxLen=true) (hd:Nat.ble (d + 1) N=true)
    (h:∀ p c a' w',Frm N rs ((d,.slice p xs.length c)::vs) a'→St w0 D0 D ((i,.own p xs.length c cs E C.n)::ls) w'→WL r P ops Q rest a' w'):
    WL r P ops Q (⟨some d,.buildSlice T len parts.toArray,ty,pos,aft,none⟩::rest) a w:=by
  have h1:(parts.toArray.map fun (i,x)=>(i,a.eval x)).toList=(parts.map (·.1)).zip us:=by
    have h2:=hF.evals hev
    simp only [List.map_toArray,List.map_map] at h2 ⊢
    rw [← h2]
    clear hev hb h2
    induction parts with
    | nil=>rfl
    | cons p ps ih=>simp [ih]
  subst hlen
  have hr:=run_buildSlice_of (P:=P) (w:=w) (T:=T) (E:=E) (len:=xs.length) (parts:=parts.toArray.map fun (i,x)=>(i,a.eval x)) (by rw [h1];exact hb)
  refine stepw (v:=.slice (some ⟨w.heap.size,0,none⟩) xs.length xs.length) (w':=w.alloc (.cells cs.toArray E)) hF ?_ hd fun a' hF'=>h _ _ a' _ hF' ?_
  · simp only [execOp,Sem.run_bind,hr,Result.andThen_ok];rfl
  · refine hS.turn i _ (hS.below.alloc hS.below.size _) (fun b hb _=>alloc_old _ hb) ⟨hR.len,.inr ⟨w.heap.size,xs.length,cs.toArray,rfl,Nat.zero_le _,alloc_heap _,Nat.le_refl _,Nat.le_of_ble_eq_true hmax,?_,?_⟩⟩ (fun k hk=>.inl ?_)
    · simpa using hR.len
    · rw [← hR.len];simp
    · simp only [LR.fp,List.mem_singleton] at hk;subst hk;exact Nat.le_refl _
theorem Y.slice3 {T E:TypeId} {x y z:Operand} {n c sz:Nat} {p:Option Addr} {isA:Bool} (hT:P.underlying T=some (.slice E)) (hE:tsz P E=some (isA,sz)) (hF:Frm N rs vs a)
    (hx:ev vs x=some (.slice p n c)) (hy:ev vs y=some (.int .i64 n)) (hz:ev vs z=some (.int .i64 n)) (hle:n≤c):
    Yields P ⟨dst,.slice T x none (some y) (some z),ty,pos,aft,gd⟩ a w (.slice p n n):=by
  have hp:(if n=0 then p else p.map (·.add (0 * sz)))=p:=by
    cases p with
    | none=>simp
    | some ad=>simp [Addr.add]
  simp only [Yields,execOp,hF.eval hx,Option.map_some,Option.map_none,hF.eval hy,hF.eval hz,Instr.sliceAt,Sem.run_bind,run_underlying hT,Result.andThen_ok,Instr.slice,Instr.sliceBounds,Instr.sliceBound,asIntOf,pure_bind]
  simp only [Sem.run_ite,Int.natCast_nonneg,true_and,Int.ofNat_le,hle,Nat.le_refl,if_true,Sem.run_pure,Result.andThen_ok,Int.toNat_natCast,run_sizeOf_of hE,Nat.sub_zero,hp]
theorem own_cap {i:Nat} {p:Option Addr} {n c sz:Nat} {cs:List Value} {E:TypeId} (hS:St w0 D0 D ls w) (hl:lk ls i=some (.own p n c cs E sz)):n≤c:=by
  rcases (hS.each i _ hl).2 with ⟨e,h0⟩ | ⟨g,cap,cur,e,_,_,h,_⟩
  · omega
  · injection e with _ _ e3;omega
theorem WL_mono {Q':Exit→Act→World→Prop} (hq:∀ e a w,Q e a w→Q' e a w):∀ (l:List Oper) (a:Act) (w:World),WL r P ops Q l a w→WL r P ops Q' l a w:=by
  intro l
  induction l with
  | nil=>intro a w h;exact hq _ _ _ h
  | cons o l ih=>
    intro a w h
    simp only [WL,wpListIn] at h ⊢
    split
    · rename_i hw
      rw [if_pos hw] at h
      refine ⟨h.1,?_⟩
      replace h:=h.2
      have hlo:LetsOut Q→LetsOut Q':=fun ⟨a,w,h⟩=>⟨a,w,hq _ _ _ h⟩
      generalize (o.semAt (Fw r).round a.eval).run P w=res at *
      cases res with
      | ok x w'=>
        cases x <;> simp only [Oper.uponIn] at h ⊢
        case value=>exact ih _ _ h
        case skip=>exact ih _ _ h
        case defer=>exact ih _ _ h
        case enter=>exact ⟨h.1,CallsIn.mono h.2 fun e w'' he=>by cases e <;> first | exact ih _ _ he | exact hq _ _ _ he | exact hlo he⟩
        case row=>exact ⟨h.1,RowsIn.mono h.2 fun e w'' he=>ih _ _ he⟩
        case round=>exact ⟨h.1,RoundIn.mono h.2 fun e w'' he=>by cases e <;> first | exact ih _ _ he | exact hq _ _ _ he | exact hlo he⟩
      | halt x w'=>cases x <;> simp only [Oper.uponIn] at h ⊢ <;> first | exact hq _ _ _ h | exact h
    · rename_i hw
      rw [if_neg hw] at h
      exact ⟨h.1,ih _ _ h.2⟩
theorem list_cut {l:List Oper} (n:Nat) (J:Act→World→Prop) (h:WL r P ops (Exit.then J Q) (l.take n) a w) (hy:∀ a w,J a w→WL r P ops Q (l.drop n) a w):WL r P ops Q l a w:=by
  have key:∀ (n:Nat) (l:List Oper) (a:Act) (w:World),WL r P ops (Exit.then (fun a w=>WL r P ops Q (l.drop n) a w) Q) (l.take n) a w→WL r P ops Q l a w:=by
    intro n
    induction n with
    | zero=>intro l a w h;simpa [WL,wpListIn,Exit.then] using h
    | succ n ih=>
      intro l a w h
      cases l with
      | nil=>simpa [WL,wpListIn,Exit.then] using h
      | cons o l=>
        simp only [List.take_succ_cons,List.drop_succ_cons,WL,wpListIn] at h ⊢
        split
        · rename_i hw
          rw [if_pos hw] at h
          refine ⟨h.1,?_⟩
          replace h:=h.2
          generalize (o.semAt (Fw r).round a.eval).run P w=res at *
          cases res with
          | ok x w'=>cases x <;> simp only [Oper.uponIn] at h ⊢ <;> first
              | exact ih l _ _ h
              | exact ⟨h.1,CallsIn.mono h.2 fun e w'' he=>by cases e <;> first | exact ih l _ _ he | exact he⟩
              | exact ⟨h.1,RowsIn.mono h.2 fun e w'' he=>ih l _ _ he⟩
              | exact ⟨h.1,RoundIn.mono h.2 fun e w'' he=>by cases e <;> first | exact ih l _ _ he | exact he⟩
          | halt x w'=>cases x <;> simp only [Oper.uponIn] at h ⊢ <;> exact h
        · rename_i hw
          rw [if_neg hw] at h
          exact ⟨h.1,ih l _ _ h.2⟩
  exact key n l a w (WL_mono (fun e a w hq=>by cases e <;> first | exact hy _ _ hq | exact hq) _ _ _ h)
theorem join {l:List Oper} (n:Nat) {us:List (Nat × Value)} {ms:List (Nat × LR)} {D':Stab}
    (h1:WL r P ops (Exit.then (fun a' w'=>Frm N rs us a'∧St w0 D0 D' ms w') Q) (l.take n) a w)
    (h2:∀ a' w',Frm N rs us a'→St w0 D0 D' ms w'→WL r P ops Q (l.drop n) a' w'):WL r P ops Q l a w:=
  list_cut n _ h1 fun a w ⟨h,h'⟩=>h2 a w h h'
theorem St.ownNil (hS:St w0 D0 D ls w) (i E sz:Nat):St w0 D0 D ((i,.own none 0 0 [] E sz)::ls) w:=
  hS.turn i _ hS.below (fun _ _ _=>rfl) (World.ownsRow_nil w 0 E sz) (fun b hb=>by simp [LR.fp] at hb)
theorem Y.eqst {T T2:TypeId} {x y:Operand} {us ts:Array Value} {b:Bool} (he:∀ w,(Op.equal T (.agg us) (.agg ts)).run P w=.ok b w) (hg:∀ w,(eqGuard .eql T x y (.agg us) (.agg ts)).run P w=.ok () w)
    (hF:Frm N rs vs a) (hx:ev vs x=some (.agg us)) (hy:ev vs y=some (.agg ts)):Yields P ⟨dst,.binOp .eql T x y T2,ty,pos,aft,gd⟩ a w (.bool b):=
  Y.bin hF hx hy (hg w) (by simp only [binOp,Sem.run_bind,he];rfl)
theorem Y.nest {T T2:TypeId} {x y:Operand} {us ts:Array Value} {b:Bool} (he:∀ w,(Op.equal T (.agg us) (.agg ts)).run P w=.ok b w) (hg:∀ w,(eqGuard .neq T x y (.agg us) (.agg ts)).run P w=.ok () w)
    (hF:Frm N rs vs a) (hx:ev vs x=some (.agg us)) (hy:ev vs y=some (.agg ts)):Yields P ⟨dst,.binOp .neq T x y T2,ty,pos,aft,gd⟩ a w (.bool (!b)):=
  Y.bin hF hx hy (hg w) (by simp only [binOp,Sem.run_bind,he];rfl)
theorem Stab.on.le {D D':Stab} (h:D'.on w) (hle:D.le D'):D.on w:=fun b o hb=>h b o (hle b o hb)
end
def SRc {α:Type} (C:Codec α) (D:Stab) (xs:List α) (p:Option Addr) (c:Nat):Prop:=SRep C D xs p∧xs.length≤c
theorem SRc.mono {α:Type} {C:Codec α} {D D':Stab} {xs:List α} {p:Option Addr} {c:Nat} (h:SRc C D xs p c) (hle:D.le D'):SRc C D' xs p c:=⟨h.1.mono hle,h.2⟩
theorem SRc.nil {α:Type} {C:Codec α} {D:Stab}:SRc C D ([]:List α) none 0:=⟨SRep.nil,Nat.le_refl 0⟩
theorem St.freezeC {α:Type} {C:Codec α} {w0 w:World} {D0 D:Stab} {ls:List (Nat × LR)} {i:Nat} {p:Option Addr} {xs:List α} {c:Nat} {cs:List Value} {E:TypeId} (hS:St w0 D0 D ls w) (hl:lk ls i=some (.own p xs.length c cs E C.n)) (hR:Reps C D xs cs):
    ∃ D',D.le D'∧SRc C D' xs p c∧St w0 D0 D' ((i,.gone)::ls) w:=by
  have hc:=own_cap hS hl
  obtain ⟨D',h1,h2,h3⟩:=hS.freeze hl hR
  exact ⟨D',h1,⟨h2,hc⟩,h3⟩
theorem keep {w w':World} {b:Nat} {o:Obj} (hb:Below w.heap.size w w') (h:w.heap[b]?=some o):w'.heap[b]?=some o:=by
  rw [hb.block b (Array.getElem?_eq_some_iff.1 h).1];exact h
def C_sl {α:Type} (C:Codec α):Codec (List α):=
  ⟨1,fun D xs cs=>∃ p c,cs=[.slice p xs.length c]∧SRc C D xs p c,by rintro _ _ _ ⟨p,c,rfl,_⟩;rfl,by rintro _ _ _ _ hle ⟨p,c,rfl,h⟩;exact ⟨p,c,rfl,h.mono hle⟩,by rintro _ _ _ ⟨p,c,rfl,_⟩;rfl⟩
def C_int:Codec Int:=⟨1,fun _ x cs=>cs=[.int .i64 x],by rintro _ _ _ rfl;rfl,fun _ h=>h,by rintro _ _ _ rfl;rfl⟩
def C_bool:Codec Bool:=⟨1,fun _ x cs=>cs=[.bool x],by rintro _ _ _ rfl;rfl,fun _ h=>h,by rintro _ _ _ rfl;rfl⟩
abbrev wr (n:Int):Int:=IntKind.wrap .i64 n
end Go.Proofs.YtgdfljiliflhfaaGreatDoor.Rt
