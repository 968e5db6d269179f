/- The small program logic of this seat, part 24: several slices that a callee hands over; a slice literal that is known cell by cell. Under no conditions but those that each rule names. -/
import Derived.Test.YtgdfljiliflhfaaGreatDoorC3Rt18
import Derived.Test.YtgdfljiliflhfaaGreatDoorC3Rt25
set_option linter.unusedVariables false
set_option linter.unusedSimpArgs false
set_option maxRecDepth 100000
namespace Go.Proofs.YtgdfljiliflhfaaGreatDoor.Rt
open Go Go.RowKit
section
variable {w0 w w':World} {D0 D D':Stab} {ls ms:List (Nat × LR)}
theorem lk_append {ms ls:List (Nat × LR)} {i:Nat} {r:LR} (h:lk (ms ++ ls) i=some r):lk ms i=some r∨lk ls i=some r:=by
  induction ms with
  | nil=>exact .inr h
  | cons m ms ih=>
    obtain ⟨k,x⟩:=m
    rcases lk_cons h with ⟨rfl,rfl⟩ | ⟨hne,h⟩
    · exact .inl (lk_same _ _ _)
    · rcases ih h with h | h
      · exact .inl (by rw [lk_ne (fun e=>hne e.symm)];exact h)
      · exact .inr h
theorem St.join (hS:St w0 D0 D ls w) (h:St w D D' ms w'):St w0 D0 D' (ms ++ ls) w':=by
  have hsz:=hS.below.size
  have hold:∀ j x,lk ls j=some x→x.holds w':=fun j x hj=>LR.holds_of_eq (hS.each j x hj) fun b hb=>h.below.block b (LR.holds_lt (hS.each j x hj) hb)
  have holdD:∀ j x,lk ls j=some x→∀ b ∈ x.fp,w0.heap.size≤b∧D' b=none:=fun j x hj b hb=>by
    refine ⟨(hS.low j x hj b hb).1,?_⟩
    cases hq:D' b with
    | none=>rfl
    | some o=>
      rcases h.new b (by rw [hq];simp) with h2 | h2
      · exact absurd (hS.low j x hj b hb).2 h2
      · have:=LR.holds_lt (hS.each j x hj) hb;omega
  refine ⟨hS.below.trans (h.below.mono hsz),fun b o hb=>h.le b o (hS.le b o hb),fun b hb=>?_,h.stab,fun j x hj=>?_,fun j x hj=>?_,fun i j x y hi hj hij b hb hb'=>?_⟩
  · rcases h.new b hb with h2 | h2
    · exact hS.new b h2
    · exact .inr (by omega)
  · rcases lk_append hj with hj | hj
    · exact h.each j x hj
    · exact hold j x hj
  · rcases lk_append hj with hj | hj
    · intro b hb
      have:=h.low j x hj b hb
      exact ⟨by omega,this.2⟩
    · exact holdD j x hj
  · rcases lk_append hi with hi | hi <;> rcases lk_append hj with hj | hj
    · exact h.sep i j x y hi hj hij b hb hb'
    · have:=(h.low i x hi b hb).1
      have:=LR.holds_lt (hS.each j y hj) hb'
      omega
    · have:=(h.low j y hj b hb').1
      have:=LR.holds_lt (hS.each i x hi) hb
      omega
    · exact hS.sep i j x y hi hj hij b hb hb'
theorem SRc.ofCells {α:Type} {C:Codec α} {D:Stab} {b:Nat} {cs:List Value} {E:TypeId} {xs:List α} {c:Nat} (hb:D b=some (.cells cs.toArray E (0,0))) (hR:Reps C D xs cs) (hc:xs.length≤c):SRc C D xs (some ⟨b,0,none⟩) c:=
  ⟨.inr ⟨b,0,cs.toArray,E,(0,0),cs,rfl,hb,hR,fun j u hu=>by rw [Nat.zero_add,List.getElem?_toArray];exact hu⟩,hc⟩
variable {P:Program} {N:Nat} {rs:List Nat} {vs:List (Nat × Value)} {a:Act} {r:Option Nat} {ops:Array Oper} {Q:Exit→Act→World→Prop} {rest:List Oper} {d:Nat} {ty:TypeId} {pos:String} {aft:Array Edge}
theorem O.buildLit {T E:TypeId} {len:Nat} {parts:List (Nat × Operand)} {us cs:List Value} (i:Nat) (hF:Frm N rs vs a) (hS:St w0 D0 D ls w) (hev:evs vs (parts.map (·.2))=some us)
    (hb:builtSl P T E len ((parts.map (·.1)).zip us)=some cs.toArray) (hd:Nat.ble (d + 1) N=true)
    (h:∀ b a' w',Frm N rs ((d,.slice (some ⟨b,0,none⟩) len len)::vs) a'→St w0 D0 D ((i,.cells b cs E)::ls) w'→WL r P ops Q rest a' w'):
    WL r P ops Q (⟨some d,.buildSlice T len parts.toArray,ty,pos,aft,none⟩::rest) a w:=by
  have h1:(parts.toArray.map fun (i,x)=>(i,a.eval x)).toList=(parts.map (·.1)).zip us:=by
    have h2:=hF.evals hev
    simp only [List.map_toArray,List.map_map] at h2 ⊢
    rw [← h2]
    clear hev hb h2
    induction parts with
    | nil=>rfl
    | cons p ps ih=>simp [ih]
  have hr:=run_buildSlice_of (P:=P) (w:=w) (T:=T) (E:=E) (len:=len) (parts:=parts.toArray.map fun (i,x)=>(i,a.eval x)) (by rw [h1];exact hb)
  refine stepw (v:=.slice (some ⟨w.heap.size,0,none⟩) len len) (w':=w.alloc (.cells cs.toArray E)) hF ?_ hd fun a' hF'=>h _ a' _ hF' ?_
  · simp only [execOp,Sem.run_bind,hr,Result.andThen_ok];rfl
  · refine hS.turn i _ (hS.below.alloc hS.below.size _) (fun b hb _=>alloc_old _ hb) (alloc_heap _) (fun k hk=>.inl ?_)
    simp only [LR.fp,List.mem_singleton] at hk;subst hk;exact Nat.le_refl _
end
end Go.Proofs.YtgdfljiliflhfaaGreatDoor.Rt
