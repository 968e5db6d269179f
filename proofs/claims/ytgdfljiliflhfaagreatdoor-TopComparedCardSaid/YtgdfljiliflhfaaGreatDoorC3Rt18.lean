/- The small program logic of this seat, part 18: functions that hand back a slice of their own; calls that are lent slices for their time alone. Under no conditions but those that each rule names. -/
import Derived.Test.YtgdfljiliflhfaaGreatDoorC3Rt17
set_option linter.unusedSimpArgs false
set_option linter.unusedVariables false
set_option maxRecDepth 100000
namespace Go.Proofs.YtgdfljiliflhfaaGreatDoor.Rt
open Go Go.RowKit
section
variable {w0 w w':World} {D0 D D':Stab} {ls:List (Nat × LR)}
theorem St.growD (h:St w0 D0 D ls w) (hle:D.le D') (hon:D'.on w) (hnew:∀ b,D' b ≠ none→D b ≠ none∨w0.heap.size≤b) (hfree:∀ i r,lk ls i=some r→∀ b ∈ r.fp,D' b=none):St w0 D0 D' ls w:=
  ⟨h.below,h.le.trans hle,fun b hb=>by
    rcases hnew b hb with h1 | h1
    · exact h.new b h1
    · exact .inr h1,hon,h.each,fun i r x b hb=>⟨(h.low i r x b hb).1,hfree i r x b hb⟩,h.sep⟩
theorem St.one {i j:Nat} {r:LR} (h:St w0 D0 D [(i,r)] w):St w0 D0 D [(j,r)] w:=by
  have h1:=lk_same i r []
  have key:∀ k x,lk [(j,r)] k=some x→k=j∧x=r:=fun k x hk=>by
    rcases lk_cons hk with h | ⟨_,hk⟩
    · exact h
    · simp [lk] at hk
  refine ⟨h.below,h.le,h.new,h.stab,fun k x hk=>?_,fun k x hk=>?_,fun k l x y hk hl hkl=>?_⟩
  · obtain ⟨rfl,rfl⟩:=key k x hk;exact h.each i _ h1
  · obtain ⟨rfl,rfl⟩:=key k x hk;exact h.low i _ h1
  · exact absurd ((key k x hk).1.trans (key l y hl).1.symm) hkl
end
section
variable {P:Program} {N:Nat} {rs:List Nat} {r:Option Nat} {vs:List (Nat × Value)} {a:Act} {w w0:World} {ops:Array Oper} {Q:Exit→Act→World→Prop} {rest:List Oper}
variable {d:Nat} {dst:Option Nat} {ty:TypeId} {pos:String} {aft:Array Edge} {D0 D Db:Stab} {ls:List (Nat × LR)} {ρ α:Type} {C:Codec α}
theorem nilCases {xs:List α} {p:Option Addr} (h:SRep C D xs p):(p=none∧xs=[])∨∃ q,p=some q:=by
  cases p with
  | some q=>exact .inr ⟨q,rfl⟩
  | none=>
    rcases h with h | ⟨b,o,all,E,fr,cs,e,_⟩
    · exact .inl ⟨rfl,h⟩
    · cases e
theorem run_equalIn_nil {T E:TypeId} {p:Option Addr} {n c:Nat} (hT:P.underlying T=some (.slice E)) (k:Nat):(Op.equalIn (k + 1) T (.slice p n c) (.slice none 0 0)).run P w=.ok p.isNone w:=by
  cases p <;> simp [Op.equalIn,run_underlying hT]
theorem Y.eqNil {gd:Option (Nat × Bool)} {T T2 E:TypeId} {x:Operand} {p:Option Addr} {n c:Nat} (hT:P.underlying T=some (.slice E)) (hF:Frm N rs vs a) (hx:ev vs x=some (.slice p n c)):
    Yields P ⟨dst,.binOp .eql T x (.const (.slice none 0 0)) T2,ty,pos,aft,gd⟩ a w (.bool p.isNone):=
  Y.bin (t:=.slice none 0 0) hF hx rfl rfl (by
    have h:=run_equal_of (P:=P) (w:=w) (x:=.slice p n c) (y:=.slice none 0 0) (b:=p.isNone) (T:=T) (fun k=>run_equalIn_nil hT (k + 4))
    simp only [binOp,Sem.run_bind,h];rfl)
end
end Go.Proofs.YtgdfljiliflhfaaGreatDoor.Rt
