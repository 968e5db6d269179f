/- The small program logic of this seat, part 30: slices of which it matters whether they are nil. Under no conditions but those that each rule names. -/
import Derived.Test.YtgdfljiliflhfaaGreatDoorC3Rt29
set_option linter.unusedVariables false
set_option linter.unusedSimpArgs false
set_option maxRecDepth 100000
namespace Go.Proofs.YtgdfljiliflhfaaGreatDoor.Rt
open Go Go.RowKit
section
variable {α:Type} {C:Codec α} {D D':Stab}
def ORc (C:Codec α) (D:Stab):Option (List α)→Option Addr→Nat→Prop
  | none,p,c=>p=none∧c=0
  | some xs,p,c=>(∃ q,p=some q)∧SRc C D xs p c
theorem ORc.mono {x:Option (List α)} {p:Option Addr} {c:Nat} (h:ORc C D x p c) (hle:D.le D'):ORc C D' x p c:=by
  cases x with
  | none=>exact h
  | some xs=>exact ⟨h.1,h.2.mono hle⟩
theorem ORc.nil:ORc C D none none 0:=⟨rfl,rfl⟩
theorem ORc.sl {x:Option (List α)} {p:Option Addr} {c:Nat} (h:ORc C D x p c):SRc C D (x.getD []) p c:=by
  cases x with
  | none=>obtain ⟨rfl,rfl⟩:=h;exact SRc.nil
  | some xs=>exact h.2
theorem ORc.of {xs:List α} {p:Option Addr} {c:Nat} (h:SRc C D xs p c) (hne:xs ≠ []):ORc C D (some xs) p c:=by
  rcases nilCases h.1 with ⟨_,e⟩ | hq
  · exact absurd e hne
  · exact ⟨hq,h⟩
theorem ORc.at_ {xs:List α} {q:Addr} {c:Nat} (h:SRc C D xs (some q) c):ORc C D (some xs) (some q) c:=⟨⟨q,rfl⟩,h⟩
theorem ORc.isNone {x:Option (List α)} {p:Option Addr} {c:Nat} (h:ORc C D x p c):p.isNone=x.isNone:=by
  cases x with
  | none=>rw [h.1];rfl
  | some xs=>obtain ⟨⟨q,rfl⟩,_⟩:=h;rfl
def C_osl (C:Codec α):Codec (Option (List α)):=
  ⟨1,fun D x cs=>∃ p c,cs=[.slice p (x.getD []).length c]∧ORc C D x p c,by rintro _ _ _ ⟨p,c,rfl,_⟩;rfl,by rintro _ _ _ _ hle ⟨p,c,rfl,h⟩;exact ⟨p,c,rfl,h.mono hle⟩,by rintro _ _ _ ⟨p,c,rfl,_⟩;rfl⟩
end
section
variable {P:Program} {N:Nat} {rs:List Nat} {vs:List (Nat × Value)} {a:Act} {w:World} {dst:Option Nat} {ty:TypeId} {pos:String} {aft:Array Edge} {gd:Option (Nat × Bool)} {D:Stab} {α:Type} {C:Codec α}
theorem Y.eqO {T T2 E:TypeId} {x:Operand} {o:Option (List α)} {p:Option Addr} {n c:Nat} (hT:P.underlying T=some (.slice E)) (ho:ORc C D o p c) (hF:Frm N rs vs a) (hx:ev vs x=some (.slice p n c)):
    Yields P ⟨dst,.binOp .eql T x (.const (.slice none 0 0)) T2,ty,pos,aft,gd⟩ a w (.bool o.isNone):=by
  rw [← ho.isNone];exact Y.eqNil hT hF hx
theorem Y.neO {T T2 E:TypeId} {x:Operand} {o:Option (List α)} {p:Option Addr} {n c:Nat} (hT:P.underlying T=some (.slice E)) (ho:ORc C D o p c) (hF:Frm N rs vs a) (hx:ev vs x=some (.slice p n c)):
    Yields P ⟨dst,.binOp .neq T x (.const (.slice none 0 0)) T2,ty,pos,aft,gd⟩ a w (.bool (!o.isNone)):=by
  rw [← ho.isNone]
  exact Y.bin (t:=.slice none 0 0) hF hx rfl rfl (by
    have h:=run_equal_of (P:=P) (w:=w) (x:=.slice p n c) (y:=.slice none 0 0) (b:=p.isNone) (T:=T) (fun k=>run_equalIn_nil hT (k + 4))
    simp only [binOp,Sem.run_bind,h];rfl)
end
end Go.Proofs.YtgdfljiliflhfaaGreatDoor.Rt
