/- Rules, part 15: pieces of a slice; a part of an element of a slice of one's own is written. Under no conditions but those that each names. -/
import Derived.Test.YtgdfljiliflhfaaGreatDoorC3Rt14
set_option linter.unusedVariables false
set_option linter.unusedSimpArgs false
set_option maxRecDepth 100000
namespace Go.Proofs.YtgdfljiliflhfaaGreatDoor.Rt
open Go Go.RowKit
section
variable {α:Type} {C:Codec α} {D:Stab}
theorem Reps.split:∀ {xs ys:List α} {cs:List Value},Reps C D (xs ++ ys) cs→∃ c1 c2,cs=c1 ++ c2∧Reps C D xs c1∧Reps C D ys c2∧c1.length=xs.length * C.n
  | [],ys,cs,h=>⟨[],cs,rfl,rfl,h,by simp⟩
  | x::xs,ys,cs,⟨c,r,e,h1,h2⟩=>by
    subst e
    obtain ⟨c1,c2,e,h3,h4,h5⟩:=Reps.split h2
    subst e
    refine ⟨c ++ c1,c2,by simp,⟨c,c1,rfl,h1,h3⟩,h4,?_⟩
    rw [List.length_append,C.len h1,h5,List.length_cons,Nat.add_mul,Nat.one_mul,Nat.add_comm]
theorem SRc.take {xs:List α} {p:Option Addr} {c:Nat} (h:SRc C D xs p c) (k:Nat):SRc C D (xs.take k) p c:=by
  obtain ⟨h1,h2⟩:=h
  refine ⟨?_,by rw [List.length_take];omega⟩
  rcases h1 with rfl | ⟨b,o,all,E,fr,cs,e1,e2,e3,e4⟩
  · exact .inl (by simp)
  · rw [← List.take_append_drop k xs] at e3
    obtain ⟨c1,c2,rfl,f1,f2,f3⟩:=e3.split
    exact .inr ⟨b,o,all,E,fr,c1,e1,e2,f1,fun j u hu=>e4 j u (by rw [List.getElem?_append_left (List.getElem?_eq_some_iff.1 hu).1];exact hu)⟩
theorem SRc.drop {xs:List α} {p:Option Addr} {c:Nat} (h:SRc C D xs p c) {k:Nat} (hk:k≤xs.length):SRc C D (xs.drop k) (if c=k then p else p.map (·.add (k * C.n))) (c - k):=by
  obtain ⟨h1,h2⟩:=h
  refine ⟨?_,by rw [List.length_drop];omega⟩
  by_cases hc:c=k
  · exact .inl (List.drop_of_length_le (by omega))
  · rw [if_neg hc]
    rcases h1 with rfl | ⟨b,o,all,E,fr,cs,e1,e2,e3,e4⟩
    · exact .inl (by simp)
    · rw [← List.take_append_drop k xs] at e3
      obtain ⟨c1,c2,rfl,f1,f2,f3⟩:=e3.split
      rw [List.length_take,Nat.min_eq_left hk] at f3
      refine .inr ⟨b,o + k * C.n,all,E,fr,c2,by subst e1;simp [Addr.add],e2,f2,fun j u hu=>?_⟩
      rw [Nat.add_assoc]
      refine e4 _ u ?_
      rw [List.getElem?_append_right (by omega),f3,Nat.add_sub_cancel_left];exact hu
end
section
variable {P:Program} {N:Nat} {rs:List Nat} {vs:List (Nat × Value)} {a:Act} {w w0:World} {D0 D:Stab} {ls:List (Nat × LR)}
variable {dst:Option Nat} {ty:TypeId} {pos:String} {aft:Array Edge} {gd:Option (Nat × Bool)}
variable {r:Option Nat} {ops:Array Oper} {Q:Exit→Act→World→Prop} {rest:List Oper}
variable {α:Type} {C:Codec α}
end
end Go.Proofs.YtgdfljiliflhfaaGreatDoor.Rt
