/- The small program logic of this seat, part 28: arrays of truth values within structs. Under no conditions but those that each rule names. -/
import Derived.Test.YtgdfljiliflhfaaGreatDoorC3Rt27
set_option linter.unusedVariables false
set_option linter.unusedSimpArgs false
set_option maxRecDepth 100000
namespace Go.Proofs.YtgdfljiliflhfaaGreatDoor.Rt
open Go Go.RowKit
def bools_ (n:Nat) (xs:List Bool):List Value:=(List.range n).map fun j=>Value.bool (xs.getD j false)
theorem bools_at {pre:List Value} {xs:List Bool} {n o:Nat} {i:Int} (hi:0≤i∧i < (n:Int)) (ho:o=pre.length + i.toNat):(pre ++ bools_ n xs)[o]?=some (.bool (xs.getD i.toNat false)):=by
  have h:i.toNat < n:=by omega
  subst ho
  rw [List.getElem?_append_right (by omega),Nat.add_sub_cancel_left,bools_,List.getElem?_map,List.getElem?_range h]
  rfl
theorem bools_set {pre:List Value} {xs:List Bool} {n o:Nat} {i:Int} {b:Bool} (hx:xs.length=n) (hi:0≤i∧i < (n:Int)) (ho:o=pre.length + i.toNat):splice (pre ++ bools_ n xs) o [.bool b]=pre ++ bools_ n (xs.set i.toNat b):=by
  have h:i.toNat < n:=by omega
  have hl:(bools_ n xs).length=n:=by simp [bools_]
  subst ho
  simp only [splice,List.length_singleton]
  rw [List.take_append,List.drop_append,List.take_of_length_le (by omega),Nat.add_sub_cancel_left,List.drop_of_length_le (by omega),List.nil_append,show pre.length + i.toNat + 1 - pre.length=i.toNat + 1 by omega,List.append_assoc,List.append_assoc]
  congr 1
  apply List.ext_getElem?
  intro k
  by_cases hk:k < n
  · have e2:(bools_ n (xs.set i.toNat b))[k]?=some (.bool ((xs.set i.toNat b).getD k false)):=by rw [bools_,List.getElem?_map,List.getElem?_range hk];rfl
    rw [e2]
    have e1:(bools_ n xs)[k]?=some (.bool (xs.getD k false)):=by rw [bools_,List.getElem?_map,List.getElem?_range hk];rfl
    by_cases hki:k < i.toNat
    · rw [List.getElem?_append_left (by simp [hl];omega),List.getElem?_take,if_pos hki,e1]
      simp [List.getD,List.getElem?_set,show i.toNat ≠ k by omega]
    · rw [List.getElem?_append_right (by simp [hl];omega)]
      have ht:((bools_ n xs).take i.toNat).length=i.toNat:=by simp [hl];omega
      rw [ht]
      by_cases he:k=i.toNat
      · subst he
        simp [List.getD,List.getElem?_set,hx,h]
      · obtain ⟨d,rfl⟩:∃ d,k=i.toNat + 1 + d:=⟨k - (i.toNat + 1),by omega⟩
        rw [show i.toNat + 1 + d - i.toNat=d + 1 by omega,List.singleton_append,List.getElem?_cons_succ,List.getElem?_drop,e1]
        simp [List.getD,List.getElem?_set,show i.toNat ≠ i.toNat + 1 + d by omega]
  · rw [List.getElem?_eq_none (by simp [hl];omega),List.getElem?_eq_none (by simp [bools_];omega)]
section
variable {P:Program} {N:Nat} {rs:List Nat} {r:Option Nat} {vs:List (Nat × Value)} {a:Act} {w w0:World} {ops:Array Oper} {Q:Exit→Act→World→Prop} {rest:List Oper}
variable {ty:TypeId} {pos:String} {aft:Array Edge} {D0 D:Stab} {ls:List (Nat × LR)}
theorem O.storeAI {T:TypeId} {x y:Operand} {b n o:Nat} {pre cs:List Value} {xs:List Bool} {E:TypeId} {i:Int} {u:Bool} (rid:Nat) (hT:tsz P T=some (false,1)) (hx:xs.length=n) (hi:0≤i∧i < (n:Int)) (hF:Frm N rs vs a)
    (hp:ev vs x=some (.pointer (some ⟨b,o,none⟩))) (ho:o=pre.length + i.toNat) (hy:ev vs y=some (.bool u)) (hS:St w0 D0 D ls w) (hl:lk ls rid=some (.cells b cs E)) (hc:cs=pre ++ bools_ n xs)
    (h:∀ a' w',Frm N rs vs a'→St w0 D0 D ((rid,.cells b (pre ++ bools_ n (xs.set i.toNat u)) E)::ls) w'→WL r P ops Q rest a' w'):
    WL r P ops Q (⟨none,.store T x y,ty,pos,aft,none⟩::rest) a w:=by
  subst hc
  refine O.store (us:=[.bool u]) rid hT hF hp hy rfl rfl hS hl (Nat.ble_eq_true_of_le ?_) fun a' w' hF' hS'=>h a' w' hF' ?_
  · have h:i.toNat < n:=by omega
    simp [bools_,ho];omega
  · rw [bools_set hx hi ho] at hS'
    exact hS'
theorem Y.sliceLH {dst:Option Nat} {gd:Option (Nat × Bool)} {α:Type} {xs:List α} {T E:TypeId} {x y z:Operand} {c sz:Nat} {p:Option Addr} {isA:Bool} {i k:Int} (hT:P.underlying T=some (.slice E)) (hE:tsz P E=some (isA,sz)) (hF:Frm N rs vs a)
    (hx:ev vs x=some (.slice p xs.length c)) (hy:ev vs y=some (.int .i64 i)) (hz:ev vs z=some (.int .i64 k)) (hk:(0≤i∧i≤k)∧k≤(xs.length:Int)) (hle:xs.length≤c):
    Yields P ⟨dst,.slice T x (some y) (some z) none,ty,pos,aft,gd⟩ a w (.slice (if c=i.toNat then p else p.map (·.add (i.toNat * sz))) ((xs.take k.toNat).drop i.toNat).length (c - i.toNat)):=by
  have hl:((xs.take k.toNat).drop i.toNat).length=k.toNat - i.toNat:=by rw [List.length_drop,List.length_take];omega
  rw [hl]
  simp only [Yields,execOp,hF.eval hx,Option.map_some,Option.map_none,hF.eval hy,hF.eval hz,Instr.sliceAt,Sem.run_bind,run_underlying hT,Result.andThen_ok,Instr.slice,Instr.sliceBounds,Instr.sliceBound,asIntOf,pure_bind]
  have h1:0≤k∧k≤(c:Int):=by omega
  have h2:0≤i∧i≤(k.toNat:Int):=by omega
  simp only [Sem.run_ite,h1,h2,if_true,Sem.run_pure,Result.andThen_ok,run_sizeOf_of hE,and_self]
end
end Go.Proofs.YtgdfljiliflhfaaGreatDoor.Rt
