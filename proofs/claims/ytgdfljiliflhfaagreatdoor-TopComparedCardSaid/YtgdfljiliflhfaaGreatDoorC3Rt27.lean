/- The small program logic of this seat, part 27: arrays whose elements are structs of whole numbers. Under no conditions but those that each rule names. -/
import Derived.Test.YtgdfljiliflhfaaGreatDoorC3Rt26
import Derived.Test.YtgdfljiliflhfaaGreatDoorC3Rt23
set_option linter.unusedVariables false
set_option linter.unusedSimpArgs false
set_option maxRecDepth 100000
namespace Go.Proofs.YtgdfljiliflhfaaGreatDoor.Rt
open Go Go.RowKit
structure CelN (α:Type) (n:Nat) where
  f:α→List Int
  len:∀ x,(f x).length=n
def arrN {α:Type} {n:Nat} (F:CelN α n):List α→List Value
  | []=>[]
  | x::xs=>ints (F.f x) ++ arrN F xs
section
variable {α:Type} {n:Nat} {F:CelN α n}
theorem take_pre {l m:List Value} {n:Nat} (h:l.length=n):(l ++ m).take n=l:=by subst h;exact List.take_left
theorem drop_pre {l m:List Value} {n:Nat} (h:l.length=n):(l ++ m).drop n=m:=by subst h;exact List.drop_left
theorem ints_len' (l:List Int):(ints l).length=l.length:=by simp [ints]
theorem arrN_len:∀ xs:List α,(arrN F xs).length=xs.length * n
  | []=>by simp [arrN]
  | x::xs=>by rw [arrN,List.length_append,ints_len',F.len,arrN_len xs,List.length_cons,Nat.add_mul,Nat.one_mul,Nat.add_comm]
theorem arrN_part:∀ (xs:List α) (i:Nat) (h:i < xs.length),((arrN F xs).drop (i * n)).take n=ints (F.f xs[i])
  | [],i,h=>by simp at h
  | x::xs,0,h=>by
    have hl:(ints (F.f x)).length=n:=by rw [ints_len',F.len]
    rw [Nat.zero_mul,List.drop_zero,arrN,take_pre hl];rfl
  | x::xs,i + 1,h=>by
    have hl:(ints (F.f x)).length=n:=by rw [ints_len',F.len]
    have ih:=arrN_part xs i (by simpa using h)
    rw [arrN,Nat.add_mul,Nat.one_mul,Nat.add_comm,← List.drop_drop]
    rw [show (ints (F.f x) ++ arrN F xs).drop n=arrN F xs from drop_pre hl]
    exact ih
theorem arrN_get (xs:List α) (i k:Nat) (h:i < xs.length) (hk:k < n):(arrN F xs)[i * n + k]?=(ints (F.f xs[i]))[k]?:=by
  rw [← arrN_part xs i h,List.getElem?_take,if_pos hk,List.getElem?_drop]
theorem arrN_set:∀ (xs:List α) (i:Nat) (x:α),i < xs.length→splice (arrN F xs) (i * n) (ints (F.f x))=arrN F (xs.set i x)
  | [],i,x,h=>by simp at h
  | y::xs,0,x,h=>by
    have hl:(ints (F.f y)).length=n:=by rw [ints_len',F.len]
    have hl2:(ints (F.f x)).length=n:=by rw [ints_len',F.len]
    simp only [splice,Nat.zero_mul,List.take_zero,List.nil_append,Nat.zero_add,List.set_cons_zero,arrN]
    rw [hl2,drop_pre hl]
  | y::xs,i + 1,x,h=>by
    have hl:(ints (F.f y)).length=n:=by rw [ints_len',F.len]
    have ih:=arrN_set xs i x (by simpa using h)
    simp only [splice] at ih ⊢
    rw [List.set_cons_succ,arrN,arrN,← ih,Nat.add_mul,Nat.one_mul]
    rw [List.take_append,List.drop_append,hl,List.take_of_length_le (by omega),show i * n + n - n=i * n by omega,show i * n + n + (ints (F.f x)).length - n=i * n + (ints (F.f x)).length by omega,List.drop_of_length_le (by omega),List.nil_append]
    simp only [List.append_assoc]
end
section
variable {P:Program} {N:Nat} {rs:List Nat} {r:Option Nat} {vs:List (Nat × Value)} {a:Act} {w w0:World} {ops:Array Oper} {Q:Exit→Act→World→Prop} {rest:List Oper}
variable {d:Nat} {dst:Option Nat} {ty:TypeId} {pos:String} {aft:Array Edge} {gd:Option (Nat × Bool)} {v:Value} {D0 D:Stab} {ls:List (Nat × LR)}
variable {α:Type} {n:Nat} {F:CelN α n}
theorem getD_at {xs:List α} {m:Nat} (hm:xs.length=m) {i:Int} (hi:0≤i∧i < (m:Int)) (z:α):∃ h:i.toNat < xs.length,xs.getD i.toNat z=xs[i.toNat]:=by
  have h:i.toNat < xs.length:=by omega
  exact ⟨h,by simp [List.getD,h]⟩
theorem extract_part (l:List Value) (i n:Nat):l.toArray.extract i (i + n)=((l.drop i).take n).toArray:=by
  apply Array.ext'
  simp [List.extract_eq_take_drop]
theorem Y.loadAN {T:TypeId} {x:Operand} {b m:Nat} {xs:List α} {E:TypeId} {i:Int} (rid:Nat) (z:α) (hT:tsz P T=some (true,n)) (hm:xs.length=m) (hi:0≤i∧i < (m:Int)) (hF:Frm N rs vs a)
    (hx:ev vs x=some (.pointer (some ⟨b,0 + i.toNat * n,none⟩))) (hS:St w0 D0 D ls w) (hl:lk ls rid=some (.cells b (arrN F xs) E)):
    Yields P ⟨dst,.load T x,ty,pos,aft,gd⟩ a w (.agg (ints (F.f (xs.getD i.toNat z))).toArray):=by
  obtain ⟨h,e⟩:=getD_at hm hi z
  rw [e]
  refine Y.loadNL rid hT hF hx hS hl (by rw [Nat.zero_add];exact arrN_part xs _ h) (Nat.ble_eq_true_of_le ?_)
  have:(i.toNat + 1) * n≤xs.length * n:=Nat.mul_le_mul_right n h
  rw [arrN_len,Nat.zero_add]
  rw [Nat.add_mul,Nat.one_mul] at this
  exact this
theorem Y.load1AN {T:TypeId} {x:Operand} {b m k j:Nat} {xs:List α} {E:TypeId} {i:Int} {y:Int} (rid:Nat) (z:α) (hT:tsz P T=some (false,j)) (hm:xs.length=m) (hi:0≤i∧i < (m:Int)) (hk:k < n) (hF:Frm N rs vs a)
    (hx:ev vs x=some (.pointer (some ⟨b,0 + i.toNat * n + k,none⟩))) (hS:St w0 D0 D ls w) (hl:lk ls rid=some (.cells b (arrN F xs) E)) (hy:(F.f (xs.getD i.toNat z))[k]?=some y):
    Yields P ⟨dst,.load T x,ty,pos,aft,gd⟩ a w (.int .i64 y):=by
  obtain ⟨h,e⟩:=getD_at hm hi z
  rw [e] at hy
  refine Y.load1L rid hT hF hx hS hl ?_
  rw [Nat.zero_add,arrN_get xs _ k h hk,ints,List.getElem?_map,hy];rfl
theorem Y.loadAW {T:TypeId} {x:Operand} {b m M:Nat} {xs:List α} {E:TypeId} (rid:Nat) (hT:tsz P T=some (true,M)) (hm:xs.length=m) (hM:m * n=M) (hF:Frm N rs vs a)
    (hx:ev vs x=some (.pointer (some ⟨b,0,none⟩))) (hS:St w0 D0 D ls w) (hl:lk ls rid=some (.cells b (arrN F xs) E)):Yields P ⟨dst,.load T x,ty,pos,aft,gd⟩ a w (.agg (arrN F xs).toArray):=
  Y.loadN (by rw [arrN_len,hm,hM];exact hT) hF hx fun j u hj=>by rw [Nat.zero_add];exact hS.cell hl hj
theorem ints_one (l:List Int):(ints l).all (·.oneCell')=true:=by
  rw [List.all_eq_true]
  intro x hx
  simp only [ints,List.mem_map] at hx
  obtain ⟨y,_,rfl⟩:=hx
  rfl
theorem arrN_one:∀ xs:List α,(arrN F xs).all (·.oneCell')=true
  | []=>rfl
  | x::xs=>by rw [arrN,List.all_append,ints_one,arrN_one xs];rfl
theorem O.storeAN {T:TypeId} {x y:Operand} {b m:Nat} {xs:List α} {E:TypeId} {i:Int} {u:α} (rid:Nat) (hT:tsz P T=some (true,n)) (hm:xs.length=m) (hi:0≤i∧i < (m:Int)) (hF:Frm N rs vs a)
    (hx:ev vs x=some (.pointer (some ⟨b,0 + i.toNat * n,none⟩))) (hy:ev vs y=some (.agg (ints (F.f u)).toArray)) (hS:St w0 D0 D ls w) (hl:lk ls rid=some (.cells b (arrN F xs) E))
    (h:∀ a' w',Frm N rs vs a'→St w0 D0 D ((rid,.cells b (arrN F (xs.set i.toNat u)) E)::ls) w'→WL r P ops Q rest a' w'):
    WL r P ops Q (⟨none,.store T x y,ty,pos,aft,none⟩::rest) a w:=by
  have hlt:i.toNat < xs.length:=by omega
  refine O.store (us:=ints (F.f u)) rid (by rw [ints_len',F.len];exact hT) hF hx hy rfl (ints_one _) hS hl (Nat.ble_eq_true_of_le ?_) fun a' w' hF' hS'=>h a' w' hF' ?_
  · have:(i.toNat + 1) * n≤xs.length * n:=Nat.mul_le_mul_right n hlt
    rw [arrN_len,ints_len',F.len,Nat.zero_add]
    rw [Nat.add_mul,Nat.one_mul] at this
    exact this
  · rw [Nat.zero_add,arrN_set xs _ u hlt] at hS'
    exact hS'
theorem O.storeWN {T:TypeId} {x y:Operand} {b m M:Nat} {xs ys:List α} {E:TypeId} (rid:Nat) (hT:tsz P T=some (true,M)) (hm:xs.length=m) (hm':ys.length=m) (hM:m * n=M) (hF:Frm N rs vs a)
    (hx:ev vs x=some (.pointer (some ⟨b,0,none⟩))) (hy:ev vs y=some (.agg (arrN F ys).toArray)) (hS:St w0 D0 D ls w) (hl:lk ls rid=some (.cells b (arrN F xs) E))
    (h:∀ a' w',Frm N rs vs a'→St w0 D0 D ((rid,.cells b (arrN F ys) E)::ls) w'→WL r P ops Q rest a' w'):
    WL r P ops Q (⟨none,.store T x y,ty,pos,aft,none⟩::rest) a w:=by
  refine O.store (us:=arrN F ys) rid (by rw [arrN_len,hm',hM];exact hT) hF hx hy rfl (arrN_one _) hS hl (Nat.ble_eq_true_of_le (by rw [arrN_len,arrN_len,hm,hm',Nat.zero_add];exact Nat.le_refl _)) fun a' w' hF' hS'=>h a' w' hF' ?_
  rw [splice_all _ _ (by rw [arrN_len,arrN_len,hm,hm'])] at hS'
  exact hS'
theorem run_itemsN {E:TypeId} (hE:tsz P E=some (true,n)) (hc:P.cellsOf E=n) (D:Nat)
    (he:∀ x y w,(Op.equalIn D E (.agg (ints (F.f x)).toArray) (.agg (ints (F.f y)).toArray)).run P w=.ok (F.f x == F.f y) w) (xs ys:List α) (hxy:xs.length=ys.length):∀ (m k:Nat),k + m=xs.length →
    (Op.eqItems D E (P.cellsOf E) (arrN F xs).toArray (arrN F ys).toArray (List.range' k m)).run P w=.ok ((xs.drop k).map F.f == (ys.drop k).map F.f) w
  | 0,k,h=>by
    have h1:xs.drop k=[]:=List.drop_of_length_le (by omega)
    have h2:ys.drop k=[]:=List.drop_of_length_le (by omega)
    rw [h1,h2];rfl
  | m + 1,k,h=>by
    have hkx:k < xs.length:=by omega
    have hky:k < ys.length:=by omega
    have p1:∀ (zs:List α) (hz:k < zs.length),(part E (arrN F zs).toArray (k * P.cellsOf E)).run P w=.ok (.agg (ints (F.f zs[k])).toArray) w:=fun zs hz=>by
      unfold part
      simp only [Sem.run_bind,run_isAgg_of hE,Result.andThen_ok,if_true,run_sizeOf_of hE,hc,Sem.run_pure]
      rw [extract_part (arrN F zs) _ n,arrN_part zs k hz]
    rw [List.range'_succ]
    simp only [Op.eqItems,Sem.run_bind,p1 xs hkx,p1 ys hky,he,Result.andThen_ok,Sem.run_ite,Sem.run_pure]
    rw [run_itemsN hE hc D he xs ys hxy m (k + 1) (by omega)]
    rw [← List.getElem_cons_drop hkx,← List.getElem_cons_drop hky]
    show _=Result.ok (F.f xs[k] == F.f ys[k] && ((xs.drop (k + 1)).map F.f == (ys.drop (k + 1)).map F.f)) w
    cases (F.f xs[k] == F.f ys[k]) <;> simp
theorem run_equal_arrN {T E:TypeId} {m j:Nat} (hT:P.underlying T=some (.array m E)) (he:EqT P E true n j) (hj:j≤4) {xs ys:List α} (hx:xs.length=m) (hy:ys.length=m):
    (Op.equal T (.agg (arrN F xs).toArray) (.agg (arrN F ys).toArray)).run P w=.ok (xs.map F.f == ys.map F.f) w:=by
  have hE:=he.1
  refine run_equal_of fun D=>?_
  have hi:∃ i,P.info? E=some i∧i.size=n:=by
    unfold tsz at hE
    split at hE
    · rename_i d i _ hi
      injection hE with hE
      injection hE with _ h2
      exact ⟨i,hi,h2⟩
    · cases hE
  obtain ⟨i,hi,h1⟩:=hi
  have hc:P.cellsOf E=n:=by simp [Program.cellsOf,hi,h1]
  rw [run_equalIn_array w (D + 4) _ _ hT hi,List.range_eq_range']
  have hd:D + 4=(D + (4 - j)) + j:=by omega
  have:=run_itemsN (w:=w) (F:=F) hE hc (D + 4) (fun x y w=>by rw [hd];exact he.2.2 (D + (4 - j)) (F.f x) (F.f y) w (F.len x) (F.len y)) xs ys (by omega) m 0 (by omega)
  simpa using this
end
end Go.Proofs.YtgdfljiliflhfaaGreatDoor.Rt
