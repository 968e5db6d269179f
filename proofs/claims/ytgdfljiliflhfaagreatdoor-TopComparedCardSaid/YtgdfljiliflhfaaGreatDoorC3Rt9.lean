/- The small program logic of this seat, part 9: arrays of many cells; captured variables; boxes that become stable. Under no conditions but those that each rule names. -/
import Derived.Test.YtgdfljiliflhfaaGreatDoorC3Rt8
import Derived.ChangeKeysEq
set_option linter.unusedSimpArgs false
set_option linter.unusedVariables false
namespace Go.Proofs.YtgdfljiliflhfaaGreatDoor.Rt
open Go Go.RowKit
section
variable {P:Program} {N:Nat} {rs:List Nat} {r:Option Nat} {vs:List (Nat × Value)} {a:Act} {w w0:World} {ops:Array Oper} {Q:Exit→Act→World→Prop} {rest:List Oper}
variable {d:Nat} {dst:Option Nat} {ty:TypeId} {pos:String} {aft:Array Edge} {gd:Option (Nat × Bool)} {v:Value} {D0 D:Stab} {ls:List (Nat × LR)}
structure Cel (α:Type) where
  f:α→Value
  one:∀ x,(f x).oneCell'=true
  cel:∀ x,(f x).cells=#[f x]
def celI:Cel Int:=⟨Value.int .i64,fun _=>rfl,fun _=>rfl⟩
def celB:Cel Bool:=⟨Value.bool,fun _=>rfl,fun _=>rfl⟩
def arr {α:Type} (F:Cel α) (xs:List α):List Value:=xs.map F.f
variable {α:Type} {F:Cel α}
theorem arr_len (xs:List α):(arr F xs).length=xs.length:=by simp [arr]
theorem arr_get {xs:List α} {n:Nat} (hn:xs.length=n) {i:Int} (hi:0≤i∧i < (n:Int)) (z:α):(arr F xs)[0 + i.toNat * 1]?=some (F.f (xs.getD i.toNat z)):=by
  have h:i.toNat < xs.length:=by omega
  simp [arr,h,List.getD]
theorem arr_set {xs:List α} {n:Nat} (hn:xs.length=n) {i:Int} (hi:0≤i∧i < (n:Int)) (x:α):splice (arr F xs) (0 + i.toNat * 1) [F.f x]=arr F (xs.set i.toNat x):=by
  have h:i.toNat < xs.length:=by omega
  simp only [splice,arr,Nat.mul_one,Nat.zero_add,List.length_singleton,List.map_set]
  rw [List.set_eq_take_append_cons_drop]
  simp [h]
theorem Y.load1A {T:TypeId} {x:Operand} {b m n:Nat} {xs:List α} {E:TypeId} {i:Int} (rid:Nat) (z:α) (hT:tsz P T=some (false,m)) (hn:xs.length=n) (hi:0≤i∧i < (n:Int)) (hF:Frm N rs vs a)
    (hx:ev vs x=some (.pointer (some ⟨b,0 + i.toNat * 1,none⟩))) (hS:St w0 D0 D ls w) (hl:lk ls rid=some (.cells b (arr F xs) E)):Yields P ⟨dst,.load T x,ty,pos,aft,gd⟩ a w (F.f (xs.getD i.toNat z)):=
  Y.load1 hT hF hx (hS.cell hl (arr_get hn hi z))
theorem Y.loadA {T:TypeId} {x:Operand} {b n:Nat} {xs:List α} {E:TypeId} (rid:Nat) (hT:tsz P T=some (true,n)) (hn:xs.length=n) (hF:Frm N rs vs a)
    (hx:ev vs x=some (.pointer (some ⟨b,0,none⟩))) (hS:St w0 D0 D ls w) (hl:lk ls rid=some (.cells b (arr F xs) E)):Yields P ⟨dst,.load T x,ty,pos,aft,gd⟩ a w (.agg (arr F xs).toArray):=
  Y.loadN (by rw [arr_len,hn];exact hT) hF hx fun j u hj=>by rw [Nat.zero_add];exact hS.cell hl hj
theorem O.storeA {T:TypeId} {x y:Operand} {b n:Nat} {xs:List α} {E:TypeId} {i:Int} {u:α} (rid:Nat) (hT:tsz P T=some (false,1)) (hn:xs.length=n) (hi:0≤i∧i < (n:Int)) (hF:Frm N rs vs a)
    (hx:ev vs x=some (.pointer (some ⟨b,0 + i.toNat * 1,none⟩))) (hy:ev vs y=some (F.f u)) (hS:St w0 D0 D ls w) (hl:lk ls rid=some (.cells b (arr F xs) E))
    (h:∀ a' w',Frm N rs vs a'→St w0 D0 D ((rid,.cells b (arr F (xs.set i.toNat u)) E)::ls) w'→WL r P ops Q rest a' w'):
    WL r P ops Q (⟨none,.store T x y,ty,pos,aft,none⟩::rest) a w:=by
  refine O.store (us:=[F.f u]) rid hT hF hx hy (by rw [F.cel]) (by simp [F.one]) hS hl (Nat.ble_eq_true_of_le (by rw [arr_len];simp;omega)) fun a' w' hF' hS'=>h a' w' hF' ?_
  rw [arr_set hn hi] at hS'
  exact hS'
theorem splice_all (cs us:List Value) (h:us.length=cs.length):splice cs 0 us=us:=by simp [splice,h]
theorem O.storeW {T:TypeId} {x y:Operand} {b n:Nat} {xs ys:List α} {E:TypeId} (rid:Nat) (hT:tsz P T=some (true,n)) (hn:xs.length=n) (hn':ys.length=n) (hF:Frm N rs vs a)
    (hx:ev vs x=some (.pointer (some ⟨b,0,none⟩))) (hy:ev vs y=some (.agg (arr F ys).toArray)) (hS:St w0 D0 D ls w) (hl:lk ls rid=some (.cells b (arr F xs) E))
    (h:∀ a' w',Frm N rs vs a'→St w0 D0 D ((rid,.cells b (arr F ys) E)::ls) w'→WL r P ops Q rest a' w'):
    WL r P ops Q (⟨none,.store T x y,ty,pos,aft,none⟩::rest) a w:=by
  refine O.store (us:=arr F ys) rid (by rw [arr_len,hn'];exact hT) hF hx hy rfl (by simp [arr,F.one]) hS hl (Nat.ble_eq_true_of_le (by rw [arr_len,arr_len];omega)) fun a' w' hF' hS'=>h a' w' hF' ?_
  rw [splice_all _ _ (by rw [arr_len,arr_len,hn,hn'])] at hS'
  exact hS'
theorem Y.load1H {T:TypeId} {x:Operand} {b o m:Nat} {cs:List Value} {E:TypeId} {fr:Nat × Nat} (hT:tsz P T=some (false,m)) (hF:Frm N rs vs a) (hx:ev vs x=some (.pointer (some ⟨b,o,none⟩)))
    (hb:w.heap[b]?=some (.cells cs.toArray E fr)) (hv:cs[o]?=some v):Yields P ⟨dst,.load T x,ty,pos,aft,gd⟩ a w v:=
  Y.load1 hT hF hx (by rw [cell_of_heap hb];simpa using hv)
theorem Y.loadNH {T:TypeId} {x:Operand} {b o n:Nat} {cs us:List Value} {E:TypeId} {fr:Nat × Nat} (hT:tsz P T=some (true,n)) (hF:Frm N rs vs a) (hx:ev vs x=some (.pointer (some ⟨b,o,none⟩)))
    (hb:w.heap[b]?=some (.cells cs.toArray E fr)) (hu:(cs.drop o).take n=us) (hn:us.length=n):Yields P ⟨dst,.load T x,ty,pos,aft,gd⟩ a w (.agg us.toArray):=by
  refine Y.loadN (by rw [hn];exact hT) hF hx fun j u hj=>?_
  rw [cell_of_heap hb]
  rw [← hu,List.getElem?_take] at hj
  split at hj
  · rw [List.getElem?_drop] at hj;simpa using hj
  · cases hj
theorem Y.makeFunc {fn:Fn} {first cap:List Operand} {fs cs:List Value} (hF:Frm N rs vs a) (hf:evs vs first=some fs) (hc:evs vs cap=some cs):
    Yields P ⟨dst,.makeFunc fn first.toArray cap.toArray,ty,pos,aft,gd⟩ a w (.func fn fs.toArray cs.toArray):=by
  have h1:=hF.evals hf;have h2:=hF.evals hc
  simp [Yields,execOp,Instr.makeFunc,h1,h2]
theorem St.freezeB {i b:Nat} {cs:List Value} {E:TypeId} (hS:St w0 D0 D ls w) (hl:lk ls i=some (.cells b cs E)):
    ∃ D',D.le D'∧D' b=some (.cells cs.toArray E (0,0))∧St w0 D0 D' ((i,.gone)::ls) w:=by
  have hb:w.heap[b]?=some (.cells cs.toArray E (0,0)):=hS.each i _ hl
  have hlow:=hS.low i _ hl b (by simp [LR.fp])
  have hle:D.le (fun k=>if k=b then some (.cells cs.toArray E (0,0)) else D k):=fun k o hk=>by
    by_cases hkb:k=b
    · subst hkb;rw [hlow.2] at hk;cases hk
    · simp only [hkb,if_false];exact hk
  refine ⟨_,hle,by simp,?_⟩
  have hS':=hS.turn i .gone hS.below (fun _ _ _=>rfl) trivial (fun b hb=>by simp [LR.fp] at hb)
  refine ⟨hS'.below,hS'.le.trans hle,fun k hk=>?_,fun k o hk=>?_,hS'.each,fun j s hj k hk=>⟨(hS'.low j s hj k hk).1,?_⟩,hS'.sep⟩
  · by_cases hkb:k=b
    · subst hkb;exact .inr hlow.1
    · simp only [hkb,if_false] at hk;exact hS'.new k hk
  · by_cases hkb:k=b
    · subst hkb;simp only [if_true,Option.some.injEq] at hk;rw [hb,hk]
    · simp only [hkb,if_false] at hk;exact hS'.stab k o hk
  · have hne:k ≠ b:=fun e=>by
      subst e
      rcases lk_cons hj with ⟨_,rfl⟩ | ⟨hji,hj'⟩
      · simp [LR.fp] at hk
      · exact hS.sep j i s _ hj' hl hji k hk (by simp [LR.fp])
    simp only [hne,if_false]
    exact (hS'.low j s hj k hk).2
theorem Y.indexG {T E:TypeId} {x y:Operand} {n:Nat} {tab:List Value} {i:Int} (hT:P.underlying T=some (.array n E)) (hE:tsz P E=some (false,1)) (hn:tab.length=n) (hi:0≤i∧i < (n:Int)) (hF:Frm N rs vs a)
    (hx:ev vs x=some (.agg tab.toArray)) (hy:ev vs y=some (.int .i64 i)):Yields P ⟨dst,.index T x y,ty,pos,aft,gd⟩ a w (tab.getD i.toNat undef):=by
  have h:i.toNat < tab.length:=by omega
  have hg:tab[i.toNat]?=some (tab.getD i.toNat undef):=by simp [List.getD,h]
  simp only [Yields,execOp,hF.eval hx,hF.eval hy,Instr.index,Sem.run_bind,asIntOf,pure_bind,run_underlying hT,Result.andThen_ok,Sem.run_ite]
  rw [if_pos hi]
  simp only [Sem.run_bind,run_sizeOf_of hE,Result.andThen_ok,part,run_isAgg_of hE,Bool.false_eq_true,if_false,List.getElem?_toArray,Nat.mul_one,hg]
  rfl
open Classical in
noncomputable def limU {α:Type} (f:Nat→Option α):Option α:=if h:∃ n r,f n=some r then some (Classical.choose (Classical.choose_spec h)) else none
theorem limU_some {α:Type} {f:Nat→Option α} {r:α} (h:limU f=some r):∃ n,f n=some r:=by
  unfold limU at h
  split at h
  · rename_i hex
    injection h with h
    exact ⟨_,h ▸ Classical.choose_spec (Classical.choose_spec hex)⟩
  · cases h
theorem limU_of {α:Type} {f:Nat→Option α} {r:α} {n:Nat} (h:f n=some r) (hu:∀ m s,f m=some s→s=r):limU f=some r:=by
  have hex:∃ n r,f n=some r:=⟨n,r,h⟩
  unfold limU
  rw [dif_pos hex]
  have h2:=Classical.choose_spec (Classical.choose_spec hex)
  rw [hu _ _ h2]
theorem run_items [BEq α] [LawfulBEq α] {E:TypeId} (hE:tsz P E=some (false,1)) (hc:P.cellsOf E=1) (D:Nat)
    (he:∀ x y w,(Op.equalIn D E (F.f x) (F.f y)).run P w=.ok (x == y) w) (xs ys:List α) (hxy:xs.length=ys.length):∀ (m k:Nat),k + m=xs.length →
    (Op.eqItems D E (P.cellsOf E) (arr F xs).toArray (arr F ys).toArray (List.range' k m)).run P w=.ok (xs.drop k == ys.drop k) w
  | 0,k,h=>by
    have h1:xs.drop k=[]:=List.drop_of_length_le (by omega)
    have h2:ys.drop k=[]:=List.drop_of_length_le (by omega)
    rw [h1,h2];rfl
  | m + 1,k,h=>by
    have hkx:k < xs.length:=by omega
    have hky:k < ys.length:=by omega
    have p1:∀ (zs:List α) (hz:k < zs.length),(part E (arr F zs).toArray (k * P.cellsOf E)).run P w=.ok (F.f zs[k]) w:=fun zs hz=>by
      have hg:(arr F zs)[k]?=some (F.f zs[k]):=by simp [arr,hz]
      unfold part
      simp only [Sem.run_bind,run_isAgg_of hE,Result.andThen_ok,Bool.false_eq_true,if_false,hc,Nat.mul_one,List.getElem?_toArray,hg,Sem.run_pure]
    rw [List.range'_succ]
    simp only [Op.eqItems,Sem.run_bind,p1 xs hkx,p1 ys hky,he,Result.andThen_ok,Sem.run_ite,Sem.run_pure]
    rw [run_items hE hc D he xs ys hxy m (k + 1) (by omega)]
    rw [← List.getElem_cons_drop hkx,← List.getElem_cons_drop hky]
    show _=Result.ok (xs[k] == ys[k] && (xs.drop (k + 1) == ys.drop (k + 1))) w
    cases (xs[k] == ys[k]) <;> simp
theorem run_equal_arr [BEq α] [LawfulBEq α] {T E:TypeId} {n:Nat} (hT:P.underlying T=some (.array n E)) (hE:tsz P E=some (false,1))
    (he:∀ D x y w,(Op.equalIn (D + 1) E (F.f x) (F.f y)).run P w=.ok (x == y) w) {xs ys:List α} (hx:xs.length=n) (hy:ys.length=n):
    (Op.equal T (.agg (arr F xs).toArray) (.agg (arr F ys).toArray)).run P w=.ok (xs == ys) w:=by
  refine run_equal_of fun D=>?_
  have hi:∃ i,P.info? E=some i∧i.size=1:=by
    unfold tsz at hE
    split at hE
    · rename_i d i _ hi
      injection hE with hE
      injection hE with _ h2
      exact ⟨i,hi,h2⟩
    · cases hE
  obtain ⟨i,hi,h1⟩:=hi
  have hc:P.cellsOf E=1:=by simp [Program.cellsOf,hi,h1]
  rw [run_equalIn_array w (D + 4) _ _ hT hi,List.range_eq_range']
  have:=run_items (w:=w) (F:=F) hE hc (D + 4) (fun x y w=>he (D + 3) x y w) xs ys (by omega) n 0 (by omega)
  simpa using this
theorem eqI {E:TypeId} (hu:P.underlying E=some (.int .i64)) (D:Nat) (x y:Int) (w:World):(Op.equalIn (D + 1) E (celI.f x) (celI.f y)).run P w=.ok (x == y) w:=run_equalIn_int w D E .i64 .i64 x y hu
theorem eqB {E:TypeId} (hu:P.underlying E=some .bool) (D:Nat) (x y:Bool) (w:World):(Op.equalIn (D + 1) E (celB.f x) (celB.f y)).run P w=.ok (x == y) w:=run_equalIn_bool D hu
end
end Go.Proofs.YtgdfljiliflhfaaGreatDoor.Rt
