/- The small program logic of this seat, part 7: structs of whole numbers compared; maps whose keys are such structs. Under no conditions but those that each rule names. -/
import Derived.Test.YtgdfljiliflhfaaGreatDoorC3Rt6
import Derived.Laws.StructEq
set_option linter.unusedSimpArgs false
set_option linter.unusedVariables false
namespace Go.Proofs.YtgdfljiliflhfaaGreatDoor.Rt
open Go Go.RowKit
def ints (l:List Int):List Value:=l.map (Value.int .i64)
def valA (agg:Bool) (l:List Int):Value:=bif agg then .agg (ints l).toArray else .int .i64 (l.headD 0)
section
variable {P:Program} {w:World}
def fld (f : Field) : Bool × TypeId × Nat := (f.name == "_", f.type, f.offset)
def eqF (d:Nat) (xs ys:Array Value):List (Bool × TypeId × Nat)→Sem Bool
  | []=>pure true
  | (b,t,o)::r=>bif b then eqF d xs ys r else do
      let x ← part t xs o
      let y ← part t ys o
      let z ← Op.equalIn d t x y
      if (!z)=true then pure false else eqF d xs ys r
theorem eqFields_eq (d:Nat) (xs ys:Array Value):∀ fs:List Field,Op.eqFields d xs ys fs=eqF d xs ys (fs.map fld)
  | []=>rfl
  | f::fs=>by
    simp only [Op.eqFields,List.map_cons,fld,eqF]
    by_cases h : f.name = "_"
    · have h' : (f.name == "_") = true := by simp [h]
      rw [if_neg (by simp [h]),h',cond_true]
      exact eqFields_eq d xs ys fs
    · have h' : (f.name == "_") = false := by simp [h]
      rw [if_pos h,h',cond_false]
      have:=eqFields_eq d xs ys fs
      simp only [this]
def EqT (P:Program) (t:TypeId) (agg:Bool) (k j:Nat):Prop:=
  tsz P t=some (agg,k)∧(agg=false→k=1)∧∀ (D:Nat) (l m:List Int) (w:World),l.length=k→m.length=k→(Op.equalIn (D + j) t (valA agg l) (valA agg m)).run P w=.ok (l == m) w
theorem EqT.int {t:TypeId} (hu:P.underlying t=some (.int .i64)) (hs:tsz P t=some (false,1)):EqT P t false 1 1:=
  ⟨hs,fun _=>rfl,fun D l m w hl hm=>by
    match l,m,hl,hm with
    | [a],[b],_,_=>
      show (Op.equalIn (D + 1) t (.int .i64 a) (.int .i64 b)).run P w=_
      rw [run_equalIn_int w D t .i64 .i64 a b hu]
      congr 1
      show _=(a == b && true)
      simp⟩
theorem part_ints {t:TypeId} {k:Nat} {agg:Bool} {l:List Int} {o:Nat} (hs:tsz P t=some (agg,k)) (h1:agg=false→k=1) (hl:o + k≤l.length):
    (part t (ints l).toArray o).run P w=.ok (valA agg ((l.drop o).take k)) w:=by
  unfold part
  rw [Sem.run_bind,run_isAgg_of hs,Result.andThen_ok]
  cases agg with
  | true=>
    simp only [if_true,Sem.run_bind,run_sizeOf_of hs,Result.andThen_ok,Sem.run_pure,valA,cond_true]
    congr 2
    apply Array.ext'
    simp only [ints,Array.toList_extract,List.extract_eq_take_drop,List.map_take,List.map_drop]
    congr 1
    omega
  | false=>
    have hk:=h1 rfl
    subst hk
    have ho:o < l.length:=by omega
    have e1:(ints l).toArray[o]?=some (.int .i64 l[o]):=by simp [ints,ho]
    simp only [Bool.false_eq_true,if_false,e1,Sem.run_pure,valA,cond_false]
    congr 2
    simp [List.take_one,List.head?_drop,ho]
def FsEq (P:Program) (j:Nat):List (Bool × TypeId × Nat)→Nat→Nat→Prop
  | [],o,n=>o=n
  | (b,t,o')::r,o,n=>b=false∧o'=o∧∃ agg k,EqT P t agg k j∧FsEq P j r (o + k) n
theorem FsEq.le {j:Nat}:∀ {fl:List (Bool × TypeId × Nat)} {o n:Nat},FsEq P j fl o n→o≤n
  | [],o,n,h=>by simp only [FsEq] at h;omega
  | (b,t,o')::r,o,n,⟨_,_,agg,k,_,h⟩=>by have:=FsEq.le h;omega
theorem run_eqF {j:Nat} (D:Nat) (l m:List Int):∀ {fl:List (Bool × TypeId × Nat)} {o n:Nat},FsEq P j fl o n→l.length=n→m.length=n →
    (eqF (D + j) (ints l).toArray (ints m).toArray fl).run P w=.ok (l.drop o == m.drop o) w
  | [],o,n,h,hl,hm=>by
    simp only [FsEq] at h
    subst h
    simp [eqF,hl,hm,List.drop_of_length_le]
  | (b,t,o')::r,o,n,h,hl,hm=>by
    obtain ⟨rfl,rfl,agg,k,he,hr⟩:=h
    have hle:=hr.le
    simp only [eqF,cond_false,Sem.run_bind,part_ints he.1 he.2.1 (show o' + k≤l.length by omega),part_ints he.1 he.2.1 (show o' + k≤m.length by omega),Result.andThen_ok]
    rw [he.2.2 D _ _ w (by simp;omega) (by simp;omega),Result.andThen_ok,Sem.run_ite,run_eqF D l m hr hl hm]
    have e1:l.drop o'=(l.drop o').take k ++ l.drop (o' + k):=by rw [← List.drop_drop];exact (List.take_append_drop k _).symm
    have e2:m.drop o'=(m.drop o').take k ++ m.drop (o' + k):=by rw [← List.drop_drop];exact (List.take_append_drop k _).symm
    have hlen:((l.drop o').take k).length=((m.drop o').take k).length:=by simp [hl,hm]
    have e3:(l.drop o' == m.drop o')=(((l.drop o').take k == (m.drop o').take k) && (l.drop (o' + k) == m.drop (o' + k))):=by
      rw [Bool.eq_iff_iff]
      simp only [Bool.and_eq_true,beq_iff_eq]
      constructor
      · intro h
        exact ⟨by rw [h],by rw [← List.drop_drop,← List.drop_drop,h]⟩
      · rintro ⟨h1,h2⟩
        rw [e1,e2,h1,h2]
    rw [e3]
    cases ((l.drop o').take k == (m.drop o').take k) <;> simp
theorem EqT.struct {t:TypeId} {n j:Nat} (hs:tsz P t=some (true,n)) (ht:P.underlying t=some (.struct (P.fieldsOf t))) (hp:P.stoodInHeld t=false)
    {fl:List (Bool × TypeId × Nat)} (hfl:(P.fieldsOf t).toList.map fld=fl) (h:FsEq P j fl 0 n):EqT P t true n (j + 1):=
  ⟨hs,fun h=>(by cases h),fun D l m w hl hm=>by
    show (Op.equalIn (D + j + 1) t (.agg (ints l).toArray) (.agg (ints m).toArray)).run P w=_
    rw [run_equalIn_struct w _ t _ _ ht hp,eqFields_eq,hfl,run_eqF D l m h hl hm]
    simp⟩
theorem EqT.equal {t:TypeId} {n j:Nat} (h:EqT P t true n j) (hj:j≤5) {l m:List Int} (hl:l.length=n) (hm:m.length=n):(Op.equal t (.agg (ints l).toArray) (.agg (ints m).toArray)).run P w=.ok (l == m) w:=
  run_equal_of fun D=>by
    have:=h.2.2 (D + (5 - j)) l m w hl hm
    rw [show D + (5 - j) + j=D + 5 by omega] at this
    exact this
def ckF (em:Bool) (d:Nat) (xs:Array Value):List (Bool × TypeId × Nat)→Sem Unit
  | []=>pure ()
  | (b,t,o)::r=>bif b then ckF em d xs r else do
      let x ← part t xs o
      Instr.checkKey em d t x
      ckF em d xs r
theorem run_checkKey_struct (em:Bool) (d:Nat) (t:TypeId) (xs:Array Value) (ht:P.underlying t=some (.struct (P.fieldsOf t))):
    (Instr.checkKey em (d + 1) t (.agg xs)).run P w=(ckF em d xs ((P.fieldsOf t).toList.map fld)).run P w:=by
  simp only [Instr.checkKey,Sem.run_bind,run_underlying ht,Result.andThen_ok]
  rw [← Array.forIn_toList]
  generalize (P.fieldsOf t).toList=fs
  clear ht
  induction fs generalizing w with
  | nil=>simp [ckF]
  | cons f fs ih=>
    simp only [List.forIn_cons,List.map_cons,fld,ckF,Sem.run_bind,Sem.run_ite]
    by_cases h : f.name = "_"
    · have h' : (f.name == "_") = true := by simp [h]
      rw [if_neg (by simp [h]),h',cond_true]
      simp only [Sem.run_pure,Result.andThen_ok]
      exact ih
    · have h' : (f.name == "_") = false := by simp [h]
      rw [if_pos h,h',cond_false]
      simp only [Sem.run_bind]
      generalize (part f.type xs f.offset).run P w=r1
      cases r1 with
      | ok a w1=>
        simp only [Result.andThen_ok]
        generalize (Instr.checkKey em d f.type a).run P w1=r2
        cases r2 with
        | ok b w2=>simp only [Result.andThen_ok,Sem.run_pure];exact ih
        | halt x w2=>simp [Result.andThen]
      | halt x w1=>simp [Result.andThen]
def CkT (P:Program) (t:TypeId) (agg:Bool) (k j:Nat):Prop:=
  tsz P t=some (agg,k)∧(agg=false→k=1)∧∀ (D:Nat) (em:Bool) (l:List Int) (w:World),l.length=k→(Instr.checkKey em (D + j) t (valA agg l)).run P w=.ok () w
theorem CkT.int {t:TypeId} (hu:P.underlying t=some (.int .i64)) (hs:tsz P t=some (false,1)):CkT P t false 1 1:=
  ⟨hs,fun _=>rfl,fun D em l w hl=>by simp [Instr.checkKey,run_underlying hu]⟩
def FsCk (P:Program) (j:Nat):List (Bool × TypeId × Nat)→Nat→Nat→Prop
  | [],o,n=>o=n
  | (b,t,o')::r,o,n=>b=false∧o'=o∧∃ agg k,CkT P t agg k j∧FsCk P j r (o + k) n
theorem FsCk.le {j:Nat}:∀ {fl:List (Bool × TypeId × Nat)} {o n:Nat},FsCk P j fl o n→o≤n
  | [],o,n,h=>by simp only [FsCk] at h;omega
  | (b,t,o')::r,o,n,⟨_,_,agg,k,_,h⟩=>by have:=FsCk.le h;omega
theorem run_ckF {j:Nat} (D:Nat) (em:Bool) (l:List Int):∀ {fl:List (Bool × TypeId × Nat)} {o n:Nat},FsCk P j fl o n→l.length=n →
    (ckF em (D + j) (ints l).toArray fl).run P w=.ok () w
  | [],o,n,h,hl=>rfl
  | (b,t,o')::r,o,n,h,hl=>by
    obtain ⟨rfl,rfl,agg,k,he,hr⟩:=h
    have hle:=hr.le
    simp only [ckF,cond_false,Sem.run_bind,part_ints he.1 he.2.1 (show o' + k≤l.length by omega),Result.andThen_ok]
    rw [he.2.2 D em _ w (by simp;omega),Result.andThen_ok]
    exact run_ckF D em l hr hl
theorem CkT.struct {t:TypeId} {n j:Nat} (hs:tsz P t=some (true,n)) (ht:P.underlying t=some (.struct (P.fieldsOf t)))
    {fl:List (Bool × TypeId × Nat)} (hfl:(P.fieldsOf t).toList.map fld=fl) (h:FsCk P j fl 0 n):CkT P t true n (j + 1):=
  ⟨hs,fun h=>(by cases h),fun D em l w hl=>by
    show (Instr.checkKey em (D + j + 1) t (.agg (ints l).toArray)).run P w=_
    rw [run_checkKey_struct em _ t _ ht,hfl]
    exact run_ckF D em l h hl⟩
end
end Go.Proofs.YtgdfljiliflhfaaGreatDoor.Rt
