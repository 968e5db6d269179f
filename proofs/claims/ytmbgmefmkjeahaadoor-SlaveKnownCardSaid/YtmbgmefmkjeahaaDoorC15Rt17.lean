/- The small program logic of this seat, part 17: maps whose entries were laid one after the other; ranges over them, in whatever order. Under no conditions but those that each rule names. -/
import Derived.Test.YtmbgmefmkjeahaaDoorC15Rt16
import Derived.Maps.RangeRun
set_option linter.unusedSimpArgs false
set_option linter.unusedVariables false
set_option maxRecDepth 100000
namespace Go.Proofs.YtmbgmefmkjeahaaDoor.Rt
open Go Go.RowKit
def Born (es : Array MapEntry) (clk : Nat) : Prop := (es.toList.map (·.born)).Nodup ∧ ∀ e ∈ es.toList, e.born < clk
theorem Born.empty : Born #[] 0 := ⟨List.nodup_nil, fun e he => by simp at he⟩
section
variable {K V : Type} {kl : K → List Int} {C : Codec V} {agg : Bool} {D D' : Stab}
def MRepB (kl : K → List Int) (C : Codec V) (agg : Bool) (D : Stab) (xs : List (K × V)) (es : Array MapEntry) (clk : Nat) : Prop := MReps kl C agg D xs es.toList ∧ Born es clk
theorem MRepB.mono (hle : D.le D') {xs : List (K × V)} {es : Array MapEntry} {clk : Nat} (h : MRepB kl C agg D xs es clk) : MRepB kl C agg D' xs es clk := ⟨h.1.mono hle, h.2⟩
theorem MRepB.nil : MRepB kl C agg D ([] : List (K × V)) #[] 0 := ⟨rfl, Born.empty⟩
def MapB (kl : K → List Int) (C : Codec V) (agg : Bool) (D : Stab) (xs : List (K × V)) (b : Option Nat) : Prop :=
  (b = none ∧ xs = []) ∨ ∃ k es clk, b = some k ∧ D k = some (.map es clk) ∧ MRepB kl C agg D xs es clk
theorem MapB.mono {xs : List (K × V)} {b : Option Nat} (h : MapB kl C agg D xs b) (hle : D.le D') : MapB kl C agg D' xs b := by
  rcases h with h | ⟨k, es, clk, h0, h1, h2⟩
  · exact .inl h
  · exact .inr ⟨k, es, clk, h0, hle k _ h1, h2.mono hle⟩
theorem MapB.nil : MapB kl C agg D ([] : List (K × V)) none := .inl ⟨rfl, rfl⟩
theorem MapB.toS {xs : List (K × V)} {b : Option Nat} (h : MapB kl C agg D xs b) : MapS kl C agg D xs b := by
  rcases h with h | ⟨k, es, clk, h0, h1, h2⟩
  · exact .inl h
  · exact .inr ⟨k, es, clk, h0, h1, h2.1⟩
def IterB (kl : K → List Int) (C : Codec V) (agg : Bool) (D : Stab) (left : List (K × V)) (o : Obj) : Prop :=
  (left = [] ∧ o = .mapIter none 0 #[] 0) ∨ ∃ k es clk seen, D k = some (.map es clk) ∧ Born es clk ∧ o = .mapIter (some k) clk seen clk ∧ MReps kl C agg D left (leftOf es seen).toList
theorem IterB.mono {left : List (K × V)} {o : Obj} (h : IterB kl C agg D left o) (hle : D.le D') : IterB kl C agg D' left o := by
  rcases h with h | ⟨k, es, clk, seen, h0, h1, h2, h3⟩
  · exact .inl h
  · exact .inr ⟨k, es, clk, seen, hle k _ h0, h1, h2, h3.mono hle⟩
def PickOf {α : Type} (l : List α) (x : α) (l' : List α) : Prop := ∃ i, ∃ h : i < l.length, x = l[i] ∧ l' = l.eraseIdx i
def ND.pickE {α β : Type} (l : List α) (z : ND β) (k : α → List α → ND β) : ND β := fun Q => (l = [] → z Q) ∧ ∀ x l', PickOf l x l' → k x l' Q
theorem npick1 {α β : Type} {l : List α} {z : ND β} {k : α → List α → ND β} {Q : β → Prop} (h : ND.pickE l z k Q) {x : α} {l' : List α} (hp : PickOf l x l') : k x l' Q := h.2 x l' hp
theorem npickz {α β : Type} {l : List α} {z : ND β} {k : α → List α → ND β} {Q : β → Prop} (h : ND.pickE l z k Q) (e : l = []) : z Q := h.1 e
theorem MReps.get : ∀ {xs : List (K × V)} {es : List MapEntry} {i : Nat} (h : i < es.length), MReps kl C agg D xs es →
    ∃ h' : i < xs.length, es[i].key = .agg (ints (kl xs[i].1)).toArray ∧ (∃ cs, C.rep D xs[i].2 cs ∧ es[i].val = valV agg cs) ∧ MReps kl C agg D (xs.eraseIdx i) (es.eraseIdx i)
  | [], _, i, h, hM => by simp only [MReps] at hM; subst hM; simp at h
  | p :: r, es, i, h, ⟨e, es', h1, h2, h3, h5⟩ => by
    subst h1
    cases i with
    | zero => exact ⟨by simp, h2, h3, by simpa using h5⟩
    | succ i =>
      obtain ⟨g1, g2, g3, g4⟩ := MReps.get (i := i) (by simpa using h) h5
      exact ⟨by simpa using g1, by simpa using g2, by simpa using g3, ⟨e, es'.eraseIdx i, by simp, h2, h3, g4⟩⟩
theorem filter_erase (p : MapEntry → Bool) : ∀ (l : List MapEntry) (i : Nat) (hi : i < (l.filter p).length), (l.map (·.born)).Nodup → l.filter (fun y => p y && !(y.born == (l.filter p)[i].born)) = (l.filter p).eraseIdx i := by
  intro l i hi hnd
  have h2 : ((l.filter p).map (·.born)).Nodup := hnd.sublist (List.Sublist.map _ List.filter_sublist)
  have h3 : (l.filter fun y => p y && !(y.born == (l.filter p)[i].born)) = (l.filter p).filter fun y => !(y.born == (l.filter p)[i].born) := by
    rw [List.filter_filter]; congr 1; funext y; rw [Bool.and_comm]
  rw [h3]
  generalize l.filter p = m at hi h2
  clear h3 hnd
  induction m generalizing i with
  | nil => simp at hi
  | cons y m ih =>
    simp only [List.map_cons, List.nodup_cons] at h2
    cases i with
    | zero =>
      simp only [List.getElem_cons_zero, List.eraseIdx_cons_zero]
      rw [List.filter_cons_of_neg (by simp), List.filter_eq_self]
      intro z hz
      simp only [Bool.not_eq_true', beq_eq_false_iff_ne]
      intro e
      exact h2.1 (by rw [← e]; exact List.mem_map.2 ⟨z, hz, rfl⟩)
    | succ i =>
      have hi' : i < m.length := by simpa using hi
      simp only [List.getElem_cons_succ, List.eraseIdx_cons_succ]
      rw [List.filter_cons_of_pos, ih i hi' h2.2]
      simp only [Bool.not_eq_true', beq_eq_false_iff_ne]
      intro e
      exact h2.1 (by rw [e]; exact List.mem_map.2 ⟨m[i], List.getElem_mem hi', rfl⟩)
theorem left_erase {es : Array MapEntry} {seen : Array Nat} (hn : (es.toList.map (·.born)).Nodup) {i : Nat} (h : i < (leftOf es seen).toList.length) :
    (leftOf es (seen.push (leftOf es seen).toList[i].born)).toList = (leftOf es seen).toList.eraseIdx i := by
  have e1 : ∀ s, (leftOf es s).toList = es.toList.filter fun e => !s.contains e.born := fun s => by simp [leftOf]
  rw [e1 (seen.push _)]
  generalize hL : (leftOf es seen).toList = L at h
  rw [e1] at hL
  subst hL
  rw [← filter_erase _ _ _ h hn]
  congr 1
  funext y
  rw [contains_push]
  cases seen.contains y.born <;> simp
def StepB (kl : K → List Int) (C : Codec V) (agg : Bool) (D : Stab) (kv : K × V) (left : List (K × V)) (o : Obj) : Prop :=
  ∃ (k : Nat) (es : Array MapEntry) (clk : Nat) (seen : Array Nat) (e : MapEntry), D k = some (.map es clk) ∧ Born es clk ∧ o = .mapIter (some k) clk (seen.push e.born) clk ∧ e ∈ es.toList ∧ e.key = .agg (ints (kl kv.1)).toArray ∧ (∃ cs, C.rep D kv.2 cs ∧ e.val = valV agg cs) ∧ MReps kl C agg D left (leftOf es (seen.push e.born)).toList
theorem StepB.mono {kv : K × V} {left : List (K × V)} {o : Obj} (h : StepB kl C agg D kv left o) (hle : D.le D') : StepB kl C agg D' kv left o := by
  obtain ⟨k, es, clk, seen, e, h0, h1, h2, h3, h4, ⟨cs, h5, h6⟩, h7⟩ := h
  exact ⟨k, es, clk, seen, e, hle k _ h0, h1, h2, h3, h4, ⟨cs, C.mono hle h5, h6⟩, h7.mono hle⟩
theorem StepB.it {kv : K × V} {left : List (K × V)} {o : Obj} (h : StepB kl C agg D kv left o) : IterB kl C agg D left o := by
  obtain ⟨k, es, clk, seen, e, h0, h1, h2, h3, h4, h5, h7⟩ := h
  exact .inr ⟨k, es, clk, _, h0, h1, h2, h7⟩
end
section
variable {P : Program} {K V : Type} {kl : K → List Int} {C : Codec V} {agg : Bool} {D : Stab} {w : World} {kt : TypeId} {n : Nat}
theorem run_mapUpdate_ofB {T E : TypeId} {z : List Value} (h : MapT P T kt E n agg z) {r : Nat} {es : Array MapEntry} {clock : Nat} (hr : w.heap[r]? = some (.map es clock)) {xs : List (K × V)} (hM : MRepB kl C agg D xs es clock)
    (hkl : ∀ k, (kl k).length = n) (k : K) {v : V} {cs : List Value} (hv : C.rep D v cs) :
    ∃ es' clock', (Instr.mapUpdate T (.map (some r)) (.agg (ints (kl k)).toArray) (valV agg cs)).run P w = .ok () { w with heap := w.heap.setIfInBounds r (.map es' clock') } ∧ MRepB kl C agg D (mput kl xs k v) es' clock' := by
  obtain ⟨j, hj, hE⟩ := h.eq
  obtain ⟨hM, hb1, hb2⟩ := hM
  have hget : (getObj r).run P w = .ok (.map es clock) w := by simp [getObj, Sem.run, hr]
  have hset : ∀ o, (setObj r o).run P w = .ok () { w with heap := w.heap.setIfInBounds r o } := fun o => by simp [setObj, Sem.run, hr]
  rcases run_findAsking hE hj hkl k xs es.toList 0 hM with ⟨g1, g2⟩ | ⟨x, cs0, p, g1, g2, g3, g4, g5, ⟨e, g6, g7⟩, g8⟩
  · refine ⟨es.push ⟨.agg (ints (kl k)).toArray, valV agg cs, clock⟩, clock + 1, ?_, ?_, ?_, ?_⟩
    · simp only [Instr.mapUpdate, Sem.run_bind, run_underlying h.u, Result.andThen_ok, hget, h.check _ (hkl k), run_findKey_st h.st, g2, hset]
    · rw [(mfind_none g1).2 v, Array.toList_push]
      exact hM.snoc rfl hv rfl
    · rw [Array.toList_push, List.map_append, List.map_cons, List.map_nil]
      refine List.nodup_append.2 ⟨hb1, by simp, fun a ha b hb => ?_⟩
      simp only [List.mem_singleton] at hb
      subst hb
      obtain ⟨y, hy, rfl⟩ := List.mem_map.1 ha
      have := hb2 y hy
      omega
    · intro y hy
      rw [Array.toList_push, List.mem_append] at hy
      rcases hy with hy | hy
      · have := hb2 y hy; omega
      · rw [List.mem_singleton.1 hy]; exact Nat.lt_succ_self _
  · have hmap : ((es.modify x fun e => { e with key := .agg (ints (kl k)).toArray, val := valV agg cs }).toList.map (·.born)) = es.toList.map (·.born) := by
      rw [Array.toList_modify]
      have : ∀ (l : List MapEntry) (x : Nat), (l.modify x fun e => { e with key := .agg (ints (kl k)).toArray, val := valV agg cs }).map (·.born) = l.map (·.born) := by
        intro l
        induction l with
        | nil => intro x; cases x <;> rfl
        | cons y l ih => intro x; cases x <;> simp [ih]
      exact this _ _
    refine ⟨es.modify x fun e => { e with key := .agg (ints (kl k)).toArray, val := valV agg cs }, clock, ?_, ?_, ?_, ?_⟩
    · have hes : (es[x]?.map (·.key)).getD (.agg (ints (kl k)).toArray) = .agg (ints (kl k)).toArray := by
        rw [← Array.getElem?_toList, g6]
        simp [g7, g3]
      have hkeep : (Instr.keyThatStays (.agg (ints (kl k)).toArray) (.agg (ints (kl k)).toArray)).run P w = .ok (.agg (ints (kl k)).toArray) w := by
        unfold Instr.keyThatStays
        rw [if_pos (sameBits_ints (kl k) 9998)]; rfl
      simp only [Instr.mapUpdate, Sem.run_bind, run_underlying h.u, Result.andThen_ok, hget, h.check _ (hkl k), run_findKey_st h.st, g8, Nat.zero_add]
      rw [hes]
      simp only [hkeep, Result.andThen_ok, hset]
    · rw [Array.toList_modify]
      exact mput_modify hv hM g1
    · rw [hmap]; exact hb1
    · intro y hy
      have : y.born ∈ (es.modify x fun e => { e with key := .agg (ints (kl k)).toArray, val := valV agg cs }).toList.map (·.born) := List.mem_map.2 ⟨y, hy, rfl⟩
      rw [hmap] at this
      obtain ⟨u, hu, e⟩ := List.mem_map.1 this
      have := hb2 u hu; omega
variable {N : Nat} {rs : List Nat} {r : Option Nat} {vs : List (Nat × Value)} {a : Act} {w0 : World} {ops : Array Oper} {Q : Exit → Act → World → Prop} {rest : List Oper}
variable {d : Nat} {dst : Option Nat} {ty : TypeId} {pos : String} {aft : Array Edge} {gd : Option (Nat × Bool)} {v : Value} {D0 : Stab} {ls : List (Nat × LR)}
theorem map_putB {T E : TypeId} {x y u : Operand} {z : List Value} {xs : List (K × V)} {b : Nat} {es : Array MapEntry} {clock : Nat} {op : Op} (hop : op = .mapUpdate T x y u ∨ op = .insert T x y u) (i : Nat) (hT : MapT P T kt E n agg z) (hkl : ∀ k, (kl k).length = n) (k : K) {v0 : V} {cs : List Value}
    (hM : MRepB kl C agg D xs es clock) (hv : C.rep D v0 cs) (hF : Frm N rs vs a)
    (hx : ev vs x = some (.map (some b))) (hy : ev vs y = some (.agg (ints (kl k)).toArray)) (hu : ev vs u = some (valV agg cs)) (hS : St w0 D0 D ls w) (hl : lk ls i = some (.obj b (.map es clock)))
    (h : ∀ es' clock' a' w', Frm N rs vs a' → St w0 D0 D ((i, .obj b (.map es' clock')) :: ls) w' → MRepB kl C agg D (mput kl xs k v0) es' clock' → WL r P ops Q rest a' w') :
    WL r P ops Q (⟨none, op, ty, pos, aft, none⟩ :: rest) a w := by
  have hb : w.heap[b]? = some (.map es clock) := hS.each i _ hl
  have hlow := hS.low i _ hl b (by simp [LR.fp])
  obtain ⟨es', clock', h1, h2⟩ := run_mapUpdate_ofB hT hb hM hkl k hv
  refine wpListIn_plain rfl fun K' hK => ⟨fun _ _ => trivial, ?_⟩
  have hr : (execOp a.eval (⟨none, op, ty, pos, aft, none⟩ : Oper)).run P w = .ok .skip { w with heap := w.heap.setIfInBounds b (.map es' clock') } := by
    rcases hop with rfl | rfl <;> simp only [execOp, hF.eval hx, hF.eval hy, hF.eval hu, Sem.run_bind, h1, Result.andThen_ok] <;> rfl
  rw [show (Fw r).round = r from rfl, semAt_of hr (by intro d h; cases h)]
  refine hK _ _ (h es' clock' _ _ (hF.put_none undef) ?_ h2)
  refine hS.turn i _ ⟨hS.below.os, hS.below.tape, hS.below.output, by simpa using hS.below.size, fun k hk => ?_⟩ (fun k hk hno => ?_) (setObj_heap hb) (fun k hk => .inr ⟨_, hl, hk⟩)
  · show (w.heap.setIfInBounds b _)[k]? = _
    rw [Array.getElem?_setIfInBounds, if_neg (by have := hlow.1; omega)]
    exact hS.below.block k hk
  · show (w.heap.setIfInBounds b _)[k]? = _
    rw [Array.getElem?_setIfInBounds, if_neg (fun e => by subst e; exact hno _ hl (by simp [LR.fp]))]
theorem St.freezeMB {i b : Nat} {es : Array MapEntry} {clock : Nat} {xs : List (K × V)} (hS : St w0 D0 D ls w) (hl : lk ls i = some (.obj b (.map es clock))) (hM : MRepB kl C agg D xs es clock) :
    ∃ D', D.le D' ∧ MapB kl C agg D' xs (some b) ∧ St w0 D0 D' ((i, .gone) :: ls) w := by
  have hb : w.heap[b]? = some (.map es clock) := hS.each i _ hl
  have hlow := hS.low i _ hl b (by simp [LR.fp])
  have hle : D.le (fun k => if k = b then some (.map es clock) else D k) := fun k o hk => by
    by_cases hkb : k = b
    · subst hkb; rw [hlow.2] at hk; cases hk
    · simp only [hkb, if_false]; exact hk
  refine ⟨_, hle, .inr ⟨b, es, clock, rfl, by simp, hM.mono hle⟩, ?_⟩
  have hS' := hS.turn i .gone hS.below (fun _ _ _ => rfl) trivial (fun b hb => by simp [LR.fp] at hb)
  refine ⟨hS'.below, hS'.le.trans hle, fun k hk => ?_, fun k o hk => ?_, hS'.each, fun j s hj k hk => ⟨(hS'.low j s hj k hk).1, ?_⟩, hS'.sep⟩
  · by_cases hkb : k = b
    · subst hkb; exact .inr hlow.1
    · simp only [hkb, if_false] at hk; exact hS'.new k hk
  · by_cases hkb : k = b
    · subst hkb; simp only [if_true, Option.some.injEq] at hk; rw [hb, hk]
    · simp only [hkb, if_false] at hk; exact hS'.stab k o hk
  · have hne : k ≠ b := fun e => by
      subst e
      rcases lk_cons hj with ⟨_, rfl⟩ | ⟨hji, hj'⟩
      · simp [LR.fp] at hk
      · exact hS.sep j i s _ hj' hl hji k hk (by simp [LR.fp])
    simp only [hne, if_false]
    exact (hS'.low j s hj k hk).2
theorem O.rangeM {T E : TypeId} {x : Operand} {xs : List (K × V)} {b : Option Nat} (i : Nat) (hT : P.underlying T = some (.map kt E)) (hM : MapB kl C agg D xs b) (hF : Frm N rs vs a) (hx : ev vs x = some (.map b)) (hS : St w0 D0 D ls w) (hd : Nat.ble (d + 1) N = true)
    (h : ∀ bi o a' w', Frm N rs ((d, .pointer (some ⟨bi, 0, none⟩)) :: vs) a' → St w0 D0 D ((i, .obj bi o) :: ls) w' → IterB kl C agg D xs o → WL r P ops Q rest a' w') :
    WL r P ops Q (⟨some d, .range T x, ty, pos, aft, none⟩ :: rest) a w := by
  have key : ∃ o, (Instr.range T (.map b)).run P w = .ok (.pointer (some ⟨w.heap.size, 0, none⟩)) (w.alloc o) ∧ IterB kl C agg D xs o := by
    rcases hM with ⟨rfl, rfl⟩ | ⟨k, es, clk, rfl, h1, h2⟩
    · refine ⟨.mapIter none 0 #[] 0, ?_, .inl ⟨rfl, rfl⟩⟩
      simp only [Instr.range, Sem.run_bind, run_underlying hT, Result.andThen_ok, Sem.run_pure, run_newObj]; rfl
    · refine ⟨.mapIter (some k) clk #[] clk, ?_, .inr ⟨k, es, clk, #[], h1, h2.2, rfl, ?_⟩⟩
      · have hget : (getObj k).run P w = .ok (.map es clk) w := by simp [getObj, Sem.run, hS.stab k _ h1]
        simp only [Instr.range, Sem.run_bind, run_underlying hT, Result.andThen_ok, hget, Sem.run_pure, run_newObj]; rfl
      · have : leftOf es #[] = es := by simp [leftOf]
        rw [this]; exact h2.1
  obtain ⟨o, h1, h2⟩ := key
  refine stepw (v := .pointer (some ⟨w.heap.size, 0, none⟩)) (w' := w.alloc o) hF ?_ hd fun a' hF' => h _ o a' _ hF' ?_ h2
  · simp only [execOp, hF.eval hx, Sem.run_bind, h1, Result.andThen_ok]; rfl
  · exact hS.turn i _ (hS.below.alloc hS.below.size _) (fun b hb _ => alloc_old _ hb) (alloc_heap _) (fun b hb => .inl (by simp [LR.fp] at hb; omega))
theorem setBlock_heap {b : Nat} {o o' : Obj} (hb : w.heap[b]? = some o) : (ChangeMaps.setBlock w b o').heap[b]? = some o' := by
  have := (Array.getElem?_eq_some_iff.1 hb).1
  simp [ChangeMaps.setBlock, this]
theorem setBlock_other {b k : Nat} {o' : Obj} (h : k ≠ b) : (ChangeMaps.setBlock w b o').heap[k]? = w.heap[k]? := by
  simp only [ChangeMaps.setBlock]
  rw [Array.getElem?_setIfInBounds, if_neg (fun e => h e.symm)]
theorem O.nextM {x : Operand} {bi : Nat} {o : Obj} {left : List (K × V)} (i : Nat) (hF : Frm N rs vs a) (hx : ev vs x = some (.pointer (some ⟨bi, 0, none⟩))) (hS : St w0 D0 D ls w) (hl : lk ls i = some (.obj bi o)) (hI : IterB kl C agg D left o) (hd : Nat.ble (d + 1) N = true)
    (h0 : left = [] → ∀ a', Frm N rs ((d, .tuple #[.bool false]) :: vs) a' → WL r P ops Q rest a' w)
    (h1 : ∀ kv l', PickOf left kv l' → ∀ o' u v a' w', StepB kl C agg D kv l' o' → Frm N rs ((d, .tuple #[.bool true, u, v]) :: vs) a' → St w0 D0 D ((i, .obj bi o') :: ls) w' → WL r P ops Q rest a' w') :
    WL r P ops Q (⟨some d, .next x false, ty, pos, aft, none⟩ :: rest) a w := by
  have hb : w.heap[bi]? = some o := hS.each i _ hl
  have hlow := hS.low i _ hl bi (by simp [LR.fp])
  rcases hI with ⟨rfl, rfl⟩ | ⟨k, es, clk, seen, g1, g2, rfl, g4⟩
  · refine stepw (v := .tuple #[.bool false]) (w' := w) hF ?_ hd fun a' hF' => h0 rfl a' hF'
    have hget : (getObj bi).run P w = .ok (.mapIter none 0 #[] 0) w := by simp [getObj, Sem.run, hb]
    simp only [execOp, hF.eval hx, Instr.next, Sem.run_bind, hget, Result.andThen_ok, Sem.run_pure]
  · have hm := hS.stab k _ g1
    have hlen := g4.len
    rcases run_next_at (P := P) w ty bi k clk clk seen es clk hb hm g2.2 (Nat.le_refl _) with ⟨e0, hr⟩ | ⟨e, he, w1, hw1, hr⟩
    · refine stepw (v := .tuple #[.bool false]) (w' := w) hF ?_ hd fun a' hF' => h0 ?_ a' hF'
      · simp only [execOp, hF.eval hx, Sem.run_bind, hr, Result.andThen_ok]; rfl
      · refine List.length_eq_zero_iff.1 ?_
        rw [← hlen]; simpa using e0
    · obtain ⟨j, hj, rfl⟩ := List.getElem_of_mem he
      obtain ⟨f1, f2, f3, f5⟩ := MReps.get hj g4
      have hS1 : St w0 D0 D ls w1 := by
        rcases hw1 with rfl | rfl
        · exact hS
        · exact hS.drew
      have hb1 : w1.heap[bi]? = some (.mapIter (some k) clk seen clk) := hS1.each i _ hl
      refine stepw (v := .tuple #[.bool true, (leftOf es seen).toList[j].key, (leftOf es seen).toList[j].val]) (w' := ChangeMaps.setBlock w1 bi (.mapIter (some k) clk (seen.push (leftOf es seen).toList[j].born) clk)) hF ?_ hd fun a' hF' =>
        h1 left[j] (left.eraseIdx j) ⟨j, f1, rfl, rfl⟩ (.mapIter (some k) clk (seen.push (leftOf es seen).toList[j].born) clk) _ _ a' _ ⟨k, es, clk, seen, _, g1, g2, rfl, (mem_left he).1, f2, f3, by rw [left_erase g2.1 hj]; exact f5⟩ hF' ?_
      · simp only [execOp, hF.eval hx, Sem.run_bind, hr, Result.andThen_ok]; rfl
      · refine hS1.turn i _ ⟨hS1.below.os, hS1.below.tape, hS1.below.output, by simpa [ChangeMaps.setBlock] using hS1.below.size, fun q hq => ?_⟩ (fun q hq hno => ?_) (setBlock_heap hb1) (fun q hq => .inr ⟨_, hl, hq⟩)
        · rw [setBlock_other (by have := hlow.1; omega)]; exact hS1.below.block q hq
        · exact setBlock_other (fun e => by subst e; exact hno _ hl (by simp [LR.fp]))
theorem Y.entryM {x : Operand} {bi : Nat} {o : Obj} {kv : K × V} {left : List (K × V)} (i : Nat) (hI : StepB kl C agg D kv left o) (hF : Frm N rs vs a) (hx : ev vs x = some (.pointer (some ⟨bi, 0, none⟩))) (hl : lk ls i = some (.obj bi o)) :
    ∃ cs, C.rep D kv.2 cs ∧ ∀ {dst ty pos aft gd w}, St w0 D0 D ls w → Yields P ⟨dst, .entry x, ty, pos, aft, gd⟩ a w (.tuple #[.agg (ints (kl kv.1)).toArray, valV agg cs]) := by
  obtain ⟨k, es, clk, seen, e, h0, h1, h2, h3, h4, ⟨cs, h5, h6⟩, h7⟩ := hI
  refine ⟨cs, h5, fun {dst ty pos aft gd w} hS => ?_⟩
  subst h2
  have := run_entry_at (P := P) w bi k clk seen es clk e (hS.each i _ hl) (hS.stab k _ h0) h3 h1.1
  simp only [Yields, execOp, hF.eval hx, Sem.run_bind, this, Result.andThen_ok, h4, h6]; rfl
end
end Go.Proofs.YtmbgmefmkjeahaaDoor.Rt
