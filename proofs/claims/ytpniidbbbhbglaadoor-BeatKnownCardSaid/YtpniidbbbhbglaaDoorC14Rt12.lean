/- The small program logic of this seat, part 12: slices that are made; tables (slices of slices) that the call owns; elements written. Under no conditions but those that each rule names. -/
import Derived.Test.YtpniidbbbhbglaaDoorC14Rt11
import Derived.Laws.MakeOwn
set_option linter.unusedSimpArgs false
set_option linter.unusedVariables false
namespace Go.Proofs.YtpniidbbbhbglaaDoor.Rt
open Go Go.RowKit
section
variable {P : Program} {N : Nat} {rs : List Nat} {r : Option Nat} {vs : List (Nat × Value)} {a : Act} {w w0 : World} {ops : Array Oper} {Q : Exit → Act → World → Prop} {rest : List Oper}
variable {d : Nat} {dst : Option Nat} {ty : TypeId} {pos : String} {aft : Array Edge} {gd : Option (Nat × Bool)} {v : Value} {D0 D : Stab} {ls : List (Nat × LR)}
variable {α : Type} {C : Codec α}
def norow : Row := ⟨none, 0, []⟩
def rowOf (rows : List Row) (i : Nat) : Row := rows.getD i norow
def RepM (C : Codec α) (D : Stab) (xs : List (List α)) (rows : List Row) : Prop :=
  rows.length = xs.length ∧ ∀ (i : Nat) (x : List α) (r : Row), xs[i]? = some x → rows[i]? = some r → r.len = x.length ∧ Reps C D x r.cs
theorem RepM.mono {D' : Stab} {xs : List (List α)} {rows : List Row} (h : RepM C D xs rows) (hle : D.le D') : RepM C D' xs rows :=
  ⟨h.1, fun i x r hx hr => ⟨(h.2 i x r hx hr).1, (h.2 i x r hx hr).2.mono hle⟩⟩
theorem RepM.at {xs : List (List α)} {rows : List Row} (h : RepM C D xs rows) {i : Nat} (hi : i < xs.length) :
    xs[i]? = some (xs.getD i []) ∧ rows[i]? = some (rowOf rows i) ∧ (rowOf rows i).len = (xs.getD i []).length ∧ Reps C D (xs.getD i []) (rowOf rows i).cs := by
  have hr : i < rows.length := by rw [h.1]; exact hi
  have e1 : xs[i]? = some (xs.getD i []) := by simp [List.getD, hi]
  have e2 : rows[i]? = some (rowOf rows i) := by simp [rowOf, List.getD, hr]
  obtain ⟨h1, h2⟩ := h.2 i _ _ e1 e2
  exact ⟨e1, e2, h1, h2⟩
theorem St.turn2 {w' : World} (h : St w0 D0 D ls w) (i k : Nat) (hik : i ≠ k) (r : LR)
    (hb : Below w0.heap.size w0 w') (hold : ∀ b, b < w.heap.size → (∀ r0, lk ls i = some r0 → b ∉ r0.fp) → w'.heap[b]? = w.heap[b]?)
    (hr : r.holds w') (hfp : ∀ b ∈ r.fp, w.heap.size ≤ b ∨ (∃ r0, lk ls i = some r0 ∧ b ∈ r0.fp) ∨ ∃ r0, lk ls k = some r0 ∧ b ∈ r0.fp) : St w0 D0 D ((i, r) :: (k, .gone) :: ls) w' := by
  have hw0 : w0.heap.size ≤ w.heap.size := h.below.size
  have hD : ∀ b o, D b = some o → w'.heap[b]? = some o := fun b o hbo => by
    rw [hold b (h.stab.lt hbo) (fun r0 h0 hm => by have := (h.low i r0 h0 b hm).2; rw [hbo] at this; cases this)]
    exact h.stab b o hbo
  have sub : ∀ j s, lk ((k, .gone) :: ls) j = some s → s = .gone ∨ (j ≠ k ∧ lk ls j = some s) := fun j s hj => by
    rcases lk_cons hj with ⟨rfl, rfl⟩ | ⟨hne, hj⟩
    · exact .inl rfl
    · exact .inr ⟨hne, hj⟩
  have hother : ∀ j s, lk ls j = some s → j ≠ i → j ≠ k → ∀ b ∈ s.fp, b ∉ r.fp := fun j s hj hne hnk b hb hm => by
    rcases hfp b hm with hge | ⟨r0, h0, hm0⟩ | ⟨r0, h0, hm0⟩
    · have := LR.holds_lt (h.each j s hj) hb; omega
    · exact h.sep j i s r0 hj h0 hne b hb hm0
    · exact h.sep j k s r0 hj h0 hnk b hb hm0
  refine ⟨hb, h.le, h.new, hD, fun j s hj => ?_, fun j s hj b hbm => ?_, fun j m s t hj hm hne b hbs hbt => ?_⟩
  · rcases lk_cons hj with ⟨rfl, rfl⟩ | ⟨hne, hj⟩
    · exact hr
    · rcases sub j s hj with rfl | ⟨hnk, hj⟩
      · trivial
      · exact LR.holds_of_eq (h.each j s hj) fun b hbm => hold b (LR.holds_lt (h.each j s hj) hbm) fun r0 h0 hm0 => h.sep j i s r0 hj h0 hne b hbm hm0
  · rcases lk_cons hj with ⟨rfl, rfl⟩ | ⟨hne, hj⟩
    · rcases hfp b hbm with hge | ⟨r0, h0, hm0⟩ | ⟨r0, h0, hm0⟩
      · refine ⟨by omega, ?_⟩
        cases hq : D b with
        | none => rfl
        | some o => have := h.stab.lt hq; omega
      · exact h.low _ r0 h0 b hm0
      · exact h.low _ r0 h0 b hm0
    · rcases sub j s hj with rfl | ⟨hnk, hj⟩
      · simp [LR.fp] at hbm
      · exact h.low j s hj b hbm
  · rcases lk_cons hj with ⟨rfl, rfl⟩ | ⟨hnj, hj'⟩
    · rcases lk_cons hm with ⟨rfl, rfl⟩ | ⟨hnm, hm'⟩
      · exact hne rfl
      · rcases sub m t hm' with rfl | ⟨hmk, hm''⟩
        · simp [LR.fp] at hbt
        · exact hother m t hm'' hnm hmk b hbt hbs
    · rcases sub j s hj' with rfl | ⟨hjk, hj''⟩
      · simp [LR.fp] at hbs
      · rcases lk_cons hm with ⟨rfl, rfl⟩ | ⟨hnm, hm'⟩
        · exact hother j s hj'' hnj hjk b hbs hbt
        · rcases sub m t hm' with rfl | ⟨hmk, hm''⟩
          · simp [LR.fp] at hbt
          · exact h.sep j m s t hj'' hm'' hne b hbs hbt
theorem hdr_of {p : Option Addr} {n c : Nat} {cs : List Value} {E : TypeId} {sz : Nat} (h : (LR.own p n c cs E sz).holds w) : (⟨p.map (·.block), n, cs⟩ : Row).hdr = .slice p n n := by
  rcases h.2 with ⟨e, h0⟩ | ⟨g, cap, cur, e, _⟩
  · injection e with e1; subst e1; rfl
  · injection e with e1; subst e1; rfl
theorem lies_of {p : Option Addr} {n : Nat} {cs : List Value} {E : TypeId} {sz : Nat} (h : (LR.own p n n cs E sz).holds w) : (⟨p.map (·.block), n, cs⟩ : Row).lies w E := by
  rcases h.2 with ⟨e, h0⟩ | ⟨g, cap, cur, e, hb, hg, hn, hm, hs, ht⟩
  · injection e with e1; subst e1; exact h0
  · injection e with e1 e2 e3
    subst e1; subst e3
    show w.heap[g]? = some (.cells cs.toArray E (0, 0))
    rw [hg]
    have : cur.toList = cs := by rw [← ht, List.take_of_length_le (by simp [hs])]
    rw [← this]
theorem blks_set {rows : List Row} {i : Nat} {r : Row} {k : Nat} (h : k ∈ blks (rows.set i r)) : k ∈ blks rows ∨ r.blk = some k := by
  obtain ⟨s, hs, hk⟩ := mem_blks h
  rcases List.mem_or_eq_of_mem_set hs with hs | rfl
  · exact .inl (blk_mem hs hk)
  · exact .inr hk
theorem nodup_set {rows : List Row} {r : Row} : ∀ {i : Nat}, (blks rows).Nodup → (∀ k, r.blk = some k → k ∉ blks rows) → (blks (rows.set i r)).Nodup := by
  induction rows with
  | nil => intro i h _; simpa using h
  | cons s rows ih =>
    intro i h hr
    cases i with
    | zero =>
      simp only [List.set_cons_zero]
      cases hb : r.blk with
      | none =>
        have : blks (r :: rows) = blks rows := by simp [blks, hb]
        rw [this]
        cases hs : s.blk with
        | none => simpa [blks, hs] using h
        | some k => simp only [blks, List.filterMap_cons, hs] at h; exact (List.nodup_cons.1 h).2
      | some k =>
        have : blks (r :: rows) = k :: blks rows := by simp [blks, hb]
        rw [this]
        have hk := hr k hb
        cases hs : s.blk with
        | none => simp only [blks, List.filterMap_cons, hs] at h hk; exact List.nodup_cons.2 ⟨hk, h⟩
        | some k' =>
          simp only [blks, List.filterMap_cons, hs] at h hk
          exact List.nodup_cons.2 ⟨fun hin => hk (List.mem_cons_of_mem _ hin), (List.nodup_cons.1 h).2⟩
    | succ i =>
      simp only [List.set_cons_succ]
      cases hs : s.blk with
      | none =>
        have e1 : ∀ l, blks (s :: l) = blks l := fun l => by simp [blks, hs]
        rw [e1] at h ⊢
        exact ih h (fun k hk => by have := hr k hk; rwa [e1] at this)
      | some k' =>
        have e1 : ∀ l, blks (s :: l) = k' :: blks l := fun l => by simp [blks, hs]
        rw [e1] at h ⊢
        obtain ⟨h1, h2⟩ := List.nodup_cons.1 h
        refine List.nodup_cons.2 ⟨fun hin => ?_, ih h2 (fun k hk => by have := hr k hk; rw [e1] at this; exact fun hin => this (List.mem_cons_of_mem _ hin))⟩
        rcases blks_set hin with hin | hin
        · exact h1 hin
        · have := hr k' hin; rw [e1] at this; exact this (by simp)
theorem RepM.setRow {xs : List (List α)} {rows : List Row} {x : List α} {r : Row} {i : Nat} (hM : RepM C D xs rows) (h1 : r.len = x.length) (h2 : Reps C D x r.cs) : RepM C D (xs.set i x) (rows.set i r) := by
  refine ⟨by simp [hM.1], fun j y s hy hs => ?_⟩
  rw [List.getElem?_set] at hy hs
  by_cases hij : i = j
  · subst hij
    simp only [if_true] at hy hs
    split at hy <;> split at hs <;> first | (cases hy; done) | (cases hs; done) | skip
    injection hy with hy; injection hs with hs
    subst hy; subst hs
    exact ⟨h1, h2⟩
  · simp only [hij, if_false] at hy hs
    exact hM.2 j y s hy hs
theorem run_store_of {T : TypeId} {x y : Operand} {b o : Nat} {u : Value} {cs us : List Value} {E : TypeId} {isA : Bool} (hT : tsz P T = some (isA, us.length)) (hF : Frm N rs vs a)
    (hx : ev vs x = some (.pointer (some ⟨b, o, none⟩))) (hy : ev vs y = some u) (hu : u.cells.toList = us) (h1 : us.all (·.oneCell') = true)
    (hg : w.heap[b]? = some (.cells cs.toArray E (0, 0))) (hfit : o + us.length ≤ cs.length) :
    (execOp a.eval (⟨none, .store T x y, ty, pos, aft, none⟩ : Oper)).run P w = .ok .skip (w.setRow b (splice cs o us).toArray) := by
  have hst := run_storeCells_at P b o E us 0 cs.toArray w hg (by simpa using hfit) (fun z hz => (List.all_eq_true.1 h1) z hz)
  have hsz := run_sizeOf_of (P := P) (w := w) hT
  have hlen : u.cells.size = us.length := by rw [← hu]; simp
  simp only [Nat.add_zero, List.append_assoc] at hst
  simp [execOp, hF.eval hx, hF.eval hy, Instr.storeAt, Instr.sureAddr, storeVar, hsz, hlen, hu, hst, splice]
theorem splice_set {β : Type} {f : β → Value} {rows : List β} {r : β} {u : Value} {i : Nat} (hi : i < rows.length) (hu : f r = u) : splice (rows.map f) (0 + i * 1) [u] = (rows.set i r).map f := by
  simp only [splice, Nat.mul_one, Nat.zero_add, List.length_singleton, List.map_set, hu]
  rw [List.set_eq_take_append_cons_drop]
  simp [hi]
theorem O.setRow {T : TypeId} {x y : Operand} {b sz : Nat} {rows : List Row} {E Ei : TypeId} {i : Int} {p : Option Addr} {xs : List (List α)} {l : List α} {cs : List Value} (im ir : Nat) (hne : im ≠ ir) (hT : tsz P T = some (false, 1)) (hi : 0 ≤ i ∧ i < (xs.length : Int)) (hF : Frm N rs vs a)
    (hx : ev vs x = some (.pointer (some ⟨b, 0 + i.toNat * 1, none⟩))) (hy : ev vs y = some (.slice p l.length l.length)) (hS : St w0 D0 D ls w) (hl : lk ls im = some (.mat b rows E Ei)) (hr : lk ls ir = some (.own p l.length l.length cs Ei sz))
    (hM : RepM C D xs rows) (hR : Reps C D l cs)
    (h : ∀ rows' a' w', Frm N rs vs a' → St w0 D0 D ((im, .mat b rows' E Ei) :: (ir, .gone) :: ls) w' → RepM C D (xs.set i.toNat l) rows' → WL r P ops Q rest a' w') :
    WL r P ops Q (⟨none, .store T x y, ty, pos, aft, none⟩ :: rest) a w := by
  have hh := hS.each im _ hl
  have hlow := hS.low im _ hl b (by simp [LR.fp])
  have hrow := hS.each ir _ hr
  have hlt : i.toNat < rows.length := by rw [hM.1]; omega
  have hb : w.heap[b]? = some (.cells (rows.map Row.hdr).toArray E (0, 0)) := hh.1
  have hr' := run_store_of (P := P) (a := a) (ty := ty) (pos := pos) (aft := aft) (us := [Value.slice p l.length l.length]) hT hF hx hy rfl rfl hb (by simp; omega)
  rw [splice_set (f := Row.hdr) (r := ⟨p.map (·.block), l.length, cs⟩) hlt (hdr_of hrow)] at hr'
  have hfpr : ∀ k, (⟨p.map (·.block), l.length, cs⟩ : Row).blk = some k → k ∈ (LR.own p l.length l.length cs Ei sz).fp := fun k hk => by
    cases p with
    | none => simp at hk
    | some ad => simp only [Option.map_some, Option.some.injEq] at hk; simp [LR.fp, hk]
  have hnb : ∀ k, (⟨p.map (·.block), l.length, cs⟩ : Row).blk = some k → k ≠ b ∧ k ∉ blks rows := fun k hk => by
    have := hS.sep ir im _ _ hr hl (Ne.symm hne) k (hfpr k hk)
    simp only [LR.fp, List.mem_cons, not_or] at this
    exact this
  refine wpListIn_plain rfl fun K hK => ⟨fun _ _ => trivial, ?_⟩
  rw [show (Fw r).round = r from rfl, semAt_of hr' (by intro d h; cases h)]
  refine hK _ _ (h _ _ _ (hF.put_none undef) ?_ (hM.setRow (r := ⟨p.map (·.block), l.length, cs⟩) rfl hR))
  obtain ⟨hnd1, hnd2⟩ := List.nodup_cons.1 hh.2.1
  refine hS.turn2 im ir hne _ (Below.setRow hS.below hlow.1 _) (fun k hk hno => setRow_heap_other (fun e => by subst e; exact hno _ hl (by simp [LR.fp]))) ⟨setRow_heap_self hb, ?_, ?_⟩ (fun k hk => .inr ?_)
  · refine List.nodup_cons.2 ⟨fun hin => ?_, nodup_set hnd2 fun k hk => (hnb k hk).2⟩
    rcases blks_set hin with hin | hin
    · exact hnd1 hin
    · exact (hnb b hin).1 rfl
  · intro s hs
    rcases List.mem_or_eq_of_mem_set hs with hs | rfl
    · exact Row.lies_of_eq (hh.2.2 s hs) fun k hk => setRow_heap_other (fun e => by subst e; exact hnd1 (blk_mem hs hk))
    · exact Row.lies_of_eq (lies_of hrow) fun k hk => setRow_heap_other (hnb k hk).1
  · simp only [LR.fp, List.mem_cons] at hk
    rcases hk with rfl | hk
    · exact .inl ⟨_, hl, by simp [LR.fp]⟩
    · rcases blks_set hk with hk | hk
      · exact .inl ⟨_, hl, by simp [LR.fp, hk]⟩
      · exact .inr ⟨_, hr, hfpr k hk⟩
theorem Reps.setEl {xs : List α} {cs c : List Value} {x : α} : ∀ {j : Nat}, Reps C D xs cs → C.rep D x c → j < xs.length → Reps C D (xs.set j x) (splice cs (j * C.n) c) := by
  induction xs generalizing cs with
  | nil => intro j _ _ h; simp at h
  | cons y xs ih =>
    intro j hr hx hj
    obtain ⟨c0, r, e, h1, h2⟩ := hr
    subst e
    have hl0 := C.len h1
    have hlx := C.len hx
    cases j with
    | zero =>
      refine ⟨c, r, ?_, hx, h2⟩
      simp only [splice, Nat.zero_mul, List.take_zero, List.nil_append, Nat.zero_add]
      rw [hlx, ← hl0, List.drop_left]
    | succ j =>
      refine ⟨c0, splice r (j * C.n) c, ?_, h1, ih h2 hx (by simpa using hj)⟩
      have e1 : (j + 1) * C.n = c0.length + j * C.n := by rw [hl0, Nat.add_mul]; omega
      have e2 : (j + 1) * C.n + c.length = c0.length + (j * C.n + c.length) := by omega
      simp only [splice, e2]
      rw [e1, List.take_length_add_append, List.drop_length_add_append]
      simp
theorem splice_length {cs us : List Value} {o : Nat} (h : o + us.length ≤ cs.length) : (splice cs o us).length = cs.length := by simp [splice]; omega
theorem O.storeOwn {T E : TypeId} {x y : Operand} {b c : Nat} {j : Int} {u : Value} {us cs : List Value} {v0 : α} {xs : List α} {isA : Bool} (i : Nat) (hT : tsz P T = some (isA, C.n)) (hj : 0 ≤ j ∧ j < (xs.length : Int)) (hF : Frm N rs vs a)
    (hx : ev vs x = some (.pointer (some ⟨b, 0 + j.toNat * C.n, none⟩))) (hy : ev vs y = some u) (hu : u.cells.toList = us) (hv : C.rep D v0 us) (hS : St w0 D0 D ls w) (hl : lk ls i = some (.own (some ⟨b, 0, none⟩) xs.length c cs E C.n))
    (hR : Reps C D xs cs)
    (h : ∀ cs' a' w', Frm N rs vs a' → St w0 D0 D ((i, .own (some ⟨b, 0, none⟩) (xs.set j.toNat v0).length c cs' E C.n) :: ls) w' → Reps C D (xs.set j.toNat v0) cs' → WL r P ops Q rest a' w') :
    WL r P ops Q (⟨none, .store T x y, ty, pos, aft, none⟩ :: rest) a w := by
  have hown : w.ownsRow 0 E C.n (.slice (some ⟨b, 0, none⟩) xs.length c) xs.length cs := hS.each i _ hl
  have hlow := hS.low i _ hl b (by simp [LR.fp])
  have hlen := C.len hv
  have hjl : j.toNat < xs.length := by omega
  have hcl := hR.len
  have hfit : j.toNat * C.n + us.length ≤ cs.length := by
    rw [hcl, hlen]
    have := Nat.mul_le_mul_right C.n hjl
    rw [Nat.succ_mul] at this; omega
  rcases hown.2 with ⟨e, h0⟩ | ⟨g, cap, cur, e, hbg, hg, hn, hm, hs, ht⟩
  · omega
  · injection e with e1 e2 e3
    injection e1 with e1; injection e1 with e1 _ _
    subst e1; subst e3
    have hcur : xs.length * C.n ≤ cur.size := by rw [hs]; exact Nat.mul_le_mul_right _ hn
    have hr' := run_store_of (P := P) (a := a) (ty := ty) (pos := pos) (aft := aft) (cs := cur.toList) (by rw [hlen]; exact hT) hF hx hy hu (C.one hv) (by simpa using hg) (by simp; omega)
    rw [Nat.zero_add] at hr'
    have hR' := hR.setEl hv hjl
    refine wpListIn_plain rfl fun K hK => ⟨fun _ _ => trivial, ?_⟩
    rw [show (Fw r).round = r from rfl, semAt_of hr' (by intro d h; cases h)]
    refine hK _ _ (h (splice cs (j.toNat * C.n) us) _ _ (hF.put_none undef) ?_ hR')
    have hxl : (xs.set j.toNat v0).length = xs.length := by simp
    rw [hxl]
    have hspl : (splice cur.toList (j.toNat * C.n) us).length = cur.size := by rw [splice_length (by simp; omega)]; simp
    refine hS.turn i _ (Below.setRow hS.below hlow.1 _) (fun q hq hno => setRow_heap_other (fun e => by subst e; exact hno _ hl (by simp [LR.fp]))) ⟨by rw [splice_length hfit]; exact hown.1, .inr ⟨b, c, (splice cur.toList (j.toNat * C.n) us).toArray, rfl, hbg, setRow_heap_self hg, hn, hm, by simp [hspl, hs], ?_⟩⟩ (fun q hq => .inr ⟨_, hl, hq⟩)
    show (splice cur.toList (j.toNat * C.n) us).take (xs.length * C.n) = splice cs (j.toNat * C.n) us
    rw [← ht]
    have h9 : j.toNat * C.n + us.length ≤ xs.length * C.n := by rw [← hcl]; exact hfit
    simp only [splice, List.take_append, List.take_take, List.length_take, List.length_append]
    simp only [List.drop_take]
    have h10 : j.toNat * C.n ≤ cur.toList.length := by simp; omega
    rw [Nat.min_eq_left h10, Nat.min_eq_left (show j.toNat * C.n ≤ xs.length * C.n by omega), Nat.min_eq_right (by omega), List.take_of_length_le (show us.length ≤ xs.length * C.n - j.toNat * C.n by omega), show xs.length * C.n - (j.toNat * C.n + us.length) = xs.length * C.n - (j.toNat * C.n + us.length) from rfl]
theorem St.ownPtr {i : Nat} {p : Option Addr} {n c sz : Nat} {cs : List Value} {E : TypeId} {j : Int} (hS : St w0 D0 D ls w) (hl : lk ls i = some (.own p n c cs E sz)) (hj : 0 ≤ j ∧ j < (n : Int)) : ∃ b, p = some ⟨b, 0, none⟩ := by
  rcases (hS.each i _ hl).2 with ⟨e, h0⟩ | ⟨g, cap, cur, e, _⟩
  · omega
  · injection e with e1; exact ⟨g, e1⟩
theorem Y.indexOwn {T E : TypeId} {x y : Operand} {b n c sz : Nat} {p : Option Addr} {isA : Bool} {i : Int} (hp : p = some ⟨b, 0, none⟩) (hT : P.underlying T = some (.slice E)) (hE : tsz P E = some (isA, sz)) (hj : 0 ≤ i ∧ i < (n : Int)) (hF : Frm N rs vs a)
    (hx : ev vs x = some (.slice p n c)) (hy : ev vs y = some (.int .i64 i)) : Yields P ⟨dst, .indexAddr T x y, ty, pos, aft, gd⟩ a w (.pointer (some ⟨b, 0 + i.toNat * sz, none⟩)) := by
  subst hp; exact Y.indexSl hT hE hF hx hy hj.1 hj.2
theorem O.storeOwnP {T E : TypeId} {x y : Operand} {b c : Nat} {p : Option Addr} {j : Int} {u : Value} {us cs : List Value} {v0 : α} {xs : List α} {isA : Bool} (i : Nat) (hp : p = some ⟨b, 0, none⟩) (hT : tsz P T = some (isA, C.n)) (hj : 0 ≤ j ∧ j < (xs.length : Int)) (hF : Frm N rs vs a)
    (hx : ev vs x = some (.pointer (some ⟨b, 0 + j.toNat * C.n, none⟩))) (hy : ev vs y = some u) (hu : u.cells.toList = us) (hv : C.rep D v0 us) (hS : St w0 D0 D ls w) (hl : lk ls i = some (.own p xs.length c cs E C.n))
    (hR : Reps C D xs cs)
    (h : ∀ cs' a' w', Frm N rs vs a' → St w0 D0 D ((i, .own p (xs.set j.toNat v0).length c cs' E C.n) :: ls) w' → Reps C D (xs.set j.toNat v0) cs' → WL r P ops Q rest a' w') :
    WL r P ops Q (⟨none, .store T x y, ty, pos, aft, none⟩ :: rest) a w := by
  subst hp; exact O.storeOwn i hT hj hF hx hy hu hv hS hl hR h
end
end Go.Proofs.YtpniidbbbhbglaaDoor.Rt
