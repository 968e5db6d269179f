/- Rules, part 15: pieces of a slice; a part of an element of a slice of one's own is written. Under no conditions but those that each names. -/
import Derived.Test.YtpniidbbbhbglaaDoorC14Rt14
set_option linter.unusedVariables false
set_option linter.unusedSimpArgs false
set_option maxRecDepth 100000
namespace Go.Proofs.YtpniidbbbhbglaaDoor.Rt
open Go Go.RowKit
section
variable {α : Type} {C : Codec α} {D : Stab}
theorem Reps.split : ∀ {xs ys : List α} {cs : List Value}, Reps C D (xs ++ ys) cs → ∃ c1 c2, cs = c1 ++ c2 ∧ Reps C D xs c1 ∧ Reps C D ys c2 ∧ c1.length = xs.length * C.n
  | [], ys, cs, h => ⟨[], cs, rfl, rfl, h, by simp⟩
  | x :: xs, ys, cs, ⟨c, r, e, h1, h2⟩ => by
    subst e
    obtain ⟨c1, c2, e, h3, h4, h5⟩ := Reps.split h2
    subst e
    refine ⟨c ++ c1, c2, by simp, ⟨c, c1, rfl, h1, h3⟩, h4, ?_⟩
    rw [List.length_append, C.len h1, h5, List.length_cons, Nat.add_mul, Nat.one_mul, Nat.add_comm]
theorem SRc.take {xs : List α} {p : Option Addr} {c : Nat} (h : SRc C D xs p c) (k : Nat) : SRc C D (xs.take k) p c := by
  obtain ⟨h1, h2⟩ := h
  refine ⟨?_, by rw [List.length_take]; omega⟩
  rcases h1 with rfl | ⟨b, o, all, E, fr, cs, e1, e2, e3, e4⟩
  · exact .inl (by simp)
  · rw [← List.take_append_drop k xs] at e3
    obtain ⟨c1, c2, rfl, f1, f2, f3⟩ := e3.split
    exact .inr ⟨b, o, all, E, fr, c1, e1, e2, f1, fun j u hu => e4 j u (by rw [List.getElem?_append_left (List.getElem?_eq_some_iff.1 hu).1]; exact hu)⟩
theorem SRc.drop {xs : List α} {p : Option Addr} {c : Nat} (h : SRc C D xs p c) {k : Nat} (hk : k ≤ xs.length) : SRc C D (xs.drop k) (if c = k then p else p.map (·.add (k * C.n))) (c - k) := by
  obtain ⟨h1, h2⟩ := h
  refine ⟨?_, by rw [List.length_drop]; omega⟩
  by_cases hc : c = k
  · exact .inl (List.drop_of_length_le (by omega))
  · rw [if_neg hc]
    rcases h1 with rfl | ⟨b, o, all, E, fr, cs, e1, e2, e3, e4⟩
    · exact .inl (by simp)
    · rw [← List.take_append_drop k xs] at e3
      obtain ⟨c1, c2, rfl, f1, f2, f3⟩ := e3.split
      rw [List.length_take, Nat.min_eq_left hk] at f3
      refine .inr ⟨b, o + k * C.n, all, E, fr, c2, by subst e1; simp [Addr.add], e2, f2, fun j u hu => ?_⟩
      rw [Nat.add_assoc]
      refine e4 _ u ?_
      rw [List.getElem?_append_right (by omega), f3, Nat.add_sub_cancel_left]; exact hu
theorem Reps.setPart {xs : List α} {cs us : List Value} {v : α} {k : Nat} : ∀ {j : Nat} (hj : j < xs.length), Reps C D xs cs → (∀ c0, C.rep D xs[j] c0 → C.rep D v (splice c0 k us)) → k + us.length ≤ C.n → Reps C D (xs.set j v) (splice cs (j * C.n + k) us) := by
  induction xs generalizing cs with
  | nil => intro j hj; simp at hj
  | cons y xs ih =>
    intro j hj hr hv hk
    obtain ⟨c0, r, e, h1, h2⟩ := hr
    subst e
    have hl0 := C.len h1
    cases j with
    | zero =>
      refine ⟨splice c0 k us, r, ?_, hv c0 h1, h2⟩
      simp only [splice, Nat.zero_mul, Nat.zero_add, List.append_assoc]
      rw [List.take_append_of_le_length (by omega), List.drop_append_of_le_length (by omega)]
    | succ j =>
      have h := ih (j := j) (by simpa using hj) h2 (fun c hc => hv c hc) hk
      refine ⟨c0, _, ?_, h1, h⟩
      simp only [splice, List.append_assoc]
      have e1 : (j + 1) * C.n + k = c0.length + (j * C.n + k) := by rw [hl0, Nat.add_mul]; omega
      have e2 : c0.length + (j * C.n + k) + us.length = c0.length + (j * C.n + k + us.length) := by omega
      rw [e1, e2, List.take_length_add_append, List.drop_length_add_append, List.append_assoc]
end
section
variable {P : Program} {N : Nat} {rs : List Nat} {vs : List (Nat × Value)} {a : Act} {w w0 : World} {D0 D : Stab} {ls : List (Nat × LR)}
variable {dst : Option Nat} {ty : TypeId} {pos : String} {aft : Array Edge} {gd : Option (Nat × Bool)}
variable {r : Option Nat} {ops : Array Oper} {Q : Exit → Act → World → Prop} {rest : List Oper}
theorem Y.sliceHi {α : Type} {xs : List α} {T E : TypeId} {x y : Operand} {c sz : Nat} {p : Option Addr} {isA : Bool} {k : Int} (hT : P.underlying T = some (.slice E)) (hE : tsz P E = some (isA, sz)) (hF : Frm N rs vs a)
    (hx : ev vs x = some (.slice p xs.length c)) (hy : ev vs y = some (.int .i64 k)) (hk : 0 ≤ k ∧ k ≤ (xs.length : Int)) (hle : xs.length ≤ c) :
    Yields P ⟨dst, .slice T x none (some y) none, ty, pos, aft, gd⟩ a w (.slice p (xs.take k.toNat).length c) := by
  have hp : (if c = 0 then p else p.map (·.add (0 * sz))) = p := by
    cases p with
    | none => simp
    | some ad => simp [Addr.add]
  have hl : (xs.take k.toNat).length = k.toNat := by rw [List.length_take]; omega
  rw [hl]
  simp only [Yields, execOp, hF.eval hx, Option.map_some, Option.map_none, hF.eval hy, Instr.sliceAt, Sem.run_bind, run_underlying hT, Result.andThen_ok, Instr.slice, Instr.sliceBounds, Instr.sliceBound, asIntOf, pure_bind]
  have h1 : 0 ≤ k ∧ k ≤ (c : Int) := by omega
  simp only [Sem.run_ite, h1, if_true, Sem.run_pure, Result.andThen_ok, run_sizeOf_of hE, Nat.sub_zero, hp, and_self]
variable {α : Type} {C : Codec α}
theorem O.storePart {T E : TypeId} {x y : Operand} {b c k : Nat} {p : Option Addr} {j : Int} {u : Value} {us cs : List Value} {v0 x0 : α} {xs : List α} {isA : Bool} (i : Nat) (hp : p = some ⟨b, 0, none⟩) (hT : tsz P T = some (isA, us.length)) (hj : 0 ≤ j ∧ j < (xs.length : Int)) (hF : Frm N rs vs a)
    (hx : ev vs x = some (.pointer (some ⟨b, 0 + j.toNat * C.n + k, none⟩))) (hy : ev vs y = some u) (hu : u.cells.toList = us) (hone : us.all (·.oneCell') = true) (hx0 : idx xs j = some x0) (hv : ∀ c0, C.rep D x0 c0 → C.rep D v0 (splice c0 k us)) (hk : k + us.length ≤ C.n)
    (hS : St w0 D0 D ls w) (hl : lk ls i = some (.own p xs.length c cs E C.n)) (hR : Reps C D xs cs)
    (h : ∀ cs' a' w', Frm N rs vs a' → St w0 D0 D ((i, .own p (xs.set j.toNat v0).length c cs' E C.n) :: ls) w' → Reps C D (xs.set j.toNat v0) cs' → WL r P ops Q rest a' w') :
    WL r P ops Q (⟨none, .store T x y, ty, pos, aft, none⟩ :: rest) a w := by
  subst hp
  have hown : w.ownsRow 0 E C.n (.slice (some ⟨b, 0, none⟩) xs.length c) xs.length cs := hS.each i _ hl
  have hlow := hS.low i _ hl b (by simp [LR.fp])
  have hjl : j.toNat < xs.length := by omega
  have hcl := hR.len
  have hx1 : xs[j.toNat] = x0 := by
    obtain ⟨_, _, h3⟩ := idx_some hx0
    rw [List.getElem?_eq_getElem hjl] at h3
    exact Option.some.inj h3
  have hfit : j.toNat * C.n + k + us.length ≤ cs.length := by
    rw [hcl]
    have := Nat.mul_le_mul_right C.n hjl
    rw [Nat.succ_mul] at this; omega
  rcases hown.2 with ⟨e, h0⟩ | ⟨g, cap, cur, e, hbg, hg, hn, hm, hs, ht⟩
  · omega
  · injection e with e1 e2 e3
    injection e1 with e1; injection e1 with e1 _ _
    subst e1; subst e3
    have hcur : xs.length * C.n ≤ cur.size := by rw [hs]; exact Nat.mul_le_mul_right _ hn
    have hr' := run_store_of (P := P) (a := a) (ty := ty) (pos := pos) (aft := aft) (cs := cur.toList) hT hF hx hy hu hone (by simpa using hg) (by simp; omega)
    rw [Nat.zero_add] at hr'
    have hR' := hR.setPart (v := v0) hjl (by rw [hx1]; exact hv) hk
    refine wpListIn_plain rfl fun K hK => ⟨fun _ _ => trivial, ?_⟩
    rw [show (Fw r).round = r from rfl, semAt_of hr' (by intro d h; cases h)]
    refine hK _ _ (h (splice cs (j.toNat * C.n + k) us) _ _ (hF.put_none undef) ?_ hR')
    have hxl : (xs.set j.toNat v0).length = xs.length := by simp
    rw [hxl]
    have hspl : (splice cur.toList (j.toNat * C.n + k) us).length = cur.size := by rw [splice_length (by simp; omega)]; simp
    refine hS.turn i _ (Below.setRow hS.below hlow.1 _) (fun q hq hno => setRow_heap_other (fun e => by subst e; exact hno _ hl (by simp [LR.fp]))) ⟨by rw [splice_length hfit]; exact hown.1, .inr ⟨b, c, (splice cur.toList (j.toNat * C.n + k) us).toArray, rfl, hbg, setRow_heap_self hg, hn, hm, by simp [hspl, hs], ?_⟩⟩ (fun q hq => .inr ⟨_, hl, hq⟩)
    show (splice cur.toList (j.toNat * C.n + k) us).take (xs.length * C.n) = splice cs (j.toNat * C.n + k) us
    rw [← ht]
    have h9 : j.toNat * C.n + k + us.length ≤ xs.length * C.n := by rw [← hcl]; exact hfit
    simp only [splice, List.take_append, List.take_take, List.length_take, List.length_append]
    simp only [List.drop_take]
    have h10 : j.toNat * C.n + k ≤ cur.toList.length := by simp; omega
    rw [Nat.min_eq_left h10, Nat.min_eq_left (show j.toNat * C.n + k ≤ xs.length * C.n by omega), Nat.min_eq_right (by omega), List.take_of_length_le (show us.length ≤ xs.length * C.n - (j.toNat * C.n + k) by omega)]
end
end Go.Proofs.YtpniidbbbhbglaaDoor.Rt
