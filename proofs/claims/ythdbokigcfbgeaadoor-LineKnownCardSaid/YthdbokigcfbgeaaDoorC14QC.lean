/- Plain laws of the line seat, part 3: the ways of a net, as the reference lists them. Under the conditions that each names. -/
import Derived.Test.YthdbokigcfbgeaaDoorC14QB
set_option linter.unusedVariables false
set_option linter.unusedSimpArgs false
set_option maxRecDepth 100000
set_option maxHeartbeats 4000000
namespace Go.Proofs.YthdbokigcfbgeaaDoor.Rt
open Go Go.RowKit
theorem loopU_none {σ ρ : Type} {body : σ → Option (σ ⊕ ρ)} {s : σ} (h : body s = none) : loopU body s = none := by rw [loopU_eq, h]
theorem flatM_len {α β : Type} (l : List α) (f : α → List β) (B : Nat) (h : ∀ x ∈ l, (f x).length ≤ B) : (l.flatMap f).length ≤ l.length * B := by
  induction l with
  | nil => simp
  | cons a l ih =>
    rw [List.flatMap_cons, List.length_append, List.length_cons, Nat.add_mul, Nat.one_mul]
    have h1 := h a (by simp)
    have h2 := ih fun x hx => h x (by simp [hx])
    omega
theorem loop_cat {α ρ : Type} {body : (List α × Int) → Option ((List α × Int) ⊕ ρ)} {fin : List α → Option ρ} (R : Nat → List α) (L B : Nat) (bad : Prop)
    (hstep : ∀ (i : Nat) (out : List α), i < L → out.length ≤ i * B → body (out, (i : Int)) = nxt (out ++ R i, ((i + 1 : Nat) : Int)) ∨ (body (out, (i : Int)) = none ∧ bad))
    (hend : ∀ out, body (out, (L : Int)) = ext (fin out)) (hR : ∀ i, i < L → (R i).length ≤ B) :
    ∀ (k i : Nat) (out : List α), i + k = L → out.length ≤ i * B → loopU body (out, (i : Int)) = fin (out ++ (List.range' i k).flatMap R) ∨ (loopU body (out, (i : Int)) = none ∧ bad)
  | 0, i, out, h, hl => by
    obtain rfl : i = L := by omega
    left
    rw [loopU_ext (hend out)]; simp
  | k + 1, i, out, h, hl => by
    rcases hstep i out (by omega) hl with h1 | ⟨h1, hb⟩
    · have hr := hR i (by omega)
      have := loop_cat R L B bad hstep hend hR k (i + 1) (out ++ R i) (by omega) (by rw [List.length_append, Nat.add_mul, Nat.one_mul]; omega)
      rw [loopU_nxt h1]
      rw [List.range'_succ, List.flatMap_cons, ← List.append_assoc]
      exact this
    · exact .inr ⟨loopU_none h1, hb⟩
theorem loop_cat0 {α ρ : Type} {body : (List α × Int) → Option ((List α × Int) ⊕ ρ)} {fin : List α → Option ρ} (R : Nat → List α) (L B : Nat)
    (hstep : ∀ (i : Nat) (out : List α), i < L → out.length ≤ i * B → body (out, (i : Int)) = nxt (out ++ R i, ((i + 1 : Nat) : Int)))
    (hend : ∀ out, body (out, (L : Int)) = ext (fin out)) (hR : ∀ i, i < L → (R i).length ≤ B) : loopU body (([] : List α), 0) = fin ((List.range L).flatMap R) := by
  rcases loop_cat R L B False (fun i out h1 h2 => .inl (hstep i out h1 h2)) hend hR L 0 [] (by omega) (by simp) with h | ⟨_, h⟩
  · rw [List.range_eq_range']; simpa using h
  · exact h.elim
def othL (at_ : Int) (x : LineLine) : Option Int := if x.From = at_ then some x.To else if x.To = at_ then some x.From else none
def oth (n : LineNet) (at_ : Int) (i : Nat) : Option Int := (n.Lines[i]?).bind (othL at_)
def waysS (n : LineNet) : Nat → Int → List Int → List (List Int × Int)
  | 0, at_, _ => [([], at_)]
  | m + 1, at_, V => (List.range n.Lines.length).flatMap fun i => match oth n at_ i with
    | none => []
    | some t => if t ∈ V then [] else (waysS n m t (t :: V)).map fun q => ((i : Int) :: q.1, q.2)
def stepW (n : LineNet) (m : Nat) (at_ : Int) (V : List Int) (i : Nat) : List (List Int × Int) := match oth n at_ i with
    | none => []
    | some t => if t ∈ V then [] else (waysS n m t (t :: V)).map fun q => ((i : Int) :: q.1, q.2)
theorem waysS_succ (n : LineNet) (m : Nat) (at_ : Int) (V : List Int) : waysS n (m + 1) at_ V = (List.range n.Lines.length).flatMap (stepW n m at_ V) := rfl
theorem ways_len {n : LineNet} (hS : OkS n) : ∀ (m : Nat) (at_ : Int) (V : List Int), (waysS n m at_ V).length ≤ 12 ^ m
  | 0, _, _ => Nat.le_refl _
  | m + 1, at_, V => by
    rw [waysS_succ]
    have h := flatM_len (List.range n.Lines.length) (stepW n m at_ V) (12 ^ m) fun i _ => by
      unfold stepW
      split
      · simp
      · split
        · simp
        · rw [List.length_map]; exact ways_len hS m _ _
    rw [List.length_range] at h
    have := hS.nl
    calc _ ≤ _ := h
      _ ≤ 12 * 12 ^ m := Nat.mul_le_mul_right _ this
      _ = 12 ^ (m + 1) := by rw [Nat.pow_succ, Nat.mul_comm]
def toF (n : LineNet) (to : Int) (m : Nat) (at_ : Int) (V : List Int) (begun : List Int) : List (List Int) := ((waysS n m at_ V).filter fun q => decide (q.2 = to)).map fun q => begun ++ q.1
def stepF (n : LineNet) (to : Int) (m : Nat) (at_ : Int) (V : List Int) (begun : List Int) (i : Nat) : List (List Int) := ((stepW n m at_ V i).filter fun q => decide (q.2 = to)).map fun q => begun ++ q.1
theorem toF_succ (n : LineNet) (to : Int) (m : Nat) (at_ : Int) (V : List Int) (begun : List Int) : toF n to (m + 1) at_ V begun = (List.range n.Lines.length).flatMap (stepF n to m at_ V begun) := by
  unfold toF stepF
  rw [waysS_succ, List.filter_flatMap, List.map_flatMap]
theorem stepF_eq (n : LineNet) (to : Int) (m : Nat) (at_ : Int) (V : List Int) (begun : List Int) (i : Nat) : stepF n to m at_ V begun i = match oth n at_ i with
    | none => []
    | some t => if t ∈ V then [] else toF n to m t (t :: V) (begun ++ [(i : Int)]) := by
  unfold stepF stepW toF
  split
  · rfl
  · split
    · rfl
    · rw [List.filter_map, List.map_map]
      simp [Function.comp_def]
structure Bits (t : Nat) (V : List Int) : Prop where
  lt : t < 128
  is : ∀ k : Nat, k < 7 → t.testBit k = decide ((k : Int) ∈ V)
theorem Bits.in {t : Nat} {V : List Int} (h : Bits t V) {k : Nat} (hk : k < 7) : r0In (t : Int) (k : Int) = some (decide ((k : Int) ∈ V)) := by
  rw [In_eq (by have := h.lt; omega) (by omega), h.is k hk]
theorem Bits.add {t : Nat} {V : List Int} (h : Bits t V) {k : Nat} (hk : k < 7) : bitsOp .or (t : Int) (gshl 1 (k : Int)) = ((t ||| 2 ^ k : Nat) : Int) ∧ Bits (t ||| 2 ^ k) ((k : Int) :: V) := by
  refine ⟨dec_or t (by have := h.lt; omega) k (by omega), Nat.or_lt_two_pow (n := 7) h.lt (Nat.pow_lt_pow_right (by decide) hk), fun j hj => ?_⟩
  rw [Nat.testBit_or, h.is j hj, Nat.testBit_two_pow]
  rw [Bool.eq_iff_iff]
  simp only [Bool.or_eq_true, decide_eq_true_eq, List.mem_cons]
  constructor
  · rintro (h | h)
    · exact .inr h
    · exact .inl (by omega)
  · rintro (h | h)
    · exact .inr (by omega)
    · exact .inl h
theorem Bits.start : Bits 1 [0] := ⟨by decide, fun k hk => by
  rw [show (1 : Nat) = 2 ^ 0 from rfl, Nat.testBit_two_pow, Bool.eq_iff_iff]
  simp only [decide_eq_true_eq, List.mem_singleton]
  omega⟩
theorem oth_nat {n : LineNet} (hS : OkS n) {at_ : Int} {i : Nat} {t : Int} (h : oth n at_ i = some t) : ∃ k : Nat, t = (k : Int) ∧ (k : Int) < n.Exchanges ∧ k < 7 := by
  unfold oth at h
  rcases hx : n.Lines[i]? with _ | x
  · rw [hx] at h; cases h
  · rw [hx] at h
    obtain ⟨hi, rfl⟩ := List.getElem?_eq_some_iff.1 hx
    have hl := hS.at hi
    have := hl.f1; have := hl.f2; have := hl.t1; have := hl.t2; have := hS.e2
    simp only [Option.bind_some, othL] at h
    split at h
    · injection h with h; exact ⟨t.toNat, by omega, by omega, by omega⟩
    · split at h
      · injection h with h; exact ⟨t.toNat, by omega, by omega, by omega⟩
      · cases h
end Go.Proofs.YthdbokigcfbgeaaDoor.Rt
