/- Plain laws of the line seat, part 3: the ways of a net, as the reference lists them. Under the conditions that each names. -/
import Derived.Test.YthdbokigcfbgeaaDoorC5QB
set_option linter.unusedVariables false
set_option linter.unusedSimpArgs false
set_option maxRecDepth 100000
set_option maxHeartbeats 4000000
namespace Go.Proofs.YthdbokigcfbgeaaDoor.Rt
open Go Go.RowKit
theorem loopU_none {σ ρ : Type} {body : σ → Option (σ ⊕ ρ)} {s : σ} (h : body s = none) : loopU body s = none := by rw [loopU_eq, h]
theorem flatM_len {α β : Type} (l : List α) (f : α → List β) (B : Nat) (h : ∀ x ∈ l, (f x).length ≤ B) : (l.flatMap f).length ≤ l.length * B := by
  induction l with
  | nil => simp
  | cons a l ih =>
    rw [List.flatMap_cons, List.length_append, List.length_cons, Nat.add_mul, Nat.one_mul]
    have h1 := h a (by simp)
    have h2 := ih fun x hx => h x (by simp [hx])
    omega
theorem loop_cat {α ρ : Type} {body : (List α × Int) → Option ((List α × Int) ⊕ ρ)} {fin : List α → Option ρ} (R : Nat → List α) (L B : Nat) (bad : Prop)
    (hstep : ∀ (i : Nat) (out : List α), i < L → out.length ≤ i * B → body (out, (i : Int)) = nxt (out ++ R i, ((i + 1 : Nat) : Int)) ∨ (body (out, (i : Int)) = none ∧ bad))
    (hend : ∀ out, body (out, (L : Int)) = ext (fin out)) (hR : ∀ i, i < L → (R i).length ≤ B) :
    ∀ (k i : Nat) (out : List α), i + k = L → out.length ≤ i * B → loopU body (out, (i : Int)) = fin (out ++ (List.range' i k).flatMap R) ∨ (loopU body (out, (i : Int)) = none ∧ bad)
  | 0, i, out, h, hl => by
    obtain rfl : i = L := by omega
    left
    rw [loopU_ext (hend out)]; simp
  | k + 1, i, out, h, hl => by
    rcases hstep i out (by omega) hl with h1 | ⟨h1, hb⟩
    · have hr := hR i (by omega)
      have := loop_cat R L B bad hstep hend hR k (i + 1) (out ++ R i) (by omega) (by rw [List.length_append, Nat.add_mul, Nat.one_mul]; omega)
      rw [loopU_nxt h1]
      rw [List.range'_succ, List.flatMap_cons, ← List.append_assoc]
      exact this
    · exact .inr ⟨loopU_none h1, hb⟩
theorem loop_cat0 {α ρ : Type} {body : (List α × Int) → Option ((List α × Int) ⊕ ρ)} {fin : List α → Option ρ} (R : Nat → List α) (L B : Nat)
    (hstep : ∀ (i : Nat) (out : List α), i < L → out.length ≤ i * B → body (out, (i : Int)) = nxt (out ++ R i, ((i + 1 : Nat) : Int)))
    (hend : ∀ out, body (out, (L : Int)) = ext (fin out)) (hR : ∀ i, i < L → (R i).length ≤ B) : loopU body (([] : List α), 0) = fin ((List.range L).flatMap R) := by
  rcases loop_cat R L B False (fun i out h1 h2 => .inl (hstep i out h1 h2)) hend hR L 0 [] (by omega) (by simp) with h | ⟨_, h⟩
  · rw [List.range_eq_range']; simpa using h
  · exact h.elim
def othL (at_ : Int) (x : LineLine) : Option Int := if x.From = at_ then some x.To else if x.To = at_ then some x.From else none
def oth (n : LineNet) (at_ : Int) (i : Nat) : Option Int := (n.Lines[i]?).bind (othL at_)
def waysS (n : LineNet) : Nat → Int → List Int → List (List Int × Int)
  | 0, at_, _ => [([], at_)]
  | m + 1, at_, V => (List.range n.Lines.length).flatMap fun i => match oth n at_ i with
    | none => []
    | some t => if t ∈ V then [] else (waysS n m t (t :: V)).map fun q => ((i : Int) :: q.1, q.2)
def stepW (n : LineNet) (m : Nat) (at_ : Int) (V : List Int) (i : Nat) : List (List Int × Int) := match oth n at_ i with
    | none => []
    | some t => if t ∈ V then [] else (waysS n m t (t :: V)).map fun q => ((i : Int) :: q.1, q.2)
theorem waysS_succ (n : LineNet) (m : Nat) (at_ : Int) (V : List Int) : waysS n (m + 1) at_ V = (List.range n.Lines.length).flatMap (stepW n m at_ V) := rfl
theorem ways_len {n : LineNet} (hS : OkS n) : ∀ (m : Nat) (at_ : Int) (V : List Int), (waysS n m at_ V).length ≤ 12 ^ m
  | 0, _, _ => Nat.le_refl _
  | m + 1, at_, V => by
    rw [waysS_succ]
    have h := flatM_len (List.range n.Lines.length) (stepW n m at_ V) (12 ^ m) fun i _ => by
      unfold stepW
      split
      · simp
      · split
        · simp
        · rw [List.length_map]; exact ways_len hS m _ _
    rw [List.length_range] at h
    have := hS.nl
    calc _ ≤ _ := h
      _ ≤ 12 * 12 ^ m := Nat.mul_le_mul_right _ this
      _ = 12 ^ (m + 1) := by rw [Nat.pow_succ, Nat.mul_comm]
theorem step_len {n : LineNet} (hS : OkS n) (m : Nat) (at_ : Int) (V : List Int) (i : Nat) : (stepW n m at_ V i).length ≤ 12 ^ m := by
  unfold stepW
  split
  · simp
  · split
    · simp
    · rw [List.length_map]; exact ways_len hS m _ _
theorem ways_end {n : LineNet} : ∀ (m : Nat) (at_ : Int) (V : List Int) (q : List Int × Int), q ∈ waysS n m at_ V → (m = 0 ∧ q.2 = at_) ∨ q.2 ∉ V
  | 0, at_, V, q, h => by
    simp only [waysS, List.mem_singleton] at h
    subst h; exact .inl ⟨rfl, rfl⟩
  | m + 1, at_, V, q, h => by
    right
    rw [waysS_succ, List.mem_flatMap] at h
    obtain ⟨i, _, h⟩ := h
    unfold stepW at h
    split at h
    · cases h
    · split at h
      · cases h
      · next t _ ht =>
        rw [List.mem_map] at h
        obtain ⟨q0, h0, rfl⟩ := h
        rcases ways_end m t (t :: V) q0 h0 with ⟨_, h1⟩ | h1
        · show q0.2 ∉ V
          rw [h1]; exact ht
        · exact fun h2 => h1 (by simp [h2])
def toF (n : LineNet) (to : Int) (m : Nat) (at_ : Int) (V : List Int) (begun : List Int) : List (List Int) := ((waysS n m at_ V).filter fun q => decide (q.2 = to)).map fun q => begun ++ q.1
def stepF (n : LineNet) (to : Int) (m : Nat) (at_ : Int) (V : List Int) (begun : List Int) (i : Nat) : List (List Int) := ((stepW n m at_ V i).filter fun q => decide (q.2 = to)).map fun q => begun ++ q.1
theorem toF_succ (n : LineNet) (to : Int) (m : Nat) (at_ : Int) (V : List Int) (begun : List Int) : toF n to (m + 1) at_ V begun = (List.range n.Lines.length).flatMap (stepF n to m at_ V begun) := by
  unfold toF stepF
  rw [waysS_succ, List.filter_flatMap, List.map_flatMap]
theorem toF_here {n : LineNet} {to : Int} {m : Nat} {V : List Int} (h : to ∈ V) (begun : List Int) : toF n to (m + 1) to V begun = [] := by
  unfold toF
  rw [List.filter_eq_nil_iff.2, List.map_nil]
  intro q hq
  rcases ways_end (m + 1) to V q hq with ⟨h0, _⟩ | h1
  · omega
  · simp only [decide_eq_true_eq]; exact fun e => h1 (e ▸ h)
theorem stepF_eq (n : LineNet) (to : Int) (m : Nat) (at_ : Int) (V : List Int) (begun : List Int) (i : Nat) : stepF n to m at_ V begun i = match oth n at_ i with
    | none => []
    | some t => if t ∈ V then [] else toF n to m t (t :: V) (begun ++ [(i : Int)]) := by
  unfold stepF stepW toF
  split
  · rfl
  · split
    · rfl
    · rw [List.filter_map, List.map_map]
      simp [Function.comp_def]
structure Bits (t : Nat) (V : List Int) : Prop where
  lt : t < 128
  is : ∀ k : Nat, k < 7 → t.testBit k = decide ((k : Int) ∈ V)
theorem Bits.in {t : Nat} {V : List Int} (h : Bits t V) {k : Nat} (hk : k < 7) : r0In (t : Int) (k : Int) = some (decide ((k : Int) ∈ V)) := by
  rw [In_eq (by have := h.lt; omega) (by omega), h.is k hk]
theorem Bits.add {t : Nat} {V : List Int} (h : Bits t V) {k : Nat} (hk : k < 7) : bitsOp .or (t : Int) (gshl 1 (k : Int)) = ((t ||| 2 ^ k : Nat) : Int) ∧ Bits (t ||| 2 ^ k) ((k : Int) :: V) := by
  refine ⟨dec_or t (by have := h.lt; omega) k (by omega), Nat.or_lt_two_pow (n := 7) h.lt (Nat.pow_lt_pow_right (by decide) hk), fun j hj => ?_⟩
  rw [Nat.testBit_or, h.is j hj, Nat.testBit_two_pow]
  rw [Bool.eq_iff_iff]
  simp only [Bool.or_eq_true, decide_eq_true_eq, List.mem_cons]
  constructor
  · rintro (h | h)
    · exact .inr h
    · exact .inl (by omega)
  · rintro (h | h)
    · exact .inr (by omega)
    · exact .inl h
theorem Bits.start : Bits 1 [0] := ⟨by decide, fun k hk => by
  rw [show (1 : Nat) = 2 ^ 0 from rfl, Nat.testBit_two_pow, Bool.eq_iff_iff]
  simp only [decide_eq_true_eq, List.mem_singleton]
  omega⟩
theorem With_eq (l : List Int) (n : Int) (h : l.length ≤ 1000) : r0With l n = some (l ++ [n]) := by
  unfold r0With
  rw [wr_id' (by omega) (by omega), if_pos (by unfold mlim; omega), if_pos (by simp only [List.length_nil]; unfold lim; omega), if_pos (by simp only [List.nil_append, List.length_singleton]; unfold lim; omega)]
  rfl
theorem other_eq (x : LineLine) (at_ : Int) : remontoirref06_other x at_ = some ((othL at_ x).getD (-1)) := by
  unfold remontoirref06_other othL
  rw [beqI, beqI]
  by_cases h1 : x.From = at_
  · rw [decide_eq_true h1, if_pos h1]; rfl
  · rw [decide_eq_false h1, if_neg h1]
    by_cases h2 : x.To = at_
    · rw [decide_eq_true h2, if_pos h2]; rfl
    · rw [decide_eq_false h2, if_neg h2]; rfl
theorem oth_nat {n : LineNet} (hS : OkS n) {at_ : Int} {i : Nat} {t : Int} (h : oth n at_ i = some t) : ∃ k : Nat, t = (k : Int) ∧ (k : Int) < n.Exchanges ∧ k < 7 := by
  unfold oth at h
  rcases hx : n.Lines[i]? with _ | x
  · rw [hx] at h; cases h
  · rw [hx] at h
    obtain ⟨hi, rfl⟩ := List.getElem?_eq_some_iff.1 hx
    have hl := hS.at hi
    have := hl.f1; have := hl.f2; have := hl.t1; have := hl.t2; have := hS.e2
    simp only [Option.bind_some, othL] at h
    split at h
    · injection h with h; exact ⟨t.toNat, by omega, by omega, by omega⟩
    · split at h
      · injection h with h; exact ⟨t.toNat, by omega, by omega, by omega⟩
      · cases h
theorem ways_n {n : LineNet} (hS : OkS n) (to : Int) : ∀ (N m : Nat) (at_ : Int) (V : List Int) (t : Nat) (begun : List Int), m ≤ 6 → Bits t V → at_ ∈ V → begun.length + m ≤ 10 →
    remontoirref06_ways_n N n to (m : Int) at_ (t : Int) begun = some (toF n to m at_ V begun) ∨ (remontoirref06_ways_n N n to (m : Int) at_ (t : Int) begun = none ∧ N ≤ m)
  | 0, m, _, _, _, _, _, _, _, _ => .inr ⟨rfl, Nat.zero_le _⟩
  | N + 1, 0, at_, V, t, begun, _, _, _, _ => by
    left
    show remontoirref06_ways_step _ _ _ _ _ _ _ = _
    unfold remontoirref06_ways_step toF waysS
    rw [show (((0 : Nat) : Int) == 0) = true from rfl, cond_true, beqI]
    by_cases h : at_ = to
    · rw [decide_eq_true h]; simp [h]
    · rw [decide_eq_false h]; simp [h]
  | N + 1, m + 1, at_, V, t, begun, hm, hB, hat, hb => by
    show remontoirref06_ways_step _ _ _ _ _ _ _ = _ ∨ (remontoirref06_ways_step _ _ _ _ _ _ _ = _ ∧ _)
    unfold remontoirref06_ways_step
    rw [show ((((m + 1 : Nat) : Int)) == 0) = false by rw [beqI]; exact decide_eq_false (by omega), cond_false]
    have hL := hS.nl
    have hpow : (12 : Nat) ^ m ≤ 12 ^ 5 := Nat.pow_le_pow_right (by decide) (by omega)
    have wm : wr (((m + 1 : Nat) : Int) - 1) = (m : Int) := by rw [wr_id' (by omega) (by omega)]; omega
    have hk : ∀ (i : Nat) (out : List (List Int)), i < n.Lines.length → remontoirref06_ways_k2 (i : Int) out = nxt (out, ((i + 1 : Nat) : Int)) := fun i out hi => by
      unfold remontoirref06_ways_k2; rw [wr_succ (by omega)]
    have hend : ∀ out, remontoirref06_ways_b1 n to ((m + 1 : Nat) : Int) at_ (t : Int) begun (remontoirref06_ways_n N) (out, (n.Lines.length : Int)) = ext (some out) := fun out => by
      unfold remontoirref06_ways_b1
      dsimp only
      rw [lt_f, cond_false]
    by_cases hto : at_ = to
    · left
      subst hto
      rw [toF_here hat]
      have := loop_cat0 (body := remontoirref06_ways_b1 n at_ ((m + 1 : Nat) : Int) at_ (t : Int) begun (remontoirref06_ways_n N)) (fin := some) (fun _ => ([] : List (List Int))) n.Lines.length 0 (fun i out hi _ => by
        unfold remontoirref06_ways_b1
        dsimp only
        rw [lt_t hi, cond_true, idx_get hi, bind_s, other_eq, bind_s, beqI, decide_eq_true rfl, List.append_nil]
        have ht : ∃ b, (cond (decide ((othL at_ n.Lines[i]).getD (-1) < 0)) (some true) ((r0In (t : Int) ((othL at_ n.Lines[i]).getD (-1))).bind fun rv_1 => some rv_1)) = some b := by
          by_cases h0 : (othL at_ n.Lines[i]).getD (-1) < 0
          · rw [decide_eq_true h0]; exact ⟨true, rfl⟩
          · rw [decide_eq_false h0, cond_false]
            unfold r0In
            rw [if_pos h0]; exact ⟨_, rfl⟩
        obtain ⟨b, hb⟩ := ht
        rw [hb, bind_s, Bool.or_true, cond_true]
        exact hk i out hi) hend (fun i _ => by simp)
      rw [this]
      simp
    · rw [toF_succ]
      have := loop_cat (body := remontoirref06_ways_b1 n to ((m + 1 : Nat) : Int) at_ (t : Int) begun (remontoirref06_ways_n N)) (fin := some) (stepF n to m at_ V begun) n.Lines.length (12 ^ m) (N ≤ m) (fun i out hi hol => ?_) hend (fun i _ => by
          unfold stepF
          rw [List.length_map]
          exact Nat.le_trans (List.length_filter_le _ _) (step_len hS m at_ V i)) n.Lines.length 0 [] (by omega) (by simp)
      · rw [List.nil_append] at this
        rw [List.range_eq_range']
        exact this.imp id fun h => ⟨h.1, by omega⟩
      · unfold remontoirref06_ways_b1
        dsimp only
        have ho : oth n at_ i = othL at_ n.Lines[i] := by unfold oth; rw [List.getElem?_eq_getElem hi]; rfl
        rw [lt_t hi, cond_true, idx_get hi, bind_s, other_eq, bind_s, beqI, decide_eq_false hto, stepF_eq, ho]
        rcases ht : othL at_ n.Lines[i] with _ | tt
        · left
          rw [Option.getD_none, decide_eq_true (show (-1 : Int) < 0 by decide), cond_true, bind_s, Bool.true_or, cond_true, hk i out hi, List.append_nil]
        · obtain ⟨k, rfl, hk1, hk2⟩ := oth_nat hS (ho.trans ht)
          rw [Option.getD_some, decide_eq_false (show ¬ (k : Int) < 0 by omega), cond_false, hB.in hk2, bind_s, bind_s, Bool.or_false]
          by_cases hV : (k : Int) ∈ V
          · left
            rw [decide_eq_true hV, cond_true, hk i out hi]
            simp only [if_pos hV, List.append_nil]
          · rw [decide_eq_false hV, cond_false, if_pos (by omega), With_eq begun i (by omega), bind_s, wm, (hB.add hk2).1]
            simp only [if_neg hV]
            rcases ways_n hS to N m (k : Int) ((k : Int) :: V) (t ||| 2 ^ k) (begun ++ [(i : Int)]) (by omega) (hB.add hk2).2 (by simp) (by simp; omega) with h | ⟨h, hN⟩
            · left
              rw [h, bind_s, if_pos, hk i _ hi]
              have h1 : (toF n to m (k : Int) ((k : Int) :: V) (begun ++ [(i : Int)])).length ≤ 12 ^ m := by
                unfold toF
                rw [List.length_map]
                exact Nat.le_trans (List.length_filter_le _ _) (ways_len hS _ _ _)
              have h2 : i * 12 ^ m ≤ 12 * 12 ^ 5 := Nat.mul_le_mul (by omega) hpow
              unfold lim
              have h3 : (12 : Nat) ^ 5 = 248832 := by decide
              omega
            · right
              rw [h]
              exact ⟨rfl, hN⟩
theorem ways_eq {n : LineNet} (hS : OkS n) (to : Int) {m : Nat} (hm : m ≤ 6) : remontoirref06_ways n to (m : Int) 0 1 [] = some (toF n to m 0 [0] []) := by
  have h := fun N => ways_n hS to N m 0 [0] 1 [] hm Bits.start (by simp) (by simp; omega)
  unfold remontoirref06_ways
  refine limU_of (n := m + 1) ?_ ?_
  · rcases h (m + 1) with h | ⟨_, h⟩
    · exact h
    · omega
  · intro N s hs
    rcases h N with h1 | ⟨h1, _⟩
    · have hs : remontoirref06_ways_n N n to (m : Int) 0 ((1 : Nat) : Int) [] = some s := hs
      rw [h1] at hs; injection hs with hs; exact hs.symm
    · have hs : remontoirref06_ways_n N n to (m : Int) 0 ((1 : Nat) : Int) [] = some s := hs
      rw [h1] at hs; cases hs
end Go.Proofs.YthdbokigcfbgeaaDoor.Rt
