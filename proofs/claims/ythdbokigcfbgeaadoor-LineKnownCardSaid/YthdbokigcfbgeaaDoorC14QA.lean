/- Plain laws of the line seat, part 1: numbers, loops, lists, sets of numbers. Under the conditions that each names. -/
import Derived.Test.YthdbokigcfbgeaaDoorC14WBZ
import Derived.Test.YthdbokigcfbgeaaDoorC14O0
set_option linter.unusedVariables false
set_option linter.unusedSimpArgs false
set_option maxRecDepth 100000
set_option maxHeartbeats 4000000
namespace Go.Proofs.YthdbokigcfbgeaaDoor.Rt
open Go Go.RowKit
section
variable {K : Type} {kl : K → List Int}
theorem mget_mput {V : Type} (hinj : ∀ a b, kl a = kl b → a = b) (m : List (K × V)) (k k' : K) (v : V) : mget kl (mput kl m k v) k' = (open Classical in if k' = k then some v else mget kl m k') := by
  classical
  induction m with
  | nil =>
    simp only [mput, mget]
    by_cases h : k' = k
    · subst h; simp
    · rw [if_neg h]
      have : (kl k' == kl k) = false := by rw [beq_eq_false_iff_ne]; exact fun e => h (hinj _ _ e)
      rw [this]; rfl
  | cons p m ih =>
    simp only [mput]
    cases hb : (kl k == kl p.1) with
    | true =>
      have e : k = p.1 := hinj _ _ (by simpa using hb)
      simp only [cond_true, mget]
      by_cases h : k' = k
      · subst h; rw [if_pos rfl]; simp
      · rw [if_neg h]
        have h1 : (kl k' == kl k) = false := by rw [beq_eq_false_iff_ne]; exact fun e => h (hinj _ _ e)
        rw [h1, cond_false, ← e, h1, cond_false]
    | false =>
      simp only [cond_false, mget]
      rw [ih]
      by_cases h : k' = k
      · subst h
        rw [if_pos rfl, hb, cond_false, if_pos rfl]
      · rw [if_neg h, if_neg h]
end
def inB (n a b : Int) : Bool := decide (a ≤ n) && decide (n ≤ b)
theorem inB_iff {n a b : Int} : inB n a b = true ↔ a ≤ n ∧ n ≤ b := by simp [inB]
theorem lt_t {i n : Nat} (h : i < n) : decide ((i : Int) < (n : Int)) = true := by simp; omega
theorem lt_f (n : Nat) : decide ((n : Int) < (n : Int)) = false := by simp
theorem loop_and {α ρ : Type} (xs : List α) (f : α → Bool) (fin : Bool → Option ρ) (body : (Bool × Int) → Option ((Bool × Int) ⊕ ρ))
    (hstep : ∀ (i : Nat) (h : i < xs.length) (b : Bool), body (b, (i : Int)) = nxt (b && f xs[i], ((i + 1 : Nat) : Int)))
    (hend : ∀ b, body (b, (xs.length : Int)) = ext (fin b)) (b : Bool) : loopU body (b, 0) = fin (b && xs.all f) := by
  have key : ∀ (k i : Nat) (b : Bool), i + k = xs.length → loopU body (b, (i : Int)) = fin (b && (xs.drop i).all f) := by
    intro k
    induction k with
    | zero =>
      intro i b h
      have e : i = xs.length := by omega
      subst e
      rw [List.drop_length]
      simpa using loopU_ext (hend b)
    | succ k ih =>
      intro i b h
      have hi : i < xs.length := by omega
      have e : (xs.drop i).all f = (f xs[i] && (xs.drop (i + 1)).all f) := by rw [← List.getElem_cons_drop hi]; rfl
      rw [loopU_nxt (hstep i hi b), ih (i + 1) _ (by omega), e, Bool.and_assoc]
  simpa using key xs.length 0 b (by omega)
theorem cond_b_some (b x : Bool) : (cond b (some x) (some false)) = some (b && x) := by cases b <;> rfl
theorem wr_succ {i : Nat} (h : (i : Int) ≤ 9223372036854775806) : wr ((i : Int) + 1) = ((i + 1 : Nat) : Int) := wr_id' (by omega) (by omega)
theorem beqI (a b : Int) : (a == b) = decide (a = b) := by
  by_cases h : a = b
  · subst h; simp
  · rw [decide_eq_false h, beq_eq_false_iff_ne]; exact h
theorem bneI (a b : Int) : (a != b) = decide (a ≠ b) := by rw [bne, beqI]; simp
theorem index_eq (l : List Int) (n : Int) (hl : (l.length : Int) ≤ 9223372036854775807) : ∃ r, slices_Index___int_int_ l n = some r ∧ decide (r ≥ 0) = l.any (· == n) := by
  unfold slices_Index___int_int_
  have key : ∀ (k i : Nat), i + k = l.length → ∃ r, loopU (slices_Index___int_int__b1 l n) (0, (i : Int)) = some r ∧ decide (r ≥ 0) = (l.drop i).any (· == n) := by
    intro k
    induction k with
    | zero =>
      intro i h
      have e : i = l.length := by omega
      subst e
      refine ⟨-1, loopU_ext ?_, ?_⟩
      · simp only [slices_Index___int_int__b1, lt_f, cond_false]
      · simp
    | succ k ih =>
      intro i h
      have hi : i < l.length := by omega
      rw [← List.getElem_cons_drop hi, List.any_cons]
      have hb : slices_Index___int_int__b1 l n (0, (i : Int)) = cond (l[i] == n) (ext (some (i : Int))) (nxt (0, ((i + 1 : Nat) : Int))) := by
        simp only [slices_Index___int_int__b1, lt_t hi, cond_true, idx_get hi, bind_s]
        rw [wr_id' (by omega) (by omega), beqI, beqI, show decide (n = l[i]) = decide (l[i] = n) by simp only [eq_comm]]; rfl
      cases hc : (l[i] == n) with
      | true =>
        rw [hc] at hb
        exact ⟨(i : Int), loopU_ext hb, by simp⟩
      | false =>
        rw [hc] at hb
        rw [loopU_nxt hb, Bool.false_or]
        exact ih (i + 1) (by omega)
  simpa using key l.length 0 (by omega)
theorem any_mem (l : List Int) (n : Int) : l.any (· == n) = decide (n ∈ l) := by
  rw [Bool.eq_iff_iff]; simp
theorem contains_eq (l : List Int) (n : Int) (hl : (l.length : Int) ≤ 9223372036854775807) : slices_Contains___int_int_ l n = some (decide (n ∈ l)) := by
  obtain ⟨r, h1, h2⟩ := index_eq l n hl
  unfold slices_Contains___int_int_
  rw [h1, bind_s, h2, any_mem]
theorem First_eq (l m : List Int) (hl : (l.length : Int) ≤ 9223372036854775806) : ∃ k : Nat, r0First l m = some (k : Int) ∧ k ≤ l.length ∧ k ≤ m.length ∧ (∀ i, i < k → l[i]? = m[i]?) ∧ (k < l.length → k < m.length → l[k]? ≠ m[k]?) := by
  unfold r0First
  have key : ∀ (d i : Nat), i + d = l.length → i ≤ m.length → (∀ j, j < i → l[j]? = m[j]?) → ∃ k : Nat, loopU (r0First_b1 l m) (i : Int) = some (k : Int) ∧ k ≤ l.length ∧ k ≤ m.length ∧ (∀ i, i < k → l[i]? = m[i]?) ∧ (k < l.length → k < m.length → l[k]? ≠ m[k]?) := by
    intro d
    induction d with
    | zero =>
      intro i h hm hj
      have e : i = l.length := by omega
      subst e
      refine ⟨l.length, loopU_ext ?_, Nat.le_refl _, hm, hj, fun h => by omega⟩
      unfold r0First_b1
      dsimp only
      rw [lt_f]; rfl
    | succ d ih =>
      intro i h hm hj
      have hi : i < l.length := by omega
      by_cases hi2 : i < m.length
      · have hb : r0First_b1 l m (i : Int) = cond (l[i] == m[i]) (nxt ((i + 1 : Nat) : Int)) (ext (some (i : Int))) := by
          unfold r0First_b1
          dsimp only
          rw [lt_t hi, lt_t hi2, idx_get hi, idx_get hi2]
          show (cond (l[i] == m[i]) _ _) = _
          rw [wr_succ (by omega)]
        cases hc : (l[i] == m[i]) with
        | true =>
          rw [hc] at hb
          rw [loopU_nxt hb]
          refine ih (i + 1) (by omega) (by omega) fun j hj2 => ?_
          by_cases e : j = i
          · subst e; rw [List.getElem?_eq_getElem hi, List.getElem?_eq_getElem hi2, show l[j] = m[j] by simpa using hc]
          · exact hj j (by omega)
        | false =>
          rw [hc] at hb
          refine ⟨i, loopU_ext hb, by omega, by omega, hj, fun _ _ => ?_⟩
          rw [List.getElem?_eq_getElem hi, List.getElem?_eq_getElem hi2]
          simp at hc ⊢; exact hc
      · refine ⟨i, loopU_ext ?_, by omega, hm, hj, fun _ h => absurd h hi2⟩
        unfold r0First_b1
        dsimp only
        have e : i = m.length := by omega
        subst e
        rw [lt_t hi, lt_f]; rfl
  exact key l.length 0 (by omega) (Nat.zero_le _) fun j h => by omega
theorem Alike_eq (l m : List Int) (hl : (l.length : Int) ≤ 9223372036854775806) : r0Alike l m = some (decide (l = m)) := by
  unfold r0Alike
  by_cases hlen : l.length = m.length
  · have : ((l.length : Int) == (m.length : Int)) = true := by simp [hlen]
    rw [this, cond_true]
    obtain ⟨k, hk, h1, h2, h3, h4⟩ := First_eq l m hl
    rw [hk, bind_s, bind_s, beqI]
    congr 1
    rw [Bool.eq_iff_iff, decide_eq_true_eq, decide_eq_true_eq]
    constructor
    · intro h
      have e : k = l.length := by omega
      subst e
      refine List.ext_getElem? fun i => ?_
      by_cases hi : i < l.length
      · exact h3 i hi
      · rw [List.getElem?_eq_none (by omega), List.getElem?_eq_none (by omega)]
    · rintro rfl
      by_cases e : k < l.length
      · exact absurd rfl (h4 e e)
      · omega
  · have : ((l.length : Int) == (m.length : Int)) = false := by simp; omega
    rw [this, cond_false, bind_s]
    rw [decide_eq_false]
    rintro rfl
    exact hlen rfl
def lexB : List Int → List Int → Bool
  | x :: xs, y :: ys => decide (x < y) || (decide (x = y) && lexB xs ys)
  | _, _ => false
theorem lex_irr : ∀ xs, lexB xs xs = false
  | [] => rfl
  | x :: xs => by simp [lexB, lex_irr xs]
theorem lex_tri : ∀ xs ys : List Int, xs.length = ys.length → lexB xs ys = true ∨ xs = ys ∨ lexB ys xs = true
  | [], [], _ => .inr (.inl rfl)
  | x :: xs, y :: ys, h => by
    rcases Int.lt_trichotomy x y with h1 | h1 | h1
    · left; simp [lexB, h1]
    · subst h1
      rcases lex_tri xs ys (by simpa using h) with h2 | h2 | h2
      · left; simp [lexB, h2]
      · right; left; rw [h2]
      · right; right; simp [lexB, h2]
    · right; right; simp [lexB, h1]
theorem lex_trans : ∀ {xs ys zs : List Int}, lexB xs ys = true → lexB ys zs = true → lexB xs zs = true
  | x :: xs, y :: ys, z :: zs, h1, h2 => by
    simp only [lexB, Bool.or_eq_true, Bool.and_eq_true, decide_eq_true_eq] at h1 h2 ⊢
    rcases h1 with h1 | ⟨rfl, h1⟩
    · rcases h2 with h2 | ⟨rfl, h2⟩
      · left; omega
      · left; exact h1
    · rcases h2 with h2 | ⟨rfl, h2⟩
      · left; exact h2
      · right; exact ⟨rfl, lex_trans h1 h2⟩
  | [], _, _, h1, _ => by simp [lexB] at h1
  | _ :: _, [], _, h1, _ => by simp [lexB] at h1
  | _ :: _, _ :: _, [], _, h2 => by simp [lexB] at h2
theorem lex_asym {xs ys : List Int} (h1 : lexB xs ys = true) (h2 : lexB ys xs = true) : False := by
  have := lex_trans h1 h2
  rw [lex_irr] at this; cases this
def leS (S T : List Int) : Prop := S.length < T.length ∨ (S.length = T.length ∧ (S = T ∨ lexB S T = true))
theorem leS.trans {S T U : List Int} (h1 : leS S T) (h2 : leS T U) : leS S U := by
  rcases h1 with h1 | ⟨e1, h1⟩
  · rcases h2 with h2 | ⟨e2, _⟩
    · left; omega
    · left; omega
  · rcases h2 with h2 | ⟨e2, h2⟩
    · left; omega
    · right
      refine ⟨by omega, ?_⟩
      rcases h1 with rfl | h1
      · exact h2
      · rcases h2 with rfl | h2
        · exact .inr h1
        · exact .inr (lex_trans h1 h2)
theorem leS.anti {S T : List Int} (h1 : leS S T) (h2 : leS T S) : S = T := by
  rcases h1 with h1 | ⟨e1, h1⟩
  · rcases h2 with h2 | ⟨e2, _⟩ <;> omega
  · rcases h2 with h2 | ⟨e2, h2⟩
    · omega
    · rcases h1 with h1 | h1
      · exact h1
      · rcases h2 with h2 | h2
        · exact h2.symm
        · exact (lex_asym h1 h2).elim
theorem dec_in : ∀ t < 1024, ∀ k < 10, (bitsOp .and (gshr ((t : Nat) : Int) ((k : Nat) : Int)) 1 == 1) = t.testBit k := by decide +kernel
theorem dec_or : ∀ t < 1024, ∀ k < 10, bitsOp .or ((t : Nat) : Int) (gshl 1 ((k : Nat) : Int)) = ((t ||| 2 ^ k : Nat) : Int) := by decide +kernel
theorem In_eq {t k : Nat} (ht : t < 1024) (hk : k < 10) : r0In (t : Int) (k : Int) = some (t.testBit k) := by
  unfold r0In
  rw [if_pos (by omega), dec_in t ht k hk]
theorem AlikeRows_eq (l m : List (List Int)) (hl : (l.length : Int) ≤ 9223372036854775806) (hr : ∀ r ∈ l, (r.length : Int) ≤ 9223372036854775806) : r0AlikeRows l m = some (decide (l = m)) := by
  unfold r0AlikeRows
  by_cases hlen : l.length = m.length
  · rw [beqI, decide_eq_true (show (l.length : Int) = (m.length : Int) by omega)]
    have key : ∀ (d i : Nat) (b : Bool), i + d = l.length → b = decide (l.take i = m.take i) → loopU (r0AlikeRows_b1 l m) (b, (i : Int)) = some (decide (l = m)) := by
      intro d
      induction d with
      | zero =>
        intro i b h hb
        have e : i = l.length := by omega
        subst e
        rw [List.take_length, hlen, List.take_length] at hb
        apply loopU_ext
        unfold r0AlikeRows_b1
        dsimp only
        rw [lt_f, Bool.and_false, cond_false, hb]
      | succ d ih =>
        intro i b h hb
        have hi : i < l.length := by omega
        have hi2 : i < m.length := by omega
        cases hbv : b with
        | false =>
          rw [hbv] at hb
          apply loopU_ext
          unfold r0AlikeRows_b1
          dsimp only
          rw [Bool.false_and, cond_false]
          rw [decide_eq_false]
          rintro rfl
          simp at hb
        | true =>
          rw [hbv] at hb
          have hb := of_decide_eq_true hb.symm
          have hbody : r0AlikeRows_b1 l m (true, (i : Int)) = nxt (decide (l[i] = m[i]), ((i + 1 : Nat) : Int)) := by
            unfold r0AlikeRows_b1
            dsimp only
            rw [lt_t hi, Bool.true_and, cond_true, idx_get hi, bind_s, idx_get hi2, bind_s, Alike_eq _ _ (hr _ (List.getElem_mem hi)), bind_s, wr_succ (by omega)]
          rw [loopU_nxt hbody]
          refine ih (i + 1) _ (by omega) ?_
          rw [List.take_succ_eq_append_getElem hi, List.take_succ_eq_append_getElem hi2, hb]
          congr 1
          exact propext ⟨fun h => by rw [h], fun h => by simpa using (List.append_inj' h rfl).2⟩
    exact key l.length 0 true (by omega) (by simp)
  · rw [beqI, decide_eq_false (show ¬ (l.length : Int) = (m.length : Int) by omega)]
    apply loopU_ext
    unfold r0AlikeRows_b1
    dsimp only
    rw [Bool.false_and, cond_false, decide_eq_false]
    rintro rfl
    exact hlen rfl
end Go.Proofs.YthdbokigcfbgeaaDoor.Rt
