/- Plain laws of the line seat, part 4: the ways of a net, as the program finds them. Under the conditions that each names. -/
import Derived.Test.YthdbokigcfbgeaaDoorC14QC
set_option linter.unusedVariables false
set_option linter.unusedSimpArgs false
set_option maxRecDepth 100000
set_option maxHeartbeats 4000000
namespace Go.Proofs.YthdbokigcfbgeaaDoor.Rt
open Go Go.RowKit
abbrev Mp := List (line_kind × List (List Int))
def keyW (e : Int) (k : Nat) : line_kind := ⟨e, (k : Int)⟩
def insM (mp : Mp) (p : Int × List Int) : Mp := mput kl_115 mp (keyW p.1 p.2.length) (((mget kl_115 mp (keyW p.1 p.2.length)).getD []) ++ [p.2])
def dfsS (n : LineNet) : Nat → Int → List Int → List Int → List (Int × List Int)
  | 0, at_, way, _ => [(at_, way)]
  | m + 1, at_, way, V => (at_, way) :: (List.range n.Lines.length).flatMap fun i => match oth n at_ i with
    | none => []
    | some t => if t ∈ V then [] else dfsS n m t (way ++ [(i : Int)]) (t :: V)
def stepD (n : LineNet) (m : Nat) (at_ : Int) (way : List Int) (V : List Int) (i : Nat) : List (Int × List Int) := match oth n at_ i with
    | none => []
    | some t => if t ∈ V then [] else dfsS n m t (way ++ [(i : Int)]) (t :: V)
theorem dfsS_succ (n : LineNet) (m : Nat) (at_ : Int) (way V : List Int) : dfsS n (m + 1) at_ way V = (at_, way) :: (List.range n.Lines.length).flatMap (stepD n m at_ way V) := rfl
theorem dfs_len {n : LineNet} (hS : OkS n) : ∀ (m : Nat) (at_ : Int) (way V : List Int), (dfsS n m at_ way V).length ≤ 13 ^ m
  | 0, _, _, _ => Nat.le_refl _
  | m + 1, at_, way, V => by
    rw [dfsS_succ, List.length_cons]
    have h := flatM_len (List.range n.Lines.length) (stepD n m at_ way V) (13 ^ m) fun i _ => by
      unfold stepD
      split
      · simp
      · split
        · simp
        · exact dfs_len hS m _ _ _
    rw [List.length_range] at h
    have := hS.nl
    have h2 : n.Lines.length * 13 ^ m ≤ 12 * 13 ^ m := Nat.mul_le_mul_right _ this
    have h3 : 0 < 13 ^ m := Nat.pow_pos (by decide)
    rw [Nat.pow_succ]
    omega
theorem stepD_len {n : LineNet} (hS : OkS n) (m : Nat) (at_ : Int) (way V : List Int) (i : Nat) : (stepD n m at_ way V i).length ≤ 13 ^ m := by
  unfold stepD
  split
  · exact Nat.zero_le _
  · split
    · exact Nat.zero_le _
    · exact dfs_len hS m _ _ _
theorem inj_115 : ∀ a b, kl_115 a = kl_115 b → a = b := by
  rintro ⟨a1, a2⟩ ⟨b1, b2⟩ h
  simp only [kl_115, List.cons.injEq, and_true] at h
  obtain ⟨rfl, rfl⟩ := h
  rfl
theorem mget_ins (mp : Mp) (p : Int × List Int) (key : line_kind) : (mget kl_115 (insM mp p) key).getD [] = (mget kl_115 mp key).getD [] ++ (open Classical in if key = keyW p.1 p.2.length then [p.2] else []) := by
  unfold insM
  rw [mget_mput inj_115]
  by_cases h : key = keyW p.1 p.2.length
  · rw [if_pos h, if_pos h, h]; rfl
  · rw [if_neg h, if_neg h, List.append_nil]
def Big (mp : Mp) (b : Nat) : Prop := ∀ key, ((mget kl_115 mp key).getD []).length ≤ b
theorem Big.ins {mp : Mp} {b : Nat} (h : Big mp b) (p : Int × List Int) : Big (insM mp p) (b + 1) := by
  intro key
  rw [mget_ins, List.length_append]
  have := h key
  split
  · simp only [List.length_singleton]; omega
  · simp only [List.length_nil]; omega
theorem Big.fold : ∀ (l : List (Int × List Int)) {mp : Mp} {b : Nat}, Big mp b → Big (l.foldl insM mp) (b + l.length)
  | [], mp, b, h => by simpa using h
  | p :: l, mp, b, h => by
    have := Big.fold l (h.ins p)
    rw [List.length_cons, show b + (l.length + 1) = b + 1 + l.length by omega]
    exact this
theorem Big.mono {mp : Mp} {b c : Nat} (h : Big mp b) (hbc : b ≤ c) : Big mp c := fun k => Nat.le_trans (h k) hbc
theorem mget_fold : ∀ (l : List (Int × List Int)) (mp : Mp) (e : Int) (k : Nat), (mget kl_115 (l.foldl insM mp) (keyW e k)).getD [] = (mget kl_115 mp (keyW e k)).getD [] ++ (l.filter fun p => decide (p.1 = e) && decide (p.2.length = k)).map (·.2)
  | [], mp, e, k => by simp
  | p :: l, mp, e, k => by
    rw [List.foldl_cons, mget_fold l, mget_ins, List.append_assoc]
    congr 1
    have hk : keyW e k = keyW p.1 p.2.length ↔ p.1 = e ∧ p.2.length = k := by
      unfold keyW
      simp only [line_kind.mk.injEq]
      constructor
      · rintro ⟨h1, h2⟩; exact ⟨h1.symm, by omega⟩
      · rintro ⟨h1, h2⟩; exact ⟨h1.symm, by omega⟩
    by_cases h : p.1 = e ∧ p.2.length = k
    · rw [if_pos (hk.2 h), List.filter_cons_of_pos (by simp [h.1, h.2]), List.map_cons]; rfl
    · rw [if_neg (fun g => h (hk.1 g)), List.filter_cons_of_neg (by simpa using h), List.nil_append]
theorem dfs_kind {n : LineNet} (e : Int) : ∀ (m j : Nat) (at_ : Int) (way V : List Int), ((dfsS n m at_ way V).filter fun p => decide (p.1 = e) && decide (p.2.length = way.length + j)).map (·.2) = if j ≤ m then toF n e j at_ V way else []
  | 0, 0, at_, way, V => by
    by_cases h : at_ = e <;> simp [dfsS, toF, waysS, h]
  | 0, j + 1, at_, way, V => by
    simp [dfsS]
  | m + 1, 0, at_, way, V => by
    rw [dfsS_succ, if_pos (Nat.zero_le _)]
    have h0 : ((List.range n.Lines.length).flatMap (stepD n m at_ way V)).filter (fun p => decide (p.1 = e) && decide (p.2.length = way.length + 0)) = [] := by
      rw [List.filter_eq_nil_iff]
      intro p hp
      have : way.length < p.2.length := by
        have key : ∀ (m : Nat) (at_ : Int) (way V : List Int) (p : Int × List Int), p ∈ dfsS n m at_ way V → way.length ≤ p.2.length := by
          intro m
          induction m with
          | zero => intro at_ way V p hp; simp only [dfsS, List.mem_singleton] at hp; subst hp; exact Nat.le_refl _
          | succ m ih =>
            intro at_ way V p hp
            rw [dfsS_succ, List.mem_cons] at hp
            rcases hp with rfl | hp
            · exact Nat.le_refl _
            · rw [List.mem_flatMap] at hp
              obtain ⟨i, _, hp⟩ := hp
              unfold stepD at hp
              split at hp
              · cases hp
              · split at hp
                · cases hp
                · have := ih _ _ _ _ hp
                  rw [List.length_append] at this; omega
        rw [List.mem_flatMap] at hp
        obtain ⟨i, _, hp⟩ := hp
        unfold stepD at hp
        split at hp
        · cases hp
        · split at hp
          · cases hp
          · have := key _ _ _ _ _ hp
            rw [List.length_append, List.length_singleton] at this; omega
      simp; omega
    rw [List.filter_cons, h0]
    by_cases h : at_ = e
    · simp [h, toF, waysS]
    · simp [h, toF, waysS]
  | m + 1, j + 1, at_, way, V => by
    rw [dfsS_succ, List.filter_cons_of_neg (by simp), List.filter_flatMap, List.map_flatMap]
    have hstep : ∀ i, ((stepD n m at_ way V i).filter fun p => decide (p.1 = e) && decide (p.2.length = way.length + (j + 1))).map (·.2) = if j ≤ m then stepF n e j at_ V way i else [] := by
      intro i
      rw [stepF_eq]
      unfold stepD
      rcases ho : oth n at_ i with _ | t
      · dsimp only; split <;> rfl
      · dsimp only
        by_cases ht : t ∈ V
        · rw [if_pos ht, if_pos ht]; split <;> rfl
        · rw [if_neg ht, if_neg ht]
          have := dfs_kind (n := n) e m j t (way ++ [(i : Int)]) (t :: V)
          rw [List.length_append, List.length_singleton, show way.length + 1 + j = way.length + (j + 1) by omega] at this
          exact this
    rw [toF_succ]
    by_cases h : j ≤ m
    · rw [if_pos (by omega)]
      congr 1
      funext i
      rw [hstep, if_pos h]
    · rw [if_neg (by omega), List.flatMap_eq_nil_iff]
      intro i _
      rw [hstep, if_neg h]
theorem tabE {n : line_net} {k : Nat} (hk : k < n.LineNet.Lines.length) : tabf_0 0 n (k : Int) = some n.LineNet.Lines[k].From ∧ tabf_0 1 n (k : Int) = some n.LineNet.Lines[k].To := by
  unfold tabf_0 line_net_begin line_net_end
  rw [if_pos rfl, if_neg (by decide), if_pos rfl, idx_get hk]
  exact ⟨rfl, rfl⟩
theorem leave_line {σ : Type} {cv : line_net} (hS : OkS cv.LineNet) (at_ : Int) (y : (Int × Int) → σ → Option σ) {k : Nat} (hk : k < cv.LineNet.Lines.length) (s : σ) :
    loopU (line_net_leave_1_b2 cv at_ y (k : Int)) (0, s) = match oth cv.LineNet at_ k with
      | none => nxt (((k + 1 : Nat) : Int), s)
      | some t => (y ((k : Int), t) s).bind fun s' => nxt (((k + 1 : Nat) : Int), s') := by
  have hL := hS.at hk
  have hn := hS.nl
  have ho : oth cv.LineNet at_ k = othL at_ cv.LineNet.Lines[k] := by unfold oth; rw [List.getElem?_eq_getElem hk]; rfl
  rw [ho]
  have hend : ∀ s, loopU (line_net_leave_1_b2 cv at_ y (k : Int)) (2, s) = nxt (((k + 1 : Nat) : Int), s) := fun s => by
    refine loopU_ext ?_
    unfold line_net_leave_1_b2
    dsimp only
    rw [show decide ((2 : Int) < 2) = false by decide, cond_false, wr_succ (by omega)]
  have h1 : ∀ s, loopU (line_net_leave_1_b2 cv at_ y (k : Int)) (1, s) = if cv.LineNet.Lines[k].To = at_ then (y ((k : Int), cv.LineNet.Lines[k].From) s).bind fun s' => nxt (((k + 1 : Nat) : Int), s') else nxt (((k + 1 : Nat) : Int), s) := fun s => by
    have e : line_net_leave_1_b2 cv at_ y (k : Int) (1, s) = if cv.LineNet.Lines[k].To = at_ then (y ((k : Int), cv.LineNet.Lines[k].From) s).bind fun s' => nxt (2, s') else nxt (2, s) := by
      unfold line_net_leave_1_b2
      dsimp only
      rw [show decide ((1 : Int) < 2) = true by decide, cond_true, if_pos (by decide), (tabE hk).2, bind_s, beqI, show wr (1 + 1) = 2 by decide +kernel, show wr (1 - 1) = 0 by decide +kernel]
      by_cases h : cv.LineNet.Lines[k].To = at_
      · rw [decide_eq_true h, if_pos h, cond_true, if_pos (by decide), (tabE hk).1, bind_s]
      · rw [decide_eq_false h, if_neg h, cond_false]
    by_cases h : cv.LineNet.Lines[k].To = at_
    · rw [if_pos h] at e ⊢
      cases hy : y ((k : Int), cv.LineNet.Lines[k].From) s with
      | none => rw [hy] at e; exact loopU_none e
      | some s' => rw [hy] at e; rw [loopU_nxt e, hend]; rfl
    · rw [if_neg h] at e ⊢
      rw [loopU_nxt e, hend]
  have e : line_net_leave_1_b2 cv at_ y (k : Int) (0, s) = if cv.LineNet.Lines[k].From = at_ then (y ((k : Int), cv.LineNet.Lines[k].To) s).bind fun s' => nxt (1, s') else nxt (1, s) := by
    unfold line_net_leave_1_b2
    dsimp only
    rw [show decide ((0 : Int) < 2) = true by decide, cond_true, if_pos (by decide), (tabE hk).1, bind_s, beqI, show wr (0 + 1) = 1 by decide +kernel, show wr (1 - 0) = 1 by decide +kernel]
    by_cases h : cv.LineNet.Lines[k].From = at_
    · rw [decide_eq_true h, if_pos h, cond_true, if_pos (by decide), (tabE hk).2, bind_s]
    · rw [decide_eq_false h, if_neg h, cond_false]
  unfold othL
  by_cases h : cv.LineNet.Lines[k].From = at_
  · rw [if_pos h] at e ⊢
    have hne : ¬ cv.LineNet.Lines[k].To = at_ := fun h2 => hL.ne (h.trans h2.symm)
    show _ = (y ((k : Int), cv.LineNet.Lines[k].To) s).bind fun s' => nxt (((k + 1 : Nat) : Int), s')
    cases hy : y ((k : Int), cv.LineNet.Lines[k].To) s with
    | none => rw [hy] at e; rw [loopU_none e]; rfl
    | some s' => rw [hy] at e; rw [loopU_nxt e, h1, if_neg hne]; rfl
  · rw [if_neg h] at e ⊢
    rw [loopU_nxt e, h1]
    by_cases h2 : cv.LineNet.Lines[k].To = at_
    · rw [if_pos h2, if_pos h2]
    · rw [if_neg h2, if_neg h2]
theorem leave_run {σ : Type} {cv : line_net} (hS : OkS cv.LineNet) (at_ : Int) (y : (Int × Int) → σ → Option σ) (F : Nat → σ → σ) (bad : Prop) (I : Nat → σ → Prop)
    (hstep : ∀ i s, i < cv.LineNet.Lines.length → I i s → (match oth cv.LineNet at_ i with | none => F i s = s | some t => y ((i : Int), t) s = some (F i s) ∨ (y ((i : Int), t) s = none ∧ bad)) ∧ I (i + 1) (F i s)) :
    ∀ (k i : Nat) (s : σ), i + k = cv.LineNet.Lines.length → I i s → loopU (line_net_leave_1_b1 cv at_ y) ((i : Int), s) = some ((List.range' i k).foldl (fun s i => F i s) s) ∨ (loopU (line_net_leave_1_b1 cv at_ y) ((i : Int), s) = none ∧ bad)
  | 0, i, s, h, _ => by
    left
    refine loopU_ext ?_
    unfold line_net_leave_1_b1
    dsimp only
    obtain rfl : i = cv.LineNet.Lines.length := by omega
    rw [lt_f, cond_false]; rfl
  | k + 1, i, s, h, hI => by
    have hi : i < cv.LineNet.Lines.length := by omega
    obtain ⟨h1, h2⟩ := hstep i s hi hI
    have e : line_net_leave_1_b1 cv at_ y ((i : Int), s) = loopU (line_net_leave_1_b2 cv at_ y (i : Int)) (0, s) := by
      unfold line_net_leave_1_b1
      dsimp only
      rw [lt_t hi, cond_true]
    rw [leave_line hS at_ y hi s] at e
    have rec_ := leave_run hS at_ y F bad I hstep k (i + 1) (F i s) (by omega) h2
    rw [List.range'_succ, List.foldl_cons]
    rcases ho : oth cv.LineNet at_ i with _ | t
    · rw [ho] at e h1
      simp only at e h1
      rw [loopU_nxt e]
      rw [h1] at rec_ ⊢
      exact rec_
    · rw [ho] at e h1
      simp only at e h1
      rcases h1 with h1 | ⟨h1, hb⟩
      · rw [h1, bind_s] at e
        rw [loopU_nxt e]
        exact rec_
      · rw [h1] at e
        exact .inr ⟨loopU_none e, hb⟩
structure MetL (met : List Bool) (V : List Int) : Prop where
  len : met.length = 7
  is : ∀ k : Nat, k < 7 → met.getD k false = decide ((k : Int) ∈ V)
theorem MetL.add {met : List Bool} {V : List Int} (h : MetL met V) {a : Nat} (ha : a < 7) : MetL (met.set a true) ((a : Int) :: V) := by
  refine ⟨by rw [List.length_set]; exact h.len, fun k hk => ?_⟩
  rw [List.getD_eq_getElem?_getD, List.getElem?_set]
  by_cases e : a = k
  · subst e
    rw [if_pos rfl, if_pos (by rw [h.len]; exact ha)]
    simp
  · rw [if_neg e, ← List.getD_eq_getElem?_getD, h.is k hk, Bool.eq_iff_iff]
    simp only [decide_eq_true_eq, List.mem_cons]
    constructor
    · exact .inr
    · rintro (h | h)
      · omega
      · exact h
theorem rep7 : ∀ k < 7, (List.replicate 7 false).getD k false = false := by decide
theorem MetL.start : MetL (List.replicate 7 false) [] := ⟨by simp, fun k hk => by rw [rep7 k hk]; simp⟩
theorem MetL.some {met : List Bool} {V : List Int} (h : MetL met V) {k : Nat} (hk : k < 7) (hv : (k : Int) ∈ V) : (met == List.replicate 7 false) = false := by
  rw [beq_eq_false_iff_ne]
  rintro rfl
  have := h.is k hk
  rw [decide_eq_true hv, rep7 k hk] at this
  cases this
theorem opened_n {n : LineNet} (hS : OkS n) (left : Int) : ∀ (N m a : Nat) (way V : List Int) (met : List Bool) (mp : Mp) (b : Nat), way.length + m = n.Hops.toNat → a < 7 → MetL met V → (a = 0 ∨ ∃ k : Nat, k < 7 ∧ (k : Int) ∈ V) → Big mp b → b + 13 ^ m ≤ lim →
    line_opened_1_n N (a : Int) way met ⟨n, mp, left⟩ n = some ((dfsS n m (a : Int) way ((a : Int) :: V)).foldl insM mp) ∨ (line_opened_1_n N (a : Int) way met ⟨n, mp, left⟩ n = none ∧ N ≤ m)
  | 0, m, _, _, _, _, _, _, _, _, _, _, _, _ => .inr ⟨rfl, Nat.zero_le _⟩
  | N + 1, m, a, way, V, met, mp, b, hw, ha, hM, ha0, hB, hb => by
    have h2 := hS.h1; have h3 := hS.h2
    have c1 : ((met == List.replicate 7 false) && ((a : Int) != 0)) = false := by
      rcases ha0 with rfl | ⟨k, hk, hv⟩
      · rw [show (((0 : Nat) : Int) != 0) = false from rfl, Bool.and_false]
      · rw [hM.some hk hv, Bool.false_and]
    have hp : 0 < 13 ^ m := Nat.pow_pos (by decide)
    have hkey : (line_kind.mk (a : Int) (way.length : Int)) = keyW (a : Int) way.length := rfl
    have e : line_opened_1_n (N + 1) (a : Int) way met ⟨n, mp, left⟩ n = cond ((way.length : Int) == n.Hops) (some (insM mp ((a : Int), way)))
        ((line_net_leave ⟨n, insM mp ((a : Int), way), left⟩ (a : Int)).bind fun rv => (line_net_leave_1 (line_opened_1_y1 (a : Int) way met ⟨n, mp, left⟩ n (line_opened_1_n N)) rv.1 rv.2 (insM mp ((a : Int), way))).bind fun so => some so) := by
      show line_opened_1_step _ _ _ _ _ _ = _
      unfold line_opened_1_step
      rw [c1, cond_false, if_pos (by omega)]
      simp only
      rw [hkey, if_pos (by have := hB (keyW (a : Int) way.length); simp only [List.length_singleton]; omega)]
      rfl
    rw [e]
    rw [beqI]
    cases m with
    | zero =>
      left
      rw [decide_eq_true (show (way.length : Int) = n.Hops by omega), cond_true]
      rfl
    | succ m =>
      rw [decide_eq_false (show ¬ (way.length : Int) = n.Hops by omega), cond_false]
      unfold line_net_leave
      rw [bind_s]
      unfold line_net_leave_1
      simp only
      rw [dfsS_succ, List.foldl_cons]
      generalize hmp0 : insM mp ((a : Int), way) = mp0
      have hB0 : Big mp0 (b + 1) := by rw [← hmp0]; exact hB.ins _
      have hpow : (13 : Nat) ^ (m + 1) = 13 ^ m * 13 := Nat.pow_succ _ _
      have hL := hS.nl
      have := leave_run (cv := ⟨n, mp0, left⟩) hS (a : Int) (line_opened_1_y1 (a : Int) way met ⟨n, mp, left⟩ n (line_opened_1_n N)) (fun i s => (stepD n m (a : Int) way ((a : Int) :: V) i).foldl insM s) (N ≤ m)
        (fun i s => Big s (b + 1 + i * 13 ^ m)) (fun i s hi hI => by
          have hi : i < n.Lines.length := hi
          refine ⟨?_, (hI.fold _).mono (by have := stepD_len hS m (a : Int) way ((a : Int) :: V) i; rw [Nat.add_mul, Nat.one_mul]; omega)⟩
          show (match oth n (a : Int) i with | none => _ | some t => _)
          rcases ho : oth n (a : Int) i with _ | t
          · simp only
            unfold stepD
            rw [ho]; rfl
          · simp only
            obtain ⟨k, rfl, hk1, hk2⟩ := oth_nat hS ho
            unfold line_opened_1_y1 stepD
            rw [ho]
            simp only
            have hM' := hM.add ha
            rw [if_pos (by omega), Int.toNat_natCast, Int.toNat_natCast, hM'.is k hk2]
            by_cases hV : (k : Int) ∈ (a : Int) :: V
            · rw [decide_eq_true hV, cond_true, if_pos hV]
              exact .inl rfl
            · rw [decide_eq_false hV, cond_false, if_neg hV, if_pos (by simp only [List.length_singleton]; unfold lim; omega)]
              have h1 : i * 13 ^ m ≤ 11 * 13 ^ m := Nat.mul_le_mul_right _ (by omega)
              rcases opened_n hS left N m k (way ++ [(i : Int)]) ((a : Int) :: V) (met.set a true) s (b + 1 + i * 13 ^ m) (by simp; omega) hk2 hM' (.inr ⟨a, ha, by simp⟩) hI (by omega) with h | ⟨h, hN⟩
              · left; rw [h]; rfl
              · right; rw [h]; exact ⟨rfl, hN⟩) n.Lines.length 0 mp0 (by show 0 + n.Lines.length = n.Lines.length; omega) (hB0.mono (by omega))
      have hfold : ∀ (l : List Nat) (s : Mp), l.foldl (fun s i => (stepD n m (a : Int) way ((a : Int) :: V) i).foldl insM s) s = (l.flatMap (stepD n m (a : Int) way ((a : Int) :: V))).foldl insM s := by
        intro l
        induction l with
        | nil => intro s; rfl
        | cons x l ih => intro s; rw [List.foldl_cons, ih, List.flatMap_cons, List.foldl_append]
      rw [hfold, ← List.range_eq_range'] at this
      rcases this with h | ⟨h, hN⟩
      · left
        have h : loopU (line_net_leave_1_b1 ⟨n, mp0, left⟩ (a : Int) (line_opened_1_y1 (a : Int) way met ⟨n, mp, left⟩ n (line_opened_1_n N))) (0, mp0) = _ := h
        rw [h]; rfl
      · right
        have h : loopU (line_net_leave_1_b1 ⟨n, mp0, left⟩ (a : Int) (line_opened_1_y1 (a : Int) way met ⟨n, mp, left⟩ n (line_opened_1_n N))) (0, mp0) = _ := h
        rw [h]; exact ⟨rfl, by omega⟩
def waysM (n : LineNet) : Mp := (dfsS n n.Hops.toNat 0 [] [0]).foldl insM []
theorem opened_eq {n : LineNet} (hS : OkS n) (left : Int) : line_opened n left = some ⟨n, waysM n, left⟩ := by
  have h1 := hS.h1; have h2 := hS.h2
  have hp : (13 : Nat) ^ n.Hops.toNat ≤ 13 ^ 6 := Nat.pow_le_pow_right (by decide) (by omega)
  have hpv : (13 : Nat) ^ 6 = 4826809 := by decide
  have h := fun N => opened_n hS left N n.Hops.toNat 0 [] [] (List.replicate 7 false) [] 0 (by simp) (by decide) MetL.start (.inl rfl) (fun key => by simp [mget]) (by unfold lim; omega)
  have hm : line_opened_1 0 ([] : List Int) (List.replicate 7 false) ⟨n, [], left⟩ n = some (waysM n) := by
    unfold line_opened_1
    refine limU_of (n := n.Hops.toNat + 1) ?_ ?_
    · rcases h (n.Hops.toNat + 1) with h | ⟨_, h⟩
      · exact h
      · omega
    · intro N s hs
      have hs : line_opened_1_n N ((0 : Nat) : Int) [] (List.replicate 7 false) ⟨n, [], left⟩ n = some s := hs
      rcases h N with h1 | ⟨h1, _⟩
      · rw [h1] at hs; injection hs with hs; exact hs.symm
      · rw [h1] at hs; cases hs
  unfold line_opened
  rw [hm]; rfl
def WK (n : LineNet) (e : Int) (k : Nat) : List (List Int) := if k ≤ n.Hops.toNat then toF n e k 0 [0] [] else []
theorem waysM_get (n : LineNet) (e : Int) (k : Nat) : (mget kl_115 (waysM n) ⟨e, (k : Int)⟩).getD [] = WK n e k := by
  have h := mget_fold (dfsS n n.Hops.toNat 0 [] [0]) [] e k
  have h2 := dfs_kind (n := n) e n.Hops.toNat k 0 [] [0]
  simp only [List.length_nil, Nat.zero_add] at h2
  rw [h2, show (mget kl_115 ([] : Mp) (keyW e k)).getD [] = [] from rfl, List.nil_append] at h
  exact h
end Go.Proofs.YthdbokigcfbgeaaDoor.Rt
