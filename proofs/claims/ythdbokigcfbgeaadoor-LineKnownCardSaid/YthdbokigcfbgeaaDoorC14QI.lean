/- Plain laws of the line seat, part 9: loops that must be wrong. Under the conditions that each names. -/
import Derived.Test.YthdbokigcfbgeaaDoorC14QH
set_option linter.unusedVariables false
set_option linter.unusedSimpArgs false
set_option maxRecDepth 100000
set_option maxHeartbeats 4000000
namespace Go.Proofs.YthdbokigcfbgeaaDoor.Rt
open Go Go.RowKit
def loopE (n : LineNet) (i : Nat) : Int := ((n.Loops[i]?).map (·.Exchange)).getD 0
theorem loopE_get {n : LineNet} {i : Nat} (hi : i < n.Loops.length) : loopE n i = n.Loops[i].Exchange := by unfold loopE; rw [List.getElem?_eq_getElem hi]; rfl
def okT (n : LineNet) (t : Nat) : Bool := (List.range n.Loops.length).all fun i => t.testBit i || !(routesF n (loopE n i) t).isEmpty
theorem okT_iff {n : LineNet} {t : Nat} : okT n t = true ↔ ∀ i, i < n.Loops.length → t.testBit i = false → routesF n (loopE n i) t ≠ [] := by
  unfold okT
  rw [List.all_eq_true]
  constructor
  · intro h i hi ht
    have := h i (List.mem_range.2 hi)
    rw [ht, Bool.false_or] at this
    intro g
    rw [g] at this; cases this
  · intro h i hi
    cases ht : t.testBit i with
    | true => rfl
    | false =>
      have := h i (List.mem_range.1 hi) ht
      rw [Bool.false_or]
      cases hr : routesF n (loopE n i) t with
      | nil => exact absurd hr this
      | cons _ _ => rfl
theorem lp_none {n : LineNet} {e : Int} {t : Nat} {s : Int × Int} : ∀ i, (∀ j, j < i → ¬ (t.testBit j = false ∧ loopE n j = e)) → lpF n e t i s = s
  | 0, _ => rfl
  | i + 1, h => by
    rw [lpF, lp_none i fun j hj => h j (by omega)]
    rcases hx : n.Loops[i]? with _ | x
    · rfl
    · dsimp only
      have h2 := h i (by omega)
      unfold loopE at h2
      rw [hx] at h2
      have h2 : ¬ (t.testBit i = false ∧ x.Exchange = e) := h2
      rw [if_neg h2]
theorem can_free {n : LineNet} (hS : OkS n) {e : Int} {t : Nat} (h : ∀ j, j < n.Loops.length → ¬ (t.testBit j = false ∧ loopE n j = e)) (w : List Int) : canW n e t w = true := by
  unfold canW spF
  rw [lp_none _ h]
  exact decide_eq_true (low_high hS w)
theorem reach_of {n : LineNet} {e : Int} {t : Nat} (h : routesF n e t ≠ []) : reachB n e = true := by
  rw [reachB_iff]
  intro g
  rw [routesF_all, g] at h
  exact h rfl
theorem canN_eq {n : LineNet} (hS : OkS n) {t : Nat} (ht : t < 1024) : line_net_can ⟨n, waysM n, (t : Int)⟩ = some (okT n t) := by
  unfold line_net_can
  have hno := hS.no; have he1 := hS.e1; have he2 := hS.e2
  have h2 := loop_any (body := line_net_can_b2 ⟨n, waysM n, (t : Int)⟩) (fun i : Nat => ((false : Bool), (i : Int))) (fun i => !(t.testBit i || reachB n (loopE n i))) (some false) (some true) n.Loops.length (fun i hi => by
    unfold line_net_can_b2
    dsimp only
    rw [lt_t hi, cond_true, idx_get hi, bind_s, if_pos (by omega), dec_in0 t ht i (by omega), reaches_eq hS, bind_s, cond_b_some, bind_s, wr_succ (by omega), loopE_get hi]
    cases t.testBit i <;> cases reachB n n.Loops[i].Exchange <;> rfl) (by
    unfold line_net_can_b2
    dsimp only
    rw [lt_f, cond_false])
  have h2 : loopU (line_net_can_b2 ⟨n, waysM n, (t : Int)⟩) (false, 0) = _ := h2
  have h1 := loop_any (body := line_net_can_b1 ⟨n, waysM n, (t : Int)⟩) (fun i : Nat => ((false : Bool), (i : Int))) (fun k => reachB n (k : Int) && (routesF n (k : Int) t).isEmpty) (some false) (if (List.range n.Loops.length).any (fun i => !(t.testBit i || reachB n (loopE n i))) then some false else some true) n.Exchanges.toNat (fun i hi => by
    unfold line_net_can_b1
    dsimp only
    rw [show decide ((i : Int) < n.Exchanges) = true by simp; omega, cond_true, reaches_eq hS, bind_s, routes_eq hS ht, bind_s, len0, cond_b_some, bind_s, wr_succ (by omega)]
    cases (reachB n (i : Int) && (routesF n (i : Int) t).isEmpty) <;> rfl) (by
    unfold line_net_can_b1
    dsimp only
    rw [show decide (((n.Exchanges.toNat : Nat) : Int) < n.Exchanges) = false by simp; omega, cond_false]
    rw [h2])
  have h1 : loopU (line_net_can_b1 ⟨n, waysM n, (t : Int)⟩) (false, 0) = _ := h1
  rw [h1]
  have key : okT n t = (!((List.range n.Exchanges.toNat).any fun (k : Nat) => reachB n (k : Int) && (routesF n (k : Int) t).isEmpty) && !((List.range n.Loops.length).any fun i => !(t.testBit i || reachB n (loopE n i)))) := by
    rw [Bool.eq_iff_iff, okT_iff, Bool.and_eq_true, Bool.not_eq_true', Bool.not_eq_true', List.any_eq_false, List.any_eq_false]
    constructor
    · intro h
      refine ⟨fun k hk => ?_, fun i hi => ?_⟩
      · intro g
        rw [Bool.and_eq_true, List.isEmpty_iff] at g
        by_cases hx : ∃ j, j < n.Loops.length ∧ t.testBit j = false ∧ loopE n j = (k : Int)
        · obtain ⟨j, hj, hj2, hj3⟩ := hx
          exact h j hj hj2 (by rw [hj3]; exact g.2)
        · have hc := can_free hS (e := (k : Int)) (t := t) fun j hj hh => hx ⟨j, hj, hh⟩
          have := (reachB_iff n (k : Int)).1 g.1
          rw [routesF_all, List.filter_eq_nil_iff] at g
          cases ha : allF n (k : Int) with
          | nil => exact this ha
          | cons a l => exact g.2 a (by rw [ha]; simp) (hc a)
      · intro g
        have hi := List.mem_range.1 hi
        cases htb : t.testBit i with
        | true => rw [htb] at g; cases g
        | false =>
          rw [htb, Bool.false_or, reach_of (h i hi htb)] at g
          cases g
    · rintro ⟨h1, h2⟩ i hi htb g
      have h3 := h2 i (List.mem_range.2 hi)
      rw [htb, Bool.false_or] at h3
      have h4 : reachB n (loopE n i) = true := by simpa using h3
      have hl := hS.lo hi
      have := hl.e1; have := hl.e2
      rw [loopE_get hi] at h4 g
      have h5 := h1 n.Loops[i].Exchange.toNat (List.mem_range.2 (by omega))
      rw [Int.toNat_of_nonneg hl.e1, h4, g] at h5
      exact h5 rfl
  rw [key]
  cases (List.range n.Exchanges.toNat).any fun (k : Nat) => reachB n (k : Int) && (routesF n (k : Int) t).isEmpty <;> cases (List.range n.Loops.length).any fun i => !(t.testBit i || reachB n (loopE n i)) <;> rfl
structure IsLeft (n : LineNet) (S : List Int) : Prop where
  is : ∃ t, t < 2 ^ n.Loops.length ∧ S = listT t n.Loops.length ∧ okT n t = true
  le : ∀ u, u < 2 ^ n.Loops.length → okT n u = true → leS S (listT u n.Loops.length)
theorem IsLeft.uniq {n : LineNet} {S T : List Int} (h : IsLeft n S) (g : IsLeft n T) : S = T := by
  obtain ⟨t, ht, rfl, ho⟩ := h.is
  obtain ⟨u, hu, rfl, hp⟩ := g.is
  exact (h.le u hu hp).anti (g.le t ht ho)
structure WrongR (n : LineNet) (r : List Int × Int) : Prop where
  bad : goodB n = false → r = ([], 60)
  good : goodB n = true → r.2 = 0 ∧ IsLeft n r.1
theorem WrongR.uniq {n : LineNet} {r q : List Int × Int} (h : WrongR n r) (g : WrongR n q) : r = q := by
  cases hg : goodB n with
  | false => rw [h.bad hg, g.bad hg]
  | true =>
    obtain ⟨h1, h2⟩ := h.good hg
    obtain ⟨g1, g2⟩ := g.good hg
    exact Prod.ext (h2.uniq g2) (h1.trans g1.symm)
theorem lex_lt : ∀ (xs ys : List Int), xs.length = ys.length → (lexB xs ys = true ↔ xs < ys)
  | [], [], _ => by simp [lexB]
  | x :: xs, y :: ys, h => by
    have ih := lex_lt xs ys (by simpa using h)
    rw [lexB, List.cons_lt_cons_iff, Bool.or_eq_true, Bool.and_eq_true, decide_eq_true_eq, decide_eq_true_eq, ih]
theorem all_bits (m : Nat) : ∀ i, i < m → (2 ^ m - 1).testBit i = true := fun i hi => by rw [Nat.testBit_two_pow_sub_one]; exact decide_eq_true hi
theorem okT_full (n : LineNet) : okT n (2 ^ n.Loops.length - 1) = true := by
  rw [okT_iff]
  intro i hi h
  rw [all_bits _ i hi] at h; cases h
theorem or_eq (a b : Int) : cmp_Or_int_ [a, b] = some (if a ≠ 0 then a else b) := by
  unfold cmp_Or_int_
  have h0 : cmp_Or_int__b1 [a, b] (0, 0) = cond (a != 0) (ext (some a)) (nxt (0, 1)) := rfl
  have h1 : cmp_Or_int__b1 [a, b] (0, 1) = cond (b != 0) (ext (some b)) (nxt (0, 2)) := rfl
  have h2 : cmp_Or_int__b1 [a, b] (0, 2) = ext (some 0) := rfl
  by_cases ha : a = 0
  · subst ha
    rw [loopU_nxt h0, if_neg (by simp)]
    by_cases hb : b = 0
    · subst hb
      rw [loopU_nxt h1, loopU_ext h2]
    · rw [ne0 hb] at h1
      rw [loopU_ext h1]
  · rw [ne0 ha] at h0
    rw [loopU_ext h0, if_pos ha]
theorem leS_total (S T : List Int) : ¬ (T.length < S.length ∨ (T.length = S.length ∧ lexB T S = true)) → leS S T := by
  intro h
  by_cases h1 : S.length < T.length
  · exact .inl h1
  · right
    have h2 : S.length = T.length := by
      by_cases h3 : T.length < S.length
      · exact absurd (.inl h3) h
      · omega
    refine ⟨h2, ?_⟩
    rcases lex_tri S T h2 with g | g | g
    · exact .inr g
    · exact .inl g
    · exact absurd (.inr ⟨h2.symm, g⟩) h
theorem leS_better {S T : List Int} (h : T.length < S.length ∨ (T.length = S.length ∧ lexB T S = true)) : leS T S := h.imp id fun g => ⟨g.1, .inr g.2⟩
theorem skip_eq {l best : List Int} (hl : l.length ≤ 1000) (hb : best.length ≤ 1000) : ((cmp_Compare_int_ (l.length : Int) (best.length : Int)).bind fun rv_2 => (slices_Compare___int_int_ l best).bind fun rv_3 => (cmp_Or_int_ ([rv_2, rv_3])).bind fun rv_4 => some (decide (rv_4 ≥ 0))) =
    some (decide (¬ (l.length < best.length ∨ (l.length = best.length ∧ lexB l best = true)))) := by
  rw [cmp_Compare_int__eq, bind_s, slices_Compare___int_int__eq l best (by unfold lim; omega) (by unfold lim; omega), bind_s, or_eq, bind_s]
  congr 1
  have hc := cmpL_lt l best
  by_cases h1 : l.length < best.length
  · rw [if_pos (show (l.length : Int) < (best.length : Int) by omega), if_pos (by decide), decide_eq_false (by decide), decide_eq_false (fun g => g (.inl h1))]
  · rw [if_neg (show ¬ (l.length : Int) < (best.length : Int) by omega)]
    by_cases h2 : l.length > best.length
    · rw [if_pos (show (l.length : Int) > (best.length : Int) by omega), if_pos (by decide), decide_eq_true (by decide), decide_eq_true (by rintro (g | ⟨g, _⟩) <;> omega)]
    · have h3 : l.length = best.length := by omega
      rw [if_neg (show ¬ (l.length : Int) > (best.length : Int) by omega), if_neg (by decide)]
      rw [Bool.eq_iff_iff, decide_eq_true_eq, decide_eq_true_eq, lex_lt l best h3]
      constructor
      · intro h g
        rcases g with g | ⟨_, g⟩
        · omega
        · have := hc.2 g; omega
      · intro h
        refine Int.not_lt.1 fun g => h (.inr ⟨h3, hc.1 g⟩)
structure Best (n : LineNet) (i : Nat) (best : List Int) (found : Bool) : Prop where
  yes : found = true → ∃ t, t < 2 ^ n.Loops.length ∧ best = listT t n.Loops.length ∧ okT n t = true
  le : ∀ u, u < i → okT n u = true → found = true ∧ leS best (listT u n.Loops.length)
  len : best.length ≤ 1000
theorem wrong_b3 {n : LineNet} (hS : OkS n) {t : Nat} (ht : t < 1024) {best : List Int} (hb : best.length ≤ 1000) (found : Bool) (z : Int) : loopU (line_Wrong_b3 n ⟨n, waysM n, 0⟩ best found (t : Int) z) (([] : List Int), 0) =
    cond (found && decide (¬ ((listT t n.Loops.length).length < best.length ∨ ((listT t n.Loops.length).length = best.length ∧ lexB (listT t n.Loops.length) best = true)))) (nxt (best, found, ((t + 1 : Nat) : Int), z))
      (cond (okT n t) (nxt (listT t n.Loops.length, true, ((t + 1 : Nat) : Int), (t : Int))) (nxt (best, found, ((t + 1 : Nat) : Int), (t : Int)))) := by
  have hno := hS.no
  have hk : ∀ (b : List Int) (f : Bool) (z : Int), line_Wrong_k2 (t : Int) b f z = nxt (b, f, ((t + 1 : Nat) : Int), z) := fun b f z => by unfold line_Wrong_k2; rw [wr_succ (by omega)]
  refine loopU_for (fun i (s : List Int × Int) => s = (listT t i, (i : Int))) n.Loops.length (Post := fun o => o = _) rfl ?_ ?_
  · rintro i _ hi rfl
    have := listT_len t i
    refine ⟨(listT t (i + 1), ((i + 1 : Nat) : Int)), ?_, rfl⟩
    unfold line_Wrong_b3
    dsimp only
    rw [lt_t hi, cond_true, if_pos (by omega), dec_in t ht i (by omega), wr_succ (by omega), listT]
    cases t.testBit i with
    | true => rw [cond_true, if_pos (by simp only [List.length_singleton]; unfold lim; omega), if_pos rfl]
    | false => rw [cond_false, if_neg (by simp)]
  · rintro _ rfl
    refine ⟨_, ?_, rfl⟩
    unfold line_Wrong_b3
    dsimp only
    have := listT_len t n.Loops.length
    rw [lt_f, cond_false, skip_eq (by omega) hb, cond_b_some, bind_s, hk, canN_eq hS ht, bind_s, hk, hk]
theorem Wrong_eq {n : LineNet} (h : Ok_LineNet n) : ∃ r, line_Wrong n = some r ∧ WrongR n r := by
  unfold line_Wrong
  rw [line_Check_eq n h, bind_s]
  cases hg : goodB n with
  | false => exact ⟨_, rfl, fun _ => rfl, fun g => by rw [hg] at g; cases g⟩
  | true =>
    have hS := OkS.of hg
    have hno := hS.no
    have hpow : 2 ^ n.Loops.length ≤ 2 ^ 10 := Nat.pow_le_pow_right (by decide) hno
    rw [if_pos rfl, show ((0 : Int) != 0) = false from rfl, cond_false, opened_eq hS 0, bind_s, if_pos (by omega)]
    refine loopU_for (fun i (s : List Int × Bool × Int × Int) => s.2.2.1 = (i : Int) ∧ Best n i s.1 s.2.1) (2 ^ n.Loops.length) (Post := fun o => ∃ r, o = some r ∧ WrongR n r) ⟨rfl, ⟨fun h => (by cases h), fun u hu => (by omega), Nat.zero_le _⟩⟩ ?_ ?_
    · rintro t ⟨best, found, _, z⟩ ht ⟨rfl, hB⟩
      simp only at hB
      have hbody : line_Wrong_b1 n ⟨n, waysM n, 0⟩ (best, found, (t : Int), z) = loopU (line_Wrong_b3 n ⟨n, waysM n, 0⟩ best found (t : Int) z) (([] : List Int), 0) := by
        unfold line_Wrong_b1
        dsimp only
        rw [shl13 _ (by omega), lt_t ht, cond_true]
      rw [hbody, wrong_b3 hS (by omega) hB.len]
      have hll := listT_len t n.Loops.length
      cases hsk : (found && decide (¬ ((listT t n.Loops.length).length < best.length ∨ ((listT t n.Loops.length).length = best.length ∧ lexB (listT t n.Loops.length) best = true)))) with
      | true =>
        rw [Bool.and_eq_true, decide_eq_true_eq] at hsk
        refine ⟨_, rfl, rfl, hB.yes, fun u hu ho => ?_, hB.len⟩
        by_cases e : u = t
        · subst e; exact ⟨hsk.1, leS_total _ _ hsk.2⟩
        · exact hB.le u (by omega) ho
      | false =>
        rw [cond_false]
        have hbet : found = true → leS (listT t n.Loops.length) best := fun hf => by
          rw [hf, Bool.true_and, decide_eq_false_iff_not, Classical.not_not] at hsk
          exact leS_better hsk
        cases hok : okT n t with
        | true =>
          refine ⟨_, rfl, rfl, fun _ => ⟨t, ht, rfl, hok⟩, fun u hu ho => ⟨rfl, ?_⟩, by simp only; omega⟩
          by_cases e : u = t
          · subst e; exact .inr ⟨rfl, .inl rfl⟩
          · obtain ⟨f1, f2⟩ := hB.le u (by omega) ho
            exact (hbet f1).trans f2
        | false =>
          refine ⟨_, rfl, rfl, hB.yes, fun u hu ho => ?_, hB.len⟩
          by_cases e : u = t
          · subst e; rw [hok] at ho; cases ho
          · exact hB.le u (by omega) ho
    · rintro ⟨best, found, _, z⟩ ⟨rfl, hB⟩
      simp only at hB
      have hp : 0 < 2 ^ n.Loops.length := Nat.pow_pos (by decide)
      have hf := (hB.le (2 ^ n.Loops.length - 1) (by omega) (okT_full n)).1
      refine ⟨some (best, 0), ?_, (best, 0), rfl, ⟨fun g => (by rw [hg] at g; cases g), fun _ => ⟨rfl, ⟨hB.yes hf, fun u hu ho => (hB.le u hu ho).2⟩⟩⟩⟩
      unfold line_Wrong_b1
      dsimp only
      rw [shl13 _ (by omega), lt_f, cond_false]
end Go.Proofs.YthdbokigcfbgeaaDoor.Rt
