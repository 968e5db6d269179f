/- Plain laws of the line seat, part 6: sets as numbers, ways by their lines, routes. Under the conditions that each names. -/
import Derived.Test.YthdbokigcfbgeaaDoorC14QE
set_option linter.unusedVariables false
set_option linter.unusedSimpArgs false
set_option maxRecDepth 100000
set_option maxHeartbeats 4000000
namespace Go.Proofs.YthdbokigcfbgeaaDoor.Rt
open Go Go.RowKit
theorem shl13 : ∀ k < 14, gshl 1 ((k : Nat) : Int) = ((2 ^ k : Nat) : Int) := by decide +kernel
def listT (t : Nat) : Nat → List Int
  | 0 => []
  | m + 1 => if t.testBit m then listT t m ++ [(m : Int)] else listT t m
theorem listT_len (t : Nat) : ∀ m, (listT t m).length ≤ m
  | 0 => Nat.le_refl _
  | m + 1 => by
    have := listT_len t m
    rw [listT]; split
    · rw [List.length_append, List.length_singleton]; omega
    · omega
def trk (n : LineNet) : Int → List Int → List Int → Option Int
  | at_, _, [] => some at_
  | at_, V, e :: w => match oth n at_ e.toNat with
    | none => none
    | some t => if 0 ≤ e ∧ t ∉ V then trk n t (t :: V) w else none
theorem mem_ways {n : LineNet} : ∀ (m : Nat) (at_ : Int) (V : List Int) (w : List Int) (x : Int), (w, x) ∈ waysS n m at_ V ↔ w.length = m ∧ trk n at_ V w = some x
  | 0, at_, V, w, x => by
    simp only [waysS, List.mem_singleton, Prod.mk.injEq]
    constructor
    · rintro ⟨rfl, rfl⟩; exact ⟨rfl, rfl⟩
    · rintro ⟨h1, h2⟩
      obtain rfl := List.eq_nil_of_length_eq_zero h1
      simp only [trk, Option.some.injEq] at h2
      exact ⟨rfl, h2.symm⟩
  | m + 1, at_, V, w, x => by
    rw [waysS_succ, List.mem_flatMap]
    constructor
    · rintro ⟨i, hi, h⟩
      unfold stepW at h
      rcases ho : oth n at_ i with _ | t
      · rw [ho] at h; cases h
      · rw [ho] at h
        simp only at h
        split at h
        · cases h
        · next hV =>
          obtain ⟨⟨w0, x0⟩, h0, h1⟩ := List.mem_map.1 h
          simp only [Prod.mk.injEq] at h1
          obtain ⟨rfl, rfl⟩ := h1
          obtain ⟨h2, h3⟩ := (mem_ways m t (t :: V) w0 x0).1 h0
          refine ⟨by rw [List.length_cons, h2], ?_⟩
          simp only [trk, Int.toNat_natCast, ho]
          rw [if_pos ⟨by omega, hV⟩]
          exact h3
    · rintro ⟨h1, h2⟩
      cases w with
      | nil => simp at h1
      | cons e w =>
        simp only [trk] at h2
        rcases ho : oth n at_ e.toNat with _ | t
        · rw [ho] at h2; cases h2
        · rw [ho] at h2
          simp only at h2
          split at h2
          · next hc =>
            have hlt : e.toNat < n.Lines.length := by
              unfold oth at ho
              rcases hx : n.Lines[e.toNat]? with _ | y
              · rw [hx] at ho; cases ho
              · exact (List.getElem?_eq_some_iff.1 hx).1
            refine ⟨e.toNat, List.mem_range.2 hlt, ?_⟩
            unfold stepW
            rw [ho]
            simp only
            rw [if_neg hc.2]
            refine List.mem_map.2 ⟨(w, x), (mem_ways m t (t :: V) w x).2 ⟨by rw [List.length_cons] at h1; omega, h2⟩, ?_⟩
            simp only [Prod.mk.injEq, List.cons.injEq, and_true]
            omega
          · cases h2
theorem mem_toF {n : LineNet} (to : Int) (m : Nat) (at_ : Int) (V w : List Int) : w ∈ toF n to m at_ V [] ↔ w.length = m ∧ trk n at_ V w = some to := by
  unfold toF
  rw [List.mem_map]
  constructor
  · rintro ⟨⟨w0, x0⟩, h, rfl⟩
    obtain ⟨h1, h2⟩ := List.mem_filter.1 h
    simp only [decide_eq_true_eq] at h2
    subst h2
    exact (mem_ways m at_ V w0 x0).1 h1
  · intro h
    exact ⟨(w, to), List.mem_filter.2 ⟨(mem_ways m at_ V w to).2 h, by simp⟩, rfl⟩
theorem mem_WK {n : LineNet} (e : Int) (k : Nat) (w : List Int) : w ∈ WK n e k ↔ k ≤ n.Hops.toNat ∧ w.length = k ∧ trk n 0 [0] w = some e := by
  unfold WK
  split
  · next h => rw [mem_toF]; exact ⟨fun g => ⟨h, g⟩, fun g => g.2⟩
  · next h => exact ⟨fun g => (by cases g), fun g => absurd g.1 h⟩
theorem trk_lines {n : LineNet} : ∀ (w : List Int) (at_ : Int) (V : List Int) (x : Int), trk n at_ V w = some x → ∀ e ∈ w, ∃ k : Nat, e = (k : Int) ∧ k < n.Lines.length
  | [], _, _, _, _, e, h => by cases h
  | e0 :: w, at_, V, x, h, e, he => by
    simp only [trk] at h
    rcases ho : oth n at_ e0.toNat with _ | t
    · rw [ho] at h; cases h
    · rw [ho] at h
      simp only at h
      split at h
      · next hc =>
        rcases List.mem_cons.1 he with rfl | he
        · refine ⟨e.toNat, by omega, ?_⟩
          unfold oth at ho
          rcases hx : n.Lines[e.toNat]? with _ | y
          · rw [hx] at ho; cases ho
          · exact (List.getElem?_eq_some_iff.1 hx).1
        · exact trk_lines w t (t :: V) x h e he
      · cases h
theorem WK_ok {n : LineNet} (hS : OkS n) {e : Int} {k : Nat} {w : List Int} (h : w ∈ WK n e k) : WOk n w := by
  obtain ⟨h1, h2, h3⟩ := (mem_WK e k w).1 h
  have := hS.h2; have := hS.h1
  exact ⟨by omega, trk_lines w 0 [0] e h3⟩
theorem ways_pair {n : LineNet} : ∀ (m : Nat) (at_ : Int) (V : List Int), (waysS n m at_ V).Pairwise (fun a b => a.1 < b.1)
  | 0, _, _ => List.pairwise_singleton _ _
  | m + 1, at_, V => by
    rw [waysS_succ, List.pairwise_flatMap]
    have hhead : ∀ i q, q ∈ stepW n m at_ V i → ∃ w, q.1 = (i : Int) :: w := by
      intro i q h
      unfold stepW at h
      split at h
      · cases h
      · split at h
        · cases h
        · obtain ⟨q0, _, rfl⟩ := List.mem_map.1 h
          exact ⟨_, rfl⟩
    refine ⟨fun i _ => ?_, List.pairwise_lt_range.imp fun hij q hq r hr => ?_⟩
    · unfold stepW
      split
      · exact List.Pairwise.nil
      · split
        · exact List.Pairwise.nil
        · rw [List.pairwise_map]
          refine (ways_pair m _ _).imp fun h => ?_
          exact List.cons_lt_cons_iff.2 (.inr ⟨rfl, h⟩)
    · obtain ⟨w1, e1⟩ := hhead _ q hq
      obtain ⟨w2, e2⟩ := hhead _ r hr
      rw [e1, e2, List.cons_lt_cons_iff]
      exact .inl (by omega)
theorem WK_pair {n : LineNet} (e : Int) (k : Nat) : (WK n e k).Pairwise (· < ·) := by
  unfold WK
  split
  · unfold toF
    rw [List.pairwise_map]
    exact ((ways_pair k 0 [0]).filter _).imp fun h => by simpa using h
  · exact List.Pairwise.nil
theorem sort_sorted {l : List (List Int)} (h : l.Pairwise (· < ·)) : sortL l = l := by
  refine (sortL_unique (List.Perm.refl l) (h.imp fun {a b} hab => ?_)).symm
  rw [ltOf_cmpL]
  exact decide_eq_false (List.lt_asymm hab)
theorem WK_len {n : LineNet} (hS : OkS n) (e : Int) (k : Nat) : (WK n e k).length ≤ 12 ^ 6 := by
  unfold WK
  split
  · next h =>
    unfold toF
    rw [List.length_map]
    have h1 := hS.h1; have h2 := hS.h2
    exact Nat.le_trans (List.length_filter_le _ _) (Nat.le_trans (ways_len hS k 0 [0]) (Nat.pow_le_pow_right (by decide) (by omega)))
  · simp
theorem p126 : (12 : Nat) ^ 6 = 2985984 := by decide
def allF (n : LineNet) (e : Int) : List (List Int) := (List.range 7).flatMap (WK n e)
def routesF (n : LineNet) (e : Int) (t : Nat) : List (List Int) := (List.range 7).flatMap fun k => (WK n e k).filter (canW n e t)
theorem routesF_all (n : LineNet) (e : Int) (t : Nat) : routesF n e t = (allF n e).filter (canW n e t) := by
  unfold routesF allF
  rw [List.filter_flatMap]
theorem mem_allF {n : LineNet} (hS : OkS n) (e : Int) (w : List Int) : w ∈ allF n e ↔ (w.length : Int) ≤ n.Hops ∧ trk n 0 [0] w = some e := by
  have := hS.h1; have := hS.h2
  unfold allF
  rw [List.mem_flatMap]
  constructor
  · rintro ⟨k, _, h⟩
    obtain ⟨h1, h2, h3⟩ := (mem_WK e k w).1 h
    exact ⟨by omega, h3⟩
  · rintro ⟨h1, h2⟩
    exact ⟨w.length, List.mem_range.2 (by omega), (mem_WK e _ w).2 ⟨by omega, rfl, h2⟩⟩
theorem mem_routesF {n : LineNet} (hS : OkS n) (e : Int) (t : Nat) (w : List Int) : w ∈ routesF n e t ↔ (w.length : Int) ≤ n.Hops ∧ trk n 0 [0] w = some e ∧ canW n e t w = true := by
  rw [routesF_all, List.mem_filter, mem_allF hS, and_assoc]
theorem all_ok {n : LineNet} (hS : OkS n) {e : Int} {w : List Int} (h : w ∈ allF n e) : WOk n w := by
  unfold allF at h
  obtain ⟨k, _, h⟩ := List.mem_flatMap.1 h
  exact WK_ok hS h
theorem routes_ok {n : LineNet} (hS : OkS n) {e : Int} {t : Nat} {w : List Int} (h : w ∈ routesF n e t) : WOk n w := by
  rw [routesF_all] at h
  exact all_ok hS (List.mem_filter.1 h).1
theorem all_len {n : LineNet} (hS : OkS n) (e : Int) : (allF n e).length ≤ 7 * 12 ^ 6 := by
  have := flatM_len (List.range 7) (WK n e) (12 ^ 6) fun k _ => WK_len hS e k
  rw [List.length_range] at this
  exact this
theorem routes_len {n : LineNet} (hS : OkS n) (e : Int) (t : Nat) : (routesF n e t).length ≤ 7 * 12 ^ 6 := by
  rw [routesF_all]
  exact Nat.le_trans (List.length_filter_le _ _) (all_len hS e)
theorem loop_any {σ ρ : Type} {body : σ → Option (σ ⊕ ρ)} (st : Nat → σ) (p : Nat → Bool) (x fin : Option ρ) (L : Nat)
    (hstep : ∀ i, i < L → body (st i) = if p i then ext x else nxt (st (i + 1))) (hend : body (st L) = ext fin) : loopU body (st 0) = if (List.range L).any p then x else fin := by
  have key : ∀ (k i : Nat), i + k = L → loopU body (st i) = if (List.range' i k).any p then x else fin := by
    intro k
    induction k with
    | zero =>
      intro i h
      obtain rfl : i = L := by omega
      rw [loopU_ext hend]; simp
    | succ k ih =>
      intro i h
      have hs := hstep i (by omega)
      rw [List.range'_succ, List.any_cons]
      cases hp : p i with
      | true => rw [hp] at hs; rw [loopU_ext hs]; simp
      | false => rw [hp] at hs; rw [loopU_nxt hs, ih (i + 1) (by omega), Bool.false_or]
  have := key L 0 (by omega)
  rw [this, List.range_eq_range']
def reachB (n : LineNet) (e : Int) : Bool := (List.range 7).any fun k => !(WK n e k).isEmpty
theorem reachB_iff (n : LineNet) (e : Int) : reachB n e = true ↔ allF n e ≠ [] := by
  unfold reachB allF
  rw [List.any_eq_true, Ne, List.flatMap_eq_nil_iff]
  constructor
  · rintro ⟨k, hk, h⟩ g
    rw [g k hk] at h; cases h
  · intro h
    simp only [Classical.not_forall] at h
    obtain ⟨k, hk, h⟩ := h
    exact ⟨k, hk, by cases hw : WK n e k with | nil => exact absurd hw h | cons _ _ => rfl⟩
theorem reaches_eq {n : LineNet} (hS : OkS n) (left e : Int) : line_net_reaches ⟨n, waysM n, left⟩ e = some (reachB n e) := by
  unfold line_net_reaches reachB
  have h := loop_any (body := line_net_reaches_b1 ⟨n, waysM n, left⟩ e) (fun i : Nat => ((false : Bool), (i : Int))) (fun k => !(WK n e k).isEmpty) (some true) (some false) 7 (fun i hi => by
    unfold line_net_reaches_b1
    dsimp only
    rw [show decide ((i : Int) < 7) = true by simp; omega, cond_true, waysM_get, wr_succ (by omega)]
    cases hw : WK n e i with
    | nil => rfl
    | cons a l => rw [show decide ((((a :: l).length : Nat) : Int) > 0) = true by simp]; rfl) (by unfold line_net_reaches_b1; rfl)
  have h : loopU (line_net_reaches_b1 ⟨n, waysM n, left⟩ e) (false, 0) = _ := h
  rw [h]
  cases (List.range 7).any fun k => !(WK n e k).isEmpty <;> rfl
theorem routes_eq {n : LineNet} (hS : OkS n) {t : Nat} (ht : t < 1024) (e : Int) : line_net_routes ⟨n, waysM n, (t : Int)⟩ e = some (routesF n e t) := by
  unfold line_net_routes
  have hp := p126
  rw [loop_cat0 (fin := some) (fun k => (WK n e k).filter (canW n e t)) 7 (12 ^ 6) (fun i out hi ho => ?_) (fun out => ?_) (fun i hi => Nat.le_trans (List.length_filter_le _ _) (WK_len hS e i))]
  · rfl
  · have hlen := Nat.le_trans (List.length_filter_le (canW n e t) (WK n e i)) (WK_len hS e i)
    have hb1 : line_net_routes_b1 ⟨n, waysM n, (t : Int)⟩ e (out, (i : Int)) = loopU (line_net_routes_b2 ⟨n, waysM n, (t : Int)⟩ e out (i : Int)) (([] : List (List Int)), 0) := by
      unfold line_net_routes_b1
      dsimp only
      rw [show decide ((i : Int) < 7) = true by simp; omega, cond_true]
    rw [hb1, loop_list (fin := fun l => if l.length ≤ lim ∧ ∀ x ∈ l, x.length ≤ lim then (if out.length + (sortL l).length ≤ lim then nxt ((out ++ sortL l), wr ((i : Int) + 1)) else none) else none) (WK n e i) (fun w => if canW n e t w then [w] else []) 1 (fun j o hj ho => ?_) (fun o => ?_) (fun w _ => by split <;> simp), flat_filter]
    · have hx : ∀ x ∈ (WK n e i).filter (canW n e t), x.length ≤ lim := fun x hx => by
        have := (WK_ok hS (List.mem_filter.1 hx).1).len
        unfold lim; omega
      rw [sort_sorted ((WK_pair e i).filter _), if_pos ⟨by unfold lim; omega, hx⟩, if_pos (by unfold lim; omega), wr_succ (by omega)]
    · unfold line_net_routes_b2
      dsimp only
      have hwl := WK_len hS e i
      rw [waysM_get, lt_t hj, cond_true, idx_get hj, bind_s, delay_eq hS (waysM n) ht e (WK_ok hS (List.getElem_mem hj)), bind_s, wr_succ (by omega)]
      dsimp only
      cases canW n e t (WK n e i)[j] with
      | true => rw [cond_true, if_pos (by simp only [List.length_singleton]; unfold lim; omega), if_pos rfl]
      | false => rw [cond_false, if_neg (by simp), List.append_nil]
    · unfold line_net_routes_b2
      dsimp only
      rw [waysM_get, lt_f, cond_false]
  · unfold line_net_routes_b1
    rfl
end Go.Proofs.YthdbokigcfbgeaaDoor.Rt
