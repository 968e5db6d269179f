/- Plain laws of the line seat, part 14: a net without a line. Under the conditions that each names. -/
import Derived.Test.YthdbokigcfbgeaaDoorC11QM
set_option linter.unusedVariables false
set_option linter.unusedSimpArgs false
set_option maxRecDepth 100000
set_option maxHeartbeats 4000000
namespace Go.Proofs.YthdbokigcfbgeaaDoor.Rt
open Go Go.RowKit
def cutN (n : LineNet) (c : Nat) : LineNet := ⟨n.Exchanges, n.Lines.take c ++ n.Lines.drop (c + 1), n.Hops, n.Loops⟩
def psi (c j : Nat) : Nat := if j < c then j else j + 1
def phi (c : Nat) (i : Int) : Int := if i < (c : Int) then i else i - 1
theorem phi_psi (c j : Nat) : phi c (psi c j : Int) = (j : Int) := by
  unfold phi psi
  split <;> split <;> omega
theorem cut_get (n : LineNet) (c j : Nat) : (cutN n c).Lines[j]? = n.Lines[psi c j]? := by
  show (n.Lines.take c ++ n.Lines.drop (c + 1))[j]? = _
  rw [← List.eraseIdx_eq_take_drop_succ, List.getElem?_eraseIdx]
  unfold psi
  split <;> rfl
theorem cut_oth (n : LineNet) (c : Nat) (at_ : Int) (j : Nat) : oth (cutN n c) at_ j = oth n at_ (psi c j) := by unfold oth; rw [cut_get]
theorem cut_len {n : LineNet} {c : Nat} (hc : c < n.Lines.length) : (cutN n c).Lines.length = n.Lines.length - 1 := by
  show (n.Lines.take c ++ n.Lines.drop (c + 1)).length = _
  rw [List.length_append, List.length_take, List.length_drop]; omega
theorem reindex {α : Type} (G : Nat → List α) {c L : Nat} (hc : c < L) (h : G c = []) : (List.range L).flatMap G = (List.range (L - 1)).flatMap fun j => G (psi c j) := by
  have e1 : List.range L = List.range c ++ (c :: (List.range (L - 1 - c)).map (c + 1 + ·)) := by
    have : List.range L = List.range (c + (1 + (L - 1 - c))) := by congr 1; omega
    rw [this, List.range_add, List.range_add]
    simp only [List.map_append, List.map_map]
    congr 1
    rw [show List.map (fun x => c + x) (List.range 1) = [c] from rfl, List.singleton_append]
    congr 1
    apply List.map_congr_left
    intro a _
    simp only [Function.comp]; omega
  have e2 : List.range (L - 1) = List.range c ++ (List.range (L - 1 - c)).map (c + ·) := by
    have : List.range (L - 1) = List.range (c + (L - 1 - c)) := by congr 1; omega
    rw [this, List.range_add]
  rw [e1, e2, List.flatMap_append, List.flatMap_append, List.flatMap_cons, h, List.nil_append]
  congr 1
  · refine flat_congr fun j hj => ?_
    unfold psi
    rw [if_pos (List.mem_range.1 hj)]
  · rw [List.flatMap_map, List.flatMap_map]
    refine flat_congr fun j _ => ?_
    unfold psi
    rw [if_neg (by omega)]
    congr 1; omega
def offC (c : Nat) (w : List Int) : Bool := decide ((c : Int) ∉ w)
theorem offC_cons {c i : Nat} (h : i ≠ c) (w : List Int) : offC c ((i : Int) :: w) = offC c w := by
  unfold offC
  rw [Bool.eq_iff_iff, decide_eq_true_eq, decide_eq_true_eq, List.mem_cons]
  constructor
  · intro g h2; exact g (.inr h2)
  · rintro g (h2 | h2)
    · omega
    · exact g h2
theorem psi_ne (c j : Nat) : psi c j ≠ c := by unfold psi; split <;> omega
theorem cut_ways {n : LineNet} {c : Nat} (hc : c < n.Lines.length) : ∀ (m : Nat) (at_ : Int) (V : List Int), waysS (cutN n c) m at_ V = ((waysS n m at_ V).filter fun q => offC c q.1).map fun q => (q.1.map (phi c), q.2)
  | 0, at_, V => by simp [waysS, offC]
  | m + 1, at_, V => by
    rw [waysS_succ, waysS_succ, List.filter_flatMap, List.map_flatMap, reindex _ hc, cut_len hc]
    · refine flat_congr fun j _ => ?_
      unfold stepW
      rw [cut_oth]
      rcases oth n at_ (psi c j) with _ | t
      · rfl
      · dsimp only
        split
        · rfl
        · rw [cut_ways hc m t (t :: V), List.filter_map, List.map_map, List.map_map]
          have e : (fun q : List Int × Int => offC c q.1) ∘ (fun q : List Int × Int => (((psi c j : Nat) : Int) :: q.1, q.2)) = fun q => offC c q.1 := by
            funext q
            exact offC_cons (psi_ne c j) q.1
          rw [e]
          apply List.map_congr_left
          intro q _
          simp only [Function.comp, List.map_cons, phi_psi]
    · have : (stepW n m at_ V c).filter (fun q => offC c q.1) = [] := by
        rw [List.filter_eq_nil_iff]
        intro q hq
        unfold stepW at hq
        split at hq
        · cases hq
        · split at hq
          · cases hq
          · obtain ⟨q0, _, rfl⟩ := List.mem_map.1 hq
            simp [offC]
      rw [this]; rfl
theorem cut_WK {n : LineNet} {c : Nat} (hc : c < n.Lines.length) (e : Int) (k : Nat) : WK (cutN n c) e k = ((WK n e k).filter (offC c)).map (List.map (phi c)) := by
  unfold WK
  show (if k ≤ n.Hops.toNat then _ else _) = _
  split
  · unfold toF
    rw [cut_ways hc, List.filter_map, List.map_map, List.filter_map, List.map_map, List.filter_filter, List.filter_filter]
    have e1 : (List.filter (fun a => ((fun q : List Int × Int => decide (q.2 = e)) ∘ fun q : List Int × Int => (List.map (phi c) q.1, q.2)) a && offC c a.1) (waysS n k 0 [0])) = List.filter (fun a => ((offC c) ∘ fun q : List Int × Int => [] ++ q.1) a && decide (a.2 = e)) (waysS n k 0 [0]) := by
      apply List.filter_congr
      intro q _
      simp only [Function.comp, List.nil_append]
      rw [Bool.and_comm]
    rw [e1]
    apply List.map_congr_left
    intro q _
    simp only [Function.comp, List.nil_append]
  · rfl
theorem cut_all {n : LineNet} {c : Nat} (hc : c < n.Lines.length) (e : Int) : allF (cutN n c) e = ((allF n e).filter (offC c)).map (List.map (phi c)) := by
  unfold allF
  rw [List.filter_flatMap, List.map_flatMap]
  exact flat_congr fun k _ => cut_WK hc e k
theorem lp_congr {n x : LineNet} (h : x.Loops = n.Loops) (e : Int) (t : Nat) (s : Int × Int) : ∀ i, lpF x e t i s = lpF n e t i s
  | 0 => rfl
  | i + 1 => by rw [lpF, lpF, lp_congr h e t s i, h]
theorem cut_delay {n : LineNet} {c i : Nat} (h : i ≠ c) : delayAt (cutN n c) (phi c (i : Int)) = delayAt n (i : Int) := by
  unfold delayAt
  rw [cut_get, Int.toNat_natCast]
  congr 2
  unfold phi psi
  have : (if (i : Int) < (c : Int) then (i : Int) else (i : Int) - 1).toNat = if i < c then i else i - 1 := by split <;> split <;> omega
  rw [this]
  by_cases h1 : i < c
  · rw [if_pos h1, if_pos h1]
  · rw [if_neg h1, if_neg (by omega)]
    congr 1; omega
theorem cut_sums {n : LineNet} {c : Nat} : ∀ (w : List Int), (∀ e ∈ w, ∃ k : Nat, e = (k : Int) ∧ k < n.Lines.length) → (c : Int) ∉ w → lowF (cutN n c) (w.map (phi c)) = lowF n w ∧ highF (cutN n c) (w.map (phi c)) = highF n w
  | [], _, _ => ⟨rfl, rfl⟩
  | a :: w, h, hc => by
    obtain ⟨k, rfl, _⟩ := h a (by simp)
    have h1 := cut_sums (c := c) w (fun y hy => h y (by simp [hy])) fun g => hc (by simp [g])
    have h2 := cut_delay (n := n) (c := c) (i := k) (by rintro rfl; exact hc (by simp))
    unfold lowF highF at *
    simp only [List.map_cons, List.sum_cons, h2, h1.1, h1.2, and_self]
theorem cut_can {n : LineNet} {c : Nat} {e : Int} {t : Nat} {w : List Int} (hw : WOk n w) (hc : (c : Int) ∉ w) : canW (cutN n c) e t (w.map (phi c)) = canW n e t w := by
  unfold canW spF
  obtain ⟨h1, h2⟩ := cut_sums w hw.is hc
  rw [h1, h2, lp_congr (n := n) (x := cutN n c) rfl]
  rfl
theorem cut_routes {n : LineNet} (hS : OkS n) {c : Nat} (hc : c < n.Lines.length) (e : Int) : routesF (cutN n c) e 0 = ((routesF n e 0).filter (offC c)).map (List.map (phi c)) := by
  rw [routesF_all, routesF_all, cut_all hc, List.filter_map, List.filter_filter, List.filter_filter]
  congr 1
  apply List.filter_congr
  intro w hw
  simp only [Function.comp]
  rw [Bool.and_comm (offC c w)]
  cases ho : offC c w with
  | false => rw [Bool.and_false, Bool.and_false]
  | true =>
    rw [cut_can (all_ok hS hw) (by unfold offC at ho; simpa using ho), Bool.and_true]
theorem cnt_off (l : List (List Int)) (c : Nat) : cntF l (c : Int) + (l.filter (offC c)).length = l.length := by
  unfold cntF
  induction l with
  | nil => rfl
  | cons w l ih =>
    by_cases h : (c : Int) ∈ w
    · rw [List.filter_cons_of_pos (by simpa using h), List.filter_cons_of_neg (by simpa [offC] using h), List.length_cons, List.length_cons]; omega
    · rw [List.filter_cons_of_neg (by simpa using h), List.filter_cons_of_pos (by simpa [offC] using h), List.length_cons, List.length_cons]; omega
theorem cut_count {n : LineNet} (hS : OkS n) {c : Nat} (hc : c < n.Lines.length) (e : Int) : cntF (routesF n e 0) (c : Int) + (routesF (cutN n c) e 0).length = (routesF n e 0).length := by
  rw [cut_routes hS hc, List.length_map]
  exact cnt_off _ _
theorem cut_ok {n : LineNet} (hS : OkS n) {c : Nat} (hc : c < n.Lines.length) : OkS (cutN n c) :=
  ⟨hS.e1, hS.e2, by rw [cut_len hc]; have := hS.nl; omega, hS.h1, hS.h2, hS.no, fun y hy => by
    rcases List.mem_append.1 (show y ∈ n.Lines.take c ++ n.Lines.drop (c + 1) from hy) with hy | hy
    · exact hS.l y (List.mem_of_mem_take hy)
    · exact hS.l y (List.mem_of_mem_drop hy), hS.o⟩
theorem mem_sureC {n : LineNet} {line : Int} {m k : Nat} : (k : Int) ∈ surelyC n line m ↔ k < m ∧ cntF (routesF n (k : Int) 0) line ≠ 0 ∧ cntF (routesF n (k : Int) 0) line = (routesF n (k : Int) 0).length := by
  unfold surelyC
  rw [List.mem_flatMap]
  constructor
  · rintro ⟨j, hj, h⟩
    unfold sureC at h
    split at h
    · cases h
    · next h0 =>
      split at h
      · next h1 =>
        have := List.mem_singleton.1 h
        obtain rfl : k = j := by omega
        exact ⟨List.mem_range.1 hj, h0, h1⟩
      · cases h
  · rintro ⟨h1, h2, h3⟩
    refine ⟨k, List.mem_range.2 h1, ?_⟩
    unfold sureC
    rw [if_neg h2, if_pos h3]; simp
theorem mem_mayC {n : LineNet} {line : Int} {m k : Nat} : (k : Int) ∈ mayCs n line m ↔ k < m ∧ cntF (routesF n (k : Int) 0) line ≠ 0 ∧ cntF (routesF n (k : Int) 0) line ≠ (routesF n (k : Int) 0).length := by
  unfold mayCs
  rw [List.mem_flatMap]
  constructor
  · rintro ⟨j, hj, h⟩
    unfold mayC at h
    split at h
    · cases h
    · next h0 =>
      split at h
      · cases h
      · next h1 =>
        have := List.mem_singleton.1 h
        obtain rfl : k = j := by omega
        exact ⟨List.mem_range.1 hj, h0, h1⟩
  · rintro ⟨h1, h2, h3⟩
    refine ⟨k, List.mem_range.2 h1, ?_⟩
    unfold mayC
    rw [if_neg h2, if_neg h3]; simp
theorem pieces_inc (G : Nat → List Int) (hG : ∀ k, G k = [] ∨ G k = [(k : Int)]) : ∀ m, ((List.range m).flatMap G).Pairwise (· < ·) ∧ ∀ x ∈ (List.range m).flatMap G, 0 ≤ x ∧ x < (m : Int)
  | 0 => ⟨List.Pairwise.nil, fun x hx => by cases hx⟩
  | m + 1 => by
    obtain ⟨h1, h2⟩ := pieces_inc G hG m
    rw [List.range_succ, List.flatMap_append, List.flatMap_cons, List.flatMap_nil, List.append_nil]
    rcases hG m with h | h
    · rw [h, List.append_nil]
      exact ⟨h1, fun x hx => by have := h2 x hx; omega⟩
    · rw [h]
      refine ⟨List.pairwise_append.2 ⟨h1, List.pairwise_singleton _ _, fun a ha b hb => ?_⟩, fun x hx => ?_⟩
      · rw [List.mem_singleton.1 hb]; exact (h2 a ha).2
      · rcases List.mem_append.1 hx with hx | hx
        · have := h2 x hx; omega
        · rw [List.mem_singleton.1 hx]; omega
theorem sureC_climb (n : LineNet) (line : Int) (m : Nat) : climbB (m : Int) 0 (surelyC n line m) = true := by
  rw [climb_iff]
  exact pieces_inc (sureC n line) (fun k => by
    unfold sureC
    split
    · exact .inl rfl
    · split
      · exact .inr rfl
      · exact .inl rfl) m
theorem mayC_climb (n : LineNet) (line : Int) (m : Nat) : climbB (m : Int) 0 (mayCs n line m) = true := by
  rw [climb_iff]
  exact pieces_inc (mayC n line) (fun k => by
    unfold mayC
    split
    · exact .inl rfl
    · split
      · exact .inl rfl
      · exact .inr rfl) m
end Go.Proofs.YthdbokigcfbgeaaDoor.Rt
