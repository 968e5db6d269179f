/- Plain laws of the line seat, part 14: a net without a line. Under the conditions that each names. -/
import Derived.Test.YthdbokigcfbgeaaDoorC8QM
set_option linter.unusedVariables false
set_option linter.unusedSimpArgs false
set_option maxRecDepth 100000
set_option maxHeartbeats 4000000
namespace Go.Proofs.YthdbokigcfbgeaaDoor.Rt
open Go Go.RowKit
theorem pieces_inc (G : Nat → List Int) (hG : ∀ k, G k = [] ∨ G k = [(k : Int)]) : ∀ m, ((List.range m).flatMap G).Pairwise (· < ·) ∧ ∀ x ∈ (List.range m).flatMap G, 0 ≤ x ∧ x < (m : Int)
  | 0 => ⟨List.Pairwise.nil, fun x hx => by cases hx⟩
  | m + 1 => by
    obtain ⟨h1, h2⟩ := pieces_inc G hG m
    rw [List.range_succ, List.flatMap_append, List.flatMap_cons, List.flatMap_nil, List.append_nil]
    rcases hG m with h | h
    · rw [h, List.append_nil]
      exact ⟨h1, fun x hx => by have := h2 x hx; omega⟩
    · rw [h]
      refine ⟨List.pairwise_append.2 ⟨h1, List.pairwise_singleton _ _, fun a ha b hb => ?_⟩, fun x hx => ?_⟩
      · rw [List.mem_singleton.1 hb]; exact (h2 a ha).2
      · rcases List.mem_append.1 hx with hx | hx
        · have := h2 x hx; omega
        · rw [List.mem_singleton.1 hx]; omega
end Go.Proofs.YthdbokigcfbgeaaDoor.Rt
