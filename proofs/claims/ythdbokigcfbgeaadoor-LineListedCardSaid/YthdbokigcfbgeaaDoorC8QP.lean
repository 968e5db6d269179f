/- Plain laws of the line seat, part 16: routes in their order, each line once. Under the conditions that each names. -/
import Derived.Test.YthdbokigcfbgeaaDoorC8QL
import Derived.Test.YthdbokigcfbgeaaDoorC8QN
set_option linter.unusedVariables false
set_option linter.unusedSimpArgs false
set_option maxRecDepth 100000
set_option maxHeartbeats 4000000
namespace Go.Proofs.YthdbokigcfbgeaaDoor.Rt
open Go Go.RowKit
theorem oth_sum {n : LineNet} {a i : _} {t : Int} (h : oth n a i = some t) : ∃ hi : i < n.Lines.length, (n.Lines[i].From = a ∨ n.Lines[i].To = a) ∧ n.Lines[i].From + n.Lines[i].To - a = t := by
  unfold oth at h
  rcases hx : n.Lines[i]? with _ | y
  · rw [hx] at h; cases h
  · obtain ⟨hi, rfl⟩ := List.getElem?_eq_some_iff.1 hx
    rw [hx] at h
    refine ⟨hi, ?_⟩
    simp only [Option.bind_some, othL] at h
    split at h
    · next h1 => injection h with h; exact ⟨.inl h1, by omega⟩
    · split at h
      · next h2 => injection h with h; exact ⟨.inr h2, by omega⟩
      · cases h
theorem trk_not {n : LineNet} {i : Nat} (hi : i < n.Lines.length) : ∀ (w : List Int) (a : Int) (V : List Int) (e : Int), trk n a V w = some e → n.Lines[i].From ∈ V → n.Lines[i].To ∈ V → (i : Int) ∉ w
  | [], _, _, _, _, _, _ => by simp
  | f :: w, a, V, e, h, h1, h2 => by
    simp only [trk] at h
    rcases ho : oth n a f.toNat with _ | t
    · rw [ho] at h; cases h
    · rw [ho] at h
      dsimp only at h
      split at h
      · next hc =>
        have ih := trk_not hi w t (t :: V) e h (by simp [h1]) (by simp [h2])
        intro hm
        rcases List.mem_cons.1 hm with rfl | hm
        · rw [Int.toNat_natCast] at ho
          obtain ⟨_, g1, g2⟩ := oth_sum ho
          rcases g1 with g1 | g1
          · exact hc.2 (by rw [show t = n.Lines[i].To by omega]; exact h2)
          · exact hc.2 (by rw [show t = n.Lines[i].From by omega]; exact h1)
        · exact ih hm
      · cases h
theorem trk_nodup {n : LineNet} : ∀ (w : List Int) (a : Int) (V : List Int) (e : Int), trk n a V w = some e → a ∈ V → w.Nodup
  | [], _, _, _, _, _ => List.nodup_nil
  | f :: w, a, V, e, h, ha => by
    simp only [trk] at h
    rcases ho : oth n a f.toNat with _ | t
    · rw [ho] at h; cases h
    · rw [ho] at h
      dsimp only at h
      split at h
      · next hc =>
        refine List.nodup_cons.2 ⟨?_, trk_nodup w t (t :: V) e h (by simp)⟩
        obtain ⟨hi, g1, g2⟩ := oth_sum ho
        have := trk_not hi w t (t :: V) e h
        rw [Int.toNat_of_nonneg hc.1] at this
        rcases g1 with g1 | g1
        · exact this (by rw [g1]; simp [ha]) (by rw [show n.Lines[f.toNat].To = t by omega]; simp)
        · exact this (by rw [show n.Lines[f.toNat].From = t by omega]; simp) (by rw [g1]; simp [ha])
      · cases h
theorem routes_pair (n : LineNet) (e : Int) (t : Nat) : (routesF n e t).Pairwise fun a b => a.length < b.length ∨ (a.length = b.length ∧ a < b) := by
  unfold routesF
  rw [List.pairwise_flatMap]
  refine ⟨fun k _ => ?_, List.pairwise_lt_range.imp fun hij a ha b hb => ?_⟩
  · refine (List.Pairwise.and_mem.1 ((WK_pair e k).filter _)).imp fun {a b} hab => .inr ⟨?_, hab.2.2⟩
    have h1 := ((mem_WK e k a).1 (List.mem_filter.1 hab.1).1).2.1
    have h2 := ((mem_WK e k b).1 (List.mem_filter.1 hab.2.1).1).2.1
    rw [h1, h2]
  · have h1 := ((mem_WK e _ a).1 (List.mem_filter.1 ha).1).2.1
    have h2 := ((mem_WK e _ b).1 (List.mem_filter.1 hb).1).2.1
    left; omega
theorem mem_surelyF {n : LineNet} {e : Int} {k : Nat} : (k : Int) ∈ surelyF n e ↔ k < n.Lines.length ∧ (routesF n e 0).all (fun w => decide ((k : Int) ∈ w)) = true := by
  unfold surelyF
  rw [List.mem_flatMap]
  constructor
  · rintro ⟨j, hj, h⟩
    split at h
    · next hc =>
      have := List.mem_singleton.1 h
      obtain rfl : k = j := by omega
      exact ⟨List.mem_range.1 hj, hc⟩
    · cases h
  · rintro ⟨h1, h2⟩
    exact ⟨k, List.mem_range.2 h1, by rw [if_pos h2]; simp⟩
theorem surelyF_climb (n : LineNet) (e : Int) : climbB (n.Lines.length : Int) 0 (surelyF n e) = true := by
  rw [climb_iff]
  exact pieces_inc (fun (k : Nat) => if (routesF n e 0).all (fun w => decide ((k : Int) ∈ w)) then [(k : Int)] else []) (fun k => by
    split
    · exact .inr rfl
    · exact .inl rfl) n.Lines.length
theorem surelyF_len {n : LineNet} (hS : OkS n) (e : Int) : (surelyF n e).length ≤ 12 := by
  have := flatM_len (List.range n.Lines.length) (fun (k : Nat) => if (routesF n e 0).all (fun w => decide ((k : Int) ∈ w)) then [(k : Int)] else []) 1 fun k _ => by split <;> simp
  rw [List.length_range] at this
  have := hS.nl
  unfold surelyF; omega
end Go.Proofs.YthdbokigcfbgeaaDoor.Rt
