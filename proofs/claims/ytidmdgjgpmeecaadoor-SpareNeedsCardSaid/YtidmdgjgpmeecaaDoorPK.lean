/- Plain laws of the spare seat: a plan within its bounds. Under the conditions that each names. -/
import Derived.Test.YtidmdgjgpmeecaaDoorPJ
set_option linter.unusedVariables false
set_option linter.unusedSimpArgs false
set_option maxRecDepth 100000
set_option maxHeartbeats 4000000
namespace Go.Proofs.YtidmdgjgpmeecaaDoor.Rt
open Go Go.RowKit


theorem IsPlan.len {s : SpareStore} (hs : OkS s) {l : List SpareTurn} (h : IsPlan s l s.Hours) : l.length ≤ s.Machines.length ∧ l.length ≤ 8 := by
  have h1 := usedN_pop hs h l.length (Nat.le_refl _)
  have h2 := usedN_sets hs h (Nat.le_refl _)
  have h3 := dec_popn s.Machines.length (by have := hs.n2; omega) _ h2
  have := hs.n2
  omega
theorem IsPlan.bounds {s : SpareStore} (hs : OkS s) {l : List SpareTurn} (h : IsPlan s l s.Hours) {i : Nat} (hi : i < l.length) : -500 ≤ (tk l i).Start ∧ (tk l i).Start ≤ 500 ∧ 0 ≤ (tk l i).Over ∧ (tk l i).Over < s.Hours := by
  have h1 := start_bd hs h hi
  have h2 := h.grow.bd hi
  have := hs.h2
  omega
theorem tk_mem {l : List SpareTurn} {t : SpareTurn} (h : t ∈ l) : ∃ i, i < l.length ∧ t = tk l i := by
  obtain ⟨i, hi, e⟩ := List.getElem_of_mem h
  exact ⟨i, hi, by simp [tk, List.getD, hi, e]⟩
theorem IsPlan.ok {s : SpareStore} (hs : OkS s) {l : List SpareTurn} (h : IsPlan s l s.Hours) : OkL Ok_SpareTurn l := by
  have hl := h.len hs
  refine ⟨by omega, fun t ht => ?_⟩
  obtain ⟨i, hi, rfl⟩ := tk_mem ht
  have t := h.2 i hi
  have b := h.bounds hs hi
  have := t.m1; have := t.m2; have := hs.h2; have := hs.n2
  exact ⟨inr_small (by omega) (by omega), inr_small (by omega) (by omega), inr_small (by omega) (by omega)⟩
/-- who speaks has begun, and the next one has not -/
theorem speak_until {s : SpareStore} (hs : OkS s) {l : List SpareTurn} (h : IsPlan s l s.Hours) {x : Nat} (hx : (x : Int) < s.Hours) : speakF l x l.length < l.length ∧ (tk l (speakF l x l.length)).Over ≤ (x : Int) ∧ (x : Int) < untilF l s.Hours (speakF l x l.length) := by
  have h1 := speak_lt l x l.length h.1
  obtain ⟨a, b⟩ := speak_spec h.grow (h := (x : Int)) (by omega) l.length h.1 (Nat.le_refl _)
  refine ⟨h1, a, ?_⟩
  unfold untilF
  split
  · exact b _ (by omega) (by omega)
  · exact hx
theorem livesB_of {l : List SpareTurn} {lives : List Int} (h1 : lives.length = l.length) (h2 : ∀ i < lives.length, 0 ≤ lifeF lives i ∧ lifeF lives i ≤ 500) : livesB l lives = true := by
  simp only [livesB, Bool.and_eq_true, decide_eq_true_eq, List.all_eq_true]
  refine ⟨h1, fun n hn => ?_⟩
  obtain ⟨i, hi, rfl⟩ := List.getElem_of_mem hn
  have := h2 i hi
  simp only [lifeF, List.getD_eq_getElem?_getD, List.getElem?_eq_getElem hi, Option.getD_some] at this
  simp only [inB, Bool.and_eq_true, decide_eq_true_eq]; omega
theorem lifeF_snoc {lives : List Int} {v : Int} {i : Nat} : lifeF (lives ++ [v]) i = if i < lives.length then lifeF lives i else if i = lives.length then v else 0 := by
  unfold lifeF
  simp only [List.getD_eq_getElem?_getD]
  by_cases h : i < lives.length
  · rw [if_pos h, List.getElem?_append_left h]
  · rw [if_neg h, List.getElem?_append_right (by omega)]
    by_cases e : i = lives.length
    · rw [if_pos e, e, Nat.sub_self]; rfl
    · rw [if_neg e]
      have : i - lives.length = (i - lives.length - 1) + 1 := by omega
      rw [this]; rfl
theorem silent_good {s : SpareStore} (hs : OkS s) {l : List SpareTurn} (h : IsPlan s l s.Hours) {lives : List Int} (hl : livesB l lives = true) : silentF s l lives = (silentN l lives s.Hours.toNat, 0) := by
  unfold silentF
  rw [hs.good, if_pos rfl, (plan_iff _ _ _).2 h, hl]; rfl
/-- the bits of the machines that had their turn -/
theorem used_or {s : SpareStore} (hs : OkS s) {l : List SpareTurn} {hours : Int} (h : IsPlan s l hours) {i : Nat} (hi : i < l.length) :
    inSetB (usedN l i : Int) (tk l i).Machine = false ∧ bitsOp .or (usedN l i : Int) (gshl 1 (tk l i).Machine) = (usedN l (i + 1) : Int) := by
  have t := h.2 i hi
  have hn := hs.n2
  have h1 := t.m1; have h2 := t.m2
  obtain ⟨m, hm⟩ := Int.eq_ofNat_of_zero_le h1
  obtain ⟨u1, u2⟩ := h.used hs (i := i) (by omega)
  have hb : (usedN l i).testBit m = false := by
    refine Bool.eq_false_iff.2 fun hb => ?_
    obtain ⟨j, hj, e⟩ := (u2 m (by omega)).1 hb
    have t2 := (h.2 j (by omega)).m1
    exact t.fresh j hj (by omega)
  constructor
  · rw [hm, inS u1 (by omega)]; exact hb
  · rw [hm, dec_or _ u1 m (by omega), hb]
    show ((usedN l i + 2 ^ m : Nat) : Int) = ((usedN l i + 2 ^ (tk l i).Machine.toNat : Nat) : Int)
    rw [hm]; rfl
end Go.Proofs.YtidmdgjgpmeecaaDoor.Rt
