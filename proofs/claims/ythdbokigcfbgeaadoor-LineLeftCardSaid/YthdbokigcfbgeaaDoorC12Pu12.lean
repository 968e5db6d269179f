/- What the pure function of a law comes to. Under no conditions. -/
import Derived.Test.YthdbokigcfbgeaaDoorC12L12
import Derived.Test.YthdbokigcfbgeaaDoorC12QM
set_option linter.unusedVariables false
set_option linter.unusedSimpArgs false
set_option maxRecDepth 100000
set_option maxHeartbeats 4000000
namespace Go.Proofs.YthdbokigcfbgeaaDoor.Rt
open Go Go.RowKit
theorem listT_none : ∀ m, listT 0 m = []
  | 0 => rfl
  | m + 1 => by rw [listT, listT_none m]; simp
theorem pure_12 (n : LineNet) (set : Int) (h : Ok_LineNet n) (_ : InR set) : remontoirlaw06_LineLeft n set = some true := by
  unfold remontoirlaw06_LineLeft
  obtain ⟨r, er, hW⟩ := Wrong_eq h
  rw [er, bind_s, sound_eq n h, bind_s]
  cases hg : goodB n with
  | false =>
    rw [hW.bad hg]
    exact fin_eq rfl
  | true =>
    have hS := OkS.of hg
    have hno := hS.no
    obtain ⟨h0, hL⟩ := hW.good hg
    obtain ⟨S, c⟩ := r
    simp only at h0 hL
    subst h0
    obtain ⟨t, ht, eS, hok⟩ := hL.is
    have hll := listT_len t n.Loops.length
    have hpow : 2 ^ n.Loops.length ≤ 2 ^ 10 := Nat.pow_le_pow_right (by decide) hno
    have hp : 0 < 2 ^ n.Loops.length := Nat.pow_pos (by decide)
    have hcl : climbB (n.Loops.length : Int) 0 S = true := by
      rw [climb_iff, eS]
      exact ⟨listT_inc t _, fun k hk => by
        obtain ⟨j, rfl, hj, _⟩ := (mem_listT t _ k).1 hk
        omega⟩
    have hemp : ((S.length : Int) == 0) = okT n 0 := by
      rw [Bool.eq_iff_iff, beqI, decide_eq_true_eq]
      constructor
      · intro hz
        refine okT_bits hS (fun i hi => ?_) hok
        rw [Nat.zero_testBit]
        cases hb : t.testBit i with
        | false => rfl
        | true =>
          have : (i : Int) ∈ S := by rw [eS]; exact (mem_listT t _ _).2 ⟨i, rfl, hi, hb⟩
          have hz2 : S = [] := List.eq_nil_of_length_eq_zero (by omega)
          rw [hz2] at this; cases this
      · intro hz
        have := hL.le 0 hp hz
        rw [listT_none] at this
        rcases this with h | ⟨h, _⟩
        · simp at h
        · simp only [List.length_nil] at h; omega
    have hSl : S.length ≤ 10 := by rw [eS]; omega
    rw [Bool.not_true, cond_false]
    dsimp only
    rw [show ((0 : Int) != 0) = false from rfl, cond_false, Climbs_eq (by omega) (by omega) (by omega), bind_s, hcl, Bool.not_true, bind_s, cond_false, holds_eq hS, bind_s, hemp]
    rw [show (okT n 0 != okT n 0) = false by cases okT n 0 <;> rfl, bind_s, cond_false, eS, without_eq hS, bind_s, holds_eq (without_ok hS t), bind_s, without_okT hS, hok, Bool.not_true, bind_s, cond_false, if_pos (by omega), shl13 _ (by omega)]
    obtain ⟨u, eu, hu⟩ := rest_nat set (m := 2 ^ n.Loops.length) hp (by omega)
    rw [eu, bind_s, List_eq (by omega) (by omega), bind_s, ← eS]
    have hlu := listT_len u n.Loops.length
    have hrest : ¬ leS S (listT u n.Loops.length) → ((remontoirlaw06_without n (listT u n.Loops.length)).bind fun rv_11 => (remontoirlaw06_holds rv_11).bind fun rv_12 => (cond (!rv_12) ((remontoirlaw06_works).bind fun rv_13 => some rv_13) (some false)).bind fun t_6 => some t_6) = some true := by
      intro hn
      rw [without_eq hS, bind_s, holds_eq (without_ok hS u), bind_s, without_okT hS]
      refine fin_eq ?_
      cases hk : okT n u with
      | false => rfl
      | true => exact absurd (hL.le u hu hk) hn
    generalize hT : listT u n.Loops.length = T at hlu hrest
    by_cases c1 : S.length < T.length
    · rw [decide_eq_true (show (T.length : Int) > (S.length : Int) by omega), cond_true, bind_s, cond_true]
      exact work_eq
    · rw [decide_eq_false (show ¬ (T.length : Int) > (S.length : Int) by omega), cond_false, beqI]
      by_cases c2 : T.length = S.length
      · rw [decide_eq_true (show (T.length : Int) = (S.length : Int) by omega), cond_true, Ahead_eq T S c2 (by omega), bind_s, bind_s, bind_s]
        cases hlx : lexB T S with
        | false => rw [Bool.not_false, cond_true]; exact work_eq
        | true =>
          rw [Bool.not_true, cond_false]
          refine hrest ?_
          rintro (g | ⟨_, g | g⟩)
          · omega
          · rw [g, lex_irr] at hlx; cases hlx
          · exact lex_asym g hlx
      · rw [decide_eq_false (show ¬ (T.length : Int) = (S.length : Int) by omega), cond_false, bind_s, bind_s, cond_false]
        refine hrest ?_
        rintro (g | ⟨g, _⟩)
        · omega
        · omega
end Go.Proofs.YthdbokigcfbgeaaDoor.Rt
