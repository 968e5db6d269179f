/- Plain laws of the line seat, part 11: delays that can be; lists of ways. Under the conditions that each names. -/
import Derived.Test.YthdbokigcfbgeaaDoorC8QJ
set_option linter.unusedVariables false
set_option linter.unusedSimpArgs false
set_option maxRecDepth 100000
set_option maxHeartbeats 4000000
namespace Go.Proofs.YthdbokigcfbgeaaDoor.Rt
open Go Go.RowKit
theorem bnI (a : Int) : (a != a) = false := by rw [bneI]; exact decide_eq_false fun h => h rfl
theorem beI (a : Int) : (a == a) = true := by rw [beqI]; exact decide_eq_true rfl
theorem work_eq : ((remontoirlaw06_works).bind fun rv => some rv) = some true := by rw [works_eq]; rfl
theorem fin_eq {b : Bool} (hb : b = true) : ((cond b ((remontoirlaw06_works).bind fun rv => some rv) (some false)).bind fun t => some t) = some true := by
  subst hb; rw [cond_true, work_eq]; rfl
structure InSp (n : LineNet) (e : Int) (t : Nat) (w : List Int) (d : Int) : Prop where
  lo : lowF n w ≤ d
  hi : d ≤ highF n w
  lp : ∀ j y, n.Loops[j]? = some y → t.testBit j = false → y.Exchange = e → loL y ≤ d ∧ d ≤ hiL y
theorem lp_iff {n : LineNet} (e : Int) (t : Nat) (s : Int × Int) (d : Int) : ∀ i, i ≤ n.Loops.length → (((lpF n e t i s).1 ≤ d ∧ d ≤ (lpF n e t i s).2) ↔ (s.1 ≤ d ∧ d ≤ s.2) ∧ ∀ j y, j < i → n.Loops[j]? = some y → t.testBit j = false → y.Exchange = e → loL y ≤ d ∧ d ≤ hiL y)
  | 0, _ => ⟨fun h => ⟨h, fun j y hj => by omega⟩, fun h => h.1⟩
  | i + 1, hi => by
    have ih := lp_iff (n := n) e t s d i (by omega)
    rw [lpF, List.getElem?_eq_getElem (by omega)]
    dsimp only
    by_cases hc : t.testBit i = false ∧ n.Loops[i].Exchange = e
    · rw [if_pos hc]
      dsimp only
      have hk : (((if loL n.Loops[i] > (lpF n e t i s).1 then loL n.Loops[i] else (lpF n e t i s).1) ≤ d ∧ d ≤ (if hiL n.Loops[i] < (lpF n e t i s).2 then hiL n.Loops[i] else (lpF n e t i s).2)) ↔ ((lpF n e t i s).1 ≤ d ∧ d ≤ (lpF n e t i s).2) ∧ loL n.Loops[i] ≤ d ∧ d ≤ hiL n.Loops[i]) := by
        constructor
        · rintro ⟨h1, h2⟩
          split at h1 <;> split at h2 <;> omega
        · rintro ⟨⟨h1, h2⟩, h3, h4⟩
          constructor <;> split <;> omega
      rw [hk, ih]
      constructor
      · rintro ⟨⟨h1, h2⟩, h3⟩
        refine ⟨h1, fun j y hj hy ht he => ?_⟩
        by_cases ej : j = i
        · subst ej
          rw [List.getElem?_eq_getElem (by omega)] at hy
          have hy := Option.some.inj hy
          rw [← hy]; exact h3
        · exact h2 j y (by omega) hy ht he
      · rintro ⟨h1, h2⟩
        exact ⟨⟨h1, fun j y hj => h2 j y (by omega)⟩, h2 i _ (by omega) (List.getElem?_eq_getElem (by omega)) hc.1 hc.2⟩
    · rw [if_neg hc, ih]
      constructor
      · rintro ⟨h1, h2⟩
        refine ⟨h1, fun j y hj hy ht he => ?_⟩
        by_cases ej : j = i
        · subst ej
          rw [List.getElem?_eq_getElem (by omega)] at hy
          have hy := Option.some.inj hy
          exact absurd ⟨ht, by rw [hy]; exact he⟩ hc
        · exact h2 j y (by omega) hy ht he
      · rintro ⟨h1, h2⟩
        exact ⟨h1, fun j y hj => h2 j y (by omega)⟩
theorem sp_iff {n : LineNet} (e : Int) (t : Nat) (w : List Int) (d : Int) : ((spF n e t w).Low ≤ d ∧ d ≤ (spF n e t w).High) ↔ InSp n e t w d := by
  unfold spF
  dsimp only
  rw [lp_iff e t _ d _ (Nat.le_refl _)]
  constructor
  · rintro ⟨⟨h1, h2⟩, h3⟩
    exact ⟨h1, h2, fun j y hy => h3 j y (List.getElem?_eq_some_iff.1 hy).1 hy⟩
  · rintro ⟨h1, h2, h3⟩
    exact ⟨⟨h1, h2⟩, fun j y _ hy => h3 j y hy⟩
theorem canW_iff {n : LineNet} (e : Int) (t : Nat) (w : List Int) : canW n e t w = true ↔ ∃ d, InSp n e t w d := by
  unfold canW
  rw [decide_eq_true_eq]
  constructor
  · intro h
    exact ⟨(spF n e t w).Low, (sp_iff e t w _).1 ⟨Int.le_refl _, h⟩⟩
  · rintro ⟨d, h⟩
    have := (sp_iff e t w d).2 h
    omega
theorem anyF_iff {n : LineNet} (e d : Int) : anyF n e d = true ↔ ∃ w ∈ routesF n e 0, InSp n e 0 w d := by
  unfold anyF
  rw [List.any_eq_true]
  constructor
  · rintro ⟨w, hw, h⟩
    exact ⟨w, hw, (sp_iff e 0 w d).1 (inB_iff.1 h)⟩
  · rintro ⟨w, hw, h⟩
    exact ⟨w, hw, inB_iff.2 ((sp_iff e 0 w d).2 h)⟩
theorem errF_good {n : LineNet} (hS : OkS n) {e : Int} (h0 : 0 ≤ e) (h1 : e < n.Exchanges) : (errF n e = 0 ∧ routesF n e 0 ≠ []) ∨ (errF n e = 62 ∧ routesF n e 0 = [] ∧ allF n e ≠ []) ∨ (errF n e = 4 ∧ allF n e = [] ∧ routesF n e 0 = []) := by
  unfold errF
  rw [if_pos hS.good, if_pos (inB_iff.2 ⟨h0, by omega⟩)]
  cases hr : reachB n e with
  | true =>
    have := (reachB_iff n e).1 hr
    rw [if_pos rfl]
    cases hx : routesF n e 0 with
    | nil => exact .inr (.inl ⟨rfl, rfl, this⟩)
    | cons a l => exact .inl ⟨rfl, by simp⟩
  | false =>
    have : allF n e = [] := by
      by_cases ha : allF n e = []
      · exact ha
      · rw [(reachB_iff n e).2 ha] at hr; cases hr
    rw [if_neg (by simp)]
    exact .inr (.inr ⟨rfl, this, by rw [routesF_all, this]; rfl⟩)
theorem errF_zero {n : LineNet} (hS : OkS n) {e : Int} (h0 : 0 ≤ e) (h1 : e < n.Exchanges) (h : routesF n e 0 ≠ []) : errF n e = 0 := by
  rcases errF_good hS h0 h1 with ⟨g, _⟩ | ⟨_, g, _⟩ | ⟨_, _, g⟩
  · exact g
  · exact absurd g h
  · exact absurd g h
end Go.Proofs.YthdbokigcfbgeaaDoor.Rt
