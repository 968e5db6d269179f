/- Plain laws of the line seat, part 13: wider nets, nets without loops. Under the conditions that each names. -/
import Derived.Test.YthdbokigcfbgeaaDoorC12QK
set_option linter.unusedVariables false
set_option linter.unusedSimpArgs false
set_option maxRecDepth 100000
set_option maxHeartbeats 4000000
namespace Go.Proofs.YthdbokigcfbgeaaDoor.Rt
open Go Go.RowKit
theorem DelayF_err (n : LineNet) (e : Int) : (DelayF n e).2 = errF n e := by
  unfold DelayF
  by_cases h : errF n e = 0
  · rw [if_pos h, h]
  · rw [if_neg h]
structure Wid (n x : LineNet) : Prop where
  ex : x.Exchanges = n.Exchanges
  hp : n.Hops ≤ x.Hops
  tr : ∀ w e, trk n 0 [0] w = some e → trk x 0 [0] w = some e
  sp : ∀ e w d, trk n 0 [0] w = some e → InSp n e 0 w d → InSp x e 0 w d
theorem Wid.routes {n x : LineNet} (h : Wid n x) (hn : OkS n) (hx : OkS x) {e : Int} {w : List Int} (hw : w ∈ routesF n e 0) : w ∈ routesF x e 0 := by
  obtain ⟨h1, h2, h3⟩ := (mem_routesF hn e 0 w).1 hw
  obtain ⟨d, h4⟩ := (canW_iff e 0 w).1 h3
  exact (mem_routesF hx e 0 w).2 ⟨by have := h.hp; omega, h.tr w e h2, (canW_iff e 0 w).2 ⟨d, h.sp e w d h2 h4⟩⟩
theorem Wid.any {n x : LineNet} (h : Wid n x) (hn : OkS n) (hx : OkS x) {e d : Int} (ha : anyF n e d = true) : anyF x e d = true := by
  obtain ⟨w, hw, h1⟩ := (anyF_iff e d).1 ha
  exact (anyF_iff e d).2 ⟨w, h.routes hn hx hw, h.sp e w d ((mem_routesF hn e 0 w).1 hw).2.1 h1⟩
theorem Wid.err {n x : LineNet} (h : Wid n x) (hx : OkS x) {e : Int} (he : errF n e = 0) : errF x e = 0 := by
  obtain ⟨hn, hi, _, hne⟩ := errF_ok he
  obtain ⟨h0, h1⟩ := inB_iff.1 hi
  cases hr : routesF n e 0 with
  | nil => exact absurd hr hne
  | cons w l =>
    have hw := h.routes hn hx (e := e) (w := w) (by rw [hr]; simp)
    exact errF_zero hx h0 (by rw [h.ex]; omega) fun g => by rw [g] at hw; cases hw
theorem inSp_bits {n : LineNet} {t u : Nat} (h : ∀ i, i < n.Loops.length → t.testBit i = u.testBit i) {e : Int} {w : List Int} {d : Int} (hi : InSp n e t w d) : InSp n e u w d :=
  ⟨hi.lo, hi.hi, fun j y hy hb he => hi.lp j y hy (by rw [h j (List.getElem?_eq_some_iff.1 hy).1]; exact hb) he⟩
theorem okT_bits {n : LineNet} (hS : OkS n) {t u : Nat} (h : ∀ i, i < n.Loops.length → t.testBit i = u.testBit i) (ht : okT n t = true) : okT n u = true := by
  rw [okT_iff] at ht ⊢
  intro i hi hb g
  have := ht i hi (by rw [h i hi]; exact hb)
  cases hr : routesF n (loopE n i) t with
  | nil => exact this hr
  | cons w l =>
    obtain ⟨h1, h2, h3⟩ := (mem_routesF hS _ _ w).1 (show w ∈ routesF n (loopE n i) t by rw [hr]; simp)
    obtain ⟨d, h4⟩ := (canW_iff _ _ w).1 h3
    have : w ∈ routesF n (loopE n i) u := (mem_routesF hS _ _ w).2 ⟨h1, h2, (canW_iff _ _ w).2 ⟨d, inSp_bits h h4⟩⟩
    rw [g] at this; cases this
def loopD (n : LineNet) (i : Nat) : LineLoop := (n.Loops[i]?).getD ⟨0, ⟨0, 0⟩⟩
theorem loopD_get {n : LineNet} {i : Nat} (hi : i < n.Loops.length) : loopD n i = n.Loops[i] := by unfold loopD; rw [List.getElem?_eq_getElem hi]; rfl
def keptT (n : LineNet) (t : Nat) : Nat → List LineLoop
  | 0 => []
  | i + 1 => if t.testBit i then keptT n t i else keptT n t i ++ [loopD n i]
theorem keptT_len (n : LineNet) (t : Nat) : ∀ i, (keptT n t i).length ≤ i
  | 0 => Nat.le_refl _
  | i + 1 => by
    have := keptT_len n t i
    rw [keptT]; split
    · omega
    · rw [List.length_append, List.length_singleton]; omega
theorem mem_keptT {n : LineNet} {t : Nat} : ∀ i (y : LineLoop), y ∈ keptT n t i ↔ ∃ j, j < i ∧ t.testBit j = false ∧ y = loopD n j
  | 0, y => by simp [keptT]
  | i + 1, y => by
    rw [keptT]
    constructor
    · intro h
      split at h
      · obtain ⟨j, h1, h2⟩ := (mem_keptT i y).1 h
        exact ⟨j, by omega, h2⟩
      · next hb =>
        rcases List.mem_append.1 h with h | h
        · obtain ⟨j, h1, h2⟩ := (mem_keptT i y).1 h
          exact ⟨j, by omega, h2⟩
        · exact ⟨i, by omega, by simpa using hb, List.mem_singleton.1 h⟩
    · rintro ⟨j, h1, h2, h3⟩
      by_cases e : j = i
      · subst e
        rw [if_neg (by rw [h2]; simp), h3]; simp
      · have := (mem_keptT i y).2 ⟨j, by omega, h2, h3⟩
        split
        · exact this
        · exact List.mem_append_left _ this
def withoutF (n : LineNet) (t : Nat) : LineNet := ⟨n.Exchanges, n.Lines, n.Hops, keptT n t n.Loops.length⟩
theorem without_eq {n : LineNet} (hS : OkS n) (t : Nat) : remontoirlaw06_without n (listT t n.Loops.length) = some (withoutF n t) := by
  unfold remontoirlaw06_without
  have hno := hS.no
  have hll := listT_len t n.Loops.length
  refine loopU_for (fun i (s : Int × List LineLoop) => s = ((i : Int), keptT n t i)) n.Loops.length (Post := fun o => o = some (withoutF n t)) rfl ?_ ?_
  · rintro i _ hi rfl
    have hk := keptT_len n t i
    refine ⟨(((i + 1 : Nat) : Int), keptT n t (i + 1)), ?_, rfl⟩
    unfold remontoirlaw06_without_b1
    dsimp only
    obtain ⟨r, e1, e2⟩ := find_neg (listT t n.Loops.length) (i : Int) (by omega)
    have hm : ((i : Int) ∈ listT t n.Loops.length) ↔ t.testBit i = true := by
      rw [mem_listT]
      constructor
      · rintro ⟨k, h1, _, h3⟩
        obtain rfl : k = i := by omega
        exact h3
      · intro h; exact ⟨i, rfl, hi, h⟩
    rw [lt_t hi, cond_true, e1, bind_s, e2, wr_succ (by omega), keptT]
    cases hb : t.testBit i with
    | true => rw [decide_eq_true (hm.2 hb), if_pos rfl]; rfl
    | false =>
      rw [decide_eq_false (fun g => by rw [hm.1 g] at hb; cases hb), if_neg (by simp), Bool.not_false, cond_true, idx_get hi, bind_s, if_pos (by simp only [List.length_singleton]; unfold lim; omega), loopD_get hi]
  · rintro _ rfl
    refine ⟨_, ?_, rfl⟩
    unfold remontoirlaw06_without_b1
    dsimp only
    rw [lt_f, cond_false]; rfl
theorem without_ok {n : LineNet} (hS : OkS n) (t : Nat) : OkS (withoutF n t) :=
  ⟨hS.e1, hS.e2, hS.nl, hS.h1, hS.h2, by have := keptT_len n t n.Loops.length; have := hS.no; show (keptT n t n.Loops.length).length ≤ 10; omega, hS.l, fun y hy => by
    obtain ⟨j, hj, _, rfl⟩ := (mem_keptT _ y).1 hy
    rw [loopD_get hj]; exact hS.o _ (List.getElem_mem hj)⟩
theorem without_sp {n : LineNet} {t : Nat} {e : Int} {w : List Int} {d : Int} : InSp (withoutF n t) e 0 w d ↔ InSp n e t w d := by
  have hl := low_congr (n := n) (x := withoutF n t) rfl w
  constructor
  · intro h
    refine ⟨by rw [← hl.1]; exact h.lo, by rw [← hl.2]; exact h.hi, fun j y hy hb he => ?_⟩
    have hj := (List.getElem?_eq_some_iff.1 hy)
    have hm : y ∈ keptT n t n.Loops.length := (mem_keptT _ y).2 ⟨j, hj.1, hb, by rw [loopD_get hj.1]; exact hj.2.symm⟩
    obtain ⟨i, hi, g⟩ := List.getElem_of_mem hm
    exact h.lp i y (show (keptT n t n.Loops.length)[i]? = some y by rw [List.getElem?_eq_getElem hi, g]) (by simp) he
  · intro h
    refine ⟨by rw [hl.1]; exact h.lo, by rw [hl.2]; exact h.hi, fun j y hy _ he => ?_⟩
    have hy : (keptT n t n.Loops.length)[j]? = some y := hy
    obtain ⟨hj, g⟩ := List.getElem?_eq_some_iff.1 hy
    obtain ⟨i, hi, hb, e2⟩ := (mem_keptT _ y).1 (g ▸ List.getElem_mem hj)
    exact h.lp i y (by rw [e2, loopD_get hi, List.getElem?_eq_getElem hi]) hb he
theorem without_mem {n : LineNet} (hS : OkS n) {t : Nat} {e : Int} {w : List Int} : w ∈ routesF (withoutF n t) e 0 ↔ w ∈ routesF n e t := by
  rw [mem_routesF (without_ok hS t), mem_routesF hS, canW_iff, canW_iff, trk_congr (n := n) (x := withoutF n t) rfl]
  simp only [without_sp]
  rfl
theorem without_okT {n : LineNet} (hS : OkS n) (t : Nat) : okT (withoutF n t) 0 = okT n t := by
  rw [Bool.eq_iff_iff, okT_iff, okT_iff]
  have hne : ∀ e, routesF (withoutF n t) e 0 ≠ [] ↔ routesF n e t ≠ [] := fun e => by
    have h : ∀ l : List (List Int), l ≠ [] ↔ ∃ w, w ∈ l := fun l => by
      cases l with
      | nil => simp
      | cons a l => exact ⟨fun _ => ⟨a, by simp⟩, fun _ => by simp⟩
    rw [h, h]
    simp only [without_mem hS]
  constructor
  · intro h i hi hb
    have hm : n.Loops[i] ∈ keptT n t n.Loops.length := (mem_keptT _ _).2 ⟨i, hi, hb, (loopD_get hi).symm⟩
    obtain ⟨j, hj, g⟩ := List.getElem_of_mem hm
    have := h j hj (by simp)
    rw [hne] at this
    have e : loopE (withoutF n t) j = loopE n i := by
      rw [loopE_get (n := withoutF n t) hj, loopE_get hi]
      exact congrArg (·.Exchange) g
    rw [e] at this
    exact this
  · intro h j hj _
    rw [hne]
    obtain ⟨i, hi, hb, e2⟩ := (mem_keptT _ _).1 (List.getElem_mem hj)
    have e : loopE (withoutF n t) j = loopE n i := by
      rw [loopE_get (n := withoutF n t) hj, loopE_get hi]
      exact congrArg (·.Exchange) (e2.trans (loopD_get hi))
    rw [e]
    exact h i hi hb
theorem holds_eq {n : LineNet} (hS : OkS n) : remontoirlaw06_holds n = some (okT n 0) := by
  unfold remontoirlaw06_holds
  have hno := hS.no
  have hO := good_Ok hS
  have h := loop_any (body := remontoirlaw06_holds_b1 n) (fun i : Nat => ((false : Bool), (i : Int))) (fun i => errF n (loopE n i) != 0) (some false) (some true) n.Loops.length (fun i hi => by
    unfold remontoirlaw06_holds_b1
    dsimp only
    rw [lt_t hi, cond_true, idx_get hi, bind_s, Delay_eq hO, bind_s, DelayF_err, wr_succ (by omega), loopE_get hi]
    cases (errF n n.Loops[i].Exchange != 0) <;> rfl) (by
    unfold remontoirlaw06_holds_b1
    dsimp only
    rw [lt_f, cond_false])
  have h : loopU (remontoirlaw06_holds_b1 n) (false, 0) = _ := h
  rw [h]
  have e : okT n 0 = !((List.range n.Loops.length).any fun i => errF n (loopE n i) != 0) := by
    rw [Bool.eq_iff_iff, okT_iff, Bool.not_eq_true', List.any_eq_false]
    have key : ∀ i, i < n.Loops.length → (errF n (loopE n i) = 0 ↔ routesF n (loopE n i) 0 ≠ []) := fun i hi => by
      have hl := hS.lo hi
      rw [loopE_get hi]
      constructor
      · intro g; exact (errF_ok g).2.2.2
      · intro g; exact errF_zero hS hl.e1 hl.e2 g
    constructor
    · intro h i hi g
      have hi := List.mem_range.1 hi
      rw [bneI, decide_eq_true_eq] at g
      exact g ((key i hi).2 (h i hi (by simp)))
    · intro h i hi _
      have := h i (List.mem_range.2 hi)
      rw [bneI, decide_eq_true_eq, Classical.not_not] at this
      exact (key i hi).1 this
  rw [e]
  cases (List.range n.Loops.length).any fun i => errF n (loopE n i) != 0 <;> rfl
end Go.Proofs.YthdbokigcfbgeaaDoor.Rt
