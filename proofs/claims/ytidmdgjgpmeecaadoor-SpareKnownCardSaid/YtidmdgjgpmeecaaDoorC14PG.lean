/- Plain laws of the spare seat: what a plan is, for the program and the reference. Under the conditions that each names. -/
import Derived.Test.YtidmdgjgpmeecaaDoorC14PF
set_option linter.unusedVariables false
set_option linter.unusedSimpArgs false
set_option maxRecDepth 100000
set_option maxHeartbeats 4000000
namespace Go.Proofs.YtidmdgjgpmeecaaDoor.Rt
open Go Go.RowKit
theorem loop_all {σ : Type} {body : σ → Option (σ ⊕ Bool)} (st : Nat → σ) (c : Nat → Bool) (n : Nat) (fin : Bool)
    (hstep : ∀ i, i < n → (∀ j < i, c j = true) → body (st i) = bif c i then nxt (st (i + 1)) else ext (some false)) (hend : (∀ j < n, c j = true) → body (st n) = ext (some fin)) :
    loopU body (st 0) = some ((List.range n).all c && fin) := by
  have key : ∀ (k i : Nat), i + k = n → (∀ j < i, c j = true) → loopU body (st i) = some ((List.range' i k).all c && fin) := by
    intro k
    induction k with
    | zero =>
      intro i h hj
      have : i = n := by omega
      subst this
      rw [loopU_ext (hend hj)]; rfl
    | succ k ih =>
      intro i h hj
      rw [List.range'_succ, List.all_cons]
      cases hc : c i with
      | false => rw [loopU_ext (o := some false) (by rw [hstep i (by omega) hj, hc]; rfl)]; rfl
      | true =>
        rw [loopU_nxt (s' := st (i + 1)) (by rw [hstep i (by omega) hj, hc]; rfl), ih (i + 1) (by omega) (fun j h' => by
          by_cases e : j = i
          · rw [e]; exact hc
          · exact hj j (by omega))]
        rfl
  rw [List.range_eq_range']
  exact key n 0 (by omega) (fun j h => by omega)
def tk (plan : List SpareTurn) (i : Nat) : SpareTurn := plan.getD i default
theorem tk_get {plan : List SpareTurn} {i : Nat} (h : i < plan.length) : idx plan (i : Int) = some (tk plan i) := by
  rw [idx_get h]; simp [tk, List.getD, h]
def ml (s : SpareStore) (t : SpareTurn) : SpareMachine := mach s t.Machine.toNat
def untilF (plan : List SpareTurn) (hours : Int) (i : Nat) : Int := if i + 1 < plan.length then (tk plan (i + 1)).Over else hours
def offF (s : SpareStore) (t : SpareTurn) (h : Int) : Int := (ml s t).Drift * (h - t.Start - (ml s t).Warm)
def freshB (plan : List SpareTurn) (i : Nat) : Bool := (List.range i).all fun j => (tk plan j).Machine != (tk plan i).Machine
def turnB (s : SpareStore) (plan : List SpareTurn) (hours : Int) (i : Nat) : Bool :=
  inB (tk plan i).Machine 0 (s.Machines.length - 1) && freshB plan i && decide ((ml s (tk plan i)).From ≤ (tk plan i).Start) && decide ((tk plan i).Start + (ml s (tk plan i)).Warm ≤ (tk plan i).Over) &&
  decide (untilF plan hours i ≤ (tk plan i).Start + (ml s (tk plan i)).Life.Low) && decide ((tk plan i).Over < untilF plan hours i) &&
  (if i = 0 then (tk plan i).Over == 0 else decide (offF s (tk plan (i - 1)) (tk plan i).Over + offF s (tk plan i) (tk plan i).Over ≤ s.Gap))
def planB (s : SpareStore) (plan : List SpareTurn) (hours : Int) : Bool := decide (0 < plan.length) && (List.range plan.length).all (turnB s plan hours)
structure Turn (s : SpareStore) (plan : List SpareTurn) (hours : Int) (i : Nat) : Prop where
  m1 : 0 ≤ (tk plan i).Machine
  m2 : (tk plan i).Machine < s.Machines.length
  fresh : ∀ j < i, (tk plan j).Machine ≠ (tk plan i).Machine
  start : (ml s (tk plan i)).From ≤ (tk plan i).Start
  warm : (tk plan i).Start + (ml s (tk plan i)).Warm ≤ (tk plan i).Over
  life : untilF plan hours i ≤ (tk plan i).Start + (ml s (tk plan i)).Life.Low
  more : (tk plan i).Over < untilF plan hours i
  zero : i = 0 → (tk plan i).Over = 0
  gap : i ≠ 0 → offF s (tk plan (i - 1)) (tk plan i).Over + offF s (tk plan i) (tk plan i).Over ≤ s.Gap
theorem fresh_iff (plan : List SpareTurn) (i : Nat) : freshB plan i = true ↔ ∀ j < i, (tk plan j).Machine ≠ (tk plan i).Machine := by
  simp [freshB, List.all_eq_true]
theorem turn_iff (s : SpareStore) (plan : List SpareTurn) (hours : Int) (i : Nat) : turnB s plan hours i = true ↔ Turn s plan hours i := by
  simp only [turnB, Bool.and_eq_true, decide_eq_true_eq, fresh_iff, inB]
  constructor
  · rintro ⟨⟨⟨⟨⟨⟨⟨a, b⟩, c⟩, d⟩, e⟩, f⟩, g⟩, h⟩
    refine ⟨a, by omega, c, d, e, f, g, fun h0 => ?_, fun h0 => ?_⟩
    · rw [if_pos h0] at h; simpa using h
    · rw [if_neg h0] at h; simpa using h
  · rintro ⟨a, b, c, d, e, f, g, h, k⟩
    refine ⟨⟨⟨⟨⟨⟨⟨a, by omega⟩, c⟩, d⟩, e⟩, f⟩, g⟩, ?_⟩
    by_cases h0 : i = 0
    · rw [if_pos h0]; simpa using h h0
    · rw [if_neg h0]; simpa using k h0
def IsPlan (s : SpareStore) (plan : List SpareTurn) (hours : Int) : Prop := 0 < plan.length ∧ ∀ i < plan.length, Turn s plan hours i
theorem plan_iff (s : SpareStore) (plan : List SpareTurn) (hours : Int) : planB s plan hours = true ↔ IsPlan s plan hours := by
  simp only [planB, Bool.and_eq_true, decide_eq_true_eq, List.all_eq_true, List.mem_range, turn_iff]; rfl
structure Grow (plan : List SpareTurn) (hours : Int) : Prop where
  more : ∀ i < plan.length, (tk plan i).Over < untilF plan hours i
  zero : 0 < plan.length → (tk plan 0).Over = 0
theorem Grow.lo {plan : List SpareTurn} {hours : Int} (h : Grow plan hours) : ∀ i, i < plan.length → 0 ≤ (tk plan i).Over
  | 0, hi => by rw [h.zero hi]; exact Int.le_refl _
  | i + 1, hi => by
    have h1 := h.lo i (by omega)
    have h2 := h.more i (by omega)
    unfold untilF at h2
    rw [if_pos hi] at h2; omega
theorem Grow.hi {plan : List SpareTurn} {hours : Int} (h : Grow plan hours) : ∀ k i, i + k + 1 = plan.length → (tk plan i).Over < hours ∧ untilF plan hours i ≤ hours
  | 0, i, hi => by
    have h2 := h.more i (by omega)
    unfold untilF at h2 ⊢
    rw [if_neg (by omega)] at h2 ⊢
    omega
  | k + 1, i, hi => by
    have h1 := h.hi k (i + 1) (by omega)
    have h2 := h.more i (by omega)
    unfold untilF at h2 ⊢
    rw [if_pos (by omega)] at h2 ⊢
    omega
theorem Grow.bd {plan : List SpareTurn} {hours : Int} (h : Grow plan hours) {i : Nat} (hi : i < plan.length) : 0 ≤ (tk plan i).Over ∧ (tk plan i).Over < untilF plan hours i ∧ untilF plan hours i ≤ hours :=
  ⟨h.lo i hi, h.more i hi, (h.hi (plan.length - 1 - i) i (by omega)).2⟩
theorem IsPlan.grow {s : SpareStore} {plan : List SpareTurn} {hours : Int} (h : IsPlan s plan hours) : Grow plan hours := ⟨fun i hi => (h.2 i hi).more, fun h0 => (h.2 0 h0).zero rfl⟩
theorem ml_ok {s : SpareStore} (hs : OkS s) {t : SpareTurn} (h1 : 0 ≤ t.Machine) (h2 : t.Machine < s.Machines.length) : OkM (ml s t) := hs.mach (by omega)
theorem idx_ml {s : SpareStore} {t : SpareTurn} (h1 : 0 ≤ t.Machine) (h2 : t.Machine < s.Machines.length) : idx s.Machines t.Machine = some (ml s t) := by
  obtain ⟨k, hk⟩ := Int.eq_ofNat_of_zero_le h1
  unfold ml
  rw [hk]; exact idx_mach (by omega)
def offW (s : SpareStore) (t : SpareTurn) (h : Int) : Int := wr ((ml s t).Drift * wr (wr (h - t.Start) - (ml s t).Warm))
theorem off_eq {s : SpareStore} {t : SpareTurn} (h1 : 0 ≤ t.Machine) (h2 : t.Machine < s.Machines.length) (h : Int) : spare_off s t h = some (offW s t h) := by
  unfold spare_off; rw [idx_ml h1 h2]; rfl
theorem mul_bd {d x : Int} (h1 : 0 ≤ d) (h2 : d ≤ 100) (h3 : -10000 ≤ x) (h4 : x ≤ 10000) : -1000000 ≤ d * x ∧ d * x ≤ 1000000 := by
  have a : d * x ≤ d * 10000 := Int.mul_le_mul_of_nonneg_left h4 h1
  have b : d * (-10000) ≤ d * x := Int.mul_le_mul_of_nonneg_left h3 h1
  omega
theorem offW_eq {s : SpareStore} {t : SpareTurn} (hm : OkM (ml s t)) {h : Int} (h1 : -500 ≤ t.Start) (h2 : t.Start ≤ 1000) (h3 : 0 ≤ h) (h4 : h ≤ 500) : offW s t h = offF s t h ∧ -1000000 ≤ offF s t h ∧ offF s t h ≤ 1000000 := by
  have := hm.w1; have := hm.w2
  have hb := mul_bd (d := (ml s t).Drift) (x := h - t.Start - (ml s t).Warm) hm.d1 hm.d2 (by omega) (by omega)
  unfold offW offF
  rw [wr_id' (n := h - t.Start) (by omega) (by omega), wr_id' (n := h - t.Start - (ml s t).Warm) (by omega) (by omega), wr_id' (by omega) (by omega)]
  exact ⟨rfl, hb⟩
def metL (plan : List SpareTurn) (i : Nat) : List Bool := (plan.take i).foldl (fun l t => l.set t.Machine.toNat true) (List.replicate 8 false)
theorem metL_succ {plan : List SpareTurn} {i : Nat} (h : i < plan.length) : metL plan (i + 1) = (metL plan i).set (tk plan i).Machine.toNat true := by
  unfold metL
  rw [foldl_take h]; simp [tk, List.getD, h]
theorem metL_len (plan : List SpareTurn) (i : Nat) : (metL plan i).length = 8 := by
  unfold metL
  have : ∀ (L : List SpareTurn) (b : List Bool), (L.foldl (fun l t => l.set t.Machine.toNat true) b).length = b.length := by
    intro L
    induction L with
    | nil => intro b; rfl
    | cons a L ih => intro b; rw [List.foldl_cons, ih, List.length_set]
  rw [this]; rfl
theorem rep8 : ∀ m < 8, (List.replicate 8 false).getD m false = false := by decide
theorem metL_get {plan : List SpareTurn} : ∀ {i : Nat} (m : Nat), i ≤ plan.length → m < 8 → ((metL plan i).getD m false = true ↔ ∃ j < i, (tk plan j).Machine.toNat = m)
  | 0, m, _, hm => by
    constructor
    · intro h; rw [show metL plan 0 = List.replicate 8 false from rfl, rep8 m hm] at h; cases h
    · rintro ⟨j, h, _⟩; omega
  | i + 1, m, h, hm => by
    rw [metL_succ (by omega)]
    have hl := metL_len plan i
    have ih := metL_get (plan := plan) (i := i) m (by omega) hm
    simp only [List.getD_eq_getElem?_getD, List.getElem?_set] at ih ⊢
    by_cases he : (tk plan i).Machine.toNat = m
    · rw [if_pos he, if_pos (by omega)]
      simp only [Option.getD_some, true_iff]
      exact ⟨i, by omega, he⟩
    · rw [if_neg he, ih]
      constructor
      · rintro ⟨j, h1, h2⟩; exact ⟨j, by omega, h2⟩
      · rintro ⟨j, h1, h2⟩
        have : j ≠ i := by rintro rfl; exact he h2
        exact ⟨j, by omega, h2⟩
theorem metL_none {plan : List SpareTurn} {n : Nat} (hn : n ≤ plan.length) (hm : ∀ j < n, 0 ≤ (tk plan j).Machine ∧ (tk plan j).Machine < 8) : (metL plan n == List.replicate 8 false) = decide (n = 0) := by
  by_cases h : n = 0
  · subst h; rfl
  · rw [show decide (n = 0) = false by simpa using h, beq_eq_false_iff_ne]
    intro e
    have h1 := hm 0 (by omega)
    have := (metL_get (plan := plan) (i := n) (tk plan 0).Machine.toNat hn (by omega)).2 ⟨0, by omega, rfl⟩
    rw [e, rep8 _ (by omega)] at this; cases this
def cP (s : SpareStore) (plan : List SpareTurn) (hours : Int) (i : Nat) : Bool :=
  inB (tk plan i).Machine 0 (s.Machines.length - 1) && freshB plan i &&
  !(((((decide (i = 0) && ((tk plan i).Over != 0)) || decide ((tk plan i).Start < (ml s (tk plan i)).From)) || decide (wr ((tk plan i).Over - (tk plan i).Start) < (ml s (tk plan i)).Warm)) || decide (untilF plan hours i ≤ (tk plan i).Over)) || decide (wr (untilF plan hours i - (tk plan i).Start) > (ml s (tk plan i)).Life.Low)) &&
  !(if i = 0 then false else decide (wr (offW s (tk plan (i - 1)) (tk plan i).Over + offW s (tk plan i) (tk plan i).Over) > s.Gap))
theorem okP_mach {s : SpareStore} {plan : List SpareTurn} {i : Nat} (h : inB (tk plan i).Machine 0 (s.Machines.length - 1) = true) : 0 ≤ (tk plan i).Machine ∧ (tk plan i).Machine < s.Machines.length := by
  simp only [inB, Bool.and_eq_true, decide_eq_true_eq] at h; omega
theorem cP_mach {s : SpareStore} {plan : List SpareTurn} {hours : Int} {i : Nat} (h : cP s plan hours i = true) : 0 ≤ (tk plan i).Machine ∧ (tk plan i).Machine < s.Machines.length := by
  simp only [cP, Bool.and_eq_true] at h; exact okP_mach h.1.1.1
theorem isPlan_c {s : SpareStore} (hs : OkS s) {plan : List SpareTurn} (hp : (plan.length : Int) ≤ 9223372036854775807) (hours : Int) :
    spare_isPlan s plan hours = some ((List.range plan.length).all (cP s plan hours) && decide (0 < plan.length)) := by
  have hn := hs.n2; have hn1 := hs.n1
  unfold spare_isPlan
  refine loop_all (body := spare_isPlan_b1 s plan hours) (fun i => (false, (i : Int), metL plan i)) (cP s plan hours) plan.length _ (fun i hi hj => ?_) (fun hj => ?_)
  · have wi : wr ((i : Int) + 1) = ((i + 1 : Nat) : Int) := wr_id' (by omega) (by omega)
    simp only [spare_isPlan_b1, lt_t hi, cond_true, tk_get hi, bind_s, lies_eq]
    rw [wr_id' (by omega) (by omega)]
    unfold cP
    cases hm : inB (tk plan i).Machine 0 (s.Machines.length - 1) with
    | false => rfl
    | true =>
      obtain ⟨m1, m2⟩ := okP_mach hm
      simp only [Bool.not_true, cond_false, Bool.true_and]
      rw [if_pos (by omega)]
      simp only [bind_s]
      have hfr : (metL plan i).getD (tk plan i).Machine.toNat false = !freshB plan i := by
        have h1 := metL_get (plan := plan) (i := i) (tk plan i).Machine.toNat (by omega) (by omega)
        have h2 := fresh_iff plan i
        cases hf : freshB plan i with
        | true =>
          rw [Bool.not_true]
          refine Bool.eq_false_iff.2 fun h => ?_
          obtain ⟨j, hj1, hj2⟩ := h1.1 h
          have h3 := (h2.1 hf) j hj1
          have h4 := cP_mach (hj j hj1)
          omega
        | false =>
          rw [Bool.not_false, h1]
          refine Classical.byContradiction fun hne => ?_
          have : freshB plan i = true := h2.2 fun j hj1 he => hne ⟨j, hj1, by rw [he]⟩
          rw [hf] at this; cases this
      rw [hfr]
      cases freshB plan i with
      | false => rfl
      | true =>
        simp only [Bool.not_true, cond_false, idx_ml m1 m2, bind_s, wi, Bool.true_and]
        have hk : ∀ e : Int, e = untilF plan hours i → spare_isPlan_k2 s plan false (i : Int) (metL plan i) (tk plan i) (ml s (tk plan i)) e = bif
            (!(((((decide (i = 0) && ((tk plan i).Over != 0)) || decide ((tk plan i).Start < (ml s (tk plan i)).From)) || decide (wr ((tk plan i).Over - (tk plan i).Start) < (ml s (tk plan i)).Warm)) || decide (untilF plan hours i ≤ (tk plan i).Over)) || decide (wr (untilF plan hours i - (tk plan i).Start) > (ml s (tk plan i)).Life.Low)) &&
            !(if i = 0 then false else decide (wr (offW s (tk plan (i - 1)) (tk plan i).Over + offW s (tk plan i) (tk plan i).Over) > s.Gap))) then nxt (false, ((i + 1 : Nat) : Int), metL plan (i + 1)) else ext (some false) := by
          intro e he
          subst he
          unfold spare_isPlan_k2
          rw [metL_succ hi, show ((i : Int) == 0) = decide (i = 0) by by_cases h : i = 0 <;> simp [h] ]
          generalize (((((decide (i = 0) && ((tk plan i).Over != 0)) || decide ((tk plan i).Start < (ml s (tk plan i)).From)) || decide (wr ((tk plan i).Over - (tk plan i).Start) < (ml s (tk plan i)).Warm)) || decide (untilF plan hours i ≤ (tk plan i).Over)) || decide (wr (untilF plan hours i - (tk plan i).Start) > (ml s (tk plan i)).Life.Low)) = b1
          cases b1 with
          | true => rfl
          | false =>
            simp only [cond_false, Bool.not_false, Bool.true_and]
            by_cases h0 : i = 0
            · subst h0
              simp only [Int.natCast_zero, Int.lt_irrefl, gt_iff_lt, decide_false, cond_false, bind_s, if_true, Bool.not_false, cond_true]
              rfl
            · rw [if_neg h0, show decide ((i : Int) > 0) = true by simp; omega, show (i : Int) - 1 = ((i - 1 : Nat) : Int) by omega, wr_id' (n := ((i - 1 : Nat) : Int)) (by omega) (by omega), tk_get (by omega)]
              have hpm := cP_mach (hj (i - 1) (by omega))
              simp only [cond_true, bind_s, off_eq hpm.1 hpm.2, off_eq m1 m2, wi]
              generalize decide (wr (offW s (tk plan (i - 1)) (tk plan i).Over + offW s (tk plan i) (tk plan i).Over) > s.Gap) = b2
              cases b2 <;> rfl
        rw [if_pos (by omega)]
        by_cases hl : i + 1 < plan.length
        · rw [lt_t hl, tk_get hl]
          simp only [cond_true, bind_s]
          exact hk _ (by unfold untilF; rw [if_pos hl])
        · rw [show decide (((i + 1 : Nat) : Int) < (plan.length : Int)) = false by simp; omega]
          simp only [cond_false]
          exact hk _ (by unfold untilF; rw [if_neg hl])
  · simp only [spare_isPlan_b1, lt_f, cond_false]
    rw [metL_none (Nat.le_refl _) (fun j h => by have := cP_mach (hj j h); omega)]
    congr 2
    by_cases h : plan.length = 0
    · simp [h]
    · rw [show decide (plan.length = 0) = false by simpa using h]; simp; omega
theorem isPlan_eq {s : SpareStore} (hs : OkS s) {plan : List SpareTurn} (hp : OkL Ok_SpareTurn plan) {hours : Int} (hh : hours ≤ 500) : spare_isPlan s plan hours = some (planB s plan hours) := by
  have hr : ∀ i < plan.length, InR (tk plan i).Start := fun i hi => by
    have : tk plan i = plan[i] := by simp [tk, List.getD, hi]
    rw [this]; exact (hp.2 _ (List.getElem_mem hi)).2.1
  rw [isPlan_c hs hp.1]
  congr 1
  rw [Bool.eq_iff_iff, plan_iff]
  simp only [Bool.and_eq_true, decide_eq_true_eq, List.all_eq_true, List.mem_range]
  constructor
  · rintro ⟨hc, h0⟩
    have hc2 : ∀ i < plan.length, (0 ≤ (tk plan i).Machine ∧ (tk plan i).Machine < s.Machines.length) ∧ (∀ j < i, (tk plan j).Machine ≠ (tk plan i).Machine) ∧ (i = 0 → (tk plan i).Over = 0) ∧ (ml s (tk plan i)).From ≤ (tk plan i).Start ∧
        (ml s (tk plan i)).Warm ≤ wr ((tk plan i).Over - (tk plan i).Start) ∧ (tk plan i).Over < untilF plan hours i ∧ wr (untilF plan hours i - (tk plan i).Start) ≤ (ml s (tk plan i)).Life.Low ∧
        (i ≠ 0 → wr (offW s (tk plan (i - 1)) (tk plan i).Over + offW s (tk plan i) (tk plan i).Over) ≤ s.Gap) := fun i hi => by
      have h := hc i hi
      have hm := cP_mach h
      simp only [cP, Bool.and_eq_true, Bool.not_eq_true', Bool.or_eq_false_iff, fresh_iff] at h
      obtain ⟨⟨⟨_, hf⟩, ⟨⟨⟨⟨h1, h2⟩, h3⟩, h4⟩, h5⟩⟩, h6⟩ := h
      simp only [decide_eq_false_iff_not] at h2 h3 h4 h5
      refine ⟨hm, hf, fun e => ?_, by omega, by omega, by omega, by omega, fun e => ?_⟩
      · rw [show decide (i = 0) = true by simpa using e] at h1
        simpa using h1
      · rw [if_neg e] at h6
        simp only [decide_eq_false_iff_not] at h6; omega
    have hG : Grow plan hours := ⟨fun i hi => (hc2 i hi).2.2.2.2.2.1, fun h => (hc2 0 h).2.2.1 rfl⟩
    have hst : ∀ i < plan.length, -500 ≤ (tk plan i).Start ∧ (tk plan i).Start + (ml s (tk plan i)).Warm ≤ (tk plan i).Over := fun i hi => by
      obtain ⟨⟨a1, a2⟩, _, _, b, c, _, _, _⟩ := hc2 i hi
      have hM := ml_ok hs a1 a2
      have := hG.bd hi
      have := hr i hi
      have := hM.f1
      obtain ⟨r1, r2⟩ := hr i hi
      rw [wr_id' (by omega) (by omega)] at c
      omega
    refine ⟨h0, fun i hi => ?_⟩
    obtain ⟨⟨a1, a2⟩, f, z, b, c, d, e, g⟩ := hc2 i hi
    have hM := ml_ok hs a1 a2
    have hbd := hG.bd hi
    have h1 := hst i hi
    have hw := hM.w1
    refine ⟨a1, a2, f, b, h1.2, ?_, d, z, fun hne => ?_⟩
    · rw [wr_id' (by omega) (by omega)] at e; omega
    · have hg := g hne
      obtain ⟨⟨p1, p2⟩, _⟩ := hc2 (i - 1) (by omega)
      have hM2 := ml_ok hs p1 p2
      have h2 := hst (i - 1) (by omega)
      have hbd2 := hG.bd (show i - 1 < plan.length by omega)
      have hw2 := hM2.w1
      have o1 := offW_eq hM2 (h := (tk plan i).Over) h2.1 (by omega) hbd.1 (by omega)
      have o2 := offW_eq hM (h := (tk plan i).Over) h1.1 (by omega) hbd.1 (by omega)
      rw [o1.1, o2.1, wr_id' (by omega) (by omega)] at hg
      exact hg
  · intro h
    have hG := h.grow
    have hst : ∀ i < plan.length, -500 ≤ (tk plan i).Start ∧ (tk plan i).Start ≤ 500 := fun i hi => by
      have t := h.2 i hi
      have hM := ml_ok hs t.m1 t.m2
      have := hM.f1; have := hM.w1; have := t.start; have := t.warm; have := hG.bd hi
      omega
    refine ⟨fun i hi => ?_, h.1⟩
    have t := h.2 i hi
    have hM := ml_ok hs t.m1 t.m2
    have hbd := hG.bd hi
    have h1 := hst i hi
    simp only [cP, Bool.and_eq_true, Bool.not_eq_true', Bool.or_eq_false_iff, fresh_iff, inB, decide_eq_true_eq, decide_eq_false_iff_not]
    have := t.m1; have := t.m2; have := t.start; have := t.warm; have := t.life; have := t.more
    refine ⟨⟨⟨⟨by omega, by omega⟩, t.fresh⟩, ⟨⟨⟨⟨?_, by omega⟩, ?_⟩, by omega⟩, ?_⟩⟩, ?_⟩
    · by_cases e : i = 0
      · have := t.zero e; rw [show decide (i = 0) = true by simpa using e]; simpa using this
      · rw [show decide (i = 0) = false by simpa using e]; rfl
    · rw [wr_id' (by omega) (by omega)]; omega
    · rw [wr_id' (by omega) (by omega)]; omega
    · by_cases e : i = 0
      · rw [if_pos e]
      · rw [if_neg e]
        have t2 := h.2 (i - 1) (by omega)
        have hM2 := ml_ok hs t2.m1 t2.m2
        have h2 := hst (i - 1) (by omega)
        have o1 := offW_eq hM2 (h := (tk plan i).Over) h2.1 (by omega) hbd.1 (by omega)
        have o2 := offW_eq hM (h := (tk plan i).Over) h1.1 (by omega) hbd.1 (by omega)
        have hg := t.gap e
        rw [o1.1, o2.1, wr_id' (by omega) (by omega)]
        simp only [decide_eq_false_iff_not]; omega
def isPlanF (s : SpareStore) (plan : List SpareTurn) : Bool × Int := if goodB s then (planB s plan s.Hours, 0) else (false, 80)
theorem IsPlan_eq (s : SpareStore) (hs : Ok_SpareStore s) (plan : List SpareTurn) (hp : OkL Ok_SpareTurn plan) : spare_IsPlan s plan = some (isPlanF s plan) := by
  unfold spare_IsPlan isPlanF
  rw [spare_Check_eq s hs]
  cases hg : goodB s with
  | false => rfl
  | true =>
    have hS := OkS.of hg
    simp only [if_true, bind_s, isPlan_eq hS hp hS.h2]
    rfl
end Go.Proofs.YtidmdgjgpmeecaaDoor.Rt
