/- Plain laws of the spare seat: bits, what Check and Lasts come to. Under the conditions that each names. -/
import Derived.Test.YtidmdgjgpmeecaaDoorC14Pl1
import Derived.Test.YtidmdgjgpmeecaaDoorC14WBZ
import Derived.Test.YtidmdgjgpmeecaaDoorC14WRZ
import Derived.Test.YtidmdgjgpmeecaaDoorC14WSZ
import Derived.Test.YtidmdgjgpmeecaaDoorC14O0
set_option linter.unusedVariables false
set_option linter.unusedSimpArgs false
set_option maxRecDepth 100000
set_option maxHeartbeats 4000000
namespace Go.Proofs.YtidmdgjgpmeecaaDoor.Rt
open Go Go.RowKit
def inB (n a b : Int) : Bool := decide (a ≤ n) && decide (n ≤ b)
def machB (x : SpareMachine) : Bool := inB x.From (-500) 500 && inB x.Warm 0 500 && (decide (0 ≤ x.Life.Low) && decide (x.Life.Low ≤ x.Life.High) && decide (x.Life.High ≤ 500)) && inB x.Drift 0 100
def sizesB (s : SpareStore) : Bool := inB s.Hours 1 500 && inB s.Gap 0 1000 && inB s.Machines.length 1 8
def goodB (s : SpareStore) : Bool := sizesB s && s.Machines.all machB
theorem all_take {α : Type} {f : α → Bool} {xs : List α} {i : Nat} (h : i < xs.length) : (xs.take (i + 1)).all f = ((xs.take i).all f && f xs[i]) := by
  rw [List.take_succ_eq_append_getElem h, List.all_append]; simp
theorem lies_eq (n a b : Int) : spare_lies n a b = some (inB n a b) := rfl
theorem lt_t {i n : Nat} (h : i < n) : decide ((i : Int) < (n : Int)) = true := by simp; omega
theorem lt_f (n : Nat) : decide ((n : Int) < (n : Int)) = false := by simp
theorem spare_Check_eq (c : SpareStore) (hc : Ok_SpareStore c) : spare_Check c = some (if goodB c then 0 else 80) := by
  obtain ⟨_, _, ⟨hR, _⟩⟩ := hc
  have l1 : ∀ b : Bool, loopU (spare_Check_b1 c) (b, 0) = some (if b && c.Machines.all machB then 0 else 80) := by
    intro b
    have h := loopU_run0 (body := spare_Check_b1 c) (fun i => (b && (c.Machines.take i).all machB, (i : Int))) c.Machines.length (fun i hi => by
      simp only [spare_Check_b1, lt_t hi, cond_true, idx_get hi, bind_s, lies_eq]
      rw [wr_id' (by omega) (by omega), all_take hi, ← Bool.and_assoc]
      simp only [bind_s, cond_s, nxt, machB]
      generalize (b && (c.Machines.take i).all _) = b0
      generalize inB c.Machines[i].From (-500) 500 = b1
      generalize inB c.Machines[i].Warm 0 500 = b2
      generalize decide (0 ≤ c.Machines[i].Life.Low) = b3
      generalize decide (c.Machines[i].Life.Low ≤ c.Machines[i].Life.High) = b4
      generalize decide (c.Machines[i].Life.High ≤ 500) = b5
      generalize inB c.Machines[i].Drift 0 100 = b6
      cases b0 <;> cases b1 <;> cases b2 <;> cases b3 <;> cases b4 <;> cases b5 <;> cases b6 <;> rfl)
    simp only [List.take_zero, List.all_nil, Bool.and_true, Int.natCast_zero, List.take_length] at h
    refine h.trans (loopU_ext ?_)
    simp only [spare_Check_b1, lt_f, cond_false]
    generalize (b && c.Machines.all _) = b0
    cases b0 <;> rfl
  unfold spare_Check
  simp only [lies_eq, bind_s, cond_s]
  rw [l1]
  simp only [goodB, sizesB, Bool.cond_false_right]
  congr
structure OkS (s : SpareStore) : Prop where
  h1 : 1 ≤ s.Hours
  h2 : s.Hours ≤ 500
  g1 : 0 ≤ s.Gap
  g2 : s.Gap ≤ 1000
  n1 : 1 ≤ s.Machines.length
  n2 : s.Machines.length ≤ 8
  m : ∀ x ∈ s.Machines, machB x = true
theorem OkS.of {s : SpareStore} (h : goodB s = true) : OkS s := by
  simp only [goodB, sizesB, inB, Bool.and_eq_true, decide_eq_true_eq] at h
  obtain ⟨⟨⟨⟨a, b⟩, c, d⟩, e, f⟩, g⟩ := h
  exact ⟨a, b, c, d, by omega, by omega, fun x hx => List.all_eq_true.1 g x hx⟩
theorem OkS.good {s : SpareStore} (h : OkS s) : goodB s = true := by
  obtain ⟨a, b, c, d, e, f, g⟩ := h
  simp only [goodB, sizesB, inB, Bool.and_eq_true, decide_eq_true_eq]
  exact ⟨⟨⟨⟨a, b⟩, c, d⟩, by omega, by omega⟩, List.all_eq_true.2 g⟩
structure OkM (x : SpareMachine) : Prop where
  f1 : -500 ≤ x.From
  f2 : x.From ≤ 500
  w1 : 0 ≤ x.Warm
  w2 : x.Warm ≤ 500
  l1 : 0 ≤ x.Life.Low
  l2 : x.Life.Low ≤ x.Life.High
  l3 : x.Life.High ≤ 500
  d1 : 0 ≤ x.Drift
  d2 : x.Drift ≤ 100
theorem OkM.of {x : SpareMachine} (h : machB x = true) : OkM x := by
  simp only [machB, inB, Bool.and_eq_true, decide_eq_true_eq] at h
  obtain ⟨⟨⟨⟨a, b⟩, c, d⟩, ⟨e, f⟩, g⟩, i, j⟩ := h
  exact ⟨a, b, c, d, e, f, g, i, j⟩
theorem OkM.is {x : SpareMachine} (h : OkM x) : machB x = true := by
  obtain ⟨a, b, c, d, e, f, g, i, j⟩ := h
  simp only [machB, inB, Bool.and_eq_true, decide_eq_true_eq]
  exact ⟨⟨⟨⟨a, b⟩, c, d⟩, ⟨e, f⟩, g⟩, i, j⟩
instance : Inhabited SpareMachine := ⟨⟨0, 0, ⟨0, 0⟩, 0⟩⟩
instance : Inhabited SpareTurn := ⟨⟨0, 0, 0⟩⟩
def mach (s : SpareStore) (k : Nat) : SpareMachine := s.Machines.getD k default
theorem mach_get {s : SpareStore} {k : Nat} (h : k < s.Machines.length) : mach s k = s.Machines[k] := by simp [mach, List.getD, h]
theorem OkS.mach {s : SpareStore} (h : OkS s) {k : Nat} (hk : k < s.Machines.length) : OkM (mach s k) := by
  rw [mach_get hk]; exact OkM.of (h.m _ (List.getElem_mem hk))
theorem idx_mach {s : SpareStore} {k : Nat} (h : k < s.Machines.length) : idx s.Machines (k : Int) = some (mach s k) := by rw [mach_get h]; exact idx_get h
def lastF (x : SpareMachine) : Int := max 0 (x.Life.Low - x.Warm)
def stintF (gap : Int) (x : SpareMachine) : Int := if x.Drift = 0 then lastF x else min (lastF x) (gap / x.Drift)
theorem last_ge (x : SpareMachine) : 0 ≤ lastF x := by unfold lastF; omega
theorem div_ge {a b : Int} (ha : 0 ≤ a) (hb : 0 < b) : 0 ≤ a / b := Int.ediv_nonneg ha (by omega)
theorem stint_ge {g : Int} (hg : 0 ≤ g) {x : SpareMachine} (hx : OkM x) : 0 ≤ stintF g x := by
  unfold stintF; split
  · exact last_ge x
  · have := last_ge x
    have := div_ge hg (show 0 < x.Drift by have := hx.d1; omega)
    omega
theorem stint_le {g : Int} (x : SpareMachine) : stintF g x ≤ lastF x := by unfold stintF; split <;> omega
theorem last_le {x : SpareMachine} (hx : OkM x) : lastF x ≤ 500 := by unfold lastF; have := hx.l2; have := hx.l3; have := hx.w1; omega
theorem last_eq {x : SpareMachine} (hx : OkM x) (g : Int) : spare_machine_last ⟨x, g⟩ = some (lastF x) := by
  obtain ⟨_, _, h1, h2, h3, h4, h5, _, _⟩ := hx
  unfold spare_machine_last
  simp only [spare_low, spare_low_1, bind_s]
  rw [wr_id' (by omega) (by omega)]
  unfold lastF
  split <;> · congr 1; omega
theorem div_bd {g d : Int} (hg : 0 ≤ g) (hg2 : g ≤ 1000) (hd : 0 < d) : 0 ≤ g / d ∧ g / d ≤ 1000 := ⟨div_ge hg hd, Int.le_trans (Int.ediv_le_self d hg) hg2⟩
theorem least_eq (a b : Int) : spare_least_int_ a [b] = some (min a b) := by
  unfold spare_least_int_
  have h1 : spare_least_int__b1 [b] (a, 0) = nxt ((if b < a then b else a), 1) := rfl
  have h2 : spare_least_int__b1 [b] ((if b < a then b else a), 1) = ext (some (if b < a then b else a)) := rfl
  rw [loopU_nxt h1, loopU_ext h2]
  congr 1; split <;> omega
theorem stint_eq {x : SpareMachine} (hx : OkM x) {g : Int} (hg : 0 ≤ g) (hg2 : g ≤ 1000) : spare_machine_stint ⟨x, g⟩ = some (stintF g x) := by
  unfold spare_machine_stint stintF
  simp only [last_eq hx, bind_s]
  by_cases h : x.Drift = 0
  · simp [h]
  · have hd : (x.Drift == 0) = false := by simp [h]
    have hd1 := hx.d1
    have hb := div_bd hg hg2 (show 0 < x.Drift by omega)
    rw [hd, cond_false, if_pos h, if_neg h, Int.tdiv_eq_ediv_of_nonneg hg, wr_id' (by omega) (by omega), least_eq]
    rfl
theorem of_eq {s : SpareStore} {k : Nat} (h : k < s.Machines.length) : spare_of s (k : Int) = some ⟨mach s k, s.Gap⟩ := by
  unfold spare_of; rw [idx_mach h]; rfl
theorem tab0_eq {s : SpareStore} (hs : OkS s) {k : Nat} (h : k < s.Machines.length) : tabf_0 0 ⟨mach s k, s.Gap⟩ = some (stintF s.Gap (mach s k)) := by
  unfold tabf_0; rw [if_pos rfl]; exact stint_eq (hs.mach h) hs.g1 hs.g2
theorem tab1_eq {s : SpareStore} (hs : OkS s) {k : Nat} (h : k < s.Machines.length) : tabf_0 1 ⟨mach s k, s.Gap⟩ = some (lastF (mach s k)) := by
  unfold tabf_0; rw [if_neg (by decide), if_pos rfl]; exact last_eq (hs.mach h) _
def lastsF (s : SpareStore) (k : Int) : Int × Int × Int := if goodB s then if inB k 0 (s.Machines.length - 1) then (stintF s.Gap (mach s k.toNat), lastF (mach s k.toNat), 0) else (0, 0, 81) else (0, 0, 80)
theorem nat_of {k : Int} {n : Nat} (h : inB k 0 (n - 1) = true) : ∃ j : Nat, k = (j : Int) ∧ j < n := by
  simp only [inB, Bool.and_eq_true, decide_eq_true_eq] at h
  exact ⟨k.toNat, by omega, by omega⟩
theorem Lasts_eq (s : SpareStore) (hs : Ok_SpareStore s) (k : Int) : spare_Lasts s k = some (lastsF s k) := by
  unfold spare_Lasts lastsF
  rw [spare_Check_eq s hs]
  cases hg : goodB s with
  | false => rfl
  | true =>
    have hS := OkS.of hg
    have := hS.n2; have := hS.n1
    simp only [if_true, bind_s, lies_eq]
    rw [wr_id' (by omega) (by omega)]
    cases hb : inB k 0 (s.Machines.length - 1) with
    | false => rfl
    | true =>
      obtain ⟨j, rfl, hj⟩ := nat_of hb
      simp only [of_eq hj, tab0_eq hS hj, tab1_eq hS hj, bind_s, if_true]
      rfl
end Go.Proofs.YtidmdgjgpmeecaaDoor.Rt
