/- Plain laws of the slave seat: lines that can be. Under the conditions that each names. Plain laws of the slave seat: states behind pulses, stories, maps of ways. Under the conditions that each names. Plain laws of the slave seat: what every course of a value of several courses gives; ranges over maps of ways; the ways behind a line. Under the conditions that each names. Plain laws of the slave seat: the ways behind a line tell of every story. Under the conditions that each names. Plain laws of the slave seat: the walk of the ways behind a line. Under the conditions that each names. -/
import Derived.Test.YtmbgmefmkjeahaaDoorC15Pl1
import Derived.Test.YtmbgmefmkjeahaaDoorC15WRZ
import Derived.Test.YtmbgmefmkjeahaaDoorC15WSZ
import Derived.Test.YtmbgmefmkjeahaaDoorC15O0
import Derived.Test.YtmbgmefmkjeahaaDoorC15WBZ
set_option linter.unusedVariables false
set_option linter.unusedSimpArgs false
set_option maxRecDepth 100000
set_option maxHeartbeats 4000000
namespace Go.Proofs.YtmbgmefmkjeahaaDoor.Rt
open Go Go.RowKit
instance : Inhabited SlaveStart := ⟨⟨0, 0⟩⟩
instance : Inhabited SlaveEvent := ⟨⟨0, 0, 0, 0, 0, 0⟩⟩
def inB (n a b : Int) : Bool := decide (a ≤ n) && decide (n ≤ b)
theorem within_eq (n a b : Int) : slave_within n a b = some (inB n a b) := rfl
theorem inB_iff {n a b : Int} : inB n a b = true ↔ a ≤ n ∧ n ≤ b := by simp [inB]
def startB (R : Int) (s : SlaveStart) : Bool := inB s.Shown 0 (R - 1) && inB s.Last 0 1
def eventB (n R : Int) (x : SlaveEvent) : Bool :=
  if x.Kind = 0 then inB x.First 0 1 && inB x.Count 0 60 && inB x.Lost 0 3 else if x.Kind = 1 then inB x.Count 0 60 && inB x.Lost 0 3
  else if x.Kind = 2 then inB x.Who 0 (n - 1) && inB x.Shown 0 (R - 1) else false
def sizesB (l : SlaveLine) : Bool := inB l.Ring 2 60 && inB l.Starts.length 1 4 && decide ((l.Events.length : Int) ≤ 10)
def goodB (l : SlaveLine) : Bool := sizesB l && l.Starts.all (startB l.Ring) && l.Events.all (eventB l.Starts.length l.Ring)
theorem lt_t {i n : Nat} (h : i < n) : decide ((i : Int) < (n : Int)) = true := by simp; omega
theorem lt_f (n : Nat) : decide ((n : Int) < (n : Int)) = false := by simp
theorem loop_and {α ρ : Type} (xs : List α) (f : α → Bool) (fin : Bool → Option ρ) (body : (Bool × Int) → Option ((Bool × Int) ⊕ ρ))
    (hstep : ∀ (i : Nat) (h : i < xs.length) (b : Bool), body (b, (i : Int)) = nxt (b && f xs[i], ((i + 1 : Nat) : Int)))
    (hend : ∀ b, body (b, (xs.length : Int)) = ext (fin b)) (b : Bool) : loopU body (b, 0) = fin (b && xs.all f) := by
  have key : ∀ (k i : Nat) (b : Bool), i + k = xs.length → loopU body (b, (i : Int)) = fin (b && (xs.drop i).all f) := by
    intro k
    induction k with
    | zero =>
      intro i b h
      have e : i = xs.length := by omega
      subst e
      rw [List.drop_length]
      simpa using loopU_ext (hend b)
    | succ k ih =>
      intro i b h
      have hi : i < xs.length := by omega
      have e : (xs.drop i).all f = (f xs[i] && (xs.drop (i + 1)).all f) := by rw [← List.getElem_cons_drop hi]; rfl
      rw [loopU_nxt (hstep i hi b), ih (i + 1) _ (by omega), e, Bool.and_assoc]
  simpa using key xs.length 0 b (by omega)
theorem cond_b_some (b x : Bool) : (cond b (some x) (some false)) = some (b && x) := by cases b <;> rfl
theorem wr_succ {i : Nat} (h : (i : Int) ≤ 9223372036854775806) : wr ((i : Int) + 1) = ((i + 1 : Nat) : Int) := wr_id' (by omega) (by omega)
theorem beqI (a b : Int) : (a == b) = decide (a = b) := by
  by_cases h : a = b
  · subst h; simp
  · rw [decide_eq_false h, beq_eq_false_iff_ne]; exact h
def startW (R : Int) (s : SlaveStart) : Bool := inB s.Shown 0 (wr (R - 1)) && inB s.Last 0 1
def eventW (n R : Int) (x : SlaveEvent) : Bool :=
  if x.Kind = 0 then inB x.First 0 1 && inB x.Count 0 60 && inB x.Lost 0 3 else if x.Kind = 1 then inB x.Count 0 60 && inB x.Lost 0 3
  else if x.Kind = 2 then inB x.Who 0 (wr (n - 1)) && inB x.Shown 0 (wr (R - 1)) else false
theorem goodW (l : SlaveLine) : (sizesB l && l.Starts.all (startW l.Ring) && l.Events.all (eventW l.Starts.length l.Ring)) = goodB l := by
  unfold goodB
  cases h : sizesB l with
  | false => rfl
  | true =>
    simp only [sizesB, Bool.and_eq_true, inB_iff, decide_eq_true_eq] at h
    have e1 : wr (l.Ring - 1) = l.Ring - 1 := wr_id' (by omega) (by omega)
    have e2 : wr ((l.Starts.length : Int) - 1) = (l.Starts.length : Int) - 1 := wr_id' (by omega) (by omega)
    have h1 : startW l.Ring = startB l.Ring := by funext s; unfold startW startB; rw [e1]
    have h2 : eventW l.Starts.length l.Ring = eventB l.Starts.length l.Ring := by funext s; unfold eventW eventB; rw [e1, e2]
    rw [h1, h2]
theorem Ok_line {l : SlaveLine} (h : Ok_SlaveLine l) : (l.Starts.length : Int) ≤ 9223372036854775807 ∧ (l.Events.length : Int) ≤ 9223372036854775807 := ⟨h.2.1.1, h.2.2.1⟩
theorem slave_Check_eq (l : SlaveLine) (h : Ok_SlaveLine l) : slave_Check l = some (if goodB l then 0 else 70) := by
  obtain ⟨hs, he⟩ := Ok_line h
  have b2 : ∀ b, loopU (slave_Check_b2 l) (b, 0) = some (if b && l.Events.all (eventW l.Starts.length l.Ring) then 0 else 70) := by
    intro b
    refine loop_and l.Events (eventW l.Starts.length l.Ring) (fun b => some (if b then 0 else 70)) _ (fun i hi b => ?_) (fun b => ?_) b
    · unfold slave_Check_b2
      simp only [lt_t hi, cond_true, idx_get hi, bind_s, within_eq, cond_b_some, wr_succ (i := i) (by omega)]
      unfold eventW
      by_cases h0 : l.Events[i].Kind = 0
      · rw [if_pos h0, beqI, decide_eq_true h0, cond_true, Bool.and_assoc, Bool.and_assoc, Bool.and_assoc]
      · rw [if_neg h0, beqI, decide_eq_false h0, cond_false]
        by_cases h1 : l.Events[i].Kind = 1
        · rw [if_pos h1, beqI, decide_eq_true h1, cond_true, Bool.and_assoc]
        · rw [if_neg h1, beqI, decide_eq_false h1, cond_false]
          by_cases h2 : l.Events[i].Kind = 2
          · rw [if_pos h2, beqI, decide_eq_true h2, cond_true, Bool.and_assoc]
          · rw [if_neg h2, beqI, decide_eq_false h2, cond_false, Bool.and_false]
    · unfold slave_Check_b2
      simp only [lt_f, cond_false]
      cases b <;> rfl
  have b1 : ∀ b, loopU (slave_Check_b1 l) (b, 0) = some (if b && l.Starts.all (startW l.Ring) && l.Events.all (eventW l.Starts.length l.Ring) then 0 else 70) := by
    intro b
    refine loop_and l.Starts (startW l.Ring) (fun b => some (if b && l.Events.all (eventW l.Starts.length l.Ring) then 0 else 70)) _ (fun i hi b => ?_) (fun b => ?_) b
    · unfold slave_Check_b1
      simp only [lt_t hi, cond_true, idx_get hi, bind_s, within_eq, cond_b_some, wr_succ (i := i) (by omega)]
      unfold startW
      rw [Bool.and_assoc]
    · unfold slave_Check_b1
      simp only [lt_f, cond_false]
      rw [b2]
  unfold slave_Check
  simp only [within_eq, bind_s, cond_b_some]
  rw [b1, ← goodW]
  rfl
structure OkS (l : SlaveLine) : Prop where
  r1 : 2 ≤ l.Ring
  r2 : l.Ring ≤ 60
  n1 : 1 ≤ l.Starts.length
  n2 : l.Starts.length ≤ 4
  e : l.Events.length ≤ 10
  s : ∀ x ∈ l.Starts, startB l.Ring x = true
  ev : ∀ x ∈ l.Events, eventB l.Starts.length l.Ring x = true
theorem OkS.of {l : SlaveLine} (h : goodB l = true) : OkS l := by
  simp only [goodB, sizesB, Bool.and_eq_true, inB_iff, decide_eq_true_eq, List.all_eq_true] at h
  obtain ⟨⟨⟨⟨⟨a, b⟩, c, d⟩, e⟩, f⟩, g⟩ := h
  exact ⟨a, b, by omega, by omega, by omega, f, g⟩
theorem OkS.good {l : SlaveLine} (h : OkS l) : goodB l = true := by
  simp only [goodB, sizesB, Bool.and_eq_true, inB_iff, decide_eq_true_eq, List.all_eq_true]
  have := h.r1; have := h.r2; have := h.n1; have := h.n2; have := h.e
  exact ⟨⟨⟨⟨⟨by omega, by omega⟩, by omega, by omega⟩, by omega⟩, h.s⟩, h.ev⟩
structure OkT (R : Int) (s : SlaveStart) : Prop where
  a : 0 ≤ s.Shown
  b : s.Shown < R
  c : s.Last = 0 ∨ s.Last = 1
theorem OkT.of {R : Int} {s : SlaveStart} (h : startB R s = true) : OkT R s := by
  simp only [startB, Bool.and_eq_true, inB_iff] at h
  exact ⟨by omega, by omega, by omega⟩
theorem OkT.is {R : Int} {s : SlaveStart} (h : OkT R s) : startB R s = true := by
  have := h.a; have := h.b; have := h.c
  simp only [startB, Bool.and_eq_true, inB_iff]; omega
structure OkE (n R : Int) (x : SlaveEvent) : Prop where
  k : x.Kind = 0 ∨ x.Kind = 1 ∨ x.Kind = 2
  f : x.Kind = 0 → x.First = 0 ∨ x.First = 1
  c : x.Kind ≠ 2 → 0 ≤ x.Count ∧ x.Count ≤ 60 ∧ 0 ≤ x.Lost ∧ x.Lost ≤ 3
  w : x.Kind = 2 → 0 ≤ x.Who ∧ x.Who < n ∧ 0 ≤ x.Shown ∧ x.Shown < R
theorem OkE.of {n R : Int} {x : SlaveEvent} (h : eventB n R x = true) : OkE n R x := by
  unfold eventB at h
  by_cases h0 : x.Kind = 0
  · rw [if_pos h0] at h
    simp only [Bool.and_eq_true, inB_iff] at h
    exact ⟨.inl h0, fun _ => by omega, fun _ => by omega, fun h2 => by omega⟩
  · rw [if_neg h0] at h
    by_cases h1 : x.Kind = 1
    · rw [if_pos h1] at h
      simp only [Bool.and_eq_true, inB_iff] at h
      exact ⟨.inr (.inl h1), fun h2 => by omega, fun _ => by omega, fun h2 => by omega⟩
    · rw [if_neg h1] at h
      by_cases h2 : x.Kind = 2
      · rw [if_pos h2] at h
        simp only [Bool.and_eq_true, inB_iff] at h
        exact ⟨.inr (.inr h2), fun h3 => by omega, fun h3 => absurd h2 h3, fun _ => by omega⟩
      · rw [if_neg h2] at h; cases h
theorem OkE.is {n R : Int} {x : SlaveEvent} (h : OkE n R x) : eventB n R x = true := by
  obtain ⟨k, f, c, w⟩ := h
  unfold eventB
  rcases k with h0 | h1 | h2
  · rw [if_pos h0]; have := f h0; have := c (by omega)
    simp only [Bool.and_eq_true, inB_iff]; omega
  · rw [if_neg (by omega), if_pos h1]; have := c (by omega)
    simp only [Bool.and_eq_true, inB_iff]; omega
  · rw [if_neg (by omega), if_neg (by omega), if_pos h2]; have := w h2
    simp only [Bool.and_eq_true, inB_iff]; omega
theorem OkS.at {l : SlaveLine} (h : OkS l) {i : Nat} (hi : i < l.Events.length) : OkE l.Starts.length l.Ring l.Events[i] := OkE.of (h.ev _ (List.getElem_mem hi))
theorem OkS.st {l : SlaveLine} (h : OkS l) {i : Nat} (hi : i < l.Starts.length) : OkT l.Ring l.Starts[i] := OkT.of (h.s _ (List.getElem_mem hi))
theorem nat_of {k : Int} {n : Nat} (h : inB k 0 (n - 1) = true) : ∃ j : Nat, k = (j : Int) ∧ j < n := by
  rw [inB_iff] at h
  exact ⟨k.toNat, by omega, by omega⟩
def afterF (R : Int) (s : SlaveStart) (sign : Int) : SlaveStart :=
  if sign = -1 then (if s.Shown ≠ 0 then ⟨(s.Shown + 1) % R, s.Last⟩ else s) else if s.Last ≠ sign then ⟨(s.Shown + 1) % R, sign⟩ else s
def signF (x : SlaveEvent) (p : Nat) : Int := if x.Kind = 1 then -1 else (x.First + (p : Int)) % 2
def stepF (R : Int) (x : SlaveEvent) (p : Nat) (s : SlaveStart) : SlaveStart := afterF R s (signF x p)
theorem signF_or (x : SlaveEvent) (p : Nat) : signF x p = -1 ∨ signF x p = 0 ∨ signF x p = 1 := by
  unfold signF; split
  · exact .inl rfl
  · right; have := Int.emod_nonneg (x.First + (p : Int)) (show (2 : Int) ≠ 0 by decide); have := Int.emod_lt_of_pos (x.First + (p : Int)) (show (0 : Int) < 2 by decide); omega
theorem OkT.after {R : Int} (hR : 2 ≤ R) {s : SlaveStart} (h : OkT R s) {sign : Int} (hs : sign = -1 ∨ sign = 0 ∨ sign = 1) : OkT R (afterF R s sign) := by
  have h0 := Int.emod_nonneg (s.Shown + 1) (show R ≠ 0 by omega)
  have h1 := Int.emod_lt_of_pos (s.Shown + 1) (show 0 < R by omega)
  unfold afterF
  by_cases e : sign = -1
  · rw [if_pos e]
    split
    · exact ⟨h0, h1, h.c⟩
    · exact h
  · rw [if_neg e]
    split
    · exact ⟨h0, h1, by show sign = 0 ∨ sign = 1; omega⟩
    · exact h
theorem OkT.step {R : Int} (hR : 2 ≤ R) {s : SlaveStart} (h : OkT R s) (x : SlaveEvent) (p : Nat) : OkT R (stepF R x p s) := h.after hR (signF_or x p)
theorem tmod_eq {a b : Int} (h : 0 ≤ a) : Int.tmod a b = a % b := Int.tmod_eq_emod_of_nonneg h
theorem bneI (a b : Int) : (a != b) = decide (a ≠ b) := by rw [bne, beqI]; simp
theorem after_eq {l : slave_line} (h1 : 2 ≤ l.SlaveLine.Ring) (h2 : l.SlaveLine.Ring ≤ 60) {s : SlaveStart} (hs : OkT l.SlaveLine.Ring s) {sign : Int} (hg : sign = -1 ∨ sign = 0 ∨ sign = 1) :
    slave_line_after l s sign = some (afterF l.SlaveLine.Ring s sign) := by
  have ha := hs.a; have hb := hs.b
  have e1 : wr (s.Shown + 1) = s.Shown + 1 := wr_id' (by omega) (by omega)
  have e2 : Int.tmod (s.Shown + 1) l.SlaveLine.Ring = (s.Shown + 1) % l.SlaveLine.Ring := tmod_eq (by omega)
  unfold slave_line_after slave_line_after_k1 slave_line_after_k2 slave_line_after_k3 afterF
  rw [e1, e2, if_pos (show l.SlaveLine.Ring ≠ 0 by omega)]
  simp only [beqI, bneI]
  by_cases hm : sign = -1
  · have hne : s.Last ≠ sign := by have := hs.c; omega
    by_cases h0 : s.Shown = 0
    · simp [hm, h0]
      cases s; simp at h0; subst h0; rfl
    · simp [hm, h0, hne]
  · by_cases hl : s.Last = sign
    · simp [hm, hl]
      cases s; simp at hl; subst hl; simp [hm]
    · simp [hm, hl]
theorem tab_eq {n R : Int} {x : SlaveEvent} (hx : OkE n R x) (hk : x.Kind ≠ 2) (l : slave_line) {p : Nat} (hp : (p : Int) < x.Count) : tabf_0 x.Kind l x.First (p : Int) = some (signF x p) := by
  have hc := hx.c hk
  unfold tabf_0 signF
  rcases hx.k with h0 | h1 | h2
  · have hf := hx.f h0
    rw [h0, if_pos rfl, if_neg (by decide)]
    unfold slave_line_sent
    rw [wr_id' (by omega) (by omega), tmod_eq (by omega)]
  · rw [h1, if_neg (by decide), if_pos rfl, if_pos rfl]; rfl
  · exact absurd h2 hk
def runP (R : Int) (x : SlaveEvent) (ls : List Int) : Nat → SlaveStart → SlaveStart
  | 0, s => s
  | p + 1, s => if (p : Int) ∈ ls then runP R x ls p s else stepF R x p (runP R x ls p s)
structure Loss (p : Nat) (ls : List Int) : Prop where
  inc : ls.Pairwise (· < ·)
  bd : ∀ k ∈ ls, 0 ≤ k ∧ k < (p : Int)
theorem Loss.nil (p : Nat) : Loss p [] := ⟨List.Pairwise.nil, fun k hk => by cases hk⟩
theorem Loss.succ {p : Nat} {ls : List Int} (h : Loss p ls) : Loss (p + 1) ls := ⟨h.inc, fun k hk => by have := h.bd k hk; omega⟩
theorem Loss.snoc {p : Nat} {ls : List Int} (h : Loss p ls) : Loss (p + 1) (ls ++ [(p : Int)]) := by
  refine ⟨List.pairwise_append.2 ⟨h.inc, List.pairwise_singleton _ _, fun a ha b hb => ?_⟩, fun k hk => ?_⟩
  · rw [List.mem_singleton.1 hb]; exact (h.bd a ha).2
  · rcases List.mem_append.1 hk with hk | hk
    · have := h.bd k hk; omega
    · rw [List.mem_singleton.1 hk]; omega
theorem Loss.notin {p : Nat} {ls : List Int} (h : Loss p ls) : (p : Int) ∉ ls := fun hm => by have := (h.bd _ hm).2; omega
theorem Loss.cases {p : Nat} {ls : List Int} (h : Loss (p + 1) ls) : Loss p ls ∨ ∃ ls', ls = ls' ++ [(p : Int)] ∧ Loss p ls' := by
  by_cases hm : (p : Int) ∈ ls
  · right
    rcases List.eq_nil_or_concat ls with rfl | ⟨ls', k, rfl⟩
    · cases hm
    · rw [List.concat_eq_append] at h hm ⊢
      have hpw := List.pairwise_append.1 h.inc
      have hk := h.bd k (by simp)
      have hle : ∀ a ∈ ls', a < k := fun a ha => hpw.2.2 a ha k (by simp)
      have hkp : k = (p : Int) := by
        rcases List.mem_append.1 hm with h1 | h1
        · have := hle _ h1; omega
        · exact (List.mem_singleton.1 h1).symm
      subst hkp
      exact ⟨ls', rfl, hpw.1, fun a ha => ⟨(h.bd a (by simp [ha])).1, hle a ha⟩⟩
  · left
    refine ⟨h.inc, fun k hk => ?_⟩
    have := h.bd k hk
    have hne : k ≠ (p : Int) := fun e => hm (e ▸ hk)
    omega
theorem runP_snoc (R : Int) (x : SlaveEvent) (ls : List Int) (q : Int) : ∀ (p : Nat) (s : SlaveStart), (p : Int) ≤ q → runP R x (ls ++ [q]) p s = runP R x ls p s
  | 0, _, _ => rfl
  | p + 1, s, h => by
    have e := runP_snoc R x ls q p s (by omega)
    have hm : (p : Int) ∈ ls ++ [q] ↔ (p : Int) ∈ ls := by
      simp only [List.mem_append, List.mem_singleton]
      constructor
      · rintro (h1 | h1)
        · exact h1
        · omega
      · exact .inl
    simp only [runP, e, hm]
theorem OkT.run {R : Int} (hR : 2 ≤ R) {s : SlaveStart} (h : OkT R s) (x : SlaveEvent) (ls : List Int) : ∀ p, OkT R (runP R x ls p s)
  | 0 => h
  | p + 1 => by
    simp only [runP]
    split
    · exact h.run hR x ls p
    · exact (h.run hR x ls p).step hR x p
def lostN (st : List (List Int)) : Nat := (st.map List.length).sum
theorem lostN_snoc (st : List (List Int)) (ls : List Int) : lostN (st ++ [ls]) = lostN st + ls.length := by simp [lostN, List.sum_append]
inductive Sto (l : SlaveLine) (who : Nat) (wo : Nat → Bool) : Nat → List (List Int) → SlaveStart → Prop
  | zero (hw : who < l.Starts.length) : Sto l who wo 0 [] l.Starts[who]
  | look {i : Nat} {st : List (List Int)} {s : SlaveStart} (hi : i < l.Events.length) (hk : l.Events[i].Kind = 2) (hs : wo i = false → l.Events[i].Who = (who : Int) → l.Events[i].Shown = s.Shown)
      (h : Sto l who wo i st s) : Sto l who wo (i + 1) (st ++ [[]]) s
  | send {i : Nat} {st : List (List Int)} {s : SlaveStart} {ls : List Int} (hi : i < l.Events.length) (hk : l.Events[i].Kind ≠ 2) (h : Sto l who wo i st s) (hl : Loss l.Events[i].Count.toNat ls) (hn : (ls.length : Int) ≤ l.Events[i].Lost) :
      Sto l who wo (i + 1) (st ++ [ls]) (runP l.Ring l.Events[i] ls l.Events[i].Count.toNat s)
theorem Sto.okT {l : SlaveLine} (hS : OkS l) {who : Nat} {wo : Nat → Bool} {i : Nat} {st : List (List Int)} {s : SlaveStart} (h : Sto l who wo i st s) : OkT l.Ring s := by
  induction h with
  | zero hw => exact hS.st hw
  | look _ _ _ _ ih => exact ih
  | send hi hk _ _ _ ih => exact ih.run hS.r1 _ _ _
theorem Sto.bd {l : SlaveLine} (hS : OkS l) {who : Nat} {wo : Nat → Bool} {i : Nat} {st : List (List Int)} {s : SlaveStart} (h : Sto l who wo i st s) : st.length = i ∧ i ≤ l.Events.length ∧ lostN st ≤ 3 * i ∧ ∀ r ∈ st, r.length ≤ 3 := by
  induction h with
  | zero hw => exact ⟨rfl, by omega, by simp [lostN], fun r hr => by cases hr⟩
  | look hi _ _ _ ih =>
    obtain ⟨a, b, c, d⟩ := ih
    refine ⟨by simp [a], hi, by rw [lostN_snoc]; simp; omega, fun r hr => ?_⟩
    rcases List.mem_append.1 hr with hr | hr
    · exact d r hr
    · rw [List.mem_singleton.1 hr]; simp
  | send hi hk _ hl hn ih =>
    obtain ⟨a, b, c, d⟩ := ih
    have := ((hS.at hi).c hk)
    refine ⟨by simp [a], hi, by rw [lostN_snoc]; omega, fun r hr => ?_⟩
    rcases List.mem_append.1 hr with hr | hr
    · exact d r hr
    · rw [List.mem_singleton.1 hr]; omega
abbrev Rel := Int → List (List Int) → Prop
structure Sum (w : slave_way) (V : Rel) : Prop where
  low : V w.lost.Low w.story
  high : ∃ st, V w.lost.High st
  bd : ∀ n st, V n st → w.lost.Low ≤ n ∧ n ≤ w.lost.High
theorem Sum.congr {w : slave_way} {V U : Rel} (h : Sum w V) (e : ∀ n st, V n st ↔ U n st) : Sum w U :=
  ⟨(e _ _).1 h.low, by obtain ⟨st, hs⟩ := h.high; exact ⟨st, (e _ _).1 hs⟩, fun n st hu => h.bd n st ((e _ _).2 hu)⟩
def widenF (a b : slave_way) : slave_way := ⟨⟨if b.lost.Low < a.lost.Low then b.lost.Low else a.lost.Low, if b.lost.High > a.lost.High then b.lost.High else a.lost.High⟩, if b.lost.Low < a.lost.Low then b.story else a.story⟩
theorem widened_eq (a b : slave_way) : slave_widened a b = some (widenF a b) := by
  unfold slave_widened slave_widened_k1 widenF
  by_cases h : b.lost.Low < a.lost.Low
  · rw [decide_eq_true h, cond_true, if_pos h, if_pos h]
  · rw [decide_eq_false h, cond_false, if_neg h, if_neg h]
theorem Sum.widen {a b : slave_way} {A B : Rel} (ha : Sum a A) (hb : Sum b B) : Sum (widenF a b) (fun n st => A n st ∨ B n st) := by
  obtain ⟨sa, ha2⟩ := ha.high
  obtain ⟨sb, hb2⟩ := hb.high
  refine ⟨?_, ?_, fun n st h => ?_⟩
  · unfold widenF
    by_cases h : b.lost.Low < a.lost.Low
    · simp only [if_pos h]; exact .inr hb.low
    · simp only [if_neg h]; exact .inl ha.low
  · unfold widenF
    by_cases h : b.lost.High > a.lost.High
    · simp only [if_pos h]; exact ⟨sb, .inr hb2⟩
    · simp only [if_neg h]; exact ⟨sa, .inl ha2⟩
  · unfold widenF
    dsimp only
    rcases h with h | h
    · have := ha.bd n st h; split <;> split <;> omega
    · have := hb.bd n st h; split <;> split <;> omega
section
variable {K : Type} {kl : K → List Int}
theorem mget_mput {V : Type} (hinj : ∀ a b, kl a = kl b → a = b) (m : List (K × V)) (k k' : K) (v : V) : mget kl (mput kl m k v) k' = (open Classical in if k' = k then some v else mget kl m k') := by
  classical
  induction m with
  | nil =>
    simp only [mput, mget]
    by_cases h : k' = k
    · subst h; simp
    · rw [if_neg h]
      have : (kl k' == kl k) = false := by rw [beq_eq_false_iff_ne]; exact fun e => h (hinj _ _ e)
      rw [this]; rfl
  | cons p m ih =>
    simp only [mput]
    cases hb : (kl k == kl p.1) with
    | true =>
      have e : k = p.1 := hinj _ _ (by simpa using hb)
      simp only [cond_true, mget]
      by_cases h : k' = k
      · subst h; rw [if_pos rfl]; simp
      · rw [if_neg h]
        have h1 : (kl k' == kl k) = false := by rw [beq_eq_false_iff_ne]; exact fun e => h (hinj _ _ e)
        rw [h1, cond_false, ← e, h1, cond_false]
    | false =>
      simp only [cond_false, mget]
      rw [ih]
      by_cases h : k' = k
      · subst h
        rw [if_pos rfl, hb, cond_false, if_pos rfl]
      · rw [if_neg h, if_neg h]
theorem keys_mput {V : Type} (m : List (K × V)) (k : K) (v : V) (h : (m.map fun p => kl p.1).Nodup) : ((mput kl m k v).map fun p => kl p.1).Nodup ∧ ∀ x ∈ (mput kl m k v).map (fun p => kl p.1), x = kl k ∨ x ∈ m.map fun p => kl p.1 := by
  induction m with
  | nil => exact ⟨by simp [mput], fun x hx => by simp [mput] at hx; exact .inl hx⟩
  | cons p m ih =>
    simp only [List.map_cons, List.nodup_cons] at h
    obtain ⟨i1, i2⟩ := ih h.2
    simp only [mput]
    cases hb : (kl k == kl p.1) with
    | true =>
      have e : kl k = kl p.1 := by simpa using hb
      simp only [cond_true, List.map_cons, List.nodup_cons]
      exact ⟨⟨by rw [e]; exact h.1, h.2⟩, fun x hx => by
        rcases List.mem_cons.1 hx with rfl | hx
        · exact .inl rfl
        · exact .inr (List.mem_cons_of_mem _ hx)⟩
    | false =>
      have e : kl k ≠ kl p.1 := by rw [beq_eq_false_iff_ne] at hb; exact hb
      simp only [cond_false, List.map_cons, List.nodup_cons]
      refine ⟨⟨fun hx => ?_, i1⟩, fun x hx => ?_⟩
      · rcases i2 _ hx with h1 | h1
        · exact e h1.symm
        · exact h.1 h1
      · rcases List.mem_cons.1 hx with rfl | hx
        · exact .inr (by simp)
        · rcases i2 x hx with h1 | h1
          · exact .inl h1
          · exact .inr (List.mem_cons_of_mem _ h1)
theorem mget_mem {V : Type} (hinj : ∀ a b, kl a = kl b → a = b) : ∀ {m : List (K × V)} {k : K} {v : V}, mget kl m k = some v → (k, v) ∈ m
  | [], _, _, h => by simp [mget] at h
  | p :: m, k, v, h => by
    simp only [mget] at h
    cases hb : (kl k == kl p.1) with
    | true =>
      rw [hb, cond_true] at h
      have e : k = p.1 := hinj _ _ (by simpa using hb)
      injection h with h
      subst e; subst h; simp
    | false =>
      rw [hb, cond_false] at h
      exact List.mem_cons_of_mem _ (mget_mem hinj h)
theorem mem_mget {V : Type} : ∀ {m : List (K × V)} {k : K} {v : V}, (m.map fun p => kl p.1).Nodup → (k, v) ∈ m → mget kl m k = some v
  | [], _, _, _, h => by cases h
  | p :: m, k, v, hn, h => by
    simp only [List.map_cons, List.nodup_cons] at hn
    simp only [mget]
    rcases List.mem_cons.1 h with rfl | h
    · simp
    · have : (kl k == kl p.1) = false := by
        rw [beq_eq_false_iff_ne]
        intro e
        exact hn.1 (by rw [← e]; exact List.mem_map.2 ⟨(k, v), h, rfl⟩)
      rw [this, cond_false]
      exact mem_mget hn.2 h
structure GoodM (kl : K → List Int) (m : List (K × slave_way)) (V : K → Rel) : Prop where
  nd : (m.map fun p => kl p.1).Nodup
  has : ∀ k w, mget kl m k = some w → Sum w (V k)
  no : ∀ k, mget kl m k = none → ∀ n st, ¬ V k n st
theorem GoodM.congr {m : List (K × slave_way)} {V U : K → Rel} (h : GoodM kl m V) (e : ∀ k n st, V k n st ↔ U k n st) : GoodM kl m U :=
  ⟨h.nd, fun k w hw => (h.has k w hw).congr (e k), fun k hk n st hu => h.no k hk n st ((e k n st).2 hu)⟩
def addM (kl : K → List Int) (m : List (K × slave_way)) (k : K) (w : slave_way) : List (K × slave_way) := mput kl m k (match mget kl m k with | some o => widenF o w | none => w)
theorem GoodM.empty : GoodM kl ([] : List (K × slave_way)) (fun _ _ _ => False) := ⟨List.nodup_nil, fun k w h => by simp [mget] at h, fun _ _ _ _ h => h⟩
theorem GoodM.add (hinj : ∀ a b, kl a = kl b → a = b) {m : List (K × slave_way)} {V : K → Rel} (h : GoodM kl m V) {key : K} {w : slave_way} {U : Rel} (hw : Sum w U) :
    GoodM kl (addM kl m key w) (fun k n st => V k n st ∨ (k = key ∧ U n st)) := by
  classical
  refine ⟨(keys_mput _ _ _ h.nd).1, fun k x hx => ?_, fun k hk n st hV => ?_⟩
  · unfold addM at hx
    rw [mget_mput hinj] at hx
    by_cases e : k = key
    · subst e
      rw [if_pos rfl] at hx
      injection hx with hx
      subst hx
      cases ho : mget kl m k with
      | none => exact hw.congr fun n st => ⟨fun hu => .inr ⟨rfl, hu⟩, fun hu => by
          rcases hu with hu | ⟨_, hu⟩
          · exact absurd hu (h.no k ho n st)
          · exact hu⟩
      | some o => exact ((h.has k o ho).widen hw).congr fun n st => ⟨fun hu => by
          rcases hu with hu | hu
          · exact .inl hu
          · exact .inr ⟨rfl, hu⟩, fun hu => by
          rcases hu with hu | ⟨_, hu⟩
          · exact .inl hu
          · exact .inr hu⟩
    · rw [if_neg e] at hx
      exact (h.has k x hx).congr fun n st => ⟨.inl, fun hu => by
        rcases hu with hu | ⟨e2, _⟩
        · exact hu
        · exact absurd e2 e⟩
  · unfold addM at hk
    rw [mget_mput hinj] at hk
    by_cases e : k = key
    · rw [if_pos e] at hk; cases hk
    · rw [if_neg e] at hk
      rcases hV with hV | ⟨e2, _⟩
      · exact h.no k hk n st hV
      · exact e e2
end
theorem inj_57 : ∀ a b, kl_57 a = kl_57 b → a = b := by
  intro a b h
  simp only [kl_57, List.cons.injEq, and_true] at h
  cases a; cases b; simp_all
theorem inj_143 : ∀ a b, kl_143 a = kl_143 b → a = b := by
  intro a b h
  simp only [kl_143, List.cons.injEq, and_true] at h
  obtain ⟨⟨a1, a2⟩, a3⟩ := a
  obtain ⟨⟨b1, b2⟩, b3⟩ := b
  simp_all
theorem add_eq (m : List (slave_spot × slave_way)) (x : slave_spot) (w : slave_way) : slave_add m x w = some (addM kl_143 m x w) := by
  unfold slave_add addM
  cases h : mget kl_143 m x with
  | none => rfl
  | some o =>
    simp only [Option.isSome_some, cond_true, Option.getD_some]
    rw [show (slave_way.mk (Span.mk o.lost.Low o.lost.High) o.story) = o from rfl, widened_eq]; rfl
theorem erase_perm {α : Type} : ∀ (l : List α) (i : Nat) (h : i < l.length), l.Perm (l[i] :: l.eraseIdx i)
  | x :: l, 0, _ => List.Perm.refl _
  | x :: l, i + 1, h => ((erase_perm l i (by simpa using h)).cons x).trans (List.Perm.swap _ _ _)
theorem PickOf.perm {α : Type} {l l' : List α} {x : α} (h : PickOf l x l') : l.Perm (x :: l') := by
  obtain ⟨i, hi, rfl, rfl⟩ := h
  exact erase_perm l i hi
theorem PickOf.len {α : Type} {l l' : List α} {x : α} (h : PickOf l x l') : l'.length < l.length := by
  have := h.perm.length_eq; simp at this; omega
section
variable {α β σ ρ : Type}
def Tells (m : ND α) (R : α → Prop) : Prop := ∀ Q : α → Prop, (∀ a, R a → Q a) → m Q
theorem Tells.mono {m : ND α} {R S : α → Prop} (h : Tells m R) (hs : ∀ a, R a → S a) : Tells m S := fun Q hq => h Q fun a ha => hq a (hs a ha)
theorem Tells.is {m : ND α} {R : α → Prop} (h : Tells m R) : m R := h R fun _ h => h
theorem tret {a : α} {R : α → Prop} (h : R a) : Tells (ND.ret a) R := fun Q hq => hq a h
theorem tbnd {m : ND α} {k : α → ND β} {R : α → Prop} {S : β → Prop} (h : Tells m R) (hk : ∀ a, R a → Tells (k a) S) : Tells (ND.bnd m k) S := fun Q hq => h _ fun a ha => hk a ha Q hq
theorem tdet {o : Option α} {k : α → ND β} {S : β → Prop} {a : α} (h : o = some a) (hk : Tells (k a) S) : Tells (ND.det o k) S := fun Q hq => ⟨a, h, hk Q hq⟩
theorem tgrd {c : Prop} {m : ND α} {R : α → Prop} (h : c) (hm : Tells m R) : Tells (ND.grd c m) R := fun Q hq => ⟨h, hm Q hq⟩
theorem tnxt {s : σ} {S : σ → Prop} {R : ρ → Prop} (h : S s) : Tells (nnxt s : ND (σ ⊕ ρ)) (nlp S R) := fun Q hq => hq (.inl s) h
theorem tend {m : ND ρ} {S : σ → Prop} {R : ρ → Prop} (h : Tells m R) : Tells (next_ m : ND (σ ⊕ ρ)) (nlp S R) := fun Q hq => h _ fun r hr => hq (.inr r) hr
theorem tpick {l : List α} {z : ND β} {k : α → List α → ND β} {R : β → Prop} (hz : l = [] → Tells z R) (hk : ∀ x l', PickOf l x l' → Tells (k x l') R) : Tells (ND.pickE l z k) R :=
  fun Q hq => ⟨fun e => hz e Q hq, fun x l' h => hk x l' h Q hq⟩
theorem tlim {f : Nat → ND α} {R : α → Prop} (n : Nat) (h : Tells (f n) R) : Tells (limN f) R := fun Q hq => ⟨n, h Q hq⟩
theorem tloop {body : σ → ND (σ ⊕ ρ)} {R : ρ → Prop} (Inv : σ → Prop) (mu : σ → Nat) (step : ∀ s, Inv s → Tells (body s) (nlp (fun s' => Inv s' ∧ mu s' < mu s) R)) {s : σ} (hs : Inv s) : Tells (loopN body s) R := by
  intro Q hq
  refine loopN_of Inv mu (fun s hi S hS => step s hi _ fun x hx => ?_) hs
  cases x with
  | inl s' => exact hS s' hx.1 hx.2
  | inr r => exact hq r hx
theorem tfor {body : σ → ND (σ ⊕ ρ)} {R : ρ → Prop} (n : Nat) (Inv : Nat → σ → Prop) (step : ∀ i s, i < n → Inv i s → Tells (body s) (nlp (fun s' => Inv (i + 1) s') R)) (stop : ∀ s, Inv n s → Tells (body s) (nlp (fun _ => False) R)) :
    ∀ (d i : Nat) {s : σ}, i + d = n → Inv i s → Tells (loopN body s) R
  | d, i, s, hd, hs => by
    intro Q hq S hS
    have key : ∀ (d i : Nat) (s : σ), i + d = n → Inv i s → S s := by
      intro d
      induction d with
      | zero =>
        intro i s hd hs
        have e : i = n := by omega
        subst e
        refine hS s (stop s hs _ fun x hx => ?_)
        cases x with
        | inl s' => exact hx.elim
        | inr r => exact hq r hx
      | succ d ih =>
        intro i s hd hs
        refine hS s (step i s (by omega) hs _ fun x hx => ?_)
        cases x with
        | inl s' => exact ih (i + 1) s' (by omega) hx
        | inr r => exact hq r hx
    exact key d i s hd hs
theorem tfor0 {body : σ → ND (σ ⊕ ρ)} {R : ρ → Prop} (n : Nat) (Inv : Nat → σ → Prop) {s : σ} (h0 : Inv 0 s) (step : ∀ i s, i < n → Inv i s → Tells (body s) (nlp (fun s' => Inv (i + 1) s') R)) (stop : ∀ s, Inv n s → Tells (body s) (nlp (fun _ => False) R)) :
    Tells (loopN body s) R := tfor n Inv step stop n 0 (by omega) h0
end
section
variable {K K' : Type} {kl : K → List Int} {kl' : K' → List Int}
structure LeftOk (kl : K → List Int) (V : K → Rel) (left : List (K × slave_way)) : Prop where
  nd : (left.map fun p => kl p.1).Nodup
  has : ∀ p ∈ left, Sum p.2 (V p.1)
theorem GoodM.left (hinj : ∀ a b, kl a = kl b → a = b) {m : List (K × slave_way)} {V : K → Rel} (h : GoodM kl m V) : LeftOk kl V m := ⟨h.nd, fun p hp => h.has p.1 p.2 (mem_mget h.nd hp)⟩
def UL (left : List (K × slave_way)) (V : K → Rel) (T : K → Int → List (List Int) → K' → Rel) (k' : K') : Rel := fun n st => ∃ k n0 st0, (∀ w, (k, w) ∉ left) ∧ V k n0 st0 ∧ T k n0 st0 k' n st
theorem UL.start {m : List (K × slave_way)} {V : K → Rel} {T : K → Int → List (List Int) → K' → Rel} (hinj : ∀ a b, kl a = kl b → a = b) (h : GoodM kl m V) (k' : K') (n : Int) (st : List (List Int)) : False ↔ UL m V T k' n st := by
  refine ⟨False.elim, ?_⟩
  rintro ⟨k, n0, st0, hk, hV, _⟩
  cases hg : mget kl m k with
  | none => exact h.no k hg n0 st0 hV
  | some w => exact hk w (mget_mem hinj hg)
theorem UL.fin {V : K → Rel} {T : K → Int → List (List Int) → K' → Rel} (k' : K') (n : Int) (st : List (List Int)) : UL [] V T k' n st ↔ ∃ k n0 st0, V k n0 st0 ∧ T k n0 st0 k' n st :=
  ⟨fun ⟨k, n0, st0, _, h1, h2⟩ => ⟨k, n0, st0, h1, h2⟩, fun ⟨k, n0, st0, h1, h2⟩ => ⟨k, n0, st0, fun _ h => (by cases h), h1, h2⟩⟩
theorem LeftOk.pick {V : K → Rel} {left left' : List (K × slave_way)} {p : K × slave_way} (h : LeftOk kl V left) (hp : PickOf left p left') : Sum p.2 (V p.1) ∧ LeftOk kl V left' ∧ left'.length < left.length ∧ (∀ w, (p.1, w) ∉ left') := by
  have hperm := hp.perm
  have hn : ((p :: left').map fun q => kl q.1).Nodup := (hperm.map _).nodup_iff.1 h.nd
  simp only [List.map_cons, List.nodup_cons] at hn
  refine ⟨h.has p (hperm.mem_iff.2 (by simp)), ⟨hn.2, fun q hq => h.has q (hperm.mem_iff.2 (by simp [hq]))⟩, hp.len, fun w hw => hn.1 (List.mem_map.2 ⟨(p.1, w), hw, rfl⟩)⟩
theorem UL.pick {V : K → Rel} {T : K → Int → List (List Int) → K' → Rel} {left left' : List (K × slave_way)} {p : K × slave_way} (hinj : ∀ a b, kl a = kl b → a = b) (h : LeftOk kl V left) (hp : PickOf left p left') (k' : K') (n : Int) (st : List (List Int)) :
    UL left' V T k' n st ↔ UL left V T k' n st ∨ ∃ n0 st0, V p.1 n0 st0 ∧ T p.1 n0 st0 k' n st := by
  have hperm := hp.perm
  have hno := (h.pick hp).2.2.2
  constructor
  · rintro ⟨k, n0, st0, hk, hV, hT⟩
    by_cases e : k = p.1
    · subst e; exact .inr ⟨n0, st0, hV, hT⟩
    · refine .inl ⟨k, n0, st0, fun w hw => ?_, hV, hT⟩
      rcases List.mem_cons.1 (hperm.mem_iff.1 hw) with h1 | h1
      · exact e (by rw [← h1])
      · exact hk w h1
  · rintro (⟨k, n0, st0, hk, hV, hT⟩ | ⟨n0, st0, hV, hT⟩)
    · exact ⟨k, n0, st0, fun w hw => hk w (hperm.mem_iff.2 (List.mem_cons_of_mem _ hw)), hV, hT⟩
    · exact ⟨p.1, n0, st0, hno, hV, hT⟩
theorem Sum.map {w w' : slave_way} {V : Rel} (h : Sum w V) (d : Int) (g : List (List Int) → List (List Int)) (e1 : w'.lost.Low = w.lost.Low + d) (e2 : w'.lost.High = w.lost.High + d) (e3 : w'.story = g w.story) :
    Sum w' (fun n st => ∃ n0 st0, V n0 st0 ∧ n = n0 + d ∧ st = g st0) := by
  obtain ⟨sh, hh⟩ := h.high
  refine ⟨⟨_, _, h.low, e1, e3⟩, ⟨_, _, _, hh, e2, rfl⟩, ?_⟩
  rintro n st ⟨n0, st0, hV, rfl, rfl⟩
  have := h.bd n0 st0 hV
  omega
end
theorem index_eq (l : List Int) (n : Int) (hl : (l.length : Int) ≤ 9223372036854775807) : ∃ r, slices_Index___int_int_ l n = some r ∧ decide (r ≥ 0) = l.any (· == n) := by
  unfold slices_Index___int_int_
  have key : ∀ (k i : Nat), i + k = l.length → ∃ r, loopU (slices_Index___int_int__b1 l n) (0, (i : Int)) = some r ∧ decide (r ≥ 0) = (l.drop i).any (· == n) := by
    intro k
    induction k with
    | zero =>
      intro i h
      have e : i = l.length := by omega
      subst e
      refine ⟨-1, loopU_ext ?_, ?_⟩
      · simp only [slices_Index___int_int__b1, lt_f, cond_false]
      · simp
    | succ k ih =>
      intro i h
      have hi : i < l.length := by omega
      rw [← List.getElem_cons_drop hi, List.any_cons]
      have hb : slices_Index___int_int__b1 l n (0, (i : Int)) = cond (l[i] == n) (ext (some (i : Int))) (nxt (0, ((i + 1 : Nat) : Int))) := by
        simp only [slices_Index___int_int__b1, lt_t hi, cond_true, idx_get hi, bind_s]
        rw [wr_id' (by omega) (by omega), beqI, beqI, show decide (n = l[i]) = decide (l[i] = n) by simp only [eq_comm]]; rfl
      cases hc : (l[i] == n) with
      | true =>
        rw [hc] at hb
        exact ⟨(i : Int), loopU_ext hb, by simp⟩
      | false =>
        rw [hc] at hb
        rw [loopU_nxt hb, Bool.false_or]
        exact ih (i + 1) (by omega)
  simpa using key l.length 0 (by omega)
theorem any_mem (l : List Int) (n : Int) : l.any (· == n) = decide (n ∈ l) := by
  rw [Bool.eq_iff_iff]; simp
theorem contains_eq (l : List Int) (n : Int) (hl : (l.length : Int) ≤ 9223372036854775807) : slices_Contains___int_int_ l n = some (decide (n ∈ l)) := by
  obtain ⟨r, h1, h2⟩ := index_eq l n hl
  unfold slices_Contains___int_int_
  rw [h1, bind_s, h2, any_mem]
def loseS (st : List (List Int)) (k : Int) : List (List Int) := st.dropLast ++ [st.getLastD [] ++ [k]]
theorem loseS_snoc (st : List (List Int)) (ls : List Int) (k : Int) : loseS (st ++ [ls]) k = st ++ [ls ++ [k]] := by simp [loseS]
theorem lose_eq (w : slave_way) (k : Int) (st : List (List Int)) (ls : List Int) (h : w.story = st ++ [ls]) (h1 : st.length ≤ 1000) (h2 : ls.length ≤ 1000) (h3 : 0 ≤ w.lost.Low) (h4 : w.lost.Low ≤ 1000000) (h5 : 0 ≤ w.lost.High) (h6 : w.lost.High ≤ 1000000) :
    slave_lose w k = some ⟨⟨w.lost.Low + 1, w.lost.High + 1⟩, loseS w.story k⟩ := by
  unfold slave_lose slices_Clone_____int___int_
  have hlen : w.story.length = st.length + 1 := by rw [h]; simp
  have e1 : wr ((w.story.length : Int) - 1) = (st.length : Int) := by rw [wr_id' (by omega) (by omega)]; omega
  have hi : idx w.story (st.length : Int) = some ls := by rw [h]; exact idx_nat (by simp)
  rw [if_pos (by rw [hlen]; unfold lim; omega), bind_s, e1, hi, bind_s, if_pos (by unfold lim; simp; omega), if_pos (by rw [hlen]; omega), wr_id' (by omega) (by omega), wr_id' (by omega) (by omega)]
  rw [h, loseS_snoc]
  simp
def WR (l : SlaveLine) (who : Nat) (wo : Nat → Bool) (i : Nat) (s : SlaveStart) : Rel := fun n st => Sto l who wo i st s ∧ n = (lostN st : Int)
def Pass (l : SlaveLine) (who : Nat) (wo : Nat → Bool) (i : Nat) (x : SlaveEvent) (s : SlaveStart) : Prop := x.Kind = 2 → wo i = false → x.Who = (who : Int) → x.Shown = s.Shown
def VP (l : SlaveLine) (who : Nat) (wo : Nat → Bool) (i : Nat) (x : SlaveEvent) (p : Nat) (q : slave_spot) : Rel := fun n st =>
  ∃ s0 st0 ls, Sto l who wo i st0 s0 ∧ Pass l who wo i x s0 ∧ st = st0 ++ [ls] ∧ Loss p ls ∧ q.lost = (ls.length : Int) ∧ ((ls.length : Int) ≤ x.Lost ∨ ls = []) ∧ q.state = runP l.Ring x ls p s0 ∧ n = (lostN st : Int)
theorem Loss.zero {ls : List Int} (h : Loss 0 ls) : ls = [] := by
  cases ls with
  | nil => rfl
  | cons k t => have := h.bd k (by simp); omega
theorem VP.bd {l : SlaveLine} (hS : OkS l) {who : Nat} {wo : Nat → Bool} {i : Nat} {x : SlaveEvent} (hx : x.Lost ≤ 3 ∨ x.Kind = 2) {p : Nat} (hp : x.Kind = 2 → p = 0) {q : slave_spot} {n : Int} {st : List (List Int)} (h : VP l who wo i x p q n st) :
    OkT l.Ring q.state ∧ 0 ≤ q.lost ∧ q.lost ≤ 3 ∧ 0 ≤ n ∧ n ≤ 33 ∧ ∃ st0 ls, st = st0 ++ [ls] ∧ st0.length ≤ 10 ∧ ls.length ≤ 3 := by
  obtain ⟨s0, st0, ls, h1, h2, h3, h4, h5, h6, h7, h8⟩ := h
  obtain ⟨b1, b2, b3, b4⟩ := h1.bd hS
  have h10 := hS.e
  have hl : ls.length ≤ 3 := by
    rcases h6 with h6 | h6
    · rcases hx with hx | hx
      · omega
      · have := hp hx; subst this; rw [h4.zero]; simp
    · rw [h6]; simp
  have hn : lostN st ≤ 33 := by rw [h3, lostN_snoc]; omega
  refine ⟨by rw [h7]; exact (h1.okT hS).run hS.r1 _ _ _, by omega, by omega, by omega, by omega, st0, ls, h3, by omega, hl⟩
def T1 (l : SlaveLine) (who : Nat) (wo : Nat → Bool) (i : Nat) (x : SlaveEvent) (s0 : SlaveStart) (n0 : Int) (st0 : List (List Int)) (q : slave_spot) : Rel := fun n st => Pass l who wo i x s0 ∧ q = ⟨s0, 0⟩ ∧ n = n0 ∧ st = st0 ++ [[]]
theorem T1_fin {l : SlaveLine} {who : Nat} {wo : Nat → Bool} {i : Nat} {x : SlaveEvent} (q : slave_spot) (n : Int) (st : List (List Int)) : UL [] (WR l who wo i) (T1 l who wo i x) q n st ↔ VP l who wo i x 0 q n st := by
  rw [UL.fin]
  constructor
  · rintro ⟨s0, n0, st0, ⟨h1, h2⟩, h3, rfl, rfl, rfl⟩
    exact ⟨s0, st0, [], h1, h3, rfl, Loss.nil 0, rfl, .inr rfl, rfl, by rw [h2, lostN_snoc]; simp⟩
  · rintro ⟨s0, st0, ls, h1, h2, h3, h4, h5, h6, h7, h8⟩
    have := h4.zero
    subst this
    refine ⟨s0, n, st0, ⟨h1, by rw [h8, h3, lostN_snoc]; simp⟩, h2, ?_, rfl, h3⟩
    cases q; simp at h5 h7; rw [h5, h7]; rfl
def T6 (l : SlaveLine) (x : SlaveEvent) (p : Nat) (q : slave_spot) (n0 : Int) (st0 : List (List Int)) (q' : slave_spot) : Rel := fun n st =>
  (q' = ⟨stepF l.Ring x p q.state, q.lost⟩ ∧ n = n0 ∧ st = st0) ∨ (q.lost < x.Lost ∧ q' = ⟨q.state, q.lost + 1⟩ ∧ n = n0 + 1 ∧ st = loseS st0 (p : Int))
theorem T6_fin {l : SlaveLine} {who : Nat} {wo : Nat → Bool} {i : Nat} {x : SlaveEvent} (p : Nat) (q : slave_spot) (n : Int) (st : List (List Int)) : UL [] (VP l who wo i x p) (T6 l x p) q n st ↔ VP l who wo i x (p + 1) q n st := by
  rw [UL.fin]
  constructor
  · rintro ⟨q0, n0, st0, ⟨s0, st1, ls, h1, h2, h3, h4, h5, h6, h7, h8⟩, ⟨rfl, rfl, rfl⟩ | ⟨hl, rfl, rfl, rfl⟩⟩
    · exact ⟨s0, st1, ls, h1, h2, h3, h4.succ, h5, h6, by simp only [runP, if_neg h4.notin, h7], h8⟩
    · refine ⟨s0, st1, ls ++ [(p : Int)], h1, h2, by rw [h3, loseS_snoc], h4.snoc, by simp [h5], .inl (by simp; omega), ?_, ?_⟩
      · simp only [runP]
        rw [if_pos (by simp), runP_snoc _ _ _ _ _ _ (by omega), h7]
      · rw [h8, h3, loseS_snoc, lostN_snoc, lostN_snoc]; simp; omega
  · rintro ⟨s0, st1, ls, h1, h2, h3, h4, h5, h6, h7, h8⟩
    rcases h4.cases with h | ⟨ls', rfl, h⟩
    · refine ⟨⟨runP l.Ring x ls p s0, q.lost⟩, n, st, ⟨s0, st1, ls, h1, h2, h3, h, h5, h6, rfl, h8⟩, .inl ⟨?_, rfl, rfl⟩⟩
      cases q
      simp only [runP, if_neg h.notin] at h7
      simp only at h7 h5 ⊢
      rw [h7]
    · have hle : ((ls'.length : Int) + 1) ≤ x.Lost := by
        rcases h6 with h6 | h6
        · simpa using h6
        · simp at h6
      refine ⟨⟨runP l.Ring x ls' p s0, ls'.length⟩, n - 1, st1 ++ [ls'], ⟨s0, st1, ls', h1, h2, rfl, h, rfl, .inl (by omega), rfl, ?_⟩, .inr ⟨by show (ls'.length : Int) < x.Lost; omega, ?_, by omega, by rw [loseS_snoc, h3]⟩⟩
      · rw [h8, h3, lostN_snoc, lostN_snoc]; simp; omega
      · cases q
        simp only [runP] at h7
        rw [if_pos (by simp), runP_snoc _ _ _ _ _ _ (by omega)] at h7
        simp at h5 h7
        rw [h7, h5]
def T3 (q : slave_spot) (n0 : Int) (st0 : List (List Int)) (s : SlaveStart) : Rel := fun n st => s = q.state ∧ n = n0 ∧ st = st0
theorem T3_fin {l : SlaveLine} (hS : OkS l) {who : Nat} {wo : Nat → Bool} {i : Nat} (hi : i < l.Events.length) (p : Nat) (hp : l.Events[i].Kind = 2 → p = 0) (hp2 : l.Events[i].Kind ≠ 2 → p = l.Events[i].Count.toNat) (s : SlaveStart) (n : Int) (st : List (List Int)) :
    UL [] (VP l who wo i l.Events[i] p) T3 s n st ↔ WR l who wo (i + 1) s n st := by
  rw [UL.fin]
  constructor
  · rintro ⟨q0, n0, st0, ⟨s0, st1, ls, h1, h2, h3, h4, h5, h6, h7, h8⟩, rfl, rfl, rfl⟩
    refine ⟨?_, h8⟩
    by_cases hk : l.Events[i].Kind = 2
    · have e := hp hk
      subst e
      have e := h4.zero
      subst e
      rw [h3, h7]
      exact Sto.look hi hk (h2 hk) h1
    · have e := hp2 hk
      subst e
      rw [h3, h7]
      refine Sto.send hi hk h1 h4 ?_
      rcases h6 with h6 | h6
      · exact h6
      · have := (hS.at hi).c hk; rw [h6]; simp; omega
  · rintro ⟨h1, h2⟩
    cases h1 with
    | look hi hk hs h => exact ⟨⟨s, 0⟩, n, _, ⟨s, _, [], h, fun _ => hs, rfl, Loss.nil _, rfl, .inr rfl, by have := hp hk; subst this; rfl, h2⟩, rfl, rfl, rfl⟩
    | @send _ st0 s0 ls hi hk h hl hn => exact ⟨⟨_, ls.length⟩, n, _, ⟨s0, st0, ls, h, fun e => absurd e hk, rfl, by rw [hp2 hk]; exact hl, rfl, .inl hn, by rw [hp2 hk], h2⟩, rfl, rfl, rfl⟩
theorem GoodM.put {K : Type} {kl : K → List Int} (hinj : ∀ a b, kl a = kl b → a = b) {m : List (K × slave_way)} {V : K → Rel} (h : GoodM kl m V) {key : K} {w : slave_way} {U : Rel} (hw : Sum w U) (hno : ∀ n st, ¬ V key n st) :
    GoodM kl (mput kl m key w) (fun k n st => V k n st ∨ (k = key ∧ U n st)) := by
  have := h.add hinj (key := key) hw
  unfold addM at this
  cases hg : mget kl m key with
  | none => rw [hg] at this; exact this
  | some o => exact absurd (h.has key o hg).low (hno _ _)
section
variable {l : slave_line} {who i : Nat} {x : SlaveEvent}
def woF (l : slave_line) (i : Nat) : Bool := decide ((i : Int) ∈ l.without)
theorem skip_eq (hw : (l.without.length : Int) ≤ 9223372036854775807) (s : SlaveStart) :
    (cond (((x.Kind == 2) && (x.Who == (who : Int))) && (s.Shown != x.Shown)) ((slices_Contains___int_int_ l.without (i : Int)).bind fun rv_10 => some (!rv_10)) (some false)) = some (open Classical in decide (¬ Pass l.SlaveLine who (woF l) i x s)) := by
  rw [contains_eq _ _ hw, bind_s]
  simp only [beqI, bneI]
  unfold Pass woF
  by_cases h1 : x.Kind = 2
  · by_cases h2 : x.Who = (who : Int)
    · by_cases h3 : s.Shown = x.Shown
      · simp [h1, h2, h3]
      · by_cases h4 : (i : Int) ∈ l.without
        · simp [h1, h2, h3, h4]
        · simp [h1, h2, h3, h4]; exact fun e => h3 e.symm
    · simp [h1, h2]
  · simp [h1]
end
section
variable {l : slave_line} {who i : Nat}
theorem pulse_tells (hS : OkS l.SlaveLine) (hi : i < l.SlaveLine.Events.length) (hk : l.SlaveLine.Events[i].Kind ≠ 2) {p : Nat} (hp : (p : Int) < l.SlaveLine.Events[i].Count) {mp : List (slave_spot × slave_way)} (hm : GoodM kl_143 mp (VP l.SlaveLine who (woF l) i l.SlaveLine.Events[i] p)) :
    Tells (sb1_y5 l l.SlaveLine.Events[i] ((p : Int), signF l.SlaveLine.Events[i] p) mp) (fun out => GoodM kl_143 out (VP l.SlaveLine who (woF l) i l.SlaveLine.Events[i] (p + 1))) := by
  have hx := hS.at hi
  have hc := hx.c hk
  unfold sb1_y5
  refine tloop (fun s => LeftOk kl_143 (VP l.SlaveLine who (woF l) i l.SlaveLine.Events[i] p) s.1 ∧ GoodM kl_143 s.2 (UL s.1 (VP l.SlaveLine who (woF l) i l.SlaveLine.Events[i] p) (T6 l.SlaveLine l.SlaveLine.Events[i] p))) (fun s => s.1.length) ?_
    ⟨hm.left inj_143, GoodM.empty.congr fun k n st => UL.start inj_143 hm k n st⟩
  rintro ⟨left, out⟩ ⟨hL, hO⟩
  unfold sb1_b6
  refine tpick (fun e => tend (tret ?_)) fun ⟨q, w⟩ left' hp' => ?_
  · simp only at e hO
    rw [e] at hO
    exact hO.congr fun k n st => T6_fin p k n st
  · obtain ⟨hw, hL', hlt, _⟩ := hL.pick hp'
    simp only at hw hL hO
    obtain ⟨b1, b2, b3, b4, b5, st0, ls, b6, b7, b8⟩ := VP.bd hS (x := l.SlaveLine.Events[i]) (.inl (by omega)) (fun h => absurd h hk) hw.low
    obtain ⟨sh, hh⟩ := hw.high
    obtain ⟨_, _, _, c4, c5, _⟩ := VP.bd hS (x := l.SlaveLine.Events[i]) (.inl (by omega)) (fun h => absurd h hk) hh
    refine tdet (after_eq hS.r1 hS.r2 b1 (signF_or _ _)) (tdet (add_eq _ _ _) ?_)
    have g1 := hO.add inj_143 (key := ⟨afterF l.SlaveLine.Ring q.state (signF l.SlaveLine.Events[i] p), q.lost⟩) hw
    by_cases hl : q.lost < l.SlaveLine.Events[i].Lost
    · rw [show decide (q.lost < l.SlaveLine.Events[i].Lost) = true by simpa using hl, cond_true]
      refine tdet (lose_eq w (p : Int) st0 ls b6 (by omega) (by omega) (by omega) (by omega) (by omega) (by omega)) (tdet (add_eq _ _ _) (tnxt ⟨⟨hL', ?_⟩, hlt⟩))
      rw [wr_id' (n := q.lost + 1) (by omega) (by omega)]
      have g2 := g1.add inj_143 (key := ⟨q.state, q.lost + 1⟩) (hw.map (w' := ⟨⟨w.lost.Low + 1, w.lost.High + 1⟩, loseS w.story p⟩) 1 (fun st => loseS st (p : Int)) rfl rfl rfl)
      refine g2.congr fun k n st => ?_
      rw [UL.pick inj_143 hL hp']
      constructor
      · rintro ((h | ⟨rfl, h⟩) | ⟨rfl, n0, st0, hV, rfl, rfl⟩)
        · exact .inl h
        · exact .inr ⟨n, st, h, .inl ⟨rfl, rfl, rfl⟩⟩
        · exact .inr ⟨n0, st0, hV, .inr ⟨hl, rfl, rfl, rfl⟩⟩
      · rintro (h | ⟨n0, st0, hV, ⟨rfl, rfl, rfl⟩ | ⟨_, rfl, rfl, rfl⟩⟩)
        · exact .inl (.inl h)
        · exact .inl (.inr ⟨rfl, hV⟩)
        · exact .inr ⟨rfl, n0, st0, hV, rfl, rfl⟩
    · rw [show decide (q.lost < l.SlaveLine.Events[i].Lost) = false by simpa using hl, cond_false]
      refine tnxt ⟨⟨hL', ?_⟩, hlt⟩
      refine g1.congr fun k n st => ?_
      rw [UL.pick inj_143 hL hp']
      constructor
      · rintro (h | ⟨rfl, h⟩)
        · exact .inl h
        · exact .inr ⟨n, st, h, .inl ⟨rfl, rfl, rfl⟩⟩
      · rintro (h | ⟨n0, st0, hV, ⟨rfl, rfl, rfl⟩ | ⟨h, _⟩⟩)
        · exact .inl h
        · exact .inr ⟨rfl, hV⟩
        · exact absurd h hl
theorem pulses_tells (hS : OkS l.SlaveLine) (hi : i < l.SlaveLine.Events.length) (hk : l.SlaveLine.Events[i].Kind ≠ 2) {mp : List (slave_spot × slave_way)} (hm : GoodM kl_143 mp (VP l.SlaveLine who (woF l) i l.SlaveLine.Events[i] 0)) :
    Tells (slave_line_pulses_1N (sb1_y5 l l.SlaveLine.Events[i]) l.SlaveLine.Events[i] l mp) (fun out => GoodM kl_143 out (VP l.SlaveLine who (woF l) i l.SlaveLine.Events[i] l.SlaveLine.Events[i].Count.toNat)) := by
  have hx := hS.at hi
  have hc := hx.c hk
  unfold slave_line_pulses_1N
  refine tfor0 l.SlaveLine.Events[i].Count.toNat (fun p s => s.1 = (p : Int) ∧ GoodM kl_143 s.2 (VP l.SlaveLine who (woF l) i l.SlaveLine.Events[i] p)) ⟨rfl, hm⟩ ?_ ?_
  · rintro p ⟨_, m⟩ hp ⟨rfl, hm⟩
    simp only at hm
    unfold slave_line_pulses_1N_b1
    dsimp only
    have hlt : (p : Int) < l.SlaveLine.Events[i].Count := by omega
    rw [show decide ((p : Int) < l.SlaveLine.Events[i].Count) = true by simpa using hlt, cond_true]
    refine tgrd (by have := hx.k; omega) (tdet (tab_eq hx hk l hlt) (tbnd (pulse_tells hS hi hk hlt hm) fun out ho => tnxt ⟨wr_id' (by omega) (by omega), ho⟩))
  · rintro ⟨_, m⟩ ⟨rfl, hm⟩
    simp only at hm
    unfold slave_line_pulses_1N_b1
    dsimp only
    rw [show decide (((l.SlaveLine.Events[i].Count.toNat : Nat) : Int) < l.SlaveLine.Events[i].Count) = false by simp; omega, cond_false]
    exact tend (tret hm)
theorem k4_tells {out : List (SlaveStart × slave_way)} {kv : slave_spot × slave_way} {left : List (slave_spot × slave_way)} {S : _ → Prop} {R : _ → Prop} (h : S (left, addM kl_57 out kv.1.state kv.2)) :
    Tells (cond ((mget kl_57 out kv.1.state).isSome)
  ((ND.det (slave_widened (slave_way.mk (Span.mk ((((mget kl_57 out kv.1.state).getD ((slave_way.mk (Span.mk 0 0) ([] : List (List Int))) : slave_way)).lost).Low) ((((mget kl_57 out kv.1.state).getD ((slave_way.mk (Span.mk 0 0) ([] : List (List Int))) : slave_way)).lost).High)) (((mget kl_57 out kv.1.state).getD ((slave_way.mk (Span.mk 0 0) ([] : List (List Int))) : slave_way)).story)) kv.2) fun rv_3 =>
  sb1_k4 out kv left rv_3.lost.Low rv_3.lost.High rv_3.story))
  (sb1_k4 out kv left kv.2.lost.Low kv.2.lost.High kv.2.story)) (nlp S R) := by
  unfold addM at h
  cases hg : mget kl_57 out kv.1.state with
  | none =>
    rw [hg] at h
    exact tnxt h
  | some o =>
    rw [hg] at h
    exact tdet (widened_eq _ _) (tnxt h)
theorem k2_tells (hS : OkS l.SlaveLine) (hi : i < l.SlaveLine.Events.length) {p : Nat} (hp : l.SlaveLine.Events[i].Kind = 2 → p = 0) (hp2 : l.SlaveLine.Events[i].Kind ≠ 2 → p = l.SlaveLine.Events[i].Count.toNat) {mp : List (slave_spot × slave_way)}
    (hm : GoodM kl_143 mp (VP l.SlaveLine who (woF l) i l.SlaveLine.Events[i] p)) {self_ : (List (SlaveStart × slave_way)) → Int → slave_line → Int → ND (List (SlaveStart × slave_way))} {R : List (SlaveStart × slave_way) → Prop}
    (hself : ∀ out, GoodM kl_57 out (WR l.SlaveLine who (woF l) (i + 1)) → Tells (self_ out ((i + 1 : Nat) : Int) l (who : Int)) R) : Tells (sb1_k2 (i : Int) l (who : Int) self_ mp) R := by
  have h10 := hS.e
  unfold sb1_k2
  refine tloop (fun s => LeftOk kl_143 (VP l.SlaveLine who (woF l) i l.SlaveLine.Events[i] p) s.1 ∧ GoodM kl_57 s.2 (UL s.1 (VP l.SlaveLine who (woF l) i l.SlaveLine.Events[i] p) T3)) (fun s => s.1.length) ?_
    ⟨hm.left inj_143, GoodM.empty.congr fun k n st => UL.start inj_143 hm k n st⟩
  rintro ⟨left, out⟩ ⟨hL, hO⟩
  unfold sb1_b3
  refine tpick (fun e => tend ?_) fun kv left' hp' => ?_
  · simp only at e hO
    rw [e] at hO
    rw [wr_id' (n := (i : Int) + 1) (by omega) (by omega)]
    exact tbnd (hself out (hO.congr fun k n st => T3_fin hS hi p hp hp2 k n st)) fun a ha => tret ha
  · obtain ⟨hw, hL', hlt, _⟩ := hL.pick hp'
    simp only at hL hO
    refine k4_tells ⟨⟨hL', ?_⟩, hlt⟩
    refine (hO.add inj_57 (key := kv.1.state) hw).congr fun k n st => ?_
    rw [UL.pick inj_143 hL hp']
    constructor
    · rintro (h | ⟨rfl, h⟩)
      · exact .inl h
      · exact .inr ⟨n, st, h, rfl, rfl, rfl⟩
    · rintro (h | ⟨n0, st0, hV, rfl, rfl, rfl⟩)
      · exact .inl h
      · exact .inr ⟨rfl, hV⟩
theorem event_tells (hS : OkS l.SlaveLine) (hw : (l.without.length : Int) ≤ 9223372036854775807) (hi : i < l.SlaveLine.Events.length) {now : List (SlaveStart × slave_way)} (hm : GoodM kl_57 now (WR l.SlaveLine who (woF l) i))
    {self_ : (List (SlaveStart × slave_way)) → Int → slave_line → Int → ND (List (SlaveStart × slave_way))} {R : List (SlaveStart × slave_way) → Prop}
    (hself : ∀ out, GoodM kl_57 out (WR l.SlaveLine who (woF l) (i + 1)) → Tells (self_ out ((i + 1 : Nat) : Int) l (who : Int)) R) : Tells (loopN (sb1_b1 (i : Int) l (who : Int) self_ l.SlaveLine.Events[i]) (now, [])) R := by
  classical
  refine tloop (fun s => LeftOk kl_57 (WR l.SlaveLine who (woF l) i) s.1 ∧ GoodM kl_143 s.2 (UL s.1 (WR l.SlaveLine who (woF l) i) (T1 l.SlaveLine who (woF l) i l.SlaveLine.Events[i]))) (fun s => s.1.length) ?_
    ⟨hm.left inj_57, GoodM.empty.congr fun k n st => UL.start inj_57 hm k n st⟩
  rintro ⟨left, out⟩ ⟨hL, hO⟩
  unfold sb1_b1
  refine tpick (fun e => tend ?_) fun ⟨s, w⟩ left' hp' => ?_
  · simp only at e hO
    rw [e] at hO
    have hO' := hO.congr fun k n st => T1_fin k n st
    by_cases hk : l.SlaveLine.Events[i].Kind = 2
    · rw [bneI, decide_eq_false (by simpa using hk), cond_false]
      exact k2_tells hS hi (fun _ => rfl) (fun h => absurd hk h) hO' hself
    · rw [bneI, decide_eq_true hk, cond_true]
      refine tdet (a := (l.SlaveLine.Events[i], l)) rfl (tbnd (pulses_tells hS hi hk hO') fun so hso => k2_tells hS hi (fun h => absurd h hk) (fun _ => rfl) hso hself)
  · obtain ⟨hsw, hL', hlt, hno⟩ := hL.pick hp'
    simp only at hL hO hsw
    refine tdet (skip_eq hw s) ?_
    by_cases hP : Pass l.SlaveLine who (woF l) i l.SlaveLine.Events[i] s
    · rw [decide_eq_false (fun h => h hP), cond_false]
      have hl := (hsw.low.1.bd hS)
      refine tgrd (by have := hl.1; have := hS.e; have := hl.2.1; simp only [List.length_cons, List.length_nil]; unfold lim; omega) (tnxt ⟨⟨hL', ?_⟩, hlt⟩)
      have g := hO.put inj_143 (key := ⟨s, 0⟩) (hsw.map (w' := ⟨w.lost, w.story ++ [[]]⟩) 0 (fun st => st ++ [[]]) (by simp) (by simp) rfl) ?_
      · refine g.congr fun k n st => ?_
        rw [UL.pick inj_57 hL hp']
        constructor
        · rintro (h | ⟨rfl, n0, st0, h, rfl, rfl⟩)
          · exact .inl h
          · exact .inr ⟨n0, st0, h, hP, rfl, by omega, rfl⟩
        · rintro (h | ⟨n0, st0, hV, _, rfl, rfl, rfl⟩)
          · exact .inl h
          · exact .inr ⟨rfl, n, st0, hV, by omega, rfl⟩
      · rintro n st ⟨s0, n0, st0, h1, _, _, h2, _⟩
        have : s = s0 := by injection h2
        subst this
        exact h1 w (hp'.perm.mem_iff.2 (by simp))
    · rw [decide_eq_true hP, cond_true]
      refine tnxt ⟨⟨hL', ?_⟩, hlt⟩
      refine hO.congr fun k n st => ?_
      rw [UL.pick inj_57 hL hp']
      constructor
      · exact .inl
      · rintro (h | ⟨n0, st0, hV, h, _⟩)
        · exact h
        · exact absurd h hP
theorem behind_n (hS : OkS l.SlaveLine) (hw : (l.without.length : Int) ≤ 9223372036854775807) : ∀ (d i : Nat) (now : List (SlaveStart × slave_way)), i + d = l.SlaveLine.Events.length → GoodM kl_57 now (WR l.SlaveLine who (woF l) i) →
    Tells (sb1_n (d + 1) now (i : Int) l (who : Int)) (fun out => GoodM kl_57 out (WR l.SlaveLine who (woF l) l.SlaveLine.Events.length))
  | 0, i, now, hd, hm => by
    have e : i = l.SlaveLine.Events.length := by omega
    subst e
    simp only [sb1_n, sb1_step]
    rw [beqI, decide_eq_true rfl, cond_true]
    exact tret hm
  | d + 1, i, now, hd, hm => by
    have hi : i < l.SlaveLine.Events.length := by omega
    have : sb1_n (d + 1 + 1) now (i : Int) l (who : Int) = sb1_step (sb1_n (d + 1)) now (i : Int) l (who : Int) := rfl
    rw [this]
    unfold sb1_step
    rw [beqI, decide_eq_false (by omega), cond_false]
    exact tdet (idx_get hi) (event_tells hS hw hi hm fun out ho => behind_n hS hw d (i + 1) out (by omega) ho)
abbrev Behind (l : SlaveLine) (who : Nat) (wo : Nat → Bool) (m : List (SlaveStart × slave_way)) : Prop := GoodM kl_57 m (WR l who wo l.Events.length)
theorem behind_tells (hS : OkS l.SlaveLine) (hw : (l.without.length : Int) ≤ 9223372036854775807) (hwho : who < l.SlaveLine.Starts.length) : Tells (slave_line_behind l (who : Int)) (Behind l.SlaveLine who (woF l)) := by
  unfold slave_line_behind
  refine tdet (idx_get hwho) (tbnd (R := Behind l.SlaveLine who (woF l)) ?_ fun a ha => tret ha)
  unfold sb1
  refine tlim (l.SlaveLine.Events.length + 1) (behind_n hS hw l.SlaveLine.Events.length 0 _ (by omega) ?_)
  have g := GoodM.empty.put inj_57 (key := l.SlaveLine.Starts[who]) (w := ⟨⟨0, 0⟩, []⟩) (U := fun n st => n = 0 ∧ st = []) ⟨⟨rfl, rfl⟩, ⟨[], rfl, rfl⟩, fun n st h => by rw [h.1]; exact ⟨Int.le_refl _, Int.le_refl _⟩⟩ (fun n st h => h)
  refine g.congr fun k n st => ?_
  constructor
  · rintro (h | ⟨rfl, rfl, rfl⟩)
    · exact h.elim
    · exact ⟨Sto.zero hwho, rfl⟩
  · rintro ⟨h, h2⟩
    cases h with
    | zero hw => exact .inr ⟨rfl, h2, rfl⟩
end
end Go.Proofs.YtmbgmefmkjeahaaDoor.Rt
