/- Plain laws of the slave seat: the second package's tables tell of every story. Under the conditions that each names. Plain laws of the slave seat: the second package's walk of the pulses of an event. Under the conditions that each names. Plain laws of the slave seat: the second package's tables behind a line, and its answers. Under the conditions that each names. Plain laws of the slave seat: the second package's answers for one clock. Under the conditions that each names. -/
import Derived.Test.YtmbgmefmkjeahaaDoorC15PI
set_option linter.unusedVariables false
set_option linter.unusedSimpArgs false
set_option maxRecDepth 100000
set_option maxHeartbeats 4000000
namespace Go.Proofs.YtmbgmefmkjeahaaDoor.Rt
open Go Go.RowKit
abbrev Cd := r7could
abbrev cd0 : Cd := r7could.mk false (Span.mk 0 0)
structure SumC (c : Cd) (V : Rel) : Prop where
  low : c.is = true → ∃ st, V c.lost.Low st
  high : c.is = true → ∃ st, V c.lost.High st
  bd : c.is = true → ∀ n st, V n st → c.lost.Low ≤ n ∧ n ≤ c.lost.High
  no : c.is = false → ∀ n st, ¬ V n st
theorem SumC.congr {c : Cd} {V U : Rel} (h : SumC c V) (e : ∀ n st, V n st ↔ U n st) : SumC c U :=
  ⟨fun h1 => (h.low h1).imp fun st => (e _ _).1, fun h1 => (h.high h1).imp fun st => (e _ _).1, fun h1 n st hu => h.bd h1 n st ((e n st).2 hu), fun h1 n st hu => h.no h1 n st ((e n st).2 hu)⟩
theorem SumC.of {c : Cd} {V U : Rel} (h : SumC c V) (e : ∀ n, (∃ st, V n st) ↔ ∃ st, U n st) : SumC c U :=
  ⟨fun h1 => (e _).1 (h.low h1), fun h1 => (e _).1 (h.high h1), fun h1 n st hu => by obtain ⟨st', h'⟩ := (e n).2 ⟨st, hu⟩; exact h.bd h1 n st' h', fun h1 n st hu => by obtain ⟨st', h'⟩ := (e n).2 ⟨st, hu⟩; exact h.no h1 n st' h'⟩
theorem SumC.empty {V : Rel} (h : ∀ n st, ¬ V n st) : SumC cd0 V := ⟨fun h1 => (by cases h1), fun h1 => (by cases h1), fun h1 => (by cases h1), fun _ => h⟩
def eitherF (a b : Cd) : Cd := if a.is = false then b else if b.is = false then a else ⟨true, ⟨if b.lost.Low < a.lost.Low then b.lost.Low else a.lost.Low, if b.lost.High > a.lost.High then b.lost.High else a.lost.High⟩⟩
theorem SumC.either {a b : Cd} {A B : Rel} (ha : SumC a A) (hb : SumC b B) : SumC (eitherF a b) (fun n st => A n st ∨ B n st) := by
  unfold eitherF
  cases h1 : a.is with
  | false =>
    rw [if_pos rfl]
    exact hb.congr fun n st => ⟨.inr, fun h => h.elim (fun h => absurd h (ha.no h1 n st)) id⟩
  | true =>
    rw [if_neg (by simp)]
    cases h2 : b.is with
    | false =>
      rw [if_pos rfl]
      exact ha.congr fun n st => ⟨.inl, fun h => h.elim id (fun h => absurd h (hb.no h2 n st))⟩
    | true =>
      rw [if_neg (by simp)]
      obtain ⟨s1, l1⟩ := ha.low h1
      obtain ⟨s2, l2⟩ := ha.high h1
      obtain ⟨s3, l3⟩ := hb.low h2
      obtain ⟨s4, l4⟩ := hb.high h2
      refine ⟨fun _ => ?_, fun _ => ?_, fun _ n st h => ?_, fun h => by cases h⟩
      · by_cases h : b.lost.Low < a.lost.Low
        · simp only [if_pos h]; exact ⟨s3, .inr l3⟩
        · simp only [if_neg h]; exact ⟨s1, .inl l1⟩
      · by_cases h : b.lost.High > a.lost.High
        · simp only [if_pos h]; exact ⟨s4, .inr l4⟩
        · simp only [if_neg h]; exact ⟨s2, .inl l2⟩
      · dsimp only
        rcases h with h | h
        · have := ha.bd h1 n st h; split <;> split <;> omega
        · have := hb.bd h2 n st h; split <;> split <;> omega
def stateN (k : Nat) : SlaveStart := ⟨((k / 2 : Nat) : Int), ((k % 2 : Nat) : Int)⟩
def placeN (s : SlaveStart) : Nat := (2 * s.Shown + s.Last).toNat
theorem OkT.place {R : Int} {s : SlaveStart} (h : OkT R s) : (placeN s : Int) = 2 * s.Shown + s.Last ∧ placeN s < (2 * R).toNat := by
  have := h.a; have := h.b; have := h.c
  unfold placeN; omega
theorem state_place {R : Int} {s : SlaveStart} (h : OkT R s) : stateN (placeN s) = s := by
  have := h.a; have := h.b; have := h.c
  have e := h.place.1
  unfold stateN
  have e1 : ((placeN s / 2 : Nat) : Int) = s.Shown := by omega
  have e2 : ((placeN s % 2 : Nat) : Int) = s.Last := by omega
  rw [e1, e2]
theorem place_state (k : Nat) : placeN (stateN k) = k := by
  unfold placeN stateN
  dsimp only
  omega
theorem stateN_ok {R : Int} {k : Nat} (h : k < (2 * R).toNat) : OkT R (stateN k) := by
  unfold stateN
  exact ⟨by dsimp only; omega, by dsimp only; omega, by dsimp only; omega⟩
structure GoodT (R : Int) (t : List Cd) (V : SlaveStart → Rel) : Prop where
  len : t.length = (2 * R).toNat
  cell : ∀ k, k < (2 * R).toNat → SumC (t.getD k cd0) (V (stateN k))
theorem GoodT.congr {R : Int} {t : List Cd} {V U : SlaveStart → Rel} (h : GoodT R t V) (e : ∀ s n st, OkT R s → (V s n st ↔ U s n st)) : GoodT R t U := ⟨h.len, fun k hk => (h.cell k hk).congr fun n st => e _ n st (stateN_ok hk)⟩
theorem GoodT.of {R : Int} {t : List Cd} {V U : SlaveStart → Rel} (h : GoodT R t V) (e : ∀ s n, OkT R s → ((∃ st, V s n st) ↔ ∃ st, U s n st)) : GoodT R t U := ⟨h.len, fun k hk => (h.cell k hk).of fun n => e _ n (stateN_ok hk)⟩
theorem GoodT.empty {R : Int} {V : SlaveStart → Rel} (h : ∀ s n st, ¬ V s n st) : GoodT R (List.replicate (2 * R).toNat cd0) V :=
  ⟨by simp, fun k hk => by rw [List.getD, List.getElem?_replicate, if_pos hk]; exact SumC.empty (h _)⟩
theorem getD_set {α : Type} (t : List α) (i k : Nat) (x d : α) (hi : i < t.length) : (t.set i x).getD k d = if k = i then x else t.getD k d := by
  simp only [List.getD, List.getElem?_set]
  by_cases h : k = i
  · subst h; simp [hi]
  · simp [h, Ne.symm h]
theorem GoodT.put {R : Int} {t : List Cd} {V : SlaveStart → Rel} (h : GoodT R t V) {s : SlaveStart} (hs : OkT R s) {c : Cd} {U : Rel} (hc : SumC c U) :
    GoodT R (t.set (placeN s) (eitherF (t.getD (placeN s) cd0) c)) (fun s' n st => V s' n st ∨ (s' = s ∧ U n st)) := by
  have hp := hs.place.2
  refine ⟨by rw [List.length_set]; exact h.len, fun k hk => ?_⟩
  rw [getD_set _ _ _ _ _ (by rw [h.len]; exact hp)]
  by_cases e : k = placeN s
  · subst e
    rw [if_pos rfl, state_place hs]
    have := (h.cell _ hk).either hc
    rw [state_place hs] at this
    exact this.congr fun n st => ⟨fun h => h.elim .inl fun h => .inr ⟨rfl, h⟩, fun h => h.elim .inl fun h => .inr h.2⟩
  · rw [if_neg e]
    refine (h.cell k hk).congr fun n st => ⟨.inl, fun h => h.elim id fun h => ?_⟩
    exact absurd (by rw [← h.1, place_state]) e
structure GoodX (R : Int) (L : Nat) (mx : List (List Cd)) (V : slave_spot → Rel) : Prop where
  len : mx.length = L + 1
  row : ∀ j, j ≤ L → GoodT R (mx.getD j []) (fun s => V ⟨s, (j : Int)⟩)
theorem GoodX.congr {R : Int} {L : Nat} {mx : List (List Cd)} {V U : slave_spot → Rel} (h : GoodX R L mx V) (e : ∀ q n st, V q n st ↔ U q n st) : GoodX R L mx U := ⟨h.len, fun j hj => (h.row j hj).congr fun s n st _ => e _ n st⟩
theorem GoodX.put {R : Int} {L : Nat} {mx : List (List Cd)} {V : slave_spot → Rel} (h : GoodX R L mx V) {s : SlaveStart} (hs : OkT R s) {j : Nat} (hj : j ≤ L) {c : Cd} {U : Rel} (hc : SumC c U) :
    GoodX R L (mx.set j ((mx.getD j []).set (placeN s) (eitherF ((mx.getD j []).getD (placeN s) cd0) c))) (fun q n st => V q n st ∨ (q = ⟨s, (j : Int)⟩ ∧ U n st)) := by
  refine ⟨by rw [List.length_set]; exact h.len, fun k hk => ?_⟩
  rw [getD_set _ _ _ _ _ (by have := h.len; omega)]
  by_cases e : k = j
  · subst e
    rw [if_pos rfl]
    refine ((h.row k hk).put hs hc).congr fun s' n st _ => ?_
    constructor
    · rintro (h | ⟨rfl, h⟩)
      · exact .inl h
      · exact .inr ⟨rfl, h⟩
    · rintro (h | ⟨h1, h⟩)
      · exact .inl h
      · injection h1 with h1; exact .inr ⟨h1, h⟩
  · rw [if_neg e]
    refine (h.row k hk).congr fun s' n st _ => ⟨.inl, fun h => h.elim id fun h => ?_⟩
    have h1 := h.1
    injection h1 with h1 h2
    exact absurd (by omega) e
def UP {K K' : Type} (proc : K → Prop) (V : K → Rel) (T : K → Int → List (List Int) → K' → Rel) (k' : K') : Rel := fun n st => ∃ k n0 st0, proc k ∧ V k n0 st0 ∧ T k n0 st0 k' n st
theorem UP.fin {K K' : Type} {proc : K → Prop} {V : K → Rel} {T : K → Int → List (List Int) → K' → Rel} (h : ∀ k n st, V k n st → proc k) (k' : K') (n : Int) (st : List (List Int)) : UP proc V T k' n st ↔ UL [] V T k' n st := by
  rw [UL.fin]
  exact ⟨fun ⟨k, n0, st0, _, h1, h2⟩ => ⟨k, n0, st0, h1, h2⟩, fun ⟨k, n0, st0, h1, h2⟩ => ⟨k, n0, st0, h k n0 st0 h1, h1, h2⟩⟩
def Proc (k s : Nat) (q : slave_spot) : Prop := q.lost < (k : Int) ∨ (q.lost = (k : Int) ∧ placeN q.state < s)
theorem Proc.succ {R : Int} {k s : Nat} {q : slave_spot} (hq : OkT R q.state) : Proc k (s + 1) q ↔ Proc k s q ∨ q = ⟨stateN s, (k : Int)⟩ := by
  unfold Proc
  constructor
  · rintro (h | ⟨h1, h2⟩)
    · exact .inl (.inl h)
    · by_cases e : placeN q.state = s
      · right
        cases q
        simp only at h1 e hq
        rw [h1, ← e, state_place hq]
      · exact .inl (.inr ⟨h1, by omega⟩)
  · rintro ((h | h) | rfl)
    · exact .inl h
    · exact .inr ⟨h.1, by omega⟩
    · exact .inr ⟨rfl, by dsimp only; rw [place_state]; omega⟩
theorem Proc.next {R : Int} {k : Nat} {q : slave_spot} (hq : OkT R q.state) : Proc k (2 * R).toNat q ↔ Proc (k + 1) 0 q := by
  unfold Proc
  have := hq.place.2
  omega
theorem UP.succ {R : Int} {K' : Type} {V : slave_spot → Rel} {T : slave_spot → Int → List (List Int) → K' → Rel} (hV : ∀ q n st, V q n st → OkT R q.state) {k s : Nat} (k' : K') (n : Int) (st : List (List Int)) :
    UP (Proc k (s + 1)) V T k' n st ↔ UP (Proc k s) V T k' n st ∨ ∃ n0 st0, V ⟨stateN s, (k : Int)⟩ n0 st0 ∧ T ⟨stateN s, (k : Int)⟩ n0 st0 k' n st := by
  constructor
  · rintro ⟨q, n0, st0, h1, h2, h3⟩
    rcases (Proc.succ (hV q n0 st0 h2)).1 h1 with h | rfl
    · exact .inl ⟨q, n0, st0, h, h2, h3⟩
    · exact .inr ⟨n0, st0, h2, h3⟩
  · rintro (⟨q, n0, st0, h1, h2, h3⟩ | ⟨n0, st0, h2, h3⟩)
    · exact ⟨q, n0, st0, (Proc.succ (hV q n0 st0 h2)).2 (.inl h1), h2, h3⟩
    · exact ⟨_, n0, st0, (Proc.succ (hV _ n0 st0 h2)).2 (.inr rfl), h2, h3⟩
theorem UP.next {R : Int} {K' : Type} {V : slave_spot → Rel} {T : slave_spot → Int → List (List Int) → K' → Rel} (hV : ∀ q n st, V q n st → OkT R q.state) {k : Nat} (k' : K') (n : Int) (st : List (List Int)) :
    UP (Proc k (2 * R).toNat) V T k' n st ↔ UP (Proc (k + 1) 0) V T k' n st :=
  ⟨fun ⟨q, n0, st0, h1, h2, h3⟩ => ⟨q, n0, st0, (Proc.next (hV q n0 st0 h2)).1 h1, h2, h3⟩, fun ⟨q, n0, st0, h1, h2, h3⟩ => ⟨q, n0, st0, (Proc.next (hV q n0 st0 h2)).2 h1, h2, h3⟩⟩
theorem UP.zero {K' : Type} {V : slave_spot → Rel} {T : slave_spot → Int → List (List Int) → K' → Rel} (hV : ∀ q n st, V q n st → 0 ≤ q.lost) (k' : K') (n : Int) (st : List (List Int)) : ¬ UP (Proc 0 0) V T k' n st := by
  rintro ⟨q, n0, st0, h | h, h2, _⟩
  · have := hV q n0 st0 h2; omega
  · omega
structure Rows0 (R : Int) (L : Nat) (mx : List (List Cd)) (k : Nat) : Prop where
  len : mx.length = L + 1
  row : ∀ j, j < k → mx.getD j [] = List.replicate (2 * R).toNat cd0
theorem Rows0.set {R : Int} {L : Nat} {mx : List (List Cd)} {k : Nat} (h : Rows0 R L mx k) (hk : k < L + 1) : Rows0 R L (mx.set k (List.replicate (2 * R).toNat cd0)) (k + 1) := by
  refine ⟨by rw [List.length_set]; exact h.len, fun j hj => ?_⟩
  rw [getD_set _ _ _ _ _ (by have := h.len; omega)]
  by_cases e : j = k
  · rw [if_pos e]
  · rw [if_neg e]; exact h.row j (by omega)
theorem Rows0.start (R : Int) (L : Nat) : Rows0 R L (List.replicate (L + 1) []) 0 := ⟨by simp, fun j h => by omega⟩
theorem Rows0.good {R : Int} {L : Nat} {mx : List (List Cd)} (h : Rows0 R L mx (L + 1)) {V : slave_spot → Rel} (hV : ∀ q n st, ¬ V q n st) : GoodX R L mx V :=
  ⟨h.len, fun j hj => by rw [h.row j (by omega)]; exact GoodT.empty fun s => hV ⟨s, (j : Int)⟩⟩
section
variable {l : SlaveLine} {x : SlaveEvent} {n : Int}
end
section
variable {l : SlaveLine} {who i : Nat} {wo : Nat → Bool}
theorem GoodT.cells {R : Int} {t u : List Cd} {V U : SlaveStart → Rel} (h : GoodT R t V) (hl : u.length = (2 * R).toNat) (f : SlaveStart → Bool) (hc : ∀ k, k < (2 * R).toNat → u.getD k cd0 = if f (stateN k) then t.getD k cd0 else cd0) (e : ∀ s n, OkT R s → ((∃ st, U s n st) ↔ (∃ st, V s n st) ∧ f s = true)) : GoodT R u U := by
  refine ⟨hl, fun k hk => ?_⟩
  rw [hc k hk]
  have he := e (stateN k)
  cases hf : f (stateN k) with
  | true =>
    rw [if_pos rfl]
    exact (h.cell k hk).of fun n => by rw [he n (stateN_ok hk), hf]; simp
  | false =>
    rw [if_neg (by simp)]
    refine SumC.empty fun n st hu => ?_
    have := ((he n (stateN_ok hk)).1 ⟨st, hu⟩).2
    rw [hf] at this; cases this
end
section
variable {l : SlaveLine} {who : Nat} {wo : Nat → Bool}
theorem GoodT.at_ {R : Int} {t : List Cd} {V : SlaveStart → Rel} (h : GoodT R t V) {s : SlaveStart} (hs : OkT R s) : SumC (t.getD (placeN s) cd0) (V s) := by
  have := h.cell (placeN s) hs.place.2
  rwa [state_place hs] at this
theorem GoodT.any (hS : OkS l) (hw : who < l.Starts.length) {t : List Cd} (h : GoodT l.Ring t (WR l who wo l.Events.length)) : t.any (·.is) = canB l who wo := by
  rw [Bool.eq_iff_iff, List.any_eq_true, canB_iff hS hw]
  constructor
  · rintro ⟨c, hc, h1⟩
    obtain ⟨k, hk, rfl⟩ := List.getElem_of_mem hc
    have := h.cell k (by rw [← h.len]; exact hk)
    rw [show t.getD k cd0 = t[k] by simp [List.getD, hk]] at this
    obtain ⟨st, h2, _⟩ := this.low h1
    exact ⟨st, _, h2⟩
  · rintro ⟨st, s, h1⟩
    have hT := h1.okT hS
    have hc := h.at_ hT
    have hlt : placeN s < t.length := by rw [h.len]; exact hT.place.2
    have e : t.getD (placeN s) cd0 = t[placeN s] := by simp [List.getD, hlt]
    rw [e] at hc
    refine ⟨t[placeN s], List.getElem_mem hlt, ?_⟩
    cases hi : t[placeN s].is with
    | true => rfl
    | false => exact absurd ⟨h1, rfl⟩ (hc.no hi _ st)
end
end Go.Proofs.YtmbgmefmkjeahaaDoor.Rt
