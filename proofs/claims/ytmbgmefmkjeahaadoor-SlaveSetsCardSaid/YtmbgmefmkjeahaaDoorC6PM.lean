/- Plain laws of the slave seat: the second package's tables tell of every story. Under the conditions that each names. Plain laws of the slave seat: the second package's walk of the pulses of an event. Under the conditions that each names. Plain laws of the slave seat: the second package's tables behind a line, and its answers. Under the conditions that each names. Plain laws of the slave seat: the second package's answers for one clock. Under the conditions that each names. -/
import Derived.Test.YtmbgmefmkjeahaaDoorC6PI
set_option linter.unusedVariables false
set_option linter.unusedSimpArgs false
set_option maxRecDepth 100000
set_option maxHeartbeats 4000000
namespace Go.Proofs.YtmbgmefmkjeahaaDoor.Rt
open Go Go.RowKit
abbrev Cd := r7could
abbrev cd0 : Cd := r7could.mk false (Span.mk 0 0)
structure SumC (c : Cd) (V : Rel) : Prop where
  low : c.is = true → ∃ st, V c.lost.Low st
  high : c.is = true → ∃ st, V c.lost.High st
  bd : c.is = true → ∀ n st, V n st → c.lost.Low ≤ n ∧ n ≤ c.lost.High
  no : c.is = false → ∀ n st, ¬ V n st
theorem SumC.congr {c : Cd} {V U : Rel} (h : SumC c V) (e : ∀ n st, V n st ↔ U n st) : SumC c U :=
  ⟨fun h1 => (h.low h1).imp fun st => (e _ _).1, fun h1 => (h.high h1).imp fun st => (e _ _).1, fun h1 n st hu => h.bd h1 n st ((e n st).2 hu), fun h1 n st hu => h.no h1 n st ((e n st).2 hu)⟩
theorem SumC.of {c : Cd} {V U : Rel} (h : SumC c V) (e : ∀ n, (∃ st, V n st) ↔ ∃ st, U n st) : SumC c U :=
  ⟨fun h1 => (e _).1 (h.low h1), fun h1 => (e _).1 (h.high h1), fun h1 n st hu => by obtain ⟨st', h'⟩ := (e n).2 ⟨st, hu⟩; exact h.bd h1 n st' h', fun h1 n st hu => by obtain ⟨st', h'⟩ := (e n).2 ⟨st, hu⟩; exact h.no h1 n st' h'⟩
theorem SumC.empty {V : Rel} (h : ∀ n st, ¬ V n st) : SumC cd0 V := ⟨fun h1 => (by cases h1), fun h1 => (by cases h1), fun h1 => (by cases h1), fun _ => h⟩
def eitherF (a b : Cd) : Cd := if a.is = false then b else if b.is = false then a else ⟨true, ⟨if b.lost.Low < a.lost.Low then b.lost.Low else a.lost.Low, if b.lost.High > a.lost.High then b.lost.High else a.lost.High⟩⟩
theorem either_eq (a b : Cd) : r7either a b = some (eitherF a b) := by
  unfold r7either eitherF
  cases ha : a.is with
  | false => rfl
  | true =>
    cases hb : b.is with
    | false => rfl
    | true => rfl
theorem SumC.either {a b : Cd} {A B : Rel} (ha : SumC a A) (hb : SumC b B) : SumC (eitherF a b) (fun n st => A n st ∨ B n st) := by
  unfold eitherF
  cases h1 : a.is with
  | false =>
    rw [if_pos rfl]
    exact hb.congr fun n st => ⟨.inr, fun h => h.elim (fun h => absurd h (ha.no h1 n st)) id⟩
  | true =>
    rw [if_neg (by simp)]
    cases h2 : b.is with
    | false =>
      rw [if_pos rfl]
      exact ha.congr fun n st => ⟨.inl, fun h => h.elim id (fun h => absurd h (hb.no h2 n st))⟩
    | true =>
      rw [if_neg (by simp)]
      obtain ⟨s1, l1⟩ := ha.low h1
      obtain ⟨s2, l2⟩ := ha.high h1
      obtain ⟨s3, l3⟩ := hb.low h2
      obtain ⟨s4, l4⟩ := hb.high h2
      refine ⟨fun _ => ?_, fun _ => ?_, fun _ n st h => ?_, fun h => by cases h⟩
      · by_cases h : b.lost.Low < a.lost.Low
        · simp only [if_pos h]; exact ⟨s3, .inr l3⟩
        · simp only [if_neg h]; exact ⟨s1, .inl l1⟩
      · by_cases h : b.lost.High > a.lost.High
        · simp only [if_pos h]; exact ⟨s4, .inr l4⟩
        · simp only [if_neg h]; exact ⟨s2, .inl l2⟩
      · dsimp only
        rcases h with h | h
        · have := ha.bd h1 n st h; split <;> split <;> omega
        · have := hb.bd h2 n st h; split <;> split <;> omega
def stateN (k : Nat) : SlaveStart := ⟨((k / 2 : Nat) : Int), ((k % 2 : Nat) : Int)⟩
def placeN (s : SlaveStart) : Nat := (2 * s.Shown + s.Last).toNat
theorem OkT.place {R : Int} {s : SlaveStart} (h : OkT R s) : (placeN s : Int) = 2 * s.Shown + s.Last ∧ placeN s < (2 * R).toNat := by
  have := h.a; have := h.b; have := h.c
  unfold placeN; omega
theorem state_place {R : Int} {s : SlaveStart} (h : OkT R s) : stateN (placeN s) = s := by
  have := h.a; have := h.b; have := h.c
  have e := h.place.1
  unfold stateN
  have e1 : ((placeN s / 2 : Nat) : Int) = s.Shown := by omega
  have e2 : ((placeN s % 2 : Nat) : Int) = s.Last := by omega
  rw [e1, e2]
theorem place_state (k : Nat) : placeN (stateN k) = k := by
  unfold placeN stateN
  dsimp only
  omega
theorem stateN_ok {R : Int} {k : Nat} (h : k < (2 * R).toNat) : OkT R (stateN k) := by
  unfold stateN
  exact ⟨by dsimp only; omega, by dsimp only; omega, by dsimp only; omega⟩
theorem place_eq {R : Int} (hR : R ≤ 60) {s : SlaveStart} (h : OkT R s) : r7place s = some (placeN s : Int) := by
  have := h.a; have := h.b; have := h.c
  unfold r7place
  rw [wr_id' (n := 2 * s.Shown) (by omega) (by omega), wr_id' (by omega) (by omega), h.place.1]
theorem stateOf_eq (k : Nat) (h : k ≤ 1000) : r7stateOf (k : Int) = some (stateN k) := by
  unfold r7stateOf stateN
  rw [Int.tdiv_eq_ediv_of_nonneg (by omega), Int.tmod_eq_emod_of_nonneg (by omega), wr_id' (by omega) (by omega)]
  congr 2
structure GoodT (R : Int) (t : List Cd) (V : SlaveStart → Rel) : Prop where
  len : t.length = (2 * R).toNat
  cell : ∀ k, k < (2 * R).toNat → SumC (t.getD k cd0) (V (stateN k))
theorem GoodT.congr {R : Int} {t : List Cd} {V U : SlaveStart → Rel} (h : GoodT R t V) (e : ∀ s n st, OkT R s → (V s n st ↔ U s n st)) : GoodT R t U := ⟨h.len, fun k hk => (h.cell k hk).congr fun n st => e _ n st (stateN_ok hk)⟩
theorem GoodT.of {R : Int} {t : List Cd} {V U : SlaveStart → Rel} (h : GoodT R t V) (e : ∀ s n, OkT R s → ((∃ st, V s n st) ↔ ∃ st, U s n st)) : GoodT R t U := ⟨h.len, fun k hk => (h.cell k hk).of fun n => e _ n (stateN_ok hk)⟩
theorem GoodT.empty {R : Int} {V : SlaveStart → Rel} (h : ∀ s n st, ¬ V s n st) : GoodT R (List.replicate (2 * R).toNat cd0) V :=
  ⟨by simp, fun k hk => by rw [List.getD, List.getElem?_replicate, if_pos hk]; exact SumC.empty (h _)⟩
theorem getD_set {α : Type} (t : List α) (i k : Nat) (x d : α) (hi : i < t.length) : (t.set i x).getD k d = if k = i then x else t.getD k d := by
  simp only [List.getD, List.getElem?_set]
  by_cases h : k = i
  · subst h; simp [hi]
  · simp [h, Ne.symm h]
theorem GoodT.put {R : Int} {t : List Cd} {V : SlaveStart → Rel} (h : GoodT R t V) {s : SlaveStart} (hs : OkT R s) {c : Cd} {U : Rel} (hc : SumC c U) :
    GoodT R (t.set (placeN s) (eitherF (t.getD (placeN s) cd0) c)) (fun s' n st => V s' n st ∨ (s' = s ∧ U n st)) := by
  have hp := hs.place.2
  refine ⟨by rw [List.length_set]; exact h.len, fun k hk => ?_⟩
  rw [getD_set _ _ _ _ _ (by rw [h.len]; exact hp)]
  by_cases e : k = placeN s
  · subst e
    rw [if_pos rfl, state_place hs]
    have := (h.cell _ hk).either hc
    rw [state_place hs] at this
    exact this.congr fun n st => ⟨fun h => h.elim .inl fun h => .inr ⟨rfl, h⟩, fun h => h.elim .inl fun h => .inr h.2⟩
  · rw [if_neg e]
    refine (h.cell k hk).congr fun n st => ⟨.inl, fun h => h.elim id fun h => ?_⟩
    exact absurd (by rw [← h.1, place_state]) e
structure GoodX (R : Int) (L : Nat) (mx : List (List Cd)) (V : slave_spot → Rel) : Prop where
  len : mx.length = L + 1
  row : ∀ j, j ≤ L → GoodT R (mx.getD j []) (fun s => V ⟨s, (j : Int)⟩)
theorem GoodX.congr {R : Int} {L : Nat} {mx : List (List Cd)} {V U : slave_spot → Rel} (h : GoodX R L mx V) (e : ∀ q n st, V q n st ↔ U q n st) : GoodX R L mx U := ⟨h.len, fun j hj => (h.row j hj).congr fun s n st _ => e _ n st⟩
theorem GoodX.put {R : Int} {L : Nat} {mx : List (List Cd)} {V : slave_spot → Rel} (h : GoodX R L mx V) {s : SlaveStart} (hs : OkT R s) {j : Nat} (hj : j ≤ L) {c : Cd} {U : Rel} (hc : SumC c U) :
    GoodX R L (mx.set j ((mx.getD j []).set (placeN s) (eitherF ((mx.getD j []).getD (placeN s) cd0) c))) (fun q n st => V q n st ∨ (q = ⟨s, (j : Int)⟩ ∧ U n st)) := by
  refine ⟨by rw [List.length_set]; exact h.len, fun k hk => ?_⟩
  rw [getD_set _ _ _ _ _ (by have := h.len; omega)]
  by_cases e : k = j
  · subst e
    rw [if_pos rfl]
    refine ((h.row k hk).put hs hc).congr fun s' n st _ => ?_
    constructor
    · rintro (h | ⟨rfl, h⟩)
      · exact .inl h
      · exact .inr ⟨rfl, h⟩
    · rintro (h | ⟨h1, h⟩)
      · exact .inl h
      · injection h1 with h1; exact .inr ⟨h1, h⟩
  · rw [if_neg e]
    refine (h.row k hk).congr fun s' n st _ => ⟨.inl, fun h => h.elim id fun h => ?_⟩
    have h1 := h.1
    injection h1 with h1 h2
    exact absurd (by omega) e
def UP {K K' : Type} (proc : K → Prop) (V : K → Rel) (T : K → Int → List (List Int) → K' → Rel) (k' : K') : Rel := fun n st => ∃ k n0 st0, proc k ∧ V k n0 st0 ∧ T k n0 st0 k' n st
theorem UP.fin {K K' : Type} {proc : K → Prop} {V : K → Rel} {T : K → Int → List (List Int) → K' → Rel} (h : ∀ k n st, V k n st → proc k) (k' : K') (n : Int) (st : List (List Int)) : UP proc V T k' n st ↔ UL [] V T k' n st := by
  rw [UL.fin]
  exact ⟨fun ⟨k, n0, st0, _, h1, h2⟩ => ⟨k, n0, st0, h1, h2⟩, fun ⟨k, n0, st0, h1, h2⟩ => ⟨k, n0, st0, h k n0 st0 h1, h1, h2⟩⟩
def Proc (k s : Nat) (q : slave_spot) : Prop := q.lost < (k : Int) ∨ (q.lost = (k : Int) ∧ placeN q.state < s)
theorem Proc.succ {R : Int} {k s : Nat} {q : slave_spot} (hq : OkT R q.state) : Proc k (s + 1) q ↔ Proc k s q ∨ q = ⟨stateN s, (k : Int)⟩ := by
  unfold Proc
  constructor
  · rintro (h | ⟨h1, h2⟩)
    · exact .inl (.inl h)
    · by_cases e : placeN q.state = s
      · right
        cases q
        simp only at h1 e hq
        rw [h1, ← e, state_place hq]
      · exact .inl (.inr ⟨h1, by omega⟩)
  · rintro ((h | h) | rfl)
    · exact .inl h
    · exact .inr ⟨h.1, by omega⟩
    · exact .inr ⟨rfl, by dsimp only; rw [place_state]; omega⟩
theorem Proc.next {R : Int} {k : Nat} {q : slave_spot} (hq : OkT R q.state) : Proc k (2 * R).toNat q ↔ Proc (k + 1) 0 q := by
  unfold Proc
  have := hq.place.2
  omega
theorem UP.succ {R : Int} {K' : Type} {V : slave_spot → Rel} {T : slave_spot → Int → List (List Int) → K' → Rel} (hV : ∀ q n st, V q n st → OkT R q.state) {k s : Nat} (k' : K') (n : Int) (st : List (List Int)) :
    UP (Proc k (s + 1)) V T k' n st ↔ UP (Proc k s) V T k' n st ∨ ∃ n0 st0, V ⟨stateN s, (k : Int)⟩ n0 st0 ∧ T ⟨stateN s, (k : Int)⟩ n0 st0 k' n st := by
  constructor
  · rintro ⟨q, n0, st0, h1, h2, h3⟩
    rcases (Proc.succ (hV q n0 st0 h2)).1 h1 with h | rfl
    · exact .inl ⟨q, n0, st0, h, h2, h3⟩
    · exact .inr ⟨n0, st0, h2, h3⟩
  · rintro (⟨q, n0, st0, h1, h2, h3⟩ | ⟨n0, st0, h2, h3⟩)
    · exact ⟨q, n0, st0, (Proc.succ (hV q n0 st0 h2)).2 (.inl h1), h2, h3⟩
    · exact ⟨_, n0, st0, (Proc.succ (hV _ n0 st0 h2)).2 (.inr rfl), h2, h3⟩
theorem UP.next {R : Int} {K' : Type} {V : slave_spot → Rel} {T : slave_spot → Int → List (List Int) → K' → Rel} (hV : ∀ q n st, V q n st → OkT R q.state) {k : Nat} (k' : K') (n : Int) (st : List (List Int)) :
    UP (Proc k (2 * R).toNat) V T k' n st ↔ UP (Proc (k + 1) 0) V T k' n st :=
  ⟨fun ⟨q, n0, st0, h1, h2, h3⟩ => ⟨q, n0, st0, (Proc.next (hV q n0 st0 h2)).1 h1, h2, h3⟩, fun ⟨q, n0, st0, h1, h2, h3⟩ => ⟨q, n0, st0, (Proc.next (hV q n0 st0 h2)).2 h1, h2, h3⟩⟩
theorem UP.zero {K' : Type} {V : slave_spot → Rel} {T : slave_spot → Int → List (List Int) → K' → Rel} (hV : ∀ q n st, V q n st → 0 ≤ q.lost) (k' : K') (n : Int) (st : List (List Int)) : ¬ UP (Proc 0 0) V T k' n st := by
  rintro ⟨q, n0, st0, h | h, h2, _⟩
  · have := hV q n0 st0 h2; omega
  · omega
theorem idx_D {α : Type} {xs : List α} {i : Nat} (d : α) (h : i < xs.length) : idx xs (i : Int) = some (xs.getD i d) := by rw [idx_get h]; simp [List.getD, h]
structure Rows0 (R : Int) (L : Nat) (mx : List (List Cd)) (k : Nat) : Prop where
  len : mx.length = L + 1
  row : ∀ j, j < k → mx.getD j [] = List.replicate (2 * R).toNat cd0
theorem Rows0.set {R : Int} {L : Nat} {mx : List (List Cd)} {k : Nat} (h : Rows0 R L mx k) (hk : k < L + 1) : Rows0 R L (mx.set k (List.replicate (2 * R).toNat cd0)) (k + 1) := by
  refine ⟨by rw [List.length_set]; exact h.len, fun j hj => ?_⟩
  rw [getD_set _ _ _ _ _ (by have := h.len; omega)]
  by_cases e : j = k
  · rw [if_pos e]
  · rw [if_neg e]; exact h.row j (by omega)
theorem Rows0.start (R : Int) (L : Nat) : Rows0 R L (List.replicate (L + 1) []) 0 := ⟨by simp, fun j h => by omega⟩
theorem Rows0.good {R : Int} {L : Nat} {mx : List (List Cd)} (h : Rows0 R L mx (L + 1)) {V : slave_spot → Rel} (hV : ∀ q n st, ¬ V q n st) : GoodX R L mx V :=
  ⟨h.len, fun j hj => by rw [h.row j (by omega)]; exact GoodT.empty fun s => hV ⟨s, (j : Int)⟩⟩
section
variable {l : SlaveLine} {x : SlaveEvent} {n : Int}
structure Ev (l : SlaveLine) (x : SlaveEvent) (L : Nat) : Prop where
  r1 : 2 ≤ l.Ring
  r2 : l.Ring ≤ 60
  ex : ∃ n, OkE n l.Ring x
  ek : x.Kind ≠ 2
  eL : x.Lost = (L : Int)
  L3 : L ≤ 3
  c0 : 0 ≤ x.Count
  c1 : x.Count ≤ 60
theorem OkS.ev1 (hS : OkS l) {i : Nat} (hi : i < l.Events.length) (hk : l.Events[i].Kind ≠ 2) : Ev l l.Events[i] l.Events[i].Lost.toNat := by
  have hx := hS.at hi
  have hc := hx.c hk
  exact ⟨hS.r1, hS.r2, ⟨_, hx⟩, hk, by omega, by omega, hc.1, hc.2.1⟩
theorem Ev.two {L : Nat} (h : Ev l x L) : wr (2 * l.Ring) = ((2 * l.Ring).toNat : Int) := by
  have := h.r1; have := h.r2
  rw [wr_id' (by omega) (by omega)]; omega
theorem rowN {R : Int} {m : Nat} (h : m ≤ 1000) : (0 : Int) ≤ (m : Int) ∧ (m : Int) ≤ (mlim : Int) := by unfold mlim; omega
theorem make_3 {L : Nat} (h : Ev l x L) (now : List (List Cd)) (p : Int) : ∃ mx, Rows0 l.Ring L mx (L + 1) ∧ loopU (r7pulses_b3 l x now p) (0, List.replicate (L + 1) []) = loopU (r7pulses_b4 l x now p) (0, mx) := by
  have h3 := h.L3; have hL := h.eL
  have hr := h.r2; have hr1 := h.r1
  refine loopU_for (fun k (st : Int × List (List Cd)) => st.1 = (k : Int) ∧ Rows0 l.Ring L st.2 k) (L + 1) (Post := fun o => ∃ mx, Rows0 l.Ring L mx (L + 1) ∧ o = loopU (r7pulses_b4 l x now p) (0, mx)) ⟨rfl, Rows0.start _ _⟩ ?_ ?_
  · rintro k ⟨_, mx⟩ hk ⟨rfl, hm⟩
    simp only at hm
    refine ⟨(((k + 1 : Nat) : Int), mx.set k (List.replicate (2 * l.Ring).toNat cd0)), ?_, ⟨rfl, hm.set hk⟩⟩
    unfold r7pulses_b3
    dsimp only
    rw [show decide ((k : Int) ≤ x.Lost) = true by simp; omega, cond_true, h.two, if_pos (rowN (R := 0) (by omega)), if_pos (by have := hm.len; omega), wr_succ (by omega)]
    rfl
  · rintro ⟨_, mx⟩ ⟨rfl, hm⟩
    simp only at hm
    refine ⟨_, ?_, mx, hm, rfl⟩
    unfold r7pulses_b3
    dsimp only
    rw [show decide (((L + 1 : Nat) : Int) ≤ x.Lost) = false by simp; omega, cond_false]
theorem make_1 {L : Nat} (h : Ev l x L) (before : List Cd) : ∃ mx, Rows0 l.Ring L mx (L + 1) ∧ loopU (r7pulses_b1 l before x) (0, List.replicate (L + 1) []) = loopU (r7pulses_b2 l x) (mx.set 0 before, 0) := by
  have h3 := h.L3; have hL := h.eL
  have hr := h.r2; have hr1 := h.r1
  refine loopU_for (fun k (st : Int × List (List Cd)) => st.1 = (k : Int) ∧ Rows0 l.Ring L st.2 k) (L + 1) (Post := fun o => ∃ mx, Rows0 l.Ring L mx (L + 1) ∧ o = loopU (r7pulses_b2 l x) (mx.set 0 before, 0)) ⟨rfl, Rows0.start _ _⟩ ?_ ?_
  · rintro k ⟨_, mx⟩ hk ⟨rfl, hm⟩
    simp only at hm
    refine ⟨(((k + 1 : Nat) : Int), mx.set k (List.replicate (2 * l.Ring).toNat cd0)), ?_, ⟨rfl, hm.set hk⟩⟩
    unfold r7pulses_b1
    dsimp only
    rw [show decide ((k : Int) ≤ x.Lost) = true by simp; omega, cond_true, h.two, if_pos (rowN (R := 0) (by omega)), if_pos (by have := hm.len; omega), wr_succ (by omega)]
    rfl
  · rintro ⟨_, mx⟩ ⟨rfl, hm⟩
    simp only at hm
    refine ⟨_, ?_, mx, hm, rfl⟩
    unfold r7pulses_b1
    dsimp only
    rw [show decide (((L + 1 : Nat) : Int) ≤ x.Lost) = false by simp; omega, cond_false, if_pos (by have := hm.len; omega)]
    rfl
structure Spots (R : Int) (L : Nat) (V : slave_spot → Rel) : Prop where
  t : ∀ q n st, V q n st → OkT R q.state
  l0 : ∀ q n st, V q n st → 0 ≤ q.lost
  l1 : ∀ q n st, V q n st → q.lost ≤ (L : Int)
  n : ∀ q n st, V q n st → 0 ≤ n ∧ n ≤ 33
theorem mk_eta2 (c : Cd) : r7could.mk c.is (Span.mk c.lost.Low c.lost.High) = c := rfl
theorem cell_5 {L : Nat} (h : Ev l x L) {V : slave_spot → Rel} (hV : Spots l.Ring L V) {now : List (List Cd)} (hN : GoodX l.Ring L now V) {p : Nat} (hp : (p : Int) < x.Count) {k s : Nat} (hk : k ≤ L) (hs : s < (2 * l.Ring).toNat) {mx : List (List Cd)}
    (hX : GoodX l.Ring L mx (UP (Proc k s) V (T6 l x p))) : ∃ mx', r7pulses_b5 l x now (p : Int) (k : Int) ((s : Int), mx) = nxt (((s + 1 : Nat) : Int), mx') ∧ GoodX l.Ring L mx' (UP (Proc k (s + 1)) V (T6 l x p)) := by
  have h3 := h.L3; have hL := h.eL
  have hr := h.r2; have hr1 := h.r1
  obtain ⟨n, hx⟩ := h.ex
  have hrow := hN.row k hk
  have hcell := hrow.cell s hs
  have hsT := stateN_ok hs
  have es : wr ((s : Int) + 1) = ((s + 1 : Nat) : Int) := wr_succ (by omega)
  unfold r7pulses_b5
  dsimp only
  rw [h.two, show decide ((s : Int) < ((2 * l.Ring).toNat : Int)) = true by simp; omega, cond_true, idx_D [] (by have := hN.len; omega), bind_s, idx_D cd0 (by have := hrow.len; omega), bind_s]
  cases hc : ((now.getD k []).getD s cd0).is with
  | false =>
    refine ⟨mx, ?_, hX.congr fun q n st => ?_⟩
    · show r7pulses_k6 (s : Int) mx = _
      unfold r7pulses_k6
      rw [es]
    · rw [UP.succ hV.t]
      refine ⟨.inl, fun h => h.elim id ?_⟩
      rintro ⟨n0, st0, h1, _⟩
      exact absurd h1 (hcell.no hc n0 st0)
  | true =>
    obtain ⟨stl, hlow⟩ := hcell.low hc
    obtain ⟨sth, hhigh⟩ := hcell.high hc
    have bl := hV.n _ _ _ hlow
    have bh := hV.n _ _ _ hhigh
    have hT := hsT.step hr1 x p
    have hpl := hT.place.2
    have hmr := (hX.row k hk).len
    have hml := hX.len
    rw [Bool.not_true, cond_false, if_pos (by omega), stateOf_eq s (by omega), bind_s, got_eq hr1 hr hx h.ek hsT (.inl hp), bind_s, place_eq hr hT, bind_s]
    simp only [Int.toNat_natCast, hmr, mk_eta2]
    rw [if_pos (by omega), either_eq, bind_s, if_pos (by omega)]
    have g1 := hX.put hT hk hcell
    by_cases hkl : (k : Int) < x.Lost
    · rw [show decide ((k : Int) < x.Lost) = true by simpa using hkl, cond_true]
      have e1 : wr ((k : Int) + 1) = ((k + 1 : Nat) : Int) := wr_succ (by omega)
      have hk1 : k + 1 ≤ L := by omega
      have g1l := g1.len
      have g1r := (g1.row (k + 1) hk1).len
      rw [e1]
      simp only [Int.toNat_natCast]
      rw [if_pos (by rw [g1l]; omega), if_pos (by rw [g1r]; omega)]
      unfold r0To
      rw [bind_s, either_eq, bind_s, if_pos (by rw [g1r]; omega)]
      have c2 : SumC ⟨true, ⟨((now.getD k []).getD s cd0).lost.Low + 1, ((now.getD k []).getD s cd0).lost.High + 1⟩⟩ (fun n st => ∃ n0 st0, V ⟨stateN s, (k : Int)⟩ n0 st0 ∧ n = n0 + 1 ∧ st = loseS st0 (p : Int)) := by
        refine ⟨fun _ => ⟨_, _, _, hlow, rfl, rfl⟩, fun _ => ⟨_, _, _, hhigh, rfl, rfl⟩, fun _ n st h => ?_, fun h => by cases h⟩
        obtain ⟨n0, st0, hv, rfl, rfl⟩ := h
        have := hcell.bd hc n0 st0 hv
        dsimp only; omega
      have g2 := g1.put hsT hk1 c2
      rw [place_state] at g2
      refine ⟨_, ?_, g2.congr fun q n st => ?_⟩
      · unfold r7pulses_k6
        rw [es, wr_id' (n := ((now.getD k []).getD s cd0).lost.Low + 1) (by omega) (by omega), wr_id' (n := ((now.getD k []).getD s cd0).lost.High + 1) (by omega) (by omega)]
      · rw [UP.succ hV.t]
        constructor
        · rintro ((h | ⟨rfl, h⟩) | ⟨rfl, n0, st0, h, rfl, rfl⟩)
          · exact .inl h
          · exact .inr ⟨n, st, h, .inl ⟨rfl, rfl, rfl⟩⟩
          · exact .inr ⟨n0, st0, h, .inr ⟨hkl, rfl, rfl, rfl⟩⟩
        · rintro (h | ⟨n0, st0, hv, ⟨rfl, rfl, rfl⟩ | ⟨_, rfl, rfl, rfl⟩⟩)
          · exact .inl (.inl h)
          · exact .inl (.inr ⟨rfl, hv⟩)
          · exact .inr ⟨rfl, n0, st0, hv, rfl, rfl⟩
    · rw [show decide ((k : Int) < x.Lost) = false by simpa using hkl, cond_false]
      refine ⟨_, ?_, g1.congr fun q n st => ?_⟩
      · unfold r7pulses_k6
        rw [es]
      · rw [UP.succ hV.t]
        constructor
        · rintro (h | ⟨rfl, h⟩)
          · exact .inl h
          · exact .inr ⟨n, st, h, .inl ⟨rfl, rfl, rfl⟩⟩
        · rintro (h | ⟨n0, st0, hv, ⟨rfl, rfl, rfl⟩ | ⟨h, _⟩⟩)
          · exact .inl h
          · exact .inr ⟨rfl, hv⟩
          · exact absurd h hkl
theorem row_4 {L : Nat} (h : Ev l x L) {V : slave_spot → Rel} (hV : Spots l.Ring L V) {now : List (List Cd)} (hN : GoodX l.Ring L now V) {p : Nat} (hp : (p : Int) < x.Count) {k : Nat} (hk : k ≤ L) {mx : List (List Cd)}
    (hX : GoodX l.Ring L mx (UP (Proc k 0) V (T6 l x p))) : ∃ mx', loopU (r7pulses_b5 l x now (p : Int) (k : Int)) (0, mx) = nxt (((k + 1 : Nat) : Int), mx') ∧ GoodX l.Ring L mx' (UP (Proc (k + 1) 0) V (T6 l x p)) := by
  have h3 := h.L3
  refine loopU_for (fun s (st : Int × List (List Cd)) => st.1 = (s : Int) ∧ GoodX l.Ring L st.2 (UP (Proc k s) V (T6 l x p))) (2 * l.Ring).toNat
    (Post := fun o => ∃ mx', o = nxt (((k + 1 : Nat) : Int), mx') ∧ GoodX l.Ring L mx' (UP (Proc (k + 1) 0) V (T6 l x p))) ⟨rfl, hX⟩ ?_ ?_
  · rintro s ⟨_, m⟩ hs ⟨rfl, hm⟩
    obtain ⟨mx', h1, h2⟩ := cell_5 h hV hN hp hk hs hm
    exact ⟨_, h1, rfl, h2⟩
  · rintro ⟨_, m⟩ ⟨rfl, hm⟩
    simp only at hm
    refine ⟨_, ?_, m, rfl, hm.congr fun q n st => UP.next hV.t q n st⟩
    unfold r7pulses_b5
    dsimp only
    rw [h.two, lt_f, cond_false, wr_succ (by omega)]
theorem pulse_2 {L : Nat} (h : Ev l x L) {V : slave_spot → Rel} (hV : Spots l.Ring L V) {now : List (List Cd)} (hN : GoodX l.Ring L now V) {p : Nat} (hp : (p : Int) < x.Count) :
    ∃ mx', r7pulses_b2 l x (now, (p : Int)) = nxt (mx', ((p + 1 : Nat) : Int)) ∧ GoodX l.Ring L mx' (UL [] V (T6 l x p)) := by
  have h3 := h.L3; have hL := h.eL; have hc := h.c1
  unfold r7pulses_b2
  dsimp only
  have e1 : wr (x.Lost + 1) = ((L + 1 : Nat) : Int) := by rw [hL]; exact wr_succ (by omega)
  rw [show decide ((p : Int) < x.Count) = true by simpa using hp, cond_true, e1, if_pos (rowN (R := 0) (by omega)), Int.toNat_natCast]
  obtain ⟨mx0, h0, e0⟩ := make_3 h now (p : Int)
  rw [e0]
  refine loopU_for (fun k (st : Int × List (List Cd)) => st.1 = (k : Int) ∧ GoodX l.Ring L st.2 (UP (Proc k 0) V (T6 l x p))) (L + 1)
    (Post := fun o => ∃ mx', o = nxt (mx', ((p + 1 : Nat) : Int)) ∧ GoodX l.Ring L mx' (UL [] V (T6 l x p))) ⟨rfl, h0.good (UP.zero hV.l0)⟩ ?_ ?_
  · rintro k ⟨_, m⟩ hk ⟨rfl, hm⟩
    simp only at hm
    obtain ⟨mx', h1, h2⟩ := row_4 h hV hN hp (k := k) (by omega) hm
    refine ⟨(((k + 1 : Nat) : Int), mx'), ?_, rfl, h2⟩
    unfold r7pulses_b4
    dsimp only
    rw [show decide ((k : Int) ≤ x.Lost) = true by simp; omega, cond_true, h1]
  · rintro ⟨_, m⟩ ⟨rfl, hm⟩
    simp only at hm
    refine ⟨_, ?_, m, rfl, hm.congr fun q n st => UP.fin (fun q n st hq => .inl (by have := hV.l1 q n st hq; omega)) q n st⟩
    unfold r7pulses_b4
    dsimp only
    rw [show decide (((L + 1 : Nat) : Int) ≤ x.Lost) = false by simp; omega, cond_false, wr_succ (by omega)]
end
section
variable {l : SlaveLine} {who i : Nat} {wo : Nat → Bool}
theorem VP.spots (hS : OkS l) (hi : i < l.Events.length) (hk : l.Events[i].Kind ≠ 2) (p : Nat) : Spots l.Ring l.Events[i].Lost.toNat (VP l who wo i l.Events[i] p) := by
  have hc := (hS.at hi).c hk
  have hb : ∀ (q : slave_spot) (n : Int) (st : List (List Int)), VP l who wo i l.Events[i] p q n st → OkT l.Ring q.state ∧ 0 ≤ q.lost ∧ q.lost ≤ 3 ∧ 0 ≤ n ∧ n ≤ 33 ∧ ∃ st0 ls, st = st0 ++ [ls] ∧ st0.length ≤ 10 ∧ ls.length ≤ 3 :=
    fun q n st h => VP.bd hS (.inl (by omega)) (fun h => absurd h hk) h
  refine ⟨fun q n st h => (hb q n st h).1, fun q n st h => (hb q n st h).2.1, ?_, fun q n st h => ⟨(hb q n st h).2.2.2.1, (hb q n st h).2.2.2.2.1⟩⟩
  rintro q n st ⟨s0, st0, ls, h1, h2, h3, h4, h5, h6, h7, h8⟩
  rcases h6 with h6 | h6
  · omega
  · subst h6; simp at h5; omega
theorem VP0_iff (hk : l.Events[i]?.map (·.Kind) ≠ some 2) (x : SlaveEvent) (hx : x.Kind ≠ 2) (s : SlaveStart) (n : Int) : (∃ st, WR l who wo i s n st) ↔ ∃ st, VP l who wo i x 0 ⟨s, 0⟩ n st := by
  constructor
  · rintro ⟨st, h⟩
    exact ⟨st ++ [[]], (T1_fin _ _ _).1 ((UL.fin _ _ _).2 ⟨s, n, st, h, fun e => absurd e hx, rfl, rfl, rfl⟩)⟩
  · rintro ⟨st, h⟩
    obtain ⟨s0, n0, st0, h1, _, h2, rfl, _⟩ := (UL.fin _ _ _).1 ((T1_fin _ _ _).2 h)
    injection h2 with h2
    subst h2
    exact ⟨st0, h1⟩
theorem pulses_eq (hS : OkS l) (hi : i < l.Events.length) (hk : l.Events[i].Kind ≠ 2) {before : List Cd} (hB : GoodT l.Ring before (WR l who wo i)) :
    ∃ t, r7pulses l before l.Events[i] = some t ∧ GoodT l.Ring t (WR l who wo (i + 1)) := by
  have h := hS.ev1 hi hk
  have hL := h.eL; have h3 := h.L3; have hr := h.r2; have hr1 := h.r1
  have hc0 := h.c0; have hc1 := h.c1
  generalize hLe : l.Events[i].Lost.toNat = L at *
  have hV := fun p => hLe ▸ VP.spots (who := who) (wo := wo) hS hi hk p
  unfold r7pulses
  have e1 : wr (l.Events[i].Lost + 1) = ((L + 1 : Nat) : Int) := by rw [hL]; exact wr_succ (by omega)
  rw [e1, if_pos (rowN (R := 0) (by omega)), Int.toNat_natCast]
  obtain ⟨mx0, h0, e0⟩ := make_1 h before
  rw [show (0 : Int) = 0 from rfl, e0]
  have hlen := h0.len
  have hX0 : GoodX l.Ring L (mx0.set 0 before) (VP l who wo i l.Events[i] 0) := by
    refine ⟨by rw [List.length_set]; exact hlen, fun j hj => ?_⟩
    rw [getD_set _ _ _ _ _ (by omega)]
    by_cases e : j = 0
    · subst e
      rw [if_pos rfl]
      exact hB.of fun s n _ => VP0_iff (by simp [hi, hk]) _ hk s n
    · rw [if_neg e, h0.row j (by omega)]
      refine GoodT.empty fun s n st hv => ?_
      obtain ⟨s0, st0, ls, _, _, _, h4, h5, _⟩ := hv
      rw [h4.zero] at h5
      simp at h5; omega
  refine loopU_for (fun p (st : List (List Cd) × Int) => st.2 = (p : Int) ∧ GoodX l.Ring L st.1 (VP l who wo i l.Events[i] p)) l.Events[i].Count.toNat
    (Post := fun o => ∃ t, o = some t ∧ GoodT l.Ring t (WR l who wo (i + 1))) ⟨rfl, hX0⟩ ?_ ?_
  · rintro p ⟨now, _⟩ hp ⟨rfl, hm⟩
    simp only at hm
    obtain ⟨mx', h1, h2⟩ := pulse_2 h (hV p) hm (p := p) (by omega)
    exact ⟨(mx', ((p + 1 : Nat) : Int)), h1, rfl, h2.congr fun q n st => T6_fin p q n st⟩
  · rintro ⟨now, _⟩ ⟨rfl, hN⟩
    simp only at hN
    have hVc := hV l.Events[i].Count.toNat
    generalize hV' : VP l who wo i l.Events[i] l.Events[i].Count.toNat = V at hN hVc
    refine ⟨_, ?_, (?_ : ∃ t, loopU (r7pulses_b7 l l.Events[i] now) (0, List.replicate (2 * l.Ring).toNat cd0) = some t ∧ GoodT l.Ring t (WR l who wo (i + 1)))⟩
    · unfold r7pulses_b2
      dsimp only
      rw [show decide (((l.Events[i].Count.toNat : Nat) : Int) < l.Events[i].Count) = false by simp; omega, cond_false, h.two, if_pos (rowN (R := 0) (by omega)), Int.toNat_natCast]
    · refine loopU_for (fun k (st : Int × List Cd) => st.1 = (k : Int) ∧ GoodT l.Ring st.2 (UP (Proc k 0) V T3)) (L + 1)
        (Post := fun o => ∃ t, o = some t ∧ GoodT l.Ring t (WR l who wo (i + 1))) ⟨rfl, GoodT.empty (UP.zero hVc.l0)⟩ ?_ ?_
      · rintro k ⟨_, t⟩ hk2 ⟨rfl, hT⟩
        simp only at hT
        have hrow := hN.row k (by omega)
        have hNl := hN.len
        have hl : ∃ t', loopU (r7pulses_b8 l now (k : Int)) (0, t) = nxt (((k + 1 : Nat) : Int), t') ∧ GoodT l.Ring t' (UP (Proc (k + 1) 0) V T3) := by
          refine loopU_for (fun s (st : Int × List Cd) => st.1 = (s : Int) ∧ GoodT l.Ring st.2 (UP (Proc k s) V T3)) (2 * l.Ring).toNat
            (Post := fun o => ∃ t', o = nxt (((k + 1 : Nat) : Int), t') ∧ GoodT l.Ring t' (UP (Proc (k + 1) 0) V T3)) ⟨rfl, hT⟩ ?_ ?_
          · rintro s ⟨_, t⟩ hs ⟨rfl, hT⟩
            simp only at hT
            have g := hT.put (stateN_ok hs) (hrow.cell s hs)
            have htl := hT.len
            have hrl := hrow.len
            rw [place_state] at g
            refine ⟨(((s + 1 : Nat) : Int), t.set s (eitherF (t.getD s cd0) ((now.getD k []).getD s cd0))), ?_, rfl, g.congr fun q n st hq => ?_⟩
            · unfold r7pulses_b8
              dsimp only
              rw [h.two, lt_t hs, cond_true, idx_D cd0 (by omega), bind_s, idx_D [] (by omega), bind_s, idx_D cd0 (by omega), bind_s, either_eq, bind_s, if_pos (by omega), wr_succ (by omega), Int.toNat_natCast]
            · rw [UP.succ hVc.t]
              constructor
              · rintro (h | ⟨rfl, h⟩)
                · exact .inl h
                · exact .inr ⟨n, st, h, rfl, rfl, rfl⟩
              · rintro (h | ⟨n0, st0, h, rfl, rfl, rfl⟩)
                · exact .inl h
                · exact .inr ⟨rfl, h⟩
          · rintro ⟨_, t⟩ ⟨rfl, hT⟩
            simp only at hT
            refine ⟨_, ?_, t, rfl, hT.congr fun q n st _ => UP.next hVc.t q n st⟩
            unfold r7pulses_b8
            dsimp only
            rw [h.two, lt_f, cond_false, wr_succ (by omega)]
        obtain ⟨t', e', g'⟩ := hl
        refine ⟨(((k + 1 : Nat) : Int), t'), ?_, rfl, g'⟩
        unfold r7pulses_b7
        dsimp only
        rw [show decide ((k : Int) ≤ l.Events[i].Lost) = true by simp; omega, cond_true, e']
      · rintro ⟨_, t⟩ ⟨rfl, hT⟩
        simp only at hT
        refine ⟨_, ?_, t, rfl, hT.congr fun s n st hs => ?_⟩
        · unfold r7pulses_b7
          dsimp only
          rw [show decide (((L + 1 : Nat) : Int) ≤ l.Events[i].Lost) = false by simp; omega, cond_false]
        · rw [UP.fin (fun q n st hq => .inl (by have := hVc.l1 q n st hq; omega)), ← hV']
          exact T3_fin hS hi _ (fun h => absurd h hk) (fun _ => rfl) s n st
theorem WR_look (hi : i < l.Events.length) (hk : l.Events[i].Kind = 2) (s : SlaveStart) (n : Int) : (∃ st, WR l who wo (i + 1) s n st) ↔ (∃ st, WR l who wo i s n st) ∧ Pass l who wo i l.Events[i] s := by
  constructor
  · rintro ⟨st, h, hn⟩
    cases h with
    | @look _ st0 _ _ _ hs h => exact ⟨⟨st0, h, by rw [hn, lostN_snoc]; simp⟩, fun _ => hs⟩
    | send _ hk' => exact absurd hk hk'
  · rintro ⟨⟨st, h, hn⟩, hp⟩
    exact ⟨st ++ [[]], Sto.look hi hk (hp hk) h, by rw [hn, lostN_snoc]; simp⟩
theorem GoodT.cells {R : Int} {t u : List Cd} {V U : SlaveStart → Rel} (h : GoodT R t V) (hl : u.length = (2 * R).toNat) (f : SlaveStart → Bool) (hc : ∀ k, k < (2 * R).toNat → u.getD k cd0 = if f (stateN k) then t.getD k cd0 else cd0) (e : ∀ s n, OkT R s → ((∃ st, U s n st) ↔ (∃ st, V s n st) ∧ f s = true)) : GoodT R u U := by
  refine ⟨hl, fun k hk => ?_⟩
  rw [hc k hk]
  have he := e (stateN k)
  cases hf : f (stateN k) with
  | true =>
    rw [if_pos rfl]
    exact (h.cell k hk).of fun n => by rw [he n (stateN_ok hk), hf]; simp
  | false =>
    rw [if_neg (by simp)]
    refine SumC.empty fun n st hu => ?_
    have := ((he n (stateN_ok hk)).1 ⟨st, hu⟩).2
    rw [hf] at this; cases this
theorem two_eq (hS : OkS l) : wr (2 * l.Ring) = ((2 * l.Ring).toNat : Int) := by
  have := hS.r1; have := hS.r2
  rw [wr_id' (by omega) (by omega)]; omega
theorem ends_eq (hS : OkS l) (hw : who < l.Starts.length) {left : Int} (hIn : ∀ i, i < l.Events.length → r0In left (i : Int) = some (wo i)) (hwo : ∀ i (hi : i < l.Events.length), wo i = true → l.Events[i].Kind = 2) :
    ∃ t, r7ends l (who : Int) left = some t ∧ GoodT l.Ring t (WR l who wo l.Events.length) := by
  have hr := hS.r2; have hr1 := hS.r1; have h10 := hS.e
  have hT := hS.st hw
  have hpl := hT.place.2
  unfold r7ends
  rw [two_eq hS, if_pos (rowN (R := 0) (by omega)), idx_get hw, bind_s, place_eq hr hT, bind_s, Int.toNat_natCast, List.length_replicate, if_pos (by omega), Int.toNat_natCast]
  have g0 : GoodT l.Ring ((List.replicate (2 * l.Ring).toNat cd0).set (placeN l.Starts[who]) ⟨true, ⟨0, 0⟩⟩) (WR l who wo 0) := by
    have := (GoodT.empty (R := l.Ring) (V := fun _ _ _ => False) (fun _ _ _ h => h)).put hT (c := ⟨true, ⟨0, 0⟩⟩) (U := fun n st => n = 0 ∧ st = []) ⟨fun _ => ⟨[], rfl, rfl⟩, fun _ => ⟨[], rfl, rfl⟩, fun _ n st h => by rw [h.1]; exact ⟨Int.le_refl _, Int.le_refl _⟩, fun h => by cases h⟩
    rw [show (List.replicate (2 * l.Ring).toNat cd0).getD (placeN l.Starts[who]) cd0 = cd0 by rw [List.getD, List.getElem?_replicate, if_pos hpl]; rfl] at this
    refine this.congr fun s n st _ => ?_
    constructor
    · rintro (h | ⟨rfl, rfl, rfl⟩)
      · exact h.elim
      · exact ⟨Sto.zero hw, rfl⟩
    · rintro ⟨h, h2⟩
      cases h with
      | zero hw => exact .inr ⟨rfl, h2, rfl⟩
  refine loopU_for (fun i (st : List Cd × Int) => st.2 = (i : Int) ∧ GoodT l.Ring st.1 (WR l who wo i)) l.Events.length (Post := fun o => ∃ t, o = some t ∧ GoodT l.Ring t (WR l who wo l.Events.length)) ⟨rfl, g0⟩ ?_ ?_
  · rintro i ⟨now, _⟩ hi ⟨rfl, hN⟩
    simp only at hN
    have e1 : wr ((i : Int) + 1) = ((i + 1 : Nat) : Int) := wr_succ (by omega)
    have hx := hS.at hi
    suffices hs : ∃ t', r7ends_b1 l (who : Int) left (now, (i : Int)) = nxt (t', ((i + 1 : Nat) : Int)) ∧ GoodT l.Ring t' (WR l who wo (i + 1)) by
      obtain ⟨t', h1, h2⟩ := hs
      exact ⟨(t', ((i + 1 : Nat) : Int)), h1, rfl, h2⟩
    unfold r7ends_b1
    dsimp only
    rw [lt_t hi, cond_true, idx_get hi, bind_s, hIn i hi, bind_s]
    unfold r7ends_k2
    rw [e1]
    by_cases hk : l.Events[i].Kind = 2
    · have hlook := fun s n => WR_look (l := l) (who := who) (wo := wo) hi hk s n
      cases hwi : wo i with
      | true =>
        exact ⟨now, rfl, hN.of fun s n _ => by rw [hlook]; exact ⟨fun h => ⟨h, fun _ h2 => by rw [hwi] at h2; cases h2⟩, fun h => h.1⟩⟩
      | false =>
        rw [cond_false, bneI, decide_eq_false (by simpa using hk), cond_false, beqI]
        by_cases hwho : l.Events[i].Who = (who : Int)
        · rw [decide_eq_true hwho, cond_true, two_eq hS, if_pos (rowN (R := 0) (by omega)), Int.toNat_natCast]
          have hNl := hN.len
          refine loopU_for (fun s (st : Int × List Cd) => st.1 = (s : Int) ∧ st.2.length = (2 * l.Ring).toNat ∧ ∀ k, k < (2 * l.Ring).toNat → st.2.getD k cd0 = if k < s ∧ (stateN k).Shown = l.Events[i].Shown then now.getD k cd0 else cd0) (2 * l.Ring).toNat
            (Post := fun o => ∃ t', o = nxt (t', ((i + 1 : Nat) : Int)) ∧ GoodT l.Ring t' (WR l who wo (i + 1))) ⟨rfl, by simp, fun k hk => by rw [if_neg (by omega)]; show (List.replicate _ cd0).getD k cd0 = _; rw [List.getD, List.getElem?_replicate, if_pos hk]; rfl⟩ ?_ ?_
          · rintro s ⟨_, t⟩ hs ⟨rfl, htl, ht⟩
            simp only at htl ht
            have es : wr ((s : Int) + 1) = ((s + 1 : Nat) : Int) := wr_succ (by omega)
            by_cases hsh : (stateN s).Shown = l.Events[i].Shown
            · refine ⟨(((s + 1 : Nat) : Int), t.set s (now.getD s cd0)), ?_, rfl, by rw [List.length_set]; exact htl, fun k hk => ?_⟩
              · unfold r7ends_b3
                dsimp only
                rw [two_eq hS, lt_t hs, cond_true, stateOf_eq s (by omega), bind_s, beqI, decide_eq_true hsh, cond_true, idx_D cd0 (by omega), bind_s, if_pos (by omega), es, Int.toNat_natCast]
              · simp only
                rw [getD_set _ _ _ _ _ (by omega)]
                by_cases e : k = s
                · subst e; rw [if_pos rfl, if_pos ⟨by omega, hsh⟩]
                · rw [if_neg e, ht k hk]
                  by_cases h1 : k < s
                  · by_cases h2 : (stateN k).Shown = l.Events[i].Shown
                    · rw [if_pos ⟨h1, h2⟩, if_pos ⟨by omega, h2⟩]
                    · rw [if_neg (fun h => h2 h.2), if_neg (fun h => h2 h.2)]
                  · rw [if_neg (fun h => h1 h.1), if_neg (fun h => by omega)]
            · refine ⟨(((s + 1 : Nat) : Int), t), ?_, rfl, htl, fun k hk => ?_⟩
              · unfold r7ends_b3
                dsimp only
                rw [two_eq hS, lt_t hs, cond_true, stateOf_eq s (by omega), bind_s, beqI, decide_eq_false hsh, cond_false, es]
              · simp only
                rw [ht k hk]
                by_cases h1 : k < s
                · by_cases h2 : (stateN k).Shown = l.Events[i].Shown
                  · rw [if_pos ⟨h1, h2⟩, if_pos ⟨by omega, h2⟩]
                  · rw [if_neg (fun h => h2 h.2), if_neg (fun h => h2 h.2)]
                · rw [if_neg (fun h => h1 h.1)]
                  by_cases e : k = s
                  · subst e; rw [if_neg (fun h => hsh h.2)]
                  · rw [if_neg (fun h => by omega)]
          · rintro ⟨_, t⟩ ⟨rfl, htl, ht⟩
            simp only at htl ht
            refine ⟨_, ?_, t, rfl, hN.cells htl (fun s => decide (s.Shown = l.Events[i].Shown)) (fun k hk => ?_) fun s n hs => ?_⟩
            · unfold r7ends_b3 r7ends_k2
              dsimp only
              rw [two_eq hS, lt_f, cond_false, e1]
            · rw [ht k hk]
              by_cases h2 : (stateN k).Shown = l.Events[i].Shown
              · rw [if_pos ⟨hk, h2⟩, if_pos (by simpa using h2)]
              · rw [if_neg (fun h => h2 h.2), if_neg (by simpa using h2)]
            · rw [hlook]
              unfold Pass
              simp only [decide_eq_true_eq]
              exact ⟨fun h => ⟨h.1, (h.2 hk hwi hwho).symm⟩, fun h => ⟨h.1, fun _ _ _ => h.2.symm⟩⟩
        · rw [decide_eq_false hwho, cond_false]
          exact ⟨now, rfl, hN.of fun s n _ => by rw [hlook]; exact ⟨fun h => ⟨h, fun _ _ h3 => absurd h3 hwho⟩, fun h => h.1⟩⟩
    · have hwi : wo i = false := by
        cases h : wo i with
        | false => rfl
        | true => exact absurd (hwo i hi h) hk
      rw [hwi, cond_false, bneI, decide_eq_true hk, cond_true]
      obtain ⟨t', h1, h2⟩ := pulses_eq hS hi hk hN
      rw [h1, bind_s]
      exact ⟨t', rfl, h2⟩
  · rintro ⟨now, _⟩ ⟨rfl, hN⟩
    simp only at hN
    refine ⟨_, ?_, now, rfl, hN⟩
    unfold r7ends_b1
    dsimp only
    rw [lt_f, cond_false]
end
theorem some_eq {t : List Cd} (ht : (t.length : Int) ≤ 9223372036854775807) : r7some t = some (t.any (·.is)) := by
  unfold r7some
  have key : ∀ (d i : Nat), i + d = t.length → loopU (r7some_b1 t) (false, (i : Int)) = some ((t.drop i).any (·.is)) := by
    intro d
    induction d with
    | zero =>
      intro i h
      have e : i = t.length := by omega
      subst e
      rw [List.drop_length]
      apply loopU_ext
      unfold r7some_b1
      dsimp only
      rw [lt_f, cond_false]; rfl
    | succ d ih =>
      intro i h
      have hi : i < t.length := by omega
      have hb : r7some_b1 t (false, (i : Int)) = cond t[i].is (ext (some true)) (nxt (false, ((i + 1 : Nat) : Int))) := by
        unfold r7some_b1
        dsimp only
        rw [lt_t hi, cond_true, idx_get hi, bind_s, wr_succ (by omega)]
      rw [← List.getElem_cons_drop hi, List.any_cons]
      cases hc : t[i].is with
      | true => rw [hc] at hb; exact loopU_ext hb
      | false => rw [hc] at hb; rw [loopU_nxt hb, Bool.false_or]; exact ih (i + 1) (by omega)
  simpa using key t.length 0 (by omega)
section
variable {l : SlaveLine} {who : Nat} {wo : Nat → Bool}
theorem GoodT.at_ {R : Int} {t : List Cd} {V : SlaveStart → Rel} (h : GoodT R t V) {s : SlaveStart} (hs : OkT R s) : SumC (t.getD (placeN s) cd0) (V s) := by
  have := h.cell (placeN s) hs.place.2
  rwa [state_place hs] at this
theorem GoodT.any (hS : OkS l) (hw : who < l.Starts.length) {t : List Cd} (h : GoodT l.Ring t (WR l who wo l.Events.length)) : t.any (·.is) = canB l who wo := by
  rw [Bool.eq_iff_iff, List.any_eq_true, canB_iff hS hw]
  constructor
  · rintro ⟨c, hc, h1⟩
    obtain ⟨k, hk, rfl⟩ := List.getElem_of_mem hc
    have := h.cell k (by rw [← h.len]; exact hk)
    rw [show t.getD k cd0 = t[k] by simp [List.getD, hk]] at this
    obtain ⟨st, h2, _⟩ := this.low h1
    exact ⟨st, _, h2⟩
  · rintro ⟨st, s, h1⟩
    have hT := h1.okT hS
    have hc := h.at_ hT
    have hlt : placeN s < t.length := by rw [h.len]; exact hT.place.2
    have e : t.getD (placeN s) cd0 = t[placeN s] := by simp [List.getD, hlt]
    rw [e] at hc
    refine ⟨t[placeN s], List.getElem_mem hlt, ?_⟩
    cases hi : t[placeN s].is with
    | true => rfl
    | false => exact absurd ⟨h1, rfl⟩ (hc.no hi _ st)
theorem In_zero (i : Nat) (h : i < 64) : r0In 0 (i : Int) = some false := by
  unfold r0In
  rw [if_pos (by omega)]
  have : ∀ i < 64, bitsOp .and (gshr 0 ((i : Nat) : Int)) 1 = 0 := by decide +kernel
  rw [this i h]; rfl
theorem ends0 (hS : OkS l) (hw : who < l.Starts.length) : ∃ t, r7ends l (who : Int) 0 = some t ∧ GoodT l.Ring t (WR l who wo0 l.Events.length) :=
  ends_eq hS hw (fun i hi => In_zero i (by have := hS.e; omega)) fun i hi h => by cases h
structure AskR (l : SlaveLine) (who : Int) (r : (List Cd) × Int) : Prop where
  err : r.2 = askF l who
  no : r.2 ≠ 0 → r.1 = []
  is : r.2 = 0 → ∃ w : Nat, who = (w : Int) ∧ w < l.Starts.length ∧ OkS l ∧ GoodT l.Ring r.1 (WR l w wo0 l.Events.length) ∧ canB l w wo0 = true
theorem asked_eq {l : SlaveLine} (hl : Ok_SlaveLine l) (who : Int) : ∃ r, r7asked l who = some r ∧ AskR l who r := by
  unfold r7asked
  rw [Check_eq l hl, bind_s]
  cases hg : goodB l with
  | false => exact ⟨_, rfl, by simp [askF, hg], fun _ => rfl, fun h => by simp at h⟩
  | true =>
    have hS := OkS.of hg
    rw [if_pos rfl, sub1 hS, Lies_eq, bind_s]
    cases hi : inB who 0 ((l.Starts.length : Int) - 1) with
    | false => exact ⟨_, rfl, by simp [askF, hg, hi], fun _ => rfl, fun h => by simp at h⟩
    | true =>
      obtain ⟨w, rfl, hw⟩ := nat_of hi
      obtain ⟨t, ht, hT⟩ := ends0 hS hw
      have hr := hS.r2
      rw [ht, bind_s, some_eq (by rw [hT.len]; omega), bind_s, hT.any hS hw]
      cases hc : canB l w wo0 with
      | false => exact ⟨_, rfl, by simp [askF, hg, hi, hc], fun _ => rfl, fun h => by simp at h⟩
      | true => exact ⟨_, rfl, by simp [askF, hg, hi, hc], fun h => absurd rfl h, fun _ => ⟨w, rfl, hw, hS, hT, hc⟩⟩
theorem is_iff (hS : OkS l) {t : List Cd} (h : GoodT l.Ring t (WR l who wo l.Events.length)) {s : SlaveStart} (hs : OkT l.Ring s) : (t.getD (placeN s) cd0).is = true ↔ ∃ st, Tale l who wo st s := by
  have hc := h.at_ hs
  constructor
  · intro h1
    obtain ⟨st, h2, _⟩ := hc.low h1
    exact ⟨st, h2⟩
  · rintro ⟨st, h1⟩
    cases hi : (t.getD (placeN s) cd0).is with
    | true => rfl
    | false => exact absurd ⟨h1, rfl⟩ (hc.no hi _ st)
end
end Go.Proofs.YtmbgmefmkjeahaaDoor.Rt
