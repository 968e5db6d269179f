/- Plain laws of the beat seat: what Check comes to, the bounds of a cellar. Under the conditions that each names. -/
import Derived.Test.YtpniidbbbhbglaaDoorC14Pl1
import Derived.Test.YtpniidbbbhbglaaDoorC14WBZ
import Derived.Test.YtpniidbbbhbglaaDoorC14O0
set_option linter.unusedVariables false
set_option linter.unusedSimpArgs false
set_option maxRecDepth 100000
set_option maxHeartbeats 4000000
namespace Go.Proofs.YtpniidbbbhbglaaDoor.Rt
open Go Go.RowKit
def spanB (s : Span) (m : Int) : Bool := decide (-m ≤ s.Low) && decide (s.Low ≤ s.High) && decide (s.High ≤ m)
def inB (n a b : Int) : Bool := decide (a ≤ n) && decide (n ≤ b)
def rateB (s : Span) : Bool := spanB s 1000
def openB (c : BeatCellar) (o : BeatOpen) : Bool := inB o.Clock 0 (c.Rates.length - 1) && inB o.Hour 0 (c.Hours - 1) && spanB o.Step 100000
def pairB (c : BeatCellar) (p : BeatPair) : Bool := inB p.Hour 0 c.Hours && inB p.One 0 (c.Rates.length - 1) && inB p.Other (-1) (c.Rates.length - 1) && (p.One != p.Other) && spanB p.Read 200000
def sizesB (c : BeatCellar) : Bool := inB c.Hours 1 12 && inB c.Rates.length 1 5 && decide ((c.Opens.length : Int) ≤ 6) && decide ((c.Pairs.length : Int) ≤ 14)
def goodB (c : BeatCellar) : Bool := sizesB c && c.Rates.all rateB && c.Opens.all (openB c) && c.Pairs.all (pairB c)
theorem all_take {α : Type} {f : α → Bool} {xs : List α} {i : Nat} (h : i < xs.length) : (xs.take (i + 1)).all f = ((xs.take i).all f && f xs[i]) := by
  rw [List.take_succ_eq_append_getElem h, List.all_append]; simp
theorem lies_eq (n a b : Int) : beat_lies n a b = some (inB n a b) := rfl
theorem isSpan_eq (s : Span) (m : Int) (h0 : 0 ≤ m) (h1 : m ≤ 9223372036854775807) : beat_isSpan s m = some (spanB s m) := by
  unfold beat_isSpan spanB
  rw [wr_id' (by omega) (by omega)]
  simp
theorem beat_Check_eq (c : BeatCellar) (hc : Ok_BeatCellar c) : beat_Check c = some (if goodB c then 0 else 20) := by
  obtain ⟨⟨hh1, hh2⟩, ⟨hR, _⟩, ⟨hO, _⟩, ⟨hP, _⟩⟩ := hc
  have w1 : wr ((c.Rates.length : Int) - 1) = (c.Rates.length : Int) - 1 := wr_id' (by omega) (by omega)
  -- the comparisons
  have l3 : ∀ b : Bool, loopU (beat_Check_b3 c) (b, 0) = some (if b && c.Pairs.all (pairB c) then 0 else 20) := by
    intro b
    have h := loopU_run0 (body := beat_Check_b3 c) (fun i => (b && (c.Pairs.take i).all (pairB c), (i : Int))) c.Pairs.length (fun i hi => by
      have hd : decide ((i : Int) < (c.Pairs.length : Int)) = true := by simp; omega
      simp only [beat_Check_b3, hd, cond_true, idx_get hi, bind_s, lies_eq, w1]
      rw [wr_id' (by omega) (by omega), all_take hi, ← Bool.and_assoc]
      have hs := isSpan_eq c.Pairs[i].Read 200000 (by decide) (by decide)
      simp only [hs, bind_s, cond_s, nxt, pairB]
      generalize (b && (c.Pairs.take i).all _) = b0
      generalize inB c.Pairs[i].Hour 0 c.Hours = b1
      generalize inB c.Pairs[i].One 0 _ = b2
      generalize inB c.Pairs[i].Other (-1) _ = b3
      generalize (c.Pairs[i].One != c.Pairs[i].Other) = b4
      generalize spanB c.Pairs[i].Read 200000 = b5
      cases b0 <;> cases b1 <;> cases b2 <;> cases b3 <;> cases b4 <;> cases b5 <;> rfl)
    simp only [List.take_zero, List.all_nil, Bool.and_true, Int.natCast_zero, List.take_length] at h
    refine h.trans (loopU_ext ?_)
    simp only [beat_Check_b3]
    have hd : decide ((c.Pairs.length : Int) < (c.Pairs.length : Int)) = false := by simp
    rw [hd, cond_false]
    generalize (b && c.Pairs.all _) = b0
    cases b0 <;> rfl
  have l2 : ∀ b : Bool, (b = true → inB c.Hours 1 12 = true) → loopU (beat_Check_b2 c) (b, 0) = some (if b && c.Opens.all (openB c) && c.Pairs.all (pairB c) then 0 else 20) := by
    intro b hb
    have h := loopU_run0 (body := beat_Check_b2 c) (fun i => (b && (c.Opens.take i).all (openB c), (i : Int))) c.Opens.length (fun i hi => by
      have hd : decide ((i : Int) < (c.Opens.length : Int)) = true := by simp; omega
      simp only [beat_Check_b2, hd, cond_true, idx_get hi, bind_s, lies_eq, w1]
      have wi : wr ((i : Int) + 1) = ((i + 1 : Nat) : Int) := wr_id' (by omega) (by omega)
      rw [wi, all_take hi, ← Bool.and_assoc]
      have hs := isSpan_eq c.Opens[i].Step 100000 (by decide) (by decide)
      cases b with
      | false => simp only [Bool.false_and, cond_false, bind_s, nxt]
      | true =>
        have hH := hb rfl
        simp only [inB, Bool.and_eq_true, decide_eq_true_eq] at hH
        have w2 : wr (c.Hours - 1) = c.Hours - 1 := wr_id' (by omega) (by omega)
        simp only [hs, bind_s, cond_s, nxt, openB, w2]
        generalize (true && (c.Opens.take i).all _) = b0
        generalize inB c.Opens[i].Clock 0 _ = b1
        generalize inB c.Opens[i].Hour 0 _ = b2
        generalize spanB c.Opens[i].Step 100000 = b5
        cases b0 <;> cases b1 <;> cases b2 <;> cases b5 <;> rfl)
    simp only [List.take_zero, List.all_nil, Bool.and_true, Int.natCast_zero, List.take_length] at h
    refine h.trans (loopU_ext ?_)
    simp only [beat_Check_b2]
    have hd : decide ((c.Opens.length : Int) < (c.Opens.length : Int)) = false := by simp
    rw [hd, cond_false, l3]
  have l1 : ∀ b : Bool, (b = true → inB c.Hours 1 12 = true) → loopU (beat_Check_b1 c) (b, 0) = some (if b && c.Rates.all rateB && c.Opens.all (openB c) && c.Pairs.all (pairB c) then 0 else 20) := by
    intro b hb
    have h := loopU_run0 (body := beat_Check_b1 c) (fun i => (b && (c.Rates.take i).all rateB, (i : Int))) c.Rates.length (fun i hi => by
      have hd : decide ((i : Int) < (c.Rates.length : Int)) = true := by simp; omega
      simp only [beat_Check_b1, hd, cond_true, idx_get hi, bind_s]
      have wi : wr ((i : Int) + 1) = ((i + 1 : Nat) : Int) := wr_id' (by omega) (by omega)
      rw [wi, all_take hi, ← Bool.and_assoc]
      have hs := isSpan_eq c.Rates[i] 1000 (by decide) (by decide)
      simp only [hs, bind_s, cond_s, nxt, rateB]
      generalize (b && (c.Rates.take i).all _) = b0
      generalize spanB c.Rates[i] 1000 = b5
      cases b0 <;> cases b5 <;> rfl)
    simp only [List.take_zero, List.all_nil, Bool.and_true, Int.natCast_zero, List.take_length] at h
    refine h.trans (loopU_ext ?_)
    simp only [beat_Check_b1]
    have hd : decide ((c.Rates.length : Int) < (c.Rates.length : Int)) = false := by simp
    rw [hd, cond_false, l2 _ (fun h => hb (by simp only [Bool.and_eq_true] at h; exact h.1))]
  unfold beat_Check
  simp only [lies_eq, bind_s, cond_s]
  rw [l1 _ (fun h => by
    simp only [Bool.and_eq_true] at h
    have := h.1.1
    revert this
    cases inB c.Hours 1 12 <;> simp)]
  have e : (bif inB c.Hours 1 12 then inB (c.Rates.length : Int) 1 5 else false) = (inB c.Hours 1 12 && inB (c.Rates.length : Int) 1 5) := by cases inB c.Hours 1 12 <;> rfl
  simp only [goodB, sizesB, e]
  congr
def spotOf (W : Nat) : Nat → beat_spot
  | 0 => ⟨-1, 0⟩
  | m + 1 => ⟨((m / W : Nat) : Int), ((m % W : Nat) : Int)⟩
def plN (W n : Nat) : List (beat_spot × Int) := (List.range n).map fun m => (spotOf W m, (m : Int))
theorem kl_inj {a b : beat_spot} (h : kl_86 a = kl_86 b) : a = b := by
  cases a; cases b
  simp only [kl_86, List.cons.injEq, and_true] at h
  simp [h.1, h.2]
theorem spotOf_inj {W : Nat} (hW : 0 < W) : ∀ {a b : Nat}, spotOf W a = spotOf W b → a = b
  | 0, 0, _ => rfl
  | 0, b + 1, h => by simp only [spotOf, beat_spot.mk.injEq] at h; have := Int.natCast_nonneg (b / W); omega
  | a + 1, 0, h => by simp only [spotOf, beat_spot.mk.injEq] at h; have := Int.natCast_nonneg (a / W); omega
  | a + 1, b + 1, h => by
    simp only [spotOf, beat_spot.mk.injEq, Int.natCast_inj] at h
    have h1 := Nat.div_add_mod a W
    have h2 := Nat.div_add_mod b W
    rw [h.1, h.2] at h1
    omega
theorem mput_new {K V : Type} {kl : K → List Int} : ∀ {xs : List (K × V)} {k : K} {v : V}, (∀ p ∈ xs, kl p.1 ≠ kl k) → mput kl xs k v = xs ++ [(k, v)]
  | [], k, v, _ => rfl
  | p :: xs, k, v, h => by
    have h1 := h p (by simp)
    have h2 := mput_new (v := v) (fun q hq => h q (List.mem_cons_of_mem _ hq) : ∀ q ∈ xs, kl q.1 ≠ kl k)
    have hb : (kl k == kl p.1) = false := by simp; exact fun e => h1 e.symm
    simp only [mput, hb, cond_false, h2, List.cons_append]
theorem plN_put {W n : Nat} (hW : 0 < W) : mput kl_86 (plN W n) (spotOf W n) (n : Int) = plN W (n + 1) := by
  rw [mput_new]
  · simp [plN, List.range_succ]
  · intro p hp
    simp only [plN, List.mem_map, List.mem_range] at hp
    obtain ⟨m, hm, rfl⟩ := hp
    intro h
    have := spotOf_inj hW (kl_inj h)
    omega
theorem mget_plN {W : Nat} (hW : 0 < W) {n m : Nat} (hm : m < n) : mget kl_86 (plN W n) (spotOf W m) = some (m : Int) := by
  have key : ∀ (l : List Nat), m ∈ l → mget kl_86 (l.map fun m => (spotOf W m, (m : Int))) (spotOf W m) = some (m : Int) := by
    intro l
    induction l with
    | nil => intro h; simp at h
    | cons q l ih =>
      intro h
      simp only [List.map_cons, mget]
      cases hb : (kl_86 (spotOf W m) == kl_86 (spotOf W q)) with
      | true =>
        have : m = q := spotOf_inj hW (kl_inj (by simpa using hb))
        subst this; rfl
      | false =>
        simp only [cond_false]
        rcases List.mem_cons.1 h with rfl | h
        · simp at hb
        · exact ih h
  exact key _ (List.mem_range.2 hm)
theorem plN_len {W n : Nat} : (plN W n).length = n := by simp [plN]
theorem spotOf_at {W k j : Nat} (hj : j < W) : spotOf W (1 + k * W + j) = ⟨(k : Int), (j : Int)⟩ := by
  have e : 1 + k * W + j = (k * W + j) + 1 := by omega
  rw [e]
  simp only [spotOf]
  have h1 : (k * W + j) / W = k := by
    rw [Nat.mul_comm, Nat.mul_add_div (by omega), Nat.div_eq_of_lt hj]; omega
  have h2 : (k * W + j) % W = j := by
    rw [Nat.mul_comm, Nat.mul_add_mod, Nat.mod_eq_of_lt hj]
  rw [h1, h2]
def wid (c : BeatCellar) : Nat := c.Hours.toNat + 1
theorem opened_eq (c : BeatCellar) (left : Int) (h1 : 1 ≤ c.Hours) (h2 : c.Hours ≤ 12) (h3 : (c.Rates.length : Int) ≤ 5) :
    beat_opened c left = some ⟨c, left, plN (wid c) (1 + c.Rates.length * wid c)⟩ := by
  have hW : 0 < wid c := by simp [wid]
  have hWi : wr (c.Hours + 1) = (wid c : Int) := by rw [wr_id' (by omega) (by omega)]; simp only [wid]; omega
  have hW2 : wid c ≤ 13 := by simp only [wid]; omega
  have inner : ∀ k : Nat, k < c.Rates.length → loopU (beat_opened_b2 c (k : Int)) (0, plN (wid c) (1 + k * wid c)) = nxt (((k + 1 : Nat) : Int), plN (wid c) (1 + (k + 1) * wid c)) := by
    intro k hk
    have h := loopU_run0 (body := beat_opened_b2 c (k : Int)) (fun j => ((j : Int), plN (wid c) (1 + k * wid c + j))) (wid c) (fun j hj => by
      have hd : decide ((j : Int) < (wid c : Int)) = true := by simp; omega
      have wi : wr ((j : Int) + 1) = ((j + 1 : Nat) : Int) := wr_id' (by omega) (by omega)
      simp only [beat_opened_b2, hWi, hd, cond_true, wi, plN_len]
      rw [← spotOf_at hj, plN_put hW]
      rfl)
    refine Eq.trans h (loopU_ext ?_)
    have hd : decide ((wid c : Int) < (wid c : Int)) = false := by simp
    have wi : wr ((k : Int) + 1) = ((k + 1 : Nat) : Int) := wr_id' (by omega) (by omega)
    simp only [beat_opened_b2, hWi, hd, cond_false, wi]
    rw [show 1 + k * wid c + wid c = 1 + (k + 1) * wid c by rw [Nat.add_mul]; omega]
  unfold beat_opened
  have h := loopU_run0 (body := beat_opened_b1 c left) (fun k => ((k : Int), plN (wid c) (1 + k * wid c))) c.Rates.length (fun k hk => by
    have hd : decide ((k : Int) < (c.Rates.length : Int)) = true := by simp; omega
    simp only [beat_opened_b1, hd, cond_true]
    rw [inner k hk])
  have e0 : mput kl_86 ([] : List (beat_spot × Int)) (beat_spot.mk (-1) 0) 0 = plN (wid c) (1 + 0 * wid c) := by simp [mput, plN, spotOf]
  rw [e0]
  refine Eq.trans h (loopU_ext ?_)
  have hd : decide ((c.Rates.length : Int) < (c.Rates.length : Int)) = false := by simp
  simp only [beat_opened_b1, hd, cond_false]
theorem sum_bound {l : List Int} {B : Int} (hB : 0 ≤ B) (h : ∀ n ∈ l, -B ≤ n ∧ n ≤ B) : -(B * l.length) ≤ l.sum ∧ l.sum ≤ B * l.length := by
  induction l with
  | nil => simp
  | cons a l ih =>
    have h1 := h a (by simp)
    have h2 := ih (fun n hn => h n (List.mem_cons_of_mem _ hn))
    simp only [List.sum_cons, List.length_cons, Int.natCast_add, Int.natCast_one, Int.mul_add, Int.mul_one]
    omega
theorem sum_eq (first : Int) (l : List Int) (h0 : -1000 ≤ first ∧ first ≤ 1000) (hl : l.length ≤ 6) (h : ∀ n ∈ l, -100000 ≤ n ∧ n ≤ 100000) : beat_sum_int_ first l = some (first + l.sum) := by
  unfold beat_sum_int_
  have hr := loopU_run0 (body := beat_sum_int__b1 l) (fun i => (first + (l.take i).sum, (i : Int))) l.length (fun i hi => by
    have hd : decide ((i : Int) < (l.length : Int)) = true := by simp; omega
    have wi : wr ((i : Int) + 1) = ((i + 1 : Nat) : Int) := wr_id' (by omega) (by omega)
    have hb := sum_bound (l := l.take (i + 1)) (B := 100000) (by decide) (fun n hn => h n (List.mem_of_mem_take hn))
    have hlen : (l.take (i + 1)).length ≤ 6 := by simp; omega
    have e : (l.take (i + 1)).sum = (l.take i).sum + l[i] := by rw [List.take_succ_eq_append_getElem hi, List.sum_append]; simp
    simp only [beat_sum_int__b1, hd, cond_true, idx_get hi, bind_s, wi]
    rw [e, ← Int.add_assoc, wr_id' (by rw [Int.add_assoc, ← e]; omega) (by rw [Int.add_assoc, ← e]; omega)])
  simp only [List.take_zero, List.sum_nil, Int.add_zero, Int.natCast_zero, List.take_length] at hr
  refine hr.trans (loopU_ext ?_)
  have hd : decide ((l.length : Int) < (l.length : Int)) = false := by simp
  simp only [beat_sum_int__b1, hd, cond_false]
def bothL (a b : beat_spot) (s : Span) : List beat_bound := [⟨a, b, s.High⟩, ⟨b, a, -s.Low⟩]
theorem both_eq (a b : beat_spot) (s : Span) (h : -9223372036854775807 ≤ s.Low ∧ s.Low ≤ 9223372036854775807) : beat_both a b s = some (bothL a b s) := by
  unfold beat_both bothL
  rw [wr_id' (by omega) (by omega)]
  simp
def opensAt (c : BeatCellar) (k h : Int) : List BeatOpen := c.Opens.filter fun o => o.Clock == k && o.Hour == h
def growsSpan (c : BeatCellar) (r : Span) (k h : Int) : Span := ⟨r.Low + ((opensAt c k h).map (·.Step.Low)).sum, r.High + ((opensAt c k h).map (·.Step.High)).sum⟩
theorem filter_take {α : Type} {f : α → Bool} {xs : List α} {i : Nat} (h : i < xs.length) : (xs.take (i + 1)).filter f = (xs.take i).filter f ++ (if f xs[i] then [xs[i]] else []) := by
  rw [List.take_succ_eq_append_getElem h, List.filter_append]
  simp [List.filter_cons]
theorem grows_b3_eq (x : beat_cellar) (r : Span) (out : List beat_bound) (k h : Nat) (hO : x.BeatCellar.Opens.length ≤ 6) :
    loopU (beat_cellar_grows_b3 x (k : Int) r out (h : Int)) (([] : List Int), ([] : List Int), 0) =
      loopU (beat_cellar_grows_b3 x (k : Int) r out (h : Int)) ((opensAt x.BeatCellar k h).map (·.Step.Low), (opensAt x.BeatCellar k h).map (·.Step.High), (x.BeatCellar.Opens.length : Int)) := by
  have hr := loopU_run0 (body := beat_cellar_grows_b3 x (k : Int) r out (h : Int)) (fun i => (((x.BeatCellar.Opens.take i).filter fun o => o.Clock == (k : Int) && o.Hour == (h : Int)).map (·.Step.Low),
      ((x.BeatCellar.Opens.take i).filter fun o => o.Clock == (k : Int) && o.Hour == (h : Int)).map (·.Step.High), (i : Int))) x.BeatCellar.Opens.length (fun i hi => by
    have hd : decide ((i : Int) < (x.BeatCellar.Opens.length : Int)) = true := by simp; omega
    have wi : wr ((i : Int) + 1) = ((i + 1 : Nat) : Int) := wr_id' (by omega) (by omega)
    have hlen : ((x.BeatCellar.Opens.take i).filter fun o => o.Clock == (k : Int) && o.Hour == (h : Int)).length ≤ 6 := by
      have := List.length_filter_le (fun o : BeatOpen => o.Clock == (k : Int) && o.Hour == (h : Int)) (x.BeatCellar.Opens.take i)
      simp only [List.length_take] at this; omega
    simp only [beat_cellar_grows_b3, hd, cond_true, idx_get hi, bind_s, wi, filter_take hi]
    cases hc : (x.BeatCellar.Opens[i].Clock == (k : Int) && x.BeatCellar.Opens[i].Hour == (h : Int)) with
    | true =>
      simp only [cond_true, List.length_map, List.length_singleton, if_true, List.map_append, List.map_cons, List.map_nil, lim]
      rw [if_pos (by omega), if_pos (by omega)]
    | false => simp)
  simpa [opensAt] using hr
theorem opensAt_bound {c : BeatCellar} (hg : c.Opens.all (openB c) = true) (k h : Int) : ∀ o ∈ opensAt c k h, (-100000 ≤ o.Step.Low ∧ o.Step.Low ≤ 100000) ∧ (-100000 ≤ o.Step.High ∧ o.Step.High ≤ 100000) := by
  intro o ho
  have := List.all_eq_true.1 hg o ((List.mem_filter.1 ho).1)
  simp only [openB, spanB, inB, Bool.and_eq_true, decide_eq_true_eq] at this
  omega
theorem grows_step (x : beat_cellar) (r : Span) (out : List beat_bound) (k h : Nat) (hO : x.BeatCellar.Opens.length ≤ 6) (hg : x.BeatCellar.Opens.all (openB x.BeatCellar) = true) (hr : rateB r = true) (hout : out.length ≤ 1000) (hh : h ≤ 100) :
    loopU (beat_cellar_grows_b3 x (k : Int) r out (h : Int)) (([] : List Int), ([] : List Int), 0) = nxt (out ++ bothL ⟨(k : Int), ((h + 1 : Nat) : Int)⟩ ⟨(k : Int), (h : Int)⟩ (growsSpan x.BeatCellar r k h), ((h + 1 : Nat) : Int)) := by
  rw [grows_b3_eq x r out k h hO]
  refine loopU_ext ?_
  have hd : decide ((x.BeatCellar.Opens.length : Int) < (x.BeatCellar.Opens.length : Int)) = false := by simp
  have wi : wr ((h : Int) + 1) = ((h + 1 : Nat) : Int) := wr_id' (by omega) (by omega)
  simp only [rateB, spanB, Bool.and_eq_true, decide_eq_true_eq] at hr
  have hlen : (opensAt x.BeatCellar k h).length ≤ 6 := by
    have := List.length_filter_le (fun o : BeatOpen => o.Clock == (k : Int) && o.Hour == (h : Int)) x.BeatCellar.Opens
    simp only [opensAt]; omega
  have hb := opensAt_bound hg (k : Int) (h : Int)
  have s1 := sum_eq r.Low ((opensAt x.BeatCellar k h).map (·.Step.Low)) (by omega) (by simpa using hlen) (fun n hn => by
    obtain ⟨o, ho, rfl⟩ := List.mem_map.1 hn; exact (hb o ho).1)
  have s2 := sum_eq r.High ((opensAt x.BeatCellar k h).map (·.Step.High)) (by omega) (by simpa using hlen) (fun n hn => by
    obtain ⟨o, ho, rfl⟩ := List.mem_map.1 hn; exact (hb o ho).2)
  have sb := sum_bound (l := (opensAt x.BeatCellar k h).map (·.Step.Low)) (B := 100000) (by decide) (fun n hn => by
    obtain ⟨o, ho, rfl⟩ := List.mem_map.1 hn; exact (hb o ho).1)
  simp only [List.length_map] at sb
  simp only [beat_cellar_grows_b3, hd, cond_false, s1, s2, bind_s, wi]
  rw [both_eq _ _ _ (by simp only; omega)]
  simp only [bind_s, growsSpan, lim]
  have hif : ∀ s : Span, out.length + (bothL (beat_spot.mk (k : Int) ((h + 1 : Nat) : Int)) (beat_spot.mk (k : Int) (h : Int)) s).length ≤ 1099511627776 := fun s => by simp only [bothL, List.length_cons, List.length_nil]; omega
  simp only [hif, if_true]
def growsK (c : BeatCellar) (r : Span) (k : Nat) (n : Nat) : List beat_bound := (List.range n).flatMap fun h => bothL ⟨(k : Int), ((h + 1 : Nat) : Int)⟩ ⟨(k : Int), (h : Int)⟩ (growsSpan c r k (h : Int))
theorem growsK_len (c : BeatCellar) (r : Span) (k n : Nat) : (growsK c r k n).length = 2 * n := by
  induction n with
  | zero => rfl
  | succ n ih => simp only [growsK, List.range_succ, List.flatMap_append, List.length_append] at ih ⊢; rw [ih]; simp [bothL]; omega
theorem growsK_succ (c : BeatCellar) (r : Span) (k n : Nat) : growsK c r k (n + 1) = growsK c r k n ++ bothL ⟨(k : Int), ((n + 1 : Nat) : Int)⟩ ⟨(k : Int), (n : Int)⟩ (growsSpan c r k (n : Int)) := by
  simp [growsK, List.range_succ, List.flatMap_append]
theorem grows_clock (x : beat_cellar) (r : Span) (out : List beat_bound) (k : Nat) (hk : k ≤ 100) (hH : 0 ≤ x.BeatCellar.Hours ∧ x.BeatCellar.Hours ≤ 12) (hO : x.BeatCellar.Opens.length ≤ 6) (hg : x.BeatCellar.Opens.all (openB x.BeatCellar) = true) (hr : rateB r = true) (hout : out.length ≤ 900) :
    loopU (beat_cellar_grows_b2 x (k : Int) r) (out, 0) = nxt (out ++ growsK x.BeatCellar r k x.BeatCellar.Hours.toNat, ((k + 1 : Nat) : Int)) := by
  have h := loopU_run0 (body := beat_cellar_grows_b2 x (k : Int) r) (fun i => (out ++ growsK x.BeatCellar r k i, (i : Int))) x.BeatCellar.Hours.toNat (fun i hi => by
    have hd : decide ((i : Int) < x.BeatCellar.Hours) = true := by simp; omega
    simp only [beat_cellar_grows_b2, hd, cond_true]
    rw [grows_step x r _ k i hO hg hr (by rw [List.length_append, growsK_len]; omega) (by omega), growsK_succ, List.append_assoc])
  simp only [growsK, List.range_zero, List.flatMap_nil, List.append_nil, Int.natCast_zero] at h
  refine h.trans (loopU_ext ?_)
  have hd : decide (((x.BeatCellar.Hours.toNat : Nat) : Int) < x.BeatCellar.Hours) = false := by simp; omega
  have wi : wr ((k : Int) + 1) = ((k + 1 : Nat) : Int) := wr_id' (by omega) (by omega)
  simp only [beat_cellar_grows_b2, hd, cond_false, wi, growsK]
def growsL (c : BeatCellar) (n : Nat) : List beat_bound := (List.range n).flatMap fun k => growsK c (c.Rates.getD k ⟨0, 0⟩) k c.Hours.toNat
theorem growsL_succ (c : BeatCellar) (n : Nat) : growsL c (n + 1) = growsL c n ++ growsK c (c.Rates.getD n ⟨0, 0⟩) n c.Hours.toNat := by simp [growsL, List.range_succ, List.flatMap_append]
theorem growsL_len (c : BeatCellar) (n : Nat) : (growsL c n).length = 2 * c.Hours.toNat * n := by
  induction n with
  | zero => rfl
  | succ n ih => rw [growsL_succ, List.length_append, ih, growsK_len, Nat.mul_add]; omega
theorem grows_eq (x : beat_cellar) (hx : goodB x.BeatCellar = true) : beat_cellar_grows x = some (growsL x.BeatCellar x.BeatCellar.Rates.length) := by
  simp only [goodB, sizesB, inB, Bool.and_eq_true, decide_eq_true_eq] at hx
  obtain ⟨⟨⟨⟨⟨⟨hh, hk⟩, hO⟩, hP⟩, hr⟩, hg⟩, hp⟩ := hx
  unfold beat_cellar_grows
  have h := loopU_run0 (body := beat_cellar_grows_b1 x) (fun i => (growsL x.BeatCellar i, (i : Int))) x.BeatCellar.Rates.length (fun i hi => by
    have hd : decide ((i : Int) < (x.BeatCellar.Rates.length : Int)) = true := by simp; omega
    have hri : rateB x.BeatCellar.Rates[i] = true := List.all_eq_true.1 hr _ (List.getElem_mem hi)
    have hl : (growsL x.BeatCellar i).length ≤ 900 := by
      rw [growsL_len]
      have h1 : 2 * x.BeatCellar.Hours.toNat ≤ 24 := by omega
      have h2 : i ≤ 5 := by omega
      exact Nat.le_trans (Nat.mul_le_mul h1 h2) (by decide)
    simp only [beat_cellar_grows_b1, hd, cond_true, idx_get hi, bind_s]
    rw [grows_clock x _ _ i (by omega) (by omega) (by omega) hg hri hl, growsL_succ]
    simp [List.getD, hi])
  simp only [growsL, List.range_zero, List.flatMap_nil, Int.natCast_zero] at h
  refine h.trans (loopU_ext ?_)
  have hd : decide ((x.BeatCellar.Rates.length : Int) < (x.BeatCellar.Rates.length : Int)) = false := by simp
  simp only [beat_cellar_grows_b1, hd, cond_false, growsL]
def holdsK (k n : Nat) : List beat_bound := (List.range n).flatMap fun (h : Nat) => bothL ⟨(k : Int), (h : Int)⟩ ⟨-1, 0⟩ ⟨-100000, 100000⟩
theorem holdsK_succ (k n : Nat) : holdsK k (n + 1) = holdsK k n ++ bothL ⟨(k : Int), (n : Int)⟩ ⟨-1, 0⟩ ⟨-100000, 100000⟩ := by simp [holdsK, List.range_succ, List.flatMap_append]
theorem holdsK_len (k n : Nat) : (holdsK k n).length = 2 * n := by
  induction n with
  | zero => rfl
  | succ n ih => rw [holdsK_succ, List.length_append, ih]; simp [bothL]; omega
def holdsL (W n : Nat) : List beat_bound := (List.range n).flatMap fun k => holdsK k W
theorem holdsL_succ (W n : Nat) : holdsL W (n + 1) = holdsL W n ++ holdsK n W := by simp [holdsL, List.range_succ, List.flatMap_append]
theorem holdsL_len (W n : Nat) : (holdsL W n).length = 2 * W * n := by
  induction n with
  | zero => rfl
  | succ n ih => rw [holdsL_succ, List.length_append, ih, holdsK_len, Nat.mul_add]; omega
theorem holds_eq (x : beat_cellar) (hx : goodB x.BeatCellar = true) : beat_cellar_holds x = some (holdsL (wid x.BeatCellar) x.BeatCellar.Rates.length) := by
  simp only [goodB, sizesB, inB, Bool.and_eq_true, decide_eq_true_eq] at hx
  obtain ⟨⟨⟨⟨⟨⟨hh, hk⟩, hO⟩, hP⟩, hr⟩, hg⟩, hp⟩ := hx
  have hWi : wr (x.BeatCellar.Hours + 1) = (wid x.BeatCellar : Int) := by rw [wr_id' (by omega) (by omega)]; simp only [wid]; omega
  have hW2 : wid x.BeatCellar ≤ 13 := by simp only [wid]; omega
  have inner : ∀ (k : Nat) (out : List beat_bound), k ≤ 100 → out.length ≤ 900 → loopU (beat_cellar_holds_b2 x (k : Int)) (out, 0) = nxt (out ++ holdsK k (wid x.BeatCellar), ((k + 1 : Nat) : Int)) := by
    intro k out hk hout
    have h := loopU_run0 (body := beat_cellar_holds_b2 x (k : Int)) (fun i => (out ++ holdsK k i, (i : Int))) (wid x.BeatCellar) (fun i hi => by
      have hd : decide ((i : Int) < (wid x.BeatCellar : Int)) = true := by simp; omega
      have wi : wr ((i : Int) + 1) = ((i + 1 : Nat) : Int) := wr_id' (by omega) (by omega)
      have hb := both_eq ⟨(k : Int), (i : Int)⟩ ⟨-1, 0⟩ ⟨-100000, 100000⟩ (by decide)
      have hif : (out ++ holdsK k i).length + (bothL (beat_spot.mk (k : Int) (i : Int)) ⟨-1, 0⟩ ⟨-100000, 100000⟩).length ≤ 1099511627776 := by
        rw [List.length_append, holdsK_len]; simp only [bothL, List.length_cons, List.length_nil]; omega
      simp only [beat_cellar_holds_b2, hWi, hd, cond_true, beat_truth, bind_s, hb, lim, hif, if_true, wi, holdsK_succ, List.append_assoc])
    simp only [holdsK, List.range_zero, List.flatMap_nil, List.append_nil, Int.natCast_zero] at h
    refine h.trans (loopU_ext ?_)
    have hd : decide ((wid x.BeatCellar : Int) < (wid x.BeatCellar : Int)) = false := by simp
    have wi : wr ((k : Int) + 1) = ((k + 1 : Nat) : Int) := wr_id' (by omega) (by omega)
    simp only [beat_cellar_holds_b2, hWi, hd, cond_false, wi, holdsK]
  unfold beat_cellar_holds
  have h := loopU_run0 (body := beat_cellar_holds_b1 x) (fun i => (holdsL (wid x.BeatCellar) i, (i : Int))) x.BeatCellar.Rates.length (fun i hi => by
    have hd : decide ((i : Int) < (x.BeatCellar.Rates.length : Int)) = true := by simp; omega
    have hl : (holdsL (wid x.BeatCellar) i).length ≤ 900 := by
      rw [holdsL_len]
      exact Nat.le_trans (Nat.mul_le_mul (show 2 * wid x.BeatCellar ≤ 26 by omega) (show i ≤ 5 by omega)) (by decide)
    simp only [beat_cellar_holds_b1, hd, cond_true]
    rw [inner i _ (by omega) hl, holdsL_succ])
  simp only [holdsL, List.range_zero, List.flatMap_nil, Int.natCast_zero] at h
  refine h.trans (loopU_ext ?_)
  have hd : decide ((x.BeatCellar.Rates.length : Int) < (x.BeatCellar.Rates.length : Int)) = false := by simp
  simp only [beat_cellar_holds_b1, hd, cond_false, holdsL]
def inSetB (s k : Int) : Bool := bitsOp .and (gshr s k) 1 == 1
def ofB (left : Int) (p : BeatPair) : Bool := inSetB left p.One || (decide (p.Other ≥ 0) && inSetB left p.Other)
theorem of_eq (c : beat_cellar) (p : BeatPair) (h : 0 ≤ p.One) : beat_cellar_of c p = some (ofB c.left p) := by
  unfold beat_cellar_of
  rw [if_pos (by omega)]
  simp only [ofB, inSetB]
  by_cases ho : p.Other ≥ 0
  · have : ¬ p.Other < 0 := by omega
    simp only [ho, decide_true, cond_true, this, not_false_eq_true, if_true, bind_s, Bool.true_and]
    cases (bitsOp .and (gshr c.left p.One) 1 == 1) <;> rfl
  · simp only [ho, decide_false, cond_false, bind_s, Bool.false_and]
    cases (bitsOp .and (gshr c.left p.One) 1 == 1) <;> rfl
def otherSpot (p : BeatPair) (h : Int) : beat_spot := if p.Other ≥ 0 then ⟨p.Other, h⟩ else ⟨-1, 0⟩
def readsH (c : BeatCellar) (left : Int) (h : Int) (l : List BeatPair) : List beat_bound := (l.filter fun p => p.Hour == h && !ofB left p).flatMap fun p => bothL ⟨p.One, h⟩ (otherSpot p h) p.Read
def readsL (c : BeatCellar) (left : Int) (n : Nat) : List beat_bound := (List.range n).flatMap fun (h : Nat) => readsH c left (h : Int) c.Pairs
theorem readsL_succ (c : BeatCellar) (left : Int) (n : Nat) : readsL c left (n + 1) = readsL c left n ++ readsH c left (n : Int) c.Pairs := by simp [readsL, List.range_succ, List.flatMap_append]
theorem readsH_len (c : BeatCellar) (left h : Int) (l : List BeatPair) : (readsH c left h l).length ≤ 2 * l.length := by
  induction l with
  | nil => simp [readsH]
  | cons p l ih =>
    simp only [readsH, List.filter_cons] at ih ⊢
    split
    · simp only [List.flatMap_cons, List.length_append, List.length_cons, bothL, List.length_nil] at ih ⊢; omega
    · simp only [List.length_cons]; omega
theorem readsL_len (c : BeatCellar) (left : Int) (n : Nat) : (readsL c left n).length ≤ 2 * c.Pairs.length * n := by
  induction n with
  | zero => simp [readsL]
  | succ n ih => rw [readsL_succ, List.length_append, Nat.mul_succ]; have := readsH_len c left (n : Int) c.Pairs; omega
theorem readsH_take (c : BeatCellar) (left h : Int) {l : List BeatPair} {i : Nat} (hi : i < l.length) :
    readsH c left h (l.take (i + 1)) = readsH c left h (l.take i) ++ (if (l[i].Hour == h && !ofB left l[i]) = true then bothL ⟨l[i].One, h⟩ (otherSpot l[i] h) l[i].Read else []) := by
  simp only [readsH, filter_take hi, List.flatMap_append]
  split <;> simp
theorem reads_y2_eq (h : Int) (p : BeatPair) (l : List beat_bound) (hl : l.length ≤ 10000) (hp : -9223372036854775807 ≤ p.Read.Low ∧ p.Read.Low ≤ 9223372036854775807) :
    beat_cellar_reads_y2 h p l = some (l ++ bothL ⟨p.One, h⟩ (otherSpot p h) p.Read) := by
  have hif : ∀ a b : beat_spot, l.length + (bothL a b p.Read).length ≤ lim := fun a b => by simp only [bothL, List.length_cons, List.length_nil, lim]; omega
  have hb := fun a b : beat_spot => both_eq a b p.Read hp
  by_cases ho : p.Other ≥ 0
  · simp only [beat_cellar_reads_y2, beat_truth, bind_s, ho, decide_true, cond_true, beat_cellar_reads_k3, hb, hif, if_true, otherSpot]
  · simp only [beat_cellar_reads_y2, beat_truth, bind_s, ho, decide_false, cond_false, beat_cellar_reads_k3, hb, hif, if_true, otherSpot, if_false]
theorem pairs_1_eq (x : beat_cellar) (hx : goodB x.BeatCellar = true) (h : Int) (l : List beat_bound) (hl : l.length ≤ 9000) :
    beat_cellar_pairs_1 (beat_cellar_reads_y2 h) x h l = some (l ++ readsH x.BeatCellar x.left h x.BeatCellar.Pairs) := by
  simp only [goodB, sizesB, inB, Bool.and_eq_true, decide_eq_true_eq] at hx
  obtain ⟨⟨⟨⟨⟨⟨hh, hk⟩, hO⟩, hP⟩, hr⟩, hg⟩, hp⟩ := hx
  unfold beat_cellar_pairs_1
  have hrun := loopU_run0 (body := beat_cellar_pairs_1_b1 x h (beat_cellar_reads_y2 h)) (fun i => ((i : Int), l ++ readsH x.BeatCellar x.left h (x.BeatCellar.Pairs.take i))) x.BeatCellar.Pairs.length (fun i hi => by
    have hd : decide ((i : Int) < (x.BeatCellar.Pairs.length : Int)) = true := by simp; omega
    have wi : wr ((i : Int) + 1) = ((i + 1 : Nat) : Int) := wr_id' (by omega) (by omega)
    have hpi := List.all_eq_true.1 hp _ (List.getElem_mem hi)
    simp only [pairB, spanB, inB, Bool.and_eq_true, decide_eq_true_eq] at hpi
    have hlen : (l ++ readsH x.BeatCellar x.left h (x.BeatCellar.Pairs.take i)).length ≤ 10000 := by
      have := readsH_len x.BeatCellar x.left h (x.BeatCellar.Pairs.take i)
      rw [List.length_take] at this
      rw [List.length_append]; omega
    simp only [beat_cellar_pairs_1_b1, hd, cond_true, idx_get hi, bind_s, wi, of_eq x _ (by omega : 0 ≤ x.BeatCellar.Pairs[i].One)]
    rw [readsH_take _ _ _ hi]
    have hy := reads_y2_eq h x.BeatCellar.Pairs[i] _ hlen (by omega)
    cases hc1 : (x.BeatCellar.Pairs[i].Hour == h) <;> cases hc2 : ofB x.left x.BeatCellar.Pairs[i] <;>
      simp only [cond_true, cond_false, bind_s, Bool.not_true, Bool.not_false, Bool.and_true, Bool.and_false, Bool.false_and, if_true, Bool.false_eq_true, if_false, List.append_nil, hy, List.append_assoc])
  simp only [List.take_zero, Int.natCast_zero, List.take_length] at hrun
  rw [show readsH x.BeatCellar x.left h [] = [] from rfl, List.append_nil] at hrun
  refine hrun.trans (loopU_ext ?_)
  have hd : decide ((x.BeatCellar.Pairs.length : Int) < (x.BeatCellar.Pairs.length : Int)) = false := by simp
  simp only [beat_cellar_pairs_1_b1, hd, cond_false]
theorem reads_eq (x : beat_cellar) (hx : goodB x.BeatCellar = true) : beat_cellar_reads x = some (readsL x.BeatCellar x.left (wid x.BeatCellar)) := by
  have hx' := hx
  simp only [goodB, sizesB, inB, Bool.and_eq_true, decide_eq_true_eq] at hx
  obtain ⟨⟨⟨⟨⟨⟨hh, hk⟩, hO⟩, hP⟩, hr⟩, hg⟩, hp⟩ := hx
  have hWi : wr (x.BeatCellar.Hours + 1) = (wid x.BeatCellar : Int) := by rw [wr_id' (by omega) (by omega)]; simp only [wid]; omega
  have hW2 : wid x.BeatCellar ≤ 13 := by simp only [wid]; omega
  unfold beat_cellar_reads
  have hrun := loopU_run0 (body := beat_cellar_reads_b1 x) (fun i => ((i : Int), readsL x.BeatCellar x.left i)) (wid x.BeatCellar) (fun i hi => by
    have hd : decide ((i : Int) < (wid x.BeatCellar : Int)) = true := by simp; omega
    have wi : wr ((i : Int) + 1) = ((i + 1 : Nat) : Int) := wr_id' (by omega) (by omega)
    have hl : (readsL x.BeatCellar x.left i).length ≤ 9000 := by
      have h1 := readsL_len x.BeatCellar x.left i
      have h2 : 2 * x.BeatCellar.Pairs.length * i ≤ 28 * 13 := Nat.mul_le_mul (by omega) (by omega)
      omega
    simp only [beat_cellar_reads_b1, hWi, hd, cond_true, beat_cellar_pairs, bind_s, wi, pairs_1_eq x hx' _ _ hl, readsL_succ])
  simp only [Int.natCast_zero] at hrun
  rw [show readsL x.BeatCellar x.left 0 = [] from rfl] at hrun
  refine hrun.trans (loopU_ext ?_)
  have hd : decide ((wid x.BeatCellar : Int) < (wid x.BeatCellar : Int)) = false := by simp
  simp only [beat_cellar_reads_b1, hWi, hd, cond_false]
end Go.Proofs.YtpniidbbbhbglaaDoor.Rt
