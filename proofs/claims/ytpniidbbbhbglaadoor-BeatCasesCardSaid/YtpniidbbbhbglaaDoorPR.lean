/- Plain laws of the beat seat: what the reference answers. Under the conditions that each names. -/
import Derived.Test.YtpniidbbbhbglaaDoorPB
import Derived.Test.YtpniidbbbhbglaaDoorPC
import Derived.Test.YtpniidbbbhbglaaDoorWRZ
set_option linter.unusedVariables false
set_option linter.unusedSimpArgs false
set_option maxRecDepth 100000
set_option maxHeartbeats 4000000
namespace Go.Proofs.YtpniidbbbhbglaaDoor.Rt
open Go Go.RowKit

theorem ref_Check_eq (c : BeatCellar) (hc : Ok_BeatCellar c) : remontoirref02_Check c = some (if goodB c then 0 else 20) := by
  obtain ⟨⟨hh1, hh2⟩, ⟨hR, _⟩, ⟨hO, _⟩, ⟨hP, _⟩⟩ := hc
  have w1 : wr ((c.Rates.length : Int) - 1) = (c.Rates.length : Int) - 1 := wr_id' (by omega) (by omega)
  have l3 : ∀ b : Bool, loopU (remontoirref02_Check_b3 c) (b, 0) = some (if b && c.Pairs.all (pairB c) then 0 else 20) := by
    refine loop_flag c.Pairs (pairB c) (fun b => some (if b then 0 else 20)) _ (fun i hi => ?_) (fun i => ?_) ?_
    · have hd : decide ((i : Int) < (c.Pairs.length : Int)) = true := by simp; omega
      have wi : wr ((i : Int) + 1) = ((i + 1 : Nat) : Int) := wr_id' (by omega) (by omega)
      simp only [remontoirref02_Check_b3, hd, Bool.true_and, cond_true, idx_get hi, bind_s, Lies_eq, w1, wi, Valid_eq, cond_s, nxt, pairB]
      generalize inB c.Pairs[i].Hour 0 c.Hours = b1
      generalize inB c.Pairs[i].One 0 _ = b2
      generalize inB c.Pairs[i].Other (-1) _ = b3
      generalize (c.Pairs[i].One != c.Pairs[i].Other) = b4
      generalize spanB c.Pairs[i].Read 200000 = b5
      cases b1 <;> cases b2 <;> cases b3 <;> cases b4 <;> cases b5 <;> rfl
    · simp [remontoirref02_Check_b3]
    · simp [remontoirref02_Check_b3]
  have l2 : ∀ b : Bool, (b = true → inB c.Hours 1 12 = true) → loopU (remontoirref02_Check_b2 c) (b, 0) = some (if b && c.Opens.all (openB c) && c.Pairs.all (pairB c) then 0 else 20) := by
    intro b hb
    cases b with
    | false =>
      rw [loopU_ext (o := loopU (remontoirref02_Check_b3 c) (false, 0)) (by simp [remontoirref02_Check_b2]), l3]; rfl
    | true =>
      have hH := hb rfl
      simp only [inB, Bool.and_eq_true, decide_eq_true_eq] at hH
      have w2 : wr (c.Hours - 1) = c.Hours - 1 := wr_id' (by omega) (by omega)
      refine (loop_flag c.Opens (openB c) (fun b => loopU (remontoirref02_Check_b3 c) (b, 0)) _ (fun i hi => ?_) (fun i => ?_) ?_ true).trans (l3 _)
      · have hd : decide ((i : Int) < (c.Opens.length : Int)) = true := by simp; omega
        have wi : wr ((i : Int) + 1) = ((i + 1 : Nat) : Int) := wr_id' (by omega) (by omega)
        simp only [remontoirref02_Check_b2, hd, Bool.true_and, cond_true, idx_get hi, bind_s, Lies_eq, w1, w2, wi, Valid_eq, cond_s, nxt, openB]
        generalize inB c.Opens[i].Clock 0 _ = b1
        generalize inB c.Opens[i].Hour 0 _ = b2
        generalize spanB c.Opens[i].Step 100000 = b5
        cases b1 <;> cases b2 <;> cases b5 <;> rfl
      · simp [remontoirref02_Check_b2]
      · simp [remontoirref02_Check_b2]
  have l1 : ∀ b : Bool, (b = true → inB c.Hours 1 12 = true) → loopU (remontoirref02_Check_b1 c) (b, 0) = some (if b && c.Rates.all rateB && c.Opens.all (openB c) && c.Pairs.all (pairB c) then 0 else 20) := by
    intro b hb
    refine (loop_flag c.Rates rateB (fun b' => loopU (remontoirref02_Check_b2 c) (b', 0)) _ (fun i hi => ?_) (fun i => ?_) ?_ b).trans (l2 _ (fun h => hb (by simp only [Bool.and_eq_true] at h; exact h.1)))
    · have hd : decide ((i : Int) < (c.Rates.length : Int)) = true := by simp; omega
      have wi : wr ((i : Int) + 1) = ((i + 1 : Nat) : Int) := wr_id' (by omega) (by omega)
      simp only [remontoirref02_Check_b1, hd, Bool.true_and, cond_true, idx_get hi, bind_s, wi, Valid_eq, nxt, rateB]
    · simp [remontoirref02_Check_b1]
    · simp [remontoirref02_Check_b1]
  unfold remontoirref02_Check
  simp only [Lies_eq, bind_s, cond_s]
  rw [l1 _ (fun h => by
    simp only [Bool.and_eq_true] at h
    have := h.1.1
    revert this
    cases inB c.Hours 1 12 <;> simp)]
  have e : (bif inB c.Hours 1 12 then inB (c.Rates.length : Int) 1 5 else false) = (inB c.Hours 1 12 && inB (c.Rates.length : Int) 1 5) := by cases inB c.Hours 1 12 <;> rfl
  simp only [goodB, sizesB, e]
  congr

def FeasM (m : Nat → Nat → Int) (N : Nat) (x : Nat → Int) : Prop := ∀ a, a < N → ∀ b, b < N → x a - x b ≤ m a b

structure GoodM (m0 : Nat → Nat → Int) (N k : Nat) (m : Nat → Nat → Int) : Prop where
  diag : ∀ a, a < N → m a a = 0
  le0 : ∀ a, a < N → ∀ b, b < N → m a b ≤ m0 a b
  tri : ∀ a, a < N → ∀ b, b < N → ∀ j, j < k → m a b ≤ m a j + m j b
  low : ∀ a, a < N → ∀ b, b < N → m0 a b ≤ m a b ∨ ∃ p q, p < k ∧ q < k ∧ m0 a p + m p q + m0 q b ≤ m a b
  snd : ∀ x, FeasM m0 N x → ∀ a, a < N → ∀ b, b < N → x a - x b ≤ m a b

theorem GoodM.zero {m0 : Nat → Nat → Int} {N : Nat} (h : ∀ a, a < N → m0 a a = 0) : GoodM m0 N 0 m0 :=
  ⟨h, fun a _ b _ => Int.le_refl _, fun a _ b _ j hj => by omega, fun a _ b _ => Or.inl (Int.le_refl _), fun x hx => hx⟩

theorem GoodM.step {m0 m m' : Nat → Nat → Int} {N k : Nat} (hk : k < N) (g : GoodM m0 N k m) (he : ∀ a, a < N → ∀ b, b < N → m' a b = min (m a b) (m a k + m k b)) (hd : ∀ a, a < N → 0 ≤ m' a a) : GoodM m0 N (k + 1) m' := by
  have hle : ∀ a, a < N → ∀ b, b < N → m' a b ≤ m a b := fun a ha b hb => by rw [he a ha b hb]; omega
  have hlk : ∀ a, a < N → ∀ b, b < N → m' a b ≤ m a k + m k b := fun a ha b hb => by rw [he a ha b hb]; omega
  have hkk := g.diag k hk
  have hd' : ∀ a, a < N → m' a a = 0 := fun a ha => by
    have := hle a ha a ha
    have := g.diag a ha
    have := hd a ha
    omega
  have hak : ∀ a, a < N → m' a k = m a k := fun a ha => by rw [he a ha k hk]; omega
  have hka : ∀ a, a < N → m' k a = m k a := fun a ha => by rw [he k hk a ha]; omega
  refine ⟨hd', fun a ha b hb => Int.le_trans (hle a ha b hb) (g.le0 a ha b hb), ?_, ?_, ?_⟩
  · intro a ha b hb j hj
    by_cases hjk : j = k
    · subst hjk
      rw [hak a ha, hka b hb]; exact hlk a ha b hb
    · have hj' : j < k := by omega
      have hjN : j < N := by omega
      have h1 := hle a ha b hb
      have h2 := hlk a ha b hb
      have t1 := g.tri a ha b hb j hj'
      have t2 := g.tri a ha k hk j hj'
      have t3 := g.tri k hk b hb j hj'
      have t4 := g.tri k hk k hk j hj'
      rw [he a ha j hjN, he j hjN b hb]
      omega
  · intro a ha b hb
    have hab := he a ha b hb
    by_cases hc : m a b ≤ m a k + m k b
    · have e : m' a b = m a b := by omega
      rw [e]
      rcases g.low a ha b hb with h | ⟨p, q, hp, hq, h⟩
      · exact Or.inl h
      · right
        refine ⟨p, q, by omega, by omega, ?_⟩
        have := hle p (by omega) q (by omega)
        omega
    · have e : m' a b = m a k + m k b := by omega
      rw [e]
      right
      rcases g.low a ha k hk with h | ⟨p, q, hp, hq, h⟩ <;> rcases g.low k hk b hb with h' | ⟨r, s, hr, hs, h'⟩
      · refine ⟨k, k, by omega, by omega, ?_⟩
        have := hd' k hk
        omega
      · refine ⟨k, s, by omega, by omega, ?_⟩
        have := hle k hk s (by omega)
        have := g.tri k hk s (by omega) r hr
        have := g.le0 k hk r (by omega)
        omega
      · refine ⟨p, k, by omega, by omega, ?_⟩
        have := hle p (by omega) k hk
        have := g.tri p (by omega) k hk q hq
        have := g.le0 q (by omega) k hk
        omega
      · refine ⟨p, s, by omega, by omega, ?_⟩
        have := hlk p (by omega) s (by omega)
        have := g.tri p (by omega) k hk q hq
        have := g.le0 q (by omega) k hk
        have := g.tri k hk s (by omega) r hr
        have := g.le0 k hk r (by omega)
        omega
  · intro x hx a ha b hb
    have h1 := g.snd x hx a ha b hb
    have h2 := g.snd x hx a ha k hk
    have h3 := g.snd x hx k hk b hb
    rw [he a ha b hb]
    omega

theorem GoodM.bound {m0 m : Nat → Nat → Int} {N k : Nat} {B : Int} (hB : 0 ≤ B) (hkN : k ≤ N) (g : GoodM m0 N k m) (h1 : ∀ a, a < N → m0 a 0 ≤ 100000) (h2 : ∀ a, a < N → m0 0 a ≤ 100000) (h3 : ∀ a, a < N → ∀ b, b < N → -B ≤ m0 a b) :
    ∀ a, a < N → ∀ b, b < N → -(2 * B + 200000) ≤ m a b := by
  intro a ha b hb
  rcases g.low a ha b hb with h | ⟨p, q, hp, hq, h⟩
  · have := h3 a ha b hb; omega
  · have hpN : p < N := by omega
    have hqN : q < N := by omega
    have h0N : 0 < N := by omega
    have e1 := g.diag p hpN
    have e2 := g.tri p hpN p hpN q hq
    have e3 := g.tri q hqN p hpN 0 (by omega)
    have e4 := g.le0 q hqN 0 h0N
    have e5 := g.le0 0 h0N p hpN
    have e6 := h1 q hqN
    have e7 := h2 p hpN
    have e8 := h3 a ha p hpN
    have e9 := h3 q hqN b hb
    omega

theorem GoodM.most {m0 m : Nat → Nat → Int} {N : Nat} (g : GoodM m0 N N m) {a b : Nat} (ha : a < N) (hb : b < N) : IsMost (FeasM m0 N) a b (m a b) := by
  refine ⟨⟨fun v => m v b, fun c hc d hd => ?_, ?_⟩, fun x hx => g.snd x hx a ha b hb⟩
  · have h1 := g.tri c hc b hb d hd
    have h2 := g.le0 c hc d hd
    show m c b - m d b ≤ m0 c d
    omega
  · have := g.diag b hb
    show m a b - m b b = m a b
    omega
theorem GoodM.feas {m0 m : Nat → Nat → Int} {N : Nat} (g : GoodM m0 N N m) (hN : 0 < N) : ∃ x, FeasM m0 N x := by
  obtain ⟨⟨x, hx, _⟩, _⟩ := g.most hN hN
  exact ⟨x, hx⟩
theorem GoodM.neg {m0 m m' : Nat → Nat → Int} {N k : Nat} (hk : k < N) (g : GoodM m0 N k m) (he : ∀ a, a < N → ∀ b, b < N → m' a b = min (m a b) (m a k + m k b)) {a : Nat} (ha : a < N) (hd : m' a a < 0) : ¬ ∃ x, FeasM m0 N x := by
  rintro ⟨x, hx⟩
  have h1 := g.snd x hx a ha a ha
  have h2 := g.snd x hx a ha k hk
  have h3 := g.snd x hx k hk a ha
  rw [he a ha a ha] at hd
  omega

theorem ref_grows_eq (c : BeatCellar) (hx : goodB c = true) {k : Nat} (hk : k < c.Rates.length) (h : Int) :
    remontoirref02_grows c (k : Int) h = some (growsSpan c (c.Rates.getD k ⟨0, 0⟩) k h) := by
  have hc := OkC.of hx
  have ho2 := hc.o2
  have e : c.Rates.getD k ⟨0, 0⟩ = c.Rates[k] := by simp [List.getD, hk]
  rw [e]
  simp only [goodB, Bool.and_eq_true] at hx
  obtain ⟨⟨⟨_, hr⟩, hg⟩, hp⟩ := hx
  have hri : rateB c.Rates[k] = true := List.all_eq_true.1 hr _ (List.getElem_mem hk)
  simp only [rateB, spanB, Bool.and_eq_true, decide_eq_true_eq] at hri
  unfold remontoirref02_grows
  rw [idx_get hk, bind_s]
  have hb : ∀ i, (-600000 ≤ (((c.Opens.take i).filter fun o => o.Clock == (k : Int) && o.Hour == h).map (·.Step.Low)).sum ∧ (((c.Opens.take i).filter fun o => o.Clock == (k : Int) && o.Hour == h).map (·.Step.Low)).sum ≤ 600000) ∧
      (-600000 ≤ (((c.Opens.take i).filter fun o => o.Clock == (k : Int) && o.Hour == h).map (·.Step.High)).sum ∧ (((c.Opens.take i).filter fun o => o.Clock == (k : Int) && o.Hour == h).map (·.Step.High)).sum ≤ 600000) := by
    intro i
    have hm : ∀ o ∈ (c.Opens.take i).filter fun o => o.Clock == (k : Int) && o.Hour == h, (-100000 ≤ o.Step.Low ∧ o.Step.Low ≤ 100000) ∧ (-100000 ≤ o.Step.High ∧ o.Step.High ≤ 100000) := by
      intro o ho
      have := List.all_eq_true.1 hg o (List.mem_of_mem_take (List.mem_filter.1 ho).1)
      simp only [openB, spanB, inB, Bool.and_eq_true, decide_eq_true_eq] at this
      omega
    have hl : ((c.Opens.take i).filter fun o => o.Clock == (k : Int) && o.Hour == h).length ≤ 6 := by
      have h1 := List.length_filter_le (fun o : BeatOpen => o.Clock == (k : Int) && o.Hour == h) (c.Opens.take i)
      rw [List.length_take] at h1; omega
    have s1 := sum_bound (l := ((c.Opens.take i).filter fun o => o.Clock == (k : Int) && o.Hour == h).map (·.Step.Low)) (B := 100000) (by decide) (fun n hn => by
      obtain ⟨o, ho, rfl⟩ := List.mem_map.1 hn; exact (hm o ho).1)
    have s2 := sum_bound (l := ((c.Opens.take i).filter fun o => o.Clock == (k : Int) && o.Hour == h).map (·.Step.High)) (B := 100000) (by decide) (fun n hn => by
      obtain ⟨o, ho, rfl⟩ := List.mem_map.1 hn; exact (hm o ho).2)
    simp only [List.length_map] at s1 s2
    omega
  have hrun := loopU_run0 (body := remontoirref02_grows_b1 c (k : Int) h) (fun i => ((i : Int), c.Rates[k].Low + (((c.Opens.take i).filter fun o => o.Clock == (k : Int) && o.Hour == h).map (·.Step.Low)).sum,
      c.Rates[k].High + (((c.Opens.take i).filter fun o => o.Clock == (k : Int) && o.Hour == h).map (·.Step.High)).sum)) c.Opens.length (fun i hi => by
    have hd : decide ((i : Int) < (c.Opens.length : Int)) = true := by simp; omega
    have wi : wr ((i : Int) + 1) = ((i + 1 : Nat) : Int) := wr_id' (by omega) (by omega)
    have b1 := hb i
    have hoi := List.all_eq_true.1 hg _ (List.getElem_mem hi)
    simp only [openB, spanB, inB, Bool.and_eq_true, decide_eq_true_eq] at hoi
    simp only [remontoirref02_grows_b1, hd, cond_true, idx_get hi, bind_s, wi, filter_take hi, remontoirref00_To]
    generalize ((c.Opens.take i).filter fun o => o.Clock == (k : Int) && o.Hour == h) = q at b1
    cases hq : (c.Opens[i].Clock == (k : Int) && c.Opens[i].Hour == h) with
    | true =>
      simp only [cond_true, if_true, List.map_append, List.map_cons, List.map_nil, List.sum_append, List.sum_cons, List.sum_nil, Int.add_zero]
      rw [wr_id' (by omega) (by omega), wr_id' (by omega) (by omega), Int.add_assoc, Int.add_assoc]
    | false => simp)
  simp only [List.take_zero, List.filter_nil, List.map_nil, List.sum_nil, Int.add_zero, Int.natCast_zero, List.take_length] at hrun
  refine hrun.trans (loopU_ext ?_)
  have hd : decide ((c.Opens.length : Int) < (c.Opens.length : Int)) = false := by simp
  simp only [remontoirref02_grows_b1, hd, cond_false]
  rfl

theorem cnt_wr {c : BeatCellar} (hc : OkC c) : wr (1 + wr ((c.Rates.length : Int) * wr (c.Hours + 1))) = (cnt c : Int) := by
  have hw := hc.w
  have hn := hc.n
  have h1 := hc.h1
  have h2 := hc.h2
  rw [wr_id' (show -9223372036854775808 ≤ c.Hours + 1 by omega) (by omega), ← hw.2.2]
  have e : (c.Rates.length : Int) * (wid c : Int) = ((c.Rates.length * wid c : Nat) : Int) := by simp
  simp only [cnt] at hn ⊢
  rw [e]
  generalize c.Rates.length * wid c = P at hn
  have e2 : wr (P : Int) = P := wr_id' (by omega) (by omega)
  rw [e2, wr_id' (by omega) (by omega)]
  omega
theorem place_eq {c : BeatCellar} (hc : OkC c) {k h : Int} (hk : 0 ≤ k) (hk2 : k < c.Rates.length) (hh : 0 ≤ h) (hh2 : h ≤ c.Hours) : remontoirref02_place c k h = some (nd c k h : Int) := by
  have hw := hc.w
  have h1 := hc.h1
  have h2 := hc.h2
  have k2 := hc.k2
  unfold remontoirref02_place nd
  have hd : decide (k < 0) = false := by simp; omega
  rw [hd, cond_false, wr_id' (show -9223372036854775808 ≤ c.Hours + 1 by omega) (by omega), ← hw.2.2]
  obtain ⟨n, rfl⟩ := Int.eq_ofNat_of_zero_le hk
  have e : (n : Int) * (wid c : Int) = ((n * wid c : Nat) : Int) := by simp
  have hle := Nat.mul_le_mul (show n ≤ 5 by omega) hw.1
  rw [e, Int.toNat_natCast]
  generalize n * wid c = P at hle
  have e2 : wr (P : Int) = P := wr_id' (by omega) (by omega)
  have e3 : wr (1 + (P : Int)) = 1 + P := wr_id' (by omega) (by omega)
  rw [e2, e3, wr_id' (by omega) (by omega)]
  congr 1
  omega
theorem place_neg {c : BeatCellar} {k h : Int} (hk : k < 0) : remontoirref02_place c k h = some 0 := by
  unfold remontoirref02_place
  have hd : decide (k < 0) = true := by simp; omega
  rw [hd, cond_true]
/-! ## square tables -/
def mg (m : List (List Int)) (a b : Nat) : Int := at_ (m.getD a []) b
def put (m : List (List Int)) (a b : Nat) (v : Int) : List (List Int) := m.set a ((m.getD a []).set b v)
structure Sq (N : Nat) (m : List (List Int)) : Prop where
  len : m.length = N
  row : ∀ a, a < N → (m.getD a []).length = N
theorem getD_set {m : List (List Int)} {a i : Nat} {r : List Int} (ha : a < m.length) : (m.set a r).getD i [] = if a = i then r else m.getD i [] := by
  simp only [List.getD_eq_getElem?_getD, List.getElem?_set]
  by_cases h : a = i
  · subst h; simp [ha]
  · simp [h]
theorem Sq.put {N : Nat} {m : List (List Int)} (h : Sq N m) {a b : Nat} (v : Int) (ha : a < N) : Sq N (put m a b v) := by
  refine ⟨by simp [Rt.put, h.len], fun i hi => ?_⟩
  unfold Rt.put
  rw [getD_set (by rw [h.len]; exact ha)]
  split
  · rw [List.length_set]; exact h.row a ha
  · exact h.row i hi
theorem mg_put {N : Nat} {m : List (List Int)} (h : Sq N m) {a b i j : Nat} {v : Int} (ha : a < N) (hb : b < N) : mg (put m a b v) i j = if a = i ∧ b = j then v else mg m i j := by
  unfold mg put
  rw [getD_set (by rw [h.len]; exact ha)]
  by_cases h1 : a = i
  · subst h1
    rw [if_pos rfl, at_set (by rw [h.row a ha]; exact hb)]
    by_cases h2 : b = j
    · simp [h2]
    · simp [h2]
  · rw [if_neg h1, if_neg (fun h => h1 h.1)]

def rowI (N a b : Nat) : List Int := (List.range N).map fun j => if j < b ∧ a ≠ j then farI else 0
def matI (N i : Nat) : List (List Int) := (List.range N).map fun a => if a < i then rowI N a N else []
theorem rowI_zero (N a : Nat) : rowI N a 0 = List.replicate N 0 := by
  apply List.ext_getElem <;> simp [rowI]
theorem rowI_set {N a b : Nat} (hb : b < N) (h : a ≠ b) : (rowI N a b).set b farI = rowI N a (b + 1) := by
  apply List.ext_getElem
  · simp [rowI]
  · intro j h1 h2
    simp only [rowI, List.getElem_set, List.getElem_map, List.getElem_range]
    by_cases h3 : b = j
    · subst h3; simp [h]
    · simp only [h3, if_false]
      by_cases h4 : j < b
      · have : j < b + 1 := by omega
        simp [h4, this]
      · have : ¬ j < b + 1 := by omega
        simp [h4, this]
theorem rowI_skip {N a b : Nat} (hb : b < N) (h : a = b) : rowI N a b = rowI N a (b + 1) := by
  subst h
  unfold rowI
  congr 1; funext j
  by_cases h4 : j < a
  · have : j < a + 1 := by omega
    simp [h4, this]
  · by_cases h5 : a = j
    · simp [h5]
    · have : ¬ j < a + 1 := by omega
      simp [h4, this]
theorem matI_set {N i : Nat} (hi : i < N) : (matI N i).set i (rowI N i N) = matI N (i + 1) := by
  apply List.ext_getElem
  · simp [matI]
  · intro j h1 h2
    simp only [matI, List.getElem_set, List.getElem_map, List.getElem_range]
    by_cases h3 : i = j
    · subst h3; simp
    · simp only [h3, if_false]
      by_cases h4 : j < i
      · have : j < i + 1 := by omega
        simp [h4, this]
      · have : ¬ j < i + 1 := by omega
        simp [h4, this]
theorem matI_zero (N : Nat) : matI N 0 = List.replicate N [] := by
  apply List.ext_getElem <;> simp [matI]
theorem matI_get {N a : Nat} (ha : a < N) : (matI N N).getD a [] = rowI N a N := by
  have hl : a < (matI N N).length := by simp [matI, ha]
  rw [List.getD_eq_getElem?_getD, List.getElem?_eq_getElem hl]
  simp [matI, ha]
theorem matI_sq (N : Nat) : Sq N (matI N N) := ⟨by simp [matI], fun a ha => by rw [matI_get ha]; simp [rowI]⟩
theorem matI_mg {N a b : Nat} (ha : a < N) (hb : b < N) : mg (matI N N) a b = if a = b then 0 else farI := by
  unfold mg
  rw [matI_get ha]
  have hl : b < (rowI N a N).length := by simp [rowI, hb]
  rw [at_get hl]
  simp only [rowI, List.getElem_map, List.getElem_range, hb, true_and]
  by_cases h : a = b
  · simp [h]
  · simp [h]

theorem most_init (c : BeatCellar) (hc : OkC c) (wrong : Int) : remontoirref02_most c wrong = loopU (remontoirref02_most_b3 c wrong) (0, matI (cnt c) (cnt c)) := by
  have hn := hc.n
  have hw := cnt_wr hc
  unfold remontoirref02_most
  simp only [hw, Int.toNat_natCast]
  have hml : (0 : Int) ≤ (cnt c : Int) ∧ (cnt c : Int) ≤ (mlim : Int) := by simp only [mlim]; omega
  rw [if_pos hml]
  have hinner : ∀ a, a < cnt c → ∀ m : List (List Int), m.length = cnt c → loopU (remontoirref02_most_b2 c (a : Int)) (0, m.set a (rowI (cnt c) a 0)) = nxt (((a + 1 : Nat) : Int), m.set a (rowI (cnt c) a (cnt c))) := by
    intro a ha m hm
    have hrun := loopU_run0 (body := remontoirref02_most_b2 c (a : Int)) (fun b => ((b : Int), m.set a (rowI (cnt c) a b))) (cnt c) (fun b hb => by
      have hd : decide ((b : Int) < (cnt c : Int)) = true := by simp; omega
      have wi : wr ((b : Int) + 1) = ((b + 1 : Nat) : Int) := wr_id' (by omega) (by omega)
      simp only [remontoirref02_most_b2, hw, hd, cond_true, wi, Int.toNat_natCast]
      rw [getD_set (by omega), if_pos rfl, List.set_set]
      by_cases hab : a = b
      · have hne : ((a : Int) != (b : Int)) = false := by simp; omega
        rw [hne, cond_false, rowI_skip hb hab]
      · have hne : ((a : Int) != (b : Int)) = true := by simp; omega
        rw [hne, cond_true, if_pos (by rw [List.length_set]; omega), if_pos (by simp only [rowI, List.length_map, List.length_range]; omega)]
        rw [show (1099511627776 : Int) = farI from rfl, rowI_set hb hab])
    refine hrun.trans (loopU_ext ?_)
    have hd : decide ((cnt c : Int) < (cnt c : Int)) = false := by simp
    have wi : wr ((a : Int) + 1) = ((a + 1 : Nat) : Int) := wr_id' (by omega) (by omega)
    simp only [remontoirref02_most_b2, hw, hd, cond_false, wi]
  have hrun := loopU_run0 (body := remontoirref02_most_b1 c wrong) (fun a => ((a : Int), matI (cnt c) a)) (cnt c) (fun a ha => by
    have hd : decide ((a : Int) < (cnt c : Int)) = true := by simp; omega
    have hl : (matI (cnt c) a).length = cnt c := by simp [matI]
    simp only [remontoirref02_most_b1, hw, hd, cond_true, Int.toNat_natCast]
    rw [if_pos hml, if_pos (by omega), ← rowI_zero _ a, hinner a ha _ hl, matI_set ha])
  rw [← matI_zero]
  refine hrun.trans (loopU_ext ?_)
  have hd : decide ((cnt c : Int) < (cnt c : Int)) = false := by simp
  simp only [remontoirref02_most_b1, hw, hd, cond_false]

theorem mg_def (m : List (List Int)) (a b : Nat) : mg m a b = (m.getD a []).getD b 0 := rfl
theorem put_def (m : List (List Int)) (a b : Nat) (v : Int) : put m a b v = m.set a ((m.getD a []).set b v) := rfl

/-- what the rate and the steps let the clock do in the hour before a node -/
def gsN (c : BeatCellar) (a : Nat) : Span := growsSpan c (c.Rates.getD ((a - 1) / wid c) ⟨0, 0⟩) (((a - 1) / wid c : Nat) : Int) ((((a - 1) % wid c - 1 : Nat)) : Int)
def cell0 (c : BeatCellar) (a b : Nat) : Int :=
  if a = b then 0 else if a = 0 ∨ b = 0 then 100000 else if a = b + 1 ∧ (a - 1) % wid c ≠ 0 then (gsN c a).High else if b = a + 1 ∧ (b - 1) % wid c ≠ 0 then -(gsN c b).Low else farI
def baseP (c : BeatCellar) (P a b : Nat) : Int := if a = b then 0 else if a < P ∧ b < P then cell0 c a b else farI

theorem base_step0 {c : BeatCellar} {N p : Nat} (hp : 0 < p) (hpN : p < N) (hm : (p - 1) % wid c = 0) {m : List (List Int)} (hs : Sq N m) (hb : ∀ i, i < N → ∀ j, j < N → mg m i j = baseP c p i j) :
    Sq N (put (put m p 0 100000) 0 p 100000) ∧ ∀ i, i < N → ∀ j, j < N → mg (put (put m p 0 100000) 0 p 100000) i j = baseP c (p + 1) i j := by
  have s1 := hs.put (b := 0) 100000 hpN
  refine ⟨s1.put 100000 (by omega), fun i hi j hj => ?_⟩
  rw [mg_put s1 (by omega) hpN, mg_put hs hpN (by omega), hb i hi j hj]
  unfold baseP cell0
  by_cases h1 : i = p
  · subst h1
    by_cases h2 : j = i
    · subst h2
      repeat (first | rw [if_pos (by omega)] | rw [if_neg (by omega)])
    · by_cases h3 : j = 0
      · subst h3
        repeat (first | rw [if_pos (by omega)] | rw [if_neg (by omega)])
      · by_cases h4 : j < i
        · repeat (first | rw [if_pos (by omega)] | rw [if_neg (by omega)])
        · repeat (first | rw [if_pos (by omega)] | rw [if_neg (by omega)])
  · by_cases h2 : j = p
    · subst h2
      by_cases h3 : i = 0
      · subst h3
        repeat (first | rw [if_pos (by omega)] | rw [if_neg (by omega)])
      · by_cases h4 : i < j
        · by_cases h5 : j = i + 1
          · subst h5
            rw [Nat.add_sub_cancel] at hm
            repeat (first | rw [if_pos (by omega)] | rw [if_neg (by omega)])
            rw [Nat.add_sub_cancel]
            repeat (first | rw [if_pos (by omega)] | rw [if_neg (by omega)])
          · repeat (first | rw [if_pos (by omega)] | rw [if_neg (by omega)])
        · repeat (first | rw [if_pos (by omega)] | rw [if_neg (by omega)])
    · have e1 : (i < p + 1 ∧ j < p + 1) ↔ (i < p ∧ j < p) := by omega
      have e2 : ¬ (0 = i ∧ p = j) := by omega
      have e3 : ¬ (p = i ∧ 0 = j) := by omega
      simp only [e1, e2, e3, if_false]

theorem base_step1 {c : BeatCellar} {N p : Nat} (hp : 1 < p) (hpN : p < N) (hm : (p - 1) % wid c ≠ 0) {m : List (List Int)} (hs : Sq N m) (hb : ∀ i, i < N → ∀ j, j < N → mg m i j = baseP c p i j) :
    Sq N (put (put (put (put m p 0 100000) 0 p 100000) p (p - 1) (gsN c p).High) (p - 1) p (-(gsN c p).Low)) ∧
      ∀ i, i < N → ∀ j, j < N → mg (put (put (put (put m p 0 100000) 0 p 100000) p (p - 1) (gsN c p).High) (p - 1) p (-(gsN c p).Low)) i j = baseP c (p + 1) i j := by
  have s1 := hs.put (b := 0) 100000 hpN
  have s2 := s1.put (a := 0) (b := p) 100000 (by omega)
  have s3 := s2.put (b := p - 1) (gsN c p).High hpN
  refine ⟨s3.put _ (by omega), fun i hi j hj => ?_⟩
  rw [mg_put s3 (by omega) hpN, mg_put s2 hpN (by omega), mg_put s1 (by omega) hpN, mg_put hs hpN (by omega), hb i hi j hj]
  unfold baseP cell0
  by_cases h1 : i = p
  · subst h1
    by_cases h2 : j = i
    · subst h2
      repeat (first | rw [if_pos (by omega)] | rw [if_neg (by omega)])
    · by_cases h3 : j = 0
      · subst h3
        repeat (first | rw [if_pos (by omega)] | rw [if_neg (by omega)])
      · by_cases h4 : j = i - 1
        · have e8 : i = j + 1 ∧ (i - 1) % wid c ≠ 0 := ⟨by omega, hm⟩
          rw [if_neg (by omega), if_pos (by omega), if_neg (by omega), if_pos (by omega), if_neg (by omega), if_neg (by omega), if_pos e8]
        · by_cases h5 : j < i
          · have e8 : ¬ (i = j + 1 ∧ (i - 1) % wid c ≠ 0) := by rintro ⟨h, _⟩; omega
            have e9 : ¬ (j = i + 1 ∧ (j - 1) % wid c ≠ 0) := by rintro ⟨h, _⟩; omega
            rw [if_neg (by omega), if_neg (by omega), if_neg (by omega), if_neg (by omega), if_neg (by omega), if_neg (by omega), if_neg (by omega), if_pos (by omega), if_neg (by omega), if_neg (by omega), if_neg e8, if_neg e9]
          · rw [if_neg (by omega), if_neg (by omega), if_neg (by omega), if_neg (by omega), if_neg (by omega), if_neg (by omega), if_neg (by omega), if_neg (by omega)]
  · by_cases h2 : j = p
    · subst h2
      by_cases h3 : i = 0
      · subst h3
        repeat (first | rw [if_pos (by omega)] | rw [if_neg (by omega)])
      · by_cases h4 : i = j - 1
        · have e8 : ¬ (i = j + 1 ∧ (i - 1) % wid c ≠ 0) := by rintro ⟨h, _⟩; omega
          have e9 : j = i + 1 ∧ (j - 1) % wid c ≠ 0 := ⟨by omega, hm⟩
          rw [if_pos (by omega), if_neg (by omega), if_pos (by omega), if_neg (by omega), if_neg (by omega), if_neg e8, if_pos e9]
        · by_cases h5 : i < j
          · have e8 : ¬ (i = j + 1 ∧ (i - 1) % wid c ≠ 0) := by rintro ⟨h, _⟩; omega
            have e9 : ¬ (j = i + 1 ∧ (j - 1) % wid c ≠ 0) := by rintro ⟨h, _⟩; omega
            rw [if_neg (by omega), if_neg (by omega), if_neg (by omega), if_neg (by omega), if_neg (by omega), if_neg (by omega), if_neg (by omega), if_pos (by omega), if_neg (by omega), if_neg (by omega), if_neg e8, if_neg e9]
          · rw [if_neg (by omega), if_neg (by omega), if_neg (by omega), if_neg (by omega), if_neg (by omega), if_neg (by omega), if_neg (by omega), if_neg (by omega)]
    · have e1 : (i < p + 1 ∧ j < p + 1) ↔ (i < p ∧ j < p) := by omega
      have e2 : ¬ (0 = i ∧ p = j) := by omega
      have e3 : ¬ (p = i ∧ 0 = j) := by omega
      have e4 : ¬ (p = i ∧ p - 1 = j) := by omega
      have e5 : ¬ (p - 1 = i ∧ p = j) := by omega
      simp only [e1, e2, e3, e4, e5, if_false]

theorem most_b4_eq (c : BeatCellar) (hx : goodB c = true) {k : Nat} (hk : k < c.Rates.length) {m : List (List Int)} (hs : Sq (cnt c) m) (hb : ∀ i, i < cnt c → ∀ j, j < cnt c → mg m i j = baseP c (1 + k * wid c) i j) :
    ∃ m', loopU (remontoirref02_most_b4 c (k : Int)) (0, m) = nxt (((k + 1 : Nat) : Int), m') ∧ Sq (cnt c) m' ∧ ∀ i, i < cnt c → ∀ j, j < cnt c → mg m' i j = baseP c (1 + (k + 1) * wid c) i j := by
  have hc := OkC.of hx
  have hw := hc.w
  have hn := hc.n
  have h1 := hc.h1
  have h2 := hc.h2
  have k2 := hc.k2
  refine loopU_for (s := ((0 : Int), m)) (Inv := fun h s => s.1 = (h : Int) ∧ Sq (cnt c) s.2 ∧ ∀ i, i < cnt c → ∀ j, j < cnt c → mg s.2 i j = baseP c (1 + k * wid c + h) i j) (wid c)
    (Post := fun o => ∃ m', o = nxt (((k + 1 : Nat) : Int), m') ∧ Sq (cnt c) m' ∧ ∀ i, i < cnt c → ∀ j, j < cnt c → mg m' i j = baseP c (1 + (k + 1) * wid c) i j) ⟨rfl, hs, hb⟩ ?_ ?_
  · rintro h ⟨s1, m1⟩ hh ⟨rfl, hs1, hb1⟩
    simp only at hs1 hb1
    have hd : decide ((h : Int) ≤ c.Hours) = true := by simp; omega
    have wi : wr ((h : Int) + 1) = ((h + 1 : Nat) : Int) := wr_id' (by omega) (by omega)
    have hp := slot_lt hk hh
    have hpl := place_eq hc (k := (k : Int)) (h := (h : Int)) (by omega) (by omega) (by omega) (by omega)
    have hndd : nd c (k : Int) (h : Int) = 1 + k * wid c + h := by simp [nd]
    obtain ⟨d1, d2⟩ := nd_div (k := k) hh
    have hp0 : 0 < 1 + k * wid c + h := by omega
    have hpN : 1 + k * wid c + h < cnt c := hp
    have g0 : (0 : Int) ≤ ((1 + k * wid c + h : Nat) : Int) ∧ ((1 + k * wid c + h : Nat) : Int) < ((cnt c : Nat) : Int) := by omega
    have g1 : (0 : Int) ≤ 0 ∧ (0 : Int) < ((cnt c : Nat) : Int) := by omega
    have q1 := hs1.put (b := 0) 100000 hpN
    have q2 := q1.put (a := 0) (b := 1 + k * wid c + h) 100000 (by omega)
    simp only [remontoirref02_most_b4, hd, cond_true, hpl, hndd, bind_s, wi, Int.toNat_natCast, Int.toNat_zero, ← put_def, hs1.len, hs1.row _ hpN, q1.row 0 (by omega), g0, g1, and_self, if_true]
    by_cases h0 : h = 0
    · have hd0 : decide ((h : Int) > 0) = false := by simp; omega
      simp only [hd0, cond_false]
      refine ⟨_, rfl, rfl, ?_⟩
      exact base_step0 hp0 hpN (by rw [d2]; exact h0) hs1 hb1
    · have hd0 : decide ((h : Int) > 0) = true := by simp; omega
      have wh : wr ((h : Int) - 1) = ((h - 1 : Nat) : Int) := by rw [wr_id' (by omega) (by omega)]; omega
      have hpl2 := place_eq hc (k := (k : Int)) (h := ((h - 1 : Nat) : Int)) (by omega) (by omega) (by omega) (by omega)
      have hnd2 : nd c (k : Int) ((h - 1 : Nat) : Int) = 1 + k * wid c + h - 1 := by simp only [nd, Int.toNat_natCast]; omega
      have gs : growsSpan c (c.Rates.getD k ⟨0, 0⟩) (k : Int) ((h - 1 : Nat) : Int) = gsN c (1 + k * wid c + h) := by simp only [gsN, d1, d2]
      have hgo := growsSpan_ok hx hk ((h - 1 : Nat) : Int)
      rw [gs] at hgo
      have q3 := q2.put (b := 1 + k * wid c + h - 1) (gsN c (1 + k * wid c + h)).High hpN
      have g2 : (0 : Int) ≤ ((1 + k * wid c + h - 1 : Nat) : Int) ∧ ((1 + k * wid c + h - 1 : Nat) : Int) < ((cnt c : Nat) : Int) := by omega
      have wl : wr (0 - (gsN c (1 + k * wid c + h)).Low) = -(gsN c (1 + k * wid c + h)).Low := by rw [wr_id' (by omega) (by omega)]; omega
      simp only [hd0, cond_true, wh, ref_grows_eq c hx hk, gs, hpl2, hnd2, bind_s, Int.toNat_natCast, q2.len, q2.row _ hpN, q3.row (1 + k * wid c + h - 1) (by omega), g0, g2, and_self, if_true, wl]
      refine ⟨_, rfl, rfl, ?_⟩
      exact base_step1 (by omega) hpN (by rw [d2]; exact h0) hs1 hb1
  · rintro ⟨s1, m1⟩ ⟨rfl, hs1, hb1⟩
    have hd : decide (((wid c : Nat) : Int) ≤ c.Hours) = false := by simp; omega
    have wi : wr ((k : Int) + 1) = ((k + 1 : Nat) : Int) := wr_id' (by omega) (by omega)
    simp only at hs1 hb1
    refine ⟨_, by simp only [remontoirref02_most_b4, hd, cond_false, wi], m1, rfl, hs1, ?_⟩
    intro i hi j hj
    rw [hb1 i hi j hj]
    congr 1
    rw [Nat.succ_mul]; omega

theorem most_filled (c : BeatCellar) (hx : goodB c = true) (wrong : Int) : ∃ m, remontoirref02_most c wrong = loopU (remontoirref02_most_b5 c wrong) (0, m) ∧ Sq (cnt c) m ∧ ∀ i, i < cnt c → ∀ j, j < cnt c → mg m i j = baseP c (cnt c) i j := by
  have hc := OkC.of hx
  have hn := hc.n
  have k2 := hc.k2
  rw [most_init c hc wrong]
  refine loopU_for (s := ((0 : Int), matI (cnt c) (cnt c))) (Inv := fun k s => s.1 = (k : Int) ∧ Sq (cnt c) s.2 ∧ ∀ i, i < cnt c → ∀ j, j < cnt c → mg s.2 i j = baseP c (1 + k * wid c) i j) c.Rates.length
    (Post := fun o => ∃ m, o = loopU (remontoirref02_most_b5 c wrong) (0, m) ∧ Sq (cnt c) m ∧ ∀ i, i < cnt c → ∀ j, j < cnt c → mg m i j = baseP c (cnt c) i j) ⟨rfl, matI_sq _, ?_⟩ ?_ ?_
  · intro i hi j hj
    simp only
    rw [matI_mg hi hj]
    unfold baseP
    by_cases h : i = j
    · simp [h]
    · have : ¬ (i < 1 + 0 * wid c ∧ j < 1 + 0 * wid c) := by omega
      simp only [h, this, if_false]
  · rintro k ⟨s1, m1⟩ hk ⟨rfl, hs1, hb1⟩
    have hd : decide ((k : Int) < (c.Rates.length : Int)) = true := by simp; omega
    obtain ⟨m', e1, e2, e3⟩ := most_b4_eq c hx hk hs1 hb1
    exact ⟨(((k + 1 : Nat) : Int), m'), by simp only [remontoirref02_most_b3, hd, cond_true]; exact e1, rfl, e2, e3⟩
  · rintro ⟨s1, m1⟩ ⟨rfl, hs1, hb1⟩
    have hd : decide ((c.Rates.length : Int) < (c.Rates.length : Int)) = false := by simp
    exact ⟨_, by simp only [remontoirref02_most_b3, hd, cond_false], m1, rfl, hs1, hb1⟩

theorem cell0_bound (c : BeatCellar) (hx : goodB c = true) {a b : Nat} (ha : a < cnt c) (hb : b < cnt c) : -1000000 ≤ cell0 c a b ∧ cell0 c a b ≤ farI := by
  unfold cell0
  have hg : ∀ v, 0 < v → v < cnt c → -1000000 ≤ (gsN c v).Low ∧ (gsN c v).Low ≤ (gsN c v).High ∧ (gsN c v).High ≤ 1000000 := by
    intro v h0 hv
    obtain ⟨k, h, hk, hh, rfl⟩ := node_cases h0 hv
    obtain ⟨d1, d2⟩ := nd_div (k := k) hh
    simp only [gsN, d1, d2]
    exact growsSpan_ok hx hk _
  split
  · simp [farI]
  · split
    · simp [farI]
    · split
      · have := hg a (by omega) ha; simp only [farI]; omega
      · split
        · have := hg b (by omega) hb; simp only [farI]; omega
        · simp [farI]

/-- what the filled table lets be -/
theorem base_iff (c : BeatCellar) (hx : goodB c = true) (x : Nat → Int) : FeasM (baseP c (cnt c)) (cnt c) x ↔
    (∀ k : Nat, k < c.Rates.length → ∀ h : Nat, (h : Int) < c.Hours → (growsSpan c (c.Rates.getD k ⟨0, 0⟩) k h).Low ≤ x (nd c k (h + 1)) - x (nd c k h) ∧ x (nd c k (h + 1)) - x (nd c k h) ≤ (growsSpan c (c.Rates.getD k ⟨0, 0⟩) k h).High) ∧
    (∀ k : Nat, k < c.Rates.length → ∀ h : Nat, (h : Int) ≤ c.Hours → -100000 ≤ x (nd c k h) - x 0 ∧ x (nd c k h) - x 0 ≤ 100000) := by
  have hc := OkC.of hx
  have hw := hc.w
  have hh1 := hc.h1
  have e : ∀ a, a < cnt c → ∀ b, b < cnt c → baseP c (cnt c) a b = cell0 c a b := by
    intro a ha b hb
    unfold baseP
    by_cases h : a = b
    · subst h; simp [cell0]
    · simp only [h, ha, hb, and_self, if_true, if_false]
  constructor
  · intro hf
    refine ⟨fun k hk h hh => ?_, fun k hk h hh => ?_⟩
    · have hh' : h + 1 < wid c := by omega
      have p1 := slot_lt hk hh'
      have p0 := slot_lt hk (show h < wid c by omega)
      obtain ⟨d1, d2⟩ := nd_div (k := k) hh'
      have f1 := hf _ p1 _ p0
      have f2 := hf _ p0 _ p1
      rw [e _ p1 _ p0] at f1
      rw [e _ p0 _ p1] at f2
      have gs : growsSpan c (c.Rates.getD k ⟨0, 0⟩) (k : Int) (h : Int) = gsN c (1 + k * wid c + (h + 1)) := by simp only [gsN, d1, d2]; rfl
      have b1 : cell0 c (1 + k * wid c + (h + 1)) (1 + k * wid c + h) = (gsN c (1 + k * wid c + (h + 1))).High := by
        unfold cell0
        rw [if_neg (by omega), if_neg (by omega), if_pos ⟨by omega, by rw [d2]; omega⟩]
      have b2 : cell0 c (1 + k * wid c + h) (1 + k * wid c + (h + 1)) = -(gsN c (1 + k * wid c + (h + 1))).Low := by
        unfold cell0
        rw [if_neg (by omega), if_neg (by omega), if_neg (by rintro ⟨h, _⟩; omega), if_pos ⟨by omega, by rw [d2]; omega⟩]
      rw [b1] at f1
      rw [b2] at f2
      have n1 : nd c (k : Int) ((h : Int) + 1) = 1 + k * wid c + (h + 1) := by simp only [nd, Int.toNat_natCast]; omega
      have n0 : nd c (k : Int) (h : Int) = 1 + k * wid c + h := by simp [nd]
      rw [gs, n1, n0]
      omega
    · have p0 := slot_lt hk (show h < wid c by omega)
      have pz : 0 < cnt c := by simp only [cnt]; omega
      have f1 := hf _ p0 _ pz
      have f2 := hf _ pz _ p0
      rw [e _ p0 _ pz] at f1
      rw [e _ pz _ p0] at f2
      have b1 : cell0 c (1 + k * wid c + h) 0 = 100000 := by unfold cell0; rw [if_neg (by omega), if_pos (by omega)]
      have b2 : cell0 c 0 (1 + k * wid c + h) = 100000 := by unfold cell0; rw [if_neg (by omega), if_pos (by omega)]
      rw [b1] at f1
      rw [b2] at f2
      have n0 : nd c (k : Int) (h : Int) = 1 + k * wid c + h := by simp [nd]
      rw [n0]
      omega
  · rintro ⟨hg, hb⟩ a ha b hb'
    have hub : ∀ v, v < cnt c → x v - x 0 ≤ 100000 ∧ x 0 - x v ≤ 100000 := by
      intro v hv
      by_cases h0 : v = 0
      · subst h0; omega
      · obtain ⟨k, h, hk, hh, rfl⟩ := node_cases (by omega) hv
        have := hb k hk h (by omega)
        have n0 : nd c (k : Int) (h : Int) = 1 + k * wid c + h := by simp [nd]
        rw [n0] at this
        omega
    have hgr : ∀ v, 0 < v → v < cnt c → (v - 1) % wid c ≠ 0 → (gsN c v).Low ≤ x v - x (v - 1) ∧ x v - x (v - 1) ≤ (gsN c v).High := by
      intro v h0 hv hm
      obtain ⟨k, h, hk, hh, rfl⟩ := node_cases h0 hv
      obtain ⟨d1, d2⟩ := nd_div (k := k) hh
      rw [d2] at hm
      have := hg k hk (h - 1) (by omega)
      have n1 : nd c (k : Int) (((h - 1 : Nat) : Int) + 1) = 1 + k * wid c + h := by simp only [nd, Int.toNat_natCast]; omega
      have n0 : nd c (k : Int) ((h - 1 : Nat) : Int) = 1 + k * wid c + h - 1 := by simp only [nd, Int.toNat_natCast]; omega
      have gs : growsSpan c (c.Rates.getD k ⟨0, 0⟩) (k : Int) ((h - 1 : Nat) : Int) = gsN c (1 + k * wid c + h) := by simp only [gsN, d1, d2]
      rw [n1, n0, gs] at this
      exact this
    rw [e a ha b hb']
    have ua := hub a ha
    have ub := hub b hb'
    unfold cell0
    by_cases h1 : a = b
    · subst h1; simp
    · by_cases h2 : a = 0 ∨ b = 0
      · rw [if_neg h1, if_pos h2]
        rcases h2 with rfl | rfl <;> omega
      · rw [if_neg h1, if_neg h2]
        by_cases h3 : a = b + 1 ∧ (a - 1) % wid c ≠ 0
        · rw [if_pos h3]
          have := hgr a (by omega) ha h3.2
          have e1 : a - 1 = b := by omega
          rw [e1] at this
          exact this.2
        · rw [if_neg h3]
          by_cases h4 : b = a + 1 ∧ (b - 1) % wid c ≠ 0
          · rw [if_pos h4]
            have := hgr b (by omega) hb' h4.2
            have e1 : b - 1 = a := by omega
            rw [e1] at this
            omega
          · rw [if_neg h4]
            simp only [farI]; omega

theorem min_if' (x s : Int) : (if s < x then s else x) = min s x := by rw [min_if, Int.min_comm]
def oNode (c : BeatCellar) (p : BeatPair) : Nat := if p.Other ≥ 0 then nd c p.Other p.Hour else 0
def readC (c : BeatCellar) (x : Nat → Int) (p : BeatPair) : Prop := p.Read.Low ≤ x (nd c p.One p.Hour) - x (oNode c p) ∧ x (nd c p.One p.Hour) - x (oNode c p) ≤ p.Read.High

structure MInv (c : BeatCellar) (m : List (List Int)) (cons : (Nat → Int) → Prop) : Prop where
  sq : Sq (cnt c) m
  diag : ∀ a, a < cnt c → mg m a a = 0
  lo : ∀ a, a < cnt c → ∀ b, b < cnt c → -1000000 ≤ mg m a b ∧ mg m a b ≤ farI
  h1 : ∀ a, a < cnt c → mg m a 0 ≤ 100000
  h2 : ∀ a, a < cnt c → mg m 0 a ≤ 100000
  iff : ∀ x, FeasM (mg m) (cnt c) x ↔ FeasM (baseP c (cnt c)) (cnt c) x ∧ cons x

theorem MInv.cut {c : BeatCellar} {m : List (List Int)} {cons : (Nat → Int) → Prop} (h : MInv c m cons) {a b : Nat} (ha : a < cnt c) (hb : b < cnt c) (hab : a ≠ b) {v : Int} (hv : -1000000 ≤ v) :
    MInv c (put m a b (min v (mg m a b))) (fun x => cons x ∧ x a - x b ≤ v) := by
  have hm := fun i j => mg_put (i := i) (j := j) (v := (min v (mg m a b))) h.sq ha hb
  have hle : (min v (mg m a b)) ≤ mg m a b := by omega
  have hlv : (min v (mg m a b)) ≤ v := by omega
  have hge : -1000000 ≤ (min v (mg m a b)) := by have := h.lo a ha b hb; omega
  refine ⟨h.sq.put _ ha, fun i hi => ?_, fun i hi j hj => ?_, fun i hi => ?_, fun i hi => ?_, fun x => ?_⟩
  · rw [hm, if_neg (by omega)]; exact h.diag i hi
  · rw [hm]
    have := h.lo i hi j hj
    split
    · next e => obtain ⟨rfl, rfl⟩ := e; omega
    · exact this
  · rw [hm]
    have := h.h1 i hi
    split
    · next e => obtain ⟨rfl, rfl⟩ := e; omega
    · exact this
  · rw [hm]
    have := h.h2 i hi
    split
    · next e => obtain ⟨rfl, rfl⟩ := e; omega
    · exact this
  · rw [← and_assoc, ← h.iff x]
    constructor
    · intro hf
      refine ⟨fun i hi j hj => ?_, ?_⟩
      · have := hf i hi j hj
        rw [hm] at this
        split at this
        · next e => obtain ⟨rfl, rfl⟩ := e; omega
        · exact this
      · have := hf a ha b hb
        rw [hm, if_pos ⟨rfl, rfl⟩] at this
        omega
    · rintro ⟨hf, hv'⟩ i hi j hj
      have := hf i hi j hj
      rw [hm]
      split
      · next e => obtain ⟨rfl, rfl⟩ := e; omega
      · exact this

theorem oNode_ok {c : BeatCellar} (hx : goodB c = true) {p : BeatPair} (hp : p ∈ c.Pairs) : nd c p.One p.Hour < cnt c ∧ oNode c p < cnt c ∧ nd c p.One p.Hour ≠ oNode c p := by
  obtain ⟨h1, h2, h3, h4, _⟩ := pair_ok hx hp
  refine ⟨nd_lt (by omega) (by omega) (by omega) (by omega), ?_, ?_⟩
  · unfold oNode
    split
    · exact nd_lt (by omega) (by omega) (by omega) (by omega)
    · simp only [cnt]; omega
  · unfold oNode
    split
    · exact nd_ne (by omega) (by omega) h4
    · simp only [nd]; omega

theorem most_paired (c : BeatCellar) (hx : goodB c = true) (wrong : Int) : ∃ m, remontoirref02_most c wrong = loopU (remontoirref02_most_b7 c) (0, m) ∧ MInv c m (fun x => ∀ p ∈ c.Pairs, ofB wrong p = false → readC c x p) := by
  have hc := OkC.of hx
  have hn := hc.n
  have hp2 := hc.p2
  have hN0 : 0 < cnt c := by simp only [cnt]; omega
  obtain ⟨m, e, hs, hb⟩ := most_filled c hx wrong
  have hbe : ∀ a, a < cnt c → ∀ b, b < cnt c → baseP c (cnt c) a b = cell0 c a b := by
    intro a ha b hb
    unfold baseP
    by_cases h : a = b
    · subst h; simp [cell0]
    · simp only [h, ha, hb, and_self, if_true, if_false]
  rw [e]
  refine loopU_for (s := ((0 : Int), m)) (Inv := fun i s => s.1 = (i : Int) ∧ MInv c s.2 (fun x => ∀ p ∈ c.Pairs.take i, ofB wrong p = false → readC c x p)) c.Pairs.length
    (Post := fun o => ∃ m, o = loopU (remontoirref02_most_b7 c) (0, m) ∧ MInv c m (fun x => ∀ p ∈ c.Pairs, ofB wrong p = false → readC c x p)) ⟨rfl, ?_⟩ ?_ ?_
  · refine ⟨hs, fun a ha => ?_, fun a ha b hb' => ?_, fun a ha => ?_, fun a ha => ?_, fun x => ?_⟩
    · simp only; rw [hb a ha a ha]; simp [baseP]
    · simp only; rw [hb a ha b hb', hbe a ha b hb']; exact cell0_bound c hx ha hb'
    · simp only; rw [hb a ha 0 hN0, hbe a ha 0 hN0]; unfold cell0; by_cases h : a = 0 <;> simp [h]
    · simp only; rw [hb 0 hN0 a ha, hbe 0 hN0 a ha]; unfold cell0; by_cases h : 0 = a <;> simp [h]
    · simp only [List.take_zero, List.not_mem_nil, false_implies, implies_true, and_true]
      constructor
      · intro hf a ha b hb'; rw [← hb a ha b hb']; exact hf a ha b hb'
      · intro hf a ha b hb'; rw [hb a ha b hb']; exact hf a ha b hb'
  · rintro i ⟨s1, m1⟩ hi ⟨rfl, hm⟩
    simp only at hm
    have hd : decide ((i : Int) < (c.Pairs.length : Int)) = true := by simp; omega
    have wi : wr ((i : Int) + 1) = ((i + 1 : Nat) : Int) := wr_id' (by omega) (by omega)
    have hmem : c.Pairs[i] ∈ c.Pairs := List.getElem_mem hi
    obtain ⟨p1, p2, p3, p4, p5⟩ := pair_ok hx hmem
    have hof : ((remontoirref00_In wrong c.Pairs[i].One).bind fun rv_3 => (cond rv_3 (some true) ((cond (decide (c.Pairs[i].Other ≥ 0)) ((remontoirref00_In wrong c.Pairs[i].Other).bind fun rv_4 => some rv_4) (some false)).bind fun t => some t))) = some (ofB wrong c.Pairs[i]) := by
      rw [In_eq wrong (by omega), bind_s]
      unfold ofB
      cases inSetB wrong c.Pairs[i].One with
      | true => rfl
      | false =>
        by_cases ho : c.Pairs[i].Other ≥ 0
        · rw [In_eq wrong ho]; simp [ho, bind_s]
        · simp [ho, bind_s]
    have htake : ∀ (Q : BeatPair → Prop), (∀ p ∈ c.Pairs.take (i + 1), Q p) ↔ (∀ p ∈ c.Pairs.take i, Q p) ∧ Q c.Pairs[i] := by
      intro Q
      rw [List.take_succ_eq_append_getElem hi]
      simp only [List.mem_append, List.mem_singleton]
      constructor
      · intro h; exact ⟨fun p hp => h p (Or.inl hp), h _ (Or.inr rfl)⟩
      · rintro ⟨h, k⟩ p (hp | rfl)
        · exact h p hp
        · exact k
    have key : ∀ k : Bool → Option ((Int × List (List Int)) ⊕ (List (List Int) × Bool)), ((remontoirref00_In wrong c.Pairs[i].One).bind fun rv_3 => (cond rv_3 (some true) ((cond (decide (c.Pairs[i].Other ≥ 0)) ((remontoirref00_In wrong c.Pairs[i].Other).bind fun rv_4 => some rv_4) (some false)).bind fun t => some t)).bind k) = k (ofB wrong c.Pairs[i]) := by
      intro k
      have := congrArg (fun o => Option.bind o k) hof
      simp only [bind_s] at this
      rw [← this]
      cases remontoirref00_In wrong c.Pairs[i].One <;> rfl
    simp only [remontoirref02_most_b5, min_if']
    simp only [hd, cond_true, idx_get hi, bind_s]
    rw [key]
    cases hl : ofB wrong c.Pairs[i] with
    | true =>
      refine ⟨(((i + 1 : Nat) : Int), m1), ?_, rfl, ?_⟩
      · simp only [cond_true, remontoirref02_most_k6, wi]
      · refine ⟨hm.sq, hm.diag, hm.lo, hm.h1, hm.h2, fun x => ?_⟩
        rw [htake, hm.iff x]
        simp [hl]
    | false =>
      obtain ⟨n1, n2, n3⟩ := oNode_ok hx hmem
      have pl1 := place_eq hc (k := c.Pairs[i].One) (h := c.Pairs[i].Hour) (by omega) (by omega) (by omega) (by omega)
      have pl2 : remontoirref02_place c c.Pairs[i].Other c.Pairs[i].Hour = some (oNode c c.Pairs[i] : Int) := by
        unfold oNode
        by_cases ho : c.Pairs[i].Other ≥ 0
        · rw [if_pos ho]; exact place_eq hc ho (by omega) (by omega) (by omega)
        · rw [if_neg ho]; exact place_neg (by omega)
      have g0 : (0 : Int) ≤ ((nd c c.Pairs[i].One c.Pairs[i].Hour : Nat) : Int) ∧ ((nd c c.Pairs[i].One c.Pairs[i].Hour : Nat) : Int) < ((cnt c : Nat) : Int) := by omega
      have g1 : (0 : Int) ≤ ((oNode c c.Pairs[i] : Nat) : Int) ∧ ((oNode c c.Pairs[i] : Nat) : Int) < ((cnt c : Nat) : Int) := by omega
      have wl : wr (0 - c.Pairs[i].Read.Low) = -c.Pairs[i].Read.Low := by rw [wr_id' (by omega) (by omega)]; omega
      have i1 := hm.cut n1 n2 n3 (v := c.Pairs[i].Read.High) (by omega)
      have i2 := i1.cut n2 n1 (Ne.symm n3) (v := -c.Pairs[i].Read.Low) (by omega)
      simp only [cond_false, pl1, pl2, bind_s, Int.toNat_natCast, ← mg_def, ← put_def, hm.sq.len, hm.sq.row _ n1, i1.sq.len, i1.sq.row _ n2, g0, g1, and_self, if_true, remontoirref02_most_k6, wi, wl]
      refine ⟨(_, _), rfl, rfl, ?_⟩
      refine ⟨i2.sq, i2.diag, i2.lo, i2.h1, i2.h2, fun x => ?_⟩
      rw [htake, i2.iff x]
      simp only [hl, true_implies, readC]
      constructor
      · rintro ⟨h1, ⟨h2, h3⟩, h4⟩; exact ⟨h1, h2, by omega, h3⟩
      · rintro ⟨h1, h2, h3, h4⟩; exact ⟨h1, ⟨h2, h4⟩, by omega⟩
  · rintro ⟨s1, m1⟩ ⟨rfl, hm⟩
    simp only [List.take_length] at hm
    have hd : decide ((c.Pairs.length : Int) < (c.Pairs.length : Int)) = false := by simp
    exact ⟨_, by simp only [remontoirref02_most_b5, hd, cond_false], m1, rfl, hm⟩

/-! ## closing -/
/-- one row of a stage, where the stage's node has 0 to itself -/
theorem most_b9_good (c : BeatCellar) (hc : OkC c) {k a : Nat} (hk : k < cnt c) (ha : a < cnt c) {m : List (List Int)} (hs : Sq (cnt c) m) (hkk : mg m k k = 0)
    (hb : ∀ i, i < cnt c → ∀ j, j < cnt c → -10000000 ≤ mg m i j ∧ mg m i j ≤ farI) :
    ∃ m', loopU (remontoirref02_most_b9 c (k : Int) (a : Int)) (0, m) = nxt (((a + 1 : Nat) : Int), m') ∧ Sq (cnt c) m' ∧ ∀ i, i < cnt c → ∀ j, j < cnt c → mg m' i j = if i = a then min (mg m i j) (mg m i k + mg m k j) else mg m i j := by
  have hn := hc.n
  have hw := cnt_wr hc
  refine loopU_for (s := ((0 : Int), m)) (Inv := fun b s => s.1 = (b : Int) ∧ Sq (cnt c) s.2 ∧ ∀ i, i < cnt c → ∀ j, j < cnt c → mg s.2 i j = if i = a ∧ j < b then min (mg m i j) (mg m i k + mg m k j) else mg m i j) (cnt c)
    (Post := fun o => ∃ m', o = nxt (((a + 1 : Nat) : Int), m') ∧ Sq (cnt c) m' ∧ ∀ i, i < cnt c → ∀ j, j < cnt c → mg m' i j = if i = a then min (mg m i j) (mg m i k + mg m k j) else mg m i j) ⟨rfl, hs, fun i hi j hj => by simp⟩ ?_ ?_
  · rintro b ⟨s1, m1⟩ hbN ⟨rfl, hs1, he⟩
    simp only at hs1 he
    have hd : decide ((b : Int) < (cnt c : Int)) = true := by simp; omega
    have wi : wr ((b : Int) + 1) = ((b + 1 : Nat) : Int) := wr_id' (by omega) (by omega)
    have g0 : (0 : Int) ≤ ((a : Nat) : Int) ∧ ((a : Nat) : Int) < ((cnt c : Nat) : Int) := by omega
    have g1 : (0 : Int) ≤ ((b : Nat) : Int) ∧ ((b : Nat) : Int) < ((cnt c : Nat) : Int) := by omega
    have g2 : (0 : Int) ≤ ((k : Nat) : Int) ∧ ((k : Nat) : Int) < ((cnt c : Nat) : Int) := by omega
    have v1 : mg m1 a k = mg m a k := by
      rw [he a ha k hk]
      split
      · omega
      · rfl
    have v2 : mg m1 k b = mg m k b := by
      rw [he k hk b hbN, if_neg (by omega)]
    have v3 : mg m1 a b = mg m a b := by rw [he a ha b hbN, if_neg (by omega)]
    have b1 := hb a ha k hk
    have b2 := hb k hk b hbN
    simp only [farI] at b1 b2
    simp only [remontoirref02_most_b9, min_if']
    simp only [hw, hd, cond_true, Int.toNat_natCast, ← mg_def, ← put_def, hs1.len, hs1.row _ ha, hs1.row _ hk, g0, g1, g2, and_self, if_true, wi, v1, v2, v3]
    refine ⟨_, rfl, rfl, hs1.put _ ha, fun i hi j hj => ?_⟩
    simp only
    rw [mg_put hs1 ha hbN, wr_id' (by omega) (by omega), Int.min_comm]
    by_cases h1 : a = i ∧ b = j
    · obtain ⟨rfl, rfl⟩ := h1
      rw [if_pos ⟨rfl, rfl⟩, if_pos ⟨rfl, by omega⟩]
    · rw [if_neg h1, he i hi j hj]
      by_cases h2 : i = a ∧ j < b
      · rw [if_pos h2, if_pos ⟨h2.1, by omega⟩]
      · rw [if_neg h2, if_neg (by omega)]
  · rintro ⟨s1, m1⟩ ⟨rfl, hs1, he⟩
    simp only at hs1 he
    have hd : decide ((cnt c : Int) < (cnt c : Int)) = false := by simp
    have wi : wr ((a : Int) + 1) = ((a + 1 : Nat) : Int) := wr_id' (by omega) (by omega)
    refine ⟨_, by simp only [remontoirref02_most_b9, hw, hd, cond_false, wi], m1, rfl, hs1, fun i hi j hj => ?_⟩
    rw [he i hi j hj]
    simp only [hj, and_true]

/-- a row never rises, whatever wraps -/
theorem most_b9_le (c : BeatCellar) (hc : OkC c) {k a : Nat} (hk : k < cnt c) (ha : a < cnt c) {m : List (List Int)} (hs : Sq (cnt c) m) :
    ∃ m', loopU (remontoirref02_most_b9 c (k : Int) (a : Int)) (0, m) = nxt (((a + 1 : Nat) : Int), m') ∧ Sq (cnt c) m' ∧ ∀ i, i < cnt c → ∀ j, j < cnt c → mg m' i j ≤ mg m i j := by
  have hn := hc.n
  have hw := cnt_wr hc
  refine loopU_for (s := ((0 : Int), m)) (Inv := fun b s => s.1 = (b : Int) ∧ Sq (cnt c) s.2 ∧ ∀ i, i < cnt c → ∀ j, j < cnt c → mg s.2 i j ≤ mg m i j) (cnt c)
    (Post := fun o => ∃ m', o = nxt (((a + 1 : Nat) : Int), m') ∧ Sq (cnt c) m' ∧ ∀ i, i < cnt c → ∀ j, j < cnt c → mg m' i j ≤ mg m i j) ⟨rfl, hs, fun i hi j hj => Int.le_refl _⟩ ?_ ?_
  · rintro b ⟨s1, m1⟩ hbN ⟨rfl, hs1, he⟩
    simp only at hs1 he
    have hd : decide ((b : Int) < (cnt c : Int)) = true := by simp; omega
    have wi : wr ((b : Int) + 1) = ((b + 1 : Nat) : Int) := wr_id' (by omega) (by omega)
    have g0 : (0 : Int) ≤ ((a : Nat) : Int) ∧ ((a : Nat) : Int) < ((cnt c : Nat) : Int) := by omega
    have g1 : (0 : Int) ≤ ((b : Nat) : Int) ∧ ((b : Nat) : Int) < ((cnt c : Nat) : Int) := by omega
    have g2 : (0 : Int) ≤ ((k : Nat) : Int) ∧ ((k : Nat) : Int) < ((cnt c : Nat) : Int) := by omega
    simp only [remontoirref02_most_b9, min_if']
    simp only [hw, hd, cond_true, Int.toNat_natCast, ← mg_def, ← put_def, hs1.len, hs1.row _ ha, hs1.row _ hk, g0, g1, g2, and_self, if_true, wi]
    refine ⟨_, rfl, rfl, hs1.put _ ha, fun i hi j hj => ?_⟩
    simp only
    rw [mg_put hs1 ha hbN]
    have := he i hi j hj
    split
    · next e => obtain ⟨rfl, rfl⟩ := e; omega
    · exact this
  · rintro ⟨s1, m1⟩ ⟨rfl, hs1, he⟩
    have hd : decide ((cnt c : Int) < (cnt c : Int)) = false := by simp
    have wi : wr ((a : Int) + 1) = ((a + 1 : Nat) : Int) := wr_id' (by omega) (by omega)
    exact ⟨_, by simp only [remontoirref02_most_b9, hw, hd, cond_false, wi], m1, rfl, hs1, he⟩

theorem most_b8_good (c : BeatCellar) (hc : OkC c) {k : Nat} (hk : k < cnt c) {m : List (List Int)} (hs : Sq (cnt c) m) (hkk : mg m k k = 0)
    (hb : ∀ i, i < cnt c → ∀ j, j < cnt c → -2200000 ≤ mg m i j ∧ mg m i j ≤ farI) (hcol : ∀ i, i < cnt c → -200000000 ≤ mg m i k) :
    ∃ m', loopU (remontoirref02_most_b8 c (k : Int)) (0, m) = nxt (((k + 1 : Nat) : Int), m') ∧ Sq (cnt c) m' ∧ ∀ i, i < cnt c → ∀ j, j < cnt c → mg m' i j = min (mg m i j) (mg m i k + mg m k j) := by
  have hn := hc.n
  have hw := cnt_wr hc
  refine loopU_for (s := ((0 : Int), m)) (Inv := fun a s => s.1 = (a : Int) ∧ Sq (cnt c) s.2 ∧ ∀ i, i < cnt c → ∀ j, j < cnt c → mg s.2 i j = if i < a then min (mg m i j) (mg m i k + mg m k j) else mg m i j) (cnt c)
    (Post := fun o => ∃ m', o = nxt (((k + 1 : Nat) : Int), m') ∧ Sq (cnt c) m' ∧ ∀ i, i < cnt c → ∀ j, j < cnt c → mg m' i j = min (mg m i j) (mg m i k + mg m k j)) ⟨rfl, hs, fun i hi j hj => by simp⟩ ?_ ?_
  · rintro a ⟨s1, m1⟩ ha ⟨rfl, hs1, he⟩
    simp only at hs1 he
    have hd : decide ((a : Int) < (cnt c : Int)) = true := by simp; omega
    have hk1 : ∀ j, j < cnt c → mg m1 k j = mg m k j := by
      intro j hj
      rw [he k hk j hj]
      split
      · omega
      · rfl
    have ha1 : ∀ j, j < cnt c → mg m1 a j = mg m a j := by
      intro j hj
      rw [he a ha j hj, if_neg (by omega)]
    obtain ⟨m', e1, e2, e3⟩ := most_b9_good c hc hk ha hs1 (by rw [hk1 k hk]; exact hkk) (fun i hi j hj => by
      have h1 := hb i hi j hj
      have h2 := hb i hi k hk
      have h3 := hb k hk j hj
      rw [he i hi j hj]
      split <;> omega)
    refine ⟨(((a + 1 : Nat) : Int), m'), by simp only [remontoirref02_most_b8, hw, hd, cond_true]; exact e1, rfl, e2, fun i hi j hj => ?_⟩
    simp only
    rw [e3 i hi j hj]
    by_cases h : i = a
    · subst h
      rw [if_pos rfl, if_pos (by omega), ha1 j hj, ha1 k hk, hk1 j hj]
    · rw [if_neg h, he i hi j hj]
      by_cases h2 : i < a
      · rw [if_pos h2, if_pos (by omega)]
      · rw [if_neg h2, if_neg (by omega)]
  · rintro ⟨s1, m1⟩ ⟨rfl, hs1, he⟩
    simp only at hs1 he
    have hd : decide ((cnt c : Int) < (cnt c : Int)) = false := by simp
    have wi : wr ((k : Int) + 1) = ((k + 1 : Nat) : Int) := wr_id' (by omega) (by omega)
    refine ⟨_, by simp only [remontoirref02_most_b8, hw, hd, cond_false, wi], m1, rfl, hs1, fun i hi j hj => ?_⟩
    rw [he i hi j hj, if_pos hi]
theorem most_b8_le (c : BeatCellar) (hc : OkC c) {k : Nat} (hk : k < cnt c) {m : List (List Int)} (hs : Sq (cnt c) m) :
    ∃ m', loopU (remontoirref02_most_b8 c (k : Int)) (0, m) = nxt (((k + 1 : Nat) : Int), m') ∧ Sq (cnt c) m' ∧ ∀ i, i < cnt c → ∀ j, j < cnt c → mg m' i j ≤ mg m i j := by
  have hn := hc.n
  have hw := cnt_wr hc
  refine loopU_for (s := ((0 : Int), m)) (Inv := fun a s => s.1 = (a : Int) ∧ Sq (cnt c) s.2 ∧ ∀ i, i < cnt c → ∀ j, j < cnt c → mg s.2 i j ≤ mg m i j) (cnt c)
    (Post := fun o => ∃ m', o = nxt (((k + 1 : Nat) : Int), m') ∧ Sq (cnt c) m' ∧ ∀ i, i < cnt c → ∀ j, j < cnt c → mg m' i j ≤ mg m i j) ⟨rfl, hs, fun i hi j hj => Int.le_refl _⟩ ?_ ?_
  · rintro a ⟨s1, m1⟩ ha ⟨rfl, hs1, he⟩
    simp only at hs1 he
    have hd : decide ((a : Int) < (cnt c : Int)) = true := by simp; omega
    obtain ⟨m', e1, e2, e3⟩ := most_b9_le c hc hk ha hs1
    refine ⟨(((a + 1 : Nat) : Int), m'), by simp only [remontoirref02_most_b8, hw, hd, cond_true]; exact e1, rfl, e2, fun i hi j hj => ?_⟩
    have h1 := e3 i hi j hj
    have h2 := he i hi j hj
    simp only; omega
  · rintro ⟨s1, m1⟩ ⟨rfl, hs1, he⟩
    have hd : decide ((cnt c : Int) < (cnt c : Int)) = false := by simp
    have wi : wr ((k : Int) + 1) = ((k + 1 : Nat) : Int) := wr_id' (by omega) (by omega)
    exact ⟨_, by simp only [remontoirref02_most_b8, hw, hd, cond_false, wi], m1, rfl, hs1, he⟩

/-- what the reference's table comes to -/
theorem most_eq (c : BeatCellar) (hx : goodB c = true) (wrong : Int) :
    (Can c wrong ∧ ∃ m, remontoirref02_most c wrong = some (m, true) ∧ Sq (cnt c) m ∧ ∀ a, a < cnt c → ∀ b, b < cnt c → IsMost (F c wrong) a b (mg m a b)) ∨
    (¬ Can c wrong ∧ remontoirref02_most c wrong = some ([], false)) := by
  have hc := OkC.of hx
  have hn := hc.n
  have hw := cnt_wr hc
  have hN0 : 0 < cnt c := by simp only [cnt]; omega
  obtain ⟨m0, e, hm⟩ := most_paired c hx wrong
  have hF : ∀ x, FeasM (mg m0) (cnt c) x ↔ F c wrong x := by
    intro x
    rw [hm.iff x, base_iff c hx x]
    have hon : ∀ p : BeatPair, x (oNode c p) = if p.Other ≥ 0 then x (nd c p.Other p.Hour) else x 0 := by
      intro p; unfold oNode; split <;> rfl
    constructor
    · rintro ⟨⟨h1, h2⟩, h3⟩
      refine ⟨h1, fun p hp hl => ?_, h2⟩
      have := h3 p hp hl
      unfold readC at this
      rw [hon] at this
      exact this
    · rintro ⟨h1, h2, h3⟩
      refine ⟨⟨h1, h3⟩, fun p hp hl => ?_⟩
      have := h2 p hp hl
      unfold readC
      rw [hon]
      exact this
  have hIs : ∀ a b v, IsMost (FeasM (mg m0) (cnt c)) a b v → IsMost (F c wrong) a b v := by
    rintro a b v ⟨⟨x, h1, h2⟩, h3⟩
    exact ⟨⟨x, (hF x).1 h1, h2⟩, fun y hy => h3 y ((hF y).2 hy)⟩
  have hCan : (∃ x, FeasM (mg m0) (cnt c) x) ↔ Can c wrong := ⟨fun ⟨x, h⟩ => ⟨x, (hF x).1 h⟩, fun ⟨x, h⟩ => ⟨x, (hF x).2 h⟩⟩
  rw [e]
  refine loopU_for (s := ((0 : Int), m0)) (Inv := fun k s => s.1 = (k : Int) ∧ Sq (cnt c) s.2 ∧ (GoodM (mg m0) (cnt c) k (mg s.2) ∨ ((∃ a, a < cnt c ∧ mg s.2 a a < 0) ∧ ¬ ∃ x, FeasM (mg m0) (cnt c) x))) (cnt c)
    (Post := fun o => (Can c wrong ∧ ∃ m, o = some (m, true) ∧ Sq (cnt c) m ∧ ∀ a, a < cnt c → ∀ b, b < cnt c → IsMost (F c wrong) a b (mg m a b)) ∨ (¬ Can c wrong ∧ o = some ([], false)))
    ⟨rfl, hm.sq, Or.inl (GoodM.zero hm.diag)⟩ ?_ ?_
  · rintro k ⟨s1, m1⟩ hk ⟨rfl, hs1, hg⟩
    simp only at hs1 hg
    have hd : decide ((k : Int) < (cnt c : Int)) = true := by simp; omega
    rcases hg with hg | ⟨⟨a, ha, hneg⟩, hno⟩
    · have hbd := hg.bound (B := 1000000) (by decide) (by omega) hm.h1 hm.h2 (fun a ha b hb => (hm.lo a ha b hb).1)
      obtain ⟨m', e1, e2, e3⟩ := most_b8_good c hc hk hs1 (hg.diag k hk) (fun i hi j hj => by
        have h1 := hbd i hi j hj
        have h2 := hg.le0 i hi j hj
        have h3 := (hm.lo i hi j hj).2
        omega) (fun i hi => by have h1 := hbd i hi k hk; omega)
      refine ⟨(((k + 1 : Nat) : Int), m'), by simp only [remontoirref02_most_b7, hw, hd, cond_true]; exact e1, rfl, e2, ?_⟩
      by_cases hneg : ∃ a, a < cnt c ∧ mg m' a a < 0
      · obtain ⟨a, ha, h⟩ := hneg
        exact Or.inr ⟨⟨a, ha, h⟩, hg.neg hk e3 ha h⟩
      · exact Or.inl (hg.step hk e3 (fun a ha => by
          by_cases h : mg m' a a < 0
          · exact absurd ⟨a, ha, h⟩ hneg
          · exact Int.not_lt.1 h))
    · obtain ⟨m', e1, e2, e3⟩ := most_b8_le c hc hk hs1
      refine ⟨(((k + 1 : Nat) : Int), m'), by simp only [remontoirref02_most_b7, hw, hd, cond_true]; exact e1, rfl, e2, Or.inr ⟨⟨a, ha, ?_⟩, hno⟩⟩
      have := e3 a ha a ha
      exact Int.lt_of_le_of_lt this hneg
  · rintro ⟨s1, m1⟩ ⟨rfl, hs1, hg⟩
    simp only at hs1 hg
    have hd : decide ((cnt c : Int) < (cnt c : Int)) = false := by simp
    have h10 := loop_all (body := remontoirref02_most_b10 c m1) (fun a => (([] : List (List Int)), false, (a : Int))) (fun a => !decide (mg m1 a a < 0)) (some (m1, true)) (some ([], false)) (cnt c) (fun a ha => by
      have hd : decide ((a : Int) < (cnt c : Int)) = true := by simp; omega
      have wi : wr ((a : Int) + 1) = ((a + 1 : Nat) : Int) := wr_id' (by omega) (by omega)
      have g0 : (0 : Int) ≤ ((a : Nat) : Int) ∧ ((a : Nat) : Int) < ((cnt c : Nat) : Int) := by omega
      simp only [remontoirref02_most_b10, hw, hd, cond_true, Int.toNat_natCast, ← mg_def, hs1.len, hs1.row _ ha, g0, and_self, if_true, wi, decide_true]
      by_cases hneg : mg m1 a a < 0 <;> simp [hneg]) (by
      simp only [remontoirref02_most_b10, hw, hd, cond_false])
    refine ⟨loopU (remontoirref02_most_b10 c m1) ([], false, 0), by simp only [remontoirref02_most_b7, hw, hd, cond_false], ?_⟩
    simp only [Int.natCast_zero] at h10
    rw [h10]
    rcases hg with hg | ⟨⟨a, ha, hneg⟩, hno⟩
    · left
      have hall : ((List.range (cnt c)).all fun a => !decide (mg m1 a a < 0)) = true := by
        rw [List.all_eq_true]
        intro a ha
        have := hg.diag a (List.mem_range.1 ha)
        simp [this]
      rw [if_pos hall]
      exact ⟨hCan.1 (hg.feas hN0), m1, rfl, hs1, fun a ha b hb => hIs a b _ (hg.most ha hb)⟩
    · right
      have hall : ((List.range (cnt c)).all fun a => !decide (mg m1 a a < 0)) = false := by
        rw [List.all_eq_false]
        exact ⟨a, List.mem_range.2 ha, by simp; omega⟩
      rw [hall]
      exact ⟨fun h => hno (hCan.2 h), by simp⟩

theorem sq_idx {N : Nat} {m : List (List Int)} (hs : Sq N m) {a b : Nat} (ha : a < N) (hb : b < N) : idx m (a : Int) = some (m.getD a []) ∧ idx (m.getD a []) (b : Int) = some (mg m a b) := by
  have h1 : a < m.length := by rw [hs.len]; exact ha
  have h2 : b < (m.getD a []).length := by rw [hs.row a ha]; exact hb
  constructor
  · rw [idx_get h1]; simp [h1]
  · rw [idx_get h2, mg, at_get h2]

theorem ref_asked_eq (c : BeatCellar) (hc : Ok_BeatCellar c) (one h other g : Int) :
    remontoirref02_asked c one h other g = some (ans c (inB one 0 (c.Rates.length - 1) && inB other (-1) (c.Rates.length - 1) && inB h 0 c.Hours && inB g 0 c.Hours) (told c 0 (nd c one h) (if other < 0 then 0 else nd c other g))) := by
  have hR := hc.2.1.1
  have w1 : wr ((c.Rates.length : Int) - 1) = (c.Rates.length : Int) - 1 := wr_id' (by omega) (by omega)
  unfold remontoirref02_asked ans
  simp only [ref_Check_eq c hc, bind_s, Lies_eq, w1]
  cases hx : goodB c with
  | false => rfl
  | true =>
    have hC := OkC.of hx
    have c0 : ((0 : Int) != 0) = false := by decide
    simp only [if_true, c0, cond_false]
    cases h1 : inB one 0 (c.Rates.length - 1) with
    | false => rfl
    | true =>
      cases h2 : inB other (-1) (c.Rates.length - 1) with
      | false => rfl
      | true =>
        cases h3 : inB h 0 c.Hours with
        | false => rfl
        | true =>
          cases h4 : inB g 0 c.Hours with
          | false => rfl
          | true =>
            simp only [Bool.not_true, cond_false, bind_s, Bool.and_self, if_true]
            simp only [inB, Bool.and_eq_true, decide_eq_true_eq] at h1 h2 h3 h4
            rcases most_eq c hx 0 with ⟨hcan, m, e, hs, hm⟩ | ⟨hno, e⟩
            · have hb := (canB_iff hx 0).2 hcan
              have n1 := nd_lt (c := c) (k := one) (h := h) (by omega) (by omega) (by omega) (by omega)
              have pl1 := place_eq hC (k := one) (h := h) (by omega) (by omega) (by omega) (by omega)
              have n2 : (if other < 0 then 0 else nd c other g) < cnt c := by
                split
                · simp only [cnt]; omega
                · exact nd_lt (by omega) (by omega) (by omega) (by omega)
              have pl2 : remontoirref02_place c other g = some ((if other < 0 then 0 else nd c other g : Nat) : Int) := by
                by_cases ho : other < 0
                · rw [if_pos ho]; exact place_neg ho
                · rw [if_neg ho]; exact place_eq hC (by omega) (by omega) (by omega) (by omega)
              rw [hb, if_pos rfl]
              generalize (if other < 0 then 0 else nd c other g) = b at n2 pl2
              generalize nd c one h = a at n1 pl1
              have e1 := (hm b n2 a n1).uniq (mx_most hx hcan n2 n1)
              have e2 := (hm a n1 b n2).uniq (mx_most hx hcan n1 n2)
              have bd := mx_bound hx hcan n2 n1
              simp only [e, bind_s, Bool.not_true, cond_false, pl1, pl2, (sq_idx hs n2 n1).1, (sq_idx hs n2 n1).2, (sq_idx hs n1 n2).1, (sq_idx hs n1 n2).2, remontoirref00_To, e1, e2]
              rw [wr_id' (by omega) (by omega)]
              simp [told]
            · have hb := (canB_ff hx 0).2 hno
              rw [hb, e]; rfl

theorem ref_Offset_eq (c : BeatCellar) (hc : Ok_BeatCellar c) (k h : Int) : remontoirref02_Offset c k h = beat_Offset c k h := by
  unfold remontoirref02_Offset
  rw [ref_asked_eq c hc, Offset_eq c hc, bind_s]
  unfold ans
  cases hx : goodB c with
  | false => rfl
  | true =>
    have hC := OkC.of hx
    have h1 := hC.h1
    have k1 := hC.k1
    have e1 : inB (-1) (-1) (c.Rates.length - 1) = true := by simp only [inB, Bool.and_eq_true, decide_eq_true_eq]; omega
    have e2 : inB 0 0 c.Hours = true := by simp only [inB, Bool.and_eq_true, decide_eq_true_eq]; omega
    rw [e1, e2]
    have e3 : (inB k 0 (c.Rates.length - 1) && true && inB h 0 c.Hours && true) = spotB c k h := by
      unfold spotB; simp
    rw [e3]
    have e4 : (if (-1 : Int) < 0 then 0 else nd c (-1) 0) = 0 := if_pos (by decide)
    rw [e4]
theorem ref_Apart_eq (c : BeatCellar) (hc : Ok_BeatCellar c) (i k h : Int) : remontoirref02_Apart c i k h = beat_Apart c i k h := by
  unfold remontoirref02_Apart
  rw [ref_asked_eq c hc, Apart_eq c hc, ref_Check_eq c hc, bind_s, bind_s]
  unfold ans
  cases hx : goodB c with
  | false => rfl
  | true =>
    by_cases hk : k < 0
    · have e1 : spotB c k h = false := by
        have : inB k 0 (c.Rates.length - 1) = false := by simp only [inB, Bool.and_eq_false_iff, decide_eq_false_iff_not]; omega
        simp [spotB, this]
      simp [e1, hk]
    · have e1 : inB k (-1) (c.Rates.length - 1) = inB k 0 (c.Rates.length - 1) := by
        unfold inB
        have h1 : decide (-1 ≤ k) = decide (0 ≤ k) := by simp; omega
        rw [h1]
      have e3 : (inB i 0 (c.Rates.length - 1) && inB k (-1) (c.Rates.length - 1) && inB h 0 c.Hours && inB h 0 c.Hours) = (spotB c i h && spotB c k h) := by
        rw [e1]; unfold spotB
        cases inB i 0 (c.Rates.length - 1) <;> cases inB k 0 (c.Rates.length - 1) <;> cases inB h 0 c.Hours <;> rfl
      rw [e3]
      have e4 : decide (k < 0) = false := by simpa using hk
      simp [hk]
theorem ref_Drift_eq (c : BeatCellar) (hc : Ok_BeatCellar c) (k g h : Int) : remontoirref02_Drift c k g h = beat_Drift c k g h := by
  unfold remontoirref02_Drift
  rw [ref_asked_eq c hc, Drift_eq c hc, ref_Check_eq c hc, bind_s, bind_s]
  unfold ans
  cases hx : goodB c with
  | false => rfl
  | true =>
    by_cases hk : k < 0
    · have e1 : spotB c k g = false := by
        have : inB k 0 (c.Rates.length - 1) = false := by simp only [inB, Bool.and_eq_false_iff, decide_eq_false_iff_not]; omega
        simp [spotB, this]
      simp [e1, hk]
    · have e1 : inB k (-1) (c.Rates.length - 1) = inB k 0 (c.Rates.length - 1) := by
        unfold inB
        have h1 : decide (-1 ≤ k) = decide (0 ≤ k) := by simp; omega
        rw [h1]
      have e3 : (inB k 0 (c.Rates.length - 1) && inB k (-1) (c.Rates.length - 1) && inB h 0 c.Hours && inB g 0 c.Hours) = (spotB c k g && spotB c k h) := by
        rw [e1]; unfold spotB
        cases inB k 0 (c.Rates.length - 1) <;> cases inB g 0 c.Hours <;> cases inB h 0 c.Hours <;> rfl
      rw [e3]
      simp [hk]

def okH (c : BeatCellar) (o : List (List Int)) (k h : Nat) : Bool := inB (off o k h) (-100000) 100000 && (decide (h = 0) || hasB (growsSpan c (c.Rates.getD k ⟨0, 0⟩) k ((h - 1 : Nat) : Int)) (wr (off o k h - off o k ((h - 1 : Nat) : Int))))
def okK (c : BeatCellar) (o : List (List Int)) (k : Nat) : Bool := decide ((o.getD k []).length = wid c) && (List.range (wid c)).all (okH c o k)
def okP (o : List (List Int)) (p : BeatPair) : Bool := hasB p.Read (if p.Other ≥ 0 then wr (off o p.One p.Hour - off o p.Other p.Hour) else off o p.One p.Hour)

theorem ref_IsTruth_b2_eq {c : BeatCellar} (hx : goodB c = true) {o : List (List Int)} {k : Nat} (hk : k < c.Rates.length) (hko : k < o.length) (hl : o[k].length = wid c) (v4 : Bool) (v5 : Int) :
    loopU (remontoirref02_IsTruth_b2 c o (k : Int)) (v4, v5, 0) = if (List.range (wid c)).all (okH c o k) = true then nxt (v4, v5, ((k + 1 : Nat) : Int)) else ext (some (false, 0)) := by
  have hC := OkC.of hx
  have hw := hC.w
  have hh2 := hC.h2
  have k2 := hC.k2
  have hoff : ∀ h : Nat, (hh : h < o[k].length) → o[k][h] = off o (k : Int) (h : Int) := by
    intro h hh
    simp [off, hko, hh]
  refine loop_all (body := remontoirref02_IsTruth_b2 c o (k : Int)) (fun h => (v4, v5, (h : Int))) (okH c o k) _ _ (wid c) (fun h hh => ?_) ?_
  · have hd : decide ((h : Int) ≤ c.Hours) = true := by simp; omega
    have wi : wr ((h : Int) + 1) = ((h + 1 : Nat) : Int) := wr_id' (by omega) (by omega)
    have hh' : h < o[k].length := by omega
    simp only [remontoirref02_IsTruth_b2, hd, cond_true, idx_get hko, bind_s, idx_get hh', Lies_eq, wi, okH, hoff h hh']
    rcases Bool.eq_false_or_eq_true (inB (off o (k : Int) (h : Int)) (-100000) 100000) with h1 | h1
    · by_cases h0 : h = 0
      · have hd0 : decide ((h : Int) > 0) = false := by simp; omega
        simp [hd0, h0, bind_s, h1]
        simp [h0] at h1
        simp [h1, bind_s]
      · have hd0 : decide ((h : Int) > 0) = true := by simp; omega
        have wh : wr ((h : Int) - 1) = ((h - 1 : Nat) : Int) := by rw [wr_id' (by omega) (by omega)]; omega
        have hh2' : h - 1 < o[k].length := by omega
        simp only [h1, hd0, cond_true, Bool.not_true, cond_false, wh, ref_grows_eq c hx hk, bind_s, idx_get hh2', hoff (h - 1) hh2', Has_eq, h0, decide_false, Bool.false_or, Bool.true_and]
        rcases Bool.eq_false_or_eq_true (hasB (growsSpan c (c.Rates.getD k ⟨0, 0⟩) (k : Int) ((h - 1 : Nat) : Int)) (wr (off o (k : Int) (h : Int) - off o (k : Int) ((h - 1 : Nat) : Int)))) with h2 | h2
        · simp only [h2, Bool.not_true, cond_false, if_true]
        · simp only [h2, Bool.not_false, cond_true, Bool.false_eq_true, if_false]
    · simp [h1, bind_s]
  · have hd : decide (((wid c : Nat) : Int) ≤ c.Hours) = false := by simp; omega
    have wi : wr ((k : Int) + 1) = ((k + 1 : Nat) : Int) := wr_id' (by omega) (by omega)
    simp only [remontoirref02_IsTruth_b2, hd, cond_false, wi]

theorem ref_IsTruth_eq (c : BeatCellar) (hc : Ok_BeatCellar c) (o : List (List Int)) (ho : OkL (OkL InR) o) : remontoirref02_IsTruth c o = some (if goodB c = true then (truthB c o, 0) else (false, 20)) := by
  have hol := ho.1
  unfold remontoirref02_IsTruth
  simp only [ref_Check_eq c hc, bind_s]
  cases hx : goodB c with
  | false => rfl
  | true =>
    have hC := OkC.of hx
    have hw := hC.w
    have k2 := hC.k2
    have p2 := hC.p2
    have hh1 := hC.h1
    have hh2 := hC.h2
    have c0 : ((0 : Int) != 0) = false := by decide
    simp only [if_true, c0, cond_false]
    by_cases hl : o.length = c.Rates.length
    · have hl' : ((o.length : Int) != (c.Rates.length : Int)) = false := by simp; omega
      simp only [hl', cond_false]
      have wh : wr (c.Hours + 1) = (wid c : Int) := by rw [wr_id' (by omega) (by omega)]; omega
      have h1 := loop_all (body := remontoirref02_IsTruth_b1 c o) (fun k => (false, (0 : Int), (k : Int))) (okK c o) (loopU (remontoirref02_IsTruth_b3 c o) (false, 0, 0)) (some (false, 0)) o.length (fun k hk => by
        have hd : decide ((k : Int) < (o.length : Int)) = true := by simp; omega
        have eg : o.getD k [] = o[k] := by simp [hk]
        simp only [remontoirref02_IsTruth_b1, hd, cond_true, idx_get hk, bind_s, wh, okK, eg]
        by_cases hlk : o[k].length = wid c
        · have hne : ((o[k].length : Int) != (wid c : Int)) = false := by simp; omega
          rw [hne, cond_false, ref_IsTruth_b2_eq hx (by omega) hk hlk]
          simp only [hlk, decide_true, Bool.true_and]
        · have hne : ((o[k].length : Int) != (wid c : Int)) = true := by simp; omega
          rw [hne, cond_true]
          simp [hlk]) (by
        have hd : decide ((o.length : Int) < (o.length : Int)) = false := by simp
        simp only [remontoirref02_IsTruth_b1, hd, cond_false])
      simp only [Int.natCast_zero] at h1
      rw [h1]
      -- what the rows say
      cases hall : (List.range o.length).all (okK c o) with
      | false =>
        have : truthB c o = false := by
          rw [Bool.eq_false_iff]
          intro ht
          obtain ⟨hs, hf⟩ := (truth_iff hx o).1 ht
          rw [List.all_eq_false] at hall
          obtain ⟨k, hk, hn⟩ := hall
          have hk' := List.mem_range.1 hk
          apply hn
          have hrng := range_of hx hs hf
          have hs2 := hs
          simp only [shapeB, Bool.and_eq_true, decide_eq_true_eq] at hs2
          have hlk := List.all_eq_true.1 hs2.2 _ (List.getElem_mem hk')
          simp only [decide_eq_true_eq] at hlk
          have eg : o.getD k [] = o[k] := by simp [hk']
          simp only [okK, eg, hlk, decide_true, Bool.true_and]
          rw [List.all_eq_true]
          intro h hh
          have hh' := List.mem_range.1 hh
          have r1 := off_range hrng (k : Int) (h : Int)
          have r2 := off_range hrng (k : Int) ((h - 1 : Nat) : Int)
          simp only [okH, Bool.and_eq_true, Bool.or_eq_true, decide_eq_true_eq, inB, hasB]
          refine ⟨r1, ?_⟩
          by_cases h0 : h = 0
          · exact Or.inl h0
          · right
            rw [wr_id' (by omega) (by omega)]
            have := hf.g k (by omega) (h - 1) (by omega)
            rw [show ((h - 1 : Nat) : Int) + 1 = (h : Int) by omega] at this
            exact this
        rw [this]
        simp
      | true =>
        rw [if_pos rfl]
        have hrow : ∀ k, k < o.length → okK c o k = true := fun k hk => List.all_eq_true.1 hall k (List.mem_range.2 hk)
        have hs : shapeB c o = true := by
          simp only [shapeB, Bool.and_eq_true, decide_eq_true_eq]
          refine ⟨hl, List.all_eq_true.2 fun l hm => ?_⟩
          obtain ⟨k, hk, rfl⟩ := List.mem_iff_getElem.1 hm
          have := hrow k hk
          have eg : o.getD k [] = o[k] := by simp [hk]
          simp only [okK, eg, Bool.and_eq_true] at this
          exact this.1
        have hoh : ∀ k h : Nat, k < o.length → h < wid c → okH c o k h = true := fun k h hk hh => by
          have := hrow k hk
          simp only [okK, Bool.and_eq_true] at this
          exact List.all_eq_true.1 this.2 h (List.mem_range.2 hh)
        have hin : ∀ k h : Nat, k < o.length → h < wid c → -100000 ≤ off o k h ∧ off o k h ≤ 100000 := fun k h hk hh => by
          have := hoh k h hk hh
          simp only [okH, inB, Bool.and_eq_true, decide_eq_true_eq] at this
          exact this.1
        have hin' : ∀ k h : Int, 0 ≤ k → k < c.Rates.length → 0 ≤ h → h ≤ c.Hours → -100000 ≤ off o k h ∧ off o k h ≤ 100000 := fun k h a1 a2 a3 a4 => by
          have := hin k.toNat h.toNat (by omega) (by omega)
          rwa [Int.toNat_of_nonneg a1, Int.toNat_of_nonneg a3] at this
        have hget : ∀ k h : Int, 0 ≤ k → k < c.Rates.length → 0 ≤ h → h ≤ c.Hours → ∃ l, idx o k = some l ∧ idx l h = some (off o k h) := fun k h a1 a2 a3 a4 => by
          obtain ⟨g1, g2, g3⟩ := off_get hs (k := k.toNat) (h := h.toNat) (by omega) (by omega)
          rw [Int.toNat_of_nonneg a1, Int.toNat_of_nonneg a3] at g3
          refine ⟨o[k.toNat], ?_, ?_⟩
          · have := idx_get g1; rwa [Int.toNat_of_nonneg a1] at this
          · have := idx_get g2; rwa [Int.toNat_of_nonneg a3, ← g3] at this
        have h3 := loop_all (body := remontoirref02_IsTruth_b3 c o) (fun i => (false, (0 : Int), (i : Int))) (fun i => (c.Pairs[i]?).all (okP o)) (some (true, 0)) (some (false, 0)) c.Pairs.length (fun i hi => by
          have hd : decide ((i : Int) < (c.Pairs.length : Int)) = true := by simp; omega
          have wi : wr ((i : Int) + 1) = ((i + 1 : Nat) : Int) := wr_id' (by omega) (by omega)
          obtain ⟨q1, q2, q3, q4, q5⟩ := pair_ok hx (List.getElem_mem hi)
          obtain ⟨l1, e1, e2⟩ := hget c.Pairs[i].One c.Pairs[i].Hour (by omega) (by omega) (by omega) (by omega)
          simp only [remontoirref02_IsTruth_b3, hd, cond_true, idx_get hi, bind_s, e1, e2, List.getElem?_eq_getElem hi, Option.all_some, okP]
          by_cases hoth : c.Pairs[i].Other ≥ 0
          · obtain ⟨l2, e3, e4⟩ := hget c.Pairs[i].Other c.Pairs[i].Hour (by omega) (by omega) (by omega) (by omega)
            simp only [hoth, decide_true, cond_true, e3, e4, bind_s, remontoirref02_IsTruth_k4, Has_eq, wi, if_true]
            cases hasB c.Pairs[i].Read (wr (off o c.Pairs[i].One c.Pairs[i].Hour - off o c.Pairs[i].Other c.Pairs[i].Hour)) <;> rfl
          · simp only [hoth, decide_false, cond_false, bind_s, remontoirref02_IsTruth_k4, Has_eq, wi, if_false]
            cases hasB c.Pairs[i].Read (off o c.Pairs[i].One c.Pairs[i].Hour) <;> rfl) (by
          have hd : decide ((c.Pairs.length : Int) < (c.Pairs.length : Int)) = false := by simp
          simp only [remontoirref02_IsTruth_b3, hd, cond_false])
        simp only [Int.natCast_zero] at h3
        rw [h3, all_range c.Pairs (okP o) _ (fun i hi => by simp [List.getElem?_eq_getElem hi])]
        have key : c.Pairs.all (okP o) = truthB c o := by
          rw [Bool.eq_iff_iff, truth_iff hx]
          have hpw : ∀ p ∈ c.Pairs, (if p.Other ≥ 0 then wr (off o p.One p.Hour - off o p.Other p.Hour) else off o p.One p.Hour) = off o p.One p.Hour - (if p.Other ≥ 0 then off o p.Other p.Hour else 0) := by
            intro p hp
            obtain ⟨q1, q2, q3, q4, q5⟩ := pair_ok hx hp
            have r1 := hin' p.One p.Hour (by omega) (by omega) (by omega) (by omega)
            by_cases hoth : p.Other ≥ 0
            · have r2 := hin' p.Other p.Hour (by omega) (by omega) (by omega) (by omega)
              rw [if_pos hoth, if_pos hoth, wr_id' (by omega) (by omega)]
            · rw [if_neg hoth, if_neg hoth]; omega
          constructor
          · intro hp
            refine ⟨hs, fun k hk h hh => ?_, fun p hpm hl0 => ?_, fun k hk h hh => ?_⟩
            · have := hoh k (h + 1) (by omega) (by omega)
              simp only [okH, Bool.and_eq_true, Bool.or_eq_true, decide_eq_true_eq, hasB, inB, Nat.add_sub_cancel] at this
              have r1 := hin k (h + 1) (by omega) (by omega)
              have r2 := hin k h (by omega) (by omega)
              rcases this.2 with h0 | h0
              · omega
              · rw [wr_id' (by omega) (by omega)] at h0
                rw [show ((h : Int) + 1) = ((h + 1 : Nat) : Int) by omega]
                exact h0
            · have := List.all_eq_true.1 hp p hpm
              simp only [okP, hasB, inB, Bool.and_eq_true, decide_eq_true_eq] at this
              rw [hpw p hpm] at this
              exact this
            · have := hin k h (by omega) (by omega)
              omega
          · rintro ⟨_, hf⟩
            rw [List.all_eq_true]
            intro p hpm
            simp only [okP, hasB, inB, Bool.and_eq_true, decide_eq_true_eq]
            rw [hpw p hpm]
            refine hf.r p hpm ?_
            have e0 : ∀ k, inSetB 0 k = false := by
              intro k
              unfold inSetB
              have : gshr 0 k = 0 := by simp [gshr]
              rw [this]; decide
            simp [ofB, e0]
        rw [key]
        cases truthB c o <;> rfl
    · have hl' : ((o.length : Int) != (c.Rates.length : Int)) = true := by simp; omega
      simp [hl', truthB, shapeB, hl]

theorem ref_Best_eq (c : BeatCellar) (hc : Ok_BeatCellar c) (h : Int) : remontoirref02_Best c h = beat_Best c h := by
  rw [Best_eq c hc]
  unfold remontoirref02_Best
  have hoff : ∀ k : Int, remontoirref02_Offset c k h = some (ans c (spotB c k h) (told c 0 (nd c k h) 0)) := fun k => by rw [ref_Offset_eq c hc, Offset_eq c hc]
  by_cases hgood : goodB c = true ∧ inB h 0 c.Hours = true ∧ canB c 0 = true
  · obtain ⟨hx, hs, hb⟩ := hgood
    have hcan := (canB_iff hx 0).1 hb
    have hC := OkC.of hx
    have k2 := hC.k2
    have k1 := hC.k1
    rw [hx, hs, hb]
    simp only [if_true]
    simp only [inB, Bool.and_eq_true, decide_eq_true_eq] at hs
    have hrun := loopU_run0 (body := remontoirref02_Best_b1 c h) (fun k => ((0 : Int), (0 : Int), (0 : Int), (bestF (wOf c h) k).1, (if k = 0 then -1 else (bestF (wOf c h) k).2), (k : Int))) c.Rates.length (fun k hk => by
      have hd : decide ((k : Int) < (c.Rates.length : Int)) = true := by simp; omega
      have wi : wr ((k : Int) + 1) = ((k + 1 : Nat) : Int) := wr_id' (by omega) (by omega)
      have hsp : spotB c (k : Int) h = true := by simp only [spotB, inB, Bool.and_eq_true, decide_eq_true_eq]; omega
      have hwb := wOf_nonneg hx hcan hk hs.1 hs.2
      have ew : wr ((told c 0 (nd c k h) 0).High - (told c 0 (nd c k h) 0).Low) = wOf c h k := wr_id' (by unfold wOf at hwb; omega) (by unfold wOf at hwb; omega)
      have ha : ans c (spotB c (k : Int) h) (told c 0 (nd c k h) 0) = (told c 0 (nd c k h) 0, 0) := by simp [ans, hx, hsp, hb]
      have c0 : ((0 : Int) != 0) = false := by decide
      simp only [remontoirref02_Best_b1, hd, Bool.or_true, cond_true, hoff, ha, bind_s, c0, cond_false, ew, wi, bestF]
      by_cases hk0 : k = 0
      · subst hk0; rfl
      · have hge := bestF_nonneg (w := wOf c h) (K := c.Rates.length) (fun j hj => (wOf_nonneg hx hcan hj hs.1 hs.2).1) k (by omega) (by omega)
        have e1 : decide ((bestF (wOf c h) k).2 < 0) = false := by simp; omega
        simp only [hk0, if_false, e1, Bool.false_or, false_or]
        have hk1 : ¬ (k + 1 = 0) := by omega
        by_cases hlt : wOf c h k < (bestF (wOf c h) k).2
        · simp [hlt]
        · simp [hlt])
    have e00 : (if (0 : Nat) = 0 then (-1 : Int) else (bestF (wOf c h) 0).2) = -1 := rfl
    simp only [e00] at hrun
    refine hrun.trans (loopU_ext ?_)
    have hd : decide ((c.Rates.length : Int) < (c.Rates.length : Int)) = false := by simp
    have e0 : ((c.Rates.length : Int) == 0) = false := by simp; intro h; simp [h] at k1
    have e2 : ¬ c.Rates.length = 0 := by omega
    simp only [remontoirref02_Best_b1, hd, e0, Bool.or_false, cond_false, e2, if_false]
  · have hne : ∃ e : Int, e ≠ 0 ∧ ans c (spotB c 0 h) (told c 0 (nd c 0 h) 0) = (⟨0, 0⟩, e) ∧ (if goodB c = true then if inB h 0 c.Hours = true then if canB c 0 = true then ((bestF (wOf c h) c.Rates.length).1, (bestF (wOf c h) c.Rates.length).2, (0 : Int)) else (0, 0, 22) else (0, 0, 21) else (0, 0, 20)) = (0, 0, e) := by
      unfold ans
      cases hx : goodB c with
      | false => exact ⟨20, by decide, rfl, rfl⟩
      | true =>
        have hC := OkC.of hx
        have k1 := hC.k1
        have e0 : spotB c 0 h = inB h 0 c.Hours := by
          have : inB 0 0 (c.Rates.length - 1) = true := by simp only [inB, Bool.and_eq_true, decide_eq_true_eq]; omega
          simp [spotB, this]
        rw [e0]
        cases hs : inB h 0 c.Hours with
        | false => exact ⟨21, by decide, rfl, rfl⟩
        | true =>
          cases hb : canB c 0 with
          | false => exact ⟨22, by decide, rfl, rfl⟩
          | true => exact absurd ⟨hx, hs, hb⟩ hgood
    obtain ⟨e, he, h1, h2⟩ := hne
    rw [h2]
    refine loopU_ext ?_
    have e1 : (e != 0) = true := by simpa using he
    simp only [remontoirref02_Best_b1, hoff, h1, bind_s, e1, cond_true, show ((0 : Int) == 0) = true from rfl, Bool.true_or]
end Go.Proofs.YtpniidbbbhbglaaDoor.Rt
