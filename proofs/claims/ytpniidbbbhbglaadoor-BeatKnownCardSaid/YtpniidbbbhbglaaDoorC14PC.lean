/- Plain laws of the beat seat: cases, the surest clock, the fewest clocks that must be wrong. Under the conditions that each names. -/
import Derived.Test.YtpniidbbbhbglaaDoorC14PB
set_option linter.unusedVariables false
set_option linter.unusedSimpArgs false
set_option maxRecDepth 100000
set_option maxHeartbeats 4000000
namespace Go.Proofs.YtpniidbbbhbglaaDoor.Rt
open Go Go.RowKit
def caseR (c : BeatCellar) (b k n : Nat) : List Int := (List.range n).map fun h => mx c 0 (1 + k * wid c + h) b - mx c 0 0 b
def caseN (c : BeatCellar) (b n : Nat) : List (List Int) := (List.range n).map fun k => caseR c b k (wid c)
def caseL (c : BeatCellar) (b : Nat) : List (List Int) := caseN c b c.Rates.length
theorem mget_nd {c : BeatCellar} {k h : Nat} (hk : k < c.Rates.length) (hh : h < wid c) : mget kl_86 (plN (wid c) (cnt c)) ⟨(k : Int), (h : Int)⟩ = some ((1 + k * wid c + h : Nat) : Int) := by
  have := OkSpot.get (c := c) (s := ⟨(k : Int), (h : Int)⟩) (.inr ⟨k, h, hk, hh, rfl⟩)
  rwa [noOf_at] at this
theorem mget_tr (c : BeatCellar) : mget kl_86 (plN (wid c) (cnt c)) ⟨-1, 0⟩ = some 0 := by
  have := OkSpot.get (spot_t c)
  rwa [noOf_t] at this
theorem case_b3_eq {c : BeatCellar} (hx : goodB c = true) (hcan : Can c 0) {b : Nat} (hb : b < cnt c) {k : Nat} (hk : k < c.Rates.length) (out : List (List Int)) (hout : out.length ≤ 100) :
    loopU (beat_Case_b3 c (⟨c, 0, plN (wid c) (cnt c)⟩, 0) (run1 c 0 b).1 out (k : Int)) (([] : List Int), 0) = nxt (out ++ [caseR c b k (wid c)], ((k + 1 : Nat) : Int)) := by
  have hC := OkC.of hx
  have hw := hC.w
  have hn := hC.n
  have hh2 := hC.h2
  have k2 := hC.k2
  have wh : wr (c.Hours + 1) = (wid c : Int) := by rw [wr_id' (by omega) (by omega)]; omega
  have hN0 : 0 < cnt c := by simp only [cnt]; omega
  have hrun := loopU_run0 (body := beat_Case_b3 c (⟨c, 0, plN (wid c) (cnt c)⟩, 0) (run1 c 0 b).1 out (k : Int)) (fun h => (caseR c b k h, (h : Int))) (wid c) (fun h hh => by
    have hd : decide ((h : Int) < (wid c : Int)) = true := by simp; omega
    have wi : wr ((h : Int) + 1) = ((h + 1 : Nat) : Int) := wr_id' (by omega) (by omega)
    have hp : 1 + k * wid c + h < cnt c := slot_lt hk hh
    have m1 : (0 : Int) ≤ ((1 + k * wid c + h : Nat) : Int) ∧ ((1 + k * wid c + h : Nat) : Int) < ((66 : Nat) : Int) := by omega
    have m0 : (0 : Int) ≤ 0 ∧ (0 : Int) < ((66 : Nat) : Int) := by omega
    have b1 := mx_bound hx hcan hp hb
    have b0 := mx_bound hx hcan hN0 hb
    have e1 : (run1 c 0 b).1.getD (1 + k * wid c + h) 0 = mx c 0 (1 + k * wid c + h) b := rfl
    have e0 : (run1 c 0 b).1.getD 0 0 = mx c 0 0 b := rfl
    simp only [beat_Case_b3, wh, hd, cond_true, mget_nd hk hh, Option.getD_some, m1, and_self, if_true, beat_truth, bind_s, mget_tr, m0, Int.toNat_natCast, Int.toNat_zero, e1, e0, wi]
    rw [wr_id' (by omega) (by omega), if_pos (by simp only [caseR, List.length_map, List.length_range, List.length_cons, List.length_nil, lim]; omega)]
    simp [caseR, List.range_succ])
  refine hrun.trans (loopU_ext ?_)
  have hd : decide ((wid c : Int) < (wid c : Int)) = false := by simp
  have wi : wr ((k : Int) + 1) = ((k + 1 : Nat) : Int) := wr_id' (by omega) (by omega)
  simp only [beat_Case_b3, wh, hd, cond_false, wi]
  rw [if_pos (by simp only [List.length_cons, List.length_nil, lim]; omega)]
theorem case_k1_eq {c : BeatCellar} (hx : goodB c = true) (hcan : Can c 0) {b : Nat} (hb : b < cnt c) : beat_Case_k1 c (⟨c, 0, plN (wid c) (cnt c)⟩, 0) (run1 c 0 b).1 = some (caseL c b, 0) := by
  have hC := OkC.of hx
  have k2 := hC.k2
  unfold beat_Case_k1
  have hrun := loopU_run0 (body := beat_Case_b2 c (⟨c, 0, plN (wid c) (cnt c)⟩, 0) (run1 c 0 b).1) (fun k => (caseN c b k, (k : Int))) c.Rates.length (fun k hk => by
    have hd : decide ((k : Int) < (c.Rates.length : Int)) = true := by simp; omega
    simp only [beat_Case_b2, hd, cond_true]
    rw [case_b3_eq hx hcan hb hk _ (by simp only [caseN, List.length_map, List.length_range]; omega)]
    simp [caseN, List.range_succ])
  refine hrun.trans (loopU_ext ?_)
  have hd : decide ((c.Rates.length : Int) < (c.Rates.length : Int)) = false := by simp
  simp only [beat_Case_b2, hd, cond_false]
  rfl
theorem Case_eq (c : BeatCellar) (hc : Ok_BeatCellar c) (k h : Int) (g : Bool) : beat_Case c k h g = some (if goodB c = true then if spotB c k h = true then if canB c 0 = true then (caseL c (if g = true then 0 else nd c k h), 0) else ([], 22) else ([], 21) else ([], 20)) := by
  unfold beat_Case
  simp only [isSpot_eq c hc, bind_s, asked_eq c hc]
  cases hx : goodB c with
  | false => rfl
  | true =>
    cases hs : spotB c k h with
    | false => rfl
    | true =>
      cases hb : canB c 0 with
      | false => rfl
      | true =>
        have hcan := (canB_iff hx 0).1 hb
        obtain ⟨h1, h2, h3⟩ := spotB_ok hs
        have c0 : ((0 : Int) != 0) = false := by decide
        have hN0 : 0 < cnt c := by simp only [cnt]; omega
        simp only [if_true, c0, cond_false, beat_truth, bind_s, above_eq c hx 0 _ (spot_t c), noOf_t]
        have e0 := case_k1_eq hx hcan hN0
        have e1 := case_k1_eq hx hcan h2
        unfold run1 at e0 e1
        cases g with
        | true => simp only [Bool.not_true, cond_false, if_true]; exact e0
        | false =>
          simp only [Bool.not_false, cond_true, above_eq c hx 0 _ h1, h3, bind_s, Bool.false_eq_true, if_false]
          exact e1
theorem caseL_shape (c : BeatCellar) (b : Nat) : shapeB c (caseL c b) = true := by
  simp [shapeB, caseL, caseN, caseR]
theorem caseL_off {c : BeatCellar} (b : Nat) {k h : Nat} (hk : k < c.Rates.length) (hh : h < wid c) : off (caseL c b) k h = mx c 0 (1 + k * wid c + h) b - mx c 0 0 b := by
  obtain ⟨h1, h2, h3⟩ := off_get (caseL_shape c b) hk hh
  rw [h3]
  simp [caseL, caseN, caseR]
theorem caseL_truth {c : BeatCellar} (hx : goodB c = true) (hcan : Can c 0) {b : Nat} (hb : b < cnt c) : Fits c 0 (off (caseL c b)) 0 := by
  obtain ⟨hf, h0⟩ := top_case hx hcan hb
  have h1 : Fits c 0 (fun k h => mx c 0 (nd c k h) b) (mx c 0 0 b) := hf
  have h2 : Fits c 0 (fun k h => mx c 0 (nd c k h) b - mx c 0 0 b) 0 := by
    refine ⟨fun k hk h hh => ?_, fun p hp hl => ?_, fun k hk h hh => ?_⟩
    · have := h1.g k hk h hh
      try dsimp only at this ⊢
      omega
    · have := h1.r p hp hl
      by_cases ho : p.Other ≥ 0
      · simp only [ho, if_true] at this ⊢; omega
      · simp only [ho, if_false] at this ⊢; omega
    · have := h1.b k hk h hh
      try dsimp only at this ⊢
      omega
  refine h2.congr hx rfl (fun k h hk hh => ?_)
  rw [caseL_off b hk hh]
  simp [nd]
def bestF (w : Nat → Int) : Nat → Int × Int
  | 0 => (0, 0)
  | n + 1 => if n = 0 ∨ w n < (bestF w n).2 then ((n : Int), w n) else bestF w n
def wOf (c : BeatCellar) (h : Int) (k : Nat) : Int := (told c 0 (nd c k h) 0).High - (told c 0 (nd c k h) 0).Low
theorem wOf_nonneg {c : BeatCellar} (hx : goodB c = true) (hcan : Can c 0) {k : Nat} (hk : k < c.Rates.length) {h : Int} (h0 : 0 ≤ h) (h1 : h ≤ c.Hours) : 0 ≤ wOf c h k ∧ wOf c h k ≤ 400000 := by
  obtain ⟨x, hf⟩ := hcan
  have hn := nd_lt (c := c) (k := k) (h := h) (by omega) (by omega) h0 h1
  have hN0 : 0 < cnt c := by simp only [cnt]; omega
  have := told_in hx hf hn hN0
  have b1 := mx_bound hx ⟨x, hf⟩ hn hN0
  have b2 := mx_bound hx ⟨x, hf⟩ hN0 hn
  have e1 : (told c 0 (nd c k h) 0).High = mx c 0 (nd c k h) 0 := rfl
  have e2 : (told c 0 (nd c k h) 0).Low = -mx c 0 0 (nd c k h) := rfl
  unfold wOf
  omega
theorem Best_eq (c : BeatCellar) (hc : Ok_BeatCellar c) (h : Int) : beat_Best c h = some (if goodB c = true then if inB h 0 c.Hours = true then if canB c 0 = true then ((bestF (wOf c h) c.Rates.length).1, (bestF (wOf c h) c.Rates.length).2, 0) else (0, 0, 22) else (0, 0, 21) else (0, 0, 20)) := by
  unfold beat_Best
  simp only [lies_eq, bind_s, asked_eq c hc]
  cases hx : goodB c with
  | false => rfl
  | true =>
    cases hs : inB h 0 c.Hours with
    | false => rfl
    | true =>
      cases hb : canB c 0 with
      | false => rfl
      | true =>
        have hcan := (canB_iff hx 0).1 hb
        have hC := OkC.of hx
        have k2 := hC.k2
        simp only [inB, Bool.and_eq_true, decide_eq_true_eq] at hs
        have c0 : ((0 : Int) != 0) = false := by decide
        simp only [if_true, c0, cond_false]
        have hrun := loopU_run0 (body := beat_Best_b1 c h (⟨c, 0, plN (wid c) (cnt c)⟩, 0)) (fun k => ((bestF (wOf c h) k).1, (bestF (wOf c h) k).2, (k : Int))) c.Rates.length (fun k hk => by
          have hd : decide ((k : Int) < (c.Rates.length : Int)) = true := by simp; omega
          have wi : wr ((k : Int) + 1) = ((k + 1 : Nat) : Int) := wr_id' (by omega) (by omega)
          have hsp : spotB c (k : Int) h = true := by simp only [spotB, inB, Bool.and_eq_true, decide_eq_true_eq]; omega
          obtain ⟨h1, h2, h3⟩ := spotB_ok hsp
          have hwb := wOf_nonneg hx hcan hk hs.1 hs.2
          simp only [beat_Best_b1, hd, cond_true, beat_truth, bind_s, between_eq hx hcan h1 (spot_t c), h3, noOf_t, beat_Best_2, beat_Best_1, wi]
          have ew : wr ((told c 0 (nd c k h) 0).High - (told c 0 (nd c k h) 0).Low) = wOf c h k := wr_id' (by unfold wOf at hwb; omega) (by unfold wOf at hwb; omega)
          rw [ew]
          simp only [bestF]
          by_cases hk0 : k = 0
          · subst hk0; rfl
          · have e1 : ((k : Int) == 0) = false := by simp; omega
            rw [e1, Bool.false_or]
            by_cases hlt : wOf c h k < (bestF (wOf c h) k).2
            · rw [decide_eq_true hlt, cond_true, if_pos (Or.inr hlt)]
            · rw [decide_eq_false hlt, cond_false, if_neg (by rintro (h | h); exact hk0 h; exact hlt h)])
        refine hrun.trans (loopU_ext ?_)
        have hd : decide ((c.Rates.length : Int) < (c.Rates.length : Int)) = false := by simp
        simp only [beat_Best_b1, hd, cond_false]
def cands (K : Nat) : Nat → Nat → List Int × Int → List (List Int × Int)
  | 0, _, p => [p]
  | n + 1, i, p => (List.range' i (K - i)).flatMap fun k => cands K n (k + 1) (p.1 ++ [(k : Int)], bitsOp .or p.2 (gshl 1 (k : Int)))
def allc (K : Nat) : List (List Int × Int) := (List.range (K + 1)).flatMap fun m => cands K m 0 ([], 0)
def wres (c : BeatCellar) (n i : Nat) (p : List Int × Int) : List Int × Bool :=
  match (cands c.Rates.length n i p).find? (fun q => canB c q.2) with
  | some q => (q.1, true)
  | none => (if n = 0 then p.1 else [], false)
theorem loopU_none {σ ρ : Type} {body : σ → Option (σ ⊕ ρ)} {s : σ} (h : body s = none) : loopU body s = none := by rw [loopU_eq, h]
theorem wrong_loop {c : BeatCellar} (hC : OkC c) (l : List Int) (hl : l.length ≤ 10) (set many : Int) (self : List Int → Int → Int → BeatCellar → Option (List Int × Bool)) (g : Nat → Option (List Int × Int)) (none' : Nat → List Int) (B : Prop) (i0 : Nat)
    (hself : ∀ k : Nat, i0 ≤ k → k < c.Rates.length → (self (l ++ [(k : Int)]) (bitsOp .or set (gshl 1 (k : Int))) many c = none ∧ B) ∨
      self (l ++ [(k : Int)]) (bitsOp .or set (gshl 1 (k : Int))) many c = some (match g k with | some q => (q.1, true) | none => (none' k, false))) :
    ∀ (m i : Nat), i0 ≤ i → i + m = c.Rates.length → (loopU (beat_Wrong_1_b2 l set many c self) (([] : List Int), false, (i : Int)) = none ∧ B) ∨
      loopU (beat_Wrong_1_b2 l set many c self) (([] : List Int), false, (i : Int)) = some (match (List.range' i m).findSome? g with | some q => (q.1, true) | none => (([] : List Int), false)) := by
  intro m
  have k2 := hC.k2
  induction m with
  | zero =>
    intro i hi0 hi
    right
    have hd : decide ((i : Int) < (c.Rates.length : Int)) = false := by simp; omega
    exact loopU_ext (by simp only [beat_Wrong_1_b2, hd, cond_false]; rfl)
  | succ m ih =>
    intro i hi0 hi
    have hd : decide ((i : Int) < (c.Rates.length : Int)) = true := by simp; omega
    have wi : wr ((i : Int) + 1) = ((i + 1 : Nat) : Int) := wr_id' (by omega) (by omega)
    have hlim : l.length + ([(i : Int)]).length ≤ lim := by simp only [List.length_cons, List.length_nil, lim]; omega
    have hneg : ¬ (i : Int) < 0 := by omega
    have hb : ∀ r, self (l ++ [(i : Int)]) (bitsOp .or set (gshl 1 (i : Int))) many c = r → beat_Wrong_1_b2 l set many c self (([] : List Int), false, (i : Int)) = r.bind fun rv_2 => cond rv_2.2 (ext (some (rv_2.1, true))) (nxt (([] : List Int), false, ((i + 1 : Nat) : Int))) := by
      intro r hr
      simp only [beat_Wrong_1_b2, hd, cond_true, hr, wi]
      rw [if_pos hlim, if_pos hneg]
    rcases hself i hi0 (by omega) with ⟨h, hB⟩ | h
    · left
      exact ⟨loopU_none (by rw [hb _ h]; rfl), hB⟩
    · rw [List.range'_succ, List.findSome?_cons]
      cases hg : g i with
      | some q =>
        rw [hg] at h
        right
        exact loopU_ext (by rw [hb _ h]; rfl)
      | none =>
        rw [hg] at h
        have := ih (i + 1) (by omega) (by omega)
        rw [loopU_nxt (s' := (([] : List Int), false, ((i + 1 : Nat) : Int))) (by rw [hb _ h]; rfl)]
        exact this
theorem wrong_n (c : BeatCellar) (hx : goodB c = true) (many : Nat) : ∀ (N n : Nat) (l : List Int) (set : Int) (i : Nat), l.length + n = many → l.length ≤ i → i ≤ c.Rates.length →
    (l = [] → i = 0) → (∀ h : 0 < l.length, l[l.length - 1]'(by omega) + 1 = (i : Int)) →
    (beat_Wrong_1_n N l set (many : Int) c = none ∧ N ≤ n) ∨ beat_Wrong_1_n N l set (many : Int) c = some (wres c n i (l, set))
  | 0, n, l, set, i, h1, h2, h3, h4, h5 => Or.inl ⟨rfl, by omega⟩
  | N + 1, n, l, set, i, h1, h2, h3, h4, h5 => by
    have hC := OkC.of hx
    have k2 := hC.k2
    cases n with
    | zero =>
      right
      have e : ((l.length : Int) == (many : Int)) = true := by simp; omega
      simp only [beat_Wrong_1_n, beat_Wrong_1_step, e, cond_true, opened_eq' hx, bind_s, can_eq hx, wres, cands, List.find?_cons, List.find?_nil]
      cases canB c set <;> rfl
    | succ n =>
      have e : ((l.length : Int) == (many : Int)) = false := by simp; omega
      have hmain := wrong_loop hC l (by omega) set (many : Int) (beat_Wrong_1_n N) (fun k => (cands c.Rates.length n (k + 1) (l ++ [(k : Int)], bitsOp .or set (gshl 1 (k : Int)))).find? fun q => canB c q.2)
        (fun k => if n = 0 then l ++ [(k : Int)] else []) (N + 1 ≤ n + 1) i (fun k hik hk => by
          rcases wrong_n c hx many N n (l ++ [(k : Int)]) (bitsOp .or set (gshl 1 (k : Int))) (k + 1) (by simp; omega) (by simp; omega) (by omega) (by simp) (by intro h; simp) with ⟨h, hle⟩ | h
          · exact Or.inl ⟨h, by omega⟩
          · right; rw [h]; rfl) (c.Rates.length - i) i (Nat.le_refl _) (by omega)
      have hstep : beat_Wrong_1_n (N + 1) l set (many : Int) c = loopU (beat_Wrong_1_b2 l set (many : Int) c (beat_Wrong_1_n N)) (([] : List Int), false, (i : Int)) := by
        simp only [beat_Wrong_1_n, beat_Wrong_1_step, e, cond_false, beat_Wrong_1_k1]
        by_cases hl0 : l = []
        · have := h4 hl0
          subst hl0; subst this
          simp
        · have hlen : 0 < l.length := List.length_pos_iff.2 hl0
          have hd : decide ((l.length : Int) > 0) = true := by simp; omega
          have wl : wr ((l.length : Int) - 1) = ((l.length - 1 : Nat) : Int) := by rw [wr_id' (by omega) (by omega)]; omega
          have hi : l.length - 1 < l.length := by omega
          simp only [hd, cond_true, wl, idx_get hi, bind_s]
          rw [h5 hlen, wr_id' (by omega) (by omega)]
      rw [hstep]
      have hw : (match (List.range' i (c.Rates.length - i)).findSome? (fun k => (cands c.Rates.length n (k + 1) (l ++ [(k : Int)], bitsOp .or set (gshl 1 (k : Int)))).find? fun q => canB c q.2) with | some q => (q.1, true) | none => (([] : List Int), false)) = wres c (n + 1) i (l, set) := by
        unfold wres
        simp only [cands, List.find?_flatMap]
        rfl
      rw [hw] at hmain
      exact hmain
theorem wrong_1_eq (c : BeatCellar) (hx : goodB c = true) (many : Nat) : beat_Wrong_1 [] 0 (many : Int) c = some (wres c many 0 ([], 0)) := by
  have h := fun N => wrong_n c hx many N many [] 0 0 (by simp) (by simp) (by omega) (by simp) (by simp)
  unfold beat_Wrong_1
  refine limU_of (n := many + 1) ?_ ?_
  · rcases h (many + 1) with ⟨_, h⟩ | h
    · omega
    · exact h
  · intro N s hs
    rcases h N with ⟨h1, _⟩ | h1
    · rw [h1] at hs; cases hs
    · rw [h1] at hs; injection hs with hs; exact hs.symm
def wrongF (c : BeatCellar) : Option (List Int × Int) := (allc c.Rates.length).find? fun q => canB c q.2
theorem Wrong_eq (c : BeatCellar) (hc : Ok_BeatCellar c) : beat_Wrong c = some (if goodB c = true then (match wrongF c with | some q => (q.1, (0 : Int)) | none => ([], 22)) else ([], 20)) := by
  unfold beat_Wrong
  simp only [beat_Check_eq c hc, bind_s]
  cases hx : goodB c with
  | false => rfl
  | true =>
    have hC := OkC.of hx
    have k2 := hC.k2
    have c0 : ((0 : Int) != 0) = false := by decide
    have wK : wr ((c.Rates.length : Int) + 1) = ((c.Rates.length + 1 : Nat) : Int) := wr_id' (by omega) (by omega)
    simp only [if_true, c0, cond_false]
    have key : ∀ (m i : Nat), i + m = c.Rates.length + 1 → loopU (beat_Wrong_b1 c) (([] : List Int), 0, (i : Int)) =
        some (match (List.range' i m).findSome? (fun m => (cands c.Rates.length m 0 ([], 0)).find? fun q => canB c q.2) with | some q => (q.1, (0 : Int)) | none => (([] : List Int), 22)) := by
      intro m
      induction m with
      | zero =>
        intro i hi
        have hd : decide ((i : Int) < ((c.Rates.length + 1 : Nat) : Int)) = false := by simp; omega
        exact loopU_ext (by simp only [beat_Wrong_b1, wK, hd, cond_false]; rfl)
      | succ m ih =>
        intro i hi
        have hd : decide ((i : Int) < ((c.Rates.length + 1 : Nat) : Int)) = true := by simp; omega
        have wi : wr ((i : Int) + 1) = ((i + 1 : Nat) : Int) := wr_id' (by omega) (by omega)
        have hb : beat_Wrong_b1 c (([] : List Int), 0, (i : Int)) = cond (wres c i 0 ([], 0)).2 (ext (some ((wres c i 0 ([], 0)).1, 0))) (nxt (([] : List Int), 0, ((i + 1 : Nat) : Int))) := by
          simp only [beat_Wrong_b1, wK, hd, cond_true, wrong_1_eq c hx, bind_s, wi]
        rw [List.range'_succ, List.findSome?_cons]
        unfold wres at hb
        cases hg : (cands c.Rates.length i 0 ([], 0)).find? (fun q => canB c q.2) with
        | some q =>
          rw [hg] at hb
          exact loopU_ext hb
        | none =>
          rw [hg] at hb
          rw [loopU_nxt hb]
          exact ih (i + 1) (by omega)
    have := key (c.Rates.length + 1) 0 (by omega)
    rw [Int.natCast_zero] at this
    rw [this]
    unfold wrongF allc
    rw [List.find?_flatMap, List.range_eq_range']
def listN (s : Int) (n : Nat) : List Int := ((List.range n).filter fun (k : Nat) => inSetB s (k : Int)).map fun (k : Nat) => (k : Int)
def fst2 : List Int → List Int → Nat
  | x :: xs, y :: ys => if x = y then fst2 xs ys + 1 else 0
  | [], _ => 0
  | _ :: _, [] => 0
theorem First_eq (a b : List Int) (ha : (a.length : Int) ≤ 9223372036854775807) : r0First a b = some (fst2 a b : Int) := by
  have key : ∀ (m i : Nat), i + m = a.length → loopU (r0First_b1 a b) (i : Int) = some ((i + fst2 (a.drop i) (b.drop i) : Nat) : Int) := by
    intro m
    induction m with
    | zero =>
      intro i hi
      have hd : decide ((i : Int) < (a.length : Int)) = false := by simp; omega
      have e : a.drop i = [] := List.drop_of_length_le (by omega)
      rw [e]
      refine loopU_ext ?_
      simp only [r0First_b1, hd, Bool.false_and, cond_false, bind_s, fst2, Nat.add_zero]
    | succ m ih =>
      intro i hi
      have hia : i < a.length := by omega
      have hd : decide ((i : Int) < (a.length : Int)) = true := by simp; omega
      have wi : wr ((i : Int) + 1) = ((i + 1 : Nat) : Int) := wr_id' (by omega) (by omega)
      by_cases hib : i < b.length
      · have hd2 : decide ((i : Int) < (b.length : Int)) = true := by simp; omega
        rw [← List.getElem_cons_drop hia, ← List.getElem_cons_drop hib]
        by_cases he : a[i] = b[i]
        · rw [loopU_nxt (s' := ((i + 1 : Nat) : Int)) (by
            simp only [r0First_b1, hd, hd2, Bool.and_self, cond_true, idx_get hia, idx_get hib, bind_s, he, beq_self_eq_true, wi]), ih (i + 1) (by omega)]
          simp only [fst2, he, if_true]
          congr 2; omega
        · have hbe : (a[i] == b[i]) = false := by simpa using he
          refine loopU_ext ?_
          simp only [r0First_b1, hd, hd2, Bool.and_self, cond_true, idx_get hia, idx_get hib, bind_s, hbe, cond_false, fst2, he, if_false, Nat.add_zero]
      · have hd2 : decide ((i : Int) < (b.length : Int)) = false := by simp; omega
        have e : b.drop i = [] := List.drop_of_length_le (by omega)
        rw [e, ← List.getElem_cons_drop hia]
        refine loopU_ext ?_
        simp only [r0First_b1, hd, hd2, Bool.and_false, cond_false, bind_s, fst2, Nat.add_zero]
  have := key a.length 0 (by omega)
  simpa [r0First] using this
theorem fst2_all : ∀ (a b : List Int), a.length = b.length → (fst2 a b = a.length ↔ a = b)
  | [], [], _ => by simp [fst2]
  | [], _ :: _, h => by simp at h
  | _ :: _, [], h => by simp at h
  | x :: xs, y :: ys, h => by
    have ih := fst2_all xs ys (by simpa using h)
    simp only [fst2, List.length_cons, List.cons.injEq]
    split
    · next e => rw [Nat.add_right_cancel_iff, ih]; simp [e]
    · next e => simp [e]
theorem Alike_eq (a b : List Int) (ha : (a.length : Int) ≤ 9223372036854775807) : r0Alike a b = some (decide (a = b)) := by
  unfold r0Alike
  simp only [First_eq a b ha, bind_s]
  by_cases hl : a.length = b.length
  · have e : ((a.length : Int) == (b.length : Int)) = true := by simp; omega
    rw [e, cond_true, bind_s]
    congr 1
    rw [Bool.eq_iff_iff]
    simp only [beq_iff_eq, decide_eq_true_eq]
    rw [← fst2_all a b hl]; omega
  · have e : ((a.length : Int) == (b.length : Int)) = false := by simp; omega
    rw [e, cond_false, bind_s]
    have : a ≠ b := fun h => hl (by rw [h])
    simp [this]
def aheadB (a b : List Int) : Bool := if fst2 a b < a.length ∧ fst2 a b < b.length then decide (a.getD (fst2 a b) 0 < b.getD (fst2 a b) 0) else decide (a.length < b.length)
def precB (a b : List Int) : Bool := decide (a.length < b.length) || (decide (a.length = b.length) && aheadB a b)
def pos (K : Nat) (s : Int) : Nat := (allc K).findIdx fun q => q.2 == s
def factsB (K : Nat) : Bool :=
  decide (((allc K).map (·.2)).Nodup) && ((allc K).all fun q => decide (0 ≤ q.2 ∧ q.2 < 2 ^ K ∧ q.1 = listN q.2 K)) && ((List.range (2 ^ K)).all fun i => ((allc K).map (·.2)).contains (i : Int)) &&
  ((List.range (2 ^ K)).all fun i => (List.range (2 ^ K)).all fun j => precB (listN (i : Int) K) (listN (j : Int) K) == decide (pos K i < pos K j))
structure Facts (K : Nat) : Prop where
  nd : ((allc K).map (·.2)).Nodup
  mem : ∀ q ∈ allc K, 0 ≤ q.2 ∧ q.2 < 2 ^ K ∧ q.1 = listN q.2 K
  all : ∀ i : Nat, i < 2 ^ K → (listN (i : Int) K, (i : Int)) ∈ allc K
  prec : ∀ i j : Nat, i < 2 ^ K → j < 2 ^ K → precB (listN (i : Int) K) (listN (j : Int) K) = decide (pos K i < pos K j)
theorem Facts.ofB {K : Nat} (h : factsB K = true) : Facts K := by
  simp only [factsB, Bool.and_eq_true, decide_eq_true_eq, List.all_eq_true, List.mem_range, beq_iff_eq, List.contains_iff_mem] at h
  obtain ⟨⟨⟨h1, h2⟩, h3⟩, h4⟩ := h
  refine ⟨h1, h2, fun i hi => ?_, fun i j hi hj => h4 i hi j hj⟩
  obtain ⟨q, hq, e⟩ := List.mem_map.1 (h3 i hi)
  have := (h2 q hq).2.2
  rw [e] at this
  have e2 : q = (listN (i : Int) K, (i : Int)) := by rw [← this, ← e]
  rwa [← e2]
end Go.Proofs.YtpniidbbbhbglaaDoor.Rt
