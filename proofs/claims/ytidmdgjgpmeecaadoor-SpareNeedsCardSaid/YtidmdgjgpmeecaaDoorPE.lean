/- Plain laws of the spare seat: the fewest, how far, which are needed, pairs: the program's and the reference's. Under the conditions that each names. -/
import Derived.Test.YtidmdgjgpmeecaaDoorPD
set_option linter.unusedVariables false
set_option linter.unusedSimpArgs false
set_option maxRecDepth 100000
set_option maxHeartbeats 4000000
namespace Go.Proofs.YtidmdgjgpmeecaaDoor.Rt
open Go Go.RowKit

/-! ## the reference's lists -/
theorem farL_map (s : SpareStore) (m : Nat) : farL s m = (List.range m).map (far s) := by
  refine List.ext_getElem? fun i => ?_
  by_cases h : i < m
  · rw [farL_get s h, List.getElem?_map, List.getElem?_range h]; rfl
  · rw [List.getElem?_eq_none (by rw [farL_len]; omega), List.getElem?_eq_none (by simp; omega)]
def mapL (f : Nat → Int) (m : Nat) : List Int := (List.range m).map f
theorem mapL_len (f : Nat → Int) (m : Nat) : (mapL f m).length = m := by simp [mapL]
theorem mapL_idx (f : Nat → Int) {t m : Nat} (h : t < m) : idx (mapL f m) (t : Int) = some (f t) := idx_nat (by simp [mapL, h])
theorem mapL_succ (f : Nat → Int) (m : Nat) : mapL f (m + 1) = mapL f m ++ [f m] := by simp [mapL, List.range_succ]

theorem max_if {a b : Int} : (if a > b then a else b) = (if b < a then a else b) := rfl
theorem gain_of {x : SpareMachine} (hx : OkM x) {len b : Int} (h : 0 < len) : decide (b ≥ (if wr (x.From + x.Warm) > 0 then wr (x.From + x.Warm) else 0)) = gainB x len b := by
  have := hx.f1; have := hx.f2; have := hx.w1; have := hx.w2
  rw [wr_id' (by omega) (by omega)]
  unfold gainB
  have : decide (0 < len) = true := by simpa using h
  rw [this, Bool.true_and]
  congr 1
  apply propext
  split <;> omega
theorem gain_no {x : SpareMachine} {len b : Int} (h : ¬ 0 < len) : gainB x len b = false := by
  unfold gainB; rw [show decide (0 < len) = false by simpa using h]; rfl

theorem rfar_eq {s : SpareStore} (hs : OkS s) : remontoirref08_far s = some (mapL (far s) (2 ^ s.Machines.length)) := by
  have hn := hs.n2; have hp := pow_n hn; have h1 := pow1 s.Machines.length
  unfold remontoirref08_far
  have h := loopU_run0 (body := remontoirref08_far_b1 s) (fun i => (mapL (far s) (i + 1), ((i + 1 : Nat) : Int))) (2 ^ s.Machines.length - 1) (fun i hi => by
    have ht8 : i + 1 < 256 := by omega
    simp only [remontoirref08_far_b1]
    rw [if_pos (by omega), shl_n hs, lt_t (show i + 1 < 2 ^ s.Machines.length by omega), cond_true]
    have hin := loopU_run0 (body := remontoirref08_far_b2 s (mapL (far s) (i + 1)) ((i + 1 : Nat) : Int)) (fun k => ((bestOf s (stintF s.Gap) (far s) (i + 1) (-1) k).1, (k : Int))) s.Machines.length (fun k hk => by
      have hM := hs.mach hk
      have wi : wr ((k : Int) + 1) = ((k + 1 : Nat) : Int) := wr_id' (by omega) (by omega)
      simp only [remontoirref08_far_b2, lt_t hk, cond_true, idx_mach hk, bind_s, In_eq _ (show (0 : Int) ≤ (k : Int) by omega), inS ht8 (show k < 8 by omega), rstint_eq hM hs.g1 hs.g2, wi]
      rw [bestOf_succ]
      generalize bestOf s (stintF s.Gap) (far s) (i + 1) (-1) k = p
      cases hb : (i + 1).testBit k with
      | false =>
        have hst : stepK s (stintF s.Gap) (far s) (i + 1) p k = p := by unfold stepK candB; rw [hb, if_neg (by simp)]
        simp only [hst, cond_false, bind_s]
      | true =>
        have hd := dec_sub (i + 1) ht8 k (by omega) hb
        have hp2 := Nat.two_pow_pos k
        simp only [cond_true, bind_s]
        by_cases hl : 0 < stintF s.Gap (mach s k)
        · rw [show decide (stintF s.Gap (mach s k) > 0) = true by simpa using hl, cond_true, if_pos (by omega)]
          have hbd := far_bd hs (t := i + 1 - 2 ^ k) (by omega)
          have hl2 := Int.le_trans (stint_le (g := s.Gap) _) (last_le hM)
          rw [show gshl 1 (k : Int) = ((2 ^ k : Nat) : Int) from dec_shl k (by omega), wr_id' (by omega) (by omega), show ((i + 1 : Nat) : Int) - ((2 ^ k : Nat) : Int) = ((i + 1 - 2 ^ k : Nat) : Int) by omega, mapL_idx _ (by omega)]
          simp only [bind_s, gain_of hM hl]
          rw [wr_id' (by omega) (by omega)]
          unfold stepK candB valF
          rw [hb, Bool.true_and]
          cases hg : gainB (mach s k) (stintF s.Gap (mach s k)) (far s (i + 1 - 2 ^ k)) with
          | false => simp
          | true =>
            simp only [cond_true, true_and]
            split <;> first | rfl | (split <;> first | rfl | omega)
        · have hst : stepK s (stintF s.Gap) (far s) (i + 1) p k = p := by unfold stepK candB; rw [gain_no hl, Bool.and_false, if_neg (by simp)]
          rw [show decide (stintF s.Gap (mach s k) > 0) = false by simpa using hl, cond_false, hst])
    refine (show loopU (remontoirref08_far_b2 s (mapL (far s) (i + 1)) ((i + 1 : Nat) : Int)) (-1, 0) = _ from hin).trans (loopU_ext ?_)
    have wi : wr (((i + 1 : Nat) : Int) + 1) = ((i + 1 + 1 : Nat) : Int) := wr_id' (by omega) (by omega)
    simp only [remontoirref08_far_b2, lt_f, cond_false, wi]
    rw [if_pos (by rw [mapL_len]; simp only [List.length_singleton, lim]; omega)]
    have hf := far_eq s (i + 1)
    rw [show b0F (i + 1) = -1 from rfl] at hf
    rw [mapL_succ (far s) (i + 1), ← hf])
  have e0 : mapL (far s) (0 + 1) = [0] := by simp [mapL, far_zero, List.range_succ]
  rw [e0] at h
  refine Eq.trans h (loopU_ext ?_)
  have e1 : 2 ^ s.Machines.length - 1 + 1 = 2 ^ s.Machines.length := by omega
  simp only [remontoirref08_far_b1, e1]
  rw [if_pos (by omega), shl_n hs, lt_f, cond_false]

theorem told_eq {s : SpareStore} (hs : OkS s) : remontoirref08_told s = some (mapL (tell s) (2 ^ s.Machines.length)) := by
  have hn := hs.n2; have hp := pow_n hn; have h1 := pow1 s.Machines.length
  unfold remontoirref08_told
  rw [rfar_eq hs]
  simp only [bind_s]
  have h := loopU_run0 (body := remontoirref08_told_b1 s (mapL (far s) (2 ^ s.Machines.length))) (fun i => (mapL (tell s) i, (i : Int))) (2 ^ s.Machines.length) (fun i hi => by
    have ht8 : i < 256 := by omega
    simp only [remontoirref08_told_b1, mapL_len]
    rw [lt_t hi, cond_true]
    have hin := loopU_run0 (body := remontoirref08_told_b2 s (mapL (far s) (2 ^ s.Machines.length)) (mapL (tell s) i) (i : Int)) (fun k => ((bestOf s lastF (far s) i 0 k).1, (k : Int))) s.Machines.length (fun k hk => by
      have hM := hs.mach hk
      have wi : wr ((k : Int) + 1) = ((k + 1 : Nat) : Int) := wr_id' (by omega) (by omega)
      simp only [remontoirref08_told_b2, lt_t hk, cond_true, idx_mach hk, bind_s, In_eq _ (show (0 : Int) ≤ (k : Int) by omega), inS ht8 (show k < 8 by omega), rlast_eq hM, wi]
      rw [bestOf_succ]
      generalize bestOf s lastF (far s) i 0 k = p
      cases hb : i.testBit k with
      | false =>
        have hst : stepK s lastF (far s) i p k = p := by unfold stepK candB; rw [hb, if_neg (by simp)]
        simp only [hst, cond_false, bind_s]
      | true =>
        have hd := dec_sub i ht8 k (by omega) hb
        have hp2 := Nat.two_pow_pos k
        simp only [cond_true, bind_s]
        by_cases hl : 0 < lastF (mach s k)
        · rw [show decide (lastF (mach s k) > 0) = true by simpa using hl, cond_true, if_pos (by omega)]
          have hbd := far_bd hs (t := i - 2 ^ k) (by omega)
          have hl2 := last_le hM
          rw [show gshl 1 (k : Int) = ((2 ^ k : Nat) : Int) from dec_shl k (by omega), wr_id' (by omega) (by omega), show (i : Int) - ((2 ^ k : Nat) : Int) = ((i - 2 ^ k : Nat) : Int) by omega, mapL_idx _ (by omega)]
          simp only [bind_s, gain_of hM hl]
          rw [wr_id' (by omega) (by omega)]
          unfold stepK candB valF
          rw [hb, Bool.true_and]
          cases hg : gainB (mach s k) (lastF (mach s k)) (far s (i - 2 ^ k)) with
          | false => simp
          | true =>
            simp only [cond_true, true_and]
            split <;> first | rfl | (split <;> first | rfl | omega)
        · have hst : stepK s lastF (far s) i p k = p := by unfold stepK candB; rw [gain_no hl, Bool.and_false, if_neg (by simp)]
          rw [show decide (lastF (mach s k) > 0) = false by simpa using hl, cond_false, hst])
    refine (show loopU (remontoirref08_told_b2 s (mapL (far s) (2 ^ s.Machines.length)) (mapL (tell s) i) (i : Int)) (0, 0) = _ from hin).trans (loopU_ext ?_)
    have wi : wr ((i : Int) + 1) = ((i + 1 : Nat) : Int) := wr_id' (by omega) (by omega)
    simp only [remontoirref08_told_b2, lt_f, cond_false, wi]
    rw [if_pos (by rw [mapL_len]; simp only [List.length_singleton, lim]; omega), mapL_succ]
    rfl)
  refine Eq.trans h (loopU_ext ?_)
  simp only [remontoirref08_told_b1, mapL_len, lt_f, cond_false]

/-! ## all sets within one -/
def visit (all : Nat) : Nat → Nat → List Nat
  | 0, _ => []
  | f + 1, t => if t = 0 then [] else t :: visit all f ((t - 1) &&& all)
theorem visit_dec : ∀ all < 256, visit all 256 all = (List.range (all + 1)).reverse.filter fun u => u &&& all == u && u != 0 := by decide +kernel
theorem mem_visit {all t : Nat} (h : all < 256) : t ∈ visit all 256 all ↔ t ≠ 0 ∧ t &&& all = t := by
  rw [visit_dec all h]
  simp only [List.mem_filter, List.mem_reverse, List.mem_range, Bool.and_eq_true, beq_iff_eq, bne_iff_ne]
  constructor
  · rintro ⟨_, a, b⟩; exact ⟨b, a⟩
  · rintro ⟨a, b⟩
    have := @Nat.and_le_right t all
    exact ⟨by omega, b, a⟩
theorem visit_next {all t : Nat} (ht : t &&& all = t) (h0 : t ≠ 0) : (t - 1) &&& all ≤ t - 1 ∧ ((t - 1) &&& all) &&& all = (t - 1) &&& all := by
  refine ⟨Nat.and_le_left, ?_⟩
  rw [Nat.and_assoc, Nat.and_self]
theorem loop_visit {σ ρ : Type} {body : σ × Int → Option ((σ × Int) ⊕ ρ)} {f : σ → Nat → σ} {fin : σ → Option ρ} {all : Nat} (hall : all < 256) (Inv : σ → Prop)
    (hI : ∀ st t, Inv st → t ≠ 0 → t ≤ all → t &&& all = t → Inv (f st t))
    (hstep : ∀ st t, Inv st → t ≠ 0 → t ≤ all → t &&& all = t → body (st, (t : Int)) = nxt (f st t, bitsOp .and (wr ((t : Int) - 1)) (all : Int))) (hend : ∀ st, Inv st → body (st, 0) = ext (fin st)) :
    ∀ (F t : Nat) (st : σ), t < F → t ≤ all → t &&& all = t → Inv st → loopU body (st, (t : Int)) = fin ((visit all F t).foldl f st)
  | 0, _, _, h, _, _, _ => by omega
  | F + 1, t, st, h, h1, h2, h3 => by
    unfold visit
    by_cases h0 : t = 0
    · subst h0; rw [if_pos rfl]; exact loopU_ext (hend st h3)
    · rw [if_neg h0, loopU_nxt (hstep st t h3 h0 h1 h2), wr_id' (by omega) (by omega), show (t : Int) - 1 = ((t - 1 : Nat) : Int) by omega, band _ _ (by omega)]
      obtain ⟨a, b⟩ := visit_next h2 h0
      exact loop_visit hall Inv hI hstep hend F _ _ (by omega) (by omega) b (hI st t h3 h0 h1 h2)

/-! ## the fewest -/
def minF (p : Nat → Bool) (m : Nat) : Int := (List.range m).foldl (fun b t => if p t = true then min b (popc t : Int) else b) 100
theorem minF_succ (p : Nat → Bool) (m : Nat) : minF p (m + 1) = if p m = true then min (minF p m) (popc m : Int) else minF p m := by simp [minF, List.range_succ]
theorem minF_spec (p : Nat → Bool) (m : Nat) (hm : m ≤ 256) : (minF p m = 100 ∧ ∀ t < m, p t = false) ∨ (minF p m ≤ 8 ∧ (∃ t < m, p t = true ∧ minF p m = (popc t : Int)) ∧ ∀ t < m, p t = true → minF p m ≤ (popc t : Int)) := by
  induction m with
  | zero => exact .inl ⟨rfl, fun t h => by omega⟩
  | succ m ih =>
    have hp := (dec_pop0 m (by omega)).2
    rw [minF_succ]
    cases hb : p m with
    | false =>
      simp only [Bool.false_eq_true, if_false]
      rcases ih (by omega) with ⟨a, b⟩ | ⟨a, ⟨t, c, d, e⟩, f⟩
      · refine .inl ⟨a, fun t ht => ?_⟩
        rcases Nat.lt_succ_iff_lt_or_eq.1 ht with h | rfl
        · exact b t h
        · exact hb
      · refine .inr ⟨a, ⟨t, by omega, d, e⟩, fun t ht htp => ?_⟩
        rcases Nat.lt_succ_iff_lt_or_eq.1 ht with h | rfl
        · exact f t h htp
        · rw [hb] at htp; cases htp
    | true =>
      simp only [if_true]
      right
      rcases ih (by omega) with ⟨a, b⟩ | ⟨a, ⟨t, c, d, e⟩, f⟩
      · refine ⟨by omega, ⟨m, by omega, hb, by omega⟩, fun t ht htp => ?_⟩
        rcases Nat.lt_succ_iff_lt_or_eq.1 ht with h | rfl
        · rw [b t h] at htp; cases htp
        · omega
      · refine ⟨by omega, ?_, fun t ht htp => ?_⟩
        · by_cases hlt : minF p m ≤ (popc m : Int)
          · exact ⟨t, by omega, d, by omega⟩
          · exact ⟨m, by omega, hb, by omega⟩
        · rcases Nat.lt_succ_iff_lt_or_eq.1 ht with h | rfl
          · have := f t h htp; omega
          · omega
theorem minF_congr {p q : Nat → Bool} {m : Nat} (h : ∀ t < m, p t = q t) : minF p m = minF q m := by
  induction m with
  | zero => rfl
  | succ m ih => rw [minF_succ, minF_succ, ih (fun t ht => h t (by omega)), h m (by omega)]
/-- a set of the fewest, or 0 -/
def IsFew (p : Nat → Bool) (m b : Nat) : Prop := (b = 0 ∧ ∀ t < m, p t = false) ∨ (b ≠ 0 ∧ b < m ∧ p b = true ∧ ∀ t < m, p t = true → popc b ≤ popc t)
theorem IsFew.min {p : Nat → Bool} {m b : Nat} (hm : m ≤ 256) (h : IsFew p m b) : minF p m = if b = 0 then 100 else (popc b : Int) := by
  rcases minF_spec p m hm with ⟨a, c⟩ | ⟨a, ⟨t, d, e, f⟩, g⟩ <;> rcases h with ⟨rfl, k⟩ | ⟨k, l, n, o⟩
  · rw [if_pos rfl, a]
  · rw [c b l] at n; cases n
  · rw [k t d] at e; cases e
  · rw [if_neg k]
    have h1 := g b l n
    have h2 := o t d e
    omega

def fewStep (s : SpareStore) (best t : Nat) : Nat := if s.Hours ≤ tell s t ∧ (best = 0 ∨ popc t < popc best) then t else best
theorem few_fold (s : SpareStore) (L : List Nat) : ∀ (seen : List Nat) (b : Nat), (∀ t ∈ seen ++ L, t ≠ 0) → ((b = 0 ∧ ∀ t ∈ seen, tell s t < s.Hours) ∨ (b ∈ seen ∧ s.Hours ≤ tell s b ∧ ∀ t ∈ seen, s.Hours ≤ tell s t → popc b ≤ popc t)) →
    let r := L.foldl (fewStep s) b
    (r = 0 ∧ ∀ t ∈ seen ++ L, tell s t < s.Hours) ∨ (r ∈ seen ++ L ∧ s.Hours ≤ tell s r ∧ ∀ t ∈ seen ++ L, s.Hours ≤ tell s t → popc r ≤ popc t) := by
  induction L with
  | nil => intro seen b _ h; simpa using h
  | cons x L ih =>
    intro seen b h0 h
    have hx0 : x ≠ 0 := h0 x (by simp)
    have := ih (seen ++ [x]) (fewStep s b x) (by simpa using h0) (by
      unfold fewStep
      by_cases hc : s.Hours ≤ tell s x ∧ (b = 0 ∨ popc x < popc b)
      · rw [if_pos hc]
        refine .inr ⟨by simp, hc.1, fun t ht hh => ?_⟩
        rcases List.mem_append.1 ht with ht | ht
        · rcases h with ⟨_, h⟩ | ⟨h1, h2, h3⟩
          · have := h t ht; omega
          · have h4 := h3 t ht hh
            rcases hc.2 with e | e
            · exact absurd e (h0 b (by simp [h1]))
            · omega
        · rw [List.mem_singleton.1 ht]; exact Nat.le_refl _
      · rw [if_neg hc]
        rcases h with ⟨rfl, h⟩ | ⟨h1, h2, h3⟩
        · refine .inl ⟨rfl, fun t ht => ?_⟩
          rcases List.mem_append.1 ht with ht | ht
          · exact h t ht
          · rw [List.mem_singleton.1 ht]; exact Int.not_le.1 fun hh => hc ⟨hh, .inl rfl⟩
        · refine .inr ⟨by simp [h1], h2, fun t ht hh => ?_⟩
          rcases List.mem_append.1 ht with ht | ht
          · exact h3 t ht hh
          · rw [List.mem_singleton.1 ht] at hh ⊢
            exact Nat.not_lt.1 fun hl => hc ⟨hh, .inr hl⟩)
    simpa using this
/-- is a set within another one, and enough? -/
def enoughB (s : SpareStore) (all t : Nat) : Bool := t &&& all == t && decide (s.Hours ≤ tell s t)
theorem fewest_eq {s : SpareStore} (hs : OkS s) {x : spare_store} (hx : Full s x) {all : Nat} (hall : all < 2 ^ s.Machines.length) :
    ∃ b : Nat, spare_store_fewest x (all : Int) = some (b : Int) ∧ IsFew (enoughB s all) (2 ^ s.Machines.length) b := by
  have hp := pow_n hs.n2
  have ha8 : all < 256 := by omega
  unfold spare_store_fewest
  have h := loop_visit (body := spare_store_fewest_b1 x (all : Int)) (f := fun (st : Int) t => (fewStep s st.toNat t : Int)) (fin := fun st => some st) ha8 (fun st => ∃ b : Nat, st = (b : Int) ∧ b < 256)
    (fun st t ⟨b, e, hb⟩ _ h1 _ => ⟨fewStep s b t, by subst e; rfl, by unfold fewStep; split <;> omega⟩) (fun st t ⟨b, e, hb⟩ h0 h1 h2 => by
      subst e
      have hd : decide ((t : Int) > 0) = true := by simp; omega
      have ht8 : t < 256 := by omega
      simp only [spare_store_fewest_b1, hd, cond_true, ends_eq hs hx (show t < 2 ^ s.Machines.length by omega), bind_s, hx.st, Int.toNat_natCast, countE ht8, countE hb]
      unfold fewStep
      have hsame : (tell s t ≥ s.Hours) = (s.Hours ≤ tell s t) := rfl
      simp only [hsame]
      by_cases hh : s.Hours ≤ tell s t
      · rw [show decide (s.Hours ≤ tell s t) = true by simpa using hh]
        by_cases hb0 : b = 0
        · subst hb0
          rw [if_pos ⟨hh, .inl rfl⟩]; rfl
        · have hbz : ((b : Int) == 0) = false := by simp; omega
          rw [hbz]
          simp only [cond_true, cond_false, bind_s]
          by_cases hl : popc t < popc b
          · rw [if_pos ⟨hh, .inr hl⟩, show decide ((popc t : Int) < (popc b : Int)) = true by simp; omega]; rfl
          · rw [if_neg (by rintro ⟨_, h | h⟩; exact hb0 h; exact hl h), show decide ((popc t : Int) < (popc b : Int)) = false by simp; omega]; rfl
      · rw [show decide (s.Hours ≤ tell s t) = false by simpa using hh, if_neg (fun h => hh h.1)]; rfl)
    (fun st _ => rfl) 256 all 0 ha8 (Nat.le_refl _) (Nat.and_self _) ⟨0, rfl, by decide⟩
  rw [show ((0 : Int), (all : Int)) = (0, (all : Int)) from rfl] at h
  have hcast : ∀ (L : List Nat) (b : Nat), L.foldl (fun (st : Int) t => (fewStep s st.toNat t : Int)) (b : Int) = ((L.foldl (fewStep s) b : Nat) : Int) := by
    intro L
    induction L with
    | nil => intro b; rfl
    | cons a L ih => intro b; simp only [List.foldl_cons, Int.toNat_natCast]; exact ih _
  have hc0 := hcast (visit all 256 all) 0
  rw [Int.natCast_zero] at hc0
  rw [hc0] at h
  refine ⟨_, h, ?_⟩
  have hv := few_fold s (visit all 256 all) [] 0 (fun t ht => ((mem_visit ha8).1 (by simpa using ht)).1) (.inl ⟨rfl, fun t ht => by simp at ht⟩)
  simp only [List.nil_append] at hv
  have h1s := hs.h1
  have hle : ∀ t, t &&& all = t → t < 2 ^ s.Machines.length := fun t ht => by have := @Nat.and_le_right t all; omega
  rcases hv with ⟨a, b⟩ | ⟨a, b, c⟩
  · refine .inl ⟨a, fun t ht => ?_⟩
    unfold enoughB
    by_cases hz : t = 0
    · subst hz; rw [tell_zero]; simp; omega
    · by_cases hm : t &&& all = t
      · have := b t ((mem_visit ha8).2 ⟨hz, hm⟩)
        simp; intro _; omega
      · simp [hm]
  · have hm := (mem_visit ha8).1 a
    refine .inr ⟨hm.1, hle _ hm.2, by simp [enoughB, hm.2, b], fun t ht hte => ?_⟩
    simp only [enoughB, Bool.and_eq_true, beq_iff_eq, decide_eq_true_eq] at hte
    refine c t ((mem_visit ha8).2 ⟨?_, hte.1⟩) hte.2
    rintro rfl; rw [tell_zero] at hte; omega

theorem enough_eq {s : SpareStore} (hs : OkS s) {x : spare_store} (hx : Full s x) {all : Nat} (hall : all < 2 ^ s.Machines.length) (h : Int) : spare_store_enough x (all : Int) h = some ((visit all 256 all).any fun t => decide (h ≤ tell s t)) := by
  have hp := pow_n hs.n2
  have ha8 : all < 256 := by omega
  unfold spare_store_enough
  have key : ∀ (F t : Nat), t < F → t ≤ all → t &&& all = t → loopU (spare_store_enough_b1 x (all : Int) h) (false, (t : Int)) = some ((visit all F t).any fun t => decide (h ≤ tell s t)) := by
    intro F
    induction F with
    | zero => intro t h; omega
    | succ F ih =>
      intro t h1 h2 h3
      unfold visit
      by_cases h0 : t = 0
      · subst h0; rw [if_pos rfl]; exact loopU_ext rfl
      · rw [if_neg h0, List.any_cons]
        have hd : decide ((t : Int) > 0) = true := by simp; omega
        have hb : spare_store_enough_b1 x (all : Int) h (false, (t : Int)) = cond (decide (h ≤ tell s t)) (ext (some true)) (nxt (false, (((t - 1) &&& all : Nat) : Int))) := by
          simp only [spare_store_enough_b1, hd, cond_true, ends_eq hs hx (show t < 2 ^ s.Machines.length by omega), bind_s]
          rw [wr_id' (by omega) (by omega), show (t : Int) - 1 = ((t - 1 : Nat) : Int) by omega, band _ _ (by omega)]
        obtain ⟨a, b⟩ := visit_next h3 h0
        cases hc : decide (h ≤ tell s t) with
        | true => rw [hc] at hb; rw [loopU_ext hb]; rfl
        | false => rw [hc] at hb; rw [loopU_nxt hb, ih _ (by omega) (by omega) b]; rfl
  exact key 256 all ha8 (Nat.le_refl _) (Nat.and_self _)
def listN (s : Int) (n : Nat) : List Int := ((List.range n).filter fun (k : Nat) => inSetB s (k : Int)).map fun (k : Nat) => (k : Int)
theorem listN_len (s : Int) (n : Nat) : (listN s n).length ≤ n := by
  have := List.length_filter_le (fun k : Nat => inSetB s (k : Int)) (List.range n)
  simp only [listN, List.length_map, List.length_range] at this ⊢
  exact this
theorem List_eq (s : Int) (n : Nat) (hn : n ≤ 1000) : remontoirref00_List s (n : Int) = some (listN s n) := by
  unfold remontoirref00_List
  have hrun := loopU_run0 (body := remontoirref00_List_b1 s (n : Int)) (fun k => (listN s k, (k : Int))) n (fun k hk => by
    have wi : wr ((k : Int) + 1) = ((k + 1 : Nat) : Int) := wr_id' (by omega) (by omega)
    have hl := listN_len s k
    simp only [remontoirref00_List_b1, lt_t hk, cond_true, In_eq s (show (0 : Int) ≤ (k : Int) by omega), bind_s, wi]
    have hlim : (listN s k).length + ([(k : Int)]).length ≤ lim := by simp only [List.length_cons, List.length_nil, lim]; omega
    have e : listN s (k + 1) = if inSetB s (k : Int) = true then listN s k ++ [(k : Int)] else listN s k := by
      unfold listN
      rw [List.range_succ, List.filter_append, List.map_append]
      cases h : inSetB s (k : Int) <;> simp [List.filter_cons, h]
    rw [e, if_pos hlim]
    cases inSetB s (k : Int) <;> rfl)
  refine hrun.trans (loopU_ext ?_)
  simp only [remontoirref00_List_b1, lt_f, cond_false]
theorem listN_pop {t : Nat} (ht : t < 256) : (listN (t : Int) 8).length = popc t := by
  unfold listN popc
  rw [List.length_map]
  congr 1
  refine List.filter_congr fun k hk => ?_
  exact inS ht (List.mem_range.1 hk)
theorem rfewest_eq {s : SpareStore} (hs : OkS s) (h : Int) {all : Nat} (hall : all < 256) :
    remontoirref08_fewest (mapL (tell s) (2 ^ s.Machines.length)) h (all : Int) = some (minF (fun t => t &&& all == t && decide (h ≤ tell s t)) (2 ^ s.Machines.length)) := by
  have hp := pow_n hs.n2
  unfold remontoirref08_fewest
  have hr := loopU_run0 (body := remontoirref08_fewest_b1 (mapL (tell s) (2 ^ s.Machines.length)) h (all : Int)) (fun i => (minF (fun t => t &&& all == t && decide (h ≤ tell s t)) i, (i : Int))) (2 ^ s.Machines.length) (fun i hi => by
    have ht8 : i < 256 := by omega
    have wi : wr ((i : Int) + 1) = ((i + 1 : Nat) : Int) := wr_id' (by omega) (by omega)
    simp only [remontoirref08_fewest_b1, mapL_len, lt_t hi, cond_true, band i all ht8, mapL_idx _ hi, bind_s, List_eq (i : Int) 8 (by decide), wi, listN_pop ht8]
    rw [minF_succ]
    have he : (((i &&& all : Nat) : Int) == (i : Int)) = (i &&& all == i) := by
      by_cases h : i &&& all = i
      · rw [h]; simp
      · rw [show (i &&& all == i) = false by simpa using h]; simp; omega
    have hl : remontoirref00_List (i : Int) 8 = some (listN (i : Int) 8) := List_eq (i : Int) 8 (by decide)
    rw [he, hl]
    simp only [bind_s, listN_pop ht8]
    cases hc : (i &&& all == i) with
    | false => simp
    | true =>
      simp only [cond_true, bind_s, Bool.true_and]
      cases hd : decide (h ≤ tell s i) with
      | false => rfl
      | true =>
        simp only [cond_true, if_true]
        congr 2
        split <;> omega)
  refine hr.trans (loopU_ext ?_)
  simp only [remontoirref08_fewest_b1, mapL_len, lt_f, cond_false]
end Go.Proofs.YtidmdgjgpmeecaaDoor.Rt
