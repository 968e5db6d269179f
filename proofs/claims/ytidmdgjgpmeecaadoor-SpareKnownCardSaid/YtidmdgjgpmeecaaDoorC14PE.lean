/- Plain laws of the spare seat: the fewest, how far, which are needed, pairs: the program's and the reference's. Under the conditions that each names. -/
import Derived.Test.YtidmdgjgpmeecaaDoorC14PD
set_option linter.unusedVariables false
set_option linter.unusedSimpArgs false
set_option maxRecDepth 100000
set_option maxHeartbeats 4000000
namespace Go.Proofs.YtidmdgjgpmeecaaDoor.Rt
open Go Go.RowKit
def visit (all : Nat) : Nat → Nat → List Nat
  | 0, _ => []
  | f + 1, t => if t = 0 then [] else t :: visit all f ((t - 1) &&& all)
theorem visit_dec : ∀ all < 256, visit all 256 all = (List.range (all + 1)).reverse.filter fun u => u &&& all == u && u != 0 := by decide +kernel
theorem mem_visit {all t : Nat} (h : all < 256) : t ∈ visit all 256 all ↔ t ≠ 0 ∧ t &&& all = t := by
  rw [visit_dec all h]
  simp only [List.mem_filter, List.mem_reverse, List.mem_range, Bool.and_eq_true, beq_iff_eq, bne_iff_ne]
  constructor
  · rintro ⟨_, a, b⟩; exact ⟨b, a⟩
  · rintro ⟨a, b⟩
    have := @Nat.and_le_right t all
    exact ⟨by omega, b, a⟩
theorem visit_next {all t : Nat} (ht : t &&& all = t) (h0 : t ≠ 0) : (t - 1) &&& all ≤ t - 1 ∧ ((t - 1) &&& all) &&& all = (t - 1) &&& all := by
  refine ⟨Nat.and_le_left, ?_⟩
  rw [Nat.and_assoc, Nat.and_self]
theorem loop_visit {σ ρ : Type} {body : σ × Int → Option ((σ × Int) ⊕ ρ)} {f : σ → Nat → σ} {fin : σ → Option ρ} {all : Nat} (hall : all < 256) (Inv : σ → Prop)
    (hI : ∀ st t, Inv st → t ≠ 0 → t ≤ all → t &&& all = t → Inv (f st t))
    (hstep : ∀ st t, Inv st → t ≠ 0 → t ≤ all → t &&& all = t → body (st, (t : Int)) = nxt (f st t, bitsOp .and (wr ((t : Int) - 1)) (all : Int))) (hend : ∀ st, Inv st → body (st, 0) = ext (fin st)) :
    ∀ (F t : Nat) (st : σ), t < F → t ≤ all → t &&& all = t → Inv st → loopU body (st, (t : Int)) = fin ((visit all F t).foldl f st)
  | 0, _, _, h, _, _, _ => by omega
  | F + 1, t, st, h, h1, h2, h3 => by
    unfold visit
    by_cases h0 : t = 0
    · subst h0; rw [if_pos rfl]; exact loopU_ext (hend st h3)
    · rw [if_neg h0, loopU_nxt (hstep st t h3 h0 h1 h2), wr_id' (by omega) (by omega), show (t : Int) - 1 = ((t - 1 : Nat) : Int) by omega, band _ _ (by omega)]
      obtain ⟨a, b⟩ := visit_next h2 h0
      exact loop_visit hall Inv hI hstep hend F _ _ (by omega) (by omega) b (hI st t h3 h0 h1 h2)
def minF (p : Nat → Bool) (m : Nat) : Int := (List.range m).foldl (fun b t => if p t = true then min b (popc t : Int) else b) 100
theorem minF_succ (p : Nat → Bool) (m : Nat) : minF p (m + 1) = if p m = true then min (minF p m) (popc m : Int) else minF p m := by simp [minF, List.range_succ]
theorem minF_spec (p : Nat → Bool) (m : Nat) (hm : m ≤ 256) : (minF p m = 100 ∧ ∀ t < m, p t = false) ∨ (minF p m ≤ 8 ∧ (∃ t < m, p t = true ∧ minF p m = (popc t : Int)) ∧ ∀ t < m, p t = true → minF p m ≤ (popc t : Int)) := by
  induction m with
  | zero => exact .inl ⟨rfl, fun t h => by omega⟩
  | succ m ih =>
    have hp := (dec_pop0 m (by omega)).2
    rw [minF_succ]
    cases hb : p m with
    | false =>
      simp only [Bool.false_eq_true, if_false]
      rcases ih (by omega) with ⟨a, b⟩ | ⟨a, ⟨t, c, d, e⟩, f⟩
      · refine .inl ⟨a, fun t ht => ?_⟩
        rcases Nat.lt_succ_iff_lt_or_eq.1 ht with h | rfl
        · exact b t h
        · exact hb
      · refine .inr ⟨a, ⟨t, by omega, d, e⟩, fun t ht htp => ?_⟩
        rcases Nat.lt_succ_iff_lt_or_eq.1 ht with h | rfl
        · exact f t h htp
        · rw [hb] at htp; cases htp
    | true =>
      simp only [if_true]
      right
      rcases ih (by omega) with ⟨a, b⟩ | ⟨a, ⟨t, c, d, e⟩, f⟩
      · refine ⟨by omega, ⟨m, by omega, hb, by omega⟩, fun t ht htp => ?_⟩
        rcases Nat.lt_succ_iff_lt_or_eq.1 ht with h | rfl
        · rw [b t h] at htp; cases htp
        · omega
      · refine ⟨by omega, ?_, fun t ht htp => ?_⟩
        · by_cases hlt : minF p m ≤ (popc m : Int)
          · exact ⟨t, by omega, d, by omega⟩
          · exact ⟨m, by omega, hb, by omega⟩
        · rcases Nat.lt_succ_iff_lt_or_eq.1 ht with h | rfl
          · have := f t h htp; omega
          · omega
theorem minF_congr {p q : Nat → Bool} {m : Nat} (h : ∀ t < m, p t = q t) : minF p m = minF q m := by
  induction m with
  | zero => rfl
  | succ m ih => rw [minF_succ, minF_succ, ih (fun t ht => h t (by omega)), h m (by omega)]
def IsFew (p : Nat → Bool) (m b : Nat) : Prop := (b = 0 ∧ ∀ t < m, p t = false) ∨ (b ≠ 0 ∧ b < m ∧ p b = true ∧ ∀ t < m, p t = true → popc b ≤ popc t)
theorem IsFew.min {p : Nat → Bool} {m b : Nat} (hm : m ≤ 256) (h : IsFew p m b) : minF p m = if b = 0 then 100 else (popc b : Int) := by
  rcases minF_spec p m hm with ⟨a, c⟩ | ⟨a, ⟨t, d, e, f⟩, g⟩ <;> rcases h with ⟨rfl, k⟩ | ⟨k, l, n, o⟩
  · rw [if_pos rfl, a]
  · rw [c b l] at n; cases n
  · rw [k t d] at e; cases e
  · rw [if_neg k]
    have h1 := g b l n
    have h2 := o t d e
    omega
def fewStep (s : SpareStore) (best t : Nat) : Nat := if s.Hours ≤ tell s t ∧ (best = 0 ∨ popc t < popc best) then t else best
theorem few_fold (s : SpareStore) (L : List Nat) : ∀ (seen : List Nat) (b : Nat), (∀ t ∈ seen ++ L, t ≠ 0) → ((b = 0 ∧ ∀ t ∈ seen, tell s t < s.Hours) ∨ (b ∈ seen ∧ s.Hours ≤ tell s b ∧ ∀ t ∈ seen, s.Hours ≤ tell s t → popc b ≤ popc t)) →
    let r := L.foldl (fewStep s) b
    (r = 0 ∧ ∀ t ∈ seen ++ L, tell s t < s.Hours) ∨ (r ∈ seen ++ L ∧ s.Hours ≤ tell s r ∧ ∀ t ∈ seen ++ L, s.Hours ≤ tell s t → popc r ≤ popc t) := by
  induction L with
  | nil => intro seen b _ h; simpa using h
  | cons x L ih =>
    intro seen b h0 h
    have hx0 : x ≠ 0 := h0 x (by simp)
    have := ih (seen ++ [x]) (fewStep s b x) (by simpa using h0) (by
      unfold fewStep
      by_cases hc : s.Hours ≤ tell s x ∧ (b = 0 ∨ popc x < popc b)
      · rw [if_pos hc]
        refine .inr ⟨by simp, hc.1, fun t ht hh => ?_⟩
        rcases List.mem_append.1 ht with ht | ht
        · rcases h with ⟨_, h⟩ | ⟨h1, h2, h3⟩
          · have := h t ht; omega
          · have h4 := h3 t ht hh
            rcases hc.2 with e | e
            · exact absurd e (h0 b (by simp [h1]))
            · omega
        · rw [List.mem_singleton.1 ht]; exact Nat.le_refl _
      · rw [if_neg hc]
        rcases h with ⟨rfl, h⟩ | ⟨h1, h2, h3⟩
        · refine .inl ⟨rfl, fun t ht => ?_⟩
          rcases List.mem_append.1 ht with ht | ht
          · exact h t ht
          · rw [List.mem_singleton.1 ht]; exact Int.not_le.1 fun hh => hc ⟨hh, .inl rfl⟩
        · refine .inr ⟨by simp [h1], h2, fun t ht hh => ?_⟩
          rcases List.mem_append.1 ht with ht | ht
          · exact h3 t ht hh
          · rw [List.mem_singleton.1 ht] at hh ⊢
            exact Nat.not_lt.1 fun hl => hc ⟨hh, .inr hl⟩)
    simpa using this
def enoughB (s : SpareStore) (all t : Nat) : Bool := t &&& all == t && decide (s.Hours ≤ tell s t)
theorem fewest_eq {s : SpareStore} (hs : OkS s) {x : spare_store} (hx : Full s x) {all : Nat} (hall : all < 2 ^ s.Machines.length) :
    ∃ b : Nat, spare_store_fewest x (all : Int) = some (b : Int) ∧ IsFew (enoughB s all) (2 ^ s.Machines.length) b := by
  have hp := pow_n hs.n2
  have ha8 : all < 256 := by omega
  unfold spare_store_fewest
  have h := loop_visit (body := spare_store_fewest_b1 x (all : Int)) (f := fun (st : Int) t => (fewStep s st.toNat t : Int)) (fin := fun st => some st) ha8 (fun st => ∃ b : Nat, st = (b : Int) ∧ b < 256)
    (fun st t ⟨b, e, hb⟩ _ h1 _ => ⟨fewStep s b t, by subst e; rfl, by unfold fewStep; split <;> omega⟩) (fun st t ⟨b, e, hb⟩ h0 h1 h2 => by
      subst e
      have hd : decide ((t : Int) > 0) = true := by simp; omega
      have ht8 : t < 256 := by omega
      simp only [spare_store_fewest_b1, hd, cond_true, ends_eq hs hx (show t < 2 ^ s.Machines.length by omega), bind_s, hx.st, Int.toNat_natCast, countE ht8, countE hb]
      unfold fewStep
      have hsame : (tell s t ≥ s.Hours) = (s.Hours ≤ tell s t) := rfl
      simp only [hsame]
      by_cases hh : s.Hours ≤ tell s t
      · rw [show decide (s.Hours ≤ tell s t) = true by simpa using hh]
        by_cases hb0 : b = 0
        · subst hb0
          rw [if_pos ⟨hh, .inl rfl⟩]; rfl
        · have hbz : ((b : Int) == 0) = false := by simp; omega
          rw [hbz]
          simp only [cond_true, cond_false, bind_s]
          by_cases hl : popc t < popc b
          · rw [if_pos ⟨hh, .inr hl⟩, show decide ((popc t : Int) < (popc b : Int)) = true by simp; omega]; rfl
          · rw [if_neg (by rintro ⟨_, h | h⟩; exact hb0 h; exact hl h), show decide ((popc t : Int) < (popc b : Int)) = false by simp; omega]; rfl
      · rw [show decide (s.Hours ≤ tell s t) = false by simpa using hh, if_neg (fun h => hh h.1)]; rfl)
    (fun st _ => rfl) 256 all 0 ha8 (Nat.le_refl _) (Nat.and_self _) ⟨0, rfl, by decide⟩
  rw [show ((0 : Int), (all : Int)) = (0, (all : Int)) from rfl] at h
  have hcast : ∀ (L : List Nat) (b : Nat), L.foldl (fun (st : Int) t => (fewStep s st.toNat t : Int)) (b : Int) = ((L.foldl (fewStep s) b : Nat) : Int) := by
    intro L
    induction L with
    | nil => intro b; rfl
    | cons a L ih => intro b; simp only [List.foldl_cons, Int.toNat_natCast]; exact ih _
  have hc0 := hcast (visit all 256 all) 0
  rw [Int.natCast_zero] at hc0
  rw [hc0] at h
  refine ⟨_, h, ?_⟩
  have hv := few_fold s (visit all 256 all) [] 0 (fun t ht => ((mem_visit ha8).1 (by simpa using ht)).1) (.inl ⟨rfl, fun t ht => by simp at ht⟩)
  simp only [List.nil_append] at hv
  have h1s := hs.h1
  have hle : ∀ t, t &&& all = t → t < 2 ^ s.Machines.length := fun t ht => by have := @Nat.and_le_right t all; omega
  rcases hv with ⟨a, b⟩ | ⟨a, b, c⟩
  · refine .inl ⟨a, fun t ht => ?_⟩
    unfold enoughB
    by_cases hz : t = 0
    · subst hz; rw [tell_zero]; simp; omega
    · by_cases hm : t &&& all = t
      · have := b t ((mem_visit ha8).2 ⟨hz, hm⟩)
        simp; intro _; omega
      · simp [hm]
  · have hm := (mem_visit ha8).1 a
    refine .inr ⟨hm.1, hle _ hm.2, by simp [enoughB, hm.2, b], fun t ht hte => ?_⟩
    simp only [enoughB, Bool.and_eq_true, beq_iff_eq, decide_eq_true_eq] at hte
    refine c t ((mem_visit ha8).2 ⟨?_, hte.1⟩) hte.2
    rintro rfl; rw [tell_zero] at hte; omega
theorem enough_eq {s : SpareStore} (hs : OkS s) {x : spare_store} (hx : Full s x) {all : Nat} (hall : all < 2 ^ s.Machines.length) (h : Int) : spare_store_enough x (all : Int) h = some ((visit all 256 all).any fun t => decide (h ≤ tell s t)) := by
  have hp := pow_n hs.n2
  have ha8 : all < 256 := by omega
  unfold spare_store_enough
  have key : ∀ (F t : Nat), t < F → t ≤ all → t &&& all = t → loopU (spare_store_enough_b1 x (all : Int) h) (false, (t : Int)) = some ((visit all F t).any fun t => decide (h ≤ tell s t)) := by
    intro F
    induction F with
    | zero => intro t h; omega
    | succ F ih =>
      intro t h1 h2 h3
      unfold visit
      by_cases h0 : t = 0
      · subst h0; rw [if_pos rfl]; exact loopU_ext rfl
      · rw [if_neg h0, List.any_cons]
        have hd : decide ((t : Int) > 0) = true := by simp; omega
        have hb : spare_store_enough_b1 x (all : Int) h (false, (t : Int)) = cond (decide (h ≤ tell s t)) (ext (some true)) (nxt (false, (((t - 1) &&& all : Nat) : Int))) := by
          simp only [spare_store_enough_b1, hd, cond_true, ends_eq hs hx (show t < 2 ^ s.Machines.length by omega), bind_s]
          rw [wr_id' (by omega) (by omega), show (t : Int) - 1 = ((t - 1 : Nat) : Int) by omega, band _ _ (by omega)]
        obtain ⟨a, b⟩ := visit_next h3 h0
        cases hc : decide (h ≤ tell s t) with
        | true => rw [hc] at hb; rw [loopU_ext hb]; rfl
        | false => rw [hc] at hb; rw [loopU_nxt hb, ih _ (by omega) (by omega) b]; rfl
  exact key 256 all ha8 (Nat.le_refl _) (Nat.and_self _)
end Go.Proofs.YtidmdgjgpmeecaaDoor.Rt
