/- Plain laws of the spare seat: how far a set of machines reaches; what the program remembers. Under the conditions that each names. -/
import Derived.Test.YtidmdgjgpmeecaaDoorC14PB
set_option linter.unusedVariables false
set_option linter.unusedSimpArgs false
set_option maxRecDepth 100000
set_option maxHeartbeats 4000000
namespace Go.Proofs.YtidmdgjgpmeecaaDoor.Rt
open Go Go.RowKit
def gainB (x : SpareMachine) (len b : Int) : Bool := decide (0 < len) && decide (max 0 (x.From + x.Warm) ≤ b)
def candB (s : SpareStore) (len : SpareMachine → Int) (f : Nat → Int) (t k : Nat) : Bool := t.testBit k && gainB (mach s k) (len (mach s k)) (f (t - 2 ^ k))
def valF (s : SpareStore) (len : SpareMachine → Int) (f : Nat → Int) (t k : Nat) : Int := f (t - 2 ^ k) + len (mach s k)
def stepK (s : SpareStore) (len : SpareMachine → Int) (f : Nat → Int) (t : Nat) (p : Int × Nat) (k : Nat) : Int × Nat :=
  if candB s len f t k = true ∧ p.1 < valF s len f t k then (valF s len f t k, k) else p
def bestOf (s : SpareStore) (len : SpareMachine → Int) (f : Nat → Int) (t : Nat) (b0 : Int) (m : Nat) : Int × Nat := (List.range m).foldl (stepK s len f t) (b0, 0)
theorem bestOf_succ (s : SpareStore) (len : SpareMachine → Int) (f : Nat → Int) (t : Nat) (b0 : Int) (m : Nat) : bestOf s len f t b0 (m + 1) = stepK s len f t (bestOf s len f t b0 m) m := by
  simp [bestOf, List.range_succ]
theorem bestOf_spec (s : SpareStore) (len : SpareMachine → Int) (f : Nat → Int) (t : Nat) (b0 : Int) (m : Nat) :
    b0 ≤ (bestOf s len f t b0 m).1 ∧ (∀ k < m, candB s len f t k = true → valF s len f t k ≤ (bestOf s len f t b0 m).1) ∧
    (bestOf s len f t b0 m = (b0, 0) ∨ ∃ k < m, bestOf s len f t b0 m = (valF s len f t k, k) ∧ candB s len f t k = true ∧ b0 < valF s len f t k) := by
  induction m with
  | zero => exact ⟨Int.le_refl _, fun k hk => by omega, .inl rfl⟩
  | succ m ih =>
    rw [bestOf_succ]
    unfold stepK
    obtain ⟨h1, h2, h3⟩ := ih
    split
    · rename_i hc
      refine ⟨by simp only; omega, fun k hk hck => ?_, .inr ⟨m, by omega, rfl, hc.1, by omega⟩⟩
      rcases Nat.lt_succ_iff_lt_or_eq.1 hk with hk | rfl
      · have := h2 k hk hck; simp only; omega
      · exact Int.le_refl _
    · rename_i hc
      refine ⟨h1, fun k hk hck => ?_, ?_⟩
      · rcases Nat.lt_succ_iff_lt_or_eq.1 hk with hk | rfl
        · exact h2 k hk hck
        · exact Int.not_lt.1 fun h => hc ⟨hck, h⟩
      · rcases h3 with h | ⟨k, hk, h⟩
        · exact .inl h
        · exact .inr ⟨k, by omega, h⟩
theorem bestOf_congr {s : SpareStore} {len : SpareMachine → Int} {f g : Nat → Int} {t : Nat} {b0 : Int} (h : ∀ u < t, f u = g u) (m : Nat) : bestOf s len f t b0 m = bestOf s len g t b0 m := by
  induction m with
  | zero => rfl
  | succ m ih =>
    rw [bestOf_succ, bestOf_succ, ih]
    unfold stepK candB valF
    cases hb : t.testBit m with
    | false => rw [if_neg (by simp), if_neg (by simp)]
    | true =>
      have : t - 2 ^ m < t := by
        have := Nat.ge_two_pow_of_testBit hb
        have := Nat.two_pow_pos m
        omega
      rw [h _ this]
def farL (s : SpareStore) : Nat → List Int
  | 0 => []
  | m + 1 => let l := farL s m; l ++ [(bestOf s (stintF s.Gap) (fun t => l.getD t 0) m (if m = 0 then 0 else -1) s.Machines.length).1]
def far (s : SpareStore) (t : Nat) : Int := (farL s (t + 1)).getD t 0
theorem farL_len (s : SpareStore) (m : Nat) : (farL s m).length = m := by
  induction m with
  | zero => rfl
  | succ m ih => simp [farL, ih]
theorem farL_get (s : SpareStore) {t m : Nat} (h : t < m) : (farL s m)[t]? = some (far s t) := by
  induction m with
  | zero => omega
  | succ m ih =>
    by_cases e : t < m
    · rw [← ih e]; simp only [farL]; rw [List.getElem?_append_left (by rw [farL_len]; exact e)]
    · obtain rfl : t = m := by omega
      unfold far
      rw [List.getD_eq_getElem?_getD]
      have : t < (farL s (t + 1)).length := by rw [farL_len]; omega
      rw [List.getElem?_eq_getElem this]; rfl
def b0F (t : Nat) : Int := if t = 0 then 0 else -1
theorem far_eq (s : SpareStore) (t : Nat) : far s t = (bestOf s (stintF s.Gap) (far s) t (b0F t) s.Machines.length).1 := by
  have h1 : far s t = (bestOf s (stintF s.Gap) (fun u => (farL s t).getD u 0) t (b0F t) s.Machines.length).1 := by
    have h := farL_get s (Nat.lt_succ_self t)
    simp only [farL] at h
    rw [List.getElem?_append_right (by rw [farL_len]; exact Nat.le_refl _), farL_len, Nat.sub_self] at h
    exact (Option.some.inj h).symm
  rw [h1, bestOf_congr]
  intro u hu
  simp only [List.getD_eq_getElem?_getD, farL_get s hu, Option.getD_some]
def farK (s : SpareStore) (t : Nat) : Nat := (bestOf s (stintF s.Gap) (far s) t (b0F t) s.Machines.length).2
theorem far_zero (s : SpareStore) : far s 0 = 0 := by
  rw [far_eq]
  have h := (bestOf_spec s (stintF s.Gap) (far s) 0 (b0F 0) s.Machines.length).2.2
  rcases h with h | ⟨k, _, _, hc, _⟩
  · rw [h]; rfl
  · simp [candB] at hc
theorem far_ge (s : SpareStore) (t : Nat) : -1 ≤ far s t := by
  rw [far_eq]
  have h := (bestOf_spec s (stintF s.Gap) (far s) t (b0F t) s.Machines.length).1
  have : -1 ≤ b0F t := by unfold b0F; split <;> decide
  omega
theorem far_case (s : SpareStore) (t : Nat) : (t = 0 ∧ far s t = 0) ∨ (t ≠ 0 ∧ far s t = -1) ∨ (farK s t < s.Machines.length ∧ candB s (stintF s.Gap) (far s) t (farK s t) = true ∧ far s t = valF s (stintF s.Gap) (far s) t (farK s t)) := by
  by_cases ht : t = 0
  · subst ht; exact .inl ⟨rfl, far_zero s⟩
  · have h := (bestOf_spec s (stintF s.Gap) (far s) t (b0F t) s.Machines.length).2.2
    rcases h with h | ⟨k, hk, h, hc, _⟩
    · refine .inr (.inl ⟨ht, ?_⟩); rw [far_eq, h]; simp [b0F, ht]
    · have e : farK s t = k := by unfold farK; rw [h]
      refine .inr (.inr ⟨by omega, by rw [e]; exact hc, ?_⟩); rw [e]; conv => lhs; rw [far_eq, h]
theorem far_le {s : SpareStore} (hs : OkS s) : ∀ t, t < 256 → far s t ≤ 500 * popc t := by
  intro t
  induction t using Nat.strongRecOn with
  | ind t ih =>
    intro ht
    rcases far_case s t with ⟨rfl, h⟩ | ⟨_, h⟩ | ⟨hk, hc, h⟩
    · rw [h]; omega
    · rw [h]; omega
    · rw [h]
      simp only [candB, Bool.and_eq_true] at hc
      have h1 := dec_sub t ht (farK s t) (by have := hs.n2; omega) hc.1
      have h2 := dec_pop t ht (farK s t) (by have := hs.n2; omega) hc.1
      have hp := Nat.two_pow_pos (farK s t)
      have h3 := ih (t - 2 ^ farK s t) (by omega) (by omega)
      have h4 := stint_le (g := s.Gap) (mach s (farK s t))
      have h5 := last_le (hs.mach hk)
      unfold valF; omega
theorem far_bd {s : SpareStore} (hs : OkS s) {t : Nat} (ht : t < 256) : -1 ≤ far s t ∧ far s t ≤ 4000 := by
  have := far_ge s t; have := far_le hs t ht; have := (dec_pop0 t ht).2; omega
def tellP (s : SpareStore) (t : Nat) : Int × Nat := bestOf s lastF (far s) t 0 s.Machines.length
def tell (s : SpareStore) (t : Nat) : Int := (tellP s t).1
theorem tell_up (s : SpareStore) {t k : Nat} (hk : k < s.Machines.length) (h : candB s lastF (far s) t k = true) : valF s lastF (far s) t k ≤ tell s t :=
  (bestOf_spec s lastF (far s) t 0 s.Machines.length).2.1 k hk h
theorem tell_case (s : SpareStore) (t : Nat) : tell s t = 0 ∨ ((tellP s t).2 < s.Machines.length ∧ candB s lastF (far s) t (tellP s t).2 = true ∧ tell s t = valF s lastF (far s) t (tellP s t).2) := by
  rcases (bestOf_spec s lastF (far s) t 0 s.Machines.length).2.2 with h | ⟨k, hk, h, hc, _⟩
  · left; unfold tell tellP; rw [h]
  · right
    have e : (tellP s t).2 = k := by unfold tellP; rw [h]
    refine ⟨by omega, by rw [e]; exact hc, ?_⟩
    rw [e]; unfold tell tellP; rw [h]
theorem tell_zero (s : SpareStore) : tell s 0 = 0 := by
  rcases tell_case s 0 with h | ⟨_, h, _⟩
  · exact h
  · simp [candB] at h
theorem kl_inj {a b : spare_some} (h : kl_88 a = kl_88 b) : a = b := by
  cases a; cases b
  simp only [kl_88, List.cons.injEq, and_true] at h
  simp [h.1, h.2]
deriving instance DecidableEq for spare_some
theorem mget_mput {V : Type} (m : List (spare_some × V)) (k k' : spare_some) (v : V) : mget kl_88 (mput kl_88 m k v) k' = if k' = k then some v else mget kl_88 m k' := by
  have hb : ∀ a b : spare_some, (kl_88 a == kl_88 b) = decide (a = b) := fun a b => by
    by_cases h : a = b
    · subst h; simp
    · have : kl_88 a ≠ kl_88 b := fun e => h (kl_inj e)
      simp [h, this]
  induction m with
  | nil =>
    simp only [mput, mget, hb]
    by_cases h : k' = k <;> simp [h]
  | cons p m ih =>
    simp only [mput, hb]
    by_cases h : k = p.1
    · simp only [h, decide_true, cond_true, mget, hb]
      by_cases h2 : k' = p.1 <;> simp [h2]
    · simp only [h, decide_false, cond_false, mget, hb, ih]
      by_cases h2 : k' = p.1
      · have : ¬ k' = k := fun e => h (by rw [← e, h2])
        simp [h2, this]
        intro e; exact absurd e.symm h
      · simp [h2]
def keyF (t : Nat) : spare_some := ⟨(t : Int), (popc t : Int)⟩
theorem keyF_inj {t u : Nat} (h : keyF t = keyF u) : t = u := by
  simp only [keyF, spare_some.mk.injEq] at h; omega
structure Mem (s : SpareStore) (m1 m2 : List (spare_some × Int)) : Prop where
  far : ∀ t v, mget kl_88 m1 (keyF t) = some v → v = Rt.far s t
  last : ∀ t, (mget kl_88 m1 (keyF t)).isSome = true → 0 < Rt.far s t → mget kl_88 m2 (keyF t) = some (farK s t : Int)
theorem follow_one {σ : Type} {s : SpareStore} (hs : OkS s) (st : spare_store) (hst : st.SpareStore = s) {way : Int} {len : SpareMachine → Int} (hway : 0 ≤ way ∧ way < ((2 : Nat) : Int)) (hlen0 : ∀ k < s.Machines.length, 0 ≤ len (mach s k) ∧ len (mach s k) ≤ 500)
    (hlen : ∀ k < s.Machines.length, tabf_0 way ⟨mach s k, s.Gap⟩ = some (len (mach s k))) {k : Nat} (hk : k < s.Machines.length) {b : Int} (hb : 0 ≤ b ∧ b ≤ 5000) (y : Int × Int → σ → Option σ) (s0 s1 : σ)
    (h1 : gainB (mach s k) (len (mach s k)) b = true → y ((k : Int), b + len (mach s k)) s0 = some s1) (h2 : gainB (mach s k) (len (mach s k)) b = false → s1 = s0) :
    spare_store_follow_1 y st (gshl 1 (k : Int)) b way s0 = some s1 := by
  subst hst
  have hn := hs.n2
  have hone : gshl 1 (k : Int) = ((2 ^ k : Nat) : Int) := dec_shl k (by omega)
  have hlt : 2 ^ k < 256 := by
    have : 2 ^ k ≤ 2 ^ 7 := Nat.pow_le_pow_right (show 0 < 2 by decide) (by omega)
    omega
  unfold spare_store_follow_1
  have h := loopU_run0 (body := spare_store_follow_1_b1 st (gshl 1 (k : Int)) b way y) (fun i => ((i : Int), if i ≤ k then s0 else s1)) st.SpareStore.Machines.length (fun i hi => by
    have hM := hs.mach hi
    have wi : wr ((i : Int) + 1) = ((i + 1 : Nat) : Int) := wr_id' (by omega) (by omega)
    simp only [spare_store_follow_1_b1, lt_t hi, cond_true, idx_mach hi, bind_s]
    rw [if_pos (by omega), hone, in_eq hlt (by omega), dec_one k (by omega) i (by omega)]
    by_cases he : i = k
    · subst he
      have hw : wr ((mach st.SpareStore i).From + (mach st.SpareStore i).Warm) = (mach st.SpareStore i).From + (mach st.SpareStore i).Warm := by
        have := hM.f1; have := hM.f2; have := hM.w1; have := hM.w2
        exact wr_id' (by omega) (by omega)
      have hl := hlen0 i hi
      simp only [decide_true, Bool.not_true, cond_false, bind_s, hw, of_eq hi, hlen i hi, if_pos hway]
      by_cases hg : gainB (mach st.SpareStore i) (len (mach st.SpareStore i)) b = true
      · have hg' := hg
        simp only [gainB, Bool.and_eq_true, decide_eq_true_eq] at hg'
        have hd : decide ((mach st.SpareStore i).From + (mach st.SpareStore i).Warm > b) = false := by simp; omega
        have he0 : (len (mach st.SpareStore i) == 0) = false := by simp; omega
        have hwv : wr (b + len (mach st.SpareStore i)) = b + len (mach st.SpareStore i) := wr_id' (by omega) (by omega)
        simp only [hd, cond_false, bind_s, he0, hwv, h1 hg, spare_store_follow_1_k2, wi, Nat.le_refl, if_true, nxt]
        rw [if_neg (by omega)]
      · have hf : gainB (mach st.SpareStore i) (len (mach st.SpareStore i)) b = false := by simpa using hg
        rw [h2 hf]
        have hor : decide ((mach st.SpareStore i).From + (mach st.SpareStore i).Warm > b) = true ∨ (len (mach st.SpareStore i) == 0) = true := by
          simp only [gainB, Bool.and_eq_false_iff, decide_eq_false_iff_not] at hf
          simp only [decide_eq_true_eq, beq_iff_eq]
          omega
        simp only [ite_self]
        rcases hor with h | h
        · simp only [h, cond_true, bind_s, spare_store_follow_1_k2, wi, nxt]
        · cases decide ((mach st.SpareStore i).From + (mach st.SpareStore i).Warm > b) <;> simp only [h, cond_true, cond_false, bind_s, spare_store_follow_1_k2, wi, nxt]
    · have hif : (if i + 1 ≤ k then s0 else s1) = (if i ≤ k then s0 else s1) := by
        by_cases hik : i ≤ k
        · rw [if_pos hik, if_pos (by omega)]
        · rw [if_neg hik, if_neg (by omega)]
      simp only [he, decide_false, Bool.not_false, cond_true, bind_s, spare_store_follow_1_k2, wi, hif, nxt])
  simp only [Int.natCast_zero, Nat.zero_le, if_true] at h
  refine h.trans (loopU_ext ?_)
  simp only [spare_store_follow_1_b1, lt_f, cond_false]
  rw [if_neg (by omega)]
end Go.Proofs.YtidmdgjgpmeecaaDoor.Rt
