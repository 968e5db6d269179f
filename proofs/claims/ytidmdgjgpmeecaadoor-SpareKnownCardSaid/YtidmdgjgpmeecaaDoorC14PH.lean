/- Plain laws of the spare seat: the theorem of the fewest; the plan that is told. Under the conditions that each names. -/
import Derived.Test.YtidmdgjgpmeecaaDoorC14PG
set_option linter.unusedVariables false
set_option linter.unusedSimpArgs false
set_option maxRecDepth 100000
set_option maxHeartbeats 4000000
namespace Go.Proofs.YtidmdgjgpmeecaaDoor.Rt
open Go Go.RowKit
inductive Chain (s : SpareStore) : Nat → List Nat → Prop
  | nil : Chain s 0 []
  | snoc {t k : Nat} {o : List Nat} : Chain s (t - 2 ^ k) o → t < sets s → k < s.Machines.length → t.testBit k = true → gainB (mach s k) (stintF s.Gap (mach s k)) (far s (t - 2 ^ k)) = true →
      far s t = far s (t - 2 ^ k) + stintF s.Gap (mach s k) → Chain s t (o ++ [k])
def ov (s : SpareStore) (o : List Nat) : Int := (o.map fun k => stintF s.Gap (mach s k)).sum
theorem ov_snoc (s : SpareStore) (o : List Nat) (k : Nat) : ov s (o ++ [k]) = ov s o + stintF s.Gap (mach s k) := by simp [ov, List.sum_append]
theorem Chain.far {s : SpareStore} {t : Nat} {o : List Nat} (h : Chain s t o) : Rt.far s t = ov s o := by
  induction h with
  | nil => rw [far_zero]; rfl
  | snoc _ _ _ _ _ e ih => rw [ov_snoc, e, ih]
theorem Chain.lt {s : SpareStore} {t : Nat} {o : List Nat} (h : Chain s t o) : t < sets s := by
  cases h with
  | nil => exact sets1 s
  | snoc _ h _ _ _ _ => exact h
theorem Chain.len {s : SpareStore} (hs : OkS s) {t : Nat} {o : List Nat} (h : Chain s t o) : o.length = popc t := by
  induction h with
  | nil => rfl
  | snoc hc h1 h2 h3 _ _ ih =>
    rw [List.length_append, ih]
    have := sets8 hs
    exact dec_pop _ (by omega) _ (by have := hs.n2; omega) h3
theorem Chain.mem {s : SpareStore} (hs : OkS s) {t : Nat} {o : List Nat} (h : Chain s t o) : ∀ k ∈ o, k < s.Machines.length ∧ t.testBit k = true := by
  induction h with
  | nil => intro k hk; simp at hk
  | snoc hc h1 h2 h3 _ _ ih =>
    intro i hi
    have h8 := sets8 hs; have hn := hs.n2
    rcases List.mem_append.1 hi with hi | hi
    · have h4 := ih i hi
      have h5 := (dec_sub _ (by omega) _ (by omega) h3).2 i (by omega)
      rw [h5] at h4
      simp only [Bool.and_eq_true] at h4
      exact ⟨h4.1, h4.2.1⟩
    · rw [List.mem_singleton.1 hi]; exact ⟨h2, h3⟩
theorem Chain.not_mem {s : SpareStore} (hs : OkS s) {t k : Nat} {o : List Nat} (h : Chain s (t - 2 ^ k) o) (ht : t < 256) (hk : k < 8) (hb : t.testBit k = true) : k ∉ o := by
  intro hm
  have h1 := (h.mem hs k hm).2
  rw [(dec_sub t ht k hk hb).2 k hk] at h1
  simp at h1
theorem Chain.nodup {s : SpareStore} (hs : OkS s) {t : Nat} {o : List Nat} (h : Chain s t o) : o.Nodup := by
  induction h with
  | nil => exact List.nodup_nil
  | snoc hc h1 h2 h3 _ _ ih =>
    have h8 := sets8 hs; have hn := hs.n2
    rw [List.nodup_append]
    refine ⟨ih, by simp, ?_⟩
    intro a ha b hb e
    rw [List.mem_singleton.1 hb] at e
    subst e
    exact Chain.not_mem hs hc (by omega) (by omega) h3 ha
theorem Chain.take {s : SpareStore} {t : Nat} {o : List Nat} (h : Chain s t o) : ∀ i ≤ o.length, ∃ u, Chain s u (o.take i) ∧ ∀ (hi : i < o.length), gainB (mach s o[i]) (stintF s.Gap (mach s o[i])) (Rt.far s u) = true := by
  induction h with
  | nil => intro i hi; exact ⟨0, by simpa using Chain.nil, fun h => by simp at h⟩
  | @snoc t k o hc h1 h2 h3 h4 h5 ih =>
    intro i hi
    rw [List.length_append, List.length_singleton] at hi
    by_cases hlt : i < o.length
    · obtain ⟨u, hu, hg⟩ := ih i (by omega)
      refine ⟨u, by rw [List.take_append_of_le_length (by omega)]; exact hu, fun _ => ?_⟩
      simp only [List.getElem_append_left hlt]; exact hg hlt
    · by_cases he : i = o.length
      · refine ⟨t - 2 ^ k, by rw [he, List.take_left]; exact hc, fun _ => ?_⟩
        have : (o ++ [k])[i]'(by simp; omega) = k := by simp [he]
        rw [this]; exact h4
      · refine ⟨t, ?_, fun h => by simp at h; omega⟩
        rw [List.take_of_length_le (by simp; omega)]
        exact Chain.snoc hc h1 h2 h3 h4 h5
def back (s : SpareStore) : Nat → Nat → List Nat
  | 0, _ => []
  | F + 1, t => if t = 0 then [] else back s F (t - 2 ^ farK s t) ++ [farK s t]
theorem far_cand {s : SpareStore} {t : Nat} (h0 : t ≠ 0) (hf : 0 ≤ far s t) : farK s t < s.Machines.length ∧ t.testBit (farK s t) = true ∧ gainB (mach s (farK s t)) (stintF s.Gap (mach s (farK s t))) (far s (t - 2 ^ farK s t)) = true ∧
    far s t = far s (t - 2 ^ farK s t) + stintF s.Gap (mach s (farK s t)) ∧ 0 ≤ far s (t - 2 ^ farK s t) ∧ 0 < far s t := by
  rcases far_case s t with h | h | ⟨a, b, c⟩
  · exact absurd h.1 h0
  · omega
  · simp only [candB, Bool.and_eq_true] at b
    have hg := b.2
    simp only [gainB, Bool.and_eq_true, decide_eq_true_eq] at hg
    refine ⟨a, b.1, b.2, c, by omega, ?_⟩
    rw [c]; unfold valF; omega
theorem back_chain {s : SpareStore} (hs : OkS s) : ∀ (F t : Nat), t < F → t < sets s → 0 ≤ far s t → Chain s t (back s F t)
  | 0, _, h, _, _ => by omega
  | F + 1, t, h, ht, hf => by
    unfold back
    by_cases h0 : t = 0
    · subst h0; exact Chain.nil
    · rw [if_neg h0]
      obtain ⟨a, b, c, d, e, _⟩ := far_cand h0 hf
      have := Nat.two_pow_pos (farK s t)
      exact Chain.snoc (back_chain hs F _ (by omega) (by omega) e) ht a b c d
def castL (o : List Nat) : List Int := o.map fun (k : Nat) => (k : Int)
theorem castL_len (o : List Nat) : (castL o).length = o.length := by simp [castL]
theorem castL_idx {o : List Nat} {i : Nat} (h : i < o.length) : idx (castL o) (i : Int) = some (o[i] : Int) := idx_nat (by simp [castL, h])
theorem plan_b1 {s : SpareStore} (hs : OkS s) {x : spare_store} (hx : Full s x) : ∀ (F t : Nat) (kk : Int) (tail : List Int), t < F → t < sets s → 0 ≤ far s t → (t ≠ 0 → kk = (farK s t : Int)) → tail.length + t ≤ 1000 →
    loopU (spare_Plan_b1 s x) ((t : Int), kk, tail) = loopU (spare_Plan_b3 s (castL (back s F t) ++ tail)) (([] : List SpareTurn), 0, 0)
  | 0, _, _, _, h, _, _, _, _ => by omega
  | F + 1, t, kk, tail, h, ht, hf, hk, hl => by
    unfold back
    by_cases h0 : t = 0
    · subst h0; rw [if_pos rfl]; exact loopU_ext rfl
    · rw [if_neg h0]
      obtain ⟨a, b, c, d, e, f⟩ := far_cand h0 hf
      have h8 := sets8 hs; have hn := hs.n2
      have hp := Nat.two_pow_pos (farK s t)
      have hle := (dec_sub t (by omega) (farK s t) (by omega) b).1
      have hd : decide ((t : Int) > 0) = true := by simp; omega
      obtain rfl := hk h0
      have hstep : spare_Plan_b1 s x ((t : Int), (farK s t : Int), tail) = nxt (((t - 2 ^ farK s t : Nat) : Int), (mget kl_88 x.last (keyF (t - 2 ^ farK s t))).getD 0, ([(farK s t : Int)] ++ tail)) := by
        simp only [spare_Plan_b1, hd, cond_true]
        rw [if_pos (by simp only [List.length_singleton, lim]; omega), if_pos (by omega), dec_andNot t (by omega) (farK s t) (by omega), b]
        simp only [if_true]
        rw [countE (by omega)]
        rfl
      rw [loopU_nxt hstep, plan_b1 hs hx F (t - 2 ^ farK s t) _ _ (by omega) (by omega) e ?_ (by simp only [List.length_append, List.length_singleton]; omega)]
      · congr 2
        simp [castL]
      · intro hne
        exact hx.last (show _ < sets s by omega) (far_cand hne e).2.2.2.2.2
def turnOf (s : SpareStore) (o : List Nat) (i : Nat) : SpareTurn := ⟨(o.getD i 0 : Int), ov s (o.take i) - (mach s (o.getD i 0)).Warm, ov s (o.take i)⟩
def turnsL (s : SpareStore) (o : List Nat) (m : Nat) : List SpareTurn := (List.range m).map (turnOf s o)
theorem turnsL_len (s : SpareStore) (o : List Nat) (m : Nat) : (turnsL s o m).length = m := by simp [turnsL]
theorem turnsL_get (s : SpareStore) (o : List Nat) {m i : Nat} (h : i < m) : tk (turnsL s o m) i = turnOf s o i := by simp [tk, turnsL, List.getD, h]
theorem ov_bd {s : SpareStore} (hs : OkS s) {o : List Nat} (h : ∀ k ∈ o, k < s.Machines.length) : 0 ≤ ov s o ∧ ov s o ≤ 500 * o.length := by
  induction o with
  | nil => simp [ov]
  | cons k o ih =>
    have h1 := ih fun j hj => h j (List.mem_cons_of_mem _ hj)
    have hM := hs.mach (h k (by simp))
    have h2 := stint_ge hs.g1 hM
    have h3 := Int.le_trans (stint_le (g := s.Gap) _) (last_le hM)
    simp only [ov, List.map_cons, List.sum_cons, List.length_cons] at h1 ⊢
    omega
theorem plan_b3 {s : SpareStore} (hs : OkS s) {o : List Nat} (hlen : o.length ≤ 8) (hm : ∀ k ∈ o, k < s.Machines.length) (hov : ∀ i < o.length, ov s (o.take i) < s.Hours) (h0 : 0 < o.length) :
    loopU (spare_Plan_b3 s (castL o)) (([] : List SpareTurn), 0, 0) = some (turnsL s o o.length, 0) := by
  have hstep := loopU_run0 (body := spare_Plan_b3 s (castL o)) (fun i => (turnsL s o i, if i < o.length then ov s (o.take i) else ov s (o.take (o.length - 1)), (i : Int))) o.length (fun i hi => by
    have wi : wr ((i : Int) + 1) = ((i + 1 : Nat) : Int) := wr_id' (by omega) (by omega)
    have hk := hm o[i] (List.getElem_mem hi)
    have hM := hs.mach hk
    have hb := ov_bd hs (o := o.take i) (fun k hk => hm k (List.mem_of_mem_take hk))
    have hbl : (o.take i).length ≤ 8 := by simp; omega
    have hlt := hov i hi
    have h2 := hs.h2
    have hw1 := hM.w1; have hw2 := hM.w2
    have hst := stint_ge hs.g1 hM
    have hst2 := Int.le_trans (stint_le (g := s.Gap) _) (last_le hM)
    simp only [spare_Plan_b3, castL_len, lt_t hi, cond_true, castL_idx hi, bind_s, of_eq hk, if_pos hi]
    rw [show decide (ov s (o.take i) ≥ s.Hours) = false by simp; omega, cond_false, if_pos (by rw [turnsL_len]; simp only [List.length_singleton, lim]; omega), wi]
    have hturn : turnsL s o i ++ [SpareTurn.mk (o[i] : Int) (wr (ov s (o.take i) - (mach s o[i]).Warm)) (ov s (o.take i))] = turnsL s o (i + 1) := by
      have : turnOf s o i = SpareTurn.mk (o[i] : Int) (wr (ov s (o.take i) - (mach s o[i]).Warm)) (ov s (o.take i)) := by
        unfold turnOf
        rw [wr_id' (by omega) (by omega)]
        simp [List.getD, hi]
      simp [turnsL, List.range_succ, this]
    rw [hturn]
    by_cases hl : i + 1 < o.length
    · rw [lt_t hl, cond_true, stint_eq hM hs.g1 hs.g2, if_pos hl]
      simp only [bind_s]
      rw [wr_id' (by omega) (by omega)]
      congr 3
      rw [List.take_succ_eq_append_getElem hi, ov_snoc]
    · rw [show decide (((i + 1 : Nat) : Int) < (o.length : Int)) = false by simp; omega, cond_false, if_neg hl, show o.length - 1 = i by omega])
  have e0 : turnsL s o 0 = [] := rfl
  have e1 : ov s (o.take 0) = 0 := rfl
  simp only [e0, e1, if_pos h0, Int.natCast_zero] at hstep
  refine Eq.trans hstep (loopU_ext ?_)
  simp only [spare_Plan_b3, castL_len, lt_f, cond_false, spare_Plan_k2]
theorem drift_le {g : Int} (hg : 0 ≤ g) {x : SpareMachine} (hx : OkM x) : x.Drift * stintF g x ≤ g := by
  unfold stintF
  split
  · rename_i h; rw [h, Int.zero_mul]; exact hg
  · have hd := hx.d1
    refine Int.le_trans (Int.mul_le_mul_of_nonneg_left (Int.min_le_right _ _) hd) ?_
    have := Int.mul_ediv_self_le (x := g) (k := x.Drift) (by assumption)
    exact this
theorem told_plan {s : SpareStore} (hs : OkS s) {b : Nat} (hb : b < sets s) (hok : s.Hours ≤ tell s b) (hmin : ∀ t < sets s, okB s t = true → popc b ≤ popc t) :
    let o := back s 256 (b - 2 ^ (tellP s b).2) ++ [(tellP s b).2]
    o.length = popc b ∧ (∀ k ∈ o, k < s.Machines.length) ∧ (∀ i < o.length, ov s (o.take i) < s.Hours) ∧ (tellP s b).2 < s.Machines.length ∧ b.testBit (tellP s b).2 = true ∧ 0 ≤ far s (b - 2 ^ (tellP s b).2) ∧ IsPlan s (turnsL s o o.length) s.Hours := by
  have h1 := hs.h1
  rcases tell_case s b with h | ⟨hk, hc, hv⟩
  · omega
  · simp only [candB, Bool.and_eq_true] at hc
    obtain ⟨hbit, hg⟩ := hc
    generalize hke : (tellP s b).2 = k at *
    have hg' := hg
    simp only [gainB, Bool.and_eq_true, decide_eq_true_eq] at hg'
    unfold valF at hv
    have h8 := sets8 hs; have hn := hs.n2
    have hp := Nat.two_pow_pos k
    have hch := back_chain hs 256 (b - 2 ^ k) (by omega) (by omega) (by omega)
    generalize back s 256 (b - 2 ^ k) = q at hch
    have hql := hch.len hs
    have hpop := dec_pop b (by omega) k (by omega) hbit
    have hmem : ∀ i ∈ q ++ [k], i < s.Machines.length := fun i hi => by
      rcases List.mem_append.1 hi with hi | hi
      · exact (hch.mem hs i hi).1
      · rw [List.mem_singleton.1 hi]; exact hk
    have hnd : (q ++ [k]).Nodup := by
      rw [List.nodup_append]
      refine ⟨hch.nodup hs, by simp, fun a ha c hc e => ?_⟩
      rw [List.mem_singleton.1 hc] at e
      subst e
      exact Chain.not_mem hs hch (by omega) (by omega) hbit ha
    have hlen : (q ++ [k]).length = popc b := by simp; omega
    -- what comes first
    have hpre : ∀ i < (q ++ [k]).length, ∃ u, Chain s u ((q ++ [k]).take i) ∧ (q.length = i ∨ ∃ hi : i < q.length, gainB (mach s q[i]) (stintF s.Gap (mach s q[i])) (far s u) = true) ∧ (i = q.length → u = b - 2 ^ k) := fun i hi => by
      have hi2 : i ≤ q.length := by simp at hi; omega
      by_cases he : i = q.length
      · refine ⟨b - 2 ^ k, by rw [he, List.take_left]; exact hch, .inl he.symm, fun _ => rfl⟩
      · obtain ⟨u, hu, hgu⟩ := hch.take i hi2
        have hlt : i < q.length := by omega
        exact ⟨u, by rw [List.take_append_of_le_length hi2]; exact hu, .inr ⟨hlt, hgu hlt⟩, fun h => absurd h he⟩
    have hov : ∀ i < (q ++ [k]).length, ov s ((q ++ [k]).take i) < s.Hours := fun i hi => by
      obtain ⟨u, hu, _, _⟩ := hpre i hi
      refine Int.not_le.1 fun hle => ?_
      have hul := hu.len hs
      have hfar := hu.far
      have hlt := hu.lt
      have hu0 : u ≠ 0 := by
        rintro rfl
        rw [far_zero] at hfar; omega
      obtain ⟨a1, a2, a3, a4, a5, a6⟩ := far_cand (s := s) hu0 (by omega)
      have hst := stint_le (g := s.Gap) (mach s (farK s u))
      simp only [gainB, Bool.and_eq_true, decide_eq_true_eq] at a3
      have hcl : candB s lastF (far s) u (farK s u) = true := by
        unfold candB gainB
        rw [a2]
        simp only [Bool.true_and, Bool.and_eq_true, decide_eq_true_eq]; omega
      have hup := tell_up s a1 hcl
      unfold valF at hup
      have := hmin u hlt (by simp only [okB, decide_eq_true_eq]; omega)
      simp only [List.length_take] at hul
      omega
    refine ⟨hlen, hmem, hov, hk, hbit, by omega, ?_, ?_⟩
    · rw [turnsL_len]; simp
    · rw [turnsL_len]
      intro i hi
      have hget : (q ++ [k]).getD i 0 = (q ++ [k])[i] := by simp only [List.getD_eq_getElem?_getD, List.getElem?_eq_getElem hi, Option.getD_some]
      have hin := hmem _ (List.getElem_mem hi)
      have hM := hs.mach hin
      have htk := turnsL_get s (q ++ [k]) hi
      have hmli : ml s (turnOf s (q ++ [k]) i) = mach s ((q ++ [k])[i]) := by
        unfold ml turnOf; simp only [Int.toNat_natCast, hget]
      obtain ⟨u, hu, hcase, hlast⟩ := hpre i hi
      have hfar := hu.far
      have huntil : untilF (turnsL s (q ++ [k]) (q ++ [k]).length) s.Hours i = if i + 1 < (q ++ [k]).length then ov s ((q ++ [k]).take (i + 1)) else s.Hours := by
        unfold untilF
        rw [turnsL_len]
        split
        · rename_i h; rw [turnsL_get s _ h]; rfl
        · rfl
      have hnext : i + 1 < (q ++ [k]).length → ov s ((q ++ [k]).take (i + 1)) = ov s ((q ++ [k]).take i) + stintF s.Gap (mach s ((q ++ [k])[i])) := fun _ => by
        rw [List.take_succ_eq_append_getElem hi, ov_snoc]
      -- what the machine of the turn can
      have hcan : max 0 ((mach s ((q ++ [k])[i])).From + (mach s ((q ++ [k])[i])).Warm) ≤ ov s ((q ++ [k]).take i) ∧ 0 < lastF (mach s ((q ++ [k])[i])) ∧ (i + 1 < (q ++ [k]).length → 0 < stintF s.Gap (mach s ((q ++ [k])[i]))) ∧
          (¬ i + 1 < (q ++ [k]).length → s.Hours ≤ ov s ((q ++ [k]).take i) + lastF (mach s ((q ++ [k])[i]))) := by
        rcases hcase with he | ⟨hlt, hgu⟩
        · have hki : (q ++ [k])[i] = k := by simp [← he]
          rw [hki]
          have := hlast he.symm
          subst this
          refine ⟨by omega, by omega, fun h => by simp at h; omega, fun _ => by omega⟩
        · have hki : (q ++ [k])[i] = q[i] := List.getElem_append_left hlt
          rw [hki]
          simp only [gainB, Bool.and_eq_true, decide_eq_true_eq] at hgu
          have := stint_le (g := s.Gap) (mach s q[i])
          refine ⟨by omega, by omega, fun _ => by omega, fun h => by simp at h; omega⟩
      obtain ⟨c1, c2, c3, c4⟩ := hcan
      have hlow : lastF (mach s ((q ++ [k])[i])) = (mach s ((q ++ [k])[i])).Life.Low - (mach s ((q ++ [k])[i])).Warm := by unfold lastF at c2 ⊢; omega
      have hstl := stint_le (g := s.Gap) (mach s ((q ++ [k])[i]))
      refine ⟨?_, ?_, ?_, ?_, ?_, ?_, ?_, ?_, ?_⟩
      · rw [htk]; exact Int.natCast_nonneg _
      · rw [htk]; show (((q ++ [k]).getD i 0 : Nat) : Int) < _; rw [hget]; omega
      · intro j hj
        rw [htk, turnsL_get s _ (by omega)]
        show (((q ++ [k]).getD j 0 : Nat) : Int) ≠ (((q ++ [k]).getD i 0 : Nat) : Int)
        rw [hget]
        simp only [List.getD_eq_getElem?_getD, List.getElem?_eq_getElem (show j < (q ++ [k]).length by omega), Option.getD_some]
        intro e
        have h1 := (List.getElem_inj hnd).1 (Int.ofNat.inj e)
        omega
      · rw [htk, hmli]; show _ ≤ ov s ((q ++ [k]).take i) - (mach s ((q ++ [k]).getD i 0)).Warm; rw [hget]; omega
      · rw [htk, hmli]; show ov s ((q ++ [k]).take i) - (mach s ((q ++ [k]).getD i 0)).Warm + _ ≤ ov s ((q ++ [k]).take i); rw [hget]; omega
      · rw [htk, hmli, huntil]
        show _ ≤ ov s ((q ++ [k]).take i) - (mach s ((q ++ [k]).getD i 0)).Warm + _
        rw [hget]
        split
        · rename_i h; have := hnext h; omega
        · rename_i h; have := c4 h; omega
      · rw [htk, huntil]
        show ov s ((q ++ [k]).take i) < _
        split
        · rename_i h; have := hnext h; have := c3 h; omega
        · exact hov i hi
      · rintro rfl; rw [htk]; rfl
      · intro hne
        have hp1 : i - 1 < (q ++ [k]).length := by omega
        have hM1 := hs.mach (hmem _ (List.getElem_mem hp1))
        have htk1 := turnsL_get s (q ++ [k]) hp1
        have hget1 : (q ++ [k]).getD (i - 1) 0 = (q ++ [k])[i - 1] := by simp only [List.getD_eq_getElem?_getD, List.getElem?_eq_getElem hp1, Option.getD_some]
        have hml1 : ml s (turnOf s (q ++ [k]) (i - 1)) = mach s ((q ++ [k])[i - 1]) := by
          unfold ml turnOf; simp only [Int.toNat_natCast, hget1]
        have hstep : ov s ((q ++ [k]).take i) = ov s ((q ++ [k]).take (i - 1)) + stintF s.Gap (mach s ((q ++ [k])[i - 1])) := by
          have h2 := List.take_succ_eq_append_getElem hp1
          rw [Nat.sub_add_cancel (by omega)] at h2
          rw [h2, ov_snoc]
        rw [htk, htk1]
        unfold offF
        rw [hmli, hml1]
        show (mach s ((q ++ [k])[i - 1])).Drift * (ov s ((q ++ [k]).take i) - (ov s ((q ++ [k]).take (i - 1)) - (mach s ((q ++ [k]).getD (i - 1) 0)).Warm) - (mach s ((q ++ [k])[i - 1])).Warm) + (mach s ((q ++ [k])[i])).Drift * (ov s ((q ++ [k]).take i) - (ov s ((q ++ [k]).take i) - (mach s ((q ++ [k]).getD i 0)).Warm) - (mach s ((q ++ [k])[i])).Warm) ≤ s.Gap
        rw [hget, hget1, hstep]
        generalize (mach s ((q ++ [k])[i])).Warm = w0
        have e1 : ov s ((q ++ [k]).take (i - 1)) + stintF s.Gap (mach s ((q ++ [k])[i - 1])) - (ov s ((q ++ [k]).take (i - 1)) - (mach s ((q ++ [k])[i - 1])).Warm) - (mach s ((q ++ [k])[i - 1])).Warm = stintF s.Gap (mach s ((q ++ [k])[i - 1])) := by omega
        have e2 : ∀ z : Int, z - (z - w0) - w0 = 0 := fun z => by omega
        rw [e1, e2, Int.mul_zero, Int.add_zero]
        exact drift_le hs.g1 hM1
theorem Plan_bad (s : SpareStore) (hs : Ok_SpareStore s) (hg : goodB s = false) : spare_Plan s = some ([], 80) := by
  unfold spare_Plan
  rw [spare_Check_eq s hs, hg]; rfl
theorem Plan_good {s : SpareStore} (hs : Ok_SpareStore s) (hS : OkS s) : (fewF s = 100 ∧ spare_Plan s = some ([], 4)) ∨ (fewF s ≠ 100 ∧ ∃ l, spare_Plan s = some (l, 0) ∧ IsPlan s l s.Hours ∧ (l.length : Int) = fewF s) := by
  unfold spare_Plan
  obtain ⟨x, hx, hF⟩ := opened_eq hS
  obtain ⟨b, hb, hf⟩ := fewest_eq hS hF (all := sets s - 1) (by have := sets1 s; show _ < sets s; omega)
  have h8 := sets8 hS; have hn := hS.n2; have h1 := sets1 s
  have hcg : ∀ t < sets s, enoughB s (sets s - 1) t = okB s t := fun t ht => by unfold enoughB; rw [and_all hS ht]; rfl
  have hmin : fewF s = if b = 0 then 100 else (popc b : Int) := by
    rw [← hf.min h8]; exact (minF_congr fun t ht => (hcg t ht).symm)
  rw [spare_Check_eq s hs, hS.good]
  simp only [if_true, bind_s, hx, all_eq hS]
  rw [show spare_store_fewest x ((2 ^ s.Machines.length - 1 : Nat) : Int) = _ from hb]
  rcases hf with ⟨rfl, _⟩ | ⟨h0, hlt, hok, hm⟩
  · left
    refine ⟨by rw [hmin, if_pos rfl], ?_⟩
    simp only [bind_s]; rfl
  · right
    rw [if_neg h0] at hmin
    have hp8 := (dec_pop0 b (by have : b < sets s := hlt; omega)).2
    rw [hcg b hlt] at hok
    obtain ⟨a1, a2, a3, a4, a5, a6, a7⟩ := told_plan hS hlt (by simpa [okB] using hok) (fun t ht ho => hm t ht (by rw [hcg t ht]; exact ho))
    have hlt' : b < sets s := hlt
    refine ⟨by omega, _, ?_, a7, by rw [turnsL_len, a1]; exact hmin.symm⟩
    simp only [bind_s, ends_eq hS hF hlt]
    rw [show ((b : Int) == 0) = false by simp; omega, show ((0 : Int) != 0) = false from rfl]
    simp only [cond_false]
    have hp := Nat.two_pow_pos (tellP s b).2
    -- the first round
    have hd : decide ((b : Int) > 0) = true := by simp; omega
    have hstep : spare_Plan_b1 s x ((b : Int), ((tellP s b).2 : Int), ([] : List Int)) = nxt (((b - 2 ^ (tellP s b).2 : Nat) : Int), (mget kl_88 x.last (keyF (b - 2 ^ (tellP s b).2))).getD 0, ([((tellP s b).2 : Int)] ++ [])) := by
      simp only [spare_Plan_b1, hd, cond_true]
      rw [if_pos (by simp only [List.length_singleton, List.length_nil, lim]; omega), if_pos (by omega), dec_andNot b (by omega) _ (by omega), a5]
      simp only [if_true]
      rw [countE (by omega)]
      rfl
    rw [loopU_nxt hstep, plan_b1 hS hF 256 _ _ _ (by omega) (by omega) a6 (fun hne => hF.last (show _ < sets s by omega) (far_cand hne a6).2.2.2.2.2) (by simp; omega)]
    have e : castL (back s 256 (b - 2 ^ (tellP s b).2)) ++ ([((tellP s b).2 : Int)] ++ []) = castL (back s 256 (b - 2 ^ (tellP s b).2) ++ [(tellP s b).2]) := by simp [castL]
    rw [e, plan_b3 hS (by omega) a2 a3 (by simp)]
end Go.Proofs.YtidmdgjgpmeecaaDoor.Rt
