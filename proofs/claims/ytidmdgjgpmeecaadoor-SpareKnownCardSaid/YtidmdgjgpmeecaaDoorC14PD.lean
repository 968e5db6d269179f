/- Plain laws of the spare seat: the recursion that remembers; ends. Under the conditions that each names. -/
import Derived.Test.YtidmdgjgpmeecaaDoorC14PC
set_option linter.unusedVariables false
set_option linter.unusedSimpArgs false
set_option maxRecDepth 100000
set_option maxHeartbeats 4000000
namespace Go.Proofs.YtidmdgjgpmeecaaDoor.Rt
open Go Go.RowKit
theorem loopU_mono {σ ρ : Type} {body body' : σ → Option (σ ⊕ ρ)} (h : ∀ s x, body s = some x → body' s = some x) {s : σ} {r : ρ} (hr : loopU body s = some r) : loopU body' s = some r := by
  obtain ⟨n, hn⟩ := loopU_some hr
  refine loopU_of (n := n) ?_
  clear hr
  induction n generalizing s with
  | zero => simp [iterN] at hn
  | succ n ih =>
    simp only [iterN] at hn ⊢
    cases hb : body s with
    | none => rw [hb] at hn; cases hn
    | some x =>
      rw [hb] at hn; rw [h s x hb]
      cases x with
      | inl s' => exact ih hn
      | inr r' => exact hn
abbrev SelfT := Int → spare_store → SpareStore → Option (Int × (List (spare_some × Int)) × (List (spare_some × Int)))
theorem b2_mono {self self' : SelfT} (h : ∀ a b c r, self a b c = some r → self' a b c = some r) (set : Int) (cv : spare_store) (cv1 : SpareStore) (rv : Int) :
    ∀ s x, spare_opened_1_b2 set cv cv1 self rv s = some x → spare_opened_1_b2 set cv cv1 self' rv s = some x := by
  rintro ⟨v, mp, mp1, z⟩ x hx
  simp only [spare_opened_1_b2] at hx ⊢
  cases hd : decide (v < (cv1.Machines.length : Int)) with
  | false => rw [hd] at hx; exact hx
  | true =>
    rw [hd] at hx
    simp only [cond_true] at hx ⊢
    by_cases h1 : ¬ v < 0
    · rw [if_pos h1] at hx ⊢
      cases hb : (bitsOp .and (gshr set v) 1 == 0) with
      | true => rw [hb] at hx; exact hx
      | false =>
        rw [hb] at hx
        simp only [cond_false] at hx ⊢
        rw [if_pos h1] at hx ⊢
        cases hr : self (bitsOp .andNot set (gshl 1 v)) (spare_store.mk cv.SpareStore mp mp1) cv1 with
        | none => rw [hr] at hx; cases hx
        | some q => rw [hr] at hx; rw [h _ _ _ _ hr]; exact hx
    · rw [if_neg h1] at hx; cases hx
theorem step_mono {self self' : SelfT} (h : ∀ a b c r, self a b c = some r → self' a b c = some r) (set : Int) (cv : spare_store) (cv1 : SpareStore) (x) (hx : spare_opened_1_step self set cv cv1 = some x) : spare_opened_1_step self' set cv cv1 = some x := by
  unfold spare_opened_1_step at hx ⊢
  cases hc : spare_count set with
  | none => rw [hc] at hx; cases hx
  | some rv =>
    rw [hc] at hx
    simp only [bind_s] at hx ⊢
    cases hm : (mget kl_88 cv.far (spare_some.mk set rv)).isSome with
    | true => rw [hm] at hx; exact hx
    | false =>
      rw [hm] at hx
      simp only [cond_false] at hx ⊢
      cases hz : (set == 0) with
      | true => rw [hz] at hx; simp only [cond_true, spare_opened_1_k1] at hx ⊢; exact loopU_mono (b2_mono h set cv cv1 rv) hx
      | false => rw [hz] at hx; simp only [cond_false, spare_opened_1_k1] at hx ⊢; exact loopU_mono (b2_mono h set cv cv1 rv) hx
theorem n_mono : ∀ (n : Nat) (a : Int) (b : spare_store) (c : SpareStore) (r), spare_opened_1_n n a b c = some r → spare_opened_1_n (n + 1) a b c = some r
  | 0, _, _, _, _, h => by simp [spare_opened_1_n] at h
  | n + 1, a, b, c, r, h => step_mono (fun a b c r => n_mono n a b c r) a b c r h
theorem n_le {n m : Nat} (hnm : n ≤ m) {a : Int} {b : spare_store} {c : SpareStore} {r} (h : spare_opened_1_n n a b c = some r) : spare_opened_1_n m a b c = some r := by
  induction hnm with
  | refl => exact h
  | step _ ih => exact n_mono _ _ _ _ _ ih
theorem opened_1_of {n : Nat} {a : Int} {b : spare_store} {c : SpareStore} {r} (h : spare_opened_1_n n a b c = some r) : spare_opened_1 a b c = some r := by
  unfold spare_opened_1
  refine limU_of h fun m q hq => ?_
  have h1 := n_le (Nat.le_max_left n m) h
  have h2 := n_le (Nat.le_max_right n m) hq
  rw [h1] at h2; exact (Option.some.inj h2).symm
structure Reached (s : SpareStore) (t : Nat) (m1 m2 m1' m2' : List (spare_some × Int)) : Prop where
  mem : Mem s m1' m2'
  is : (mget kl_88 m1' (keyF t)).isSome = true
  keep : ∀ u, (mget kl_88 m1 (keyF u)).isSome = true → (mget kl_88 m1' (keyF u)).isSome = true
  f1 : ∀ u, t < u → mget kl_88 m1' (keyF u) = mget kl_88 m1 (keyF u)
  f2 : ∀ u, t < u → mget kl_88 m2' (keyF u) = mget kl_88 m2 (keyF u)
structure Mid (s : SpareStore) (t : Nat) (m1 m2 : List (spare_some × Int)) (i : Nat) (mp1 mp2 : List (spare_some × Int)) (z : Int) : Prop where
  mem : Mem s mp1 mp2
  none' : mget kl_88 mp1 (keyF t) = none
  keep : ∀ u, (mget kl_88 m1 (keyF u)).isSome = true → (mget kl_88 mp1 (keyF u)).isSome = true
  f1 : ∀ u, t < u → mget kl_88 mp1 (keyF u) = mget kl_88 m1 (keyF u)
  f2 : ∀ u, t < u → mget kl_88 mp2 (keyF u) = mget kl_88 m2 (keyF u)
  hz : z = (bestOf s (stintF s.Gap) (far s) t (b0F t) i).1
  hl : b0F t < z → mget kl_88 mp2 (keyF t) = some ((bestOf s (stintF s.Gap) (far s) t (b0F t) i).2 : Int)
theorem reach_n {s : SpareStore} (hs : OkS s) : ∀ (N t : Nat) (m1 m2 : List (spare_some × Int)), t < N → t < 2 ^ s.Machines.length → Mem s m1 m2 →
    ∃ m1' m2', spare_opened_1_n N (t : Int) ⟨s, m1, m2⟩ s = some (far s t, m1', m2') ∧ Reached s t m1 m2 m1' m2' := by
  intro N
  induction N with
  | zero => intro t m1 m2 h; omega
  | succ N ih =>
    intro t m1 m2 hN ht hmem
    have hn := hs.n2
    have ht8 : t < 256 := Nat.lt_of_lt_of_le ht (pow_n hn)
    show ∃ m1' m2', spare_opened_1_step (spare_opened_1_n N) (t : Int) ⟨s, m1, m2⟩ s = some (far s t, m1', m2') ∧ _
    unfold spare_opened_1_step
    simp only [countE ht8, bind_s]
    show ∃ m1' m2', (bif (mget kl_88 m1 (keyF t)).isSome then some ((mget kl_88 m1 (keyF t)).getD 0, m1, m2) else _) = some (far s t, m1', m2') ∧ _
    cases hm : mget kl_88 m1 (keyF t) with
    | some v =>
      refine ⟨m1, m2, ?_, hmem, by rw [hm]; rfl, fun u h => h, fun u h => rfl, fun u h => rfl⟩
      have := hmem.far t v hm
      subst this; rfl
    | none =>
      simp only [Option.isSome_none, cond_false]
      have hz : (bif ((t : Int) == 0) then spare_opened_1_k1 (t : Int) ⟨s, m1, m2⟩ s (spare_opened_1_n N) (popc t : Int) 0 else spare_opened_1_k1 (t : Int) ⟨s, m1, m2⟩ s (spare_opened_1_n N) (popc t : Int) (-1)) =
          spare_opened_1_k1 (t : Int) ⟨s, m1, m2⟩ s (spare_opened_1_n N) (popc t : Int) (b0F t) := by
        unfold b0F
        by_cases h : t = 0
        · subst h; rfl
        · rw [if_neg h, show ((t : Int) == 0) = false by simp; omega]; rfl
      rw [hz]
      unfold spare_opened_1_k1
      refine loopU_for (fun i (st : Int × (List (spare_some × Int)) × (List (spare_some × Int)) × Int) => st.1 = (i : Int) ∧ Mid s t m1 m2 i st.2.1 st.2.2.1 st.2.2.2) s.Machines.length ?_ ?_
        (Post := fun o => ∃ m1' m2', o = some (far s t, m1', m2') ∧ Reached s t m1 m2 m1' m2') ?_
      · exact ⟨rfl, hmem, hm, fun u h => h, fun u h => rfl, fun u h => rfl, rfl, fun h => absurd h (Int.lt_irrefl _)⟩
      · rintro i ⟨v, mp1, mp2, z⟩ hi ⟨hv, hM⟩
        simp only at hv hM
        subst hv
        have wi : wr ((i : Int) + 1) = ((i + 1 : Nat) : Int) := wr_id' (by omega) (by omega)
        simp only [spare_opened_1_b2, lt_t hi, cond_true]
        rw [if_pos (by omega), in_eq ht8 (show i < 8 by omega)]
        have hbs := bestOf_succ s (stintF s.Gap) (far s) t (b0F t) i
        cases hb : t.testBit i with
        | false =>
          have hst : stepK s (stintF s.Gap) (far s) t (bestOf s (stintF s.Gap) (far s) t (b0F t) i) i = bestOf s (stintF s.Gap) (far s) t (b0F t) i := by
            unfold stepK candB; rw [hb, if_neg (by simp)]
          rw [hst] at hbs
          refine ⟨(((i + 1 : Nat) : Int), mp1, mp2, z), by simp only [Bool.not_false, cond_true, spare_opened_1_k3, wi], rfl, hM.mem, hM.none', hM.keep, hM.f1, hM.f2, ?_, ?_⟩
          · rw [hbs]; exact hM.hz
          · rw [hbs]; exact hM.hl
        | true =>
          have hd := dec_sub t ht8 i (by omega) hb
          have hp := Nat.two_pow_pos i
          simp only [Bool.not_true, cond_false]
          rw [if_pos (by omega), dec_andNot t ht8 i (by omega), hb]
          simp only [if_true]
          obtain ⟨n1, n2, hrun, hR⟩ := ih (t - 2 ^ i) mp1 mp2 (by omega) (by omega) hM.mem
          rw [hrun]
          simp only [bind_s]
          have hbd := far_bd hs (t := t - 2 ^ i) (by omega)
          have hnone : mget kl_88 n1 (keyF t) = none := by rw [hR.f1 t (by omega)]; exact hM.none'
          have hkeep : ∀ u, (mget kl_88 m1 (keyF u)).isSome = true → (mget kl_88 n1 (keyF u)).isSome = true := fun u h => hR.keep u (hM.keep u h)
          have hf1 : ∀ u, t < u → mget kl_88 n1 (keyF u) = mget kl_88 m1 (keyF u) := fun u h => by rw [hR.f1 u (by omega)]; exact hM.f1 u h
          have hf2 : ∀ u, t < u → mget kl_88 n2 (keyF u) = mget kl_88 m2 (keyF u) := fun u h => by rw [hR.f2 u (by omega)]; exact hM.f2 u h
          have hl2 : mget kl_88 n2 (keyF t) = mget kl_88 mp2 (keyF t) := hR.f2 t (by omega)
          -- the state that a round ends with
          have hsame : stepK s (stintF s.Gap) (far s) t (bestOf s (stintF s.Gap) (far s) t (b0F t) i) i = bestOf s (stintF s.Gap) (far s) t (b0F t) i → Mid s t m1 m2 (i + 1) n1 n2 z := fun hst => by
            rw [hst] at hbs
            refine ⟨hR.mem, hnone, hkeep, hf1, hf2, ?_, ?_⟩
            · rw [hbs]; exact hM.hz
            · rw [hbs, hl2]; exact hM.hl
          by_cases hneg : far s (t - 2 ^ i) < 0
          · rw [show decide (far s (t - 2 ^ i) < 0) = true by simpa using hneg]
            refine ⟨(((i + 1 : Nat) : Int), n1, n2, z), by simp only [cond_true, spare_opened_1_k3, wi], rfl, hsame ?_⟩
            unfold stepK candB gainB
            rw [if_neg]
            simp only [Bool.and_eq_true, decide_eq_true_eq]; omega
          · rw [show decide (far s (t - 2 ^ i) < 0) = false by simpa using hneg]
            simp only [cond_false]
            rw [if_pos (by omega)]
            simp only [spare_store_follow, bind_s]
            by_cases hc : candB s (stintF s.Gap) (far s) t i = true ∧ z < valF s (stintF s.Gap) (far s) t i
            · have hfo := follow_one hs (spare_store.mk s n1 n2) rfl (way := 0) (len := stintF s.Gap) (by decide) (fun k hk => ⟨stint_ge hs.g1 (hs.mach hk), Int.le_trans (stint_le _) (last_le (hs.mach hk))⟩) (fun k hk => tab0_eq hs hk) hi (b := far s (t - 2 ^ i)) (by omega)
                (spare_opened_1_y4 (t : Int) (popc t : Int) (i : Int)) (n1, n2, z) (n1, mput kl_88 n2 (keyF t) (i : Int), valF s (stintF s.Gap) (far s) t i) (fun _ => by
                  simp only [spare_opened_1_y4]
                  rw [show decide (far s (t - 2 ^ i) + stintF s.Gap (mach s i) > z) = true by simpa [valF] using hc.2]
                  rfl) (fun hg => by
                  have := hc.1; simp only [candB, hg, Bool.and_false] at this; cases this)
              rw [hfo]
              refine ⟨(((i + 1 : Nat) : Int), n1, mput kl_88 n2 (keyF t) (i : Int), valF s (stintF s.Gap) (far s) t i), by simp only [bind_s, spare_opened_1_k3, wi], rfl, ⟨?_, ?_⟩, hnone, hkeep, hf1, ?_, ?_, ?_⟩
              · exact hR.mem.far
              · intro u hu hfu
                have hut : ¬ u = t := by rintro rfl; rw [hnone] at hu; cases hu
                rw [mget_mput, if_neg (fun e => hut (keyF_inj e))]
                exact hR.mem.last u hu hfu
              · intro u hu
                rw [mget_mput, if_neg (fun e => by have := keyF_inj e; omega)]
                exact hf2 u hu
              · rw [hbs]; unfold stepK; rw [← hM.hz, if_pos hc]
              · intro _
                rw [mget_mput, if_pos rfl, hbs]; unfold stepK; rw [← hM.hz, if_pos hc]
            · have hfo := follow_one hs (spare_store.mk s n1 n2) rfl (way := 0) (len := stintF s.Gap) (by decide) (fun k hk => ⟨stint_ge hs.g1 (hs.mach hk), Int.le_trans (stint_le _) (last_le (hs.mach hk))⟩) (fun k hk => tab0_eq hs hk) hi (b := far s (t - 2 ^ i)) (by omega)
                (spare_opened_1_y4 (t : Int) (popc t : Int) (i : Int)) (n1, n2, z) (n1, n2, z) (fun hg => by
                  have hcd : candB s (stintF s.Gap) (far s) t i = true := by unfold candB; rw [hb, hg]; rfl
                  simp only [spare_opened_1_y4]
                  rw [show decide (far s (t - 2 ^ i) + stintF s.Gap (mach s i) > z) = false by
                    have : ¬ z < valF s (stintF s.Gap) (far s) t i := fun h => hc ⟨hcd, h⟩
                    simpa [valF] using this]
                  rfl) (fun _ => rfl)
              rw [hfo]
              refine ⟨(((i + 1 : Nat) : Int), n1, n2, z), by simp only [bind_s, spare_opened_1_k3, wi], rfl, hsame ?_⟩
              unfold stepK; rw [← hM.hz, if_neg hc]
      · rintro ⟨v, mp1, mp2, z⟩ ⟨hv, hM⟩
        simp only at hv hM
        subst hv
        refine ⟨some (z, mput kl_88 mp1 (keyF t) z, mp2), by simp only [spare_opened_1_b2, lt_f, cond_false]; rfl, mput kl_88 mp1 (keyF t) z, mp2, ?_, ⟨?_, ?_⟩, ?_, ?_, ?_, hM.f2⟩
        · rw [hM.hz, ← far_eq]
        · intro u w hw
          rw [mget_mput] at hw
          split at hw
          · rename_i he
            have := keyF_inj he; subst this
            rw [← Option.some.inj hw, hM.hz, ← far_eq]
          · exact hM.mem.far u w hw
        · intro u hu hfu
          rw [mget_mput] at hu
          split at hu
          · rename_i he
            have := keyF_inj he; subst this
            exact hM.hl (by rw [hM.hz, ← far_eq]; unfold b0F; split <;> omega)
          · exact hM.mem.last u hu hfu
        · rw [mget_mput, if_pos rfl]; rfl
        · intro u hu
          rw [mget_mput]; split
          · rfl
          · exact hM.keep u hu
        · intro u hu
          rw [mget_mput, if_neg (fun e => by have := keyF_inj e; omega)]
          exact hM.f1 u hu
theorem reach_eq {s : SpareStore} (hs : OkS s) {t : Nat} {m1 m2 : List (spare_some × Int)} (ht : t < 2 ^ s.Machines.length) (hm : Mem s m1 m2) :
    ∃ m1' m2', spare_opened_1 (t : Int) ⟨s, m1, m2⟩ s = some (far s t, m1', m2') ∧ Reached s t m1 m2 m1' m2' := by
  obtain ⟨a, b, h, hR⟩ := reach_n hs (t + 1) t m1 m2 (Nat.lt_succ_self t) ht hm
  exact ⟨a, b, opened_1_of h, hR⟩
structure Full (s : SpareStore) (x : spare_store) : Prop where
  st : x.SpareStore = s
  mem : Mem s x.far x.last
  all : ∀ t < 2 ^ s.Machines.length, (mget kl_88 x.far (keyF t)).isSome = true
theorem Full.get {s : SpareStore} {x : spare_store} (h : Full s x) {t : Nat} (ht : t < 2 ^ s.Machines.length) : (mget kl_88 x.far (keyF t)).getD 0 = far s t := by
  have h1 := h.all t ht
  cases hm : mget kl_88 x.far (keyF t) with
  | none => rw [hm] at h1; cases h1
  | some v => rw [h.mem.far t v hm]; rfl
theorem Full.last {s : SpareStore} {x : spare_store} (h : Full s x) {t : Nat} (ht : t < 2 ^ s.Machines.length) (hp : 0 < far s t) : (mget kl_88 x.last (keyF t)).getD 0 = (farK s t : Int) := by
  rw [h.mem.last t (h.all t ht) hp]; rfl
theorem pow1 (n : Nat) : 1 ≤ 2 ^ n := Nat.two_pow_pos n
theorem shl_n {s : SpareStore} (hs : OkS s) : gshl 1 (s.Machines.length : Int) = ((2 ^ s.Machines.length : Nat) : Int) := dec_shl _ (by have := hs.n2; omega)
theorem all_eq {s : SpareStore} (hs : OkS s) : spare_all s = some ((2 ^ s.Machines.length - 1 : Nat) : Int) := by
  unfold spare_all
  have := pow_n hs.n2; have := pow1 s.Machines.length
  rw [if_pos (by omega), shl_n hs, wr_id' (by omega) (by omega)]
  congr 1; omega
theorem opened_eq {s : SpareStore} (hs : OkS s) : ∃ x, spare_opened s = some x ∧ Full s x := by
  have hp := pow_n hs.n2; have h1 := pow1 s.Machines.length
  have hm0 : Mem s [] [] := ⟨fun t v h => by simp [mget] at h, fun t h => by simp [mget] at h⟩
  obtain ⟨m1, m2, hr, hR⟩ := reach_eq hs (t := 2 ^ s.Machines.length - 1) (by omega) hm0
  unfold spare_opened
  rw [if_pos (by omega), shl_n hs, wr_id' (by omega) (by omega), show ((2 ^ s.Machines.length : Nat) : Int) - 1 = ((2 ^ s.Machines.length - 1 : Nat) : Int) by omega, hr]
  simp only [bind_s]
  rw [if_pos (by omega)]
  refine loopU_for (fun i (st : Int × (List (spare_some × Int)) × (List (spare_some × Int))) => st.1 = (i : Int) ∧ Mem s st.2.1 st.2.2 ∧ ∀ t < i, (mget kl_88 st.2.1 (keyF t)).isSome = true) (2 ^ s.Machines.length) ?_ ?_
    (Post := fun o => ∃ x, o = some x ∧ Full s x) ?_
  · exact ⟨rfl, hR.mem, fun t h => by omega⟩
  · rintro i ⟨v, a, b⟩ hi ⟨hv, hM, hA⟩
    simp only at hv hM hA
    subst hv
    obtain ⟨a', b', hr', hR'⟩ := reach_eq hs hi hM
    refine ⟨(((i + 1 : Nat) : Int), a', b'), ?_, rfl, hR'.mem, fun t ht => ?_⟩
    · simp only [spare_opened_b1, shl_n hs, lt_t hi, cond_true, hr', bind_s]
      rw [wr_id' (by omega) (by omega)]; rfl
    · simp only
      by_cases he : t = i
      · subst he; exact hR'.is
      · exact hR'.keep t (hA t (by omega))
  · rintro ⟨v, a, b⟩ ⟨hv, hM, hA⟩
    simp only at hv hM hA
    subst hv
    exact ⟨some ⟨s, a, b⟩, by simp only [spare_opened_b1, shl_n hs, lt_f, cond_false], ⟨s, a, b⟩, rfl, rfl, hM, hA⟩
theorem ends_eq {s : SpareStore} (hs : OkS s) {x : spare_store} (hx : Full s x) {t : Nat} (ht : t < 2 ^ s.Machines.length) : spare_store_ends x (t : Int) = some (tell s t, ((tellP s t).2 : Int)) := by
  have hn := hs.n2
  have ht8 : t < 256 := Nat.lt_of_lt_of_le ht (pow_n hn)
  unfold spare_store_ends
  have h := loopU_run0 (body := spare_store_ends_b1 x (t : Int)) (fun i => ((i : Int), (bestOf s lastF (far s) t 0 i).1, ((bestOf s lastF (far s) t 0 i).2 : Int))) s.Machines.length (fun i hi => by
    have wi : wr ((i : Int) + 1) = ((i + 1 : Nat) : Int) := wr_id' (by omega) (by omega)
    simp only [spare_store_ends_b1, hx.st, lt_t hi, cond_true]
    rw [if_pos (by omega), in_eq ht8 (show i < 8 by omega), bestOf_succ]
    generalize bestOf s lastF (far s) t 0 i = p
    obtain ⟨z, k⟩ := p
    cases hb : t.testBit i with
    | false =>
      have hst : stepK s lastF (far s) t (z, k) i = (z, k) := by unfold stepK candB; rw [hb, if_neg (by simp)]
      simp only [hst, Bool.not_false, cond_true, spare_store_ends_k2, wi]
    | true =>
      have hd := dec_sub t ht8 i (by omega) hb
      have hp := Nat.two_pow_pos i
      simp only [Bool.not_true, cond_false]
      rw [if_pos (by omega), dec_andNot t ht8 i (by omega), hb]
      simp only [if_true]
      rw [countE (show t - 2 ^ i < 256 by omega)]
      simp only [bind_s]
      rw [show spare_some.mk ((t - 2 ^ i : Nat) : Int) (popc (t - 2 ^ i) : Int) = keyF (t - 2 ^ i) from rfl, hx.get (show t - 2 ^ i < 2 ^ s.Machines.length by omega)]
      have hbd := far_bd hs (t := t - 2 ^ i) (by omega)
      by_cases hneg : far s (t - 2 ^ i) < 0
      · rw [show decide (far s (t - 2 ^ i) < 0) = true by simpa using hneg]
        have hst : stepK s lastF (far s) t (z, k) i = (z, k) := by unfold stepK candB gainB; rw [if_neg (by simp only [Bool.and_eq_true, decide_eq_true_eq]; omega)]
        simp only [hst, cond_true, spare_store_ends_k2, wi]
      · rw [show decide (far s (t - 2 ^ i) < 0) = false by simpa using hneg]
        simp only [cond_false]
        rw [if_pos (by omega)]
        simp only [spare_store_follow, bind_s]
        have hfo := follow_one hs x hx.st (way := 1) (len := lastF) (by decide) (fun k hk => ⟨last_ge _, last_le (hs.mach hk)⟩) (fun k hk => tab1_eq hs hk) hi (b := far s (t - 2 ^ i)) (by omega)
          (spare_store_ends_y3 (i : Int)) (z, (k : Int)) ((stepK s lastF (far s) t (z, k) i).1, ((stepK s lastF (far s) t (z, k) i).2 : Int)) (fun hg => by
            have hcd : candB s lastF (far s) t i = true := by unfold candB; rw [hb, hg]; rfl
            simp only [spare_store_ends_y3, stepK, hcd, true_and]
            by_cases hz : z < valF s lastF (far s) t i
            · rw [show decide (far s (t - 2 ^ i) + lastF (mach s i) > z) = true by simpa [valF] using hz, if_pos hz]; rfl
            · rw [show decide (far s (t - 2 ^ i) + lastF (mach s i) > z) = false by simpa [valF] using hz, if_neg hz]; rfl) (fun hg => by
            simp only [stepK, candB, hg, Bool.and_false, Bool.false_eq_true, false_and, if_false])
        rw [hfo]
        simp only [bind_s, spare_store_ends_k2, wi])
  have e0 : bestOf s lastF (far s) t 0 0 = (0, 0) := rfl
  rw [e0] at h
  refine Eq.trans h (loopU_ext ?_)
  simp only [spare_store_ends_b1, hx.st, lt_f, cond_false]
  rfl
end Go.Proofs.YtidmdgjgpmeecaaDoor.Rt
