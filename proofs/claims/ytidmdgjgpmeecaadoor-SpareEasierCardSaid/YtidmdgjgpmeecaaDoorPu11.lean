/- What the pure function of a law comes to. Under the conditions that it names. -/
import Derived.Test.YtidmdgjgpmeecaaDoorL11
import Derived.Test.YtidmdgjgpmeecaaDoorPK
set_option linter.unusedVariables false
set_option linter.unusedSimpArgs false
set_option maxRecDepth 100000
set_option maxHeartbeats 4000000
namespace Go.Proofs.YtidmdgjgpmeecaaDoor.Rt
open Go Go.RowKit

/-- a store that is easier -/
structure Easier (s x : SpareStore) : Prop where
  n : s.Machines.length ≤ x.Machines.length
  h : x.Hours ≤ s.Hours
  a : ∀ k < s.Machines.length, (mach x k).From + (mach x k).Warm ≤ (mach s k).From + (mach s k).Warm
  b : ∀ k < s.Machines.length, stintF s.Gap (mach s k) ≤ stintF x.Gap (mach x k)
  c : ∀ k < s.Machines.length, lastF (mach s k) ≤ lastF (mach x k)
theorem Easier.sets {s x : SpareStore} (h : Easier s x) : Rt.sets s ≤ Rt.sets x := Nat.pow_le_pow_right (show 0 < 2 by decide) h.n
theorem Easier.far {s x : SpareStore} (h : Easier s x) : ∀ t, t < Rt.sets s → Rt.far s t ≤ Rt.far x t := by
  intro t
  induction t using Nat.strongRecOn with
  | ind t ih =>
    intro ht
    rcases far_case s t with ⟨rfl, e⟩ | ⟨_, e⟩ | ⟨hk, hc, e⟩
    · rw [far_zero, far_zero]; exact Int.le_refl _
    · rw [e]; exact far_ge x t
    · rw [e]
      simp only [candB, gainB, Bool.and_eq_true, decide_eq_true_eq] at hc
      obtain ⟨c1, c2, c3⟩ := hc
      have hge := Nat.ge_two_pow_of_testBit c1
      have hp := Nat.two_pow_pos (farK s t)
      have h1 := ih (t - 2 ^ farK s t) (by omega) (by omega)
      have h2 := h.a _ hk; have h3 := h.b _ hk
      have hcx : candB x (stintF x.Gap) (Rt.far x) t (farK s t) = true := by
        simp only [candB, gainB, Bool.and_eq_true, decide_eq_true_eq]
        exact ⟨c1, by omega, by omega⟩
      have := far_up x (Nat.lt_of_lt_of_le hk h.n) hcx
      unfold valF at this ⊢
      omega
theorem Easier.tell {s x : SpareStore} (h : Easier s x) {t : Nat} (ht : t < Rt.sets s) : Rt.tell s t ≤ Rt.tell x t := by
  rcases tell_case s t with e | ⟨hk, hc, e⟩
  · rw [e]; exact tell_ge x t
  · rw [e]
    simp only [candB, gainB, Bool.and_eq_true, decide_eq_true_eq] at hc
    obtain ⟨c1, c2, c3⟩ := hc
    have h1 := h.far (t - 2 ^ (tellP s t).2) (Nat.lt_of_le_of_lt (Nat.sub_le _ _) ht)
    have h2 := h.a _ hk; have h3 := h.c _ hk
    have hcx : candB x lastF (Rt.far x) t (tellP s t).2 = true := by
      simp only [candB, gainB, Bool.and_eq_true, decide_eq_true_eq]
      exact ⟨c1, by omega, by omega⟩
    have := tell_up x (Nat.lt_of_lt_of_le hk h.n) hcx
    unfold valF at this ⊢
    omega
theorem Easier.few {s x : SpareStore} (h : Easier s x) (hs : OkS s) (hx : OkS x) (hf : fewF s ≠ 100) : fewF x ≠ 100 ∧ fewF x ≤ fewF s := by
  have hsets := h.sets
  rcases minF_spec (okB s) (Rt.sets s) (sets8 hs) with ⟨a, b⟩ | ⟨a, ⟨t, ht, hp, e⟩, c⟩
  · exact absurd a hf
  · have hpx : okB x t = true := by
      simp only [okB, decide_eq_true_eq] at hp ⊢
      have := h.tell ht; have := h.h; omega
    rcases minF_spec (okB x) (Rt.sets x) (sets8 hx) with ⟨a2, b2⟩ | ⟨a2, _, c2⟩
    · rw [b2 t (by omega)] at hpx; cases hpx
    · have := c2 t (by omega) hpx
      have e1 : fewF x = minF (okB x) (Rt.sets x) := rfl
      have e2 : fewF s = minF (okB s) (Rt.sets s) := rfl
      omega
theorem Easier.reach {s x : SpareStore} (h : Easier s x) : reachN s ≤ reachN x := by
  have hsets := h.sets
  obtain ⟨r1, r2, r3⟩ := maxF_spec (Rt.tell s) (Rt.sets s)
  obtain ⟨q1, q2, q3⟩ := maxF_spec (Rt.tell x) (Rt.sets x)
  have e1 : reachN s = maxF (Rt.tell s) (Rt.sets s) := rfl
  have e2 : reachN x = maxF (Rt.tell x) (Rt.sets x) := rfl
  rcases r3 with r3 | ⟨t, ht, r3⟩
  · omega
  · have := h.tell ht
    have := q2 t (by omega)
    omega
theorem ok_machine {x : SpareMachine} (h : OkM x) : Ok_SpareMachine x := by
  obtain ⟨a, b, c, d, e, f, g, i, j⟩ := h
  exact ⟨inr_small (by omega) (by omega), inr_small (by omega) (by omega), ⟨inr_small (by omega) (by omega), inr_small (by omega) (by omega)⟩, inr_small (by omega) (by omega)⟩
theorem ok_store {s : SpareStore} (h : OkS s) : Ok_SpareStore s := by
  have := h.h1; have := h.h2; have := h.g1; have := h.g2; have := h.n2
  exact ⟨inr_small (by omega) (by omega), inr_small (by omega) (by omega), by omega, fun x hx => ok_machine (OkM.of (h.m x hx))⟩
theorem easier_end {s x : SpareStore} (hs : Ok_SpareStore s) (hS : OkS s) (hx : Ok_SpareStore x) {z : Bool} (he : goodB x = true → Easier s x) (hb : goodB x = false → z = true) :
    ((spare_Fewest s).bind fun rv_5 => (spare_Fewest x).bind fun rv_6 => (spare_Reach s).bind fun rv_7 => (spare_Reach x).bind fun rv_8 =>
      cond (rv_6.2 == 80) ((cond (z && (rv_8.2 == rv_6.2)) ((remontoirlaw08_works).bind fun rv_10 => some rv_10) (some false)).bind fun t => some t)
        (cond (((rv_5.2 == 0) && ((rv_6.2 != 0) || (decide (rv_6.1 > rv_5.1)))) || ((rv_5.2 != 0) && (rv_5.2 != 4))) (some false)
          ((cond (((rv_7.2 == 0) && (rv_8.2 == 0)) && (decide (rv_8.1 ≥ rv_7.1))) ((remontoirlaw08_works).bind fun rv_11 => some rv_11) (some false)).bind fun t_1 => some t_1))) = some true := by
  simp only [Fewest_eq s hs, Fewest_eq x hx, Reach_eq s hs, Reach_eq x hx, works_eq, bind_s]
  cases hg : goodB x with
  | false =>
    have := hb hg
    subst this
    unfold fewestF reachF
    rw [hg]; rfl
  | true =>
    have hX := OkS.of hg
    have hE := he hg
    have hre := hE.reach
    rw [fewest_good hS, fewest_good hX, reach_good hS, reach_good hX]
    by_cases hf : fewF s = 100
    · rw [if_pos hf]
      by_cases hfx : fewF x = 100
      · rw [if_pos hfx, decide_eq_true (show reachN x ≥ reachN s from hre)]; rfl
      · rw [if_neg hfx, decide_eq_true (show reachN x ≥ reachN s from hre)]; rfl
    · obtain ⟨h1, h2⟩ := hE.few hS hX hf
      rw [if_neg hf, if_neg h1, decide_eq_true (show reachN x ≥ reachN s from hre), decide_eq_false (show ¬ fewF x > fewF s by omega)]; rfl
theorem stint_mono {g g' : Int} {x x' : SpareMachine} (hg : 0 ≤ g) (hgg : g ≤ g') (hx : OkM x) (hx' : OkM x') (hl : lastF x ≤ lastF x') (hd : x'.Drift ≤ x.Drift) : stintF g x ≤ stintF g' x' := by
  have h1 := hx.d1; have h2 := hx'.d1
  by_cases h0 : x'.Drift = 0
  · have := stint_le (g := g) x
    unfold stintF at this ⊢
    rw [if_pos h0]; omega
  · have hq : g / x.Drift ≤ g' / x'.Drift := by
      have hq0 := div_ge hg (show 0 < x.Drift by omega)
      have e := Int.ediv_mul_le (a := g) (b := x.Drift) (by omega)
      refine (Int.le_ediv_iff_mul_le (by omega)).2 ?_
      have := Int.mul_le_mul_of_nonneg_left hd hq0
      omega
    unfold stintF
    rw [if_neg (by omega), if_neg h0]
    omega
theorem mach_set {M : List SpareMachine} {h g : Int} {k : Nat} {y : SpareMachine} (hk : k < M.length) (j : Nat) : mach ⟨h, g, M.set k y⟩ j = if j = k then y else M.getD j default := by
  unfold mach
  simp only [List.getD_eq_getElem?_getD, List.getElem?_set]
  by_cases e : k = j
  · subst e; rw [if_pos rfl, if_pos hk, if_pos rfl]; rfl
  · rw [if_neg e, if_neg (fun h => e h.symm)]
theorem okS_set {s : SpareStore} (hS : OkS s) {h g : Int} (h1 : 1 ≤ h) (h2 : h ≤ 500) (g1 : 0 ≤ g) (g2 : g ≤ 1000) {k : Nat} {y : SpareMachine} (hy : OkM y) : OkS ⟨h, g, s.Machines.set k y⟩ :=
  ⟨h1, h2, g1, g2, by show 1 ≤ (s.Machines.set k y).length; rw [List.length_set]; exact hS.n1, by show (s.Machines.set k y).length ≤ 8; rw [List.length_set]; exact hS.n2, fun z hz => by
    rcases List.mem_or_eq_of_mem_set hz with hz | rfl
    · exact hS.m z hz
    · exact hy.is⟩
/-- one machine is easier, or the gap, or the hours -/
theorem easier_set {s : SpareStore} (hS : OkS s) {h g : Int} (h2 : h ≤ s.Hours) (g1 : s.Gap ≤ g) {k : Nat} (hk : k < s.Machines.length) {y : SpareMachine} (hy : OkM y)
    (ha : y.From + y.Warm ≤ (mach s k).From + (mach s k).Warm) (hl : lastF (mach s k) ≤ lastF y) (hd : y.Drift ≤ (mach s k).Drift) : Easier s ⟨h, g, s.Machines.set k y⟩ := by
  have hm : ∀ j, mach ⟨h, g, s.Machines.set k y⟩ j = if j = k then y else mach s j := fun j => mach_set hk j
  refine ⟨by show _ ≤ (s.Machines.set k y).length; rw [List.length_set]; exact Nat.le_refl _, h2, fun j hj => ?_, fun j hj => ?_, fun j hj => ?_⟩
  · rw [hm]; split
    · rename_i e; subst e; exact ha
    · exact Int.le_refl _
  · rw [hm]; split
    · rename_i e; subst e; exact stint_mono hS.g1 g1 (hS.mach hj) hy hl hd
    · exact stint_mono hS.g1 g1 (hS.mach hj) (hS.mach hj) (Int.le_refl _) (Int.le_refl _)
  · rw [hm]; split
    · rename_i e; subst e; exact hl
    · exact Int.le_refl _
/-- a machine more -/
theorem easier_more {s : SpareStore} (hS : OkS s) (more : SpareMachine) {k : Nat} (hk : k < s.Machines.length) : Easier s ⟨s.Hours, s.Gap, (s.Machines ++ [more]).set k (mach s k)⟩ := by
  have hm : ∀ j < s.Machines.length, mach ⟨s.Hours, s.Gap, (s.Machines ++ [more]).set k (mach s k)⟩ j = mach s j := fun j hj => by
    rw [mach_set (by simp; omega)]
    split
    · rename_i e; rw [e]
    · simp only [mach, List.getD_eq_getElem?_getD, List.getElem?_append_left hj]
  refine ⟨by simp, Int.le_refl _, fun j hj => ?_, fun j hj => ?_, fun j hj => ?_⟩ <;> rw [hm j hj] <;> exact Int.le_refl _
theorem pure_11 (sv : SpareStore) (more : SpareMachine) (n : Arr3) (hs : Ok_SpareStore sv) (hmo : Ok_SpareMachine more) (_ : Ok_Arr3 n) : remontoirlaw08_SpareEasier sv more n = some true := by
  unfold remontoirlaw08_SpareEasier
  simp only [sound_eq sv hs, bind_s]
  cases hg : goodB sv with
  | false => simp only [Bool.not_false, cond_true, works_eq, bind_s]
  | true =>
    have hS := OkS.of hg
    have hn := hS.n1; have hn2 := hS.n2; have h1 := hS.h1; have h2 := hS.h2; have g1 := hS.g1; have g2 := hS.g2
    obtain ⟨r2, a2, b2, c2⟩ := rest_any n.a1 (by_ := (sv.Machines.length : Int)) (by omega) (by omega)
    obtain ⟨k, rfl⟩ := Int.eq_ofNat_of_zero_le b2
    have hk : k < sv.Machines.length := by omega
    have hM := hS.mach hk
    obtain ⟨r3, a3, b3, c3⟩ := rest_any n.a2 (by_ := 10) (by decide) (by decide)
    obtain ⟨r4, a4, b4, c4⟩ := rest_any n.a0 (by_ := 7) (by decide) (by decide)
    have f1 := hM.f1; have f2 := hM.f2; have w1 := hM.w1; have w2 := hM.w2; have l1 := hM.l1; have l2 := hM.l2; have l3 := hM.l3; have d1 := hM.d1; have d2 := hM.d2
    have hbnd : (0 : Int) ≤ (k : Int) ∧ (k : Int) < (([] ++ sv.Machines).length : Int) := by rw [List.nil_append]; omega
    have hgood : ∀ {x : SpareStore}, OkS x → Easier sv x → ((spare_Fewest sv).bind fun rv_5 => (spare_Fewest x).bind fun rv_6 => (spare_Reach sv).bind fun rv_7 => (spare_Reach x).bind fun rv_8 =>
      cond (rv_6.2 == 80) ((cond (false && (rv_8.2 == rv_6.2)) ((remontoirlaw08_works).bind fun rv_10 => some rv_10) (some false)).bind fun t => some t)
        (cond (((rv_5.2 == 0) && ((rv_6.2 != 0) || (decide (rv_6.1 > rv_5.1)))) || ((rv_5.2 != 0) && (rv_5.2 != 4))) (some false)
          ((cond (((rv_7.2 == 0) && (rv_8.2 == 0)) && (decide (rv_8.1 ≥ rv_7.1))) ((remontoirlaw08_works).bind fun rv_11 => some rv_11) (some false)).bind fun t_1 => some t_1))) = some true := fun {x} hX hE =>
      easier_end hs hS (ok_store hX) (fun _ => hE) (fun h => by rw [hX.good] at h; cases h)
    simp only [Bool.not_true, cond_false]
    rw [if_pos (by simp only [List.length_nil, lim]; omega)]
    simp only [a2, a3, bind_s, idx_mach hk]
    rw [a4]
    simp only [bind_s]
    cases e0 : (r4 == 0) with
    | true =>
      simp only [cond_true]
      rw [if_pos (by simp only [List.nil_append, List.length_singleton, lim]; omega), if_pos (by simp only [List.nil_append, List.length_append, List.length_singleton]; omega), List.nil_append, Int.toNat_natCast]
      have hxo : Ok_SpareStore ⟨sv.Hours, sv.Gap, (sv.Machines ++ [more]).set k (mach sv k)⟩ := by
        refine ⟨hs.1, hs.2.1, by show (((sv.Machines ++ [more]).set k (mach sv k)).length : Int) ≤ _; rw [List.length_set]; simp; omega, fun z hz => ?_⟩
        rcases List.mem_or_eq_of_mem_set hz with hz | rfl
        · rcases List.mem_append.1 hz with hz | hz
          · exact hs.2.2.2 z hz
          · rw [List.mem_singleton.1 hz]; exact hmo
        · exact ok_machine hM
      exact easier_end hs hS hxo (fun _ => easier_more hS more hk) (fun _ => rfl)
    | false =>
      simp only [cond_false]
      cases e1 : (r4 == 1) with
      | true =>
        simp only [cond_true, remontoirref00_To, bind_s]
        rw [if_pos hbnd, List.nil_append, Int.toNat_natCast, wr_id' (n := (mach sv k).Life.Low + r3) (by omega) (by omega), wr_id' (n := (mach sv k).Life.High + r3) (by omega) (by omega)]
        have hy : OkM ⟨(mach sv k).From, (mach sv k).Warm, ⟨if (mach sv k).Life.Low + r3 < 500 then (mach sv k).Life.Low + r3 else 500, if (mach sv k).Life.High + r3 < 500 then (mach sv k).Life.High + r3 else 500⟩, (mach sv k).Drift⟩ :=
          ⟨f1, f2, w1, w2, by dsimp only; split <;> omega, by dsimp only; split <;> split <;> omega, by dsimp only; split <;> omega, d1, d2⟩
        exact hgood (okS_set hS h1 h2 g1 g2 hy) (easier_set hS (Int.le_refl _) (Int.le_refl _) hk hy (Int.le_refl _) (by
          unfold lastF; dsimp only
          split <;> omega) (Int.le_refl _))
      | false =>
        simp only [cond_false]
        cases e2 : (r4 == 2) with
        | true =>
          simp only [cond_true]
          rw [if_pos hbnd, List.nil_append, Int.toNat_natCast, wr_id' (n := (mach sv k).Warm - r3) (by omega) (by omega)]
          have hy : OkM ⟨(mach sv k).From, if (mach sv k).Warm - r3 > 0 then (mach sv k).Warm - r3 else 0, (mach sv k).Life, (mach sv k).Drift⟩ :=
            ⟨f1, f2, by dsimp only; split <;> omega, by dsimp only; split <;> omega, l1, l2, l3, d1, d2⟩
          exact hgood (okS_set hS h1 h2 g1 g2 hy) (easier_set hS (Int.le_refl _) (Int.le_refl _) hk hy (by
            (try unfold lastF); dsimp only
            split <;> omega) (by
            (try unfold lastF); dsimp only
            split <;> omega) (Int.le_refl _))
        | false =>
          simp only [cond_false]
          cases e3 : (r4 == 3) with
          | true =>
            simp only [cond_true]
            rw [if_pos hbnd, List.nil_append, Int.toNat_natCast, wr_id' (n := (mach sv k).From - r3) (by omega) (by omega)]
            have hy : OkM ⟨if (mach sv k).From - r3 > -500 then (mach sv k).From - r3 else -500, (mach sv k).Warm, (mach sv k).Life, (mach sv k).Drift⟩ :=
              ⟨by dsimp only; split <;> omega, by dsimp only; split <;> omega, w1, w2, l1, l2, l3, d1, d2⟩
            exact hgood (okS_set hS h1 h2 g1 g2 hy) (easier_set hS (Int.le_refl _) (Int.le_refl _) hk hy (by
              dsimp only
              split <;> omega) (Int.le_refl _) (Int.le_refl _))
          | false =>
            simp only [cond_false]
            cases e4 : (r4 == 4) with
            | true =>
              simp only [cond_true]
              rw [if_pos hbnd, List.nil_append, Int.toNat_natCast, wr_id' (n := (mach sv k).Drift - r3) (by omega) (by omega)]
              have hy : OkM ⟨(mach sv k).From, (mach sv k).Warm, (mach sv k).Life, if (mach sv k).Drift - r3 > 0 then (mach sv k).Drift - r3 else 0⟩ :=
                ⟨f1, f2, w1, w2, l1, l2, l3, by dsimp only; split <;> omega, by dsimp only; split <;> omega⟩
              exact hgood (okS_set hS h1 h2 g1 g2 hy) (easier_set hS (Int.le_refl _) (Int.le_refl _) hk hy (Int.le_refl _) (Int.le_refl _) (by
                dsimp only
                split <;> omega))
            | false =>
              simp only [cond_false]
              cases e5 : (r4 == 5) with
              | true =>
                simp only [cond_true]
                rw [if_pos hbnd, List.nil_append, Int.toNat_natCast, wr_id' (n := sv.Gap + r3) (by omega) (by omega)]
                exact hgood (okS_set hS h1 h2 (by split <;> omega) (by split <;> omega) hM) (easier_set hS (Int.le_refl _) (by split <;> omega) hk hM (Int.le_refl _) (Int.le_refl _) (Int.le_refl _))
              | false =>
                simp only [cond_false]
                rw [if_pos hbnd, List.nil_append, Int.toNat_natCast, wr_id' (n := sv.Hours - r3) (by omega) (by omega)]
                exact hgood (okS_set hS (by split <;> omega) (by split <;> omega) g1 g2 hM) (easier_set hS (by split <;> omega) (Int.le_refl _) hk hM (Int.le_refl _) (Int.le_refl _) (Int.le_refl _))
end Go.Proofs.YtidmdgjgpmeecaaDoor.Rt
