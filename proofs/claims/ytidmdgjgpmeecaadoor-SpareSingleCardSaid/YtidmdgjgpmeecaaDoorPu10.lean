/- What the pure function of a law comes to. Under the conditions that it names. -/
import Derived.Test.YtidmdgjgpmeecaaDoorL10
import Derived.Test.YtidmdgjgpmeecaaDoorPJ
set_option linter.unusedVariables false
set_option linter.unusedSimpArgs false
set_option maxRecDepth 100000
set_option maxHeartbeats 4000000
namespace Go.Proofs.YtidmdgjgpmeecaaDoor.Rt
open Go Go.RowKit

theorem range2 (p : Nat → Bool) : minF p 2 = if p 1 = true then (if p 0 = true then 0 else 1) else (if p 0 = true then 0 else 100) := by
  rw [minF_succ, minF_succ]
  have e : minF p 0 = 100 := rfl
  have p0 : (popc 0 : Int) = 0 := by decide
  have p1 : (popc 1 : Int) = 1 := by decide
  rw [e, p0, p1]
  cases p 1 <;> cases p 0 <;> rfl
def tell1 (x : SpareMachine) : Int := if x.From + x.Warm > 0 then 0 else lastF x
theorem one_tell (h g : Int) (x : SpareMachine) : tell ⟨h, g, [x]⟩ 1 = tell1 x := by
  unfold tell tellP
  show (bestOf _ _ _ 1 0 1).1 = _
  rw [bestOf_succ]
  unfold stepK candB valF gainB
  have e : mach ⟨h, g, [x]⟩ 0 = x := rfl
  have e2 : (bestOf ⟨h, g, [x]⟩ lastF (far ⟨h, g, [x]⟩) 1 0 0).1 = 0 := rfl
  rw [show (1 : Nat) - 2 ^ 0 = 0 from rfl, far_zero, e, e2, show Nat.testBit 1 0 = true from rfl, Int.zero_add]
  simp only [Bool.true_and, Bool.and_eq_true, decide_eq_true_eq]
  have hl := last_ge x
  unfold tell1
  split
  · rename_i hc
    rw [if_neg (by omega)]
  · rename_i hc
    show (bestOf ⟨h, g, [x]⟩ lastF (far ⟨h, g, [x]⟩) 1 0 0).1 = _
    rw [e2]
    split <;> omega
theorem one_reach {h g : Int} {x : SpareMachine} : reachN ⟨h, g, [x]⟩ = tell1 x := by
  unfold reachN
  show maxF _ 2 = _
  rw [maxF_succ, maxF_succ, tell_zero, one_tell]
  have : 0 ≤ tell1 x := by unfold tell1; have := last_ge x; split <;> omega
  have e : maxF (tell ⟨h, g, [x]⟩) 0 = 0 := rfl
  rw [e]; omega
theorem one_few {h g : Int} {x : SpareMachine} (h1 : 1 ≤ h) : fewF ⟨h, g, [x]⟩ = if h ≤ tell1 x then 1 else 100 := by
  unfold fewF
  show minF _ 2 = _
  rw [range2]
  have e0 : okB ⟨h, g, [x]⟩ 0 = false := by unfold okB; rw [tell_zero]; simp; omega
  rw [e0]
  unfold okB
  rw [one_tell]
  simp
theorem one_fewD {h g : Int} {x : SpareMachine} (h1 : 1 ≤ h) : fewD ⟨h, g, [x]⟩ 1 = 100 := by
  unfold fewD
  show minF _ 2 = _
  rw [range2]
  have e0 : okB ⟨h, g, [x]⟩ 0 = false := by unfold okB; rw [tell_zero]; simp; omega
  rw [e0]; rfl
theorem one_need {h g : Int} {x : SpareMachine} (h1 : 1 ≤ h) : needN ⟨h, g, [x]⟩ 1 = [0] := by
  rw [needN_succ]
  have : needB ⟨h, g, [x]⟩ 0 = true := by
    unfold needB
    rw [show (2 : Nat) ^ 0 = 1 from rfl, one_fewD h1]; rfl
  rw [this]; rfl
theorem one_pair {h g : Int} {x : SpareMachine} (h1 : 1 ≤ h) : pairN ⟨h, g, [x]⟩ 2 = 100 := by
  rw [pairN_succ, pairN_succ]
  have e0 : okB ⟨h, g, [x]⟩ 0 = false := by unfold okB; rw [tell_zero]; simp; omega
  rw [e0, one_fewD h1]
  have e : pairN ⟨h, g, [x]⟩ 0 = 100 := rfl
  have p1 : (popc 1 : Int) = 1 := by decide
  rw [e, p1]
  split <;> rfl
theorem pure_10 (sv : SpareStore) (machine : Int) (hs : Ok_SpareStore sv) (_ : InR machine) : remontoirlaw08_SpareSingle sv machine = some true := by
  unfold remontoirlaw08_SpareSingle
  simp only [sound_eq sv hs, works_eq, bind_s]
  cases hg : goodB sv with
  | false => rfl
  | true =>
    have hS := OkS.of hg
    have hn := hS.n1; have hn2 := hS.n2
    have h1 := hS.h1; have h2 := hS.h2
    obtain ⟨r, a1, a2, a3⟩ := rest_any machine (by_ := (sv.Machines.length : Int)) (by omega) (by omega)
    obtain ⟨k, rfl⟩ := Int.eq_ofNat_of_zero_le a2
    have hk : k < sv.Machines.length := by omega
    have hM := hS.mach hk
    have hm : Ok_SpareMachine (mach sv k) := by rw [mach_get hk]; exact hs.2.2.2 _ (List.getElem_mem hk)
    have hSx : OkS ⟨sv.Hours, sv.Gap, [mach sv k]⟩ := ⟨h1, h2, hS.g1, hS.g2, by simp, by simp, fun x hx => by
      simp only [List.mem_singleton] at hx; subst hx; exact hM.is⟩
    have hx : Ok_SpareStore ⟨sv.Hours, sv.Gap, [mach sv k]⟩ := ⟨hs.1, hs.2.1, by simp, fun x hx => by
      simp only [List.mem_singleton] at hx; subst hx; exact hm⟩
    have hL : lastsF sv (k : Int) = (stintF sv.Gap (mach sv k), lastF (mach sv k), 0) := by
      unfold lastsF
      rw [hg, if_pos rfl, if_pos (by simp only [inB, Bool.and_eq_true, decide_eq_true_eq]; omega)]; rfl
    have hneed : needF ⟨sv.Hours, sv.Gap, [mach sv k]⟩ = if sv.Hours ≤ tell1 (mach sv k) then ([0], 0) else ([], 4) := by
      unfold needF
      rw [hSx.good, if_pos rfl, one_few h1]
      show (if (if sv.Hours ≤ tell1 (mach sv k) then (1 : Int) else 100) = 100 then _ else (needN _ 1, 0)) = _
      rw [one_need h1]
      by_cases h : sv.Hours ≤ tell1 (mach sv k)
      · rw [if_pos h, if_pos h]; rfl
      · rw [if_neg h, if_neg h]; rfl
    have hpair : pairF ⟨sv.Hours, sv.Gap, [mach sv k]⟩ = (0, 4) := by
      unfold pairF
      rw [hSx.good, if_pos rfl]
      show (if pairN _ 2 = 100 then _ else _) = _
      rw [one_pair h1]; rfl
    have hfew : fewestF ⟨sv.Hours, sv.Gap, [mach sv k]⟩ = if sv.Hours ≤ tell1 (mach sv k) then (1, 0) else (0, 4) := by
      rw [fewest_good hSx, one_few h1]
      by_cases h : sv.Hours ≤ tell1 (mach sv k)
      · rw [if_pos h, if_pos h]; rfl
      · rw [if_neg h, if_neg h]; rfl
    simp only [Bool.not_true, cond_false, a1, bind_s, idx_mach hk, Lasts_eq sv hs, Fewest_eq _ hx, Reach_eq _ hx, Need_eq _ hx, Pair_eq _ hx, hL, hpair, reach_good hSx, one_reach, hneed, hfew]
    rw [wr_id' (by have := hM.f1; have := hM.w1; omega) (by have := hM.f2; have := hM.w2; omega)]
    have hkk : ∀ last, last = tell1 (mach sv k) → remontoirlaw08_SpareSingle_k1 sv (if sv.Hours ≤ tell1 (mach sv k) then (1, 0) else (0, 4)) (tell1 (mach sv k), 0) (if sv.Hours ≤ tell1 (mach sv k) then ([0], 0) else ([], 4)) last = some true := by
      intro last hl
      subst hl
      unfold remontoirlaw08_SpareSingle_k1
      rw [Alike_eq _ [0] (by split <;> decide)]
      by_cases h : sv.Hours ≤ tell1 (mach sv k)
      · rw [if_pos h, if_pos h, show decide (tell1 (mach sv k) ≥ sv.Hours) = true by simpa using h]
        simp [works_eq]
      · rw [if_neg h, if_neg h, show decide (tell1 (mach sv k) ≥ sv.Hours) = false by simpa using h]
        simp [works_eq]
    by_cases hc : (mach sv k).From + (mach sv k).Warm > 0
    · rw [show decide ((mach sv k).From + (mach sv k).Warm > 0) = true by simpa using hc]
      exact hkk 0 (by unfold tell1; rw [if_pos hc])
    · rw [show decide ((mach sv k).From + (mach sv k).Warm > 0) = false by simpa using hc]
      exact hkk _ (by unfold tell1; rw [if_neg hc])
end Go.Proofs.YtidmdgjgpmeecaaDoor.Rt
