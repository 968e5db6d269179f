/- What the pure function of the law BeatTurned comes to. Under the conditions that the arguments are Go's. -/
import Derived.Test.YtpniidbbbhbglaaDoorL11
import Derived.Test.YtpniidbbbhbglaaDoorPS
set_option linter.unusedVariables false
set_option linter.unusedSimpArgs false
set_option maxRecDepth 100000
set_option maxHeartbeats 4000000
namespace Go.Proofs.YtpniidbbbhbglaaDoor.Rt
open Go Go.RowKit

theorem pure_11 (c : BeatCellar) (n : Arr3) (m : Arr3) (hc : Ok_BeatCellar c) (_ : Ok_Arr3 n) (_ : Ok_Arr3 m) : remontoirlaw02_BeatTurned c n m = some true := by
  unfold remontoirlaw02_BeatTurned
  simp only [sound_eq c hc, bind_s]
  cases hx : goodB c with
  | false => simp [works_eq]
  | true =>
    have hC := OkC.of hx
    have h1 := hC.h1
    have h2 := hC.h2
    have k1 := hC.k1
    have k2 := hC.k2
    have wh : wr (c.Hours + 1) = c.Hours + 1 := wr_id' (by omega) (by omega)
    obtain ⟨i, ei, i1, i2⟩ := Rest_in n.a0 (by_ := (c.Rates.length : Int)) (by omega) (by omega)
    obtain ⟨k, ek, k3, k4⟩ := Rest_in n.a1 (by_ := (c.Rates.length : Int)) (by omega) (by omega)
    obtain ⟨l, el, l1, l2⟩ := Rest_in n.a2 (by_ := (c.Rates.length : Int)) (by omega) (by omega)
    obtain ⟨h, eh, h3, h4⟩ := Rest_in m.a0 (by_ := c.Hours + 1) (by omega) (by omega)
    obtain ⟨g, eg, g1, g2⟩ := Rest_in m.a1 (by_ := c.Hours + 1) (by omega) (by omega)
    obtain ⟨j, ej, j1, j2⟩ := Rest_in m.a2 (by_ := c.Hours + 1) (by omega) (by omega)
    have sih := spot_in i1 i2 h3 (show h ≤ c.Hours by omega)
    have skh := spot_in k3 k4 h3 (show h ≤ c.Hours by omega)
    have slh := spot_in l1 l2 h3 (show h ≤ c.Hours by omega)
    have sig := spot_in i1 i2 g1 (show g ≤ c.Hours by omega)
    have sij := spot_in i1 i2 j1 (show j ≤ c.Hours by omega)
    simp only [Bool.not_true, cond_false, wh, ei, ek, el, eh, eg, ej, bind_s, Offset_eq c hc, Apart_eq c hc, Drift_eq c hc, sih, skh, slh, sig, sij, Bool.and_self, ans_good hx]
    cases hb : canB c 0 with
    | false => simp [works_eq]
    | true =>
      have hcan := (canB_iff hx 0).1 hb
      have nih := (spotB_ok sih).2.1
      have nkh := (spotB_ok skh).2.1
      have nlh := (spotB_ok slh).2.1
      have nig := (spotB_ok sig).2.1
      have nij := (spotB_ok sij).2.1
      have n0 : 0 < cnt c := by simp only [cnt]; omega
      have eik : i = k → nd c i h = nd c k h := fun e => by rw [e]
      have ehg : h = g → nd c i h = nd c i g := fun e => by rw [e]
      generalize nd c i h = A at *
      generalize nd c k h = B at *
      generalize nd c l h = L at *
      generalize nd c i g = G at *
      generalize nd c i j = J at *
      have b1 := mx_bound hx hcan nih nkh
      have b2 := mx_bound hx hcan nkh nih
      have b3 := mx_bound hx hcan nih n0
      have b4 := mx_bound hx hcan n0 nih
      have b5 := mx_bound hx hcan nkh n0
      have b6 := mx_bound hx hcan n0 nkh
      have b7 := mx_bound hx hcan nih nlh
      have b8 := mx_bound hx hcan nlh nih
      have b9 := mx_bound hx hcan nlh nkh
      have b10 := mx_bound hx hcan nkh nlh
      have b11 := mx_bound hx hcan nih nig
      have b12 := mx_bound hx hcan nig nih
      have b13 := mx_bound hx hcan nij nih
      have b14 := mx_bound hx hcan nih nij
      have b15 := mx_bound hx hcan nig nij
      have b16 := mx_bound hx hcan nij nig
      have b17 := mx_bound hx hcan nig n0
      have b18 := mx_bound hx hcan n0 nig
      have t1 := mx_tri hx hcan nih nkh n0
      have t2 := mx_tri hx hcan nkh nih n0
      have t3 := mx_tri hx hcan nih nkh nlh
      have t4 := mx_tri hx hcan nkh nih nlh
      have t5 := mx_tri hx hcan nig nih n0
      have t6 := mx_tri hx hcan nih nig n0
      have t7 := mx_tri hx hcan nig nih nij
      have t8 := mx_tri hx hcan nih nig nij
      have z := mx_self hx hcan nih
      have zik : i = k → mx c 0 A B = 0 ∧ mx c 0 B A = 0 := fun e => by
        have := eik e; subst this; exact ⟨z, z⟩
      have zhg : h = g → mx c 0 A G = 0 ∧ mx c 0 G A = 0 := fun e => by
        have := ehg e; subst this; exact ⟨z, z⟩
      simp only [if_true, told, remontoirref00_To, remontoirref00_Within, bind_s, cond_s, works_eq]
      simp (disch := omega) only [wr_id']
      simp only [Option.some.injEq]
      by_cases e1 : i = k <;> by_cases e2 : h = g <;> simp [e1, e2] <;> omega
end Go.Proofs.YtpniidbbbhbglaaDoor.Rt
