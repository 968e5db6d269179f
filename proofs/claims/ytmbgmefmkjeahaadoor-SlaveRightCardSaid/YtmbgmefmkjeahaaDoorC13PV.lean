/- Plain laws of the slave seat: pulses of signs in turn. Under the conditions that each names. -/
import Derived.Test.YtmbgmefmkjeahaaDoorC13PU
set_option linter.unusedVariables false
set_option linter.unusedSimpArgs false
set_option maxRecDepth 100000
set_option maxHeartbeats 4000000
namespace Go.Proofs.YtmbgmefmkjeahaaDoor.Rt
open Go Go.RowKit
theorem mod_step (R a p : Int) : ((a + p) % R + 1) % R = (a + (p + 1)) % R := by
  rw [Int.emod_add_emod]
  congr 1
  omega
theorem signF_send {x : SlaveEvent} (hk : x.Kind ≠ 1) (p : Nat) : signF x p = (x.First + (p : Int)) % 2 := by unfold signF; rw [if_neg hk]
theorem alt_run {R : Int} (hR : 2 ≤ R) {x : SlaveEvent} (hk : x.Kind ≠ 1) (hf : x.First = 0 ∨ x.First = 1) {ls : List Int} {s : SlaveStart} (hs : OkT R s) (hl : s.Last = 1 - x.First) : ∀ p : Nat, (∀ q : Nat, q < p → (q : Int) ∉ ls) → runP R x ls p s = ⟨(s.Shown + (p : Int)) % R, (x.First + (p : Int) + 1) % 2⟩
  | 0, _ => by
    have ha := hs.a; have hb := hs.b
    show s = _
    rw [show s.Shown + ((0 : Nat) : Int) = s.Shown by omega, Int.emod_eq_of_lt ha hb, show (x.First + ((0 : Nat) : Int) + 1) % 2 = s.Last by omega]
  | p + 1, h => by
    have ih := alt_run hR hk hf hs hl p fun q hq => h q (by omega)
    simp only [runP, if_neg (h p (by omega)), ih]
    unfold stepF afterF
    rw [signF_send hk]
    dsimp only
    rw [if_neg (by omega), if_pos (by omega), mod_step]
    congr 1
    · omega
end Go.Proofs.YtmbgmefmkjeahaaDoor.Rt
