/- Plain laws of the slave seat: a tale that is made up, and its line. Under the conditions that each names. -/
import Derived.Test.YtmbgmefmkjeahaaDoorC14PV
import Derived.Test.YtmbgmefmkjeahaaDoorC14WNZ
set_option linter.unusedVariables false
set_option linter.unusedSimpArgs false
set_option maxRecDepth 100000
set_option maxHeartbeats 4000000
namespace Go.Proofs.YtmbgmefmkjeahaaDoor.Rt
open Go Go.RowKit
theorem homeF_succ {R z : Int} (hR : 2 ≤ R) (h0 : 0 ≤ z) (h1 : z < R) (i : Nat) (hne : homeF R (i : Int) z ≠ 0) : (homeF R (i : Int) z + 1) % R = homeF R ((i + 1 : Nat) : Int) z := by
  unfold homeF at hne ⊢
  by_cases hz : z = 0
  · rw [if_pos hz] at hne; exact absurd rfl hne
  · rw [if_neg hz] at hne ⊢
    rw [if_neg hz]
    by_cases hl : R ≤ z + (i : Int)
    · rw [if_pos hl] at hne; exact absurd rfl hne
    · rw [if_neg hl]
      by_cases hl2 : R ≤ z + ((i + 1 : Nat) : Int)
      · rw [if_pos hl2, show z + (i : Int) + 1 = R by omega, Int.emod_self]
      · rw [if_neg hl2, Int.emod_eq_of_lt (by omega) (by omega)]; omega
theorem homeF_stay {R z : Int} (h0 : 0 ≤ z) (i m : Nat) (hi : i ≤ m) (he : homeF R (i : Int) z = 0) : homeF R (m : Int) z = 0 := by
  unfold homeF at he ⊢
  split
  · rfl
  · next hz =>
    rw [if_neg hz] at he
    split at he
    · rw [if_pos (by omega)]
    · omega
section
variable {l : SlaveLine} {bits : List Int}
end
end Go.Proofs.YtmbgmefmkjeahaaDoor.Rt
