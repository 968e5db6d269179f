/- What the pure function of a law comes to. Under no conditions. -/
import Derived.Test.YtmbgmefmkjeahaaDoorC10L10
import Derived.Test.YtmbgmefmkjeahaaDoorC10PV
set_option linter.unusedVariables false
set_option linter.unusedSimpArgs false
set_option maxRecDepth 100000
set_option maxHeartbeats 4000000
namespace Go.Proofs.YtmbgmefmkjeahaaDoor.Rt
open Go Go.RowKit
theorem mod_one {R y : Int} (hR : 2 ≤ R) : y % R ≠ (y + 1) % R := by
  have h0 := Int.emod_nonneg y (show R ≠ 0 by omega)
  have h1 := Int.emod_lt_of_pos y (show 0 < R by omega)
  rw [← Int.emod_add_emod]
  generalize y % R = t at *
  by_cases h : t + 1 < R
  · rw [Int.emod_eq_of_lt (by omega) h]; omega
  · rw [show t + 1 = R by omega, Int.emod_self]; omega
theorem mod_two {R y : Int} (hR : 2 ≤ R) : y % R = (y + 2) % R ↔ R = 2 := by
  have h0 := Int.emod_nonneg y (show R ≠ 0 by omega)
  have h1 := Int.emod_lt_of_pos y (show 0 < R by omega)
  rw [← Int.emod_add_emod]
  generalize y % R = t at *
  by_cases h : t + 2 < R
  · rw [Int.emod_eq_of_lt (by omega) h]; omega
  · by_cases h2 : t + 2 = R
    · rw [h2, Int.emod_self]; omega
    · have h3 : t = R - 1 := by omega
      by_cases h4 : R = 2
      · subst h4; rw [h3]; decide
      · rw [show t + 2 = 1 + R by omega, Int.add_emod_right, Int.emod_eq_of_lt (by omega) (by omega)]; omega
theorem two_is {R : Int} {s0 : SlaveStart} {x y : SlaveEvent} (hx : x.Kind ≠ 2) (hy : y.Kind = 2) (hyw : y.Who = 0) (hS : OkS ⟨R, [s0], [x, y]⟩) (ls : List Int) : isB ⟨R, [s0], [x, y]⟩ 0 [ls, []] = true ↔ Loss x.Count.toNat ls ∧ (ls.length : Int) ≤ x.Lost ∧ y.Shown = (runP R x ls x.Count.toNat s0).Shown := by
  rw [isB_iff hS (by simp)]
  have e : SlaveLine.mk R [s0] [x, y] = snocL (snocL ⟨R, [s0], []⟩ x) y := rfl
  rw [e]
  constructor
  · rintro ⟨s, h⟩
    obtain ⟨st0, e1, h, hsh⟩ := (tale_look hy).1 h
    obtain ⟨st1, s1, ls', e2, ht, h1, h2, rfl⟩ := (tale_send hx).1 h
    obtain ⟨rfl, rfl⟩ := (tale_nil (R := R) (St := [s0]) (w := 0) (by simp)).1 ht
    rw [List.nil_append] at e2
    subst e2
    have : [ls] = [ls'] := (snoc_take (a := [ls]) (y := []) (x := [ls']) (z := []) e1).1
    have : ls = ls' := by simpa using this
    subst this
    exact ⟨h1, h2, hsh hyw⟩
  · rintro ⟨h1, h2, h3⟩
    exact ⟨_, (tale_look hy).2 ⟨[ls], rfl, (tale_send hx).2 ⟨[], s0, ls, rfl, (tale_nil (R := R) (St := [s0]) (w := 0) (by simp)).2 ⟨rfl, rfl⟩, h1, h2, rfl⟩, fun _ => h3⟩⟩
theorem one_loss {k m : Nat} (h : k < m) : Loss m [(k : Int)] := ⟨List.pairwise_singleton _ _, fun j hj => by rw [List.mem_singleton.1 hj]; omega⟩
theorem pure_10 (ring : Int) (sv : SlaveStart) (n : Arr2) (h1 : InR ring) (h2 : Ok_SlaveStart sv) (h3 : Ok_Arr2 n) : w7SlaveTwo ring sv n (fun b => b = true) := by
  refine Tells.is (m := w7SlaveTwo ring sv n) ?_
  unfold w7SlaveTwo
  obtain ⟨c, ec, hc⟩ := rest_natI n.a0 (m := 50) (by decide) (by decide)
  have em : wr (3 + (c : Int)) = ((c + 3 : Nat) : Int) := by rw [wr_id' (by omega) (by omega)]; omega
  have em2 : wr (((c + 3 : Nat) : Int) - 2) = ((c + 1 : Nat) : Int) := by rw [wr_id' (by omega) (by omega)]; omega
  obtain ⟨k, ek, hk⟩ := rest_natI n.a1 (m := ((c + 1 : Nat) : Int)) (by omega) (by omega)
  obtain ⟨r, er, hr⟩ := rest_natI ring (m := 59) (by decide) (by decide)
  have eR : wr (2 + (r : Int)) = 2 + (r : Int) := wr_id' (by omega) (by omega)
  obtain ⟨a, ea, ha⟩ := rest_natI sv.Last (m := 2) (by decide) (by decide)
  obtain ⟨b, eb, hb⟩ := rest_natI sv.Shown (m := 2 + (r : Int)) (by omega) (by omega)
  have e0 : wr (1 - (a : Int)) = 1 - (a : Int) := wr_id' (by omega) (by omega)
  refine tdet ec ?_
  rw [em, em2]
  refine tdet ek (tdet er (tdet ea ?_))
  rw [eR]
  refine tdet eb (tdet (a := SlaveStart.mk 0 (a : Int)) rfl (tdet (a := SlaveStart.mk (b : Int) (a : Int)) rfl ?_))
  dsimp only
  rw [e0, show ([SlaveStart.mk 0 (a : Int)]).set (Int.toNat 0) (SlaveStart.mk (b : Int) (a : Int)) = [SlaveStart.mk (b : Int) (a : Int)] from rfl]
  generalize hR : 2 + (r : Int) = R at *
  have w1 : wr (wr ((b : Int) + ((c + 3 : Nat) : Int)) - 2) = (b : Int) + ((c + 3 : Nat) : Int) - 2 := by rw [wr_id' (n := (b : Int) + ((c + 3 : Nat) : Int)) (by omega) (by omega), wr_id' (by omega) (by omega)]
  have w2 : wr (wr ((b : Int) + ((c + 3 : Nat) : Int)) - 1) = (b : Int) + ((c + 3 : Nat) : Int) - 1 := by rw [wr_id' (n := (b : Int) + ((c + 3 : Nat) : Int)) (by omega) (by omega), wr_id' (by omega) (by omega)]
  have w3 : wr (1 + (k : Int)) = ((k + 1 : Nat) : Int) := by rw [wr_id' (by omega) (by omega)]; omega
  have w4 : wr (((c + 3 : Nat) : Int) - 1) = ((c + 2 : Nat) : Int) := by rw [wr_id' (by omega) (by omega)]; omega
  rw [w1, w2, w3, w4, tmod_eq (a := (b : Int) + ((c + 3 : Nat) : Int) - 2) (by omega), tmod_eq (a := (b : Int) + ((c + 3 : Nat) : Int) - 1) (by omega)]
  have hT : OkT R ⟨(b : Int), (a : Int)⟩ := ⟨by dsimp only; omega, by dsimp only; omega, by dsimp only; omega⟩
  have hxe : OkE (([⟨(b : Int), (a : Int)⟩] : List SlaveStart).length) R (sendE (1 - (a : Int)) ((c + 3 : Nat) : Int) 1) := ⟨.inl rfl, fun _ => by unfold sendE; dsimp only; omega, fun _ => (by unfold sendE; dsimp only; omega), fun h => (by cases h)⟩
  have hline : ∀ sh, 0 ≤ sh → sh < R → OkS ⟨R, [⟨(b : Int), (a : Int)⟩], [sendE (1 - (a : Int)) ((c + 3 : Nat) : Int) 1, lookE 0 sh]⟩ ∧ Ok_SlaveLine ⟨R, [⟨(b : Int), (a : Int)⟩], [sendE (1 - (a : Int)) ((c + 3 : Nat) : Int) 1, lookE 0 sh]⟩ := by
    intro sh h0 h1
    have hye : OkE (([⟨(b : Int), (a : Int)⟩] : List SlaveStart).length) R (lookE 0 sh) := ⟨.inr (.inr rfl), fun h => (by cases h), fun h => absurd rfl h, fun _ => (by unfold lookE; dsimp only [List.length_singleton]; omega)⟩
    refine ⟨⟨by dsimp only; omega, by dsimp only; omega, by simp, by simp, by simp, fun x hx => by rw [List.mem_singleton.1 hx]; exact hT.is, fun x hx => ?_⟩, ⟨inR_s (by dsimp only; omega) (by dsimp only; omega), ⟨by simp, fun x hx => by rw [List.mem_singleton.1 hx]; exact ⟨inR_s (by dsimp only; omega) (by dsimp only; omega), inR_s (by dsimp only; omega) (by dsimp only; omega)⟩⟩, by simp, fun x hx => ?_⟩⟩
    · rcases List.mem_cons.1 hx with rfl | hx
      · exact hxe.is
      · rw [List.mem_singleton.1 hx]; exact hye.is
    · rcases List.mem_cons.1 hx with rfl | hx
      · exact Ok_send (inR_s (by omega) (by omega)) (inR_s (by omega) (by omega)) (inR_s (by decide) (by decide))
      · rw [List.mem_singleton.1 hx]; exact Ok_look inR0 (inR_s (by omega) (by omega))
  -- what a line tells of losses
  have hm : ∀ z : Int, 0 ≤ z % R ∧ z % R < R := fun z => ⟨Int.emod_nonneg z (by omega), Int.emod_lt_of_pos z (by omega)⟩
  have hk1 : (sendE (1 - (a : Int)) ((c + 3 : Nat) : Int) 1).Kind ≠ 1 := by unfold sendE; dsimp only; decide
  have hk2 : (sendE (1 - (a : Int)) ((c + 3 : Nat) : Int) 1).Kind ≠ 2 := by unfold sendE; dsimp only; decide
  have hf : (sendE (1 - (a : Int)) ((c + 3 : Nat) : Int) 1).First = 0 ∨ (sendE (1 - (a : Int)) ((c + 3 : Nat) : Int) 1).First = 1 := by unfold sendE; dsimp only; omega
  have hl : (SlaveStart.mk (b : Int) (a : Int)).Last = 1 - (sendE (1 - (a : Int)) ((c + 3 : Nat) : Int) 1).First := by unfold sendE; dsimp only; omega
  have hcount : (sendE (1 - (a : Int)) ((c + 3 : Nat) : Int) 1).Count.toNat = c + 3 := by unfold sendE; dsimp only; omega
  have s1 : (runP R (sendE (1 - (a : Int)) ((c + 3 : Nat) : Int) 1) [((k + 1 : Nat) : Int)] (c + 3) ⟨(b : Int), (a : Int)⟩).Shown = ((b : Int) + ((c + 3 : Nat) : Int) - 2) % R := by
    have := alt_lose (by omega) hk1 hf hT hl (k + 1) (c - k)
    rw [show k + 1 + 2 + (c - k) = c + 3 by omega] at this
    rw [this]
    dsimp only
    congr 1
    omega
  have s2 : (runP R (sendE (1 - (a : Int)) ((c + 3 : Nat) : Int) 1) [((c + 2 : Nat) : Int)] (c + 3) ⟨(b : Int), (a : Int)⟩).Shown = ((b : Int) + ((c + 3 : Nat) : Int) - 1) % R := by
    have h0 := alt_run (ls := [((c + 2 : Nat) : Int)]) (by omega) hk1 hf hT hl (c + 2) fun q hq => by simp; omega
    have h1 : runP R (sendE (1 - (a : Int)) ((c + 3 : Nat) : Int) 1) [((c + 2 : Nat) : Int)] (c + 2 + 1) ⟨(b : Int), (a : Int)⟩ = runP R (sendE (1 - (a : Int)) ((c + 3 : Nat) : Int) 1) [((c + 2 : Nat) : Int)] (c + 2) ⟨(b : Int), (a : Int)⟩ := by rw [runP]; rw [if_pos (by simp)]
    rw [show c + 3 = c + 2 + 1 from rfl, h1, h0]
    dsimp only
    congr 1
    omega
  have s3 : (runP R (sendE (1 - (a : Int)) ((c + 3 : Nat) : Int) 1) [] (c + 3) ⟨(b : Int), (a : Int)⟩).Shown = ((b : Int) + ((c + 3 : Nat) : Int)) % R := by
    rw [alt_run (ls := []) (by omega) hk1 hf hT hl (c + 3) fun q hq => by simp]
  have hIs : ∀ sh ls, 0 ≤ sh → sh < R → ls.length ≤ 1 → slave_IsStory ⟨R, [⟨(b : Int), (a : Int)⟩], [sendE (1 - (a : Int)) ((c + 3 : Nat) : Int) 1, lookE 0 sh]⟩ 0 [ls, []] = some (isB ⟨R, [⟨(b : Int), (a : Int)⟩], [sendE (1 - (a : Int)) ((c + 3 : Nat) : Int) 1, lookE 0 sh]⟩ 0 [ls, []], 0) := by
    intro sh ls h0 h1 hll
    obtain ⟨hS, hO⟩ := hline sh h0 h1
    rw [isStory_eq hO 0 _ (fun r hr => by
      rcases List.mem_cons.1 hr with rfl | hr
      · omega
      · rw [List.mem_singleton.1 hr]; simp)]
    unfold isF
    rw [if_pos hS.good, if_pos (by rw [inB_iff]; simp)]
    rfl
  have hB : ∀ sh ls, 0 ≤ sh → sh < R → (isB ⟨R, [⟨(b : Int), (a : Int)⟩], [sendE (1 - (a : Int)) ((c + 3 : Nat) : Int) 1, lookE 0 sh]⟩ 0 [ls, []] = true ↔ Loss (c + 3) ls ∧ (ls.length : Int) ≤ 1 ∧ sh = (runP R (sendE (1 - (a : Int)) ((c + 3 : Nat) : Int) 1) ls (c + 3) ⟨(b : Int), (a : Int)⟩).Shown) := by
    intro sh ls h0 h1
    have := two_is (s0 := ⟨(b : Int), (a : Int)⟩) hk2 (y := lookE 0 sh) rfl rfl (hline sh h0 h1).1 ls
    rw [hcount] at this
    exact this
  generalize hz : (b : Int) + ((c + 3 : Nat) : Int) - 2 = z at *
  have z1 : (b : Int) + ((c + 3 : Nat) : Int) - 1 = z + 1 := by omega
  have z2 : (b : Int) + ((c + 3 : Nat) : Int) = z + 2 := by omega
  rw [z1] at s2 ⊢
  rw [z2] at s3
  have b1 : isB ⟨R, [⟨(b : Int), (a : Int)⟩], [sendE (1 - (a : Int)) ((c + 3 : Nat) : Int) 1, lookE 0 (z % R)]⟩ 0 [[((k + 1 : Nat) : Int)], []] = true := (hB _ _ (hm z).1 (hm z).2).2 ⟨one_loss (by omega), by simp, s1.symm⟩
  have b2 : isB ⟨R, [⟨(b : Int), (a : Int)⟩], [sendE (1 - (a : Int)) ((c + 3 : Nat) : Int) 1, lookE 0 (z % R)]⟩ 0 [[((c + 2 : Nat) : Int)], []] = false := by
    rw [Bool.eq_false_iff, Ne, hB _ _ (hm z).1 (hm z).2, s2]
    exact fun h => mod_one (by omega) h.2.2
  have b3 : isB ⟨R, [⟨(b : Int), (a : Int)⟩], [sendE (1 - (a : Int)) ((c + 3 : Nat) : Int) 1, lookE 0 (z % R)]⟩ 0 [[], []] = decide (R = 2) := by
    rw [Bool.eq_iff_iff, hB _ _ (hm z).1 (hm z).2, s3, decide_eq_true_eq, mod_two (by omega)]
    exact ⟨fun h => h.2.2, fun h => ⟨Loss.nil _, by simp, h⟩⟩
  have b4 : isB ⟨R, [⟨(b : Int), (a : Int)⟩], [sendE (1 - (a : Int)) ((c + 3 : Nat) : Int) 1, lookE 0 ((z + 1) % R)]⟩ 0 [[((c + 2 : Nat) : Int)], []] = true := (hB _ _ (hm _).1 (hm _).2).2 ⟨one_loss (by omega), by simp, s2.symm⟩
  have b5 : isB ⟨R, [⟨(b : Int), (a : Int)⟩], [sendE (1 - (a : Int)) ((c + 3 : Nat) : Int) 1, lookE 0 ((z + 1) % R)]⟩ 0 [[((k + 1 : Nat) : Int)], []] = false := by
    rw [Bool.eq_false_iff, Ne, hB _ _ (hm _).1 (hm _).2, s1]
    exact fun h => mod_one (by omega) h.2.2.symm
  refine tdet (send_eq _ _ _) (tgrd (by omega) (tdet (look_eq _ _) ?_))
  refine tdet (hIs _ _ (hm z).1 (hm z).2 (by simp)) (tdet (hIs _ _ (hm z).1 (hm z).2 (by simp)) (tdet (hIs _ _ (hm z).1 (hm z).2 (by simp)) (tgrd (by omega) (tdet (look_eq _ _) (tgrd (by simp) ?_)))))
  rw [show ([sendE (1 - (a : Int)) ((c + 3 : Nat) : Int) 1, lookE 0 (z % R)]).set (Int.toNat 1) (lookE 0 ((z + 1) % R)) = [sendE (1 - (a : Int)) ((c + 3 : Nat) : Int) 1, lookE 0 ((z + 1) % R)] from rfl]
  refine tdet (hIs _ _ (hm _).1 (hm _).2 (by simp)) (tdet (hIs _ _ (hm _).1 (hm _).2 (by simp)) (fin_tells ?_))
  rw [b1, b2, b3, b4, b5, beqI R 2]
  simp
end Go.Proofs.YtmbgmefmkjeahaaDoor.Rt
