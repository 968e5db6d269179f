/- What the pure function of a law comes to. Under no conditions. -/
import Derived.Test.YthdbokigcfbgeaaDoorC11L11
import Derived.Test.YthdbokigcfbgeaaDoorC11QN
set_option linter.unusedVariables false
set_option linter.unusedSimpArgs false
set_option maxRecDepth 100000
set_option maxHeartbeats 4000000
namespace Go.Proofs.YthdbokigcfbgeaaDoor.Rt
open Go Go.RowKit
theorem find_pos (xs : List Int) (n : Int) (hl : (xs.length : Int) ≤ 9223372036854775807) : ∃ r, r0Find xs n = some r ∧ decide (r ≥ 0) = decide (n ∈ xs) := by
  obtain ⟨r, h1, h2⟩ := find_neg xs n hl
  refine ⟨r, h1, ?_⟩
  rw [Bool.eq_iff_iff, decide_eq_true_eq]
  rw [Bool.eq_iff_iff, decide_eq_true_eq] at h2
  cases hm : decide (n ∈ xs) with
  | true => rw [hm] at h2; simp at h2; simp; omega
  | false => rw [hm] at h2; simp at h2; simp; omega
theorem pure_11 (n : LineNet) (which : Int) (h : Ok_LineNet n) (_ : InR which) : remontoirlaw06_LineCut n which = some true := by
  unfold remontoirlaw06_LineCut
  rw [sound_eq n h, bind_s]
  cases hg : goodB n with
  | false => exact work_eq
  | true =>
    have hS := OkS.of hg
    have he1 := hS.e1; have he2 := hS.e2; have hnl := hS.nl
    rw [Bool.not_true, Bool.false_or, beqI]
    by_cases hL0 : n.Lines.length = 0
    · rw [decide_eq_true (show (n.Lines.length : Int) = 0 by omega), cond_true]; exact work_eq
    · rw [decide_eq_false (show ¬ (n.Lines.length : Int) = 0 by omega), cond_false]
      obtain ⟨c, ec, hc⟩ := rest_nat which (m := n.Lines.length) (by omega) (by omega)
      have hE : (n.Exchanges.toNat : Int) = n.Exchanges := Int.toNat_of_nonneg (by omega)
      have hcl1 := sureC_climb n (c : Int) n.Exchanges.toNat
      have hcl2 := mayC_climb n (c : Int) n.Exchanges.toNat
      rw [hE] at hcl1 hcl2
      have hl1 := surelyC_len n (c : Int) n.Exchanges.toNat
      have hl2 := mayCs_len n (c : Int) n.Exchanges.toNat
      have hcut : CutF n (c : Int) = (surelyC n (c : Int) n.Exchanges.toNat, mayCs n (c : Int) n.Exchanges.toNat, 0) := by
        unfold CutF
        rw [hg, if_pos rfl, if_pos (inB_iff.2 ⟨by omega, by omega⟩)]
      rw [ec, bind_s, Cut_eq h, bind_s, hcut]
      dsimp only
      rw [show ((0 : Int) != 0) = false from rfl, cond_false, Climbs_eq (by omega) (by omega) (by omega), bind_s, hcl1, Bool.not_true, bind_s, cond_false, Climbs_eq (by omega) (by omega) (by omega), bind_s, hcl2, Bool.not_true, bind_s, cond_false]
      have w1 : wr ((c : Int) + 1) = ((c + 1 : Nat) : Int) := wr_succ (by omega)
      rw [w1, Int.toNat_natCast, Int.toNat_natCast, if_pos (by omega), if_pos (by rw [List.length_nil, List.length_take]; unfold lim; omega), if_pos (by omega), if_pos (by rw [List.length_append, List.length_nil, List.length_take, List.length_drop]; unfold lim; omega)]
      have hSx := cut_ok hS hc
      have hOx := good_Ok hSx
      have hloop := loop_any (body := remontoirlaw06_LineCut_b1 n (c : Int) (surelyC n (c : Int) n.Exchanges.toNat, mayCs n (c : Int) n.Exchanges.toNat, 0)) (fun i : Nat => ((false : Bool), (i : Int))) (fun _ => false) (some false) (some true) n.Exchanges.toNat (fun k hk => ?_) (by
        unfold remontoirlaw06_LineCut_b1
        dsimp only
        rw [show decide (((n.Exchanges.toNat : Nat) : Int) < n.Exchanges) = false by simp; omega, cond_false, work_eq])
      · have hloop : loopU (remontoirlaw06_LineCut_b1 n (c : Int) (surelyC n (c : Int) n.Exchanges.toNat, mayCs n (c : Int) n.Exchanges.toNat, 0)) (false, 0) = _ := hloop
        rw [hloop]
        have : ((List.range n.Exchanges.toNat).any fun _ => false) = false := by rw [List.any_eq_false]; intro _ _ h; cases h
        rw [this]; rfl
      · obtain ⟨r1, e1, s1⟩ := find_pos (surelyC n (c : Int) n.Exchanges.toNat) (k : Int) (by omega)
        obtain ⟨r2, e2, s2⟩ := find_pos (mayCs n (c : Int) n.Exchanges.toNat) (k : Int) (by omega)
        have hx : LineNet.mk n.Exchanges (([] : List LineLine) ++ n.Lines.take c ++ n.Lines.drop (c + 1)) n.Hops n.Loops = cutN n c := by
          rw [List.nil_append]; rfl
        have hbody : remontoirlaw06_LineCut_b1 n (c : Int) (surelyC n (c : Int) n.Exchanges.toNat, mayCs n (c : Int) n.Exchanges.toNat, 0) (false, (k : Int)) =
            cond ((((((decide ((k : Int) ∈ surelyC n (c : Int) n.Exchanges.toNat)) && (decide ((k : Int) ∈ mayCs n (c : Int) n.Exchanges.toNat))) || (((decide ((k : Int) ∈ surelyC n (c : Int) n.Exchanges.toNat)) || (decide ((k : Int) ∈ mayCs n (c : Int) n.Exchanges.toNat))) && (errF n (k : Int) != 0))) || ((decide ((k : Int) ∈ surelyC n (c : Int) n.Exchanges.toNat)) && (errF (cutN n c) (k : Int) == 0))) || ((decide ((k : Int) ∈ mayCs n (c : Int) n.Exchanges.toNat)) && ((errF (cutN n c) (k : Int) != 0) || (decide (((RoutesF (cutN n c) (k : Int)).1.length : Int) ≥ ((RoutesF n (k : Int)).1.length : Int)))))) || (((!(decide ((k : Int) ∈ surelyC n (c : Int) n.Exchanges.toNat))) && (!(decide ((k : Int) ∈ mayCs n (c : Int) n.Exchanges.toNat)))) && (((errF (cutN n c) (k : Int) != errF n (k : Int)) && ((errF n (k : Int) != 62) || (errF (cutN n c) (k : Int) != 4))) || (((RoutesF (cutN n c) (k : Int)).1.length : Int) != ((RoutesF n (k : Int)).1.length : Int)))))
              (ext (some false)) (nxt (false, ((k + 1 : Nat) : Int))) := by
          unfold remontoirlaw06_LineCut_b1
          dsimp only
          rw [show decide ((k : Int) < n.Exchanges) = true by simp; omega, cond_true, Routes_eq h, bind_s, w1, Int.toNat_natCast, Int.toNat_natCast, hx, Routes_eq hOx, bind_s, e1, bind_s, e2, bind_s, s1, s2, RoutesF_err, RoutesF_err, wr_succ (by omega)]
        rw [hbody, if_neg (by simp)]
        have hcnt := cut_count hS hc (k : Int)
        have m1 : ((k : Int) ∈ surelyC n (c : Int) n.Exchanges.toNat) ↔ _ := mem_sureC
        have m2 : ((k : Int) ∈ mayCs n (c : Int) n.Exchanges.toNat) ↔ _ := mem_mayC
        have hk2 : (k : Int) < n.Exchanges := by omega
        by_cases a0 : cntF (routesF n (k : Int) 0) (c : Int) = 0
        · rw [decide_eq_false (fun g => (m1.1 g).2.1 a0), decide_eq_false (fun g => (m2.1 g).2.1 a0)]
          simp only [Bool.false_and, Bool.false_or, Bool.not_false, Bool.true_and]
          rcases errF_good hS (e := (k : Int)) (by omega) hk2 with ⟨hz, hne⟩ | ⟨hz, hem, hal⟩ | ⟨hz, hal, hem⟩
          · have hpos : 0 < (routesF n (k : Int) 0).length := List.length_pos_iff.2 hne
            have hzx : errF (cutN n c) (k : Int) = 0 := errF_zero hSx (by omega) hk2 fun g => by rw [g] at hcnt; simp only [List.length_nil] at hcnt; omega
            rw [hz, hzx, RoutesF_ok hz, RoutesF_ok hzx]
            dsimp only
            rw [show ((routesF (cutN n c) (k : Int) 0).length : Int) = ((routesF n (k : Int) 0).length : Int) by omega, bnI, bnI]
            rfl
          · have hemx : routesF (cutN n c) (k : Int) 0 = [] := List.eq_nil_of_length_eq_zero (by rw [hem] at hcnt; simp only [List.length_nil] at hcnt; omega)
            rw [RoutesF_bad (n := n) (by rw [hz]; decide), hz]
            rcases errF_good hSx (e := (k : Int)) (by omega) hk2 with ⟨hzx, hne⟩ | ⟨hzx, _⟩ | ⟨hzx, _⟩
            · exact absurd hemx hne
            · rw [RoutesF_bad (n := cutN n c) (by rw [hzx]; decide), hzx]; rfl
            · rw [RoutesF_bad (n := cutN n c) (by rw [hzx]; decide), hzx]; rfl
          · have halx : allF (cutN n c) (k : Int) = [] := by rw [cut_all hc, hal]; rfl
            rw [RoutesF_bad (n := n) (by rw [hz]; decide), hz]
            rcases errF_good hSx (e := (k : Int)) (by omega) hk2 with ⟨hzx, hne⟩ | ⟨hzx, _, hne⟩ | ⟨hzx, _⟩
            · rw [routesF_all, halx] at hne; exact absurd rfl hne
            · exact absurd halx hne
            · rw [RoutesF_bad (n := cutN n c) (by rw [hzx]; decide), hzx]; rfl
        · have hne : routesF n (k : Int) 0 ≠ [] := fun g => by rw [g] at a0; exact a0 rfl
          have hz := errF_zero hS (e := (k : Int)) (by omega) hk2 hne
          rw [hz]
          by_cases a1 : cntF (routesF n (k : Int) 0) (c : Int) = (routesF n (k : Int) 0).length
          · have hemx : routesF (cutN n c) (k : Int) 0 = [] := List.eq_nil_of_length_eq_zero (by omega)
            rw [decide_eq_true (m1.2 ⟨hk, a0, a1⟩), decide_eq_false (fun g => (m2.1 g).2.2 a1)]
            rcases errF_good hSx (e := (k : Int)) (by omega) hk2 with ⟨hzx, hne2⟩ | ⟨hzx, _⟩ | ⟨hzx, _⟩
            · exact absurd hemx hne2
            · rw [hzx]; rfl
            · rw [hzx]; rfl
          · have hlt := cntF_len (routesF n (k : Int) 0) (c : Int)
            have hzx : errF (cutN n c) (k : Int) = 0 := errF_zero hSx (by omega) hk2 fun g => by rw [g] at hcnt; simp only [List.length_nil] at hcnt; omega
            rw [decide_eq_false (fun g => a1 (m1.1 g).2.2), decide_eq_true (m2.2 ⟨hk, a0, a1⟩), hzx, RoutesF_ok hz, RoutesF_ok hzx]
            dsimp only
            rw [decide_eq_false (show ¬ ((routesF (cutN n c) (k : Int) 0).length : Int) ≥ ((routesF n (k : Int) 0).length : Int) by omega)]
            rfl
end Go.Proofs.YthdbokigcfbgeaaDoor.Rt
