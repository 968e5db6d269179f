/- What the pure function of a law comes to. Under no conditions. -/
import Derived.Test.YthdbokigcfbgeaaDoorC8L8
import Derived.Test.YthdbokigcfbgeaaDoorC8QP
set_option linter.unusedVariables false
set_option linter.unusedSimpArgs false
set_option maxRecDepth 100000
set_option maxHeartbeats 4000000
namespace Go.Proofs.YthdbokigcfbgeaaDoor.Rt
open Go Go.RowKit
def onL (n : LineNet) (ls : List (List Int)) (p : List Int) : List Int := (List.range n.Lines.length).map fun (j : Nat) => (cntF ls (j : Int) : Int) + (if (j : Int) ∈ p then 1 else 0)
theorem onL_len (n : LineNet) (ls : List (List Int)) (p : List Int) : (onL n ls p).length = n.Lines.length := by unfold onL; simp
theorem onL_get {n : LineNet} {ls : List (List Int)} {p : List Int} {j : Nat} (hj : j < n.Lines.length) : (onL n ls p)[j]? = some ((cntF ls (j : Int) : Int) + (if (j : Int) ∈ p then 1 else 0)) := by
  unfold onL
  rw [List.getElem?_map, List.getElem?_range hj]; rfl
theorem onL_set {n : LineNet} {ls : List (List Int)} {p : List Int} {a : Nat} (ha : a < n.Lines.length) (hp : (a : Int) ∉ p) : (onL n ls p).set a ((cntF ls (a : Int) : Int) + 1) = onL n ls (p ++ [(a : Int)]) := by
  apply List.ext_getElem?
  intro j
  rw [List.getElem?_set, onL_len]
  by_cases hj : j < n.Lines.length
  · rw [onL_get hj, onL_get hj]
    by_cases e : a = j
    · subst e
      rw [if_pos rfl, if_pos ha, if_pos (by simp)]
    · rw [if_neg e]
      have : (j : Int) ∈ p ++ [(a : Int)] ↔ (j : Int) ∈ p := by
        rw [List.mem_append, List.mem_singleton]
        constructor
        · rintro (h | h)
          · exact h
          · omega
        · exact .inl
      by_cases hm : (j : Int) ∈ p
      · rw [if_pos hm, if_pos (this.2 hm)]
      · rw [if_neg hm, if_neg (fun g => hm (this.1 g))]
  · rw [if_neg (by omega), List.getElem?_eq_none (by rw [onL_len]; omega), List.getElem?_eq_none (by rw [onL_len]; omega)]
theorem onL_next {n : LineNet} {ls : List (List Int)} {w : List Int} : onL n ls w = onL n (ls ++ [w]) [] := by
  unfold onL
  apply List.map_congr_left
  intro j _
  have : cntF (ls ++ [w]) (j : Int) = cntF ls (j : Int) + (if (j : Int) ∈ w then 1 else 0) := by
    unfold cntF
    rw [List.filter_append, List.length_append]
    congr 1
    by_cases h : (j : Int) ∈ w
    · rw [if_pos h, List.filter_cons_of_pos (by simpa using h)]; rfl
    · rw [if_neg h, List.filter_cons_of_neg (by simpa using h)]; rfl
  rw [this]
  by_cases h : (j : Int) ∈ w <;> simp [h]
theorem find_ge (xs : List Int) (n : Int) (hl : (xs.length : Int) ≤ 9223372036854775807) : ∃ r, r0Find xs n = some r ∧ decide (r ≥ 0) = decide (n ∈ xs) := by
  obtain ⟨r, h1, h2⟩ := find_neg xs n hl
  refine ⟨r, h1, ?_⟩
  cases hm : decide (n ∈ xs) with
  | true => rw [hm] at h2; simp at h2; simp; omega
  | false => rw [hm] at h2; simp at h2; simp; omega
theorem way_walk {n : LineNet} (hS : OkS n) {to : Int} {ls : List (List Int)} (hls : ls.length ≤ 100000000) {w : List Int} (hw : w ∈ routesF n to 0) (i : Nat) (hi : i ≤ 100000000) :
    loopU (remontoirlaw06_LineListed_b2 n to (i : Int) w) (false, 0, 1, 0, onL n ls [], 0, 0) = nxt (false, ((i + 1 : Nat) : Int), onL n (ls ++ [w]) []) := by
  have hnl := hS.nl; have hno := hS.no; have he2 := hS.e2
  obtain ⟨r1, r2, r3⟩ := (mem_routesF hS to 0 w).1 hw
  have hok := routes_ok hS hw
  have hlen := hok.len
  obtain ⟨U, hU⟩ := trk_trkV r2
  have hnd := trk_nodup w 0 [0] to r2 (by simp)
  have hbd := delayAt_bd hS
  refine loopU_for (fun k (s : Bool × Int × Int × Int × List Int × Int × Int) => ∃ (V : List Int) (t : Nat), s = (false, s.2.1, (t : Int), (k : Int), onL n ls (w.take k), lowF n (w.take k), highF n (w.take k)) ∧ trkV n 0 [0] (w.take k) = some (s.2.1, V) ∧ Bits t V) w.length
    (Post := fun o => o = nxt (false, ((i + 1 : Nat) : Int), onL n (ls ++ [w]) [])) ⟨[0], 1, rfl, rfl, Bits.start⟩ ?_ ?_
  · rintro k ⟨v, a, mt, k2, l1, z, z1⟩ hk ⟨V, t, hs, hT, hB⟩
    simp only [Prod.mk.injEq] at hs
    obtain ⟨rfl, _, rfl, rfl, rfl, rfl, rfl⟩ := hs
    simp only at hT
    have hsplit : trkV n 0 [0] (w.take (k + 1)) = (trkV n 0 [0] (w.take k)).bind fun p => match oth n p.1 (w[k]).toNat with | none => none | some t => if 0 ≤ w[k] ∧ t ∉ p.2 then some (t, t :: p.2) else none := by
      rw [List.take_succ_eq_append_getElem hk, trkV_snoc]
      rfl
    have hsome : ∃ p, trkV n 0 [0] (w.take (k + 1)) = some p := by
      have key : ∀ (u v : List Int) (a : Int) (V : List Int) (p : Int × List Int), trkV n a V (u ++ v) = some p → ∃ q, trkV n a V u = some q := by
        intro u
        induction u with
        | nil => intro v a V p _; exact ⟨_, rfl⟩
        | cons f u ih =>
          intro v a V p h
          simp only [List.cons_append, trkV] at h ⊢
          rcases ho : oth n a f.toNat with _ | t
          · rw [ho] at h; cases h
          · rw [ho] at h
            dsimp only at h ⊢
            split at h
            · next hc => rw [if_pos hc]; exact ih v _ _ p h
            · cases h
      exact key (w.take (k + 1)) (w.drop (k + 1)) 0 [0] (to, U) (by rw [List.take_append_drop]; exact hU)
    obtain ⟨p, hp⟩ := hsome
    obtain ⟨c, ec, hc⟩ := hok.is _ (List.getElem_mem hk)
    rw [hp, hT, bind_s, ec, Int.toNat_natCast] at hsplit
    dsimp only at hsplit
    rcases ho : oth n a c with _ | tt
    · rw [ho] at hsplit; cases hsplit
    · rw [ho] at hsplit
      dsimp only at hsplit
      split at hsplit
      · next hcc =>
        obtain rfl := Option.some.inj hsplit
        obtain ⟨j, rfl, hj, hj7⟩ := oth_nat hS ho
        obtain ⟨_, g1, g2⟩ := oth_sum ho
        have hL := hS.at hc
        have f1 := hL.f1; have f2 := hL.f2; have t1 := hL.t1; have t2 := hL.t2
        have ha : 0 ≤ a ∧ a < 7 := by rcases g1 with g1 | g1 <;> omega
        have hnot : (c : Int) ∉ w.take k := by
          intro hm
          rw [← List.take_append_drop k w] at hnd
          have hd := (List.nodup_append.1 hnd).2.2
          have : (c : Int) ∈ w.drop k := by rw [List.drop_eq_getElem_cons hk, ec]; simp
          exact hd _ hm _ this rfl
        have hdl : delayAt n (c : Int) = n.Lines[c].Delay := by unfold delayAt; rw [Int.toNat_natCast, List.getElem?_eq_getElem hc]; rfl
        have b1 := low_bd hS (w.take k); have b2 := high_bd hS (w.take k)
        rw [List.length_take] at b1 b2
        have b3 := hbd (c : Int)
        rw [hdl] at b3
        refine ⟨(false, (j : Int), ((t ||| 2 ^ j : Nat) : Int), ((k + 1 : Nat) : Int), onL n ls (w.take (k + 1)), lowF n (w.take (k + 1)), highF n (w.take (k + 1))), ?_, (j : Int) :: V, t ||| 2 ^ j, rfl, hp, (hB.add hj7).2⟩
        unfold remontoirlaw06_LineListed_b2 r0To
        dsimp only
        have e1 : wr (wr (n.Lines[c].From + n.Lines[c].To) - a) = (j : Int) := by
          rw [wr_id' (n := n.Lines[c].From + n.Lines[c].To) (by omega) (by omega), g2, wr_id' (by omega) (by omega)]
        have hin : inB (c : Int) 0 ((n.Lines.length : Int) - 1) = true := inB_iff.2 ⟨by omega, by omega⟩
        have hne : ((n.Lines[c].From != a) && (n.Lines[c].To != a)) = false := by
          rcases g1 with g1 | g1
          · rw [g1, bnI, Bool.false_and]
          · rw [g1, bnI, Bool.and_false]
        have hidx : idx (onL n ls (w.take k)) (c : Int) = some ((cntF ls (c : Int) : Int) + 0) := idx_nat (by rw [onL_get hc, if_neg hnot])
        have hcl := cntF_len ls (c : Int)
        rw [lt_t hk, cond_true, idx_get hk, bind_s, ec, Lies_eq, wr_id' (n := (n.Lines.length : Int) - 1) (by omega) (by omega), bind_s, hin, Bool.not_true, cond_false, idx_get hc, bind_s, hne, cond_false, e1, hB.in hj7, bind_s, decide_eq_false hcc.2, cond_false, if_pos (by omega), hidx, bind_s, onL_len, if_pos (by omega), bind_s, (hB.add hj7).1, wr_succ (by omega), Int.add_zero, wr_id' (n := (cntF ls (c : Int) : Int) + 1) (by omega) (by omega), Int.toNat_natCast, onL_set hc hnot, wr_id' (n := lowF n (w.take k) + n.Lines[c].Delay.Low) (by omega) (by omega), wr_id' (n := highF n (w.take k) + n.Lines[c].Delay.High) (by omega) (by omega)]
        have h3 : lowF n (w.take (k + 1)) = lowF n (w.take k) + n.Lines[c].Delay.Low := by unfold lowF; rw [List.take_succ_eq_append_getElem hk, List.map_append, List.sum_append, ec, ← hdl]; simp
        have h4 : highF n (w.take (k + 1)) = highF n (w.take k) + n.Lines[c].Delay.High := by unfold highF; rw [List.take_succ_eq_append_getElem hk, List.map_append, List.sum_append, ec, ← hdl]; simp
        rw [h3, h4, List.take_succ_eq_append_getElem hk, ec]
      · cases hsplit
  · rintro ⟨v, a, mt, k2, l1, z, z1⟩ ⟨V, t, hs, hT, hB⟩
    simp only [Prod.mk.injEq] at hs
    obtain ⟨rfl, _, rfl, rfl, rfl, rfl, rfl⟩ := hs
    simp only at hT
    rw [List.take_length] at hT
    rw [hU] at hT
    have hat : to = a := congrArg Prod.fst (Option.some.inj hT)
    subst hat
    refine ⟨loopU (remontoirlaw06_LineListed_b3 n to (i : Int) false to (onL n ls w)) (0, lowF n w, highF n w), by unfold remontoirlaw06_LineListed_b2; dsimp only; rw [lt_f, cond_false, List.take_length], ?_⟩
    refine loopU_for (fun q (s : Int × Int × Int) => s = ((q : Int), lpF n to 0 q (lowF n w, highF n w))) n.Loops.length (Post := fun o => o = nxt (false, ((i + 1 : Nat) : Int), onL n (ls ++ [w]) [])) rfl ?_ ?_
    · rintro q _ hq rfl
      have hx := hS.lo hq
      have := hx.r1; have := hx.r2; have := hx.r3
      refine ⟨((q + 1 : Nat), lpF n to 0 (q + 1) (lowF n w, highF n w)), ?_, rfl⟩
      unfold remontoirlaw06_LineListed_b3 r0Both r0To
      dsimp only
      rw [lt_t hq, cond_true, idx_get hq, bind_s, beqI, wr_succ (by omega), lpF, List.getElem?_eq_getElem hq, Ceil2 hx.r1 (by omega), Floor2 (by omega) (by omega)]
      simp only [bind_s, Nat.zero_testBit, true_and]
      unfold loL hiL
      by_cases he : n.Loops[q].Exchange = to
      · rw [if_pos he, decide_eq_true he]; rfl
      · rw [if_neg he, decide_eq_false he]; rfl
    · rintro _ rfl
      refine ⟨_, ?_, rfl⟩
      unfold remontoirlaw06_LineListed_b3
      dsimp only
      unfold canW spF at r3
      simp only [decide_eq_true_eq] at r3
      rw [lt_f, cond_false, bnI, decide_eq_false (by omega), Bool.or_false, cond_false, wr_succ (by omega), onL_next]
theorem pure_8 (n : LineNet) (exchange : Int) (h : Ok_LineNet n) (_ : InR exchange) : remontoirlaw06_LineListed n exchange = some true := by
  unfold remontoirlaw06_LineListed
  rw [sound_eq n h, bind_s]
  cases hg : goodB n with
  | false => exact work_eq
  | true =>
    have hS := OkS.of hg
    have he1 := hS.e1; have he2 := hS.e2; have hnl := hS.nl; have hh1 := hS.h1
    obtain ⟨to, et, hto⟩ := rest_natI exchange (m := n.Exchanges) (by omega) (by omega)
    rw [Bool.not_true, cond_false, et, bind_s, Routes_eq h, bind_s, Surely_eq h, bind_s, RoutesF_err, SurelyF_err, bnI, Bool.false_or]
    by_cases hz : errF n (to : Int) = 0
    · obtain ⟨_, _, _, hne⟩ := errF_ok hz
      have hpos : 0 < (routesF n (to : Int) 0).length := List.length_pos_iff.2 hne
      have hp := p126
      have hrl := routes_len hS (to : Int) 0
      rw [hz, show ((0 : Int) != 0) = false from rfl, cond_false, RoutesF_ok hz, show SurelyF n (to : Int) = (surelyF n (to : Int), 0) from if_pos hz, if_pos (by unfold mlim; omega), Int.toNat_natCast]
      have hstart : (List.replicate n.Lines.length (0 : Int)) = onL n [] [] := by
        apply List.ext_getElem?
        intro j
        by_cases hj : j < n.Lines.length
        · rw [onL_get hj, List.getElem?_replicate, if_pos hj]; rfl
        · rw [List.getElem?_eq_none (by rw [List.length_replicate]; omega), List.getElem?_eq_none (by rw [onL_len]; omega)]
      rw [hstart]
      refine loopU_for (fun i (s : Bool × Int × List Int) => s = (false, (i : Int), onL n ((routesF n (to : Int) 0).take i) [])) (routesF n (to : Int) 0).length (Post := fun o => o = some true) rfl ?_ ?_
      · rintro i _ hi rfl
        have hmem := List.getElem_mem hi
        have hw := (mem_routesF hS (to : Int) 0 _).1 hmem
        have hwl := (routes_ok hS hmem).len
        refine ⟨(false, ((i + 1 : Nat) : Int), onL n ((routesF n (to : Int) 0).take (i + 1)) []), ?_, rfl⟩
        unfold remontoirlaw06_LineListed_b1 r0To
        dsimp only
        have ht4 : (cond (decide (((routesF n (to : Int) 0)[i].length : Int) > n.Hops)) (some true) ((cond (decide ((i : Int) > 0)) ((idx (routesF n (to : Int) 0) (wr ((i : Int) - 1))).bind fun e_1 =>
            (cond (decide (((routesF n (to : Int) 0)[i].length : Int) < (e_1.length : Int))) (some true) ((cond (((routesF n (to : Int) 0)[i].length : Int) == (e_1.length : Int)) ((r0Ahead e_1 (routesF n (to : Int) 0)[i]).bind fun rv_6 => some (!rv_6)) (some false)).bind fun t_1 => some t_1)).bind fun t_2 => some t_2) (some false)).bind fun t_3 => some t_3)) = some false := by
          rw [decide_eq_false (by omega), cond_false]
          by_cases h0 : i = 0
          · subst h0
            rw [decide_eq_false (by decide)]; rfl
          · have hi1 : i - 1 < (routesF n (to : Int) 0).length := by omega
            have e1 : wr ((i : Int) - 1) = ((i - 1 : Nat) : Int) := by rw [wr_id' (by omega) (by omega)]; omega
            have hord := List.pairwise_iff_getElem.1 (routes_pair n (to : Int) 0) (i - 1) i hi1 hi (by omega)
            have hwl1 := (routes_ok hS (List.getElem_mem hi1)).len
            rw [decide_eq_true (show (i : Int) > 0 by omega), cond_true, e1, idx_get hi1, bind_s, beqI]
            rcases hord with ho | ⟨ho1, ho2⟩
            · rw [decide_eq_false (by omega), cond_false, decide_eq_false (by omega), cond_false]; rfl
            · rw [decide_eq_false (by omega), cond_false, decide_eq_true (by omega), cond_true, Ahead_eq _ _ ho1 (by omega), (lex_lt _ _ ho1).2 ho2]; rfl
        rw [lt_t hi, cond_true, idx_get hi, bind_s, ht4, bind_s, cond_false, bind_s]
        dsimp only
        rw [way_walk hS (by rw [List.length_take]; omega) hmem i (by omega), List.take_succ_eq_append_getElem hi]
      · rintro _ rfl
        refine ⟨loopU (remontoirlaw06_LineListed_b4 n (routesF n (to : Int) 0, 0) (surelyF n (to : Int), 0) (onL n (routesF n (to : Int) 0) [])) (false, 0), by unfold remontoirlaw06_LineListed_b1; dsimp only; rw [lt_f, cond_false, List.take_length], ?_⟩
        have hsl := surelyF_len hS (to : Int)
        have hloop := loop_any (body := remontoirlaw06_LineListed_b4 n (routesF n (to : Int) 0, 0) (surelyF n (to : Int), 0) (onL n (routesF n (to : Int) 0) [])) (fun i : Nat => ((false : Bool), (i : Int))) (fun _ => false) (some false) (some true) n.Lines.length (fun i hi => ?_) ?_
        · have hloop : loopU (remontoirlaw06_LineListed_b4 n (routesF n (to : Int) 0, 0) (surelyF n (to : Int), 0) (onL n (routesF n (to : Int) 0) [])) (false, 0) = _ := hloop
          rw [hloop]
          have : ((List.range n.Lines.length).any fun _ => false) = false := by rw [List.any_eq_false]; intro _ _ h; cases h
          rw [this]; rfl
        · unfold remontoirlaw06_LineListed_b4
          dsimp only
          obtain ⟨r, e1, e2⟩ := find_ge (surelyF n (to : Int)) (i : Int) (by omega)
          have hidx : idx (onL n (routesF n (to : Int) 0) []) (i : Int) = some ((cntF (routesF n (to : Int) 0) (i : Int) : Int) + 0) := idx_nat (by rw [onL_get hi, if_neg (by simp)])
          rw [lt_t hi, cond_true, hidx, bind_s, e1, bind_s, e2, Int.add_zero, beqI, wr_succ (by omega)]
          have hiff : ((cntF (routesF n (to : Int) 0) (i : Int) : Int) = ((routesF n (to : Int) 0).length : Int)) ↔ (i : Int) ∈ surelyF n (to : Int) := by
            rw [mem_surelyF, ← cntF_all]
            constructor
            · intro g; exact ⟨hi, by omega⟩
            · intro g; omega
          have : (decide ((cntF (routesF n (to : Int) 0) (i : Int) : Int) = ((routesF n (to : Int) 0).length : Int)) != decide ((i : Int) ∈ surelyF n (to : Int))) = false := by
            by_cases g : (i : Int) ∈ surelyF n (to : Int)
            · rw [decide_eq_true g, decide_eq_true (hiff.2 g)]; rfl
            · rw [decide_eq_false g, decide_eq_false (fun q => g (hiff.1 q))]; rfl
          rw [this]; rfl
        · unfold remontoirlaw06_LineListed_b4
          dsimp only
          rw [lt_f, cond_false, decide_eq_true (show ((routesF n (to : Int) 0).length : Int) > 0 by omega), cond_true, Climbs_eq (by omega) (by omega) (by omega), bind_s, surelyF_climb, bind_s]
          rw [fin_eq rfl]
    · rw [ne0 hz, cond_true, beI, Bool.true_and, RoutesF_bad hz, show SurelyF n (to : Int) = ([], errF n (to : Int)) from if_neg hz]
      refine fin_eq ?_
      rcases errF_good hS (e := (to : Int)) (by omega) hto with ⟨g, _⟩ | ⟨g, _⟩ | ⟨g, _⟩
      · exact absurd g hz
      · rw [g]; rfl
      · rw [g]; rfl
end Go.Proofs.YthdbokigcfbgeaaDoor.Rt
