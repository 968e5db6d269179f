/- What the pure function of a law comes to. Under the conditions that it names. -/
import Derived.Test.YtidmdgjgpmeecaaDoorL9
import Derived.Test.YtidmdgjgpmeecaaDoorPK
set_option linter.unusedVariables false
set_option linter.unusedSimpArgs false
set_option maxRecDepth 100000
set_option maxHeartbeats 4000000
namespace Go.Proofs.YtidmdgjgpmeecaaDoor.Rt
open Go Go.RowKit

/-- turns that numbers choose: what they fulfil anyway -/
structure TF (s : SpareStore) (l : List SpareTurn) : Prop where
  a : ∀ i < l.length, 0 ≤ (tk l i).Machine ∧ (tk l i).Machine < s.Machines.length ∧ 0 ≤ (tk l i).Over ∧ (tk l i).Over < s.Hours ∧ -500 ≤ (tk l i).Start ∧ (tk l i).Start ≤ 500
  b : ∀ i < l.length, ∀ j < i, (tk l j).Machine ≠ (tk l i).Machine
  z : 0 < l.length → (tk l 0).Over = 0
theorem tk_snoc (l : List SpareTurn) (t : SpareTurn) (i : Nat) (h : i < (l ++ [t]).length) : (i < l.length ∧ tk (l ++ [t]) i = tk l i) ∨ (i = l.length ∧ tk (l ++ [t]) i = t) := by
  simp only [List.length_append, List.length_singleton] at h
  unfold tk
  simp only [List.getD_eq_getElem?_getD]
  by_cases h1 : i < l.length
  · exact .inl ⟨h1, by rw [List.getElem?_append_left h1]⟩
  · have : i = l.length := by omega
    subst this
    exact .inr ⟨rfl, by rw [List.getElem?_append_right (by omega)]; simp⟩
theorem TF.snoc {s : SpareStore} {l : List SpareTurn} (h : TF s l) {t : SpareTurn} (h1 : 0 ≤ t.Machine) (h2 : t.Machine < s.Machines.length) (h3 : 0 ≤ t.Over) (h4 : t.Over < s.Hours) (h5 : -500 ≤ t.Start) (h6 : t.Start ≤ 500)
    (hb : ∀ i < l.length, (tk l i).Machine ≠ t.Machine) (hz : l.length = 0 → t.Over = 0) : TF s (l ++ [t]) := by
  refine ⟨fun i hi => ?_, fun i hi j hj => ?_, fun h0 => ?_⟩
  · rcases tk_snoc l t i hi with ⟨a, e⟩ | ⟨a, e⟩
    · rw [e]; exact h.a i a
    · rw [e]; exact ⟨h1, h2, h3, h4, h5, h6⟩
  · rcases tk_snoc l t i hi with ⟨a, e⟩ | ⟨a, e⟩ <;> rcases tk_snoc l t j (by omega) with ⟨c, e2⟩ | ⟨c, e2⟩
    · rw [e, e2]; exact h.b i a j hj
    · omega
    · rw [e, e2]; exact hb j c
    · omega
  · rcases tk_snoc l t 0 h0 with ⟨a, e⟩ | ⟨a, e⟩
    · rw [e]; exact h.z a
    · rw [e]; exact hz a.symm
theorem tried_spec {sv : SpareStore} (hs : Ok_SpareStore sv) (hS : OkS sv) {bits : List Int} (hb : OkL InR bits) : ∃ l, remontoirlaw08_tried sv bits = some l ∧ TF sv l ∧ 0 < l.length ∧ l.length ≤ sv.Machines.length := by
  have hn := hS.n2; have hn1 := hS.n1; have hh1 := hS.h1; have hh2 := hS.h2
  unfold remontoirlaw08_tried
  have key : ∀ (k i : Nat) (out : List SpareTurn) (now : Int) (u : Nat), i + k = sv.Machines.length → out.length ≤ i → (0 < i → 0 < out.length) → TF sv out → 0 ≤ now → now < sv.Hours → (out.length = 0 → now = 0) → u < 256 →
      (∀ m < 8, u.testBit m = true ↔ ∃ i < out.length, (tk out i).Machine = (m : Int)) →
      ∃ l, loopU (remontoirlaw08_tried_b2 sv bits) (out, now, (u : Int), (i : Int)) = some l ∧ TF sv l ∧ 0 < l.length ∧ l.length ≤ sv.Machines.length := by
    intro k
    induction k with
    | zero =>
      intro i out now u h hl hp ho hnow hnow2 hz hu hbits
      have e : i = sv.Machines.length := by omega
      subst e
      exact ⟨out, loopU_ext (by simp only [remontoirlaw08_tried_b2, lt_f, cond_false, remontoirlaw08_tried_k1]), ho, hp (by omega), hl⟩
    | succ k ih =>
      intro i out now u h hl hp ho hnow hnow2 hz hu8 hbits
      have hi : i < sv.Machines.length := by omega
      have wi : wr ((i : Int) + 1) = ((i + 1 : Nat) : Int) := wr_id' (by omega) (by omega)
      obtain ⟨v1, a1⟩ := At_any bits hb.1 (wr (2 * (i : Int)))
      obtain ⟨v2, a2, a3, a4⟩ := rest_any v1 (by_ := (sv.Machines.length : Int)) (by omega) (by omega)
      obtain ⟨m, rfl⟩ := Int.eq_ofNat_of_zero_le a3
      have hm : m < sv.Machines.length := by omega
      obtain ⟨v3, b1⟩ := At_any bits hb.1 (wr (wr (2 * (i : Int)) + 1))
      obtain ⟨v4, b2, b3, b4⟩ := rest_any v3 (by_ := 3) (by decide) (by decide)
      obtain ⟨v5, c1⟩ := At_any bits hb.1 (wr ((i : Int) + 3))
      have hin := In_eq (u : Int) (show (0 : Int) ≤ (m : Int) by omega)
      have hset : inSetB (u : Int) (m : Int) = u.testBit m := inS hu8 (by omega)
      rw [hset] at hin
      cases hu : u.testBit m with
      | true =>
        rw [loopU_nxt (s' := (out, now, (u : Int), ((i + 1 : Nat) : Int))) (by
          simp only [remontoirlaw08_tried_b2, lt_t hi, cond_true, a1, a2, bind_s]
          rw [hin, hu]
          simp only [bind_s, cond_true, remontoirlaw08_tried_k3, wi])]
        obtain ⟨q, hq, _⟩ := (hbits m (by omega)).1 hu
        exact ih (i + 1) out now u (by omega) (by omega) (fun _ => by omega) ho hnow hnow2 hz hu8 hbits
      | false =>
        have hM := hS.mach hm
        have f1 := hM.f1; have f2 := hM.f2; have w1 := hM.w1; have w2 := hM.w2; have l1 := hM.l1; have l2 := hM.l2; have l3 := hM.l3
        have e1 : wr (now - (mach sv m).Warm) = now - (mach sv m).Warm := wr_id' (by omega) (by omega)
        have e2 : wr (now - (mach sv m).Warm - v4) = now - (mach sv m).Warm - v4 := wr_id' (by omega) (by omega)
        have e3 : wr (wr (now - (mach sv m).Warm - v4 + (mach sv m).Life.Low) - now) = now - (mach sv m).Warm - v4 + (mach sv m).Life.Low - now := by
          rw [wr_id' (n := now - (mach sv m).Warm - v4 + (mach sv m).Life.Low) (by omega) (by omega), wr_id' (by omega) (by omega)]
        obtain ⟨q, hq⟩ : ∃ q : Int, q = now - (mach sv m).Warm - v4 + (mach sv m).Life.Low - now := ⟨_, rfl⟩
        rw [← hq] at e3
        have hmx : 0 < (if (if q > 1 then q else 1) < sv.Hours then (if q > 1 then q else 1) else sv.Hours) ∧ (if (if q > 1 then q else 1) < sv.Hours then (if q > 1 then q else 1) else sv.Hours) ≤ 500 := by
          constructor <;> (repeat' split) <;> omega
        obtain ⟨v6, d1, d2, d3⟩ := rest_any v5 hmx.1 (by omega)
        have e4 : wr (1 + v6) = 1 + v6 := wr_id' (by omega) (by omega)
        have e5 : wr (now + (1 + v6)) = now + (1 + v6) := wr_id' (by omega) (by omega)
        obtain ⟨t, ht⟩ : ∃ t, t = SpareTurn.mk (m : Int) (if (mach sv m).From > now - (mach sv m).Warm - v4 then (mach sv m).From else now - (mach sv m).Warm - v4) now := ⟨_, rfl⟩
        have hno : ∀ j < out.length, (tk out j).Machine ≠ (m : Int) := fun j hj e => by
          have := (hbits m (by omega)).2 ⟨j, hj, e⟩
          rw [hu] at this; cases this
        have hTF : TF sv (out ++ [t]) := by
          refine ho.snoc (by rw [ht]; exact a3) (by rw [ht]; exact a4) (by rw [ht]; exact hnow) (by rw [ht]; exact hnow2) ?_ ?_ (fun j hj => by rw [ht]; exact hno j hj) (fun h0 => by rw [ht]; exact hz h0)
          · rw [ht]; dsimp only; split <;> omega
          · rw [ht]; dsimp only; split <;> omega
        have hlen : out.length + ([t]).length ≤ lim := by
          simp only [List.length_singleton, lim]; omega
        have hlen2 : (out ++ [t]).length = out.length + 1 := by simp
        have hstep : remontoirlaw08_tried_b2 sv bits (out, now, (u : Int), (i : Int)) = cond (decide (now + (1 + v6) ≥ sv.Hours)) (ext (remontoirlaw08_tried_k1 (out ++ [t]))) (remontoirlaw08_tried_k3 (i : Int) (out ++ [t]) (now + (1 + v6)) (bitsOp .or (u : Int) (gshl 1 (m : Int)))) := by
          simp only [remontoirlaw08_tried_b2, lt_t hi, cond_true, a1, a2, bind_s]
          rw [hin, hu]
          simp only [bind_s, cond_false, idx_mach hm, b1, b2]
          rw [e1, e2, ← ht, if_pos hlen, if_pos (by omega), e3]
          simp only [c1, d1, bind_s]
          rw [e4, e5]
        cases hd : decide (now + (1 + v6) ≥ sv.Hours) with
        | true =>
          refine ⟨out ++ [t], loopU_ext (o := some (out ++ [t])) (by rw [hstep, hd]; rfl), hTF, by omega, by omega⟩
        | false =>
          have hlt : now + (1 + v6) < sv.Hours := by simpa using hd
          have hor : bitsOp .or (u : Int) (gshl 1 (m : Int)) = ((u + 2 ^ m : Nat) : Int) := by
            rw [dec_or u hu8 m (by omega), hu]; rfl
          obtain ⟨g1, g2⟩ := dec_add u hu8 m (by omega) hu
          rw [loopU_nxt (s' := (out ++ [t], now + (1 + v6), ((u + 2 ^ m : Nat) : Int), ((i + 1 : Nat) : Int))) (by
            rw [hstep, hd, hor]
            simp only [cond_false, remontoirlaw08_tried_k3, wi])]
          refine ih (i + 1) _ _ _ (by omega) (by omega) (fun _ => by omega) hTF (by omega) hlt (fun h0 => by omega) g1 fun q hq => ?_
          rw [g2 q hq, Bool.or_eq_true, decide_eq_true_eq, hbits q hq]
          constructor
          · rintro (⟨j, hj, e⟩ | rfl)
            · refine ⟨j, by omega, ?_⟩
              rcases tk_snoc out t j (by omega) with ⟨_, e'⟩ | ⟨c, _⟩
              · rw [e']; exact e
              · omega
            · refine ⟨out.length, by omega, ?_⟩
              rcases tk_snoc out t out.length (by omega) with ⟨c, _⟩ | ⟨_, e'⟩
              · omega
              · rw [e', ht]
          · rintro ⟨j, hj, e⟩
            rcases tk_snoc out t j (by omega) with ⟨c, e'⟩ | ⟨_, e'⟩
            · exact .inl ⟨j, c, by rw [← e']; exact e⟩
            · right; rw [e', ht] at e; have e2 : (m : Int) = (q : Int) := e; omega
  have := key sv.Machines.length 0 [] 0 0 (by omega) (by simp) (fun h => by omega) ⟨fun i hi => by simp at hi, fun i hi => by simp at hi, fun h => by simp at h⟩ (Int.le_refl _) (by omega) (fun _ => rfl) (by decide) (fun m hm => by simp)
  simpa using this
theorem drift_stint {g : Int} {x : SpareMachine} (hx : OkM x) (hg : 0 ≤ g) (hg2 : g ≤ 1000) : x.Drift * stintF g x ≤ g ∧ (stintF g x < lastF x → g < x.Drift * (stintF g x + 1)) := by
  have h0 := stint_ge hg hx
  by_cases hd : x.Drift = 0
  · rw [hd]; refine ⟨by omega, fun h => ?_⟩
    unfold stintF at h; rw [if_pos hd] at h; omega
  · have hd1 := hx.d1
    have e : stintF g x = min (lastF x) (g / x.Drift) := by unfold stintF; rw [if_neg hd]
    have hq : stintF g x ≤ g / x.Drift := by omega
    have hm := Int.mul_le_mul_of_nonneg_left hq hd1
    have hdm := Int.mul_ediv_add_emod g x.Drift
    have hmod := Int.emod_nonneg g hd
    have hlt := Int.emod_lt_of_pos g (show 0 < x.Drift by omega)
    refine ⟨by omega, fun h => ?_⟩
    have : stintF g x = g / x.Drift := by omega
    rw [this, Int.mul_add]; omega
theorem stint_plan {s : SpareStore} (hs : OkS s) {plan : List SpareTurn} (h : IsPlan s plan s.Hours) {i : Nat} (hi : i < plan.length) :
    untilF plan s.Hours i - (tk plan i).Over ≤ (if i + 1 < plan.length then stintF s.Gap (ml s (tk plan i)) else lastF (ml s (tk plan i))) := by
  have t := h.2 i hi
  have hM := ml_ok hs t.m1 t.m2
  have hw := t.warm; have hlife := t.life
  by_cases h1 : i + 1 < plan.length
  · rw [if_pos h1]
    have t2 := h.2 (i + 1) h1
    have hM2 := ml_ok hs t2.m1 t2.m2
    have hu : untilF plan s.Hours i = (tk plan (i + 1)).Over := by unfold untilF; rw [if_pos h1]
    rw [hu] at hlife ⊢
    have hgap := t2.gap (by omega)
    rw [Nat.add_sub_cancel] at hgap
    have hnn := off_nn hM2 t2.warm
    refine Int.le_trans (show _ ≤ (tk plan (i + 1)).Over - (tk plan i).Start - (ml s (tk plan i)).Warm by omega) (stint_of hM (by omega) ?_)
    have : offF s (tk plan i) (tk plan (i + 1)).Over ≤ s.Gap := by omega
    exact this
  · rw [if_neg h1]
    unfold lastF; omega
theorem pure_9 (sv : SpareStore) (bits : (List Int)) (hs : Ok_SpareStore sv) (hb : OkL InR bits) : remontoirlaw08_SpareTried sv bits = some true := by
  unfold remontoirlaw08_SpareTried
  simp only [sound_eq sv hs, works_eq, bind_s]
  cases hg : goodB sv with
  | false => rfl
  | true =>
    have hS := OkS.of hg
    have hn := hS.n1; have hn2 := hS.n2; have hh1 := hS.h1; have hh2 := hS.h2; have hg1 := hS.g1; have hg2 := hS.g2
    obtain ⟨l, hl, hT, hl0, hl1⟩ := tried_spec hs hS hb
    have hlo : OkL Ok_SpareTurn l := ⟨by omega, fun t ht => by
      obtain ⟨i, hi, rfl⟩ := tk_mem ht
      obtain ⟨a, b, c, d, e, f⟩ := hT.a i hi
      exact ⟨inr_small (by omega) (by omega), inr_small (by omega) (by omega), inr_small (by omega) (by omega)⟩⟩
    have hplan : isPlanF sv l = (planB sv l sv.Hours, 0) := by unfold isPlanF; rw [hg]; rfl
    rw [hl]
    simp only [Bool.not_true, cond_false, bind_s, IsPlan_eq sv hs l hlo, hplan, bne_self_eq_false]
    have hlasts : ∀ i < l.length, spare_Lasts sv (tk l i).Machine = some (stintF sv.Gap (ml sv (tk l i)), lastF (ml sv (tk l i)), 0) := fun i hi => by
      obtain ⟨a, b, _⟩ := hT.a i hi
      rw [Lasts_eq sv hs]
      unfold lastsF
      rw [hg, if_pos rfl, if_pos (by simp only [inB, Bool.and_eq_true, decide_eq_true_eq]; omega)]; rfl
    have hub : ∀ i < l.length, 0 ≤ untilF l sv.Hours i ∧ untilF l sv.Hours i ≤ sv.Hours := fun i hi => by
      unfold untilF
      split
      · rename_i h; obtain ⟨_, _, c, d, _⟩ := hT.a (i + 1) h; omega
      · omega
    -- one turn
    have hst : ∀ (i : Nat) (hi : i < l.length) (A S : Bool), remontoirlaw08_SpareTried_b1 sv l (planB sv l sv.Hours, 0) (false, A, S, (i : Int)) =
        nxt (false, A && turnB sv l sv.Hours i, S && decide (untilF l sv.Hours i - (tk l i).Over ≤ (if i + 1 < l.length then stintF sv.Gap (ml sv (tk l i)) else lastF (ml sv (tk l i)))), ((i + 1 : Nat) : Int)) := by
      intro i hi A S
      obtain ⟨m1, m2, o1, o2, s1, s2⟩ := hT.a i hi
      have hM := ml_ok hS m1 m2
      have f1 := hM.f1; have f2 := hM.f2; have w1 := hM.w1; have w2 := hM.w2; have l1 := hM.l1; have l2 := hM.l2; have l3 := hM.l3; have d1 := hM.d1; have d2 := hM.d2
      have wi : wr ((i : Int) + 1) = ((i + 1 : Nat) : Int) := wr_id' (by omega) (by omega)
      have k1 := stint_ge hg1 hM; have k2 := stint_le (g := sv.Gap) (ml sv (tk l i)); have k3 := last_le hM
      obtain ⟨k4, k5⟩ := drift_stint hM hg1 hg2
      have b1 := mul_bd (d := (ml sv (tk l i)).Drift) (x := stintF sv.Gap (ml sv (tk l i))) d1 d2 (by omega) (by omega)
      have b2 := mul_bd (d := (ml sv (tk l i)).Drift) (x := stintF sv.Gap (ml sv (tk l i)) + 1) d1 d2 (by omega) (by omega)
      have hchk : ((((((0 : Int) != 0) || (decide (stintF sv.Gap (ml sv (tk l i)) > lastF (ml sv (tk l i))))) || (decide (stintF sv.Gap (ml sv (tk l i)) < 0))) || (lastF (ml sv (tk l i)) != (if wr ((ml sv (tk l i)).Life.Low - (ml sv (tk l i)).Warm) > 0 then wr ((ml sv (tk l i)).Life.Low - (ml sv (tk l i)).Warm) else 0))) || (decide ((wr ((ml sv (tk l i)).Drift * stintF sv.Gap (ml sv (tk l i)))) > sv.Gap)) || ((decide (stintF sv.Gap (ml sv (tk l i)) < lastF (ml sv (tk l i)))) && (decide ((wr ((ml sv (tk l i)).Drift * (wr (stintF sv.Gap (ml sv (tk l i)) + 1)))) ≤ sv.Gap)))) = false := by
        rw [wr_id' (n := (ml sv (tk l i)).Life.Low - (ml sv (tk l i)).Warm) (by omega) (by omega), wr_id' (n := stintF sv.Gap (ml sv (tk l i)) + 1) (by omega) (by omega), wr_id' (n := (ml sv (tk l i)).Drift * stintF sv.Gap (ml sv (tk l i))) (by omega) (by omega), wr_id' (n := (ml sv (tk l i)).Drift * (stintF sv.Gap (ml sv (tk l i)) + 1)) (by omega) (by omega)]
        rw [decide_eq_false (show ¬ stintF sv.Gap (ml sv (tk l i)) > lastF (ml sv (tk l i)) by omega), decide_eq_false (show ¬ stintF sv.Gap (ml sv (tk l i)) < 0 by omega), decide_eq_false (show ¬ (ml sv (tk l i)).Drift * stintF sv.Gap (ml sv (tk l i)) > sv.Gap by omega)]
        have hz : (lastF (ml sv (tk l i)) != (if (ml sv (tk l i)).Life.Low - (ml sv (tk l i)).Warm > 0 then (ml sv (tk l i)).Life.Low - (ml sv (tk l i)).Warm else 0)) = false := by
          rw [bne_eq_false_iff_eq]; unfold lastF; split <;> omega
        rw [hz]
        by_cases hlt : stintF sv.Gap (ml sv (tk l i)) < lastF (ml sv (tk l i))
        · have := k5 hlt
          rw [decide_eq_true hlt, decide_eq_false (show ¬ (ml sv (tk l i)).Drift * (stintF sv.Gap (ml sv (tk l i)) + 1) ≤ sv.Gap by omega)]; rfl
        · rw [decide_eq_false hlt]; rfl
      -- behind the check
      have hk2 : ∀ U L, 0 ≤ U → U ≤ 500 → U = untilF l sv.Hours i → remontoirlaw08_SpareTried_k2 sv l false A S (i : Int) (ml sv (tk l i)) U L =
          nxt (false, A && turnB sv l sv.Hours i, S && decide (U - (tk l i).Over ≤ L), ((i + 1 : Nat) : Int)) := by
        intro U L hU1 hU2 hU
        have ht : turnB sv l sv.Hours i = (decide ((ml sv (tk l i)).From ≤ (tk l i).Start) && decide ((tk l i).Start + (ml sv (tk l i)).Warm ≤ (tk l i).Over) && decide (U ≤ (tk l i).Start + (ml sv (tk l i)).Life.Low) && decide ((tk l i).Over < U) &&
            (if i = 0 then true else decide (offF sv (tk l (i - 1)) (tk l i).Over + offF sv (tk l i) (tk l i).Over ≤ sv.Gap))) := by
          unfold turnB
          have e1 : inB (tk l i).Machine 0 (sv.Machines.length - 1) = true := by simp only [inB, Bool.and_eq_true, decide_eq_true_eq]; omega
          have e2 : freshB l i = true := (fresh_iff _ _).2 (hT.b i hi)
          rw [e1, e2, ← hU]
          have e3 : i = 0 → ((tk l i).Over == 0) = true := fun h => by subst h; rw [hT.z hl0]; rfl
          by_cases h0 : i = 0
          · rw [if_pos h0, if_pos h0, e3 h0]; simp
          · rw [if_neg h0, if_neg h0]; simp
        unfold remontoirlaw08_SpareTried_k2
        simp only [tk_get hi, bind_s, cond_s]
        rw [wr_id' (n := U - (tk l i).Over) (by omega) (by omega), wr_id' (n := (tk l i).Start + (ml sv (tk l i)).Warm) (by omega) (by omega), wr_id' (n := (tk l i).Start + (ml sv (tk l i)).Life.Low) (by omega) (by omega)]
        rw [decide_eq_true (show (tk l i).Over < sv.Hours from o2)]
        rw [ht]
        by_cases h0 : i = 0
        · subst h0
          rw [decide_eq_false (show ¬ ((0 : Nat) : Int) > 0 by decide), wi, if_pos rfl]
          simp only [cond_false, ge_iff_le, gt_iff_lt]
          congr 2
          cases A <;> cases decide ((ml sv (tk l 0)).From ≤ (tk l 0).Start) <;> cases decide ((tk l 0).Start + (ml sv (tk l 0)).Warm ≤ (tk l 0).Over) <;> cases decide (U ≤ (tk l 0).Start + (ml sv (tk l 0)).Life.Low) <;> cases decide ((tk l 0).Over < U) <;> cases S <;> rfl
        · have hp : i - 1 < l.length := by omega
          obtain ⟨n1, n2, n3, n4, n5, n6⟩ := hT.a (i - 1) hp
          have wp : wr ((i : Int) - 1) = ((i - 1 : Nat) : Int) := by rw [wr_id' (by omega) (by omega)]; omega
          obtain ⟨c1, c2, c3⟩ := offW_eq (s := sv) (t := tk l (i - 1)) (ml_ok hS n1 n2) (h := (tk l i).Over) (by omega) (by omega) (by omega) (by omega)
          obtain ⟨c4, c5, c6⟩ := offW_eq (s := sv) (t := tk l i) hM (h := (tk l i).Over) (by omega) (by omega) (by omega) (by omega)
          unfold offW at c1 c4
          rw [decide_eq_true (show (i : Int) > 0 by omega), wi, wp, if_neg h0]
          simp only [cond_true, tk_get hp, tk_get hi, bind_s, idx_ml n1 n2, cond_s, ge_iff_le, gt_iff_lt]
          rw [c1, c4, wr_id' (n := offF sv (tk l (i - 1)) (tk l i).Over + offF sv (tk l i) (tk l i).Over) (by omega) (by omega)]
          congr 2
          cases A <;> cases decide ((ml sv (tk l i)).From ≤ (tk l i).Start) <;> cases decide ((tk l i).Start + (ml sv (tk l i)).Warm ≤ (tk l i).Over) <;> cases decide (U ≤ (tk l i).Start + (ml sv (tk l i)).Life.Low) <;> cases decide ((tk l i).Over < U) <;> cases S <;> rfl
      unfold remontoirlaw08_SpareTried_b1
      simp only [lt_t hi, cond_true, tk_get hi, bind_s, idx_ml m1 m2, hlasts i hi]
      have hchk2 := hchk
      rw [hchk2, cond_false, wi]
      by_cases h1 : i + 1 < l.length
      · have hU : untilF l sv.Hours i = (tk l (i + 1)).Over := by unfold untilF; rw [if_pos h1]
        rw [decide_eq_true (show ((i + 1 : Nat) : Int) < (l.length : Int) by omega), cond_true, tk_get h1, bind_s, if_pos h1]
        have := hub i hi
        rw [hk2 _ _ (by omega) (by omega) hU.symm, hU]
      · have hU : untilF l sv.Hours i = sv.Hours := by unfold untilF; rw [if_neg h1]
        rw [decide_eq_false (show ¬ ((i + 1 : Nat) : Int) < (l.length : Int) by omega), cond_false, if_neg h1]
        rw [hk2 _ _ (by omega) (by omega) hU.symm, hU]
    -- all turns
    have hall : ∀ i ≤ l.length, loopU (remontoirlaw08_SpareTried_b1 sv l (planB sv l sv.Hours, 0)) (false, true, true, 0) = loopU (remontoirlaw08_SpareTried_b1 sv l (planB sv l sv.Hours, 0)) (false, (List.range i).all (turnB sv l sv.Hours),
        (List.range i).all (fun i => decide (untilF l sv.Hours i - (tk l i).Over ≤ (if i + 1 < l.length then stintF sv.Gap (ml sv (tk l i)) else lastF (ml sv (tk l i))))), (i : Int)) := by
      intro i
      induction i with
      | zero => intro _; rfl
      | succ i ih =>
        intro hi
        rw [ih (by omega), loopU_nxt (hst i (by omega) _ _)]
        simp only [List.range_succ, List.all_append, List.all_cons, List.all_nil, Bool.and_true]
    rw [hall l.length (Nat.le_refl _)]
    have hpb : planB sv l sv.Hours = (List.range l.length).all (turnB sv l sv.Hours) := by unfold planB; rw [decide_eq_true hl0]; simp
    refine loopU_ext ?_
    simp only [remontoirlaw08_SpareTried_b1, lt_f, cond_false]
    congr 1
    have hc : ((planB sv l sv.Hours != (List.range l.length).all (turnB sv l sv.Hours)) || (planB sv l sv.Hours && !((List.range l.length).all (fun i => decide (untilF l sv.Hours i - (tk l i).Over ≤ (if i + 1 < l.length then stintF sv.Gap (ml sv (tk l i)) else lastF (ml sv (tk l i)))))))) = false := by
      rw [← hpb]
      cases hp : planB sv l sv.Hours with
      | false => rfl
      | true =>
        have hP := (plan_iff _ _ _).1 hp
        have : (List.range l.length).all (fun i => decide (untilF l sv.Hours i - (tk l i).Over ≤ (if i + 1 < l.length then stintF sv.Gap (ml sv (tk l i)) else lastF (ml sv (tk l i))))) = true := by
          rw [List.all_eq_true]
          intro i hi
          rw [List.mem_range] at hi
          exact decide_eq_true (stint_plan hS hP hi)
        rw [this]; rfl
    skip
    rw [hc, cond_false]
    have hk3 : remontoirlaw08_SpareTried_k3 false = some true := by unfold remontoirlaw08_SpareTried_k3; rw [works_eq]; rfl
    rw [hk3]
    by_cases h1 : l.length > 1
    · rw [decide_eq_true (show (l.length : Int) > 1 by omega), cond_true, if_pos (by simp only [List.length_nil, lim]; omega)]
      have g0 := tk_get (plan := l) (i := 0) (by omega)
      have g1 := tk_get (plan := l) (i := 1) (by omega)
      rw [List.nil_append]
      rw [show idx l 0 = some (tk l 0) from g0, show idx l 1 = some (tk l 1) from g1]
      simp only [bind_s]
      obtain ⟨m1, m2, o1, o2, s1, s2⟩ := hT.a 0 (by omega)
      obtain ⟨n1, n2, p1, p2, r1, r2⟩ := hT.a 1 (by omega)
      have hto : OkL Ok_SpareTurn (l.set (Int.toNat 1) (SpareTurn.mk (tk l 0).Machine (tk l 1).Start (tk l 1).Over)) := ⟨by rw [List.length_set]; omega, fun t ht => by
        rcases List.mem_or_eq_of_mem_set ht with ht | rfl
        · exact hlo.2 t ht
        · exact ⟨inr_small (n := (tk l 0).Machine) (by omega) (by omega), inr_small (n := (tk l 1).Start) (by omega) (by omega), inr_small (n := (tk l 1).Over) (by omega) (by omega)⟩⟩
      rw [IsPlan_eq sv hs _ hto]
      have hno : planB sv (l.set (Int.toNat 1) (SpareTurn.mk (tk l 0).Machine (tk l 1).Start (tk l 1).Over)) sv.Hours = false := by
        refine Bool.eq_false_iff.2 fun h => ?_
        have hP := (plan_iff _ _ _).1 h
        have t := (hP.2 1 (by rw [List.length_set]; omega)).fresh 0 (by decide)
        refine t ?_
        have q0 : tk (l.set (Int.toNat 1) (SpareTurn.mk (tk l 0).Machine (tk l 1).Start (tk l 1).Over)) 0 = tk l 0 := by
          simp [tk, List.getD_eq_getElem?_getD, List.getElem?_set]
        have q1 : tk (l.set (Int.toNat 1) (SpareTurn.mk (tk l 0).Machine (tk l 1).Start (tk l 1).Over)) 1 = SpareTurn.mk (tk l 0).Machine (tk l 1).Start (tk l 1).Over := by
          show (l.set 1 _).getD 1 default = _
          simp [List.getD_eq_getElem?_getD, List.getElem?_set, h1]
        rw [q0, q1]
      unfold isPlanF
      rw [hg, hno]
      rfl
    · rw [decide_eq_false (show ¬ (l.length : Int) > 1 by omega), cond_false]
end Go.Proofs.YtidmdgjgpmeecaaDoor.Rt
