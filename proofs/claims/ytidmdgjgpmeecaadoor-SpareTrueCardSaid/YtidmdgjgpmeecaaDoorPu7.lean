/- What the pure function of a law comes to. Under the conditions that it names. -/
import Derived.Test.YtidmdgjgpmeecaaDoorL7
import Derived.Test.YtidmdgjgpmeecaaDoorPK
set_option linter.unusedVariables false
set_option linter.unusedSimpArgs false
set_option maxRecDepth 100000
set_option maxHeartbeats 4000000
namespace Go.Proofs.YtidmdgjgpmeecaaDoor.Rt
open Go Go.RowKit

theorem mul_abs {v d x : Int} (h1 : -d ≤ v) (h2 : v ≤ d) (hx : 0 ≤ x) : -(d * x) ≤ v * x ∧ v * x ≤ d * x := by
  have a := Int.mul_le_mul_of_nonneg_right h2 hx
  have b := Int.mul_le_mul_of_nonneg_right h1 hx
  rw [Int.neg_mul] at b
  exact ⟨b, a⟩
theorem Size_eq {n : Int} (h : -1000000000 ≤ n) (h2 : n ≤ 1000000000) : remontoirref00_Size n = some (if n < 0 then 0 - n else n) := by
  unfold remontoirref00_Size
  by_cases hn : n < 0
  · rw [decide_eq_true hn, if_pos hn, wr_id' (by omega) (by omega)]; rfl
  · rw [decide_eq_false hn, if_neg hn]; rfl
structure Lv (sv : SpareStore) (l : List SpareTurn) (i : Nat) (st : Bool × List Int × Int × Int) : Prop where
  a : st.1 = false
  b : st.2.2.1 = (usedN l i : Int)
  c : st.2.2.2 = (i : Int)
  d : st.2.1.length = i
  e : ∀ j < i, (ml sv (tk l j)).Life.Low ≤ lifeF st.2.1 j ∧ lifeF st.2.1 j ≤ (ml sv (tk l j)).Life.High
theorem pure_7 (sv : SpareStore) (bits : (List Int)) (hs : Ok_SpareStore sv) (hb : OkL InR bits) : remontoirlaw08_SpareTrue sv bits = some true := by
  unfold remontoirlaw08_SpareTrue
  cases hg : goodB sv with
  | false => rw [Plan_bad sv hs hg, sound_eq sv hs, hg, works_eq]; rfl
  | true =>
    have hS := OkS.of hg
    rcases Plan_good hs hS with ⟨h1, h2⟩ | ⟨h1, l, h2, hP, h4⟩
    · rw [h2, sound_eq sv hs, hg, works_eq]; rfl
    · have hn := hS.n2; have hn1 := hS.n1; have hh1 := hS.h1; have hh2 := hS.h2
      have hlen := hP.len hS
      have hok := hP.ok hS
      have h0 := hP.1
      rw [h2, sound_eq sv hs, hg]
      simp only [bind_s, IsPlan_eq sv hs l hok]
      have hip : isPlanF sv l = (true, 0) := by unfold isPlanF; rw [hg, if_pos rfl, (plan_iff _ _ _).2 hP]
      rw [hip, show ((l.length : Int) == 0) = false from (by rw [beq_eq_false_iff_ne]; omega), show decide ((l.length : Int) > (sv.Machines.length : Int)) = false by simp; omega]
      show loopU (remontoirlaw08_SpareTrue_b1 sv bits (l, 0)) (false, [], 0, 0) = some true
      refine loopU_for (Lv sv l) l.length (Post := fun o => o = some true) ⟨rfl, rfl, rfl, rfl, fun j h => by omega⟩ ?_ ?_
      · rintro i ⟨v0, lives, used, iv⟩ hi ⟨ha, hb', hc, hd, he⟩
        simp only at ha hb' hc hd he
        subst ha; subst hb'; subst hc
        have wi : wr ((i : Int) + 1) = ((i + 1 : Nat) : Int) := wr_id' (by omega) (by omega)
        have t := hP.2 i hi
        have bd := hP.bounds hS hi
        have gb := hP.grow.bd hi
        have hM := ml_ok hS t.m1 t.m2
        obtain ⟨u1, u2⟩ := used_or hS hP hi
        have m1 := t.m1; have m2 := t.m2
        have tw := t.warm; have tf := t.start; have tl := t.life
        have w1 := hM.w1; have w2 := hM.w2; have l1 := hM.l1; have l2 := hM.l2; have l3 := hM.l3; have d1 := hM.d1; have d2 := hM.d2
        obtain ⟨v9, a9⟩ := At_any bits hb.1 (i : Int)
        obtain ⟨v10, a10, b10, c10⟩ := From_in (ml sv (tk l i)).Life v9 (by omega) (by omega) (by omega)
        have hin1 : inB (tk l i).Machine 0 ((sv.Machines.length : Int) - 1) = true := by simp only [inB, Bool.and_eq_true, decide_eq_true_eq]; omega
        have hin2 : inB (tk l i).Start (-500) 500 = true := by simp only [inB, Bool.and_eq_true, decide_eq_true_eq]; omega
        have hin3 : inB (tk l i).Over 0 (sv.Hours - 1) = true := by simp only [inB, Bool.and_eq_true, decide_eq_true_eq]; omega
        -- the state that a round ends with
        have hst : Lv sv l (i + 1) (false, lives ++ [v10], (usedN l (i + 1) : Int), ((i + 1 : Nat) : Int)) := by
          refine ⟨rfl, rfl, rfl, by simp [hd], fun j hj => ?_⟩
          rw [lifeF_snoc, hd]
          by_cases e : j < i
          · rw [if_pos e]; exact he j e
          · have : j = i := by omega
            subst this
            rw [if_neg e, if_pos rfl]; exact ⟨b10, c10⟩
        have hk2 : remontoirlaw08_SpareTrue_k2 (i : Int) false (lives ++ [v10]) (bitsOp .or (usedN l i : Int) (gshl 1 (tk l i).Machine)) = nxt (false, lives ++ [v10], (usedN l (i + 1) : Int), ((i + 1 : Nat) : Int)) := by
          unfold remontoirlaw08_SpareTrue_k2; rw [u2, wi]
        have hk3 : ∀ e : Int, e = untilF l sv.Hours i → remontoirlaw08_SpareTrue_k3 sv bits (l, 0) false lives (usedN l i : Int) (i : Int) (tk l i) (ml sv (tk l i)) v10 e = nxt (false, lives ++ [v10], (usedN l (i + 1) : Int), ((i + 1 : Nat) : Int)) := by
          intro e hee
          subst hee
          unfold remontoirlaw08_SpareTrue_k3
          have hidx : idx (lives ++ [v10]) (i : Int) = some v10 := idx_nat (by rw [List.getElem?_append_right (by omega), hd, Nat.sub_self]; rfl)
          simp only [tk_get hi, bind_s, hidx]
          rw [show decide ((tk l i).Start < (ml sv (tk l i)).From) = false by simpa using tf, wr_id' (n := (tk l i).Start + (ml sv (tk l i)).Warm) (by omega) (by omega), show decide ((tk l i).Over < (tk l i).Start + (ml sv (tk l i)).Warm) = false by simpa using tw,
            wr_id' (n := (tk l i).Start + v10) (by omega) (by omega), show decide ((tk l i).Start + v10 < untilF l sv.Hours i) = false by simp; omega]
          simp only [cond_false, bind_s]
          by_cases hi0 : i = 0
          · subst hi0
            exact hk2
          · rw [show ((i : Int) == 0) = false by simp; omega, cond_false]
            have hi1 : i - 1 < l.length := by omega
            have t1 := hP.2 (i - 1) hi1
            have bd1 := hP.bounds hS hi1
            have hM1 := ml_ok hS t1.m1 t1.m2
            have x1 := hM1.w1; have x2 := hM1.w2; have y1 := hM1.d1; have y2 := hM1.d2
            have more1 := t1.more
            have hu1 : untilF l sv.Hours (i - 1) = (tk l i).Over := by unfold untilF; rw [if_pos (by omega), show i - 1 + 1 = i by omega]
            rw [hu1] at more1
            have warm1 := t1.warm
            have hgap := t.gap hi0
            obtain ⟨v12, a12⟩ := At_any bits hb.1 (wr ((i : Int) + 3))
            obtain ⟨v15, a15⟩ := At_any bits hb.1 (wr ((i : Int) + 5))
            rw [wr_id' (n := (i : Int) - 1) (by omega) (by omega), show (i : Int) - 1 = ((i - 1 : Nat) : Int) by omega, tk_get hi1]
            simp only [bind_s, idx_ml t1.m1 t1.m2, remontoirref00_To]
            rw [wr_id' (n := 0 - (ml sv (tk l (i - 1))).Drift) (by omega) (by omega), wr_id' (n := 0 - (ml sv (tk l i)).Drift) (by omega) (by omega)]
            obtain ⟨v13, a13, b13, c13⟩ := From_in ⟨0 - (ml sv (tk l (i - 1))).Drift, (ml sv (tk l (i - 1))).Drift⟩ v12 (by simp only; omega) (by simp only; omega) (by simp only; omega)
            obtain ⟨v16, a16, b16, c16⟩ := From_in ⟨0 - (ml sv (tk l i)).Drift, (ml sv (tk l i)).Drift⟩ v15 (by simp only; omega) (by simp only; omega) (by simp only; omega)
            simp only at b13 c13 b16 c16
            simp only [a12, a13, a15, a16, bind_s]
            rw [wr_id' (n := (tk l i).Over - (tk l (i - 1)).Start) (by omega) (by omega), wr_id' (n := (tk l i).Over - (tk l (i - 1)).Start - (ml sv (tk l (i - 1))).Warm) (by omega) (by omega),
              wr_id' (n := (tk l i).Over - (tk l i).Start) (by omega) (by omega), wr_id' (n := (tk l i).Over - (tk l i).Start - (ml sv (tk l i)).Warm) (by omega) (by omega)]
            have p1 := mul_abs (v := v13) (d := (ml sv (tk l (i - 1))).Drift) (x := (tk l i).Over - (tk l (i - 1)).Start - (ml sv (tk l (i - 1))).Warm) (by omega) (by omega) (by omega)
            have p2 := mul_abs (v := v16) (d := (ml sv (tk l i)).Drift) (x := (tk l i).Over - (tk l i).Start - (ml sv (tk l i)).Warm) (by omega) (by omega) (by omega)
            have q1 := mul_bd (d := (ml sv (tk l (i - 1))).Drift) (x := (tk l i).Over - (tk l (i - 1)).Start - (ml sv (tk l (i - 1))).Warm) y1 y2 (by omega) (by omega)
            have q2 := mul_bd (d := (ml sv (tk l i)).Drift) (x := (tk l i).Over - (tk l i).Start - (ml sv (tk l i)).Warm) d1 d2 (by omega) (by omega)
            unfold offF at hgap
            generalize hA : (ml sv (tk l (i - 1))).Drift * ((tk l i).Over - (tk l (i - 1)).Start - (ml sv (tk l (i - 1))).Warm) = A at *
            generalize hB : (ml sv (tk l i)).Drift * ((tk l i).Over - (tk l i).Start - (ml sv (tk l i)).Warm) = B at *
            generalize v13 * ((tk l i).Over - (tk l (i - 1)).Start - (ml sv (tk l (i - 1))).Warm) = A' at *
            generalize v16 * ((tk l i).Over - (tk l i).Start - (ml sv (tk l i)).Warm) = B' at *
            rw [wr_id' (n := A') (by omega) (by omega), wr_id' (n := B') (by omega) (by omega), wr_id' (n := A' - B') (by omega) (by omega), Size_eq (by omega) (by omega)]
            simp only [bind_s]
            rw [show decide ((if A' - B' < 0 then 0 - (A' - B') else A' - B') > sv.Gap) = false by
              simp only [decide_eq_false_iff_not]
              split <;> omega, cond_false]
            exact hk2
        refine ⟨_, ?_, hst⟩
        simp only [remontoirlaw08_SpareTrue_b1, lt_t hi, cond_true, tk_get hi, bind_s, Lies_eq]
        rw [wr_id' (n := (sv.Machines.length : Int) - 1) (by omega) (by omega), wr_id' (n := sv.Hours - 1) (by omega) (by omega), hin1, In_eq _ m1, u1, hin2, hin3]
        simp only [Bool.not_true, cond_false, bind_s]
        rw [if_pos (by omega), idx_ml m1 m2]
        simp only [bind_s, a9, a10]
        rw [if_pos (by simp only [List.length_singleton, lim]; omega), wi]
        by_cases hl : i + 1 < l.length
        · rw [lt_t hl, tk_get hl]
          simp only [cond_true, bind_s]
          exact hk3 _ (by unfold untilF; rw [if_pos hl])
        · rw [show decide (((i + 1 : Nat) : Int) < (l.length : Int)) = false by simp; omega, cond_false]
          exact hk3 _ (by unfold untilF; rw [if_neg hl])
      · rintro ⟨v0, lives, used, iv⟩ ⟨ha, hb', hc, hd, he⟩
        simp only at ha hb' hc hd he
        subst ha; subst hb'; subst hc
        have hlb : livesB l lives = true := livesB_of hd fun i hi => by
          have hi' : i < l.length := by omega
          have t := hP.2 i hi'
          have hM := ml_ok hS t.m1 t.m2
          have := he i hi'
          have l1 := hM.l1; have l3 := hM.l3
          omega
        have hsil : silentN l lives sv.Hours.toNat = [] := by
          unfold silentN
          rw [List.map_eq_nil_iff, List.filter_eq_nil_iff]
          intro x hx
          have hx' := List.mem_range.1 hx
          obtain ⟨s1, s2, s3⟩ := speak_until hS hP (x := x) (by omega)
          have t := hP.2 _ s1
          have := he _ s1
          have tl := t.life
          unfold silentB
          simp only [decide_eq_true_eq]; omega
        refine ⟨some true, ?_, rfl⟩
        simp only [remontoirlaw08_SpareTrue_b1, lt_f, cond_false, Silent_eq sv hs l hok lives (by omega), silent_good hS hP hlb, hsil, bind_s, works_eq]
        rfl
end Go.Proofs.YtidmdgjgpmeecaaDoor.Rt
