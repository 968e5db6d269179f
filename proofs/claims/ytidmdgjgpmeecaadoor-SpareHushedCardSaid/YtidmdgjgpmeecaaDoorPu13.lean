/- What the pure function of a law comes to. Under the conditions that it names. -/
import Derived.Test.YtidmdgjgpmeecaaDoorL13
import Derived.Test.YtidmdgjgpmeecaaDoorPK
set_option linter.unusedVariables false
set_option linter.unusedSimpArgs false
set_option maxRecDepth 100000
set_option maxHeartbeats 4000000
namespace Go.Proofs.YtidmdgjgpmeecaaDoor.Rt
open Go Go.RowKit

def setL (lives : List Int) (k : Nat) (v : Int) : List Int := lives.set k v
theorem lifeF_set {lives : List Int} {k : Nat} {v : Int} {i : Nat} (hk : k < lives.length) : lifeF (lives.set k v) i = if i = k then v else lifeF lives i := by
  unfold lifeF
  simp only [List.getD_eq_getElem?_getD, List.getElem?_set]
  by_cases h : k = i
  · subst h; rw [if_pos rfl, if_pos hk, if_pos rfl]; rfl
  · rw [if_neg h, if_neg (fun e => h e.symm)]
/-- how many are silent below an hour -/
def cntS (l : List SpareTurn) (lives : List Int) (m : Nat) : Nat := (silentN l lives m).length
theorem cntS_succ (l : List SpareTurn) (lives : List Int) (m : Nat) : cntS l lives (m + 1) = cntS l lives m + (if silentB l lives m = true then 1 else 0) := by
  unfold cntS
  rw [silentN_succ]
  split <;> simp
theorem silent_any (l : List SpareTurn) (lives : List Int) (m h : Nat) : (silentN l lives m).any (· == (h : Int)) = (decide (h < m) && silentB l lives h) := any_filter _ _ _
theorem silent_climb (l : List SpareTurn) (lives : List Int) (K : Nat) : climbD K 0 (silentN l lives K) = true := by
  unfold silentN
  rw [List.range_eq_range']
  exact climb_filter K _ K 0 0 (by omega) (by omega)
theorem pure_13 (sv : SpareStore) (bits : (List Int)) (hs : Ok_SpareStore sv) (hb : OkL InR bits) : remontoirlaw08_SpareHushed sv bits = some true := by
  unfold remontoirlaw08_SpareHushed
  cases hg : goodB sv with
  | false => rw [Plan_bad sv hs hg, sound_eq sv hs, hg, works_eq]; rfl
  | true =>
    have hS := OkS.of hg
    rcases Plan_good hs hS with ⟨h1, h2⟩ | ⟨h1, l, h2, hP, h4⟩
    · rw [h2, sound_eq sv hs, hg, works_eq]; rfl
    · have hn := hS.n2; have hn1 := hS.n1; have hh1 := hS.h1; have hh2 := hS.h2
      have hlen := hP.len hS
      have hok := hP.ok hS
      have h0 := hP.1
      rw [h2, sound_eq sv hs, hg]
      simp only [bind_s, IsPlan_eq sv hs l hok]
      have hip : isPlanF sv l = (true, 0) := by unfold isPlanF; rw [hg, if_pos rfl, (plan_iff _ _ _).2 hP]
      rw [hip, show ((l.length : Int) == 0) = false from (by rw [beq_eq_false_iff_ne]; omega), show decide ((l.length : Int) > (sv.Machines.length : Int)) = false by simp; omega]
      show loopU (remontoirlaw08_SpareHushed_b1 sv bits (l, 0)) ([], 0) = some true
      refine loopU_for (fun i (st : List Int × Int) => st.2 = (i : Int) ∧ st.1.length = i ∧ ∀ j < i, 0 ≤ lifeF st.1 j ∧ lifeF st.1 j ≤ 500) l.length (Post := fun o => o = some true) ⟨rfl, rfl, fun j h => by omega⟩ ?_ ?_
      · rintro i ⟨lives, iv⟩ hi ⟨hc, hd, he⟩
        simp only at hc hd he
        subst hc
        have wi : wr ((i : Int) + 1) = ((i + 1 : Nat) : Int) := wr_id' (by omega) (by omega)
        obtain ⟨v4, a4⟩ := At_any bits hb.1 (i : Int)
        obtain ⟨v5, a5, b5, c5⟩ := rest_any v4 (by_ := 501) (by decide) (by decide)
        refine ⟨(lives ++ [v5], ((i + 1 : Nat) : Int)), ?_, rfl, by simp [hd], fun j hj => ?_⟩
        · simp only [remontoirlaw08_SpareHushed_b1, lt_t hi, cond_true, a4, a5, bind_s]
          rw [if_pos (by simp only [List.length_singleton, lim]; omega), wi]
        · simp only
          rw [lifeF_snoc, hd]
          by_cases e : j < i
          · rw [if_pos e]; exact he j e
          · have : j = i := by omega
            subst this
            rw [if_neg e, if_pos rfl]; omega
      · rintro ⟨lives, iv⟩ ⟨hc, hd, he⟩
        simp only at hc hd he
        subst hc
        have hlb : livesB l lives = true := livesB_of hd fun i hi => he i (by omega)
        obtain ⟨v7, a7⟩ := At_any bits hb.1 0
        obtain ⟨v8, a8, b8, c8⟩ := rest_any v7 (by_ := (l.length : Int)) (by omega) (by omega)
        obtain ⟨k, rfl⟩ := Int.eq_ofNat_of_zero_le b8
        have hk : k < lives.length := by omega
        obtain ⟨v9, a9⟩ := At_any bits hb.1 1
        obtain ⟨v10, a10, b10, c10⟩ := rest_any v9 (by_ := 20) (by decide) (by decide)
        have hlk := he k (by omega)
        -- lives that are longer
        have hv : ∃ v : Int, (if wr (lifeF lives k + v10) < 500 then wr (lifeF lives k + v10) else 500) = v ∧ lifeF lives k ≤ v ∧ v ≤ 500 := by
          rw [wr_id' (by omega) (by omega)]
          exact ⟨_, rfl, by split <;> omega, by split <;> omega⟩
        obtain ⟨v, hv1, hv2, hv3⟩ := hv
        have hlb2 : livesB l (lives.set k v) = true := livesB_of (by rw [List.length_set]; exact hd) fun i hi => by
          rw [List.length_set] at hi
          rw [lifeF_set hk]
          by_cases e : i = k
          · rw [if_pos e]; omega
          · rw [if_neg e]; exact he i (by omega)
        have hmore : ∀ x, silentB l (lives.set k v) x = true → silentB l lives x = true := fun x hx => by
          unfold silentB at hx ⊢
          simp only [decide_eq_true_eq, lifeF_set hk] at hx ⊢
          by_cases e : speakF l (x : Int) l.length = k
          · rw [if_pos e] at hx; rw [e] at hx ⊢; omega
          · rw [if_neg e] at hx; exact hx
        have hcl : ∀ q : List Int, remontoirref00_Climbs (silentN l q sv.Hours.toNat) sv.Hours = some true := fun q => by
          have hsl := silentN_len l q sv.Hours.toNat
          have := Climbs_eq sv.Hours.toNat (by omega) (silentN l q sv.Hours.toNat) (by omega) (silent_climb l q _)
          rwa [Int.toNat_of_nonneg (by omega)] at this
        have hfind : ∀ (q : List Int) (x : Nat), (x : Int) < sv.Hours → ∃ r, remontoirref00_Find (silentN l q sv.Hours.toNat) (x : Int) = some r ∧ decide (r ≥ 0) = silentB l q x := fun q x hx => by
          have hsl := silentN_len l q sv.Hours.toNat
          obtain ⟨r, e1, e2⟩ := loop_find (silentN l q sv.Hours.toNat) (x : Int) (by omega)
          refine ⟨r, e1, ?_⟩
          rw [e2, silent_any, decide_eq_true (by omega), Bool.true_and]
        refine ⟨some true, ?_, rfl⟩
        simp only [remontoirlaw08_SpareHushed_b1, lt_f, cond_false, Silent_eq sv hs l hok lives (by omega), silent_good hS hP hlb, bind_s, a7, a8]
        rw [if_pos (by simp only [List.length_nil, lim]; omega), lifeF_get hk]
        simp only [bind_s, a9, a10, List.nil_append]
        rw [if_pos (by omega), Int.toNat_natCast, hv1, Silent_eq sv hs l hok (lives.set k v) (by rw [List.length_set]; omega), silent_good hS hP hlb2]
        simp only [bind_s, hcl, Bool.not_true]
        show ext (loopU (remontoirlaw08_SpareHushed_b2 sv (l, 0) lives (silentN l lives sv.Hours.toNat, 0) (silentN l (lives.set k v) sv.Hours.toNat, 0)) (false, 0, 0)) = ext (some true)
        congr 1
        -- turn by turn
        refine loopU_for (fun i (st : Bool × Int × Int) => st.1 = false ∧ st.2.2 = (i : Int) ∧ st.2.1 = (cntS l lives (if i < l.length then (tk l i).Over.toNat else sv.Hours.toNat) : Int)) l.length (Post := fun o => o = some true) ?_ ?_ ?_
        · refine ⟨rfl, rfl, ?_⟩
          rw [if_pos h0, hP.grow.zero h0]; rfl
        · rintro i ⟨v0, silent, iv⟩ hi ⟨ga, gb, gc⟩
          simp only at ga gb gc
          subst ga; subst gb
          rw [if_pos hi] at gc
          subst gc
          have wi : wr ((i : Int) + 1) = ((i + 1 : Nat) : Int) := wr_id' (by omega) (by omega)
          have bd := hP.grow.bd hi
          have bst := hP.bounds hS hi
          have hli := he i hi
          have hil : i < lives.length := by omega
          -- hour by hour
          have hk3 : ∀ e : Int, e = untilF l sv.Hours i → remontoirlaw08_SpareHushed_k3 (l, 0) lives (silentN l lives sv.Hours.toNat, 0) (silentN l (lives.set k v) sv.Hours.toNat, 0) false (cntS l lives (tk l i).Over.toNat : Int) (i : Int) e = nxt (false, (cntS l lives e.toNat : Int), ((i + 1 : Nat) : Int)) := by
            intro e hee
            subst hee
            unfold remontoirlaw08_SpareHushed_k3
            simp only [tk_get hi, bind_s]
            have hrun := loopU_run (body := remontoirlaw08_SpareHushed_b4 (l, 0) lives (silentN l lives sv.Hours.toNat, 0) (silentN l (lives.set k v) sv.Hours.toNat, 0) (i : Int) (untilF l sv.Hours i)) (fun x => (false, (cntS l lives x : Int), (x : Int)))
              ((untilF l sv.Hours i).toNat - (tk l i).Over.toNat) (tk l i).Over.toNat (fun x hx1 hx2 => by
                have hxlt : (x : Int) < untilF l sv.Hours i := by omega
                have hxH : (x : Int) < sv.Hours := by omega
                have hsp : speakF l x l.length = i := speak_uniq hP.grow (by omega) h0 hi (by omega) (.inl hxlt)
                have wx : wr ((x : Int) + 1) = ((x + 1 : Nat) : Int) := wr_id' (by omega) (by omega)
                obtain ⟨r1, f1, g1⟩ := hfind lives x hxH
                obtain ⟨r2, f2, g2⟩ := hfind (lives.set k v) x hxH
                have hsb : silentB l lives x = decide ((x : Int) ≥ (tk l i).Start + lifeF lives i) := by unfold silentB; rw [hsp]
                have hcs : cntS l lives x ≤ x := silentN_len l lives x
                simp only [remontoirlaw08_SpareHushed_b4, tk_get hi, lifeF_get hil, bind_s, f1]
                rw [show decide ((x : Int) < untilF l sv.Hours i) = true by simpa using hxlt, wr_id' (n := (tk l i).Start + lifeF lives i) (by omega) (by omega), g1, hsb]
                have hk5 : ∀ z : Int, remontoirlaw08_SpareHushed_k5 (silentN l (lives.set k v) sv.Hours.toNat, 0) false (x : Int) (tk l i) (lifeF lives i) z = nxt (false, z, ((x + 1 : Nat) : Int)) := fun z => by
                  unfold remontoirlaw08_SpareHushed_k5
                  simp only [f2, bind_s]
                  rw [g2, wr_id' (n := (tk l i).Start + lifeF lives i) (by omega) (by omega), ← hsb, wx]
                  cases h5 : silentB l (lives.set k v) x with
                  | false => rfl
                  | true => rw [hmore x h5]; rfl
                rw [hk5, hk5, cntS_succ, hsb]
                cases h6 : decide ((x : Int) ≥ (tk l i).Start + lifeF lives i) with
                | false => rfl
                | true =>
                  rw [wr_id' (n := (cntS l lives x : Int) + 1) (by omega) (by omega)]; rfl)
            rw [show (tk l i).Over.toNat + ((untilF l sv.Hours i).toNat - (tk l i).Over.toNat) = (untilF l sv.Hours i).toNat by omega] at hrun
            rw [Int.toNat_of_nonneg bd.1] at hrun
            refine Eq.trans hrun (loopU_ext ?_)
            have hd2 : decide ((((untilF l sv.Hours i).toNat : Nat) : Int) < untilF l sv.Hours i) = false := by simp; omega
            simp only [remontoirlaw08_SpareHushed_b4, hd2, cond_false, wi]
          have hnext : (cntS l lives (untilF l sv.Hours i).toNat : Int) = (cntS l lives (if i + 1 < l.length then (tk l (i + 1)).Over.toNat else sv.Hours.toNat) : Int) := by
            unfold untilF; split <;> rfl
          refine ⟨(false, (cntS l lives (untilF l sv.Hours i).toNat : Int), ((i + 1 : Nat) : Int)), ?_, rfl, rfl, hnext⟩
          simp only [remontoirlaw08_SpareHushed_b2, lt_t hi, cond_true, wi]
          by_cases hl : i + 1 < l.length
          · rw [lt_t hl, tk_get hl]
            simp only [cond_true, bind_s]
            rw [hk3 _ (by unfold untilF; rw [if_pos hl])]
            unfold untilF; rw [if_pos hl]
          · rw [show decide (((i + 1 : Nat) : Int) < (l.length : Int)) = false by simp; omega, cond_false, hk3 _ (by unfold untilF; rw [if_neg hl])]
            unfold untilF; rw [if_neg hl]
        · rintro ⟨v0, silent, iv⟩ ⟨ga, gb, gc⟩
          simp only at ga gb gc
          subst ga; subst gb
          rw [if_neg (Nat.lt_irrefl _)] at gc
          subst gc
          refine ⟨some true, ?_, rfl⟩
          simp only [remontoirlaw08_SpareHushed_b2, lt_f, cond_false, works_eq, bind_s]
          rw [show ((cntS l lives sv.Hours.toNat : Int) == ((silentN l lives sv.Hours.toNat).length : Int)) = true from beq_self_eq_true _]
          rfl
end Go.Proofs.YtidmdgjgpmeecaaDoor.Rt
