/- What the pure function of the law BeatMore comes to. Under the conditions that the arguments are Go's. -/
import Derived.Test.YtpniidbbbhbglaaDoorL9
import Derived.Test.YtpniidbbbhbglaaDoorPT
set_option linter.unusedVariables false
set_option linter.unusedSimpArgs false
set_option maxRecDepth 100000
set_option maxHeartbeats 4000000
namespace Go.Proofs.YtpniidbbbhbglaaDoor.Rt
open Go Go.RowKit

theorem rev_back {α : Type} {l : List α} {j : Nat} (hj : j < l.length) : ∃ hh : l.length - 1 - j < l.length, l.reverse.take (j + 1) = l.reverse.take j ++ [l[l.length - 1 - j]] := by
  have h1 : j < l.reverse.length := by simpa using hj
  refine ⟨by omega, ?_⟩
  rw [List.take_succ_eq_append_getElem h1, List.getElem_reverse]

/-- a cellar in another order -/
def turned (c : BeatCellar) (ps : List BeatPair) : BeatCellar := ⟨c.Hours, c.Rates, c.Opens.reverse, ps⟩
theorem sum_rev (l : List Int) : l.reverse.sum = l.sum := by
  induction l with
  | nil => rfl
  | cons a l ih => rw [List.reverse_cons, List.sum_append, ih]; simp [Int.add_comm]
theorem turned_grows (c : BeatCellar) (ps : List BeatPair) (r : Span) (k h : Int) : growsSpan (turned c ps) r k h = growsSpan c r k h := by
  unfold growsSpan opensAt turned
  simp only [List.filter_reverse, List.map_reverse, sum_rev]
theorem turned_fits {c : BeatCellar} {ps : List BeatPair} (hm : ∀ p, p ∈ ps ↔ p ∈ c.Pairs) (l : Int) (y : Int → Int → Int) (z : Int) : Fits (turned c ps) l y z ↔ Fits c l y z := by
  constructor
  · intro hf
    refine ⟨fun k hk h hh => ?_, fun p hp hl => hf.r p ((hm p).2 hp) hl, hf.b⟩
    have := hf.g k hk h hh
    rw [turned_grows] at this
    exact this
  · intro hf
    refine ⟨fun k hk h hh => ?_, fun p hp hl => hf.r p ((hm p).1 hp) hl, hf.b⟩
    have := hf.g k hk h hh
    rw [turned_grows]
    exact this
theorem turned_good {c : BeatCellar} (hx : goodB c = true) {ps : List BeatPair} (hm : ∀ p, p ∈ ps ↔ p ∈ c.Pairs) (hl : ps.length ≤ 14) : goodB (turned c ps) = true := by
  have hC := OkC.of hx
  exact good_mk (c := turned c ps) ⟨hC.h1, hC.h2⟩ ⟨hC.k1, hC.k2⟩ (by simp only [turned, List.length_reverse]; exact hC.o2) hl (fun r hr => good_rates hx r hr) (fun o ho => good_opens hx o (List.mem_reverse.1 ho)) (fun p hp => good_pairs hx p ((hm p).1 hp))
theorem turned_ok {c : BeatCellar} (hc : Ok_BeatCellar c) {ps : List BeatPair} (hm : ∀ p, p ∈ ps ↔ p ∈ c.Pairs) (hl : ps.length ≤ 14) : Ok_BeatCellar (turned c ps) := by
  obtain ⟨q1, q2, ⟨q3, q4⟩, ⟨q5, q6⟩⟩ := hc
  refine ⟨q1, q2, ⟨by simpa [turned] using q3, fun o ho => q4 o (List.mem_reverse.1 ho)⟩, ⟨by simp only [turned]; omega, fun p hp => q6 p ((hm p).1 hp)⟩⟩
theorem turned_Offset {c : BeatCellar} (hc : Ok_BeatCellar c) (hx : goodB c = true) {ps : List BeatPair} (hm : ∀ p, p ∈ ps ↔ p ∈ c.Pairs) (hl : ps.length ≤ 14) {k h : Int} (hs : spotB c k h = true) : beat_Offset ⟨c.Hours, c.Rates, c.Opens.reverse, ps⟩ k h = beat_Offset c k h := by
  have hx' := turned_good hx hm hl
  have hF : ∀ x, F (turned c ps) 0 x ↔ F c 0 x := fun x => turned_fits hm 0 _ _
  have e1 := Offset_eq (turned c ps) (turned_ok hc hm hl) k h
  have e2 := Offset_eq c hc k h
  have hs' : spotB (turned c ps) k h = true := hs
  rw [hs', ans_good hx', canB_same hx hx' hF] at e1
  rw [hs, ans_good hx] at e2
  rw [e2]
  refine Eq.trans (show beat_Offset ⟨c.Hours, c.Rates, c.Opens.reverse, ps⟩ k h = _ from e1) ?_
  cases hb : canB c 0 with
  | false => rfl
  | true =>
    have hcan := (canB_iff hx 0).1 hb
    have n0 : 0 < cnt c := by simp only [cnt]; omega
    rw [if_pos rfl, if_pos rfl, told_same hx hx' rfl hF hcan (show nd (turned c ps) k h < cnt c from (spotB_ok hs).2.1) n0]
    rfl

def plusP (c : BeatCellar) (p : BeatPair) : BeatCellar := ⟨c.Hours, c.Rates, c.Opens, c.Pairs ++ [p]⟩

theorem more_k3 (c : BeatCellar) (more : BeatPair) (hc : Ok_BeatCellar c) (hm : Ok_BeatPair more) (hx : goodB c = true) {k h : Int} (hs : spotB c k h = true) {ps : List BeatPair} (hps : ∀ p, p ∈ ps ↔ p ∈ c.Pairs) (hl : ps.length ≤ 14) :
    remontoirlaw02_BeatMore_k3 c more k h c.Opens.reverse ps = some true := by
  have hC := OkC.of hx
  have p2 := hC.p2
  unfold remontoirlaw02_BeatMore_k3
  simp only [turned_Offset hc hx hps hl hs]
  obtain ⟨r, hr⟩ : ∃ r, beat_Offset c k h = some r := ⟨_, Offset_eq c hc k h⟩
  simp only [hr, bind_s, beq_self_eq_true, Bool.not_true, bne_self_eq_false, Bool.or_self, cond_false]
  by_cases h14 : c.Pairs.length = 14
  · have : ((c.Pairs.length : Int) == 14) = true := by simp; omega
    simp [this, works_eq, bind_s]
  · have : ((c.Pairs.length : Int) == 14) = false := by simp; omega
    simp only [this, cond_false, List.nil_append]
    rw [if_pos (by simp only [List.length_nil, lim]; omega), if_pos (by simp only [List.length_cons, List.length_nil, lim]; omega)]
    have hy : Ok_BeatCellar (plusP c more) := by
      obtain ⟨q1, q2, q3, ⟨q4, q5⟩⟩ := hc
      refine ⟨q1, q2, q3, ⟨?_, fun p hp => ?_⟩⟩
      · simp only [plusP, List.length_append, List.length_cons, List.length_nil]; omega
      · simp only [plusP, List.mem_append, List.mem_singleton] at hp
        rcases hp with hp | rfl
        · exact q5 p hp
        · exact hm
    have e1 := Offset_eq (plusP c more) hy k h
    have hs' : spotB (plusP c more) k h = true := hs
    rw [hs'] at e1
    have e1' : beat_Offset ⟨c.Hours, c.Rates, c.Opens, c.Pairs ++ [more]⟩ k h = some (ans (plusP c more) true (told (plusP c more) 0 (nd (plusP c more) k h) 0)) := e1
    rw [e1', bind_s]
    cases hgy : goodB (plusP c more) with
    | false => simp [ans, hgy, works_eq, bind_s]
    | true =>
      rw [ans_good hgy]
      cases hby : canB (plusP c more) 0 with
      | false => simp [works_eq, bind_s]
      | true =>
        have hcy := (canB_iff hgy 0).1 hby
        have hsub : ∀ x, F (plusP c more) 0 x → F c 0 x := fun x hf => ⟨hf.g, fun p hp hl => hf.r p (List.mem_append.2 (Or.inl hp)) hl, hf.b⟩
        have hcan := can_mono hsub hcy
        have hb := (canB_iff hx 0).2 hcan
        have n0 : 0 < cnt c := by simp only [cnt]; omega
        have nk := (spotB_ok hs).2.1
        have m1 := mx_mono hx hgy rfl hsub hcy (a := nd c k h) (b := 0) nk n0
        have m2 := mx_mono hx hgy rfl hsub hcy (a := 0) (b := nd c k h) n0 nk
        have e2 := Offset_eq c hc k h
        rw [hs, ans_good hx, hb, if_pos rfl, hr] at e2
        injection e2 with e2
        have ent : nd (plusP c more) k h = nd c k h := rfl
        have hwit : remontoirref00_Within (told (plusP c more) 0 (nd (plusP c more) k h) 0) r.1 = some true := by
          rw [e2, ent]
          exact Within_t (by simp only [told]; omega) (by simp only [told]; omega)
        have hr2 : r.2 = 0 := by rw [e2]
        simp [hwit, hr2, works_eq, bind_s]

theorem pure_9 (c : BeatCellar) (more : BeatPair) (n : Arr2) (hc : Ok_BeatCellar c) (hm : Ok_BeatPair more) (_ : Ok_Arr2 n) : remontoirlaw02_BeatMore c more n = some true := by
  unfold remontoirlaw02_BeatMore
  simp only [sound_eq c hc, bind_s]
  cases hx : goodB c with
  | false => simp [works_eq]
  | true =>
    have hC := OkC.of hx
    have h1 := hC.h1
    have h2 := hC.h2
    have k1 := hC.k1
    have k2 := hC.k2
    have o2 := hC.o2
    have p2 := hC.p2
    have wh : wr (c.Hours + 1) = c.Hours + 1 := wr_id' (by omega) (by omega)
    obtain ⟨k, ek, k3, k4⟩ := Rest_in n.a0 (by_ := (c.Rates.length : Int)) (by omega) (by omega)
    obtain ⟨h, eh, h3, h4⟩ := Rest_in n.a1 (by_ := c.Hours + 1) (by omega) (by omega)
    have skh := spot_in k3 k4 h3 (show h ≤ c.Hours by omega)
    have wo : wr ((c.Opens.length : Int) - 1) = (c.Opens.length : Int) - 1 - (0 : Nat) := by rw [wr_id' (by omega) (by omega)]; omega
    have wp : wr ((c.Pairs.length : Int) - 1) = (c.Pairs.length : Int) - 1 - (0 : Nat) := by rw [wr_id' (by omega) (by omega)]; omega
    simp only [Bool.not_true, cond_false, wh, ek, eh, bind_s, wo]
    have hrun := loopU_run0 (body := remontoirlaw02_BeatMore_b1 c more k h) (fun j => ((c.Opens.length : Int) - 1 - (j : Int), c.Opens.reverse.take j)) c.Opens.length (fun j hj => by
      have hd : decide ((c.Opens.length : Int) - 1 - (j : Int) ≥ 0) = true := by simp; omega
      have wi : wr ((c.Opens.length : Int) - 1 - (j : Int) - 1) = (c.Opens.length : Int) - 1 - ((j + 1 : Nat) : Int) := by rw [wr_id' (by omega) (by omega)]; omega
      obtain ⟨hh, hr⟩ := rev_back hj
      have ei : (c.Opens.length : Int) - 1 - (j : Int) = ((c.Opens.length - 1 - j : Nat) : Int) := by omega
      have hlim : (c.Opens.reverse.take j).length + ([c.Opens[c.Opens.length - 1 - j]]).length ≤ lim := by
        simp only [List.length_take, List.length_reverse, List.length_cons, List.length_nil, lim]; omega
      simp only [remontoirlaw02_BeatMore_b1, hd, cond_true, wi]
      rw [ei, idx_get hh, bind_s, if_pos hlim, hr])
    simp only [List.take_zero] at hrun
    refine hrun.trans (loopU_ext ?_)
    have hd : decide ((c.Opens.length : Int) - 1 - (c.Opens.length : Int) ≥ 0) = false := by simp; omega
    have etake : c.Opens.reverse.take c.Opens.length = c.Opens.reverse := List.take_of_length_le (by simp)
    simp only [remontoirlaw02_BeatMore_b1, hd, cond_false, etake, wp]
    congr 1
    have hrun2 := loopU_run0 (body := remontoirlaw02_BeatMore_b2 c more k h c.Opens.reverse) (fun j => ((c.Pairs.length : Int) - 1 - (j : Int), c.Pairs.reverse.take j)) c.Pairs.length (fun j hj => by
      have hd : decide ((c.Pairs.length : Int) - 1 - (j : Int) ≥ 0) = true := by simp; omega
      have wi : wr ((c.Pairs.length : Int) - 1 - (j : Int) - 1) = (c.Pairs.length : Int) - 1 - ((j + 1 : Nat) : Int) := by rw [wr_id' (by omega) (by omega)]; omega
      obtain ⟨hh, hr⟩ := rev_back hj
      have ei : (c.Pairs.length : Int) - 1 - (j : Int) = ((c.Pairs.length - 1 - j : Nat) : Int) := by omega
      have hlim : (c.Pairs.reverse.take j).length + ([c.Pairs[c.Pairs.length - 1 - j]]).length ≤ lim := by
        simp only [List.length_take, List.length_reverse, List.length_cons, List.length_nil, lim]; omega
      simp only [remontoirlaw02_BeatMore_b2, hd, cond_true, wi]
      rw [ei, idx_get hh, bind_s, if_pos hlim, hr])
    simp only [List.take_zero] at hrun2
    refine hrun2.trans (loopU_ext ?_)
    have hd : decide ((c.Pairs.length : Int) - 1 - (c.Pairs.length : Int) ≥ 0) = false := by simp; omega
    have etake : c.Pairs.reverse.take c.Pairs.length = c.Pairs.reverse := List.take_of_length_le (by simp)
    simp only [remontoirlaw02_BeatMore_b2, hd, cond_false, etake]
    congr 1
    by_cases hp : 0 < c.Pairs.length ∧ c.Pairs.length < 14
    · have e1 : (decide ((c.Pairs.length : Int) > 0) && decide ((c.Pairs.length : Int) < 14)) = true := by
        rw [Bool.and_eq_true, decide_eq_true_eq, decide_eq_true_eq]; omega
      have ei := idx_get hp.1
      rw [Int.natCast_zero] at ei
      rw [e1, cond_true, ei, bind_s, if_pos (by simp only [List.length_reverse, List.length_cons, List.length_nil, lim]; omega)]
      refine more_k3 c more hc hm hx skh (fun p => ?_) (by simp; omega)
      simp only [List.mem_append, List.mem_reverse, List.mem_singleton]
      constructor
      · rintro (h | rfl)
        · exact h
        · exact List.getElem_mem hp.1
      · exact Or.inl
    · have e1 : (decide ((c.Pairs.length : Int) > 0) && decide ((c.Pairs.length : Int) < 14)) = false := by
        rw [Bool.and_eq_false_iff, decide_eq_false_iff_not, decide_eq_false_iff_not]; omega
      rw [e1, cond_false]
      exact more_k3 c more hc hm hx skh (fun p => List.mem_reverse) (by simp; omega)
end Go.Proofs.YtpniidbbbhbglaaDoor.Rt
