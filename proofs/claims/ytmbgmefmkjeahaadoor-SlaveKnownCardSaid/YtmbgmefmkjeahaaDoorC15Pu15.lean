/- What the pure function of SlaveKnown comes to: true. Under no conditions. -/
import Derived.Test.YtmbgmefmkjeahaaDoorC15L15a
import Derived.Test.YtmbgmefmkjeahaaDoorC15PW
set_option linter.unusedVariables false
set_option linter.unusedSimpArgs false
set_option maxRecDepth 100000
set_option maxHeartbeats 4000000
namespace Go.Proofs.YtmbgmefmkjeahaaDoor.Rt
open Go Go.RowKit
def smB (x : Int) : Bool := decide (-1000000 ≤ x) && decide (x ≤ 1000000)
theorem smB_ok {x : Int} (h : smB x = true) : InR x := by
  simp only [smB, Bool.and_eq_true, decide_eq_true_eq] at h
  exact inR_s (by omega) (by omega)
def okLB (l : SlaveLine) : Bool := smB l.Ring && (decide (l.Starts.length ≤ 100) && l.Starts.all fun s => smB s.Shown && smB s.Last) && (decide (l.Events.length ≤ 100) && l.Events.all fun x => smB x.Kind && smB x.First && smB x.Count && smB x.Lost && smB x.Who && smB x.Shown)
theorem okLB_ok {l : SlaveLine} (h : okLB l = true) : Ok_SlaveLine l := by
  simp only [okLB, Bool.and_eq_true, decide_eq_true_eq, List.all_eq_true] at h
  obtain ⟨⟨h1, h2, h3⟩, h4, h5⟩ := h
  refine ⟨smB_ok h1, ⟨by omega, fun x hx => ?_⟩, by omega, fun x hx => ?_⟩
  · obtain ⟨a, b⟩ := h3 x hx
    exact ⟨smB_ok a, smB_ok b⟩
  · obtain ⟨⟨⟨⟨⟨a, b⟩, c⟩, d⟩, e⟩, f⟩ := h5 x hx
    exact ⟨smB_ok a, smB_ok b, smB_ok c, smB_ok d, smB_ok e, smB_ok f⟩
theorem askF_bad {l : SlaveLine} (h : goodB l = false) (w : Int) : askF l w = 70 := by unfold askF; rw [h]; rfl
theorem openF_bad {l : SlaveLine} (h : goodB l = false) (b : Bool) : openF l b = 70 := by unfold openF; rw [h]; rfl
theorem canF_bad {l : SlaveLine} (h : goodB l = false) (w : Int) : (canF l w).2 = 70 := by unfold canF; rw [askF_bad h]; rfl
theorem lostF_bad {l : SlaveLine} (h : goodB l = false) (w : Int) : (lostF l w).2 = 70 := by unfold lostF; rw [askF_bad h]; rfl
theorem isF_bad {l : SlaveLine} (h : goodB l = false) (w : Int) (st : List (List Int)) : isF l w st = (false, 70) := by unfold isF; rw [h]; rfl
theorem SetsF_bad {l : SlaveLine} (h : goodB l = false) (m : Int) (p : SlavePlan) : (SetsF l m p).2 = 70 := by unfold SetsF; rw [openF_bad h]; rfl
theorem HomesF_bad {l : SlaveLine} (h : goodB l = false) (k : Int) : (HomesF l k).2 = 70 := by unfold HomesF; rw [openF_bad h]; rfl
def badS : SlaveStart := ⟨10, 1⟩
def badL : List SlaveLine := [⟨0, [], []⟩, ⟨61, [badS], [sendE 0 4 1]⟩, ⟨12, [], [sendE 0 4 1]⟩, ⟨12, [⟨12, 1⟩], [sendE 0 4 1]⟩, ⟨12, [⟨10, 2⟩], [sendE 0 4 1]⟩, ⟨12, [badS], [⟨3, 0, 4, 1, 0, 0⟩]⟩, ⟨12, [badS], [⟨0, 2, 4, 1, 0, 0⟩]⟩,
  ⟨12, [badS], [⟨0, 0, 61, 1, 0, 0⟩]⟩, ⟨12, [badS], [⟨0, 0, 4, 4, 0, 0⟩]⟩, ⟨12, [badS], [lookE 1 0]⟩, lineF [12], lineF (List.replicate 10 0)]
theorem kn_bad : (badL.all fun l => okLB l && !goodB l) = true := by decide +kernel
def lessG (t b0 c0 a b c d : Nat) : Bool := decide (b + d + (if a = 0 then 0 else 1) < t) || (decide (b + d + (if a = 0 then 0 else 1) = t) && decide (a = 0) && (decide (b < b0) || (decide (b = b0) && decide (c < c0))))
theorem best_of {l : SlaveLine} {minute : Int} {b0 c0 d0 : Nat} (hb : b0 ≤ 60) (hc : c0 < 2) (hd : d0 ≤ 60) (hg : setsF l minute ⟨-1, (b0 : Int), (c0 : Int), (d0 : Int)⟩ = true)
    (hn : ((List.range 3).all fun a => (List.range (b0 + d0 + 1)).all fun b => (List.range 2).all fun c => (List.range (b0 + d0 + 1)).all fun d => !lessG (b0 + d0) b0 c0 a b c d || !setsF l minute ⟨(a : Int) - 1, (b : Int), (c : Int), (d : Int)⟩) = true) :
    IsBest l minute ⟨-1, (b0 : Int), (c0 : Int), (d0 : Int)⟩ := by
  refine ⟨⟨.inl rfl, by dsimp only; omega, by dsimp only; omega, by dsimp only; omega, by dsimp only; omega, by dsimp only; omega⟩, hg, fun q hq hgq => ?_⟩
  refine Classical.byContradiction fun hno => ?_
  have := hq.e; have := hq.h0; have := hq.h1; have := hq.f; have := hq.s0; have := hq.s1
  have hpl : pulsesF ⟨-1, (b0 : Int), (c0 : Int), (d0 : Int)⟩ = ((b0 + d0 : Nat) : Int) := by unfold pulsesF; dsimp only; rw [if_neg (by decide)]; omega
  unfold leP at hno
  rw [hpl] at hno
  dsimp only at hno
  have hle : pulsesF q ≤ ((b0 + d0 : Nat) : Int) := by omega
  have hq2 : q.Home.toNat < b0 + d0 + 1 ∧ q.Send.toNat < b0 + d0 + 1 := by unfold pulsesF at hle; split at hle <;> omega
  have hl : lessG (b0 + d0) b0 c0 (q.Pre + 1).toNat q.Home.toNat q.First.toNat q.Send.toNat = true := by
    simp only [lessG, Bool.or_eq_true, Bool.and_eq_true, decide_eq_true_eq]
    unfold pulsesF at hno
    split at hno <;> split <;> omega
  have h1 := List.all_eq_true.1 hn (q.Pre + 1).toNat (List.mem_range.2 (by omega))
  have h2 := List.all_eq_true.1 h1 q.Home.toNat (List.mem_range.2 hq2.1)
  have h3 := List.all_eq_true.1 h2 q.First.toNat (List.mem_range.2 (by omega))
  have h4 := List.all_eq_true.1 h3 q.Send.toNat (List.mem_range.2 hq2.2)
  have e2 : (((q.Pre + 1).toNat : Nat) : Int) - 1 = q.Pre := by omega
  have e3 : ((q.Home.toNat : Nat) : Int) = q.Home := by omega
  have e4 : ((q.First.toNat : Nat) : Int) = q.First := by omega
  have e5 : ((q.Send.toNat : Nat) : Int) = q.Send := by omega
  rw [hl, e2, e3, e4, e5, show SlavePlan.mk q.Pre q.Home q.First q.Send = q from rfl, hgq] at h4
  cases h4
theorem kn_set1 : setsF (lineF []) 0 ⟨-1, ((10 : Nat) : Int), ((1 : Nat) : Int), ((1 : Nat) : Int)⟩ = true := by decide +kernel
theorem kn_none1 : ((List.range 3).all fun a => (List.range (10 + 1 + 1)).all fun b => (List.range 2).all fun c => (List.range (10 + 1 + 1)).all fun d => !lessG (10 + 1) 10 1 a b c d || !setsF (lineF []) 0 ⟨(a : Int) - 1, (b : Int), (c : Int), (d : Int)⟩) = true := by decide +kernel
theorem kn_best1 : IsBest (lineF []) 0 ⟨-1, 10, 1, 1⟩ := best_of (by decide) (by decide) (by decide) kn_set1 kn_none1
theorem kn_set2 : setsF (lineF [0]) 5 ⟨-1, ((0 : Nat) : Int), ((0 : Nat) : Int), ((5 : Nat) : Int)⟩ = true := by decide +kernel
theorem kn_none2 : ((List.range 3).all fun a => (List.range (0 + 5 + 1)).all fun b => (List.range 2).all fun c => (List.range (0 + 5 + 1)).all fun d => !lessG (0 + 5) 0 0 a b c d || !setsF (lineF [0]) 5 ⟨(a : Int) - 1, (b : Int), (c : Int), (d : Int)⟩) = true := by decide +kernel
theorem kn_best2 : IsBest (lineF [0]) 5 ⟨-1, 0, 0, 5⟩ := best_of (by decide) (by decide) (by decide) kn_set2 kn_none2
theorem kn_looks : looksF (lineF [7]) = [1] := by decide +kernel
theorem kn_left' : okAll (lineF [7]) [1] = true ∧ ∀ m < 2, ∀ T ∈ subsE [1] m, okAll (lineF [7]) T = true → leSB [1] T = true := by decide +kernel
theorem kn_left : IsLeft (lineF [7]) [1] := by
  refine ⟨by rw [kn_looks]; decide, kn_left'.1, fun T hT hok => ?_⟩
  rw [kn_looks] at hT
  have hl := hT.length_le
  exact leSB_iff _ _ (kn_left'.2 T.length (by simp at hl; omega) T ((mem_subsE _ _ _).2 ⟨hT, rfl⟩) hok)
def homeL : SlaveLine := ⟨12, [⟨10, 1⟩], [sendE 0 4 1] ++ [SlaveEvent.mk 1 0 10 1 0 0]⟩
theorem kn_good : goodB (lineF [7]) = true ∧ goodB (lineF []) = true ∧ goodB (lineF [0]) = true ∧ goodB homeL = true := by decide +kernel
theorem kn_is : ([[], [[1, 2]], [[4]], [[-1]], [[], []]] : List (List (List Int))).all (fun st => decide (isF (lineF []) 0 st = (false, 0))) = true := by decide +kernel
def knPlans : List SlavePlan := [(SlavePlan.mk (-2) 0 0 0), (SlavePlan.mk 2 0 0 0), (SlavePlan.mk 0 61 0 0), (SlavePlan.mk 0 (-1) 0 0), (SlavePlan.mk 0 0 2 0), (SlavePlan.mk 0 0 0 61)]
theorem kn_plans : knPlans.all (fun p => !(SetsF (lineF [7]) 5 p).1 && decide ((SetsF (lineF [7]) 5 p).2 = 71)) = true := by decide +kernel
theorem kn_ask : (canF (lineF []) 1).2 = 71 ∧ isF (lineF []) (-1) [] = (false, 71) ∧ (SetsF (lineF [7]) 12 ⟨0, 0, 0, 0⟩).2 = 71 ∧ openF (lineF [7]) (okM (lineF [7]) (-1)) = 71 ∧ (HomesF (lineF [7]) 4).2 = 71 := by decide +kernel
theorem kn_false : (canF (lineF [7]) 0).2 = 72 ∧ (lostF (lineF [7]) 0).2 = 72 ∧ askF (lineF [7]) 0 = 72 ∧ (SetsF (lineF [7]) 5 ⟨0, 0, 0, 0⟩).2 = 72 ∧ openF (lineF [7]) (okM (lineF [7]) 5) = 72 ∧ (HomesF (lineF [7]) 0).2 = 72 := by decide +kernel
theorem kn_can : canF (lineF [0]) 0 = ([0], 0) ∧ canF homeL 0 = ([0, 10, 11], 0) := by decide +kernel
theorem kn_lost : (lostF (lineF []) 0).1.Low = 0 ∧ (lostF (lineF []) 0).1.High = 1 ∧ (lostF (lineF []) 0).2 = 0 := by decide +kernel
theorem kn_open : openF (lineF []) (okM (lineF []) 0) = 0 ∧ openF (lineF [0]) (okM (lineF [0]) 5) = 0 := by decide +kernel
theorem kn_homes : HomesF (lineF []) 0 = (11, 0) ∧ HomesF (lineF [0]) 3 = (0, 0) := by decide +kernel
theorem kn_sets : (SetsF (lineF []) 5 ⟨-1, 11, 0, 5⟩).1 = false ∧ (SetsF (lineF []) 5 ⟨-1, 11, 0, 5⟩).2 = 0 := by decide +kernel
theorem known_k5 {r43 : List Int × Int} {r45 : Span × Int} {r46 : List Int × Int} {r48 r50 : SlavePlan × Int} {r52 : Int × Int} {r53 : List Int × Int} {r55 : Bool × Int} (h1 : r43 = ([0], 0)) (h2 : r45.1.Low = 0 ∧ r45.1.High = 1 ∧ r45.2 = 0) (h3 : r46 = ([1], 0)) (h4 : r48 = (⟨-1, 10, 1, 1⟩, 0)) (h5 : r50 = (⟨-1, 0, 0, 5⟩, 0))
    (h6 : r52 = (11, 0)) (h7 : r53 = ([0, 10, 11], 0)) (h8 : r55.1 = false ∧ r55.2 = 0) : Tells (w7SlaveKnown_k5 r43 r45 r46 r48 r50 r52 r53 r55 0 0) (fun b => b = true) := by
  subst h1; subst h3; subst h4; subst h5; subst h6; subst h7
  obtain ⟨a, b, c⟩ := h2
  obtain ⟨d, e⟩ := h8
  unfold w7SlaveKnown_k5
  rw [a, b, c, d, e]
  refine tdet (a := true) ?_ (tdet (a := true) rfl (tdet (a := true) ?_ (tdet (a := true) ?_ ?_)))
  · show ((r0Alike [0] [0]).bind _) = _
    rw [Alike_eq _ _ (by decide)]; rfl
  · show ((r0Alike [1] [1]).bind _) = _
    rw [Alike_eq _ _ (by decide)]; rfl
  · show ((r0Alike [0, 10, 11] [0, 10, 11]).bind _) = _
    rw [Alike_eq _ _ (by decide)]; rfl
  · exact fin_tells rfl
theorem b4_tells (v : Bool) (n : Int) (hn : n = 0) : Tells (loopN w7SlaveKnown_b4 (v, n)) (fun b => b = true) := by
  subst hn
  have o0 : Ok_SlaveLine (lineF []) := Ok_lineF _ (by decide) (by simp)
  have o1 : Ok_SlaveLine (lineF [0]) := Ok_lineF _ (by decide) (by intro x hx; rw [List.mem_singleton.1 hx]; exact inR0)
  have o7 : Ok_SlaveLine (lineF [7]) := Ok_lineF _ (by decide) (by intro x hx; rw [List.mem_singleton.1 hx]; exact inR_s (by decide) (by decide))
  refine tfor0 6 (fun i s => s = (v, (i : Int))) rfl ?_ ?_
  · rintro i _ hi rfl
    unfold w7SlaveKnown_b4
    dsimp only
    have hk : i < knPlans.length := hi
    rw [show [(SlavePlan.mk (-2) 0 0 0), (SlavePlan.mk 2 0 0 0), (SlavePlan.mk 0 61 0 0), (SlavePlan.mk 0 (-1) 0 0), (SlavePlan.mk 0 0 2 0), (SlavePlan.mk 0 0 0 61)] = knPlans from rfl, lt_t hk, cond_true]
    refine tdet (idx_get hk) (tdet (line_eq [7] (by decide)) (tbnd (Sets_tells o7 5 _) fun r hr => ?_))
    have hp := List.all_eq_true.1 kn_plans _ (List.getElem_mem hk)
    simp only [Bool.and_eq_true, Bool.not_eq_true', decide_eq_true_eq] at hp
    subst hr
    rw [hp.1, hp.2]
    show Tells (cond false _ _) _
    rw [cond_false]
    exact tnxt (by rw [wr_succ (by omega)])
  · rintro _ rfl
    unfold w7SlaveKnown_b4
    dsimp only
    show Tells (cond false _ _) _
    rw [cond_false]
    refine tend ?_
    refine tdet (line_eq [7] (by decide)) (tdet (line_eq [] (by decide)) ?_)
    refine tbnd (Can_tells o0 1) fun r29 h29 => tdet (line_eq [] (by decide)) (tdet (isStory_eq o0 (-1) [] (by intro r hr; cases hr)) ?_)
    refine tbnd (Sets_tells o7 12 _) fun r32 h32 => ?_
    refine tbnd (Set_tells o7 (-1)) fun r33 h33 => ?_
    refine tbnd (Homes_tells o7 4) fun r34 h34 => ?_
    refine tbnd (Can_tells o7 0) fun r35 h35 => ?_
    refine tbnd (Lost_tells o7 0) fun r36 h36 => ?_
    refine tbnd (Story_tells o7 0) fun r37 h37 => ?_
    refine tbnd (Sets_tells o7 5 _) fun r38 h38 => ?_
    refine tbnd (Set_tells o7 5) fun r39 h39 => ?_
    refine tbnd (Homes_tells o7 0) fun r40 h40 => ?_
    obtain ⟨a1, a2, a3, a4, a5⟩ := kn_ask
    obtain ⟨f1, f2, f3, f4, f5, f6⟩ := kn_false
    have e29 : r29.2 = 71 := by rw [h29]; exact a1
    have e32 : r32.2 = 71 := by rw [h32]; exact a3
    have e33 : r33.2 = 71 := by rw [h33.err]; exact a4
    have e34 : r34.2 = 71 := by rw [h34]; exact a5
    have e35 : r35.2 = 72 := by rw [h35]; exact f1
    have e36 : r36.2 = 72 := by rw [h36]; exact f2
    have e37 : r37.2 = 72 := by rw [h37.err]; exact f3
    have e38 : r38.2 = 72 := by rw [h38]; exact f4
    have e39 : r39.2 = 72 := by rw [h39.err]; exact f5
    have e40 : r40.2 = 72 := by rw [h40]; exact f6
    rw [a2, e29, e32, e33, e34, e35, e36, e37, e38, e39, e40]
    show Tells (cond false _ _) _
    rw [cond_false]
    refine tdet (line_eq [] (by decide)) (tgrd (by decide) (tdet (line_eq [0] (by decide)) ?_))
    refine tbnd (Can_tells o1 0) fun r43 h43 => tdet (line_eq [] (by decide)) ?_
    refine tbnd (Lost_tells o0 0) fun r45 h45 => ?_
    refine tbnd (Wrong_tells o7) fun r46 h46 => tdet (line_eq [] (by decide)) ?_
    refine tbnd (Set_tells o0 0) fun r48 h48 => tdet (line_eq [0] (by decide)) ?_
    refine tbnd (Set_tells o1 5) fun r50 h50 => tdet (line_eq [] (by decide)) ?_
    refine tbnd (Homes_tells o0 0) fun r52 h52 => ?_
    have oh : Ok_SlaveLine homeL := okLB_ok (by decide +kernel)
    refine tbnd (Can_tells oh 0) fun r53 h53 => tdet (line_eq [] (by decide)) (tbnd (Sets_tells o0 5 _) fun r55 h55 => tdet (line_eq [0] (by decide)) (tbnd (Homes_tells o1 3) fun r69 h69 => ?_))
    rw [kn_homes.2] at h69
    subst h69
    have p1 : r48.2 = 0 := by rw [h48.err]; exact kn_open.1
    have p2 : r48.1 = ⟨-1, 10, 1, 1⟩ := (h48.is p1).2.2.2.uniq kn_best1
    have q1 : r50.2 = 0 := by rw [h50.err]; exact kn_open.2
    have q2 : r50.1 = ⟨-1, 0, 0, 5⟩ := (h50.is q1).2.2.2.uniq kn_best2
    exact known_k5 (h43.trans kn_can.1) (by rw [h45]; exact kn_lost) (h46.uniq ⟨fun h => (by rw [kn_good.1] at h; cases h), fun _ => ⟨rfl, kn_left⟩⟩) (Prod.ext p2 p1) (Prod.ext q2 q1) (h52.trans kn_homes.1) (h53.trans kn_can.2) (by rw [h55]; exact kn_sets)
def knStories : List (List (List Int)) := [([] : List (List Int)), [[1, 2]], [[4]], [[-1]], [([] : List Int), ([] : List Int)]]
theorem s1_tells (v : Bool) : Tells (w7SlaveKnown_s1 v) (fun b => b = true) := by
  unfold w7SlaveKnown_s1
  have o0 : Ok_SlaveLine (lineF []) := Ok_lineF _ (by decide) (by simp)
  refine tfor0 5 (fun i s => s = (v, (i : Int))) rfl ?_ ?_
  · rintro i _ hi rfl
    unfold w7SlaveKnown_b3
    dsimp only
    have hk : i < knStories.length := hi
    rw [show [([] : List (List Int)), [[1, 2]], [[4]], [[-1]], [([] : List Int), ([] : List Int)]] = knStories from rfl, lt_t hk, cond_true]
    have hs : ∀ st ∈ knStories, ∀ r ∈ st, (r.length : Int) ≤ 9223372036854775807 := by decide
    refine tdet (line_eq [] (by decide)) (tdet (idx_get hk) (tdet (isStory_eq o0 0 _ (hs _ (List.getElem_mem hk))) ?_))
    have hp := List.all_eq_true.1 kn_is _ (show knStories[i] ∈ _ from List.getElem_mem hk)
    rw [decide_eq_true_eq] at hp
    rw [hp]
    show Tells (cond false _ _) _
    rw [cond_false]
    exact tnxt (by rw [wr_succ (by omega)])
  · rintro _ rfl
    unfold w7SlaveKnown_b3
    dsimp only
    show Tells (cond false _ _) _
    rw [cond_false]
    exact tend (b4_tells v 0 rfl)
theorem pure_15 : w7SlaveKnown (fun b => b = true) := by
  refine Tells.is (m := w7SlaveKnown) ?_
  unfold w7SlaveKnown
  refine tdet (line_eq [] (by decide)) (tdet (line_eq [] (by decide)) (tdet (line_eq [] (by decide)) (tdet (line_eq [] (by decide)) (tdet (line_eq [] (by decide)) (tdet (line_eq [] (by decide)) (tdet (line_eq [] (by decide)) (tdet (line_eq [] (by decide)) (tdet (line_eq [] (by decide)) ?_))))))))
  refine tdet (line_eq [12] (by decide)) (tgrd (by unfold mlim; decide) (tdet (line_eq (List.replicate (Int.toNat 10) (0 : Int)) (by decide)) (tdet (a := badS) rfl (tdet (a := badS) rfl (tdet (a := sendE 0 4 1) rfl (tdet (a := sendE 0 4 1) rfl (tdet (a := sendE 0 4 1) rfl (tdet (a := sendE 0 4 1) rfl (tdet (look_eq 1 0) (tdet (a := badL) rfl ?_))))))))))
  refine tfor0 badL.length (fun i s => s = (false, (i : Int))) rfl ?_ ?_
  · rintro i _ hi rfl
    unfold w7SlaveKnown_b2
    dsimp only
    rw [lt_t hi, cond_true]
    refine tdet (idx_get hi) ?_
    have hp := List.all_eq_true.1 kn_bad _ (List.getElem_mem hi)
    generalize badL[i] = l at hp
    simp only [Bool.and_eq_true, Bool.not_eq_true'] at hp
    have hO := okLB_ok hp.1
    have hb := hp.2
    refine tbnd (Can_tells hO (-1)) fun r12 h12 => tbnd (Lost_tells hO (-1)) fun r13 h13 => tdet (isStory_eq hO (-1) [] (by intro r hr; cases hr)) (tbnd (Story_tells hO (-1)) fun r15 h15 => tbnd (Wrong_tells hO) fun r16 h16 => tbnd (Sets_tells hO (-1) _) fun r17 h17 => tbnd (Set_tells hO (-1)) fun r18 h18 => tbnd (Homes_tells hO (-1)) fun r19 h19 => tdet (slave_Check_eq l hO) ?_)
    have e12 : r12.2 = 70 := by rw [h12]; exact canF_bad hb _
    have e13 : r13.2 = 70 := by rw [h13]; exact lostF_bad hb _
    have e15 : r15.2 = 70 := by rw [h15.err]; exact askF_bad hb _
    have e16 : r16.2 = 70 := by rw [h16.bad hb]
    have e17 : r17.2 = 70 := by rw [h17]; exact SetsF_bad hb _ _
    have e18 : r18.2 = 70 := by rw [h18.err]; exact openF_bad hb _
    have e19 : r19.2 = 70 := by rw [h19]; exact HomesF_bad hb _
    rw [isF_bad hb, hb, e12, e13, e15, e16, e17, e18, e19]
    show Tells (cond false _ _) _
    rw [cond_false]
    exact tnxt (by rw [wr_succ (by have : badL.length = 12 := rfl; omega)])
  · rintro _ rfl
    unfold w7SlaveKnown_b2
    dsimp only
    rw [lt_f, cond_false]
    exact tend (s1_tells false)
end Go.Proofs.YtmbgmefmkjeahaaDoor.Rt
