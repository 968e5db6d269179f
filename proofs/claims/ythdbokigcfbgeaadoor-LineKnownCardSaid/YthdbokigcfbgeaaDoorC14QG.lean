/- Plain laws of the line seat, part 7: what both sides answer. Under the conditions that each names. -/
import Derived.Test.YthdbokigcfbgeaaDoorC14QF
set_option linter.unusedVariables false
set_option linter.unusedSimpArgs false
set_option maxRecDepth 100000
set_option maxHeartbeats 4000000
namespace Go.Proofs.YthdbokigcfbgeaaDoor.Rt
open Go Go.RowKit
def errF (n : LineNet) (e : Int) : Int := if goodB n then if inB e 0 (n.Exchanges - 1) then if reachB n e then if (routesF n e 0).isEmpty then 62 else 0 else 4 else 61 else 60
def RoutesF (n : LineNet) (e : Int) : List (List Int) × Int := if errF n e = 0 then (routesF n e 0, 0) else ([], errF n e)
theorem routes0 {n : LineNet} (hS : OkS n) (e : Int) : line_net_routes ⟨n, waysM n, 0⟩ e = some (routesF n e 0) := routes_eq hS (t := 0) (by decide) e
theorem delay0 {n : LineNet} (hS : OkS n) (e : Int) {way : List Int} (hw : WOk n way) : line_net_delay ⟨n, waysM n, 0⟩ e way = some (spF n e 0 way, canW n e 0 way) := delay_eq hS (waysM n) (t := 0) (by decide) e hw
structure AskR (n : LineNet) (e : Int) (r : line_net × List (List Int) × Int) : Prop where
  err : r.2.2 = errF n e
  ok : errF n e = 0 → r.1 = ⟨n, waysM n, 0⟩ ∧ r.2.1 = routesF n e 0
theorem errF_ok {n : LineNet} {e : Int} (h : errF n e = 0) : OkS n ∧ inB e 0 (n.Exchanges - 1) = true ∧ reachB n e = true ∧ routesF n e 0 ≠ [] := by
  unfold errF at h
  split at h
  · next h1 =>
    split at h
    · next h2 =>
      split at h
      · next h3 =>
        split at h
        · cases h
        · next h4 => exact ⟨OkS.of h1, h2, h3, fun g => h4 (by rw [g]; rfl)⟩
      · cases h
    · cases h
  · cases h
theorem len0 {α : Type} (l : List α) : ((l.length : Int) == 0) = l.isEmpty := by
  cases l with
  | nil => rfl
  | cons a l => rw [beqI]; exact decide_eq_false (by simp only [List.length_cons]; omega)
theorem asked_eq {n : LineNet} (h : Ok_LineNet n) (e : Int) : ∃ r, line_asked n e = some r ∧ AskR n e r := by
  unfold line_asked
  rw [line_Check_eq n h, bind_s]
  cases hg : goodB n with
  | false =>
    refine ⟨_, rfl, ?_, fun h0 => ?_⟩
    · show (60 : Int) = _
      unfold errF; rw [hg]; rfl
    · unfold errF at h0; rw [hg] at h0; cases h0
  | true =>
    have hS := OkS.of hg
    have := hS.e1; have := hS.e2
    rw [if_pos rfl, show ((0 : Int) != 0) = false from rfl, cond_false, lies_eq, bind_s, wr_id' (n := n.Exchanges - 1) (by omega) (by omega)]
    cases h1 : inB e 0 (n.Exchanges - 1) with
    | false =>
      refine ⟨_, rfl, ?_, fun h0 => ?_⟩
      · show (61 : Int) = _
        unfold errF; rw [hg, h1]; rfl
      · unfold errF at h0; rw [hg, h1] at h0; cases h0
    | true =>
      rw [Bool.not_true, cond_false, opened_eq hS 0, bind_s, reaches_eq hS, bind_s]
      cases h2 : reachB n e with
      | false =>
        refine ⟨_, rfl, ?_, fun h0 => ?_⟩
        · show (4 : Int) = _
          unfold errF; rw [hg, h1, h2]; rfl
        · unfold errF at h0; rw [hg, h1, h2] at h0; cases h0
      | true =>
        rw [Bool.not_true, cond_false, routes0 hS, bind_s, len0]
        cases h3 : (routesF n e 0).isEmpty with
        | true =>
          refine ⟨_, rfl, ?_, fun h0 => ?_⟩
          · show (62 : Int) = _
            unfold errF; rw [hg, h1, h2, h3]; rfl
          · unfold errF at h0; rw [hg, h1, h2, h3] at h0; cases h0
        | false =>
          refine ⟨_, rfl, ?_, fun h0 => ⟨rfl, rfl⟩⟩
          show (0 : Int) = _
          unfold errF; rw [hg, h1, h2, h3]; rfl
theorem ne0 {x : Int} (h : x ≠ 0) : (x != 0) = true := by rw [bneI]; exact decide_eq_true h
theorem Routes_eq {n : LineNet} (h : Ok_LineNet n) (e : Int) : line_Routes n e = some (RoutesF n e) := by
  unfold line_Routes RoutesF
  obtain ⟨r, h1, h2, h3⟩ := asked_eq h e
  rw [h1, bind_s, h2]
  by_cases he : errF n e = 0
  · obtain ⟨hS, _⟩ := errF_ok he
    obtain ⟨_, h4⟩ := h3 he
    rw [if_pos he, he, show ((0 : Int) != 0) = false from rfl, cond_false]
    have hp := p126
    have hl := routes_len hS e 0
    rw [loop_list (fin := fun l => some (l, (0 : Int))) (routesF n e 0) (fun w => [w]) 1 (fun i out hi ho => ?_) (fun out => ?_) (fun _ _ => Nat.le_refl _), flat_one, List.map_id']
    · unfold line_Routes_b1 slices_Clone___int_int_
      have := (routes_ok hS (List.getElem_mem hi)).len
      simp only [h4]
      rw [lt_t hi, cond_true, idx_get hi, bind_s, if_pos (by unfold lim; omega), bind_s, if_pos (by simp only [List.length_singleton]; unfold lim; omega), wr_succ (by omega)]
    · unfold line_Routes_b1
      simp only [h4]
      rw [lt_f, cond_false]
  · rw [if_neg he, ne0 he, cond_true]
def wid (s t : Span) : Span := ⟨if t.Low < s.Low then t.Low else s.Low, if t.High > s.High then t.High else s.High⟩
def spanN (n : LineNet) (e : Int) (m : Nat) : Span := ((routesF n e 0).take m).foldl (fun s w => wid s (spF n e 0 w)) (spF n e 0 ((routesF n e 0).headD []))
def spanF (n : LineNet) (e : Int) : Span := spanN n e (routesF n e 0).length
theorem spanN_succ {n : LineNet} {e : Int} {i : Nat} (hi : i < (routesF n e 0).length) : spanN n e (i + 1) = wid (spanN n e i) (spF n e 0 (routesF n e 0)[i]) := by
  unfold spanN
  rw [List.take_succ_eq_append_getElem hi, List.foldl_append]; rfl
def DelayF (n : LineNet) (e : Int) : Span × Int := if errF n e = 0 then (spanF n e, 0) else (⟨0, 0⟩, errF n e)
theorem head_get {α : Type} {l : List α} (d : α) (h : 0 < l.length) : l.headD d = l[0] := by
  cases l with
  | nil => simp at h
  | cons a l => rfl
theorem Delay_eq {n : LineNet} (h : Ok_LineNet n) (e : Int) : line_Delay n e = some (DelayF n e) := by
  unfold line_Delay DelayF
  obtain ⟨r, h1, h2, h3⟩ := asked_eq h e
  rw [h1, bind_s, h2]
  by_cases he : errF n e = 0
  · obtain ⟨hS, _, _, hne⟩ := errF_ok he
    obtain ⟨h5, h4⟩ := h3 he
    have hpos : 0 < (routesF n e 0).length := List.length_pos_iff.2 hne
    have hp := p126
    have hl := routes_len hS e 0
    rw [if_pos he, he, show ((0 : Int) != 0) = false from rfl, cond_false, h4, show (0 : Int) = ((0 : Nat) : Int) from rfl, idx_get hpos, bind_s, h5]
    have hd : line_net_delay ⟨n, waysM n, 0⟩ e (routesF n e 0)[0] = _ := delay0 hS e (routes_ok hS (List.getElem_mem hpos))
    rw [show (((0 : Nat) : Int)) = (0 : Int) from rfl, hd, bind_s]
    refine loopU_for (fun i (s : Int × Int × Int) => s = ((i : Int), (spanN n e i).Low, (spanN n e i).High)) (routesF n e 0).length (Post := fun o => o = some (spanF n e, 0)) ?_ ?_ ?_
    · unfold spanN
      rw [head_get [] hpos]; rfl
    · rintro i _ hi rfl
      refine ⟨_, ?_, rfl⟩
      unfold line_Delay_b1
      simp only [h4, h5]
      rw [lt_t hi, cond_true, idx_get hi, bind_s, delay0 hS e (routes_ok hS (List.getElem_mem hi)), bind_s, wr_succ (by omega), spanN_succ hi]
      rfl
    · rintro _ rfl
      refine ⟨_, ?_, rfl⟩
      unfold line_Delay_b1
      simp only [h4]
      rw [lt_f, cond_false]; rfl
  · rw [if_neg he, ne0 he, cond_true]
theorem RoutesF_ok {n : LineNet} {e : Int} (he : errF n e = 0) : RoutesF n e = (routesF n e 0, 0) := by unfold RoutesF; rw [if_pos he]
theorem span_mem {n : LineNet} {e : Int} (hne : routesF n e 0 ≠ []) : (∀ w ∈ routesF n e 0, (spanF n e).Low ≤ (spF n e 0 w).Low ∧ (spF n e 0 w).High ≤ (spanF n e).High) ∧
    (∃ w ∈ routesF n e 0, (spanF n e).Low = (spF n e 0 w).Low) ∧ ∃ w ∈ routesF n e 0, (spanF n e).High = (spF n e 0 w).High := by
  have hpos : 0 < (routesF n e 0).length := List.length_pos_iff.2 hne
  have key : ∀ m, m ≤ (routesF n e 0).length → (∀ w ∈ (routesF n e 0).take m, (spanN n e m).Low ≤ (spF n e 0 w).Low ∧ (spF n e 0 w).High ≤ (spanN n e m).High) ∧
    (∃ w ∈ routesF n e 0, (spanN n e m).Low = (spF n e 0 w).Low) ∧ ∃ w ∈ routesF n e 0, (spanN n e m).High = (spF n e 0 w).High := by
    intro m
    induction m with
    | zero =>
      intro _
      have : spanN n e 0 = spF n e 0 (routesF n e 0)[0] := by unfold spanN; rw [head_get [] hpos]; rfl
      rw [this]
      exact ⟨fun w hw => by simp at hw, ⟨_, List.getElem_mem hpos, rfl⟩, _, List.getElem_mem hpos, rfl⟩
    | succ m ih =>
      intro hm
      have hm' : m < (routesF n e 0).length := by omega
      obtain ⟨h1, ⟨w1, hw1, h2⟩, w2, hw2, h3⟩ := ih (by omega)
      rw [spanN_succ hm']
      unfold wid
      dsimp only
      refine ⟨fun w hw => ?_, ?_, ?_⟩
      · rw [List.take_succ_eq_append_getElem hm'] at hw
        rcases List.mem_append.1 hw with hw | hw
        · have := h1 w hw
          constructor
          · split <;> omega
          · split <;> omega
        · rw [List.mem_singleton.1 hw]
          constructor
          · split <;> omega
          · split <;> omega
      · split
        · exact ⟨_, List.getElem_mem hm', rfl⟩
        · exact ⟨w1, hw1, h2⟩
      · split
        · exact ⟨_, List.getElem_mem hm', rfl⟩
        · exact ⟨w2, hw2, h3⟩
  have := key _ (Nat.le_refl _)
  rw [List.take_length] at this
  exact this
theorem span_bd {n : LineNet} {e : Int} (hS : OkS n) (hne : routesF n e 0 ≠ []) : 0 ≤ (spanF n e).Low ∧ (spanF n e).Low ≤ (spanF n e).High ∧ (spanF n e).High ≤ 6000 := by
  obtain ⟨h1, ⟨w1, hw1, h2⟩, w2, hw2, h3⟩ := span_mem hne
  have b1 := sp_bd hS e 0 (routes_ok hS hw1).len
  have b2 := sp_bd hS e 0 (routes_ok hS hw2).len
  have c1 := ((mem_routesF hS e 0 w1).1 hw1).2.2
  unfold canW at c1
  simp only [decide_eq_true_eq] at c1
  have := h1 w1 hw1
  omega
def anyF (n : LineNet) (e d : Int) : Bool := (routesF n e 0).any fun w => inB d (spF n e 0 w).Low (spF n e 0 w).High
def CanF (n : LineNet) (e d : Int) : Bool × Int := if errF n e = 0 then (anyF n e d, 0) else (false, errF n e)
theorem indexF_eq (l : List (List Int)) (f : List Int → Option Bool) (p : List Int → Bool) (hf : ∀ w ∈ l, f w = some (p w)) (hl : (l.length : Int) ≤ 9223372036854775806) : ∃ r, slices_IndexFunc_____int___int_ l f = some r ∧ decide (r ≥ 0) = l.any p := by
  unfold slices_IndexFunc_____int___int_
  have key : ∀ (k i : Nat) (v : Int), i + k = l.length → ∃ r, loopU (slices_IndexFunc_____int___int__b1 l f) (v, (i : Int)) = some r ∧ decide (r ≥ 0) = (l.drop i).any p := by
    intro k
    induction k with
    | zero =>
      intro i v h
      refine ⟨-1, ?_, ?_⟩
      · refine loopU_ext ?_
        unfold slices_IndexFunc_____int___int__b1
        dsimp only
        obtain rfl : i = l.length := by omega
        rw [lt_f, cond_false]
      · rw [List.drop_eq_nil_of_le (by omega)]; rfl
    | succ k ih =>
      intro i v h
      have hi : i < l.length := by omega
      have e : slices_IndexFunc_____int___int__b1 l f (v, (i : Int)) = cond (p l[i]) (ext (some (i : Int))) (nxt (v, ((i + 1 : Nat) : Int))) := by
        unfold slices_IndexFunc_____int___int__b1
        dsimp only
        rw [lt_t hi, cond_true, idx_get hi, bind_s, hf _ (List.getElem_mem hi), bind_s, wr_succ (by omega)]
      rw [List.drop_eq_getElem_cons hi, List.any_cons]
      cases hp : p l[i] with
      | true =>
        rw [hp] at e
        exact ⟨(i : Int), loopU_ext e, by rw [Bool.true_or]; exact decide_eq_true (by omega)⟩
      | false =>
        rw [hp] at e
        rw [loopU_nxt e, Bool.false_or]
        exact ih (i + 1) v (by omega)
  obtain ⟨r, h1, h2⟩ := key l.length 0 0 (by omega)
  exact ⟨r, h1, by rw [List.drop_zero] at h2; exact h2⟩
theorem Can_eq {n : LineNet} (h : Ok_LineNet n) (e d : Int) : line_Can n e d = some (CanF n e d) := by
  unfold line_Can CanF
  obtain ⟨r, h1, h2, h3⟩ := asked_eq h e
  rw [h1, bind_s, h2]
  by_cases he : errF n e = 0
  · obtain ⟨hS, _, _, hne⟩ := errF_ok he
    obtain ⟨h5, h4⟩ := h3 he
    have hp := p126
    have hl := routes_len hS e 0
    rw [if_pos he, he, show ((0 : Int) != 0) = false from rfl, cond_false, h4, h5]
    unfold slices_ContainsFunc_____int___int_
    obtain ⟨r, e1, e2⟩ := indexF_eq (routesF n e 0) (fun q_z => line_Can_1 q_z ⟨n, waysM n, 0⟩ e d) (fun w => inB d (spF n e 0 w).Low (spF n e 0 w).High) (fun w hw => by
      unfold line_Can_1
      rw [delay0 hS e (routes_ok hS hw), bind_s, lies_eq]; rfl) (by omega)
    rw [e1, bind_s, bind_s, e2]; rfl
  · rw [if_neg he, ne0 he, cond_true]
def offF (s : Span) : Int := (s.High - s.Low + 1) / 2
def CorrectF (n : LineNet) (e : Int) : Int × Int × Int := if errF n e = 0 then ((spanF n e).High - offF (spanF n e), offF (spanF n e), 0) else (0, 0, errF n e)
theorem Correct_eq {n : LineNet} (h : Ok_LineNet n) (e : Int) : line_Correct n e = some (CorrectF n e) := by
  unfold line_Correct CorrectF
  rw [Delay_eq h, bind_s]
  unfold DelayF
  by_cases he : errF n e = 0
  · obtain ⟨hS, _, _, hne⟩ := errF_ok he
    have hb := span_bd hS hne
    rw [if_pos he, if_pos he, show ((0 : Int) != 0) = false from rfl, cond_false]
    dsimp only
    rw [wr_id' (n := (spanF n e).High - (spanF n e).Low) (by omega) (by omega), wr_id' (n := (spanF n e).High - (spanF n e).Low + 1) (by omega) (by omega), tdiv_nn (by omega)]
    unfold offF
    rw [wr_id' (n := ((spanF n e).High - (spanF n e).Low + 1) / 2) (by omega) (by omega), wr_id' (by omega) (by omega)]
  · rw [if_neg he, if_neg he]
    dsimp only
    rw [ne0 he, cond_true]
end Go.Proofs.YthdbokigcfbgeaaDoor.Rt
