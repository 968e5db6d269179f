/- Plain laws of the line seat, part 5: delays of a way. Under the conditions that each names. -/
import Derived.Test.YthdbokigcfbgeaaDoorC14QD
set_option linter.unusedVariables false
set_option linter.unusedSimpArgs false
set_option maxRecDepth 100000
set_option maxHeartbeats 4000000
namespace Go.Proofs.YthdbokigcfbgeaaDoor.Rt
open Go Go.RowKit
theorem range_flat {α β : Type} (g : β → List α) : ∀ (xs : List β), (List.range xs.length).flatMap (fun i => match xs[i]? with | some x => g x | none => []) = xs.flatMap g := by
  intro xs
  have key : ∀ (ys xs : List β), (List.range' xs.length ys.length).flatMap (fun i => match (xs ++ ys)[i]? with | some x => g x | none => []) = ys.flatMap g := by
    intro ys
    induction ys with
    | nil => intro xs; simp
    | cons y ys ih =>
      intro xs
      rw [List.length_cons, List.range'_succ, List.flatMap_cons, List.flatMap_cons]
      have := ih (xs ++ [y])
      rw [List.length_append, List.length_singleton, List.append_assoc, List.singleton_append] at this
      rw [this]
      simp
  have := key xs []
  rw [List.nil_append, List.length_nil, ← List.range_eq_range'] at this
  exact this
theorem loop_list {α β ρ : Type} {body : (List α × Int) → Option ((List α × Int) ⊕ ρ)} {fin : List α → Option ρ} (xs : List β) (g : β → List α) (B : Nat)
    (hstep : ∀ (i : Nat) (out : List α) (hi : i < xs.length), out.length ≤ i * B → body (out, (i : Int)) = nxt (out ++ g xs[i], ((i + 1 : Nat) : Int)))
    (hend : ∀ out, body (out, (xs.length : Int)) = ext (fin out)) (hg : ∀ x ∈ xs, (g x).length ≤ B) : loopU body (([] : List α), 0) = fin (xs.flatMap g) := by
  rw [loop_cat0 (fun i => match xs[i]? with | some x => g x | none => []) xs.length B (fun i out hi ho => ?_) hend (fun i hi => ?_), range_flat]
  · rw [hstep i out hi ho, List.getElem?_eq_getElem hi]
  · rw [List.getElem?_eq_getElem hi]
    exact hg _ (List.getElem_mem hi)
theorem flat_one {α β : Type} (f : β → α) (xs : List β) : xs.flatMap (fun x => [f x]) = xs.map f := by
  induction xs with
  | nil => rfl
  | cons x xs ih => rw [List.flatMap_cons, ih]; rfl
theorem flat_filter {α : Type} (p : α → Bool) (xs : List α) : xs.flatMap (fun x => if p x then [x] else []) = xs.filter p := by
  induction xs with
  | nil => rfl
  | cons x xs ih =>
    rw [List.flatMap_cons, ih, List.filter_cons]
    cases p x <;> rfl
theorem tdiv_nn {a : Int} (h : 0 ≤ a) : Int.tdiv a 2 = a / 2 := Int.tdiv_eq_ediv_of_nonneg h
theorem dec_in0 : ∀ t < 1024, ∀ k < 10, (bitsOp .and (gshr ((t : Nat) : Int) ((k : Nat) : Int)) 1 == 0) = !t.testBit k := by decide +kernel
def delayAt (n : LineNet) (e : Int) : Span := ((n.Lines[e.toNat]?).map (·.Delay)).getD ⟨0, 0⟩
def lowF (n : LineNet) (way : List Int) : Int := (way.map fun e => (delayAt n e).Low).sum
def highF (n : LineNet) (way : List Int) : Int := (way.map fun e => (delayAt n e).High).sum
structure WOk (n : LineNet) (way : List Int) : Prop where
  len : way.length ≤ 6
  is : ∀ e ∈ way, ∃ k : Nat, e = (k : Int) ∧ k < n.Lines.length
theorem WOk.at {n : LineNet} {way : List Int} (h : WOk n way) {i : Nat} (hi : i < way.length) : ∃ k : Nat, way[i] = (k : Int) ∧ ∃ hk : k < n.Lines.length, delayAt n way[i] = n.Lines[k].Delay := by
  obtain ⟨k, e, hk⟩ := h.is _ (List.getElem_mem hi)
  exact ⟨k, e, hk, by unfold delayAt; rw [e, Int.toNat_natCast, List.getElem?_eq_getElem hk]; rfl⟩
theorem delayAt_bd {n : LineNet} (hS : OkS n) (e : Int) : 0 ≤ (delayAt n e).Low ∧ (delayAt n e).Low ≤ (delayAt n e).High ∧ (delayAt n e).High ≤ 1000 := by
  unfold delayAt
  rcases h : n.Lines[e.toNat]? with _ | x
  · exact ⟨by decide, by decide, by decide⟩
  · obtain ⟨hi, rfl⟩ := List.getElem?_eq_some_iff.1 h
    have := hS.at hi
    exact ⟨this.d1, this.d2, this.d3⟩
theorem sum_bd {l : List Int} (h : ∀ x ∈ l, 0 ≤ x ∧ x ≤ 1000) : 0 ≤ l.sum ∧ l.sum ≤ 1000 * l.length := by
  induction l with
  | nil => simp
  | cons x l ih =>
    have h1 := h x (by simp)
    have h2 := ih fun y hy => h y (by simp [hy])
    rw [List.sum_cons, List.length_cons]
    omega
theorem low_bd {n : LineNet} (hS : OkS n) (way : List Int) : 0 ≤ lowF n way ∧ lowF n way ≤ 1000 * way.length := by
  have := sum_bd (l := way.map fun e => (delayAt n e).Low) (fun x hx => by
    obtain ⟨e, _, rfl⟩ := List.mem_map.1 hx
    have := delayAt_bd hS e
    omega)
  rw [List.length_map] at this
  exact this
theorem high_bd {n : LineNet} (hS : OkS n) (way : List Int) : 0 ≤ highF n way ∧ highF n way ≤ 1000 * way.length := by
  have := sum_bd (l := way.map fun e => (delayAt n e).High) (fun x hx => by
    obtain ⟨e, _, rfl⟩ := List.mem_map.1 hx
    have := delayAt_bd hS e
    omega)
  rw [List.length_map] at this
  exact this
theorem low_high {n : LineNet} (hS : OkS n) : ∀ way : List Int, lowF n way ≤ highF n way
  | [] => Int.le_refl _
  | e :: way => by
    have h1 := (delayAt_bd hS e).2.1
    have h2 := low_high hS way
    unfold lowF highF at *
    rw [List.map_cons, List.map_cons, List.sum_cons, List.sum_cons]
    omega
theorem sum_take_succ (l : List Int) {i : Nat} (hi : i < l.length) : (l.take (i + 1)).sum = (l.take i).sum + l[i] := by
  rw [List.take_succ_eq_append_getElem hi, List.sum_append]; simp
theorem sum_eq {l : List Int} (h : ∀ x ∈ l, 0 ≤ x ∧ x ≤ 1000) (hl : l.length ≤ 1000) : line_sum_int_ l = some l.sum := by
  unfold line_sum_int_
  refine loopU_for (fun i (s : Int × Int) => s = ((l.take i).sum, (i : Int))) l.length (Post := fun o => o = some l.sum) (by simp) ?_ ?_
  · rintro i _ hi rfl
    refine ⟨_, ?_, rfl⟩
    unfold line_sum_int__b1
    dsimp only
    have h1 := sum_bd (l := l.take i) fun x hx => h x (List.mem_of_mem_take hx)
    have h2 := h _ (List.getElem_mem hi)
    rw [List.length_take] at h1
    rw [lt_t hi, cond_true, idx_get hi, bind_s, wr_succ (by omega), wr_id' (by omega) (by omega), sum_take_succ l hi]
  · rintro _ rfl
    refine ⟨_, ?_, rfl⟩
    unfold line_sum_int__b1
    dsimp only
    rw [lt_f, cond_false, List.take_length]
theorem all_eq {nt : line_net} (hS : OkS nt.LineNet) {way : List Int} (hw : WOk nt.LineNet way) (f : Span → Int) (side : line_side) (hf : ∀ s, side.of_ s = some (f s)) (hb : ∀ e, 0 ≤ f (delayAt nt.LineNet e) ∧ f (delayAt nt.LineNet e) ≤ 1000) :
    line_net_all nt way side = some (way.map fun e => f (delayAt nt.LineNet e)).sum := by
  unfold line_net_all
  have hl := hw.len
  rw [loop_list (fin := fun l => (line_sum_int_ l).bind fun rv => some rv) way (fun e => [f (delayAt nt.LineNet e)]) 1 (fun i out hi ho => ?_) (fun out => ?_) (fun _ _ => Nat.le_refl _), flat_one, sum_eq, bind_s]
  · intro x hx
    obtain ⟨e, _, rfl⟩ := List.mem_map.1 hx
    exact hb e
  · rw [List.length_map]; omega
  · unfold line_net_all_b1
    dsimp only
    obtain ⟨k, e, hk, hd⟩ := hw.at hi
    rw [lt_t hi, cond_true, idx_get hi, bind_s, hd, e, idx_get hk, bind_s, hf, bind_s, if_pos (by simp only [List.length_singleton]; unfold lim; omega), wr_succ (by omega)]
  · unfold line_net_all_b1
    dsimp only
    rw [lt_f, cond_false]
def loL (x : LineLoop) : Int := (x.Read.Low + 1) / 2
def hiL (x : LineLoop) : Int := x.Read.High / 2
def lpF (n : LineNet) (e : Int) (t : Nat) : Nat → Int × Int → Int × Int
  | 0, s => s
  | i + 1, s => match n.Loops[i]? with
    | none => lpF n e t i s
    | some x => if t.testBit i = false ∧ x.Exchange = e then (if loL x > (lpF n e t i s).1 then loL x else (lpF n e t i s).1, if hiL x < (lpF n e t i s).2 then hiL x else (lpF n e t i s).2) else lpF n e t i s
def spF (n : LineNet) (e : Int) (t : Nat) (way : List Int) : Span := ⟨(lpF n e t n.Loops.length (lowF n way, highF n way)).1, (lpF n e t n.Loops.length (lowF n way, highF n way)).2⟩
def canW (n : LineNet) (e : Int) (t : Nat) (way : List Int) : Bool := decide ((spF n e t way).Low ≤ (spF n e t way).High)
theorem lp_bd {n : LineNet} (hS : OkS n) (e : Int) (t : Nat) (s : Int × Int) (h0 : 0 ≤ s.1) (h1 : s.1 ≤ 100000) (h2 : 0 ≤ s.2) (h3 : s.2 ≤ 100000) : ∀ i, i ≤ n.Loops.length → s.1 ≤ (lpF n e t i s).1 ∧ (lpF n e t i s).1 ≤ 100000 ∧ 0 ≤ (lpF n e t i s).2 ∧ (lpF n e t i s).2 ≤ s.2
  | 0, _ => ⟨Int.le_refl _, h1, h2, Int.le_refl _⟩
  | i + 1, hi => by
    have ih := lp_bd hS e t s h0 h1 h2 h3 i (by omega)
    rw [lpF, List.getElem?_eq_getElem (by omega)]
    dsimp only
    have hx := hS.lo (i := i) (by omega)
    have := hx.r1; have := hx.r2; have := hx.r3
    split
    · unfold loL hiL
      dsimp only
      refine ⟨?_, ?_, ?_, ?_⟩ <;> split <;> omega
    · exact ih
theorem sp_bd {n : LineNet} (hS : OkS n) (e : Int) (t : Nat) {way : List Int} (hw : way.length ≤ 6) : lowF n way ≤ (spF n e t way).Low ∧ 0 ≤ (spF n e t way).Low ∧ (spF n e t way).Low ≤ 100000 ∧ 0 ≤ (spF n e t way).High ∧ (spF n e t way).High ≤ highF n way ∧ (spF n e t way).High ≤ 6000 := by
  have h1 := low_bd hS way
  have h2 := high_bd hS way
  have := lp_bd hS e t (lowF n way, highF n way) (by simp only; omega) (by simp only; omega) (by simp only; omega) (by simp only; omega) n.Loops.length (Nat.le_refl _)
  simp only at this
  unfold spF
  dsimp only
  omega
theorem delay_eq {n : LineNet} (hS : OkS n) (mp : Mp) {t : Nat} (ht : t < 1024) (e : Int) {way : List Int} (hw : WOk n way) : line_net_delay ⟨n, mp, (t : Int)⟩ e way = some (spF n e t way, canW n e t way) := by
  unfold line_net_delay line_low line_high
  have hb := delayAt_bd hS
  rw [bind_s, all_eq (nt := ⟨n, mp, (t : Int)⟩) hS hw (·.Low) _ (fun _ => rfl) (fun e => by have := hb e; exact ⟨this.1, by show (delayAt n e).Low ≤ _; omega⟩), bind_s, bind_s,
    all_eq (nt := ⟨n, mp, (t : Int)⟩) hS hw (·.High) _ (fun _ => rfl) (fun e => by have := hb e; exact ⟨by show 0 ≤ (delayAt n e).High; omega, this.2.2⟩), bind_s]
  show loopU (line_net_delay_b1 ⟨n, mp, (t : Int)⟩ e) (0, lowF n way, highF n way) = _
  have hno := hS.no
  refine loopU_for (fun i (s : Int × Int × Int) => s = ((i : Int), lpF n e t i (lowF n way, highF n way))) n.Loops.length (Post := fun o => o = some (spF n e t way, canW n e t way)) rfl ?_ ?_
  · rintro i _ hi rfl
    have hx := hS.lo hi
    have := hx.r1; have := hx.r2; have := hx.r3
    refine ⟨((i + 1 : Nat), lpF n e t (i + 1) (lowF n way, highF n way)), ?_, rfl⟩
    unfold line_net_delay_b1
    dsimp only
    rw [lt_t hi, cond_true, idx_get hi, bind_s, if_pos (by omega), dec_in0 t ht i (by omega), beqI, wr_succ (by omega), lpF, List.getElem?_eq_getElem hi]
    dsimp only
    have e1 : wr (Int.tdiv (wr (n.Loops[i].Read.Low + 1)) 2) = loL n.Loops[i] := by unfold loL; rw [wr_id' (n := n.Loops[i].Read.Low + 1) (by omega) (by omega), tdiv_nn (by omega), wr_id' (by omega) (by omega)]
    have e2 : wr (Int.tdiv n.Loops[i].Read.High 2) = hiL n.Loops[i] := by unfold hiL; rw [tdiv_nn (by omega), wr_id' (by omega) (by omega)]
    rw [e1, e2]
    cases hb : t.testBit i with
    | true => rw [if_neg (c := (true = false ∧ n.Loops[i].Exchange = e)) (by simp)]; rfl
    | false =>
      by_cases he : n.Loops[i].Exchange = e
      · rw [if_pos (c := (false = false ∧ n.Loops[i].Exchange = e)) ⟨rfl, he⟩, decide_eq_true he]; rfl
      · rw [if_neg (c := (false = false ∧ n.Loops[i].Exchange = e)) (fun h => he h.2), decide_eq_false he]; rfl
  · rintro _ rfl
    refine ⟨some (spF n e t way, canW n e t way), ?_, rfl⟩
    unfold line_net_delay_b1
    dsimp only
    rw [lt_f, cond_false]; rfl
end Go.Proofs.YthdbokigcfbgeaaDoor.Rt
