/- Plain laws of the slave seat: states of all clocks; plans; pulses home. Under the conditions that each names. Plain laws of the slave seat: what a plan does, plans that set, pulses home. Under the conditions that each names. Plain laws of the slave seat: the plan of the fewest pulses. Under the conditions that each names. -/
import Derived.Test.YtmbgmefmkjeahaaDoorC15PM
set_option linter.unusedVariables false
set_option linter.unusedSimpArgs false
set_option maxRecDepth 100000
set_option maxHeartbeats 4000000
namespace Go.Proofs.YtmbgmefmkjeahaaDoor.Rt
open Go Go.RowKit
def statesE (l : SlaveLine) : List SlaveStart := (List.range l.Starts.length).flatMap fun w => (allE l w wo0).map (·.2)
def allCan (l : SlaveLine) (wo : Nat → Bool) : Bool := (List.range l.Starts.length).all fun w => canB l w wo
theorem mem_statesE {l : SlaveLine} (hS : OkS l) (s : SlaveStart) : s ∈ statesE l ↔ ∃ w, w < l.Starts.length ∧ ∃ st, Tale l w wo0 st s := by
  unfold statesE
  rw [List.mem_flatMap]
  constructor
  · rintro ⟨w, hw, h⟩
    rw [List.mem_range] at hw
    obtain ⟨⟨st, s'⟩, h1, rfl⟩ := List.mem_map.1 h
    exact ⟨w, hw, st, (mem_allE hS hw _ _).1 h1⟩
  · rintro ⟨w, hw, st, h⟩
    exact ⟨w, List.mem_range.2 hw, List.mem_map.2 ⟨(st, s), (mem_allE hS hw _ _).2 h, rfl⟩⟩
theorem statesE_ok {l : SlaveLine} (hS : OkS l) {s : SlaveStart} (h : s ∈ statesE l) : OkT l.Ring s := by
  obtain ⟨w, _, st, h⟩ := (mem_statesE hS s).1 h
  exact h.okT hS
theorem askF_of {l : SlaveLine} (hS : OkS l) {w : Nat} (hw : w < l.Starts.length) : askF l (w : Int) = if canB l w wo0 then 0 else 72 := by
  unfold askF
  rw [if_pos hS.good, if_pos (by rw [inB_iff]; omega), Int.toNat_natCast]
theorem nodup_lt : ∀ (n : Nat) (xs : List Nat), xs.Nodup → (∀ x ∈ xs, x < n) → xs.length ≤ n
  | 0, xs, _, h => by
    cases xs with
    | nil => simp
    | cons x xs => exact absurd (h x (by simp)) (by omega)
  | n + 1, xs, hn, h => by
    have h1 : (xs.erase n).length ≤ n := nodup_lt n _ (hn.erase n) fun x hx => by
      have := (hn.mem_erase_iff).1 hx
      have := h x this.2
      omega
    by_cases hm : n ∈ xs
    · have := List.length_erase_of_mem hm; omega
    · rw [List.erase_of_not_mem hm] at h1; omega
theorem Behind.size {l : SlaveLine} (hS : OkS l) {who : Nat} {wo : Nat → Bool} {m : List (SlaveStart × slave_way)} (hm : Behind l who wo m) : m.length ≤ 120 := by
  have hL := hm.left inj_57
  have h1 : (m.map fun p => placeN p.1).length ≤ 120 := by
    refine nodup_lt 120 _ ?_ fun x hx => ?_
    · have hnd := hL.nd
      have key : ∀ (m : List (SlaveStart × slave_way)), (m.map fun p => kl_57 p.1).Nodup → (∀ p ∈ m, OkT l.Ring p.1) → (m.map fun p => placeN p.1).Nodup := by
        intro m
        induction m with
        | nil => intro _ _; exact List.nodup_nil
        | cons p m ih =>
          intro h1 h2
          simp only [List.map_cons, List.nodup_cons] at h1 ⊢
          refine ⟨fun hx => h1.1 ?_, ih h1.2 fun q hq => h2 q (by simp [hq])⟩
          obtain ⟨q, hq, e⟩ := List.mem_map.1 hx
          have : q.1 = p.1 := by rw [← state_place (h2 q (by simp [hq])), ← state_place (h2 p (by simp)), e]
          exact List.mem_map.2 ⟨q, hq, by rw [this]⟩
      exact key m hnd fun p hp => (hL.has p hp).low.1.okT hS
    · obtain ⟨p, hp, rfl⟩ := List.mem_map.1 hx
      have := ((hL.has p hp).low.1.okT hS).place.2
      have := hS.r2
      omega
  simpa using h1
def TS (s : SlaveStart) (n0 : Int) (st0 : List (List Int)) (k : SlaveStart) : Rel := fun n st => k = s
structure States (l : SlaveLine) (r : List SlaveStart × Int) : Prop where
  err : r.2 = if allCan l wo0 then 0 else 72
  no : r.2 ≠ 0 → r.1 = []
  is : r.2 = 0 → ∀ s, s ∈ r.1 ↔ s ∈ statesE l
  len : r.1.length ≤ 1000
theorem allCan_iff {l : SlaveLine} {wo : Nat → Bool} : allCan l wo = true ↔ ∀ w, w < l.Starts.length → canB l w wo = true := by
  simp [allCan, List.all_eq_true]
theorem states_tells {l : SlaveLine} (hl : Ok_SlaveLine l) (hS : OkS l) : Tells (slave_states l) (States l) := by
  have h4 := hS.n2
  unfold slave_states
  refine tfor0 l.Starts.length (fun w s => s.2.2.2 = (w : Int) ∧ s.2.2.1.length ≤ w * 120 ∧ (∀ w', w' < w → canB l w' wo0 = true) ∧ ∀ x, x ∈ s.2.2.1 ↔ ∃ w', w' < w ∧ ∃ st, Tale l w' wo0 st x) ⟨rfl, by simp, fun w h => by omega, fun x => ⟨fun h => (by cases h), fun ⟨w, h, _⟩ => by omega⟩⟩ ?_ ?_
  · rintro w ⟨v2, v3, out, _⟩ hw ⟨rfl, h1, h2, h3⟩
    simp only at h1 h3
    unfold slave_states_b1
    dsimp only
    rw [lt_t hw, cond_true]
    refine tbnd (asked_tells hl (w : Int)) fun r hr => ?_
    have herr := hr.err
    rw [askF_of hS hw] at herr
    rw [bneI]
    by_cases h0 : r.2 = 0
    · rw [decide_eq_false (by simpa using h0), cond_false]
      obtain ⟨w', hww, _, _, hm, hc⟩ := hr.is h0
      obtain rfl : w' = w := by omega
      have hsz := hm.size hS
      refine tloop (fun s => LeftOk kl_57 (WR l w' wo0 l.Events.length) s.2 ∧ s.1.length + s.2.length ≤ (w' + 1) * 120 ∧ ∀ x, x ∈ s.1 ↔ (∃ w, w < w' ∧ ∃ st, Tale l w wo0 st x) ∨ ∃ n st, UL s.2 (WR l w' wo0 l.Events.length) TS x n st) (fun s => s.2.length) ?_
        ⟨hm.left inj_57, by simp only; omega, fun x => by rw [h3]; exact ⟨.inl, fun h => h.elim id fun ⟨n, st, h⟩ => ((UL.start inj_57 hm x n st).2 h).elim⟩⟩
      rintro ⟨o, left⟩ ⟨hL, g1, g2⟩
      simp only at hL g1 g2
      unfold slave_states_b2
      refine tpick (fun e => tend (tnxt ⟨wr_succ (by omega), by subst e; simpa using g1, fun w hw => ?_, fun x => ?_⟩)) fun ⟨s, y⟩ left' hp' => ?_
      · by_cases e : w = w'
        · subst e; exact hc
        · exact h2 w (by omega)
      · simp only
        rw [g2, e]
        constructor
        · rintro (⟨w, h, h'⟩ | ⟨n, st, k, n0, st0, _, h, rfl⟩)
          · exact ⟨w, by omega, h'⟩
          · exact ⟨w', by omega, st0, h.1⟩
        · rintro ⟨w, h, st, h'⟩
          by_cases e : w = w'
          · subst e
            exact .inr ⟨0, [], x, _, st, fun _ h => (by cases h), ⟨h', rfl⟩, rfl⟩
          · exact .inl ⟨w, by omega, st, h'⟩
      · obtain ⟨hsw, hL', hlt, hno⟩ := hL.pick hp'
        refine tgrd (by simp only [List.length_singleton]; unfold lim; omega) (tnxt ⟨⟨hL', by simp only [List.length_append, List.length_singleton]; omega, fun x => ?_⟩, hlt⟩)
        simp only
        rw [List.mem_append, g2, List.mem_singleton]
        constructor
        · rintro ((h | ⟨n, st, h⟩) | rfl)
          · exact .inl h
          · exact .inr ⟨n, st, (UL.pick inj_57 hL hp' _ _ _).2 (.inl h)⟩
          · exact .inr ⟨0, [], (UL.pick inj_57 hL hp' _ _ _).2 (.inr ⟨_, _, hsw.low, rfl⟩)⟩
        · rintro (h | ⟨n, st, h⟩)
          · exact .inl (.inl h)
          · rcases (UL.pick inj_57 hL hp' _ _ _).1 h with h | ⟨_, _, _, h⟩
            · exact .inl (.inr ⟨n, st, h⟩)
            · exact .inr h
    · rw [decide_eq_true h0, cond_true]
      have hc : canB l w wo0 = false := by
        cases hc : canB l w wo0 with
        | false => rfl
        | true => rw [hc] at herr; exact absurd herr h0
      have ha : allCan l wo0 = false := by
        rw [Bool.eq_false_iff, Ne, allCan_iff]
        intro h
        rw [h w hw] at hc; cases hc
      refine tend (tret ⟨?_, fun _ => rfl, fun h => absurd h h0, by simp⟩)
      rw [ha]
      rw [hc] at herr
      exact herr
  · rintro ⟨v2, v3, out, _⟩ ⟨rfl, h1, h2, h3⟩
    simp only at h1 h3
    unfold slave_states_b1
    dsimp only
    rw [lt_f, cond_false]
    refine tend (tret ⟨by rw [allCan_iff.2 h2]; rfl, fun h => absurd rfl h, fun _ x => by rw [mem_statesE hS]; exact h3 x, by simp only; omega⟩)
def preF (R : Int) (p : SlavePlan) (s : SlaveStart) : SlaveStart := if p.Pre = -1 then s else afterF R s p.Pre
def homeF (R h z : Int) : Int := if z = 0 then 0 else if R ≤ z + h then 0 else z + h
def behF (R : Int) (p : SlavePlan) (s : SlaveStart) : Int := (homeF R p.Home (preF R p s).Shown + (if 0 < p.Send ∧ (preF R p s).Last = p.First then p.Send - 1 else p.Send)) % R
structure OkP (p : SlavePlan) : Prop where
  e : p.Pre = -1 ∨ p.Pre = 0 ∨ p.Pre = 1
  h0 : 0 ≤ p.Home
  h1 : p.Home ≤ 60
  f : p.First = 0 ∨ p.First = 1
  s0 : 0 ≤ p.Send
  s1 : p.Send ≤ 60
def planB (p : SlavePlan) : Bool := inB p.Pre (-1) 1 && inB p.Home 0 60 && inB p.First 0 1 && inB p.Send 0 60
theorem planB_iff (p : SlavePlan) : planB p = true ↔ OkP p := by
  simp only [planB, Bool.and_eq_true, inB_iff]
  constructor
  · rintro ⟨⟨⟨a, b⟩, c⟩, d⟩
    exact ⟨by omega, by omega, by omega, by omega, by omega, by omega⟩
  · rintro ⟨a, b, c, d, e, f⟩
    omega
theorem OkT.pre {R : Int} (hR : 2 ≤ R) {s : SlaveStart} (hs : OkT R s) {p : SlavePlan} (hp : OkP p) : OkT R (preF R p s) := by
  unfold preF
  split
  · exact hs
  · exact hs.after hR hp.e
theorem homeF_bd {R h z : Int} (hR : 2 ≤ R) (h0 : 0 ≤ h) (hz : 0 ≤ z) (hz2 : z < R) : 0 ≤ homeF R h z ∧ homeF R h z < R := by
  unfold homeF
  split
  · omega
  · split <;> omega
theorem stepped_eq {l : slave_line} (h1 : 2 ≤ l.SlaveLine.Ring) (h2 : l.SlaveLine.Ring ≤ 60) {s : SlaveStart} (hs : OkT l.SlaveLine.Ring s) {p : SlavePlan} (hp : OkP p) : ∃ st, slave_line_stepped l s p = some st ∧ st.Shown = behF l.SlaveLine.Ring p s := by
  have hT := hs.pre h1 hp
  have hk1 : slave_line_stepped l s p = slave_line_stepped_k1 l p (preF l.SlaveLine.Ring p s).Shown (preF l.SlaveLine.Ring p s).Last := by
    unfold slave_line_stepped preF
    rw [bneI]
    by_cases h : p.Pre = -1
    · rw [decide_eq_false (by simpa using h), cond_false, if_pos h]
    · rw [decide_eq_true h, cond_true, if_neg h, after_eq h1 h2 hs hp.e, bind_s]
  rw [hk1]
  unfold behF
  generalize preF l.SlaveLine.Ring p s = t at hT
  have ha := hT.a; have hb := hT.b; have hc := hT.c
  have p0 := hp.h0; have p1 := hp.h1; have p2 := hp.s0; have p3 := hp.s1; have p4 := hp.f
  have hh := homeF_bd h1 p0 ha hb
  have hR0 : l.SlaveLine.Ring ≠ 0 := by omega
  have hk2 : slave_line_stepped_k1 l p t.Shown t.Last = slave_line_stepped_k2 l p t.Last (homeF l.SlaveLine.Ring p.Home t.Shown) := by
    unfold slave_line_stepped_k1 homeF
    rw [if_pos hR0, wr_id' (n := l.SlaveLine.Ring - t.Shown) (by omega) (by omega), wr_id' (n := t.Shown + p.Home) (by omega) (by omega), tmod_eq (by omega)]
    by_cases hz : t.Shown = 0
    · rw [if_pos hz, hz, Int.sub_zero, Int.emod_self, decide_eq_true p0, cond_true]
    · rw [if_neg hz, Int.emod_eq_of_lt (by omega) (by omega)]
      by_cases hle : l.SlaveLine.Ring ≤ t.Shown + p.Home
      · rw [if_pos hle, decide_eq_true (by omega), cond_true]
      · rw [if_neg hle, decide_eq_false (by omega), cond_false]
  rw [hk2]
  generalize homeF l.SlaveLine.Ring p.Home t.Shown = z at hh
  unfold slave_line_stepped_k2 slave_line_stepped_k4 slave_line_stepped_k3
  simp only [if_pos hR0]
  by_cases hs : 0 < p.Send
  · rw [decide_eq_true (show p.Send > 0 from hs), cond_true, wr_id' (n := p.Send - 1) (by omega) (by omega), wr_id' (n := z + (p.Send - 1)) (by omega) (by omega), wr_id' (n := z + p.Send) (by omega) (by omega), tmod_eq (a := z + (p.Send - 1)) (by omega), tmod_eq (a := z + p.Send) (by omega), beqI]
    by_cases hl : t.Last = p.First
    · rw [decide_eq_true hl, cond_true, if_pos ⟨hs, hl⟩]
      exact ⟨_, rfl, rfl⟩
    · rw [decide_eq_false hl, cond_false, if_neg (fun h => hl h.2)]
      exact ⟨_, rfl, rfl⟩
  · rw [decide_eq_false (show ¬ p.Send > 0 from hs), cond_false, if_neg (fun h => hs h.1)]
    refine ⟨_, rfl, ?_⟩
    rw [show p.Send = 0 by omega, Int.add_zero, Int.emod_eq_of_lt hh.1 hh.2]
theorem loop_all {α : Type} (xs : List α) (f : α → Bool) (body : (Bool × Int) → Option ((Bool × Int) ⊕ Bool))
    (hstep : ∀ (i : Nat) (h : i < xs.length), body (false, (i : Int)) = cond (f xs[i]) (nxt (false, ((i + 1 : Nat) : Int))) (ext (some false)))
    (hend : body (false, (xs.length : Int)) = ext (some true)) : loopU body (false, 0) = some (xs.all f) := by
  have key : ∀ (k i : Nat), i + k = xs.length → loopU body (false, (i : Int)) = some ((xs.drop i).all f) := by
    intro k
    induction k with
    | zero =>
      intro i h
      have e : i = xs.length := by omega
      subst e
      rw [List.drop_length]
      exact loopU_ext hend
    | succ k ih =>
      intro i h
      have hi : i < xs.length := by omega
      have hb := hstep i hi
      rw [← List.getElem_cons_drop hi, List.all_cons]
      cases hc : f xs[i] with
      | false => rw [hc] at hb; exact loopU_ext hb
      | true => rw [hc] at hb; rw [loopU_nxt hb, Bool.true_and]; exact ih (i + 1) (by omega)
  simpa using key xs.length 0 (by omega)
theorem all_congr_mem {α : Type} {xs ys : List α} (f : α → Bool) (h : ∀ s, s ∈ xs ↔ s ∈ ys) : xs.all f = ys.all f := by
  rw [Bool.eq_iff_iff, List.all_eq_true, List.all_eq_true]
  exact ⟨fun g x hx => g x ((h x).2 hx), fun g x hx => g x ((h x).1 hx)⟩
def setsF (l : SlaveLine) (minute : Int) (p : SlavePlan) : Bool := (statesE l).all fun s => decide (behF l.Ring p s = minute)
def openF (l : SlaveLine) (ok : Bool) : Int := if goodB l then if ok then if allCan l wo0 then 0 else 72 else 71 else 70
structure Opened (l : SlaveLine) (minute : Int) (ok : Bool) (r : slave_setter × Int) : Prop where
  err : r.2 = openF l ok
  is : r.2 = 0 → OkS l ∧ ok = true ∧ allCan l wo0 = true ∧ r.1.line = slave_line.mk l [] ∧ r.1.minute = minute ∧ (∀ s, s ∈ r.1.states ↔ s ∈ statesE l) ∧ r.1.states.length ≤ 1000
theorem opened_tells {l : SlaveLine} (hl : Ok_SlaveLine l) (minute : Int) (ok : Bool) : Tells (slave_opened l minute ok) (Opened l minute ok) := by
  unfold slave_opened
  refine tdet (slave_Check_eq l hl) ?_
  cases hg : goodB l with
  | false => exact tret ⟨by simp [openF, hg], fun h => by simp at h⟩
  | true =>
    have hS := OkS.of hg
    cases ok with
    | false => exact tret ⟨by simp [openF, hg], fun h => by simp at h⟩
    | true =>
      show Tells (ND.bnd (slave_states l) _) _
      refine tbnd (states_tells hl hS) fun r hr => tret ?_
      refine ⟨by simp only [openF, hg, if_true]; exact hr.err, fun h => ?_⟩
      have h0 : r.2 = 0 := h
      refine ⟨hS, rfl, ?_, rfl, rfl, hr.is h0, hr.len⟩
      have := hr.err
      rw [h0] at this
      cases hc : allCan l wo0 with
      | true => rfl
      | false => rw [hc] at this; simp at this
theorem setter_eq {l : SlaveLine} (hS : OkS l) {xv : slave_setter} (hline : xv.line = slave_line.mk l []) (hst : ∀ s, s ∈ xv.states ↔ s ∈ statesE l) (hlen : xv.states.length ≤ 1000) {p : SlavePlan} (hp : OkP p) : slave_setter_sets xv p = some (setsF l xv.minute p) := by
  unfold slave_setter_sets setsF
  rw [← all_congr_mem _ hst]
  refine loop_all _ _ _ (fun i hi => ?_) ?_
  · have hT := statesE_ok hS ((hst _).1 (List.getElem_mem hi))
    unfold slave_setter_sets_b1
    dsimp only
    rw [lt_t hi, cond_true, idx_get hi, bind_s, hline]
    obtain ⟨st, h1, h2⟩ := stepped_eq (l := slave_line.mk l []) hS.r1 hS.r2 hT hp
    rw [h1, bind_s, h2, bneI, wr_succ (by omega)]
    by_cases h : behF l.Ring p xv.states[i] = xv.minute
    · rw [decide_eq_true h, decide_eq_false (fun h2 => h2 h)]; rfl
    · rw [decide_eq_false h, decide_eq_true h]; rfl
  · unfold slave_setter_sets_b1
    dsimp only
    rw [lt_f, cond_false]
def okM (l : SlaveLine) (minute : Int) : Bool := inB minute 0 (l.Ring - 1)
def SetsF (l : SlaveLine) (minute : Int) (p : SlavePlan) : Bool × Int := if openF l (okM l minute && planB p) = 0 then (setsF l minute p, 0) else (false, openF l (okM l minute && planB p))
theorem openF_any {l : SlaveLine} (h : goodB l = false) (a b : Bool) : openF l a = openF l b := by unfold openF; rw [h]; rfl
theorem ring1 {l : SlaveLine} (hS : OkS l) : wr (l.Ring - 1) = l.Ring - 1 := by
  have := hS.r1; have := hS.r2
  exact wr_id' (by omega) (by omega)
theorem openF_wr (l : SlaveLine) (minute : Int) (b : Bool) : openF l (inB minute 0 (wr (l.Ring - 1)) && b) = openF l (okM l minute && b) := by
  cases hg : goodB l with
  | false => exact openF_any hg _ _
  | true => rw [ring1 (OkS.of hg)]; rfl
theorem Sets_tells {l : SlaveLine} (hl : Ok_SlaveLine l) (minute : Int) (p : SlavePlan) : Tells (slave_Sets l minute p) (fun r => r = SetsF l minute p) := by
  unfold slave_Sets
  refine tdet (within_eq _ _ _) (tdet (a := inB minute 0 (wr (l.Ring - 1)) && inB p.Pre (-1) 1) (by rw [within_eq, bind_s, cond_b_some]) (tdet (a := inB minute 0 (wr (l.Ring - 1)) && inB p.Pre (-1) 1 && inB p.Home 0 60) (by rw [within_eq, bind_s, cond_b_some])
    (tdet (a := inB minute 0 (wr (l.Ring - 1)) && inB p.Pre (-1) 1 && inB p.Home 0 60 && inB p.First 0 1) (by rw [within_eq, bind_s, cond_b_some]) (tdet (a := inB minute 0 (wr (l.Ring - 1)) && inB p.Pre (-1) 1 && inB p.Home 0 60 && inB p.First 0 1 && inB p.Send 0 60) (by rw [within_eq, bind_s, cond_b_some]) ?_))))
  have e : (inB minute 0 (wr (l.Ring - 1)) && inB p.Pre (-1) 1 && inB p.Home 0 60 && inB p.First 0 1 && inB p.Send 0 60) = (inB minute 0 (wr (l.Ring - 1)) && planB p) := by unfold planB; simp only [Bool.and_assoc]
  rw [e]
  refine tbnd (opened_tells hl minute _) fun r hr => ?_
  unfold SetsF
  rw [← openF_wr, ← hr.err, bneI]
  by_cases h0 : r.2 = 0
  · rw [decide_eq_false (by simpa using h0), cond_false, if_pos h0]
    obtain ⟨hS, hok, _, h1, h2, h3, h4⟩ := hr.is h0
    rw [Bool.and_eq_true] at hok
    refine tdet (setter_eq hS h1 h3 h4 ((planB_iff p).1 hok.2)) (tret ?_)
    rw [h2]
  · rw [decide_eq_true h0, cond_true, if_neg h0]
    exact tret rfl
def homeV (R lost : Int) (s : SlaveStart) : Int := if 0 < s.Shown then R - s.Shown + lost else 0
def maxS (f : SlaveStart → Int) (xs : List SlaveStart) : Int := xs.foldl (fun n s => if f s > n then f s else n) 0
theorem maxS_spec (f : SlaveStart → Int) (xs : List SlaveStart) : (∀ s ∈ xs, f s ≤ maxS f xs) ∧ 0 ≤ maxS f xs ∧ (maxS f xs = 0 ∨ ∃ s ∈ xs, maxS f xs = f s) := by
  have key : ∀ (xs : List SlaveStart) (n : Int), let m := xs.foldl (fun n s => if f s > n then f s else n) n; (∀ s ∈ xs, f s ≤ m) ∧ n ≤ m ∧ (m = n ∨ ∃ s ∈ xs, m = f s) := by
    intro xs
    induction xs with
    | nil => intro n; exact ⟨fun s h => (by cases h), Int.le_refl _, .inl rfl⟩
    | cons x xs ih =>
      intro n
      simp only [List.foldl_cons]
      obtain ⟨h1, h2, h3⟩ := ih (if f x > n then f x else n)
      refine ⟨fun s hs => ?_, ?_, ?_⟩
      · rcases List.mem_cons.1 hs with rfl | hs
        · refine Int.le_trans ?_ h2; split <;> omega
        · exact h1 s hs
      · refine Int.le_trans ?_ h2; split <;> omega
      · rcases h3 with h3 | ⟨s, hs, h3⟩
        · rw [h3]
          split
          · exact .inr ⟨x, by simp, rfl⟩
          · exact .inl rfl
        · exact .inr ⟨s, by simp [hs], h3⟩
  exact key xs 0
theorem maxS_congr (f : SlaveStart → Int) {xs ys : List SlaveStart} (h : ∀ s, s ∈ xs ↔ s ∈ ys) : maxS f xs = maxS f ys := by
  obtain ⟨a1, a2, a3⟩ := maxS_spec f xs
  obtain ⟨b1, b2, b3⟩ := maxS_spec f ys
  have h1 : maxS f xs ≤ maxS f ys := by
    rcases a3 with a3 | ⟨s, hs, a3⟩
    · omega
    · rw [a3]; exact b1 s ((h s).1 hs)
  have h2 : maxS f ys ≤ maxS f xs := by
    rcases b3 with b3 | ⟨s, hs, b3⟩
    · omega
    · rw [b3]; exact a1 s ((h s).2 hs)
  omega
def HomesF (l : SlaveLine) (lost : Int) : Int × Int := if openF l (inB lost 0 3) = 0 then (maxS (homeV l.Ring lost) (statesE l), 0) else (0, openF l (inB lost 0 3))
theorem Homes_tells {l : SlaveLine} (hl : Ok_SlaveLine l) (lost : Int) : Tells (slave_Homes l lost) (fun r => r = HomesF l lost) := by
  unfold slave_Homes
  refine tdet (within_eq _ _ _) (tbnd (opened_tells hl 0 _) fun r hr => ?_)
  unfold HomesF
  rw [← hr.err, bneI]
  by_cases h0 : r.2 = 0
  · rw [decide_eq_false (by simpa using h0), cond_false, if_pos h0]
    obtain ⟨hS, hok, _, h1, h2, h3, h4⟩ := hr.is h0
    rw [inB_iff] at hok
    have hr1 := hS.r1; have hr2 := hS.r2
    rw [← maxS_congr _ h3]
    refine tfor0 r.1.states.length (fun k s => s = ((r.1.states.take k).foldl (fun n s => if homeV l.Ring lost s > n then homeV l.Ring lost s else n) 0, (k : Int))) rfl ?_ ?_
    · rintro k _ hk rfl
      have hT := statesE_ok hS ((h3 _).1 (List.getElem_mem hk))
      have ha := hT.a; have hb := hT.b
      have hm := maxS_spec (homeV l.Ring lost) (r.1.states.take k)
      unfold slave_Homes_b1
      dsimp only
      rw [lt_t hk, cond_true]
      refine tdet (idx_get hk) ?_
      rw [foldl_take hk]
      change _ ∧ 0 ≤ (r.1.states.take k).foldl (fun n s => if homeV l.Ring lost s > n then homeV l.Ring lost s else n) 0 ∧ _ at hm
      generalize (r.1.states.take k).foldl (fun n s => if homeV l.Ring lost s > n then homeV l.Ring lost s else n) 0 = n at hm
      have hn : 0 ≤ n := hm.2.1
      rw [wr_succ (by omega), wr_id' (n := l.Ring - r.1.states[k].Shown) (by omega) (by omega), wr_id' (n := l.Ring - r.1.states[k].Shown + lost) (by omega) (by omega)]
      by_cases hs : 0 < r.1.states[k].Shown
      · rw [show homeV l.Ring lost r.1.states[k] = l.Ring - r.1.states[k].Shown + lost by unfold homeV; rw [if_pos hs]]
        rw [decide_eq_true (show r.1.states[k].Shown > 0 from hs), cond_true]
        refine tdet (a := if l.Ring - r.1.states[k].Shown + lost > n then l.Ring - r.1.states[k].Shown + lost else n) ?_ (tnxt rfl)
        unfold slave_greatest_int_
        have hb : slave_greatest_int__b1 [l.Ring - r.1.states[k].Shown + lost] (n, 0) = nxt (if l.Ring - r.1.states[k].Shown + lost > n then l.Ring - r.1.states[k].Shown + lost else n, 1) := rfl
        rw [loopU_nxt hb]
        exact loopU_ext rfl
      · rw [show homeV l.Ring lost r.1.states[k] = 0 by unfold homeV; rw [if_neg hs]]
        rw [decide_eq_false (show ¬ r.1.states[k].Shown > 0 from hs), cond_false, if_neg (by omega)]
        exact tnxt rfl
    · rintro _ rfl
      unfold slave_Homes_b1
      dsimp only
      rw [lt_f, cond_false]
      refine tend (tret ?_)
      rw [List.take_length]; rfl
  · rw [decide_eq_true h0, cond_true, if_neg h0]
    exact tret rfl
def pulsesF (p : SlavePlan) : Int := p.Home + p.Send + (if 0 ≤ p.Pre then 1 else 0)
def leP (p q : SlavePlan) : Prop := pulsesF p < pulsesF q ∨ (pulsesF p = pulsesF q ∧ (p.Pre < q.Pre ∨ (p.Pre = q.Pre ∧ (p.Home < q.Home ∨ (p.Home = q.Home ∧ p.First ≤ q.First)))))
structure IsBest (l : SlaveLine) (minute : Int) (p : SlavePlan) : Prop where
  ok : OkP p
  good : setsF l minute p = true
  le : ∀ q, OkP q → setsF l minute q = true → leP p q
theorem plan_ext {p q : SlavePlan} (h1 : p.Pre = q.Pre) (h2 : p.Home = q.Home) (h3 : p.First = q.First) (h4 : p.Send = q.Send) : p = q := by
  cases p; cases q; simp only at h1 h2 h3 h4; rw [h1, h2, h3, h4]
theorem IsBest.uniq {l : SlaveLine} {minute : Int} {p q : SlavePlan} (hp : IsBest l minute p) (hq : IsBest l minute q) : p = q := by
  have h1 := hp.le q hq.ok hq.good
  have h2 := hq.le p hp.ok hp.good
  unfold leP pulsesF at h1 h2
  have e1 : p.Pre = q.Pre := by omega
  have e2 : p.Home = q.Home := by omega
  have e3 : p.First = q.First := by omega
  refine plan_ext e1 e2 e3 ?_
  rw [e1] at h1 h2
  omega
theorem plan_is {l : SlaveLine} (hS : OkS l) {minute : Int} (hm : okM l minute = true) : OkP ⟨0, l.Ring - 1, 1, minute⟩ ∧ setsF l minute ⟨0, l.Ring - 1, 1, minute⟩ = true ∧ pulsesF ⟨0, l.Ring - 1, 1, minute⟩ = l.Ring + minute := by
  have hr1 := hS.r1; have hr2 := hS.r2
  unfold okM at hm
  rw [inB_iff] at hm
  have hok : OkP ⟨0, l.Ring - 1, 1, minute⟩ := ⟨.inr (.inl rfl), by dsimp only; omega, by dsimp only; omega, .inr rfl, by dsimp only; omega, by dsimp only; omega⟩
  refine ⟨hok, ?_, ?_⟩
  · unfold setsF
    rw [List.all_eq_true]
    intro s hs
    rw [decide_eq_true_eq]
    have hT := (statesE_ok hS hs).pre hr1 hok
    have hl : (preF l.Ring ⟨0, l.Ring - 1, 1, minute⟩ s).Last = 0 := by
      unfold preF afterF
      dsimp only
      rw [if_neg (by decide), if_neg (by decide)]
      split
      · rfl
      · next h => exact Classical.not_not.1 h
    unfold behF
    rw [hl]
    have ha := hT.a; have hb := hT.b
    have hh : homeF l.Ring (l.Ring - 1) (preF l.Ring ⟨0, l.Ring - 1, 1, minute⟩ s).Shown = 0 := by
      unfold homeF
      split
      · rfl
      · rw [if_pos (by omega)]
    dsimp only
    rw [hh, if_neg (by omega), Int.zero_add, Int.emod_eq_of_lt hm.1 (by omega)]
  · unfold pulsesF
    dsimp only
    rw [if_pos (by decide)]; omega
theorem find_range {α : Type} (hit : Nat → Option α) : ∀ n, (∃ i a, i < n ∧ hit i = some a ∧ (∀ j, j < i → hit j = none) ∧ (List.range n).findSome? hit = some a) ∨ ((∀ j, j < n → hit j = none) ∧ (List.range n).findSome? hit = none)
  | 0 => .inr ⟨fun j h => by omega, rfl⟩
  | n + 1 => by
    rw [List.range_succ, List.findSome?_append]
    rcases find_range hit n with ⟨i, a, h1, h2, h3, h4⟩ | ⟨h1, h2⟩
    · exact .inl ⟨i, a, by omega, h2, h3, by rw [h4]; rfl⟩
    · rw [h2]
      cases hn : hit n with
      | some a => exact .inl ⟨n, a, by omega, hn, h1, by simp [List.findSome?, hn]⟩
      | none =>
        refine .inr ⟨fun j hj => ?_, by simp [List.findSome?, hn]⟩
        by_cases e : j = n
        · subst e; exact hn
        · exact h1 j (by omega)
theorem loop_hit {σ ρ α : Type} {body : σ → Option (σ ⊕ ρ)} (st : Nat → σ) (n : Nat) (hit : Nat → Option α) (res : α → Option ρ) (fin : Option ρ)
    (hstep : ∀ i, i < n → body (st i) = match hit i with | some a => ext (res a) | none => nxt (st (i + 1))) (hend : body (st n) = ext fin) :
    loopU body (st 0) = match (List.range n).findSome? hit with | some a => res a | none => fin := by
  rcases find_range hit n with ⟨i, a, h1, h2, h3, h4⟩ | ⟨h1, h2⟩
  · rw [h4, loopU_run0 st i fun j hj => by rw [hstep j (by omega), h3 j hj]]
    refine loopU_ext ?_
    rw [hstep i h1, h2]
  · rw [h2, loopU_run0 st n fun j hj => by rw [hstep j hj, h1 j hj]]
    exact loopU_ext hend
def sendOf (n pre home : Int) : Int := if pre = -1 then n - home else n - home - 1
def hit3 (l : SlaveLine) (minute n pre home : Int) (f : Nat) : Option SlavePlan :=
  if inB (sendOf n pre home) 0 60 && setsF l minute ⟨pre, home, (f : Int), sendOf n pre home⟩ then some ⟨pre, home, (f : Int), sendOf n pre home⟩ else none
def hit2 (l : SlaveLine) (minute n pre : Int) (h : Nat) : Option SlavePlan := (List.range 2).findSome? (hit3 l minute n pre (h : Int))
def hit1 (l : SlaveLine) (minute n : Int) (a : Nat) : Option SlavePlan := (List.range 61).findSome? (hit2 l minute n ((a : Int) - 1))
def hit0 (l : SlaveLine) (minute : Int) (n : Nat) : Option SlavePlan := (List.range 3).findSome? (hit1 l minute (n : Int))
theorem first_eq {l : SlaveLine} {minute : Int} {by_ : slave_order} (hby : ∀ p, OkP p → by_.takes p = some (setsF l minute p)) {n : Nat} (hn : n ≤ 121) :
    slave_first (n : Int) by_ = some (match hit0 l minute n with | some p => (p, true) | none => (⟨0, 0, 0, 0⟩, false)) := by
  unfold slave_first hit0
  have h := loop_hit (body := slave_first_b1 (n : Int) by_) (fun a => (false, ((a : Int) - 1), 0, 0, 0, 0)) 3 (hit1 l minute (n : Int)) (fun p => some (p, true)) (some (⟨0, 0, 0, 0⟩, false)) ?_ rfl
  · refine Eq.trans h ?_
    cases (List.range 3).findSome? (hit1 l minute (n : Int)) <;> rfl
  · intro a ha
    have hpre : ((a : Int) - 1 = -1 ∨ (a : Int) - 1 = 0 ∨ (a : Int) - 1 = 1) := by omega
    have enext : (((a + 1 : Nat) : Int) - 1) = wr (((a : Int) - 1) + 1) := by rw [wr_id' (by omega) (by omega)]; omega
    unfold slave_first_b1 hit1
    dsimp only
    rw [decide_eq_true (show (a : Int) - 1 ≤ 1 by omega), cond_true, enext]
    generalize (a : Int) - 1 = pre at hpre
    have h := loop_hit (body := slave_first_b2 (n : Int) by_ pre) (fun h => (false, (h : Int), 0, 0, 0, 0)) 61 (hit2 l minute (n : Int) pre) (fun p => ext (some (p, true))) (nxt (false, wr (pre + 1), 0, 0, 0, 0)) ?_ rfl
    · refine Eq.trans h ?_
      cases (List.range 61).findSome? (hit2 l minute (n : Int) pre) <;> rfl
    · intro h hh
      unfold slave_first_b2 hit2
      dsimp only
      rw [decide_eq_true (show (h : Int) < 61 by omega), cond_true, show ((h + 1 : Nat) : Int) = wr ((h : Int) + 1) from (wr_succ (by omega)).symm]
      have h3 := loop_hit (body := slave_first_b3 (n : Int) by_ pre (h : Int)) (fun f => (false, (f : Int), 0, 0, 0, 0)) 2 (hit3 l minute (n : Int) pre (h : Int)) (fun p => ext (ext (some (p, true)))) (nxt (false, wr ((h : Int) + 1), 0, 0, 0, 0)) ?_ rfl
      · refine Eq.trans h3 ?_
        cases (List.range 2).findSome? (hit3 l minute (n : Int) pre (h : Int)) <;> rfl
      · intro f hf
        have hk4 : ∀ send, send = sendOf (n : Int) pre (h : Int) → slave_first_k4 by_ pre (h : Int) false (f : Int) 0 0 0 0 send = match hit3 l minute (n : Int) pre (h : Int) f with | some a => ext (ext (ext (some (a, true)))) | none => nxt (false, ((f + 1 : Nat) : Int), 0, 0, 0, 0) := by
          intro send hsend
          subst hsend
          unfold slave_first_k4 hit3
          rw [within_eq, bind_s]
          cases hi : inB (sendOf (n : Int) pre (h : Int)) 0 60 with
          | false => rw [cond_false, bind_s, cond_false, wr_succ (by omega)]; rfl
          | true =>
            have hi' := inB_iff.1 hi
            have hok : OkP ⟨pre, (h : Int), (f : Int), sendOf (n : Int) pre (h : Int)⟩ := ⟨hpre, by dsimp only; omega, by dsimp only; omega, by dsimp only; omega, hi'.1, hi'.2⟩
            rw [cond_true, hby _ hok, bind_s, bind_s, Bool.true_and]
            cases setsF l minute ⟨pre, (h : Int), (f : Int), sendOf (n : Int) pre (h : Int)⟩ with
            | true => rfl
            | false => rw [cond_false, wr_succ (by omega)]; rfl
        unfold slave_first_b3
        dsimp only
        rw [decide_eq_true (show (f : Int) < 2 by omega), cond_true, bneI, wr_id' (n := (n : Int) - (h : Int)) (by omega) (by omega), wr_id' (n := (n : Int) - (h : Int) - 1) (by omega) (by omega)]
        by_cases hp : pre = -1
        · rw [decide_eq_false (fun h => h hp), cond_false]
          refine (hk4 _ (by unfold sendOf; rw [if_pos hp])).trans ?_
          cases hit3 l minute (n : Int) pre (h : Int) f <;> rfl
        · rw [decide_eq_true hp, cond_true]
          refine (hk4 _ (by unfold sendOf; rw [if_neg hp])).trans ?_
          cases hit3 l minute (n : Int) pre (h : Int) f <;> rfl
theorem hit3_some {l : SlaveLine} {minute n pre home : Int} {f : Nat} {p : SlavePlan} (h : hit3 l minute n pre home f = some p) : p = ⟨pre, home, (f : Int), sendOf n pre home⟩ ∧ 0 ≤ p.Send ∧ p.Send ≤ 60 ∧ setsF l minute p = true := by
  unfold hit3 at h
  split at h
  · next hb =>
    injection h with h
    subst h
    rw [Bool.and_eq_true, inB_iff] at hb
    exact ⟨rfl, hb.1.1, hb.1.2, hb.2⟩
  · cases h
theorem hit_best {l : SlaveLine} {minute : Int} {n : Nat} (hn : n ≤ 121) {p : SlavePlan} (h : hit0 l minute n = some p) (hno : ∀ m, m < n → hit0 l minute m = none) : IsBest l minute p := by
  have hnone : ∀ {q : SlavePlan}, OkP q → setsF l minute q = true → ∃ m : Nat, (m : Int) = pulsesF q ∧ m ≤ 121 ∧ ∃ a : Nat, (a : Int) - 1 = q.Pre ∧ a < 3 ∧ ∃ hh : Nat, (hh : Int) = q.Home ∧ hh < 61 ∧ ∃ f : Nat, (f : Int) = q.First ∧ f < 2 ∧ hit3 l minute (m : Int) ((a : Int) - 1) (hh : Int) f = some q := by
    intro q hq hg
    have := hq.e; have := hq.h0; have := hq.h1; have := hq.f; have := hq.s0; have := hq.s1
    have hpl : 0 ≤ pulsesF q ∧ pulsesF q ≤ 121 := by unfold pulsesF; split <;> omega
    refine ⟨(pulsesF q).toNat, by omega, by omega, (q.Pre + 1).toNat, by omega, by omega, q.Home.toNat, by omega, by omega, q.First.toNat, by omega, by omega, ?_⟩
    have e1 : (((pulsesF q).toNat : Nat) : Int) = pulsesF q := by omega
    have e2 : (((q.Pre + 1).toNat : Nat) : Int) - 1 = q.Pre := by omega
    have e3 : ((q.Home.toNat : Nat) : Int) = q.Home := by omega
    have e4 : ((q.First.toNat : Nat) : Int) = q.First := by omega
    have e5 : sendOf (pulsesF q) q.Pre q.Home = q.Send := by unfold sendOf pulsesF; split <;> split <;> omega
    rw [e1, e2, e3]
    unfold hit3
    rw [e4, e5, show (inB q.Send 0 60 : Bool) = true by rw [inB_iff]; omega, show SlavePlan.mk q.Pre q.Home q.First q.Send = q from rfl, hg]; rfl
  unfold hit0 at h
  obtain ⟨a, p1, ha, h1, a3, a4⟩ : ∃ a p1, a < 3 ∧ hit1 l minute (n : Int) a = some p1 ∧ (∀ j, j < a → hit1 l minute (n : Int) j = none) ∧ p1 = p := by
    rcases find_range (hit1 l minute (n : Int)) 3 with ⟨i, x, h1, h2, h3, h4⟩ | ⟨_, h2⟩
    · rw [h] at h4; injection h4 with h4; exact ⟨i, x, h1, h2, h3, h4.symm⟩
    · rw [h] at h2; cases h2
  subst a4
  unfold hit1 at h1
  obtain ⟨b, p2, hb, h2, b3, b4⟩ : ∃ b p2, b < 61 ∧ hit2 l minute (n : Int) ((a : Int) - 1) b = some p2 ∧ (∀ j, j < b → hit2 l minute (n : Int) ((a : Int) - 1) j = none) ∧ p2 = p1 := by
    rcases find_range (hit2 l minute (n : Int) ((a : Int) - 1)) 61 with ⟨i, x, g1, g2, g3, g4⟩ | ⟨_, g2⟩
    · rw [h1] at g4; injection g4 with g4; exact ⟨i, x, g1, g2, g3, g4.symm⟩
    · rw [h1] at g2; cases g2
  subst b4
  unfold hit2 at h2
  obtain ⟨c, p3, hc, h3, c3, c4⟩ : ∃ c p3, c < 2 ∧ hit3 l minute (n : Int) ((a : Int) - 1) (b : Int) c = some p3 ∧ (∀ j, j < c → hit3 l minute (n : Int) ((a : Int) - 1) (b : Int) j = none) ∧ p3 = p2 := by
    rcases find_range (hit3 l minute (n : Int) ((a : Int) - 1) (b : Int)) 2 with ⟨i, x, g1, g2, g3, g4⟩ | ⟨_, g2⟩
    · rw [h2] at g4; injection g4 with g4; exact ⟨i, x, g1, g2, g3, g4.symm⟩
    · rw [h2] at g2; cases g2
  subst c4
  obtain ⟨e, s0, s1, hg⟩ := hit3_some h3
  have eP : p3.Pre = (a : Int) - 1 := by rw [e]
  have eH : p3.Home = (b : Int) := by rw [e]
  have eF : p3.First = (c : Int) := by rw [e]
  have eS : p3.Send = sendOf (n : Int) ((a : Int) - 1) (b : Int) := by rw [e]
  have en : pulsesF p3 = (n : Int) := by
    unfold pulsesF
    rw [eP, eH, eS]
    unfold sendOf
    split <;> split <;> omega
  refine ⟨⟨by omega, by omega, by omega, by omega, s0, s1⟩, hg, fun q hq hgq => ?_⟩
  obtain ⟨m, m1, m2, a', a1, a2, b', b1, b2, c', c1, c2, hq3⟩ := hnone hq hgq
  unfold leP
  rw [en, eP, eH, eF, ← m1, ← a1, ← b1, ← c1]
  -- what a hit of q says of the searches above it
  have hq2 : hit2 l minute (m : Int) ((a' : Int) - 1) b' ≠ none := by
    unfold hit2
    rcases find_range (hit3 l minute (m : Int) ((a' : Int) - 1) (b' : Int)) 2 with ⟨_, _, _, _, _, g⟩ | ⟨g, _⟩
    · rw [g]; simp
    · have := g c' c2; rw [hq3] at this; cases this
  have hq1 : hit1 l minute (m : Int) a' ≠ none := by
    unfold hit1
    rcases find_range (hit2 l minute (m : Int) ((a' : Int) - 1)) 61 with ⟨_, _, _, _, _, g⟩ | ⟨g, _⟩
    · rw [g]; simp
    · exact absurd (g b' b2) hq2
  have hq0 : hit0 l minute m ≠ none := by
    unfold hit0
    rcases find_range (hit1 l minute (m : Int)) 3 with ⟨_, _, _, _, _, g⟩ | ⟨g, _⟩
    · rw [g]; simp
    · exact absurd (g a' a2) hq1
  have k0 : ¬ m < n := fun h => hq0 (hno m h)
  by_cases x0 : n < m
  · left; omega
  · have x0 : m = n := by omega
    subst x0
    right
    refine ⟨rfl, ?_⟩
    have k1 : ¬ a' < a := fun h => hq1 (a3 a' h)
    by_cases x1 : a < a'
    · left; omega
    · have x1 : a' = a := by omega
      subst x1
      right
      refine ⟨rfl, ?_⟩
      have k2 : ¬ b' < b := fun h => hq2 (b3 b' h)
      by_cases x2 : b < b'
      · left; omega
      · have x2 : b' = b := by omega
        subst x2
        right
        refine ⟨rfl, ?_⟩
        have k3 : ¬ c' < c := fun h => by have := c3 c' h; rw [hq3] at this; cases this
        omega
structure Set_ (l : SlaveLine) (minute : Int) (r : SlavePlan × Int) : Prop where
  err : r.2 = openF l (okM l minute)
  no : r.2 ≠ 0 → r.1 = ⟨0, 0, 0, 0⟩
  is : r.2 = 0 → OkS l ∧ okM l minute = true ∧ allCan l wo0 = true ∧ IsBest l minute r.1
theorem Set_.uniq {l : SlaveLine} {minute : Int} {r q : SlavePlan × Int} (hr : Set_ l minute r) (hq : Set_ l minute q) : r = q := by
  have h2 : r.2 = q.2 := by rw [hr.err, hq.err]
  have h1 : r.1 = q.1 := by
    by_cases h0 : r.2 = 0
    · exact (hr.is h0).2.2.2.uniq (hq.is (by omega)).2.2.2
    · rw [hr.no h0, hq.no (by omega)]
  cases r; cases q; simp only at h1 h2; rw [h1, h2]
theorem hit_some {l : SlaveLine} {minute : Int} {p : SlavePlan} (hp : OkP p) (hg : setsF l minute p = true) : ∃ m, m < 122 ∧ hit0 l minute m ≠ none := by
  have := hp.e; have := hp.h0; have := hp.h1; have := hp.f; have := hp.s0; have := hp.s1
  have hpl : 0 ≤ pulsesF p ∧ pulsesF p ≤ 121 := by unfold pulsesF; split <;> omega
  refine ⟨(pulsesF p).toNat, by omega, fun hn => ?_⟩
  have e1 : (((pulsesF p).toNat : Nat) : Int) = pulsesF p := by omega
  have e2 : (((p.Pre + 1).toNat : Nat) : Int) - 1 = p.Pre := by omega
  have e3 : ((p.Home.toNat : Nat) : Int) = p.Home := by omega
  have e4 : ((p.First.toNat : Nat) : Int) = p.First := by omega
  have e5 : sendOf (pulsesF p) p.Pre p.Home = p.Send := by unfold sendOf pulsesF; split <;> split <;> omega
  unfold hit0 at hn
  rcases find_range (hit1 l minute (((pulsesF p).toNat : Nat) : Int)) 3 with ⟨_, _, _, _, _, g⟩ | ⟨g, _⟩
  · rw [hn] at g; cases g
  · have g := g (p.Pre + 1).toNat (by omega)
    unfold hit1 at g
    rcases find_range (hit2 l minute (((pulsesF p).toNat : Nat) : Int) ((((p.Pre + 1).toNat : Nat) : Int) - 1)) 61 with ⟨_, _, _, _, _, k⟩ | ⟨k, _⟩
    · rw [g] at k; cases k
    · have k := k p.Home.toNat (by omega)
      unfold hit2 at k
      rcases find_range (hit3 l minute (((pulsesF p).toNat : Nat) : Int) ((((p.Pre + 1).toNat : Nat) : Int) - 1) ((p.Home.toNat : Nat) : Int)) 2 with ⟨_, _, _, _, _, j⟩ | ⟨j, _⟩
      · rw [k] at j; cases j
      · have j := j p.First.toNat (by omega)
        unfold hit3 at j
        rw [e1, e2, e3, e4, e5, show (inB p.Send 0 60 : Bool) = true by rw [inB_iff]; omega, show SlavePlan.mk p.Pre p.Home p.First p.Send = p from rfl, hg] at j
        cases j
theorem Set_tells {l : SlaveLine} (hl : Ok_SlaveLine l) (minute : Int) : Tells (slave_Set l minute) (Set_ l minute) := by
  unfold slave_Set
  refine tdet (within_eq _ _ _) (tbnd (opened_tells hl minute _) fun r hr => ?_)
  have herr : r.2 = openF l (okM l minute) := by
    have h := openF_wr l minute true
    rw [Bool.and_true, Bool.and_true] at h
    rw [← h]; exact hr.err
  rw [bneI]
  by_cases h0 : r.2 = 0
  · rw [decide_eq_false (by simpa using h0), cond_false]
    obtain ⟨hS, hok, hc, h1, h2, h3, h4⟩ := hr.is h0
    rw [ring1 hS] at hok
    have hby : ∀ p, OkP p → (slave_order.mk (fun q_z => slave_Set_1 q_z r.1)).takes p = some (setsF l minute p) := by
      intro p hp
      show slave_Set_1 p r.1 = _
      unfold slave_Set_1
      rw [setter_eq hS h1 h3 h4 hp, h2]; rfl
    obtain ⟨q1, q2, _⟩ := plan_is hS (minute := minute) hok
    obtain ⟨m, hm, hmn⟩ := hit_some q1 q2
    refine tfor0 122 (fun n s => s = (0, (n : Int), 0, 0, 0, 0) ∧ ∀ j, j < n → hit0 l minute j = none) ⟨rfl, fun j h => by omega⟩ ?_ ?_
    · rintro n _ hn ⟨rfl, hno⟩
      unfold slave_Set_b1
      dsimp only
      rw [decide_eq_true (show (n : Int) < 122 by omega), cond_true]
      refine tdet (first_eq hby (by omega)) ?_
      cases hh : hit0 l minute n with
      | some p => exact tend (tret ⟨by rw [← herr, h0], fun h => absurd rfl h, fun _ => ⟨hS, hok, hc, hit_best (by omega) hh hno⟩⟩)
      | none =>
        refine tnxt ⟨by rw [wr_succ (by omega)], fun j hj => ?_⟩
        by_cases e : j = n
        · subst e; exact hh
        · exact hno j (by omega)
    · rintro _ ⟨rfl, hno⟩
      exact absurd (hno m hm) hmn
  · rw [decide_eq_true h0, cond_true]
    exact tret ⟨herr, fun _ => rfl, fun h => absurd h h0⟩
structure Pos where
  a : Int
  b : Int
  c : Int
  d : Int
def Before (t : Pos) (q : SlavePlan) : Prop := q.Pre < t.a ∨ (q.Pre = t.a ∧ (q.Home < t.b ∨ (q.Home = t.b ∧ (q.First < t.c ∨ (q.First = t.c ∧ q.Send < t.d)))))
structure Kept (l : SlaveLine) (minute : Int) (t : Pos) (z : SlavePlan) : Prop where
  or : (z = ⟨0, 1000, 0, 0⟩ ∧ ∀ q, OkP q → Before t q → setsF l minute q = false) ∨ (OkP z ∧ setsF l minute z = true ∧ Before t z ∧ ∀ q, OkP q → setsF l minute q = true → Before t q → leP z q)
theorem Kept.move {l : SlaveLine} {minute : Int} {t u : Pos} {z : SlavePlan} (h : Kept l minute t z) (e : ∀ q, OkP q → (Before t q ↔ Before u q)) : Kept l minute u z := by
  refine ⟨h.or.imp (fun h => ⟨h.1, fun q hq hb => h.2 q hq ((e q hq).2 hb)⟩) fun h => ⟨h.1, h.2.1, (e z h.1).1 h.2.2.1, fun q hq hg hb => h.2.2.2 q hq hg ((e q hq).2 hb)⟩⟩
theorem Kept.bd {l : SlaveLine} {minute : Int} {t : Pos} {z : SlavePlan} (h : Kept l minute t z) : 0 ≤ z.Home ∧ z.Home ≤ 1000 ∧ 0 ≤ z.Send ∧ z.Send ≤ 60 := by
  rcases h.or with ⟨rfl, _⟩ | ⟨h, _⟩
  · dsimp only; omega
  · exact ⟨h.h0, by have := h.h1; omega, h.s0, h.s1⟩
end Go.Proofs.YtmbgmefmkjeahaaDoor.Rt
