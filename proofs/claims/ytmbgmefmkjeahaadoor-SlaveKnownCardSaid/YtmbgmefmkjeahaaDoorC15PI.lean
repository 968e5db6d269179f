/- Plain laws of the slave seat: stories one by one; what can be shown, how many are lost, a story of the least. Under the conditions that each names. Plain laws of the slave seat: the ways all together; what is a story. Under the conditions that each names. Plain laws of the slave seat: what is a story, as both packages tell it. Under the conditions that each names. Plain laws of the slave seat: what is a story, as the second package tells it. Under the conditions that each names. -/
import Derived.Test.YtmbgmefmkjeahaaDoorC15PE
set_option linter.unusedVariables false
set_option linter.unusedSimpArgs false
set_option maxRecDepth 100000
set_option maxHeartbeats 4000000
namespace Go.Proofs.YtmbgmefmkjeahaaDoor.Rt
open Go Go.RowKit
def lossE : Nat → Nat → List (List Int)
  | 0, _ => [[]]
  | p + 1, 0 => lossE p 0
  | p + 1, j + 1 => lossE p (j + 1) ++ (lossE p j).map (· ++ [(p : Int)])
theorem mem_lossE : ∀ (p j : Nat) (ls : List Int), ls ∈ lossE p j ↔ Loss p ls ∧ ls.length ≤ j
  | 0, j, ls => by
    simp only [lossE, List.mem_singleton]
    exact ⟨fun h => by subst h; exact ⟨Loss.nil 0, Nat.zero_le _⟩, fun h => h.1.zero⟩
  | p + 1, 0, ls => by
    rw [lossE, mem_lossE p 0]
    constructor
    · exact fun h => ⟨h.1.succ, h.2⟩
    · rintro ⟨h, h2⟩
      rcases h.cases with h' | ⟨ls', rfl, h'⟩
      · exact ⟨h', h2⟩
      · simp at h2
  | p + 1, j + 1, ls => by
    rw [lossE, List.mem_append, mem_lossE p (j + 1), List.mem_map]
    constructor
    · rintro (h | ⟨ls', h, rfl⟩)
      · exact ⟨h.1.succ, h.2⟩
      · rw [mem_lossE p j] at h
        exact ⟨h.1.snoc, by simpa using h.2⟩
    · rintro ⟨h, h2⟩
      rcases h.cases with h' | ⟨ls', rfl, h'⟩
      · exact .inl ⟨h', h2⟩
      · exact .inr ⟨ls', (mem_lossE p j ls').2 ⟨h', by simpa using h2⟩, rfl⟩
def evD (l : SlaveLine) (i : Nat) : SlaveEvent := l.Events.getD i default
def okLook (who : Nat) (wo : Nat → Bool) (i : Nat) (x : SlaveEvent) (t : List (List Int) × SlaveStart) : Bool := wo i || !decide (x.Who = (who : Int)) || decide (x.Shown = t.2.Shown)
def stoE (l : SlaveLine) (who : Nat) (wo : Nat → Bool) : Nat → List (List (List Int) × SlaveStart)
  | 0 => [([], l.Starts.getD who default)]
  | i + 1 => if (evD l i).Kind = 2 then ((stoE l who wo i).filter (okLook who wo i (evD l i))).map (fun t => (t.1 ++ [[]], t.2))
      else (stoE l who wo i).flatMap fun t => (lossE (evD l i).Count.toNat (evD l i).Lost.toNat).map fun ls => (t.1 ++ [ls], runP l.Ring (evD l i) ls (evD l i).Count.toNat t.2)
theorem evD_get {l : SlaveLine} {i : Nat} (hi : i < l.Events.length) : evD l i = l.Events[i] := by simp [evD, List.getD, hi]
theorem mem_stoE {l : SlaveLine} (hS : OkS l) {who : Nat} (hw : who < l.Starts.length) {wo : Nat → Bool} : ∀ (i : Nat), i ≤ l.Events.length → ∀ st s, (st, s) ∈ stoE l who wo i ↔ Sto l who wo i st s
  | 0, _, st, s => by
    simp only [stoE, List.mem_singleton, Prod.mk.injEq]
    have e : l.Starts.getD who default = l.Starts[who] := by simp [List.getD, hw]
    rw [e]
    constructor
    · rintro ⟨rfl, rfl⟩; exact Sto.zero hw
    · intro h; cases h with
      | zero hw => exact ⟨rfl, rfl⟩
  | i + 1, hi, st, s => by
    have hi' : i < l.Events.length := by omega
    have ih := mem_stoE hS hw (wo := wo) i (by omega)
    rw [stoE, evD_get hi']
    by_cases hk : l.Events[i].Kind = 2
    · rw [if_pos hk, List.mem_map]
      constructor
      · rintro ⟨⟨st0, s0⟩, h1, h2⟩
        simp only [Prod.mk.injEq] at h2
        obtain ⟨rfl, rfl⟩ := h2
        rw [List.mem_filter] at h1
        refine Sto.look hi' hk (fun h2 h3 => ?_) ((ih _ _).1 h1.1)
        have := h1.2
        unfold okLook at this
        rw [h2, decide_eq_true h3] at this
        simpa using this
      · intro h
        cases h with
        | @look _ st0 _ _ _ hs h =>
          refine ⟨(st0, s), List.mem_filter.2 ⟨(ih _ _).2 h, ?_⟩, rfl⟩
          unfold okLook
          cases hw1 : wo i with
          | true => rfl
          | false =>
            by_cases h2 : l.Events[i].Who = (who : Int)
            · rw [decide_eq_true (hs hw1 h2)]; simp
            · rw [decide_eq_false h2]; rfl
        | send _ hk' => exact absurd hk hk'
    · have hc := (hS.at hi').c hk
      rw [if_neg hk, List.mem_flatMap]
      constructor
      · rintro ⟨⟨st0, s0⟩, h1, h2⟩
        rw [List.mem_map] at h2
        obtain ⟨ls, h2, h3⟩ := h2
        simp only [Prod.mk.injEq] at h3
        obtain ⟨rfl, rfl⟩ := h3
        rw [mem_lossE] at h2
        exact Sto.send hi' hk ((ih _ _).1 h1) h2.1 (by omega)
      · intro h
        cases h with
        | look _ hk' => exact absurd hk' hk
        | @send _ st0 s0 ls _ _ h hl hn =>
          exact ⟨(st0, s0), (ih _ _).2 h, List.mem_map.2 ⟨ls, (mem_lossE _ _ _).2 ⟨hl, by omega⟩, rfl⟩⟩
def allE (l : SlaveLine) (who : Nat) (wo : Nat → Bool) : List (List (List Int) × SlaveStart) := stoE l who wo l.Events.length
abbrev Tale (l : SlaveLine) (who : Nat) (wo : Nat → Bool) (st : List (List Int)) (s : SlaveStart) : Prop := Sto l who wo l.Events.length st s
theorem mem_allE {l : SlaveLine} (hS : OkS l) {who : Nat} (hw : who < l.Starts.length) {wo : Nat → Bool} (st : List (List Int)) (s : SlaveStart) : (st, s) ∈ allE l who wo ↔ Tale l who wo st s := mem_stoE hS hw _ (Nat.le_refl _) st s
def showB (l : SlaveLine) (who : Nat) (wo : Nat → Bool) (k : Nat) : Bool := (allE l who wo).any fun t => decide (t.2.Shown = (k : Int))
def minsF (l : SlaveLine) (who : Nat) (wo : Nat → Bool) : List Bool := (List.range 60).map (showB l who wo)
theorem show_iff {l : SlaveLine} (hS : OkS l) {who : Nat} (hw : who < l.Starts.length) {wo : Nat → Bool} (k : Nat) : showB l who wo k = true ↔ ∃ st s, Tale l who wo st s ∧ s.Shown = (k : Int) := by
  simp only [showB, List.any_eq_true, decide_eq_true_eq]
  constructor
  · rintro ⟨⟨st, s⟩, h1, h2⟩; exact ⟨st, s, (mem_allE hS hw _ _).1 h1, h2⟩
  · rintro ⟨st, s, h1, h2⟩; exact ⟨(st, s), (mem_allE hS hw _ _).2 h1, h2⟩
def TM (s : SlaveStart) (n0 : Int) (st0 : List (List Int)) (k : Nat) : Rel := fun n st => s.Shown = (k : Int)
theorem minutes_tells {l : SlaveLine} (hS : OkS l) {who : Nat} (hw : who < l.Starts.length) {wo : Nat → Bool} {m : List (SlaveStart × slave_way)} (hm : Behind l who wo m) : Tells (slave_minutes m) (fun r => r = minsF l who wo) := by
  unfold slave_minutes
  refine tdet (a := m) rfl (tbnd (R := fun r => r = minsF l who wo) ?_ fun a ha => tret ha)
  unfold mkk_1N
  refine tloop (fun s => s.1.length = 60 ∧ LeftOk kl_57 (WR l who wo l.Events.length) s.2 ∧ ∀ k : Nat, k < 60 → (s.1.getD k false = true ↔ ∃ n st, UL s.2 (WR l who wo l.Events.length) TM k n st)) (fun s => s.2.length) ?_
    ⟨rfl, hm.left inj_57, fun k hk => ⟨(fun h => by have h' : (List.replicate 60 false).getD k false = true := h; rw [List.getD, List.getElem?_replicate, if_pos hk] at h'; cases h'), fun ⟨n, st, h⟩ => ((UL.start inj_57 hm k n st).2 h).elim⟩⟩
  rintro ⟨out, left⟩ ⟨h1, hL, h2⟩
  simp only at h1 hL h2
  unfold mkk_1N_b1
  refine tpick (fun e => tend (tret ?_)) fun ⟨s, w⟩ left' hp' => ?_
  · subst e
    refine List.ext_getElem (by simp [h1, minsF]) fun k hk1 hk2 => ?_
    have h3 := h2 k (by omega)
    have e1 : out[k] = out.getD k false := by simp [List.getD, hk1]
    have e2 : (minsF l who wo)[k] = showB l who wo k := by simp [minsF]
    rw [e1, e2, Bool.eq_iff_iff, h3, show_iff hS hw]
    constructor
    · rintro ⟨n, st, s, n0, st0, _, h4, h5⟩; exact ⟨st0, s, h4.1, h5⟩
    · rintro ⟨st, s, h4, h5⟩; exact ⟨0, [], s, _, st, fun _ h => (by cases h), ⟨h4, rfl⟩, h5⟩
  · obtain ⟨hsw, hL', hlt, hno⟩ := hL.pick hp'
    simp only at hsw
    have hT := hsw.low.1.okT hS
    have ha := hT.a; have hb := hT.b; have hr := hS.r2
    unfold slave_minutes_y1
    refine tbnd (R := fun r => r = out.set s.Shown.toNat true) (tgrd (by simp only; omega) (tret rfl)) ?_
    rintro r rfl
    refine tnxt ⟨⟨by simp [h1], hL', fun k hk => ?_⟩, hlt⟩
    simp only
    by_cases e : k = s.Shown.toNat
    · subst e
      rw [show (out.set s.Shown.toNat true).getD s.Shown.toNat false = true by simp [List.getD, List.getElem?_set, h1, hk]]
      refine ⟨fun _ => ⟨0, [], (UL.pick inj_57 hL hp' _ _ _).2 (.inr ⟨_, _, hsw.low, by show s.Shown = _; omega⟩)⟩, fun _ => rfl⟩
    · rw [show (out.set s.Shown.toNat true).getD k false = out.getD k false by simp [List.getD, List.getElem?_set, Ne.symm e], h2 k hk]
      constructor
      · rintro ⟨n, st, h⟩; exact ⟨n, st, (UL.pick inj_57 hL hp' _ _ _).2 (.inl h)⟩
      · rintro ⟨n, st, h⟩
        rcases (UL.pick inj_57 hL hp' _ _ _).1 h with h | ⟨n0, st0, _, h⟩
        · exact ⟨n, st, h⟩
        · have h' : s.Shown = (k : Int) := h
          omega
def canB (l : SlaveLine) (who : Nat) (wo : Nat → Bool) : Bool := !(allE l who wo).isEmpty
theorem canB_iff {l : SlaveLine} (hS : OkS l) {who : Nat} (hw : who < l.Starts.length) {wo : Nat → Bool} : canB l who wo = true ↔ ∃ st s, Tale l who wo st s := by
  unfold canB
  constructor
  · intro h
    cases he : allE l who wo with
    | nil => rw [he] at h; cases h
    | cons t ts => exact ⟨t.1, t.2, (mem_allE hS hw _ _).1 (by rw [he]; simp)⟩
  · rintro ⟨st, s, h⟩
    have := (mem_allE hS hw _ _).2 h
    cases he : allE l who wo with
    | nil => rw [he] at this; cases this
    | cons t ts => rfl
theorem mins_none {l : SlaveLine} (hS : OkS l) {who : Nat} (hw : who < l.Starts.length) {wo : Nat → Bool} : (!(minsF l who wo == List.replicate 60 false)) = canB l who wo := by
  rw [Bool.eq_iff_iff, canB_iff hS hw]
  simp only [Bool.not_eq_true', beq_eq_false_iff_ne, ne_eq]
  constructor
  · intro h
    refine Classical.byContradiction fun hn => h ?_
    refine List.ext_getElem (by simp [minsF]) fun k hk1 hk2 => ?_
    have e2 : (minsF l who wo)[k] = showB l who wo k := by simp [minsF]
    refine e2.trans ?_
    rw [List.getElem_replicate, Bool.eq_false_iff]
    intro hs
    obtain ⟨st, s, h1, _⟩ := (show_iff hS hw k).1 hs
    exact hn ⟨st, s, h1⟩
  · rintro ⟨st, s, h⟩ he
    have hT := h.okT hS
    have ha := hT.a; have hb := hT.b; have hr := hS.r2
    have h1 := (show_iff hS hw s.Shown.toNat).2 ⟨st, s, h, by omega⟩
    have e2 : (minsF l who wo)[s.Shown.toNat]'(by simp [minsF]; omega) = showB l who wo s.Shown.toNat := by simp [minsF]
    simp only [he, List.getElem_replicate] at e2
    rw [← e2] at h1; cases h1
theorem lineCan_tells {l : slave_line} (hS : OkS l.SlaveLine) (hl : (l.without.length : Int) ≤ 9223372036854775807) {who : Nat} (hw : who < l.SlaveLine.Starts.length) : Tells (slave_line_can l (who : Int)) (fun b => b = canB l.SlaveLine who (woF l)) := by
  unfold slave_line_can
  refine tbnd (behind_tells hS hl hw) fun m hm => tbnd (minutes_tells hS hw hm) fun r hr => tret ?_
  subst hr
  exact mins_none hS hw
abbrev wo0 : Nat → Bool := fun _ => false
def askF (l : SlaveLine) (who : Int) : Int := if goodB l then if inB who 0 ((l.Starts.length : Int) - 1) then if canB l who.toNat wo0 then 0 else 72 else 71 else 70
theorem woF_nil (l : SlaveLine) : woF (slave_line.mk l ([] : List Int)) = wo0 := by funext i; simp [woF, wo0]
theorem Behind.empty {l : SlaveLine} (hS : OkS l) {who : Nat} (hw : who < l.Starts.length) {wo : Nat → Bool} {m : List (SlaveStart × slave_way)} (hm : Behind l who wo m) : ((m.length : Int) == 0) = !canB l who wo := by
  cases m with
  | nil =>
    have : ¬ canB l who wo = true := by
      rw [canB_iff hS hw]
      rintro ⟨st, s, h⟩
      exact hm.no s rfl _ st ⟨h, rfl⟩
    rw [Bool.eq_false_iff.2 this]; rfl
  | cons p m =>
    have h := ((hm.left inj_57).has p (by simp)).low
    rw [(canB_iff hS hw).2 ⟨_, _, h.1⟩]
    simp; omega
structure Asked (l : SlaveLine) (who : Int) (r : (List (SlaveStart × slave_way)) × Int) : Prop where
  err : r.2 = askF l who
  is : r.2 = 0 → ∃ w : Nat, who = (w : Int) ∧ w < l.Starts.length ∧ OkS l ∧ Behind l w wo0 r.1 ∧ canB l w wo0 = true
theorem sub1 {l : SlaveLine} (hS : OkS l) : wr ((l.Starts.length : Int) - 1) = (l.Starts.length : Int) - 1 := by
  have := hS.n2; have := hS.n1
  exact wr_id' (by omega) (by omega)
theorem asked_tells {l : SlaveLine} (hl : Ok_SlaveLine l) (who : Int) : Tells (slave_asked l who) (Asked l who) := by
  unfold slave_asked
  refine tdet (slave_Check_eq l hl) ?_
  cases hg : goodB l with
  | false =>
    refine tret ⟨by simp [askF, hg], fun h => by simp at h⟩
  | true =>
    have hS := OkS.of hg
    rw [sub1 hS]
    refine tdet (within_eq _ _ _) ?_
    cases hi : inB who 0 ((l.Starts.length : Int) - 1) with
    | false => exact tret ⟨by simp [askF, hg, hi], fun h => by simp at h⟩
    | true =>
      obtain ⟨w, rfl, hw⟩ := nat_of hi
      show Tells (ND.bnd (slave_line_behind (slave_line.mk l []) (w : Int)) _) _
      refine tbnd (behind_tells (l := slave_line.mk l []) hS (by simp) hw) fun m hm => ?_
      rw [woF_nil] at hm
      rw [hm.empty hS hw]
      cases hc : canB l w wo0 with
      | false => exact tret ⟨by simp [askF, hg, hi, hc], fun h => by simp at h⟩
      | true => exact tret ⟨by simp [askF, hg, hi, hc], fun _ => ⟨w, rfl, hw, hS, hm, hc⟩⟩
def canN (l : SlaveLine) (who : Nat) (m : Nat) : List Int := ((List.range m).filter (showB l who wo0)).map fun (k : Nat) => (k : Int)
theorem canN_succ (l : SlaveLine) (who : Nat) (m : Nat) : canN l who (m + 1) = if showB l who wo0 m = true then canN l who m ++ [(m : Int)] else canN l who m := by
  unfold canN
  rw [List.range_succ, List.filter_append, List.map_append]
  cases h : showB l who wo0 m <;> simp [List.filter_cons, h]
theorem canN_len (l : SlaveLine) (who : Nat) (m : Nat) : (canN l who m).length ≤ m := by
  have := List.length_filter_le (showB l who wo0) (List.range m)
  simp only [canN, List.length_map, List.length_range] at this ⊢
  exact this
def canF (l : SlaveLine) (who : Int) : List Int × Int := if askF l who = 0 then (canN l who.toNat 60, 0) else ([], askF l who)
theorem Can_tells {l : SlaveLine} (hl : Ok_SlaveLine l) (who : Int) : Tells (slave_Can l who) (fun r => r = canF l who) := by
  unfold slave_Can
  refine tbnd (asked_tells hl who) fun r hr => ?_
  unfold canF
  rw [← hr.err, bneI]
  by_cases h0 : r.2 = 0
  · rw [if_pos h0, decide_eq_false (by simpa using h0), cond_false]
    obtain ⟨w, rfl, hw, hS, hm, hc⟩ := hr.is h0
    refine tbnd (minutes_tells hS hw hm) fun ms hms => ?_
    subst hms
    refine tfor0 60 (fun k s => s = (canN l w k, (k : Int))) rfl ?_ ?_
    · rintro k _ hk rfl
      unfold slave_Can_b1
      dsimp only
      rw [show decide ((k : Int) < 60) = true by simp; omega, cond_true]
      refine tgrd (by omega) ?_
      have e : (minsF l w wo0).getD (Int.toNat (k : Int)) false = showB l w wo0 k := by simp [minsF, List.getD, hk]
      rw [e]
      have e1 : wr ((k : Int) + 1) = ((k + 1 : Nat) : Int) := wr_id' (by omega) (by omega)
      cases hs : showB l w wo0 k with
      | true =>
        have := canN_len l w k
        refine tgrd (by simp only [List.length_singleton]; unfold lim; omega) (tnxt ?_)
        rw [canN_succ, if_pos hs, e1]
      | false =>
        refine tnxt ?_
        rw [canN_succ, if_neg (by simp [hs]), e1]
    · rintro _ rfl
      unfold slave_Can_b1
      exact tend (tret rfl)
  · rw [if_neg h0, decide_eq_true h0, cond_true]
    exact tret rfl
abbrev AllR (l : SlaveLine) (who : Nat) (wo : Nat → Bool) : Rel := fun n st => ∃ s, Tale l who wo st s ∧ n = (lostN st : Int)
def minE : List (List (List Int) × SlaveStart) → Int
  | [] => 0
  | [t] => lostN t.1
  | t :: ts => if (lostN t.1 : Int) < minE ts then lostN t.1 else minE ts
def maxE : List (List (List Int) × SlaveStart) → Int
  | [] => 0
  | [t] => lostN t.1
  | t :: ts => if maxE ts < (lostN t.1 : Int) then lostN t.1 else maxE ts
theorem minE_spec : ∀ (ts : List (List (List Int) × SlaveStart)), ts ≠ [] → (∃ t ∈ ts, minE ts = lostN t.1) ∧ ∀ t ∈ ts, minE ts ≤ lostN t.1
  | [], h => absurd rfl h
  | [t], _ => ⟨⟨t, by simp, rfl⟩, fun u hu => by rw [List.mem_singleton.1 hu]; exact Int.le_refl _⟩
  | t :: u :: ts, _ => by
    obtain ⟨⟨v, h1, h2⟩, h3⟩ := minE_spec (u :: ts) (by simp)
    rw [minE]
    · by_cases h : (lostN t.1 : Int) < minE (u :: ts)
      · rw [if_pos h]
        refine ⟨⟨t, by simp, rfl⟩, fun x hx => ?_⟩
        rcases List.mem_cons.1 hx with rfl | hx
        · exact Int.le_refl _
        · have := h3 x hx; omega
      · rw [if_neg h]
        refine ⟨⟨v, by simp [List.mem_cons.1 h1], h2⟩, fun x hx => ?_⟩
        rcases List.mem_cons.1 hx with rfl | hx
        · omega
        · exact h3 x hx
    · simp
theorem maxE_spec : ∀ (ts : List (List (List Int) × SlaveStart)), ts ≠ [] → (∃ t ∈ ts, maxE ts = lostN t.1) ∧ ∀ t ∈ ts, (lostN t.1 : Int) ≤ maxE ts
  | [], h => absurd rfl h
  | [t], _ => ⟨⟨t, by simp, rfl⟩, fun u hu => by rw [List.mem_singleton.1 hu]; exact Int.le_refl _⟩
  | t :: u :: ts, _ => by
    obtain ⟨⟨v, h1, h2⟩, h3⟩ := maxE_spec (u :: ts) (by simp)
    rw [maxE]
    · by_cases h : maxE (u :: ts) < (lostN t.1 : Int)
      · rw [if_pos h]
        refine ⟨⟨t, by simp, rfl⟩, fun x hx => ?_⟩
        rcases List.mem_cons.1 hx with rfl | hx
        · exact Int.le_refl _
        · have := h3 x hx; omega
      · rw [if_neg h]
        refine ⟨⟨v, by simp [List.mem_cons.1 h1], h2⟩, fun x hx => ?_⟩
        rcases List.mem_cons.1 hx with rfl | hx
        · omega
        · exact h3 x hx
    · simp
def spanE (l : SlaveLine) (who : Nat) (wo : Nat → Bool) : Span := ⟨minE (allE l who wo), maxE (allE l who wo)⟩
theorem spanE_of {l : SlaveLine} (hS : OkS l) {who : Nat} (hw : who < l.Starts.length) {wo : Nat → Bool} {a b : Int} (h1 : ∃ st, AllR l who wo a st) (h2 : ∃ st, AllR l who wo b st) (h3 : ∀ n st, AllR l who wo n st → a ≤ n ∧ n ≤ b) : spanE l who wo = ⟨a, b⟩ := by
  obtain ⟨sa, s1, t1, e1⟩ := h1
  obtain ⟨sb, s2, t2, e2⟩ := h2
  have hm1 := (mem_allE hS hw _ _).2 t1
  have hm2 := (mem_allE hS hw _ _).2 t2
  have hne : allE l who wo ≠ [] := fun e => by rw [e] at hm1; cases hm1
  obtain ⟨⟨u, hu, eu⟩, hmin⟩ := minE_spec _ hne
  obtain ⟨⟨v, hv, ev⟩, hmax⟩ := maxE_spec _ hne
  have b1 := h3 _ _ ⟨u.2, (mem_allE hS hw u.1 u.2).1 hu, rfl⟩
  have b2 := h3 _ _ ⟨v.2, (mem_allE hS hw v.1 v.2).1 hv, rfl⟩
  have c1 := hmin _ hm1
  have c2 := hmax _ hm2
  simp only at c1 c2
  unfold spanE
  congr 1 <;> omega
def TA (s : SlaveStart) (n0 : Int) (st0 : List (List Int)) (k : Unit) : Rel := fun n st => n = n0 ∧ st = st0
theorem all_tells {l : SlaveLine} (hS : OkS l) {who : Nat} (hw : who < l.Starts.length) {wo : Nat → Bool} {m : List (SlaveStart × slave_way)} (hm : Behind l who wo m) (hc : canB l who wo = true) : Tells (slave_all m) (fun w => Sum w (AllR l who wo)) := by
  unfold slave_all
  refine tloop (fun s => LeftOk kl_57 (WR l who wo l.Events.length) s.2.1 ∧ (s.1 = false → ∀ n st, ¬ UL s.2.1 (WR l who wo l.Events.length) TA () n st) ∧ (s.1 = true → Sum ⟨⟨s.2.2.1, s.2.2.2.1⟩, s.2.2.2.2⟩ (UL s.2.1 (WR l who wo l.Events.length) TA ()))) (fun s => s.2.1.length) ?_
    ⟨hm.left inj_57, fun _ n st h => (UL.start inj_57 hm () n st).2 h, fun h => (by cases h)⟩
  rintro ⟨found, left, z, z1, sy⟩ ⟨hL, h1, h2⟩
  simp only at hL h1 h2
  unfold slave_all_b1
  have hfin : ∀ n st, UL [] (WR l who wo l.Events.length) TA () n st ↔ AllR l who wo n st := by
    intro n st
    rw [UL.fin]
    constructor
    · rintro ⟨s, n0, st0, ⟨h1, h2⟩, rfl, rfl⟩; exact ⟨s, h1, h2⟩
    · rintro ⟨s, h1, h2⟩; exact ⟨s, n, st, ⟨h1, h2⟩, rfl, rfl⟩
  refine tpick (fun e => tend (tret ?_)) fun ⟨s, w⟩ left' hp' => ?_
  · subst e
    cases found with
    | true => exact (h2 rfl).congr hfin
    | false =>
      obtain ⟨st, s, h⟩ := (canB_iff hS hw).1 hc
      exact absurd ((hfin _ st).2 ⟨s, h, rfl⟩) (h1 rfl _ st)
  · obtain ⟨hsw, hL', hlt, hno⟩ := hL.pick hp'
    simp only at hsw
    have hpick := fun n st => UL.pick (T := TA) inj_57 hL hp' () n st
    cases found with
    | false =>
      refine tdet (widened_eq _ _) (tnxt ⟨⟨hL', fun h => (by cases h), fun _ => ?_⟩, hlt⟩)
      refine (hsw.widen hsw).congr fun n st => ?_
      rw [hpick]
      constructor
      · intro h
        have h : WR l who wo l.Events.length s n st := h.elim id id
        exact .inr ⟨n, st, h, rfl, rfl⟩
      · rintro (h | ⟨n0, st0, h, rfl, rfl⟩)
        · exact absurd h (h1 rfl n st)
        · exact .inl h
    | true =>
      refine tdet (widened_eq _ _) (tnxt ⟨⟨hL', fun h => (by cases h), fun _ => ?_⟩, hlt⟩)
      refine ((h2 rfl).widen hsw).congr fun n st => ?_
      rw [hpick]
      constructor
      · rintro (h | h)
        · exact .inl h
        · exact .inr ⟨n, st, h, rfl, rfl⟩
      · rintro (h | ⟨n0, st0, h, rfl, rfl⟩)
        · exact .inl h
        · exact .inr h
def lostF (l : SlaveLine) (who : Int) : Span × Int := if askF l who = 0 then (spanE l who.toNat wo0, 0) else (⟨0, 0⟩, askF l who)
theorem Lost_tells {l : SlaveLine} (hl : Ok_SlaveLine l) (who : Int) : Tells (slave_Lost l who) (fun r => r = lostF l who) := by
  unfold slave_Lost
  refine tbnd (asked_tells hl who) fun r hr => ?_
  unfold lostF
  rw [← hr.err, bneI]
  by_cases h0 : r.2 = 0
  · rw [if_pos h0, decide_eq_false (by simpa using h0), cond_false]
    obtain ⟨w, rfl, hw, hS, hm, hc⟩ := hr.is h0
    refine tbnd (all_tells hS hw hm hc) fun y hy => tret ?_
    have := spanE_of hS hw ⟨_, hy.low⟩ hy.high hy.bd
    simp only [Int.toNat_natCast, this]
  · rw [if_neg h0, decide_eq_true h0, cond_true]
    exact tret rfl
structure Told (l : SlaveLine) (who : Int) (r : List (List Int) × Int) : Prop where
  err : r.2 = askF l who
  no : r.2 ≠ 0 → r.1 = []
  is : r.2 = 0 → ∃ w : Nat, who = (w : Int) ∧ w < l.Starts.length ∧ OkS l ∧ canB l w wo0 = true ∧ (∃ s, Tale l w wo0 r.1 s) ∧ (lostN r.1 : Int) = (spanE l w wo0).Low
theorem Story_tells {l : SlaveLine} (hl : Ok_SlaveLine l) (who : Int) : Tells (slave_Story l who) (Told l who) := by
  unfold slave_Story
  refine tbnd (asked_tells hl who) fun r hr => ?_
  rw [bneI]
  by_cases h0 : r.2 = 0
  · rw [decide_eq_false (by simpa using h0), cond_false]
    obtain ⟨w, rfl, hw, hS, hm, hc⟩ := hr.is h0
    refine tbnd (all_tells hS hw hm hc) fun y hy => ?_
    obtain ⟨s, hs, hn⟩ := hy.low
    obtain ⟨b1, b2, b3, b4⟩ := hs.bd hS
    have h10 := hS.e
    refine tfor0 y.story.length (fun k s => s = (y.story.take k, (k : Int))) rfl ?_ ?_
    · rintro k _ hk rfl
      unfold slave_Story_b1
      dsimp only
      rw [lt_t hk, cond_true]
      have := b4 _ (List.getElem_mem hk)
      refine tdet (idx_get hk) (tdet (a := y.story[k]) (by unfold slices_Clone___int_int_; rw [if_pos (by unfold lim; omega)]) (tgrd (by simp only [List.length_take, List.length_singleton]; unfold lim; omega) (tnxt ?_)))
      rw [wr_succ (by omega), List.take_succ_eq_append_getElem hk]
    · rintro _ rfl
      unfold slave_Story_b1
      dsimp only
      rw [lt_f, cond_false]
      refine tend (tret ⟨by rw [← hr.err, h0], fun h => absurd rfl h, fun _ => ⟨w, rfl, hw, hS, hc, ?_⟩⟩)
      simp only [List.take_length]
      refine ⟨⟨s, hs⟩, ?_⟩
      have := spanE_of hS hw ⟨_, hy.low⟩ hy.high hy.bd
      rw [this]; exact hn.symm
  · rw [decide_eq_true h0, cond_true]
    exact tret ⟨hr.err, fun _ => rfl, fun h => absurd h h0⟩
def climbB (c : Int) : Int → List Int → Bool
  | _, [] => true
  | a, k :: t => inB k a (c - 1) && climbB c (k + 1) t
theorem climb_iff (c : Nat) : ∀ (ls : List Int) (a : Int), climbB c a ls = true ↔ (ls.Pairwise (· < ·) ∧ ∀ k ∈ ls, a ≤ k ∧ k < (c : Int))
  | [], a => by simp [climbB]
  | k :: t, a => by
    rw [climbB, Bool.and_eq_true, inB_iff, climb_iff c t, List.pairwise_cons]
    constructor
    · rintro ⟨⟨h1, h2⟩, h3, h4⟩
      refine ⟨⟨fun b hb => by have := h4 b hb; omega, h3⟩, fun b hb => ?_⟩
      rcases List.mem_cons.1 hb with rfl | hb
      · omega
      · have := h4 b hb; omega
    · rintro ⟨⟨h1, h2⟩, h3⟩
      have := h3 k (by simp)
      exact ⟨⟨by omega, by omega⟩, h2, fun b hb => by have := h1 b hb; have := h3 b (by simp [hb]); omega⟩
theorem climb_loss (c : Nat) (ls : List Int) : climbB c 0 ls = true ↔ Loss c ls := by
  rw [climb_iff]
  exact ⟨fun h => ⟨h.1, h.2⟩, fun h => ⟨h.inc, h.bd⟩⟩
def chk (l : SlaveLine) (who : Nat) (wo : Nat → Bool) (story : List (List Int)) : Nat → Option SlaveStart
  | 0 => some (l.Starts.getD who default)
  | i + 1 => match chk l who wo story i with
    | none => none
    | some s =>
      if (evD l i).Kind = 2 then (if (story.getD i []).isEmpty && okLook who wo i (evD l i) ([], s) then some s else none)
      else if climbB (evD l i).Count 0 (story.getD i []) && decide (((story.getD i []).length : Int) ≤ (evD l i).Lost) then some (runP l.Ring (evD l i) (story.getD i []) (evD l i).Count.toNat s) else none
theorem snoc_take {α : Type} {a x : List α} {y z : α} (h : a ++ [y] = x ++ [z]) : a = x ∧ y = z := by
  have := List.append_inj' h rfl
  exact ⟨this.1, by simpa using this.2⟩
theorem chk_iff {l : SlaveLine} (hS : OkS l) {who : Nat} (hw : who < l.Starts.length) {wo : Nat → Bool} (story : List (List Int)) : ∀ (i : Nat), i ≤ l.Events.length → i ≤ story.length → ∀ s, chk l who wo story i = some s ↔ Sto l who wo i (story.take i) s
  | 0, _, _, s => by
    have e : l.Starts.getD who default = l.Starts[who] := by simp [List.getD, hw]
    simp only [chk, e, Option.some.injEq]
    constructor
    · rintro rfl; exact Sto.zero hw
    · intro h
      rw [List.take_zero] at h
      cases h; rfl
  | i + 1, hi, hi2, s => by
    have hi' : i < l.Events.length := by omega
    have hi3 : i < story.length := by omega
    have ih := chk_iff hS hw (wo := wo) story i (by omega) (by omega)
    have eg : story.getD i [] = story[i] := by simp [List.getD, hi3]
    rw [List.take_succ_eq_append_getElem hi3, chk, evD_get hi', eg]
    by_cases hk : l.Events[i].Kind = 2
    · simp only [if_pos hk]
      constructor
      · intro h
        cases hc : chk l who wo story i with
        | none => rw [hc] at h; cases h
        | some s0 =>
          rw [hc] at h
          simp only at h
          split at h
          · next hb =>
            injection h with h
            subst h
            simp only [Bool.and_eq_true, List.isEmpty_iff] at hb
            rw [hb.1]
            refine Sto.look hi' hk (fun h2 h3 => ?_) ((ih _).1 hc)
            have := hb.2
            unfold okLook at this
            rw [h2, decide_eq_true h3] at this
            simpa using this
          · cases h
      · intro h
        generalize hst : List.take i story ++ [story[i]] = st at h
        cases h with
        | @look _ st0 _ _ _ hs h =>
          obtain ⟨e1, e2⟩ := snoc_take hst
          subst e1
          rw [(ih s).2 h]
          simp only
          rw [if_pos]
          rw [e2]
          unfold okLook
          cases hw1 : wo i with
          | true => rfl
          | false =>
            by_cases h2 : l.Events[i].Who = (who : Int)
            · rw [decide_eq_true (hs hw1 h2)]; simp
            · rw [decide_eq_false h2]; rfl
        | send _ hk' => exact absurd hk hk'
    · have hc := (hS.at hi').c hk
      have hcn : l.Events[i].Count = (l.Events[i].Count.toNat : Int) := by omega
      have hcl : climbB l.Events[i].Count 0 story[i] = true ↔ Loss l.Events[i].Count.toNat story[i] := by
        rw [← climb_loss]; rw [← hcn]
      simp only [if_neg hk]
      constructor
      · intro h
        cases hc : chk l who wo story i with
        | none => rw [hc] at h; cases h
        | some s0 =>
          rw [hc] at h
          simp only at h
          split at h
          · next hb =>
            injection h with h
            subst h
            simp only [Bool.and_eq_true, decide_eq_true_eq, hcl] at hb
            exact Sto.send hi' hk ((ih _).1 hc) hb.1 hb.2
          · cases h
      · intro h
        generalize hst : List.take i story ++ [story[i]] = st at h
        cases h with
        | look _ hk' => exact absurd hk' hk
        | @send _ st0 s0 ls _ _ h hl hn =>
          obtain ⟨e1, e2⟩ := snoc_take hst
          subst e1; subst e2
          rw [(ih s0).2 h]
          simp only
          rw [if_pos (by rw [Bool.and_eq_true, hcl]; exact ⟨hl, by simpa using hn⟩)]
def isB (l : SlaveLine) (who : Nat) (story : List (List Int)) : Bool := decide (story.length = l.Events.length) && (chk l who wo0 story l.Events.length).isSome
def isF (l : SlaveLine) (who : Int) (story : List (List Int)) : Bool × Int := if goodB l then if inB who 0 ((l.Starts.length : Int) - 1) then (isB l who.toNat story, 0) else (false, 71) else (false, 70)
theorem chk_none {l : SlaveLine} {who : Nat} {wo : Nat → Bool} {story : List (List Int)} {i : Nat} (h : chk l who wo story i = none) : ∀ d, chk l who wo story (i + d) = none
  | 0 => h
  | d + 1 => by
    rw [← Nat.add_assoc, chk, chk_none h d]
theorem chk_end {l : SlaveLine} {who : Nat} {wo : Nat → Bool} {story : List (List Int)} {i : Nat} (h : chk l who wo story i = none) (hi : i ≤ l.Events.length) : (chk l who wo story l.Events.length).isSome = false := by
  have := chk_none h (l.Events.length - i)
  rw [show i + (l.Events.length - i) = l.Events.length by omega] at this
  rw [this]; rfl
theorem mk_eta (s : SlaveStart) : SlaveStart.mk s.Shown s.Last = s := rfl
theorem run_1 {xv : SlaveLine} {n : Int} (h1 : 2 ≤ xv.Ring) (h2 : xv.Ring ≤ 60) {x : SlaveEvent} (hx : OkE n xv.Ring x) (hk : x.Kind ≠ 2) {ls : List Int} (hl : (ls.length : Int) ≤ 9223372036854775807) {s : SlaveStart} (hs : OkT xv.Ring s) :
    slave_line_pulses_1 (slave_IsStory_y4 xv ls) x (slave_line.mk xv []) (s.Shown, s.Last) = some ((runP xv.Ring x ls x.Count.toNat s).Shown, (runP xv.Ring x ls x.Count.toNat s).Last) := by
  have hc := hx.c hk
  unfold slave_line_pulses_1
  refine loopU_for (fun p (st : Int × (Int × Int)) => st = ((p : Int), ((runP xv.Ring x ls p s).Shown, (runP xv.Ring x ls p s).Last))) x.Count.toNat
    (Post := fun o => o = some ((runP xv.Ring x ls x.Count.toNat s).Shown, (runP xv.Ring x ls x.Count.toNat s).Last)) rfl ?_ ?_
  · rintro p _ hp rfl
    have hlt : (p : Int) < x.Count := by omega
    have hT := hs.run h1 x ls p
    refine ⟨_, ?_, rfl⟩
    unfold slave_line_pulses_1_b1
    dsimp only
    rw [show decide ((p : Int) < x.Count) = true by simpa using hlt, cond_true, if_pos (by have := hx.k; omega), tab_eq hx hk _ hlt, bind_s]
    unfold slave_IsStory_y4
    dsimp only
    rw [after_eq (l := slave_line.mk xv []) h1 h2 (s := SlaveStart.mk (runP xv.Ring x ls p s).Shown (runP xv.Ring x ls p s).Last) hT (signF_or _ _), bind_s, contains_eq _ _ hl, bind_s, wr_succ (by omega)]
    show ((cond _ (some _) (some false)).bind _).bind _ = _
    rw [mk_eta]
    by_cases hm : (p : Int) ∈ ls
    · rw [decide_eq_true hm]
      have : runP xv.Ring x ls (p + 1) s = runP xv.Ring x ls p s := by simp only [runP, if_pos hm]
      rw [this]
      cases (!([(afterF xv.Ring (runP xv.Ring x ls p s) (signF x p)).Shown, (afterF xv.Ring (runP xv.Ring x ls p s) (signF x p)).Last] == [(runP xv.Ring x ls p s).Shown, (runP xv.Ring x ls p s).Last])) <;> rfl
    · rw [decide_eq_false hm]
      have : runP xv.Ring x ls (p + 1) s = afterF xv.Ring (runP xv.Ring x ls p s) (signF x p) := by simp only [runP, if_neg hm]; rfl
      rw [this]
      cases he : ([(afterF xv.Ring (runP xv.Ring x ls p s) (signF x p)).Shown, (afterF xv.Ring (runP xv.Ring x ls p s) (signF x p)).Last] == [(runP xv.Ring x ls p s).Shown, (runP xv.Ring x ls p s).Last]) with
      | false => rfl
      | true =>
        simp only [beq_iff_eq, List.cons.injEq, and_true] at he
        rw [he.1, he.2]; rfl
  · rintro _ rfl
    refine ⟨_, ?_, rfl⟩
    unfold slave_line_pulses_1_b1
    dsimp only
    rw [show decide (((x.Count.toNat : Nat) : Int) < x.Count) = false by simp; omega, cond_false]
theorem sum_climb {xv : SlaveLine} {i : Int} {z z1 : Int} {x : SlaveEvent} {ls : List Int} (hl : (ls.length : Int) ≤ 9223372036854775807) (hc : 0 ≤ x.Count) (hc2 : x.Count ≤ 60) (v6 : Bool) (v7 : Int) : ∀ (d k : Nat) (last : Int), k + d = ls.length → -1 ≤ last → last ≤ 1000 →
    loopU (slave_IsStory_b3 xv i z z1 x ls) (v6, v7, last, (k : Int)) = if climbB x.Count (last + 1) (ls.drop k) then (cond (decide ((ls.length : Int) > x.Lost))
  (ext (some (false, 0)))
  ((slave_line_pulses (slave_line.mk xv ([] : List Int)) x).bind fun rv_3 =>
  (slave_line_pulses_1 (slave_IsStory_y4 xv ls) rv_3.1 rv_3.2 (z, z1)).bind fun (so, so_1) =>
  slave_IsStory_k2 i v6 v7 so so_1)) else ext (some (false, 0))
  | 0, k, last, hd, h1, h2 => by
    have e : k = ls.length := by omega
    subst e
    rw [List.drop_length, climbB, if_pos rfl]
    apply loopU_ext
    unfold slave_IsStory_b3
    dsimp only
    rw [lt_f, cond_false]
  | d + 1, k, last, hd, h1, h2 => by
    have hk : k < ls.length := by omega
    have hb : slave_IsStory_b3 xv i z z1 x ls (v6, v7, last, (k : Int)) = cond (!inB ls[k] (last + 1) (x.Count - 1)) (ext (ext (some (false, 0)))) (nxt (v6, v7, ls[k], ((k + 1 : Nat) : Int))) := by
      unfold slave_IsStory_b3
      dsimp only
      rw [lt_t hk, cond_true, idx_get hk, bind_s, within_eq, bind_s, wr_succ (by omega), wr_id' (n := last + 1) (by omega) (by omega), wr_id' (n := x.Count - 1) (by omega) (by omega)]
    rw [← List.getElem_cons_drop hk, climbB]
    cases hin : inB ls[k] (last + 1) (x.Count - 1) with
    | false =>
      rw [hin] at hb
      exact loopU_ext hb
    | true =>
      rw [hin] at hb
      rw [loopU_nxt hb, Bool.true_and]
      rw [inB_iff] at hin
      exact sum_climb hl hc hc2 v6 v7 d (k + 1) ls[k] (by omega) (by omega) (by omega)
theorem isStory_loop {l : SlaveLine} (hS : OkS l) {who : Nat} (hw : who < l.Starts.length) {story : List (List Int)} (hlen : story.length = l.Events.length) (hst : ∀ r ∈ story, (r.length : Int) ≤ 9223372036854775807) (v6 : Bool) (v7 : Int) :
    ∀ (d i : Nat) (s : SlaveStart), i + d = l.Events.length → chk l who wo0 story i = some s → loopU (slave_IsStory_b1 l (who : Int) story) (v6, v7, (i : Int), s.Shown, s.Last) = some ((chk l who wo0 story l.Events.length).isSome, 0)
  | 0, i, s, hd, hc => by
    have e : i = l.Events.length := by omega
    subst e
    rw [hc]
    apply loopU_ext
    unfold slave_IsStory_b1
    dsimp only
    rw [lt_f, cond_false]; rfl
  | d + 1, i, s, hd, hc => by
    have hi : i < l.Events.length := by omega
    have hi2 : i < story.length := by omega
    have h10 := hS.e
    have eg : story.getD i [] = story[i] := by simp [List.getD, hi2]
    have hx := hS.at hi
    have hT := ((chk_iff hS hw (wo := wo0) story i (by omega) (by omega) s).1 hc).okT hS
    have hnext : chk l who wo0 story (i + 1) = if (evD l i).Kind = 2 then (if (story.getD i []).isEmpty && okLook who wo0 i (evD l i) ([], s) then some s else none)
      else if climbB (evD l i).Count 0 (story.getD i []) && decide (((story.getD i []).length : Int) ≤ (evD l i).Lost) then some (runP l.Ring (evD l i) (story.getD i []) (evD l i).Count.toNat s) else none := by rw [chk, hc]
    rw [evD_get hi, eg] at hnext
    have e1 : wr ((i : Int) + 1) = ((i + 1 : Nat) : Int) := wr_succ (by omega)
    by_cases hk : l.Events[i].Kind = 2
    · rw [if_pos hk] at hnext
      have hb : slave_IsStory_b1 l (who : Int) story (v6, v7, (i : Int), s.Shown, s.Last) = cond (story[i].isEmpty && okLook who wo0 i l.Events[i] ([], s)) (nxt (v6, v7, ((i + 1 : Nat) : Int), s.Shown, s.Last)) (ext (some (false, 0))) := by
        unfold slave_IsStory_b1
        dsimp only
        rw [lt_t hi, cond_true, idx_get hi, bind_s, beqI, decide_eq_true hk, cond_true, idx_get hi2, bind_s]
        unfold slave_IsStory_k2 okLook
        rw [e1]
        cases story[i] with
        | nil =>
          simp only [beqI, bneI, wo0, List.isEmpty_nil, Bool.true_and, Bool.false_or]
          by_cases h1 : l.Events[i].Who = (who : Int)
          · by_cases h2 : l.Events[i].Shown = s.Shown
            · simp [h1, h2]
            · simp [h1, h2]
          · simp [h1]
        | cons y t =>
          have : decide (((y :: t).length : Int) > 0) = true := by simp
          rw [this]; rfl
      cases hq : (story[i].isEmpty && okLook who wo0 i l.Events[i] ([], s)) with
      | true =>
        rw [hq] at hb hnext
        rw [loopU_nxt hb]
        exact isStory_loop hS hw hlen hst v6 v7 d (i + 1) s (by omega) (by rw [hnext]; rfl)
      | false =>
        rw [hq] at hb hnext
        rw [loopU_ext hb, chk_end hnext hi]
    · have hc2 := hx.c hk
      rw [if_neg hk] at hnext
      have hrl := hst _ (List.getElem_mem hi2)
      have hb : slave_IsStory_b1 l (who : Int) story (v6, v7, (i : Int), s.Shown, s.Last) = cond (climbB l.Events[i].Count 0 story[i] && decide ((story[i].length : Int) ≤ l.Events[i].Lost)) (nxt (v6, v7, ((i + 1 : Nat) : Int), (runP l.Ring l.Events[i] story[i] l.Events[i].Count.toNat s).Shown, (runP l.Ring l.Events[i] story[i] l.Events[i].Count.toNat s).Last)) (ext (some (false, 0))) := by
        unfold slave_IsStory_b1
        dsimp only
        rw [lt_t hi, cond_true, idx_get hi, bind_s, beqI, decide_eq_false hk, cond_false, idx_get hi2, bind_s]
        rw [show (-1, (0 : Int)) = (-1, ((0 : Nat) : Int)) from rfl, sum_climb hrl hc2.1 hc2.2.1 v6 v7 story[i].length 0 (-1) (by omega) (by omega) (by omega), List.drop_zero]
        rw [show ((-1 : Int) + 1) = 0 from rfl]
        cases hcl : climbB l.Events[i].Count 0 story[i] with
        | false => rfl
        | true =>
          rw [if_pos rfl, Bool.true_and]
          by_cases hle : (story[i].length : Int) ≤ l.Events[i].Lost
          · rw [decide_eq_true hle, decide_eq_false (by omega), cond_false, cond_true]
            show ((some (l.Events[i], slave_line.mk l [])).bind _) = _
            rw [bind_s]
            show (slave_line_pulses_1 (slave_IsStory_y4 l story[i]) l.Events[i] (slave_line.mk l []) (s.Shown, s.Last)).bind _ = _
            rw [run_1 hS.r1 hS.r2 hx hk hrl hT, bind_s]
            unfold slave_IsStory_k2
            rw [e1]
          · rw [decide_eq_false hle, decide_eq_true (by omega), cond_true, cond_false]
      cases hq : (climbB l.Events[i].Count 0 story[i] && decide ((story[i].length : Int) ≤ l.Events[i].Lost)) with
      | true =>
        rw [hq] at hb hnext
        rw [loopU_nxt hb]
        exact isStory_loop hS hw hlen hst v6 v7 d (i + 1) _ (by omega) (by rw [hnext]; rfl)
      | false =>
        rw [hq] at hb hnext
        rw [loopU_ext hb, chk_end hnext hi]
theorem isStory_eq {l : SlaveLine} (hl : Ok_SlaveLine l) (who : Int) (story : List (List Int)) (hst : ∀ r ∈ story, (r.length : Int) ≤ 9223372036854775807) : slave_IsStory l who story = some (isF l who story) := by
  unfold slave_IsStory isF
  rw [slave_Check_eq l hl, bind_s]
  cases hg : goodB l with
  | false => rfl
  | true =>
    have hS := OkS.of hg
    show (cond false _ _) = _
    rw [cond_false, sub1 hS, within_eq, bind_s]
    cases hi : inB who 0 ((l.Starts.length : Int) - 1) with
    | false => rfl
    | true =>
      obtain ⟨w, rfl, hw⟩ := nat_of hi
      rw [if_pos rfl, if_pos rfl]
      show (cond false _ _) = _
      rw [cond_false, bneI]
      unfold isB
      by_cases hlen : story.length = l.Events.length
      · rw [decide_eq_false (by omega), cond_false, idx_get hw, bind_s, decide_eq_true hlen, Bool.true_and]
        have e : l.Starts.getD w default = l.Starts[w] := by simp [List.getD, hw]
        exact isStory_loop hS hw hlen hst false 0 l.Events.length 0 l.Starts[w] (by omega) (by rw [chk, e])
      · rw [decide_eq_true (by omega), cond_true, decide_eq_false hlen]; rfl
theorem First_eq (l m : List Int) (hl : (l.length : Int) ≤ 9223372036854775806) : ∃ k : Nat, r0First l m = some (k : Int) ∧ k ≤ l.length ∧ k ≤ m.length ∧ (∀ i, i < k → l[i]? = m[i]?) ∧ (k < l.length → k < m.length → l[k]? ≠ m[k]?) := by
  unfold r0First
  have key : ∀ (d i : Nat), i + d = l.length → i ≤ m.length → (∀ j, j < i → l[j]? = m[j]?) → ∃ k : Nat, loopU (r0First_b1 l m) (i : Int) = some (k : Int) ∧ k ≤ l.length ∧ k ≤ m.length ∧ (∀ i, i < k → l[i]? = m[i]?) ∧ (k < l.length → k < m.length → l[k]? ≠ m[k]?) := by
    intro d
    induction d with
    | zero =>
      intro i h hm hj
      have e : i = l.length := by omega
      subst e
      refine ⟨l.length, loopU_ext ?_, Nat.le_refl _, hm, hj, fun h => by omega⟩
      unfold r0First_b1
      dsimp only
      rw [lt_f]; rfl
    | succ d ih =>
      intro i h hm hj
      have hi : i < l.length := by omega
      by_cases hi2 : i < m.length
      · have hb : r0First_b1 l m (i : Int) = cond (l[i] == m[i]) (nxt ((i + 1 : Nat) : Int)) (ext (some (i : Int))) := by
          unfold r0First_b1
          dsimp only
          rw [lt_t hi, lt_t hi2, idx_get hi, idx_get hi2]
          show (cond (l[i] == m[i]) _ _) = _
          rw [wr_succ (by omega)]
        cases hc : (l[i] == m[i]) with
        | true =>
          rw [hc] at hb
          rw [loopU_nxt hb]
          refine ih (i + 1) (by omega) (by omega) fun j hj2 => ?_
          by_cases e : j = i
          · subst e; rw [List.getElem?_eq_getElem hi, List.getElem?_eq_getElem hi2, show l[j] = m[j] by simpa using hc]
          · exact hj j (by omega)
        | false =>
          rw [hc] at hb
          refine ⟨i, loopU_ext hb, by omega, by omega, hj, fun _ _ => ?_⟩
          rw [List.getElem?_eq_getElem hi, List.getElem?_eq_getElem hi2]
          simp at hc ⊢; exact hc
      · refine ⟨i, loopU_ext ?_, by omega, hm, hj, fun _ h => absurd h hi2⟩
        unfold r0First_b1
        dsimp only
        have e : i = m.length := by omega
        subst e
        rw [lt_t hi, lt_f]; rfl
  exact key l.length 0 (by omega) (Nat.zero_le _) fun j h => by omega
theorem Alike_eq (l m : List Int) (hl : (l.length : Int) ≤ 9223372036854775806) : r0Alike l m = some (decide (l = m)) := by
  unfold r0Alike
  by_cases hlen : l.length = m.length
  · have : ((l.length : Int) == (m.length : Int)) = true := by simp [hlen]
    rw [this, cond_true]
    obtain ⟨k, hk, h1, h2, h3, h4⟩ := First_eq l m hl
    rw [hk, bind_s, bind_s, beqI]
    congr 1
    rw [Bool.eq_iff_iff, decide_eq_true_eq, decide_eq_true_eq]
    constructor
    · intro h
      have e : k = l.length := by omega
      subst e
      refine List.ext_getElem? fun i => ?_
      by_cases hi : i < l.length
      · exact h3 i hi
      · rw [List.getElem?_eq_none (by omega), List.getElem?_eq_none (by omega)]
    · rintro rfl
      by_cases e : k < l.length
      · exact absurd rfl (h4 e e)
      · omega
  · have : ((l.length : Int) == (m.length : Int)) = false := by simp; omega
    rw [this, cond_false, bind_s]
    rw [decide_eq_false]
    rintro rfl
    exact hlen rfl
end Go.Proofs.YtmbgmefmkjeahaaDoor.Rt
