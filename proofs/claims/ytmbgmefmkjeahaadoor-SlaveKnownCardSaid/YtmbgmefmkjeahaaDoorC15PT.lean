/- Plain laws of the slave seat: the fewest looks that are wrong. Under the conditions that each names. Plain laws of the slave seat: the fewest looks that are wrong, as the second package finds them. Under the conditions that each names. Plain laws of the slave seat: the chapter's examples. Under the conditions that each names. Plain laws of the slave seat: ends of laws. Under the conditions that each names. -/
import Derived.Test.YtmbgmefmkjeahaaDoorC15PP
set_option linter.unusedVariables false
set_option linter.unusedSimpArgs false
set_option maxRecDepth 100000
set_option maxHeartbeats 4000000
namespace Go.Proofs.YtmbgmefmkjeahaaDoor.Rt
open Go Go.RowKit
def woS (S : List Int) (i : Nat) : Bool := decide ((i : Int) ∈ S)
theorem woF_mk (l : SlaveLine) (S : List Int) : woF (slave_line.mk l S) = woS S := rfl
def isLook (l : SlaveLine) (i : Nat) : Bool := decide ((evD l i).Kind = 2)
def looksN (l : SlaveLine) (m : Nat) : List Int := ((List.range m).filter (isLook l)).map fun (k : Nat) => (k : Int)
def looksF (l : SlaveLine) : List Int := looksN l l.Events.length
theorem looksN_succ (l : SlaveLine) (m : Nat) : looksN l (m + 1) = if isLook l m = true then looksN l m ++ [(m : Int)] else looksN l m := by
  unfold looksN
  rw [List.range_succ, List.filter_append, List.map_append]
  cases h : isLook l m <;> simp [List.filter_cons, h]
theorem looksN_len (l : SlaveLine) (m : Nat) : (looksN l m).length ≤ m := by
  have := List.length_filter_le (isLook l) (List.range m)
  simp only [looksN, List.length_map, List.length_range] at this ⊢
  exact this
theorem mem_looks (l : SlaveLine) (m : Nat) (x : Int) : x ∈ looksN l m ↔ ∃ k : Nat, x = (k : Int) ∧ k < m ∧ (evD l k).Kind = 2 := by
  simp only [looksN, List.mem_map, List.mem_filter, List.mem_range, isLook, decide_eq_true_eq]
  exact ⟨fun ⟨k, ⟨h1, h2⟩, h3⟩ => ⟨k, h3.symm, h1, h2⟩, fun ⟨k, h1, h2, h3⟩ => ⟨k, ⟨h2, h3⟩, h1.symm⟩⟩
theorem looks_inc (l : SlaveLine) : ∀ m, (looksN l m).Pairwise (· < ·)
  | 0 => List.Pairwise.nil
  | m + 1 => by
    rw [looksN_succ]
    split
    · refine List.pairwise_append.2 ⟨looks_inc l m, List.pairwise_singleton _ _, fun a ha b hb => ?_⟩
      obtain ⟨k, rfl, hk, _⟩ := (mem_looks l m a).1 ha
      rw [List.mem_singleton.1 hb]; omega
    · exact looks_inc l m
def okAll (l : SlaveLine) (S : List Int) : Bool := allCan l (woS S)
theorem okAll_looks {l : SlaveLine} (hS : OkS l) : okAll l (looksF l) = true := by
  refine allCan_iff.2 fun w hw => (canB_iff hS hw).2 ?_
  have key : ∀ i, i ≤ l.Events.length → ∃ st s, Sto l w (woS (looksF l)) i st s := by
    intro i
    induction i with
    | zero => intro _; exact ⟨_, _, Sto.zero hw⟩
    | succ i ih =>
      intro hi
      obtain ⟨st, s, h⟩ := ih (by omega)
      have hi' : i < l.Events.length := by omega
      by_cases hk : l.Events[i].Kind = 2
      · refine ⟨_, _, Sto.look hi' hk (fun h2 => ?_) h⟩
        have : woS (looksF l) i = true := by
          unfold woS
          rw [decide_eq_true_eq]
          exact (mem_looks l _ _).2 ⟨i, rfl, hi', by rw [evD_get hi']; exact hk⟩
        rw [this] at h2; cases h2
      · have hc := (hS.at hi').c hk
        exact ⟨_, _, Sto.send hi' hk h (Loss.nil _) (by simp; omega)⟩
  exact key _ (Nat.le_refl _)
def lexB : List Int → List Int → Bool
  | x :: xs, y :: ys => decide (x < y) || (decide (x = y) && lexB xs ys)
  | _, _ => false
theorem lex_irr : ∀ xs, lexB xs xs = false
  | [] => rfl
  | x :: xs => by simp [lexB, lex_irr xs]
theorem lex_trans : ∀ {xs ys zs : List Int}, lexB xs ys = true → lexB ys zs = true → lexB xs zs = true
  | x :: xs, y :: ys, z :: zs, h1, h2 => by
    simp only [lexB, Bool.or_eq_true, Bool.and_eq_true, decide_eq_true_eq] at h1 h2 ⊢
    rcases h1 with h1 | ⟨rfl, h1⟩
    · rcases h2 with h2 | ⟨rfl, h2⟩
      · left; omega
      · left; exact h1
    · rcases h2 with h2 | ⟨rfl, h2⟩
      · left; exact h2
      · right; exact ⟨rfl, lex_trans h1 h2⟩
  | [], _, _, h1, _ => by simp [lexB] at h1
  | _ :: _, [], _, h1, _ => by simp [lexB] at h1
  | _ :: _, _ :: _, [], _, h2 => by simp [lexB] at h2
theorem lex_asym {xs ys : List Int} (h1 : lexB xs ys = true) (h2 : lexB ys xs = true) : False := by
  have := lex_trans h1 h2
  rw [lex_irr] at this; cases this
def leS (S T : List Int) : Prop := S.length < T.length ∨ (S.length = T.length ∧ (S = T ∨ lexB S T = true))
theorem leS.trans {S T U : List Int} (h1 : leS S T) (h2 : leS T U) : leS S U := by
  rcases h1 with h1 | ⟨e1, h1⟩
  · rcases h2 with h2 | ⟨e2, _⟩
    · left; omega
    · left; omega
  · rcases h2 with h2 | ⟨e2, h2⟩
    · left; omega
    · right
      refine ⟨by omega, ?_⟩
      rcases h1 with rfl | h1
      · exact h2
      · rcases h2 with rfl | h2
        · exact .inr h1
        · exact .inr (lex_trans h1 h2)
theorem leS.anti {S T : List Int} (h1 : leS S T) (h2 : leS T S) : S = T := by
  rcases h1 with h1 | ⟨e1, h1⟩
  · rcases h2 with h2 | ⟨e2, _⟩ <;> omega
  · rcases h2 with h2 | ⟨e2, h2⟩
    · omega
    · rcases h1 with h1 | h1
      · exact h1
      · rcases h2 with h2 | h2
        · exact h2.symm
        · exact (lex_asym h1 h2).elim
structure IsLeft (l : SlaveLine) (S : List Int) : Prop where
  sub : S.Sublist (looksF l)
  ok : okAll l S = true
  le : ∀ T, T.Sublist (looksF l) → okAll l T = true → leS S T
theorem IsLeft.uniq {l : SlaveLine} {S T : List Int} (h : IsLeft l S) (g : IsLeft l T) : S = T := (h.le T g.sub g.ok).anti (g.le S h.sub h.ok)
structure WrongR (l : SlaveLine) (r : List Int × Int) : Prop where
  bad : goodB l = false → r = ([], 70)
  good : goodB l = true → r.2 = 0 ∧ IsLeft l r.1
theorem WrongR.uniq {l : SlaveLine} {r q : List Int × Int} (h : WrongR l r) (g : WrongR l q) : r = q := by
  cases hg : goodB l with
  | false => rw [h.bad hg, g.bad hg]
  | true =>
    obtain ⟨h1, h2⟩ := h.good hg
    obtain ⟨g1, g2⟩ := g.good hg
    have := h2.uniq g2
    cases r; cases q; simp only at h1 g1 this; rw [h1, g1, this]
def subsE : List Int → Nat → List (List Int)
  | _, 0 => [[]]
  | [], _ + 1 => []
  | x :: xs, m + 1 => (subsE xs m).map (x :: ·) ++ subsE xs (m + 1)
theorem mem_subsE : ∀ (xs : List Int) (m : Nat) (T : List Int), T ∈ subsE xs m ↔ T.Sublist xs ∧ T.length = m
  | xs, 0, T => by
    simp only [subsE, List.mem_singleton]
    exact ⟨fun h => by subst h; exact ⟨List.nil_sublist _, rfl⟩, fun h => List.eq_nil_of_length_eq_zero h.2⟩
  | [], m + 1, T => by
    simp only [subsE, List.not_mem_nil, false_iff]
    rintro ⟨h, h2⟩
    have := List.sublist_nil.1 h
    subst this; cases h2
  | x :: xs, m + 1, T => by
    rw [subsE, List.mem_append, List.mem_map, mem_subsE xs (m + 1) T]
    constructor
    · rintro (⟨U, hU, rfl⟩ | ⟨h, h2⟩)
      · obtain ⟨h, h2⟩ := (mem_subsE xs m U).1 hU
        exact ⟨h.cons_cons x, by simp [h2]⟩
      · exact ⟨h.cons x, h2⟩
    · rintro ⟨h, h2⟩
      cases h with
      | cons _ h => exact .inr ⟨h, h2⟩
      | cons_cons _ h => exact .inl ⟨_, (mem_subsE xs m _).2 ⟨h, by simpa using h2⟩, rfl⟩
theorem subs_lex : ∀ (xs : List Int) (m : Nat), xs.Pairwise (· < ·) → (subsE xs m).Pairwise (fun S T => lexB S T = true)
  | xs, 0, _ => by simp [subsE]
  | [], m + 1, _ => by simp [subsE]
  | x :: xs, m + 1, h => by
    rw [List.pairwise_cons] at h
    rw [subsE, List.pairwise_append, List.pairwise_map]
    refine ⟨(subs_lex xs m h.2).imp fun h => by simp [lexB, h], subs_lex xs (m + 1) h.2, fun S hS T hT => ?_⟩
    obtain ⟨U, _, rfl⟩ := List.mem_map.1 hS
    obtain ⟨hT1, hT2⟩ := (mem_subsE xs (m + 1) T).1 hT
    cases T with
    | nil => cases hT2
    | cons y T => have := h.1 y (hT1.subset (by simp)); simp [lexB, this]
theorem find_pair {α : Type} {R : α → α → Prop} {p : α → Bool} : ∀ {xs : List α} {a : α}, xs.Pairwise R → xs.find? p = some a → a ∈ xs ∧ p a = true ∧ ∀ b ∈ xs, p b = true → b = a ∨ R a b
  | [], a, _, h => by cases h
  | x :: xs, a, hp, h => by
    rw [List.pairwise_cons] at hp
    rw [List.find?_cons] at h
    cases hx : p x with
    | true =>
      rw [hx] at h
      injection h with h
      subst h
      exact ⟨by simp, hx, fun b hb _ => by
        rcases List.mem_cons.1 hb with rfl | hb
        · exact .inl rfl
        · exact .inr (hp.1 b hb)⟩
    | false =>
      rw [hx] at h
      obtain ⟨h1, h2, h3⟩ := find_pair hp.2 h
      refine ⟨by simp [h1], h2, fun b hb hb2 => ?_⟩
      rcases List.mem_cons.1 hb with rfl | hb
      · rw [hx] at hb2; cases hb2
      · exact h3 b hb hb2
def pickS (l : SlaveLine) (m : Nat) : Option (List Int) := (subsE (looksF l) m).find? (okAll l)
theorem pick_left {l : SlaveLine} {m : Nat} {S : List Int} (h : pickS l m = some S) (hno : ∀ j, j < m → pickS l j = none) : IsLeft l S := by
  obtain ⟨h1, h2, h3⟩ := find_pair (subs_lex (looksF l) m (looks_inc l _)) h
  obtain ⟨h4, h5⟩ := (mem_subsE _ _ _).1 h1
  refine ⟨h4, h2, fun T hT hok => ?_⟩
  by_cases hlt : T.length < m
  · have hn := hno T.length hlt
    unfold pickS at hn
    rw [List.find?_eq_none] at hn
    exact absurd hok (by simpa using hn T ((mem_subsE _ _ _).2 ⟨hT, rfl⟩))
  · by_cases he : T.length = m
    · rcases h3 T ((mem_subsE _ _ _).2 ⟨hT, he⟩) hok with h6 | h6
      · exact .inr ⟨by omega, .inl h6.symm⟩
      · exact .inr ⟨by omega, .inr h6⟩
    · left; omega
theorem pick_some {l : SlaveLine} (hS : OkS l) : pickS l (looksF l).length ≠ none := by
  unfold pickS
  rw [Ne, List.find?_eq_none]
  intro h
  exact h _ ((mem_subsE _ _ _).2 ⟨List.Sublist.refl _, rfl⟩) (okAll_looks hS)
def foundP (l : SlaveLine) (S : List Int) (k m : Nat) : Option (List Int) := ((subsE ((looksF l).drop k) m).find? fun T => okAll l (S ++ T)).map (S ++ ·)
theorem found_cons {l : SlaveLine} (S : List Int) {k m : Nat} (hk : k < (looksF l).length) : foundP l S k (m + 1) = match foundP l (S ++ [(looksF l)[k]]) (k + 1) m with | some T => some T | none => foundP l S (k + 1) (m + 1) := by
  unfold foundP
  rw [← List.getElem_cons_drop hk, subsE, List.find?_append, List.find?_map]
  have e : ((fun T => okAll l (S ++ T)) ∘ fun x => (looksF l)[k] :: x) = fun T => okAll l (S ++ [(looksF l)[k]] ++ T) := by funext T; simp
  rw [e]
  cases (subsE ((looksF l).drop (k + 1)) m).find? (fun T => okAll l (S ++ [(looksF l)[k]] ++ T)) with
  | none => simp
  | some T => simp
section
variable {l : SlaveLine}
def ansS (o : Option (List Int)) : List Int × Bool := match o with | some T => (T, true) | none => ([], false)
theorem wrong1_tells (hS : OkS l) : ∀ (m : Nat) (S : List Int) (k : Nat), S.length + m ≤ 10 → k ≤ (looksF l).length →
    Tells (slave_Wrong_1_n (m + 1) S ((S.length + m : Nat) : Int) (k : Int) l (looksF l)) (fun r => r = ansS (foundP l S k m))
  | m, S, k, hm, hk => by
    have h10 := hS.e
    have hll := looksN_len l l.Events.length
    have hle : (looksF l).length ≤ 10 := by unfold looksF; omega
    show Tells (slave_Wrong_1_step (slave_Wrong_1_n m) S ((S.length + m : Nat) : Int) (k : Int) l (looksF l)) _
    unfold slave_Wrong_1_step
    rw [beqI]
    cases m with
    | zero =>
      rw [decide_eq_true (by simp), cond_true]
      have hfound : ansS (foundP l S k 0) = if okAll l S = true then (S, true) else ([], false) := by
        unfold foundP
        simp only [subsE, List.find?_cons, List.append_nil, List.find?_nil]
        cases okAll l S <;> simp [ansS]
      refine tfor0 l.Starts.length (fun w s => s = (([] : List Int), false, (w : Int)) ∧ ∀ j, j < w → canB l j (woS S) = true) ⟨rfl, fun j h => by omega⟩ ?_ ?_
      · rintro w _ hw ⟨rfl, hj⟩
        unfold slave_Wrong_1_b1
        dsimp only
        rw [lt_t hw, cond_true]
        refine tbnd (lineCan_tells (l := slave_line.mk l S) hS (by dsimp only; omega) hw) fun b hb => ?_
        subst hb
        rw [woF_mk]
        dsimp only
        cases hc : canB l w (woS S) with
        | false =>
          refine tend (tret ?_)
          have : okAll l S = false := by
            rw [Bool.eq_false_iff]
            intro h
            have := allCan_iff.1 h w hw
            rw [hc] at this; cases this
          rw [hfound, this]; rfl
        | true =>
          refine tnxt ⟨by rw [wr_succ (by have := hS.n2; omega)], fun j hj2 => ?_⟩
          by_cases e : j = w
          · subst e; exact hc
          · exact hj j (by omega)
      · rintro _ ⟨rfl, hj⟩
        unfold slave_Wrong_1_b1
        dsimp only
        rw [lt_f, cond_false]
        refine tend (tret ?_)
        rw [hfound, show okAll l S = true from allCan_iff.2 hj]; rfl
    | succ m =>
      rw [decide_eq_false (by omega), cond_false]
      refine tfor (looksF l).length (fun k' s => s = (([] : List Int), false, (k' : Int)) ∧ foundP l S k (m + 1) = foundP l S k' (m + 1)) ?_ ?_ ((looksF l).length - k) k (by omega) ⟨rfl, rfl⟩
      · rintro k' _ hk' ⟨rfl, hf⟩
        unfold slave_Wrong_1_b2
        dsimp only
        rw [lt_t hk', cond_true]
        refine tdet (idx_get hk') (tgrd (by simp only [List.length_singleton]; unfold lim; omega) ?_)
        have ih := wrong1_tells hS m (S ++ [(looksF l)[k']]) (k' + 1) (by simp; omega) (by omega)
        rw [show (((S ++ [(looksF l)[k']]).length + m : Nat) : Int) = ((S.length + (m + 1) : Nat) : Int) by simp; omega] at ih
        rw [show wr ((k' : Int) + 1) = ((k' + 1 : Nat) : Int) from wr_succ (by omega)]
        refine tbnd ih fun r hr => ?_
        subst hr
        rw [found_cons S hk'] at hf
        cases hfo : foundP l (S ++ [(looksF l)[k']]) (k' + 1) m with
        | some T =>
          rw [hfo] at hf
          exact tend (tret (by rw [hf]; rfl))
        | none =>
          rw [hfo] at hf
          exact tnxt ⟨rfl, hf⟩
      · rintro _ ⟨rfl, hf⟩
        unfold slave_Wrong_1_b2
        dsimp only
        rw [lt_f, cond_false]
        refine tend (tret ?_)
        rw [hf]
        unfold foundP
        rw [List.drop_length]; rfl
theorem found_nil (m : Nat) : foundP l [] 0 m = pickS l m := by
  unfold foundP pickS
  rw [List.drop_zero]
  simp
theorem Wrong_tells (hl : Ok_SlaveLine l) : Tells (slave_Wrong l) (WrongR l) := by
  unfold slave_Wrong
  refine tdet (slave_Check_eq l hl) ?_
  cases hg : goodB l with
  | false => exact tret ⟨fun _ => rfl, fun h => by rw [hg] at h; cases h⟩
  | true =>
    have hS := OkS.of hg
    have h10 := hS.e
    show Tells (loopN (slave_Wrong_b1 l) (0, [])) _
    refine tfor0 l.Events.length (fun i s => s = ((i : Int), looksN l i)) rfl ?_ ?_
    · rintro i _ hi rfl
      have hll := looksN_len l i
      unfold slave_Wrong_b1
      dsimp only
      rw [lt_t hi, cond_true]
      refine tdet (idx_get hi) ?_
      rw [wr_succ (by omega), looksN_succ, beqI]
      unfold isLook
      rw [evD_get hi]
      by_cases hk : l.Events[i].Kind = 2
      · rw [decide_eq_true hk, cond_true, if_pos rfl]
        exact tgrd (by simp only [List.length_singleton]; unfold lim; omega) (tnxt rfl)
      · rw [decide_eq_false hk, cond_false, if_neg (by simp)]
        exact tnxt rfl
    · rintro _ rfl
      have hll := looksN_len l l.Events.length
      unfold slave_Wrong_b1
      dsimp only
      rw [lt_f, cond_false]
      refine tend ?_
      change Tells (loopN (slave_Wrong_b2 l (looksF l)) (([] : List Int), 0, 0)) _
      have hle : (looksF l).length ≤ 10 := by unfold looksF; omega
      have e1 : wr (((looksF l).length : Int) + 1) = (((looksF l).length + 1 : Nat) : Int) := wr_succ (by omega)
      refine tfor0 ((looksF l).length + 1) (fun m s => s = (([] : List Int), 0, (m : Int)) ∧ ∀ j, j < m → pickS l j = none) ⟨rfl, fun j h => by omega⟩ ?_ ?_
      · rintro m _ hm ⟨rfl, hno⟩
        unfold slave_Wrong_b2
        dsimp only
        rw [e1, lt_t hm, cond_true]
        have ih := wrong1_tells hS m [] 0 (by simp; omega) (Nat.zero_le _)
        rw [found_nil, show ((([] : List Int).length + m : Nat) : Int) = (m : Int) by simp] at ih
        refine tbnd (R := fun r => r = ansS (pickS l m)) (by unfold slave_Wrong_1; exact tlim (m + 1) ih) fun r hr => ?_
        subst hr
        cases hp : pickS l m with
        | some T => exact tend (tret ⟨fun h => (by rw [hg] at h; cases h), fun _ => ⟨rfl, pick_left hp hno⟩⟩)
        | none =>
          refine tnxt ⟨by rw [wr_succ (by omega)], fun j hj => ?_⟩
          by_cases e : j = m
          · subst e; exact hp
          · exact hno j (by omega)
      · rintro _ ⟨rfl, hno⟩
        exact absurd (hno _ (Nat.lt_succ_self _)) (pick_some hS)
end
section
variable {l : SlaveLine}
end
def lookE (who shown : Int) : SlaveEvent := ⟨2, 0, 0, 0, who, shown⟩
def sendE (first count lost : Int) : SlaveEvent := ⟨0, first, count, lost, 0, 0⟩
theorem look_eq (who shown : Int) : w7look who shown = some (lookE who shown) := rfl
theorem send_eq (first count lost : Int) : w7send first count lost = some (sendE first count lost) := rfl
def lineF (shown : List Int) : SlaveLine := ⟨12, [⟨10, 1⟩], sendE 0 4 1 :: shown.map (lookE 0)⟩
theorem line_eq (shown : List Int) (h : shown.length ≤ 1000) : w7line shown = some (lineF shown) := by
  unfold w7line
  rw [send_eq, bind_s]
  refine loopU_for (fun i (s : Int × List SlaveEvent) => s = ((i : Int), sendE 0 4 1 :: (shown.take i).map (lookE 0))) shown.length (Post := fun o => o = some (lineF shown)) rfl ?_ ?_
  · rintro i _ hi rfl
    refine ⟨_, ?_, rfl⟩
    unfold w7line_b1
    dsimp only
    rw [lt_t hi, cond_true, idx_get hi, bind_s, look_eq, bind_s, wr_succ (by omega), if_pos (by simp only [List.length_cons, List.length_map, List.length_take, List.length_nil]; unfold lim; omega), List.take_succ_eq_append_getElem hi, List.map_append]
    rfl
  · rintro _ rfl
    refine ⟨_, ?_, rfl⟩
    unfold w7line_b1
    dsimp only
    rw [lt_f, cond_false, List.take_length]; rfl
theorem inR0 : InR 0 := ⟨by decide, by decide⟩
theorem Ok_look {who shown : Int} (h : InR who) (h2 : InR shown) : Ok_SlaveEvent (lookE who shown) := ⟨(⟨by decide, by decide⟩ : InR 2), inR0, inR0, inR0, h, h2⟩
theorem Ok_send {a b c : Int} (h : InR a) (h2 : InR b) (h3 : InR c) : Ok_SlaveEvent (sendE a b c) := ⟨inR0, h, h2, h3, inR0, inR0⟩
theorem Ok_lineF (shown : List Int) (h : shown.length ≤ 1000) (hb : ∀ x ∈ shown, InR x) : Ok_SlaveLine (lineF shown) := by
  refine ⟨(⟨by decide, by decide⟩ : InR 12), ⟨show (([⟨10, 1⟩] : List SlaveStart).length : Int) ≤ _ by decide, fun x hx => ?_⟩, ⟨by simp [lineF]; omega, fun x hx => ?_⟩⟩
  · rw [List.mem_singleton.1 hx]; exact ⟨⟨by decide, by decide⟩, ⟨by decide, by decide⟩⟩
  · rcases List.mem_cons.1 hx with rfl | hx
    · exact Ok_send inR0 ⟨by decide, by decide⟩ ⟨by decide, by decide⟩
    · obtain ⟨y, hy, rfl⟩ := List.mem_map.1 hx
      exact Ok_look inR0 (hb y hy)
theorem AlikeRows_eq (l m : List (List Int)) (hl : (l.length : Int) ≤ 9223372036854775806) (hr : ∀ r ∈ l, (r.length : Int) ≤ 9223372036854775806) : r0AlikeRows l m = some (decide (l = m)) := by
  unfold r0AlikeRows
  by_cases hlen : l.length = m.length
  · rw [beqI, decide_eq_true (show (l.length : Int) = (m.length : Int) by omega)]
    have key : ∀ (d i : Nat) (b : Bool), i + d = l.length → b = decide (l.take i = m.take i) → loopU (r0AlikeRows_b1 l m) (b, (i : Int)) = some (decide (l = m)) := by
      intro d
      induction d with
      | zero =>
        intro i b h hb
        have e : i = l.length := by omega
        subst e
        rw [List.take_length, hlen, List.take_length] at hb
        apply loopU_ext
        unfold r0AlikeRows_b1
        dsimp only
        rw [lt_f, Bool.and_false, cond_false, hb]
      | succ d ih =>
        intro i b h hb
        have hi : i < l.length := by omega
        have hi2 : i < m.length := by omega
        cases hbv : b with
        | false =>
          rw [hbv] at hb
          apply loopU_ext
          unfold r0AlikeRows_b1
          dsimp only
          rw [Bool.false_and, cond_false]
          rw [decide_eq_false]
          rintro rfl
          simp at hb
        | true =>
          rw [hbv] at hb
          have hb := of_decide_eq_true hb.symm
          have hbody : r0AlikeRows_b1 l m (true, (i : Int)) = nxt (decide (l[i] = m[i]), ((i + 1 : Nat) : Int)) := by
            unfold r0AlikeRows_b1
            dsimp only
            rw [lt_t hi, Bool.true_and, cond_true, idx_get hi, bind_s, idx_get hi2, bind_s, Alike_eq _ _ (hr _ (List.getElem_mem hi)), bind_s, wr_succ (by omega)]
          rw [loopU_nxt hbody]
          refine ih (i + 1) _ (by omega) ?_
          rw [List.take_succ_eq_append_getElem hi, List.take_succ_eq_append_getElem hi2, hb]
          congr 1
          exact propext ⟨fun h => by rw [h], fun h => by simpa using (List.append_inj' h rfl).2⟩
    exact key l.length 0 true (by omega) (by simp)
  · rw [beqI, decide_eq_false (show ¬ (l.length : Int) = (m.length : Int) by omega)]
    apply loopU_ext
    unfold r0AlikeRows_b1
    dsimp only
    rw [Bool.false_and, cond_false, decide_eq_false]
    rintro rfl
    exact hlen rfl
deriving instance DecidableEq for SlaveStart
theorem ex_good : goodB (lineF []) = true ∧ goodB (lineF [0]) = true ∧ goodB (lineF [1]) = true ∧ goodB (lineF [0, 1, 0]) = true := by decide +kernel
theorem ex_can : canF (lineF []) 0 = ([0, 1, 2], 0) := by decide +kernel
theorem ex_lost : (lostF (lineF [0]) 0).1.Low = 1 ∧ (lostF (lineF [0]) 0).1.High = 1 ∧ (lostF (lineF [0]) 0).2 = 0 := by decide +kernel
theorem ex_is : isF (lineF []) 0 [[1]] = (true, 0) := by decide +kernel
theorem ex_ask : askF (lineF [1]) 0 = 0 := by decide +kernel
theorem ex_story : ∀ t ∈ allE (lineF [1]) 0 wo0, (lostN t.1 : Int) = (spanE (lineF [1]) 0 wo0).Low → t.1 = [[3], []] := by decide +kernel
theorem ex_sets : SetsF (lineF []) 5 ⟨1, 10, 0, 5⟩ = (true, 0) := by decide +kernel
theorem ex_homes : HomesF (lineF []) 2 = (13, 0) := by decide +kernel
theorem ex_open : openF (lineF []) (okM (lineF []) 5) = 0 := by decide +kernel
theorem ex_ok : OkP ⟨-1, 10, 1, 6⟩ := ⟨.inl rfl, by decide, by decide, .inr rfl, by decide, by decide⟩
theorem ex_set : setsF (lineF []) 5 ⟨-1, 10, 1, 6⟩ = true := by decide +kernel
def lessB (a b c d : Nat) : Bool := decide (b + d + (if a = 0 then 0 else 1) < 16) || (decide (b + d + (if a = 0 then 0 else 1) = 16) && decide (a = 0) && (decide (b < 10) || (decide (b = 10) && decide (c = 0))))
theorem ex_none : ((List.range 3).all fun a => (List.range 17).all fun b => (List.range 2).all fun c => (List.range 17).all fun d => !lessB a b c d || !setsF (lineF []) 5 ⟨(a : Int) - 1, (b : Int), (c : Int), (d : Int)⟩) = true := by decide +kernel
theorem ex_none' (a b c d : Nat) (ha : a < 3) (hb : b < 17) (hc : c < 2) (hd : d < 17) (h : b + d + (if a = 0 then 0 else 1) < 16 ∨ (b + d + (if a = 0 then 0 else 1) = 16 ∧ a = 0 ∧ (b < 10 ∨ (b = 10 ∧ c = 0)))) : setsF (lineF []) 5 ⟨(a : Int) - 1, (b : Int), (c : Int), (d : Int)⟩ = false := by
  have hl : lessB a b c d = true := by
    simp only [lessB, Bool.or_eq_true, Bool.and_eq_true, decide_eq_true_eq]
    rcases h with h | ⟨h1, h2, h3⟩
    · exact .inl h
    · exact .inr ⟨⟨h1, h2⟩, h3⟩
  have h1 := List.all_eq_true.1 ex_none a (List.mem_range.2 ha)
  have h2 := List.all_eq_true.1 h1 b (List.mem_range.2 hb)
  have h3 := List.all_eq_true.1 h2 c (List.mem_range.2 hc)
  have h4 := List.all_eq_true.1 h3 d (List.mem_range.2 hd)
  rw [hl] at h4
  simpa using h4
theorem ex_best : IsBest (lineF []) 5 ⟨-1, 10, 1, 6⟩ := by
  refine ⟨ex_ok, ex_set, fun q hq hg => ?_⟩
  refine Classical.byContradiction fun hn => ?_
  have := hq.e; have := hq.h0; have := hq.h1; have := hq.f; have := hq.s0; have := hq.s1
  have hpl : pulsesF ⟨-1, 10, 1, 6⟩ = 16 := by decide
  unfold leP at hn
  rw [hpl] at hn
  dsimp only at hn
  have h := ex_none' (q.Pre + 1).toNat q.Home.toNat q.First.toNat q.Send.toNat (by omega) (by unfold pulsesF at hn; split at hn <;> omega) (by omega) (by unfold pulsesF at hn; split at hn <;> omega) (by
    unfold pulsesF at hn
    split at hn <;> split <;> omega)
  have e2 : (((q.Pre + 1).toNat : Nat) : Int) - 1 = q.Pre := by omega
  have e3 : ((q.Home.toNat : Nat) : Int) = q.Home := by omega
  have e4 : ((q.First.toNat : Nat) : Int) = q.First := by omega
  have e5 : ((q.Send.toNat : Nat) : Int) = q.Send := by omega
  rw [e2, e3, e4, e5, show SlavePlan.mk q.Pre q.Home q.First q.Send = q from rfl, hg] at h
  cases h
theorem ex_looks : looksF (lineF [0, 1, 0]) = [1, 2, 3] := by decide +kernel
def leSB (S T : List Int) : Bool := decide (S.length < T.length) || (decide (S.length = T.length) && (decide (S = T) || lexB S T))
theorem leSB_iff (S T : List Int) (h : leSB S T = true) : leS S T := by
  simp only [leSB, Bool.or_eq_true, Bool.and_eq_true, decide_eq_true_eq] at h
  exact h
theorem ex_left : okAll (lineF [0, 1, 0]) [2] = true ∧ ∀ m < 4, ∀ T ∈ subsE [1, 2, 3] m, okAll (lineF [0, 1, 0]) T = true → leSB [2] T = true := by decide +kernel
theorem ex_wrong : IsLeft (lineF [0, 1, 0]) [2] := by
  refine ⟨by rw [ex_looks]; decide, ex_left.1, fun T hT hok => ?_⟩
  rw [ex_looks] at hT
  have hl := hT.length_le
  exact leSB_iff _ _ (ex_left.2 T.length (by simp at hl; omega) T ((mem_subsE _ _ _).2 ⟨hT, rfl⟩) hok)
theorem inR_s {n : Int} (h1 : -1000000000 ≤ n) (h2 : n ≤ 1000000000) : InR n := ⟨by omega, by omega⟩
theorem works_tells : Tells w7works (fun b => b = true) := by
  have o0 : Ok_SlaveLine (lineF []) := Ok_lineF _ (by decide) (by simp)
  have o1 : Ok_SlaveLine (lineF [0]) := Ok_lineF _ (by decide) (by intro x hx; rw [List.mem_singleton.1 hx]; exact inR0)
  have o2 : Ok_SlaveLine (lineF [1]) := Ok_lineF _ (by decide) (by intro x hx; rw [List.mem_singleton.1 hx]; exact inR_s (by decide) (by decide))
  have o3 : Ok_SlaveLine (lineF [0, 1, 0]) := Ok_lineF _ (by decide) (by intro x hx; simp at hx; exact inR_s (by omega) (by omega))
  unfold w7works
  refine tdet (line_eq [] (by decide)) (tbnd (Can_tells o0 0) fun r1 h1 => ?_)
  rw [ex_can] at h1
  subst h1
  refine tdet (line_eq [0] (by decide)) (tbnd (Lost_tells o1 0) fun r3 h3 => ?_)
  have l1 : r3.1.Low = 1 := by rw [h3]; exact ex_lost.1
  have l2 : r3.1.High = 1 := by rw [h3]; exact ex_lost.2.1
  have l3 : r3.2 = 0 := by rw [h3]; exact ex_lost.2.2
  refine tdet (line_eq [] (by decide)) (tdet (a := (true, 0)) (by rw [isStory_eq o0 0 _ (by intro r hr; rw [List.mem_singleton.1 hr]; decide), ex_is]) (tdet (line_eq [1] (by decide)) (tbnd (Story_tells o2 0) fun r7 h7 => ?_)))
  have s1 : r7.2 = 0 := by rw [h7.err]; exact ex_ask
  have s2 : r7.1 = [[3], []] := by
    obtain ⟨w, hw, hlt, hS, hc, ⟨s, hs⟩, hn⟩ := h7.is s1
    obtain rfl : w = 0 := by omega
    exact ex_story (r7.1, s) ((mem_allE hS hlt _ _).2 hs) hn
  rw [l1, l2, l3, s1, s2]
  refine tdet (a := false) rfl (tdet (a := false) rfl (tdet (a := false) rfl (tdet (a := false) ?_ (tdet (a := false) rfl (tdet (a := false) rfl (tdet (a := false) ?_ ?_))))))
  · show ((r0Alike [0, 1, 2] [0, 1, 2]).bind _) = _
    rw [Alike_eq _ _ (by decide)]; rfl
  · show ((r0AlikeRows [[3], []] [[3], []]).bind _) = _
    rw [AlikeRows_eq _ _ (by decide) (by decide)]; rfl
  · rw [cond_false]
    refine tdet (line_eq [0, 1, 0] (by decide)) (tbnd (Wrong_tells o3) fun r12 h12 => ?_)
    have w1 : r12 = ([2], 0) := h12.uniq ⟨fun h => (by rw [ex_good.2.2.2] at h; cases h), fun _ => ⟨rfl, ex_wrong⟩⟩
    subst w1
    refine tdet (line_eq [] (by decide)) (tbnd (Set_tells o0 5) fun r14 h14 => ?_)
    have p1 : r14.2 = 0 := by rw [h14.err]; exact ex_open
    have p2 : r14.1 = ⟨-1, 10, 1, 6⟩ := (h14.is p1).2.2.2.uniq ex_best
    refine tdet (line_eq [] (by decide)) (tbnd (Sets_tells o0 5 _) fun r16 h16 => ?_)
    rw [ex_sets] at h16
    subst h16
    refine tdet (line_eq [] (by decide)) (tbnd (Homes_tells o0 2) fun r18 h18 => ?_)
    rw [ex_homes] at h18
    subst h18
    rw [p1, p2]
    refine tdet (a := true) ?_ (tret rfl)
    show ((r0Alike [2] [2]).bind _) = _
    rw [Alike_eq _ _ (by decide)]; rfl
theorem fin_tells {b : Bool} (hb : b = true) : Tells (ND.bnd (cond b ((ND.bnd (w7works) fun rv => ND.ret rv)) (ND.ret false)) fun t => ND.ret t) (fun b => b = true) := by
  subst hb
  show Tells (ND.bnd (ND.bnd w7works _) _) _
  exact tbnd (tbnd works_tells fun b hb => tret (R := fun b => b = true) hb) fun b hb => tret hb
end Go.Proofs.YtmbgmefmkjeahaaDoor.Rt
