/- Plain laws of the spare seat: which hours are silent; the chapter's examples. Under the conditions that each names. -/
import Derived.Test.YtidmdgjgpmeecaaDoorC14PH
set_option linter.unusedVariables false
set_option linter.unusedSimpArgs false
set_option maxRecDepth 100000
set_option maxHeartbeats 4000000
namespace Go.Proofs.YtidmdgjgpmeecaaDoor.Rt
open Go Go.RowKit
def speakF (plan : List SpareTurn) (h : Int) (m : Nat) : Nat := (List.range m).foldl (fun sp i => if (tk plan i).Over ≤ h then i else sp) 0
theorem speak_succ (plan : List SpareTurn) (h : Int) (m : Nat) : speakF plan h (m + 1) = if (tk plan m).Over ≤ h then m else speakF plan h m := by simp [speakF, List.range_succ]
def lifeF (lives : List Int) (i : Nat) : Int := lives.getD i 0
def silentB (plan : List SpareTurn) (lives : List Int) (h : Nat) : Bool := decide ((tk plan (speakF plan h plan.length)).Start + lifeF lives (speakF plan h plan.length) ≤ (h : Int))
def silentN (plan : List SpareTurn) (lives : List Int) (m : Nat) : List Int := ((List.range m).filter (silentB plan lives)).map fun (h : Nat) => (h : Int)
theorem silentN_succ (plan : List SpareTurn) (lives : List Int) (m : Nat) : silentN plan lives (m + 1) = if silentB plan lives m = true then silentN plan lives m ++ [(m : Int)] else silentN plan lives m := by
  unfold silentN
  rw [List.range_succ, List.filter_append, List.map_append]
  cases h : silentB plan lives m <;> simp [List.filter_cons, h]
theorem silentN_len (plan : List SpareTurn) (lives : List Int) (m : Nat) : (silentN plan lives m).length ≤ m := by
  have := List.length_filter_le (silentB plan lives) (List.range m)
  simp only [silentN, List.length_map, List.length_range] at this ⊢
  exact this
def livesB (plan : List SpareTurn) (lives : List Int) : Bool := decide (lives.length = plan.length) && lives.all fun n => inB n 0 500
def silentF (s : SpareStore) (plan : List SpareTurn) (lives : List Int) : List Int × Int := if goodB s then if planB s plan s.Hours && livesB plan lives then (silentN plan lives s.Hours.toNat, 0) else ([], 81) else ([], 80)
theorem speak_lt (plan : List SpareTurn) (h : Int) : ∀ m, 0 < m → speakF plan h m < m
  | 0, h0 => by omega
  | m + 1, _ => by
    rw [speak_succ]
    split
    · omega
    · by_cases h0 : m = 0
      · subst h0; exact (show 0 < 1 by decide)
      · have := speak_lt plan h m (by omega); omega
theorem speak_spec {plan : List SpareTurn} {hours : Int} (hg : Grow plan hours) {h : Int} (h0 : 0 ≤ h) : ∀ m, 0 < m → m ≤ plan.length → (tk plan (speakF plan h m)).Over ≤ h ∧ ∀ i, speakF plan h m < i → i < m → h < (tk plan i).Over
  | 0, h0, _ => by omega
  | m + 1, _, hm => by
    rw [speak_succ]
    split
    · rename_i hle; exact ⟨hle, fun i h1 h2 => by omega⟩
    · rename_i hle
      by_cases h0' : m = 0
      · subst h0'
        have := hg.zero (by omega)
        omega
      · obtain ⟨a, b⟩ := speak_spec hg h0 m (by omega) (by omega)
        refine ⟨a, fun i h1 h2 => ?_⟩
        by_cases e : i = m
        · subst e; omega
        · exact b i h1 (by omega)
theorem Grow.lt {plan : List SpareTurn} {hours : Int} (hg : Grow plan hours) {i : Nat} : ∀ d, i + d + 1 < plan.length → (tk plan i).Over < (tk plan (i + d + 1)).Over
  | 0, h => by
    have := hg.more i (by omega)
    unfold untilF at this
    rw [if_pos h] at this; exact this
  | d + 1, h => by
    have h1 := hg.lt (i := i) d (by omega)
    have h2 := hg.more (i + d + 1) (by omega)
    unfold untilF at h2
    rw [if_pos (by omega)] at h2
    have : i + (d + 1) + 1 = i + d + 1 + 1 := by omega
    rw [this]; omega
theorem Grow.lt' {plan : List SpareTurn} {hours : Int} (hg : Grow plan hours) {i j : Nat} (h : i < j) (hj : j < plan.length) : (tk plan i).Over < (tk plan j).Over := by
  have := hg.lt (i := i) (j - i - 1) (by omega)
  rwa [show i + (j - i - 1) + 1 = j by omega] at this
theorem speak_uniq {plan : List SpareTurn} {hours : Int} (hg : Grow plan hours) {h : Int} (h0 : 0 ≤ h) (hn : 0 < plan.length) {i : Nat} (hi : i < plan.length) (h1 : (tk plan i).Over ≤ h) (h2 : h < untilF plan hours i ∨ i + 1 = plan.length) : speakF plan h plan.length = i := by
  obtain ⟨a, b⟩ := speak_spec hg h0 plan.length hn (Nat.le_refl _)
  have hl := speak_lt plan h plan.length hn
  generalize speakF plan h plan.length = j at *
  rcases Nat.lt_trichotomy i j with hlt | he | hgt
  · rcases h2 with h2 | h2
    · unfold untilF at h2
      rw [if_pos (by omega)] at h2
      by_cases e : i + 1 = j
      · subst e; omega
      · have := hg.lt' (i := i + 1) (j := j) (by omega) hl; omega
    · omega
  · exact he.symm
  · have := b i hgt hi; omega
theorem lifeF_get {lives : List Int} {i : Nat} (h : i < lives.length) : idx lives (i : Int) = some (lifeF lives i) := by
  rw [idx_get h]; simp [lifeF, List.getD, h]
theorem lives_bd {plan : List SpareTurn} {lives : List Int} (h : livesB plan lives = true) {i : Nat} (hi : i < plan.length) : i < lives.length ∧ 0 ≤ lifeF lives i ∧ lifeF lives i ≤ 500 := by
  simp only [livesB, Bool.and_eq_true, decide_eq_true_eq] at h
  have h1 : i < lives.length := by omega
  have h2 := List.all_eq_true.1 h.2 _ (List.getElem_mem h1)
  simp only [inB, Bool.and_eq_true, decide_eq_true_eq] at h2
  have : lifeF lives i = lives[i] := by simp [lifeF, List.getD, h1]
  rw [this]; exact ⟨h1, h2⟩
theorem start_bd {s : SpareStore} (hs : OkS s) {plan : List SpareTurn} (h : IsPlan s plan s.Hours) {i : Nat} (hi : i < plan.length) : -500 ≤ (tk plan i).Start ∧ (tk plan i).Start ≤ (tk plan i).Over := by
  have t := h.2 i hi
  have hM := ml_ok hs t.m1 t.m2
  have := hM.f1; have := hM.w1; have := t.start; have := t.warm
  omega
theorem contains_eq (lives : List Int) (hl : (lives.length : Int) ≤ 9223372036854775807) : slices_ContainsFunc___int_int_ lives (fun q_z => spare_Silent_1 q_z) = some (!(lives.all fun n => inB n 0 500)) := by
  unfold slices_ContainsFunc___int_int_ slices_IndexFunc___int_int_
  have key : ∀ (k i : Nat), i + k = lives.length → ∃ r, loopU (slices_IndexFunc___int_int__b1 lives fun q_z => spare_Silent_1 q_z) (0, (i : Int)) = some r ∧ decide (r ≥ 0) = !((lives.drop i).all fun n => inB n 0 500) := by
    intro k
    induction k with
    | zero =>
      intro i h
      have e : i = lives.length := by omega
      subst e
      refine ⟨-1, loopU_ext ?_, ?_⟩
      · simp only [slices_IndexFunc___int_int__b1, lt_f, cond_false]
      · simp
    | succ k ih =>
      intro i h
      have hi : i < lives.length := by omega
      rw [← List.getElem_cons_drop hi, List.all_cons]
      have hb : slices_IndexFunc___int_int__b1 lives (fun q_z => spare_Silent_1 q_z) (0, (i : Int)) = cond (!inB lives[i] 0 500) (ext (some (i : Int))) (nxt (0, ((i + 1 : Nat) : Int))) := by
        simp only [slices_IndexFunc___int_int__b1, lt_t hi, cond_true, idx_get hi, bind_s, spare_Silent_1, lies_eq]
        rw [wr_id' (by omega) (by omega)]; rfl
      cases hc : inB lives[i] 0 500 with
      | false =>
        rw [hc] at hb
        exact ⟨(i : Int), loopU_ext hb, by simp⟩
      | true =>
        rw [hc] at hb
        rw [loopU_nxt hb]
        exact ih (i + 1) (by omega)
  obtain ⟨r, h1, h2⟩ := key lives.length 0 (by omega)
  rw [Int.natCast_zero] at h1
  rw [h1]
  simp only [bind_s, h2, List.drop_zero]
theorem silent_step {s : SpareStore} (hs : OkS s) {plan : List SpareTurn} {lives : List Int} (h : IsPlan s plan s.Hours) (hl : livesB plan lives = true) {x : Nat} (hx : (x : Int) < s.Hours) :
    let i := speakF plan x plan.length
    idx plan (i : Int) = some (tk plan i) ∧ idx lives (i : Int) = some (lifeF lives i) ∧ -500 ≤ (tk plan i).Start ∧ (tk plan i).Start ≤ (x : Int) ∧ 0 ≤ lifeF lives i ∧ lifeF lives i ≤ 500 ∧ i < plan.length := by
  have hlt := speak_lt plan x plan.length h.1
  have hsp := speak_spec h.grow (h := (x : Int)) (by omega) plan.length h.1 (Nat.le_refl _)
  obtain ⟨l1, l2, l3⟩ := lives_bd hl hlt
  have hst := start_bd hs h hlt
  exact ⟨tk_get hlt, lifeF_get l1, hst.1, by omega, l2, l3, hlt⟩
theorem Silent_eq (s : SpareStore) (hs : Ok_SpareStore s) (plan : List SpareTurn) (hp : OkL Ok_SpareTurn plan) (lives : List Int) (hl : (lives.length : Int) ≤ 9223372036854775807) : spare_Silent s plan lives = some (silentF s plan lives) := by
  unfold spare_Silent silentF
  rw [spare_Check_eq s hs]
  cases hg : goodB s with
  | false => rfl
  | true =>
    have hS := OkS.of hg
    have h1 := hS.h1; have h2 := hS.h2
    simp only [if_true, bind_s, isPlan_eq hS hp hS.h2, contains_eq lives hl]
    show (bif false then _ else _) = _
    rw [cond_false]
    cases hpl : planB s plan s.Hours with
    | false => rfl
    | true =>
      have hP := (plan_iff s plan s.Hours).1 hpl
      have hlen : ((lives.length : Int) != (plan.length : Int)) = !decide (lives.length = plan.length) := by
        by_cases h : lives.length = plan.length
        · simp [h]
        · rw [decide_eq_false h]; simp; omega
      rw [hlen]
      cases hll : livesB plan lives with
      | false =>
        unfold livesB at hll
        cases hd : decide (lives.length = plan.length) with
        | false => rfl
        | true => rw [hd, Bool.true_and] at hll; rw [hll]; rfl
      | true =>
        have hll' := hll
        simp only [livesB, Bool.and_eq_true] at hll'
        rw [hll'.1, hll'.2]
        show loopU (spare_Silent_b1 s plan lives) ([], 0, 0) = some (silentN plan lives s.Hours.toNat, 0)
        refine loopU_for (fun i (st : List Int × Int × Int) => st.1 = silentN plan lives i ∧ st.2.2 = (i : Int) ∧ ∃ j : Nat, st.2.1 = (j : Int) ∧ j < plan.length ∧ (i = 0 → j = 0) ∧ (0 < i → j = speakF plan ((i : Int) - 1) plan.length)) s.Hours.toNat
          (Post := fun o => o = some (silentN plan lives s.Hours.toNat, 0)) ?_ ?_ ?_
        · exact ⟨rfl, rfl, 0, rfl, hP.1, fun _ => rfl, fun h => by omega⟩
        · rintro i ⟨out, tn, v⟩ hi ⟨ho, hv, j, hj, hjl, hj0, hj1⟩
          simp only at ho hv hj
          subst ho; subst hv; subst hj
          have wi : wr ((i : Int) + 1) = ((i + 1 : Nat) : Int) := wr_id' (by omega) (by omega)
          have wj : wr ((j : Int) + 1) = ((j + 1 : Nat) : Int) := wr_id' (by have := hp.1; omega) (by have := hp.1; omega)
          obtain ⟨q1, q2, q3, q4, q5, q6, q7⟩ := silent_step hS hP hll (x := i) (by omega)
          -- the turn
          have hturn : (spare_Silent_b1 s plan lives) (silentN plan lives i, (j : Int), (i : Int)) = spare_Silent_k2 plan lives (silentN plan lives i) (i : Int) ((speakF plan i plan.length : Nat) : Int) := by
            have hd : decide ((i : Int) < s.Hours) = true := by simp; omega
            simp only [spare_Silent_b1, hd, cond_true, wj]
            have hG := hP.grow
            -- where j stands
            have hjo : (tk plan j).Over ≤ (i : Int) ∧ (j + 1 < plan.length → (i : Int) ≤ (tk plan (j + 1)).Over) := by
              by_cases h0 : i = 0
              · rw [hj0 h0, h0]
                exact ⟨by rw [hG.zero hP.1]; exact Int.le_refl _, fun h => hG.lo 1 h⟩
              · obtain ⟨a, b⟩ := speak_spec hG (h := (i : Int) - 1) (by omega) plan.length hP.1 (Nat.le_refl _)
                rw [← hj1 (by omega)] at a b
                exact ⟨by omega, fun h => by have := b (j + 1) (by omega) h; omega⟩
            by_cases hl1 : j + 1 < plan.length
            · rw [lt_t hl1, tk_get hl1]
              simp only [cond_true, bind_s]
              by_cases hov : (tk plan (j + 1)).Over ≤ (i : Int)
              · rw [show decide ((tk plan (j + 1)).Over ≤ (i : Int)) = true by simpa using hov, cond_true]
                have : speakF plan i plan.length = j + 1 := by
                  refine speak_uniq hG (by omega) hP.1 hl1 hov ?_
                  by_cases hl2 : j + 1 + 1 = plan.length
                  · exact .inr hl2
                  · left
                    have h3 := hG.more (j + 1) hl1
                    have h4 := hjo.2 hl1
                    omega
                rw [this]
              · rw [show decide ((tk plan (j + 1)).Over ≤ (i : Int)) = false by simpa using hov, cond_false]
                have : speakF plan i plan.length = j := by
                  refine speak_uniq hG (by omega) hP.1 hjl hjo.1 (.inl ?_)
                  unfold untilF; rw [if_pos hl1]; omega
                rw [this]
            · rw [show decide (((j + 1 : Nat) : Int) < (plan.length : Int)) = false by simp; omega]
              simp only [cond_false, bind_s]
              have : speakF plan i plan.length = j := speak_uniq hG (by omega) hP.1 hjl hjo.1 (.inr (by omega))
              rw [this]
          rw [hturn]
          unfold spare_Silent_k2
          rw [q1, q2]
          simp only [bind_s, lies_eq]
          rw [wr_id' (n := (tk plan (speakF plan i plan.length)).Start + lifeF lives (speakF plan i plan.length)) (by omega) (by omega), wr_id' (by omega) (by omega), wi]
          have hsl := silentN_len plan lives i
          have hin : (!inB (i : Int) (tk plan (speakF plan i plan.length)).Start ((tk plan (speakF plan i plan.length)).Start + lifeF lives (speakF plan i plan.length) - 1)) = silentB plan lives i := by
            unfold inB silentB
            rw [show decide ((tk plan (speakF plan i plan.length)).Start ≤ (i : Int)) = true by simpa using q4, Bool.true_and]
            by_cases h : (tk plan (speakF plan i plan.length)).Start + lifeF lives (speakF plan i plan.length) ≤ (i : Int)
            · rw [decide_eq_true h, decide_eq_false (by omega)]; rfl
            · rw [decide_eq_false h, decide_eq_true (by omega)]; rfl
          rw [hin, if_pos (by simp only [List.length_singleton, lim]; omega)]
          refine ⟨(silentN plan lives (i + 1), ((speakF plan i plan.length : Nat) : Int), ((i + 1 : Nat) : Int)), ?_, rfl, rfl, _, rfl, q7, fun h => by omega, fun _ => by simp⟩
          rw [silentN_succ]
          cases silentB plan lives i <;> rfl
        · rintro ⟨out, tn, v⟩ ⟨ho, hv, _⟩
          simp only at ho hv
          subst ho; subst hv
          have hd : decide (((s.Hours.toNat : Nat) : Int) < s.Hours) = false := by simp; omega
          exact ⟨some (silentN plan lives s.Hours.toNat, 0), by simp only [spare_Silent_b1, hd, cond_false], rfl⟩
theorem Alike_eq (l m : List Int) (hl : (l.length : Int) ≤ 1000000000000) : r0Alike l m = some (decide (l = m)) := by
  unfold r0Alike
  by_cases he : l.length = m.length
  · rw [show ((l.length : Int) == (m.length : Int)) = true by simp [he], cond_true]
    have key : ∀ (k i : Nat), i + k = l.length → ∃ r, loopU (r0First_b1 l m) (i : Int) = some r ∧ (r == (l.length : Int)) = decide (l.drop i = m.drop i) := by
      intro k
      induction k with
      | zero =>
        intro i h
        have e : i = l.length := by omega
        subst e
        refine ⟨(l.length : Int), loopU_ext ?_, ?_⟩
        · simp only [r0First_b1, lt_f, Bool.false_and, cond_false, bind_s]
        · rw [List.drop_of_length_le (Nat.le_refl _), List.drop_of_length_le (by omega)]; simp
      | succ k ih =>
        intro i h
        have hi : i < l.length := by omega
        have hm : i < m.length := by omega
        rw [← List.getElem_cons_drop hi, ← List.getElem_cons_drop hm]
        have hb : r0First_b1 l m (i : Int) = cond (l[i] == m[i]) (nxt ((i + 1 : Nat) : Int)) (ext (some (i : Int))) := by
          simp only [r0First_b1, lt_t hi, lt_t hm, Bool.and_self, cond_true, idx_get hi, idx_get hm, bind_s]
          rw [wr_id' (by omega) (by omega)]; rfl
        by_cases hc : l[i] = m[i]
        · rw [show (l[i] == m[i]) = true by simpa using hc] at hb
          obtain ⟨r, h1, h2⟩ := ih (i + 1) (by omega)
          refine ⟨r, by rw [loopU_nxt hb]; exact h1, ?_⟩
          rw [h2]; exact decide_eq_decide.2 ⟨fun e => by rw [hc, e], fun e => (List.cons.inj e).2⟩
        · rw [show (l[i] == m[i]) = false by simpa using hc] at hb
          refine ⟨(i : Int), loopU_ext hb, ?_⟩
          have hne : ¬ (l[i] :: l.drop (i + 1) = m[i] :: m.drop (i + 1)) := fun e => hc (List.cons.inj e).1
          rw [decide_eq_false hne, beq_eq_false_iff_ne]; omega
    obtain ⟨r, h1, h2⟩ := key l.length 0 (by omega)
    rw [Int.natCast_zero] at h1
    unfold r0First
    rw [h1]
    simp only [bind_s, h2, List.drop_zero]
  · rw [show ((l.length : Int) == (m.length : Int)) = false by simp; omega]
    have : l ≠ m := fun e => he (by rw [e])
    simp only [cond_false, bind_s, decide_eq_false this]
def storeX (h : Int) : SpareStore := ⟨h, 10, [⟨-10, 2, ⟨12, 20⟩, 1⟩, ⟨5, 3, ⟨9, 30⟩, 0⟩, ⟨-4, 4, ⟨10, 10⟩, 3⟩]⟩
def turnsX : List SpareTurn := [⟨0, -2, 0⟩, ⟨1, 7, 10⟩, ⟨2, 12, 16⟩]
theorem inr_small {n : Int} (h1 : -1000000000 ≤ n) (h2 : n ≤ 1000000000) : InR n := ⟨by omega, by omega⟩
theorem ok_storeX {h : Int} (h1 : 0 ≤ h) (h2 : h ≤ 1000) : Ok_SpareStore (storeX h) := by
  refine ⟨inr_small (by show -1000000000 ≤ h; omega) (by show h ≤ _; omega), inr_small (by show (-1000000000 : Int) ≤ 10; decide) (by show (10 : Int) ≤ _; decide), ⟨by simp [storeX], ?_⟩⟩
  intro x hx
  simp only [storeX, List.mem_cons, List.not_mem_nil, or_false] at hx
  rcases hx with rfl | rfl | rfl <;> exact ⟨inr_small (by decide) (by decide), inr_small (by decide) (by decide), ⟨inr_small (by decide) (by decide), inr_small (by decide) (by decide)⟩, inr_small (by decide) (by decide)⟩
theorem ok_turnsX : OkL Ok_SpareTurn turnsX := by
  refine ⟨by simp [turnsX], ?_⟩
  intro x hx
  simp only [turnsX, List.mem_cons, List.not_mem_nil, or_false] at hx
  rcases hx with rfl | rfl | rfl <;> exact ⟨inr_small (by decide) (by decide), inr_small (by decide) (by decide), inr_small (by decide) (by decide)⟩
theorem store_eq (h : Int) : remontoirlaw08_store h = some (storeX h) := rfl
theorem turns_eq : remontoirlaw08_turns = some turnsX := rfl
theorem x16 : goodB (storeX 16) = true := by decide +kernel
theorem works_eq : remontoirlaw08_works = some true := by
  have h20 := ok_storeX (h := 20) (by decide) (by decide)
  have h16 := ok_storeX (h := 16) (by decide) (by decide)
  have h6 := ok_storeX (h := 6) (by decide) (by decide)
  have e1 : lastsF (storeX 20) 2 = (3, 6, 0) := by decide +kernel
  have e2 : isPlanF (storeX 20) turnsX = (true, 0) := by decide +kernel
  have e3 : fewestF (storeX 20) = (3, 0) := by decide +kernel
  have e4 : fewF (storeX 16) = 2 := by decide +kernel
  have e5 : reachF (storeX 20) = (22, 0) := by decide +kernel
  have e6 : needF (storeX 20) = ([0, 1, 2], 0) := by decide +kernel
  have e7 : pairF (storeX 6) = (2, 0) := by decide +kernel
  have e8 : silentF (storeX 20) turnsX [12, 8, 10] = ([15], 0) := by decide +kernel
  rcases Plan_good h16 (OkS.of x16) with ⟨h, _⟩ | ⟨_, l, hp, _, hl⟩
  · rw [e4] at h; cases h
  · rw [e4] at hl
    unfold remontoirlaw08_works
    simp only [store_eq, turns_eq, bind_s, Lasts_eq _ h20, IsPlan_eq _ h20 _ ok_turnsX, Fewest_eq _ h20, hp, Reach_eq _ h20, Need_eq _ h20, Pair_eq _ h6, Silent_eq _ h20 _ ok_turnsX [12, 8, 10] (by decide), e1, e2, e3, e5, e6, e7, e8, hl,
      Alike_eq [0, 1, 2] [0, 1, 2] (by decide), Alike_eq [15] [15] (by decide)]
    rfl
end Go.Proofs.YtidmdgjgpmeecaaDoor.Rt
