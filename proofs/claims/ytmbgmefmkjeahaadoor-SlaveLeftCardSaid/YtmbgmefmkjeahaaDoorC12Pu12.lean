/- What the pure function of a law comes to. Under no conditions. -/
import Derived.Test.YtmbgmefmkjeahaaDoorC12L12
import Derived.Test.YtmbgmefmkjeahaaDoorC12PU
set_option linter.unusedVariables false
set_option linter.unusedSimpArgs false
set_option maxRecDepth 100000
set_option maxHeartbeats 4000000
namespace Go.Proofs.YtmbgmefmkjeahaaDoor.Rt
open Go Go.RowKit
def keptN (l : SlaveLine) (S : List Int) : Nat → List SlaveEvent
  | 0 => []
  | i + 1 => if (i : Int) ∈ S then keptN l S i else keptN l S i ++ [evD l i]
def withoutL (l : SlaveLine) (S : List Int) : SlaveLine := ⟨l.Ring, l.Starts, keptN l S l.Events.length⟩
theorem kept_len (l : SlaveLine) (S : List Int) : ∀ i, (keptN l S i).length ≤ i
  | 0 => Nat.le_refl _
  | i + 1 => by
    have := kept_len l S i
    rw [keptN]; split
    · omega
    · simp; omega
theorem kept_mem (l : SlaveLine) (S : List Int) : ∀ i, i ≤ l.Events.length → ∀ x ∈ keptN l S i, x ∈ l.Events
  | 0, _, x, h => by cases h
  | i + 1, hi, x, h => by
    have ih := kept_mem l S i (by omega)
    rw [keptN] at h
    split at h
    · exact ih x h
    · rcases List.mem_append.1 h with h | h
      · exact ih x h
      · rw [List.mem_singleton.1 h, evD_get (by omega)]; exact List.getElem_mem _
theorem kept_pre (l : SlaveLine) (S : List Int) (i : Nat) : ∀ d, ∃ t, keptN l S (i + d) = keptN l S i ++ t
  | 0 => ⟨[], by simp⟩
  | d + 1 => by
    obtain ⟨t, e⟩ := kept_pre l S i d
    rw [← Nat.add_assoc, keptN]
    split
    · exact ⟨t, e⟩
    · exact ⟨t ++ [evD l (i + d)], by rw [e, List.append_assoc]⟩
theorem kept_at (l : SlaveLine) (S : List Int) {i : Nat} (hi : i < l.Events.length) (h : (i : Int) ∉ S) : (withoutL l S).Events[(keptN l S i).length]? = some (evD l i) := by
  obtain ⟨t, e⟩ := kept_pre l S (i + 1) (l.Events.length - (i + 1))
  rw [show i + 1 + (l.Events.length - (i + 1)) = l.Events.length by omega] at e
  show (keptN l S l.Events.length)[_]? = _
  rw [e, keptN, if_neg h, List.append_assoc, List.getElem?_append_right (Nat.le_refl _)]
  simp
theorem without_eq (l : SlaveLine) (hl : l.Events.length ≤ 1000) (S : List Int) (hS : (S.length : Int) ≤ 9223372036854775807) : w7without l S = some (withoutL l S) := by
  unfold w7without
  refine loopU_for (fun i (s : Int × List SlaveEvent) => s = ((i : Int), keptN l S i)) l.Events.length (Post := fun o => o = some (withoutL l S)) rfl ?_ ?_
  · rintro i _ hi rfl
    have := kept_len l S i
    refine ⟨_, ?_, rfl⟩
    unfold w7without_b1
    dsimp only
    obtain ⟨r, h1, h2⟩ := find_neg S (i : Int) hS
    rw [lt_t hi, cond_true, h1, bind_s, h2, wr_succ (by omega), keptN]
    by_cases hm : (i : Int) ∈ S
    · rw [decide_eq_true hm, if_pos hm]; rfl
    · rw [decide_eq_false hm, if_neg hm, Bool.not_false, cond_true, idx_get hi, bind_s, if_pos (by simp only [List.length_singleton]; unfold lim; omega), evD_get hi]
  · rintro _ rfl
    refine ⟨_, ?_, rfl⟩
    unfold w7without_b1
    dsimp only
    rw [lt_f, cond_false]; rfl
theorem without_ok {l : SlaveLine} (hS : OkS l) (S : List Int) : OkS (withoutL l S) :=
  ⟨hS.r1, hS.r2, hS.n1, hS.n2, by have := kept_len l S l.Events.length; have := hS.e; show (keptN l S l.Events.length).length ≤ 10; omega, hS.s, fun x hx => hS.ev x (kept_mem l S _ (Nat.le_refl _) x hx)⟩
theorem without_Ok {l : SlaveLine} (h : Ok_SlaveLine l) (S : List Int) : Ok_SlaveLine (withoutL l S) :=
  ⟨h.1, h.2.1, by have := kept_len l S l.Events.length; have := h.2.2.1; show ((keptN l S l.Events.length).length : Int) ≤ _; omega, fun x hx => h.2.2.2 x (kept_mem l S _ (Nat.le_refl _) x hx)⟩
theorem without_sto {l : SlaveLine} {S : List Int} (hsub : ∀ i, i < l.Events.length → (i : Int) ∈ S → (evD l i).Kind = 2) {w : Nat} (hw : w < l.Starts.length) : ∀ i, i ≤ l.Events.length → ∀ s, (∃ st, Sto l w (woS S) i st s) ↔ ∃ st, Sto (withoutL l S) w wo0 (keptN l S i).length st s
  | 0, _, s => by
    constructor
    · rintro ⟨st, h⟩; cases h with | zero _ => exact ⟨[], Sto.zero (l := withoutL l S) hw⟩
    · rintro ⟨st, h⟩
      generalize hk : (keptN l S 0).length = k at h
      cases h with
      | zero _ => exact ⟨[], Sto.zero hw⟩
      | look => simp [keptN] at hk
      | send => simp [keptN] at hk
  | i + 1, hi, s => by
    have hi' : i < l.Events.length := by omega
    have ih := without_sto hsub hw i (by omega)
    have hev := evD_get hi'
    rw [keptN]
    by_cases hm : (i : Int) ∈ S
    · rw [if_pos hm, ← ih]
      have hk := hsub i hi' hm
      rw [hev] at hk
      constructor
      · rintro ⟨st, h⟩
        cases h with
        | look _ _ _ h => exact ⟨_, h⟩
        | send _ hk' => exact absurd hk hk'
      · rintro ⟨st, h⟩
        exact ⟨_, Sto.look hi' hk (fun h2 => by unfold woS at h2; rw [decide_eq_true hm] at h2; cases h2) h⟩
    · rw [if_neg hm, List.length_append, List.length_singleton]
      have hat := kept_at l S hi' hm
      rw [hev] at hat
      obtain ⟨hk', e⟩ := List.getElem?_eq_some_iff.1 hat
      have hwf : woS S i = false := decide_eq_false hm
      constructor
      · rintro ⟨st, h⟩
        cases h with
        | look _ hk hs h =>
          obtain ⟨st', h'⟩ := (ih s).1 ⟨_, h⟩
          exact ⟨_, Sto.look hk' (by rw [e]; exact hk) (fun _ => by rw [e]; exact hs hwf) h'⟩
        | @send _ st0 s0 ls _ hk h hl hn =>
          obtain ⟨st', h'⟩ := (ih s0).1 ⟨_, h⟩
          have := Sto.send hk' (by rw [e]; exact hk) h' (ls := ls) (by rw [e]; exact hl) (by rw [e]; exact hn)
          rw [e] at this
          exact ⟨_, this⟩
      · rintro ⟨st, h⟩
        cases h with
        | look _ hk hs h =>
          rw [e] at hk hs
          obtain ⟨st', h'⟩ := (ih s).2 ⟨_, h⟩
          exact ⟨_, Sto.look hi' hk (fun _ => hs rfl) h'⟩
        | @send _ st0 s0 ls _ hk h hl hn =>
          rw [e] at hk hl hn
          obtain ⟨st', h'⟩ := (ih s0).2 ⟨_, h⟩
          rw [e]
          exact ⟨_, Sto.send hi' hk h' hl hn⟩
theorem without_can {l : SlaveLine} (hS : OkS l) {S : List Int} (hsub : S.Sublist (looksF l)) : allCan (withoutL l S) wo0 = okAll l S := by
  have hS' := without_ok hS S
  have h : ∀ w, w < l.Starts.length → canB (withoutL l S) w wo0 = canB l w (woS S) := by
    intro w hw
    rw [Bool.eq_iff_iff, canB_iff hS' hw, canB_iff hS hw]
    have key := without_sto (S := S) (fun i hi hm => by
      obtain ⟨k, e, _, hk⟩ := (mem_looks l _ _).1 (hsub.subset hm)
      obtain rfl : k = i := by omega
      exact hk) hw l.Events.length (Nat.le_refl _)
    exact ⟨fun ⟨st, s, h⟩ => by obtain ⟨st', h'⟩ := (key s).2 ⟨st, h⟩; exact ⟨st', s, h'⟩, fun ⟨st, s, h⟩ => by obtain ⟨st', h'⟩ := (key s).1 ⟨st, h⟩; exact ⟨st', s, h'⟩⟩
  unfold okAll
  rw [Bool.eq_iff_iff, allCan_iff, allCan_iff]
  exact ⟨fun g w hw => by rw [← h w hw]; exact g w hw, fun g w hw => by rw [h w hw]; exact g w hw⟩
theorem lawAll_tells {l : SlaveLine} (h1 : Ok_SlaveLine l) (hS : OkS l) : Tells (w7all l) (fun b => b = allCan l wo0) := by
  unfold w7all
  refine tfor0 l.Starts.length (fun w s => s = (false, (w : Int)) ∧ ∀ j, j < w → canB l j wo0 = true) ⟨rfl, fun j h => by omega⟩ ?_ ?_
  · rintro w _ hw ⟨rfl, hj⟩
    unfold w7all_b1
    dsimp only
    rw [lt_t hw, cond_true]
    refine tbnd (Can_tells h1 (w : Int)) fun r e => ?_
    rw [canF_of hS hw] at e
    cases hc : canB l w wo0 with
    | false =>
      rw [hc] at e
      subst e
      refine tend (tret ?_)
      rw [eq_comm, Bool.eq_false_iff, Ne, allCan_iff]
      intro h
      rw [h w hw] at hc; cases hc
    | true =>
      rw [hc] at e
      subst e
      refine tnxt ⟨by rw [wr_succ (by have := hS.n2; omega)], fun j hj2 => ?_⟩
      by_cases e : j = w
      · subst e; exact hc
      · exact hj j (by omega)
  · rintro _ ⟨rfl, hj⟩
    unfold w7all_b1
    dsimp only
    rw [lt_f, cond_false]
    exact tend (tret (allCan_iff.2 hj).symm)
def othersN (l : SlaveLine) (t : Nat) : Nat → List Int
  | 0 => []
  | i + 1 => if t.testBit i && isLook l i then othersN l t i ++ [(i : Int)] else othersN l t i
theorem others_sub (l : SlaveLine) (t : Nat) : ∀ m, (othersN l t m).Sublist (looksN l m)
  | 0 => List.Sublist.refl _
  | m + 1 => by
    have ih := others_sub l t m
    rw [othersN, looksN_succ]
    cases hb : t.testBit m <;> cases hk : isLook l m
    · exact ih
    · exact ih.trans (List.sublist_append_left _ _)
    · exact ih
    · exact List.Sublist.append ih (List.Sublist.refl _)
theorem sub_bd {l : SlaveLine} {S : List Int} (h : S.Sublist (looksF l)) : S.length ≤ l.Events.length := by
  have := h.length_le
  have := looksN_len l l.Events.length
  unfold looksF at *
  omega
theorem pure_12 (l : SlaveLine) (set : Int) (h1 : Ok_SlaveLine l) (h2 : InR set) : w7SlaveLeft l set (fun b => b = true) := by
  refine Tells.is (m := w7SlaveLeft l set) ?_
  unfold w7SlaveLeft
  refine tbnd (Wrong_tells h1) fun r hr => tdet (sound_eq l h1) ?_
  cases hg : goodB l with
  | false =>
    rw [hr.bad hg]
    exact fin_tells rfl
  | true =>
    obtain ⟨hr2, hL⟩ := hr.good hg
    obtain ⟨S, c⟩ := r
    simp only at hr2 hL
    subst hr2
    have hS := OkS.of hg
    have h10 := hS.e
    have hsl := sub_bd hL.sub
    rw [Bool.not_true, cond_false]
    refine tdet (a := false) ?_ ?_
    · show ((r0Climbs S (l.Events.length : Int)).bind _) = _
      rw [Climbs_eq (by omega) (by omega) (by omega), bind_s, (climb_loss _ _).2 ⟨(looks_inc l _).sublist hL.sub, fun k hk => ?_⟩]
      · rfl
      · obtain ⟨j, rfl, hj, _⟩ := (mem_looks l _ _).1 (hL.sub.subset hk)
        omega
    · rw [cond_false]
      refine tbnd (R := fun b => b = false) (tdet (without_eq l (by omega) S (by omega)) (tbnd (lawAll_tells (without_Ok h1 S) (without_ok hS S)) fun b hb => tret (by rw [hb, without_can hS hL.sub, hL.ok]; rfl))) fun b hb => ?_
      subst hb
      rw [cond_false]
      refine tbnd (R := fun b => b = false) (tbnd (lawAll_tells h1 hS) fun b hb => tret ?_) fun b hb => ?_
      · have he : okAll l [] = allCan l wo0 := by
          unfold okAll
          rw [show woS [] = wo0 from by funext i; simp [woS, wo0]]
        rw [hb, ← he, beqI]
        have hiff : okAll l [] = true ↔ S = [] := by
          constructor
          · intro h
            have := hL.le [] (List.nil_sublist _) h
            rcases this with h | ⟨h, _⟩
            · simp at h
            · exact List.eq_nil_of_length_eq_zero h
          · rintro rfl; exact hL.ok
        by_cases h0 : S = []
        · rw [hiff.2 h0, h0]; rfl
        · have : okAll l [] = false := by rw [Bool.eq_false_iff]; exact fun h => h0 (hiff.1 h)
          rw [this]
          have : S.length ≠ 0 := fun h => h0 (List.eq_nil_of_length_eq_zero h)
          simp; exact h0
      · subst hb
        rw [cond_false]
        refine tfor0 S.length (fun i s => s = (false, (i : Int))) rfl ?_ ?_
        · rintro i _ hi rfl
          unfold w7SlaveLeft_b1
          dsimp only
          obtain ⟨k, e, hk, hk2⟩ := (mem_looks l _ _).1 (hL.sub.subset (List.getElem_mem hi))
          rw [lt_t hi, cond_true]
          refine tdet (idx_get hi) (tdet (by rw [e]; exact idx_get hk) ?_)
          rw [evD_get hk] at hk2
          rw [bneI, decide_eq_false (fun h => h hk2), cond_false]
          exact tnxt (by rw [wr_succ (by omega)])
        · rintro _ rfl
          unfold w7SlaveLeft_b1
          dsimp only
          rw [lt_f, cond_false]
          refine tend ?_
          obtain ⟨t, et, ht⟩ := rest_nat set (m := 1024) (by decide) (by decide)
          refine tfor0 l.Events.length (fun i s => s = (othersN l t i, (i : Int))) rfl ?_ ?_
          · rintro i _ hi rfl
            unfold w7SlaveLeft_b2
            dsimp only
            have hol := (others_sub l t i).length_le
            have hll := looksN_len l i
            rw [lt_t hi, cond_true]
            refine tdet et (tdet (In_eq ht (by omega)) (tdet (a := t.testBit i && isLook l i) ?_ ?_))
            · unfold isLook
              rw [idx_get hi, bind_s, beqI, evD_get hi, cond_b_some]
            · rw [wr_succ (by omega), othersN]
              cases (t.testBit i && isLook l i) with
              | true => exact tgrd (by simp only [List.length_singleton]; unfold lim; omega) (tnxt rfl)
              | false => exact tnxt rfl
          · rintro _ rfl
            unfold w7SlaveLeft_b2
            dsimp only
            rw [lt_f, cond_false]
            refine tend ?_
            have hos : (othersN l t l.Events.length).Sublist (looksF l) := others_sub l t _
            have hol := sub_bd hos
            generalize othersN l t l.Events.length = T at hos hol
            have hrest : ¬ leS S T → Tells (ND.det (w7without l T) fun rv_15 =>
                (ND.bnd (w7all rv_15) fun rv_16 =>
                (ND.bnd (cond (!rv_16) ((ND.bnd (w7works) fun rv_18 => ND.ret rv_18)) (ND.ret false)) fun t_7 => ND.ret t_7))) (fun b => b = true) := by
              intro hn
              refine tdet (without_eq l (by omega) T (by omega)) (tbnd (lawAll_tells (without_Ok h1 T) (without_ok hS T)) fun b hb => fin_tells ?_)
              rw [hb, without_can hS hos]
              cases hok : okAll l T with
              | false => rfl
              | true => exact absurd (hL.le T hos hok) hn
            by_cases c1 : S.length < T.length
            · refine tdet (a := true) (by rw [decide_eq_true (show (T.length : Int) > (S.length : Int) by omega), cond_true]) ?_
              exact work1_tells
            · rw [decide_eq_false (show ¬ (T.length : Int) > (S.length : Int) by omega), cond_false, beqI]
              by_cases c2 : T.length = S.length
              · rw [decide_eq_true (show (T.length : Int) = (S.length : Int) by omega), cond_true, Ahead_eq T S c2 (by omega), bind_s, bind_s]
                refine tdet rfl ?_
                cases hlx : lexB T S with
                | false => exact work1_tells
                | true =>
                  rw [Bool.not_true, cond_false]
                  refine hrest ?_
                  rintro (h | ⟨_, h | h⟩)
                  · omega
                  · rw [h, lex_irr] at hlx; cases hlx
                  · exact lex_asym h hlx
              · rw [decide_eq_false (show ¬ (T.length : Int) = (S.length : Int) by omega), cond_false, bind_s]
                refine tdet rfl ?_
                rw [cond_false]
                refine hrest ?_
                rintro (h | ⟨h, _⟩)
                · omega
                · omega
end Go.Proofs.YtmbgmefmkjeahaaDoor.Rt
