/- Plain laws of the line seat, part 12: a way that is truly taken. Under the conditions that each names. -/
import Derived.Test.YthdbokigcfbgeaaDoorC6QK
set_option linter.unusedVariables false
set_option linter.unusedSimpArgs false
set_option maxRecDepth 100000
set_option maxHeartbeats 4000000
namespace Go.Proofs.YthdbokigcfbgeaaDoor.Rt
open Go Go.RowKit
def trkV (n : LineNet) : Int → List Int → List Int → Option (Int × List Int)
  | at_, V, [] => some (at_, V)
  | at_, V, e :: w => match oth n at_ e.toNat with
    | none => none
    | some t => if 0 ≤ e ∧ t ∉ V then trkV n t (t :: V) w else none
theorem trkV_fst {n : LineNet} : ∀ (w : List Int) (at_ : Int) (V : List Int), (trkV n at_ V w).map (·.1) = trk n at_ V w
  | [], _, _ => rfl
  | e :: w, at_, V => by
    simp only [trk, trkV]
    rcases oth n at_ e.toNat with _ | t
    · rfl
    · dsimp only
      split
      · exact trkV_fst w t (t :: V)
      · rfl
theorem trkV_trk {n : LineNet} {w : List Int} {at_ : Int} {V : List Int} {p : Int × List Int} (h : trkV n at_ V w = some p) : trk n at_ V w = some p.1 := by
  rw [← trkV_fst, h]; rfl
theorem trk_trkV {n : LineNet} {w : List Int} {at_ : Int} {V : List Int} {e : Int} (h : trk n at_ V w = some e) : ∃ U, trkV n at_ V w = some (e, U) := by
  rw [← trkV_fst] at h
  cases hv : trkV n at_ V w with
  | none => rw [hv] at h; cases h
  | some p =>
    rw [hv] at h
    have : p.1 = e := Option.some.inj h
    exact ⟨p.2, by rw [← this]⟩
theorem trkV_snoc {n : LineNet} : ∀ (w : List Int) (at_ : Int) (V : List Int) (e : Int), trkV n at_ V (w ++ [e]) = (trkV n at_ V w).bind fun p => match oth n p.1 e.toNat with | none => none | some t => if 0 ≤ e ∧ t ∉ p.2 then some (t, t :: p.2) else none
  | [], _, _, _ => rfl
  | a :: w, at_, V, e => by
    simp only [List.cons_append, trkV]
    rcases oth n at_ a.toNat with _ | t
    · rfl
    · dsimp only
      split
      · exact trkV_snoc w t (t :: V) e
      · rfl
theorem trkV_end {n : LineNet} (hS : OkS n) : ∀ (w : List Int) (at_ : Int) (V : List Int) (p : Int × List Int), 0 ≤ at_ → at_ < n.Exchanges → trkV n at_ V w = some p → 0 ≤ p.1 ∧ p.1 < n.Exchanges
  | [], at_, V, p, h0, h1, h => by
    simp only [trkV, Option.some.injEq] at h
    subst h; exact ⟨h0, h1⟩
  | e :: w, at_, V, p, h0, h1, h => by
    simp only [trkV] at h
    rcases ho : oth n at_ e.toNat with _ | t
    · rw [ho] at h; cases h
    · rw [ho] at h
      dsimp only at h
      obtain ⟨k, rfl, hk, _⟩ := oth_nat hS ho
      split at h
      · exact trkV_end hS w _ _ p (by omega) hk h
      · cases h
theorem gone_k3_eq {n : LineNet} (hS : OkS n) {way : List Int} {at_ : Int} {V : List Int} {t : Nat} {k r : Nat} (hk : k ≤ 100) (hw : way.length ≤ 100) (hB : Bits t V) (hr : r < n.Lines.length) :
    remontoirlaw06_gone_k3 way at_ (t : Int) (k : Int) (r : Int) ((oth n at_ r).getD (-1)) = match oth n at_ r with
      | none => nxt (way, at_, (t : Int), ((k + 1 : Nat) : Int))
      | some x => if x ∈ V then nxt (way, at_, (t : Int), ((k + 1 : Nat) : Int)) else nxt (way ++ [(r : Int)], x, ((t ||| 2 ^ x.toNat : Nat) : Int), ((k + 1 : Nat) : Int)) := by
  unfold remontoirlaw06_gone_k3
  rw [wr_succ (by omega)]
  rcases ho : oth n at_ r with _ | x
  · rw [Option.getD_none, decide_eq_false (show ¬ (-1 : Int) ≥ 0 by decide)]; rfl
  · obtain ⟨j, rfl, hj, hj7⟩ := oth_nat hS ho
    rw [Option.getD_some, decide_eq_true (show (j : Int) ≥ 0 by omega), cond_true, hB.in hj7, bind_s, bind_s]
    dsimp only
    by_cases hV : (j : Int) ∈ V
    · rw [decide_eq_true hV, if_pos hV]; rfl
    · rw [decide_eq_false hV, if_neg hV, Bool.not_false, cond_true, if_pos (by omega), if_pos (by simp only [List.length_singleton]; unfold lim; omega), (hB.add hj7).1, Int.toNat_natCast]
theorem gone_eq {n : LineNet} (hS : OkS n) (bits : List Int) : ∃ way to, remontoirlaw06_gone n bits = some (way, to) ∧ trk n 0 [0] way = some to ∧ (way.length : Int) ≤ n.Hops := by
  unfold remontoirlaw06_gone
  have hh1 := hS.h1; have hh2 := hS.h2; have hL := hS.nl
  by_cases h0 : n.Lines.length = 0
  · refine ⟨[], 0, ?_, rfl, by simp; omega⟩
    refine loopU_ext ?_
    unfold remontoirlaw06_gone_b2
    dsimp only
    cases (decide ((0 : Int) < n.Hops) && decide ((0 : Int) < (bits.length : Int))) with
    | true => rw [cond_true, h0]; rfl
    | false => rfl
  · refine loopU_for (fun k (s : List Int × Int × Int × Int) => s.2.2.2 = (k : Int) ∧ s.1.length ≤ k ∧ ∃ (V : List Int) (t : Nat), s.2.2.1 = (t : Int) ∧ trkV n 0 [0] s.1 = some (s.2.1, V) ∧ Bits t V) (min n.Hops.toNat bits.length)
      (Post := fun o => ∃ way to, o = some (way, to) ∧ trk n 0 [0] way = some to ∧ (way.length : Int) ≤ n.Hops) ⟨rfl, Nat.le_refl _, [0], 1, rfl, rfl, Bits.start⟩ ?_ ?_
    · rintro k ⟨way, at_, _, _⟩ hk ⟨rfl, hw, V, t, rfl, hT, hB⟩
      simp only at hw hT
      obtain ⟨r, er, hr⟩ := rest_nat (bits[k]'(by omega)) (m := n.Lines.length) (by omega) (by omega)
      have hbody : remontoirlaw06_gone_b2 n bits (way, at_, (t : Int), (k : Int)) = remontoirlaw06_gone_k3 way at_ (t : Int) (k : Int) (r : Int) ((oth n at_ r).getD (-1)) := by
        unfold remontoirlaw06_gone_b2
        dsimp only
        rw [decide_eq_true (show (k : Int) < n.Hops by omega), lt_t (show k < bits.length by omega), Bool.and_true, cond_true, beqI, decide_eq_false (show ¬ (n.Lines.length : Int) = 0 by omega), cond_false, idx_get (show k < bits.length by omega), bind_s, er, bind_s, idx_get hr, bind_s, beqI, beqI]
        have ho : oth n at_ r = othL at_ n.Lines[r] := by unfold oth; rw [List.getElem?_eq_getElem hr]; rfl
        rw [ho]
        unfold othL
        by_cases h1 : n.Lines[r].From = at_
        · rw [decide_eq_true h1, if_pos h1]; rfl
        · rw [decide_eq_false h1, if_neg h1]
          by_cases h2 : n.Lines[r].To = at_
          · rw [decide_eq_true h2, if_pos h2]; rfl
          · rw [decide_eq_false h2, if_neg h2]; rfl
      rw [hbody, gone_k3_eq hS (by omega) (by omega) hB hr]
      rcases ho : oth n at_ r with _ | x
      · exact ⟨_, rfl, rfl, by simp only; omega, V, t, rfl, hT, hB⟩
      · dsimp only
        by_cases hV : x ∈ V
        · rw [if_pos hV]
          exact ⟨_, rfl, rfl, by simp only; omega, V, t, rfl, hT, hB⟩
        · rw [if_neg hV]
          obtain ⟨j, rfl, hj, hj7⟩ := oth_nat hS ho
          refine ⟨_, rfl, rfl, by simp only [List.length_append, List.length_singleton]; omega, (j : Int) :: V, t ||| 2 ^ j, rfl, ?_, (hB.add hj7).2⟩
          simp only
          rw [trkV_snoc, hT, bind_s, Int.toNat_natCast, ho]
          dsimp only
          rw [if_pos ⟨by omega, hV⟩]
    · rintro ⟨way, at_, _, _⟩ ⟨rfl, hw, V, t, rfl, hT, hB⟩
      simp only at hw hT
      refine ⟨some (way, at_), ?_, way, at_, rfl, trkV_trk hT, by omega⟩
      unfold remontoirlaw06_gone_b2
      dsimp only
      have : (decide (((min n.Hops.toNat bits.length : Nat) : Int) < n.Hops) && decide (((min n.Hops.toNat bits.length : Nat) : Int) < (bits.length : Int))) = false := by
        rw [Bool.and_eq_false_iff, decide_eq_false_iff_not, decide_eq_false_iff_not]
        omega
      rw [this]; rfl
theorem From_eq {s : Span} (h0 : 0 ≤ s.Low) (h1 : s.Low ≤ s.High) (h2 : s.High ≤ 1000) (x : Int) : ∃ v, r0From s x = some v ∧ s.Low ≤ v ∧ v ≤ s.High := by
  unfold r0From
  by_cases h : s.High ≤ s.Low
  · rw [decide_eq_true h]; exact ⟨s.Low, rfl, Int.le_refl _, h1⟩
  · rw [decide_eq_false h, cond_false, wr_id' (n := s.High - s.Low) (by omega) (by omega), wr_id' (n := s.High - s.Low + 1) (by omega) (by omega), decide_eq_false (show ¬ s.High - s.Low + 1 < 1 by omega), cond_false]
    obtain ⟨r, er, r0, r1⟩ := rest_any x (by_ := s.High - s.Low + 1) (by omega) (by omega)
    rw [er, bind_s, wr_id' (by omega) (by omega)]
    exact ⟨_, rfl, by omega, by omega⟩
structure Sent (n : LineNet) (to d : Int) (i : Nat) (l : List LineLoop) : Prop where
  len : l.length = i
  is : ∀ j, j < i → ∃ y, l[j]? = some y ∧ OkO1 n.Exchanges y ∧ (y.Exchange = to → loL y ≤ d ∧ d ≤ hiL y)
theorem Sent.snoc {n : LineNet} {to d : Int} {i : Nat} {l : List LineLoop} (h : Sent n to d i l) {y : LineLoop} (h1 : OkO1 n.Exchanges y) (h2 : y.Exchange = to → loL y ≤ d ∧ d ≤ hiL y) : Sent n to d (i + 1) (l ++ [y]) := by
  refine ⟨by rw [List.length_append, h.len]; rfl, fun j hj => ?_⟩
  by_cases e : j = i
  · subst e
    exact ⟨y, by rw [List.getElem?_append_right (by rw [h.len]; exact Nat.le_refl _), h.len]; simp, h1, h2⟩
  · obtain ⟨z, g1, g2⟩ := h.is j (by omega)
    exact ⟨z, by rw [List.getElem?_append_left (by rw [h.len]; omega)]; exact g1, g2⟩
theorem sent_eq {n : LineNet} (hS : OkS n) {way : List Int} (hw : WOk n way) (to : Int) (bits : List Int) (hb : (bits.length : Int) ≤ 9223372036854775807) : ∃ l d, remontoirlaw06_sent n way to bits = some (⟨n.Exchanges, n.Lines, n.Hops, l⟩, d) ∧ lowF n way ≤ d ∧ d ≤ highF n way ∧ Sent n to d n.Loops.length l := by
  unfold remontoirlaw06_sent
  have hl := hw.len
  refine loopU_for (fun i (s : Int × Int) => s.2 = (i : Int) ∧ lowF n (way.take i) ≤ s.1 ∧ s.1 ≤ highF n (way.take i)) way.length (Post := fun (o : Option (LineNet × Int)) => ∃ l d, o = some (LineNet.mk n.Exchanges n.Lines n.Hops l, d) ∧ lowF n way ≤ d ∧ d ≤ highF n way ∧ Sent n to d n.Loops.length l) ?_ ?_ ?_
  · exact ⟨rfl, Int.le_refl _, Int.le_refl _⟩
  · rintro i ⟨d, _⟩ hi ⟨rfl, h1, h2⟩
    simp only at h1 h2
    obtain ⟨k, ek, hk, hd⟩ := hw.at hi
    obtain ⟨v, ev⟩ := At_any bits hb (wr ((i : Int) + 3))
    have hbd := delayAt_bd hS way[i]
    obtain ⟨x, ex, x1, x2⟩ := From_eq hbd.1 hbd.2.1 hbd.2.2 v
    have b1 := low_bd hS (way.take i); have b2 := high_bd hS (way.take i)
    rw [List.length_take] at b1 b2
    refine ⟨(d + x, ((i + 1 : Nat) : Int)), ?_, rfl, ?_, ?_⟩
    · unfold remontoirlaw06_sent_b1
      dsimp only
      rw [lt_t hi, cond_true, idx_get hi, bind_s, ek, idx_get hk, bind_s, ev, bind_s, ← hd, ex, bind_s, wr_succ (by omega), wr_id' (by omega) (by omega)]
    · have h3 : lowF n (way.take (i + 1)) = lowF n (way.take i) + (delayAt n way[i]).Low := by unfold lowF; rw [List.take_succ_eq_append_getElem hi, List.map_append, List.sum_append]; simp
      simp only; omega
    · have h4 : highF n (way.take (i + 1)) = highF n (way.take i) + (delayAt n way[i]).High := by unfold highF; rw [List.take_succ_eq_append_getElem hi, List.map_append, List.sum_append]; simp
      simp only; omega
  · rintro ⟨d, _⟩ ⟨rfl, h1, h2⟩
    simp only at h1 h2
    rw [List.take_length] at h1 h2
    have b1 := low_bd hS way; have b2 := high_bd hS way
    have hno := hS.no
    refine ⟨loopU (remontoirlaw06_sent_b2 n to bits d) (0, ([] : List LineLoop)), by unfold remontoirlaw06_sent_b1; dsimp only; rw [lt_f, cond_false], ?_⟩
    refine loopU_for (fun i (s : Int × List LineLoop) => s.1 = (i : Int) ∧ Sent n to d i s.2) n.Loops.length (Post := fun (o : Option (LineNet × Int)) => ∃ l d, o = some (LineNet.mk n.Exchanges n.Lines n.Hops l, d) ∧ lowF n way ≤ d ∧ d ≤ highF n way ∧ Sent n to d n.Loops.length l) ?_ ?_ ?_
    · exact ⟨rfl, rfl, fun j hj => by omega⟩
    · rintro i ⟨_, l⟩ hi ⟨rfl, hs⟩
      simp only at hs
      have hx := hS.lo hi
      have r1 := hx.r1; have r2 := hx.r2; have r3 := hx.r3
      have hk3 : ∀ z z1 : Int, remontoirlaw06_sent_k3 (i : Int) l n.Loops[i] z z1 = nxt (((i + 1 : Nat) : Int), l ++ [⟨n.Loops[i].Exchange, ⟨z, z1⟩⟩]) := fun z z1 => by
        unfold remontoirlaw06_sent_k3
        rw [if_pos (by have := hs.len; simp only [List.length_singleton]; unfold lim; omega), wr_succ (by omega)]
      by_cases he : n.Loops[i].Exchange = to
      · obtain ⟨v, ev⟩ := At_any bits hb (wr ((i : Int) + 5))
        obtain ⟨r, er, r4, r5⟩ := rest_any v (by_ := n.Loops[i].Read.High - n.Loops[i].Read.Low + 1) (by omega) (by omega)
        have hbody : remontoirlaw06_sent_b2 n to bits d ((i : Int), l) = remontoirlaw06_sent_k3 (i : Int) l n.Loops[i] (if 2 * d - r > 0 then 2 * d - r else 0) (if (if 2 * d - r > 0 then 2 * d - r else 0) + (n.Loops[i].Read.High - n.Loops[i].Read.Low) < 12000 then (if 2 * d - r > 0 then 2 * d - r else 0) + (n.Loops[i].Read.High - n.Loops[i].Read.Low) else 12000) := by
          unfold remontoirlaw06_sent_b2 r0To
          dsimp only
          rw [lt_t hi, cond_true, idx_get hi, bind_s, beqI, decide_eq_true he, cond_true, ev, bind_s, wr_id' (n := n.Loops[i].Read.High - n.Loops[i].Read.Low) (by omega) (by omega), wr_id' (n := n.Loops[i].Read.High - n.Loops[i].Read.Low + 1) (by omega) (by omega), er, bind_s, bind_s, wr_id' (n := 2 * d) (by omega) (by omega), wr_id' (n := 2 * d - r) (by omega) (by omega)]
          dsimp only
          rw [wr_id' (n := (if 2 * d - r > 0 then 2 * d - r else 0) + (n.Loops[i].Read.High - n.Loops[i].Read.Low)) (by split <;> omega) (by split <;> omega)]
        rw [hbody, hk3]
        generalize hlo : (if 2 * d - r > 0 then 2 * d - r else 0) = lo
        have hlo2 : 0 ≤ lo ∧ 2 * d - r ≤ lo ∧ lo ≤ 2 * d := by rw [← hlo]; split <;> omega
        generalize hhi : (if lo + (n.Loops[i].Read.High - n.Loops[i].Read.Low) < 12000 then lo + (n.Loops[i].Read.High - n.Loops[i].Read.Low) else 12000) = hi_
        have hhi2 : 2 * d ≤ hi_ ∧ lo ≤ hi_ ∧ hi_ ≤ 12000 := by rw [← hhi]; split <;> omega
        refine ⟨_, rfl, rfl, hs.snoc ⟨hx.e1, hx.e2, hlo2.1, hhi2.2.1, hhi2.2.2⟩ fun _ => ?_⟩
        unfold loL hiL
        dsimp only
        omega
      · have hbody : remontoirlaw06_sent_b2 n to bits d ((i : Int), l) = remontoirlaw06_sent_k3 (i : Int) l n.Loops[i] n.Loops[i].Read.Low n.Loops[i].Read.High := by
          unfold remontoirlaw06_sent_b2
          dsimp only
          rw [lt_t hi, cond_true, idx_get hi, bind_s, beqI, decide_eq_false he, cond_false]
        rw [hbody, hk3]
        exact ⟨_, rfl, rfl, hs.snoc ⟨hx.e1, hx.e2, hx.r1, hx.r2, hx.r3⟩ fun h => absurd h he⟩
    · rintro ⟨_, l⟩ ⟨rfl, hs⟩
      simp only at hs
      refine ⟨some (⟨n.Exchanges, n.Lines, n.Hops, l⟩, d), ?_, l, d, rfl, h1, h2, hs⟩
      unfold remontoirlaw06_sent_b2
      dsimp only
      rw [lt_f, cond_false]
end Go.Proofs.YthdbokigcfbgeaaDoor.Rt
