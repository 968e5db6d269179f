/- What the pure function of a law comes to. Under no conditions. -/
import Derived.Test.YtmbgmefmkjeahaaDoorC9L9
import Derived.Test.YtmbgmefmkjeahaaDoorC9PV
set_option linter.unusedVariables false
set_option linter.unusedSimpArgs false
set_option maxRecDepth 100000
set_option maxHeartbeats 4000000
namespace Go.Proofs.YtmbgmefmkjeahaaDoor.Rt
open Go Go.RowKit
structure NoneI (R : Int) (s0 : SlaveStart) (shown sign : Int) (i : Nat) (evs : List SlaveEvent) : Prop where
  len : evs.length = i
  ok : OkS ⟨R, [s0], evs⟩
  Ok : Ok_SlaveLine ⟨R, [s0], evs⟩
  lo : 0 ≤ shown
  hi : shown < R
  g : sign = 0 ∨ sign = 1
  only : ∀ st s, Tale ⟨R, [s0], evs⟩ 0 wo0 st s → s = ⟨shown, 1 - sign⟩ ∧ lostN st = 0
  is : ∃ st, Tale ⟨R, [s0], evs⟩ 0 wo0 st ⟨shown, 1 - sign⟩
theorem pure_9 (ring : Int) (sv : SlaveStart) (counts : List Int) (h1 : InR ring) (h2 : Ok_SlaveStart sv) (h3 : OkL InR counts) : w7SlaveNone ring sv counts (fun b => b = true) := by
  refine Tells.is (m := w7SlaveNone ring sv counts) ?_
  unfold w7SlaveNone
  have hcl := h3.1
  obtain ⟨r, er, hr⟩ := rest_natI ring (m := 59) (by decide) (by decide)
  obtain ⟨a, ea, ha⟩ := rest_natI sv.Last (m := 2) (by decide) (by decide)
  have eR : wr (2 + (r : Int)) = 2 + (r : Int) := wr_id' (by omega) (by omega)
  obtain ⟨b, eb, hb⟩ := rest_natI sv.Shown (m := 2 + (r : Int)) (by omega) (by omega)
  refine tdet er (tdet ea (tdet (by rw [eR]; exact eb) (tdet (a := SlaveStart.mk 0 (a : Int)) rfl (tdet (a := SlaveStart.mk (b : Int) (a : Int)) rfl ?_))))
  dsimp only
  have hset : ([SlaveStart.mk 0 (a : Int)]).set (Int.toNat 0) (SlaveStart.mk (b : Int) (SlaveStart.mk 0 (a : Int)).Last) = [SlaveStart.mk (b : Int) (a : Int)] := rfl
  generalize hR : 2 + (r : Int) = R at *
  have hT0 : OkT R ⟨(b : Int), (a : Int)⟩ := ⟨by dsimp only; omega, by dsimp only; omega, by dsimp only; omega⟩
  have hok : ∀ evs : List SlaveEvent, evs.length ≤ 10 → (∀ x ∈ evs, eventB (([⟨(b : Int), (a : Int)⟩] : List SlaveStart).length) R x = true) → OkS ⟨R, [⟨(b : Int), (a : Int)⟩], evs⟩ := fun evs he hx =>
    ⟨by dsimp only; omega, by dsimp only; omega, by simp, by simp, he, fun x hx => by rw [List.mem_singleton.1 hx]; exact hT0.is, hx⟩
  refine tfor0 (min counts.length 10) (fun i s => s.2.2.1 = (i : Int) ∧ NoneI R ⟨(b : Int), (a : Int)⟩ s.1 s.2.1 i s.2.2.2) ⟨rfl, rfl, hok [] (by simp) (fun x h => (by cases h)), ⟨inR_s (by dsimp only; omega) (by dsimp only; omega), ⟨by simp, fun x hx => by rw [List.mem_singleton.1 hx]; exact ⟨inR_s (by dsimp only; omega) (by dsimp only; omega), inR_s (by dsimp only; omega) (by dsimp only; omega)⟩⟩, by simp, fun x h => (by cases h)⟩, by dsimp only; omega, by dsimp only; omega, ?_, ?_, ?_⟩ ?_ ?_
  · dsimp only; rw [wr_id' (by omega) (by omega)]; omega
  · intro st s h
    obtain ⟨rfl, rfl⟩ := (tale_nil (by simp)).1 h
    refine ⟨?_, rfl⟩
    dsimp only
    rw [wr_id' (by omega) (by omega), show 1 - (1 - (a : Int)) = (a : Int) by omega]; rfl
  · refine ⟨[], (tale_nil (by simp)).2 ⟨rfl, ?_⟩⟩
    dsimp only
    rw [wr_id' (by omega) (by omega), show 1 - (1 - (a : Int)) = (a : Int) by omega]; rfl
  · rintro i ⟨shown, sign, _, evs⟩ hi ⟨rfl, hN⟩
    simp only at hN
    unfold w7SlaveNone_b1
    dsimp only
    rw [hR, eR]
    simp only [show ([SlaveStart.mk 0 (a : Int)]).set (Int.toNat 0) (SlaveStart.mk (b : Int) (a : Int)) = [SlaveStart.mk (b : Int) (a : Int)] from rfl]
    have hi1 : i < counts.length := by omega
    have hi2 : i < 10 := by omega
    rw [lt_t hi1, decide_eq_true (show (i : Int) < 10 by omega), Bool.true_and, cond_true]
    obtain ⟨c, ec, hc⟩ := rest_natI counts[i] (m := 61) (by decide) (by decide)
    have hs0 := hN.lo; have hs1 := hN.hi; have hg := hN.g; have hlen := hN.len
    refine tdet (idx_get hi1) (tdet ec (tdet (send_eq _ _ _) (tgrd (by simp only [List.length_singleton]; unfold lim; omega) (tdet (a := (sign + (c : Int)) % 2) ?_ (tgrd (by omega) ?_)))))
    · rw [wr_id' (by omega) (by omega)]
      exact rest_nn (by omega) (by decide)
    · have hxe : OkE (([⟨(b : Int), (a : Int)⟩] : List SlaveStart).length) R (sendE sign (c : Int) 0) := ⟨.inl rfl, fun _ => hg, fun _ => (by unfold sendE; dsimp only; omega), fun h => (by cases h)⟩
      have hm0 := Int.emod_nonneg (shown + (c : Int)) (show R ≠ 0 by omega)
      have hm1 := Int.emod_lt_of_pos (shown + (c : Int)) (show 0 < R by omega)
      have hOk : OkS (snocL ⟨R, [⟨(b : Int), (a : Int)⟩], evs⟩ (sendE sign (c : Int) 0)) := snoc_ok hN.ok (by dsimp only; omega) hxe
      have hrunP : runP R (sendE sign (c : Int) 0) [] c ⟨shown, 1 - sign⟩ = ⟨(shown + (c : Int)) % R, 1 - (sign + (c : Int)) % 2⟩ := by
        rw [alt_run (by omega) (x := sendE sign (c : Int) 0) (by unfold sendE; dsimp only; decide) hg (s := ⟨shown, 1 - sign⟩) ⟨hs0, hs1, by dsimp only; omega⟩ rfl c (fun q _ => by simp)]
        unfold sendE
        dsimp only
        congr 1
        omega
      rw [wr_id' (n := shown + (c : Int)) (by omega) (by omega), tmod_eq (by omega), wr_succ (by omega)]
      refine tnxt ⟨rfl, by simp [hlen], hOk, snoc_Ok hN.Ok (Ok_send (inR_s (by omega) (by omega)) (inR_s (by omega) (by omega)) inR0) (by dsimp only; omega), hm0, hm1, by dsimp only; omega, ?_, ?_⟩
      · intro st s h
        obtain ⟨st0, s1, ls, rfl, ht, hl, hn, rfl⟩ := (tale_send (l := ⟨R, [⟨(b : Int), (a : Int)⟩], evs⟩) (x := sendE sign (c : Int) 0) (by unfold sendE; dsimp only; decide)).1 h
        have hls : ls = [] := List.eq_nil_of_length_eq_zero (by unfold sendE at hn; dsimp only at hn; omega)
        subst hls
        obtain ⟨rfl, h0⟩ := hN.only st0 s1 ht
        refine ⟨hrunP, by rw [lostN_snoc, h0]; rfl⟩
      · obtain ⟨st, h⟩ := hN.is
        refine ⟨st ++ [[]], (tale_send (l := ⟨R, [⟨(b : Int), (a : Int)⟩], evs⟩) (x := sendE sign (c : Int) 0) (by unfold sendE; dsimp only; decide)).2 ⟨st, _, [], rfl, h, Loss.nil _, by simp [sendE], ?_⟩⟩
        exact hrunP.symm
  · rintro ⟨shown, sign, _, evs⟩ ⟨rfl, hN⟩
    simp only at hN
    unfold w7SlaveNone_b1
    dsimp only
    rw [hR, eR]
    simp only [show ([SlaveStart.mk 0 (a : Int)]).set (Int.toNat 0) (SlaveStart.mk (b : Int) (a : Int)) = [SlaveStart.mk (b : Int) (a : Int)] from rfl]
    have hs0 := hN.lo; have hs1 := hN.hi
    have : (decide (((min counts.length 10 : Nat) : Int) < (counts.length : Int)) && decide (((min counts.length 10 : Nat) : Int) < 10)) = false := by
      rw [Bool.and_eq_false_iff, decide_eq_false_iff_not, decide_eq_false_iff_not]
      omega
    rw [this, cond_false]
    have hS := hN.ok
    have hw : 0 < (SlaveLine.mk R [⟨(b : Int), (a : Int)⟩] evs).Starts.length := by simp
    obtain ⟨st, hT⟩ := hN.is
    have hc : canB ⟨R, [⟨(b : Int), (a : Int)⟩], evs⟩ 0 wo0 = true := (canB_iff hS hw).2 ⟨st, _, hT⟩
    refine tend (tbnd (Can_tells hN.Ok 0) fun r6 e6 => tbnd (Lost_tells hN.Ok 0) fun r7 e7 => ?_)
    rw [show (0 : Int) = ((0 : Nat) : Int) from rfl, canF_of hS hw, hc, if_pos rfl] at e6
    rw [show (0 : Int) = ((0 : Nat) : Int) from rfl, lostF_of hS hw, hc, if_pos rfl] at e7
    have hone : canN ⟨R, [⟨(b : Int), (a : Int)⟩], evs⟩ 0 60 = [shown] := by
      rw [canN_one shown.toNat (fun k => ?_) 60, if_pos (by omega), show ((shown.toNat : Nat) : Int) = shown by omega]
      rw [Bool.eq_iff_iff, show_iff hS hw, decide_eq_true_eq]
      constructor
      · rintro ⟨st', s, h, e⟩
        rw [(hN.only st' s h).1] at e
        dsimp only at e; omega
      · rintro rfl
        exact ⟨st, _, hT, by dsimp only; omega⟩
    have hspan : spanE ⟨R, [⟨(b : Int), (a : Int)⟩], evs⟩ 0 wo0 = ⟨0, 0⟩ := by
      have h0 := (hN.only st _ hT).2
      refine spanE_of hS hw ⟨st, _, hT, by rw [h0]; rfl⟩ ⟨st, _, hT, by rw [h0]; rfl⟩ ?_
      rintro n st' ⟨s, h, rfl⟩
      rw [(hN.only st' s h).2]
      exact ⟨Int.le_refl _, Int.le_refl _⟩
    subst e6; subst e7
    refine tdet (a := true) ?_ (tdet (a := true) ?_ (fin_tells rfl))
    · show (r0Alike (canN _ 0 60) [shown]).bind _ = _
      rw [hone, Alike_eq _ _ (by simp)]
      simp
    · show some ([(spanE _ 0 wo0).Low, (spanE _ 0 wo0).High] == [(0 : Int), 0]) = _
      rw [hspan]; rfl
end Go.Proofs.YtmbgmefmkjeahaaDoor.Rt
