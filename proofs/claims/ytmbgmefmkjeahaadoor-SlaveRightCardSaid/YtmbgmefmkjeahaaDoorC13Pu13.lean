/- What the pure function of a law comes to. Under no conditions. -/
import Derived.Test.YtmbgmefmkjeahaaDoorC13L13
import Derived.Test.YtmbgmefmkjeahaaDoorC13PW
set_option linter.unusedVariables false
set_option linter.unusedSimpArgs false
set_option maxRecDepth 100000
set_option maxHeartbeats 4000000
namespace Go.Proofs.YtmbgmefmkjeahaaDoor.Rt
open Go Go.RowKit
theorem same_run {R : Int} (hR : 2 ≤ R) {x : SlaveEvent} (hk : x.Kind ≠ 1) (hf : x.First = 0 ∨ x.First = 1) {s : SlaveStart} (hs : OkT R s) (hl : s.Last = x.First) : ∀ d : Nat, runP R x [] (d + 1) s = ⟨(s.Shown + (d : Int)) % R, (x.First + (d : Int)) % 2⟩
  | 0 => by
    have ha := hs.a; have hb := hs.b
    show stepF R x 0 s = _
    unfold stepF afterF
    rw [signF_send hk, if_neg (by omega), if_neg (by omega)]
    rw [show s.Shown + ((0 : Nat) : Int) = s.Shown by omega, Int.emod_eq_of_lt ha hb, show (x.First + ((0 : Nat) : Int)) % 2 = s.Last by omega]
  | d + 1 => by
    have ih := same_run hR hk hf hs hl d
    rw [runP, if_neg (by simp), ih]
    unfold stepF afterF
    rw [signF_send hk]
    dsimp only
    rw [if_neg (by omega), if_pos (by omega), mod_step]
    congr 1
theorem send_run {R : Int} (hR : 2 ≤ R) {first : Int} (hf : first = 0 ∨ first = 1) {s : SlaveStart} (hs : OkT R s) (m : Nat) : (runP R (sendE first (m : Int) 0) [] m s).Shown = (s.Shown + (if 0 < (m : Int) ∧ s.Last = first then (m : Int) - 1 else (m : Int))) % R := by
  have ha := hs.a; have hb := hs.b
  have hk : (sendE first (m : Int) 0).Kind ≠ 1 := by unfold sendE; dsimp only; decide
  by_cases h : s.Last = first
  · cases m with
    | zero => rw [if_neg (by omega)]; show s.Shown = _; rw [show s.Shown + ((0 : Nat) : Int) = s.Shown by omega, Int.emod_eq_of_lt ha hb]
    | succ d =>
      rw [if_pos ⟨by omega, h⟩, same_run hR hk hf hs h d]
      dsimp only
      congr 1
      omega
  · rw [if_neg (fun g => h g.2), alt_run hR hk hf hs (by have := hs.c; unfold sendE; dsimp only; omega) m (fun q _ => by simp)]
theorem lawPulses_eq {p : SlavePlan} (h : OkP p) : w7pulses p = some (pulsesF p) := by
  have := h.h0; have := h.h1; have := h.s0; have := h.s1
  unfold w7pulses pulsesF
  rw [wr_id' (n := p.Home + p.Send) (by omega) (by omega), wr_id' (by omega) (by omega)]
  by_cases h : 0 ≤ p.Pre
  · rw [decide_eq_false (by omega), cond_false, if_pos h]
  · rw [decide_eq_true (by omega), cond_true, if_neg h, Int.add_zero]
theorem pure_13 (l : SlaveLine) (n : Arr2) (bits : List Int) (h1 : Ok_SlaveLine l) (h2 : Ok_Arr2 n) (h3 : OkL InR bits) : w7SlaveRight l n bits (fun b => b = true) := by
  refine Tells.is (m := w7SlaveRight l n bits) ?_
  unfold w7SlaveRight
  refine tdet (sound_eq l h1) ?_
  cases hg : goodB l with
  | false => exact work1_tells
  | true =>
    have hS := OkS.of hg
    have hn1 := hS.n1; have hn2 := hS.n2; have hr1 := hS.r1; have hr2 := hS.r2
    rw [Bool.not_true, cond_false]
    obtain ⟨k, ek, hk⟩ := rest_natI n.a0 (m := l.Ring) (by omega) (by omega)
    obtain ⟨w, ew, hw⟩ := rest_nat n.a1 (m := l.Starts.length) (by omega) (by omega)
    obtain ⟨story, s, l', el, hW⟩ := was_eq (bits := bits) h1 hS hw h3.1
    have hT := hW.tale
    have hS' := hW.ok
    have hw' : w < l'.Starts.length := by rw [hW.st]; exact hw
    have hok : okM l' (k : Int) = true := by unfold okM; rw [inB_iff, hW.r]; omega
    refine tdet ek (tdet ew (tdet el (tbnd (Set_tells hW.Ok (k : Int)) fun r5 h5 => ?_)))
    have herr := h5.err
    unfold openF at herr
    rw [if_pos hS'.good, if_pos hok] at herr
    rw [bneI]
    by_cases h0 : r5.2 = 0
    · rw [decide_eq_false (fun h => h h0), cond_false]
      obtain ⟨_, _, hall, hB⟩ := h5.is h0
      have hp := hB.ok
      have q0 := hp.h0; have q1 := hp.h1; have q2 := hp.s0; have q3 := hp.s1; have q4 := hp.f; have q5 := hp.e
      generalize hpl : r5.1 = p at *
      have hopen : openF l' (okM l' (k : Int) && planB p) = 0 := by unfold openF; rw [if_pos hS'.good, hok, (planB_iff p).2 hp, hall]; rfl
      refine tbnd (Sets_tells hW.Ok (k : Int) p) fun r8 e8 => ?_
      unfold SetsF at e8
      rw [hopen, if_pos rfl, hB.good] at e8
      subst e8
      have i1 : inB p.Pre (-1) 1 = true := by rw [inB_iff]; omega
      have i2 : inB p.Home 0 60 = true := by rw [inB_iff]; omega
      have i3 : inB p.First 0 1 = true := by rw [inB_iff]; omega
      have i4 : inB p.Send 0 60 = true := by rw [inB_iff]; omega
      have hle : pulsesF p ≤ l.Ring + (k : Int) := by
        obtain ⟨a, b, c⟩ := plan_is hS' hok
        have := hB.le _ a b
        have hr := hW.r
        unfold leP at this
        rw [c] at this
        omega
      refine tdet (a := false) rfl (tdet (a := false) (by rw [Lies_eq, bind_s, i1]; rfl) (tdet (a := false) (by rw [Lies_eq, bind_s, i2]; rfl) (tdet (a := false) (by rw [Lies_eq, bind_s, i3]; rfl) (tdet (a := false) (by rw [Lies_eq, bind_s, i4]; rfl) (tdet (a := false) ?_ ?_)))))
      · rw [lawPulses_eq hp, bind_s, wr_id' (n := l.Ring + (k : Int)) (by omega) (by omega), decide_eq_false (by omega)]; rfl
      · rw [cond_false]
        -- the state of the clock, and what the plan does to it
        have hsT := hT.okT hS'
        rw [hW.r] at hsT
        have hmem : s ∈ statesE l' := (mem_statesE hS' s).2 ⟨w, hw', story, hT⟩
        have hbeh : behF l.Ring p s = (k : Int) := by
          have := List.all_eq_true.1 hB.good s hmem
          rw [decide_eq_true_eq, hW.r] at this
          exact this
        have hpT := hsT.pre hr1 hp
        have hk1 : ∀ t, t = preF l.Ring p s → Tells (w7SlaveRight_k1 l bits (k : Int) (story, s, l') r5 t.Shown t.Last) (fun b => b = true) := by
          intro t ht
          subst ht
          unfold w7SlaveRight_k1
          rw [hpl]
          have hh := homed_eq hr1 hr2 hpT (many := p.Home.toNat) (by omega)
          rw [show ((p.Home.toNat : Nat) : Int) = p.Home by omega] at hh
          refine tdet hh ?_
          have hhb := homeF_bd hr1 q0 hpT.a hpT.b
          have hT2 : OkT l.Ring ⟨homeF l.Ring p.Home (preF l.Ring p s).Shown, (preF l.Ring p s).Last⟩ := ⟨hhb.1, hhb.2, hpT.c⟩
          have hsr := send_run hr1 q4 hT2 p.Send.toNat
          rw [show ((p.Send.toNat : Nat) : Int) = p.Send by omega] at hsr
          generalize ht2 : SlaveStart.mk (homeF l.Ring p.Home (preF l.Ring p s).Shown) (preF l.Ring p s).Last = t2 at hT2 hsr
          have hfin : (runP l.Ring (sendE p.First p.Send 0) [] p.Send.toNat t2).Shown = (k : Int) := by
            rw [hsr, ← hbeh, ← ht2]; rfl
          refine tfor0 p.Send.toNat (fun i u => u = ((i : Int), (runP l.Ring (sendE p.First p.Send 0) [] i t2).Shown, (runP l.Ring (sendE p.First p.Send 0) [] i t2).Last)) (by rw [← ht2]; rfl) ?_ ?_
          · rintro i _ hi rfl
            unfold w7SlaveRight_b2
            dsimp only
            rw [hpl, decide_eq_true (show (i : Int) < p.Send by omega), cond_true]
            have hm0 := Int.emod_nonneg (p.First + (i : Int)) (show (2 : Int) ≠ 0 by decide)
            have hm1 := Int.emod_lt_of_pos (p.First + (i : Int)) (show (0 : Int) < 2 by decide)
            have hT3 := hT2.run hr1 (sendE p.First p.Send 0) [] i
            refine tdet (by rw [wr_id' (by omega) (by omega)]; exact rest_nn (by omega) (by decide)) (tdet (moved_eq hr1 hr2 hT3 (by omega)) (tnxt ?_))
            rw [wr_succ (by omega)]
            rfl
          · rintro _ rfl
            unfold w7SlaveRight_b2
            dsimp only
            rw [hpl, decide_eq_false (show ¬ ((p.Send.toNat : Nat) : Int) < p.Send by omega), cond_false, hfin, bne_self_eq_false, cond_false]
            refine tend ?_
            obtain ⟨v0, a0⟩ := At_any bits h3.1 0
            obtain ⟨v1, a1⟩ := At_any bits h3.1 1
            obtain ⟨v2, a2⟩ := At_any bits h3.1 2
            obtain ⟨v3, a3⟩ := At_any bits h3.1 3
            obtain ⟨c0, b0, d0⟩ := rest_natI v0 (m := 3) (by decide) (by decide)
            obtain ⟨c1, b1, d1⟩ := rest_natI v1 (m := 61) (by decide) (by decide)
            obtain ⟨c2, b2, d2⟩ := rest_natI v2 (m := 2) (by decide) (by decide)
            obtain ⟨c3, b3, d3⟩ := rest_natI v3 (m := 61) (by decide) (by decide)
            refine tdet a0 (tdet b0 (tdet a1 (tdet b1 (tdet a2 (tdet b2 (tdet a3 (tdet b3 ?_)))))))
            rw [wr_id' (n := (c0 : Int) - 1) (by omega) (by omega)]
            have hq : OkP ⟨(c0 : Int) - 1, (c1 : Int), (c2 : Int), (c3 : Int)⟩ := ⟨by dsimp only; omega, by dsimp only; omega, by dsimp only; omega, by dsimp only; omega, by dsimp only; omega, by dsimp only; omega⟩
            generalize SlavePlan.mk ((c0 : Int) - 1) (c1 : Int) (c2 : Int) (c3 : Int) = q at hq
            refine tdet (lawPulses_eq hq) (tdet (lawPulses_eq hp) ?_)
            by_cases hge : pulsesF q ≥ pulsesF p
            · rw [decide_eq_true hge, cond_true]
              exact work1_tells
            · rw [decide_eq_false hge, cond_false]
              refine tbnd (Sets_tells hW.Ok (k : Int) q) fun r e => ?_
              have hopen2 : openF l' (okM l' (k : Int) && planB q) = 0 := by unfold openF; rw [if_pos hS'.good, hok, (planB_iff q).2 hq, hall]; rfl
              unfold SetsF at e
              rw [hopen2, if_pos rfl] at e
              have hf : setsF l' (k : Int) q = false := by
                cases hs : setsF l' (k : Int) q with
                | false => rfl
                | true =>
                  have := hB.le q hq hs
                  unfold leP at this
                  omega
              rw [hf] at e
              subst e
              exact fin_tells rfl
        by_cases hpre : 0 ≤ p.Pre
        · rw [decide_eq_true (show p.Pre ≥ 0 from hpre), cond_true]
          refine tdet (moved_eq hr1 hr2 hsT (by omega)) (hk1 _ ?_)
          unfold preF
          rw [if_neg (by omega)]
        · rw [decide_eq_false (show ¬ p.Pre ≥ 0 from hpre), cond_false]
          refine hk1 s ?_
          unfold preF
          rw [if_pos (by omega)]
    · rw [decide_eq_true h0, cond_true]
      have e2 := h5.no h0
      refine fin_tells ?_
      rw [e2, herr]
      cases hc : allCan l' wo0 with
      | true => rw [hc] at herr; exact absurd herr h0
      | false => rfl
end Go.Proofs.YtmbgmefmkjeahaaDoor.Rt
