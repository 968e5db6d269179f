/- Plain laws of the theorem of the pip at the other end, but for its example. Under the conditions that each names. -/
import Derived.Test.YtgdfljiliflhfaaDoorC3LnG
import Derived.Test.YtgdfljiliflhfaaDoorC3ScB
import Derived.Test.YtgdfljiliflhfaaDoorC3L3
set_option linter.unusedVariables false
set_option linter.unusedSimpArgs false
set_option maxRecDepth 100000
set_option maxHeartbeats 4000000
namespace Go.Proofs.YtgdfljiliflhfaaDoor.Rt.Tp
open Go Go.RowKit Go.Proofs.YtgdfljiliflhfaaDoor.Rt.Ln
theorem rest_any (x : Int) {by_ : Int} (h : 0 < by_) (h2 : by_ ≤ 1000000) : ∃ r, r0Rest x by_ = some r ∧ 0 ≤ r ∧ r < by_ := by
  unfold r0Rest
  have h1 := Int.tmod_lt_of_pos x h
  have h3 := Int.lt_tmod_of_pos x h
  rw [if_pos (by omega)]
  by_cases h4 : Int.tmod x by_ < 0
  · rw [decide_eq_true h4, cond_true]
    exact ⟨_, rfl, by rw [wr_id' (by omega) (by omega)]; omega, by rw [wr_id' (by omega) (by omega)]; omega⟩
  · rw [decide_eq_false h4, cond_false]
    exact ⟨_, rfl, by omega, h1⟩
theorem From_any {s : Span} (h0 : -20000 ≤ s.Low) (h1 : s.Low ≤ s.High) (h2 : s.High ≤ 20000) (x : Int) : ∃ v, r0From s x = some v ∧ s.Low ≤ v ∧ v ≤ s.High := by
  unfold r0From
  by_cases h : s.High ≤ s.Low
  · rw [decide_eq_true h]; exact ⟨s.Low, rfl, Int.le_refl _, h1⟩
  · rw [decide_eq_false h, cond_false, wr_id' (n := s.High - s.Low) (by omega) (by omega), wr_id' (n := s.High - s.Low + 1) (by omega) (by omega), decide_eq_false (show ¬ s.High - s.Low + 1 < 1 by omega), cond_false]
    obtain ⟨r, er, r0, r1⟩ := rest_any x (by_ := s.High - s.Low + 1) (by omega) (by omega)
    rw [er, Option.bind_some, wr_id' (by omega) (by omega)]
    exact ⟨_, rfl, by omega, by omega⟩
theorem errF_vals {n : LineNet} (hg : goodB n = true) {e : Int} (h0 : 0 ≤ e) (h1 : e < n.Exchanges) : errF n e = 0 ∨ errF n e = 4 ∨ errF n e = 62 := by
  unfold errF
  rw [if_pos hg, if_pos (inB_iff.2 ⟨h0, by omega⟩)]
  split
  · split
    · exact .inr (.inr rfl)
    · exact .inl rfl
  · exact .inr (.inl rfl)
theorem k1_eq (hr : remontoirtop_rung06 = some true) (c : Int × Int × Int) (st : Int × Int) (ahead delay : Int) (b1 : -100000 ≤ delay - c.1) (b2 : delay - c.1 ≤ 100000) (b3 : -20000 ≤ ahead) (b4 : ahead ≤ 20000)
    (h1 : c.2.1 ≤ 100000) (h2 : st.1 ≤ 100000) (h3 : 0 ≤ c.2.1) (h4 : 0 ≤ st.1) (g1 : delay - c.1 ≤ c.2.1) (g2 : -(delay - c.1) ≤ c.2.1) (g3 : ahead ≤ st.1) (g4 : -ahead ≤ st.1) :
    remontoirtop_TopSent_k1 c st ahead delay = some true := by
  unfold remontoirtop_TopSent_k1
  rw [wr_id' (n := delay - c.1) (by omega) (by omega), wr_id' (n := delay - c.1 - ahead) (by omega) (by omega), Size_eq (by omega) (by omega), Option.bind_some, wr_id' (n := c.2.1 + st.1) (by omega) (by omega)]
  have : (if delay - c.1 - ahead < 0 then -(delay - c.1 - ahead) else delay - c.1 - ahead) ≤ c.2.1 + st.1 := by split <;> omega
  rw [decide_eq_true this, cond_true, hr]
  rfl
theorem span_bd' {n : LineNet} {e : Int} (he : errF n e = 0) : 0 ≤ (spanF n e).Low ∧ (spanF n e).Low ≤ (spanF n e).High ∧ (spanF n e).High ≤ 6000 := by
  obtain ⟨hS, _, _, hne⟩ := errF_ok he
  exact span_bd hS hne
theorem sent_eq (hr : remontoirtop_rung06 = some true) (n : LineNet) (b : ScaleBook) (k : Arr4) (hn : Ok_LineNet n) (hb : Ok_ScaleBook b) : remontoirtop_TopSent n b k = some true := by
  unfold remontoirtop_TopSent
  have hbl : (b.Steer.length : Int) ≤ 9223372036854775807 ∧ (b.Looks.length : Int) ≤ 9223372036854775807 := by
    obtain ⟨_, _, ⟨h1, _⟩, ⟨h2, _⟩⟩ := hb
    omega
  obtain ⟨rc, hc, hgood⟩ := Sc.Check_eq b hbl.1 hbl.2
  rw [line_Check_eq n hn]
  simp only [Option.bind_some, hc, Ln.Lies_eq, hr]
  cases hg : goodB n with
  | false => rfl
  | true =>
    simp only [if_true, show ((0 : Int) != 0) = false from rfl, cond_false, Option.bind_some]
    by_cases h0 : rc = 0
    · subst h0
      have g := hgood rfl
      have hS := OkS.of hg
      have e1 := hS.e1; have e2 := hS.e2
      have gt1 := g.t1; have gt2 := g.t2
      simp only [show ((0 : Int) != 0) = false from rfl, cond_false, Option.bind_some, inB_iff.2 ⟨gt1, gt2⟩, Bool.not_true]
      cases hx : inB n.Exchanges 1 7 with
      | false => rfl
      | true =>
        simp only [Bool.not_true, cond_false, Option.bind_some]
        obtain ⟨to, hto, to0, to1⟩ := rest_any k.a0 (by_ := n.Exchanges) (by omega) (by omega)
        obtain ⟨tick, htick, ti0, ti1⟩ := rest_any k.a1 (by_ := b.Ticks + 1) (by omega) (by omega)
        rw [wr_id' (n := b.Ticks + 1) (by omega) (by omega)]
        simp only [hto, htick, Option.bind_some, Correct_eq hn, Delay_eq hn]
        obtain ⟨s, e, hE, hv⟩ := Sc.Error_eq hc g tick ti0 (by omega)
        obtain ⟨hs1, hs2⟩ := Sc.Stated_eq hE
        have hcf : (CorrectF n to).2.2 = errF n to := by unfold CorrectF; split <;> simp [*]
        have hdf : (DelayF n to).2 = errF n to := by unfold DelayF; split <;> simp [*]
        simp only [hE, Option.bind_some, hcf, hdf]
        have hne : (errF n to != errF n to) = false := by simp
        rcases hv with rfl | ⟨rfl, v1, v2, v3⟩
        · rw [hs1 (by decide)]
          simp only [Option.bind_some, hne]
          rcases errF_vals hg to0 to1 with he | he | he <;> rw [he] <;> rfl
        · obtain ⟨m, hm, m1, m2, m3⟩ := hs2 rfl v1 (by omega)
          rw [hm]
          simp only [Option.bind_some, hne]
          rcases errF_vals hg to0 to1 with he | he | he
          · rw [he]
            simp only [show ((0 : Int) != 0) = false from rfl, Bool.or_false, cond_false]
            obtain ⟨w1, w2, w3⟩ := span_bd' he
            have hD : DelayF n to = (spanF n to, 0) := by unfold DelayF; rw [if_pos he]
            have hC : CorrectF n to = ((spanF n to).High - offF (spanF n to), offF (spanF n to), 0) := by unfold CorrectF; rw [if_pos he]
            rw [hD, hC]
            have hv1 : r0Valid (spanF n to) 0 6000 = some true := by
              unfold r0Valid
              rw [decide_eq_true w1, decide_eq_true w2, decide_eq_true w3]; rfl
            have hv2 : r0Valid s (-20000) 20000 = some true := by
              unfold r0Valid
              rw [decide_eq_true v1, decide_eq_true v2, decide_eq_true v3]; rfl
            simp only [hv1, hv2, Option.bind_some, Bool.not_true, cond_false]
            obtain ⟨delay, hd, d1, d2⟩ := From_any (by omega) w2 (by omega) k.a2
            obtain ⟨ahead, ha, a1, a2⟩ := From_any v1 v2 v3 k.a3
            rw [hd, ha]
            simp only [Option.bind_some, Can_eq hn]
            have hCan : (CanF n to delay).2 = 0 := by unfold CanF; rw [if_pos he]
            rw [hCan]
            simp only [show ((0 : Int) != 0) = false from rfl, cond_false]
            have ho : offF (spanF n to) = ((spanF n to).High - (spanF n to).Low + 1) / 2 := rfl
            have fin : ∀ d, (spanF n to).Low ≤ d → d ≤ (spanF n to).High → remontoirtop_TopSent_k1 ((spanF n to).High - offF (spanF n to), offF (spanF n to), 0) (m, 0) ahead d = some true := by
              intro d hd1 hd2
              refine k1_eq hr _ _ _ _ ?_ ?_ ?_ ?_ ?_ ?_ ?_ ?_ ?_ ?_ ?_ ?_ <;> (try simp only []) <;> omega
            cases (CanF n to delay).1
            · exact fin _ (Int.le_refl _) w2
            · exact fin _ d1 d2
          · rw [he]; rfl
          · rw [he]; rfl
    · have : (rc != 0) = true := by rw [bneI]; exact decide_eq_true h0
      rw [this]
      rfl
end Go.Proofs.YtgdfljiliflhfaaDoor.Rt.Tp
