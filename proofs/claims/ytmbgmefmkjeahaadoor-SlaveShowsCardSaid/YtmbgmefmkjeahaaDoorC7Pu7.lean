/- What the pure function of a law comes to. Under no conditions. -/
import Derived.Test.YtmbgmefmkjeahaaDoorC7L7
import Derived.Test.YtmbgmefmkjeahaaDoorC7PW
set_option linter.unusedVariables false
set_option linter.unusedSimpArgs false
set_option maxRecDepth 100000
set_option maxHeartbeats 4000000
namespace Go.Proofs.YtmbgmefmkjeahaaDoor.Rt
open Go Go.RowKit
theorem pure_7 (l : SlaveLine) (who : Int) (bits : List Int) (h1 : Ok_SlaveLine l) (h2 : InR who) (h3 : OkL InR bits) : w7SlaveShows l who bits (fun b => b = true) := by
  refine Tells.is (m := w7SlaveShows l who bits) ?_
  unfold w7SlaveShows
  refine tdet (sound_eq l h1) ?_
  cases hg : goodB l with
  | false => exact work1_tells
  | true =>
    have hS := OkS.of hg
    have hn1 := hS.n1; have hn2 := hS.n2
    rw [Bool.not_true, cond_false]
    obtain ⟨w, ew, hw⟩ := rest_nat who (m := l.Starts.length) (by omega) (by omega)
    obtain ⟨story, s, l', el, hW⟩ := was_eq (bits := bits) h1 hS hw h3.1
    have hT := hW.tale
    have hS' := hW.ok
    have hw' : w < l'.Starts.length := by rw [hW.st]; exact hw
    obtain ⟨b1, b2, b3, b4⟩ := hT.bd hS'
    have h10 := hS'.e
    have hr1 := hS'.r1; have hr2 := hS'.r2
    have hc : canB l' w wo0 = true := (canB_iff hS' hw').2 ⟨story, s, hT⟩
    have his : ∀ st : List (List Int), (∃ s, Tale l' w wo0 st s) → slave_IsStory l' (w : Int) st = some (true, 0) := by
      rintro st ⟨s, h⟩
      obtain ⟨c1, c2, c3, c4⟩ := h.bd hS'
      rw [isStory_eq hW.Ok _ _ fun r hr => by have := c4 r hr; omega]
      unfold isF
      rw [if_pos hS'.good, if_pos (by rw [inB_iff]; omega), Int.toNat_natCast, (isB_iff hS' hw' st).2 ⟨s, h⟩]
    refine tdet ew (tdet el (tdet (his story ⟨s, hT⟩) (tbnd (Can_tells hW.Ok (w : Int)) fun r5 e5 => tbnd (Lost_tells hW.Ok (w : Int)) fun r6 e6 => tbnd (Story_tells hW.Ok (w : Int)) fun r7 h7 => ?_)))
    rw [canF_of hS' hw', hc, if_pos rfl] at e5
    rw [lostF_of hS' hw', hc, if_pos rfl] at e6
    subst e5; subst e6
    have h70 : r7.2 = 0 := by rw [h7.err, askF_of hS' hw', hc]; rfl
    obtain ⟨w2, hww, _, _, _, ⟨s7, hs7⟩, hn7⟩ := h7.is h70
    obtain rfl : w2 = w := by omega
    obtain ⟨d1, d2, d3, d4⟩ := hs7.bd hS'
    obtain ⟨_, _, hbd⟩ := spanE_low hS' hw' hc
    have hb := hbd _ story ⟨s, hT, rfl⟩
    have hcl := canN_len l' w2 60
    refine tdet (a := false) rfl (tdet (a := false) rfl (tdet (a := false) (by rw [h70]; rfl) (tdet (a := false) rfl (tdet (a := false) ?_ (tdet (a := false) ?_ (tdet (a := false) ?_ (tdet (a := false) ?_ ?_)))))))
    · obtain ⟨r, f1, f2⟩ := find_neg (canN l' w2 60) s.Shown (by omega)
      show ((r0Find (canN l' w2 60) s.Shown).bind _) = _
      rw [f1, bind_s, f2, decide_eq_true ((mem_canN' hS' hw' _).2 ⟨story, s, hT, rfl⟩)]; rfl
    · show ((r0Climbs (canN l' w2 60) l.Ring).bind _) = _
      rw [← hW.r, show l'.Ring = ((l'.Ring.toNat : Nat) : Int) by omega, Climbs_eq (by omega) (by omega) (by omega), bind_s, (climb_loss _ _).2 ⟨canN_inc 60, fun k hk => ?_⟩]
      · rfl
      · obtain ⟨st, s, h, rfl⟩ := (mem_canN' hS' hw' k).1 hk
        have hT := h.okT hS'
        have := hT.a; have := hT.b
        omega
    · show ((w7lostIn story).bind _) = _
      rw [lostIn_eq _ (by omega) (fun r hr => by have := b4 r hr; omega), bind_s]
      unfold r0Has
      rw [Lies_eq, bind_s, bind_s, inB_iff.2 hb]; rfl
    · show ((w7lostIn r7.1).bind _) = _
      rw [lostIn_eq _ (by omega) (fun r hr => by have := d4 r hr; omega), bind_s, hn7]
      simp
    · rw [cond_false]
      exact tdet (his _ ⟨s7, hs7⟩) (fin_tells rfl)
end Go.Proofs.YtmbgmefmkjeahaaDoor.Rt
