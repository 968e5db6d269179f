/- Plain laws of the slave seat: a tale that is made up, and its line. Under the conditions that each names. -/
import Derived.Test.YtmbgmefmkjeahaaDoorC13PV
import Derived.Test.YtmbgmefmkjeahaaDoorC13WNZ
set_option linter.unusedVariables false
set_option linter.unusedSimpArgs false
set_option maxRecDepth 100000
set_option maxHeartbeats 4000000
namespace Go.Proofs.YtmbgmefmkjeahaaDoor.Rt
open Go Go.RowKit
theorem At_any (l : List Int) (hl : (l.length : Int) ≤ 9223372036854775807) (n : Int) : ∃ v, r0At l n = some v := by
  unfold r0At
  by_cases h : l.length = 0
  · have : ((l.length : Int) == 0) = true := by rw [beq_iff_eq]; omega
    rw [this]; exact ⟨0, rfl⟩
  · have e : ((l.length : Int) == 0) = false := by rw [beq_eq_false_iff_ne]; omega
    obtain ⟨r, e1, e2, e3⟩ := rest_any n (by_ := (l.length : Int)) (by omega) hl
    rw [e, cond_false, e1, bind_s, idx_int e2 e3]
    exact ⟨_, rfl⟩
theorem moved_eq {R : Int} (h1 : 2 ≤ R) (h2 : R ≤ 60) {s : SlaveStart} (hs : OkT R s) {sign : Int} (hg : sign = 0 ∨ sign = 1) : w7moved R s sign = some (afterF R s sign) := by
  have ha := hs.a; have hb := hs.b
  unfold w7moved afterF
  rw [beqI, if_neg (show ¬ sign = -1 by omega), if_pos (show R ≠ 0 by omega), wr_id' (by omega) (by omega), tmod_eq (by omega)]
  by_cases h : s.Last = sign
  · rw [decide_eq_true h, cond_true, if_neg (fun g => g h)]
  · rw [decide_eq_false h, cond_false, if_pos h]
theorem homeF_succ {R z : Int} (hR : 2 ≤ R) (h0 : 0 ≤ z) (h1 : z < R) (i : Nat) (hne : homeF R (i : Int) z ≠ 0) : (homeF R (i : Int) z + 1) % R = homeF R ((i + 1 : Nat) : Int) z := by
  unfold homeF at hne ⊢
  by_cases hz : z = 0
  · rw [if_pos hz] at hne; exact absurd rfl hne
  · rw [if_neg hz] at hne ⊢
    rw [if_neg hz]
    by_cases hl : R ≤ z + (i : Int)
    · rw [if_pos hl] at hne; exact absurd rfl hne
    · rw [if_neg hl]
      by_cases hl2 : R ≤ z + ((i + 1 : Nat) : Int)
      · rw [if_pos hl2, show z + (i : Int) + 1 = R by omega, Int.emod_self]
      · rw [if_neg hl2, Int.emod_eq_of_lt (by omega) (by omega)]; omega
theorem homeF_stay {R z : Int} (h0 : 0 ≤ z) (i m : Nat) (hi : i ≤ m) (he : homeF R (i : Int) z = 0) : homeF R (m : Int) z = 0 := by
  unfold homeF at he ⊢
  split
  · rfl
  · next hz =>
    rw [if_neg hz] at he
    split at he
    · rw [if_pos (by omega)]
    · omega
theorem homed_eq {R : Int} (h1 : 2 ≤ R) (h2 : R ≤ 60) {s : SlaveStart} (hs : OkT R s) {many : Nat} (hm : many ≤ 1000) : w7homed R s (many : Int) = some ⟨homeF R (many : Int) s.Shown, s.Last⟩ := by
  have ha := hs.a; have hb := hs.b
  unfold w7homed
  have key : ∀ (d i : Nat), i + d = many → loopU (w7homed_b1 R s (many : Int)) ((i : Int), homeF R (i : Int) s.Shown) = some ⟨homeF R (many : Int) s.Shown, s.Last⟩ := by
    intro d
    induction d with
    | zero =>
      intro i hd
      have e : i = many := by omega
      subst e
      apply loopU_ext
      unfold w7homed_b1
      dsimp only
      rw [lt_f]; rfl
    | succ d ih =>
      intro i hd
      have hi : i < many := by omega
      have hh := homeF_bd (R := R) (h := (i : Int)) (z := s.Shown) h1 (by omega) ha hb
      by_cases h0 : homeF R (i : Int) s.Shown = 0
      · apply loopU_ext
        unfold w7homed_b1
        dsimp only
        rw [h0, homeF_stay ha i many (by omega) h0, lt_t hi]; rfl
      · have hbody : w7homed_b1 R s (many : Int) ((i : Int), homeF R (i : Int) s.Shown) = nxt (((i + 1 : Nat) : Int), homeF R ((i + 1 : Nat) : Int) s.Shown) := by
          unfold w7homed_b1
          dsimp only
          rw [lt_t hi, bneI, decide_eq_true h0, Bool.and_true, cond_true, if_pos (show R ≠ 0 by omega), wr_succ (by omega), wr_id' (n := homeF R (i : Int) s.Shown + 1) (by omega) (by omega), tmod_eq (by omega), homeF_succ h1 ha hb i h0]
        rw [loopU_nxt hbody]
        exact ih (i + 1) (by omega)
  have h0 : homeF R ((0 : Nat) : Int) s.Shown = s.Shown := by
    unfold homeF
    split
    · next h => exact h.symm
    · rw [if_neg (by omega)]; omega
  have := key many 0 (by omega)
  rw [h0] at this
  exact this
theorem home_1 {R : Int} (h1 : 2 ≤ R) {s : SlaveStart} (hs : OkT R s) : SlaveStart.mk (homeF R 1 s.Shown) s.Last = afterF R s (-1) := by
  have ha := hs.a; have hb := hs.b
  unfold homeF afterF
  rw [if_pos rfl]
  by_cases h : s.Shown = 0
  · rw [if_pos h, if_neg (fun g => g h)]
    cases s; simp only at h; rw [h]
  · rw [if_neg h, if_pos h]
    by_cases h2 : R ≤ s.Shown + 1
    · rw [if_pos h2, show s.Shown + 1 = R by omega, Int.emod_self]
    · rw [if_neg h2, Int.emod_eq_of_lt (by omega) (by omega)]
section
variable {l : SlaveLine} {bits : List Int}
theorem was_pulses (h1 : 2 ≤ l.Ring) (h2 : l.Ring ≤ 60) {n : Int} {x : SlaveEvent} (hx : OkE n l.Ring x) (hk : x.Kind ≠ 2) (hb : (bits.length : Int) ≤ 9223372036854775807) {s : SlaveStart} (hs : OkT l.Ring s) (story : List (List Int)) (hst : story.length ≤ 1000) {next : Nat} (hn : next ≤ 10000) {i : Nat} (hi : i ≤ 1000) (evs : List SlaveEvent) :
    ∃ ls next', loopU (w7was_b3 l bits story (i : Int) x evs) ((next : Int), ([] : List Int), 0, s.Shown, s.Last) = nxt (story ++ [ls], ((next' : Nat) : Int), ((i + 1 : Nat) : Int), evs, (runP l.Ring x ls x.Count.toNat s).Shown, (runP l.Ring x ls x.Count.toNat s).Last) ∧ Loss x.Count.toNat ls ∧ (ls.length : Int) ≤ x.Lost ∧ next' ≤ next + 60 := by
  have hc := hx.c hk
  refine loopU_for (fun p (t : Int × List Int × Int × Int × Int) => t.1 = ((next + p : Nat) : Int) ∧ t.2.2.1 = (p : Int) ∧ Loss p t.2.1 ∧ (t.2.1.length : Int) ≤ x.Lost ∧ SlaveStart.mk t.2.2.2.1 t.2.2.2.2 = runP l.Ring x t.2.1 p s) x.Count.toNat
    (Post := fun o => ∃ ls next', o = nxt (story ++ [ls], ((next' : Nat) : Int), ((i + 1 : Nat) : Int), evs, (runP l.Ring x ls x.Count.toNat s).Shown, (runP l.Ring x ls x.Count.toNat s).Last) ∧ Loss x.Count.toNat ls ∧ (ls.length : Int) ≤ x.Lost ∧ next' ≤ next + 60)
    ⟨rfl, rfl, Loss.nil 0, by simp; omega, rfl⟩ ?_ ?_
  · rintro p ⟨_, lost, _, z2, z3⟩ hp ⟨rfl, rfl, hl, hll, hz⟩
    simp only at hl hll hz
    have hT := hs.run h1 x lost p
    have hlt : (p : Int) < x.Count := by omega
    have e1 : wr (((next + p : Nat) : Int) + 1) = ((next + (p + 1) : Nat) : Int) := by rw [wr_succ (by omega)]; omega
    have e2 : wr ((p : Int) + 1) = ((p + 1 : Nat) : Int) := wr_succ (by omega)
    obtain ⟨v, hv⟩ := At_any bits hb (((next + (p + 1) : Nat) : Int))
    obtain ⟨q, hq, _, _⟩ := rest_any v (by_ := 4) (by decide) (by decide)
    have hbody : w7was_b3 l bits story (i : Int) x evs (((next + p : Nat) : Int), lost, (p : Int), z2, z3) = cond (decide ((lost.length : Int) < x.Lost) && (q == 0)) (nxt (((next + (p + 1) : Nat) : Int), lost ++ [(p : Int)], ((p + 1 : Nat) : Int), z2, z3))
        (nxt (((next + (p + 1) : Nat) : Int), lost, ((p + 1 : Nat) : Int), (stepF l.Ring x p (runP l.Ring x lost p s)).Shown, (stepF l.Ring x p (runP l.Ring x lost p s)).Last)) := by
      unfold w7was_b3
      dsimp only
      rw [show decide ((p : Int) < x.Count) = true by simpa using hlt, bneI, decide_eq_true hk, Bool.and_true, cond_true, e1, hv, bind_s, hq, bind_s, cond_b_some, bind_s, e2, hz]
      cases hcb : (decide ((lost.length : Int) < x.Lost) && (q == 0)) with
      | true =>
        rw [cond_true, if_pos (by simp only [List.length_singleton]; unfold lim; omega)]; rfl
      | false =>
        rw [cond_false, cond_false, beqI]
        by_cases hk1 : x.Kind = 1
        · have hh := homed_eq h1 h2 hT (many := 1) (by decide)
          rw [show ((1 : Nat) : Int) = 1 from rfl] at hh
          rw [decide_eq_true hk1, cond_true, hh, bind_s, home_1 h1 hT]
          have : stepF l.Ring x p (runP l.Ring x lost p s) = afterF l.Ring (runP l.Ring x lost p s) (-1) := by unfold stepF signF; rw [if_pos hk1]
          rw [this]
        · have hf := hx.f (by have := hx.k; omega)
          have hm0 := Int.emod_nonneg (x.First + (p : Int)) (show (2 : Int) ≠ 0 by decide)
          have hm1 := Int.emod_lt_of_pos (x.First + (p : Int)) (show (0 : Int) < 2 by decide)
          rw [decide_eq_false hk1, cond_false, wr_id' (n := x.First + (p : Int)) (by omega) (by omega), rest_nn (by omega) (by decide), bind_s, moved_eq h1 h2 hT (by omega), bind_s]
          have : stepF l.Ring x p (runP l.Ring x lost p s) = afterF l.Ring (runP l.Ring x lost p s) ((x.First + (p : Int)) % 2) := by unfold stepF signF; rw [if_neg hk1]
          rw [this]
    cases hcb : (decide ((lost.length : Int) < x.Lost) && (q == 0)) with
    | true =>
      rw [hcb] at hbody
      refine ⟨_, hbody, rfl, rfl, hl.snoc, ?_, ?_⟩
      · simp only [Bool.and_eq_true, decide_eq_true_eq] at hcb
        simp only [List.length_append, List.length_singleton]; omega
      · simp only [runP]
        rw [if_pos (by simp), runP_snoc _ _ _ _ _ _ (by omega)]
        exact hz
    | false =>
      rw [hcb] at hbody
      refine ⟨_, hbody, rfl, rfl, hl.succ, hll, ?_⟩
      simp only [runP, if_neg hl.notin]
  · rintro ⟨_, lost, _, z2, z3⟩ ⟨rfl, rfl, hl, hll, hz⟩
    simp only at hl hll hz
    refine ⟨_, ?_, lost, next + x.Count.toNat, rfl, hl, hll, by omega⟩
    unfold w7was_b3
    dsimp only
    rw [show decide (((x.Count.toNat : Nat) : Int) < x.Count) = false by simp; omega, Bool.false_and, cond_false, if_pos (by simp only [List.length_singleton]; unfold lim; omega), wr_succ (by omega), ← hz]
structure Was (l l' : SlaveLine) (w i : Nat) (story : List (List Int)) (s : SlaveStart) : Prop where
  r : l'.Ring = l.Ring
  st : l'.Starts = l.Starts
  len : l'.Events.length = l.Events.length
  ok : OkS l'
  Ok : Ok_SlaveLine l'
  sto : Sto l' w wo0 i story s
  rest : ∀ j, i ≤ j → l'.Events[j]? = l.Events[j]?
theorem was_step (hO : Ok_SlaveLine l) (hS : OkS l) {w : Nat} (hw : w < l.Starts.length) (hb : (bits.length : Int) ≤ 9223372036854775807) {i : Nat} (hi : i < l.Events.length) {story : List (List Int)} {s : SlaveStart} {next : Nat} (hn : next ≤ 60 * i) {evs : List SlaveEvent} (hW : Was l ⟨l.Ring, l.Starts, evs⟩ w i story s) :
    ∃ story' next' evs' s', w7was_b1 l (w : Int) bits (story, (next : Int), (i : Int), evs, s.Shown, s.Last) = nxt (story', ((next' : Nat) : Int), ((i + 1 : Nat) : Int), evs', s'.Shown, s'.Last) ∧ next' ≤ 60 * (i + 1) ∧ Was l ⟨l.Ring, l.Starts, evs'⟩ w (i + 1) story' s' := by
  have h10 := hS.e
  have hx := hS.at hi
  have hT := hW.sto.okT hW.ok
  obtain ⟨b1, b2, b3, b4⟩ := hW.sto.bd hW.ok
  have hlen : evs.length = l.Events.length := hW.len
  have hie : i < evs.length := by omega
  have hat : evs[i]'hie = l.Events[i] := by
    have := hW.rest i (Nat.le_refl _)
    rw [List.getElem?_eq_getElem hie, List.getElem?_eq_getElem hi] at this
    injection this
  have e1 : wr ((i : Int) + 1) = ((i + 1 : Nat) : Int) := wr_succ (by omega)
  -- a look: the loop of pulses ends at once
  have hlook : l.Events[i].Kind = 2 → ∀ evs', w7was_k2 l bits story (next : Int) (i : Int) s.Shown s.Last l.Events[i] evs' = nxt (story ++ [[]], (next : Int), ((i + 1 : Nat) : Int), evs', s.Shown, s.Last) := by
    intro hk evs'
    unfold w7was_k2
    apply loopU_ext
    unfold w7was_b3
    dsimp only
    rw [bneI, decide_eq_false (show ¬ l.Events[i].Kind ≠ 2 from fun h => h hk), Bool.and_false, cond_false, if_pos (by simp only [List.length_singleton]; unfold lim; omega), e1]
  unfold w7was_b1
  dsimp only
  rw [lt_t hi, cond_true, idx_get hi, bind_s, beqI, beqI]
  by_cases hk : l.Events[i].Kind = 2
  · by_cases hwho : l.Events[i].Who = (w : Int)
    · rw [decide_eq_true hk, decide_eq_true hwho, Bool.and_true, cond_true, look_eq, bind_s, if_pos (by omega), Int.toNat_natCast, hlook hk]
      have ha := hT.a; have hbd := hT.b; have hr2 := hS.r2
      change s.Shown < l.Ring at hbd
      have hn1 := hS.n2
      have hye : OkE l.Starts.length l.Ring (lookE (w : Int) s.Shown) := ⟨.inr (.inr rfl), fun h => (by cases h), fun h => absurd rfl h, fun _ => (by unfold lookE; dsimp only; omega)⟩
      refine ⟨_, next, evs.set i (lookE (w : Int) s.Shown), s, rfl, by omega, rfl, rfl, by simp [hlen], ?_, ?_, ?_, fun j hj => ?_⟩
      · exact ⟨hS.r1, hS.r2, hS.n1, hS.n2, by simp [hlen]; exact h10, hS.s, fun x hx => by
          rcases List.mem_or_eq_of_mem_set hx with h | rfl
          · exact hW.ok.ev x h
          · exact hye.is⟩
      · exact ⟨hO.1, hO.2.1, by simp; omega, fun x hx => by
          rcases List.mem_or_eq_of_mem_set hx with h | rfl
          · exact hW.Ok.2.2.2 x h
          · exact Ok_look (inR_s (by omega) (by omega)) (inR_s (by omega) (by omega))⟩
      · have hpre : Sto ⟨l.Ring, l.Starts, evs.set i (lookE (w : Int) s.Shown)⟩ w wo0 i story s := (Sto.pre (l := ⟨l.Ring, l.Starts, evs⟩) (l' := ⟨l.Ring, l.Starts, evs.set i (lookE (w : Int) s.Shown)⟩) rfl rfl fun j hj => by
          show evs[j]? = (evs.set i _)[j]?
          rw [List.getElem?_set, if_neg (by omega)]).1 hW.sto
        have hi' : i < (SlaveLine.mk l.Ring l.Starts (evs.set i (lookE (w : Int) s.Shown))).Events.length := by simp [hie]
        have hx' : (SlaveLine.mk l.Ring l.Starts (evs.set i (lookE (w : Int) s.Shown))).Events[i] = lookE (w : Int) s.Shown := by simp
        exact Sto.look hi' (by rw [hx']; rfl) (fun _ _ => by rw [hx']; rfl) hpre
      · show (evs.set i _)[j]? = _
        rw [List.getElem?_set, if_neg (by omega)]
        exact hW.rest j (by omega)
    · rw [decide_eq_true hk, decide_eq_false hwho, Bool.and_false, cond_false, hlook hk]
      refine ⟨_, next, evs, s, rfl, by omega, rfl, rfl, hlen, hW.ok, hW.Ok, ?_, fun j hj => hW.rest j (by omega)⟩
      have hx' : (SlaveLine.mk l.Ring l.Starts evs).Events[i]'hie = l.Events[i] := hat
      exact Sto.look (l := ⟨l.Ring, l.Starts, evs⟩) hie (by rw [hx']; exact hk) (fun _ h => by rw [hx'] at h; exact absurd h hwho) hW.sto
  · rw [decide_eq_false hk, Bool.false_and, cond_false]
    unfold w7was_k2
    obtain ⟨ls, next', e, h1, h2, h3⟩ := was_pulses (bits := bits) hS.r1 hS.r2 hx hk hb hT story (by omega) (next := next) (by omega) (i := i) (by omega) evs
    rw [e]
    refine ⟨_, next', evs, _, rfl, by omega, rfl, rfl, hlen, hW.ok, hW.Ok, ?_, fun j hj => hW.rest j (by omega)⟩
    have hx' : (SlaveLine.mk l.Ring l.Starts evs).Events[i]'hie = l.Events[i] := hat
    have := Sto.send (l := ⟨l.Ring, l.Starts, evs⟩) hie (by rw [hx']; exact hk) hW.sto (ls := ls) (by rw [hx']; exact h1) (by rw [hx']; exact h2)
    rw [hx'] at this
    exact this
theorem was_eq (hO : Ok_SlaveLine l) (hS : OkS l) {w : Nat} (hw : w < l.Starts.length) (hb : (bits.length : Int) ≤ 9223372036854775807) :
    ∃ story s l', w7was l (w : Int) bits = some (story, s, l') ∧ Was l l' w l.Events.length story s := by
  have h10 := hS.e
  unfold w7was
  rw [if_pos (by simp only [List.length_nil]; unfold lim; omega), idx_get hw, bind_s, List.nil_append]
  refine loopU_for (fun i (t : List (List Int) × Int × Int × List SlaveEvent × Int × Int) => ∃ next : Nat, t.2.1 = (next : Int) ∧ next ≤ 60 * i ∧ t.2.2.1 = (i : Int) ∧ Was l ⟨l.Ring, l.Starts, t.2.2.2.1⟩ w i t.1 ⟨t.2.2.2.2.1, t.2.2.2.2.2⟩) l.Events.length
    (Post := fun o => ∃ story s l', o = some (story, s, l') ∧ Was l l' w l.Events.length story s) ⟨0, rfl, by omega, rfl, rfl, rfl, rfl, hS, hO, Sto.zero (l := l) hw, fun j _ => rfl⟩ ?_ ?_
  · rintro i ⟨story, _, _, evs, z, z1⟩ hi ⟨next, rfl, hn, rfl, hW⟩
    simp only at hW
    obtain ⟨story', next', evs', s', e, h1, h2⟩ := was_step (bits := bits) hO hS hw hb hi hn hW
    exact ⟨_, e, next', rfl, h1, rfl, h2⟩
  · rintro ⟨story, _, _, evs, z, z1⟩ ⟨next, rfl, hn, rfl, hW⟩
    simp only at hW
    refine ⟨_, ?_, story, _, _, rfl, hW⟩
    unfold w7was_b1
    dsimp only
    rw [lt_f, cond_false]
theorem Was.tale {l l' : SlaveLine} {w : Nat} {story : List (List Int)} {s : SlaveStart} (h : Was l l' w l.Events.length story s) : Tale l' w wo0 story s := by
  have := h.sto
  rw [← h.len] at this
  exact this
end
end Go.Proofs.YtmbgmefmkjeahaaDoor.Rt
