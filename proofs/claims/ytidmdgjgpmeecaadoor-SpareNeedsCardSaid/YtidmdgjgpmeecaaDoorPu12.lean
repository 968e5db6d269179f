/- What the pure function of a law comes to. Under the conditions that it names. -/
import Derived.Test.YtidmdgjgpmeecaaDoorL12
import Derived.Test.YtidmdgjgpmeecaaDoorPK
set_option linter.unusedVariables false
set_option linter.unusedSimpArgs false
set_option maxRecDepth 100000
set_option maxHeartbeats 4000000
namespace Go.Proofs.YtidmdgjgpmeecaaDoor.Rt
open Go Go.RowKit

/-- a set, with a place more that it does not hold -/
def ins (k t : Nat) : Nat := t % 2 ^ k + t / 2 ^ k * 2 ^ (k + 1)
def del (k u : Nat) : Nat := u % 2 ^ k + u / 2 ^ (k + 1) * 2 ^ k
def up (k j : Nat) : Nat := if j < k then j else j + 1
theorem dec_ins1 : ∀ k < 8, ∀ t < 128, (∀ j < 7, (ins k t).testBit (up k j) = t.testBit j) ∧ (ins k t).testBit k = false ∧ ins k t < 256 ∧ (t = 0 ↔ ins k t = 0) := by decide +kernel
theorem dec_ins2 : ∀ k < 8, ∀ t < 128, ∀ j < 7, t.testBit j = true → ins k (t - 2 ^ j) = ins k t - 2 ^ up k j := by decide +kernel
theorem dec_ins3 : ∀ n < 8, ∀ k < n + 1, ∀ t < 2 ^ n, ins k t < 2 ^ (n + 1) := by decide +kernel
theorem dec_del : ∀ n < 8, ∀ k < n + 1, ∀ u < 2 ^ (n + 1), u.testBit k = false → del k u < 2 ^ n ∧ ins k (del k u) = u := by decide +kernel
theorem dec_split : ∀ u < 256, ∀ t < 256, t &&& u = 0 → popc t + popc u = popc (t ||| u) ∧ ∀ k < 8, t.testBit k = true → u.testBit k = false := by decide +kernel
theorem up_down {k j n : Nat} (hk : k < n + 1) (hj : j < n + 1) (h : j ≠ k) : ∃ i < n, up k i = j := by
  unfold up
  by_cases h1 : j < k
  · exact ⟨j, by omega, by rw [if_pos h1]⟩
  · exact ⟨j - 1, by omega, by rw [if_neg (by omega)]; omega⟩
theorem up_lt {k i n : Nat} (hi : i < n) : up k i < n + 1 := by unfold up; split <;> omega

/-- a store without a machine -/
def wo (s : SpareStore) (k : Nat) : SpareStore := ⟨s.Hours, s.Gap, s.Machines.take k ++ s.Machines.drop (k + 1)⟩
theorem wo_len {s : SpareStore} {k : Nat} (hk : k < s.Machines.length) : (wo s k).Machines.length = s.Machines.length - 1 := by
  simp only [wo, List.length_append, List.length_take, List.length_drop]; omega
theorem wo_mach {s : SpareStore} {k j : Nat} (hk : k < s.Machines.length) : mach (wo s k) j = mach s (up k j) := by
  unfold mach up wo
  simp only [List.getD_eq_getElem?_getD]
  by_cases h : j < k
  · rw [if_pos h, List.getElem?_append_left (by simp; omega), List.getElem?_take, if_pos h]
  · rw [if_neg h, List.getElem?_append_right (by simp; omega), List.getElem?_drop]
    simp only [List.length_take]
    rw [show k + 1 + (j - min k s.Machines.length) = j + 1 by omega]
theorem wo_ok {s : SpareStore} (hS : OkS s) {k : Nat} (hk : k < s.Machines.length) (h2 : 2 ≤ s.Machines.length) : OkS (wo s k) :=
  ⟨hS.h1, hS.h2, hS.g1, hS.g2, by rw [wo_len hk]; omega, by rw [wo_len hk]; have := hS.n2; omega, fun x hx => by
    simp only [wo, List.mem_append] at hx
    rcases hx with hx | hx
    · exact hS.m x (List.mem_of_mem_take hx)
    · exact hS.m x (List.mem_of_mem_drop hx)⟩
section
variable {s : SpareStore} (hS : OkS s) {n k : Nat} (hn : s.Machines.length = n + 1) (hk : k < n + 1)
include hS hn hk
theorem wo_cand (len : SpareMachine → Int) (f g : Nat → Int) {t j : Nat} (ht : t < 2 ^ n) (hj : j < n) (hfg : ∀ u < t, f u = g (ins k u)) :
    candB (wo s k) len f t j = candB s len g (ins k t) (up k j) ∧ (t.testBit j = true → valF (wo s k) len f t j = valF s len g (ins k t) (up k j)) := by
  have h8 := hS.n2
  have hn8 : n ≤ 7 := by omega
  have ht8 : t < 128 := Nat.lt_of_lt_of_le ht (Nat.pow_le_pow_right (by decide) hn8)
  obtain ⟨a, b, c, d⟩ := dec_ins1 k (by omega) t ht8
  unfold candB valF
  rw [wo_mach (by omega), a j (by omega)]
  cases hb : t.testBit j with
  | false => exact ⟨rfl, fun h => by cases h⟩
  | true =>
    have hge := Nat.ge_two_pow_of_testBit hb
    have hp := Nat.two_pow_pos j
    rw [hfg _ (by omega), dec_ins2 k (by omega) t ht8 j (by omega) hb]
    exact ⟨rfl, fun _ => rfl⟩
theorem wo_far : ∀ t, t < 2 ^ n → far (wo s k) t = far s (ins k t) := by
  have h8 := hS.n2
  intro t
  induction t using Nat.strongRecOn with
  | ind t ih =>
    intro ht
    have ht8 : t < 128 := Nat.lt_of_lt_of_le ht (Nat.pow_le_pow_right (by decide) (show n ≤ 7 by omega))
    have hfg : ∀ u < t, far (wo s k) u = far s (ins k u) := fun u hu => ih u hu (by omega)
    obtain ⟨a, b, c, d⟩ := dec_ins1 k (by omega) t ht8
    have hwl : (wo s k).Machines.length = n := by rw [wo_len (by omega)]; omega
    have hgap : (wo s k).Gap = s.Gap := rfl
    have h1 : far (wo s k) t ≤ far s (ins k t) := by
      rcases far_case (wo s k) t with ⟨rfl, e⟩ | ⟨_, e⟩ | ⟨hj, hc, e⟩
      · rw [e, d.1 rfl, far_zero]; exact Int.le_refl _
      · rw [e]; exact far_ge s _
      · rw [hwl] at hj
        rw [hgap] at hc e
        obtain ⟨e1, e2⟩ := wo_cand hS hn hk (stintF s.Gap) (far (wo s k)) (far s) ht hj hfg
        have hb : t.testBit (farK (wo s k) t) = true := by
          have := hc; simp only [candB, Bool.and_eq_true] at this; exact this.1
        rw [e, e2 hb]
        exact far_up s (by rw [hn]; exact up_lt hj) (by rw [← e1]; exact hc)
    have h2 : far s (ins k t) ≤ far (wo s k) t := by
      rcases far_case s (ins k t) with ⟨e0, e⟩ | ⟨_, e⟩ | ⟨hj, hc, e⟩
      · rw [e, d.2 e0, far_zero]; exact Int.le_refl _
      · rw [e]; exact far_ge _ t
      · have hb : (ins k t).testBit (farK s (ins k t)) = true := by
          have := hc; simp only [candB, Bool.and_eq_true] at this; exact this.1
        have hne : farK s (ins k t) ≠ k := fun h => by rw [h, b] at hb; cases hb
        obtain ⟨i, hi, hui⟩ := up_down hk (show farK s (ins k t) < n + 1 by omega) hne
        obtain ⟨e1, e2⟩ := wo_cand hS hn hk (stintF s.Gap) (far (wo s k)) (far s) ht hi hfg
        rw [hui] at e1 e2
        have hbi : t.testBit i = true := by rw [← a i (by omega), hui]; exact hb
        rw [e, ← e2 hbi]
        exact far_up (wo s k) (by rw [hwl]; exact hi) (by rw [hgap, e1]; exact hc)
    omega
theorem wo_tell {t : Nat} (ht : t < 2 ^ n) : tell (wo s k) t = tell s (ins k t) := by
  have h8 := hS.n2
  have ht8 : t < 128 := Nat.lt_of_lt_of_le ht (Nat.pow_le_pow_right (by decide) (show n ≤ 7 by omega))
  have hfg : ∀ u < t, far (wo s k) u = far s (ins k u) := fun u hu => wo_far hS hn hk u (by omega)
  obtain ⟨a, b, c, d⟩ := dec_ins1 k (by omega) t ht8
  have hwl : (wo s k).Machines.length = n := by rw [wo_len (by omega)]; omega
  have h1 : tell (wo s k) t ≤ tell s (ins k t) := by
    rcases tell_case (wo s k) t with e | ⟨hj, hc, e⟩
    · rw [e]; exact tell_ge s _
    · rw [hwl] at hj
      obtain ⟨e1, e2⟩ := wo_cand hS hn hk lastF (far (wo s k)) (far s) ht hj hfg
      have hb : t.testBit (tellP (wo s k) t).2 = true := by
        have := hc; simp only [candB, Bool.and_eq_true] at this; exact this.1
      rw [e, e2 hb]
      exact tell_up s (by rw [hn]; exact up_lt hj) (by rw [← e1]; exact hc)
  have h2 : tell s (ins k t) ≤ tell (wo s k) t := by
    rcases tell_case s (ins k t) with e | ⟨hj, hc, e⟩
    · rw [e]; exact tell_ge _ t
    · have hb : (ins k t).testBit (tellP s (ins k t)).2 = true := by
        have := hc; simp only [candB, Bool.and_eq_true] at this; exact this.1
      have hne : (tellP s (ins k t)).2 ≠ k := fun h => by rw [h, b] at hb; cases hb
      obtain ⟨i, hi, hui⟩ := up_down hk (show (tellP s (ins k t)).2 < n + 1 by omega) hne
      obtain ⟨e1, e2⟩ := wo_cand hS hn hk lastF (far (wo s k)) (far s) ht hi hfg
      rw [hui] at e1 e2
      have hbi : t.testBit i = true := by rw [← a i (by omega), hui]; exact hb
      rw [e, ← e2 hbi]
      exact tell_up (wo s k) (by rw [hwl]; exact hi) (by rw [e1]; exact hc)
  omega
/-- without a machine there is a plan just if there is one that does not need it -/
theorem wo_few : fewF (wo s k) = 100 ↔ fewD s (2 ^ k) = 100 := by
  have h8 := hS.n2
  have hwl : (wo s k).Machines.length = n := by rw [wo_len (by omega)]; omega
  have hs1 : sets (wo s k) = 2 ^ n := by unfold sets; rw [hwl]
  have hs2 : sets s = 2 ^ (n + 1) := by unfold sets; rw [hn]
  have p1 : 2 ^ n ≤ 256 := by have := Nat.pow_le_pow_right (show 0 < 2 by decide) (show n ≤ 8 by omega); simpa using this
  have p2 : 2 ^ (n + 1) ≤ 256 := by have := Nat.pow_le_pow_right (show 0 < 2 by decide) (show n + 1 ≤ 8 by omega); simpa using this
  have hex : (∃ t < 2 ^ n, okB (wo s k) t = true) ↔ ∃ u < 2 ^ (n + 1), (u &&& 2 ^ k == 0 && okB s u) = true := by
    constructor
    · rintro ⟨t, ht, h⟩
      refine ⟨ins k t, dec_ins3 n (by omega) k hk t ht, ?_⟩
      have ht8 : t < 128 := Nat.lt_of_lt_of_le ht (Nat.pow_le_pow_right (by decide) (show n ≤ 7 by omega))
      obtain ⟨a, b, c, d⟩ := dec_ins1 k (by omega) t ht8
      rw [dec_bitk _ c k (by omega), b]
      unfold okB at h ⊢
      rw [wo_tell hS hn hk ht] at h
      exact h
    · rintro ⟨u, hu, h⟩
      rw [dec_bitk u (by omega) k (by omega)] at h
      simp only [Bool.and_eq_true, Bool.not_eq_true'] at h
      obtain ⟨q1, q2⟩ := dec_del n (by omega) k hk u hu h.1
      refine ⟨del k u, q1, ?_⟩
      unfold okB at h ⊢
      rw [wo_tell hS hn hk q1, q2]
      exact h.2
  have f1 : fewF (wo s k) = minF (okB (wo s k)) (2 ^ n) := by unfold fewF; rw [hs1]
  have f2 : fewD s (2 ^ k) = minF (fun t => t &&& 2 ^ k == 0 && okB s t) (2 ^ (n + 1)) := by unfold fewD; rw [hs2]
  rw [f1, f2]
  constructor
  · intro h
    rcases minF_spec (fun t => t &&& 2 ^ k == 0 && okB s t) (2 ^ (n + 1)) p2 with ⟨a, _⟩ | ⟨a, ⟨u, hu, hp, _⟩, _⟩
    · exact a
    · obtain ⟨t, ht, hq⟩ := hex.2 ⟨u, hu, hp⟩
      rcases minF_spec (okB (wo s k)) (2 ^ n) p1 with ⟨_, b⟩ | ⟨b, _⟩
      · rw [b t ht] at hq; cases hq
      · omega
  · intro h
    rcases minF_spec (okB (wo s k)) (2 ^ n) p1 with ⟨a, _⟩ | ⟨a, ⟨t, ht, hp, _⟩, _⟩
    · exact a
    · obtain ⟨u, hu, hq⟩ := hex.1 ⟨t, ht, hp⟩
      rcases minF_spec (fun t => t &&& 2 ^ k == 0 && okB s t) (2 ^ (n + 1)) p2 with ⟨_, b⟩ | ⟨b, _⟩
      · have hb := b u hu
        rw [hb] at hq; cases hq
      · omega
end
theorem without_eq {s : SpareStore} (hS : OkS s) {k : Nat} (hk : k < s.Machines.length) : remontoirlaw08_without s (k : Int) = some (wo s k) := by
  have hn := hS.n2
  have w1 : wr ((k : Int) + 1) = ((k + 1 : Nat) : Int) := wr_id' (by omega) (by omega)
  unfold remontoirlaw08_without
  rw [if_pos (by omega), if_pos (by simp only [List.length_nil, List.length_take, lim]; omega), w1, if_pos (by omega),
    if_pos (by simp only [List.nil_append, List.length_take, List.length_drop, lim]; omega)]
  simp only [List.nil_append, Int.toNat_natCast, wo]
/-- two plans that share nothing -/
theorem pair_spec {s : SpareStore} (hS : OkS s) (h : pairN s (sets s) ≠ 100) : ∃ t < sets s, ∃ u < sets s, okB s t = true ∧ okB s u = true ∧ t &&& u = 0 ∧ pairN s (sets s) = (popc t : Int) + (popc u : Int) := by
  have h8 := sets8 hS
  have key : ∀ m, m ≤ sets s → pairN s m = 100 ∨ ∃ t < sets s, okB s t = true ∧ pairN s m = (popc t : Int) + fewD s t := by
    intro m
    induction m with
    | zero => intro _; exact .inl rfl
    | succ m ih =>
      intro hm
      rw [pairN_succ]
      split
      · rename_i hok
        rcases Int.le_total (pairN s m) ((popc m : Int) + fewD s m) with hle | hle
        · rw [Int.min_eq_left hle]; exact ih (by omega)
        · rw [Int.min_eq_right hle]; exact .inr ⟨m, by omega, hok, rfl⟩
      · exact ih (by omega)
  rcases key (sets s) (Nat.le_refl _) with e | ⟨t, ht, hok, e⟩
  · exact absurd e h
  · have hb := pairN_bd hS (sets s) h8
    have hpt := (dec_pop0 t (by omega)).2
    rcases minF_spec (fun u => u &&& t == 0 && okB s u) (sets s) h8 with ⟨a, _⟩ | ⟨a, ⟨u, hu, hp, e2⟩, _⟩
    · have e3 : fewD s t = 100 := a
      have := pairN_pos hS (sets s) h8
      have h1 : 1 ≤ popc t := by
        rcases Nat.eq_zero_or_pos t with rfl | hpos
        · exfalso
          unfold okB at hok; rw [tell_zero] at hok
          have := hS.h1
          simp only [decide_eq_true_eq] at hok; omega
        · have := (dec_pop0 t (by omega)).1; omega
      omega
    · simp only [Bool.and_eq_true, beq_iff_eq] at hp
      refine ⟨t, ht, u, hu, hok, hp.2, by rw [Nat.and_comm]; exact hp.1, ?_⟩
      rw [e]; show _ + minF _ _ = _; rw [e2]
theorem few_min {s : SpareStore} (hS : OkS s) {t : Nat} (ht : t < sets s) (hok : okB s t = true) : fewF s ≤ popc t := by
  rcases minF_spec (okB s) (sets s) (sets8 hS) with ⟨_, b⟩ | ⟨_, _, b⟩
  · rw [b t ht] at hok; cases hok
  · exact b t ht hok
theorem needN_any {s : SpareStore} {n k : Nat} (hk : k < n) : (needN s n).any (· == (k : Int)) = needB s k := by
  unfold needN
  rw [any_filter, decide_eq_true hk, Bool.true_and]
theorem needN_nil {s : SpareStore} (hS : OkS s) (h : pairN s (sets s) ≠ 100) : needN s s.Machines.length = [] := by
  obtain ⟨t, ht, u, hu, h1, h2, h3, _⟩ := pair_spec hS h
  have h8 := sets8 hS
  unfold needN
  have : (List.range s.Machines.length).filter (needB s) = [] := by
    rw [List.filter_eq_nil_iff]
    intro k hk hb
    rw [List.mem_range] at hk
    have hk8 : k < 8 := by have := hS.n2; omega
    simp only [needB, decide_eq_true_eq] at hb
    have hno : ∀ v < sets s, okB s v = true → v.testBit k = true := fun v hv hok => by
      rcases minF_spec (fun u => u &&& 2 ^ k == 0 && okB s u) (sets s) h8 with ⟨_, b⟩ | ⟨a, _⟩
      · have hb2 := b v hv
        simp only [hok, Bool.and_true] at hb2
        rw [dec_bitk v (by omega) k hk8] at hb2
        simpa using hb2
      · have e : fewD s (2 ^ k) = minF (fun u => u &&& 2 ^ k == 0 && okB s u) (sets s) := rfl
        omega
    have := (dec_split u (by omega) t (by omega) h3).2 k hk8 (hno t ht h1)
    rw [hno u hu h2] at this; cases this
  rw [this]; rfl
theorem pair_bounds {s : SpareStore} (hS : OkS s) (h : pairN s (sets s) ≠ 100) : 2 * fewF s ≤ pairN s (sets s) ∧ pairN s (sets s) ≤ s.Machines.length := by
  obtain ⟨t, ht, u, hu, h1, h2, h3, e⟩ := pair_spec hS h
  have h8 := sets8 hS
  have a := few_min hS ht h1
  have b := few_min hS hu h2
  have c := (dec_split u (by omega) t (by omega) h3).1
  have hor : t ||| u < 2 ^ s.Machines.length := Nat.or_lt_two_pow ht hu
  have d := dec_popn s.Machines.length (by have := hS.n2; omega) _ hor
  rw [e]
  omega
theorem pure_12 (sv : SpareStore) (machine : Int) (hs : Ok_SpareStore sv) (_ : InR machine) : remontoirlaw08_SpareNeeds sv machine = some true := by
  unfold remontoirlaw08_SpareNeeds
  simp only [Need_eq sv hs, Fewest_eq sv hs, Pair_eq sv hs, sound_eq sv hs, works_eq, bind_s]
  cases hg : goodB sv with
  | false => unfold needF fewestF pairF; rw [hg]; rfl
  | true =>
    have hS := OkS.of hg
    have hn := hS.n1; have hn2 := hS.n2
    rw [fewest_good hS]
    unfold needF pairF
    rw [hg, if_pos rfl, if_pos rfl]
    by_cases hf : fewF sv = 100
    · have hp : pairN sv (sets sv) = 100 := by
        refine Classical.byContradiction fun h => ?_
        have := pair_bounds hS h
        omega
      have hc0 := Climbs_eq sv.Machines.length (by omega) [] (by simp) rfl
      rw [if_pos hf, if_pos hf, if_pos hp]
      simp only [Bool.not_true, bne_self_eq_false, cond_false, hc0, bind_s]
      rfl
    · have hle := few_le hS hf
      rw [if_neg hf, if_neg hf]
      simp only [Bool.not_true, cond_false, bne_self_eq_false]
      have hcl : remontoirref00_Climbs (needN sv sv.Machines.length) (sv.Machines.length : Int) = some true := by
        refine Climbs_eq _ (by omega) _ (by have := needN_len sv sv.Machines.length; omega) ?_
        unfold needN
        have := climb_filter sv.Machines.length (needB sv) sv.Machines.length 0 0 (by omega) (Int.le_refl _)
        rw [← List.range_eq_range'] at this
        exact this
      rw [hcl]
      simp only [bind_s, Bool.not_true]
      have hw : wr (2 * fewF sv) = 2 * fewF sv := wr_id' (by omega) (by omega)
      have hone : sv.Machines.length = 1 → needN sv sv.Machines.length = [0] := fun h1 => by
        have hb : needB sv 0 = true := by
          unfold needB fewD
          have e : sets sv = 2 := by unfold sets; rw [h1]
          rw [e]
          have z0 : okB sv 0 = false := by unfold okB; rw [tell_zero]; have := hS.h1; simp; omega
          have : minF (fun t => t &&& 2 ^ 0 == 0 && okB sv t) 2 = 100 := by
            rw [minF_succ, minF_succ]
            simp only [z0, Bool.and_false]
            rfl
          rw [this]; rfl
        rw [h1, needN_succ, hb]; rfl
      -- behind the pair
      have hrest : (cond ((sv.Machines.length : Int) == 1)
          ((remontoirref00_Alike (needN sv sv.Machines.length) ([0])).bind fun rv_7 => (cond rv_7 (some true) (some false)).bind fun t_3 => some t_3)
          ((remontoirref00_Rest machine (sv.Machines.length : Int)).bind fun rv_9 => (remontoirlaw08_without sv rv_9).bind fun rv_10 => (spare_Fewest rv_10).bind fun rv_11 =>
            (remontoirref00_Find (needN sv sv.Machines.length) rv_9).bind fun rv_12 =>
            (cond (((rv_11.2 == 4) == (decide (rv_12 ≥ 0))) && ((rv_11.2 == 0) || (rv_11.2 == 4))) (some true) (some false)).bind fun t_4 => some t_4)) = some true := by
        by_cases h1 : sv.Machines.length = 1
        · rw [show ((sv.Machines.length : Int) == 1) = true by rw [h1]; rfl, cond_true, hone h1, Alike_eq [0] [0] (by decide)]; rfl
        · rw [show ((sv.Machines.length : Int) == 1) = false by rw [beq_eq_false_iff_ne]; omega, cond_false]
          obtain ⟨r, a1, a2, a3⟩ := rest_any machine (by_ := (sv.Machines.length : Int)) (by omega) (by omega)
          obtain ⟨k, rfl⟩ := Int.eq_ofNat_of_zero_le a2
          have hk : k < sv.Machines.length := by omega
          obtain ⟨n, hnn⟩ : ∃ n, sv.Machines.length = n + 1 := ⟨sv.Machines.length - 1, by omega⟩
          have hW := wo_ok hS hk (by omega)
          have hWo : Ok_SpareStore (wo sv k) := ⟨hs.1, hs.2.1, by rw [wo_len hk]; omega, fun x hx => by
            simp only [wo, List.mem_append] at hx
            rcases hx with hx | hx
            · exact hs.2.2.2 x (List.mem_of_mem_take hx)
            · exact hs.2.2.2 x (List.mem_of_mem_drop hx)⟩
          obtain ⟨q, e1, e2⟩ := loop_find (needN sv sv.Machines.length) (k : Int) (by have := needN_len sv sv.Machines.length; omega)
          rw [a1]
          simp only [bind_s, without_eq hS hk, Fewest_eq _ hWo, e1, e2, needN_any hk]
          rw [fewest_good hW]
          have hiff := wo_few hS hnn (k := k) (by omega)
          unfold needB
          by_cases hd : fewD sv (2 ^ k) = 100
          · rw [if_pos (hiff.2 hd), decide_eq_true hd]; rfl
          · rw [if_neg (fun h => hd (hiff.1 h)), decide_eq_false hd]; rfl
      by_cases hp : pairN sv (sets sv) = 100
      · rw [if_pos hp]
        exact hrest
      · rw [if_neg hp]
        obtain ⟨p1, p2⟩ := pair_bounds hS hp
        have hnil := needN_nil hS hp
        rw [hw]
        simp only [hnil, List.length_nil]
        rw [decide_eq_false (show ¬ pairN sv (sets sv) < 2 * fewF sv by omega), decide_eq_false (show ¬ pairN sv (sets sv) > (sv.Machines.length : Int) by omega)]
        rw [hnil] at hrest
        exact hrest
end Go.Proofs.YtidmdgjgpmeecaaDoor.Rt
