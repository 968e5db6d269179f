/- Plain laws of the spare seat: Fewest, Reach, Need and Pair are the reference's. Under the conditions that each names. -/
import Derived.Test.YtidmdgjgpmeecaaDoorC14PE
set_option linter.unusedVariables false
set_option linter.unusedSimpArgs false
set_option maxRecDepth 100000
set_option maxHeartbeats 4000000
namespace Go.Proofs.YtidmdgjgpmeecaaDoor.Rt
open Go Go.RowKit
def sets (s : SpareStore) : Nat := 2 ^ s.Machines.length
theorem sets8 {s : SpareStore} (hs : OkS s) : sets s ≤ 256 := pow_n hs.n2
theorem sets1 (s : SpareStore) : 1 ≤ sets s := pow1 _
def okB (s : SpareStore) (t : Nat) : Bool := decide (s.Hours ≤ tell s t)
def fewF (s : SpareStore) : Int := minF (okB s) (sets s)
theorem and_all {s : SpareStore} (hs : OkS s) {t : Nat} (ht : t < sets s) : (t &&& (sets s - 1) == t) = true := by
  have := dec_disj s.Machines.length (by have := hs.n2; omega) 0 (sets1 s) t ht
  rw [Nat.sub_zero] at this
  rw [show (t &&& (sets s - 1) == t) = _ from this]; simp
theorem and_sets {s : SpareStore} (hs : OkS s) {t u : Nat} (ht : t < sets s) (hu : u < sets s) : (t &&& (sets s - 1 - u) == t) = (t &&& u == 0) :=
  dec_disj s.Machines.length (by have := hs.n2; omega) u hu t ht
def fewD (s : SpareStore) (u : Nat) : Int := minF (fun t => t &&& u == 0 && okB s t) (sets s)
theorem fewD_zero (s : SpareStore) : fewD s 0 = fewF s := minF_congr fun t _ => by simp
theorem pfewD {s : SpareStore} (hs : OkS s) {x : spare_store} (hx : Full s x) {u : Nat} (hu : u < sets s) :
    ∃ b : Nat, spare_store_fewest x ((sets s - 1 - u : Nat) : Int) = some (b : Int) ∧ b < sets s ∧ fewD s u = (if b = 0 then 100 else (popc b : Int)) := by
  have h1 := sets1 s
  obtain ⟨b, hb, hf⟩ := fewest_eq hs hx (all := sets s - 1 - u) (by show _ < sets s; omega)
  refine ⟨b, hb, ?_, ?_⟩
  · rcases hf with ⟨rfl, _⟩ | ⟨_, h, _⟩
    · omega
    · exact h
  · rw [← hf.min (sets8 hs)]
    refine minF_congr fun t ht => ?_
    unfold enoughB
    rw [and_sets hs ht hu]; rfl
def fewestF (s : SpareStore) : Int × Int := if goodB s then if fewF s = 100 then (0, 4) else (fewF s, 0) else (0, 80)
theorem minF_cases (p : Nat → Bool) {m : Nat} (hm : m ≤ 256) : minF p m = 100 ∨ (0 ≤ minF p m ∧ minF p m ≤ 8) := by
  rcases minF_spec p m hm with h | ⟨h1, ⟨t, _, _, e⟩, _⟩
  · exact .inl h.1
  · right; omega
theorem Fewest_eq (s : SpareStore) (hs : Ok_SpareStore s) : spare_Fewest s = some (fewestF s) := by
  unfold spare_Fewest fewestF
  rw [spare_Check_eq s hs]
  cases hg : goodB s with
  | false => rfl
  | true =>
    have hS := OkS.of hg
    obtain ⟨x, hx, hF⟩ := opened_eq hS
    obtain ⟨b, hb, hl, he⟩ := pfewD hS hF (u := 0) (sets1 s)
    rw [fewD_zero] at he
    rw [Nat.sub_zero] at hb
    simp only [if_true, bind_s, hx, all_eq hS]
    rw [show spare_store_fewest x ((2 ^ s.Machines.length - 1 : Nat) : Int) = _ from hb]
    simp only [bind_s, he]
    by_cases h0 : b = 0
    · subst h0; rfl
    · have h8 := sets8 hS
      have hp := (dec_pop0 b (by omega)).2
      rw [if_neg h0, if_neg (show ¬ (popc b : Int) = 100 by omega), show ((b : Int) == 0) = false by simp; omega, countE (by omega)]
      rfl
def maxF (f : Nat → Int) (m : Nat) : Int := (List.range m).foldl (fun b t => max b (f t)) 0
theorem maxF_succ (f : Nat → Int) (m : Nat) : maxF f (m + 1) = max (maxF f m) (f m) := by simp [maxF, List.range_succ]
def reachN (s : SpareStore) : Int := maxF (tell s) (sets s)
def reachF (s : SpareStore) : Int × Int := if goodB s then (reachN s, 0) else (0, 80)
theorem Reach_eq (s : SpareStore) (hs : Ok_SpareStore s) : spare_Reach s = some (reachF s) := by
  unfold spare_Reach reachF
  rw [spare_Check_eq s hs]
  cases hg : goodB s with
  | false => rfl
  | true =>
    have hS := OkS.of hg
    have h8 := sets8 hS
    obtain ⟨x, hx, hF⟩ := opened_eq hS
    simp only [if_true, bind_s, hx]
    show (if ¬ (s.Machines.length : Int) < 0 then loopU (spare_Reach_b1 s x) (0, 0) else none) = _
    rw [if_pos (by omega)]
    have h := loopU_run0 (body := spare_Reach_b1 s x) (fun i => (maxF (tell s) i, (i : Int))) (sets s) (fun i hi => by
      have wi : wr ((i : Int) + 1) = ((i + 1 : Nat) : Int) := wr_id' (by omega) (by omega)
      have hlt : decide ((i : Int) < ((2 ^ s.Machines.length : Nat) : Int)) = true := lt_t hi
      simp only [spare_Reach_b1, shl_n hS, hlt, cond_true, ends_eq hS hF hi, bind_s, wi, maxF_succ]
      congr 2; split <;> omega)
    refine Eq.trans h (loopU_ext ?_)
    have hlt : decide ((sets s : Int) < ((2 ^ s.Machines.length : Nat) : Int)) = false := lt_f _
    simp only [spare_Reach_b1, shl_n hS, hlt, cond_false]; rfl
def needB (s : SpareStore) (k : Nat) : Bool := decide (fewD s (2 ^ k) = 100)
def needN (s : SpareStore) (n : Nat) : List Int := ((List.range n).filter (needB s)).map fun (k : Nat) => (k : Int)
theorem needN_succ (s : SpareStore) (n : Nat) : needN s (n + 1) = if needB s n = true then needN s n ++ [(n : Int)] else needN s n := by
  unfold needN
  rw [List.range_succ, List.filter_append, List.map_append]
  cases h : needB s n <;> simp [List.filter_cons, h]
theorem needN_len (s : SpareStore) (n : Nat) : (needN s n).length ≤ n := by
  have := List.length_filter_le (needB s) (List.range n)
  simp only [needN, List.length_map, List.length_range] at this ⊢
  exact this
def needF (s : SpareStore) : List Int × Int := if goodB s then if fewF s = 100 then ([], 4) else (needN s s.Machines.length, 0) else ([], 80)
theorem visit_few {s : SpareStore} (hs : OkS s) {u : Nat} (hu : u < sets s) : ((visit (sets s - 1 - u) 256 (sets s - 1 - u)).any fun t => decide (s.Hours ≤ tell s t)) = !decide (fewD s u = 100) := by
  have h8 := sets8 hs
  have h1 := hs.h1
  have hm : ∀ t, (t ∈ visit (sets s - 1 - u) 256 (sets s - 1 - u)) ↔ t ≠ 0 ∧ t &&& (sets s - 1 - u) = t := fun t => mem_visit (by omega)
  rcases minF_spec (fun t => t &&& u == 0 && okB s t) (sets s) h8 with ⟨a, b⟩ | ⟨a, ⟨t, ht, hp, _⟩, _⟩
  · rw [show fewD s u = 100 from a]
    simp only [decide_true, Bool.not_true, List.any_eq_false, decide_eq_true_eq]
    intro t ht hh
    have h2 := (hm t).1 ht
    have hlt : t < sets s := by have := @Nat.and_le_right t (sets s - 1 - u); omega
    have h3 := b t hlt
    rw [← and_sets hs hlt hu] at h3
    simp only [h2.2, beq_self_eq_true, Bool.true_and, okB, decide_eq_false_iff_not] at h3
    exact h3 hh
  · rw [show decide (fewD s u = 100) = false by
      simp only [decide_eq_false_iff_not]; intro h
      have h4 : minF (fun t => t &&& u == 0 && okB s t) (sets s) = 100 := h
      omega]
    simp only [Bool.not_false, List.any_eq_true, decide_eq_true_eq]
    simp only [Bool.and_eq_true] at hp
    refine ⟨t, (hm t).2 ⟨?_, ?_⟩, by simpa [okB] using hp.2⟩
    · rintro rfl
      have := hp.2
      simp only [okB, tell_zero, decide_eq_true_eq] at this; omega
    · have := hp.1
      rw [← and_sets hs ht hu] at this
      simpa using this
theorem Need_eq (s : SpareStore) (hs : Ok_SpareStore s) : spare_Need s = some (needF s) := by
  unfold spare_Need needF
  rw [spare_Check_eq s hs]
  cases hg : goodB s with
  | false => rfl
  | true =>
    have hS := OkS.of hg
    have h8 := sets8 hS
    have hn := hS.n2
    have hs1 := sets1 s
    obtain ⟨x, hx, hF⟩ := opened_eq hS
    have he := enough_eq hS hF (all := sets s - 1) (by show _ < sets s; omega) s.Hours
    have hv := visit_few hS (u := 0) hs1
    rw [Nat.sub_zero] at hv
    rw [hv, fewD_zero] at he
    simp only [if_true, bind_s, hx, all_eq hS]
    rw [show spare_store_enough x ((2 ^ s.Machines.length - 1 : Nat) : Int) s.Hours = _ from he]
    simp only [bind_s, Bool.not_not]
    by_cases h0 : fewF s = 100
    · rw [h0]; rfl
    · rw [show decide (fewF s = 100) = false by simpa using h0, if_neg h0]
      simp only [cond_false]
      have h := loopU_run0 (body := spare_Need_b1 s x) (fun i => (needN s i, (i : Int))) s.Machines.length (fun i hi => by
        have wi : wr ((i : Int) + 1) = ((i + 1 : Nat) : Int) := wr_id' (by omega) (by omega)
        have hd := dec_all s.Machines.length (by omega) i hi
        have hpl : 2 ^ i < sets s := hd.2
        have hp2 := Nat.two_pow_pos i
        have hen := enough_eq hS hF (all := sets s - 1 - 2 ^ i) (by show _ < sets s; omega) s.Hours
        rw [visit_few hS hpl] at hen
        have hl := needN_len s i
        simp only [spare_Need_b1, lt_t hi, cond_true, all_eq hS, bind_s]
        rw [if_pos (by omega), show ((2 ^ s.Machines.length - 1 : Nat) : Int) = ((sets s - 1 : Nat) : Int) from rfl, dec_andNot (sets s - 1) (by omega) i (by omega), show (sets s - 1).testBit i = true from hd.1]
        simp only [if_true]
        rw [hen]
        simp only [bind_s, Bool.not_not, wi]
        rw [if_pos (by simp only [List.length_singleton, lim]; omega), needN_succ]
        unfold needB
        cases decide (fewD s (2 ^ i) = 100) <;> rfl)
      refine Eq.trans h (loopU_ext ?_)
      simp only [spare_Need_b1, lt_f, cond_false]
def pairN (s : SpareStore) (m : Nat) : Int := (List.range m).foldl (fun b t => if okB s t = true then min b ((popc t : Int) + fewD s t) else b) 100
theorem pairN_succ (s : SpareStore) (m : Nat) : pairN s (m + 1) = if okB s m = true then min (pairN s m) ((popc m : Int) + fewD s m) else pairN s m := by simp [pairN, List.range_succ]
def pairF (s : SpareStore) : Int × Int := if goodB s then if pairN s (sets s) = 100 then (0, 4) else (pairN s (sets s), 0) else (0, 80)
theorem fewD_bd {s : SpareStore} (hs : OkS s) (u : Nat) : 0 ≤ fewD s u ∧ fewD s u ≤ 100 := by
  rcases minF_cases (fun t => t &&& u == 0 && okB s t) (sets8 hs) with h | h
  · have : fewD s u = 100 := h
    omega
  · have h1 : 0 ≤ fewD s u := h.1
    have h2 : fewD s u ≤ 8 := h.2
    omega
theorem pairN_bd {s : SpareStore} (hs : OkS s) (m : Nat) (hm : m ≤ 256) : 0 ≤ pairN s m ∧ pairN s m ≤ 100 := by
  induction m with
  | zero => exact (show (0 : Int) ≤ 100 ∧ (100 : Int) ≤ 100 by decide)
  | succ m ih =>
    rw [pairN_succ]
    have := ih (by omega)
    have := fewD_bd hs m
    split <;> omega
theorem pairN_pos {s : SpareStore} (hs : OkS s) (m : Nat) (hm : m ≤ 256) : 1 ≤ pairN s m := by
  have h1 := hs.h1
  induction m with
  | zero => exact (show (1 : Int) ≤ 100 by decide)
  | succ m ihm =>
    have q1 := ihm (by omega)
    have q2 := fewD_bd hs m
    rw [pairN_succ]
    split
    · rename_i hok2
      have : popc m ≠ 0 := fun h => by
        have := (dec_pop0 m (by omega)).1.1 h
        subst this
        simp only [okB, tell_zero, decide_eq_true_eq] at hok2; omega
      omega
    · exact q1
theorem Pair_eq (s : SpareStore) (hs : Ok_SpareStore s) : spare_Pair s = some (pairF s) := by
  unfold spare_Pair pairF
  rw [spare_Check_eq s hs]
  cases hg : goodB s with
  | false => rfl
  | true =>
    have hS := OkS.of hg
    have h8 := sets8 hS
    have hn := hS.n2
    have h1 := hS.h1
    obtain ⟨x, hx, hF⟩ := opened_eq hS
    simp only [if_true, bind_s, hx]
    show (if ¬ (s.Machines.length : Int) < 0 then loopU (spare_Pair_b1 s x) (0, 0) else none) = _
    rw [if_pos (by omega)]
    have h := loopU_run0 (body := spare_Pair_b1 s x) (fun i => (if pairN s i = 100 then 0 else pairN s i, (i : Int))) (sets s) (fun i hi => by
      have wi : wr ((i : Int) + 1) = ((i + 1 : Nat) : Int) := wr_id' (by omega) (by omega)
      have hlt : decide ((i : Int) < ((2 ^ s.Machines.length : Nat) : Int)) = true := lt_t hi
      have hb := pairN_bd hS i (by omega)
      have hp := (dec_pop0 i (by omega)).2
      simp only [spare_Pair_b1, shl_n hS, hlt, cond_true, ends_eq hS hF hi, bind_s, pairN_succ, all_eq hS]
      have hok : okB s i = decide (s.Hours ≤ tell s i) := rfl
      by_cases hh : tell s i < s.Hours
      · rw [show decide (tell s i < s.Hours) = true by simpa using hh, hok, show decide (s.Hours ≤ tell s i) = false by simp; omega]
        simp only [cond_true, spare_Pair_k2, wi, Bool.false_eq_true, if_false]
      · rw [show decide (tell s i < s.Hours) = false by simpa using hh, hok, show decide (s.Hours ≤ tell s i) = true by simp; omega]
        obtain ⟨b, hfb, hbl, he⟩ := pfewD hS hF hi
        have hi0 : i ≠ 0 := by rintro rfl; rw [tell_zero] at hh; omega
        have hpi : popc i ≠ 0 := fun h => hi0 ((dec_pop0 i (by omega)).1.1 h)
        have hpb := (dec_pop0 b (by omega)).2
        simp only [cond_false, if_true]
        rw [(dec_full s.Machines.length (by omega) i hi).2, show spare_store_fewest x ((2 ^ s.Machines.length - 1 - i : Nat) : Int) = _ from hfb]
        simp only [bind_s]
        by_cases hb0 : b = 0
        · subst hb0
          rw [if_pos rfl] at he
          rw [he, show min (pairN s i) ((popc i : Int) + 100) = pairN s i by omega]
          simp only [Int.natCast_zero, spare_Pair_k2, wi]
          rfl
        · rw [if_neg hb0] at he
          rw [show ((b : Int) != 0) = true by simp; omega, countE (show i < 256 by omega), countE (show b < 256 by omega), he]
          simp only [cond_true, bind_s]
          rw [wr_id' (show -9223372036854775808 ≤ (popc i : Int) + (popc b : Int) by omega) (by omega)]
          by_cases hp0 : pairN s i = 100
          · rw [if_pos hp0, hp0, if_neg (by omega), show min (100 : Int) ((popc i : Int) + (popc b : Int)) = (popc i : Int) + (popc b : Int) by omega]
            simp only [spare_Pair_k2, wi]; rfl
          · have hne : (pairN s i == 0) = decide (pairN s i = 0) := by by_cases h : pairN s i = 0 <;> simp [h]
            rw [if_neg hp0, hne]
            by_cases hlt2 : (popc i : Int) + (popc b : Int) < pairN s i
            · rw [show min (pairN s i) ((popc i : Int) + (popc b : Int)) = (popc i : Int) + (popc b : Int) by omega, if_neg (by omega), show decide (pairN s i = 0) = false by simp; omega, show decide ((popc i : Int) + (popc b : Int) < pairN s i) = true by simpa using hlt2]
              simp only [spare_Pair_k2, wi]; rfl
            · rw [show min (pairN s i) ((popc i : Int) + (popc b : Int)) = pairN s i by omega, if_neg hp0, show decide ((popc i : Int) + (popc b : Int) < pairN s i) = false by simpa using hlt2]
              by_cases hz : pairN s i = 0
              · exfalso
                have := pairN_pos hS i (by omega)
                omega
              · rw [show decide (pairN s i = 0) = false by simpa using hz]
                simp only [spare_Pair_k2, wi]; rfl)
    have e0 : pairN s 0 = 100 := rfl
    simp only [e0, if_true] at h
    refine Eq.trans h (loopU_ext ?_)
    have hlt : decide ((sets s : Int) < ((2 ^ s.Machines.length : Nat) : Int)) = false := lt_f _
    simp only [spare_Pair_b1, shl_n hS, hlt, cond_false]
    have hb := pairN_bd hS (sets s) h8
    by_cases h0 : pairN s (sets s) = 100
    · rw [if_pos h0, if_pos h0]; rfl
    · rw [if_neg h0, if_neg h0]
      by_cases hz : pairN s (sets s) = 0
      · rw [hz]
        exfalso
        have := pairN_pos hS (sets s) h8
        omega
      · rw [show (pairN s (sets s) == 0) = false by simpa using hz]; rfl
end Go.Proofs.YtidmdgjgpmeecaaDoor.Rt
