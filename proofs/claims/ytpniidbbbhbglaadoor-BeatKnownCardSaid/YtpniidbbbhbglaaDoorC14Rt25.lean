/- The small program logic of this seat, part 25: the check of a tree of orders, reckoned with numbers as sets, for regions of many operations. Under no conditions but those that each rule names. -/
import Derived.Test.YtpniidbbbhbglaaDoorC14Rt10
set_option linter.unusedVariables false
set_option linter.unusedSimpArgs false
set_option maxRecDepth 100000
namespace Go.Proofs.YtpniidbbbhbglaaDoor.Rt
open Go Go.RowKit
def bitK (m k : Nat) : Bool := Nat.beq (Nat.land 1 (Nat.shiftRight m k)) 1
theorem bitK_eq (m k : Nat) : bitK m k = m.testBit k := by
  have h : Nat.land 1 (Nat.shiftRight m k) = (m >>> k) % 2 := by
    show 1 &&& (m >>> k) = _
    rw [Nat.and_comm, Nat.and_one_is_mod]
  rw [Nat.testBit, Nat.and_comm, Nat.and_one_is_mod, bitK, h]
  rcases Nat.mod_two_eq_zero_or_one (m >>> k) with e | e <;> rw [e] <;> rfl
def msk : List Nat → Nat
  | [] => 0
  | k :: l => Nat.lor (Nat.shiftLeft 1 k) (msk l)
theorem msk_bit (l : List Nat) (k : Nat) : (msk l).testBit k = l.contains k := by
  induction l with
  | nil => simp [msk]
  | cons x l ih =>
    show (1 <<< x ||| msk l).testBit k = _
    rw [Nat.one_shiftLeft, Nat.testBit_or, Nat.testBit_two_pow, ih, List.contains_cons]
    by_cases e : x = k
    · subst e; simp
    · have e2 : ¬ k = x := fun h => e h.symm
      simp [e, e2]
theorem msk_sub (l : List Nat) (s : Nat) : Nat.beq (Nat.land (msk l) s) (msk l) = true ↔ ∀ k ∈ l, s.testBit k = true := by
  show Nat.beq (msk l &&& s) (msk l) = true ↔ _
  rw [Nat.beq_eq]
  constructor
  · intro h k hk
    have : (msk l &&& s).testBit k = true := by rw [h, msk_bit]; simpa using hk
    rw [Nat.testBit_and, Bool.and_eq_true] at this
    exact this.2
  · intro h
    refine Nat.eq_of_testBit_eq fun k => ?_
    rw [Nat.testBit_and, msk_bit]
    cases hc : l.contains k with
    | false => rfl
    | true => rw [h k (by simpa using hc)]; rfl
abbrev Tb := List (Nat × Nat × Nat)
def afL (o : Oper) : List Nat := (o.after.toList.filter (Region.binds .any)).map (·.on)
def dsN (o : Oper) : Nat := match o.dst with | some d => d + 1 | none => 0
def attr (ops : Array Oper) (o : Oper) : Nat × Nat × Nat := (dsN o, msk (o.looksAt ops), msk (afL o))
def eqT : Tb → Tb → Bool
  | [], [] => true
  | x :: xs, y :: ys => Nat.beq x.1 y.1 && Nat.beq x.2.1 y.2.1 && Nat.beq x.2.2 y.2.2 && eqT xs ys
  | _, _ => false
theorem eqT_eq : ∀ {a b : Tb}, eqT a b = true → a = b
  | [], [], _ => rfl
  | (a1, a2, a3) :: xs, (b1, b2, b3) :: ys, h => by
    simp only [eqT, Bool.and_eq_true, Nat.beq_eq] at h
    obtain ⟨⟨⟨rfl, rfl⟩, rfl⟩, h⟩ := h
    rw [eqT_eq h]
  | [], _ :: _, h => by cases h
  | _ :: _, [], h => by cases h
def rdyF (ls : Nat) : Nat → Tb → List Nat
  | _, [] => []
  | k, x :: tb => bif !bitK ls k && Nat.beq (Nat.land x.2.2 ls) x.2.2 then k :: rdyF ls (k + 1) tb else rdyF ls (k + 1) tb
def apF (di li dj lj : Nat) : Bool :=
  (match di with | 0 => true | d + 1 => !bitK lj d && !Nat.beq dj (d + 1)) && (match dj with | 0 => true | d + 1 => !bitK li d)
def freeF (ls i di li : Nat) : Nat → Tb → Bool
  | _, [] => true
  | k, x :: tb => (bitK ls k || Nat.beq k i || bitK x.2.2 i || apF di li x.1 x.2.1) && freeF ls i di li (k + 1) tb
def okF (tb : Tb) (N : Nat) : Tr → Bool → Nat → Nat → Bool
  | .done, top, m, ls => top && Nat.beq m 0 && (rdyF ls 0 tb).isEmpty
  | .flt i t, top, m, ls => top && Nat.ble 1 m && Nat.blt i N && (match tb[i]? with | none => false | some x => !bitK ls i && Nat.beq (Nat.land x.2.2 ls) x.2.2 && freeF ls i x.1 x.2.1 0 tb) && okF tb N t true (m - 1) (Nat.lor ls (Nat.pow 2 i))
  | .alt i t u, top, m, ls => (!top || (rdyF ls 0 tb == i :: u.idxs)) && Nat.ble 1 m && Nat.blt i N && okF tb N t true (m - 1) (Nat.lor ls (Nat.pow 2 i)) && okF tb N u false m ls
  | .stop, top, _, _ => !top
structure ORel (N : Nat) (listed : Array Bool) (ls : Nat) : Prop where
  size : listed.size = N
  at_ : ∀ k, k < N → listed.getD k true = ls.testBit k
  out : ∀ k, N ≤ k → ls.testBit k = false
theorem ORel.f {N : Nat} {listed : Array Bool} {ls : Nat} (h : ORel N listed ls) (k : Nat) : listed.getD k false = ls.testBit k := by
  rcases Nat.lt_or_ge k N with hk | hk
  · rw [← h.at_ k hk]
    have : k < listed.size := by rw [h.size]; exact hk
    simp [Array.getD, this]
  · rw [h.out k hk]
    have : ¬ k < listed.size := by rw [h.size]; omega
    simp [Array.getD, this]
theorem ORel.set {N : Nat} {listed : Array Bool} {ls i : Nat} (h : ORel N listed ls) (hi : i < N) : ORel N (listed.setIfInBounds i true) (Nat.lor ls (Nat.pow 2 i)) := by
  refine ⟨by simp [h.size], fun k hk => ?_, fun k hk => ?_⟩
  · show _ = (ls ||| 2 ^ i).testBit k
    rw [Nat.testBit_or, Nat.testBit_two_pow]
    by_cases e : i = k
    · subst e; simp [Array.getD, h.size, hi]
    · rw [getD_set_ne _ e, h.at_ k hk]; simp [e]
  · show (ls ||| 2 ^ i).testBit k = false
    rw [Nat.testBit_or, Nat.testBit_two_pow, h.out k hk]
    simp; omega
section
variable {l : List Oper} {listed : Array Bool} {ls : Nat}
theorem wait_iff (h : ORel l.length listed ls) (o : Oper) : Nat.beq (Nat.land (msk (afL o)) ls) (msk (afL o)) = true ↔ ∀ e ∈ o.after, Region.binds .any e = true → listed.getD e.on false = true := by
  rw [msk_sub]
  simp only [afL, List.mem_map, List.mem_filter, Array.mem_toList_iff]
  constructor
  · intro hh e he hb; rw [h.f]; exact hh _ ⟨e, ⟨he, hb⟩, rfl⟩
  · rintro hh k ⟨e, ⟨he, hb⟩, rfl⟩; rw [← h.f]; exact hh e he hb
theorem rdy_eq (h : ORel l.length listed ls) : Region.ready .any l.toArray listed = rdyF ls 0 (l.map (attr l.toArray)) := by
  have key : ∀ (xs pre : List Oper), l = pre ++ xs → (List.range' pre.length xs.length).filter (fun i =>
      !listed.getD i true && ((l.toArray[i]?).map (·.after.all fun e => !Region.binds .any e || listed.getD e.on false)).getD false) = rdyF ls pre.length (xs.map (attr l.toArray)) := by
    intro xs
    induction xs with
    | nil => intro pre hp; rfl
    | cons o xs ih =>
      intro pre hp
      have hlt : pre.length < l.length := by rw [hp]; simp
      have ho : l.toArray[pre.length]? = some o := by rw [hp]; simp
      have ih' := ih (pre ++ [o]) (by rw [hp]; simp)
      rw [List.length_append, List.length_singleton] at ih'
      rw [List.length_cons, List.range'_succ, List.filter_cons, List.map_cons]
      rw [ih']
      simp only [rdyF, ho, Option.map_some, Option.getD_some, h.at_ _ hlt, bitK_eq]
      have hw : (o.after.all fun e => !Region.binds .any e || listed.getD e.on false) = Nat.beq (Nat.land (attr l.toArray o).2.2 ls) (attr l.toArray o).2.2 := by
        rw [Bool.eq_iff_iff]
        show _ ↔ Nat.beq (Nat.land (msk (afL o)) ls) (msk (afL o)) = true
        rw [wait_iff h o, Array.all_eq_true_iff_forall_mem]
        constructor
        · intro hh e he hb
          have := hh e he
          simpa [hb] using this
        · intro hh e he
          cases hb : Region.binds .any e with
          | false => rfl
          | true => rw [hh e he hb]; rfl
      rw [hw]
      cases (!ls.testBit pre.length && Nat.beq (Nat.land (attr l.toArray o).2.2 ls) (attr l.toArray o).2.2) <;> rfl
  have := key l [] rfl
  rw [List.length_nil] at this
  rw [← this, Region.ready, List.range_eq_range']
  simp
theorem dsN_some {o : Oper} {d : Nat} (h : o.dst = some d) : dsN o = d + 1 := by simp [dsN, h]
theorem apF_ok {x y : Oper} (h : apF (dsN x) (msk (x.looksAt l.toArray)) (dsN y) (msk (y.looksAt l.toArray)) = true) : x.apart l.toArray y = true := by
  simp only [apF, Bool.and_eq_true] at h
  obtain ⟨h1, h2⟩ := h
  simp only [Oper.apart, Bool.and_eq_true]
  constructor
  · cases hx : x.dst with
    | none => rfl
    | some d =>
      rw [dsN_some hx] at h1
      simp only [bitK_eq, msk_bit, Bool.and_eq_true, Bool.not_eq_true'] at h1
      simp only [Bool.and_eq_true, Bool.not_eq_true']
      refine ⟨h1.1, ?_⟩
      cases hy : y.dst with
      | none => rfl
      | some e =>
        have := h1.2
        rw [dsN_some hy] at this
        have hne : e + 1 ≠ d + 1 := fun he => by rw [he] at this; simp at this
        exact bne_iff_ne.2 fun he => hne (by injection he with he; rw [he])
  · cases hy : y.dst with
    | none => rfl
    | some d =>
      rw [dsN_some hy] at h2
      simpa only [bitK_eq, msk_bit] using h2
theorem freeF_ok (h : ORel l.length listed ls) {i : Nat} {oi : Oper} (hi : l.toArray[i]? = some oi) (hf : freeF ls i (dsN oi) (msk (oi.looksAt l.toArray)) 0 (l.map (attr l.toArray)) = true) : Region.free .any l.toArray listed i = true := by
  have key : ∀ (xs pre : List Oper), l = pre ++ xs → freeF ls i (dsN oi) (msk (oi.looksAt l.toArray)) pre.length (xs.map (attr l.toArray)) = true → ∀ j, pre.length ≤ j → j < l.length →
      (j == i || listed.getD j true || match l.toArray[j]? with | some oj => oj.after.any (fun e => Region.binds .any e && e.on == i) || oi.apart l.toArray oj | none => true) = true := by
    intro xs
    induction xs with
    | nil => intro pre hp _ j h1 h2; rw [hp] at h2; simp at h2; omega
    | cons o xs ih =>
      intro pre hp hF j h1 h2
      simp only [List.map_cons, freeF, Bool.and_eq_true] at hF
      rcases Nat.lt_or_ge pre.length j with hj | hj
      · exact ih (pre ++ [o]) (by rw [hp]; simp) (by rw [List.length_append, List.length_singleton]; exact hF.2) j (by simp; omega) h2
      · obtain rfl : j = pre.length := by omega
        have ho : l.toArray[pre.length]? = some o := by rw [hp]; simp
        rw [ho]
        have hc := hF.1
        simp only [Bool.or_eq_true, bitK_eq, Nat.beq_eq] at hc
        rcases hc with ((hc | hc) | hc) | hc
        · rw [h.at_ _ h2, hc]; simp
        · simp [hc]
        · have hc' : (afL o).contains i = true := by rw [← msk_bit]; exact hc
          have : (o.after.any fun e => Region.binds .any e && e.on == i) = true := by
            simp only [afL, List.contains_iff_mem, List.mem_map, List.mem_filter, Array.mem_toList_iff] at hc'
            obtain ⟨e, ⟨he, hb⟩, hon⟩ := hc'
            rw [Array.any_eq_true']
            exact ⟨e, he, by simp [hb, hon]⟩
          simp [this]
        · have := apF_ok (l := l) (x := oi) (y := o) hc
          simp [this]
  simp only [Region.free, hi, List.all_eq_true, List.mem_range]
  intro j hj
  exact key l [] rfl hf j (Nat.zero_le _) (by simpa using hj)
theorem okF_ok : ∀ (t : Tr) (top : Bool) (m : Nat) (listed : Array Bool) (ls : Nat), ORel l.length listed ls → okF (l.map (attr l.toArray)) l.length t top m ls = true → t.ok l.toArray l.length top m listed = true
  | .done, top, m, listed, ls, h, hk => by
    simp only [okF, Bool.and_eq_true, Nat.beq_eq] at hk
    obtain ⟨⟨rfl, rfl⟩, h3⟩ := hk
    rw [← rdy_eq h] at h3
    simp only [Tr.ok, List.size_toArray, Nat.sub_self, Region.seqB, h3]
    rfl
  | .stop, top, m, listed, ls, h, hk => hk
  | .flt i t, top, m, listed, ls, h, hk => by
    simp only [okF, Bool.and_eq_true] at hk
    obtain ⟨⟨⟨⟨h1, h2⟩, h3⟩, h4⟩, h5⟩ := hk
    have hi : i < l.length := by simpa using h3
    obtain ⟨o, ho⟩ : ∃ o, l[i]? = some o := ⟨_, List.getElem?_eq_getElem hi⟩
    rw [List.getElem?_map, ho] at h4
    simp only [Option.map_some, Bool.and_eq_true, Bool.not_eq_true', bitK_eq] at h4
    have hr : i ∈ Region.ready .any l.toArray listed := mem_ready.2 ⟨by rw [h.at_ i hi]; exact h4.1.1, o, by simpa using ho, (wait_iff h o).1 h4.1.2⟩
    simp only [Tr.ok, Bool.and_eq_true]
    exact ⟨⟨⟨⟨⟨h1, h2⟩, h3⟩, by simpa using hr⟩, freeF_ok h (by simpa using ho) h4.2⟩, okF_ok t true (m - 1) _ _ (h.set hi) h5⟩
  | .alt i t u, top, m, listed, ls, h, hk => by
    simp only [okF, Bool.and_eq_true] at hk
    obtain ⟨⟨⟨⟨h1, h2⟩, h3⟩, h4⟩, h5⟩ := hk
    have hi : i < l.length := by simpa using h3
    rw [← rdy_eq h] at h1
    simp only [Tr.ok, Bool.and_eq_true]
    exact ⟨⟨⟨⟨h1, h2⟩, h3⟩, okF_ok t true (m - 1) _ _ (h.set hi) h4⟩, okF_ok u false m _ _ h h5⟩
theorem drawOkF {l : List Oper} (tb : Tb) (t : Tr) (N : Nat) (h1 : Region.noSelect l.toArray = true) (h2 : noDefer l.toArray = true) (h3 : eqT (l.map (attr l.toArray)) tb = true) (h4 : Nat.beq l.length N = true) (h5 : okF tb N t true N 0 = true) : drawOkV l.toArray N t = true := by
  obtain rfl := eqT_eq h3
  obtain rfl : l.length = N := Nat.beq_eq.symm ▸ h4
  have hrel : ORel l.length (Array.replicate l.length false) 0 := ⟨by simp, fun k hk => by simp [Array.getD, hk], fun k _ => by simp⟩
  have := okF_ok t true l.length _ 0 hrel h5
  simp only [drawOkV, h1, h2, tailOk, List.size_toArray, this]
  simp
end
end Go.Proofs.YtpniidbbbhbglaaDoor.Rt
