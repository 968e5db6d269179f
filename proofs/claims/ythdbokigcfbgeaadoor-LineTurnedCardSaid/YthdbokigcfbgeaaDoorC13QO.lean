/- Plain laws of the line seat, part 15: exchanges that are numbered otherwise. Under the conditions that each names. -/
import Derived.Test.YthdbokigcfbgeaaDoorC13QL
import Derived.Test.YthdbokigcfbgeaaDoorC13QM
set_option linter.unusedVariables false
set_option linter.unusedSimpArgs false
set_option maxRecDepth 100000
set_option maxHeartbeats 4000000
namespace Go.Proofs.YthdbokigcfbgeaaDoor.Rt
open Go Go.RowKit
def turnF (n : LineNet) (b : Int) (e : Int) : Int := if e = 0 then 0 else 1 + (e - 1 + b) % (n.Exchanges - 1)
theorem turned_eq {n : LineNet} (hS : OkS n) {b : Int} (hb0 : 0 ≤ b) (hb1 : b ≤ 100) {e : Int} (h0 : 0 ≤ e) (h1 : e < n.Exchanges) : remontoirlaw06_turned n e b = some (turnF n b e) := by
  have he1 := hS.e1; have he2 := hS.e2
  unfold remontoirlaw06_turned turnF
  rw [beqI]
  by_cases h : e = 0
  · rw [decide_eq_true h, if_pos h]; rfl
  · rw [decide_eq_false h, if_neg h, cond_false, wr_id' (n := e - 1) (by omega) (by omega), wr_id' (n := e - 1 + b) (by omega) (by omega), wr_id' (n := n.Exchanges - 1) (by omega) (by omega), rest_nn (by omega) (by omega), bind_s]
    have := Int.emod_nonneg (e - 1 + b) (show n.Exchanges - 1 ≠ 0 by omega)
    have := Int.emod_lt_of_pos (e - 1 + b) (show 0 < n.Exchanges - 1 by omega)
    rw [wr_id' (by omega) (by omega)]
theorem turn_bd {n : LineNet} (hS : OkS n) (b : Int) {e : Int} (h0 : 0 ≤ e) (h1 : e < n.Exchanges) : 0 ≤ turnF n b e ∧ turnF n b e < n.Exchanges ∧ (turnF n b e = 0 ↔ e = 0) := by
  unfold turnF
  by_cases h : e = 0
  · rw [if_pos h]; have := hS.e1; omega
  · rw [if_neg h]
    have := Int.emod_nonneg (e - 1 + b) (show n.Exchanges - 1 ≠ 0 by omega)
    have := Int.emod_lt_of_pos (e - 1 + b) (show 0 < n.Exchanges - 1 by omega)
    omega
theorem turn_inj {n : LineNet} (hS : OkS n) (b : Int) {e f : Int} (h0 : 0 ≤ e) (h1 : e < n.Exchanges) (g0 : 0 ≤ f) (g1 : f < n.Exchanges) : turnF n b e = turnF n b f ↔ e = f := by
  constructor
  · intro h
    have a := (turn_bd hS b h0 h1).2.2
    have c := (turn_bd hS b g0 g1).2.2
    by_cases he : e = 0
    · have := c.1 (h ▸ a.2 he); omega
    · by_cases hf : f = 0
      · have := a.1 (h.trans (c.2 hf)); omega
      · unfold turnF at h
        rw [if_neg he, if_neg hf] at h
        have he2 := hS.e2
        have h : (e - 1 + b) % (n.Exchanges - 1) = (f - 1 + b) % (n.Exchanges - 1) := by omega
        have hM : n.Exchanges = 2 ∨ n.Exchanges = 3 ∨ n.Exchanges = 4 ∨ n.Exchanges = 5 ∨ n.Exchanges = 6 ∨ n.Exchanges = 7 := by omega
        rcases hM with hM | hM | hM | hM | hM | hM <;> rw [hM] at h h1 g1 <;> omega
  · rintro rfl; rfl
def turnL (n : LineNet) (b : Int) (s i : Nat) (y : LineLine) : LineLine := if i = s then ⟨turnF n b y.To, turnF n b y.From, y.Delay⟩ else ⟨turnF n b y.From, turnF n b y.To, y.Delay⟩
structure Turn (n : LineNet) (b : Int) (s : Nat) (x : LineNet) : Prop where
  ex : x.Exchanges = n.Exchanges
  hp : x.Hops = n.Hops
  l : ∀ i, x.Lines[i]? = (n.Lines[i]?).map (turnL n b s i)
  o : ∀ (i : Nat), x.Loops[i]? = (n.Loops[i]?).map fun (y : LineLoop) => LineLoop.mk (turnF n b y.Exchange) y.Read
theorem len_of {α β : Type} {xs : List α} {ys : List β} {f : Nat → α → β} (h : ∀ i, ys[i]? = (xs[i]?).map (f i)) : ys.length = xs.length := by
  refine Nat.le_antisymm (Nat.le_of_not_lt fun g => ?_) (Nat.le_of_not_lt fun g => ?_)
  · have := h xs.length
    rw [List.getElem?_eq_getElem g, List.getElem?_eq_none (Nat.le_refl _)] at this; cases this
  · have := h ys.length
    rw [List.getElem?_eq_none (Nat.le_refl _), List.getElem?_eq_getElem g] at this; cases this
section
variable {n x : LineNet} {b : Int} {s : Nat}
theorem Turn.len (h : Turn n b s x) : x.Lines.length = n.Lines.length := len_of h.l
theorem Turn.leno (h : Turn n b s x) : x.Loops.length = n.Loops.length := len_of (f := fun _ (y : LineLoop) => LineLoop.mk (turnF n b y.Exchange) y.Read) h.o
theorem Turn.ok (h : Turn n b s x) (hS : OkS n) : OkS x := by
  refine ⟨by rw [h.ex]; exact hS.e1, by rw [h.ex]; exact hS.e2, by rw [h.len]; exact hS.nl, by rw [h.hp]; exact hS.h1, by rw [h.hp]; exact hS.h2, by rw [h.leno]; exact hS.no, fun y hy => ?_, fun y hy => ?_⟩
  · obtain ⟨i, hi, rfl⟩ := List.getElem_of_mem hy
    have hi' : i < n.Lines.length := by rw [← h.len]; exact hi
    have hl := h.l i
    rw [List.getElem?_eq_getElem hi, List.getElem?_eq_getElem hi'] at hl
    have hl : x.Lines[i] = turnL n b s i n.Lines[i] := Option.some.inj hl
    have ho := hS.at hi'
    have t1 := turn_bd hS b ho.f1 ho.f2
    have t2 := turn_bd hS b ho.t1 ho.t2
    have hne : turnF n b n.Lines[i].From ≠ turnF n b n.Lines[i].To := fun g => ho.ne ((turn_inj hS b ho.f1 ho.f2 ho.t1 ho.t2).1 g)
    rw [hl, h.ex]
    unfold turnL
    split
    · exact OkL1.is ⟨t2.1, t2.2.1, t1.1, t1.2.1, fun g => hne g.symm, ho.d1, ho.d2, ho.d3⟩
    · exact OkL1.is ⟨t1.1, t1.2.1, t2.1, t2.2.1, hne, ho.d1, ho.d2, ho.d3⟩
  · obtain ⟨i, hi, rfl⟩ := List.getElem_of_mem hy
    have hi' : i < n.Loops.length := by rw [← h.leno]; exact hi
    have hl := h.o i
    rw [List.getElem?_eq_getElem hi, List.getElem?_eq_getElem hi'] at hl
    have hl : x.Loops[i] = ⟨turnF n b n.Loops[i].Exchange, n.Loops[i].Read⟩ := Option.some.inj hl
    have ho := hS.lo hi'
    have t1 := turn_bd hS b ho.e1 ho.e2
    rw [hl, h.ex]
    exact OkO1.is ⟨t1.1, t1.2.1, ho.r1, ho.r2, ho.r3⟩
theorem Turn.oth (h : Turn n b s x) (hS : OkS n) {a : Int} (h0 : 0 ≤ a) (h1 : a < n.Exchanges) (i : Nat) : Rt.oth x (turnF n b a) i = (Rt.oth n a i).map (turnF n b) := by
  unfold Rt.oth
  rw [h.l i]
  rcases hx : n.Lines[i]? with _ | y
  · rfl
  · obtain ⟨hi, rfl⟩ := List.getElem?_eq_some_iff.1 hx
    have ho := hS.at hi
    have k1 := turn_inj hS b ho.f1 ho.f2 h0 h1
    have k2 := turn_inj hS b ho.t1 ho.t2 h0 h1
    have hne := ho.ne
    simp only [Option.map_some, Option.bind_some]
    unfold othL turnL
    split
    · dsimp only
      by_cases c1 : n.Lines[i].From = a
      · rw [if_neg (fun g => hne (c1.trans (k2.1 g).symm)), if_pos (k1.2 c1), if_pos c1]; rfl
      · rw [if_neg c1]
        by_cases c2 : n.Lines[i].To = a
        · rw [if_pos (k2.2 c2), if_pos c2]; rfl
        · rw [if_neg (fun g => c2 (k2.1 g)), if_neg (fun g => c1 (k1.1 g)), if_neg c2]; rfl
    · dsimp only
      by_cases c1 : n.Lines[i].From = a
      · rw [if_pos (k1.2 c1), if_pos c1]; rfl
      · rw [if_neg (fun g => c1 (k1.1 g)), if_neg c1]
        by_cases c2 : n.Lines[i].To = a
        · rw [if_pos (k2.2 c2), if_pos c2]; rfl
        · rw [if_neg (fun g => c2 (k2.1 g)), if_neg c2]; rfl
theorem Turn.ways (h : Turn n b s x) (hS : OkS n) : ∀ (m : Nat) (a : Int) (V : List Int), 0 ≤ a → a < n.Exchanges → (∀ v ∈ V, 0 ≤ v ∧ v < n.Exchanges) → waysS x m (turnF n b a) (V.map (turnF n b)) = (waysS n m a V).map fun q => (q.1, turnF n b q.2)
  | 0, a, V, _, _, _ => rfl
  | m + 1, a, V, h0, h1, hV => by
    rw [waysS_succ, waysS_succ, h.len, List.map_flatMap]
    refine flat_congr fun i _ => ?_
    unfold stepW
    rw [h.oth hS h0 h1]
    rcases ho : Rt.oth n a i with _ | t
    · rfl
    · obtain ⟨k, rfl, hk, _⟩ := oth_nat hS ho
      have hm : turnF n b (k : Int) ∈ V.map (turnF n b) ↔ (k : Int) ∈ V := by
        rw [List.mem_map]
        constructor
        · rintro ⟨v, hv, e⟩
          have hb := hV v hv
          rw [← (turn_inj hS b hb.1 hb.2 (by omega) hk).1 e]; exact hv
        · intro g; exact ⟨_, g, rfl⟩
      simp only [Option.map_some]
      by_cases hc : (k : Int) ∈ V
      · rw [if_pos (hm.2 hc), if_pos hc]; rfl
      · rw [if_neg (fun g => hc (hm.1 g)), if_neg hc]
        have := h.ways hS m (k : Int) ((k : Int) :: V) (by omega) hk fun v hv => by
          rcases List.mem_cons.1 hv with rfl | hv
          · exact ⟨by omega, hk⟩
          · exact hV v hv
        rw [List.map_cons] at this
        rw [this, List.map_map, List.map_map]
        rfl
theorem turn0 (n : LineNet) (b : Int) : turnF n b 0 = 0 := if_pos rfl
theorem Turn.WK (h : Turn n b s x) (hS : OkS n) {e : Int} (h0 : 0 ≤ e) (h1 : e < n.Exchanges) (k : Nat) : Rt.WK x (turnF n b e) k = Rt.WK n e k := by
  have he1 := hS.e1
  unfold Rt.WK
  rw [h.hp]
  split
  · unfold toF
    have hw := h.ways hS k 0 [0] (Int.le_refl 0) (by omega) (fun v hv => by rw [List.mem_singleton.1 hv]; omega)
    rw [turn0] at hw
    have hv : ([0] : List Int).map (turnF n b) = [0] := by rw [List.map_cons, List.map_nil, turn0]
    rw [hv] at hw
    rw [hw, List.filter_map, List.map_map]
    have : List.filter ((fun q : List Int × Int => decide (q.2 = turnF n b e)) ∘ fun q : List Int × Int => (q.1, turnF n b q.2)) (waysS n k 0 [0]) = List.filter (fun q => decide (q.2 = e)) (waysS n k 0 [0]) := by
      apply List.filter_congr
      rintro ⟨w, z⟩ hq
      obtain ⟨U, hU⟩ := trk_trkV ((mem_ways k 0 [0] w z).1 hq).2
      have hz := trkV_end hS w 0 [0] (z, U) (Int.le_refl 0) (by omega) hU
      simp only [Function.comp]
      rw [Bool.eq_iff_iff, decide_eq_true_eq, decide_eq_true_eq]
      exact turn_inj hS b hz.1 hz.2 h0 h1
    rw [this]
    rfl
  · rfl
theorem Turn.all (h : Turn n b s x) (hS : OkS n) {e : Int} (h0 : 0 ≤ e) (h1 : e < n.Exchanges) : allF x (turnF n b e) = allF n e := by
  unfold allF
  exact flat_congr fun k _ => h.WK hS h0 h1 k
theorem Turn.delay (h : Turn n b s x) (e : Int) : delayAt x e = delayAt n e := by
  unfold delayAt
  rw [h.l]
  rcases n.Lines[e.toNat]? with _ | y
  · rfl
  · simp only [Option.map_some, Option.getD_some]
    unfold turnL
    split <;> rfl
theorem Turn.sums (h : Turn n b s x) (w : List Int) : lowF x w = lowF n w ∧ highF x w = highF n w := by
  unfold lowF highF
  simp only [h.delay, and_self]
theorem Turn.lp (h : Turn n b s x) (hS : OkS n) {e : Int} (h0 : 0 ≤ e) (h1 : e < n.Exchanges) (t : Nat) (q : Int × Int) : ∀ i, lpF x (turnF n b e) t i q = lpF n e t i q
  | 0 => rfl
  | i + 1 => by
    rw [lpF, lpF, h.lp hS h0 h1 t q i, h.o i]
    rcases hx : n.Loops[i]? with _ | y
    · rfl
    · obtain ⟨hi, rfl⟩ := List.getElem?_eq_some_iff.1 hx
      have ho := hS.lo hi
      have k1 := turn_inj hS b ho.e1 ho.e2 h0 h1
      simp only [Option.map_some]
      by_cases c : t.testBit i = false ∧ n.Loops[i].Exchange = e
      · rw [if_pos c, if_pos ⟨c.1, k1.2 c.2⟩]; rfl
      · rw [if_neg c, if_neg (fun g => c ⟨g.1, k1.1 g.2⟩)]
theorem Turn.sp (h : Turn n b s x) (hS : OkS n) {e : Int} (h0 : 0 ≤ e) (h1 : e < n.Exchanges) (t : Nat) (w : List Int) : spF x (turnF n b e) t w = spF n e t w := by
  unfold spF
  rw [(h.sums w).1, (h.sums w).2, h.leno, h.lp hS h0 h1]
theorem Turn.routes (h : Turn n b s x) (hS : OkS n) {e : Int} (h0 : 0 ≤ e) (h1 : e < n.Exchanges) (t : Nat) : routesF x (turnF n b e) t = routesF n e t := by
  rw [routesF_all, routesF_all, h.all hS h0 h1]
  apply List.filter_congr
  intro w _
  unfold canW
  rw [h.sp hS h0 h1]
theorem Turn.err (h : Turn n b s x) (hS : OkS n) {e : Int} (h0 : 0 ≤ e) (h1 : e < n.Exchanges) : errF x (turnF n b e) = errF n e := by
  have t1 := turn_bd hS b h0 h1
  have hr : reachB x (turnF n b e) = reachB n e := by
    unfold reachB
    simp only [h.WK hS h0 h1]
  unfold errF
  rw [(h.ok hS).good, hS.good, h.ex, hr, h.routes hS h0 h1, inB_iff.2 ⟨t1.1, by omega⟩, inB_iff.2 ⟨h0, by omega⟩]
theorem Turn.RoutesF (h : Turn n b s x) (hS : OkS n) {e : Int} (h0 : 0 ≤ e) (h1 : e < n.Exchanges) : Rt.RoutesF x (turnF n b e) = Rt.RoutesF n e := by
  unfold Rt.RoutesF
  rw [h.err hS h0 h1, h.routes hS h0 h1]
theorem Turn.DelayF (h : Turn n b s x) (hS : OkS n) {e : Int} (h0 : 0 ≤ e) (h1 : e < n.Exchanges) : Rt.DelayF x (turnF n b e) = Rt.DelayF n e := by
  unfold Rt.DelayF spanF spanN
  rw [h.err hS h0 h1, h.routes hS h0 h1]
  simp only [h.sp hS h0 h1]
theorem Turn.okT (h : Turn n b s x) (hS : OkS n) (t : Nat) : Rt.okT x t = Rt.okT n t := by
  rw [Bool.eq_iff_iff, okT_iff, okT_iff, h.leno]
  have key : ∀ i, i < n.Loops.length → routesF x (loopE x i) t = routesF n (loopE n i) t := fun i hi => by
    have ho := hS.lo hi
    have e : loopE x i = turnF n b n.Loops[i].Exchange := by
      unfold loopE
      rw [h.o i, List.getElem?_eq_getElem hi]; rfl
    rw [e, loopE_get hi, h.routes hS ho.e1 ho.e2]
  constructor
  · intro g i hi hb
    rw [← key i hi]; exact g i hi hb
  · intro g i hi hb
    rw [key i hi]; exact g i hi hb
theorem Turn.left (h : Turn n b s x) (hS : OkS n) {S : List Int} (hl : IsLeft x S) : IsLeft n S := by
  obtain ⟨⟨t, h1, h2, h3⟩, h4⟩ := hl
  rw [h.leno] at h1 h2
  refine ⟨⟨t, h1, h2, by rw [← h.okT hS]; exact h3⟩, fun u hu ho => ?_⟩
  have := h4 u (by rw [h.leno]; exact hu) (by rw [h.okT hS]; exact ho)
  rw [h.leno] at this
  exact this
end
end Go.Proofs.YthdbokigcfbgeaaDoor.Rt
