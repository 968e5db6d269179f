/- Plain laws of the slave seat: lines that are alike, lines with one event more. Under the conditions that each names. -/
import Derived.Test.YtmbgmefmkjeahaaDoorC14PT
set_option linter.unusedVariables false
set_option linter.unusedSimpArgs false
set_option maxRecDepth 100000
set_option maxHeartbeats 4000000
namespace Go.Proofs.YtmbgmefmkjeahaaDoor.Rt
open Go Go.RowKit
structure EvLe (e e' : SlaveEvent) : Prop where
  k : e'.Kind = e.Kind
  f : e'.First = e.First
  c : e'.Count = e.Count
  w : e'.Who = e.Who
  s : e'.Shown = e.Shown
  l : e.Kind ≠ 2 → e.Lost ≤ e'.Lost
theorem EvLe.refl (e : SlaveEvent) : EvLe e e := ⟨rfl, rfl, rfl, rfl, rfl, fun _ => Int.le_refl _⟩
theorem step_ev {R : Int} {e e' : SlaveEvent} (h : EvLe e e') (p : Nat) (s : SlaveStart) : stepF R e' p s = stepF R e p s := by
  unfold stepF signF; rw [h.k, h.f]
theorem run_ev {R : Int} {e e' : SlaveEvent} (h : EvLe e e') (ls : List Int) : ∀ (p : Nat) (s : SlaveStart), runP R e' ls p s = runP R e ls p s
  | 0, _ => rfl
  | p + 1, s => by simp only [runP, run_ev h ls p s, step_ev h]
theorem Sto.lift {l l' : SlaveLine} (hR : l'.Ring = l.Ring) (hSt : l'.Starts = l.Starts) {who : Nat} {wo : Nat → Bool} {i : Nat} {st : List (List Int)} {s : SlaveStart} (h : Sto l who wo i st s) :
    (∀ j e, j < i → l.Events[j]? = some e → ∃ e', l'.Events[j]? = some e' ∧ EvLe e e') → Sto l' who wo i st s := by
  induction h with
  | zero hw =>
    intro _
    have e : l.Starts[who] = l'.Starts[who]'(by rw [hSt]; exact hw) := by simp only [hSt]
    rw [e]; exact Sto.zero _
  | @look i st s hi hk hs h ih =>
    intro hE
    obtain ⟨e', h1, h2⟩ := hE i _ (Nat.lt_succ_self i) (List.getElem?_eq_getElem hi)
    obtain ⟨hi', rfl⟩ := List.getElem?_eq_some_iff.1 h1
    exact Sto.look hi' (by rw [h2.k]; exact hk) (by rw [h2.w, h2.s]; exact hs) (ih fun j e hj => hE j e (by omega))
  | @send i st s ls hi hk h hl hn ih =>
    intro hE
    obtain ⟨e', h1, h2⟩ := hE i _ (Nat.lt_succ_self i) (List.getElem?_eq_getElem hi)
    obtain ⟨hi', rfl⟩ := List.getElem?_eq_some_iff.1 h1
    have := Sto.send hi' (by rw [h2.k]; exact hk) (ih fun j e hj => hE j e (by omega)) (ls := ls) (by rw [h2.c]; exact hl) (by have := h2.l hk; omega)
    rw [run_ev h2, h2.c, hR] at this
    exact this
theorem Sto.pre {l l' : SlaveLine} (hR : l'.Ring = l.Ring) (hSt : l'.Starts = l.Starts) {who : Nat} {wo : Nat → Bool} {i : Nat} {st : List (List Int)} {s : SlaveStart} (hE : ∀ j, j < i → l.Events[j]? = l'.Events[j]?) : Sto l who wo i st s ↔ Sto l' who wo i st s :=
  ⟨fun h => h.lift hR hSt fun j e hj he => ⟨e, by rw [← hE j hj]; exact he, .refl e⟩, fun h => h.lift hR.symm hSt.symm fun j e hj he => ⟨e, by rw [hE j hj]; exact he, .refl e⟩⟩
def snocL (l : SlaveLine) (x : SlaveEvent) : SlaveLine := ⟨l.Ring, l.Starts, l.Events ++ [x]⟩
theorem Sto.snoc {l : SlaveLine} {x : SlaveEvent} {who : Nat} {wo : Nat → Bool} {st : List (List Int)} {s : SlaveStart} : Sto (snocL l x) who wo l.Events.length st s ↔ Tale l who wo st s :=
  (Sto.pre (l := l) (l' := snocL l x) rfl rfl fun j hj => by unfold snocL; dsimp only; rw [List.getElem?_append_left hj]).symm
theorem tale_send {l : SlaveLine} {x : SlaveEvent} (hk : x.Kind ≠ 2) {who : Nat} {st : List (List Int)} {s : SlaveStart} : Tale (snocL l x) who wo0 st s ↔ ∃ st0 s0 ls, st = st0 ++ [ls] ∧ Tale l who wo0 st0 s0 ∧ Loss x.Count.toNat ls ∧ (ls.length : Int) ≤ x.Lost ∧ s = runP l.Ring x ls x.Count.toNat s0 := by
  have hlen : (snocL l x).Events.length = l.Events.length + 1 := by simp [snocL]
  have hx : (snocL l x).Events[l.Events.length]'(by omega) = x := by simp [snocL]
  show Sto _ _ _ _ _ _ ↔ _
  rw [hlen]
  constructor
  · intro h
    cases h with
    | look hi hk' => rw [hx] at hk'; exact absurd hk' hk
    | @send _ st0 s0 ls hi hk' h hl hn =>
      rw [hx] at hl hn
      exact ⟨st0, s0, ls, rfl, Sto.snoc.1 h, hl, hn, by rw [hx]; rfl⟩
  · rintro ⟨st0, s0, ls, rfl, h, hl, hn, rfl⟩
    have := Sto.send (l := snocL l x) (who := who) (wo := wo0) (i := l.Events.length) (by omega) (by rw [hx]; exact hk) (Sto.snoc.2 h) (ls := ls) (by rw [hx]; exact hl) (by rw [hx]; exact hn)
    rw [hx] at this
    exact this
theorem snoc_ok {l : SlaveLine} (hS : OkS l) (h : l.Events.length < 10) {x : SlaveEvent} (hx : OkE l.Starts.length l.Ring x) : OkS (snocL l x) :=
  ⟨hS.r1, hS.r2, hS.n1, hS.n2, by simp [snocL]; omega, hS.s, fun y hy => by
    rcases List.mem_append.1 hy with hy | hy
    · exact hS.ev y hy
    · rw [List.mem_singleton.1 hy]; exact hx.is⟩
theorem snoc_Ok {l : SlaveLine} (h : Ok_SlaveLine l) {x : SlaveEvent} (hx : Ok_SlaveEvent x) (hl : l.Events.length ≤ 1000) : Ok_SlaveLine (snocL l x) :=
  ⟨h.1, h.2.1, by simp [snocL]; omega, fun y hy => by
    rcases List.mem_append.1 hy with hy | hy
    · exact h.2.2.2 y hy
    · rw [List.mem_singleton.1 hy]; exact hx⟩
section
variable {l : SlaveLine} {w : Nat}
theorem canF_of (hS : OkS l) (hw : w < l.Starts.length) : canF l (w : Int) = if canB l w wo0 then (canN l w 60, 0) else ([], 72) := by
  unfold canF
  rw [askF_of hS hw, Int.toNat_natCast]
  cases canB l w wo0 <;> rfl
theorem mem_canN (m : Nat) (x : Int) : x ∈ canN l w m ↔ ∃ k : Nat, x = (k : Int) ∧ k < m ∧ showB l w wo0 k = true := by
  simp only [canN, List.mem_map, List.mem_filter, List.mem_range]
  exact ⟨fun ⟨k, ⟨h1, h2⟩, h3⟩ => ⟨k, h3.symm, h1, h2⟩, fun ⟨k, h1, h2, h3⟩ => ⟨k, ⟨h2, h3⟩, h1.symm⟩⟩
theorem mem_canN' (hS : OkS l) (hw : w < l.Starts.length) (x : Int) : x ∈ canN l w 60 ↔ ∃ st s, Tale l w wo0 st s ∧ s.Shown = x := by
  rw [mem_canN]
  constructor
  · rintro ⟨k, rfl, hk, h⟩; exact (show_iff hS hw k).1 h
  · rintro ⟨st, s, h, rfl⟩
    have hT := h.okT hS
    have ha := hT.a; have hb := hT.b; have hr := hS.r2
    exact ⟨s.Shown.toNat, by omega, by omega, (show_iff hS hw _).2 ⟨st, s, h, by omega⟩⟩
theorem canN_one (k0 : Nat) (h : ∀ k, showB l w wo0 k = decide (k = k0)) : ∀ m, canN l w m = if k0 < m then [(k0 : Int)] else []
  | 0 => rfl
  | m + 1 => by
    rw [canN_succ, canN_one k0 h m, h]
    by_cases e : m = k0
    · subst e
      rw [decide_eq_true rfl, if_pos rfl, if_neg (by omega), if_pos (by omega)]; rfl
    · rw [decide_eq_false e, if_neg (by simp)]
      by_cases h2 : k0 < m
      · rw [if_pos h2, if_pos (by omega)]
      · rw [if_neg h2, if_neg (by omega)]
theorem rest_nat (n : Int) {m : Nat} (h : 0 < m) (h2 : m ≤ 100000) : ∃ k : Nat, r0Rest n (m : Int) = some (k : Int) ∧ k < m := by
  obtain ⟨r, e, h0, h1⟩ := rest_any n (by_ := (m : Int)) (by omega) (by omega)
  exact ⟨r.toNat, by rw [e]; congr 1; omega, by omega⟩
end
end Go.Proofs.YtmbgmefmkjeahaaDoor.Rt
