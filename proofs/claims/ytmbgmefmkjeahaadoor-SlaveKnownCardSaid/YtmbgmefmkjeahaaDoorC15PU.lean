/- Plain laws of the slave seat: lines that are alike, lines with one event more. Under the conditions that each names. -/
import Derived.Test.YtmbgmefmkjeahaaDoorC15PT
set_option linter.unusedVariables false
set_option linter.unusedSimpArgs false
set_option maxRecDepth 100000
set_option maxHeartbeats 4000000
namespace Go.Proofs.YtmbgmefmkjeahaaDoor.Rt
open Go Go.RowKit
structure EvLe (e e' : SlaveEvent) : Prop where
  k : e'.Kind = e.Kind
  f : e'.First = e.First
  c : e'.Count = e.Count
  w : e'.Who = e.Who
  s : e'.Shown = e.Shown
  l : e.Kind ≠ 2 → e.Lost ≤ e'.Lost
theorem EvLe.refl (e : SlaveEvent) : EvLe e e := ⟨rfl, rfl, rfl, rfl, rfl, fun _ => Int.le_refl _⟩
theorem step_ev {R : Int} {e e' : SlaveEvent} (h : EvLe e e') (p : Nat) (s : SlaveStart) : stepF R e' p s = stepF R e p s := by
  unfold stepF signF; rw [h.k, h.f]
theorem run_ev {R : Int} {e e' : SlaveEvent} (h : EvLe e e') (ls : List Int) : ∀ (p : Nat) (s : SlaveStart), runP R e' ls p s = runP R e ls p s
  | 0, _ => rfl
  | p + 1, s => by simp only [runP, run_ev h ls p s, step_ev h]
theorem Sto.lift {l l' : SlaveLine} (hR : l'.Ring = l.Ring) (hSt : l'.Starts = l.Starts) {who : Nat} {wo : Nat → Bool} {i : Nat} {st : List (List Int)} {s : SlaveStart} (h : Sto l who wo i st s) :
    (∀ j e, j < i → l.Events[j]? = some e → ∃ e', l'.Events[j]? = some e' ∧ EvLe e e') → Sto l' who wo i st s := by
  induction h with
  | zero hw =>
    intro _
    have e : l.Starts[who] = l'.Starts[who]'(by rw [hSt]; exact hw) := by simp only [hSt]
    rw [e]; exact Sto.zero _
  | @look i st s hi hk hs h ih =>
    intro hE
    obtain ⟨e', h1, h2⟩ := hE i _ (Nat.lt_succ_self i) (List.getElem?_eq_getElem hi)
    obtain ⟨hi', rfl⟩ := List.getElem?_eq_some_iff.1 h1
    exact Sto.look hi' (by rw [h2.k]; exact hk) (by rw [h2.w, h2.s]; exact hs) (ih fun j e hj => hE j e (by omega))
  | @send i st s ls hi hk h hl hn ih =>
    intro hE
    obtain ⟨e', h1, h2⟩ := hE i _ (Nat.lt_succ_self i) (List.getElem?_eq_getElem hi)
    obtain ⟨hi', rfl⟩ := List.getElem?_eq_some_iff.1 h1
    have := Sto.send hi' (by rw [h2.k]; exact hk) (ih fun j e hj => hE j e (by omega)) (ls := ls) (by rw [h2.c]; exact hl) (by have := h2.l hk; omega)
    rw [run_ev h2, h2.c, hR] at this
    exact this
theorem Sto.pre {l l' : SlaveLine} (hR : l'.Ring = l.Ring) (hSt : l'.Starts = l.Starts) {who : Nat} {wo : Nat → Bool} {i : Nat} {st : List (List Int)} {s : SlaveStart} (hE : ∀ j, j < i → l.Events[j]? = l'.Events[j]?) : Sto l who wo i st s ↔ Sto l' who wo i st s :=
  ⟨fun h => h.lift hR hSt fun j e hj he => ⟨e, by rw [← hE j hj]; exact he, .refl e⟩, fun h => h.lift hR.symm hSt.symm fun j e hj he => ⟨e, by rw [hE j hj]; exact he, .refl e⟩⟩
def snocL (l : SlaveLine) (x : SlaveEvent) : SlaveLine := ⟨l.Ring, l.Starts, l.Events ++ [x]⟩
theorem Sto.snoc {l : SlaveLine} {x : SlaveEvent} {who : Nat} {wo : Nat → Bool} {st : List (List Int)} {s : SlaveStart} : Sto (snocL l x) who wo l.Events.length st s ↔ Tale l who wo st s :=
  (Sto.pre (l := l) (l' := snocL l x) rfl rfl fun j hj => by unfold snocL; dsimp only; rw [List.getElem?_append_left hj]).symm
section
variable {l : SlaveLine} {w : Nat}
end
end Go.Proofs.YtmbgmefmkjeahaaDoor.Rt
