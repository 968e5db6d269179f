/- The small program logic of this seat, part 17: maps whose entries were laid one after the other; ranges over them, in whatever order. Under no conditions but those that each rule names. -/
import Derived.Test.YtpniidbbbhbglaaDoorC14Rt16
import Derived.Maps.RangeRun
set_option linter.unusedSimpArgs false
set_option linter.unusedVariables false
set_option maxRecDepth 100000
namespace Go.Proofs.YtpniidbbbhbglaaDoor.Rt
open Go Go.RowKit
def Born (es : Array MapEntry) (clk : Nat) : Prop := (es.toList.map (·.born)).Nodup ∧ ∀ e ∈ es.toList, e.born < clk
theorem Born.empty : Born #[] 0 := ⟨List.nodup_nil, fun e he => by simp at he⟩
section
variable {K V : Type} {kl : K → List Int} {C : Codec V} {agg : Bool} {D D' : Stab}
def MRepB (kl : K → List Int) (C : Codec V) (agg : Bool) (D : Stab) (xs : List (K × V)) (es : Array MapEntry) (clk : Nat) : Prop := MReps kl C agg D xs es.toList ∧ Born es clk
theorem MRepB.mono (hle : D.le D') {xs : List (K × V)} {es : Array MapEntry} {clk : Nat} (h : MRepB kl C agg D xs es clk) : MRepB kl C agg D' xs es clk := ⟨h.1.mono hle, h.2⟩
theorem MRepB.nil : MRepB kl C agg D ([] : List (K × V)) #[] 0 := ⟨rfl, Born.empty⟩
def MapB (kl : K → List Int) (C : Codec V) (agg : Bool) (D : Stab) (xs : List (K × V)) (b : Option Nat) : Prop :=
  (b = none ∧ xs = []) ∨ ∃ k es clk, b = some k ∧ D k = some (.map es clk) ∧ MRepB kl C agg D xs es clk
theorem MapB.mono {xs : List (K × V)} {b : Option Nat} (h : MapB kl C agg D xs b) (hle : D.le D') : MapB kl C agg D' xs b := by
  rcases h with h | ⟨k, es, clk, h0, h1, h2⟩
  · exact .inl h
  · exact .inr ⟨k, es, clk, h0, hle k _ h1, h2.mono hle⟩
theorem MapB.nil : MapB kl C agg D ([] : List (K × V)) none := .inl ⟨rfl, rfl⟩
def IterB (kl : K → List Int) (C : Codec V) (agg : Bool) (D : Stab) (left : List (K × V)) (o : Obj) : Prop :=
  (left = [] ∧ o = .mapIter none 0 #[] 0) ∨ ∃ k es clk seen, D k = some (.map es clk) ∧ Born es clk ∧ o = .mapIter (some k) clk seen clk ∧ MReps kl C agg D left (leftOf es seen).toList
theorem IterB.mono {left : List (K × V)} {o : Obj} (h : IterB kl C agg D left o) (hle : D.le D') : IterB kl C agg D' left o := by
  rcases h with h | ⟨k, es, clk, seen, h0, h1, h2, h3⟩
  · exact .inl h
  · exact .inr ⟨k, es, clk, seen, hle k _ h0, h1, h2, h3.mono hle⟩
theorem MReps.get : ∀ {xs : List (K × V)} {es : List MapEntry} {i : Nat} (h : i < es.length), MReps kl C agg D xs es →
    ∃ h' : i < xs.length, es[i].key = .agg (ints (kl xs[i].1)).toArray ∧ (∃ cs, C.rep D xs[i].2 cs ∧ es[i].val = valV agg cs) ∧ MReps kl C agg D (xs.eraseIdx i) (es.eraseIdx i)
  | [], _, i, h, hM => by simp only [MReps] at hM; subst hM; simp at h
  | p :: r, es, i, h, ⟨e, es', h1, h2, h3, h5⟩ => by
    subst h1
    cases i with
    | zero => exact ⟨by simp, h2, h3, by simpa using h5⟩
    | succ i =>
      obtain ⟨g1, g2, g3, g4⟩ := MReps.get (i := i) (by simpa using h) h5
      exact ⟨by simpa using g1, by simpa using g2, by simpa using g3, ⟨e, es'.eraseIdx i, by simp, h2, h3, g4⟩⟩
def StepB (kl : K → List Int) (C : Codec V) (agg : Bool) (D : Stab) (kv : K × V) (left : List (K × V)) (o : Obj) : Prop :=
  ∃ (k : Nat) (es : Array MapEntry) (clk : Nat) (seen : Array Nat) (e : MapEntry), D k = some (.map es clk) ∧ Born es clk ∧ o = .mapIter (some k) clk (seen.push e.born) clk ∧ e ∈ es.toList ∧ e.key = .agg (ints (kl kv.1)).toArray ∧ (∃ cs, C.rep D kv.2 cs ∧ e.val = valV agg cs) ∧ MReps kl C agg D left (leftOf es (seen.push e.born)).toList
theorem StepB.mono {kv : K × V} {left : List (K × V)} {o : Obj} (h : StepB kl C agg D kv left o) (hle : D.le D') : StepB kl C agg D' kv left o := by
  obtain ⟨k, es, clk, seen, e, h0, h1, h2, h3, h4, ⟨cs, h5, h6⟩, h7⟩ := h
  exact ⟨k, es, clk, seen, e, hle k _ h0, h1, h2, h3, h4, ⟨cs, C.mono hle h5, h6⟩, h7.mono hle⟩
end
section
variable {P : Program} {K V : Type} {kl : K → List Int} {C : Codec V} {agg : Bool} {D : Stab} {w : World} {kt : TypeId} {n : Nat}
variable {N : Nat} {rs : List Nat} {r : Option Nat} {vs : List (Nat × Value)} {a : Act} {w0 : World} {ops : Array Oper} {Q : Exit → Act → World → Prop} {rest : List Oper}
variable {d : Nat} {dst : Option Nat} {ty : TypeId} {pos : String} {aft : Array Edge} {gd : Option (Nat × Bool)} {v : Value} {D0 : Stab} {ls : List (Nat × LR)}
end
end Go.Proofs.YtpniidbbbhbglaaDoor.Rt
