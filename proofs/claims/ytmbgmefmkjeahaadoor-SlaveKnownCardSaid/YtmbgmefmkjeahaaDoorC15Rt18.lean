/- The small program logic of this seat, part 18: functions that hand back a slice of their own; calls that are lent slices for their time alone. Under no conditions but those that each rule names. -/
import Derived.Test.YtmbgmefmkjeahaaDoorC15Rt17
set_option linter.unusedSimpArgs false
set_option linter.unusedVariables false
set_option maxRecDepth 100000
namespace Go.Proofs.YtmbgmefmkjeahaaDoor.Rt
open Go Go.RowKit
section
variable {w0 w w' : World} {D0 D D' : Stab} {ls : List (Nat × LR)}
theorem St.growD (h : St w0 D0 D ls w) (hle : D.le D') (hon : D'.on w) (hnew : ∀ b, D' b ≠ none → D b ≠ none ∨ w0.heap.size ≤ b) (hfree : ∀ i r, lk ls i = some r → ∀ b ∈ r.fp, D' b = none) : St w0 D0 D' ls w :=
  ⟨h.below, h.le.trans hle, fun b hb => by
    rcases hnew b hb with h1 | h1
    · exact h.new b h1
    · exact .inr h1, hon, h.each, fun i r x b hb => ⟨(h.low i r x b hb).1, hfree i r x b hb⟩, h.sep⟩
theorem St.callO (hS : St w0 D0 D ls w) {r : LR} (h : St w D D' [(1, r)] w') (i : Nat) : St w0 D0 D' ((i, r) :: ls) w' := by
  have h1 : lk [(1, r)] 1 = some r := rfl
  have hlow := h.low 1 r h1
  have hsz := hS.below.size
  have s1 : St w0 D0 D ((i, r) :: ls) w' := hS.turn i r (hS.below.trans (h.below.mono hsz)) (fun b hb _ => h.below.block b hb) (h.each 1 r h1) (fun b hb => .inl (hlow b hb).1)
  refine s1.growD h.le h.stab (fun b hb => ?_) fun j x hj b hb => ?_
  · rcases h.new b hb with h2 | h2
    · exact .inl h2
    · exact .inr (by omega)
  · rcases lk_cons hj with ⟨rfl, rfl⟩ | ⟨_, hj⟩
    · exact (hlow b hb).2
    · cases hq : D' b with
      | none => rfl
      | some o =>
        rcases h.new b (by rw [hq]; simp) with h2 | h2
        · exact absurd (hS.low j x hj b hb).2 h2
        · have := LR.holds_lt (hS.each j x hj) hb; omega
theorem St.one {i j : Nat} {r : LR} (h : St w0 D0 D [(i, r)] w) : St w0 D0 D [(j, r)] w := by
  have h1 := lk_same i r []
  have key : ∀ k x, lk [(j, r)] k = some x → k = j ∧ x = r := fun k x hk => by
    rcases lk_cons hk with h | ⟨_, hk⟩
    · exact h
    · simp [lk] at hk
  refine ⟨h.below, h.le, h.new, h.stab, fun k x hk => ?_, fun k x hk => ?_, fun k l x y hk hl hkl => ?_⟩
  · obtain ⟨rfl, rfl⟩ := key k x hk; exact h.each i _ h1
  · obtain ⟨rfl, rfl⟩ := key k x hk; exact h.low i _ h1
  · exact absurd ((key k x hk).1.trans (key l y hl).1.symm) hkl
end
section
variable {P : Program} {N : Nat} {rs : List Nat} {r : Option Nat} {vs : List (Nat × Value)} {a : Act} {w w0 : World} {ops : Array Oper} {Q : Exit → Act → World → Prop} {rest : List Oper}
variable {d : Nat} {dst : Option Nat} {ty : TypeId} {pos : String} {aft : Array Edge} {D0 D Db : Stab} {ls : List (Nat × LR)} {ρ α : Type} {C : Codec α}
def RetO (w0 : World) (D0 : Stab) (C : Codec α) (xs : List α) (E : TypeId) (vf : Option Addr → Nat → Value) : Stab → World → Value → Prop :=
  fun D w v => ∃ p c cs, St w0 D0 D [(1, .own p xs.length c cs E C.n)] w ∧ v = vf p c ∧ Reps C D xs cs
theorem O.callO {xs : List α} {E : TypeId} {vf : Option Addr → Nat → Value} {os : List Operand} {Ts : Array TypeId} {f : FuncId} {us : List Value} (i : Nat) (hc : callable P f = true) (hF : Frm N rs vs a) (hS : St w0 D0 D ls w)
    (hcall : Calls P f us.toArray w (RetM D (RetO w D C xs E vf))) (hxs : evs vs os = some us) (hd : Nat.ble (d + 1) N = true)
    (h : ∀ p c cs D' a' w', D.le D' → Reps C D' xs cs → Frm N rs ((d, vf p c) :: vs) a' → St w0 D0 D' ((i, .own p xs.length c cs E C.n) :: ls) w' → WL r P ops Q rest a' w') :
    WL r P ops Q (⟨some d, .call ⟨.value (.func f), os.toArray, Ts⟩, ty, pos, aft, none⟩ :: rest) a w :=
  O.callF hc hF hxs hd hcall (fun _ _ h => ⟨h.choose, h.choose_spec.choose_spec.1⟩) fun u a' w' hR hF' => by
    obtain ⟨v, D', e, hle, p, c, cs, h1, rfl, h2⟩ := hR
    injection e with e
    subst e
    exact h p c cs D' a' w' hle h2 hF' (hS.callO h1 i)
theorem leaveO {fn : Func} {os : List ResultVar} {us : List Value} {xs : List α} {E : TypeId} {vf : Option Addr → Nat → Value} {p : Option Addr} {c : Nat} {cs : List Value} (i : Nat) (hr : fn.results = os.toArray) (hF : Frm N rs vs a) (hS : St w0 D0 D ls w) (h : RVs P vs ls os us)
    (hm : rs = [] ∨ ∃ j, lk ls j = some (.marks rs) ∧ j ≠ i) (hl : lk ls i = some (.own p xs.length c cs E C.n)) (hv : tup us = vf p c) (hR : Reps C D xs cs) : base P fn (RetM D0 (RetO w0 D0 C xs E vf)) .ret a w := by
  refine leaveM (ms := [(i, .own p xs.length c cs E C.n)]) hr hF hS h ?_ ⟨hl, trivial⟩ hS.le fun w' hS' => ⟨p, c, cs, hS'.one, hv, hR⟩
  rcases hm with hm | ⟨j, h1, h2⟩
  · exact .inl hm
  · refine .inr ⟨j, h1, ?_⟩
    rw [lk_ne (fun e => h2 e.symm)]; rfl
theorem nilCases {xs : List α} {p : Option Addr} (h : SRep C D xs p) : (p = none ∧ xs = []) ∨ ∃ q, p = some q := by
  cases p with
  | some q => exact .inr ⟨q, rfl⟩
  | none =>
    rcases h with h | ⟨b, o, all, E, fr, cs, e, _⟩
    · exact .inl ⟨rfl, h⟩
    · cases e
theorem run_equalIn_nil {T E : TypeId} {p : Option Addr} {n c : Nat} (hT : P.underlying T = some (.slice E)) (k : Nat) : (Op.equalIn (k + 1) T (.slice p n c) (.slice none 0 0)).run P w = .ok p.isNone w := by
  cases p <;> simp [Op.equalIn, run_underlying hT]
theorem Y.eqNil {gd : Option (Nat × Bool)} {T T2 E : TypeId} {x : Operand} {p : Option Addr} {n c : Nat} (hT : P.underlying T = some (.slice E)) (hF : Frm N rs vs a) (hx : ev vs x = some (.slice p n c)) :
    Yields P ⟨dst, .binOp .eql T x (.const (.slice none 0 0)) T2, ty, pos, aft, gd⟩ a w (.bool p.isNone) :=
  Y.bin (t := .slice none 0 0) hF hx rfl rfl (by
    have h := run_equal_of (P := P) (w := w) (x := .slice p n c) (y := .slice none 0 0) (b := p.isNone) (T := T) (fun k => run_equalIn_nil hT (k + 4))
    simp only [binOp, Sem.run_bind, h]; rfl)
theorem retO_S {xs : List α} {E : TypeId} {vf : Option Addr → Nat → Value} {e : Ending} {w' : World} (h : RetM D0 (RetO w D0 C xs E vf) e w') : RetS D0 w (fun D v => ∃ p c, v = vf p c ∧ SRc C D xs p c) e w' := by
  obtain ⟨v, D', e1, hle, p, c, cs, hS, rfl, hR⟩ := h
  obtain ⟨D2, hle2, hs, hS2⟩ := hS.freezeC (i := 1) (xs := xs) rfl hR
  exact ⟨_, D2, e1, ⟨p, c, rfl, hs⟩, hle.trans hle2, hS2.stab, hS2.below, hS2.new⟩
theorem St.nilRes (hS : St w0 D0 D ls w) (i : Nat) : St w0 D0 D ((i, .gone) :: ls) w := hS.turn i .gone hS.below (fun _ _ _ => rfl) trivial (fun b hb => by simp [LR.fp] at hb)
theorem St.toSnap {ms : List (Nat × LR)} {i : Nat} {r : LR} (hS : St w0 D0 D ls w) (hsub : ∀ j r, lk ms j = some r → lk ls j = some r) (hlt : ∀ j r, lk ms j = some r → j < 1000) (hi : 1000 < i) (hl : lk ls i = some r) :
    St w0 D0 D ((1000, .snap r.fp fun b => w.heap[b]?) :: ms) w := by
  have hS1 : St w0 D0 D ms w := hS.sub hsub
  refine ⟨hS.below, hS.le, hS.new, hS.stab, fun k x hk => ?_, fun k x hk => ?_, fun k l x y hk hl2 hkl b hb hb' => ?_⟩
  · rcases lk_cons hk with ⟨rfl, rfl⟩ | ⟨_, hk⟩
    · intro b hb
      have := LR.holds_lt (hS.each i r hl) hb
      exact ⟨_, Array.getElem?_eq_getElem this, Array.getElem?_eq_getElem this⟩
    · exact hS1.each k x hk
  · rcases lk_cons hk with ⟨rfl, rfl⟩ | ⟨_, hk⟩
    · exact hS.low i r hl
    · exact hS1.low k x hk
  · rcases lk_cons hk with ⟨rfl, rfl⟩ | ⟨_, hk⟩ <;> rcases lk_cons hl2 with ⟨rfl, rfl⟩ | ⟨_, hl2⟩
    · exact hkl rfl
    · have := hlt l y hl2
      exact hS.sep i l r y hl (hsub l y hl2) (by omega) b hb hb'
    · have := hlt k x hk
      exact hS.sep k i x r (hsub k x hk) hl (by omega) b hb hb'
    · exact hS1.sep k l x y hk hl2 hkl b hb hb'
theorem St.fromSnap {ms : List (Nat × LR)} {i : Nat} {r : LR} {wo : World} (hS : St w0 D0 D ((1000, .snap r.fp fun b => wo.heap[b]?) :: ms) w) (hlt : ∀ j r, lk ms j = some r → j < 1000) (hi : 1000 < i) (hr : r.holds wo) :
    St w0 D0 D ((i, r) :: ms) w := by
  have h0 : lk ((1000, LR.snap r.fp fun b => wo.heap[b]?) :: ms) 1000 = some (.snap r.fp fun b => wo.heap[b]?) := lk_same _ _ _
  have hms : ∀ k x, lk ms k = some x → lk ((1000, LR.snap r.fp fun b => wo.heap[b]?) :: ms) k = some x := fun k x hk => by rw [lk_ne (by have := hlt k x hk; omega)]; exact hk
  have hsn := hS.each 1000 _ h0
  refine ⟨hS.below, hS.le, hS.new, hS.stab, fun k x hk => ?_, fun k x hk => ?_, fun k l x y hk hl2 hkl => ?_⟩
  · rcases lk_cons hk with ⟨rfl, rfl⟩ | ⟨_, hk⟩
    · refine LR.holds_of_eq hr fun b hb => ?_
      obtain ⟨o, e1, e2⟩ := hsn b hb
      rw [e2]; exact e1.symm
    · exact hS.each k x (hms k x hk)
  · rcases lk_cons hk with ⟨rfl, rfl⟩ | ⟨_, hk⟩
    · exact fun b hb => hS.low 1000 (LR.snap x.fp fun b => wo.heap[b]?) h0 b hb
    · exact hS.low k x (hms k x hk)
  · rcases lk_cons hk with ⟨e1, e2⟩ | ⟨_, hk2⟩ <;> rcases lk_cons hl2 with ⟨e3, e4⟩ | ⟨_, hl3⟩
    · exact absurd (e1.trans e3.symm) hkl
    · subst e2
      have := hlt l y hl3
      exact fun b hb => hS.sep 1000 l (LR.snap x.fp fun b => wo.heap[b]?) y h0 (hms l y hl3) (by omega) b hb
    · subst e4
      have := hlt k x hk2
      exact fun b hb hb' => hS.sep k 1000 x (LR.snap y.fp fun b => wo.heap[b]?) (hms k x hk2) h0 (by omega) b hb hb'
    · exact hS.sep k l x y (hms k x hk2) (hms l y hl3) hkl
theorem cutV {T : World → Prop} {K : Act → World → Prop} {t u : Tr} (J : Act → World → Prop) (h1 : (∀ a w, J a w → WV r P ops Q T K u a w) → WV r P ops Q T K t a w) (h2 : ∀ a w, J a w → WV r P ops Q T K u a w) : WV r P ops Q T K t a w := h1 h2
theorem Y.fieldN {gd : Option (Nat × Bool)} {T : TypeId} {x : Operand} {f o n : Nat} {cs us : List Value} (hk : fieldT P T f = some (o, true, n)) (hF : Frm N rs vs a) (hx : ev vs x = some (.agg cs.toArray)) (hv : (cs.drop o).take n = us) :
    Yields P ⟨dst, .field T x f, ty, pos, aft, gd⟩ a w (.agg us.toArray) := by
  unfold fieldT at hk
  split at hk <;> try cases hk
  rename_i fs hu
  split at hk <;> try cases hk
  rename_i fl hfl
  split at hk <;> try cases hk
  rename_i b m htz
  simp only [Yields, execOp, hF.eval hx, Instr.field, Sem.run_bind, run_underlying hu, Result.andThen_ok, hfl, asAgg, pure_bind, part, run_isAgg_of htz, if_true, run_sizeOf_of htz, Sem.run_pure]
  subst hv
  simp
end
end Go.Proofs.YtmbgmefmkjeahaaDoor.Rt
