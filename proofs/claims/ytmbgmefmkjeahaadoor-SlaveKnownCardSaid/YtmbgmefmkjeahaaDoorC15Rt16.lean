/- The small program logic of this seat, part 16: computations whose results may be chosen among several, as predicates on what all of them fulfil; loops, calls and results for these. Under no conditions but those that each rule names. -/
import Derived.Test.YtmbgmefmkjeahaaDoorC15Rt15
set_option linter.unusedSimpArgs false
set_option linter.unusedVariables false
set_option maxRecDepth 100000
namespace Go.Proofs.YtmbgmefmkjeahaaDoor.Rt
open Go Go.RowKit
def ND (α : Type) : Type := (α → Prop) → Prop
section
variable {α β σ ρ : Type}
def ND.ret (a : α) : ND α := fun Q => Q a
def ND.bnd (m : ND α) (k : α → ND β) : ND β := fun Q => m fun a => k a Q
def ND.det (o : Option α) (k : α → ND β) : ND β := fun Q => ∃ a, o = some a ∧ k a Q
def ND.grd (c : Prop) (m : ND α) : ND α := fun Q => c ∧ m Q
def ND.of (o : Option α) : ND α := fun Q => ∃ a, o = some a ∧ Q a
def ND.pick (l : List α) : ND (Option α × List α) := fun Q => (l = [] → Q (none, [])) ∧ ∀ i (h : i < l.length), Q (some l[i], l.eraseIdx i)
theorem ndet {o : Option α} {k : α → ND β} {Q : β → Prop} (h : ND.det o k Q) : ∃ a, o = some a ∧ k a Q := h
theorem ngrd {c : Prop} {m : ND α} {Q : α → Prop} (h : ND.grd c m Q) : c ∧ m Q := h
theorem nbnd_ex {m : ND α} {k : α → ND β} {Q : β → Prop} (h : ND.bnd m k Q) : ∃ R : α → Prop, m R ∧ ∀ a, R a → k a Q := ⟨fun a => k a Q, h, fun _ h => h⟩
theorem nret {a : α} {Q : α → Prop} (h : ND.ret a Q) : Q a := h
theorem ncond_t {b : Bool} {x y : ND β} {Q : β → Prop} (h : (cond b x y) Q) (hb : b = true) : x Q := by subst hb; exact h
theorem ncond_f {b : Bool} {x y : ND β} {Q : β → Prop} (h : (cond b x y) Q) (hb : b = false) : y Q := by subst hb; exact h
def nlp (S : σ → Prop) (Q : ρ → Prop) : σ ⊕ ρ → Prop
  | .inl s => S s
  | .inr r => Q r
def nnxt (s : σ) : ND (σ ⊕ ρ) := fun Q => Q (.inl s)
def next_ (m : ND ρ) : ND (σ ⊕ ρ) := fun Q => m fun r => Q (.inr r)
theorem nnxt_h {s : σ} {S : σ → Prop} {Q : ρ → Prop} (h : nnxt s (nlp S Q)) : S s := h
theorem next_h {m : ND ρ} {S : σ → Prop} {Q : ρ → Prop} (h : next_ m (nlp S Q)) : m Q := h
def loopN (body : σ → ND (σ ⊕ ρ)) (s : σ) : ND ρ := fun Q => ∀ S : σ → Prop, (∀ s, body s (nlp S Q) → S s) → S s
def limN (f : Nat → ND α) : ND α := fun Q => ∃ n, f n Q
theorem limN_some {f : Nat → ND α} {Q : α → Prop} (h : limN f Q) : ∃ n, f n Q := h
theorem loopN_of {body : σ → ND (σ ⊕ ρ)} {Q : ρ → Prop} (Inv : σ → Prop) (mu : σ → Nat)
    (step : ∀ s, Inv s → ∀ S : σ → Prop, (∀ s', Inv s' → mu s' < mu s → S s') → body s (nlp S Q)) {s : σ} (hs : Inv s) : loopN body s Q := by
  intro S hS
  have key : ∀ n s, mu s < n → Inv s → S s := by
    intro n
    induction n with
    | zero => intro s h; omega
    | succ n ih => intro s hn hi; exact hS s (step s hi S fun s' hi' hlt => ih s' (by omega) hi')
  exact key _ s (Nat.lt_succ_self _) hs
end
section
variable {P : Program} {N : Nat} {rs : List Nat} {r : Option Nat} {vs : List (Nat × Value)} {a : Act} {w w0 : World} {ops : Array Oper} {Q : Exit → Act → World → Prop} {rest : List Oper}
variable {d : Nat} {dst : Option Nat} {ty : TypeId} {pos : String} {aft : Array Edge} {gd : Option (Nat × Bool)} {D0 D : Stab} {ls : List (Nat × LR)} {ρ σ : Type}
theorem loop_cutN {c : Code} {body : σ → ND (σ ⊕ ρ)} {out : ρ → Prop} (Rel : σ → Act → World → Prop) (s0 : σ) (hl : loopN body s0 out) (h0 : Rel s0 a w)
    (round : ∀ s a w (S : σ → Prop), Rel s a w → body s (nlp S out) → WP r P c (Exit.then (fun a' w' => ∃ s', S s' ∧ Rel s' a' w') Q) a w) : WP r P (Code.loop c) Q a w := by
  intro b k cs hro hb hr
  have key := hl (fun s => ∀ a w, Rel s a w → ∃ e a' w', Q e a' w' ∧ ArrivesIn (Machine.fenced P (Fw r)) P (lone (b.atR a (.code c :: .inLoop c :: k)) cs w) b k cs e a' w') (fun s hbody a w hR => by
    obtain ⟨e, a₁, w₁, hq, harr⟩ := round s a w _ hR hbody b (.inLoop c :: k) cs hro hb hr
    cases e with
    | normal =>
      obtain ⟨s', hs', hR'⟩ := hq
      obtain ⟨e₂, a₂, w₂, hq₂, harr₂⟩ := hs' a₁ w₁ hR'
      exact ⟨e₂, a₂, w₂, hq₂, .of_steps (StepsIn.trans harr (.one (fenced_calm hb hr rfl) stepR_inLoop)) harr₂⟩
    | exit id => exact ⟨_, a₁, w₁, hq, .pass (x := .inLoop c) rfl (fun _ _ => .inl (by simp)) harr⟩
    | goto l => exact ⟨_, a₁, w₁, hq, .pass (x := .inLoop c) rfl (fun _ _ => .inl (by simp)) harr⟩
    | ret => exact ⟨_, a₁, w₁, hq, .pass (x := .inLoop c) rfl (fun _ _ => .inl (by simp)) harr⟩
    | panic ch => exact ⟨_, a₁, w₁, hq, .pass (x := .inLoop c) rfl (fun _ _ => .inl (by simp)) harr⟩
    | outgrown => exact ⟨_, a₁, w₁, hq, .pass (x := .inLoop c) rfl (fun _ _ => .inl (by simp)) harr⟩)
  obtain ⟨e, a', w', hq, harr⟩ := key a w h0
  exact ⟨e, a', w', hq, .of_steps (.one (fenced_calm hb hr rfl) stepR_loop) harr⟩
def RetPN (D : Stab) (w : World) (out : ρ → Prop) (vf : ρ → Value) (e : Ending) (w' : World) : Prop := ∃ x, out x ∧ RetP D w (vf x) e w'
def RetSN (D : Stab) (w : World) (out : ρ → Prop) (R : ρ → Stab → Value → Prop) (e : Ending) (w' : World) : Prop := ∃ x, out x ∧ RetS D w (R x) e w'
theorem leavePN {fn : Func} {xs : List ResultVar} {us : List Value} {out : ρ → Prop} {vf : ρ → Value} (x : ρ) (hx : out x) (hr : fn.results = xs.toArray) (hF : Frm N rs vs a) (hS : St w0 D0 D ls w) (h : RVs P vs ls xs us)
    (hm : Marks rs ls) (hv : tup us = vf x) : base P fn (RetPN D0 w0 out vf) .ret a w :=
  leave_gen hr hF hS h hm fun w' hb hon => ⟨x, hx, by rw [hv], hb, fun b o hbo => hon b o (hS.le b o hbo)⟩
theorem leaveSN {fn : Func} {xs : List ResultVar} {us : List Value} {out : ρ → Prop} {R : ρ → Stab → Value → Prop} (x : ρ) (hx : out x) (hr : fn.results = xs.toArray) (hF : Frm N rs vs a) (hS : St w0 D0 D ls w) (h : RVs P vs ls xs us)
    (hm : Marks rs ls) (hR : R x D (tup us)) : base P fn (RetSN D0 w0 out R) .ret a w :=
  leave_gen hr hF hS h hm fun _ hb hon => ⟨x, hx, _, D, rfl, hR, hS.le, hon, hb, hS.new⟩
theorem O.callPN {xs : List Operand} {Ts : Array TypeId} {f : FuncId} {us : List Value} {out : ρ → Prop} {vf : ρ → Value} (hc : callable P f = true) (hF : Frm N rs vs a) (hS : St w0 D0 D ls w)
    (hcall : Calls P f us.toArray w (RetPN D w out vf)) (hxs : evs vs xs = some us) (hd : Nat.ble (d + 1) N = true)
    (h : ∀ x, out x → ∀ a' w', Frm N rs ((d, vf x) :: vs) a' → St w0 D0 D ls w' → WL r P ops Q rest a' w') :
    WL r P ops Q (⟨some d, .call ⟨.value (.func f), xs.toArray, Ts⟩, ty, pos, aft, none⟩ :: rest) a w :=
  O.callF hc hF hxs hd hcall (fun _ _ h => ⟨_, h.choose_spec.2.1⟩) fun u a' w' hR hF' => by
    obtain ⟨x, hx, e, hb, hon⟩ := hR
    injection e with e
    subst e
    exact h x hx a' w' hF' (hS.callP hb hon)
theorem O.callSN {xs : List Operand} {Ts : Array TypeId} {f : FuncId} {us : List Value} {out : ρ → Prop} {R : ρ → Stab → Value → Prop} (hc : callable P f = true) (hF : Frm N rs vs a) (hS : St w0 D0 D ls w)
    (hcall : Calls P f us.toArray w (RetSN D w out R)) (hxs : evs vs xs = some us) (hd : Nat.ble (d + 1) N = true)
    (h : ∀ x, out x → ∀ v D' a' w', R x D' v → D.le D' → Frm N rs ((d, v) :: vs) a' → St w0 D0 D' ls w' → WL r P ops Q rest a' w') :
    WL r P ops Q (⟨some d, .call ⟨.value (.func f), xs.toArray, Ts⟩, ty, pos, aft, none⟩ :: rest) a w :=
  O.callF hc hF hxs hd hcall (fun _ _ h => ⟨h.choose_spec.2.choose, h.choose_spec.2.choose_spec.choose_spec.1⟩) fun u a' w' hR hF' => by
    obtain ⟨x, hx, v, D', e, hr, hle, hon, hb, hnew⟩ := hR
    injection e with e
    subst e
    exact h x hx _ D' a' w' hr hle hF' (hS.call hle hb hon hnew)
theorem O.callVPN {x : Operand} {xs : List Operand} {Ts : Array TypeId} {f : FuncId} {first cap us : List Value} {out : ρ → Prop} {vf : ρ → Value} (hc : callable P f = true) (hF : Frm N rs vs a) (hS : St w0 D0 D ls w)
    (hx : ev vs x = some (.func (.func f) first.toArray cap.toArray)) (hxs : evs vs xs = some us) (hcall : Calls P f (first ++ us ++ cap).toArray w (RetPN D w out vf)) (hd : Nat.ble (d + 1) N = true)
    (h : ∀ x, out x → ∀ a' w', Frm N rs ((d, vf x) :: vs) a' → St w0 D0 D ls w' → WL r P ops Q rest a' w') :
    WL r P ops Q (⟨some d, .call ⟨.value x, xs.toArray, Ts⟩, ty, pos, aft, none⟩ :: rest) a w :=
  O.call hc hF hx hxs hd hcall (fun _ _ h => ⟨_, h.choose_spec.2.1⟩) fun u a' w' hR hF' => by
    obtain ⟨x, hx, e, hb, hon⟩ := hR
    injection e with e
    subst e
    exact h x hx a' w' hF' (hS.callP hb hon)
theorem O.callVSN {x : Operand} {xs : List Operand} {Ts : Array TypeId} {f : FuncId} {first cap us : List Value} {out : ρ → Prop} {R : ρ → Stab → Value → Prop} (hc : callable P f = true) (hF : Frm N rs vs a) (hS : St w0 D0 D ls w)
    (hx : ev vs x = some (.func (.func f) first.toArray cap.toArray)) (hxs : evs vs xs = some us) (hcall : Calls P f (first ++ us ++ cap).toArray w (RetSN D w out R)) (hd : Nat.ble (d + 1) N = true)
    (h : ∀ x, out x → ∀ v D' a' w', R x D' v → D.le D' → Frm N rs ((d, v) :: vs) a' → St w0 D0 D' ls w' → WL r P ops Q rest a' w') :
    WL r P ops Q (⟨some d, .call ⟨.value x, xs.toArray, Ts⟩, ty, pos, aft, none⟩ :: rest) a w :=
  O.call hc hF hx hxs hd hcall (fun _ _ h => ⟨h.choose_spec.2.choose, h.choose_spec.2.choose_spec.choose_spec.1⟩) fun u a' w' hR hF' => by
    obtain ⟨x, hx, v, D', e, hr, hle, hon, hb, hnew⟩ := hR
    injection e with e
    subst e
    exact h x hx _ D' a' w' hr hle hF' (hS.call hle hb hon hnew)
end
end Go.Proofs.YtmbgmefmkjeahaaDoor.Rt
