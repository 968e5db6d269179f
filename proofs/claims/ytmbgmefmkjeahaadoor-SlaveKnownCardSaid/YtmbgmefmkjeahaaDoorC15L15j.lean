/- Calls of one helper in a row, among which two slices are made at any time: what holds behind each of them. Under no conditions but those that each rule names. -/
import Derived.Test.YtmbgmefmkjeahaaDoorC15L15a
import Derived.Test.YtmbgmefmkjeahaaDoorC15Rt26
set_option linter.unusedVariables false
set_option linter.unusedSimpArgs false
set_option maxRecDepth 100000
set_option maxHeartbeats 4000000
namespace Go.Proofs.YtmbgmefmkjeahaaDoor.Rt
open Go Go.RowKit
abbrev Og := Nat → Option Addr × Nat × List Value
def updO (o : Og) (k : Nat) (x y : Option Addr × Nat × List Value) : Og := fun j => if j = k then x else if j = k + 1 then y else o j
theorem updO_0 (o : Og) (k : Nat) (x y : Option Addr × Nat × List Value) : updO o k x y k = x := by simp [updO]
theorem updO_1 (o : Og) (k : Nat) (x y : Option Addr × Nat × List Value) : updO o k x y (k + 1) = y := by simp [updO]
theorem updO_n (o : Og) {k j : Nat} (x y : Option Addr × Nat × List Value) (h : j < k) : updO o k x y j = o j := by unfold updO; rw [if_neg (by omega), if_neg (by omega)]
section
variable (L : Nat → SlaveLine)
def chF (o : Og) : Nat → List (Nat × Value)
  | 0 => [(60, .agg #[iv 0, .slice none 0 0, .slice none 0 0]), (0, .bool false)]
  | i + 1 => (61 + i, .agg #[iv (L i).Ring, oV (o (2 * i)) (L i).Starts.length, oV (o (2 * i + 1)) (L i).Events.length]) :: chF o i
def chR (o : Og) : Nat → List (Nat × LR)
  | 0 => []
  | i + 1 => (2 * i + 1, oL (o (2 * i)) (L i).Starts.length 57 2) :: (2 * i + 2, oL (o (2 * i + 1)) (L i).Events.length 66 6) :: chR o i
def chP (D : Stab) (o : Og) : Nat → Prop
  | 0 => True
  | i + 1 => Reps C_SlaveStart D (L i).Starts (o (2 * i)).2.2 ∧ Reps C_SlaveEvent D (L i).Events (o (2 * i + 1)).2.2 ∧ chP D o i
variable {L}
theorem chF_upd (o : Og) (k : Nat) (x y : Option Addr × Nat × List Value) : ∀ i, 2 * i ≤ k → chF L (updO o k x y) i = chF L o i
  | 0, _ => rfl
  | i + 1, h => by rw [chF, chF, chF_upd o k x y i (by omega), updO_n o x y (show 2 * i < k by omega), updO_n o x y (show 2 * i + 1 < k by omega)]
theorem chR_upd (o : Og) (k : Nat) (x y : Option Addr × Nat × List Value) : ∀ i, 2 * i ≤ k → chR L (updO o k x y) i = chR L o i
  | 0, _ => rfl
  | i + 1, h => by rw [chR, chR, chR_upd o k x y i (by omega), updO_n o x y (show 2 * i < k by omega), updO_n o x y (show 2 * i + 1 < k by omega)]
theorem chP_upd {D : Stab} (o : Og) (k : Nat) (x y : Option Addr × Nat × List Value) : ∀ i, 2 * i ≤ k → chP L D o i → chP L D (updO o k x y) i
  | 0, _, h => h
  | i + 1, h, ⟨a, b, c⟩ => by
    refine ⟨?_, ?_, chP_upd o k x y i (by omega) c⟩
    · rw [updO_n o x y (show 2 * i < k by omega)]; exact a
    · rw [updO_n o x y (show 2 * i + 1 < k by omega)]; exact b
end
theorem St.reid {w0 w : World} {D0 D : Stab} {ls ms : List (Nat × LR)} (h : St w0 D0 D ls w) (f : Nat → Nat) (hf : ∀ k x, lk ms k = some x → lk ls (f k) = some x) (hi : ∀ k l x y, lk ms k = some x → lk ms l = some y → k ≠ l → f k ≠ f l) : St w0 D0 D ms w :=
  ⟨h.below, h.le, h.new, h.stab, fun k x hk => h.each _ x (hf k x hk), fun k x hk => h.low _ x (hf k x hk), fun i j r s x y hij => h.sep _ _ r s (hf i r x) (hf j s y) (hi i j r s x y hij)⟩
theorem St.reid2 {w0 w : World} {D0 D : Stab} {r s : LR} (h : St w0 D0 D [(900, r), (901, s)] w) {i j : Nat} (hij : i ≠ j) : St w0 D0 D [(i, r), (j, s)] w := by
  have key : ∀ k x, lk [(i, r), (j, s)] k = some x → (k = i ∧ x = r) ∨ (k = j ∧ x = s) := fun k x hk => by
    rcases lk_cons hk with h | ⟨_, hk⟩
    · exact .inl h
    · rcases lk_cons hk with h | ⟨_, hk⟩
      · exact .inr h
      · simp [lk] at hk
  refine h.reid (fun k => if k = i then 900 else 901) (fun k x hk => ?_) fun k l x y hk hl hkl => ?_
  · rcases key k x hk with ⟨rfl, rfl⟩ | ⟨rfl, rfl⟩
    · simp only [if_true]; rfl
    · simp only [if_neg (fun e => hij (Eq.symm e))]; rfl
  · rcases key k x hk with ⟨rfl, rfl⟩ | ⟨rfl, rfl⟩ <;> rcases key l y hl with ⟨rfl, rfl⟩ | ⟨rfl, rfl⟩
    · exact absurd rfl hkl
    · simp only [if_true, if_neg (fun e => hij (Eq.symm e))]; decide
    · simp only [if_true, if_neg (fun e => hij (Eq.symm e))]; decide
    · exact absurd rfl hkl
def gL : List SlaveLine → Nat → SlaveLine
  | [], _ => ⟨0, [], []⟩
  | x :: _, 0 => x
  | _ :: l, n + 1 => gL l n
abbrev ten : List Int := List.replicate (Int.toNat 10) (0 : Int)
abbrev one12 : List Int := [12]
def xF (a : Bool) (x : Option Addr × Nat × List Value) : List (Nat × Value) := bif a then [(70, oV x one12.length)] else []
def xR (a : Bool) (x : Option Addr × Nat × List Value) : List (Nat × LR) := bif a then [(19, .own x.1 one12.length x.2.1 [iv 12] 3 1)] else []
def yF (b : Bool) (y : Option Addr × Nat × List Value) : List (Nat × Value) := bif b then [(72, .slice y.1 ten.length ten.length)] else []
def yR (b : Bool) (y : Option Addr × Nat × List Value) : List (Nat × LR) := bif b then [(22, .own y.1 ten.length ten.length y.2.2 3 1)] else []
def JJ (w0 : World) (D0 : Stab) (L : Nat → SlaveLine) (i : Nat) (a b : Bool) (ac : Act) (w : World) : Prop :=
  ∃ (o : Og) (x y : Option Addr × Nat × List Value), Frm 527 [] (chF L o i ++ (xF a x ++ yF b y)) ac ∧ St w0 D0 D0 (chR L o i ++ (xR a x ++ yR b y)) w ∧ chP L D0 o i ∧ (b = true → Reps C_int D0 ten y.2.2)
def KK (w0 : World) (D0 : Stab) (L : Nat → SlaveLine) (l : SlaveLine) (b : Bool) (ac : Act) (w : World) : Prop :=
  ∃ (o : Og) (y u v : Option Addr × Nat × List Value), Frm 527 [] ((71, .agg #[iv l.Ring, oV u l.Starts.length, oV v l.Events.length]) :: (chF L o 9 ++ yF b y)) ac ∧
    St w0 D0 D0 ((20, oL u l.Starts.length 57 2) :: (21, oL v l.Events.length 66 6) :: (chR L o 9 ++ yR b y)) w ∧ chP L D0 o 9 ∧ (b = true → Reps C_int D0 ten y.2.2) ∧ Reps C_SlaveStart D0 l.Starts u.2.2 ∧ Reps C_SlaveEvent D0 l.Events v.2.2
section
variable {w0 w : World} {D0 : Stab} {L : Nat → SlaveLine} {i : Nat} {a b : Bool} {ac : Act} {ops : Array Oper} {Q : Exit → Act → World → Prop} {rest : List Oper} {ty : TypeId} {pos : String} {aft : Array Edge} {Ts : Array TypeId} {l : SlaveLine}
theorem JJ.T (h : JJ w0 D0 L i a b ac w) : St w0 D0 D0 [] w := by obtain ⟨o, x, y, _, hS, _⟩ := h; exact hS.weak trivial
theorem KK.T (h : KK w0 D0 L l b ac w) : St w0 D0 D0 [] w := by obtain ⟨o, y, u, v, _, hS, _⟩ := h; exact hS.weak trivial
theorem JJ.call (hx : w7line ([] : List Int) = some (L i)) (hd : Nat.ble (61 + i + 1) 527 = true) (h : JJ w0 D0 L i a b ac w) (k : ∀ ac w, JJ w0 D0 L (i + 1) a b ac w → WL none Tryd.prog ops Q rest ac w) :
    WL none Tryd.prog ops Q (⟨some (61 + i), .call ⟨.value (.func 55), #[.const (.slice none 0 0)], Ts⟩, ty, pos, aft, none⟩ :: rest) ac w := by
  obtain ⟨o, x, y, hF, hS, hP, hy⟩ := h
  refine O.callM (xs := [.const (.slice none 0 0)]) (us := [.slice none 0 0]) ca_55 hF (w7line_keep hS.stab ([] : List Int) SRc.nil (L i) hx) rfl hd fun v D' ac w hK hle hF => ?_
  obtain ⟨p, c, cs, p', c', cs', hS2, rfl, h1, h2⟩ := hK
  replace hS := hS.joinB (hS2.reid2 (i := 2 * i + 1) (j := 2 * i + 2) (by omega))
  have e0 := updO_0 o (2 * i) (p, c, cs) (p', c', cs')
  have e1 := updO_1 o (2 * i) (p, c, cs) (p', c', cs')
  refine k _ _ ⟨updO o (2 * i) (p, c, cs) (p', c', cs'), x, y, ?_, ?_, ⟨?_, ?_, chP_upd o _ _ _ i (Nat.le_refl _) hP⟩, hy⟩
  · rw [chF, chF_upd o _ _ _ i (Nat.le_refl _), e0, e1]; exact hF
  · rw [chR, chR_upd o _ _ _ i (Nat.le_refl _), e0, e1]; exact hS
  · rw [e0]; exact Reps.flat (fun _ _ _ _ h => h) h1
  · rw [e1]; exact Reps.flat (fun _ _ _ _ h => h) h2
theorem JJ.x (hF0 : ∀ (o : Og) (x y : Option Addr × Nat × List Value), AllF ((70, oV x one12.length) :: (chF L o i ++ (xF false x ++ yF b y))) (chF L o i ++ (xF true x ++ yF b y)))
    (hS0 : ∀ (o : Og) (x y : Option Addr × Nat × List Value), AllL ((19, .own x.1 one12.length x.2.1 [iv 12] 3 1) :: (chR L o i ++ (xR false x ++ yR b y))) (chR L o i ++ (xR true x ++ yR b y)))
    (h : JJ w0 D0 L i false b ac w) (k : ∀ ac w, JJ w0 D0 L i true b ac w → WL none Tryd.prog ops Q rest ac w) :
    WL none Tryd.prog ops Q (⟨some 70, .buildSlice 26 1 #[(0, .const (iv 12))], ty, pos, aft, none⟩ :: rest) ac w := by
  obtain ⟨o, x, y, hF, hS, hP, hy⟩ := h
  have hr : Reps C_int D0 [12] [iv 12] := Reps.cons (C := C_int) (x := 12) (c := [iv 12]) (r := []) rfl (Reps.nil)
  refine O.buildSlice (E := 3) (C := C_int) (xs := [12]) (cs := [iv 12]) (us := [iv 12]) (parts := [(0, (.const (iv 12)))]) 19 hF hS rfl (by kernel_rfl) hr rfl rfl rfl fun p c ac w hF hS => ?_
  exact k _ _ ⟨o, (p, c, []), y, hF.weak (hF0 o (p, c, []) y), hS.weak (hS0 o (p, c, []) y), hP, hy⟩
theorem JJ.y (hg : (0 : Int) ≤ 10 ∧ 10 ≤ (mlim : Int)) (hF0 : ∀ (o : Og) (x y : Option Addr × Nat × List Value), AllF ((72, .slice y.1 ten.length ten.length) :: (chF L o i ++ (xF a x ++ yF false y))) (chF L o i ++ (xF a x ++ yF true y)))
    (hS0 : ∀ (o : Og) (x y : Option Addr × Nat × List Value), AllL ((22, .own y.1 ten.length ten.length y.2.2 3 1) :: (chR L o i ++ (xR a x ++ yR false y))) (chR L o i ++ (xR a x ++ yR true y)))
    (h : JJ w0 D0 L i a false ac w) (k : ∀ ac w, JJ w0 D0 L i a true ac w → WL none Tryd.prog ops Q rest ac w) :
    WL none Tryd.prog ops Q (⟨some 72, .makeSlice 26 (.const (iv 10)) (.const (iv 10)), ty, pos, aft, none⟩ :: rest) ac w := by
  obtain ⟨o, x, y, hF, hS, hP, hy⟩ := h
  refine O.makeRow (C := C_int) (0 : Int) 22 gr_26 zc_3 rfl hF rfl rfl hS hg rfl fun p cs ac w hF hS hr => ?_
  exact k _ _ ⟨o, x, (p, 0, cs), hF.weak (hF0 o x (p, 0, cs)), hS.weak (hS0 o x (p, 0, cs)), hP, fun _ => hr⟩
theorem KK.y (hg : (0 : Int) ≤ 10 ∧ 10 ≤ (mlim : Int)) (hF0 : ∀ (V : Value) (o : Og) (y : Option Addr × Nat × List Value), AllF ((72, .slice y.1 ten.length ten.length) :: (71, V) :: (chF L o 9 ++ yF false y)) ((71, V) :: (chF L o 9 ++ yF true y)))
    (hS0 : ∀ (U V : LR) (o : Og) (y : Option Addr × Nat × List Value), AllL ((22, .own y.1 ten.length ten.length y.2.2 3 1) :: (20, U) :: (21, V) :: (chR L o 9 ++ yR false y)) ((20, U) :: (21, V) :: (chR L o 9 ++ yR true y)))
    (h : KK w0 D0 L l false ac w) (k : ∀ ac w, KK w0 D0 L l true ac w → WL none Tryd.prog ops Q rest ac w) :
    WL none Tryd.prog ops Q (⟨some 72, .makeSlice 26 (.const (iv 10)) (.const (iv 10)), ty, pos, aft, none⟩ :: rest) ac w := by
  obtain ⟨o, y, u, v, hF, hS, hP, hy, h1, h2⟩ := h
  refine O.makeRow (C := C_int) (0 : Int) 22 gr_26 zc_3 rfl hF rfl rfl hS hg rfl fun p cs ac w hF hS hr => ?_
  exact k _ _ ⟨o, (p, 0, cs), u, v, hF.weak (hF0 _ o (p, 0, cs)), hS.weak (hS0 _ _ o (p, 0, cs)), hP, fun _ => hr, h1, h2⟩
theorem JJ.last (hx : w7line ([12] : List Int) = some l)
    (h : JJ w0 D0 L 9 true b ac w) (k : ∀ ac w, KK w0 D0 L l b ac w → WL none Tryd.prog ops Q rest ac w)
    (hF0 : ∀ (V : Value) (o : Og) (x y : Option Addr × Nat × List Value), AllF ((71, V) :: (chF L o 9 ++ (xF true x ++ yF b y))) ((71, V) :: (chF L o 9 ++ yF b y)))
    (hS0 : ∀ (U V : LR) (o : Og) (x y : Option Addr × Nat × List Value), AllL ((20, U) :: (21, V) :: (chR L o 9 ++ (xR true x ++ yR b y))) ((20, U) :: (21, V) :: (chR L o 9 ++ yR b y))) (hlk : ∀ (o : Og) (x y : Option Addr × Nat × List Value), look (chF L o 9 ++ (xF true x ++ yF b y)) 70 = some (oV x one12.length))
    (hlr : ∀ (o : Og) (x y : Option Addr × Nat × List Value), lk (chR L o 9 ++ (xR true x ++ yR b y)) 19 = some (.own x.1 one12.length x.2.1 [iv 12] 3 1)) :
    WL none Tryd.prog ops Q (⟨some 71, .call ⟨.value (.func 55), #[.tmp 70], Ts⟩, ty, pos, aft, none⟩ :: rest) ac w := by
  obtain ⟨o, x, y, hF, hS, hP, hy⟩ := h
  have hr : Reps C_int D0 [12] [iv 12] := Reps.cons (C := C_int) (x := 12) (c := [iv 12]) (r := []) rfl (Reps.nil)
  obtain ⟨Db, hle, hs, hSb⟩ := hS.freezeC (C := C_int) (i := 19) (xs := one12) (hlr o x y) hr
  refine O.callM (xs := [.tmp 70]) (us := [oV x one12.length]) ca_55 hF (w7line_keep hSb.stab one12 hs l hx) (by simp only [evs, ev, hlk]) rfl fun v D' ac w hK hle hF => ?_
  obtain ⟨p, c, cs, p', c', cs', hS2, rfl, h1, h2⟩ := hK
  replace hS := hS.joinB (hS2.reid2 (i := 20) (j := 21) (by decide))
  exact k _ _ ⟨o, y, (p, c, cs), (p', c', cs'), hF.weak (hF0 _ o x y), hS.weak (hS0 _ _ o x y), hP, hy, Reps.flat (fun _ _ _ _ h => h) h1, Reps.flat (fun _ _ _ _ h => h) h2⟩
end
end Go.Proofs.YtmbgmefmkjeahaaDoor.Rt
