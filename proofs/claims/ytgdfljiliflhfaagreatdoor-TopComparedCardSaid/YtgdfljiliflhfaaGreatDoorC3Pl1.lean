/- Plain lemmas, part 1: loops that count, elements, numbers that do not wrap. Under no conditions but those that each names. -/
import Derived.Test.YtgdfljiliflhfaaGreatDoorC3Rt13
set_option linter.unusedVariables false
set_option linter.unusedSimpArgs false
namespace Go.Proofs.YtgdfljiliflhfaaGreatDoor.Rt
open Go Go.RowKit
theorem wr_id {n:Int} (h:InR n):wr n=n:=by
  obtain ⟨h1,h2⟩:=h
  have e:wr n=if (true && decide (n % 18446744073709551616 ≥ 9223372036854775808))=true then n % 18446744073709551616 - 18446744073709551616 else n % 18446744073709551616:=rfl
  rw [e]
  simp only [Bool.true_and,decide_eq_true_eq]
  split <;> omega
theorem wr_id' {n:Int} (h1:-9223372036854775808≤n) (h2:n≤9223372036854775807):wr n=n:=wr_id ⟨h1,h2⟩
theorem loopU_ext {σ ρ:Type} {body:σ→Option (σ ⊕ ρ)} {s:σ} {o:Option ρ} (h:body s=ext o):loopU body s=o:=by
  rw [loopU_eq,h]
  cases o with
  | none=>rfl
  | some r=>rfl
theorem loopU_nxt {σ ρ:Type} {body:σ→Option (σ ⊕ ρ)} {s s':σ} (h:body s=nxt s'):loopU body s=loopU body s':=loopU_inl h
theorem loopU_run {σ ρ:Type} {body:σ→Option (σ ⊕ ρ)} (st:Nat→σ):∀ (n k:Nat),(∀ i,k≤i→i < k + n→body (st i)=nxt (st (i + 1)))→loopU body (st k)=loopU body (st (k + n))
  | 0,k,_=>rfl
  | n + 1,k,h=>by
    rw [loopU_nxt (h k (Nat.le_refl _) (by omega)),loopU_run st n (k + 1) (fun i h1 h2=>h i (by omega) (by omega))]
    congr 2;omega
theorem loopU_run0 {σ ρ:Type} {body:σ→Option (σ ⊕ ρ)} (st:Nat→σ) (n:Nat) (h:∀ i,i < n→body (st i)=nxt (st (i + 1))):loopU body (st 0)=loopU body (st n):=by
  have:=loopU_run st n 0 (fun i _ h2=>h i (by omega))
  simpa using this
theorem idx_nat {α:Type} {xs:List α} {i:Nat} {x:α} (h:xs[i]?=some x):idx xs (i:Int)=some x:=by simp [idx,h]
theorem idx_get {α:Type} {xs:List α} {i:Nat} (h:i < xs.length):idx xs (i:Int)=some xs[i]:=idx_nat (List.getElem?_eq_getElem h)
theorem idx_int {α:Type} {xs:List α} {i:Int} (h0:0≤i) (h1:i < xs.length):idx xs i=some (xs[i.toNat]'(by omega)):=by
  obtain ⟨k,rfl⟩:=Int.eq_ofNat_of_zero_le h0
  exact idx_get (by omega)
theorem bind_s {α β:Type} (x:α) (k:α→Option β):(some x).bind k=k x:=rfl
theorem cond_s {β:Type} (b:Bool) (x y:β):(bif b then some x else some y)=some (bif b then x else y):=by cases b <;> rfl
theorem loopU_inv {σ ρ:Type} {body:σ→Option (σ ⊕ ρ)} (Inv:Nat→σ→Prop):∀ (n k:Nat) (s:σ),Inv k s→(∀ i s,k≤i→i < k + n→Inv i s→∃ s',body s=nxt s'∧Inv (i + 1) s') →
    ∃ s',Inv (k + n) s'∧loopU body s=loopU body s'
  | 0,k,s,h,_=>⟨s,h,rfl⟩
  | n + 1,k,s,h,hs=>by
    obtain ⟨s',h1,h2⟩:=hs k s (Nat.le_refl _) (by omega) h
    obtain ⟨s'',h3,h4⟩:=loopU_inv Inv n (k + 1) s' h2 (fun i t a b=>hs i t (by omega) (by omega))
    exact ⟨s'',by rw [show k + (n + 1)=k + 1 + n by omega];exact h3,by rw [loopU_nxt h1,h4]⟩
theorem loopU_for {σ ρ:Type} {body:σ→Option (σ ⊕ ρ)} (Inv:Nat→σ→Prop) (n:Nat) {s:σ} (h0:Inv 0 s) (hs:∀ i s,i < n→Inv i s→∃ s',body s=nxt s'∧Inv (i + 1) s')
    {Post:Option ρ→Prop} (hend:∀ s,Inv n s→∃ o,body s=ext o∧Post o):Post (loopU body s):=by
  obtain ⟨s',h1,h2⟩:=loopU_inv Inv n 0 s h0 (fun i t _ b h=>hs i t (by omega) h)
  rw [Nat.zero_add] at h1
  obtain ⟨o,h3,h4⟩:=hend s' h1
  rw [h2,loopU_ext h3];exact h4
end Go.Proofs.YtgdfljiliflhfaaGreatDoor.Rt
