/- A program logic of this seat's own, part 19: make with a capacity; maps of slices that the call owns. Under no conditions but those that each names. -/
import Derived.Test.YthdbokigcfbgeaaDoorC5Rt18
set_option linter.unusedVariables false
set_option linter.unusedSimpArgs false
namespace Go.Proofs.YthdbokigcfbgeaaDoor.Rt
open Go Go.RowKit Go.ChangeShapes Go.WideShapes
section
variable {P : Program} {N : Nat} {rs : List Nat} {r : Option Nat} {vs : List (Nat × Value)} {a : Act} {w w0 : World} {ops : Array Oper} {Q : Exit → Act → World → Prop} {rest : List Oper}
variable {d : Nat} {ty : TypeId} {pos : String} {aft : Array Edge} {D0 D : Stab} {ls : List (Nat × LR)}
theorem O.makeOwn {T E : TypeId} {x y : Operand} {n : Int} {sz : Nat} (i : Nat) (hT : growable P T E sz = true) (hF : Frm N rs vs a)
    (hx : ev vs x = some (.int .i64 0)) (hy : ev vs y = some (.int .i64 n)) (hS : St w0 D0 D ls w) (hn : 0 ≤ n ∧ n ≤ (mlim : Int)) (hd : Nat.ble (d + 1) N = true)
    (h : ∀ p a' w', Frm N rs ((d, .slice p 0 n.toNat) :: vs) a' → St w0 D0 D ((i, .own p 0 n.toNat [] E sz) :: ls) w' → WL r P ops Q rest a' w') :
    WL r P ops Q (⟨some d, .makeSlice T x y, ty, pos, aft, none⟩ :: rest) a w := by
  obtain ⟨inf, zv, hu, hi, hzv, hsz, hzs, hpos, hby⟩ := growable_spec hT
  obtain ⟨h0, h1⟩ := hn
  obtain ⟨m, rfl⟩ := Int.eq_ofNat_of_zero_le h0
  have hm : m ≤ 1048576 := by simp only [mlim] at h1; omega
  have hbb : inf.bytes * m ≤ 281474976710656 := Nat.le_trans (Nat.mul_le_mul hby hm) (by decide)
  obtain ⟨w', h2, h3, h4⟩ := run_make_own (P := P) w 0 T E inf zv sz hu hi hzv hsz .i64 .i64 m hbb (by simp only [maxLen]; omega) (Nat.zero_le _)
  refine stepw (v := .slice (some ⟨w.heap.size, 0, none⟩) 0 m) (w' := w') hF ?_ hd fun a' hF' => h (some ⟨w.heap.size, 0, none⟩) a' w' hF' ?_
  · simp only [execOp, hF.eval hx, hF.eval hy, Sem.run_bind, h2, Result.andThen_ok]; rfl
  · exact hS.turn i _ (Below.grownBy hS.below h4 hS.below.size (fun k hk => by cases hk)) (fun k hk _ => h4.block k hk (by simp)) h3 (fun k hk => .inl (by simp only [LR.fp, List.mem_singleton] at hk; omega))
end
end Go.Proofs.YthdbokigcfbgeaaDoor.Rt
