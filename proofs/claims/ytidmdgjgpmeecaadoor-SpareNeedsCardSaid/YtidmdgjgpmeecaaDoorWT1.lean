/- Walks of the functions of this seat: what each Go function comes to, as a Lean function, and the proof. Part WT1. Under no conditions. -/
import Derived.Test.YtidmdgjgpmeecaaDoorWNZ
set_option linter.unusedVariables false
set_option linter.unusedSimpArgs false
set_option maxRecDepth 100000
set_option maxHeartbeats 4000000
namespace Go.Proofs.YtidmdgjgpmeecaaDoor.Rt
open Go Go.RowKit
noncomputable def remontoirlaw08_without (sv : SpareStore) (k : Int) : Option SpareStore :=
  if (0 : Int) ≤ k ∧ k ≤ (sv.Machines.length : Int) then
  if ([] : List SpareMachine).length + (sv.Machines.take (Int.toNat k)).length ≤ lim then
  if (0 : Int) ≤ (wr (k + 1)) ∧ (wr (k + 1)) ≤ (sv.Machines.length : Int) then
  if (([] : List SpareMachine) ++ (sv.Machines.take (Int.toNat k))).length + (sv.Machines.drop (Int.toNat (wr (k + 1)))).length ≤ lim then
  some (SpareStore.mk sv.Hours sv.Gap ((([] : List SpareMachine) ++ (sv.Machines.take (Int.toNat k))) ++ (sv.Machines.drop (Int.toNat (wr (k + 1))))))
  else none
  else none
  else none
  else none
theorem remontoirlaw08_without_ok {w0 : World} {D0 : Stab} (hD : D0.on w0) (sv : SpareStore) (k : Int) {p : Option Addr} {c : Nat} (hs : SRc C_SpareMachine D0 sv.Machines p c) (out : SpareStore) (h : remontoirlaw08_without sv k = some out) : Calls Tryd.prog 44 [.agg #[.int .i64 sv.Hours, .int .i64 sv.Gap, .slice p sv.Machines.length c], .int .i64 k].toArray w0 (RetS D0 w0 fun D v => ∃ p_6 c_6, v = .agg #[.int .i64 out.Hours, .int .i64 out.Gap, .slice p_6 out.Machines.length c_6] ∧ SRc C_SpareMachine D out.Machines p_6 c_6) := by
 refine enter _ 21 Tryd.func44 rfl Tryd.ntmps44 rfl fun a hF => ?_
 replace hF : Frm 21 [] [(0, .agg #[.int .i64 sv.Hours, .int .i64 sv.Gap, .slice p sv.Machines.length c]), (1, .int .i64 k)] a := hF
 have hS := St.start hD
 unfold remontoirlaw08_without at h
 refine seq ?_
 refine region ?_
 refine O.box (cs := [.int .i64 sv.Hours, .int .i64 sv.Gap, .slice p sv.Machines.length c]) 1 hF rfl rfl hS rfl fun b a w hF hS => ?_
 refine O.alloc 2 zc_24 hF hS rfl fun b_1 a w hF hS => ?_
 refine nil (then_n ?_)
 refine seq ?_
 refine region ?_
 refine step hF (Y.loadNL 1 sz_24 hF rfl hS rfl rfl rfl) rfl fun a hF => ?_
 refine O.alloc 3 zc_24 hF hS rfl fun b_2 a w hF hS => ?_
 refine O.store (us := [.int .i64 sv.Hours, .int .i64 sv.Gap, .slice p sv.Machines.length c]) 3 sz_24 hF rfl rfl rfl rfl hS rfl rfl fun a w hF hS => ?_
 refine nil (then_n ?_)
 refine seq ?_
 obtain ⟨hg, h⟩ := ite_some h
 obtain ⟨hg_1, h⟩ := ite_some h
 obtain ⟨hg_2, h⟩ := ite_some h
 refine drawsV 11 (.flt 1 (.flt 2 (.flt 3 (.flt 4 (.flt 6 (.flt 7 (.flt 8 (.flt 9 (.flt 10 (.alt 0 (.alt 5 .done .stop) .stop)))))))))) mixed_ (by kernel_rfl) (fun w => St w0 D0 D0 [(1, .cells b [.int .i64 sv.Hours, .int .i64 sv.Gap, .slice p sv.Machines.length c] 24), (2, .cells b_1 [.int .i64 0, .int .i64 0, .slice none 0 0] 24), (3, .cells b_2 [.int .i64 sv.Hours, .int .i64 sv.Gap, .slice p sv.Machines.length c] 24)] w) (fun a w => ∃ (p_2 : Option Addr) (c_2 : Nat) (cs : List Value), Frm 21 [] [(4, .pointer (some ⟨b_1, 0, none⟩)), (5, .pointer (some ⟨b_2, 0, none⟩)), (12, .slice p_2 (([] : List SpareMachine) ++ (sv.Machines.take (Int.toNat k))).length c_2), (17, .slice (if c = Int.toNat (wr (k + 1)) then p else Option.map (fun ad => ad.add (Int.toNat (wr (k + 1)) * 5)) p) (sv.Machines.drop (Int.toNat (wr (k + 1)))).length (c - Int.toNat (wr (k + 1))))] a ∧ St w0 D0 D0 [(1, .cells b [.int .i64 sv.Hours, .int .i64 sv.Gap, .slice p sv.Machines.length c] 24), (2, .cells b_1 [.int .i64 0, .int .i64 0, .slice none 0 0] 24), (3, .cells b_2 [.int .i64 sv.Hours, .int .i64 sv.Gap, .slice p sv.Machines.length c] 24), (4, .own p_2 (([] : List SpareMachine) ++ (sv.Machines.take (Int.toNat k))).length c_2 cs 52 5)] w ∧ SRc C_SpareMachine D0 (sv.Machines.drop (Int.toNat (wr (k + 1)))) (if c = Int.toNat (wr (k + 1)) then p else Option.map (fun ad => ad.add (Int.toNat (wr (k + 1)) * 5)) p) (c - Int.toNat (wr (k + 1))) ∧ Reps C_SpareMachine D0 (([] : List SpareMachine) ++ (sv.Machines.take (Int.toNat k))) cs) (hS.weak (ms := [(1, .cells b [.int .i64 sv.Hours, .int .i64 sv.Gap, .slice p sv.Machines.length c] 24), (2, .cells b_1 [.int .i64 0, .int .i64 0, .slice none 0 0] 24), (3, .cells b_2 [.int .i64 sv.Hours, .int .i64 sv.Gap, .slice p sv.Machines.length c] 24)]) ⟨rfl, rfl, rfl, trivial⟩).drew (fun _ _ _ _ h => h) ?_ ?_
 ·replace hS := hS.drew
  have hle0 := hS.le
  refine stepV (i := 1) rfl hF (fun w hS => Y.fieldAddr fo_24_2 hF rfl) rfl fun a hF => ?_
  refine stepV (i := 2) rfl hF (fun w hS => Y.load1L 1 sz_22 hF rfl hS rfl rfl) rfl fun a hF => ?_
  refine stepV (i := 3) rfl hF (fun w hS => Y.move hF rfl) rfl fun a hF => ?_
  refine stepV (i := 4) rfl hF (fun w hS => Y.sliceHi (xs := sv.Machines) u_22 sz_52 hF rfl rfl hg hs.2) rfl fun a hF => ?_
  refine stepV (i := 6) rfl hF (fun w hS => Y.fieldAddr fo_24_2 hF rfl) rfl fun a hF => ?_
  refine stepV (i := 7) rfl hF (fun w hS => Y.load1L 1 sz_22 hF rfl hS rfl rfl) rfl fun a hF => ?_
  refine stepV (i := 8) rfl hF (fun w hS => Y.move hF rfl) rfl fun a hF => ?_
  refine stepV (i := 9) rfl hF (fun w hS => Y.add hF rfl rfl) rfl fun a hF => ?_
  refine stepV (i := 10) rfl hF (fun w hS => Y.sliceLo (xs := sv.Machines) u_22 sz_52 hF rfl rfl hg_2) rfl fun a hF => ?_
  refine oneV (i := 0) rfl ?_ trivial
  have hr_2 : Reps C_SpareMachine D0 ([] : List SpareMachine) [] := Reps.nil
  refine O.buildSlice (E := 52) (C := C_SpareMachine) (xs := ([] : List SpareMachine)) (cs := []) (us := []) (parts := []) 4 hF hS rfl (by kernel_rfl) hr_2 rfl rfl rfl fun p_3 c_3 a w hF hS => ?_
  refine nil (then_n ⟨hS.weak ⟨rfl, rfl, rfl, trivial⟩, ?_⟩)
  refine oneV (i := 5) rfl ?_ trivial
  obtain ⟨ds_1, hds_1, hsrc_1⟩ := src_stab (C := C_SpareMachine) (xs := (sv.Machines.take (Int.toNat k))) ((SRc.take hs (Int.toNat k))).1 hS.stab
  refine O.append (C := C_SpareMachine) (xs := ([] : List SpareMachine)) (ys := (sv.Machines.take (Int.toNat k))) 4 gr_22 hF rfl rfl hS rfl hsrc_1 hr_2 hds_1 hg_1 rfl fun p_4 c_4 a w hF hS hr_3 => ?_
  refine nil (then_n ⟨hS.weak ⟨rfl, rfl, rfl, trivial⟩, ?_⟩)
  exact toTailV ⟨p_4, c_4, ([] ++ ds_1), hF.weak ⟨rfl, rfl, rfl, rfl, trivial⟩, hS.weak ⟨rfl, rfl, rfl, rfl, trivial⟩, (SRc.drop hs (k := Int.toNat (wr (k + 1))) (by have := hg_2; omega)), hr_3⟩
 rintro a w ⟨p_2, c_2, cs, hF, hS, hj, hj_1⟩
 obtain ⟨hg_3, h⟩ := ite_some h
 obtain ⟨ds_2, hds_2, hsrc_2⟩ := src_stab (C := C_SpareMachine) (xs := (sv.Machines.drop (Int.toNat (wr (k + 1))))) (hj).1 hS.stab
 refine O.append (C := C_SpareMachine) (xs := (([] : List SpareMachine) ++ (sv.Machines.take (Int.toNat k)))) (ys := (sv.Machines.drop (Int.toNat (wr (k + 1))))) 4 gr_22 hF rfl rfl hS rfl hsrc_2 hj_1 hds_2 hg_3 rfl fun p_5 c_5 a w hF hS hr_4 => ?_
 refine step hF (Y.fieldAddr fo_24_2 hF rfl) rfl fun a hF => ?_
 refine O.store (us := [.slice p_5 ((([] : List SpareMachine) ++ (sv.Machines.take (Int.toNat k))) ++ (sv.Machines.drop (Int.toNat (wr (k + 1))))).length c_5]) 3 sz_22 hF rfl rfl rfl rfl hS rfl rfl fun a w hF hS => ?_
 refine nil (then_n ?_)
 refine seq ?_
 refine region ?_
 refine step hF (Y.loadNL 3 sz_24 hF rfl hS rfl rfl rfl) rfl fun a hF => ?_
 refine O.store (us := [.int .i64 sv.Hours, .int .i64 sv.Gap, .slice p_5 ((([] : List SpareMachine) ++ (sv.Machines.take (Int.toNat k))) ++ (sv.Machines.drop (Int.toNat (wr (k + 1))))).length c_5]) 2 sz_24 hF rfl rfl rfl rfl hS rfl rfl fun a w hF hS => ?_
 refine nil (then_n ?_)
 refine ret_ ?_
 obtain ⟨Dv, hlev, hs_1, hS⟩ := hS.freezeC (i := 4) (xs := ((([] : List SpareMachine) ++ (sv.Machines.take (Int.toNat k))) ++ (sv.Machines.drop (Int.toNat (wr (k + 1)))))) rfl hr_4
 replace hs := hs.mono hlev
 replace hj := hj.mono hlev
 replace hj_1 := hj_1.mono hlev
 replace hr_4 := hr_4.mono hlev
 obtain rfl := some_inj h
 exact leaveS Tryd.results44 hF hS (.cons (.cellN 2 sz_24 rfl rfl rfl) .nil) .nil ⟨_, _, rfl, hs_1⟩

end Go.Proofs.YtidmdgjgpmeecaaDoor.Rt
