/- Walks of the functions of this seat: what each Go function comes to, as a Lean function, and the proof. Part WS1. Under no conditions. -/
import Derived.Test.YtmbgmefmkjeahaaDoorC4WBZ
set_option linter.unusedVariables false
set_option linter.unusedSimpArgs false
set_option maxRecDepth 100000
set_option maxHeartbeats 4000000
namespace Go.Proofs.YtmbgmefmkjeahaaDoor.Rt
open Go Go.RowKit
noncomputable def w7lostIn_b1 (story : (List (List Int))) : (Int × Int) → Option ((Int × Int) ⊕ Int)
 | (n, i) =>
  cond (decide (i < (story.length : Int)))
  ((idx story i).bind fun e =>
  nxt (wr (n + (e.length : Int)), wr (i + 1)))
  (ext (some n))
noncomputable def w7lostIn (story : (List (List Int))) : Option Int :=
  loopU (w7lostIn_b1 story) (0, 0)
theorem w7lostIn_ok {w0 : World} {D0 : Stab} (hD : D0.on w0) (story : (List (List Int))) {p : Option Addr} {c : Nat} (hs : SRc (C_sl C_int) D0 story p c) (out : Int) (h : w7lostIn story = some out) : Calls Tryd.prog 27 [.slice p story.length c].toArray w0 (RetP D0 w0 (.int .i64 out)) := by
 refine enter _ 19 Tryd.func27 rfl Tryd.ntmps27 rfl fun a hF => ?_
 replace hF : Frm 19 [] [(0, .slice p story.length c)] a := hF
 have hS := St.start hD
 unfold w7lostIn at h
 refine seq (region (step hF (Y.assign hF rfl) rfl fun a hF => nil (then_n (seq (region (step hF (Y.assign hF rfl) rfl fun a hF => nil (then_n (seq (seq (region (step hF (Y.assign hF rfl) rfl fun a hF => nil (then_n (block (loop_cut (body := w7lostIn_b1 story) (out := out) (fun s a w => ∃ (n : Int) (i : Int), s = (n, i) ∧ Frm 19 [] [(0, .slice p story.length c), (2, .int .i64 0), (3, .int .i64 n), (4, .int .i64 i)] a ∧ St w0 D0 D0 [] w) (0, 0) h ⟨0, 0, rfl, hF.weak ⟨rfl, rfl, rfl, rfl, trivial⟩, hS.weak trivial⟩ ?_))))))))))))))
 rintro s a w xo ⟨n, i, rfl, hF, hS⟩ h hxo
 unfold w7lostIn_b1 at h
 dsimp only at h
 refine seq (seq (region (step hF (Y.move hF rfl) rfl fun a hF => step hF (Y.move hF rfl) rfl fun a hF => step hF (Y.lenSl u_38 hF rfl) rfl fun a hF => step hF (Y.lss hF rfl rfl) rfl fun a hF => nil (then_n (cond_b hF rfl (fun hbv => ?_) (fun hbv => ?_))))))
 ·replace h := cond_t h hbv
  refine skip_ (then_n (seq (block (region (step hF (Y.move hF rfl) rfl fun a hF => step hF (Y.move hF rfl) rfl fun a hF => step hF (Y.move hF rfl) rfl fun a hF => ?_)))))
  obtain ⟨e, hx, h⟩ := bind_some h
  obtain ⟨b, o, hE, hY⟩ := Y.indexS (P := Tryd.prog) (C := (C_sl C_int)) (xs := story) (T := 38) (x := (.tmp 12)) (y := (.tmp 13)) u_38 sz_26 hF rfl rfl (hs).1 hx
  obtain ⟨cc, hc, hcell⟩ := hE.open
  obtain ⟨p_1, c_1, rfl, hs_1⟩ := hc
  refine step hF (hY) rfl fun a hF => step hF (Y.load1 sz_26 hF rfl (hcell _ hS.stab 0 _ rfl)) rfl fun a hF => step hF (Y.lenSl u_26 hF rfl) rfl fun a hF => step hF (Y.add hF rfl rfl) rfl fun a hF => step hF (Y.assign hF rfl) rfl fun a hF => nil (blk_n (then_n (region (step hF (Y.move hF rfl) rfl fun a hF => step hF (Y.add hF rfl rfl) rfl fun a hF => step hF (Y.assign hF rfl) rfl fun a hF => nil (then_n (⟨_, nxt_some h, (wr (n + (e.length : Int))), (wr (i + 1)), rfl, hF.weak ⟨rfl, rfl, rfl, rfl, trivial⟩, hS.weak trivial⟩))))))
 replace h := cond_f h hbv
 refine exit_ (then_x (then_x (blk_hit (then_n ?_))))
 replace h := ext_some h hxo
 refine seq (region (step hF (Y.move hF rfl) rfl fun a hF => step hF (Y.assign hF rfl) rfl fun a hF => nil (then_n (ret_ ?_))))
 obtain rfl := some_inj h
 exact leaveP Tryd.results27 hF hS (.cons (.tmp rfl) .nil) .nil rfl
end Go.Proofs.YtmbgmefmkjeahaaDoor.Rt
