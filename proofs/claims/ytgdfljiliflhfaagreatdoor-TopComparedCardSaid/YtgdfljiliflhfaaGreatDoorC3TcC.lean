/- Plain laws of the cellar of two clocks that are compared at four hours. Under the conditions that each names. The theorem of the clock that is compared over a line: what the pure function comes to. Under the conditions that each names. The theorem of the clock that is compared over a line: what the pure function comes to, for all arguments. Under the conditions that the arguments are Go's. -/
import Derived.Test.YtgdfljiliflhfaaGreatDoorC3BtC
import Derived.Test.YtgdfljiliflhfaaGreatDoorC3TpS
import Derived.Test.YtgdfljiliflhfaaGreatDoorC3L3
set_option linter.unusedVariables false
set_option linter.unusedSimpArgs false
set_option maxRecDepth 100000
set_option maxHeartbeats 4000000
namespace Go.Proofs.YtgdfljiliflhfaaGreatDoor.Rt.Tc
open Go Go.RowKit Go.Proofs.YtgdfljiliflhfaaGreatDoor.Rt.Bt
def Sp (s:Span) (a b:Int):Prop:=a≤s.Low∧s.Low≤s.High∧s.High≤b
def pr (d:Span) (X Y Z:Nat→Int) (h:Nat):BeatPair:=⟨(h:Int),0,1,⟨X h - Y h - Z h + d.Low,X h - Y h - Z h + d.High⟩⟩
def prs (d:Span) (X Y Z:Nat→Int):List BeatPair:=[pr d X Y Z 0,pr d X Y Z 1,pr d X Y Z 2,pr d X Y Z 3]
def cel (a0 a1:Span) (ps:List BeatPair):BeatCellar:=⟨3,[a0,a1],[],ps⟩
def row (X:Nat→Int):List Int:=[X 0,X 1,X 2,X 3]
structure Runs (a0 a1 d:Span) (X Y Z:Nat→Int):Prop where
  r0:Sp a0 (-1000) 1000
  r1:Sp a1 (-1000) 1000
  dd:Sp d 0 6000
  x0:-2000≤X 0∧X 0≤2000
  y0:-2000≤Y 0∧Y 0≤2000
  xs:∀ j,j < 3→a0.Low≤X (j + 1) - X j∧X (j + 1) - X j≤a0.High
  ys:∀ j,j < 3→a1.Low≤Y (j + 1) - Y j∧Y (j + 1) - Y j≤a1.High
  zs:∀ j,j < 4→d.Low≤Z j∧Z j≤d.High
variable {a0 a1 d:Span} {X Y Z:Nat→Int}
theorem Runs.bd (r:Runs a0 a1 d X Y Z):∀ j,j < 4→(-5000≤X j∧X j≤5000)∧(-5000≤Y j∧Y j≤5000):=by
  obtain ⟨⟨p1,p2,p3⟩,⟨q1,q2,q3⟩,_,x0,y0,xs,ys,_⟩:=r
  have x1:a0.Low≤X 1 - X 0∧X 1 - X 0≤a0.High:=xs 0 (by omega)
  have x2:a0.Low≤X 2 - X 1∧X 2 - X 1≤a0.High:=xs 1 (by omega)
  have x3:a0.Low≤X 3 - X 2∧X 3 - X 2≤a0.High:=xs 2 (by omega)
  have y1:a1.Low≤Y 1 - Y 0∧Y 1 - Y 0≤a1.High:=ys 0 (by omega)
  have y2:a1.Low≤Y 2 - Y 1∧Y 2 - Y 1≤a1.High:=ys 1 (by omega)
  have y3:a1.Low≤Y 3 - Y 2∧Y 3 - Y 2≤a1.High:=ys 2 (by omega)
  intro j hj
  match j,hj with
  | 0,_=>omega
  | 1,_=>omega
  | 2,_=>omega
  | 3,_=>omega
theorem rate_ok {s:Span} (h:Sp s (-1000) 1000):rateB s=true:=by
  obtain ⟨h1,h2,h3⟩:=h
  simp only [rateB,spanB,Bool.and_eq_true,decide_eq_true_eq];omega
theorem Runs.pair (r:Runs a0 a1 d X Y Z) {j:Nat} (hj:j < 4) (ps:List BeatPair):pairB (cel a0 a1 ps) (pr d X Y Z j)=true:=by
  have b:=r.bd j hj;have z:=r.zs j hj;obtain ⟨d1,d2,d3⟩:=r.dd
  simp only [pairB,inB,spanB,Bool.and_eq_true,decide_eq_true_eq,bne_iff_ne]
  simp only [pr,cel,List.length_cons,List.length_nil]
  omega
theorem Runs.good (r:Runs a0 a1 d X Y Z):goodB (cel a0 a1 (prs d X Y Z))=true:=by
  have e:(prs d X Y Z).all (pairB (cel a0 a1 (prs d X Y Z)))=true:=by
    simp only [prs,List.all_cons,List.all_nil,r.pair (show 0 < 4 by omega),r.pair (show 1 < 4 by omega),r.pair (show 2 < 4 by omega),r.pair (show 3 < 4 by omega),Bool.and_true]
  have e0:[a0,a1].all rateB=true:=by simp only [List.all_cons,List.all_nil,rate_ok r.r0,rate_ok r.r1];rfl
  show (sizesB _ && [a0,a1].all rateB && ([]:List BeatOpen).all _ && (prs d X Y Z).all (pairB (cel a0 a1 (prs d X Y Z))))=true
  rw [e,e0];rfl
theorem ok_cel (h0:Ok_Span a0) (h1:Ok_Span a1) {ps:List BeatPair} (hl:ps.length≤100) (hp:∀ p ∈ ps,Ok_BeatPair p):Ok_BeatCellar (cel a0 a1 ps):=by
  refine ⟨inr_small (by simp only [cel];omega) (by simp only [cel];omega),⟨by simp [cel],fun s hs=>?_⟩,⟨by simp [cel],fun s hs=>by simp [cel] at hs⟩,⟨by simp only [cel];omega,hp⟩⟩
  simp only [cel,List.mem_cons,List.not_mem_nil,or_false] at hs
  rcases hs with rfl | rfl
  · exact h0
  · exact h1
theorem Runs.ok (r:Runs a0 a1 d X Y Z):Ok_BeatCellar (cel a0 a1 (prs d X Y Z)):=by
  obtain ⟨p1,p2,p3⟩:=r.r0;obtain ⟨q1,q2,q3⟩:=r.r1;obtain ⟨d1,d2,d3⟩:=r.dd
  have hp:∀ j,j < 4→Ok_BeatPair (pr d X Y Z j):=fun j hj=>by
    have b:=r.bd j hj;have z:=r.zs j hj
    refine ⟨inr_small ?_ ?_,inr_small (by simp only [pr];omega) (by simp only [pr];omega),inr_small (by simp only [pr];omega) (by simp only [pr];omega),inr_small ?_ ?_,inr_small ?_ ?_⟩ <;> simp only [pr] <;> omega
  refine ok_cel ⟨inr_small (by omega) (by omega),inr_small (by omega) (by omega)⟩ ⟨inr_small (by omega) (by omega),inr_small (by omega) (by omega)⟩ (by simp [prs]) fun p h=>?_
  simp only [prs,List.mem_cons,List.not_mem_nil,or_false] at h
  rcases h with rfl | rfl | rfl | rfl
  · exact hp 0 (by omega)
  · exact hp 1 (by omega)
  · exact hp 2 (by omega)
  · exact hp 3 (by omega)
theorem off_row0:∀ h:Nat,h < 4→off [row X,row Y] 0 (h:Int)=X h
  | 0,_=>rfl
  | 1,_=>rfl
  | 2,_=>rfl
  | 3,_=>rfl
theorem off_row1:∀ h:Nat,h < 4→off [row X,row Y] 1 (h:Int)=Y h
  | 0,_=>rfl
  | 1,_=>rfl
  | 2,_=>rfl
  | 3,_=>rfl
theorem Runs.fits (r:Runs a0 a1 d X Y Z):Fits (cel a0 a1 (prs d X Y Z)) 0 (off [row X,row Y]) 0:=by
  have bd:=r.bd
  refine ⟨fun k hk h hh=>?_,fun p hp _=>?_,fun k hk h hh=>?_⟩
  · have hh3:h < 3:=by simp only [cel] at hh;omega
    have e1:((h:Int) + 1)=((h + 1:Nat):Int):=by omega
    rw [e1]
    match k,hk with
    | 0,_=>
      have:=r.xs h hh3
      simp only [Int.natCast_zero,off_row0 h (by omega),off_row0 (h + 1) (by omega)]
      show a0.Low + 0≤_∧_≤a0.High + 0
      omega
    | 1,_=>
      have:=r.ys h hh3
      simp only [Int.natCast_one,off_row1 h (by omega),off_row1 (h + 1) (by omega)]
      show a1.Low + 0≤_∧_≤a1.High + 0
      omega
  · have key:∀ j,j < 4→p=pr d X Y Z j→p.Read.Low≤off [row X,row Y] p.One p.Hour - (if p.Other ≥ 0 then off [row X,row Y] p.Other p.Hour else 0)∧off [row X,row Y] p.One p.Hour - (if p.Other ≥ 0 then off [row X,row Y] p.Other p.Hour else 0)≤p.Read.High:=by
      rintro j hj rfl
      have z:=r.zs j hj
      simp only [pr,off_row0 j hj,off_row1 j hj,show (1:Int) ≥ 0 by omega,if_true]
      omega
    simp only [cel,prs,List.mem_cons,List.not_mem_nil,or_false] at hp
    rcases hp with h | h | h | h
    · exact key 0 (by omega) h
    · exact key 1 (by omega) h
    · exact key 2 (by omega) h
    · exact key 3 (by omega) h
  · have hh3:h < 4:=by simp only [cel] at hh;omega
    have b:=bd h hh3
    match k,hk with
    | 0,_=>simp only [Int.natCast_zero,off_row0 h hh3];omega
    | 1,_=>simp only [Int.natCast_one,off_row1 h hh3];omega
theorem Runs.answers (r:Runs a0 a1 d X Y Z) {h:Nat} (hh:h < 4):beat_IsTruth (cel a0 a1 (prs d X Y Z)) [row X,row Y]=some (true,0)∧beat_Wrong (cel a0 a1 (prs d X Y Z))=some ([],0) ∧
    ∃ s,beat_Apart (cel a0 a1 (prs d X Y Z)) 0 1 (h:Int)=some (s,0)∧(-200000≤s.Low∧s.High≤200000)∧(s.Low≤X h - Y h∧X h - Y h≤s.High)∧s.High - s.Low≤d.High - d.Low:=by
  have hg:=r.good
  have hok:=r.ok
  have hfit:=r.fits
  have bd:=r.bd
  generalize hc:cel a0 a1 (prs d X Y Z)=c at hg hok hfit ⊢
  have cR:c.Rates.length=2:=by rw [← hc];rfl
  have cH:c.Hours=3:=by rw [← hc];rfl
  have cw:wid c=4:=by simp only [wid,cH];rfl
  have hs:shapeB c [row X,row Y]=true:=by
    simp only [shapeB,cR,cw,row,List.all_cons,List.all_nil,List.length_cons,List.length_nil];rfl
  have hrg:=range_of hg hs hfit
  have hol:=range_ok hg hs hrg
  have htr:=(truth_iff hg [row X,row Y]).2 ⟨hs,hfit⟩
  have hF:=(fits_F hg).1 hfit
  have hcan:Bt.Can c 0:=⟨_,hF⟩
  have hb:=(canB_iff hg 0).2 hcan
  have t1:beat_IsTruth c [row X,row Y]=some (true,0):=by rw [IsTruth_eq c hok _ hol,hg,if_pos rfl,htr]
  have t2:beat_Wrong c=some ([],0):=by rw [Wrong_eq c hok,hg,if_pos rfl,wrongF_head hb]
  refine ⟨t1,t2,told c 0 (nd c 0 h) (nd c 1 h),?_,?_,?_,?_⟩
  · have s0:spotB c 0 (h:Int)=true:=by simp only [spotB,inB,cR,cH,Bool.and_eq_true,decide_eq_true_eq];omega
    have s1:spotB c 1 (h:Int)=true:=by simp only [spotB,inB,cR,cH,Bool.and_eq_true,decide_eq_true_eq];omega
    rw [Apart_eq c hok,s0,s1,Bool.and_self,ans,if_pos hg,if_pos rfl,if_pos hb]
  all_goals
    have n0:nd c 0 (h:Int) < cnt c:=by simp only [nd,cnt,cR,cw];omega
    have n1:nd c 1 (h:Int) < cnt c:=by simp only [nd,cnt,cR,cw];omega
  · have b1:=mx_bound hg hcan n0 n1
    have b2:=mx_bound hg hcan n1 n0
    simp only [told];omega
  · have ev:∀ k:Nat,xo c (off [row X,row Y]) 0 (nd c k h)=off [row X,row Y] k h:=fun k=>xo_nd (c:=c) (off [row X,row Y]) 0 (k:=k) (h:=h) (by omega)
    have e0:=ev 0;have e1:=ev 1
    simp only [Int.natCast_zero,Int.natCast_one,off_row0 h hh,off_row1 h hh] at e0 e1
    have:=told_in hg hF n0 n1
    rw [e0,e1] at this
    exact this
  · -- both ends are so in a truth, and each truth fits the pair that was read
    have key:∀ x,F c 0 x→(pr d X Y Z h).Read.Low≤x (nd c 0 h) - x (nd c 1 h)∧x (nd c 0 h) - x (nd c 1 h)≤(pr d X Y Z h).Read.High:=by
      intro x hx
      have hm:pr d X Y Z h ∈ c.Pairs:=by
        rw [← hc]
        match h,hh with
        | 0,_=>simp [cel,prs]
        | 1,_=>simp [cel,prs]
        | 2,_=>simp [cel,prs]
        | 3,_=>simp [cel,prs]
      have:=hx.r _ hm (show (inSetB 0 0 || (decide ((1:Int) ≥ 0) && inSetB 0 1))=false by decide +kernel)
      simpa only [pr,show (1:Int) ≥ 0 by omega,if_true] using this
    obtain ⟨⟨x,hx,ex⟩,_⟩:=mx_most hg hcan n0 n1
    obtain ⟨⟨y,hy,ey⟩,_⟩:=mx_most hg hcan n1 n0
    have k1:=key x hx
    have k2:=key y hy
    simp only [pr] at k1 k2
    simp only [told];omega
end Go.Proofs.YtgdfljiliflhfaaGreatDoor.Rt.Tc
set_option linter.unusedVariables false
set_option linter.unusedSimpArgs false
set_option maxRecDepth 100000
set_option maxHeartbeats 4000000
namespace Go.Proofs.YtgdfljiliflhfaaGreatDoor.Rt.Tc
open Go Go.RowKit Go.Proofs.YtgdfljiliflhfaaGreatDoor.Rt.Bt
theorem b2_step {rates:Arr2_Span} {bits:List Int} (hb:(bits.length:Int)≤9223372036854775807) (l:List (List Int)) {i:Nat} (hi:i < 2) {s:Span} (hs:([rates.a0,rates.a1]:List Span).getD i ⟨0,0⟩=s) (hS:Sp s (-1000) 1000)
    (r:List Int) (hr:r.length≤10) (h:Int) (h0:0≤h) (h3:h < 3) (now:Int) (hn:-10000≤now∧now≤10000):
    ∃ x,remontoirtop_TopCompared_b2 rates bits l (i:Int) (now,r,h)=nxt (x,r ++ [x],h + 1)∧s.Low≤x - now∧x - now≤s.High:=by
  obtain ⟨v,hv⟩:=At_any bits hb (wr ((wr (3 * (i:Int))) + h))
  obtain ⟨s1,s2,s3⟩:=hS
  obtain ⟨u,hu,u1,u2⟩:=From_in s v (by omega) s2 (by omega)
  refine ⟨now + u,?_,by omega,by omega⟩
  have hg:(0:Int)≤(i:Int)∧(i:Int) < ((2:Nat):Int):=by omega
  have hl:r.length + [now + u].length≤lim:=by simp only [List.length_cons,List.length_nil,lim];omega
  simp only [remontoirtop_TopCompared_b2,decide_eq_true h3,cond_true,if_pos hg,hv,bind_s,Int.toNat_natCast,hs]
  rw [show Span.mk s.Low s.High=s from rfl,hu,bind_s,wr_id' (n:=now + u) (by omega) (by omega),wr_id' (n:=h + 1) (by omega) (by omega),if_pos hl]
theorem b2_eq {rates:Arr2_Span} {bits:List Int} (hb:(bits.length:Int)≤9223372036854775807) (l:List (List Int)) (hl:l.length≤10) {i:Nat} (hi:i < 2) {s:Span} (hs:([rates.a0,rates.a1]:List Span).getD i ⟨0,0⟩=s) (hS:Sp s (-1000) 1000)
    (now:Int) (hn:-2000≤now∧now≤2000):
    ∃ X:Nat→Int,X 0=now∧(∀ j,j < 3→s.Low≤X (j + 1) - X j∧X (j + 1) - X j≤s.High)∧loopU (remontoirtop_TopCompared_b2 rates bits l (i:Int)) (now,[now],0)=nxt (l ++ [row X],(i:Int) + 1):=by
  obtain ⟨s1,s2,s3⟩:=hS
  obtain ⟨x1,e1,p1,q1⟩:=b2_step hb l hi hs ⟨s1,s2,s3⟩ [now] (by simp) 0 (by omega) (by omega) now (by omega)
  obtain ⟨x2,e2,p2,q2⟩:=b2_step hb l hi hs ⟨s1,s2,s3⟩ [now,x1] (by simp) 1 (by omega) (by omega) x1 (by omega)
  obtain ⟨x3,e3,p3,q3⟩:=b2_step hb l hi hs ⟨s1,s2,s3⟩ [now,x1,x2] (by simp) 2 (by omega) (by omega) x2 (by omega)
  refine ⟨fun j=>match j with | 0=>now | 1=>x1 | 2=>x2 | _=>x3,rfl,fun j hj=>?_,?_⟩
  · match j,hj with
    | 0,_=>exact ⟨p1,q1⟩
    | 1,_=>exact ⟨p2,q2⟩
    | 2,_=>exact ⟨p3,q3⟩
  · have hlim:l.length + [[now,x1,x2,x3]].length≤lim:=by simp only [List.length_cons,List.length_nil,lim];omega
    have e4:remontoirtop_TopCompared_b2 rates bits l (i:Int) (x3,[now,x1,x2,x3],3)=ext (nxt (l ++ [[now,x1,x2,x3]],(i:Int) + 1)):=by
      simp only [remontoirtop_TopCompared_b2,show decide ((3:Int) < 3)=false from rfl,cond_false,if_pos hlim]
      rw [wr_id' (n:=(i:Int) + 1) (by omega) (by omega)]
    exact (loopU_nxt e1).trans ((loopU_nxt e2).trans ((loopU_nxt e3).trans (loopU_ext e4)))
section
variable {n:LineNet} {rates:Arr2_Span} {k:Arr4} {bits:List Int} {to:Int} {d:Span}
theorem b1_step (hb:(bits.length:Int)≤9223372036854775807) (l:List (List Int)) (hl:l.length≤10) {i:Nat} (hi:i < 2) {s:Span} (hs:([rates.a0,rates.a1]:List Span).getD i ⟨0,0⟩=s) (hS:Sp s (-1000) 1000) (rd:Span × Int):
    ∃ X:Nat→Int,(-2000≤X 0∧X 0≤2000)∧(∀ j,j < 3→s.Low≤X (j + 1) - X j∧X (j + 1) - X j≤s.High) ∧
      remontoirtop_TopCompared_b1 n rates k bits to rd (l,(i:Int))=nxt (l ++ [row X],(i:Int) + 1):=by
  have hg:(0:Int)≤1 + (i:Int)∧1 + (i:Int) < ((4:Nat):Int):=by omega
  have hd:decide ((i:Int) < 2)=true:=decide_eq_true (by omega)
  obtain ⟨now,hnow,n1,n2⟩:=From_in ⟨-2000,2000⟩ (([k.a0,k.a1,k.a2,k.a3]:List Int).getD (Int.toNat (1 + (i:Int))) 0) (by decide) (by decide) (by decide)
  obtain ⟨X,x0,xs,ex⟩:=b2_eq hb l hl hi hs hS now ⟨n1,n2⟩
  refine ⟨X,by rw [x0];exact ⟨n1,n2⟩,xs,?_⟩
  simp only [remontoirtop_TopCompared_b1,hd,cond_true,r0To,bind_s]
  rw [wr_id' (n:=1 + (i:Int)) (by omega) (by omega),if_pos hg,hnow,bind_s,ex]
theorem idx_row (X:Nat→Int):∀ h:Nat,h < 4→idx (row X) (h:Int)=some (X h)
  | 0,_=>rfl
  | 1,_=>rfl
  | 2,_=>rfl
  | 3,_=>rfl
theorem k4_eq {X Y:Nat→Int} (bx:∀ j,j < 4→(-5000≤X j∧X j≤5000)∧(-5000≤Y j∧Y j≤5000)) (hD:Sp d 0 6000) {h:Nat} (hh:h < 4) (ps:List BeatPair) (hp:ps.length≤100) {z:Int} (hz:d.Low≤z∧z≤d.High):
    remontoirtop_TopCompared_k4 (d,0) [row X,row Y] (h:Int) ps z=nxt ((h:Int) + 1,ps ++ [⟨(h:Int),0,1,⟨X h - Y h - z + d.Low,X h - Y h - z + d.High⟩⟩]):=by
  have b:=bx h hh
  obtain ⟨d1,d2,d3⟩:=hD
  unfold remontoirtop_TopCompared_k4
  rw [show idx [row X,row Y] 0=some (row X) from rfl,show idx [row X,row Y] 1=some (row Y) from rfl]
  simp only [bind_s,idx_row X h hh,idx_row Y h hh,r0To]
  rw [wr_id' (n:=X h - Y h) (by omega) (by omega),wr_id' (n:=X h - Y h - z) (by omega) (by omega),wr_id' (n:=X h - Y h - z + d.Low) (by omega) (by omega),wr_id' (n:=X h - Y h - z + d.High) (by omega) (by omega),wr_id' (n:=(h:Int) + 1) (by omega) (by omega)]
  rw [if_pos (by simp only [List.length_cons,List.length_nil,lim];omega)]
theorem b3_step (hn:Ok_LineNet n) (hb:(bits.length:Int)≤9223372036854775807) {X Y:Nat→Int} (bx:∀ j,j < 4→(-5000≤X j∧X j≤5000)∧(-5000≤Y j∧Y j≤5000)) (hD:Sp d 0 6000) {h:Nat} (hh:h < 4) (ps:List BeatPair) (hp:ps.length≤100):
    ∃ z,(d.Low≤z∧z≤d.High)∧remontoirtop_TopCompared_b3 n rates k bits to (d,0) [row X,row Y] ((h:Int),ps)=nxt ((h:Int) + 1,ps ++ [⟨(h:Int),0,1,⟨X h - Y h - z + d.Low,X h - Y h - z + d.High⟩⟩]):=by
  have hd:decide ((h:Int)≤3)=true:=decide_eq_true (by omega)
  obtain ⟨v,hv⟩:=At_any bits hb (wr ((h:Int) + 6))
  have hD':=hD
  obtain ⟨d1,d2,d3⟩:=hD'
  obtain ⟨u,hu,u1,u2⟩:=From_in d v (by omega) d2 (by omega)
  simp only [remontoirtop_TopCompared_b3,hd,cond_true,hv,bind_s,hu,Ln.Can_eq hn]
  cases ((Ln.CanF n to u).2 != 0) || (!(Ln.CanF n to u).1) with
  | true=>exact ⟨d.High,⟨d2,Int.le_refl _⟩,k4_eq bx hD hh ps hp ⟨d2,Int.le_refl _⟩⟩
  | false=>exact ⟨u,⟨u1,u2⟩,k4_eq bx hD hh ps hp ⟨u1,u2⟩⟩
theorem b3_eq (hn:Ok_LineNet n) (hb:(bits.length:Int)≤9223372036854775807) {X Y:Nat→Int} (bx:∀ j,j < 4→(-5000≤X j∧X j≤5000)∧(-5000≤Y j∧Y j≤5000)) (hD:Sp d 0 6000):
    ∃ Z:Nat→Int,(∀ j,j < 4→d.Low≤Z j∧Z j≤d.High)∧loopU (remontoirtop_TopCompared_b3 n rates k bits to (d,0) [row X,row Y]) (0,[])=loopU (remontoirtop_TopCompared_b3 n rates k bits to (d,0) [row X,row Y]) (4,prs d X Y Z):=by
  obtain ⟨z0,p0,e0⟩:=b3_step (rates:=rates) (k:=k) (to:=to) hn hb bx hD (h:=0) (by omega) [] (by simp)
  obtain ⟨z1,p1,e1⟩:=b3_step (rates:=rates) (k:=k) (to:=to) hn hb bx hD (h:=1) (by omega) ([] ++ [_]) (by simp)
  obtain ⟨z2,p2,e2⟩:=b3_step (rates:=rates) (k:=k) (to:=to) hn hb bx hD (h:=2) (by omega) ([] ++ [_] ++ [_]) (by simp)
  obtain ⟨z3,p3,e3⟩:=b3_step (rates:=rates) (k:=k) (to:=to) hn hb bx hD (h:=3) (by omega) ([] ++ [_] ++ [_] ++ [_]) (by simp)
  refine ⟨fun j=>match j with | 0=>z0 | 1=>z1 | 2=>z2 | _=>z3,fun j hj=>?_,?_⟩
  · match j,hj with
    | 0,_=>exact p0
    | 1,_=>exact p1
    | 2,_=>exact p2
    | 3,_=>exact p3
  · exact (loopU_nxt e0).trans ((loopU_nxt e1).trans ((loopU_nxt e2).trans (loopU_nxt e3)))
theorem b3_end {X Y Z:Nat→Int} (r:Runs rates.a0 rates.a1 d X Y Z):remontoirtop_TopCompared_b3 n rates k bits to (d,0) [row X,row Y] (4,prs d X Y Z)=ext (some true):=by
  obtain ⟨g,hg,g0,g1⟩:=rest_any k.a3 (by_:=4) (by omega) (by omega)
  obtain ⟨h,rfl⟩:=Int.eq_ofNat_of_zero_le g0
  have hh:h < 4:=by omega
  obtain ⟨t1,t2,s,t3,⟨s1,s2⟩,⟨s3,s4⟩,s5⟩:=r.answers hh
  have b:=r.bd h hh
  obtain ⟨d1,d2,d3⟩:=r.dd
  simp only [cel] at t1 t2 t3
  simp only [remontoirtop_TopCompared_b3,show decide ((4:Int)≤3)=false from rfl,cond_false,t1,t2,bind_s,hg,t3]
  have q:r0Has s (wr (X h - Y h))=some true:=by
    rw [Has_eq,wr_id' (by omega) (by omega)];congr 1;simp only [hasB,inB,Bool.and_eq_true,decide_eq_true_eq];omega
  have q2:decide (wr (s.High - s.Low)≤wr (d.High - d.Low))=true:=by
    rw [wr_id' (by omega) (by omega),wr_id' (by omega) (by omega)];exact decide_eq_true s5
  rw [show idx [row X,row Y] 0=some (row X) from rfl,show idx [row X,row Y] 1=some (row Y) from rfl]
  simp only [bind_s,idx_row X h hh,idx_row Y h hh,q,q2,Tp.rung_eq]
  rfl
end
theorem Valid_iff {s:Span} {a b:Int}:r0Valid s a b=some true∨r0Valid s a b=some false:=by
  unfold r0Valid
  cases decide (s.Low≤s.High) <;> cases decide (a≤s.Low) <;> cases decide (s.High≤b) <;> simp
theorem Valid_sp {s:Span} {a b:Int} (h:r0Valid s a b=some true):Sp s a b:=by
  unfold r0Valid at h
  by_cases h1:s.Low≤s.High
  · by_cases h2:a≤s.Low
    · by_cases h3:s.High≤b
      · exact ⟨h2,h1,h3⟩
      · rw [decide_eq_true h1,decide_eq_true h2,decide_eq_false h3] at h;cases h
    · rw [decide_eq_true h1,decide_eq_false h2] at h;cases h
  · rw [decide_eq_false h1] at h;cases h
theorem Valid_of {s:Span} {a b:Int} (h:Sp s a b):r0Valid s a b=some true:=by
  obtain ⟨h1,h2,h3⟩:=h
  unfold r0Valid
  rw [decide_eq_true h1,decide_eq_true h2,decide_eq_true h3];rfl
end Go.Proofs.YtgdfljiliflhfaaGreatDoor.Rt.Tc
set_option linter.unusedVariables false
set_option linter.unusedSimpArgs false
set_option maxRecDepth 100000
set_option maxHeartbeats 4000000
namespace Go.Proofs.YtgdfljiliflhfaaGreatDoor.Rt.Tc
open Go Go.RowKit
theorem errF_vals {n:LineNet} (hg:Ln.goodB n=true) {e:Int} (h0:0≤e) (h1:e < n.Exchanges):Ln.errF n e=0∨Ln.errF n e=4∨Ln.errF n e=62:=by
  unfold Ln.errF
  rw [if_pos hg,if_pos (Ln.inB_iff.2 ⟨h0,by omega⟩)]
  split
  · split
    · exact .inr (.inr rfl)
    · exact .inl rfl
  · exact .inr (.inl rfl)
theorem span_bd' {n:LineNet} {e:Int} (he:Ln.errF n e=0):Sp (Ln.spanF n e) 0 6000:=by
  obtain ⟨hS,_,_,hne⟩:=Ln.errF_ok he
  exact Ln.span_bd hS hne
theorem compared_eq (n:LineNet) (rates:Arr2_Span) (k:Arr4) (bits:List Int) (hn:Ok_LineNet n) (hr:Ok_Arr2_Span rates) (hbits:OkL InR bits):remontoirtop_TopCompared n rates k bits=some true:=by
  have hb:=hbits.1
  have hchk:beat_Check (BeatCellar.mk 3 ([rates.a0,rates.a1]) ([]:List BeatOpen) ([]:List BeatPair))=some (if Bt.goodB (cel rates.a0 rates.a1 []) then 0 else 20):=Bt.beat_Check_eq _ (ok_cel hr.1 hr.2 (by simp) (by simp))
  unfold remontoirtop_TopCompared
  simp only [Ln.line_Check_eq n hn,hchk,bind_s,Ln.Lies_eq,Tp.rung_eq]
  cases hg:Ln.goodB n with
  | false=>rfl
  | true=>
    cases hc:Bt.goodB (cel rates.a0 rates.a1 []) with
    | false=>rfl
    | true=>
      simp only [if_true,show ((0:Int) != 0)=false from rfl,cond_false,bind_s]
      cases hx:Ln.inB n.Exchanges 1 7 with
      | false=>rfl
      | true=>
        simp only [Bool.not_true,cond_false,bind_s]
        rcases Valid_iff (s:=rates.a0) (a:=-1000) (b:=1000) with v0 | v0
        · rcases Valid_iff (s:=rates.a1) (a:=-1000) (b:=1000) with v1 | v1
          · simp only [v0,v1,bind_s,Bool.not_true,cond_false]
            have r0:=Valid_sp v0
            have r1:=Valid_sp v1
            have hE:=Ln.inB_iff.1 hx
            obtain ⟨to,hto,to0,to1⟩:=Bt.rest_any k.a0 (by_:=n.Exchanges) (by omega) (by omega)
            simp only [hto,bind_s,Ln.Delay_eq hn]
            rcases errF_vals hg to0 to1 with he | he | he
            · have hD:Ln.DelayF n to=(Ln.spanF n to,0):=by unfold Ln.DelayF;rw [if_pos he]
              have hS:=span_bd' he
              rw [hD]
              simp only [show ((0:Int) != 0)=false from rfl,cond_false,Valid_of hS,bind_s,Bool.not_true]
              obtain ⟨X,x0,xs,e0⟩:=b1_step (n:=n) (rates:=rates) (k:=k) (bits:=bits) (to:=to) hb [] (by simp) (i:=0) (by omega) rfl r0 (Ln.spanF n to,0)
              obtain ⟨Y,y0,ys,e1⟩:=b1_step (n:=n) (rates:=rates) (k:=k) (bits:=bits) (to:=to) hb ([] ++ [row X]) (by simp) (i:=1) (by omega) rfl r1 (Ln.spanF n to,0)
              have e2:remontoirtop_TopCompared_b1 n rates k bits to (Ln.spanF n to,0) ([] ++ [row X] ++ [row Y],2)=ext (loopU (remontoirtop_TopCompared_b3 n rates k bits to (Ln.spanF n to,0) [row X,row Y]) (0,[])):=rfl
              have bx:∀ j,j < 4→(-5000≤X j∧X j≤5000)∧(-5000≤Y j∧Y j≤5000):=
                (Runs.mk (Z:=fun _=>(Ln.spanF n to).Low) r0 r1 hS x0 y0 xs ys (fun j _=>⟨Int.le_refl _,hS.2.1⟩)).bd
              obtain ⟨Z,zs,e3⟩:=b3_eq (rates:=rates) (k:=k) (bits:=bits) (to:=to) hn hb bx hS
              have hR:Runs rates.a0 rates.a1 (Ln.spanF n to) X Y Z:=⟨r0,r1,hS,x0,y0,xs,ys,zs⟩
              exact (loopU_nxt e0).trans ((loopU_nxt e1).trans ((loopU_ext e2).trans (e3.trans (loopU_ext (b3_end hR)))))
            · have hD:Ln.DelayF n to=(⟨0,0⟩,4):=by unfold Ln.DelayF;rw [he];rfl
              rw [hD];rfl
            · have hD:Ln.DelayF n to=(⟨0,0⟩,62):=by unfold Ln.DelayF;rw [he];rfl
              rw [hD];rfl
          · simp only [v0,v1,bind_s];rfl
        · simp only [v0,bind_s];rfl
end Go.Proofs.YtgdfljiliflhfaaGreatDoor.Rt.Tc
