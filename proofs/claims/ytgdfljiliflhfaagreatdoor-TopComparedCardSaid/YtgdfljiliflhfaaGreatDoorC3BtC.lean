/- Plain laws of the beat seat: what Check comes to, the bounds of a cellar. Under the conditions that each names. Plain laws of the beat seat: graphs of bounds, what is told, truths. Under the conditions that each names. Plain laws of beat: truths, and what must be wrong. Under the conditions that each names. -/
import Derived.Test.YtgdfljiliflhfaaGreatDoorC3Pl1
import Derived.Test.YtgdfljiliflhfaaGreatDoorC3WT1
import Derived.Test.YtgdfljiliflhfaaGreatDoorC3O0
set_option linter.unusedVariables false
set_option linter.unusedSimpArgs false
set_option maxRecDepth 100000
set_option maxHeartbeats 4000000
namespace Go.Proofs.YtgdfljiliflhfaaGreatDoor.Rt.Bt
open Go Go.RowKit
def Ok_BeatOpen (x:BeatOpen):Prop:=InR x.Clock∧InR x.Hour∧Ok_Span x.Step
def Ok_BeatPair (x:BeatPair):Prop:=InR x.Hour∧InR x.One∧InR x.Other∧Ok_Span x.Read
def Ok_BeatCellar (x:BeatCellar):Prop:=InR x.Hours∧(OkL Ok_Span x.Rates)∧(OkL Ok_BeatOpen x.Opens)∧(OkL Ok_BeatPair x.Pairs)
def spanB (s:Span) (m:Int):Bool:=decide (-m≤s.Low) && decide (s.Low≤s.High) && decide (s.High≤m)
def inB (n a b:Int):Bool:=decide (a≤n) && decide (n≤b)
def rateB (s:Span):Bool:=spanB s 1000
def openB (c:BeatCellar) (o:BeatOpen):Bool:=inB o.Clock 0 (c.Rates.length - 1) && inB o.Hour 0 (c.Hours - 1) && spanB o.Step 100000
def pairB (c:BeatCellar) (p:BeatPair):Bool:=inB p.Hour 0 c.Hours && inB p.One 0 (c.Rates.length - 1) && inB p.Other (-1) (c.Rates.length - 1) && (p.One != p.Other) && spanB p.Read 200000
def sizesB (c:BeatCellar):Bool:=inB c.Hours 1 12 && inB c.Rates.length 1 5 && decide ((c.Opens.length:Int)≤6) && decide ((c.Pairs.length:Int)≤14)
def goodB (c:BeatCellar):Bool:=sizesB c && c.Rates.all rateB && c.Opens.all (openB c) && c.Pairs.all (pairB c)
theorem all_take {α:Type} {f:α→Bool} {xs:List α} {i:Nat} (h:i < xs.length):(xs.take (i + 1)).all f=((xs.take i).all f && f xs[i]):=by
  rw [List.take_succ_eq_append_getElem h,List.all_append];simp
theorem lies_eq (n a b:Int):beat_lies n a b=some (inB n a b):=rfl
theorem isSpan_eq (s:Span) (m:Int) (h0:0≤m) (h1:m≤9223372036854775807):beat_isSpan s m=some (spanB s m):=by
  unfold beat_isSpan spanB
  rw [wr_id' (by omega) (by omega)]
  simp
theorem beat_Check_eq (c:BeatCellar) (hc:Ok_BeatCellar c):beat_Check c=some (if goodB c then 0 else 20):=by
  obtain ⟨⟨hh1,hh2⟩,⟨hR,_⟩,⟨hO,_⟩,⟨hP,_⟩⟩:=hc
  have w1:wr ((c.Rates.length:Int) - 1)=(c.Rates.length:Int) - 1:=wr_id' (by omega) (by omega)
  -- the comparisons
  have l3:∀ b:Bool,loopU (beat_Check_b3 c) (b,0)=some (if b && c.Pairs.all (pairB c) then 0 else 20):=by
    intro b
    have h:=loopU_run0 (body:=beat_Check_b3 c) (fun i=>(b && (c.Pairs.take i).all (pairB c),(i:Int))) c.Pairs.length (fun i hi=>by
      have hd:decide ((i:Int) < (c.Pairs.length:Int))=true:=by simp;omega
      simp only [beat_Check_b3,hd,cond_true,idx_get hi,bind_s,lies_eq,w1]
      rw [wr_id' (by omega) (by omega),all_take hi,← Bool.and_assoc]
      have hs:=isSpan_eq c.Pairs[i].Read 200000 (by decide) (by decide)
      simp only [hs,bind_s,cond_s,nxt,pairB]
      generalize (b && (c.Pairs.take i).all _)=b0
      generalize inB c.Pairs[i].Hour 0 c.Hours=b1
      generalize inB c.Pairs[i].One 0 _=b2
      generalize inB c.Pairs[i].Other (-1) _=b3
      generalize (c.Pairs[i].One != c.Pairs[i].Other)=b4
      generalize spanB c.Pairs[i].Read 200000=b5
      cases b0 <;> cases b1 <;> cases b2 <;> cases b3 <;> cases b4 <;> cases b5 <;> rfl)
    simp only [List.take_zero,List.all_nil,Bool.and_true,Int.natCast_zero,List.take_length] at h
    refine h.trans (loopU_ext ?_)
    simp only [beat_Check_b3]
    have hd:decide ((c.Pairs.length:Int) < (c.Pairs.length:Int))=false:=by simp
    rw [hd,cond_false]
    generalize (b && c.Pairs.all _)=b0
    cases b0 <;> rfl
  have l2:∀ b:Bool,(b=true→inB c.Hours 1 12=true)→loopU (beat_Check_b2 c) (b,0)=some (if b && c.Opens.all (openB c) && c.Pairs.all (pairB c) then 0 else 20):=by
    intro b hb
    have h:=loopU_run0 (body:=beat_Check_b2 c) (fun i=>(b && (c.Opens.take i).all (openB c),(i:Int))) c.Opens.length (fun i hi=>by
      have hd:decide ((i:Int) < (c.Opens.length:Int))=true:=by simp;omega
      simp only [beat_Check_b2,hd,cond_true,idx_get hi,bind_s,lies_eq,w1]
      have wi:wr ((i:Int) + 1)=((i + 1:Nat):Int):=wr_id' (by omega) (by omega)
      rw [wi,all_take hi,← Bool.and_assoc]
      have hs:=isSpan_eq c.Opens[i].Step 100000 (by decide) (by decide)
      cases b with
      | false=>simp only [Bool.false_and,cond_false,bind_s,nxt]
      | true=>
        have hH:=hb rfl
        simp only [inB,Bool.and_eq_true,decide_eq_true_eq] at hH
        have w2:wr (c.Hours - 1)=c.Hours - 1:=wr_id' (by omega) (by omega)
        simp only [hs,bind_s,cond_s,nxt,openB,w2]
        generalize (true && (c.Opens.take i).all _)=b0
        generalize inB c.Opens[i].Clock 0 _=b1
        generalize inB c.Opens[i].Hour 0 _=b2
        generalize spanB c.Opens[i].Step 100000=b5
        cases b0 <;> cases b1 <;> cases b2 <;> cases b5 <;> rfl)
    simp only [List.take_zero,List.all_nil,Bool.and_true,Int.natCast_zero,List.take_length] at h
    refine h.trans (loopU_ext ?_)
    simp only [beat_Check_b2]
    have hd:decide ((c.Opens.length:Int) < (c.Opens.length:Int))=false:=by simp
    rw [hd,cond_false,l3]
  have l1:∀ b:Bool,(b=true→inB c.Hours 1 12=true)→loopU (beat_Check_b1 c) (b,0)=some (if b && c.Rates.all rateB && c.Opens.all (openB c) && c.Pairs.all (pairB c) then 0 else 20):=by
    intro b hb
    have h:=loopU_run0 (body:=beat_Check_b1 c) (fun i=>(b && (c.Rates.take i).all rateB,(i:Int))) c.Rates.length (fun i hi=>by
      have hd:decide ((i:Int) < (c.Rates.length:Int))=true:=by simp;omega
      simp only [beat_Check_b1,hd,cond_true,idx_get hi,bind_s]
      have wi:wr ((i:Int) + 1)=((i + 1:Nat):Int):=wr_id' (by omega) (by omega)
      rw [wi,all_take hi,← Bool.and_assoc]
      have hs:=isSpan_eq c.Rates[i] 1000 (by decide) (by decide)
      simp only [hs,bind_s,cond_s,nxt,rateB]
      generalize (b && (c.Rates.take i).all _)=b0
      generalize spanB c.Rates[i] 1000=b5
      cases b0 <;> cases b5 <;> rfl)
    simp only [List.take_zero,List.all_nil,Bool.and_true,Int.natCast_zero,List.take_length] at h
    refine h.trans (loopU_ext ?_)
    simp only [beat_Check_b1]
    have hd:decide ((c.Rates.length:Int) < (c.Rates.length:Int))=false:=by simp
    rw [hd,cond_false,l2 _ (fun h=>hb (by simp only [Bool.and_eq_true] at h;exact h.1))]
  unfold beat_Check
  simp only [lies_eq,bind_s,cond_s]
  rw [l1 _ (fun h=>by
    simp only [Bool.and_eq_true] at h
    have:=h.1.1
    revert this
    cases inB c.Hours 1 12 <;> simp)]
  have e:(bif inB c.Hours 1 12 then inB (c.Rates.length:Int) 1 5 else false)=(inB c.Hours 1 12 && inB (c.Rates.length:Int) 1 5):=by cases inB c.Hours 1 12 <;> rfl
  simp only [goodB,sizesB,e]
  congr
def spotOf (W:Nat):Nat→beat_spot
  | 0=>⟨-1,0⟩
  | m + 1=>⟨((m / W:Nat):Int),((m % W:Nat):Int)⟩
def plN (W n:Nat):List (beat_spot × Int):=(List.range n).map fun m=>(spotOf W m,(m:Int))
theorem kl_inj {a b:beat_spot} (h:kl_99 a=kl_99 b):a=b:=by
  cases a;cases b
  simp only [kl_99,List.cons.injEq,and_true] at h
  simp [h.1,h.2]
theorem spotOf_inj {W:Nat} (hW:0 < W):∀ {a b:Nat},spotOf W a=spotOf W b→a=b
  | 0,0,_=>rfl
  | 0,b + 1,h=>by simp only [spotOf,beat_spot.mk.injEq] at h;have:=Int.natCast_nonneg (b / W);omega
  | a + 1,0,h=>by simp only [spotOf,beat_spot.mk.injEq] at h;have:=Int.natCast_nonneg (a / W);omega
  | a + 1,b + 1,h=>by
    simp only [spotOf,beat_spot.mk.injEq,Int.natCast_inj] at h
    have h1:=Nat.div_add_mod a W
    have h2:=Nat.div_add_mod b W
    rw [h.1,h.2] at h1
    omega
theorem mput_new {K V:Type} {kl:K→List Int}:∀ {xs:List (K × V)} {k:K} {v:V},(∀ p ∈ xs,kl p.1 ≠ kl k)→mput kl xs k v=xs ++ [(k,v)]
  | [],k,v,_=>rfl
  | p::xs,k,v,h=>by
    have h1:=h p (by simp)
    have h2:=mput_new (v:=v) (fun q hq=>h q (List.mem_cons_of_mem _ hq):∀ q ∈ xs,kl q.1 ≠ kl k)
    have hb:(kl k == kl p.1)=false:=by simp;exact fun e=>h1 e.symm
    simp only [mput,hb,cond_false,h2,List.cons_append]
theorem plN_put {W n:Nat} (hW:0 < W):mput kl_99 (plN W n) (spotOf W n) (n:Int)=plN W (n + 1):=by
  rw [mput_new]
  · simp [plN,List.range_succ]
  · intro p hp
    simp only [plN,List.mem_map,List.mem_range] at hp
    obtain ⟨m,hm,rfl⟩:=hp
    intro h
    have:=spotOf_inj hW (kl_inj h)
    omega
theorem mget_plN {W:Nat} (hW:0 < W) {n m:Nat} (hm:m < n):mget kl_99 (plN W n) (spotOf W m)=some (m:Int):=by
  have key:∀ (l:List Nat),m ∈ l→mget kl_99 (l.map fun m=>(spotOf W m,(m:Int))) (spotOf W m)=some (m:Int):=by
    intro l
    induction l with
    | nil=>intro h;simp at h
    | cons q l ih=>
      intro h
      simp only [List.map_cons,mget]
      cases hb:(kl_99 (spotOf W m) == kl_99 (spotOf W q)) with
      | true=>
        have:m=q:=spotOf_inj hW (kl_inj (by simpa using hb))
        subst this;rfl
      | false=>
        simp only [cond_false]
        rcases List.mem_cons.1 h with rfl | h
        · simp at hb
        · exact ih h
  exact key _ (List.mem_range.2 hm)
theorem plN_len {W n:Nat}:(plN W n).length=n:=by simp [plN]
theorem spotOf_at {W k j:Nat} (hj:j < W):spotOf W (1 + k * W + j)=⟨(k:Int),(j:Int)⟩:=by
  have e:1 + k * W + j=(k * W + j) + 1:=by omega
  rw [e]
  simp only [spotOf]
  have h1:(k * W + j) / W=k:=by
    rw [Nat.mul_comm,Nat.mul_add_div (by omega),Nat.div_eq_of_lt hj];omega
  have h2:(k * W + j) % W=j:=by
    rw [Nat.mul_comm,Nat.mul_add_mod,Nat.mod_eq_of_lt hj]
  rw [h1,h2]
def wid (c:BeatCellar):Nat:=c.Hours.toNat + 1
theorem opened_eq (c:BeatCellar) (left:Int) (h1:1≤c.Hours) (h2:c.Hours≤12) (h3:(c.Rates.length:Int)≤5):
    beat_opened c left=some ⟨c,left,plN (wid c) (1 + c.Rates.length * wid c)⟩:=by
  have hW:0 < wid c:=by simp [wid]
  have hWi:wr (c.Hours + 1)=(wid c:Int):=by rw [wr_id' (by omega) (by omega)];simp only [wid];omega
  have hW2:wid c≤13:=by simp only [wid];omega
  have inner:∀ k:Nat,k < c.Rates.length→loopU (beat_opened_b2 c (k:Int)) (0,plN (wid c) (1 + k * wid c))=nxt (((k + 1:Nat):Int),plN (wid c) (1 + (k + 1) * wid c)):=by
    intro k hk
    have h:=loopU_run0 (body:=beat_opened_b2 c (k:Int)) (fun j=>((j:Int),plN (wid c) (1 + k * wid c + j))) (wid c) (fun j hj=>by
      have hd:decide ((j:Int) < (wid c:Int))=true:=by simp;omega
      have wi:wr ((j:Int) + 1)=((j + 1:Nat):Int):=wr_id' (by omega) (by omega)
      simp only [beat_opened_b2,hWi,hd,cond_true,wi,plN_len]
      rw [← spotOf_at hj,plN_put hW]
      rfl)
    refine Eq.trans h (loopU_ext ?_)
    have hd:decide ((wid c:Int) < (wid c:Int))=false:=by simp
    have wi:wr ((k:Int) + 1)=((k + 1:Nat):Int):=wr_id' (by omega) (by omega)
    simp only [beat_opened_b2,hWi,hd,cond_false,wi]
    rw [show 1 + k * wid c + wid c=1 + (k + 1) * wid c by rw [Nat.add_mul];omega]
  unfold beat_opened
  have h:=loopU_run0 (body:=beat_opened_b1 c left) (fun k=>((k:Int),plN (wid c) (1 + k * wid c))) c.Rates.length (fun k hk=>by
    have hd:decide ((k:Int) < (c.Rates.length:Int))=true:=by simp;omega
    simp only [beat_opened_b1,hd,cond_true]
    rw [inner k hk])
  have e0:mput kl_99 ([]:List (beat_spot × Int)) (beat_spot.mk (-1) 0) 0=plN (wid c) (1 + 0 * wid c):=by simp [mput,plN,spotOf]
  rw [e0]
  refine Eq.trans h (loopU_ext ?_)
  have hd:decide ((c.Rates.length:Int) < (c.Rates.length:Int))=false:=by simp
  simp only [beat_opened_b1,hd,cond_false]
theorem sum_bound {l:List Int} {B:Int} (hB:0≤B) (h:∀ n ∈ l,-B≤n∧n≤B):-(B * l.length)≤l.sum∧l.sum≤B * l.length:=by
  induction l with
  | nil=>simp
  | cons a l ih=>
    have h1:=h a (by simp)
    have h2:=ih (fun n hn=>h n (List.mem_cons_of_mem _ hn))
    simp only [List.sum_cons,List.length_cons,Int.natCast_add,Int.natCast_one,Int.mul_add,Int.mul_one]
    omega
theorem sum_eq (first:Int) (l:List Int) (h0:-1000≤first∧first≤1000) (hl:l.length≤6) (h:∀ n ∈ l,-100000≤n∧n≤100000):beat_sum_int_ first l=some (first + l.sum):=by
  unfold beat_sum_int_
  have hr:=loopU_run0 (body:=beat_sum_int__b1 l) (fun i=>(first + (l.take i).sum,(i:Int))) l.length (fun i hi=>by
    have hd:decide ((i:Int) < (l.length:Int))=true:=by simp;omega
    have wi:wr ((i:Int) + 1)=((i + 1:Nat):Int):=wr_id' (by omega) (by omega)
    have hb:=sum_bound (l:=l.take (i + 1)) (B:=100000) (by decide) (fun n hn=>h n (List.mem_of_mem_take hn))
    have hlen:(l.take (i + 1)).length≤6:=by simp;omega
    have e:(l.take (i + 1)).sum=(l.take i).sum + l[i]:=by rw [List.take_succ_eq_append_getElem hi,List.sum_append];simp
    simp only [beat_sum_int__b1,hd,cond_true,idx_get hi,bind_s,wi]
    rw [e,← Int.add_assoc,wr_id' (by rw [Int.add_assoc,← e];omega) (by rw [Int.add_assoc,← e];omega)])
  simp only [List.take_zero,List.sum_nil,Int.add_zero,Int.natCast_zero,List.take_length] at hr
  refine hr.trans (loopU_ext ?_)
  have hd:decide ((l.length:Int) < (l.length:Int))=false:=by simp
  simp only [beat_sum_int__b1,hd,cond_false]
def bothL (a b:beat_spot) (s:Span):List beat_bound:=[⟨a,b,s.High⟩,⟨b,a,-s.Low⟩]
theorem both_eq (a b:beat_spot) (s:Span) (h:-9223372036854775807≤s.Low∧s.Low≤9223372036854775807):beat_both a b s=some (bothL a b s):=by
  unfold beat_both bothL
  rw [wr_id' (by omega) (by omega)]
  simp
def opensAt (c:BeatCellar) (k h:Int):List BeatOpen:=c.Opens.filter fun o=>o.Clock == k && o.Hour == h
def growsSpan (c:BeatCellar) (r:Span) (k h:Int):Span:=⟨r.Low + ((opensAt c k h).map (·.Step.Low)).sum,r.High + ((opensAt c k h).map (·.Step.High)).sum⟩
theorem filter_take {α:Type} {f:α→Bool} {xs:List α} {i:Nat} (h:i < xs.length):(xs.take (i + 1)).filter f=(xs.take i).filter f ++ (if f xs[i] then [xs[i]] else []):=by
  rw [List.take_succ_eq_append_getElem h,List.filter_append]
  simp [List.filter_cons]
theorem grows_b3_eq (x:beat_cellar) (r:Span) (out:List beat_bound) (k h:Nat) (hO:x.BeatCellar.Opens.length≤6):
    loopU (beat_cellar_grows_b3 x (k:Int) r out (h:Int)) (([]:List Int),([]:List Int),0) =
      loopU (beat_cellar_grows_b3 x (k:Int) r out (h:Int)) ((opensAt x.BeatCellar k h).map (·.Step.Low),(opensAt x.BeatCellar k h).map (·.Step.High),(x.BeatCellar.Opens.length:Int)):=by
  have hr:=loopU_run0 (body:=beat_cellar_grows_b3 x (k:Int) r out (h:Int)) (fun i=>(((x.BeatCellar.Opens.take i).filter fun o=>o.Clock == (k:Int) && o.Hour == (h:Int)).map (·.Step.Low),
      ((x.BeatCellar.Opens.take i).filter fun o=>o.Clock == (k:Int) && o.Hour == (h:Int)).map (·.Step.High),(i:Int))) x.BeatCellar.Opens.length (fun i hi=>by
    have hd:decide ((i:Int) < (x.BeatCellar.Opens.length:Int))=true:=by simp;omega
    have wi:wr ((i:Int) + 1)=((i + 1:Nat):Int):=wr_id' (by omega) (by omega)
    have hlen:((x.BeatCellar.Opens.take i).filter fun o=>o.Clock == (k:Int) && o.Hour == (h:Int)).length≤6:=by
      have:=List.length_filter_le (fun o:BeatOpen=>o.Clock == (k:Int) && o.Hour == (h:Int)) (x.BeatCellar.Opens.take i)
      simp only [List.length_take] at this;omega
    simp only [beat_cellar_grows_b3,hd,cond_true,idx_get hi,bind_s,wi,filter_take hi]
    cases hc:(x.BeatCellar.Opens[i].Clock == (k:Int) && x.BeatCellar.Opens[i].Hour == (h:Int)) with
    | true=>
      simp only [cond_true,List.length_map,List.length_singleton,if_true,List.map_append,List.map_cons,List.map_nil,lim]
      rw [if_pos (by omega),if_pos (by omega)]
    | false=>simp)
  simpa [opensAt] using hr
theorem opensAt_bound {c:BeatCellar} (hg:c.Opens.all (openB c)=true) (k h:Int):∀ o ∈ opensAt c k h,(-100000≤o.Step.Low∧o.Step.Low≤100000)∧(-100000≤o.Step.High∧o.Step.High≤100000):=by
  intro o ho
  have:=List.all_eq_true.1 hg o ((List.mem_filter.1 ho).1)
  simp only [openB,spanB,inB,Bool.and_eq_true,decide_eq_true_eq] at this
  omega
theorem grows_step (x:beat_cellar) (r:Span) (out:List beat_bound) (k h:Nat) (hO:x.BeatCellar.Opens.length≤6) (hg:x.BeatCellar.Opens.all (openB x.BeatCellar)=true) (hr:rateB r=true) (hout:out.length≤1000) (hh:h≤100):
    loopU (beat_cellar_grows_b3 x (k:Int) r out (h:Int)) (([]:List Int),([]:List Int),0)=nxt (out ++ bothL ⟨(k:Int),((h + 1:Nat):Int)⟩ ⟨(k:Int),(h:Int)⟩ (growsSpan x.BeatCellar r k h),((h + 1:Nat):Int)):=by
  rw [grows_b3_eq x r out k h hO]
  refine loopU_ext ?_
  have hd:decide ((x.BeatCellar.Opens.length:Int) < (x.BeatCellar.Opens.length:Int))=false:=by simp
  have wi:wr ((h:Int) + 1)=((h + 1:Nat):Int):=wr_id' (by omega) (by omega)
  simp only [rateB,spanB,Bool.and_eq_true,decide_eq_true_eq] at hr
  have hlen:(opensAt x.BeatCellar k h).length≤6:=by
    have:=List.length_filter_le (fun o:BeatOpen=>o.Clock == (k:Int) && o.Hour == (h:Int)) x.BeatCellar.Opens
    simp only [opensAt];omega
  have hb:=opensAt_bound hg (k:Int) (h:Int)
  have s1:=sum_eq r.Low ((opensAt x.BeatCellar k h).map (·.Step.Low)) (by omega) (by simpa using hlen) (fun n hn=>by
    obtain ⟨o,ho,rfl⟩:=List.mem_map.1 hn;exact (hb o ho).1)
  have s2:=sum_eq r.High ((opensAt x.BeatCellar k h).map (·.Step.High)) (by omega) (by simpa using hlen) (fun n hn=>by
    obtain ⟨o,ho,rfl⟩:=List.mem_map.1 hn;exact (hb o ho).2)
  have sb:=sum_bound (l:=(opensAt x.BeatCellar k h).map (·.Step.Low)) (B:=100000) (by decide) (fun n hn=>by
    obtain ⟨o,ho,rfl⟩:=List.mem_map.1 hn;exact (hb o ho).1)
  simp only [List.length_map] at sb
  simp only [beat_cellar_grows_b3,hd,cond_false,s1,s2,bind_s,wi]
  rw [both_eq _ _ _ (by simp only;omega)]
  simp only [bind_s,growsSpan,lim]
  have hif:∀ s:Span,out.length + (bothL (beat_spot.mk (k:Int) ((h + 1:Nat):Int)) (beat_spot.mk (k:Int) (h:Int)) s).length≤1099511627776:=fun s=>by simp only [bothL,List.length_cons,List.length_nil];omega
  simp only [hif,if_true]
def growsK (c:BeatCellar) (r:Span) (k:Nat) (n:Nat):List beat_bound:=(List.range n).flatMap fun h=>bothL ⟨(k:Int),((h + 1:Nat):Int)⟩ ⟨(k:Int),(h:Int)⟩ (growsSpan c r k (h:Int))
theorem growsK_len (c:BeatCellar) (r:Span) (k n:Nat):(growsK c r k n).length=2 * n:=by
  induction n with
  | zero=>rfl
  | succ n ih=>simp only [growsK,List.range_succ,List.flatMap_append,List.length_append] at ih ⊢;rw [ih];simp [bothL];omega
theorem growsK_succ (c:BeatCellar) (r:Span) (k n:Nat):growsK c r k (n + 1)=growsK c r k n ++ bothL ⟨(k:Int),((n + 1:Nat):Int)⟩ ⟨(k:Int),(n:Int)⟩ (growsSpan c r k (n:Int)):=by
  simp [growsK,List.range_succ,List.flatMap_append]
theorem grows_clock (x:beat_cellar) (r:Span) (out:List beat_bound) (k:Nat) (hk:k≤100) (hH:0≤x.BeatCellar.Hours∧x.BeatCellar.Hours≤12) (hO:x.BeatCellar.Opens.length≤6) (hg:x.BeatCellar.Opens.all (openB x.BeatCellar)=true) (hr:rateB r=true) (hout:out.length≤900):
    loopU (beat_cellar_grows_b2 x (k:Int) r) (out,0)=nxt (out ++ growsK x.BeatCellar r k x.BeatCellar.Hours.toNat,((k + 1:Nat):Int)):=by
  have h:=loopU_run0 (body:=beat_cellar_grows_b2 x (k:Int) r) (fun i=>(out ++ growsK x.BeatCellar r k i,(i:Int))) x.BeatCellar.Hours.toNat (fun i hi=>by
    have hd:decide ((i:Int) < x.BeatCellar.Hours)=true:=by simp;omega
    simp only [beat_cellar_grows_b2,hd,cond_true]
    rw [grows_step x r _ k i hO hg hr (by rw [List.length_append,growsK_len];omega) (by omega),growsK_succ,List.append_assoc])
  simp only [growsK,List.range_zero,List.flatMap_nil,List.append_nil,Int.natCast_zero] at h
  refine h.trans (loopU_ext ?_)
  have hd:decide (((x.BeatCellar.Hours.toNat:Nat):Int) < x.BeatCellar.Hours)=false:=by simp;omega
  have wi:wr ((k:Int) + 1)=((k + 1:Nat):Int):=wr_id' (by omega) (by omega)
  simp only [beat_cellar_grows_b2,hd,cond_false,wi,growsK]
def growsL (c:BeatCellar) (n:Nat):List beat_bound:=(List.range n).flatMap fun k=>growsK c (c.Rates.getD k ⟨0,0⟩) k c.Hours.toNat
theorem growsL_succ (c:BeatCellar) (n:Nat):growsL c (n + 1)=growsL c n ++ growsK c (c.Rates.getD n ⟨0,0⟩) n c.Hours.toNat:=by simp [growsL,List.range_succ,List.flatMap_append]
theorem growsL_len (c:BeatCellar) (n:Nat):(growsL c n).length=2 * c.Hours.toNat * n:=by
  induction n with
  | zero=>rfl
  | succ n ih=>rw [growsL_succ,List.length_append,ih,growsK_len,Nat.mul_add];omega
theorem grows_eq (x:beat_cellar) (hx:goodB x.BeatCellar=true):beat_cellar_grows x=some (growsL x.BeatCellar x.BeatCellar.Rates.length):=by
  simp only [goodB,sizesB,inB,Bool.and_eq_true,decide_eq_true_eq] at hx
  obtain ⟨⟨⟨⟨⟨⟨hh,hk⟩,hO⟩,hP⟩,hr⟩,hg⟩,hp⟩:=hx
  unfold beat_cellar_grows
  have h:=loopU_run0 (body:=beat_cellar_grows_b1 x) (fun i=>(growsL x.BeatCellar i,(i:Int))) x.BeatCellar.Rates.length (fun i hi=>by
    have hd:decide ((i:Int) < (x.BeatCellar.Rates.length:Int))=true:=by simp;omega
    have hri:rateB x.BeatCellar.Rates[i]=true:=List.all_eq_true.1 hr _ (List.getElem_mem hi)
    have hl:(growsL x.BeatCellar i).length≤900:=by
      rw [growsL_len]
      have h1:2 * x.BeatCellar.Hours.toNat≤24:=by omega
      have h2:i≤5:=by omega
      exact Nat.le_trans (Nat.mul_le_mul h1 h2) (by decide)
    simp only [beat_cellar_grows_b1,hd,cond_true,idx_get hi,bind_s]
    rw [grows_clock x _ _ i (by omega) (by omega) (by omega) hg hri hl,growsL_succ]
    simp [List.getD,hi])
  simp only [growsL,List.range_zero,List.flatMap_nil,Int.natCast_zero] at h
  refine h.trans (loopU_ext ?_)
  have hd:decide ((x.BeatCellar.Rates.length:Int) < (x.BeatCellar.Rates.length:Int))=false:=by simp
  simp only [beat_cellar_grows_b1,hd,cond_false,growsL]
def holdsK (k n:Nat):List beat_bound:=(List.range n).flatMap fun (h:Nat)=>bothL ⟨(k:Int),(h:Int)⟩ ⟨-1,0⟩ ⟨-100000,100000⟩
theorem holdsK_succ (k n:Nat):holdsK k (n + 1)=holdsK k n ++ bothL ⟨(k:Int),(n:Int)⟩ ⟨-1,0⟩ ⟨-100000,100000⟩:=by simp [holdsK,List.range_succ,List.flatMap_append]
theorem holdsK_len (k n:Nat):(holdsK k n).length=2 * n:=by
  induction n with
  | zero=>rfl
  | succ n ih=>rw [holdsK_succ,List.length_append,ih];simp [bothL];omega
def holdsL (W n:Nat):List beat_bound:=(List.range n).flatMap fun k=>holdsK k W
theorem holdsL_succ (W n:Nat):holdsL W (n + 1)=holdsL W n ++ holdsK n W:=by simp [holdsL,List.range_succ,List.flatMap_append]
theorem holdsL_len (W n:Nat):(holdsL W n).length=2 * W * n:=by
  induction n with
  | zero=>rfl
  | succ n ih=>rw [holdsL_succ,List.length_append,ih,holdsK_len,Nat.mul_add];omega
theorem holds_eq (x:beat_cellar) (hx:goodB x.BeatCellar=true):beat_cellar_holds x=some (holdsL (wid x.BeatCellar) x.BeatCellar.Rates.length):=by
  simp only [goodB,sizesB,inB,Bool.and_eq_true,decide_eq_true_eq] at hx
  obtain ⟨⟨⟨⟨⟨⟨hh,hk⟩,hO⟩,hP⟩,hr⟩,hg⟩,hp⟩:=hx
  have hWi:wr (x.BeatCellar.Hours + 1)=(wid x.BeatCellar:Int):=by rw [wr_id' (by omega) (by omega)];simp only [wid];omega
  have hW2:wid x.BeatCellar≤13:=by simp only [wid];omega
  have inner:∀ (k:Nat) (out:List beat_bound),k≤100→out.length≤900→loopU (beat_cellar_holds_b2 x (k:Int)) (out,0)=nxt (out ++ holdsK k (wid x.BeatCellar),((k + 1:Nat):Int)):=by
    intro k out hk hout
    have h:=loopU_run0 (body:=beat_cellar_holds_b2 x (k:Int)) (fun i=>(out ++ holdsK k i,(i:Int))) (wid x.BeatCellar) (fun i hi=>by
      have hd:decide ((i:Int) < (wid x.BeatCellar:Int))=true:=by simp;omega
      have wi:wr ((i:Int) + 1)=((i + 1:Nat):Int):=wr_id' (by omega) (by omega)
      have hb:=both_eq ⟨(k:Int),(i:Int)⟩ ⟨-1,0⟩ ⟨-100000,100000⟩ (by decide)
      have hif:(out ++ holdsK k i).length + (bothL (beat_spot.mk (k:Int) (i:Int)) ⟨-1,0⟩ ⟨-100000,100000⟩).length≤1099511627776:=by
        rw [List.length_append,holdsK_len];simp only [bothL,List.length_cons,List.length_nil];omega
      simp only [beat_cellar_holds_b2,hWi,hd,cond_true,beat_truth,bind_s,hb,lim,hif,if_true,wi,holdsK_succ,List.append_assoc])
    simp only [holdsK,List.range_zero,List.flatMap_nil,List.append_nil,Int.natCast_zero] at h
    refine h.trans (loopU_ext ?_)
    have hd:decide ((wid x.BeatCellar:Int) < (wid x.BeatCellar:Int))=false:=by simp
    have wi:wr ((k:Int) + 1)=((k + 1:Nat):Int):=wr_id' (by omega) (by omega)
    simp only [beat_cellar_holds_b2,hWi,hd,cond_false,wi,holdsK]
  unfold beat_cellar_holds
  have h:=loopU_run0 (body:=beat_cellar_holds_b1 x) (fun i=>(holdsL (wid x.BeatCellar) i,(i:Int))) x.BeatCellar.Rates.length (fun i hi=>by
    have hd:decide ((i:Int) < (x.BeatCellar.Rates.length:Int))=true:=by simp;omega
    have hl:(holdsL (wid x.BeatCellar) i).length≤900:=by
      rw [holdsL_len]
      exact Nat.le_trans (Nat.mul_le_mul (show 2 * wid x.BeatCellar≤26 by omega) (show i≤5 by omega)) (by decide)
    simp only [beat_cellar_holds_b1,hd,cond_true]
    rw [inner i _ (by omega) hl,holdsL_succ])
  simp only [holdsL,List.range_zero,List.flatMap_nil,Int.natCast_zero] at h
  refine h.trans (loopU_ext ?_)
  have hd:decide ((x.BeatCellar.Rates.length:Int) < (x.BeatCellar.Rates.length:Int))=false:=by simp
  simp only [beat_cellar_holds_b1,hd,cond_false,holdsL]
def inSetB (s k:Int):Bool:=bitsOp .and (gshr s k) 1 == 1
def ofB (left:Int) (p:BeatPair):Bool:=inSetB left p.One || (decide (p.Other ≥ 0) && inSetB left p.Other)
theorem of_eq (c:beat_cellar) (p:BeatPair) (h:0≤p.One):beat_cellar_of c p=some (ofB c.left p):=by
  unfold beat_cellar_of
  rw [if_pos (by omega)]
  simp only [ofB,inSetB]
  by_cases ho:p.Other ≥ 0
  · have:¬ p.Other < 0:=by omega
    simp only [ho,decide_true,cond_true,this,not_false_eq_true,if_true,bind_s,Bool.true_and]
    cases (bitsOp .and (gshr c.left p.One) 1 == 1) <;> rfl
  · simp only [ho,decide_false,cond_false,bind_s,Bool.false_and]
    cases (bitsOp .and (gshr c.left p.One) 1 == 1) <;> rfl
def otherSpot (p:BeatPair) (h:Int):beat_spot:=if p.Other ≥ 0 then ⟨p.Other,h⟩ else ⟨-1,0⟩
def readsH (c:BeatCellar) (left:Int) (h:Int) (l:List BeatPair):List beat_bound:=(l.filter fun p=>p.Hour == h && !ofB left p).flatMap fun p=>bothL ⟨p.One,h⟩ (otherSpot p h) p.Read
def readsL (c:BeatCellar) (left:Int) (n:Nat):List beat_bound:=(List.range n).flatMap fun (h:Nat)=>readsH c left (h:Int) c.Pairs
theorem readsL_succ (c:BeatCellar) (left:Int) (n:Nat):readsL c left (n + 1)=readsL c left n ++ readsH c left (n:Int) c.Pairs:=by simp [readsL,List.range_succ,List.flatMap_append]
theorem readsH_len (c:BeatCellar) (left h:Int) (l:List BeatPair):(readsH c left h l).length≤2 * l.length:=by
  induction l with
  | nil=>simp [readsH]
  | cons p l ih=>
    simp only [readsH,List.filter_cons] at ih ⊢
    split
    · simp only [List.flatMap_cons,List.length_append,List.length_cons,bothL,List.length_nil] at ih ⊢;omega
    · simp only [List.length_cons];omega
theorem readsL_len (c:BeatCellar) (left:Int) (n:Nat):(readsL c left n).length≤2 * c.Pairs.length * n:=by
  induction n with
  | zero=>simp [readsL]
  | succ n ih=>rw [readsL_succ,List.length_append,Nat.mul_succ];have:=readsH_len c left (n:Int) c.Pairs;omega
theorem readsH_take (c:BeatCellar) (left h:Int) {l:List BeatPair} {i:Nat} (hi:i < l.length):
    readsH c left h (l.take (i + 1))=readsH c left h (l.take i) ++ (if (l[i].Hour == h && !ofB left l[i])=true then bothL ⟨l[i].One,h⟩ (otherSpot l[i] h) l[i].Read else []):=by
  simp only [readsH,filter_take hi,List.flatMap_append]
  split <;> simp
theorem reads_y2_eq (h:Int) (p:BeatPair) (l:List beat_bound) (hl:l.length≤10000) (hp:-9223372036854775807≤p.Read.Low∧p.Read.Low≤9223372036854775807):
    beat_cellar_reads_y2 h p l=some (l ++ bothL ⟨p.One,h⟩ (otherSpot p h) p.Read):=by
  have hif:∀ a b:beat_spot,l.length + (bothL a b p.Read).length≤lim:=fun a b=>by simp only [bothL,List.length_cons,List.length_nil,lim];omega
  have hb:=fun a b:beat_spot=>both_eq a b p.Read hp
  by_cases ho:p.Other ≥ 0
  · simp only [beat_cellar_reads_y2,beat_truth,bind_s,ho,decide_true,cond_true,beat_cellar_reads_k3,hb,hif,if_true,otherSpot]
  · simp only [beat_cellar_reads_y2,beat_truth,bind_s,ho,decide_false,cond_false,beat_cellar_reads_k3,hb,hif,if_true,otherSpot,if_false]
theorem pairs_1_eq (x:beat_cellar) (hx:goodB x.BeatCellar=true) (h:Int) (l:List beat_bound) (hl:l.length≤9000):
    beat_cellar_pairs_1 (beat_cellar_reads_y2 h) x h l=some (l ++ readsH x.BeatCellar x.left h x.BeatCellar.Pairs):=by
  simp only [goodB,sizesB,inB,Bool.and_eq_true,decide_eq_true_eq] at hx
  obtain ⟨⟨⟨⟨⟨⟨hh,hk⟩,hO⟩,hP⟩,hr⟩,hg⟩,hp⟩:=hx
  unfold beat_cellar_pairs_1
  have hrun:=loopU_run0 (body:=beat_cellar_pairs_1_b1 x h (beat_cellar_reads_y2 h)) (fun i=>((i:Int),l ++ readsH x.BeatCellar x.left h (x.BeatCellar.Pairs.take i))) x.BeatCellar.Pairs.length (fun i hi=>by
    have hd:decide ((i:Int) < (x.BeatCellar.Pairs.length:Int))=true:=by simp;omega
    have wi:wr ((i:Int) + 1)=((i + 1:Nat):Int):=wr_id' (by omega) (by omega)
    have hpi:=List.all_eq_true.1 hp _ (List.getElem_mem hi)
    simp only [pairB,spanB,inB,Bool.and_eq_true,decide_eq_true_eq] at hpi
    have hlen:(l ++ readsH x.BeatCellar x.left h (x.BeatCellar.Pairs.take i)).length≤10000:=by
      have:=readsH_len x.BeatCellar x.left h (x.BeatCellar.Pairs.take i)
      rw [List.length_take] at this
      rw [List.length_append];omega
    simp only [beat_cellar_pairs_1_b1,hd,cond_true,idx_get hi,bind_s,wi,of_eq x _ (by omega:0≤x.BeatCellar.Pairs[i].One)]
    rw [readsH_take _ _ _ hi]
    have hy:=reads_y2_eq h x.BeatCellar.Pairs[i] _ hlen (by omega)
    cases hc1:(x.BeatCellar.Pairs[i].Hour == h) <;> cases hc2:ofB x.left x.BeatCellar.Pairs[i] <;>
      simp only [cond_true,cond_false,bind_s,Bool.not_true,Bool.not_false,Bool.and_true,Bool.and_false,Bool.false_and,if_true,Bool.false_eq_true,if_false,List.append_nil,hy,List.append_assoc])
  simp only [List.take_zero,Int.natCast_zero,List.take_length] at hrun
  rw [show readsH x.BeatCellar x.left h []=[] from rfl,List.append_nil] at hrun
  refine hrun.trans (loopU_ext ?_)
  have hd:decide ((x.BeatCellar.Pairs.length:Int) < (x.BeatCellar.Pairs.length:Int))=false:=by simp
  simp only [beat_cellar_pairs_1_b1,hd,cond_false]
theorem reads_eq (x:beat_cellar) (hx:goodB x.BeatCellar=true):beat_cellar_reads x=some (readsL x.BeatCellar x.left (wid x.BeatCellar)):=by
  have hx':=hx
  simp only [goodB,sizesB,inB,Bool.and_eq_true,decide_eq_true_eq] at hx
  obtain ⟨⟨⟨⟨⟨⟨hh,hk⟩,hO⟩,hP⟩,hr⟩,hg⟩,hp⟩:=hx
  have hWi:wr (x.BeatCellar.Hours + 1)=(wid x.BeatCellar:Int):=by rw [wr_id' (by omega) (by omega)];simp only [wid];omega
  have hW2:wid x.BeatCellar≤13:=by simp only [wid];omega
  unfold beat_cellar_reads
  have hrun:=loopU_run0 (body:=beat_cellar_reads_b1 x) (fun i=>((i:Int),readsL x.BeatCellar x.left i)) (wid x.BeatCellar) (fun i hi=>by
    have hd:decide ((i:Int) < (wid x.BeatCellar:Int))=true:=by simp;omega
    have wi:wr ((i:Int) + 1)=((i + 1:Nat):Int):=wr_id' (by omega) (by omega)
    have hl:(readsL x.BeatCellar x.left i).length≤9000:=by
      have h1:=readsL_len x.BeatCellar x.left i
      have h2:2 * x.BeatCellar.Pairs.length * i≤28 * 13:=Nat.mul_le_mul (by omega) (by omega)
      omega
    simp only [beat_cellar_reads_b1,hWi,hd,cond_true,beat_cellar_pairs,bind_s,wi,pairs_1_eq x hx' _ _ hl,readsL_succ])
  simp only [Int.natCast_zero] at hrun
  rw [show readsL x.BeatCellar x.left 0=[] from rfl] at hrun
  refine hrun.trans (loopU_ext ?_)
  have hd:decide ((wid x.BeatCellar:Int) < (wid x.BeatCellar:Int))=false:=by simp
  simp only [beat_cellar_reads_b1,hWi,hd,cond_false]
end Go.Proofs.YtgdfljiliflhfaaGreatDoor.Rt.Bt
set_option linter.unusedVariables false
set_option linter.unusedSimpArgs false
set_option maxRecDepth 100000
set_option maxHeartbeats 4000000
namespace Go.Proofs.YtgdfljiliflhfaaGreatDoor.Rt.Bt
open Go Go.RowKit
structure Edge where
  of:Nat
  over:Nat
  cap:Int
def Feas (es:List Edge) (x:Nat→Int):Prop:=∀ e ∈ es,x e.of - x e.over≤e.cap
def InN (es:List Edge) (N:Nat):Prop:=∀ e ∈ es,e.of < N∧e.over < N
def Hub (F:(Nat→Int)→Prop) (N:Nat):Prop:=∀ x,F x→∀ v,v < N→x v - x 0≤100000∧x 0 - x v≤100000
theorem Hub.two {F:(Nat→Int)→Prop} {N:Nat} (h:Hub F N) {x:Nat→Int} (hx:F x) {a b:Nat} (ha:a < N) (hb:b < N):x a - x b≤200000:=by
  have h1:=h x hx a ha
  have h2:=h x hx b hb
  omega
def IsMost (F:(Nat→Int)→Prop) (a b:Nat) (v:Int):Prop:=(∃ x,F x∧x a - x b=v)∧∀ x,F x→x a - x b≤v
theorem int_max {P:Int→Prop} {b:Int} (hb:∀ n,P n→n≤b) (h:∃ n,P n):∃ m,P m∧∀ n,P n→n≤m:=by
  obtain ⟨n,hn⟩:=h
  have key:∀ (k:Nat) (n:Int),P n→(b - n).toNat≤k→∃ m,P m∧∀ n,P n→n≤m:=by
    intro k
    induction k with
    | zero=>
      intro n hn hk
      refine ⟨n,hn,fun m hm=>?_⟩
      have:=hb m hm
      have:=hb n hn
      omega
    | succ k ih=>
      intro n hn hk
      by_cases hx:∃ m,P m∧n < m
      · obtain ⟨m,hm,hlt⟩:=hx
        have:=hb m hm
        exact ih m hm (by omega)
      · refine ⟨n,hn,fun m hm=>?_⟩
        by_cases hlt:n < m
        · exact absurd ⟨m,hm,hlt⟩ hx
        · omega
  exact key _ n hn (Nat.le_refl _)
theorem IsMost.ex {F:(Nat→Int)→Prop} {N:Nat} (hub:Hub F N) (hf:∃ x,F x) {a b:Nat} (ha:a < N) (hb:b < N):∃ v,IsMost F a b v:=by
  obtain ⟨m,hm,hle⟩:=int_max (P:=fun v=>∃ x,F x∧x a - x b=v) (b:=200000) (by
    rintro n ⟨x,hx,rfl⟩;exact hub.two hx ha hb) (by obtain ⟨x,hx⟩:=hf;exact ⟨_,x,hx,rfl⟩)
  exact ⟨m,hm,fun x hx=>hle _ ⟨x,hx,rfl⟩⟩
theorem most_feas {es:List Edge} {N:Nat} (hin:InN es N) (hub:Hub (Feas es) N) (hf:∃ x,Feas es x) {b:Nat} (hb:b < N):
    ∃ M:Nat→Int,Feas es M∧M b=0∧∀ x,Feas es x→∀ v,v < N→x v - x b≤M v:=by
  have hex:∀ v,∃ m,v < N→IsMost (Feas es) v b m:=fun v=>by
    by_cases hv:v < N
    · obtain ⟨m,hm⟩:=IsMost.ex hub hf hv hb
      exact ⟨m,fun _=>hm⟩
    · exact ⟨0,fun h=>absurd h hv⟩
  refine ⟨fun v=>Classical.choose (hex v),?_,?_,?_⟩
  · intro e he
    obtain ⟨h1,h2⟩:=hin e he
    obtain ⟨⟨x,hx,e1⟩,-⟩:=Classical.choose_spec (hex e.of) h1
    have k2:=(Classical.choose_spec (hex e.over) h2).2 x hx
    have:=hx e he
    show Classical.choose (hex e.of) - Classical.choose (hex e.over)≤e.cap
    omega
  · obtain ⟨⟨x,hx,e1⟩,-⟩:=Classical.choose_spec (hex b) hb
    show Classical.choose (hex b)=0
    omega
  · intro x hx v hv
    exact (Classical.choose_spec (hex v) hv).2 x hx
def at_ (l:List Int) (v:Nat):Int:=l.getD v 0
def farI:Int:=1099511627776
def rel (l:List Int) (e:Edge):List Int:=if at_ l e.over=farI then l else l.set e.of (min (at_ l e.of) (at_ l e.over + e.cap))
def runs (es:List Edge):Nat→List Int→List Int × Bool
  | 0,l=>(l,false)
  | n + 1,l=>if es.foldl rel l=l then (l,true) else runs es n (es.foldl rel l)
theorem at_set {l:List Int} {i j:Nat} {v:Int} (hi:i < l.length):at_ (l.set i v) j=if i=j then v else at_ l j:=by
  unfold at_
  simp only [List.getD_eq_getElem?_getD,List.getElem?_set]
  by_cases h:i=j
  · subst h;simp [hi]
  · simp [h]
theorem at_get {l:List Int} {i:Nat} (hi:i < l.length):at_ l i=l[i]:=by simp [at_,hi]
theorem ext_at {l k:List Int} (hl:l.length=k.length) (h:∀ v,v < l.length→at_ l v=at_ k v):l=k:=by
  apply List.ext_getElem hl
  intro i h1 h2
  have:=h i h1
  rwa [at_get h1,at_get h2] at this
theorem rel_len (l:List Int) (e:Edge):(rel l e).length=l.length:=by unfold rel;split <;> simp
theorem rel_le {l:List Int} {e:Edge} (h:e.of < l.length) (v:Nat):at_ (rel l e) v≤at_ l v:=by
  unfold rel
  split
  · omega
  · rw [at_set h];split
    · next e=>subst e;omega
    · omega
theorem fold_len (es:List Edge):∀ (l:List Int),(es.foldl rel l).length=l.length:=by
  induction es with
  | nil=>intro l;rfl
  | cons e es ih=>intro l;rw [List.foldl_cons,ih,rel_len]
theorem InN.tail {e:Edge} {es:List Edge} {N:Nat} (h:InN (e::es) N):InN es N:=fun a ha=>h a (List.mem_cons_of_mem _ ha)
theorem fold_le {N:Nat} (es:List Edge) (hin:InN es N):∀ (l:List Int),N≤l.length→∀ v,at_ (es.foldl rel l) v≤at_ l v:=by
  induction es with
  | nil=>intro l _ v;exact Int.le_refl _
  | cons e es ih=>
    intro l hl v
    rw [List.foldl_cons]
    have h1:=ih hin.tail (rel l e) (by rw [rel_len];exact hl) v
    have h2:=rel_le (l:=l) (e:=e) (Nat.lt_of_lt_of_le (hin e (by simp)).1 hl) v
    omega
theorem fold_fix {N:Nat} (es:List Edge) (hin:InN es N):∀ (l:List Int),N≤l.length→es.foldl rel l=l→∀ e ∈ es,rel l e=l:=by
  induction es with
  | nil=>intro l _ _ e he;simp at he
  | cons e es ih=>
    intro l hl h f hf
    rw [List.foldl_cons] at h
    have hr:rel l e=l:=by
      refine ext_at (rel_len _ _) (fun v _=>?_)
      have h1:=fold_le es hin.tail (rel l e) (by rw [rel_len];exact hl) v
      have h2:=rel_le (l:=l) (e:=e) (Nat.lt_of_lt_of_le (hin e (by simp)).1 hl) v
      rw [h] at h1
      omega
    rcases List.mem_cons.1 hf with rfl | hf
    · exact hr
    · rw [hr] at h;exact ih hin.tail l hl h f hf
theorem rel_fix {l:List Int} {e:Edge} (h:e.of < l.length) (hr:rel l e=l):at_ l e.over=farI∨at_ l e.of≤at_ l e.over + e.cap:=by
  by_cases hf:at_ l e.over=farI
  · exact Or.inl hf
  · right
    have h1:at_ (rel l e) e.of=at_ l e.of:=by rw [hr]
    unfold rel at h1
    rw [if_neg hf,at_set h,if_pos rfl] at h1
    omega
def Snd (N b:Nat) (x:Nat→Int) (l:List Int):Prop:=∀ v,v < N→x v - x b≤at_ l v
theorem rel_snd {N b:Nat} {x:Nat→Int} {l:List Int} {e:Edge} (hl:N≤l.length) (h1:e.of < N) (h2:e.over < N) (hx:x e.of - x e.over≤e.cap) (hs:Snd N b x l):Snd N b x (rel l e):=by
  intro v hv
  have hv':=hs v hv
  unfold rel
  split
  · exact hv'
  · rw [at_set (by omega)]
    split
    · next e=>subst e;have:=hs _ h2;omega
    · exact hv'
theorem fold_snd {N b:Nat} {x:Nat→Int} (es:List Edge) (hin:InN es N) (hx:Feas es x):∀ (l:List Int),N≤l.length→Snd N b x l→Snd N b x (es.foldl rel l):=by
  induction es with
  | nil=>intro l _ h;exact h
  | cons e es ih=>
    intro l hl h
    rw [List.foldl_cons]
    exact ih hin.tail (fun a ha=>hx a (List.mem_cons_of_mem _ ha)) _ (by rw [rel_len];exact hl) (rel_snd hl (hin e (by simp)).1 (hin e (by simp)).2 (hx e (by simp)) h)
theorem runs_inv {es:List Edge} (P:List Int→Prop) (hp:∀ l,P l→P (es.foldl rel l)):∀ (n:Nat) (l:List Int),P l→P (runs es n l).1
  | 0,l,h=>h
  | n + 1,l,h=>by
    unfold runs
    split
    · exact h
    · exact runs_inv P hp n _ (hp _ h)
theorem runs_true {es:List Edge}:∀ (n:Nat) (l:List Int),(runs es n l).2=true→es.foldl rel (runs es n l).1=(runs es n l).1
  | 0,l,h=>by simp [runs] at h
  | n + 1,l,h=>by
    unfold runs at h ⊢
    split
    · next e=>exact e
    · next e=>rw [if_neg e] at h;exact runs_true n _ h
theorem runs_false_or {es:List Edge} {N b:Nat} (hin:InN es N) (hhub:∀ v,0 < v→v < N→(⟨v,0,100000⟩:Edge) ∈ es∧(⟨0,v,100000⟩:Edge) ∈ es) (hb:b < N) {n:Nat} {l0:List Int} (hl:N≤l0.length) (h0:at_ l0 b=0)
    (hs:∀ x,Feas es x→Snd N b x l0) (ht:(runs es n l0).2=true):
    Feas es (at_ (runs es n l0).1)∧at_ (runs es n l0).1 b=0∧∀ x,Feas es x→∀ v,v < N→x v - x b≤at_ (runs es n l0).1 v:=by
  have hP:=runs_inv (es:=es) (fun l=>N≤l.length∧at_ l b≤0∧∀ x,Feas es x→Snd N b x l) (fun l h=>by
    refine ⟨by rw [fold_len];exact h.1,?_,fun x hx=>fold_snd es hin hx l h.1 (h.2.2 x hx)⟩
    have:=fold_le es hin l h.1 b
    omega) n l0 ⟨hl,by omega,hs⟩
  have hfix:=fold_fix es hin _ hP.1 (runs_true n l0 ht)
  generalize runs es n l0=r at hP hfix
  obtain ⟨hlen,hb0,hsnd⟩:=hP
  have hcase:∀ e ∈ es,at_ r.1 e.over=farI∨at_ r.1 e.of≤at_ r.1 e.over + e.cap:=fun e he=>rel_fix (Nat.lt_of_lt_of_le (hin e he).1 hlen) (hfix e he)
  have hz:at_ r.1 0≤100000:=by
    by_cases h:b=0
    · subst h;omega
    · rcases hcase _ (hhub b (by omega) hb).2 with h | h
      · simp only [farI] at h;omega
      · simp only at h;omega
  have hall:∀ v,v < N→at_ r.1 v≤200000:=by
    intro v hv
    by_cases h:v=0
    · subst h;omega
    · rcases hcase _ (hhub v (by omega) hv).1 with h | h
      · simp only [farI] at h;omega
      · simp only at h;omega
  have hfe:Feas es (at_ r.1):=by
    intro e he
    rcases hcase e he with h | h
    · have:=hall _ (hin e he).2
      simp only [farI] at h;omega
    · omega
  refine ⟨hfe,?_,fun x hx=>hsnd x hx⟩
  have:=hsnd _ hfe b hb
  omega
theorem filter_grow {p q:Nat→Bool}:∀ (l:List Nat),(∀ v ∈ l,p v=true→q v=true)→(∃ v ∈ l,q v=true∧p v=false)→(l.filter p).length + 1≤(l.filter q).length
  | [],_,h=>by obtain ⟨v,hv,_⟩:=h;simp at hv
  | a::l,h,hx=>by
    have hle:∀ (l:List Nat),(∀ v ∈ l,p v=true→q v=true)→(l.filter p).length≤(l.filter q).length:=by
      intro l
      induction l with
      | nil=>intro _;simp
      | cons a l ih=>
        intro h
        have h1:=ih (fun v hv=>h v (List.mem_cons_of_mem _ hv))
        have h2:=h a (by simp)
        cases hp:p a <;> cases hq:q a <;> simp [List.filter_cons,hp,hq] <;> first | omega | (rw [hp,hq] at h2;simp at h2)
    have h2:=h a (by simp)
    have hl:=hle l (fun v hv=>h v (List.mem_cons_of_mem _ hv))
    obtain ⟨v,hv,h3,h4⟩:=hx
    rcases List.mem_cons.1 hv with rfl | hv
    · simp [List.filter_cons,h3,h4];omega
    · have h1:=filter_grow l (fun v hv=>h v (List.mem_cons_of_mem _ hv)) ⟨v,hv,h3,h4⟩
      cases hp:p a <;> cases hq:q a <;> simp [List.filter_cons,hp,hq] <;> first | omega | (rw [hp,hq] at h2;simp at h2)
theorem rel_tight {M:Nat→Int} {N b:Nat} {l:List Int} {e:Edge} (hl:N≤l.length) (h1:e.of < N) (h2:e.over < N) (hM:M e.of - M e.over≤e.cap) (hs:∀ v,v < N→M v≤at_ l v) (v:Nat) (hv:v < N) (he:at_ l v=M v):at_ (rel l e) v=M v:=by
  unfold rel
  split
  · exact he
  · rw [at_set (by omega)]
    split
    · next e'=>subst e';have:=hs _ h2;omega
    · exact he
theorem rel_same {M:Nat→Int} {N:Nat} {l:List Int} {e:Edge} (hl:N≤l.length) (h1:e.of < N) (h2:e.over < N) (hM:M e.of - M e.over≤e.cap) (he:∀ v,v < N→at_ l v=M v):rel l e=l:=by
  refine ext_at (rel_len _ _) (fun v hv=>?_)
  unfold rel
  split
  · rfl
  · rw [at_set (by omega)]
    split
    · next e'=>subst e';have:=he _ h1;have:=he _ h2;omega
    · rfl
theorem fold_same {M:Nat→Int} {N:Nat} {l:List Int} (hl:N≤l.length) (he:∀ v,v < N→at_ l v=M v):∀ (es:List Edge),InN es N→Feas es M→es.foldl rel l=l:=by
  intro es
  induction es with
  | nil=>intro _ _;rfl
  | cons e es ih=>
    intro hin hM
    rw [List.foldl_cons,rel_same hl (hin e (by simp)).1 (hin e (by simp)).2 (hM e (by simp)) he]
    exact ih hin.tail (fun a ha=>hM a (List.mem_cons_of_mem _ ha))
theorem fold_tight {M:Nat→Int} {N:Nat}:∀ (es:List Edge),InN es N→Feas es M→∀ (l:List Int),N≤l.length→(∀ v,v < N→M v≤at_ l v) →
    (∀ v,v < N→M v≤at_ (es.foldl rel l) v)∧(∀ v,v < N→at_ l v=M v→at_ (es.foldl rel l) v=M v) ∧
    ∀ e ∈ es,at_ l e.over=M e.over→M e.over < farI→M e.of=M e.over + e.cap→at_ (es.foldl rel l) e.of=M e.of:=by
  intro es
  induction es with
  | nil=>intro _ _ l _ h;exact ⟨h,fun v _ h=>h,fun e he=>by simp at he⟩
  | cons e es ih=>
    intro hin hM l hl hs
    obtain ⟨i1,i2⟩:=hin e (by simp)
    have hMe:=hM e (by simp)
    have hs':∀ v,v < N→M v≤at_ (rel l e) v:=by
      intro v hv
      have hv':=hs v hv
      unfold rel
      split
      · exact hv'
      · rw [at_set (by omega)]
        split
        · next e'=>subst e';have:=hs _ i2;omega
        · exact hv'
    have ht:∀ v,v < N→at_ l v=M v→at_ (rel l e) v=M v:=fun v hv h=>rel_tight (b:=0) hl i1 i2 hMe hs v hv h
    obtain ⟨j1,j2,j3⟩:=ih hin.tail (fun a ha=>hM a (List.mem_cons_of_mem _ ha)) (rel l e) (by rw [rel_len];exact hl) hs'
    rw [List.foldl_cons]
    refine ⟨j1,fun v hv h=>j2 v hv (ht v hv h),fun f hf h1 h2 h3=>?_⟩
    rcases List.mem_cons.1 hf with rfl | hf
    · refine j2 _ i1 ?_
      have hne:at_ l f.over ≠ farI:=by omega
      unfold rel
      rw [if_neg hne,at_set (by omega),if_pos rfl]
      have:=hs _ i1
      omega
    · exact j3 f hf (ht _ (hin f (List.mem_cons_of_mem _ hf)).2 h1) h2 h3
theorem runs_conv {es:List Edge} {N b:Nat} (hin:InN es N) (hub:Hub (Feas es) N) (hb:b < N) {M:Nat→Int} (hM:Feas es M) (hMb:M b=0) (hmax:∀ x,Feas es x→∀ v,v < N→x v - x b≤M v):
    ∀ (n:Nat) (l:List Int),N≤l.length→at_ l b=0→(∀ v,v < N→M v≤at_ l v)→N < ((List.range N).filter fun v=>at_ l v == M v).length + n→(runs es n l).2=true
  | 0,l,hl,h0,hs,hn=>by
    have:=List.length_filter_le (fun v=>at_ l v == M v) (List.range N)
    simp only [List.length_range] at this;omega
  | n + 1,l,hl,h0,hs,hn=>by
    unfold runs
    split
    · rfl
    · next hne=>
      obtain ⟨t1,t2,t3⟩:=fold_tight es hin hM l hl hs
      refine runs_conv hin hub hb hM hMb hmax n _ (by rw [fold_len];exact hl) ?_ t1 ?_
      · have:=t2 b hb (by omega);omega
      · have hg:=filter_grow (p:=fun v=>at_ l v == M v) (q:=fun v=>at_ (es.foldl rel l) v == M v) (List.range N)
          (fun v hv h=>by
            simp only [beq_iff_eq] at h ⊢
            exact t2 v (List.mem_range.1 hv) h) (by
            -- some node is not yet exact, else nothing would change
            by_cases hall:∀ v,v < N→at_ l v=M v
            · exact absurd (fold_same hl hall es hin hM) hne
            · by_cases hex:∃ e ∈ es,at_ l e.over=M e.over∧at_ l e.of ≠ M e.of∧M e.of=M e.over + e.cap
              · obtain ⟨e,he,h1,h2,h3⟩:=hex
                have hb2:=hub.two hM (hin e he).2 hb
                have:=t3 e he h1 (by simp only [farI];omega) h3
                exact ⟨e.of,List.mem_range.2 (hin e he).1,by simpa using this,by simpa using h2⟩
              · exfalso
                apply hall
                intro v hv
                refine Classical.byContradiction fun hvne=>?_
                have hy:Feas es (fun u=>M u + if at_ l u=M u then 0 else 1):=by
                  intro e he
                  have hMe:=hM e he
                  by_cases h1:at_ l e.over=M e.over
                  · by_cases h2:at_ l e.of=M e.of
                    · simp only [h1,h2,if_true];omega
                    · have h3:M e.of ≠ M e.over + e.cap:=fun h=>hex ⟨e,he,h1,h2,h⟩
                      simp only [h1,h2,if_true,if_false];omega
                  · simp only [h1,if_false];split <;> omega
                have:=hmax _ hy v hv
                simp only [hvne,if_false] at this
                have hbb:at_ l b=M b:=by omega
                simp only [hbb,if_true] at this
                omega)
        omega
def noOf (W:Nat) (s:beat_spot):Nat:=if s.clock < 0 then 0 else 1 + s.clock.toNat * W + s.hour.toNat
def cnt (c:BeatCellar):Nat:=1 + c.Rates.length * wid c
def OkSpot (c:BeatCellar) (s:beat_spot):Prop:=s=⟨-1,0⟩∨∃ k h:Nat,k < c.Rates.length∧h < wid c∧s=⟨(k:Int),(h:Int)⟩
theorem noOf_at (W k h:Nat):noOf W ⟨(k:Int),(h:Int)⟩=1 + k * W + h:=by
  unfold noOf
  have:¬ ((k:Int) < 0):=by omega
  simp only [this,if_false,Int.toNat_natCast]
theorem slot_lt {k K h W:Nat} (hk:k < K) (hh:h < W):1 + k * W + h < 1 + K * W:=by
  have:(k + 1) * W≤K * W:=Nat.mul_le_mul_right _ hk
  rw [Nat.succ_mul] at this;omega
theorem OkSpot.lt {c:BeatCellar} {s:beat_spot} (h:OkSpot c s):noOf (wid c) s < cnt c:=by
  rcases h with rfl | ⟨k,h,hk,hh,rfl⟩
  · simp [noOf,cnt];omega
  · rw [noOf_at];exact slot_lt hk hh
theorem OkSpot.get {c:BeatCellar} {s:beat_spot} (h:OkSpot c s):mget kl_99 (plN (wid c) (cnt c)) s=some (noOf (wid c) s:Int):=by
  have hW:0 < wid c:=by simp [wid]
  have hl:=h.lt
  rcases h with rfl | ⟨k,h,hk,hh,rfl⟩
  · have:=mget_plN hW (n:=cnt c) (m:=0) (by simp only [cnt];omega)
    simpa [noOf,spotOf] using this
  · rw [noOf_at] at hl ⊢
    have:=mget_plN hW hl
    rwa [spotOf_at hh] at this
structure OkC (c:BeatCellar):Prop where
  h1:1≤c.Hours
  h2:c.Hours≤12
  k1:1≤c.Rates.length
  k2:c.Rates.length≤5
  o2:c.Opens.length≤6
  p2:c.Pairs.length≤14
theorem OkC.of {c:BeatCellar} (h:goodB c=true):OkC c:=by
  simp only [goodB,sizesB,inB,Bool.and_eq_true,decide_eq_true_eq] at h
  obtain ⟨⟨⟨⟨⟨⟨hh,hk⟩,hO⟩,hP⟩,hr⟩,hg⟩,hp⟩:=h
  exact ⟨hh.1,hh.2,by omega,by omega,by omega,by omega⟩
theorem OkC.w {c:BeatCellar} (h:OkC c):wid c≤13∧2≤wid c∧(wid c:Int)=c.Hours + 1:=by
  have:=h.h1
  have:=h.h2
  simp only [wid];omega
theorem OkC.n {c:BeatCellar} (h:OkC c):cnt c≤66:=by
  have:=h.w
  have:=Nat.mul_le_mul h.k2 h.w.1
  simp only [cnt];omega
def edgeOf (W:Nat) (b:beat_bound):Edge:=⟨noOf W b.of_,noOf W b.over,b.by_⟩
def allB (c:BeatCellar) (left:Int):List beat_bound:=growsL c c.Rates.length ++ readsL c left (wid c) ++ holdsL (wid c) c.Rates.length
def allE (c:BeatCellar) (left:Int):List Edge:=(allB c left).map (edgeOf (wid c))
theorem allB_len {c:BeatCellar} (h:OkC c) (left:Int):(allB c left).length≤614:=by
  have:=h.w
  have:=h.h1
  have:=h.h2
  have h1:=growsL_len c c.Rates.length
  have h2:=readsL_len c left (wid c)
  have h3:=holdsL_len (wid c) c.Rates.length
  have m1:=Nat.mul_le_mul (show 2 * c.Hours.toNat≤24 by omega) h.k2
  have m2:=Nat.mul_le_mul (show 2 * c.Pairs.length≤28 by have:=h.p2;omega) h.w.1
  have m3:=Nat.mul_le_mul (show 2 * wid c≤26 by omega) h.k2
  simp only [allB,List.length_append]
  omega
structure OkB (c:BeatCellar) (b:beat_bound):Prop where
  sa:OkSpot c b.of_
  sb:OkSpot c b.over
  lo:-1000000≤b.by_
  hi:b.by_≤1000000
theorem okB_both {c:BeatCellar} {a b:beat_spot} {s:Span} (ha:OkSpot c a) (hb:OkSpot c b) (h1:-1000000≤s.Low) (h2:s.Low≤s.High) (h3:s.High≤1000000):∀ x ∈ bothL a b s,OkB c x:=by
  intro x hx
  simp only [bothL,List.mem_cons,List.not_mem_nil,or_false] at hx
  rcases hx with rfl | rfl
  · exact ⟨ha,hb,by simp only;omega,by simp only;omega⟩
  · exact ⟨hb,ha,by simp only;omega,by simp only;omega⟩
theorem sum_le_sum {l:List BeatOpen} (h:∀ o ∈ l,o.Step.Low≤o.Step.High):(l.map (·.Step.Low)).sum≤(l.map (·.Step.High)).sum:=by
  induction l with
  | nil=>simp
  | cons o l ih=>
    have h1:=h o (by simp)
    have h2:=ih (fun q hq=>h q (List.mem_cons_of_mem _ hq))
    simp only [List.map_cons,List.sum_cons];omega
theorem growsSpan_ok {c:BeatCellar} (hx:goodB c=true) {k:Nat} (hk:k < c.Rates.length) (h:Int):
    -1000000≤(growsSpan c (c.Rates.getD k ⟨0,0⟩) k h).Low∧(growsSpan c (c.Rates.getD k ⟨0,0⟩) k h).Low≤(growsSpan c (c.Rates.getD k ⟨0,0⟩) k h).High∧(growsSpan c (c.Rates.getD k ⟨0,0⟩) k h).High≤1000000:=by
  have hc:=OkC.of hx
  simp only [goodB,Bool.and_eq_true] at hx
  obtain ⟨⟨⟨_,hr⟩,hg⟩,hp⟩:=hx
  have hri:rateB c.Rates[k]=true:=List.all_eq_true.1 hr _ (List.getElem_mem hk)
  have e:c.Rates.getD k ⟨0,0⟩=c.Rates[k]:=by simp [List.getD,hk]
  rw [e]
  simp only [rateB,spanB,Bool.and_eq_true,decide_eq_true_eq] at hri
  have hb:=opensAt_bound hg (k:Int) h
  have hlen:(opensAt c k h).length≤6:=by
    have:=List.length_filter_le (fun o:BeatOpen=>o.Clock == (k:Int) && o.Hour == h) c.Opens
    have:=hc.o2
    simp only [opensAt];omega
  have s1:=sum_bound (l:=(opensAt c k h).map (·.Step.Low)) (B:=100000) (by decide) (fun n hn=>by
    obtain ⟨o,ho,rfl⟩:=List.mem_map.1 hn;exact (hb o ho).1)
  have s2:=sum_bound (l:=(opensAt c k h).map (·.Step.High)) (B:=100000) (by decide) (fun n hn=>by
    obtain ⟨o,ho,rfl⟩:=List.mem_map.1 hn;exact (hb o ho).2)
  have s3:=sum_le_sum (l:=opensAt c k h) (fun o ho=>by
    have:=List.all_eq_true.1 hg o ((List.mem_filter.1 ho).1)
    simp only [openB,spanB,inB,Bool.and_eq_true,decide_eq_true_eq] at this
    omega)
  simp only [List.length_map] at s1 s2
  simp only [growsSpan]
  omega
theorem allB_ok {c:BeatCellar} (hx:goodB c=true) (left:Int):∀ b ∈ allB c left,OkB c b:=by
  intro b hb
  have hc:=OkC.of hx
  have hw:=hc.w
  have hh1:=hc.h1
  simp only [allB,List.mem_append] at hb
  rcases hb with (hb | hb) | hb
  · simp only [growsL,growsK,List.mem_flatMap,List.mem_range] at hb
    obtain ⟨k,hk,h,hh,hb⟩:=hb
    have hg:=growsSpan_ok hx hk (h:Int)
    exact okB_both (.inr ⟨k,h + 1,hk,by simp only [wid];omega,rfl⟩) (.inr ⟨k,h,hk,by simp only [wid];omega,rfl⟩) hg.1 hg.2.1 hg.2.2 b hb
  · simp only [readsL,readsH,List.mem_flatMap,List.mem_range,List.mem_filter] at hb
    obtain ⟨h,hh,p,⟨hp,_⟩,hb⟩:=hb
    simp only [goodB,Bool.and_eq_true] at hx
    have hpi:=List.all_eq_true.1 hx.2 p hp
    simp only [pairB,spanB,inB,Bool.and_eq_true,decide_eq_true_eq] at hpi
    refine okB_both (.inr ⟨p.One.toNat,h,by omega,hh,?_⟩) ?_ (by omega) (by omega) (by omega) b hb
    · rw [Int.toNat_of_nonneg (by omega)]
    · unfold otherSpot
      split
      · exact .inr ⟨p.Other.toNat,h,by omega,hh,by rw [Int.toNat_of_nonneg (by omega)]⟩
      · exact .inl rfl
  · simp only [holdsL,holdsK,List.mem_flatMap,List.mem_range] at hb
    obtain ⟨k,hk,h,hh,hb⟩:=hb
    exact okB_both (.inr ⟨k,h,hk,hh,rfl⟩) (.inl rfl) (by decide) (by decide) (by decide) b hb
theorem allE_in {c:BeatCellar} (hx:goodB c=true) (left:Int):InN (allE c left) (cnt c):=by
  intro e he
  obtain ⟨b,hb,rfl⟩:=List.mem_map.1 he
  have:=allB_ok hx left b hb
  exact ⟨this.sa.lt,this.sb.lt⟩
def LB (l:List Int) (b:Int):Prop:=∀ v,b≤at_ l v∧at_ l v≤farI
theorem rel_LB {l:List Int} {e:Edge} {b:Int} (hb:b≤0) (h:LB l b) (he:e.of < l.length) (h1:-1000000≤e.cap) (h2:e.cap≤1000000):LB (rel l e) (b - 1000000):=by
  intro v
  have hv:=h v
  have ho:=h e.over
  unfold rel
  split
  · omega
  · rw [at_set he]
    split
    · next e'=>subst e';omega
    · omega
theorem min_if (x s:Int):(if s < x then s else x)=min x s:=by
  rw [Int.min_def];split <;> split <;> omega
theorem above_b4_eq (c:BeatCellar) (left:Int) (all:List beat_bound) (hn:cnt c≤66) (hok:∀ b ∈ all,OkB c b) (hlen:all.length≤614) (v5:Bool) (r:Int) (l l2:List Int) (hl:l.length=66) (b:Int) (hb0:b≤0) (hb1:-1000000000000≤b) (hl0:LB l b):
    loopU (beat_cellar_above_b4 ⟨c,left,plN (wid c) (cnt c)⟩ all v5 r l l2) (0,l) =
      cond ((all.map (edgeOf (wid c))).foldl rel l == l) (ext (some ((all.map (edgeOf (wid c))).foldl rel l,true))) (nxt (v5,wr (r + 1),(all.map (edgeOf (wid c))).foldl rel l,l2)) ∧
    LB ((all.map (edgeOf (wid c))).foldl rel l) (b - 614000000):=by
  have hst:∀ i,i≤all.length→(((all.take i).map (edgeOf (wid c))).foldl rel l).length=66∧LB (((all.take i).map (edgeOf (wid c))).foldl rel l) (b - 1000000 * i):=by
    intro i
    induction i with
    | zero=>intro _;exact ⟨hl,by simpa using hl0⟩
    | succ i ih=>
      intro hi
      obtain ⟨h1,h2⟩:=ih (by omega)
      have hi':i < all.length:=by omega
      rw [List.take_succ_eq_append_getElem hi',List.map_append,List.foldl_append]
      have hbo:=hok _ (List.getElem_mem hi')
      refine ⟨by simp only [List.map_cons,List.map_nil,List.foldl_cons,List.foldl_nil,rel_len];exact h1,?_⟩
      have:=rel_LB (e:=edgeOf (wid c) all[i]) (by omega) h2 (by rw [h1];exact Nat.lt_of_lt_of_le hbo.sa.lt hn) hbo.lo hbo.hi
      simp only [List.map_cons,List.map_nil,List.foldl_cons,List.foldl_nil]
      rw [show b - 1000000 * ((i + 1:Nat):Int)=b - 1000000 * (i:Int) - 1000000 by omega]
      exact this
  have hrun:=loopU_run0 (body:=beat_cellar_above_b4 ⟨c,left,plN (wid c) (cnt c)⟩ all v5 r l l2) (fun i=>((i:Int),((all.take i).map (edgeOf (wid c))).foldl rel l)) all.length (fun i hi=>by
    obtain ⟨h1,h2⟩:=hst i (by omega)
    have hd:decide ((i:Int) < (all.length:Int))=true:=by simp;omega
    have wi:wr ((i:Int) + 1)=((i + 1:Nat):Int):=wr_id' (by omega) (by omega)
    have hbo:=hok _ (List.getElem_mem hi)
    have g1:=hbo.sa.get
    have g2:=hbo.sb.get
    have n1:=hbo.sa.lt
    have n2:=hbo.sb.lt
    have b1:=hbo.lo
    have b2:=hbo.hi
    have m1:(0:Int)≤(noOf (wid c) all[i].of_:Int)∧(noOf (wid c) all[i].of_:Int) < ((66:Nat):Int):=by omega
    have m2:(0:Int)≤(noOf (wid c) all[i].over:Int)∧(noOf (wid c) all[i].over:Int) < ((66:Nat):Int):=by omega
    simp only [beat_cellar_above_b4,hd,cond_true,idx_get hi,bind_s,g1,g2,Option.getD_some,m1,m2,and_self,if_true,Int.toNat_natCast]
    rw [List.take_succ_eq_append_getElem hi,List.map_append,List.foldl_append]
    simp only [List.map_cons,List.map_nil,List.foldl_cons,List.foldl_nil]
    generalize ((all.take i).map (edgeOf (wid c))).foldl rel l=q at h1 h2
    have hov:=h2 (noOf (wid c) all[i].over)
    simp only [at_,farI] at hov
    simp only [rel,edgeOf,at_,farI,beat_cellar_above_k5,wi]
    by_cases hf:q.getD (noOf (wid c) all[i].over) 0=1099511627776
    · simp only [hf,beq_self_eq_true,cond_true,if_true]
    · have hf':(q.getD (noOf (wid c) all[i].over) 0 == 1099511627776)=false:=by simpa using hf
      simp only [hf',cond_false,hf,if_false]
      rw [wr_id' (by omega) (by omega),min_if])
  simp only [List.take_zero,List.map_nil,List.foldl_nil,Int.natCast_zero,List.take_length] at hrun
  refine ⟨hrun.trans (loopU_ext ?_),?_⟩
  · have hd:decide ((all.length:Int) < (all.length:Int))=false:=by simp
    simp only [beat_cellar_above_b4,hd,cond_false]
  · obtain ⟨h1,h2⟩:=hst all.length (Nat.le_refl _)
    rw [List.take_length] at h2
    intro v
    have:=h2 v
    omega
theorem above_b3_eq (c:BeatCellar) (left:Int) (all:List beat_bound) (hn:cnt c≤66) (hok:∀ b ∈ all,OkB c b) (hlen:all.length≤614):∀ (n r:Nat) (v5:Bool) (l l2:List Int),r + n=cnt c + 1→l.length=66→LB l (-(614000000 * r)) →
    loopU (beat_cellar_above_b3 ⟨c,left,plN (wid c) (cnt c)⟩ all) (v5,(r:Int),l,l2)=some (runs (all.map (edgeOf (wid c))) n l):=by
  intro n
  have hw:wr (((plN (wid c) (cnt c)).length:Int) + 1)=(cnt c:Int) + 1:=by rw [plN_len,wr_id' (by omega) (by omega)]
  induction n with
  | zero=>
    intro r v5 l l2 hr hl hb
    refine loopU_ext ?_
    have hd:decide ((r:Int) < (cnt c:Int) + 1)=false:=by simp;omega
    simp only [beat_cellar_above_b3,hw,hd,cond_false,runs]
  | succ n ih=>
    intro r v5 l l2 hr hl hb
    have hd:decide ((r:Int) < (cnt c:Int) + 1)=true:=by simp;omega
    have wi:wr ((r:Int) + 1)=((r + 1:Nat):Int):=wr_id' (by omega) (by omega)
    obtain ⟨e1,e2⟩:=above_b4_eq c left all hn hok hlen v5 (r:Int) l l2 hl (-(614000000 * r)) (by omega) (by omega) hb
    unfold runs
    by_cases he:(all.map (edgeOf (wid c))).foldl rel l=l
    · rw [if_pos he]
      refine loopU_ext ?_
      simp only [beat_cellar_above_b3,hw,hd,cond_true,e1]
      rw [he];simp
    · rw [if_neg he]
      have hb':((all.map (edgeOf (wid c))).foldl rel l == l)=false:=by simpa using he
      rw [loopU_nxt (s':=(v5,((r + 1:Nat):Int),(all.map (edgeOf (wid c))).foldl rel l,l2)) (by
        simp only [beat_cellar_above_b3,hw,hd,cond_true,e1,hb',cond_false,wi])]
      refine ih (r + 1) v5 _ l2 (by omega) (by rw [fold_len];exact hl) ?_
      intro v
      have:=e2 v
      omega
def startL (n:Nat):List Int:=(List.replicate 66 farI).set n 0
theorem rep_step {a b:Int} {n i:Nat} (h:i < n):(List.replicate i a ++ List.replicate (n - i) b).set i a=List.replicate (i + 1) a ++ List.replicate (n - (i + 1)) b:=by
  have e:n - i=(n - (i + 1)) + 1:=by omega
  rw [e,List.replicate_succ,List.set_append_right _ _ (by simp)]
  simp [List.replicate_succ',List.append_assoc]
theorem above_eq (c:BeatCellar) (hx:goodB c=true) (left:Int) (s:beat_spot) (hs:OkSpot c s):
    beat_cellar_above ⟨c,left,plN (wid c) (cnt c)⟩ s=some (runs (allE c left) (cnt c + 1) (startL (noOf (wid c) s))):=by
  have hc:=OkC.of hx
  have hn:=hc.n
  unfold beat_cellar_above
  have hrun:=loopU_run0 (body:=beat_cellar_above_b1 ⟨c,left,plN (wid c) (cnt c)⟩ s) (fun i=>((i:Int),List.replicate i farI ++ List.replicate (66 - i) (0:Int))) 66 (fun i hi=>by
    have hd:decide ((i:Int) < 66)=true:=by simp;omega
    have wi:wr ((i:Int) + 1)=((i + 1:Nat):Int):=wr_id' (by omega) (by omega)
    have m:(0:Int)≤(i:Int)∧(i:Int) < ((66:Nat):Int):=by omega
    simp only [beat_cellar_above_b1,hd,cond_true,m,and_self,if_true,Int.toNat_natCast,wi]
    rw [← rep_step hi];rfl)
  simp only [List.replicate_zero,List.nil_append,Nat.sub_zero,Nat.sub_self,List.append_nil,Int.natCast_zero] at hrun
  refine hrun.trans (loopU_ext ?_)
  have g:=hs.get
  have n1:=hs.lt
  have m1:(0:Int)≤(noOf (wid c) s:Int)∧(noOf (wid c) s:Int) < ((66:Nat):Int):=by omega
  have hd:decide (((66:Nat):Int) < 66)=false:=by decide
  simp only [beat_cellar_above_b1,hd,cond_false,g,Option.getD_some,m1,and_self,if_true]
  congr 1
  -- the three kinds of bounds
  have t0:tabf_0 0 ⟨c,left,plN (wid c) (cnt c)⟩=some (growsL c c.Rates.length):=grows_eq ⟨c,left,plN (wid c) (cnt c)⟩ hx
  have t1:tabf_0 1 ⟨c,left,plN (wid c) (cnt c)⟩=some (readsL c left (wid c)):=reads_eq ⟨c,left,plN (wid c) (cnt c)⟩ hx
  have t2:tabf_0 2 ⟨c,left,plN (wid c) (cnt c)⟩=some (holdsL (wid c) c.Rates.length):=holds_eq ⟨c,left,plN (wid c) (cnt c)⟩ hx
  have hlen:=allB_len hc left
  simp only [allB,List.length_append] at hlen
  have w0:wr (0 + 1)=1:=by decide
  have w1:wr (1 + 1)=2:=by decide
  have w2:wr (2 + 1)=3:=by decide
  have d0:decide ((0:Int) < 3)=true:=by decide
  have d1:decide ((1:Int) < 3)=true:=by decide
  have d2:decide ((2:Int) < 3)=true:=by decide
  have d3:decide ((3:Int) < 3)=false:=by decide
  rw [loopU_nxt (s':=(growsL c c.Rates.length,1)) (by
    simp only [beat_cellar_above_b2,d0,cond_true,t0,bind_s,w0,List.nil_append,List.length_nil]
    rw [if_pos (by decide),if_pos (by simp only [lim];omega)])]
  rw [loopU_nxt (s':=(growsL c c.Rates.length ++ readsL c left (wid c),2)) (by
    simp only [beat_cellar_above_b2,d1,cond_true,t1,bind_s,w1]
    rw [if_pos (by decide),if_pos (by simp only [lim];omega)])]
  rw [loopU_nxt (s':=(allB c left,3)) (by
    simp only [beat_cellar_above_b2,d2,cond_true,t2,bind_s,w2,List.length_append]
    rw [if_pos (by decide),if_pos (by simp only [lim];omega)];rfl)]
  refine loopU_ext ?_
  simp only [beat_cellar_above_b2,d3,cond_false,g,Option.getD_some,Int.toNat_natCast]
  congr 1
  refine above_b3_eq c left (allB c left) hn (allB_ok hx left) (allB_len hc left) (cnt c + 1) 0 false _ _ (by omega) (by simp) ?_
  intro v
  rw [at_set (by simp;omega)]
  split
  · simp [farI]
  · have:at_ (List.replicate 66 farI) v=if v < 66 then farI else 0:=by
      unfold at_
      rw [List.getD_eq_getElem?_getD,List.getElem?_replicate]
      split <;> rfl
    rw [this];split <;> simp [farI]
structure Fits (c:BeatCellar) (left:Int) (y:Int→Int→Int) (z:Int):Prop where
  g:∀ k:Nat,k < c.Rates.length→∀ h:Nat,(h:Int) < c.Hours→(growsSpan c (c.Rates.getD k ⟨0,0⟩) k h).Low≤y k (h + 1) - y k h∧y k (h + 1) - y k h≤(growsSpan c (c.Rates.getD k ⟨0,0⟩) k h).High
  r:∀ p ∈ c.Pairs,ofB left p=false→p.Read.Low≤y p.One p.Hour - (if p.Other ≥ 0 then y p.Other p.Hour else z)∧y p.One p.Hour - (if p.Other ≥ 0 then y p.Other p.Hour else z)≤p.Read.High
  b:∀ k:Nat,k < c.Rates.length→∀ h:Nat,(h:Int)≤c.Hours→-100000≤y k h - z∧y k h - z≤100000
def nd (c:BeatCellar) (k h:Int):Nat:=1 + k.toNat * wid c + h.toNat
def F (c:BeatCellar) (left:Int) (x:Nat→Int):Prop:=Fits c left (fun k h=>x (nd c k h)) (x 0)
def Can (c:BeatCellar) (left:Int):Prop:=∃ x,F c left x
theorem noOf_nd (c:BeatCellar) {k h:Int} (hk:0≤k):noOf (wid c) ⟨k,h⟩=nd c k h:=by
  unfold noOf nd
  rw [if_neg (by simp only;omega)]
theorem noOf_t (W:Nat):noOf W ⟨-1,0⟩=0:=by simp [noOf]
theorem both_iff {W:Nat} {x:Nat→Int} {a b:beat_spot} {s:Span}:(∀ e ∈ bothL a b s,x (noOf W e.of_) - x (noOf W e.over)≤e.by_) ↔ s.Low≤x (noOf W a) - x (noOf W b)∧x (noOf W a) - x (noOf W b)≤s.High:=by
  simp only [bothL,List.mem_cons,List.not_mem_nil,or_false,forall_eq_or_imp,forall_eq]
  omega
theorem feas_iff {c:BeatCellar} (hx:goodB c=true) (left:Int) (x:Nat→Int):Feas (allE c left) x ↔ F c left x:=by
  have hc:=OkC.of hx
  have hw:=hc.w
  have hh1:=hc.h1
  have e0:Feas (allE c left) x ↔ ∀ b ∈ allB c left,x (noOf (wid c) b.of_) - x (noOf (wid c) b.over)≤b.by_:=by
    constructor
    · intro h b hb;exact h _ (List.mem_map_of_mem hb)
    · intro h e he
      obtain ⟨b,hb,rfl⟩:=List.mem_map.1 he
      exact h b hb
  rw [e0]
  have hpair:∀ p ∈ c.Pairs,0≤p.One∧0≤p.Hour∧p.Hour≤c.Hours:=by
    intro p hp
    simp only [goodB,Bool.and_eq_true] at hx
    have hpi:=List.all_eq_true.1 hx.2 p hp
    simp only [pairB,spanB,inB,Bool.and_eq_true,decide_eq_true_eq] at hpi
    omega
  constructor
  · intro h
    refine ⟨fun k hk j hj=>?_,fun p hp hl=>?_,fun k hk j hj=>?_⟩
    · have:=both_iff.1 (fun e he=>h e (by
        simp only [allB,List.mem_append]
        refine Or.inl (Or.inl ?_)
        simp only [growsL,growsK,List.mem_flatMap,List.mem_range]
        exact ⟨k,hk,j,by omega,he⟩):∀ e ∈ bothL ⟨(k:Int),((j + 1:Nat):Int)⟩ ⟨(k:Int),(j:Int)⟩ (growsSpan c (c.Rates.getD k ⟨0,0⟩) k (j:Int)),_)
      rw [noOf_nd c (by omega),noOf_nd c (by omega)] at this
      simpa using this
    · obtain ⟨h1,h2,h3⟩:=hpair p hp
      have:=both_iff.1 (fun e he=>h e (by
        simp only [allB,List.mem_append]
        refine Or.inl (Or.inr ?_)
        simp only [readsL,readsH,List.mem_flatMap,List.mem_range,List.mem_filter]
        exact ⟨p.Hour.toNat,by omega,p,⟨hp,by rw [hl,Int.toNat_of_nonneg h2];simp⟩,he⟩):∀ e ∈ bothL ⟨p.One,((p.Hour.toNat:Nat):Int)⟩ (otherSpot p ((p.Hour.toNat:Nat):Int)) p.Read,_)
      rw [Int.toNat_of_nonneg h2,noOf_nd c h1] at this
      unfold otherSpot at this
      by_cases ho:p.Other ≥ 0
      · rw [if_pos ho,noOf_nd c ho] at this
        rw [if_pos ho];exact this
      · rw [if_neg ho,noOf_t] at this
        rw [if_neg ho];exact this
    · have:=both_iff.1 (fun e he=>h e (by
        simp only [allB,List.mem_append]
        refine Or.inr ?_
        simp only [holdsL,holdsK,List.mem_flatMap,List.mem_range]
        exact ⟨k,hk,j,by omega,he⟩):∀ e ∈ bothL ⟨(k:Int),(j:Int)⟩ ⟨-1,0⟩ ⟨-100000,100000⟩,_)
      rw [noOf_nd c (by omega),noOf_t] at this
      exact this
  · intro h b hb
    simp only [allB,List.mem_append] at hb
    rcases hb with (hb | hb) | hb
    · simp only [growsL,growsK,List.mem_flatMap,List.mem_range] at hb
      obtain ⟨k,hk,j,hj,hb⟩:=hb
      refine both_iff.2 ?_ b hb
      rw [noOf_nd c (by omega),noOf_nd c (by omega)]
      have:=h.g k hk j (by omega)
      simpa using this
    · simp only [readsL,readsH,List.mem_flatMap,List.mem_range,List.mem_filter,Bool.and_eq_true,beq_iff_eq,Bool.not_eq_true'] at hb
      obtain ⟨j,hj,p,⟨hp,hpj,hl⟩,hb⟩:=hb
      obtain ⟨h1,h2,h3⟩:=hpair p hp
      refine both_iff.2 ?_ b hb
      rw [← hpj,noOf_nd c h1]
      have:=h.r p hp hl
      unfold otherSpot
      by_cases ho:p.Other ≥ 0
      · rw [if_pos ho,noOf_nd c ho]
        rw [if_pos ho] at this;exact this
      · rw [if_neg ho,noOf_t]
        rw [if_neg ho] at this;exact this
    · simp only [holdsL,holdsK,List.mem_flatMap,List.mem_range] at hb
      obtain ⟨k,hk,j,hj,hb⟩:=hb
      refine both_iff.2 ?_ b hb
      rw [noOf_nd c (by omega),noOf_t]
      exact h.b k hk j (by omega)
theorem node_cases {c:BeatCellar} {v:Nat} (h0:0 < v) (hv:v < cnt c):∃ k h:Nat,k < c.Rates.length∧h < wid c∧v=1 + k * wid c + h:=by
  have hW:0 < wid c:=by simp [wid]
  refine ⟨(v - 1) / wid c,(v - 1) % wid c,?_,Nat.mod_lt _ hW,?_⟩
  · rw [Nat.div_lt_iff_lt_mul hW]
    simp only [cnt] at hv;omega
  · have:=Nat.div_add_mod (v - 1) (wid c)
    rw [Nat.mul_comm] at this
    omega
theorem F_hub (c:BeatCellar) (hH:0≤c.Hours) (left:Int):Hub (F c left) (cnt c):=by
  intro x hx v hv
  by_cases h0:v=0
  · subst h0;omega
  · obtain ⟨k,h,hk,hh,rfl⟩:=node_cases (by omega) hv
    have:=hx.b k hk h (by simp only [wid] at hh;omega)
    simp only [nd,Int.toNat_natCast] at this
    omega
theorem hub_edges (c:BeatCellar) (left:Int):∀ v,0 < v→v < cnt c→(⟨v,0,100000⟩:Edge) ∈ allE c left∧(⟨0,v,100000⟩:Edge) ∈ allE c left:=by
  intro v h0 hv
  obtain ⟨k,h,hk,hh,rfl⟩:=node_cases h0 hv
  have key:∀ b ∈ bothL ⟨(k:Int),(h:Int)⟩ ⟨-1,0⟩ ⟨-100000,100000⟩,edgeOf (wid c) b ∈ allE c left:=fun b hb=>List.mem_map_of_mem (by
    simp only [allB,List.mem_append]
    refine Or.inr ?_
    simp only [holdsL,holdsK,List.mem_flatMap,List.mem_range]
    exact ⟨k,hk,h,hh,hb⟩)
  have k1:=key ⟨⟨(k:Int),(h:Int)⟩,⟨-1,0⟩,100000⟩ (by simp [bothL])
  have k2:=key ⟨⟨-1,0⟩,⟨(k:Int),(h:Int)⟩,100000⟩ (by simp [bothL])
  simp only [edgeOf,noOf_at,noOf_t] at k1 k2
  exact ⟨k1,k2⟩
def run1 (c:BeatCellar) (left:Int) (b:Nat):List Int × Bool:=runs (allE c left) (cnt c + 1) (startL b)
def canB (c:BeatCellar) (left:Int):Bool:=(run1 c left 0).2
def mx (c:BeatCellar) (left:Int) (a b:Nat):Int:=at_ (run1 c left b).1 a
def told (c:BeatCellar) (left:Int) (a b:Nat):Span:=⟨-mx c left b a,mx c left a b⟩
theorem at_rep {n v:Nat} {a:Int} (h:v < n):at_ (List.replicate n a) v=a:=by
  unfold at_;rw [List.getD_eq_getElem?_getD,List.getElem?_replicate,if_pos h];rfl
theorem startL_len (b:Nat):(startL b).length=66:=by simp [startL]
theorem startL_at {b v:Nat} (hb:b < 66) (hv:v < 66):at_ (startL b) v=if b=v then 0 else farI:=by
  unfold startL
  rw [at_set (by simpa using hb),at_rep hv]
theorem startL_snd {c:BeatCellar} (hx:goodB c=true) (left:Int) {b:Nat} (hb:b < cnt c):∀ x,Feas (allE c left) x→Snd (cnt c) b x (startL b):=by
  intro x hf v hv
  have hc:=OkC.of hx
  have hn:=hc.n
  have:=(F_hub c (by have:=hc.h1;omega) left).two ((feas_iff hx left x).1 hf) hv hb
  rw [startL_at (by omega) (by omega)]
  split
  · next e=>subst e;omega
  · simp only [farI];omega
theorem feasHub {c:BeatCellar} (hx:goodB c=true) (left:Int):Hub (Feas (allE c left)) (cnt c):=fun x hf=>F_hub c (by have:=(OkC.of hx).h1;omega) left x ((feas_iff hx left x).1 hf)
theorem run1_true {c:BeatCellar} (hx:goodB c=true) (left:Int) {b:Nat} (hb:b < cnt c):(run1 c left b).2=true ↔ Can c left:=by
  have hc:=OkC.of hx
  have hn:=hc.n
  have hin:=allE_in hx left
  have hs:=startL_snd hx left hb
  have hl:cnt c≤(startL b).length:=by rw [startL_len];exact hn
  have h0:at_ (startL b) b=0:=by rw [startL_at (by omega) (by omega),if_pos rfl]
  constructor
  · intro ht
    have:=runs_false_or hin (hub_edges c left) hb hl h0 hs ht
    exact ⟨_,(feas_iff hx left _).1 this.1⟩
  · rintro ⟨x,hf⟩
    have hub:=feasHub hx left
    obtain ⟨M,hM,hMb,hmax⟩:=most_feas hin hub ⟨x,(feas_iff hx left x).2 hf⟩ hb
    refine runs_conv hin hub hb hM hMb hmax _ _ hl h0 (fun v hv=>?_) (by omega)
    have:=hs M hM v hv
    omega
theorem mx_most {c:BeatCellar} (hx:goodB c=true) {left:Int} (hcan:Can c left) {a b:Nat} (ha:a < cnt c) (hb:b < cnt c):IsMost (F c left) a b (mx c left a b):=by
  have hc:=OkC.of hx
  have hn:=hc.n
  have hin:=allE_in hx left
  have hs:=startL_snd hx left hb
  have hl:cnt c≤(startL b).length:=by rw [startL_len];exact hn
  have h0:at_ (startL b) b=0:=by rw [startL_at (by omega) (by omega),if_pos rfl]
  obtain ⟨h1,h2,h3⟩:=runs_false_or hin (hub_edges c left) hb hl h0 hs ((run1_true hx left hb).2 hcan)
  have e:mx c left a b=at_ (runs (allE c left) (cnt c + 1) (startL b)).1 a:=rfl
  rw [e]
  exact ⟨⟨_,(feas_iff hx left _).1 h1,by rw [h2];omega⟩,fun x hf=>h3 x ((feas_iff hx left x).2 hf) a ha⟩
theorem canB_iff {c:BeatCellar} (hx:goodB c=true) (left:Int):canB c left=true ↔ Can c left:=run1_true hx left (by simp only [cnt];omega)
theorem mx_bound {c:BeatCellar} (hx:goodB c=true) {left:Int} (hcan:Can c left) {a b:Nat} (ha:a < cnt c) (hb:b < cnt c):-200000≤mx c left a b∧mx c left a b≤200000:=by
  obtain ⟨⟨x,hf,e⟩,_⟩:=mx_most hx hcan ha hb
  have hub:=F_hub c (by have:=(OkC.of hx).h1;omega) left
  have h1:=hub.two hf ha hb
  have h2:=hub.two hf hb ha
  omega
theorem between_eq {c:BeatCellar} (hx:goodB c=true) {left:Int} (hcan:Can c left) {s t:beat_spot} (hs:OkSpot c s) (ht:OkSpot c t):
    beat_cellar_between ⟨c,left,plN (wid c) (cnt c)⟩ s t=some (told c left (noOf (wid c) s) (noOf (wid c) t)):=by
  have hn:=(OkC.of hx).n
  have n1:=hs.lt
  have n2:=ht.lt
  have m1:(0:Int)≤(noOf (wid c) s:Int)∧(noOf (wid c) s:Int) < ((66:Nat):Int):=by omega
  have m2:(0:Int)≤(noOf (wid c) t:Int)∧(noOf (wid c) t:Int) < ((66:Nat):Int):=by omega
  have hb:=mx_bound hx hcan n2 n1
  unfold beat_cellar_between
  simp only [above_eq c hx left _ hs,above_eq c hx left _ ht,bind_s,hs.get,ht.get,Option.getD_some,m1,m2,and_self,if_true,Int.toNat_natCast]
  have e1:(runs (allE c left) (cnt c + 1) (startL (noOf (wid c) s))).1.getD (noOf (wid c) t) 0=mx c left (noOf (wid c) t) (noOf (wid c) s):=rfl
  have e2:(runs (allE c left) (cnt c + 1) (startL (noOf (wid c) t))).1.getD (noOf (wid c) s) 0=mx c left (noOf (wid c) s) (noOf (wid c) t):=rfl
  rw [e1,e2,wr_id' (by omega) (by omega)]
  simp [told]
theorem spot_t (c:BeatCellar):OkSpot c ⟨-1,0⟩:=.inl rfl
theorem can_eq {c:BeatCellar} (hx:goodB c=true) (left:Int):beat_cellar_can ⟨c,left,plN (wid c) (cnt c)⟩=some (canB c left):=by
  unfold beat_cellar_can
  simp only [beat_truth,bind_s,above_eq c hx left _ (spot_t c),noOf_t]
  rfl
theorem opened_eq' {c:BeatCellar} (hx:goodB c=true) (left:Int):beat_opened c left=some ⟨c,left,plN (wid c) (cnt c)⟩:=by
  have hc:=OkC.of hx
  exact opened_eq c left hc.h1 hc.h2 (by have:=hc.k2;omega)
def zeroC:beat_cellar:=⟨⟨0,[],[],[]⟩,0,[]⟩
theorem asked_eq (c:BeatCellar) (hc:Ok_BeatCellar c) (right:Bool):beat_asked c right=some (if goodB c=true then if right=true then if canB c 0=true then (⟨c,0,plN (wid c) (cnt c)⟩,0) else (zeroC,22) else (zeroC,21) else (zeroC,20)):=by
  unfold beat_asked
  simp only [beat_Check_eq c hc,bind_s]
  cases hx:goodB c with
  | false=>rfl
  | true=>
    cases right with
    | false=>rfl
    | true=>
      simp only [opened_eq' hx,bind_s,can_eq hx]
      cases canB c 0 <;> rfl
def spotB (c:BeatCellar) (k h:Int):Bool:=inB k 0 (c.Rates.length - 1) && inB h 0 c.Hours
theorem isSpot_eq (c:BeatCellar) (hc:Ok_BeatCellar c) (k h:Int):beat_isSpot c k h=some (spotB c k h):=by
  obtain ⟨⟨hh1,hh2⟩,⟨hR,_⟩,_⟩:=hc
  unfold beat_isSpot
  simp only [lies_eq,bind_s]
  rw [wr_id' (by omega) (by omega)]
  unfold spotB
  cases inB k 0 _ <;> rfl
theorem spotB_ok {c:BeatCellar} {k h:Int} (hs:spotB c k h=true):OkSpot c ⟨k,h⟩∧nd c k h < cnt c∧noOf (wid c) ⟨k,h⟩=nd c k h:=by
  simp only [spotB,inB,Bool.and_eq_true,decide_eq_true_eq] at hs
  have ho:OkSpot c ⟨k,h⟩:=.inr ⟨k.toNat,h.toNat,by omega,by simp only [wid];omega,by rw [Int.toNat_of_nonneg (by omega),Int.toNat_of_nonneg (by omega)]⟩
  have e:=noOf_nd c (k:=k) (h:=h) (by omega)
  refine ⟨ho,?_,e⟩
  have:=ho.lt
  rwa [e] at this
def ans (c:BeatCellar) (right:Bool) (s:Span):Span × Int:=
  if goodB c=true then if right=true then if canB c 0=true then (s,0) else (⟨0,0⟩,22) else (⟨0,0⟩,21) else (⟨0,0⟩,20)
theorem Apart_eq (c:BeatCellar) (hc:Ok_BeatCellar c) (i k h:Int):beat_Apart c i k h=some (ans c (spotB c i h && spotB c k h) (told c 0 (nd c i h) (nd c k h))):=by
  unfold beat_Apart ans
  simp only [isSpot_eq c hc,bind_s]
  have e:(cond (spotB c i h) (some (spotB c k h)) (some false)).bind (fun t=>(beat_asked c t).bind fun rv_2=>
    cond (rv_2.2 != 0) (some ((Span.mk 0 0),rv_2.2)) ((beat_cellar_between rv_2.1 (beat_spot.mk i h) (beat_spot.mk k h)).bind fun rv_3=>some (rv_3,(0:Int))))=(some (spotB c i h && spotB c k h)).bind (fun t=>(beat_asked c t).bind fun rv_2=>
    cond (rv_2.2 != 0) (some ((Span.mk 0 0),rv_2.2)) ((beat_cellar_between rv_2.1 (beat_spot.mk i h) (beat_spot.mk k h)).bind fun rv_3=>some (rv_3,(0:Int)))):=by
    cases spotB c i h <;> rfl
  rw [e]
  simp only [bind_s,asked_eq c hc]
  cases hx:goodB c with
  | false=>rfl
  | true=>
    cases hs:(spotB c i h && spotB c k h) with
    | false=>rfl
    | true=>
      cases hb:canB c 0 with
      | false=>rfl
      | true=>
        rw [Bool.and_eq_true] at hs
        obtain ⟨h1,h2,h3⟩:=spotB_ok hs.1
        obtain ⟨k1,k2,k3⟩:=spotB_ok hs.2
        simp only [if_true,bind_s,between_eq hx ((canB_iff hx 0).1 hb) h1 k1,h3,k3]
        rfl
def off (o:List (List Int)) (k h:Int):Int:=(o.getD k.toNat []).getD h.toNat 0
theorem pair_ok {c:BeatCellar} (hx:goodB c=true) {p:BeatPair} (hp:p ∈ c.Pairs):(0≤p.Hour∧p.Hour≤c.Hours)∧(0≤p.One∧p.One < c.Rates.length)∧(-1≤p.Other∧p.Other < c.Rates.length)∧p.One ≠ p.Other∧-200000≤p.Read.Low∧p.Read.Low≤p.Read.High∧p.Read.High≤200000:=by
  simp only [goodB,Bool.and_eq_true] at hx
  have hpi:=List.all_eq_true.1 hx.2 p hp
  simp only [pairB,spanB,inB,Bool.and_eq_true,decide_eq_true_eq,bne_iff_ne] at hpi
  omega
theorem Fits.congr {c:BeatCellar} (hx:goodB c=true) {left:Int} {y y':Int→Int→Int} {z z':Int} (hz:z=z') (hy:∀ k h:Nat,k < c.Rates.length→h < wid c→y k h=y' k h) (hf:Fits c left y z):Fits c left y' z':=by
  have hC:=OkC.of hx
  have hw:=hC.w
  subst hz
  have e:∀ k h:Int,0≤k→k < c.Rates.length→0≤h→h≤c.Hours→y k h=y' k h:=by
    intro k h h1 h2 h3 h4
    have:=hy k.toNat h.toNat (by omega) (by omega)
    rwa [Int.toNat_of_nonneg h1,Int.toNat_of_nonneg h3] at this
  refine ⟨fun k hk h hh=>?_,fun p hp hl=>?_,fun k hk h hh=>?_⟩
  · have:=hf.g k hk h hh
    rwa [e k (h + 1) (by omega) (by omega) (by omega) (by omega),e k h (by omega) (by omega) (by omega) (by omega)] at this
  · have:=hf.r p hp hl
    obtain ⟨h1,h2,h3,h4,h5⟩:=pair_ok hx hp
    by_cases ho:p.Other ≥ 0
    · simp only [ho,if_true] at this ⊢
      rwa [e p.One p.Hour (by omega) (by omega) (by omega) (by omega),e p.Other p.Hour (by omega) (by omega) (by omega) (by omega)] at this
    · simp only [ho,if_false] at this ⊢
      rwa [e p.One p.Hour (by omega) (by omega) (by omega) (by omega)] at this
  · have:=hf.b k hk h hh
    rwa [e k h (by omega) (by omega) (by omega) (by omega)] at this
end Go.Proofs.YtgdfljiliflhfaaGreatDoor.Rt.Bt
set_option linter.unusedVariables false
set_option linter.unusedSimpArgs false
set_option maxRecDepth 100000
set_option maxHeartbeats 4000000
namespace Go.Proofs.YtgdfljiliflhfaaGreatDoor.Rt.Bt
open Go Go.RowKit
theorem told_in {c:BeatCellar} (hx:goodB c=true) {left:Int} {x:Nat→Int} (hf:F c left x) {a b:Nat} (ha:a < cnt c) (hb:b < cnt c):(told c left a b).Low≤x a - x b∧x a - x b≤(told c left a b).High:=by
  have h1:=(mx_most hx ⟨x,hf⟩ ha hb).2 x hf
  have h2:=(mx_most hx ⟨x,hf⟩ hb ha).2 x hf
  simp only [told];omega
theorem loop_all {σ ρ:Type} {body:σ→Option (σ ⊕ ρ)} (st:Nat→σ) (ok:Nat→Bool) (good bad:Option ρ) (n:Nat) (hstep:∀ i,i < n→body (st i)=if ok i=true then nxt (st (i + 1)) else ext bad)
    (hend:body (st n)=ext good):loopU body (st 0)=if (List.range n).all ok=true then good else bad:=by
  have key:∀ (m i:Nat),i + m=n→loopU body (st i)=if (List.range' i m).all ok=true then good else bad:=by
    intro m
    induction m with
    | zero=>
      intro i h
      have:i=n:=by omega
      subst this
      rw [loopU_ext hend];rfl
    | succ m ih=>
      intro i h
      have h1:=hstep i (by omega)
      rw [List.range'_succ,List.all_cons]
      cases hk:ok i with
      | true=>
        rw [hk,if_pos rfl] at h1
        rw [loopU_nxt h1,ih (i + 1) (by omega),Bool.true_and]
      | false=>
        rw [hk,if_neg (by decide)] at h1
        rw [loopU_ext h1];simp
  rw [List.range_eq_range']
  exact key n 0 (by omega)
theorem loop_any {α:Type} (xs:List α) (p:α→Bool) (body:(Int × Int)→Option ((Int × Int) ⊕ Int)) (hstep:∀ (i:Nat) (h:i < xs.length),body (0,(i:Int))=if p xs[i]=true then ext (some (i:Int)) else nxt (0,((i + 1:Nat):Int)))
    (hend:body (0,(xs.length:Int))=ext (some (-1))):∃ r,loopU body (0,0)=some r∧decide (r ≥ 0)=xs.any p:=by
  have key:∀ (m i:Nat),i + m=xs.length→∃ r,loopU body (0,(i:Int))=some r∧decide (r ≥ 0)=(xs.drop i).any p:=by
    intro m
    induction m with
    | zero=>
      intro i h
      have:i=xs.length:=by omega
      subst this
      exact ⟨-1,loopU_ext hend,by simp⟩
    | succ m ih=>
      intro i h
      have hi:i < xs.length:=by omega
      have h1:=hstep i hi
      rw [← List.getElem_cons_drop hi,List.any_cons]
      cases hk:p xs[i] with
      | true=>
        rw [hk,if_pos rfl] at h1
        exact ⟨i,loopU_ext h1,by simp⟩
      | false=>
        rw [hk,if_neg (by decide)] at h1
        rw [loopU_nxt h1]
        obtain ⟨r,h2,h3⟩:=ih (i + 1) (by omega)
        exact ⟨r,h2,by rw [h3];simp⟩
  simpa using key xs.length 0 (by omega)
def shapeB (c:BeatCellar) (o:List (List Int)):Bool:=decide (o.length=c.Rates.length) && o.all fun l=>decide (l.length=wid c)
def rangeB (o:List (List Int)):Bool:=o.all fun l=>l.all fun n=>inB n (-100000) 100000
def offS (o:List (List Int)) (s:beat_spot):Int:=if s.clock < 0 then 0 else off o s.clock s.hour
def capsB (c:BeatCellar) (left:Int) (o:List (List Int)):Bool:=(allB c left).all fun b=>decide (offS o b.of_ - offS o b.over≤b.by_)
def truthB (c:BeatCellar) (o:List (List Int)):Bool:=shapeB c o && rangeB o && capsB c 0 o
theorem contains1 (c:BeatCellar) (hc:OkC c) (o:List (List Int)) (ho:(o.length:Int)≤9223372036854775807):
    slices_ContainsFunc_____int___int_ o (fun q=>beat_IsTruth_1 q c)=some (!o.all fun l=>decide (l.length=wid c)):=by
  have hw:=hc.w
  have h1:=hc.h1
  have h2:=hc.h2
  obtain ⟨r,e1,e2⟩:=loop_any o (fun l => !decide (l.length=wid c)) (slices_IndexFunc_____int___int__b1 o (fun q=>beat_IsTruth_1 q c)) (fun i hi=>by
    have hd:decide ((i:Int) < (o.length:Int))=true:=by simp;omega
    have wi:wr ((i:Int) + 1)=((i + 1:Nat):Int):=wr_id' (by omega) (by omega)
    have wh:wr (c.Hours + 1)=(wid c:Int):=by rw [wr_id' (by omega) (by omega)];omega
    simp only [slices_IndexFunc_____int___int__b1,hd,cond_true,idx_get hi,bind_s,beat_IsTruth_1,wi,wh]
    by_cases hl:o[i].length=wid c
    · simp [hl]
    · have h3:((o[i].length:Int) != (wid c:Int))=true:=by simp;omega
      simp only [h3,cond_true,hl,decide_false,Bool.not_false,if_true]) (by
    have hd:decide ((o.length:Int) < (o.length:Int))=false:=by simp
    simp only [slices_IndexFunc_____int___int__b1,hd,cond_false])
  unfold slices_ContainsFunc_____int___int_ slices_IndexFunc_____int___int_
  rw [e1]
  simp only [bind_s,e2]
  rw [List.not_all_eq_any_not]
theorem contains2 (l:List Int) (hl:(l.length:Int)≤9223372036854775807):slices_ContainsFunc___int_int_ l (fun q=>beat_IsTruth_2 q)=some (!l.all fun n=>inB n (-100000) 100000):=by
  obtain ⟨r,e1,e2⟩:=loop_any l (fun n => !inB n (-100000) 100000) (slices_IndexFunc___int_int__b1 l (fun q=>beat_IsTruth_2 q)) (fun i hi=>by
    have hd:decide ((i:Int) < (l.length:Int))=true:=by simp;omega
    have wi:wr ((i:Int) + 1)=((i + 1:Nat):Int):=wr_id' (by omega) (by omega)
    simp only [slices_IndexFunc___int_int__b1,hd,cond_true,idx_get hi,bind_s,beat_IsTruth_2,lies_eq,wi]
    cases inB l[i] (-100000) 100000 <;> rfl) (by
    have hd:decide ((l.length:Int) < (l.length:Int))=false:=by simp
    simp only [slices_IndexFunc___int_int__b1,hd,cond_false])
  unfold slices_ContainsFunc___int_int_ slices_IndexFunc___int_int_
  rw [e1]
  simp only [bind_s,e2]
  rw [List.not_all_eq_any_not]
theorem all_range {α:Type} (xs:List α) (p:α→Bool) (q:Nat→Bool) (h:∀ (i:Nat) (hi:i < xs.length),q i=p xs[i]):(List.range xs.length).all q=xs.all p:=by
  rw [Bool.eq_iff_iff,List.all_eq_true,List.all_eq_true]
  constructor
  · intro hq x hx
    obtain ⟨i,hi,rfl⟩:=List.mem_iff_getElem.1 hx
    rw [← h i hi];exact hq i (List.mem_range.2 hi)
  · intro hp i hi
    have hi':=List.mem_range.1 hi
    rw [h i hi'];exact hp _ (List.getElem_mem hi')
theorem off_get {c:BeatCellar} {o:List (List Int)} (hs:shapeB c o=true) {k h:Nat} (hk:k < c.Rates.length) (hh:h < wid c):
    ∃ (h1:k < o.length) (h2:h < o[k].length),off o (k:Int) (h:Int)=o[k][h]:=by
  simp only [shapeB,Bool.and_eq_true,decide_eq_true_eq] at hs
  have h1:k < o.length:=by omega
  have h3:=List.all_eq_true.1 hs.2 _ (List.getElem_mem h1)
  simp only [decide_eq_true_eq] at h3
  have h2:h < o[k].length:=by omega
  exact ⟨h1,h2,by simp [off,h1,h2]⟩
theorem offS_eq {c:BeatCellar} {o:List (List Int)} (hs:shapeB c o=true) {s:beat_spot} (ho:OkSpot c s):beat_IsTruth_3 s o=some (offS o s):=by
  unfold beat_IsTruth_3 offS
  rcases ho with rfl | ⟨k,h,hk,hh,rfl⟩
  · simp [beat_truth,bind_s]
  · obtain ⟨h1,h2,h3⟩:=off_get hs hk hh
    have hne:([(k:Int),(h:Int)] == [-1,0])=false:=by simp
    have hk0:¬ ((k:Int) < 0):=by omega
    simp only [beat_truth,bind_s,hne,cond_false,idx_get h1,idx_get h2,hk0,if_false,h3]
theorem off_range {o:List (List Int)} (hr:rangeB o=true) (k h:Int):-100000≤off o k h∧off o k h≤100000:=by
  unfold off
  by_cases h1:k.toNat < o.length
  · have e1:o.getD k.toNat []=o[k.toNat]:=by simp [h1]
    rw [e1]
    by_cases h2:h.toNat < (o[k.toNat]).length
    · have e2:(o[k.toNat]).getD h.toNat 0=o[k.toNat][h.toNat]:=by simp [h2]
      rw [e2]
      have:=List.all_eq_true.1 hr _ (List.getElem_mem h1)
      have:=List.all_eq_true.1 this _ (List.getElem_mem h2)
      simp only [inB,Bool.and_eq_true,decide_eq_true_eq] at this
      exact this
    · have e2:(o[k.toNat]).getD h.toNat 0=0:=by simp [Nat.le_of_not_lt h2]
      rw [e2];omega
  · have e1:o.getD k.toNat []=[]:=by simp [Nat.le_of_not_lt h1]
    rw [e1];simp
theorem offS_range {o:List (List Int)} (hr:rangeB o=true) (s:beat_spot):-100000≤offS o s∧offS o s≤100000:=by
  unfold offS
  split
  · omega
  · exact off_range hr _ _
theorem IsTruth_b3_eq {c:BeatCellar} {o:List (List Int)} (hs:shapeB c o=true) (hr:rangeB o=true) (all:List beat_bound) (hok:∀ b ∈ all,OkB c b) (hlen:all.length≤614) (v4:Bool) (v5:Int) (i:Nat) (hi:i < 10):
    loopU (beat_IsTruth_b3 o (i:Int) all) (v4,v5,0)=if (all.all fun b=>decide (offS o b.of_ - offS o b.over≤b.by_))=true then nxt (v4,v5,((i + 1:Nat):Int)) else ext (some (false,0)):=by
  have h:=loop_all (body:=beat_IsTruth_b3 o (i:Int) all) (fun j=>(v4,v5,(j:Int))) (fun j=>(all[j]?).all fun b=>decide (offS o b.of_ - offS o b.over≤b.by_)) (nxt (v4,v5,((i + 1:Nat):Int))) (ext (some (false,0))) all.length (fun j hj=>by
    have hd:decide ((j:Int) < (all.length:Int))=true:=by simp;omega
    have wi:wr ((j:Int) + 1)=((j + 1:Nat):Int):=wr_id' (by omega) (by omega)
    have hb:=hok _ (List.getElem_mem hj)
    have r1:=offS_range hr all[j].of_
    have r2:=offS_range hr all[j].over
    simp only [beat_IsTruth_b3,hd,cond_true,idx_get hj,bind_s,offS_eq hs hb.sa,offS_eq hs hb.sb,wi,List.getElem?_eq_getElem hj,Option.all_some]
    rw [wr_id' (by omega) (by omega)]
    by_cases hle:offS o all[j].of_ - offS o all[j].over≤all[j].by_
    · have h1:decide (offS o all[j].of_ - offS o all[j].over > all[j].by_)=false:=by simp;omega
      simp only [h1,cond_false,hle,decide_true,if_true]
    · have h1:decide (offS o all[j].of_ - offS o all[j].over > all[j].by_)=true:=by simp;omega
      simp [h1,hle]) (by
    have hd:decide ((all.length:Int) < (all.length:Int))=false:=by simp
    have wi:wr ((i:Int) + 1)=((i + 1:Nat):Int):=wr_id' (by omega) (by omega)
    simp only [beat_IsTruth_b3,hd,cond_false,wi])
  rw [all_range all (fun b=>decide (offS o b.of_ - offS o b.over≤b.by_)) _ (fun j hj=>by simp [List.getElem?_eq_getElem hj])] at h
  exact h
theorem IsTruth_eq (c:BeatCellar) (hc:Ok_BeatCellar c) (o:List (List Int)) (ho:OkL (OkL InR) o):beat_IsTruth c o=some (if goodB c=true then (truthB c o,0) else (false,20)):=by
  have hol:=ho.1
  unfold beat_IsTruth
  simp only [beat_Check_eq c hc,bind_s]
  cases hx:goodB c with
  | false=>rfl
  | true=>
    have hC:=OkC.of hx
    have c0:((0:Int) != 0)=false:=by decide
    simp only [if_true,c0,cond_false]
    by_cases hl:o.length=c.Rates.length
    · have hl':((o.length:Int) != (c.Rates.length:Int))=false:=by simp;omega
      simp only [hl',cond_false,contains1 c hC o hol,bind_s]
      cases hw:(o.all fun l=>decide (l.length=wid c)) with
      | false=>simp [truthB,shapeB,hw]
      | true=>
        have hs:shapeB c o=true:=by simp [shapeB,hl,hw]
        simp only [Bool.not_true,cond_false]
        have h1:=loop_all (body:=beat_IsTruth_b1 c o) (fun j=>(false,(0:Int),(j:Int))) (fun j=>(o[j]?).all fun l=>l.all fun n=>inB n (-100000) 100000) (some (capsB c 0 o,0)) (some (false,0)) o.length (fun j hj=>by
          have hd:decide ((j:Int) < (o.length:Int))=true:=by simp;omega
          have wi:wr ((j:Int) + 1)=((j + 1:Nat):Int):=wr_id' (by omega) (by omega)
          have hll:=(ho.2 _ (List.getElem_mem hj)).1
          simp only [beat_IsTruth_b1,hd,cond_true,idx_get hj,bind_s,contains2 o[j] hll,List.getElem?_eq_getElem hj,Option.all_some,wi]
          cases (o[j].all fun n=>inB n (-100000) 100000) <;> rfl)
        rw [all_range o (fun l=>l.all fun n=>inB n (-100000) 100000) _ (fun j hj=>by simp [List.getElem?_eq_getElem hj])] at h1
        by_cases hr:rangeB o=true
        · refine (h1 ?_).trans ?_
          rotate_left
          · rw [show (o.all fun l=>l.all fun n=>inB n (-100000) 100000)=rangeB o from rfl,hr,if_pos rfl]
            simp only [truthB,hs,hr,Bool.and_true,Bool.true_and]
          · have hd:decide ((o.length:Int) < (o.length:Int))=false:=by simp
            simp only [beat_IsTruth_b1,hd,cond_false,opened_eq' hx,bind_s]
            congr 1
            have hlen:=allB_len hC 0
            simp only [allB,List.length_append] at hlen
            have hok:=allB_ok hx 0
            simp only [allB,List.mem_append] at hok
            have t0:tabf_0 0 ⟨c,0,plN (wid c) (cnt c)⟩=some (growsL c c.Rates.length):=grows_eq ⟨c,0,plN (wid c) (cnt c)⟩ hx
            have t1:tabf_0 1 ⟨c,0,plN (wid c) (cnt c)⟩=some (readsL c 0 (wid c)):=reads_eq ⟨c,0,plN (wid c) (cnt c)⟩ hx
            have t2:tabf_0 2 ⟨c,0,plN (wid c) (cnt c)⟩=some (holdsL (wid c) c.Rates.length):=holds_eq ⟨c,0,plN (wid c) (cnt c)⟩ hx
            have b0:=IsTruth_b3_eq hs hr (growsL c c.Rates.length) (fun b hb=>hok b (Or.inl (Or.inl hb))) (by omega) false 0 0 (by omega)
            have b1:=IsTruth_b3_eq hs hr (readsL c 0 (wid c)) (fun b hb=>hok b (Or.inl (Or.inr hb))) (by omega) false 0 1 (by omega)
            have b2:=IsTruth_b3_eq hs hr (holdsL (wid c) c.Rates.length) (fun b hb=>hok b (Or.inr hb)) (by omega) false 0 2 (by omega)
            have d0:decide ((0:Int) < 3)=true:=by decide
            have d1:decide ((1:Int) < 3)=true:=by decide
            have d2:decide ((2:Int) < 3)=true:=by decide
            have d3:decide ((3:Int) < 3)=false:=by decide
            simp only [capsB,allB,List.all_append]
            have s0:beat_IsTruth_b2 o ⟨c,0,plN (wid c) (cnt c)⟩ (false,0,0)=loopU (beat_IsTruth_b3 o ((0:Nat):Int) (growsL c c.Rates.length)) (false,0,0):=by
              simp only [beat_IsTruth_b2,d0,cond_true,t0,bind_s]
              rw [if_pos (by decide)];rfl
            have s1:beat_IsTruth_b2 o ⟨c,0,plN (wid c) (cnt c)⟩ (false,0,((0 + 1:Nat):Int))=loopU (beat_IsTruth_b3 o ((1:Nat):Int) (readsL c 0 (wid c))) (false,0,0):=by
              rw [show (((0 + 1:Nat):Int))=1 from rfl]
              simp only [beat_IsTruth_b2,d1,cond_true,t1,bind_s]
              rw [if_pos (by decide)]
            have s2:beat_IsTruth_b2 o ⟨c,0,plN (wid c) (cnt c)⟩ (false,0,((1 + 1:Nat):Int))=loopU (beat_IsTruth_b3 o ((2:Nat):Int) (holdsL (wid c) c.Rates.length)) (false,0,0):=by
              rw [show (((1 + 1:Nat):Int))=2 from rfl]
              simp only [beat_IsTruth_b2,d2,cond_true,t2,bind_s]
              rw [if_pos (by decide)]
            rw [b0] at s0
            rw [b1] at s1
            rw [b2] at s2
            generalize ((growsL c c.Rates.length).all fun b=>decide (offS o b.of_ - offS o b.over≤b.by_))=q0 at s0
            generalize ((readsL c 0 (wid c)).all fun b=>decide (offS o b.of_ - offS o b.over≤b.by_))=q1 at s1
            generalize ((holdsL (wid c) c.Rates.length).all fun b=>decide (offS o b.of_ - offS o b.over≤b.by_))=q2 at s2
            cases q0 with
            | false=>exact loopU_ext (by rw [s0];rfl)
            | true=>
              rw [loopU_nxt (by rw [s0];rfl)]
              cases q1 with
              | false=>exact loopU_ext (by rw [s1];rfl)
              | true=>
                rw [loopU_nxt (by rw [s1];rfl)]
                cases q2 with
                | false=>exact loopU_ext (by rw [s2];rfl)
                | true=>
                  rw [loopU_nxt (by rw [s2];rfl)]
                  refine loopU_ext ?_
                  rw [show (((2 + 1:Nat):Int))=3 from rfl]
                  simp only [beat_IsTruth_b2,d3,cond_false];rfl
        · have hr':rangeB o=false:=by simpa using hr
          -- some offset is out of range: the loop stops before its end
          have hex:(o.all fun l=>l.all fun n=>inB n (-100000) 100000)=false:=hr'
          have h2:∃ j,j < o.length∧((o[j]?).all fun l=>l.all fun n=>inB n (-100000) 100000)=false:=by
            rw [List.all_eq_false] at hex
            obtain ⟨l,hl,hn⟩:=hex
            obtain ⟨j,hj,rfl⟩:=List.mem_iff_getElem.1 hl
            exact ⟨j,hj,by simp only [List.getElem?_eq_getElem hj,Option.all_some];simpa using hn⟩
          simp only [truthB,hr',Bool.and_false,Bool.false_and]
          have key:∀ (m i:Nat),i + m=o.length→(∃ j,i≤j∧j < o.length∧((o[j]?).all fun l=>l.all fun n=>inB n (-100000) 100000)=false)→loopU (beat_IsTruth_b1 c o) (false,0,(i:Int))=some (false,0):=by
            intro m
            induction m with
            | zero=>rintro i h ⟨j,h3,h4,_⟩;omega
            | succ m ih=>
              rintro i h ⟨j,h3,h4,h5⟩
              have hj:i < o.length:=by omega
              have hd:decide ((i:Int) < (o.length:Int))=true:=by simp;omega
              have wi:wr ((i:Int) + 1)=((i + 1:Nat):Int):=wr_id' (by omega) (by omega)
              have hll:=(ho.2 _ (List.getElem_mem hj)).1
              cases hq:(o[i].all fun n=>inB n (-100000) 100000) with
              | true=>
                rw [loopU_nxt (s':=(false,0,((i + 1:Nat):Int))) (by
                  simp only [beat_IsTruth_b1,hd,cond_true,idx_get hj,bind_s,contains2 o[i] hll,hq,Bool.not_true,cond_false,wi])]
                refine ih (i + 1) (by omega) ⟨j,?_,h4,h5⟩
                by_cases e:i=j
                · subst e;simp only [List.getElem?_eq_getElem hj,Option.all_some,hq] at h5;simp at h5
                · omega
              | false=>
                exact loopU_ext (by simp only [beat_IsTruth_b1,hd,cond_true,idx_get hj,bind_s,contains2 o[i] hll,hq,Bool.not_false,cond_true])
          obtain ⟨j,h3,h4⟩:=h2
          exact key o.length 0 (by omega) ⟨j,by omega,h3,h4⟩
    · have hl':((o.length:Int) != (c.Rates.length:Int))=true:=by simp;omega
      simp [hl',truthB,shapeB,hl,bind_s]
theorem nd_div {W k h:Nat} (hh:h < W):(1 + k * W + h - 1) / W=k∧(1 + k * W + h - 1) % W=h:=by
  have e:1 + k * W + h - 1=W * k + h:=by rw [Nat.mul_comm];omega
  rw [e]
  constructor
  · rw [Nat.mul_add_div (by omega),Nat.div_eq_of_lt hh];omega
  · rw [Nat.mul_add_mod,Nat.mod_eq_of_lt hh]
def xo (c:BeatCellar) (y:Int→Int→Int) (z:Int) (v:Nat):Int:=if v=0 then z else y (((v - 1) / wid c:Nat):Int) (((v - 1) % wid c:Nat):Int)
theorem xo_nd {c:BeatCellar} (y:Int→Int→Int) (z:Int) {k h:Nat} (hh:h < wid c):xo c y z (nd c k h)=y k h:=by
  obtain ⟨d1,d2⟩:=nd_div (k:=k) hh
  unfold xo nd
  rw [Int.toNat_natCast,Int.toNat_natCast,if_neg (by omega),d1,d2]
theorem fits_F {c:BeatCellar} (hx:goodB c=true) {left:Int} {y:Int→Int→Int} {z:Int}:Fits c left y z ↔ F c left (xo c y z):=by
  constructor
  · intro hf
    exact hf.congr hx (by simp [xo]) (fun k h hk hh=>(xo_nd y z hh).symm)
  · intro hf
    exact Fits.congr hx (by simp [xo]) (fun k h hk hh=>xo_nd y z hh) hf
theorem caps_iff {c:BeatCellar} (hx:goodB c=true) (left:Int) (o:List (List Int)):capsB c left o=true ↔ Fits c left (off o) 0:=by
  rw [fits_F hx,← feas_iff hx left]
  have e:∀ s,OkSpot c s→xo c (off o) 0 (noOf (wid c) s)=offS o s:=by
    intro s hs
    rcases hs with rfl | ⟨k,h,hk,hh,rfl⟩
    · simp [noOf,xo,offS]
    · rw [noOf_nd c (by omega),xo_nd _ _ hh]
      unfold offS
      rw [if_neg (by simp only;omega)]
  unfold capsB
  rw [List.all_eq_true]
  constructor
  · intro h f hf
    obtain ⟨b,hb,rfl⟩:=List.mem_map.1 hf
    have hok:=allB_ok hx left b hb
    have:=h b hb
    simp only [decide_eq_true_eq] at this
    simp only [edgeOf,e _ hok.sa,e _ hok.sb]
    exact this
  · intro h b hb
    have hok:=allB_ok hx left b hb
    have:=h _ (List.mem_map_of_mem hb)
    simp only [edgeOf,e _ hok.sa,e _ hok.sb] at this
    simp only [decide_eq_true_eq]
    exact this
theorem range_of {c:BeatCellar} {o:List (List Int)} (hx:goodB c=true) (hs:shapeB c o=true) (hf:Fits c 0 (off o) 0):rangeB o=true:=by
  have hC:=OkC.of hx
  have hw:=hC.w
  have hs':=hs
  simp only [shapeB,Bool.and_eq_true,decide_eq_true_eq] at hs
  unfold rangeB
  rw [List.all_eq_true]
  intro l hl
  rw [List.all_eq_true]
  intro n hn
  obtain ⟨k,hk,rfl⟩:=List.mem_iff_getElem.1 hl
  obtain ⟨h,hh,rfl⟩:=List.mem_iff_getElem.1 hn
  have hlen:=List.all_eq_true.1 hs.2 _ hl
  simp only [decide_eq_true_eq] at hlen
  obtain ⟨h1,h2,h3⟩:=off_get hs' (k:=k) (h:=h) (by omega) (by omega)
  have:=hf.b k (by omega) h (by omega)
  rw [h3] at this
  simp only [inB,Bool.and_eq_true,decide_eq_true_eq]
  omega
theorem truth_iff {c:BeatCellar} (hx:goodB c=true) (o:List (List Int)):truthB c o=true ↔ shapeB c o=true∧Fits c 0 (off o) 0:=by
  unfold truthB
  rw [Bool.and_eq_true,Bool.and_eq_true,caps_iff hx]
  constructor
  · rintro ⟨⟨h1,h2⟩,h3⟩;exact ⟨h1,h3⟩
  · rintro ⟨h1,h3⟩;exact ⟨⟨h1,range_of hx h1 h3⟩,h3⟩
def hasB (s:Span) (n:Int):Bool:=inB n s.Low s.High
theorem Has_eq (s:Span) (n:Int):r0Has s n=some (hasB s n):=rfl
def cands (K:Nat):Nat→Nat→List Int × Int→List (List Int × Int)
  | 0,_,p=>[p]
  | n + 1,i,p=>(List.range' i (K - i)).flatMap fun k=>cands K n (k + 1) (p.1 ++ [(k:Int)],bitsOp .or p.2 (gshl 1 (k:Int)))
def allc (K:Nat):List (List Int × Int):=(List.range (K + 1)).flatMap fun m=>cands K m 0 ([],0)
def wres (c:BeatCellar) (n i:Nat) (p:List Int × Int):List Int × Bool:=
  match (cands c.Rates.length n i p).find? (fun q=>canB c q.2) with
  | some q=>(q.1,true)
  | none=>(if n=0 then p.1 else [],false)
theorem loopU_none {σ ρ:Type} {body:σ→Option (σ ⊕ ρ)} {s:σ} (h:body s=none):loopU body s=none:=by rw [loopU_eq,h]
theorem wrong_loop {c:BeatCellar} (hC:OkC c) (l:List Int) (hl:l.length≤10) (set many:Int) (self:List Int→Int→Int→BeatCellar→Option (List Int × Bool)) (g:Nat→Option (List Int × Int)) (none':Nat→List Int) (B:Prop) (i0:Nat)
    (hself:∀ k:Nat,i0≤k→k < c.Rates.length→(self (l ++ [(k:Int)]) (bitsOp .or set (gshl 1 (k:Int))) many c=none∧B) ∨
      self (l ++ [(k:Int)]) (bitsOp .or set (gshl 1 (k:Int))) many c=some (match g k with | some q=>(q.1,true) | none=>(none' k,false))):
    ∀ (m i:Nat),i0≤i→i + m=c.Rates.length→(loopU (beat_Wrong_1_b2 l set many c self) (([]:List Int),false,(i:Int))=none∧B) ∨
      loopU (beat_Wrong_1_b2 l set many c self) (([]:List Int),false,(i:Int))=some (match (List.range' i m).findSome? g with | some q=>(q.1,true) | none=>(([]:List Int),false)):=by
  intro m
  have k2:=hC.k2
  induction m with
  | zero=>
    intro i hi0 hi
    right
    have hd:decide ((i:Int) < (c.Rates.length:Int))=false:=by simp;omega
    exact loopU_ext (by simp only [beat_Wrong_1_b2,hd,cond_false];rfl)
  | succ m ih=>
    intro i hi0 hi
    have hd:decide ((i:Int) < (c.Rates.length:Int))=true:=by simp;omega
    have wi:wr ((i:Int) + 1)=((i + 1:Nat):Int):=wr_id' (by omega) (by omega)
    have hlim:l.length + ([(i:Int)]).length≤lim:=by simp only [List.length_cons,List.length_nil,lim];omega
    have hneg:¬ (i:Int) < 0:=by omega
    have hb:∀ r,self (l ++ [(i:Int)]) (bitsOp .or set (gshl 1 (i:Int))) many c=r→beat_Wrong_1_b2 l set many c self (([]:List Int),false,(i:Int))=r.bind fun rv_2=>cond rv_2.2 (ext (some (rv_2.1,true))) (nxt (([]:List Int),false,((i + 1:Nat):Int))):=by
      intro r hr
      simp only [beat_Wrong_1_b2,hd,cond_true,hr,wi]
      rw [if_pos hlim,if_pos hneg]
    rcases hself i hi0 (by omega) with ⟨h,hB⟩ | h
    · left
      exact ⟨loopU_none (by rw [hb _ h];rfl),hB⟩
    · rw [List.range'_succ,List.findSome?_cons]
      cases hg:g i with
      | some q=>
        rw [hg] at h
        right
        exact loopU_ext (by rw [hb _ h];rfl)
      | none=>
        rw [hg] at h
        have:=ih (i + 1) (by omega) (by omega)
        rw [loopU_nxt (s':=(([]:List Int),false,((i + 1:Nat):Int))) (by rw [hb _ h];rfl)]
        exact this
theorem wrong_n (c:BeatCellar) (hx:goodB c=true) (many:Nat):∀ (N n:Nat) (l:List Int) (set:Int) (i:Nat),l.length + n=many→l.length≤i→i≤c.Rates.length →
    (l=[]→i=0)→(∀ h:0 < l.length,l[l.length - 1]'(by omega) + 1=(i:Int)) →
    (beat_Wrong_1_n N l set (many:Int) c=none∧N≤n)∨beat_Wrong_1_n N l set (many:Int) c=some (wres c n i (l,set))
  | 0,n,l,set,i,h1,h2,h3,h4,h5=>Or.inl ⟨rfl,by omega⟩
  | N + 1,n,l,set,i,h1,h2,h3,h4,h5=>by
    have hC:=OkC.of hx
    have k2:=hC.k2
    cases n with
    | zero=>
      right
      have e:((l.length:Int) == (many:Int))=true:=by simp;omega
      simp only [beat_Wrong_1_n,beat_Wrong_1_step,e,cond_true,opened_eq' hx,bind_s,can_eq hx,wres,cands,List.find?_cons,List.find?_nil]
      cases canB c set <;> rfl
    | succ n=>
      have e:((l.length:Int) == (many:Int))=false:=by simp;omega
      have hmain:=wrong_loop hC l (by omega) set (many:Int) (beat_Wrong_1_n N) (fun k=>(cands c.Rates.length n (k + 1) (l ++ [(k:Int)],bitsOp .or set (gshl 1 (k:Int)))).find? fun q=>canB c q.2)
        (fun k=>if n=0 then l ++ [(k:Int)] else []) (N + 1≤n + 1) i (fun k hik hk=>by
          rcases wrong_n c hx many N n (l ++ [(k:Int)]) (bitsOp .or set (gshl 1 (k:Int))) (k + 1) (by simp;omega) (by simp;omega) (by omega) (by simp) (by intro h;simp) with ⟨h,hle⟩ | h
          · exact Or.inl ⟨h,by omega⟩
          · right;rw [h];rfl) (c.Rates.length - i) i (Nat.le_refl _) (by omega)
      have hstep:beat_Wrong_1_n (N + 1) l set (many:Int) c=loopU (beat_Wrong_1_b2 l set (many:Int) c (beat_Wrong_1_n N)) (([]:List Int),false,(i:Int)):=by
        simp only [beat_Wrong_1_n,beat_Wrong_1_step,e,cond_false,beat_Wrong_1_k1]
        by_cases hl0:l=[]
        · have:=h4 hl0
          subst hl0;subst this
          simp
        · have hlen:0 < l.length:=List.length_pos_iff.2 hl0
          have hd:decide ((l.length:Int) > 0)=true:=by simp;omega
          have wl:wr ((l.length:Int) - 1)=((l.length - 1:Nat):Int):=by rw [wr_id' (by omega) (by omega)];omega
          have hi:l.length - 1 < l.length:=by omega
          simp only [hd,cond_true,wl,idx_get hi,bind_s]
          rw [h5 hlen,wr_id' (by omega) (by omega)]
      rw [hstep]
      have hw:(match (List.range' i (c.Rates.length - i)).findSome? (fun k=>(cands c.Rates.length n (k + 1) (l ++ [(k:Int)],bitsOp .or set (gshl 1 (k:Int)))).find? fun q=>canB c q.2) with | some q=>(q.1,true) | none=>(([]:List Int),false))=wres c (n + 1) i (l,set):=by
        unfold wres
        simp only [cands,List.find?_flatMap]
        rfl
      rw [hw] at hmain
      exact hmain
theorem wrong_1_eq (c:BeatCellar) (hx:goodB c=true) (many:Nat):beat_Wrong_1 [] 0 (many:Int) c=some (wres c many 0 ([],0)):=by
  have h:=fun N=>wrong_n c hx many N many [] 0 0 (by simp) (by simp) (by omega) (by simp) (by simp)
  unfold beat_Wrong_1
  refine limU_of (n:=many + 1) ?_ ?_
  · rcases h (many + 1) with ⟨_,h⟩ | h
    · omega
    · exact h
  · intro N s hs
    rcases h N with ⟨h1,_⟩ | h1
    · rw [h1] at hs;cases hs
    · rw [h1] at hs;injection hs with hs;exact hs.symm
def wrongF (c:BeatCellar):Option (List Int × Int):=(allc c.Rates.length).find? fun q=>canB c q.2
theorem Wrong_eq (c:BeatCellar) (hc:Ok_BeatCellar c):beat_Wrong c=some (if goodB c=true then (match wrongF c with | some q=>(q.1,(0:Int)) | none=>([],22)) else ([],20)):=by
  unfold beat_Wrong
  simp only [beat_Check_eq c hc,bind_s]
  cases hx:goodB c with
  | false=>rfl
  | true=>
    have hC:=OkC.of hx
    have k2:=hC.k2
    have c0:((0:Int) != 0)=false:=by decide
    have wK:wr ((c.Rates.length:Int) + 1)=((c.Rates.length + 1:Nat):Int):=wr_id' (by omega) (by omega)
    simp only [if_true,c0,cond_false]
    have key:∀ (m i:Nat),i + m=c.Rates.length + 1→loopU (beat_Wrong_b1 c) (([]:List Int),0,(i:Int)) =
        some (match (List.range' i m).findSome? (fun m=>(cands c.Rates.length m 0 ([],0)).find? fun q=>canB c q.2) with | some q=>(q.1,(0:Int)) | none=>(([]:List Int),22)):=by
      intro m
      induction m with
      | zero=>
        intro i hi
        have hd:decide ((i:Int) < ((c.Rates.length + 1:Nat):Int))=false:=by simp;omega
        exact loopU_ext (by simp only [beat_Wrong_b1,wK,hd,cond_false];rfl)
      | succ m ih=>
        intro i hi
        have hd:decide ((i:Int) < ((c.Rates.length + 1:Nat):Int))=true:=by simp;omega
        have wi:wr ((i:Int) + 1)=((i + 1:Nat):Int):=wr_id' (by omega) (by omega)
        have hb:beat_Wrong_b1 c (([]:List Int),0,(i:Int))=cond (wres c i 0 ([],0)).2 (ext (some ((wres c i 0 ([],0)).1,0))) (nxt (([]:List Int),0,((i + 1:Nat):Int))):=by
          simp only [beat_Wrong_b1,wK,hd,cond_true,wrong_1_eq c hx,bind_s,wi]
        rw [List.range'_succ,List.findSome?_cons]
        unfold wres at hb
        cases hg:(cands c.Rates.length i 0 ([],0)).find? (fun q=>canB c q.2) with
        | some q=>
          rw [hg] at hb
          exact loopU_ext hb
        | none=>
          rw [hg] at hb
          rw [loopU_nxt hb]
          exact ih (i + 1) (by omega)
    have:=key (c.Rates.length + 1) 0 (by omega)
    rw [Int.natCast_zero] at this
    rw [this]
    unfold wrongF allc
    rw [List.find?_flatMap,List.range_eq_range']
theorem inr_small {n:Int} (h1:-1000000000≤n) (h2:n≤1000000000):InR n:=⟨by omega,by omega⟩
theorem range_ok {c:BeatCellar} {o:List (List Int)} (hx:goodB c=true) (hs:shapeB c o=true) (hr:rangeB o=true):OkL (OkL InR) o:=by
  have hC:=OkC.of hx
  have hw:=hC.w
  have k2:=hC.k2
  simp only [shapeB,Bool.and_eq_true,decide_eq_true_eq] at hs
  refine ⟨by omega,fun l hl=>?_⟩
  have h1:=List.all_eq_true.1 hs.2 l hl
  simp only [decide_eq_true_eq] at h1
  refine ⟨by omega,fun n hn=>?_⟩
  have h2:=List.all_eq_true.1 (List.all_eq_true.1 hr l hl) n hn
  simp only [inB,Bool.and_eq_true,decide_eq_true_eq] at h2
  exact inr_small (by omega) (by omega)
theorem rest_any (n:Int) {by_:Int} (h:0 < by_) (h2:by_≤9223372036854775807):∃ r,r0Rest n by_=some r∧0≤r∧r < by_:=by
  unfold r0Rest
  rw [if_pos (by omega)]
  have e:=Int.tmod_eq_emod (a:=n) (b:=by_)
  have h0:=Int.emod_nonneg n (show by_ ≠ 0 by omega)
  have h1:=Int.emod_lt_of_pos n h
  have e2:(by_.natAbs:Int)=by_:=by omega
  by_cases ht:n.tmod by_ < 0
  · rw [decide_eq_true ht,cond_true]
    unfold r0Rest_k1
    refine ⟨_,rfl,?_⟩
    rw [e] at ht ⊢
    split at ht
    · omega
    · next hn=>
      rw [if_neg hn,e2,wr_id' (by omega) (by omega)]
      omega
  · rw [decide_eq_false ht,cond_false]
    unfold r0Rest_k1
    refine ⟨_,rfl,by omega,?_⟩
    rw [e]
    split <;> omega
theorem At_any (l:List Int) (hl:(l.length:Int)≤9223372036854775807) (n:Int):∃ v,r0At l n=some v:=by
  unfold r0At
  by_cases h:l.length=0
  · have:((l.length:Int) == 0)=true:=by rw [beq_iff_eq];omega
    rw [this];exact ⟨0,rfl⟩
  · have e:((l.length:Int) == 0)=false:=by rw [beq_eq_false_iff_ne];omega
    obtain ⟨r,e1,e2,e3⟩:=rest_any n (by_:=(l.length:Int)) (by omega) hl
    rw [e,cond_false,e1,bind_s,idx_int e2 e3]
    exact ⟨_,rfl⟩
theorem From_in (s:Span) (n:Int) (h1:-1000000≤s.Low) (h2:s.Low≤s.High) (h3:s.High≤1000000):∃ v,r0From s n=some v∧s.Low≤v∧v≤s.High:=by
  unfold r0From
  by_cases h:s.High≤s.Low
  · rw [decide_eq_true h,cond_true]
    exact ⟨s.Low,rfl,by omega,by omega⟩
  · rw [decide_eq_false h,cond_false]
    have e:wr (wr (s.High - s.Low) + 1)=s.High - s.Low + 1:=by
      have:wr (s.High - s.Low)=s.High - s.Low:=wr_id' (by omega) (by omega)
      rw [this,wr_id' (by omega) (by omega)]
    rw [e]
    have hd:decide (s.High - s.Low + 1 < 1)=false:=by simp;omega
    obtain ⟨r,e1,e2,e3⟩:=rest_any n (by_:=s.High - s.Low + 1) (by omega) (by omega)
    rw [hd,cond_false,e1,bind_s]
    refine ⟨_,rfl,?_⟩
    rw [wr_id' (by omega) (by omega)]
    omega
theorem wrongF_head {c:BeatCellar} (h:canB c 0=true):wrongF c=some ([],0):=by
  unfold wrongF allc
  rw [List.range_succ_eq_map,List.flatMap_cons]
  simp only [cands,List.cons_append,List.nil_append,List.find?_cons,h]
end Go.Proofs.YtgdfljiliflhfaaGreatDoor.Rt.Bt
