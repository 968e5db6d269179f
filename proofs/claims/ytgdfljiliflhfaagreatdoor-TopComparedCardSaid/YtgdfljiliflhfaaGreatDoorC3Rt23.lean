/- The small program logic of this seat, part 23: calls that leave the world as it was; slices.SortFunc at slices of whole numbers. Under no conditions but those that each rule names. -/
import Derived.Test.YtgdfljiliflhfaaGreatDoorC3Rt22
import Derived.Test.YtgdfljiliflhfaaGreatDoorC3Pl1
import Derived.Shelf.SlSortCmp.NoneTotal
set_option linter.unusedVariables false
set_option linter.unusedSimpArgs false
set_option maxRecDepth 100000
namespace Go.Proofs.YtgdfljiliflhfaaGreatDoor.Rt
open Go Go.RowKit Go.Proofs Go.Sort Go.Shelf
def RetQ (w:World) (v:Value) (e:Ending) (w':World):Prop:=e=.returned v∧w'=w
section
variable {P:Program} {N:Nat} {rs:List Nat} {r:Option Nat} {vs:List (Nat × Value)} {a:Act} {w:World} {ops:Array Oper} {Q:Exit→Act→World→Prop} {rest:List Oper}
variable {d:Nat} {ty:TypeId} {pos:String} {aft:Array Edge} {w0:World} {D0 D:Stab} {ls:List (Nat × LR)} {v:Value}
theorem O.callQ {xs:List Operand} {Ts:Array TypeId} {f:FuncId} {us:List Value} (hc:callable P f=true) (hF:Frm N rs vs a)
    (hcall:Calls P f us.toArray w (RetQ w v)) (hxs:evs vs xs=some us) (hd:Nat.ble (d + 1) N=true)
    (h:∀ a',Frm N rs ((d,v)::vs) a'→WL r P ops Q rest a' w):
    WL r P ops Q (⟨some d,.call ⟨.value (.func f),xs.toArray,Ts⟩,ty,pos,aft,none⟩::rest) a w:=
  O.callF hc hF hxs hd hcall (fun _ _ h=>⟨v,h.1⟩) fun u a' w' hR hF'=>by
    obtain ⟨e,rfl⟩:=hR
    injection e with e
    subst e
    exact h a' hF'
theorem leaveQ {fn:Func} {xs:List ResultVar} {us:List Value} (hr:fn.results=xs.toArray) (hF:Frm N [] vs a) (hS:St w0 D0 D ls w) (h:RVs P vs ls xs us) (hv:tup us=v):base P fn (RetQ w v) .ret a w:=by
  show LeavesInM (Fw none) 0 P fn a.tmps (RetQ w v) a.defers .returning w
  rw [hF.defers]
  exact ⟨tup us,run_results hr hF hS h (fun _ _ _ _ _=>rfl),by rw [hv],rfl⟩
end
def cmpL:List Int→List Int→Int
  | [],[]=>0
  | [],_::_=>-1
  | _::_,[]=>1
  | x::xs,y::ys=>if x < y then -1 else if x > y then 1 else cmpL xs ys
theorem cmpL_lt:∀ (a b:List Int),cmpL a b < 0 ↔ a < b
  | [],[]=>by simp [cmpL]
  | [],y::ys=>by simp [cmpL]
  | x::xs,[]=>by simp [cmpL]
  | x::xs,y::ys=>by
    simp only [cmpL,List.cons_lt_cons_iff]
    by_cases h1:x < y
    · simp [h1]
    · by_cases h2:x > y
      · rw [if_neg h1,if_pos h2]
        constructor
        · intro h;omega
        · rintro (h | ⟨h,_⟩)
          · exact absurd h h1
          · omega
      · have e:x=y:=by omega
        subst e
        simp [cmpL_lt xs ys]
theorem ltOf_cmpL (a b:List Int):ltOf cmpL a b=decide (a < b):=by
  simp only [ltOf,cmpL_lt]
theorem cmpL_swo:SWO (ltOf cmpL) where
  irrefl x:=by simp [ltOf_cmpL]
  trans x y z:=by
    simp only [ltOf_cmpL,decide_eq_true_eq]
    exact List.lt_trans
  ntrans x y z:=by
    simp only [ltOf_cmpL,decide_eq_false_iff_not,List.not_lt]
    exact fun h1 h2=>List.le_trans h2 h1
theorem cmpL_total (x y:List Int):ltOf cmpL x y=false→ltOf cmpL y x=false→x=y:=by
  simp only [ltOf_cmpL,decide_eq_false_iff_not,List.not_lt]
  exact fun h1 h2=>List.le_antisymm h2 h1
def sortL (xs:List (List Int)):List (List Int):=xs.mergeSort fun x y => !(ltOf cmpL) y x
theorem sortL_length (xs:List (List Int)):(sortL xs).length=xs.length:=List.length_mergeSort _
theorem sortL_perm (xs:List (List Int)):(sortL xs).Perm xs:=List.mergeSort_perm _ _
theorem sortL_unique {xs ys:List (List Int)} (hp:ys.Perm xs) (hs:ys.Pairwise fun x y=>ltOf cmpL y x=false):ys=sortL xs:=by
  refine List.Perm.eq_of_pairwise (le:=fun x y=>(!ltOf cmpL y x)=true) ?_ ?_ ?_ (hp.trans (sortL_perm xs).symm)
  · intro a b _ _ h1 h2
    simp only [Bool.not_eq_true'] at h1 h2
    exact cmpL_total a b h2 h1
  · exact hs.imp fun h=>by simpa using h
  · refine List.pairwise_mergeSort ?_ ?_ _
    · intro a b c h1 h2
      simp only [Bool.not_eq_true'] at h1 h2 ⊢
      exact cmpL_swo.ntrans c b a h2 h1
    · intro a b
      simp only [ltOf_cmpL,Bool.or_eq_true,Bool.not_eq_true',decide_eq_false_iff_not,List.not_lt]
      exact List.le_total a b
def Itm (D:Stab):Type:={x:(Option Addr × Nat) × List Int // SRc C_int D x.2 x.1.1 x.1.2∧x.2.length≤lim}
def Itm.l {D:Stab} (x:Itm D):List Int:=x.1.2
def Itm.enc {D:Stab} (x:Itm D):Value:=.slice x.1.1.1 x.1.2.length x.1.1.2
instance itmInh {D:Stab}:Inhabited (Itm D):=⟨⟨((none,0),[]),SRc.nil,Nat.zero_le _⟩⟩
theorem reps_itm {D:Stab}:∀ {xs:List (List Int)} {cs:List Value},Reps (C_sl C_int) D xs cs→(∀ x ∈ xs,x.length≤lim)→∃ d:List (Itm D),d.map Itm.l=xs∧d.map Itm.enc=cs
  | [],_,h,_=>⟨[],rfl,by cases h;rfl⟩
  | x::xs,_,⟨c,r,e,⟨p,k,e2,hs⟩,hr⟩,hb=>by
    subst e;subst e2
    obtain ⟨d,h1,h2⟩:=reps_itm hr fun y hy=>hb y (by simp [hy])
    exact ⟨(⟨((p,k),x),hs,hb x (by simp)⟩:Itm D)::d,congrArg (List.cons x) h1,congrArg (List.cons (Value.slice p x.length k)) h2⟩
theorem itm_reps {D:Stab}:∀ d:List (Itm D),Reps (C_sl C_int) D (d.map Itm.l) (d.map Itm.enc)
  | []=>rfl
  | x::d=>⟨[x.enc],d.map Itm.enc,rfl,⟨_,_,rfl,x.2.1⟩,itm_reps d⟩
section
variable {P:Program} {ρ:Ren} {w0 w:World} {D0 D:Stab} {ls:List (Nat × LR)}
theorem heap_sortWorld {α:Type} [Inhabited α] (enc:α→Value) (w:World) (blk n:Nat) (d:Array α) (os:Array Obj) {k:Nat} (hk:k < w.heap.size) (hne:k ≠ blk):(sortWorld enc w blk 0 n d os).heap[k]?=w.heap[k]?:=by
  have h1:(putRow enc (Sort.ahead w n) blk 0 d).heap.size=w.heap.size:=by simp [Sort.ahead]
  show ((putRow enc (Sort.ahead w n) blk 0 d).heap ++ os)[k]?=_
  rw [Array.getElem?_append,if_pos (by rw [h1];exact hk)]
  show (w.heap.modify blk _)[k]?=_
  rw [Array.getElem?_modify,if_neg (fun e=>hne e.symm)]
theorem row_sortWorld {α:Type} [Inhabited α] (enc:α→Value) (w:World) (blk n:Nat) (d:Array α) (os:Array Obj) {cur:Array Value} {E:TypeId} {fr:Nat × Nat} (hb:w.heap[blk]?=some (.cells cur E fr)):
    (sortWorld enc w blk 0 n d os).heap[blk]?=some (.cells (putCells enc 0 d cur) E fr):=by
  have hlt:blk < w.heap.size:=(Array.getElem?_eq_some_iff.1 hb).1
  have h1:(putRow enc (Sort.ahead w n) blk 0 d).heap.size=w.heap.size:=by simp [Sort.ahead]
  show ((putRow enc (Sort.ahead w n) blk 0 d).heap ++ os)[blk]?=_
  rw [Array.getElem?_append,if_pos (by rw [h1];exact hlt)]
  show (w.heap.modify blk _)[blk]?=_
  rw [Array.getElem?_modify,if_pos rfl,hb]
  rfl
theorem size_sortWorld {α:Type} [Inhabited α] (enc:α→Value) (w:World) (blk n:Nat) (d:Array α) (os:Array Obj):w.heap.size≤(sortWorld enc w blk 0 n d os).heap.size:=by
  have h1:(putRow enc (Sort.ahead w n) blk 0 d).heap.size=w.heap.size:=by simp [Sort.ahead]
  show _≤((putRow enc (Sort.ahead w n) blk 0 d).heap ++ os).size
  rw [Array.size_append,h1];exact Nat.le_add_right _ _
theorem run_sort (L:SlLaysF.n6 P ρ) {g:Nat} (hg:callable P g=true)
    (hcmp:∀ (w:World) (D:Stab),D.on w→∀ (a b:List Int) (p:Option Addr) (c:Nat) (p':Option Addr) (c':Nat),SRc C_int D a p c→SRc C_int D b p' c'→a.length≤lim→b.length≤lim →
      Calls P g [.slice p a.length c,.slice p' b.length c'].toArray w (RetQ w (.int .i64 (cmpL a b))))
    {i:Nat} {p:Option Addr} {c:Nat} {xs:List (List Int)} {cs:List Value} {E:TypeId} (hS:St w0 D0 D ls w) (hl:lk ls i=some (.own p xs.length c cs E 1)) (hR:Reps (C_sl C_int) D xs cs) (hlim:xs.length≤lim∧∀ x ∈ xs,x.length≤lim):
    Calls P (ρ.f 6) [.slice p xs.length c,.func (.func g) #[] #[]].toArray w fun e w'=>e=.returned (.tuple #[]) ∧
      ∃ cs',Reps (C_sl C_int) D (sortL xs) cs'∧St w0 D0 D ((i,.own p (sortL xs).length c cs' E 1)::ls) w':=by
  have hown:w.ownsRow 0 E 1 (.slice p xs.length c) xs.length cs:=hS.each i _ hl
  rw [sortL_length]
  obtain ⟨hlen,h | ⟨blk,cap,cur,h1,_,h3,h4,h5,h6,h7⟩⟩:=hown
  · have e:xs=[]:=List.eq_nil_of_length_eq_zero h.2
    subst e
    refine (AnyF.slices_SortFunc_none (P:=P) (ρ:=ρ) { L with } p c (.func (.func g) #[] #[]) w).mono ?_
    rintro e w' ⟨rfl,rfl⟩
    refine ⟨rfl,cs,by rw [show sortL []=[] from List.eq_nil_of_length_eq_zero (sortL_length [])];exact hR,?_⟩
    exact hS.turn i _ hS.below (fun _ _ _=>rfl) (hS.each i _ hl) (fun b hb=>.inr ⟨_,hl,hb⟩)
  · injection h1 with h1 _ hc
    subst h1;subst hc
    obtain ⟨hnlim,hlim⟩:=hlim
    obtain ⟨d,e1,e2⟩:=reps_itm hR hlim
    have hdl:d.length=xs.length:=by rw [← e1,List.length_map]
    have hblk:blk < w.heap.size:=(Array.getElem?_eq_some_iff.1 h3).1
    have hlow:=hS.low i _ hl blk (by simp [LR.fp])
    have hgetE:∀ (d':List (Itm D)) (j:Nat) (hj:j < d'.length),(d'.toArray)[j]! = d'[j]:=fun d' j hj=>by
      rw [getElem!_pos d'.toArray j (by simpa using hj)];simp
    have hH:Holds (Itm.enc (D:=D)) w blk 0 d.toArray:=by
      intro j hj
      have hj':j < d.length:=by simpa using hj
      refine ⟨?_,?_⟩
      · rw [cell_of_heap h3,hgetE d j hj',Nat.zero_add]
        have:(cur.toList.take (xs.length * 1))[j]?=some (d[j]).enc:=by
          rw [h7,← e2,List.getElem?_map,List.getElem?_eq_getElem hj'];rfl
        rw [List.getElem?_take] at this
        split at this
        · rw [← Array.getElem?_toList];exact this
        · cases this
      · simp [World.frozen?,h3]
    have hpair:∀ (m:Nat) (os:Array Obj) (dk:Array (Itm D)),D.on (sortWorld Itm.enc w blk 0 m dk os):=by
      intro m os dk b o hbo
      have hb:=hS.stab b o hbo
      rw [heap_sortWorld _ _ _ _ _ _ (Array.getElem?_eq_some_iff.1 hb).1 (fun e=>by subst e;rw [hlow.2] at hbo;cases hbo)]
      exact hb
    have hC:CmpLays1 P g #[] (Itm.enc (D:=D)) (fun x y=>cmpL x.l y.l) blk 0 d.toArray.size w:=by
      intro m os dk _ x y
      refine (hcmp _ D (hpair m os dk) x.l y.l x.1.1.1 x.1.1.2 y.1.1.1 y.1.1.2 x.2.1 y.2.1 x.2.2 y.2.2).mono ?_
      rintro e w' ⟨rfl,rfl⟩
      exact ⟨rfl,0,#[],by rw [grow_empty];rfl⟩
    have hO:SWO (ltOf fun x y:Itm D=>cmpL x.l y.l):=⟨fun x=>cmpL_swo.irrefl x.l,fun x y z=>cmpL_swo.trans x.l y.l z.l,fun x y z=>cmpL_swo.ntrans x.l y.l z.l⟩
    have hcall:=Any.slices_SortFunc L (Itm.enc (D:=D)) (fun x=>rfl) (fun x y=>cmpL x.l y.l) hO g #[] blk 0 c d.toArray w (fun args w=>run_callFunc_of hg) hC hH hblk (by simp only [List.size_toArray,hdl];simp only [lim] at hnlim;omega)
    rw [List.size_toArray,hdl] at hcall
    refine hcall.mono ?_
    rintro e w' ⟨rfl,d',n,os,hp,hs,rfl⟩
    obtain ⟨hsz,_,hperm⟩:=hp
    rw [List.size_toArray] at hsz
    have hsz':d'.size=xs.length:=hsz.trans hdl
    have x1:d'.extract 0 xs.length=d':=by rw [← hsz'];exact Array.extract_size
    have x2:d.toArray.extract 0 xs.length=d.toArray:=by
      have e:d.toArray.size=xs.length:=by rw [List.size_toArray];exact hdl
      rw [← e];exact Array.extract_size
    rw [x1,x2] at hperm
    have hsort:d'.toList.map Itm.l=sortL xs:=by
      refine sortL_unique (by rw [← e1];exact hperm.map _) ?_
      rw [List.pairwise_map,List.pairwise_iff_getElem]
      intro a b ha hb hab
      have ha':a < d'.size:=by simpa using ha
      have hb':b < d'.size:=by simpa using hb
      have:=hs a b (Nat.zero_le _) hab (by omega)
      rw [getElem!_pos d' b hb',getElem!_pos d' a ha'] at this
      simpa [ltOf] using this
    have hcells:(putCells Itm.enc 0 d' cur).toList.take (xs.length * 1)=d'.toList.map Itm.enc:=by
      apply List.ext_getElem?
      intro j
      rw [List.getElem?_take,List.getElem?_map,Nat.mul_one]
      by_cases hj:j < xs.length
      · rw [if_pos hj,Array.getElem?_toList]
        have hjc:j < cur.size:=by rw [h6];omega
        have hjd:j < d'.size:=by omega
        simp only [putCells,Array.getElem?_mapIdx,Array.getElem?_eq_getElem hjc,Option.map_some,Nat.zero_le,true_and,Nat.zero_add,if_pos hjd,Nat.sub_zero]
        rw [getElem!_pos d' j hjd,Array.getElem?_toList,Array.getElem?_eq_getElem hjd]
        rfl
      · rw [if_neg hj,List.getElem?_eq_none (by rw [Array.length_toList];omega)]
        rfl
    refine ⟨rfl,d'.toList.map Itm.enc,by rw [← hsort];exact itm_reps _,hS.turn i _ ⟨hS.below.os,hS.below.tape,hS.below.output,Nat.le_trans hS.below.size (size_sortWorld _ _ _ _ _ _),fun k hk=>?_⟩ (fun k hk hno=>?_) ?_ (fun b hb=>.inr ⟨_,hl,by simpa [LR.fp] using hb⟩)⟩
    · rw [heap_sortWorld _ _ _ _ _ _ (Nat.lt_of_lt_of_le hk hS.below.size) (fun e=>by have:=hlow.1;omega)]
      exact hS.below.block k hk
    · exact heap_sortWorld _ _ _ _ _ _ hk (fun e=>by subst e;exact hno _ hl (by simp [LR.fp]))
    · exact ⟨by simp;omega,.inr ⟨blk,c,_,rfl,Nat.zero_le _,row_sortWorld _ _ _ _ _ _ h3,h4,h5,by simp [putCells,h6],hcells⟩⟩
variable {N:Nat} {rs:List Nat} {r:Option Nat} {vs:List (Nat × Value)} {a:Act} {ops:Array Oper} {Q:Exit→Act→World→Prop} {rest:List Oper}
variable {d:Nat} {ty:TypeId} {pos:String} {aft:Array Edge}
theorem O.sortOwn (L:SlLaysF.n6 P ρ) {f g:Nat} (hf:ρ.f 6=f) (hcf:callable P f=true) (hg:callable P g=true)
    (hcmp:∀ (w:World) (D:Stab),D.on w→∀ (a b:List Int) (p:Option Addr) (c:Nat) (p':Option Addr) (c':Nat),SRc C_int D a p c→SRc C_int D b p' c'→a.length≤lim→b.length≤lim →
      Calls P g [.slice p a.length c,.slice p' b.length c'].toArray w (RetQ w (.int .i64 (cmpL a b))))
    {x y:Operand} {Ts:Array TypeId} (i:Nat) {p:Option Addr} {c:Nat} {xs:List (List Int)} {cs:List Value} {E:TypeId} (hF:Frm N rs vs a) (hx:ev vs x=some (.slice p xs.length c)) (hy:ev vs y=some (.func (.func g) #[] #[]))
    (hS:St w0 D0 D ls w) (hl:lk ls i=some (.own p xs.length c cs E 1)) (hR:Reps (C_sl C_int) D xs cs) (hlim:xs.length≤lim∧∀ x ∈ xs,x.length≤lim) (hd:Nat.ble (d + 1) N=true)
    (h:∀ cs' a' w',Frm N rs ((d,.tuple #[])::vs) a'→St w0 D0 D ((i,.own p (sortL xs).length c cs' E 1)::ls) w'→Reps (C_sl C_int) D (sortL xs) cs'→WL r P ops Q rest a' w'):
    WL r P ops Q (⟨some d,.call ⟨.value (.func f),#[x,y],Ts⟩,ty,pos,aft,none⟩::rest) a w:=by
  subst hf
  have hxs:evs vs [x,y]=some [.slice p xs.length c,.func (.func g) #[] #[]]:=by simp only [evs,hx,hy]
  refine O.callF (xs:=[x,y]) hcf hF hxs hd (run_sort L hg hcmp hS hl hR hlim) (fun _ _ h=>⟨_,h.1⟩) fun u a' w' hR hF'=>?_
  obtain ⟨e,cs',h1,h2⟩:=hR
  injection e with e
  subst e
  exact h cs' a' w' hF' h2 h1
end
end Go.Proofs.YtgdfljiliflhfaaGreatDoor.Rt
