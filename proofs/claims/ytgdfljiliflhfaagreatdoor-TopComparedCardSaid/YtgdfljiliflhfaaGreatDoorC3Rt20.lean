/- The small program logic of this seat, part 20: maps of slices that the call owns, and grows. Under no conditions but those that each rule names. -/
import Derived.Test.YtgdfljiliflhfaaGreatDoorC3Rt19
set_option linter.unusedVariables false
set_option linter.unusedSimpArgs false
set_option maxRecDepth 100000
namespace Go.Proofs.YtgdfljiliflhfaaGreatDoor.Rt
open Go Go.RowKit
structure Hdr where
  p:Option Addr
  n:Nat
  c:Nat
def C_hdr:Codec Hdr:=⟨1,fun _ h cs=>cs=[.slice h.p h.n h.c],by rintro _ _ _ rfl;rfl,fun _ h=>h,by rintro _ _ _ rfl;rfl⟩
def hdr0:Hdr:=⟨none,0,0⟩
section
variable {K α:Type} {kl:K→List Int} {C:Codec α} {E:TypeId} {D D':Stab} {hp hp':Nat→Option Obj}
def RowIn (C:Codec α) (E:TypeId) (D:Stab) (hp:Nat→Option Obj) (xs:List α) (h:Hdr) (g:Nat):Prop:=
  h.p=some ⟨g,0,none⟩∧h.n=xs.length∧∃ cur,hp g=some (.cells cur E (0,0))∧h.n≤h.c∧h.c≤maxLen∧cur.size=h.c * C.n∧Reps C D xs (cur.toList.take (h.n * C.n))
theorem RowIn.mono {xs:List α} {h:Hdr} {g:Nat} (hr:RowIn C E D hp xs h g) (hle:D.le D'):RowIn C E D' hp xs h g:=by
  obtain ⟨h1,h2,cur,h3,h4,h5,h6,h7⟩:=hr
  exact ⟨h1,h2,cur,h3,h4,h5,h6,h7.mono hle⟩
theorem RowIn.at {xs:List α} {h:Hdr} {g:Nat} (hr:RowIn C E D hp xs h g) (e:hp' g=hp g):RowIn C E D hp' xs h g:=by
  obtain ⟨h1,h2,cur,h3,h4⟩:=hr
  exact ⟨h1,h2,cur,by rw [e];exact h3,h4⟩
def OMap (C:Codec α) (E:TypeId) (D:Stab) (hp:Nat→Option Obj):List (K × List α)→List (K × Hdr)→List Nat→Prop
  | [],hs,S=>hs=[]∧S=[]
  | w::ws,hs,S=>∃ h hs' g S',hs=(w.1,h)::hs'∧S=g::S'∧RowIn C E D hp w.2 h g∧OMap C E D hp ws hs' S'
theorem OMap.mono (hle:D.le D'):∀ {ws:List (K × List α)} {hs:List (K × Hdr)} {S:List Nat},OMap C E D hp ws hs S→OMap C E D' hp ws hs S
  | [],_,_,h=>h
  | w::ws,_,_,⟨h,hs',g,S',e1,e2,h1,h2⟩=>⟨h,hs',g,S',e1,e2,h1.mono hle,OMap.mono hle h2⟩
theorem OMap.at:∀ {ws:List (K × List α)} {hs:List (K × Hdr)} {S:List Nat},OMap C E D hp ws hs S→(∀ b ∈ S,hp' b=hp b)→OMap C E D hp' ws hs S
  | [],_,_,h,_=>h
  | w::ws,_,_,⟨h,hs',g,S',e1,e2,h1,h2⟩,he=>by
    subst e2
    exact ⟨h,hs',g,S',e1,rfl,h1.at (he g (by simp)),h2.at fun b hb=>he b (by simp [hb])⟩
theorem OMap.nil:OMap C E D hp ([]:List (K × List α)) [] []:=⟨rfl,rfl⟩
theorem OMap.get (k:K):∀ {ws:List (K × List α)} {hs:List (K × Hdr)} {S:List Nat},OMap C E D hp ws hs S →
    (mget kl ws k=none∧mget kl hs k=none)∨∃ xs h g,mget kl ws k=some xs∧mget kl hs k=some h∧g ∈ S∧RowIn C E D hp xs h g
  | [],_,_,⟨h,_⟩=>by subst h;exact .inl ⟨rfl,rfl⟩
  | w::ws,_,_,⟨h,hs',g,S',e1,e2,h1,h2⟩=>by
    subst e1;subst e2
    cases hb:(kl k == kl w.1) with
    | true=>exact .inr ⟨w.2,h,g,by simp [mget,hb],by simp [mget,hb],by simp,h1⟩
    | false=>
      rcases OMap.get k h2 with ⟨g1,g2⟩ | ⟨xs,h',g',g1,g2,g3,g4⟩
      · exact .inl ⟨by simp [mget,hb,g1],by simp [mget,hb,g2]⟩
      · exact .inr ⟨xs,h',g',by simp [mget,hb,g1],by simp [mget,hb,g2],by simp [g3],g4⟩
theorem OMap.put0 {k:K} {v:List α} {h':Hdr} {g':Nat}:∀ {ws:List (K × List α)} {hs:List (K × Hdr)} {S:List Nat},OMap C E D hp ws hs S→mget kl ws k=none→RowIn C E D hp v h' g' →
    OMap C E D hp (mput kl ws k v) (mput kl hs k h') (S ++ [g'])
  | [],_,_,⟨h,hS⟩,_,hr=>by subst h;subst hS;exact ⟨h',[],g',[],rfl,rfl,hr,rfl,rfl⟩
  | w::ws,_,_,⟨h,hs',g,S',e1,e2,h1,h2⟩,hn,hr=>by
    subst e1;subst e2
    cases hb:(kl k == kl w.1) with
    | true=>simp [mget,hb] at hn
    | false=>
      simp only [mget,hb,cond_false] at hn
      simp only [mput,hb,cond_false]
      exact ⟨h,_,g,S' ++ [g'],rfl,rfl,h1,OMap.put0 h2 hn hr⟩
theorem OMap.put1 {k:K} {v:List α} {h0 h':Hdr} {g0 g':Nat} (hg0:h0.p=some ⟨g0,0,none⟩):∀ {ws:List (K × List α)} {hs:List (K × Hdr)} {S:List Nat},OMap C E D hp ws hs S→S.Nodup→mget kl hs k=some h0 →
    (∀ b ∈ S,b ≠ g0→hp' b=hp b)→RowIn C E D hp' v h' g'→(g'=g0∨g' ∉ S) →
    ∃ S',OMap C E D hp' (mput kl ws k v) (mput kl hs k h') S'∧S'.Nodup∧∀ b,b ∈ S'→b=g'∨(b ∈ S∧b ≠ g0)
  | [],_,_,⟨h,hS⟩,_,hn,_,_,_=>by subst h;simp [mget] at hn
  | w::ws,_,_,⟨h,hs',g,S',e1,e2,h1,h2⟩,hnd,hn,he,hr,hg'=>by
    subst e1;subst e2
    rw [List.nodup_cons] at hnd
    cases hb:(kl k == kl w.1) with
    | true=>
      simp only [mget,hb,cond_true,Option.some.injEq] at hn
      subst hn
      have hgg:g=g0:=by
        have:=h1.1
        rw [hg0] at this
        injection this with this
        injection this with this
        exact this.symm
      subst hgg
      simp only [mput,hb,cond_true]
      refine ⟨g'::S',⟨h',hs',g',S',rfl,rfl,hr,h2.at fun b hb=>he b (by simp [hb]) (fun e=>hnd.1 (e ▸ hb))⟩,List.nodup_cons.2 ⟨fun hm=>?_,hnd.2⟩,fun b hb=>?_⟩
      · rcases hg' with rfl | hg'
        · exact hnd.1 hm
        · exact hg' (by simp [hm])
      rcases List.mem_cons.1 hb with rfl | hb
      · exact .inl rfl
      · exact .inr ⟨by simp [hb],fun e=>hnd.1 (e ▸ hb)⟩
    | false=>
      simp only [mget,hb,cond_false] at hn
      simp only [mput,hb,cond_false]
      have hgne:g ≠ g0:=by
        rintro rfl
        rcases OMap.get (kl:=kl) k h2 with ⟨_,g2⟩ | ⟨xs,h3,g3,_,g5,g6,g7⟩
        · rw [g2] at hn;cases hn
        · rw [g5] at hn
          injection hn with hn
          subst hn
          have:=g7.1
          rw [hg0] at this
          injection this with this
          injection this with this
          exact hnd.1 (this ▸ g6)
      obtain ⟨S2,i1,i0,i2⟩:=OMap.put1 hg0 h2 hnd.2 hn (fun b hb=>he b (by simp [hb])) hr (hg'.imp id fun h hm=>h (by simp [hm]))
      refine ⟨g::S2,⟨h,_,g,S2,rfl,rfl,h1.at (he g (by simp) hgne),i1⟩,List.nodup_cons.2 ⟨fun hm=>?_,i0⟩,fun b hb=>?_⟩
      · rcases i2 g hm with e | h
        · rcases hg' with e2 | hg'
          · exact hgne (e.trans e2)
          · exact hg' (by simp [e])
        · exact hnd.1 h.1
      rcases List.mem_cons.1 hb with rfl | hb
      · exact .inr ⟨by simp,hgne⟩
      · rcases i2 b hb with h | h
        · exact .inl h
        · exact .inr ⟨by simp [h.1],h.2⟩
end
section
variable {K α:Type} {kl:K→List Int} {C:Codec α} {E:TypeId} {w0 w:World} {D0 D:Stab} {ls:List (Nat × LR)} {hp:Nat→Option Obj}
theorem St.take {S:List Nat} {j:Nat} (i:Nat) (hij:i ≠ j) (hS:St w0 D0 D ls w) (hl:lk ls j=some (.snap S hp)) (hnd:S.Nodup) {xs:List α} {h:Hdr} {g:Nat} (hg:g ∈ S) (hr:RowIn C E D hp xs h g):
    ∃ cs,Reps C D xs cs∧St w0 D0 D ((i,.own h.p xs.length h.c cs E C.n)::(j,.snap (S.erase g) hp)::ls) w:=by
  obtain ⟨h1,h2,cur,h3,h4,h5,h6,h7⟩:=hr
  obtain ⟨o,e1,e2⟩:=hS.each j _ hl g hg
  rw [h3] at e1
  injection e1 with e1
  subst e1
  have hlow:=hS.low j _ hl g hg
  refine ⟨_,by rw [h2] at h7;exact h7,hS.below,hS.le,hS.new,hS.stab,fun k x hk=>?_,fun k x hk=>?_,fun k l x y hk hl2 hkl b hb hb'=>?_⟩
  · rcases lk_cons hk with ⟨rfl,rfl⟩ | ⟨_,hk⟩
    · refine ⟨by simp only [List.length_take,Array.length_toList,h6];rw [← h2];exact Nat.min_eq_left (Nat.mul_le_mul_right _ h4),.inr ⟨g,h.c,cur,by rw [h1],Nat.zero_le _,e2,by rw [← h2];exact h4,h5,h6,rfl⟩⟩
    · rcases lk_cons hk with ⟨rfl,rfl⟩ | ⟨_,hk⟩
      · exact fun b hb=>hS.each k _ hl b (List.mem_of_mem_erase hb)
      · exact hS.each k x hk
  · rcases lk_cons hk with ⟨rfl,rfl⟩ | ⟨_,hk⟩
    · intro b hb
      simp only [LR.fp,h1,List.mem_singleton] at hb
      rw [hb];exact hlow
    · rcases lk_cons hk with ⟨rfl,rfl⟩ | ⟨_,hk⟩
      · exact fun b hb=>hS.low k _ hl b (List.mem_of_mem_erase hb)
      · exact hS.low k x hk
  · have hfp:∀ k x,lk ((i,.own h.p xs.length h.c (cur.toList.take (xs.length * C.n)) E C.n)::(j,.snap (S.erase g) hp)::ls) k=some x→(k=i∧x.fp=[g])∨(k ≠ i∧k=j∧x.fp=S.erase g)∨(k ≠ i∧k ≠ j∧lk ls k=some x):=by
      intro k x hk
      rcases lk_cons hk with ⟨rfl,rfl⟩ | ⟨n1,hk⟩
      · left;exact ⟨rfl,by simp [LR.fp,h1]⟩
      · rcases lk_cons hk with ⟨rfl,rfl⟩ | ⟨n2,hk⟩
        · right;left;exact ⟨n1,rfl,rfl⟩
        · right;right;exact ⟨n1,n2,hk⟩
    have hge:g ∉ S.erase g:=fun hm=>((hnd.mem_erase_iff).1 hm).1 rfl
    rw [h2] at *
    rcases hfp k x hk with ⟨rfl,f1⟩ | ⟨m1,rfl,f1⟩ | ⟨m1,m2,f1⟩ <;> rcases hfp l y hl2 with ⟨rfl,f2⟩ | ⟨m3,rfl,f2⟩ | ⟨m3,m4,f2⟩
    · exact hkl rfl
    · rw [f1] at hb;rw [f2] at hb';rw [List.mem_singleton.1 hb] at hb';exact hge hb'
    · rw [f1] at hb;rw [List.mem_singleton.1 hb] at hb';exact hS.sep j l _ y hl f2 (fun e=>m4 e.symm) g hg hb'
    · rw [f1] at hb;rw [f2] at hb';rw [List.mem_singleton.1 hb'] at hb;exact hge hb
    · exact hkl rfl
    · rw [f1] at hb;exact hS.sep k l _ y hl f2 hkl b (List.mem_of_mem_erase hb) hb'
    · rw [f2] at hb';rw [List.mem_singleton.1 hb'] at hb;exact hS.sep k j x _ f1 hl m2 g hb hg
    · rw [f2] at hb';exact hS.sep k l x _ f1 hl hkl b hb (List.mem_of_mem_erase hb')
    · exact hS.sep k l x y f1 f2 hkl b hb hb'
theorem St.put {S:List Nat} {i j:Nat} (hij:i ≠ j) (hS:St w0 D0 D ls w) {p:Option Addr} {c:Nat} {cs:List Value} {xs:List α} (hi:lk ls i=some (.own p xs.length c cs E C.n)) (hl:lk ls j=some (.snap S hp)) (hR:Reps C D xs cs) (hne:xs ≠ []):
    ∃ g hp',(∀ b ∈ S,hp' b=hp b)∧RowIn C E D hp' xs ⟨p,xs.length,c⟩ g∧g ∉ S∧∀ S',(∀ b,b ∈ S'→b=g∨b ∈ S)→St w0 D0 D ((i,.gone)::(j,.snap S' hp')::ls) w:=by
  obtain ⟨hlen,h | ⟨g,cap,cur,h1,_,h3,h4,h5,h6,h7⟩⟩:=hS.each i _ hi
  · exact absurd (List.eq_nil_of_length_eq_zero h.2) hne
  · injection h1 with h1 _ h1c
    subst h1;subst h1c
    have hgS:g ∉ S:=fun hm=>hS.sep i j _ _ hi hl hij g (by simp [LR.fp]) hm
    have hlow:=hS.low i _ hi g (by simp [LR.fp])
    refine ⟨g,fun b=>if b=g then w.heap[g]? else hp b,fun b hb=>if_neg (fun e:b=g=>hgS (e ▸ hb)),⟨rfl,rfl,cur,by simp [h3],h4,h5,h6,by rw [h7];exact hR⟩,hgS,fun S' hS'=>?_⟩
    have hfp:∀ k x,lk ((i,LR.gone)::(j,.snap S' fun b=>if b=g then w.heap[g]? else hp b)::ls) k=some x→(k=i∧x=.gone)∨(k ≠ i∧k=j∧x=.snap S' fun b=>if b=g then w.heap[g]? else hp b)∨(k ≠ i∧k ≠ j∧lk ls k=some x):=by
      intro k x hk
      rcases lk_cons hk with ⟨rfl,rfl⟩ | ⟨n1,hk⟩
      · left;exact ⟨rfl,rfl⟩
      · rcases lk_cons hk with ⟨rfl,rfl⟩ | ⟨n2,hk⟩
        · right;left;exact ⟨n1,rfl,rfl⟩
        · right;right;exact ⟨n1,n2,hk⟩
    refine ⟨hS.below,hS.le,hS.new,hS.stab,fun k x hk=>?_,fun k x hk b hb=>?_,fun k l x y hk hl2 hkl b hb hb'=>?_⟩
    · rcases hfp k x hk with ⟨_,rfl⟩ | ⟨_,_,rfl⟩ | ⟨_,_,hk⟩
      · trivial
      · intro b hb
        by_cases e:b=g
        · subst e
          exact ⟨_,(if_pos rfl).trans h3,h3⟩
        · rcases hS' b hb with e2 | hb
          · exact absurd e2 e
          · obtain ⟨o,o1,o2⟩:=hS.each j _ hl b hb
            exact ⟨o,(if_neg e).trans o1,o2⟩
      · exact hS.each k x hk
    · rcases hfp k x hk with ⟨_,rfl⟩ | ⟨_,_,rfl⟩ | ⟨_,_,hk⟩
      · simp [LR.fp] at hb
      · rcases hS' b hb with rfl | hb
        · exact hlow
        · exact hS.low j _ hl b hb
      · exact hS.low k x hk b hb
    · rcases hfp k x hk with ⟨_,rfl⟩ | ⟨n1,rfl,rfl⟩ | ⟨n1,n2,hk3⟩ <;> rcases hfp l y hl2 with ⟨_,rfl⟩ | ⟨n3,rfl,rfl⟩ | ⟨n3,n4,hl3⟩
      · simp [LR.fp] at hb
      · simp [LR.fp] at hb
      · simp [LR.fp] at hb
      · simp [LR.fp] at hb'
      · exact hkl rfl
      · rcases hS' b hb with rfl | hb
        · exact hS.sep i l _ y hi hl3 (fun e=>n3 e.symm) b (by simp [LR.fp]) hb'
        · exact hS.sep k l _ y hl hl3 hkl b hb hb'
      · simp [LR.fp] at hb'
      · rcases hS' b hb' with rfl | hb'
        · exact hS.sep k i x _ hk3 hi n1 b hb (by simp [LR.fp])
        · exact hS.sep k l x _ hk3 hl hkl b hb hb'
      · exact hS.sep k l x y hk3 hl3 hkl b hb hb'
theorem RowIn.rep {D1:Stab} (hle:D.le D1) {xs:List α} {h:Hdr} {g:Nat} (hr:RowIn C E D hp xs h g) (hD:D1 g=hp g):h.n=xs.length∧SRc C D1 xs h.p h.c:=by
  obtain ⟨h1,h2,cur,h3,h4,h5,h6,h7⟩:=hr
  refine ⟨h2,.inr ⟨g,0,cur,E,(0,0),_,h1,by rw [hD];exact h3,h7.mono hle,fun j u hu=>?_⟩,by rw [← h2];exact h4⟩
  rw [List.getElem?_take] at hu
  split at hu
  · rw [Nat.zero_add,← Array.getElem?_toList];exact hu
  · cases hu
theorem OMap.reps {D1:Stab} (hle:D.le D1):∀ {ws:List (K × List α)} {hs:List (K × Hdr)} {S:List Nat} {es:List MapEntry},OMap C E D hp ws hs S→(∀ b ∈ S,D1 b=hp b)→MReps kl C_hdr false D hs es→MReps kl (C_sl C) false D1 ws es
  | [],_,_,_,⟨h,_⟩,_,hM=>by subst h;exact hM
  | w::ws,_,_,es,⟨h,hs',g,S',e1,e2,h1,h2⟩,hD,hM=>by
    subst e1;subst e2
    obtain ⟨e,es',rfl,k1,⟨cs,k2,k3⟩,k4⟩:=hM
    obtain ⟨r1,r2⟩:=h1.rep hle (hD g (by simp))
    have k2:cs=[.slice h.p h.n h.c]:=k2
    subst k2
    refine ⟨e,es',rfl,k1,⟨_,⟨h.p,h.c,rfl,r2⟩,?_⟩,OMap.reps hle h2 (fun b hb=>hD b (by simp [hb])) k4⟩
    rw [k3,r1]
theorem St.freezeOM {S:List Nat} {i j b:Nat} (hij:i ≠ j) {es:Array MapEntry} {clk:Nat} {ws:List (K × List α)} {hs:List (K × Hdr)} (hS:St w0 D0 D ls w) (hi:lk ls i=some (.obj b (.map es clk))) (hl:lk ls j=some (.snap S hp))
    (hM:MRepB kl C_hdr false D hs es clk) (hO:OMap C E D hp ws hs S):∃ D',D.le D'∧MapB kl (C_sl C) false D' ws (some b)∧St w0 D0 D' ((i,.gone)::(j,.gone)::ls) w:=by
  have hlow:=hS.low j _ hl
  have hon:=hS.each j _ hl
  have hle:D.le (fun k=>if k ∈ S then hp k else D k):=fun k o hk=>by
    by_cases hkS:k ∈ S
    · have:=(hlow k hkS).2;rw [this] at hk;cases hk
    · simp only [if_neg hkS];exact hk
  have hS1:=hS.turn j .gone hS.below (fun _ _ _=>rfl) trivial (fun b hb=>by simp [LR.fp] at hb)
  have hS2:St w0 D0 (fun k=>if k ∈ S then hp k else D k) ((j,.gone)::ls) w:=by
    refine hS1.growD hle (fun k o hk=>?_) (fun k hk=>?_) fun k x hk b hb=>?_
    · by_cases hkS:k ∈ S
      · simp only [if_pos hkS] at hk
        obtain ⟨o',o1,o2⟩:=hon k hkS
        rw [o1] at hk
        injection hk with hk
        rw [o2,hk]
      · simp only [if_neg hkS] at hk;exact hS.stab k o hk
    · by_cases hkS:k ∈ S
      · exact .inr (hlow k hkS).1
      · simp only [if_neg hkS] at hk;exact .inl hk
    · rcases lk_cons hk with ⟨_,rfl⟩ | ⟨n1,hk⟩
      · simp [LR.fp] at hb
      · have:b ∉ S:=fun hm=>hS.sep k j x _ hk hl n1 b hb hm
        simp only [if_neg this]
        exact (hS.low k x hk b hb).2
  obtain ⟨D',h1,h2,h3⟩:=hS2.freezeMB (i:=i) (by rw [lk_ne (fun e=>hij e.symm)];exact hi) (⟨hO.reps hle (fun b hb=>if_pos hb) hM.1,hM.2⟩:MRepB kl (C_sl C) false _ ws es clk)
  exact ⟨D',hle.trans h1,h2,h3⟩
end
end Go.Proofs.YtgdfljiliflhfaaGreatDoor.Rt
