/- The small program logic of this seat, part 22: a map of slices that the call owns, as one thing. Under no conditions but those that each rule names. -/
import Derived.Test.YtgdfljiliflhfaaGreatDoorC3Rt21
set_option linter.unusedVariables false
set_option linter.unusedSimpArgs false
set_option maxRecDepth 100000
namespace Go.Proofs.YtgdfljiliflhfaaGreatDoor.Rt
open Go Go.RowKit
section
variable {K α:Type} {kl:K→List Int} {C:Codec α} {E:TypeId} {w0 w:World} {D0 D D':Stab} {ls:List (Nat × LR)} {hp:Nat→Option Obj}
def OMR (kl:K→List Int) (C:Codec α) (E:TypeId) (D:Stab) (ws:List (K × List α)) (es:Array MapEntry) (clk:Nat) (S:List Nat) (hp:Nat→Option Obj):Prop:=
  ∃ hs,MRepB kl C_hdr false D hs es clk∧OMap C E D hp ws hs S∧S.Nodup
theorem OMR.mono {ws:List (K × List α)} {es:Array MapEntry} {clk:Nat} {S:List Nat} (h:OMR kl C E D ws es clk S hp) (hle:D.le D'):OMR kl C E D' ws es clk S hp:=by
  obtain ⟨hs,h1,h2,h3⟩:=h
  exact ⟨hs,h1.mono hle,h2.mono hle,h3⟩
theorem OMR.nil:OMR kl C E D ([]:List (K × List α)) #[] 0 [] hp:=⟨[],MRepB.nil,OMap.nil,List.nodup_nil⟩
theorem St.snap0 (hS:St w0 D0 D ls w) (j:Nat):St w0 D0 D ((j,.snap [] fun _=>none)::ls) w:=
  hS.turn j _ hS.below (fun _ _ _=>rfl) (fun b hb=>by simp at hb) (fun b hb=>by simp [LR.fp] at hb)
theorem St.freezeOMR {S:List Nat} {i b:Nat} (j:Nat) (hij:i ≠ j) {es:Array MapEntry} {clk:Nat} {ws:List (K × List α)} (hS:St w0 D0 D ls w) (hi:lk ls i=some (.obj b (.map es clk))) (hl:lk ls j=some (.snap S hp))
    (hM:OMR kl C E D ws es clk S hp):∃ D',D.le D'∧MapB kl (C_sl C) false D' ws (some b)∧St w0 D0 D' ((i,.gone)::(j,.gone)::ls) w:=by
  obtain ⟨hs,h1,h2,h3⟩:=hM
  exact hS.freezeOM hij hi hl h1 h2
def OMOpen (kl:K→List Int) (C:Codec α) (E:TypeId) (D:Stab) (ws:List (K × List α)) (hs:List (K × Hdr)) (k:K) (S1:List Nat) (hp:Nat→Option Obj):Prop:=
  ∃ S,OMap C E D hp ws hs S∧S.Nodup∧((mget kl ws k=none∧S1=S)∨∃ h0 g0,mget kl hs k=some h0∧h0.p=some ⟨g0,0,none⟩∧g0 ∈ S∧S1=S.erase g0)
theorem OMOpen.mono {ws:List (K × List α)} {hs:List (K × Hdr)} {k:K} {S1:List Nat} (h:OMOpen kl C E D ws hs k S1 hp) (hle:D.le D'):OMOpen kl C E D' ws hs k S1 hp:=by
  obtain ⟨S,h1,h2⟩:=h
  exact ⟨S,h1.mono hle,h2⟩
theorem Stamp.mono {P:Program} {T:TypeId} {b:Nat} {hs:List (K × Hdr)} {k:K} {es1:Array MapEntry} {clk1 st:Nat} (h:Stamp P kl D T b hs k es1 clk1 st) (hle:D.le D'):Stamp P kl D' T b hs k es1 clk1 st:=by
  intro h'
  obtain ⟨es2,h1,h2⟩:=h h'
  exact ⟨es2,h1.mono hle,h2⟩
theorem OMR.open {ws:List (K × List α)} {hs:List (K × Hdr)} {S:List Nat} {j:Nat} (i:Nat) (hij:i ≠ j) (k:K) (hO:OMap C E D hp ws hs S) (hnd:S.Nodup) (hS:St w0 D0 D ls w) (hl:lk ls j=some (.snap S hp)):
    ∃ p c cs S1,(mget kl hs k).getD hdr0=⟨p,((mget kl ws k).getD []).length,c⟩∧Reps C D ((mget kl ws k).getD []) cs ∧
      St w0 D0 D ((i,.own p ((mget kl ws k).getD []).length c cs E C.n)::(j,.snap S1 hp)::ls) w∧OMOpen kl C E D ws hs k S1 hp:=by
  rcases OMap.get (kl:=kl) k hO with ⟨g1,g2⟩ | ⟨xs,h,g,g1,g2,g3,g4⟩
  · rw [g1,g2]
    refine ⟨none,0,[],S,rfl,Reps.nil,?_,S,hO,hnd,.inl ⟨g1,rfl⟩⟩
    have h1:=hS.turn j (.snap S hp) hS.below (fun _ _ _=>rfl) (hS.each j _ hl) (fun b hb=>.inr ⟨_,hl,hb⟩)
    exact h1.ownNil i E C.n
  · rw [g1,g2]
    obtain ⟨cs,r1,r2⟩:=hS.take i hij hl hnd g3 g4
    refine ⟨h.p,h.c,cs,S.erase g,?_,r1,r2,S,hO,hnd,.inr ⟨h,g,g2,g4.1,g3,rfl⟩⟩
    show h=_
    have:=g4.2.1
    cases h
    simp only at this
    subst this
    rfl
variable {P:Program} {N:Nat} {rs:List Nat} {r:Option Nat} {vs:List (Nat × Value)} {a:Act} {ops:Array Oper} {Q:Exit→Act→World→Prop} {rest:List Oper}
variable {d n:Nat} {kt ty:TypeId} {pos:String} {aft:Array Edge}
theorem O.mapEntryOM {T:TypeId} {x y:Operand} {ws:List (K × List α)} {S:List Nat} {b:Nat} {es:Array MapEntry} {clk:Nat} (m j i:Nat) (hij:i ≠ j) (hmj:m ≠ j) (him:i ≠ m) {E':TypeId} (hT:MapT P T kt E' n false [.slice none 0 0]) (hkl:∀ k,(kl k).length=n) (k:K)
    (hM:OMR kl C E D ws es clk S hp) (hF:Frm N rs vs a) (hx:ev vs x=some (.map (some b))) (hy:ev vs y=some (.agg (ints (kl k)).toArray)) (hS:St w0 D0 D ls w) (hl:lk ls m=some (.obj b (.map es clk))) (hlj:lk ls j=some (.snap S hp)) (hd:Nat.ble (d + 1) N=true)
    (h:∀ es1 clk1 st p c cs S1 hs a' w',Frm N rs ((d,.tuple #[.slice p ((mget kl ws k).getD []).length c,.int .i64 (st:Nat)])::vs) a' →
      St w0 D0 D ((i,.own p ((mget kl ws k).getD []).length c cs E C.n)::(j,.snap S1 hp)::(m,.obj b (.map es1 clk1))::ls) w'→Reps C D ((mget kl ws k).getD []) cs→Stamp P kl D T b hs k es1 clk1 st→OMOpen kl C E D ws hs k S1 hp→WL r P ops Q rest a' w'):
    WL r P ops Q (⟨some d,.mapEntry T x y,ty,pos,aft,none⟩::rest) a w:=by
  obtain ⟨hs,h1,h2,h3⟩:=hM
  refine O.mapEntry m hT hkl k h1 hF hx hy hS hl hd fun es1 clk1 st a' w' hF' hS' hK=>?_
  have hlj':lk ((m,.obj b (.map es1 clk1))::ls) j=some (.snap S hp):=by rw [lk_ne hmj];exact hlj
  obtain ⟨p,c,cs,S1,e1,e2,e3,e4⟩:=OMR.open (kl:=kl) i hij k h2 h3 hS' hlj'
  rw [e1] at hF'
  exact h es1 clk1 st p c cs S1 hs a' w' hF' e3 e2 hK e4
theorem O.entryStoreOM {T:TypeId} {x y u:Operand} {ws:List (K × List α)} {hs:List (K × Hdr)} {k:K} {b st:Nat} {es1:Array MapEntry} {clk1:Nat} {S1:List Nat} {xs:List α} {p:Option Addr} {c:Nat} {cs:List Value} (m j i:Nat) (hij:i ≠ j) (hmj:m ≠ j) (him:i ≠ m)
    (hK:Stamp P kl D T b hs k es1 clk1 st) (hO:OMOpen kl C E D ws hs k S1 hp) (hR:Reps C D xs cs) (hne:xs ≠ []) (hF:Frm N rs vs a) (hx:ev vs x=some (.map (some b))) (hy:ev vs y=some (.int .i64 st))
    (hu:ev vs u=some (.slice p xs.length c)) (hS:St w0 D0 D ls w) (hl:lk ls m=some (.obj b (.map es1 clk1))) (hlj:lk ls j=some (.snap S1 hp)) (hli:lk ls i=some (.own p xs.length c cs E C.n))
    (h:∀ es2 S2 hp2 a' w',Frm N rs vs a'→St w0 D0 D ((i,.gone)::(j,.snap S2 hp2)::(m,.obj b (.map es2 clk1))::ls) w'→OMR kl C E D (mput kl ws k xs) es2 clk1 S2 hp2→WL r P ops Q rest a' w'):
    WL r P ops Q (⟨none,.entryStore T x y u,ty,pos,aft,none⟩::rest) a w:=by
  refine O.entryStore m ⟨p,xs.length,c⟩ hK hF hx hy hu hS hl fun es2 a' w' hF' hS' hM'=>?_
  have hlj':lk ((m,.obj b (.map es2 clk1))::ls) j=some (.snap S1 hp):=by rw [lk_ne hmj];exact hlj
  have hli':lk ((m,.obj b (.map es2 clk1))::ls) i=some (.own p xs.length c cs E C.n):=by rw [lk_ne (fun e=>him e.symm)];exact hli
  obtain ⟨g,hp',f1,f2,f3,f4⟩:=hS'.put hij hli' hlj' hR hne
  obtain ⟨S,o1,o2,o3⟩:=hO
  rcases o3 with ⟨n1,rfl⟩ | ⟨h0,g0,n1,n2,n3,rfl⟩
  · refine h es2 (S1 ++ [g]) hp' a' w' hF' (f4 _ fun b hb=>?_) ⟨_,hM',OMap.put0 (o1.at f1) n1 f2,List.nodup_append.2 ⟨o2,by simp,fun a ha b hb e=>?_⟩⟩
    · rcases List.mem_append.1 hb with hb | hb
      · exact .inr hb
      · exact .inl (List.mem_singleton.1 hb)
    · subst e;rw [List.mem_singleton.1 hb] at ha;exact f3 ha
  · obtain ⟨S',i1,i2,i3⟩:=OMap.put1 (kl:=kl) (hp':=hp') n2 o1 o2 n1 (fun b hb hne=>f1 b ((o2.mem_erase_iff).2 ⟨hne,hb⟩)) f2 (by
      by_cases e:g=g0
      · exact .inl e
      · exact .inr fun hm=>f3 ((o2.mem_erase_iff).2 ⟨e,hm⟩))
    exact h es2 S' hp' a' w' hF' (f4 _ fun b hb=>(i3 b hb).imp id fun h=>(o2.mem_erase_iff).2 ⟨h.2,h.1⟩) ⟨_,hM',i1,i2⟩
end
end Go.Proofs.YtgdfljiliflhfaaGreatDoor.Rt
