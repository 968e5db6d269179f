/- Walks of the functions of this seat: what each Go function comes to, as a Lean function, and the proof. Arguments read as data. Under no conditions. -/
import Derived.Test.YtgdfljiliflhfaaGreatDoorC3W0
import Derived.Test.YtgdfljiliflhfaaGreatDoorC3Rt13
set_option linter.unusedVariables false
set_option linter.unusedSimpArgs false
set_option maxRecDepth 100000
set_option maxHeartbeats 4000000
namespace Go.Proofs.YtgdfljiliflhfaaGreatDoor.Rt
open Go Go.RowKit Go.ChangeShapes Go.WideShapes
theorem op_3:Opens Tryz.prog 3 C_int InR:=Opens.int u_3
def Ok_Span (x:Span):Prop:=InR x.Low∧InR x.High
theorem op_27:Opens Tryz.prog 27 C_Span Ok_Span:=by
  intro H enc w base sp held fuel cs x h
  have hl:=struct_len ft_27 h cz_27
  obtain ⟨m0,y0,h0⟩:=field_of ft_27 h 0 (U:=3) (o:=0) (by kernel_rfl) cz_3
  obtain ⟨v0,r0,k0⟩:=op_3 _ _ _ _ _ _ _ _ _ h0
  obtain ⟨m1,y1,h1⟩:=field_of ft_27 h 1 (U:=3) (o:=1) (by kernel_rfl) cz_3
  obtain ⟨v1,r1,k1⟩:=op_3 _ _ _ _ _ _ _ _ _ h1
  match cs,hl with
  | [c0,c1],_=>
    have e0:[c0]=[iv v0]:=r0
    simp only [List.cons.injEq,and_true] at e0;subst e0
    have e1:[c1]=[iv v1]:=r1
    simp only [List.cons.injEq,and_true] at e1;subst e1
    exact ⟨⟨v0,v1⟩,rfl,⟨k0,k1⟩⟩
def Ok_LineLine (x:LineLine):Prop:=InR x.From∧InR x.To∧Ok_Span x.Delay
theorem op_60:Opens Tryz.prog 60 C_LineLine Ok_LineLine:=by
  intro H enc w base sp held fuel cs x h
  have hl:=struct_len ft_60 h cz_60
  obtain ⟨m0,y0,h0⟩:=field_of ft_60 h 0 (U:=3) (o:=0) (by kernel_rfl) cz_3
  obtain ⟨v0,r0,k0⟩:=op_3 _ _ _ _ _ _ _ _ _ h0
  obtain ⟨m1,y1,h1⟩:=field_of ft_60 h 1 (U:=3) (o:=1) (by kernel_rfl) cz_3
  obtain ⟨v1,r1,k1⟩:=op_3 _ _ _ _ _ _ _ _ _ h1
  obtain ⟨m2,y2,h2⟩:=field_of ft_60 h 2 (U:=27) (o:=2) (by kernel_rfl) cz_27
  obtain ⟨v2,r2,k2⟩:=op_27 _ _ _ _ _ _ _ _ _ h2
  match cs,hl with
  | [c0,c1,c2,c3],_=>
    have e0:[c0]=[iv v0]:=r0
    simp only [List.cons.injEq,and_true] at e0;subst e0
    have e1:[c1]=[iv v1]:=r1
    simp only [List.cons.injEq,and_true] at e1;subst e1
    have e2:[c2,c3]=[iv v2.Low,iv v2.High]:=r2
    simp only [List.cons.injEq,and_true] at e2
    obtain ⟨rfl,rfl⟩:=e2
    exact ⟨⟨v0,v1,v2⟩,rfl,⟨k0,k1,k2⟩⟩
theorem op_22:Opens Tryz.prog 22 (C_sl C_LineLine) (OkL Ok_LineLine):=Opens.slice u_22 cz_60 (Nat.succ_pos _) op_60
def Ok_LineLoop (x:LineLoop):Prop:=InR x.Exchange∧Ok_Span x.Read
theorem op_62:Opens Tryz.prog 62 C_LineLoop Ok_LineLoop:=by
  intro H enc w base sp held fuel cs x h
  have hl:=struct_len ft_62 h cz_62
  obtain ⟨m0,y0,h0⟩:=field_of ft_62 h 0 (U:=3) (o:=0) (by kernel_rfl) cz_3
  obtain ⟨v0,r0,k0⟩:=op_3 _ _ _ _ _ _ _ _ _ h0
  obtain ⟨m1,y1,h1⟩:=field_of ft_62 h 1 (U:=27) (o:=1) (by kernel_rfl) cz_27
  obtain ⟨v1,r1,k1⟩:=op_27 _ _ _ _ _ _ _ _ _ h1
  match cs,hl with
  | [c0,c1,c2],_=>
    have e0:[c0]=[iv v0]:=r0
    simp only [List.cons.injEq,and_true] at e0;subst e0
    have e1:[c1,c2]=[iv v1.Low,iv v1.High]:=r1
    simp only [List.cons.injEq,and_true] at e1
    obtain ⟨rfl,rfl⟩:=e1
    exact ⟨⟨v0,v1⟩,rfl,⟨k0,k1⟩⟩
theorem op_23:Opens Tryz.prog 23 (C_sl C_LineLoop) (OkL Ok_LineLoop):=Opens.slice u_23 cz_62 (Nat.succ_pos _) op_62
def Ok_LineNet (x:LineNet):Prop:=InR x.Exchanges∧(OkL Ok_LineLine x.Lines)∧InR x.Hops∧(OkL Ok_LineLoop x.Loops)
theorem op_25:Opens Tryz.prog 25 C_LineNet Ok_LineNet:=by
  intro H enc w base sp held fuel cs x h
  have hl:=struct_len ft_25 h cz_25
  obtain ⟨m0,y0,h0⟩:=field_of ft_25 h 0 (U:=3) (o:=0) (by kernel_rfl) cz_3
  obtain ⟨v0,r0,k0⟩:=op_3 _ _ _ _ _ _ _ _ _ h0
  obtain ⟨m1,y1,h1⟩:=field_of ft_25 h 1 (U:=22) (o:=1) (by kernel_rfl) cz_22
  obtain ⟨v1,r1,k1⟩:=op_22 _ _ _ _ _ _ _ _ _ h1
  obtain ⟨m2,y2,h2⟩:=field_of ft_25 h 2 (U:=3) (o:=2) (by kernel_rfl) cz_3
  obtain ⟨v2,r2,k2⟩:=op_3 _ _ _ _ _ _ _ _ _ h2
  obtain ⟨m3,y3,h3⟩:=field_of ft_25 h 3 (U:=23) (o:=3) (by kernel_rfl) cz_23
  obtain ⟨v3,r3,k3⟩:=op_23 _ _ _ _ _ _ _ _ _ h3
  match cs,hl with
  | [c0,c1,c2,c3],_=>
    have e0:[c0]=[iv v0]:=r0
    simp only [List.cons.injEq,and_true] at e0;subst e0
    obtain ⟨p1,q1,e1,s1⟩:=r1
    replace e1:[c1]=[.slice p1 v1.length q1]:=e1
    simp only [List.cons.injEq,and_true] at e1;subst e1
    have e2:[c2]=[iv v2]:=r2
    simp only [List.cons.injEq,and_true] at e2;subst e2
    obtain ⟨p3,q3,e3,s3⟩:=r3
    replace e3:[c3]=[.slice p3 v3.length q3]:=e3
    simp only [List.cons.injEq,and_true] at e3;subst e3
    exact ⟨⟨v0,v1,v2,v3⟩,⟨p1,q1,p3,q3,rfl,s1,s3⟩,⟨k0,k1,k2,k3⟩⟩
def Ok_Arr2_Span (x:Arr2_Span):Prop:=Ok_Span x.a0∧Ok_Span x.a1
theorem op_28:Opens Tryz.prog 28 C_Arr2_Span Ok_Arr2_Span:=by
  intro H enc w base sp held fuel cs x h
  have hl:=array_len u_28 cz_28 h
  obtain ⟨m0,y0,h0⟩:=item_of u_28 cz_27 h 0 (by decide)
  obtain ⟨v0,r0,k0⟩:=op_27 _ _ _ _ _ _ _ _ _ h0
  obtain ⟨m1,y1,h1⟩:=item_of u_28 cz_27 h 1 (by decide)
  obtain ⟨v1,r1,k1⟩:=op_27 _ _ _ _ _ _ _ _ _ h1
  match cs,hl with
  | [c0,c1,c2,c3],_=>
    have e0:[c0,c1]=[iv v0.Low,iv v0.High]:=r0
    simp only [List.cons.injEq,and_true] at e0
    obtain ⟨rfl,rfl⟩:=e0
    have e1:[c2,c3]=[iv v1.Low,iv v1.High]:=r1
    simp only [List.cons.injEq,and_true] at e1
    obtain ⟨rfl,rfl⟩:=e1
    exact ⟨⟨v0,v1⟩,rfl,⟨k0,k1⟩⟩
def Ok_Arr4 (x:Arr4):Prop:=InR x.a0∧InR x.a1∧InR x.a2∧InR x.a3
theorem op_29:Opens Tryz.prog 29 C_Arr4 Ok_Arr4:=by
  intro H enc w base sp held fuel cs x h
  have hl:=array_len u_29 cz_29 h
  obtain ⟨m0,y0,h0⟩:=item_of u_29 cz_3 h 0 (by decide)
  obtain ⟨v0,r0,k0⟩:=op_3 _ _ _ _ _ _ _ _ _ h0
  obtain ⟨m1,y1,h1⟩:=item_of u_29 cz_3 h 1 (by decide)
  obtain ⟨v1,r1,k1⟩:=op_3 _ _ _ _ _ _ _ _ _ h1
  obtain ⟨m2,y2,h2⟩:=item_of u_29 cz_3 h 2 (by decide)
  obtain ⟨v2,r2,k2⟩:=op_3 _ _ _ _ _ _ _ _ _ h2
  obtain ⟨m3,y3,h3⟩:=item_of u_29 cz_3 h 3 (by decide)
  obtain ⟨v3,r3,k3⟩:=op_3 _ _ _ _ _ _ _ _ _ h3
  match cs,hl with
  | [c0,c1,c2,c3],_=>
    have e0:[c0]=[iv v0]:=r0
    simp only [List.cons.injEq,and_true] at e0;subst e0
    have e1:[c1]=[iv v1]:=r1
    simp only [List.cons.injEq,and_true] at e1;subst e1
    have e2:[c2]=[iv v2]:=r2
    simp only [List.cons.injEq,and_true] at e2;subst e2
    have e3:[c3]=[iv v3]:=r3
    simp only [List.cons.injEq,and_true] at e3;subst e3
    exact ⟨⟨v0,v1,v2,v3⟩,rfl,⟨k0,k1,k2,k3⟩⟩
theorem op_30:Opens Tryz.prog 30 (C_sl C_int) (OkL InR):=Opens.slice u_30 cz_3 (Nat.succ_pos _) op_3
end Go.Proofs.YtgdfljiliflhfaaGreatDoor.Rt
