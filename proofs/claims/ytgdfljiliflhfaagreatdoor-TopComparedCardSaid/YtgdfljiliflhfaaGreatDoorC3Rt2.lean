/- The small program logic of this seat, part 2: what single operations yield that leave the world alone. Under no conditions but those that each rule names. -/
import Derived.Test.YtgdfljiliflhfaaGreatDoorC3Rt1
import Derived.Laws.Build
set_option linter.unusedVariables false
set_option linter.unusedSimpArgs false
namespace Go.Proofs.YtgdfljiliflhfaaGreatDoor.Rt
open Go Go.RowKit
def Yields (P:Program) (o:Oper) (a:Act) (w:World) (v:Value):Prop:=(execOp a.eval o).run P w=.ok (.value v) w
section
variable {P:Program} {N:Nat} {rs:List Nat} {r:Option Nat} {vs:List (Nat × Value)} {a:Act} {w:World} {ops:Array Oper} {Q:Exit→Act→World→Prop} {rest:List Oper}
variable {d:Nat} {dst:Option Nat} {ty:TypeId} {pos:String} {aft:Array Edge} {gd:Option (Nat × Bool)} {v:Value}
theorem step {op:Op} (hF:Frm N rs vs a) (hy:Yields P ⟨some d,op,ty,pos,aft,none⟩ a w v) (hd:Nat.ble (d + 1) N=true)
    (h:∀ a',Frm N rs ((d,v)::vs) a'→WL r P ops Q rest a' w):WL r P ops Q (⟨some d,op,ty,pos,aft,none⟩::rest) a w:=by
  refine wpListIn_plain rfl fun K hK=>⟨fun _ _=>trivial,?_⟩
  rw [show (Fw r).round=r from rfl,semAt_of hy (by intro d h;cases h)]
  exact hK _ _ (h _ (hF.put d v hd))
theorem guard_on {op:Op} {j dj:Nat} {b b':Bool} {dst:Option Nat} (hF:Frm N rs vs a) (hj:(ops[j]?).bind (·.dst)=some dj) (hv:look vs dj=some (.bool b')) (he:b'=b)
    (h:WL r P ops Q (⟨dst,op,ty,pos,aft,none⟩::rest) a w):WL r P ops Q (⟨dst,op,ty,pos,aft,some (j,b)⟩::rest) a w:=by
  subst he
  have hw:Region.wanted ⟨dst,op,ty,pos,aft,some (j,b')⟩ (yielded ops a.tmps)=true:=by
    simp only [Region.wanted,yielded,hj,Option.bind_some,hF.get _ _ hv,beq_self_eq_true]
  have hw':Region.wanted ⟨dst,op,ty,pos,aft,none⟩ (yielded ops a.tmps)=true:=rfl
  simp only [WL,wpListIn,hw,hw',if_true] at h ⊢
  exact h
theorem guard_off {op:Op} {j dj:Nat} {b b':Bool} (hF:Frm N rs vs a) (hj:(ops[j]?).bind (·.dst)=some dj) (hv:look vs dj=some (.bool b')) (hne:b' = !b)
    (hd:Nat.ble (d + 1) N=true)
    (h:∀ a',Frm N rs ((d,undef)::vs) a'→WL r P ops Q rest a' w):WL r P ops Q (⟨some d,op,ty,pos,aft,some (j,b)⟩::rest) a w:=by
  have hw:Region.wanted ⟨some d,op,ty,pos,aft,some (j,b)⟩ (yielded ops a.tmps)=false:=by
    simp only [Region.wanted,yielded,hj,Option.bind_some,hF.get _ _ hv,hne]
    cases b <;> rfl
  simp only [WL,wpListIn,hw]
  exact ⟨fun _ _=>trivial,h _ (hF.put d undef hd)⟩
theorem guard_offu {op:Op} {j dj:Nat} {b:Bool} (hF:Frm N rs vs a) (hj:(ops[j]?).bind (·.dst)=some dj) (hv:look vs dj=some undef)
    (hd:Nat.ble (d + 1) N=true)
    (h:∀ a',Frm N rs ((d,undef)::vs) a'→WL r P ops Q rest a' w):WL r P ops Q (⟨some d,op,ty,pos,aft,some (j,b)⟩::rest) a w:=by
  have hw:Region.wanted ⟨some d,op,ty,pos,aft,some (j,b)⟩ (yielded ops a.tmps)=false:=by
    simp only [Region.wanted,yielded,hj,Option.bind_some,hF.get _ _ hv,undef]
    rfl
  simp only [WL,wpListIn,hw]
  exact ⟨fun _ _=>trivial,h _ (hF.put d undef hd)⟩
theorem Y.move {x:Operand} (hF:Frm N rs vs a) (hx:ev vs x=some v):Yields P ⟨dst,.move x,ty,pos,aft,gd⟩ a w v:=by
  simp [Yields,execOp,hF.eval hx]
theorem Y.assign {x:Operand} (hF:Frm N rs vs a) (hx:ev vs x=some v):Yields P ⟨dst,.assign x,ty,pos,aft,gd⟩ a w v:=by
  simp [Yields,execOp,hF.eval hx]
theorem Y.pick_t {c x y:Operand} {b:Bool} (hF:Frm N rs vs a) (hc:ev vs c=some (.bool b)) (hb:b=true) (hx:ev vs x=some v):Yields P ⟨dst,.pick c x y,ty,pos,aft,gd⟩ a w v:=by
  subst hb;simp [Yields,execOp,hF.eval hx,hF.eval hc,asBool]
theorem Y.pick_f {c x y:Operand} {b:Bool} (hF:Frm N rs vs a) (hc:ev vs c=some (.bool b)) (hb:b=false) (hy:ev vs y=some v):Yields P ⟨dst,.pick c x y,ty,pos,aft,gd⟩ a w v:=by
  subst hb;simp [Yields,execOp,hF.eval hy,hF.eval hc,asBool]
theorem Y.bin {op:BinOp} {T T2:TypeId} {x y:Operand} {u t:Value} (hF:Frm N rs vs a) (hx:ev vs x=some u) (hy:ev vs y=some t)
    (hg:(eqGuard op T x y u t).run P w=.ok () w) (hr:(binOp op T u t).run P w=.ok v w):Yields P ⟨dst,.binOp op T x y T2,ty,pos,aft,gd⟩ a w v:=by
  simp [Yields,execOp,hF.eval hx,hF.eval hy,hg,hr]
section ints
variable {T T2:TypeId} {x y:Operand} {m n:Int}
theorem Y.add (hF:Frm N rs vs a) (hx:ev vs x=some (.int .i64 m)) (hy:ev vs y=some (.int .i64 n)):
    Yields P ⟨dst,.binOp .add T x y T2,ty,pos,aft,gd⟩ a w (.int .i64 (IntKind.wrap .i64 (m + n))):=Y.bin hF hx hy rfl rfl
theorem Y.sub (hF:Frm N rs vs a) (hx:ev vs x=some (.int .i64 m)) (hy:ev vs y=some (.int .i64 n)):
    Yields P ⟨dst,.binOp .sub T x y T2,ty,pos,aft,gd⟩ a w (.int .i64 (IntKind.wrap .i64 (m - n))):=Y.bin hF hx hy rfl rfl
theorem Y.mul (hF:Frm N rs vs a) (hx:ev vs x=some (.int .i64 m)) (hy:ev vs y=some (.int .i64 n)):
    Yields P ⟨dst,.binOp .mul T x y T2,ty,pos,aft,gd⟩ a w (.int .i64 (IntKind.wrap .i64 (m * n))):=Y.bin hF hx hy rfl rfl
theorem Y.lss (hF:Frm N rs vs a) (hx:ev vs x=some (.int .i64 m)) (hy:ev vs y=some (.int .i64 n)):
    Yields P ⟨dst,.binOp .lss T x y T2,ty,pos,aft,gd⟩ a w (.bool (decide (m < n))):=Y.bin hF hx hy rfl rfl
theorem Y.leq (hF:Frm N rs vs a) (hx:ev vs x=some (.int .i64 m)) (hy:ev vs y=some (.int .i64 n)):
    Yields P ⟨dst,.binOp .leq T x y T2,ty,pos,aft,gd⟩ a w (.bool (decide (m≤n))):=Y.bin hF hx hy rfl rfl
theorem Y.gtr (hF:Frm N rs vs a) (hx:ev vs x=some (.int .i64 m)) (hy:ev vs y=some (.int .i64 n)):
    Yields P ⟨dst,.binOp .gtr T x y T2,ty,pos,aft,gd⟩ a w (.bool (decide (m > n))):=Y.bin hF hx hy rfl rfl
theorem Y.geq (hF:Frm N rs vs a) (hx:ev vs x=some (.int .i64 m)) (hy:ev vs y=some (.int .i64 n)):
    Yields P ⟨dst,.binOp .geq T x y T2,ty,pos,aft,gd⟩ a w (.bool (decide (m ≥ n))):=Y.bin hF hx hy rfl rfl
theorem Y.eql (hF:Frm N rs vs a) (hx:ev vs x=some (.int .i64 m)) (hy:ev vs y=some (.int .i64 n)):
    Yields P ⟨dst,.binOp .eql T x y T2,ty,pos,aft,gd⟩ a w (.bool (m == n)):=Y.bin hF hx hy rfl rfl
theorem Y.neq (hF:Frm N rs vs a) (hx:ev vs x=some (.int .i64 m)) (hy:ev vs y=some (.int .i64 n)):
    Yields P ⟨dst,.binOp .neq T x y T2,ty,pos,aft,gd⟩ a w (.bool (m != n)):=Y.bin hF hx hy rfl rfl
theorem Y.quo (hF:Frm N rs vs a) (hx:ev vs x=some (.int .i64 m)) (hy:ev vs y=some (.int .i64 n)) (hn:n ≠ 0):
    Yields P ⟨dst,.binOp .quo T x y T2,ty,pos,aft,gd⟩ a w (.int .i64 (IntKind.wrap .i64 (m.tdiv n))):=
  Y.bin hF hx hy rfl (by simp [binOp,Op.intDiv,hn])
theorem Y.rem (hF:Frm N rs vs a) (hx:ev vs x=some (.int .i64 m)) (hy:ev vs y=some (.int .i64 n)) (hn:n ≠ 0):
    Yields P ⟨dst,.binOp .rem T x y T2,ty,pos,aft,gd⟩ a w (.int .i64 (m.tmod n)):=
  Y.bin hF hx hy rfl (by simp [binOp,Op.intDiv,hn])
end ints
def bitsOp (op:BinOp) (x y:Int):Int:=
  let a:=BitVec.ofInt 64 x
  let b:=BitVec.ofInt 64 y
  match op with
  | .and=>IntKind.wrap .i64 (a &&& b).toNat
  | .or=>IntKind.wrap .i64 (a ||| b).toNat
  | .xor=>IntKind.wrap .i64 (a ^^^ b).toNat
  | _=>IntKind.wrap .i64 (a &&& ~~~b).toNat
def gshl (x n:Int):Int:=IntKind.wrap .i64 (x * 2 ^ min n.toNat 64)
def gshr (x n:Int):Int:=x.fdiv (2 ^ min n.toNat 64)
section bits
variable {T T2:TypeId} {x y:Operand} {m n:Int}
theorem Y.and (hF:Frm N rs vs a) (hx:ev vs x=some (.int .i64 m)) (hy:ev vs y=some (.int .i64 n)):
    Yields P ⟨dst,.binOp .and T x y T2,ty,pos,aft,gd⟩ a w (.int .i64 (bitsOp .and m n)):=Y.bin hF hx hy rfl rfl
theorem Y.or (hF:Frm N rs vs a) (hx:ev vs x=some (.int .i64 m)) (hy:ev vs y=some (.int .i64 n)):
    Yields P ⟨dst,.binOp .or T x y T2,ty,pos,aft,gd⟩ a w (.int .i64 (bitsOp .or m n)):=Y.bin hF hx hy rfl rfl
theorem Y.shl (hF:Frm N rs vs a) (hx:ev vs x=some (.int .i64 m)) (hy:ev vs y=some (.int .i64 n)) (hn:¬ n < 0):
    Yields P ⟨dst,.binOp .shl T x y T2,ty,pos,aft,gd⟩ a w (.int .i64 (gshl m n)):=
  Y.bin hF hx hy rfl (by simp [binOp,Op.shift,hn,gshl,IntKind.bits])
theorem Y.shr (hF:Frm N rs vs a) (hx:ev vs x=some (.int .i64 m)) (hy:ev vs y=some (.int .i64 n)) (hn:¬ n < 0):
    Yields P ⟨dst,.binOp .shr T x y T2,ty,pos,aft,gd⟩ a w (.int .i64 (gshr m n)):=
  Y.bin hF hx hy rfl (by simp [binOp,Op.shift,hn,gshr,IntKind.bits])
end bits
theorem Y.neg {T:TypeId} {x:Operand} {m:Int} (hF:Frm N rs vs a) (hx:ev vs x=some (.int .i64 m)):
    Yields P ⟨dst,.unOp .neg T x,ty,pos,aft,gd⟩ a w (.int .i64 (IntKind.wrap .i64 (0 - m))):=by
  simp only [Yields,execOp,hF.eval hx];rfl
theorem Y.not {T:TypeId} {x:Operand} {b:Bool} (hF:Frm N rs vs a) (hx:ev vs x=some (.bool b)):
    Yields P ⟨dst,.unOp .not T x,ty,pos,aft,gd⟩ a w (.bool (!b)):=by
  simp only [Yields,execOp,hF.eval hx];rfl
theorem run_equalIn_bool {T:TypeId} {b c:Bool} (D:Nat) (hT:P.underlying T=some .bool):(Op.equalIn (D + 1) T (.bool b) (.bool c)).run P w=.ok (b == c) w:=by
  simp [Op.equalIn,run_underlying hT]
theorem run_equal_of {T:TypeId} {x y:Value} {b:Bool} (h:∀ D,(Op.equalIn (D + 5) T x y).run P w=.ok b w):(Op.equal T x y).run P w=.ok b w:=h 9995
theorem Y.extract {x:Operand} {i:Nat} {us:Array Value} (hF:Frm N rs vs a) (hx:ev vs x=some (.tuple us)) (hi:us[i]?=some v):
    Yields P ⟨dst,.extract x i,ty,pos,aft,gd⟩ a w v:=by
  simp [Yields,execOp,hF.eval hx,Instr.extract,hi]
def fieldOff (P:Program) (T:TypeId) (f:Nat):Option Nat:=
  match P.underlying T with
  | some (.struct fs)=>match fs[f]? with
    | some fl=>match P.info? fl.type with
      | some i=>if i.size=0 then none else some fl.offset
      | none=>none
    | none=>none
  | _=>none
theorem addr_add (b o n:Nat):(⟨b,o,none⟩:Addr).add n=⟨b,o + n,none⟩:=by unfold Addr.add;split <;> simp_all
theorem Y.fieldAddr {T:TypeId} {x:Operand} {f k b o:Nat} (hk:fieldOff P T f=some k) (hF:Frm N rs vs a) (hx:ev vs x=some (.pointer (some ⟨b,o,none⟩))):
    Yields P ⟨dst,.fieldAddr T x f,ty,pos,aft,gd⟩ a w (.pointer (some ⟨b,o + k,none⟩)):=by
  unfold fieldOff at hk
  split at hk <;> try cases hk
  rename_i fs hu
  split at hk <;> try cases hk
  rename_i fl hfl
  split at hk <;> try cases hk
  rename_i i hi
  split at hk <;> try cases hk
  rename_i hs
  simp [Yields,execOp,hF.eval hx,Instr.fieldAt,run_underlying hu,hfl,Instr.sureAddr,fieldPlace,sizeOf,typeInfo,hi,hs,addr_add]
def tsz (P:Program) (T:TypeId):Option (Bool × Nat):=
  match P.underlying T,P.info? T with
  | some d,some i=>some ((match d with | .struct _ | .array _ _=>true | _=>false),i.size)
  | _,_=>none
theorem run_isAgg_of {T:TypeId} {b:Bool} {n:Nat} (h:tsz P T=some (b,n)):(isAgg T).run P w=.ok b w:=by
  unfold tsz at h
  split at h <;> try cases h
  rename_i d i hu hi
  unfold isAgg
  rw [Sem.run_bind,run_underlying hu w]
  cases d <;> rfl
theorem run_sizeOf_of {T:TypeId} {b:Bool} {n:Nat} (h:tsz P T=some (b,n)):(sizeOf T).run P w=.ok n w:=by
  unfold tsz at h
  split at h <;> try cases h
  rename_i d i hu hi
  simp [sizeOf,typeInfo,hi]
theorem Y.indexArr {T E:TypeId} {x y:Operand} {b o len sz:Nat} {isA:Bool} {i:Int} (hT:P.underlying T=some (.array len E)) (hE:tsz P E=some (isA,sz)) (hF:Frm N rs vs a)
    (hx:ev vs x=some (.pointer (some ⟨b,o,none⟩))) (hy:ev vs y=some (.int .i64 i)) (h0:0≤i) (h1:i < (len:Int)):
    Yields P ⟨dst,.indexAddr T x y,ty,pos,aft,gd⟩ a w (.pointer (some ⟨b,o + i.toNat * sz,none⟩)):=by
  simp [Yields,execOp,hF.eval hx,hF.eval hy,Instr.indexAt,asIntOf,run_underlying hT,Instr.sureAddr,h0,h1,run_sizeOf_of hE,addr_add]
theorem Y.indexSl {T E:TypeId} {x y:Operand} {b o n c sz:Nat} {isA:Bool} {i:Int} (hT:P.underlying T=some (.slice E)) (hE:tsz P E=some (isA,sz)) (hF:Frm N rs vs a)
    (hx:ev vs x=some (.slice (some ⟨b,o,none⟩) n c)) (hy:ev vs y=some (.int .i64 i)) (h0:0≤i) (h1:i < (n:Int)):
    Yields P ⟨dst,.indexAddr T x y,ty,pos,aft,gd⟩ a w (.pointer (some ⟨b,o + i.toNat * sz,none⟩)):=by
  simp [Yields,execOp,hF.eval hx,hF.eval hy,Instr.indexAt,asIntOf,run_underlying hT,h0,h1,run_sizeOf_of hE,addr_add]
theorem cell_of_heap {b j:Nat} {cs:Array Value} {E:TypeId} {fr:Nat × Nat} (h:w.heap[b]?=some (.cells cs E fr)):w.cell? ⟨b,j,none⟩=cs[j]?:=cell_of_row w b j cs E fr h
theorem Y.load1 {T:TypeId} {x:Operand} {b o n:Nat} (hT:tsz P T=some (false,n)) (hF:Frm N rs vs a) (hx:ev vs x=some (.pointer (some ⟨b,o,none⟩)))
    (hc:w.cell? ⟨b,o,none⟩=some v):Yields P ⟨dst,.load T x,ty,pos,aft,gd⟩ a w v:=by
  simp [Yields,execOp,hF.eval hx,Instr.loadAt,Instr.sureAddr,loadVar,run_isAgg_of hT,hc]
theorem Y.loadN {T:TypeId} {x:Operand} {b o:Nat} {cs:List Value} (hT:tsz P T=some (true,cs.length)) (hF:Frm N rs vs a) (hx:ev vs x=some (.pointer (some ⟨b,o,none⟩)))
    (hc:∀ j u,cs[j]?=some u→w.cell? ⟨b,o + j,none⟩=some u):Yields P ⟨dst,.load T x,ty,pos,aft,gd⟩ a w (.agg cs.toArray):=by
  have hl:=run_loadCells_list (P:=P) w ⟨b,o,none⟩ cs (fun j u hu=>by rw [addr_add];exact hc j u hu)
  simp [Yields,execOp,hF.eval hx,Instr.loadAt,Instr.sureAddr,loadVar,run_isAgg_of hT,run_sizeOf_of hT,hl]
theorem Y.lenSl {T:TypeId} {E:TypeId} {x:Operand} {b:Option Addr} {n c:Nat} (hT:P.underlying T=some (.slice E)) (hF:Frm N rs vs a) (hx:ev vs x=some (.slice b n c)):
    Yields P ⟨dst,.call ⟨.builtin .len,#[x],#[T]⟩,ty,pos,aft,gd⟩ a w (.int .i64 n):=by
  simp [Yields,execOp,resolve,invoke,builtin,Builtin.len_,hF.eval hx,run_underlying hT,goInt]
theorem Y.min2 {T1 T2:TypeId} {x y:Operand} {m n:Int} (hF:Frm N rs vs a) (hx:ev vs x=some (.int .i64 m)) (hy:ev vs y=some (.int .i64 n)):
    Yields P ⟨dst,.call ⟨.builtin .min,#[x,y],#[T1,T2]⟩,ty,pos,aft,gd⟩ a w (.int .i64 (if n < m then n else m)):=by
  simp [Yields,execOp,resolve,invoke,builtin,Builtin.min_,Builtin.min2,hF.eval hx,hF.eval hy,List.foldlM]
theorem Y.max2 {T1 T2:TypeId} {x y:Operand} {m n:Int} (hF:Frm N rs vs a) (hx:ev vs x=some (.int .i64 m)) (hy:ev vs y=some (.int .i64 n)):
    Yields P ⟨dst,.call ⟨.builtin .max,#[x,y],#[T1,T2]⟩,ty,pos,aft,gd⟩ a w (.int .i64 (if n > m then n else m)):=by
  simp [Yields,execOp,resolve,invoke,builtin,Builtin.max_,Builtin.max2,hF.eval hx,hF.eval hy,List.foldlM]
end
end Go.Proofs.YtgdfljiliflhfaaGreatDoor.Rt
