/- Contracts over this program. Their conditions: the slices read as the lists that are named, and lie within the sizes that are named. -/
import Derived.Test.YtbecggfbblnglaaGreatDoorT10
import Derived.LaidEql
import Derived.Stop.Asserts
import Derived.RowKitTokens
import Derived.Lib.IfaceEq
import Derived.Test.YtbecggfbblnglaaGreatDoorT12
set_option linter.unusedSimpArgs false
set_option linter.unusedVariables false
set_option linter.deprecated false
set_option linter.unnecessarySimpa false
namespace Go.Proofs.YtbecggfbblnglaaGreatDoor
open Go Go.RowKit Go.Extern.Stop Go.Stop Go.Extern
theorem Tas.valueOf27 (t:Addr) (w:World):(ReflectliteValue.unpack (.iface 154 (.pointer (some t)))).run Tryz.prog w
  = .ok (.agg #[.pointer (some ⟨6,154,none⟩),.pointer (some ⟨w.heap.size,0,none⟩),.int .u64 150]) (w.alloc (.cells #[.pointer (some t)] 154)):=by kernel_rfl
theorem Tas.type27 (a:Addr) (w:World):(ReflectliteValue.methodAny (ReflectliteValue.valueError "reflectlite.Value.Type" 0) (fun t _ _ _=>ReflectliteType.toType t) #[.agg #[.pointer (some ⟨6,154,none⟩),.pointer (some a),.int .u64 150]]).run Tryz.prog w
  = .ok (.iface 325 (.agg #[.pointer (some ⟨6,154,none⟩)])) w:=by kernel_rfl
theorem Tas.methodKind (h:Value) (w:World):(Go.method 642 325 (.agg #[h]) "Kind").run Tryz.prog w=.ok (311,h) w:=by kernel_rfl
theorem Tas.kind27 (w:World):((ReflectliteType.abiMethod fun t=>(fun a:Nat=>Value.int IntKind.u8 (a:Int)) <$> Rtype.kind t) #[.pointer (some ⟨6,154,none⟩)]).run Tryz.prog w=.ok (.int .u8 22) w:=by kernel_rfl
theorem Tas.kind25 (w:World):((ReflectliteType.abiMethod fun t=>(fun a:Nat=>Value.int IntKind.u8 (a:Int)) <$> Rtype.kind t) #[.pointer (some ⟨6,151,none⟩)]).run Tryz.prog w=.ok (.int .u8 22) w:=by kernel_rfl
theorem rlm (z:Sem Value) (f:TypeId→Addr→Nat→Nat→Sem Value) (v:Value) :
  ReflectliteValue.method z f #[v]=(do match ← ReflectliteValue.parts v with | none=>z | some (t,a,fl)=>f t a fl (fl % 32)):=rfl
theorem Tas.parts27 (a:Addr) (w:World):(ReflectliteValue.parts (.agg #[.pointer (some ⟨6,154,none⟩),.pointer (some a),.int .u64 150])).run Tryz.prog w=.ok (some (154,a,150)) w:=by kernel_rfl
theorem Tas.isNil27 (a p:Addr) (W:World) (ha:W.cell? a=some (.pointer (some p))) :
  (ReflectliteValue.method (ReflectliteValue.valueError "reflectlite.Value.IsNil" 0) ReflectliteValue.isNil #[.agg #[.pointer (some ⟨6,154,none⟩),.pointer (some a),.int .u64 150]]).run Tryz.prog W=.ok (.bool false) W:=by
 rw [rlm]
 simp only [Sem.run_bind,Tas.parts27,Result.andThen]
 simp [ReflectliteValue.isNil,loadVar,isAgg,underlying,Tryz.underlying154,ha,Result.andThen]
theorem Tas.methodElem (h:Value) (w:World):(Go.method 642 325 (.agg #[h]) "Elem").run Tryz.prog w=.ok (324,.agg #[h]) w:=by kernel_rfl
theorem Tas.methodImplements (h:Value) (w:World):(Go.method 642 325 (.agg #[h]) "Implements").run Tryz.prog w=.ok (325,.agg #[h]) w:=by kernel_rfl
theorem Tas.methodAssignableTo (h:Value) (w:World):(Go.method 642 325 (.agg #[h]) "AssignableTo").run Tryz.prog w=.ok (322,.agg #[h]) w:=by kernel_rfl
theorem Tas.elem27 (w:World):(ReflectliteType.method ReflectliteType.elem #[.agg #[.pointer (some ⟨6,154,none⟩)]]).run Tryz.prog w=.ok (.iface 325 (.agg #[.pointer (some ⟨6,151,none⟩)])) w:=by kernel_rfl
theorem Tas.implements25 (w:World):(ReflectliteType.relation "Implements" ReflectliteType.implements_ #[.agg #[.pointer (some ⟨6,151,none⟩)],.iface 325 (.agg #[.pointer (some ⟨6,82,none⟩)])]).run Tryz.prog w=.ok (.bool true) w:=by kernel_rfl
theorem Tas.typeOf25 (v:Value) (w:World):(ReflectliteType.typeOf #[.iface 151 v]).run Tryz.prog w=.ok (.iface 325 (.agg #[.pointer (some ⟨6,151,none⟩)])) w:=by kernel_rfl
theorem Tas.assignable25 (w:World):(ReflectliteType.relation "AssignableTo" ReflectliteType.assignableTo #[.agg #[.pointer (some ⟨6,151,none⟩)],.iface 325 (.agg #[.pointer (some ⟨6,151,none⟩)])]).run Tryz.prog w=.ok (.bool true) w:=by kernel_rfl
theorem Tas.valueOf25 (e:Addr) (w:World):(ReflectliteValue.unpack (.iface 151 (.pointer (some e)))).run Tryz.prog w
  = .ok (.agg #[.pointer (some ⟨6,151,none⟩),.pointer (some ⟨w.heap.size,0,none⟩),.int .u64 150]) (w.alloc (.cells #[.pointer (some e)] 151)):=by kernel_rfl
theorem Tas.elemOf27 (w:World):(Rtype.elem? 154).run Tryz.prog w=.ok (some 151) w:=by kernel_rfl
theorem Tas.mk25 (p:Addr) (w:World):(ReflectliteValue.mk 151 p ReflectliteValue.flagAddr).run Tryz.prog w=.ok (.agg #[.pointer (some ⟨6,151,none⟩),.pointer (some p),.int .u64 406]) w:=by kernel_rfl
theorem Tas.elemV27 (a p:Addr) (W:World) (ha:W.cell? a=some (.pointer (some p))) :
  (ReflectliteValue.method (ReflectliteValue.valueError "reflectlite.Value.Elem" 0) ReflectliteValue.elem #[.agg #[.pointer (some ⟨6,154,none⟩),.pointer (some a),.int .u64 150]]).run Tryz.prog W
   = .ok (.agg #[.pointer (some ⟨6,151,none⟩),.pointer (some p),.int .u64 406]) W:=by
 rw [rlm]
 simp only [Sem.run_bind,Tas.parts27,Result.andThen]
 simp [ReflectliteValue.elem,loadVar,isAgg,underlying,Tryz.underlying154,ha,Result.andThen,Tas.elemOf27,Tas.mk25]
theorem rls (v x:Value):ReflectliteValue.set #[v,x]=(do
  let (some (dst,a,fl),some (src,b,_)):=(← ReflectliteValue.parts v,← ReflectliteValue.parts x)
   | unsupported (.noEntry "extern/(internal/reflectlite.Value).Set.zeroValue")
  if fl / ReflectliteValue.flagAddr % 2 == 0 then unsupported (.noEntry "extern/(internal/reflectlite.Value).Set.unaddressable")
  let val ← loadVar src b
  if ← Rtype.directlyAssignable dst src then storeVar dst a val
  else if ← Rtype.implements dst src then
   if (← Rtype.kind src) == 20 then
    match val with
    | .nilIface=>unsupported (.noEntry "extern/reflectlite: a nil value of one interface type handed on as a value of another")
    | _=>storeVar dst a val
   else storeVar dst a (.iface src val)
  else panicString ("reflectlite.Set: value of type "++(← Rtype.spelt src)++" is not assignable to type "++(← Rtype.spelt dst))
  pure (.tuple #[])):=rfl
theorem Tas.parts25a (a:Addr) (w:World):(ReflectliteValue.parts (.agg #[.pointer (some ⟨6,151,none⟩),.pointer (some a),.int .u64 406])).run Tryz.prog w=.ok (some (151,a,406)) w:=by kernel_rfl
theorem Tas.parts25 (a:Addr) (w:World):(ReflectliteValue.parts (.agg #[.pointer (some ⟨6,151,none⟩),.pointer (some a),.int .u64 150])).run Tryz.prog w=.ok (some (151,a,150)) w:=by kernel_rfl
theorem Tas.direct25 (w:World):(Rtype.directlyAssignable 151 151).run Tryz.prog w=.ok true w:=by kernel_rfl
theorem Tas.set25 (ta b e:Addr) (old:Value) (W:World) (hb:W.cell? b=some (.pointer (some e))) (ht:W.cell? ta=some old) (hf:W.frozen? ta=false) :
  (ReflectliteValue.set #[.agg #[.pointer (some ⟨6,151,none⟩),.pointer (some ta),.int .u64 406],.agg #[.pointer (some ⟨6,151,none⟩),.pointer (some b),.int .u64 150]]).run Tryz.prog W
   = .ok (.tuple #[]) (W.setCell ta (.pointer (some e))):=by
 rw [rls]
 simp only [Sem.run_bind,Tas.parts25a,Tas.parts25,Result.andThen]
 simp [ReflectliteValue.flagAddr,loadVar,isAgg,underlying,Tryz.underlying151,hb,Result.andThen,Tas.direct25,storeVar,Value.cells,storeCells,Addr.add]
 rw [run_store Tryz.prog W ta _ _ (by rfl)]
 simp [ht,hf]
set_option maxHeartbeats 4000000 in
theorem as_hit (e t:Addr) (old:Value) (w:World) (hg:w.cell? ⟨0,0,none⟩=some (.iface 325 (.agg #[.pointer (some ⟨6,82,none⟩)]))) (ht0:w.cell? t=some old) (hf0:w.frozen? t=false) :
  Calls Tryz.prog 70 #[.iface 151 (.pointer (some e)),.iface 154 (.pointer (some t))] w fun ev w'=>ev=.returned (.bool true)∧w'=((((w.alloc (.cells #[.pointer (some t)] 154)).alloc (.cells #[.pointer (some ⟨6,154,none⟩),.pointer (some ⟨w.heap.size,0,none⟩),.int .u64 150] 251)).alloc (.cells #[.pointer (some ⟨6,154,none⟩),.pointer (some ⟨w.heap.size,0,none⟩),.int .u64 150] 251)).alloc (.cells #[.pointer (some e)] 151)).setCell t (.pointer (some e)):=by
 have h6:=@run_callFunc_extern Tryz.prog 105 _ (fun args=>ReflectliteValue.unpack (args.getD 0 (.tuple #[]))) Tryz.func105 (by kernel_rfl) (by kernel_rfl) (by kernel_rfl) (by kernel_rfl)
 have h7:=@run_callFunc_extern Tryz.prog 106 _ (ReflectliteValue.methodAny (ReflectliteValue.valueError "reflectlite.Value.Type" 0) (fun t _ _ _=>ReflectliteType.toType t)) Tryz.func106 (by kernel_rfl) (by kernel_rfl) (by kernel_rfl) (by kernel_rfl)
 have h8:=@run_callFunc_extern Tryz.prog 107 _ (ReflectliteValue.method (ReflectliteValue.valueError "reflectlite.Value.IsNil" 0) ReflectliteValue.isNil) Tryz.func107 (by kernel_rfl) (by kernel_rfl) (by kernel_rfl) (by kernel_rfl)
 have h27:=@run_callFunc_extern Tryz.prog 311 _ (ReflectliteType.abiMethod fun t=>do pure (.int .u8 (← Rtype.kind t))) Tryz.func311 (by kernel_rfl) (by kernel_rfl) (by kernel_rfl) (by kernel_rfl)
 have h37:=@run_callFunc_extern Tryz.prog 324 _ (ReflectliteType.method ReflectliteType.elem) Tryz.func324 (by kernel_rfl) (by kernel_rfl) (by kernel_rfl) (by kernel_rfl)
 have h38:=@run_callFunc_extern Tryz.prog 325 _ (ReflectliteType.relation "Implements" ReflectliteType.implements_) Tryz.func325 (by kernel_rfl) (by kernel_rfl) (by kernel_rfl) (by kernel_rfl)
 have h10:=@run_callFunc_extern Tryz.prog 103 _ ReflectliteType.typeOf Tryz.func103 (by kernel_rfl) (by kernel_rfl) (by kernel_rfl) (by kernel_rfl)
 have h35:=@run_callFunc_extern Tryz.prog 322 _ (ReflectliteType.relation "AssignableTo" ReflectliteType.assignableTo) Tryz.func322 (by kernel_rfl) (by kernel_rfl) (by kernel_rfl) (by kernel_rfl)
 have h11:=@run_callFunc_extern Tryz.prog 157 _ (ReflectliteValue.method (ReflectliteValue.valueError "reflectlite.Value.Elem" 0) ReflectliteValue.elem) Tryz.func157 (by kernel_rfl) (by kernel_rfl) (by kernel_rfl) (by kernel_rfl)
 have h12:=@run_callFunc_extern Tryz.prog 158 _ ReflectliteValue.set Tryz.func158 (by kernel_rfl) (by kernel_rfl) (by kernel_rfl) (by kernel_rfl)
 have tO:=Tas.typeOf25
 have mA:=Tas.methodAssignableTo
 have a25:=Tas.assignable25
 have v25:=Tas.valueOf25
 have f6:=Tas.valueOf27
 have f7:=Tas.type27
 have mK:=Tas.methodKind
 have mE:=Tas.methodElem
 have mI:=Tas.methodImplements
 have k27:=Tas.kind27
 have k25:=Tas.kind25
 have e27:=Tas.elem27
 have i25:=Tas.implements25
 have n8:=Tas.isNil27 ⟨w.heap.size,0,none⟩ t ((w.alloc (.cells #[.pointer (some t)] 154)).alloc (.cells #[.pointer (some ⟨6,154,none⟩),.pointer (some ⟨w.heap.size,0,none⟩),.int .u64 150] 251)) (by simp)
 have hlt:0<w.heap.size:=by
  rcases Nat.eq_zero_or_pos w.heap.size with h0 | h
  ·simp [World.cell?,h0] at hg
  ·exact h
 have hg2:((w.alloc (.cells #[.pointer (some t)] 154)).alloc (.cells #[.pointer (some ⟨6,154,none⟩),.pointer (some ⟨w.heap.size,0,none⟩),.int .u64 150] 251)).cell? ⟨0,0,none⟩=some (.iface 325 (.agg #[.pointer (some ⟨6,82,none⟩)])):=by
  rw [World.cell?_alloc_lt _ _ ⟨0,0,none⟩ (by simp),World.cell?_alloc_lt _ _ ⟨0,0,none⟩ hlt];exact hg
 have htl:t.block<w.heap.size:=by
  rcases Nat.lt_or_ge t.block w.heap.size with h | h
  ·exact h
  ·simp [World.cell?,Array.getElem?_eq_none h] at ht0
 have el:=Tas.elemV27 ⟨w.heap.size,0,none⟩ t (((w.alloc (.cells #[.pointer (some t)] 154)).alloc (.cells #[.pointer (some ⟨6,154,none⟩),.pointer (some ⟨w.heap.size,0,none⟩),.int .u64 150] 251)).alloc (.cells #[.pointer (some ⟨6,154,none⟩),.pointer (some ⟨w.heap.size,0,none⟩),.int .u64 150] 251)) (by rw [World.cell?_alloc_lt _ _ ⟨w.heap.size,0,none⟩ (by simp;omega)];simp)
 have st:=Tas.set25 t ⟨w.heap.size+1+1+1,0,none⟩ e old ((((w.alloc (.cells #[.pointer (some t)] 154)).alloc (.cells #[.pointer (some ⟨6,154,none⟩),.pointer (some ⟨w.heap.size,0,none⟩),.int .u64 150] 251)).alloc (.cells #[.pointer (some ⟨6,154,none⟩),.pointer (some ⟨w.heap.size,0,none⟩),.int .u64 150] 251)).alloc (.cells #[.pointer (some e)] 151))
  (by rw [World.cell?_alloc_at _ _ _ _ (by simp)];rfl)
  (by rw [World.cell?_alloc_lt _ _ t (by simp;omega),World.cell?_alloc_lt _ _ t (by simp;omega),World.cell?_alloc_lt _ _ t (by simp;omega),World.cell?_alloc_lt _ _ t htl];exact ht0)
  (by rw [World.frozen?_alloc_old _ _ t (by simp;omega),World.frozen?_alloc_old _ _ t (by simp;omega),World.frozen?_alloc_old _ _ t (by simp;omega),World.frozen?_alloc_old _ _ t (Nat.ne_of_lt htl)];exact hf0)
 go_enter Tryz.func70,Tryz.ntmps70
 go_wp2
 refine wp_loop_rounds 1 ?_
 rw [rounds_succ]
 go_wp2
 go_ret
 exact⟨rfl,rfl⟩
end Go.Proofs.YtbecggfbblnglaaGreatDoor
namespace Go.Proofs.YtbecggfbblnglaaGreatDoor
open Go Go.RowKit Go.Extern.Stop Go.Stop Go.Extern
theorem Te.isTypeOf (v:Value) (w:World):(Extern.ReflectliteType.typeOf #[.iface 28 v]).run Tryz.prog w=.ok (.iface 325 (.agg #[.pointer (some ⟨6,28,none⟩)])) w:=by kernel_rfl
def compF:Array Value→Sem Value:=Extern.ReflectliteType.method fun t=>do Extern.Rtype.noPackHeld "Comparable" t;pure (.bool (← typeInfo t).comparable)
theorem Te.isComparable (w:World):(compF #[.agg #[.pointer (some ⟨6,28,none⟩)]]).run Tryz.prog w=.ok (.bool true) w:=by kernel_rfl
theorem Te.isMethodComparable (v:Value) (w:World):(Go.method 642 325 v "Comparable").run Tryz.prog w=.ok (323,v) w:=by kernel_rfl
theorem Te.noIsE (v:Value) (xT:TypeId) (w:World):(Instr.typeAssert (.iface 28 v) xT 327 true).run Tryz.prog w=.ok (.tuple #[.nilIface,.bool false]) w:=run_typeAssert_lacksB Tryz.underlying327 (by kernel_rfl) (by kernel_rfl) v xT w
theorem Te.noUnwrapE (v:Value) (xT:TypeId) (w:World):(Instr.typeAssert (.iface 28 v) xT 330 true).run Tryz.prog w=.ok (.tuple #[.nilIface,.bool false]) w:=run_typeAssert_lacksB Tryz.underlying330 (by kernel_rfl) (by kernel_rfl) v xT w
theorem Te.noUnwrapsE (v:Value) (xT:TypeId) (w:World):(Instr.typeAssert (.iface 28 v) xT 332 true).run Tryz.prog w=.ok (.tuple #[.nilIface,.bool false]) w:=run_typeAssert_lacksB Tryz.underlying332 (by kernel_rfl) (by kernel_rfl) v xT w
theorem Te.noIsW (v:Value) (xT:TypeId) (w:World):(Instr.typeAssert (.iface 151 v) xT 327 true).run Tryz.prog w=.ok (.tuple #[.nilIface,.bool false]) w:=run_typeAssert_lacksB Tryz.underlying327 (by kernel_rfl) (by kernel_rfl) v xT w
theorem Te.hasUnwrapW (v:Value) (xT:TypeId) (w:World):(Instr.typeAssert (.iface 151 v) xT 330 true).run Tryz.prog w=.ok (.tuple #[.iface 151 v,.bool true]) w:=run_typeAssert_hasB Tryz.underlying330 (by kernel_rfl) v xT w
theorem Te.methodUnwrap (v:Value) (w:World):(Go.method 642 151 v "Unwrap").run Tryz.prog w=.ok (316,v) w:=by kernel_rfl
theorem is_fault (pb:Nat) (k:Int) (w:World) (hk:k≠0) (h1:w.cell? ⟨pb,1,none⟩=some (.iface 28 (.int .u16 k))) :
  Calls Tryz.prog 69 #[.iface 151 (.pointer (some ⟨pb,0,none⟩)),.iface 28 (.int .u16 0)] w fun e w'=>e=.returned (.bool false)∧w'=w:=by
 have h8:=@run_callFunc_extern Tryz.prog 103 _ Extern.ReflectliteType.typeOf Tryz.func103 (by kernel_rfl) (by kernel_rfl) (by kernel_rfl) (by kernel_rfl)
 have h32:=@run_callFunc_extern Tryz.prog 323 _ compF Tryz.func323 (by kernel_rfl) (by kernel_rfl) (by kernel_rfl) (by kernel_rfl)
 have tT:=Te.isTypeOf
 have cT:=Te.isComparable
 have mR:=Te.isMethodComparable
 have nE:=Te.noIsE
 have uE:=Te.noUnwrapE
 have vE:=Te.noUnwrapsE
 have nW:=Te.noIsW
 have uW:=Te.hasUnwrapW
 have mU:=Te.methodUnwrap
 have hty:=run_eql_iface_types (P:=Tryz.prog) 151 28 (.pointer (some ⟨pb,0,none⟩)) (.int .u16 0) Tryz.underlying82 (by decide) w
 have heq:=Lib.run_eql_iface_int (P:=Tryz.prog) w (t:=82) (tx:=28) (k:=.u16) k 0 Tryz.underlying82 (by kernel_rfl) Tryz.underlying28
 have hk0:((k:Int) == 0)=false:=by simpa using hk
 rw [hk0] at heq
 go_enter Tryz.func69,Tryz.ntmps69
 go_wp2
 refine wp_loop_rounds 2 ?_
 rw [rounds_succ]
 go_wp2
 rw [rounds_succ]
 go_wp2
 go_ret
 exact⟨rfl,rfl⟩
def ErrG (w:World):Prop:=w.cell? ⟨0,0,none⟩=some (.iface 325 (.agg #[.pointer (some ⟨6,82,none⟩)]))
theorem told_any (pb:Nat) (k:Int) (cs:Array Value) (w:World) (hk:k≠0) (hg:ErrG w) (h1:w.heap[pb]?=some (.cells cs 223 (0,0))) (h2:cs[1]?=some (.iface 28 (.int .u16 k))) :
  Calls Tryz.prog 18 #[.iface 151 (.pointer (some ⟨pb,0,none⟩))] w fun e w'=>e=.returned (.int .u16 150)∧Below w.heap.size w w':=by
 obtain⟨X,hX⟩:∃X:World,X=w.alloc (.cells #[.pointer none] 151):=⟨_,rfl⟩
 have hlt:pb<w.heap.size:=by
  rcases Nat.lt_or_ge pb w.heap.size with h | h
  ·exact h
  ·rw [Array.getElem?_eq_none h] at h1
   cases h1
 have ho:Olds w X:=by rw [hX];exact Olds.alloc _ _
 have hXb:X.heap[w.heap.size]?=some (.cells #[.pointer none] 151 (0,0)):=by rw [hX];exact heap_alloc_new _ _
 have hXB:Below w.heap.size w X:=by rw [hX];exact (Below.refl _ _).alloc (Nat.le_refl _) _
 have hXs:X.heap.size=w.heap.size+1:=by rw [hX];simp
 have HI:=Lib.hid (is_fault pb k X hk (by rw [cell_of_heap ((ho.2 pb hlt).trans h1)];exact h2))
 have HA:=Lib.hid (as_hit ⟨pb,0,none⟩ ⟨w.heap.size,0,none⟩ (.pointer none) X (ho.cell hg) (by rw [cell_of_heap hXb];rfl) (by simp [World.frozen?,hXb]))
 have HX:=Lib.hid hX
 go_enter Tryz.func18,Tryz.ntmps18
 clear hX ho hXb h1 h2
 go_wp2_with (first
  | (go_at_call 69;rw [← HX.out];refine HI.out.mono ?_;clear HI;rintro e w2 ⟨rfl,hw2⟩;rw [hw2];clear hw2 w2)
  | (go_at_call 70;refine HA.out.mono ?_;clear HA;rintro e w3 ⟨rfl,hw3⟩;have B3:Hid (Below w.heap.size w w3):=Lib.hid (by rw [hw3];exact ((((hXB.alloc (by omega) _).alloc (by simp;omega) _).alloc (by simp;omega) _).alloc (by simp;omega) _).setCell (Nat.le_refl _) _);clear hw3))
 go_ret
 exact⟨rfl,B3.out⟩
end Go.Proofs.YtbecggfbblnglaaGreatDoor
namespace Go.Proofs.YtbecggfbblnglaaGreatDoor
open Go Go.RowKit Go.Ix
theorem bcheck_any (s:ByteArray) (k:Int) (w:World) (hk:k≠0):Calls Tryz.prog 64 #[.string s,.int .u16 k] w fun e w'=>e=.returned (.iface 151 (.pointer (some ⟨w.heap.size,0,none⟩)))∧w'=w.alloc (.cells #[.string s,.iface 28 (.int .u16 k)] 223):=by
 have hk0:((k:Int) == 0)=false:=by simpa using hk
 go_enter Tryz.func64,Tryz.ntmps64
 go_wp2_with fail
 go_ret
 exact⟨rfl,rfl⟩
theorem bcheck_zero (s:ByteArray) (w:World):Calls Tryz.prog 64 #[.string s,.int .u16 0] w fun e w'=>e=.returned .nilIface∧w'=w:=by
 go_enter Tryz.func64,Tryz.ntmps64
 go_wp2_with fail
 go_ret
 exact⟨rfl,rfl⟩
def FaultAt (w:World) (e:Value):Prop:=∃(pb:Nat) (k:Int) (s:ByteArray),e=.iface 151 (.pointer (some ⟨pb,0,none⟩))∧k≠0∧w.heap[pb]?=some (.cells #[.string s,.iface 28 (.int .u16 k)] 223 (0,0))
end Go.Proofs.YtbecggfbblnglaaGreatDoor
namespace Go.Proofs.YtbecggfbblnglaaGreatDoor
open Go Go.RowKit Go.Ix
set_option maxRecDepth 20000 in
set_option maxHeartbeats 2000000 in
theorem blow_lit {w:World}{B:Nat}(g:Nat) (bs:List Nat) (n many:Nat) (hg:w.heap[g]?=some (.cells (octs bs).toArray 5 (bs.length,bs.length+1))) (hB:B≤w.heap.size) (hn:n<18446744073709551616) (hm:many≤8) (hm1:1≤many) (hl:bs.length≤1000000) :
  Calls Tryz.prog 67 #[.slice (some ⟨g,0,none⟩) bs.length bs.length,.int .u64 n,.int .i64 many] w fun e w'=>∃v',e=.returned v'∧Row8 w' B v' (bs++low many n)∧Below B w w':=by
 obtain⟨i0,hi0,hz0,hz1,hz2⟩:=info_parts Tryz.info5
 have Hg:=Lib.hid hg
 have hgl:=(Array.getElem?_eq_some_iff.1 hg).1
 have hbl':(octs bs).length=bs.length:=octs_len bs
 clear hg
 obtain⟨N0,hN0⟩:∃N0,N0=bs.length:=⟨_,rfl⟩
 rw [← hN0] at Hg hbl' hl ⊢
 have HN0:=Lib.hid hN0
 clear hN0
 go_enter Tryz.func67,Tryz.ntmps67
 go_wp2_with fail
 go_loopw [0,1,8] (fun sv nv iv wr=>∃(k m:Nat) (ds:List Nat) (o:Option Addr) (N c:Nat),k≤many∧iv=.int .i64 k∧nv=.int .u64 m∧m<18446744073709551616∧ds.length=k∧low many n=ds++low (many-k) m∧sv=.slice o N c∧N=N0+k∧(Row8 wr B (.slice o N c) (bs++ds)∨(k=0∧o=some ⟨g,0,none⟩∧c=N0∧wr=w))∧Below B w wr) (fun _ _ iv _=>many-(intOf iv).toNat)
 case atStart=>exact⟨0,n,[],_,_,_,Nat.zero_le _,rfl,rfl,hn,rfl,rfl,rfl,rfl,.inr ⟨rfl,rfl,rfl,rfl⟩,Below.refl _ _⟩
 case round =>
  obtain⟨k,m,ds,o,N,c,hk,rfl,rfl,hm64,hdl,hlow,rfl,hN,hrow,hb⟩:=hrel
  have Hlow:=Lib.hid hlow
  have Hb:=Lib.hid hb
  have hsz:=hb.size
  have hNb:N≤100000000008:=by omega
  have HN:=Lib.hid hN
  have Hdl:=Lib.hid hdl
  clear hlow hb
  rcases hrow with hrow|⟨rfl,rfl,rfl,rfl⟩
  ·have Hrow8:=Lib.hid hrow
   have Hrow:Hid (wr.ownsRow B 5 1 (.slice o N c) N (octs (bs++ds))):=Lib.hid (by
    have h9:=hrow
    unfold Row8 at h9
    rwa [List.length_append,← HN0.out,hdl,← hN] at h9)
   clear hrow hN hdl
   by_cases hlt:k<many
   ·go_wp2_with (at_builtin;refine wpList_append_lies _ rfl _ _ _ rfl B 5 i0 _ 1 1 Tryz.underlying26 hi0 hz0 hz1 hz2 rfl Nat.one_pos (.slice o N c) N (octs (bs++ds)) rfl (ownsRow_olds Hrow.out (Olds.alloc _ _)) ⟨wr.heap.size,0,none⟩ 1 1 [.int .u8 ((m:Int) % 256)] rfl rfl (World.news_of_block (cs:=#[.int .u8 ((m:Int) % 256)]) (t:=5) (fr:=(0,0)) (heap_alloc_new wr _)) (by simp [Value.oneCell']) Nat.one_pos (by unfold maxLen;omega) (by omega) (by simp;omega) (wr.heap.size+1) (by simp) ?_;intro gg cap2 w4 hown4 hgrow hat hlt4)
    have Hnew:Hid (Row8 w4 B (.slice (some ⟨gg,0,none⟩) (N+1) cap2) (bs++(ds++[m % 256]))):=Lib.hid (by
     unfold Row8
     rw [← List.append_assoc,octs_append,List.length_append,List.length_append,← HN0.out,Hdl.out,← HN.out]
     exact hown4)
    have Hb4:Hid (Below B w w4):=Lib.hid ((Hb.out.alloc (by omega) _).grown hgrow (by simp;omega) (fun b hb=>(ownsRow_block Hrow.out hb).1))
    go_roundw
    case rel=>exact⟨k+1,m / 256,ds++[m % 256],_,_,_,by omega,by go_num,by congr 1,by omega,by rw [List.length_append,Hdl.out];rfl,by
     rw [Hlow.out,show many-k=(many-(k+1))+1 by omega,low_step,List.append_assoc]
     rfl,rfl,by have:=HN.out;omega,.inl Hnew.out,Hb4.out⟩
    case measure=>simp [intOf];omega
   ·go_wp2_with fail
    go_ret
    obtain rfl:k=many:=by omega
    have he:bs++low k n=bs++ds:=by
     have:=Hlow.out
     rw [Nat.sub_self] at this
     rw [this]
     show bs++(ds++[])=_
     rw [List.append_nil]
    rw [he]
    exact⟨_,rfl,Hrow8.out,Hb.out⟩
  ·obtain rfl:ds=[]:=List.eq_nil_of_length_eq_zero hdl
   obtain rfl:N=c:=by omega
   obtain⟨cap2,w4,hrun,hown4,hgrow⟩:=run_append_full (W:=wr.alloc (.cells #[.int .u8 ((m:Int) % 256)] 5)) (B:=B) (g:=g) (n:=N) (xs:=octs bs) (by simp;omega) hbl' (fun j u hu=>by
    have h9:(wr.alloc (.cells #[.int .u8 ((m:Int) % 256)] 5)).heap[g]?=some (.cells (octs bs).toArray 5 (N,N+1)):=(Below.heap_alloc _ _ g hgl).trans Hg.out
    simp only [World.cell?,h9]
    simpa using hu) (.int .u8 ((m:Int) % 256)) wr.heap.size 1 (by
    have h9:=heap_alloc_new wr (.cells #[.int .u8 ((m:Int) % 256)] 5)
    simp only [World.cell?,h9]
    rfl) (by omega)
   have hsa:(wr.alloc (.cells #[.int .u8 ((m:Int) % 256)] 5)).heap.size=wr.heap.size+1:=by simp
   rw [hsa] at hrun hown4
   have Hnew:Hid (Row8 w4 B (.slice (some ⟨wr.heap.size+1,0,none⟩) (N+1) cap2) (bs++[m % 256])):=Lib.hid (by
    unfold Row8
    rw [octs_append,List.length_append,← HN0.out]
    exact hown4)
   have Hb4:Hid (Below B wr w4):=Lib.hid ((Hb.out.alloc (by omega) _).grown hgrow (by simp;omega) (fun b hb=>by cases hb))
   have Hrun:=Lib.hid hrun
   clear hown4 hgrow hrun hN hdl
   go_wp2_with (at_builtin;refine wpList_append_run rfl _ _ rfl _ _ _ w4 rfl rfl Hrun.out ?_)
   go_roundw
   case rel=>exact⟨1,m / 256,[m % 256],_,_,_,by omega,by go_num,by congr 1,by omega,rfl,by
    rw [Hlow.out,show many-0=(many-1)+1 by omega,low_step]
    rfl,rfl,by omega,.inl Hnew.out,Hb4.out⟩
   case measure=>simp [intOf];omega
end Go.Proofs.YtbecggfbblnglaaGreatDoor
