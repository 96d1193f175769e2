import Derived.Test.YtigafbmabjglfaaGreatDoorJT13
import Derived.LaidEql
import Derived.Stop.Asserts
import Derived.RowKitTokens
namespace Go.Proofs.YtigafbmabjglfaaGreatDoor
open Go.RowKit Go.Extern.Stop Go.Stop Go.Extern
theorem NB (t:Value) (w:World) :
  Calls Tryz.prog 76 #[.nilIface,t] w fun e w'=>e=.returned (.bool false)∧w'=w:=by
 go_enter Tryz.func76,Tryz.ntmps76;go_wp2;go_ret;exact⟨rfl,rfl⟩
theorem vM (t:Addr) (w:World):(ReflectliteValue.unpack (.iface 142 (.pointer (some t)))).run Tryz.prog w
  = .ok (.agg #[.pointer (some ⟨4,142,none⟩),.pointer (some ⟨w.heap.size,0,none⟩),.int .u64 150]) (w.alloc (.cells #[.pointer (some t)] 142)):=by kernel_rfl
theorem Ex (a : Addr) (w : World) : (ReflectliteValue.methodAny (ReflectliteValue.valueError "reflectlite.Value.Type" 0) (fun t _ _ _ => ReflectliteType.toType t) #[.agg #[.pointer (some ⟨4, 142, none⟩), .pointer (some a), .int .u64 150]]).run Tryz.prog w
  = .ok (.iface 201 (.agg #[.pointer (some ⟨4,142,none⟩)])) w:=by kernel_rfl
theorem rh (h : Value) (w : World) : (Go.method 438 201 (.agg #[h]) "Kind").run Tryz.prog w = .ok (253, h) w := by kernel_rfl
theorem Ey (w:World):((ReflectliteType.abiMethod fun t=>(fun a:Nat=>Value.int IntKind.u8 (a:Int)) <$> Rtype.kind t) #[.pointer (some ⟨4,142,none⟩)]).run Tryz.prog w=.ok (.int .u8 22) w:=by kernel_rfl
theorem Ez (w:World):((ReflectliteType.abiMethod fun t=>(fun a:Nat=>Value.int IntKind.u8 (a:Int)) <$> Rtype.kind t) #[.pointer (some ⟨4,140,none⟩)]).run Tryz.prog w=.ok (.int .u8 25) w:=by kernel_rfl
theorem EB (z:Sem Value) (f:TypeId→Addr→Nat→Nat→Sem Value) (v:Value) :
  ReflectliteValue.method z f #[v]=(do match ← ReflectliteValue.parts v with|none=>z|some (t,a,fl)=>f t a fl (fl % 32)):=rfl
theorem sA (a:Addr) (w:World):(ReflectliteValue.parts (.agg #[.pointer (some ⟨4,142,none⟩),.pointer (some a),.int .u64 150])).run Tryz.prog w=.ok (some (142,a,150)) w:=by kernel_rfl
theorem Bu (a p:Addr) (W:World) (ha:W.cell? a=some (.pointer (some p))) :
  (ReflectliteValue.method (ReflectliteValue.valueError "reflectlite.Value.IsNil" 0) ReflectliteValue.isNil #[.agg #[.pointer (some ⟨4, 142, none⟩), .pointer (some a), .int .u64 150]]).run Tryz.prog W = .ok (.bool false) W := by
 rw[EB];simp only[Sem.run_bind,sA,Result.andThen];simp[ReflectliteValue.isNil,loadVar,isAgg,underlying,Tryz.underlying142,ha,Result.andThen]
theorem ri (h : Value) (w : World) : (Go.method 438 201 (.agg #[h]) "Elem").run Tryz.prog w = .ok (263, .agg #[h]) w := by kernel_rfl
theorem rj (h : Value) (w : World) : (Go.method 438 201 (.agg #[h]) "Implements").run Tryz.prog w = .ok (264, .agg #[h]) w := by kernel_rfl
theorem oo (h : Value) (w : World) : (Go.method 438 201 (.agg #[h]) "AssignableTo").run Tryz.prog w = .ok (261, .agg #[h]) w := by kernel_rfl
theorem EC (w:World):(ReflectliteType.method ReflectliteType.elem #[.agg #[.pointer (some ⟨4,142,none⟩)]]).run Tryz.prog w=.ok (.iface 201 (.agg #[.pointer (some ⟨4,140,none⟩)])) w:=by kernel_rfl
theorem ED (w : World) : (ReflectliteType.relation "Implements" ReflectliteType.implements_ #[.agg #[.pointer (some ⟨4, 140, none⟩)], .iface 201 (.agg #[.pointer (some ⟨4, 77, none⟩)])]).run Tryz.prog w = .ok (.bool true) w := by kernel_rfl
theorem x6 (v:Value) (w:World):(ReflectliteType.typeOf #[.iface 140 v]).run Tryz.prog w=.ok (.iface 201 (.agg #[.pointer (some ⟨4,140,none⟩)])) w:=by kernel_rfl
theorem x7 (w : World) : (ReflectliteType.relation "AssignableTo" ReflectliteType.assignableTo #[.agg #[.pointer (some ⟨4, 140, none⟩)], .iface 201 (.agg #[.pointer (some ⟨4, 140, none⟩)])]).run Tryz.prog w = .ok (.bool true) w := by kernel_rfl
theorem vN (n:Int) (w:World):(ReflectliteValue.unpack (.iface 140 (.agg #[.int .i64 n]))).run Tryz.prog w
  = .ok (.agg #[.pointer (some ⟨4,140,none⟩),.pointer (some ⟨w.heap.size,0,none⟩),.int .u64 153]) (w.alloc (.cells #[.int .i64 n] 140)):=by kernel_rfl
theorem x8 (w:World):(Rtype.elem? 142).run Tryz.prog w=.ok (some 140) w:=by kernel_rfl
theorem NC (p:Addr) (w:World):(ReflectliteValue.mk 140 p ReflectliteValue.flagAddr).run Tryz.prog w=.ok (.agg #[.pointer (some ⟨4,140,none⟩),.pointer (some p),.int .u64 409]) w:=by kernel_rfl
theorem Bv (a p:Addr) (W:World) (ha:W.cell? a=some (.pointer (some p))) :
  (ReflectliteValue.method (ReflectliteValue.valueError "reflectlite.Value.Elem" 0) ReflectliteValue.elem #[.agg #[.pointer (some ⟨4, 142, none⟩), .pointer (some a), .int .u64 150]]).run Tryz.prog W
   = .ok (.agg #[.pointer (some ⟨4,140,none⟩),.pointer (some p),.int .u64 409]) W:=by
 rw[EB];simp only[Sem.run_bind,sA,Result.andThen];simp[ReflectliteValue.elem,loadVar,isAgg,underlying,Tryz.underlying142,ha,Result.andThen,x8,NC]
theorem ND (v x:Value):ReflectliteValue.set #[v,x]=(do
  let (some (dst,a,fl),some (src,b,_)):=(← ReflectliteValue.parts v,←ReflectliteValue.parts x)
   | unsupported (.noEntry "extern/(internal/reflectlite.Value).Set.zeroValue")
  if fl / ReflectliteValue.flagAddr % 2 == 0 then unsupported (.noEntry "extern/(internal/reflectlite.Value).Set.unaddressable")
  let val ← loadVar src b
  if ← Rtype.directlyAssignable dst src then storeVar dst a val
  else if ← Rtype.implements dst src then
   if (← Rtype.kind src) == 20 then
    match val with
    | .nilIface => unsupported (.noEntry "extern/reflectlite: a nil value of one interface type handed on as a value of another")
    |_=>storeVar dst a val
   else storeVar dst a (.iface src val)
  else panicString ("reflectlite.Set: value of type " ++ (← Rtype.spelt src) ++ " is not assignable to type " ++ (← Rtype.spelt dst))
  pure (.tuple #[])):=rfl
theorem x9 (a:Addr) (w:World):(ReflectliteValue.parts (.agg #[.pointer (some ⟨4,140,none⟩),.pointer (some a),.int .u64 409])).run Tryz.prog w=.ok (some (140,a,409)) w:=by kernel_rfl
theorem Bw (a:Addr) (w:World):(ReflectliteValue.parts (.agg #[.pointer (some ⟨4,140,none⟩),.pointer (some a),.int .u64 153])).run Tryz.prog w=.ok (some (140,a,153)) w:=by kernel_rfl
theorem ya (w:World):(Rtype.directlyAssignable 140 140).run Tryz.prog w=.ok true w:=by kernel_rfl
theorem JY (ta b:Nat) (n:Int) (old:Value) (W:World) (hb:W.cell? ⟨b,0,none⟩=some (.int .i64 n)) (ht:W.cell? ⟨ta,0,none⟩=some old) (hf:W.frozen? ⟨ta,0,none⟩=false) :
  (ReflectliteValue.set #[.agg #[.pointer (some ⟨4,140,none⟩),.pointer (some ⟨ta,0,none⟩),.int .u64 409],.agg #[.pointer (some ⟨4,140,none⟩),.pointer (some ⟨b,0,none⟩),.int .u64 153]]).run Tryz.prog W
   = .ok (.tuple #[]) (W.setCell ⟨ta,0,none⟩ (.int .i64 n)):=by
 rw[ND];simp only[Sem.run_bind,x9,Bw,Result.andThen];simp[ReflectliteValue.flagAddr,loadVar,isAgg,underlying,Tryz.underlying140,Result.andThen,ya,storeVar,Value.cells,storeCells,Addr.add];have hl:=run_loadCells_list (P:=Tryz.prog) W ⟨b,0,none⟩ [.int .i64 n] (by
  intro j v hv;cases j with
  |zero=>injection hv with hv;subst hv;exact hb
  |succ j=>cases hv)
 simp only[ahy,List.length_nil,Nat.reduceAdd] at hl;rw[hl];simp[storeCells,Addr.add];rw[run_store Tryz.prog W ⟨ta,0,none⟩ _ _ (by rfl)];simp[ht,hf]
set_option maxHeartbeats 4000000 in
theorem NF (n:Int) (tb:Nat) (old:Value) (w:World) (hg:w.cell? ⟨2,0,none⟩=some (.iface 201 (.agg #[.pointer (some ⟨4,77,none⟩)]))) (Nw:w.cell? ⟨tb,0,none⟩=some old) (NG:w.frozen? ⟨tb,0,none⟩=false) :
  Calls Tryz.prog 76 #[.iface 140 (.agg #[.int .i64 n]),.iface 142 (.pointer (some ⟨tb,0,none⟩))] w fun ev w'=>ev=.returned (.bool true)∧w'=((((w.setCell ⟨tb,0,none⟩ (.int .i64 n)).alloc (.cells #[.pointer (some ⟨tb,0,none⟩)] 142)).alloc (.cells #[.pointer (some ⟨4,142,none⟩),.pointer (some ⟨w.heap.size,0,none⟩),.int .u64 150] 183)).alloc (.cells #[.pointer (some ⟨4,142,none⟩),.pointer (some ⟨w.heap.size,0,none⟩),.int .u64 150] 183)).alloc (.cells #[.int .i64 n] 140):=by
 have h6 := @run_callFunc_extern Tryz.prog 124 _ (fun args=>ReflectliteValue.unpack (args.getD 0 (.tuple #[]))) Tryz.func124 (by kernel_rfl) (by kernel_rfl) (by kernel_rfl) (by kernel_rfl);have h7 := @run_callFunc_extern Tryz.prog 125 _ (ReflectliteValue.methodAny (ReflectliteValue.valueError "reflectlite.Value.Type" 0) (fun t _ _ _ => ReflectliteType.toType t)) Tryz.func125 (by kernel_rfl) (by kernel_rfl) (by kernel_rfl) (by kernel_rfl);have h8 := @run_callFunc_extern Tryz.prog 126 _ (ReflectliteValue.method (ReflectliteValue.valueError "reflectlite.Value.IsNil" 0) ReflectliteValue.isNil) Tryz.func126 (by kernel_rfl) (by kernel_rfl) (by kernel_rfl) (by kernel_rfl);have h27 := @run_callFunc_extern Tryz.prog 253 _ (ReflectliteType.abiMethod fun t=>do pure (.int .u8 (← Rtype.kind t))) Tryz.func253 (by kernel_rfl) (by kernel_rfl) (by kernel_rfl) (by kernel_rfl);have h37 := @run_callFunc_extern Tryz.prog 263 _ (ReflectliteType.method ReflectliteType.elem) Tryz.func263 (by kernel_rfl) (by kernel_rfl) (by kernel_rfl) (by kernel_rfl);have h38 := @run_callFunc_extern Tryz.prog 264 _ (ReflectliteType.relation "Implements" ReflectliteType.implements_) Tryz.func264 (by kernel_rfl) (by kernel_rfl) (by kernel_rfl) (by kernel_rfl);have h10 := @run_callFunc_extern Tryz.prog 81 _ ReflectliteType.typeOf Tryz.func81 (by kernel_rfl) (by kernel_rfl) (by kernel_rfl) (by kernel_rfl);have h35 := @run_callFunc_extern Tryz.prog 261 _ (ReflectliteType.relation "AssignableTo" ReflectliteType.assignableTo) Tryz.func261 (by kernel_rfl) (by kernel_rfl) (by kernel_rfl) (by kernel_rfl);have h11 := @run_callFunc_extern Tryz.prog 173 _ (ReflectliteValue.method (ReflectliteValue.valueError "reflectlite.Value.Elem" 0) ReflectliteValue.elem) Tryz.func173 (by kernel_rfl) (by kernel_rfl) (by kernel_rfl) (by kernel_rfl);have Wo := @run_callFunc_extern Tryz.prog 174 _ ReflectliteValue.set Tryz.func174 (by kernel_rfl) (by kernel_rfl) (by kernel_rfl) (by kernel_rfl);have tO:=x6;have mA:=oo;have a25:=x7;have v25:=vN;have f6:=vM;have f7:=Ex;have mK:=rh;have mE:=ri;have mI:=rj;have k27:=Ey;have k25:=Ez;have e27:=EC;have i25:=ED;obtain⟨W2,hW2⟩:∃W2,W2=(w.alloc (.cells #[.pointer (some ⟨tb,0,none⟩)] 142)).alloc (.cells #[.pointer (some ⟨4,142,none⟩),.pointer (some ⟨w.heap.size,0,none⟩),.int .u64 150] 183):=⟨_,rfl⟩;have n8:=Bu ⟨w.heap.size,0,none⟩ ⟨tb,0,none⟩ ((w.alloc (.cells #[.pointer (some ⟨tb,0,none⟩)] 142)).alloc (.cells #[.pointer (some ⟨4,142,none⟩),.pointer (some ⟨w.heap.size,0,none⟩),.int .u64 150] 183)) (by simp);clear hW2 W2;have hlt:2<w.heap.size:=by
  rcases Nat.lt_or_ge 2 w.heap.size with h|h
  ·exact h
  ·simp[World.cell?,Array.getElem?_eq_none h] at hg
 have hg2:((w.alloc (.cells #[.pointer (some ⟨tb,0,none⟩)] 142)).alloc (.cells #[.pointer (some ⟨4,142,none⟩),.pointer (some ⟨w.heap.size,0,none⟩),.int .u64 150] 183)).cell? ⟨2,0,none⟩=some (.iface 201 (.agg #[.pointer (some ⟨4,77,none⟩)])):=by
  rw[World.cell?_alloc_lt _ _ ⟨2,0,none⟩ (by show 2<_;rw[World.size_alloc];omega),World.cell?_alloc_lt _ _ ⟨2,0,none⟩ hlt];exact hg
 have oH:tb<w.heap.size:=by
  rcases Nat.lt_or_ge tb w.heap.size with h|h
  ·exact h
  ·simp[World.cell?,Array.getElem?_eq_none h] at Nw
 have el:=Bv ⟨w.heap.size,0,none⟩ ⟨tb,0,none⟩ (((w.alloc (.cells #[.pointer (some ⟨tb,0,none⟩)] 142)).alloc (.cells #[.pointer (some ⟨4,142,none⟩),.pointer (some ⟨w.heap.size,0,none⟩),.int .u64 150] 183)).alloc (.cells #[.pointer (some ⟨4,142,none⟩),.pointer (some ⟨w.heap.size,0,none⟩),.int .u64 150] 183)) (by rw[World.cell?_alloc_lt _ _ ⟨w.heap.size,0,none⟩ (by simp;omega)];simp);have st:=JY tb (w.heap.size+1+1+1) n old ((((w.alloc (.cells #[.pointer (some ⟨tb,0,none⟩)] 142)).alloc (.cells #[.pointer (some ⟨4,142,none⟩),.pointer (some ⟨w.heap.size,0,none⟩),.int .u64 150] 183)).alloc (.cells #[.pointer (some ⟨4,142,none⟩),.pointer (some ⟨w.heap.size,0,none⟩),.int .u64 150] 183)).alloc (.cells #[.int .i64 n] 140)) (by rw[World.cell?_alloc_at _ _ _ _ (by simp)];rfl) (by rw[World.cell?_alloc_lt _ _ ⟨tb,0,none⟩ (by simp;omega),World.cell?_alloc_lt _ _ ⟨tb,0,none⟩ (by simp;omega),World.cell?_alloc_lt _ _ ⟨tb,0,none⟩ (by simp;omega),World.cell?_alloc_lt _ _ ⟨tb,0,none⟩ oH];exact Nw) (by rw[World.frozen?_alloc_old _ _ ⟨tb,0,none⟩ (by simp;omega),World.frozen?_alloc_old _ _ ⟨tb,0,none⟩ (by simp;omega),World.frozen?_alloc_old _ _ ⟨tb,0,none⟩ (by simp;omega),World.frozen?_alloc_old _ _ ⟨tb,0,none⟩ (Nat.ne_of_lt oH)];exact NG);go_enter Tryz.func76,Tryz.ntmps76;go_wp2;refine wp_loop_rounds 1 ?_;rw[rounds_succ];go_wp2;go_ret;exact⟨rfl,rfl⟩
theorem dN {a b:World}(e:Ext a b) (row:Option Nat):a.grownBy b row:=by
 have h:=e.below;obtain⟨l,d,rfl⟩:=e;exact⟨rfl,rfl,rfl,h.size,fun i hi _=>h.block i hi⟩
structure Ap (w:World) (v:Value) (w':World) (v':Value):Prop where
 grown:w.grownBy w' v.ownBlock
 own:v'.ownBlock=v.ownBlock∨∀k,v'.ownBlock=some k→w.heap.size≤k
section
variable {a b c:World}{u v x:Value}
end
end Go.Proofs.YtigafbmabjglfaaGreatDoor
