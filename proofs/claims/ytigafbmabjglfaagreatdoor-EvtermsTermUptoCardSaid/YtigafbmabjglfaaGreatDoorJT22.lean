import Derived.Test.YtigafbmabjglfaaGreatDoorJT21
import Derived.RangeFuncNested
import Derived.RangeFuncBound
import Derived.RangeFuncCalls
import Derived.RangeFuncLeaves
import Derived.Shelf.RegionOpen
import Derived.OwnWalkIn
import Derived.TacticsInMore
import Derived.LoopNIn
import Derived.LoopIn
namespace Go.Proofs.YtigafbmabjglfaaGreatDoor
open Go.RowKit Go.Shelf
theorem ux {F:Fence}(hd:F.depth=none) (k:Nat):F.room k:=fun d h=>by rw[hd] at h;cases h
theorem RoundIn.qg {F:Fence}(hd:F.depth=none){m m':Nat}{P:Program}{l:Nat}{f:FuncId}{tmps:Array Value}{assign body:Code}{w:World}{R:Ending→World→Prop}
  (h:RoundIn F m P l f tmps assign body w R):RoundIn F m' P l f tmps assign body w R:=⟨h.1,fun c cs _=>h.2 c cs (ux hd _)⟩
theorem YieldAt.qg {F:Fence}(hd:F.depth=none){m:Nat}(m':Nat){P:Program}{l:Nat}{args:Array Value}{W:World}{R:Ending→World→Prop}(h:YieldAt F m P l args W R):YieldAt F m' P l args W R:=by
 obtain⟨fn,tmps,assign,body,hy,hR⟩:=h;exact⟨fn,tmps,assign,body,hy,RoundIn.qg hd hR⟩
structure Kc (n₀ R:Nat) (W W':World):Prop where
 below:Below n₀ W W'
 cells:∀k o,k≠R→W.heap[k]?=some o→o.isCells=true→W'.heap[k]?=some o
section
variable {n₀ R:Nat}{A B C:World}
theorem Kc.refl (n₀ R:Nat) (A:World):Kc n₀ R A A:=⟨Below.refl _ _,fun _ _ _ h _=>h⟩
theorem Kc.trans (h:Kc n₀ R A B) (k:Kc n₀ R B C):Kc n₀ R A C:=⟨h.below.trans k.below,fun i o hi ho hc=>k.cells i o hi (h.cells i o hi ho hc) hc⟩
theorem Kc.alloc (h:Kc n₀ R A B) (hn:n₀≤B.heap.size) (o:Obj):Kc n₀ R A (B.alloc o):=
 h.trans ⟨(Below.refl _ B).alloc hn o,fun _ _ _ ho _=>(Below.heap_alloc _ _ _ (Array.getElem?_eq_some_iff.1 ho).1).trans ho⟩
theorem Kc.put (h:Kc n₀ R A B){l:Nat}{o:Obj}(o':Obj) (hn:n₀≤l) (hl:B.heap[l]?=some o) (ho:o.isCells=false):Kc n₀ R A (B.putObj l o'):=
 h.trans ⟨(Below.refl _ B).grown (grownBy_putObj' B l o') (by have:=(Array.getElem?_eq_some_iff.1 hl).1;omega) (fun k e=>by cases e;exact hn),fun i o2 _ h2 hc=>by
  refine(World.putObj_heap_other (fun e => ?_)).trans h2;subst e;rw[hl] at h2;cases h2;rw[ho] at hc;cases hc⟩
theorem Kc.size (h:Kc n₀ R A B):A.heap.size≤B.heap.size:=h.below.size
end
end Go.Proofs.YtigafbmabjglfaaGreatDoor
namespace Go.Proofs.YtigafbmabjglfaaGreatDoor
open Go.RowKit Go.Shelf
attribute [local go_sem] Oper.semAt_some
end Go.Proofs.YtigafbmabjglfaaGreatDoor
namespace Go.Proofs.YtigafbmabjglfaaGreatDoor
open Go.RowKit Go.Shelf
attribute [local go_sem] Oper.semAt_some
end Go.Proofs.YtigafbmabjglfaaGreatDoor
namespace Go.Proofs.YtigafbmabjglfaaGreatDoor
open Go.RowKit
theorem yM {n:Int}(h:n<0):letter n=[]:=by unfold letter;rw[if_pos h]
theorem Co {m:Nat}(h:m<26):letter (m:Int)=[kX (97+m % 26)]:=by
 unfold letter;rw[if_neg (by omega),if_pos (by omega)];rfl
theorem Cp {m:Nat}(h:¬m<26):letter (m:Int)=[kX (97+m % 26)]++bV (m / 26):=by
 unfold letter;rw[if_neg (by omega),if_neg (by omega)];rfl
theorem oN {n:Nat}(h:n≤9223372036854775807):(bV n).length≤20:=iB 19 n (Nat.lt_of_le_of_lt h (by decide))
set_option maxRecDepth 10000
set_option maxHeartbeats 8000000
theorem FP (n:Int) (h1:n≤9223372036854775807) (w:World):Calls Tryz.prog 232 #[.int .i64 n] w fun e w'=>e=.returned (encStr (letter n))∧Ext w w':=by
 by_cases h0:n<0
 ·rw[yM h0];go_enter Tryz.func232,Tryz.ntmps232;go_wp2;go_ret;exact⟨rfl,eR _⟩
 ·obtain⟨m,rfl⟩:∃m:Nat,n=m:=⟨n.toNat,by omega⟩;have hcv:=pz w (97+m % 26) (97+(m:Int) % 26) (by omega) (by omega);have adD:IntKind.u8.wrap (97+(m:Int) % 26)=97+(m:Int) % 26:=by simp[IntKind.wrap,IntKind.bits,IntKind.signed];omega
  by_cases xO:m<26
  ·have Xl:decide ((m:Int)<26)=true:=by simp;omega
   rw[Co xO];go_enter Tryz.func232,Tryz.ntmps232;go_wp2;go_ret;exact⟨rfl,(eR _).alloc _⟩
  ·have Xl:decide ((m:Int)<26)=false:=by simp;omega
   have HT:=aa (fun w'=>pB (m / 26) (by omega) w');have hq:(m:Int) / 26=((m / 26:Nat):Int):=by omega
   have Me:=aa (oN (show m / 26≤9223372036854775807 by omega));rw[Cp xO];generalize kX (97+m % 26)=c at *;generalize m / 26=q at *;go_enter Tryz.func232,Tryz.ntmps232;go_wp2_with fail;refine(HT.o _).mono ?_;rintro e w2 ⟨rfl,hx⟩;have hsz:¬((⟨[c].toArray⟩:ByteArray).size+(⟨(bV q).toArray⟩:ByteArray).size>9223372036854775807):=by have:=Me.o;rw[aB,aB];simp;omega
   go_wp2;go_ret;refine⟨?_,((eR _).alloc _).trans hx⟩;exact congrArg (fun b=>Ending.returned (Value.string b)) (ByteArray.mk_append_mk [c] (bV q))
set_option maxRecDepth 512
set_option maxHeartbeats 200000
end Go.Proofs.YtigafbmabjglfaaGreatDoor
