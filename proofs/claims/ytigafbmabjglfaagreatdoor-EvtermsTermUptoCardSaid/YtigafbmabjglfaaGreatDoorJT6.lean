import Derived.Test.YtigafbmabjglfaaGreatDoorJT5
import Derived.Laws.IdiomStrings
import Derived.Laws.Concat
namespace Go.Proofs.YtigafbmabjglfaaGreatDoor
open Go.RowKit
theorem DW (n:Int) (h0:0≤n) (h1:n≤9223372036854775807) (w:World):Calls Tryz.prog 237 #[.int .i64 n] w fun e w'=>e=.returned (.int .u64 n)∧w'=w:=by
 have hn:¬n<0:=by omega
 have hw:IntKind.u64.wrap n=n:=by simp[IntKind.wrap,IntKind.bits,IntKind.signed];omega
 go_enter Tryz.func237,Tryz.ntmps237;go_wp2;go_ret;exact⟨rfl,rfl⟩
theorem aB (l:aj):(⟨l.toArray⟩:ByteArray).size=l.length:=by simp[ByteArray.size]
theorem DX {W:World}{B:Nat}{v:Value}{t:TypeId}(h:W.heap[B]?=some (.cells #[v] t (0,0))):W.cell? ⟨B,0,none⟩=some v:=by simp[World.cell?,h]
theorem DY (w:World) (c:Int):(w.alloc (.cells #[.int .u8 c] 5)).cell? ⟨w.heap.size,0,none⟩=some (.int .u8 c):=DX (ah _ _ _ rfl)
theorem pz (w:World) (m:Nat) (c:Int) (hm:m<256) (hc:c=m):(convert 125 9 (.slice (some ⟨w.heap.size,0,none⟩) 1 1)).run Tryz.prog (w.alloc (.cells #[.int .u8 c] 5))=.ok (.string ⟨[kX m].toArray⟩) (w.alloc (.cells #[.int .u8 c] 5)):=by
 have h0:(w.alloc (.cells #[.int .u8 c] 5)).cell? ⟨w.heap.size,0,none⟩=some (.int .u8 c):=(DY w c);have:=run_convert_bytes_back (P:=Tryz.prog) (w.alloc (.cells #[.int .u8 c] 5)) 125 9 5 ⟨w.heap.size,0,none⟩ 1 [kX m] Tryz.underlying125 Tryz.underlying5 Tryz.underlying9 (fun j hj=>by
  have q8:j=0:=by have:j<1:=hj;omega
  subst q8;show(w.alloc (.cells #[.int .u8 c] 5)).cell? ⟨w.heap.size,0,none⟩=_;rw[h0];have:(kX m).toNat=m:=by unfold kX;simp;omega
  show some (Value.int .u8 c)=some (Value.int .u8 ((kX m).toNat:Int));rw[this,hc])
 exact this
set_option maxRecDepth 10000
set_option maxHeartbeats 8000000
theorem DZ (n:Nat) (h1:n≤9223372036854775807) (w:World):Calls Tryz.prog 224 #[.int .i64 n] w fun e w'=>e=.returned (encStr (bV n))∧Ext w w':=by
 have hn:¬(n:Int)<0:=by omega
 have Me:ahg ((bV n).length≤20):=aa (iB 19 n (Nat.lt_of_le_of_lt h1 (by decide)));have HS:=aa (DW n (by omega) (by omega) w);go_enter Tryz.func224,Tryz.ntmps224;go_wp2_with fail;refine HS.o.mono ?_;rintro e w2 ⟨rfl,rfl⟩;go_wp2
 go_loopw [3,4] (fun u s wr=>∃(k:Nat) (l:aj),k≤n∧u=.int .u64 k∧s=encStr l∧l.length≤100∧ahg (bV n=bV k++l)∧ahg (Ext w2 wr)) (fun u _ _=>(intOf u).toNat)
 case atStart=>exact⟨n,[],ahi _,rfl,rfl,by simp,aa (by simp),aa (eR _)⟩
 case round=>
  obtain⟨k,l,hk,rfl,rfl,QH,HD,HX⟩:=hrel
  by_cases I0:(k:Int)>9
  ·have hcv:=pz wr (48+k % 10) (48+(k:Int) % 10) (by omega) (by omega);have hsz:¬((⟨[kX (48+k % 10)].toArray⟩:ByteArray).size+(⟨l.toArray⟩:ByteArray).size>9223372036854775807):=by rw[aB,aB];simp;omega
   have hd:=oC (show ¬k<10 by omega);have qT:ahg (bV n=bV (k / 10)++([kX (48+k % 10)]++l)):=aa (by rw[HD.o,hd,List.append_assoc]);clear hd HD;go_wp2;go_roundw
   case rel=>exact⟨k / 10,[kX (48+k % 10)]++l,by omega,by go_num,congrArg Value.string (ByteArray.mk_append_mk [kX (48+k % 10)] l),by have e:=congrArg List.length qT.o;have:=Me.o;simp only[ahn] at e ⊢;omega,qT,aa (HX.o.alloc _)⟩
   case measure=>simp[intOf];omega
  ·have hcv:=pz wr (48+k) (48+(k:Int)) (by omega) (by omega);have hsz:¬((⟨[kX (48+k)].toArray⟩:ByteArray).size+(⟨l.toArray⟩:ByteArray).size>9223372036854775807):=by rw[aB,aB];simp;omega
   have hd:=mg (show k<10 by omega);have qT:ahg (bV n=[kX (48+k)]++l):=aa (by rw[HD.o,hd]);have hnn:decide ((n:Int)<0)=false:=by simp
   clear hd HD;go_wp2;go_ret;refine⟨?_,HX.o.alloc _⟩;rw[qT.o];exact congrArg (fun b=>Ending.returned (Value.string b)) (ByteArray.mk_append_mk [kX (48+k)] l)
set_option maxRecDepth 512
set_option maxHeartbeats 200000
theorem af {W:World}{B:Nat}{C:Array Value}{t:TypeId}(h:W.heap[B]?=some (.cells C t (0,0))) (j:Nat):W.cell? ⟨B,j,none⟩=C[j]?:=by simp[World.cell?,h]
theorem ai {W:World}{B:Nat}{C:Array Value}{t:TypeId}(h:W.heap[B]?=some (.cells C t (0,0))) (j:Nat):W.frozen? ⟨B,j,none⟩=false:=by simp[World.frozen?,h]
def jW (l:aj):Array Value:=(List.replicate (20 - l.length) (Value.int .u8 0)++l.map fun b=>Value.int .u8 (b.toNat:Int)).toArray
theorem xN (l:aj) (h:l.length≤20):(jW l).size=20:=by simp[jW];omega
theorem AU (l:aj) (_h:l.length≤20) (j:Nat) (hj:j<l.length):(jW l)[20 - l.length+j]?=some (.int .u8 ((l[j]'hj).toNat:Int)):=by
 unfold jW;rw[ahp,List.getElem?_append_right (by simp)];simp[hj]
theorem AV (l:aj) (h:l.length≤19) (b:UInt8):(jW l).setIfInBounds (19 - l.length) (.int .u8 (b.toNat:Int))=jW (b :: l):=by
 unfold jW;rw[ahs]
 congr 1
 have e:List.replicate (20 - l.length) (Value.int .u8 0)=List.replicate (19 - l.length) (Value.int .u8 0)++[Value.int .u8 0]:=by
  rw[show 20 - l.length=(19 - l.length)+1 by omega,List.replicate_succ']
 rw[e,List.append_assoc,List.set_append_right _ _ (by simp)];simp
theorem VU (w:World) (B m:Nat) (i:Int) (hm:m<20) (hi:i=m):(Instr.sliceAt 124 (.pointer (some ⟨B,0,none⟩)) (some (.int .i64 i)) none none).run Tryz.prog w=.ok (.slice (some ⟨B,m,none⟩) (20 - m) (20 - m)) w:=by
 have h0:(0:Int)≤i:=by omega
 have h1:i≤20:=by omega
 have h2:i.toNat=m:=by omega
 have h3:¬(20=m):=by omega
 subst hi;simp[go_sem,h0,h1,h2,h3,Addr.add];omega
theorem Ng (W:World) (B:Nat) (l:aj) (hl:l.length≤20) (_h0:0<l.length) (n c:Nat) (hn:n=l.length) (h:W.heap[B]?=some (.cells (jW l) 124 (0,0))) :
  (convert 125 9 (.slice (some ⟨B,20 - l.length,none⟩) n c)).run Tryz.prog W=.ok (.string ⟨l.toArray⟩) W:=by
 subst hn;exact run_convert_bytes_back (P:=Tryz.prog) W 125 9 5 ⟨B,20 - l.length,none⟩ c l Tryz.underlying125 Tryz.underlying5 Tryz.underlying9 (fun j hj=>by
  rw[show(⟨B,20 - l.length,none⟩:Addr).add j=⟨B,20 - l.length+j,none⟩ from by simp[Addr.add],af h];exact AU l hl j hj)
set_option maxRecDepth 10000
set_option maxHeartbeats 8000000
theorem pB (n:Nat) (h1:n≤9223372036854775807) (w:World):Calls Tryz.prog 41 #[.int .i64 n] w fun e w'=>e=.returned (encStr (bV n))∧Ext w w':=by
 have Me:ahg ((bV n).length≤20):=aa (iB 19 n (Nat.lt_of_le_of_lt h1 (by decide)));have hnn:decide ((n:Int)<0)=false:=by simp
 have hw:IntKind.u64.wrap n=n:=by simp[IntKind.wrap,IntKind.bits,IntKind.signed];omega
 go_enter Tryz.func41,Tryz.ntmps41;go_wp2;have fj:ahg ((w.alloc (.cells #[.int .u8 0,.int .u8 0,.int .u8 0,.int .u8 0,.int .u8 0,.int .u8 0,.int .u8 0,.int .u8 0,.int .u8 0,.int .u8 0,.int .u8 0,.int .u8 0,.int .u8 0,.int .u8 0,.int .u8 0,.int .u8 0,.int .u8 0,.int .u8 0,.int .u8 0,.int .u8 0] 124)).heap[w.heap.size]?=some (.cells (jW []) 124 (0,0))):=aa (ah _ _ _ rfl)
 go_loopw [3,5] (fun u at_ wr=>∃(k:Nat) (l:aj),k≤n∧u=.int .u64 k∧at_=.int .i64 (20 - (l.length:Int))∧l.length≤19∧ahg (bV n=bV k++l)∧ahg (wr.heap[w.heap.size]?=some (.cells (jW l) 124 (0,0)))∧ahg (Ext w wr)) (fun _ at_ _=>(intOf at_).toNat)
 case atStart=>exact⟨n,[],ahi _,rfl,rfl,by simp,aa (by simp),fj,aa ((eR _).alloc _)⟩
 case round=>
  obtain⟨k,l,hk,rfl,rfl,QH,HD,HB,HX⟩:=hrel;have hx0:(0:Int)≤20 - (l.length:Int) - 1:=by omega
  have hx1:20 - (l.length:Int) - 1<20:=by omega
  obtain⟨v0,hcell⟩:∃v0,wr.cell? ⟨w.heap.size,20 - l.length - 1,none⟩=some v0:=⟨_,(af HB.o _).trans (Array.getElem?_eq_getElem (by rw[xN l (by omega)];omega))⟩;have ia:=ai HB.o (20 - l.length - 1);have gy:ahg ((wr.setCell ⟨w.heap.size,20 - l.length - 1,none⟩ (.int .u8 (48+(k:Int) % 10))).heap[w.heap.size]?=some (.cells (jW (kX (48+k % 10) :: l)) 124 (0,0))):=aa (by
   have h:=aw HB.o (20 - l.length - 1) (.int .u8 (48+(k:Int) % 10));have e1:(48+(k:Int) % 10)=((kX (48+k % 10)).toNat:Int):=by unfold kX;simp;omega
   have e2:=AV l QH (kX (48+k % 10));rw[←e1,show 19 - l.length=20 - l.length - 1 by omega] at e2;rw[h,e2])
  have X2:ahg (Ext w (wr.setCell ⟨w.heap.size,20 - l.length - 1,none⟩ (.int .u8 (48+(k:Int) % 10)))):=aa (HX.o.setCell (ahi _) _)
  by_cases xO:k<10
  ·have hq:(k:Int) / 10=0:=by omega
   have HF:ahg (bV n=kX (48+k % 10) :: l):=aa (by rw[HD.o,mg xO,show k % 10=k by omega];rfl);have xD:=VU (wr.setCell ⟨w.heap.size,20 - l.length - 1,none⟩ (.int .u8 (48+(k:Int) % 10))) w.heap.size (20 - (kX (48+k % 10) :: l).length) (20 - (l.length:Int) - 1) (by simp;omega) (by simp;omega);have hcv:=Ng _ w.heap.size (kX (48+k % 10) :: l) (by simp;omega) (by simp) (20 - (20 - (kX (48+k % 10) :: l).length)) (20 - (20 - (kX (48+k % 10) :: l).length)) (by simp;omega) gy.o;clear HD;generalize kX (48+k % 10) :: l=L at *;go_wp2;go_ret;exact⟨by rw[HF.o];rfl,X2.o⟩
  ·have hq:¬(k:Int) / 10=0:=by omega
   have qT:ahg (bV n=bV (k / 10)++(kX (48+k % 10) :: l)):=aa (by rw[HD.o,oC xO,List.append_assoc];rfl);have hl2:(kX (48+k % 10) :: l).length≤19:=by
    have e:=congrArg List.length qT.o;have:=DT (k / 10);have:=Me.o;rw[ahn] at e;omega
   clear HD;go_wp2;go_roundw
   case rel=>exact⟨k / 10,kX (48+k % 10) :: l,by omega,by go_num,congrArg (Value.int .i64) (by simp;omega),hl2,qT,gy,X2⟩
   case measure=>simp[intOf];omega
set_option maxRecDepth 512
set_option maxHeartbeats 200000
end Go.Proofs.YtigafbmabjglfaaGreatDoor
