import Derived.Test.YtigafbmabjglfaaGreatDoorJT9
import Derived.Shelf.Abstract
namespace Go.Proofs.YtigafbmabjglfaaGreatDoor
open Go.RowKit Go.Shelf
theorem aP.tr {w w':World}{c b:Nat}{v v':Value}{t:Ty}(h:aP w b t) (k:Tr c w v w' v') (h1:b≠c) (h2:v.ownBlock≠some b):aP w' b t:=(k.blk b h.lt h1 h2).trans h
theorem AZ (l:List Ty) (d:Nat):(cq l d).length=aD l:=by
 unfold cq aD;rw[List.length_flatten,List.map_map]
 congr 1
 exact List.map_congr_left (fun k _=>oX k d)
set_option maxRecDepth 10000
set_option maxHeartbeats 8000000
theorem xP (f:FuncId) (lb:Array Value) (ef:eU f) (w0:World) (c N:Nat) (J Jx:List (Nat×Ty)→World→Value→Prop)
  (Nj:∀pre w w' v,J pre w v→Ext w w'→J pre w' v)
  (Nk:∀pre w v,J pre w v→w0.heap.size≤c∧c<w.heap.size∧∀k,v.ownBlock=some k→w0.heap.size≤k∧k<w.heap.size)
  (hY:∀pre (x:Nat×Ty) w v,J pre w v→pre.length<N→x.1≤1000000→aC w x.2→Calls Tryz.prog f (#[bh x.2,.int .i64 (x.1:Nat)]++lb) w fun e w'=>
   ∃v',Tr c w v w' v'∧((e=.returned (.bool true)∧J (pre++[x]) w' v')∨(e=.returned (.bool false)∧Jx (pre++[x]) w' v'))) (t:Ty) :
  ∀(d:Nat) (pre:List (Nat×Ty)) (w:World) (v:Value),aC w0 t→Below w0.heap.size w0 w→J pre w v→d+t.size≤1000000→pre.length+t.size≤N →
   Calls Tryz.prog 165 #[bh t,.int .i64 d,.func (.func f) #[] lb] w fun e w'=>∃v',Tr c w v w' v'∧((e=.returned (.bool true)∧J (pre++t.gU d) w' v')∨(e=.returned (.bool false)∧∃q,q <+: t.gU d∧Jx (pre++q) w' v')):=by
 induction t using Ty.ind with
 |h t ih=>
 intro d pre w v ht hB hJ hsz hN;have IH:=aa ih;have Hk:=aa ht.all;have hle:=ht.le;have hmx:=ht.max;have fj:=aa (aP.new w t);have X0:Ext w (w.alloc (.cells #[encStr t.aq,.int .i64 t.var,.slice t.A t.args.length t.cap] 53)):=(eR w).alloc _;have hlv:=mf t d;have jb:1≤t.size:=t.size_pos;have QL:=Nj _ _ _ _ hJ X0;have hl0:=Nk _ _ _ hJ;have HC:=aa (hY pre (d,t) _ v QL (by omega) (by show d≤1000000;omega) ((ht.old hB).ext X0));have Ba:=aa hB;have jV:=aa (fun k (hk:k∈t.args)=>Ty.bG hk);have mi:=aa (fun k (hk:k<t.args.length)=>eH t.args hk);have AR:=aa (fun k=>ky t.args k);have HS:ahg (t.size=aD t.args+1):=aa (Ty.size_eq t);have QM:=aa (fun k (hk:k<t.args.length)=>oW t.args (d+1) hk);have VY:=aa (fun k=>nK t.args (d+1) k);have I3:=aa hlv;have VZ:ahg (∀k,v.ownBlock=some k→w0.heap.size≤k):=aa (fun k e=>(hl0.2.2 k e).1);have V0:=aa Nj;have QN:=aa Nk;have T0:ahg (Tr c w v (w.alloc (.cells #[encStr t.aq,.int .i64 t.var,.slice t.A t.args.length t.cap] 53)) v):=aa (Tr.dt X0);unfold eU at ef;have hne:w.heap.size≠c:=by omega
 have PY:v.ownBlock≠some w.heap.size:=fun e=>by have:=(hl0.2.2 _ e).2;omega
 clear ih hB hJ QL hlv hY Nj Nk ht hl0 X0;unfold bh at *;dsimp only at HC;generalize vt:t.A=A0 at *;have zO:=aa vt;clear vt;go_enter Tryz.func165,Tryz.ntmps165;go_wp2_with fail;refine HC.o.mono ?_;rintro e w2 ⟨v2,Bb,(⟨rfl,hJ2⟩|⟨rfl,V3⟩)⟩
 ·have T2:=aa (T0.o.trans Bb);have gy:=aa (fj.o.tr Bb hne PY);have mn:=aa hJ2;clear Bb hJ2 T0 HC;have hc2:=gy.o.c2;rw[zO.o] at hc2;go_wp2
  go_loopw [17] (fun i wr=>∃(k:Nat) (v3:Value),k≤t.args.length∧i=.int .i64 k∧ahg (J (pre++(d,t) :: cq (t.args.take k) (d+1)) wr v3)∧ahg (Tr c w v wr v3)∧ahg (Tr c w2 v2 wr v3)) (fun i _=>t.args.length - (intOf i).toNat)
  case atStart=>exact⟨0,v2,ahj _,rfl,aa (by simpa [cq] using mn.o),T2,aa (Tr.refl _ _ _)⟩
  case round=>
   obtain⟨k,v3,hk,rfl,HJ,HT,xQ⟩:=hrel
   by_cases hlt:k<t.args.length
   ·have aS:(k:Int)<(t.args.length:Int):=by omega
    have dy:(0:Int)≤(k:Int):=by omega
    have q8:=QN.o _ _ _ HJ.o;have V4:=QN.o _ _ _ mn.o;have Ds:ahg (Below w0.heap.size w0 wr):=aa (Ba.o.trans (HT.o.below (by have:=Ba.o.size;omega) q8.1 (fun k hk=>(VZ.o k hk))));obtain⟨b,o,rfl,hb,q0,q1,q2⟩:=(Hk.o.old Ds.o).at_ hlt;have lZ:=ahh hlt;have hcs:=jV.o _ lZ;have gw:=aa (mi.o k hlt);have hS:=HS.o;have hs1:=AR.o (k+1);rw[gw.o] at hs1;have Nl:=aa (QM.o k hlt);have hpl:(pre++(d,t) :: cq (t.args.take k) (d+1)).length=pre.length+1+aD (t.args.take k):=by
     rw[ahn,ahy,AZ];omega
    have HC:=aa (IH.o _ lZ (d+1) _ (wr.alloc (.cells #[encStr (t.args[k]'hlt).aq,.int .i64 (t.args[k]'hlt).var,.slice (t.args[k]'hlt).A (t.args[k]'hlt).args.length (t.args[k]'hlt).cap] 53)) v3 (Hk.o.args _ lZ) (Ds.o.alloc (by have:=Ds.o.size;omega) _) (V0.o _ _ _ _ HJ.o ((eR _).alloc _)) (by omega) (by omega));have T3:ahg (Tr c w v (wr.alloc (.cells #[encStr (t.args[k]'hlt).aq,.int .i64 (t.args[k]'hlt).var,.slice (t.args[k]'hlt).A (t.args[k]'hlt).args.length (t.args[k]'hlt).cap] 53)) v3):=aa (HT.o.trans (Tr.dt ((eR _).alloc _)));have V6:ahg (Tr c w2 v2 (wr.alloc (.cells #[encStr (t.args[k]'hlt).aq,.int .i64 (t.args[k]'hlt).var,.slice (t.args[k]'hlt).A (t.args[k]'hlt).args.length (t.args[k]'hlt).cap] 53)) v3):=aa (xQ.o.trans (Tr.dt ((eR _).alloc _)));have QO:=aa (VY.o k);have QP:ahg (cq (t.args.drop k) (d+1)=(t.args[k]'hlt).gU (d+1)++cq (t.args.drop (k+1)) (d+1)):=aa (by unfold cq;rw[List.drop_eq_getElem_cons hlt];rfl);clear lZ hpl q8 V4;generalize t.args[k]'hlt=x at *;have PZ:(d:Int)+1≤2000000:=by omega
    have Uu:(0:Int)≤(d:Int):=by omega
    go_wp2_with fail;refine HC.o.mono ?_;rintro e w4 ⟨v4,Eg,(⟨rfl,Mh⟩|⟨rfl,q,hq,Eh⟩)⟩
    ·have T4:=aa (T3.o.trans Eg);have V7:=aa (V6.o.trans Eg);have QR:=aa Mh;clear Mh Eg;go_wp2;go_roundw
     case rel=>exact⟨k+1,v4,hlt,by go_num,aa (by rw[Nl.o];simpa using QR.o),T4,V7⟩
     case measure=>simp[intOf];omega
    ·have T4:=aa (T3.o.trans Eg);clear Eg;go_wp2;go_ret;refine⟨v4,T4.o,.inr ⟨rfl,(d,t) :: cq (t.args.take k) (d+1)++q,?_,by simpa using Eh⟩⟩;obtain⟨r,hr⟩:=hq;rw[I3.o,QO.o,QP.o,←hr];exact⟨r++cq (t.args.drop (k+1)) (d+1),by simp⟩
   ·have bU:¬(k:Int)<(t.args.length:Int):=by omega
    have xE:t.args.take k=t.args:=ahm (by omega);have HF:ahg (J (pre++t.gU d) wr v3):=aa (by have:=HJ.o;rw[xE,←I3.o] at this;exact this);clear xE;go_wp2;go_ret;exact⟨v3,HT.o,.inl ⟨rfl,HF.o⟩⟩
 ·have T2:=aa (T0.o.trans Bb);clear Bb;go_wp2;go_ret;exact⟨v2,T2.o,.inr ⟨rfl,[(d,t)],by rw[I3.o];exact⟨_,rfl⟩,V3⟩⟩
set_option maxRecDepth 512
set_option maxHeartbeats 200000
end Go.Proofs.YtigafbmabjglfaaGreatDoor
