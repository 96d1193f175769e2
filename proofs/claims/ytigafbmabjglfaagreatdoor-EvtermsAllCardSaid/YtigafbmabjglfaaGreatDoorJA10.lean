import Derived.Test.YtigafbmabjglfaaGreatDoorJA9
import Derived.Shelf.Abstract
namespace Go.Proofs.YtigafbmabjglfaaGreatDoor
open Go.RowKit Go.Shelf
theorem aU.tr {w w':World}{c b:Nat}{v v':Value}{t:Ty}(h:aU w b t) (k:Tr c w v w' v') (h1:b≠c) (h2:v.ownBlock≠some b):aU w' b t:=(k.blk b h.lt h1 h2).trans h
theorem CY (l:List Ty) (d:Nat):(cA l d).length=aF l:=by
 unfold cA aF;rw[List.length_flatten,List.map_map]
 congr 1
 exact List.map_congr_left (fun k _=>qf k d)
set_option maxRecDepth 10000
set_option maxHeartbeats 8000000
theorem zo (f:FuncId) (lb:Array Value) (ef:fz f) (w0:World) (c N:Nat) (J Jx:List (Nat×Ty)→World→Value→Prop)
  (Pj:∀pre w w' v,J pre w v→Ext w w'→J pre w' v)
  (Pk:∀pre w v,J pre w v→w0.heap.size≤c∧c<w.heap.size∧∀k,v.ownBlock=some k→w0.heap.size≤k∧k<w.heap.size)
  (hY:∀pre (x:Nat×Ty) w v,J pre w v→pre.length<N→x.1≤1000000→aH w x.2→Calls Tryz.prog f (#[bl x.2,.int .i64 (x.1:Nat)]++lb) w fun e w'=>
   ∃v',Tr c w v w' v'∧((e=.returned (.bool true)∧J (pre++[x]) w' v')∨(e=.returned (.bool false)∧Jx (pre++[x]) w' v'))) (t:Ty) :
  ∀(d:Nat) (pre:List (Nat×Ty)) (w:World) (v:Value),aH w0 t→Below w0.heap.size w0 w→J pre w v→d+t.size≤1000000→pre.length+t.size≤N →
   Calls Tryz.prog 165 #[bl t,.int .i64 d,.func (.func f) #[] lb] w fun e w'=>∃v',Tr c w v w' v'∧((e=.returned (.bool true)∧J (pre++t.iE d) w' v')∨(e=.returned (.bool false)∧∃q,q <+: t.iE d∧Jx (pre++q) w' v')):=by
 induction t using Ty.ind with
 |h t ih=>
 intro d pre w v ht hB hJ hsz hN;have IH:=aa ih;have Hk:=aa ht.all;have hle:=ht.le;have hmx:=ht.max;have fI:=aa (aU.new w t);have X0:Ext w (w.alloc (.cells #[encStr t.aq,.int .i64 t.var,.slice t.A t.args.length t.cap] 53)):=(eR w).alloc _;have hlv:=mV t d;have jr:1≤t.size:=t.size_pos;have SS:=Pj _ _ _ _ hJ X0;have hl0:=Pk _ _ _ hJ;have HC:=aa (hY pre (d,t) _ v SS (by omega) (by show d≤1000000;omega) ((ht.old hB).ext X0));have CZ:=aa hB;have ki:=aa (fun k (hk:k∈t.args)=>Ty.bo hk);have pD:=aa (fun k (hk:k<t.args.length)=>fp t.args hk);have CS:=aa (fun k=>kP t.args k);have HS:aiE (t.size=aF t.args+1):=aa (Ty.size_eq t);have SU:=aa (fun k (hk:k<t.args.length)=>qd t.args (d+1) hk);have Yl:=aa (fun k=>oP t.args (d+1) k);have KG:=aa hlv;have Ym:aiE (∀k,v.ownBlock=some k→w0.heap.size≤k):=aa (fun k e=>(hl0.2.2 k e).1);have Yn:=aa Pj;have SV:=aa Pk;have T0:aiE (Tr c w v (w.alloc (.cells #[encStr t.aq,.int .i64 t.var,.slice t.A t.args.length t.cap] 53)) v):=aa (Tr.dQ X0);unfold fz at ef;have hne:w.heap.size≠c:=by omega
 have RU:v.ownBlock≠some w.heap.size:=fun e=>by have:=(hl0.2.2 _ e).2;omega
 clear ih hB hJ SS hlv hY Pj Pk ht hl0 X0;unfold bl at *;dsimp only at HC;generalize xn:t.A=A0 at *;have BC:=aa xn;clear xn;go_enter Tryz.func165,Tryz.ntmps165;go_wp2_with fail;refine HC.o.mono ?_;rintro e w2 ⟨v2,C5,(⟨rfl,hJ2⟩|⟨rfl,Yo⟩)⟩
 ·have T2:=aa (T0.o.trans C5);have gS:=aa (fI.o.tr C5 hne RU);have jU:=aa hJ2;clear C5 hJ2 T0 HC;have hc2:=gS.o.c2;rw[BC.o] at hc2;go_wp2
  go_loopw [17] (fun i wr=>∃(k:Nat) (v3:Value),k≤t.args.length∧i=.int .i64 k∧aiE (J (pre++(d,t) :: cA (t.args.take k) (d+1)) wr v3)∧aiE (Tr c w v wr v3)∧aiE (Tr c w2 v2 wr v3)) (fun i _=>t.args.length - (intOf i).toNat)
  case atStart=>exact⟨0,v2,aiH _,rfl,aa (by simpa [cA] using jU.o),T2,aa (Tr.refl _ _ _)⟩
  case round=>
   obtain⟨k,v3,hk,rfl,HJ,HT,zq⟩:=hrel
   by_cases hlt:k<t.args.length
   ·have aN:(k:Int)<(t.args.length:Int):=by omega
    have cV:(0:Int)≤(k:Int):=by omega
    have qx:=SV.o _ _ _ HJ.o;have Yp:=SV.o _ _ _ jU.o;have Fw:aiE (Below w0.heap.size w0 wr):=aa (CZ.o.trans (HT.o.below (by have:=CZ.o.size;omega) qx.1 (fun k hk=>(Ym.o k hk))));obtain⟨b,o,rfl,hb,q0,q1,q2⟩:=(Hk.o.old Fw.o).at_ hlt;have mP:=aiF hlt;have hcs:=ki.o _ mP;have iC:=aa (pD.o k hlt);have hS:=HS.o;have hs1:=CS.o (k+1);rw[iC.o] at hs1;have Pl:=aa (SU.o k hlt);have hpl:(pre++(d,t) :: cA (t.args.take k) (d+1)).length=pre.length+1+aF (t.args.take k):=by
     rw[aiL,aiW,CY];omega
    have HC:=aa (IH.o _ mP (d+1) _ (wr.alloc (.cells #[encStr (t.args[k]'hlt).aq,.int .i64 (t.args[k]'hlt).var,.slice (t.args[k]'hlt).A (t.args[k]'hlt).args.length (t.args[k]'hlt).cap] 53)) v3 (Hk.o.args _ mP) (Fw.o.alloc (by have:=Fw.o.size;omega) _) (Yn.o _ _ _ _ HJ.o ((eR _).alloc _)) (by omega) (by omega));have T3:aiE (Tr c w v (wr.alloc (.cells #[encStr (t.args[k]'hlt).aq,.int .i64 (t.args[k]'hlt).var,.slice (t.args[k]'hlt).A (t.args[k]'hlt).args.length (t.args[k]'hlt).cap] 53)) v3):=aa (HT.o.trans (Tr.dQ ((eR _).alloc _)));have Yq:aiE (Tr c w2 v2 (wr.alloc (.cells #[encStr (t.args[k]'hlt).aq,.int .i64 (t.args[k]'hlt).var,.slice (t.args[k]'hlt).A (t.args[k]'hlt).args.length (t.args[k]'hlt).cap] 53)) v3):=aa (zq.o.trans (Tr.dQ ((eR _).alloc _)));have SX:=aa (Yl.o k);have SY:aiE (cA (t.args.drop k) (d+1)=(t.args[k]'hlt).iE (d+1)++cA (t.args.drop (k+1)) (d+1)):=aa (by unfold cA;rw[List.drop_eq_getElem_cons hlt];rfl);clear mP hpl qx Yp;generalize t.args[k]'hlt=x at *;have RV:(d:Int)+1≤2000000:=by omega
    have Wu:(0:Int)≤(d:Int):=by omega
    go_wp2_with fail;refine HC.o.mono ?_;rintro e w4 ⟨v4,Ge,(⟨rfl,NR⟩|⟨rfl,q,hq,Gf⟩)⟩
    ·have T4:=aa (T3.o.trans Ge);have Yr:=aa (Yq.o.trans Ge);have SZ:=aa NR;clear NR Ge;go_wp2;go_roundw
     case rel=>exact⟨k+1,v4,hlt,by go_num,aa (by rw[Pl.o];simpa using SZ.o),T4,Yr⟩
     case measure=>simp[intOf];omega
    ·have T4:=aa (T3.o.trans Ge);clear Ge;go_wp2;go_ret;refine⟨v4,T4.o,.inr ⟨rfl,(d,t) :: cA (t.args.take k) (d+1)++q,?_,by simpa using Gf⟩⟩;obtain⟨r,hr⟩:=hq;rw[KG.o,SX.o,SY.o,←hr];exact⟨r++cA (t.args.drop (k+1)) (d+1),by simp⟩
   ·have bS:¬(k:Int)<(t.args.length:Int):=by omega
    have wZ:t.args.take k=t.args:=aiK (by omega);have HF:aiE (J (pre++t.iE d) wr v3):=aa (by have:=HJ.o;rw[wZ,←KG.o] at this;exact this);clear wZ;go_wp2;go_ret;exact⟨v3,HT.o,.inl ⟨rfl,HF.o⟩⟩
 ·have T2:=aa (T0.o.trans C5);clear C5;go_wp2;go_ret;exact⟨v2,T2.o,.inr ⟨rfl,[(d,t)],by rw[KG.o];exact⟨_,rfl⟩,Yo⟩⟩
set_option maxRecDepth 512
set_option maxHeartbeats 200000
end Go.Proofs.YtigafbmabjglfaaGreatDoor
