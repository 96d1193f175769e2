import Derived.Test.YtigafbmabjglfaaGreatDoorJT28
namespace Go.Proofs.YtigafbmabjglfaaGreatDoor
open Go.RowKit
set_option maxRecDepth 10000
set_option maxHeartbeats 8000000
theorem Ar (A:Option Addr) (cap:Nat) (l:List Pd) (w:World) (h:bA w A l):Calls Tryz.prog 14 #[.slice A l.length cap] w fun e w'=>(∃r:Int,e=.returned (.int .i64 r)∧(r=0∨(r=1∧l.length≤30∧Dx l≤20000)))∧Ext w w':=by
 obtain⟨i1,hj,mM,gS,iv⟩:=info_parts ke;have HP:ahg (aD (l.map Pd.ty)=Dx l):=aa (by unfold aD Dx;simp[Function.comp_def]);have H:=aa h;clear h
 by_cases hn:(30:Int)<(l.length:Int)
 ·go_enter Tryz.func14,Tryz.ntmps14;go_wp2;go_ret;exact⟨⟨0,rfl,.inl rfl⟩,eR _⟩
 have EY:(l.length:Int)≤30:=by omega
 go_enter Tryz.func14,Tryz.ntmps14;go_wp2
 go_loopw [3,4] (fun v i wr=>∃k:Nat,k≤l.length∧i=.int .i64 k∧ahg (Ext w wr)∧ahg (wr.ownsRow w.heap.size 53 3 v ((l.take k).map Pd.ty).length (((l.take k).map Pd.ty).flatMap cA.f))) (fun _ i _=>l.length - (intOf i).toNat)
 case atStart=>exact⟨0,ahj _,rfl,aa (eR _),aa (World.ownsRow_nil _ _ _ _)⟩
 case round=>
  obtain⟨k,hk,rfl,HX,HO⟩:=hrel
  by_cases hlt:k<l.length
  ·have aS:(k:Int)<(l.length:Int):=by omega
   have dy:(0:Int)≤(k:Int):=by omega
   obtain⟨b,o,rfl,hb,q0,q1,q2,q3⟩:=(H.o.ext HX.o).at_ hlt;have cS:ahg ((l.take (k+1)).map Pd.ty=(l.take k).map Pd.ty++[(l[k]'hlt).ty]):=aa (by rw[ahl hlt,ahz];rfl);have YD:((l.take k).map Pd.ty).length≤30:=by simp;omega
   generalize l[k]'hlt=x at *;generalize (l.take k).map Pd.ty=L at *;obtain⟨A6,c6,rfl,-,-,-,-⟩:=ak.own cA (l:=L) HO.o;have LP:=HX.o.size;go_wp2_with (at_builtin;refine aH _ rfl _ _ 31 rfl w.heap.size 53 i1 _ 3 48 Tryz.underlying31 hj mM gS iv rfl (by decide) (.slice A6 L.length c6) L.length (L.flatMap cA.f) rfl (HO.o.alloc _) _ 1 1 [encStr x.ty.aq,.int .i64 x.ty.var,.slice x.ty.A x.ty.args.length x.ty.cap] rfl ?c2 ?c3 ?c4 ?c5 ?c6 ?_)
   case c2=>exact Row.RQ _ _ _ (ah _ _ _ rfl)
   case c3=>
    intro y hy;simp at hy
    rcases hy with rfl|rfl|rfl<;>rfl
   case c4=>unfold maxLen;omega
   case c5=>omega
   case c6=>simp;omega
   intro v4 w4 bB hg4 fc;have X4:=aa (Ext.app (HX.o.alloc _) hg4 (HO.o.alloc _) (ahi _));have O4:ahg (w4.ownsRow w.heap.size 53 3 v4 ((l.take (k+1)).map Pd.ty).length (((l.take (k+1)).map Pd.ty).flatMap cA.f)):=aa (by rw[cS.o,iO,ahn];exact bB);clear bB hg4 fc;go_wp2;go_roundw
   case rel=>exact⟨k+1,hlt,by go_num,X4,O4⟩
   case measure=>simp[intOf];omega
  ·have bU:¬(k:Int)<(l.length:Int):=by omega
   have kh:ahg (wr.ownsRow w.heap.size 53 3 u3 (l.map Pd.ty).length ((l.map Pd.ty).flatMap cA.f)):=aa (by have:=HO.o;rwa [ahm (by omega)] at this);have hL:(l.map Pd.ty).length≤30:=by simp;omega
   have TU:∀t∈l.map Pd.ty,aC wr t:=by
    intro t ht;obtain⟨p,hp,rfl⟩:=List.mem_map.1 ht;exact(H.o.all p hp).ty.ext HX.o
   have TT:l.length≤30:=by omega
   have Zb:ahg (∀r:Int,(r=0∨(r=1∧aD (l.map Pd.ty)≤20000))→(r=0∨(r=1∧l.length≤30∧Dx l≤20000))):=aa (by
    rintro r (rfl|⟨rfl,h⟩)
    ·exact .inl rfl
    ·exact .inr ⟨rfl,TT,by rw[←HP.o];exact h⟩)
   generalize l.map Pd.ty=L at *;obtain⟨A6,c6,rfl,d1,d2,d3,-⟩:=ak.own cA (l:=L) kh.o;have HF:=aa (tP A6 c6 L wr ⟨d3,TU⟩ (by omega));clear TU d3;go_wp2_with fail;refine HF.o.mono ?_;rintro e w5 ⟨⟨r,rfl,hr⟩,hx⟩;have HR:=aa (Zb.o r (hr.imp id (fun h=>⟨h.1,h.2.1⟩)));clear hr;go_wp2;go_ret;exact⟨⟨r,rfl,HR.o⟩,HX.o.trans hx⟩
theorem LQ (A:Option Addr) (cap:Nat) (l:List cX) (w:World) (h:jD w A l):Calls Tryz.prog 38 #[.slice A l.length cap] w fun e w'=>(∃r:Int,e=.returned (.int .i64 r)∧(r=0∨(r=1∧l.length≤12∧∀x∈l,x.preds.length≤30∧Dx x.preds≤20000∧x.n≤200)))∧Ext w w':=by
 have H:=aa h;clear h
 by_cases hn:(12:Int)<(l.length:Int)
 ·go_enter Tryz.func38,Tryz.ntmps38;go_wp2;go_ret;exact⟨⟨0,rfl,.inl rfl⟩,eR _⟩
 have EY:(l.length:Int)≤12:=by omega
 go_enter Tryz.func38,Tryz.ntmps38;go_wp2
 go_loopw [3] (fun i wr=>∃k:Nat,k≤l.length∧i=.int .i64 k∧ahg (Ext w wr)∧ahg (∀j (h:j<l.length),j<k→(l[j]'h).preds.length≤30∧Dx (l[j]'h).preds≤20000∧(l[j]'h).n≤200)) (fun i _=>l.length - (intOf i).toNat)
 case atStart=>exact⟨0,ahj _,rfl,aa (eR _),aa (fun j _ hj=>absurd hj (by omega))⟩
 case round=>
  obtain⟨k,hk,rfl,HX,HJ⟩:=hrel
  by_cases hlt:k<l.length
  ·have aS:(k:Int)<(l.length:Int):=by omega
   have dy:(0:Int)≤(k:Int):=by omega
   obtain⟨b,o,rfl,hb,q0,q1,q2,q3⟩:=(H.o.ext HX.o).at_ hlt;have HF:=aa (Ar (l[k]'hlt).A (l[k]'hlt).cap (l[k]'hlt).preds wr ((H.o.all _ (ahh hlt)).row.ext HX.o));have HS:ahg ((l[k]'hlt).preds.length≤30→Dx (l[k]'hlt).preds≤20000→(l[k]'hlt).n≤200→∀j (h:j<l.length),j<k+1→(l[j]'h).preds.length≤30∧Dx (l[j]'h).preds≤20000∧(l[j]'h).n≤200):=aa (fun h1 h2 h3 j hj hjk=>by
    by_cases e:j=k
    ·subst e;exact⟨h1,h2,h3⟩
    ·exact HJ.o j hj (by omega))
   generalize l[k]'hlt=x at *;go_wp2_with fail;refine HF.o.mono ?_;rintro e w2 ⟨⟨r,rfl,hr⟩,hx⟩;have X2:=aa (HX.o.trans hx);have Zc:=hx.cell q2;have hb2:b<w2.heap.size:=by have:=hx.size;omega
   rcases hr with rfl|⟨rfl,h1,h2⟩
   ·go_wp2;go_ret;exact⟨⟨0,rfl,.inl rfl⟩,X2.o⟩
   ·have Mj:=aa h1;have Mk:=aa h2;clear hx h1 h2
    by_cases h3:(200:Int)<x.n
    ·go_wp2;go_ret;exact⟨⟨0,rfl,.inl rfl⟩,X2.o⟩
    ·have Mt:x.n≤200:=by omega
     go_wp2;go_roundw
     case rel=>exact⟨k+1,hlt,by go_num,X2,aa (HS.o Mj.o Mk.o Mt)⟩
     case measure=>simp[intOf];omega
  ·have bU:¬(k:Int)<(l.length:Int):=by omega
   have HA:ahg (l.length≤12∧∀x∈l,x.preds.length≤30∧Dx x.preds≤20000∧x.n≤200):=aa ⟨by omega,fun x hx=>by
    obtain⟨i,hi,rfl⟩:=List.getElem_of_mem hx;exact HJ.o i hi (by omega)⟩
   go_wp2;go_ret;exact⟨⟨1,rfl,.inr ⟨rfl,HA.o⟩⟩,HX.o⟩
theorem LR (A:Option Addr) (cap:Nat) (l:List dK) (w:World) (h:lj w A l):Calls Tryz.prog 37 #[.slice A l.length cap] w fun e w'=>(∃r:Int,e=.returned (.int .i64 r)∧(r=0∨(r=1∧l.length≤9∧∀x∈l,x.cM.length≤9)))∧Ext w w':=by
 have H:=aa h;clear h
 by_cases hn:(9:Int)<(l.length:Int)
 ·go_enter Tryz.func37,Tryz.ntmps37;go_wp2;go_ret;exact⟨⟨0,rfl,.inl rfl⟩,eR _⟩
 have EY:(l.length:Int)≤9:=by omega
 go_enter Tryz.func37,Tryz.ntmps37;go_wp2
 go_loopw [3] (fun i wr=>∃k:Nat,k≤l.length∧i=.int .i64 k∧ahg (Ext w wr)∧ahg (∀j (h:j<l.length),j<k→(l[j]'h).cM.length≤9)) (fun i _=>l.length - (intOf i).toNat)
 case atStart=>exact⟨0,ahj _,rfl,aa (eR _),aa (fun j _ hj=>absurd hj (by omega))⟩
 case round=>
  obtain⟨k,hk,rfl,HX,HJ⟩:=hrel
  by_cases hlt:k<l.length
  ·have aS:(k:Int)<(l.length:Int):=by omega
   have dy:(0:Int)≤(k:Int):=by omega
   obtain⟨b,o,rfl,hb,q0,q1,q2⟩:=(H.o.ext HX.o).at_ hlt;have HS:ahg ((l[k]'hlt).cM.length≤9→∀j (h:j<l.length),j<k+1→(l[j]'h).cM.length≤9):=aa (fun h1 j hj hjk=>by
    by_cases e:j=k
    ·subst e;exact h1
    ·exact HJ.o j hj (by omega))
   generalize l[k]'hlt=x at *
   by_cases h3:(9:Int)<(x.cM.length:Int)
   ·go_wp2;go_ret;exact⟨⟨0,rfl,.inl rfl⟩,HX.o⟩
   ·have Mt:(x.cM.length:Int)≤9:=by omega
    go_wp2;go_roundw
    case rel=>exact⟨k+1,hlt,by go_num,HX,aa (HS.o (by omega))⟩
    case measure=>simp[intOf];omega
  ·have bU:¬(k:Int)<(l.length:Int):=by omega
   have HA:ahg (l.length≤9∧∀x∈l,x.cM.length≤9):=aa ⟨by omega,fun x hx=>by
    obtain⟨i,hi,rfl⟩:=List.getElem_of_mem hx;exact HJ.o i hi (by omega)⟩
   go_wp2;go_ret;exact⟨⟨1,rfl,.inr ⟨rfl,HA.o⟩⟩,HX.o⟩
theorem LS (A:Option Addr) (cap:Nat) (n:Nat) (w:World):Calls Tryz.prog 39 #[.slice A n cap] w fun e w'=>(∃r:Int,e=.returned (.int .i64 r)∧(r=0∨(r=1∧n≤20)))∧Ext w w':=by
 by_cases hn:(20:Int)<(n:Int)
 ·go_enter Tryz.func39,Tryz.ntmps39;go_wp2;go_ret;exact⟨⟨0,rfl,.inl rfl⟩,eR _⟩
 ·have EY:(n:Int)≤20:=by omega
  have oF:n≤20:=by omega
  go_enter Tryz.func39,Tryz.ntmps39;go_wp2;go_ret
  first|exact⟨⟨1,rfl,.inr ⟨rfl,oF⟩⟩,eR _⟩|exact⟨⟨1,rfl,.inr rfl⟩,eR _⟩
set_option maxRecDepth 512
set_option maxHeartbeats 200000
structure LU (x:dz):Prop where
 cls:x.ag.length≤9
 cM:∀c∈x.ag,c.cM.length≤9
 ins:x.insts.length≤12
 pds:∀i∈x.insts,i.preds.length≤30∧Dx i.preds≤20000∧i.n≤200
set_option maxRecDepth 10000
set_option maxHeartbeats 8000000
theorem xt (x:dz) (w:World) (h:dX w x):Calls Tryz.prog 19 #[eX x] w fun e w'=>(∃r:Int,e=.returned (.int .i64 r)∧(r=0∨(r=1∧LU x)))∧Ext w w':=by
 obtain⟨W,hW⟩:∃W,W=w.alloc (.cells #[.slice x.D x.aA.length x.dc,.slice x.C x.ag.length x.cc,.slice x.I x.insts.length x.ic] 26):=⟨_,rfl⟩;have HW:=aa hW.symm;have X0:ahg (Ext w W):=aa (by rw[hW];exact(eR _).alloc _);have B1:ahg (aJ W w.heap.size x):=aa (by rw[hW];exact aJ.new w x);have HK:=aa (LR x.C x.cc x.ag W (h.ag.ext X0.o));have HI:=aa (fun w' (e:Ext W w')=>LQ x.I x.ic x.insts w' (h.insts.ext (X0.o.trans e)));obtain⟨c0,c1,c2⟩:=B1.o.cells;have hb:=B1.o.lt;clear h hW;unfold eX;go_enter Tryz.func19,Tryz.ntmps19;go_upto_region 1 with fail;rw[HW.o];go_wp2_with fail;refine HK.o.mono ?_;rintro e w2 ⟨⟨r,rfl,hr⟩,hx⟩;have X2:=aa (X0.o.trans hx)
 rcases hr with rfl|⟨rfl,h1,h2⟩
 ·go_wp2;go_ret;exact⟨⟨0,rfl,.inl rfl⟩,X2.o⟩
 ·have H1:=aa h1;have H2:=aa h2;have lQ:=aa (HI.o w2 hx);have d2:=hx.cell c2;have hb2:w.heap.size<w2.heap.size:=by have:=hx.size;omega
  clear h1 h2 hx;go_wp2_with fail;refine lQ.o.mono ?_;rintro e w3 ⟨⟨r,rfl,hr⟩,hx3⟩;have X3:=aa (X2.o.trans hx3)
  rcases hr with rfl|⟨rfl,h3,h4⟩
  ·go_wp2;go_ret;exact⟨⟨0,rfl,.inl rfl⟩,X3.o⟩
  ·have H3:=aa h3;have H4:=aa h4;clear h3 h4;go_wp2;go_ret;exact⟨⟨1,rfl,.inr ⟨rfl,H1.o,H2.o,H3.o,H4.o⟩⟩,X3.o⟩
set_option maxRecDepth 512
set_option maxHeartbeats 200000
theorem Au (l:List Ty):∀u∈l.flatMap cA.f,u.oneCell'=true:=by
 intro u hu;obtain⟨x,-,hx⟩:=List.mem_flatMap.1 hu;simp[cA,Ty.cells] at hx
 rcases hx with rfl|rfl|rfl<;>rfl
def rQ (l:List vv):List Ty:=l.flatMap vv.types
def zv (l:List og):List Ty:=l.flatMap fun d=>rQ d.cons
def uP (l:List tU):List Ty:=l.map tU.ty
def q7 (l:List dK):List Ty:=l.flatMap fun c=>uP c.aX
theorem Ic (l:List vv){k:Nat}(h:k<l.length):rQ (l.take (k+1))=rQ (l.take k)++(l[k]'h).types:=by
 unfold rQ;rw[ahl h,List.flatMap_append];simp
theorem Ie (l:List og){k:Nat}(h:k<l.length):zv (l.take (k+1))=zv (l.take k)++rQ (l[k]'h).cons:=by
 unfold zv;rw[ahl h,List.flatMap_append];simp
theorem Ig (l:List tU){k:Nat}(h:k<l.length):uP (l.take (k+1))=uP (l.take k)++[(l[k]'h).ty]:=by
 unfold uP;rw[ahl h,ahz];rfl
theorem Ih (l:List dK){k:Nat}(h:k<l.length):q7 (l.take (k+1))=q7 (l.take k)++uP (l[k]'h).aX:=by
 unfold q7;rw[ahl h,List.flatMap_append];simp
theorem Av (l m:List Ty):aD (l++m)=aD l+aD m:=by unfold aD;rw[ahz,List.sum_append]
theorem qK {α:Type}(f:α→List Ty){x:α}:∀ {l:List α},x∈l→aD (f x)≤aD (l.flatMap f):=by
 intro l
 induction l with
 |nil=>intro h;cases h
 |cons y l ih=>
  intro h;rw[List.flatMap_cons,Av]
  rcases List.mem_cons.1 h with rfl|h
  ·omega
  ·have:=ih h;omega
theorem LV {x:Ty}:∀ {l:List Ty},x∈l→x.size≤aD l:=by
 intro l
 induction l with
 |nil=>intro h;cases h
 |cons y l ih=>
  intro h;have e:aD (y :: l)=y.size+aD l:=rfl
  rcases List.mem_cons.1 h with rfl|h
  ·omega
  ·have:=ih h;omega
structure Ii (x:dz):Prop where
 env:LU x
 ds:x.aA.length≤20
 da:∀d∈x.aA,Sw d
 kl:∀c∈x.ag,c.aX.length≤30∧∀m∈c.aX,m.n≤100∧m.ty.size≤20000
def De (d:og):Prop:=d.n≤100∧d.cons.length≤30∧∀c∈d.cons,c.types.length≤30
def Ij (c:dK):Prop:=c.aX.length≤30∧∀m∈c.aX,m.n≤100
theorem Ii.of {x:dz}(h1:LU x) (h2:x.aA.length≤20) (h3:∀j (h:j<x.aA.length),De (x.aA[j]'h)) (h4:∀j (h:j<x.ag.length),Ij (x.ag[j]'h)) (h5:aD (zv x.aA++q7 x.ag)≤20000):Ii x:=by
 rw[Av] at h5;refine⟨h1,h2,fun d hd => ?_,fun c hc => ?_⟩
 ·obtain⟨j,hj,rfl⟩:=List.getElem_of_mem hd;obtain⟨a,b,c⟩:=h3 j hj;refine⟨a,b,fun y hy=>⟨c y hy,?_⟩⟩;have g1:aD (rQ (x.aA[j]'hj).cons)≤aD (zv x.aA):=qK (fun d:og=>rQ d.cons) hd;have g2:aD y.types≤aD (rQ (x.aA[j]'hj).cons):=qK vv.types hy;show aD y.types≤20000;omega
 ·obtain⟨j,hj,rfl⟩:=List.getElem_of_mem hc;obtain⟨a,b⟩:=h4 j hj;refine⟨a,fun m hm=>⟨b m hm,?_⟩⟩;have g1:aD (uP (x.ag[j]'hj).aX)≤aD (q7 x.ag):=qK (fun c:dK=>uP c.aX) hc;have g2:m.ty.size≤aD (uP (x.ag[j]'hj).aX):=LV (List.mem_map.2 ⟨m,hm,rfl⟩);omega
structure iY (B:Nat) (w wr:World) (v:Value) (L:List Ty):Prop where
 x:Ext w wr
 own:wr.ownsRow B 53 3 v L.length (L.flatMap cA.f)
theorem iY.to {B:Nat}{w wr w':World}{v:Value}{L:List Ty}(h:iY B w wr v L) (e:Ext wr w'):iY B w w' v L:=⟨h.x.trans e,bk h.own e⟩
structure TV (g:Nat) (d:og) (wr:World) (v:Value):Prop where
 box:mr wr g d
 ne:v.ownBlock≠some g
theorem TV.app {g:Nat}{d:og}{wr w':World}{v v':Value}(h:TV g d wr v) (hg:wr.grownBy w' v.ownBlock) (ha:v'.ownBlock=v.ownBlock∨v'.ownBlock=some wr.heap.size):TV g d w' v':=by
 have hl:=h.box.lt;refine⟨(hg.block g hl (fun e=>h.ne e.symm)).trans h.box,fun e => ?_⟩
 rcases ha with ha|ha
 ·exact h.ne (ha▸e)
 ·rw[ha] at e;injection e with e;omega
set_option maxRecDepth 10000
set_option maxHeartbeats 8000000
theorem LW (x:dz) (w:World) (h:dX w x) (Ik:∀c∈x.ag,c.aX.length≤2000000000000):Calls Tryz.prog 20 #[eX x] w fun e w'=>(∃r:Int,e=.returned (.int .i64 r)∧(r=0∨(r=1∧Ii x)))∧Ext w w':=by
 obtain⟨i1,hj,mM,gS,iv⟩:=info_parts ke;obtain⟨W,hW⟩:∃W,W=w.alloc (.cells #[.slice x.D x.aA.length x.dc,.slice x.C x.ag.length x.cc,.slice x.I x.insts.length x.ic] 26):=⟨_,rfl⟩;have HW:=aa hW.symm;have X0:ahg (Ext w W):=aa (by rw[hW];exact(eR _).alloc _);have B1:ahg (aJ W w.heap.size x):=aa (by rw[hW];exact aJ.new w x);have HE:=aa (xt x W (h.ext X0.o));have HD:=aa h.aA;have HK:=aa h.ag;have VA:=aa Ik;have HOf:=aa (@Ii.of x);have TW:ahg (∀t∈zv x.aA++q7 x.ag,aC w t):=aa (fun t ht=>by
  rcases List.mem_append.1 ht with ht|ht
  ·obtain⟨d,hd,ht⟩:=List.mem_flatMap.1 ht;obtain⟨c,hc,ht⟩:=List.mem_flatMap.1 ht;exact((h.aA.all d hd).row.all c hc).row.args t ht
  ·obtain⟨c,hc,ht⟩:=List.mem_flatMap.1 ht;obtain⟨m,hm,rfl⟩:=List.mem_map.1 ht;exact((h.ag.all c hc).row.all m hm).row)
 obtain⟨c0,c1,c2⟩:=B1.o.cells;have hb:=B1.o.lt;have hdm:=h.QT;have J3:=h.ZC;have cv:=h.JH;have nr:=h.Uv;clear h hW Ik;unfold eX at *;go_enter Tryz.func20,Tryz.ntmps20;go_upto_region 1 with fail;rw[HW.o];clear HW;go_wp2_with fail;refine HE.o.mono ?_;rintro e w2 ⟨⟨r,rfl,hr⟩,hx⟩;have X2:=aa (X0.o.trans hx);have Y2:=aa hx
 rcases hr with rfl|⟨rfl,hr⟩
 ·go_wp2;go_ret;exact⟨⟨0,rfl,.inl rfl⟩,X2.o⟩
 have HF:=aa hr;have d0:=hx.cell c0;have hb2:w.heap.size<w2.heap.size:=by have:=hx.size;omega
 have oh:=hr.cls;have H27:=aa (LS x.D x.dc x.aA.length w2);clear hx hr HE c0 c1 c2;go_wp2_with fail;refine H27.o.mono ?_;rintro e w3 ⟨⟨r,rfl,hr⟩,hx⟩;have X3:=aa (X2.o.trans hx);have Y3:=aa (Y2.o.trans hx)
 rcases hr with rfl|⟨rfl,sN⟩
 ·go_wp2;go_ret;exact⟨⟨0,rfl,.inl rfl⟩,X3.o⟩
 clear hx H27 d0 hb2;have r8:=aa (fun w' (e:Ext w3 w')=>(B1.o.ext (Y3.o.trans e)));have R0:ahg (iY w3.heap.size w3 w3 (.slice none 0 0) (zv (x.aA.take 0))):=aa ⟨eR _,World.ownsRow_nil _ _ _ _⟩;obtain⟨n3,Jd⟩:∃n3,n3=w3.heap.size:=⟨_,rfl⟩;rw[←Jd] at R0;have TX:=aa Jd;have P0:w.heap.size<n3:=by rw[Jd];exact(r8.o w3 (eR _)).lt
 clear Jd;go_wp2
 go_loopw [3,4] (fun v i wr=>∃k:Nat,k≤x.aA.length∧i=.int .i64 k∧ahg (iY n3 w3 wr v (zv (x.aA.take k)))∧(zv (x.aA.take k)).length≤900*k∧ahg (∀j (h:j<x.aA.length),j<k→De (x.aA[j]'h))) (fun _ i _=>x.aA.length - (intOf i).toNat)
 case atStart=>exact⟨0,ahj _,rfl,R0,by simp[zv],aa (fun j _ hj=>absurd hj (by omega))⟩
 case round=>
  obtain⟨k,hk,rfl,HR,hlen,HJ⟩:=hrel;obtain⟨e0,e1,e2⟩:=(r8.o wr HR.o.x).cells;have hbr:=(r8.o wr HR.o.x).lt
  by_cases hlt:k<x.aA.length
  ·have aS:(k:Int)<(x.aA.length:Int):=by omega
   have dy:(0:Int)≤(k:Int):=by omega
   obtain⟨b,o,hA,hb4,q0,q1,q2⟩:=(HD.o.ext (X3.o.trans HR.o.x)).at_ hlt;have KA:=aa (HD.o.all _ (ahh hlt));have cS:=aa (Ie x.aA hlt);have mn:ahg (De (x.aA[k]'hlt)→∀j (h:j<x.aA.length),j<k+1→De (x.aA[j]'h)):=aa (fun h1 j hj hjk=>by
    by_cases e:j=k
    ·subst e;exact h1
    ·exact HJ.o j hj (by omega))
   generalize x.aA[k]'hlt=d at *;obtain⟨dn,dk,DA,xu,cons⟩:=d;have Zd:=KA.o.le;have Ze:=KA.o.max;simp only[] at *;obtain⟨WB,zW⟩:∃WB,WB=wr.alloc (.cells #[encStr dn,.int .i64 dk,.slice DA cons.length xu] 99):=⟨_,rfl⟩;have HWB:=aa zW.symm;have XB:ahg (Ext wr WB):=aa (by rw[zW];exact(eR _).alloc _);have Qp:ahg (mr WB wr.heap.size ⟨dn,dk,DA,xu,cons⟩):=aa (by rw[zW];exact mr.new wr ⟨dn,dk,DA,xu,cons⟩);clear zW;rw[hA] at e0;have yz:ahg ((zv (x.aA.take (k+1))).length=(zv (x.aA.take k)).length+(rQ cons).length):=aa (by rw[cS.o,ahn]);go_upto_region 8 with fail;rw[HWB.o];obtain⟨f0,f1,f2⟩:=Qp.o.cells;have hbB:=Qp.o.lt;have Zf:=aa KA.o.row;simp only[] at Zf f0 f1 f2;have VH:=aa (HR.o.to XB.o);clear HWB hA q0 q1 q2 e0 e1 e2
   by_cases h1:(100:Int)<dk
   ·go_wp2;go_ret;exact⟨⟨0,rfl,.inl rfl⟩,X3.o.trans VH.o.x⟩
   have Mj:dk≤100:=by omega
   by_cases h2:(30:Int)<(cons.length:Int)
   ·go_wp2;go_ret;exact⟨⟨0,rfl,.inl rfl⟩,X3.o.trans VH.o.x⟩
   have Mk:(cons.length:Int)≤30:=by omega
   generalize hgb:wr.heap.size=gB at *;have Hgb:=aa hgb;have Kh:n3≤gB:=by have:=HR.o.x.size;have:=TX.o;have:=Hgb.o;omega
   clear hgb;generalize hL:zv (x.aA.take k)=L at *;clear hL;have Zg:ahg (iY n3 w3 WB u3 (L++rQ (cons.take 0))):=aa (by rw[List.take_zero];simpa [rQ] using VH.o);have HDx:ahg (TV gB ⟨dn,dk,DA,xu,cons⟩ WB u3):=aa ⟨Qp.o,fun e=>by
    have h1:=(HR.o.own.lt _ e).2;have h2:=Hgb.o;omega⟩
   clear VH HR;go_wp2
   go_loopw [3,6] (fun v i wr=>∃m:Nat,m≤cons.length∧i=.int .i64 m∧ahg (iY n3 w3 wr v (L++rQ (cons.take m)))∧ahg (TV gB ⟨dn,dk,DA,xu,cons⟩ wr v)∧(rQ (cons.take m)).length≤30*m∧ahg (∀j (h:j<cons.length),j<m→(cons[j]'h).types.length≤30)) (fun _ i _=>cons.length - (intOf i).toNat)
   case atStart=>exact⟨0,ahj _,rfl,Zg,HDx,by simp[rQ],aa (fun j _ hj=>absurd hj (by omega))⟩
   case round=>
    obtain⟨m,hm,rfl,HS,HY,gD,HI⟩:=hrel;obtain⟨f0,f1,f2⟩:=HY.o.box.cells;have hbY:=HY.o.box.lt;simp only[] at f0 f1 f2
    by_cases DK:m<cons.length
    ·have Zh:(m:Int)<(cons.length:Int):=by omega
     have Mp:(0:Int)≤(m:Int):=by omega
     obtain⟨b2,o2,rfl,Mr,r0,r1⟩:=(Zf.o.ext (X3.o.trans HS.o.x)).at_ DK;have HCm:=aa ((Zf.o.ext (X3.o.trans HS.o.x)).all _ (ahh DK));have xX:=aa (Ic cons DK);have lQ:ahg ((cons[m]'DK).types.length≤30→∀j (h:j<cons.length),j<m+1→(cons[j]'h).types.length≤30):=aa (fun h1 j hj hjk=>by
      by_cases e:j=m
      ·subst e;exact h1
      ·exact HI.o j hj (by omega))
     generalize cons[m]'DK=c at *
     by_cases h3:(30:Int)<(c.types.length:Int)
     ·go_wp2;go_ret;exact⟨⟨0,rfl,.inl rfl⟩,X3.o.trans HS.o.x⟩
     have Mt:(c.types.length:Int)≤30:=by omega
     have aff:=HCm.o.le;have HTr:=aa HCm.o.row.row;have Pp:ahg (L++rQ (cons.take (m+1))=(L++rQ (cons.take m))++c.types):=aa (by rw[xX.o,List.append_assoc]);have Zi:ahg ((rQ (cons.take (m+1))).length=(rQ (cons.take m)).length+c.types.length):=aa (by rw[xX.o,ahn]);have hLM:(L++rQ (cons.take m)).length≤18900:=by rw[ahn];omega
     generalize hM:L++rQ (cons.take m)=M at *;clear hM;obtain⟨A6,c6,rfl,-,-,-,-⟩:=ak.own cA (l:=M) HS.o.own;have Zj:=HS.o.x.size;have TY:=aa HS.o.own;go_wp2_with (at_builtin;refine aH _ rfl _ _ 31 rfl n3 53 i1 _ 3 48 Tryz.underlying31 hj mM gS iv rfl (by decide) (.slice A6 M.length c6) M.length (M.flatMap cA.f) rfl TY.o c.A c.types.length c.cap (c.types.flatMap cA.f) rfl ?c2 ?c3 ?c4 ?c5 ?c6 ?_)
     case c2=>exact HTr.o
     case c3=>first|exact Au _|exact fun u x hx hu=>Au c.types u (List.mem_flatMap.2 ⟨x,hx,hu⟩)
     case c4=>unfold maxLen;omega
     case c5=>omega
     case c6=>have:=TX.o;omega
     intro v4 w4 bB hg4 fc;have HY4:=aa (HY.o.app hg4 fc);have R4:ahg (iY n3 w3 w4 v4 (L++rQ (cons.take (m+1)))):=aa ⟨Ext.app HS.o.x hg4 TY.o (by have:=TX.o;omega),by rw[Pp.o,ahn,List.flatMap_append];exact bB⟩;clear bB hg4 fc;go_wp2;go_roundw
     case rel=>exact⟨m+1,DK,by go_num,R4,HY4,by have:=Zi.o;omega,aa (lQ.o (by omega))⟩
     case measure=>simp[intOf];omega
    ·have bU:¬(m:Int)<(cons.length:Int):=by omega
     have ma:ahg (De ⟨dn,dk,DA,xu,cons⟩):=aa ⟨Mj,by show cons.length≤30;omega,fun c hc=>by
      obtain⟨j,hj,rfl⟩:=List.getElem_of_mem hc;have hj':j<cons.length:=hj;exact HI.o j hj' (by omega)⟩
     have e9:cons.take m=cons:=ahm (by omega);rw[e9] at HS gD;rw[←cS.o] at HS;clear e9;go_wp2;go_roundw
     case rel=>exact⟨k+1,hlt,by go_num,HS,by have:=yz.o;omega,aa (mn.o ma.o)⟩
     case measure=>simp[intOf];omega
  ·have bU:¬(k:Int)<(x.aA.length:Int):=by omega
   have Oc:ahg (∀j (h:j<x.aA.length),De (x.aA[j]'h)):=aa (fun j hj=>HJ.o j hj (by omega));have e9:x.aA.take k=x.aA:=ahm (by omega);rw[e9] at HR hlen;have hlD:(zv x.aA).length≤18000:=by omega
   have HRX:=aa (r8.o wr HR.o.x);generalize hLD:zv x.aA=L at *;have HLD:=aa hLD;have S0:ahg (iY n3 w3 wr u3 (L++q7 (x.ag.take 0))):=aa (by rw[List.take_zero];simpa [q7] using HR.o);clear e9 hlen HJ HR hLD HD;go_wp2;rename World=>wA
   go_loopw [3,7] (fun v i wr=>∃k:Nat,k≤x.ag.length∧i=.int .i64 k∧ahg (iY n3 w3 wr v (L++q7 (x.ag.take k)))∧(q7 (x.ag.take k)).length≤30*k∧ahg (∀j (h:j<x.ag.length),j<k→Ij (x.ag[j]'h))) (fun _ i _=>x.ag.length - (intOf i).toNat)
   case atStart=>exact⟨0,ahj _,rfl,S0,by simp[q7],aa (fun j _ hj=>absurd hj (by omega))⟩
   case round=>
    obtain⟨k,hk,rfl,HR,hlen,HJ⟩:=hrel;obtain⟨e0,e1,e2⟩:=(r8.o wr HR.o.x).cells;have hbr:=(r8.o wr HR.o.x).lt
    by_cases hlt:k<x.ag.length
    ·have aS:(k:Int)<(x.ag.length:Int):=by omega
     have dy:(0:Int)≤(k:Int):=by omega
     obtain⟨b,o,hA,hb4,q0,q1,q2⟩:=(HK.o.ext (X3.o.trans HR.o.x)).at_ hlt;have Dw:=aa (HK.o.all _ (ahh hlt));have je:=VA.o _ (ahh hlt);have cS:=aa (Ih x.ag hlt);have mn:ahg (Ij (x.ag[k]'hlt)→∀j (h:j<x.ag.length),j<k+1→Ij (x.ag[j]'h)):=aa (fun h1 j hj hjk=>by
      by_cases e:j=k
      ·subst e;exact h1
      ·exact HJ.o j hj (by omega))
     generalize x.ag[k]'hlt=d at *;obtain⟨dn,S,sc,cM,DA,xu,aX⟩:=d;have Zd:=Dw.o.le;have Ze:=Dw.o.max;have HMe:=aa Dw.o.row;simp only[] at *;rw[hA] at e1;have yz:ahg ((q7 (x.ag.take (k+1))).length=(q7 (x.ag.take k)).length+aX.length):=aa (by rw[cS.o,ahn];simp[uP]);have UD:ahg (iY n3 w3 wr u3 ((L++q7 (x.ag.take k))++uP (aX.take 0))):=aa (by rw[List.take_zero];simpa [uP] using HR.o);have Zk:ahg (L++q7 (x.ag.take (k+1))=(L++q7 (x.ag.take k))++uP aX):=aa (by rw[cS.o,List.append_assoc]);have hLM:(L++q7 (x.ag.take k)).length≤18300:=by rw[ahn];omega
     generalize hM:L++q7 (x.ag.take k)=M at *;clear hM hA;go_wp2
     go_loopw [3,9] (fun v i wr=>∃m:Nat,m≤aX.length∧i=.int .i64 m∧ahg (iY n3 w3 wr v (M++uP (aX.take m)))∧ahg (∀j (h:j<aX.length),j<m→(aX[j]'h).n≤100)) (fun _ i _=>aX.length - (intOf i).toNat)
     case atStart=>exact⟨0,ahj _,rfl,UD,aa (fun j _ hj=>absurd hj (by omega))⟩
     case round=>
      obtain⟨m,hm,rfl,HS,HI⟩:=hrel
      by_cases DK:m<aX.length
      ·have Zh:(m:Int)<(aX.length:Int):=by omega
       have Mp:(0:Int)≤(m:Int):=by omega
       obtain⟨b2,o2,rfl,Mr,r0,r1,r2,r3,r4⟩:=(HMe.o.ext (X3.o.trans HS.o.x)).at_ DK;have xX:=aa (Ig aX DK);have lQ:ahg ((aX[m]'DK).n≤100→∀j (h:j<aX.length),j<m+1→(aX[j]'h).n≤100):=aa (fun h1 j hj hjk=>by
        by_cases e:j=m
        ·subst e;exact h1
        ·exact HI.o j hj (by omega))
       generalize aX[m]'DK=c at *
       by_cases h3:(100:Int)<c.n
       ·go_wp2;go_ret;exact⟨⟨0,rfl,.inl rfl⟩,X3.o.trans HS.o.x⟩
       have Mt:c.n≤100:=by omega
       have Pp:ahg (M++uP (aX.take (m+1))=(M++uP (aX.take m))++[c.ty]):=aa (by rw[xX.o,List.append_assoc]);have afi:(M++uP (aX.take m)).length≤18300+m:=by rw[ahn];simp only[uP,List.length_map,List.length_take];omega
       generalize hM2:M++uP (aX.take m)=M2 at *;clear hM2;obtain⟨A6,c6,rfl,-,-,-,-⟩:=ak.own cA (l:=M2) HS.o.own;have Zj:=HS.o.x.size;have TY:=aa HS.o.own;go_wp2_with (at_builtin;refine aH _ rfl _ _ 31 rfl n3 53 i1 _ 3 48 Tryz.underlying31 hj mM gS iv rfl (by decide) (.slice A6 M2.length c6) M2.length (M2.flatMap cA.f) rfl (TY.o.alloc _) _ 1 1 [encStr c.ty.aq,.int .i64 c.ty.var,.slice c.ty.A c.ty.args.length c.ty.cap] rfl ?c2 ?c3 ?c4 ?c5 ?c6 ?_)
       case c2=>exact Row.RQ _ _ _ (ah _ _ _ rfl)
       case c3=>first|exact⟨rfl,rfl,rfl⟩|(intro y hy;simp at hy;rcases hy with rfl|rfl|rfl<;>rfl)
       case c4=>unfold maxLen;omega
       case c5=>omega
       case c6=>have:=TX.o;simp;omega
       intro v4 w4 bB hg4 fc;have R4:ahg (iY n3 w3 w4 v4 (M++uP (aX.take (m+1)))):=aa ⟨Ext.app (HS.o.x.alloc _) hg4 (TY.o.alloc _) (by have:=TX.o;omega),by rw[Pp.o,iO,ahn];exact bB⟩;clear bB hg4 fc;go_wp2;go_roundw
       case rel=>exact⟨m+1,DK,by go_num,R4,aa (lQ.o Mt)⟩
       case measure=>simp[intOf];omega
      ·have bU:¬(m:Int)<(aX.length:Int):=by omega
       have Vl:ahg (∀j (h:j<aX.length),(aX[j]'h).n≤100):=aa (fun j hj=>HI.o j hj (by omega));have e9:aX.take m=aX:=ahm (by omega);rw[e9] at HS;clear e9
       by_cases h4:(30:Int)<(aX.length:Int)
       ·go_wp2;go_ret;exact⟨⟨0,rfl,.inl rfl⟩,X3.o.trans HS.o.x⟩
       ·have h4':(aX.length:Int)≤30:=by omega
        have ma:ahg (Ij ⟨dn,S,sc,cM,DA,xu,aX⟩):=aa ⟨by show aX.length≤30;omega,fun c hc=>by
         obtain⟨j,hj,rfl⟩:=List.getElem_of_mem hc;have hj':j<aX.length:=hj;exact Vl.o j hj'⟩
        rw[←Zk.o] at HS;go_wp2;go_roundw
        case rel=>exact⟨k+1,hlt,by go_num,HS,by have:=yz.o;omega,aa (mn.o ma.o)⟩
        case measure=>simp[intOf];omega
    ·have bU:¬(k:Int)<(x.ag.length:Int):=by omega
     have e9:x.ag.take k=x.ag:=ahm (by omega);rw[e9] at HR hlen;clear e9;have Zb:ahg (∀r:Int,(r=0∨(r=1∧aD (L++q7 x.ag)≤20000))→(r=0∨(r=1∧Ii x))):=aa (by
      rintro r (rfl|⟨rfl,h⟩)
      ·exact .inl rfl
      ·exact .inr ⟨rfl,HOf.o HF.o sN Oc.o (fun j hj=>HJ.o j hj (by omega)) (h)⟩)
     have hLM:(L++q7 x.ag).length≤18900:=by rw[ahn];omega
     have TU:∀t∈L++q7 x.ag,aC wr t:=fun t ht=>(TW.o t ht).ext (X3.o.trans HR.o.x)
     generalize L++q7 x.ag=M at *;obtain⟨A6,c6,rfl,d1,d2,d3,-⟩:=ak.own cA (l:=M) HR.o.own;have uF:=aa (tP A6 c6 M wr ⟨d3,TU⟩ (by omega));clear TU d3;go_wp2_with fail;refine uF.o.mono ?_;rintro e w5 ⟨⟨r,rfl,hr⟩,hx⟩;have wR:=aa (Zb.o r (hr.imp id (fun h=>⟨h.1,h.2.1⟩)));clear hr;go_wp2;go_ret;exact⟨⟨r,rfl,wR.o⟩,X3.o.trans (HR.o.x.trans hx)⟩
set_option maxRecDepth 512
set_option maxHeartbeats 200000
structure jJ (x:dz) (preds:List Pd) (given:List Tm):Prop where
 env:LU x
 pl:preds.length≤10
 ps:Dx preds≤20000
 gl:given.length≤10
 gs:bQ given≤3000
 gf:∀t∈given,Jq t
theorem jJ.few {x:dz}{preds:List Pd}{given:List Tm}(h:jJ x preds given):xm x preds:=
 ⟨by have:=h.pl;omega,h.env.cls,h.env.cM,by have:=h.env.ins;omega,fun y hy=>by have:=(h.env.pds y hy).1;omega⟩
theorem jJ.small {x:dz}{preds:List Pd}{given:List Tm}(h:jJ x preds given):∀q∈preds,q.ty.size≤90000:=fun q hq=>by have:=Km hq;have:=h.ps;omega
theorem jJ.terms {x:dz}{preds:List Pd}{given:List Tm}(h:jJ x preds given):∀t∈given,cY t∧t.size≤3001:=fun t ht=>by
 have h1:t.size≤bQ given:=Tree.kv Tm.size ht;have:=h.gs;exact⟨(h.gf t ht).few (by omega),by omega⟩
set_option maxRecDepth 10000
set_option maxHeartbeats 8000000
theorem LX (x:dz) (P:Option Addr) (pc:Nat) (preds:List Pd) (L:Option Addr) (lc:Nat) (given:List Tm) (w:World) (he:dX w x) (Ik:∀c∈x.ag,c.aX.length≤2000000000000) (hP:bA w P preds) (hL:bK w L given) :
  Calls Tryz.prog 5 #[eX x,.slice P preds.length pc,.slice L given.length lc] w fun e w'=>(∃v,e=.returned v∧(v=.bool false∨(v=.bool true∧jJ x preds given)))∧Ext w w':=by
 obtain⟨W,hW⟩:∃W,W=w.alloc (.cells #[.slice x.D x.aA.length x.dc,.slice x.C x.ag.length x.cc,.slice x.I x.insts.length x.ic] 26):=⟨_,rfl⟩;have HW:=aa hW.symm;have X0:ahg (Ext w W):=aa (by rw[hW];exact(eR _).alloc _);have B1:ahg (aJ W w.heap.size x):=aa (by rw[hW];exact aJ.new w x);have H1:=aa (xt x W (he.ext X0.o));have H2:=aa (fun w' (e:Ext W w')=>aa (LW x w' (he.ext (X0.o.trans e)) Ik));have H3:=aa (fun w' (e:Ext W w')=>aa (Ar P pc preds w' (hP.ext (X0.o.trans e))));have H4:=aa (fun w' (e:Ext W w') (h:given.length≤100000)=>aa (KU L lc given w' (hL.ext (X0.o.trans e)) h));clear hW he Ik hP hL;unfold eX at *;go_enter Tryz.func5,Tryz.ntmps5;go_upto_region 1 with fail;rw[HW.o];clear HW;obtain⟨e0,e1,e2⟩:=B1.o.cells;have n1:=B1.o.lt;go_wp2_with fail;refine H1.o.mono ?_;rintro e w2 ⟨⟨r,rfl,hr⟩,hx⟩;have X2:=aa hx;clear hx e0 e1 e2 n1 H1
 rcases hr with rfl|⟨rfl,hfe⟩
 ·go_wp2;go_ret;exact⟨⟨_,rfl,.inl rfl⟩,X0.o.trans X2.o⟩
 have HFe:=aa hfe;obtain⟨e0,e1,e2⟩:=(B1.o.ext X2.o).cells;have n1:=(B1.o.ext X2.o).lt;clear hfe;go_wp2_with fail;refine(H2.o _ X2.o).o.mono ?_;rintro e w3 ⟨⟨r,rfl,hr⟩,hx⟩;have X3:=aa (X2.o.trans hx);clear hx e0 e1 e2 n1 H2
 rcases hr with rfl|⟨rfl,-⟩
 ·go_wp2;go_ret;exact⟨⟨_,rfl,.inl rfl⟩,X0.o.trans X3.o⟩
 by_cases hp:preds.length≤10
 rotate_left
 ·have DV:¬(preds.length:Int)≤10:=by omega
  go_wp2;go_ret;exact⟨⟨_,rfl,.inl rfl⟩,X0.o.trans X3.o⟩
 have DV:(preds.length:Int)≤10:=by omega
 have Cf:=aa hp;clear hp;go_wp2_with fail;refine(H3.o _ X3.o).o.mono ?_;rintro e w4 ⟨⟨r,rfl,hr⟩,hx⟩;have X4:=aa (X3.o.trans hx);clear hx H3
 rcases hr with rfl|⟨rfl,-,wu⟩
 ·go_wp2;go_ret;exact⟨⟨_,rfl,.inl rfl⟩,X0.o.trans X4.o⟩
 have JJ:=aa wu;clear wu
 by_cases hg:given.length≤10
 rotate_left
 ·have BC:¬(given.length:Int)≤10:=by omega
  go_wp2;go_ret;exact⟨⟨_,rfl,.inl rfl⟩,X0.o.trans X4.o⟩
 have BC:(given.length:Int)≤10:=by omega
 have HGl:=aa hg;have H5:=aa (H4.o _ X4.o (by omega));clear hg H4;go_wp2_with fail;refine H5.o.o.mono ?_;rintro e w5 ⟨⟨r,rfl,hr⟩,hx⟩;have X5:=aa (X4.o.trans hx);clear hx H5
 rcases hr with rfl|⟨rfl,Ik,hf⟩
 ·go_wp2;go_ret;exact⟨⟨_,rfl,.inl rfl⟩,X0.o.trans X5.o⟩
 have HF:ahg (jJ x preds given):=aa ⟨HFe.o,Cf.o,JJ.o,HGl.o,Ik,hf⟩;clear Ik hf;go_wp2;go_ret;exact⟨⟨_,rfl,.inr ⟨rfl,HF.o⟩⟩,X0.o.trans X5.o⟩
set_option maxRecDepth 512
set_option maxHeartbeats 200000
open Go.Shelf
def fE (t:Tm) (s:aj):Prop:=∀w,aM w t→Calls Tryz.prog 43 #[bl t] w fun e w'=>e=.returned (encStr s)∧Ext w w'
set_option maxRecDepth 10000
set_option maxHeartbeats 8000000
theorem Aw (t:Tm) (h1:(t.kind == 1)=true):fE t t.name:=by
 intro w h;have fj:=aa (av.new w t);have X0:ahg (Ext w (w.alloc (.cells #[.int .i64 t.kind,.int .i64 t.n,encStr t.name,.slice t.V t.vars.length t.vc,.slice t.T t.types.length t.tc,.slice t.A t.kids.length t.cap] 40))):=aa ((eR w).alloc _);obtain⟨c0,c1,c2,c3,c4,c5⟩:=fj.o.cells;clear h;unfold bl;go_enter Tryz.func43,Tryz.ntmps43;go_wp2;go_ret;exact⟨rfl,X0.o⟩
theorem LY (t:Tm) (h4:(t.kind == 4)=true) (h0:0<t.kids.length) (h1:1<t.kids.length) (sf sa:aj) (hf:fE (t.kids[0]'h0) sf) (ha:fE (t.kids[1]'h1) sa) (hl:sf.length+sa.length≤1000000):fE t ([40]++(sf++[32]++sa)++[41]):=by
 intro w h;obtain⟨W,hW⟩:∃W,W=w.alloc (.cells #[.int .i64 t.kind,.int .i64 t.n,encStr t.name,.slice t.V t.vars.length t.vc,.slice t.T t.types.length t.tc,.slice t.A t.kids.length t.cap] 40):=⟨_,rfl⟩;have HW:=aa hW.symm;have fj:ahg (av W w.heap.size t):=aa (by rw[hW];exact av.new w t);have X0:ahg (Ext w W):=aa (by rw[hW];exact(eR w).alloc _);clear hW;obtain⟨c0,c1,c2,c3,c4,c5⟩:=fj.o.cells;have n1:(t.kind == 1)=false:=by simp at h4 ⊢;omega
 have n2:(t.kind == 2)=false:=by simp at h4 ⊢;omega
 have n3:(t.kind == 14)=false:=by simp at h4 ⊢;omega
 have n4:(t.kind == 3)=false:=by simp at h4 ⊢;omega
 have HK:=aa h.all;obtain⟨b,o,hA,hb,q0,q1,q2,q3,q4,q5⟩:=(HK.o.ext X0.o).at_ h0;obtain⟨b',o',hA',hb',r0,r1,r2,r3,r4,r5⟩:=(HK.o.ext X0.o).at_ h1;have Xp:(⟨b',o',none⟩:Addr)=⟨b,o,none⟩:=Option.some.inj (hA'.symm.trans hA);cases Xp;clear hA' hb';have HF:=aa (fun w' (e:Ext w w')=>aa (hf w' ((HK.o.kids _ (ahh h0)).ext e)));have HA:=aa (fun w' (e:Ext w w')=>aa (ha w' ((HK.o.kids _ (ahh h1)).ext e)));have i0:(0:Int)<(t.kids.length:Int):=by omega
 have i1:(1:Int)<(t.kids.length:Int):=by omega
 have hs1:¬((⟨sf.toArray⟩:ByteArray).size+(⟨#[32]⟩:ByteArray).size>9223372036854775807):=by rw[aB sf];show ¬(sf.length+1>_);omega
 have e1:(ByteArray.mk sf.toArray++ByteArray.mk #[32])=ByteArray.mk (sf++([32]:aj):aj).toArray:=ByteArray.mk_append_mk sf ([32]:aj);have hs2:¬((⟨(sf++([32]:aj):aj).toArray⟩:ByteArray).size+(⟨sa.toArray⟩:ByteArray).size>9223372036854775807):=by
  rw[aB (sf++([32]:aj)),aB sa];simp only[ahn,ahy,List.length_nil];omega
 have e2:(ByteArray.mk (sf++([32]:aj):aj).toArray++ByteArray.mk sa.toArray)=ByteArray.mk (sf++([32]:aj)++sa:aj).toArray:=ByteArray.mk_append_mk (sf++([32]:aj)) sa;have hs3:¬((⟨#[40]⟩:ByteArray).size+(⟨(sf++([32]:aj)++sa:aj).toArray⟩:ByteArray).size>9223372036854775807):=by
  rw[aB (sf++([32]:aj)++sa)];show ¬(1+_>_);simp only[ahn,ahy,List.length_nil];omega
 have e3:(ByteArray.mk #[40]++ByteArray.mk (sf++([32]:aj)++sa:aj).toArray)=ByteArray.mk (([40]:aj)++(sf++([32]:aj)++sa):aj).toArray:=ByteArray.mk_append_mk ([40]:aj) (sf++([32]:aj)++sa);have Qa:¬((⟨(([40]:aj)++(sf++([32]:aj)++sa):aj).toArray⟩:ByteArray).size+(⟨#[41]⟩:ByteArray).size>9223372036854775807):=by
  rw[aB (([40]:aj)++(sf++([32]:aj)++sa))];show ¬(_+1>_);simp only[ahn,ahy,List.length_nil];omega
 have e4:(ByteArray.mk (([40]:aj)++(sf++([32]:aj)++sa):aj).toArray++ByteArray.mk #[41])=ByteArray.mk (([40]:aj)++(sf++([32]:aj)++sa)++([41]:aj):aj).toArray:=ByteArray.mk_append_mk (([40]:aj)++(sf++([32]:aj)++sa)) ([41]:aj);have P8:¬(9223372036854775807<sf.length+1):=by omega
 have MO:¬(9223372036854775807<(sf++([32]:aj)).length+sa.length):=by simp only[ahn,ahy,List.length_nil];omega
 have hq3:¬(9223372036854775807<1+(sf++([32]:aj)++sa).length):=by simp only[ahn,ahy,List.length_nil];omega
 have hq4:¬(9223372036854775807<(([40]:aj)++(sf++([32]:aj)++sa)).length+1):=by simp only[ahn,ahy,List.length_nil];omega
 generalize (([40]:aj)++(sf++([32]:aj)++sa)++([41]:aj):aj)=s4 at *;generalize (([40]:aj)++(sf++([32]:aj)++sa):aj)=s3 at *;generalize (sf++([32]:aj)++sa:aj)=s2 at *;generalize (sf++([32]:aj):aj)=s1 at *;generalize t.kids[0]'h0=ka at *;generalize t.kids[1]'h1=kb at *;have HS:ahg (∀w',Ext W w'→(w'.cell? ⟨w.heap.size,5,none⟩=some (.slice (some ⟨b,o,none⟩) t.kids.length t.cap) ∧
   w'.cell? ⟨b,o,none⟩=some (.int .i64 ka.kind)∧w'.cell? ⟨b,o+1,none⟩=some (.int .i64 ka.n)∧w'.cell? ⟨b,o+2,none⟩=some (.string ⟨ka.name.toArray⟩)∧w'.cell? ⟨b,o+3,none⟩=some (.slice ka.V ka.vars.length ka.vc)∧w'.cell? ⟨b,o+4,none⟩=some (.slice ka.T ka.types.length ka.tc)∧w'.cell? ⟨b,o+5,none⟩=some (.slice ka.A ka.kids.length ka.cap) ∧
   w'.cell? ⟨b,o+6,none⟩=some (.int .i64 kb.kind)∧w'.cell? ⟨b,o+6+1,none⟩=some (.int .i64 kb.n)∧w'.cell? ⟨b,o+6+2,none⟩=some (.string ⟨kb.name.toArray⟩)∧w'.cell? ⟨b,o+6+3,none⟩=some (.slice kb.V kb.vars.length kb.vc)∧w'.cell? ⟨b,o+6+4,none⟩=some (.slice kb.T kb.types.length kb.tc)∧w'.cell? ⟨b,o+6+5,none⟩=some (.slice kb.A kb.kids.length kb.cap))):=aa (by
  rw[hA] at c5;have z0:o+0*6=o:=by omega
  have z1:o+1*6=o+6:=by omega
  rw[z0] at q0 q1 q2 q3 q4 q5;rw[z1] at r0 r1 r2 r3 r4 r5;exact fun w' e=>⟨e.cell c5,e.cell q0,e.cell q1,e.cell q2,e.cell q3,e.cell q4,e.cell q5,e.cell r0,e.cell r1,e.cell r2,e.cell r3,e.cell r4,e.cell r5⟩)
 rw[hA] at c5;clear q0 q1 q2 q3 q4 q5 r0 r1 r2 r3 r4 r5 hb hA h hf ha HK fj;unfold bl at HF HA ⊢;go_enter Tryz.func43,Tryz.ntmps43;go_upto_region 1 with fail;rw[HW.o];obtain⟨p0,p1,p2,p3,p4,p5,p6,p7,p8,p9,p10,p11,p12⟩:=HS.o _ (eR W);clear c5 HW;go_upto_region 13 with fail
 go_region_held3 (fun w':World=>(w'.cell? ⟨w.heap.size,5,none⟩=some (.slice (some ⟨b,o,none⟩) t.kids.length t.cap)∧w'.cell? ⟨b,o,none⟩=some (.int .i64 ka.kind)∧w'.cell? ⟨b,o+1,none⟩=some (.int .i64 ka.n)∧w'.cell? ⟨b,o+2,none⟩=some (.string ⟨ka.name.toArray⟩)∧w'.cell? ⟨b,o+3,none⟩=some (.slice ka.V ka.vars.length ka.vc)∧w'.cell? ⟨b,o+4,none⟩=some (.slice ka.T ka.types.length ka.tc)∧w'.cell? ⟨b,o+5,none⟩=some (.slice ka.A ka.kids.length ka.cap)∧w'.cell? ⟨b,o+6,none⟩=some (.int .i64 kb.kind)∧w'.cell? ⟨b,o+6+1,none⟩=some (.int .i64 kb.n)∧w'.cell? ⟨b,o+6+2,none⟩=some (.string ⟨kb.name.toArray⟩)∧w'.cell? ⟨b,o+6+3,none⟩=some (.slice kb.V kb.vars.length kb.vc)∧w'.cell? ⟨b,o+6+4,none⟩=some (.slice kb.T kb.types.length kb.tc)∧w'.cell? ⟨b,o+6+5,none⟩=some (.slice kb.A kb.kids.length kb.cap))) (first|assumption|(exact HS.o _ (eR W).drew)) (first
  |(
   go_at_call 43
   with_reducible refine Calls.mono (HF.o _ ?e).o ?_
   case e=>first|(refine Ext.trans X0.o ?_;(repeat(first|exact eR _|exact eA (by assumption) _|refine eA ?_ _|refine eM ?_ _ _|refine eD ?_|refine eN ?_ _));done)|(refine Ext.trans (X0.o.trans X8.o) ?_;(repeat(first|exact eR _|exact eA (by assumption) _|refine eA ?_ _|refine eM ?_ _ _|refine eD ?_|refine eN ?_ _));done)
   rintro e w7 ⟨rfl,wI⟩;have X7:ahg (Ext W w7):=aa (by
    refine Ext.trans ?_ wI
    first|(refine Ext.trans (eR W) ?_;(repeat(first|exact eR _|exact eA (by assumption) _|refine eA ?_ _|refine eM ?_ _ _|refine eD ?_|refine eN ?_ _));done)|(refine Ext.trans X8.o ?_;(repeat(first|exact eR _|exact eA (by assumption) _|refine eA ?_ _|refine eM ?_ _ _|refine eD ?_|refine eN ?_ _));done))
   have K7:=HS.o _ X7.o;clear wI)
  |(
   go_at_call 43
   with_reducible refine Calls.mono (HA.o _ ?e).o ?_
   case e=>first|(refine Ext.trans X0.o ?_;(repeat(first|exact eR _|exact eA (by assumption) _|refine eA ?_ _|refine eM ?_ _ _|refine eD ?_|refine eN ?_ _));done)|(refine Ext.trans (X0.o.trans X7.o) ?_;(repeat(first|exact eR _|exact eA (by assumption) _|refine eA ?_ _|refine eM ?_ _ _|refine eD ?_|refine eN ?_ _));done)
   rintro e w8 ⟨rfl,qi⟩;have X8:ahg (Ext W w8):=aa (by
    refine Ext.trans ?_ qi
    first|(refine Ext.trans (eR W) ?_;(repeat(first|exact eR _|exact eA (by assumption) _|refine eA ?_ _|refine eM ?_ _ _|refine eD ?_|refine eN ?_ _));done)|(refine Ext.trans X7.o ?_;(repeat(first|exact eR _|exact eA (by assumption) _|refine eA ?_ _|refine eM ?_ _ _|refine eD ?_|refine eN ?_ _));done))
   have K8:=HS.o _ X8.o;clear qi))
 all_goals
  go_wp2;go_ret
  first
   |exact⟨rfl,X0.o.trans X7.o⟩
   |exact⟨rfl,X0.o.trans X8.o⟩
   |exact⟨rfl,X0.o.trans (X7.o.trans (by repeat(first|exact eR _|exact eA (by assumption) _|refine eA ?_ _|refine eM ?_ _ _|refine eD ?_|refine eN ?_ _)))⟩
   |exact⟨rfl,X0.o.trans (X8.o.trans (by repeat(first|exact eR _|exact eA (by assumption) _|refine eA ?_ _|refine eM ?_ _ _|refine eD ?_|refine eN ?_ _)))⟩
theorem LZ (g cap:Nat) (s sep:aj) (w:World) (h:w.heap[g]?=some (.cells #[encStr s] 9 (0,0))):Calls Tryz.prog 117 #[.slice (some ⟨g,0,none⟩) 1 cap,encStr sep] w fun e w'=>e=.returned (encStr s)∧w'=w:=by
 have k0:=af h 0;simp only[ahp,ahq] at k0;clear h;go_enter Tryz.func117,Tryz.ntmps117;go_wp2;go_ret;exact⟨rfl,rfl⟩
set_option maxRecDepth 512
set_option maxHeartbeats 200000
noncomputable def Jw (x:Ty):aj:=nQ ⟨[],none,0,x⟩
set_option maxRecDepth 10000
set_option maxHeartbeats 8000000
theorem TZ (x:Ty) (w:World) (h:aC w x) (ok:ng x=true) (hsz:x.size≤20000):Calls Tryz.prog 114 #[bh x] w fun e w'=>e=.returned (encStr (Jw x))∧Ext w w':=by
 have HB:=aa (aP.new w x);have X0:ahg (Ext w (w.alloc (.cells #[encStr x.aq,.int .i64 x.var,.slice x.A x.args.length x.cap] 53))):=aa ((eR w).alloc _);have HP:ahg (F5 w ⟨[],none,0,x⟩):=aa ⟨ahi _,by show 0≤9223372036854775807;omega,ak.nil _ _ _,h⟩;have HT:=aa (fun w' (e:Ext w w')=>aa (Ac ⟨[],none,0,x⟩ w' (HP.o.ext e) ok hsz rfl));have HR:ahg (nQ ⟨[],none,0,x⟩=Jw x):=aa rfl;rw[HR.o] at HT;have c0:=HB.o.c0;have c1:=HB.o.c1;have c2:=HB.o.c2;clear h ok HR;generalize Jw x=R at *;unfold Xw at HT;simp only[List.length_nil] at HT;unfold bh;go_enter Tryz.func114,Tryz.ntmps114;go_wp2_with fail;refine(HT.o _ X0.o).o.mono ?_;rintro e w2 ⟨rfl,hx⟩;go_wp2;go_ret;exact⟨rfl,X0.o.trans hx⟩
set_option maxRecDepth 512
set_option maxHeartbeats 200000
theorem Df (W:World):(Instr.makeSlice 65 (.int .i64 1) (.int .i64 1)).run Tryz.prog W=.ok (.slice (some ⟨W.heap.size,0,none⟩) 1 1) (W.alloc (.cells #[.string ⟨#[]⟩] 9)):=by
 obtain⟨i1,hj,mM,gS,iv⟩:=info_parts CN;have je:=run_make (P:=Tryz.prog) W 65 9 i1 _ Tryz.underlying65 hj mM .i64 .i64 1 1 (by omega) (Int.le_refl _) (by rw[iv];omega) (by omega);have e:madeCells (Value.string ⟨#[]⟩).cells (Int.toNat 1*1)=#[.string ⟨#[]⟩]:=by kernel_rfl
 rw[gS,e] at je;exact je
set_option maxRecDepth 10000
set_option maxHeartbeats 8000000
theorem Il (A:Option Addr) (cap:Nat) (x:Ty) (s sep:aj) (w:World) (h:bF w A [x]) (hx:∀w',Ext w w'→Calls Tryz.prog 114 #[bh x] w' fun e w''=>e=.returned (encStr s)∧Ext w' w'') :
  Calls Tryz.prog 113 #[.slice A 1 cap,encStr sep,.func (.func 114) #[] #[]] w fun e w'=>e=.returned (encStr s)∧Ext w w':=by
 have je:=Df w;obtain⟨W1,hW1⟩:∃W1,W1=w.alloc (.cells #[.string ⟨#[]⟩] 9):=⟨_,rfl⟩;have X1:ahg (Ext w W1):=aa (by rw[hW1];exact(eR _).alloc _);have B1:ahg (W1.heap[w.heap.size]?=some (.cells #[encStr []] 9 (0,0))):=aa (by rw[hW1];exact ah _ _ _ rfl);rw[←hW1] at je;have HK:=aa h;have HX:=aa hx;clear h hx hW1;go_enter Tryz.func113,Tryz.ntmps113;go_wp2
 go_loopw [15] (fun i wr=>∃k:Nat,k≤1∧i=.int .i64 k∧ahg (wr.heap[w.heap.size]?=some (.cells #[encStr (if k=0 then [] else s)] 9 (0,0)))∧ahg (Ext w wr)) (fun i _=>1 - (intOf i).toNat)
 case atStart=>exact⟨0,by omega,rfl,B1,X1⟩
 case round=>
  obtain⟨k,hk,rfl,HB,VI⟩:=hrel
  by_cases hlt:k<1
  ·have dy:k=0:=by omega
   subst dy;obtain⟨b,o,hA,hb,q0,q1,q2⟩:=(HK.o.ext VI.o).at_ (i:=0) (by simp);have z0:o+0*3=o:=by omega
   have T5:[x][0]'(by simp)=x:=rfl;rw[z0,T5] at q0 q1 q2;have hbl:=ae HB.o;clear T5 z0;unfold bh at HX;rw[hA];clear hA;go_wp2_with fail;refine(HX.o _ (VI.o.alloc _)).mono ?_;rintro e w3 ⟨rfl,hx3⟩;have X3:ahg (Ext wr w3):=aa (((eR wr).alloc _).trans hx3);have C3:=aa ((X3.o.heap hbl).trans HB.o);have f0:=ai C3.o 0;have k0:=af C3.o 0;simp only[ahp,ahq] at k0;have UM:ahg ((w3.setCell ⟨w.heap.size,0,none⟩ (encStr s)).heap[w.heap.size]?=some (.cells #[encStr (if 1=0 then [] else s)] 9 (0,0))):=aa (by have:=aw C3.o 0 (encStr s);simpa using this);have VJ:ahg (Ext w (w3.setCell ⟨w.heap.size,0,none⟩ (encStr s))):=aa ((VI.o.trans X3.o).setCell (by simp) _);clear hx3;go_wp2;go_roundw
   case rel=>exact⟨1,ahi _,by go_num,UM,VJ⟩
   case measure=>simp[intOf]
  ·have uX:k=1:=by omega
   subst uX;have HJ:=aa (LZ w.heap.size 1 s sep wr (by have:=HB.o;simpa using this));go_wp2_with fail;refine HJ.o.mono ?_;rintro e w3 ⟨rfl,rfl⟩;go_wp2;go_ret;exact⟨rfl,VI.o⟩
theorem L1 (A:Option Addr) (cap:Nat) (l:List Ty) (h1:0<l.length) (hl:l.length=1) (w:World) (h:bF w A l) (ok:ng (l[0]'h1)=true) (hsz:(l[0]'h1).size≤20000) :
  Calls Tryz.prog 67 #[.slice A l.length cap] w fun e w'=>e=.returned (encStr (Jw (l[0]'h1)))∧Ext w w':=by
 obtain⟨x,rfl⟩:∃x,l=[x]:=by
  match l,hl with
  | [x],_=>exact⟨x,rfl⟩
 have ok:ng x=true:=ok;have hsz:x.size≤20000:=hsz;have HJ:=aa (Il A cap x (Jw x) [44,32] w h (fun w' e=>TZ x w' ((h.args x (by simp)).ext e) ok hsz));show Calls Tryz.prog 67 #[.slice A 1 cap] w fun e w'=>e=.returned (encStr (Jw x))∧Ext w w'
 generalize Jw x=R at *;clear h;go_enter Tryz.func67,Tryz.ntmps67;go_wp2_with fail;refine HJ.o.mono ?_;rintro e w3 ⟨rfl,hx⟩;go_wp2;go_ret;exact⟨rfl,hx⟩
theorem Im (t:Tm) (hk:(t.kind == 6)=true) (h0:0<t.kids.length) (h1:0<t.types.length) (qU:t.types.length=1) (ok:ng (t.types[0]'h1)=true) (hsz:(t.types[0]'h1).size≤20000) (ty:aj) (nO:Jw (t.types[0]'h1)=ty) (sb:aj) (hb:fE (t.kids[0]'h0) sb) (hl:t.name.length+ty.length+sb.length≤1000000):fE t ((([40]:aj)++(((sb++([32,91]:aj))++ty)++([93]:aj)))++([41]:aj)):=by
 intro w h;obtain⟨W,hW⟩:∃W,W=w.alloc (.cells #[.int .i64 t.kind,.int .i64 t.n,encStr t.name,.slice t.V t.vars.length t.vc,.slice t.T t.types.length t.tc,.slice t.A t.kids.length t.cap] 40):=⟨_,rfl⟩;have HW:=aa hW.symm;have fj:ahg (av W w.heap.size t):=aa (by rw[hW];exact av.new w t);have X0:ahg (Ext w W):=aa (by rw[hW];exact(eR w).alloc _);clear hW;obtain⟨c0,c1,c2,c3,c4,c5⟩:=fj.o.cells;have n1:(t.kind == 1)=false:=by simp at hk ⊢;omega
 have n2:(t.kind == 2)=false:=by simp at hk ⊢;omega
 have n14:(t.kind == 14)=false:=by simp at hk ⊢;omega
 have n3:(t.kind == 3)=false:=by simp at hk ⊢;omega
 have n4:(t.kind == 4)=false:=by simp at hk ⊢;omega
 have n5:(t.kind == 5)=false:=by simp at hk ⊢;omega
 have HK:=aa h.all;obtain⟨b,o,hA,ve,q0,q1,q2,q3,q4,q5⟩:=(HK.o.ext X0.o).at_ h0;have HF:=aa (fun w' (e:Ext w w')=>aa (hb w' ((HK.o.kids _ (ahh h0)).ext e)));have i0:(0:Int)<(t.kids.length:Int):=by omega
 have HT:=aa (fun w' (e:Ext w w')=>aa (L1 t.T t.tc t.types h1 qU w' (h.hd.types.ext e) ok hsz));rw[nO] at HT;clear ok hsz qU;clear h1 nO;have hs0:¬((ByteArray.mk (sb:aj).toArray).size+(ByteArray.mk #[32,91]).size>9223372036854775807):=by
  rw[aB sb];show ¬((sb:aj).length+2>9223372036854775807)
  try simp only[ahn,ahy,List.length_nil]
  omega
 have e0:(ByteArray.mk (sb:aj).toArray)++(ByteArray.mk #[32,91])=ByteArray.mk ((sb++([32,91]:aj)):aj).toArray:=ByteArray.mk_append_mk sb ([32,91]:aj);have Jf:¬(9223372036854775807<(sb:aj).length+2):=by(try simp only[ahn,ahy,List.length_nil]);omega
 have hs1:¬((ByteArray.mk ((sb++([32,91]:aj)):aj).toArray).size+(ByteArray.mk (ty:aj).toArray).size>9223372036854775807):=by
  rw[aB (sb++([32,91]:aj)),aB ty];show ¬(((sb++([32,91]:aj)):aj).length+(ty:aj).length>9223372036854775807)
  try simp only[ahn,ahy,List.length_nil]
  omega
 have e1:(ByteArray.mk ((sb++([32,91]:aj)):aj).toArray)++(ByteArray.mk (ty:aj).toArray)=ByteArray.mk (((sb++([32,91]:aj))++ty):aj).toArray:=ByteArray.mk_append_mk (sb++([32,91]:aj)) ty;have P8:¬(9223372036854775807<((sb++([32,91]:aj)):aj).length+(ty:aj).length):=by(try simp only[ahn,ahy,List.length_nil]);omega
 have hs2:¬((ByteArray.mk (((sb++([32,91]:aj))++ty):aj).toArray).size+(ByteArray.mk #[93]).size>9223372036854775807):=by
  rw[aB ((sb++([32,91]:aj))++ty)];show ¬((((sb++([32,91]:aj))++ty):aj).length+1>9223372036854775807)
  try simp only[ahn,ahy,List.length_nil]
  omega
 have e2:(ByteArray.mk (((sb++([32,91]:aj))++ty):aj).toArray)++(ByteArray.mk #[93])=ByteArray.mk ((((sb++([32,91]:aj))++ty)++([93]:aj)):aj).toArray:=ByteArray.mk_append_mk ((sb++([32,91]:aj))++ty) ([93]:aj);have MO:¬(9223372036854775807<(((sb++([32,91]:aj))++ty):aj).length+1):=by(try simp only[ahn,ahy,List.length_nil]);omega
 have hs3:¬((ByteArray.mk #[40]).size+(ByteArray.mk ((((sb++([32,91]:aj))++ty)++([93]:aj)):aj).toArray).size>9223372036854775807):=by
  rw[aB (((sb++([32,91]:aj))++ty)++([93]:aj))];show ¬(1+((((sb++([32,91]:aj))++ty)++([93]:aj)):aj).length>9223372036854775807)
  try simp only[ahn,ahy,List.length_nil]
  omega
 have e3:(ByteArray.mk #[40])++(ByteArray.mk ((((sb++([32,91]:aj))++ty)++([93]:aj)):aj).toArray)=ByteArray.mk ((([40]:aj)++(((sb++([32,91]:aj))++ty)++([93]:aj))):aj).toArray:=ByteArray.mk_append_mk ([40]:aj) (((sb++([32,91]:aj))++ty)++([93]:aj));have hq3:¬(9223372036854775807<1+((((sb++([32,91]:aj))++ty)++([93]:aj)):aj).length):=by(try simp only[ahn,ahy,List.length_nil]);omega
 have Qa:¬((ByteArray.mk ((([40]:aj)++(((sb++([32,91]:aj))++ty)++([93]:aj))):aj).toArray).size+(ByteArray.mk #[41]).size>9223372036854775807):=by
  rw[aB (([40]:aj)++(((sb++([32,91]:aj))++ty)++([93]:aj)))];show ¬(((([40]:aj)++(((sb++([32,91]:aj))++ty)++([93]:aj))):aj).length+1>9223372036854775807)
  try simp only[ahn,ahy,List.length_nil]
  omega
 have e4:(ByteArray.mk ((([40]:aj)++(((sb++([32,91]:aj))++ty)++([93]:aj))):aj).toArray)++(ByteArray.mk #[41])=ByteArray.mk (((([40]:aj)++(((sb++([32,91]:aj))++ty)++([93]:aj)))++([41]:aj)):aj).toArray:=ByteArray.mk_append_mk (([40]:aj)++(((sb++([32,91]:aj))++ty)++([93]:aj))) ([41]:aj);have hq4:¬(9223372036854775807<((([40]:aj)++(((sb++([32,91]:aj))++ty)++([93]:aj))):aj).length+1):=by(try simp only[ahn,ahy,List.length_nil]);omega
 generalize (((([40]:aj)++(((sb++([32,91]:aj))++ty)++([93]:aj)))++([41]:aj)):aj)=s4 at *;generalize ((([40]:aj)++(((sb++([32,91]:aj))++ty)++([93]:aj))):aj)=s3 at *;generalize ((((sb++([32,91]:aj))++ty)++([93]:aj)):aj)=s2 at *;generalize (((sb++([32,91]:aj))++ty):aj)=s1 at *;generalize ((sb++([32,91]:aj)):aj)=s0 at *;generalize t.kids[0]'h0=ka at *;have HS:ahg (∀w',Ext W w'→(w'.cell? ⟨w.heap.size,4,none⟩=some (.slice t.T t.types.length t.tc)∧w'.cell? ⟨w.heap.size,5,none⟩=some (.slice (some ⟨b,o,none⟩) t.kids.length t.cap)∧w'.cell? ⟨b,o,none⟩=some (.int .i64 ka.kind)∧w'.cell? ⟨b,o+1,none⟩=some (.int .i64 ka.n)∧w'.cell? ⟨b,o+2,none⟩=some (.string ⟨ka.name.toArray⟩)∧w'.cell? ⟨b,o+3,none⟩=some (.slice ka.V ka.vars.length ka.vc)∧w'.cell? ⟨b,o+4,none⟩=some (.slice ka.T ka.types.length ka.tc)∧w'.cell? ⟨b,o+5,none⟩=some (.slice ka.A ka.kids.length ka.cap))):=aa (by
  rw[hA] at c5;have z0:o+0*6=o:=by omega
  rw[z0] at q0 q1 q2 q3 q4 q5;exact fun w' e=>⟨e.cell c4,e.cell c5,e.cell q0,e.cell q1,e.cell q2,e.cell q3,e.cell q4,e.cell q5⟩)
 clear q0 q1 q2 q3 q4 q5 ve hA h hb HK fj;unfold bl at HF ⊢;go_enter Tryz.func43,Tryz.ntmps43;go_upto_region 1 with fail;rw[HW.o];obtain⟨p0,p1,p2,p3,p4,p5,p6,p7⟩:=HS.o _ (eR W);clear c5 HW;go_upto_region 17 with fail
 go_region_held3 (fun w':World=>(w'.cell? ⟨w.heap.size,4,none⟩=some (.slice t.T t.types.length t.tc)∧w'.cell? ⟨w.heap.size,5,none⟩=some (.slice (some ⟨b,o,none⟩) t.kids.length t.cap)∧w'.cell? ⟨b,o,none⟩=some (.int .i64 ka.kind)∧w'.cell? ⟨b,o+1,none⟩=some (.int .i64 ka.n)∧w'.cell? ⟨b,o+2,none⟩=some (.string ⟨ka.name.toArray⟩)∧w'.cell? ⟨b,o+3,none⟩=some (.slice ka.V ka.vars.length ka.vc)∧w'.cell? ⟨b,o+4,none⟩=some (.slice ka.T ka.types.length ka.tc)∧w'.cell? ⟨b,o+5,none⟩=some (.slice ka.A ka.kids.length ka.cap))) (first|assumption|(exact HS.o _ (eR W).drew)) (first
  |(
   go_at_call 67
   refine Calls.mono (HT.o _ ?e).o ?_
   case e=>first|(refine Ext.trans X0.o ?_;(repeat(first|exact eR _|exact eA (by assumption) _|refine eA ?_ _|refine eM ?_ _ _|refine eD ?_|refine eN ?_ _));done)|(refine Ext.trans (X0.o.trans X8.o) ?_;(repeat(first|exact eR _|exact eA (by assumption) _|refine eA ?_ _|refine eM ?_ _ _|refine eD ?_|refine eN ?_ _));done)
   rintro e w7 ⟨rfl,wI⟩;have X7:ahg (Ext W w7):=aa (by
    refine Ext.trans ?_ wI
    first|(refine Ext.trans (eR W) ?_;(repeat(first|exact eR _|exact eA (by assumption) _|refine eA ?_ _|refine eM ?_ _ _|refine eD ?_|refine eN ?_ _));done)|(refine Ext.trans X8.o ?_;(repeat(first|exact eR _|exact eA (by assumption) _|refine eA ?_ _|refine eM ?_ _ _|refine eD ?_|refine eN ?_ _));done))
   have K7:=HS.o _ X7.o;clear wI)
  |(
   go_at_call 43
   refine Calls.mono (HF.o _ ?e).o ?_
   case e=>first|(refine Ext.trans X0.o ?_;(repeat(first|exact eR _|exact eA (by assumption) _|refine eA ?_ _|refine eM ?_ _ _|refine eD ?_|refine eN ?_ _));done)|(refine Ext.trans (X0.o.trans X7.o) ?_;(repeat(first|exact eR _|exact eA (by assumption) _|refine eA ?_ _|refine eM ?_ _ _|refine eD ?_|refine eN ?_ _));done)
   rintro e w8 ⟨rfl,qi⟩;have X8:ahg (Ext W w8):=aa (by
    refine Ext.trans ?_ qi
    first|(refine Ext.trans (eR W) ?_;(repeat(first|exact eR _|exact eA (by assumption) _|refine eA ?_ _|refine eM ?_ _ _|refine eD ?_|refine eN ?_ _));done)|(refine Ext.trans X7.o ?_;(repeat(first|exact eR _|exact eA (by assumption) _|refine eA ?_ _|refine eM ?_ _ _|refine eD ?_|refine eN ?_ _));done))
   have K8:=HS.o _ X8.o;clear qi))
 all_goals
  go_wp2;go_ret
  first
   |exact⟨rfl,X0.o.trans X7.o⟩
   |exact⟨rfl,X0.o.trans X8.o⟩
   |exact⟨rfl,X0.o.trans (X7.o.trans (by repeat(first|exact eR _|exact eA (by assumption) _|refine eA ?_ _|refine eM ?_ _ _|refine eD ?_|refine eN ?_ _)))⟩
   |exact⟨rfl,X0.o.trans (X8.o.trans (by repeat(first|exact eR _|exact eA (by assumption) _|refine eA ?_ _|refine eM ?_ _ _|refine eD ?_|refine eN ?_ _)))⟩
theorem Io (t:Tm) (hk:(t.kind == 13)=true) (h0:0<t.kids.length) (m:Nat) (hm:t.n=(m:Int)) (h1:m≤9223372036854775807) (ty:aj) (nO:bV m=ty) (sb:aj) (hb:fE (t.kids[0]'h0) sb) (hl:t.name.length+ty.length+sb.length≤1000000):fE t ((([40]:aj)++((((sb++([46]:aj))++t.name)++([46]:aj))++ty))++([41]:aj)):=by
 intro w h;obtain⟨W,hW⟩:∃W,W=w.alloc (.cells #[.int .i64 t.kind,.int .i64 t.n,encStr t.name,.slice t.V t.vars.length t.vc,.slice t.T t.types.length t.tc,.slice t.A t.kids.length t.cap] 40):=⟨_,rfl⟩;have HW:=aa hW.symm;have fj:ahg (av W w.heap.size t):=aa (by rw[hW];exact av.new w t);have X0:ahg (Ext w W):=aa (by rw[hW];exact(eR w).alloc _);clear hW;obtain⟨c0,c1,c2,c3,c4,c5⟩:=fj.o.cells;have n1:(t.kind == 1)=false:=by simp at hk ⊢;omega
 have n2:(t.kind == 2)=false:=by simp at hk ⊢;omega
 have n14:(t.kind == 14)=false:=by simp at hk ⊢;omega
 have n3:(t.kind == 3)=false:=by simp at hk ⊢;omega
 have n4:(t.kind == 4)=false:=by simp at hk ⊢;omega
 have n5:(t.kind == 5)=false:=by simp at hk ⊢;omega
 have n6:(t.kind == 6)=false:=by simp at hk ⊢;omega
 have n7:(t.kind == 7)=false:=by simp at hk ⊢;omega
 have n8:(t.kind == 8)=false:=by simp at hk ⊢;omega
 have n10:(t.kind == 10)=false:=by simp at hk ⊢;omega
 have n12:(t.kind == 12)=false:=by simp at hk ⊢;omega
 have HK:=aa h.all;obtain⟨b,o,hA,ve,q0,q1,q2,q3,q4,q5⟩:=(HK.o.ext X0.o).at_ h0;have HF:=aa (fun w' (e:Ext w w')=>aa (hb w' ((HK.o.kids _ (ahh h0)).ext e)));have i0:(0:Int)<(t.kids.length:Int):=by omega
 have HT:=aa (fun w' (_e:Ext w w')=>aa (pB m h1 w'));rw[nO,←hm] at HT;clear hm;clear h1 nO;have hs0:¬((ByteArray.mk (sb:aj).toArray).size+(ByteArray.mk #[46]).size>9223372036854775807):=by
  rw[aB sb];show ¬((sb:aj).length+1>9223372036854775807)
  try simp only[ahn,ahy,List.length_nil]
  omega
 have e0:(ByteArray.mk (sb:aj).toArray)++(ByteArray.mk #[46])=ByteArray.mk ((sb++([46]:aj)):aj).toArray:=ByteArray.mk_append_mk sb ([46]:aj);have Jf:¬(9223372036854775807<(sb:aj).length+1):=by(try simp only[ahn,ahy,List.length_nil]);omega
 have hs1:¬((ByteArray.mk ((sb++([46]:aj)):aj).toArray).size+(ByteArray.mk (t.name:aj).toArray).size>9223372036854775807):=by
  rw[aB (sb++([46]:aj)),aB t.name];show ¬(((sb++([46]:aj)):aj).length+(t.name:aj).length>9223372036854775807)
  try simp only[ahn,ahy,List.length_nil]
  omega
 have e1:(ByteArray.mk ((sb++([46]:aj)):aj).toArray)++(ByteArray.mk (t.name:aj).toArray)=ByteArray.mk (((sb++([46]:aj))++t.name):aj).toArray:=ByteArray.mk_append_mk (sb++([46]:aj)) t.name;have P8:¬(9223372036854775807<((sb++([46]:aj)):aj).length+(t.name:aj).length):=by(try simp only[ahn,ahy,List.length_nil]);omega
 have hs2:¬((ByteArray.mk (((sb++([46]:aj))++t.name):aj).toArray).size+(ByteArray.mk #[46]).size>9223372036854775807):=by
  rw[aB ((sb++([46]:aj))++t.name)];show ¬((((sb++([46]:aj))++t.name):aj).length+1>9223372036854775807)
  try simp only[ahn,ahy,List.length_nil]
  omega
 have e2:(ByteArray.mk (((sb++([46]:aj))++t.name):aj).toArray)++(ByteArray.mk #[46])=ByteArray.mk ((((sb++([46]:aj))++t.name)++([46]:aj)):aj).toArray:=ByteArray.mk_append_mk ((sb++([46]:aj))++t.name) ([46]:aj);have MO:¬(9223372036854775807<(((sb++([46]:aj))++t.name):aj).length+1):=by(try simp only[ahn,ahy,List.length_nil]);omega
 have hs3:¬((ByteArray.mk ((((sb++([46]:aj))++t.name)++([46]:aj)):aj).toArray).size+(ByteArray.mk (ty:aj).toArray).size>9223372036854775807):=by
  rw[aB (((sb++([46]:aj))++t.name)++([46]:aj)),aB ty];show ¬(((((sb++([46]:aj))++t.name)++([46]:aj)):aj).length+(ty:aj).length>9223372036854775807)
  try simp only[ahn,ahy,List.length_nil]
  omega
 have e3:(ByteArray.mk ((((sb++([46]:aj))++t.name)++([46]:aj)):aj).toArray)++(ByteArray.mk (ty:aj).toArray)=ByteArray.mk (((((sb++([46]:aj))++t.name)++([46]:aj))++ty):aj).toArray:=ByteArray.mk_append_mk (((sb++([46]:aj))++t.name)++([46]:aj)) ty;have hq3:¬(9223372036854775807<((((sb++([46]:aj))++t.name)++([46]:aj)):aj).length+(ty:aj).length):=by(try simp only[ahn,ahy,List.length_nil]);omega
 have Qa:¬((ByteArray.mk #[40]).size+(ByteArray.mk (((((sb++([46]:aj))++t.name)++([46]:aj))++ty):aj).toArray).size>9223372036854775807):=by
  rw[aB ((((sb++([46]:aj))++t.name)++([46]:aj))++ty)];show ¬(1+(((((sb++([46]:aj))++t.name)++([46]:aj))++ty):aj).length>9223372036854775807)
  try simp only[ahn,ahy,List.length_nil]
  omega
 have e4:(ByteArray.mk #[40])++(ByteArray.mk (((((sb++([46]:aj))++t.name)++([46]:aj))++ty):aj).toArray)=ByteArray.mk ((([40]:aj)++((((sb++([46]:aj))++t.name)++([46]:aj))++ty)):aj).toArray:=ByteArray.mk_append_mk ([40]:aj) ((((sb++([46]:aj))++t.name)++([46]:aj))++ty);have hq4:¬(9223372036854775807<1+(((((sb++([46]:aj))++t.name)++([46]:aj))++ty):aj).length):=by(try simp only[ahn,ahy,List.length_nil]);omega
 have hs5:¬((ByteArray.mk ((([40]:aj)++((((sb++([46]:aj))++t.name)++([46]:aj))++ty)):aj).toArray).size+(ByteArray.mk #[41]).size>9223372036854775807):=by
  rw[aB (([40]:aj)++((((sb++([46]:aj))++t.name)++([46]:aj))++ty))];show ¬(((([40]:aj)++((((sb++([46]:aj))++t.name)++([46]:aj))++ty)):aj).length+1>9223372036854775807)
  try simp only[ahn,ahy,List.length_nil]
  omega
 have e5:(ByteArray.mk ((([40]:aj)++((((sb++([46]:aj))++t.name)++([46]:aj))++ty)):aj).toArray)++(ByteArray.mk #[41])=ByteArray.mk (((([40]:aj)++((((sb++([46]:aj))++t.name)++([46]:aj))++ty))++([41]:aj)):aj).toArray:=ByteArray.mk_append_mk (([40]:aj)++((((sb++([46]:aj))++t.name)++([46]:aj))++ty)) ([41]:aj);have hq5:¬(9223372036854775807<((([40]:aj)++((((sb++([46]:aj))++t.name)++([46]:aj))++ty)):aj).length+1):=by(try simp only[ahn,ahy,List.length_nil]);omega
 generalize (((([40]:aj)++((((sb++([46]:aj))++t.name)++([46]:aj))++ty))++([41]:aj)):aj)=s5 at *;generalize ((([40]:aj)++((((sb++([46]:aj))++t.name)++([46]:aj))++ty)):aj)=s4 at *;generalize (((((sb++([46]:aj))++t.name)++([46]:aj))++ty):aj)=s3 at *;generalize ((((sb++([46]:aj))++t.name)++([46]:aj)):aj)=s2 at *;generalize (((sb++([46]:aj))++t.name):aj)=s1 at *;generalize ((sb++([46]:aj)):aj)=s0 at *;generalize t.kids[0]'h0=ka at *;have HS:ahg (∀w',Ext W w'→(w'.cell? ⟨w.heap.size,2,none⟩=some (.string ⟨t.name.toArray⟩)∧w'.cell? ⟨w.heap.size,1,none⟩=some (.int .i64 t.n)∧w'.cell? ⟨w.heap.size,5,none⟩=some (.slice (some ⟨b,o,none⟩) t.kids.length t.cap)∧w'.cell? ⟨b,o,none⟩=some (.int .i64 ka.kind)∧w'.cell? ⟨b,o+1,none⟩=some (.int .i64 ka.n)∧w'.cell? ⟨b,o+2,none⟩=some (.string ⟨ka.name.toArray⟩)∧w'.cell? ⟨b,o+3,none⟩=some (.slice ka.V ka.vars.length ka.vc)∧w'.cell? ⟨b,o+4,none⟩=some (.slice ka.T ka.types.length ka.tc)∧w'.cell? ⟨b,o+5,none⟩=some (.slice ka.A ka.kids.length ka.cap))):=aa (by
  rw[hA] at c5;have z0:o+0*6=o:=by omega
  rw[z0] at q0 q1 q2 q3 q4 q5;exact fun w' e=>⟨e.cell c2,e.cell c1,e.cell c5,e.cell q0,e.cell q1,e.cell q2,e.cell q3,e.cell q4,e.cell q5⟩)
 clear q0 q1 q2 q3 q4 q5 ve hA h hb HK fj;unfold bl at HF ⊢;go_enter Tryz.func43,Tryz.ntmps43;go_upto_region 1 with fail;rw[HW.o];obtain⟨p0,p1,p2,p3,p4,p5,p6,p7,p8⟩:=HS.o _ (eR W);clear c5 HW;go_upto_region 29 with fail
 go_region_held3 (fun w':World=>(w'.cell? ⟨w.heap.size,2,none⟩=some (.string ⟨t.name.toArray⟩)∧w'.cell? ⟨w.heap.size,1,none⟩=some (.int .i64 t.n)∧w'.cell? ⟨w.heap.size,5,none⟩=some (.slice (some ⟨b,o,none⟩) t.kids.length t.cap)∧w'.cell? ⟨b,o,none⟩=some (.int .i64 ka.kind)∧w'.cell? ⟨b,o+1,none⟩=some (.int .i64 ka.n)∧w'.cell? ⟨b,o+2,none⟩=some (.string ⟨ka.name.toArray⟩)∧w'.cell? ⟨b,o+3,none⟩=some (.slice ka.V ka.vars.length ka.vc)∧w'.cell? ⟨b,o+4,none⟩=some (.slice ka.T ka.types.length ka.tc)∧w'.cell? ⟨b,o+5,none⟩=some (.slice ka.A ka.kids.length ka.cap))) (first|assumption|(exact HS.o _ (eR W).drew)) (first
  |(
   go_at_call 41
   refine Calls.mono (HT.o _ ?e).o ?_
   case e=>first|(refine Ext.trans X0.o ?_;(repeat(first|exact eR _|exact eA (by assumption) _|refine eA ?_ _|refine eM ?_ _ _|refine eD ?_|refine eN ?_ _));done)|(refine Ext.trans (X0.o.trans X8.o) ?_;(repeat(first|exact eR _|exact eA (by assumption) _|refine eA ?_ _|refine eM ?_ _ _|refine eD ?_|refine eN ?_ _));done)
   rintro e w7 ⟨rfl,wI⟩;have X7:ahg (Ext W w7):=aa (by
    refine Ext.trans ?_ wI
    first|(refine Ext.trans (eR W) ?_;(repeat(first|exact eR _|exact eA (by assumption) _|refine eA ?_ _|refine eM ?_ _ _|refine eD ?_|refine eN ?_ _));done)|(refine Ext.trans X8.o ?_;(repeat(first|exact eR _|exact eA (by assumption) _|refine eA ?_ _|refine eM ?_ _ _|refine eD ?_|refine eN ?_ _));done))
   have K7:=HS.o _ X7.o;clear wI)
  |(
   go_at_call 43
   refine Calls.mono (HF.o _ ?e).o ?_
   case e=>first|(refine Ext.trans X0.o ?_;(repeat(first|exact eR _|exact eA (by assumption) _|refine eA ?_ _|refine eM ?_ _ _|refine eD ?_|refine eN ?_ _));done)|(refine Ext.trans (X0.o.trans X7.o) ?_;(repeat(first|exact eR _|exact eA (by assumption) _|refine eA ?_ _|refine eM ?_ _ _|refine eD ?_|refine eN ?_ _));done)
   rintro e w8 ⟨rfl,qi⟩;have X8:ahg (Ext W w8):=aa (by
    refine Ext.trans ?_ qi
    first|(refine Ext.trans (eR W) ?_;(repeat(first|exact eR _|exact eA (by assumption) _|refine eA ?_ _|refine eM ?_ _ _|refine eD ?_|refine eN ?_ _));done)|(refine Ext.trans X7.o ?_;(repeat(first|exact eR _|exact eA (by assumption) _|refine eA ?_ _|refine eM ?_ _ _|refine eD ?_|refine eN ?_ _));done))
   have K8:=HS.o _ X8.o;clear qi))
 all_goals
  go_wp2;go_ret
  first
   |exact⟨rfl,X0.o.trans X7.o⟩
   |exact⟨rfl,X0.o.trans X8.o⟩
   |exact⟨rfl,X0.o.trans (X7.o.trans (by repeat(first|exact eR _|exact eA (by assumption) _|refine eA ?_ _|refine eM ?_ _ _|refine eD ?_|refine eN ?_ _)))⟩
   |exact⟨rfl,X0.o.trans (X8.o.trans (by repeat(first|exact eR _|exact eA (by assumption) _|refine eA ?_ _|refine eM ?_ _ _|refine eD ?_|refine eN ?_ _)))⟩
set_option maxRecDepth 512
set_option maxHeartbeats 200000
theorem uQ {α β:Type}{f:α→β}{l:List α}{y:β}(h:l.map f=[y]):∃x,l=[x]∧f x=y:=by
 match l,h with
 | [x],h=>exact⟨x,rfl,by simpa using h⟩
theorem Ip {α β:Type}{f:α→β}{l:List α}{y z:β}(h:l.map f=[y,z]):∃a b,l=[a,b]∧f a=y∧f b=z:=by
 match l,h with
 | [a,b],h=>exact⟨a,b,rfl,by simpa using h⟩
theorem lY {α β:Type}{f:α→β}{l:List α}(h:l.map f=[]):l=[]:=by simpa using h
theorem Az {u:Tm}{k n:Int}{s:aj}{vs:List Int}{ts:List Ty.Pure}{l:List Tm.Pure}(h:u.pure=.mk k n s vs ts l) :
  ∃V vc T tc ty A cap ks,u=.mk k n s V vc vs T tc ty A cap ks∧ty.map Ty.pure=ts∧ks.map Tm.pure=l:=by
 obtain⟨k',n',s',V,vc,vs',T,tc,ty,A,cap,ks⟩:=u;rw[Tm.aG] at h;injection h with h1 h2 h3 h4 h5 h6;have h1:k'=k:=h1;have h2:n'=n:=h2;have h3:s'=s:=h3;have h4:vs'=vs:=h4;subst h1 h2 h3 h4;exact⟨V,vc,T,tc,ty,A,cap,ks,rfl,h5,h6⟩
theorem M9 {u:Ty}{s:aj}{v:Int}(h:u.pure=.mk s v []):∃A c,u=.mk s v A c []:=by
 obtain⟨s',v',A,c,l⟩:=u;rw[Ty.aG] at h;injection h with h1 h2 h3;have h1:s'=s:=h1;have h2:v'=v:=h2;have h3:l.map Ty.pure=[]:=h3;subst h1 h2;have:=lY h3;subst this;exact⟨A,c,rfl⟩
section
variable (B : Option Addr) (bc:Nat)
def Zl (v:Int):Ty:=.mk [] v B bc []
theorem Dg (v:Int):aQ (Zl B bc v)=true:=by
 have hc:bO []=[]:=by rfl
 unfold aQ;rw[Ty.size_eq,Ty.aN,iJ];simp[Zl,Ty.args,Ty.aq,bH]
theorem Iq : Jw (Zl B bc 0)=[97]:=by
 unfold Jw nQ;rw[if_pos (Dg B bc 0),if_pos rfl,lG (by rintro⟨h,-⟩;cases h)];show(if ([]:aj)=[] then gW 0 else [])++cI []=_;rw[if_pos rfl];rfl
end
theorem qL {t:Tm}{s:aj}(h:t.pure=.mk 1 0 s [] [] []):∃V vc T tc A cap,t=.mk 1 0 s V vc [] T tc [] A cap []:=by
 obtain⟨V,vc,T,tc,ty,A,cap,ks,rfl,h1,h2⟩:=Az h;cases lY h1;cases lY h2;exact⟨V,vc,T,tc,A,cap,rfl⟩
theorem Ir {t:Tm}{s:aj}(h:t.pure=.mk 1 0 s [] [] []):t.size=1∧t.depth=1∧t.types=[]:=by
 obtain⟨V,vc,T,tc,A,cap,rfl⟩:=qL h;refine⟨?_,?_,rfl⟩
 ·rw[Tm.size_eq];rfl
 ·rw[Tm.aN];rfl
theorem Pq {t:Tm}{s:aj}(h:t.pure=.mk 1 0 s [] [] []) (hs:(s == [])=false):t.tb.term=true:=by
 obtain⟨V,vc,T,tc,A,cap,rfl⟩:=qL h;rw[iP];have:bo (.mk 1 0 s V vc [] T tc [] A cap [])=true:=by
  unfold bo;show(lR 1 0 (!(s == [])) 0 0 0&&true)=true;rw[hs];rfl
 rw[this];rfl
theorem Iu {s:aj}{v:Int}{B:Option Addr}{bc:Nat}(h0 : -9223372036854775808≤v) (h1:v≤9223372036854775807) (hs:s.length≤140737488351232):ng (.mk s v B bc [])=true:=FV h0 h1 hs (by simp)
theorem Dh {s:aj}{v:Int}{B:Option Addr}{bc:Nat}:(Ty.mk s v B bc []).size=1:=by rw[Ty.size_eq];rfl
def jf (b0:Nat):List dK:=[⟨[69,113],none,0,[],none,0,[]⟩,⟨[79,114,100],some ⟨b0,0,none⟩,1,[[69,113]],none,0,[]⟩]
def jO (b2:Nat):List cX:=[⟨[69,113],[76],1,some ⟨b2,0,none⟩,1,[⟨[69,113],Ty.zero⟩]⟩]
def VK (b0 b1 b2 b3:Nat):dz:=⟨none,0,[],some ⟨b1,0,none⟩,2,jf b0,some ⟨b3,0,none⟩,1,jO b2⟩
def jg : List Pd:=[⟨[69,113],Ty.zero⟩,⟨[79,114,100],Ty.zero⟩]
def L3 (n:Int):Pf:=.mk 1 n none 0 [] none 0 []
def Jy (b6:Nat):Pf:=.mk 2 0 none 0 [] (some ⟨b6,0,none⟩) 1 [L3 1]
def pE (b5 b6 b7:Nat):Pf:=.mk 3 0 (some ⟨b5,0,none⟩) 1 [Ty.zero] (some ⟨b7,0,none⟩) 1 [Jy b6]
theorem cV : az Ty.zero=true:=nj 0 none 0
theorem qM : Ty.zero.pure=.mk [] 0 []:=by rw[Ty.aG];rfl
theorem Iw (A:Option Addr) (c:Nat):az (.mk [76] 0 A c [Ty.zero])=true:=by
 unfold az;rw[cL,Ty.size_eq,Ty.aN];have h1:Ty.zero.size=1:=by rw[Ty.size_eq];rfl
 have h2:Ty.zero.depth=1:=by rw[Ty.aN];rfl
 have h3:bE Ty.zero=true:=(aW cV).2.2;simp only[Ty.args,Ty.aq,Ty.var,List.map_cons,List.map_nil,h1,h2,List.all_cons,List.all_nil,h3];decide
theorem Iy (b0 b2:Nat):bm (jf b0) (jO b2) jg (L3 1)=some ⟨[79,114,100],Ty.zero⟩:=by
 rw[ew];have h:gC (jf b0) (jO b2) jg (L3 1) ((L3 1).kids.map (bm (jf b0) (jO b2) jg))=some ⟨[79,114,100],Ty.zero⟩:=rfl;rw[h,Option.filter_some,if_pos];show(cd [79,114,100]&&az Ty.zero)=true;rw[cV];rfl
theorem Ps (b0 b2 b6:Nat):bm (jf b0) (jO b2) jg (Jy b6)=some ⟨[69,113],Ty.zero⟩:=by
 rw[ew];have h:gC (jf b0) (jO b2) jg (Jy b6) [some ⟨[79,114,100],Ty.zero⟩]=some ⟨[69,113],Ty.zero⟩:=rfl;rw[show(Jy b6).kids.map (bm (jf b0) (jO b2) jg)=[some ⟨[79,114,100],Ty.zero⟩] from by show [bm _ _ _ (L3 1)]=_;rw[Iy]];rw[h,Option.filter_some,if_pos];show(cd [69,113]&&az Ty.zero)=true;rw[cV];rfl
theorem Iz (b2:Nat):bN ⟨[69,113],[76],1,some ⟨b2,0,none⟩,1,[⟨[69,113],Ty.zero⟩]⟩=true:=by
 have h:bN ⟨[69,113],[76],1,some ⟨0,0,none⟩,1,[⟨[69,113],Ty.zero⟩]⟩=true:=by decide +kernel
 exact h
theorem Pt (b0 b2 b5 b6 b7:Nat):bm (jf b0) (jO b2) jg (pE b5 b6 b7)=some ⟨[69,113],.mk [76] 0 (some ⟨b5,0,none⟩) 1 [Ty.zero]⟩:=by
 rw[ew];rw[show(pE b5 b6 b7).kids.map (bm (jf b0) (jO b2) jg)=[some ⟨[69,113],Ty.zero⟩] from by show [bm _ _ _ (Jy b6)]=_;rw[Ps]];have h:gC (jf b0) (jO b2) jg (pE b5 b6 b7) [some ⟨[69,113],Ty.zero⟩]=some ⟨[69,113],.mk [76] 0 (some ⟨b5,0,none⟩) 1 [Ty.zero]⟩:=by
  show bZ (jO b2) (pE b5 b6 b7) [some ⟨[69,113],Ty.zero⟩]=_;unfold bZ;rw[show om (jO b2) (pE b5 b6 b7).n=some ⟨[69,113],[76],1,some ⟨b2,0,none⟩,1,[⟨[69,113],Ty.zero⟩]⟩ from rfl,Option.bind_some,if_pos]
  ·rfl
  ·rw[ahv]
   constructor
   ·unfold cJ;rw[Iz];show(true&&decide ((1:Int)=1)&&decide (1=1)&&[Ty.zero].all az)=true;simp[cV]
   ·unfold fx;show([(⟨[69,113],Ty.zero⟩,some ⟨[69,113],Ty.zero⟩)]:List (Pd×Option Pd)).all _=true;simp only[List.all_cons,List.all_nil,Bool.and_true];show(([69,113]:aj) == [69,113]&&bL Ty.zero Ty.zero)=true;rw[ji];rfl
 rw[h,Option.filter_some,if_pos];show(cd [69,113]&&az _)=true;rw[Iw];rfl
def tE : Tm.Pure:=.mk 4 0 [] [] [] [.mk 6 0 [] [] [.mk [] 0 []] [.mk 1 0 [64,69,113,64,76] [] [] []],.mk 13 0 [79,114,100] [] [] [.mk 1 0 [35,54] [] [] []]]
theorem dg6 : bV 6=[54]:=by kernel_rfl
theorem zw (f:Int) (h0:0≤f) (h1:f≤1000):bW 2 f=[gX f,gX (f+1)]:=by
 unfold bW;rw[if_neg (by omega)];show [gX (f+((0:Nat):Int)),gX (f+((1:Nat):Int))]=_;simp
theorem tJ (n:Nat):(gX (n:Int)).pure=.mk 1 0 (([35]:aj)++bV n) [] [] []:=by rw[Tm.aG];rfl
theorem T6 (b0 b2 b5 b6 b7:Nat):kE (jf b0) (jO b2) jg ((bW 2 5).map Tm.pure) (pE b5 b6 b7)=tE:=by
 have h1:kE (jf b0) (jO b2) jg ((bW 2 5).map Tm.pure) (L3 1)=.mk 1 0 [35,54] [] [] []:=by
  rw[zw 5 (by decide) (by decide),mO (given:=[gX 5,gX (5+1)]) rfl (n:=1) rfl (by decide)];show(gX ((6:Nat):Int)).pure=_;rw[tJ,dg6];rfl
 have h2:kE (jf b0) (jO b2) jg ((bW 2 5).map Tm.pure) (Jy b6)=.mk 13 0 [79,114,100] [] [] [.mk 1 0 [35,54] [] [] []]:=by
  rw[pV rfl rfl (Iy b0 b2),h1];rfl
 rw[oL (x:=⟨[69,113],[76],1,some ⟨b2,0,none⟩,1,[⟨[69,113],Ty.zero⟩]⟩) rfl rfl];show([kE (jf b0) (jO b2) jg ((bW 2 5).map Tm.pure) (Jy b6)]).foldl nk (if [Ty.zero.pure]=[] then _ else .mk 6 0 [] [] [Ty.zero.pure] [.mk 1 0 (gH [69,113] [76]) [] [] []])=_;rw[h2,if_neg (by simp),qM];rfl
theorem T8 {t:Tm}(h:t.pure=tE):∃V vc T tc A cap V1 Pu T1 Pv B bc A1 zx x V2 Pw T2 Px A2 zy y,t=.mk 4 0 [] V vc [] T tc [] A cap [.mk 6 0 [] V1 Pu [] T1 Pv [.mk [] 0 B bc []] A1 zx [x],.mk 13 0 [79,114,100] V2 Pw [] T2 Px [] A2 zy [y]] ∧
  x.pure=.mk 1 0 [64,69,113,64,76] [] [] []∧y.pure=.mk 1 0 [35,54] [] [] []:=by
 obtain⟨V,vc,T,tc,ty,A,cap,ks,rfl,h1,h2⟩:=Az h;cases lY h1;obtain⟨a,b,rfl,ha,hb⟩:=Ip h2;obtain⟨V1,Pu,T1,Pv,ty1,A1,zx,ks1,rfl,k1,k2⟩:=Az ha;obtain⟨V2,Pw,T2,Px,ty2,A2,zy,ks2,rfl,l1,l2⟩:=Az hb;obtain⟨z,rfl,hz⟩:=uQ k1;obtain⟨B,bc,rfl⟩:=M9 hz;obtain⟨x,rfl,hx⟩:=uQ k2;cases lY l1;obtain⟨y,rfl,hy⟩:=uQ l2;exact⟨_,_,_,_,_,_,_,_,_,_,_,_,_,_,x,_,_,_,_,_,_,y,rfl,hx,hy⟩
theorem qN {t:Tm}(h:t.pure=tE):cY t∧t.size≤100000∧cj t=true∧fE t [40,40,64,69,113,64,76,32,91,97,93,41,32,40,35,54,46,79,114,100,46,48,41,41]:=by
 obtain⟨V,vc,T,tc,A,cap,V1,Pu,T1,Pv,B,bc,A1,zx,x,V2,Pw,T2,Px,A2,zy,y,rfl,hx,hy⟩:=T8 h;obtain⟨Vx,Ua,Tx,Ub,Ax,IA,rfl⟩:=qL hx;obtain⟨Vy,Uc,Tq,Ud,Ay,IC,rfl⟩:=qL hy;have fv:∀s V vc T tc A cap,cY (.mk 1 0 s V vc [] T tc [] A cap []):=fun s V vc T tc A cap=>.mk (by show 0≤10000;omega) (fun y hy=>by cases hy) (by show 0≤1000000;omega) (by show 0≤10000;omega) (fun y hy=>by cases hy)
 have hz:(Ty.mk [] 0 B bc []).size=1:=Dh;have f1:cY (.mk 6 0 [] V1 Pu [] T1 Pv [.mk [] 0 B bc []] A1 zx [.mk 1 0 [64,69,113,64,76] Vx Ua [] Tx Ub [] Ax IA []]):=.mk (by show 1≤10000;omega) (iq (by rw[hz];omega)) (by show 1≤1000000;omega) (by show 0≤10000;omega) (iq (fv _ _ _ _ _ _ _));have f2:cY (.mk 13 0 [79,114,100] V2 Pw [] T2 Px [] A2 zy [.mk 1 0 [35,54] Vy Uc [] Tq Ud [] Ay IC []]):=.mk (by show 0≤10000;omega) (fun y hy=>by cases hy) (by show 1≤1000000;omega) (by show 0≤10000;omega) (iq (fv _ _ _ _ _ _ _));refine⟨?_,?_,?_,?_⟩
 ·refine .mk (by show 0≤10000;omega) (fun y hy=>by cases hy) (by show 2≤1000000;omega) (by show 0≤10000;omega) (fun k hk => ?_)
  rcases List.mem_cons.1 hk with rfl|hk
  ·exact f1
  ·rw[ahx] at hk;subst hk;exact f2
 ·have h5:(Tm.mk 4 0 [] V vc [] T tc [] A cap [.mk 6 0 [] V1 Pu [] T1 Pv [.mk [] 0 B bc []] A1 zx [.mk 1 0 [64,69,113,64,76] Vx Ua [] Tx Ub [] Ax IA []],.mk 13 0 [79,114,100] V2 Pw [] T2 Px [] A2 zy [.mk 1 0 [35,54] Vy Uc [] Tq Ud [] Ay IC []]]).size=5:=by kernel_rfl
  rw[h5];omega
 ·kernel_rfl
 ·have k1:=Aw (.mk 1 0 [64,69,113,64,76] Vx Ua [] Tx Ub [] Ax IA []) rfl;have k2:=Aw (.mk 1 0 [35,54] Vy Uc [] Tq Ud [] Ay IC []) rfl;have k3:=Im (.mk 6 0 [] V1 Pu [] T1 Pv [.mk [] 0 B bc []] A1 zx [.mk 1 0 [64,69,113,64,76] Vx Ua [] Tx Ub [] Ax IA []]) rfl (by show 0<1;decide) (by show 0<1;decide) rfl (Iu (by decide) (by decide) (by decide)) (by show(Ty.mk [] 0 B bc []).size≤20000;rw[hz];decide) [97] (Iq B bc) _ k1 (by show 0+1+5≤1000000;decide);have k4:=Io (.mk 13 0 [79,114,100] V2 Pw [] T2 Px [] A2 zy [.mk 1 0 [35,54] Vy Uc [] Tq Ud [] Ay IC []]) rfl (by show 0<1;decide) 0 rfl (by decide) [48] (by kernel_rfl) _ k2 (by show 3+1+2≤1000000;decide);exact LY (.mk 4 0 [] V vc [] T tc [] A cap [.mk 6 0 [] V1 Pu [] T1 Pv [.mk [] 0 B bc []] A1 zx [.mk 1 0 [64,69,113,64,76] Vx Ua [] Tx Ub [] Ax IA []],.mk 13 0 [79,114,100] V2 Pw [] T2 Px [] A2 zy [.mk 1 0 [35,54] Vy Uc [] Tq Ud [] Ay IC []]]) rfl (by show 0<2;decide) (by show 1<2;decide) _ _ k3 k4 (by show 11+10≤1000000;decide)
theorem tK (b0 b2:Nat):ix (jf b0) (jO b2)=true:=by
 unfold ix;rw[ahv];refine⟨by kernel_rfl,?_⟩;show(bN _&&true)=true;rw[Iz];rfl
theorem ID : jg.all eQ=true:=by
 show(eQ ⟨[69,113],Ty.zero⟩&&(eQ ⟨[79,114,100],Ty.zero⟩&&true))=true;unfold eQ;rw[cV];rfl
theorem Py (b0 b2:Nat):tC (jf b0) (jO b2) jg ⟨[69,113],Ty.zero⟩=.ok (.mk 1 0 [] []):=by
 have h1:eQ ⟨[69,113],Ty.zero⟩=true:=by unfold eQ;rw[cV];rfl
 have h2:qI (jf b0) jg [69,113] Ty.zero.pure=some (0,[]):=by
  unfold qI jg dC;rw[nH,if_pos (ji _)];have:cR ((jf b0).map fP) [69,113] [69,113]=some []:=by kernel_rfl
  simp only[this]
 unfold tC;rw[h1,ID,tK,if_neg (by decide)];rw[show(5000:Nat)=4999+1 from rfl];unfold gh;simp only[h2];rfl
theorem Ue (b0 b2:Nat):tC (jf b0) (jO b2) jg ⟨[88],Ty.zero⟩=.error 16:=by
 have h1:eQ ⟨[88],Ty.zero⟩=true:=by unfold eQ;rw[cV];rfl
 have h2:qI (jf b0) jg [88] Ty.zero.pure=none:=by
  unfold qI jg dC dC dC;rw[nH,if_pos (ji _),nH,if_pos (ji _)];have h3:cR ((jf b0).map fP) [69,113] [88]=none:=by kernel_rfl
  have h4:cR ((jf b0).map fP) [79,114,100] [88]=none:=by kernel_rfl
  simp only[h3,h4]
 have h5:Ju (jO b2) [88] Ty.zero.pure=none:=by
  rw[xl]
  kernel_rfl
 unfold tC;rw[h1,ID,tK,if_neg (by decide)];rw[show(5000:Nat)=4999+1 from rfl];unfold gh;simp only[h2,h5]
set_option maxRecDepth 10000
set_option maxHeartbeats 8000000
theorem AA (P:Option Addr) (pc:Nat) (preds:List Pd) (w:World) (h:bA w P preds) (hl:preds.length≤1000000) (oh:∀p∈preds,p.cls.length≤1000000000000000000) :
  Calls Tryz.prog 12 #[.slice P preds.length pc] w fun e w'=>(∃A c ds,e=.returned (.slice A (List.length ds) c)∧ds.length≤c∧c≤9223372036854775807∧bF w' A ds∧ds.map Ty.pure=preds.map fun p=>nR p.cls p.ty.pure)∧Ext w w':=by
 obtain⟨i1,hj,mM,gS,iv⟩:=info_parts ke;have H:=aa h;have xX:=aa oh;clear h oh;go_enter Tryz.func12,Tryz.ntmps12;go_wp2
 go_loopw [3,8] (fun u i wr=>∃(k:Nat) (ds:List Ty),k≤preds.length∧i=.int .i64 k∧ahg (Ext w wr)∧ahg (wr.ownsRow w.heap.size 53 3 u ds.length (ds.flatMap cA.f))∧ahg (nC w w wr u.ownBlock (preds.take k) ds)) (fun _ i _=>preds.length - (intOf i).toNat)
 case atStart=>exact⟨0,[],ahj _,rfl,aa (eR _),aa (World.ownsRow_nil _ _ _ _),aa (nC.nil _ _ _ _)⟩
 case round=>
  obtain⟨k,ds,hk,rfl,HX,HO,HD⟩:=hrel;have J3:ds.length≤preds.length:=by have:=HD.o.len;rw[List.length_take] at this;omega
  by_cases hlt:k<preds.length
  ·have aS:(k:Int)<(preds.length:Int):=by omega
   have dy:(0:Int)≤(k:Int):=by omega
   obtain⟨b,o,hA,hb,q0,q1,q2,q3⟩:=(H.o.ext HX.o).at_ hlt;have hm:=ahh hlt;have HC:=aa (fun w' (e:Ext w w')=>aa (NK (preds[k]'hlt).cls (preds[k]'hlt).ty w' ((H.o.all _ hm).ty.ext e) (xX.o _ hm)));have Zm:=aa (H.o.all _ hm).ty;have cS:ahg (preds.take (k+1)=preds.take k++[preds[k]'hlt]):=aa (ahl hlt);generalize preds[k]'hlt=x at *;obtain⟨A6,c6,rfl,-,-,-,-⟩:=ak.own cA (l:=ds) HO.o;unfold bh at HC;have LP:=HX.o.size;subst hA;clear hm;go_wp2_with fail;refine(HC.o _ (HX.o.trans ((eR _).alloc _))).o.mono ?_;rintro e w5 ⟨⟨g,rfl,hd,ur⟩,jB⟩;have X5:=aa (((eR wr).alloc (.cells #[encStr x.cls,encStr x.ty.aq,.int .i64 x.ty.var,.slice x.ty.A x.ty.args.length x.ty.cap] 55)).trans jB);have O5:=aa (bk HO.o X5.o);have Pz:wr.heap.size≤g:=by(first|(simp at ur;omega)|exact ur)
   have Hd:=aa hd;have hs5:=(HX.o.trans X5.o).size;obtain⟨D,hD⟩:∃D,D=jE x.cls x.ty g:=⟨_,rfl⟩;rw[←hD];have Zn:=aa hD;clear jB hd ur hD;go_wp2_with (at_builtin;refine aH _ rfl _ _ 31 rfl w.heap.size 53 i1 _ 3 48 Tryz.underlying31 hj mM gS iv rfl (by decide) (.slice A6 ds.length c6) ds.length (ds.flatMap cA.f) rfl (O5.o.alloc _) _ 1 1 [encStr D.aq,.int .i64 D.var,.slice D.A D.args.length D.cap] rfl ?c2 ?c3 ?c4 ?c5 ?c6 ?_)
   case c2=>exact Row.RQ _ _ _ (ah _ _ _ (by simp))
   case c3=>first|exact⟨rfl,rfl,rfl⟩|(intro y hy;simp at hy;rcases hy with rfl|rfl|rfl<;>rfl)
   case c4=>unfold maxLen;omega
   case c5=>omega
   case c6=>simp;omega
   intro v4 w4 bB hg4 fc;have X4:=aa (Ext.app ((HX.o.trans X5.o).alloc _) hg4 (O5.o.alloc _) (ahi _));have O4:ahg (w4.ownsRow w.heap.size 53 3 v4 (ds++[D]).length ((ds++[D]).flatMap cA.f)):=aa (by rw[iO,ahn];exact bB);have D4:ahg (nC w w w4 v4.ownBlock (preds.take (k+1)) (ds++[D])):=aa (by
    rw[cS.o,Zn.o];refine HD.o.snoc (w':=w5.alloc (.cells #[encStr D.aq,.int .i64 D.var,.slice D.A D.args.length D.cap] 53)) (X5.o.alloc _) (Hd.o.ext ((eR _).alloc _)) Pz Zm.o (ahi _) LP (fun c e=>HO.o.lt c e) hg4 ?_
    rcases fc with e|e
    ·exact .inl e
    ·exact .inr (fun c hc=>by rw[e] at hc;injection hc with hc;simp at hc ⊢;omega))
   clear bB hg4 fc;go_wp2;go_roundw
   case rel=>exact⟨k+1,ds++[D],hlt,by go_num,X4,O4,D4⟩
   case measure=>simp[intOf];omega
  ·have bU:¬(k:Int)<(preds.length:Int):=by omega
   have qT:ahg (nC w w wr u3.ownBlock preds ds):=aa (by have:=HD.o;rwa [ahm (by omega)] at this);obtain⟨A6,c6,rfl,d1,d2,d3,-⟩:=ak.own cA (l:=ds) HO.o;have HT:ahg (bF wr A6 ds):=aa ⟨d3,qT.o.ty⟩;clear HD HO d3;go_wp2;go_ret;exact⟨⟨_,_,ds,rfl,d1,d2,HT.o,qT.o.is⟩,HX.o⟩
theorem Di (P:Option Addr) (pc:Nat) (preds:List Pd) (w:World) (h:bA w P preds) (hl:preds.length≤1000000) (oh:∀p∈preds,p.cls.length≤1000000000000000000) :
  Calls Tryz.prog 13 #[.slice P preds.length pc] w fun e w'=>(∃A c ds,e=.returned (.slice A (List.length ds) c)∧ds.length≤c∧c≤9223372036854775807∧bF w' A ds∧ds.map Ty.pure=preds.map fun p=>nR p.cls p.ty.pure)∧Ext w w':=by
 obtain⟨i1,hj,mM,gS,iv⟩:=info_parts ke;have H:=aa h;have xX:=aa oh;clear h oh;go_enter Tryz.func13,Tryz.ntmps13;go_wp2
 go_loopw [3,4] (fun u i wr=>∃(k:Nat) (ds:List Ty),k≤preds.length∧i=.int .i64 k∧ahg (Ext w wr)∧ahg (wr.ownsRow w.heap.size 53 3 u ds.length (ds.flatMap cA.f))∧ahg (nC w w wr u.ownBlock (preds.take k) ds)) (fun _ i _=>preds.length - (intOf i).toNat)
 case atStart=>exact⟨0,[],ahj _,rfl,aa (eR _),aa (World.ownsRow_nil _ _ _ _),aa (nC.nil _ _ _ _)⟩
 case round=>
  obtain⟨k,ds,hk,rfl,HX,HO,HD⟩:=hrel;have J3:ds.length≤preds.length:=by have:=HD.o.len;rw[List.length_take] at this;omega
  by_cases hlt:k<preds.length
  ·have aS:(k:Int)<(preds.length:Int):=by omega
   have dy:(0:Int)≤(k:Int):=by omega
   obtain⟨b,o,hA,hb0,p0,p1,p2,p3⟩:=H.o.at_ hlt;obtain⟨q0,q1,q2,q3⟩:=ahk (HX.o.cell p0) (ahk (HX.o.cell p1) (ahk (HX.o.cell p2) (HX.o.cell p3)));have hb:b<wr.heap.size:=by have:=HX.o.size;omega
   have hm:=ahh hlt;have HC:=aa (fun w' (e:Ext w w')=>aa (EO (preds[k]'hlt).cls (preds[k]'hlt).ty w' ((H.o.all _ hm).ty.ext e) (xX.o _ hm)));have Zm:=aa (H.o.all _ hm).ty;have cS:ahg (preds.take (k+1)=preds.take k++[preds[k]'hlt]):=aa (ahl hlt);generalize preds[k]'hlt=x at *;obtain⟨A6,c6,rfl,-,-,-,-⟩:=ak.own cA (l:=ds) HO.o;unfold bh at HC;have LP:=HX.o.size;subst hA;clear hm;have HSr:=aa (fun w' (e:Ext w w')=>ahk (e.cell p0) (ahk (e.cell p1) (ahk (e.cell p2) (e.cell p3))));clear p0 p1 p2 p3 hb0;go_upto_region 5 with fail
   go_region_held3 (fun w'=>w'.cell? ⟨b,o+k*4,none⟩=some (encStr x.cls)∧w'.cell? ⟨b,o+k*4+1,none⟩=some (encStr x.ty.aq)∧w'.cell? ⟨b,o+k*4+2,none⟩=some (.int .i64 x.ty.var)∧w'.cell? ⟨b,o+k*4+3,none⟩=some (.slice x.ty.A x.ty.args.length x.ty.cap)) (first|with_reducible assumption|go_keep) (first
    |(
     go_at_call 33
     refine Calls.mono (HC.o _ (HX.o.trans (by repeat(first|exact eR _|exact eA (by assumption) _|refine eA ?_ _|refine eM ?_ _ _|refine eD ?_|refine eN ?_ _)))).o ?_;rintro e w5 ⟨⟨g,rfl,hd,ur⟩,jB⟩;have X5:ahg (Ext wr w5):=aa (by refine Ext.trans ?_ jB;exact(by repeat(first|exact eR _|exact eA (by assumption) _|refine eA ?_ _|refine eM ?_ _ _|refine eD ?_|refine eN ?_ _)));have kS:=HSr.o _ (HX.o.trans X5.o);have O5:=aa (bk HO.o X5.o);have Pz:wr.heap.size≤g:=aho (Ext.size (w:=wr) (by repeat(first|exact eR _|exact eA (by assumption) _|refine eA ?_ _|refine eM ?_ _ _|refine eD ?_|refine eN ?_ _))) ur;have Hd:=aa hd;have hs5:=(HX.o.trans X5.o).size;obtain⟨D,hD⟩:∃D,D=jE x.cls x.ty g:=⟨_,rfl⟩;rw[←hD];have Zn:=aa hD;clear jB hd ur hD)
    |(
     refine aI _ rfl (.tmp 11) (.tmp 23) 31 rfl w.heap.size 53 i1 _ 3 48 Tryz.underlying31 hj mM gS iv rfl (by decide) (.slice A6 ds.length c6) ds.length (ds.flatMap cA.f) rfl (O5.o.alloc _) (some ⟨_,0,none⟩) 1 1 [encStr D.aq,.int .i64 D.var,.slice D.A D.args.length D.cap] rfl (Row.RQ _ _ _ (ah _ _ _ (by simp))) (by intro y hy;simp at hy;rcases hy with rfl|rfl|rfl<;>rfl) (by unfold maxLen;omega) (by omega) (by rw[World.size_alloc];omega) ?_
     intro v4 w4 bB hg4 fc;have X4:=aa (Ext.app ((HX.o.trans X5.o).alloc _) hg4 (O5.o.alloc _) (ahi _));have kS4:=HSr.o _ X4.o;have O4:ahg (w4.ownsRow w.heap.size 53 3 v4 (ds++[D]).length ((ds++[D]).flatMap cA.f)):=aa (by rw[iO,ahn];exact bB);have D4:ahg (nC w w w4 v4.ownBlock (preds.take (k+1)) (ds++[D])):=aa (by
      rw[cS.o,Zn.o];refine HD.o.snoc (w':=w5.alloc (.cells #[encStr D.aq,.int .i64 D.var,.slice D.A D.args.length D.cap] 53)) (X5.o.alloc _) (Hd.o.ext ((eR _).alloc _)) Pz Zm.o (ahi _) LP (fun c e=>HO.o.lt c e) hg4 ?_
      rcases fc with e|e
      ·exact .inl e
      ·exact .inr (fun c hc=>by rw[e] at hc;injection hc with hc;simp at hc ⊢;omega))
     clear bB hg4 fc))
   all_goals
    go_wp2;go_roundw
    case rel=>exact⟨k+1,ds++[D],hlt,by go_num,X4,O4,D4⟩
    case measure=>simp[intOf];omega
  ·have bU:¬(k:Int)<(preds.length:Int):=by omega
   have qT:ahg (nC w w wr u3.ownBlock preds ds):=aa (by have:=HD.o;rwa [ahm (by omega)] at this);obtain⟨A6,c6,rfl,d1,d2,d3,-⟩:=ak.own cA (l:=ds) HO.o;have HT:ahg (bF wr A6 ds):=aa ⟨d3,qT.o.ty⟩;clear HD HO d3;go_wp2;go_ret;exact⟨⟨_,_,ds,rfl,d1,d2,HT.o,qT.o.is⟩,HX.o⟩
set_option maxRecDepth 512
set_option maxHeartbeats 200000
def iZ (us:List Tm) (n:Nat):Array Value:=((us++List.replicate n Tm.zero).flatMap eT.f).toArray
def AB (w:World) (b o:Nat) (t:Tm):World:=
 (((((w.setCell ⟨b,o,none⟩ (.int .i64 t.kind)).setCell ⟨b,o+1,none⟩ (.int .i64 t.n)).setCell ⟨b,o+2,none⟩ (.string ⟨t.name.toArray⟩)).setCell ⟨b,o+3,none⟩ (.slice t.V t.vars.length t.vc)).setCell ⟨b,o+4,none⟩ (.slice t.T t.types.length t.tc)).setCell ⟨b,o+5,none⟩ (.slice t.A t.kids.length t.cap)
theorem Zo (us:List Tm) (n:Nat) (u:Tm):((((((iZ us (n+1)).setIfInBounds (us.length*6) (.int .i64 u.kind)).setIfInBounds (us.length*6+1) (.int .i64 u.n)).setIfInBounds (us.length*6+2) (.string ⟨u.name.toArray⟩)).setIfInBounds (us.length*6+3) (.slice u.V u.vars.length u.vc)).setIfInBounds (us.length*6+4) (.slice u.T u.types.length u.tc)).setIfInBounds (us.length*6+5) (.slice u.A u.kids.length u.cap)=iZ (us++[u]) n:=by
 unfold iZ;have h1:(us++List.replicate (n+1) Tm.zero).flatMap eT.f=us.flatMap eT.f++(eT.f Tm.zero++(List.replicate n Tm.zero).flatMap eT.f):=by
  rw[List.flatMap_append,List.replicate_succ,List.flatMap_cons]
 have h2:(us++[u]++List.replicate n Tm.zero).flatMap eT.f=us.flatMap eT.f++(eT.f u++(List.replicate n Tm.zero).flatMap eT.f):=by
  rw[List.flatMap_append,List.flatMap_append,List.flatMap_cons,List.flatMap_nil,List.append_nil,List.append_assoc]
 have hl:(us.flatMap eT.f).length=us.length*6:=dW _ _ eT.hf _;rw[h1,h2,←hl];generalize us.flatMap eT.f=a;generalize (List.replicate n Tm.zero).flatMap eT.f=b;show((((((a++(([.int .i64 0,.int .i64 0,.string ⟨#[]⟩,.slice none 0 0,.slice none 0 0,.slice none 0 0]:List Value)++b)).toArray.setIfInBounds _ _).setIfInBounds _ _).setIfInBounds _ _).setIfInBounds _ _).setIfInBounds _ _).setIfInBounds _ _=(a++(([.int .i64 u.kind,.int .i64 u.n,encStr u.name,.slice u.V u.vars.length u.vc,.slice u.T u.types.length u.tc,.slice u.A u.kids.length u.cap]:List Value)++b)).toArray;simp only[ahs]
 congr 1
 rw[List.set_append_right _ _ (ahi _),List.set_append_right _ _ (by omega),List.set_append_right _ _ (by omega),List.set_append_right _ _ (by omega),List.set_append_right _ _ (by omega),List.set_append_right _ _ (by omega)];simp
theorem kU (us:List Tm) (n:Nat):(iZ us (n+1))[us.length*6]?=some (.int .i64 0)∧(iZ us (n+1))[us.length*6+1]?=some (.int .i64 0)∧(iZ us (n+1))[us.length*6+2]?=some (.string ⟨#[]⟩)∧(iZ us (n+1))[us.length*6+3]?=some (.slice none 0 0)∧(iZ us (n+1))[us.length*6+4]?=some (.slice none 0 0)∧(iZ us (n+1))[us.length*6+5]?=some (.slice none 0 0):=by
 unfold iZ;have h1:(us++List.replicate (n+1) Tm.zero).flatMap eT.f=us.flatMap eT.f++(eT.f Tm.zero++(List.replicate n Tm.zero).flatMap eT.f):=by
  rw[List.flatMap_append,List.replicate_succ,List.flatMap_cons]
 have hl:(us.flatMap eT.f).length=us.length*6:=dW _ _ eT.hf _;rw[h1,←hl];generalize us.flatMap eT.f=a;generalize (List.replicate n Tm.zero).flatMap eT.f=b;have e:eT.f Tm.zero=[.int .i64 0,.int .i64 0,.string ⟨#[]⟩,.slice none 0 0,.slice none 0 0,.slice none 0 0]:=rfl;rw[e];simp only[ahp];refine⟨?_,?_,?_,?_,?_,?_⟩<;>rw[List.getElem?_append_right (by omega)]<;>simp
theorem Dj (us:List Tm):iZ us 0=(us.flatMap eT.f).toArray:=by unfold iZ;simp
theorem Zp {w:World}{b n:Nat}{us:List Tm}(u:Tm) (h:w.heap[b]?=some (.cells (iZ us (n+1)) 40 (0,0))) :
  (AB w b (us.length*6) u).heap[b]?=some (.cells (iZ (us++[u]) n) 40 (0,0)):=by
 rw[←Zo];exact aw (aw (aw (aw (aw (aw h _ _) _ _) _ _) _ _) _ _) _ _
def IE : Array Value:=#[.int .i64 0,.int .i64 0,.string ⟨#[]⟩,.slice none 0 0,.slice none 0 0,.slice none 0 0]
theorem IG : (Tryz.prog.info? 40).map (fun i=>(i.zero,i.size,i.bytes))=some (some (.agg #[.int .i64 0,.int .i64 0,.string ⟨#[]⟩,.slice none 0 0,.slice none 0 0,.slice none 0 0]),6,104):=by kernel_rfl
theorem Dk (m:Nat):madeCells IE (m*6)=iZ [] m:=by
 unfold madeCells iZ;rw[List.nil_append]
 apply Array.toList_inj.1
 rw[Array.toList_map,Array.toList_range]
 induction m with
 |zero=>rfl
 |succ m ih=>
  rw[List.replicate_succ',List.flatMap_append,show(m+1)*6=m*6+1+1+1+1+1+1 by omega,List.range_succ,List.range_succ,List.range_succ,List.range_succ,List.range_succ,List.range_succ,ahz,ahz,ahz,ahz,ahz,ahz,ih];simp only[List.append_assoc]
  congr 1
  have h0:(m*6) % 6=0:=by omega
  have h1:(m*6+1) % 6=1:=by omega
  have h2:(m*6+1+1) % 6=2:=by omega
  have h3:(m*6+1+1+1) % 6=3:=by omega
  have h4:(m*6+1+1+1+1) % 6=4:=by omega
  have h5:(m*6+1+1+1+1+1) % 6=5:=by omega
  simp only[List.map_cons,List.map_nil,show IE.size=6 from rfl,h0,h1,h2,h3,h4,h5,List.flatMap_cons,List.flatMap_nil];rfl
theorem xv (m:Nat) (hm:m≤100000) (W:World):(Instr.makeSlice 28 (.int .i64 m) (.int .i64 m)).run Tryz.prog W=.ok (.slice (some ⟨W.heap.size,0,none⟩) m m) (W.alloc (.cells (iZ [] m) 40)):=by
 obtain⟨i1,hj,mM,gS,iv⟩:=info_parts IG;have je:=run_make (P:=Tryz.prog) W 28 40 i1 _ Tryz.underlying28 hj mM .i64 .i64 m m (by omega) (Int.le_refl _) (by rw[iv];omega) (by omega);rw[gS,Int.toNat_natCast,show(Value.agg #[.int .i64 0,.int .i64 0,.string ⟨#[]⟩,.slice none 0 0,.slice none 0 0,.slice none 0 0]).cells=IE from rfl,Dk] at je;exact je
theorem kV {n first:Int}(h:n<1∨n>4096∨first<0∨first>1099511627776):bW n first=[]:=if_pos h
theorem zA {n f:Nat}(h1:¬(n:Int)<1) (h2:¬(n:Int)>4096) (h4:¬(f:Int)>1099511627776):bW n f=(List.range n).map fun(i:Nat)=>gX ((f+i:Nat):Int):=by
 unfold bW;rw[if_neg (by omega),Int.toNat_natCast];exact List.map_congr_left fun i _=>by rw[Int.natCast_add]
theorem L4 (w:World) (m:Nat) (h:m≤9223372036854775807):aM w (gX m):=by
 have Me:=iB 19 m (Nat.lt_of_le_of_lt h (by decide));exact .mk ⟨ahj _,by show 0≤9223372036854775807;omega,ahj _,by show 0≤9223372036854775807;omega,ahj _,by show 0≤9223372036854775807;omega,by show(([35]:aj)++bV (m:Int).toNat).length≤_;rw[Int.toNat_natCast,ahn,List.length_singleton];omega,ak.nil _ _ _,bF.nil _ _,ak.nil _ _ _⟩ (by intro k hk;cases hk)
set_option maxRecDepth 10000
set_option maxHeartbeats 8000000
theorem L5 (n first:Int) (w:World):Calls Tryz.prog 23 #[.int .i64 n,.int .i64 first] w fun e w'=>(∃A c,e=.returned (.slice A (bW n first).length c)∧(bW n first).length≤c∧c≤9223372036854775807∧bK w' A (bW n first))∧Ext w w':=by
 by_cases h1:n<1
 ·rw[kV (.inl h1)];go_enter Tryz.func23,Tryz.ntmps23;go_wp2;go_ret
  first
   |exact⟨⟨none,0,rfl,ahi _,ahj _,⟨ak.nil _ _ _,fun t h=>absurd h (by simp)⟩⟩,eR _⟩
   |exact⟨⟨none,0,rfl,ahj _,⟨ak.nil _ _ _,fun t h=>absurd h (by simp)⟩⟩,eR _⟩
   |exact⟨⟨none,0,rfl,⟨ak.nil _ _ _,fun t h=>absurd h (by simp)⟩⟩,eR _⟩
 by_cases h2:n>4096
 ·rw[kV (.inr (.inl h2))];go_enter Tryz.func23,Tryz.ntmps23;go_wp2;go_ret
  first
   |exact⟨⟨none,0,rfl,ahi _,ahj _,⟨ak.nil _ _ _,fun t h=>absurd h (by simp)⟩⟩,eR _⟩
   |exact⟨⟨none,0,rfl,ahj _,⟨ak.nil _ _ _,fun t h=>absurd h (by simp)⟩⟩,eR _⟩
   |exact⟨⟨none,0,rfl,⟨ak.nil _ _ _,fun t h=>absurd h (by simp)⟩⟩,eR _⟩
 by_cases h3:first<0
 ·rw[kV (.inr (.inr (.inl h3)))];go_enter Tryz.func23,Tryz.ntmps23;go_wp2;go_ret
  first
   |exact⟨⟨none,0,rfl,ahi _,ahj _,⟨ak.nil _ _ _,fun t h=>absurd h (by simp)⟩⟩,eR _⟩
   |exact⟨⟨none,0,rfl,ahj _,⟨ak.nil _ _ _,fun t h=>absurd h (by simp)⟩⟩,eR _⟩
   |exact⟨⟨none,0,rfl,⟨ak.nil _ _ _,fun t h=>absurd h (by simp)⟩⟩,eR _⟩
 by_cases h4:first>1099511627776
 ·rw[kV (.inr (.inr (.inr h4)))];go_enter Tryz.func23,Tryz.ntmps23;go_wp2;go_ret
  first
   |exact⟨⟨none,0,rfl,ahi _,ahj _,⟨ak.nil _ _ _,fun t h=>absurd h (by simp)⟩⟩,eR _⟩
   |exact⟨⟨none,0,rfl,ahj _,⟨ak.nil _ _ _,fun t h=>absurd h (by simp)⟩⟩,eR _⟩
   |exact⟨⟨none,0,rfl,⟨ak.nil _ _ _,fun t h=>absurd h (by simp)⟩⟩,eR _⟩
 obtain⟨N,rfl⟩:∃N:Nat,n=N:=⟨n.toNat,by omega⟩;obtain⟨f,rfl⟩:∃f:Nat,first=f:=⟨first.toNat,by omega⟩
 have hNf:=zA (n:=N) (f:=f) h1 h2 h4;rw[hNf];clear hNf;have je:=xv N (by omega) w;obtain⟨W,hW⟩:∃W,W=w.alloc (.cells (iZ [] N) 40):=⟨_,rfl⟩;rw[←hW] at je;have X0:ahg (Ext w W):=aa (by rw[hW];exact(eR _).alloc _);have B0:ahg (W.heap[w.heap.size]?=some (.cells (iZ [] N) 40 (0,0))):=aa (by rw[hW];exact ah _ _ _ rfl);have hlw:=ae B0.o;have b1:¬N<1:=by omega
 have b2:¬4096<N:=by omega
 clear hW;go_enter Tryz.func23,Tryz.ntmps23;go_wp2
 go_loopw [25] (fun i wr=>∃k:Nat,k≤N∧i=.int .i64 k∧ahg (wr.heap[w.heap.size]?=some (.cells (iZ ((List.range k).map fun(i:Nat)=>gX ((f+i:Nat):Int)) (N - k)) 40 (0,0)))∧ahg (Ext w wr)) (fun i _=>N - (intOf i).toNat)
 case atStart=>exact⟨0,ahj _,rfl,aa (by rw[List.range_zero];exact B0.o),X0⟩
 case round=>
  obtain⟨k,hk,rfl,HR,HX⟩:=hrel
  by_cases hlt:k<N
  ·have aS:(k:Int)<(N:Int):=by omega
   have dy:(0:Int)≤(k:Int):=by omega
   obtain⟨m,hm⟩:∃m:Nat,m=f+k:=⟨_,rfl⟩;have Jc:IntKind.i64.wrap ((f:Int)+(k:Int))=(m:Int):=by rw[IntKind.wrap_i64];omega
   have HT:=aa (pB m (by omega) wr);have hd:=iB 19 m (by omega);have hsz:¬((⟨[(35:UInt8)].toArray⟩:ByteArray).size+(⟨(bV m).toArray⟩:ByteArray).size>9223372036854775807):=by rw[aB,aB];simp;omega
   have e1:=ByteArray.mk_append_mk [(35:UInt8)] (bV m);obtain⟨q,hq⟩:∃q,N - k=q+1:=⟨N - k - 1,by omega⟩;have Hq2:ahg (N - (k+1)=q):=aa (by omega);have Hrs:ahg ((List.range (k+1)).map (fun(i:Nat)=>gX ((f+i:Nat):Int))=(List.range k).map (fun(i:Nat)=>gX ((f+i:Nat):Int))++[gX m]):=aa (by rw[List.range_succ,ahz,List.map_singleton,hm]);have TT:((List.range k).map fun(i:Nat)=>gX ((f+i:Nat):Int)).length=k:=by simp
   rw[hq] at HR;generalize ((List.range k).map fun(i:Nat)=>gX ((f+i:Nat):Int))=us at *;have Hln:=aa TT;clear hq TT hm;go_wp2_with fail;refine HT.o.mono ?_;rintro e w3 ⟨rfl,hx⟩;have iu:=aa ((hx.heap (ae HR.o)).trans HR.o);have X3:=aa (HX.o.trans hx);have Mw:=aa (Zp (gX m) iu.o);have VJ:ahg (Ext w (AB w3 w.heap.size (us.length*6) (gX m))):=aa ((((((X3.o.setCell (by simp) _).setCell (by simp) _).setCell (by simp) _).setCell (by simp) _).setCell (by simp) _).setCell (by simp) _);have f0:=ai iu.o (us.length*6);have f1:=ai iu.o (us.length*6+1);have f2:=ai iu.o (us.length*6+2);have f3:=ai iu.o (us.length*6+3);have f4:=ai iu.o (us.length*6+4);have f5:=ai iu.o (us.length*6+5);have k0:=(af iu.o (us.length*6)).trans (kU us q).1;have k1:=(af iu.o (us.length*6+1)).trans (kU us q).2.1;have k2:=(af iu.o (us.length*6+2)).trans (kU us q).2.2.1;have k3:=(af iu.o (us.length*6+3)).trans (kU us q).2.2.2.1;have k4:=(af iu.o (us.length*6+4)).trans (kU us q).2.2.2.2.1;have k5:=(af iu.o (us.length*6+5)).trans (kU us q).2.2.2.2.2;rw[Hln.o] at f0 f1 f2 f3 f4 f5 k0 k1 k2 k3 k4 k5 Mw VJ;have WL:=ae iu.o;clear hx iu HT;go_wp2;go_roundw
   case rel=>exact⟨k+1,hlt,by go_num,aa (by rw[Hq2.o,Hrs.o];exact Mw.o),VJ⟩
   case measure=>simp[intOf];omega
  ·have bU:¬(k:Int)<(N:Int):=by omega
   have Jg:k=N:=by omega
   subst Jg;have J8:ahg (wr.heap[w.heap.size]?=some (.cells (((List.range k).map fun(i:Nat)=>gX ((f+i:Nat):Int)).flatMap eT.f).toArray 40 (0,0))):=aa (by have:=HR.o;rwa [Nat.sub_self,Dj] at this);have HF:ahg (bK wr (some ⟨w.heap.size,0,none⟩) ((List.range k).map fun(i:Nat)=>gX ((f+i:Nat):Int))):=aa ⟨ak.block eT _ J8.o,fun t ht=>by
    obtain⟨i,hi,rfl⟩:=List.mem_map.1 ht;have:=List.mem_range.1 hi;exact L4 _ _ (by omega)⟩
   clear HR J8;go_wp2;go_ret;exact⟨⟨_,_,rfl,ahi _,by omega,HF.o⟩,HX.o⟩
theorem PB (t:Tm) (s:aj) (hT:fE t s) (hL:cj t=true) (hf:cY t) (hsz:t.size≤100000) (w:World) (h:aM w t):Calls Tryz.prog 24 #[bl t] w fun e w'=>e=.returned (encStr s)∧Ext w w':=by
 have fj:=aa (av.new w t);have X0:ahg (Ext w (w.alloc (.cells #[.int .i64 t.kind,.int .i64 t.n,encStr t.name,.slice t.V t.vars.length t.vc,.slice t.T t.types.length t.tc,.slice t.A t.kids.length t.cap] 40))):=aa ((eR w).alloc _);obtain⟨c0,c1,c2,c3,c4,c5⟩:=fj.o.cells;have oI:=aa (fun w' (e:Ext w w')=>aa (Ai t w' (h.ext e) hf (by omega)));rw[hL] at oI;have HTx:=aa (fun w' (e:Ext w w')=>aa (hT w' (h.ext e)));clear h hf hT hL;unfold bl at *;go_enter Tryz.func24,Tryz.ntmps24;go_wp2_with fail;refine(oI.o _ X0.o).o.mono ?_;rintro e w2 ⟨rfl,hx⟩;have X2:=aa (X0.o.trans hx);obtain⟨c0,c1,c2,c3,c4,c5⟩:=(fj.o.ext hx).cells;clear hx;go_wp2_with fail;refine(HTx.o _ X2.o).o.mono ?_;rintro e w3 ⟨rfl,hx⟩;go_wp2;go_ret;exact⟨rfl,X2.o.trans hx⟩
set_option maxRecDepth 512
set_option maxHeartbeats 200000
end Go.Proofs.YtigafbmabjglfaaGreatDoor
