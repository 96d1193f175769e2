import Derived.Test.YtigafbmabjglfaaGreatDoorJA12
import Derived.ChangeAlike
import Derived.BigRegion
namespace Go.Proofs.YtigafbmabjglfaaGreatDoor
open Go.RowKit Go.Shelf
set_option maxHeartbeats 1000000 in
theorem Ta (t:Ty) (w:World) (h:aH w t):Calls Tryz.prog 171 #[bl t] w fun e w'=>e=.returned (.bool (!ax t))∧Ext w w':=by
 have X0:aiE (Ext w (w.alloc (.cells #[encStr t.aq,.int .i64 t.var,.slice t.A t.args.length t.cap] 53))):=aa ((eR w).alloc _);have HL:=aa (xx t _ (h.ext X0.o));have HB:=aa (aU.new w t);have c0:=HB.o.c0;have c1:=HB.o.c1;have c2:=HB.o.c2;clear h;unfold bl at *;generalize ax t=R at *;go_enter Tryz.func171,Tryz.ntmps171;go_wp2_with fail;refine HL.o.mono ?_;rintro e w2 ⟨rfl,hx⟩;go_wp2;go_ret;exact⟨rfl,X0.o.trans hx⟩
theorem sG : fz 171:=enters_of Tryz.func171 (by kernel_rfl) rfl
theorem xA {ins:List cL}{p:Pf}{l:List (Option Pd)}{m:Nat}(hm:p.n=(m:Int)) (hl:m<ins.length) :
  cr ins p l=if (cR (ins[m]'hl) p&&fO p.types (ins[m]'hl).preds l)=true then some ⟨(ins[m]'hl).cls,.mk (ins[m]'hl).aq 0 p.T p.tc p.types⟩ else none:=by
 unfold cr;rw[hm,nx _ _ hl,Option.bind_some]
theorem xB {types:List Ty}{ps:List Pd}{l:List (Option Pd)}{k:Nat}(h1:k<ps.length) (h2:k<l.length) (h:gi types (ps[k]'h1) (l[k]'h2)=false):fO types ps l=false:=by
 unfold fO;rw[←Bool.not_eq_true,aiY];intro hall;have:=hall (ps[k]'h1,l[k]'h2) (by rw[List.mem_iff_getElem];exact⟨k,by rw[List.length_zip];omega,List.getElem_zip⟩);rw[h] at this;cases this
theorem ud {types:List Ty}{ps:List Pd}{l:List (Option Pd)}(hl:ps.length=l.length) (h:∀k (h1:k<ps.length) (h2:k<l.length),gi types (ps[k]'h1) (l[k]'h2)=true):fO types ps l=true:=by
 unfold fO;rw[aiY];intro x hx;obtain⟨k,hk,rfl⟩:=List.mem_iff_getElem.1 hx;rw[List.length_zip] at hk;rw[List.getElem_zip];exact h k (by omega) (by omega)
theorem Dj {y:cL}(h:bE y=true){k:Nat}(hk:k<y.preds.length):0≤(y.preds[k]'hk).ty.var∧(y.preds[k]'hk).ty.var<y.n:=by
 unfold bE at h;rw[aiT,aiY] at h;have:=h.2 _ (aiF hk);unfold bj at this;simp only[aiT,decide_eq_true_eq] at this;exact⟨this.1.2,this.2⟩
theorem bJ {P:Program}{c:Code}{Q:Exit→Act→World→Prop}{a:Act}{w:World}(h:∀W,W=w→Code.wp P c Q a W):Code.wp P c Q a w:=h w rfl
set_option maxRecDepth 10000
set_option maxHeartbeats 8000000
theorem Px (x:di) (G:Option Addr) (gc:Nat) (given:List Pd) (p:Pf) (ih:∀k∈p.kids,qL x G gc given 75 (bw x.af x.insts given k) k) :
  qL x G gc given 123 (cr x.insts p (p.kids.map (bw x.af x.insts given))) p:=by
 intro w he hg hp;obtain⟨W,hW⟩:∃W,W=((w.alloc (.cells #[.slice x.D x.aA.length x.dc,.slice x.C x.af.length x.cc,.slice x.I x.insts.length x.ic] 26)).alloc (.cells #[.int .i64 p.kind,.int .i64 p.n,.slice p.T p.types.length p.tc,.slice p.A p.kids.length p.cap] 34)).alloc (.cells #[.string ⟨#[]⟩,.string ⟨#[]⟩,.int .i64 0,.slice none 0 0] 55):=⟨_,rfl⟩;have HW:=aa hW.symm;have X0:aiE (Ext w W):=aa (by rw[hW];exact(((eR _).alloc _).alloc _).alloc _);have B1:aiE (aI W w.heap.size x):=aa (by rw[hW];exact(aI.new w x).ext (((eR _).alloc _).alloc _));have B2:aiE (aO W (w.heap.size+1) p):=aa (by rw[hW];exact aO.ext (ah _ _ _ (by simp)) ((eR _).alloc _));have B3:aiE (W.heap[w.heap.size+1+1]?=some (.cells #[.string ⟨#[]⟩,.string ⟨#[]⟩,.int .i64 0,.slice none 0 0] 55)):=aa (by rw[hW];exact ah _ _ _ (by simp));have bR:aiE (W.heap.size=w.heap.size+3):=aa (by rw[hW];simp);obtain⟨c0,c1,c2,c3⟩:=B2.o.cells;obtain⟨e0,e1,e2⟩:=B1.o.cells;obtain⟨y0,y1,y2,y3,eL,eO,eP,eQ⟩:=ay B3.o;have mn:w.heap.size<W.heap.size:=by rw[bR.o];omega
 have ow:w.heap.size+1<W.heap.size:=by rw[bR.o];omega
 have dC:w.heap.size+1+1<W.heap.size:=by rw[bR.o];omega
 have HR:aiE (cr x.insts p (p.kids.map (bw x.af x.insts given))=_):=aa rfl;clear hW;unfold eu bM
 by_cases hn:p.n<0
 ·have HO:aiE (cr x.insts p (p.kids.map (bw x.af x.insts given))=none):=aa (by unfold cr;rw[dK (by omega)];rfl);go_enter Tryz.func123,Tryz.ntmps123;go_upto_region 1 with fail;rw[HW.o];clear HW;go_wp2
  go_region
  go_wp2;refine bodyPost_ret (v:=.tuple #[.agg #[.string ⟨#[]⟩,.string ⟨#[]⟩,.int .i64 0,.slice none 0 0],(.iface 140 (.agg #[.int .i64 1]))]) ?_ rfl ⟨⟨⟨[],Ty.zero⟩,_,rfl,by rw[HO.o];rfl⟩,?_⟩
  ·simp[results,Tryz.f123,go_sem,y0,y1,y2,y3,dC]
  ·exact((ar X0.o (by omega) _ _ _ _).alloc _).drew
 by_cases mO:p.n≥(x.insts.length:Int)
 ·have HO:aiE (cr x.insts p (p.kids.map (bw x.af x.insts given))=none):=aa (by unfold cr;rw[dK (by omega)];rfl);go_enter Tryz.func123,Tryz.ntmps123;go_upto_region 1 with fail;rw[HW.o];clear HW;go_wp2
  go_region
  go_wp2;refine bodyPost_ret (v:=.tuple #[.agg #[.string ⟨#[]⟩,.string ⟨#[]⟩,.int .i64 0,.slice none 0 0],(.iface 140 (.agg #[.int .i64 1]))]) ?_ rfl ⟨⟨⟨[],Ty.zero⟩,_,rfl,by rw[HO.o];rfl⟩,?_⟩
  ·simp[results,Tryz.f123,go_sem,y0,y1,y2,y3,dC]
  ·exact((ar X0.o (by omega) _ _ _ _).alloc _).drew
 obtain⟨m,hm⟩:∃m:Nat,p.n=(m:Int):=⟨p.n.toNat,by omega⟩;have iu:m<x.insts.length:=by omega
 have LK:(m:Int)<(x.insts.length:Int):=by omega
 have NZ:(0:Int)≤(m:Int):=by omega
 have dU:=aa (xA (l:=p.kids.map (bw x.af x.insts given)) hm iu);obtain⟨b,o,eI,hb,q0,q1,q2,q3⟩:=(he.insts.ext X0.o).at_ iu;have HI:=aa (he.insts.all _ (aiF iu));have HK:=aa (fun k (hk:k<p.kids.length) w' (e:Ext w w')=>aa (ih _ (aiF hk) w' (he.ext e) (hg.ext e) ((hp.all.kids _ (aiF hk)).ext e)));have Hp:=aa hp;have za:=aa (fun k (hk:k<p.kids.length) a (ha:bw x.af x.insts given (p.kids[k]'hk)=some a)=>ov he hg _ (hp.all.kids _ (aiF hk)) a ha);have Yx:=hp.hd.le;have Yy:=hp.hd.max;rw[hm] at c1;rw[eI] at e2;generalize cr x.insts p (p.kids.map (bw x.af x.insts given))=R at *;generalize x.insts[m]'iu=y at *;obtain⟨yc,yn,n,A,cap,preds⟩:=y;simp only[] at q0 q1 q2 q3;rw[hm,eI] at HW ⊢;have Hm:=aa hm;clear eI hm hn mO ih he hg hp HR;have RV:decide ((m:Int)<0)=false:=by simp
 have xa:decide (x.insts.length≤m)=false:=by simp;omega
 obtain⟨W1,hW1⟩:∃W1,W1=(W.alloc (.cells #[.int .i64 1] 140)).alloc (.cells #[.string ⟨yc.toArray⟩,.string ⟨yn.toArray⟩,.int .i64 n,.slice A preds.length cap] 70):=⟨_,rfl⟩;have X1:aiE (Ext w W1):=aa (by rw[hW1];exact(X0.o.alloc _).alloc _);have XW:aiE (Ext W W1):=aa (by rw[hW1];exact((eR _).alloc _).alloc _);have C1:aiE (W1.heap[W.heap.size]?=some (.cells #[.int .i64 1] 140 (0,0))):=aa (by rw[hW1];exact(((eR _).alloc _).heap (by simp)).trans (ah _ _ _ rfl));have C2:aiE (eV W1 (W.heap.size+1) ⟨yc,yn,n,A,cap,preds⟩):=aa (by rw[hW1];exact ah _ _ _ (by simp));have Wz:=aa hW1.symm;have su:=aa (BD ⟨yc,yn,n,A,cap,preds⟩ W1 (HI.o.ext X1.o));clear hW1;unfold xq at su;cases hb2:bE ⟨yc,yn,n,A,cap,preds⟩
 ·rw[hb2] at su;have hR:R=none:=by rw[dU.o,if_neg];unfold cR;rw[hb2];simp
  clear dU;subst hR;go_enter Tryz.func123,Tryz.ntmps123;go_upto_region 1 with fail;rw[HW.o];clear HW;go_upto_region 6 with fail;rw[Wz.o];clear Wz;obtain⟨k0,k1,k2,k3⟩:=C2.o.cells;simp only[] at k0 k1 k2 k3;go_wp2_with fail;refine su.o.mono ?_;rintro e w2 ⟨rfl,hx2⟩;have X2:=aa (X1.o.trans hx2);have Gv:=aa (XW.o.trans hx2);have B3:=aa ((Gv.o.heap (ae B3.o)).trans B3.o);have j9:=ae B3.o;have C1:=aa ((hx2.heap (ae C1.o)).trans C1.o);have C2:=aa (C2.o.ext hx2);have B1:=aa (B1.o.ext Gv.o);have B2:=aa (B2.o.ext Gv.o);clear hx2 k0 k1 k2 k3 c0 c1 c2 c3 e0 e1 e2 y0 y1 y2 y3 eL eO eP eQ q0 q1 q2 q3;obtain⟨y0,y1,y2,y3,eL,eO,eP,eQ⟩:=ay B3.o;obtain⟨c0,c1,c2,c3⟩:=B2.o.cells;obtain⟨d0,d1,d2,d3⟩:=C2.o.cells;have r0:=ag C1.o 0;simp only[aiN,aiO] at r0;simp only[] at d0 d1 d2 d3;clear c0 c1 c2 c3 d0 d1 d2 d3;simp only[Bool.false_eq_true,if_false];go_wp2
  go_region
  go_wp2;refine bodyPost_ret (v:=.tuple #[.agg #[.string ⟨#[]⟩,.string ⟨#[]⟩,.int .i64 0,.slice none 0 0],(.iface 140 (.agg #[.int .i64 1]))]) ?_ rfl ⟨⟨⟨[],Ty.zero⟩,_,rfl,rfl⟩,?_⟩
  ·simp[results,Tryz.f123,go_sem,y0,y1,y2,y3]
  ·first|exact(ar X2.o (by omega) _ _ _ _).drew
 rw[hb2] at su;have Tb:=aa hb2;go_enter Tryz.func123,Tryz.ntmps123;go_upto_region 1 with fail;rw[HW.o];clear HW;go_upto_region 6 with fail;rw[Wz.o];clear Wz;obtain⟨k0,k1,k2,k3⟩:=C2.o.cells;simp only[] at k0 k1 k2 k3;go_wp2_with fail;refine su.o.mono ?_;rintro e w2 ⟨rfl,hx2⟩;have X2:=aa (X1.o.trans hx2);have Gv:=aa (XW.o.trans hx2);have B3:=aa ((Gv.o.heap (ae B3.o)).trans B3.o);have j9:=ae B3.o;have C1:=aa ((hx2.heap (ae C1.o)).trans C1.o);have C2:=aa (C2.o.ext hx2);have B1:=aa (B1.o.ext Gv.o);have B2:=aa (B2.o.ext Gv.o);clear hx2 k0 k1 k2 k3 c0 c1 c2 c3 e0 e1 e2 y0 y1 y2 y3 eL eO eP eQ q0 q1 q2 q3;obtain⟨y0,y1,y2,y3,eL,eO,eP,eQ⟩:=ay B3.o;obtain⟨c0,c1,c2,c3⟩:=B2.o.cells;obtain⟨d0,d1,d2,d3⟩:=C2.o.cells;have r0:=ag C1.o 0;simp only[aiN,aiO] at r0;simp only[] at d0 d1 d2 d3;rw[Hm.o] at c1;clear su;simp only[if_true]
 by_cases Fz:(p.types.length:Int)=n
 ·subst Fz
  by_cases js:p.kids.length=preds.length
  ·have g1:((p.kids.length:Int) != (preds.length:Int))=false:=by rw[js];simp
   have g2:(p.kids.length != preds.length)=false:=by rw[js];simp
   have g3:(p.kids.length == preds.length)=true:=by rw[js];simp
   have Py:=aa js;clear js;have pQ:p.types.length≤100:=by
    have h9:fA ⟨yc,yn,(p.types.length:Int),A,cap,preds⟩=true:=by unfold bE at hb2;rw[aiT] at hb2;exact hb2.1
    have h8:(p.types.length:Int)≤100:=(nj h9).2;omega
   have HF:=aa (Gs 171 #[] sG (fun t => !ax t) p.T p.tc p.types w2 (Hp.o.hd.types.ext X2.o) (by omega) (fun w' e t ht=>Ta t w' ((Hp.o.hd.types.args t ht).ext (X2.o.trans e))));have zy:p.types.any (fun t => !ax t) = !p.types.all ax:=by rw[List.not_all_eq_any_not]
   rw[zy] at HF;clear zy hb2;cases hall:p.types.all ax
   ·rw[hall] at HF;have hR:R=none:=by rw[dU.o,if_neg];unfold cR;rw[hall];simp
    clear dU hall;subst hR;go_wp2_with fail;refine HF.o.mono ?_;rintro e w3 ⟨rfl,hx3⟩;have X3:=aa (X2.o.trans hx3);have B3:=aa ((hx3.heap (ae B3.o)).trans B3.o);have j9:=ae B3.o;have C1:=aa ((hx3.heap (ae C1.o)).trans C1.o);clear hx3 y0 y1 y2 y3 eL eO eP eQ r0;obtain⟨y0,y1,y2,y3,eL,eO,eP,eQ⟩:=ay B3.o;have r0:=ag C1.o 0;simp only[aiN,aiO] at r0;go_wp2
    go_region
    go_wp2;refine bodyPost_ret (v:=.tuple #[.agg #[.string ⟨#[]⟩,.string ⟨#[]⟩,.int .i64 0,.slice none 0 0],(.iface 140 (.agg #[.int .i64 1]))]) ?_ rfl ⟨⟨⟨[],Ty.zero⟩,_,rfl,rfl⟩,?_⟩
    ·simp[results,Tryz.f123,go_sem,y0,y1,y2,y3]
    ·first|exact(ar X3.o (by omega) _ _ _ _).drew
   ·rw[hall] at HF;have iR:aiE (R=if fO p.types preds (p.kids.map (bw x.af x.insts given))=true then some ⟨yc,.mk yn 0 p.T p.tc p.types⟩ else none):=aa (by
     rw[dU.o];unfold cR;rw[hall,Tb.o,decide_eq_true (show((p.types.length:Nat):Int)=_ from rfl),decide_eq_true Py.o];simp only[Bool.true_and])
    clear dU hall;go_wp2_with fail;refine HF.o.mono ?_;rintro e w3 ⟨rfl,hx3⟩;have X3:=aa (X2.o.trans hx3);have B3:=aa ((hx3.heap (ae B3.o)).trans B3.o);have C1:=aa ((hx3.heap (ae C1.o)).trans C1.o);have C2:=aa (C2.o.ext hx3);have B1:=aa (B1.o.ext hx3);have B2:=aa (B2.o.ext hx3);clear hx3 HF y0 y1 y2 y3 eL eO eP eQ r0 c0 c1 c2 c3 d0 d1 d2 d3 j9;obtain⟨c0,c1,c2,c3⟩:=B2.o.cells;simp only[Bool.not_true];go_wp2;clear c0 c1 c2 c3
    go_loopw [69] (fun i wr=>∃k:Nat,k≤p.kids.length∧i=.int .i64 k∧aiE (Ext w3 wr)∧aiE (∀j (h1:j<preds.length) (h2:j<p.kids.length),j<k→gi p.types (preds[j]'h1) (bw x.af x.insts given (p.kids[j]'h2))=true)) (fun i _=>p.kids.length - (intOf i).toNat)
    case atStart=>exact⟨0,aiH _,rfl,aa (eR _),aa (fun j _ _ h=>absurd h (by omega))⟩
    case round=>
     obtain⟨k,hk,rfl,HX,HQ⟩:=hrel
     by_cases hlt:k<p.kids.length
     ·have aN:(k:Int)<(p.kids.length:Int):=by omega
      have cV:(0:Int)≤(k:Int):=by omega
      have js:k<preds.length:=by rw[←Py.o];exact hlt
      have adY:(k:Int)<(preds.length:Int):=by omega
      have XR:=aa (X3.o.trans HX.o);obtain⟨b4,o4,hA,hb4,k0,k1,k2,k3⟩:=(Hp.o.all.ext XR.o).at_ hlt;have FA:=aa (HK.o k hlt);have xb:aiE (∀b,gi p.types (preds[k]'js) (bw x.af x.insts given (p.kids[k]'hlt))=b→(b=false→R=none)∧(b=true→∀j (h1:j<preds.length) (h2:j<p.kids.length),j<k+1→gi p.types (preds[j]'h1) (bw x.af x.insts given (p.kids[j]'h2))=true)):=aa (by
       intro b hb;refine⟨fun e => ?_,fun e j h1 h2 hj => ?_⟩
       ·rw[iR.o,if_neg];rw[xB js (by rw[List.length_map];exact hlt) (by rw[List.getElem_map,hb,e])];decide
       ·by_cases hjk:j=k
        ·subst hjk;rw[hb,e]
        ·exact HQ.o j h1 h2 (by omega))
      have Yz:=aa (Dj Tb.o js);obtain⟨bp,op,eA,hbp,w0,w1,KM,KN⟩:=(HI.o.row.ext XR.o).at_ js;have HTs:=aa (fun(i:Nat) (hi:i<p.types.length) w' (e:Ext w w')=>(Hp.o.hd.types.ext e).at_ hi);have pR:=aa (fun(i:Nat) (hi:i<p.types.length)=>Hp.o.hd.types.args _ (aiF hi));have WA:=aa (fun(i:Nat) (hi:i<p.types.length)=>(show p.types.getD i Ty.zero=p.types[i]'hi by simp[List.getD,hi]));have Dk:=aa (za.o k hlt);have WC:=aa ((HI.o.row.all _ (aiF js)));simp only[] at Yz eA w0 w1 KM KN;generalize p.kids[k]'hlt=kid at *;generalize preds[k]'js=want at *;obtain⟨v,hv⟩:∃v:Nat,want.ty.var=(v:Int):=⟨want.ty.var.toNat,by have:=Yz.o.1;omega⟩;have nY:v<p.types.length:=by have:=Yz.o.2;omega
      have KO:(v:Int)<(p.types.length:Int):=by omega
      have hv0:(0:Int)≤(v:Int):=by omega
      obtain⟨bt,ot,hT,S7,t0,t1,t2⟩:=HTs.o v nY wr XR.o;have Ht0:=aa t0;have Ht1:=aa t1;have Ht2:=aa t2;have Hv:=aa hv;have HbT:=aa S7;rw[hA,eA,hT];clear t0 t1 t2 hv S7 HTs;have C2:=aa (C2.o.ext HX.o);have hd:=C2.o.cells.2.2.2;simp only[] at hd;rw[eA] at hd;have hc:=(B2.o.ext HX.o).c2;rw[hT] at hc;clear hA eA hT HQ iR;have Hd:=aa hd;have Hc:=aa hc;have YA:=aa w0;have YC:=aa w1;have YD:=aa KM;have YE:=aa KN;clear hd hc w0 w1 KM KN;generalize bw x.af x.insts given kid=O at *;unfold eu bM fN at FA;obtain⟨e0,e1,e2⟩:=(B1.o.ext HX.o).cells;have hbe:=(B1.o.ext HX.o).lt;go_wp2_with fail;refine(FA.o _ (XR.o.alloc _)).o.mono ?_;rintro e w4 ⟨⟨q,er,rfl,bT⟩,eJ⟩;have X4:aiE (Ext wr w4):=aa (((eR _).alloc _).trans eJ);have X5:=aa (HX.o.trans X4.o);have B3:=aa ((X5.o.heap (ae B3.o)).trans B3.o);have j9:=ae B3.o;have C1:=aa ((X5.o.heap (ae C1.o)).trans C1.o);obtain⟨y0,y1,y2,y3,eL,eO,eP,eQ⟩:=ay B3.o;have r0:=ag C1.o 0;simp only[aiN,aiO] at r0;have Tc:=ae C1.o;clear eJ k0 k1 k2 k3 FA e0 e1 e2 hbe;cases O with
      |none=>
       obtain rfl:=bT.none;have hR:=(xb.o _ rfl).1 rfl;clear bT xb HX;subst hR;go_wp2;refine bodyPost_ret (v:=.tuple #[.agg #[.string ⟨#[]⟩,.string ⟨#[]⟩,.int .i64 0,.slice none 0 0],(.iface 140 (.agg #[.int .i64 1]))]) ?_ rfl ⟨⟨⟨[],Ty.zero⟩,_,rfl,rfl⟩,?_⟩
       ·simp[results,Tryz.f123,go_sem,y0,y1,y2,y3,j9]
       ·refine Ext.alloc ?_ _;exact ar (X3.o.trans X5.o) (by omega) _ _ _ _
      |some a=>
       obtain⟨rfl,rfl⟩:=bT.some;clear bT;rename Pd=>a
       have Ha:=aa (Dk.o a rfl);have d3:=X4.o.cell Hd.o;have w0:=X4.o.cell YA.o;have w1:=X4.o.cell YC.o;have w2:=X4.o.cell YD.o;have w3:=X4.o.cell YE.o;have YF:bp<w4.heap.size:=Nat.lt_of_lt_of_le hbp X4.o.size;have C2:=aa (C2.o.ext X4.o);have hd4:=C2.o.lt;go_upto_region 15 with fail;refine bJ ?_;intro W5 lI;have E5:aiE (Ext w4 W5):=aa (by rw[lI];exact((eR _).alloc _).alloc _);have D1:aiE (aR W5 w4.heap.size a):=aa (by rw[lI];exact(aR.new w4 a).ext ((eR _).alloc _));have D2:aiE (aR W5 (w4.heap.size+1) want):=aa (by rw[lI];exact ah _ _ _ (by simp));have X6:=aa (X5.o.trans E5.o);have B3:=aa ((E5.o.heap (ae B3.o)).trans B3.o);have C1:=aa ((E5.o.heap (ae C1.o)).trans C1.o);clear lI d3 w0 w1 w2 w3 YF hd4 j9 y0 y1 y2 y3 eL eO eP eQ r0 Tc;have j9:=ae B3.o;obtain⟨y0,y1,y2,y3,eL,eO,eP,eQ⟩:=ay B3.o;have r0:=ag C1.o 0;simp only[aiN,aiO] at r0;have Tc:=ae C1.o;have c2:=E5.o.cell (X4.o.cell Hc.o);obtain⟨a0,a1,a2,a3⟩:=D1.o.cells;obtain⟨w0,w1,w2,w3⟩:=D2.o.cells;cases LO:(a.cls == want.cls)
       ·have hR:=(xb.o false (by show(a.cls == want.cls&&_)=false;rw[LO];rfl)).1 rfl;have Pz:(a.cls != want.cls)=true:=by rw[bne,LO];rfl
        clear xb HX;subst hR
        go_quiet (fail)
        all_goals
         go_wp2
         go_region
         go_wp2;refine bodyPost_ret (v:=.tuple #[.agg #[.string ⟨#[]⟩,.string ⟨#[]⟩,.int .i64 0,.slice none 0 0],(.iface 140 (.agg #[.int .i64 1]))]) ?_ rfl ⟨⟨⟨[],Ty.zero⟩,_,rfl,rfl⟩,?_⟩
         ·simp[results,Tryz.f123,go_sem,y0,y1,y2,y3]
         ·exact(ar (X3.o.trans X6.o) (by omega) _ _ _ _).drewN _
       ·have Pz:(a.cls != want.cls)=false:=by rw[bne,LO];rfl
        have XR5:=aa (X3.o.trans X6.o);have zA:=aa (X4.o.trans E5.o);have t0:=zA.o.cell Ht0.o;have t1:=zA.o.cell Ht1.o;have t2:=zA.o.cell Ht2.o;have S7:bt<W5.heap.size:=Nat.lt_of_lt_of_le HbT.o zA.o.size;have HS:=aa (fun w' (e:Ext W5 w')=>aa (FZ a.ty (p.types[v]'nY) w' (Ha.o.ty.ext (XR5.o.trans e)) ((pR.o v nY).ext (XR5.o.trans e))));have YG:aiE (gi p.types want (some a)=bN a.ty (p.types[v]'nY)):=aa (by
         unfold gi;simp only[];rw[LO,Bool.true_and,Hv.o,show((v:Int)).toNat=v from rfl,WA.o v nY])
        rw[Hv.o] at w2;have N0:=D1.o.lt;clear pR WA;generalize p.types[v]'nY=tv at *;have ei:=aa (fun w' (e:Ext W5 w')=>aiI (e.cell a0) (aiI (e.cell a1) (aiI (e.cell a2) (aiI (e.cell a3) (aiI (e.cell w0) (aiI (e.cell w2) (aiI (e.cell c2) (aiI (e.cell t0) (aiI (e.cell t1) (e.cell t2))))))))));unfold bl at HS;cases hs:bN a.ty tv
        all_goals
         rw[hs] at HS YG;clear hs
         go_region_held3 (fun w'=>w'.cell? ⟨w4.heap.size,0,none⟩=some (encStr a.cls)∧w'.cell? ⟨w4.heap.size,1,none⟩=some (encStr a.ty.aq)∧w'.cell? ⟨w4.heap.size,2,none⟩=some (.int .i64 a.ty.var)∧w'.cell? ⟨w4.heap.size,3,none⟩=some (.slice a.ty.A a.ty.args.length a.ty.cap)∧w'.cell? ⟨w4.heap.size+1,0,none⟩=some (encStr want.cls)∧w'.cell? ⟨w4.heap.size+1,2,none⟩=some (.int .i64 (v:Int))∧w'.cell? ⟨w.heap.size+1,2,none⟩=some (.slice (some ⟨bt,ot,none⟩) p.types.length p.tc)∧w'.cell? ⟨bt,ot+v*3,none⟩=some (.string ⟨tv.aq.toArray⟩)∧w'.cell? ⟨bt,ot+v*3+1,none⟩=some (.int .i64 tv.var)∧w'.cell? ⟨bt,ot+v*3+2,none⟩=some (.slice tv.A tv.args.length tv.cap)) (first|with_reducible assumption|go_keep) (first
          |(
           go_at_call 172
           refine Calls.mono (HS.o _ (by repeat(first|exact eR _|exact eA (by assumption) _|refine eA ?_ _|refine eM ?_ _ _|refine eD ?_|refine eN ?_ _))).o ?_;rintro e y ⟨rfl,gY⟩;have kS:=ei.o y (by refine Ext.trans ?_ gY;exact(by repeat(first|exact eR _|exact eA (by assumption) _|refine eA ?_ _|refine eM ?_ _ _|refine eD ?_|refine eN ?_ _)));have X7:aiE (Ext W5 y):=aa (by refine Ext.trans ?_ gY;exact(by repeat(first|exact eR _|exact eA (by assumption) _|refine eA ?_ _|refine eM ?_ _ _|refine eD ?_|refine eN ?_ _)));clear gY))
        ·have hR:=(xb.o false YG.o).1 rfl;have B3:=aa ((X7.o.heap (ae B3.o)).trans B3.o);have C1:=aa ((X7.o.heap (ae C1.o)).trans C1.o);clear xb HX ei HS kS y0 y1 y2 y3 eL eO eP eQ r0 Tc j9 a0 a1 a2 a3 w0 w1 w2 w3 c2 t0 t1 t2;have j9:=ae B3.o;obtain⟨y0,y1,y2,y3,eL,eO,eP,eQ⟩:=ay B3.o;have r0:=ag C1.o 0;simp only[aiN,aiO] at r0;have Tc:=ae C1.o;subst hR;go_wp2
         go_region
         go_wp2;refine bodyPost_ret (v:=.tuple #[.agg #[.string ⟨#[]⟩,.string ⟨#[]⟩,.int .i64 0,.slice none 0 0],(.iface 140 (.agg #[.int .i64 1]))]) ?_ rfl ⟨⟨⟨[],Ty.zero⟩,_,rfl,rfl⟩,?_⟩
         ·simp[results,Tryz.f123,go_sem,y0,y1,y2,y3]
         ·exact(ar (X3.o.trans (X6.o.trans X7.o)) (by omega) _ _ _ _).drew
        ·have Td:=aa ((xb.o true YG.o).2 rfl);have XN:=aa (X6.o.trans X7.o);clear xb HX ei HS kS y0 y1 y2 y3 eL eO eP eQ r0 Tc j9 a0 a1 a2 a3 w0 w1 w2 w3 c2 t0 t1 t2;go_wp2;go_roundw
         case rel=>exact⟨k+1,hlt,by go_num,XN,Td⟩
         case measure=>simp[intOf];omega
     ·have bS:¬(k:Int)<(p.kids.length:Int):=by omega
      have hR:R=some ⟨yc,.mk yn 0 p.T p.tc p.types⟩:=by
       rw[iR.o,if_pos];refine ud (by rw[List.length_map,Py.o]) (fun j h1 h2 => ?_);rw[List.getElem_map];rw[List.length_map] at h2;exact HQ.o j h1 h2 (by omega)
      clear iR HQ;subst hR;have B3:=aa ((HX.o.heap (ae B3.o)).trans B3.o);have C2:=aa (C2.o.ext HX.o);have B2:=aa (B2.o.ext HX.o);obtain⟨y0,y1,y2,y3,eL,eO,eP,eQ⟩:=ay B3.o;obtain⟨c0,c1,c2,c3⟩:=B2.o.cells;obtain⟨d0,d1,d2,d3⟩:=C2.o.cells;simp only[] at d0 d1 d2 d3;go_wp2;refine bodyPost_ret (v:=.tuple #[.agg #[encStr yc,encStr yn,.int .i64 0,.slice p.T p.types.length p.tc],.nilIface]) ?_ rfl ⟨⟨⟨yc,.mk yn 0 p.T p.tc p.types⟩,_,rfl,rfl,rfl⟩,?_⟩
      ·simp[results,Tryz.f123,go_sem,y0,y1,y2,y3]
      ·exact ar (X3.o.trans HX.o) (by omega) _ _ _ _
  ·have g1:((p.kids.length:Int) != (preds.length:Int))=true:=by simp;omega
   have g2:(p.kids.length != preds.length)=true:=by simpa using js
   have g3:(p.kids.length == preds.length)=false:=by simpa using js
   have hR:R=none:=by rw[dU.o,if_neg];unfold cR;rw[decide_eq_false js];simp
   clear dU;subst hR;go_wp2
   go_region
   go_wp2;refine bodyPost_ret (v:=.tuple #[.agg #[.string ⟨#[]⟩,.string ⟨#[]⟩,.int .i64 0,.slice none 0 0],(.iface 140 (.agg #[.int .i64 1]))]) ?_ rfl ⟨⟨⟨[],Ty.zero⟩,_,rfl,rfl⟩,?_⟩
   ·simp[results,Tryz.f123,go_sem,y0,y1,y2,y3]
   ·first|exact(ar X2.o (by omega) _ _ _ _).drew
 ·have g1:((p.types.length:Int) != n)=true:=by simpa using Fz
  have g2:((p.types.length:Int) == n)=false:=by simpa using Fz
  have hR:R=none:=by rw[dU.o,if_neg];unfold cR;rw[decide_eq_false Fz];simp
  clear dU;subst hR;go_wp2
  go_region
  go_wp2;refine bodyPost_ret (v:=.tuple #[.agg #[.string ⟨#[]⟩,.string ⟨#[]⟩,.int .i64 0,.slice none 0 0],(.iface 140 (.agg #[.int .i64 1]))]) ?_ rfl ⟨⟨⟨[],Ty.zero⟩,_,rfl,rfl⟩,?_⟩
  ·simp[results,Tryz.f123,go_sem,y0,y1,y2,y3]
  ·first|exact(ar X2.o (by omega) _ _ _ _).drew
set_option maxRecDepth 512
set_option maxHeartbeats 200000
end Go.Proofs.YtigafbmabjglfaaGreatDoor
