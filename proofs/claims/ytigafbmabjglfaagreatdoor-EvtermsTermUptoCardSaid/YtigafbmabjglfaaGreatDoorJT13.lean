import Derived.Test.YtigafbmabjglfaaGreatDoorJT12
import Derived.ChangeAlike
import Derived.BigRegion
namespace Go.Proofs.YtigafbmabjglfaaGreatDoor
open Go.RowKit Go.Shelf
set_option maxHeartbeats 1000000 in
theorem QY (t:Ty) (w:World) (h:aC w t):Calls Tryz.prog 171 #[bh t] w fun e w'=>e=.returned (.bool (!az t))∧Ext w w':=by
 have X0:ahg (Ext w (w.alloc (.cells #[encStr t.aq,.int .i64 t.var,.slice t.A t.args.length t.cap] 53))):=aa ((eR w).alloc _);have HL:=aa (vF t _ (h.ext X0.o));have HB:=aa (aP.new w t);have c0:=HB.o.c0;have c1:=HB.o.c1;have c2:=HB.o.c2;clear h;unfold bh at *;generalize az t=R at *;go_enter Tryz.func171,Tryz.ntmps171;go_wp2_with fail;refine HL.o.mono ?_;rintro e w2 ⟨rfl,hx⟩;go_wp2;go_ret;exact⟨rfl,X0.o.trans hx⟩
theorem rf : eU 171:=enters_of Tryz.func171 (by kernel_rfl) rfl
theorem vJ {ins:List cX}{p:Pf}{l:List (Option Pd)}{m:Nat}(hm:p.n=(m:Int)) (hl:m<ins.length) :
  bZ ins p l=if (cJ (ins[m]'hl) p&&fx p.types (ins[m]'hl).preds l)=true then some ⟨(ins[m]'hl).cls,.mk (ins[m]'hl).aq 0 p.T p.tc p.types⟩ else none:=by
 unfold bZ;rw[hm,mG _ _ hl,Option.bind_some]
theorem vK {types:List Ty}{ps:List Pd}{l:List (Option Pd)}{k:Nat}(h1:k<ps.length) (h2:k<l.length) (h:fH types (ps[k]'h1) (l[k]'h2)=false):fx types ps l=false:=by
 unfold fx;rw[←Bool.not_eq_true,ahA];intro hall;have:=hall (ps[k]'h1,l[k]'h2) (by rw[List.mem_iff_getElem];exact⟨k,by rw[List.length_zip];omega,List.getElem_zip⟩);rw[h] at this;cases this
theorem sy {types:List Ty}{ps:List Pd}{l:List (Option Pd)}(hl:ps.length=l.length) (h:∀k (h1:k<ps.length) (h2:k<l.length),fH types (ps[k]'h1) (l[k]'h2)=true):fx types ps l=true:=by
 unfold fx;rw[ahA];intro x hx;obtain⟨k,hk,rfl⟩:=List.mem_iff_getElem.1 hx;rw[List.length_zip] at hk;rw[List.getElem_zip];exact h k (by omega) (by omega)
theorem Br {y:cX}(h:bN y=true){k:Nat}(hk:k<y.preds.length):0≤(y.preds[k]'hk).ty.var∧(y.preds[k]'hk).ty.var<y.n:=by
 unfold bN at h;rw[ahv,ahA] at h;have:=h.2 _ (ahh hk);unfold bf at this;simp only[ahv,decide_eq_true_eq] at this;exact⟨this.1.2,this.2⟩
theorem bC {P:Program}{c:Code}{Q:Exit→Act→World→Prop}{a:Act}{w:World}(h:∀W,W=w→Code.wp P c Q a W):Code.wp P c Q a w:=h w rfl
set_option maxRecDepth 10000
set_option maxHeartbeats 8000000
theorem Ny (x:dz) (G:Option Addr) (gc:Nat) (given:List Pd) (p:Pf) (ih:∀k∈p.kids,pN x G gc given 75 (bm x.ag x.insts given k) k) :
  pN x G gc given 123 (bZ x.insts p (p.kids.map (bm x.ag x.insts given))) p:=by
 intro w he hg hp;obtain⟨W,hW⟩:∃W,W=((w.alloc (.cells #[.slice x.D x.aA.length x.dc,.slice x.C x.ag.length x.cc,.slice x.I x.insts.length x.ic] 26)).alloc (.cells #[.int .i64 p.kind,.int .i64 p.n,.slice p.T p.types.length p.tc,.slice p.A p.kids.length p.cap] 34)).alloc (.cells #[.string ⟨#[]⟩,.string ⟨#[]⟩,.int .i64 0,.slice none 0 0] 55):=⟨_,rfl⟩;have HW:=aa hW.symm;have X0:ahg (Ext w W):=aa (by rw[hW];exact(((eR _).alloc _).alloc _).alloc _);have B1:ahg (aJ W w.heap.size x):=aa (by rw[hW];exact(aJ.new w x).ext (((eR _).alloc _).alloc _));have B2:ahg (aO W (w.heap.size+1) p):=aa (by rw[hW];exact aO.ext (ah _ _ _ (by simp)) ((eR _).alloc _));have B3:ahg (W.heap[w.heap.size+1+1]?=some (.cells #[.string ⟨#[]⟩,.string ⟨#[]⟩,.int .i64 0,.slice none 0 0] 55)):=aa (by rw[hW];exact ah _ _ _ (by simp));have bS:ahg (W.heap.size=w.heap.size+3):=aa (by rw[hW];simp);obtain⟨c0,c1,c2,c3⟩:=B2.o.cells;obtain⟨e0,e1,e2⟩:=B1.o.cells;obtain⟨y0,y1,y2,y3,dY,dZ,ee,eh⟩:=ax B3.o;have jL:w.heap.size<W.heap.size:=by rw[bS.o];omega
 have nu:w.heap.size+1<W.heap.size:=by rw[bS.o];omega
 have fo:w.heap.size+1+1<W.heap.size:=by rw[bS.o];omega
 have HR:ahg (bZ x.insts p (p.kids.map (bm x.ag x.insts given))=_):=aa rfl;clear hW;unfold eX cr
 by_cases hn:p.n<0
 ·have HO:ahg (bZ x.insts p (p.kids.map (bm x.ag x.insts given))=none):=aa (by unfold bZ;rw[dh (by omega)];rfl);go_enter Tryz.func123,Tryz.ntmps123;go_upto_region 1 with fail;rw[HW.o];clear HW;go_wp2
  go_region
  go_wp2;refine bodyPost_ret (v:=.tuple #[.agg #[.string ⟨#[]⟩,.string ⟨#[]⟩,.int .i64 0,.slice none 0 0],(.iface 140 (.agg #[.int .i64 1]))]) ?_ rfl ⟨⟨⟨[],Ty.zero⟩,_,rfl,by rw[HO.o];rfl⟩,?_⟩
  ·simp[results,Tryz.f123,go_sem,y0,y1,y2,y3,fo]
  ·exact((ar X0.o (by omega) _ _ _ _).alloc _).drew
 by_cases oF:p.n≥(x.insts.length:Int)
 ·have HO:ahg (bZ x.insts p (p.kids.map (bm x.ag x.insts given))=none):=aa (by unfold bZ;rw[dh (by omega)];rfl);go_enter Tryz.func123,Tryz.ntmps123;go_upto_region 1 with fail;rw[HW.o];clear HW;go_wp2
  go_region
  go_wp2;refine bodyPost_ret (v:=.tuple #[.agg #[.string ⟨#[]⟩,.string ⟨#[]⟩,.int .i64 0,.slice none 0 0],(.iface 140 (.agg #[.int .i64 1]))]) ?_ rfl ⟨⟨⟨[],Ty.zero⟩,_,rfl,by rw[HO.o];rfl⟩,?_⟩
  ·simp[results,Tryz.f123,go_sem,y0,y1,y2,y3,fo]
  ·exact((ar X0.o (by omega) _ _ _ _).alloc _).drew
 obtain⟨m,hm⟩:∃m:Nat,p.n=(m:Int):=⟨p.n.toNat,by omega⟩;have gD:m<x.insts.length:=by omega
 have JT:(m:Int)<(x.insts.length:Int):=by omega
 have Mp:(0:Int)≤(m:Int):=by omega
 have dJ:=aa (vJ (l:=p.kids.map (bm x.ag x.insts given)) hm gD);obtain⟨b,o,eI,hb,q0,q1,q2,q3⟩:=(he.insts.ext X0.o).at_ gD;have HI:=aa (he.insts.all _ (ahh gD));have HK:=aa (fun k (hk:k<p.kids.length) w' (e:Ext w w')=>aa (ih _ (ahh hk) w' (he.ext e) (hg.ext e) ((hp.all.kids _ (ahh hk)).ext e)));have Hp:=aa hp;have I8:=aa (fun k (hk:k<p.kids.length) a (ha:bm x.ag x.insts given (p.kids[k]'hk)=some a)=>np he hg _ (hp.all.kids _ (ahh hk)) a ha);have We:=hp.hd.le;have Wf:=hp.hd.max;rw[hm] at c1;rw[eI] at e2;generalize bZ x.insts p (p.kids.map (bm x.ag x.insts given))=R at *;generalize x.insts[m]'gD=y at *;obtain⟨yc,yn,n,A,cap,preds⟩:=y;simp only[] at q0 q1 q2 q3;rw[hm,eI] at HW ⊢;have Hm:=aa hm;clear eI hm hn oF ih he hg hp HR;have PZ:decide ((m:Int)<0)=false:=by simp
 have uZ:decide (x.insts.length≤m)=false:=by simp;omega
 obtain⟨W1,hW1⟩:∃W1,W1=(W.alloc (.cells #[.int .i64 1] 140)).alloc (.cells #[.string ⟨yc.toArray⟩,.string ⟨yn.toArray⟩,.int .i64 n,.slice A preds.length cap] 70):=⟨_,rfl⟩;have X1:ahg (Ext w W1):=aa (by rw[hW1];exact(X0.o.alloc _).alloc _);have XW:ahg (Ext W W1):=aa (by rw[hW1];exact((eR _).alloc _).alloc _);have C1:ahg (W1.heap[W.heap.size]?=some (.cells #[.int .i64 1] 140 (0,0))):=aa (by rw[hW1];exact(((eR _).alloc _).heap (by simp)).trans (ah _ _ _ rfl));have C2:ahg (eW W1 (W.heap.size+1) ⟨yc,yn,n,A,cap,preds⟩):=aa (by rw[hW1];exact ah _ _ _ (by simp));have Mq:=aa hW1.symm;have qX:=aa (zP ⟨yc,yn,n,A,cap,preds⟩ W1 (HI.o.ext X1.o));clear hW1;unfold Du at qX;cases hb2:bN ⟨yc,yn,n,A,cap,preds⟩
 ·rw[hb2] at qX;have hR:R=none:=by rw[dJ.o,if_neg];unfold cJ;rw[hb2];simp
  clear dJ;subst hR;go_enter Tryz.func123,Tryz.ntmps123;go_upto_region 1 with fail;rw[HW.o];clear HW;go_upto_region 6 with fail;rw[Mq.o];clear Mq;obtain⟨k0,k1,k2,k3⟩:=C2.o.cells;simp only[] at k0 k1 k2 k3;go_wp2_with fail;refine qX.o.mono ?_;rintro e w2 ⟨rfl,hx2⟩;have X2:=aa (X1.o.trans hx2);have Ew:=aa (XW.o.trans hx2);have B3:=aa ((Ew.o.heap (ae B3.o)).trans B3.o);have l5:=ae B3.o;have C1:=aa ((hx2.heap (ae C1.o)).trans C1.o);have C2:=aa (C2.o.ext hx2);have B1:=aa (B1.o.ext Ew.o);have B2:=aa (B2.o.ext Ew.o);clear hx2 k0 k1 k2 k3 c0 c1 c2 c3 e0 e1 e2 y0 y1 y2 y3 dY dZ ee eh q0 q1 q2 q3;obtain⟨y0,y1,y2,y3,dY,dZ,ee,eh⟩:=ax B3.o;obtain⟨c0,c1,c2,c3⟩:=B2.o.cells;obtain⟨d0,d1,d2,d3⟩:=C2.o.cells;have r0:=af C1.o 0;simp only[ahp,ahq] at r0;simp only[] at d0 d1 d2 d3;clear c0 c1 c2 c3 d0 d1 d2 d3;simp only[Bool.false_eq_true,if_false];go_wp2
  go_region
  go_wp2;refine bodyPost_ret (v:=.tuple #[.agg #[.string ⟨#[]⟩,.string ⟨#[]⟩,.int .i64 0,.slice none 0 0],(.iface 140 (.agg #[.int .i64 1]))]) ?_ rfl ⟨⟨⟨[],Ty.zero⟩,_,rfl,rfl⟩,?_⟩
  ·simp[results,Tryz.f123,go_sem,y0,y1,y2,y3]
  ·first|exact(ar X2.o (by omega) _ _ _ _).drew
 rw[hb2] at qX;have QZ:=aa hb2;go_enter Tryz.func123,Tryz.ntmps123;go_upto_region 1 with fail;rw[HW.o];clear HW;go_upto_region 6 with fail;rw[Mq.o];clear Mq;obtain⟨k0,k1,k2,k3⟩:=C2.o.cells;simp only[] at k0 k1 k2 k3;go_wp2_with fail;refine qX.o.mono ?_;rintro e w2 ⟨rfl,hx2⟩;have X2:=aa (X1.o.trans hx2);have Ew:=aa (XW.o.trans hx2);have B3:=aa ((Ew.o.heap (ae B3.o)).trans B3.o);have l5:=ae B3.o;have C1:=aa ((hx2.heap (ae C1.o)).trans C1.o);have C2:=aa (C2.o.ext hx2);have B1:=aa (B1.o.ext Ew.o);have B2:=aa (B2.o.ext Ew.o);clear hx2 k0 k1 k2 k3 c0 c1 c2 c3 e0 e1 e2 y0 y1 y2 y3 dY dZ ee eh q0 q1 q2 q3;obtain⟨y0,y1,y2,y3,dY,dZ,ee,eh⟩:=ax B3.o;obtain⟨c0,c1,c2,c3⟩:=B2.o.cells;obtain⟨d0,d1,d2,d3⟩:=C2.o.cells;have r0:=af C1.o 0;simp only[ahp,ahq] at r0;simp only[] at d0 d1 d2 d3;rw[Hm.o] at c1;clear qX;simp only[if_true]
 by_cases Dv:(p.types.length:Int)=n
 ·subst Dv
  by_cases jc:p.kids.length=preds.length
  ·have g1:((p.kids.length:Int) != (preds.length:Int))=false:=by rw[jc];simp
   have g2:(p.kids.length != preds.length)=false:=by rw[jc];simp
   have g3:(p.kids.length == preds.length)=true:=by rw[jc];simp
   have Nz:=aa jc;clear jc;have oH:p.types.length≤100:=by
    have h9:fu ⟨yc,yn,(p.types.length:Int),A,cap,preds⟩=true:=by unfold bN at hb2;rw[ahv] at hb2;exact hb2.1
    have h8:(p.types.length:Int)≤100:=(mv h9).2;omega
   have HF:=aa (Et 171 #[] rf (fun t => !az t) p.T p.tc p.types w2 (Hp.o.hd.types.ext X2.o) (by omega) (fun w' e t ht=>QY t w' ((Hp.o.hd.types.args t ht).ext (X2.o.trans e))));have xY:p.types.any (fun t => !az t) = !p.types.all az:=by rw[List.not_all_eq_any_not]
   rw[xY] at HF;clear xY hb2;cases hall:p.types.all az
   ·rw[hall] at HF;have hR:R=none:=by rw[dJ.o,if_neg];unfold cJ;rw[hall];simp
    clear dJ hall;subst hR;go_wp2_with fail;refine HF.o.mono ?_;rintro e w3 ⟨rfl,hx3⟩;have X3:=aa (X2.o.trans hx3);have B3:=aa ((hx3.heap (ae B3.o)).trans B3.o);have l5:=ae B3.o;have C1:=aa ((hx3.heap (ae C1.o)).trans C1.o);clear hx3 y0 y1 y2 y3 dY dZ ee eh r0;obtain⟨y0,y1,y2,y3,dY,dZ,ee,eh⟩:=ax B3.o;have r0:=af C1.o 0;simp only[ahp,ahq] at r0;go_wp2
    go_region
    go_wp2;refine bodyPost_ret (v:=.tuple #[.agg #[.string ⟨#[]⟩,.string ⟨#[]⟩,.int .i64 0,.slice none 0 0],(.iface 140 (.agg #[.int .i64 1]))]) ?_ rfl ⟨⟨⟨[],Ty.zero⟩,_,rfl,rfl⟩,?_⟩
    ·simp[results,Tryz.f123,go_sem,y0,y1,y2,y3]
    ·first|exact(ar X3.o (by omega) _ _ _ _).drew
   ·rw[hall] at HF;have iu:ahg (R=if fx p.types preds (p.kids.map (bm x.ag x.insts given))=true then some ⟨yc,.mk yn 0 p.T p.tc p.types⟩ else none):=aa (by
     rw[dJ.o];unfold cJ;rw[hall,QZ.o,decide_eq_true (show((p.types.length:Nat):Int)=_ from rfl),decide_eq_true Nz.o];simp only[Bool.true_and])
    clear dJ hall;go_wp2_with fail;refine HF.o.mono ?_;rintro e w3 ⟨rfl,hx3⟩;have X3:=aa (X2.o.trans hx3);have B3:=aa ((hx3.heap (ae B3.o)).trans B3.o);have C1:=aa ((hx3.heap (ae C1.o)).trans C1.o);have C2:=aa (C2.o.ext hx3);have B1:=aa (B1.o.ext hx3);have B2:=aa (B2.o.ext hx3);clear hx3 HF y0 y1 y2 y3 dY dZ ee eh r0 c0 c1 c2 c3 d0 d1 d2 d3 l5;obtain⟨c0,c1,c2,c3⟩:=B2.o.cells;simp only[Bool.not_true];go_wp2;clear c0 c1 c2 c3
    go_loopw [69] (fun i wr=>∃k:Nat,k≤p.kids.length∧i=.int .i64 k∧ahg (Ext w3 wr)∧ahg (∀j (h1:j<preds.length) (h2:j<p.kids.length),j<k→fH p.types (preds[j]'h1) (bm x.ag x.insts given (p.kids[j]'h2))=true)) (fun i _=>p.kids.length - (intOf i).toNat)
    case atStart=>exact⟨0,ahj _,rfl,aa (eR _),aa (fun j _ _ h=>absurd h (by omega))⟩
    case round=>
     obtain⟨k,hk,rfl,HX,HQ⟩:=hrel
     by_cases hlt:k<p.kids.length
     ·have aS:(k:Int)<(p.kids.length:Int):=by omega
      have dy:(0:Int)≤(k:Int):=by omega
      have jc:k<preds.length:=by rw[←Nz.o];exact hlt
      have ach:(k:Int)<(preds.length:Int):=by omega
      have XR:=aa (X3.o.trans HX.o);obtain⟨b4,o4,hA,hb4,k0,k1,k2,k3⟩:=(Hp.o.all.ext XR.o).at_ hlt;have Dw:=aa (HK.o k hlt);have vd:ahg (∀b,fH p.types (preds[k]'jc) (bm x.ag x.insts given (p.kids[k]'hlt))=b→(b=false→R=none)∧(b=true→∀j (h1:j<preds.length) (h2:j<p.kids.length),j<k+1→fH p.types (preds[j]'h1) (bm x.ag x.insts given (p.kids[j]'h2))=true)):=aa (by
       intro b hb;refine⟨fun e => ?_,fun e j h1 h2 hj => ?_⟩
       ·rw[iu.o,if_neg];rw[vK jc (by rw[List.length_map];exact hlt) (by rw[List.getElem_map,hb,e])];decide
       ·by_cases hjk:j=k
        ·subst hjk;rw[hb,e]
        ·exact HQ.o j h1 h2 (by omega))
      have Wh:=aa (Br QZ.o jc);obtain⟨bp,op,eA,hbp,w0,w1,I9,Ja⟩:=(HI.o.row.ext XR.o).at_ jc;have ZH:=aa (fun(i:Nat) (hi:i<p.types.length) w' (e:Ext w w')=>(Hp.o.hd.types.ext e).at_ hi);have oJ:=aa (fun(i:Nat) (hi:i<p.types.length)=>Hp.o.hd.types.args _ (ahh hi));have ZI:=aa (fun(i:Nat) (hi:i<p.types.length)=>(show p.types.getD i Ty.zero=p.types[i]'hi by simp[List.getD,hi]));have Bt:=aa (I8.o k hlt);have Uy:=aa ((HI.o.row.all _ (ahh jc)));simp only[] at Wh eA w0 w1 I9 Ja;generalize p.kids[k]'hlt=kid at *;generalize preds[k]'jc=want at *;obtain⟨v,hv⟩:∃v:Nat,want.ty.var=(v:Int):=⟨want.ty.var.toNat,by have:=Wh.o.1;omega⟩;have nc:v<p.types.length:=by have:=Wh.o.2;omega
      have Jb:(v:Int)<(p.types.length:Int):=by omega
      have hv0:(0:Int)≤(v:Int):=by omega
      obtain⟨bt,ot,hT,QU,t0,t1,t2⟩:=ZH.o v nc wr XR.o;have Ht0:=aa t0;have Ht1:=aa t1;have Ht2:=aa t2;have Hv:=aa hv;have HbT:=aa QU;rw[hA,eA,hT];clear t0 t1 t2 hv QU ZH;have C2:=aa (C2.o.ext HX.o);have hd:=C2.o.cells.2.2.2;simp only[] at hd;rw[eA] at hd;have hc:=(B2.o.ext HX.o).c2;rw[hT] at hc;clear hA eA hT HQ iu;have Hd:=aa hd;have Hc:=aa hc;have Wi:=aa w0;have Wj:=aa w1;have Wk:=aa I9;have Wl:=aa Ja;clear hd hc w0 w1 I9 Ja;generalize bm x.ag x.insts given kid=O at *;unfold eX cr jC at Dw;obtain⟨e0,e1,e2⟩:=(B1.o.ext HX.o).cells;have ZJ:=(B1.o.ext HX.o).lt;go_wp2_with fail;refine(Dw.o _ (XR.o.alloc _)).o.mono ?_;rintro e w4 ⟨⟨q,er,rfl,bP⟩,eP⟩;have X4:ahg (Ext wr w4):=aa (((eR _).alloc _).trans eP);have X5:=aa (HX.o.trans X4.o);have B3:=aa ((X5.o.heap (ae B3.o)).trans B3.o);have l5:=ae B3.o;have C1:=aa ((X5.o.heap (ae C1.o)).trans C1.o);obtain⟨y0,y1,y2,y3,dY,dZ,ee,eh⟩:=ax B3.o;have r0:=af C1.o 0;simp only[ahp,ahq] at r0;have Q1:=ae C1.o;clear eP k0 k1 k2 k3 Dw e0 e1 e2 ZJ;cases O with
      |none=>
       obtain rfl:=bP.none;have hR:=(vd.o _ rfl).1 rfl;clear bP vd HX;subst hR;go_wp2;refine bodyPost_ret (v:=.tuple #[.agg #[.string ⟨#[]⟩,.string ⟨#[]⟩,.int .i64 0,.slice none 0 0],(.iface 140 (.agg #[.int .i64 1]))]) ?_ rfl ⟨⟨⟨[],Ty.zero⟩,_,rfl,rfl⟩,?_⟩
       ·simp[results,Tryz.f123,go_sem,y0,y1,y2,y3,l5]
       ·refine Ext.alloc ?_ _;exact ar (X3.o.trans X5.o) (by omega) _ _ _ _
      |some a=>
       obtain⟨rfl,rfl⟩:=bP.some;clear bP;rename Pd=>a
       have Ha:=aa (Bt.o a rfl);have d3:=X4.o.cell Hd.o;have w0:=X4.o.cell Wi.o;have w1:=X4.o.cell Wj.o;have w2:=X4.o.cell Wk.o;have w3:=X4.o.cell Wl.o;have Wm:bp<w4.heap.size:=Nat.lt_of_lt_of_le hbp X4.o.size;have C2:=aa (C2.o.ext X4.o);have hd4:=C2.o.lt;go_upto_region 15 with fail;refine bC ?_;intro W5 jR;have E5:ahg (Ext w4 W5):=aa (by rw[jR];exact((eR _).alloc _).alloc _);have D1:ahg (aY W5 w4.heap.size a):=aa (by rw[jR];exact(aY.new w4 a).ext ((eR _).alloc _));have D2:ahg (aY W5 (w4.heap.size+1) want):=aa (by rw[jR];exact ah _ _ _ (by simp));have X6:=aa (X5.o.trans E5.o);have B3:=aa ((E5.o.heap (ae B3.o)).trans B3.o);have C1:=aa ((E5.o.heap (ae C1.o)).trans C1.o);clear jR d3 w0 w1 w2 w3 Wm hd4 l5 y0 y1 y2 y3 dY dZ ee eh r0 Q1;have l5:=ae B3.o;obtain⟨y0,y1,y2,y3,dY,dZ,ee,eh⟩:=ax B3.o;have r0:=af C1.o 0;simp only[ahp,ahq] at r0;have Q1:=ae C1.o;have c2:=E5.o.cell (X4.o.cell Hc.o);obtain⟨a0,a1,a2,a3⟩:=D1.o.cells;obtain⟨w0,w1,w2,w3⟩:=D2.o.cells;cases JX:(a.cls == want.cls)
       ·have hR:=(vd.o false (by show(a.cls == want.cls&&_)=false;rw[JX];rfl)).1 rfl;have NA:(a.cls != want.cls)=true:=by rw[bne,JX];rfl
        clear vd HX;subst hR
        go_quiet (fail)
        all_goals
         go_wp2
         go_region
         go_wp2;refine bodyPost_ret (v:=.tuple #[.agg #[.string ⟨#[]⟩,.string ⟨#[]⟩,.int .i64 0,.slice none 0 0],(.iface 140 (.agg #[.int .i64 1]))]) ?_ rfl ⟨⟨⟨[],Ty.zero⟩,_,rfl,rfl⟩,?_⟩
         ·simp[results,Tryz.f123,go_sem,y0,y1,y2,y3]
         ·exact(ar (X3.o.trans X6.o) (by omega) _ _ _ _).drewN _
       ·have NA:(a.cls != want.cls)=false:=by rw[bne,JX];rfl
        have ZK:=aa (X3.o.trans X6.o);have xZ:=aa (X4.o.trans E5.o);have t0:=xZ.o.cell Ht0.o;have t1:=xZ.o.cell Ht1.o;have t2:=xZ.o.cell Ht2.o;have QU:bt<W5.heap.size:=Nat.lt_of_lt_of_le HbT.o xZ.o.size;have HS:=aa (fun w' (e:Ext W5 w')=>aa (DU a.ty (p.types[v]'nc) w' (Ha.o.ty.ext (ZK.o.trans e)) ((oJ.o v nc).ext (ZK.o.trans e))));have Wn:ahg (fH p.types want (some a)=bL a.ty (p.types[v]'nc)):=aa (by
         unfold fH;simp only[];rw[JX,Bool.true_and,Hv.o,show((v:Int)).toNat=v from rfl,ZI.o v nc])
        rw[Hv.o] at w2;have Mr:=D1.o.lt;clear oJ ZI;generalize p.types[v]'nc=tv at *;have fk:=aa (fun w' (e:Ext W5 w')=>ahk (e.cell a0) (ahk (e.cell a1) (ahk (e.cell a2) (ahk (e.cell a3) (ahk (e.cell w0) (ahk (e.cell w2) (ahk (e.cell c2) (ahk (e.cell t0) (ahk (e.cell t1) (e.cell t2))))))))));unfold bh at HS;cases hs:bL a.ty tv
        all_goals
         rw[hs] at HS Wn;clear hs
         go_region_held3 (fun w'=>w'.cell? ⟨w4.heap.size,0,none⟩=some (encStr a.cls)∧w'.cell? ⟨w4.heap.size,1,none⟩=some (encStr a.ty.aq)∧w'.cell? ⟨w4.heap.size,2,none⟩=some (.int .i64 a.ty.var)∧w'.cell? ⟨w4.heap.size,3,none⟩=some (.slice a.ty.A a.ty.args.length a.ty.cap)∧w'.cell? ⟨w4.heap.size+1,0,none⟩=some (encStr want.cls)∧w'.cell? ⟨w4.heap.size+1,2,none⟩=some (.int .i64 (v:Int))∧w'.cell? ⟨w.heap.size+1,2,none⟩=some (.slice (some ⟨bt,ot,none⟩) p.types.length p.tc)∧w'.cell? ⟨bt,ot+v*3,none⟩=some (.string ⟨tv.aq.toArray⟩)∧w'.cell? ⟨bt,ot+v*3+1,none⟩=some (.int .i64 tv.var)∧w'.cell? ⟨bt,ot+v*3+2,none⟩=some (.slice tv.A tv.args.length tv.cap)) (first|with_reducible assumption|go_keep) (first
          |(
           go_at_call 172
           refine Calls.mono (HS.o _ (by repeat(first|exact eR _|exact eA (by assumption) _|refine eA ?_ _|refine eM ?_ _ _|refine eD ?_|refine eN ?_ _))).o ?_;rintro e y ⟨rfl,jQ⟩;have kS:=fk.o y (by refine Ext.trans ?_ jQ;exact(by repeat(first|exact eR _|exact eA (by assumption) _|refine eA ?_ _|refine eM ?_ _ _|refine eD ?_|refine eN ?_ _)));have X7:ahg (Ext W5 y):=aa (by refine Ext.trans ?_ jQ;exact(by repeat(first|exact eR _|exact eA (by assumption) _|refine eA ?_ _|refine eM ?_ _ _|refine eD ?_|refine eN ?_ _)));clear jQ))
        ·have hR:=(vd.o false Wn.o).1 rfl;have B3:=aa ((X7.o.heap (ae B3.o)).trans B3.o);have C1:=aa ((X7.o.heap (ae C1.o)).trans C1.o);clear vd HX fk HS kS y0 y1 y2 y3 dY dZ ee eh r0 Q1 l5 a0 a1 a2 a3 w0 w1 w2 w3 c2 t0 t1 t2;have l5:=ae B3.o;obtain⟨y0,y1,y2,y3,dY,dZ,ee,eh⟩:=ax B3.o;have r0:=af C1.o 0;simp only[ahp,ahq] at r0;have Q1:=ae C1.o;subst hR;go_wp2
         go_region
         go_wp2;refine bodyPost_ret (v:=.tuple #[.agg #[.string ⟨#[]⟩,.string ⟨#[]⟩,.int .i64 0,.slice none 0 0],(.iface 140 (.agg #[.int .i64 1]))]) ?_ rfl ⟨⟨⟨[],Ty.zero⟩,_,rfl,rfl⟩,?_⟩
         ·simp[results,Tryz.f123,go_sem,y0,y1,y2,y3]
         ·exact(ar (X3.o.trans (X6.o.trans X7.o)) (by omega) _ _ _ _).drew
        ·have Q2:=aa ((vd.o true Wn.o).2 rfl);have XN:=aa (X6.o.trans X7.o);clear vd HX fk HS kS y0 y1 y2 y3 dY dZ ee eh r0 Q1 l5 a0 a1 a2 a3 w0 w1 w2 w3 c2 t0 t1 t2;go_wp2;go_roundw
         case rel=>exact⟨k+1,hlt,by go_num,XN,Q2⟩
         case measure=>simp[intOf];omega
     ·have bU:¬(k:Int)<(p.kids.length:Int):=by omega
      have hR:R=some ⟨yc,.mk yn 0 p.T p.tc p.types⟩:=by
       rw[iu.o,if_pos];refine sy (by rw[List.length_map,Nz.o]) (fun j h1 h2 => ?_);rw[List.getElem_map];rw[List.length_map] at h2;exact HQ.o j h1 h2 (by omega)
      clear iu HQ;subst hR;have B3:=aa ((HX.o.heap (ae B3.o)).trans B3.o);have C2:=aa (C2.o.ext HX.o);have B2:=aa (B2.o.ext HX.o);obtain⟨y0,y1,y2,y3,dY,dZ,ee,eh⟩:=ax B3.o;obtain⟨c0,c1,c2,c3⟩:=B2.o.cells;obtain⟨d0,d1,d2,d3⟩:=C2.o.cells;simp only[] at d0 d1 d2 d3;go_wp2;refine bodyPost_ret (v:=.tuple #[.agg #[encStr yc,encStr yn,.int .i64 0,.slice p.T p.types.length p.tc],.nilIface]) ?_ rfl ⟨⟨⟨yc,.mk yn 0 p.T p.tc p.types⟩,_,rfl,rfl,rfl⟩,?_⟩
      ·simp[results,Tryz.f123,go_sem,y0,y1,y2,y3]
      ·exact ar (X3.o.trans HX.o) (by omega) _ _ _ _
  ·have g1:((p.kids.length:Int) != (preds.length:Int))=true:=by simp;omega
   have g2:(p.kids.length != preds.length)=true:=by simpa using jc
   have g3:(p.kids.length == preds.length)=false:=by simpa using jc
   have hR:R=none:=by rw[dJ.o,if_neg];unfold cJ;rw[decide_eq_false jc];simp
   clear dJ;subst hR;go_wp2
   go_region
   go_wp2;refine bodyPost_ret (v:=.tuple #[.agg #[.string ⟨#[]⟩,.string ⟨#[]⟩,.int .i64 0,.slice none 0 0],(.iface 140 (.agg #[.int .i64 1]))]) ?_ rfl ⟨⟨⟨[],Ty.zero⟩,_,rfl,rfl⟩,?_⟩
   ·simp[results,Tryz.f123,go_sem,y0,y1,y2,y3]
   ·first|exact(ar X2.o (by omega) _ _ _ _).drew
 ·have g1:((p.types.length:Int) != n)=true:=by simpa using Dv
  have g2:((p.types.length:Int) == n)=false:=by simpa using Dv
  have hR:R=none:=by rw[dJ.o,if_neg];unfold cJ;rw[decide_eq_false Dv];simp
  clear dJ;subst hR;go_wp2
  go_region
  go_wp2;refine bodyPost_ret (v:=.tuple #[.agg #[.string ⟨#[]⟩,.string ⟨#[]⟩,.int .i64 0,.slice none 0 0],(.iface 140 (.agg #[.int .i64 1]))]) ?_ rfl ⟨⟨⟨[],Ty.zero⟩,_,rfl,rfl⟩,?_⟩
  ·simp[results,Tryz.f123,go_sem,y0,y1,y2,y3]
  ·first|exact(ar X2.o (by omega) _ _ _ _).drew
set_option maxRecDepth 512
set_option maxHeartbeats 200000
end Go.Proofs.YtigafbmabjglfaaGreatDoor
