import Derived.Test.YtigafbmabjglfaaGreatDoorJA28
namespace Go.Proofs.YtigafbmabjglfaaGreatDoor
open Go.RowKit
set_option maxRecDepth 10000
set_option maxHeartbeats 8000000
theorem Nq (x:di) (P:Option Addr) (pc:Nat) (preds:List Pd) (L:Option Addr) (lc:Nat) (given:List Tm) (Q:Option Addr) (qc:Nat) (l:List Pd) (hE:nV x preds) (OT:∀q∈preds,q.ty.size≤90000) (VX:∀q∈l,q.ty.size≤90000) (w:World) (he:dJ w x) (hP:bg w P preds) (hL:bm w L given) (hl:bg w Q l) (RR:l.length≤1000000) (hgv:∀t∈given,dt t∧t.size≤3001) :
  Calls Tryz.prog 17 #[eu x,.slice P preds.length pc,.slice L given.length lc,.slice Q l.length qc] w fun e w'=>(∃v,e=.returned v∧nW w' x.af x.insts preds given l v)∧Ext w w':=by
 obtain⟨W,hW⟩:∃W,W=w.alloc (.cells #[.slice x.D x.aA.length x.dc,.slice x.C x.af.length x.cc,.slice x.I x.insts.length x.ic] 26):=⟨_,rfl⟩;have HW:=aa hW.symm;have X0:aiE (Ext w W):=aa (by rw[hW];exact(eR _).alloc _);have B1:aiE (aI W w.heap.size x):=aa (by rw[hW];exact aI.new w x);have bR:aiE (W.heap.size=w.heap.size+1):=aa (by rw[hW];simp);have HQ:=aa hl;have HBy:=aa (fun q (hz:q.ty.size≤90000) w' (e:Ext w w') (h:dH w q)=>aa (Rf x P pc preds hE OT q hz w' (he.ext e) (hP.ext e) (h.ext e)));have HTm:=aa (fun p w' (e:Ext w w') (h:bW w' p) (hz:p.size≤4096) (bT:fR p=true∧jX p=true)=>aa (J4 x P pc preds L lc given hE.pl (fun d hd=>aiM (OT d hd) (by decide)) p (by omega) bT.2 bT.1 w' (he.ext e) (hP.ext e) (hL.ext e) h (vk hgv hz)));have SE:=aa VX;have BM:=aa (fun c (hc:w.heap.size≤c) g hg=>bA (hL.kids g hg) hc);obtain⟨j0,hj,nB,gI,gM⟩:=info_parts nJ;clear hW he hP hL hl hE OT VX hgv;unfold eu at *;go_enter Tryz.func17,Tryz.ntmps17;go_upto_region 1 with fail;rw[HW.o];clear HW;go_wp2
 go_loopw [11,12] (fun v i wr=>∃(k:Nat) (ts:List Tm),k≤l.length∧i=.int .i64 k∧aiE (Ext W wr)∧aiE (JX w wr x.af x.insts preds given l k ts v)) (fun _ i _=>l.length - (intOf i).toNat)
 case atStart=>exact⟨0,[],aiH _,rfl,aa (eR _),aa ⟨World.ownsRow_nil _ _ _ _,by simp,by simp,rfl,fun j h1 h2=>absurd h2 (by simp),X0.o⟩⟩
 case round=>
  obtain⟨k,ts,nX,rfl,HX,HK⟩:=hrel;have hwr:=HK.o.ext.size
  by_cases hlt:k<l.length
  ·have aN:(k:Int)<(l.length:Int):=by omega
   have cV:(0:Int)≤(k:Int):=by omega
   have yN:=HQ.o.all _ (aiF hlt);obtain⟨bq,oq,rfl,Cb,q0,q1,q2,q3⟩:=(HQ.o.ext HK.o.ext).at_ hlt;have HC:=aa (fun w' (e:Ext w w')=>(HBy.o (l[k]'hlt) (SE.o _ (aiF hlt)) w' e yN).o);have Bc:=aa (fun v (n:Int) (hv:v=Value.tuple #[.slice none 0 0,.int .i64 (k:Nat),.int .i64 n]) (hn:n≠0) (ho:iV x.af x.insts preds given (l[k]'hlt) n) (w':World)=>(show nW w' x.af x.insts preds given l v from .inr ⟨k,n,hv,hn,hlt,fun j h1 h2=>⟨_,HK.o.is j h1 (by have:=HK.o.len;omega)⟩,ho⟩));have Ng:=aa (fun w5 w6 v6 t e ht Qk hq=>HK.o.snoc (w5:=w5) (w6:=w6) (v6:=v6) (t:=t) hlt e ht Qk hq);have Mi:=aa yN.ty;have Q8:=aa (fun(p:Pf) (h:mS x.af x.insts preds (l[k]'hlt)=.ok p.pure)=>VV h (SE.o _ (aiF hlt)) p rfl);have yO:=aa (fun(n:Int) (h:mS x.af x.insts preds (l[k]'hlt)=.error n)=>(show iV x.af x.insts preds given (l[k]'hlt) n from .inl h));generalize l[k]'hlt=q at *;obtain⟨n1,e0,e1,e2⟩:=aiI (B1.o.ext HX.o).lt (B1.o.ext HX.o).cells;have ei:=aa (fun w' (e:Ext wr w')=>aiI (B1.o.ext (HX.o.trans e)).cells.1 (aiI (B1.o.ext (HX.o.trans e)).cells.2.1 (aiI (B1.o.ext (HX.o.trans e)).cells.2.2 (aiI (e.cell q0) (aiI (e.cell q1) (aiI (e.cell q2) (e.cell q3)))))));have k0:w.heap.size≠wr.heap.size:=by have:=HX.o.size;have:=bR.o;omega
   have k1:bq≠wr.heap.size:=by omega
   have lH:=aa (yN.ty.ext HK.o.ext);generalize hBR:mS x.af x.insts preds q=BR at *;have VY:=aa hBR;clear yN hBR;unfold fN at HC;go_upto_region 5 with fail
   go_cut [13,14] (fun Ue Su wx=>∃(b13:Nat) (kk:Int) (y:Pf),Ue=.pointer (some ⟨b13,0,none⟩)∧Su=.int .i64 kk∧aiE (tF wr wx b13 q kk y BR))
   case first=>
    go_region_held3 (fun w'=>w'.cell? ⟨w.heap.size,0,none⟩=some (.slice x.D x.aA.length x.dc)∧w'.cell? ⟨w.heap.size,1,none⟩=some (.slice x.C x.af.length x.cc)∧w'.cell? ⟨w.heap.size,2,none⟩=some (.slice x.I x.insts.length x.ic)∧w'.cell? ⟨bq,oq+k*4,none⟩=some (encStr q.cls)∧w'.cell? ⟨bq,oq+k*4+1,none⟩=some (encStr q.ty.aq)∧w'.cell? ⟨bq,oq+k*4+2,none⟩=some (.int .i64 q.ty.var)∧w'.cell? ⟨bq,oq+k*4+3,none⟩=some (.slice q.ty.A q.ty.args.length q.ty.cap)) (first|with_reducible assumption|(obtain⟨g0,g1,g2,g3,g4,g5,g6⟩:=kS;with_reducible exact⟨aM k0 _ _ _ _ g0,aM k0 _ _ _ _ g1,aM k0 _ _ _ _ g2,aM k1 _ _ _ _ g3,aM k1 _ _ _ _ g4,aM k1 _ _ _ _ g5,aM k1 _ _ _ _ g6⟩)|go_keep) (
     (
     go_at_call 36
     refine Calls.mono (HC.o _ (HK.o.ext.trans (by repeat(first|exact eR _|exact eA (by assumption) _|refine eA ?_ _|refine eM ?_ _ _|refine eD ?_|refine eN ?_ _)))) ?_;rintro e y2 ⟨⟨v,rfl,hb⟩,hx⟩;obtain⟨y,kk,rfl,hres⟩:=yU hb;have EA:aiE (Ext wr y2):=aa (by refine Ext.trans ?_ hx;exact(by repeat(first|exact eR _|exact eA (by assumption) _|refine eA ?_ _|refine eM ?_ _ _|refine eD ?_|refine eN ?_ _)));have kS:=ei.o y2 EA.o
     first
      |(have hz0:=aa ((hx.heap (ae (bI wr _))).trans (bI wr _));have z0:=ag hz0.o 0;have z1:=ag hz0.o 1;have z2:=ag hz0.o 2;have z3:=ag hz0.o 3;have z4:=ai hz0.o 0;have z5:=ai hz0.o 1;have z6:=ai hz0.o 2;have z7:=ai hz0.o 3;simp only[aiN,aiO,aiP] at z0 z1 z2 z3)
      |skip
     unfold bM))
    all_goals (go_wp2_with fail;go_meet;first
     |exact⟨_,kk,y,rfl,rfl,aa (tF.behind ((eR wr).drew) hx hres)⟩
     |exact⟨_,kk,y,rfl,rfl,aa (tF.ahead (((eR wr).alloc _).drew) (aiG _) (bI wr _) hx lH.o hres)⟩)
   case rest=>
   obtain⟨b13,kk,p,rfl,rfl,HY⟩:=hcut;have X6:=aa HY.o.x;have hres:=HY.o.res;have Hbx:=aa HY.o.box;clear q0 q1 q2 q3 Cb n1 e0 e1 e2 HC ei k0 k1 HY;cases hb:BR with
   |error n=>
    rw[hb] at hres VY;obtain⟨rfl,hn⟩:=hres;have HO:=aa (yO.o kk hb);have hnb:(kk != 0)=true:=by simpa using hn
    clear Ng Q8 hb yO VY Hbx;go_wp2;go_ret3;exact⟨⟨_,rfl,Bc.o _ kk rfl hn HO.o _⟩,HK.o.ext.trans X6.o⟩
   |ok Q0=>
    rw[hb] at hres VY;obtain⟨rfl,xe,Q9,VS,VT⟩:=hres;have tD:=aa (by rw[VY.o,Q9]:mS x.af x.insts preds q=.ok p.pure);have HF:=aa (Q8.o p (by rw[hb,Q9]));have zq:=aa (fun w' (e:Ext wc w')=>(HTm.o p w' ((HK.o.ext.trans X6.o).trans e) (xe.ext e) VS HF.o).o);obtain⟨A6,c6,hv,-,-,-,-⟩:=ak.own eY (l:=ts) HK.o.own;subst hv;have Nh:=aa HK.o.own;have Um:=X6.o.size;have Vf:=aa HK.o.len;have VU:aiE (∀c,(Value.slice A6 ts.length c6).ownBlock=some c→aJ c p):=aa (fun c hc=>by
     have:=Nh.o.lt c hc;exact VT c (by omega) (aP Mi.o (by omega)))
    have XE:=aa (HX.o.trans X6.o);have XW:=aa (HK.o.ext.trans X6.o);obtain⟨n1,e0,e1,e2⟩:=aiI (B1.o.ext XE.o).lt (B1.o.ext XE.o).cells;obtain⟨d0,d1,d2,d3⟩:=Hbx.o.cells;have d4:=Hbx.o.lt;unfold bM at *;clear xe Q9 VS VT HF Q8 hb VY yO;go_wp2_with fail;refine(zq.o _ (eR wc)).mono ?_;rintro e w8 ⟨⟨t,n,rfl,hw⟩,hx⟩;have X8:aiE (Ext wc w8):=aa hx;have D6:aiE (∀c,(Value.slice A6 ts.length c6).ownBlock=some c→az c t):=aa (fun c hc=>by
     have:=Nh.o.lt c hc;exact hw.away c (by omega) (BM.o c (by omega)) (VU.o c hc))
    have Hw:=aa hw;have hr8:=X8.o.size;clear hw hx zq e0 e1 e2 n1 VU d0 d1 d2 d3 d4
    by_cases hn:n=0
    ·have Hq:aiE (lZ x.af x.insts preds given q t.pure):=aa (by
      rcases Hw.o.o with ⟨h,-⟩|⟨h1,h2,u,h3,⟨-,h4,h5⟩|⟨h,-⟩⟩
      ·omega
      ·exact⟨p,u,tD.o,h1,h2,h3,h5,by rw[h4]⟩
      ·omega)
     have lH:=aa (Hw.o.gZ.ext (((eR w8).alloc (.cells #[.int .i64 t.kind,.int .i64 t.n,encStr t.name,.slice t.V t.vars.length t.vc,.slice t.T t.types.length t.tc,.slice t.A t.kids.length t.cap] 40)).alloc (.cells #[.int .i64 t.kind,.int .i64 t.n,encStr t.name,.slice t.V t.vars.length t.vc,.slice t.T t.types.length t.tc,.slice t.A t.kids.length t.cap] 40)));have O8:=aa (aZ Nh.o (X6.o.trans X8.o));have E8:aiE (Ext wr ((w8.alloc (.cells #[.int .i64 t.kind,.int .i64 t.n,encStr t.name,.slice t.V t.vars.length t.vc,.slice t.T t.types.length t.tc,.slice t.A t.kids.length t.cap] 40)).alloc (.cells #[.int .i64 t.kind,.int .i64 t.n,encStr t.name,.slice t.V t.vars.length t.vc,.slice t.T t.types.length t.tc,.slice t.A t.kids.length t.cap] 40))):=aa (((X6.o.trans X8.o).alloc _).alloc _);have Sq:ts.length≤1000000:=by have:=Vf.o;omega
     clear Hw Bc Nh Mi;subst hn;go_wp2_with (at_builtin;refine aD _ rfl _ _ 28 rfl (w.heap.size+1) 40 j0 _ 6 104 Tryz.underlying28 hj nB gI gM rfl (by decide) (.slice A6 ts.length c6) ts.length (ts.flatMap eY.f) rfl ((O8.o.alloc _).alloc _) _ 1 1 [.int .i64 t.kind,.int .i64 t.n,encStr t.name,.slice t.V t.vars.length t.vc,.slice t.T t.types.length t.tc,.slice t.A t.kids.length t.cap] rfl ?c2 ?c3 ?c4 ?c5 ?c6 ?_)
     case c2=>exact Row.zX _ _ _ _ _ _ (ah _ _ _ (by simp))
     case c3=>first|exact⟨rfl,rfl,rfl,rfl,rfl,rfl⟩|(intro z hz;simp at hz;rcases hz with rfl|rfl|rfl|rfl|rfl|rfl<;>rfl)
     case c4=>unfold maxLen;omega
     case c5=>omega
     case c6=>simp;omega
     intro v4 w9 br hg4 eW;have lQ:=aa (Ng.o _ w9 v4 t E8.o lH.o D6.o Hq.o (by rw[gu,aiL];exact br) hg4 (by
      rcases eW with e|e
      ·exact .inl e
      ·exact .inr (fun c hc=>by rw[e] at hc;injection hc with hc;simp at hc ⊢;omega)))
     have X9:aiE (Ext W w9):=aa ((HX.o.trans E8.o).grown hg4 (fun c hc=>by
      have:=O8.o.lt c hc;have:=bR.o;omega))
     clear br hg4 eW O8 E8 lH Hq D6 HK Ng;go_wp2;go_roundw
     case rel=>exact⟨k+1,ts++[t],hlt,by go_num,X9,lQ⟩
     case measure=>simp[intOf];omega
    ·have mO:((n:Int) != 0)=true:=by simp;omega
     have HO:aiE (iV x.af x.insts preds given q (n:Int)):=aa (.inr ⟨p,t,n,_,_,tD.o,Hw.o,hn,rfl⟩);have hnz:(n:Int)≠0:=by omega
     clear Hw Ng;go_wp2;go_ret3;exact⟨⟨_,rfl,Bc.o _ (n:Int) rfl hnz HO.o _⟩,XW.o.trans (X8.o.trans (by repeat(first|exact eR _|exact eA (by assumption) _|refine eA ?_ _|refine eM ?_ _ _|refine eD ?_|refine eN ?_ _)))⟩
  ·have bS:¬(k:Int)<(l.length:Int):=by omega
   obtain⟨A6,c6,hv,l1,l2,hrow,-⟩:=ak.own eY (l:=ts) HK.o.own;subst hv;have HA:aiE (nW wr x.af x.insts preds given l (.tuple #[.slice A6 ts.length c6,.int .i64 0,.int .i64 0])):=aa (.inl ⟨A6,c6,ts,rfl,l1,l2,⟨hrow,HK.o.gZ⟩,by have:=HK.o.len;omega,fun j h1 h2=>HK.o.is j h1 h2⟩);have XK:=aa HK.o.ext;clear hrow HK;go_wp2;go_ret3;exact⟨⟨_,rfl,HA.o⟩,XK.o⟩
theorem wT (A:Option Addr) (cap:Nat) (l:List Pd) (w:World) (h:bg w A l):Calls Tryz.prog 14 #[.slice A l.length cap] w fun e w'=>(∃r:Int,e=.returned (.int .i64 r)∧(r=0∨(r=1∧l.length≤30∧FD l≤20000)))∧Ext w w':=by
 obtain⟨i1,hj,nB,gI,gM⟩:=info_parts nH;have HP:aiE (aF (l.map Pd.ty)=FD l):=aa (by unfold aF FD;simp[Function.comp_def]);have H:=aa h;clear h
 by_cases hn:(30:Int)<(l.length:Int)
 ·go_enter Tryz.func14,Tryz.ntmps14;go_wp2;go_ret;exact⟨⟨0,rfl,.inl rfl⟩,eR _⟩
 have GS:(l.length:Int)≤30:=by omega
 go_enter Tryz.func14,Tryz.ntmps14;go_wp2
 go_loopw [3,4] (fun v i wr=>∃k:Nat,k≤l.length∧i=.int .i64 k∧aiE (Ext w wr)∧aiE (wr.ownsRow w.heap.size 53 3 v ((l.take k).map Pd.ty).length (((l.take k).map Pd.ty).flatMap dr.f))) (fun _ i _=>l.length - (intOf i).toNat)
 case atStart=>exact⟨0,aiH _,rfl,aa (eR _),aa (World.ownsRow_nil _ _ _ _)⟩
 case round=>
  obtain⟨k,hk,rfl,HX,HO⟩:=hrel
  by_cases hlt:k<l.length
  ·have aN:(k:Int)<(l.length:Int):=by omega
   have cV:(0:Int)≤(k:Int):=by omega
   obtain⟨b,o,rfl,hb,q0,q1,q2,q3⟩:=(H.o.ext HX.o).at_ hlt;have dh:aiE ((l.take (k+1)).map Pd.ty=(l.take k).map Pd.ty++[(l[k]'hlt).ty]):=aa (by rw[aiJ hlt,aiX];rfl);have hLk:((l.take k).map Pd.ty).length≤30:=by simp;omega
   generalize l[k]'hlt=x at *;generalize (l.take k).map Pd.ty=L at *;obtain⟨A6,c6,rfl,-,-,-,-⟩:=ak.own dr (l:=L) HO.o;have VZ:=HX.o.size;go_wp2_with (at_builtin;refine aD _ rfl _ _ 31 rfl w.heap.size 53 i1 _ 3 48 Tryz.underlying31 hj nB gI gM rfl (by decide) (.slice A6 L.length c6) L.length (L.flatMap dr.f) rfl (HO.o.alloc _) _ 1 1 [encStr x.ty.aq,.int .i64 x.ty.var,.slice x.ty.A x.ty.args.length x.ty.cap] rfl ?c2 ?c3 ?c4 ?c5 ?c6 ?_)
   case c2=>exact Row.WZ _ _ _ (ah _ _ _ rfl)
   case c3=>
    intro y hy;simp at hy
    rcases hy with rfl|rfl|rfl<;>rfl
   case c4=>unfold maxLen;omega
   case c5=>omega
   case c6=>simp;omega
   intro v4 w4 br hg4 eW;have X4:=aa (Ext.app (HX.o.alloc _) hg4 (HO.o.alloc _) (aiG _));have O4:aiE (w4.ownsRow w.heap.size 53 3 v4 ((l.take (k+1)).map Pd.ty).length (((l.take (k+1)).map Pd.ty).flatMap dr.f)):=aa (by rw[dh.o,kY,aiL];exact br);clear br hg4 eW;go_wp2;go_roundw
   case rel=>exact⟨k+1,hlt,by go_num,X4,O4⟩
   case measure=>simp[intOf];omega
  ·have bS:¬(k:Int)<(l.length:Int):=by omega
   have kA:aiE (wr.ownsRow w.heap.size 53 3 u3 (l.map Pd.ty).length ((l.map Pd.ty).flatMap dr.f)):=aa (by have:=HO.o;rwa [aiK (by omega)] at this);have hL:(l.map Pd.ty).length≤30:=by simp;omega
   have V0:∀t∈l.map Pd.ty,aH wr t:=by
    intro t ht;obtain⟨p,hp,rfl⟩:=List.mem_map.1 ht;exact(H.o.all p hp).ty.ext HX.o
   have Nk:l.length≤30:=by omega
   have HR0:aiE (∀r:Int,(r=0∨(r=1∧aF (l.map Pd.ty)≤20000))→(r=0∨(r=1∧l.length≤30∧FD l≤20000))):=aa (by
    rintro r (rfl|⟨rfl,h⟩)
    ·exact .inl rfl
    ·exact .inr ⟨rfl,Nk,by rw[←HP.o];exact h⟩)
   generalize l.map Pd.ty=L at *;obtain⟨A6,c6,rfl,d1,d2,d3,-⟩:=ak.own dr (l:=L) kA.o;have HF:=aa (vr A6 c6 L wr ⟨d3,V0⟩ (by omega));clear V0 d3;go_wp2_with fail;refine HF.o.mono ?_;rintro e w5 ⟨⟨r,rfl,hr⟩,hx⟩;have HR:=aa (HR0.o r (hr.imp id (fun h=>⟨h.1,h.2.1⟩)));clear hr;go_wp2;go_ret;exact⟨⟨r,rfl,HR.o⟩,HX.o.trans hx⟩
theorem Nr (A:Option Addr) (cap:Nat) (l:List cL) (w:World) (h:iJ w A l):Calls Tryz.prog 38 #[.slice A l.length cap] w fun e w'=>(∃r:Int,e=.returned (.int .i64 r)∧(r=0∨(r=1∧l.length≤12∧∀x∈l,x.preds.length≤30∧FD x.preds≤20000∧x.n≤200)))∧Ext w w':=by
 have H:=aa h;clear h
 by_cases hn:(12:Int)<(l.length:Int)
 ·go_enter Tryz.func38,Tryz.ntmps38;go_wp2;go_ret;exact⟨⟨0,rfl,.inl rfl⟩,eR _⟩
 have GS:(l.length:Int)≤12:=by omega
 go_enter Tryz.func38,Tryz.ntmps38;go_wp2
 go_loopw [3] (fun i wr=>∃k:Nat,k≤l.length∧i=.int .i64 k∧aiE (Ext w wr)∧aiE (∀j (h:j<l.length),j<k→(l[j]'h).preds.length≤30∧FD (l[j]'h).preds≤20000∧(l[j]'h).n≤200)) (fun i _=>l.length - (intOf i).toNat)
 case atStart=>exact⟨0,aiH _,rfl,aa (eR _),aa (fun j _ hj=>absurd hj (by omega))⟩
 case round=>
  obtain⟨k,hk,rfl,HX,HJ⟩:=hrel
  by_cases hlt:k<l.length
  ·have aN:(k:Int)<(l.length:Int):=by omega
   have cV:(0:Int)≤(k:Int):=by omega
   obtain⟨b,o,rfl,hb,q0,q1,q2,q3⟩:=(H.o.ext HX.o).at_ hlt;have HF:=aa (wT (l[k]'hlt).A (l[k]'hlt).cap (l[k]'hlt).preds wr ((H.o.all _ (aiF hlt)).row.ext HX.o));have HS:aiE ((l[k]'hlt).preds.length≤30→FD (l[k]'hlt).preds≤20000→(l[k]'hlt).n≤200→∀j (h:j<l.length),j<k+1→(l[j]'h).preds.length≤30∧FD (l[j]'h).preds≤20000∧(l[j]'h).n≤200):=aa (fun h1 h2 h3 j hj hjk=>by
    by_cases e:j=k
    ·subst e;exact⟨h1,h2,h3⟩
    ·exact HJ.o j hj (by omega))
   generalize l[k]'hlt=x at *;go_wp2_with fail;refine HF.o.mono ?_;rintro e w2 ⟨⟨r,rfl,hr⟩,hx⟩;have X2:=aa (HX.o.trans hx);have q2':=hx.cell q2;have hb2:b<w2.heap.size:=by have:=hx.size;omega
   rcases hr with rfl|⟨rfl,h1,h2⟩
   ·go_wp2;go_ret;exact⟨⟨0,rfl,.inl rfl⟩,X2.o⟩
   ·have NT:=aa h1;have NU:=aa h2;clear hx h1 h2
    by_cases h3:(200:Int)<x.n
    ·go_wp2;go_ret;exact⟨⟨0,rfl,.inl rfl⟩,X2.o⟩
    ·have N3:x.n≤200:=by omega
     go_wp2;go_roundw
     case rel=>exact⟨k+1,hlt,by go_num,X2,aa (HS.o NT.o NU.o N3)⟩
     case measure=>simp[intOf];omega
  ·have bS:¬(k:Int)<(l.length:Int):=by omega
   have HA:aiE (l.length≤12∧∀x∈l,x.preds.length≤30∧FD x.preds≤20000∧x.n≤200):=aa ⟨by omega,fun x hx=>by
    obtain⟨i,hi,rfl⟩:=List.getElem_of_mem hx;exact HJ.o i hi (by omega)⟩
   go_wp2;go_ret;exact⟨⟨1,rfl,.inr ⟨rfl,HA.o⟩⟩,HX.o⟩
theorem Ns (A:Option Addr) (cap:Nat) (l:List dY) (w:World) (h:lG w A l):Calls Tryz.prog 37 #[.slice A l.length cap] w fun e w'=>(∃r:Int,e=.returned (.int .i64 r)∧(r=0∨(r=1∧l.length≤9∧∀x∈l,x.cQ.length≤9)))∧Ext w w':=by
 have H:=aa h;clear h
 by_cases hn:(9:Int)<(l.length:Int)
 ·go_enter Tryz.func37,Tryz.ntmps37;go_wp2;go_ret;exact⟨⟨0,rfl,.inl rfl⟩,eR _⟩
 have GS:(l.length:Int)≤9:=by omega
 go_enter Tryz.func37,Tryz.ntmps37;go_wp2
 go_loopw [3] (fun i wr=>∃k:Nat,k≤l.length∧i=.int .i64 k∧aiE (Ext w wr)∧aiE (∀j (h:j<l.length),j<k→(l[j]'h).cQ.length≤9)) (fun i _=>l.length - (intOf i).toNat)
 case atStart=>exact⟨0,aiH _,rfl,aa (eR _),aa (fun j _ hj=>absurd hj (by omega))⟩
 case round=>
  obtain⟨k,hk,rfl,HX,HJ⟩:=hrel
  by_cases hlt:k<l.length
  ·have aN:(k:Int)<(l.length:Int):=by omega
   have cV:(0:Int)≤(k:Int):=by omega
   obtain⟨b,o,rfl,hb,q0,q1,q2⟩:=(H.o.ext HX.o).at_ hlt;have HS:aiE ((l[k]'hlt).cQ.length≤9→∀j (h:j<l.length),j<k+1→(l[j]'h).cQ.length≤9):=aa (fun h1 j hj hjk=>by
    by_cases e:j=k
    ·subst e;exact h1
    ·exact HJ.o j hj (by omega))
   generalize l[k]'hlt=x at *
   by_cases h3:(9:Int)<(x.cQ.length:Int)
   ·go_wp2;go_ret;exact⟨⟨0,rfl,.inl rfl⟩,HX.o⟩
   ·have N3:(x.cQ.length:Int)≤9:=by omega
    go_wp2;go_roundw
    case rel=>exact⟨k+1,hlt,by go_num,HX,aa (HS.o (by omega))⟩
    case measure=>simp[intOf];omega
  ·have bS:¬(k:Int)<(l.length:Int):=by omega
   have HA:aiE (l.length≤9∧∀x∈l,x.cQ.length≤9):=aa ⟨by omega,fun x hx=>by
    obtain⟨i,hi,rfl⟩:=List.getElem_of_mem hx;exact HJ.o i hi (by omega)⟩
   go_wp2;go_ret;exact⟨⟨1,rfl,.inr ⟨rfl,HA.o⟩⟩,HX.o⟩
theorem Nt (A:Option Addr) (cap:Nat) (n:Nat) (w:World):Calls Tryz.prog 39 #[.slice A n cap] w fun e w'=>(∃r:Int,e=.returned (.int .i64 r)∧(r=0∨(r=1∧n≤20)))∧Ext w w':=by
 by_cases hn:(20:Int)<(n:Int)
 ·go_enter Tryz.func39,Tryz.ntmps39;go_wp2;go_ret;exact⟨⟨0,rfl,.inl rfl⟩,eR _⟩
 ·have GS:(n:Int)≤20:=by omega
  have mO:n≤20:=by omega
  go_enter Tryz.func39,Tryz.ntmps39;go_wp2;go_ret
  first|exact⟨⟨1,rfl,.inr ⟨rfl,mO⟩⟩,eR _⟩|exact⟨⟨1,rfl,.inr rfl⟩,eR _⟩
structure Nu (x:di):Prop where
 cls:x.af.length≤9
 cQ:∀c∈x.af,c.cQ.length≤9
 ins:x.insts.length≤12
 pds:∀i∈x.insts,i.preds.length≤30∧FD i.preds≤20000∧i.n≤200
theorem yV (x:di) (w:World) (h:dJ w x):Calls Tryz.prog 19 #[eu x] w fun e w'=>(∃r:Int,e=.returned (.int .i64 r)∧(r=0∨(r=1∧Nu x)))∧Ext w w':=by
 obtain⟨W,hW⟩:∃W,W=w.alloc (.cells #[.slice x.D x.aA.length x.dc,.slice x.C x.af.length x.cc,.slice x.I x.insts.length x.ic] 26):=⟨_,rfl⟩;have HW:=aa hW.symm;have X0:aiE (Ext w W):=aa (by rw[hW];exact(eR _).alloc _);have B1:aiE (aI W w.heap.size x):=aa (by rw[hW];exact aI.new w x);have HK:=aa (Ns x.C x.cc x.af W (h.af.ext X0.o));have HI:=aa (fun w' (e:Ext W w')=>Nr x.I x.ic x.insts w' (h.insts.ext (X0.o.trans e)));obtain⟨c0,c1,c2⟩:=B1.o.cells;have hb:=B1.o.lt;clear h hW;unfold eu;go_enter Tryz.func19,Tryz.ntmps19;go_upto_region 1 with fail;rw[HW.o];go_wp2_with fail;refine HK.o.mono ?_;rintro e w2 ⟨⟨r,rfl,hr⟩,hx⟩;have X2:=aa (X0.o.trans hx)
 rcases hr with rfl|⟨rfl,h1,h2⟩
 ·go_wp2;go_ret;exact⟨⟨0,rfl,.inl rfl⟩,X2.o⟩
 ·have H1:=aa h1;have H2:=aa h2;have ky:=aa (HI.o w2 hx);have d2:=hx.cell c2;have hb2:w.heap.size<w2.heap.size:=by have:=hx.size;omega
  clear h1 h2 hx;go_wp2_with fail;refine ky.o.mono ?_;rintro e w3 ⟨⟨r,rfl,hr⟩,hx3⟩;have X3:=aa (X2.o.trans hx3)
  rcases hr with rfl|⟨rfl,h3,h4⟩
  ·go_wp2;go_ret;exact⟨⟨0,rfl,.inl rfl⟩,X3.o⟩
  ·have H3:=aa h3;have H4:=aa h4;clear h3 h4;go_wp2;go_ret;exact⟨⟨1,rfl,.inr ⟨rfl,H1.o,H2.o,H3.o,H4.o⟩⟩,X3.o⟩
set_option maxRecDepth 512
set_option maxHeartbeats 200000
theorem CC (l:List Ty):∀u∈l.flatMap dr.f,u.oneCell'=true:=by
 intro u hu;obtain⟨x,-,hx⟩:=List.mem_flatMap.1 hu;simp[dr,Ty.cells] at hx
 rcases hx with rfl|rfl|rfl<;>rfl
def tG (l:List xp):List Ty:=l.flatMap xp.types
def Bf (l:List pF):List Ty:=l.flatMap fun d=>tG d.cons
def wU (l:List vy):List Ty:=l.map vy.ty
def sA (l:List dY):List Ty:=l.flatMap fun c=>wU c.bf
theorem J5 (l:List xp){k:Nat}(h:k<l.length):tG (l.take (k+1))=tG (l.take k)++(l[k]'h).types:=by
 unfold tG;rw[aiJ h,List.flatMap_append];simp
theorem J6 (l:List pF){k:Nat}(h:k<l.length):Bf (l.take (k+1))=Bf (l.take k)++tG (l[k]'h).cons:=by
 unfold Bf;rw[aiJ h,List.flatMap_append];simp
theorem J7 (l:List vy){k:Nat}(h:k<l.length):wU (l.take (k+1))=wU (l.take k)++[(l[k]'h).ty]:=by
 unfold wU;rw[aiJ h,aiX];rfl
theorem J8 (l:List dY){k:Nat}(h:k<l.length):sA (l.take (k+1))=sA (l.take k)++wU (l[k]'h).bf:=by
 unfold sA;rw[aiJ h,List.flatMap_append];simp
theorem CD (l m:List Ty):aF (l++m)=aF l+aF m:=by unfold aF;rw[aiX,List.sum_append]
theorem rZ {α:Type}(f:α→List Ty){x:α}:∀ {l:List α},x∈l→aF (f x)≤aF (l.flatMap f):=by
 intro l
 induction l with
 |nil=>intro h;cases h
 |cons y l ih=>
  intro h;rw[List.flatMap_cons,CD]
  rcases List.mem_cons.1 h with rfl|h
  ·omega
  ·have:=ih h;omega
theorem Nv {x:Ty}:∀ {l:List Ty},x∈l→x.size≤aF l:=by
 intro l
 induction l with
 |nil=>intro h;cases h
 |cons y l ih=>
  intro h;have e:aF (y :: l)=y.size+aF l:=rfl
  rcases List.mem_cons.1 h with rfl|h
  ·omega
  ·have:=ih h;omega
structure J9 (x:di):Prop where
 env:Nu x
 ds:x.aA.length≤20
 da:∀d∈x.aA,Ux d
 kl:∀c∈x.af,c.bf.length≤30∧∀m∈c.bf,m.n≤100∧m.ty.size≤20000
def Fg (d:pF):Prop:=d.n≤100∧d.cons.length≤30∧∀c∈d.cons,c.types.length≤30
def Ka (c:dY):Prop:=c.bf.length≤30∧∀m∈c.bf,m.n≤100
theorem J9.of {x:di}(h1:Nu x) (h2:x.aA.length≤20) (h3:∀j (h:j<x.aA.length),Fg (x.aA[j]'h)) (h4:∀j (h:j<x.af.length),Ka (x.af[j]'h)) (h5:aF (Bf x.aA++sA x.af)≤20000):J9 x:=by
 rw[CD] at h5;refine⟨h1,h2,fun d hd => ?_,fun c hc => ?_⟩
 ·obtain⟨j,hj,rfl⟩:=List.getElem_of_mem hd;obtain⟨a,b,c⟩:=h3 j hj;refine⟨a,b,fun y hy=>⟨c y hy,?_⟩⟩;have g1:aF (tG (x.aA[j]'hj).cons)≤aF (Bf x.aA):=rZ (fun d:pF=>tG d.cons) hd;have g2:aF y.types≤aF (tG (x.aA[j]'hj).cons):=rZ xp.types hy;show aF y.types≤20000;omega
 ·obtain⟨j,hj,rfl⟩:=List.getElem_of_mem hc;obtain⟨a,b⟩:=h4 j hj;refine⟨a,fun m hm=>⟨b m hm,?_⟩⟩;have g1:aF (wU (x.af[j]'hj).bf)≤aF (sA x.af):=rZ (fun c:dY=>wU c.bf) hc;have g2:m.ty.size≤aF (wU (x.af[j]'hj).bf):=Nv (List.mem_map.2 ⟨m,hm,rfl⟩);omega
structure jn (B:Nat) (w wr:World) (v:Value) (L:List Ty):Prop where
 x:Ext w wr
 own:wr.ownsRow B 53 3 v L.length (L.flatMap dr.f)
theorem jn.to {B:Nat}{w wr w':World}{v:Value}{L:List Ty}(h:jn B w wr v L) (e:Ext wr w'):jn B w w' v L:=⟨h.x.trans e,aZ h.own e⟩
structure V3 (g:Nat) (d:pF) (wr:World) (v:Value):Prop where
 box:ni wr g d
 ne:v.ownBlock≠some g
theorem V3.app {g:Nat}{d:pF}{wr w':World}{v v':Value}(h:V3 g d wr v) (hg:wr.grownBy w' v.ownBlock) (ha:v'.ownBlock=v.ownBlock∨v'.ownBlock=some wr.heap.size):V3 g d w' v':=by
 have hl:=h.box.lt;refine⟨(hg.block g hl (fun e=>h.ne e.symm)).trans h.box,fun e => ?_⟩
 rcases ha with ha|ha
 ·exact h.ne (ha▸e)
 ·rw[ha] at e;injection e with e;omega
set_option maxRecDepth 10000
set_option maxHeartbeats 8000000
theorem Nw (x:di) (w:World) (h:dJ w x) (Kb:∀c∈x.af,c.bf.length≤2000000000000):Calls Tryz.prog 20 #[eu x] w fun e w'=>(∃r:Int,e=.returned (.int .i64 r)∧(r=0∨(r=1∧J9 x)))∧Ext w w':=by
 obtain⟨i1,hj,nB,gI,gM⟩:=info_parts nH;obtain⟨W,hW⟩:∃W,W=w.alloc (.cells #[.slice x.D x.aA.length x.dc,.slice x.C x.af.length x.cc,.slice x.I x.insts.length x.ic] 26):=⟨_,rfl⟩;have HW:=aa hW.symm;have X0:aiE (Ext w W):=aa (by rw[hW];exact(eR _).alloc _);have B1:aiE (aI W w.heap.size x):=aa (by rw[hW];exact aI.new w x);have HE:=aa (yV x W (h.ext X0.o));have HD:=aa h.aA;have HK:=aa h.af;have XH:=aa Kb;have HOf:=aa (@J9.of x);have V4:aiE (∀t∈Bf x.aA++sA x.af,aH w t):=aa (fun t ht=>by
  rcases List.mem_append.1 ht with ht|ht
  ·obtain⟨d,hd,ht⟩:=List.mem_flatMap.1 ht;obtain⟨c,hc,ht⟩:=List.mem_flatMap.1 ht;exact((h.aA.all d hd).row.all c hc).row.args t ht
  ·obtain⟨c,hc,ht⟩:=List.mem_flatMap.1 ht;obtain⟨m,hm,rfl⟩:=List.mem_map.1 ht;exact((h.af.all c hc).row.all m hm).row)
 obtain⟨c0,c1,c2⟩:=B1.o.cells;have hb:=B1.o.lt;have hdm:=h.S6;have N2:=h.dle;have cB:=h.Lu;have nX:=h.Ww;clear h hW Kb;unfold eu at *;go_enter Tryz.func20,Tryz.ntmps20;go_upto_region 1 with fail;rw[HW.o];clear HW;go_wp2_with fail;refine HE.o.mono ?_;rintro e w2 ⟨⟨r,rfl,hr⟩,hx⟩;have X2:=aa (X0.o.trans hx);have Y2:=aa hx
 rcases hr with rfl|⟨rfl,hr⟩
 ·go_wp2;go_ret;exact⟨⟨0,rfl,.inl rfl⟩,X2.o⟩
 have HF:=aa hr;have d0:=hx.cell c0;have hb2:w.heap.size<w2.heap.size:=by have:=hx.size;omega
 have qD:=hr.cls;have H27:=aa (Nt x.D x.dc x.aA.length w2);clear hx hr HE c0 c1 c2;go_wp2_with fail;refine H27.o.mono ?_;rintro e w3 ⟨⟨r,rfl,hr⟩,hx⟩;have X3:=aa (X2.o.trans hx);have Y3:=aa (Y2.o.trans hx)
 rcases hr with rfl|⟨rfl,mQ⟩
 ·go_wp2;go_ret;exact⟨⟨0,rfl,.inl rfl⟩,X3.o⟩
 clear hx H27 d0 hb2;have qE:=aa (fun w' (e:Ext w3 w')=>(B1.o.ext (Y3.o.trans e)));have R0:aiE (jn w3.heap.size w3 w3 (.slice none 0 0) (Bf (x.aA.take 0))):=aa ⟨eR _,World.ownsRow_nil _ _ _ _⟩;obtain⟨n3,KQ⟩:∃n3,n3=w3.heap.size:=⟨_,rfl⟩;rw[←KQ] at R0;have V6:=aa KQ;have RX:w.heap.size<n3:=by rw[KQ];exact(qE.o w3 (eR _)).lt
 clear KQ;go_wp2
 go_loopw [3,4] (fun v i wr=>∃k:Nat,k≤x.aA.length∧i=.int .i64 k∧aiE (jn n3 w3 wr v (Bf (x.aA.take k)))∧(Bf (x.aA.take k)).length≤900*k∧aiE (∀j (h:j<x.aA.length),j<k→Fg (x.aA[j]'h))) (fun _ i _=>x.aA.length - (intOf i).toNat)
 case atStart=>exact⟨0,aiH _,rfl,R0,by simp[Bf],aa (fun j _ hj=>absurd hj (by omega))⟩
 case round=>
  obtain⟨k,hk,rfl,HR,hlen,HJ⟩:=hrel;obtain⟨e0,e1,e2⟩:=(qE.o wr HR.o.x).cells;have hbr:=(qE.o wr HR.o.x).lt
  by_cases hlt:k<x.aA.length
  ·have aN:(k:Int)<(x.aA.length:Int):=by omega
   have cV:(0:Int)≤(k:Int):=by omega
   obtain⟨b,o,hA,hb4,q0,q1,q2⟩:=(HD.o.ext (X3.o.trans HR.o.x)).at_ hlt;have Mm:=aa (HD.o.all _ (aiF hlt));have dh:=aa (J6 x.aA hlt);have jU:aiE (Fg (x.aA[k]'hlt)→∀j (h:j<x.aA.length),j<k+1→Fg (x.aA[j]'h)):=aa (fun h1 j hj hjk=>by
    by_cases e:j=k
    ·subst e;exact h1
    ·exact HJ.o j hj (by omega))
   generalize x.aA[k]'hlt=d at *;obtain⟨dn,dk,DA,yX,cons⟩:=d;have aa3:=Mm.o.le;have aa4:=Mm.o.max;simp only[] at *;obtain⟨WB,BS⟩:∃WB,WB=wr.alloc (.cells #[encStr dn,.int .i64 dk,.slice DA cons.length yX] 99):=⟨_,rfl⟩;have HWB:=aa BS.symm;have XB:aiE (Ext wr WB):=aa (by rw[BS];exact(eR _).alloc _);have Sw:aiE (ni WB wr.heap.size ⟨dn,dk,DA,yX,cons⟩):=aa (by rw[BS];exact ni.new wr ⟨dn,dk,DA,yX,cons⟩);clear BS;rw[hA] at e0;have zZ:aiE ((Bf (x.aA.take (k+1))).length=(Bf (x.aA.take k)).length+(tG cons).length):=aa (by rw[dh.o,aiL]);go_upto_region 8 with fail;rw[HWB.o];obtain⟨f0,f1,f2⟩:=Sw.o.cells;have hbB:=Sw.o.lt;have HCo:=aa Mm.o.row;simp only[] at HCo f0 f1 f2;have Lh:=aa (HR.o.to XB.o);clear HWB hA q0 q1 q2 e0 e1 e2
   by_cases h1:(100:Int)<dk
   ·go_wp2;go_ret;exact⟨⟨0,rfl,.inl rfl⟩,X3.o.trans Lh.o.x⟩
   have NT:dk≤100:=by omega
   by_cases h2:(30:Int)<(cons.length:Int)
   ·go_wp2;go_ret;exact⟨⟨0,rfl,.inl rfl⟩,X3.o.trans Lh.o.x⟩
   have NU:(cons.length:Int)≤30:=by omega
   generalize hgb:wr.heap.size=gB at *;have Hgb:=aa hgb;have L5:n3≤gB:=by have:=HR.o.x.size;have:=V6.o;have:=Hgb.o;omega
   clear hgb;generalize hL:Bf (x.aA.take k)=L at *;clear hL;have aa6:aiE (jn n3 w3 WB u3 (L++tG (cons.take 0))):=aa (by rw[List.take_zero];simpa [tG] using Lh.o);have HDx:aiE (V3 gB ⟨dn,dk,DA,yX,cons⟩ WB u3):=aa ⟨Sw.o,fun e=>by
    have h1:=(HR.o.own.lt _ e).2;have h2:=Hgb.o;omega⟩
   clear Lh HR;go_wp2
   go_loopw [3,6] (fun v i wr=>∃m:Nat,m≤cons.length∧i=.int .i64 m∧aiE (jn n3 w3 wr v (L++tG (cons.take m)))∧aiE (V3 gB ⟨dn,dk,DA,yX,cons⟩ wr v)∧(tG (cons.take m)).length≤30*m∧aiE (∀j (h:j<cons.length),j<m→(cons[j]'h).types.length≤30)) (fun _ i _=>cons.length - (intOf i).toNat)
   case atStart=>exact⟨0,aiH _,rfl,aa6,HDx,by simp[tG],aa (fun j _ hj=>absurd hj (by omega))⟩
   case round=>
    obtain⟨m,hm,rfl,HS,HY,iu,HI⟩:=hrel;obtain⟨f0,f1,f2⟩:=HY.o.box.cells;have hbY:=HY.o.box.lt;simp only[] at f0 f1 f2
    by_cases FQ:m<cons.length
    ·have aa7:(m:Int)<(cons.length:Int):=by omega
     have NZ:(0:Int)≤(m:Int):=by omega
     obtain⟨b2,o2,rfl,N0,r0,r1⟩:=(HCo.o.ext (X3.o.trans HS.o.x)).at_ FQ;have HCm:=aa ((HCo.o.ext (X3.o.trans HS.o.x)).all _ (aiF FQ));have Dh:=aa (J5 cons FQ);have ky:aiE ((cons[m]'FQ).types.length≤30→∀j (h:j<cons.length),j<m+1→(cons[j]'h).types.length≤30):=aa (fun h1 j hj hjk=>by
      by_cases e:j=m
      ·subst e;exact h1
      ·exact HI.o j hj (by omega))
     generalize cons[m]'FQ=c at *
     by_cases h3:(30:Int)<(c.types.length:Int)
     ·go_wp2;go_ret;exact⟨⟨0,rfl,.inl rfl⟩,X3.o.trans HS.o.x⟩
     have N3:(c.types.length:Int)≤30:=by omega
     have agL:=HCm.o.le;have HTr:=aa HCm.o.row.row;have Rg:aiE (L++tG (cons.take (m+1))=(L++tG (cons.take m))++c.types):=aa (by rw[Dh.o,List.append_assoc]);have aa8:aiE ((tG (cons.take (m+1))).length=(tG (cons.take m)).length+c.types.length):=aa (by rw[Dh.o,aiL]);have hLM:(L++tG (cons.take m)).length≤18900:=by rw[aiL];omega
     generalize hM:L++tG (cons.take m)=M at *;clear hM;obtain⟨A6,c6,rfl,-,-,-,-⟩:=ak.own dr (l:=M) HS.o.own;have aa9:=HS.o.x.size;have V7:=aa HS.o.own;go_wp2_with (at_builtin;refine aD _ rfl _ _ 31 rfl n3 53 i1 _ 3 48 Tryz.underlying31 hj nB gI gM rfl (by decide) (.slice A6 M.length c6) M.length (M.flatMap dr.f) rfl V7.o c.A c.types.length c.cap (c.types.flatMap dr.f) rfl ?c2 ?c3 ?c4 ?c5 ?c6 ?_)
     case c2=>exact HTr.o
     case c3=>first|exact CC _|exact fun u x hx hu=>CC c.types u (List.mem_flatMap.2 ⟨x,hx,hu⟩)
     case c4=>unfold maxLen;omega
     case c5=>omega
     case c6=>have:=V6.o;omega
     intro v4 w4 br hg4 eW;have HY4:=aa (HY.o.app hg4 eW);have R4:aiE (jn n3 w3 w4 v4 (L++tG (cons.take (m+1)))):=aa ⟨Ext.app HS.o.x hg4 V7.o (by have:=V6.o;omega),by rw[Rg.o,aiL,List.flatMap_append];exact br⟩;clear br hg4 eW;go_wp2;go_roundw
     case rel=>exact⟨m+1,FQ,by go_num,R4,HY4,by have:=aa8.o;omega,aa (ky.o (by omega))⟩
     case measure=>simp[intOf];omega
    ·have bS:¬(m:Int)<(cons.length:Int):=by omega
     have kZ:aiE (Fg ⟨dn,dk,DA,yX,cons⟩):=aa ⟨NT,by show cons.length≤30;omega,fun c hc=>by
      obtain⟨j,hj,rfl⟩:=List.getElem_of_mem hc;have hj':j<cons.length:=hj;exact HI.o j hj' (by omega)⟩
     have e9:cons.take m=cons:=aiK (by omega);rw[e9] at HS iu;rw[←dh.o] at HS;clear e9;go_wp2;go_roundw
     case rel=>exact⟨k+1,hlt,by go_num,HS,by have:=zZ.o;omega,aa (jU.o kZ.o)⟩
     case measure=>simp[intOf];omega
  ·have bS:¬(k:Int)<(x.aA.length:Int):=by omega
   have Ih:aiE (∀j (h:j<x.aA.length),Fg (x.aA[j]'h)):=aa (fun j hj=>HJ.o j hj (by omega));have e9:x.aA.take k=x.aA:=aiK (by omega);rw[e9] at HR hlen;have hlD:(Bf x.aA).length≤18000:=by omega
   have HRX:=aa (qE.o wr HR.o.x);generalize hLD:Bf x.aA=L at *;have HLD:=aa hLD;have S0:aiE (jn n3 w3 wr u3 (L++sA (x.af.take 0))):=aa (by rw[List.take_zero];simpa [sA] using HR.o);clear e9 hlen HJ HR hLD HD;go_wp2;rename World=>wA
   go_loopw [3,7] (fun v i wr=>∃k:Nat,k≤x.af.length∧i=.int .i64 k∧aiE (jn n3 w3 wr v (L++sA (x.af.take k)))∧(sA (x.af.take k)).length≤30*k∧aiE (∀j (h:j<x.af.length),j<k→Ka (x.af[j]'h))) (fun _ i _=>x.af.length - (intOf i).toNat)
   case atStart=>exact⟨0,aiH _,rfl,S0,by simp[sA],aa (fun j _ hj=>absurd hj (by omega))⟩
   case round=>
    obtain⟨k,hk,rfl,HR,hlen,HJ⟩:=hrel;obtain⟨e0,e1,e2⟩:=(qE.o wr HR.o.x).cells;have hbr:=(qE.o wr HR.o.x).lt
    by_cases hlt:k<x.af.length
    ·have aN:(k:Int)<(x.af.length:Int):=by omega
     have cV:(0:Int)≤(k:Int):=by omega
     obtain⟨b,o,hA,hb4,q0,q1,q2⟩:=(HK.o.ext (X3.o.trans HR.o.x)).at_ hlt;have FA:=aa (HK.o.all _ (aiF hlt));have jt:=XH.o _ (aiF hlt);have dh:=aa (J8 x.af hlt);have jU:aiE (Ka (x.af[k]'hlt)→∀j (h:j<x.af.length),j<k+1→Ka (x.af[j]'h)):=aa (fun h1 j hj hjk=>by
      by_cases e:j=k
      ·subst e;exact h1
      ·exact HJ.o j hj (by omega))
     generalize x.af[k]'hlt=d at *;obtain⟨dn,S,sc,cQ,DA,yX,bf⟩:=d;have aa3:=FA.o.le;have aa4:=FA.o.max;have HMe:=aa FA.o.row;simp only[] at *;rw[hA] at e1;have zZ:aiE ((sA (x.af.take (k+1))).length=(sA (x.af.take k)).length+bf.length):=aa (by rw[dh.o,aiL];simp[wU]);have WH:aiE (jn n3 w3 wr u3 ((L++sA (x.af.take k))++wU (bf.take 0))):=aa (by rw[List.take_zero];simpa [wU] using HR.o);have aba:aiE (L++sA (x.af.take (k+1))=(L++sA (x.af.take k))++wU bf):=aa (by rw[dh.o,List.append_assoc]);have hLM:(L++sA (x.af.take k)).length≤18300:=by rw[aiL];omega
     generalize hM:L++sA (x.af.take k)=M at *;clear hM hA;go_wp2
     go_loopw [3,9] (fun v i wr=>∃m:Nat,m≤bf.length∧i=.int .i64 m∧aiE (jn n3 w3 wr v (M++wU (bf.take m)))∧aiE (∀j (h:j<bf.length),j<m→(bf[j]'h).n≤100)) (fun _ i _=>bf.length - (intOf i).toNat)
     case atStart=>exact⟨0,aiH _,rfl,WH,aa (fun j _ hj=>absurd hj (by omega))⟩
     case round=>
      obtain⟨m,hm,rfl,HS,HI⟩:=hrel
      by_cases FQ:m<bf.length
      ·have aa7:(m:Int)<(bf.length:Int):=by omega
       have NZ:(0:Int)≤(m:Int):=by omega
       obtain⟨b2,o2,rfl,N0,r0,r1,r2,r3,r4⟩:=(HMe.o.ext (X3.o.trans HS.o.x)).at_ FQ;have Dh:=aa (J7 bf FQ);have ky:aiE ((bf[m]'FQ).n≤100→∀j (h:j<bf.length),j<m+1→(bf[j]'h).n≤100):=aa (fun h1 j hj hjk=>by
        by_cases e:j=m
        ·subst e;exact h1
        ·exact HI.o j hj (by omega))
       generalize bf[m]'FQ=c at *
       by_cases h3:(100:Int)<c.n
       ·go_wp2;go_ret;exact⟨⟨0,rfl,.inl rfl⟩,X3.o.trans HS.o.x⟩
       have N3:c.n≤100:=by omega
       have Rg:aiE (M++wU (bf.take (m+1))=(M++wU (bf.take m))++[c.ty]):=aa (by rw[Dh.o,List.append_assoc]);have agO:(M++wU (bf.take m)).length≤18300+m:=by rw[aiL];simp only[wU,List.length_map,List.length_take];omega
       generalize hM2:M++wU (bf.take m)=M2 at *;clear hM2;obtain⟨A6,c6,rfl,-,-,-,-⟩:=ak.own dr (l:=M2) HS.o.own;have aa9:=HS.o.x.size;have V7:=aa HS.o.own;go_wp2_with (at_builtin;refine aD _ rfl _ _ 31 rfl n3 53 i1 _ 3 48 Tryz.underlying31 hj nB gI gM rfl (by decide) (.slice A6 M2.length c6) M2.length (M2.flatMap dr.f) rfl (V7.o.alloc _) _ 1 1 [encStr c.ty.aq,.int .i64 c.ty.var,.slice c.ty.A c.ty.args.length c.ty.cap] rfl ?c2 ?c3 ?c4 ?c5 ?c6 ?_)
       case c2=>exact Row.WZ _ _ _ (ah _ _ _ rfl)
       case c3=>first|exact⟨rfl,rfl,rfl⟩|(intro y hy;simp at hy;rcases hy with rfl|rfl|rfl<;>rfl)
       case c4=>unfold maxLen;omega
       case c5=>omega
       case c6=>have:=V6.o;simp;omega
       intro v4 w4 br hg4 eW;have R4:aiE (jn n3 w3 w4 v4 (M++wU (bf.take (m+1)))):=aa ⟨Ext.app (HS.o.x.alloc _) hg4 (V7.o.alloc _) (by have:=V6.o;omega),by rw[Rg.o,kY,aiL];exact br⟩;clear br hg4 eW;go_wp2;go_roundw
       case rel=>exact⟨m+1,FQ,by go_num,R4,aa (ky.o N3)⟩
       case measure=>simp[intOf];omega
      ·have bS:¬(m:Int)<(bf.length:Int):=by omega
       have Xm:aiE (∀j (h:j<bf.length),(bf[j]'h).n≤100):=aa (fun j hj=>HI.o j hj (by omega));have e9:bf.take m=bf:=aiK (by omega);rw[e9] at HS;clear e9
       by_cases h4:(30:Int)<(bf.length:Int)
       ·go_wp2;go_ret;exact⟨⟨0,rfl,.inl rfl⟩,X3.o.trans HS.o.x⟩
       ·have h4':(bf.length:Int)≤30:=by omega
        have kZ:aiE (Ka ⟨dn,S,sc,cQ,DA,yX,bf⟩):=aa ⟨by show bf.length≤30;omega,fun c hc=>by
         obtain⟨j,hj,rfl⟩:=List.getElem_of_mem hc;have hj':j<bf.length:=hj;exact Xm.o j hj'⟩
        rw[←aba.o] at HS;go_wp2;go_roundw
        case rel=>exact⟨k+1,hlt,by go_num,HS,by have:=zZ.o;omega,aa (jU.o kZ.o)⟩
        case measure=>simp[intOf];omega
    ·have bS:¬(k:Int)<(x.af.length:Int):=by omega
     have e9:x.af.take k=x.af:=aiK (by omega);rw[e9] at HR hlen;clear e9;have HR0:aiE (∀r:Int,(r=0∨(r=1∧aF (L++sA x.af)≤20000))→(r=0∨(r=1∧J9 x))):=aa (by
      rintro r (rfl|⟨rfl,h⟩)
      ·exact .inl rfl
      ·exact .inr ⟨rfl,HOf.o HF.o mQ Ih.o (fun j hj=>HJ.o j hj (by omega)) (h)⟩)
     have hLM:(L++sA x.af).length≤18900:=by rw[aiL];omega
     have V0:∀t∈L++sA x.af,aH wr t:=fun t ht=>(V4.o t ht).ext (X3.o.trans HR.o.x)
     generalize L++sA x.af=M at *;obtain⟨A6,c6,rfl,d1,d2,d3,-⟩:=ak.own dr (l:=M) HR.o.own;have wy:=aa (vr A6 c6 M wr ⟨d3,V0⟩ (by omega));clear V0 d3;go_wp2_with fail;refine wy.o.mono ?_;rintro e w5 ⟨⟨r,rfl,hr⟩,hx⟩;have yl:=aa (HR0.o r (hr.imp id (fun h=>⟨h.1,h.2.1⟩)));clear hr;go_wp2;go_ret;exact⟨⟨r,rfl,yl.o⟩,X3.o.trans (HR.o.x.trans hx)⟩
structure ma (x:di) (preds:List Pd) (given:List Tm):Prop where
 env:Nu x
 pl:preds.length≤10
 ps:FD preds≤20000
 gl:given.length≤10
 gs:cd given≤3000
 gf:∀t∈given,Lc t
theorem ma.few {x:di}{preds:List Pd}{given:List Tm}(h:ma x preds given):nV x preds:=
 ⟨by have:=h.pl;omega,h.env.cls,h.env.cQ,by have:=h.env.ins;omega,fun y hy=>by have:=(h.env.pds y hy).1;omega⟩
theorem ma.small {x:di}{preds:List Pd}{given:List Tm}(h:ma x preds given):∀q∈preds,q.ty.size≤90000:=fun q hq=>by have:=BO hq;have:=h.ps;omega
theorem ma.terms {x:di}{preds:List Pd}{given:List Tm}(h:ma x preds given):∀t∈given,dt t∧t.size≤3001:=fun t ht=>by
 have h1:t.size≤cd given:=Tree.kO Tm.size ht;have:=h.gs;exact⟨(h.gf t ht).few (by omega),by omega⟩
theorem Nx (x:di) (P:Option Addr) (pc:Nat) (preds:List Pd) (L:Option Addr) (lc:Nat) (given:List Tm) (w:World) (he:dJ w x) (Kb:∀c∈x.af,c.bf.length≤2000000000000) (hP:bg w P preds) (hL:bm w L given) :
  Calls Tryz.prog 5 #[eu x,.slice P preds.length pc,.slice L given.length lc] w fun e w'=>(∃v,e=.returned v∧(v=.bool false∨(v=.bool true∧ma x preds given)))∧Ext w w':=by
 obtain⟨W,hW⟩:∃W,W=w.alloc (.cells #[.slice x.D x.aA.length x.dc,.slice x.C x.af.length x.cc,.slice x.I x.insts.length x.ic] 26):=⟨_,rfl⟩;have HW:=aa hW.symm;have X0:aiE (Ext w W):=aa (by rw[hW];exact(eR _).alloc _);have B1:aiE (aI W w.heap.size x):=aa (by rw[hW];exact aI.new w x);have H1:=aa (yV x W (he.ext X0.o));have H2:=aa (fun w' (e:Ext W w')=>aa (Nw x w' (he.ext (X0.o.trans e)) Kb));have H3:=aa (fun w' (e:Ext W w')=>aa (wT P pc preds w' (hP.ext (X0.o.trans e))));have H4:=aa (fun w' (e:Ext W w') (h:given.length≤100000)=>aa (MF L lc given w' (hL.ext (X0.o.trans e)) h));clear hW he Kb hP hL;unfold eu at *;go_enter Tryz.func5,Tryz.ntmps5;go_upto_region 1 with fail;rw[HW.o];clear HW;obtain⟨e0,e1,e2⟩:=B1.o.cells;have n1:=B1.o.lt;go_wp2_with fail;refine H1.o.mono ?_;rintro e w2 ⟨⟨r,rfl,hr⟩,hx⟩;have X2:=aa hx;clear hx e0 e1 e2 n1 H1
 rcases hr with rfl|⟨rfl,hfe⟩
 ·go_wp2;go_ret;exact⟨⟨_,rfl,.inl rfl⟩,X0.o.trans X2.o⟩
 have HFe:=aa hfe;obtain⟨e0,e1,e2⟩:=(B1.o.ext X2.o).cells;have n1:=(B1.o.ext X2.o).lt;clear hfe;go_wp2_with fail;refine(H2.o _ X2.o).o.mono ?_;rintro e w3 ⟨⟨r,rfl,hr⟩,hx⟩;have X3:=aa (X2.o.trans hx);clear hx e0 e1 e2 n1 H2
 rcases hr with rfl|⟨rfl,-⟩
 ·go_wp2;go_ret;exact⟨⟨_,rfl,.inl rfl⟩,X0.o.trans X3.o⟩
 by_cases hp:preds.length≤10
 rotate_left
 ·have F0:¬(preds.length:Int)≤10:=by omega
  go_wp2;go_ret;exact⟨⟨_,rfl,.inl rfl⟩,X0.o.trans X3.o⟩
 have F0:(preds.length:Int)≤10:=by omega
 have DO:=aa hp;clear hp;go_wp2_with fail;refine(H3.o _ X3.o).o.mono ?_;rintro e w4 ⟨⟨r,rfl,hr⟩,hx⟩;have X4:=aa (X3.o.trans hx);clear hx H3
 rcases hr with rfl|⟨rfl,-,sx⟩
 ·go_wp2;go_ret;exact⟨⟨_,rfl,.inl rfl⟩,X0.o.trans X4.o⟩
 have Lx:=aa sx;clear sx
 by_cases hg:given.length≤10
 rotate_left
 ·have Dr:¬(given.length:Int)≤10:=by omega
  go_wp2;go_ret;exact⟨⟨_,rfl,.inl rfl⟩,X0.o.trans X4.o⟩
 have Dr:(given.length:Int)≤10:=by omega
 have HGl:=aa hg;have H5:=aa (H4.o _ X4.o (by omega));clear hg H4;go_wp2_with fail;refine H5.o.o.mono ?_;rintro e w5 ⟨⟨r,rfl,hr⟩,hx⟩;have X5:=aa (X4.o.trans hx);clear hx H5
 rcases hr with rfl|⟨rfl,Kb,hf⟩
 ·go_wp2;go_ret;exact⟨⟨_,rfl,.inl rfl⟩,X0.o.trans X5.o⟩
 have HF:aiE (ma x preds given):=aa ⟨HFe.o,DO.o,Lx.o,HGl.o,Kb,hf⟩;clear Kb hf;go_wp2;go_ret;exact⟨⟨_,rfl,.inr ⟨rfl,HF.o⟩⟩,X0.o.trans X5.o⟩
open Go.Shelf
def fY (t:Tm) (s:aj):Prop:=∀w,aQ w t→Calls Tryz.prog 43 #[bz t] w fun e w'=>e=.returned (encStr s)∧Ext w w'
theorem CE (t:Tm) (h1:(t.kind == 1)=true):fY t t.name:=by
 intro w h;have fI:=aa (av.new w t);have X0:aiE (Ext w (w.alloc (.cells #[.int .i64 t.kind,.int .i64 t.n,encStr t.name,.slice t.V t.vars.length t.vc,.slice t.T t.types.length t.tc,.slice t.A t.kids.length t.cap] 40))):=aa ((eR w).alloc _);obtain⟨c0,c1,c2,c3,c4,c5⟩:=fI.o.cells;clear h;unfold bz;go_enter Tryz.func43,Tryz.ntmps43;go_wp2;go_ret;exact⟨rfl,X0.o⟩
theorem Ny (t:Tm) (h4:(t.kind == 4)=true) (h0:0<t.kids.length) (h1:1<t.kids.length) (sf sa:aj) (hf:fY (t.kids[0]'h0) sf) (ha:fY (t.kids[1]'h1) sa) (hl:sf.length+sa.length≤1000000):fY t ([40]++(sf++[32]++sa)++[41]):=by
 intro w h;obtain⟨W,hW⟩:∃W,W=w.alloc (.cells #[.int .i64 t.kind,.int .i64 t.n,encStr t.name,.slice t.V t.vars.length t.vc,.slice t.T t.types.length t.tc,.slice t.A t.kids.length t.cap] 40):=⟨_,rfl⟩;have HW:=aa hW.symm;have fI:aiE (av W w.heap.size t):=aa (by rw[hW];exact av.new w t);have X0:aiE (Ext w W):=aa (by rw[hW];exact(eR w).alloc _);clear hW;obtain⟨c0,c1,c2,c3,c4,c5⟩:=fI.o.cells;have n1:(t.kind == 1)=false:=by simp at h4 ⊢;omega
 have n2:(t.kind == 2)=false:=by simp at h4 ⊢;omega
 have n3:(t.kind == 14)=false:=by simp at h4 ⊢;omega
 have n4:(t.kind == 3)=false:=by simp at h4 ⊢;omega
 have HK:=aa h.all;obtain⟨b,o,hA,hb,q0,q1,q2,q3,q4,q5⟩:=(HK.o.ext X0.o).at_ h0;obtain⟨b',o',hA',hb',r0,r1,r2,r3,r4,r5⟩:=(HK.o.ext X0.o).at_ h1;have Zz:(⟨b',o',none⟩:Addr)=⟨b,o,none⟩:=Option.some.inj (hA'.symm.trans hA);cases Zz;clear hA' hb';have HF:=aa (fun w' (e:Ext w w')=>aa (hf w' ((HK.o.kids _ (aiF h0)).ext e)));have HA:=aa (fun w' (e:Ext w w')=>aa (ha w' ((HK.o.kids _ (aiF h1)).ext e)));have i0:(0:Int)<(t.kids.length:Int):=by omega
 have i1:(1:Int)<(t.kids.length:Int):=by omega
 have hs1:¬((⟨sf.toArray⟩:ByteArray).size+(⟨#[32]⟩:ByteArray).size>9223372036854775807):=by rw[aB sf];show ¬(sf.length+1>_);omega
 have e1:(ByteArray.mk sf.toArray++ByteArray.mk #[32])=ByteArray.mk (sf++([32]:aj):aj).toArray:=ByteArray.mk_append_mk sf ([32]:aj);have hs2:¬((⟨(sf++([32]:aj):aj).toArray⟩:ByteArray).size+(⟨sa.toArray⟩:ByteArray).size>9223372036854775807):=by
  rw[aB (sf++([32]:aj)),aB sa];simp only[aiL,aiW,List.length_nil];omega
 have e2:(ByteArray.mk (sf++([32]:aj):aj).toArray++ByteArray.mk sa.toArray)=ByteArray.mk (sf++([32]:aj)++sa:aj).toArray:=ByteArray.mk_append_mk (sf++([32]:aj)) sa;have hs3:¬((⟨#[40]⟩:ByteArray).size+(⟨(sf++([32]:aj)++sa:aj).toArray⟩:ByteArray).size>9223372036854775807):=by
  rw[aB (sf++([32]:aj)++sa)];show ¬(1+_>_);simp only[aiL,aiW,List.length_nil];omega
 have e3:(ByteArray.mk #[40]++ByteArray.mk (sf++([32]:aj)++sa:aj).toArray)=ByteArray.mk (([40]:aj)++(sf++([32]:aj)++sa):aj).toArray:=ByteArray.mk_append_mk ([40]:aj) (sf++([32]:aj)++sa);have Oe:¬((⟨(([40]:aj)++(sf++([32]:aj)++sa):aj).toArray⟩:ByteArray).size+(⟨#[41]⟩:ByteArray).size>9223372036854775807):=by
  rw[aB (([40]:aj)++(sf++([32]:aj)++sa))];show ¬(_+1>_);simp only[aiL,aiW,List.length_nil];omega
 have e4:(ByteArray.mk (([40]:aj)++(sf++([32]:aj)++sa):aj).toArray++ByteArray.mk #[41])=ByteArray.mk (([40]:aj)++(sf++([32]:aj)++sa)++([41]:aj):aj).toArray:=ByteArray.mk_append_mk (([40]:aj)++(sf++([32]:aj)++sa)) ([41]:aj);have R8:¬(9223372036854775807<sf.length+1):=by omega
 have Lb:¬(9223372036854775807<(sf++([32]:aj)).length+sa.length):=by simp only[aiL,aiW,List.length_nil];omega
 have hq3:¬(9223372036854775807<1+(sf++([32]:aj)++sa).length):=by simp only[aiL,aiW,List.length_nil];omega
 have hq4:¬(9223372036854775807<(([40]:aj)++(sf++([32]:aj)++sa)).length+1):=by simp only[aiL,aiW,List.length_nil];omega
 generalize (([40]:aj)++(sf++([32]:aj)++sa)++([41]:aj):aj)=s4 at *;generalize (([40]:aj)++(sf++([32]:aj)++sa):aj)=s3 at *;generalize (sf++([32]:aj)++sa:aj)=s2 at *;generalize (sf++([32]:aj):aj)=s1 at *;generalize t.kids[0]'h0=ka at *;generalize t.kids[1]'h1=kb at *;have HS:aiE (∀w',Ext W w'→(w'.cell? ⟨w.heap.size,5,none⟩=some (.slice (some ⟨b,o,none⟩) t.kids.length t.cap) ∧
   w'.cell? ⟨b,o,none⟩=some (.int .i64 ka.kind)∧w'.cell? ⟨b,o+1,none⟩=some (.int .i64 ka.n)∧w'.cell? ⟨b,o+2,none⟩=some (.string ⟨ka.name.toArray⟩)∧w'.cell? ⟨b,o+3,none⟩=some (.slice ka.V ka.vars.length ka.vc)∧w'.cell? ⟨b,o+4,none⟩=some (.slice ka.T ka.types.length ka.tc)∧w'.cell? ⟨b,o+5,none⟩=some (.slice ka.A ka.kids.length ka.cap) ∧
   w'.cell? ⟨b,o+6,none⟩=some (.int .i64 kb.kind)∧w'.cell? ⟨b,o+6+1,none⟩=some (.int .i64 kb.n)∧w'.cell? ⟨b,o+6+2,none⟩=some (.string ⟨kb.name.toArray⟩)∧w'.cell? ⟨b,o+6+3,none⟩=some (.slice kb.V kb.vars.length kb.vc)∧w'.cell? ⟨b,o+6+4,none⟩=some (.slice kb.T kb.types.length kb.tc)∧w'.cell? ⟨b,o+6+5,none⟩=some (.slice kb.A kb.kids.length kb.cap))):=aa (by
  rw[hA] at c5;have z0:o+0*6=o:=by omega
  have z1:o+1*6=o+6:=by omega
  rw[z0] at q0 q1 q2 q3 q4 q5;rw[z1] at r0 r1 r2 r3 r4 r5;exact fun w' e=>⟨e.cell c5,e.cell q0,e.cell q1,e.cell q2,e.cell q3,e.cell q4,e.cell q5,e.cell r0,e.cell r1,e.cell r2,e.cell r3,e.cell r4,e.cell r5⟩)
 rw[hA] at c5;clear q0 q1 q2 q3 q4 q5 r0 r1 r2 r3 r4 r5 hb hA h hf ha HK fI;unfold bz at HF HA ⊢;go_enter Tryz.func43,Tryz.ntmps43;go_upto_region 1 with fail;rw[HW.o];obtain⟨p0,p1,p2,p3,p4,p5,p6,p7,p8,p9,p10,p11,p12⟩:=HS.o _ (eR W);clear c5 HW;go_upto_region 13 with fail
 go_region_held3 (fun w':World=>(w'.cell? ⟨w.heap.size,5,none⟩=some (.slice (some ⟨b,o,none⟩) t.kids.length t.cap)∧w'.cell? ⟨b,o,none⟩=some (.int .i64 ka.kind)∧w'.cell? ⟨b,o+1,none⟩=some (.int .i64 ka.n)∧w'.cell? ⟨b,o+2,none⟩=some (.string ⟨ka.name.toArray⟩)∧w'.cell? ⟨b,o+3,none⟩=some (.slice ka.V ka.vars.length ka.vc)∧w'.cell? ⟨b,o+4,none⟩=some (.slice ka.T ka.types.length ka.tc)∧w'.cell? ⟨b,o+5,none⟩=some (.slice ka.A ka.kids.length ka.cap)∧w'.cell? ⟨b,o+6,none⟩=some (.int .i64 kb.kind)∧w'.cell? ⟨b,o+6+1,none⟩=some (.int .i64 kb.n)∧w'.cell? ⟨b,o+6+2,none⟩=some (.string ⟨kb.name.toArray⟩)∧w'.cell? ⟨b,o+6+3,none⟩=some (.slice kb.V kb.vars.length kb.vc)∧w'.cell? ⟨b,o+6+4,none⟩=some (.slice kb.T kb.types.length kb.tc)∧w'.cell? ⟨b,o+6+5,none⟩=some (.slice kb.A kb.kids.length kb.cap))) (first|assumption|(exact HS.o _ (eR W).drew)) (first
  |(
   go_at_call 43
   with_reducible refine Calls.mono (HF.o _ ?e).o ?_
   case e=>first|(refine Ext.trans X0.o ?_;(repeat(first|exact eR _|exact eA (by assumption) _|refine eA ?_ _|refine eM ?_ _ _|refine eD ?_|refine eN ?_ _));done)|(refine Ext.trans (X0.o.trans X8.o) ?_;(repeat(first|exact eR _|exact eA (by assumption) _|refine eA ?_ _|refine eM ?_ _ _|refine eD ?_|refine eN ?_ _));done)
   rintro e w7 ⟨rfl,uG⟩;have X7:aiE (Ext W w7):=aa (by
    refine Ext.trans ?_ uG
    first|(refine Ext.trans (eR W) ?_;(repeat(first|exact eR _|exact eA (by assumption) _|refine eA ?_ _|refine eM ?_ _ _|refine eD ?_|refine eN ?_ _));done)|(refine Ext.trans X8.o ?_;(repeat(first|exact eR _|exact eA (by assumption) _|refine eA ?_ _|refine eM ?_ _ _|refine eD ?_|refine eN ?_ _));done))
   have K7:=HS.o _ X7.o;clear uG)
  |(
   go_at_call 43
   with_reducible refine Calls.mono (HA.o _ ?e).o ?_
   case e=>first|(refine Ext.trans X0.o ?_;(repeat(first|exact eR _|exact eA (by assumption) _|refine eA ?_ _|refine eM ?_ _ _|refine eD ?_|refine eN ?_ _));done)|(refine Ext.trans (X0.o.trans X7.o) ?_;(repeat(first|exact eR _|exact eA (by assumption) _|refine eA ?_ _|refine eM ?_ _ _|refine eD ?_|refine eN ?_ _));done)
   rintro e w8 ⟨rfl,rk⟩;have X8:aiE (Ext W w8):=aa (by
    refine Ext.trans ?_ rk
    first|(refine Ext.trans (eR W) ?_;(repeat(first|exact eR _|exact eA (by assumption) _|refine eA ?_ _|refine eM ?_ _ _|refine eD ?_|refine eN ?_ _));done)|(refine Ext.trans X7.o ?_;(repeat(first|exact eR _|exact eA (by assumption) _|refine eA ?_ _|refine eM ?_ _ _|refine eD ?_|refine eN ?_ _));done))
   have K8:=HS.o _ X8.o;clear rk))
 all_goals
  go_wp2;go_ret
  first
   |exact⟨rfl,X0.o.trans X7.o⟩
   |exact⟨rfl,X0.o.trans X8.o⟩
   |exact⟨rfl,X0.o.trans (X7.o.trans (by repeat(first|exact eR _|exact eA (by assumption) _|refine eA ?_ _|refine eM ?_ _ _|refine eD ?_|refine eN ?_ _)))⟩
   |exact⟨rfl,X0.o.trans (X8.o.trans (by repeat(first|exact eR _|exact eA (by assumption) _|refine eA ?_ _|refine eM ?_ _ _|refine eD ?_|refine eN ?_ _)))⟩
theorem Nz (g cap:Nat) (s sep:aj) (w:World) (h:w.heap[g]?=some (.cells #[encStr s] 9 (0,0))):Calls Tryz.prog 117 #[.slice (some ⟨g,0,none⟩) 1 cap,encStr sep] w fun e w'=>e=.returned (encStr s)∧w'=w:=by
 have k0:=ag h 0;simp only[aiN,aiO] at k0;clear h;go_enter Tryz.func117,Tryz.ntmps117;go_wp2;go_ret;exact⟨rfl,rfl⟩
noncomputable def Lj (x:Ty):aj:=oY ⟨[],none,0,x⟩
theorem V8 (x:Ty) (w:World) (h:aH w x) (ok:nK x=true) (hsz:x.size≤20000):Calls Tryz.prog 114 #[bl x] w fun e w'=>e=.returned (encStr (Lj x))∧Ext w w':=by
 have HB:=aa (aU.new w x);have X0:aiE (Ext w (w.alloc (.cells #[encStr x.aq,.int .i64 x.var,.slice x.A x.args.length x.cap] 53))):=aa ((eR w).alloc _);have HP:aiE (IV w ⟨[],none,0,x⟩):=aa ⟨aiG _,by show 0≤9223372036854775807;omega,ak.nil _ _ _,h⟩;have HT:=aa (fun w' (e:Ext w w')=>aa (Ce ⟨[],none,0,x⟩ w' (HP.o.ext e) ok hsz rfl));have HR:aiE (oY ⟨[],none,0,x⟩=Lj x):=aa rfl;rw[HR.o] at HT;have c0:=HB.o.c0;have c1:=HB.o.c1;have c2:=HB.o.c2;clear h ok HR;generalize Lj x=R at *;unfold ZH at HT;simp only[List.length_nil] at HT;unfold bl;go_enter Tryz.func114,Tryz.ntmps114;go_wp2_with fail;refine(HT.o _ X0.o).o.mono ?_;rintro e w2 ⟨rfl,hx⟩;go_wp2;go_ret;exact⟨rfl,X0.o.trans hx⟩
theorem Fh (W:World):(Instr.makeSlice 65 (.int .i64 1) (.int .i64 1)).run Tryz.prog W=.ok (.slice (some ⟨W.heap.size,0,none⟩) 1 1) (W.alloc (.cells #[.string ⟨#[]⟩] 9)):=by
 obtain⟨i1,hj,nB,gI,gM⟩:=info_parts uU;have jt:=run_make (P:=Tryz.prog) W 65 9 i1 _ Tryz.underlying65 hj nB .i64 .i64 1 1 (by omega) (Int.le_refl _) (by rw[gM];omega) (by omega);have e:madeCells (Value.string ⟨#[]⟩).cells (Int.toNat 1*1)=#[.string ⟨#[]⟩]:=by kernel_rfl
 rw[gI,e] at jt;exact jt
theorem Kd (A:Option Addr) (cap:Nat) (x:Ty) (s sep:aj) (w:World) (h:bH w A [x]) (hx:∀w',Ext w w'→Calls Tryz.prog 114 #[bl x] w' fun e w''=>e=.returned (encStr s)∧Ext w' w'') :
  Calls Tryz.prog 113 #[.slice A 1 cap,encStr sep,.func (.func 114) #[] #[]] w fun e w'=>e=.returned (encStr s)∧Ext w w':=by
 have jt:=Fh w;obtain⟨W1,hW1⟩:∃W1,W1=w.alloc (.cells #[.string ⟨#[]⟩] 9):=⟨_,rfl⟩;have X1:aiE (Ext w W1):=aa (by rw[hW1];exact(eR _).alloc _);have B1:aiE (W1.heap[w.heap.size]?=some (.cells #[encStr []] 9 (0,0))):=aa (by rw[hW1];exact ah _ _ _ rfl);rw[←hW1] at jt;have HK:=aa h;have HX:=aa hx;clear h hx hW1;go_enter Tryz.func113,Tryz.ntmps113;go_wp2
 go_loopw [15] (fun i wr=>∃k:Nat,k≤1∧i=.int .i64 k∧aiE (wr.heap[w.heap.size]?=some (.cells #[encStr (if k=0 then [] else s)] 9 (0,0)))∧aiE (Ext w wr)) (fun i _=>1 - (intOf i).toNat)
 case atStart=>exact⟨0,by omega,rfl,B1,X1⟩
 case round=>
  obtain⟨k,hk,rfl,HB,XS⟩:=hrel
  by_cases hlt:k<1
  ·have cV:k=0:=by omega
   subst cV;obtain⟨b,o,hA,hb,q0,q1,q2⟩:=(HK.o.ext XS.o).at_ (i:=0) (by simp);have z0:o+0*3=o:=by omega
   have V9:[x][0]'(by simp)=x:=rfl;rw[z0,V9] at q0 q1 q2;have hbl:=ae HB.o;clear V9 z0;unfold bl at HX;rw[hA];clear hA;go_wp2_with fail;refine(HX.o _ (XS.o.alloc _)).mono ?_;rintro e w3 ⟨rfl,hx3⟩;have X3:aiE (Ext wr w3):=aa (((eR wr).alloc _).trans hx3);have C3:=aa ((X3.o.heap hbl).trans HB.o);have f0:=ai C3.o 0;have k0:=ag C3.o 0;simp only[aiN,aiO] at k0;have PW:aiE ((w3.setCell ⟨w.heap.size,0,none⟩ (encStr s)).heap[w.heap.size]?=some (.cells #[encStr (if 1=0 then [] else s)] 9 (0,0))):=aa (by have:=aw C3.o 0 (encStr s);simpa using this);have XU:aiE (Ext w (w3.setCell ⟨w.heap.size,0,none⟩ (encStr s))):=aa ((XS.o.trans X3.o).setCell (by simp) _);clear hx3;go_wp2;go_roundw
   case rel=>exact⟨1,aiG _,by go_num,PW,XU⟩
   case measure=>simp[intOf]
  ·have sB:k=1:=by omega
   subst sB;have HJ:=aa (Nz w.heap.size 1 s sep wr (by have:=HB.o;simpa using this));go_wp2_with fail;refine HJ.o.mono ?_;rintro e w3 ⟨rfl,rfl⟩;go_wp2;go_ret;exact⟨rfl,XS.o⟩
theorem NA (A:Option Addr) (cap:Nat) (l:List Ty) (h1:0<l.length) (hl:l.length=1) (w:World) (h:bH w A l) (ok:nK (l[0]'h1)=true) (hsz:(l[0]'h1).size≤20000) :
  Calls Tryz.prog 67 #[.slice A l.length cap] w fun e w'=>e=.returned (encStr (Lj (l[0]'h1)))∧Ext w w':=by
 obtain⟨x,rfl⟩:∃x,l=[x]:=by
  match l,hl with
  | [x],_=>exact⟨x,rfl⟩
 have ok:nK x=true:=ok;have hsz:x.size≤20000:=hsz;have HJ:=aa (Kd A cap x (Lj x) [44,32] w h (fun w' e=>V8 x w' ((h.args x (by simp)).ext e) ok hsz));show Calls Tryz.prog 67 #[.slice A 1 cap] w fun e w'=>e=.returned (encStr (Lj x))∧Ext w w'
 generalize Lj x=R at *;clear h;go_enter Tryz.func67,Tryz.ntmps67;go_wp2_with fail;refine HJ.o.mono ?_;rintro e w3 ⟨rfl,hx⟩;go_wp2;go_ret;exact⟨rfl,hx⟩
theorem Ke (t:Tm) (hk:(t.kind == 6)=true) (h0:0<t.kids.length) (h1:0<t.types.length) (sj:t.types.length=1) (ok:nK (t.types[0]'h1)=true) (hsz:(t.types[0]'h1).size≤20000) (ty:aj) (ke:Lj (t.types[0]'h1)=ty) (sb:aj) (hb:fY (t.kids[0]'h0) sb) (hl:t.name.length+ty.length+sb.length≤1000000):fY t ((([40]:aj)++(((sb++([32,91]:aj))++ty)++([93]:aj)))++([41]:aj)):=by
 intro w h;obtain⟨W,hW⟩:∃W,W=w.alloc (.cells #[.int .i64 t.kind,.int .i64 t.n,encStr t.name,.slice t.V t.vars.length t.vc,.slice t.T t.types.length t.tc,.slice t.A t.kids.length t.cap] 40):=⟨_,rfl⟩;have HW:=aa hW.symm;have fI:aiE (av W w.heap.size t):=aa (by rw[hW];exact av.new w t);have X0:aiE (Ext w W):=aa (by rw[hW];exact(eR w).alloc _);clear hW;obtain⟨c0,c1,c2,c3,c4,c5⟩:=fI.o.cells;have n1:(t.kind == 1)=false:=by simp at hk ⊢;omega
 have n2:(t.kind == 2)=false:=by simp at hk ⊢;omega
 have n14:(t.kind == 14)=false:=by simp at hk ⊢;omega
 have n3:(t.kind == 3)=false:=by simp at hk ⊢;omega
 have n4:(t.kind == 4)=false:=by simp at hk ⊢;omega
 have n5:(t.kind == 5)=false:=by simp at hk ⊢;omega
 have HK:=aa h.all;obtain⟨b,o,hA,xc,q0,q1,q2,q3,q4,q5⟩:=(HK.o.ext X0.o).at_ h0;have HF:=aa (fun w' (e:Ext w w')=>aa (hb w' ((HK.o.kids _ (aiF h0)).ext e)));have i0:(0:Int)<(t.kids.length:Int):=by omega
 have HT:=aa (fun w' (e:Ext w w')=>aa (NA t.T t.tc t.types h1 sj w' (h.hd.types.ext e) ok hsz));rw[ke] at HT;clear ok hsz sj;clear h1 ke;have hs0:¬((ByteArray.mk (sb:aj).toArray).size+(ByteArray.mk #[32,91]).size>9223372036854775807):=by
  rw[aB sb];show ¬((sb:aj).length+2>9223372036854775807)
  try simp only[aiL,aiW,List.length_nil]
  omega
 have e0:(ByteArray.mk (sb:aj).toArray)++(ByteArray.mk #[32,91])=ByteArray.mk ((sb++([32,91]:aj)):aj).toArray:=ByteArray.mk_append_mk sb ([32,91]:aj);have KT:¬(9223372036854775807<(sb:aj).length+2):=by(try simp only[aiL,aiW,List.length_nil]);omega
 have hs1:¬((ByteArray.mk ((sb++([32,91]:aj)):aj).toArray).size+(ByteArray.mk (ty:aj).toArray).size>9223372036854775807):=by
  rw[aB (sb++([32,91]:aj)),aB ty];show ¬(((sb++([32,91]:aj)):aj).length+(ty:aj).length>9223372036854775807)
  try simp only[aiL,aiW,List.length_nil]
  omega
 have e1:(ByteArray.mk ((sb++([32,91]:aj)):aj).toArray)++(ByteArray.mk (ty:aj).toArray)=ByteArray.mk (((sb++([32,91]:aj))++ty):aj).toArray:=ByteArray.mk_append_mk (sb++([32,91]:aj)) ty;have R8:¬(9223372036854775807<((sb++([32,91]:aj)):aj).length+(ty:aj).length):=by(try simp only[aiL,aiW,List.length_nil]);omega
 have hs2:¬((ByteArray.mk (((sb++([32,91]:aj))++ty):aj).toArray).size+(ByteArray.mk #[93]).size>9223372036854775807):=by
  rw[aB ((sb++([32,91]:aj))++ty)];show ¬((((sb++([32,91]:aj))++ty):aj).length+1>9223372036854775807)
  try simp only[aiL,aiW,List.length_nil]
  omega
 have e2:(ByteArray.mk (((sb++([32,91]:aj))++ty):aj).toArray)++(ByteArray.mk #[93])=ByteArray.mk ((((sb++([32,91]:aj))++ty)++([93]:aj)):aj).toArray:=ByteArray.mk_append_mk ((sb++([32,91]:aj))++ty) ([93]:aj);have Lb:¬(9223372036854775807<(((sb++([32,91]:aj))++ty):aj).length+1):=by(try simp only[aiL,aiW,List.length_nil]);omega
 have hs3:¬((ByteArray.mk #[40]).size+(ByteArray.mk ((((sb++([32,91]:aj))++ty)++([93]:aj)):aj).toArray).size>9223372036854775807):=by
  rw[aB (((sb++([32,91]:aj))++ty)++([93]:aj))];show ¬(1+((((sb++([32,91]:aj))++ty)++([93]:aj)):aj).length>9223372036854775807)
  try simp only[aiL,aiW,List.length_nil]
  omega
 have e3:(ByteArray.mk #[40])++(ByteArray.mk ((((sb++([32,91]:aj))++ty)++([93]:aj)):aj).toArray)=ByteArray.mk ((([40]:aj)++(((sb++([32,91]:aj))++ty)++([93]:aj))):aj).toArray:=ByteArray.mk_append_mk ([40]:aj) (((sb++([32,91]:aj))++ty)++([93]:aj));have hq3:¬(9223372036854775807<1+((((sb++([32,91]:aj))++ty)++([93]:aj)):aj).length):=by(try simp only[aiL,aiW,List.length_nil]);omega
 have Oe:¬((ByteArray.mk ((([40]:aj)++(((sb++([32,91]:aj))++ty)++([93]:aj))):aj).toArray).size+(ByteArray.mk #[41]).size>9223372036854775807):=by
  rw[aB (([40]:aj)++(((sb++([32,91]:aj))++ty)++([93]:aj)))];show ¬(((([40]:aj)++(((sb++([32,91]:aj))++ty)++([93]:aj))):aj).length+1>9223372036854775807)
  try simp only[aiL,aiW,List.length_nil]
  omega
 have e4:(ByteArray.mk ((([40]:aj)++(((sb++([32,91]:aj))++ty)++([93]:aj))):aj).toArray)++(ByteArray.mk #[41])=ByteArray.mk (((([40]:aj)++(((sb++([32,91]:aj))++ty)++([93]:aj)))++([41]:aj)):aj).toArray:=ByteArray.mk_append_mk (([40]:aj)++(((sb++([32,91]:aj))++ty)++([93]:aj))) ([41]:aj);have hq4:¬(9223372036854775807<((([40]:aj)++(((sb++([32,91]:aj))++ty)++([93]:aj))):aj).length+1):=by(try simp only[aiL,aiW,List.length_nil]);omega
 generalize (((([40]:aj)++(((sb++([32,91]:aj))++ty)++([93]:aj)))++([41]:aj)):aj)=s4 at *;generalize ((([40]:aj)++(((sb++([32,91]:aj))++ty)++([93]:aj))):aj)=s3 at *;generalize ((((sb++([32,91]:aj))++ty)++([93]:aj)):aj)=s2 at *;generalize (((sb++([32,91]:aj))++ty):aj)=s1 at *;generalize ((sb++([32,91]:aj)):aj)=s0 at *;generalize t.kids[0]'h0=ka at *;have HS:aiE (∀w',Ext W w'→(w'.cell? ⟨w.heap.size,4,none⟩=some (.slice t.T t.types.length t.tc)∧w'.cell? ⟨w.heap.size,5,none⟩=some (.slice (some ⟨b,o,none⟩) t.kids.length t.cap)∧w'.cell? ⟨b,o,none⟩=some (.int .i64 ka.kind)∧w'.cell? ⟨b,o+1,none⟩=some (.int .i64 ka.n)∧w'.cell? ⟨b,o+2,none⟩=some (.string ⟨ka.name.toArray⟩)∧w'.cell? ⟨b,o+3,none⟩=some (.slice ka.V ka.vars.length ka.vc)∧w'.cell? ⟨b,o+4,none⟩=some (.slice ka.T ka.types.length ka.tc)∧w'.cell? ⟨b,o+5,none⟩=some (.slice ka.A ka.kids.length ka.cap))):=aa (by
  rw[hA] at c5;have z0:o+0*6=o:=by omega
  rw[z0] at q0 q1 q2 q3 q4 q5;exact fun w' e=>⟨e.cell c4,e.cell c5,e.cell q0,e.cell q1,e.cell q2,e.cell q3,e.cell q4,e.cell q5⟩)
 clear q0 q1 q2 q3 q4 q5 xc hA h hb HK fI;unfold bz at HF ⊢;go_enter Tryz.func43,Tryz.ntmps43;go_upto_region 1 with fail;rw[HW.o];obtain⟨p0,p1,p2,p3,p4,p5,p6,p7⟩:=HS.o _ (eR W);clear c5 HW;go_upto_region 17 with fail
 go_region_held3 (fun w':World=>(w'.cell? ⟨w.heap.size,4,none⟩=some (.slice t.T t.types.length t.tc)∧w'.cell? ⟨w.heap.size,5,none⟩=some (.slice (some ⟨b,o,none⟩) t.kids.length t.cap)∧w'.cell? ⟨b,o,none⟩=some (.int .i64 ka.kind)∧w'.cell? ⟨b,o+1,none⟩=some (.int .i64 ka.n)∧w'.cell? ⟨b,o+2,none⟩=some (.string ⟨ka.name.toArray⟩)∧w'.cell? ⟨b,o+3,none⟩=some (.slice ka.V ka.vars.length ka.vc)∧w'.cell? ⟨b,o+4,none⟩=some (.slice ka.T ka.types.length ka.tc)∧w'.cell? ⟨b,o+5,none⟩=some (.slice ka.A ka.kids.length ka.cap))) (first|assumption|(exact HS.o _ (eR W).drew)) (first
  |(
   go_at_call 67
   refine Calls.mono (HT.o _ ?e).o ?_
   case e=>first|(refine Ext.trans X0.o ?_;(repeat(first|exact eR _|exact eA (by assumption) _|refine eA ?_ _|refine eM ?_ _ _|refine eD ?_|refine eN ?_ _));done)|(refine Ext.trans (X0.o.trans X8.o) ?_;(repeat(first|exact eR _|exact eA (by assumption) _|refine eA ?_ _|refine eM ?_ _ _|refine eD ?_|refine eN ?_ _));done)
   rintro e w7 ⟨rfl,uG⟩;have X7:aiE (Ext W w7):=aa (by
    refine Ext.trans ?_ uG
    first|(refine Ext.trans (eR W) ?_;(repeat(first|exact eR _|exact eA (by assumption) _|refine eA ?_ _|refine eM ?_ _ _|refine eD ?_|refine eN ?_ _));done)|(refine Ext.trans X8.o ?_;(repeat(first|exact eR _|exact eA (by assumption) _|refine eA ?_ _|refine eM ?_ _ _|refine eD ?_|refine eN ?_ _));done))
   have K7:=HS.o _ X7.o;clear uG)
  |(
   go_at_call 43
   refine Calls.mono (HF.o _ ?e).o ?_
   case e=>first|(refine Ext.trans X0.o ?_;(repeat(first|exact eR _|exact eA (by assumption) _|refine eA ?_ _|refine eM ?_ _ _|refine eD ?_|refine eN ?_ _));done)|(refine Ext.trans (X0.o.trans X7.o) ?_;(repeat(first|exact eR _|exact eA (by assumption) _|refine eA ?_ _|refine eM ?_ _ _|refine eD ?_|refine eN ?_ _));done)
   rintro e w8 ⟨rfl,rk⟩;have X8:aiE (Ext W w8):=aa (by
    refine Ext.trans ?_ rk
    first|(refine Ext.trans (eR W) ?_;(repeat(first|exact eR _|exact eA (by assumption) _|refine eA ?_ _|refine eM ?_ _ _|refine eD ?_|refine eN ?_ _));done)|(refine Ext.trans X7.o ?_;(repeat(first|exact eR _|exact eA (by assumption) _|refine eA ?_ _|refine eM ?_ _ _|refine eD ?_|refine eN ?_ _));done))
   have K8:=HS.o _ X8.o;clear rk))
 all_goals
  go_wp2;go_ret
  first
   |exact⟨rfl,X0.o.trans X7.o⟩
   |exact⟨rfl,X0.o.trans X8.o⟩
   |exact⟨rfl,X0.o.trans (X7.o.trans (by repeat(first|exact eR _|exact eA (by assumption) _|refine eA ?_ _|refine eM ?_ _ _|refine eD ?_|refine eN ?_ _)))⟩
   |exact⟨rfl,X0.o.trans (X8.o.trans (by repeat(first|exact eR _|exact eA (by assumption) _|refine eA ?_ _|refine eM ?_ _ _|refine eD ?_|refine eN ?_ _)))⟩
theorem Kf (t:Tm) (hk:(t.kind == 13)=true) (h0:0<t.kids.length) (m:Nat) (hm:t.n=(m:Int)) (h1:m≤9223372036854775807) (ty:aj) (ke:cj m=ty) (sb:aj) (hb:fY (t.kids[0]'h0) sb) (hl:t.name.length+ty.length+sb.length≤1000000):fY t ((([40]:aj)++((((sb++([46]:aj))++t.name)++([46]:aj))++ty))++([41]:aj)):=by
 intro w h;obtain⟨W,hW⟩:∃W,W=w.alloc (.cells #[.int .i64 t.kind,.int .i64 t.n,encStr t.name,.slice t.V t.vars.length t.vc,.slice t.T t.types.length t.tc,.slice t.A t.kids.length t.cap] 40):=⟨_,rfl⟩;have HW:=aa hW.symm;have fI:aiE (av W w.heap.size t):=aa (by rw[hW];exact av.new w t);have X0:aiE (Ext w W):=aa (by rw[hW];exact(eR w).alloc _);clear hW;obtain⟨c0,c1,c2,c3,c4,c5⟩:=fI.o.cells;have n1:(t.kind == 1)=false:=by simp at hk ⊢;omega
 have n2:(t.kind == 2)=false:=by simp at hk ⊢;omega
 have n14:(t.kind == 14)=false:=by simp at hk ⊢;omega
 have n3:(t.kind == 3)=false:=by simp at hk ⊢;omega
 have n4:(t.kind == 4)=false:=by simp at hk ⊢;omega
 have n5:(t.kind == 5)=false:=by simp at hk ⊢;omega
 have n6:(t.kind == 6)=false:=by simp at hk ⊢;omega
 have n7:(t.kind == 7)=false:=by simp at hk ⊢;omega
 have n8:(t.kind == 8)=false:=by simp at hk ⊢;omega
 have n10:(t.kind == 10)=false:=by simp at hk ⊢;omega
 have n12:(t.kind == 12)=false:=by simp at hk ⊢;omega
 have HK:=aa h.all;obtain⟨b,o,hA,xc,q0,q1,q2,q3,q4,q5⟩:=(HK.o.ext X0.o).at_ h0;have HF:=aa (fun w' (e:Ext w w')=>aa (hb w' ((HK.o.kids _ (aiF h0)).ext e)));have i0:(0:Int)<(t.kids.length:Int):=by omega
 have HT:=aa (fun w' (_e:Ext w w')=>aa (qy m h1 w'));rw[ke,←hm] at HT;clear hm;clear h1 ke;have hs0:¬((ByteArray.mk (sb:aj).toArray).size+(ByteArray.mk #[46]).size>9223372036854775807):=by
  rw[aB sb];show ¬((sb:aj).length+1>9223372036854775807)
  try simp only[aiL,aiW,List.length_nil]
  omega
 have e0:(ByteArray.mk (sb:aj).toArray)++(ByteArray.mk #[46])=ByteArray.mk ((sb++([46]:aj)):aj).toArray:=ByteArray.mk_append_mk sb ([46]:aj);have KT:¬(9223372036854775807<(sb:aj).length+1):=by(try simp only[aiL,aiW,List.length_nil]);omega
 have hs1:¬((ByteArray.mk ((sb++([46]:aj)):aj).toArray).size+(ByteArray.mk (t.name:aj).toArray).size>9223372036854775807):=by
  rw[aB (sb++([46]:aj)),aB t.name];show ¬(((sb++([46]:aj)):aj).length+(t.name:aj).length>9223372036854775807)
  try simp only[aiL,aiW,List.length_nil]
  omega
 have e1:(ByteArray.mk ((sb++([46]:aj)):aj).toArray)++(ByteArray.mk (t.name:aj).toArray)=ByteArray.mk (((sb++([46]:aj))++t.name):aj).toArray:=ByteArray.mk_append_mk (sb++([46]:aj)) t.name;have R8:¬(9223372036854775807<((sb++([46]:aj)):aj).length+(t.name:aj).length):=by(try simp only[aiL,aiW,List.length_nil]);omega
 have hs2:¬((ByteArray.mk (((sb++([46]:aj))++t.name):aj).toArray).size+(ByteArray.mk #[46]).size>9223372036854775807):=by
  rw[aB ((sb++([46]:aj))++t.name)];show ¬((((sb++([46]:aj))++t.name):aj).length+1>9223372036854775807)
  try simp only[aiL,aiW,List.length_nil]
  omega
 have e2:(ByteArray.mk (((sb++([46]:aj))++t.name):aj).toArray)++(ByteArray.mk #[46])=ByteArray.mk ((((sb++([46]:aj))++t.name)++([46]:aj)):aj).toArray:=ByteArray.mk_append_mk ((sb++([46]:aj))++t.name) ([46]:aj);have Lb:¬(9223372036854775807<(((sb++([46]:aj))++t.name):aj).length+1):=by(try simp only[aiL,aiW,List.length_nil]);omega
 have hs3:¬((ByteArray.mk ((((sb++([46]:aj))++t.name)++([46]:aj)):aj).toArray).size+(ByteArray.mk (ty:aj).toArray).size>9223372036854775807):=by
  rw[aB (((sb++([46]:aj))++t.name)++([46]:aj)),aB ty];show ¬(((((sb++([46]:aj))++t.name)++([46]:aj)):aj).length+(ty:aj).length>9223372036854775807)
  try simp only[aiL,aiW,List.length_nil]
  omega
 have e3:(ByteArray.mk ((((sb++([46]:aj))++t.name)++([46]:aj)):aj).toArray)++(ByteArray.mk (ty:aj).toArray)=ByteArray.mk (((((sb++([46]:aj))++t.name)++([46]:aj))++ty):aj).toArray:=ByteArray.mk_append_mk (((sb++([46]:aj))++t.name)++([46]:aj)) ty;have hq3:¬(9223372036854775807<((((sb++([46]:aj))++t.name)++([46]:aj)):aj).length+(ty:aj).length):=by(try simp only[aiL,aiW,List.length_nil]);omega
 have Oe:¬((ByteArray.mk #[40]).size+(ByteArray.mk (((((sb++([46]:aj))++t.name)++([46]:aj))++ty):aj).toArray).size>9223372036854775807):=by
  rw[aB ((((sb++([46]:aj))++t.name)++([46]:aj))++ty)];show ¬(1+(((((sb++([46]:aj))++t.name)++([46]:aj))++ty):aj).length>9223372036854775807)
  try simp only[aiL,aiW,List.length_nil]
  omega
 have e4:(ByteArray.mk #[40])++(ByteArray.mk (((((sb++([46]:aj))++t.name)++([46]:aj))++ty):aj).toArray)=ByteArray.mk ((([40]:aj)++((((sb++([46]:aj))++t.name)++([46]:aj))++ty)):aj).toArray:=ByteArray.mk_append_mk ([40]:aj) ((((sb++([46]:aj))++t.name)++([46]:aj))++ty);have hq4:¬(9223372036854775807<1+(((((sb++([46]:aj))++t.name)++([46]:aj))++ty):aj).length):=by(try simp only[aiL,aiW,List.length_nil]);omega
 have hs5:¬((ByteArray.mk ((([40]:aj)++((((sb++([46]:aj))++t.name)++([46]:aj))++ty)):aj).toArray).size+(ByteArray.mk #[41]).size>9223372036854775807):=by
  rw[aB (([40]:aj)++((((sb++([46]:aj))++t.name)++([46]:aj))++ty))];show ¬(((([40]:aj)++((((sb++([46]:aj))++t.name)++([46]:aj))++ty)):aj).length+1>9223372036854775807)
  try simp only[aiL,aiW,List.length_nil]
  omega
 have e5:(ByteArray.mk ((([40]:aj)++((((sb++([46]:aj))++t.name)++([46]:aj))++ty)):aj).toArray)++(ByteArray.mk #[41])=ByteArray.mk (((([40]:aj)++((((sb++([46]:aj))++t.name)++([46]:aj))++ty))++([41]:aj)):aj).toArray:=ByteArray.mk_append_mk (([40]:aj)++((((sb++([46]:aj))++t.name)++([46]:aj))++ty)) ([41]:aj);have hq5:¬(9223372036854775807<((([40]:aj)++((((sb++([46]:aj))++t.name)++([46]:aj))++ty)):aj).length+1):=by(try simp only[aiL,aiW,List.length_nil]);omega
 generalize (((([40]:aj)++((((sb++([46]:aj))++t.name)++([46]:aj))++ty))++([41]:aj)):aj)=s5 at *;generalize ((([40]:aj)++((((sb++([46]:aj))++t.name)++([46]:aj))++ty)):aj)=s4 at *;generalize (((((sb++([46]:aj))++t.name)++([46]:aj))++ty):aj)=s3 at *;generalize ((((sb++([46]:aj))++t.name)++([46]:aj)):aj)=s2 at *;generalize (((sb++([46]:aj))++t.name):aj)=s1 at *;generalize ((sb++([46]:aj)):aj)=s0 at *;generalize t.kids[0]'h0=ka at *;have HS:aiE (∀w',Ext W w'→(w'.cell? ⟨w.heap.size,2,none⟩=some (.string ⟨t.name.toArray⟩)∧w'.cell? ⟨w.heap.size,1,none⟩=some (.int .i64 t.n)∧w'.cell? ⟨w.heap.size,5,none⟩=some (.slice (some ⟨b,o,none⟩) t.kids.length t.cap)∧w'.cell? ⟨b,o,none⟩=some (.int .i64 ka.kind)∧w'.cell? ⟨b,o+1,none⟩=some (.int .i64 ka.n)∧w'.cell? ⟨b,o+2,none⟩=some (.string ⟨ka.name.toArray⟩)∧w'.cell? ⟨b,o+3,none⟩=some (.slice ka.V ka.vars.length ka.vc)∧w'.cell? ⟨b,o+4,none⟩=some (.slice ka.T ka.types.length ka.tc)∧w'.cell? ⟨b,o+5,none⟩=some (.slice ka.A ka.kids.length ka.cap))):=aa (by
  rw[hA] at c5;have z0:o+0*6=o:=by omega
  rw[z0] at q0 q1 q2 q3 q4 q5;exact fun w' e=>⟨e.cell c2,e.cell c1,e.cell c5,e.cell q0,e.cell q1,e.cell q2,e.cell q3,e.cell q4,e.cell q5⟩)
 clear q0 q1 q2 q3 q4 q5 xc hA h hb HK fI;unfold bz at HF ⊢;go_enter Tryz.func43,Tryz.ntmps43;go_upto_region 1 with fail;rw[HW.o];obtain⟨p0,p1,p2,p3,p4,p5,p6,p7,p8⟩:=HS.o _ (eR W);clear c5 HW;go_upto_region 29 with fail
 go_region_held3 (fun w':World=>(w'.cell? ⟨w.heap.size,2,none⟩=some (.string ⟨t.name.toArray⟩)∧w'.cell? ⟨w.heap.size,1,none⟩=some (.int .i64 t.n)∧w'.cell? ⟨w.heap.size,5,none⟩=some (.slice (some ⟨b,o,none⟩) t.kids.length t.cap)∧w'.cell? ⟨b,o,none⟩=some (.int .i64 ka.kind)∧w'.cell? ⟨b,o+1,none⟩=some (.int .i64 ka.n)∧w'.cell? ⟨b,o+2,none⟩=some (.string ⟨ka.name.toArray⟩)∧w'.cell? ⟨b,o+3,none⟩=some (.slice ka.V ka.vars.length ka.vc)∧w'.cell? ⟨b,o+4,none⟩=some (.slice ka.T ka.types.length ka.tc)∧w'.cell? ⟨b,o+5,none⟩=some (.slice ka.A ka.kids.length ka.cap))) (first|assumption|(exact HS.o _ (eR W).drew)) (first
  |(
   go_at_call 41
   refine Calls.mono (HT.o _ ?e).o ?_
   case e=>first|(refine Ext.trans X0.o ?_;(repeat(first|exact eR _|exact eA (by assumption) _|refine eA ?_ _|refine eM ?_ _ _|refine eD ?_|refine eN ?_ _));done)|(refine Ext.trans (X0.o.trans X8.o) ?_;(repeat(first|exact eR _|exact eA (by assumption) _|refine eA ?_ _|refine eM ?_ _ _|refine eD ?_|refine eN ?_ _));done)
   rintro e w7 ⟨rfl,uG⟩;have X7:aiE (Ext W w7):=aa (by
    refine Ext.trans ?_ uG
    first|(refine Ext.trans (eR W) ?_;(repeat(first|exact eR _|exact eA (by assumption) _|refine eA ?_ _|refine eM ?_ _ _|refine eD ?_|refine eN ?_ _));done)|(refine Ext.trans X8.o ?_;(repeat(first|exact eR _|exact eA (by assumption) _|refine eA ?_ _|refine eM ?_ _ _|refine eD ?_|refine eN ?_ _));done))
   have K7:=HS.o _ X7.o;clear uG)
  |(
   go_at_call 43
   refine Calls.mono (HF.o _ ?e).o ?_
   case e=>first|(refine Ext.trans X0.o ?_;(repeat(first|exact eR _|exact eA (by assumption) _|refine eA ?_ _|refine eM ?_ _ _|refine eD ?_|refine eN ?_ _));done)|(refine Ext.trans (X0.o.trans X7.o) ?_;(repeat(first|exact eR _|exact eA (by assumption) _|refine eA ?_ _|refine eM ?_ _ _|refine eD ?_|refine eN ?_ _));done)
   rintro e w8 ⟨rfl,rk⟩;have X8:aiE (Ext W w8):=aa (by
    refine Ext.trans ?_ rk
    first|(refine Ext.trans (eR W) ?_;(repeat(first|exact eR _|exact eA (by assumption) _|refine eA ?_ _|refine eM ?_ _ _|refine eD ?_|refine eN ?_ _));done)|(refine Ext.trans X7.o ?_;(repeat(first|exact eR _|exact eA (by assumption) _|refine eA ?_ _|refine eM ?_ _ _|refine eD ?_|refine eN ?_ _));done))
   have K8:=HS.o _ X8.o;clear rk))
 all_goals
  go_wp2;go_ret
  first
   |exact⟨rfl,X0.o.trans X7.o⟩
   |exact⟨rfl,X0.o.trans X8.o⟩
   |exact⟨rfl,X0.o.trans (X7.o.trans (by repeat(first|exact eR _|exact eA (by assumption) _|refine eA ?_ _|refine eM ?_ _ _|refine eD ?_|refine eN ?_ _)))⟩
   |exact⟨rfl,X0.o.trans (X8.o.trans (by repeat(first|exact eR _|exact eA (by assumption) _|refine eA ?_ _|refine eM ?_ _ _|refine eD ?_|refine eN ?_ _)))⟩
set_option maxRecDepth 512
set_option maxHeartbeats 200000
theorem wV {α β:Type}{f:α→β}{l:List α}{y:β}(h:l.map f=[y]):∃x,l=[x]∧f x=y:=by
 match l,h with
 | [x],h=>exact⟨x,rfl,by simpa using h⟩
theorem Kg {α β:Type}{f:α→β}{l:List α}{y z:β}(h:l.map f=[y,z]):∃a b,l=[a,b]∧f a=y∧f b=z:=by
 match l,h with
 | [a,b],h=>exact⟨a,b,rfl,by simpa using h⟩
theorem mM {α β:Type}{f:α→β}{l:List α}(h:l.map f=[]):l=[]:=by simpa using h
theorem CF {u:Tm}{k n:Int}{s:aj}{vs:List Int}{ts:List Ty.Pure}{l:List Tm.Pure}(h:u.pure=.mk k n s vs ts l) :
  ∃V vc T tc ty A cap ks,u=.mk k n s V vc vs T tc ty A cap ks∧ty.map Ty.pure=ts∧ks.map Tm.pure=l:=by
 obtain⟨k',n',s',V,vc,vs',T,tc,ty,A,cap,ks⟩:=u;rw[Tm.aG] at h;injection h with h1 h2 h3 h4 h5 h6;have h1:k'=k:=h1;have h2:n'=n:=h2;have h3:s'=s:=h3;have h4:vs'=vs:=h4;subst h1 h2 h3 h4;exact⟨V,vc,T,tc,ty,A,cap,ks,rfl,h5,h6⟩
theorem OU {u:Ty}{s:aj}{v:Int}(h:u.pure=.mk s v []):∃A c,u=.mk s v A c []:=by
 obtain⟨s',v',A,c,l⟩:=u;rw[Ty.aG] at h;injection h with h1 h2 h3;have h1:s'=s:=h1;have h2:v'=v:=h2;have h3:l.map Ty.pure=[]:=h3;subst h1 h2;have:=mM h3;subst this;exact⟨A,c,rfl⟩
section
variable (B : Option Addr) (bc:Nat)
def tyA (v:Int):Ty:=.mk [] v B bc []
theorem Fi (v:Int):aV (tyA B bc v)=true:=by
 have hc:bX []=[]:=by rfl
 unfold aV;rw[Ty.size_eq,Ty.aT,jd];simp[tyA,Ty.args,Ty.aq,bO]
theorem Kh : Lj (tyA B bc 0)=[97]:=by
 unfold Lj oY;rw[if_pos (Fi B bc 0),if_pos rfl,mh (by rintro⟨h,-⟩;cases h)];show(if ([]:aj)=[] then iF 0 else [])++cO []=_;rw[if_pos rfl];rfl
end
theorem r6 {t:Tm}{s:aj}(h:t.pure=.mk 1 0 s [] [] []):∃V vc T tc A cap,t=.mk 1 0 s V vc [] T tc [] A cap []:=by
 obtain⟨V,vc,T,tc,ty,A,cap,ks,rfl,h1,h2⟩:=CF h;cases mM h1;cases mM h2;exact⟨V,vc,T,tc,A,cap,rfl⟩
theorem Ki {t:Tm}{s:aj}(h:t.pure=.mk 1 0 s [] [] []):t.size=1∧t.depth=1∧t.types=[]:=by
 obtain⟨V,vc,T,tc,A,cap,rfl⟩:=r6 h;refine⟨?_,?_,rfl⟩
 ·rw[Tm.size_eq];rfl
 ·rw[Tm.aT];rfl
theorem Rh {t:Tm}{s:aj}(h:t.pure=.mk 1 0 s [] [] []) (hs:(s == [])=false):t.tb.term=true:=by
 obtain⟨V,vc,T,tc,A,cap,rfl⟩:=r6 h;rw[jf];have:bC (.mk 1 0 s V vc [] T tc [] A cap [])=true:=by
  unfold bC;show(mz 1 0 (!(s == [])) 0 0 0&&true)=true;rw[hs];rfl
 rw[this];rfl
theorem Kj {s:aj}{v:Int}{B:Option Addr}{bc:Nat}(h0 : -9223372036854775808≤v) (h1:v≤9223372036854775807) (hs:s.length≤140737488351232):nK (.mk s v B bc [])=true:=IJ h0 h1 hs (by simp)
theorem Fj {s:aj}{v:Int}{B:Option Addr}{bc:Nat}:(Ty.mk s v B bc []).size=1:=by rw[Ty.size_eq];rfl
def ju (b0:Nat):List dY:=[⟨[69,113],none,0,[],none,0,[]⟩,⟨[79,114,100],some ⟨b0,0,none⟩,1,[[69,113]],none,0,[]⟩]
def j4 (b2:Nat):List cL:=[⟨[69,113],[76],1,some ⟨b2,0,none⟩,1,[⟨[69,113],Ty.zero⟩]⟩]
def XV (b0 b1 b2 b3:Nat):di:=⟨none,0,[],some ⟨b1,0,none⟩,2,ju b0,some ⟨b3,0,none⟩,1,j4 b2⟩
def jv : List Pd:=[⟨[69,113],Ty.zero⟩,⟨[79,114,100],Ty.zero⟩]
def NB (n:Int):Pf:=.mk 1 n none 0 [] none 0 []
def Lk (b6:Nat):Pf:=.mk 2 0 none 0 [] (some ⟨b6,0,none⟩) 1 [NB 1]
def pE (b5 b6 b7:Nat):Pf:=.mk 3 0 (some ⟨b5,0,none⟩) 1 [Ty.zero] (some ⟨b7,0,none⟩) 1 [Lk b6]
theorem dz : ax Ty.zero=true:=oo 0 none 0
theorem r7 : Ty.zero.pure=.mk [] 0 []:=by rw[Ty.aG];rfl
theorem Kk (A:Option Addr) (c:Nat):ax (.mk [76] 0 A c [Ty.zero])=true:=by
 unfold ax;rw[cW,Ty.size_eq,Ty.aT];have h1:Ty.zero.size=1:=by rw[Ty.size_eq];rfl
 have h2:Ty.zero.depth=1:=by rw[Ty.aT];rfl
 have h3:bK Ty.zero=true:=(aS dz).2.2;simp only[Ty.args,Ty.aq,Ty.var,List.map_cons,List.map_nil,h1,h2,List.all_cons,List.all_nil,h3];decide
theorem Kl (b0 b2:Nat):bw (ju b0) (j4 b2) jv (NB 1)=some ⟨[79,114,100],Ty.zero⟩:=by
 rw[fg];have h:ir (ju b0) (j4 b2) jv (NB 1) ((NB 1).kids.map (bw (ju b0) (j4 b2) jv))=some ⟨[79,114,100],Ty.zero⟩:=rfl;rw[h,Option.filter_some,if_pos];show(bZ [79,114,100]&&ax Ty.zero)=true;rw[dz];rfl
theorem Ri (b0 b2 b6:Nat):bw (ju b0) (j4 b2) jv (Lk b6)=some ⟨[69,113],Ty.zero⟩:=by
 rw[fg];have h:ir (ju b0) (j4 b2) jv (Lk b6) [some ⟨[79,114,100],Ty.zero⟩]=some ⟨[69,113],Ty.zero⟩:=rfl;rw[show(Lk b6).kids.map (bw (ju b0) (j4 b2) jv)=[some ⟨[79,114,100],Ty.zero⟩] from by show [bw _ _ _ (NB 1)]=_;rw[Kl]];rw[h,Option.filter_some,if_pos];show(bZ [69,113]&&ax Ty.zero)=true;rw[dz];rfl
theorem Km (b2:Nat):bE ⟨[69,113],[76],1,some ⟨b2,0,none⟩,1,[⟨[69,113],Ty.zero⟩]⟩=true:=by
 have h:bE ⟨[69,113],[76],1,some ⟨0,0,none⟩,1,[⟨[69,113],Ty.zero⟩]⟩=true:=by decide +kernel
 exact h
theorem Rj (b0 b2 b5 b6 b7:Nat):bw (ju b0) (j4 b2) jv (pE b5 b6 b7)=some ⟨[69,113],.mk [76] 0 (some ⟨b5,0,none⟩) 1 [Ty.zero]⟩:=by
 rw[fg];rw[show(pE b5 b6 b7).kids.map (bw (ju b0) (j4 b2) jv)=[some ⟨[69,113],Ty.zero⟩] from by show [bw _ _ _ (Lk b6)]=_;rw[Ri]];have h:ir (ju b0) (j4 b2) jv (pE b5 b6 b7) [some ⟨[69,113],Ty.zero⟩]=some ⟨[69,113],.mk [76] 0 (some ⟨b5,0,none⟩) 1 [Ty.zero]⟩:=by
  show cr (j4 b2) (pE b5 b6 b7) [some ⟨[69,113],Ty.zero⟩]=_;unfold cr;rw[show pH (j4 b2) (pE b5 b6 b7).n=some ⟨[69,113],[76],1,some ⟨b2,0,none⟩,1,[⟨[69,113],Ty.zero⟩]⟩ from rfl,Option.bind_some,if_pos]
  ·rfl
  ·rw[aiT]
   constructor
   ·unfold cR;rw[Km];show(true&&decide ((1:Int)=1)&&decide (1=1)&&[Ty.zero].all ax)=true;simp[dz]
   ·unfold fO;show([(⟨[69,113],Ty.zero⟩,some ⟨[69,113],Ty.zero⟩)]:List (Pd×Option Pd)).all _=true;simp only[List.all_cons,List.all_nil,Bool.and_true];show(([69,113]:aj) == [69,113]&&bN Ty.zero Ty.zero)=true;rw[jw];rfl
 rw[h,Option.filter_some,if_pos];show(bZ [69,113]&&ax _)=true;rw[Kk];rfl
def tE : Tm.Pure:=.mk 4 0 [] [] [] [.mk 6 0 [] [] [.mk [] 0 []] [.mk 1 0 [64,69,113,64,76] [] [] []],.mk 13 0 [79,114,100] [] [] [.mk 1 0 [35,54] [] [] []]]
theorem dg6 : cj 6=[54]:=by kernel_rfl
theorem Bg (f:Int) (h0:0≤f) (h1:f≤1000):cm 2 f=[iG f,iG (f+1)]:=by
 unfold cm;rw[if_neg (by omega)];show [iG (f+((0:Nat):Int)),iG (f+((1:Nat):Int))]=_;simp
theorem vn (n:Nat):(iG (n:Int)).pure=.mk 1 0 (([35]:aj)++cj n) [] [] []:=by rw[Tm.aG];rfl
theorem Wa (b0 b2 b5 b6 b7:Nat):kR (ju b0) (j4 b2) jv ((cm 2 5).map Tm.pure) (pE b5 b6 b7)=tE:=by
 have h1:kR (ju b0) (j4 b2) jv ((cm 2 5).map Tm.pure) (NB 1)=.mk 1 0 [35,54] [] [] []:=by
  rw[Bg 5 (by decide) (by decide),nD (given:=[iG 5,iG (5+1)]) rfl (n:=1) rfl (by decide)];show(iG ((6:Nat):Int)).pure=_;rw[vn,dg6];rfl
 have h2:kR (ju b0) (j4 b2) jv ((cm 2 5).map Tm.pure) (Lk b6)=.mk 13 0 [79,114,100] [] [] [.mk 1 0 [35,54] [] [] []]:=by
  rw[qU rfl rfl (Kl b0 b2),h1];rfl
 rw[pT (x:=⟨[69,113],[76],1,some ⟨b2,0,none⟩,1,[⟨[69,113],Ty.zero⟩]⟩) rfl rfl];show([kR (ju b0) (j4 b2) jv ((cm 2 5).map Tm.pure) (Lk b6)]).foldl ou (if [Ty.zero.pure]=[] then _ else .mk 6 0 [] [] [Ty.zero.pure] [.mk 1 0 (iv [69,113] [76]) [] [] []])=_;rw[h2,if_neg (by simp),r7];rfl
theorem Wb {t:Tm}(h:t.pure=tE):∃V vc T tc A cap V1 Rk T1 Rl B bc A1 Bh x V2 Rm T2 Rn A2 Bj y,t=.mk 4 0 [] V vc [] T tc [] A cap [.mk 6 0 [] V1 Rk [] T1 Rl [.mk [] 0 B bc []] A1 Bh [x],.mk 13 0 [79,114,100] V2 Rm [] T2 Rn [] A2 Bj [y]] ∧
  x.pure=.mk 1 0 [64,69,113,64,76] [] [] []∧y.pure=.mk 1 0 [35,54] [] [] []:=by
 obtain⟨V,vc,T,tc,ty,A,cap,ks,rfl,h1,h2⟩:=CF h;cases mM h1;obtain⟨a,b,rfl,ha,hb⟩:=Kg h2;obtain⟨V1,Rk,T1,Rl,ty1,A1,Bh,ks1,rfl,k1,k2⟩:=CF ha;obtain⟨V2,Rm,T2,Rn,ty2,A2,Bj,ks2,rfl,l1,l2⟩:=CF hb;obtain⟨z,rfl,hz⟩:=wV k1;obtain⟨B,bc,rfl⟩:=OU hz;obtain⟨x,rfl,hx⟩:=wV k2;cases mM l1;obtain⟨y,rfl,hy⟩:=wV l2;exact⟨_,_,_,_,_,_,_,_,_,_,_,_,_,_,x,_,_,_,_,_,_,y,rfl,hx,hy⟩
theorem r8 {t:Tm}(h:t.pure=tE):dt t∧t.size≤100000∧cx t=true∧fY t [40,40,64,69,113,64,76,32,91,97,93,41,32,40,35,54,46,79,114,100,46,48,41,41]:=by
 obtain⟨V,vc,T,tc,A,cap,V1,Rk,T1,Rl,B,bc,A1,Bh,x,V2,Rm,T2,Rn,A2,Bj,y,rfl,hx,hy⟩:=Wb h;obtain⟨Vx,Wd,Tx,We,Ax,Kn,rfl⟩:=r6 hx;obtain⟨Vy,Wf,Tq,Wh,Ay,Ko,rfl⟩:=r6 hy;have fv:∀s V vc T tc A cap,dt (.mk 1 0 s V vc [] T tc [] A cap []):=fun s V vc T tc A cap=>.mk (by show 0≤10000;omega) (fun y hy=>by cases hy) (by show 0≤1000000;omega) (by show 0≤10000;omega) (fun y hy=>by cases hy)
 have hz:(Ty.mk [] 0 B bc []).size=1:=Fj;have f1:dt (.mk 6 0 [] V1 Rk [] T1 Rl [.mk [] 0 B bc []] A1 Bh [.mk 1 0 [64,69,113,64,76] Vx Wd [] Tx We [] Ax Kn []]):=.mk (by show 1≤10000;omega) (iP (by rw[hz];omega)) (by show 1≤1000000;omega) (by show 0≤10000;omega) (iP (fv _ _ _ _ _ _ _));have f2:dt (.mk 13 0 [79,114,100] V2 Rm [] T2 Rn [] A2 Bj [.mk 1 0 [35,54] Vy Wf [] Tq Wh [] Ay Ko []]):=.mk (by show 0≤10000;omega) (fun y hy=>by cases hy) (by show 1≤1000000;omega) (by show 0≤10000;omega) (iP (fv _ _ _ _ _ _ _));refine⟨?_,?_,?_,?_⟩
 ·refine .mk (by show 0≤10000;omega) (fun y hy=>by cases hy) (by show 2≤1000000;omega) (by show 0≤10000;omega) (fun k hk => ?_)
  rcases List.mem_cons.1 hk with rfl|hk
  ·exact f1
  ·rw[aiV] at hk;subst hk;exact f2
 ·have h5:(Tm.mk 4 0 [] V vc [] T tc [] A cap [.mk 6 0 [] V1 Rk [] T1 Rl [.mk [] 0 B bc []] A1 Bh [.mk 1 0 [64,69,113,64,76] Vx Wd [] Tx We [] Ax Kn []],.mk 13 0 [79,114,100] V2 Rm [] T2 Rn [] A2 Bj [.mk 1 0 [35,54] Vy Wf [] Tq Wh [] Ay Ko []]]).size=5:=by kernel_rfl
  rw[h5];omega
 ·kernel_rfl
 ·have k1:=CE (.mk 1 0 [64,69,113,64,76] Vx Wd [] Tx We [] Ax Kn []) rfl;have k2:=CE (.mk 1 0 [35,54] Vy Wf [] Tq Wh [] Ay Ko []) rfl;have k3:=Ke (.mk 6 0 [] V1 Rk [] T1 Rl [.mk [] 0 B bc []] A1 Bh [.mk 1 0 [64,69,113,64,76] Vx Wd [] Tx We [] Ax Kn []]) rfl (by show 0<1;decide) (by show 0<1;decide) rfl (Kj (by decide) (by decide) (by decide)) (by show(Ty.mk [] 0 B bc []).size≤20000;rw[hz];decide) [97] (Kh B bc) _ k1 (by show 0+1+5≤1000000;decide);have k4:=Kf (.mk 13 0 [79,114,100] V2 Rm [] T2 Rn [] A2 Bj [.mk 1 0 [35,54] Vy Wf [] Tq Wh [] Ay Ko []]) rfl (by show 0<1;decide) 0 rfl (by decide) [48] (by kernel_rfl) _ k2 (by show 3+1+2≤1000000;decide);exact Ny (.mk 4 0 [] V vc [] T tc [] A cap [.mk 6 0 [] V1 Rk [] T1 Rl [.mk [] 0 B bc []] A1 Bh [.mk 1 0 [64,69,113,64,76] Vx Wd [] Tx We [] Ax Kn []],.mk 13 0 [79,114,100] V2 Rm [] T2 Rn [] A2 Bj [.mk 1 0 [35,54] Vy Wf [] Tq Wh [] Ay Ko []]]) rfl (by show 0<2;decide) (by show 1<2;decide) _ _ k3 k4 (by show 11+10≤1000000;decide)
theorem vo (b0 b2:Nat):eo (ju b0) (j4 b2)=true:=by
 unfold eo;rw[aiT];refine⟨by kernel_rfl,?_⟩;show(bE _&&true)=true;rw[Km];rfl
theorem Kq : jv.all dI=true:=by
 show(dI ⟨[69,113],Ty.zero⟩&&(dI ⟨[79,114,100],Ty.zero⟩&&true))=true;unfold dI;rw[dz];rfl
theorem Ro (b0 b2:Nat):mS (ju b0) (j4 b2) jv ⟨[69,113],Ty.zero⟩=.ok (.mk 1 0 [] []):=by
 have h1:dI ⟨[69,113],Ty.zero⟩=true:=by unfold dI;rw[dz];rfl
 have h2:jS (ju b0) jv [69,113] Ty.zero.pure=some (0,[]):=by
  unfold jS jv cS;rw[oK,if_pos (jw _)];have:bU ((ju b0).map dx) [69,113] [69,113]=some []:=by kernel_rfl
  simp only[this]
 unfold mS;rw[h1,Kq,vo,if_neg (by decide)];rw[show(5000:Nat)=4999+1 from rfl];unfold cz;simp only[h2];rfl
theorem Wi (b0 b2:Nat):mS (ju b0) (j4 b2) jv ⟨[88],Ty.zero⟩=.error 16:=by
 have h1:dI ⟨[88],Ty.zero⟩=true:=by unfold dI;rw[dz];rfl
 have h2:jS (ju b0) jv [88] Ty.zero.pure=none:=by
  unfold jS jv cS cS cS;rw[oK,if_pos (jw _),oK,if_pos (jw _)];have h3:bU ((ju b0).map dx) [69,113] [88]=none:=by kernel_rfl
  have h4:bU ((ju b0).map dx) [79,114,100] [88]=none:=by kernel_rfl
  simp only[h3,h4]
 have h5:wL (j4 b2) [88] Ty.zero.pure=none:=by
  rw[nU]
  kernel_rfl
 unfold mS;rw[h1,Kq,vo,if_neg (by decide)];rw[show(5000:Nat)=4999+1 from rfl];unfold cz;simp only[h2,h5]
set_option maxRecDepth 10000
set_option maxHeartbeats 8000000
theorem NC (P:Option Addr) (pc:Nat) (preds:List Pd) (w:World) (h:bg w P preds) (hl:preds.length≤1000000) (qD:∀p∈preds,p.cls.length≤1000000000000000000) :
  Calls Tryz.prog 12 #[.slice P preds.length pc] w fun e w'=>(∃A c ds,e=.returned (.slice A (List.length ds) c)∧ds.length≤c∧c≤9223372036854775807∧bH w' A ds∧ds.map Ty.pure=preds.map fun p=>rp p.cls p.ty.pure)∧Ext w w':=by
 obtain⟨i1,hj,nB,gI,gM⟩:=info_parts nH;have H:=aa h;have Dh:=aa qD;clear h qD;go_enter Tryz.func12,Tryz.ntmps12;go_wp2
 go_loopw [3,8] (fun u i wr=>∃(k:Nat) (ds:List Ty),k≤preds.length∧i=.int .i64 k∧aiE (Ext w wr)∧aiE (wr.ownsRow w.heap.size 53 3 u ds.length (ds.flatMap dr.f))∧aiE (wm w w wr u.ownBlock (preds.take k) ds)) (fun _ i _=>preds.length - (intOf i).toNat)
 case atStart=>exact⟨0,[],aiH _,rfl,aa (eR _),aa (World.ownsRow_nil _ _ _ _),aa (wm.nil _ _ _ _)⟩
 case round=>
  obtain⟨k,ds,hk,rfl,HX,HO,HD⟩:=hrel;have N2:ds.length≤preds.length:=by have:=HD.o.len;rw[List.length_take] at this;omega
  by_cases hlt:k<preds.length
  ·have aN:(k:Int)<(preds.length:Int):=by omega
   have cV:(0:Int)≤(k:Int):=by omega
   obtain⟨b,o,hA,hb,q0,q1,q2,q3⟩:=(H.o.ext HX.o).at_ hlt;have hm:=aiF hlt;have HC:=aa (fun w' (e:Ext w w')=>aa (PL (preds[k]'hlt).cls (preds[k]'hlt).ty w' ((H.o.all _ hm).ty.ext e) (Dh.o _ hm)));have Hpt:=aa (H.o.all _ hm).ty;have dh:aiE (preds.take (k+1)=preds.take k++[preds[k]'hlt]):=aa (aiJ hlt);generalize preds[k]'hlt=x at *;obtain⟨A6,c6,rfl,-,-,-,-⟩:=ak.own dr (l:=ds) HO.o;unfold bl at HC;have VZ:=HX.o.size;subst hA;clear hm;go_wp2_with fail;refine(HC.o _ (HX.o.trans ((eR _).alloc _))).o.mono ?_;rintro e w5 ⟨⟨g,rfl,hd,zh⟩,jA⟩;have X5:=aa (((eR wr).alloc (.cells #[encStr x.cls,encStr x.ty.aq,.int .i64 x.ty.var,.slice x.ty.A x.ty.args.length x.ty.cap] 55)).trans jA);have O5:=aa (aZ HO.o X5.o);have abc:wr.heap.size≤g:=by(first|(simp at zh;omega)|exact zh)
   have Hd:=aa hd;have hs5:=(HX.o.trans X5.o).size;obtain⟨D,hD⟩:∃D,D=kr x.cls x.ty g:=⟨_,rfl⟩;rw[←hD];have HDe:=aa hD;clear jA hd zh hD;go_wp2_with (at_builtin;refine aD _ rfl _ _ 31 rfl w.heap.size 53 i1 _ 3 48 Tryz.underlying31 hj nB gI gM rfl (by decide) (.slice A6 ds.length c6) ds.length (ds.flatMap dr.f) rfl (O5.o.alloc _) _ 1 1 [encStr D.aq,.int .i64 D.var,.slice D.A D.args.length D.cap] rfl ?c2 ?c3 ?c4 ?c5 ?c6 ?_)
   case c2=>exact Row.WZ _ _ _ (ah _ _ _ (by simp))
   case c3=>first|exact⟨rfl,rfl,rfl⟩|(intro y hy;simp at hy;rcases hy with rfl|rfl|rfl<;>rfl)
   case c4=>unfold maxLen;omega
   case c5=>omega
   case c6=>simp;omega
   intro v4 w4 br hg4 eW;have X4:=aa (Ext.app ((HX.o.trans X5.o).alloc _) hg4 (O5.o.alloc _) (aiG _));have O4:aiE (w4.ownsRow w.heap.size 53 3 v4 (ds++[D]).length ((ds++[D]).flatMap dr.f)):=aa (by rw[kY,aiL];exact br);have D4:aiE (wm w w w4 v4.ownBlock (preds.take (k+1)) (ds++[D])):=aa (by
    rw[dh.o,HDe.o];refine HD.o.snoc (w':=w5.alloc (.cells #[encStr D.aq,.int .i64 D.var,.slice D.A D.args.length D.cap] 53)) (X5.o.alloc _) (Hd.o.ext ((eR _).alloc _)) abc Hpt.o (aiG _) VZ (fun c e=>HO.o.lt c e) hg4 ?_
    rcases eW with e|e
    ·exact .inl e
    ·exact .inr (fun c hc=>by rw[e] at hc;injection hc with hc;simp at hc ⊢;omega))
   clear br hg4 eW;go_wp2;go_roundw
   case rel=>exact⟨k+1,ds++[D],hlt,by go_num,X4,O4,D4⟩
   case measure=>simp[intOf];omega
  ·have bS:¬(k:Int)<(preds.length:Int):=by omega
   have vu:aiE (wm w w wr u3.ownBlock preds ds):=aa (by have:=HD.o;rwa [aiK (by omega)] at this);obtain⟨A6,c6,rfl,d1,d2,d3,-⟩:=ak.own dr (l:=ds) HO.o;have HT:aiE (bH wr A6 ds):=aa ⟨d3,vu.o.ty⟩;clear HD HO d3;go_wp2;go_ret;exact⟨⟨_,_,ds,rfl,d1,d2,HT.o,vu.o.is⟩,HX.o⟩
set_option maxRecDepth 512
set_option maxHeartbeats 200000
def jo (us:List Tm) (n:Nat):Array Value:=((us++List.replicate n Tm.zero).flatMap eY.f).toArray
def CG (w:World) (b o:Nat) (t:Tm):World:=
 (((((w.setCell ⟨b,o,none⟩ (.int .i64 t.kind)).setCell ⟨b,o+1,none⟩ (.int .i64 t.n)).setCell ⟨b,o+2,none⟩ (.string ⟨t.name.toArray⟩)).setCell ⟨b,o+3,none⟩ (.slice t.V t.vars.length t.vc)).setCell ⟨b,o+4,none⟩ (.slice t.T t.types.length t.tc)).setCell ⟨b,o+5,none⟩ (.slice t.A t.kids.length t.cap)
theorem abd (us:List Tm) (n:Nat) (u:Tm):((((((jo us (n+1)).setIfInBounds (us.length*6) (.int .i64 u.kind)).setIfInBounds (us.length*6+1) (.int .i64 u.n)).setIfInBounds (us.length*6+2) (.string ⟨u.name.toArray⟩)).setIfInBounds (us.length*6+3) (.slice u.V u.vars.length u.vc)).setIfInBounds (us.length*6+4) (.slice u.T u.types.length u.tc)).setIfInBounds (us.length*6+5) (.slice u.A u.kids.length u.cap)=jo (us++[u]) n:=by
 unfold jo;have h1:(us++List.replicate (n+1) Tm.zero).flatMap eY.f=us.flatMap eY.f++(eY.f Tm.zero++(List.replicate n Tm.zero).flatMap eY.f):=by
  rw[List.flatMap_append,List.replicate_succ,List.flatMap_cons]
 have h2:(us++[u]++List.replicate n Tm.zero).flatMap eY.f=us.flatMap eY.f++(eY.f u++(List.replicate n Tm.zero).flatMap eY.f):=by
  rw[List.flatMap_append,List.flatMap_append,List.flatMap_cons,List.flatMap_nil,List.append_nil,List.append_assoc]
 have hl:(us.flatMap eY.f).length=us.length*6:=eU _ _ eY.hf _;rw[h1,h2,←hl];generalize us.flatMap eY.f=a;generalize (List.replicate n Tm.zero).flatMap eY.f=b;show((((((a++(([.int .i64 0,.int .i64 0,.string ⟨#[]⟩,.slice none 0 0,.slice none 0 0,.slice none 0 0]:List Value)++b)).toArray.setIfInBounds _ _).setIfInBounds _ _).setIfInBounds _ _).setIfInBounds _ _).setIfInBounds _ _).setIfInBounds _ _=(a++(([.int .i64 u.kind,.int .i64 u.n,encStr u.name,.slice u.V u.vars.length u.vc,.slice u.T u.types.length u.tc,.slice u.A u.kids.length u.cap]:List Value)++b)).toArray;simp only[aiQ]
 congr 1
 rw[List.set_append_right _ _ (aiG _),List.set_append_right _ _ (by omega),List.set_append_right _ _ (by omega),List.set_append_right _ _ (by omega),List.set_append_right _ _ (by omega),List.set_append_right _ _ (by omega)];simp
theorem lr (us:List Tm) (n:Nat):(jo us (n+1))[us.length*6]?=some (.int .i64 0)∧(jo us (n+1))[us.length*6+1]?=some (.int .i64 0)∧(jo us (n+1))[us.length*6+2]?=some (.string ⟨#[]⟩)∧(jo us (n+1))[us.length*6+3]?=some (.slice none 0 0)∧(jo us (n+1))[us.length*6+4]?=some (.slice none 0 0)∧(jo us (n+1))[us.length*6+5]?=some (.slice none 0 0):=by
 unfold jo;have h1:(us++List.replicate (n+1) Tm.zero).flatMap eY.f=us.flatMap eY.f++(eY.f Tm.zero++(List.replicate n Tm.zero).flatMap eY.f):=by
  rw[List.flatMap_append,List.replicate_succ,List.flatMap_cons]
 have hl:(us.flatMap eY.f).length=us.length*6:=eU _ _ eY.hf _;rw[h1,←hl];generalize us.flatMap eY.f=a;generalize (List.replicate n Tm.zero).flatMap eY.f=b;have e:eY.f Tm.zero=[.int .i64 0,.int .i64 0,.string ⟨#[]⟩,.slice none 0 0,.slice none 0 0,.slice none 0 0]:=rfl;rw[e];simp only[aiN];refine⟨?_,?_,?_,?_,?_,?_⟩<;>rw[List.getElem?_append_right (by omega)]<;>simp
theorem Fk (us:List Tm):jo us 0=(us.flatMap eY.f).toArray:=by unfold jo;simp
theorem abe {w:World}{b n:Nat}{us:List Tm}(u:Tm) (h:w.heap[b]?=some (.cells (jo us (n+1)) 40 (0,0))) :
  (CG w b (us.length*6) u).heap[b]?=some (.cells (jo (us++[u]) n) 40 (0,0)):=by
 rw[←abd];exact aw (aw (aw (aw (aw (aw h _ _) _ _) _ _) _ _) _ _) _ _
def Kr : Array Value:=#[.int .i64 0,.int .i64 0,.string ⟨#[]⟩,.slice none 0 0,.slice none 0 0,.slice none 0 0]
theorem Ks : (Tryz.prog.info? 40).map (fun i=>(i.zero,i.size,i.bytes))=some (some (.agg #[.int .i64 0,.int .i64 0,.string ⟨#[]⟩,.slice none 0 0,.slice none 0 0,.slice none 0 0]),6,104):=by kernel_rfl
theorem Fl (m:Nat):madeCells Kr (m*6)=jo [] m:=by
 unfold madeCells jo;rw[List.nil_append]
 apply Array.toList_inj.1
 rw[Array.toList_map,Array.toList_range]
 induction m with
 |zero=>rfl
 |succ m ih=>
  rw[List.replicate_succ',List.flatMap_append,show(m+1)*6=m*6+1+1+1+1+1+1 by omega,List.range_succ,List.range_succ,List.range_succ,List.range_succ,List.range_succ,List.range_succ,aiX,aiX,aiX,aiX,aiX,aiX,ih];simp only[List.append_assoc]
  congr 1
  have h0:(m*6) % 6=0:=by omega
  have h1:(m*6+1) % 6=1:=by omega
  have h2:(m*6+1+1) % 6=2:=by omega
  have h3:(m*6+1+1+1) % 6=3:=by omega
  have h4:(m*6+1+1+1+1) % 6=4:=by omega
  have h5:(m*6+1+1+1+1+1) % 6=5:=by omega
  simp only[List.map_cons,List.map_nil,show Kr.size=6 from rfl,h0,h1,h2,h3,h4,h5,List.flatMap_cons,List.flatMap_nil];rfl
theorem yY (m:Nat) (hm:m≤100000) (W:World):(Instr.makeSlice 28 (.int .i64 m) (.int .i64 m)).run Tryz.prog W=.ok (.slice (some ⟨W.heap.size,0,none⟩) m m) (W.alloc (.cells (jo [] m) 40)):=by
 obtain⟨i1,hj,nB,gI,gM⟩:=info_parts Ks;have jt:=run_make (P:=Tryz.prog) W 28 40 i1 _ Tryz.underlying28 hj nB .i64 .i64 m m (by omega) (Int.le_refl _) (by rw[gM];omega) (by omega);rw[gI,Int.toNat_natCast,show(Value.agg #[.int .i64 0,.int .i64 0,.string ⟨#[]⟩,.slice none 0 0,.slice none 0 0,.slice none 0 0]).cells=Kr from rfl,Fl] at jt;exact jt
theorem lu {n first:Int}(h:n<1∨n>4096∨first<0∨first>1099511627776):cm n first=[]:=if_pos h
theorem Bk {n f:Nat}(h1:¬(n:Int)<1) (h2:¬(n:Int)>4096) (h4:¬(f:Int)>1099511627776):cm n f=(List.range n).map fun(i:Nat)=>iG ((f+i:Nat):Int):=by
 unfold cm;rw[if_neg (by omega),Int.toNat_natCast];exact List.map_congr_left fun i _=>by rw[Int.natCast_add]
theorem ND (w:World) (m:Nat) (h:m≤9223372036854775807):aQ w (iG m):=by
 have NN:=iY 19 m (Nat.lt_of_le_of_lt h (by decide));exact .mk ⟨aiH _,by show 0≤9223372036854775807;omega,aiH _,by show 0≤9223372036854775807;omega,aiH _,by show 0≤9223372036854775807;omega,by show(([35]:aj)++cj (m:Int).toNat).length≤_;rw[Int.toNat_natCast,aiL,List.length_singleton];omega,ak.nil _ _ _,bH.nil _ _,ak.nil _ _ _⟩ (by intro k hk;cases hk)
set_option maxRecDepth 10000
set_option maxHeartbeats 8000000
theorem NF (n first:Int) (w:World):Calls Tryz.prog 23 #[.int .i64 n,.int .i64 first] w fun e w'=>(∃A c,e=.returned (.slice A (cm n first).length c)∧(cm n first).length≤c∧c≤9223372036854775807∧bm w' A (cm n first))∧Ext w w':=by
 by_cases h1:n<1
 ·rw[lu (.inl h1)];go_enter Tryz.func23,Tryz.ntmps23;go_wp2;go_ret
  first
   |exact⟨⟨none,0,rfl,aiG _,aiH _,⟨ak.nil _ _ _,fun t h=>absurd h (by simp)⟩⟩,eR _⟩
   |exact⟨⟨none,0,rfl,aiH _,⟨ak.nil _ _ _,fun t h=>absurd h (by simp)⟩⟩,eR _⟩
   |exact⟨⟨none,0,rfl,⟨ak.nil _ _ _,fun t h=>absurd h (by simp)⟩⟩,eR _⟩
 by_cases h2:n>4096
 ·rw[lu (.inr (.inl h2))];go_enter Tryz.func23,Tryz.ntmps23;go_wp2;go_ret
  first
   |exact⟨⟨none,0,rfl,aiG _,aiH _,⟨ak.nil _ _ _,fun t h=>absurd h (by simp)⟩⟩,eR _⟩
   |exact⟨⟨none,0,rfl,aiH _,⟨ak.nil _ _ _,fun t h=>absurd h (by simp)⟩⟩,eR _⟩
   |exact⟨⟨none,0,rfl,⟨ak.nil _ _ _,fun t h=>absurd h (by simp)⟩⟩,eR _⟩
 by_cases h3:first<0
 ·rw[lu (.inr (.inr (.inl h3)))];go_enter Tryz.func23,Tryz.ntmps23;go_wp2;go_ret
  first
   |exact⟨⟨none,0,rfl,aiG _,aiH _,⟨ak.nil _ _ _,fun t h=>absurd h (by simp)⟩⟩,eR _⟩
   |exact⟨⟨none,0,rfl,aiH _,⟨ak.nil _ _ _,fun t h=>absurd h (by simp)⟩⟩,eR _⟩
   |exact⟨⟨none,0,rfl,⟨ak.nil _ _ _,fun t h=>absurd h (by simp)⟩⟩,eR _⟩
 by_cases h4:first>1099511627776
 ·rw[lu (.inr (.inr (.inr h4)))];go_enter Tryz.func23,Tryz.ntmps23;go_wp2;go_ret
  first
   |exact⟨⟨none,0,rfl,aiG _,aiH _,⟨ak.nil _ _ _,fun t h=>absurd h (by simp)⟩⟩,eR _⟩
   |exact⟨⟨none,0,rfl,aiH _,⟨ak.nil _ _ _,fun t h=>absurd h (by simp)⟩⟩,eR _⟩
   |exact⟨⟨none,0,rfl,⟨ak.nil _ _ _,fun t h=>absurd h (by simp)⟩⟩,eR _⟩
 obtain⟨N,rfl⟩:∃N:Nat,n=N:=⟨n.toNat,by omega⟩;obtain⟨f,rfl⟩:∃f:Nat,first=f:=⟨first.toNat,by omega⟩
 have hNf:=Bk (n:=N) (f:=f) h1 h2 h4;rw[hNf];clear hNf;have jt:=yY N (by omega) w;obtain⟨W,hW⟩:∃W,W=w.alloc (.cells (jo [] N) 40):=⟨_,rfl⟩;rw[←hW] at jt;have X0:aiE (Ext w W):=aa (by rw[hW];exact(eR _).alloc _);have B0:aiE (W.heap[w.heap.size]?=some (.cells (jo [] N) 40 (0,0))):=aa (by rw[hW];exact ah _ _ _ rfl);have hlw:=ae B0.o;have b1:¬N<1:=by omega
 have b2:¬4096<N:=by omega
 clear hW;go_enter Tryz.func23,Tryz.ntmps23;go_wp2
 go_loopw [25] (fun i wr=>∃k:Nat,k≤N∧i=.int .i64 k∧aiE (wr.heap[w.heap.size]?=some (.cells (jo ((List.range k).map fun(i:Nat)=>iG ((f+i:Nat):Int)) (N - k)) 40 (0,0)))∧aiE (Ext w wr)) (fun i _=>N - (intOf i).toNat)
 case atStart=>exact⟨0,aiH _,rfl,aa (by rw[List.range_zero];exact B0.o),X0⟩
 case round=>
  obtain⟨k,hk,rfl,HR,HX⟩:=hrel
  by_cases hlt:k<N
  ·have aN:(k:Int)<(N:Int):=by omega
   have cV:(0:Int)≤(k:Int):=by omega
   obtain⟨m,hm⟩:∃m:Nat,m=f+k:=⟨_,rfl⟩;have PI:IntKind.i64.wrap ((f:Int)+(k:Int))=(m:Int):=by rw[IntKind.wrap_i64];omega
   have HT:=aa (qy m (by omega) wr);have hd:=iY 19 m (by omega);have hsz:¬((⟨[(35:UInt8)].toArray⟩:ByteArray).size+(⟨(cj m).toArray⟩:ByteArray).size>9223372036854775807):=by rw[aB,aB];simp;omega
   have e1:=ByteArray.mk_append_mk [(35:UInt8)] (cj m);obtain⟨q,hq⟩:∃q,N - k=q+1:=⟨N - k - 1,by omega⟩;have Hq2:aiE (N - (k+1)=q):=aa (by omega);have Hrs:aiE ((List.range (k+1)).map (fun(i:Nat)=>iG ((f+i:Nat):Int))=(List.range k).map (fun(i:Nat)=>iG ((f+i:Nat):Int))++[iG m]):=aa (by rw[List.range_succ,aiX,List.map_singleton,hm]);have Nk:((List.range k).map fun(i:Nat)=>iG ((f+i:Nat):Int)).length=k:=by simp
   rw[hq] at HR;generalize ((List.range k).map fun(i:Nat)=>iG ((f+i:Nat):Int))=us at *;have Hln:=aa Nk;clear hq Nk hm;go_wp2_with fail;refine HT.o.mono ?_;rintro e w3 ⟨rfl,hx⟩;have iR:=aa ((hx.heap (ae HR.o)).trans HR.o);have X3:=aa (HX.o.trans hx);have N9:=aa (abe (iG m) iR.o);have XU:aiE (Ext w (CG w3 w.heap.size (us.length*6) (iG m))):=aa ((((((X3.o.setCell (by simp) _).setCell (by simp) _).setCell (by simp) _).setCell (by simp) _).setCell (by simp) _).setCell (by simp) _);have f0:=ai iR.o (us.length*6);have f1:=ai iR.o (us.length*6+1);have f2:=ai iR.o (us.length*6+2);have f3:=ai iR.o (us.length*6+3);have f4:=ai iR.o (us.length*6+4);have f5:=ai iR.o (us.length*6+5);have k0:=(ag iR.o (us.length*6)).trans (lr us q).1;have k1:=(ag iR.o (us.length*6+1)).trans (lr us q).2.1;have k2:=(ag iR.o (us.length*6+2)).trans (lr us q).2.2.1;have k3:=(ag iR.o (us.length*6+3)).trans (lr us q).2.2.2.1;have k4:=(ag iR.o (us.length*6+4)).trans (lr us q).2.2.2.2.1;have k5:=(ag iR.o (us.length*6+5)).trans (lr us q).2.2.2.2.2;rw[Hln.o] at f0 f1 f2 f3 f4 f5 k0 k1 k2 k3 k4 k5 N9 XU;have Y6:=ae iR.o;clear hx iR HT;go_wp2;go_roundw
   case rel=>exact⟨k+1,hlt,by go_num,aa (by rw[Hq2.o,Hrs.o];exact N9.o),XU⟩
   case measure=>simp[intOf];omega
  ·have bS:¬(k:Int)<(N:Int):=by omega
   have KV:k=N:=by omega
   subst KV;have LW:aiE (wr.heap[w.heap.size]?=some (.cells (((List.range k).map fun(i:Nat)=>iG ((f+i:Nat):Int)).flatMap eY.f).toArray 40 (0,0))):=aa (by have:=HR.o;rwa [Nat.sub_self,Fk] at this);have HF:aiE (bm wr (some ⟨w.heap.size,0,none⟩) ((List.range k).map fun(i:Nat)=>iG ((f+i:Nat):Int))):=aa ⟨ak.block eY _ LW.o,fun t ht=>by
    obtain⟨i,hi,rfl⟩:=List.mem_map.1 ht;have:=List.mem_range.1 hi;exact ND _ _ (by omega)⟩
   clear HR LW;go_wp2;go_ret;exact⟨⟨_,_,rfl,aiG _,by omega,HF.o⟩,HX.o⟩
theorem Rp (t:Tm) (s:aj) (hT:fY t s) (hL:cx t=true) (hf:dt t) (hsz:t.size≤100000) (w:World) (h:aQ w t):Calls Tryz.prog 24 #[bz t] w fun e w'=>e=.returned (encStr s)∧Ext w w':=by
 have fI:=aa (av.new w t);have X0:aiE (Ext w (w.alloc (.cells #[.int .i64 t.kind,.int .i64 t.n,encStr t.name,.slice t.V t.vars.length t.vc,.slice t.T t.types.length t.tc,.slice t.A t.kids.length t.cap] 40))):=aa ((eR w).alloc _);obtain⟨c0,c1,c2,c3,c4,c5⟩:=fI.o.cells;have oV:=aa (fun w' (e:Ext w w')=>aa (Cl t w' (h.ext e) hf (by omega)));rw[hL] at oV;have HTx:=aa (fun w' (e:Ext w w')=>aa (hT w' (h.ext e)));clear h hf hT hL;unfold bz at *;go_enter Tryz.func24,Tryz.ntmps24;go_wp2_with fail;refine(oV.o _ X0.o).o.mono ?_;rintro e w2 ⟨rfl,hx⟩;have X2:=aa (X0.o.trans hx);obtain⟨c0,c1,c2,c3,c4,c5⟩:=(fI.o.ext hx).cells;clear hx;go_wp2_with fail;refine(HTx.o _ X2.o).o.mono ?_;rintro e w3 ⟨rfl,hx⟩;go_wp2;go_ret;exact⟨rfl,X2.o.trans hx⟩
set_option maxRecDepth 512
set_option maxHeartbeats 200000
end Go.Proofs.YtigafbmabjglfaaGreatDoor
