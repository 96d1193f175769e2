import Derived.Test.YtigafbmabjglfaaGreatDoorJA20
namespace Go.Proofs.YtigafbmabjglfaaGreatDoor
open Go.RowKit
set_option maxHeartbeats 1000000 in
theorem Uc (A:Option Addr) (cap:Nat) (l:List dY) (name:aj) (w:World) (h:lG w A l) (hle:l.length≤9223372036854775807) :
  Calls Tryz.prog 83 #[.slice A l.length cap,encStr name] w fun e w'=>(∃n:Int,e=.returned (.int .i64 n)∧(zu l name=none→n = -1)∧∀c,zu l name=some c→∃(i:Nat) (hi:i<l.length),n=(i:Int)∧l[i]'hi=c)∧w'=w:=by
 have Hr:=aa h;obtain⟨F,hF⟩:∃F,F=zu l name:=⟨_,rfl⟩;rw[←hF];have HF:aiE (F=(l.drop 0).find? fun c=>c.name == name):=aa (by rw[hF,List.drop_zero];rfl);clear hF h;go_enter Tryz.func83,Tryz.ntmps83;go_wp2
 go_loop [5] (fun i=>∃j:Nat,j≤l.length∧i=.int .i64 j∧aiE (F=(l.drop j).find? fun c=>c.name == name)) (fun i=>l.length - (intOf i).toNat)
 case atStart=>exact⟨0,aiH _,rfl,HF⟩
 case round=>
  obtain⟨j,hj,rfl,HR⟩:=hrel
  by_cases hlt:j<l.length
  ·obtain⟨b,o,rfl,hb,hc,hc1,hc2⟩:=Hr.o.at_ hlt;have aN:(j:Int)<(l.length:Int):=by omega
   have dU:aiE (F=if ((l[j]'hlt).name == name)=true then some (l[j]'hlt) else(l.drop (j+1)).find? fun c=>c.name == name):=aa (by
    rw[HR.o,List.drop_eq_getElem_cons hlt,List.find?_cons];cases((l[j]'hlt).name == name)<;>rfl)
   have Hj:aiE (∃(hi:j<l.length),l[j]'hi=l[j]'hlt):=aa ⟨hlt,rfl⟩;generalize l[j]'hlt=c at *;clear hc1 hc2;cases hs:(c.name == name)
   ·rw[hs] at dU;go_wp2
    go_round
    case rel=>exact⟨j+1,hlt,by go_num,aa (by have:=dU.o;simpa using this)⟩
    case measure=>simp[intOf];omega
   ·rw[hs] at dU;have hF:F=some c:=by have:=dU.o;simpa using this
    clear HR dU HF;subst hF;go_wp2;go_ret;refine⟨⟨_,rfl,?_⟩,rfl⟩
    first
     |exact⟨fun h=>by cases h,fun c' h=>by injection h with h;subst h;exact⟨j,Hj.o.1,rfl,Hj.o.2⟩⟩
     |exact⟨j,rfl,Hj.o.1,Hj.o.2⟩
  ·have bS:(l.length:Int)≤(j:Int):=by omega
   have hF:F=none:=by have:=HR.o;rw[List.drop_eq_nil_of_le (by omega)] at this;simpa using this
   clear HR HF;subst hF;go_wp2;go_ret
   first
    |exact⟨⟨_,rfl,fun _=>rfl,fun c h=>by cases h⟩,rfl⟩
    |exact⟨⟨_,rfl,rfl⟩,rfl⟩
    |exact⟨rfl,rfl⟩
structure iU (types:List Ty) (k:Nat) (s:List Pr):Prop where
 iT:gg s
 len:s.length=k
 mem:∀p∈s,∃(i:Nat) (h:i<types.length),i<k∧p=⟨(i:Int),types[i]'h⟩
 has:∀(i:Nat) (h:i<types.length),i<k→(⟨(i:Int),types[i]'h⟩:Pr)∈s
theorem iU.zero (types:List Ty):iU types 0 []:=⟨List.Pairwise.nil,rfl,by simp,fun i _ h=>absurd h (by omega)⟩
theorem iU.Ii {types:List Ty}{k:Nat}{s:List Pr}(h:iU types k s):putAt (bF s) (bG s) (k:Int)=none:=by
 rw[np h.iT];intro p hp e;obtain⟨i,hi,hik,rfl⟩:=h.mem p hp;have:(i:Int)=(k:Int):=e;omega
theorem iU.at_ {types:List Ty}{k:Nat}{s:List Pr}(h:iU types k s) (i:Nat) (hi:i<types.length) (hik:i<k):putAt (bF s) (bG s) (i:Int)=some (types[i]'hi):=
 (ee h.iT).2 ⟨_,h.has i hi hik,rfl,rfl⟩
theorem iU.step {types:List Ty}{k:Nat}{s:List Pr}(h:iU types k s) (hk:k<types.length){i:Nat}(hl:vA s (k:Int) i):iU types (k+1) (cG s i (k:Int) (types[k]'hk)):=by
 have hn:dZ s (k:Int) i=false:=by
  have h1:=tR h.iT hl;rw[h.Ii] at h1;cases e:dZ s (k:Int) i
  ·rfl
  ·exact absurd (h1.1 e) (by simp)
 refine⟨kQ h.iT hl hn,by rw[kn hl.le,h.len],fun p hp => ?_,fun j hj hjk => ?_⟩
 ·rcases gh.1 hp with rfl|hp
  ·exact⟨k,hk,by omega,rfl⟩
  ·obtain⟨j,hj,hjk,e⟩:=h.mem p hp;exact⟨j,hj,by omega,e⟩
 ·rw[gh]
  by_cases e:j=k
  ·subst e;exact .inl rfl
  ·exact .inr (h.has j hj (by omega))
theorem iU.tW {types:List Ty}{k:Nat}{s:List Pr}(h:iU types k s) (ht:∀t∈types,ax t=true):∀p∈s,ax p.ty=true:=by
 intro p hp;obtain⟨i,hi,-,rfl⟩:=h.mem p hp;exact ht _ (aiF hi)
theorem fj {n:Int}{p:Pd}(h:bj n p=true):∃(v:Nat) (A:Option Addr) (c:Nat),p.ty=.mk [] v A c []∧(v:Int)<n:=by
 unfold bj at h;simp only[aiT,decide_eq_true_eq] at h;obtain⟨⟨⟨⟨-,h1⟩,h2⟩,h3⟩,h4⟩:=h;obtain⟨cls,s,v,A,c,l⟩:=p;have h1:(s == ([]:aj))=true:=h1;have h2:l.isEmpty=true:=h2;have e1:s=[]:=by simpa using h1
 have e2:l=[]:=by simpa using h2
 subst e1 e2;have h3:0≤v:=h3;have h4:v<n:=h4;exact⟨v.toNat,A,c,by rw[Int.toNat_of_nonneg h3],by omega⟩
def my (types:List Ty) (preds ds:List Pd):Prop:=ds.length=preds.length∧∀i (h1:i<ds.length) (h2:i<preds.length),(ds[i]'h1).cls=(preds[i]'h2).cls∧∃h:(preds[i]'h2).ty.var.toNat<types.length,(ds[i]'h1).ty.pure=(types[(preds[i]'h2).ty.var.toNat]'h).pure
theorem iU.Mk {types:List Ty}{n:Int}{s:List Pr}(h:iU types types.length s) (hn:n≤types.length) (ht:∀t∈types,ax t=true){preds:List Pd}(hp:∀p∈preds,bj n p=true):vU s preds:=by
 intro p Qh;obtain⟨v,A,c,e,hv⟩:=fj (hp p Qh);have nY:v<types.length:=by omega
 have hat:=h.at_ v nY nY;obtain⟨l1,l2,-⟩:=aS (ht _ (aiF nY));rw[e];refine⟨oo _ _ _,?_,?_⟩
 ·rw[jE,if_pos (show(Ty.mk [] (v:Int) A c []).aq=[] from rfl)];show(match putAt (bF s) (bG s) (v:Int) with|some u=>u.size|none=>1)≤4096;rw[hat];exact l1
 ·rw[mi,if_pos (show(Ty.mk [] (v:Int) A c []).aq=[] from rfl)];show(match putAt (bF s) (bG s) (v:Int) with|some u=>u.depth|none=>1)≤100;rw[hat];exact l2
theorem iU.BX {types:List Ty}{n:Int}{s:List Pr}(h:iU types types.length s) (hn:n≤types.length){preds ds:List Pd}(hp:∀p∈preds,bj n p=true) (hd:ds.map (fun d=>(d.cls,d.ty.pure))=preds.map fun x=>(x.cls,fZ (bF s) (bG s) x.ty)):my types preds ds:=by
 have hl:ds.length=preds.length:=by simpa using congrArg List.length hd
 refine⟨hl,fun i h1 h2 => ?_⟩;have e:(ds.map (fun d=>(d.cls,d.ty.pure)))[i]?=(preds.map fun x=>(x.cls,fZ (bF s) (bG s) x.ty))[i]?:=by rw[hd]
 rw[List.getElem?_map,List.getElem?_map,aiU h1,aiU h2] at e;simp only[Option.map_some,Option.some.injEq,Prod.mk.injEq] at e;obtain⟨v,A,c,et,hv⟩:=fj (hp _ (aiF h2));have nY:v<types.length:=by omega
 refine⟨e.1,?_⟩;rw[e.2,et];refine⟨nY,?_⟩;rw[eX,if_pos (show(Ty.mk [] (v:Int) A c []).aq=[] from rfl)];show((putAt (bF s) (bG s) (v:Int)).getD _).pure=_;rw[h.at_ v nY nY];rfl
set_option maxRecDepth 10000
set_option maxHeartbeats 8000000
theorem Ij (x:cL) (T:Option Addr) (tc:Nat) (types:List Ty) (w:World) (hx:pG w x) (hi:bE x=true) (hT:bH w T types) (hn:x.n=types.length) (ht:∀t∈types,ax t=true∧t.size≤900000) (hpl:x.preds.length≤40000) :
  Calls Tryz.prog 130 #[xq x,.slice T types.length tc] w fun e w'=>(∃A cap ds,e=.returned (.slice A ds.length cap)∧bg w' A ds∧my types x.preds ds)∧Ext w w':=by
 have Ud:types.length≤100:=by
  unfold bE fA at hi;simp only[aiT,decide_eq_true_eq] at hi;have:=hi.1.2;omega
 have qX:∀p∈x.preds,bj x.n p=true:=by
  unfold bE at hi;rw[aiT,aiY] at hi;exact hi.2
 have Hh:=aa qX;obtain⟨W,hW⟩:∃W,W=w.alloc (.cells #[encStr x.cls,encStr x.aq,.int .i64 x.n,.slice x.A x.preds.length x.cap] 70):=⟨_,rfl⟩;have HW:=aa hW.symm;have X0:aiE (Ext w W):=aa (by rw[hW];exact(eR _).alloc _);have B1:aiE (eV W w.heap.size x):=aa (by rw[hW];exact eV.new w x);have HT:=aa hT;have Ht:=aa ht;have HP:=aa hx.row;have Hn:=aa hn;clear hW hx hi hT ht qX hn;unfold xq;go_enter Tryz.func130,Tryz.ntmps130;go_upto_region 1 with fail;rw[HW.o];clear HW;go_wp2
 go_loopw [5,6] (fun v i wr=>∃(k:Nat) (s:List Pr) (A:Option Addr) (cap:Nat),k≤types.length∧i=.int .i64 k∧v=.slice A s.length cap∧s.length≤cap∧cap≤9223372036854775807∧aiE (Ext W wr)∧aiE (ft wr A s)∧aiE (iU types k s)) (fun _ i _=>types.length - (intOf i).toNat)
 case atStart=>exact⟨0,[],none,0,aiH _,rfl,rfl,aiG _,by omega,aa (eR _),aa ⟨ak.nil _ _ _,by simp⟩,aa (iU.zero _)⟩
 case round=>
  obtain⟨k,s,A,cap,hk,rfl,rfl,h1,h2,HX,HS,HN⟩:=hrel;have XR:=aa (X0.o.trans HX.o)
  by_cases hlt:k<types.length
  ·have aN:(k:Int)<(types.length:Int):=by omega
   have cV:(0:Int)≤(k:Int):=by omega
   obtain⟨b,o,rfl,hb,q0,q1,q2⟩:=(HT.o.ext XR.o).at_ hlt;have sg:=Ht.o _ (aiF hlt);have HC:=aa (BW A cap s (k:Int) (types[k]'hlt) wr HS.o h1 h2 HN.o.iT ((HT.o.args _ (aiF hlt)).ext XR.o) sg.2 sg.1 (by have:=HN.o.len;omega) HN.o.Ii);have Si:=aa (fun i (hl:vA s (k:Int) i)=>HN.o.step hlt hl);generalize types[k]'hlt=t at *;unfold bl at HC;go_wp2_with fail;refine HC.o.mono ?_;rintro e w5 ⟨⟨i,A5,c5,rfl,Pc,sx,h3,h4⟩,hx⟩;have X5:=aa (HX.o.trans hx);have Sj:=aa sx;have Zo:=aa (Si.o i Pc);clear Pc sx hx HC q0 q1 q2 sg;go_wp2;go_roundw
   case rel=>exact⟨k+1,_,A5,c5,hlt,by go_num,rfl,h3,h4,X5,Sj,Zo⟩
   case measure=>simp[intOf];omega
  ·have bS:¬(k:Int)<(types.length:Int):=by omega
   obtain⟨d0,d1,d2,d3⟩:=(B1.o.ext HX.o).cells;have ld:=(B1.o.ext HX.o).lt;have FI:aiE (iU types types.length s):=aa (by have:=HN.o;rwa [show k=types.length by omega] at this);have xW:x.n≤(types.length:Int):=by have:=Hn.o;omega
   have HC:=aa (uu A cap s x.A x.cap x.preds wr HS.o (by omega) (FI.o.tW (fun t h=>(Ht.o t h).1)) (HP.o.ext XR.o) hpl (FI.o.Mk xW (fun t h=>(Ht.o t h).1) Hh.o));go_wp2_with fail;refine HC.o.mono ?_;rintro e w5 ⟨⟨v,ds,rfl,hown,mQ⟩,hx⟩;obtain⟨A9,c9,rfl,-,-,hrow,-⟩:=ak.own j8 hown;have KZ:=aa (FI.o.BX xW Hh.o mQ.is);have HR:aiE (bg w5 A9 ds):=aa ⟨hrow,fun d hd=>⟨by
    obtain⟨i,hi,rfl⟩:=List.mem_iff_getElem.1 hd;have h2:i<x.preds.length:=by rw[←KZ.o.1];exact hi
    rw[(KZ.o.2 i hi h2).1];exact(HP.o.all _ (aiF h2)).cls,mQ.ty d hd⟩⟩
   have X5:=aa (XR.o.trans hx);clear hown mQ hrow hx HC d0 d1 d2 d3 ld;go_wp2;go_ret;exact⟨⟨A9,c9,ds,rfl,HR.o,KZ.o⟩,X5.o⟩
theorem qY (a:Ty):∀(b:Ty) (w:World),aH w a→aH w b→Calls Tryz.prog 31 #[bl a,bl b] w fun e w'=>e=.returned (.bool (bN a b))∧Ext w w':=by
 induction a using Ty.ind with
 |h a ih=>
 intro b w ha hb;have IH:=aa ih;have NL:=aa ha.all;have NM:=aa hb.all;have Pb:=ha.le;have hma:=ha.max;have Pc:=hb.le;have hmb:=hb.max;obtain⟨W,hW⟩:∃W,W=(w.alloc (.cells #[encStr a.aq,.int .i64 a.var,.slice a.A a.args.length a.cap] 53)).alloc (.cells #[encStr b.aq,.int .i64 b.var,.slice b.A b.args.length b.cap] 53):=⟨_,rfl⟩;have X0:aiE (Ext w W):=aa (by rw[hW];exact((eR _).alloc _).alloc _);have B1:aiE (aU W w.heap.size a):=aa (by rw[hW];exact(aU.new w a).ext ((eR _).alloc _));have B2:aiE (aU W (w.heap.size+1) b):=aa (by rw[hW];have:=aU.new (w.alloc (.cells #[encStr a.aq,.int .i64 a.var,.slice a.A a.args.length a.cap] 53)) b;rwa [World.size_alloc] at this);have HP:=aa (oQ a b);clear ih ha hb;unfold bl at *;have c0:=B1.o.c0;have c1:=B1.o.c1;have c2:=B1.o.c2;have d0:=B2.o.c0;have d1:=B2.o.c1;have d2:=B2.o.c2;have key:∀c,lC a b=c→(c=false→bN a b=false):=fun c h e=>by subst e;rw[HP.o];unfold lC at h;rw[h];rfl
 cases hc:(a.aq == b.aq)
 ·have hR:bN a b=false:=key _ (by unfold lC;simp at hc;simp[hc]) rfl;rw[hR];clear hR key HP;go_enter Tryz.func31,Tryz.ntmps31;go_wp2;rw[←hW];clear hW;go_ret;exact⟨rfl,X0.o⟩
 cases hv:(a.var == b.var)
 ·have hR:bN a b=false:=key _ (by unfold lC;simp at hv;simp[hv]) rfl;rw[hR];clear hR key HP;go_enter Tryz.func31,Tryz.ntmps31;go_wp2;rw[←hW];clear hW;go_ret;exact⟨rfl,X0.o⟩
 have Xc:a.var=b.var:=by simpa using hv
 cases hl:((a.args.length:Int) == (b.args.length:Int))
 ·have hR:bN a b=false:=key _ (by unfold lC;simp at hl;simp[show ¬a.args.length=b.args.length by omega]) rfl;rw[hR];clear hR key HP;clear hv;rw[←Xc] at hW d1 ⊢;clear Xc;go_enter Tryz.func31,Tryz.ntmps31;go_wp2;rw[←hW];clear hW;go_ret;exact⟨rfl,X0.o⟩
 have HL:aiE (a.args.length=b.args.length):=aa (by simp at hl;omega);have HR:aiE (bN a b=(a.args.zip b.args).all fun p=>bN p.1 p.2):=aa (by rw[HP.o];simp at hc hv;simp[hc,hv,HL.o]);clear key hv hl HP;generalize bN a b=R at *;rw[←Xc] at hW d1 ⊢;rw[←HL.o] at hW d2 ⊢;clear Xc;go_enter Tryz.func31,Tryz.ntmps31;go_wp2;rw[←hW];clear hW;have O1:aiE (∀p∈(a.args.zip b.args).take 0,bN p.1 p.2=true):=aa (by simp);have Ye:=aa (eR W);go_wp2
 go_loopw [5] (fun i wr=>∃k:Nat,k≤a.args.length∧i=.int .i64 k∧aiE (∀p∈(a.args.zip b.args).take k,bN p.1 p.2=true)∧aiE (Ext W wr)) (fun i _=>a.args.length - (intOf i).toNat)
 case atStart=>exact⟨0,aiH _,rfl,O1,Ye⟩
 case round=>
  obtain⟨k,hk,rfl,HA,HX⟩:=hrel;have C1:=B1.o.ext HX.o;have C2:=B2.o.ext HX.o;have c0:=C1.c0;have c1:=C1.c1;have c2:=C1.c2;have d0:=C2.c0;have d1:=C2.c1;have d2:=C2.c2;clear C1 C2
  by_cases hlt:k<a.args.length
  ·have gJ:k<b.args.length:=by rw[←HL.o];exact hlt
   have aN:(k:Int)<(a.args.length:Int):=by omega
   have SK:(k:Int)<(b.args.length:Int):=by omega
   have cV:(0:Int)≤(k:Int):=by omega
   have XR:=aa (HX.o);obtain⟨p,o,SL,hp,q0,q1,q2⟩:=(NL.o.ext (X0.o.trans XR.o)).at_ hlt;obtain⟨p',o',SM,F0,r0,r1,r2⟩:=(NM.o.ext (X0.o.trans XR.o)).at_ gJ;have HC:=aa (fun w' (e:Ext wr w')=>aa (IH.o _ (aiF hlt) (b.args[k]'gJ) w' ((NL.o.args _ (aiF hlt)).ext (X0.o.trans (XR.o.trans e))) ((NM.o.args _ (aiF gJ)).ext (X0.o.trans (XR.o.trans e)))));have dh:aiE ((a.args.zip b.args).take (k+1)=(a.args.zip b.args).take k++[(a.args[k]'hlt,b.args[k]'gJ)]):=aa (by
    rw[aiJ (by rw[List.length_zip];omega),List.getElem_zip])
   have mZ:aiE ((a.args[k]'hlt,b.args[k]'gJ)∈a.args.zip b.args):=aa (by rw[List.mem_iff_getElem];exact⟨k,by rw[List.length_zip];omega,List.getElem_zip⟩);rw[SL] at c2;rw[SM,←HL.o] at d2;clear SL SM;have Fv:=aa (fun w' (e:Ext wr w')=>aiI (e.cell c2) (aiI (e.cell d2) (aiI (e.cell q0) (aiI (e.cell q1) (aiI (e.cell q2) (aiI (e.cell r0) (aiI (e.cell r1) (e.cell r2))))))));generalize a.args[k]'hlt=x at *;generalize b.args[k]'gJ=y at *;go_wp2
   go_region_held3 (fun w'=>w'.cell? ⟨w.heap.size,2,none⟩=some (.slice (some ⟨p,o,none⟩) a.args.length a.cap)∧w'.cell? ⟨w.heap.size+1,2,none⟩=some (.slice (some ⟨p',o',none⟩) a.args.length b.cap)∧w'.cell? ⟨p,o+k*3,none⟩=some (.string ⟨x.aq.toArray⟩)∧w'.cell? ⟨p,o+k*3+1,none⟩=some (.int .i64 x.var)∧w'.cell? ⟨p,o+k*3+2,none⟩=some (.slice x.A x.args.length x.cap)∧w'.cell? ⟨p',o'+k*3,none⟩=some (.string ⟨y.aq.toArray⟩)∧w'.cell? ⟨p',o'+k*3+1,none⟩=some (.int .i64 y.var)∧w'.cell? ⟨p',o'+k*3+2,none⟩=some (.slice y.A y.args.length y.cap)) (first|assumption|go_keep) (first
    |(
     go_at_call 31
     refine Calls.mono (HC.o _ ((eR _).drew)).o ?_;rintro e w5 ⟨rfl,jA⟩;have X5:=aa (HX.o.trans (((eR wr).drew).trans jA));have k5:=Fv.o _ (((eR wr).drew).trans jA);clear jA))
   clear k5;cases hs:bN x y
   ·have hR:R=false:=by
     rw[HR.o,←Bool.not_eq_true,aiY];intro h;have:=h _ mZ.o;rw[hs] at this;cases this
    clear HR;subst hR;go_wp2;go_ret;exact⟨rfl,X0.o.trans (X5.o)⟩
   ·go_wp2;go_roundw
    case rel=>
     refine⟨k+1,hlt,by go_num,aa (fun p hp => ?_),X5⟩;rw[dh.o,List.mem_append,aiV] at hp
     rcases hp with hp|rfl
     ·exact HA.o p hp
     ·exact hs
    case measure=>simp[intOf];omega
  ·have bS:¬(k:Int)<(a.args.length:Int):=by omega
   have hR:R=true:=by
    rw[HR.o,aiY];intro p hp;exact HA.o p (by rw[aiK (by rw[List.length_zip];omega)];exact hp)
   clear HR;subst hR;go_wp2;go_ret;exact⟨rfl,X0.o.trans (HX.o)⟩
theorem DT (a b:Pd) (w:World) (ha:aH w a.ty) (hb:aH w b.ty) :
  Calls Tryz.prog 131 #[fN a,fN b] w fun e w'=>e=.returned (.bool (a.cls == b.cls&&bN a.ty b.ty))∧Ext w w':=by
 obtain⟨W,hW⟩:∃W,W=(w.alloc (.cells #[encStr a.cls,encStr a.ty.aq,.int .i64 a.ty.var,.slice a.ty.A a.ty.args.length a.ty.cap] 55)).alloc (.cells #[encStr b.cls,encStr b.ty.aq,.int .i64 b.ty.var,.slice b.ty.A b.ty.args.length b.ty.cap] 55):=⟨_,rfl⟩;have HW:=aa hW.symm;have X0:aiE (Ext w W):=aa (by rw[hW];exact((eR _).alloc _).alloc _);have B1:aiE (aR W w.heap.size a):=aa (by rw[hW];exact(aR.new w a).ext ((eR _).alloc _));have B2:aiE (aR W (w.heap.size+1) b):=aa (by rw[hW];exact ah _ _ _ (by simp));have HS:=aa (qY a.ty b.ty W (ha.ext X0.o) (hb.ext X0.o));obtain⟨c0,c1,c2,c3⟩:=B1.o.cells;obtain⟨d0,d1,d2,d3⟩:=B2.o.cells;have hb1:=B1.o.lt;have hb2:=B2.o.lt;clear hW ha hb;unfold bl at HS;unfold fN;generalize bN a.ty b.ty=R at *;cases hq:(a.cls == b.cls)
 ·go_enter Tryz.func131,Tryz.ntmps131;go_upto_region 1 with fail;rw[HW.o];go_wp2;go_ret;exact⟨rfl,X0.o⟩
 ·go_enter Tryz.func131,Tryz.ntmps131;go_upto_region 1 with fail;rw[HW.o];go_wp2_with fail;refine HS.o.mono ?_;rintro e w2 ⟨rfl,hx⟩;go_wp2;go_ret;exact⟨rfl,X0.o.trans hx⟩
set_option maxRecDepth 512
set_option maxHeartbeats 200000
theorem DU {types:List Ty}{preds ds:List Pd}(h:my types preds ds){k:Nat}(h1:k<ds.length) (h2:k<preds.length) (a:Pd):(a.cls == (ds[k]'h1).cls&&bN a.ty (ds[k]'h1).ty)=gi types (preds[k]'h2) (some a):=by
 obtain⟨e1,hv,e2⟩:=h.2 k h1 h2;show _=((a.cls == (preds[k]'h2).cls)&&bN a.ty (types.getD (preds[k]'h2).ty.var.toNat Ty.zero));rw[e1,show types.getD (preds[k]'h2).ty.var.toNat Ty.zero=types[(preds[k]'h2).ty.var.toNat]'hv by simp[List.getD,hv]]
 congr 1
 rw[Bool.eq_iff_iff,fq,fq,e2]
structure dX (O:Option Pd) (a:Pd):Prop where
 eq:∀q,O=some q→a=q
noncomputable def fR : Pf→Bool:=Pf.fold fun t l=>t.types.all (fun x=>decide (x.size≤900000))&&l.all id
theorem uw (t:Pf):fR t=(t.types.all (fun x=>decide (x.size≤900000))&&t.kids.all fR):=by
 unfold fR;rw[Pf.fold_eq,List.all_map];rfl
theorem gV {t:Pf}(h:fR t=true):(∀x∈t.types,x.size≤900000)∧∀k∈t.kids,fR k=true:=by
 rw[uw,aiT,aiY,aiY] at h;exact⟨fun x hx=>of_decide_eq_true (h.1 x hx),h.2⟩
def xX (x:di) (G:Option Addr) (gc:Nat) (given:List Pd) (f:FuncId) (O:Option Pd) (p:Pf):Prop:=
 ∀(w:World),dJ w x→bg w G given→bW w p→fR p=true→Calls Tryz.prog f #[eu x,.slice G given.length gc,bM p] w fun e w'=>(∃a,e=.returned (.tuple #[fN a,.bool O.isSome])∧dX O a)∧Ext w w'
theorem dX.no {a:Pd}:dX none a:=⟨fun q h=>by cases h⟩
theorem dX.yes (a:Pd):dX (some a) a:=⟨fun q h=>by injection h⟩
set_option maxRecDepth 10000
set_option maxHeartbeats 8000000
theorem Ik (x:di) (G:Option Addr) (gc:Nat) (given:List Pd) (p:Pf) (kz:∀i∈x.insts,i.preds.length≤40000) (ih:∀k∈p.kids,xX x G gc given 49 (bw x.af x.insts given k) k) :
  xX x G gc given 84 (cr x.insts p (p.kids.map (bw x.af x.insts given))) p:=by
 intro w he hg hp hsm;obtain⟨W,hW⟩:∃W,W=((w.alloc (.cells #[.slice x.D x.aA.length x.dc,.slice x.C x.af.length x.cc,.slice x.I x.insts.length x.ic] 26)).alloc (.cells #[.int .i64 p.kind,.int .i64 p.n,.slice p.T p.types.length p.tc,.slice p.A p.kids.length p.cap] 34)).alloc (.cells #[.string ⟨#[]⟩,.string ⟨#[]⟩,.int .i64 0,.slice none 0 0] 55):=⟨_,rfl⟩;have HW:=aa hW.symm;have X0:aiE (Ext w W):=aa (by rw[hW];exact(((eR _).alloc _).alloc _).alloc _);have B1:aiE (aI W w.heap.size x):=aa (by rw[hW];exact(aI.new w x).ext (((eR _).alloc _).alloc _));have B2:aiE (aO W (w.heap.size+1) p):=aa (by rw[hW];exact aO.ext (ah _ _ _ (by simp)) ((eR _).alloc _));have B3:aiE (W.heap[w.heap.size+1+1]?=some (.cells #[.string ⟨#[]⟩,.string ⟨#[]⟩,.int .i64 0,.slice none 0 0] 55)):=aa (by rw[hW];exact ah _ _ _ (by simp));have bR:aiE (W.heap.size=w.heap.size+3):=aa (by rw[hW];simp);obtain⟨c0,c1,c2,c3⟩:=B2.o.cells;obtain⟨e0,e1,e2⟩:=B1.o.cells;obtain⟨y0,y1,y2,y3,eL,eO,eP,eQ⟩:=ay B3.o;have mn:w.heap.size<W.heap.size:=by rw[bR.o];omega
 have ow:w.heap.size+1<W.heap.size:=by rw[bR.o];omega
 have dC:w.heap.size+1+1<W.heap.size:=by rw[bR.o];omega
 have HR:aiE (cr x.insts p (p.kids.map (bw x.af x.insts given))=_):=aa rfl;clear hW;unfold eu bM
 by_cases hn:p.n<0
 ·have HO:aiE (cr x.insts p (p.kids.map (bw x.af x.insts given))=none):=aa (by unfold cr;rw[dK (by omega)];rfl);rw[HO.o];go_enter Tryz.func84,Tryz.ntmps84;go_upto_region 1 with fail;rw[HW.o];clear HW;go_wp2;refine bodyPost_ret (v:=.tuple #[.agg #[.string ⟨#[]⟩,.string ⟨#[]⟩,.int .i64 0,.slice none 0 0],.bool false]) ?_ rfl ⟨⟨⟨[],Ty.zero⟩,rfl,dX.no⟩,?_⟩
  ·simp[results,Tryz.f84,go_sem,y0,y1,y2,y3]
  ·exact ar X0.o (by omega) _ _ _ _
 by_cases mO:p.n≥(x.insts.length:Int)
 ·have HO:aiE (cr x.insts p (p.kids.map (bw x.af x.insts given))=none):=aa (by unfold cr;rw[dK (by omega)];rfl);rw[HO.o];go_enter Tryz.func84,Tryz.ntmps84;go_upto_region 1 with fail;rw[HW.o];clear HW;go_wp2;refine bodyPost_ret (v:=.tuple #[.agg #[.string ⟨#[]⟩,.string ⟨#[]⟩,.int .i64 0,.slice none 0 0],.bool false]) ?_ rfl ⟨⟨⟨[],Ty.zero⟩,rfl,dX.no⟩,?_⟩
  ·simp[results,Tryz.f84,go_sem,y0,y1,y2,y3]
  ·exact ar X0.o (by omega) _ _ _ _
 obtain⟨m,hm⟩:∃m:Nat,p.n=(m:Int):=⟨p.n.toNat,by omega⟩;have iu:m<x.insts.length:=by omega
 have LK:(m:Int)<(x.insts.length:Int):=by omega
 have NZ:(0:Int)≤(m:Int):=by omega
 have N6:¬((m:Int)<0):=by omega
 have Zp:¬((m:Int)≥(x.insts.length:Int)):=by omega
 have dU:=aa (xA (l:=p.kids.map (bw x.af x.insts given)) hm iu);obtain⟨b,o,eI,hb,q0,q1,q2,q3⟩:=(he.insts.ext X0.o).at_ iu;have HI:=aa (he.insts.all _ (aiF iu));have hpl:=kz _ (aiF iu);obtain⟨hs1,hs2⟩:=gV hsm;have Hs1:=aa hs1;have HK:=aa (fun k (hk:k<p.kids.length) w' (e:Ext w w')=>aa (ih _ (aiF hk) w' (he.ext e) (hg.ext e) ((hp.all.kids _ (aiF hk)).ext e) (hs2 _ (aiF hk))));have Hp:=aa hp;have za:=aa (fun k (hk:k<p.kids.length) a (ha:bw x.af x.insts given (p.kids[k]'hk)=some a)=>ov he hg _ (hp.all.kids _ (aiF hk)) a ha);have Yx:=hp.hd.le;have Yy:=hp.hd.max;rw[hm] at c1;rw[eI] at e2;generalize cr x.insts p (p.kids.map (bw x.af x.insts given))=R at *;generalize x.insts[m]'iu=y at *;rw[hm,eI] at HW ⊢;have Hm:=aa hm;have HeI:=aa eI;clear eI hm hn mO ih he hg hp HR hsm hs1 hs2;go_enter Tryz.func84,Tryz.ntmps84;go_upto_region 1 with fail;rw[HW.o];clear HW;go_upto_region 4 with fail;refine bJ ?_;intro W1 hW1;have XW:aiE (Ext W W1):=aa (by rw[hW1];exact(eR _).alloc _);have C2:aiE (eV W1 W.heap.size y):=aa (by rw[hW1];exact eV.new W y);have X1:aiE (Ext w W1):=aa (X0.o.trans XW.o);clear hW1 q0 q1 q2 q3 y0 y1 y2 y3 eL eO eP eQ c0 c1 c2 c3 e0 e1 e2;have su:=aa (uv y W1 (HI.o.ext X1.o));unfold xq at su;obtain⟨k0,k1,k2,k3⟩:=C2.o.cells;have lk:=C2.o.lt;go_wp2_with fail;refine su.o.mono ?_;rintro e w2 ⟨rfl,hx2⟩;have Gv:=aa (XW.o.trans hx2);have X2:=aa (X1.o.trans hx2);have B1:=aa (B1.o.ext Gv.o);have B2:=aa (B2.o.ext Gv.o);have B3:=aa ((Gv.o.heap (ae B3.o)).trans B3.o);have C2:=aa (C2.o.ext hx2);clear hx2 k0 k1 k2 k3 lk su;have XF:=aa (fun v0 v1 v2 v3=>ar X2.o (b:=w.heap.size+1+1) (by omega) v0 v1 v2 v3);have j9:=ae B3.o;obtain⟨y0,y1,y2,y3,eL,eO,eP,eQ⟩:=ay B3.o;cases hb2:bE y
 ·have hR:R=none:=by rw[dU.o,if_neg];unfold cR;rw[hb2];simp
  clear dU;subst hR;simp only[Bool.false_eq_true,if_false];go_wp2;refine bodyPost_ret (v:=.tuple #[.agg #[.string ⟨#[]⟩,.string ⟨#[]⟩,.int .i64 0,.slice none 0 0],.bool false]) ?_ rfl ⟨⟨⟨[],Ty.zero⟩,rfl,dX.no⟩,?_⟩
  ·simp[results,Tryz.f84,go_sem,y0,y1,y2,y3]
  ·exact XF.o _ _ _ _
 have Tb:=aa hb2;simp only[if_true];obtain⟨c0,c1,c2,c3⟩:=B2.o.cells;rw[Hm.o] at c1;obtain⟨k0,k1,k2,k3⟩:=C2.o.cells;have lc:=B2.o.lt;have lk:=C2.o.lt
 by_cases Fz:(p.types.length:Int)=y.n
 case neg=>
  have hR:R=none:=by rw[dU.o,if_neg];unfold cR;rw[decide_eq_false Fz];simp
  have g1:((p.types.length:Int) != y.n)=true:=by simpa using Fz
  clear dU;subst hR;go_wp2;refine bodyPost_ret (v:=.tuple #[.agg #[.string ⟨#[]⟩,.string ⟨#[]⟩,.int .i64 0,.slice none 0 0],.bool false]) ?_ rfl ⟨⟨⟨[],Ty.zero⟩,rfl,dX.no⟩,?_⟩
  ·simp[results,Tryz.f84,go_sem,y0,y1,y2,y3]
  ·exact XF.o _ _ _ _
 have g1:((p.types.length:Int) != y.n)=false:=by rw[Fz];simp
 by_cases js:p.kids.length=y.preds.length
 case neg=>
  have hR:R=none:=by rw[dU.o,if_neg];unfold cR;rw[decide_eq_false js];simp
  have g2:((p.kids.length:Int) != (y.preds.length:Int))=true:=by simp;omega
  have g3:(p.kids.length != y.preds.length)=true:=by simpa using js
  have g4:(p.kids.length == y.preds.length)=false:=by simpa using js
  clear dU;subst hR;go_wp2;refine bodyPost_ret (v:=.tuple #[.agg #[.string ⟨#[]⟩,.string ⟨#[]⟩,.int .i64 0,.slice none 0 0],.bool false]) ?_ rfl ⟨⟨⟨[],Ty.zero⟩,rfl,dX.no⟩,?_⟩
  ·simp[results,Tryz.f84,go_sem,y0,y1,y2,y3]
  ·exact XF.o _ _ _ _
 have g2:((p.kids.length:Int) != (y.preds.length:Int))=false:=by rw[js];simp
 have g3:(p.kids.length != y.preds.length)=false:=by rw[js];simp
 have g4:(p.kids.length == y.preds.length)=true:=by rw[js];simp
 have pQ:p.types.length≤100:=by
  have h9:fA y=true:=by unfold bE at hb2;rw[aiT] at hb2;exact hb2.1
  have h8:=(nj h9).2;omega
 have Htn:=aa Fz;have Py:=aa js;clear js Fz hb2 XF;go_wp2;clear c0 c1 c2 c3 k0 k1 k2 k3 y0 y1 y2 y3 eL eO eP eQ j9 lc lk
 go_loopw [9] (fun i wr=>∃k:Nat,k≤p.types.length∧i=.int .i64 k∧aiE (Ext w2 wr)∧aiE (∀j (h:j<p.types.length),j<k→ax (p.types[j]'h)=true)) (fun i _=>p.types.length - (intOf i).toNat)
 case atStart=>exact⟨0,aiH _,rfl,aa (eR _),aa (fun j _ h=>absurd h (by omega))⟩
 case round=>
  obtain⟨k,hk,rfl,HX,HQ⟩:=hrel;have XR:=aa (X2.o.trans HX.o);obtain⟨-,-,c2,c3⟩:=(B2.o.ext HX.o).cells;have lc:=(B2.o.ext HX.o).lt
  by_cases hlt:k<p.types.length
  ·have aN:(k:Int)<(p.types.length:Int):=by omega
   have cV:(0:Int)≤(k:Int):=by omega
   obtain⟨b4,o4,hA,hb4,k0,k1,k2⟩:=(Hp.o.hd.types.ext XR.o).at_ hlt;have hsz:=Hs1.o _ (aiF hlt);have HC:=aa (fM (p.types[k]'hlt) wr ((Hp.o.hd.types.args _ (aiF hlt)).ext XR.o) hsz);have kZ:aiE (ax (p.types[k]'hlt)=false→R=none):=aa (fun e=>by
    have hall:p.types.all ax=false:=by
     rw[←Bool.not_eq_true,aiY];intro hall;rw[hall _ (aiF hlt)] at e;cases e
    rw[dU.o,if_neg];unfold cR;rw[hall];simp)
   have Ml:aiE (ax (p.types[k]'hlt)=true→∀j (h:j<p.types.length),j<k+1→ax (p.types[j]'h)=true):=aa (fun e j h hj=>by
    by_cases hjk:j=k
    ·subst hjk;exact e
    ·exact HQ.o j h (by omega))
   generalize p.types[k]'hlt=t at *;rw[hA] at c2;clear hA;unfold bl at HC;go_wp2_with fail;refine HC.o.mono ?_;rintro e w3 ⟨rfl,hx3⟩;have X3:=aa (HX.o.trans hx3);have B3:=aa ((X3.o.heap (ae B3.o)).trans B3.o);clear HC hx3 k0 k1 k2 c2 c3 lc;cases hlg:ax t
   ·have hR:=kZ.o hlg;have XF:=aa (fun v0 v1 v2 v3=>ar (X2.o.trans X3.o) (b:=w.heap.size+1+1) (by omega) v0 v1 v2 v3);have j9:=ae B3.o;obtain⟨y0,y1,y2,y3,eL,eO,eP,eQ⟩:=ay B3.o;clear dU kZ Ml;subst hR;go_wp2;refine bodyPost_ret (v:=.tuple #[.agg #[.string ⟨#[]⟩,.string ⟨#[]⟩,.int .i64 0,.slice none 0 0],.bool false]) ?_ rfl ⟨⟨⟨[],Ty.zero⟩,rfl,dX.no⟩,?_⟩
    ·simp[results,Tryz.f84,go_sem,y0,y1,y2,y3]
    ·exact XF.o _ _ _ _
   ·have Td:=aa (Ml.o hlg);clear kZ Ml;go_wp2;go_roundw
    case rel=>exact⟨k+1,hlt,by go_num,X3,Td⟩
    case measure=>simp[intOf];omega
  ·have bS:¬(k:Int)<(p.types.length:Int):=by omega
   have hall:p.types.all ax=true:=by
    rw[aiY];intro t ht;obtain⟨j,hj,rfl⟩:=List.mem_iff_getElem.1 ht;exact HQ.o j hj (by omega)
   have iR:aiE (R=if fO p.types y.preds (p.kids.map (bw x.af x.insts given))=true then some ⟨y.cls,.mk y.aq 0 p.T p.tc p.types⟩ else none):=aa (by
    rw[dU.o];unfold cR;rw[hall,Tb.o,decide_eq_true Htn.o,decide_eq_true Py.o];simp only[Bool.true_and])
   have WC:=aa (Ij y p.T p.tc p.types wr (HI.o.ext XR.o) Tb.o (Hp.o.hd.types.ext XR.o) Htn.o.symm (fun t ht=>⟨List.all_eq_true.1 hall t ht,Hs1.o t ht⟩) hpl);unfold xq at WC;obtain⟨k0,k1,k2,k3⟩:=(C2.o.ext HX.o).cells;have lk:=(C2.o.ext HX.o).lt;clear hall HQ dU;go_wp2_with fail;refine WC.o.mono ?_;rintro e w4 ⟨⟨A9,c9,ds,rfl,mQ,Sk⟩,eJ⟩;have X4:=aa (XR.o.trans eJ);have B1:=aa (B1.o.ext (HX.o.trans eJ));have B2:=aa (B2.o.ext (HX.o.trans eJ));have B3:=aa (((HX.o.trans eJ).heap (ae B3.o)).trans B3.o);have C2:=aa (C2.o.ext (HX.o.trans eJ));have RQ:=aa mQ;have KZ:=aa Sk;clear mQ Sk WC k0 k1 k2 k3 lk c2 c3 lc eJ bS hk HX XR;go_wp2
   go_loopw [11] (fun i wr=>∃k:Nat,k≤p.kids.length∧i=.int .i64 k∧aiE (Ext w4 wr)∧aiE (∀j (h1:j<y.preds.length) (h2:j<p.kids.length),j<k→gi p.types (y.preds[j]'h1) (bw x.af x.insts given (p.kids[j]'h2))=true)) (fun i _=>p.kids.length - (intOf i).toNat)
   case atStart=>exact⟨0,aiH _,rfl,aa (eR _),aa (fun j _ _ h=>absurd h (by omega))⟩
   case round=>
    obtain⟨k,hk,rfl,HX,HQ⟩:=hrel;have XR:=aa (X4.o.trans HX.o);obtain⟨-,-,c2,c3⟩:=(B2.o.ext HX.o).cells;have lc:=(B2.o.ext HX.o).lt
    by_cases hlt:k<p.kids.length
    ·have aN:(k:Int)<(p.kids.length:Int):=by omega
     have cV:(0:Int)≤(k:Int):=by omega
     have js:k<y.preds.length:=by rw[←Py.o];exact hlt
     have Xd:k<ds.length:=by rw[KZ.o.1];exact js
     have aeZ:(k:Int)<(ds.length:Int):=by omega
     obtain⟨b4,o4,hA,hb4,k0,k1,k2,k3⟩:=(Hp.o.all.ext XR.o).at_ hlt;obtain⟨bd,od,rfl,hbd,w0,w1,KM,KN⟩:=(RQ.o.ext HX.o).at_ Xd;have FA:=aa (HK.o k hlt);have xb:aiE (∀bb,gi p.types (y.preds[k]'js) (bw x.af x.insts given (p.kids[k]'hlt))=bb→(bb=false→R=none)∧(bb=true→∀j (h1:j<y.preds.length) (h2:j<p.kids.length),j<k+1→gi p.types (y.preds[j]'h1) (bw x.af x.insts given (p.kids[j]'h2))=true)):=aa (by
      intro bb hb;refine⟨fun e => ?_,fun e j h1 h2 hj => ?_⟩
      ·rw[iR.o,if_neg];rw[xB js (by rw[List.length_map];exact hlt) (by rw[List.getElem_map,hb,e])];decide
      ·by_cases hjk:j=k
       ·subst hjk;rw[hb,e]
       ·exact HQ.o j h1 h2 (by omega))
     have Zq:=aa (fun a=>DU KZ.o Xd js a);have Dk:=aa (za.o k hlt);have Mm:=aa (RQ.o.all _ (aiF Xd));generalize p.kids[k]'hlt=kid at *;generalize y.preds[k]'js=want at *;generalize ds[k]'Xd=dk at *;obtain⟨O,hO⟩:∃O,O=bw x.af x.insts given kid:=⟨_,rfl⟩;rw[←hO] at FA xb Dk;clear hO;rw[hA] at c3;clear hA HQ iR;obtain⟨e0,e1,e2⟩:=(B1.o.ext HX.o).cells;have Zr:=(B1.o.ext HX.o).lt;unfold eu bM at FA;have ly:w.heap.size≠wr.heap.size:=by omega
     have Gu:w.heap.size+1≠wr.heap.size:=by omega
     have sF:b4≠wr.heap.size:=by omega
     have ei:=aa (fun w' (e:Ext wr w')=>aiI (e.cell e0) (aiI (e.cell e1) (aiI (e.cell e2) (aiI (e.cell c3) (aiI (e.cell k0) (aiI (e.cell k1) (aiI (e.cell k2) (e.cell k3))))))));have YA:=aa w0;have YC:=aa w1;have YD:=aa KM;have YE:=aa KN;clear w0 w1 KM KN;go_upto_region 15 with fail
     go_cut [12,13] from 72 to 101 (fun s12 Ue wx=>∃(b8:Nat) (q:Pd),s12=.pointer (some ⟨b8,0,none⟩)∧Ue=.bool O.isSome∧dX O q∧wr.heap.size≤b8∧aiE (Ext wr wx)∧aiE (aR wx b8 q))
     case first=>
      go_region_held3 (fun w'=>w'.cell? ⟨w.heap.size,0,none⟩=some (.slice x.D x.aA.length x.dc)∧w'.cell? ⟨w.heap.size,1,none⟩=some (.slice x.C x.af.length x.cc)∧w'.cell? ⟨w.heap.size,2,none⟩=some (.slice x.I x.insts.length x.ic)∧w'.cell? ⟨w.heap.size+1,3,none⟩=some (.slice (some ⟨b4,o4,none⟩) p.kids.length p.cap)∧w'.cell? ⟨b4,o4+k*4,none⟩=some (.int .i64 kid.kind)∧w'.cell? ⟨b4,o4+k*4+1,none⟩=some (.int .i64 kid.n)∧w'.cell? ⟨b4,o4+k*4+2,none⟩=some (.slice kid.T kid.types.length kid.tc)∧w'.cell? ⟨b4,o4+k*4+3,none⟩=some (.slice kid.A kid.kids.length kid.cap)) (first|with_reducible assumption|(obtain⟨g1,g2,g3,g4,g5,g6,g7,g8⟩:=kS;with_reducible exact⟨aM ly _ _ _ _ g1,aM ly _ _ _ _ g2,aM ly _ _ _ _ g3,aM Gu _ _ _ _ g4,aM sF _ _ _ _ g5,aM sF _ _ _ _ g6,aM sF _ _ _ _ g7,aM sF _ _ _ _ g8⟩)|go_keep) (first
       |(
        go_at_call 49
        refine Calls.mono (FA.o _ (XR.o.trans (by repeat(first|exact eR _|exact eA (by assumption) _|refine eA ?_ _|refine eM ?_ _ _|refine eD ?_|refine eN ?_ _)))).o ?_;rintro e z ⟨⟨q,rfl,bT⟩,gY⟩;have kS:=ei.o z (by refine Ext.trans ?_ gY;exact(by repeat(first|exact eR _|exact eA (by assumption) _|refine eA ?_ _|refine eM ?_ _ _|refine eD ?_|refine eN ?_ _)))
        (try (have zz:=zp gY (B:=wr.heap.size) (by with_reducible exact bI wr _);obtain⟨z0,z1,z2,z3,z4,z5,z6,z7,z8⟩:=zz))))
      all_goals (go_wp2_with fail;go_meet;first
       |exact⟨z.heap.size,q,rfl,rfl,bT,aiM (aiG _) ((eR wr).drew.trans gY).size,aa (((eR wr).drew.trans gY).alloc _),aa (ah _ _ _ rfl)⟩
       |exact⟨wr.heap.size,q,rfl,rfl,bT,aiG _,aa ((RY (((eR wr).alloc _).drew) gY (aiG _) (ah wr _ _ rfl) _).1),aa ((RY (((eR wr).alloc _).drew) gY (aiG _) (ah wr _ _ rfl) _).2)⟩)
     case rest=>
      obtain⟨b8,q,rfl,rfl,bT,S9,K6,KJ⟩:=hcut;have XC:=aa (HX.o.trans K6.o);have B3:=aa ((XC.o.heap (ae B3.o)).trans B3.o);have XF:=aa (fun y (e:Ext w4 y) v0 v1 v2 v3=>ar (X4.o.trans e) (b:=w.heap.size+1+1) (by omega) v0 v1 v2 v3);clear e0 e1 e2 Zr c2 c3 lc k0 k1 k2 k3 ei FA;cases O with
      |none=>
       have hR:=(xb.o _ rfl).1 rfl;have XF:=aa (XF.o _ XC.o);have j9:=ae B3.o;obtain⟨y0,y1,y2,y3,eL,eO,eP,eQ⟩:=ay B3.o;clear bT xb Zq Dk K6 KJ HX;subst hR;simp only[Option.isSome_none];go_wp2
       go_quiet (fail)
       all_goals
        go_wp2;refine bodyPost_ret (v:=.tuple #[.agg #[.string ⟨#[]⟩,.string ⟨#[]⟩,.int .i64 0,.slice none 0 0],.bool false]) ?_ rfl ⟨⟨⟨[],Ty.zero⟩,rfl,dX.no⟩,?_⟩
        ·simp[results,Tryz.f84,go_sem,y0,y1,y2,y3]
        ·first|exact(XF.o _ _ _ _).drewN _|exact XF.o _ _ _ _|(refine ar ?_ (by omega) _ _ _ _;exact((X4.o.trans XC.o).drewN _))
      |some a=>
       obtain rfl:=bT.eq a rfl;have Hq:=aa ((Dk.o _ rfl).ext (XR.o.trans K6.o));have xN:=aa (fun w' (e:Ext wc w')=>aa (DT q dk w' (Hq.o.ty.ext e) (Mm.o.ty.ext (XC.o.trans e))));have hsw:=Zq.o q;simp only[hsw] at xN;obtain⟨d0,d1,d2,d3⟩:=KJ.o.cells;have ld:=KJ.o.lt;have w0:=K6.o.cell YA.o;have w1:=K6.o.cell YC.o;have KM:=K6.o.cell YD.o;have KN:=K6.o.cell YE.o;have Uf:bd<wc.heap.size:=Nat.lt_of_lt_of_le hbd K6.o.size;have ei:=aa (fun w' (e:Ext wc w')=>aiI (e.cell d0) (aiI (e.cell d1) (aiI (e.cell d2) (aiI (e.cell d3) (aiI (e.cell w0) (aiI (e.cell w1) (aiI (e.cell KM) (e.cell KN))))))));unfold fN at xN;simp only[Option.isSome_some];clear hsw Zq bT Dk;cases Zs:gi p.types want (some q)
       all_goals
        rw[Zs] at xN;go_wp2
        go_region_held3 (fun w'=>w'.cell? ⟨b8,0,none⟩=some (encStr q.cls)∧w'.cell? ⟨b8,1,none⟩=some (encStr q.ty.aq)∧w'.cell? ⟨b8,2,none⟩=some (.int .i64 q.ty.var)∧w'.cell? ⟨b8,3,none⟩=some (.slice q.ty.A q.ty.args.length q.ty.cap)∧w'.cell? ⟨bd,od+k*4,none⟩=some (.string ⟨dk.cls.toArray⟩)∧w'.cell? ⟨bd,od+k*4+1,none⟩=some (.string ⟨dk.ty.aq.toArray⟩)∧w'.cell? ⟨bd,od+k*4+2,none⟩=some (.int .i64 dk.ty.var)∧w'.cell? ⟨bd,od+k*4+3,none⟩=some (.slice dk.ty.A dk.ty.args.length dk.ty.cap)) (first|with_reducible assumption|go_keep) (first
         |(
          go_at_call 131
          refine Calls.mono (xN.o _ (by repeat(first|exact eR _|exact eA (by assumption) _|refine eA ?_ _|refine eM ?_ _ _|refine eD ?_|refine eN ?_ _))).o ?_;rintro e z ⟨rfl,sV⟩;have kS:=ei.o z (by refine Ext.trans ?_ sV;exact(by repeat(first|exact eR _|exact eA (by assumption) _|refine eA ?_ _|refine eM ?_ _ _|refine eD ?_|refine eN ?_ _)));have X7:aiE (Ext wc z):=aa (by refine Ext.trans ?_ sV;exact(by repeat(first|exact eR _|exact eA (by assumption) _|refine eA ?_ _|refine eM ?_ _ _|refine eD ?_|refine eN ?_ _)));clear sV))
       ·have hR:=(xb.o false Zs).1 rfl;have B3:=aa ((X7.o.heap (ae B3.o)).trans B3.o);have j9:=ae B3.o;have XF:=aa (XF.o _ (XC.o.trans X7.o));obtain⟨y0,y1,y2,y3,eL,eO,eP,eQ⟩:=ay B3.o;clear xb HX ei xN kS d0 d1 d2 d3 ld w0 w1 KM KN Uf K6 KJ;subst hR;go_wp2;refine bodyPost_ret (v:=.tuple #[.agg #[.string ⟨#[]⟩,.string ⟨#[]⟩,.int .i64 0,.slice none 0 0],.bool false]) ?_ rfl ⟨⟨⟨[],Ty.zero⟩,rfl,dX.no⟩,?_⟩
        ·simp[results,Tryz.f84,go_sem,y0,y1,y2,y3]
        ·exact XF.o _ _ _ _
       ·have Td:=aa ((xb.o true Zs).2 rfl);have XN:=aa (XC.o.trans X7.o);clear xb HX ei xN kS d0 d1 d2 d3 ld w0 w1 KM KN Uf K6 KJ;go_wp2;go_roundw
        case rel=>exact⟨k+1,hlt,by go_num,XN,Td⟩
        case measure=>simp[intOf];omega
    ·have bS:¬(k:Int)<(p.kids.length:Int):=by omega
     have hR:R=some ⟨y.cls,.mk y.aq 0 p.T p.tc p.types⟩:=by
      rw[iR.o,if_pos];refine ud (by rw[List.length_map,Py.o]) (fun j h1 h2 => ?_);rw[List.getElem_map];rw[List.length_map] at h2;exact HQ.o j h1 h2 (by omega)
     clear iR HQ;subst hR;have B3:=aa ((HX.o.heap (ae B3.o)).trans B3.o);have j9:=ae B3.o;obtain⟨y0,y1,y2,y3,eL,eO,eP,eQ⟩:=ay B3.o;obtain⟨d0,d1,d2,d3⟩:=(C2.o.ext HX.o).cells;have ld:=(C2.o.ext HX.o).lt;have XF:=aa (fun v0 v1 v2 v3=>ar XR.o (b:=w.heap.size+1+1) (by omega) v0 v1 v2 v3);go_wp2;refine bodyPost_ret (v:=.tuple #[.agg #[encStr y.cls,encStr y.aq,.int .i64 0,.slice p.T p.types.length p.tc],.bool true]) ?_ rfl ⟨⟨⟨y.cls,.mk y.aq 0 p.T p.tc p.types⟩,rfl,dX.yes _⟩,?_⟩
     ·simp[results,Tryz.f84,go_sem,y0,y1,y2,y3]
     ·exact XF.o _ _ _ _
theorem sW (x:di) (G:Option Addr) (gc:Nat) (given:List Pd) (p:Pf) (hk:p.kind=1) (j3:p.kids.length=0) (jr:p.types.length=0) (m:Nat) (hm:p.n=(m:Int)) (iu:m<given.length) (zh:∀d∈given,d.ty.size≤900000) (O:Option Pd) (hO:O=(some (given[m]'iu)).filter dI):xX x G gc given 49 O p:=by
 intro w he hg hp hsm;obtain⟨W,hW⟩:∃W,W=(((w.alloc (.cells #[.slice x.D x.aA.length x.dc,.slice x.C x.af.length x.cc,.slice x.I x.insts.length x.ic] 26)).alloc (.cells #[.int .i64 p.kind,.int .i64 p.n,.slice p.T p.types.length p.tc,.slice p.A p.kids.length p.cap] 34)).alloc (.cells #[.string ⟨#[]⟩,.string ⟨#[]⟩,.int .i64 0,.slice none 0 0] 55)).alloc (.cells #[.string ⟨#[]⟩,.string ⟨#[]⟩,.int .i64 0,.slice none 0 0] 55):=⟨_,rfl⟩;have HW:=aa hW.symm;have X0:aiE (Ext w W):=aa (by rw[hW];exact((((eR _).alloc _).alloc _).alloc _).alloc _);have B1:aiE (aI W w.heap.size x):=aa (by rw[hW];exact(aI.new w x).ext ((((eR _).alloc _).alloc _).alloc _));have B2:aiE (aO W (w.heap.size+1) p):=aa (by rw[hW];exact aO.ext (ah _ _ _ (by simp)) (((eR _).alloc _).alloc _));have B3:aiE (W.heap[w.heap.size+1+1]?=some (.cells #[.string ⟨#[]⟩,.string ⟨#[]⟩,.int .i64 0,.slice none 0 0] 55)):=aa (by rw[hW];exact(((eR _).alloc _).heap (by simp)).trans (ah _ _ _ (by simp)));have B4:aiE (W.heap[w.heap.size+1+1+1]?=some (.cells #[.string ⟨#[]⟩,.string ⟨#[]⟩,.int .i64 0,.slice none 0 0] 55)):=aa (by rw[hW];exact ah _ _ _ (by simp));have bR:aiE (W.heap.size=w.heap.size+4):=aa (by rw[hW];simp);clear hW;obtain⟨c0,c1,c2,c3⟩:=B2.o.cells;obtain⟨y0,y1,y2,y3,eL,eO,eP,eQ⟩:=ay B3.o;obtain⟨v0,v1,v2,v3,Aa,Ab,Ac,Ad⟩:=ay B4.o;have mn:w.heap.size<W.heap.size:=by rw[bR.o];omega
 have ow:w.heap.size+1<W.heap.size:=by rw[bR.o];omega
 have dC:w.heap.size+1+1<W.heap.size:=by rw[bR.o];omega
 have sX:w.heap.size+1+1+1<W.heap.size:=by rw[bR.o];omega
 have LK:(m:Int)<(given.length:Int):=by omega
 have NZ:(0:Int)≤(m:Int):=by omega
 have N6:(m:Int)≥0:=by omega
 obtain⟨b,o,rfl,hb,q0,q1,q2,q3⟩:=(hg.ext X0.o).at_ iu;have Il:=aa (hg.all _ (aiF iu));have Da:=aa (zh _ (aiF iu));have Ou:=aa hO;rw[hm] at c1 HW;clear hO zh hg he hp hsm;generalize given[m]'iu=a at *;unfold eu bM;rw[hk] at c0 HW;rw[jr] at c2 HW;rw[j3] at c3 HW;rw[hk,hm,jr,j3];go_enter Tryz.func49,Tryz.ntmps49;go_upto_region 3 with fail;rw[HW.o];clear HW;go_upto_region 16 with fail;refine bJ ?_;intro Wc BZ;have ux:aiE (Ext w Wc):=aa (by rw[BZ];exact ar X0.o (by omega) _ _ _ _);have BA:aiE (aR Wc (w.heap.size+1+1+1) a):=aa (by rw[BZ];exact dN B4.o a);have Ca:aiE (Wc.heap[w.heap.size+1+1]?=some (.cells #[.string ⟨#[]⟩,.string ⟨#[]⟩,.int .i64 0,.slice none 0 0] 55)):=aa (by rw[BZ];exact(eh a (by omega)).trans B3.o);clear BZ c0 c1 c2 c3 y0 y1 y2 y3 eL eO eP eQ v0 v1 v2 v3 Aa Ab Ac Ad q0 q1 q2 q3;have HC:=aa (fun w' (e:Ext w w')=>aa (mm a w' (Il.o.ext e) Da.o));have kA:aiE (O.isSome=dI a∧dX O a):=aa (by
  rw[Ou.o,Option.filter_some];cases WM:dI a
  ·exact⟨rfl,dX.no⟩
  ·exact⟨rfl,dX.yes a⟩)
 clear Ou;generalize dI a=ok at *;have Ug:aiE (Wc.drew.heap[w.heap.size+1+1]?=some (.cells #[.string ⟨#[]⟩,.string ⟨#[]⟩,.int .i64 0,.slice none 0 0] 55)):=aa Ca.o;obtain⟨a0,a1,a2,a3⟩:=BA.o.cells;have la:=BA.o.lt;have hy6:=ae Ca.o;have hne:w.heap.size+1+1+1≠w.heap.size+1+1:=by omega
 have nI:w.heap.size≤w.heap.size+1+1:=by omega
 obtain⟨y0,y1,y2,y3,eL,eO,eP,eQ⟩:=ay Ca.o;have ei:=aa (fun w' (e:Ext Wc w')=>aiI (e.cell a0) (aiI (e.cell a1) (aiI (e.cell a2) (e.cell a3))));unfold fN at *;go_wp2
 go_region_held3 (fun w'=>w'.cell? ⟨w.heap.size+1+1+1,0,none⟩=some (encStr a.cls)∧w'.cell? ⟨w.heap.size+1+1+1,1,none⟩=some (encStr a.ty.aq)∧w'.cell? ⟨w.heap.size+1+1+1,2,none⟩=some (.int .i64 a.ty.var)∧w'.cell? ⟨w.heap.size+1+1+1,3,none⟩=some (.slice a.ty.A a.ty.args.length a.ty.cap)) (first|with_reducible assumption|(with_reducible exact⟨aM hne _ _ _ _ a0,aM hne _ _ _ _ a1,aM hne _ _ _ _ a2,aM hne _ _ _ _ a3⟩)|go_keep) (first
  |(
   go_at_call 61
   refine Calls.mono (HC.o _ (by first|exact ux.o.drew|exact(ar ux.o nI _ _ _ _).drew|exact ux.o|exact ar ux.o nI _ _ _ _)).o ?_;rintro e z ⟨rfl,sV⟩
   (try (have kS:=ei.o z (by refine Ext.trans ?_ sV;with_reducible exact(eR Wc).drew)))
   (try (have zz:=zp sV (B:=w.heap.size+1+1) (by with_reducible exact Ug.o);obtain⟨z0,z1,z2,z3,z4,z5,z6,z7,z8⟩:=zz))))
 all_goals first
  |(
   have BB:=(dN Ca.o a).ext (Ext.trans ((eR (eK Wc (w.heap.size+1+1) a)).drew) sV);obtain⟨r0,r1,r2,r3⟩:=BB.cells;go_wp2;refine bodyPost_ret (v:=.tuple #[.agg #[encStr a.cls,encStr a.ty.aq,.int .i64 a.ty.var,.slice a.ty.A a.ty.args.length a.ty.cap],.bool ok]) ?_ rfl ⟨⟨a,by first|(rw[kA.o.1];done)|(rw[kA.o.1];rfl),kA.o.2⟩,?_⟩
   ·simp[results,Tryz.f49,go_sem,r0,r1,r2,r3]
   ·exact Ext.trans (ar ux.o nI _ _ _ _).drew sV)
  |(
   go_wp2;refine bodyPost_ret (v:=.tuple #[.agg #[encStr a.cls,encStr a.ty.aq,.int .i64 a.ty.var,.slice a.ty.A a.ty.args.length a.ty.cap],.bool ok]) ?_ rfl ⟨⟨a,by first|(rw[kA.o.1];done)|(rw[kA.o.1];rfl),kA.o.2⟩,?_⟩
   ·simp[results,Tryz.f49,go_sem,z0,z1,z2,z3]
   ·exact ar (Ext.trans ux.o.drew sV) nI _ _ _ _)
set_option maxRecDepth 512
set_option maxHeartbeats 200000
theorem DV {α:Type}(f:α→Nat) (M:Nat) (l:List α) (h:∀x∈l,f x≤M):(l.map f).sum≤M*l.length:=by
 induction l with
 |nil=>simp
 |cons x l ih=>
  have h1:=h x (by simp);have h2:=ih (fun y hy=>h y (by simp[hy]));simp only[List.map_cons,List.sum_cons,aiW,Nat.mul_add];omega
theorem DW {ins:List cL}{p:Pf}{l:List (Option Pd)}{a:Pd}(h:cr ins p l=some a):a.ty.size≤900000:=by
 unfold cr at h;obtain⟨y,hy,h⟩:=Option.bind_eq_some_iff.1 h
 split at h
 ·rename_i hc
  injection h with h;subst h;rw[aiT] at hc;obtain⟨hc,-⟩:=hc;unfold cR at hc;simp only[aiT,decide_eq_true_eq] at hc;obtain⟨⟨⟨h1,h2⟩,-⟩,h4⟩:=hc;have h9:fA y=true:=by unfold bE at h1;rw[aiT] at h1;exact h1.1
  have h8:=(nj h9).2;have hb:=DV Ty.size 4096 p.types (fun t ht=>(aS (List.all_eq_true.1 h4 t ht)).1);show(Ty.mk y.aq 0 p.T p.tc p.types).size≤900000;rw[Ty.size_eq];show(p.types.map Ty.size).sum+1≤900000;omega
 ·cases h
set_option maxRecDepth 10000
set_option maxHeartbeats 8000000
theorem vY (x:di) (G:Option Addr) (gc:Nat) (given:List Pd) (p:Pf) (hk:p.kind=3) (R:Option Pd) (hR:∀w,dJ w x→bW w p→∀a,R=some a→dH w a∧a.ty.size≤900000) (hRi:xX x G gc given 84 R p) (O:Option Pd) (hO:O=R.filter dI):xX x G gc given 49 O p:=by
 intro w he hg hp hsm;obtain⟨W,hW⟩:∃W,W=(((w.alloc (.cells #[.slice x.D x.aA.length x.dc,.slice x.C x.af.length x.cc,.slice x.I x.insts.length x.ic] 26)).alloc (.cells #[.int .i64 p.kind,.int .i64 p.n,.slice p.T p.types.length p.tc,.slice p.A p.kids.length p.cap] 34)).alloc (.cells #[.string ⟨#[]⟩,.string ⟨#[]⟩,.int .i64 0,.slice none 0 0] 55)).alloc (.cells #[.string ⟨#[]⟩,.string ⟨#[]⟩,.int .i64 0,.slice none 0 0] 55):=⟨_,rfl⟩;have HW:=aa hW.symm;have X0:aiE (Ext w W):=aa (by rw[hW];exact((((eR _).alloc _).alloc _).alloc _).alloc _);have B1:aiE (aI W w.heap.size x):=aa (by rw[hW];exact(aI.new w x).ext ((((eR _).alloc _).alloc _).alloc _));have B2:aiE (aO W (w.heap.size+1) p):=aa (by rw[hW];exact aO.ext (ah _ _ _ (by simp)) (((eR _).alloc _).alloc _));have B3:aiE (W.heap[w.heap.size+1+1]?=some (.cells #[.string ⟨#[]⟩,.string ⟨#[]⟩,.int .i64 0,.slice none 0 0] 55)):=aa (by rw[hW];exact(((eR _).alloc _).heap (by simp)).trans (ah _ _ _ (by simp)));have B4:aiE (W.heap[w.heap.size+1+1+1]?=some (.cells #[.string ⟨#[]⟩,.string ⟨#[]⟩,.int .i64 0,.slice none 0 0] 55)):=aa (by rw[hW];exact ah _ _ _ (by simp));have bR:aiE (W.heap.size=w.heap.size+4):=aa (by rw[hW];simp);clear hW;obtain⟨c0,c1,c2,c3⟩:=B2.o.cells;obtain⟨y0,y1,y2,y3,eL,eO,eP,eQ⟩:=ay B3.o;obtain⟨v0,v1,v2,v3,Aa,Ab,Ac,Ad⟩:=ay B4.o;have mn:w.heap.size<W.heap.size:=by rw[bR.o];omega
 have ow:w.heap.size+1<W.heap.size:=by rw[bR.o];omega
 have dC:w.heap.size+1+1<W.heap.size:=by rw[bR.o];omega
 have sX:w.heap.size+1+1+1<W.heap.size:=by rw[bR.o];omega
 have g1:(p.kind == 1)=false:=by rw[hk];rfl
 have g2:(p.kind == 2)=false:=by rw[hk];rfl
 have g3:(p.kind == 3)=true:=by rw[hk];rfl
 have Xa:=aa (hRi W (he.ext X0.o) (hg.ext X0.o) (hp.ext X0.o) hsm);have Xe:=aa (hR w he hp);obtain⟨e0,e1,e2⟩:=B1.o.cells;have xY:=aa hO;unfold eu bM at *;clear hR hRi hO he hg hp hsm hk;go_enter Tryz.func49,Tryz.ntmps49;go_upto_region 3 with fail;rw[HW.o];clear HW;go_wp2_with fail;refine Xa.o.mono ?_;rintro e w2 ⟨⟨q,rfl,bT⟩,hx⟩;have X2:=aa hx;unfold fN;clear hx Xa c0 c1 c2 c3 y0 y1 y2 y3 eL eO eP eQ v0 v1 v2 v3 Aa Ab Ac Ad e0 e1 e2;go_upto_region 13 with fail;refine bJ ?_;intro W3 hW3;have X3:aiE (Ext W W3):=aa (by rw[hW3];exact X2.o.alloc _);have BQ:aiE (aR W3 w2.heap.size q):=aa (by rw[hW3];exact aR.new w2 q);have B3:=aa ((X3.o.heap (ae B3.o)).trans B3.o);have B4:=aa ((X3.o.heap (ae B4.o)).trans B4.o);have XW3:=aa (X0.o.trans X3.o);clear hW3;have j9:=ae B3.o;have Ae:=ae B4.o;obtain⟨y0,y1,y2,y3,eL,eO,eP,eQ⟩:=ay B3.o;obtain⟨v0,v1,v2,v3,Aa,Ab,Ac,Ad⟩:=ay B4.o;obtain⟨d0,d1,d2,d3⟩:=BQ.o.cells;have ld:=BQ.o.lt;cases R with
 |none=>
  have hO:O=none:=by rw[xY.o];rfl
  clear xY bT Xe;subst hO;simp only[Option.isSome_none];go_wp2;refine bodyPost_ret (v:=.tuple #[.agg #[.string ⟨#[]⟩,.string ⟨#[]⟩,.int .i64 0,.slice none 0 0],.bool false]) ?_ rfl ⟨⟨⟨[],Ty.zero⟩,rfl,dX.no⟩,?_⟩
  ·simp[results,Tryz.f49,go_sem,y0,y1,y2,y3]
  ·exact ar XW3.o (by omega) _ _ _ _
 |some a=>
  obtain rfl:=bT.eq a rfl;rename Pd=>a
  have Ou:=aa xY.o;have Il:=aa (Xe.o a rfl).1;have Da:=aa (Xe.o a rfl).2;clear Xe bT xY;simp only[Option.isSome_some];go_upto_region 16 with fail;refine bJ ?_;intro Wc BZ;have ux:aiE (Ext w Wc):=aa (by rw[BZ];exact ar XW3.o (by omega) _ _ _ _);have BA:aiE (aR Wc (w.heap.size+1+1+1) a):=aa (by rw[BZ];exact dN B4.o a);have Ca:aiE (Wc.heap[w.heap.size+1+1]?=some (.cells #[.string ⟨#[]⟩,.string ⟨#[]⟩,.int .i64 0,.slice none 0 0] 55)):=aa (by rw[BZ];exact(eh a (by omega)).trans B3.o);clear BZ y0 y1 y2 y3 eL eO eP eQ v0 v1 v2 v3 Aa Ab Ac Ad d0 d1 d2 d3 ld j9 Ae;have HC:=aa (fun w' (e:Ext w w')=>aa (mm a w' (Il.o.ext e) Da.o));have kA:aiE (O.isSome=dI a∧dX O a):=aa (by
   rw[Ou.o,Option.filter_some];cases WM:dI a
   ·exact⟨rfl,dX.no⟩
   ·exact⟨rfl,dX.yes a⟩)
  clear Ou;generalize dI a=ok at *;have Ug:aiE (Wc.drew.heap[w.heap.size+1+1]?=some (.cells #[.string ⟨#[]⟩,.string ⟨#[]⟩,.int .i64 0,.slice none 0 0] 55)):=aa Ca.o;obtain⟨a0,a1,a2,a3⟩:=BA.o.cells;have la:=BA.o.lt;have hy6:=ae Ca.o;have hne:w.heap.size+1+1+1≠w.heap.size+1+1:=by omega
  have nI:w.heap.size≤w.heap.size+1+1:=by omega
  obtain⟨y0,y1,y2,y3,eL,eO,eP,eQ⟩:=ay Ca.o;have ei:=aa (fun w' (e:Ext Wc w')=>aiI (e.cell a0) (aiI (e.cell a1) (aiI (e.cell a2) (e.cell a3))));unfold fN at *;go_wp2
  go_region_held3 (fun w'=>w'.cell? ⟨w.heap.size+1+1+1,0,none⟩=some (encStr a.cls)∧w'.cell? ⟨w.heap.size+1+1+1,1,none⟩=some (encStr a.ty.aq)∧w'.cell? ⟨w.heap.size+1+1+1,2,none⟩=some (.int .i64 a.ty.var)∧w'.cell? ⟨w.heap.size+1+1+1,3,none⟩=some (.slice a.ty.A a.ty.args.length a.ty.cap)) (first|with_reducible assumption|(with_reducible exact⟨aM hne _ _ _ _ a0,aM hne _ _ _ _ a1,aM hne _ _ _ _ a2,aM hne _ _ _ _ a3⟩)|go_keep) (first
   |(
    go_at_call 61
    refine Calls.mono (HC.o _ (by first|exact ux.o.drew|exact(ar ux.o nI _ _ _ _).drew|exact ux.o|exact ar ux.o nI _ _ _ _)).o ?_;rintro e z ⟨rfl,sV⟩
    (try (have kS:=ei.o z (by refine Ext.trans ?_ sV;with_reducible exact(eR Wc).drew)))
    (try (have zz:=zp sV (B:=w.heap.size+1+1) (by with_reducible exact Ug.o);obtain⟨z0,z1,z2,z3,z4,z5,z6,z7,z8⟩:=zz))))
  all_goals first
   |(
    have BB:=(dN Ca.o a).ext (Ext.trans ((eR (eK Wc (w.heap.size+1+1) a)).drew) sV);obtain⟨r0,r1,r2,r3⟩:=BB.cells;go_wp2;refine bodyPost_ret (v:=.tuple #[.agg #[encStr a.cls,encStr a.ty.aq,.int .i64 a.ty.var,.slice a.ty.A a.ty.args.length a.ty.cap],.bool ok]) ?_ rfl ⟨⟨a,by first|(rw[kA.o.1];done)|(rw[kA.o.1];rfl),kA.o.2⟩,?_⟩
    ·simp[results,Tryz.f49,go_sem,r0,r1,r2,r3]
    ·exact Ext.trans (ar ux.o nI _ _ _ _).drew sV)
   |(
    go_wp2;refine bodyPost_ret (v:=.tuple #[.agg #[encStr a.cls,encStr a.ty.aq,.int .i64 a.ty.var,.slice a.ty.A a.ty.args.length a.ty.cap],.bool ok]) ?_ rfl ⟨⟨a,by first|(rw[kA.o.1];done)|(rw[kA.o.1];rfl),kA.o.2⟩,?_⟩
    ·simp[results,Tryz.f49,go_sem,z0,z1,z2,z3]
    ·exact ar (Ext.trans ux.o.drew sV) nI _ _ _ _)
theorem Af (x:di) (G:Option Addr) (gc:Nat) (given:List Pd) (p:Pf) (hk:p.kind=1) (h:p.kids.length+p.types.length≠0) (hkb:p.kids.length<1000000000000000000) (htb:p.types.length<1000000000000000000):xX x G gc given 49 none p:=by
 intro w he hg hp hsm;obtain⟨W,hW⟩:∃W,W=(((w.alloc (.cells #[.slice x.D x.aA.length x.dc,.slice x.C x.af.length x.cc,.slice x.I x.insts.length x.ic] 26)).alloc (.cells #[.int .i64 p.kind,.int .i64 p.n,.slice p.T p.types.length p.tc,.slice p.A p.kids.length p.cap] 34)).alloc (.cells #[.string ⟨#[]⟩,.string ⟨#[]⟩,.int .i64 0,.slice none 0 0] 55)).alloc (.cells #[.string ⟨#[]⟩,.string ⟨#[]⟩,.int .i64 0,.slice none 0 0] 55):=⟨_,rfl⟩;have HW:=aa hW.symm;have X0:aiE (Ext w W):=aa (by rw[hW];exact((((eR _).alloc _).alloc _).alloc _).alloc _);have B1:aiE (aI W w.heap.size x):=aa (by rw[hW];exact(aI.new w x).ext ((((eR _).alloc _).alloc _).alloc _));have B2:aiE (aO W (w.heap.size+1) p):=aa (by rw[hW];exact aO.ext (ah _ _ _ (by simp)) (((eR _).alloc _).alloc _));have B3:aiE (W.heap[w.heap.size+1+1]?=some (.cells #[.string ⟨#[]⟩,.string ⟨#[]⟩,.int .i64 0,.slice none 0 0] 55)):=aa (by rw[hW];exact(((eR _).alloc _).heap (by simp)).trans (ah _ _ _ (by simp)));have B4:aiE (W.heap[w.heap.size+1+1+1]?=some (.cells #[.string ⟨#[]⟩,.string ⟨#[]⟩,.int .i64 0,.slice none 0 0] 55)):=aa (by rw[hW];exact ah _ _ _ (by simp));have bR:aiE (W.heap.size=w.heap.size+4):=aa (by rw[hW];simp);clear hW;obtain⟨c0,c1,c2,c3⟩:=B2.o.cells;obtain⟨y0,y1,y2,y3,eL,eO,eP,eQ⟩:=ay B3.o;obtain⟨v0,v1,v2,v3,Aa,Ab,Ac,Ad⟩:=ay B4.o;have mn:w.heap.size<W.heap.size:=by rw[bR.o];omega
 have ow:w.heap.size+1<W.heap.size:=by rw[bR.o];omega
 have dC:w.heap.size+1+1<W.heap.size:=by rw[bR.o];omega
 have sX:w.heap.size+1+1+1<W.heap.size:=by rw[bR.o];omega
 have g1:(p.kind == 1)=true:=by rw[hk];rfl
 have g2:(p.kind == 2)=false:=by rw[hk];rfl
 have g3:(p.kind == 3)=false:=by rw[hk];rfl
 have PI:IntKind.i64.wrap ((p.kids.length:Int)+(p.types.length:Int))=(p.kids.length:Int)+(p.types.length:Int):=IntWalk.i64_in _ (by omega);have hw3:¬((p.kids.length:Int)+(p.types.length:Int)=0):=by omega
 have hw2:((p.kids.length:Int)+(p.types.length:Int) == 0)=false:=by simpa using hw3
 clear hk;unfold eu bM;go_enter Tryz.func49,Tryz.ntmps49;go_upto_region 3 with fail;rw[HW.o];clear HW;go_wp2;refine bodyPost_ret (v:=.tuple #[.agg #[.string ⟨#[]⟩,.string ⟨#[]⟩,.int .i64 0,.slice none 0 0],.bool false]) ?_ rfl ⟨⟨⟨[],Ty.zero⟩,rfl,dX.no⟩,?_⟩
 ·simp[results,Tryz.f49,go_sem,y0,y1,y2,y3]
 ·exact ar X0.o (by omega) _ _ _ _
theorem Ag (x:di) (G:Option Addr) (gc:Nat) (given:List Pd) (p:Pf) (hk:p.kind=1) (j3:p.kids.length=0) (jr:p.types.length=0) (h:p.n<0):xX x G gc given 49 none p:=by
 intro w he hg hp hsm;obtain⟨W,hW⟩:∃W,W=(((w.alloc (.cells #[.slice x.D x.aA.length x.dc,.slice x.C x.af.length x.cc,.slice x.I x.insts.length x.ic] 26)).alloc (.cells #[.int .i64 p.kind,.int .i64 p.n,.slice p.T p.types.length p.tc,.slice p.A p.kids.length p.cap] 34)).alloc (.cells #[.string ⟨#[]⟩,.string ⟨#[]⟩,.int .i64 0,.slice none 0 0] 55)).alloc (.cells #[.string ⟨#[]⟩,.string ⟨#[]⟩,.int .i64 0,.slice none 0 0] 55):=⟨_,rfl⟩;have HW:=aa hW.symm;have X0:aiE (Ext w W):=aa (by rw[hW];exact((((eR _).alloc _).alloc _).alloc _).alloc _);have B1:aiE (aI W w.heap.size x):=aa (by rw[hW];exact(aI.new w x).ext ((((eR _).alloc _).alloc _).alloc _));have B2:aiE (aO W (w.heap.size+1) p):=aa (by rw[hW];exact aO.ext (ah _ _ _ (by simp)) (((eR _).alloc _).alloc _));have B3:aiE (W.heap[w.heap.size+1+1]?=some (.cells #[.string ⟨#[]⟩,.string ⟨#[]⟩,.int .i64 0,.slice none 0 0] 55)):=aa (by rw[hW];exact(((eR _).alloc _).heap (by simp)).trans (ah _ _ _ (by simp)));have B4:aiE (W.heap[w.heap.size+1+1+1]?=some (.cells #[.string ⟨#[]⟩,.string ⟨#[]⟩,.int .i64 0,.slice none 0 0] 55)):=aa (by rw[hW];exact ah _ _ _ (by simp));have bR:aiE (W.heap.size=w.heap.size+4):=aa (by rw[hW];simp);clear hW;obtain⟨c0,c1,c2,c3⟩:=B2.o.cells;obtain⟨y0,y1,y2,y3,eL,eO,eP,eQ⟩:=ay B3.o;obtain⟨v0,v1,v2,v3,Aa,Ab,Ac,Ad⟩:=ay B4.o;have mn:w.heap.size<W.heap.size:=by rw[bR.o];omega
 have ow:w.heap.size+1<W.heap.size:=by rw[bR.o];omega
 have dC:w.heap.size+1+1<W.heap.size:=by rw[bR.o];omega
 have sX:w.heap.size+1+1+1<W.heap.size:=by rw[bR.o];omega
 have g1:(p.kind == 1)=true:=by rw[hk];rfl
 have g2:(p.kind == 2)=false:=by rw[hk];rfl
 have g3:(p.kind == 3)=false:=by rw[hk];rfl
 have h2:¬p.n≥0:=by omega
 rw[j3] at c3 HW;rw[jr] at c2 HW;clear hk;unfold eu bM;rw[j3];rw[jr];go_enter Tryz.func49,Tryz.ntmps49;go_upto_region 3 with fail;rw[HW.o];clear HW;go_wp2;refine bodyPost_ret (v:=.tuple #[.agg #[.string ⟨#[]⟩,.string ⟨#[]⟩,.int .i64 0,.slice none 0 0],.bool false]) ?_ rfl ⟨⟨⟨[],Ty.zero⟩,rfl,dX.no⟩,?_⟩
 ·simp[results,Tryz.f49,go_sem,y0,y1,y2,y3]
 ·exact ar X0.o (by omega) _ _ _ _
theorem Ah (x:di) (G:Option Addr) (gc:Nat) (given:List Pd) (p:Pf) (hk:p.kind=1) (j3:p.kids.length=0) (jr:p.types.length=0) (h0:p.n≥0) (h:¬p.n<(given.length:Int)):xX x G gc given 49 none p:=by
 intro w he hg hp hsm;obtain⟨W,hW⟩:∃W,W=(((w.alloc (.cells #[.slice x.D x.aA.length x.dc,.slice x.C x.af.length x.cc,.slice x.I x.insts.length x.ic] 26)).alloc (.cells #[.int .i64 p.kind,.int .i64 p.n,.slice p.T p.types.length p.tc,.slice p.A p.kids.length p.cap] 34)).alloc (.cells #[.string ⟨#[]⟩,.string ⟨#[]⟩,.int .i64 0,.slice none 0 0] 55)).alloc (.cells #[.string ⟨#[]⟩,.string ⟨#[]⟩,.int .i64 0,.slice none 0 0] 55):=⟨_,rfl⟩;have HW:=aa hW.symm;have X0:aiE (Ext w W):=aa (by rw[hW];exact((((eR _).alloc _).alloc _).alloc _).alloc _);have B1:aiE (aI W w.heap.size x):=aa (by rw[hW];exact(aI.new w x).ext ((((eR _).alloc _).alloc _).alloc _));have B2:aiE (aO W (w.heap.size+1) p):=aa (by rw[hW];exact aO.ext (ah _ _ _ (by simp)) (((eR _).alloc _).alloc _));have B3:aiE (W.heap[w.heap.size+1+1]?=some (.cells #[.string ⟨#[]⟩,.string ⟨#[]⟩,.int .i64 0,.slice none 0 0] 55)):=aa (by rw[hW];exact(((eR _).alloc _).heap (by simp)).trans (ah _ _ _ (by simp)));have B4:aiE (W.heap[w.heap.size+1+1+1]?=some (.cells #[.string ⟨#[]⟩,.string ⟨#[]⟩,.int .i64 0,.slice none 0 0] 55)):=aa (by rw[hW];exact ah _ _ _ (by simp));have bR:aiE (W.heap.size=w.heap.size+4):=aa (by rw[hW];simp);clear hW;obtain⟨c0,c1,c2,c3⟩:=B2.o.cells;obtain⟨y0,y1,y2,y3,eL,eO,eP,eQ⟩:=ay B3.o;obtain⟨v0,v1,v2,v3,Aa,Ab,Ac,Ad⟩:=ay B4.o;have mn:w.heap.size<W.heap.size:=by rw[bR.o];omega
 have ow:w.heap.size+1<W.heap.size:=by rw[bR.o];omega
 have dC:w.heap.size+1+1<W.heap.size:=by rw[bR.o];omega
 have sX:w.heap.size+1+1+1<W.heap.size:=by rw[bR.o];omega
 have g1:(p.kind == 1)=true:=by rw[hk];rfl
 have g2:(p.kind == 2)=false:=by rw[hk];rfl
 have g3:(p.kind == 3)=false:=by rw[hk];rfl
 rw[j3] at c3 HW;rw[jr] at c2 HW;clear hk;unfold eu bM;rw[j3];rw[jr];go_enter Tryz.func49,Tryz.ntmps49;go_upto_region 3 with fail;rw[HW.o];clear HW;go_wp2;refine bodyPost_ret (v:=.tuple #[.agg #[.string ⟨#[]⟩,.string ⟨#[]⟩,.int .i64 0,.slice none 0 0],.bool false]) ?_ rfl ⟨⟨⟨[],Ty.zero⟩,rfl,dX.no⟩,?_⟩
 ·simp[results,Tryz.f49,go_sem,y0,y1,y2,y3]
 ·exact ar X0.o (by omega) _ _ _ _
theorem Ai (x:di) (G:Option Addr) (gc:Nat) (given:List Pd) (p:Pf) (hk:p.kind=2) (h:p.kids.length≠1):xX x G gc given 49 none p:=by
 intro w he hg hp hsm;obtain⟨W,hW⟩:∃W,W=(((w.alloc (.cells #[.slice x.D x.aA.length x.dc,.slice x.C x.af.length x.cc,.slice x.I x.insts.length x.ic] 26)).alloc (.cells #[.int .i64 p.kind,.int .i64 p.n,.slice p.T p.types.length p.tc,.slice p.A p.kids.length p.cap] 34)).alloc (.cells #[.string ⟨#[]⟩,.string ⟨#[]⟩,.int .i64 0,.slice none 0 0] 55)).alloc (.cells #[.string ⟨#[]⟩,.string ⟨#[]⟩,.int .i64 0,.slice none 0 0] 55):=⟨_,rfl⟩;have HW:=aa hW.symm;have X0:aiE (Ext w W):=aa (by rw[hW];exact((((eR _).alloc _).alloc _).alloc _).alloc _);have B1:aiE (aI W w.heap.size x):=aa (by rw[hW];exact(aI.new w x).ext ((((eR _).alloc _).alloc _).alloc _));have B2:aiE (aO W (w.heap.size+1) p):=aa (by rw[hW];exact aO.ext (ah _ _ _ (by simp)) (((eR _).alloc _).alloc _));have B3:aiE (W.heap[w.heap.size+1+1]?=some (.cells #[.string ⟨#[]⟩,.string ⟨#[]⟩,.int .i64 0,.slice none 0 0] 55)):=aa (by rw[hW];exact(((eR _).alloc _).heap (by simp)).trans (ah _ _ _ (by simp)));have B4:aiE (W.heap[w.heap.size+1+1+1]?=some (.cells #[.string ⟨#[]⟩,.string ⟨#[]⟩,.int .i64 0,.slice none 0 0] 55)):=aa (by rw[hW];exact ah _ _ _ (by simp));have bR:aiE (W.heap.size=w.heap.size+4):=aa (by rw[hW];simp);clear hW;obtain⟨c0,c1,c2,c3⟩:=B2.o.cells;obtain⟨y0,y1,y2,y3,eL,eO,eP,eQ⟩:=ay B3.o;obtain⟨v0,v1,v2,v3,Aa,Ab,Ac,Ad⟩:=ay B4.o;have mn:w.heap.size<W.heap.size:=by rw[bR.o];omega
 have ow:w.heap.size+1<W.heap.size:=by rw[bR.o];omega
 have dC:w.heap.size+1+1<W.heap.size:=by rw[bR.o];omega
 have sX:w.heap.size+1+1+1<W.heap.size:=by rw[bR.o];omega
 have g1:(p.kind == 1)=false:=by rw[hk];rfl
 have g2:(p.kind == 2)=true:=by rw[hk];rfl
 have g3:(p.kind == 3)=false:=by rw[hk];rfl
 have h2:¬((p.kids.length:Int)=1):=by omega
 have h3:((p.kids.length:Int) == 1)=false:=by simpa using h2
 clear hk;unfold eu bM;go_enter Tryz.func49,Tryz.ntmps49;go_upto_region 3 with fail;rw[HW.o];clear HW;go_wp2;refine bodyPost_ret (v:=.tuple #[.agg #[.string ⟨#[]⟩,.string ⟨#[]⟩,.int .i64 0,.slice none 0 0],.bool false]) ?_ rfl ⟨⟨⟨[],Ty.zero⟩,rfl,dX.no⟩,?_⟩
 ·simp[results,Tryz.f49,go_sem,y0,y1,y2,y3]
 ·exact ar X0.o (by omega) _ _ _ _
theorem Aj (x:di) (G:Option Addr) (gc:Nat) (given:List Pd) (p:Pf) (hk:p.kind=2) (j3:p.kids.length=1) (h:p.types.length≠0):xX x G gc given 49 none p:=by
 intro w he hg hp hsm;obtain⟨W,hW⟩:∃W,W=(((w.alloc (.cells #[.slice x.D x.aA.length x.dc,.slice x.C x.af.length x.cc,.slice x.I x.insts.length x.ic] 26)).alloc (.cells #[.int .i64 p.kind,.int .i64 p.n,.slice p.T p.types.length p.tc,.slice p.A p.kids.length p.cap] 34)).alloc (.cells #[.string ⟨#[]⟩,.string ⟨#[]⟩,.int .i64 0,.slice none 0 0] 55)).alloc (.cells #[.string ⟨#[]⟩,.string ⟨#[]⟩,.int .i64 0,.slice none 0 0] 55):=⟨_,rfl⟩;have HW:=aa hW.symm;have X0:aiE (Ext w W):=aa (by rw[hW];exact((((eR _).alloc _).alloc _).alloc _).alloc _);have B1:aiE (aI W w.heap.size x):=aa (by rw[hW];exact(aI.new w x).ext ((((eR _).alloc _).alloc _).alloc _));have B2:aiE (aO W (w.heap.size+1) p):=aa (by rw[hW];exact aO.ext (ah _ _ _ (by simp)) (((eR _).alloc _).alloc _));have B3:aiE (W.heap[w.heap.size+1+1]?=some (.cells #[.string ⟨#[]⟩,.string ⟨#[]⟩,.int .i64 0,.slice none 0 0] 55)):=aa (by rw[hW];exact(((eR _).alloc _).heap (by simp)).trans (ah _ _ _ (by simp)));have B4:aiE (W.heap[w.heap.size+1+1+1]?=some (.cells #[.string ⟨#[]⟩,.string ⟨#[]⟩,.int .i64 0,.slice none 0 0] 55)):=aa (by rw[hW];exact ah _ _ _ (by simp));have bR:aiE (W.heap.size=w.heap.size+4):=aa (by rw[hW];simp);clear hW;obtain⟨c0,c1,c2,c3⟩:=B2.o.cells;obtain⟨y0,y1,y2,y3,eL,eO,eP,eQ⟩:=ay B3.o;obtain⟨v0,v1,v2,v3,Aa,Ab,Ac,Ad⟩:=ay B4.o;have mn:w.heap.size<W.heap.size:=by rw[bR.o];omega
 have ow:w.heap.size+1<W.heap.size:=by rw[bR.o];omega
 have dC:w.heap.size+1+1<W.heap.size:=by rw[bR.o];omega
 have sX:w.heap.size+1+1+1<W.heap.size:=by rw[bR.o];omega
 have g1:(p.kind == 1)=false:=by rw[hk];rfl
 have g2:(p.kind == 2)=true:=by rw[hk];rfl
 have g3:(p.kind == 3)=false:=by rw[hk];rfl
 have h2:¬((p.types.length:Int)=0):=by omega
 have h3:((p.types.length:Int) == 0)=false:=by simpa using h2
 rw[j3] at c3 HW;clear hk;unfold eu bM;rw[j3];go_enter Tryz.func49,Tryz.ntmps49;go_upto_region 3 with fail;rw[HW.o];clear HW;go_wp2;refine bodyPost_ret (v:=.tuple #[.agg #[.string ⟨#[]⟩,.string ⟨#[]⟩,.int .i64 0,.slice none 0 0],.bool false]) ?_ rfl ⟨⟨⟨[],Ty.zero⟩,rfl,dX.no⟩,?_⟩
 ·simp[results,Tryz.f49,go_sem,y0,y1,y2,y3]
 ·exact ar X0.o (by omega) _ _ _ _
theorem Ak (x:di) (G:Option Addr) (gc:Nat) (given:List Pd) (p:Pf) (sB:p.kind≠1) (hk2:p.kind≠2) (hk3:p.kind≠3):xX x G gc given 49 none p:=by
 intro w he hg hp hsm;obtain⟨W,hW⟩:∃W,W=(((w.alloc (.cells #[.slice x.D x.aA.length x.dc,.slice x.C x.af.length x.cc,.slice x.I x.insts.length x.ic] 26)).alloc (.cells #[.int .i64 p.kind,.int .i64 p.n,.slice p.T p.types.length p.tc,.slice p.A p.kids.length p.cap] 34)).alloc (.cells #[.string ⟨#[]⟩,.string ⟨#[]⟩,.int .i64 0,.slice none 0 0] 55)).alloc (.cells #[.string ⟨#[]⟩,.string ⟨#[]⟩,.int .i64 0,.slice none 0 0] 55):=⟨_,rfl⟩;have HW:=aa hW.symm;have X0:aiE (Ext w W):=aa (by rw[hW];exact((((eR _).alloc _).alloc _).alloc _).alloc _);have B1:aiE (aI W w.heap.size x):=aa (by rw[hW];exact(aI.new w x).ext ((((eR _).alloc _).alloc _).alloc _));have B2:aiE (aO W (w.heap.size+1) p):=aa (by rw[hW];exact aO.ext (ah _ _ _ (by simp)) (((eR _).alloc _).alloc _));have B3:aiE (W.heap[w.heap.size+1+1]?=some (.cells #[.string ⟨#[]⟩,.string ⟨#[]⟩,.int .i64 0,.slice none 0 0] 55)):=aa (by rw[hW];exact(((eR _).alloc _).heap (by simp)).trans (ah _ _ _ (by simp)));have B4:aiE (W.heap[w.heap.size+1+1+1]?=some (.cells #[.string ⟨#[]⟩,.string ⟨#[]⟩,.int .i64 0,.slice none 0 0] 55)):=aa (by rw[hW];exact ah _ _ _ (by simp));have bR:aiE (W.heap.size=w.heap.size+4):=aa (by rw[hW];simp);clear hW;obtain⟨c0,c1,c2,c3⟩:=B2.o.cells;obtain⟨y0,y1,y2,y3,eL,eO,eP,eQ⟩:=ay B3.o;obtain⟨v0,v1,v2,v3,Aa,Ab,Ac,Ad⟩:=ay B4.o;have mn:w.heap.size<W.heap.size:=by rw[bR.o];omega
 have ow:w.heap.size+1<W.heap.size:=by rw[bR.o];omega
 have dC:w.heap.size+1+1<W.heap.size:=by rw[bR.o];omega
 have sX:w.heap.size+1+1+1<W.heap.size:=by rw[bR.o];omega
 have g1:(p.kind == 1)=false:=by simpa using sB
 have g2:(p.kind == 2)=false:=by simpa using hk2
 have g3:(p.kind == 3)=false:=by simpa using hk3
 unfold eu bM;go_enter Tryz.func49,Tryz.ntmps49;go_upto_region 3 with fail;rw[HW.o];clear HW;go_wp2;refine bodyPost_ret (v:=.tuple #[.agg #[.string ⟨#[]⟩,.string ⟨#[]⟩,.int .i64 0,.slice none 0 0],.bool false]) ?_ rfl ⟨⟨⟨[],Ty.zero⟩,rfl,dX.no⟩,?_⟩
 ·simp[results,Tryz.f49,go_sem,y0,y1,y2,y3]
 ·exact ar X0.o (by omega) _ _ _ _
theorem sY (x:di) (G:Option Addr) (gc:Nat) (given:List Pd) (p:Pf) (hk:p.kind=2) (j3:p.kids.length=1) (jr:p.types.length=0) (h0:0<p.kids.length) (O0:Option Pd) (hO0:∀q,O0=some q→ax q.ty=true)
  (ih:xX x G gc given 49 O0 (p.kids[0]'h0)) (A:Option Pd) (jV:∀w,dJ w x→bg w G given→bW w p→∀a,A=some a→dH w a) (hA:A=O0.bind fun q=>(zu x.af q.cls).bind fun c=>(pH c.cQ p.n).map fun s=>(⟨s,q.ty⟩:Pd)) (O:Option Pd) (hO:O=A.filter dI):xX x G gc given 49 O p:=by
 intro w he hg hp hsm;obtain⟨W,hW⟩:∃W,W=(((w.alloc (.cells #[.slice x.D x.aA.length x.dc,.slice x.C x.af.length x.cc,.slice x.I x.insts.length x.ic] 26)).alloc (.cells #[.int .i64 p.kind,.int .i64 p.n,.slice p.T p.types.length p.tc,.slice p.A p.kids.length p.cap] 34)).alloc (.cells #[.string ⟨#[]⟩,.string ⟨#[]⟩,.int .i64 0,.slice none 0 0] 55)).alloc (.cells #[.string ⟨#[]⟩,.string ⟨#[]⟩,.int .i64 0,.slice none 0 0] 55):=⟨_,rfl⟩;have HW:=aa hW.symm;have X0:aiE (Ext w W):=aa (by rw[hW];exact((((eR _).alloc _).alloc _).alloc _).alloc _);have B1:aiE (aI W w.heap.size x):=aa (by rw[hW];exact(aI.new w x).ext ((((eR _).alloc _).alloc _).alloc _));have B2:aiE (aO W (w.heap.size+1) p):=aa (by rw[hW];exact aO.ext (ah _ _ _ (by simp)) (((eR _).alloc _).alloc _));have B3:aiE (W.heap[w.heap.size+1+1]?=some (.cells #[.string ⟨#[]⟩,.string ⟨#[]⟩,.int .i64 0,.slice none 0 0] 55)):=aa (by rw[hW];exact(((eR _).alloc _).heap (by simp)).trans (ah _ _ _ (by simp)));have B4:aiE (W.heap[w.heap.size+1+1+1]?=some (.cells #[.string ⟨#[]⟩,.string ⟨#[]⟩,.int .i64 0,.slice none 0 0] 55)):=aa (by rw[hW];exact ah _ _ _ (by simp));have bR:aiE (W.heap.size=w.heap.size+4):=aa (by rw[hW];simp);clear hW;obtain⟨c0,c1,c2,c3⟩:=B2.o.cells;obtain⟨y0,y1,y2,y3,eL,eO,eP,eQ⟩:=ay B3.o;obtain⟨v0,v1,v2,v3,Aa,Ab,Ac,Ad⟩:=ay B4.o;have mn:w.heap.size<W.heap.size:=by rw[bR.o];omega
 have ow:w.heap.size+1<W.heap.size:=by rw[bR.o];omega
 have dC:w.heap.size+1+1<W.heap.size:=by rw[bR.o];omega
 have sX:w.heap.size+1+1+1<W.heap.size:=by rw[bR.o];omega
 have g1:(p.kind == 1)=false:=by rw[hk];rfl
 have g2:(p.kind == 2)=true:=by rw[hk];rfl
 have g3:(p.kind == 3)=false:=by rw[hk];rfl
 obtain⟨b,o,eA,hb,q0,q1,q2,q3⟩:=(hp.all.ext X0.o).at_ h0;have hsk:=(gV hsm).2 _ (aiF h0);unfold xX at ih;have HK:=aa (fun w' (e:Ext w w')=>aa (ih w' (he.ext e) (hg.ext e) ((hp.all.kids _ (aiF h0)).ext e) hsk));have Sm:=aa (jV w he hg hp);have Qi:=aa hA;have K9:=aa hO;have xz:=aa hO0;have HKl:=aa (fun w' (e:Ext w w')=>he.af.ext e);have qD:=he.Ww;have hcm:=he.Lu;generalize p.kids[0]'h0=kid at *;unfold eu bM at *;simp only[Nat.zero_mul,Nat.add_zero] at q0 q1 q2 q3;obtain⟨e0,e1,e2⟩:=B1.o.cells;clear hk ih jV hA hO hO0 he hg hp hsm hsk;generalize p.kids.length=kl at *;obtain rfl:kl=1:=j3;generalize p.types.length=tl at *;obtain rfl:tl=0:=jr;rw[eA] at c3;clear eA;have ly:w.heap.size≠W.heap.size:=by omega
 have Gu:w.heap.size+1≠W.heap.size:=by omega
 have sF:b≠W.heap.size:=by omega
 have ei:=aa (fun w' (e:Ext W w')=>aiI (e.cell e0) (aiI (e.cell e1) (aiI (e.cell e2) (aiI (e.cell c3) (aiI (e.cell q0) (aiI (e.cell q1) (aiI (e.cell q2) (e.cell q3))))))));go_enter Tryz.func49,Tryz.ntmps49;go_upto_region 3 with fail;rw[HW.o];clear HW;go_upto_region 6 with fail
 go_cut [9,10] (fun s9 PN wx=>∃(b9:Nat) (q:Pd),s9=.pointer (some ⟨b9,0,none⟩)∧PN=.bool O0.isSome∧dX O0 q∧W.heap.size≤b9∧aiE (Ext W wx)∧aiE (aR wx b9 q))
 case first=>
  go_region_held3 (fun w'=>w'.cell? ⟨w.heap.size,0,none⟩=some (.slice x.D x.aA.length x.dc)∧w'.cell? ⟨w.heap.size,1,none⟩=some (.slice x.C x.af.length x.cc)∧w'.cell? ⟨w.heap.size,2,none⟩=some (.slice x.I x.insts.length x.ic)∧w'.cell? ⟨w.heap.size+1,3,none⟩=some (.slice (some ⟨b,o,none⟩) 1 p.cap)∧w'.cell? ⟨b,o,none⟩=some (.int .i64 kid.kind)∧w'.cell? ⟨b,o+1,none⟩=some (.int .i64 kid.n)∧w'.cell? ⟨b,o+2,none⟩=some (.slice kid.T kid.types.length kid.tc)∧w'.cell? ⟨b,o+3,none⟩=some (.slice kid.A kid.kids.length kid.cap)) (first|with_reducible assumption|(obtain⟨g1,g2,g3,g4,g5,g6,g7,g8⟩:=kS;with_reducible exact⟨aM ly _ _ _ _ g1,aM ly _ _ _ _ g2,aM ly _ _ _ _ g3,aM Gu _ _ _ _ g4,aM sF _ _ _ _ g5,aM sF _ _ _ _ g6,aM sF _ _ _ _ g7,aM sF _ _ _ _ g8⟩)|go_keep) (first
   |(
    go_at_call 49
    refine Calls.mono (HK.o _ (X0.o.trans (by repeat(first|exact eR _|exact eA (by assumption) _|refine eA ?_ _|refine eM ?_ _ _|refine eD ?_|refine eN ?_ _)))).o ?_;rintro e z ⟨⟨q,rfl,bT⟩,gY⟩;have kS:=ei.o z (by refine Ext.trans ?_ gY;exact(by repeat(first|exact eR _|exact eA (by assumption) _|refine eA ?_ _|refine eM ?_ _ _|refine eD ?_|refine eN ?_ _)))
    (try (have zz:=zp gY (B:=W.heap.size) (by with_reducible exact bI W _);obtain⟨z0,z1,z2,z3,z4,z5,z6,z7,z8⟩:=zz))))
  all_goals (go_wp2_with fail;go_meet;first
   |exact⟨z.heap.size,q,rfl,rfl,bT,aiM (aiG _) ((eR W).drew.trans gY).size,aa (((eR W).drew.trans gY).alloc _),aa (ah _ _ _ rfl)⟩
   |exact⟨W.heap.size,q,rfl,rfl,bT,aiG _,aa ((RY (((eR W).alloc _).drew) gY (aiG _) (ah W _ _ rfl) _).1),aa ((RY (((eR W).alloc _).drew) gY (aiG _) (ah W _ _ rfl) _).2)⟩)
 case rest=>
  obtain⟨b9,q,rfl,rfl,bT,Yw,HX,HB9⟩:=hcut;have hx:=HX.o;have XR:=aa (X0.o.trans hx);have B1:=aa (B1.o.ext hx);have B2:=aa (B2.o.ext hx);have B3:=aa ((hx.heap (ae B3.o)).trans B3.o);have B4:=aa ((hx.heap (ae B4.o)).trans B4.o);clear c0 c1 c2 c3 e0 e1 e2 y0 y1 y2 y3 eL eO eP eQ v0 v1 v2 v3 Aa Ab Ac Ad q0 q1 q2 q3 ei HK hx HX;obtain⟨e0,e1,e2⟩:=B1.o.cells;have Zr:=B1.o.lt;obtain⟨c0,c1,c2,c3⟩:=B2.o.cells;have lc:=B2.o.lt;have j9:=ae B3.o;have Ae:=ae B4.o;obtain⟨y0,y1,y2,y3,eL,eO,eP,eQ⟩:=ay B3.o;obtain⟨v0,v1,v2,v3,Aa,Ab,Ac,Ad⟩:=ay B4.o;obtain⟨d0,d1,d2,d3⟩:=HB9.o.cells;have ld:=HB9.o.lt;have n9:=aa (Uc x.C x.cc x.af q.cls wc (HKl.o _ XR.o) (by omega));go_wp2_with fail;refine n9.o.mono ?_;rintro e z ⟨⟨n,rfl,sD,mO⟩,rfl⟩;cases O0 with
  |none=>
   have hA:A=none:=Qi.o;have hO:O=none:=by rw[K9.o,hA];rfl
   clear Qi K9 Sm bT xz sD mO n9;subst hO;simp only[Option.isSome_none];go_wp2
   go_quiet (fail)
   all_goals
    go_wp2;refine bodyPost_ret (v:=.tuple #[.agg #[.string ⟨#[]⟩,.string ⟨#[]⟩,.int .i64 0,.slice none 0 0],.bool false]) ?_ rfl ⟨⟨⟨[],Ty.zero⟩,rfl,dX.no⟩,?_⟩
    ·simp[results,Tryz.f49,go_sem,y0,y1,y2,y3]
    ·first|exact(ar XR.o (by omega) _ _ _ _).drewN _|exact ar XR.o (by omega) _ _ _ _|exact ar (XR.o.drewN _) (by omega) _ _ _ _|exact(ar XR.o (by omega) _ _ _ _).drew
  |some a=>
   obtain rfl:=bT.eq a rfl;clear bT;simp only[Option.isSome_some];have Uh:A=(zu x.af q.cls).bind fun c=>(pH c.cQ p.n).map fun s=>(⟨s,q.ty⟩:Pd):=Qi.o
   have Hlq:=aa (xz.o q rfl);clear Qi xz n9;cases hF:zu x.af q.cls with
   |none=>
    obtain rfl:=sD hF;have hA:A=none:=by rw[Uh,hF];rfl
    have hO:O=none:=by rw[K9.o,hA];rfl
    clear K9 Sm sD mO Uh hF;subst hO;go_wp2
    go_quiet (fail)
    all_goals
     go_wp2;refine bodyPost_ret (v:=.tuple #[.agg #[.string ⟨#[]⟩,.string ⟨#[]⟩,.int .i64 0,.slice none 0 0],.bool false]) ?_ rfl ⟨⟨⟨[],Ty.zero⟩,rfl,dX.no⟩,?_⟩
     ·simp[results,Tryz.f49,go_sem,y0,y1,y2,y3]
     ·first|exact(ar XR.o (by omega) _ _ _ _).drewN _|exact ar XR.o (by omega) _ _ _ _|exact ar (XR.o.drewN _) (by omega) _ _ _ _|exact(ar XR.o (by omega) _ _ _ _).drew
   |some c=>
    obtain⟨i,hi,rfl,hic⟩:=mO c hF;have Zt:=aa (HKl.o _ XR.o);obtain⟨bc,oc,eC,Zb,r0,r1,r2⟩:=Zt.o.at_ hi;have Zu:=aa (Zt.o.all _ (aiF hi));rw[hic] at r0 r1 r2 Zu;have KP:¬((i:Int)<0):=by omega
    have Gh:(i:Int)<(x.af.length:Int):=by omega
    have Fy:(0:Int)≤(i:Int):=by omega
    rw[eC] at e1;clear eC sD mO hic;rw[hF] at Uh;have Im:A=(pH c.cQ p.n).map fun s=>(⟨s,q.ty⟩:Pd):=Uh
    clear Uh hF
    by_cases hn:p.n<0
    ·have hA:A=none:=by rw[Im,dK (by omega)];rfl
     have hO:O=none:=by rw[K9.o,hA];rfl
     have cb:decide (p.n<(0:Int))=true:=decide_eq_true hn;clear K9 Sm Im r0 r1 r2 Zt Zu KP Gh Fy Zb hi;have KP:decide ((i:Int)<0)=false:=decide_eq_false (by omega);generalize p.n=pn at *;subst hO;go_upto_region 8 with fail
     go_quiet (fail)
     all_goals
      go_wp2;refine bodyPost_ret (v:=.tuple #[.agg #[.string ⟨#[]⟩,.string ⟨#[]⟩,.int .i64 0,.slice none 0 0],.bool false]) ?_ rfl ⟨⟨⟨[],Ty.zero⟩,rfl,dX.no⟩,?_⟩
      ·simp[results,Tryz.f49,go_sem,y0,y1,y2,y3]
      ·first|exact(ar XR.o (by omega) _ _ _ _).drewN _|exact ar XR.o (by omega) _ _ _ _|exact ar (XR.o.drewN _) (by omega) _ _ _ _|exact(ar XR.o (by omega) _ _ _ _).drew
    by_cases mO:p.n≥(c.cQ.length:Int)
    ·have hA:A=none:=by rw[Im,dK (by omega)];rfl
     have hO:O=none:=by rw[K9.o,hA];rfl
     clear K9 Sm Im;subst hO;go_wp2
     go_quiet (fail)
     all_goals
      go_wp2;refine bodyPost_ret (v:=.tuple #[.agg #[.string ⟨#[]⟩,.string ⟨#[]⟩,.int .i64 0,.slice none 0 0],.bool false]) ?_ rfl ⟨⟨⟨[],Ty.zero⟩,rfl,dX.no⟩,?_⟩
      ·simp[results,Tryz.f49,go_sem,y0,y1,y2,y3]
      ·first|exact(ar XR.o (by omega) _ _ _ _).drewN _|exact ar XR.o (by omega) _ _ _ _|exact ar (XR.o.drewN _) (by omega) _ _ _ _|exact(ar XR.o (by omega) _ _ _ _).drew
    obtain⟨m,hm⟩:∃m:Nat,p.n=(m:Int):=⟨p.n.toNat,by omega⟩;have iu:m<c.cQ.length:=by omega
    have LK:(m:Int)<(c.cQ.length:Int):=by omega
    have NZ:(0:Int)≤(m:Int):=by omega
    have N6:¬((m:Int)<0):=by omega
    have Zp:¬((m:Int)≥(c.cQ.length:Int)):=by omega
    obtain⟨s,hs⟩:∃s,s=c.cQ[m]'iu:=⟨_,rfl⟩;have hA:A=some ⟨s,q.ty⟩:=by rw[Im,hm,nx _ _ iu,hs];rfl
    rw[hm] at c1;obtain⟨bs,os,eS,hbs,KL⟩:=dP.at_ Zu.o.Lt iu;have eg:c.cQ.getD m []=s:=by rw[hs];simp[iu]
    rw[eg] at KL;rw[eS] at r1;have Io:=aa (Sm.o _ hA);have xY:aiE (O=(some (⟨s,q.ty⟩:Pd)).filter dI):=aa (by rw[K9.o,hA]);have Ip:aiE ((⟨s,q.ty⟩:Pd).ty.size≤900000):=aa (by have:=(aS Hlq.o).1;show q.ty.size≤900000;omega);clear K9 Sm Im hA eS eg hm hs hn mO;go_wp2
    go_quiet (fail)
    all_goals
     go_upto_region 10 with fail
     go_region
     all_goals
      go_upto_region 16 with fail;refine bJ ?_;intro Wc BZ;have ux:aiE (Ext w Wc):=aa (by rw[BZ];first|exact(ar XR.o (by omega) _ _ _ _).drewN _|exact ar (XR.o.drewN _) (by omega) _ _ _ _|exact(ar XR.o (by omega) _ _ _ _).drew|exact ar XR.o (by omega) _ _ _ _|exact(ar (XR.o.drewN _) (by omega) _ _ _ _).drew);have BA:aiE (aR Wc (w.heap.size+1+1+1) ⟨s,q.ty⟩):=aa (by rw[BZ];exact dN B4.o ⟨s,q.ty⟩);have Ca:aiE (Wc.heap[w.heap.size+1+1]?=some (.cells #[.string ⟨#[]⟩,.string ⟨#[]⟩,.int .i64 0,.slice none 0 0] 55)):=aa (by rw[BZ];exact(eh ⟨s,q.ty⟩ (by omega)).trans B3.o);clear BZ;obtain⟨a,ha⟩:∃a,a=(⟨s,q.ty⟩:Pd):=⟨_,rfl⟩;have Ui:aiE (a.ty.size≤900000):=aa (by rw[ha];exact Ip.o);clear Ip;have Ip:=Ui;clear Ui;rw[←ha] at BA Io xY;have Il:=Io;have Ou:=xY;have Da:=Ip;clear ha Io xY Ip KL r0 r1 r2;clear e0 e1 e2 Zr c0 c1 c2 c3 lc j9 Ae y0 y1 y2 y3 eL eO eP eQ v0 v1 v2 v3 Aa Ab Ac Ad d0 d1 d2 d3 ld;have HC:=aa (fun w' (e:Ext w w')=>aa (mm a w' (Il.o.ext e) Da.o));have kA:aiE (O.isSome=dI a∧dX O a):=aa (by
       rw[Ou.o,Option.filter_some];cases WM:dI a
       ·exact⟨rfl,dX.no⟩
       ·exact⟨rfl,dX.yes a⟩)
      clear Ou;generalize dI a=ok at *;have Ug:aiE (Wc.drew.heap[w.heap.size+1+1]?=some (.cells #[.string ⟨#[]⟩,.string ⟨#[]⟩,.int .i64 0,.slice none 0 0] 55)):=aa Ca.o;obtain⟨a0,a1,a2,a3⟩:=BA.o.cells;have la:=BA.o.lt;have hy6:=ae Ca.o;have hne:w.heap.size+1+1+1≠w.heap.size+1+1:=by omega
      have nI:w.heap.size≤w.heap.size+1+1:=by omega
      obtain⟨y0,y1,y2,y3,eL,eO,eP,eQ⟩:=ay Ca.o;have ei:=aa (fun w' (e:Ext Wc w')=>aiI (e.cell a0) (aiI (e.cell a1) (aiI (e.cell a2) (e.cell a3))));unfold fN at *;go_wp2
      go_region_held3 (fun w'=>w'.cell? ⟨w.heap.size+1+1+1,0,none⟩=some (encStr a.cls)∧w'.cell? ⟨w.heap.size+1+1+1,1,none⟩=some (encStr a.ty.aq)∧w'.cell? ⟨w.heap.size+1+1+1,2,none⟩=some (.int .i64 a.ty.var)∧w'.cell? ⟨w.heap.size+1+1+1,3,none⟩=some (.slice a.ty.A a.ty.args.length a.ty.cap)) (first|with_reducible assumption|(with_reducible exact⟨aM hne _ _ _ _ a0,aM hne _ _ _ _ a1,aM hne _ _ _ _ a2,aM hne _ _ _ _ a3⟩)|go_keep) (first
       |(
        go_at_call 61
        refine Calls.mono (HC.o _ (by first|exact ux.o.drew|exact(ar ux.o nI _ _ _ _).drew|exact ux.o|exact ar ux.o nI _ _ _ _)).o ?_;rintro e z ⟨rfl,sV⟩
        (try (have kS:=ei.o z (by refine Ext.trans ?_ sV;with_reducible exact(eR Wc).drew)))
        (try (have zz:=zp sV (B:=w.heap.size+1+1) (by with_reducible exact Ug.o);obtain⟨z0,z1,z2,z3,z4,z5,z6,z7,z8⟩:=zz))))
      all_goals first
       |(
        have BB:=(dN Ca.o a).ext (Ext.trans ((eR (eK Wc (w.heap.size+1+1) a)).drew) sV);obtain⟨r0,r1,r2,r3⟩:=BB.cells;go_wp2;refine bodyPost_ret (v:=.tuple #[.agg #[encStr a.cls,encStr a.ty.aq,.int .i64 a.ty.var,.slice a.ty.A a.ty.args.length a.ty.cap],.bool ok]) ?_ rfl ⟨⟨a,by first|(rw[kA.o.1];done)|(rw[kA.o.1];rfl),kA.o.2⟩,?_⟩
        ·simp[results,Tryz.f49,go_sem,r0,r1,r2,r3]
        ·exact Ext.trans (ar ux.o nI _ _ _ _).drew sV)
       |(
        go_wp2;refine bodyPost_ret (v:=.tuple #[.agg #[encStr a.cls,encStr a.ty.aq,.int .i64 a.ty.var,.slice a.ty.A a.ty.args.length a.ty.cap],.bool ok]) ?_ rfl ⟨⟨a,by first|(rw[kA.o.1];done)|(rw[kA.o.1];rfl),kA.o.2⟩,?_⟩
        ·simp[results,Tryz.f49,go_sem,z0,z1,z2,z3]
        ·exact ar (Ext.trans ux.o.drew sV) nI _ _ _ _)
set_option maxRecDepth 512
set_option maxHeartbeats 200000
theorem uy (x:di) (G:Option Addr) (gc:Nat) (given:List Pd) (kz:∀i∈x.insts,i.preds.length≤40000) (zh:∀d∈given,d.ty.size≤900000) (p:Pf):p.size≤1000000→jX p=true→xX x G gc given 49 (bw x.af x.insts given p) p:=by
 induction p using Pf.ind with
 |h p ih=>
 intro hsz hw;obtain⟨PI,hw2,hw3⟩:=kv hw;have nX:=Pf.qi p;have IH:∀k∈p.kids,xX x G gc given 49 (bw x.af x.insts given k) k:=fun k hk=>ih k hk (by have:=Pf.cF hk;omega) (hw3 k hk)
 rw[fg];unfold ir
 by_cases h1:p.kind=1
 ·rw[if_pos h1];unfold iQ
  by_cases hk:p.kids.length=0∧p.types.length=0
  ·rw[if_pos hk]
   by_cases hn:p.n<0
   ·rw[dK (by omega)];exact Ag x G gc given p h1 hk.1 hk.2 hn
   by_cases mO:p.n<(given.length:Int)
   ·obtain⟨m,hm⟩:∃m:Nat,p.n=(m:Int):=⟨p.n.toNat,by omega⟩;have iu:m<given.length:=by omega
    refine sW x G gc given p h1 hk.1 hk.2 m hm iu zh _ ?_;rw[hm,nx _ _ iu]
   ·rw[dK (by omega)];exact Ah x G gc given p h1 hk.1 hk.2 (by omega) mO
  ·rw[if_neg hk];exact Af x G gc given p h1 (by omega) (by omega) (by omega)
 rw[if_neg h1]
 by_cases h2:p.kind=2
 ·rw[if_pos h2]
  by_cases hk:p.kids.length=1
  ·by_cases ht:p.types.length=0
   ·have h0:0<p.kids.length:=by omega
    have e:(p.kids.map (bw x.af x.insts given)).getD 0 none=bw x.af x.insts given (p.kids[0]'h0):=by simp[List.getD,h0]
    refine sY x G gc given p h2 hk ht h0 (bw x.af x.insts given (p.kids[0]'h0)) (fun q hq=>by have h:=tX hq;unfold dI at h;rw[aiT] at h;exact h.2) (IH _ (aiF h0)) (cD x.af p (p.kids.map (bw x.af x.insts given))) (fun w he hg hp a ha=>xy he hg hp ha) ?_ _ rfl;unfold cD;rw[if_pos ⟨hk,ht⟩,e]
   ·unfold cD;rw[if_neg (fun h=>ht h.2)];exact Aj x G gc given p h2 hk ht
  ·unfold cD;rw[if_neg (fun h=>hk h.1)];exact Ai x G gc given p h2 hk
 rw[if_neg h2]
 by_cases h3:p.kind=3
 ·rw[if_pos h3];exact vY x G gc given p h3 (cr x.insts p (p.kids.map (bw x.af x.insts given))) (fun w he hp a ha=>⟨BG he hp ha,DW ha⟩) (Ik x G gc given p kz IH) _ rfl
 rw[if_neg h3];exact Ak x G gc given p h1 h2 h3
structure PvR (O:Option Pd) (a:Pd) (n:Int):Prop where
 yes:∀q,O=some q→n=0∧a=q
 no:O=none→n=1∧a=⟨[],Ty.zero⟩
set_option maxRecDepth 10000
set_option maxHeartbeats 8000000
theorem qZ (x:di) (G:Option Addr) (gc:Nat) (given:List Pd) (p:Pf) (O:Option Pd) (hC:xX x G gc given 49 O p) (w:World) (he:dJ w x) (hg:bg w G given) (hp:bW w p) (hsm:fR p=true) :
  Calls Tryz.prog 28 #[eu x,.slice G given.length gc,bM p] w fun e w'=>(∃a n,e=.returned (.tuple #[fN a,.int .i64 n])∧PvR O a n)∧Ext w w':=by
 obtain⟨W,hW⟩:∃W,W=((w.alloc (.cells #[.slice x.D x.aA.length x.dc,.slice x.C x.af.length x.cc,.slice x.I x.insts.length x.ic] 26)).alloc (.cells #[.int .i64 p.kind,.int .i64 p.n,.slice p.T p.types.length p.tc,.slice p.A p.kids.length p.cap] 34)).alloc (.cells #[.string ⟨#[]⟩,.string ⟨#[]⟩,.int .i64 0,.slice none 0 0] 55):=⟨_,rfl⟩;have HW:=aa hW.symm;have X0:aiE (Ext w W):=aa (by rw[hW];exact(((eR _).alloc _).alloc _).alloc _);have B1:aiE (aI W w.heap.size x):=aa (by rw[hW];exact(aI.new w x).ext (((eR _).alloc _).alloc _));have B2:aiE (aO W (w.heap.size+1) p):=aa (by rw[hW];exact aO.ext (ah _ _ _ (by simp)) ((eR _).alloc _));have B3:aiE (W.heap[w.heap.size+1+1]?=some (.cells #[.string ⟨#[]⟩,.string ⟨#[]⟩,.int .i64 0,.slice none 0 0] 55)):=aa (by rw[hW];exact ah _ _ _ (by simp));have bR:aiE (W.heap.size=w.heap.size+3):=aa (by rw[hW];simp);obtain⟨c0,c1,c2,c3⟩:=B2.o.cells;obtain⟨e0,e1,e2⟩:=B1.o.cells;have mn:w.heap.size<W.heap.size:=by rw[bR.o];omega
 have ow:w.heap.size+1<W.heap.size:=by rw[bR.o];omega
 have dC:w.heap.size+1+1<W.heap.size:=by rw[bR.o];omega
 have HC:=aa (hC W (he.ext X0.o) (hg.ext X0.o) (hp.ext X0.o) hsm);unfold eu bM at *;clear hW he hg hp hsm hC;go_enter Tryz.func28,Tryz.ntmps28;go_upto_region 1 with fail;rw[HW.o];clear HW;go_wp2_with fail;refine HC.o.mono ?_;rintro e y ⟨⟨a,rfl,bT⟩,hx⟩;have Y1:=aa hx;have HO:=aa bT;clear bT hx HC c0 c1 c2 c3 e0 e1 e2 mn ow dC;go_upto_region 2 with fail;refine He ?_;intro W2 hW2;have BU:aiE (aR W2 y.heap.size a):=aa (by rw[hW2];exact aR.new y a);have Z1:aiE (Ext y W2):=aa (by rw[hW2];exact(eR _).alloc _);have X2:aiE (Ext W W2):=aa (Y1.o.trans Z1.o);have D2:=aa ((X2.o.heap (ae B3.o)).trans B3.o);clear hW2 Y1;cases O with
 |none=>
  simp only[Option.isSome_none];have gI:=ae D2.o;obtain⟨y0,y1,y2,y3,eL,eO,eP,eQ⟩:=ay D2.o;have XF:=aa (ar (X0.o.trans X2.o) (b:=w.heap.size+1+1) (by omega));clear HO;go_wp2;refine bodyPost_ret (v:=.tuple #[.agg #[.string ⟨#[]⟩,.string ⟨#[]⟩,.int .i64 0,.slice none 0 0],.int .i64 1]) ?_ rfl ⟨⟨⟨[],Ty.zero⟩,1,rfl,⟨(fun q h=>by cases h),fun _=>⟨rfl,rfl⟩⟩⟩,XF.o _ _ _ _⟩;simp[results,Tryz.f28,go_sem,y0,y1,y2,y3]
 |some q=>
  obtain rfl:=HO.o.eq q rfl;clear HO;simp only[Option.isSome_some];have gI:=ae D2.o;obtain⟨y0,y1,y2,y3,eL,eO,eP,eQ⟩:=ay D2.o;obtain⟨d0,d1,d2,d3⟩:=BU.o.cells;have ld:=BU.o.lt;have XF:=aa (ar (X0.o.trans X2.o) (b:=w.heap.size+1+1) (by omega));go_wp2;refine bodyPost_ret (v:=.tuple #[.agg #[encStr a.cls,encStr a.ty.aq,.int .i64 a.ty.var,.slice a.ty.A a.ty.args.length a.ty.cap],.int .i64 0]) ?_ rfl ⟨⟨a,0,rfl,⟨(fun q h=>⟨rfl,Option.some.inj h⟩),(fun h=>by cases h)⟩⟩,XF.o _ _ _ _⟩;simp[results,Tryz.f28,go_sem,y0,y1,y2,y3]
set_option maxRecDepth 512
set_option maxHeartbeats 200000
def Qj (x:di) (P:Option Addr) (pc:Nat) (preds:List Pd) (L:Option Addr) (lc:Nat) (given:List Tm) (p:Pf):Prop:=
 ∀(w:World),dJ w x→bg w P preds→bm w L given→bW w p→(bw x.af x.insts preds p).isSome=true→given.length=preds.length →
  Calls Tryz.prog 29 #[eu x,.slice P preds.length pc,.slice L given.length lc,bM p] w fun e w'=>(∃t,e=.returned (bz t)∧sO w w' given p (kR x.af x.insts preds (given.map Tm.pure) p) t)∧Ext w w'
set_option maxRecDepth 10000
set_option maxHeartbeats 8000000
theorem q8 (x:di) (P:Option Addr) (pc:Nat) (preds:List Pd) (L:Option Addr) (lc:Nat) (given:List Tm) (p:Pf) (hk:p.kind=1):Qj x P pc preds L lc given p:=by
 intro w he hP hL hp hq hlen;obtain⟨q,hq⟩:=Option.isSome_iff_exists.1 hq
 rcases eB hq with ⟨-,-,-,h0,h1⟩|⟨h,-⟩|⟨h,-⟩
 rotate_left
 ·omega
 ·omega
 obtain⟨n,hn⟩:∃n:Nat,p.n=(n:Int):=⟨p.n.toNat,by omega⟩;have hlt:n<given.length:=by omega
 rw[nD hk hn hlt];obtain⟨W,hW⟩:∃W,W=((w.alloc (.cells #[.slice x.D x.aA.length x.dc,.slice x.C x.af.length x.cc,.slice x.I x.insts.length x.ic] 26)).alloc (.cells #[.int .i64 p.kind,.int .i64 p.n,.slice p.T p.types.length p.tc,.slice p.A p.kids.length p.cap] 34)).alloc (.cells #[.int .i64 0,.int .i64 0,.string ⟨#[]⟩,.slice none 0 0,.slice none 0 0,.slice none 0 0] 40):=⟨_,rfl⟩;have HW:=aa hW.symm;have X0:aiE (Ext w W):=aa (by rw[hW];exact(((eR _).alloc _).alloc _).alloc _);have B1:aiE (aI W w.heap.size x):=aa (by rw[hW];exact(aI.new w x).ext (((eR _).alloc _).alloc _));have B2:aiE (aO W (w.heap.size+1) p):=aa (by rw[hW];exact aO.ext (ah _ _ _ (by simp)) ((eR _).alloc _));have B3:aiE (W.heap[w.heap.size+1+1]?=some (.cells #[.int .i64 0,.int .i64 0,.string ⟨#[]⟩,.slice none 0 0,.slice none 0 0,.slice none 0 0] 40)):=aa (by rw[hW];exact ah _ _ _ (by simp));obtain⟨b,o,rfl,hb,q0,q1,q2,q3,q4,q5⟩:=(hL.ext X0.o).at_ hlt;have jV:=hL.kids _ (aiF hlt);have HA:aiE (az (w.heap.size+1+1) (given[n]'hlt)):=aa (bA jV (by omega));have HI:=aa (jV.ext X0.o);have Hm:=aa (aiF hlt);generalize given[n]'hlt=g at *;have HF:aiE (sO w (cC W (w.heap.size+1+1) g) given p g.pure g):=aa ⟨HI.o.grown (bh _ _ _) (fun c e=>by injection e with e;subst e;exact HA.o),rfl,fun c _ h _=>h g Hm.o⟩;have XF:=aa (bk X0.o (by omega:w.heap.size≤w.heap.size+1+1) g);obtain⟨c0,c1,c2,c3⟩:=B2.o.cells;obtain⟨e0,e1,e2⟩:=B1.o.cells;obtain⟨z0,z1,z2,z3,z4,z5,gC,gD,gF,gH,vV,vW⟩:=bB B3.o;have n1:=B1.o.lt;have n2:=B2.o.lt;have n3:=ae B3.o;have zr:(0:Int)≤(n:Int):=by omega
 have sD:(n:Int)<(given.length:Int):=by omega
 rw[hk] at c0;rw[hn] at c1;unfold eu bM;clear hW he hP hL hp hq jV h0 h1 hlen hk hn;go_enter Tryz.func29,Tryz.ntmps29;go_upto_region 1 with fail;rw[HW.o];clear HW;go_wp2;refine bodyPost_ret (v:=bz g) ?_ rfl ⟨⟨g,rfl,HF.o⟩,XF.o⟩;simp[results,Tryz.f29,go_sem,z0,z1,z2,z3,z4,z5]
theorem ra (x:di) (P:Option Addr) (pc:Nat) (preds:List Pd) (L:Option Addr) (lc:Nat) (given:List Tm) (p:Pf) (hk:p.kind=2) (kz:∀i∈x.insts,i.preds.length≤40000) (zh:∀d∈preds,d.ty.size≤900000) (hsz:p.size≤1000000) (hwd:jX p=true) (hsm:fR p=true) (ih:∀k∈p.kids,Qj x P pc preds L lc given k):Qj x P pc preds L lc given p:=by
 intro w he hP hL hp hq hlen;obtain⟨q,hq⟩:=Option.isSome_iff_exists.1 hq
 rcases eB hq with ⟨h,-⟩|⟨-,-,k,b,j3,hkb⟩|⟨h,-⟩
 ·omega
 rotate_left
 ·omega
 rw[qU hk j3 hkb];obtain⟨W,hW⟩:∃W,W=((w.alloc (.cells #[.slice x.D x.aA.length x.dc,.slice x.C x.af.length x.cc,.slice x.I x.insts.length x.ic] 26)).alloc (.cells #[.int .i64 p.kind,.int .i64 p.n,.slice p.T p.types.length p.tc,.slice p.A p.kids.length p.cap] 34)).alloc (.cells #[.int .i64 0,.int .i64 0,.string ⟨#[]⟩,.slice none 0 0,.slice none 0 0,.slice none 0 0] 40):=⟨_,rfl⟩;have HW:=aa hW.symm;have X0:aiE (Ext w W):=aa (by rw[hW];exact(((eR _).alloc _).alloc _).alloc _);have B1:aiE (aI W w.heap.size x):=aa (by rw[hW];exact(aI.new w x).ext (((eR _).alloc _).alloc _));have B2:aiE (aO W (w.heap.size+1) p):=aa (by rw[hW];exact aO.ext (ah _ _ _ (by simp)) ((eR _).alloc _));have B3:aiE (W.heap[w.heap.size+1+1]?=some (.cells #[.int .i64 0,.int .i64 0,.string ⟨#[]⟩,.slice none 0 0,.slice none 0 0,.slice none 0 0] 40)):=aa (by rw[hW];exact ah _ _ _ (by simp));have bR:aiE (W.heap.size=w.heap.size+3):=aa (by rw[hW];simp);have cB:k∈p.kids:=by rw[j3];simp
 have hall:=hp.all;have qV:=hall.kids k cB;obtain⟨b0,o0,hA,Qc,q0,q1,q2,q3⟩:=hall.at_ (i:=0) (by rw[j3];simp);have hb0:b0<W.heap.size:=Nat.lt_of_lt_of_le Qc X0.o.size;have cV:p.kids[0]'(by rw[j3];simp)=k:=by simp[j3]
 rw[cV] at q0 q1 q2 q3;simp only[Nat.zero_mul,Nat.add_zero] at q0 q1 q2 q3;have FH:=aa (fun w' (e:Ext W w')=>aa (qZ x P pc preds k (bw x.af x.insts preds k) (uy x P pc preds kz zh k (by have:=Pf.cF cB;omega) ((kv hwd).2.2 k cB)) w' (he.ext (X0.o.trans e)) (hP.ext (X0.o.trans e)) (qV.ext (X0.o.trans e)) ((gV hsm).2 k cB)));have HT:=aa (fun w' (e:Ext W w')=>aa (ih k cB w' (he.ext (X0.o.trans e)) (hP.ext (X0.o.trans e)) (hL.ext (X0.o.trans e)) (qV.ext (X0.o.trans e)) (by rw[hkb];rfl) hlen));rw[hkb] at FH;have sR:aiE (∀c,w.heap.size≤c→(∀g∈given,az c g)∧aJ c k):=aa (fun c hc=>⟨fun g hg=>bA (hL.kids g hg) hc,dO qV hc⟩);have nG:aiE (∀c,aJ c p→aJ c k):=aa (fun c h=>h.kids k cB);obtain⟨c0,c1,c2,c3⟩:=B2.o.cells;obtain⟨e0,e1,e2⟩:=B1.o.cells;rw[hk] at c0;rw[hA,j3] at c3;have n1:=B1.o.lt;have n2:=B2.o.lt;have n3:=ae B3.o;have sq:=aa (aiI c0 (aiI c1 c3));replace q0:=X0.o.cell q0;replace q1:=X0.o.cell q1;replace q2:=X0.o.cell q2;replace q3:=X0.o.cell q3;have Mg:=aa (aiI q0 (aiI q1 (aiI q2 q3)));generalize nZ:kR x.af x.insts preds (given.map Tm.pure) k=Q at *;have HV:aiE (bM p=.agg #[.int .i64 2,.int .i64 p.n,.slice p.T p.types.length p.tc,.slice (some ⟨b0,o0,none⟩) 1 p.cap]):=aa (by unfold bM;rw[hk,hA,j3];rfl);rw[HV.o];have HW:aiE (((w.alloc (.cells #[.slice x.D x.aA.length x.dc,.slice x.C x.af.length x.cc,.slice x.I x.insts.length x.ic] 26)).alloc (.cells #[.int .i64 2,.int .i64 p.n,.slice p.T p.types.length p.tc,.slice (some ⟨b0,o0,none⟩) 1 p.cap] 34)).alloc (.cells #[.int .i64 0,.int .i64 0,.string ⟨#[]⟩,.slice none 0 0,.slice none 0 0,.slice none 0 0] 40)=W):=aa (by have h:=HW.o;rw[hk,hA,j3] at h;exact h);unfold eu bM at *;have Zf:aiE (b.cls.length≤1000000000000000000):=aa (ov he hP k qV b hkb).cls;clear hW he hP hL hp hq hlen hk j3 hkb cB hall qV hA cV ih nZ HV;have l1:((([k]:List Pf).length:Nat):Int)=1:=rfl;go_enter Tryz.func29,Tryz.ntmps29;go_upto_region 1 with fail;rw[HW.o];clear HW;go_upto_region 5 with fail;refine bJ ?_;intro W5 lI;have X5:aiE (Ext W W5):=aa (by rw[lI];exact eR _);clear lI c0 c1 c2 c3 e0 e1 e2 q0 q1 q2 q3 n1 n2 n3;have xd:=aa (fun w' (e:Ext W w')=>(B1.o.ext e).cells);have ei:aiE (∀w',Ext W w'→w'.cell? ⟨w.heap.size+1,3,none⟩=some (.slice (some ⟨b0,o0,none⟩) 1 p.cap)∧w'.cell? ⟨b0,o0,none⟩=some (.int .i64 k.kind)∧w'.cell? ⟨b0,o0+1,none⟩=some (.int .i64 k.n)∧w'.cell? ⟨b0,o0+2,none⟩=some (.slice k.T k.types.length k.tc)∧w'.cell? ⟨b0,o0+3,none⟩=some (.slice k.A k.kids.length k.cap) ∧
   w'.cell? ⟨w.heap.size,0,none⟩=some (.slice x.D x.aA.length x.dc)∧w'.cell? ⟨w.heap.size,1,none⟩=some (.slice x.C x.af.length x.cc)∧w'.cell? ⟨w.heap.size,2,none⟩=some (.slice x.I x.insts.length x.ic)):=aa (fun w' e=>
  ⟨e.cell sq.o.2.2,e.cell Mg.o.1,e.cell Mg.o.2.1,e.cell Mg.o.2.2.1,e.cell Mg.o.2.2.2,(xd.o w' e).1,(xd.o w' e).2.1,(xd.o w' e).2.2⟩)
 obtain⟨s0,s1,s2,s3,s4,s5,s6,s7⟩:=ei.o W5 X5.o;have n1:=(B1.o.ext X5.o).lt;have n2:=(B2.o.ext X5.o).lt;have n0:b0<W5.heap.size:=by have:=X5.o.size;omega
 have k0:b0≠W5.heap.size:=by omega
 have k1:w.heap.size≠W5.heap.size:=by omega
 have k2:w.heap.size+1≠W5.heap.size:=by omega
 go_cut [9,10] (fun s5 s6 wx=>∃(b5:Nat),s5=.pointer (some ⟨b5,0,none⟩)∧aiE (lO W5 wx b5 b.cls))
 case first=>
  go_region_held3 (fun w'=>w'.cell? ⟨w.heap.size+1,3,none⟩=some (.slice (some ⟨b0,o0,none⟩) 1 p.cap)∧w'.cell? ⟨b0,o0,none⟩=some (.int .i64 k.kind)∧w'.cell? ⟨b0,o0+1,none⟩=some (.int .i64 k.n)∧w'.cell? ⟨b0,o0+2,none⟩=some (.slice k.T k.types.length k.tc)∧w'.cell? ⟨b0,o0+3,none⟩=some (.slice k.A k.kids.length k.cap) ∧
   w'.cell? ⟨w.heap.size,0,none⟩=some (.slice x.D x.aA.length x.dc)∧w'.cell? ⟨w.heap.size,1,none⟩=some (.slice x.C x.af.length x.cc)∧w'.cell? ⟨w.heap.size,2,none⟩=some (.slice x.I x.insts.length x.ic)) (first|with_reducible assumption|(obtain⟨g0,g1,g2,g3,g4,g5,g6,g7⟩:=kS;with_reducible exact⟨aM k2 _ _ _ _ g0,aM k0 _ _ _ _ g1,aM k0 _ _ _ _ g2,aM k0 _ _ _ _ g3,aM k0 _ _ _ _ g4,aM k1 _ _ _ _ g5,aM k1 _ _ _ _ g6,aM k1 _ _ _ _ g7⟩)|go_keep) (
   (
   go_at_call 28
   refine Calls.mono (FH.o _ (X5.o.trans (by repeat(first|exact eR _|exact eA (by assumption) _|refine eA ?_ _|refine eM ?_ _ _|refine eD ?_|refine eN ?_ _)))).o ?_;rintro e y ⟨⟨a,n,rfl,Mh⟩,hx⟩;have EA:aiE (Ext W5 y):=aa (by refine Ext.trans ?_ hx;exact(by repeat(first|exact eR _|exact eA (by assumption) _|refine eA ?_ _|refine eM ?_ _ _|refine eD ?_|refine eN ?_ _)));have kS:=ei.o y (X5.o.trans EA.o)
   try (have hz:=aa ((hx.heap (ae (bI W5 _))).trans (bI W5 _));have z0:=ag hz.o 0;have z1:=ag hz.o 1;have z2:=ag hz.o 2;have z3:=ag hz.o 3;have z4:=ai hz.o 0;have z5:=ai hz.o 1;have z6:=ai hz.o 2;have z7:=ai hz.o 3;simp only[aiN,aiO,aiP] at z0 z1 z2 z3)))
  all_goals (have TV:=congrArg Pd.cls (Mh.yes b rfl).2;go_wp2_with fail;go_meet;first
   |exact⟨y.heap.size,rfl,aa (by rw[←TV];exact lO.behind EA.o)⟩
   |exact⟨W5.heap.size,rfl,aa (by rw[←TV];exact lO.ahead EA.o (aiG _) hz.o)⟩)
 case rest=>
  obtain⟨b5,rfl,HC⟩:=hcut;have X6:=aa (X5.o.trans HC.o.x);have Zg:aiE (b.cls.length≤1000000000000000000):=Zf;clear s0 s1 s2 s3 s4 s5 s6 s7 n1 n2 n0 k0 k1 k2;obtain⟨s0,s1,s2,s3,s4,s5,s6,s7⟩:=ei.o wc X6.o;obtain⟨m0,m1,m2⟩:=xd.o wc X6.o;have c1:=X6.o.cell sq.o.2.1;have d0:=HC.o.c0;have dl:=HC.o.lt;have n1:=(B1.o.ext X6.o).lt;have n2:=(B2.o.ext X6.o).lt;have n0:b0<wc.heap.size:=by have:=X6.o.size;omega
  have Zh:aiE (∀w',Ext wc w'→w'.cell? ⟨w.heap.size+1,1,none⟩=some (.int .i64 p.n)∧w'.cell? ⟨b5,0,none⟩=some (encStr b.cls)):=aa (fun w' e=>⟨e.cell c1,e.cell d0⟩);have B4:aiE (wc.heap[w.heap.size+1+1]?=some (.cells #[.int .i64 0,.int .i64 0,.string ⟨#[]⟩,.slice none 0 0,.slice none 0 0,.slice none 0 0] 40)):=aa ((X6.o.heap (ae B3.o)).trans B3.o);obtain⟨z0,z1,z2,z3,z4,z5,gC,gD,gF,gH,vV,vW⟩:=bB B4.o;have n3:=ae B4.o;have Fv:aiE (∀w',Ext wc w'→w'.cell? ⟨w.heap.size+1,3,none⟩=some (.slice (some ⟨b0,o0,none⟩) 1 p.cap)∧w'.cell? ⟨b0,o0,none⟩=some (.int .i64 k.kind)∧w'.cell? ⟨b0,o0+1,none⟩=some (.int .i64 k.n)∧w'.cell? ⟨b0,o0+2,none⟩=some (.slice k.T k.types.length k.tc)∧w'.cell? ⟨b0,o0+3,none⟩=some (.slice k.A k.kids.length k.cap) ∧
   w'.cell? ⟨w.heap.size,0,none⟩=some (.slice x.D x.aA.length x.dc)∧w'.cell? ⟨w.heap.size,1,none⟩=some (.slice x.C x.af.length x.cc)∧w'.cell? ⟨w.heap.size,2,none⟩=some (.slice x.I x.insts.length x.ic) ∧
   w'.cell? ⟨w.heap.size+1,1,none⟩=some (.int .i64 p.n)∧w'.cell? ⟨b5,0,none⟩=some (encStr b.cls)):=aa (fun w' e=>by
   obtain⟨a0,a1,a2,a3,a4,a5,a6,a7⟩:=ei.o w' (X6.o.trans e);exact⟨a0,a1,a2,a3,a4,a5,a6,a7,Zh.o w' e⟩)
  have bS:=HC.o.ge;have jA:=X5.o.size;have j0:b0≠w.heap.size+1+1:=by omega
  have j1:w.heap.size≠w.heap.size+1+1:=by omega
  have j2:w.heap.size+1≠w.heap.size+1+1:=by omega
  have hws:W.heap.size=w.heap.size+3:=bR.o;have j5:b5≠w.heap.size+1+1:=by omega
  clear HC;go_wp2
  go_region_held3 (fun w'=>w'.cell? ⟨w.heap.size+1,3,none⟩=some (.slice (some ⟨b0,o0,none⟩) 1 p.cap)∧w'.cell? ⟨b0,o0,none⟩=some (.int .i64 k.kind)∧w'.cell? ⟨b0,o0+1,none⟩=some (.int .i64 k.n)∧w'.cell? ⟨b0,o0+2,none⟩=some (.slice k.T k.types.length k.tc)∧w'.cell? ⟨b0,o0+3,none⟩=some (.slice k.A k.kids.length k.cap) ∧
   w'.cell? ⟨w.heap.size,0,none⟩=some (.slice x.D x.aA.length x.dc)∧w'.cell? ⟨w.heap.size,1,none⟩=some (.slice x.C x.af.length x.cc)∧w'.cell? ⟨w.heap.size,2,none⟩=some (.slice x.I x.insts.length x.ic) ∧
   w'.cell? ⟨w.heap.size+1,1,none⟩=some (.int .i64 p.n)∧w'.cell? ⟨b5,0,none⟩=some (encStr b.cls)) (first|with_reducible assumption|(obtain⟨g0,g1,g2,g3,g4,g5,g6,g7,g9,g10⟩:=kS;with_reducible exact⟨cE j2 _ _ _ _ _ _ _ g0,cE j0 _ _ _ _ _ _ _ g1,cE j0 _ _ _ _ _ _ _ g2,cE j0 _ _ _ _ _ _ _ g3,cE j0 _ _ _ _ _ _ _ g4,cE j1 _ _ _ _ _ _ _ g5,cE j1 _ _ _ _ _ _ _ g6,cE j1 _ _ _ _ _ _ _ g7,cE j2 _ _ _ _ _ _ _ g9,cE j5 _ _ _ _ _ _ _ g10⟩)|go_keep) (
   (
   go_at_call 29
   refine Calls.mono (HT.o _ (X6.o.trans (by repeat(first|exact eR _|exact eA (by assumption) _|refine eA ?_ _|refine eM ?_ _ _|refine eD ?_|refine eN ?_ _)))).o ?_;rintro e y ⟨⟨t,rfl,ht⟩,hx⟩;have EA:aiE (Ext wc y):=aa (by refine Ext.trans ?_ hx;exact(by repeat(first|exact eR _|exact eA (by assumption) _|refine eA ?_ _|refine eM ?_ _ _|refine eD ?_|refine eN ?_ _)));have kS:=Fv.o y EA.o;have B5:=aa ((EA.o.heap (ae B4.o)).trans B4.o);obtain⟨a0,a1,a2,a3,a4,a5,Wy,af1,af2,af3,af4,af5⟩:=bB B5.o;have WY:=ae B5.o))
  have ht:sO wc y given k Q t:=⟨ht.gZ,ht.is,ht.away⟩;have H6:=aa (sR.o (w.heap.size+1+1) (by omega));have n9:=aa (ht.away (w.heap.size+1+1) (by omega) H6.o.1 H6.o.2);obtain⟨U,hU⟩:∃U,U=Mf b.cls p.n y.heap.size t:=⟨_,rfl⟩;have HX:aiE (((((((y.setCell ⟨w.heap.size+1+1,0,none⟩ (.int .i64 13)).setCell ⟨w.heap.size+1+1,1,none⟩ (.int .i64 p.n)).setCell ⟨w.heap.size+1+1,2,none⟩ (.string ⟨b.cls.toArray⟩)).setCell ⟨w.heap.size+1+1,3,none⟩ (.slice none 0 0)).setCell ⟨w.heap.size+1+1,4,none⟩ (.slice none 0 0)).setCell ⟨w.heap.size+1+1,5,none⟩ (.slice (some ⟨y.heap.size,0,none⟩) 1 1)).alloc (.cells #[.int .i64 t.kind,.int .i64 t.n,encStr t.name,.slice t.V t.vars.length t.vc,.slice t.T t.types.length t.tc,.slice t.A t.kids.length t.cap] 40)=(cC y (w.heap.size+1+1) U).alloc (.cells #[.int .i64 t.kind,.int .i64 t.n,encStr t.name,.slice t.V t.vars.length t.vc,.slice t.T t.types.length t.tc,.slice t.A t.kids.length t.cap] 40)):=aa (by rw[hU];rfl);have H8:=fP y (w.heap.size+1+1) U;have XF:=aa (((bk (X0.o.trans (X6.o.trans EA.o)) (by omega:w.heap.size≤w.heap.size+1+1) U).alloc (.cells #[.int .i64 t.kind,.int .i64 t.n,encStr t.name,.slice t.V t.vars.length t.vc,.slice t.T t.types.length t.tc,.slice t.A t.kids.length t.cap] 40)));have HI:aiE (aQ ((cC y (w.heap.size+1+1) U).alloc (.cells #[.int .i64 t.kind,.int .i64 t.n,encStr t.name,.slice t.V t.vars.length t.vc,.slice t.T t.types.length t.tc,.slice t.A t.kids.length t.cap] 40)) U):=aa (by
   rw[hU];refine BV (by have:=Zg.o;omega) ((ht.gZ.grown (bh _ _ _) (fun c e=>by injection e with e;subst e;exact n9.o)).ext ((eR _).alloc _)) ?_;have:=av.new (cC y (w.heap.size+1+1) U) t;rw[H8] at this;rw[←hU];exact this)
  have HU:aiE (U.pure=.mk 13 p.n b.cls [] [] [Q]∧∀c,c<w.heap.size→(∀g∈given,az c g)→aJ c p→az c U):=aa ⟨by rw[hU,Tm.aG];show Tm.Pure.mk 13 p.n b.cls [] [] [t.pure]=_;rw[ht.is],fun c hc h1 h2=>by
   rw[hU];exact ur (by have:=EA.o.size;have:=X6.o.size;omega) (ht.away c (by have:=X6.o.size;have:=EA.o.size;omega) h1 (nG.o c h2))⟩
  have Zi:aiE (bz U=.agg #[.int .i64 13,.int .i64 p.n,.string ⟨b.cls.toArray⟩,.slice none 0 0,.slice none 0 0,.slice (some ⟨y.heap.size,0,none⟩) 1 1]):=aa (by rw[hU];rfl);rw[←HX.o] at XF HI;clear hU H8 HX ht;go_wp2;refine bodyPost_ret (v:=bz U) ?_ rfl ⟨⟨U,rfl,?_,HU.o.1,HU.o.2⟩,?_⟩
  ·rw[Zi.o];simp[results,Tryz.f29,go_sem,a0,a1,a2,a3,a4,a5,WY]
  ·exact HI.o.ext (by repeat(first|exact eR _|exact eA (by assumption) _|refine eA ?_ _|refine eM ?_ _ _|refine eD ?_|refine eN ?_ _))
  ·exact XF.o.trans (by repeat(first|exact eR _|exact eA (by assumption) _|refine eA ?_ _|refine eM ?_ _ _|refine eD ?_|refine eN ?_ _))
set_option maxRecDepth 512
set_option maxHeartbeats 200000
theorem nJ : (Tryz.prog.info? 40).map (fun i=>(i.zero,i.size,i.bytes))=some (some (.agg #[.int .i64 0,.int .i64 0,.string ⟨#[]⟩,.slice none 0 0,.slice none 0 0,.slice none 0 0]),6,104):=by kernel_rfl
structure pJ (w WF wr:World) (base rb:Nat) (given:List Tm) (p:Pf) (Q:List Tm.Pure) (ts:List Tm) (v:Value):Prop where
 own:wr.ownsRow base 40 6 v ts.length (ts.flatMap eY.f)
 gZ:∀t∈ts,aQ wr t
 DX:∀t∈ts,∀c,v.ownBlock=some c→az c t
 res:∀t∈ts,az rb t
 away:∀t∈ts,∀c,c<w.heap.size→(∀g∈given,az c g)→aJ c p→az c t
 is:ts.map Tm.pure=Q
 ext:Ext WF wr
theorem pJ.snoc {w WF wr w5 w6:World}{base rb:Nat}{given:List Tm}{p:Pf}{Q:List Tm.Pure}{ts:List Tm}{v v6:Value}{t:Tm}{q:Tm.Pure}(h:pJ w WF wr base rb given p Q ts v) (hb:WF.heap.size≤base) (e:Ext wr w5) (ht:aQ w5 t) (hq:t.pure=q) (Qk:∀c,v.ownBlock=some c→az c t) (Ql:az rb t)
  (Uj:∀c,c<w.heap.size→(∀g∈given,az c g)→aJ c p→az c t)
  (hown:w6.ownsRow base 40 6 v6 (ts++[t]).length ((ts++[t]).flatMap eY.f)) (hg:w5.grownBy w6 v.ownBlock) (hat:v6.ownBlock=v.ownBlock∨∀c,v6.ownBlock=some c→w5.heap.size≤c) :
  pJ w WF w6 base rb given p (Q++[q]) (ts++[t]) v6:=by
 have all:∀z∈ts++[t],aQ w5 z∧(∀c,v.ownBlock=some c→az c z)∧az rb z∧∀c,c<w.heap.size→(∀g∈given,az c g)→aJ c p→az c z:=fun z hz=>by
  rcases List.mem_append.1 hz with hz|hz
  ·exact⟨(h.gZ z hz).ext e,h.DX z hz,h.res z hz,h.away z hz⟩
  ·rw[aiV] at hz;subst hz;exact⟨ht,Qk,Ql,Uj⟩
 refine⟨hown,fun z hz=>(all z hz).1.grown hg (all z hz).2.1,fun z hz c hc => ?_,fun z hz=>(all z hz).2.2.1,fun z hz=>(all z hz).2.2.2,by rw[aiX,h.is];simp[hq],?_⟩
 ·rcases hat with h1|h1
  ·exact(all z hz).2.1 c (h1▸hc)
  ·exact bA (all z hz).1 (h1 c hc)
 ·exact(h.ext.trans e).grown hg (fun c hc=>aiM hb (h.own.lt c hc).1)
def pK (s:aj):Tm:=.mk 1 0 s none 0 [] none 0 [] none 0 []
theorem Al (w:World){s:aj}(hs:s.length≤9223372036854775807):aQ w (pK s):=
 .mk ⟨aiH _,by show 0≤9223372036854775807;omega,aiH _,by show 0≤9223372036854775807;omega,aiH _,by show 0≤9223372036854775807;omega,hs,ak.nil _ _ _,bH.nil _ _,ak.nil _ _ _⟩ (by intro k hk;cases hk)
theorem rf (c:Nat) (s:aj):az c (pK s):=.mk (fun h=>absurd rfl h) (fun h=>absurd rfl h) (by intro x hx;cases hx) (fun h=>absurd rfl h) (by intro k hk;cases hk)
theorem rh (s:aj):(pK s).pure=.mk 1 0 s [] [] []:=by rw[Tm.aG];rfl
def Uk (T:Option Addr) (tc:Nat) (types:List Ty) (g:Nat) (t:Tm):Tm:=.mk 6 0 [] none 0 [] T tc types (some ⟨g,0,none⟩) 1 [t]
theorem Iq {w:World}{T:Option Addr}{tc:Nat}{types:List Ty}{g:Nat}{t:Tm}(hT:bH w T types) (hl:types.length≤tc) (hm:tc≤9223372036854775807) (ht:aQ w t) (hg:av w g t):aQ w (Uk T tc types g t):=
 .mk ⟨aiH _,by show 0≤9223372036854775807;omega,hl,hm,aiG _,by show 1≤9223372036854775807;omega,by show 0≤9223372036854775807;omega,ak.nil _ _ _,hT,ak.block eY [t] hg⟩ (fun k hk=>by
  have hk:k∈[t]:=hk;rw[aiV] at hk;subst hk;exact ht)
theorem xZ {c:Nat}{T:Option Addr}{tc:Nat}{types:List Ty}{g:Nat}{t:Tm}(hT:jZ c T types.length) (jr:∀x∈types,aC c x=true) (hg:g≠c) (ht:az c t):az c (Uk T tc types g t):=
 .mk (fun h=>absurd rfl h) hT jr (fun _ a e=>by injection e with e;subst e;exact hg) (fun k hk=>by
  have hk:k∈[t]:=hk;rw[aiV] at hk;subst hk;exact ht)
theorem x6 (T:Option Addr) (tc:Nat) (types:List Ty) (g:Nat) (t:Tm):(Uk T tc types g t).pure=.mk 6 0 [] [] (types.map Ty.pure) [t.pure]:=by rw[Tm.aG];rfl
set_option maxRecDepth 10000
set_option maxHeartbeats 8000000
theorem vZ (x:di) (P:Option Addr) (pc:Nat) (preds:List Pd) (L:Option Addr) (lc:Nat) (given:List Tm) (hpl:∀y∈x.insts,y.preds.length≤40000) (p:Pf) (hk:p.kind=3) (ih:∀k∈p.kids,Sg x P pc preds L lc given k):Sg x P pc preds L lc given p:=by
 intro w he hP hL hp hq hlen jb;obtain⟨q,hq⟩:=Option.isSome_iff_exists.1 hq
 rcases eB hq with ⟨h,-⟩|⟨h,-⟩|⟨-,y,hy,nX,js⟩
 ·omega
 ·omega
 rw[pT hk hy];obtain⟨h0,-,xW,DY⟩:=nv hy;obtain⟨n,hn⟩:∃n:Nat,p.n=(n:Int):=⟨p.n.toNat,by omega⟩;rw[hn,Int.toNat_natCast] at xW;have DY:x.insts[n]'xW=y:=by rw[←DY];congr 1;omega
 obtain⟨W,hW⟩:∃W,W=((w.alloc (.cells #[.slice x.D x.aA.length x.dc,.slice x.C x.af.length x.cc,.slice x.I x.insts.length x.ic,.slice P preds.length pc,.slice L given.length lc] 80)).alloc (.cells #[.int .i64 p.kind,.int .i64 p.n,.slice p.T p.types.length p.tc,.slice p.A p.kids.length p.cap] 34)).alloc (.cells #[.int .i64 0,.int .i64 0,.string ⟨#[]⟩,.slice none 0 0,.slice none 0 0,.slice none 0 0] 40):=⟨_,rfl⟩;have HW:=aa hW.symm;have X0:aiE (Ext w W):=aa (by rw[hW];exact(((eR _).alloc _).alloc _).alloc _);have B1:aiE (gw W w.heap.size x P pc preds L lc given):=aa (by rw[hW];exact(gw.new w).ext (((eR _).alloc _).alloc _));have B2:aiE (aO W (w.heap.size+1) p):=aa (by rw[hW];exact aO.ext (ah _ _ _ (by simp)) ((eR _).alloc _));have B3:aiE (W.heap[w.heap.size+1+1]?=some (.cells #[.int .i64 0,.int .i64 0,.string ⟨#[]⟩,.slice none 0 0,.slice none 0 0,.slice none 0 0] 40)):=aa (by rw[hW];exact ah _ _ _ (by simp));have bR:aiE (W.heap.size=w.heap.size+3):=aa (by rw[hW];simp);obtain⟨bi,oi,FJ,hbi,r0,r1,r2,r3⟩:=(he.insts.ext X0.o).at_ xW;rw[DY] at r0 r1 r2 r3;have oC:=he.insts.all _ (aiF xW);rw[DY] at oC;have Ae:=hpl _ (aiF xW);rw[DY] at Ae;have HN:=aa (fun w'=>Qb y.cls y.aq w' oC.txt oC.ctxt);have Sn:aiE ((iv y.cls y.aq).length≤9223372036854775807):=aa (by have:=oC.txt;have:=oC.ctxt;unfold iv;simp;omega);have hall:=aa hp.all;have Ir:=aa hp.hd.types;have Qm:=hp.hd.FV;have Iu:=hp.hd.qj;have HT:=aa (fun j (hj:j<p.kids.length) w' (e:Ext W w')=>aa (ih _ (aiF hj) w' (he.ext (X0.o.trans e)) (hP.ext (X0.o.trans e)) (hL.ext (X0.o.trans e)) ((hp.all.kids _ (aiF hj)).ext (X0.o.trans e)) (by obtain⟨b,hb⟩:=js _ (aiF hj);rw[hb];rfl) hlen (sw.ext jb (X0.o.trans e))));have sR:aiE (∀c,w.heap.size≤c→(∀g∈given,az c g)∧aJ c p):=aa (fun c hc=>⟨fun g hg=>bA (hL.kids g hg) hc,dO hp hc⟩);have nG:aiE (∀c,aJ c p→∀k∈p.kids,aJ c k):=aa (fun c h=>h.kids);have Zv:p.kids.length≤40000:=by omega
 obtain⟨j0,hj,nB,gI,gM⟩:=info_parts nJ;obtain⟨c0,c1,c2,c3⟩:=B2.o.cells;obtain⟨e0,e1,e2,e3,e4⟩:=B1.o.cells;rw[hk] at c0;rw[hn] at c1;rw[FJ] at e2;have n1:=B1.o.lt;have n2:=B2.o.lt;have n3:=ae B3.o;have zr:(0:Int)≤(n:Int):=by omega
 have sD:(n:Int)<(x.insts.length:Int):=by omega
 have sq:=aa (aiI c2 c3);have HV:aiE (bM p=.agg #[.int .i64 3,.int .i64 (n:Int),.slice p.T p.types.length p.tc,.slice p.A p.kids.length p.cap]):=aa (by unfold bM;rw[hk,hn]);have xd:=aa (fun w' (e:Ext W w')=>(B1.o.ext e).cells);have HIA:=aa FJ;rw[HV.o];have HW:aiE (((w.alloc (.cells #[.slice x.D x.aA.length x.dc,.slice x.C x.af.length x.cc,.slice (some ⟨bi,oi,none⟩) x.insts.length x.ic,.slice P preds.length pc,.slice L given.length lc] 80)).alloc (.cells #[.int .i64 3,.int .i64 (n:Int),.slice p.T p.types.length p.tc,.slice p.A p.kids.length p.cap] 34)).alloc (.cells #[.int .i64 0,.int .i64 0,.string ⟨#[]⟩,.slice none 0 0,.slice none 0 0,.slice none 0 0] 40)=W):=aa (by have h:=HW.o;rw[hk,hn,FJ] at h;exact h);have Qn:aiE (.agg #[.slice x.D x.aA.length x.dc,.slice x.C x.af.length x.cc,.slice x.I x.insts.length x.ic,.slice P preds.length pc,.slice L given.length lc]=Value.agg #[.slice x.D x.aA.length x.dc,.slice x.C x.af.length x.cc,.slice (some ⟨bi,oi,none⟩) x.insts.length x.ic,.slice P preds.length pc,.slice L given.length lc]):=aa (by rw[FJ]);rw[Qn.o];rw[Qn.o] at HT;rw[FJ] at xd;generalize Qo:kR x.af x.insts preds (given.map Tm.pure)=EV at *;generalize hN:iv y.cls y.aq=nm at *;generalize hQQ:(p.kids.map EV).foldl ou (if p.types.map Ty.pure=[] then .mk 1 0 nm [] [] [] else .mk 6 0 [] [] (p.types.map Ty.pure) [.mk 1 0 nm [] [] []])=QQ at *;have Xf:=aa hQQ;clear hQQ;unfold bM at HT;clear hW he hP hL hp hq jb hlen ih js FJ HV hk hn h0 nX hy DY hpl oC HIA Qn;generalize p.A=PA at *;go_enter Tryz.func47,Tryz.ntmps47;go_upto_region 1 with fail;rw[HW.o];clear HW;go_wp2_with fail;refine(HN.o _).mono ?_;rintro e w6 ⟨rfl,hw6⟩;rw[hw6];clear hw6 w6;clear HN e0 e1 e2 e3 e4 c0 c1 c2 c3 r0 r1 r2 r3;go_upto_region 9 with fail;refine bJ ?_;intro W8 ui;have X8:aiE (Ext W W8):=aa (by rw[ui];exact((eR _).alloc _).alloc _);have D8:aiE (av W8 (W.heap.size+1) (pK nm)):=aa (by rw[ui];exact ah _ _ _ (by simp));clear ui;replace n1:=(B1.o.ext X8.o).lt;replace n2:=(B2.o.ext X8.o).lt;have c2:=X8.o.cell sq.o.1;have c3:=X8.o.cell sq.o.2
 by_cases hT:p.types=[]
 ·have hT2:¬(p.types.length:Int)>0:=by rw[hT];simp
  have Ul:aiE (aQ W8 (pK nm)∧(pK nm).pure=(if p.types.map Ty.pure=[] then .mk 1 0 nm [] [] [] else .mk 6 0 [] [] (p.types.map Ty.pure) [.mk 1 0 nm [] [] []])∧∀c,az c (pK nm)):=aa ⟨Al _ Sn.o,by rw[hT,rh];rfl,fun c=>rf c nm⟩;have La:aiE (∀c,c<W8.heap.size→aJ c p→az c (pK nm)):=aa (fun c _ _=>Ul.o.2.2 c);obtain⟨F,hF⟩:∃F,F=pK nm:=⟨_,rfl⟩;rw[←hF] at D8 Ul La;have XF:aiE (Ext W W8):=X8;have Iw:aiE (aQ W8 F):=aa Ul.o.1;have Qp:=aa Ul.o.2.1;have hFs:W.heap.size+1<W8.heap.size:=D8.o.lt;clear hF Ul hT X8;obtain⟨WF,iM⟩:∃WF,WF=W8:=⟨_,rfl⟩;subst iM;have G0:W.heap.size+1<WF.heap.size:=D8.o.lt;have Iy:aiE (∀c,c<w.heap.size+3→aJ c p→az c F):=aa (fun c hc h=>La.o c (by have:=bR.o;have:=XF.o.size;omega) h);have DF:=D8;clear La D8 hFs;have hFW:=XF.o.size;have sK:w.heap.size+3≤W.heap.size:=by have:=bR.o;omega
  go_wp2
  go_loopw [9,73] (fun v i wr=>∃(j:Nat) (ts:List Tm),j≤p.kids.length∧i=.int .i64 j∧aiE (ts.length=j)∧aiE (pJ w WF wr WF.heap.size (w.heap.size+1+1) given p ((p.kids.take j).map EV) ts v)) (fun _ i _=>p.kids.length - (intOf i).toNat)
  case atStart=>exact⟨0,[],aiH _,rfl,aa rfl,aa ⟨World.ownsRow_nil _ _ _ _,by simp,by simp,by simp,by simp,rfl,eR _⟩⟩
  case round=>
   obtain⟨j,ts,zU,rfl,pQ,HK⟩:=hrel;have XR:=aa (XF.o.trans HK.o.ext);have hwr:=HK.o.ext.size
   by_cases hlt:j<p.kids.length
   ·have aN:(j:Int)<(p.kids.length:Int):=by omega
    have qx:(0:Int)≤(j:Int):=by omega
    obtain⟨bq,oq,rfl,Cb,q0,q1,q2,q3⟩:=(hall.o.ext (X0.o.trans XR.o)).at_ hlt;have HC:=aa (fun w' (e:Ext W w')=>(HT.o j hlt w' e).o);have dh:aiE (p.kids.take (j+1)=p.kids.take j++[p.kids[j]'hlt]):=aa (aiJ hlt);have DZ:=aa (aiF hlt);generalize p.kids[j]'hlt=k at *;obtain⟨m0,m1,m2,m3,m4⟩:=xd.o wr XR.o;have n1:=(B1.o.ext XR.o).lt;go_wp2_with fail;refine(HC.o _ (XR.o.alloc (.cells #[.int .i64 k.kind,.int .i64 k.n,.slice k.T k.types.length k.tc,.slice k.A k.kids.length k.cap] 34))).mono ?_;rintro e w6 ⟨⟨t,rfl,ht⟩,uz⟩;have X6:aiE (Ext wr w6):=aa (((eR wr).alloc (.cells #[.int .i64 k.kind,.int .i64 k.n,.slice k.T k.types.length k.tc,.slice k.A k.kids.length k.cap] 34)).trans uz);have BH:(wr.alloc (.cells #[.int .i64 k.kind,.int .i64 k.n,.slice k.T k.types.length k.tc,.slice k.A k.kids.length k.cap] 34)).heap.size=wr.heap.size+1:=World.size_alloc _ _;have Um:=X6.o.size;obtain⟨A6,c6,hv,-,-,-,-⟩:=ak.own eY (l:=ts) HK.o.own;subst hv;have D6:aiE (∀c,(Value.slice A6 ts.length c6).ownBlock=some c→az c t):=aa (fun c hc=>by
     have:=HK.o.own.lt c hc;have h9:=sR.o c (by omega);exact ht.away c (by omega) h9.1 (nG.o c h9.2 k DZ.o))
    have Qq:aiE (az (w.heap.size+1+1) t):=aa (by
     have h9:=sR.o (w.heap.size+1+1) (by omega);exact ht.away _ (by omega) h9.1 (nG.o _ h9.2 k DZ.o))
    have Qr:aiE (∀c,c<w.heap.size→(∀g∈given,az c g)→aJ c p→az c t):=aa (fun c hc h1 h2=>ht.away c (by omega) h1 (nG.o c h2 k DZ.o));have Hq:aiE (t.pure=EV k):=aa ht.is;have lH:=aa (ht.gZ.ext ((eR w6).alloc (.cells #[.int .i64 t.kind,.int .i64 t.n,encStr t.name,.slice t.V t.vars.length t.vc,.slice t.T t.types.length t.tc,.slice t.A t.kids.length t.cap] 40)));have O6:=aa (aZ HK.o.own X6.o);have Iz:aiE (Ext wr (w6.alloc (.cells #[.int .i64 t.kind,.int .i64 t.n,encStr t.name,.slice t.V t.vars.length t.vc,.slice t.T t.types.length t.tc,.slice t.A t.kids.length t.cap] 40))):=aa (X6.o.alloc _);clear ht uz BH q0 q1 q2 q3 Cb m0 m1 m2 m3 m4 n1 HC;have Sq:ts.length≤40000:=by have:=pQ.o;omega
    go_wp2_with (at_builtin;refine aD _ rfl _ _ 28 rfl WF.heap.size 40 j0 _ 6 104 Tryz.underlying28 hj nB gI gM rfl (by decide) (.slice A6 ts.length c6) ts.length (ts.flatMap eY.f) rfl (O6.o.alloc _) _ 1 1 [.int .i64 t.kind,.int .i64 t.n,encStr t.name,.slice t.V t.vars.length t.vc,.slice t.T t.types.length t.tc,.slice t.A t.kids.length t.cap] rfl ?c2 ?c3 ?c4 ?c5 ?c6 ?_)
    case c2=>exact Row.zX _ _ _ _ _ _ (ah _ _ _ rfl)
    case c3=>first|exact⟨rfl,rfl,rfl,rfl,rfl,rfl⟩|(intro z hz;simp at hz;rcases hz with rfl|rfl|rfl|rfl|rfl|rfl<;>rfl)
    case c4=>unfold maxLen;omega
    case c5=>omega
    case c6=>simp;omega
    intro v4 w7 br hg4 eW;have lQ:=aa (HK.o.snoc (aiG _) Iz.o lH.o Hq.o D6.o Qq.o Qr.o (by rw[gu,aiL];exact br) hg4 (by
     rcases eW with e|e
     ·exact .inl e
     ·exact .inr (fun c hc=>by rw[e] at hc;injection hc with hc;simp at hc ⊢;omega)))
    have Mn:aiE (pJ w WF w7 WF.heap.size (w.heap.size+1+1) given p ((p.kids.take (j+1)).map EV) (ts++[t]) v4):=aa (by rw[dh.o,aiX];exact lQ.o);have IA:aiE ((ts++[t]).length=j+1):=aa (by have:=pQ.o;simp[this]);clear br hg4 eW O6 Iz lH Hq D6 Qq Qr HK lQ;go_wp2;go_roundw
    case rel=>exact⟨j+1,ts++[t],hlt,by go_num,IA,Mn⟩
    case measure=>simp[intOf];omega
   ·have bS:¬(j:Int)<(p.kids.length:Int):=by omega
    have pL:aiE (pJ w WF wr WF.heap.size (w.heap.size+1+1) given p (p.kids.map EV) ts u9):=aa (by have:=HK.o;rwa [aiK (by omega)] at this);obtain⟨A6,c6,hv,l1,l2,hrow,-⟩:=ak.own eY (l:=ts) pL.o.own;subst hv;have HC:=aa (H0 A6 c6 ts F wr ⟨hrow,pL.o.gZ⟩ (Iw.o.ext pL.o.ext) (by have:=pQ.o;omega));obtain⟨d0,d1,d2,d3,d4,d5⟩:=(DF.o.ext pL.o.ext).cells;have d6:=(DF.o.ext pL.o.ext).lt;unfold bz at HC;clear hrow HK;go_wp2_with fail;refine HC.o.mono ?_;rintro e w9 ⟨⟨u,rfl,Ea,zi,FK⟩,hx⟩;have X9:=aa (X0.o.trans (XR.o.trans hx));have B9:aiE (w9.heap[w.heap.size+1+1]?=some (.cells #[.int .i64 0,.int .i64 0,.string ⟨#[]⟩,.slice none 0 0,.slice none 0 0,.slice none 0 0] 40)):=aa (((XR.o.trans hx).heap (ae B3.o)).trans B3.o);have Ov:=sR.o (w.heap.size+1+1) (by omega);have FE:=aa (FK (w.heap.size+1+1) (by omega) (Iy.o _ (by omega) Ov.2) (fun t ht=>pL.o.res t ht));have HE:aiE (sO w (cC w9 (w.heap.size+1+1) u) given p QQ u):=aa ⟨Ea.grown (bh _ _ _) (fun c e=>by injection e with e;subst e;exact FE.o),by rw[zi,←Xf.o,←pL.o.is,←Qp.o,List.foldl_map];rfl,fun c hc h1 h2=>FK c (by omega) (Iy.o c (by omega) h2) (fun t ht=>pL.o.away t ht c hc h1 h2)⟩;have XG:=aa (bk X9.o (by omega:w.heap.size≤w.heap.size+1+1) u);obtain⟨z0,z1,z2,z3,z4,z5,gC,gD,gF,gH,vV,vW⟩:=bB B9.o;have hz:=ae B9.o;clear Ea zi FK hx HC d0 d1 d2 d3 d4 d5 d6 FE Ov;go_wp2;refine bodyPost_ret (v:=bz u) ?_ rfl ⟨⟨u,rfl,HE.o⟩,XG.o⟩;simp[results,Tryz.f47,go_sem,z0,z1,z2,z3,z4,z5]
 ·have hT2:0<p.types.length:=by
   cases ht:p.types with
   |nil=>exact absurd ht hT
   |cons a l=>simp
  have hTl:jZ (W.heap.size+1) p.T p.types.length:=jZ.new Ir.o.row (by have:=X0.o.size;omega);obtain⟨F,hF⟩:∃F,F=Uk p.T p.tc p.types W8.heap.size (pK nm):=⟨_,rfl⟩;obtain⟨WF,iM⟩:∃WF,WF=(cC W8 (W.heap.size+1) F).alloc (.cells #[.int .i64 (pK nm).kind,.int .i64 (pK nm).n,encStr (pK nm).name,.slice (pK nm).V (pK nm).vars.length (pK nm).vc,.slice (pK nm).T (pK nm).types.length (pK nm).tc,.slice (pK nm).A (pK nm).kids.length (pK nm).cap] 40):=⟨_,rfl⟩;have sx:=fP W8 (W.heap.size+1) F;have XF:aiE (Ext W WF):=aa (by rw[iM];exact(bk X8.o (by omega) F).alloc _);have DF:aiE (av WF (W.heap.size+1) F):=aa (by rw[iM];exact(gX F D8.o).ext ((eR _).alloc _));have Iw:aiE (aQ WF F):=aa (by
   rw[hF];refine Iq (Ir.o.ext (X0.o.trans XF.o)) Qm Iu (Al _ Sn.o) ?_;have:=av.new (cC W8 (W.heap.size+1) F) (pK nm);rw[sx] at this;rw[iM];exact this)
  have Qp:aiE (F.pure=(if p.types.map Ty.pure=[] then .mk 1 0 nm [] [] [] else .mk 6 0 [] [] (p.types.map Ty.pure) [.mk 1 0 nm [] [] []])):=aa (by rw[hF,x6,rh,if_neg (fun h=>hT (List.map_eq_nil_iff.1 h))]);have La:aiE (∀c,c<W8.heap.size→aJ c p→az c F):=aa (fun c hc ha=>by rw[hF];exact xZ ha.ty ha.ja (by omega) (rf c nm));have Un:aiE (((((((W8.setCell ⟨W.heap.size+1,0,none⟩ (.int .i64 6)).setCell ⟨W.heap.size+1,1,none⟩ (.int .i64 0)).setCell ⟨W.heap.size+1,2,none⟩ (.string ⟨#[]⟩)).setCell ⟨W.heap.size+1,3,none⟩ (.slice none 0 0)).setCell ⟨W.heap.size+1,4,none⟩ (.slice p.T p.types.length p.tc)).setCell ⟨W.heap.size+1,5,none⟩ (.slice (some ⟨W8.heap.size,0,none⟩) 1 1)).alloc (.cells #[.int .i64 1,.int .i64 0,encStr nm,.slice none 0 0,.slice none 0 0,.slice none 0 0] 40)=WF):=aa (by rw[iM,hF];rfl);have G0:W8.heap.size≤WF.heap.size:=by rw[iM];simp[sx]
  obtain⟨d0,d1,d2,d3,d4,d5⟩:=D8.o.cells;obtain⟨df0,df1,df2,df3,df4,df5⟩:=D8.o.Gn;have d6:=D8.o.lt;unfold pK at d0 d1 d2 d3 d4 d5;simp only[Tm.kind,Tm.n,Tm.name,Tm.V,Tm.vars,Tm.vc,Tm.T,Tm.types,Tm.tc,Tm.A,Tm.kids,Tm.cap,List.length_nil] at d0 d1 d2 d3 d4 d5;have Iy:aiE (∀c,c<w.heap.size+3→aJ c p→az c F):=aa (fun c hc h=>La.o c (by have:=bR.o;omega) h);clear hF sx hT hTl La;go_upto_region 11 with fail;rw[Un.o];clear Un iM d0 d1 d2 d3 d4 d5 df0 df1 df2 df3 df4 df5 d6 n1 n2 c2 c3 D8;have n2:=(B2.o.ext XF.o).lt;have c3:=XF.o.cell sq.o.2;have hFW:=XF.o.size;have sK:w.heap.size+3≤W.heap.size:=by have:=bR.o;omega
  go_wp2
  go_loopw [9,73] (fun v i wr=>∃(j:Nat) (ts:List Tm),j≤p.kids.length∧i=.int .i64 j∧aiE (ts.length=j)∧aiE (pJ w WF wr WF.heap.size (w.heap.size+1+1) given p ((p.kids.take j).map EV) ts v)) (fun _ i _=>p.kids.length - (intOf i).toNat)
  case atStart=>exact⟨0,[],aiH _,rfl,aa rfl,aa ⟨World.ownsRow_nil _ _ _ _,by simp,by simp,by simp,by simp,rfl,eR _⟩⟩
  case round=>
   obtain⟨j,ts,zU,rfl,pQ,HK⟩:=hrel;have XR:=aa (XF.o.trans HK.o.ext);have hwr:=HK.o.ext.size
   by_cases hlt:j<p.kids.length
   ·have aN:(j:Int)<(p.kids.length:Int):=by omega
    have qx:(0:Int)≤(j:Int):=by omega
    obtain⟨bq,oq,rfl,Cb,q0,q1,q2,q3⟩:=(hall.o.ext (X0.o.trans XR.o)).at_ hlt;have HC:=aa (fun w' (e:Ext W w')=>(HT.o j hlt w' e).o);have dh:aiE (p.kids.take (j+1)=p.kids.take j++[p.kids[j]'hlt]):=aa (aiJ hlt);have DZ:=aa (aiF hlt);generalize p.kids[j]'hlt=k at *;obtain⟨m0,m1,m2,m3,m4⟩:=xd.o wr XR.o;have n1:=(B1.o.ext XR.o).lt;go_wp2_with fail;refine(HC.o _ (XR.o.alloc (.cells #[.int .i64 k.kind,.int .i64 k.n,.slice k.T k.types.length k.tc,.slice k.A k.kids.length k.cap] 34))).mono ?_;rintro e w6 ⟨⟨t,rfl,ht⟩,uz⟩;have X6:aiE (Ext wr w6):=aa (((eR wr).alloc (.cells #[.int .i64 k.kind,.int .i64 k.n,.slice k.T k.types.length k.tc,.slice k.A k.kids.length k.cap] 34)).trans uz);have BH:(wr.alloc (.cells #[.int .i64 k.kind,.int .i64 k.n,.slice k.T k.types.length k.tc,.slice k.A k.kids.length k.cap] 34)).heap.size=wr.heap.size+1:=World.size_alloc _ _;have Um:=X6.o.size;obtain⟨A6,c6,hv,-,-,-,-⟩:=ak.own eY (l:=ts) HK.o.own;subst hv;have D6:aiE (∀c,(Value.slice A6 ts.length c6).ownBlock=some c→az c t):=aa (fun c hc=>by
     have:=HK.o.own.lt c hc;have h9:=sR.o c (by omega);exact ht.away c (by omega) h9.1 (nG.o c h9.2 k DZ.o))
    have Qq:aiE (az (w.heap.size+1+1) t):=aa (by
     have h9:=sR.o (w.heap.size+1+1) (by omega);exact ht.away _ (by omega) h9.1 (nG.o _ h9.2 k DZ.o))
    have Qr:aiE (∀c,c<w.heap.size→(∀g∈given,az c g)→aJ c p→az c t):=aa (fun c hc h1 h2=>ht.away c (by omega) h1 (nG.o c h2 k DZ.o));have Hq:aiE (t.pure=EV k):=aa ht.is;have lH:=aa (ht.gZ.ext ((eR w6).alloc (.cells #[.int .i64 t.kind,.int .i64 t.n,encStr t.name,.slice t.V t.vars.length t.vc,.slice t.T t.types.length t.tc,.slice t.A t.kids.length t.cap] 40)));have O6:=aa (aZ HK.o.own X6.o);have Iz:aiE (Ext wr (w6.alloc (.cells #[.int .i64 t.kind,.int .i64 t.n,encStr t.name,.slice t.V t.vars.length t.vc,.slice t.T t.types.length t.tc,.slice t.A t.kids.length t.cap] 40))):=aa (X6.o.alloc _);clear ht uz BH q0 q1 q2 q3 Cb m0 m1 m2 m3 m4 n1 HC;have Sq:ts.length≤40000:=by have:=pQ.o;omega
    go_wp2_with (at_builtin;refine aD _ rfl _ _ 28 rfl WF.heap.size 40 j0 _ 6 104 Tryz.underlying28 hj nB gI gM rfl (by decide) (.slice A6 ts.length c6) ts.length (ts.flatMap eY.f) rfl (O6.o.alloc _) _ 1 1 [.int .i64 t.kind,.int .i64 t.n,encStr t.name,.slice t.V t.vars.length t.vc,.slice t.T t.types.length t.tc,.slice t.A t.kids.length t.cap] rfl ?c2 ?c3 ?c4 ?c5 ?c6 ?_)
    case c2=>exact Row.zX _ _ _ _ _ _ (ah _ _ _ rfl)
    case c3=>first|exact⟨rfl,rfl,rfl,rfl,rfl,rfl⟩|(intro z hz;simp at hz;rcases hz with rfl|rfl|rfl|rfl|rfl|rfl<;>rfl)
    case c4=>unfold maxLen;omega
    case c5=>omega
    case c6=>simp;omega
    intro v4 w7 br hg4 eW;have lQ:=aa (HK.o.snoc (aiG _) Iz.o lH.o Hq.o D6.o Qq.o Qr.o (by rw[gu,aiL];exact br) hg4 (by
     rcases eW with e|e
     ·exact .inl e
     ·exact .inr (fun c hc=>by rw[e] at hc;injection hc with hc;simp at hc ⊢;omega)))
    have Mn:aiE (pJ w WF w7 WF.heap.size (w.heap.size+1+1) given p ((p.kids.take (j+1)).map EV) (ts++[t]) v4):=aa (by rw[dh.o,aiX];exact lQ.o);have IA:aiE ((ts++[t]).length=j+1):=aa (by have:=pQ.o;simp[this]);clear br hg4 eW O6 Iz lH Hq D6 Qq Qr HK lQ;go_wp2;go_roundw
    case rel=>exact⟨j+1,ts++[t],hlt,by go_num,IA,Mn⟩
    case measure=>simp[intOf];omega
   ·have bS:¬(j:Int)<(p.kids.length:Int):=by omega
    have pL:aiE (pJ w WF wr WF.heap.size (w.heap.size+1+1) given p (p.kids.map EV) ts u9):=aa (by have:=HK.o;rwa [aiK (by omega)] at this);obtain⟨A6,c6,hv,l1,l2,hrow,-⟩:=ak.own eY (l:=ts) pL.o.own;subst hv;have HC:=aa (H0 A6 c6 ts F wr ⟨hrow,pL.o.gZ⟩ (Iw.o.ext pL.o.ext) (by have:=pQ.o;omega));obtain⟨d0,d1,d2,d3,d4,d5⟩:=(DF.o.ext pL.o.ext).cells;have d6:=(DF.o.ext pL.o.ext).lt;unfold bz at HC;clear hrow HK;go_wp2_with fail;refine HC.o.mono ?_;rintro e w9 ⟨⟨u,rfl,Ea,zi,FK⟩,hx⟩;have X9:=aa (X0.o.trans (XR.o.trans hx));have B9:aiE (w9.heap[w.heap.size+1+1]?=some (.cells #[.int .i64 0,.int .i64 0,.string ⟨#[]⟩,.slice none 0 0,.slice none 0 0,.slice none 0 0] 40)):=aa (((XR.o.trans hx).heap (ae B3.o)).trans B3.o);have Ov:=sR.o (w.heap.size+1+1) (by omega);have FE:=aa (FK (w.heap.size+1+1) (by omega) (Iy.o _ (by omega) Ov.2) (fun t ht=>pL.o.res t ht));have HE:aiE (sO w (cC w9 (w.heap.size+1+1) u) given p QQ u):=aa ⟨Ea.grown (bh _ _ _) (fun c e=>by injection e with e;subst e;exact FE.o),by rw[zi,←Xf.o,←pL.o.is,←Qp.o,List.foldl_map];rfl,fun c hc h1 h2=>FK c (by omega) (Iy.o c (by omega) h2) (fun t ht=>pL.o.away t ht c hc h1 h2)⟩;have XG:=aa (bk X9.o (by omega:w.heap.size≤w.heap.size+1+1) u);obtain⟨z0,z1,z2,z3,z4,z5,gC,gD,gF,gH,vV,vW⟩:=bB B9.o;have hz:=ae B9.o;clear Ea zi FK hx HC d0 d1 d2 d3 d4 d5 d6 FE Ov;go_wp2;refine bodyPost_ret (v:=bz u) ?_ rfl ⟨⟨u,rfl,HE.o⟩,XG.o⟩;simp[results,Tryz.f47,go_sem,z0,z1,z2,z3,z4,z5]
set_option maxRecDepth 512
set_option maxHeartbeats 200000
theorem Mo (x:di) (P:Option Addr) (pc:Nat) (preds:List Pd) (L:Option Addr) (lc:Nat) (given:List Tm) (hpl:∀y∈x.insts,y.preds.length≤40000) (p:Pf):Sg x P pc preds L lc given p:=by
 induction p using Pf.ind with
 |h p ih=>
 by_cases h1:p.kind=1
 ·exact sP x P pc preds L lc given p h1
 ·by_cases h2:p.kind=2
  ·exact sQ x P pc preds L lc given p h2 ih
  ·by_cases h3:p.kind=3
   ·exact vZ x P pc preds L lc given hpl p h3 ih
   ·intro w he hP hL hp hq hlen jb;obtain⟨q,hq⟩:=Option.isSome_iff_exists.1 hq
    rcases eB hq with ⟨h,-⟩|⟨h,-⟩|⟨h,-⟩
    ·exact absurd h h1
    ·exact absurd h h2
    ·exact absurd h h3
structure Sc where
 n:Int
 A:Option Addr
 cap:Nat
 preds:List Pd
 ty:Ty
section
variable {w w':World}{b:Nat}{s:Sc}
end
end Go.Proofs.YtigafbmabjglfaaGreatDoor
