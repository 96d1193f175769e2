import Derived.Test.YtigafbmabjglfaaGreatDoorJT20
namespace Go.Proofs.YtigafbmabjglfaaGreatDoor
open Go.RowKit
set_option maxHeartbeats 1000000 in
theorem R7 (A:Option Addr) (cap:Nat) (l:List dK) (name:aj) (w:World) (h:lj w A l) (hle:l.length≤9223372036854775807) :
  Calls Tryz.prog 83 #[.slice A l.length cap,encStr name] w fun e w'=>(∃n:Int,e=.returned (.int .i64 n)∧(xR l name=none→n = -1)∧∀c,xR l name=some c→∃(i:Nat) (hi:i<l.length),n=(i:Int)∧l[i]'hi=c)∧w'=w:=by
 have Hr:=aa h;obtain⟨F,hF⟩:∃F,F=xR l name:=⟨_,rfl⟩;rw[←hF];have HF:ahg (F=(l.drop 0).find? fun c=>c.name == name):=aa (by rw[hF,List.drop_zero];rfl);clear hF h;go_enter Tryz.func83,Tryz.ntmps83;go_wp2
 go_loop [5] (fun i=>∃j:Nat,j≤l.length∧i=.int .i64 j∧ahg (F=(l.drop j).find? fun c=>c.name == name)) (fun i=>l.length - (intOf i).toNat)
 case atStart=>exact⟨0,ahj _,rfl,HF⟩
 case round=>
  obtain⟨j,hj,rfl,HR⟩:=hrel
  by_cases hlt:j<l.length
  ·obtain⟨b,o,rfl,hb,hc,hc1,hc2⟩:=Hr.o.at_ hlt;have aS:(j:Int)<(l.length:Int):=by omega
   have dJ:ahg (F=if ((l[j]'hlt).name == name)=true then some (l[j]'hlt) else(l.drop (j+1)).find? fun c=>c.name == name):=aa (by
    rw[HR.o,List.drop_eq_getElem_cons hlt,List.find?_cons];cases((l[j]'hlt).name == name)<;>rfl)
   have Hj:ahg (∃(hi:j<l.length),l[j]'hi=l[j]'hlt):=aa ⟨hlt,rfl⟩;generalize l[j]'hlt=c at *;clear hc1 hc2;cases hs:(c.name == name)
   ·rw[hs] at dJ;go_wp2
    go_round
    case rel=>exact⟨j+1,hlt,by go_num,aa (by have:=dJ.o;simpa using this)⟩
    case measure=>simp[intOf];omega
   ·rw[hs] at dJ;have hF:F=some c:=by have:=dJ.o;simpa using this
    clear HR dJ HF;subst hF;go_wp2;go_ret;refine⟨⟨_,rfl,?_⟩,rfl⟩
    first
     |exact⟨fun h=>by cases h,fun c' h=>by injection h with h;subst h;exact⟨j,Hj.o.1,rfl,Hj.o.2⟩⟩
     |exact⟨j,rfl,Hj.o.1,Hj.o.2⟩
  ·have bU:(l.length:Int)≤(j:Int):=by omega
   have hF:F=none:=by have:=HR.o;rw[List.drop_eq_nil_of_le (by omega)] at this;simpa using this
   clear HR HF;subst hF;go_wp2;go_ret
   first
    |exact⟨⟨_,rfl,fun _=>rfl,fun c h=>by cases h⟩,rfl⟩
    |exact⟨⟨_,rfl,rfl⟩,rfl⟩
    |exact⟨rfl,rfl⟩
structure jN (types:List Ty) (k:Nat) (s:List Pr):Prop where
 iK:fG s
 len:s.length=k
 mem:∀p∈s,∃(i:Nat) (h:i<types.length),i<k∧p=⟨(i:Int),types[i]'h⟩
 has:∀(i:Nat) (h:i<types.length),i<k→(⟨(i:Int),types[i]'h⟩:Pr)∈s
theorem jN.zero (types:List Ty):jN types 0 []:=⟨List.Pairwise.nil,rfl,by simp,fun i _ h=>absurd h (by omega)⟩
theorem jN.Ky {types:List Ty}{k:Nat}{s:List Pr}(h:jN types k s):putAt (br s) (bz s) (k:Int)=none:=by
 rw[mz h.iK];intro p hp e;obtain⟨i,hi,hik,rfl⟩:=h.mem p hp;have:(i:Int)=(k:Int):=e;omega
theorem jN.at_ {types:List Ty}{k:Nat}{s:List Pr}(h:jN types k s) (i:Nat) (hi:i<types.length) (hik:i<k):putAt (br s) (bz s) (i:Int)=some (types[i]'hi):=
 (dG h.iK).2 ⟨_,h.has i hi hik,rfl,rfl⟩
theorem jN.step {types:List Ty}{k:Nat}{s:List Pr}(h:jN types k s) (hk:k<types.length){i:Nat}(hl:uY s (k:Int) i):jN types (k+1) (cC s i (k:Int) (types[k]'hk)):=by
 have hn:dF s (k:Int) i=false:=by
  have h1:=se h.iK hl;rw[h.Ky] at h1;cases e:dF s (k:Int) i
  ·rfl
  ·exact absurd (h1.1 e) (by simp)
 refine⟨kD h.iK hl hn,by rw[jY hl.le,h.len],fun p hp => ?_,fun j hj hjk => ?_⟩
 ·rcases gA.1 hp with rfl|hp
  ·exact⟨k,hk,by omega,rfl⟩
  ·obtain⟨j,hj,hjk,e⟩:=h.mem p hp;exact⟨j,hj,by omega,e⟩
 ·rw[gA]
  by_cases e:j=k
  ·subst e;exact .inl rfl
  ·exact .inr (h.has j hj (by omega))
theorem jN.vy {types:List Ty}{k:Nat}{s:List Pr}(h:jN types k s) (ht:∀t∈types,az t=true):∀p∈s,az p.ty=true:=by
 intro p hp;obtain⟨i,hi,-,rfl⟩:=h.mem p hp;exact ht _ (ahh hi)
theorem fA {n:Int}{p:Pd}(h:bf n p=true):∃(v:Nat) (A:Option Addr) (c:Nat),p.ty=.mk [] v A c []∧(v:Int)<n:=by
 unfold bf at h;simp only[ahv,decide_eq_true_eq] at h;obtain⟨⟨⟨⟨-,h1⟩,h2⟩,h3⟩,h4⟩:=h;obtain⟨cls,s,v,A,c,l⟩:=p;have h1:(s == ([]:aj))=true:=h1;have h2:l.isEmpty=true:=h2;have e1:s=[]:=by simpa using h1
 have e2:l=[]:=by simpa using h2
 subst e1 e2;have h3:0≤v:=h3;have h4:v<n:=h4;exact⟨v.toNat,A,c,by rw[Int.toNat_of_nonneg h3],by omega⟩
def yA (types:List Ty) (preds ds:List Pd):Prop:=ds.length=preds.length∧∀i (h1:i<ds.length) (h2:i<preds.length),(ds[i]'h1).cls=(preds[i]'h2).cls∧∃h:(preds[i]'h2).ty.var.toNat<types.length,(ds[i]'h1).ty.pure=(types[(preds[i]'h2).ty.var.toNat]'h).pure
theorem jN.Od {types:List Ty}{n:Int}{s:List Pr}(h:jN types types.length s) (hn:n≤types.length) (ht:∀t∈types,az t=true){preds:List Pd}(hp:∀p∈preds,bf n p=true):uk s preds:=by
 intro p Oe;obtain⟨v,A,c,e,hv⟩:=fA (hp p Oe);have nc:v<types.length:=by omega
 have hat:=h.at_ v nc nc;obtain⟨l1,l2,-⟩:=aW (ht _ (ahh nc));rw[e];refine⟨nj _ _ _,?_,?_⟩
 ·rw[jn,if_pos (show(Ty.mk [] (v:Int) A c []).aq=[] from rfl)];show(match putAt (br s) (bz s) (v:Int) with|some u=>u.size|none=>1)≤4096;rw[hat];exact l1
 ·rw[lH,if_pos (show(Ty.mk [] (v:Int) A c []).aq=[] from rfl)];show(match putAt (br s) (bz s) (v:Int) with|some u=>u.depth|none=>1)≤100;rw[hat];exact l2
theorem jN.Fy {types:List Ty}{n:Int}{s:List Pr}(h:jN types types.length s) (hn:n≤types.length){preds ds:List Pd}(hp:∀p∈preds,bf n p=true) (hd:ds.map (fun d=>(d.cls,d.ty.pure))=preds.map fun x=>(x.cls,fF (br s) (bz s) x.ty)):yA types preds ds:=by
 have hl:ds.length=preds.length:=by simpa using congrArg List.length hd
 refine⟨hl,fun i h1 h2 => ?_⟩;have e:(ds.map (fun d=>(d.cls,d.ty.pure)))[i]?=(preds.map fun x=>(x.cls,fF (br s) (bz s) x.ty))[i]?:=by rw[hd]
 rw[List.getElem?_map,List.getElem?_map,ahw h1,ahw h2] at e;simp only[Option.map_some,Option.some.injEq,Prod.mk.injEq] at e;obtain⟨v,A,c,et,hv⟩:=fA (hp _ (ahh h2));have nc:v<types.length:=by omega
 refine⟨e.1,?_⟩;rw[e.2,et];refine⟨nc,?_⟩;rw[ek,if_pos (show(Ty.mk [] (v:Int) A c []).aq=[] from rfl)];show((putAt (br s) (bz s) (v:Int)).getD _).pure=_;rw[h.at_ v nc nc];rfl
set_option maxRecDepth 10000
set_option maxHeartbeats 8000000
theorem Fz (x:cX) (T:Option Addr) (tc:Nat) (types:List Ty) (w:World) (hx:q9 w x) (hi:bN x=true) (hT:bF w T types) (hn:x.n=types.length) (ht:∀t∈types,az t=true∧t.size≤900000) (hpl:x.preds.length≤40000) :
  Calls Tryz.prog 130 #[Du x,.slice T types.length tc] w fun e w'=>(∃A cap ds,e=.returned (.slice A ds.length cap)∧bA w' A ds∧yA types x.preds ds)∧Ext w w':=by
 have aai:types.length≤100:=by
  unfold bN fu at hi;simp only[ahv,decide_eq_true_eq] at hi;have:=hi.1.2;omega
 have FA:∀p∈x.preds,bf x.n p=true:=by
  unfold bN at hi;rw[ahv,ahA] at hi;exact hi.2
 have Hh:=aa FA;obtain⟨W,hW⟩:∃W,W=w.alloc (.cells #[encStr x.cls,encStr x.aq,.int .i64 x.n,.slice x.A x.preds.length x.cap] 70):=⟨_,rfl⟩;have HW:=aa hW.symm;have X0:ahg (Ext w W):=aa (by rw[hW];exact(eR _).alloc _);have B1:ahg (eW W w.heap.size x):=aa (by rw[hW];exact eW.new w x);have HT:=aa hT;have Ht:=aa ht;have HP:=aa hx.row;have Hn:=aa hn;clear hW hx hi hT ht FA hn;unfold Du;go_enter Tryz.func130,Tryz.ntmps130;go_upto_region 1 with fail;rw[HW.o];clear HW;go_wp2
 go_loopw [5,6] (fun v i wr=>∃(k:Nat) (s:List Pr) (A:Option Addr) (cap:Nat),k≤types.length∧i=.int .i64 k∧v=.slice A s.length cap∧s.length≤cap∧cap≤9223372036854775807∧ahg (Ext W wr)∧ahg (eZ wr A s)∧ahg (jN types k s)) (fun _ i _=>types.length - (intOf i).toNat)
 case atStart=>exact⟨0,[],none,0,ahj _,rfl,rfl,ahi _,by omega,aa (eR _),aa ⟨ak.nil _ _ _,by simp⟩,aa (jN.zero _)⟩
 case round=>
  obtain⟨k,s,A,cap,hk,rfl,rfl,h1,h2,HX,HS,HN⟩:=hrel;have XR:=aa (X0.o.trans HX.o)
  by_cases hlt:k<types.length
  ·have aS:(k:Int)<(types.length:Int):=by omega
   have dy:(0:Int)≤(k:Int):=by omega
   obtain⟨b,o,rfl,hb,q0,q1,q2⟩:=(HT.o.ext XR.o).at_ hlt;have vk:=Ht.o _ (ahh hlt);have HC:=aa (Kw A cap s (k:Int) (types[k]'hlt) wr HS.o h1 h2 HN.o.iK ((HT.o.args _ (ahh hlt)).ext XR.o) vk.2 vk.1 (by have:=HN.o.len;omega) HN.o.Ky);have U7:=aa (fun i (hl:uY s (k:Int) i)=>HN.o.step hlt hl);generalize types[k]'hlt=t at *;unfold bh at HC;go_wp2_with fail;refine HC.o.mono ?_;rintro e w5 ⟨⟨i,A5,c5,rfl,Ur,wu,h3,h4⟩,hx⟩;have X5:=aa (HX.o.trans hx);have U8:=aa wu;have HN5:=aa (U7.o i Ur);clear Ur wu hx HC q0 q1 q2 vk;go_wp2;go_roundw
   case rel=>exact⟨k+1,_,A5,c5,hlt,by go_num,rfl,h3,h4,X5,U8,HN5⟩
   case measure=>simp[intOf];omega
  ·have bU:¬(k:Int)<(types.length:Int):=by omega
   obtain⟨d0,d1,d2,d3⟩:=(B1.o.ext HX.o).cells;have ld:=(B1.o.ext HX.o).lt;have MJ:ahg (jN types types.length s):=aa (by have:=HN.o;rwa [show k=types.length by omega] at this);have zY:x.n≤(types.length:Int):=by have:=Hn.o;omega
   have HC:=aa (Cc A cap s x.A x.cap x.preds wr HS.o (by omega) (MJ.o.vy (fun t h=>(Ht.o t h).1)) (HP.o.ext XR.o) hpl (MJ.o.Od zY (fun t h=>(Ht.o t h).1) Hh.o));go_wp2_with fail;refine HC.o.mono ?_;rintro e w5 ⟨⟨v,ds,rfl,hown,sN⟩,hx⟩;obtain⟨A9,c9,rfl,-,-,hrow,-⟩:=ak.own kC hown;have Qi:=aa (MJ.o.Fy zY Hh.o sN.is);have HR:ahg (bA w5 A9 ds):=aa ⟨hrow,fun d hd=>⟨by
    obtain⟨i,hi,rfl⟩:=List.mem_iff_getElem.1 hd;have h2:i<x.preds.length:=by rw[←Qi.o.1];exact hi
    rw[(Qi.o.2 i hi h2).1];exact(HP.o.all _ (ahh h2)).cls,sN.ty d hd⟩⟩
   have X5:=aa (XR.o.trans hx);clear hown sN hrow hx HC d0 d1 d2 d3 ld;go_wp2;go_ret;exact⟨⟨A9,c9,ds,rfl,HR.o,Qi.o⟩,X5.o⟩
theorem wy (a:Ty):∀(b:Ty) (w:World),aC w a→aC w b→Calls Tryz.prog 31 #[bh a,bh b] w fun e w'=>e=.returned (.bool (bL a b))∧Ext w w':=by
 induction a using Ty.ind with
 |h a ih=>
 intro b w ha hb;have IH:=aa ih;have Mc:=aa ha.all;have Md:=aa hb.all;have Uq:=ha.le;have hma:=ha.max;have Ur:=hb.le;have Zz:=hb.max;obtain⟨W,hW⟩:∃W,W=(w.alloc (.cells #[encStr a.aq,.int .i64 a.var,.slice a.A a.args.length a.cap] 53)).alloc (.cells #[encStr b.aq,.int .i64 b.var,.slice b.A b.args.length b.cap] 53):=⟨_,rfl⟩;have X0:ahg (Ext w W):=aa (by rw[hW];exact((eR _).alloc _).alloc _);have B1:ahg (aP W w.heap.size a):=aa (by rw[hW];exact(aP.new w a).ext ((eR _).alloc _));have B2:ahg (aP W (w.heap.size+1) b):=aa (by rw[hW];have:=aP.new (w.alloc (.cells #[encStr a.aq,.int .i64 a.var,.slice a.A a.args.length a.cap] 53)) b;rwa [World.size_alloc] at this);have HP:=aa (nL a b);clear ih ha hb;unfold bh at *;have c0:=B1.o.c0;have c1:=B1.o.c1;have c2:=B1.o.c2;have d0:=B2.o.c0;have d1:=B2.o.c1;have d2:=B2.o.c2;have key:∀c,lf a b=c→(c=false→bL a b=false):=fun c h e=>by subst e;rw[HP.o];unfold lf at h;rw[h];rfl
 cases hc:(a.aq == b.aq)
 ·have hR:bL a b=false:=key _ (by unfold lf;simp at hc;simp[hc]) rfl;rw[hR];clear hR key HP;go_enter Tryz.func31,Tryz.ntmps31;go_wp2;rw[←hW];clear hW;go_ret;exact⟨rfl,X0.o⟩
 cases hv:(a.var == b.var)
 ·have hR:bL a b=false:=key _ (by unfold lf;simp at hv;simp[hv]) rfl;rw[hR];clear hR key HP;go_enter Tryz.func31,Tryz.ntmps31;go_wp2;rw[←hW];clear hW;go_ret;exact⟨rfl,X0.o⟩
 have U9:a.var=b.var:=by simpa using hv
 cases hl:((a.args.length:Int) == (b.args.length:Int))
 ·have hR:bL a b=false:=key _ (by unfold lf;simp at hl;simp[show ¬a.args.length=b.args.length by omega]) rfl;rw[hR];clear hR key HP;clear hv;rw[←U9] at hW d1 ⊢;clear U9;go_enter Tryz.func31,Tryz.ntmps31;go_wp2;rw[←hW];clear hW;go_ret;exact⟨rfl,X0.o⟩
 have HL:ahg (a.args.length=b.args.length):=aa (by simp at hl;omega);have HR:ahg (bL a b=(a.args.zip b.args).all fun p=>bL p.1 p.2):=aa (by rw[HP.o];simp at hc hv;simp[hc,hv,HL.o]);clear key hv hl HP;generalize bL a b=R at *;rw[←U9] at hW d1 ⊢;rw[←HL.o] at hW d2 ⊢;clear U9;go_enter Tryz.func31,Tryz.ntmps31;go_wp2;rw[←hW];clear hW;have O1:ahg (∀p∈(a.args.zip b.args).take 0,bL p.1 p.2=true):=aa (by simp);have VR:=aa (eR W);go_wp2
 go_loopw [5] (fun i wr=>∃k:Nat,k≤a.args.length∧i=.int .i64 k∧ahg (∀p∈(a.args.zip b.args).take k,bL p.1 p.2=true)∧ahg (Ext W wr)) (fun i _=>a.args.length - (intOf i).toNat)
 case atStart=>exact⟨0,ahj _,rfl,O1,VR⟩
 case round=>
  obtain⟨k,hk,rfl,HA,HX⟩:=hrel;have C1:=B1.o.ext HX.o;have C2:=B2.o.ext HX.o;have c0:=C1.c0;have c1:=C1.c1;have c2:=C1.c2;have d0:=C2.c0;have d1:=C2.c1;have d2:=C2.c2;clear C1 C2
  by_cases hlt:k<a.args.length
  ·have fR:k<b.args.length:=by rw[←HL.o];exact hlt
   have aS:(k:Int)<(a.args.length:Int):=by omega
   have QE:(k:Int)<(b.args.length:Int):=by omega
   have dy:(0:Int)≤(k:Int):=by omega
   have XR:=aa (HX.o);obtain⟨p,o,QF,hp,q0,q1,q2⟩:=(Mc.o.ext (X0.o.trans XR.o)).at_ hlt;obtain⟨p',o',QG,DV,r0,r1,r2⟩:=(Md.o.ext (X0.o.trans XR.o)).at_ fR;have HC:=aa (fun w' (e:Ext wr w')=>aa (IH.o _ (ahh hlt) (b.args[k]'fR) w' ((Mc.o.args _ (ahh hlt)).ext (X0.o.trans (XR.o.trans e))) ((Md.o.args _ (ahh fR)).ext (X0.o.trans (XR.o.trans e)))));have cS:ahg ((a.args.zip b.args).take (k+1)=(a.args.zip b.args).take k++[(a.args[k]'hlt,b.args[k]'fR)]):=aa (by
    rw[ahl (by rw[List.length_zip];omega),List.getElem_zip])
   have mj:ahg ((a.args[k]'hlt,b.args[k]'fR)∈a.args.zip b.args):=aa (by rw[List.mem_iff_getElem];exact⟨k,by rw[List.length_zip];omega,List.getElem_zip⟩);rw[QF] at c2;rw[QG,←HL.o] at d2;clear QF QG;have Dr:=aa (fun w' (e:Ext wr w')=>ahk (e.cell c2) (ahk (e.cell d2) (ahk (e.cell q0) (ahk (e.cell q1) (ahk (e.cell q2) (ahk (e.cell r0) (ahk (e.cell r1) (e.cell r2))))))));generalize a.args[k]'hlt=x at *;generalize b.args[k]'fR=y at *;go_wp2
   go_region_held3 (fun w'=>w'.cell? ⟨w.heap.size,2,none⟩=some (.slice (some ⟨p,o,none⟩) a.args.length a.cap)∧w'.cell? ⟨w.heap.size+1,2,none⟩=some (.slice (some ⟨p',o',none⟩) a.args.length b.cap)∧w'.cell? ⟨p,o+k*3,none⟩=some (.string ⟨x.aq.toArray⟩)∧w'.cell? ⟨p,o+k*3+1,none⟩=some (.int .i64 x.var)∧w'.cell? ⟨p,o+k*3+2,none⟩=some (.slice x.A x.args.length x.cap)∧w'.cell? ⟨p',o'+k*3,none⟩=some (.string ⟨y.aq.toArray⟩)∧w'.cell? ⟨p',o'+k*3+1,none⟩=some (.int .i64 y.var)∧w'.cell? ⟨p',o'+k*3+2,none⟩=some (.slice y.A y.args.length y.cap)) (first|assumption|go_keep) (first
    |(
     go_at_call 31
     refine Calls.mono (HC.o _ ((eR _).drew)).o ?_;rintro e w5 ⟨rfl,jB⟩;have X5:=aa (HX.o.trans (((eR wr).drew).trans jB));have k5:=Dr.o _ (((eR wr).drew).trans jB);clear jB))
   clear k5;cases hs:bL x y
   ·have hR:R=false:=by
     rw[HR.o,←Bool.not_eq_true,ahA];intro h;have:=h _ mj.o;rw[hs] at this;cases this
    clear HR;subst hR;go_wp2;go_ret;exact⟨rfl,X0.o.trans (X5.o)⟩
   ·go_wp2;go_roundw
    case rel=>
     refine⟨k+1,hlt,by go_num,aa (fun p hp => ?_),X5⟩;rw[cS.o,List.mem_append,ahx] at hp
     rcases hp with hp|rfl
     ·exact HA.o p hp
     ·exact hs
    case measure=>simp[intOf];omega
  ·have bU:¬(k:Int)<(a.args.length:Int):=by omega
   have hR:R=true:=by
    rw[HR.o,ahA];intro p hp;exact HA.o p (by rw[ahm (by rw[List.length_zip];omega)];exact hp)
   clear HR;subst hR;go_wp2;go_ret;exact⟨rfl,X0.o.trans (HX.o)⟩
theorem Ch (a b:Pd) (w:World) (ha:aC w a.ty) (hb:aC w b.ty) :
  Calls Tryz.prog 131 #[jC a,jC b] w fun e w'=>e=.returned (.bool (a.cls == b.cls&&bL a.ty b.ty))∧Ext w w':=by
 obtain⟨W,hW⟩:∃W,W=(w.alloc (.cells #[encStr a.cls,encStr a.ty.aq,.int .i64 a.ty.var,.slice a.ty.A a.ty.args.length a.ty.cap] 55)).alloc (.cells #[encStr b.cls,encStr b.ty.aq,.int .i64 b.ty.var,.slice b.ty.A b.ty.args.length b.ty.cap] 55):=⟨_,rfl⟩;have HW:=aa hW.symm;have X0:ahg (Ext w W):=aa (by rw[hW];exact((eR _).alloc _).alloc _);have B1:ahg (aY W w.heap.size a):=aa (by rw[hW];exact(aY.new w a).ext ((eR _).alloc _));have B2:ahg (aY W (w.heap.size+1) b):=aa (by rw[hW];exact ah _ _ _ (by simp));have HS:=aa (wy a.ty b.ty W (ha.ext X0.o) (hb.ext X0.o));obtain⟨c0,c1,c2,c3⟩:=B1.o.cells;obtain⟨d0,d1,d2,d3⟩:=B2.o.cells;have hb1:=B1.o.lt;have hb2:=B2.o.lt;clear hW ha hb;unfold bh at HS;unfold jC;generalize bL a.ty b.ty=R at *;cases hq:(a.cls == b.cls)
 ·go_enter Tryz.func131,Tryz.ntmps131;go_upto_region 1 with fail;rw[HW.o];go_wp2;go_ret;exact⟨rfl,X0.o⟩
 ·go_enter Tryz.func131,Tryz.ntmps131;go_upto_region 1 with fail;rw[HW.o];go_wp2_with fail;refine HS.o.mono ?_;rintro e w2 ⟨rfl,hx⟩;go_wp2;go_ret;exact⟨rfl,X0.o.trans hx⟩
set_option maxRecDepth 512
set_option maxHeartbeats 200000
theorem Ci {types:List Ty}{preds ds:List Pd}(h:yA types preds ds){k:Nat}(h1:k<ds.length) (h2:k<preds.length) (a:Pd):(a.cls == (ds[k]'h1).cls&&bL a.ty (ds[k]'h1).ty)=fH types (preds[k]'h2) (some a):=by
 obtain⟨e1,hv,e2⟩:=h.2 k h1 h2;show _=((a.cls == (preds[k]'h2).cls)&&bL a.ty (types.getD (preds[k]'h2).ty.var.toNat Ty.zero));rw[e1,show types.getD (preds[k]'h2).ty.var.toNat Ty.zero=types[(preds[k]'h2).ty.var.toNat]'hv by simp[List.getD,hv]]
 congr 1
 rw[Bool.eq_iff_iff,eJ,eJ,e2]
structure dD (O:Option Pd) (a:Pd):Prop where
 eq:∀q,O=some q→a=q
noncomputable def eB : Pf→Bool:=Pf.fold fun t l=>t.types.all (fun x=>decide (x.size≤900000))&&l.all id
theorem sO (t:Pf):eB t=(t.types.all (fun x=>decide (x.size≤900000))&&t.kids.all eB):=by
 unfold eB;rw[Pf.fold_eq,List.all_map];rfl
theorem fZ {t:Pf}(h:eB t=true):(∀x∈t.types,x.size≤900000)∧∀k∈t.kids,eB k=true:=by
 rw[sO,ahv,ahA,ahA] at h;exact⟨fun x hx=>of_decide_eq_true (h.1 x hx),h.2⟩
def wC (x:dz) (G:Option Addr) (gc:Nat) (given:List Pd) (f:FuncId) (O:Option Pd) (p:Pf):Prop:=
 ∀(w:World),dX w x→bA w G given→bM w p→eB p=true→Calls Tryz.prog f #[eX x,.slice G given.length gc,cr p] w fun e w'=>(∃a,e=.returned (.tuple #[jC a,.bool O.isSome])∧dD O a)∧Ext w w'
theorem dD.no {a:Pd}:dD none a:=⟨fun q h=>by cases h⟩
theorem dD.yes (a:Pd):dD (some a) a:=⟨fun q h=>by injection h⟩
set_option maxRecDepth 10000
set_option maxHeartbeats 8000000
theorem FB (x:dz) (G:Option Addr) (gc:Nat) (given:List Pd) (p:Pf) (kg:∀i∈x.insts,i.preds.length≤40000) (ih:∀k∈p.kids,wC x G gc given 49 (bm x.ag x.insts given k) k) :
  wC x G gc given 84 (bZ x.insts p (p.kids.map (bm x.ag x.insts given))) p:=by
 intro w he hg hp hsm;obtain⟨W,hW⟩:∃W,W=((w.alloc (.cells #[.slice x.D x.aA.length x.dc,.slice x.C x.ag.length x.cc,.slice x.I x.insts.length x.ic] 26)).alloc (.cells #[.int .i64 p.kind,.int .i64 p.n,.slice p.T p.types.length p.tc,.slice p.A p.kids.length p.cap] 34)).alloc (.cells #[.string ⟨#[]⟩,.string ⟨#[]⟩,.int .i64 0,.slice none 0 0] 55):=⟨_,rfl⟩;have HW:=aa hW.symm;have X0:ahg (Ext w W):=aa (by rw[hW];exact(((eR _).alloc _).alloc _).alloc _);have B1:ahg (aJ W w.heap.size x):=aa (by rw[hW];exact(aJ.new w x).ext (((eR _).alloc _).alloc _));have B2:ahg (aO W (w.heap.size+1) p):=aa (by rw[hW];exact aO.ext (ah _ _ _ (by simp)) ((eR _).alloc _));have B3:ahg (W.heap[w.heap.size+1+1]?=some (.cells #[.string ⟨#[]⟩,.string ⟨#[]⟩,.int .i64 0,.slice none 0 0] 55)):=aa (by rw[hW];exact ah _ _ _ (by simp));have bS:ahg (W.heap.size=w.heap.size+3):=aa (by rw[hW];simp);obtain⟨c0,c1,c2,c3⟩:=B2.o.cells;obtain⟨e0,e1,e2⟩:=B1.o.cells;obtain⟨y0,y1,y2,y3,dY,dZ,ee,eh⟩:=ax B3.o;have jL:w.heap.size<W.heap.size:=by rw[bS.o];omega
 have nu:w.heap.size+1<W.heap.size:=by rw[bS.o];omega
 have fo:w.heap.size+1+1<W.heap.size:=by rw[bS.o];omega
 have HR:ahg (bZ x.insts p (p.kids.map (bm x.ag x.insts given))=_):=aa rfl;clear hW;unfold eX cr
 by_cases hn:p.n<0
 ·have HO:ahg (bZ x.insts p (p.kids.map (bm x.ag x.insts given))=none):=aa (by unfold bZ;rw[dh (by omega)];rfl);rw[HO.o];go_enter Tryz.func84,Tryz.ntmps84;go_upto_region 1 with fail;rw[HW.o];clear HW;go_wp2;refine bodyPost_ret (v:=.tuple #[.agg #[.string ⟨#[]⟩,.string ⟨#[]⟩,.int .i64 0,.slice none 0 0],.bool false]) ?_ rfl ⟨⟨⟨[],Ty.zero⟩,rfl,dD.no⟩,?_⟩
  ·simp[results,Tryz.f84,go_sem,y0,y1,y2,y3]
  ·exact ar X0.o (by omega) _ _ _ _
 by_cases oF:p.n≥(x.insts.length:Int)
 ·have HO:ahg (bZ x.insts p (p.kids.map (bm x.ag x.insts given))=none):=aa (by unfold bZ;rw[dh (by omega)];rfl);rw[HO.o];go_enter Tryz.func84,Tryz.ntmps84;go_upto_region 1 with fail;rw[HW.o];clear HW;go_wp2;refine bodyPost_ret (v:=.tuple #[.agg #[.string ⟨#[]⟩,.string ⟨#[]⟩,.int .i64 0,.slice none 0 0],.bool false]) ?_ rfl ⟨⟨⟨[],Ty.zero⟩,rfl,dD.no⟩,?_⟩
  ·simp[results,Tryz.f84,go_sem,y0,y1,y2,y3]
  ·exact ar X0.o (by omega) _ _ _ _
 obtain⟨m,hm⟩:∃m:Nat,p.n=(m:Int):=⟨p.n.toNat,by omega⟩;have gD:m<x.insts.length:=by omega
 have JT:(m:Int)<(x.insts.length:Int):=by omega
 have Mp:(0:Int)≤(m:Int):=by omega
 have Mu:¬((m:Int)<0):=by omega
 have Xc:¬((m:Int)≥(x.insts.length:Int)):=by omega
 have dJ:=aa (vJ (l:=p.kids.map (bm x.ag x.insts given)) hm gD);obtain⟨b,o,eI,hb,q0,q1,q2,q3⟩:=(he.insts.ext X0.o).at_ gD;have HI:=aa (he.insts.all _ (ahh gD));have hpl:=kg _ (ahh gD);obtain⟨hs1,hs2⟩:=fZ hsm;have Hs1:=aa hs1;have HK:=aa (fun k (hk:k<p.kids.length) w' (e:Ext w w')=>aa (ih _ (ahh hk) w' (he.ext e) (hg.ext e) ((hp.all.kids _ (ahh hk)).ext e) (hs2 _ (ahh hk))));have Hp:=aa hp;have I8:=aa (fun k (hk:k<p.kids.length) a (ha:bm x.ag x.insts given (p.kids[k]'hk)=some a)=>np he hg _ (hp.all.kids _ (ahh hk)) a ha);have We:=hp.hd.le;have Wf:=hp.hd.max;rw[hm] at c1;rw[eI] at e2;generalize bZ x.insts p (p.kids.map (bm x.ag x.insts given))=R at *;generalize x.insts[m]'gD=y at *;rw[hm,eI] at HW ⊢;have Hm:=aa hm;have HeI:=aa eI;clear eI hm hn oF ih he hg hp HR hsm hs1 hs2;go_enter Tryz.func84,Tryz.ntmps84;go_upto_region 1 with fail;rw[HW.o];clear HW;go_upto_region 4 with fail;refine bC ?_;intro W1 hW1;have XW:ahg (Ext W W1):=aa (by rw[hW1];exact(eR _).alloc _);have C2:ahg (eW W1 W.heap.size y):=aa (by rw[hW1];exact eW.new W y);have X1:ahg (Ext w W1):=aa (X0.o.trans XW.o);clear hW1 q0 q1 q2 q3 y0 y1 y2 y3 dY dZ ee eh c0 c1 c2 c3 e0 e1 e2;have qX:=aa (Ce y W1 (HI.o.ext X1.o));unfold Du at qX;obtain⟨k0,k1,k2,k3⟩:=C2.o.cells;have lk:=C2.o.lt;go_wp2_with fail;refine qX.o.mono ?_;rintro e w2 ⟨rfl,hx2⟩;have Ew:=aa (XW.o.trans hx2);have X2:=aa (X1.o.trans hx2);have B1:=aa (B1.o.ext Ew.o);have B2:=aa (B2.o.ext Ew.o);have B3:=aa ((Ew.o.heap (ae B3.o)).trans B3.o);have C2:=aa (C2.o.ext hx2);clear hx2 k0 k1 k2 k3 lk qX;have XF:=aa (fun v0 v1 v2 v3=>ar X2.o (b:=w.heap.size+1+1) (by omega) v0 v1 v2 v3);have l5:=ae B3.o;obtain⟨y0,y1,y2,y3,dY,dZ,ee,eh⟩:=ax B3.o;cases hb2:bN y
 ·have hR:R=none:=by rw[dJ.o,if_neg];unfold cJ;rw[hb2];simp
  clear dJ;subst hR;simp only[Bool.false_eq_true,if_false];go_wp2;refine bodyPost_ret (v:=.tuple #[.agg #[.string ⟨#[]⟩,.string ⟨#[]⟩,.int .i64 0,.slice none 0 0],.bool false]) ?_ rfl ⟨⟨⟨[],Ty.zero⟩,rfl,dD.no⟩,?_⟩
  ·simp[results,Tryz.f84,go_sem,y0,y1,y2,y3]
  ·exact XF.o _ _ _ _
 have QZ:=aa hb2;simp only[if_true];obtain⟨c0,c1,c2,c3⟩:=B2.o.cells;rw[Hm.o] at c1;obtain⟨k0,k1,k2,k3⟩:=C2.o.cells;have lc:=B2.o.lt;have lk:=C2.o.lt
 by_cases Dv:(p.types.length:Int)=y.n
 case neg=>
  have hR:R=none:=by rw[dJ.o,if_neg];unfold cJ;rw[decide_eq_false Dv];simp
  have g1:((p.types.length:Int) != y.n)=true:=by simpa using Dv
  clear dJ;subst hR;go_wp2;refine bodyPost_ret (v:=.tuple #[.agg #[.string ⟨#[]⟩,.string ⟨#[]⟩,.int .i64 0,.slice none 0 0],.bool false]) ?_ rfl ⟨⟨⟨[],Ty.zero⟩,rfl,dD.no⟩,?_⟩
  ·simp[results,Tryz.f84,go_sem,y0,y1,y2,y3]
  ·exact XF.o _ _ _ _
 have g1:((p.types.length:Int) != y.n)=false:=by rw[Dv];simp
 by_cases jc:p.kids.length=y.preds.length
 case neg=>
  have hR:R=none:=by rw[dJ.o,if_neg];unfold cJ;rw[decide_eq_false jc];simp
  have g2:((p.kids.length:Int) != (y.preds.length:Int))=true:=by simp;omega
  have g3:(p.kids.length != y.preds.length)=true:=by simpa using jc
  have g4:(p.kids.length == y.preds.length)=false:=by simpa using jc
  clear dJ;subst hR;go_wp2;refine bodyPost_ret (v:=.tuple #[.agg #[.string ⟨#[]⟩,.string ⟨#[]⟩,.int .i64 0,.slice none 0 0],.bool false]) ?_ rfl ⟨⟨⟨[],Ty.zero⟩,rfl,dD.no⟩,?_⟩
  ·simp[results,Tryz.f84,go_sem,y0,y1,y2,y3]
  ·exact XF.o _ _ _ _
 have g2:((p.kids.length:Int) != (y.preds.length:Int))=false:=by rw[jc];simp
 have g3:(p.kids.length != y.preds.length)=false:=by rw[jc];simp
 have g4:(p.kids.length == y.preds.length)=true:=by rw[jc];simp
 have oH:p.types.length≤100:=by
  have h9:fu y=true:=by unfold bN at hb2;rw[ahv] at hb2;exact hb2.1
  have h8:=(mv h9).2;omega
 have Htn:=aa Dv;have Nz:=aa jc;clear jc Dv hb2 XF;go_wp2;clear c0 c1 c2 c3 k0 k1 k2 k3 y0 y1 y2 y3 dY dZ ee eh l5 lc lk
 go_loopw [9] (fun i wr=>∃k:Nat,k≤p.types.length∧i=.int .i64 k∧ahg (Ext w2 wr)∧ahg (∀j (h:j<p.types.length),j<k→az (p.types[j]'h)=true)) (fun i _=>p.types.length - (intOf i).toNat)
 case atStart=>exact⟨0,ahj _,rfl,aa (eR _),aa (fun j _ h=>absurd h (by omega))⟩
 case round=>
  obtain⟨k,hk,rfl,HX,HQ⟩:=hrel;have XR:=aa (X2.o.trans HX.o);obtain⟨-,-,c2,c3⟩:=(B2.o.ext HX.o).cells;have lc:=(B2.o.ext HX.o).lt
  by_cases hlt:k<p.types.length
  ·have aS:(k:Int)<(p.types.length:Int):=by omega
   have dy:(0:Int)≤(k:Int):=by omega
   obtain⟨b4,o4,hA,hb4,k0,k1,k2⟩:=(Hp.o.hd.types.ext XR.o).at_ hlt;have hsz:=Hs1.o _ (ahh hlt);have HC:=aa (gi (p.types[k]'hlt) wr ((Hp.o.hd.types.args _ (ahh hlt)).ext XR.o) hsz);have ma:ahg (az (p.types[k]'hlt)=false→R=none):=aa (fun e=>by
    have hall:p.types.all az=false:=by
     rw[←Bool.not_eq_true,ahA];intro hall;rw[hall _ (ahh hlt)] at e;cases e
    rw[dJ.o,if_neg];unfold cJ;rw[hall];simp)
   have Kz:ahg (az (p.types[k]'hlt)=true→∀j (h:j<p.types.length),j<k+1→az (p.types[j]'h)=true):=aa (fun e j h hj=>by
    by_cases hjk:j=k
    ·subst hjk;exact e
    ·exact HQ.o j h (by omega))
   generalize p.types[k]'hlt=t at *;rw[hA] at c2;clear hA;unfold bh at HC;go_wp2_with fail;refine HC.o.mono ?_;rintro e w3 ⟨rfl,hx3⟩;have X3:=aa (HX.o.trans hx3);have B3:=aa ((X3.o.heap (ae B3.o)).trans B3.o);clear HC hx3 k0 k1 k2 c2 c3 lc;cases hlg:az t
   ·have hR:=ma.o hlg;have XF:=aa (fun v0 v1 v2 v3=>ar (X2.o.trans X3.o) (b:=w.heap.size+1+1) (by omega) v0 v1 v2 v3);have l5:=ae B3.o;obtain⟨y0,y1,y2,y3,dY,dZ,ee,eh⟩:=ax B3.o;clear dJ ma Kz;subst hR;go_wp2;refine bodyPost_ret (v:=.tuple #[.agg #[.string ⟨#[]⟩,.string ⟨#[]⟩,.int .i64 0,.slice none 0 0],.bool false]) ?_ rfl ⟨⟨⟨[],Ty.zero⟩,rfl,dD.no⟩,?_⟩
    ·simp[results,Tryz.f84,go_sem,y0,y1,y2,y3]
    ·exact XF.o _ _ _ _
   ·have Q2:=aa (Kz.o hlg);clear ma Kz;go_wp2;go_roundw
    case rel=>exact⟨k+1,hlt,by go_num,X3,Q2⟩
    case measure=>simp[intOf];omega
  ·have bU:¬(k:Int)<(p.types.length:Int):=by omega
   have hall:p.types.all az=true:=by
    rw[ahA];intro t ht;obtain⟨j,hj,rfl⟩:=List.mem_iff_getElem.1 ht;exact HQ.o j hj (by omega)
   have iu:ahg (R=if fx p.types y.preds (p.kids.map (bm x.ag x.insts given))=true then some ⟨y.cls,.mk y.aq 0 p.T p.tc p.types⟩ else none):=aa (by
    rw[dJ.o];unfold cJ;rw[hall,QZ.o,decide_eq_true Htn.o,decide_eq_true Nz.o];simp only[Bool.true_and])
   have Uy:=aa (Fz y p.T p.tc p.types wr (HI.o.ext XR.o) QZ.o (Hp.o.hd.types.ext XR.o) Htn.o.symm (fun t ht=>⟨List.all_eq_true.1 hall t ht,Hs1.o t ht⟩) hpl);unfold Du at Uy;obtain⟨k0,k1,k2,k3⟩:=(C2.o.ext HX.o).cells;have lk:=(C2.o.ext HX.o).lt;clear hall HQ dJ;go_wp2_with fail;refine Uy.o.mono ?_;rintro e w4 ⟨⟨A9,c9,ds,rfl,sN,hwo⟩,eP⟩;have X4:=aa (XR.o.trans eP);have B1:=aa (B1.o.ext (HX.o.trans eP));have B2:=aa (B2.o.ext (HX.o.trans eP));have B3:=aa (((HX.o.trans eP).heap (ae B3.o)).trans B3.o);have C2:=aa (C2.o.ext (HX.o.trans eP));have PW:=aa sN;have Qi:=aa hwo;clear sN hwo Uy k0 k1 k2 k3 lk c2 c3 lc eP bU hk HX XR;go_wp2
   go_loopw [11] (fun i wr=>∃k:Nat,k≤p.kids.length∧i=.int .i64 k∧ahg (Ext w4 wr)∧ahg (∀j (h1:j<y.preds.length) (h2:j<p.kids.length),j<k→fH p.types (y.preds[j]'h1) (bm x.ag x.insts given (p.kids[j]'h2))=true)) (fun i _=>p.kids.length - (intOf i).toNat)
   case atStart=>exact⟨0,ahj _,rfl,aa (eR _),aa (fun j _ _ h=>absurd h (by omega))⟩
   case round=>
    obtain⟨k,hk,rfl,HX,HQ⟩:=hrel;have XR:=aa (X4.o.trans HX.o);obtain⟨-,-,c2,c3⟩:=(B2.o.ext HX.o).cells;have lc:=(B2.o.ext HX.o).lt
    by_cases hlt:k<p.kids.length
    ·have aS:(k:Int)<(p.kids.length:Int):=by omega
     have dy:(0:Int)≤(k:Int):=by omega
     have jc:k<y.preds.length:=by rw[←Nz.o];exact hlt
     have Va:k<ds.length:=by rw[Qi.o.1];exact jc
     have adn:(k:Int)<(ds.length:Int):=by omega
     obtain⟨b4,o4,hA,hb4,k0,k1,k2,k3⟩:=(Hp.o.all.ext XR.o).at_ hlt;obtain⟨bd,od,rfl,hbd,w0,w1,I9,Ja⟩:=(PW.o.ext HX.o).at_ Va;have Dw:=aa (HK.o k hlt);have vd:ahg (∀bb,fH p.types (y.preds[k]'jc) (bm x.ag x.insts given (p.kids[k]'hlt))=bb→(bb=false→R=none)∧(bb=true→∀j (h1:j<y.preds.length) (h2:j<p.kids.length),j<k+1→fH p.types (y.preds[j]'h1) (bm x.ag x.insts given (p.kids[j]'h2))=true)):=aa (by
      intro bb hb;refine⟨fun e => ?_,fun e j h1 h2 hj => ?_⟩
      ·rw[iu.o,if_neg];rw[vK jc (by rw[List.length_map];exact hlt) (by rw[List.getElem_map,hb,e])];decide
      ·by_cases hjk:j=k
       ·subst hjk;rw[hb,e]
       ·exact HQ.o j h1 h2 (by omega))
     have Xd:=aa (fun a=>Ci Qi.o Va jc a);have Bt:=aa (I8.o k hlt);have KA:=aa (PW.o.all _ (ahh Va));generalize p.kids[k]'hlt=kid at *;generalize y.preds[k]'jc=want at *;generalize ds[k]'Va=dk at *;obtain⟨O,hO⟩:∃O,O=bm x.ag x.insts given kid:=⟨_,rfl⟩;rw[←hO] at Dw vd Bt;clear hO;rw[hA] at c3;clear hA HQ iu;obtain⟨e0,e1,e2⟩:=(B1.o.ext HX.o).cells;have Xe:=(B1.o.ext HX.o).lt;unfold eX cr at Dw;have kY:w.heap.size≠wr.heap.size:=by omega
     have Ev:w.heap.size+1≠wr.heap.size:=by omega
     have ra:b4≠wr.heap.size:=by omega
     have fk:=aa (fun w' (e:Ext wr w')=>ahk (e.cell e0) (ahk (e.cell e1) (ahk (e.cell e2) (ahk (e.cell c3) (ahk (e.cell k0) (ahk (e.cell k1) (ahk (e.cell k2) (e.cell k3))))))));have Wi:=aa w0;have Wj:=aa w1;have Wk:=aa I9;have Wl:=aa Ja;clear w0 w1 I9 Ja;go_upto_region 15 with fail
     go_cut [12,13] from 72 to 101 (fun s12 Xf wx=>∃(b8:Nat) (q:Pd),s12=.pointer (some ⟨b8,0,none⟩)∧Xf=.bool O.isSome∧dD O q∧wr.heap.size≤b8∧ahg (Ext wr wx)∧ahg (aY wx b8 q))
     case first=>
      go_region_held3 (fun w'=>w'.cell? ⟨w.heap.size,0,none⟩=some (.slice x.D x.aA.length x.dc)∧w'.cell? ⟨w.heap.size,1,none⟩=some (.slice x.C x.ag.length x.cc)∧w'.cell? ⟨w.heap.size,2,none⟩=some (.slice x.I x.insts.length x.ic)∧w'.cell? ⟨w.heap.size+1,3,none⟩=some (.slice (some ⟨b4,o4,none⟩) p.kids.length p.cap)∧w'.cell? ⟨b4,o4+k*4,none⟩=some (.int .i64 kid.kind)∧w'.cell? ⟨b4,o4+k*4+1,none⟩=some (.int .i64 kid.n)∧w'.cell? ⟨b4,o4+k*4+2,none⟩=some (.slice kid.T kid.types.length kid.tc)∧w'.cell? ⟨b4,o4+k*4+3,none⟩=some (.slice kid.A kid.kids.length kid.cap)) (first|with_reducible assumption|(obtain⟨g1,g2,g3,g4,g5,g6,g7,g8⟩:=kS;with_reducible exact⟨aV kY _ _ _ _ g1,aV kY _ _ _ _ g2,aV kY _ _ _ _ g3,aV Ev _ _ _ _ g4,aV ra _ _ _ _ g5,aV ra _ _ _ _ g6,aV ra _ _ _ _ g7,aV ra _ _ _ _ g8⟩)|go_keep) (first
       |(
        go_at_call 49
        refine Calls.mono (Dw.o _ (XR.o.trans (by repeat(first|exact eR _|exact eA (by assumption) _|refine eA ?_ _|refine eM ?_ _ _|refine eD ?_|refine eN ?_ _)))).o ?_;rintro e z ⟨⟨q,rfl,bP⟩,jQ⟩;have kS:=fk.o z (by refine Ext.trans ?_ jQ;exact(by repeat(first|exact eR _|exact eA (by assumption) _|refine eA ?_ _|refine eM ?_ _ _|refine eD ?_|refine eN ?_ _)))
        (try (have zz:=zp jQ (B:=wr.heap.size) (by with_reducible exact cn wr _);obtain⟨z0,z1,z2,z3,z4,z5,z6,z7,z8⟩:=zz))))
      all_goals (go_wp2_with fail;go_meet;first
       |exact⟨z.heap.size,q,rfl,rfl,bP,aho (ahi _) ((eR wr).drew.trans jQ).size,aa (((eR wr).drew.trans jQ).alloc _),aa (ah _ _ _ rfl)⟩
       |exact⟨wr.heap.size,q,rfl,rfl,bP,ahi _,aa ((P1 (((eR wr).alloc _).drew) jQ (ahi _) (ah wr _ _ rfl) _).1),aa ((P1 (((eR wr).alloc _).drew) jQ (ahi _) (ah wr _ _ rfl) _).2)⟩)
     case rest=>
      obtain⟨b8,q,rfl,rfl,bP,QX,Jl,I7⟩:=hcut;have XC:=aa (HX.o.trans Jl.o);have B3:=aa ((XC.o.heap (ae B3.o)).trans B3.o);have XF:=aa (fun y (e:Ext w4 y) v0 v1 v2 v3=>ar (X4.o.trans e) (b:=w.heap.size+1+1) (by omega) v0 v1 v2 v3);clear e0 e1 e2 Xe c2 c3 lc k0 k1 k2 k3 fk Dw;cases O with
      |none=>
       have hR:=(vd.o _ rfl).1 rfl;have XF:=aa (XF.o _ XC.o);have l5:=ae B3.o;obtain⟨y0,y1,y2,y3,dY,dZ,ee,eh⟩:=ax B3.o;clear bP vd Xd Bt Jl I7 HX;subst hR;simp only[Option.isSome_none];go_wp2
       go_quiet (fail)
       all_goals
        go_wp2;refine bodyPost_ret (v:=.tuple #[.agg #[.string ⟨#[]⟩,.string ⟨#[]⟩,.int .i64 0,.slice none 0 0],.bool false]) ?_ rfl ⟨⟨⟨[],Ty.zero⟩,rfl,dD.no⟩,?_⟩
        ·simp[results,Tryz.f84,go_sem,y0,y1,y2,y3]
        ·first|exact(XF.o _ _ _ _).drewN _|exact XF.o _ _ _ _|(refine ar ?_ (by omega) _ _ _ _;exact((X4.o.trans XC.o).drewN _))
      |some a=>
       obtain rfl:=bP.eq a rfl;have Hq:=aa ((Bt.o _ rfl).ext (XR.o.trans Jl.o));have vX:=aa (fun w' (e:Ext wc w')=>aa (Ch q dk w' (Hq.o.ty.ext e) (KA.o.ty.ext (XC.o.trans e))));have hsw:=Xd.o q;simp only[hsw] at vX;obtain⟨d0,d1,d2,d3⟩:=I7.o.cells;have ld:=I7.o.lt;have w0:=Jl.o.cell Wi.o;have w1:=Jl.o.cell Wj.o;have I9:=Jl.o.cell Wk.o;have Ja:=Jl.o.cell Wl.o;have R8:bd<wc.heap.size:=Nat.lt_of_lt_of_le hbd Jl.o.size;have fk:=aa (fun w' (e:Ext wc w')=>ahk (e.cell d0) (ahk (e.cell d1) (ahk (e.cell d2) (ahk (e.cell d3) (ahk (e.cell w0) (ahk (e.cell w1) (ahk (e.cell I9) (e.cell Ja))))))));unfold jC at vX;simp only[Option.isSome_some];clear hsw Xd bP Bt;cases Xg:fH p.types want (some q)
       all_goals
        rw[Xg] at vX;go_wp2
        go_region_held3 (fun w'=>w'.cell? ⟨b8,0,none⟩=some (encStr q.cls)∧w'.cell? ⟨b8,1,none⟩=some (encStr q.ty.aq)∧w'.cell? ⟨b8,2,none⟩=some (.int .i64 q.ty.var)∧w'.cell? ⟨b8,3,none⟩=some (.slice q.ty.A q.ty.args.length q.ty.cap)∧w'.cell? ⟨bd,od+k*4,none⟩=some (.string ⟨dk.cls.toArray⟩)∧w'.cell? ⟨bd,od+k*4+1,none⟩=some (.string ⟨dk.ty.aq.toArray⟩)∧w'.cell? ⟨bd,od+k*4+2,none⟩=some (.int .i64 dk.ty.var)∧w'.cell? ⟨bd,od+k*4+3,none⟩=some (.slice dk.ty.A dk.ty.args.length dk.ty.cap)) (first|with_reducible assumption|go_keep) (first
         |(
          go_at_call 131
          refine Calls.mono (vX.o _ (by repeat(first|exact eR _|exact eA (by assumption) _|refine eA ?_ _|refine eM ?_ _ _|refine eD ?_|refine eN ?_ _))).o ?_;rintro e z ⟨rfl,rA⟩;have kS:=fk.o z (by refine Ext.trans ?_ rA;exact(by repeat(first|exact eR _|exact eA (by assumption) _|refine eA ?_ _|refine eM ?_ _ _|refine eD ?_|refine eN ?_ _)));have X7:ahg (Ext wc z):=aa (by refine Ext.trans ?_ rA;exact(by repeat(first|exact eR _|exact eA (by assumption) _|refine eA ?_ _|refine eM ?_ _ _|refine eD ?_|refine eN ?_ _)));clear rA))
       ·have hR:=(vd.o false Xg).1 rfl;have B3:=aa ((X7.o.heap (ae B3.o)).trans B3.o);have l5:=ae B3.o;have XF:=aa (XF.o _ (XC.o.trans X7.o));obtain⟨y0,y1,y2,y3,dY,dZ,ee,eh⟩:=ax B3.o;clear vd HX fk vX kS d0 d1 d2 d3 ld w0 w1 I9 Ja R8 Jl I7;subst hR;go_wp2;refine bodyPost_ret (v:=.tuple #[.agg #[.string ⟨#[]⟩,.string ⟨#[]⟩,.int .i64 0,.slice none 0 0],.bool false]) ?_ rfl ⟨⟨⟨[],Ty.zero⟩,rfl,dD.no⟩,?_⟩
        ·simp[results,Tryz.f84,go_sem,y0,y1,y2,y3]
        ·exact XF.o _ _ _ _
       ·have Q2:=aa ((vd.o true Xg).2 rfl);have XN:=aa (XC.o.trans X7.o);clear vd HX fk vX kS d0 d1 d2 d3 ld w0 w1 I9 Ja R8 Jl I7;go_wp2;go_roundw
        case rel=>exact⟨k+1,hlt,by go_num,XN,Q2⟩
        case measure=>simp[intOf];omega
    ·have bU:¬(k:Int)<(p.kids.length:Int):=by omega
     have hR:R=some ⟨y.cls,.mk y.aq 0 p.T p.tc p.types⟩:=by
      rw[iu.o,if_pos];refine sy (by rw[List.length_map,Nz.o]) (fun j h1 h2 => ?_);rw[List.getElem_map];rw[List.length_map] at h2;exact HQ.o j h1 h2 (by omega)
     clear iu HQ;subst hR;have B3:=aa ((HX.o.heap (ae B3.o)).trans B3.o);have l5:=ae B3.o;obtain⟨y0,y1,y2,y3,dY,dZ,ee,eh⟩:=ax B3.o;obtain⟨d0,d1,d2,d3⟩:=(C2.o.ext HX.o).cells;have ld:=(C2.o.ext HX.o).lt;have XF:=aa (fun v0 v1 v2 v3=>ar XR.o (b:=w.heap.size+1+1) (by omega) v0 v1 v2 v3);go_wp2;refine bodyPost_ret (v:=.tuple #[.agg #[encStr y.cls,encStr y.aq,.int .i64 0,.slice p.T p.types.length p.tc],.bool true]) ?_ rfl ⟨⟨⟨y.cls,.mk y.aq 0 p.T p.tc p.types⟩,rfl,dD.yes _⟩,?_⟩
     ·simp[results,Tryz.f84,go_sem,y0,y1,y2,y3]
     ·exact XF.o _ _ _ _
theorem rB (x:dz) (G:Option Addr) (gc:Nat) (given:List Pd) (p:Pf) (hk:p.kind=1) (iN:p.kids.length=0) (jb:p.types.length=0) (m:Nat) (hm:p.n=(m:Int)) (gD:m<given.length) (ur:∀d∈given,d.ty.size≤900000) (O:Option Pd) (hO:O=(some (given[m]'gD)).filter eQ):wC x G gc given 49 O p:=by
 intro w he hg hp hsm;obtain⟨W,hW⟩:∃W,W=(((w.alloc (.cells #[.slice x.D x.aA.length x.dc,.slice x.C x.ag.length x.cc,.slice x.I x.insts.length x.ic] 26)).alloc (.cells #[.int .i64 p.kind,.int .i64 p.n,.slice p.T p.types.length p.tc,.slice p.A p.kids.length p.cap] 34)).alloc (.cells #[.string ⟨#[]⟩,.string ⟨#[]⟩,.int .i64 0,.slice none 0 0] 55)).alloc (.cells #[.string ⟨#[]⟩,.string ⟨#[]⟩,.int .i64 0,.slice none 0 0] 55):=⟨_,rfl⟩;have HW:=aa hW.symm;have X0:ahg (Ext w W):=aa (by rw[hW];exact((((eR _).alloc _).alloc _).alloc _).alloc _);have B1:ahg (aJ W w.heap.size x):=aa (by rw[hW];exact(aJ.new w x).ext ((((eR _).alloc _).alloc _).alloc _));have B2:ahg (aO W (w.heap.size+1) p):=aa (by rw[hW];exact aO.ext (ah _ _ _ (by simp)) (((eR _).alloc _).alloc _));have B3:ahg (W.heap[w.heap.size+1+1]?=some (.cells #[.string ⟨#[]⟩,.string ⟨#[]⟩,.int .i64 0,.slice none 0 0] 55)):=aa (by rw[hW];exact(((eR _).alloc _).heap (by simp)).trans (ah _ _ _ (by simp)));have B4:ahg (W.heap[w.heap.size+1+1+1]?=some (.cells #[.string ⟨#[]⟩,.string ⟨#[]⟩,.int .i64 0,.slice none 0 0] 55)):=aa (by rw[hW];exact ah _ _ _ (by simp));have bS:ahg (W.heap.size=w.heap.size+4):=aa (by rw[hW];simp);clear hW;obtain⟨c0,c1,c2,c3⟩:=B2.o.cells;obtain⟨y0,y1,y2,y3,dY,dZ,ee,eh⟩:=ax B3.o;obtain⟨v0,v1,v2,v3,yB,yC,yD,yE⟩:=ax B4.o;have jL:w.heap.size<W.heap.size:=by rw[bS.o];omega
 have nu:w.heap.size+1<W.heap.size:=by rw[bS.o];omega
 have fo:w.heap.size+1+1<W.heap.size:=by rw[bS.o];omega
 have rC:w.heap.size+1+1+1<W.heap.size:=by rw[bS.o];omega
 have JT:(m:Int)<(given.length:Int):=by omega
 have Mp:(0:Int)≤(m:Int):=by omega
 have Mu:(m:Int)≥0:=by omega
 obtain⟨b,o,rfl,hb,q0,q1,q2,q3⟩:=(hg.ext X0.o).at_ gD;have FC:=aa (hg.all _ (ahh gD));have KB:=aa (ur _ (ahh gD));have MK:=aa hO;rw[hm] at c1 HW;clear hO ur hg he hp hsm;generalize given[m]'gD=a at *;unfold eX cr;rw[hk] at c0 HW;rw[jb] at c2 HW;rw[iN] at c3 HW;rw[hk,hm,jb,iN];go_enter Tryz.func49,Tryz.ntmps49;go_upto_region 3 with fail;rw[HW.o];clear HW;go_upto_region 16 with fail;refine bC ?_;intro Wc zZ;have sP:ahg (Ext w Wc):=aa (by rw[zZ];exact ar X0.o (by omega) _ _ _ _);have BA:ahg (aY Wc (w.heap.size+1+1+1) a):=aa (by rw[zZ];exact di B4.o a);have Aa:ahg (Wc.heap[w.heap.size+1+1]?=some (.cells #[.string ⟨#[]⟩,.string ⟨#[]⟩,.int .i64 0,.slice none 0 0] 55)):=aa (by rw[zZ];exact(dH a (by omega)).trans B3.o);clear zZ c0 c1 c2 c3 y0 y1 y2 y3 dY dZ ee eh v0 v1 v2 v3 yB yC yD yE q0 q1 q2 q3;have HC:=aa (fun w' (e:Ext w w')=>aa (lK a w' (FC.o.ext e) KB.o));have kh:ahg (O.isSome=eQ a∧dD O a):=aa (by
  rw[MK.o,Option.filter_some];cases UJ:eQ a
  ·exact⟨rfl,dD.no⟩
  ·exact⟨rfl,dD.yes a⟩)
 clear MK;generalize eQ a=ok at *;have R9:ahg (Wc.drew.heap[w.heap.size+1+1]?=some (.cells #[.string ⟨#[]⟩,.string ⟨#[]⟩,.int .i64 0,.slice none 0 0] 55)):=aa Aa.o;obtain⟨a0,a1,a2,a3⟩:=BA.o.cells;have la:=BA.o.lt;have hy6:=ae Aa.o;have hne:w.heap.size+1+1+1≠w.heap.size+1+1:=by omega
 have mP:w.heap.size≤w.heap.size+1+1:=by omega
 obtain⟨y0,y1,y2,y3,dY,dZ,ee,eh⟩:=ax Aa.o;have fk:=aa (fun w' (e:Ext Wc w')=>ahk (e.cell a0) (ahk (e.cell a1) (ahk (e.cell a2) (e.cell a3))));unfold jC at *;go_wp2
 go_region_held3 (fun w'=>w'.cell? ⟨w.heap.size+1+1+1,0,none⟩=some (encStr a.cls)∧w'.cell? ⟨w.heap.size+1+1+1,1,none⟩=some (encStr a.ty.aq)∧w'.cell? ⟨w.heap.size+1+1+1,2,none⟩=some (.int .i64 a.ty.var)∧w'.cell? ⟨w.heap.size+1+1+1,3,none⟩=some (.slice a.ty.A a.ty.args.length a.ty.cap)) (first|with_reducible assumption|(with_reducible exact⟨aV hne _ _ _ _ a0,aV hne _ _ _ _ a1,aV hne _ _ _ _ a2,aV hne _ _ _ _ a3⟩)|go_keep) (first
  |(
   go_at_call 61
   refine Calls.mono (HC.o _ (by first|exact sP.o.drew|exact(ar sP.o mP _ _ _ _).drew|exact sP.o|exact ar sP.o mP _ _ _ _)).o ?_;rintro e z ⟨rfl,rA⟩
   (try (have kS:=fk.o z (by refine Ext.trans ?_ rA;with_reducible exact(eR Wc).drew)))
   (try (have zz:=zp rA (B:=w.heap.size+1+1) (by with_reducible exact R9.o);obtain⟨z0,z1,z2,z3,z4,z5,z6,z7,z8⟩:=zz))))
 all_goals first
  |(
   have BB:=(di Aa.o a).ext (Ext.trans ((eR (dQ Wc (w.heap.size+1+1) a)).drew) rA);obtain⟨r0,r1,r2,r3⟩:=BB.cells;go_wp2;refine bodyPost_ret (v:=.tuple #[.agg #[encStr a.cls,encStr a.ty.aq,.int .i64 a.ty.var,.slice a.ty.A a.ty.args.length a.ty.cap],.bool ok]) ?_ rfl ⟨⟨a,by first|(rw[kh.o.1];done)|(rw[kh.o.1];rfl),kh.o.2⟩,?_⟩
   ·simp[results,Tryz.f49,go_sem,r0,r1,r2,r3]
   ·exact Ext.trans (ar sP.o mP _ _ _ _).drew rA)
  |(
   go_wp2;refine bodyPost_ret (v:=.tuple #[.agg #[encStr a.cls,encStr a.ty.aq,.int .i64 a.ty.var,.slice a.ty.A a.ty.args.length a.ty.cap],.bool ok]) ?_ rfl ⟨⟨a,by first|(rw[kh.o.1];done)|(rw[kh.o.1];rfl),kh.o.2⟩,?_⟩
   ·simp[results,Tryz.f49,go_sem,z0,z1,z2,z3]
   ·exact ar (Ext.trans sP.o.drew rA) mP _ _ _ _)
set_option maxRecDepth 512
set_option maxHeartbeats 200000
theorem Cj {α:Type}(f:α→Nat) (M:Nat) (l:List α) (h:∀x∈l,f x≤M):(l.map f).sum≤M*l.length:=by
 induction l with
 |nil=>simp
 |cons x l ih=>
  have h1:=h x (by simp);have h2:=ih (fun y hy=>h y (by simp[hy]));simp only[List.map_cons,List.sum_cons,ahy,Nat.mul_add];omega
theorem Ck {ins:List cX}{p:Pf}{l:List (Option Pd)}{a:Pd}(h:bZ ins p l=some a):a.ty.size≤900000:=by
 unfold bZ at h;obtain⟨y,hy,h⟩:=Option.bind_eq_some_iff.1 h
 split at h
 ·rename_i hc
  injection h with h;subst h;rw[ahv] at hc;obtain⟨hc,-⟩:=hc;unfold cJ at hc;simp only[ahv,decide_eq_true_eq] at hc;obtain⟨⟨⟨h1,h2⟩,-⟩,h4⟩:=hc;have h9:fu y=true:=by unfold bN at h1;rw[ahv] at h1;exact h1.1
  have h8:=(mv h9).2;have hb:=Cj Ty.size 4096 p.types (fun t ht=>(aW (List.all_eq_true.1 h4 t ht)).1);show(Ty.mk y.aq 0 p.T p.tc p.types).size≤900000;rw[Ty.size_eq];show(p.types.map Ty.size).sum+1≤900000;omega
 ·cases h
set_option maxRecDepth 10000
set_option maxHeartbeats 8000000
theorem uu (x:dz) (G:Option Addr) (gc:Nat) (given:List Pd) (p:Pf) (hk:p.kind=3) (R:Option Pd) (hR:∀w,dX w x→bM w p→∀a,R=some a→eV w a∧a.ty.size≤900000) (hRi:wC x G gc given 84 R p) (O:Option Pd) (hO:O=R.filter eQ):wC x G gc given 49 O p:=by
 intro w he hg hp hsm;obtain⟨W,hW⟩:∃W,W=(((w.alloc (.cells #[.slice x.D x.aA.length x.dc,.slice x.C x.ag.length x.cc,.slice x.I x.insts.length x.ic] 26)).alloc (.cells #[.int .i64 p.kind,.int .i64 p.n,.slice p.T p.types.length p.tc,.slice p.A p.kids.length p.cap] 34)).alloc (.cells #[.string ⟨#[]⟩,.string ⟨#[]⟩,.int .i64 0,.slice none 0 0] 55)).alloc (.cells #[.string ⟨#[]⟩,.string ⟨#[]⟩,.int .i64 0,.slice none 0 0] 55):=⟨_,rfl⟩;have HW:=aa hW.symm;have X0:ahg (Ext w W):=aa (by rw[hW];exact((((eR _).alloc _).alloc _).alloc _).alloc _);have B1:ahg (aJ W w.heap.size x):=aa (by rw[hW];exact(aJ.new w x).ext ((((eR _).alloc _).alloc _).alloc _));have B2:ahg (aO W (w.heap.size+1) p):=aa (by rw[hW];exact aO.ext (ah _ _ _ (by simp)) (((eR _).alloc _).alloc _));have B3:ahg (W.heap[w.heap.size+1+1]?=some (.cells #[.string ⟨#[]⟩,.string ⟨#[]⟩,.int .i64 0,.slice none 0 0] 55)):=aa (by rw[hW];exact(((eR _).alloc _).heap (by simp)).trans (ah _ _ _ (by simp)));have B4:ahg (W.heap[w.heap.size+1+1+1]?=some (.cells #[.string ⟨#[]⟩,.string ⟨#[]⟩,.int .i64 0,.slice none 0 0] 55)):=aa (by rw[hW];exact ah _ _ _ (by simp));have bS:ahg (W.heap.size=w.heap.size+4):=aa (by rw[hW];simp);clear hW;obtain⟨c0,c1,c2,c3⟩:=B2.o.cells;obtain⟨y0,y1,y2,y3,dY,dZ,ee,eh⟩:=ax B3.o;obtain⟨v0,v1,v2,v3,yB,yC,yD,yE⟩:=ax B4.o;have jL:w.heap.size<W.heap.size:=by rw[bS.o];omega
 have nu:w.heap.size+1<W.heap.size:=by rw[bS.o];omega
 have fo:w.heap.size+1+1<W.heap.size:=by rw[bS.o];omega
 have rC:w.heap.size+1+1+1<W.heap.size:=by rw[bS.o];omega
 have g1:(p.kind == 1)=false:=by rw[hk];rfl
 have g2:(p.kind == 2)=false:=by rw[hk];rfl
 have g3:(p.kind == 3)=true:=by rw[hk];rfl
 have U1:=aa (hRi W (he.ext X0.o) (hg.ext X0.o) (hp.ext X0.o) hsm);have Vb:=aa (hR w he hp);obtain⟨e0,e1,e2⟩:=B1.o.cells;have wD:=aa hO;unfold eX cr at *;clear hR hRi hO he hg hp hsm hk;go_enter Tryz.func49,Tryz.ntmps49;go_upto_region 3 with fail;rw[HW.o];clear HW;go_wp2_with fail;refine U1.o.mono ?_;rintro e w2 ⟨⟨q,rfl,bP⟩,hx⟩;have X2:=aa hx;unfold jC;clear hx U1 c0 c1 c2 c3 y0 y1 y2 y3 dY dZ ee eh v0 v1 v2 v3 yB yC yD yE e0 e1 e2;go_upto_region 13 with fail;refine bC ?_;intro W3 hW3;have X3:ahg (Ext W W3):=aa (by rw[hW3];exact X2.o.alloc _);have BQ:ahg (aY W3 w2.heap.size q):=aa (by rw[hW3];exact aY.new w2 q);have B3:=aa ((X3.o.heap (ae B3.o)).trans B3.o);have B4:=aa ((X3.o.heap (ae B4.o)).trans B4.o);have XW3:=aa (X0.o.trans X3.o);clear hW3;have l5:=ae B3.o;have Cl:=ae B4.o;obtain⟨y0,y1,y2,y3,dY,dZ,ee,eh⟩:=ax B3.o;obtain⟨v0,v1,v2,v3,yB,yC,yD,yE⟩:=ax B4.o;obtain⟨d0,d1,d2,d3⟩:=BQ.o.cells;have ld:=BQ.o.lt;cases R with
 |none=>
  have hO:O=none:=by rw[wD.o];rfl
  clear wD bP Vb;subst hO;simp only[Option.isSome_none];go_wp2;refine bodyPost_ret (v:=.tuple #[.agg #[.string ⟨#[]⟩,.string ⟨#[]⟩,.int .i64 0,.slice none 0 0],.bool false]) ?_ rfl ⟨⟨⟨[],Ty.zero⟩,rfl,dD.no⟩,?_⟩
  ·simp[results,Tryz.f49,go_sem,y0,y1,y2,y3]
  ·exact ar XW3.o (by omega) _ _ _ _
 |some a=>
  obtain rfl:=bP.eq a rfl;rename Pd=>a
  have MK:=aa wD.o;have FC:=aa (Vb.o a rfl).1;have KB:=aa (Vb.o a rfl).2;clear Vb bP wD;simp only[Option.isSome_some];go_upto_region 16 with fail;refine bC ?_;intro Wc zZ;have sP:ahg (Ext w Wc):=aa (by rw[zZ];exact ar XW3.o (by omega) _ _ _ _);have BA:ahg (aY Wc (w.heap.size+1+1+1) a):=aa (by rw[zZ];exact di B4.o a);have Aa:ahg (Wc.heap[w.heap.size+1+1]?=some (.cells #[.string ⟨#[]⟩,.string ⟨#[]⟩,.int .i64 0,.slice none 0 0] 55)):=aa (by rw[zZ];exact(dH a (by omega)).trans B3.o);clear zZ y0 y1 y2 y3 dY dZ ee eh v0 v1 v2 v3 yB yC yD yE d0 d1 d2 d3 ld l5 Cl;have HC:=aa (fun w' (e:Ext w w')=>aa (lK a w' (FC.o.ext e) KB.o));have kh:ahg (O.isSome=eQ a∧dD O a):=aa (by
   rw[MK.o,Option.filter_some];cases UJ:eQ a
   ·exact⟨rfl,dD.no⟩
   ·exact⟨rfl,dD.yes a⟩)
  clear MK;generalize eQ a=ok at *;have R9:ahg (Wc.drew.heap[w.heap.size+1+1]?=some (.cells #[.string ⟨#[]⟩,.string ⟨#[]⟩,.int .i64 0,.slice none 0 0] 55)):=aa Aa.o;obtain⟨a0,a1,a2,a3⟩:=BA.o.cells;have la:=BA.o.lt;have hy6:=ae Aa.o;have hne:w.heap.size+1+1+1≠w.heap.size+1+1:=by omega
  have mP:w.heap.size≤w.heap.size+1+1:=by omega
  obtain⟨y0,y1,y2,y3,dY,dZ,ee,eh⟩:=ax Aa.o;have fk:=aa (fun w' (e:Ext Wc w')=>ahk (e.cell a0) (ahk (e.cell a1) (ahk (e.cell a2) (e.cell a3))));unfold jC at *;go_wp2
  go_region_held3 (fun w'=>w'.cell? ⟨w.heap.size+1+1+1,0,none⟩=some (encStr a.cls)∧w'.cell? ⟨w.heap.size+1+1+1,1,none⟩=some (encStr a.ty.aq)∧w'.cell? ⟨w.heap.size+1+1+1,2,none⟩=some (.int .i64 a.ty.var)∧w'.cell? ⟨w.heap.size+1+1+1,3,none⟩=some (.slice a.ty.A a.ty.args.length a.ty.cap)) (first|with_reducible assumption|(with_reducible exact⟨aV hne _ _ _ _ a0,aV hne _ _ _ _ a1,aV hne _ _ _ _ a2,aV hne _ _ _ _ a3⟩)|go_keep) (first
   |(
    go_at_call 61
    refine Calls.mono (HC.o _ (by first|exact sP.o.drew|exact(ar sP.o mP _ _ _ _).drew|exact sP.o|exact ar sP.o mP _ _ _ _)).o ?_;rintro e z ⟨rfl,rA⟩
    (try (have kS:=fk.o z (by refine Ext.trans ?_ rA;with_reducible exact(eR Wc).drew)))
    (try (have zz:=zp rA (B:=w.heap.size+1+1) (by with_reducible exact R9.o);obtain⟨z0,z1,z2,z3,z4,z5,z6,z7,z8⟩:=zz))))
  all_goals first
   |(
    have BB:=(di Aa.o a).ext (Ext.trans ((eR (dQ Wc (w.heap.size+1+1) a)).drew) rA);obtain⟨r0,r1,r2,r3⟩:=BB.cells;go_wp2;refine bodyPost_ret (v:=.tuple #[.agg #[encStr a.cls,encStr a.ty.aq,.int .i64 a.ty.var,.slice a.ty.A a.ty.args.length a.ty.cap],.bool ok]) ?_ rfl ⟨⟨a,by first|(rw[kh.o.1];done)|(rw[kh.o.1];rfl),kh.o.2⟩,?_⟩
    ·simp[results,Tryz.f49,go_sem,r0,r1,r2,r3]
    ·exact Ext.trans (ar sP.o mP _ _ _ _).drew rA)
   |(
    go_wp2;refine bodyPost_ret (v:=.tuple #[.agg #[encStr a.cls,encStr a.ty.aq,.int .i64 a.ty.var,.slice a.ty.A a.ty.args.length a.ty.cap],.bool ok]) ?_ rfl ⟨⟨a,by first|(rw[kh.o.1];done)|(rw[kh.o.1];rfl),kh.o.2⟩,?_⟩
    ·simp[results,Tryz.f49,go_sem,z0,z1,z2,z3]
    ·exact ar (Ext.trans sP.o.drew rA) mP _ _ _ _)
theorem yF (x:dz) (G:Option Addr) (gc:Nat) (given:List Pd) (p:Pf) (hk:p.kind=1) (h:p.kids.length+p.types.length≠0) (hkb:p.kids.length<1000000000000000000) (htb:p.types.length<1000000000000000000):wC x G gc given 49 none p:=by
 intro w he hg hp hsm;obtain⟨W,hW⟩:∃W,W=(((w.alloc (.cells #[.slice x.D x.aA.length x.dc,.slice x.C x.ag.length x.cc,.slice x.I x.insts.length x.ic] 26)).alloc (.cells #[.int .i64 p.kind,.int .i64 p.n,.slice p.T p.types.length p.tc,.slice p.A p.kids.length p.cap] 34)).alloc (.cells #[.string ⟨#[]⟩,.string ⟨#[]⟩,.int .i64 0,.slice none 0 0] 55)).alloc (.cells #[.string ⟨#[]⟩,.string ⟨#[]⟩,.int .i64 0,.slice none 0 0] 55):=⟨_,rfl⟩;have HW:=aa hW.symm;have X0:ahg (Ext w W):=aa (by rw[hW];exact((((eR _).alloc _).alloc _).alloc _).alloc _);have B1:ahg (aJ W w.heap.size x):=aa (by rw[hW];exact(aJ.new w x).ext ((((eR _).alloc _).alloc _).alloc _));have B2:ahg (aO W (w.heap.size+1) p):=aa (by rw[hW];exact aO.ext (ah _ _ _ (by simp)) (((eR _).alloc _).alloc _));have B3:ahg (W.heap[w.heap.size+1+1]?=some (.cells #[.string ⟨#[]⟩,.string ⟨#[]⟩,.int .i64 0,.slice none 0 0] 55)):=aa (by rw[hW];exact(((eR _).alloc _).heap (by simp)).trans (ah _ _ _ (by simp)));have B4:ahg (W.heap[w.heap.size+1+1+1]?=some (.cells #[.string ⟨#[]⟩,.string ⟨#[]⟩,.int .i64 0,.slice none 0 0] 55)):=aa (by rw[hW];exact ah _ _ _ (by simp));have bS:ahg (W.heap.size=w.heap.size+4):=aa (by rw[hW];simp);clear hW;obtain⟨c0,c1,c2,c3⟩:=B2.o.cells;obtain⟨y0,y1,y2,y3,dY,dZ,ee,eh⟩:=ax B3.o;obtain⟨v0,v1,v2,v3,yB,yC,yD,yE⟩:=ax B4.o;have jL:w.heap.size<W.heap.size:=by rw[bS.o];omega
 have nu:w.heap.size+1<W.heap.size:=by rw[bS.o];omega
 have fo:w.heap.size+1+1<W.heap.size:=by rw[bS.o];omega
 have rC:w.heap.size+1+1+1<W.heap.size:=by rw[bS.o];omega
 have g1:(p.kind == 1)=true:=by rw[hk];rfl
 have g2:(p.kind == 2)=false:=by rw[hk];rfl
 have g3:(p.kind == 3)=false:=by rw[hk];rfl
 have Jc:IntKind.i64.wrap ((p.kids.length:Int)+(p.types.length:Int))=(p.kids.length:Int)+(p.types.length:Int):=IntWalk.i64_in _ (by omega);have hw3:¬((p.kids.length:Int)+(p.types.length:Int)=0):=by omega
 have hw2:((p.kids.length:Int)+(p.types.length:Int) == 0)=false:=by simpa using hw3
 clear hk;unfold eX cr;go_enter Tryz.func49,Tryz.ntmps49;go_upto_region 3 with fail;rw[HW.o];clear HW;go_wp2;refine bodyPost_ret (v:=.tuple #[.agg #[.string ⟨#[]⟩,.string ⟨#[]⟩,.int .i64 0,.slice none 0 0],.bool false]) ?_ rfl ⟨⟨⟨[],Ty.zero⟩,rfl,dD.no⟩,?_⟩
 ·simp[results,Tryz.f49,go_sem,y0,y1,y2,y3]
 ·exact ar X0.o (by omega) _ _ _ _
theorem yG (x:dz) (G:Option Addr) (gc:Nat) (given:List Pd) (p:Pf) (hk:p.kind=1) (iN:p.kids.length=0) (jb:p.types.length=0) (h:p.n<0):wC x G gc given 49 none p:=by
 intro w he hg hp hsm;obtain⟨W,hW⟩:∃W,W=(((w.alloc (.cells #[.slice x.D x.aA.length x.dc,.slice x.C x.ag.length x.cc,.slice x.I x.insts.length x.ic] 26)).alloc (.cells #[.int .i64 p.kind,.int .i64 p.n,.slice p.T p.types.length p.tc,.slice p.A p.kids.length p.cap] 34)).alloc (.cells #[.string ⟨#[]⟩,.string ⟨#[]⟩,.int .i64 0,.slice none 0 0] 55)).alloc (.cells #[.string ⟨#[]⟩,.string ⟨#[]⟩,.int .i64 0,.slice none 0 0] 55):=⟨_,rfl⟩;have HW:=aa hW.symm;have X0:ahg (Ext w W):=aa (by rw[hW];exact((((eR _).alloc _).alloc _).alloc _).alloc _);have B1:ahg (aJ W w.heap.size x):=aa (by rw[hW];exact(aJ.new w x).ext ((((eR _).alloc _).alloc _).alloc _));have B2:ahg (aO W (w.heap.size+1) p):=aa (by rw[hW];exact aO.ext (ah _ _ _ (by simp)) (((eR _).alloc _).alloc _));have B3:ahg (W.heap[w.heap.size+1+1]?=some (.cells #[.string ⟨#[]⟩,.string ⟨#[]⟩,.int .i64 0,.slice none 0 0] 55)):=aa (by rw[hW];exact(((eR _).alloc _).heap (by simp)).trans (ah _ _ _ (by simp)));have B4:ahg (W.heap[w.heap.size+1+1+1]?=some (.cells #[.string ⟨#[]⟩,.string ⟨#[]⟩,.int .i64 0,.slice none 0 0] 55)):=aa (by rw[hW];exact ah _ _ _ (by simp));have bS:ahg (W.heap.size=w.heap.size+4):=aa (by rw[hW];simp);clear hW;obtain⟨c0,c1,c2,c3⟩:=B2.o.cells;obtain⟨y0,y1,y2,y3,dY,dZ,ee,eh⟩:=ax B3.o;obtain⟨v0,v1,v2,v3,yB,yC,yD,yE⟩:=ax B4.o;have jL:w.heap.size<W.heap.size:=by rw[bS.o];omega
 have nu:w.heap.size+1<W.heap.size:=by rw[bS.o];omega
 have fo:w.heap.size+1+1<W.heap.size:=by rw[bS.o];omega
 have rC:w.heap.size+1+1+1<W.heap.size:=by rw[bS.o];omega
 have g1:(p.kind == 1)=true:=by rw[hk];rfl
 have g2:(p.kind == 2)=false:=by rw[hk];rfl
 have g3:(p.kind == 3)=false:=by rw[hk];rfl
 have h2:¬p.n≥0:=by omega
 rw[iN] at c3 HW;rw[jb] at c2 HW;clear hk;unfold eX cr;rw[iN];rw[jb];go_enter Tryz.func49,Tryz.ntmps49;go_upto_region 3 with fail;rw[HW.o];clear HW;go_wp2;refine bodyPost_ret (v:=.tuple #[.agg #[.string ⟨#[]⟩,.string ⟨#[]⟩,.int .i64 0,.slice none 0 0],.bool false]) ?_ rfl ⟨⟨⟨[],Ty.zero⟩,rfl,dD.no⟩,?_⟩
 ·simp[results,Tryz.f49,go_sem,y0,y1,y2,y3]
 ·exact ar X0.o (by omega) _ _ _ _
theorem yH (x:dz) (G:Option Addr) (gc:Nat) (given:List Pd) (p:Pf) (hk:p.kind=1) (iN:p.kids.length=0) (jb:p.types.length=0) (h0:p.n≥0) (h:¬p.n<(given.length:Int)):wC x G gc given 49 none p:=by
 intro w he hg hp hsm;obtain⟨W,hW⟩:∃W,W=(((w.alloc (.cells #[.slice x.D x.aA.length x.dc,.slice x.C x.ag.length x.cc,.slice x.I x.insts.length x.ic] 26)).alloc (.cells #[.int .i64 p.kind,.int .i64 p.n,.slice p.T p.types.length p.tc,.slice p.A p.kids.length p.cap] 34)).alloc (.cells #[.string ⟨#[]⟩,.string ⟨#[]⟩,.int .i64 0,.slice none 0 0] 55)).alloc (.cells #[.string ⟨#[]⟩,.string ⟨#[]⟩,.int .i64 0,.slice none 0 0] 55):=⟨_,rfl⟩;have HW:=aa hW.symm;have X0:ahg (Ext w W):=aa (by rw[hW];exact((((eR _).alloc _).alloc _).alloc _).alloc _);have B1:ahg (aJ W w.heap.size x):=aa (by rw[hW];exact(aJ.new w x).ext ((((eR _).alloc _).alloc _).alloc _));have B2:ahg (aO W (w.heap.size+1) p):=aa (by rw[hW];exact aO.ext (ah _ _ _ (by simp)) (((eR _).alloc _).alloc _));have B3:ahg (W.heap[w.heap.size+1+1]?=some (.cells #[.string ⟨#[]⟩,.string ⟨#[]⟩,.int .i64 0,.slice none 0 0] 55)):=aa (by rw[hW];exact(((eR _).alloc _).heap (by simp)).trans (ah _ _ _ (by simp)));have B4:ahg (W.heap[w.heap.size+1+1+1]?=some (.cells #[.string ⟨#[]⟩,.string ⟨#[]⟩,.int .i64 0,.slice none 0 0] 55)):=aa (by rw[hW];exact ah _ _ _ (by simp));have bS:ahg (W.heap.size=w.heap.size+4):=aa (by rw[hW];simp);clear hW;obtain⟨c0,c1,c2,c3⟩:=B2.o.cells;obtain⟨y0,y1,y2,y3,dY,dZ,ee,eh⟩:=ax B3.o;obtain⟨v0,v1,v2,v3,yB,yC,yD,yE⟩:=ax B4.o;have jL:w.heap.size<W.heap.size:=by rw[bS.o];omega
 have nu:w.heap.size+1<W.heap.size:=by rw[bS.o];omega
 have fo:w.heap.size+1+1<W.heap.size:=by rw[bS.o];omega
 have rC:w.heap.size+1+1+1<W.heap.size:=by rw[bS.o];omega
 have g1:(p.kind == 1)=true:=by rw[hk];rfl
 have g2:(p.kind == 2)=false:=by rw[hk];rfl
 have g3:(p.kind == 3)=false:=by rw[hk];rfl
 rw[iN] at c3 HW;rw[jb] at c2 HW;clear hk;unfold eX cr;rw[iN];rw[jb];go_enter Tryz.func49,Tryz.ntmps49;go_upto_region 3 with fail;rw[HW.o];clear HW;go_wp2;refine bodyPost_ret (v:=.tuple #[.agg #[.string ⟨#[]⟩,.string ⟨#[]⟩,.int .i64 0,.slice none 0 0],.bool false]) ?_ rfl ⟨⟨⟨[],Ty.zero⟩,rfl,dD.no⟩,?_⟩
 ·simp[results,Tryz.f49,go_sem,y0,y1,y2,y3]
 ·exact ar X0.o (by omega) _ _ _ _
theorem yI (x:dz) (G:Option Addr) (gc:Nat) (given:List Pd) (p:Pf) (hk:p.kind=2) (h:p.kids.length≠1):wC x G gc given 49 none p:=by
 intro w he hg hp hsm;obtain⟨W,hW⟩:∃W,W=(((w.alloc (.cells #[.slice x.D x.aA.length x.dc,.slice x.C x.ag.length x.cc,.slice x.I x.insts.length x.ic] 26)).alloc (.cells #[.int .i64 p.kind,.int .i64 p.n,.slice p.T p.types.length p.tc,.slice p.A p.kids.length p.cap] 34)).alloc (.cells #[.string ⟨#[]⟩,.string ⟨#[]⟩,.int .i64 0,.slice none 0 0] 55)).alloc (.cells #[.string ⟨#[]⟩,.string ⟨#[]⟩,.int .i64 0,.slice none 0 0] 55):=⟨_,rfl⟩;have HW:=aa hW.symm;have X0:ahg (Ext w W):=aa (by rw[hW];exact((((eR _).alloc _).alloc _).alloc _).alloc _);have B1:ahg (aJ W w.heap.size x):=aa (by rw[hW];exact(aJ.new w x).ext ((((eR _).alloc _).alloc _).alloc _));have B2:ahg (aO W (w.heap.size+1) p):=aa (by rw[hW];exact aO.ext (ah _ _ _ (by simp)) (((eR _).alloc _).alloc _));have B3:ahg (W.heap[w.heap.size+1+1]?=some (.cells #[.string ⟨#[]⟩,.string ⟨#[]⟩,.int .i64 0,.slice none 0 0] 55)):=aa (by rw[hW];exact(((eR _).alloc _).heap (by simp)).trans (ah _ _ _ (by simp)));have B4:ahg (W.heap[w.heap.size+1+1+1]?=some (.cells #[.string ⟨#[]⟩,.string ⟨#[]⟩,.int .i64 0,.slice none 0 0] 55)):=aa (by rw[hW];exact ah _ _ _ (by simp));have bS:ahg (W.heap.size=w.heap.size+4):=aa (by rw[hW];simp);clear hW;obtain⟨c0,c1,c2,c3⟩:=B2.o.cells;obtain⟨y0,y1,y2,y3,dY,dZ,ee,eh⟩:=ax B3.o;obtain⟨v0,v1,v2,v3,yB,yC,yD,yE⟩:=ax B4.o;have jL:w.heap.size<W.heap.size:=by rw[bS.o];omega
 have nu:w.heap.size+1<W.heap.size:=by rw[bS.o];omega
 have fo:w.heap.size+1+1<W.heap.size:=by rw[bS.o];omega
 have rC:w.heap.size+1+1+1<W.heap.size:=by rw[bS.o];omega
 have g1:(p.kind == 1)=false:=by rw[hk];rfl
 have g2:(p.kind == 2)=true:=by rw[hk];rfl
 have g3:(p.kind == 3)=false:=by rw[hk];rfl
 have h2:¬((p.kids.length:Int)=1):=by omega
 have h3:((p.kids.length:Int) == 1)=false:=by simpa using h2
 clear hk;unfold eX cr;go_enter Tryz.func49,Tryz.ntmps49;go_upto_region 3 with fail;rw[HW.o];clear HW;go_wp2;refine bodyPost_ret (v:=.tuple #[.agg #[.string ⟨#[]⟩,.string ⟨#[]⟩,.int .i64 0,.slice none 0 0],.bool false]) ?_ rfl ⟨⟨⟨[],Ty.zero⟩,rfl,dD.no⟩,?_⟩
 ·simp[results,Tryz.f49,go_sem,y0,y1,y2,y3]
 ·exact ar X0.o (by omega) _ _ _ _
theorem yJ (x:dz) (G:Option Addr) (gc:Nat) (given:List Pd) (p:Pf) (hk:p.kind=2) (iN:p.kids.length=1) (h:p.types.length≠0):wC x G gc given 49 none p:=by
 intro w he hg hp hsm;obtain⟨W,hW⟩:∃W,W=(((w.alloc (.cells #[.slice x.D x.aA.length x.dc,.slice x.C x.ag.length x.cc,.slice x.I x.insts.length x.ic] 26)).alloc (.cells #[.int .i64 p.kind,.int .i64 p.n,.slice p.T p.types.length p.tc,.slice p.A p.kids.length p.cap] 34)).alloc (.cells #[.string ⟨#[]⟩,.string ⟨#[]⟩,.int .i64 0,.slice none 0 0] 55)).alloc (.cells #[.string ⟨#[]⟩,.string ⟨#[]⟩,.int .i64 0,.slice none 0 0] 55):=⟨_,rfl⟩;have HW:=aa hW.symm;have X0:ahg (Ext w W):=aa (by rw[hW];exact((((eR _).alloc _).alloc _).alloc _).alloc _);have B1:ahg (aJ W w.heap.size x):=aa (by rw[hW];exact(aJ.new w x).ext ((((eR _).alloc _).alloc _).alloc _));have B2:ahg (aO W (w.heap.size+1) p):=aa (by rw[hW];exact aO.ext (ah _ _ _ (by simp)) (((eR _).alloc _).alloc _));have B3:ahg (W.heap[w.heap.size+1+1]?=some (.cells #[.string ⟨#[]⟩,.string ⟨#[]⟩,.int .i64 0,.slice none 0 0] 55)):=aa (by rw[hW];exact(((eR _).alloc _).heap (by simp)).trans (ah _ _ _ (by simp)));have B4:ahg (W.heap[w.heap.size+1+1+1]?=some (.cells #[.string ⟨#[]⟩,.string ⟨#[]⟩,.int .i64 0,.slice none 0 0] 55)):=aa (by rw[hW];exact ah _ _ _ (by simp));have bS:ahg (W.heap.size=w.heap.size+4):=aa (by rw[hW];simp);clear hW;obtain⟨c0,c1,c2,c3⟩:=B2.o.cells;obtain⟨y0,y1,y2,y3,dY,dZ,ee,eh⟩:=ax B3.o;obtain⟨v0,v1,v2,v3,yB,yC,yD,yE⟩:=ax B4.o;have jL:w.heap.size<W.heap.size:=by rw[bS.o];omega
 have nu:w.heap.size+1<W.heap.size:=by rw[bS.o];omega
 have fo:w.heap.size+1+1<W.heap.size:=by rw[bS.o];omega
 have rC:w.heap.size+1+1+1<W.heap.size:=by rw[bS.o];omega
 have g1:(p.kind == 1)=false:=by rw[hk];rfl
 have g2:(p.kind == 2)=true:=by rw[hk];rfl
 have g3:(p.kind == 3)=false:=by rw[hk];rfl
 have h2:¬((p.types.length:Int)=0):=by omega
 have h3:((p.types.length:Int) == 0)=false:=by simpa using h2
 rw[iN] at c3 HW;clear hk;unfold eX cr;rw[iN];go_enter Tryz.func49,Tryz.ntmps49;go_upto_region 3 with fail;rw[HW.o];clear HW;go_wp2;refine bodyPost_ret (v:=.tuple #[.agg #[.string ⟨#[]⟩,.string ⟨#[]⟩,.int .i64 0,.slice none 0 0],.bool false]) ?_ rfl ⟨⟨⟨[],Ty.zero⟩,rfl,dD.no⟩,?_⟩
 ·simp[results,Tryz.f49,go_sem,y0,y1,y2,y3]
 ·exact ar X0.o (by omega) _ _ _ _
theorem yK (x:dz) (G:Option Addr) (gc:Nat) (given:List Pd) (p:Pf) (uX:p.kind≠1) (hk2:p.kind≠2) (hk3:p.kind≠3):wC x G gc given 49 none p:=by
 intro w he hg hp hsm;obtain⟨W,hW⟩:∃W,W=(((w.alloc (.cells #[.slice x.D x.aA.length x.dc,.slice x.C x.ag.length x.cc,.slice x.I x.insts.length x.ic] 26)).alloc (.cells #[.int .i64 p.kind,.int .i64 p.n,.slice p.T p.types.length p.tc,.slice p.A p.kids.length p.cap] 34)).alloc (.cells #[.string ⟨#[]⟩,.string ⟨#[]⟩,.int .i64 0,.slice none 0 0] 55)).alloc (.cells #[.string ⟨#[]⟩,.string ⟨#[]⟩,.int .i64 0,.slice none 0 0] 55):=⟨_,rfl⟩;have HW:=aa hW.symm;have X0:ahg (Ext w W):=aa (by rw[hW];exact((((eR _).alloc _).alloc _).alloc _).alloc _);have B1:ahg (aJ W w.heap.size x):=aa (by rw[hW];exact(aJ.new w x).ext ((((eR _).alloc _).alloc _).alloc _));have B2:ahg (aO W (w.heap.size+1) p):=aa (by rw[hW];exact aO.ext (ah _ _ _ (by simp)) (((eR _).alloc _).alloc _));have B3:ahg (W.heap[w.heap.size+1+1]?=some (.cells #[.string ⟨#[]⟩,.string ⟨#[]⟩,.int .i64 0,.slice none 0 0] 55)):=aa (by rw[hW];exact(((eR _).alloc _).heap (by simp)).trans (ah _ _ _ (by simp)));have B4:ahg (W.heap[w.heap.size+1+1+1]?=some (.cells #[.string ⟨#[]⟩,.string ⟨#[]⟩,.int .i64 0,.slice none 0 0] 55)):=aa (by rw[hW];exact ah _ _ _ (by simp));have bS:ahg (W.heap.size=w.heap.size+4):=aa (by rw[hW];simp);clear hW;obtain⟨c0,c1,c2,c3⟩:=B2.o.cells;obtain⟨y0,y1,y2,y3,dY,dZ,ee,eh⟩:=ax B3.o;obtain⟨v0,v1,v2,v3,yB,yC,yD,yE⟩:=ax B4.o;have jL:w.heap.size<W.heap.size:=by rw[bS.o];omega
 have nu:w.heap.size+1<W.heap.size:=by rw[bS.o];omega
 have fo:w.heap.size+1+1<W.heap.size:=by rw[bS.o];omega
 have rC:w.heap.size+1+1+1<W.heap.size:=by rw[bS.o];omega
 have g1:(p.kind == 1)=false:=by simpa using uX
 have g2:(p.kind == 2)=false:=by simpa using hk2
 have g3:(p.kind == 3)=false:=by simpa using hk3
 unfold eX cr;go_enter Tryz.func49,Tryz.ntmps49;go_upto_region 3 with fail;rw[HW.o];clear HW;go_wp2;refine bodyPost_ret (v:=.tuple #[.agg #[.string ⟨#[]⟩,.string ⟨#[]⟩,.int .i64 0,.slice none 0 0],.bool false]) ?_ rfl ⟨⟨⟨[],Ty.zero⟩,rfl,dD.no⟩,?_⟩
 ·simp[results,Tryz.f49,go_sem,y0,y1,y2,y3]
 ·exact ar X0.o (by omega) _ _ _ _
theorem rD (x:dz) (G:Option Addr) (gc:Nat) (given:List Pd) (p:Pf) (hk:p.kind=2) (iN:p.kids.length=1) (jb:p.types.length=0) (h0:0<p.kids.length) (O0:Option Pd) (hO0:∀q,O0=some q→az q.ty=true)
  (ih:wC x G gc given 49 O0 (p.kids[0]'h0)) (A:Option Pd) (jF:∀w,dX w x→bA w G given→bM w p→∀a,A=some a→eV w a) (hA:A=O0.bind fun q=>(xR x.ag q.cls).bind fun c=>(om c.cM p.n).map fun s=>(⟨s,q.ty⟩:Pd)) (O:Option Pd) (hO:O=A.filter eQ):wC x G gc given 49 O p:=by
 intro w he hg hp hsm;obtain⟨W,hW⟩:∃W,W=(((w.alloc (.cells #[.slice x.D x.aA.length x.dc,.slice x.C x.ag.length x.cc,.slice x.I x.insts.length x.ic] 26)).alloc (.cells #[.int .i64 p.kind,.int .i64 p.n,.slice p.T p.types.length p.tc,.slice p.A p.kids.length p.cap] 34)).alloc (.cells #[.string ⟨#[]⟩,.string ⟨#[]⟩,.int .i64 0,.slice none 0 0] 55)).alloc (.cells #[.string ⟨#[]⟩,.string ⟨#[]⟩,.int .i64 0,.slice none 0 0] 55):=⟨_,rfl⟩;have HW:=aa hW.symm;have X0:ahg (Ext w W):=aa (by rw[hW];exact((((eR _).alloc _).alloc _).alloc _).alloc _);have B1:ahg (aJ W w.heap.size x):=aa (by rw[hW];exact(aJ.new w x).ext ((((eR _).alloc _).alloc _).alloc _));have B2:ahg (aO W (w.heap.size+1) p):=aa (by rw[hW];exact aO.ext (ah _ _ _ (by simp)) (((eR _).alloc _).alloc _));have B3:ahg (W.heap[w.heap.size+1+1]?=some (.cells #[.string ⟨#[]⟩,.string ⟨#[]⟩,.int .i64 0,.slice none 0 0] 55)):=aa (by rw[hW];exact(((eR _).alloc _).heap (by simp)).trans (ah _ _ _ (by simp)));have B4:ahg (W.heap[w.heap.size+1+1+1]?=some (.cells #[.string ⟨#[]⟩,.string ⟨#[]⟩,.int .i64 0,.slice none 0 0] 55)):=aa (by rw[hW];exact ah _ _ _ (by simp));have bS:ahg (W.heap.size=w.heap.size+4):=aa (by rw[hW];simp);clear hW;obtain⟨c0,c1,c2,c3⟩:=B2.o.cells;obtain⟨y0,y1,y2,y3,dY,dZ,ee,eh⟩:=ax B3.o;obtain⟨v0,v1,v2,v3,yB,yC,yD,yE⟩:=ax B4.o;have jL:w.heap.size<W.heap.size:=by rw[bS.o];omega
 have nu:w.heap.size+1<W.heap.size:=by rw[bS.o];omega
 have fo:w.heap.size+1+1<W.heap.size:=by rw[bS.o];omega
 have rC:w.heap.size+1+1+1<W.heap.size:=by rw[bS.o];omega
 have g1:(p.kind == 1)=false:=by rw[hk];rfl
 have g2:(p.kind == 2)=true:=by rw[hk];rfl
 have g3:(p.kind == 3)=false:=by rw[hk];rfl
 obtain⟨b,o,eA,hb,q0,q1,q2,q3⟩:=(hp.all.ext X0.o).at_ h0;have hsk:=(fZ hsm).2 _ (ahh h0);unfold wC at ih;have HK:=aa (fun w' (e:Ext w w')=>aa (ih w' (he.ext e) (hg.ext e) ((hp.all.kids _ (ahh h0)).ext e) hsk));have Qj:=aa (jF w he hg hp);have Og:=aa hA;have Jm:=aa hO;have vH:=aa hO0;have HKl:=aa (fun w' (e:Ext w w')=>he.ag.ext e);have oh:=he.Uv;have hcm:=he.JH;generalize p.kids[0]'h0=kid at *;unfold eX cr at *;simp only[Nat.zero_mul,Nat.add_zero] at q0 q1 q2 q3;obtain⟨e0,e1,e2⟩:=B1.o.cells;clear hk ih jF hA hO hO0 he hg hp hsm hsk;generalize p.kids.length=kl at *;obtain rfl:kl=1:=iN;generalize p.types.length=tl at *;obtain rfl:tl=0:=jb;rw[eA] at c3;clear eA;have kY:w.heap.size≠W.heap.size:=by omega
 have Ev:w.heap.size+1≠W.heap.size:=by omega
 have ra:b≠W.heap.size:=by omega
 have fk:=aa (fun w' (e:Ext W w')=>ahk (e.cell e0) (ahk (e.cell e1) (ahk (e.cell e2) (ahk (e.cell c3) (ahk (e.cell q0) (ahk (e.cell q1) (ahk (e.cell q2) (e.cell q3))))))));go_enter Tryz.func49,Tryz.ntmps49;go_upto_region 3 with fail;rw[HW.o];clear HW;go_upto_region 6 with fail
 go_cut [9,10] (fun s9 Rg wx=>∃(b9:Nat) (q:Pd),s9=.pointer (some ⟨b9,0,none⟩)∧Rg=.bool O0.isSome∧dD O0 q∧W.heap.size≤b9∧ahg (Ext W wx)∧ahg (aY wx b9 q))
 case first=>
  go_region_held3 (fun w'=>w'.cell? ⟨w.heap.size,0,none⟩=some (.slice x.D x.aA.length x.dc)∧w'.cell? ⟨w.heap.size,1,none⟩=some (.slice x.C x.ag.length x.cc)∧w'.cell? ⟨w.heap.size,2,none⟩=some (.slice x.I x.insts.length x.ic)∧w'.cell? ⟨w.heap.size+1,3,none⟩=some (.slice (some ⟨b,o,none⟩) 1 p.cap)∧w'.cell? ⟨b,o,none⟩=some (.int .i64 kid.kind)∧w'.cell? ⟨b,o+1,none⟩=some (.int .i64 kid.n)∧w'.cell? ⟨b,o+2,none⟩=some (.slice kid.T kid.types.length kid.tc)∧w'.cell? ⟨b,o+3,none⟩=some (.slice kid.A kid.kids.length kid.cap)) (first|with_reducible assumption|(obtain⟨g1,g2,g3,g4,g5,g6,g7,g8⟩:=kS;with_reducible exact⟨aV kY _ _ _ _ g1,aV kY _ _ _ _ g2,aV kY _ _ _ _ g3,aV Ev _ _ _ _ g4,aV ra _ _ _ _ g5,aV ra _ _ _ _ g6,aV ra _ _ _ _ g7,aV ra _ _ _ _ g8⟩)|go_keep) (first
   |(
    go_at_call 49
    refine Calls.mono (HK.o _ (X0.o.trans (by repeat(first|exact eR _|exact eA (by assumption) _|refine eA ?_ _|refine eM ?_ _ _|refine eD ?_|refine eN ?_ _)))).o ?_;rintro e z ⟨⟨q,rfl,bP⟩,jQ⟩;have kS:=fk.o z (by refine Ext.trans ?_ jQ;exact(by repeat(first|exact eR _|exact eA (by assumption) _|refine eA ?_ _|refine eM ?_ _ _|refine eD ?_|refine eN ?_ _)))
    (try (have zz:=zp jQ (B:=W.heap.size) (by with_reducible exact cn W _);obtain⟨z0,z1,z2,z3,z4,z5,z6,z7,z8⟩:=zz))))
  all_goals (go_wp2_with fail;go_meet;first
   |exact⟨z.heap.size,q,rfl,rfl,bP,aho (ahi _) ((eR W).drew.trans jQ).size,aa (((eR W).drew.trans jQ).alloc _),aa (ah _ _ _ rfl)⟩
   |exact⟨W.heap.size,q,rfl,rfl,bP,ahi _,aa ((P1 (((eR W).alloc _).drew) jQ (ahi _) (ah W _ _ rfl) _).1),aa ((P1 (((eR W).alloc _).drew) jQ (ahi _) (ah W _ _ rfl) _).2)⟩)
 case rest=>
  obtain⟨b9,q,rfl,rfl,bP,Wd,HX,HB9⟩:=hcut;have hx:=HX.o;have XR:=aa (X0.o.trans hx);have B1:=aa (B1.o.ext hx);have B2:=aa (B2.o.ext hx);have B3:=aa ((hx.heap (ae B3.o)).trans B3.o);have B4:=aa ((hx.heap (ae B4.o)).trans B4.o);clear c0 c1 c2 c3 e0 e1 e2 y0 y1 y2 y3 dY dZ ee eh v0 v1 v2 v3 yB yC yD yE q0 q1 q2 q3 fk HK hx HX;obtain⟨e0,e1,e2⟩:=B1.o.cells;have Xe:=B1.o.lt;obtain⟨c0,c1,c2,c3⟩:=B2.o.cells;have lc:=B2.o.lt;have l5:=ae B3.o;have Cl:=ae B4.o;obtain⟨y0,y1,y2,y3,dY,dZ,ee,eh⟩:=ax B3.o;obtain⟨v0,v1,v2,v3,yB,yC,yD,yE⟩:=ax B4.o;obtain⟨d0,d1,d2,d3⟩:=HB9.o.cells;have ld:=HB9.o.lt;have ou:=aa (R7 x.C x.cc x.ag q.cls wc (HKl.o _ XR.o) (by omega));go_wp2_with fail;refine ou.o.mono ?_;rintro e z ⟨⟨n,rfl,tV,oF⟩,rfl⟩;cases O0 with
  |none=>
   have hA:A=none:=Og.o;have hO:O=none:=by rw[Jm.o,hA];rfl
   clear Og Jm Qj bP vH tV oF ou;subst hO;simp only[Option.isSome_none];go_wp2
   go_quiet (fail)
   all_goals
    go_wp2;refine bodyPost_ret (v:=.tuple #[.agg #[.string ⟨#[]⟩,.string ⟨#[]⟩,.int .i64 0,.slice none 0 0],.bool false]) ?_ rfl ⟨⟨⟨[],Ty.zero⟩,rfl,dD.no⟩,?_⟩
    ·simp[results,Tryz.f49,go_sem,y0,y1,y2,y3]
    ·first|exact(ar XR.o (by omega) _ _ _ _).drewN _|exact ar XR.o (by omega) _ _ _ _|exact ar (XR.o.drewN _) (by omega) _ _ _ _|exact(ar XR.o (by omega) _ _ _ _).drew
  |some a=>
   obtain rfl:=bP.eq a rfl;clear bP;simp only[Option.isSome_some];have Sa:A=(xR x.ag q.cls).bind fun c=>(om c.cM p.n).map fun s=>(⟨s,q.ty⟩:Pd):=Og.o
   have Hlq:=aa (vH.o q rfl);clear Og vH ou;cases hF:xR x.ag q.cls with
   |none=>
    obtain rfl:=tV hF;have hA:A=none:=by rw[Sa,hF];rfl
    have hO:O=none:=by rw[Jm.o,hA];rfl
    clear Jm Qj tV oF Sa hF;subst hO;go_wp2
    go_quiet (fail)
    all_goals
     go_wp2;refine bodyPost_ret (v:=.tuple #[.agg #[.string ⟨#[]⟩,.string ⟨#[]⟩,.int .i64 0,.slice none 0 0],.bool false]) ?_ rfl ⟨⟨⟨[],Ty.zero⟩,rfl,dD.no⟩,?_⟩
     ·simp[results,Tryz.f49,go_sem,y0,y1,y2,y3]
     ·first|exact(ar XR.o (by omega) _ _ _ _).drewN _|exact ar XR.o (by omega) _ _ _ _|exact ar (XR.o.drewN _) (by omega) _ _ _ _|exact(ar XR.o (by omega) _ _ _ _).drew
   |some c=>
    obtain⟨i,hi,rfl,hic⟩:=oF c hF;have Xh:=aa (HKl.o _ XR.o);obtain⟨bc,oc,eC,WQ,r0,r1,r2⟩:=Xh.o.at_ hi;have Xi:=aa (Xh.o.all _ (ahh hi));rw[hic] at r0 r1 r2 Xi;have JZ:¬((i:Int)<0):=by omega
    have Ej:(i:Int)<(x.ag.length:Int):=by omega
    have I4:(0:Int)≤(i:Int):=by omega
    rw[eC] at e1;clear eC tV oF hic;rw[hF] at Sa;have FD:A=(om c.cM p.n).map fun s=>(⟨s,q.ty⟩:Pd):=Sa
    clear Sa hF
    by_cases hn:p.n<0
    ·have hA:A=none:=by rw[FD,dh (by omega)];rfl
     have hO:O=none:=by rw[Jm.o,hA];rfl
     have cb:decide (p.n<(0:Int))=true:=decide_eq_true hn;clear Jm Qj FD r0 r1 r2 Xh Xi JZ Ej I4 WQ hi;have JZ:decide ((i:Int)<0)=false:=decide_eq_false (by omega);generalize p.n=pn at *;subst hO;go_upto_region 8 with fail
     go_quiet (fail)
     all_goals
      go_wp2;refine bodyPost_ret (v:=.tuple #[.agg #[.string ⟨#[]⟩,.string ⟨#[]⟩,.int .i64 0,.slice none 0 0],.bool false]) ?_ rfl ⟨⟨⟨[],Ty.zero⟩,rfl,dD.no⟩,?_⟩
      ·simp[results,Tryz.f49,go_sem,y0,y1,y2,y3]
      ·first|exact(ar XR.o (by omega) _ _ _ _).drewN _|exact ar XR.o (by omega) _ _ _ _|exact ar (XR.o.drewN _) (by omega) _ _ _ _|exact(ar XR.o (by omega) _ _ _ _).drew
    by_cases oF:p.n≥(c.cM.length:Int)
    ·have hA:A=none:=by rw[FD,dh (by omega)];rfl
     have hO:O=none:=by rw[Jm.o,hA];rfl
     clear Jm Qj FD;subst hO;go_wp2
     go_quiet (fail)
     all_goals
      go_wp2;refine bodyPost_ret (v:=.tuple #[.agg #[.string ⟨#[]⟩,.string ⟨#[]⟩,.int .i64 0,.slice none 0 0],.bool false]) ?_ rfl ⟨⟨⟨[],Ty.zero⟩,rfl,dD.no⟩,?_⟩
      ·simp[results,Tryz.f49,go_sem,y0,y1,y2,y3]
      ·first|exact(ar XR.o (by omega) _ _ _ _).drewN _|exact ar XR.o (by omega) _ _ _ _|exact ar (XR.o.drewN _) (by omega) _ _ _ _|exact(ar XR.o (by omega) _ _ _ _).drew
    obtain⟨m,hm⟩:∃m:Nat,p.n=(m:Int):=⟨p.n.toNat,by omega⟩;have gD:m<c.cM.length:=by omega
    have JT:(m:Int)<(c.cM.length:Int):=by omega
    have Mp:(0:Int)≤(m:Int):=by omega
    have Mu:¬((m:Int)<0):=by omega
    have Xc:¬((m:Int)≥(c.cM.length:Int)):=by omega
    obtain⟨s,hs⟩:∃s,s=c.cM[m]'gD:=⟨_,rfl⟩;have hA:A=some ⟨s,q.ty⟩:=by rw[FD,hm,mG _ _ gD,hs];rfl
    rw[hm] at c1;obtain⟨bs,os,eS,hbs,Nx⟩:=jh.at_ Xi.o.JG gD;have eg:c.cM.getD m []=s:=by rw[hs];simp[gD]
    rw[eg] at Nx;rw[eS] at r1;have FE:=aa (Qj.o _ hA);have wD:ahg (O=(some (⟨s,q.ty⟩:Pd)).filter eQ):=aa (by rw[Jm.o,hA]);have FH:ahg ((⟨s,q.ty⟩:Pd).ty.size≤900000):=aa (by have:=(aW Hlq.o).1;show q.ty.size≤900000;omega);clear Jm Qj FD hA eS eg hm hs hn oF;go_wp2
    go_quiet (fail)
    all_goals
     go_upto_region 10 with fail
     go_region
     all_goals
      go_upto_region 16 with fail;refine bC ?_;intro Wc zZ;have sP:ahg (Ext w Wc):=aa (by rw[zZ];first|exact(ar XR.o (by omega) _ _ _ _).drewN _|exact ar (XR.o.drewN _) (by omega) _ _ _ _|exact(ar XR.o (by omega) _ _ _ _).drew|exact ar XR.o (by omega) _ _ _ _|exact(ar (XR.o.drewN _) (by omega) _ _ _ _).drew);have BA:ahg (aY Wc (w.heap.size+1+1+1) ⟨s,q.ty⟩):=aa (by rw[zZ];exact di B4.o ⟨s,q.ty⟩);have Aa:ahg (Wc.heap[w.heap.size+1+1]?=some (.cells #[.string ⟨#[]⟩,.string ⟨#[]⟩,.int .i64 0,.slice none 0 0] 55)):=aa (by rw[zZ];exact(dH ⟨s,q.ty⟩ (by omega)).trans B3.o);clear zZ;obtain⟨a,ha⟩:∃a,a=(⟨s,q.ty⟩:Pd):=⟨_,rfl⟩;have Sb:ahg (a.ty.size≤900000):=aa (by rw[ha];exact FH.o);clear FH;have FH:=Sb;clear Sb;rw[←ha] at BA FE wD;have FC:=FE;have MK:=wD;have KB:=FH;clear ha FE wD FH Nx r0 r1 r2;clear e0 e1 e2 Xe c0 c1 c2 c3 lc l5 Cl y0 y1 y2 y3 dY dZ ee eh v0 v1 v2 v3 yB yC yD yE d0 d1 d2 d3 ld;have HC:=aa (fun w' (e:Ext w w')=>aa (lK a w' (FC.o.ext e) KB.o));have kh:ahg (O.isSome=eQ a∧dD O a):=aa (by
       rw[MK.o,Option.filter_some];cases UJ:eQ a
       ·exact⟨rfl,dD.no⟩
       ·exact⟨rfl,dD.yes a⟩)
      clear MK;generalize eQ a=ok at *;have R9:ahg (Wc.drew.heap[w.heap.size+1+1]?=some (.cells #[.string ⟨#[]⟩,.string ⟨#[]⟩,.int .i64 0,.slice none 0 0] 55)):=aa Aa.o;obtain⟨a0,a1,a2,a3⟩:=BA.o.cells;have la:=BA.o.lt;have hy6:=ae Aa.o;have hne:w.heap.size+1+1+1≠w.heap.size+1+1:=by omega
      have mP:w.heap.size≤w.heap.size+1+1:=by omega
      obtain⟨y0,y1,y2,y3,dY,dZ,ee,eh⟩:=ax Aa.o;have fk:=aa (fun w' (e:Ext Wc w')=>ahk (e.cell a0) (ahk (e.cell a1) (ahk (e.cell a2) (e.cell a3))));unfold jC at *;go_wp2
      go_region_held3 (fun w'=>w'.cell? ⟨w.heap.size+1+1+1,0,none⟩=some (encStr a.cls)∧w'.cell? ⟨w.heap.size+1+1+1,1,none⟩=some (encStr a.ty.aq)∧w'.cell? ⟨w.heap.size+1+1+1,2,none⟩=some (.int .i64 a.ty.var)∧w'.cell? ⟨w.heap.size+1+1+1,3,none⟩=some (.slice a.ty.A a.ty.args.length a.ty.cap)) (first|with_reducible assumption|(with_reducible exact⟨aV hne _ _ _ _ a0,aV hne _ _ _ _ a1,aV hne _ _ _ _ a2,aV hne _ _ _ _ a3⟩)|go_keep) (first
       |(
        go_at_call 61
        refine Calls.mono (HC.o _ (by first|exact sP.o.drew|exact(ar sP.o mP _ _ _ _).drew|exact sP.o|exact ar sP.o mP _ _ _ _)).o ?_;rintro e z ⟨rfl,rA⟩
        (try (have kS:=fk.o z (by refine Ext.trans ?_ rA;with_reducible exact(eR Wc).drew)))
        (try (have zz:=zp rA (B:=w.heap.size+1+1) (by with_reducible exact R9.o);obtain⟨z0,z1,z2,z3,z4,z5,z6,z7,z8⟩:=zz))))
      all_goals first
       |(
        have BB:=(di Aa.o a).ext (Ext.trans ((eR (dQ Wc (w.heap.size+1+1) a)).drew) rA);obtain⟨r0,r1,r2,r3⟩:=BB.cells;go_wp2;refine bodyPost_ret (v:=.tuple #[.agg #[encStr a.cls,encStr a.ty.aq,.int .i64 a.ty.var,.slice a.ty.A a.ty.args.length a.ty.cap],.bool ok]) ?_ rfl ⟨⟨a,by first|(rw[kh.o.1];done)|(rw[kh.o.1];rfl),kh.o.2⟩,?_⟩
        ·simp[results,Tryz.f49,go_sem,r0,r1,r2,r3]
        ·exact Ext.trans (ar sP.o mP _ _ _ _).drew rA)
       |(
        go_wp2;refine bodyPost_ret (v:=.tuple #[.agg #[encStr a.cls,encStr a.ty.aq,.int .i64 a.ty.var,.slice a.ty.A a.ty.args.length a.ty.cap],.bool ok]) ?_ rfl ⟨⟨a,by first|(rw[kh.o.1];done)|(rw[kh.o.1];rfl),kh.o.2⟩,?_⟩
        ·simp[results,Tryz.f49,go_sem,z0,z1,z2,z3]
        ·exact ar (Ext.trans sP.o.drew rA) mP _ _ _ _)
set_option maxRecDepth 512
set_option maxHeartbeats 200000
theorem sQ (x:dz) (G:Option Addr) (gc:Nat) (given:List Pd) (kg:∀i∈x.insts,i.preds.length≤40000) (ur:∀d∈given,d.ty.size≤900000) (p:Pf):p.size≤1000000→gF p=true→wC x G gc given 49 (bm x.ag x.insts given p) p:=by
 induction p using Pf.ind with
 |h p ih=>
 intro hsz hw;obtain⟨Jc,hw2,hw3⟩:=j9 hw;have nr:=Pf.pd p;have IH:∀k∈p.kids,wC x G gc given 49 (bm x.ag x.insts given k) k:=fun k hk=>ih k hk (by have:=Pf.cB hk;omega) (hw3 k hk)
 rw[ew];unfold gC
 by_cases h1:p.kind=1
 ·rw[if_pos h1];unfold ir
  by_cases hk:p.kids.length=0∧p.types.length=0
  ·rw[if_pos hk]
   by_cases hn:p.n<0
   ·rw[dh (by omega)];exact yG x G gc given p h1 hk.1 hk.2 hn
   by_cases oF:p.n<(given.length:Int)
   ·obtain⟨m,hm⟩:∃m:Nat,p.n=(m:Int):=⟨p.n.toNat,by omega⟩;have gD:m<given.length:=by omega
    refine rB x G gc given p h1 hk.1 hk.2 m hm gD ur _ ?_;rw[hm,mG _ _ gD]
   ·rw[dh (by omega)];exact yH x G gc given p h1 hk.1 hk.2 (by omega) oF
  ·rw[if_neg hk];exact yF x G gc given p h1 (by omega) (by omega) (by omega)
 rw[if_neg h1]
 by_cases h2:p.kind=2
 ·rw[if_pos h2]
  by_cases hk:p.kids.length=1
  ·by_cases ht:p.types.length=0
   ·have h0:0<p.kids.length:=by omega
    have e:(p.kids.map (bm x.ag x.insts given)).getD 0 none=bm x.ag x.insts given (p.kids[0]'h0):=by simp[List.getD,h0]
    refine rD x G gc given p h2 hk ht h0 (bm x.ag x.insts given (p.kids[0]'h0)) (fun q hq=>by have h:=sq hq;unfold eQ at h;rw[ahv] at h;exact h.2) (IH _ (ahh h0)) (cx x.ag p (p.kids.map (bm x.ag x.insts given))) (fun w he hg hp a ha=>vG he hg hp ha) ?_ _ rfl;unfold cx;rw[if_pos ⟨hk,ht⟩,e]
   ·unfold cx;rw[if_neg (fun h=>ht h.2)];exact yJ x G gc given p h2 hk ht
  ·unfold cx;rw[if_neg (fun h=>hk h.1)];exact yI x G gc given p h2 hk
 rw[if_neg h2]
 by_cases h3:p.kind=3
 ·rw[if_pos h3];exact uu x G gc given p h3 (bZ x.insts p (p.kids.map (bm x.ag x.insts given))) (fun w he hp a ha=>⟨zR he hp ha,Ck ha⟩) (FB x G gc given p kg IH) _ rfl
 rw[if_neg h3];exact yK x G gc given p h1 h2 h3
structure PvR (O:Option Pd) (a:Pd) (n:Int):Prop where
 yes:∀q,O=some q→n=0∧a=q
 no:O=none→n=1∧a=⟨[],Ty.zero⟩
set_option maxRecDepth 10000
set_option maxHeartbeats 8000000
theorem pX (x:dz) (G:Option Addr) (gc:Nat) (given:List Pd) (p:Pf) (O:Option Pd) (hC:wC x G gc given 49 O p) (w:World) (he:dX w x) (hg:bA w G given) (hp:bM w p) (hsm:eB p=true) :
  Calls Tryz.prog 28 #[eX x,.slice G given.length gc,cr p] w fun e w'=>(∃a n,e=.returned (.tuple #[jC a,.int .i64 n])∧PvR O a n)∧Ext w w':=by
 obtain⟨W,hW⟩:∃W,W=((w.alloc (.cells #[.slice x.D x.aA.length x.dc,.slice x.C x.ag.length x.cc,.slice x.I x.insts.length x.ic] 26)).alloc (.cells #[.int .i64 p.kind,.int .i64 p.n,.slice p.T p.types.length p.tc,.slice p.A p.kids.length p.cap] 34)).alloc (.cells #[.string ⟨#[]⟩,.string ⟨#[]⟩,.int .i64 0,.slice none 0 0] 55):=⟨_,rfl⟩;have HW:=aa hW.symm;have X0:ahg (Ext w W):=aa (by rw[hW];exact(((eR _).alloc _).alloc _).alloc _);have B1:ahg (aJ W w.heap.size x):=aa (by rw[hW];exact(aJ.new w x).ext (((eR _).alloc _).alloc _));have B2:ahg (aO W (w.heap.size+1) p):=aa (by rw[hW];exact aO.ext (ah _ _ _ (by simp)) ((eR _).alloc _));have B3:ahg (W.heap[w.heap.size+1+1]?=some (.cells #[.string ⟨#[]⟩,.string ⟨#[]⟩,.int .i64 0,.slice none 0 0] 55)):=aa (by rw[hW];exact ah _ _ _ (by simp));have bS:ahg (W.heap.size=w.heap.size+3):=aa (by rw[hW];simp);obtain⟨c0,c1,c2,c3⟩:=B2.o.cells;obtain⟨e0,e1,e2⟩:=B1.o.cells;have jL:w.heap.size<W.heap.size:=by rw[bS.o];omega
 have nu:w.heap.size+1<W.heap.size:=by rw[bS.o];omega
 have fo:w.heap.size+1+1<W.heap.size:=by rw[bS.o];omega
 have HC:=aa (hC W (he.ext X0.o) (hg.ext X0.o) (hp.ext X0.o) hsm);unfold eX cr at *;clear hW he hg hp hsm hC;go_enter Tryz.func28,Tryz.ntmps28;go_upto_region 1 with fail;rw[HW.o];clear HW;go_wp2_with fail;refine HC.o.mono ?_;rintro e y ⟨⟨a,rfl,bP⟩,hx⟩;have Y1:=aa hx;have HO:=aa bP;clear bP hx HC c0 c1 c2 c3 e0 e1 e2 jL nu fo;go_upto_region 2 with fail;refine Fl ?_;intro W2 hW2;have BU:ahg (aY W2 y.heap.size a):=aa (by rw[hW2];exact aY.new y a);have Z1:ahg (Ext y W2):=aa (by rw[hW2];exact(eR _).alloc _);have X2:ahg (Ext W W2):=aa (Y1.o.trans Z1.o);have D2:=aa ((X2.o.heap (ae B3.o)).trans B3.o);clear hW2 Y1;cases O with
 |none=>
  simp only[Option.isSome_none];have gS:=ae D2.o;obtain⟨y0,y1,y2,y3,dY,dZ,ee,eh⟩:=ax D2.o;have XF:=aa (ar (X0.o.trans X2.o) (b:=w.heap.size+1+1) (by omega));clear HO;go_wp2;refine bodyPost_ret (v:=.tuple #[.agg #[.string ⟨#[]⟩,.string ⟨#[]⟩,.int .i64 0,.slice none 0 0],.int .i64 1]) ?_ rfl ⟨⟨⟨[],Ty.zero⟩,1,rfl,⟨(fun q h=>by cases h),fun _=>⟨rfl,rfl⟩⟩⟩,XF.o _ _ _ _⟩;simp[results,Tryz.f28,go_sem,y0,y1,y2,y3]
 |some q=>
  obtain rfl:=HO.o.eq q rfl;clear HO;simp only[Option.isSome_some];have gS:=ae D2.o;obtain⟨y0,y1,y2,y3,dY,dZ,ee,eh⟩:=ax D2.o;obtain⟨d0,d1,d2,d3⟩:=BU.o.cells;have ld:=BU.o.lt;have XF:=aa (ar (X0.o.trans X2.o) (b:=w.heap.size+1+1) (by omega));go_wp2;refine bodyPost_ret (v:=.tuple #[.agg #[encStr a.cls,encStr a.ty.aq,.int .i64 a.ty.var,.slice a.ty.A a.ty.args.length a.ty.cap],.int .i64 0]) ?_ rfl ⟨⟨a,0,rfl,⟨(fun q h=>⟨rfl,Option.some.inj h⟩),(fun h=>by cases h)⟩⟩,XF.o _ _ _ _⟩;simp[results,Tryz.f28,go_sem,y0,y1,y2,y3]
set_option maxRecDepth 512
set_option maxHeartbeats 200000
def Oh (x:dz) (P:Option Addr) (pc:Nat) (preds:List Pd) (L:Option Addr) (lc:Nat) (given:List Tm) (p:Pf):Prop:=
 ∀(w:World),dX w x→bA w P preds→bK w L given→bM w p→(bm x.ag x.insts preds p).isSome=true→given.length=preds.length →
  Calls Tryz.prog 29 #[eX x,.slice P preds.length pc,.slice L given.length lc,cr p] w fun e w'=>(∃t,e=.returned (bl t)∧rr w w' given p (kE x.ag x.insts preds (given.map Tm.pure) p) t)∧Ext w w'
set_option maxRecDepth 10000
set_option maxHeartbeats 8000000
theorem pY (x:dz) (P:Option Addr) (pc:Nat) (preds:List Pd) (L:Option Addr) (lc:Nat) (given:List Tm) (p:Pf) (hk:p.kind=1):Oh x P pc preds L lc given p:=by
 intro w he hP hL hp hq hlen;obtain⟨q,hq⟩:=Option.isSome_iff_exists.1 hq
 rcases dM hq with ⟨-,-,-,h0,h1⟩|⟨h,-⟩|⟨h,-⟩
 rotate_left
 ·omega
 ·omega
 obtain⟨n,hn⟩:∃n:Nat,p.n=(n:Int):=⟨p.n.toNat,by omega⟩;have hlt:n<given.length:=by omega
 rw[mO hk hn hlt];obtain⟨W,hW⟩:∃W,W=((w.alloc (.cells #[.slice x.D x.aA.length x.dc,.slice x.C x.ag.length x.cc,.slice x.I x.insts.length x.ic] 26)).alloc (.cells #[.int .i64 p.kind,.int .i64 p.n,.slice p.T p.types.length p.tc,.slice p.A p.kids.length p.cap] 34)).alloc (.cells #[.int .i64 0,.int .i64 0,.string ⟨#[]⟩,.slice none 0 0,.slice none 0 0,.slice none 0 0] 40):=⟨_,rfl⟩;have HW:=aa hW.symm;have X0:ahg (Ext w W):=aa (by rw[hW];exact(((eR _).alloc _).alloc _).alloc _);have B1:ahg (aJ W w.heap.size x):=aa (by rw[hW];exact(aJ.new w x).ext (((eR _).alloc _).alloc _));have B2:ahg (aO W (w.heap.size+1) p):=aa (by rw[hW];exact aO.ext (ah _ _ _ (by simp)) ((eR _).alloc _));have B3:ahg (W.heap[w.heap.size+1+1]?=some (.cells #[.int .i64 0,.int .i64 0,.string ⟨#[]⟩,.slice none 0 0,.slice none 0 0,.slice none 0 0] 40)):=aa (by rw[hW];exact ah _ _ _ (by simp));obtain⟨b,o,rfl,hb,q0,q1,q2,q3,q4,q5⟩:=(hL.ext X0.o).at_ hlt;have jF:=hL.kids _ (ahh hlt);have HA:ahg (ay (w.heap.size+1+1) (given[n]'hlt)):=aa (bw jF (by omega));have HI:=aa (jF.ext X0.o);have Hm:=aa (ahh hlt);generalize given[n]'hlt=g at *;have HF:ahg (rr w (cw W (w.heap.size+1+1) g) given p g.pure g):=aa ⟨HI.o.grown (aZ _ _ _) (fun c e=>by injection e with e;subst e;exact HA.o),rfl,fun c _ h _=>h g Hm.o⟩;have XF:=aa (bg X0.o (by omega:w.heap.size≤w.heap.size+1+1) g);obtain⟨c0,c1,c2,c3⟩:=B2.o.cells;obtain⟨e0,e1,e2⟩:=B1.o.cells;obtain⟨z0,z1,z2,z3,z4,z5,iE,iF,iG,iH,um,uo⟩:=bn B3.o;have n1:=B1.o.lt;have n2:=B2.o.lt;have n3:=ae B3.o;have Bk:(0:Int)≤(n:Int):=by omega
 have tV:(n:Int)<(given.length:Int):=by omega
 rw[hk] at c0;rw[hn] at c1;unfold eX cr;clear hW he hP hL hp hq jF h0 h1 hlen hk hn;go_enter Tryz.func29,Tryz.ntmps29;go_upto_region 1 with fail;rw[HW.o];clear HW;go_wp2;refine bodyPost_ret (v:=bl g) ?_ rfl ⟨⟨g,rfl,HF.o⟩,XF.o⟩;simp[results,Tryz.f29,go_sem,z0,z1,z2,z3,z4,z5]
theorem pZ (x:dz) (P:Option Addr) (pc:Nat) (preds:List Pd) (L:Option Addr) (lc:Nat) (given:List Tm) (p:Pf) (hk:p.kind=2) (kg:∀i∈x.insts,i.preds.length≤40000) (ur:∀d∈preds,d.ty.size≤900000) (hsz:p.size≤1000000) (hwd:gF p=true) (hsm:eB p=true) (ih:∀k∈p.kids,Oh x P pc preds L lc given k):Oh x P pc preds L lc given p:=by
 intro w he hP hL hp hq hlen;obtain⟨q,hq⟩:=Option.isSome_iff_exists.1 hq
 rcases dM hq with ⟨h,-⟩|⟨-,-,k,b,iN,hkb⟩|⟨h,-⟩
 ·omega
 rotate_left
 ·omega
 rw[pV hk iN hkb];obtain⟨W,hW⟩:∃W,W=((w.alloc (.cells #[.slice x.D x.aA.length x.dc,.slice x.C x.ag.length x.cc,.slice x.I x.insts.length x.ic] 26)).alloc (.cells #[.int .i64 p.kind,.int .i64 p.n,.slice p.T p.types.length p.tc,.slice p.A p.kids.length p.cap] 34)).alloc (.cells #[.int .i64 0,.int .i64 0,.string ⟨#[]⟩,.slice none 0 0,.slice none 0 0,.slice none 0 0] 40):=⟨_,rfl⟩;have HW:=aa hW.symm;have X0:ahg (Ext w W):=aa (by rw[hW];exact(((eR _).alloc _).alloc _).alloc _);have B1:ahg (aJ W w.heap.size x):=aa (by rw[hW];exact(aJ.new w x).ext (((eR _).alloc _).alloc _));have B2:ahg (aO W (w.heap.size+1) p):=aa (by rw[hW];exact aO.ext (ah _ _ _ (by simp)) ((eR _).alloc _));have B3:ahg (W.heap[w.heap.size+1+1]?=some (.cells #[.int .i64 0,.int .i64 0,.string ⟨#[]⟩,.slice none 0 0,.slice none 0 0,.slice none 0 0] 40)):=aa (by rw[hW];exact ah _ _ _ (by simp));have bS:ahg (W.heap.size=w.heap.size+3):=aa (by rw[hW];simp);have cv:k∈p.kids:=by rw[iN];simp
 have hall:=hp.all;have pW:=hall.kids k cv;obtain⟨b0,o0,hA,N8,q0,q1,q2,q3⟩:=hall.at_ (i:=0) (by rw[iN];simp);have hb0:b0<W.heap.size:=Nat.lt_of_lt_of_le N8 X0.o.size;have dy:p.kids[0]'(by rw[iN];simp)=k:=by simp[iN]
 rw[dy] at q0 q1 q2 q3;simp only[Nat.zero_mul,Nat.add_zero] at q0 q1 q2 q3;have Dz:=aa (fun w' (e:Ext W w')=>aa (pX x P pc preds k (bm x.ag x.insts preds k) (sQ x P pc preds kg ur k (by have:=Pf.cB cv;omega) ((j9 hwd).2.2 k cv)) w' (he.ext (X0.o.trans e)) (hP.ext (X0.o.trans e)) (pW.ext (X0.o.trans e)) ((fZ hsm).2 k cv)));have HT:=aa (fun w' (e:Ext W w')=>aa (ih k cv w' (he.ext (X0.o.trans e)) (hP.ext (X0.o.trans e)) (hL.ext (X0.o.trans e)) (pW.ext (X0.o.trans e)) (by rw[hkb];rfl) hlen));rw[hkb] at Dz;have ry:ahg (∀c,w.heap.size≤c→(∀g∈given,ay c g)∧aL c k):=aa (fun c hc=>⟨fun g hg=>bw (hL.kids g hg) hc,dm pW hc⟩);have oM:ahg (∀c,aL c p→aL c k):=aa (fun c h=>h.kids k cv);obtain⟨c0,c1,c2,c3⟩:=B2.o.cells;obtain⟨e0,e1,e2⟩:=B1.o.cells;rw[hk] at c0;rw[hA,iN] at c3;have n1:=B1.o.lt;have n2:=B2.o.lt;have n3:=ae B3.o;have qV:=aa (ahk c0 (ahk c1 c3));replace q0:=X0.o.cell q0;replace q1:=X0.o.cell q1;replace q2:=X0.o.cell q2;replace q3:=X0.o.cell q3;have Kt:=aa (ahk q0 (ahk q1 (ahk q2 q3)));generalize nd:kE x.ag x.insts preds (given.map Tm.pure) k=Q at *;have HV:ahg (cr p=.agg #[.int .i64 2,.int .i64 p.n,.slice p.T p.types.length p.tc,.slice (some ⟨b0,o0,none⟩) 1 p.cap]):=aa (by unfold cr;rw[hk,hA,iN];rfl);rw[HV.o];have HW:ahg (((w.alloc (.cells #[.slice x.D x.aA.length x.dc,.slice x.C x.ag.length x.cc,.slice x.I x.insts.length x.ic] 26)).alloc (.cells #[.int .i64 2,.int .i64 p.n,.slice p.T p.types.length p.tc,.slice (some ⟨b0,o0,none⟩) 1 p.cap] 34)).alloc (.cells #[.int .i64 0,.int .i64 0,.string ⟨#[]⟩,.slice none 0 0,.slice none 0 0,.slice none 0 0] 40)=W):=aa (by have h:=HW.o;rw[hk,hA,iN] at h;exact h);unfold eX cr at *;have WU:ahg (b.cls.length≤1000000000000000000):=aa (np he hP k pW b hkb).cls;clear hW he hP hL hp hq hlen hk iN hkb cv hall pW hA dy ih nd HV;have l1:((([k]:List Pf).length:Nat):Int)=1:=rfl;go_enter Tryz.func29,Tryz.ntmps29;go_upto_region 1 with fail;rw[HW.o];clear HW;go_upto_region 5 with fail;refine bC ?_;intro W5 jR;have X5:ahg (Ext W W5):=aa (by rw[jR];exact eR _);clear jR c0 c1 c2 c3 e0 e1 e2 q0 q1 q2 q3 n1 n2 n3;have vg:=aa (fun w' (e:Ext W w')=>(B1.o.ext e).cells);have fk:ahg (∀w',Ext W w'→w'.cell? ⟨w.heap.size+1,3,none⟩=some (.slice (some ⟨b0,o0,none⟩) 1 p.cap)∧w'.cell? ⟨b0,o0,none⟩=some (.int .i64 k.kind)∧w'.cell? ⟨b0,o0+1,none⟩=some (.int .i64 k.n)∧w'.cell? ⟨b0,o0+2,none⟩=some (.slice k.T k.types.length k.tc)∧w'.cell? ⟨b0,o0+3,none⟩=some (.slice k.A k.kids.length k.cap) ∧
   w'.cell? ⟨w.heap.size,0,none⟩=some (.slice x.D x.aA.length x.dc)∧w'.cell? ⟨w.heap.size,1,none⟩=some (.slice x.C x.ag.length x.cc)∧w'.cell? ⟨w.heap.size,2,none⟩=some (.slice x.I x.insts.length x.ic)):=aa (fun w' e=>
  ⟨e.cell qV.o.2.2,e.cell Kt.o.1,e.cell Kt.o.2.1,e.cell Kt.o.2.2.1,e.cell Kt.o.2.2.2,(vg.o w' e).1,(vg.o w' e).2.1,(vg.o w' e).2.2⟩)
 obtain⟨s0,s1,s2,s3,s4,s5,s6,s7⟩:=fk.o W5 X5.o;have n1:=(B1.o.ext X5.o).lt;have n2:=(B2.o.ext X5.o).lt;have n0:b0<W5.heap.size:=by have:=X5.o.size;omega
 have k0:b0≠W5.heap.size:=by omega
 have k1:w.heap.size≠W5.heap.size:=by omega
 have k2:w.heap.size+1≠W5.heap.size:=by omega
 go_cut [9,10] (fun s5 s6 wx=>∃(b5:Nat),s5=.pointer (some ⟨b5,0,none⟩)∧ahg (lu W5 wx b5 b.cls))
 case first=>
  go_region_held3 (fun w'=>w'.cell? ⟨w.heap.size+1,3,none⟩=some (.slice (some ⟨b0,o0,none⟩) 1 p.cap)∧w'.cell? ⟨b0,o0,none⟩=some (.int .i64 k.kind)∧w'.cell? ⟨b0,o0+1,none⟩=some (.int .i64 k.n)∧w'.cell? ⟨b0,o0+2,none⟩=some (.slice k.T k.types.length k.tc)∧w'.cell? ⟨b0,o0+3,none⟩=some (.slice k.A k.kids.length k.cap) ∧
   w'.cell? ⟨w.heap.size,0,none⟩=some (.slice x.D x.aA.length x.dc)∧w'.cell? ⟨w.heap.size,1,none⟩=some (.slice x.C x.ag.length x.cc)∧w'.cell? ⟨w.heap.size,2,none⟩=some (.slice x.I x.insts.length x.ic)) (first|with_reducible assumption|(obtain⟨g0,g1,g2,g3,g4,g5,g6,g7⟩:=kS;with_reducible exact⟨aV k2 _ _ _ _ g0,aV k0 _ _ _ _ g1,aV k0 _ _ _ _ g2,aV k0 _ _ _ _ g3,aV k0 _ _ _ _ g4,aV k1 _ _ _ _ g5,aV k1 _ _ _ _ g6,aV k1 _ _ _ _ g7⟩)|go_keep) (
   (
   go_at_call 28
   refine Calls.mono (Dz.o _ (X5.o.trans (by repeat(first|exact eR _|exact eA (by assumption) _|refine eA ?_ _|refine eM ?_ _ _|refine eD ?_|refine eN ?_ _)))).o ?_;rintro e y ⟨⟨a,n,rfl,Ku⟩,hx⟩;have EA:ahg (Ext W5 y):=aa (by refine Ext.trans ?_ hx;exact(by repeat(first|exact eR _|exact eA (by assumption) _|refine eA ?_ _|refine eM ?_ _ _|refine eD ?_|refine eN ?_ _)));have kS:=fk.o y (X5.o.trans EA.o)
   try (have hz:=aa ((hx.heap (ae (cn W5 _))).trans (cn W5 _));have z0:=af hz.o 0;have z1:=af hz.o 1;have z2:=af hz.o 2;have z3:=af hz.o 3;have z4:=ai hz.o 0;have z5:=ai hz.o 1;have z6:=ai hz.o 2;have z7:=ai hz.o 3;simp only[ahp,ahq,ahr] at z0 z1 z2 z3)))
  all_goals (have RO:=congrArg Pd.cls (Ku.yes b rfl).2;go_wp2_with fail;go_meet;first
   |exact⟨y.heap.size,rfl,aa (by rw[←RO];exact lu.behind EA.o)⟩
   |exact⟨W5.heap.size,rfl,aa (by rw[←RO];exact lu.ahead EA.o (ahi _) hz.o)⟩)
 case rest=>
  obtain⟨b5,rfl,HC⟩:=hcut;have X6:=aa (X5.o.trans HC.o.x);have WV:ahg (b.cls.length≤1000000000000000000):=WU;clear s0 s1 s2 s3 s4 s5 s6 s7 n1 n2 n0 k0 k1 k2;obtain⟨s0,s1,s2,s3,s4,s5,s6,s7⟩:=fk.o wc X6.o;obtain⟨m0,m1,m2⟩:=vg.o wc X6.o;have c1:=X6.o.cell qV.o.2.1;have d0:=HC.o.c0;have dl:=HC.o.lt;have n1:=(B1.o.ext X6.o).lt;have n2:=(B2.o.ext X6.o).lt;have n0:b0<wc.heap.size:=by have:=X6.o.size;omega
  have WW:ahg (∀w',Ext wc w'→w'.cell? ⟨w.heap.size+1,1,none⟩=some (.int .i64 p.n)∧w'.cell? ⟨b5,0,none⟩=some (encStr b.cls)):=aa (fun w' e=>⟨e.cell c1,e.cell d0⟩);have B4:ahg (wc.heap[w.heap.size+1+1]?=some (.cells #[.int .i64 0,.int .i64 0,.string ⟨#[]⟩,.slice none 0 0,.slice none 0 0,.slice none 0 0] 40)):=aa ((X6.o.heap (ae B3.o)).trans B3.o);obtain⟨z0,z1,z2,z3,z4,z5,iE,iF,iG,iH,um,uo⟩:=bn B4.o;have n3:=ae B4.o;have Dr:ahg (∀w',Ext wc w'→w'.cell? ⟨w.heap.size+1,3,none⟩=some (.slice (some ⟨b0,o0,none⟩) 1 p.cap)∧w'.cell? ⟨b0,o0,none⟩=some (.int .i64 k.kind)∧w'.cell? ⟨b0,o0+1,none⟩=some (.int .i64 k.n)∧w'.cell? ⟨b0,o0+2,none⟩=some (.slice k.T k.types.length k.tc)∧w'.cell? ⟨b0,o0+3,none⟩=some (.slice k.A k.kids.length k.cap) ∧
   w'.cell? ⟨w.heap.size,0,none⟩=some (.slice x.D x.aA.length x.dc)∧w'.cell? ⟨w.heap.size,1,none⟩=some (.slice x.C x.ag.length x.cc)∧w'.cell? ⟨w.heap.size,2,none⟩=some (.slice x.I x.insts.length x.ic) ∧
   w'.cell? ⟨w.heap.size+1,1,none⟩=some (.int .i64 p.n)∧w'.cell? ⟨b5,0,none⟩=some (encStr b.cls)):=aa (fun w' e=>by
   obtain⟨a0,a1,a2,a3,a4,a5,a6,a7⟩:=fk.o w' (X6.o.trans e);exact⟨a0,a1,a2,a3,a4,a5,a6,a7,WW.o w' e⟩)
  have bU:=HC.o.ge;have jB:=X5.o.size;have j0:b0≠w.heap.size+1+1:=by omega
  have j1:w.heap.size≠w.heap.size+1+1:=by omega
  have j2:w.heap.size+1≠w.heap.size+1+1:=by omega
  have hws:W.heap.size=w.heap.size+3:=bS.o;have j5:b5≠w.heap.size+1+1:=by omega
  clear HC;go_wp2
  go_region_held3 (fun w'=>w'.cell? ⟨w.heap.size+1,3,none⟩=some (.slice (some ⟨b0,o0,none⟩) 1 p.cap)∧w'.cell? ⟨b0,o0,none⟩=some (.int .i64 k.kind)∧w'.cell? ⟨b0,o0+1,none⟩=some (.int .i64 k.n)∧w'.cell? ⟨b0,o0+2,none⟩=some (.slice k.T k.types.length k.tc)∧w'.cell? ⟨b0,o0+3,none⟩=some (.slice k.A k.kids.length k.cap) ∧
   w'.cell? ⟨w.heap.size,0,none⟩=some (.slice x.D x.aA.length x.dc)∧w'.cell? ⟨w.heap.size,1,none⟩=some (.slice x.C x.ag.length x.cc)∧w'.cell? ⟨w.heap.size,2,none⟩=some (.slice x.I x.insts.length x.ic) ∧
   w'.cell? ⟨w.heap.size+1,1,none⟩=some (.int .i64 p.n)∧w'.cell? ⟨b5,0,none⟩=some (encStr b.cls)) (first|with_reducible assumption|(obtain⟨g0,g1,g2,g3,g4,g5,g6,g7,g9,g10⟩:=kS;with_reducible exact⟨cy j2 _ _ _ _ _ _ _ g0,cy j0 _ _ _ _ _ _ _ g1,cy j0 _ _ _ _ _ _ _ g2,cy j0 _ _ _ _ _ _ _ g3,cy j0 _ _ _ _ _ _ _ g4,cy j1 _ _ _ _ _ _ _ g5,cy j1 _ _ _ _ _ _ _ g6,cy j1 _ _ _ _ _ _ _ g7,cy j2 _ _ _ _ _ _ _ g9,cy j5 _ _ _ _ _ _ _ g10⟩)|go_keep) (
   (
   go_at_call 29
   refine Calls.mono (HT.o _ (X6.o.trans (by repeat(first|exact eR _|exact eA (by assumption) _|refine eA ?_ _|refine eM ?_ _ _|refine eD ?_|refine eN ?_ _)))).o ?_;rintro e y ⟨⟨t,rfl,ht⟩,hx⟩;have EA:ahg (Ext wc y):=aa (by refine Ext.trans ?_ hx;exact(by repeat(first|exact eR _|exact eA (by assumption) _|refine eA ?_ _|refine eM ?_ _ _|refine eD ?_|refine eN ?_ _)));have kS:=Dr.o y EA.o;have B5:=aa ((EA.o.heap (ae B4.o)).trans B4.o);obtain⟨a0,a1,a2,a3,a4,a5,Ux,af1,af2,af3,af4,af5⟩:=bn B5.o;have UZ:=ae B5.o))
  have ht:rr wc y given k Q t:=⟨ht.iM,ht.is,ht.away⟩;have Fq:=aa (ry.o (w.heap.size+1+1) (by omega));have ou:=aa (ht.away (w.heap.size+1+1) (by omega) Fq.o.1 Fq.o.2);obtain⟨U,hU⟩:∃U,U=Ks b.cls p.n y.heap.size t:=⟨_,rfl⟩;have HX:ahg (((((((y.setCell ⟨w.heap.size+1+1,0,none⟩ (.int .i64 13)).setCell ⟨w.heap.size+1+1,1,none⟩ (.int .i64 p.n)).setCell ⟨w.heap.size+1+1,2,none⟩ (.string ⟨b.cls.toArray⟩)).setCell ⟨w.heap.size+1+1,3,none⟩ (.slice none 0 0)).setCell ⟨w.heap.size+1+1,4,none⟩ (.slice none 0 0)).setCell ⟨w.heap.size+1+1,5,none⟩ (.slice (some ⟨y.heap.size,0,none⟩) 1 1)).alloc (.cells #[.int .i64 t.kind,.int .i64 t.n,encStr t.name,.slice t.V t.vars.length t.vc,.slice t.T t.types.length t.tc,.slice t.A t.kids.length t.cap] 40)=(cw y (w.heap.size+1+1) U).alloc (.cells #[.int .i64 t.kind,.int .i64 t.n,encStr t.name,.slice t.V t.vars.length t.vc,.slice t.T t.types.length t.tc,.slice t.A t.kids.length t.cap] 40)):=aa (by rw[hU];rfl);have Qe:=fy y (w.heap.size+1+1) U;have XF:=aa (((bg (X0.o.trans (X6.o.trans EA.o)) (by omega:w.heap.size≤w.heap.size+1+1) U).alloc (.cells #[.int .i64 t.kind,.int .i64 t.n,encStr t.name,.slice t.V t.vars.length t.vc,.slice t.T t.types.length t.tc,.slice t.A t.kids.length t.cap] 40)));have HI:ahg (aM ((cw y (w.heap.size+1+1) U).alloc (.cells #[.int .i64 t.kind,.int .i64 t.n,encStr t.name,.slice t.V t.vars.length t.vc,.slice t.T t.types.length t.tc,.slice t.A t.kids.length t.cap] 40)) U):=aa (by
   rw[hU];refine zX (by have:=WV.o;omega) ((ht.iM.grown (aZ _ _ _) (fun c e=>by injection e with e;subst e;exact ou.o)).ext ((eR _).alloc _)) ?_;have:=av.new (cw y (w.heap.size+1+1) U) t;rw[Qe] at this;rw[←hU];exact this)
  have HU:ahg (U.pure=.mk 13 p.n b.cls [] [] [Q]∧∀c,c<w.heap.size→(∀g∈given,ay c g)→aL c p→ay c U):=aa ⟨by rw[hU,Tm.aG];show Tm.Pure.mk 13 p.n b.cls [] [] [t.pure]=_;rw[ht.is],fun c hc h1 h2=>by
   rw[hU];exact sM (by have:=EA.o.size;have:=X6.o.size;omega) (ht.away c (by have:=X6.o.size;have:=EA.o.size;omega) h1 (oM.o c h2))⟩
  have WX:ahg (bl U=.agg #[.int .i64 13,.int .i64 p.n,.string ⟨b.cls.toArray⟩,.slice none 0 0,.slice none 0 0,.slice (some ⟨y.heap.size,0,none⟩) 1 1]):=aa (by rw[hU];rfl);rw[←HX.o] at XF HI;clear hU Qe HX ht;go_wp2;refine bodyPost_ret (v:=bl U) ?_ rfl ⟨⟨U,rfl,?_,HU.o.1,HU.o.2⟩,?_⟩
  ·rw[WX.o];simp[results,Tryz.f29,go_sem,a0,a1,a2,a3,a4,a5,UZ]
  ·exact HI.o.ext (by repeat(first|exact eR _|exact eA (by assumption) _|refine eA ?_ _|refine eM ?_ _ _|refine eD ?_|refine eN ?_ _))
  ·exact XF.o.trans (by repeat(first|exact eR _|exact eA (by assumption) _|refine eA ?_ _|refine eM ?_ _ _|refine eD ?_|refine eN ?_ _))
set_option maxRecDepth 512
set_option maxHeartbeats 200000
theorem qb : (Tryz.prog.info? 40).map (fun i=>(i.zero,i.size,i.bytes))=some (some (.agg #[.int .i64 0,.int .i64 0,.string ⟨#[]⟩,.slice none 0 0,.slice none 0 0,.slice none 0 0]),6,104):=by kernel_rfl
structure ov (w WF wr:World) (base rb:Nat) (given:List Tm) (p:Pf) (Q:List Tm.Pure) (ts:List Tm) (v:Value):Prop where
 own:wr.ownsRow base 40 6 v ts.length (ts.flatMap eT.f)
 iM:∀t∈ts,aM wr t
 FI:∀t∈ts,∀c,v.ownBlock=some c→ay c t
 res:∀t∈ts,ay rb t
 away:∀t∈ts,∀c,c<w.heap.size→(∀g∈given,ay c g)→aL c p→ay c t
 is:ts.map Tm.pure=Q
 ext:Ext WF wr
theorem ov.snoc {w WF wr w5 w6:World}{base rb:Nat}{given:List Tm}{p:Pf}{Q:List Tm.Pure}{ts:List Tm}{v v6:Value}{t:Tm}{q:Tm.Pure}(h:ov w WF wr base rb given p Q ts v) (hb:WF.heap.size≤base) (e:Ext wr w5) (ht:aM w5 t) (hq:t.pure=q) (Sd:∀c,v.ownBlock=some c→ay c t) (Vc:ay rb t)
  (Sg:∀c,c<w.heap.size→(∀g∈given,ay c g)→aL c p→ay c t)
  (hown:w6.ownsRow base 40 6 v6 (ts++[t]).length ((ts++[t]).flatMap eT.f)) (hg:w5.grownBy w6 v.ownBlock) (hat:v6.ownBlock=v.ownBlock∨∀c,v6.ownBlock=some c→w5.heap.size≤c) :
  ov w WF w6 base rb given p (Q++[q]) (ts++[t]) v6:=by
 have all:∀z∈ts++[t],aM w5 z∧(∀c,v.ownBlock=some c→ay c z)∧ay rb z∧∀c,c<w.heap.size→(∀g∈given,ay c g)→aL c p→ay c z:=fun z hz=>by
  rcases List.mem_append.1 hz with hz|hz
  ·exact⟨(h.iM z hz).ext e,h.FI z hz,h.res z hz,h.away z hz⟩
  ·rw[ahx] at hz;subst hz;exact⟨ht,Sd,Vc,Sg⟩
 refine⟨hown,fun z hz=>(all z hz).1.grown hg (all z hz).2.1,fun z hz c hc => ?_,fun z hz=>(all z hz).2.2.1,fun z hz=>(all z hz).2.2.2,by rw[ahz,h.is];simp[hq],?_⟩
 ·rcases hat with h1|h1
  ·exact(all z hz).2.1 c (h1▸hc)
  ·exact bw (all z hz).1 (h1 c hc)
 ·exact(h.ext.trans e).grown hg (fun c hc=>aho hb (h.own.lt c hc).1)
def ow (s:aj):Tm:=.mk 1 0 s none 0 [] none 0 [] none 0 []
theorem yL (w:World){s:aj}(hs:s.length≤9223372036854775807):aM w (ow s):=
 .mk ⟨ahj _,by show 0≤9223372036854775807;omega,ahj _,by show 0≤9223372036854775807;omega,ahj _,by show 0≤9223372036854775807;omega,hs,ak.nil _ _ _,bF.nil _ _,ak.nil _ _ _⟩ (by intro k hk;cases hk)
theorem qd (c:Nat) (s:aj):ay c (ow s):=.mk (fun h=>absurd rfl h) (fun h=>absurd rfl h) (by intro x hx;cases hx) (fun h=>absurd rfl h) (by intro k hk;cases hk)
theorem qf (s:aj):(ow s).pure=.mk 1 0 s [] [] []:=by rw[Tm.aG];rfl
def Sh (T:Option Addr) (tc:Nat) (types:List Ty) (g:Nat) (t:Tm):Tm:=.mk 6 0 [] none 0 [] T tc types (some ⟨g,0,none⟩) 1 [t]
theorem FJ {w:World}{T:Option Addr}{tc:Nat}{types:List Ty}{g:Nat}{t:Tm}(hT:bF w T types) (hl:types.length≤tc) (hm:tc≤9223372036854775807) (ht:aM w t) (hg:av w g t):aM w (Sh T tc types g t):=
 .mk ⟨ahj _,by show 0≤9223372036854775807;omega,hl,hm,ahi _,by show 1≤9223372036854775807;omega,by show 0≤9223372036854775807;omega,ak.nil _ _ _,hT,ak.block eT [t] hg⟩ (fun k hk=>by
  have hk:k∈[t]:=hk;rw[ahx] at hk;subst hk;exact ht)
theorem wE {c:Nat}{T:Option Addr}{tc:Nat}{types:List Ty}{g:Nat}{t:Tm}(hT:jM c T types.length) (jb:∀x∈types,aF c x=true) (hg:g≠c) (ht:ay c t):ay c (Sh T tc types g t):=
 .mk (fun h=>absurd rfl h) hT jb (fun _ a e=>by injection e with e;subst e;exact hg) (fun k hk=>by
  have hk:k∈[t]:=hk;rw[ahx] at hk;subst hk;exact ht)
theorem wF (T:Option Addr) (tc:Nat) (types:List Ty) (g:Nat) (t:Tm):(Sh T tc types g t).pure=.mk 6 0 [] [] (types.map Ty.pure) [t.pure]:=by rw[Tm.aG];rfl
set_option maxRecDepth 10000
set_option maxHeartbeats 8000000
theorem uv (x:dz) (P:Option Addr) (pc:Nat) (preds:List Pd) (L:Option Addr) (lc:Nat) (given:List Tm) (hpl:∀y∈x.insts,y.preds.length≤40000) (p:Pf) (hk:p.kind=3) (ih:∀k∈p.kids,Qd x P pc preds L lc given k):Qd x P pc preds L lc given p:=by
 intro w he hP hL hp hq hlen jd;obtain⟨q,hq⟩:=Option.isSome_iff_exists.1 hq
 rcases dM hq with ⟨h,-⟩|⟨h,-⟩|⟨-,y,hy,nr,jc⟩
 ·omega
 ·omega
 rw[oL hk hy];obtain⟨h0,-,zY,Cm⟩:=mD hy;obtain⟨n,hn⟩:∃n:Nat,p.n=(n:Int):=⟨p.n.toNat,by omega⟩;rw[hn,Int.toNat_natCast] at zY;have Cm:x.insts[n]'zY=y:=by rw[←Cm];congr 1;omega
 obtain⟨W,hW⟩:∃W,W=((w.alloc (.cells #[.slice x.D x.aA.length x.dc,.slice x.C x.ag.length x.cc,.slice x.I x.insts.length x.ic,.slice P preds.length pc,.slice L given.length lc] 80)).alloc (.cells #[.int .i64 p.kind,.int .i64 p.n,.slice p.T p.types.length p.tc,.slice p.A p.kids.length p.cap] 34)).alloc (.cells #[.int .i64 0,.int .i64 0,.string ⟨#[]⟩,.slice none 0 0,.slice none 0 0,.slice none 0 0] 40):=⟨_,rfl⟩;have HW:=aa hW.symm;have X0:ahg (Ext w W):=aa (by rw[hW];exact(((eR _).alloc _).alloc _).alloc _);have B1:ahg (fL W w.heap.size x P pc preds L lc given):=aa (by rw[hW];exact(fL.new w).ext (((eR _).alloc _).alloc _));have B2:ahg (aO W (w.heap.size+1) p):=aa (by rw[hW];exact aO.ext (ah _ _ _ (by simp)) ((eR _).alloc _));have B3:ahg (W.heap[w.heap.size+1+1]?=some (.cells #[.int .i64 0,.int .i64 0,.string ⟨#[]⟩,.slice none 0 0,.slice none 0 0,.slice none 0 0] 40)):=aa (by rw[hW];exact ah _ _ _ (by simp));have bS:ahg (W.heap.size=w.heap.size+3):=aa (by rw[hW];simp);obtain⟨bi,oi,DB,hbi,r0,r1,r2,r3⟩:=(he.insts.ext X0.o).at_ zY;rw[Cm] at r0 r1 r2 r3;have nA:=he.insts.all _ (ahh zY);rw[Cm] at nA;have Cl:=hpl _ (ahh zY);rw[Cm] at Cl;have HN:=aa (fun w'=>N6 y.cls y.aq w' nA.txt nA.ctxt);have Qk:ahg ((gH y.cls y.aq).length≤9223372036854775807):=aa (by have:=nA.txt;have:=nA.ctxt;unfold gH;simp;omega);have hall:=aa hp.all;have FK:=aa hp.hd.types;have Oi:=hp.hd.DR;have FL:=hp.hd.pj;have HT:=aa (fun j (hj:j<p.kids.length) w' (e:Ext W w')=>aa (ih _ (ahh hj) w' (he.ext (X0.o.trans e)) (hP.ext (X0.o.trans e)) (hL.ext (X0.o.trans e)) ((hp.all.kids _ (ahh hj)).ext (X0.o.trans e)) (by obtain⟨b,hb⟩:=jc _ (ahh hj);rw[hb];rfl) hlen (qY.ext jd (X0.o.trans e))));have ry:ahg (∀c,w.heap.size≤c→(∀g∈given,ay c g)∧aL c p):=aa (fun c hc=>⟨fun g hg=>bw (hL.kids g hg) hc,dm hp hc⟩);have oM:ahg (∀c,aL c p→∀k∈p.kids,aL c k):=aa (fun c h=>h.kids);have Xj:p.kids.length≤40000:=by omega
 obtain⟨j0,hj,mM,gS,iv⟩:=info_parts qb;obtain⟨c0,c1,c2,c3⟩:=B2.o.cells;obtain⟨e0,e1,e2,e3,e4⟩:=B1.o.cells;rw[hk] at c0;rw[hn] at c1;rw[DB] at e2;have n1:=B1.o.lt;have n2:=B2.o.lt;have n3:=ae B3.o;have Bk:(0:Int)≤(n:Int):=by omega
 have tV:(n:Int)<(x.insts.length:Int):=by omega
 have qV:=aa (ahk c2 c3);have HV:ahg (cr p=.agg #[.int .i64 3,.int .i64 (n:Int),.slice p.T p.types.length p.tc,.slice p.A p.kids.length p.cap]):=aa (by unfold cr;rw[hk,hn]);have vg:=aa (fun w' (e:Ext W w')=>(B1.o.ext e).cells);have HIA:=aa DB;rw[HV.o];have HW:ahg (((w.alloc (.cells #[.slice x.D x.aA.length x.dc,.slice x.C x.ag.length x.cc,.slice (some ⟨bi,oi,none⟩) x.insts.length x.ic,.slice P preds.length pc,.slice L given.length lc] 80)).alloc (.cells #[.int .i64 3,.int .i64 (n:Int),.slice p.T p.types.length p.tc,.slice p.A p.kids.length p.cap] 34)).alloc (.cells #[.int .i64 0,.int .i64 0,.string ⟨#[]⟩,.slice none 0 0,.slice none 0 0,.slice none 0 0] 40)=W):=aa (by have h:=HW.o;rw[hk,hn,DB] at h;exact h);have Oj:ahg (.agg #[.slice x.D x.aA.length x.dc,.slice x.C x.ag.length x.cc,.slice x.I x.insts.length x.ic,.slice P preds.length pc,.slice L given.length lc]=Value.agg #[.slice x.D x.aA.length x.dc,.slice x.C x.ag.length x.cc,.slice (some ⟨bi,oi,none⟩) x.insts.length x.ic,.slice P preds.length pc,.slice L given.length lc]):=aa (by rw[DB]);rw[Oj.o];rw[Oj.o] at HT;rw[DB] at vg;generalize Ok:kE x.ag x.insts preds (given.map Tm.pure)=EV at *;generalize hN:gH y.cls y.aq=nm at *;generalize hQQ:(p.kids.map EV).foldl nk (if p.types.map Ty.pure=[] then .mk 1 0 nm [] [] [] else .mk 6 0 [] [] (p.types.map Ty.pure) [.mk 1 0 nm [] [] []])=QQ at *;have Vd:=aa hQQ;clear hQQ;unfold cr at HT;clear hW he hP hL hp hq jd hlen ih jc DB HV hk hn h0 nr hy Cm hpl nA HIA Oj;generalize p.A=PA at *;go_enter Tryz.func47,Tryz.ntmps47;go_upto_region 1 with fail;rw[HW.o];clear HW;go_wp2_with fail;refine(HN.o _).mono ?_;rintro e w6 ⟨rfl,hw6⟩;rw[hw6];clear hw6 w6;clear HN e0 e1 e2 e3 e4 c0 c1 c2 c3 r0 r1 r2 r3;go_upto_region 9 with fail;refine bC ?_;intro W8 sH;have X8:ahg (Ext W W8):=aa (by rw[sH];exact((eR _).alloc _).alloc _);have D8:ahg (av W8 (W.heap.size+1) (ow nm)):=aa (by rw[sH];exact ah _ _ _ (by simp));clear sH;replace n1:=(B1.o.ext X8.o).lt;replace n2:=(B2.o.ext X8.o).lt;have c2:=X8.o.cell qV.o.1;have c3:=X8.o.cell qV.o.2
 by_cases hT:p.types=[]
 ·have hT2:¬(p.types.length:Int)>0:=by rw[hT];simp
  have Si:ahg (aM W8 (ow nm)∧(ow nm).pure=(if p.types.map Ty.pure=[] then .mk 1 0 nm [] [] [] else .mk 6 0 [] [] (p.types.map Ty.pure) [.mk 1 0 nm [] [] []])∧∀c,ay c (ow nm)):=aa ⟨yL _ Qk.o,by rw[hT,qf];rfl,fun c=>qd c nm⟩;have Jn:ahg (∀c,c<W8.heap.size→aL c p→ay c (ow nm)):=aa (fun c _ _=>Si.o.2.2 c);obtain⟨F,hF⟩:∃F,F=ow nm:=⟨_,rfl⟩;rw[←hF] at D8 Si Jn;have XF:ahg (Ext W W8):=X8;have ML:ahg (aM W8 F):=aa Si.o.1;have Ol:=aa Si.o.2.1;have hFs:W.heap.size+1<W8.heap.size:=D8.o.lt;clear hF Si hT X8;obtain⟨WF,ig⟩:∃WF,WF=W8:=⟨_,rfl⟩;subst ig;have Fc:W.heap.size+1<WF.heap.size:=D8.o.lt;have FM:ahg (∀c,c<w.heap.size+3→aL c p→ay c F):=aa (fun c hc h=>Jn.o c (by have:=bS.o;have:=XF.o.size;omega) h);have DF:=D8;clear Jn D8 hFs;have hFW:=XF.o.size;have rk:w.heap.size+3≤W.heap.size:=by have:=bS.o;omega
  go_wp2
  go_loopw [9,73] (fun v i wr=>∃(j:Nat) (ts:List Tm),j≤p.kids.length∧i=.int .i64 j∧ahg (ts.length=j)∧ahg (ov w WF wr WF.heap.size (w.heap.size+1+1) given p ((p.kids.take j).map EV) ts v)) (fun _ i _=>p.kids.length - (intOf i).toNat)
  case atStart=>exact⟨0,[],ahj _,rfl,aa rfl,aa ⟨World.ownsRow_nil _ _ _ _,by simp,by simp,by simp,by simp,rfl,eR _⟩⟩
  case round=>
   obtain⟨j,ts,xF,rfl,oH,HK⟩:=hrel;have XR:=aa (XF.o.trans HK.o.ext);have hwr:=HK.o.ext.size
   by_cases hlt:j<p.kids.length
   ·have aS:(j:Int)<(p.kids.length:Int):=by omega
    have q8:(0:Int)≤(j:Int):=by omega
    obtain⟨bq,oq,rfl,Jo,q0,q1,q2,q3⟩:=(hall.o.ext (X0.o.trans XR.o)).at_ hlt;have HC:=aa (fun w' (e:Ext W w')=>(HT.o j hlt w' e).o);have cS:ahg (p.kids.take (j+1)=p.kids.take j++[p.kids[j]'hlt]):=aa (ahl hlt);have FN:=aa (ahh hlt);generalize p.kids[j]'hlt=k at *;obtain⟨m0,m1,m2,m3,m4⟩:=vg.o wr XR.o;have n1:=(B1.o.ext XR.o).lt;go_wp2_with fail;refine(HC.o _ (XR.o.alloc (.cells #[.int .i64 k.kind,.int .i64 k.n,.slice k.T k.types.length k.tc,.slice k.A k.kids.length k.cap] 34))).mono ?_;rintro e w6 ⟨⟨t,rfl,ht⟩,xI⟩;have X6:ahg (Ext wr w6):=aa (((eR wr).alloc (.cells #[.int .i64 k.kind,.int .i64 k.n,.slice k.T k.types.length k.tc,.slice k.A k.kids.length k.cap] 34)).trans xI);have EI:(wr.alloc (.cells #[.int .i64 k.kind,.int .i64 k.n,.slice k.T k.types.length k.tc,.slice k.A k.kids.length k.cap] 34)).heap.size=wr.heap.size+1:=World.size_alloc _ _;have Xk:=X6.o.size;obtain⟨A6,c6,hv,-,-,-,-⟩:=ak.own eT (l:=ts) HK.o.own;subst hv;have Jp:ahg (∀c,(Value.slice A6 ts.length c6).ownBlock=some c→ay c t):=aa (fun c hc=>by
     have:=HK.o.own.lt c hc;have h9:=ry.o c (by omega);exact ht.away c (by omega) h9.1 (oM.o c h9.2 k FN.o))
    have Om:ahg (ay (w.heap.size+1+1) t):=aa (by
     have h9:=ry.o (w.heap.size+1+1) (by omega);exact ht.away _ (by omega) h9.1 (oM.o _ h9.2 k FN.o))
    have Oo:ahg (∀c,c<w.heap.size→(∀g∈given,ay c g)→aL c p→ay c t):=aa (fun c hc h1 h2=>ht.away c (by omega) h1 (oM.o c h2 k FN.o));have Hq:ahg (t.pure=EV k):=aa ht.is;have nt:=aa (ht.iM.ext ((eR w6).alloc (.cells #[.int .i64 t.kind,.int .i64 t.n,encStr t.name,.slice t.V t.vars.length t.vc,.slice t.T t.types.length t.tc,.slice t.A t.kids.length t.cap] 40)));have O6:=aa (bk HK.o.own X6.o);have MM:ahg (Ext wr (w6.alloc (.cells #[.int .i64 t.kind,.int .i64 t.n,encStr t.name,.slice t.V t.vars.length t.vc,.slice t.T t.types.length t.tc,.slice t.A t.kids.length t.cap] 40))):=aa (X6.o.alloc _);clear ht xI EI q0 q1 q2 q3 Jo m0 m1 m2 m3 m4 n1 HC;have Ve:ts.length≤40000:=by have:=oH.o;omega
    go_wp2_with (at_builtin;refine aH _ rfl _ _ 28 rfl WF.heap.size 40 j0 _ 6 104 Tryz.underlying28 hj mM gS iv rfl (by decide) (.slice A6 ts.length c6) ts.length (ts.flatMap eT.f) rfl (O6.o.alloc _) _ 1 1 [.int .i64 t.kind,.int .i64 t.n,encStr t.name,.slice t.V t.vars.length t.vc,.slice t.T t.types.length t.tc,.slice t.A t.kids.length t.cap] rfl ?c2 ?c3 ?c4 ?c5 ?c6 ?_)
    case c2=>exact Row.Ca _ _ _ _ _ _ (ah _ _ _ rfl)
    case c3=>first|exact⟨rfl,rfl,rfl,rfl,rfl,rfl⟩|(intro z hz;simp at hz;rcases hz with rfl|rfl|rfl|rfl|rfl|rfl<;>rfl)
    case c4=>unfold maxLen;omega
    case c5=>omega
    case c6=>simp;omega
    intro v4 w7 bB hg4 fc;have uw:=aa (HK.o.snoc (ahi _) MM.o nt.o Hq.o Jp.o Om.o Oo.o (by rw[ik,ahn];exact bB) hg4 (by
     rcases fc with e|e
     ·exact .inl e
     ·exact .inr (fun c hc=>by rw[e] at hc;injection hc with hc;simp at hc ⊢;omega)))
    have Ql:ahg (ov w WF w7 WF.heap.size (w.heap.size+1+1) given p ((p.kids.take (j+1)).map EV) (ts++[t]) v4):=aa (by rw[cS.o,ahz];exact uw.o);have FO:ahg ((ts++[t]).length=j+1):=aa (by have:=oH.o;simp[this]);clear bB hg4 fc O6 MM nt Hq Jp Om Oo HK uw;go_wp2;go_roundw
    case rel=>exact⟨j+1,ts++[t],hlt,by go_num,FO,Ql⟩
    case measure=>simp[intOf];omega
   ·have bU:¬(j:Int)<(p.kids.length:Int):=by omega
    have ox:ahg (ov w WF wr WF.heap.size (w.heap.size+1+1) given p (p.kids.map EV) ts u9):=aa (by have:=HK.o;rwa [ahm (by omega)] at this);obtain⟨A6,c6,hv,l1,l2,hrow,-⟩:=ak.own eT (l:=ts) ox.o.own;subst hv;have HC:=aa (Fp A6 c6 ts F wr ⟨hrow,ox.o.iM⟩ (ML.o.ext ox.o.ext) (by have:=oH.o;omega));obtain⟨d0,d1,d2,d3,d4,d5⟩:=(DF.o.ext ox.o.ext).cells;have d6:=(DF.o.ext ox.o.ext).lt;unfold bl at HC;clear hrow HK;go_wp2_with fail;refine HC.o.mono ?_;rintro e w9 ⟨⟨u,rfl,Cn,xJ,DC⟩,hx⟩;have X9:=aa (X0.o.trans (XR.o.trans hx));have B9:ahg (w9.heap[w.heap.size+1+1]?=some (.cells #[.int .i64 0,.int .i64 0,.string ⟨#[]⟩,.slice none 0 0,.slice none 0 0,.slice none 0 0] 40)):=aa (((XR.o.trans hx).heap (ae B3.o)).trans B3.o);have MN:=ry.o (w.heap.size+1+1) (by omega);have Dy:=aa (DC (w.heap.size+1+1) (by omega) (FM.o _ (by omega) MN.2) (fun t ht=>ox.o.res t ht));have HE:ahg (rr w (cw w9 (w.heap.size+1+1) u) given p QQ u):=aa ⟨Cn.grown (aZ _ _ _) (fun c e=>by injection e with e;subst e;exact Dy.o),by rw[xJ,←Vd.o,←ox.o.is,←Ol.o,List.foldl_map];rfl,fun c hc h1 h2=>DC c (by omega) (FM.o c (by omega) h2) (fun t ht=>ox.o.away t ht c hc h1 h2)⟩;have XG:=aa (bg X9.o (by omega:w.heap.size≤w.heap.size+1+1) u);obtain⟨z0,z1,z2,z3,z4,z5,iE,iF,iG,iH,um,uo⟩:=bn B9.o;have hz:=ae B9.o;clear Cn xJ DC hx HC d0 d1 d2 d3 d4 d5 d6 Dy MN;go_wp2;refine bodyPost_ret (v:=bl u) ?_ rfl ⟨⟨u,rfl,HE.o⟩,XG.o⟩;simp[results,Tryz.f47,go_sem,z0,z1,z2,z3,z4,z5]
 ·have hT2:0<p.types.length:=by
   cases ht:p.types with
   |nil=>exact absurd ht hT
   |cons a l=>simp
  have hTl:jM (W.heap.size+1) p.T p.types.length:=jM.new FK.o.row (by have:=X0.o.size;omega);obtain⟨F,hF⟩:∃F,F=Sh p.T p.tc p.types W8.heap.size (ow nm):=⟨_,rfl⟩;obtain⟨WF,ig⟩:∃WF,WF=(cw W8 (W.heap.size+1) F).alloc (.cells #[.int .i64 (ow nm).kind,.int .i64 (ow nm).n,encStr (ow nm).name,.slice (ow nm).V (ow nm).vars.length (ow nm).vc,.slice (ow nm).T (ow nm).types.length (ow nm).tc,.slice (ow nm).A (ow nm).kids.length (ow nm).cap] 40):=⟨_,rfl⟩;have wu:=fy W8 (W.heap.size+1) F;have XF:ahg (Ext W WF):=aa (by rw[ig];exact(bg X8.o (by omega) F).alloc _);have DF:ahg (av WF (W.heap.size+1) F):=aa (by rw[ig];exact(gj F D8.o).ext ((eR _).alloc _));have ML:ahg (aM WF F):=aa (by
   rw[hF];refine FJ (FK.o.ext (X0.o.trans XF.o)) Oi FL (yL _ Qk.o) ?_;have:=av.new (cw W8 (W.heap.size+1) F) (ow nm);rw[wu] at this;rw[ig];exact this)
  have Ol:ahg (F.pure=(if p.types.map Ty.pure=[] then .mk 1 0 nm [] [] [] else .mk 6 0 [] [] (p.types.map Ty.pure) [.mk 1 0 nm [] [] []])):=aa (by rw[hF,wF,qf,if_neg (fun h=>hT (List.map_eq_nil_iff.1 h))]);have Jn:ahg (∀c,c<W8.heap.size→aL c p→ay c F):=aa (fun c hc ha=>by rw[hF];exact wE ha.ty ha.iD (by omega) (qd c nm));have Sj:ahg (((((((W8.setCell ⟨W.heap.size+1,0,none⟩ (.int .i64 6)).setCell ⟨W.heap.size+1,1,none⟩ (.int .i64 0)).setCell ⟨W.heap.size+1,2,none⟩ (.string ⟨#[]⟩)).setCell ⟨W.heap.size+1,3,none⟩ (.slice none 0 0)).setCell ⟨W.heap.size+1,4,none⟩ (.slice p.T p.types.length p.tc)).setCell ⟨W.heap.size+1,5,none⟩ (.slice (some ⟨W8.heap.size,0,none⟩) 1 1)).alloc (.cells #[.int .i64 1,.int .i64 0,encStr nm,.slice none 0 0,.slice none 0 0,.slice none 0 0] 40)=WF):=aa (by rw[ig,hF];rfl);have Fc:W8.heap.size≤WF.heap.size:=by rw[ig];simp[wu]
  obtain⟨d0,d1,d2,d3,d4,d5⟩:=D8.o.cells;obtain⟨df0,df1,df2,df3,df4,df5⟩:=D8.o.Ep;have d6:=D8.o.lt;unfold ow at d0 d1 d2 d3 d4 d5;simp only[Tm.kind,Tm.n,Tm.name,Tm.V,Tm.vars,Tm.vc,Tm.T,Tm.types,Tm.tc,Tm.A,Tm.kids,Tm.cap,List.length_nil] at d0 d1 d2 d3 d4 d5;have FM:ahg (∀c,c<w.heap.size+3→aL c p→ay c F):=aa (fun c hc h=>Jn.o c (by have:=bS.o;omega) h);clear hF wu hT hTl Jn;go_upto_region 11 with fail;rw[Sj.o];clear Sj ig d0 d1 d2 d3 d4 d5 df0 df1 df2 df3 df4 df5 d6 n1 n2 c2 c3 D8;have n2:=(B2.o.ext XF.o).lt;have c3:=XF.o.cell qV.o.2;have hFW:=XF.o.size;have rk:w.heap.size+3≤W.heap.size:=by have:=bS.o;omega
  go_wp2
  go_loopw [9,73] (fun v i wr=>∃(j:Nat) (ts:List Tm),j≤p.kids.length∧i=.int .i64 j∧ahg (ts.length=j)∧ahg (ov w WF wr WF.heap.size (w.heap.size+1+1) given p ((p.kids.take j).map EV) ts v)) (fun _ i _=>p.kids.length - (intOf i).toNat)
  case atStart=>exact⟨0,[],ahj _,rfl,aa rfl,aa ⟨World.ownsRow_nil _ _ _ _,by simp,by simp,by simp,by simp,rfl,eR _⟩⟩
  case round=>
   obtain⟨j,ts,xF,rfl,oH,HK⟩:=hrel;have XR:=aa (XF.o.trans HK.o.ext);have hwr:=HK.o.ext.size
   by_cases hlt:j<p.kids.length
   ·have aS:(j:Int)<(p.kids.length:Int):=by omega
    have q8:(0:Int)≤(j:Int):=by omega
    obtain⟨bq,oq,rfl,Jo,q0,q1,q2,q3⟩:=(hall.o.ext (X0.o.trans XR.o)).at_ hlt;have HC:=aa (fun w' (e:Ext W w')=>(HT.o j hlt w' e).o);have cS:ahg (p.kids.take (j+1)=p.kids.take j++[p.kids[j]'hlt]):=aa (ahl hlt);have FN:=aa (ahh hlt);generalize p.kids[j]'hlt=k at *;obtain⟨m0,m1,m2,m3,m4⟩:=vg.o wr XR.o;have n1:=(B1.o.ext XR.o).lt;go_wp2_with fail;refine(HC.o _ (XR.o.alloc (.cells #[.int .i64 k.kind,.int .i64 k.n,.slice k.T k.types.length k.tc,.slice k.A k.kids.length k.cap] 34))).mono ?_;rintro e w6 ⟨⟨t,rfl,ht⟩,xI⟩;have X6:ahg (Ext wr w6):=aa (((eR wr).alloc (.cells #[.int .i64 k.kind,.int .i64 k.n,.slice k.T k.types.length k.tc,.slice k.A k.kids.length k.cap] 34)).trans xI);have EI:(wr.alloc (.cells #[.int .i64 k.kind,.int .i64 k.n,.slice k.T k.types.length k.tc,.slice k.A k.kids.length k.cap] 34)).heap.size=wr.heap.size+1:=World.size_alloc _ _;have Xk:=X6.o.size;obtain⟨A6,c6,hv,-,-,-,-⟩:=ak.own eT (l:=ts) HK.o.own;subst hv;have Jp:ahg (∀c,(Value.slice A6 ts.length c6).ownBlock=some c→ay c t):=aa (fun c hc=>by
     have:=HK.o.own.lt c hc;have h9:=ry.o c (by omega);exact ht.away c (by omega) h9.1 (oM.o c h9.2 k FN.o))
    have Om:ahg (ay (w.heap.size+1+1) t):=aa (by
     have h9:=ry.o (w.heap.size+1+1) (by omega);exact ht.away _ (by omega) h9.1 (oM.o _ h9.2 k FN.o))
    have Oo:ahg (∀c,c<w.heap.size→(∀g∈given,ay c g)→aL c p→ay c t):=aa (fun c hc h1 h2=>ht.away c (by omega) h1 (oM.o c h2 k FN.o));have Hq:ahg (t.pure=EV k):=aa ht.is;have nt:=aa (ht.iM.ext ((eR w6).alloc (.cells #[.int .i64 t.kind,.int .i64 t.n,encStr t.name,.slice t.V t.vars.length t.vc,.slice t.T t.types.length t.tc,.slice t.A t.kids.length t.cap] 40)));have O6:=aa (bk HK.o.own X6.o);have MM:ahg (Ext wr (w6.alloc (.cells #[.int .i64 t.kind,.int .i64 t.n,encStr t.name,.slice t.V t.vars.length t.vc,.slice t.T t.types.length t.tc,.slice t.A t.kids.length t.cap] 40))):=aa (X6.o.alloc _);clear ht xI EI q0 q1 q2 q3 Jo m0 m1 m2 m3 m4 n1 HC;have Ve:ts.length≤40000:=by have:=oH.o;omega
    go_wp2_with (at_builtin;refine aH _ rfl _ _ 28 rfl WF.heap.size 40 j0 _ 6 104 Tryz.underlying28 hj mM gS iv rfl (by decide) (.slice A6 ts.length c6) ts.length (ts.flatMap eT.f) rfl (O6.o.alloc _) _ 1 1 [.int .i64 t.kind,.int .i64 t.n,encStr t.name,.slice t.V t.vars.length t.vc,.slice t.T t.types.length t.tc,.slice t.A t.kids.length t.cap] rfl ?c2 ?c3 ?c4 ?c5 ?c6 ?_)
    case c2=>exact Row.Ca _ _ _ _ _ _ (ah _ _ _ rfl)
    case c3=>first|exact⟨rfl,rfl,rfl,rfl,rfl,rfl⟩|(intro z hz;simp at hz;rcases hz with rfl|rfl|rfl|rfl|rfl|rfl<;>rfl)
    case c4=>unfold maxLen;omega
    case c5=>omega
    case c6=>simp;omega
    intro v4 w7 bB hg4 fc;have uw:=aa (HK.o.snoc (ahi _) MM.o nt.o Hq.o Jp.o Om.o Oo.o (by rw[ik,ahn];exact bB) hg4 (by
     rcases fc with e|e
     ·exact .inl e
     ·exact .inr (fun c hc=>by rw[e] at hc;injection hc with hc;simp at hc ⊢;omega)))
    have Ql:ahg (ov w WF w7 WF.heap.size (w.heap.size+1+1) given p ((p.kids.take (j+1)).map EV) (ts++[t]) v4):=aa (by rw[cS.o,ahz];exact uw.o);have FO:ahg ((ts++[t]).length=j+1):=aa (by have:=oH.o;simp[this]);clear bB hg4 fc O6 MM nt Hq Jp Om Oo HK uw;go_wp2;go_roundw
    case rel=>exact⟨j+1,ts++[t],hlt,by go_num,FO,Ql⟩
    case measure=>simp[intOf];omega
   ·have bU:¬(j:Int)<(p.kids.length:Int):=by omega
    have ox:ahg (ov w WF wr WF.heap.size (w.heap.size+1+1) given p (p.kids.map EV) ts u9):=aa (by have:=HK.o;rwa [ahm (by omega)] at this);obtain⟨A6,c6,hv,l1,l2,hrow,-⟩:=ak.own eT (l:=ts) ox.o.own;subst hv;have HC:=aa (Fp A6 c6 ts F wr ⟨hrow,ox.o.iM⟩ (ML.o.ext ox.o.ext) (by have:=oH.o;omega));obtain⟨d0,d1,d2,d3,d4,d5⟩:=(DF.o.ext ox.o.ext).cells;have d6:=(DF.o.ext ox.o.ext).lt;unfold bl at HC;clear hrow HK;go_wp2_with fail;refine HC.o.mono ?_;rintro e w9 ⟨⟨u,rfl,Cn,xJ,DC⟩,hx⟩;have X9:=aa (X0.o.trans (XR.o.trans hx));have B9:ahg (w9.heap[w.heap.size+1+1]?=some (.cells #[.int .i64 0,.int .i64 0,.string ⟨#[]⟩,.slice none 0 0,.slice none 0 0,.slice none 0 0] 40)):=aa (((XR.o.trans hx).heap (ae B3.o)).trans B3.o);have MN:=ry.o (w.heap.size+1+1) (by omega);have Dy:=aa (DC (w.heap.size+1+1) (by omega) (FM.o _ (by omega) MN.2) (fun t ht=>ox.o.res t ht));have HE:ahg (rr w (cw w9 (w.heap.size+1+1) u) given p QQ u):=aa ⟨Cn.grown (aZ _ _ _) (fun c e=>by injection e with e;subst e;exact Dy.o),by rw[xJ,←Vd.o,←ox.o.is,←Ol.o,List.foldl_map];rfl,fun c hc h1 h2=>DC c (by omega) (FM.o c (by omega) h2) (fun t ht=>ox.o.away t ht c hc h1 h2)⟩;have XG:=aa (bg X9.o (by omega:w.heap.size≤w.heap.size+1+1) u);obtain⟨z0,z1,z2,z3,z4,z5,iE,iF,iG,iH,um,uo⟩:=bn B9.o;have hz:=ae B9.o;clear Cn xJ DC hx HC d0 d1 d2 d3 d4 d5 d6 Dy MN;go_wp2;refine bodyPost_ret (v:=bl u) ?_ rfl ⟨⟨u,rfl,HE.o⟩,XG.o⟩;simp[results,Tryz.f47,go_sem,z0,z1,z2,z3,z4,z5]
set_option maxRecDepth 512
set_option maxHeartbeats 200000
theorem KC (x:dz) (P:Option Addr) (pc:Nat) (preds:List Pd) (L:Option Addr) (lc:Nat) (given:List Tm) (hpl:∀y∈x.insts,y.preds.length≤40000) (p:Pf):Qd x P pc preds L lc given p:=by
 induction p using Pf.ind with
 |h p ih=>
 by_cases h1:p.kind=1
 ·exact ru x P pc preds L lc given p h1
 ·by_cases h2:p.kind=2
  ·exact rv x P pc preds L lc given p h2 ih
  ·by_cases h3:p.kind=3
   ·exact uv x P pc preds L lc given hpl p h3 ih
   ·intro w he hP hL hp hq hlen jd;obtain⟨q,hq⟩:=Option.isSome_iff_exists.1 hq
    rcases dM hq with ⟨h,-⟩|⟨h,-⟩|⟨h,-⟩
    ·exact absurd h h1
    ·exact absurd h h2
    ·exact absurd h h3
structure Sc where
 n:Int
 A:Option Addr
 cap:Nat
 preds:List Pd
 ty:Ty
section
variable {w w':World}{b:Nat}{s:Sc}
end
end Go.Proofs.YtigafbmabjglfaaGreatDoor
