import Derived.Test.YtigafbmabjglfaaGreatDoorJA18
import Derived.Deep.LoopGhost
namespace Go.Proofs.YtigafbmabjglfaaGreatDoor
open Go.RowKit Go.Shelf
structure ft (w:World) (A:Option Addr) (s:List Pr):Prop where
 row:ak bQ w A s
 ty:∀p∈s,aH w p.ty
section
variable {w w':World}{A:Option Addr}{s:List Pr}
theorem ft.ext (h:ft w A s) (e:Ext w w'):ft w' A s:=⟨ak.ext bQ h.row e,fun p hp=>(h.ty p hp).ext e⟩
theorem oB (h:ak bQ w A s){i:Nat}(hi:i<s.length) :
  ∃b o,A=some ⟨b,o,none⟩∧b<w.heap.size∧w.cell? ⟨b,o+i*4,none⟩=some (.int .i64 (s[i]'hi).v)∧w.cell? ⟨b,o+i*4+1,none⟩=some (.string ⟨(s[i]'hi).ty.aq.toArray⟩) ∧
   w.cell? ⟨b,o+i*4+2,none⟩=some (.int .i64 (s[i]'hi).ty.var)∧w.cell? ⟨b,o+i*4+3,none⟩=some (.slice (s[i]'hi).ty.A (s[i]'hi).ty.args.length (s[i]'hi).ty.cap):=by
 obtain⟨b,o,e,hb,hc⟩:=ak.at_ bQ h hi;refine⟨b,o,e,hb,?_,?_,?_,?_⟩
 ·have:=hc 0 (by decide);simpa [bQ,Pr.cells] using this
 ·have:=hc 1 (by decide);simpa [bQ,Pr.cells] using this
 ·have:=hc 2 (by decide);simpa [bQ,Pr.cells] using this
 ·have:=hc 3 (by decide);simpa [bQ,Pr.cells] using this
end
@[go_sem] def YQ (p:Pr):Value:=.agg #[.int .i64 p.v,encStr p.ty.aq,.int .i64 p.ty.var,.slice p.ty.A p.ty.args.length p.ty.cap]
structure iN (w:World) (p:Nat) (A:Option Addr) (cap:Nat) (s:List Pr):Prop where
 blk:w.heap[p]?=some (.cells #[.slice A s.length cap] 192 (0,0))
 le:s.length≤cap
 max:cap≤9223372036854775807
 Oa:ft w A s
 few:s.length≤100000
 iT:gg s
theorem iN.ext {w w':World}{p:Nat}{A:Option Addr}{cap:Nat}{s:List Pr}(h:iN w p A cap s) (e:Ext w w'):iN w' p A cap s:=⟨(e.heap (ae h.blk)).trans h.blk,h.le,h.max,h.Oa.ext e,h.few,h.iT⟩
theorem iN.cell {w:World}{p:Nat}{A:Option Addr}{cap:Nat}{s:List Pr}(h:iN w p A cap s):w.cell? ⟨p,0,none⟩=some (.slice A s.length cap):=by simp[World.cell?,h.blk]
def nC (a x:Int):Int:=if a<x then -1 else if x<a then 1 else 0
set_option maxRecDepth 10000
set_option maxHeartbeats 8000000
theorem LX (p:Pr) (x:Int) (w:World):Calls Tryz.prog 208 #[YQ p,.int .i64 x] w fun e w'=>e=.returned (.int .i64 (nC p.v x))∧Ext w w':=by
 have X0:aiE (Ext w (w.alloc (.cells #[.int .i64 p.v,encStr p.ty.aq,.int .i64 p.ty.var,.slice p.ty.A p.ty.args.length p.ty.cap] 194))):=aa ((eR w).alloc _);obtain⟨R,hR⟩:∃R,R=nC p.v x:=⟨_,rfl⟩;rw[←hR];have HR:=aa hR;clear hR;unfold YQ
 by_cases h1:p.v<x
 ·have hr:R = -1:=by rw[HR.o];unfold nC;rw[if_pos h1]
  clear HR;subst hr;go_enter Tryz.func208,Tryz.ntmps208;go_wp2;go_ret;exact⟨rfl,X0.o⟩
 by_cases h2:x<p.v
 ·have hr:R=1:=by rw[HR.o];unfold nC;rw[if_neg h1,if_pos h2]
  clear HR;subst hr;go_enter Tryz.func208,Tryz.ntmps208;go_wp2;go_ret;exact⟨rfl,X0.o⟩
 ·have hr:R=0:=by rw[HR.o];unfold nC;rw[if_neg h1,if_neg h2]
  clear HR;subst hr;go_enter Tryz.func208,Tryz.ntmps208;go_wp2;go_ret;exact⟨rfl,X0.o⟩
theorem Tp (A:Option Addr) (cap:Nat) (s:List Pr) (x:Int) (w:World) (h:ak bQ w A s) (hr:gg s) (hl:s.length≤100000) :
  Calls Tryz.prog 207 #[.slice A s.length cap,.int .i64 x,.func (.func 208) #[] #[]] w fun e w'=>(∃i:Nat,e=.returned (.tuple #[.int .i64 i,.bool (dZ s x i)])∧vA s x i)∧Ext w w':=by
 have HL:=aa h;have HR:=aa hr;have HF:=aa (fun(p:Pr) w'=>aa (LX p x w'));unfold YQ at HF;clear h hr;go_enter Tryz.func207,Tryz.ntmps207;go_wp2
 go_loopg [9,10] s.length (fun kx s9 PN wr=>∃lo hi:Nat,s9=.int .i64 lo∧PN=.int .i64 hi∧lo≤hi∧hi≤s.length∧hi - lo≤kx∧aiE (Ext w wr)∧aiE ((∀t (ht:t<s.length),t<lo→(s[t]'ht).v<x)∧(∀t (ht:t<s.length),hi≤t→x≤(s[t]'ht).v)))
 case atStart=>exact⟨0,s.length,rfl,rfl,aiH _,aiG _,by omega,aa (eR _),aa ⟨fun t _ ht=>absurd ht (Nat.not_lt_zero _),fun t h1 h2=>by omega⟩⟩
 case round=>
  obtain⟨lo,hi,rfl,rfl,hlh,jV,hg,HX,I⟩:=hrel
  by_cases hlt:lo<hi
  ·have iu:(lo+hi) / 2<s.length:=by omega
   obtain⟨b,o,rfl,hb,q0,q1,q2,q3⟩:=oB (HL.o.ext (C:=bQ) HX.o) iu;have HC:=aa (HF.o (s[(lo+hi) / 2]'iu) wr);have HM:aiE (∃p,p=s[(lo+hi) / 2]'iu):=aa ⟨_,rfl⟩;have Pl:=aa (fun t (ht:t<s.length) (h:t≤(lo+hi) / 2)=>(by
    rcases Nat.lt_or_ge t ((lo+hi) / 2) with h1|h1
    ·exact Int.le_of_lt (iK HR.o h1 iu)
    ·obtain rfl:t=(lo+hi) / 2:=by omega
     exact Int.le_refl _:(s[t]'ht).v≤(s[(lo+hi) / 2]'iu).v))
   have YR:=aa (fun t (ht:t<s.length) (h:(lo+hi) / 2≤t)=>(by
    rcases Nat.lt_or_ge ((lo+hi) / 2) t with h1|h1
    ·exact Int.le_of_lt (iK HR.o h1 ht)
    ·obtain rfl:t=(lo+hi) / 2:=by omega
     exact Int.le_refl _:(s[(lo+hi) / 2]'iu).v≤(s[t]'ht).v))
   generalize s[(lo+hi) / 2]'iu=p at *
   by_cases GR:p.v<x
   ·have hc:nC p.v x = -1:=by unfold nC;rw[if_pos GR]
    rw[hc] at HC;have I2:=aa (aiI (fun t (ht:t<s.length) (h:t<(lo+hi) / 2+1)=>(Int.lt_of_le_of_lt (Pl.o t ht (by omega)) GR:(s[t]'ht).v<x)) I.o.2);clear hc GR Pl YR HM;go_wp2_with fail;refine HC.o.o.mono ?_;rintro e w3 ⟨rfl,hx⟩;have X3:=aa (HX.o.trans hx);clear hx;go_wp2
    go_roundg (hi - ((lo+hi) / 2+1))
    case measure=>omega
    case rel=>exact⟨(lo+hi) / 2+1,hi,by rw[show((lo:Int)+(hi:Int)) / 2+1=(((lo+hi) / 2+1:Nat):Int) by omega],rfl,by omega,jV,aiG _,X3,I2⟩
   ·have hc:¬nC p.v x<0:=by unfold nC;rw[if_neg GR];split<;>omega
    have I2:=aa (aiI I.o.1 (fun t (ht:t<s.length) (h:(lo+hi) / 2≤t)=>(Int.le_trans (Int.not_lt.1 GR) (YR.o t ht h):x≤(s[t]'ht).v)));clear GR Pl YR HM;generalize nC p.v x=c at *;go_wp2_with fail;refine HC.o.o.mono ?_;rintro e w3 ⟨rfl,hx⟩;have X3:=aa (HX.o.trans hx);clear hx;go_wp2
    go_roundg ((lo+hi) / 2 - lo)
    case measure=>omega
    case rel=>exact⟨lo,(lo+hi) / 2,rfl,by rw[show((lo:Int)+(hi:Int)) / 2=(((lo+hi) / 2:Nat):Int) by omega],by omega,by omega,aiG _,X3,I2⟩
  ·obtain rfl:hi=lo:=by omega
   have zT:aiE (vA s x hi):=aa ⟨jV,I.o.1,I.o.2⟩;clear I
   by_cases hn:hi<s.length
   ·obtain⟨b,o,rfl,hb,q0,q1,q2,q3⟩:=oB (HL.o.ext (C:=bQ) HX.o) hn;have HC:=aa (HF.o (s[hi]'hn) wr);have HH:aiE (dZ s x hi=((s[hi]'hn).v == x)):=aa (km hn);have bS:=zT.o.hi hi hn (aiG _);generalize s[hi]'hn=p at *;have GS:(hi:Int)<(s.length:Int):=by omega
    by_cases GR:p.v=x
    ·have hc:nC p.v x=0:=by unfold nC;rw[if_neg (by omega),if_neg (by omega)]
     have HB:=aa (show dZ s x hi=true by rw[HH.o];simpa using GR);rw[hc] at HC;clear hc GR HH bS;go_wp2_with fail;refine HC.o.o.mono ?_;rintro e w3 ⟨rfl,hx⟩;go_wp2;go_ret2;exact⟨⟨hi,by rw[HB.o];rfl,zT.o⟩,HX.o.trans hx⟩
    ·have hc:nC p.v x=1:=by unfold nC;rw[if_neg (by omega),if_pos (by omega)]
     have HB:=aa (show dZ s x hi=false by rw[HH.o];simpa using GR);rw[hc] at HC;clear hc GR HH bS;go_wp2_with fail;refine HC.o.o.mono ?_;rintro e w3 ⟨rfl,hx⟩;go_wp2;go_ret2;exact⟨⟨hi,by rw[HB.o];rfl,zT.o⟩,HX.o.trans hx⟩
   ·have GS:¬(hi:Int)<(s.length:Int):=by omega
    have hB:=tQ (s:=s) (v:=x) hn;have HB:=aa hB;clear hB;go_wp2;go_ret2;exact⟨⟨hi,by rw[HB.o];rfl,zT.o⟩,HX.o⟩
theorem GU (p:Nat) (A:Option Addr) (cap:Nat) (s:List Pr) (x:Int) (w:World) (h:iN w p A cap s) :
  Calls Tryz.prog 175 #[.pointer (some ⟨p,0,none⟩),.int .i64 x] w fun e w'=>(∃i:Nat,e=.returned (.tuple #[.int .i64 i,.bool (dZ s x i)])∧vA s x i)∧Ext w w':=by
 have HB:=aa (Tp A cap s x w h.Oa.row h.iT h.few);have c0:=h.cell;have hb:=ae h.blk;clear h;go_enter Tryz.func175,Tryz.ntmps175;go_wp2_with fail;refine HB.o.mono ?_;rintro e w2 ⟨⟨i,rfl,hi⟩,hx⟩;have Hi:=aa hi;clear hi;go_wp2;go_ret2;exact⟨⟨i,rfl,Hi.o⟩,hx⟩
theorem Ob (p:Nat) (A:Option Addr) (cap:Nat) (s:List Pr) (x:Int) (w:World) (h:iN w p A cap s) :
  Calls Tryz.prog 178 #[.pointer (some ⟨p,0,none⟩),.int .i64 x] w fun e w'=>e=.returned (.tuple #[bl ((putAt (bF s) (bG s) x).getD Ty.zero),.bool (putAt (bF s) (bG s) x).isSome])∧Ext w w':=by
 obtain⟨W,hW⟩:∃W,W=w.alloc (.cells #[.string ⟨#[]⟩,.int .i64 0,.slice none 0 0] 53):=⟨_,rfl⟩;have HW:=aa hW.symm;have X0:aiE (Ext w W):=aa (by rw[hW];exact(eR _).alloc _);have B1:aiE (W.heap[w.heap.size]?=some (.cells #[.string ⟨#[]⟩,.int .i64 0,.slice none 0 0] 53 (0,0))):=aa (by rw[hW];exact ah _ _ _ rfl);have HS:=aa (h.ext X0.o);have HF:=aa (GU p A cap s x W HS.o);have HP:=aa (fun i (hi:vA s x i)=>qF h.iT hi);clear hW h;generalize hR:putAt (bF s) (bG s) x=R at *;have HR:=aa hR;clear hR;unfold bl;go_enter Tryz.func178,Tryz.ntmps178;go_upto_region 1 with fail;rw[HW.o];clear HW;go_wp2_with fail;refine HF.o.mono ?_;rintro e w2 ⟨⟨i,rfl,hi⟩,hx2⟩;have X2:=aa hx2;have Hp:=aa (HP.o i hi);have Ts:=hi.le;clear hx2 HF HP hi;have B2:=aa ((X2.o.heap (ae B1.o)).trans B1.o);have f0:=ai B2.o 0;have f1:=ai B2.o 1;have f2:=ai B2.o 2;have k0:=ag B2.o 0;have k1:=ag B2.o 1;have k2:=ag B2.o 2;simp only[aiN,aiO,aiP] at k0 k1 k2;cases hh:dZ s x i
 ·have YS:R=none:=by rw[Hp.o,hh];rfl
  clear Hp hh HR;subst YS;go_wp2;refine bodyPost_ret (v:=.tuple #[.agg #[.string ⟨#[]⟩,.int .i64 0,.slice none 0 0],.bool false]) ?_ rfl ⟨rfl,?_⟩
  ·simp[results,Tryz.f178,go_sem,k0,k1,k2]
  ·exact(((X0.o.trans X2.o).setCell (by simp) _).setCell (by simp) _).setCell (by simp) _
 ·obtain⟨hlt,-⟩:=jD hh;have YS:R=some (s[i]'hlt).ty:=by rw[Hp.o,hh,aiU hlt];rfl
  clear HR Hp hh;have c0:=(HS.o.ext X2.o).cell;have hb:=ae (HS.o.ext X2.o).blk;obtain⟨b,o,rfl,xc,q0,q1,q2,q3⟩:=oB (HS.o.ext X2.o).Oa.row hlt;have KP:(0:Int)≤(i:Int):=by omega
  have Gh:(i:Int)<(s.length:Int):=by omega
  generalize s[i]'hlt=u at *;subst YS;go_wp2;refine bodyPost_ret (v:=.tuple #[.agg #[encStr u.ty.aq,.int .i64 u.ty.var,.slice u.ty.A u.ty.args.length u.ty.cap],.bool true]) ?_ rfl ⟨rfl,?_⟩
  ·simp[results,Tryz.f178,go_sem,k0,k1,k2]
  ·exact(((X0.o.trans X2.o).setCell (by simp) _).setCell (by simp) _).setCell (by simp) _
set_option maxRecDepth 512
set_option maxHeartbeats 200000
section
variable {P : Program}{md:Region.Mode}{ops:Array Oper}{Q:Exit→Act→World→Prop}{S:World→Prop}{last:Nat}
def fQ (P:Program) (md:Region.Mode) (ops:Array Oper) (Q:Exit→Act→World→Prop) (S:World→Prop) (last:Nat):Nat→Array Bool→Act→World→Prop
 |0,listed,a,w=>Region.ready md ops listed=[]∧Q .normal a w
 |fuel+1,listed,a,w=>
  (Region.ready md ops listed=[]→Q .normal a w) ∧
  ∀i∈Region.ready md ops listed,wpOp P ops Q i (fun a' w'=>(i≠last→S w')∧fQ P md ops Q S last fuel (listed.setIfInBounds i true) a' w') a w
theorem qP : ∀(fuel:Nat) (listed:Array Bool) (a:Act) (w:World),fQ P md ops Q S last fuel listed a w→wpAny P md ops Q fuel listed a w
 |0,_,_,_,h=>h
 |fuel+1,_,_,_,h=>⟨h.1,fun i hi=>wpOp_mono (fun _ _ h'=>qP fuel _ _ _ h'.2) (h.2 i hi)⟩
def ku (md:Region.Mode) (ops:Array Oper) (last i:Nat):Bool:=match ops[last]? with|some o=>o.after.any fun e=>Region.binds md e&&e.on == i|none=>true
theorem sL {i:Nat}{o:Oper}(h:ku md ops last i=true) (ho:ops[last]?=some o):∃e∈o.after,Region.binds md e=true∧e.on=i:=by
 unfold ku at h;rw[ho] at h;obtain⟨k,hk,h2⟩:=Array.any_eq_true.1 h;simp only[aiT,beq_iff_eq] at h2;exact⟨_,Array.getElem_mem hk,h2⟩
theorem Dw {i:Nat}{oi:Oper}{v:Value}(hi:ops[i]?=some oi) (Tt:∀(j:Nat) (o:Oper) cs b,ops[j]?=some o→o.op ≠ .select cs b)
  (hQ:∀c a w,Q (.panic c) (a.put oi.dst v) w→Q (.panic c) a w) (hl:ku md ops last i=true) :
  ∀(fuel:Nat) (listed:Array Bool) (a:Act) (w:World),
   (∀j oj,ops[j]?=some oj→j≠i→listed.getD j true=false→(∀e∈oj.after,Region.binds md e=true→e.on≠i)→oi.apart ops oj=true) →
   i∈Region.ready md ops listed→YieldsIf P ops S oi v a→S w →
   fQ P md ops Q S last fuel (listed.setIfInBounds i true) (a.put oi.dst v) w→fQ P md ops Q S last (fuel+1) listed a w:=by
 intro fuel
 induction fuel with
 |zero=>
  intro listed a w _ hr hy hS H;refine⟨fun h=>(by rw[h] at hr;cases hr),fun j hj => ?_⟩
  by_cases Oc:j=i
  ·subst Oc;exact hy.wpOp hi hS ⟨fun _=>hS,H⟩
  ·have:=ready_mono hj Oc;rw[H.1] at this;cases this
 |succ fuel ih=>
  intro listed a w iI hr hy hS H;refine⟨fun h=>(by rw[h] at hr;cases hr),fun j hj => ?_⟩
  by_cases Oc:j=i
  ·subst Oc;exact hy.wpOp hi hS ⟨fun _=>hS,H⟩
  ·have h1:=H.2 j (ready_mono hj Oc);obtain⟨Tu,oj,WJ,hall⟩:=mem_ready.1 hj;have Tv:∀e∈oj.after,Region.binds md e=true→e.on≠i:=fun e he hb heq=>by
    have h1:=hall e he hb;have h0:=(mem_ready.1 hr).1;rw[heq] at h1
    rcases Nat.lt_or_ge i listed.size with h' |h'
    ·simp[h'] at h0 h1;rw[h0] at h1;cases h1
    ·simp[Array.getElem?_eq_none h'] at h1
   have zU:j≠last:=fun e=>by
    subst e;obtain⟨e,he,hb,ho⟩:=sL hl WJ;exact Tv e he hb ho
   have h2:=wpOp_putIf WJ (iI j oj WJ Oc Tu Tv) (fun cs b=>Tt i oi cs b hi) (fun cs b=>Tt j oj cs b WJ) hQ hy h1;have PO:∀k ok,ops[k]?=some ok→k≠i→(listed.setIfInBounds j true).getD k true=false →
     (∀e∈ok.after,Region.binds md e=true→e.on≠i)→oi.apart ops ok=true:=fun k ok hk YT Sa hno=>by
    refine iI k ok hk YT ?_ hno
    by_cases hjk:j=k
    ·subst hjk;exact Tu
    ·rw[getD_set_ne true hjk] at Sa;exact Sa
   refine wpOp_mono (fun a' w' h3=>⟨h3.2.1,ih (listed.setIfInBounds j true) a' w' PO (ready_mono hr (Ne.symm Oc)) h3.1 (h3.2.1 zU) ?_⟩) h2;rw[Array.setIfInBounds_comm _ _ Oc];exact h3.2.2
theorem GV {i:Nat}{oi:Oper}{v:Value}{fuel:Nat}{listed:Array Bool}{a:Act}{w:World}(hi:ops[i]?=some oi)
  (hs:Region.noSelect ops=true) (hf:Region.free md ops listed i=true) (hr:(Region.ready md ops listed).contains i=true) (hl:ku md ops last i=true)
  (hQ:∀c a w,Q (.panic c) (a.put oi.dst v) w→Q (.panic c) a w) (hy:YieldsIf P ops S oi v a) (hS:S w)
  (h:fQ P md ops Q S last fuel (listed.setIfInBounds i true) (a.put oi.dst v) w):fQ P md ops Q S last (fuel+1) listed a w:=
 Dw hi (Region.noSelect_spec hs) hQ hl fuel listed a w (Region.free_spec hi hf) (by simpa using hr) hy hS h
theorem GW {i:Nat}{o:Oper}{rest:List Oper}(h:ops.toList.drop i=o :: rest):ops[i]?=some o:=by
 have h1:=congrArg (fun l=>l[0]?) h;simpa using h1
theorem bP {i:Nat}{oi:Oper}{rest:List Oper}{v:Value}{fuel:Nat}{listed:Array Bool}{a:Act}{w:World}(hi:ops.toList.drop i=oi :: rest)
  (hs:Region.noSelect ops=true) (hf:Region.free md ops listed i=true) (hr:(Region.ready md ops listed).contains i=true) (hl:ku md ops last i=true)
  (hQ:∀c a w,Q (.panic c) (a.put oi.dst v) w→Q (.panic c) a w) (hy:YieldsIf P ops S oi v a) (hS:S w)
  (h:fQ P md ops Q S last fuel (listed.setIfInBounds i true) (a.put oi.dst v) w):fQ P md ops Q S last (fuel+1) listed a w:=
 GV (GW hi) hs hf hr hl hQ hy hS h
theorem cg {i:Nat}{o:Oper}{fuel:Nat}{listed:Array Bool}{a:Act}{w:World}(hr:Region.ready md ops listed=[i]) (ho:ops[i]?=some o)
  (h:∀K':Act→World→Prop,Shut (∀a w,(i≠last→S w)→fQ P md ops Q S last fuel (listed.setIfInBounds i true) a w→K' a w)→if Region.wanted o (yielded ops a.tmps)=true then Oper.wp P o a w K' Q else K' (a.put o.dst undef) w) :
  fQ P md ops Q S last (fuel+1) listed a w:=by
 refine⟨fun h0=>(by rw[hr] at h0;cases h0),fun j hj => ?_⟩;rw[hr] at hj;have:j=i:=by simpa using hj
 subst this;exact wpOp_step ho (fun K' hK=>h K' (fun a w hS hW=>hK a w ⟨hS,hW⟩))
theorem qQ {listed:Array Bool}{a:Act}{w:World}(hr:Region.ready md ops listed=[]) (h:Q .normal a w):∀fuel,fQ P md ops Q S last fuel listed a w
 |0=>⟨hr,h⟩
 |_+1=>⟨fun _=>h,by rw[hr];simp⟩
theorem Dx {id:Nat}{a:Act}{w:World}(last:Nat) (S:World→Prop) (hm:P.follows .mixedOrders=true)
  (h:fQ P .any ops Q S last ops.size (Array.replicate ops.size false) a w.drew):(Code.region id ops true).wp P Q a w:=
 wp_region_any hm (qP _ _ _ _ h)
theorem mq {id:Nat}{a:Act}{w:World}(last n:Nat) (bs:Array Bool) (S:World→Prop) (hm:P.follows .mixedOrders=true) (hn:ops.size=n) (hb:Array.replicate n false=bs)
  (h:fQ P .any ops Q S last n bs a w.drew):(Code.region id ops true).wp P Q a w:=
 Dx last S hm (by rw[hn,hb];exact h)
end
structure fh (w:World) (B p:Nat) (v:Value) (s:List Pr):Prop where
 blk:w.heap[p]?=some (.cells #[v] 192 (0,0))
 hB:B≤p
 own:w.ownsRow B 194 4 v s.length (s.flatMap bQ.f)
 ne:v.ownBlock≠some p
 ja:∀x∈s,aH w x.ty∧aC p x.ty=true∧∀c,v.ownBlock=some c→aC c x.ty=true
 few:s.length≤100000
 iT:gg s
structure BL (p:Nat) (w:World) (v:Value) (w':World) (v':Value):Prop where
 os:w'.os=w.os
 tape:w'.tape=w.tape
 output:w'.output=w.output
 size:w.heap.size≤w'.heap.size
 block:∀j,j<w.heap.size→j≠p→v.ownBlock≠some j→w'.heap[j]?=w.heap[j]?
 own:v'.ownBlock=v.ownBlock∨∀k,v'.ownBlock=some k→w.heap.size≤k
section
variable {a b c w w':World}{u v x:Value}{B p:Nat}{s:List Pr}
theorem BL.dQ (p:Nat) (e:Ext a b) (u:Value):BL p a u b u:=by
 have h:=e.below;exact⟨h.os,h.tape,h.output,e.size,fun j hj _ _=>e.heap hj,.inl rfl⟩
theorem BL.Tw (p:Nat) (h:Ap a u b v):BL p a u b v:=⟨h.grown.os,h.grown.tape,h.grown.output,h.grown.size,fun j hj _ hn=>h.grown.block j hj (fun e=>hn e.symm),h.own⟩
theorem BL.trans (h:BL p a u b v) (k:BL p b v c x):BL p a u c x:=by
 refine⟨k.os.trans h.os,k.tape.trans h.tape,k.output.trans h.output,aiM h.size k.size,fun j hj hp hn => ?_,?_⟩
 ·refine(k.block j (Nat.lt_of_lt_of_le hj h.size) hp (fun e => ?_)).trans (h.block j hj hp hn)
  rcases h.own with h2|h2
  ·rw[h2] at e;exact hn e
  ·have:=h2 j e;omega
 ·rcases k.own with h2|h2
  ·rw[h2];exact h.own
  ·exact .inr (fun j hj=>aiM h.size (h2 j hj))
theorem BL.below (h:BL p a u b v) (hB:B≤a.heap.size) (hp:B≤p) (hu:∀k,u.ownBlock=some k→B≤k):Below B a b:=
 ⟨h.os,h.tape,h.output,h.size,fun j hj=>h.block j (by omega) (by omega) (fun e=>by have:=hu j e;omega)⟩
theorem fh.lt (h:fh w B p v s):p<w.heap.size:=ae h.blk
theorem fh.ge (h:fh w B p v s):∀k,v.ownBlock=some k→B≤k:=fun k hk=>(h.own.lt k hk).1
theorem fh.sub (h:fh w B p v s):∃A cap,v=.slice A s.length cap∧iN w p A cap s:=by
 obtain⟨A,cap,rfl,h1,h2,h3,-⟩:=ak.own bQ h.own;exact⟨A,cap,rfl,h.blk,h1,h2,⟨h3,fun x hx=>(h.ja x hx).1⟩,h.few,h.iT⟩
theorem fh.ext (h:fh w B p v s) (e:Ext w w'):fh w' B p v s:=
 ⟨(e.heap h.lt).trans h.blk,h.hB,aZ h.own e,h.ne,fun x hx=>⟨(h.ja x hx).1.ext e,(h.ja x hx).2⟩,h.few,h.iT⟩
end
set_option maxRecDepth 10000
set_option maxHeartbeats 8000000
theorem GX (w:World):Calls Tryz.prog 77 #[.slice none 0 0] w fun e w'=>e=.returned (.pointer (some ⟨w.heap.size,0,none⟩))∧fh w' w.heap.size w.heap.size (.slice none 0 0) []∧Ext w w':=by
 obtain⟨W,hW⟩:∃W,W=w.alloc (.cells #[.slice none 0 0] 192):=⟨_,rfl⟩;have X0:aiE (Ext w W):=aa (by rw[hW];exact(eR _).alloc _);have B1:aiE (W.heap[w.heap.size]?=some (.cells #[.slice none 0 0] 192 (0,0))):=aa (by rw[hW];exact ah _ _ _ rfl);have HW:=aa hW.symm;clear hW;go_enter Tryz.func77,Tryz.ntmps77;go_upto_region 2 with fail;rw[HW.o];go_wp2
 go_loopw [10] (fun i wr=>i=.int .i64 0∧wr=W) (fun _ _=>0)
 case atStart=>exact⟨rfl,rfl⟩
 case round=>
  obtain⟨rfl,rfl⟩:=hrel;go_wp2;go_ret;exact⟨rfl,⟨B1.o,aiG _,World.ownsRow_nil _ _ _ _,(fun h=>by cases h),(fun x hx=>by cases hx),aiH _,List.Pairwise.nil⟩,X0.o⟩
theorem Tz (B p:Nat) (v:Value) (s:List Pr) (x:Int) (t:Ty) (w:World) (h:fh w B p v s) (ht:aH w t) (hsz:t.size≤100000) (hl:ax t=true) (hf:s.length<100000) (hno:∀i,vA s x i→dZ s x i=false) :
  Calls Tryz.prog 128 #[.pointer (some ⟨p,0,none⟩),.int .i64 x,bl t] w fun e w'=>e=.returned (.int .i64 0)∧∃i v' t',vA s x i∧t'.pure=t.pure∧fh w' B p v' (cG s i x t')∧BL p w v w' v'∧∀c,c<w.heap.size→aC c t'=true:=by
 obtain⟨W,hW⟩:∃W,W=w.alloc (.cells #[encStr t.aq,.int .i64 t.var,.slice t.A t.args.length t.cap] 53):=⟨_,rfl⟩;have X0:aiE (Ext w W):=aa (by rw[hW];exact(eR _).alloc _);have B1:aiE (aU W w.heap.size t):=aa (by rw[hW];exact aU.new w t);have HW:=aa hW.symm;clear hW;have HL:=aa (nd t W (ht.ext X0.o) (by omega));rw[hl] at HL;obtain⟨A,cap,hv,gq⟩:=h.sub;have HF:=aa (fun w' (e:Ext W w')=>aa (GU p A cap s x w' (gq.ext (X0.o.trans e))));have HC:=aa (fun w' (e:Ext W w')=>aa (xJ t w' (ht.ext (X0.o.trans e)) hsz));have hBs:B≤w.heap.size:=by have:=h.lt;have:=h.hB;omega
 have HI:=aa (fun(w':World) (hB:B≤w'.heap.size) (i vb:Nat) (y:Pr) (hO:w'.ownsRow B 194 4 v s.length (s.flatMap bQ.f)) (hi:i≤s.length) (hx:w'.heap[vb]?=some (.cells (bQ.f y).toArray 194 (0,0))) (hne:v.ownBlock≠some vb)=>GJ B v s i vb y w' hO hi hx hne hB (by omega));have j7:=aa hno;have H:=aa h;have Hv:=aa hv;have hpl:=h.lt;have HS:=aa (fun w' (e:Ext W w')=>aiI (gq.ext (X0.o.trans e)).cell (aiI (B1.o.ext e).c0 (aiI (B1.o.ext e).c1 (B1.o.ext e).c2)));have hWl:=B1.o.lt;clear h ht hl gq hno;subst hv;unfold bl at *;obtain⟨c0,c1,c2,c3⟩:=HS.o W (eR _);go_enter Tryz.func128,Tryz.ntmps128;go_upto_region 1 with fail;rw[HW.o];go_wp2_with fail;refine HL.o.mono ?_;rintro e w2 ⟨rfl,hx2⟩;have X2:=aa hx2;clear hx2 HL c0 c1 c2 c3;go_wp2_with fail;refine(HF.o _ X2.o).o.mono ?_;rintro e w3 ⟨⟨i,rfl,hi⟩,hx3⟩;have X3:=aa (X2.o.trans hx3);have hh:=j7.o i hi;have Hi:=aa hi;have Hh:=aa hh;have Ts:=hi.le;rw[hh];clear hx3 HF hi hh j7 X2;go_wp2;have TC:=HS.o _ X3.o.drew;refine mq 14 15 #[false,false,false,false,false,false,false,false,false,false,false,false,false,false,false] (fun w'=>w'.cell? ⟨p,0,none⟩=some (.slice A s.length cap)∧w'.cell? ⟨w.heap.size,0,none⟩=some (encStr t.aq)∧w'.cell? ⟨w.heap.size,1,none⟩=some (.int .i64 t.var)∧w'.cell? ⟨w.heap.size,2,none⟩=some (.slice t.A t.args.length t.cap)) (by kernel_rfl) (by kernel_rfl) (by kernel_rfl) ?_
 (refine bP (i:=0) (v := ?_) rfl (by kernel_rfl) (by kernel_rfl) (by kernel_rfl) (by kernel_rfl) (fun _ _ _ h=>h) (Or.inl ⟨by kernel_rfl,?_⟩) (by assumption) ?_;rotate_left 1;(focus (intro w hSw;(try dsimp only at hSw);(try obtain⟨g1,g2,g3⟩:=hSw);(try obtain⟨g1,g2⟩:=hSw);go_simp;try with_reducible rfl));simp only[Act.put,aiQ,aiR,aiS])
 (refine bP (i:=1) (v := ?_) rfl (by kernel_rfl) (by kernel_rfl) (by kernel_rfl) (by kernel_rfl) (fun _ _ _ h=>h) (Or.inl ⟨by kernel_rfl,?_⟩) (by assumption) ?_;rotate_left 1;(focus (intro w hSw;(try dsimp only at hSw);(try obtain⟨g1,g2,g3⟩:=hSw);(try obtain⟨g1,g2⟩:=hSw);go_simp;try with_reducible rfl));simp only[Act.put,aiQ,aiR,aiS])
 (refine bP (i:=2) (v := ?_) rfl (by kernel_rfl) (by kernel_rfl) (by kernel_rfl) (by kernel_rfl) (fun _ _ _ h=>h) (Or.inl ⟨by kernel_rfl,?_⟩) (by assumption) ?_;rotate_left 1;(focus (intro w hSw;(try dsimp only at hSw);(try obtain⟨g1,g2,g3⟩:=hSw);(try obtain⟨g1,g2⟩:=hSw);go_simp;try with_reducible rfl));simp only[Act.put,aiQ,aiR,aiS])
 (refine bP (i:=3) (v := ?_) rfl (by kernel_rfl) (by kernel_rfl) (by kernel_rfl) (by kernel_rfl) (fun _ _ _ h=>h) (Or.inl ⟨by kernel_rfl,?_⟩) (by assumption) ?_;rotate_left 1;(focus (intro w hSw;(try dsimp only at hSw);(try obtain⟨g1,g2,g3⟩:=hSw);(try obtain⟨g1,g2⟩:=hSw);go_simp;try with_reducible rfl));simp only[Act.put,aiQ,aiR,aiS])
 (refine bP (i:=4) (v := ?_) rfl (by kernel_rfl) (by kernel_rfl) (by kernel_rfl) (by kernel_rfl) (fun _ _ _ h=>h) (Or.inl ⟨by kernel_rfl,?_⟩) (by assumption) ?_;rotate_left 1;(focus (intro w hSw;(try dsimp only at hSw);(try obtain⟨g1,g2,g3⟩:=hSw);(try obtain⟨g1,g2⟩:=hSw);go_simp;try with_reducible rfl));simp only[Act.put,aiQ,aiR,aiS])
 (refine bP (i:=5) (v := ?_) rfl (by kernel_rfl) (by kernel_rfl) (by kernel_rfl) (by kernel_rfl) (fun _ _ _ h=>h) (Or.inl ⟨by kernel_rfl,?_⟩) (by assumption) ?_;rotate_left 1;(focus (intro w hSw;(try dsimp only at hSw);(try obtain⟨g1,g2,g3⟩:=hSw);(try obtain⟨g1,g2⟩:=hSw);go_simp;try with_reducible rfl));simp only[Act.put,aiQ,aiR,aiS])
 (refine bP (i:=6) (v := ?_) rfl (by kernel_rfl) (by kernel_rfl) (by kernel_rfl) (by kernel_rfl) (fun _ _ _ h=>h) (Or.inl ⟨by kernel_rfl,?_⟩) (by assumption) ?_;rotate_left 1;(focus (intro w hSw;(try dsimp only at hSw);(try obtain⟨g1,g2,g3⟩:=hSw);(try obtain⟨g1,g2⟩:=hSw);go_simp;try with_reducible rfl));simp only[Act.put,aiQ,aiR,aiS])
 (refine bP (i:=7) (v := ?_) rfl (by kernel_rfl) (by kernel_rfl) (by kernel_rfl) (by kernel_rfl) (fun _ _ _ h=>h) (Or.inl ⟨by kernel_rfl,?_⟩) (by assumption) ?_;rotate_left 1;(focus (intro w hSw;(try dsimp only at hSw);(try obtain⟨g1,g2,g3⟩:=hSw);(try obtain⟨g1,g2⟩:=hSw);go_simp;try with_reducible rfl));simp only[Act.put,aiQ,aiR,aiS])
 refine cg (i:=8) (by kernel_rfl) rfl (fun KK hK => ?_)
 go_simp
 refine Calls.mono (HC.o _ X3.o.drew).o ?_;rintro e w4 ⟨⟨t',rfl,YU⟩,eJ⟩;have X4:=aa (X3.o.drew.trans eJ);have Od:=HS.o _ X4.o;have Ht:=aa YU;refine hK.out _ _ (fun _=>Od) ?_;clear hK KK TC eJ YU;simp only[aiQ,aiR,aiS]
 (refine bP (i:=9) (v := ?_) rfl (by kernel_rfl) (by kernel_rfl) (by kernel_rfl) (by kernel_rfl) (fun _ _ _ h=>h) (Or.inl ⟨by kernel_rfl,?_⟩) (by assumption) ?_;rotate_left 1;(focus (intro w hSw;(try dsimp only at hSw);(try obtain⟨g1,g2,g3⟩:=hSw);(try obtain⟨g1,g2⟩:=hSw);go_simp;try with_reducible rfl));simp only[Act.put,aiQ,aiR,aiS])
 refine cg (i:=10) (by kernel_rfl) rfl (fun KK hK => ?_)
 go_simp
 obtain⟨W5,lI⟩:∃W5,W5=w4.alloc (.cells #[.int .i64 x,.string ⟨t'.aq.toArray⟩,.int .i64 t'.var,.slice t'.A t'.args.length t'.cap] 194):=⟨_,rfl⟩;rw[←lI];have X5:aiE (Ext W W5):=aa (by rw[lI];exact X4.o.alloc _);have zA:aiE (Ext w4 W5):=aa (by rw[lI];exact(eR _).alloc _);have jA:W5.heap[w4.heap.size]?=some (.cells (bQ.f ⟨x,t'⟩).toArray 194 (0,0)):=by rw[lI];exact ah _ _ _ rfl
 have WK:=HS.o _ X5.o;refine hK.out _ _ (fun _=>WK) ?_;clear hK KK Od lI;simp only[aiQ,aiR,aiS];have Oe:=X4.o.size;have hs0:=X0.o.size;have hs5:=X5.o.size;have TD:(Value.slice A s.length cap).ownBlock≠some w4.heap.size:=fun e=>by have:=(H.o.own.lt _ e).2;omega
 have za:=aa (HI.o W5 (by omega) i w4.heap.size ⟨x,t'⟩ (aZ H.o.own (X0.o.trans X5.o)) Ts jA TD);clear jA TD;refine cg (i:=11) (by kernel_rfl) rfl (fun KK hK => ?_)
 go_simp
 refine Calls.mono za.o ?_;rintro e w6 ⟨v',rfl,hO6,WL⟩;have Dy:=aa WL;have WM:some p≠(Value.slice A s.length cap).ownBlock:=fun e=>H.o.ne e.symm
 have xc:some w.heap.size≠(Value.slice A s.length cap).ownBlock:=fun e=>by have:=(H.o.own.lt _ e.symm).2;omega
 have TE:w6.heap[p]?=some (.cells #[.slice A s.length cap] 192 (0,0)):=(WL.grown.block p (by omega) WM).trans (((X0.o.trans X5.o).heap hpl).trans H.o.blk);have WN:w6.cell? ⟨p,0,none⟩=some (.slice A s.length cap)∧w6.cell? ⟨w.heap.size,0,none⟩=some (encStr t.aq)∧w6.cell? ⟨w.heap.size,1,none⟩=some (.int .i64 t.var)∧w6.cell? ⟨w.heap.size,2,none⟩=some (.slice t.A t.args.length t.cap):=by
  have e0:=WL.grown.block w.heap.size (by omega) xc;exact⟨by simp[World.cell?,TE],(World.cell?_of_block e0).trans WK.2.1,(World.cell?_of_block e0).trans WK.2.2.1,(World.cell?_of_block e0).trans WK.2.2.2⟩
 refine hK.out _ _ (fun _=>WN) ?_;clear hK KK WL;simp only[aiQ,aiR,aiS];have PQ:w6.ownsRow B 194 4 v' (cG s i x t').length ((cG s i x t').flatMap bQ.f):=by rw[kn Ts];exact hO6
 have HO6:=aa PQ;obtain⟨A6,c6,hv6,-,-,-,-⟩:=ak.own bQ PQ;subst hv6;have HP6:=aa TE;have c0:=WN.1;have f0:=ai TE 0;have aen:=ae TE;obtain⟨W7,zb⟩:∃W7,W7=w6.setCell ⟨p,0,none⟩ (.slice A6 (cG s i x t').length c6):=⟨_,rfl⟩;have YV:aiE (fh W7 B p (.slice A6 (cG s i x t').length c6) (cG s i x t')):=aa (by
  have Og:w6.grownBy W7 (some p):=by rw[zb];exact aL _ _ _ _
  have TF:(Value.slice A6 (cG s i x t').length c6).ownBlock≠some p:=by
   rcases Dy.o.own with h1|h1
   ·rw[h1];exact H.o.ne
   ·intro e;have:=h1 p e;omega
  have ke:∀y∈cG s i x t',aH W5 y.ty∧aC p y.ty=true∧∀c,(Value.slice A s.length cap).ownBlock=some c→aC c y.ty=true:=by
   intro y hy
   rcases gh.1 hy with rfl|hy
   ·exact⟨Ht.o.ty.ext zA.o,Ht.o.away p (by have:=X3.o.size;show p<w3.heap.size;omega),fun c hc=>Ht.o.away c (by have:=X3.o.size;have:=(H.o.own.lt _ hc).2;show c<w3.heap.size;omega)⟩
   ·obtain⟨h1,h2,h3⟩:=H.o.ja y hy;exact⟨h1.ext (X0.o.trans X5.o),h2,h3⟩
  refine⟨?_,H.o.hB,HO6.o.kept Og (.inr TF),TF,fun y hy => ?_,by rw[kn Ts];omega,kQ H.o.iT Hi.o (Hh.o)⟩
  ·rw[zb];exact aw HP6.o 0 _
  ·obtain⟨h1,h2,h3⟩:=ke y hy;refine⟨(h1.grown Dy.o.grown h3).grown Og (fun c e=>by injection e with e;subst e;exact h2),h2,fun c hc => ?_⟩
   rcases Dy.o.own with h4|h4
   ·exact h3 c (h4▸hc)
   ·exact aP h1 (h4 c hc))
 have HAp:aiE (BL p w (.slice A s.length cap) W7 (.slice A6 (cG s i x t').length c6)):=aa (by
  refine((BL.dQ p (X0.o.trans X5.o) _).trans (BL.Tw p Dy.o)).trans ?_;rw[zb];exact⟨rfl,rfl,rfl,by simp[World.setCell],fun j hj hp _=>Below.heap_setCell w6 ⟨p,0,none⟩ _ j hp,.inl rfl⟩)
 clear hO6 PQ TE;generalize (cG s i x t').length=M at *;refine cg (i:=12) (by kernel_rfl) rfl (fun KK hK => ?_)
 go_simp
 refine hK.out _ _ (fun _=>WN) ?_;clear hK KK;simp only[aiQ,aiR,aiS];refine cg (i:=13) (by kernel_rfl) rfl (fun KK hK => ?_)
 go_simp
 refine hK.out _ _ (fun _=>WN) ?_;clear hK KK;simp only[aiQ,aiR,aiS];refine cg (i:=14) (by kernel_rfl) rfl (fun KK hK => ?_)
 go_simp
 rw[←zb];refine hK.out _ _ (fun h=>absurd rfl h) ?_;clear hK KK
 try simp only[Act.put]
 refine qQ (by kernel_rfl) ?_ _;go_wp2;go_ret;exact⟨rfl,i,_,t',Hi.o,Ht.o.is,YV.o,HAp.o,fun c hc=>Ht.o.away c (by have:=X3.o.size;show c<w3.heap.size;omega)⟩
set_option maxRecDepth 512
set_option maxHeartbeats 200000
def cY (w:World) (bb p:Nat) (left:Int):Prop:=w.heap[bb]?=some (.cells #[.pointer (some ⟨p,0,none⟩),.int .i64 left] 198 (0,0))
section
variable {w w':World}{bb p:Nat}{left:Int}
theorem cY.c0 (h:cY w bb p left):w.cell? ⟨bb,0,none⟩=some (.pointer (some ⟨p,0,none⟩)):=ag h 0
theorem cY.c1 (h:cY w bb p left):w.cell? ⟨bb,1,none⟩=some (.int .i64 left):=ag h 1
theorem cY.f1 (h:cY w bb p left):w.frozen? ⟨bb,1,none⟩=false:=ai h 1
theorem cY.lt (h:cY w bb p left):bb<w.heap.size:=ae h
theorem cY.ext (h:cY w bb p left) (e:Ext w w'):cY w' bb p left:=(e.heap h.lt).trans h
theorem cY.set (h:cY w bb p left) (n:Int):cY (w.setCell ⟨bb,1,none⟩ (.int .i64 n)) bb p n:=aw h 1 _
theorem cY.grown (h:cY w bb p left){row:Nat}(hg:w.grownBy w' (some row)) (hr:bb≠row):cY w' bb p left:=(hg.block bb h.lt (fun e=>hr (by injection e))).trans h
end
structure qR (w:World) (bb p:Nat) (A:Option Addr) (cap:Nat) (s:List Pr):Prop where
 sub:iN w p A cap s
 hp:p≠bb
 hA:s.length≠0→∀a,A=some a→a.block≠bb
 ja:∀x∈s,aC bb x.ty=true
 small:∀x∈s,x.ty.size≤4096∧x.ty.depth≤100
theorem qR.grown {w w':World}{bb p:Nat}{A:Option Addr}{cap:Nat}{s:List Pr}(h:qR w bb p A cap s) (hg:w.grownBy w' (some bb)):qR w' bb p A cap s:=
 ⟨⟨(hg.block p (ae h.sub.blk) (fun e=>h.hp (by injection e))).trans h.sub.blk,h.sub.le,h.sub.max,⟨ew h.sub.Oa.row hg (fun hn a e e2=>by injection e2 with e2;exact h.hA hn a e e2.symm),fun x hx=>(h.sub.Oa.ty x hx).grown hg (fun c e=>by injection e with e;subst e;exact h.ja x hx)⟩,h.sub.few,h.sub.iT⟩,h.hp,h.hA,h.ja,h.small⟩
structure qT (w w':World) (bb:Nat) (s:List Pr) (t u:Ty) (left level left':Int):Prop where
 ty:aH w' u
 off:aC bb u=true
 away:∀c,c<w.heap.size→aC c t=true→aC c u=true
 lo : -5000≤left'
 hi:left'≤left - 1
 yes:0≤left'→u.pure=fZ (bF s) (bG s) t∧left'=left - iD (bF s) (bG s) t∧level+oU (bF s) (bG s) t≤101
 no:left'<0→left<iD (bF s) (bG s) t∨101<level+oU (bF s) (bG s) t
def GY (bb p:Nat) (A:Option Addr) (cap:Nat) (s:List Pr) (t:Ty):Prop:=
 ∀(w:World) (left level:Int),aH w t→aC bb t=true→qR w bb p A cap s→cY w bb p left→0≤left→left≤4096→1≤level→level+t.depth≤101 →
  Calls Tryz.prog 129 #[.pointer (some ⟨bb,0,none⟩),bl t,.int .i64 level] w fun e w'=>∃u left',e=.returned (bl u)∧qT w w' bb s t u left level left'∧w.grownBy w' (some bb)∧cY w' bb p left'
structure je (w w':World) (bb:Nat) (s:List Pr) (l us:List Ty):Prop where
 len:us.length=l.length
 ty:∀u∈us,aH w' u
 off:∀u∈us,aC bb u=true
 row:∀u∈us,∀c,w.heap.size≤c∧c<w.heap.size+3→aC c u=true
 away:∀u∈us,∀c,c<w.heap.size→(∀k∈l,aC c k=true)→aC c u=true
structure lN (s:List Pr) (l:List Ty) (us:List Ty) (Oh PR:Nat) (left level L:Int):Prop where
 lo : -5000≤L
 hi:L≤left - 1
 yes:0≤L→us.map Ty.pure=l.map (fZ (bF s) (bG s))∧L=left - 1 - ((l.map (iD (bF s) (bG s))).sum:Nat)∧∀k∈l,level+1+oU (bF s) (bG s) k≤101
 no:L<0→left<Oh∨101<level+PR
theorem aH.gb {w w':World}{bb:Nat}{t:Ty}(h:aH w t) (hg:w.grownBy w' (some bb)) (ha:aC bb t=true):aH w' t:=h.grown hg (fun c e=>by injection e with e;subst e;exact ha)
theorem mr {w a b:World}{bb r:Nat}(h:w.grownBy a (some bb)) (k:a.grownBy b (some r)) (hr:w.heap.size≤r):w.grownBy b (some bb):=
 ⟨k.os.trans h.os,k.tape.trans h.tape,k.output.trans h.output,aiM h.size k.size,fun j hj hne=>(k.block j (Nat.lt_of_lt_of_le hj h.size) (fun e=>by injection e with e;omega)).trans (h.block j hj hne)⟩
theorem je.nil (w w':World) (bb:Nat) (s:List Pr):je w w' bb s [] []:=⟨rfl,by simp,by simp,by simp,by simp⟩
theorem je.grown {w w1 w2:World}{bb:Nat}{s:List Pr}{l us:List Ty}(h:je w w1 bb s l us){row:Nat}(hg:w1.grownBy w2 (some row)) (hr:row=bb∨(w.heap.size≤row∧row<w.heap.size+3)):je w w2 bb s l us:=
 ⟨h.len,fun u hu=>(h.ty u hu).grown hg (fun c e=>by
                             injection e with e;subst e;rcases hr with hr|hr;· rw[hr];exact h.off u hu
                             ·exact h.row u hu _ hr),h.off,h.row,h.away⟩
theorem je.snoc {w w1 w2:World}{bb:Nat}{s:List Pr}{l us:List Ty}{t u:Ty}{L lv L':Int}(h:je w w1 bb s l us) (k:qT w1 w2 bb s t u L lv L') (hg:w1.grownBy w2 (some bb))
  (ht:aH w t) (hs:w.heap.size+3≤w1.heap.size):je w w2 bb s (l++[t]) (us++[u]):=by
 have h':=h.grown hg (.inl rfl);refine⟨by simp[h.len],fun x hx => ?_,fun x hx => ?_,fun x hx c hc => ?_,fun x hx c hc h1 => ?_⟩
 ·rcases List.mem_append.1 hx with hx|hx
  ·exact h'.ty x hx
  ·rw[aiV] at hx;subst hx;exact k.ty
 ·rcases List.mem_append.1 hx with hx|hx
  ·exact h.off x hx
  ·rw[aiV] at hx;subst hx;exact k.off
 ·rcases List.mem_append.1 hx with hx|hx
  ·exact h.row x hx c hc
  ·rw[aiV] at hx;subst hx;exact k.away c (by omega) (aP ht hc.1)
 ·rcases List.mem_append.1 hx with hx|hx
  ·exact h.away x hx c hc (fun k hk=>h1 k (List.mem_append.2 (.inl hk)))
  ·rw[aiV] at hx;subst hx;exact k.away c (by omega) (h1 t (by simp))
theorem lN.start (s:List Pr){Oh PR:Nat}{left level:Int}(h:0≤left) (aep:1≤Oh) (hl:left≤4096):lN s [] [] Oh PR left level (left - 1):=
 ⟨by omega,by omega,fun _=>⟨rfl,by simp,by simp⟩,fun h2=>.inl (by omega)⟩
theorem lN.snoc {s:List Pr}{l us:List Ty}{t u:Ty}{Oh PR:Nat}{left level L L':Int}{w w':World}{bb:Nat}(h:lN s l us Oh PR left level L) (k:qT w w' bb s t u L (level+1) L') (hL:0≤L)
  (hz:(l.map (iD (bF s) (bG s))).sum+iD (bF s) (bG s) t+1≤Oh) (hd:1+oU (bF s) (bG s) t≤PR):lN s (l++[t]) (us++[u]) Oh PR left level L':=by
 obtain⟨a1,a2,a3⟩:=h.yes hL;refine⟨k.lo,by have:=k.hi;have:=h.hi;omega,fun YW => ?_,fun YW => ?_⟩
 ·obtain⟨b1,b2,b3⟩:=k.yes YW;refine⟨by rw[aiX,aiX,a1];simp[b1],?_,fun x hx => ?_⟩
  ·rw[aiX,List.sum_append,List.map_singleton,List.sum_singleton];omega
  ·rcases List.mem_append.1 hx with hx|hx
   ·exact a3 x hx
   ·rw[aiV] at hx;subst hx;exact b3
 ·rcases k.no YW with h1|h1
  ·exact .inl (by omega)
  ·exact .inr (by omega)
theorem GZ (f:Ty→Nat) (l:List Ty){k:Nat}(h:k<l.length):((l.take k).map f).sum+f (l[k]'h)≤(l.map f).sum:=by
 have e:l.map f=(l.take k).map f++(f (l[k]'h) :: (l.drop (k+1)).map f):=by
  rw[←List.map_cons,←aiX]
  congr 1
  rw[←List.drop_eq_getElem_cons h,List.take_append_drop]
 rw[e,List.sum_append,List.sum_cons];omega
theorem LY (l:List Nat) (x:Nat) (h:x∈l):x≤l.foldr max 0:=(gQ l _).1 (aiG _) x h
theorem LZ {s:List Pr}{t:Ty}(hc:t.aq≠[]){k:Nat}(h:k<t.args.length):((t.args.take k).map (iD (bF s) (bG s))).sum+iD (bF s) (bG s) (t.args[k]'h)+1≤iD (bF s) (bG s) t∧1+oU (bF s) (bG s) (t.args[k]'h)≤oU (bF s) (bG s) t:=by
 rw[jE (t:=t),mi (t:=t),if_neg hc,if_neg hc];have h1:=GZ (iD (bF s) (bG s)) t.args h;have h2:=LY (t.args.map (oU (bF s) (bG s))) (oU (bF s) (bG s) (t.args[k]'h)) (List.mem_map.2 ⟨_,aiF h,rfl⟩);omega
theorem qT.done {w w':World}{bb:Nat}{s:List Pr}{t:Ty}{us:List Ty}{A:Option Addr}{cap:Nat}{left level L:Int}(hc:t.aq≠[]) (wY:t.aq.length≤9223372036854775807) (h:je w w' bb s t.args us) (hL:lN s t.args us (iD (bF s) (bG s) t) (oU (bF s) (bG s) t) left level L)
  (h1:us.length≤cap) (h2:cap≤9223372036854775807) (h3:ak dr w' A us) (hA:us≠[]→∀a,A=some a→w.heap.size≤a.block) (xc:bb<w.heap.size) (hlv:level≤100):qT w w' bb s t (.mk t.aq t.var A cap us) left level L where
 ty:=aH.of h1 h2 wY h3 h.ty
 off:=dG (fun hn a ha=>by have:=hA hn a ha;omega) h.off
 away c hlt hk:=dG (fun hn a ha=>by have:=hA hn a ha;omega) (fun u hu=>h.away u hu c hlt (fun k FB=>fK hk FB))
 lo:=hL.lo
 hi:=hL.hi
 yes h0:=by
  obtain⟨a1,a2,a3⟩:=hL.yes h0;refine⟨?_,?_,?_⟩
  ·rw[Ty.aG,eX,if_neg hc];show Ty.Pure.mk _ _ (us.map Ty.pure)=_;rw[a1];rfl
  ·rw[jE,if_neg hc];omega
  ·rw[mi,if_neg hc];have:(t.args.map (oU (bF s) (bG s))).foldr max 0≤(100 - level).toNat:=(gQ _ _).2 (fun x hx=>by
    obtain⟨k,hk,rfl⟩:=List.mem_map.1 hx;have:=a3 k hk;omega)
   omega
 no:=hL.no
set_option maxRecDepth 10000
set_option maxHeartbeats 8000000
theorem Dz (bb p:Nat) (A:Option Addr) (cap:Nat) (s:List Pr) (t:Ty) (hc:t.aq≠[]) (hlen:t.args.length≤100000) (ih:∀k∈t.args,GY bb p A cap s k):GY bb p A cap s t:=by
 intro w left level ht DB gq hbl hl0 sj hv0 KO;obtain⟨W,hW⟩:∃W,W=(w.alloc (.cells #[encStr t.aq,.int .i64 t.var,.slice t.A t.args.length t.cap] 53)).alloc (.cells #[.string ⟨#[]⟩,.int .i64 0,.slice none 0 0] 53):=⟨_,rfl⟩;have HW:=aa hW.symm;have X0:aiE (Ext w W):=aa (by rw[hW];exact((eR _).alloc _).alloc _);have B1:aiE (aU W w.heap.size t):=aa (by rw[hW];exact(aU.new w t).ext ((eR _).alloc _));have B2:aiE (W.heap[w.heap.size+1]?=some (.cells #[.string ⟨#[]⟩,.int .i64 0,.slice none 0 0] 53 (0,0))):=aa (by rw[hW];exact ah _ _ _ (by simp));have sK:W.heap.size=w.heap.size+2:=by rw[hW];simp
 have RX:=hbl.lt;have KW:=aa (hbl.ext X0.o);obtain⟨W8,ui⟩:∃W8,W8=W.setCell ⟨bb,1,none⟩ (.int .i64 (left - 1)):=⟨_,rfl⟩;have YX:=aa ui.symm;have WO:aiE (w.grownBy W8 (some bb)):=aa (by rw[ui];exact aX (eE X0.o _) (aL _ _ _ _));have YY:aiE (cY W8 bb p (left - 1)):=aa (by rw[ui];exact KW.o.set _);have Sb:aiE (aU W8 w.heap.size t):=aa (by rw[ui];exact(Below.heap_setCell W ⟨bb,1,none⟩ _ w.heap.size (by show w.heap.size≠bb;omega)).trans B1.o);have TG:aiE (W8.heap[w.heap.size+1]?=some (.cells #[.string ⟨#[]⟩,.int .i64 0,.slice none 0 0] 53 (0,0))):=aa (by rw[ui];exact(Below.heap_setCell W ⟨bb,1,none⟩ _ (w.heap.size+1) (by show w.heap.size+1≠bb;omega)).trans B2.o);have G0:W8.heap.size=w.heap.size+2:=by rw[ui,World.size_setCell,sK]
 have jt:=jF t.args.length (by omega) W8;obtain⟨W1,hW1⟩:∃W1,W1=W8.alloc (.cells (kt t.args.length) 53):=⟨_,rfl⟩;have L1:aiE (Ext W8 W1):=aa (by rw[hW1];exact(eR _).alloc _);have B3:aiE (W1.heap[w.heap.size+2]?=some (.cells (mo [] t.args.length) 53 (0,0))):=aa (by rw[hW1];exact ah _ _ _ G0.symm);rw[G0,←hW1] at jt;have xd:=aa jt;have YZ:aiE (w.grownBy W1 (some bb)):=aa (aX WO.o (eE L1.o _));have PS:=aa (YY.o.ext L1.o);have PU:=aa (Sb.o.ext L1.o);have Oi:=aa ((L1.o.heap (ae TG.o)).trans TG.o);have H:=aa ht;have L3:=aa DB;have HSub:=aa gq;have IH:=aa ih;have hle:=ht.le;have hmx:=ht.max;have hcB:(t.aq == ([]:aj))=false:=by simpa using hc
 have HC:=aa hc;have ki:aiE (1≤iD (bF s) (bG s) t):=aa (by rw[jE,if_neg hc];omega);have HSf:=aa (fun k (h:k<t.args.length)=>LZ (s:=s) hc h);have b0:=B1.o.c0;have d0:=KW.o.c0;have d1:=KW.o.c1;have d2:=KW.o.f1;have e2:=Sb.o.c2;have e2':=PU.o.c2;have hbW:bb<W.heap.size:=by omega
 have HWs:=aa sK;clear hW ui hW1 ht DB gq hbl ih hc sK jt;unfold bl at *;go_enter Tryz.func129,Tryz.ntmps129;go_upto_region 1 with fail;rw[HW.o];clear HW;go_upto_region 9 with fail;rw[YX.o];have jt:=xd.o;go_wp2
 go_loopw [58] (fun i wr=>∃(k:Nat) (us:List Ty) (L:Int),k≤t.args.length∧i=.int .i64 k∧aiE (w.grownBy wr (some bb))∧aiE (wr.heap[w.heap.size+2]?=some (.cells (mo us (t.args.length - k)) 53 (0,0)))∧aiE (cY wr bb p L)∧aiE (je w wr bb s (t.args.take k) us)∧aiE (lN s (t.args.take k) us (iD (bF s) (bG s) t) (oU (bF s) (bG s) t) left level L)∧aiE (aU wr w.heap.size t)∧aiE (wr.heap[w.heap.size+1]?=some (.cells #[.string ⟨#[]⟩,.int .i64 0,.slice none 0 0] 53 (0,0)))) (fun i _=>t.args.length - (intOf i).toNat)
 case atStart=>exact⟨0,[],left - 1,aiH _,rfl,YZ,B3,PS,aa (je.nil _ _ _ _),aa (lN.start s hl0 ki.o sj),PU,Oi⟩
 case round=>
  obtain⟨k,us,L,hk,rfl,HG,HR,zT,HP,PV,DC,gS⟩:=hrel;have KU:us.length=k:=by have:=HP.o.len;rw[List.length_take] at this;omega
  have a1:=zT.o.c1;have a0:=zT.o.c0;have hbr:=zT.o.lt
  by_cases hlt:k<t.args.length
  ·have aN:(k:Int)<(t.args.length:Int):=by omega
   have cV:(0:Int)≤(k:Int):=by omega
   by_cases Y0:L<0
   ·have g0:=DC.o.c0;have g1:=DC.o.c1;have g2:=DC.o.c2;have f0:=ai gS.o 0;have f1:=ai gS.o 1;have f2:=ai gS.o 2;have k0:=ag gS.o 0;have k1:=ag gS.o 1;have k2:=ag gS.o 2;simp only[aiN,aiO,aiP] at k0 k1 k2;have hg3:=cf wr (w.heap.size+1) 0 1 2 (encStr t.aq) (.int .i64 t.var) (.slice t.A t.args.length t.cap);have PF:aiE (qT w (((wr.setCell ⟨w.heap.size+1,0,none⟩ (encStr t.aq)).setCell ⟨w.heap.size+1,1,none⟩ (.int .i64 t.var)).setCell ⟨w.heap.size+1,2,none⟩ (.slice t.A t.args.length t.cap)) bb s t t left level L):=aa
     ⟨(H.o.gb HG.o L3.o).grown hg3 (fun c e=>by injection e with e;subst e;exact aP H.o (by omega)),L3.o,fun c _ h=>h,PV.o.lo,PV.o.hi,fun h=>absurd h (by omega),fun _=>PV.o.no Y0⟩
    have GF:aiE (w.grownBy (((wr.setCell ⟨w.heap.size+1,0,none⟩ (encStr t.aq)).setCell ⟨w.heap.size+1,1,none⟩ (.int .i64 t.var)).setCell ⟨w.heap.size+1,2,none⟩ (.slice t.A t.args.length t.cap)) (some bb)):=aa
     ⟨hg3.os.trans HG.o.os,hg3.tape.trans HG.o.tape,hg3.output.trans HG.o.output,aiM HG.o.size hg3.size,fun j hj hne=>(hg3.block j (Nat.lt_of_lt_of_le hj HG.o.size) (fun e=>by injection e with e;omega)).trans (HG.o.block j hj hne)⟩
    have LF:=aa (zT.o.grown hg3 (by omega));go_wp2;refine bodyPost_ret (v:=.agg #[encStr t.aq,.int .i64 t.var,.slice t.A t.args.length t.cap]) ?_ rfl ⟨t,L,rfl,PF.o,GF.o,LF.o⟩;simp[results,Tryz.f129,go_sem,k0,k1,k2]
   ·have TH:0≤L:=by omega
    have Hk:=aa (H.o.gb HG.o L3.o);obtain⟨b,o,hA,hb,q0,q1,q2⟩:=(Hk.o.all).at_ hlt;have cB:=aiF hlt;have BJ:=aa (IH.o _ cB wr L (level+1) (Hk.o.all.args _ cB) (fK L3.o cB) (HSub.o.grown HG.o) zT.o TH (by have:=PV.o.hi;omega) (by omega) (by have:=mg cB;omega));have Hx:=aa (H.o.all.args _ cB);have Hsf:=aa (HSf.o k hlt);have dh:aiE (t.args.take (k+1)=t.args.take k++[t.args[k]'hlt]):=aa (aiJ hlt);obtain⟨m,hm⟩:∃m,t.args.length - k=m+1:=⟨t.args.length - k - 1,by omega⟩;have N6:t.args.length - (k+1)=m:=by omega
    rw[hm] at HR;generalize t.args[k]'hlt=x at *;have PM:w.heap.size+3≤wr.heap.size:=by have:=ae HR.o;omega
    have g0:=DC.o.c0;have g1:=DC.o.c1;have g2:=DC.o.c2;rw[hA] at g2 ⊢;clear cB hA Hk;unfold bl at BJ;go_wp2_with fail;refine BJ.o.mono ?_;rintro e w3 ⟨u,L',rfl,hu,hg3,Y6⟩;have Hu:=aa hu;have Hg3:=aa hg3;have iR:=aa ((hg3.block (w.heap.size+2) (by omega) (fun e=>by injection e with e;omega)).trans HR.o);have N8:aiE (je w w3 bb s (t.args.take (k+1)) (us++[u])):=aa (by rw[dh.o];exact HP.o.snoc hu hg3 Hx.o PM);have N9:=aa (Tk u iR.o);have vM:=cf w3 (w.heap.size+2) (us.length*3) (us.length*3+1) (us.length*3+2) (encStr u.aq) (.int .i64 u.var) (.slice u.A u.args.length u.cap);have Tl:=aa (N8.o.grown vM (.inr ⟨by omega,by omega⟩));have BM:aiE (lN s (t.args.take (k+1)) (us++[u]) (iD (bF s) (bG s) t) (oU (bF s) (bG s) t) left level L'):=aa (by rw[dh.o];exact PV.o.snoc hu TH Hsf.o.1 Hsf.o.2);have HGn:=aa (mr (aX HG.o hg3) vM (by omega));have PW:=aa (Y6.grown vM (by omega));have TI:aiE (aU (((w3.setCell ⟨w.heap.size+2,us.length*3,none⟩ (encStr u.aq)).setCell ⟨w.heap.size+2,us.length*3+1,none⟩ (.int .i64 u.var)).setCell ⟨w.heap.size+2,us.length*3+2,none⟩ (.slice u.A u.args.length u.cap)) w.heap.size t):=aa ((vM.block _ (by have:=hg3.size;omega) (fun e=>by injection e with e;omega)).trans ((hg3.block _ (by omega) (fun e=>by injection e with e;omega)).trans DC.o));have TJ:=aa ((vM.block (w.heap.size+1) (by have:=hg3.size;omega) (fun e=>by injection e with e;omega)).trans ((hg3.block _ (by omega) (fun e=>by injection e with e;omega)).trans gS.o));have f0:=ai iR.o (us.length*3);have f1:=ai iR.o (us.length*3+1);have f2:=ai iR.o (us.length*3+2);have k0:=(ag iR.o (us.length*3)).trans (kV us m).1;have k1:=(ag iR.o (us.length*3+1)).trans (kV us m).2.1;have k2:=(ag iR.o (us.length*3+2)).trans (kV us m).2.2;rw[KU] at f0 f1 f2 k0 k1 k2 N9 Tl HGn PW TI TJ;clear hu hg3 Y6 iR N8 vM Hu Hg3;go_wp2;go_roundw
    case rel=>exact⟨k+1,us++[u],L',hlt,by go_num,HGn,aa (by rw[N6];exact N9.o),PW,Tl,BM,TI,TJ⟩
    case measure=>simp[intOf];omega
  ·have bS:¬(k:Int)<(t.args.length:Int):=by omega
   have KV:k=t.args.length:=by omega
   have LW:aiE (wr.heap[w.heap.size+2]?=some (.cells (us.flatMap dr.f).toArray 53 (0,0))):=aa (by have:=HR.o;rw[KV,Nat.sub_self,xI] at this;exact this);have BK:aiE (je w wr bb s t.args us):=aa (by have:=HP.o;rwa [aiK (by omega)] at this);have HLd:aiE (lN s t.args us (iD (bF s) (bG s) t) (oU (bF s) (bG s) t) left level L):=aa (by have:=PV.o;rwa [aiK (by omega)] at this);have Sa:us.length=t.args.length:=by omega
   clear HR HP PV KV;have PM:=ae LW.o;have g0:=DC.o.c0;have g1:=DC.o.c1;have g2:=DC.o.c2;have fb:=DC.o.free 2;have f0:=ai gS.o 0;have f1:=ai gS.o 1;have f2:=ai gS.o 2;have k0:=ag gS.o 0;have k1:=ag gS.o 1;have k2:=ag gS.o 2;simp only[aiN,aiO,aiP] at k0 k1 k2;obtain⟨U,hU⟩:∃U:Ty,U=.mk t.aq t.var (some ⟨w.heap.size+2,0,none⟩) t.args.length us:=⟨_,rfl⟩;obtain⟨WF,iM⟩:∃WF,WF=(((wr.setCell ⟨w.heap.size,2,none⟩ (.slice (some ⟨w.heap.size+2,0,none⟩) t.args.length t.args.length)).setCell ⟨w.heap.size+1,0,none⟩ (encStr t.aq)).setCell ⟨w.heap.size+1,1,none⟩ (.int .i64 t.var)).setCell ⟨w.heap.size+1,2,none⟩ (.slice (some ⟨w.heap.size+2,0,none⟩) t.args.length t.args.length):=⟨_,rfl⟩;have Oj:=aL wr w.heap.size 2 (.slice (some ⟨w.heap.size+2,0,none⟩) t.args.length t.args.length);have L5:=cf (wr.setCell ⟨w.heap.size,2,none⟩ (.slice (some ⟨w.heap.size+2,0,none⟩) t.args.length t.args.length)) (w.heap.size+1) 0 1 2 (encStr t.aq) (.int .i64 t.var) (.slice (some ⟨w.heap.size+2,0,none⟩) t.args.length t.args.length);have GF:aiE (w.grownBy WF (some bb)):=aa (by rw[iM];exact mr (mr HG.o Oj (aiG _)) L5 (by omega));have LF:aiE (cY WF bb p L):=aa (by rw[iM];exact(zT.o.grown Oj (by omega)).grown L5 (by omega));have PF:aiE (qT w WF bb s t U left level L):=aa (by
    have h1:=(BK.o.grown Oj (.inr ⟨aiG _,by omega⟩)).grown L5 (.inr ⟨by omega,by omega⟩);rw[←iM] at h1;rw[hU];have hblk:WF.heap[w.heap.size+2]?=some (.cells (us.flatMap dr.f).toArray 53 (0,0)):=by
     rw[iM,Below.heap_setCell _ _ _ _ (by simp),Below.heap_setCell _ _ _ _ (by simp),Below.heap_setCell _ _ _ _ (by simp),Below.heap_setCell _ _ _ _ (by simp)];exact LW.o
    exact qT.done HC.o H.o.txt h1 HLd.o (by omega) (by omega) (ak.block dr us hblk) (fun _ a e=>by injection e with e;subst e;show w.heap.size≤w.heap.size+2;omega) RX (by rw[Ty.aT] at KO;omega))
   have Tn:bl U=.agg #[encStr t.aq,.int .i64 t.var,.slice (some ⟨w.heap.size+2,0,none⟩) t.args.length t.args.length]:=by rw[hU];unfold bl;show Value.agg #[_,_,.slice _ us.length _]=_;rw[Sa];rfl
   clear LW BK hU Oj L5;go_wp2;rw[←iM];refine bodyPost_ret (v:=.agg #[encStr t.aq,.int .i64 t.var,.slice (some ⟨w.heap.size+2,0,none⟩) t.args.length t.args.length]) ?_ rfl ⟨U,by rw[←Tn];rfl,L,PF.o,GF.o,LF.o⟩;rw[iM];simp[results,Tryz.f129,go_sem,k0,k1,k2]
set_option maxRecDepth 512
set_option maxHeartbeats 200000
theorem xK {w:World}{c:Nat}{n m:Int}(t:Ty) (hc:w.heap[c]?=some (.cells #[.int .i64 n] 3 (0,0))) :
  (((w.setCell ⟨c,0,none⟩ (.int .i64 m)).alloc (.cells #[encStr t.aq,.int .i64 t.var,.slice t.A t.args.length t.cap] 53)).heap[c]?=some (.cells #[.int .i64 m] 3 (0,0)))∧Tr c w (.bool false) ((w.setCell ⟨c,0,none⟩ (.int .i64 m)).alloc (.cells #[encStr t.aq,.int .i64 t.var,.slice t.A t.args.length t.cap] 53)) (.bool false):=by
 have hlt:=ae hc;have hs1:(w.setCell ⟨c,0,none⟩ (.int .i64 m)).heap.size=w.heap.size:=by simp[World.setCell]
 have h1:=aw hc 0 (.int .i64 m);refine⟨(((eR _).alloc _).heap (by rw[hs1];exact hlt)).trans h1,?_⟩;have h2:Tr c w (.bool false) (w.setCell ⟨c,0,none⟩ (.int .i64 m)) (.bool false):=⟨rfl,rfl,rfl,by rw[hs1];exact aiG _,fun k _ hk _=>Below.heap_setCell _ ⟨c,0,none⟩ _ k hk,.inl rfl⟩;exact h2.trans (Tr.dQ ((eR _).alloc _))
set_option maxRecDepth 10000
set_option maxHeartbeats 8000000
theorem L6 (t:Ty) (d n c:Nat) (w:World) (hc:w.heap[c]?=some (.cells #[.int .i64 n] 3 (0,0))) (hn:n≤1000000) :
  Calls Tryz.prog 211 #[bl t,.int .i64 d,.pointer (some ⟨c,0,none⟩)] w fun e w'=>e=.returned (.bool true)∧w'.heap[c]?=some (.cells #[.int .i64 ((n+1:Nat):Int)] 3 (0,0))∧Tr c w (.bool false) w' (.bool false):=by
 have hlt:=ae hc;have X0:Ext w (w.alloc (.cells #[encStr t.aq,.int .i64 t.var,.slice t.A t.args.length t.cap] 53)):=(eR w).alloc _;have hc1:=(X0.heap hlt).trans hc;have hcell:(w.alloc (.cells #[encStr t.aq,.int .i64 t.var,.slice t.A t.args.length t.cap] 53)).cell? ⟨c,0,none⟩=some (.int .i64 n):=ag hc1 0;have iI:(w.alloc (.cells #[encStr t.aq,.int .i64 t.var,.slice t.A t.args.length t.cap] 53)).frozen? ⟨c,0,none⟩=false:=ai hc1 0;have HE:=aa (xK (m:=(n:Int)+1) t hc);clear hc hc1 X0;unfold bl;go_enter Tryz.func211,Tryz.ntmps211;go_wp2;go_ret;exact⟨rfl,by have:=HE.o.1;simpa using this,HE.o.2⟩
theorem G4 (t:Ty) (d n c:Nat) (w:World) (hc:w.heap[c]?=some (.cells #[.int .i64 n] 3 (0,0))) (_hn:n≤1000000) (_hd:d≤1000000) :
  Calls Tryz.prog 212 #[bl t,.int .i64 d,.pointer (some ⟨c,0,none⟩)] w fun e w'=>e=.returned (.bool true)∧w'.heap[c]?=some (.cells #[.int .i64 ((max n d:Nat):Int)] 3 (0,0))∧Tr c w (.bool false) w' (.bool false):=by
 have hlt:=ae hc;have X0:Ext w (w.alloc (.cells #[encStr t.aq,.int .i64 t.var,.slice t.A t.args.length t.cap] 53)):=(eR w).alloc _;have hc1:=(X0.heap hlt).trans hc;have hcell:(w.alloc (.cells #[encStr t.aq,.int .i64 t.var,.slice t.A t.args.length t.cap] 53)).cell? ⟨c,0,none⟩=some (.int .i64 n):=ag hc1 0;have iI:(w.alloc (.cells #[encStr t.aq,.int .i64 t.var,.slice t.A t.args.length t.cap] 53)).frozen? ⟨c,0,none⟩=false:=ai hc1 0;have HE:=aa (fun m:Int=>xK (m:=m) t hc);clear hc hc1 X0;unfold bl;go_enter Tryz.func212,Tryz.ntmps212;go_wp2
 all_goals go_ret
 all_goals first
  |exact⟨rfl,by rw[show max n d=d by omega];exact(HE.o _).1,(HE.o _).2⟩
  |exact⟨rfl,by rw[show max n d=n by omega];exact(HE.o _).1,(HE.o _).2⟩
  |exact⟨rfl,by rw[show((max n d:Nat):Int)=max (n:Int) (d:Int) by omega];exact(HE.o _).1,(HE.o _).2⟩
  |exact⟨rfl,by rw[show((max n d:Nat):Int)=(if (n:Int)≤d then(d:Int) else n) by split<;>omega];exact(HE.o _).1,(HE.o _).2⟩
set_option maxRecDepth 512
set_option maxHeartbeats 200000
theorem vN : fz 211:=enters_of Tryz.func211 (by kernel_rfl) rfl
theorem sM : fz 212:=enters_of Tryz.func212 (by kernel_rfl) rfl
set_option maxRecDepth 10000
set_option maxHeartbeats 8000000
theorem PX (t:Ty) (w:World) (h:aH w t) (hsz:t.size≤900000):Calls Tryz.prog 179 #[bl t] w fun e w'=>e=.returned (.int .i64 t.size)∧Ext w w':=by
 have HB:=aa (aU.new w t);have X1:Ext w ((w.alloc (.cells #[encStr t.aq,.int .i64 t.var,.slice t.A t.args.length t.cap] 53)).alloc (.cells #[.int .i64 0] 3)):=((eR w).alloc _).alloc _;have hs:(w.alloc (.cells #[encStr t.aq,.int .i64 t.var,.slice t.A t.args.length t.cap] 53)).heap.size=w.heap.size+1:=by simp
 have hc:((w.alloc (.cells #[encStr t.aq,.int .i64 t.var,.slice t.A t.args.length t.cap] 53)).alloc (.cells #[.int .i64 0] 3)).heap[w.heap.size+1]?=some (.cells #[.int .i64 0] 3 (0,0)):=ah (w.alloc (.cells #[encStr t.aq,.int .i64 t.var,.slice t.A t.args.length t.cap] 53)) (.cells #[Value.int .i64 0] 3) (w.heap.size+1) hs.symm;have HW:=aa (zo 211 #[.pointer (some ⟨w.heap.size+1,0,none⟩)] vN w (w.heap.size+1) 1000000
  (fun pre w' v=>v=.bool false∧w'.heap[w.heap.size+1]?=some (.cells #[.int .i64 pre.length] 3 (0,0)))
  (fun _ _ _=>False)
  (fun pre w1 w2 v hj e=>⟨hj.1,(e.heap (ae hj.2)).trans hj.2⟩)
  (fun pre w1 v hj=>⟨by omega,ae hj.2,fun k hk=>by rw[hj.1] at hk;cases hk⟩)
  (fun pre x w1 v hj hN hx ht=>by
   obtain⟨rfl,hcell⟩:=hj;refine(L6 x.2 x.1 pre.length (w.heap.size+1) w1 hcell (by omega)).mono ?_;rintro e w2 ⟨rfl,hc2,hT⟩;exact⟨.bool false,hT,.inl ⟨rfl,rfl,by rw[aiL];exact hc2⟩⟩)
  t 1 [] ((w.alloc (.cells #[encStr t.aq,.int .i64 t.var,.slice t.A t.args.length t.cap] 53)).alloc (.cells #[.int .i64 0] 3)) (.bool false) h X1.below ⟨rfl,hc⟩ (by omega) (by simp;omega))
 have HL:aiE ((t.iE 1).length=t.size):=aa (qf t 1);have HX:=aa X1;clear h hc hs X1;unfold bl at *;go_enter Tryz.func179,Tryz.ntmps179;go_wp2_with fail;refine HW.o.mono ?_;rintro e w2 ⟨v2,hT,(⟨rfl,hj⟩|⟨rfl,q,hq,hx⟩)⟩
 ·have HE:=aa (Ext.cw (HX.o.below.trans (hT.below HX.o.size (by omega) (fun k e=>by cases e))) (aiG _));have L8:=hj.2;rw[List.nil_append,HL.o] at L8;have k0:=ag L8 0;have hb:=ae L8;simp only[aiN,aiO] at k0;clear hT hj L8;go_wp2;go_ret;exact⟨rfl,HE.o⟩
 ·exact absurd hx id
set_option maxRecDepth 512
set_option maxHeartbeats 200000
def KX (l:List (Nat×Ty)):Nat:=(l.map (·.1)).foldr max 0
theorem xL (l:List (Nat×Ty)) (x:Nat×Ty):KX (l++[x])=max (KX l) x.1:=by
 unfold KX;rw[aiX,List.map_singleton]
 induction l.map (·.1) with
 |nil=>simp
 |cons y l ih=>simp only[List.cons_append,List.foldr_cons,ih];omega
theorem DD (t:Ty):KX (t.iE 1)=t.depth:=by
 have h1:∀c,KX (t.iE 1)≤c↔t.depth≤c:=by
  intro c;have h2:=xi c t 1;unfold KX;rw[gQ]
  constructor
  ·intro h;have:=h2.1 (fun p hp=>h p.1 (List.mem_map.2 ⟨p,hp,rfl⟩));omega
  ·intro h x hx;obtain⟨p,hp,rfl⟩:=List.mem_map.1 hx;exact h2.2 (by omega) p hp
 exact Nat.le_antisymm ((h1 _).2 (aiG _)) ((h1 _).1 (aiG _))
set_option maxRecDepth 10000
set_option maxHeartbeats 8000000
theorem L9 (t:Ty) (w:World) (h:aH w t) (hsz:t.size≤900000):Calls Tryz.prog 180 #[bl t] w fun e w'=>e=.returned (.int .i64 t.depth)∧Ext w w':=by
 have HB:=aa (aU.new w t);have X1:Ext w ((w.alloc (.cells #[encStr t.aq,.int .i64 t.var,.slice t.A t.args.length t.cap] 53)).alloc (.cells #[.int .i64 0] 3)):=((eR w).alloc _).alloc _;have hs:(w.alloc (.cells #[encStr t.aq,.int .i64 t.var,.slice t.A t.args.length t.cap] 53)).heap.size=w.heap.size+1:=by simp
 have hc:((w.alloc (.cells #[encStr t.aq,.int .i64 t.var,.slice t.A t.args.length t.cap] 53)).alloc (.cells #[.int .i64 0] 3)).heap[w.heap.size+1]?=some (.cells #[.int .i64 0] 3 (0,0)):=ah (w.alloc (.cells #[encStr t.aq,.int .i64 t.var,.slice t.A t.args.length t.cap] 53)) (.cells #[Value.int .i64 0] 3) (w.heap.size+1) hs.symm;have HW:=aa (zo 212 #[.pointer (some ⟨w.heap.size+1,0,none⟩)] sM w (w.heap.size+1) 1000000
  (fun pre w' v=>v=.bool false∧w'.heap[w.heap.size+1]?=some (.cells #[.int .i64 (KX pre:Nat)] 3 (0,0))∧KX pre≤1000000)
  (fun _ _ _=>False)
  (fun pre w1 w2 v hj e=>⟨hj.1,(e.heap (ae hj.2.1)).trans hj.2.1,hj.2.2⟩)
  (fun pre w1 v hj=>⟨by omega,ae hj.2.1,fun k hk=>by rw[hj.1] at hk;cases hk⟩)
  (fun pre x w1 v hj hN hx ht=>by
   obtain⟨rfl,hcell,hmx⟩:=hj;refine(G4 x.2 x.1 (KX pre) (w.heap.size+1) w1 hcell hmx hx).mono ?_;rintro e w2 ⟨rfl,hc2,hT⟩;exact⟨.bool false,hT,.inl ⟨rfl,rfl,by rw[xL];exact hc2,by rw[xL];omega⟩⟩)
  t 1 [] ((w.alloc (.cells #[encStr t.aq,.int .i64 t.var,.slice t.A t.args.length t.cap] 53)).alloc (.cells #[.int .i64 0] 3)) (.bool false) h X1.below ⟨rfl,hc,aiH _⟩ (by omega) (by simp;omega))
 have HL:aiE (KX (t.iE 1)=t.depth):=aa (DD t);have HX:=aa X1;clear h hc hs X1;unfold bl at *;go_enter Tryz.func180,Tryz.ntmps180;go_wp2_with fail;refine HW.o.mono ?_;rintro e w2 ⟨v2,hT,(⟨rfl,hj⟩|⟨rfl,q,hq,hx⟩)⟩
 ·have HE:=aa (Ext.cw (HX.o.below.trans (hT.below HX.o.size (by omega) (fun k e=>by cases e))) (aiG _));have L8:=hj.2.1;rw[List.nil_append,HL.o] at L8;have k0:=ag L8 0;have hb:=ae L8;simp only[aiN,aiO] at k0;clear hT hj L8;go_wp2;go_ret;exact⟨rfl,HE.o⟩
 ·exact absurd hx id
set_option maxRecDepth 512
set_option maxHeartbeats 200000
theorem zt {a y:World}{B:Nat}(e:Ext a y) (h:a.heap[B]?=some (.cells #[.string ⟨#[]⟩,.int .i64 0,.slice none 0 0] 53 (0,0))) :
  y.cell? ⟨B,0,none⟩=some (.string ⟨#[]⟩)∧y.cell? ⟨B,1,none⟩=some (.int .i64 0)∧y.cell? ⟨B,2,none⟩=some (.slice none 0 0)∧y.frozen? ⟨B,0,none⟩=false∧y.frozen? ⟨B,1,none⟩=false∧y.frozen? ⟨B,2,none⟩=false∧B<y.heap.size:=by
 have hb:=(e.heap (ae h)).trans h;exact⟨ag hb 0,ag hb 1,ag hb 2,ai hb 0,ai hb 1,ai hb 2,ae hb⟩
theorem WQ {W a y:World}{B:Nat}(h1:Ext W a) (e:Ext a y) (hB:W.heap.size≤B) (h:a.heap[B]?=some (.cells #[.string ⟨#[]⟩,.int .i64 0,.slice none 0 0] 53 (0,0))) (x:Ty) :
  Ext W (((y.setCell ⟨B,0,none⟩ (encStr x.aq)).setCell ⟨B,1,none⟩ (.int .i64 x.var)).setCell ⟨B,2,none⟩ (.slice x.A x.args.length x.cap))∧aU (((y.setCell ⟨B,0,none⟩ (encStr x.aq)).setCell ⟨B,1,none⟩ (.int .i64 x.var)).setCell ⟨B,2,none⟩ (.slice x.A x.args.length x.cap)) B x:=by
 refine⟨(((h1.trans e).setCell hB _).setCell hB _).setCell hB _,?_⟩;have:=aw (aw (aw ((e.heap (ae h)).trans h) 0 (encStr x.aq)) 1 (.int .i64 x.var)) 2 (.slice x.A x.args.length x.cap);unfold aU;rw[this];rfl
set_option maxRecDepth 10000
set_option maxHeartbeats 8000000
theorem DG (bb p:Nat) (A:Option Addr) (cap:Nat) (s:List Pr) (t:Ty) (hc:t.aq=[]) (x:Ty) (hx:putAt (bF s) (bG s) t.var=some x):GY bb p A cap s t:=by
 intro w left level ht DB gq hbl hl0 sj hv0 KO;obtain⟨q,hq,hqv,WR⟩:=(ee gq.sub.iT).1 hx;have TK:aH w x:=WR▸gq.sub.Oa.ty q hq;obtain⟨hx1,hx2⟩:x.size≤4096∧x.depth≤100:=WR▸gq.small q hq;obtain⟨W,hW⟩:∃W,W=(w.alloc (.cells #[encStr t.aq,.int .i64 t.var,.slice t.A t.args.length t.cap] 53)).alloc (.cells #[.string ⟨#[]⟩,.int .i64 0,.slice none 0 0] 53):=⟨_,rfl⟩;have HW:=aa hW.symm;have X0:aiE (Ext w W):=aa (by rw[hW];exact((eR _).alloc _).alloc _);have B1:aiE (aU W w.heap.size t):=aa (by rw[hW];exact(aU.new w t).ext ((eR _).alloc _));have B2:aiE (W.heap[w.heap.size+1]?=some (.cells #[.string ⟨#[]⟩,.int .i64 0,.slice none 0 0] 53 (0,0))):=aa (by rw[hW];exact ah _ _ _ (by simp));have sK:W.heap.size=w.heap.size+2:=by rw[hW];simp
 have RX:=hbl.lt;have KW:=aa (hbl.ext X0.o);have G5:=aa (fun w' (e:Ext W w')=>aa (Ob p A cap s t.var w' (gq.sub.ext (X0.o.trans e))));rw[hx] at G5;have ei:=aa (fun w' (e:Ext W w')=>aiI (KW.o.ext e).c0 (B1.o.ext e).c1);have HXi:=aa (TK.ext X0.o);have hcB:(t.aq == ([]:aj))=true:=by simpa using hc
 have b0:=B1.o.c0;have hbW:bb<W.heap.size:=by omega
 have hNW:w.heap.size<W.heap.size:=by omega
 obtain⟨d0,b1⟩:=ei.o W (eR _);have n1:¬bb=W.heap.size:=by omega
 have n2:¬W.heap.size=bb:=by omega
 have n3:¬w.heap.size=W.heap.size:=by omega
 have n4:¬W.heap.size=w.heap.size:=by omega
 have HWs:=aa sK;have H:=aa ht;have Hc:=aa hc;have Ok:aiE (aC bb x=true):=aa (WR▸gq.ja q hq);have Hx:=aa hx;clear hW ht DB gq hbl hc sK hx hqv WR hq TK;simp only[Option.getD_some,Option.isSome_some] at G5;unfold bl at *;go_enter Tryz.func129,Tryz.ntmps129;go_upto_region 1 with fail;rw[HW.o];clear HW;go_upto_region 2 with fail
 go_cut [7,8] (fun s7 s8 wx=>∃b7:Nat,s7=.pointer (some ⟨b7,0,none⟩)∧s8=.bool true∧W.heap.size≤b7∧aiE (Ext W wx)∧aiE (aU wx b7 x))
 case first=>
  go_region_held3 (fun w'=>w'.cell? ⟨bb,0,none⟩=some (.pointer (some ⟨p,0,none⟩))∧w'.cell? ⟨w.heap.size,1,none⟩=some (.int .i64 t.var)) (first|assumption|go_keep) (first
   |(
    go_at_call 178
    refine Calls.mono (G5.o _ ?e).o ?_
    (case e=>exact(by repeat(first|exact eR _|exact eA (by assumption) _|refine eA ?_ _|refine eM ?_ _ _|refine eD ?_|refine eN ?_ _)))
    rintro e y ⟨rfl,gY⟩;have kS:=ei.o y (by refine Ext.trans ?_ gY;exact(by repeat(first|exact eR _|exact eA (by assumption) _|refine eA ?_ _|refine eM ?_ _ _|refine eD ?_|refine eN ?_ _)))
    (try (have zz:=zt gY (B:=W.heap.size) (by first|exact ah W _ _ rfl|fail);obtain⟨z0,z1,z2,z3,z4,z5,z6⟩:=zz))))
  all_goals (go_wp2_with fail;go_meet;first
   |exact⟨y.heap.size,rfl,rfl,aiM (aiG _) ((eR W).drew.trans gY).size,aa (((eR W).drew.trans gY).alloc _),aa (ah _ _ _ rfl)⟩
   |exact⟨W.heap.size,rfl,rfl,aiG _,aa ((WQ (((eR W).alloc _).drew) gY (aiG _) (ah W _ _ rfl) _).1),aa ((WQ (((eR W).alloc _).drew) gY (aiG _) (ah W _ _ rfl) _).2)⟩)
 case rest=>
  obtain⟨b7,rfl,rfl,vC,HX,H7⟩:=hcut;have hn7:¬bb=b7:=by omega
  have TL:¬b7=bb:=by omega
  have hwr:IntKind.i64.wrap (left - (x.size:Int))=left - (x.size:Int):=by rw[IntKind.wrap_i64];omega
  have ki:=aa (fun w' (e:Ext wc w')=>aa (PX x w' ((HXi.o.ext HX.o).ext e) (by omega)));have Ol:=aa (fun w' (h:aH w' x)=>aa (L9 x w' h (by omega)));have vO:=aa (fun w' (h:aH w' x)=>aa (xJ x w' h (by omega)));have Om:=aa (KW.o.ext HX.o);have HS7:=aa (fun w' (e:Ext wc w')=>aiI (Om.o.ext e).c1 (aiI (H7.o.ext e).c0 (aiI (H7.o.ext e).c1 (H7.o.ext e).c2)));unfold bl at ki Ol vO;go_wp2;have TC:=HS7.o wc.drew (eR _).drew;refine mq 9 10 #[false,false,false,false,false,false,false,false,false,false] (fun w'=>w'.cell? ⟨bb,1,none⟩=some (.int .i64 left)∧w'.cell? ⟨b7,0,none⟩=some (encStr x.aq)∧w'.cell? ⟨b7,1,none⟩=some (.int .i64 x.var)∧w'.cell? ⟨b7,2,none⟩=some (.slice x.A x.args.length x.cap)) (by kernel_rfl) (by kernel_rfl) (by kernel_rfl) ?_
  (refine bP (i:=0) (v := ?_) rfl (by kernel_rfl) (by kernel_rfl) (by kernel_rfl) (by kernel_rfl) (fun _ _ _ h=>h) (Or.inl ⟨by kernel_rfl,?_⟩) (by assumption) ?_;rotate_left 1;(focus (intro w hSw;(try dsimp only at hSw);(try obtain⟨g1,g2,g3⟩:=hSw);(try obtain⟨g1,g2⟩:=hSw);go_simp;try with_reducible rfl));simp only[Act.put,aiQ,aiR,aiS])
  (refine bP (i:=1) (v := ?_) rfl (by kernel_rfl) (by kernel_rfl) (by kernel_rfl) (by kernel_rfl) (fun _ _ _ h=>h) (Or.inl ⟨by kernel_rfl,?_⟩) (by assumption) ?_;rotate_left 1;(focus (intro w hSw;(try dsimp only at hSw);(try obtain⟨g1,g2,g3⟩:=hSw);(try obtain⟨g1,g2⟩:=hSw);go_simp;try with_reducible rfl));simp only[Act.put,aiQ,aiR,aiS])
  (refine bP (i:=2) (v := ?_) rfl (by kernel_rfl) (by kernel_rfl) (by kernel_rfl) (by kernel_rfl) (fun _ _ _ h=>h) (Or.inl ⟨by kernel_rfl,?_⟩) (by assumption) ?_;rotate_left 1;(focus (intro w hSw;(try dsimp only at hSw);(try obtain⟨g1,g2,g3⟩:=hSw);(try obtain⟨g1,g2⟩:=hSw);go_simp;try with_reducible rfl));simp only[Act.put,aiQ,aiR,aiS])
  (refine bP (i:=3) (v := ?_) rfl (by kernel_rfl) (by kernel_rfl) (by kernel_rfl) (by kernel_rfl) (fun _ _ _ h=>h) (Or.inl ⟨by kernel_rfl,?_⟩) (by assumption) ?_;rotate_left 1;(focus (intro w hSw;(try dsimp only at hSw);(try obtain⟨g1,g2,g3⟩:=hSw);(try obtain⟨g1,g2⟩:=hSw);go_simp;try with_reducible rfl));simp only[Act.put,aiQ,aiR,aiS])
  (refine bP (i:=4) (v := ?_) rfl (by kernel_rfl) (by kernel_rfl) (by kernel_rfl) (by kernel_rfl) (fun _ _ _ h=>h) (Or.inl ⟨by kernel_rfl,?_⟩) (by assumption) ?_;rotate_left 1;(focus (intro w hSw;(try dsimp only at hSw);(try obtain⟨g1,g2,g3⟩:=hSw);(try obtain⟨g1,g2⟩:=hSw);go_simp;try with_reducible rfl));simp only[Act.put,aiQ,aiR,aiS])
  refine cg (i:=5) (by kernel_rfl) rfl (fun KK hK => ?_)
  go_simp
  refine Calls.mono (ki.o _ (eR _).drew).o ?_;rintro e w4 ⟨rfl,eJ⟩;have X4:=aa ((eR wc).drew.trans eJ);have Od:=HS7.o _ X4.o;refine hK.out _ _ (fun _=>Od) ?_;clear hK KK TC eJ;simp only[aiQ,aiR,aiS];refine cg (i:=6) (by kernel_rfl) rfl (fun KK hK => ?_)
  go_simp
  refine hK.out _ _ (fun _=>Od) ?_;clear hK KK;simp only[aiQ,aiR,aiS];refine cg (i:=7) (by kernel_rfl) rfl (fun KK hK => ?_)
  go_simp
  refine hK.out _ _ (fun _=>Od) ?_;clear hK KK;simp only[aiQ,aiR,aiS];refine cg (i:=8) (by kernel_rfl) rfl (fun KK hK => ?_)
  go_simp
  refine hK.out _ _ (fun _=>Od) ?_;clear hK KK;simp only[aiQ,aiR,aiS];have WS:=aa (Om.o.ext X4.o);have f41:=WS.o.f1;have c41:=WS.o.c1;obtain⟨W9,WT⟩:∃W9,W9=w4.setCell ⟨bb,1,none⟩ (.int .i64 (left - x.size)):=⟨_,rfl⟩;have ze:w4.grownBy W9 (some bb):=by rw[WT];exact aL _ _ _ _
  have HL9:aiE (cY W9 bb p (left - x.size)):=aa (by rw[WT];exact WS.o.set _);have FC:aiE (w.grownBy W9 (some bb)):=aa (aX (eE (X0.o.trans (HX.o.trans X4.o)) _) ze);have Y7:aiE (aH W9 x):=aa ((HXi.o.ext (HX.o.trans X4.o)).gb ze Ok.o);have TM:aiE (aU W9 b7 x):=aa ((ze.block b7 (H7.o.ext X4.o).lt (fun e=>by injection e with e;exact TL e)).trans (H7.o.ext X4.o));have Y8:aiE (W9.heap[w.heap.size+1]?=some (.cells #[.string ⟨#[]⟩,.int .i64 0,.slice none 0 0] 53 (0,0))):=aa ((ze.block _ (by have:=(HX.o.trans X4.o).size;have:=ae B2.o;omega) (fun e=>by injection e with e;omega)).trans (((HX.o.trans X4.o).heap (ae B2.o)).trans B2.o));refine cg (i:=9) (by kernel_rfl) rfl (fun KK hK => ?_)
  go_simp
  rw[←WT];refine hK.out _ _ (fun h=>absurd rfl h) ?_;clear hK KK Od WS f41 c41 ze
  try simp only[Act.put]
  refine qQ (by kernel_rfl) ?_ _;clear WT;obtain⟨a0,a1,a2⟩:=aiI TM.o.c0 (aiI TM.o.c1 TM.o.c2);go_wp2_with fail;refine(Ol.o _ Y7.o).o.mono ?_;rintro e Y9 ⟨rfl,vP⟩;have PY:=aa (Y7.o.ext vP);have DI:=aa (TM.o.ext vP);have DJ:=aa (HL9.o.ext vP);have PZ:=aa (aX FC.o (eE vP _));have Ma:=aa ((vP.heap (ae Y8.o)).trans Y8.o);clear a0 a1 a2 vP Y7 TM HL9 FC Y8;have HZ:aiE (iD (bF s) (bG s) t=x.size∧oU (bF s) (bG s) t=x.depth∧fZ (bF s) (bG s) t=x.pure):=aa (by
   rw[jE,mi,eX,if_pos Hc.o,if_pos Hc.o,if_pos Hc.o,Hx.o];exact⟨rfl,rfl,rfl⟩)
  by_cases hdp:level+(x.depth:Int)>101
  ·have G6:=aL Y9 bb 1 (.int .i64 (-1));have Oo:=DJ.o.lt;have f11:=DJ.o.f1;have c11:=DJ.o.c1;have zV:=aa (DJ.o.set (-1));have P0:=aa (aX PZ.o G6);have Za:=aa (PY.o.gb G6 Ok.o);have P1:aiE (aU (Y9.setCell ⟨bb,1,none⟩ (.int .i64 (-1))) b7 x):=aa ((G6.block b7 DI.o.lt (fun e=>by injection e with e;exact TL e)).trans DI.o);have vQ:=aa ((G6.block (w.heap.size+1) (ae Ma.o) (fun e=>by injection e with e;omega)).trans Ma.o);clear PY DI DJ PZ Ma G6;obtain⟨a0,a1,a2⟩:=aiI P1.o.c0 (aiI P1.o.c1 P1.o.c2);have P2:=aa (vO.o _ Za.o);go_wp2_with fail;refine P2.o.o.mono ?_;rintro e TN ⟨⟨u,rfl,hu⟩,vR⟩;clear a0 a1 a2;have DK:=aa ((vR.heap (ae vQ.o)).trans vQ.o);have f0:=ai DK.o 0;have f1:=ai DK.o 1;have f2:=ai DK.o 2;have k0:=ag DK.o 0;have k1:=ag DK.o 1;have k2:=ag DK.o 2;simp only[aiN,aiO,aiP] at k0 k1 k2;have vM:=cf TN (w.heap.size+1) 0 1 2 (encStr u.aq) (.int .i64 u.var) (.slice u.A u.args.length u.cap);have PF:aiE (qT w (((TN.setCell ⟨w.heap.size+1,0,none⟩ (encStr u.aq)).setCell ⟨w.heap.size+1,1,none⟩ (.int .i64 u.var)).setCell ⟨w.heap.size+1,2,none⟩ (.slice u.A u.args.length u.cap)) bb s t u left level (-1)):=aa
    ⟨hu.ty.grown vM (fun c e=>by injection e with e;subst e;exact hu.away _ (by have:=ae vQ.o;exact this)),hu.away bb (by have:=zV.o.lt;exact this),fun c hc _=>hu.away c (by have:=ae vQ.o;omega),by omega,by have:=x.size_pos;omega,fun h=>absurd h (by omega),fun _=>.inr (by rw[HZ.o.2.1];omega)⟩
   have GF:=aa (mr (aX P0.o (eE vR _)) vM (by omega));have LF:=aa ((zV.o.ext vR).grown vM (by have:=zV.o.lt;omega));clear vR hu vM;go_wp2;refine bodyPost_ret (v:=.agg #[encStr u.aq,.int .i64 u.var,.slice u.A u.args.length u.cap]) ?_ rfl ⟨u,-1,rfl,PF.o,GF.o,LF.o⟩;simp[results,Tryz.f129,go_sem,k0,k1,k2]
  ·have zV:=DJ;have P0:=PZ;have vQ:=Ma;obtain⟨a0,a1,a2⟩:=aiI DI.o.c0 (aiI DI.o.c1 DI.o.c2);have P2:=aa (vO.o _ PY.o);go_wp2_with fail;refine P2.o.o.mono ?_;rintro e TN ⟨⟨u,rfl,hu⟩,vR⟩;clear a0 a1 a2;have DK:=aa ((vR.heap (ae vQ.o)).trans vQ.o);have f0:=ai DK.o 0;have f1:=ai DK.o 1;have f2:=ai DK.o 2;have k0:=ag DK.o 0;have k1:=ag DK.o 1;have k2:=ag DK.o 2;simp only[aiN,aiO,aiP] at k0 k1 k2;have vM:=cf TN (w.heap.size+1) 0 1 2 (encStr u.aq) (.int .i64 u.var) (.slice u.A u.args.length u.cap);have PF:aiE (qT w (((TN.setCell ⟨w.heap.size+1,0,none⟩ (encStr u.aq)).setCell ⟨w.heap.size+1,1,none⟩ (.int .i64 u.var)).setCell ⟨w.heap.size+1,2,none⟩ (.slice u.A u.args.length u.cap)) bb s t u left level (left - x.size)):=aa
    ⟨hu.ty.grown vM (fun c e=>by injection e with e;subst e;exact hu.away _ (by have:=ae vQ.o;exact this)),hu.away bb (by have:=zV.o.lt;exact this),fun c hc _=>hu.away c (by have:=ae vQ.o;omega),by omega,by have:=x.size_pos;omega,fun h=>⟨by rw[HZ.o.2.2];exact hu.is,by rw[HZ.o.1],by rw[HZ.o.2.1];omega⟩,fun h=>.inl (by rw[HZ.o.1];omega)⟩
   have GF:=aa (mr (aX P0.o (eE vR _)) vM (by omega));have LF:=aa ((zV.o.ext vR).grown vM (by have:=zV.o.lt;omega));clear vR hu vM;go_wp2;refine bodyPost_ret (v:=.agg #[encStr u.aq,.int .i64 u.var,.slice u.A u.args.length u.cap]) ?_ rfl ⟨u,left - x.size,rfl,PF.o,GF.o,LF.o⟩;simp[results,Tryz.f129,go_sem,k0,k1,k2]
theorem zW (bb p:Nat) (A:Option Addr) (cap:Nat) (s:List Pr) (v:Int) (TA:Option Addr) (tc:Nat) (hx:putAt (bF s) (bG s) v=none):GY bb p A cap s (.mk [] v TA tc []):=by
 intro w left level ht DB gq hbl hl0 sj hv0 KO;obtain⟨W,hW⟩:∃W,W=(w.alloc (.cells #[.string ⟨#[]⟩,.int .i64 v,.slice TA 0 tc] 53)).alloc (.cells #[.string ⟨#[]⟩,.int .i64 0,.slice none 0 0] 53):=⟨_,rfl⟩;have HW:=aa hW.symm;have X0:aiE (Ext w W):=aa (by rw[hW];exact((eR _).alloc _).alloc _);have B1:aiE (W.heap[w.heap.size]?=some (.cells #[.string ⟨#[]⟩,.int .i64 v,.slice TA 0 tc] 53 (0,0))):=aa (by rw[hW];exact(((eR _).alloc _).heap (by simp)).trans (ah _ _ _ rfl));have B2:aiE (W.heap[w.heap.size+1]?=some (.cells #[.string ⟨#[]⟩,.int .i64 0,.slice none 0 0] 53 (0,0))):=aa (by rw[hW];exact ah _ _ _ (by simp));have sK:W.heap.size=w.heap.size+2:=by rw[hW];simp
 have RX:=hbl.lt;have KW:=aa (hbl.ext X0.o);have G5:aiE (∀w',Ext W w'→aiE (Calls Tryz.prog 178 #[.pointer (some ⟨p,0,none⟩),.int .i64 v] w' fun e w''=>e=.returned (.tuple #[.agg #[.string ⟨#[]⟩,.int .i64 0,.slice none 0 0],.bool false])∧Ext w' w'')):=aa (fun w' e=>by
  have:=Ob p A cap s v w' (gq.sub.ext (X0.o.trans e));rw[hx] at this;exact this)
 have ei:=aa (fun w' (e:Ext W w')=>aiI (KW.o.ext e).c0 ((show w'.cell? ⟨w.heap.size,1,none⟩=some (.int .i64 v) from ag ((e.heap (ae B1.o)).trans B1.o) 1)));have b0:W.cell? ⟨w.heap.size,0,none⟩=some (.string ⟨#[]⟩):=ag B1.o 0;have hbW:bb<W.heap.size:=by omega
 have hNW:w.heap.size<W.heap.size:=by omega
 obtain⟨d0,b1⟩:=ei.o W (eR _);have n1:¬bb=W.heap.size:=by omega
 have n2:¬W.heap.size=bb:=by omega
 have n3:¬w.heap.size=W.heap.size:=by omega
 have n4:¬W.heap.size=w.heap.size:=by omega
 have HWs:=aa sK;have H:=aa ht;have Hx:=aa hx;have HZ:aiE (iD (bF s) (bG s) (.mk [] v TA tc [])=1∧oU (bF s) (bG s) (.mk [] v TA tc [])=1∧fZ (bF s) (bG s) (.mk [] v TA tc [])=(Ty.mk [] v TA tc []).pure):=aa (by
  have hc0:(Ty.mk [] v TA tc []).aq=[]:=rfl;rw[jE,mi,eX,if_pos hc0,if_pos hc0,if_pos hc0];show(match putAt (bF s) (bG s) v with|some u=>u.size|none=>1)=1∧(match putAt (bF s) (bG s) v with|some u=>u.depth|none=>1)=1∧((putAt (bF s) (bG s) v).getD _).pure=_;rw[hx];exact⟨rfl,rfl,rfl⟩)
 have hlv:level≤100:=by rw[Ty.aT] at KO;omega
 have htV:bl (.mk [] v TA tc [])=.agg #[.string ⟨#[]⟩,.int .i64 v,.slice TA 0 tc]:=rfl;clear hW ht DB gq hbl sK hx KO;rw[htV];clear htV;go_enter Tryz.func129,Tryz.ntmps129;go_upto_region 1 with fail;rw[HW.o];clear HW;go_upto_region 2 with fail
 go_cut [7,8] (fun s7 s8 wx=>s8=.bool false∧aiE (Ext W wx))
 case first=>
  go_region_held3 (fun w'=>w'.cell? ⟨bb,0,none⟩=some (.pointer (some ⟨p,0,none⟩))∧w'.cell? ⟨w.heap.size,1,none⟩=some (.int .i64 v)) (first|assumption|go_keep) (first
   |(
    go_at_call 178
    refine Calls.mono (G5.o _ ?e).o ?_
    (case e=>exact(by repeat(first|exact eR _|exact eA (by assumption) _|refine eA ?_ _|refine eM ?_ _ _|refine eD ?_|refine eN ?_ _)))
    rintro e y ⟨rfl,gY⟩;have kS:=ei.o y (by refine Ext.trans ?_ gY;exact(by repeat(first|exact eR _|exact eA (by assumption) _|refine eA ?_ _|refine eM ?_ _ _|refine eD ?_|refine eN ?_ _)))
    (try (have zz:=zt gY (B:=W.heap.size) (by first|exact ah W _ _ rfl|fail);obtain⟨z0,z1,z2,z3,z4,z5,z6⟩:=zz))))
  all_goals (go_wp2_with fail;go_meet;first
   |exact⟨rfl,aa (((eR W).drew.trans gY).alloc _)⟩
   |exact⟨rfl,aa ((WQ (((eR W).alloc _).drew) gY (aiG _) (ah W _ _ rfl) (.mk [] 0 none 0 [])).1)⟩)
 case rest=>
  obtain⟨rfl,HX⟩:=hcut;have Om:=aa (KW.o.ext HX.o);have B1c:=aa ((HX.o.heap (ae B1.o)).trans B1.o);have B2c:=aa ((HX.o.heap (ae B2.o)).trans B2.o);obtain⟨W8,ui⟩:∃W8,W8=wc.setCell ⟨bb,1,none⟩ (.int .i64 (left - 1)):=⟨_,rfl⟩;have YX:=aa ui.symm;have WU:wc.grownBy W8 (some bb):=by rw[ui];exact aL _ _ _ _
  have YY:aiE (cY W8 bb p (left - 1)):=aa (by rw[ui];exact Om.o.set _);have WO:aiE (w.grownBy W8 (some bb)):=aa (aX (eE (X0.o.trans HX.o) _) WU);have Sb:=aa ((WU.block _ (ae B1c.o) (fun e=>by injection e with e;omega)).trans B1c.o);have TG:=aa ((WU.block _ (ae B2c.o) (fun e=>by injection e with e;omega)).trans B2c.o);have jt:=jF 0 (by omega) W8;rw[show((0:Nat):Int)=0 from rfl] at jt;obtain⟨R,hR⟩:∃R,R=W8.heap.size:=⟨_,rfl⟩;obtain⟨W1,hW1⟩:∃W1,W1=W8.alloc (.cells (kt 0) 53):=⟨_,rfl⟩;have L1:aiE (Ext W8 W1):=aa (by rw[hW1];exact(eR _).alloc _);have hRw:w.heap.size≤R:=by rw[hR];exact WO.o.size
  rw[←hR,←hW1] at jt;have xd:=aa jt;have c1:=Om.o.c1;have c0:=Om.o.c0;have f1:=Om.o.f1;have Zb:=Om.o.lt;have e2:W8.cell? ⟨w.heap.size,2,none⟩=some (.slice TA 0 tc):=ag Sb.o 2;clear ui hW1 hR jt WU b0 b1 d0;go_upto_region 9 with fail;rw[YX.o];have jt:=xd.o;have PU:=aa ((L1.o.heap (ae Sb.o)).trans Sb.o);have Oi:=aa ((L1.o.heap (ae TG.o)).trans TG.o);have PS:=aa (YY.o.ext L1.o);have YZ:=aa (aX WO.o (eE L1.o _));have e2':W1.cell? ⟨w.heap.size,2,none⟩=some (.slice TA 0 tc):=ag PU.o 2;clear c1 c0 f1;go_wp2
  go_loopw [58] (fun i wr=>i=.int .i64 0∧wr=W1) (fun _ _=>0)
  case atStart=>exact⟨rfl,rfl⟩
  case round=>
   obtain⟨rfl,rfl⟩:=hrel;have g0:wr.cell? ⟨w.heap.size,0,none⟩=some (.string ⟨#[]⟩):=ag PU.o 0;have g1:wr.cell? ⟨w.heap.size,1,none⟩=some (.int .i64 v):=ag PU.o 1;have fb:=ai PU.o 2;have f0:=ai Oi.o 0;have f1:=ai Oi.o 1;have f2:=ai Oi.o 2;have k0:=ag Oi.o 0;have k1:=ag Oi.o 1;have k2:=ag Oi.o 2;simp only[aiN,aiO,aiP] at k0 k1 k2;have Oj:=aL wr w.heap.size 2 (.slice (some ⟨R,0,none⟩) 0 0);have L5:=cf (wr.setCell ⟨w.heap.size,2,none⟩ (.slice (some ⟨R,0,none⟩) 0 0)) (w.heap.size+1) 0 1 2 (.string ⟨#[]⟩) (.int .i64 v) (.slice (some ⟨R,0,none⟩) 0 0);obtain⟨WF,iM⟩:∃WF,WF=(((wr.setCell ⟨w.heap.size,2,none⟩ (.slice (some ⟨R,0,none⟩) 0 0)).setCell ⟨w.heap.size+1,0,none⟩ (.string ⟨#[]⟩)).setCell ⟨w.heap.size+1,1,none⟩ (.int .i64 v)).setCell ⟨w.heap.size+1,2,none⟩ (.slice (some ⟨R,0,none⟩) 0 0):=⟨_,rfl⟩;have GF:aiE (w.grownBy WF (some bb)):=aa (by rw[iM];exact mr (mr YZ.o Oj (aiG _)) L5 (by omega));have LF:aiE (cY WF bb p (left - 1)):=aa (by rw[iM];exact(PS.o.grown Oj (by omega)).grown L5 (by omega));have PF:aiE (qT w WF bb s (.mk [] v TA tc []) (.mk [] v (some ⟨R,0,none⟩) 0 []) left level (left - 1)):=aa
    ⟨aH.of (aiG _) (by omega) (by decide) (ak.nil _ _ _) (by simp),dG (fun hn=>absurd rfl hn) (by simp),fun c _ _=>dG (fun hn=>absurd rfl hn) (by simp),by omega,by omega,
     fun _=>⟨by rw[HZ.o.2.2,Ty.aG,Ty.aG];rfl,by rw[HZ.o.1];rfl,by rw[HZ.o.2.1];omega⟩,fun h=>.inl (by rw[HZ.o.1];omega)⟩
   clear Oj L5;go_wp2;rw[←iM];refine bodyPost_ret (v:=.agg #[.string ⟨#[]⟩,.int .i64 v,.slice (some ⟨R,0,none⟩) 0 0]) ?_ rfl ⟨.mk [] v (some ⟨R,0,none⟩) 0 [],left - 1,rfl,PF.o,GF.o,LF.o⟩;rw[iM];simp[results,Tryz.f129,go_sem,k0,k1,k2]
set_option maxRecDepth 512
set_option maxHeartbeats 200000
theorem TP (bb p:Nat) (A:Option Addr) (cap:Nat) (s:List Pr) (t:Ty):nt t=true→t.size≤100000→GY bb p A cap s t:=by
 induction t using Ty.ind with
 |h t ih=>
 intro hf hsz
 by_cases hc:t.aq=[]
 ·cases hx:putAt (bF s) (bG s) t.var with
  |some x=>exact DG bb p A cap s t hc x hx
  |none=>
   have ha:=tU hf hc;cases t with
   |mk c v TA tc l=>
   have hc':c=[]:=hc;have ha':l=[]:=ha;subst hc' ha';exact zW bb p A cap s v TA tc hx
 ·exact Dz bb p A cap s t hc (by have:=t.fy;omega) (fun k hk=>ih k hk (tS hf hk) (by have:=Ty.bo hk;omega))
structure BN (w w':World) (s:List Pr) (t u:Ty) (n:Int):Prop where
 ty:aH w' u
 away:∀c,c<w.heap.size→aC c t=true→aC c u=true
 no:ax t=false→n=1
 yes:ax t=true→iD (bF s) (bG s) t≤4096∧oU (bF s) (bG s) t≤100→n=0∧u.pure=fZ (bF s) (bG s) t
 lim:ax t=true→¬(iD (bF s) (bG s) t≤4096∧oU (bF s) (bG s) t≤100)→n=2
theorem xM (w:World):aH w (.mk [] 0 none 0 []):=aH.of (aiG _) (by omega) (by decide) (ak.nil _ _ _) (by simp)
theorem mv (c:Nat):aC c (.mk [] 0 none 0 [])=true:=dG (fun hn=>absurd rfl hn) (by simp)
theorem P5 (w:World) (bb p:Nat) (h:bb=w.heap.size):cY (w.alloc (.cells #[.pointer (some ⟨p,0,none⟩),.int .i64 4096] 198)) bb p 4096:=ah _ _ _ h
set_option maxRecDepth 10000
set_option maxHeartbeats 8000000
theorem vS (p:Nat) (A:Option Addr) (cap:Nat) (s:List Pr) (t:Ty) (w:World) (hs:iN w p A cap s) (hsm:∀x∈s,ax x.ty=true) (ht:aH w t) (hsz:t.size≤900000) :
  Calls Tryz.prog 78 #[.pointer (some ⟨p,0,none⟩),bl t] w fun e w'=>(∃u n,e=.returned (.tuple #[bl u,.int .i64 n])∧BN w w' s t u n)∧Ext w w':=by
 obtain⟨W,hW⟩:∃W,W=(w.alloc (.cells #[encStr t.aq,.int .i64 t.var,.slice t.A t.args.length t.cap] 53)).alloc (.cells #[.string ⟨#[]⟩,.int .i64 0,.slice none 0 0] 53):=⟨_,rfl⟩;have HW:=aa hW.symm;have X0:aiE (Ext w W):=aa (by rw[hW];exact((eR _).alloc _).alloc _);have B1:aiE (aU W w.heap.size t):=aa (by rw[hW];exact(aU.new w t).ext ((eR _).alloc _));have B2:aiE (W.heap[w.heap.size+1]?=some (.cells #[.string ⟨#[]⟩,.int .i64 0,.slice none 0 0] 53 (0,0))):=aa (by rw[hW];exact ah _ _ _ (by simp));have HL:=aa (nd t W (ht.ext X0.o) (by omega));have HS:=aa hs;have xN:=aa hsm;have H:=aa ht;obtain⟨a0,a1,a2⟩:=aiI B1.o.c0 (aiI B1.o.c1 B1.o.c2);clear hW hs hsm ht;unfold bl at *;cases hl:ax t
 ·rw[hl] at HL;have Hl:=aa hl;clear hl;go_enter Tryz.func78,Tryz.ntmps78;go_upto_region 1 with fail;rw[HW.o];go_wp2_with fail;refine HL.o.mono ?_;rintro e w2 ⟨rfl,hx2⟩;have X2:=aa (X0.o.trans hx2);have G7:=aa ((hx2.heap (ae B2.o)).trans B2.o);have f0:=ai G7.o 0;have f1:=ai G7.o 1;have f2:=ai G7.o 2;have k0:=ag G7.o 0;have k1:=ag G7.o 1;have k2:=ag G7.o 2;simp only[aiN,aiO,aiP] at k0 k1 k2;clear hx2 a0 a1 a2;go_wp2;refine bodyPost_ret (v:=.tuple #[.agg #[.string ⟨#[]⟩,.int .i64 0,.slice none 0 0],.int .i64 1]) ?_ rfl ⟨⟨.mk [] 0 none 0 [],1,rfl,xM _,fun c _ _=>mv c,fun _=>rfl,(fun h=>by rw[Hl.o] at h;cases h),(fun h=>by rw[Hl.o] at h;cases h)⟩,?_⟩
  ·simp[results,Tryz.f78,go_sem,k0,k1,k2]
  ·exact((X2.o.setCell (by simp) _).setCell (by simp) _).setCell (by simp) _
 rw[hl] at HL;have Hl:=aa hl;have Hfl:=aa (xt hl);obtain⟨l1,l2,-⟩:=aS hl;clear hl;go_enter Tryz.func78,Tryz.ntmps78;go_upto_region 1 with fail;rw[HW.o];go_wp2_with fail;refine HL.o.mono ?_;rintro e w2 ⟨rfl,hx2⟩;have X2:=aa (X0.o.trans hx2);have B12:=aa (B1.o.ext hx2);have G7:=aa ((hx2.heap (ae B2.o)).trans B2.o);clear hx2 a0 a1 a2 B1 B2 HL HW;obtain⟨W3,hW3⟩:∃W3,W3=w2.alloc (.cells #[.pointer (some ⟨p,0,none⟩),.int .i64 4096] 198):=⟨_,rfl⟩;have HW3:=aa hW3.symm;have Oq:aiE (Ext w2 W3):=aa (by rw[hW3];exact(eR _).alloc _);have hpw:=ae HS.o.blk;have hs2:=X2.o.size;have sr:aiE (cY W3 w2.heap.size p 4096):=aa (by rw[hW3];exact P5 w2 _ p rfl);have R5:aiE (qR W3 w2.heap.size p A cap s):=aa ⟨HS.o.ext (X2.o.trans Oq.o),by omega,fun hn a ha=>by
   obtain⟨b,o,e,hb,-⟩:=HS.o.Oa.row.2 (Nat.pos_of_ne_zero hn);rw[e] at ha;injection ha with ha;subst ha;show b≠_;omega,fun x hx=>aP (HS.o.Oa.ty x hx) hs2,fun x hx=>by obtain⟨q1,q2,-⟩:=aS (xN.o x hx);exact⟨q1,q2⟩⟩
 have Sd:=aa (TP w2.heap.size p A cap s t Hfl.o (by omega) W3 4096 1 (H.o.ext (X2.o.trans Oq.o)) (aP H.o hs2) R5.o sr.o (by omega) (by omega) (by omega) (by omega));have WV:=aa (B12.o.ext Oq.o);have WW:=aa ((Oq.o.heap (ae G7.o)).trans G7.o);obtain⟨a0,a1,a2⟩:=aiI WV.o.c0 (aiI WV.o.c1 WV.o.c2);have hN:w.heap.size+1<w2.heap.size:=ae G7.o;clear hW3 B12 G7;unfold bl at Sd;go_upto_region 4 with fail;rw[HW3.o];go_wp2_with fail;refine Sd.o.mono ?_;rintro e w4 ⟨u,L,rfl,hu,hg4,hb4⟩;obtain⟨W5,lI⟩:∃W5,W5=w4.alloc (.cells #[encStr u.aq,.int .i64 u.var,.slice u.A u.args.length u.cap] 53):=⟨_,rfl⟩;have HW5:=aa lI.symm;have zA:aiE (Ext w4 W5):=aa (by rw[lI];exact(eR _).alloc _);have hs3:=Oq.o.size;have X5:aiE (Ext w W5):=aa (((X2.o.trans Oq.o).grown hg4 (fun k e=>by injection e with e;omega)).trans zA.o);have HB5:=aa (hb4.ext zA.o);have B5:aiE (aU W5 w4.heap.size u):=aa (by rw[lI];exact aU.new w4 u);have P6:=aa ((zA.o.heap (by have:=hg4.size;have:=ae WW.o;omega)).trans ((hg4.block _ (ae WW.o) (fun e=>by injection e with e;omega)).trans WW.o));have Hu:=aa hu;have aeB:w.heap.size+1<W5.heap.size:=ae P6.o;obtain⟨b0,b1,b2⟩:=aiI B5.o.c0 (aiI B5.o.c1 B5.o.c2);have c1:=HB5.o.c1;have hbl:=HB5.o.lt;clear lI hu hg4 hb4 a0 a1 a2 Sd WV WW;go_upto_region 5 with fail;rw[HW5.o];have f0:=ai P6.o 0;have f1:=ai P6.o 1;have f2:=ai P6.o 2;have k0:=ag P6.o 0;have k1:=ag P6.o 1;have k2:=ag P6.o 2;simp only[aiN,aiO,aiP] at k0 k1 k2
 by_cases hL:L<0
 ·have HN:=aa (Hu.o.no hL);go_wp2;refine bodyPost_ret (v:=.tuple #[.agg #[.string ⟨#[]⟩,.int .i64 0,.slice none 0 0],.int .i64 2]) ?_ rfl ⟨⟨.mk [] 0 none 0 [],2,rfl,xM _,fun c _ _=>mv c,(fun h=>by rw[Hl.o] at h;cases h),(fun _ h=>by rcases HN.o with h1|h1<;>omega),fun _ _=>rfl⟩,?_⟩
  ·simp[results,Tryz.f78,go_sem,k0,k1,k2]
  ·exact((X5.o.setCell (by simp) _).setCell (by simp) _).setCell (by simp) _
 ·have HY:=aa (Hu.o.yes (by omega));have KY:=aa (Hu.o.ty.ext zA.o);have vM:=cf W5 (w.heap.size+1) 0 1 2 (encStr u.aq) (.int .i64 u.var) (.slice u.A u.args.length u.cap);have HTF:=aa (KY.o.grown vM (fun c e=>by injection e with e;subst e;exact Hu.o.away _ (by have:=Oq.o.size;omega) (aP H.o (by omega))));clear vM;go_wp2;refine bodyPost_ret (v:=.tuple #[.agg #[encStr u.aq,.int .i64 u.var,.slice u.A u.args.length u.cap],.int .i64 0]) ?_ rfl ⟨⟨u,0,rfl,HTF.o,fun c hc h=>Hu.o.away c (by have:=Oq.o.size;omega) h,(fun h=>by rw[Hl.o] at h;cases h),fun _ _=>⟨rfl,HY.o.1⟩,fun _ h=>absurd ⟨by have:=HY.o.2.1;omega,by have:=HY.o.2.2;omega⟩ h⟩,?_⟩
  ·simp[results,Tryz.f78,go_sem,k0,k1,k2]
  ·exact((X5.o.setCell (by simp) _).setCell (by simp) _).setCell (by simp) _
set_option maxRecDepth 512
set_option maxHeartbeats 200000
section
variable {c base:Nat}{w w':World}{v:Value}{us:List Int}
end
end Go.Proofs.YtigafbmabjglfaaGreatDoor
