import Derived.Test.YtigafbmabjglfaaGreatDoorJT18
import Derived.Deep.LoopGhost
namespace Go.Proofs.YtigafbmabjglfaaGreatDoor
open Go.RowKit Go.Shelf
structure eZ (w:World) (A:Option Addr) (s:List Pr):Prop where
 row:ak bJ w A s
 ty:∀p∈s,aC w p.ty
section
variable {w w':World}{A:Option Addr}{s:List Pr}
theorem eZ.ext (h:eZ w A s) (e:Ext w w'):eZ w' A s:=⟨ak.ext bJ h.row e,fun p hp=>(h.ty p hp).ext e⟩
theorem nz (h:ak bJ w A s){i:Nat}(hi:i<s.length) :
  ∃b o,A=some ⟨b,o,none⟩∧b<w.heap.size∧w.cell? ⟨b,o+i*4,none⟩=some (.int .i64 (s[i]'hi).v)∧w.cell? ⟨b,o+i*4+1,none⟩=some (.string ⟨(s[i]'hi).ty.aq.toArray⟩) ∧
   w.cell? ⟨b,o+i*4+2,none⟩=some (.int .i64 (s[i]'hi).ty.var)∧w.cell? ⟨b,o+i*4+3,none⟩=some (.slice (s[i]'hi).ty.A (s[i]'hi).ty.args.length (s[i]'hi).ty.cap):=by
 obtain⟨b,o,e,hb,hc⟩:=ak.at_ bJ h hi;refine⟨b,o,e,hb,?_,?_,?_,?_⟩
 ·have:=hc 0 (by decide);simpa [bJ,Pr.cells] using this
 ·have:=hc 1 (by decide);simpa [bJ,Pr.cells] using this
 ·have:=hc 2 (by decide);simpa [bJ,Pr.cells] using this
 ·have:=hc 3 (by decide);simpa [bJ,Pr.cells] using this
end
@[go_sem] def Wy (p:Pr):Value:=.agg #[.int .i64 p.v,encStr p.ty.aq,.int .i64 p.ty.var,.slice p.ty.A p.ty.args.length p.ty.cap]
structure ij (w:World) (p:Nat) (A:Option Addr) (cap:Nat) (s:List Pr):Prop where
 blk:w.heap[p]?=some (.cells #[.slice A s.length cap] 192 (0,0))
 le:s.length≤cap
 max:cap≤9223372036854775807
 Mx:eZ w A s
 few:s.length≤100000
 iK:fG s
theorem ij.ext {w w':World}{p:Nat}{A:Option Addr}{cap:Nat}{s:List Pr}(h:ij w p A cap s) (e:Ext w w'):ij w' p A cap s:=⟨(e.heap (ae h.blk)).trans h.blk,h.le,h.max,h.Mx.ext e,h.few,h.iK⟩
theorem ij.cell {w:World}{p:Nat}{A:Option Addr}{cap:Nat}{s:List Pr}(h:ij w p A cap s):w.cell? ⟨p,0,none⟩=some (.slice A s.length cap):=by simp[World.cell?,h.blk]
def mN (a x:Int):Int:=if a<x then -1 else if x<a then 1 else 0
set_option maxRecDepth 10000
set_option maxHeartbeats 8000000
theorem J9 (p:Pr) (x:Int) (w:World):Calls Tryz.prog 208 #[Wy p,.int .i64 x] w fun e w'=>e=.returned (.int .i64 (mN p.v x))∧Ext w w':=by
 have X0:ahg (Ext w (w.alloc (.cells #[.int .i64 p.v,encStr p.ty.aq,.int .i64 p.ty.var,.slice p.ty.A p.ty.args.length p.ty.cap] 194))):=aa ((eR w).alloc _);obtain⟨R,hR⟩:∃R,R=mN p.v x:=⟨_,rfl⟩;rw[←hR];have HR:=aa hR;clear hR;unfold Wy
 by_cases h1:p.v<x
 ·have hr:R = -1:=by rw[HR.o];unfold mN;rw[if_pos h1]
  clear HR;subst hr;go_enter Tryz.func208,Tryz.ntmps208;go_wp2;go_ret;exact⟨rfl,X0.o⟩
 by_cases h2:x<p.v
 ·have hr:R=1:=by rw[HR.o];unfold mN;rw[if_neg h1,if_pos h2]
  clear HR;subst hr;go_enter Tryz.func208,Tryz.ntmps208;go_wp2;go_ret;exact⟨rfl,X0.o⟩
 ·have hr:R=0:=by rw[HR.o];unfold mN;rw[if_neg h1,if_neg h2]
  clear HR;subst hr;go_enter Tryz.func208,Tryz.ntmps208;go_wp2;go_ret;exact⟨rfl,X0.o⟩
theorem Rf (A:Option Addr) (cap:Nat) (s:List Pr) (x:Int) (w:World) (h:ak bJ w A s) (hr:fG s) (hl:s.length≤100000) :
  Calls Tryz.prog 207 #[.slice A s.length cap,.int .i64 x,.func (.func 208) #[] #[]] w fun e w'=>(∃i:Nat,e=.returned (.tuple #[.int .i64 i,.bool (dF s x i)])∧uY s x i)∧Ext w w':=by
 have HL:=aa h;have HR:=aa hr;have HF:=aa (fun(p:Pr) w'=>aa (J9 p x w'));unfold Wy at HF;clear h hr;go_enter Tryz.func207,Tryz.ntmps207;go_wp2
 go_loopg [9,10] s.length (fun kx s9 Rg wr=>∃lo hi:Nat,s9=.int .i64 lo∧Rg=.int .i64 hi∧lo≤hi∧hi≤s.length∧hi - lo≤kx∧ahg (Ext w wr)∧ahg ((∀t (ht:t<s.length),t<lo→(s[t]'ht).v<x)∧(∀t (ht:t<s.length),hi≤t→x≤(s[t]'ht).v)))
 case atStart=>exact⟨0,s.length,rfl,rfl,ahj _,ahi _,by omega,aa (eR _),aa ⟨fun t _ ht=>absurd ht (Nat.not_lt_zero _),fun t h1 h2=>by omega⟩⟩
 case round=>
  obtain⟨lo,hi,rfl,rfl,hlh,jF,hg,HX,I⟩:=hrel
  by_cases hlt:lo<hi
  ·have gD:(lo+hi) / 2<s.length:=by omega
   obtain⟨b,o,rfl,hb,q0,q1,q2,q3⟩:=nz (HL.o.ext (C:=bJ) HX.o) gD;have HC:=aa (HF.o (s[(lo+hi) / 2]'gD) wr);have HM:ahg (∃p,p=s[(lo+hi) / 2]'gD):=aa ⟨_,rfl⟩;have Nl:=aa (fun t (ht:t<s.length) (h:t≤(lo+hi) / 2)=>(by
    rcases Nat.lt_or_ge t ((lo+hi) / 2) with h1|h1
    ·exact Int.le_of_lt (ib HR.o h1 gD)
    ·obtain rfl:t=(lo+hi) / 2:=by omega
     exact Int.le_refl _:(s[t]'ht).v≤(s[(lo+hi) / 2]'gD).v))
   have Wz:=aa (fun t (ht:t<s.length) (h:(lo+hi) / 2≤t)=>(by
    rcases Nat.lt_or_ge ((lo+hi) / 2) t with h1|h1
    ·exact Int.le_of_lt (ib HR.o h1 ht)
    ·obtain rfl:t=(lo+hi) / 2:=by omega
     exact Int.le_refl _:(s[(lo+hi) / 2]'gD).v≤(s[t]'ht).v))
   generalize s[(lo+hi) / 2]'gD=p at *
   by_cases EW:p.v<x
   ·have hc:mN p.v x = -1:=by unfold mN;rw[if_pos EW]
    rw[hc] at HC;have I2:=aa (ahk (fun t (ht:t<s.length) (h:t<(lo+hi) / 2+1)=>(Int.lt_of_le_of_lt (Nl.o t ht (by omega)) EW:(s[t]'ht).v<x)) I.o.2);clear hc EW Nl Wz HM;go_wp2_with fail;refine HC.o.o.mono ?_;rintro e w3 ⟨rfl,hx⟩;have X3:=aa (HX.o.trans hx);clear hx;go_wp2
    go_roundg (hi - ((lo+hi) / 2+1))
    case measure=>omega
    case rel=>exact⟨(lo+hi) / 2+1,hi,by rw[show((lo:Int)+(hi:Int)) / 2+1=(((lo+hi) / 2+1:Nat):Int) by omega],rfl,by omega,jF,ahi _,X3,I2⟩
   ·have hc:¬mN p.v x<0:=by unfold mN;rw[if_neg EW];split<;>omega
    have I2:=aa (ahk I.o.1 (fun t (ht:t<s.length) (h:(lo+hi) / 2≤t)=>(Int.le_trans (Int.not_lt.1 EW) (Wz.o t ht h):x≤(s[t]'ht).v)));clear EW Nl Wz HM;generalize mN p.v x=c at *;go_wp2_with fail;refine HC.o.o.mono ?_;rintro e w3 ⟨rfl,hx⟩;have X3:=aa (HX.o.trans hx);clear hx;go_wp2
    go_roundg ((lo+hi) / 2 - lo)
    case measure=>omega
    case rel=>exact⟨lo,(lo+hi) / 2,rfl,by rw[show((lo:Int)+(hi:Int)) / 2=(((lo+hi) / 2:Nat):Int) by omega],by omega,by omega,ahi _,X3,I2⟩
  ·obtain rfl:hi=lo:=by omega
   have yv:ahg (uY s x hi):=aa ⟨jF,I.o.1,I.o.2⟩;clear I
   by_cases hn:hi<s.length
   ·obtain⟨b,o,rfl,hb,q0,q1,q2,q3⟩:=nz (HL.o.ext (C:=bJ) HX.o) hn;have HC:=aa (HF.o (s[hi]'hn) wr);have HH:ahg (dF s x hi=((s[hi]'hn).v == x)):=aa (jX hn);have bU:=yv.o.hi hi hn (ahi _);generalize s[hi]'hn=p at *;have EY:(hi:Int)<(s.length:Int):=by omega
    by_cases EW:p.v=x
    ·have hc:mN p.v x=0:=by unfold mN;rw[if_neg (by omega),if_neg (by omega)]
     have HB:=aa (show dF s x hi=true by rw[HH.o];simpa using EW);rw[hc] at HC;clear hc EW HH bU;go_wp2_with fail;refine HC.o.o.mono ?_;rintro e w3 ⟨rfl,hx⟩;go_wp2;go_ret2;exact⟨⟨hi,by rw[HB.o];rfl,yv.o⟩,HX.o.trans hx⟩
    ·have hc:mN p.v x=1:=by unfold mN;rw[if_neg (by omega),if_pos (by omega)]
     have HB:=aa (show dF s x hi=false by rw[HH.o];simpa using EW);rw[hc] at HC;clear hc EW HH bU;go_wp2_with fail;refine HC.o.o.mono ?_;rintro e w3 ⟨rfl,hx⟩;go_wp2;go_ret2;exact⟨⟨hi,by rw[HB.o];rfl,yv.o⟩,HX.o.trans hx⟩
   ·have EY:¬(hi:Int)<(s.length:Int):=by omega
    have hB:=r9 (s:=s) (v:=x) hn;have HB:=aa hB;clear hB;go_wp2;go_ret2;exact⟨⟨hi,by rw[HB.o];rfl,yv.o⟩,HX.o⟩
theorem EZ (p:Nat) (A:Option Addr) (cap:Nat) (s:List Pr) (x:Int) (w:World) (h:ij w p A cap s) :
  Calls Tryz.prog 175 #[.pointer (some ⟨p,0,none⟩),.int .i64 x] w fun e w'=>(∃i:Nat,e=.returned (.tuple #[.int .i64 i,.bool (dF s x i)])∧uY s x i)∧Ext w w':=by
 have HB:=aa (Rf A cap s x w h.Mx.row h.iK h.few);have c0:=h.cell;have hb:=ae h.blk;clear h;go_enter Tryz.func175,Tryz.ntmps175;go_wp2_with fail;refine HB.o.mono ?_;rintro e w2 ⟨⟨i,rfl,hi⟩,hx⟩;have Hi:=aa hi;clear hi;go_wp2;go_ret2;exact⟨⟨i,rfl,Hi.o⟩,hx⟩
theorem My (p:Nat) (A:Option Addr) (cap:Nat) (s:List Pr) (x:Int) (w:World) (h:ij w p A cap s) :
  Calls Tryz.prog 178 #[.pointer (some ⟨p,0,none⟩),.int .i64 x] w fun e w'=>e=.returned (.tuple #[bh ((putAt (br s) (bz s) x).getD Ty.zero),.bool (putAt (br s) (bz s) x).isSome])∧Ext w w':=by
 obtain⟨W,hW⟩:∃W,W=w.alloc (.cells #[.string ⟨#[]⟩,.int .i64 0,.slice none 0 0] 53):=⟨_,rfl⟩;have HW:=aa hW.symm;have X0:ahg (Ext w W):=aa (by rw[hW];exact(eR _).alloc _);have B1:ahg (W.heap[w.heap.size]?=some (.cells #[.string ⟨#[]⟩,.int .i64 0,.slice none 0 0] 53 (0,0))):=aa (by rw[hW];exact ah _ _ _ rfl);have HS:=aa (h.ext X0.o);have HF:=aa (EZ p A cap s x W HS.o);have HP:=aa (fun i (hi:uY s x i)=>pG h.iK hi);clear hW h;generalize hR:putAt (br s) (bz s) x=R at *;have HR:=aa hR;clear hR;unfold bh;go_enter Tryz.func178,Tryz.ntmps178;go_upto_region 1 with fail;rw[HW.o];clear HW;go_wp2_with fail;refine HF.o.mono ?_;rintro e w2 ⟨⟨i,rfl,hi⟩,hx2⟩;have X2:=aa hx2;have Hp:=aa (HP.o i hi);have UF:=hi.le;clear hx2 HF HP hi;have B2:=aa ((X2.o.heap (ae B1.o)).trans B1.o);have f0:=ai B2.o 0;have f1:=ai B2.o 1;have f2:=ai B2.o 2;have k0:=af B2.o 0;have k1:=af B2.o 1;have k2:=af B2.o 2;simp only[ahp,ahq,ahr] at k0 k1 k2;cases hh:dF s x i
 ·have WA:R=none:=by rw[Hp.o,hh];rfl
  clear Hp hh HR;subst WA;go_wp2;refine bodyPost_ret (v:=.tuple #[.agg #[.string ⟨#[]⟩,.int .i64 0,.slice none 0 0],.bool false]) ?_ rfl ⟨rfl,?_⟩
  ·simp[results,Tryz.f178,go_sem,k0,k1,k2]
  ·exact(((X0.o.trans X2.o).setCell (by simp) _).setCell (by simp) _).setCell (by simp) _
 ·obtain⟨hlt,-⟩:=jm hh;have WA:R=some (s[i]'hlt).ty:=by rw[Hp.o,hh,ahw hlt];rfl
  clear HR Hp hh;have c0:=(HS.o.ext X2.o).cell;have hb:=ae (HS.o.ext X2.o).blk;obtain⟨b,o,rfl,ve,q0,q1,q2,q3⟩:=nz (HS.o.ext X2.o).Mx.row hlt;have JZ:(0:Int)≤(i:Int):=by omega
  have Ej:(i:Int)<(s.length:Int):=by omega
  generalize s[i]'hlt=u at *;subst WA;go_wp2;refine bodyPost_ret (v:=.tuple #[.agg #[encStr u.ty.aq,.int .i64 u.ty.var,.slice u.ty.A u.ty.args.length u.ty.cap],.bool true]) ?_ rfl ⟨rfl,?_⟩
  ·simp[results,Tryz.f178,go_sem,k0,k1,k2]
  ·exact(((X0.o.trans X2.o).setCell (by simp) _).setCell (by simp) _).setCell (by simp) _
set_option maxRecDepth 512
set_option maxHeartbeats 200000
section
variable {P : Program}{md:Region.Mode}{ops:Array Oper}{Q:Exit→Act→World→Prop}{S:World→Prop}{last:Nat}
def fz (P:Program) (md:Region.Mode) (ops:Array Oper) (Q:Exit→Act→World→Prop) (S:World→Prop) (last:Nat):Nat→Array Bool→Act→World→Prop
 |0,listed,a,w=>Region.ready md ops listed=[]∧Q .normal a w
 |fuel+1,listed,a,w=>
  (Region.ready md ops listed=[]→Q .normal a w) ∧
  ∀i∈Region.ready md ops listed,wpOp P ops Q i (fun a' w'=>(i≠last→S w')∧fz P md ops Q S last fuel (listed.setIfInBounds i true) a' w') a w
theorem pR : ∀(fuel:Nat) (listed:Array Bool) (a:Act) (w:World),fz P md ops Q S last fuel listed a w→wpAny P md ops Q fuel listed a w
 |0,_,_,_,h=>h
 |fuel+1,_,_,_,h=>⟨h.1,fun i hi=>wpOp_mono (fun _ _ h'=>pR fuel _ _ _ h'.2) (h.2 i hi)⟩
def j7 (md:Region.Mode) (ops:Array Oper) (last i:Nat):Bool:=match ops[last]? with|some o=>o.after.any fun e=>Region.binds md e&&e.on == i|none=>true
theorem rp {i:Nat}{o:Oper}(h:j7 md ops last i=true) (ho:ops[last]?=some o):∃e∈o.after,Region.binds md e=true∧e.on=i:=by
 unfold j7 at h;rw[ho] at h;obtain⟨k,hk,h2⟩:=Array.any_eq_true.1 h;simp only[ahv,beq_iff_eq] at h2;exact⟨_,Array.getElem_mem hk,h2⟩
theorem BI {i:Nat}{oi:Oper}{v:Value}(hi:ops[i]?=some oi) (Rh:∀(j:Nat) (o:Oper) cs b,ops[j]?=some o→o.op ≠ .select cs b)
  (hQ:∀c a w,Q (.panic c) (a.put oi.dst v) w→Q (.panic c) a w) (hl:j7 md ops last i=true) :
  ∀(fuel:Nat) (listed:Array Bool) (a:Act) (w:World),
   (∀j oj,ops[j]?=some oj→j≠i→listed.getD j true=false→(∀e∈oj.after,Region.binds md e=true→e.on≠i)→oi.apart ops oj=true) →
   i∈Region.ready md ops listed→YieldsIf P ops S oi v a→S w →
   fz P md ops Q S last fuel (listed.setIfInBounds i true) (a.put oi.dst v) w→fz P md ops Q S last (fuel+1) listed a w:=by
 intro fuel
 induction fuel with
 |zero=>
  intro listed a w _ hr hy hS H;refine⟨fun h=>(by rw[h] at hr;cases hr),fun j hj => ?_⟩
  by_cases Mz:j=i
  ·subst Mz;exact hy.wpOp hi hS ⟨fun _=>hS,H⟩
  ·have:=ready_mono hj Mz;rw[H.1] at this;cases this
 |succ fuel ih=>
  intro listed a w ia hr hy hS H;refine⟨fun h=>(by rw[h] at hr;cases hr),fun j hj => ?_⟩
  by_cases Mz:j=i
  ·subst Mz;exact hy.wpOp hi hS ⟨fun _=>hS,H⟩
  ·have h1:=H.2 j (ready_mono hj Mz);obtain⟨Ri,oj,UG,hall⟩:=mem_ready.1 hj;have Rj:∀e∈oj.after,Region.binds md e=true→e.on≠i:=fun e he hb heq=>by
    have h1:=hall e he hb;have h0:=(mem_ready.1 hr).1;rw[heq] at h1
    rcases Nat.lt_or_ge i listed.size with h' |h'
    ·simp[h'] at h0 h1;rw[h0] at h1;cases h1
    ·simp[Array.getElem?_eq_none h'] at h1
   have xF:j≠last:=fun e=>by
    subst e;obtain⟨e,he,hb,ho⟩:=rp hl UG;exact Rj e he hb ho
   have h2:=wpOp_putIf UG (ia j oj UG Mz Ri Rj) (fun cs b=>Rh i oi cs b hi) (fun cs b=>Rh j oj cs b UG) hQ hy h1;have NM:∀k ok,ops[k]?=some ok→k≠i→(listed.setIfInBounds j true).getD k true=false →
     (∀e∈ok.after,Region.binds md e=true→e.on≠i)→oi.apart ops ok=true:=fun k ok hk WC P9 hno=>by
    refine ia k ok hk WC ?_ hno
    by_cases hjk:j=k
    ·subst hjk;exact Ri
    ·rw[getD_set_ne true hjk] at P9;exact P9
   refine wpOp_mono (fun a' w' h3=>⟨h3.2.1,ih (listed.setIfInBounds j true) a' w' NM (ready_mono hr (Ne.symm Mz)) h3.1 (h3.2.1 xF) ?_⟩) h2;rw[Array.setIfInBounds_comm _ _ Mz];exact h3.2.2
theorem E0 {i:Nat}{oi:Oper}{v:Value}{fuel:Nat}{listed:Array Bool}{a:Act}{w:World}(hi:ops[i]?=some oi)
  (hs:Region.noSelect ops=true) (hf:Region.free md ops listed i=true) (hr:(Region.ready md ops listed).contains i=true) (hl:j7 md ops last i=true)
  (hQ:∀c a w,Q (.panic c) (a.put oi.dst v) w→Q (.panic c) a w) (hy:YieldsIf P ops S oi v a) (hS:S w)
  (h:fz P md ops Q S last fuel (listed.setIfInBounds i true) (a.put oi.dst v) w):fz P md ops Q S last (fuel+1) listed a w:=
 BI hi (Region.noSelect_spec hs) hQ hl fuel listed a w (Region.free_spec hi hf) (by simpa using hr) hy hS h
theorem E4 {i:Nat}{o:Oper}{rest:List Oper}(h:ops.toList.drop i=o :: rest):ops[i]?=some o:=by
 have h1:=congrArg (fun l=>l[0]?) h;simpa using h1
theorem bI {i:Nat}{oi:Oper}{rest:List Oper}{v:Value}{fuel:Nat}{listed:Array Bool}{a:Act}{w:World}(hi:ops.toList.drop i=oi :: rest)
  (hs:Region.noSelect ops=true) (hf:Region.free md ops listed i=true) (hr:(Region.ready md ops listed).contains i=true) (hl:j7 md ops last i=true)
  (hQ:∀c a w,Q (.panic c) (a.put oi.dst v) w→Q (.panic c) a w) (hy:YieldsIf P ops S oi v a) (hS:S w)
  (h:fz P md ops Q S last fuel (listed.setIfInBounds i true) (a.put oi.dst v) w):fz P md ops Q S last (fuel+1) listed a w:=
 E0 (E4 hi) hs hf hr hl hQ hy hS h
theorem bT {i:Nat}{o:Oper}{fuel:Nat}{listed:Array Bool}{a:Act}{w:World}(hr:Region.ready md ops listed=[i]) (ho:ops[i]?=some o)
  (h:∀K':Act→World→Prop,Shut (∀a w,(i≠last→S w)→fz P md ops Q S last fuel (listed.setIfInBounds i true) a w→K' a w)→if Region.wanted o (yielded ops a.tmps)=true then Oper.wp P o a w K' Q else K' (a.put o.dst undef) w) :
  fz P md ops Q S last (fuel+1) listed a w:=by
 refine⟨fun h0=>(by rw[hr] at h0;cases h0),fun j hj => ?_⟩;rw[hr] at hj;have:j=i:=by simpa using hj
 subst this;exact wpOp_step ho (fun K' hK=>h K' (fun a w hS hW=>hK a w ⟨hS,hW⟩))
theorem pS {listed:Array Bool}{a:Act}{w:World}(hr:Region.ready md ops listed=[]) (h:Q .normal a w):∀fuel,fz P md ops Q S last fuel listed a w
 |0=>⟨hr,h⟩
 |_+1=>⟨fun _=>h,by rw[hr];simp⟩
theorem BJ {id:Nat}{a:Act}{w:World}(last:Nat) (S:World→Prop) (hm:P.follows .mixedOrders=true)
  (h:fz P .any ops Q S last ops.size (Array.replicate ops.size false) a w.drew):(Code.region id ops true).wp P Q a w:=
 wp_region_any hm (pR _ _ _ _ h)
theorem lM {id:Nat}{a:Act}{w:World}(last n:Nat) (bs:Array Bool) (S:World→Prop) (hm:P.follows .mixedOrders=true) (hn:ops.size=n) (hb:Array.replicate n false=bs)
  (h:fz P .any ops Q S last n bs a w.drew):(Code.region id ops true).wp P Q a w:=
 BJ last S hm (by rw[hn,hb];exact h)
end
structure ez (w:World) (B p:Nat) (v:Value) (s:List Pr):Prop where
 blk:w.heap[p]?=some (.cells #[v] 192 (0,0))
 hB:B≤p
 own:w.ownsRow B 194 4 v s.length (s.flatMap bJ.f)
 ne:v.ownBlock≠some p
 iD:∀x∈s,aC w x.ty∧aF p x.ty=true∧∀c,v.ownBlock=some c→aF c x.ty=true
 few:s.length≤100000
 iK:fG s
structure zT (p:Nat) (w:World) (v:Value) (w':World) (v':Value):Prop where
 os:w'.os=w.os
 tape:w'.tape=w.tape
 output:w'.output=w.output
 size:w.heap.size≤w'.heap.size
 block:∀j,j<w.heap.size→j≠p→v.ownBlock≠some j→w'.heap[j]?=w.heap[j]?
 own:v'.ownBlock=v.ownBlock∨∀k,v'.ownBlock=some k→w.heap.size≤k
section
variable {a b c w w':World}{u v x:Value}{B p:Nat}{s:List Pr}
theorem zT.dt (p:Nat) (e:Ext a b) (u:Value):zT p a u b u:=by
 have h:=e.below;exact⟨h.os,h.tape,h.output,e.size,fun j hj _ _=>e.heap hj,.inl rfl⟩
theorem zT.Rk (p:Nat) (h:Ap a u b v):zT p a u b v:=⟨h.grown.os,h.grown.tape,h.grown.output,h.grown.size,fun j hj _ hn=>h.grown.block j hj (fun e=>hn e.symm),h.own⟩
theorem zT.trans (h:zT p a u b v) (k:zT p b v c x):zT p a u c x:=by
 refine⟨k.os.trans h.os,k.tape.trans h.tape,k.output.trans h.output,aho h.size k.size,fun j hj hp hn => ?_,?_⟩
 ·refine(k.block j (Nat.lt_of_lt_of_le hj h.size) hp (fun e => ?_)).trans (h.block j hj hp hn)
  rcases h.own with h2|h2
  ·rw[h2] at e;exact hn e
  ·have:=h2 j e;omega
 ·rcases k.own with h2|h2
  ·rw[h2];exact h.own
  ·exact .inr (fun j hj=>aho h.size (h2 j hj))
theorem zT.below (h:zT p a u b v) (hB:B≤a.heap.size) (hp:B≤p) (hu:∀k,u.ownBlock=some k→B≤k):Below B a b:=
 ⟨h.os,h.tape,h.output,h.size,fun j hj=>h.block j (by omega) (by omega) (fun e=>by have:=hu j e;omega)⟩
theorem ez.lt (h:ez w B p v s):p<w.heap.size:=ae h.blk
theorem ez.ge (h:ez w B p v s):∀k,v.ownBlock=some k→B≤k:=fun k hk=>(h.own.lt k hk).1
theorem ez.sub (h:ez w B p v s):∃A cap,v=.slice A s.length cap∧ij w p A cap s:=by
 obtain⟨A,cap,rfl,h1,h2,h3,-⟩:=ak.own bJ h.own;exact⟨A,cap,rfl,h.blk,h1,h2,⟨h3,fun x hx=>(h.iD x hx).1⟩,h.few,h.iK⟩
theorem ez.ext (h:ez w B p v s) (e:Ext w w'):ez w' B p v s:=
 ⟨(e.heap h.lt).trans h.blk,h.hB,bk h.own e,h.ne,fun x hx=>⟨(h.iD x hx).1.ext e,(h.iD x hx).2⟩,h.few,h.iK⟩
end
set_option maxRecDepth 10000
set_option maxHeartbeats 8000000
theorem E6 (w:World):Calls Tryz.prog 77 #[.slice none 0 0] w fun e w'=>e=.returned (.pointer (some ⟨w.heap.size,0,none⟩))∧ez w' w.heap.size w.heap.size (.slice none 0 0) []∧Ext w w':=by
 obtain⟨W,hW⟩:∃W,W=w.alloc (.cells #[.slice none 0 0] 192):=⟨_,rfl⟩;have X0:ahg (Ext w W):=aa (by rw[hW];exact(eR _).alloc _);have B1:ahg (W.heap[w.heap.size]?=some (.cells #[.slice none 0 0] 192 (0,0))):=aa (by rw[hW];exact ah _ _ _ rfl);have HW:=aa hW.symm;clear hW;go_enter Tryz.func77,Tryz.ntmps77;go_upto_region 2 with fail;rw[HW.o];go_wp2
 go_loopw [10] (fun i wr=>i=.int .i64 0∧wr=W) (fun _ _=>0)
 case atStart=>exact⟨rfl,rfl⟩
 case round=>
  obtain⟨rfl,rfl⟩:=hrel;go_wp2;go_ret;exact⟨rfl,⟨B1.o,ahi _,World.ownsRow_nil _ _ _ _,(fun h=>by cases h),(fun x hx=>by cases hx),ahj _,List.Pairwise.nil⟩,X0.o⟩
theorem Rl (B p:Nat) (v:Value) (s:List Pr) (x:Int) (t:Ty) (w:World) (h:ez w B p v s) (ht:aC w t) (hsz:t.size≤100000) (hl:az t=true) (hf:s.length<100000) (hno:∀i,uY s x i→dF s x i=false) :
  Calls Tryz.prog 128 #[.pointer (some ⟨p,0,none⟩),.int .i64 x,bh t] w fun e w'=>e=.returned (.int .i64 0)∧∃i v' t',uY s x i∧t'.pure=t.pure∧ez w' B p v' (cC s i x t')∧zT p w v w' v'∧∀c,c<w.heap.size→aF c t'=true:=by
 obtain⟨W,hW⟩:∃W,W=w.alloc (.cells #[encStr t.aq,.int .i64 t.var,.slice t.A t.args.length t.cap] 53):=⟨_,rfl⟩;have X0:ahg (Ext w W):=aa (by rw[hW];exact(eR _).alloc _);have B1:ahg (aP W w.heap.size t):=aa (by rw[hW];exact aP.new w t);have HW:=aa hW.symm;clear hW;have HL:=aa (oG t W (ht.ext X0.o) (by omega));rw[hl] at HL;obtain⟨A,cap,hv,fT⟩:=h.sub;have HF:=aa (fun w' (e:Ext W w')=>aa (EZ p A cap s x w' (fT.ext (X0.o.trans e))));have HC:=aa (fun w' (e:Ext W w')=>aa (vT t w' (ht.ext (X0.o.trans e)) hsz));have hBs:B≤w.heap.size:=by have:=h.lt;have:=h.hB;omega
 have HI:=aa (fun(w':World) (hB:B≤w'.heap.size) (i vb:Nat) (y:Pr) (hO:w'.ownsRow B 194 4 v s.length (s.flatMap bJ.f)) (hi:i≤s.length) (hx:w'.heap[vb]?=some (.cells (bJ.f y).toArray 194 (0,0))) (hne:v.ownBlock≠some vb)=>EJ B v s i vb y w' hO hi hx hne hB (by omega));have qR:=aa hno;have H:=aa h;have Hv:=aa hv;have hpl:=h.lt;have HS:=aa (fun w' (e:Ext W w')=>ahk (fT.ext (X0.o.trans e)).cell (ahk (B1.o.ext e).c0 (ahk (B1.o.ext e).c1 (B1.o.ext e).c2)));have hWl:=B1.o.lt;clear h ht hl fT hno;subst hv;unfold bh at *;obtain⟨c0,c1,c2,c3⟩:=HS.o W (eR _);go_enter Tryz.func128,Tryz.ntmps128;go_upto_region 1 with fail;rw[HW.o];go_wp2_with fail;refine HL.o.mono ?_;rintro e w2 ⟨rfl,hx2⟩;have X2:=aa hx2;clear hx2 HL c0 c1 c2 c3;go_wp2_with fail;refine(HF.o _ X2.o).o.mono ?_;rintro e w3 ⟨⟨i,rfl,hi⟩,hx3⟩;have X3:=aa (X2.o.trans hx3);have hh:=qR.o i hi;have Hi:=aa hi;have Hh:=aa hh;have UF:=hi.le;rw[hh];clear hx3 HF hi hh qR X2;go_wp2;have Rm:=HS.o _ X3.o.drew;refine lM 14 15 #[false,false,false,false,false,false,false,false,false,false,false,false,false,false,false] (fun w'=>w'.cell? ⟨p,0,none⟩=some (.slice A s.length cap)∧w'.cell? ⟨w.heap.size,0,none⟩=some (encStr t.aq)∧w'.cell? ⟨w.heap.size,1,none⟩=some (.int .i64 t.var)∧w'.cell? ⟨w.heap.size,2,none⟩=some (.slice t.A t.args.length t.cap)) (by kernel_rfl) (by kernel_rfl) (by kernel_rfl) ?_
 (refine bI (i:=0) (v := ?_) rfl (by kernel_rfl) (by kernel_rfl) (by kernel_rfl) (by kernel_rfl) (fun _ _ _ h=>h) (Or.inl ⟨by kernel_rfl,?_⟩) (by assumption) ?_;rotate_left 1;(focus (intro w hSw;(try dsimp only at hSw);(try obtain⟨g1,g2,g3⟩:=hSw);(try obtain⟨g1,g2⟩:=hSw);go_simp;try with_reducible rfl));simp only[Act.put,ahs,aht,ahu])
 (refine bI (i:=1) (v := ?_) rfl (by kernel_rfl) (by kernel_rfl) (by kernel_rfl) (by kernel_rfl) (fun _ _ _ h=>h) (Or.inl ⟨by kernel_rfl,?_⟩) (by assumption) ?_;rotate_left 1;(focus (intro w hSw;(try dsimp only at hSw);(try obtain⟨g1,g2,g3⟩:=hSw);(try obtain⟨g1,g2⟩:=hSw);go_simp;try with_reducible rfl));simp only[Act.put,ahs,aht,ahu])
 (refine bI (i:=2) (v := ?_) rfl (by kernel_rfl) (by kernel_rfl) (by kernel_rfl) (by kernel_rfl) (fun _ _ _ h=>h) (Or.inl ⟨by kernel_rfl,?_⟩) (by assumption) ?_;rotate_left 1;(focus (intro w hSw;(try dsimp only at hSw);(try obtain⟨g1,g2,g3⟩:=hSw);(try obtain⟨g1,g2⟩:=hSw);go_simp;try with_reducible rfl));simp only[Act.put,ahs,aht,ahu])
 (refine bI (i:=3) (v := ?_) rfl (by kernel_rfl) (by kernel_rfl) (by kernel_rfl) (by kernel_rfl) (fun _ _ _ h=>h) (Or.inl ⟨by kernel_rfl,?_⟩) (by assumption) ?_;rotate_left 1;(focus (intro w hSw;(try dsimp only at hSw);(try obtain⟨g1,g2,g3⟩:=hSw);(try obtain⟨g1,g2⟩:=hSw);go_simp;try with_reducible rfl));simp only[Act.put,ahs,aht,ahu])
 (refine bI (i:=4) (v := ?_) rfl (by kernel_rfl) (by kernel_rfl) (by kernel_rfl) (by kernel_rfl) (fun _ _ _ h=>h) (Or.inl ⟨by kernel_rfl,?_⟩) (by assumption) ?_;rotate_left 1;(focus (intro w hSw;(try dsimp only at hSw);(try obtain⟨g1,g2,g3⟩:=hSw);(try obtain⟨g1,g2⟩:=hSw);go_simp;try with_reducible rfl));simp only[Act.put,ahs,aht,ahu])
 (refine bI (i:=5) (v := ?_) rfl (by kernel_rfl) (by kernel_rfl) (by kernel_rfl) (by kernel_rfl) (fun _ _ _ h=>h) (Or.inl ⟨by kernel_rfl,?_⟩) (by assumption) ?_;rotate_left 1;(focus (intro w hSw;(try dsimp only at hSw);(try obtain⟨g1,g2,g3⟩:=hSw);(try obtain⟨g1,g2⟩:=hSw);go_simp;try with_reducible rfl));simp only[Act.put,ahs,aht,ahu])
 (refine bI (i:=6) (v := ?_) rfl (by kernel_rfl) (by kernel_rfl) (by kernel_rfl) (by kernel_rfl) (fun _ _ _ h=>h) (Or.inl ⟨by kernel_rfl,?_⟩) (by assumption) ?_;rotate_left 1;(focus (intro w hSw;(try dsimp only at hSw);(try obtain⟨g1,g2,g3⟩:=hSw);(try obtain⟨g1,g2⟩:=hSw);go_simp;try with_reducible rfl));simp only[Act.put,ahs,aht,ahu])
 (refine bI (i:=7) (v := ?_) rfl (by kernel_rfl) (by kernel_rfl) (by kernel_rfl) (by kernel_rfl) (fun _ _ _ h=>h) (Or.inl ⟨by kernel_rfl,?_⟩) (by assumption) ?_;rotate_left 1;(focus (intro w hSw;(try dsimp only at hSw);(try obtain⟨g1,g2,g3⟩:=hSw);(try obtain⟨g1,g2⟩:=hSw);go_simp;try with_reducible rfl));simp only[Act.put,ahs,aht,ahu])
 refine bT (i:=8) (by kernel_rfl) rfl (fun KK hK => ?_)
 go_simp
 refine Calls.mono (HC.o _ X3.o.drew).o ?_;rintro e w4 ⟨⟨t',rfl,WD⟩,eP⟩;have X4:=aa (X3.o.drew.trans eP);have MA:=HS.o _ X4.o;have Ht:=aa WD;refine hK.out _ _ (fun _=>MA) ?_;clear hK KK Rm eP WD;simp only[ahs,aht,ahu]
 (refine bI (i:=9) (v := ?_) rfl (by kernel_rfl) (by kernel_rfl) (by kernel_rfl) (by kernel_rfl) (fun _ _ _ h=>h) (Or.inl ⟨by kernel_rfl,?_⟩) (by assumption) ?_;rotate_left 1;(focus (intro w hSw;(try dsimp only at hSw);(try obtain⟨g1,g2,g3⟩:=hSw);(try obtain⟨g1,g2⟩:=hSw);go_simp;try with_reducible rfl));simp only[Act.put,ahs,aht,ahu])
 refine bT (i:=10) (by kernel_rfl) rfl (fun KK hK => ?_)
 go_simp
 obtain⟨W5,jR⟩:∃W5,W5=w4.alloc (.cells #[.int .i64 x,.string ⟨t'.aq.toArray⟩,.int .i64 t'.var,.slice t'.A t'.args.length t'.cap] 194):=⟨_,rfl⟩;rw[←jR];have X5:ahg (Ext W W5):=aa (by rw[jR];exact X4.o.alloc _);have xZ:ahg (Ext w4 W5):=aa (by rw[jR];exact(eR _).alloc _);have jB:W5.heap[w4.heap.size]?=some (.cells (bJ.f ⟨x,t'⟩).toArray 194 (0,0)):=by rw[jR];exact ah _ _ _ rfl
 have UH:=HS.o _ X5.o;refine hK.out _ _ (fun _=>UH) ?_;clear hK KK MA jR;simp only[ahs,aht,ahu];have Qa:=X4.o.size;have hs0:=X0.o.size;have hs5:=X5.o.size;have Rn:(Value.slice A s.length cap).ownBlock≠some w4.heap.size:=fun e=>by have:=(H.o.own.lt _ e).2;omega
 have I8:=aa (HI.o W5 (by omega) i w4.heap.size ⟨x,t'⟩ (bk H.o.own (X0.o.trans X5.o)) UF jB Rn);clear jB Rn;refine bT (i:=11) (by kernel_rfl) rfl (fun KK hK => ?_)
 go_simp
 refine Calls.mono I8.o ?_;rintro e w6 ⟨v',rfl,ZW,UI⟩;have Jh:=aa UI;have UJ:some p≠(Value.slice A s.length cap).ownBlock:=fun e=>H.o.ne e.symm
 have ve:some w.heap.size≠(Value.slice A s.length cap).ownBlock:=fun e=>by have:=(H.o.own.lt _ e.symm).2;omega
 have Ro:w6.heap[p]?=some (.cells #[.slice A s.length cap] 192 (0,0)):=(UI.grown.block p (by omega) UJ).trans (((X0.o.trans X5.o).heap hpl).trans H.o.blk);have UK:w6.cell? ⟨p,0,none⟩=some (.slice A s.length cap)∧w6.cell? ⟨w.heap.size,0,none⟩=some (encStr t.aq)∧w6.cell? ⟨w.heap.size,1,none⟩=some (.int .i64 t.var)∧w6.cell? ⟨w.heap.size,2,none⟩=some (.slice t.A t.args.length t.cap):=by
  have e0:=UI.grown.block w.heap.size (by omega) ve;exact⟨by simp[World.cell?,Ro],(World.cell?_of_block e0).trans UH.2.1,(World.cell?_of_block e0).trans UH.2.2.1,(World.cell?_of_block e0).trans UH.2.2.2⟩
 refine hK.out _ _ (fun _=>UK) ?_;clear hK KK UI;simp only[ahs,aht,ahu];have NN:w6.ownsRow B 194 4 v' (cC s i x t').length ((cC s i x t').flatMap bJ.f):=by rw[jY UF];exact ZW
 have HO6:=aa NN;obtain⟨A6,c6,hv6,-,-,-,-⟩:=ak.own bJ NN;subst hv6;have HP6:=aa Ro;have c0:=UK.1;have f0:=ai Ro 0;have acI:=ae Ro;obtain⟨W7,sG⟩:∃W7,W7=w6.setCell ⟨p,0,none⟩ (.slice A6 (cC s i x t').length c6):=⟨_,rfl⟩;have WE:ahg (ez W7 B p (.slice A6 (cC s i x t').length c6) (cC s i x t')):=aa (by
  have Rp:w6.grownBy W7 (some p):=by rw[sG];exact aK _ _ _ _
  have Rq:(Value.slice A6 (cC s i x t').length c6).ownBlock≠some p:=by
   rcases Jh.o.own with h1|h1
   ·rw[h1];exact H.o.ne
   ·intro e;have:=h1 p e;omega
  have nO:∀y∈cC s i x t',aC W5 y.ty∧aF p y.ty=true∧∀c,(Value.slice A s.length cap).ownBlock=some c→aF c y.ty=true:=by
   intro y hy
   rcases gA.1 hy with rfl|hy
   ·exact⟨Ht.o.ty.ext xZ.o,Ht.o.away p (by have:=X3.o.size;show p<w3.heap.size;omega),fun c hc=>Ht.o.away c (by have:=X3.o.size;have:=(H.o.own.lt _ hc).2;show c<w3.heap.size;omega)⟩
   ·obtain⟨h1,h2,h3⟩:=H.o.iD y hy;exact⟨h1.ext (X0.o.trans X5.o),h2,h3⟩
  refine⟨?_,H.o.hB,HO6.o.kept Rp (.inr Rq),Rq,fun y hy => ?_,by rw[jY UF];omega,kD H.o.iK Hi.o (Hh.o)⟩
  ·rw[sG];exact aw HP6.o 0 _
  ·obtain⟨h1,h2,h3⟩:=nO y hy;refine⟨(h1.grown Jh.o.grown h3).grown Rp (fun c e=>by injection e with e;subst e;exact h2),h2,fun c hc => ?_⟩
   rcases Jh.o.own with h4|h4
   ·exact h3 c (h4▸hc)
   ·exact aU h1 (h4 c hc))
 have HAp:ahg (zT p w (.slice A s.length cap) W7 (.slice A6 (cC s i x t').length c6)):=aa (by
  refine((zT.dt p (X0.o.trans X5.o) _).trans (zT.Rk p Jh.o)).trans ?_;rw[sG];exact⟨rfl,rfl,rfl,by simp[World.setCell],fun j hj hp _=>Below.heap_setCell w6 ⟨p,0,none⟩ _ j hp,.inl rfl⟩)
 clear ZW NN Ro;generalize (cC s i x t').length=M at *;refine bT (i:=12) (by kernel_rfl) rfl (fun KK hK => ?_)
 go_simp
 refine hK.out _ _ (fun _=>UK) ?_;clear hK KK;simp only[ahs,aht,ahu];refine bT (i:=13) (by kernel_rfl) rfl (fun KK hK => ?_)
 go_simp
 refine hK.out _ _ (fun _=>UK) ?_;clear hK KK;simp only[ahs,aht,ahu];refine bT (i:=14) (by kernel_rfl) rfl (fun KK hK => ?_)
 go_simp
 rw[←sG];refine hK.out _ _ (fun h=>absurd rfl h) ?_;clear hK KK
 try simp only[Act.put]
 refine pS (by kernel_rfl) ?_ _;go_wp2;go_ret;exact⟨rfl,i,_,t',Hi.o,Ht.o.is,WE.o,HAp.o,fun c hc=>Ht.o.away c (by have:=X3.o.size;show c<w3.heap.size;omega)⟩
set_option maxRecDepth 512
set_option maxHeartbeats 200000
def cO (w:World) (bb p:Nat) (left:Int):Prop:=w.heap[bb]?=some (.cells #[.pointer (some ⟨p,0,none⟩),.int .i64 left] 198 (0,0))
section
variable {w w':World}{bb p:Nat}{left:Int}
theorem cO.c0 (h:cO w bb p left):w.cell? ⟨bb,0,none⟩=some (.pointer (some ⟨p,0,none⟩)):=af h 0
theorem cO.c1 (h:cO w bb p left):w.cell? ⟨bb,1,none⟩=some (.int .i64 left):=af h 1
theorem cO.f1 (h:cO w bb p left):w.frozen? ⟨bb,1,none⟩=false:=ai h 1
theorem cO.lt (h:cO w bb p left):bb<w.heap.size:=ae h
theorem cO.ext (h:cO w bb p left) (e:Ext w w'):cO w' bb p left:=(e.heap h.lt).trans h
theorem cO.set (h:cO w bb p left) (n:Int):cO (w.setCell ⟨bb,1,none⟩ (.int .i64 n)) bb p n:=aw h 1 _
theorem cO.grown (h:cO w bb p left){row:Nat}(hg:w.grownBy w' (some row)) (hr:bb≠row):cO w' bb p left:=(hg.block bb h.lt (fun e=>hr (by injection e))).trans h
end
structure pT (w:World) (bb p:Nat) (A:Option Addr) (cap:Nat) (s:List Pr):Prop where
 sub:ij w p A cap s
 hp:p≠bb
 hA:s.length≠0→∀a,A=some a→a.block≠bb
 iD:∀x∈s,aF bb x.ty=true
 small:∀x∈s,x.ty.size≤4096∧x.ty.depth≤100
theorem pT.grown {w w':World}{bb p:Nat}{A:Option Addr}{cap:Nat}{s:List Pr}(h:pT w bb p A cap s) (hg:w.grownBy w' (some bb)):pT w' bb p A cap s:=
 ⟨⟨(hg.block p (ae h.sub.blk) (fun e=>h.hp (by injection e))).trans h.sub.blk,h.sub.le,h.sub.max,⟨dI h.sub.Mx.row hg (fun hn a e e2=>by injection e2 with e2;exact h.hA hn a e e2.symm),fun x hx=>(h.sub.Mx.ty x hx).grown hg (fun c e=>by injection e with e;subst e;exact h.iD x hx)⟩,h.sub.few,h.sub.iK⟩,h.hp,h.hA,h.iD,h.small⟩
structure pU (w w':World) (bb:Nat) (s:List Pr) (t u:Ty) (left level left':Int):Prop where
 ty:aC w' u
 off:aF bb u=true
 away:∀c,c<w.heap.size→aF c t=true→aF c u=true
 lo : -5000≤left'
 hi:left'≤left - 1
 yes:0≤left'→u.pure=fF (br s) (bz s) t∧left'=left - gR (br s) (bz s) t∧level+nM (br s) (bz s) t≤101
 no:left'<0→left<gR (br s) (bz s) t∨101<level+nM (br s) (bz s) t
def Fa (bb p:Nat) (A:Option Addr) (cap:Nat) (s:List Pr) (t:Ty):Prop:=
 ∀(w:World) (left level:Int),aC w t→aF bb t=true→pT w bb p A cap s→cO w bb p left→0≤left→left≤4096→1≤level→level+t.depth≤101 →
  Calls Tryz.prog 129 #[.pointer (some ⟨bb,0,none⟩),bh t,.int .i64 level] w fun e w'=>∃u left',e=.returned (bh u)∧pU w w' bb s t u left level left'∧w.grownBy w' (some bb)∧cO w' bb p left'
structure iL (w w':World) (bb:Nat) (s:List Pr) (l us:List Ty):Prop where
 len:us.length=l.length
 ty:∀u∈us,aC w' u
 off:∀u∈us,aF bb u=true
 row:∀u∈us,∀c,w.heap.size≤c∧c<w.heap.size+3→aF c u=true
 away:∀u∈us,∀c,c<w.heap.size→(∀k∈l,aF c k=true)→aF c u=true
structure lr (s:List Pr) (l:List Ty) (us:List Ty) (MB NP:Nat) (left level L:Int):Prop where
 lo : -5000≤L
 hi:L≤left - 1
 yes:0≤L→us.map Ty.pure=l.map (fF (br s) (bz s))∧L=left - 1 - ((l.map (gR (br s) (bz s))).sum:Nat)∧∀k∈l,level+1+nM (br s) (bz s) k≤101
 no:L<0→left<MB∨101<level+NP
theorem aC.gb {w w':World}{bb:Nat}{t:Ty}(h:aC w t) (hg:w.grownBy w' (some bb)) (ha:aF bb t=true):aC w' t:=h.grown hg (fun c e=>by injection e with e;subst e;exact ha)
theorem lN {w a b:World}{bb r:Nat}(h:w.grownBy a (some bb)) (k:a.grownBy b (some r)) (hr:w.heap.size≤r):w.grownBy b (some bb):=
 ⟨k.os.trans h.os,k.tape.trans h.tape,k.output.trans h.output,aho h.size k.size,fun j hj hne=>(k.block j (Nat.lt_of_lt_of_le hj h.size) (fun e=>by injection e with e;omega)).trans (h.block j hj hne)⟩
theorem iL.nil (w w':World) (bb:Nat) (s:List Pr):iL w w' bb s [] []:=⟨rfl,by simp,by simp,by simp,by simp⟩
theorem iL.grown {w w1 w2:World}{bb:Nat}{s:List Pr}{l us:List Ty}(h:iL w w1 bb s l us){row:Nat}(hg:w1.grownBy w2 (some row)) (hr:row=bb∨(w.heap.size≤row∧row<w.heap.size+3)):iL w w2 bb s l us:=
 ⟨h.len,fun u hu=>(h.ty u hu).grown hg (fun c e=>by
                             injection e with e;subst e;rcases hr with hr|hr;· rw[hr];exact h.off u hu
                             ·exact h.row u hu _ hr),h.off,h.row,h.away⟩
theorem iL.snoc {w w1 w2:World}{bb:Nat}{s:List Pr}{l us:List Ty}{t u:Ty}{L lv L':Int}(h:iL w w1 bb s l us) (k:pU w1 w2 bb s t u L lv L') (hg:w1.grownBy w2 (some bb))
  (ht:aC w t) (hs:w.heap.size+3≤w1.heap.size):iL w w2 bb s (l++[t]) (us++[u]):=by
 have h':=h.grown hg (.inl rfl);refine⟨by simp[h.len],fun x hx => ?_,fun x hx => ?_,fun x hx c hc => ?_,fun x hx c hc h1 => ?_⟩
 ·rcases List.mem_append.1 hx with hx|hx
  ·exact h'.ty x hx
  ·rw[ahx] at hx;subst hx;exact k.ty
 ·rcases List.mem_append.1 hx with hx|hx
  ·exact h.off x hx
  ·rw[ahx] at hx;subst hx;exact k.off
 ·rcases List.mem_append.1 hx with hx|hx
  ·exact h.row x hx c hc
  ·rw[ahx] at hx;subst hx;exact k.away c (by omega) (aU ht hc.1)
 ·rcases List.mem_append.1 hx with hx|hx
  ·exact h.away x hx c hc (fun k hk=>h1 k (List.mem_append.2 (.inl hk)))
  ·rw[ahx] at hx;subst hx;exact k.away c (by omega) (h1 t (by simp))
theorem lr.start (s:List Pr){MB NP:Nat}{left level:Int}(h:0≤left) (acK:1≤MB) (hl:left≤4096):lr s [] [] MB NP left level (left - 1):=
 ⟨by omega,by omega,fun _=>⟨rfl,by simp,by simp⟩,fun h2=>.inl (by omega)⟩
theorem lr.snoc {s:List Pr}{l us:List Ty}{t u:Ty}{MB NP:Nat}{left level L L':Int}{w w':World}{bb:Nat}(h:lr s l us MB NP left level L) (k:pU w w' bb s t u L (level+1) L') (hL:0≤L)
  (hz:(l.map (gR (br s) (bz s))).sum+gR (br s) (bz s) t+1≤MB) (hd:1+nM (br s) (bz s) t≤NP):lr s (l++[t]) (us++[u]) MB NP left level L':=by
 obtain⟨a1,a2,a3⟩:=h.yes hL;refine⟨k.lo,by have:=k.hi;have:=h.hi;omega,fun WG => ?_,fun WG => ?_⟩
 ·obtain⟨b1,b2,b3⟩:=k.yes WG;refine⟨by rw[ahz,ahz,a1];simp[b1],?_,fun x hx => ?_⟩
  ·rw[ahz,List.sum_append,List.map_singleton,List.sum_singleton];omega
  ·rcases List.mem_append.1 hx with hx|hx
   ·exact a3 x hx
   ·rw[ahx] at hx;subst hx;exact b3
 ·rcases k.no WG with h1|h1
  ·exact .inl (by omega)
  ·exact .inr (by omega)
theorem Fb (f:Ty→Nat) (l:List Ty){k:Nat}(h:k<l.length):((l.take k).map f).sum+f (l[k]'h)≤(l.map f).sum:=by
 have e:l.map f=(l.take k).map f++(f (l[k]'h) :: (l.drop (k+1)).map f):=by
  rw[←List.map_cons,←ahz]
  congr 1
  rw[←List.drop_eq_getElem_cons h,List.take_append_drop]
 rw[e,List.sum_append,List.sum_cons];omega
theorem Ka (l:List Nat) (x:Nat) (h:x∈l):x≤l.foldr max 0:=(fW l _).1 (ahi _) x h
theorem Kb {s:List Pr}{t:Ty}(hc:t.aq≠[]){k:Nat}(h:k<t.args.length):((t.args.take k).map (gR (br s) (bz s))).sum+gR (br s) (bz s) (t.args[k]'h)+1≤gR (br s) (bz s) t∧1+nM (br s) (bz s) (t.args[k]'h)≤nM (br s) (bz s) t:=by
 rw[jn (t:=t),lH (t:=t),if_neg hc,if_neg hc];have h1:=Fb (gR (br s) (bz s)) t.args h;have h2:=Ka (t.args.map (nM (br s) (bz s))) (nM (br s) (bz s) (t.args[k]'h)) (List.mem_map.2 ⟨_,ahh h,rfl⟩);omega
theorem pU.done {w w':World}{bb:Nat}{s:List Pr}{t:Ty}{us:List Ty}{A:Option Addr}{cap:Nat}{left level L:Int}(hc:t.aq≠[]) (uW:t.aq.length≤9223372036854775807) (h:iL w w' bb s t.args us) (hL:lr s t.args us (gR (br s) (bz s) t) (nM (br s) (bz s) t) left level L)
  (h1:us.length≤cap) (h2:cap≤9223372036854775807) (h3:ak cA w' A us) (hA:us≠[]→∀a,A=some a→w.heap.size≤a.block) (ve:bb<w.heap.size) (hlv:level≤100):pU w w' bb s t (.mk t.aq t.var A cap us) left level L where
 ty:=aC.of h1 h2 uW h3 h.ty
 off:=dE (fun hn a ha=>by have:=hA hn a ha;omega) h.off
 away c hlt hk:=dE (fun hn a ha=>by have:=hA hn a ha;omega) (fun u hu=>h.away u hu c hlt (fun k Kd=>iy hk Kd))
 lo:=hL.lo
 hi:=hL.hi
 yes h0:=by
  obtain⟨a1,a2,a3⟩:=hL.yes h0;refine⟨?_,?_,?_⟩
  ·rw[Ty.aG,ek,if_neg hc];show Ty.Pure.mk _ _ (us.map Ty.pure)=_;rw[a1];rfl
  ·rw[jn,if_neg hc];omega
  ·rw[lH,if_neg hc];have:(t.args.map (nM (br s) (bz s))).foldr max 0≤(100 - level).toNat:=(fW _ _).2 (fun x hx=>by
    obtain⟨k,hk,rfl⟩:=List.mem_map.1 hx;have:=a3 k hk;omega)
   omega
 no:=hL.no
set_option maxRecDepth 10000
set_option maxHeartbeats 8000000
theorem BK (bb p:Nat) (A:Option Addr) (cap:Nat) (s:List Pr) (t:Ty) (hc:t.aq≠[]) (hlen:t.args.length≤100000) (ih:∀k∈t.args,Fa bb p A cap s k):Fa bb p A cap s t:=by
 intro w left level ht BL fT hbl hl0 qU hv0 Jb;obtain⟨W,hW⟩:∃W,W=(w.alloc (.cells #[encStr t.aq,.int .i64 t.var,.slice t.A t.args.length t.cap] 53)).alloc (.cells #[.string ⟨#[]⟩,.int .i64 0,.slice none 0 0] 53):=⟨_,rfl⟩;have HW:=aa hW.symm;have X0:ahg (Ext w W):=aa (by rw[hW];exact((eR _).alloc _).alloc _);have B1:ahg (aP W w.heap.size t):=aa (by rw[hW];exact(aP.new w t).ext ((eR _).alloc _));have B2:ahg (W.heap[w.heap.size+1]?=some (.cells #[.string ⟨#[]⟩,.int .i64 0,.slice none 0 0] 53 (0,0))):=aa (by rw[hW];exact ah _ _ _ (by simp));have rk:W.heap.size=w.heap.size+2:=by rw[hW];simp
 have P0:=hbl.lt;have Ji:=aa (hbl.ext X0.o);obtain⟨W8,sH⟩:∃W8,W8=W.setCell ⟨bb,1,none⟩ (.int .i64 (left - 1)):=⟨_,rfl⟩;have WH:=aa sH.symm;have UL:ahg (w.grownBy W8 (some bb)):=aa (by rw[sH];exact aR (dN X0.o _) (aK _ _ _ _));have WI:ahg (cO W8 bb p (left - 1)):=aa (by rw[sH];exact Ji.o.set _);have Qb:ahg (aP W8 w.heap.size t):=aa (by rw[sH];exact(Below.heap_setCell W ⟨bb,1,none⟩ _ w.heap.size (by show w.heap.size≠bb;omega)).trans B1.o);have Rs:ahg (W8.heap[w.heap.size+1]?=some (.cells #[.string ⟨#[]⟩,.int .i64 0,.slice none 0 0] 53 (0,0))):=aa (by rw[sH];exact(Below.heap_setCell W ⟨bb,1,none⟩ _ (w.heap.size+1) (by show w.heap.size+1≠bb;omega)).trans B2.o);have Fc:W8.heap.size=w.heap.size+2:=by rw[sH,World.size_setCell,rk]
 have je:=jo t.args.length (by omega) W8;obtain⟨W1,hW1⟩:∃W1,W1=W8.alloc (.cells (j6 t.args.length) 53):=⟨_,rfl⟩;have Ke:ahg (Ext W8 W1):=aa (by rw[hW1];exact(eR _).alloc _);have B3:ahg (W1.heap[w.heap.size+2]?=some (.cells (lL [] t.args.length) 53 (0,0))):=aa (by rw[hW1];exact ah _ _ _ Fc.symm);rw[Fc,←hW1] at je;have vg:=aa je;have WJ:ahg (w.grownBy W1 (some bb)):=aa (aR UL.o (dN Ke.o _));have NQ:=aa (WI.o.ext Ke.o);have NR:=aa (Qb.o.ext Ke.o);have MC:=aa ((Ke.o.heap (ae Rs.o)).trans Rs.o);have H:=aa ht;have Kf:=aa BL;have HSub:=aa fT;have IH:=aa ih;have hle:=ht.le;have hmx:=ht.max;have hcB:(t.aq == ([]:aj))=false:=by simpa using hc
 have HC:=aa hc;have jV:ahg (1≤gR (br s) (bz s) t):=aa (by rw[jn,if_neg hc];omega);have HSf:=aa (fun k (h:k<t.args.length)=>Kb (s:=s) hc h);have b0:=B1.o.c0;have d0:=Ji.o.c0;have d1:=Ji.o.c1;have d2:=Ji.o.f1;have e2:=Qb.o.c2;have e2':=NR.o.c2;have ZX:bb<W.heap.size:=by omega
 have ZY:=aa rk;clear hW sH hW1 ht BL fT hbl ih hc rk je;unfold bh at *;go_enter Tryz.func129,Tryz.ntmps129;go_upto_region 1 with fail;rw[HW.o];clear HW;go_upto_region 9 with fail;rw[WH.o];have je:=vg.o;go_wp2
 go_loopw [58] (fun i wr=>∃(k:Nat) (us:List Ty) (L:Int),k≤t.args.length∧i=.int .i64 k∧ahg (w.grownBy wr (some bb))∧ahg (wr.heap[w.heap.size+2]?=some (.cells (lL us (t.args.length - k)) 53 (0,0)))∧ahg (cO wr bb p L)∧ahg (iL w wr bb s (t.args.take k) us)∧ahg (lr s (t.args.take k) us (gR (br s) (bz s) t) (nM (br s) (bz s) t) left level L)∧ahg (aP wr w.heap.size t)∧ahg (wr.heap[w.heap.size+1]?=some (.cells #[.string ⟨#[]⟩,.int .i64 0,.slice none 0 0] 53 (0,0)))) (fun i _=>t.args.length - (intOf i).toNat)
 case atStart=>exact⟨0,[],left - 1,ahj _,rfl,WJ,B3,NQ,aa (iL.nil _ _ _ _),aa (lr.start s hl0 jV.o qU),NR,MC⟩
 case round=>
  obtain⟨k,us,L,hk,rfl,HG,HR,yv,HP,NS,BM,gy⟩:=hrel;have J7:us.length=k:=by have:=HP.o.len;rw[List.length_take] at this;omega
  have a1:=yv.o.c1;have a0:=yv.o.c0;have hbr:=yv.o.lt
  by_cases hlt:k<t.args.length
  ·have aS:(k:Int)<(t.args.length:Int):=by omega
   have dy:(0:Int)≤(k:Int):=by omega
   by_cases WK:L<0
   ·have g0:=BM.o.c0;have g1:=BM.o.c1;have g2:=BM.o.c2;have f0:=ai gy.o 0;have f1:=ai gy.o 1;have f2:=ai gy.o 2;have k0:=af gy.o 0;have k1:=af gy.o 1;have k2:=af gy.o 2;simp only[ahp,ahq,ahr] at k0 k1 k2;have hg3:=bR wr (w.heap.size+1) 0 1 2 (encStr t.aq) (.int .i64 t.var) (.slice t.A t.args.length t.cap);have PF:ahg (pU w (((wr.setCell ⟨w.heap.size+1,0,none⟩ (encStr t.aq)).setCell ⟨w.heap.size+1,1,none⟩ (.int .i64 t.var)).setCell ⟨w.heap.size+1,2,none⟩ (.slice t.A t.args.length t.cap)) bb s t t left level L):=aa
     ⟨(H.o.gb HG.o Kf.o).grown hg3 (fun c e=>by injection e with e;subst e;exact aU H.o (by omega)),Kf.o,fun c _ h=>h,NS.o.lo,NS.o.hi,fun h=>absurd h (by omega),fun _=>NS.o.no WK⟩
    have GF:ahg (w.grownBy (((wr.setCell ⟨w.heap.size+1,0,none⟩ (encStr t.aq)).setCell ⟨w.heap.size+1,1,none⟩ (.int .i64 t.var)).setCell ⟨w.heap.size+1,2,none⟩ (.slice t.A t.args.length t.cap)) (some bb)):=aa
     ⟨hg3.os.trans HG.o.os,hg3.tape.trans HG.o.tape,hg3.output.trans HG.o.output,aho HG.o.size hg3.size,fun j hj hne=>(hg3.block j (Nat.lt_of_lt_of_le hj HG.o.size) (fun e=>by injection e with e;omega)).trans (HG.o.block j hj hne)⟩
    have LF:=aa (yv.o.grown hg3 (by omega));go_wp2;refine bodyPost_ret (v:=.agg #[encStr t.aq,.int .i64 t.var,.slice t.A t.args.length t.cap]) ?_ rfl ⟨t,L,rfl,PF.o,GF.o,LF.o⟩;simp[results,Tryz.f129,go_sem,k0,k1,k2]
   ·have Rt:0≤L:=by omega
    have Hk:=aa (H.o.gb HG.o Kf.o);obtain⟨b,o,hA,hb,q0,q1,q2⟩:=(Hk.o.all).at_ hlt;have cv:=ahh hlt;have ET:=aa (IH.o _ cv wr L (level+1) (Hk.o.all.args _ cv) (iy Kf.o cv) (HSub.o.grown HG.o) yv.o Rt (by have:=NS.o.hi;omega) (by omega) (by have:=lF cv;omega));have Hx:=aa (H.o.all.args _ cv);have ZZ:=aa (HSf.o k hlt);have cS:ahg (t.args.take (k+1)=t.args.take k++[t.args[k]'hlt]):=aa (ahl hlt);obtain⟨m,hm⟩:∃m,t.args.length - k=m+1:=⟨t.args.length - k - 1,by omega⟩;have Mu:t.args.length - (k+1)=m:=by omega
    rw[hm] at HR;generalize t.args[k]'hlt=x at *;have NL:w.heap.size+3≤wr.heap.size:=by have:=ae HR.o;omega
    have g0:=BM.o.c0;have g1:=BM.o.c1;have g2:=BM.o.c2;rw[hA] at g2 ⊢;clear cv hA Hk;unfold bh at ET;go_wp2_with fail;refine ET.o.mono ?_;rintro e w3 ⟨u,L',rfl,hu,hg3,WL⟩;have Hu:=aa hu;have Hg3:=aa hg3;have iu:=aa ((hg3.block (w.heap.size+2) (by omega) (fun e=>by injection e with e;omega)).trans HR.o);have Mv:ahg (iL w w3 bb s (t.args.take (k+1)) (us++[u])):=aa (by rw[cS.o];exact HP.o.snoc hu hg3 Hx.o NL);have Mw:=aa (Q9 u iu.o);have ud:=bR w3 (w.heap.size+2) (us.length*3) (us.length*3+1) (us.length*3+2) (encStr u.aq) (.int .i64 u.var) (.slice u.A u.args.length u.cap);have Rb:=aa (Mv.o.grown ud (.inr ⟨by omega,by omega⟩));have Kg:ahg (lr s (t.args.take (k+1)) (us++[u]) (gR (br s) (bz s) t) (nM (br s) (bz s) t) left level L'):=aa (by rw[cS.o];exact NS.o.snoc hu Rt ZZ.o.1 ZZ.o.2);have Z0:=aa (lN (aR HG.o hg3) ud (by omega));have UM:=aa (WL.grown ud (by omega));have Ru:ahg (aP (((w3.setCell ⟨w.heap.size+2,us.length*3,none⟩ (encStr u.aq)).setCell ⟨w.heap.size+2,us.length*3+1,none⟩ (.int .i64 u.var)).setCell ⟨w.heap.size+2,us.length*3+2,none⟩ (.slice u.A u.args.length u.cap)) w.heap.size t):=aa ((ud.block _ (by have:=hg3.size;omega) (fun e=>by injection e with e;omega)).trans ((hg3.block _ (by omega) (fun e=>by injection e with e;omega)).trans BM.o));have Rv:=aa ((ud.block (w.heap.size+1) (by have:=hg3.size;omega) (fun e=>by injection e with e;omega)).trans ((hg3.block _ (by omega) (fun e=>by injection e with e;omega)).trans gy.o));have f0:=ai iu.o (us.length*3);have f1:=ai iu.o (us.length*3+1);have f2:=ai iu.o (us.length*3+2);have k0:=(af iu.o (us.length*3)).trans (kH us m).1;have k1:=(af iu.o (us.length*3+1)).trans (kH us m).2.1;have k2:=(af iu.o (us.length*3+2)).trans (kH us m).2.2;rw[J7] at f0 f1 f2 k0 k1 k2 Mw Rb Z0 UM Ru Rv;clear hu hg3 WL iu Mv ud Hu Hg3;go_wp2;go_roundw
    case rel=>exact⟨k+1,us++[u],L',hlt,by go_num,Z0,aa (by rw[Mu];exact Mw.o),UM,Rb,Kg,Ru,Rv⟩
    case measure=>simp[intOf];omega
  ·have bU:¬(k:Int)<(t.args.length:Int):=by omega
   have Jg:k=t.args.length:=by omega
   have J8:ahg (wr.heap[w.heap.size+2]?=some (.cells (us.flatMap cA.f).toArray 53 (0,0))):=aa (by have:=HR.o;rw[Jg,Nat.sub_self,vS] at this;exact this);have EU:ahg (iL w wr bb s t.args us):=aa (by have:=HP.o;rwa [ahm (by omega)] at this);have HLd:ahg (lr s t.args us (gR (br s) (bz s) t) (nM (br s) (bz s) t) left level L):=aa (by have:=NS.o;rwa [ahm (by omega)] at this);have P9:us.length=t.args.length:=by omega
   clear HR HP NS Jg;have NL:=ae J8.o;have g0:=BM.o.c0;have g1:=BM.o.c1;have g2:=BM.o.c2;have fb:=BM.o.free 2;have f0:=ai gy.o 0;have f1:=ai gy.o 1;have f2:=ai gy.o 2;have k0:=af gy.o 0;have k1:=af gy.o 1;have k2:=af gy.o 2;simp only[ahp,ahq,ahr] at k0 k1 k2;obtain⟨U,hU⟩:∃U:Ty,U=.mk t.aq t.var (some ⟨w.heap.size+2,0,none⟩) t.args.length us:=⟨_,rfl⟩;obtain⟨WF,ig⟩:∃WF,WF=(((wr.setCell ⟨w.heap.size,2,none⟩ (.slice (some ⟨w.heap.size+2,0,none⟩) t.args.length t.args.length)).setCell ⟨w.heap.size+1,0,none⟩ (encStr t.aq)).setCell ⟨w.heap.size+1,1,none⟩ (.int .i64 t.var)).setCell ⟨w.heap.size+1,2,none⟩ (.slice (some ⟨w.heap.size+2,0,none⟩) t.args.length t.args.length):=⟨_,rfl⟩;have MD:=aK wr w.heap.size 2 (.slice (some ⟨w.heap.size+2,0,none⟩) t.args.length t.args.length);have Kh:=bR (wr.setCell ⟨w.heap.size,2,none⟩ (.slice (some ⟨w.heap.size+2,0,none⟩) t.args.length t.args.length)) (w.heap.size+1) 0 1 2 (encStr t.aq) (.int .i64 t.var) (.slice (some ⟨w.heap.size+2,0,none⟩) t.args.length t.args.length);have GF:ahg (w.grownBy WF (some bb)):=aa (by rw[ig];exact lN (lN HG.o MD (ahi _)) Kh (by omega));have LF:ahg (cO WF bb p L):=aa (by rw[ig];exact(yv.o.grown MD (by omega)).grown Kh (by omega));have PF:ahg (pU w WF bb s t U left level L):=aa (by
    have h1:=(EU.o.grown MD (.inr ⟨ahi _,by omega⟩)).grown Kh (.inr ⟨by omega,by omega⟩);rw[←ig] at h1;rw[hU];have hblk:WF.heap[w.heap.size+2]?=some (.cells (us.flatMap cA.f).toArray 53 (0,0)):=by
     rw[ig,Below.heap_setCell _ _ _ _ (by simp),Below.heap_setCell _ _ _ _ (by simp),Below.heap_setCell _ _ _ _ (by simp),Below.heap_setCell _ _ _ _ (by simp)];exact J8.o
    exact pU.done HC.o H.o.txt h1 HLd.o (by omega) (by omega) (ak.block cA us hblk) (fun _ a e=>by injection e with e;subst e;show w.heap.size≤w.heap.size+2;omega) P0 (by rw[Ty.aN] at Jb;omega))
   have Re:bh U=.agg #[encStr t.aq,.int .i64 t.var,.slice (some ⟨w.heap.size+2,0,none⟩) t.args.length t.args.length]:=by rw[hU];unfold bh;show Value.agg #[_,_,.slice _ us.length _]=_;rw[P9];rfl
   clear J8 EU hU MD Kh;go_wp2;rw[←ig];refine bodyPost_ret (v:=.agg #[encStr t.aq,.int .i64 t.var,.slice (some ⟨w.heap.size+2,0,none⟩) t.args.length t.args.length]) ?_ rfl ⟨U,by rw[←Re];rfl,L,PF.o,GF.o,LF.o⟩;rw[ig];simp[results,Tryz.f129,go_sem,k0,k1,k2]
set_option maxRecDepth 512
set_option maxHeartbeats 200000
theorem vU {w:World}{c:Nat}{n m:Int}(t:Ty) (hc:w.heap[c]?=some (.cells #[.int .i64 n] 3 (0,0))) :
  (((w.setCell ⟨c,0,none⟩ (.int .i64 m)).alloc (.cells #[encStr t.aq,.int .i64 t.var,.slice t.A t.args.length t.cap] 53)).heap[c]?=some (.cells #[.int .i64 m] 3 (0,0)))∧Tr c w (.bool false) ((w.setCell ⟨c,0,none⟩ (.int .i64 m)).alloc (.cells #[encStr t.aq,.int .i64 t.var,.slice t.A t.args.length t.cap] 53)) (.bool false):=by
 have hlt:=ae hc;have hs1:(w.setCell ⟨c,0,none⟩ (.int .i64 m)).heap.size=w.heap.size:=by simp[World.setCell]
 have h1:=aw hc 0 (.int .i64 m);refine⟨(((eR _).alloc _).heap (by rw[hs1];exact hlt)).trans h1,?_⟩;have h2:Tr c w (.bool false) (w.setCell ⟨c,0,none⟩ (.int .i64 m)) (.bool false):=⟨rfl,rfl,rfl,by rw[hs1];exact ahi _,fun k _ hk _=>Below.heap_setCell _ ⟨c,0,none⟩ _ k hk,.inl rfl⟩;exact h2.trans (Tr.dt ((eR _).alloc _))
set_option maxRecDepth 10000
set_option maxHeartbeats 8000000
theorem Ki (t:Ty) (d n c:Nat) (w:World) (hc:w.heap[c]?=some (.cells #[.int .i64 n] 3 (0,0))) (hn:n≤1000000) :
  Calls Tryz.prog 211 #[bh t,.int .i64 d,.pointer (some ⟨c,0,none⟩)] w fun e w'=>e=.returned (.bool true)∧w'.heap[c]?=some (.cells #[.int .i64 ((n+1:Nat):Int)] 3 (0,0))∧Tr c w (.bool false) w' (.bool false):=by
 have hlt:=ae hc;have X0:Ext w (w.alloc (.cells #[encStr t.aq,.int .i64 t.var,.slice t.A t.args.length t.cap] 53)):=(eR w).alloc _;have hc1:=(X0.heap hlt).trans hc;have hcell:(w.alloc (.cells #[encStr t.aq,.int .i64 t.var,.slice t.A t.args.length t.cap] 53)).cell? ⟨c,0,none⟩=some (.int .i64 n):=af hc1 0;have ia:(w.alloc (.cells #[encStr t.aq,.int .i64 t.var,.slice t.A t.args.length t.cap] 53)).frozen? ⟨c,0,none⟩=false:=ai hc1 0;have HE:=aa (vU (m:=(n:Int)+1) t hc);clear hc hc1 X0;unfold bh;go_enter Tryz.func211,Tryz.ntmps211;go_wp2;go_ret;exact⟨rfl,by have:=HE.o.1;simpa using this,HE.o.2⟩
theorem Fe (t:Ty) (d n c:Nat) (w:World) (hc:w.heap[c]?=some (.cells #[.int .i64 n] 3 (0,0))) (_hn:n≤1000000) (_hd:d≤1000000) :
  Calls Tryz.prog 212 #[bh t,.int .i64 d,.pointer (some ⟨c,0,none⟩)] w fun e w'=>e=.returned (.bool true)∧w'.heap[c]?=some (.cells #[.int .i64 ((max n d:Nat):Int)] 3 (0,0))∧Tr c w (.bool false) w' (.bool false):=by
 have hlt:=ae hc;have X0:Ext w (w.alloc (.cells #[encStr t.aq,.int .i64 t.var,.slice t.A t.args.length t.cap] 53)):=(eR w).alloc _;have hc1:=(X0.heap hlt).trans hc;have hcell:(w.alloc (.cells #[encStr t.aq,.int .i64 t.var,.slice t.A t.args.length t.cap] 53)).cell? ⟨c,0,none⟩=some (.int .i64 n):=af hc1 0;have ia:(w.alloc (.cells #[encStr t.aq,.int .i64 t.var,.slice t.A t.args.length t.cap] 53)).frozen? ⟨c,0,none⟩=false:=ai hc1 0;have HE:=aa (fun m:Int=>vU (m:=m) t hc);clear hc hc1 X0;unfold bh;go_enter Tryz.func212,Tryz.ntmps212;go_wp2
 all_goals go_ret
 all_goals first
  |exact⟨rfl,by rw[show max n d=d by omega];exact(HE.o _).1,(HE.o _).2⟩
  |exact⟨rfl,by rw[show max n d=n by omega];exact(HE.o _).1,(HE.o _).2⟩
  |exact⟨rfl,by rw[show((max n d:Nat):Int)=max (n:Int) (d:Int) by omega];exact(HE.o _).1,(HE.o _).2⟩
  |exact⟨rfl,by rw[show((max n d:Nat):Int)=(if (n:Int)≤d then(d:Int) else n) by split<;>omega];exact(HE.o _).1,(HE.o _).2⟩
set_option maxRecDepth 512
set_option maxHeartbeats 200000
theorem ue : eU 211:=enters_of Tryz.func211 (by kernel_rfl) rfl
theorem rq : eU 212:=enters_of Tryz.func212 (by kernel_rfl) rfl
set_option maxRecDepth 10000
set_option maxHeartbeats 8000000
theorem NT (t:Ty) (w:World) (h:aC w t) (hsz:t.size≤900000):Calls Tryz.prog 179 #[bh t] w fun e w'=>e=.returned (.int .i64 t.size)∧Ext w w':=by
 have HB:=aa (aP.new w t);have X1:Ext w ((w.alloc (.cells #[encStr t.aq,.int .i64 t.var,.slice t.A t.args.length t.cap] 53)).alloc (.cells #[.int .i64 0] 3)):=((eR w).alloc _).alloc _;have hs:(w.alloc (.cells #[encStr t.aq,.int .i64 t.var,.slice t.A t.args.length t.cap] 53)).heap.size=w.heap.size+1:=by simp
 have hc:((w.alloc (.cells #[encStr t.aq,.int .i64 t.var,.slice t.A t.args.length t.cap] 53)).alloc (.cells #[.int .i64 0] 3)).heap[w.heap.size+1]?=some (.cells #[.int .i64 0] 3 (0,0)):=ah (w.alloc (.cells #[encStr t.aq,.int .i64 t.var,.slice t.A t.args.length t.cap] 53)) (.cells #[Value.int .i64 0] 3) (w.heap.size+1) hs.symm;have HW:=aa (xP 211 #[.pointer (some ⟨w.heap.size+1,0,none⟩)] ue w (w.heap.size+1) 1000000
  (fun pre w' v=>v=.bool false∧w'.heap[w.heap.size+1]?=some (.cells #[.int .i64 pre.length] 3 (0,0)))
  (fun _ _ _=>False)
  (fun pre w1 w2 v hj e=>⟨hj.1,(e.heap (ae hj.2)).trans hj.2⟩)
  (fun pre w1 v hj=>⟨by omega,ae hj.2,fun k hk=>by rw[hj.1] at hk;cases hk⟩)
  (fun pre x w1 v hj hN hx ht=>by
   obtain⟨rfl,hcell⟩:=hj;refine(Ki x.2 x.1 pre.length (w.heap.size+1) w1 hcell (by omega)).mono ?_;rintro e w2 ⟨rfl,hc2,hT⟩;exact⟨.bool false,hT,.inl ⟨rfl,rfl,by rw[ahn];exact hc2⟩⟩)
  t 1 [] ((w.alloc (.cells #[encStr t.aq,.int .i64 t.var,.slice t.A t.args.length t.cap] 53)).alloc (.cells #[.int .i64 0] 3)) (.bool false) h X1.below ⟨rfl,hc⟩ (by omega) (by simp;omega))
 have HL:ahg ((t.gU 1).length=t.size):=aa (oX t 1);have HX:=aa X1;clear h hc hs X1;unfold bh at *;go_enter Tryz.func179,Tryz.ntmps179;go_wp2_with fail;refine HW.o.mono ?_;rintro e w2 ⟨v2,hT,(⟨rfl,hj⟩|⟨rfl,q,hq,hx⟩)⟩
 ·have HE:=aa (Ext.cg (HX.o.below.trans (hT.below HX.o.size (by omega) (fun k e=>by cases e))) (ahi _));have Kj:=hj.2;rw[List.nil_append,HL.o] at Kj;have k0:=af Kj 0;have hb:=ae Kj;simp only[ahp,ahq] at k0;clear hT hj Kj;go_wp2;go_ret;exact⟨rfl,HE.o⟩
 ·exact absurd hx id
set_option maxRecDepth 512
set_option maxHeartbeats 200000
def Jj (l:List (Nat×Ty)):Nat:=(l.map (·.1)).foldr max 0
theorem vV (l:List (Nat×Ty)) (x:Nat×Ty):Jj (l++[x])=max (Jj l) x.1:=by
 unfold Jj;rw[ahz,List.map_singleton]
 induction l.map (·.1) with
 |nil=>simp
 |cons y l ih=>simp only[List.cons_append,List.foldr_cons,ih];omega
theorem BN (t:Ty):Jj (t.gU 1)=t.depth:=by
 have h1:∀c,Jj (t.gU 1)≤c↔t.depth≤c:=by
  intro c;have h2:=vo c t 1;unfold Jj;rw[fW]
  constructor
  ·intro h;have:=h2.1 (fun p hp=>h p.1 (List.mem_map.2 ⟨p,hp,rfl⟩));omega
  ·intro h x hx;obtain⟨p,hp,rfl⟩:=List.mem_map.1 hx;exact h2.2 (by omega) p hp
 exact Nat.le_antisymm ((h1 _).2 (ahi _)) ((h1 _).1 (ahi _))
set_option maxRecDepth 10000
set_option maxHeartbeats 8000000
theorem Kk (t:Ty) (w:World) (h:aC w t) (hsz:t.size≤900000):Calls Tryz.prog 180 #[bh t] w fun e w'=>e=.returned (.int .i64 t.depth)∧Ext w w':=by
 have HB:=aa (aP.new w t);have X1:Ext w ((w.alloc (.cells #[encStr t.aq,.int .i64 t.var,.slice t.A t.args.length t.cap] 53)).alloc (.cells #[.int .i64 0] 3)):=((eR w).alloc _).alloc _;have hs:(w.alloc (.cells #[encStr t.aq,.int .i64 t.var,.slice t.A t.args.length t.cap] 53)).heap.size=w.heap.size+1:=by simp
 have hc:((w.alloc (.cells #[encStr t.aq,.int .i64 t.var,.slice t.A t.args.length t.cap] 53)).alloc (.cells #[.int .i64 0] 3)).heap[w.heap.size+1]?=some (.cells #[.int .i64 0] 3 (0,0)):=ah (w.alloc (.cells #[encStr t.aq,.int .i64 t.var,.slice t.A t.args.length t.cap] 53)) (.cells #[Value.int .i64 0] 3) (w.heap.size+1) hs.symm;have HW:=aa (xP 212 #[.pointer (some ⟨w.heap.size+1,0,none⟩)] rq w (w.heap.size+1) 1000000
  (fun pre w' v=>v=.bool false∧w'.heap[w.heap.size+1]?=some (.cells #[.int .i64 (Jj pre:Nat)] 3 (0,0))∧Jj pre≤1000000)
  (fun _ _ _=>False)
  (fun pre w1 w2 v hj e=>⟨hj.1,(e.heap (ae hj.2.1)).trans hj.2.1,hj.2.2⟩)
  (fun pre w1 v hj=>⟨by omega,ae hj.2.1,fun k hk=>by rw[hj.1] at hk;cases hk⟩)
  (fun pre x w1 v hj hN hx ht=>by
   obtain⟨rfl,hcell,hmx⟩:=hj;refine(Fe x.2 x.1 (Jj pre) (w.heap.size+1) w1 hcell hmx hx).mono ?_;rintro e w2 ⟨rfl,hc2,hT⟩;exact⟨.bool false,hT,.inl ⟨rfl,rfl,by rw[vV];exact hc2,by rw[vV];omega⟩⟩)
  t 1 [] ((w.alloc (.cells #[encStr t.aq,.int .i64 t.var,.slice t.A t.args.length t.cap] 53)).alloc (.cells #[.int .i64 0] 3)) (.bool false) h X1.below ⟨rfl,hc,ahj _⟩ (by omega) (by simp;omega))
 have HL:ahg (Jj (t.gU 1)=t.depth):=aa (BN t);have HX:=aa X1;clear h hc hs X1;unfold bh at *;go_enter Tryz.func180,Tryz.ntmps180;go_wp2_with fail;refine HW.o.mono ?_;rintro e w2 ⟨v2,hT,(⟨rfl,hj⟩|⟨rfl,q,hq,hx⟩)⟩
 ·have HE:=aa (Ext.cg (HX.o.below.trans (hT.below HX.o.size (by omega) (fun k e=>by cases e))) (ahi _));have Kj:=hj.2.1;rw[List.nil_append,HL.o] at Kj;have k0:=af Kj 0;have hb:=ae Kj;simp only[ahp,ahq] at k0;clear hT hj Kj;go_wp2;go_ret;exact⟨rfl,HE.o⟩
 ·exact absurd hx id
set_option maxRecDepth 512
set_option maxHeartbeats 200000
theorem zt {a y:World}{B:Nat}(e:Ext a y) (h:a.heap[B]?=some (.cells #[.string ⟨#[]⟩,.int .i64 0,.slice none 0 0] 53 (0,0))) :
  y.cell? ⟨B,0,none⟩=some (.string ⟨#[]⟩)∧y.cell? ⟨B,1,none⟩=some (.int .i64 0)∧y.cell? ⟨B,2,none⟩=some (.slice none 0 0)∧y.frozen? ⟨B,0,none⟩=false∧y.frozen? ⟨B,1,none⟩=false∧y.frozen? ⟨B,2,none⟩=false∧B<y.heap.size:=by
 have hb:=(e.heap (ae h)).trans h;exact⟨af hb 0,af hb 1,af hb 2,ai hb 0,ai hb 1,ai hb 2,ae hb⟩
theorem UN {W a y:World}{B:Nat}(h1:Ext W a) (e:Ext a y) (hB:W.heap.size≤B) (h:a.heap[B]?=some (.cells #[.string ⟨#[]⟩,.int .i64 0,.slice none 0 0] 53 (0,0))) (x:Ty) :
  Ext W (((y.setCell ⟨B,0,none⟩ (encStr x.aq)).setCell ⟨B,1,none⟩ (.int .i64 x.var)).setCell ⟨B,2,none⟩ (.slice x.A x.args.length x.cap))∧aP (((y.setCell ⟨B,0,none⟩ (encStr x.aq)).setCell ⟨B,1,none⟩ (.int .i64 x.var)).setCell ⟨B,2,none⟩ (.slice x.A x.args.length x.cap)) B x:=by
 refine⟨(((h1.trans e).setCell hB _).setCell hB _).setCell hB _,?_⟩;have:=aw (aw (aw ((e.heap (ae h)).trans h) 0 (encStr x.aq)) 1 (.int .i64 x.var)) 2 (.slice x.A x.args.length x.cap);unfold aP;rw[this];rfl
set_option maxRecDepth 10000
set_option maxHeartbeats 8000000
theorem BO (bb p:Nat) (A:Option Addr) (cap:Nat) (s:List Pr) (t:Ty) (hc:t.aq=[]) (x:Ty) (hx:putAt (br s) (bz s) t.var=some x):Fa bb p A cap s t:=by
 intro w left level ht BL fT hbl hl0 qU hv0 Jb;obtain⟨q,hq,hqv,UO⟩:=(dG fT.sub.iK).1 hx;have Rw:aC w x:=UO▸fT.sub.Mx.ty q hq;obtain⟨hx1,hx2⟩:x.size≤4096∧x.depth≤100:=UO▸fT.small q hq;obtain⟨W,hW⟩:∃W,W=(w.alloc (.cells #[encStr t.aq,.int .i64 t.var,.slice t.A t.args.length t.cap] 53)).alloc (.cells #[.string ⟨#[]⟩,.int .i64 0,.slice none 0 0] 53):=⟨_,rfl⟩;have HW:=aa hW.symm;have X0:ahg (Ext w W):=aa (by rw[hW];exact((eR _).alloc _).alloc _);have B1:ahg (aP W w.heap.size t):=aa (by rw[hW];exact(aP.new w t).ext ((eR _).alloc _));have B2:ahg (W.heap[w.heap.size+1]?=some (.cells #[.string ⟨#[]⟩,.int .i64 0,.slice none 0 0] 53 (0,0))):=aa (by rw[hW];exact ah _ _ _ (by simp));have rk:W.heap.size=w.heap.size+2:=by rw[hW];simp
 have P0:=hbl.lt;have Ji:=aa (hbl.ext X0.o);have Ff:=aa (fun w' (e:Ext W w')=>aa (My p A cap s t.var w' (fT.sub.ext (X0.o.trans e))));rw[hx] at Ff;have fk:=aa (fun w' (e:Ext W w')=>ahk (Ji.o.ext e).c0 (B1.o.ext e).c1);have Z2:=aa (Rw.ext X0.o);have hcB:(t.aq == ([]:aj))=true:=by simpa using hc
 have b0:=B1.o.c0;have ZX:bb<W.heap.size:=by omega
 have hNW:w.heap.size<W.heap.size:=by omega
 obtain⟨d0,b1⟩:=fk.o W (eR _);have n1:¬bb=W.heap.size:=by omega
 have n2:¬W.heap.size=bb:=by omega
 have n3:¬w.heap.size=W.heap.size:=by omega
 have n4:¬W.heap.size=w.heap.size:=by omega
 have ZY:=aa rk;have H:=aa ht;have Hc:=aa hc;have ME:ahg (aF bb x=true):=aa (UO▸fT.iD q hq);have Hx:=aa hx;clear hW ht BL fT hbl hc rk hx hqv UO hq Rw;simp only[Option.getD_some,Option.isSome_some] at Ff;unfold bh at *;go_enter Tryz.func129,Tryz.ntmps129;go_upto_region 1 with fail;rw[HW.o];clear HW;go_upto_region 2 with fail
 go_cut [7,8] (fun s7 s8 wx=>∃b7:Nat,s7=.pointer (some ⟨b7,0,none⟩)∧s8=.bool true∧W.heap.size≤b7∧ahg (Ext W wx)∧ahg (aP wx b7 x))
 case first=>
  go_region_held3 (fun w'=>w'.cell? ⟨bb,0,none⟩=some (.pointer (some ⟨p,0,none⟩))∧w'.cell? ⟨w.heap.size,1,none⟩=some (.int .i64 t.var)) (first|assumption|go_keep) (first
   |(
    go_at_call 178
    refine Calls.mono (Ff.o _ ?e).o ?_
    (case e=>exact(by repeat(first|exact eR _|exact eA (by assumption) _|refine eA ?_ _|refine eM ?_ _ _|refine eD ?_|refine eN ?_ _)))
    rintro e y ⟨rfl,jQ⟩;have kS:=fk.o y (by refine Ext.trans ?_ jQ;exact(by repeat(first|exact eR _|exact eA (by assumption) _|refine eA ?_ _|refine eM ?_ _ _|refine eD ?_|refine eN ?_ _)))
    (try (have zz:=zt jQ (B:=W.heap.size) (by first|exact ah W _ _ rfl|fail);obtain⟨z0,z1,z2,z3,z4,z5,z6⟩:=zz))))
  all_goals (go_wp2_with fail;go_meet;first
   |exact⟨y.heap.size,rfl,rfl,aho (ahi _) ((eR W).drew.trans jQ).size,aa (((eR W).drew.trans jQ).alloc _),aa (ah _ _ _ rfl)⟩
   |exact⟨W.heap.size,rfl,rfl,ahi _,aa ((UN (((eR W).alloc _).drew) jQ (ahi _) (ah W _ _ rfl) _).1),aa ((UN (((eR W).alloc _).drew) jQ (ahi _) (ah W _ _ rfl) _).2)⟩)
 case rest=>
  obtain⟨b7,rfl,rfl,Bp,HX,H7⟩:=hcut;have hn7:¬bb=b7:=by omega
  have Rx:¬b7=bb:=by omega
  have hwr:IntKind.i64.wrap (left - (x.size:Int))=left - (x.size:Int):=by rw[IntKind.wrap_i64];omega
  have jV:=aa (fun w' (e:Ext wc w')=>aa (NT x w' ((Z2.o.ext HX.o).ext e) (by omega)));have MF:=aa (fun w' (h:aC w' x)=>aa (Kk x w' h (by omega)));have Fg:=aa (fun w' (h:aC w' x)=>aa (vT x w' h (by omega)));have MG:=aa (Ji.o.ext HX.o);have Z3:=aa (fun w' (e:Ext wc w')=>ahk (MG.o.ext e).c1 (ahk (H7.o.ext e).c0 (ahk (H7.o.ext e).c1 (H7.o.ext e).c2)));unfold bh at jV MF Fg;go_wp2;have Rm:=Z3.o wc.drew (eR _).drew;refine lM 9 10 #[false,false,false,false,false,false,false,false,false,false] (fun w'=>w'.cell? ⟨bb,1,none⟩=some (.int .i64 left)∧w'.cell? ⟨b7,0,none⟩=some (encStr x.aq)∧w'.cell? ⟨b7,1,none⟩=some (.int .i64 x.var)∧w'.cell? ⟨b7,2,none⟩=some (.slice x.A x.args.length x.cap)) (by kernel_rfl) (by kernel_rfl) (by kernel_rfl) ?_
  (refine bI (i:=0) (v := ?_) rfl (by kernel_rfl) (by kernel_rfl) (by kernel_rfl) (by kernel_rfl) (fun _ _ _ h=>h) (Or.inl ⟨by kernel_rfl,?_⟩) (by assumption) ?_;rotate_left 1;(focus (intro w hSw;(try dsimp only at hSw);(try obtain⟨g1,g2,g3⟩:=hSw);(try obtain⟨g1,g2⟩:=hSw);go_simp;try with_reducible rfl));simp only[Act.put,ahs,aht,ahu])
  (refine bI (i:=1) (v := ?_) rfl (by kernel_rfl) (by kernel_rfl) (by kernel_rfl) (by kernel_rfl) (fun _ _ _ h=>h) (Or.inl ⟨by kernel_rfl,?_⟩) (by assumption) ?_;rotate_left 1;(focus (intro w hSw;(try dsimp only at hSw);(try obtain⟨g1,g2,g3⟩:=hSw);(try obtain⟨g1,g2⟩:=hSw);go_simp;try with_reducible rfl));simp only[Act.put,ahs,aht,ahu])
  (refine bI (i:=2) (v := ?_) rfl (by kernel_rfl) (by kernel_rfl) (by kernel_rfl) (by kernel_rfl) (fun _ _ _ h=>h) (Or.inl ⟨by kernel_rfl,?_⟩) (by assumption) ?_;rotate_left 1;(focus (intro w hSw;(try dsimp only at hSw);(try obtain⟨g1,g2,g3⟩:=hSw);(try obtain⟨g1,g2⟩:=hSw);go_simp;try with_reducible rfl));simp only[Act.put,ahs,aht,ahu])
  (refine bI (i:=3) (v := ?_) rfl (by kernel_rfl) (by kernel_rfl) (by kernel_rfl) (by kernel_rfl) (fun _ _ _ h=>h) (Or.inl ⟨by kernel_rfl,?_⟩) (by assumption) ?_;rotate_left 1;(focus (intro w hSw;(try dsimp only at hSw);(try obtain⟨g1,g2,g3⟩:=hSw);(try obtain⟨g1,g2⟩:=hSw);go_simp;try with_reducible rfl));simp only[Act.put,ahs,aht,ahu])
  (refine bI (i:=4) (v := ?_) rfl (by kernel_rfl) (by kernel_rfl) (by kernel_rfl) (by kernel_rfl) (fun _ _ _ h=>h) (Or.inl ⟨by kernel_rfl,?_⟩) (by assumption) ?_;rotate_left 1;(focus (intro w hSw;(try dsimp only at hSw);(try obtain⟨g1,g2,g3⟩:=hSw);(try obtain⟨g1,g2⟩:=hSw);go_simp;try with_reducible rfl));simp only[Act.put,ahs,aht,ahu])
  refine bT (i:=5) (by kernel_rfl) rfl (fun KK hK => ?_)
  go_simp
  refine Calls.mono (jV.o _ (eR _).drew).o ?_;rintro e w4 ⟨rfl,eP⟩;have X4:=aa ((eR wc).drew.trans eP);have MA:=Z3.o _ X4.o;refine hK.out _ _ (fun _=>MA) ?_;clear hK KK Rm eP;simp only[ahs,aht,ahu];refine bT (i:=6) (by kernel_rfl) rfl (fun KK hK => ?_)
  go_simp
  refine hK.out _ _ (fun _=>MA) ?_;clear hK KK;simp only[ahs,aht,ahu];refine bT (i:=7) (by kernel_rfl) rfl (fun KK hK => ?_)
  go_simp
  refine hK.out _ _ (fun _=>MA) ?_;clear hK KK;simp only[ahs,aht,ahu];refine bT (i:=8) (by kernel_rfl) rfl (fun KK hK => ?_)
  go_simp
  refine hK.out _ _ (fun _=>MA) ?_;clear hK KK;simp only[ahs,aht,ahu];have UQ:=aa (MG.o.ext X4.o);have f41:=UQ.o.f1;have c41:=UQ.o.c1;obtain⟨W9,UR⟩:∃W9,W9=w4.setCell ⟨bb,1,none⟩ (.int .i64 (left - x.size)):=⟨_,rfl⟩;have BP:w4.grownBy W9 (some bb):=by rw[UR];exact aK _ _ _ _
  have Z4:ahg (cO W9 bb p (left - x.size)):=aa (by rw[UR];exact UQ.o.set _);have NU:ahg (w.grownBy W9 (some bb)):=aa (aR (dN (X0.o.trans (HX.o.trans X4.o)) _) BP);have WM:ahg (aC W9 x):=aa ((Z2.o.ext (HX.o.trans X4.o)).gb BP ME.o);have Ry:ahg (aP W9 b7 x):=aa ((BP.block b7 (H7.o.ext X4.o).lt (fun e=>by injection e with e;exact Rx e)).trans (H7.o.ext X4.o));have WN:ahg (W9.heap[w.heap.size+1]?=some (.cells #[.string ⟨#[]⟩,.int .i64 0,.slice none 0 0] 53 (0,0))):=aa ((BP.block _ (by have:=(HX.o.trans X4.o).size;have:=ae B2.o;omega) (fun e=>by injection e with e;omega)).trans (((HX.o.trans X4.o).heap (ae B2.o)).trans B2.o));refine bT (i:=9) (by kernel_rfl) rfl (fun KK hK => ?_)
  go_simp
  rw[←UR];refine hK.out _ _ (fun h=>absurd rfl h) ?_;clear hK KK MA UQ f41 c41 BP
  try simp only[Act.put]
  refine pS (by kernel_rfl) ?_ _;clear UR;obtain⟨a0,a1,a2⟩:=ahk Ry.o.c0 (ahk Ry.o.c1 Ry.o.c2);go_wp2_with fail;refine(MF.o _ WM.o).o.mono ?_;rintro e Rz ⟨rfl,uf⟩;have NV:=aa (WM.o.ext uf);have BS:=aa (Ry.o.ext uf);have BV:=aa (Z4.o.ext uf);have NW:=aa (aR NU.o (dN uf _));have Kl:=aa ((uf.heap (ae WN.o)).trans WN.o);clear a0 a1 a2 uf WM Ry Z4 NU WN;have HZ:ahg (gR (br s) (bz s) t=x.size∧nM (br s) (bz s) t=x.depth∧fF (br s) (bz s) t=x.pure):=aa (by
   rw[jn,lH,ek,if_pos Hc.o,if_pos Hc.o,if_pos Hc.o,Hx.o];exact⟨rfl,rfl,rfl⟩)
  by_cases hdp:level+(x.depth:Int)>101
  ·have Fh:=aK Rz bb 1 (.int .i64 (-1));have MH:=BV.o.lt;have f11:=BV.o.f1;have c11:=BV.o.c1;have yw:=aa (BV.o.set (-1));have NX:=aa (aR NW.o Fh);have WO:=aa (NV.o.gb Fh ME.o);have NY:ahg (aP (Rz.setCell ⟨bb,1,none⟩ (.int .i64 (-1))) b7 x):=aa ((Fh.block b7 BS.o.lt (fun e=>by injection e with e;exact Rx e)).trans BS.o);have ug:=aa ((Fh.block (w.heap.size+1) (ae Kl.o) (fun e=>by injection e with e;omega)).trans Kl.o);clear NV BS BV NW Kl Fh;obtain⟨a0,a1,a2⟩:=ahk NY.o.c0 (ahk NY.o.c1 NY.o.c2);have NZ:=aa (Fg.o _ WO.o);go_wp2_with fail;refine NZ.o.o.mono ?_;rintro e RB ⟨⟨u,rfl,hu⟩,uh⟩;clear a0 a1 a2;have BW:=aa ((uh.heap (ae ug.o)).trans ug.o);have f0:=ai BW.o 0;have f1:=ai BW.o 1;have f2:=ai BW.o 2;have k0:=af BW.o 0;have k1:=af BW.o 1;have k2:=af BW.o 2;simp only[ahp,ahq,ahr] at k0 k1 k2;have ud:=bR RB (w.heap.size+1) 0 1 2 (encStr u.aq) (.int .i64 u.var) (.slice u.A u.args.length u.cap);have PF:ahg (pU w (((RB.setCell ⟨w.heap.size+1,0,none⟩ (encStr u.aq)).setCell ⟨w.heap.size+1,1,none⟩ (.int .i64 u.var)).setCell ⟨w.heap.size+1,2,none⟩ (.slice u.A u.args.length u.cap)) bb s t u left level (-1)):=aa
    ⟨hu.ty.grown ud (fun c e=>by injection e with e;subst e;exact hu.away _ (by have:=ae ug.o;exact this)),hu.away bb (by have:=yw.o.lt;exact this),fun c hc _=>hu.away c (by have:=ae ug.o;omega),by omega,by have:=x.size_pos;omega,fun h=>absurd h (by omega),fun _=>.inr (by rw[HZ.o.2.1];omega)⟩
   have GF:=aa (lN (aR NX.o (dN uh _)) ud (by omega));have LF:=aa ((yw.o.ext uh).grown ud (by have:=yw.o.lt;omega));clear uh hu ud;go_wp2;refine bodyPost_ret (v:=.agg #[encStr u.aq,.int .i64 u.var,.slice u.A u.args.length u.cap]) ?_ rfl ⟨u,-1,rfl,PF.o,GF.o,LF.o⟩;simp[results,Tryz.f129,go_sem,k0,k1,k2]
  ·have yw:=BV;have NX:=NW;have ug:=Kl;obtain⟨a0,a1,a2⟩:=ahk BS.o.c0 (ahk BS.o.c1 BS.o.c2);have NZ:=aa (Fg.o _ NV.o);go_wp2_with fail;refine NZ.o.o.mono ?_;rintro e RB ⟨⟨u,rfl,hu⟩,uh⟩;clear a0 a1 a2;have BW:=aa ((uh.heap (ae ug.o)).trans ug.o);have f0:=ai BW.o 0;have f1:=ai BW.o 1;have f2:=ai BW.o 2;have k0:=af BW.o 0;have k1:=af BW.o 1;have k2:=af BW.o 2;simp only[ahp,ahq,ahr] at k0 k1 k2;have ud:=bR RB (w.heap.size+1) 0 1 2 (encStr u.aq) (.int .i64 u.var) (.slice u.A u.args.length u.cap);have PF:ahg (pU w (((RB.setCell ⟨w.heap.size+1,0,none⟩ (encStr u.aq)).setCell ⟨w.heap.size+1,1,none⟩ (.int .i64 u.var)).setCell ⟨w.heap.size+1,2,none⟩ (.slice u.A u.args.length u.cap)) bb s t u left level (left - x.size)):=aa
    ⟨hu.ty.grown ud (fun c e=>by injection e with e;subst e;exact hu.away _ (by have:=ae ug.o;exact this)),hu.away bb (by have:=yw.o.lt;exact this),fun c hc _=>hu.away c (by have:=ae ug.o;omega),by omega,by have:=x.size_pos;omega,fun h=>⟨by rw[HZ.o.2.2];exact hu.is,by rw[HZ.o.1],by rw[HZ.o.2.1];omega⟩,fun h=>.inl (by rw[HZ.o.1];omega)⟩
   have GF:=aa (lN (aR NX.o (dN uh _)) ud (by omega));have LF:=aa ((yw.o.ext uh).grown ud (by have:=yw.o.lt;omega));clear uh hu ud;go_wp2;refine bodyPost_ret (v:=.agg #[encStr u.aq,.int .i64 u.var,.slice u.A u.args.length u.cap]) ?_ rfl ⟨u,left - x.size,rfl,PF.o,GF.o,LF.o⟩;simp[results,Tryz.f129,go_sem,k0,k1,k2]
theorem yx (bb p:Nat) (A:Option Addr) (cap:Nat) (s:List Pr) (v:Int) (TA:Option Addr) (tc:Nat) (hx:putAt (br s) (bz s) v=none):Fa bb p A cap s (.mk [] v TA tc []):=by
 intro w left level ht BL fT hbl hl0 qU hv0 Jb;obtain⟨W,hW⟩:∃W,W=(w.alloc (.cells #[.string ⟨#[]⟩,.int .i64 v,.slice TA 0 tc] 53)).alloc (.cells #[.string ⟨#[]⟩,.int .i64 0,.slice none 0 0] 53):=⟨_,rfl⟩;have HW:=aa hW.symm;have X0:ahg (Ext w W):=aa (by rw[hW];exact((eR _).alloc _).alloc _);have B1:ahg (W.heap[w.heap.size]?=some (.cells #[.string ⟨#[]⟩,.int .i64 v,.slice TA 0 tc] 53 (0,0))):=aa (by rw[hW];exact(((eR _).alloc _).heap (by simp)).trans (ah _ _ _ rfl));have B2:ahg (W.heap[w.heap.size+1]?=some (.cells #[.string ⟨#[]⟩,.int .i64 0,.slice none 0 0] 53 (0,0))):=aa (by rw[hW];exact ah _ _ _ (by simp));have rk:W.heap.size=w.heap.size+2:=by rw[hW];simp
 have P0:=hbl.lt;have Ji:=aa (hbl.ext X0.o);have Ff:ahg (∀w',Ext W w'→ahg (Calls Tryz.prog 178 #[.pointer (some ⟨p,0,none⟩),.int .i64 v] w' fun e w''=>e=.returned (.tuple #[.agg #[.string ⟨#[]⟩,.int .i64 0,.slice none 0 0],.bool false])∧Ext w' w'')):=aa (fun w' e=>by
  have:=My p A cap s v w' (fT.sub.ext (X0.o.trans e));rw[hx] at this;exact this)
 have fk:=aa (fun w' (e:Ext W w')=>ahk (Ji.o.ext e).c0 ((show w'.cell? ⟨w.heap.size,1,none⟩=some (.int .i64 v) from af ((e.heap (ae B1.o)).trans B1.o) 1)));have b0:W.cell? ⟨w.heap.size,0,none⟩=some (.string ⟨#[]⟩):=af B1.o 0;have ZX:bb<W.heap.size:=by omega
 have hNW:w.heap.size<W.heap.size:=by omega
 obtain⟨d0,b1⟩:=fk.o W (eR _);have n1:¬bb=W.heap.size:=by omega
 have n2:¬W.heap.size=bb:=by omega
 have n3:¬w.heap.size=W.heap.size:=by omega
 have n4:¬W.heap.size=w.heap.size:=by omega
 have ZY:=aa rk;have H:=aa ht;have Hx:=aa hx;have HZ:ahg (gR (br s) (bz s) (.mk [] v TA tc [])=1∧nM (br s) (bz s) (.mk [] v TA tc [])=1∧fF (br s) (bz s) (.mk [] v TA tc [])=(Ty.mk [] v TA tc []).pure):=aa (by
  have hc0:(Ty.mk [] v TA tc []).aq=[]:=rfl;rw[jn,lH,ek,if_pos hc0,if_pos hc0,if_pos hc0];show(match putAt (br s) (bz s) v with|some u=>u.size|none=>1)=1∧(match putAt (br s) (bz s) v with|some u=>u.depth|none=>1)=1∧((putAt (br s) (bz s) v).getD _).pure=_;rw[hx];exact⟨rfl,rfl,rfl⟩)
 have hlv:level≤100:=by rw[Ty.aN] at Jb;omega
 have Z6:bh (.mk [] v TA tc [])=.agg #[.string ⟨#[]⟩,.int .i64 v,.slice TA 0 tc]:=rfl;clear hW ht BL fT hbl rk hx Jb;rw[Z6];clear Z6;go_enter Tryz.func129,Tryz.ntmps129;go_upto_region 1 with fail;rw[HW.o];clear HW;go_upto_region 2 with fail
 go_cut [7,8] (fun s7 s8 wx=>s8=.bool false∧ahg (Ext W wx))
 case first=>
  go_region_held3 (fun w'=>w'.cell? ⟨bb,0,none⟩=some (.pointer (some ⟨p,0,none⟩))∧w'.cell? ⟨w.heap.size,1,none⟩=some (.int .i64 v)) (first|assumption|go_keep) (first
   |(
    go_at_call 178
    refine Calls.mono (Ff.o _ ?e).o ?_
    (case e=>exact(by repeat(first|exact eR _|exact eA (by assumption) _|refine eA ?_ _|refine eM ?_ _ _|refine eD ?_|refine eN ?_ _)))
    rintro e y ⟨rfl,jQ⟩;have kS:=fk.o y (by refine Ext.trans ?_ jQ;exact(by repeat(first|exact eR _|exact eA (by assumption) _|refine eA ?_ _|refine eM ?_ _ _|refine eD ?_|refine eN ?_ _)))
    (try (have zz:=zt jQ (B:=W.heap.size) (by first|exact ah W _ _ rfl|fail);obtain⟨z0,z1,z2,z3,z4,z5,z6⟩:=zz))))
  all_goals (go_wp2_with fail;go_meet;first
   |exact⟨rfl,aa (((eR W).drew.trans jQ).alloc _)⟩
   |exact⟨rfl,aa ((UN (((eR W).alloc _).drew) jQ (ahi _) (ah W _ _ rfl) (.mk [] 0 none 0 [])).1)⟩)
 case rest=>
  obtain⟨rfl,HX⟩:=hcut;have MG:=aa (Ji.o.ext HX.o);have Z8:=aa ((HX.o.heap (ae B1.o)).trans B1.o);have Z9:=aa ((HX.o.heap (ae B2.o)).trans B2.o);obtain⟨W8,sH⟩:∃W8,W8=wc.setCell ⟨bb,1,none⟩ (.int .i64 (left - 1)):=⟨_,rfl⟩;have WH:=aa sH.symm;have UT:wc.grownBy W8 (some bb):=by rw[sH];exact aK _ _ _ _
  have WI:ahg (cO W8 bb p (left - 1)):=aa (by rw[sH];exact MG.o.set _);have UL:ahg (w.grownBy W8 (some bb)):=aa (aR (dN (X0.o.trans HX.o) _) UT);have Qb:=aa ((UT.block _ (ae Z8.o) (fun e=>by injection e with e;omega)).trans Z8.o);have Rs:=aa ((UT.block _ (ae Z9.o) (fun e=>by injection e with e;omega)).trans Z9.o);have je:=jo 0 (by omega) W8;rw[show((0:Nat):Int)=0 from rfl] at je;obtain⟨R,hR⟩:∃R,R=W8.heap.size:=⟨_,rfl⟩;obtain⟨W1,hW1⟩:∃W1,W1=W8.alloc (.cells (j6 0) 53):=⟨_,rfl⟩;have Ke:ahg (Ext W8 W1):=aa (by rw[hW1];exact(eR _).alloc _);have hRw:w.heap.size≤R:=by rw[hR];exact UL.o.size
  rw[←hR,←hW1] at je;have vg:=aa je;have c1:=MG.o.c1;have c0:=MG.o.c0;have f1:=MG.o.f1;have WQ:=MG.o.lt;have e2:W8.cell? ⟨w.heap.size,2,none⟩=some (.slice TA 0 tc):=af Qb.o 2;clear sH hW1 hR je UT b0 b1 d0;go_upto_region 9 with fail;rw[WH.o];have je:=vg.o;have NR:=aa ((Ke.o.heap (ae Qb.o)).trans Qb.o);have MC:=aa ((Ke.o.heap (ae Rs.o)).trans Rs.o);have NQ:=aa (WI.o.ext Ke.o);have WJ:=aa (aR UL.o (dN Ke.o _));have e2':W1.cell? ⟨w.heap.size,2,none⟩=some (.slice TA 0 tc):=af NR.o 2;clear c1 c0 f1;go_wp2
  go_loopw [58] (fun i wr=>i=.int .i64 0∧wr=W1) (fun _ _=>0)
  case atStart=>exact⟨rfl,rfl⟩
  case round=>
   obtain⟨rfl,rfl⟩:=hrel;have g0:wr.cell? ⟨w.heap.size,0,none⟩=some (.string ⟨#[]⟩):=af NR.o 0;have g1:wr.cell? ⟨w.heap.size,1,none⟩=some (.int .i64 v):=af NR.o 1;have fb:=ai NR.o 2;have f0:=ai MC.o 0;have f1:=ai MC.o 1;have f2:=ai MC.o 2;have k0:=af MC.o 0;have k1:=af MC.o 1;have k2:=af MC.o 2;simp only[ahp,ahq,ahr] at k0 k1 k2;have MD:=aK wr w.heap.size 2 (.slice (some ⟨R,0,none⟩) 0 0);have Kh:=bR (wr.setCell ⟨w.heap.size,2,none⟩ (.slice (some ⟨R,0,none⟩) 0 0)) (w.heap.size+1) 0 1 2 (.string ⟨#[]⟩) (.int .i64 v) (.slice (some ⟨R,0,none⟩) 0 0);obtain⟨WF,ig⟩:∃WF,WF=(((wr.setCell ⟨w.heap.size,2,none⟩ (.slice (some ⟨R,0,none⟩) 0 0)).setCell ⟨w.heap.size+1,0,none⟩ (.string ⟨#[]⟩)).setCell ⟨w.heap.size+1,1,none⟩ (.int .i64 v)).setCell ⟨w.heap.size+1,2,none⟩ (.slice (some ⟨R,0,none⟩) 0 0):=⟨_,rfl⟩;have GF:ahg (w.grownBy WF (some bb)):=aa (by rw[ig];exact lN (lN WJ.o MD (ahi _)) Kh (by omega));have LF:ahg (cO WF bb p (left - 1)):=aa (by rw[ig];exact(NQ.o.grown MD (by omega)).grown Kh (by omega));have PF:ahg (pU w WF bb s (.mk [] v TA tc []) (.mk [] v (some ⟨R,0,none⟩) 0 []) left level (left - 1)):=aa
    ⟨aC.of (ahi _) (by omega) (by decide) (ak.nil _ _ _) (by simp),dE (fun hn=>absurd rfl hn) (by simp),fun c _ _=>dE (fun hn=>absurd rfl hn) (by simp),by omega,by omega,
     fun _=>⟨by rw[HZ.o.2.2,Ty.aG,Ty.aG];rfl,by rw[HZ.o.1];rfl,by rw[HZ.o.2.1];omega⟩,fun h=>.inl (by rw[HZ.o.1];omega)⟩
   clear MD Kh;go_wp2;rw[←ig];refine bodyPost_ret (v:=.agg #[.string ⟨#[]⟩,.int .i64 v,.slice (some ⟨R,0,none⟩) 0 0]) ?_ rfl ⟨.mk [] v (some ⟨R,0,none⟩) 0 [],left - 1,rfl,PF.o,GF.o,LF.o⟩;rw[ig];simp[results,Tryz.f129,go_sem,k0,k1,k2]
set_option maxRecDepth 512
set_option maxHeartbeats 200000
theorem RD (bb p:Nat) (A:Option Addr) (cap:Nat) (s:List Pr) (t:Ty):mB t=true→t.size≤100000→Fa bb p A cap s t:=by
 induction t using Ty.ind with
 |h t ih=>
 intro hf hsz
 by_cases hc:t.aq=[]
 ·cases hx:putAt (br s) (bz s) t.var with
  |some x=>exact BO bb p A cap s t hc x hx
  |none=>
   have ha:=si hf hc;cases t with
   |mk c v TA tc l=>
   have hc':c=[]:=hc;have ha':l=[]:=ha;subst hc' ha';exact yx bb p A cap s v TA tc hx
 ·exact BK bb p A cap s t hc (by have:=t.gq;omega) (fun k hk=>ih k hk (sg hf hk) (by have:=Ty.bG hk;omega))
structure zU (w w':World) (s:List Pr) (t u:Ty) (n:Int):Prop where
 ty:aC w' u
 away:∀c,c<w.heap.size→aF c t=true→aF c u=true
 no:az t=false→n=1
 yes:az t=true→gR (br s) (bz s) t≤4096∧nM (br s) (bz s) t≤100→n=0∧u.pure=fF (br s) (bz s) t
 lim:az t=true→¬(gR (br s) (bz s) t≤4096∧nM (br s) (bz s) t≤100)→n=2
theorem vW (w:World):aC w (.mk [] 0 none 0 []):=aC.of (ahi _) (by omega) (by decide) (ak.nil _ _ _) (by simp)
theorem lO (c:Nat):aF c (.mk [] 0 none 0 [])=true:=dE (fun hn=>absurd rfl hn) (by simp)
theorem N0 (w:World) (bb p:Nat) (h:bb=w.heap.size):cO (w.alloc (.cells #[.pointer (some ⟨p,0,none⟩),.int .i64 4096] 198)) bb p 4096:=ah _ _ _ h
set_option maxRecDepth 10000
set_option maxHeartbeats 8000000
theorem ui (p:Nat) (A:Option Addr) (cap:Nat) (s:List Pr) (t:Ty) (w:World) (hs:ij w p A cap s) (hsm:∀x∈s,az x.ty=true) (ht:aC w t) (hsz:t.size≤900000) :
  Calls Tryz.prog 78 #[.pointer (some ⟨p,0,none⟩),bh t] w fun e w'=>(∃u n,e=.returned (.tuple #[bh u,.int .i64 n])∧zU w w' s t u n)∧Ext w w':=by
 obtain⟨W,hW⟩:∃W,W=(w.alloc (.cells #[encStr t.aq,.int .i64 t.var,.slice t.A t.args.length t.cap] 53)).alloc (.cells #[.string ⟨#[]⟩,.int .i64 0,.slice none 0 0] 53):=⟨_,rfl⟩;have HW:=aa hW.symm;have X0:ahg (Ext w W):=aa (by rw[hW];exact((eR _).alloc _).alloc _);have B1:ahg (aP W w.heap.size t):=aa (by rw[hW];exact(aP.new w t).ext ((eR _).alloc _));have B2:ahg (W.heap[w.heap.size+1]?=some (.cells #[.string ⟨#[]⟩,.int .i64 0,.slice none 0 0] 53 (0,0))):=aa (by rw[hW];exact ah _ _ _ (by simp));have HL:=aa (oG t W (ht.ext X0.o) (by omega));have HS:=aa hs;have vX:=aa hsm;have H:=aa ht;obtain⟨a0,a1,a2⟩:=ahk B1.o.c0 (ahk B1.o.c1 B1.o.c2);clear hW hs hsm ht;unfold bh at *;cases hl:az t
 ·rw[hl] at HL;have Hl:=aa hl;clear hl;go_enter Tryz.func78,Tryz.ntmps78;go_upto_region 1 with fail;rw[HW.o];go_wp2_with fail;refine HL.o.mono ?_;rintro e w2 ⟨rfl,hx2⟩;have X2:=aa (X0.o.trans hx2);have Fi:=aa ((hx2.heap (ae B2.o)).trans B2.o);have f0:=ai Fi.o 0;have f1:=ai Fi.o 1;have f2:=ai Fi.o 2;have k0:=af Fi.o 0;have k1:=af Fi.o 1;have k2:=af Fi.o 2;simp only[ahp,ahq,ahr] at k0 k1 k2;clear hx2 a0 a1 a2;go_wp2;refine bodyPost_ret (v:=.tuple #[.agg #[.string ⟨#[]⟩,.int .i64 0,.slice none 0 0],.int .i64 1]) ?_ rfl ⟨⟨.mk [] 0 none 0 [],1,rfl,vW _,fun c _ _=>lO c,fun _=>rfl,(fun h=>by rw[Hl.o] at h;cases h),(fun h=>by rw[Hl.o] at h;cases h)⟩,?_⟩
  ·simp[results,Tryz.f78,go_sem,k0,k1,k2]
  ·exact((X2.o.setCell (by simp) _).setCell (by simp) _).setCell (by simp) _
 rw[hl] at HL;have Hl:=aa hl;have Hfl:=aa (vx hl);obtain⟨l1,l2,-⟩:=aW hl;clear hl;go_enter Tryz.func78,Tryz.ntmps78;go_upto_region 1 with fail;rw[HW.o];go_wp2_with fail;refine HL.o.mono ?_;rintro e w2 ⟨rfl,hx2⟩;have X2:=aa (X0.o.trans hx2);have B12:=aa (B1.o.ext hx2);have Fi:=aa ((hx2.heap (ae B2.o)).trans B2.o);clear hx2 a0 a1 a2 B1 B2 HL HW;obtain⟨W3,hW3⟩:∃W3,W3=w2.alloc (.cells #[.pointer (some ⟨p,0,none⟩),.int .i64 4096] 198):=⟨_,rfl⟩;have HW3:=aa hW3.symm;have MI:ahg (Ext w2 W3):=aa (by rw[hW3];exact(eR _).alloc _);have hpw:=ae HS.o.blk;have hs2:=X2.o.size;have qW:ahg (cO W3 w2.heap.size p 4096):=aa (by rw[hW3];exact N0 w2 _ p rfl);have P5:ahg (pT W3 w2.heap.size p A cap s):=aa ⟨HS.o.ext (X2.o.trans MI.o),by omega,fun hn a ha=>by
   obtain⟨b,o,e,hb,-⟩:=HS.o.Mx.row.2 (Nat.pos_of_ne_zero hn);rw[e] at ha;injection ha with ha;subst ha;show b≠_;omega,fun x hx=>aU (HS.o.Mx.ty x hx) hs2,fun x hx=>by obtain⟨q1,q2,-⟩:=aW (vX.o x hx);exact⟨q1,q2⟩⟩
 have Qc:=aa (RD w2.heap.size p A cap s t Hfl.o (by omega) W3 4096 1 (H.o.ext (X2.o.trans MI.o)) (aU H.o hs2) P5.o qW.o (by omega) (by omega) (by omega) (by omega));have UU:=aa (B12.o.ext MI.o);have UW:=aa ((MI.o.heap (ae Fi.o)).trans Fi.o);obtain⟨a0,a1,a2⟩:=ahk UU.o.c0 (ahk UU.o.c1 UU.o.c2);have hN:w.heap.size+1<w2.heap.size:=ae Fi.o;clear hW3 B12 Fi;unfold bh at Qc;go_upto_region 4 with fail;rw[HW3.o];go_wp2_with fail;refine Qc.o.mono ?_;rintro e w4 ⟨u,L,rfl,hu,hg4,hb4⟩;obtain⟨W5,jR⟩:∃W5,W5=w4.alloc (.cells #[encStr u.aq,.int .i64 u.var,.slice u.A u.args.length u.cap] 53):=⟨_,rfl⟩;have HW5:=aa jR.symm;have xZ:ahg (Ext w4 W5):=aa (by rw[jR];exact(eR _).alloc _);have hs3:=MI.o.size;have X5:ahg (Ext w W5):=aa (((X2.o.trans MI.o).grown hg4 (fun k e=>by injection e with e;omega)).trans xZ.o);have HB5:=aa (hb4.ext xZ.o);have B5:ahg (aP W5 w4.heap.size u):=aa (by rw[jR];exact aP.new w4 u);have N1:=aa ((xZ.o.heap (by have:=hg4.size;have:=ae UW.o;omega)).trans ((hg4.block _ (ae UW.o) (fun e=>by injection e with e;omega)).trans UW.o));have Hu:=aa hu;have acW:w.heap.size+1<W5.heap.size:=ae N1.o;obtain⟨b0,b1,b2⟩:=ahk B5.o.c0 (ahk B5.o.c1 B5.o.c2);have c1:=HB5.o.c1;have hbl:=HB5.o.lt;clear jR hu hg4 hb4 a0 a1 a2 Qc UU UW;go_upto_region 5 with fail;rw[HW5.o];have f0:=ai N1.o 0;have f1:=ai N1.o 1;have f2:=ai N1.o 2;have k0:=af N1.o 0;have k1:=af N1.o 1;have k2:=af N1.o 2;simp only[ahp,ahq,ahr] at k0 k1 k2
 by_cases hL:L<0
 ·have HN:=aa (Hu.o.no hL);go_wp2;refine bodyPost_ret (v:=.tuple #[.agg #[.string ⟨#[]⟩,.int .i64 0,.slice none 0 0],.int .i64 2]) ?_ rfl ⟨⟨.mk [] 0 none 0 [],2,rfl,vW _,fun c _ _=>lO c,(fun h=>by rw[Hl.o] at h;cases h),(fun _ h=>by rcases HN.o with h1|h1<;>omega),fun _ _=>rfl⟩,?_⟩
  ·simp[results,Tryz.f78,go_sem,k0,k1,k2]
  ·exact((X5.o.setCell (by simp) _).setCell (by simp) _).setCell (by simp) _
 ·have HY:=aa (Hu.o.yes (by omega));have Jk:=aa (Hu.o.ty.ext xZ.o);have ud:=bR W5 (w.heap.size+1) 0 1 2 (encStr u.aq) (.int .i64 u.var) (.slice u.A u.args.length u.cap);have HTF:=aa (Jk.o.grown ud (fun c e=>by injection e with e;subst e;exact Hu.o.away _ (by have:=MI.o.size;omega) (aU H.o (by omega))));clear ud;go_wp2;refine bodyPost_ret (v:=.tuple #[.agg #[encStr u.aq,.int .i64 u.var,.slice u.A u.args.length u.cap],.int .i64 0]) ?_ rfl ⟨⟨u,0,rfl,HTF.o,fun c hc h=>Hu.o.away c (by have:=MI.o.size;omega) h,(fun h=>by rw[Hl.o] at h;cases h),fun _ _=>⟨rfl,HY.o.1⟩,fun _ h=>absurd ⟨by have:=HY.o.2.1;omega,by have:=HY.o.2.2;omega⟩ h⟩,?_⟩
  ·simp[results,Tryz.f78,go_sem,k0,k1,k2]
  ·exact((X5.o.setCell (by simp) _).setCell (by simp) _).setCell (by simp) _
set_option maxRecDepth 512
set_option maxHeartbeats 200000
section
variable {c base:Nat}{w w':World}{v:Value}{us:List Int}
end
end Go.Proofs.YtigafbmabjglfaaGreatDoor
