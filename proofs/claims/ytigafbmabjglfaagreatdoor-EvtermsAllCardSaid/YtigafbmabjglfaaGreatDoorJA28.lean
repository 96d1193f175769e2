import Derived.Test.YtigafbmabjglfaaGreatDoorJA27
import Derived.Recover
namespace Go.Proofs.YtigafbmabjglfaaGreatDoor
open Go.RowKit Go.Extern.Stop Go.Stop Go.Extern
theorem VM (k:Int) (w:World):(Instr.typeAssert (.iface 162 (.agg #[.int .i64 k])) 20 162 true).run Tryz.prog w=.ok (.tuple #[.agg #[.int .i64 k],.bool true]) w:=by kernel_rfl
theorem Q5 (w:World):(Instr.typeAssert .nilIface 20 162 true).run Tryz.prog w=.ok (.tuple #[.agg #[.int .i64 0],.bool false]) w:=by kernel_rfl
set_option maxRecDepth 10000
set_option maxHeartbeats 8000000
theorem JR (b6 b7:Nat) (k:Int) (u:Pf) (n:Int) (w:World) (hne:b6≠b7) (h6:aO w b6 u) (h7:w.heap[b7]?=some (.cells #[.int .i64 n] 41 (0,0))) :
  CallsD Tryz.prog 97 #[.pointer (some ⟨b6,0,none⟩),.pointer (some ⟨b7,0,none⟩)] (.panicking ({ v:=.iface 162 (.agg #[.int .i64 k]),recovered:=false } :: [])) w fun e u' w'=>
   e=.returned (.tuple #[])∧u'=.panicking ({ v:=.iface 162 (.agg #[.int .i64 k]),recovered:=true } :: [])∧w'=(((cP w b6 Pf.zero).setCell ⟨b7,0,none⟩ (.int .i64 k)).alloc (.cells #[.int .i64 k] 162)).drew:=by
 refine callsD_of_wpS Tryz.func97 rfl fun VN cs hu => ?_
 apply wpS_seq
 apply wpS_region
 have Uj:=VM k;simp[wpOpsS,go_sem,recoverD,hu,Tryz.ntmps97,Exit.thenS,Uj,Array.replicate];refine wpS_of_wp ?_;have z0:=h6.c0;have z1:=h6.c1;have z2:=h6.c2;have z3:=h6.c3;have gC:=h6.free 0;have gD:=h6.free 1;have gF:=h6.free 2;have gH:=h6.free 3;have y0:=ag h7 0;have yf:=ai h7 0;simp only[aiN,aiO] at y0;have Di:b7≠b6:=fun e=>hne e.symm
 have l6:=h6.lt;have l7:=ae h7;go_wp2
 go_region
 refine⟨rfl,_,rfl,.tuple #[],?_,rfl,rfl,rfl⟩;simp[results,Tryz.f97]
theorem Nd (b6 b7:Nat) (w:World) :
  CallsD Tryz.prog 97 #[.pointer (some ⟨b6,0,none⟩),.pointer (some ⟨b7,0,none⟩)] .returning w fun e u' w'=>
   e=.returned (.tuple #[])∧u'=.returning∧w'=w.alloc (.cells #[.int .i64 0] 162):=by
 refine callsD_of_wpS Tryz.func97 rfl fun VN cs hu => ?_
 apply wpS_seq
 apply wpS_region
 have Uj:=Q5;simp[wpOpsS,go_sem,recoverD,hu,Tryz.ntmps97,Exit.thenS,Uj,Array.replicate];refine wpS_of_wp ?_;go_wp2;refine⟨rfl,.returning,?_,.tuple #[],?_,rfl,rfl,rfl⟩
 ·cases VN;simp_all
 ·simp[results,Tryz.f97]
def VO (w w':World) (p:Pd) (v:Value):Except Int (Pf.Pure×Nat)→Prop
 | .ok (Q,n)=>∃u,v=.tuple #[bM u,.int .i64 0]∧bW w' u∧u.pure=Q∧u.size=n∧n≤4096∧∀c,c<w.heap.size→aC c p.ty=true→aJ c u
 | .error k=>v=.tuple #[bM Pf.zero,.int .i64 k]
theorem Nf (x:di) (G:Option Addr) (gc:Nat) (given:List Pd) (hE:tC x given) (m:Nat) (p:Pd) (w:World) (he:dJ w x) (hg:bg w G given) (hp:dH w p) (gU:ax p.ty=true) (hsz:p.ty.size≤m) :
  Calls Tryz.prog 60 #[eu x,.slice G given.length gc,fN p] w fun e w'=>(∃v,e=.returned v∧VO w w' p v (cz x.af x.insts given m p.cls p.ty.pure))∧Ext w w':=by
 have hmf:∀(fn:Fn) (first cap:Array Value) (w:World),(Instr.makeFunc fn first cap).run Tryz.prog w=.ok (.func fn first cap) w:=fun _ _ _ _=>rfl
 obtain⟨W,hW⟩:∃W,W=(((w.alloc (.cells #[.slice x.D x.aA.length x.dc,.slice x.C x.af.length x.cc,.slice x.I x.insts.length x.ic] 26)).alloc (.cells #[encStr p.cls,encStr p.ty.aq,.int .i64 p.ty.var,.slice p.ty.A p.ty.args.length p.ty.cap] 55)).alloc (.cells #[.int .i64 0,.int .i64 0,.slice none 0 0,.slice none 0 0] 34)).alloc (.cells #[.int .i64 0] 41):=⟨_,rfl⟩;have HW:=aa hW.symm;have X0:aiE (Ext w W):=aa (by rw[hW];exact((((eR _).alloc _).alloc _).alloc _).alloc _);have B1:aiE (aI W w.heap.size x):=aa (by rw[hW];exact(aI.new w x).ext ((((eR _).alloc _).alloc _).alloc _));have B2:aiE (aR W (w.heap.size+1) p):=aa (by rw[hW];exact aR.ext (ah _ _ _ (by simp)) (((eR _).alloc _).alloc _));have B3:aiE (aO W (w.heap.size+1+1) Pf.zero):=aa (by rw[hW];exact aO.ext (ah _ _ _ (by simp)) ((eR _).alloc _));have B4:aiE (W.heap[w.heap.size+1+1+1]?=some (.cells #[.int .i64 0] 41 (0,0))):=aa (by rw[hW];exact ah _ _ _ (by simp));have bR:aiE (W.heap.size=w.heap.size+4):=aa (by rw[hW];simp);have HS:=aa (vd x G gc given hE m p W (he.ext X0.o) (hg.ext X0.o) (hp.ext X0.o) gU hsz);have JO:=aa hp.ty;clear hW he hg hp gU hsz hE;generalize cz x.af x.insts given m p.cls p.ty.pure=R at *;obtain⟨c0,c1,c2,c3⟩:=B2.o.cells;obtain⟨e0,e1,e2⟩:=B1.o.cells;have n1:=B1.o.lt;have n2:=B2.o.lt;unfold eu fN at *
 go_enter_defers Tryz.func60,Tryz.ntmps60
 go_upto_region 2 with fail;rw[HW.o];clear HW;go_wp2_with fail;refine HS.o.mono ?_;rintro e w2 ⟨hout,hx⟩;have X2:=aa hx;have C3:=aa (B3.o.ext X2.o);have C4:=aa ((X2.o.heap (ae B4.o)).trans B4.o);clear hx HS c0 c1 c2 c3 e0 e1 e2 n1 n2 B1 B2;cases R with
 |error k=>
  have hout:e=.panicked [{ v:=.iface 162 (.agg #[.int .i64 k]),recovered:=false }]:=hout;subst hout;go_wp2;refine leaves_cons (f:=97) (args:=#[.pointer (some ⟨w.heap.size+1+1,0,none⟩),.pointer (some ⟨w.heap.size+1+1+1,0,none⟩)]) (by simp) (by simp[go_sem]) ?_;refine(JR (w.heap.size+1+1) (w.heap.size+1+1+1) k Pf.zero 0 _ (by omega) C3.o C4.o).mono ?_;rintro e u' w'' ⟨rfl,rfl,hw⟩;have D3:aiE (aO w'' (w.heap.size+1+1) Pf.zero):=aa (by
   have h1:=ij C3.o Pf.zero;have h2:aO ((cP w2 (w.heap.size+1+1) Pf.zero).setCell ⟨w.heap.size+1+1+1,0,none⟩ (.int .i64 k)) (w.heap.size+1+1) Pf.zero:=(Below.heap_setCell _ _ _ _ (by show w.heap.size+1+1≠w.heap.size+1+1+1;omega)).trans h1;rw[hw];exact h2.ext ((eR _).alloc _).drew)
  have D4:aiE (w''.heap[w.heap.size+1+1+1]?=some (.cells #[.int .i64 k] 41 (0,0))):=aa (by
   have h1:(cP w2 (w.heap.size+1+1) Pf.zero).heap[w.heap.size+1+1+1]?=_:=(kL Pf.zero (by omega)).trans C4.o;have h2:=aw h1 0 (.int .i64 k);have h3:((cP w2 (w.heap.size+1+1) Pf.zero).setCell ⟨w.heap.size+1+1+1,0,none⟩ (.int .i64 k)).heap[w.heap.size+1+1+1]?=some (.cells #[.int .i64 k] 41 (0,0)):=h2.trans (by simp);rw[hw];exact(((eR _).alloc _).drew.heap (ae h3)).trans h3)
  have XF:aiE (Ext w w''):=aa (by
   rw[hw];exact(((aW (X0.o.trans X2.o) (by omega:w.heap.size≤w.heap.size+1+1) Pf.zero).setCell (by show w.heap.size≤w.heap.size+1+1+1;omega) _).alloc _).drew)
  obtain⟨z0,z1,z2,z3⟩:=D3.o.cells;have y0:=ag D4.o 0;simp only[aiN,aiO] at y0;clear hw;simp only[settle];refine⟨.tuple #[bM Pf.zero,.int .i64 k],?_,⟨⟨_,rfl,rfl⟩,XF.o⟩⟩;simp[results,Tryz.f60,go_sem,z0,z1,z2,z3,y0,bM]
 |ok r=>
  obtain⟨Q,n⟩:=r;obtain⟨u,rfl,gI,gM,j9,Ae,sy⟩:=hout;have Dy:=aa (sy (w.heap.size+1+1) (by have:=bR.o;omega) (aP JO.o (by omega)));have HA7:=aa (sy (w.heap.size+1+1+1) (by have:=bR.o;omega) (aP JO.o (by omega)));have HY:=aa gI;have H2:=aa gM;have H3:=aa j9;have H5:aiE (∀c,c<w.heap.size→aC c p.ty=true→aJ c u):=aa (fun c hc ha=>sy c (by have:=bR.o;omega) ha);clear gI gM j9 sy JO;obtain⟨z0,z1,z2,z3⟩:=C3.o.cells;have gC:=C3.o.free 0;have gD:=C3.o.free 1;have gF:=C3.o.free 2;have gH:=C3.o.free 3;have y0:=ag C4.o 0;have yf:=ai C4.o 0;simp only[aiN,aiO] at y0;have l6:=C3.o.lt;have l7:=ae C4.o;unfold bM;go_upto_region 3 with fail;refine bJ ?_;intro W3 hW3;have hS:W3=cP w2 (w.heap.size+1+1) u:=hW3;have K3:aiE (aO W3 (w.heap.size+1+1) u):=aa (by rw[hS];exact ij C3.o u);have K4:aiE (W3.heap[w.heap.size+1+1+1]?=some (.cells #[.int .i64 0] 41 (0,0))):=aa (by rw[hS];exact(kL u (by omega)).trans C4.o);have X3:aiE (Ext w W3):=aa (by rw[hS];exact aW (X0.o.trans X2.o) (by omega) u);have HY3:aiE (bW W3 u):=aa (by rw[hS];exact HY.o.grown (dy _ _ _) (fun c e=>by injection e with e;subst e;exact Dy.o));clear hW3 hS z0 z1 z2 z3 gC gD gF gH y0 yf l6 l7 HY C3 C4 X2;obtain⟨z0,z1,z2,z3⟩:=K3.o.cells;have gC:=K3.o.free 0;have gD:=K3.o.free 1;have gF:=K3.o.free 2;have gH:=K3.o.free 3;have y0:=ag K4.o 0;have yf:=ai K4.o 0;simp only[aiN,aiO] at y0;have l6:=K3.o.lt;have l7:=ae K4.o;go_wp2;refine leaves_cons (f:=97) (args:=#[.pointer (some ⟨w.heap.size+1+1,0,none⟩),.pointer (some ⟨w.heap.size+1+1+1,0,none⟩)]) (by simp) (by simp[go_sem]) ?_;refine(Nd (w.heap.size+1+1) (w.heap.size+1+1+1) _).mono ?_;rintro e u' w'' ⟨rfl,rfl,hw⟩;have D3:aiE (aO w'' (w.heap.size+1+1) u):=aa (by
   have h1:=ij K3.o u;have h2:aO ((cP W3 (w.heap.size+1+1) u).setCell ⟨w.heap.size+1+1+1,0,none⟩ (.int .i64 0)) (w.heap.size+1+1) u:=(Below.heap_setCell _ _ _ _ (by show w.heap.size+1+1≠w.heap.size+1+1+1;omega)).trans h1;rw[hw];exact h2.ext ((eR _).alloc _))
  have D4:aiE (w''.heap[w.heap.size+1+1+1]?=some (.cells #[.int .i64 0] 41 (0,0))):=aa (by
   have h1:(cP W3 (w.heap.size+1+1) u).heap[w.heap.size+1+1+1]?=_:=(kL u (by omega)).trans K4.o;have h2:=aw h1 0 (.int .i64 0);have h3:((cP W3 (w.heap.size+1+1) u).setCell ⟨w.heap.size+1+1+1,0,none⟩ (.int .i64 0)).heap[w.heap.size+1+1+1]?=some (.cells #[.int .i64 0] 41 (0,0)):=h2.trans (by simp);rw[hw];exact(((eR _).alloc _).heap (ae h3)).trans h3)
  have XF:aiE (Ext w w''):=aa (by
   rw[hw];exact(((aW X3.o (by omega:w.heap.size≤w.heap.size+1+1) u).setCell (by show w.heap.size≤w.heap.size+1+1+1;omega) _).alloc _))
  have HYf:aiE (bW w'' u):=aa (by
   rw[hw];exact((HY3.o.grown (dy _ _ _) (fun c e=>by injection e with e;subst e;exact Dy.o)).grown (aL _ _ _ _) (fun c e=>by injection e with e;subst e;exact HA7.o)).ext ((eR _).alloc _))
  clear z0 z1 z2 z3 y0;obtain⟨z0,z1,z2,z3⟩:=D3.o.cells;have y0:=ag D4.o 0;simp only[aiN,aiO] at y0;clear hw;simp only[Leaves,settle];refine⟨.tuple #[bM u,.int .i64 0],?_,⟨⟨_,rfl,u,rfl,HYf.o,H2.o,H3.o,Ae,H5.o⟩,XF.o⟩⟩;simp[results,Tryz.f60,go_sem,z0,z1,z2,z3,y0,bM]
theorem oN : ∀args w,(callFunc 57 args).run Tryz.prog w=.ok (.enter 57 args) w:=enters_of Tryz.func57 (by kernel_rfl) rfl
theorem pN : ∀args w,(callFunc 95 args).run Tryz.prog w=.ok (.enter 95 args) w:=enters_of Tryz.func95 (by kernel_rfl) rfl
theorem E0 (x:cL) (w:World) (h:pG w x):Calls Tryz.prog 95 #[xq x] w fun e w'=>e=.returned (.bool (!bE x))∧Ext w w':=by
 have X0:aiE (Ext w (w.alloc (.cells #[encStr x.cls,encStr x.aq,.int .i64 x.n,.slice x.A x.preds.length x.cap] 70))):=aa ((eR w).alloc _);have HB:=aa (eV.new w x);obtain⟨c0,c1,c2,c3⟩:=HB.o.cells;have hbl:=HB.o.lt;have HL:=aa (fun w' (e:Ext w w')=>aa (BD x w' (h.ext e)));clear h;unfold xq at *;generalize bE x=R at *;go_enter Tryz.func95,Tryz.ntmps95;go_wp2_with fail;refine(HL.o _ X0.o).o.mono ?_;rintro e w3 ⟨rfl,hx⟩;have X3:=aa hx;clear hx;cases R
 ·go_wp2;go_ret;exact⟨rfl,X0.o.trans X3.o⟩
 ·go_wp2;go_ret;exact⟨rfl,X0.o.trans X3.o⟩
theorem JS (A:Option Addr) (cap:Nat) (l:List Pd) (w:World) (h:bg w A l) (hl:l.length≤1000000) :
  Calls Tryz.prog 92 #[.slice A l.length cap,.func (.func 57) #[] #[]] w fun e w'=>(∃i:Int,e=.returned (.int .i64 i)∧(0≤i↔l.all dI=false))∧Ext w w':=by
 have HL:=aa h;have eg:=oN;clear h;obtain⟨R,hR⟩:∃R,R=l.all dI:=⟨_,rfl⟩;have HR:=aa hR;rw[←hR];clear hR;go_enter Tryz.func92,Tryz.ntmps92;go_wp2
 go_loopw [8] (fun i wr=>∃k:Nat,k≤l.length∧i=.int .i64 k∧aiE ((l.take k).all dI=true)∧aiE (Ext w wr)) (fun i _=>l.length - (intOf i).toNat)
 case atStart=>exact⟨0,aiH _,rfl,aa (by simp),aa (eR _)⟩
 case round=>
  obtain⟨k,hk,rfl,HA,HX⟩:=hrel
  by_cases hlt:k<l.length
  ·have aN:(k:Int)<(l.length:Int):=by omega
   have cV:(0:Int)≤(k:Int):=by omega
   obtain⟨b,o,rfl,hb,q0,q1,q2,q3⟩:=(HL.o.ext HX.o).at_ hlt;have hm:=aiF hlt;have HC:=aa (fun w' (e:Ext wr w')=>aa (rP (l[k]'hlt) w' ((HL.o.all _ hm).ext (HX.o.trans e))));have dh:aiE (l.take (k+1)=l.take k++[l[k]'hlt]):=aa (aiJ hlt);have Hm:=aa hm;clear hm;unfold fN at HC;generalize l[k]'hlt=x at *;cases hb:dI x
   ·rw[hb] at HC;have HN:aiE (R=false):=aa (by rw[HR.o,←Bool.not_eq_true,aiY];intro h;have:=h x Hm.o;rw[hb] at this;cases this);clear hb;go_wp2_with fail;refine(HC.o _ (eR _)).o.mono ?_;rintro e w3 ⟨rfl,hx⟩;go_wp2;go_ret;exact⟨⟨(k:Int),rfl,by rw[HN.o];simp⟩,HX.o.trans hx⟩
   ·rw[hb] at HC;have Hb:=aa hb;clear hb;go_wp2_with fail;refine(HC.o _ (eR _)).o.mono ?_;rintro e w3 ⟨rfl,hx⟩;have X3:=aa (HX.o.trans hx);clear hx;go_wp2;go_roundw
    case rel=>exact⟨k+1,hlt,by go_num,aa (by rw[dh.o,List.all_append,HA.o];simpa using Hb.o),X3⟩
    case measure=>simp[intOf];omega
  ·have bS:¬(k:Int)<(l.length:Int):=by omega
   have HN:aiE (R=true):=aa (by rw[HR.o];have:=HA.o;rwa [aiK (by omega)] at this);go_wp2;go_ret;exact⟨⟨-1,rfl,by rw[HN.o];simp⟩,HX.o⟩
theorem Q6 (A:Option Addr) (cap:Nat) (l:List Pd) (w:World) (h:bg w A l) (hl:l.length≤1000000) :
  Calls Tryz.prog 58 #[.slice A l.length cap,.func (.func 57) #[] #[]] w fun e w'=>e=.returned (.bool (!l.all dI))∧Ext w w':=by
 have HI:=aa (JS A cap l w h hl);clear h;generalize l.all dI=R at *;go_enter Tryz.func58,Tryz.ntmps58;go_wp2_with fail;refine HI.o.mono ?_;rintro e w2 ⟨⟨i,rfl,hi⟩,hx⟩;have HR:aiE (decide ((0:Int)≤i) = !R):=aa (by cases R<;>simp_all);have X:=aa hx;clear hi hx;go_wp2;go_ret;exact⟨by rw[←HR.o];rfl,X.o⟩
theorem JT (A:Option Addr) (cap:Nat) (l:List cL) (w:World) (h:iJ w A l) (hl:l.length≤1000000) :
  Calls Tryz.prog 141 #[.slice A l.length cap,.func (.func 95) #[] #[]] w fun e w'=>(∃i:Int,e=.returned (.int .i64 i)∧(0≤i↔l.all bE=false))∧Ext w w':=by
 have HL:=aa h;have eg:=pN;clear h;obtain⟨R,hR⟩:∃R,R=l.all bE:=⟨_,rfl⟩;have HR:=aa hR;rw[←hR];clear hR;go_enter Tryz.func141,Tryz.ntmps141;go_wp2
 go_loopw [8] (fun i wr=>∃k:Nat,k≤l.length∧i=.int .i64 k∧aiE ((l.take k).all bE=true)∧aiE (Ext w wr)) (fun i _=>l.length - (intOf i).toNat)
 case atStart=>exact⟨0,aiH _,rfl,aa (by simp),aa (eR _)⟩
 case round=>
  obtain⟨k,hk,rfl,HA,HX⟩:=hrel
  by_cases hlt:k<l.length
  ·have aN:(k:Int)<(l.length:Int):=by omega
   have cV:(0:Int)≤(k:Int):=by omega
   obtain⟨b,o,rfl,hb,q0,q1,q2,q3⟩:=(HL.o.ext HX.o).at_ hlt;have hm:=aiF hlt;have HC:=aa (fun w' (e:Ext wr w')=>aa (E0 (l[k]'hlt) w' ((HL.o.all _ hm).ext (HX.o.trans e))));have dh:aiE (l.take (k+1)=l.take k++[l[k]'hlt]):=aa (aiJ hlt);have Hm:=aa hm;clear hm;unfold xq at HC;generalize l[k]'hlt=x at *;cases hb:bE x
   ·rw[hb] at HC;have HN:aiE (R=false):=aa (by rw[HR.o,←Bool.not_eq_true,aiY];intro h;have:=h x Hm.o;rw[hb] at this;cases this);clear hb;go_wp2_with fail;refine(HC.o _ (eR _)).o.mono ?_;rintro e w3 ⟨rfl,hx⟩;go_wp2;go_ret;exact⟨⟨(k:Int),rfl,by rw[HN.o];simp⟩,HX.o.trans hx⟩
   ·rw[hb] at HC;have Hb:=aa hb;clear hb;go_wp2_with fail;refine(HC.o _ (eR _)).o.mono ?_;rintro e w3 ⟨rfl,hx⟩;have X3:=aa (HX.o.trans hx);clear hx;go_wp2;go_roundw
    case rel=>exact⟨k+1,hlt,by go_num,aa (by rw[dh.o,List.all_append,HA.o];simpa using Hb.o),X3⟩
    case measure=>simp[intOf];omega
  ·have bS:¬(k:Int)<(l.length:Int):=by omega
   have HN:aiE (R=true):=aa (by rw[HR.o];have:=HA.o;rwa [aiK (by omega)] at this);go_wp2;go_ret;exact⟨⟨-1,rfl,by rw[HN.o];simp⟩,HX.o⟩
theorem Q7 (A:Option Addr) (cap:Nat) (l:List cL) (w:World) (h:iJ w A l) (hl:l.length≤1000000) :
  Calls Tryz.prog 94 #[.slice A l.length cap,.func (.func 95) #[] #[]] w fun e w'=>e=.returned (.bool (!l.all bE))∧Ext w w':=by
 have HI:=aa (JT A cap l w h hl);clear h;generalize l.all bE=R at *;go_enter Tryz.func94,Tryz.ntmps94;go_wp2_with fail;refine HI.o.mono ?_;rintro e w2 ⟨⟨i,rfl,hi⟩,hx⟩;have HR:aiE (decide ((0:Int)≤i) = !R):=aa (by cases R<;>simp_all);have X:=aa hx;clear hi hx;go_wp2;go_ret;exact⟨by rw[←HR.o];rfl,X.o⟩
structure nV (x:di) (given:List Pd):Prop where
 gl:given.length≤1000000
 l9:x.af.length≤9
 s9:∀c∈x.af,c.cQ.length≤9
 il:x.insts.length≤1000000
 pl:∀y∈x.insts,y.preds.length≤40000
theorem JU (x:di) (given:List Pd) (hE:nV x given) (w:World) (he:dJ w x):Calls Tryz.prog 59 #[eu x] w fun e w'=>e=.returned (.bool (eo x.af x.insts))∧Ext w w':=by
 obtain⟨W,hW⟩:∃W,W=w.alloc (.cells #[.slice x.D x.aA.length x.dc,.slice x.C x.af.length x.cc,.slice x.I x.insts.length x.ic] 26):=⟨_,rfl⟩;have HW:=aa hW.symm;have X0:aiE (Ext w W):=aa (by rw[hW];exact(eR _).alloc _);have B1:aiE (aI W w.heap.size x):=aa (by rw[hW];exact aI.new w x);have HC:=aa (uW x.C x.cc (x.af.map dx) W (jR (he.af.ext X0.o)) (by simpa using hE.l9) (fun c hc=>by
  obtain⟨k,hk,rfl⟩:=List.mem_map.1 hc;exact hE.s9 k hk))
 have HI:=aa (fun w' (e:Ext W w')=>aa (Q7 x.I x.ic x.insts w' (he.insts.ext (X0.o.trans e)) hE.il));rw[List.length_map] at HC;have HO:aiE (eo x.af x.insts=(((dg (x.af.map dx)).2 == 0)&&x.insts.all bE)):=aa rfl;clear hW he;generalize eo x.af x.insts=R at *;generalize x.insts.all bE=RI at *;generalize dg (x.af.map dx)=ck at *;obtain⟨i,k⟩:=ck;have HO:aiE (R=((k == 0)&&RI)):=aa HO.o;obtain⟨e0,e1,e2⟩:=B1.o.cells;have n1:=B1.o.lt;unfold eu;go_enter Tryz.func59,Tryz.ntmps59;go_upto_region 1 with fail;rw[HW.o];clear HW;go_wp2_with fail;refine HC.o.mono ?_;rintro e w2 ⟨rfl,hx⟩;have X2:=aa hx;clear hx HC e0 e1 e2 n1;obtain⟨e0,e1,e2⟩:=(B1.o.ext X2.o).cells;have n1:=(B1.o.ext X2.o).lt;cases hk:(k == 0)
 ·have hR:R=false:=by rw[HO.o,hk];rfl
  subst hR;go_wp2;go_ret;exact⟨rfl,X0.o.trans X2.o⟩
 ·have hR:R=RI:=by rw[HO.o,hk];rfl
  subst hR;clear HO;go_wp2_with fail;refine(HI.o _ X2.o).o.mono ?_;rintro e w3 ⟨rfl,hx⟩;have X3:=aa (X2.o.trans hx);clear hx HI;cases R
  ·go_wp2;go_ret;exact⟨rfl,X0.o.trans X3.o⟩
  ·go_wp2;go_ret;exact⟨rfl,X0.o.trans X3.o⟩
set_option maxRecDepth 512
set_option maxHeartbeats 200000
theorem Cx {f:aj→Ty.Pure→Except Int (Pf.Pure×Nat)}(hf:∀c t k,f c t=.error k→k≠0):∀(l:List (aj×Ty.Pure)) (us:List Pf.Pure) (n:Nat) (k:Int),bL f l us n=.error k→k≠0
 | [],us,n,k,h=>by cases h
 |(c,t) :: r,us,n,k,h=>by
  cases hr:f c t with
  |error e=>
   rw[nS hr] at h;injection h with h;subst h;exact hf c t _ hr
  |ok q=>
   obtain⟨q,m⟩:=q;rw[lq hr] at h
   split at h
   ·injection h with h;subst h;decide
   ·exact Cx hf r _ _ k h
theorem Cy (cs:List dY) (ins:List cL) (given:List Pd):∀(m:Nat) (c:aj) (t:Ty.Pure) (k:Int),cz cs ins given m c t=.error k→k≠0
 |0,c,t,k,h=>by
  have h:Except.error 16=Except.error k:=h;injection h with h;subst h;decide
 |m+1,c,t,k,h=>by
  unfold cz at h
  split at h
  ·cases h
  ·split at h
   ·injection h with h;subst h;decide
   ·split at h
    ·rename_i e he
     injection h with h;subst h;exact Cx (Cy cs ins given m) _ _ _ _ he
    ·cases h
def ve : Except Int (Pf.Pure×Nat)→Except Int Pf.Pure
 | .error e=>.error e
 | .ok (q,_)=>.ok q
def yM (w w':World) (p:Pd) (v:Value):Except Int Pf.Pure→Prop
 | .ok Q=>∃u,v=.tuple #[bM u,.int .i64 0]∧bW w' u∧u.pure=Q∧u.size≤4096∧∀c,c<w.heap.size→aC c p.ty=true→aJ c u
 | .error k=>v=.tuple #[bM Pf.zero,.int .i64 k]∧k≠0
set_option maxRecDepth 10000
set_option maxHeartbeats 8000000
theorem VP (x:di) (G:Option Addr) (gc:Nat) (given:List Pd) (hE:nV x given) (p:Pd) (w:World) (he:dJ w x) (hg:bg w G given) (hp:dH w p) :
  Calls Tryz.prog 35 #[eu x,.slice G given.length gc,fN p] w fun e w'=>(∃v,e=.returned v∧yM w w' p v (mS x.af x.insts given p))∧Ext w w':=by
 obtain⟨W,hW⟩:∃W,W=((w.alloc (.cells #[.slice x.D x.aA.length x.dc,.slice x.C x.af.length x.cc,.slice x.I x.insts.length x.ic] 26)).alloc (.cells #[encStr p.cls,encStr p.ty.aq,.int .i64 p.ty.var,.slice p.ty.A p.ty.args.length p.ty.cap] 55)).alloc (.cells #[.int .i64 0,.int .i64 0,.slice none 0 0,.slice none 0 0] 34):=⟨_,rfl⟩;have HW:=aa hW.symm;have X0:aiE (Ext w W):=aa (by rw[hW];exact(((eR _).alloc _).alloc _).alloc _);have B1:aiE (aI W w.heap.size x):=aa (by rw[hW];exact(aI.new w x).ext (((eR _).alloc _).alloc _));have B2:aiE (aR W (w.heap.size+1) p):=aa (by rw[hW];exact aR.ext (ah _ _ _ (by simp)) ((eR _).alloc _));have B3:aiE (aO W (w.heap.size+1+1) Pf.zero):=aa (by rw[hW];exact ah _ _ _ (by simp));have bR:aiE (W.heap.size=w.heap.size+3):=aa (by rw[hW];simp);have VQ:=aa (rP p W (hp.ext X0.o));have MX:=aa (fun w' (e:Ext W w')=>aa (Q6 G gc given w' (hg.ext (X0.o.trans e)) hE.gl));have OH:=aa (fun w' (e:Ext W w')=>aa (JU x given hE w' (he.ext (X0.o.trans e))));have Iw:=aa (fun(h:tC x given) (hl:ax p.ty=true) (hs:p.ty.size≤5000) w' (e:Ext W w')=>aa (Nf x G gc given h 5000 p w' (he.ext (X0.o.trans e)) (hg.ext (X0.o.trans e)) (hp.ext (X0.o.trans e)) hl hs));have VR:aiE (eo x.af x.insts=true→tC x given):=aa (fun h=>⟨hE.gl,hE.l9,hE.s9,by
  unfold eo at h;rw[aiT,aiY] at h;exact h.2,hE.il,hE.pl⟩)
 have BK:aiE (dI p=true→ax p.ty=true∧p.ty.size≤5000):=aa (fun h=>by
  unfold dI at h;rw[aiT] at h;exact⟨h.2,by have:=(aS h.2).1;omega⟩)
 have Xl:=aa (Cy x.af x.insts given 5000 p.cls p.ty.pure);have HR:aiE (mS x.af x.insts given p=if (dI p&&given.all dI&&eo x.af x.insts)=false then .error 1
  else ve (cz x.af x.insts given 5000 p.cls p.ty.pure)):=aa rfl
 have JO:=aa hp.ty;clear hW he hg hp hE;generalize mS x.af x.insts given p=R at *;generalize dI p=r1 at *;generalize given.all dI=r2 at *;generalize eo x.af x.insts=r3 at *;generalize cz x.af x.insts given 5000 p.cls p.ty.pure=S at *;obtain⟨c0,c1,c2,c3⟩:=B2.o.cells;have n2:=B2.o.lt;unfold eu fN at *;have hend:∀w3:World,Ext W w3→(r1&&r2&&r3)=false→R=.error 1:=fun _ _ h=>by rw[HR.o,if_pos h]
 have wO:=aa hend;clear hend;go_enter Tryz.func35,Tryz.ntmps35;go_upto_region 1 with fail;rw[HW.o];clear HW;go_wp2_with fail;refine VQ.o.mono ?_;rintro e w2 ⟨rfl,hx⟩;have X2:=aa hx;clear hx VQ c0 c1 c2 c3 n2;cases r1
 ·have hR:=wO.o w2 X2.o rfl;subst hR;have Z:=aa (B3.o.ext X2.o);obtain⟨z0,z1,z2,z3⟩:=Z.o.cells;have gC:=Z.o.free 0;have gD:=Z.o.free 1;have gF:=Z.o.free 2;have gH:=Z.o.free 3;have hz:=Z.o.lt;have XF:=aa (aW (X0.o.trans X2.o) (by omega:w.heap.size≤w.heap.size+1+1) Pf.zero);go_wp2;refine bodyPost_ret (v:=.tuple #[bM Pf.zero,.int .i64 1]) ?_ rfl ⟨⟨_,rfl,rfl,by decide⟩,XF.o⟩;simp[results,Tryz.f35,go_sem,z0,z1,z2,z3,bM];exact⟨rfl,rfl,⟨rfl,rfl,rfl⟩,rfl,rfl,rfl⟩
 ·go_wp2_with fail;refine(MX.o _ X2.o).o.mono ?_;rintro e w3 ⟨rfl,hx⟩;have X3:=aa (X2.o.trans hx);clear hx MX X2;cases r2
  ·have hR:=wO.o w3 X3.o rfl;subst hR;have Z:=aa (B3.o.ext X3.o);obtain⟨z0,z1,z2,z3⟩:=Z.o.cells;have gC:=Z.o.free 0;have gD:=Z.o.free 1;have gF:=Z.o.free 2;have gH:=Z.o.free 3;have hz:=Z.o.lt;have XF:=aa (aW (X0.o.trans X3.o) (by omega:w.heap.size≤w.heap.size+1+1) Pf.zero);go_wp2;refine bodyPost_ret (v:=.tuple #[bM Pf.zero,.int .i64 1]) ?_ rfl ⟨⟨_,rfl,rfl,by decide⟩,XF.o⟩;simp[results,Tryz.f35,go_sem,z0,z1,z2,z3,bM];exact⟨rfl,rfl,⟨rfl,rfl,rfl⟩,rfl,rfl,rfl⟩
  ·obtain⟨e0,e1,e2⟩:=(B1.o.ext X3.o).cells;have n1:=(B1.o.ext X3.o).lt;go_wp2_with fail;refine(OH.o _ X3.o).o.mono ?_;rintro e w4 ⟨rfl,hx⟩;have X4:=aa (X3.o.trans hx);clear hx OH X3 e0 e1 e2 n1;cases r3
   ·have hR:=wO.o w4 X4.o rfl;subst hR;have Z:=aa (B3.o.ext X4.o);obtain⟨z0,z1,z2,z3⟩:=Z.o.cells;have gC:=Z.o.free 0;have gD:=Z.o.free 1;have gF:=Z.o.free 2;have gH:=Z.o.free 3;have hz:=Z.o.lt;have XF:=aa (aW (X0.o.trans X4.o) (by omega:w.heap.size≤w.heap.size+1+1) Pf.zero);go_wp2;refine bodyPost_ret (v:=.tuple #[bM Pf.zero,.int .i64 1]) ?_ rfl ⟨⟨_,rfl,rfl,by decide⟩,XF.o⟩;simp[results,Tryz.f35,go_sem,z0,z1,z2,z3,bM];exact⟨rfl,rfl,⟨rfl,rfl,rfl⟩,rfl,rfl,rfl⟩
   ·obtain⟨hl,hs⟩:=BK.o (by simp);have HF:=aa (Iw.o (VR.o (by simp)) hl hs);have dU:aiE (R=ve S):=aa (by rw[HR.o,if_neg (by decide)]);clear Iw VR BK HR wO;obtain⟨e0,e1,e2⟩:=(B1.o.ext X4.o).cells;obtain⟨c0,c1,c2,c3⟩:=(B2.o.ext X4.o).cells;have n1:=(B1.o.ext X4.o).lt;have n2:=(B2.o.ext X4.o).lt;go_wp2_with fail;refine(HF.o _ X4.o).o.mono ?_;rintro e w5 ⟨⟨v,rfl,hout⟩,hx⟩;have X5:=aa (X4.o.trans hx);have Oe:=X4.o.size;clear hx HF e0 e1 e2 n1 c0 c1 c2 c3 n2;cases S with
    |error k=>
     have hv:v=.tuple #[bM Pf.zero,.int .i64 k]:=hout;have hR:R=.error k:=dU.o;have hk:=Xl.o k rfl;clear hout dU;subst hv hR;have Z:=aa (B3.o.ext X5.o);obtain⟨z0,z1,z2,z3⟩:=Z.o.cells;have gC:=Z.o.free 0;have gD:=Z.o.free 1;have gF:=Z.o.free 2;have gH:=Z.o.free 3;have hz:=Z.o.lt;have XF:=aa (aW (X0.o.trans X5.o) (by omega:w.heap.size≤w.heap.size+1+1) Pf.zero);unfold bM;go_wp2;refine bodyPost_ret (v:=.tuple #[bM Pf.zero,.int .i64 k]) ?_ rfl ⟨⟨_,rfl,rfl,hk⟩,XF.o⟩;simp[results,Tryz.f35,go_sem,z0,z1,z2,z3,bM]
    |ok r=>
     obtain⟨Q,n⟩:=r;obtain⟨u,hv,gI,gM,j9,Ae,sy⟩:=hout;have hR:R=.ok Q:=dU.o;clear dU;subst hv hR;have Z:=aa (B3.o.ext X5.o);obtain⟨z0,z1,z2,z3⟩:=Z.o.cells;have gC:=Z.o.free 0;have gD:=Z.o.free 1;have gF:=Z.o.free 2;have gH:=Z.o.free 3;have hz:=Z.o.lt;have XF:=aa (aW (X0.o.trans X5.o) (by omega:w.heap.size≤w.heap.size+1+1) u);have Dy:=sy (w.heap.size+1+1) (by have:=bR.o;omega) (aP JO.o (by omega));have HY:=aa (gI.grown (dy w5 (w.heap.size+1+1) u) (fun c e=>by injection e with e;subst e;exact Dy));have H5:aiE (∀c,c<w.heap.size→aC c p.ty=true→aJ c u):=aa (fun c hc ha=>sy c (by have:=bR.o;omega) ha);have H2:=aa gM;have H3:=aa (j9▸Ae);clear gI gM j9 sy Dy;unfold bM;go_wp2;refine bodyPost_ret (v:=.tuple #[bM u,.int .i64 0]) ?_ rfl ⟨⟨_,rfl,u,rfl,HY.o,H2.o,H3.o,H5.o⟩,XF.o⟩;simp[results,Tryz.f35,go_sem,z0,z1,z2,z3,bM]
theorem jG {y:World}{B b i:Nat}(h:b≠B) (v0 v1 v2 v3 v4 v5:Value){u:Value}(k:y.cell? ⟨b,i,none⟩=some u):((((((y.setCell ⟨B,0,none⟩ v0).setCell ⟨B,1,none⟩ v1).setCell ⟨B,2,none⟩ v2).setCell ⟨B,3,none⟩ v3).setCell ⟨B,4,none⟩ v4).setCell ⟨B,5,none⟩ v5).drew.cell? ⟨b,i,none⟩=some u:=(eR _).drew.cell (dR h v0 v1 v2 v3 v4 v5 k)
theorem JV (a0 a1:Addr) (n:Nat) (hn:n≤2) (w:World) (h:jL w a0 a1):Calls Tryz.prog 27 #[rG a0 a1 n] w fun e w'=>e=.returned (.int .i64 (n:Nat))∧w'=w:=by
 match n,hn with
 |0,_=>exact yi a0 a1 w h
 |1,_=>exact tk a0 a1 w h
 |2,_=>exact rz a0 a1 w h
theorem tz.le {w w':World}{cs:List dY}{ins:List cL}{preds:List Pd}{given:List Tm}{p:Pf}{t:Tm}{n:Nat}(h:tz w w' cs ins preds given p t n):n≤2:=by
 rcases h.o with ⟨h,-⟩|⟨-,-,u,-,⟨h,-⟩|⟨h,-⟩⟩<;>omega
theorem JW (x:di) (P:Option Addr) (pc:Nat) (preds:List Pd) (L:Option Addr) (lc:Nat) (given:List Tm) (hpl:∀y∈x.insts,y.preds.length≤40000) (p:Pf) (a0 a1:Addr) (w:World) (he:dJ w x) (hP:bg w P preds) (hL:bm w L given) (hp:bW w p) (jb:sw w) (nZ:jL w a0 a1) (rH:pg x.af x.insts preds given p) :
  Calls Tryz.prog 8 #[eu x,.slice P preds.length pc,.slice L given.length lc,bM p] w fun e w'=>(∃t n,e=.returned (.tuple #[bz t,.int .i64 (n:Nat)])∧tz w w' x.af x.insts preds given p t n)∧Ext w w':=by
 obtain⟨W,hW⟩:∃W,W=((w.alloc (.cells #[.slice x.D x.aA.length x.dc,.slice x.C x.af.length x.cc,.slice x.I x.insts.length x.ic] 26)).alloc (.cells #[.int .i64 p.kind,.int .i64 p.n,.slice p.T p.types.length p.tc,.slice p.A p.kids.length p.cap] 34)).alloc (.cells #[.int .i64 0,.int .i64 0,.string ⟨#[]⟩,.slice none 0 0,.slice none 0 0,.slice none 0 0] 40):=⟨_,rfl⟩;have HW:=aa hW.symm;have X0:aiE (Ext w W):=aa (by rw[hW];exact(((eR _).alloc _).alloc _).alloc _);have B1:aiE (aI W w.heap.size x):=aa (by rw[hW];exact(aI.new w x).ext (((eR _).alloc _).alloc _));have B2:aiE (aO W (w.heap.size+1) p):=aa (by rw[hW];exact aO.ext (ah _ _ _ (by simp)) ((eR _).alloc _));have B3:aiE (W.heap[w.heap.size+1+1]?=some (.cells #[.int .i64 0,.int .i64 0,.string ⟨#[]⟩,.slice none 0 0,.slice none 0 0,.slice none 0 0] 40)):=aa (by rw[hW];exact ah _ _ _ (by simp));have bR:aiE (W.heap.size=w.heap.size+3):=aa (by rw[hW];simp);have HWh:=aa (MW x P pc preds L lc given hpl p a0 a1 W (he.ext X0.o) (hP.ext X0.o) (hL.ext X0.o) (hp.ext X0.o) (sw.ext jb X0.o) (nZ.ext X0.o) rH);have HN:=aa (fun n hn w' (e:Ext W w')=>JV a0 a1 n hn w' (nZ.ext (X0.o.trans e)));obtain⟨c0,c1,c2,c3⟩:=B2.o.cells;obtain⟨e0,e1,e2⟩:=B1.o.cells;have n1:=B1.o.lt;have n2:=B2.o.lt;have sR:aiE (∀c,w.heap.size≤c→(∀g∈given,az c g)∧aJ c p):=aa (fun c hc=>⟨fun g hg=>bA (hL.kids g hg) hc,dO hp hc⟩);clear hW he hP hL hp jb nZ rH;unfold eu;unfold bM at *;go_enter Tryz.func8,Tryz.ntmps8;go_upto_region 1 with fail;rw[HW.o];clear HW;go_wp2_with fail;refine HWh.o.mono ?_;rintro e w2 ⟨⟨t,n,rfl,hw⟩,hx⟩;have X2:=aa hx;have Hw:=aa hw;have Hn:=HN.o n hw.le;clear hx hw HWh HN c0 c1 c2 c3 e0 e1 e2 n1 n2;generalize rG a0 a1 n=er at *;go_upto_region 2 with fail;refine bJ ?_;intro W3 hW3;have E3:aiE (Ext w2 W3):=aa (by rw[hW3];exact(eR _).alloc _);have D3:aiE (av W3 w2.heap.size t):=aa (by rw[hW3];exact av.new w2 t);have X3:=aa (X2.o.trans E3.o);clear hW3;obtain⟨d0,d1,d2,d3,d4,d5⟩:=D3.o.cells;have d6:=D3.o.lt;have B4:=aa ((X3.o.heap (ae B3.o)).trans B3.o);obtain⟨z0,z1,z2,z3,z4,z5,gC,gD,gF,gH,vV,vW⟩:=bB B4.o;have hz:=ae B4.o;have n9:=aa (Hw.o.away (w.heap.size+1+1) (by have:=bR.o;omega) (sR.o _ (by omega)).1 (sR.o _ (by omega)).2);have HI:=aa ((Hw.o.gZ.ext E3.o).grown (bh W3 (w.heap.size+1+1) t) (fun c e=>by injection e with e;subst e;exact n9.o));have XF:=aa (bk (X0.o.trans X3.o) (by omega:w.heap.size≤w.heap.size+1+1) t);have xb:aiE (∀w',aQ w' t→tz w w' x.af x.insts preds given p t n):=aa (fun w' h=>⟨h,fun c hc h1 h2=>Hw.o.away c (by have:=bR.o;omega) h1 h2,Hw.o.o⟩);have hne:w2.heap.size≠w.heap.size+1+1:=by have:=X2.o.size;have:=bR.o;omega
 clear Hw;have kS:=aiI d0 (aiI d1 (aiI d2 (aiI d3 (aiI d4 d5))))
 go_region_held3 (fun w'=>w'.cell? ⟨w2.heap.size,0,none⟩=some (.int .i64 t.kind)∧w'.cell? ⟨w2.heap.size,1,none⟩=some (.int .i64 t.n)∧w'.cell? ⟨w2.heap.size,2,none⟩=some (.string ⟨t.name.toArray⟩)∧w'.cell? ⟨w2.heap.size,3,none⟩=some (.slice t.V t.vars.length t.vc)∧w'.cell? ⟨w2.heap.size,4,none⟩=some (.slice t.T t.types.length t.tc)∧w'.cell? ⟨w2.heap.size,5,none⟩=some (.slice t.A t.kids.length t.cap)) (first|with_reducible assumption|(obtain⟨g0,g1,g2,g3,g4,g5⟩:=kS;first|with_reducible exact⟨jG hne _ _ _ _ _ _ g0,jG hne _ _ _ _ _ _ g1,jG hne _ _ _ _ _ _ g2,jG hne _ _ _ _ _ _ g3,jG hne _ _ _ _ _ _ g4,jG hne _ _ _ _ _ _ g5⟩|with_reducible exact⟨dR hne _ _ _ _ _ _ g0,dR hne _ _ _ _ _ _ g1,dR hne _ _ _ _ _ _ g2,dR hne _ _ _ _ _ _ g3,dR hne _ _ _ _ _ _ g4,dR hne _ _ _ _ _ _ g5⟩)|go_keep) (
  (
  go_at_call 27
  refine Calls.mono (Hn _ (X3.o.trans (by repeat(first|exact eR _|exact eA (by assumption) _|refine eA ?_ _|refine eM ?_ _ _|refine eD ?_|refine eN ?_ _)))) ?_;rintro e y ⟨rfl,rfl⟩;have kS:=aiI d0 (aiI d1 (aiI d2 (aiI d3 (aiI d4 d5))))))
 go_wp2;refine bodyPost_ret (v:=.tuple #[bz t,.int .i64 (n:Nat)]) ?_ rfl ⟨⟨t,n,rfl,xb.o _ (HI.o.ext (eR _).drew)⟩,XF.o.drew⟩;simp[results,Tryz.f8,go_sem,z0,z1,z2,z3,z4,z5]
set_option maxRecDepth 512
set_option maxHeartbeats 200000
def lZ (cs:List dY) (ins:List cL) (preds:List Pd) (given:List Tm) (q:Pd) (t:Tm.Pure):Prop:=
 ∃(p:Pf) (u:Tm),mS cs ins preds q=.ok p.pure∧preds.length=given.length∧(bw cs ins preds p).isSome=true∧u.pure=kR cs ins preds (given.map Tm.pure) p∧cx u=true∧t=u.pure
def iV (cs:List dY) (ins:List cL) (preds:List Pd) (given:List Tm) (q:Pd) (n:Int):Prop:=
 mS cs ins preds q=.error n∨∃(p:Pf) (t:Tm) (m:Nat) (w w':World),mS cs ins preds q=.ok p.pure∧tz w w' cs ins preds given p t m∧m≠0∧n=(m:Int)
def nW (w':World) (cs:List dY) (ins:List cL) (preds:List Pd) (given:List Tm) (l:List Pd) (v:Value):Prop:=
 (∃A c ts,v=.tuple #[.slice A (List.length ts) c,.int .i64 0,.int .i64 0]∧ts.length≤c∧c≤9223372036854775807∧bm w' A ts∧ts.length=l.length∧∀j (h1:j<l.length) (h2:j<ts.length),lZ cs ins preds given (l[j]'h1) (ts[j]'h2).pure) ∨
 ∃(k:Nat) (n:Int),v=.tuple #[.slice none 0 0,.int .i64 (k:Nat),.int .i64 n]∧n≠0∧∃hk:k<l.length,(∀j (h1:j<l.length),j<k→∃t,lZ cs ins preds given (l[j]'h1) t)∧iV cs ins preds given (l[k]'hk) n
structure JX (w wr:World) (cs:List dY) (ins:List cL) (preds:List Pd) (given:List Tm) (l:List Pd) (k:Nat) (ts:List Tm) (v:Value):Prop where
 own:wr.ownsRow (w.heap.size+1) 40 6 v ts.length (ts.flatMap eY.f)
 gZ:∀t∈ts,aQ wr t
 DX:∀t∈ts,∀c,v.ownBlock=some c→az c t
 len:ts.length=k
 is:∀j (h1:j<l.length) (h2:j<ts.length),lZ cs ins preds given (l[j]'h1) (ts[j]'h2).pure
 ext:Ext w wr
theorem JX.snoc {w wr w5 w6:World}{cs:List dY}{ins:List cL}{preds:List Pd}{given:List Tm}{l:List Pd}{k:Nat}{ts:List Tm}{v v6:Value}{t:Tm}(h:JX w wr cs ins preds given l k ts v) (hk:k<l.length) (e:Ext wr w5) (ht:aQ w5 t) (Qk:∀c,v.ownBlock=some c→az c t) (hq:lZ cs ins preds given (l[k]'hk) t.pure)
  (hown:w6.ownsRow (w.heap.size+1) 40 6 v6 (ts++[t]).length ((ts++[t]).flatMap eY.f)) (hg:w5.grownBy w6 v.ownBlock) (hat:v6.ownBlock=v.ownBlock∨∀c,v6.ownBlock=some c→w5.heap.size≤c) :
  JX w w6 cs ins preds given l (k+1) (ts++[t]) v6:=by
 have all:∀z∈ts++[t],aQ w5 z∧(∀c,v.ownBlock=some c→az c z):=fun z hz=>by
  rcases List.mem_append.1 hz with hz|hz
  ·exact⟨(h.gZ z hz).ext e,h.DX z hz⟩
  ·rw[aiV] at hz;subst hz;exact⟨ht,Qk⟩
 refine⟨hown,fun z hz=>(all z hz).1.grown hg (all z hz).2,fun z hz c hc => ?_,by simp[h.len],fun j h1 h2 => ?_,?_⟩
 ·rcases hat with h1|h1
  ·exact(all z hz).2 c (h1▸hc)
  ·exact bA (all z hz).1 (h1 c hc)
 ·by_cases hj:j<ts.length
  ·rw[List.getElem_append_left hj];exact h.is j h1 hj
  ·have hjk:j=k:=by have:=h.len;simp at h2;omega
   subst hjk;have e2:(ts++[t])[j]'h2=t:=by
    rw[List.getElem_append_right (by have:=h.len;omega)];simp
   rw[e2];exact hq
 ·exact(h.ext.trans e).grown hg (fun c hc=>by have:=(h.own.lt c hc).1;omega)
set_option maxRecDepth 10000
set_option maxHeartbeats 8000000
theorem OQ (x:di) (P:Option Addr) (pc:Nat) (preds:List Pd) (L:Option Addr) (lc:Nat) (given:List Tm) (Q:Option Addr) (qc:Nat) (l:List Pd) (hE:nV x preds) (a0 a1:Addr) (w:World) (he:dJ w x) (hP:bg w P preds) (hL:bm w L given) (hl:bg w Q l) (RR:l.length≤1000000) (jb:sw w) (nZ:jL w a0 a1)
  (rH:∀q∈l,∀p:Pf,mS x.af x.insts preds q=.ok p.pure→p.size≤4096→pg x.af x.insts preds given p) :
  Calls Tryz.prog 16 #[eu x,.slice P preds.length pc,.slice L given.length lc,.slice Q l.length qc] w fun e w'=>(∃v,e=.returned v∧nW w' x.af x.insts preds given l v)∧Ext w w':=by
 obtain⟨W,hW⟩:∃W,W=w.alloc (.cells #[.slice x.D x.aA.length x.dc,.slice x.C x.af.length x.cc,.slice x.I x.insts.length x.ic] 26):=⟨_,rfl⟩;have HW:=aa hW.symm;have X0:aiE (Ext w W):=aa (by rw[hW];exact(eR _).alloc _);have B1:aiE (aI W w.heap.size x):=aa (by rw[hW];exact aI.new w x);have bR:aiE (W.heap.size=w.heap.size+1):=aa (by rw[hW];simp);have HQ:=aa hl;have HBy:=aa (fun q w' (e:Ext w w') (h:dH w q)=>aa (VP x P pc preds hE q w' (he.ext e) (hP.ext e) (h.ext e)));have HTm:=aa (fun p w' (e:Ext w w') (h:bW w' p) (hf:pg x.af x.insts preds given p)=>aa (JW x P pc preds L lc given hE.pl p a0 a1 w' (he.ext e) (hP.ext e) (hL.ext e) h (sw.ext jb e) (nZ.ext e) hf));have wy:=aa rH;have BM:=aa (fun c (hc:w.heap.size≤c) g hg=>bA (hL.kids g hg) hc);obtain⟨j0,hj,nB,gI,gM⟩:=info_parts nJ;clear hW he hP hL hl jb nZ rH hE;unfold eu at *;go_enter Tryz.func16,Tryz.ntmps16;go_upto_region 1 with fail;rw[HW.o];clear HW;go_wp2
 go_loopw [11,19] (fun v i wr=>∃(k:Nat) (ts:List Tm),k≤l.length∧i=.int .i64 k∧aiE (Ext W wr)∧aiE (JX w wr x.af x.insts preds given l k ts v)) (fun _ i _=>l.length - (intOf i).toNat)
 case atStart=>exact⟨0,[],aiH _,rfl,aa (eR _),aa ⟨World.ownsRow_nil _ _ _ _,by simp,by simp,rfl,fun j h1 h2=>absurd h2 (by simp),X0.o⟩⟩
 case round=>
  obtain⟨k,ts,nX,rfl,HX,HK⟩:=hrel;have hwr:=HK.o.ext.size
  by_cases hlt:k<l.length
  ·have aN:(k:Int)<(l.length:Int):=by omega
   have cV:(0:Int)≤(k:Int):=by omega
   have yN:=HQ.o.all _ (aiF hlt);obtain⟨bq,oq,rfl,Cb,q0,q1,q2,q3⟩:=(HQ.o.ext HK.o.ext).at_ hlt;have HC:=aa (fun w' (e:Ext w w')=>(HBy.o (l[k]'hlt) w' e yN).o);have Bc:=aa (fun v (n:Int) (hv:v=Value.tuple #[.slice none 0 0,.int .i64 (k:Nat),.int .i64 n]) (hn:n≠0) (ho:iV x.af x.insts preds given (l[k]'hlt) n) (w':World)=>(show nW w' x.af x.insts preds given l v from .inr ⟨k,n,hv,hn,hlt,fun j h1 h2=>⟨_,HK.o.is j h1 (by have:=HK.o.len;omega)⟩,ho⟩));have Ng:=aa (fun w5 w6 v6 t e ht Qk hq=>HK.o.snoc (w5:=w5) (w6:=w6) (v6:=v6) (t:=t) hlt e ht Qk hq);have Mi:=aa yN.ty;have Q8:=aa (wy.o _ (aiF hlt));have yO:=aa (fun(n:Int) (h:mS x.af x.insts preds (l[k]'hlt)=.error n)=>(show iV x.af x.insts preds given (l[k]'hlt) n from .inl h));generalize l[k]'hlt=q at *;obtain⟨n1,e0,e1,e2⟩:=aiI (B1.o.ext HX.o).lt (B1.o.ext HX.o).cells;unfold fN at HC;clear yN;go_wp2_with fail;refine(HC.o _ (HK.o.ext.alloc (.cells #[encStr q.cls,encStr q.ty.aq,.int .i64 q.ty.var,.slice q.ty.A q.ty.args.length q.ty.cap] 55))).mono ?_;rintro e w6 ⟨⟨v,rfl,hby⟩,hx⟩;have X6:aiE (Ext wr w6):=aa (((eR wr).alloc (.cells #[encStr q.cls,encStr q.ty.aq,.int .i64 q.ty.var,.slice q.ty.A q.ty.args.length q.ty.cap] 55)).trans hx);clear hx HC q0 q1 q2 q3 Cb n1 e0 e1 e2;cases hb:mS x.af x.insts preds q with
   |error n=>
    rw[hb] at hby
    obtain⟨hv,hn⟩:=hby
    have HO:=aa (yO.o n hb);have hnb:(n != 0)=true:=by simpa using hn
    clear Ng Q8 hb yO;subst hv;unfold bM;go_wp2;go_ret3;exact⟨⟨_,rfl,Bc.o _ n rfl hn HO.o _⟩,HK.o.ext.trans (X6.o.trans (by repeat(first|exact eR _|exact eA (by assumption) _|refine eA ?_ _|refine eM ?_ _ _|refine eD ?_|refine eN ?_ _)))⟩
   |ok Q0=>
    rw[hb] at hby
    obtain⟨p,hv,xe,Q9,VS,VT⟩:=hby
    subst hv;have BH:(wr.alloc (.cells #[encStr q.cls,encStr q.ty.aq,.int .i64 q.ty.var,.slice q.ty.A q.ty.args.length q.ty.cap] 55)).heap.size=wr.heap.size+1:=World.size_alloc _ _;have HF:=aa (Q8.o p (by rw[hb,Q9]) VS);have zq:=aa (fun w' (e:Ext w6 w')=>(HTm.o p w' ((HK.o.ext.trans X6.o).trans e) (xe.ext e) HF.o).o);have tD:=aa (by rw[hb,Q9]:mS x.af x.insts preds q=.ok p.pure);obtain⟨A6,c6,hv,-,-,-,-⟩:=ak.own eY (l:=ts) HK.o.own;subst hv;have Nh:=aa HK.o.own;have Um:=X6.o.size;have Vf:=aa HK.o.len;have VU:aiE (∀c,(Value.slice A6 ts.length c6).ownBlock=some c→aJ c p):=aa (fun c hc=>by
     have:=Nh.o.lt c hc;exact VT c (by omega) (aP Mi.o (by omega)))
    have XE:=aa (HX.o.trans X6.o);have XW:=aa (HK.o.ext.trans X6.o);obtain⟨n1,e0,e1,e2⟩:=aiI (B1.o.ext XE.o).lt (B1.o.ext XE.o).cells;unfold bM at *;clear xe Q9 VS VT BH HF Q8 hb;go_wp2_with fail;refine(zq.o _ ((eR w6).alloc (.cells #[.int .i64 p.kind,.int .i64 p.n,.slice p.T p.types.length p.tc,.slice p.A p.kids.length p.cap] 34))).mono ?_;rintro e w8 ⟨⟨t,n,rfl,hw⟩,hx⟩;have X8:aiE (Ext w6 w8):=aa (((eR w6).alloc (.cells #[.int .i64 p.kind,.int .i64 p.n,.slice p.T p.types.length p.tc,.slice p.A p.kids.length p.cap] 34)).trans hx);have KS:(w6.alloc (.cells #[.int .i64 p.kind,.int .i64 p.n,.slice p.T p.types.length p.tc,.slice p.A p.kids.length p.cap] 34)).heap.size=w6.heap.size+1:=World.size_alloc _ _;have D6:aiE (∀c,(Value.slice A6 ts.length c6).ownBlock=some c→az c t):=aa (fun c hc=>by
     have:=Nh.o.lt c hc;exact hw.away c (by omega) (BM.o c (by omega)) (VU.o c hc))
    have Hw:=aa hw;have hr8:=X8.o.size;clear hw hx zq e0 e1 e2 n1 KS VU
    by_cases hn:n=0
    ·have Hq:aiE (lZ x.af x.insts preds given q t.pure):=aa (by
      rcases Hw.o.o with ⟨h,-⟩|⟨h1,h2,u,h3,⟨-,h4,h5⟩|⟨h,-⟩⟩
      ·omega
      ·exact⟨p,u,tD.o,h1,h2,h3,h5,by rw[h4]⟩
      ·omega)
     have lH:=aa (Hw.o.gZ.ext (((eR w8).alloc (.cells #[.int .i64 t.kind,.int .i64 t.n,encStr t.name,.slice t.V t.vars.length t.vc,.slice t.T t.types.length t.tc,.slice t.A t.kids.length t.cap] 40)).alloc (.cells #[.int .i64 t.kind,.int .i64 t.n,encStr t.name,.slice t.V t.vars.length t.vc,.slice t.T t.types.length t.tc,.slice t.A t.kids.length t.cap] 40)));have O8:=aa (aZ Nh.o (X6.o.trans X8.o));have E8:aiE (Ext wr ((w8.alloc (.cells #[.int .i64 t.kind,.int .i64 t.n,encStr t.name,.slice t.V t.vars.length t.vc,.slice t.T t.types.length t.tc,.slice t.A t.kids.length t.cap] 40)).alloc (.cells #[.int .i64 t.kind,.int .i64 t.n,encStr t.name,.slice t.V t.vars.length t.vc,.slice t.T t.types.length t.tc,.slice t.A t.kids.length t.cap] 40))):=aa (((X6.o.trans X8.o).alloc _).alloc _);have Sq:ts.length≤1000000:=by have:=Vf.o;omega
     clear Hw Bc yO Nh Mi;subst hn;go_wp2_with (at_builtin;refine aD _ rfl _ _ 28 rfl (w.heap.size+1) 40 j0 _ 6 104 Tryz.underlying28 hj nB gI gM rfl (by decide) (.slice A6 ts.length c6) ts.length (ts.flatMap eY.f) rfl ((O8.o.alloc _).alloc _) _ 1 1 [.int .i64 t.kind,.int .i64 t.n,encStr t.name,.slice t.V t.vars.length t.vc,.slice t.T t.types.length t.tc,.slice t.A t.kids.length t.cap] rfl ?c2 ?c3 ?c4 ?c5 ?c6 ?_)
     case c2=>exact Row.zX _ _ _ _ _ _ (ah _ _ _ (by simp))
     case c3=>first|exact⟨rfl,rfl,rfl,rfl,rfl,rfl⟩|(intro z hz;simp at hz;rcases hz with rfl|rfl|rfl|rfl|rfl|rfl<;>rfl)
     case c4=>unfold maxLen;omega
     case c5=>omega
     case c6=>simp;omega
     intro v4 w9 br hg4 eW;have lQ:=aa (Ng.o _ w9 v4 t E8.o lH.o D6.o Hq.o (by rw[gu,aiL];exact br) hg4 (by
      rcases eW with e|e
      ·exact .inl e
      ·exact .inr (fun c hc=>by rw[e] at hc;injection hc with hc;simp at hc ⊢;omega)))
     have X9:aiE (Ext W w9):=aa ((HX.o.trans E8.o).grown hg4 (fun c hc=>by
      have:=O8.o.lt c hc;have:=bR.o;omega))
     clear br hg4 eW O8 E8 lH Hq D6 HK Ng;go_wp2;go_roundw
     case rel=>exact⟨k+1,ts++[t],hlt,by go_num,X9,lQ⟩
     case measure=>simp[intOf];omega
    ·have mO:((n:Int) != 0)=true:=by simp;omega
     have HO:aiE (iV x.af x.insts preds given q (n:Int)):=aa (.inr ⟨p,t,n,_,_,tD.o,Hw.o,hn,rfl⟩);have hnz:(n:Int)≠0:=by omega
     clear Hw Ng yO;go_wp2;go_ret3;exact⟨⟨_,rfl,Bc.o _ (n:Int) rfl hnz HO.o _⟩,XW.o.trans (X8.o.trans (by repeat(first|exact eR _|exact eA (by assumption) _|refine eA ?_ _|refine eM ?_ _ _|refine eD ?_|refine eN ?_ _)))⟩
  ·have bS:¬(k:Int)<(l.length:Int):=by omega
   obtain⟨A6,c6,hv,l1,l2,hrow,-⟩:=ak.own eY (l:=ts) HK.o.own;subst hv;have HA:aiE (nW wr x.af x.insts preds given l (.tuple #[.slice A6 ts.length c6,.int .i64 0,.int .i64 0])):=aa (.inl ⟨A6,c6,ts,rfl,l1,l2,⟨hrow,HK.o.gZ⟩,by have:=HK.o.len;omega,fun j h1 h2=>HK.o.is j h1 h2⟩);have XK:=aa HK.o.ext;clear hrow HK;go_wp2;go_ret3;exact⟨⟨_,rfl,HA.o⟩,XK.o⟩
set_option maxRecDepth 512
set_option maxHeartbeats 200000
theorem vg {f:aj→Ty.Pure→Except Int (Pf.Pure×Nat)}(hf:∀c t Q n,f c t=.ok (Q,n)→∀u:Pf,u.pure=Q→u.size=n):∀(l:List (aj×Ty.Pure)) (qs:List Pf.Pure) (n:Nat) (L:List Pf.Pure) (N:Nat),bL f l qs n=.ok (L,N)→(∀us:List Pf,us.map Pf.pure=qs→(us.map Pf.size).sum+1=n)→∀us:List Pf,us.map Pf.pure=L→(us.map Pf.size).sum+1=N
 | [],qs,n,L,N,h,h0=>by
  simp only[bL] at h;injection h with h;injection h with h1 h2;subst h1 h2;exact h0
 |(c,t) :: r,qs,n,L,N,h,h0=>by
  cases hq:f c t with
  |error e=>rw[nS hq] at h;cases h
  |ok r2=>
   obtain⟨q,k⟩:=r2;rw[lq hq] at h
   split at h
   ·cases h
   refine vg hf r _ _ L N h (fun us hu => ?_);obtain⟨a,b,rfl,ha,hb⟩:=List.map_eq_append_iff.1 hu;obtain⟨y,rfl,hy⟩:∃y,b=[y]∧y.pure=q:=by
    cases b with
    |nil=>cases hb
    |cons y t2=>
     cases t2 with
     |nil=>exact⟨y,rfl,by simpa using hb⟩
     |cons z t3=>simp at hb
   exact oL a y (h0 a ha) (hf _ _ _ _ hq y hy)
theorem vh (cs:List dY) (ins:List cL) (given:List Pd):∀(m:Nat) (c:aj) (t:Ty.Pure) (Q:Pf.Pure) (n:Nat),cz cs ins given m c t=.ok (Q,n)→∀u:Pf,u.pure=Q→u.size=n
 |0,c,t,Q,n,h=>by cases h
 |m+1,c,t,Q,n,h=>by
  intro u hu;simp only[cz] at h;cases hs:jS cs given c t with
  |some ip=>
   obtain⟨i,path⟩:=ip;rw[hs] at h;simp only at h;injection h with h;injection h with h1 h2;subst h1 h2;exact mL i _ path rfl u hu
  |none=>
   rw[hs] at h;simp only at h;cases hb:wL ins c t with
   |none=>rw[hb] at h;cases h
   |some iw=>
    obtain⟨i,wants⟩:=iw;rw[hb] at h;simp only at h;cases hk:bL (cz cs ins given m) wants [] 1 with
    |error e=>rw[hk] at h;cases h
    |ok r=>
     obtain⟨l,N⟩:=r;rw[hk] at h;simp only at h;injection h with h;injection h with h1 h2;subst h1 h2;rw[Pf.aG] at hu;injection hu with _ _ _ hu;rw[Pf.size_eq];exact vg (vh cs ins given m) wants [] 1 l N hk (fun us h=>by simp at h;subst h;rfl) u.kids hu
theorem yP (t:Ty):∀u:Ty,t.pure=u.pure→cM t=cM u:=by
 induction t using Ty.ind with
 |h t ih=>
 intro u hu;rw[Ty.aG t,Ty.aG u] at hu;injection hu with h1 h2 h3;have hl:=dV h3;rw[jd,jd];have e:t.args.all cM=u.args.all cM:=by
  have:∀l:List Ty,l.all cM=(l.map cM).all id:=fun l=>by rw[List.all_map];rfl
  rw[this,this,jg cM cM hl (fun i k1 k2=>ih _ (aiF k1) _ (ez h3 k1 k2))]
 rw[e];unfold cX;rw[h1,h2,hl]
theorem yQ {t u:Ty}(h:t.pure=u.pure):aV t=aV u:=by
 unfold aV;rw[(nr t u h).1,(nr t u h).2,yP t u h]
theorem yR {t u:Tm}(h:t.pure=u.pure):t.kind=u.kind∧t.n=u.n∧t.name=u.name∧t.vars=u.vars∧t.types.map Ty.pure=u.types.map Ty.pure∧t.kids.map Tm.pure=u.kids.map Tm.pure:=by
 rw[Tm.aG t,Tm.aG u] at h;injection h with h1 h2 h3 h4 h5 h6;exact⟨h1,h2,h3,h4,h5,h6⟩
theorem OS (t:Tm):∀u:Tm,t.pure=u.pure→t.size=u.size∧t.depth=u.depth∧t.tb=u.tb:=by
 induction t using Tm.ind with
 |h t ih=>
 intro u h;obtain⟨h1,h2,h3,h4,h5,h6⟩:=yR h;have hl:=dV h6;have e1:t.kids.map Tm.size=u.kids.map Tm.size:=jg _ _ hl (fun i k1 k2=>(ih _ (aiF k1) _ (ez h6 k1 k2)).1);have e2:t.kids.map Tm.depth=u.kids.map Tm.depth:=jg _ _ hl (fun i k1 k2=>(ih _ (aiF k1) _ (ez h6 k1 k2)).2.1);have e3:t.kids.map Tm.tb=u.kids.map Tm.tb:=jg _ _ hl (fun i k1 k2=>(ih _ (aiF k1) _ (ez h6 k1 k2)).2.2);have e4:t.types.all aV=u.types.all aV:=by
  have:∀l:List Ty,l.all aV=(l.map aV).all id:=fun l=>by rw[List.all_map];rfl
  rw[this,this,jg aV aV (dV h5) (fun i k1 k2=>yQ (ez h5 k1 k2))]
 refine⟨by rw[Tm.size_eq,Tm.size_eq,e1],by rw[Tm.aT,Tm.aT,e2],?_⟩;rw[jf,jf,e3,h1]
 congr 1
 unfold bC;rw[h1,h2,h3,h4,dV h5,hl,e4]
theorem yS {t u:Tm}(h:t.pure=u.pure):cx t=cx u:=by
 obtain⟨h1,h2,h3⟩:=OS t u h;unfold cx;rw[h1,h2,h3]
theorem JY (t:Tm):∀u:Tm,t.pure=u.pure→dt t→dt u:=by
 induction t using Tm.ind with
 |h t ih=>
 intro u h hf;obtain⟨-,-,-,h4,h5,h6⟩:=yR h;refine .mk (by rw[←dV h5];exact hf.UH) (fun x hx => ?_) (by rw[←dV h6];exact hf.kl) (by rw[←h4];exact hf.vl) (fun k hk => ?_)
 ·obtain⟨i,k1,rfl⟩:=List.mem_iff_getElem.1 hx;have k2:i<t.types.length:=by rw[dV h5];exact k1
  rw[←(nr _ _ (ez h5 k2 k1)).1];exact hf.ty _ (aiF k2)
 ·obtain⟨i,k1,rfl⟩:=List.mem_iff_getElem.1 hk;have k2:i<t.kids.length:=by rw[dV h6];exact k1
  exact ih _ (aiF k2) _ (ez h6 k2 k1) (hf.kids _ (aiF k2))
def fF (N:Nat) (q:Tm.Pure):Prop:=∀t:Tm,t.pure=q→dt t∧t.size≤N
theorem fF.of {t:Tm}{N:Nat}(hf:dt t) (hs:t.size≤N):fF N t.pure:=fun u hu=>⟨JY t u hu.symm hf,by rw[←(OS t u hu.symm).1];exact hs⟩
theorem fF.mono {N M:Nat}{q:Tm.Pure}(h:fF N q) (hm:N≤M):fF M q:=fun t ht=>⟨(h t ht).1,aiM (h t ht).2 hm⟩
theorem Ni {α β:Type}{f:α→β}{l:List α}{b:β}(h:l.map f=[b]):∃a,l=[a]∧f a=b:=by
 match l,h with
 | [a],h=>exact⟨a,rfl,by simpa using h⟩
theorem Nj {α β:Type}{f:α→β}{l:List α}{b c:β}(h:l.map f=[b,c]):∃a d,l=[a,d]∧f a=b∧f d=c:=by
 match l,h with
 | [a,d],h=>
  simp only[List.map_cons,List.map_nil,List.cons.injEq,and_true] at h;exact⟨a,d,rfl,h.1,h.2⟩
theorem fF.none (k n:Int) (s:aj):fF 1 (.mk k n s [] [] []):=fun t ht=>by
 rw[Tm.aG] at ht;injection ht with h1 h2 h3 h4 h5 h6;rw[List.map_eq_nil_iff] at h5 h6;refine⟨.mk (by rw[h5];exact aiH _) (fun x hx=>by rw[h5] at hx;cases hx) (by rw[h6];exact aiH _) (by rw[h4];exact aiH _) (fun k hk=>by rw[h6] at hk;cases hk),?_⟩;rw[Tm.size_eq,h6];exact aiG _
theorem fF.one {N:Nat}{k n:Int}{s:aj}{ts:List Ty.Pure}{q:Tm.Pure}(h1:ts.length≤10000) (h2:∀x:Ty,x.pure∈ts→x.size≤90000) (h:fF N q):fF (N+1) (.mk k n s [] ts [q]):=fun t ht=>by
 rw[Tm.aG] at ht;injection ht with _ _ _ h4 h5 h6;obtain⟨a,ha,hq⟩:=Ni h6;have hx:=h a hq;refine⟨.mk (by have:=congrArg List.length h5;rw[List.length_map] at this;omega) (fun x hx=>h2 x (by rw[←h5];exact List.mem_map.2 ⟨x,hx,rfl⟩)) (by rw[ha];show 1≤1000000;omega) (by rw[h4];exact aiH _) (fun k hk=>by rw[ha,aiV] at hk;subst hk;exact hx.1),?_⟩;rw[Tm.size_eq,ha];show(a.size+0)+1≤N+1;have:=hx.2;omega
theorem fF.app {N M:Nat}{f x:Tm.Pure}(hf:fF N f) (hx:fF M x):fF (N+M+1) (ou f x):=fun t ht=>by
 unfold ou at ht;rw[Tm.aG] at ht;injection ht with _ _ _ h4 h5 h6;rw[List.map_eq_nil_iff] at h5;obtain⟨a,d,ha,ea,ed⟩:=Nj h6;have ka:=hf a ea;have kd:=hx d ed;refine⟨.mk (by rw[h5];exact aiH _) (fun x hx=>by rw[h5] at hx;cases hx) (by rw[ha];show 2≤1000000;omega) (by rw[h4];exact aiH _) (fun k hk=>by
  rw[ha] at hk
  rcases List.mem_cons.1 hk with rfl|hk
  ·exact ka.1
  ·rw[aiV] at hk;subst hk;exact kd.1),?_⟩
 rw[Tm.size_eq,ha];show(a.size+(d.size+0))+1≤N+M+1;have:=ka.2;have:=kd.2;omega
theorem fF.apps {EV:Pf→Tm.Pure}:∀(l:List Pf) (N:Nat) (f:Tm.Pure),fF N f→(∀k∈l,fF (3002*k.size - 1) (EV k))→fF (N+3002*(l.map Pf.size).sum) ((l.map EV).foldl ou f)
 | [],N,f,h,_=>by simpa using h
 |x :: l,N,f,h,hk=>by
  have hx:=Pf.size_pos x;have h1:=fF.mono (fF.app h (hk x (by simp))) (show N+(3002*x.size - 1)+1≤N+3002*x.size by omega);have h2:=fF.apps l _ _ h1 (fun k FB=>hk k (by simp[FB]));simp only[List.map_cons,List.foldl_cons,List.sum_cons];exact h2.mono (by rw[Nat.mul_add];omega)
theorem Rb {cs:List dY}{ins:List cL}{preds:List Pd}{given:List Tm}(hl:preds.length=given.length) (hg:∀t∈given,dt t∧t.size≤3001) (p:Pf):(bw cs ins preds p).isSome=true→fF (3002*p.size - 1) (kR cs ins preds (given.map Tm.pure) p):=by
 induction p using Pf.ind with
 |h p ih=>
 intro hp;obtain⟨q,hq⟩:=Option.isSome_iff_exists.1 hp;have H8:=Pf.size_pos p
 rcases eB hq with ⟨k1,hk,ht,n0,n1⟩|⟨k2,ht,k,b,hk,hb⟩|⟨k3,x,hx,nX,js⟩
 ·have hlt:p.n.toNat<given.length:=by omega
  have hz:pH (given.map Tm.pure) p.n=some (given[p.n.toNat]'hlt).pure:=by
   unfold pH;rw[if_pos n0,List.getElem?_map,aiU hlt];rfl
  rw[ml];unfold NY;rw[if_pos k1,hz,Option.getD_some];have:=hg _ (aiF hlt);exact fF.of this.1 (by omega)
 ·have h1:=ih k (by rw[hk];simp) (by rw[hb];rfl);have hs:p.size=k.size+1:=by rw[Pf.size_eq,hk];simp
  rw[ml];unfold NY;rw[if_neg (by omega),if_pos k2,hk];have hkz:=Pf.size_pos k;exact(fF.one (aiH _) (fun x hx=>by cases hx) h1).mono (by omega)
 ·rw[pT k3 hx];have Lb:=hq;rw[fg] at Lb;obtain⟨h1,h2⟩:=Option.filter_eq_some_iff.1 Lb;unfold ir at h1;rw[if_neg (by omega),if_neg (by omega),if_pos k3] at h1;unfold cr at h1;obtain⟨y,-,h1⟩:=Option.bind_eq_some_iff.1 h1
  split at h1
  ·rename_i hc
   injection h1 with h1;subst h1;have hsz:(Ty.mk y.aq 0 p.T p.tc p.types).size≤4096:=by
    unfold dI at h2;rw[aiT] at h2;have h3:=h2.2;unfold ax at h3;simp only[aiT,decide_eq_true_eq] at h3;exact h3.1.1
   have Nk:p.types.length≤4096:=by
    have:=Ty.fy (Ty.mk y.aq 0 p.T p.tc p.types);have e:(Ty.mk y.aq 0 p.T p.tc p.types).args=p.types:=rfl;rw[e] at this;omega
   have jr:∀x:Ty,x.pure∈p.types.map Ty.pure→x.size≤90000:=fun x hx=>by
    obtain⟨z,hz,e⟩:=List.mem_map.1 hx;rw[←(nr z x e).1];have:=Ty.bo (t:=Ty.mk y.aq 0 p.T p.tc p.types) (k:=z) hz;omega
   have hf:fF 2 (if p.types.map Ty.pure=[] then Tm.Pure.mk 1 0 (iv x.cls x.aq) [] [] [] else .mk 6 0 [] [] (p.types.map Ty.pure) [.mk 1 0 (iv x.cls x.aq) [] [] []]):=by
    split
    ·exact(fF.none _ _ _).mono (by omega)
    ·exact fF.one (by simp;omega) jr (fF.none _ _ _)
   have h5:=fF.apps p.kids 2 _ hf (fun k hk=>ih k hk (by obtain⟨b,hb⟩:=js k hk;rw[hb];rfl));exact h5.mono (by rw[Pf.size_eq,Nat.mul_add];omega)
  ·cases h1
theorem vk {cs:List dY}{ins:List cL}{preds:List Pd}{given:List Tm}(hg:∀t∈given,dt t∧t.size≤3001){p:Pf}(hp:p.size≤4096):pg cs ins preds given p:=fun h hl t ht=>by
 have:=Rb hl hg p h t ht;exact⟨this.1,by omega⟩
theorem E4 (t:Ty):t.size≤1000000→uq t=true:=by
 induction t using Ty.ind with
 |h t ih=>
 intro hs;rw[Hz,aiT,decide_eq_true_eq,aiY];have:=Ty.fy t;exact⟨by omega,fun k hk=>ih k hk (by have:=Ty.bo hk;omega)⟩
def FP (Q:Pf.Pure):Prop:=∀u:Pf,u.pure=Q→fR u=true∧jX u=true
theorem FP.mk' {k n:Int}{ts:List Ty.Pure}{l:List Pf.Pure}(jr:∀x:Ty,x.pure∈ts→x.size≤900000) (hn:ts.length≤1000000) (hl:∀q∈l,FP q):FP (.mk k n ts l):=fun u hu=>by
 rw[Pf.aG] at hu;injection hu with _ _ h3 h4;have ht:∀x∈u.types,x.size≤900000:=fun x hx=>jr x (by rw[←h3];exact List.mem_map.2 ⟨x,hx,rfl⟩)
 have hk:∀y∈u.kids,fR y=true∧jX y=true:=fun y hy=>hl y.pure (by rw[←h4];exact List.mem_map.2 ⟨y,hy,rfl⟩) y rfl
 have hle:u.types.length≤1000000:=by have:=congrArg List.length h3;rw[List.length_map] at this;omega
 constructor
 ·rw[uw,aiT,aiY,aiY];exact⟨fun x hx=>decide_eq_true (ht x hx),fun y hy=>(hk y hy).1⟩
 ·rw[xS,aiT,aiT,decide_eq_true_eq,aiY,aiY];exact⟨⟨by omega,fun x hx=>E4 x (by have:=ht x hx;omega)⟩,fun y hy=>(hk y hy).2⟩
theorem yT (i:Nat):∀(n:Nat) (l:List Nat),l.length=n→FP (cy i l)
 |0,l,hn=>by
  rw[List.length_eq_zero_iff] at hn;subst hn;exact FP.mk' (fun x hx=>by cases hx) (aiH _) (fun q hq=>by cases hq)
 |m+1,l,hn=>by
  rcases List.eq_nil_or_concat l with rfl|⟨l2,k,rfl⟩
  ·simp at hn
  ·rw[List.concat_eq_append] at hn ⊢;rw[kK];refine FP.mk' (fun x hx=>by cases hx) (aiH _) (fun q hq => ?_);rw[aiV] at hq;subst hq;exact yT i m l2 (by simpa using hn)
theorem E6 {ins:List cL}{c:aj}{y:Ty}{i:Nat}{wants:List (aj×Ty.Pure)}(h:wL ins c y.pure=some (i,wants)):∀w∈wants,∃z:Ty,z.pure=w.2∧z.size≤y.size:=by
 rw[Ty.aG] at h;simp only[wL] at h
 split at h
 ·cases h
 ·split at h
  ·cases h
  ·split at h
   ·cases h
   ·injection h with h;injection h with h1 h2;subst h2;intro w hw;obtain⟨p,hp,rfl⟩:=List.mem_map.1 hw
    by_cases hi:p.ty.var.toNat<y.args.length
    ·exact⟨y.args[p.ty.var.toNat]'hi,by simp[List.getD,hi],Nat.le_of_lt (Ty.bo (aiF hi))⟩
    ·refine⟨Ty.zero,?_,?_⟩
     ·simp only[List.getD];rw[List.getElem?_eq_none (by simpa using hi)];rw[Ty.aG];rfl
     ·have:=Ty.size_pos y;rw[Ty.size_eq];show 0+1≤y.size;omega
theorem Cz {f:aj→Ty.Pure→Except Int (Pf.Pure×Nat)}{P:Ty.Pure→Prop}(hf:∀c t Q n,P t→f c t=.ok (Q,n)→FP Q):∀(l:List (aj×Ty.Pure)) (qs:List Pf.Pure) (n:Nat) (L:List Pf.Pure) (N:Nat),(∀x∈l,P x.2)→bL f l qs n=.ok (L,N)→(∀q∈qs,FP q)→∀q∈L,FP q
 | [],qs,n,L,N,_,h,h0=>by
  simp only[bL] at h;injection h with h;injection h with h1 h2;subst h1;exact h0
 |(c,t) :: r,qs,n,L,N,hp,h,h0=>by
  cases hq:f c t with
  |error e=>rw[nS hq] at h;cases h
  |ok r2=>
   obtain⟨q,k⟩:=r2;rw[lq hq] at h
   split at h
   ·cases h
   refine Cz hf r _ _ L N (fun x hx=>hp x (List.mem_cons_of_mem _ hx)) h (fun q2 Lb => ?_)
   rcases List.mem_append.1 Lb with h1|h1
   ·exact h0 q2 h1
   ·rw[aiV] at h1;subst h1;exact hf c t _ k (hp (c,t) (by simp)) hq
theorem CA (cs:List dY) (ins:List cL) (given:List Pd):∀(m:Nat) (c:aj) (t:Ty.Pure) (Q:Pf.Pure) (n:Nat),(∃y:Ty,y.pure=t∧y.size≤90000)→cz cs ins given m c t=.ok (Q,n)→FP Q
 |0,c,t,Q,n,_,h=>by cases h
 |m+1,c,t,Q,n,⟨y,hy,hs⟩,h=>by
  simp only[cz] at h;cases hp:jS cs given c t with
  |some ip=>
   obtain⟨i,path⟩:=ip;rw[hp] at h;simp only at h;injection h with h;injection h with h1 h2;subst h1;exact yT i _ path rfl
  |none=>
   rw[hp] at h;simp only at h;cases hb:wL ins c t with
   |none=>rw[hb] at h;cases h
   |some iw=>
    obtain⟨i,wants⟩:=iw;rw[hb] at h;simp only at h;cases hk:bL (cz cs ins given m) wants [] 1 with
    |error e=>rw[hk] at h;cases h
    |ok r=>
     obtain⟨l,N⟩:=r;rw[hk] at h;simp only at h;injection h with h;injection h with h1 h2;subst h1;rw[←hy] at hb ⊢;have hw:=E6 hb;have hl:=Cz (P:=fun t=>∃y:Ty,y.pure=t∧y.size≤90000) (CA cs ins given m) wants [] 1 l N (fun x hx=>by obtain⟨z,e,k⟩:=hw x hx;exact⟨z,e,by omega⟩) hk (by simp);refine FP.mk' (fun x hx => ?_) ?_ hl
     ·rw[lp] at hx;obtain⟨z,hz,e⟩:=List.mem_map.1 hx;rw[←(nr z x e).1];have:=Ty.bo hz;omega
     ·rw[lp,List.length_map];have:=Ty.fy y;omega
theorem VV {cs:List dY}{ins:List cL}{given:List Pd}{p:Pd}{Q:Pf.Pure}(h:mS cs ins given p=.ok Q) (hs:p.ty.size≤90000):FP Q:=by
 unfold mS at h
 split at h
 ·cases h
 ·split at h
  ·cases h
  ·rename_i q n hq
   injection h with h;subst h;exact CA cs ins given 5000 p.cls p.ty.pure _ n ⟨p.ty,rfl,hs⟩ hq
theorem rY {cs:List dY}{ins:List cL}{preds:List Pd}{p q:Pf}(h:p.pure=q.pure):(bw cs ins preds p).isSome=(bw cs ins preds q).isSome∧(bw cs ins preds p).map Pd.cls=(bw cs ins preds q).map Pd.cls:=by
 have h1:=Gl cs ins preds p q h;have h2:=Gl cs ins preds q p h.symm;cases ha:bw cs ins preds p with
 |none=>
  cases hb:bw cs ins preds q with
  |none=>exact⟨rfl,rfl⟩
  |some b=>
   obtain⟨y,hy,-⟩:=h2 b hb;rw[ha] at hy;cases hy
 |some a=>
  obtain⟨y,hy,e1,-⟩:=h1 a ha;rw[hy];exact⟨rfl,by rw[Option.map_some,Option.map_some,e1]⟩
theorem wP (cs:List dY) (ins:List cL) (preds:List Pd) (G:List Tm.Pure) (p:Pf):∀q:Pf,p.pure=q.pure→kR cs ins preds G p=kR cs ins preds G q:=by
 induction p using Pf.ind with
 |h p ih=>
 intro q h;obtain⟨h1,h2,h3,h4⟩:=xu h;have hl:=dV h4;have e1:p.kids.map (kR cs ins preds G)=q.kids.map (kR cs ins preds G):=jg _ _ hl (fun i k1 k2=>ih _ (aiF k1) _ (ez h4 k1 k2));have e2:(bw cs ins preds (p.kids.getD 0 Pf.zero)).map Pd.cls=(bw cs ins preds (q.kids.getD 0 Pf.zero)).map Pd.cls:=by
  by_cases hz:0<p.kids.length
  ·have hz':0<q.kids.length:=by omega
   have a1:p.kids.getD 0 Pf.zero=p.kids[0]'hz:=by simp[List.getD,hz]
   have a2:q.kids.getD 0 Pf.zero=q.kids[0]'hz':=by simp[List.getD,hz']
   rw[a1,a2];exact(rY (ez h4 hz hz')).2
  ·have z1:p.kids=[]:=List.length_eq_zero_iff.1 (by omega);have z2:q.kids=[]:=List.length_eq_zero_iff.1 (by omega);rw[z1,z2]
 rw[ml,ml,e1,h3];unfold NY;dsimp only;rw[e2,h1,h2]
section
variable {cs : List dY}{ins:List cL}{preds:List Pd}{given:List Tm}{q:Pd}
theorem Nl {t t':Tm.Pure}(h:lZ cs ins preds given q t) (h':lZ cs ins preds given q t'):t=t':=by
 obtain⟨p,u,b1,-,-,b4,-,rfl⟩:=h;obtain⟨p',u',c1,-,-,c4,-,rfl⟩:=h';rw[b1] at c1;injection c1 with e;rw[b4,c4];exact wP cs ins preds _ p p' e
open Classical in
theorem Bd {w w':World}{p:Pf}{t:Tm}{m:Nat}(h:tz w w' cs ins preds given p t m):m=if preds.length≠given.length∨bw cs ins preds p=none then 1 else if ∃u:Tm,u.pure=kR cs ins preds (given.map Tm.pure) p∧cx u=true then 0 else 2:=by
 rcases h.o with ⟨h1,-,h2⟩|⟨h1,h2,u,hu,h3⟩
 ·rw[if_pos (h2.imp id (fun h=>h.2))];exact h1
 ·have hn:¬(preds.length≠given.length∨bw cs ins preds p=none):=by
   rintro (h|h)
   ·exact h h1
   ·rw[h] at h2;cases h2
  rw[if_neg hn]
  rcases h3 with ⟨h3,-,h4⟩|⟨h3,-,h4⟩
  ·rw[if_pos ⟨u,hu,h4⟩];exact h3
  ·rw[if_neg]
   ·exact h3
   ·rintro⟨y,hy,h5⟩;rw[yS (hy.trans hu.symm),h4] at h5;cases h5
theorem Nn {w w' x x':World}{p p':Pf}{t t':Tm}{m m':Nat}(e:p.pure=p'.pure) (h:tz w w' cs ins preds given p t m) (h':tz x x' cs ins preds given p' t' m'):m=m':=by
 have h1:=(rY (cs:=cs) (ins:=ins) (preds:=preds) e).1;have h2:bw cs ins preds p=none↔bw cs ins preds p'=none:=by
  cases a:bw cs ins preds p<;>cases b:bw cs ins preds p'<;>simp_all
 have hB:(∃u:Tm,u.pure=kR cs ins preds (given.map Tm.pure) p∧cx u=true)↔∃u:Tm,u.pure=kR cs ins preds (given.map Tm.pure) p'∧cx u=true:=by
  rw[wP cs ins preds (given.map Tm.pure) p p' e]
 have e1:=Bd h;have e2:=Bd h'
 by_cases a:preds.length≠given.length∨bw cs ins preds p=none
 ·have a':preds.length≠given.length∨bw cs ins preds p'=none:=a.imp id h2.1;rw[if_pos a] at e1;rw[if_pos a'] at e2;omega
 ·have a':¬(preds.length≠given.length∨bw cs ins preds p'=none):=fun k=>a (k.imp id h2.2)
  rw[if_neg a] at e1;rw[if_neg a'] at e2
  by_cases b:∃u:Tm,u.pure=kR cs ins preds (given.map Tm.pure) p∧cx u=true
  ·rw[if_pos b] at e1;rw[if_pos (hB.1 b)] at e2;omega
  ·rw[if_neg b] at e1;rw[if_neg (fun k=>b (hB.2 k))] at e2;omega
theorem Np {n n':Int}(h:iV cs ins preds given q n) (h':iV cs ins preds given q n'):n=n':=by
 rcases h with h|⟨p,t,m,w,w',b1,b2,-,rfl⟩
 ·rcases h' with h' |⟨p,t,m,w,w',b1,-⟩
  ·rw[h] at h';injection h'
  ·rw[h] at b1;cases b1
 ·rcases h' with h' |⟨p',t',m',x,x',c1,c2,-,rfl⟩
  ·rw[h'] at b1;cases b1
  ·rw[b1] at c1;injection c1 with e;rw[Nn e b2 c2]
theorem wQ {n:Int}{t:Tm.Pure}(h:lZ cs ins preds given q t) (h':iV cs ins preds given q n):False:=by
 obtain⟨p,u,b1,b2,b3,b4,b5,-⟩:=h
 rcases h' with h' |⟨p',t',m',x,x',c1,c2,c3,-⟩
 ·rw[h'] at b1;cases b1
 ·rw[b1] at c1;injection c1 with e;have k:=Bd c2;have h1:=(rY (cs:=cs) (ins:=ins) (preds:=preds) e).1;rw[if_neg,if_pos] at k
  ·exact c3 k
  ·exact⟨u,by rw[b4];exact wP cs ins preds _ p p' e,b5⟩
  ·rintro (h|h)
   ·exact h b2
   ·rw[h,b3] at h1;cases h1
structure VW (w w':World) (v v':Value):Prop where
 eq:∃A c ts A' c' py,∃(k:Nat) (n:Int),v=.tuple #[.slice A (List.length ts) c,.int .i64 (k:Nat),.int .i64 n]∧v'=.tuple #[.slice A' (List.length py) c',.int .i64 (k:Nat),.int .i64 n] ∧
  ts.length≤c∧c≤9223372036854775807∧py.length≤c'∧c'≤9223372036854775807∧bm w A ts∧bm w' A' py∧ts.map Tm.pure=py.map Tm.pure
theorem JZ {w w':World}{l:List Pd}{v v':Value}(h:nW w cs ins preds given l v) (h':nW w' cs ins preds given l v'):VW w w' v v':=by
 rcases h with ⟨A,c,ts,rfl,a1,a2,a3,a4,a5⟩|⟨k,n,rfl,b1,hk,b2,b3⟩
 ·rcases h' with ⟨A',c',py,rfl,a1',a2',a3',a4',a5'⟩|⟨k,n,rfl,b1,hk,b2,b3⟩
  ·refine⟨A,c,ts,A',c',py,0,0,rfl,rfl,a1,a2,a1',a2',a3,a3',?_⟩;refine List.ext_getElem (by simp;omega) (fun i h1 h2 => ?_);rw[List.length_map] at h1 h2;rw[List.getElem_map,List.getElem_map];exact Nl (a5 i (by omega) h1) (a5' i (by omega) h2)
  ·exact(wQ (a5 k hk (by omega)) b3).elim
 ·rcases h' with ⟨A',c',py,rfl,a1',a2',a3',a4',a5'⟩|⟨k',n',rfl,b1',FB,b2',b3'⟩
  ·exact(wQ (a5' k hk (by omega)) b3).elim
  ·have wZ:k=k':=by
    rcases Nat.lt_trichotomy k k' with h|h|h
    ·obtain⟨t,ht⟩:=b2' k hk h;exact(wQ ht b3).elim
    ·exact h
    ·obtain⟨t,ht⟩:=b2 k' FB h;exact(wQ ht b3').elim
   subst wZ;have hn:=Np b3 b3';subst hn;exact⟨none,0,[],none,0,[],k,n,rfl,rfl,aiG _,by omega,aiG _,by omega,bm.nil _ _,bm.nil _ _,rfl⟩
end
set_option maxRecDepth 10000
set_option maxHeartbeats 8000000
theorem Fa (x:di) (given:List Pd) (hE:nV x given) (w:World) (he:dJ w x):Calls Tryz.prog 63 #[eu x] w fun e w'=>e=.returned (.bool (eo x.af x.insts))∧Ext w w':=by
 obtain⟨W,hW⟩:∃W,W=w.alloc (.cells #[.slice x.D x.aA.length x.dc,.slice x.C x.af.length x.cc,.slice x.I x.insts.length x.ic] 26):=⟨_,rfl⟩;have HW:=aa hW.symm;have X0:aiE (Ext w W):=aa (by rw[hW];exact(eR _).alloc _);have B1:aiE (aI W w.heap.size x):=aa (by rw[hW];exact aI.new w x);have HC:=aa (fun w' (e:Ext W w')=>aa (JB x.C x.cc (x.af.map dx) w' (jR (he.af.ext (X0.o.trans e))) (by simpa using hE.l9) (fun c hc=>by
  obtain⟨k,hk,rfl⟩:=List.mem_map.1 hc;exact hE.s9 k hk)))
 have HL:=aa (he.insts.ext X0.o);have Ts:=hE.il;rw[List.length_map] at HC;have HO:aiE (eo x.af x.insts=(AQ (x.af.map dx)&&x.insts.all bE)):=aa rfl;have HB:aiE (∀w',Ext W w'→w.heap.size<w'.heap.size∧w'.cell? ⟨w.heap.size,1,none⟩=some (.slice x.C x.af.length x.cc)∧w'.cell? ⟨w.heap.size,2,none⟩=some (.slice x.I x.insts.length x.ic)):=aa (fun w' e=>⟨(B1.o.ext e).lt,(B1.o.ext e).cells.2.1,(B1.o.ext e).cells.2.2⟩);clear hW he B1 hE;generalize eo x.af x.insts=R at *;generalize AQ (x.af.map dx)=RO at *;unfold eu;generalize x.I=I at *;generalize x.insts=l at *;go_enter Tryz.func63,Tryz.ntmps63;go_upto_region 1 with fail;rw[HW.o];clear HW;go_wp2
 go_loopw [3] (fun i wr=>∃k:Nat,k≤l.length∧i=.int .i64 k∧aiE ((l.take k).all bE=true)∧aiE (Ext W wr)) (fun i _=>l.length - (intOf i).toNat)
 case atStart=>exact⟨0,aiH _,rfl,aa (by simp),aa (eR _)⟩
 case round=>
  obtain⟨k,hk,rfl,HA,HX⟩:=hrel;obtain⟨m0,d1,d2⟩:=HB.o wr HX.o
  by_cases hlt:k<l.length
  ·have aN:(k:Int)<(l.length:Int):=by omega
   have cV:(0:Int)≤(k:Int):=by omega
   obtain⟨b,o,rfl,hb,q0,q1,q2,q3⟩:=(HL.o.ext HX.o).at_ hlt;have hm:=aiF hlt;have HK:=aa (fun w' (e:Ext wr w')=>aa (uv (l[k]'hlt) w' ((HL.o.all _ hm).ext (HX.o.trans e))));have dh:aiE (l.take (k+1)=l.take k++[l[k]'hlt]):=aa (aiJ hlt);have Hm:=aa hm;clear hm;unfold xq at HK;generalize l[k]'hlt=y at *;cases hb:bE y
   ·rw[hb] at HK;have HN:aiE (R=false):=aa (by
     have hall:l.all bE=false:=by
      rw[←Bool.not_eq_true,aiY];intro h;have:=h y Hm.o;rw[hb] at this;cases this
     rw[HO.o,hall,Bool.and_false])
    simp only[Bool.false_eq_true,if_false] at HK;clear hb;go_wp2_with fail;refine(HK.o _ (eR _)).o.mono ?_;rintro e w3 ⟨rfl,hx⟩;go_wp2;go_ret;exact⟨by rw[HN.o];rfl,X0.o.trans (HX.o.trans hx)⟩
   ·rw[hb] at HK;have Hb:=aa hb;simp only[if_true] at HK;clear hb;go_wp2_with fail;refine(HK.o _ (eR _)).o.mono ?_;rintro e w3 ⟨rfl,hx⟩;have X3:=aa (HX.o.trans hx);clear hx;go_wp2;go_roundw
    case rel=>exact⟨k+1,hlt,by go_num,aa (by rw[dh.o,List.all_append,HA.o];simpa using Hb.o),X3⟩
    case measure=>simp[intOf];omega
  ·have bS:¬(k:Int)<(l.length:Int):=by omega
   have HN:aiE (R=RO):=aa (by
    have:=HA.o;rw[aiK (by omega)] at this;rw[HO.o,this,Bool.and_true])
   go_wp2_with fail;refine(HC.o _ HX.o).o.mono ?_;rintro e w3 ⟨rfl,hx⟩;have X3:=aa (HX.o.trans hx);clear hx;go_wp2;go_ret;exact⟨by rw[HN.o];rfl,X0.o.trans X3.o⟩
def wR (N:Nat) (types:List Ty) (ds:List Pd):Prop:=∀d∈ds,∀c,c<N→(∀t∈types,aC c t=true)→aC c d.ty=true
theorem Fb (x:cL) (T:Option Addr) (tc:Nat) (types:List Ty) (w:World) (hx:pG w x) (hi:bE x=true) (hT:bH w T types) (hn:x.n=types.length) (ht:∀t∈types,ax t=true∧t.size≤900000) (hpl:x.preds.length≤40000) :
  Calls Tryz.prog 130 #[xq x,.slice T types.length tc] w fun e w'=>(∃A cap ds,e=.returned (.slice A ds.length cap)∧bg w' A ds∧my types x.preds ds∧wR w.heap.size types ds)∧Ext w w':=by
 have Ud:types.length≤100:=by
  unfold bE fA at hi;simp only[aiT,decide_eq_true_eq] at hi;have:=hi.1.2;omega
 have qX:∀p∈x.preds,bj x.n p=true:=by
  unfold bE at hi;rw[aiT,aiY] at hi;exact hi.2
 have Hh:=aa qX;obtain⟨W,hW⟩:∃W,W=w.alloc (.cells #[encStr x.cls,encStr x.aq,.int .i64 x.n,.slice x.A x.preds.length x.cap] 70):=⟨_,rfl⟩;have HW:=aa hW.symm;have X0:aiE (Ext w W):=aa (by rw[hW];exact(eR _).alloc _);have B1:aiE (eV W w.heap.size x):=aa (by rw[hW];exact eV.new w x);have HT:=aa hT;have Ht:=aa ht;have HP:=aa hx.row;have Hn:=aa hn;clear hW hx hi hT ht qX hn;unfold xq;go_enter Tryz.func130,Tryz.ntmps130;go_upto_region 1 with fail;rw[HW.o];clear HW;go_wp2
 go_loopw [5,6] (fun v i wr=>∃(k:Nat) (s:List Pr) (A:Option Addr) (cap:Nat),k≤types.length∧i=.int .i64 k∧v=.slice A s.length cap∧s.length≤cap∧cap≤9223372036854775807∧aiE (Ext W wr)∧aiE (ft wr A s)∧aiE (iU types k s)∧aiE (∀p∈s,p.ty∈types)) (fun _ i _=>types.length - (intOf i).toNat)
 case atStart=>exact⟨0,[],none,0,aiH _,rfl,rfl,aiG _,by omega,aa (eR _),aa ⟨ak.nil _ _ _,by simp⟩,aa (iU.zero _),aa (by simp)⟩
 case round=>
  obtain⟨k,s,A,cap,hk,rfl,rfl,h1,h2,HX,HS,HN,HM⟩:=hrel;have XR:=aa (X0.o.trans HX.o)
  by_cases hlt:k<types.length
  ·have aN:(k:Int)<(types.length:Int):=by omega
   have cV:(0:Int)≤(k:Int):=by omega
   obtain⟨b,o,rfl,hb,q0,q1,q2⟩:=(HT.o.ext XR.o).at_ hlt;have sg:=Ht.o _ (aiF hlt);have HC:=aa (BW A cap s (k:Int) (types[k]'hlt) wr HS.o h1 h2 HN.o.iT ((HT.o.args _ (aiF hlt)).ext XR.o) sg.2 sg.1 (by have:=HN.o.len;omega) HN.o.Ii);have DZ:=aa (aiF hlt);have Si:=aa (fun i (hl:vA s (k:Int) i)=>HN.o.step hlt hl);generalize types[k]'hlt=t at *;unfold bl at HC;go_wp2_with fail;refine HC.o.mono ?_;rintro e w5 ⟨⟨i,A5,c5,rfl,Pc,sx,h3,h4⟩,hx⟩;have X5:=aa (HX.o.trans hx);have Sj:=aa sx;have Zo:=aa (Si.o i Pc);clear Pc sx hx HC q0 q1 q2 sg;go_wp2;go_roundw
   case rel=>exact⟨k+1,_,A5,c5,hlt,by go_num,rfl,h3,h4,X5,Sj,Zo,aa (fun p hp=>by
    rcases gh.1 hp with rfl|h
    ·exact DZ.o
    ·exact HM.o p h)⟩
   case measure=>simp[intOf];omega
  ·have bS:¬(k:Int)<(types.length:Int):=by omega
   obtain⟨d0,d1,d2,d3⟩:=(B1.o.ext HX.o).cells;have ld:=(B1.o.ext HX.o).lt;have FI:aiE (iU types types.length s):=aa (by have:=HN.o;rwa [show k=types.length by omega] at this);have xW:x.n≤(types.length:Int):=by have:=Hn.o;omega
   have HC:=aa (uu A cap s x.A x.cap x.preds wr HS.o (by omega) (FI.o.tW (fun t h=>(Ht.o t h).1)) (HP.o.ext XR.o) hpl (FI.o.Mk xW (fun t h=>(Ht.o t h).1) Hh.o));go_wp2_with fail;refine HC.o.mono ?_;rintro e w5 ⟨⟨v,ds,rfl,hown,mQ⟩,hx⟩;obtain⟨A9,c9,rfl,-,-,hrow,-⟩:=ak.own j8 hown;have KZ:=aa (FI.o.BX xW Hh.o mQ.is);have HAW:aiE (wR w.heap.size types ds):=aa (fun d hd c hc jr=>mQ.away d hd c (Nat.lt_of_lt_of_le hc XR.o.size) (fun y hy=>by
    obtain⟨v,A,c',e,-⟩:=fj (Hh.o y hy);rw[e];exact dG (fun h=>absurd rfl h) (by simp)) (fun t ht=>by
    obtain⟨p,hp,rfl⟩:=List.mem_map.1 ht;exact jr _ (HM.o p hp)))
   have HR:aiE (bg w5 A9 ds):=aa ⟨hrow,fun d hd=>⟨by
    obtain⟨i,hi,rfl⟩:=List.mem_iff_getElem.1 hd;have h2:i<x.preds.length:=by rw[←KZ.o.1];exact hi
    rw[(KZ.o.2 i hi h2).1];exact(HP.o.all _ (aiF h2)).cls,mQ.ty d hd⟩⟩
   have X5:=aa (XR.o.trans hx);clear hown mQ hrow hx HC d0 d1 d2 d3 ld;go_wp2;go_ret;exact⟨⟨A9,c9,ds,rfl,HR.o,KZ.o,HAW.o⟩,X5.o⟩
theorem Fc (N:Nat) (x:cL) (T:Option Addr) (tc:Nat) (types:List Ty) (w:World) (hx:pG w x) (hi:bE x=true) (hT:bH w T types) (hn:x.n=types.length) (ht:∀t∈types,ax t=true∧t.size≤900000) (hpl:x.preds.length≤40000) (hN:N≤w.heap.size) :
  Calls Tryz.prog 130 #[xq x,.slice T types.length tc] w fun e w'=>(∃A cap ds,e=.returned (.slice A ds.length cap)∧bg w' A ds∧my types x.preds ds∧wR N types ds)∧Ext w w':=by
 refine Calls.mono (Fb x T tc types w hx hi hT hn ht hpl) ?_;rintro e y ⟨⟨A,c,ds,e1,h1,h2,h3⟩,hx⟩;exact⟨⟨A,c,ds,e1,h1,h2,fun d hd k hk=>h3 d hd k (Nat.lt_of_lt_of_le hk hN)⟩,hx⟩
theorem J0 (A:Option Addr) (cap:Nat) (l:List cL) (c t:aj) (w:World) (h:iJ w A l) (hl:l.length≤9223372036854775806) :
  Calls Tryz.prog 152 #[.slice A l.length cap,encStr c,encStr t] w fun e w'=>e=.returned (.tuple #[.int .i64 ((fJ l c t).getD 0:Nat),.bool (fJ l c t).isSome])∧Ext w w':=by
 have H:=aa h;have pC:=aa (fun k hk => @yD l c t k hk);have j7:=aa (@yE l c t);generalize fJ l c t=R at *;clear h;go_enter Tryz.func152,Tryz.ntmps152;go_wp2
 go_loopw [8] (fun i wr=>∃k:Nat,k≤l.length∧i=.int .i64 k∧aiE (∀j (h:j<l.length),j<k→ek c t (l[j]'h)=false)∧aiE (Ext w wr)) (fun i _=>l.length - (intOf i).toNat)
 case atStart=>exact⟨0,aiH _,rfl,aa (fun j _ hj=>absurd hj (by omega)),aa (eR _)⟩
 case round=>
  obtain⟨k,hk,rfl,HJ,HX⟩:=hrel
  by_cases hlt:k<l.length
  ·have aN:(k:Int)<(l.length:Int):=by omega
   have cV:(0:Int)≤(k:Int):=by omega
   obtain⟨b,o,rfl,hb,q0,q1,q2,q3⟩:=(H.o.ext HX.o).at_ hlt;have nG:=aa (fun h=>pC.o k hlt HJ.o h);have jU:aiE (ek c t (l[k]'hlt)=false→∀j (h:j<l.length),j<k+1→ek c t (l[j]'h)=false):=aa (fun h0 j hj hjk=>by
    by_cases e:j=k
    ·subst e;exact h0
    ·exact HJ.o j hj (by omega))
   generalize l[k]'hlt=x at *;cases e1:(x.cls == c)
   ·have f1:¬x.cls=c:=by simpa using e1
    have Ih:=aa (jU.o (by unfold ek;rw[e1];rfl));clear nG jU;go_wp2;go_roundw
    case rel=>exact⟨k+1,hlt,by go_num,Ih,HX⟩
    case measure=>simp[intOf];omega
   ·have f1:x.cls=c:=by simpa using e1
    cases e2:(x.aq == t)
    ·have f2:¬x.aq=t:=by simpa using e2
     have Ih:=aa (jU.o (by unfold ek;rw[e1,e2];rfl));clear nG jU f1;go_wp2;go_roundw
     case rel=>exact⟨k+1,hlt,by go_num,Ih,HX⟩
     case measure=>simp[intOf];omega
    ·have f2:x.aq=t:=by simpa using e2
     have hR:R=some k:=nG.o (by unfold ek;rw[e1,e2];rfl);clear nG jU pC j7 f1 f2;subst hR;go_wp2;go_ret2;exact⟨rfl,HX.o⟩
  ·have bS:¬(k:Int)<(l.length:Int):=by omega
   have hR:R=none:=j7.o (fun j hj=>HJ.o j hj (by omega));clear pC j7;subst hR;go_wp2;go_ret2;exact⟨rfl,HX.o⟩
theorem Be {types:List Ty}{preds ds:List Pd}(h:my types preds ds):ds.map (fun d=>(d.cls,d.ty.pure))=preds.map fun p=>(p.cls,(types.map Ty.pure).getD p.ty.var.toNat (.mk [] 0 [])):=by
 refine List.ext_getElem (by simp[h.1]) (fun i h1 h2 => ?_);simp only[List.length_map] at h1 h2;obtain⟨e1,hv,e2⟩:=h.2 i h1 h2;simp only[List.getElem_map,e1,e2];simp[hv]
structure J3 (N:Nat) (w':World) (ts:List Ty) (O:Option (Nat×List (aj×Ty.Pure))) (i:Int) (A:Option Addr) (c:Nat) (ds:List Pd):Prop where
 len:ds.length≤40000
 args:∀d∈ds,∃a∈ts,d.ty.pure=a.pure
 yes:∀k wants,O=some (k,wants)→i=(k:Int)∧ds.map (fun d=>(d.cls,d.ty.pure))=wants
 gZ:bg w' A ds
 away:wR N ts ds
theorem Re (I:Option Addr) (ic:Nat) (ins:List cL) (p:Pd) (w:World) (hI:iJ w I ins) (hp:dH w p) (gU:ax p.ty=true) (bT:∀x∈ins,bE x=true) (hlen:ins.length≤1000000) (hpl:∀x∈ins,x.preds.length≤40000) :
  Calls Tryz.prog 104 #[.slice I ins.length ic,fN p] w fun e w'=>(∃i A c ds,e=.returned (.tuple #[.int .i64 i,.slice A (List.length ds) c,.bool (wL ins p.cls p.ty.pure).isSome])∧J3 w.heap.size w' p.ty.args (wL ins p.cls p.ty.pure) i A c ds)∧Ext w w':=by
 obtain⟨W,hW⟩:∃W,W=w.alloc (.cells #[encStr p.cls,encStr p.ty.aq,.int .i64 p.ty.var,.slice p.ty.A p.ty.args.length p.ty.cap] 55):=⟨_,rfl⟩;have HW:=aa hW.symm;have X0:aiE (Ext w W):=aa (by rw[hW];exact(eR _).alloc _);have B2:aiE (aR W w.heap.size p):=aa (by rw[hW];exact aR.new w p);have HF:=aa (J0 I ic ins p.cls p.ty.aq W (hI.ext X0.o) (by omega));have HI:=aa (hI.ext X0.o);have HT:=aa (hp.ty.ext X0.o);have rT:aiE (∀w' i,J3 w.heap.size w' p.ty.args none i none 0 []):=aa (fun w' i=>⟨by simp,by simp,fun k wants h=>(by cases h),⟨ak.nil _ _ _,by simp⟩,fun d hd=>(by cases hd)⟩);clear hW hp hI;obtain⟨e0,e1,e2,e3⟩:=B2.o.cells;have n0:=B2.o.lt;have Hl:=aa gU;clear gU
 by_cases hc:p.ty.aq=[]
 ·have hb:wL ins p.cls p.ty.pure=none:=by
   cases hf:fJ ins p.cls p.ty.aq with
   |none=>exact nU hf
   |some i=>
    obtain⟨hi,-,-⟩:=wM hf;rw[rS hf hi,if_pos (.inl hc)]
  rw[hb];have hc2:(p.ty.aq == ([]:aj))=true:=by simpa using hc
  clear hc hb HF bT hpl;unfold fN;go_enter Tryz.func104,Tryz.ntmps104;go_upto_region 1 with fail;rw[HW.o];go_wp2;go_ret3;exact⟨⟨0,none,0,[],rfl,rT.o _ _⟩,X0.o⟩
 ·have hc2:(p.ty.aq == ([]:aj))=false:=by simpa using hc
  cases hf:fJ ins p.cls p.ty.aq with
  |none=>
   rw[nU hf];rw[hf] at HF;clear hf bT hpl hc;unfold fN;go_enter Tryz.func104,Tryz.ntmps104;go_upto_region 1 with fail;rw[HW.o];go_wp2_with fail;refine HF.o.mono ?_;rintro e w2 ⟨rfl,hx⟩;have X2:=aa hx;obtain⟨e0,e1,e2,e3⟩:=(B2.o.ext X2.o).cells;have n0:=(B2.o.ext X2.o).lt;clear hx HF;go_wp2
   go_quiet (fail)
   go_wp2;go_ret3;exact⟨⟨0,none,0,[],rfl,rT.o _ _⟩,X0.o.trans (X2.o.drewN _)⟩
  |some i=>
   obtain⟨hi,-,-⟩:=wM hf;rw[rS hf hi];rw[hf] at HF;have Hx:=aa (bT _ (aiF hi));have VC:=aa (hpl _ (aiF hi));have XJ:=aa (HI.o.all _ (aiF hi));obtain⟨b,o,rfl,hb,q0,q1,q2,q3⟩:=HI.o.at_ hi;have hi':(i:Int)<(ins.length:Int):=by omega
   have KP:(0:Int)≤(i:Int):=by omega
   have ky:aiE (∀w',Ext W w'→b<w'.heap.size∧w'.cell? ⟨b,o+i*4,none⟩=some (encStr (ins[i]'hi).cls)∧w'.cell? ⟨b,o+i*4+1,none⟩=some (encStr (ins[i]'hi).aq)∧w'.cell? ⟨b,o+i*4+2,none⟩=some (.int .i64 (ins[i]'hi).n)∧w'.cell? ⟨b,o+i*4+3,none⟩=some (.slice (ins[i]'hi).A (ins[i]'hi).preds.length (ins[i]'hi).cap)):=aa (fun w' e=>⟨Nat.lt_of_lt_of_le hb e.size,e.cell q0,e.cell q1,e.cell q2,e.cell q3⟩);clear hf bT hpl q0 q1 q2 q3 hb;generalize ins[i]'hi=x at *;unfold fN
   by_cases hn:x.n=(p.ty.args.length:Int)
   ·rw[if_neg (by rintro (h|h);exact hc h;exact h hn)];have HC:=aa (fun w' (e:Ext W w')=>aa (Fc w.heap.size x p.ty.A p.ty.cap p.ty.args w' (XJ.o.ext e) Hx.o (HT.o.all.ext e) hn (fun t ht=>⟨jm Hl.o ht,by have:=(aS (jm Hl.o ht)).1;omega⟩) VC.o (X0.o.trans e).size));have Cv:aiE (∀ds,my p.ty.args x.preds ds→ds.length≤40000∧∀d∈ds,∃a∈p.ty.args,d.ty.pure=a.pure):=aa (fun ds h=>⟨by rw[h.1];exact VC.o,fun d hd=>by
     obtain⟨j,hj,rfl⟩:=List.mem_iff_getElem.1 hd;obtain⟨-,hv,e⟩:=h.2 j hj (by rw[←h.1];exact hj);exact⟨_,aiF hv,e⟩⟩)
    have qE:aiE (∀w',Ext W w'→w.heap.size<w'.heap.size∧w'.cell? ⟨w.heap.size,0,none⟩=some (encStr p.cls)∧w'.cell? ⟨w.heap.size,1,none⟩=some (encStr p.ty.aq)∧w'.cell? ⟨w.heap.size,2,none⟩=some (.int .i64 p.ty.var)∧w'.cell? ⟨w.heap.size,3,none⟩=some (.slice p.ty.A p.ty.args.length p.ty.cap)):=aa (fun w' e=>⟨(B2.o.ext e).lt,(B2.o.ext e).cells⟩);have mO:(x.n != (p.ty.args.length:Int))=false:=by simp[hn]
    unfold xq at HC;clear hc hn HT Hl B2;go_enter Tryz.func104,Tryz.ntmps104;go_upto_region 1 with fail;rw[HW.o];go_wp2_with fail;refine HF.o.mono ?_;rintro e w2 ⟨rfl,hx⟩;have X2:=aa hx;clear e0 e1 e2 e3 n0;obtain⟨n0,e0,e1,e2,e3⟩:=qE.o _ X2.o;obtain⟨m0,d0,d1,d2,d3⟩:=ky.o _ X2.o;clear hx HF;go_upto_region 4 with fail
    go_quiet (fail)
    go_upto_region 6 with fail;refine bJ ?_;intro W3 hW3;have X3:aiE (Ext W W3):=aa (by rw[hW3];exact X2.o.drewN _);clear hW3 mO n0 e0 e1 e2 e3 m0 d0 d1 d2 d3;obtain⟨n0,e0,e1,e2,e3⟩:=qE.o _ X3.o;obtain⟨m0,d0,d1,d2,d3⟩:=ky.o _ X3.o
    go_region_held3 (fun w'=>w'.cell? ⟨b,o+i*4,none⟩=some (encStr x.cls)∧w'.cell? ⟨b,o+i*4+1,none⟩=some (encStr x.aq)∧w'.cell? ⟨b,o+i*4+2,none⟩=some (.int .i64 x.n)∧w'.cell? ⟨b,o+i*4+3,none⟩=some (.slice x.A x.preds.length x.cap)∧w'.cell? ⟨w.heap.size,3,none⟩=some (.slice p.ty.A p.ty.args.length p.ty.cap)) (first|with_reducible assumption|go_keep) (
     (
     go_at_call 130
     refine Calls.mono (HC.o _ (X3.o.trans (by repeat(first|exact eR _|exact eA (by assumption) _|refine eA ?_ _|refine eM ?_ _ _|refine eD ?_|refine eN ?_ _)))).o ?_;rintro e y ⟨⟨A9,c9,ds,rfl,mQ,Sk,XO⟩,hx⟩;have EA:aiE (Ext W3 y):=aa (by refine Ext.trans ?_ hx;exact(by repeat(first|exact eR _|exact eA (by assumption) _|refine eA ?_ _|refine eM ?_ _ _|refine eD ?_|refine eN ?_ _)));have kS:=aiI (EA.o.cell d0) (aiI (EA.o.cell d1) (aiI (EA.o.cell d2) (aiI (EA.o.cell d3) (EA.o.cell e3))))))
    have Lh:aiE (J3 w.heap.size y p.ty.args (some (i,x.preds.map fun q=>(q.cls,(p.ty.args.map Ty.pure).getD q.ty.var.toNat (.mk [] 0 [])))) (i:Int) A9 c9 ds):=aa ⟨(Cv.o ds Sk).1,(Cv.o ds Sk).2,fun k wants h=>(by injection h with h;injection h with h1 h2;subst h1 h2;exact⟨rfl,Be Sk⟩),mQ,XO⟩;go_wp2;go_ret3;exact⟨⟨_,A9,c9,ds,rfl,Lh.o.len,Lh.o.args,Lh.o.yes,Lh.o.gZ.ext (by repeat(first|exact eR _|exact eA (by assumption) _|refine eA ?_ _|refine eM ?_ _ _|refine eD ?_|refine eN ?_ _)),Lh.o.away⟩,X0.o.trans (X3.o.trans (EA.o.trans (by repeat(first|exact eR _|exact eA (by assumption) _|refine eA ?_ _|refine eM ?_ _ _|refine eD ?_|refine eN ?_ _))))⟩
   ·rw[if_pos (.inr hn)];have mO:(x.n != (p.ty.args.length:Int))=true:=by simp[hn]
    clear hc hn;go_enter Tryz.func104,Tryz.ntmps104;go_upto_region 1 with fail;rw[HW.o];go_wp2_with fail;refine HF.o.mono ?_;rintro e w2 ⟨rfl,hx⟩;have X2:=aa hx;obtain⟨e0,e1,e2,e3⟩:=(B2.o.ext X2.o).cells;have n0:=(B2.o.ext X2.o).lt;obtain⟨m0,d0,d1,d2,d3⟩:=ky.o _ X2.o;clear hx HF;go_wp2
    go_quiet (fail)
    go_wp2;go_ret3;exact⟨⟨0,none,0,[],rfl,rT.o _ _⟩,X0.o.trans (X2.o.drewN _)⟩
theorem Fe (x:di) (G:Option Addr) (gc:Nat) (given:List Pd) (p:Pd) (w:World) (he:dJ w x) (hg:bg w G given) (hp:dH w p) (jb:given.length≤1000000) (JM:x.af.length≤9) (KL:∀c∈x.af,c.cQ.length≤9) :
  Calls Tryz.prog 103 #[eu x,.slice G given.length gc,fN p] w fun e w'=>(∃u,e=.returned (.tuple #[bM u,.bool (jS x.af given p.cls p.ty.pure).isSome])∧OM w w' (jS x.af given p.cls p.ty.pure) u)∧Ext w w':=by
 obtain⟨W,hW⟩:∃W,W=((w.alloc (.cells #[.slice x.D x.aA.length x.dc,.slice x.C x.af.length x.cc,.slice x.I x.insts.length x.ic] 26)).alloc (.cells #[encStr p.cls,encStr p.ty.aq,.int .i64 p.ty.var,.slice p.ty.A p.ty.args.length p.ty.cap] 55)).alloc (.cells #[.int .i64 0,.int .i64 0,.slice none 0 0,.slice none 0 0] 34):=⟨_,rfl⟩;have HW:=aa hW.symm;have X0:aiE (Ext w W):=aa (by rw[hW];exact(((eR _).alloc _).alloc _).alloc _);have B1:aiE (aI W w.heap.size x):=aa (by rw[hW];exact(aI.new w x).ext (((eR _).alloc _).alloc _));have B2:aiE (aR W (w.heap.size+1) p):=aa (by rw[hW];exact aR.ext (ah _ _ _ (by simp)) ((eR _).alloc _));have B3:aiE (W.heap[w.heap.size+1+1]?=some (.cells #[.int .i64 0,.int .i64 0,.slice none 0 0,.slice none 0 0] 34)):=aa (by rw[hW];exact ah _ _ _ (by simp));have bR:aiE (W.heap.size=w.heap.size+3):=aa (by rw[hW];simp);have HG:=aa (hg.ext X0.o);have HT:=aa (hp.ty.ext X0.o);have HC:=aa (jR (he.af.ext X0.o));have H9:aiE ((x.af.map dx).length≤9∧∀c∈x.af.map dx,c.sup.length≤9):=aa ⟨by simpa using JM,fun c hc=>by
  obtain⟨k,hk,rfl⟩:=List.mem_map.1 hc;exact KL k hk⟩
 have HR:aiE (cS (lz x.af p.cls p.ty.pure) 0 (given.drop 0)=jS x.af given p.cls p.ty.pure):=aa (by rw[List.drop_zero];rfl);have jM:aiE (∀q:Pd,∀path,bU (x.af.map dx) q.cls p.cls=some path→path.length≤9):=aa (fun q path h=>by
  have:=uZ h;rw[List.length_map] at this;omega)
 clear hW he hg hp JM KL;unfold eu fN;generalize jS x.af given p.cls p.ty.pure=FN at *;go_enter Tryz.func103,Tryz.ntmps103;go_upto_region 1 with fail;rw[HW.o];clear HW;go_wp2
 go_loopw [8] (fun i wr=>∃k:Nat,k≤given.length∧i=.int .i64 k∧aiE (cS (lz x.af p.cls p.ty.pure) k (given.drop k)=FN)∧aiE (Ext W wr)) (fun i _=>given.length - (intOf i).toNat)
 case atStart=>exact⟨0,aiH _,rfl,HR,aa (eR _)⟩
 case round=>
  obtain⟨k,hk,rfl,HF,HX⟩:=hrel
  by_cases hlt:k<given.length
  ·have aN:(k:Int)<(given.length:Int):=by omega
   have cV:(0:Int)≤(k:Int):=by omega
   obtain⟨b,o,rfl,hb,q0,q1,q2,q3⟩:=HG.o.at_ hlt;have VA:=HG.o.all _ (aiF hlt);have wN:=aa (fun path (h:lz x.af p.cls p.ty.pure (given[k]'hlt)=some path)=>pw hlt h);have j7:=aa (fun(h:lz x.af p.cls p.ty.pure (given[k]'hlt)=none)=>(rQ hlt h).symm.trans HF.o);have Nb:=aa (jM.o (given[k]'hlt));have HE:aiE (lz x.af p.cls p.ty.pure (given[k]'hlt)=if bN (given[k]'hlt).ty p.ty=true then bU (x.af.map dx) (given[k]'hlt).cls p.cls else none):=aa rfl;have HS:=aa (fun w' (e:Ext W w')=>aa (qY (given[k]'hlt).ty p.ty w' (VA.ty.ext e) (HT.o.ext e)));have HP:=aa (fun w' (e:Ext W w')=>aa (JH x.C x.cc (x.af.map dx) (given[k]'hlt).cls p.cls w' (HC.o.ext e) H9.o.1 H9.o.2));generalize given[k]'hlt=q at *;generalize lz x.af p.cls p.ty.pure q=SC at *;have ei:aiE (∀w',Ext W w'→w'.cell? ⟨w.heap.size,1,none⟩=some (.slice x.C x.af.length x.cc)∧w'.cell? ⟨b,o+k*4,none⟩=some (encStr q.cls)∧w'.cell? ⟨w.heap.size+1,0,none⟩=some (encStr p.cls)∧w'.cell? ⟨b,o+k*4+1,none⟩=some (encStr q.ty.aq)∧w'.cell? ⟨b,o+k*4+2,none⟩=some (.int .i64 q.ty.var)∧w'.cell? ⟨b,o+k*4+3,none⟩=some (.slice q.ty.A q.ty.args.length q.ty.cap)∧w'.cell? ⟨w.heap.size+1,1,none⟩=some (encStr p.ty.aq)∧w'.cell? ⟨w.heap.size+1,2,none⟩=some (.int .i64 p.ty.var)∧w'.cell? ⟨w.heap.size+1,3,none⟩=some (.slice p.ty.A p.ty.args.length p.ty.cap)):=aa (fun w' e=>
    ⟨(B1.o.ext e).cells.2.1,e.cell q0,(B2.o.ext e).cells.1,e.cell q1,e.cell q2,e.cell q3,(B2.o.ext e).cells.2.1,(B2.o.ext e).cells.2.2.1,(B2.o.ext e).cells.2.2.2⟩)
   have Hbl:aiE (∀w',Ext W w'→b<w'.heap.size∧w.heap.size<w'.heap.size∧w.heap.size+1<w'.heap.size):=aa (fun w' e=>⟨Nat.lt_of_lt_of_le hb e.size,(B1.o.ext e).lt,(B2.o.ext e).lt⟩);unfold bl at HS;rw[List.length_map] at HP;clear VA q0 q1 q2 q3 hb;generalize bU (x.af.map dx) q.cls p.cls=PT at *;obtain⟨s0,s1,s2,s3,s4,s5,s6,s7,s8⟩:=ei.o wr HX.o;obtain⟨l0,l1,l2⟩:=Hbl.o wr HX.o;go_upto_region 4 with fail
   go_cut [9,10] (fun s9 PN wx=>∃(A':Option Addr) (cap':Nat),s9=.slice A' (bD PT).length cap'∧PN=.bool PT.isSome∧aiE ((bD PT).length≤cap'∧cap'≤9223372036854775807∧Ints wx A' (bD PT))∧aiE (Ext wr wx))
   case first=>
    go_region_held3 (fun w'=>w'.cell? ⟨w.heap.size,1,none⟩=some (.slice x.C x.af.length x.cc)∧w'.cell? ⟨b,o+k*4,none⟩=some (encStr q.cls)∧w'.cell? ⟨w.heap.size+1,0,none⟩=some (encStr p.cls)) (first|with_reducible assumption|go_keep) (
     (
     go_at_call 151
     refine Calls.mono (HP.o _ (HX.o.trans (by repeat(first|exact eR _|exact eA (by assumption) _|refine eA ?_ _|refine eM ?_ _ _|refine eD ?_|refine eN ?_ _)))).o ?_;rintro e y ⟨⟨A',cap',rfl,a1,a2,HI⟩,hx⟩;have EA:aiE (Ext wr y):=aa (by refine Ext.trans ?_ hx;exact(by repeat(first|exact eR _|exact eA (by assumption) _|refine eA ?_ _|refine eM ?_ _ _|refine eD ?_|refine eN ?_ _)));have Li:=ei.o y (HX.o.trans EA.o);have kS:=aiI Li.1 (aiI Li.2.1 Li.2.2.1)))
    all_goals (go_wp2_with fail;go_meet;exact⟨A',cap',rfl,rfl,aa ⟨a1,a2,HI⟩,EA⟩)
   case rest=>
    obtain⟨A',cap',rfl,rfl,HA,XE⟩:=hcut;have XX:=aa (HX.o.trans XE.o);clear s0 s1 s2 s3 s4 s5 s6 s7 s8 l0 l1 l2;obtain⟨s0,s1,s2,s3,s4,s5,s6,s7,s8⟩:=ei.o wc XX.o;obtain⟨l0,l1,l2⟩:=Hbl.o wc XX.o;cases PT with
    |none=>
     have hn:SC=none:=by rw[HE.o];split<;>rfl
     have QV:=aa (j7.o hn);clear wN j7 HE HP HS Nb HA;simp only[Option.isSome_none];go_wp2
     go_quiet (fail)
     go_wp2;go_roundw
     case rel=>exact⟨k+1,hlt,by go_num,QV,aa (XX.o.trans ((eR _).drewN _))⟩
     case measure=>simp[intOf];omega
    |some path=>
     simp only[Option.isSome_some];go_upto_region 5 with fail
     go_cut [44] (fun s44 wx=>s44=.bool (!bN q.ty p.ty)∧aiE (Ext wc wx))
     case first=>
      go_region_held3 (fun w'=>w'.cell? ⟨b,o+k*4+1,none⟩=some (encStr q.ty.aq)∧w'.cell? ⟨b,o+k*4+2,none⟩=some (.int .i64 q.ty.var)∧w'.cell? ⟨b,o+k*4+3,none⟩=some (.slice q.ty.A q.ty.args.length q.ty.cap)∧w'.cell? ⟨w.heap.size+1,1,none⟩=some (encStr p.ty.aq)∧w'.cell? ⟨w.heap.size+1,2,none⟩=some (.int .i64 p.ty.var)∧w'.cell? ⟨w.heap.size+1,3,none⟩=some (.slice p.ty.A p.ty.args.length p.ty.cap)) (first|with_reducible assumption|go_keep) (
       (
       go_at_call 31
       refine Calls.mono (HS.o _ (XX.o.trans (by repeat(first|exact eR _|exact eA (by assumption) _|refine eA ?_ _|refine eM ?_ _ _|refine eD ?_|refine eN ?_ _)))).o ?_;rintro e y ⟨rfl,hx⟩;have EA:aiE (Ext wc y):=aa (by refine Ext.trans ?_ hx;exact(by repeat(first|exact eR _|exact eA (by assumption) _|refine eA ?_ _|refine eM ?_ _ _|refine eD ?_|refine eN ?_ _)));have Li:=ei.o y (XX.o.trans EA.o);have kS:=aiI Li.2.2.2.1 (aiI Li.2.2.2.2.1 (aiI Li.2.2.2.2.2.1 (aiI Li.2.2.2.2.2.2.1 (aiI Li.2.2.2.2.2.2.2.1 Li.2.2.2.2.2.2.2.2))))))
      all_goals (go_wp2_with fail;go_meet;exact⟨rfl,EA⟩)
     case rest=>
      obtain⟨rfl,XD⟩:=hcut;rename World=>wd
      have XY:=aa (XX.o.trans XD.o);clear s0 s1 s2 s3 s4 s5 s6 s7 s8 l0 l1 l2;cases hs:bN q.ty p.ty
      ·have hn:SC=none:=by rw[HE.o,hs];rfl
       have QV:=aa (j7.o hn);clear wN j7 HE HP HS Nb HA XE XX XD;simp only[Bool.not_false];go_wp2;go_roundw
       case rel=>exact⟨k+1,hlt,by go_num,QV,XY⟩
       case measure=>simp[intOf];omega
      ·have AY:FN=some (k,path):=HF.o.symm.trans (wN.o path (by rw[HE.o,hs];rfl));have JM:=Nb.o path rfl;have HI:aiE (Ints wd A' (bD (some path))):=aa (HA.o.2.2.ext _ XD.o);have a1:=HA.o.1;have a2:=HA.o.2.1;clear wN j7 HE HP HS Nb HA HF HR XE XX XD ei Hbl;subst AY;have B5:aiE (wd.heap[w.heap.size+1+1]?=some (.cells #[.int .i64 0,.int .i64 0,.slice none 0 0,.slice none 0 0] 34)):=aa ((XY.o.heap (ae B3.o)).trans B3.o);have hF5:=XY.o.size;have xe:(bD (some path)).length=path.length:=by unfold bD;simp
       have pC:aiE (∀(j:Nat) (h:j<path.length),∃b o,A'=some ⟨b,o,none⟩∧b<wd.heap.size∧wd.cell? ⟨b,o+j,none⟩=some (.int .i64 ((path[j]'h:Nat):Int))):=aa (fun j h=>by
        obtain⟨b,o,e1,e2,e3⟩:=HI.o.at_ (i:=j) (by rw[xe];exact h);refine⟨b,o,e1,e2,e3.trans ?_⟩
        congr 2
        unfold bD;simp)
       rw[xe] at a1;rw[xe];clear xe HI;simp only[Bool.not_true];go_wp2
       go_loopw [12] (fun i wr=>∃(j:Nat) (y:Pf),j≤path.length∧i=.int .i64 j∧aiE (aO wr wd.heap.size y)∧aiE (sN W wr (cy k (path.take j)) y)∧aiE (aJ wd.heap.size y)∧aiE (Ext wd wr)) (fun i _=>path.length - (intOf i).toNat)
       case atStart=>exact⟨0,Ct k,aiH _,rfl,aa (ah _ _ _ rfl),aa (yK _ _ k),aa (rR _ _),aa ((eR _).alloc _)⟩
       case round=>
        obtain⟨j,y,hj,rfl,HB,vO,HA,HX⟩:=hrel;have hlw:=HB.o.lt
        by_cases dC:j<path.length
        ·have JA:(j:Int)<(path.length:Int):=by omega
         have qx:(0:Int)≤(j:Int):=by omega
         obtain⟨b6,o6,rfl,zk,p0⟩:=pC.o j dC;have p1:=HX.o.cell p0;have vC:b6<wr.heap.size:=by have:=HX.o.size;omega
         have dh:aiE (path.take (j+1)=path.take j++[path[j]'dC]):=aa (aiJ dC);generalize path[j]'dC=n at *;obtain⟨y0,y1,y2,y3⟩:=HB.o.cells;have eL:=HB.o.free 0;have eO:=HB.o.free 1;have eP:=HB.o.free 2;have eQ:=HB.o.free 3;clear p0;have gS:=aa (((ij HB.o (mJ n wr.heap.size y)).ext ((eR _).alloc (.cells #[.int .i64 y.kind,.int .i64 y.n,.slice y.T y.types.length y.tc,.slice y.A y.kids.length y.cap] 34))));have Ch:aiE (sN W ((cP wr wd.heap.size (mJ n wr.heap.size y)).alloc (.cells #[.int .i64 y.kind,.int .i64 y.n,.slice y.T y.types.length y.tc,.slice y.A y.kids.length y.cap] 34)) (cy k (path.take (j+1))) (mJ n wr.heap.size y)):=aa (by
          have hsz:(cP wr wd.heap.size (mJ n wr.heap.size y)).heap.size=wr.heap.size:=by simp[cP,World.setCell]
          rw[dh.o];exact Cu (vO.o.set HA.o _) (by rw[hsz];have:=HX.o.size;omega) hsz.symm ((eR _).alloc _) (ah _ _ _ hsz.symm))
         have MU:aiE (aJ wd.heap.size (mJ n wr.heap.size y)):=aa (.mk (fun h=>absurd rfl h) (by intro x hx;cases hx) (fun _ a e=>by injection e with e;subst e;show wr.heap.size≠wd.heap.size;omega) (iP HA.o));have lW:aiE (Ext wd ((cP wr wd.heap.size (mJ n wr.heap.size y)).alloc (.cells #[.int .i64 y.kind,.int .i64 y.n,.slice y.T y.types.length y.tc,.slice y.A y.kids.length y.cap] 34))):=aa ((aW HX.o (aiG _) _).alloc _);go_upto_region 10 with fail
         go_region
         go_wp2;go_roundw
         case rel=>exact⟨j+1,mJ n wr.heap.size y,dC,by go_num,aa (gS.o.ext (eR _).drew),aa (Ch.o.ext (eR _).drew),MU,aa (lW.o.drew)⟩
         case measure=>simp[intOf];omega
        ·have bS:¬(j:Int)<(path.length:Int):=by omega
         have B6:aiE (wr.heap[w.heap.size+1+1]?=some (.cells #[.int .i64 0,.int .i64 0,.slice none 0 0,.slice none 0 0] 34)):=aa ((HX.o.heap (ae B5.o)).trans B5.o);have IU:aiE (sN W wr (cy k path) y):=aa (by have:=vO.o;rwa [aiK (by omega)] at this);have HCw:aiE (sN w (cP wr (w.heap.size+1+1) y) (cy k path) y):=aa ((IU.o.set (IU.o.away _ (by have:=bR.o;omega)) y).old X0.o.size);obtain⟨y0,y1,y2,y3⟩:=HB.o.cells;obtain⟨z0,z1,z2,z3,gC,gD,gF,gH⟩:=dL B6.o;have hz:=ae B6.o;have XF:=aa (aW (X0.o.trans (XY.o.trans HX.o)) (by omega:w.heap.size≤w.heap.size+1+1) y);clear vO IU HA HX bS B5 hF5;go_wp2;refine bodyPost_ret (v:=.tuple #[bM y,.bool true]) ?_ rfl ⟨⟨y,rfl,⟨fun i VB h=>(by injection h with h;injection h with h1 h2;subst h1 h2;exact⟨HCw.o,JM⟩),fun h=>(by cases h)⟩⟩,XF.o⟩;simp[results,Tryz.f103,go_sem,z0,z1,z2,z3,bM]
  ·have bS:¬(k:Int)<(given.length:Int):=by omega
   have AY:FN=none:=by rw[←HF.o,px (by omega)]
   clear HF HR;subst AY;obtain⟨y0,y1,y2,y3,eL,eO,eP,eQ⟩:=dL ((HX.o.heap (ae B3.o)).trans B3.o);have hy:=ae ((HX.o.heap (ae B3.o)).trans B3.o);go_wp2;refine bodyPost_ret (v:=.tuple #[bM Pf.zero,.bool false]) ?_ rfl ⟨⟨Pf.zero,rfl,⟨fun i path h=>(by cases h),fun _=>rfl⟩⟩,?_⟩
   ·simp[results,Tryz.f103,go_sem,y0,y1,y2,y3,bM,Pf.zero,Pf.kind,Pf.n,Pf.T,Pf.tc,Pf.types,Pf.A,Pf.cap,Pf.kids]
   ·exact ar (X0.o.trans HX.o) (by omega) _ _ _ _
def XP (x:di) (G:Option Addr) (gc:Nat) (given:List Pd) (m:Nat):Prop:=
 ∀(p:Pd) (w:World),dJ w x→bg w G given→dH w p→ax p.ty=true→p.ty.size≤m →
  Calls Tryz.prog 64 #[eu x,.slice G given.length gc,fN p] w fun e w'=>(∃v,e=.returned v∧yM w w' p v (ve (cz x.af x.insts given m p.cls p.ty.pure)))∧Ext w w'
theorem Ff (x:di) (G:Option Addr) (gc:Nat) (given:List Pd) (hE:nV x given) (hB:tC x given→XP x G gc given 5000) (OT:∀q∈given,q.ty.size≤90000) (p:Pd) (H8:p.ty.size≤90000) (w:World) (he:dJ w x) (hg:bg w G given) (hp:dH w p) :
  Calls Tryz.prog 36 #[eu x,.slice G given.length gc,fN p] w fun e w'=>(∃v,e=.returned v∧yM w w' p v (mS x.af x.insts given p))∧Ext w w':=by
 obtain⟨W,hW⟩:∃W,W=((w.alloc (.cells #[.slice x.D x.aA.length x.dc,.slice x.C x.af.length x.cc,.slice x.I x.insts.length x.ic] 26)).alloc (.cells #[encStr p.cls,encStr p.ty.aq,.int .i64 p.ty.var,.slice p.ty.A p.ty.args.length p.ty.cap] 55)).alloc (.cells #[.int .i64 0,.int .i64 0,.slice none 0 0,.slice none 0 0] 34):=⟨_,rfl⟩;have HW:=aa hW.symm;have X0:aiE (Ext w W):=aa (by rw[hW];exact(((eR _).alloc _).alloc _).alloc _);have B1:aiE (aI W w.heap.size x):=aa (by rw[hW];exact(aI.new w x).ext (((eR _).alloc _).alloc _));have B2:aiE (aR W (w.heap.size+1) p):=aa (by rw[hW];exact aR.ext (ah _ _ _ (by simp)) ((eR _).alloc _));have B3:aiE (aO W (w.heap.size+1+1) Pf.zero):=aa (by rw[hW];exact ah _ _ _ (by simp));have bR:aiE (W.heap.size=w.heap.size+3):=aa (by rw[hW];simp);have VQ:=aa (tN p W (hp.ext X0.o) H8);have MX:=aa (fun w' (e:Ext W w')=>aa (Ls G gc given w' (hg.ext (X0.o.trans e)) hE.gl OT));have OH:=aa (fun w' (e:Ext W w')=>aa (Fa x given hE w' (he.ext (X0.o.trans e))));have Iw:=aa (fun(h:tC x given) (hl:ax p.ty=true) (hs:p.ty.size≤5000) w' (e:Ext W w')=>aa (hB h p w' (he.ext (X0.o.trans e)) (hg.ext (X0.o.trans e)) (hp.ext (X0.o.trans e)) hl hs));have VR:aiE (eo x.af x.insts=true→tC x given):=aa (fun h=>⟨hE.gl,hE.l9,hE.s9,by
  unfold eo at h;rw[aiT,aiY] at h;exact h.2,hE.il,hE.pl⟩)
 have BK:aiE (dI p=true→ax p.ty=true∧p.ty.size≤5000):=aa (fun h=>by
  unfold dI at h;rw[aiT] at h;exact⟨h.2,by have:=(aS h.2).1;omega⟩)
 have HR:aiE (mS x.af x.insts given p=if (dI p&&given.all dI&&eo x.af x.insts)=false then .error 1
  else ve (cz x.af x.insts given 5000 p.cls p.ty.pure)):=aa rfl
 have JO:=aa hp.ty;clear hW he hg hp hE hB OT H8;generalize mS x.af x.insts given p=R at *;generalize dI p=r1 at *;generalize given.all dI=r2 at *;generalize eo x.af x.insts=r3 at *;generalize cz x.af x.insts given 5000 p.cls p.ty.pure=S at *;obtain⟨c0,c1,c2,c3⟩:=B2.o.cells;have n2:=B2.o.lt;unfold eu fN at *;have hend:∀w3:World,Ext W w3→(r1&&r2&&r3)=false→R=.error 1:=fun _ _ h=>by rw[HR.o,if_pos h]
 have wO:=aa hend;clear hend;go_enter Tryz.func36,Tryz.ntmps36;go_upto_region 1 with fail;rw[HW.o];clear HW;go_wp2_with fail;refine VQ.o.mono ?_;rintro e w2 ⟨rfl,hx⟩;have X2:=aa hx;clear hx VQ c0 c1 c2 c3 n2;cases r1
 ·have hR:=wO.o w2 X2.o rfl;subst hR;have Z:=aa (B3.o.ext X2.o);obtain⟨z0,z1,z2,z3⟩:=Z.o.cells;have gC:=Z.o.free 0;have gD:=Z.o.free 1;have gF:=Z.o.free 2;have gH:=Z.o.free 3;have hz:=Z.o.lt;have XF:=aa (aW (X0.o.trans X2.o) (by omega:w.heap.size≤w.heap.size+1+1) Pf.zero);go_wp2;refine bodyPost_ret (v:=.tuple #[bM Pf.zero,.int .i64 1]) ?_ rfl ⟨⟨_,rfl,rfl,by decide⟩,XF.o⟩;simp[results,Tryz.f36,go_sem,z0,z1,z2,z3,bM];exact⟨rfl,rfl,⟨rfl,rfl,rfl⟩,rfl,rfl,rfl⟩
 ·go_wp2_with fail;refine(MX.o _ X2.o).o.mono ?_;rintro e w3 ⟨rfl,hx⟩;have X3:=aa (X2.o.trans hx);clear hx MX X2;cases r2
  ·have hR:=wO.o w3 X3.o rfl;subst hR;have Z:=aa (B3.o.ext X3.o);obtain⟨z0,z1,z2,z3⟩:=Z.o.cells;have gC:=Z.o.free 0;have gD:=Z.o.free 1;have gF:=Z.o.free 2;have gH:=Z.o.free 3;have hz:=Z.o.lt;have XF:=aa (aW (X0.o.trans X3.o) (by omega:w.heap.size≤w.heap.size+1+1) Pf.zero);go_wp2;refine bodyPost_ret (v:=.tuple #[bM Pf.zero,.int .i64 1]) ?_ rfl ⟨⟨_,rfl,rfl,by decide⟩,XF.o⟩;simp[results,Tryz.f36,go_sem,z0,z1,z2,z3,bM];exact⟨rfl,rfl,⟨rfl,rfl,rfl⟩,rfl,rfl,rfl⟩
  ·obtain⟨e0,e1,e2⟩:=(B1.o.ext X3.o).cells;have n1:=(B1.o.ext X3.o).lt;go_wp2_with fail;refine(OH.o _ X3.o).o.mono ?_;rintro e w4 ⟨rfl,hx⟩;have X4:=aa (X3.o.trans hx);clear hx OH X3 e0 e1 e2 n1;cases r3
   ·have hR:=wO.o w4 X4.o rfl;subst hR;have Z:=aa (B3.o.ext X4.o);obtain⟨z0,z1,z2,z3⟩:=Z.o.cells;have gC:=Z.o.free 0;have gD:=Z.o.free 1;have gF:=Z.o.free 2;have gH:=Z.o.free 3;have hz:=Z.o.lt;have XF:=aa (aW (X0.o.trans X4.o) (by omega:w.heap.size≤w.heap.size+1+1) Pf.zero);go_wp2;refine bodyPost_ret (v:=.tuple #[bM Pf.zero,.int .i64 1]) ?_ rfl ⟨⟨_,rfl,rfl,by decide⟩,XF.o⟩;simp[results,Tryz.f36,go_sem,z0,z1,z2,z3,bM];exact⟨rfl,rfl,⟨rfl,rfl,rfl⟩,rfl,rfl,rfl⟩
   ·obtain⟨hl,hs⟩:=BK.o (by simp);have HF:=aa (Iw.o (VR.o (by simp)) hl hs);have dU:aiE (R=ve S):=aa (by rw[HR.o,if_neg (by decide)]);clear Iw VR BK HR wO;obtain⟨e0,e1,e2⟩:=(B1.o.ext X4.o).cells;obtain⟨c0,c1,c2,c3⟩:=(B2.o.ext X4.o).cells;have n1:=(B1.o.ext X4.o).lt;have n2:=(B2.o.ext X4.o).lt;go_wp2_with fail;refine(HF.o _ X4.o).o.mono ?_;rintro e w5 ⟨⟨v,rfl,hout⟩,hx⟩;have X5:=aa (X4.o.trans hx);have Oe:=X4.o.size;clear hx HF e0 e1 e2 n1 c0 c1 c2 c3 n2;cases S with
    |error k=>
     obtain⟨hv,hk⟩:v=.tuple #[bM Pf.zero,.int .i64 k]∧k≠0:=hout;have hR:R=.error k:=dU.o;clear dU;subst hv hR;have Z:=aa (B3.o.ext X5.o);obtain⟨z0,z1,z2,z3⟩:=Z.o.cells;have gC:=Z.o.free 0;have gD:=Z.o.free 1;have gF:=Z.o.free 2;have gH:=Z.o.free 3;have hz:=Z.o.lt;have XF:=aa (aW (X0.o.trans X5.o) (by omega:w.heap.size≤w.heap.size+1+1) Pf.zero);unfold bM;go_wp2;refine bodyPost_ret (v:=.tuple #[bM Pf.zero,.int .i64 k]) ?_ rfl ⟨⟨_,rfl,rfl,hk⟩,XF.o⟩;simp[results,Tryz.f36,go_sem,z0,z1,z2,z3,bM]
    |ok r=>
     obtain⟨Q,n⟩:=r;obtain⟨u,hv,gI,gM,j9,sy⟩:=hout;have hR:R=.ok Q:=dU.o;clear dU;subst hv hR;have Z:=aa (B3.o.ext X5.o);obtain⟨z0,z1,z2,z3⟩:=Z.o.cells;have gC:=Z.o.free 0;have gD:=Z.o.free 1;have gF:=Z.o.free 2;have gH:=Z.o.free 3;have hz:=Z.o.lt;have XF:=aa (aW (X0.o.trans X5.o) (by omega:w.heap.size≤w.heap.size+1+1) u);have Dy:=sy (w.heap.size+1+1) (by have:=bR.o;omega) (aP JO.o (by omega));have HY:=aa (gI.grown (dy w5 (w.heap.size+1+1) u) (fun c e=>by injection e with e;subst e;exact Dy));have H5:aiE (∀c,c<w.heap.size→aC c p.ty=true→aJ c u):=aa (fun c hc ha=>sy c (by have:=bR.o;omega) ha);have H2:=aa gM;have H3:=aa j9;clear gI gM j9 sy Dy;unfold bM;go_wp2;refine bodyPost_ret (v:=.tuple #[bM u,.int .i64 0]) ?_ rfl ⟨⟨_,rfl,u,rfl,HY.o,H2.o,H3.o,H5.o⟩,XF.o⟩;simp[results,Tryz.f36,go_sem,z0,z1,z2,z3,bM]
set_option maxRecDepth 512
set_option maxHeartbeats 200000
def l5 (N:Nat) (w':World) (d:Pd) (kk:Int) (y:Pf):Except Int Pf.Pure→Prop
 | .ok Q=>kk=0∧bW w' y∧y.pure=Q∧y.size≤4096∧∀c,c<N→aC c d.ty=true→aJ c y
 | .error k=>kk=k∧k≠0
theorem yU {w w':World}{p:Pd}{v:Value}{S:Except Int Pf.Pure}(h:yM w w' p v S):∃(y:Pf) (kk:Int),v=.tuple #[bM y,.int .i64 kk]∧l5 w.heap.size w' p kk y S:=by
 cases S with
 |error k=>
  obtain⟨h1,h2⟩:v=.tuple #[bM Pf.zero,.int .i64 k]∧k≠0:=h;exact⟨Pf.zero,k,h1,rfl,h2⟩
 |ok Q=>
  obtain⟨u,h0,h1,h2,h3,h4⟩:=h;exact⟨u,0,h0,rfl,h1,h2,h3,h4⟩
theorem l5.ext {N:Nat}{w' w2:World}{d:Pd}{kk:Int}{y:Pf}{S:Except Int Pf.Pure}(h:l5 N w' d kk y S) (e:Ext w' w2):l5 N w2 d kk y S:=by
 cases S with
 |error k=>exact h
 |ok Q=>
  obtain⟨h1,h2,h3⟩:=h;exact⟨h1,h2.ext e,h3⟩
theorem l5.less {N M:Nat}{w':World}{d:Pd}{kk:Int}{y:Pf}{S:Except Int Pf.Pure}(h:l5 N w' d kk y S) (hm:M≤N):l5 M w' d kk y S:=by
 cases S with
 |error k=>exact h
 |ok Q=>
  obtain⟨h1,h2,h3,h4,h5⟩:=h;exact⟨h1,h2,h3,h4,fun c hc ha=>h5 c (Nat.lt_of_lt_of_le hc hm) ha⟩
structure tF (wr wx:World) (b:Nat) (d:Pd) (kk:Int) (y:Pf) (S:Except Int Pf.Pure):Prop where
 x:Ext wr wx
 box:aO wx b y
 new:wr.heap.size≤b
 res:l5 wr.heap.size wx d kk y S
theorem tF.behind {wr wc y2:World}{d:Pd}{kk:Int}{y:Pf}{S:Except Int Pf.Pure}(e:Ext wr wc) (e2:Ext wc y2) (h:l5 wc.heap.size y2 d kk y S):tF wr (y2.alloc (.cells #[.int .i64 y.kind,.int .i64 y.n,.slice y.T y.types.length y.tc,.slice y.A y.kids.length y.cap] 34)) y2.heap.size d kk y S:=
 ⟨(e.trans e2).alloc _,aO.new y2 y,(e.trans e2).size,(h.less e.size).ext ((eR _).alloc _)⟩
theorem tF.ahead {wr wc y2:World}{b:Nat}{d:Pd}{kk:Int}{y:Pf}{S:Except Int Pf.Pure}(e:Ext wr wc) (hb:wr.heap.size≤b) (hB:aO wc b Pf.zero) (e2:Ext wc y2) (hd:aH wr d.ty) (h:l5 wc.heap.size y2 d kk y S):tF wr (cP y2 b y) b d kk y S:=by
 refine⟨aW (e.trans e2) hb y,ij (hB.ext e2) y,hb,?_⟩;have h0:=h.less e.size;cases S with
 |error k=>exact h0
 |ok Q=>
  obtain⟨h1,h2,h3,h4,h5⟩:=h;exact⟨h1,h2.grown (dy y2 b y) (fun c e=>by injection e with e;subst e;exact h5 _ hB.lt (aP hd hb)),h3,h4,fun c hc ha=>h5 c (Nat.lt_of_lt_of_le hc e.size) ha⟩
set_option maxRecDepth 10000
set_option maxHeartbeats 8000000
theorem wS (x:di) (G:Option Addr) (gc:Nat) (given:List Pd) (hE:tC x given) (m:Nat) (ih:XP x G gc given m):XP x G gc given (m+1):=by
 intro p w he hg hp gU hsz;obtain⟨W,hW⟩:∃W,W=((w.alloc (.cells #[.slice x.D x.aA.length x.dc,.slice x.C x.af.length x.cc,.slice x.I x.insts.length x.ic] 26)).alloc (.cells #[encStr p.cls,encStr p.ty.aq,.int .i64 p.ty.var,.slice p.ty.A p.ty.args.length p.ty.cap] 55)).alloc (.cells #[.int .i64 0,.int .i64 0,.slice none 0 0,.slice none 0 0] 34):=⟨_,rfl⟩;have HW:=aa hW.symm;have X0:aiE (Ext w W):=aa (by rw[hW];exact(((eR _).alloc _).alloc _).alloc _);have B1:aiE (aI W w.heap.size x):=aa (by rw[hW];exact(aI.new w x).ext (((eR _).alloc _).alloc _));have B2:aiE (aR W (w.heap.size+1) p):=aa (by rw[hW];exact aR.ext (ah _ _ _ (by simp)) ((eR _).alloc _));have B3:aiE (W.heap[w.heap.size+1+1]?=some (.cells #[.int .i64 0,.int .i64 0,.slice none 0 0,.slice none 0 0] 34)):=aa (by rw[hW];exact ah _ _ _ (by simp));have bR:aiE (W.heap.size=w.heap.size+3):=aa (by rw[hW];simp);have HS:=aa (Fe x G gc given p W (he.ext X0.o) (hg.ext X0.o) (hp.ext X0.o) hE.gl hE.l9 hE.s9);have HY:=aa (fun w' (e:Ext W w')=>aa (Re x.I x.ic x.insts p w' (he.insts.ext (X0.o.trans e)) (hp.ext (X0.o.trans e)) gU hE.ok hE.il hE.pl));have BJ:=aa (fun q w' (e:Ext W w') hq hl hs=>aa (ih q w' (he.ext (X0.o.trans e)) (hg.ext (X0.o.trans e)) hq hl hs));have HT:=aa (hp.ty.ext X0.o);have oV:=aa gU;have Da:=aa hsz;have HR:aiE (cz x.af x.insts given (m+1) p.cls p.ty.pure=match jS x.af given p.cls p.ty.pure with
  |some (i,path)=>.ok (cy i path,path.length+1)
  |none=>match wL x.insts p.cls p.ty.pure with
   |none=>.error 16
   |some (i,wants)=>match bL (cz x.af x.insts given m) wants [] 1 with
    | .error e=>.error e
    | .ok (l,n)=>.ok (.mk 3 i p.ty.pure.args l,n)):=aa rfl
 have JO:=aa hp.ty;obtain⟨i0,hi,hz0,hz1,hz2⟩:=info_parts xR;clear hW he hg hp gU hsz ih hE;generalize cz x.af x.insts given (m+1) p.cls p.ty.pure=R at *;generalize jS x.af given p.cls p.ty.pure=O at *;generalize wL x.insts p.cls p.ty.pure=O2 at *;obtain⟨c0,c1,c2,c3⟩:=B2.o.cells;obtain⟨e0,e1,e2⟩:=B1.o.cells;have n1:=B1.o.lt;have n2:=B2.o.lt;unfold eu fN at *;go_enter Tryz.func64,Tryz.ntmps64;go_upto_region 1 with fail;rw[HW.o];clear HW;go_wp2_with fail;refine HS.o.mono ?_;rintro e w2 ⟨⟨u,rfl,hu⟩,hx2⟩;have X2:=aa hx2;have Hu:=aa hu;clear hx2 hu HS c0 c1 c2 c3 e0 e1 e2 n1 n2;go_upto_region 2 with fail;refine bJ ?_;intro W3 hW3;have E3:aiE (Ext w2 W3):=aa (by rw[hW3];exact(eR _).alloc _);have D1:aiE (aO W3 w2.heap.size u):=aa (by rw[hW3];exact aO.new w2 u);have X3:=aa (X2.o.trans E3.o);clear hW3;cases O with
 |some ip=>
  obtain⟨i,path⟩:=ip;obtain⟨LU,JM⟩:=Hu.o.yes i path rfl;have hR:R=.ok (cy i path,path.length+1):=HR.o;clear HR HY BJ;subst hR;have hsz:=mL i path.length path rfl u LU.is;have vO:=aa (LU.ext E3.o);have B4:aiE (W3.heap[w.heap.size+1+1]?=some (.cells #[.int .i64 0,.int .i64 0,.slice none 0 0,.slice none 0 0] 34)):=aa ((X3.o.heap (ae B3.o)).trans B3.o);have QX:aiE (u.size≤4096):=aa (by omega);obtain⟨d0,d1,d2,d3⟩:=D1.o.cells;have n4:=D1.o.lt;obtain⟨z0,z1,z2,z3,gC,gD,gF,gH⟩:=dL B4.o;have hz:=ae B4.o;have hne:w2.heap.size≠w.heap.size+1+1:=by have:=X2.o.size;have:=bR.o;omega
  have HF:=aa (vO.o.set (vO.o.away (w.heap.size+1+1) (by have:=bR.o;omega)) u);have XF:=aa (aW (X0.o.trans X3.o) (by omega:w.heap.size≤w.heap.size+1+1) u);have H5:aiE (∀c,c<w.heap.size→aC c p.ty=true→aJ c u):=aa (fun c hc _=>HF.o.away c (by have:=X0.o.size;omega));clear LU Hu hsz vO;go_wp2;refine bodyPost_ret (v:=.tuple #[bM u,.int .i64 0]) ?_ rfl ⟨⟨_,rfl,u,rfl,HF.o.gZ,HF.o.is,QX.o,H5.o⟩,XF.o⟩;simp[results,Tryz.f64,go_sem,z0,z1,z2,z3,bM]
 |none=>
  have Ox:=Hu.o.no rfl;clear Hu D1 Ox;obtain⟨c0,c1,c2,c3⟩:=(B2.o.ext X3.o).cells;obtain⟨e0,e1,e2⟩:=(B1.o.ext X3.o).cells;have n1:=(B1.o.ext X3.o).lt;have n2:=(B2.o.ext X3.o).lt;go_wp2_with fail;refine(HY.o _ X3.o).o.mono ?_;rintro e w4 ⟨⟨i,A,ca,ds,rfl,hby⟩,eJ⟩;have X4:=aa (X3.o.trans eJ);have VH:=eJ.size;have tD:=aa hby
  clear eJ hby HY c0 c1 c2 c3 e0 e1 e2 n1 n2;cases O2 with
  |none=>
   have hR:R=.error 16:=HR.o;clear HR;subst hR;have B4:aiE (w4.heap[w.heap.size+1+1]?=some (.cells #[.int .i64 0,.int .i64 0,.slice none 0 0,.slice none 0 0] 34)):=aa ((X4.o.heap (ae B3.o)).trans B3.o);obtain⟨z0,z1,z2,z3,gC,gD,gF,gH⟩:=dL B4.o;have hz:=ae B4.o;have XF:=aa (aW (X0.o.trans X4.o) (by omega:w.heap.size≤w.heap.size+1+1) Pf.zero);go_wp2;refine bodyPost_ret (v:=.tuple #[bM Pf.zero,.int .i64 16]) ?_ rfl ⟨⟨_,rfl,rfl,by decide⟩,XF.o⟩;simp[results,Tryz.f64,go_sem,z0,z1,z2,z3,bM];exact⟨rfl,rfl,⟨rfl,rfl,rfl⟩,rfl,rfl,rfl⟩
  |some iw=>
   obtain⟨k,wants⟩:=iw;obtain⟨Fy,mQ⟩:=tD.o.yes k wants rfl;subst Fy;have HD:=aa tD.o.gZ;have hdn:=tD.o.len;have Hda:=aa tD.o.args;have AZ:=aa tD.o.away;have QY:=aa mQ;have hw3:=X3.o.size;clear tD mQ;obtain⟨c0,c1,c2,c3⟩:=(B2.o.ext X4.o).cells;have n2:=(B2.o.ext X4.o).lt;obtain⟨KR,Ba⟩:∃KR,KR=bL (cz x.af x.insts given m) wants [] 1:=⟨_,rfl⟩;have EU:aiE (R=OO k p.ty.pure.args KR):=aa (by rw[Ba];exact HR.o);have HK0:aiE (bL (cz x.af x.insts given m) (wants.drop 0) ([].map Pf.pure) 1=KR):=aa (by rw[Ba,List.drop_zero];rfl);have Cv:aiE (wants.length=ds.length∧∀(j:Nat) (h1:j<wants.length) (h2:j<ds.length),wants[j]'h1=((ds[j]'h2).cls,(ds[j]'h2).ty.pure)):=aa ⟨by rw[←QY.o];simp,fun j h1 h2=>by
    have:=QY.o;subst this;simp⟩
   have Hd4:aiE (∀d∈ds,∀c,w4.heap.size≤c→aC c d.ty=true):=aa (fun d hd c hc=>aP (HD.o.all d hd).ty hc);have HDo:aiE (∀d∈ds,∀c,c<W3.heap.size→aC c p.ty=true→aC c d.ty=true):=aa (fun d hd c hc ha=>AZ.o d hd c hc (fun t ht=>fK ha ht));clear Ba HR QY AZ;go_wp2
   go_loopw [13] (fun i wr=>∃(j n:Nat) (us:List Pf) (v:Value),j≤ds.length∧i=.int .i64 j∧us.length≤j∧n≤4096∧aiE (yL w4 wr w4.heap.size 0 k p.ty us v)∧aiE ((us.map Pf.size).sum+1=n)∧aiE (bL (cz x.af x.insts given m) (wants.drop j) (us.map Pf.pure) n=KR)∧aiE (∀y∈us,∀c,c<W3.heap.size→aC c p.ty=true→aJ c y)) (fun i _=>ds.length - (intOf i).toNat)
   case atStart=>exact⟨0,1,[],.slice none 0 0,aiH _,rfl,aiG _,by omega,aa ⟨ah _ _ _ rfl,World.ownsRow_nil _ _ _ _,by simp,by simp,by simp,by simp,(eR _).alloc _⟩,aa rfl,HK0,aa (by simp)⟩
   case round=>
    obtain⟨j,n,us,v,hj,rfl,KU,hn,HK,xN,HG,XQ⟩:=hrel;have XR:=aa (X4.o.trans HK.o.ext);clear c0 c1 c2 c3 n2
    by_cases hlt:j<ds.length
    ·have aN:(j:Int)<(ds.length:Int):=by omega
     have qx:(0:Int)≤(j:Int):=by omega
     obtain⟨bq,oq,rfl,Cb,q0,q1,q2,q3⟩:=(HD.o.ext HK.o.ext).at_ hlt;have oM:=aiF hlt;have SD:=HD.o.all _ oM;have QZ:=Cv.o.2 j (by rw[Cv.o.1];exact hlt) hlt;have rW:=aa (fun(Q:Pf.Pure) (sz:Nat) (h:cz x.af x.insts given m (ds[j]'hlt).cls (ds[j]'hlt).ty.pure=.ok (Q,sz))=>(uY (f:=cz x.af x.insts given m) (l:=us.map Pf.pure) (n:=n) (by rw[Cv.o.1];exact hlt) (by rw[QZ];exact h)).symm.trans HG.o);have rX:=aa (fun(kk:Int) (h:cz x.af x.insts given m (ds[j]'hlt).cls (ds[j]'hlt).ty.pure=.error kk)=>(lY (f:=cz x.af x.insts given m) (l:=us.map Pf.pure) (n:=n) (by rw[Cv.o.1];exact hlt) (by rw[QZ];exact h)).symm.trans HG.o);obtain⟨a,Q1,hap⟩:=Hda.o _ oM;have Pb:ax (ds[j]'hlt).ty=true:=(fe hap).trans (jm oV.o Q1);have BH:(ds[j]'hlt).ty.size≤m:=by
      have h1:=(nr _ _ hap).1;have h2:=Ty.bo Q1;have h3:=Da.o;omega
     have HC:=aa (fun w' (e:Ext w4 w')=>(BJ.o (ds[j]'hlt) w' (X4.o.trans e) (SD.ext e) Pb BH).o);have WA:=aa (SD.ty.ext HK.o.ext);have P9:=aa (HDo.o _ oM);have Bb:=aa (Hd4.o _ oM);generalize ds[j]'hlt=d at *;have ei:=aa (fun w' (e:Ext wr w')=>aiI (B1.o.ext (XR.o.trans e)).cells.1 (aiI (B1.o.ext (XR.o.trans e)).cells.2.1 (aiI (B1.o.ext (XR.o.trans e)).cells.2.2 (aiI (e.cell q0) (aiI (e.cell q1) (aiI (e.cell q2) (e.cell q3)))))));have n1:=(B1.o.ext XR.o).lt;have k0:w.heap.size≠wr.heap.size:=by omega
     have k1:bq≠wr.heap.size:=by omega
     obtain⟨e0,e1,e2,-,-,-,-⟩:=ei.o wr (eR _);clear SD QZ hap Q1 Pb BH oM;go_upto_region 11 with fail
     go_cut [14,15] (fun Su s15 wx=>∃(QA:Nat) (kk:Int) (y:Pf),Su=.pointer (some ⟨QA,0,none⟩)∧s15=.int .i64 kk∧aiE (tF wr wx QA d kk y (ve (cz x.af x.insts given m d.cls d.ty.pure))))
     case first=>
      go_region_held3 (fun w'=>w'.cell? ⟨w.heap.size,0,none⟩=some (.slice x.D x.aA.length x.dc)∧w'.cell? ⟨w.heap.size,1,none⟩=some (.slice x.C x.af.length x.cc)∧w'.cell? ⟨w.heap.size,2,none⟩=some (.slice x.I x.insts.length x.ic)∧w'.cell? ⟨bq,oq+j*4,none⟩=some (encStr d.cls)∧w'.cell? ⟨bq,oq+j*4+1,none⟩=some (encStr d.ty.aq)∧w'.cell? ⟨bq,oq+j*4+2,none⟩=some (.int .i64 d.ty.var)∧w'.cell? ⟨bq,oq+j*4+3,none⟩=some (.slice d.ty.A d.ty.args.length d.ty.cap)) (first|with_reducible assumption|(obtain⟨g0,g1,g2,g3,g4,g5,g6⟩:=kS;with_reducible exact⟨aM k0 _ _ _ _ g0,aM k0 _ _ _ _ g1,aM k0 _ _ _ _ g2,aM k1 _ _ _ _ g3,aM k1 _ _ _ _ g4,aM k1 _ _ _ _ g5,aM k1 _ _ _ _ g6⟩)|go_keep) (
       (
       go_at_call 64
       refine Calls.mono (HC.o _ (HK.o.ext.trans (by repeat(first|exact eR _|exact eA (by assumption) _|refine eA ?_ _|refine eM ?_ _ _|refine eD ?_|refine eN ?_ _)))) ?_;rintro e y2 ⟨⟨v,rfl,hb⟩,hx⟩;obtain⟨y,kk,rfl,hres⟩:=yU hb;have EA:aiE (Ext wr y2):=aa (by refine Ext.trans ?_ hx;exact(by repeat(first|exact eR _|exact eA (by assumption) _|refine eA ?_ _|refine eM ?_ _ _|refine eD ?_|refine eN ?_ _)));have kS:=ei.o y2 EA.o
       first
        |(have hz0:=aa ((hx.heap (ae (bI wr _))).trans (bI wr _));have z0:=ag hz0.o 0;have z1:=ag hz0.o 1;have z2:=ag hz0.o 2;have z3:=ag hz0.o 3;have z4:=ai hz0.o 0;have z5:=ai hz0.o 1;have z6:=ai hz0.o 2;have z7:=ai hz0.o 3;simp only[aiN,aiO,aiP] at z0 z1 z2 z3)
        |skip
       unfold bM))
      all_goals (go_wp2_with fail;go_meet;first
       |exact⟨_,kk,y,rfl,rfl,aa (tF.behind ((eR wr).drew) hx hres)⟩
       |exact⟨_,kk,y,rfl,rfl,aa (tF.ahead (((eR wr).alloc _).drew) (aiG _) (bI wr _) hx WA.o hres)⟩)
     case rest=>
      obtain⟨QA,kk,y,rfl,rfl,HY⟩:=hcut;have XT:=aa (X0.o.trans (XR.o.trans HY.o.x));have hres:=HY.o.res;clear q0 q1 q2 q3 e0 e1 e2 HC ei Cb n1 k0 k1;cases hr:cz x.af x.insts given m d.cls d.ty.pure with
      |error k2=>
       rw[hr] at hres;obtain⟨sB,hk2⟩:kk=k2∧k2≠0:=hres;have hKe:=rX.o k2 hr;subst sB hKe;have hR:R=.error kk:=EU.o;clear EU rW rX hr;subst hR;have hkb:(kk != 0)=true:=by simpa using hk2
       have B4:aiE (wc.heap[w.heap.size+1+1]?=some (.cells #[.int .i64 0,.int .i64 0,.slice none 0 0,.slice none 0 0] 34)):=aa (((XR.o.trans HY.o.x).heap (ae B3.o)).trans B3.o);obtain⟨z0,z1,z2,z3,gC,gD,gF,gH⟩:=dL B4.o;have hz:=ae B4.o;have XF:=aa (aW XT.o (by omega:w.heap.size≤w.heap.size+1+1) Pf.zero);go_wp2;refine bodyPost_ret (v:=.tuple #[bM Pf.zero,.int .i64 kk]) ?_ rfl ⟨⟨_,rfl,rfl,hk2⟩,XF.o⟩;simp[results,Tryz.f64,go_sem,z0,z1,z2,z3,bM];exact⟨rfl,rfl,⟨rfl,rfl,rfl⟩,rfl,rfl,rfl⟩
      |ok r=>
       obtain⟨Q,sz⟩:=r;rw[hr] at hres;obtain⟨cV,gI,gM,Ae,sy⟩:kk=0∧bW wc y∧y.pure=Q∧y.size≤4096∧∀c,c<wr.heap.size→aC c d.ty=true→aJ c y:=hres;subst cV;have j9:y.size=sz:=vh _ _ _ _ _ _ _ _ hr y gM;have Oe:sz≤4096:=by omega
       have sS:=aa (rW.o Q sz hr);have hbr:=ae HK.o.box;have QW:aJ w4.heap.size y:=sy _ hbr (Bb _ (aiG _));obtain⟨A6,c6,hv,-,-,-,-⟩:=ak.own si (l:=us) HK.o.own;subst hv;have hwr:=HK.o.ext.size;have Um:=HY.o.x.size;have VJ:aiE (∀c,(Value.slice A6 us.length c6).ownBlock=some c→aJ c y):=aa (fun c hc=>by
        have:=HK.o.own.lt c hc;exact sy c (by omega) (Bb c (by omega)))
       have O6:=aa (aZ HK.o.own HY.o.x);have zk:=aa ((HY.o.x.heap hbr).trans HK.o.box);have Cw:=ag zk.o 3;have kf0:=ai zk.o 3;simp only[aiN,aiO,aiP] at Cw;have JP:w4.heap.size<wc.heap.size:=by omega
       have Iz:aiE (Ext wr (wc.alloc (.cells #[.int .i64 y.kind,.int .i64 y.n,.slice y.T y.types.length y.tc,.slice y.A y.kids.length y.cap] 34))):=aa (HY.o.x.alloc _);have VK:=aa (gI.ext ((eR wc).alloc (.cells #[.int .i64 y.kind,.int .i64 y.n,.slice y.T y.types.length y.tc,.slice y.A y.kids.length y.cap] 34)));have Nc:=aa (oL us y xN.o j9);have Hyp:=aa gM;have Sq:us.length≤40000:=by omega
       obtain⟨v0,v1,v2,v3⟩:=HY.o.box.cells;have vl:=HY.o.box.lt;have aaX:aiE (∀z∈us++[y],∀c,c<W3.heap.size→aC c p.ty=true→aJ c z):=aa (fun z hz c hc ha=>by
        rcases List.mem_append.1 hz with hz|hz
        ·exact XQ.o z hz c hc ha
        ·rw[aiV] at hz;subst hz;exact sy c (by omega) (P9 c hc ha))
       clear gI gM j9 Ae sy P9 Bb rX rW hr XQ;go_wp2_with (at_builtin;refine aD _ rfl _ _ 32 rfl (w4.heap.size+1) 34 i0 _ 4 64 Tryz.underlying32 hi hz0 hz1 hz2 rfl (by decide) (.slice A6 us.length c6) us.length (us.flatMap si.f) rfl (O6.o.alloc _) _ 1 1 [.int .i64 y.kind,.int .i64 y.n,.slice y.T y.types.length y.tc,.slice y.A y.kids.length y.cap] rfl ?c2 ?c3 ?c4 ?c5 ?c6 ?_)
       case c2=>exact Row.VF _ _ _ _ (ah _ _ _ (by simp))
       case c3=>first|exact⟨rfl,rfl,rfl,rfl⟩|(intro z hz;simp at hz;rcases hz with rfl|rfl|rfl|rfl<;>rfl)
       case c4=>unfold maxLen;omega
       case c5=>omega
       case c6=>simp;omega
       intro v4 w7 br hg4 eW;have lQ:=aa (HK.o.snoc (aiG _) Iz.o VK.o QW VJ.o (fun c hc=>absurd hc (Nat.not_lt_zero _)) (by rw[rU,aiL];exact br) hg4 (by
        rcases eW with e|e
        ·exact .inl e
        ·exact .inr (fun c hc=>by rw[e] at hc;injection hc with hc;simp at hc ⊢;omega)))
       have vC:aiE (w7.heap[w4.heap.size]?=some (.cells #[.int .i64 3,.int .i64 (k:Nat),.slice p.ty.A p.ty.args.length p.ty.cap,.slice A6 us.length c6] 34 (0,0))):=aa ((hg4.block _ (by simp;omega) (fun e=>by have:=(HK.o.own.lt _ e.symm).1;omega)).trans (((eR wc).alloc (.cells #[.int .i64 y.kind,.int .i64 y.n,.slice y.T y.types.length y.tc,.slice y.A y.kids.length y.cap] 34)).heap JP |>.trans zk.o));have XM:=ag vC.o 3;have kf7:=ai vC.o 3;simp only[aiN,aiO,aiP] at XM;have VL:=ae vC.o;clear br hg4 eW Cw kf0 zk O6 Iz VK QW VJ HK JP v0 v1 v2 v3 vl;have FC:aiE ((if n+sz>4096 then .error 2 else bL (cz x.af x.insts given m) (wants.drop (j+1)) ((us++[y]).map Pf.pure) (n+sz))=KR):=aa (by
        have:=sS.o;rw[←Hyp.o] at this;rw[aiX];exact this)
       have Q2:(us++[y]).length≤j+1:=by simp;omega
       clear sS HG xN Hyp HY;generalize us++[y]=Lg at *;obtain⟨A8,c8,rfl,l1,l2,hrow,-⟩:=ak.own si (l:=Lg) lQ.o.own;have ke:=HT.o.ext (X4.o.trans lQ.o.ext);have za:aiE (bW (w7.setCell ⟨w4.heap.size,3,none⟩ (.slice A8 Lg.length c8)) (.mk 3 (k:Int) p.ty.A p.ty.cap p.ty.args A8 c8 Lg)):=aa (.mk ⟨ke.le,ke.max,l1,l2,ke.all,hrow⟩ lQ.o.gZ);have Q4:(Pf.mk 3 (k:Int) p.ty.A p.ty.cap p.ty.args A8 c8 Lg).size=n+sz:=by rw[Pf.size_eq];exact Nc.o
       have Ch:=aa (Gp _ _ za.o (by rw[Q4];omega));rw[Q4] at Ch;unfold bM at Ch;have Cw:=ag lQ.o.box 0;have EY:=ag lQ.o.box 1;have EZ:=ag lQ.o.box 2;have OP:=ag lQ.o.box 3;simp only[aiN,aiO,aiP] at Cw EY EZ OP;have aaY:=ae lQ.o.box;clear za Q4 ke hrow vC;go_wp2_with fail;refine Ch.o.mono ?_;rintro e w9 ⟨rfl,MI⟩;have Mn:=aa (lQ.o.more MI);clear MI Ch Cw EY EZ OP aaY XM kf7 VL lQ
       by_cases hle:n+sz≤4096
       ·have Q3:¬(((n+sz:Nat):Int)>4096):=by omega
        have Vi:aiE (bL (cz x.af x.insts given m) (wants.drop (j+1)) (Lg.map Pf.pure) (n+sz)=KR):=aa (by
         rw[←FC.o,if_neg (by omega)])
        clear FC;go_wp2;go_roundw
        case rel=>exact⟨j+1,n+sz,Lg,_,hlt,by go_num,Q2,hle,Mn,Nc,Vi,aaX⟩
        case measure=>simp[intOf];omega
       ·have Q3:(((n+sz:Nat):Int)>4096):=by omega
        have Ba:KR=.error 2:=by rw[←FC.o,if_pos (by omega)]
        clear FC;subst Ba;have hR:R=.error 2:=EU.o;clear EU;subst hR;have X9:=aa (X4.o.trans Mn.o.ext);have B4:aiE (w9.heap[w.heap.size+1+1]?=some (.cells #[.int .i64 0,.int .i64 0,.slice none 0 0,.slice none 0 0] 34)):=aa ((X9.o.heap (ae B3.o)).trans B3.o);obtain⟨z0,z1,z2,z3,gC,gD,gF,gH⟩:=dL B4.o;have hz:=ae B4.o;have XF:=aa (aW (X0.o.trans X9.o) (by omega:w.heap.size≤w.heap.size+1+1) Pf.zero);go_wp2;refine bodyPost_ret (v:=.tuple #[bM Pf.zero,.int .i64 2]) ?_ rfl ⟨⟨_,rfl,rfl,by decide⟩,XF.o⟩;simp[results,Tryz.f64,go_sem,z0,z1,z2,z3,bM];exact⟨rfl,rfl,⟨rfl,rfl,rfl⟩,rfl,rfl,rfl⟩
    ·have bS:¬(j:Int)<(ds.length:Int):=by omega
     have Ba:KR=.ok (us.map Pf.pure,n):=by rw[←HG.o,yH (by rw[Cv.o.1];omega)]
     clear HG;subst Ba;have hR:R=.ok (.mk 3 (k:Int) p.ty.pure.args (us.map Pf.pure),n):=EU.o;clear EU;subst hR;obtain⟨A6,c6,rfl,l1,l2,hrow,Ql⟩:=ak.own si (l:=us) HK.o.own;have B6:aiE (wr.heap[w.heap.size+1+1]?=some (.cells #[.int .i64 0,.int .i64 0,.slice none 0 0,.slice none 0 0] 34)):=aa ((XR.o.heap (ae B3.o)).trans B3.o);obtain⟨U,hU⟩:∃U:Pf,U=.mk 3 (k:Int) p.ty.A p.ty.cap p.ty.args A6 c6 us:=⟨_,rfl⟩;have ke:=(HT.o.ext XR.o);have za:aiE (bW wr U):=aa (by
      rw[hU];exact .mk ⟨ke.le,ke.max,l1,l2,ke.all,hrow⟩ HK.o.gZ)
     have EW:aiE (∀c,c<W3.heap.size→aC c p.ty=true→aJ c U):=aa (fun c hc ha=>by
      rw[hU];refine .mk (fun hn a e=>og ha (by rintro h;exact hn (by show p.ty.args.length=0;rw[h];rfl)) e) (fun z hz=>fK ha hz) (fun hn a e => ?_) (fun z hz=>XQ.o z hz c hc ha);obtain⟨b,o,e2,-,-⟩:=hrow.2 (Nat.pos_of_ne_zero hn);have e:A6=some a:=e;rw[e2] at e;injection e with e;subst e;have:=(Ql b o e2).1;show b≠c;omega)
     have HA3:=aa (EW.o (w.heap.size+1+1) (by have:=bR.o;omega) (aP JO.o (by omega)));have HUp:aiE (U.pure=.mk 3 (k:Int) p.ty.pure.args (us.map Pf.pure)):=aa (by
      rw[hU,Pf.aG,lp];rfl)
     have Q4:aiE (U.size≤4096):=aa (by
      have h1:U.size=n:=by rw[hU,Pf.size_eq];exact xN.o
      omega)
     have JQ:=aa (za.o.grown (dy wr (w.heap.size+1+1) U) (fun c e=>by injection e with e;subst e;exact HA3.o));have XF:=aa (aW (X0.o.trans XR.o) (by omega:w.heap.size≤w.heap.size+1+1) U);have Cw:=ag HK.o.box 0;have EY:=ag HK.o.box 1;have EZ:=ag HK.o.box 2;have OP:=ag HK.o.box 3;simp only[aiN,aiO,aiP] at Cw EY EZ OP;obtain⟨z0,z1,z2,z3,gC,gD,gF,gH⟩:=dL B6.o;have hz:=ae B6.o;have hbr:=ae HK.o.box;have HAf:aiE (∀c,c<w.heap.size→aC c p.ty=true→aJ c U):=aa (fun c hc ha=>EW.o c (by have:=bR.o;omega) ha);have HVv:aiE (bM U=.agg #[.int .i64 3,.int .i64 (k:Nat),.slice p.ty.A p.ty.args.length p.ty.cap,.slice A6 us.length c6]):=aa (by rw[hU];rfl);have HX:aiE (cP wr (w.heap.size+1+1) U=(((wr.setCell ⟨w.heap.size+1+1,0,none⟩ (.int .i64 3)).setCell ⟨w.heap.size+1+1,1,none⟩ (.int .i64 (k:Nat))).setCell ⟨w.heap.size+1+1,2,none⟩ (.slice p.ty.A p.ty.args.length p.ty.cap)).setCell ⟨w.heap.size+1+1,3,none⟩ (.slice A6 us.length c6)):=aa (by rw[hU];rfl);rw[HX.o] at JQ XF;clear hU hrow Ql ke HK XQ EW za;go_wp2;refine bodyPost_ret (v:=.tuple #[bM U,.int .i64 0]) ?_ rfl ⟨⟨_,rfl,U,rfl,JQ.o,HUp.o,Q4.o,HAf.o⟩,XF.o⟩;rw[HVv.o];simp[results,Tryz.f64,go_sem,z0,z1,z2,z3]
theorem CB (x:di) (G:Option Addr) (gc:Nat) (given:List Pd) (hE:tC x given):∀m,XP x G gc given m
 |0=>fun p w _ _ _ _ hsz=>absurd hsz (by have:=Ty.size_pos p.ty;omega)
 |m+1=>wS x G gc given hE m (CB x G gc given hE m)
theorem Rf (x:di) (G:Option Addr) (gc:Nat) (given:List Pd) (hE:nV x given) (OT:∀q∈given,q.ty.size≤90000) (p:Pd) (H8:p.ty.size≤90000) (w:World) (he:dJ w x) (hg:bg w G given) (hp:dH w p) :
  Calls Tryz.prog 36 #[eu x,.slice G given.length gc,fN p] w fun e w'=>(∃v,e=.returned v∧yM w w' p v (mS x.af x.insts given p))∧Ext w w':=
 Ff x G gc given hE (fun h=>CB x G gc given h 5000) OT p H8 w he hg hp
theorem J4 (x:di) (P:Option Addr) (pc:Nat) (preds:List Pd) (L:Option Addr) (lc:Nat) (given:List Tm) (hpl:∀y∈x.insts,y.preds.length≤40000) (zh:∀d∈preds,d.ty.size≤900000) (p:Pf) (hsz:p.size≤1000000) (hwd:jX p=true) (hsm:fR p=true) (w:World) (he:dJ w x) (hP:bg w P preds) (hL:bm w L given) (hp:bW w p) (rH:pg x.af x.insts preds given p) :
  Calls Tryz.prog 9 #[eu x,.slice P preds.length pc,.slice L given.length lc,bM p] w fun e w'=>(∃t n,e=.returned (.tuple #[bz t,.int .i64 (n:Nat)])∧tz w w' x.af x.insts preds given p t n)∧Ext w w':=by
 obtain⟨W,hW⟩:∃W,W=((w.alloc (.cells #[.slice x.D x.aA.length x.dc,.slice x.C x.af.length x.cc,.slice x.I x.insts.length x.ic] 26)).alloc (.cells #[.int .i64 p.kind,.int .i64 p.n,.slice p.T p.types.length p.tc,.slice p.A p.kids.length p.cap] 34)).alloc (.cells #[.int .i64 0,.int .i64 0,.string ⟨#[]⟩,.slice none 0 0,.slice none 0 0,.slice none 0 0] 40):=⟨_,rfl⟩;have HW:=aa hW.symm;have X0:aiE (Ext w W):=aa (by rw[hW];exact(((eR _).alloc _).alloc _).alloc _);have B1:aiE (aI W w.heap.size x):=aa (by rw[hW];exact(aI.new w x).ext (((eR _).alloc _).alloc _));have B2:aiE (aO W (w.heap.size+1) p):=aa (by rw[hW];exact aO.ext (ah _ _ _ (by simp)) ((eR _).alloc _));have B3:aiE (W.heap[w.heap.size+1+1]?=some (.cells #[.int .i64 0,.int .i64 0,.string ⟨#[]⟩,.slice none 0 0,.slice none 0 0,.slice none 0 0] 40)):=aa (by rw[hW];exact ah _ _ _ (by simp));have bR:aiE (W.heap.size=w.heap.size+3):=aa (by rw[hW];simp);have FH:=aa (fun w' (e:Ext W w')=>aa (qZ x P pc preds p (bw x.af x.insts preds p) (uy x P pc preds hpl zh p hsz hwd) w' (he.ext (X0.o.trans e)) (hP.ext (X0.o.trans e)) (hp.ext (X0.o.trans e)) hsm));have HT:=aa (fun w' (e:Ext W w') (h:(bw x.af x.insts preds p).isSome=true) (hl:given.length=preds.length)=>aa (Eh x P pc preds L lc given hpl zh p hsz hwd hsm w' (he.ext (X0.o.trans e)) (hP.ext (X0.o.trans e)) (hL.ext (X0.o.trans e)) (hp.ext (X0.o.trans e)) h hl));have wy:=aa rH;have sR:aiE (∀c,w.heap.size≤c→(∀g∈given,az c g)∧aJ c p):=aa (fun c hc=>⟨fun g hg=>bA (hL.kids g hg) hc,dO hp hc⟩);have qE:=aa (fun w' (e:Ext W w')=>aiI ((B1.o.ext e).lt) ((B1.o.ext e).cells));have U1:=aa (fun w' (e:Ext W w')=>aiI ((B2.o.ext e).lt) ((B2.o.ext e).cells));unfold pg at wy;clear hW he hP hL hp rH B1 B2 hsz hwd hsm hpl zh;generalize hO:bw x.af x.insts preds p=O at *;generalize Qo:kR x.af x.insts preds (given.map Tm.pure) p=EV at *;have HO:=aa hO;have U2:=aa Qo;clear hO Qo;obtain⟨n1,e0,e1,e2⟩:=qE.o W (eR _);obtain⟨n2,c0,c1,c2,c3⟩:=U1.o W (eR _);unfold eu bM at *;have aaf:w.heap.size+1+1<W.heap.size:=by rw[bR.o];omega
 by_cases hlen:preds.length=given.length
 ·have hne:((preds.length:Int) != (given.length:Int))=false:=by simp[hlen]
  have jM:=aa hlen;clear hlen;go_enter Tryz.func9,Tryz.ntmps9;go_upto_region 1 with fail;rw[HW.o];clear HW;go_upto_region 3 with fail;clear hne;go_wp2_with fail;refine(FH.o _ (eR _)).o.mono ?_;rintro e w2 ⟨⟨b,m,rfl,Mh⟩,hx⟩;have X2:=aa hx;have MZ:=aa Mh;clear hx Mh FH n1 e0 e1 e2 n2 c0 c1 c2 c3;unfold fN;go_upto_region 4 with fail;refine bJ ?_;intro W4 uh;have X4:aiE (Ext W W4):=aa (by rw[uh];exact X2.o.alloc _);clear uh;cases O with
  |none=>
   obtain⟨rfl,-⟩:=MZ.o.no rfl;clear MZ HT wy;have B4:=aa ((X4.o.heap (ae B3.o)).trans B3.o);obtain⟨z0,z1,z2,z3,z4,z5,gC,gD,gF,gH,vV,vW⟩:=bB B4.o;have hz:=ae B4.o;have XF:=aa (bk (X0.o.trans X4.o) (by omega:w.heap.size≤w.heap.size+1+1) Tm.zero);go_wp2;refine bodyPost_ret (v:=.tuple #[bz Tm.zero,.int .i64 ((1:Nat):Int)]) ?_ rfl ⟨⟨Tm.zero,1,rfl,⟨aQ.zero _,fun c _ _ _=>fw c,.inl ⟨rfl,rfl,.inr ⟨jM.o,HO.o⟩⟩⟩⟩,XF.o⟩;simp[results,Tryz.f9,go_sem,z0,z1,z2,z3,z4,z5];exact⟨rfl,rfl,rfl,⟨rfl,rfl,rfl⟩,⟨rfl,rfl,rfl⟩,rfl,rfl,rfl⟩
  |some a=>
   have zq:=aa (fun w' (e:Ext W w')=>aa ((HT.o w' e rfl jM.o.symm).o));obtain⟨rfl,-⟩:=MZ.o.yes a rfl;clear MZ HT;obtain⟨n1,e0,e1,e2⟩:=qE.o W4 X4.o;obtain⟨n2,c0,c1,c2,c3⟩:=U1.o W4 X4.o;go_wp2_with fail;refine(zq.o W4 X4.o).o.mono ?_;rintro e w6 ⟨⟨t,rfl,ht⟩,hx⟩;have X6:=aa (X4.o.trans hx);have lH:=aa ht.gZ;have Me:=aa ht.is;have h9:=sR.o (w.heap.size+1+1) (by omega);have n9:=aa (ht.away (w.heap.size+1+1) (by have:=X4.o.size;omega) h9.1 h9.2);have x9:aiE (∀c,c<w.heap.size→(∀g∈given,az c g)→aJ c p→az c t):=aa (fun c hc h1 h2=>ht.away c (by have:=X4.o.size;omega) h1 h2);obtain⟨hf,hs⟩:=wy.o rfl jM.o t (by rw[Me.o]);have HL:=aa (fun w' (e:Ext w6 w')=>aa (Eo t w' (lH.o.ext e) hf hs));unfold bz at HL;clear ht hx hf hs wy zq h9 n1 e0 e1 e2 n2 c0 c1 c2 c3;generalize hR:cx t=R at *;have U7:=aa hR;clear hR;go_upto_region 7 with fail;refine bJ ?_;intro W7 zb;have E7:aiE (Ext w6 W7):=aa (by rw[zb];exact(eR _).alloc _);have D7:aiE (av W7 w6.heap.size t):=aa (by rw[zb];exact av.new w6 t);clear zb;obtain⟨d0,d1,d2,d3,d4,d5⟩:=D7.o.cells;have d6:=D7.o.lt;go_wp2_with fail;refine(HL.o W7 E7.o).o.mono ?_;rintro e w9 ⟨rfl,hx⟩;have E9:=aa (E7.o.trans hx);have D9:=aa (D7.o.ext hx);have X9:=aa (X6.o.trans E9.o);clear hx HL d0 d1 d2 d3 d4 d5 d6 E7 D7;cases R
   ·have B4:=aa ((X9.o.heap (ae B3.o)).trans B3.o);obtain⟨z0,z1,z2,z3,z4,z5,gC,gD,gF,gH,vV,vW⟩:=bB B4.o;have hz:=ae B4.o;have XF:=aa (bk (X0.o.trans X9.o) (by omega:w.heap.size≤w.heap.size+1+1) Tm.zero);go_wp2;refine bodyPost_ret (v:=.tuple #[bz Tm.zero,.int .i64 ((2:Nat):Int)]) ?_ rfl ⟨⟨Tm.zero,2,rfl,⟨aQ.zero _,fun c _ _ _=>fw c,.inr ⟨jM.o,by rw[HO.o];rfl,t,by rw[Me.o,U2.o],.inr ⟨rfl,rfl,U7.o⟩⟩⟩⟩,XF.o⟩;simp[results,Tryz.f9,go_sem,z0,z1,z2,z3,z4,z5];exact⟨rfl,rfl,rfl,⟨rfl,rfl,rfl⟩,⟨rfl,rfl,rfl⟩,rfl,rfl,rfl⟩
   ·obtain⟨d0,d1,d2,d3,d4,d5⟩:=D9.o.cells;have d6:=D9.o.lt;have B4:=aa ((X9.o.heap (ae B3.o)).trans B3.o);obtain⟨z0,z1,z2,z3,z4,z5,gC,gD,gF,gH,vV,vW⟩:=bB B4.o;have hz:=ae B4.o;have XF:=aa (bk (X0.o.trans X9.o) (by omega:w.heap.size≤w.heap.size+1+1) t);have HI:=aa ((lH.o.ext E9.o).grown (bh w9 (w.heap.size+1+1) t) (fun c e=>by injection e with e;subst e;exact n9.o));go_wp2;refine bodyPost_ret (v:=.tuple #[bz t,.int .i64 ((0:Nat):Int)]) ?_ rfl ⟨⟨t,0,rfl,⟨HI.o,x9.o,.inr ⟨jM.o,by rw[HO.o];rfl,t,by rw[Me.o,U2.o],.inl ⟨rfl,rfl,U7.o⟩⟩⟩⟩,XF.o⟩;simp[results,Tryz.f9,go_sem,z0,z1,z2,z3,z4,z5]
 ·have hne:((preds.length:Int) != (given.length:Int))=true:=by simp;omega
  go_enter Tryz.func9,Tryz.ntmps9;go_upto_region 1 with fail;rw[HW.o];clear HW;have B4:=aa (((eR W).heap (ae B3.o)).trans B3.o);obtain⟨z0,z1,z2,z3,z4,z5,gC,gD,gF,gH,vV,vW⟩:=bB B4.o;have hz:=ae B4.o;have XF:=aa (bk (X0.o.trans (eR W)) (by omega:w.heap.size≤w.heap.size+1+1) Tm.zero);go_wp2;refine bodyPost_ret (v:=.tuple #[bz Tm.zero,.int .i64 ((1:Nat):Int)]) ?_ rfl ⟨⟨Tm.zero,1,rfl,⟨aQ.zero _,fun c _ _ _=>fw c,.inl ⟨rfl,rfl,.inl hlen⟩⟩⟩,XF.o⟩;simp[results,Tryz.f9,go_sem,z0,z1,z2,z3,z4,z5];exact⟨rfl,rfl,rfl,⟨rfl,rfl,rfl⟩,⟨rfl,rfl,rfl⟩,rfl,rfl,rfl⟩
set_option maxRecDepth 512
set_option maxHeartbeats 200000
end Go.Proofs.YtigafbmabjglfaaGreatDoor
