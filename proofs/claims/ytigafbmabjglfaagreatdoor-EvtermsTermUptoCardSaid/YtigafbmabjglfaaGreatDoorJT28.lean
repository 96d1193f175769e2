import Derived.Test.YtigafbmabjglfaaGreatDoorJT27
import Derived.Recover
namespace Go.Proofs.YtigafbmabjglfaaGreatDoor
open Go.RowKit Go.Extern.Stop Go.Stop Go.Extern
theorem TM (k:Int) (w:World):(Instr.typeAssert (.iface 162 (.agg #[.int .i64 k])) 20 162 true).run Tryz.prog w=.ok (.tuple #[.agg #[.int .i64 k],.bool true]) w:=by kernel_rfl
theorem Ph (w:World):(Instr.typeAssert .nilIface 20 162 true).run Tryz.prog w=.ok (.tuple #[.agg #[.int .i64 0],.bool false]) w:=by kernel_rfl
set_option maxRecDepth 10000
set_option maxHeartbeats 8000000
theorem G8 (b6 b7:Nat) (k:Int) (u:Pf) (n:Int) (w:World) (hne:b6≠b7) (h6:aO w b6 u) (h7:w.heap[b7]?=some (.cells #[.int .i64 n] 41 (0,0))) :
  CallsD Tryz.prog 97 #[.pointer (some ⟨b6,0,none⟩),.pointer (some ⟨b7,0,none⟩)] (.panicking ({ v:=.iface 162 (.agg #[.int .i64 k]),recovered:=false } :: [])) w fun e u' w'=>
   e=.returned (.tuple #[])∧u'=.panicking ({ v:=.iface 162 (.agg #[.int .i64 k]),recovered:=true } :: [])∧w'=(((ei w b6 Pf.zero).setCell ⟨b7,0,none⟩ (.int .i64 k)).alloc (.cells #[.int .i64 k] 162)).drew:=by
 refine callsD_of_wpS Tryz.func97 rfl fun TN cs hu => ?_
 apply wpS_seq
 apply wpS_region
 have Sg:=TM k;simp[wpOpsS,go_sem,recoverD,hu,Tryz.ntmps97,Exit.thenS,Sg,Array.replicate];refine wpS_of_wp ?_;have z0:=h6.c0;have z1:=h6.c1;have z2:=h6.c2;have z3:=h6.c3;have iE:=h6.free 0;have iF:=h6.free 1;have iG:=h6.free 2;have iH:=h6.free 3;have y0:=af h7 0;have yf:=ai h7 0;simp only[ahp,ahq] at y0;have Bq:b7≠b6:=fun e=>hne e.symm
 have l6:=h6.lt;have l7:=ae h7;go_wp2
 go_region
 refine⟨rfl,_,rfl,.tuple #[],?_,rfl,rfl,rfl⟩;simp[results,Tryz.f97]
theorem LG (b6 b7:Nat) (w:World) :
  CallsD Tryz.prog 97 #[.pointer (some ⟨b6,0,none⟩),.pointer (some ⟨b7,0,none⟩)] .returning w fun e u' w'=>
   e=.returned (.tuple #[])∧u'=.returning∧w'=w.alloc (.cells #[.int .i64 0] 162):=by
 refine callsD_of_wpS Tryz.func97 rfl fun TN cs hu => ?_
 apply wpS_seq
 apply wpS_region
 have Sg:=Ph;simp[wpOpsS,go_sem,recoverD,hu,Tryz.ntmps97,Exit.thenS,Sg,Array.replicate];refine wpS_of_wp ?_;go_wp2;refine⟨rfl,.returning,?_,.tuple #[],?_,rfl,rfl,rfl⟩
 ·cases TN;simp_all
 ·simp[results,Tryz.f97]
set_option maxRecDepth 512
set_option maxHeartbeats 200000
def TP (w w':World) (p:Pd) (v:Value):Except Int (Pf.Pure×Nat)→Prop
 | .ok (Q,n)=>∃u,v=.tuple #[cr u,.int .i64 0]∧bM w' u∧u.pure=Q∧u.size=n∧n≤4096∧∀c,c<w.heap.size→aF c p.ty=true→aL c u
 | .error k=>v=.tuple #[cr Pf.zero,.int .i64 k]
set_option maxRecDepth 10000
set_option maxHeartbeats 8000000
theorem LH (x:dz) (G:Option Addr) (gc:Nat) (given:List Pd) (hE:G4 x given) (m:Nat) (p:Pd) (w:World) (he:dX w x) (hg:bA w G given) (hp:eV w p) (j8:az p.ty=true) (hsz:p.ty.size≤m) :
  Calls Tryz.prog 60 #[eX x,.slice G given.length gc,jC p] w fun e w'=>(∃v,e=.returned v∧TP w w' p v (gh x.ag x.insts given m p.cls p.ty.pure))∧Ext w w':=by
 have hmf:∀(fn:Fn) (first cap:Array Value) (w:World),(Instr.makeFunc fn first cap).run Tryz.prog w=.ok (.func fn first cap) w:=fun _ _ _ _=>rfl
 obtain⟨W,hW⟩:∃W,W=(((w.alloc (.cells #[.slice x.D x.aA.length x.dc,.slice x.C x.ag.length x.cc,.slice x.I x.insts.length x.ic] 26)).alloc (.cells #[encStr p.cls,encStr p.ty.aq,.int .i64 p.ty.var,.slice p.ty.A p.ty.args.length p.ty.cap] 55)).alloc (.cells #[.int .i64 0,.int .i64 0,.slice none 0 0,.slice none 0 0] 34)).alloc (.cells #[.int .i64 0] 41):=⟨_,rfl⟩;have HW:=aa hW.symm;have X0:ahg (Ext w W):=aa (by rw[hW];exact((((eR _).alloc _).alloc _).alloc _).alloc _);have B1:ahg (aJ W w.heap.size x):=aa (by rw[hW];exact(aJ.new w x).ext ((((eR _).alloc _).alloc _).alloc _));have B2:ahg (aY W (w.heap.size+1) p):=aa (by rw[hW];exact aY.ext (ah _ _ _ (by simp)) (((eR _).alloc _).alloc _));have B3:ahg (aO W (w.heap.size+1+1) Pf.zero):=aa (by rw[hW];exact aO.ext (ah _ _ _ (by simp)) ((eR _).alloc _));have B4:ahg (W.heap[w.heap.size+1+1+1]?=some (.cells #[.int .i64 0] 41 (0,0))):=aa (by rw[hW];exact ah _ _ _ (by simp));have bS:ahg (W.heap.size=w.heap.size+4):=aa (by rw[hW];simp);have HS:=aa (tG x G gc given hE m p W (he.ext X0.o) (hg.ext X0.o) (hp.ext X0.o) j8 hsz);have Pb:=aa hp.ty;clear hW he hg hp j8 hsz hE;generalize gh x.ag x.insts given m p.cls p.ty.pure=R at *;obtain⟨c0,c1,c2,c3⟩:=B2.o.cells;obtain⟨e0,e1,e2⟩:=B1.o.cells;have n1:=B1.o.lt;have n2:=B2.o.lt;unfold eX jC at *
 go_enter_defers Tryz.func60,Tryz.ntmps60
 go_upto_region 2 with fail;rw[HW.o];clear HW;go_wp2_with fail;refine HS.o.mono ?_;rintro e w2 ⟨hout,hx⟩;have X2:=aa hx;have C3:=aa (B3.o.ext X2.o);have C4:=aa ((X2.o.heap (ae B4.o)).trans B4.o);clear hx HS c0 c1 c2 c3 e0 e1 e2 n1 n2 B1 B2;cases R with
 |error k=>
  have hout:e=.panicked [{ v:=.iface 162 (.agg #[.int .i64 k]),recovered:=false }]:=hout;subst hout;go_wp2;refine leaves_cons (f:=97) (args:=#[.pointer (some ⟨w.heap.size+1+1,0,none⟩),.pointer (some ⟨w.heap.size+1+1+1,0,none⟩)]) (by simp) (by simp[go_sem]) ?_;refine(G8 (w.heap.size+1+1) (w.heap.size+1+1+1) k Pf.zero 0 _ (by omega) C3.o C4.o).mono ?_;rintro e u' w'' ⟨rfl,rfl,hw⟩;have D3:ahg (aO w'' (w.heap.size+1+1) Pf.zero):=aa (by
   have h1:=kT C3.o Pf.zero;have h2:aO ((ei w2 (w.heap.size+1+1) Pf.zero).setCell ⟨w.heap.size+1+1+1,0,none⟩ (.int .i64 k)) (w.heap.size+1+1) Pf.zero:=(Below.heap_setCell _ _ _ _ (by show w.heap.size+1+1≠w.heap.size+1+1+1;omega)).trans h1;rw[hw];exact h2.ext ((eR _).alloc _).drew)
  have D4:ahg (w''.heap[w.heap.size+1+1+1]?=some (.cells #[.int .i64 k] 41 (0,0))):=aa (by
   have h1:(ei w2 (w.heap.size+1+1) Pf.zero).heap[w.heap.size+1+1+1]?=_:=(kt Pf.zero (by omega)).trans C4.o;have h2:=aw h1 0 (.int .i64 k);have h3:((ei w2 (w.heap.size+1+1) Pf.zero).setCell ⟨w.heap.size+1+1+1,0,none⟩ (.int .i64 k)).heap[w.heap.size+1+1+1]?=some (.cells #[.int .i64 k] 41 (0,0)):=h2.trans (by simp);rw[hw];exact(((eR _).alloc _).drew.heap (ae h3)).trans h3)
  have XF:ahg (Ext w w''):=aa (by
   rw[hw];exact(((cz (X0.o.trans X2.o) (by omega:w.heap.size≤w.heap.size+1+1) Pf.zero).setCell (by show w.heap.size≤w.heap.size+1+1+1;omega) _).alloc _).drew)
  obtain⟨z0,z1,z2,z3⟩:=D3.o.cells;have y0:=af D4.o 0;simp only[ahp,ahq] at y0;clear hw;simp only[settle];refine⟨.tuple #[cr Pf.zero,.int .i64 k],?_,⟨⟨_,rfl,rfl⟩,XF.o⟩⟩;simp[results,Tryz.f60,go_sem,z0,z1,z2,z3,y0,cr]
 |ok r=>
  obtain⟨Q,n⟩:=r;obtain⟨u,rfl,gS,iv,l5,Cl,Dc⟩:=hout;have Jh:=aa (Dc (w.heap.size+1+1) (by have:=bS.o;omega) (aU Pb.o (by omega)));have HA7:=aa (Dc (w.heap.size+1+1+1) (by have:=bS.o;omega) (aU Pb.o (by omega)));have HY:=aa gS;have H2:=aa iv;have H3:=aa l5;have H5:ahg (∀c,c<w.heap.size→aF c p.ty=true→aL c u):=aa (fun c hc ha=>Dc c (by have:=bS.o;omega) ha);clear gS iv l5 Dc Pb;obtain⟨z0,z1,z2,z3⟩:=C3.o.cells;have iE:=C3.o.free 0;have iF:=C3.o.free 1;have iG:=C3.o.free 2;have iH:=C3.o.free 3;have y0:=af C4.o 0;have yf:=ai C4.o 0;simp only[ahp,ahq] at y0;have l6:=C3.o.lt;have l7:=ae C4.o;unfold cr;go_upto_region 3 with fail;refine bC ?_;intro W3 hW3;have hS:W3=ei w2 (w.heap.size+1+1) u:=hW3;have K3:ahg (aO W3 (w.heap.size+1+1) u):=aa (by rw[hS];exact kT C3.o u);have K4:ahg (W3.heap[w.heap.size+1+1+1]?=some (.cells #[.int .i64 0] 41 (0,0))):=aa (by rw[hS];exact(kt u (by omega)).trans C4.o);have X3:ahg (Ext w W3):=aa (by rw[hS];exact cz (X0.o.trans X2.o) (by omega) u);have HY3:ahg (bM W3 u):=aa (by rw[hS];exact HY.o.grown (fQ _ _ _) (fun c e=>by injection e with e;subst e;exact Jh.o));clear hW3 hS z0 z1 z2 z3 iE iF iG iH y0 yf l6 l7 HY C3 C4 X2;obtain⟨z0,z1,z2,z3⟩:=K3.o.cells;have iE:=K3.o.free 0;have iF:=K3.o.free 1;have iG:=K3.o.free 2;have iH:=K3.o.free 3;have y0:=af K4.o 0;have yf:=ai K4.o 0;simp only[ahp,ahq] at y0;have l6:=K3.o.lt;have l7:=ae K4.o;go_wp2;refine leaves_cons (f:=97) (args:=#[.pointer (some ⟨w.heap.size+1+1,0,none⟩),.pointer (some ⟨w.heap.size+1+1+1,0,none⟩)]) (by simp) (by simp[go_sem]) ?_;refine(LG (w.heap.size+1+1) (w.heap.size+1+1+1) _).mono ?_;rintro e u' w'' ⟨rfl,rfl,hw⟩;have D3:ahg (aO w'' (w.heap.size+1+1) u):=aa (by
   have h1:=kT K3.o u;have h2:aO ((ei W3 (w.heap.size+1+1) u).setCell ⟨w.heap.size+1+1+1,0,none⟩ (.int .i64 0)) (w.heap.size+1+1) u:=(Below.heap_setCell _ _ _ _ (by show w.heap.size+1+1≠w.heap.size+1+1+1;omega)).trans h1;rw[hw];exact h2.ext ((eR _).alloc _))
  have D4:ahg (w''.heap[w.heap.size+1+1+1]?=some (.cells #[.int .i64 0] 41 (0,0))):=aa (by
   have h1:(ei W3 (w.heap.size+1+1) u).heap[w.heap.size+1+1+1]?=_:=(kt u (by omega)).trans K4.o;have h2:=aw h1 0 (.int .i64 0);have h3:((ei W3 (w.heap.size+1+1) u).setCell ⟨w.heap.size+1+1+1,0,none⟩ (.int .i64 0)).heap[w.heap.size+1+1+1]?=some (.cells #[.int .i64 0] 41 (0,0)):=h2.trans (by simp);rw[hw];exact(((eR _).alloc _).heap (ae h3)).trans h3)
  have XF:ahg (Ext w w''):=aa (by
   rw[hw];exact(((cz X3.o (by omega:w.heap.size≤w.heap.size+1+1) u).setCell (by show w.heap.size≤w.heap.size+1+1+1;omega) _).alloc _))
  have HYf:ahg (bM w'' u):=aa (by
   rw[hw];exact((HY3.o.grown (fQ _ _ _) (fun c e=>by injection e with e;subst e;exact Jh.o)).grown (aK _ _ _ _) (fun c e=>by injection e with e;subst e;exact HA7.o)).ext ((eR _).alloc _))
  clear z0 z1 z2 z3 y0;obtain⟨z0,z1,z2,z3⟩:=D3.o.cells;have y0:=af D4.o 0;simp only[ahp,ahq] at y0;clear hw;simp only[Leaves,settle];refine⟨.tuple #[cr u,.int .i64 0],?_,⟨⟨_,rfl,u,rfl,HYf.o,H2.o,H3.o,Cl,H5.o⟩,XF.o⟩⟩;simp[results,Tryz.f60,go_sem,z0,z1,z2,z3,y0,cr]
set_option maxRecDepth 512
set_option maxHeartbeats 200000
theorem nI : ∀args w,(callFunc 57 args).run Tryz.prog w=.ok (.enter 57 args) w:=enters_of Tryz.func57 (by kernel_rfl) rfl
theorem oB : ∀args w,(callFunc 95 args).run Tryz.prog w=.ok (.enter 95 args) w:=enters_of Tryz.func95 (by kernel_rfl) rfl
set_option maxRecDepth 10000
set_option maxHeartbeats 8000000
theorem Dd (x:cX) (w:World) (h:q9 w x):Calls Tryz.prog 95 #[Du x] w fun e w'=>e=.returned (.bool (!bN x))∧Ext w w':=by
 have X0:ahg (Ext w (w.alloc (.cells #[encStr x.cls,encStr x.aq,.int .i64 x.n,.slice x.A x.preds.length x.cap] 70))):=aa ((eR w).alloc _);have HB:=aa (eW.new w x);obtain⟨c0,c1,c2,c3⟩:=HB.o.cells;have hbl:=HB.o.lt;have HL:=aa (fun w' (e:Ext w w')=>aa (zP x w' (h.ext e)));clear h;unfold Du at *;generalize bN x=R at *;go_enter Tryz.func95,Tryz.ntmps95;go_wp2_with fail;refine(HL.o _ X0.o).o.mono ?_;rintro e w3 ⟨rfl,hx⟩;have X3:=aa hx;clear hx;cases R
 ·go_wp2;go_ret;exact⟨rfl,X0.o.trans X3.o⟩
 ·go_wp2;go_ret;exact⟨rfl,X0.o.trans X3.o⟩
theorem G9 (A:Option Addr) (cap:Nat) (l:List Pd) (w:World) (h:bA w A l) (hl:l.length≤1000000) :
  Calls Tryz.prog 92 #[.slice A l.length cap,.func (.func 57) #[] #[]] w fun e w'=>(∃i:Int,e=.returned (.int .i64 i)∧(0≤i↔l.all eQ=false))∧Ext w w':=by
 have HL:=aa h;have eg:=nI;clear h;obtain⟨R,hR⟩:∃R,R=l.all eQ:=⟨_,rfl⟩;have HR:=aa hR;rw[←hR];clear hR;go_enter Tryz.func92,Tryz.ntmps92;go_wp2
 go_loopw [8] (fun i wr=>∃k:Nat,k≤l.length∧i=.int .i64 k∧ahg ((l.take k).all eQ=true)∧ahg (Ext w wr)) (fun i _=>l.length - (intOf i).toNat)
 case atStart=>exact⟨0,ahj _,rfl,aa (by simp),aa (eR _)⟩
 case round=>
  obtain⟨k,hk,rfl,HA,HX⟩:=hrel
  by_cases hlt:k<l.length
  ·have aS:(k:Int)<(l.length:Int):=by omega
   have dy:(0:Int)≤(k:Int):=by omega
   obtain⟨b,o,rfl,hb,q0,q1,q2,q3⟩:=(HL.o.ext HX.o).at_ hlt;have hm:=ahh hlt;have HC:=aa (fun w' (e:Ext wr w')=>aa (qG (l[k]'hlt) w' ((HL.o.all _ hm).ext (HX.o.trans e))));have cS:ahg (l.take (k+1)=l.take k++[l[k]'hlt]):=aa (ahl hlt);have Hm:=aa hm;clear hm;unfold jC at HC;generalize l[k]'hlt=x at *;cases hb:eQ x
   ·rw[hb] at HC;have HN:ahg (R=false):=aa (by rw[HR.o,←Bool.not_eq_true,ahA];intro h;have:=h x Hm.o;rw[hb] at this;cases this);clear hb;go_wp2_with fail;refine(HC.o _ (eR _)).o.mono ?_;rintro e w3 ⟨rfl,hx⟩;go_wp2;go_ret;exact⟨⟨(k:Int),rfl,by rw[HN.o];simp⟩,HX.o.trans hx⟩
   ·rw[hb] at HC;have Hb:=aa hb;clear hb;go_wp2_with fail;refine(HC.o _ (eR _)).o.mono ?_;rintro e w3 ⟨rfl,hx⟩;have X3:=aa (HX.o.trans hx);clear hx;go_wp2;go_roundw
    case rel=>exact⟨k+1,hlt,by go_num,aa (by rw[cS.o,List.all_append,HA.o];simpa using Hb.o),X3⟩
    case measure=>simp[intOf];omega
  ·have bU:¬(k:Int)<(l.length:Int):=by omega
   have HN:ahg (R=true):=aa (by rw[HR.o];have:=HA.o;rwa [ahm (by omega)] at this);go_wp2;go_ret;exact⟨⟨-1,rfl,by rw[HN.o];simp⟩,HX.o⟩
theorem Pj (A:Option Addr) (cap:Nat) (l:List Pd) (w:World) (h:bA w A l) (hl:l.length≤1000000) :
  Calls Tryz.prog 58 #[.slice A l.length cap,.func (.func 57) #[] #[]] w fun e w'=>e=.returned (.bool (!l.all eQ))∧Ext w w':=by
 have HI:=aa (G9 A cap l w h hl);clear h;generalize l.all eQ=R at *;go_enter Tryz.func58,Tryz.ntmps58;go_wp2_with fail;refine HI.o.mono ?_;rintro e w2 ⟨⟨i,rfl,hi⟩,hx⟩;have HR:ahg (decide ((0:Int)≤i) = !R):=aa (by cases R<;>simp_all);have X:=aa hx;clear hi hx;go_wp2;go_ret;exact⟨by rw[←HR.o];rfl,X.o⟩
theorem He (A:Option Addr) (cap:Nat) (l:List cX) (w:World) (h:jD w A l) (hl:l.length≤1000000) :
  Calls Tryz.prog 141 #[.slice A l.length cap,.func (.func 95) #[] #[]] w fun e w'=>(∃i:Int,e=.returned (.int .i64 i)∧(0≤i↔l.all bN=false))∧Ext w w':=by
 have HL:=aa h;have eg:=oB;clear h;obtain⟨R,hR⟩:∃R,R=l.all bN:=⟨_,rfl⟩;have HR:=aa hR;rw[←hR];clear hR;go_enter Tryz.func141,Tryz.ntmps141;go_wp2
 go_loopw [8] (fun i wr=>∃k:Nat,k≤l.length∧i=.int .i64 k∧ahg ((l.take k).all bN=true)∧ahg (Ext w wr)) (fun i _=>l.length - (intOf i).toNat)
 case atStart=>exact⟨0,ahj _,rfl,aa (by simp),aa (eR _)⟩
 case round=>
  obtain⟨k,hk,rfl,HA,HX⟩:=hrel
  by_cases hlt:k<l.length
  ·have aS:(k:Int)<(l.length:Int):=by omega
   have dy:(0:Int)≤(k:Int):=by omega
   obtain⟨b,o,rfl,hb,q0,q1,q2,q3⟩:=(HL.o.ext HX.o).at_ hlt;have hm:=ahh hlt;have HC:=aa (fun w' (e:Ext wr w')=>aa (Dd (l[k]'hlt) w' ((HL.o.all _ hm).ext (HX.o.trans e))));have cS:ahg (l.take (k+1)=l.take k++[l[k]'hlt]):=aa (ahl hlt);have Hm:=aa hm;clear hm;unfold Du at HC;generalize l[k]'hlt=x at *;cases hb:bN x
   ·rw[hb] at HC;have HN:ahg (R=false):=aa (by rw[HR.o,←Bool.not_eq_true,ahA];intro h;have:=h x Hm.o;rw[hb] at this;cases this);clear hb;go_wp2_with fail;refine(HC.o _ (eR _)).o.mono ?_;rintro e w3 ⟨rfl,hx⟩;go_wp2;go_ret;exact⟨⟨(k:Int),rfl,by rw[HN.o];simp⟩,HX.o.trans hx⟩
   ·rw[hb] at HC;have Hb:=aa hb;clear hb;go_wp2_with fail;refine(HC.o _ (eR _)).o.mono ?_;rintro e w3 ⟨rfl,hx⟩;have X3:=aa (HX.o.trans hx);clear hx;go_wp2;go_roundw
    case rel=>exact⟨k+1,hlt,by go_num,aa (by rw[cS.o,List.all_append,HA.o];simpa using Hb.o),X3⟩
    case measure=>simp[intOf];omega
  ·have bU:¬(k:Int)<(l.length:Int):=by omega
   have HN:ahg (R=true):=aa (by rw[HR.o];have:=HA.o;rwa [ahm (by omega)] at this);go_wp2;go_ret;exact⟨⟨-1,rfl,by rw[HN.o];simp⟩,HX.o⟩
theorem Pk (A:Option Addr) (cap:Nat) (l:List cX) (w:World) (h:jD w A l) (hl:l.length≤1000000) :
  Calls Tryz.prog 94 #[.slice A l.length cap,.func (.func 95) #[] #[]] w fun e w'=>e=.returned (.bool (!l.all bN))∧Ext w w':=by
 have HI:=aa (He A cap l w h hl);clear h;generalize l.all bN=R at *;go_enter Tryz.func94,Tryz.ntmps94;go_wp2_with fail;refine HI.o.mono ?_;rintro e w2 ⟨⟨i,rfl,hi⟩,hx⟩;have HR:ahg (decide ((0:Int)≤i) = !R):=aa (by cases R<;>simp_all);have X:=aa hx;clear hi hx;go_wp2;go_ret;exact⟨by rw[←HR.o];rfl,X.o⟩
set_option maxRecDepth 512
set_option maxHeartbeats 200000
structure xm (x:dz) (given:List Pd):Prop where
 gl:given.length≤1000000
 l9:x.ag.length≤9
 s9:∀c∈x.ag,c.cM.length≤9
 il:x.insts.length≤1000000
 pl:∀y∈x.insts,y.preds.length≤40000
set_option maxRecDepth 10000
set_option maxHeartbeats 8000000
theorem Hz (x:dz) (given:List Pd) (hE:xm x given) (w:World) (he:dX w x):Calls Tryz.prog 59 #[eX x] w fun e w'=>e=.returned (.bool (ix x.ag x.insts))∧Ext w w':=by
 obtain⟨W,hW⟩:∃W,W=w.alloc (.cells #[.slice x.D x.aA.length x.dc,.slice x.C x.ag.length x.cc,.slice x.I x.insts.length x.ic] 26):=⟨_,rfl⟩;have HW:=aa hW.symm;have X0:ahg (Ext w W):=aa (by rw[hW];exact(eR _).alloc _);have B1:ahg (aJ W w.heap.size x):=aa (by rw[hW];exact aJ.new w x);have HC:=aa (tz x.C x.cc (x.ag.map fP) W (qH (he.ag.ext X0.o)) (by simpa using hE.l9) (fun c hc=>by
  obtain⟨k,hk,rfl⟩:=List.mem_map.1 hc;exact hE.s9 k hk))
 have HI:=aa (fun w' (e:Ext W w')=>aa (Pk x.I x.ic x.insts w' (he.insts.ext (X0.o.trans e)) hE.il));rw[List.length_map] at HC;have HO:ahg (ix x.ag x.insts=(((dS (x.ag.map fP)).2 == 0)&&x.insts.all bN)):=aa rfl;clear hW he;generalize ix x.ag x.insts=R at *;generalize x.insts.all bN=RI at *;generalize dS (x.ag.map fP)=ck at *;obtain⟨i,k⟩:=ck;have HO:ahg (R=((k == 0)&&RI)):=aa HO.o;obtain⟨e0,e1,e2⟩:=B1.o.cells;have n1:=B1.o.lt;unfold eX;go_enter Tryz.func59,Tryz.ntmps59;go_upto_region 1 with fail;rw[HW.o];clear HW;go_wp2_with fail;refine HC.o.mono ?_;rintro e w2 ⟨rfl,hx⟩;have X2:=aa hx;clear hx HC e0 e1 e2 n1;obtain⟨e0,e1,e2⟩:=(B1.o.ext X2.o).cells;have n1:=(B1.o.ext X2.o).lt;cases hk:(k == 0)
 ·have hR:R=false:=by rw[HO.o,hk];rfl
  subst hR;go_wp2;go_ret;exact⟨rfl,X0.o.trans X2.o⟩
 ·have hR:R=RI:=by rw[HO.o,hk];rfl
  subst hR;clear HO;go_wp2_with fail;refine(HI.o _ X2.o).o.mono ?_;rintro e w3 ⟨rfl,hx⟩;have X3:=aa (X2.o.trans hx);clear hx HI;cases R
  ·go_wp2;go_ret;exact⟨rfl,X0.o.trans X3.o⟩
  ·go_wp2;go_ret;exact⟨rfl,X0.o.trans X3.o⟩
set_option maxRecDepth 512
set_option maxHeartbeats 200000
theorem Ao {f:aj→Ty.Pure→Except Int (Pf.Pure×Nat)}(hf:∀c t k,f c t=.error k→k≠0):∀(l:List (aj×Ty.Pure)) (us:List Pf.Pure) (n:Nat) (k:Int),dx f l us n=.error k→k≠0
 | [],us,n,k,h=>by cases h
 |(c,t) :: r,us,n,k,h=>by
  cases hr:f c t with
  |error e=>
   rw[xh hr] at h;injection h with h;subst h;exact hf c t _ hr
  |ok q=>
   obtain⟨q,m⟩:=q;rw[tD hr] at h
   split at h
   ·injection h with h;subst h;decide
   ·exact Ao hf r _ _ k h
theorem Aq (cs:List dK) (ins:List cX) (given:List Pd):∀(m:Nat) (c:aj) (t:Ty.Pure) (k:Int),gh cs ins given m c t=.error k→k≠0
 |0,c,t,k,h=>by
  have h:Except.error 16=Except.error k:=h;injection h with h;subst h;decide
 |m+1,c,t,k,h=>by
  unfold gh at h
  split at h
  ·cases h
  ·split at h
   ·injection h with h;subst h;decide
   ·split at h
    ·rename_i e he
     injection h with h;subst h;exact Ao (Aq cs ins given m) _ _ _ _ he
    ·cases h
def M7 : Except Int (Pf.Pure×Nat)→Except Int Pf.Pure
 | .error e=>.error e
 | .ok (q,_)=>.ok q
def TQ (w w':World) (p:Pd) (v:Value):Except Int Pf.Pure→Prop
 | .ok Q=>∃u,v=.tuple #[cr u,.int .i64 0]∧bM w' u∧u.pure=Q∧u.size≤4096∧∀c,c<w.heap.size→aF c p.ty=true→aL c u
 | .error k=>v=.tuple #[cr Pf.zero,.int .i64 k]∧k≠0
set_option maxRecDepth 10000
set_option maxHeartbeats 8000000
theorem TR (x:dz) (G:Option Addr) (gc:Nat) (given:List Pd) (hE:xm x given) (p:Pd) (w:World) (he:dX w x) (hg:bA w G given) (hp:eV w p) :
  Calls Tryz.prog 35 #[eX x,.slice G given.length gc,jC p] w fun e w'=>(∃v,e=.returned v∧TQ w w' p v (tC x.ag x.insts given p))∧Ext w w':=by
 obtain⟨W,hW⟩:∃W,W=((w.alloc (.cells #[.slice x.D x.aA.length x.dc,.slice x.C x.ag.length x.cc,.slice x.I x.insts.length x.ic] 26)).alloc (.cells #[encStr p.cls,encStr p.ty.aq,.int .i64 p.ty.var,.slice p.ty.A p.ty.args.length p.ty.cap] 55)).alloc (.cells #[.int .i64 0,.int .i64 0,.slice none 0 0,.slice none 0 0] 34):=⟨_,rfl⟩;have HW:=aa hW.symm;have X0:ahg (Ext w W):=aa (by rw[hW];exact(((eR _).alloc _).alloc _).alloc _);have B1:ahg (aJ W w.heap.size x):=aa (by rw[hW];exact(aJ.new w x).ext (((eR _).alloc _).alloc _));have B2:ahg (aY W (w.heap.size+1) p):=aa (by rw[hW];exact aY.ext (ah _ _ _ (by simp)) ((eR _).alloc _));have B3:ahg (aO W (w.heap.size+1+1) Pf.zero):=aa (by rw[hW];exact ah _ _ _ (by simp));have bS:ahg (W.heap.size=w.heap.size+3):=aa (by rw[hW];simp);have HIl:=aa (qG p W (hp.ext X0.o));have Qu:=aa (fun w' (e:Ext W w')=>aa (Pj G gc given w' (hg.ext (X0.o.trans e)) hE.gl));have Tl:=aa (fun w' (e:Ext W w')=>aa (Hz x given hE w' (he.ext (X0.o.trans e))));have ML:=aa (fun(h:G4 x given) (hl:az p.ty=true) (hs:p.ty.size≤5000) w' (e:Ext W w')=>aa (LH x G gc given h 5000 p w' (he.ext (X0.o.trans e)) (hg.ext (X0.o.trans e)) (hp.ext (X0.o.trans e)) hl hs));have HEo:ahg (ix x.ag x.insts=true→G4 x given):=aa (fun h=>⟨hE.gl,hE.l9,hE.s9,by
  unfold ix at h;rw[ahv,ahA] at h;exact h.2,hE.il,hE.pl⟩)
 have EU:ahg (eQ p=true→az p.ty=true∧p.ty.size≤5000):=aa (fun h=>by
  unfold eQ at h;rw[ahv] at h;exact⟨h.2,by have:=(aW h.2).1;omega⟩)
 have Vk:=aa (Aq x.ag x.insts given 5000 p.cls p.ty.pure);have HR:ahg (tC x.ag x.insts given p=if (eQ p&&given.all eQ&&ix x.ag x.insts)=false then .error 1
  else M7 (gh x.ag x.insts given 5000 p.cls p.ty.pure)):=aa rfl
 have Pb:=aa hp.ty;clear hW he hg hp hE;generalize tC x.ag x.insts given p=R at *;generalize eQ p=r1 at *;generalize given.all eQ=r2 at *;generalize ix x.ag x.insts=r3 at *;generalize gh x.ag x.insts given 5000 p.cls p.ty.pure=S at *;obtain⟨c0,c1,c2,c3⟩:=B2.o.cells;have n2:=B2.o.lt;unfold eX jC at *;have hend:∀w3:World,Ext W w3→(r1&&r2&&r3)=false→R=.error 1:=fun _ _ h=>by rw[HR.o,if_pos h]
 have LI:=aa hend;clear hend;go_enter Tryz.func35,Tryz.ntmps35;go_upto_region 1 with fail;rw[HW.o];clear HW;go_wp2_with fail;refine HIl.o.mono ?_;rintro e w2 ⟨rfl,hx⟩;have X2:=aa hx;clear hx HIl c0 c1 c2 c3 n2;cases r1
 ·have hR:=LI.o w2 X2.o rfl;subst hR;have Z:=aa (B3.o.ext X2.o);obtain⟨z0,z1,z2,z3⟩:=Z.o.cells;have iE:=Z.o.free 0;have iF:=Z.o.free 1;have iG:=Z.o.free 2;have iH:=Z.o.free 3;have hz:=Z.o.lt;have XF:=aa (cz (X0.o.trans X2.o) (by omega:w.heap.size≤w.heap.size+1+1) Pf.zero);go_wp2;refine bodyPost_ret (v:=.tuple #[cr Pf.zero,.int .i64 1]) ?_ rfl ⟨⟨_,rfl,rfl,by decide⟩,XF.o⟩;simp[results,Tryz.f35,go_sem,z0,z1,z2,z3,cr];exact⟨rfl,rfl,⟨rfl,rfl,rfl⟩,rfl,rfl,rfl⟩
 ·go_wp2_with fail;refine(Qu.o _ X2.o).o.mono ?_;rintro e w3 ⟨rfl,hx⟩;have X3:=aa (X2.o.trans hx);clear hx Qu X2;cases r2
  ·have hR:=LI.o w3 X3.o rfl;subst hR;have Z:=aa (B3.o.ext X3.o);obtain⟨z0,z1,z2,z3⟩:=Z.o.cells;have iE:=Z.o.free 0;have iF:=Z.o.free 1;have iG:=Z.o.free 2;have iH:=Z.o.free 3;have hz:=Z.o.lt;have XF:=aa (cz (X0.o.trans X3.o) (by omega:w.heap.size≤w.heap.size+1+1) Pf.zero);go_wp2;refine bodyPost_ret (v:=.tuple #[cr Pf.zero,.int .i64 1]) ?_ rfl ⟨⟨_,rfl,rfl,by decide⟩,XF.o⟩;simp[results,Tryz.f35,go_sem,z0,z1,z2,z3,cr];exact⟨rfl,rfl,⟨rfl,rfl,rfl⟩,rfl,rfl,rfl⟩
  ·obtain⟨e0,e1,e2⟩:=(B1.o.ext X3.o).cells;have n1:=(B1.o.ext X3.o).lt;go_wp2_with fail;refine(Tl.o _ X3.o).o.mono ?_;rintro e w4 ⟨rfl,hx⟩;have X4:=aa (X3.o.trans hx);clear hx Tl X3 e0 e1 e2 n1;cases r3
   ·have hR:=LI.o w4 X4.o rfl;subst hR;have Z:=aa (B3.o.ext X4.o);obtain⟨z0,z1,z2,z3⟩:=Z.o.cells;have iE:=Z.o.free 0;have iF:=Z.o.free 1;have iG:=Z.o.free 2;have iH:=Z.o.free 3;have hz:=Z.o.lt;have XF:=aa (cz (X0.o.trans X4.o) (by omega:w.heap.size≤w.heap.size+1+1) Pf.zero);go_wp2;refine bodyPost_ret (v:=.tuple #[cr Pf.zero,.int .i64 1]) ?_ rfl ⟨⟨_,rfl,rfl,by decide⟩,XF.o⟩;simp[results,Tryz.f35,go_sem,z0,z1,z2,z3,cr];exact⟨rfl,rfl,⟨rfl,rfl,rfl⟩,rfl,rfl,rfl⟩
   ·obtain⟨hl,hs⟩:=EU.o (by simp);have HF:=aa (ML.o (HEo.o (by simp)) hl hs);have dJ:ahg (R=M7 S):=aa (by rw[HR.o,if_neg (by decide)]);clear ML HEo EU HR LI;obtain⟨e0,e1,e2⟩:=(B1.o.ext X4.o).cells;obtain⟨c0,c1,c2,c3⟩:=(B2.o.ext X4.o).cells;have n1:=(B1.o.ext X4.o).lt;have n2:=(B2.o.ext X4.o).lt;go_wp2_with fail;refine(HF.o _ X4.o).o.mono ?_;rintro e w5 ⟨⟨v,rfl,hout⟩,hx⟩;have X5:=aa (X4.o.trans hx);have Qa:=X4.o.size;clear hx HF e0 e1 e2 n1 c0 c1 c2 c3 n2;cases S with
    |error k=>
     have hv:v=.tuple #[cr Pf.zero,.int .i64 k]:=hout;have hR:R=.error k:=dJ.o;have hk:=Vk.o k rfl;clear hout dJ;subst hv hR;have Z:=aa (B3.o.ext X5.o);obtain⟨z0,z1,z2,z3⟩:=Z.o.cells;have iE:=Z.o.free 0;have iF:=Z.o.free 1;have iG:=Z.o.free 2;have iH:=Z.o.free 3;have hz:=Z.o.lt;have XF:=aa (cz (X0.o.trans X5.o) (by omega:w.heap.size≤w.heap.size+1+1) Pf.zero);unfold cr;go_wp2;refine bodyPost_ret (v:=.tuple #[cr Pf.zero,.int .i64 k]) ?_ rfl ⟨⟨_,rfl,rfl,hk⟩,XF.o⟩;simp[results,Tryz.f35,go_sem,z0,z1,z2,z3,cr]
    |ok r=>
     obtain⟨Q,n⟩:=r;obtain⟨u,hv,gS,iv,l5,Cl,Dc⟩:=hout;have hR:R=.ok Q:=dJ.o;clear dJ;subst hv hR;have Z:=aa (B3.o.ext X5.o);obtain⟨z0,z1,z2,z3⟩:=Z.o.cells;have iE:=Z.o.free 0;have iF:=Z.o.free 1;have iG:=Z.o.free 2;have iH:=Z.o.free 3;have hz:=Z.o.lt;have XF:=aa (cz (X0.o.trans X5.o) (by omega:w.heap.size≤w.heap.size+1+1) u);have Jh:=Dc (w.heap.size+1+1) (by have:=bS.o;omega) (aU Pb.o (by omega));have HY:=aa (gS.grown (fQ w5 (w.heap.size+1+1) u) (fun c e=>by injection e with e;subst e;exact Jh));have H5:ahg (∀c,c<w.heap.size→aF c p.ty=true→aL c u):=aa (fun c hc ha=>Dc c (by have:=bS.o;omega) ha);have H2:=aa iv;have H3:=aa (l5▸Cl);clear gS iv l5 Dc Jh;unfold cr;go_wp2;refine bodyPost_ret (v:=.tuple #[cr u,.int .i64 0]) ?_ rfl ⟨⟨_,rfl,u,rfl,HY.o,H2.o,H3.o,H5.o⟩,XF.o⟩;simp[results,Tryz.f35,go_sem,z0,z1,z2,z3,cr]
set_option maxRecDepth 512
set_option maxHeartbeats 200000
theorem jq {y:World}{B b i:Nat}(h:b≠B) (v0 v1 v2 v3 v4 v5:Value){u:Value}(k:y.cell? ⟨b,i,none⟩=some u):((((((y.setCell ⟨B,0,none⟩ v0).setCell ⟨B,1,none⟩ v1).setCell ⟨B,2,none⟩ v2).setCell ⟨B,3,none⟩ v3).setCell ⟨B,4,none⟩ v4).setCell ⟨B,5,none⟩ v5).drew.cell? ⟨b,i,none⟩=some u:=(eR _).drew.cell (dv h v0 v1 v2 v3 v4 v5 k)
theorem H0 (a0 a1:Addr) (n:Nat) (hn:n≤2) (w:World) (h:jv w a0 a1):Calls Tryz.prog 27 #[qA a0 a1 n] w fun e w'=>e=.returned (.int .i64 (n:Nat))∧w'=w:=by
 match n,hn with
 |0,_=>exact wP a0 a1 w h
 |1,_=>exact rI a0 a1 w h
 |2,_=>exact qq a0 a1 w h
theorem oy.le {w w':World}{cs:List dK}{ins:List cX}{preds:List Pd}{given:List Tm}{p:Pf}{t:Tm}{n:Nat}(h:oy w w' cs ins preds given p t n):n≤2:=by
 rcases h.o with ⟨h,-⟩|⟨-,-,u,-,⟨h,-⟩|⟨h,-⟩⟩<;>omega
set_option maxRecDepth 10000
set_option maxHeartbeats 8000000
theorem zu (x:dz) (P:Option Addr) (pc:Nat) (preds:List Pd) (L:Option Addr) (lc:Nat) (given:List Tm) (hpl:∀y∈x.insts,y.preds.length≤40000) (p:Pf) (a0 a1:Addr) (w:World) (he:dX w x) (hP:bA w P preds) (hL:bK w L given) (hp:bM w p) (jd:qY w) (nd:jv w a0 a1) (qB:nU x.ag x.insts preds given p) :
  Calls Tryz.prog 8 #[eX x,.slice P preds.length pc,.slice L given.length lc,cr p] w fun e w'=>(∃t n,e=.returned (.tuple #[bl t,.int .i64 (n:Nat)])∧oy w w' x.ag x.insts preds given p t n)∧Ext w w':=by
 obtain⟨W,hW⟩:∃W,W=((w.alloc (.cells #[.slice x.D x.aA.length x.dc,.slice x.C x.ag.length x.cc,.slice x.I x.insts.length x.ic] 26)).alloc (.cells #[.int .i64 p.kind,.int .i64 p.n,.slice p.T p.types.length p.tc,.slice p.A p.kids.length p.cap] 34)).alloc (.cells #[.int .i64 0,.int .i64 0,.string ⟨#[]⟩,.slice none 0 0,.slice none 0 0,.slice none 0 0] 40):=⟨_,rfl⟩;have HW:=aa hW.symm;have X0:ahg (Ext w W):=aa (by rw[hW];exact(((eR _).alloc _).alloc _).alloc _);have B1:ahg (aJ W w.heap.size x):=aa (by rw[hW];exact(aJ.new w x).ext (((eR _).alloc _).alloc _));have B2:ahg (aO W (w.heap.size+1) p):=aa (by rw[hW];exact aO.ext (ah _ _ _ (by simp)) ((eR _).alloc _));have B3:ahg (W.heap[w.heap.size+1+1]?=some (.cells #[.int .i64 0,.int .i64 0,.string ⟨#[]⟩,.slice none 0 0,.slice none 0 0,.slice none 0 0] 40)):=aa (by rw[hW];exact ah _ _ _ (by simp));have bS:ahg (W.heap.size=w.heap.size+3):=aa (by rw[hW];simp);have HWh:=aa (Lh x P pc preds L lc given hpl p a0 a1 W (he.ext X0.o) (hP.ext X0.o) (hL.ext X0.o) (hp.ext X0.o) (qY.ext jd X0.o) (nd.ext X0.o) qB);have HN:=aa (fun n hn w' (e:Ext W w')=>H0 a0 a1 n hn w' (nd.ext (X0.o.trans e)));obtain⟨c0,c1,c2,c3⟩:=B2.o.cells;obtain⟨e0,e1,e2⟩:=B1.o.cells;have n1:=B1.o.lt;have n2:=B2.o.lt;have ry:ahg (∀c,w.heap.size≤c→(∀g∈given,ay c g)∧aL c p):=aa (fun c hc=>⟨fun g hg=>bw (hL.kids g hg) hc,dm hp hc⟩);clear hW he hP hL hp jd nd qB;unfold eX;unfold cr at *;go_enter Tryz.func8,Tryz.ntmps8;go_upto_region 1 with fail;rw[HW.o];clear HW;go_wp2_with fail;refine HWh.o.mono ?_;rintro e w2 ⟨⟨t,n,rfl,hw⟩,hx⟩;have X2:=aa hx;have Hw:=aa hw;have Hn:=HN.o n hw.le;clear hx hw HWh HN c0 c1 c2 c3 e0 e1 e2 n1 n2;generalize qA a0 a1 n=er at *;go_upto_region 2 with fail;refine bC ?_;intro W3 hW3;have E3:ahg (Ext w2 W3):=aa (by rw[hW3];exact(eR _).alloc _);have D3:ahg (av W3 w2.heap.size t):=aa (by rw[hW3];exact av.new w2 t);have X3:=aa (X2.o.trans E3.o);clear hW3;obtain⟨d0,d1,d2,d3,d4,d5⟩:=D3.o.cells;have d6:=D3.o.lt;have B4:=aa ((X3.o.heap (ae B3.o)).trans B3.o);obtain⟨z0,z1,z2,z3,z4,z5,iE,iF,iG,iH,um,uo⟩:=bn B4.o;have hz:=ae B4.o;have ou:=aa (Hw.o.away (w.heap.size+1+1) (by have:=bS.o;omega) (ry.o _ (by omega)).1 (ry.o _ (by omega)).2);have HI:=aa ((Hw.o.iM.ext E3.o).grown (aZ W3 (w.heap.size+1+1) t) (fun c e=>by injection e with e;subst e;exact ou.o));have XF:=aa (bg (X0.o.trans X3.o) (by omega:w.heap.size≤w.heap.size+1+1) t);have vd:ahg (∀w',aM w' t→oy w w' x.ag x.insts preds given p t n):=aa (fun w' h=>⟨h,fun c hc h1 h2=>Hw.o.away c (by have:=bS.o;omega) h1 h2,Hw.o.o⟩);have hne:w2.heap.size≠w.heap.size+1+1:=by have:=X2.o.size;have:=bS.o;omega
 clear Hw;have kS:=ahk d0 (ahk d1 (ahk d2 (ahk d3 (ahk d4 d5))))
 go_region_held3 (fun w'=>w'.cell? ⟨w2.heap.size,0,none⟩=some (.int .i64 t.kind)∧w'.cell? ⟨w2.heap.size,1,none⟩=some (.int .i64 t.n)∧w'.cell? ⟨w2.heap.size,2,none⟩=some (.string ⟨t.name.toArray⟩)∧w'.cell? ⟨w2.heap.size,3,none⟩=some (.slice t.V t.vars.length t.vc)∧w'.cell? ⟨w2.heap.size,4,none⟩=some (.slice t.T t.types.length t.tc)∧w'.cell? ⟨w2.heap.size,5,none⟩=some (.slice t.A t.kids.length t.cap)) (first|with_reducible assumption|(obtain⟨g0,g1,g2,g3,g4,g5⟩:=kS;first|with_reducible exact⟨jq hne _ _ _ _ _ _ g0,jq hne _ _ _ _ _ _ g1,jq hne _ _ _ _ _ _ g2,jq hne _ _ _ _ _ _ g3,jq hne _ _ _ _ _ _ g4,jq hne _ _ _ _ _ _ g5⟩|with_reducible exact⟨dv hne _ _ _ _ _ _ g0,dv hne _ _ _ _ _ _ g1,dv hne _ _ _ _ _ _ g2,dv hne _ _ _ _ _ _ g3,dv hne _ _ _ _ _ _ g4,dv hne _ _ _ _ _ _ g5⟩)|go_keep) (
  (
  go_at_call 27
  refine Calls.mono (Hn _ (X3.o.trans (by repeat(first|exact eR _|exact eA (by assumption) _|refine eA ?_ _|refine eM ?_ _ _|refine eD ?_|refine eN ?_ _)))) ?_;rintro e y ⟨rfl,rfl⟩;have kS:=ahk d0 (ahk d1 (ahk d2 (ahk d3 (ahk d4 d5))))))
 go_wp2;refine bodyPost_ret (v:=.tuple #[bl t,.int .i64 (n:Nat)]) ?_ rfl ⟨⟨t,n,rfl,vd.o _ (HI.o.ext (eR _).drew)⟩,XF.o.drew⟩;simp[results,Tryz.f8,go_sem,z0,z1,z2,z3,z4,z5]
set_option maxRecDepth 512
set_option maxHeartbeats 200000
def tH (cs:List dK) (ins:List cX) (preds:List Pd) (given:List Tm) (q:Pd) (t:Tm.Pure):Prop:=
 ∃(p:Pf) (u:Tm),tC cs ins preds q=.ok p.pure∧preds.length=given.length∧(bm cs ins preds p).isSome=true∧u.pure=kE cs ins preds (given.map Tm.pure) p∧cj u=true∧t=u.pure
def uO (cs:List dK) (ins:List cX) (preds:List Pd) (given:List Tm) (q:Pd) (n:Int):Prop:=
 tC cs ins preds q=.error n∨∃(p:Pf) (t:Tm) (m:Nat) (w w':World),tC cs ins preds q=.ok p.pure∧oy w w' cs ins preds given p t m∧m≠0∧n=(m:Int)
def H6 (w':World) (cs:List dK) (ins:List cX) (preds:List Pd) (given:List Tm) (l:List Pd) (v:Value):Prop:=
 (∃A c ts,v=.tuple #[.slice A (List.length ts) c,.int .i64 0,.int .i64 0]∧ts.length≤c∧c≤9223372036854775807∧bK w' A ts∧ts.length=l.length∧∀j (h1:j<l.length) (h2:j<ts.length),tH cs ins preds given (l[j]'h1) (ts[j]'h2).pure) ∨
 ∃(k:Nat) (n:Int),v=.tuple #[.slice none 0 0,.int .i64 (k:Nat),.int .i64 n]∧n≠0∧∃hk:k<l.length,(∀j (h1:j<l.length),j<k→∃t,tH cs ins preds given (l[j]'h1) t)∧uO cs ins preds given (l[k]'hk) n
structure LJ (w wr:World) (cs:List dK) (ins:List cX) (preds:List Pd) (given:List Tm) (l:List Pd) (k:Nat) (ts:List Tm) (v:Value):Prop where
 own:wr.ownsRow (w.heap.size+1) 40 6 v ts.length (ts.flatMap eT.f)
 iM:∀t∈ts,aM wr t
 FI:∀t∈ts,∀c,v.ownBlock=some c→ay c t
 len:ts.length=k
 is:∀j (h1:j<l.length) (h2:j<ts.length),tH cs ins preds given (l[j]'h1) (ts[j]'h2).pure
 ext:Ext w wr
theorem LJ.snoc {w wr w5 w6:World}{cs:List dK}{ins:List cX}{preds:List Pd}{given:List Tm}{l:List Pd}{k:Nat}{ts:List Tm}{v v6:Value}{t:Tm}(h:LJ w wr cs ins preds given l k ts v) (hk:k<l.length) (e:Ext wr w5) (ht:aM w5 t) (Sd:∀c,v.ownBlock=some c→ay c t) (hq:tH cs ins preds given (l[k]'hk) t.pure)
  (hown:w6.ownsRow (w.heap.size+1) 40 6 v6 (ts++[t]).length ((ts++[t]).flatMap eT.f)) (hg:w5.grownBy w6 v.ownBlock) (hat:v6.ownBlock=v.ownBlock∨∀c,v6.ownBlock=some c→w5.heap.size≤c) :
  LJ w w6 cs ins preds given l (k+1) (ts++[t]) v6:=by
 have all:∀z∈ts++[t],aM w5 z∧(∀c,v.ownBlock=some c→ay c z):=fun z hz=>by
  rcases List.mem_append.1 hz with hz|hz
  ·exact⟨(h.iM z hz).ext e,h.FI z hz⟩
  ·rw[ahx] at hz;subst hz;exact⟨ht,Sd⟩
 refine⟨hown,fun z hz=>(all z hz).1.grown hg (all z hz).2,fun z hz c hc => ?_,by simp[h.len],fun j h1 h2 => ?_,?_⟩
 ·rcases hat with h1|h1
  ·exact(all z hz).2 c (h1▸hc)
  ·exact bw (all z hz).1 (h1 c hc)
 ·by_cases hj:j<ts.length
  ·rw[List.getElem_append_left hj];exact h.is j h1 hj
  ·have hjk:j=k:=by have:=h.len;simp at h2;omega
   subst hjk;have e2:(ts++[t])[j]'h2=t:=by
    rw[List.getElem_append_right (by have:=h.len;omega)];simp
   rw[e2];exact hq
 ·exact(h.ext.trans e).grown hg (fun c hc=>by have:=(h.own.lt c hc).1;omega)
set_option maxRecDepth 10000
set_option maxHeartbeats 8000000
theorem TS (x:dz) (P:Option Addr) (pc:Nat) (preds:List Pd) (L:Option Addr) (lc:Nat) (given:List Tm) (Q:Option Addr) (qc:Nat) (l:List Pd) (hE:xm x preds) (a0 a1:Addr) (w:World) (he:dX w x) (hP:bA w P preds) (hL:bK w L given) (hl:bA w Q l) (QH:l.length≤1000000) (jd:qY w) (nd:jv w a0 a1)
  (qB:∀q∈l,∀p:Pf,tC x.ag x.insts preds q=.ok p.pure→p.size≤4096→nU x.ag x.insts preds given p) :
  Calls Tryz.prog 16 #[eX x,.slice P preds.length pc,.slice L given.length lc,.slice Q l.length qc] w fun e w'=>(∃v,e=.returned v∧H6 w' x.ag x.insts preds given l v)∧Ext w w':=by
 obtain⟨W,hW⟩:∃W,W=w.alloc (.cells #[.slice x.D x.aA.length x.dc,.slice x.C x.ag.length x.cc,.slice x.I x.insts.length x.ic] 26):=⟨_,rfl⟩;have HW:=aa hW.symm;have X0:ahg (Ext w W):=aa (by rw[hW];exact(eR _).alloc _);have B1:ahg (aJ W w.heap.size x):=aa (by rw[hW];exact aJ.new w x);have bS:ahg (W.heap.size=w.heap.size+1):=aa (by rw[hW];simp);have HQ:=aa hl;have HBy:=aa (fun q w' (e:Ext w w') (h:eV w q)=>aa (TR x P pc preds hE q w' (he.ext e) (hP.ext e) (h.ext e)));have HTm:=aa (fun p w' (e:Ext w w') (h:bM w' p) (hf:nU x.ag x.insts preds given p)=>aa (zu x P pc preds L lc given hE.pl p a0 a1 w' (he.ext e) (hP.ext e) (hL.ext e) h (qY.ext jd e) (nd.ext e) hf));have uF:=aa qB;have Kg:=aa (fun c (hc:w.heap.size≤c) g hg=>bw (hL.kids g hg) hc);obtain⟨j0,hj,mM,gS,iv⟩:=info_parts qb;clear hW he hP hL hl jd nd qB hE;unfold eX at *;go_enter Tryz.func16,Tryz.ntmps16;go_upto_region 1 with fail;rw[HW.o];clear HW;go_wp2
 go_loopw [11,19] (fun v i wr=>∃(k:Nat) (ts:List Tm),k≤l.length∧i=.int .i64 k∧ahg (Ext W wr)∧ahg (LJ w wr x.ag x.insts preds given l k ts v)) (fun _ i _=>l.length - (intOf i).toNat)
 case atStart=>exact⟨0,[],ahj _,rfl,aa (eR _),aa ⟨World.ownsRow_nil _ _ _ _,by simp,by simp,rfl,fun j h1 h2=>absurd h2 (by simp),X0.o⟩⟩
 case round=>
  obtain⟨k,ts,nr,rfl,HX,HK⟩:=hrel;have hwr:=HK.o.ext.size
  by_cases hlt:k<l.length
  ·have aS:(k:Int)<(l.length:Int):=by omega
   have dy:(0:Int)≤(k:Int):=by omega
   have Pl:=HQ.o.all _ (ahh hlt);obtain⟨bq,oq,rfl,Jo,q0,q1,q2,q3⟩:=(HQ.o.ext HK.o.ext).at_ hlt;have HC:=aa (fun w' (e:Ext w w')=>(HBy.o (l[k]'hlt) w' e Pl).o);have Pm:=aa (fun v (n:Int) (hv:v=Value.tuple #[.slice none 0 0,.int .i64 (k:Nat),.int .i64 n]) (hn:n≠0) (ho:uO x.ag x.insts preds given (l[k]'hlt) n) (w':World)=>(show H6 w' x.ag x.insts preds given l v from .inr ⟨k,n,hv,hn,hlt,fun j h1 h2=>⟨_,HK.o.is j h1 (by have:=HK.o.len;omega)⟩,ho⟩));have VF:=aa (fun w5 w6 v6 t e ht Sd hq=>HK.o.snoc (w5:=w5) (w6:=w6) (v6:=v6) (t:=t) hlt e ht Sd hq);have Qf:=aa Pl.ty;have Y9:=aa (uF.o _ (ahh hlt));have LK:=aa (fun(n:Int) (h:tC x.ag x.insts preds (l[k]'hlt)=.error n)=>(show uO x.ag x.insts preds given (l[k]'hlt) n from .inl h));generalize l[k]'hlt=q at *;obtain⟨n1,e0,e1,e2⟩:=ahk (B1.o.ext HX.o).lt (B1.o.ext HX.o).cells;unfold jC at HC;clear Pl;go_wp2_with fail;refine(HC.o _ (HK.o.ext.alloc (.cells #[encStr q.cls,encStr q.ty.aq,.int .i64 q.ty.var,.slice q.ty.A q.ty.args.length q.ty.cap] 55))).mono ?_;rintro e w6 ⟨⟨v,rfl,hby⟩,hx⟩;have X6:ahg (Ext wr w6):=aa (((eR wr).alloc (.cells #[encStr q.cls,encStr q.ty.aq,.int .i64 q.ty.var,.slice q.ty.A q.ty.args.length q.ty.cap] 55)).trans hx);clear hx HC q0 q1 q2 q3 Jo n1 e0 e1 e2;cases hb:tC x.ag x.insts preds q with
   |error n=>
    rw[hb] at hby
    obtain⟨hv,hn⟩:=hby
    have HO:=aa (LK.o n hb);have hnb:(n != 0)=true:=by simpa using hn
    clear VF Y9 hb LK;subst hv;unfold cr;go_wp2;go_ret3;exact⟨⟨_,rfl,Pm.o _ n rfl hn HO.o _⟩,HK.o.ext.trans (X6.o.trans (by repeat(first|exact eR _|exact eA (by assumption) _|refine eA ?_ _|refine eM ?_ _ _|refine eD ?_|refine eN ?_ _)))⟩
   |ok Q0=>
    rw[hb] at hby
    obtain⟨p,hv,Js,Za,hp3,hp4⟩:=hby
    subst hv;have EI:(wr.alloc (.cells #[encStr q.cls,encStr q.ty.aq,.int .i64 q.ty.var,.slice q.ty.A q.ty.args.length q.ty.cap] 55)).heap.size=wr.heap.size+1:=World.size_alloc _ _;have HF:=aa (Y9.o p (by rw[hb,Za]) hp3);have xQ:=aa (fun w' (e:Ext w6 w')=>(HTm.o p w' ((HK.o.ext.trans X6.o).trans e) (Js.ext e) HF.o).o);have G5:=aa (by rw[hb,Za]:tC x.ag x.insts preds q=.ok p.pure);obtain⟨A6,c6,hv,-,-,-,-⟩:=ak.own eT (l:=ts) HK.o.own;subst hv;have VG:=aa HK.o.own;have Xk:=X6.o.size;have Yv:=aa HK.o.len;have Hpa:ahg (∀c,(Value.slice A6 ts.length c6).ownBlock=some c→aL c p):=aa (fun c hc=>by
     have:=VG.o.lt c hc;exact hp4 c (by omega) (aU Qf.o (by omega)))
    have XE:=aa (HX.o.trans X6.o);have XW:=aa (HK.o.ext.trans X6.o);obtain⟨n1,e0,e1,e2⟩:=ahk (B1.o.ext XE.o).lt (B1.o.ext XE.o).cells;unfold cr at *;clear Js Za hp3 hp4 EI HF Y9 hb;go_wp2_with fail;refine(xQ.o _ ((eR w6).alloc (.cells #[.int .i64 p.kind,.int .i64 p.n,.slice p.T p.types.length p.tc,.slice p.A p.kids.length p.cap] 34))).mono ?_;rintro e w8 ⟨⟨t,n,rfl,hw⟩,hx⟩;have X8:ahg (Ext w6 w8):=aa (((eR w6).alloc (.cells #[.int .i64 p.kind,.int .i64 p.n,.slice p.T p.types.length p.tc,.slice p.A p.kids.length p.cap] 34)).trans hx);have Je:(w6.alloc (.cells #[.int .i64 p.kind,.int .i64 p.n,.slice p.T p.types.length p.tc,.slice p.A p.kids.length p.cap] 34)).heap.size=w6.heap.size+1:=World.size_alloc _ _;have Jp:ahg (∀c,(Value.slice A6 ts.length c6).ownBlock=some c→ay c t):=aa (fun c hc=>by
     have:=VG.o.lt c hc;exact hw.away c (by omega) (Kg.o c (by omega)) (Hpa.o c hc))
    have Hw:=aa hw;have hr8:=X8.o.size;clear hw hx xQ e0 e1 e2 n1 Je Hpa
    by_cases hn:n=0
    ·have Hq:ahg (tH x.ag x.insts preds given q t.pure):=aa (by
      rcases Hw.o.o with ⟨h,-⟩|⟨h1,h2,u,h3,⟨-,h4,h5⟩|⟨h,-⟩⟩
      ·omega
      ·exact⟨p,u,G5.o,h1,h2,h3,h5,by rw[h4]⟩
      ·omega)
     have nt:=aa (Hw.o.iM.ext (((eR w8).alloc (.cells #[.int .i64 t.kind,.int .i64 t.n,encStr t.name,.slice t.V t.vars.length t.vc,.slice t.T t.types.length t.tc,.slice t.A t.kids.length t.cap] 40)).alloc (.cells #[.int .i64 t.kind,.int .i64 t.n,encStr t.name,.slice t.V t.vars.length t.vc,.slice t.T t.types.length t.tc,.slice t.A t.kids.length t.cap] 40)));have O8:=aa (bk VG.o (X6.o.trans X8.o));have E8:ahg (Ext wr ((w8.alloc (.cells #[.int .i64 t.kind,.int .i64 t.n,encStr t.name,.slice t.V t.vars.length t.vc,.slice t.T t.types.length t.tc,.slice t.A t.kids.length t.cap] 40)).alloc (.cells #[.int .i64 t.kind,.int .i64 t.n,encStr t.name,.slice t.V t.vars.length t.vc,.slice t.T t.types.length t.tc,.slice t.A t.kids.length t.cap] 40))):=aa (((X6.o.trans X8.o).alloc _).alloc _);have Ve:ts.length≤1000000:=by have:=Yv.o;omega
     clear Hw Pm LK VG Qf;subst hn;go_wp2_with (at_builtin;refine aH _ rfl _ _ 28 rfl (w.heap.size+1) 40 j0 _ 6 104 Tryz.underlying28 hj mM gS iv rfl (by decide) (.slice A6 ts.length c6) ts.length (ts.flatMap eT.f) rfl ((O8.o.alloc _).alloc _) _ 1 1 [.int .i64 t.kind,.int .i64 t.n,encStr t.name,.slice t.V t.vars.length t.vc,.slice t.T t.types.length t.tc,.slice t.A t.kids.length t.cap] rfl ?c2 ?c3 ?c4 ?c5 ?c6 ?_)
     case c2=>exact Row.Ca _ _ _ _ _ _ (ah _ _ _ (by simp))
     case c3=>first|exact⟨rfl,rfl,rfl,rfl,rfl,rfl⟩|(intro z hz;simp at hz;rcases hz with rfl|rfl|rfl|rfl|rfl|rfl<;>rfl)
     case c4=>unfold maxLen;omega
     case c5=>omega
     case c6=>simp;omega
     intro v4 w9 bB hg4 fc;have uw:=aa (VF.o _ w9 v4 t E8.o nt.o Jp.o Hq.o (by rw[ik,ahn];exact bB) hg4 (by
      rcases fc with e|e
      ·exact .inl e
      ·exact .inr (fun c hc=>by rw[e] at hc;injection hc with hc;simp at hc ⊢;omega)))
     have X9:ahg (Ext W w9):=aa ((HX.o.trans E8.o).grown hg4 (fun c hc=>by
      have:=O8.o.lt c hc;have:=bS.o;omega))
     clear bB hg4 fc O8 E8 nt Hq Jp HK VF;go_wp2;go_roundw
     case rel=>exact⟨k+1,ts++[t],hlt,by go_num,X9,uw⟩
     case measure=>simp[intOf];omega
    ·have oF:((n:Int) != 0)=true:=by simp;omega
     have HO:ahg (uO x.ag x.insts preds given q (n:Int)):=aa (.inr ⟨p,t,n,_,_,G5.o,Hw.o,hn,rfl⟩);have hnz:(n:Int)≠0:=by omega
     clear Hw VF LK;go_wp2;go_ret3;exact⟨⟨_,rfl,Pm.o _ (n:Int) rfl hnz HO.o _⟩,XW.o.trans (X8.o.trans (by repeat(first|exact eR _|exact eA (by assumption) _|refine eA ?_ _|refine eM ?_ _ _|refine eD ?_|refine eN ?_ _)))⟩
  ·have bU:¬(k:Int)<(l.length:Int):=by omega
   obtain⟨A6,c6,hv,l1,l2,hrow,-⟩:=ak.own eT (l:=ts) HK.o.own;subst hv;have HA:ahg (H6 wr x.ag x.insts preds given l (.tuple #[.slice A6 ts.length c6,.int .i64 0,.int .i64 0])):=aa (.inl ⟨A6,c6,ts,rfl,l1,l2,⟨hrow,HK.o.iM⟩,by have:=HK.o.len;omega,fun j h1 h2=>HK.o.is j h1 h2⟩);have XK:=aa HK.o.ext;clear hrow HK;go_wp2;go_ret3;exact⟨⟨_,rfl,HA.o⟩,XK.o⟩
set_option maxRecDepth 512
set_option maxHeartbeats 200000
theorem xn (t:Ty):∀u:Ty,t.pure=u.pure→cH t=cH u:=by
 induction t using Ty.ind with
 |h t ih=>
 intro u hu;rw[Ty.aG t,Ty.aG u] at hu;injection hu with h1 h2 h3;have hl:=dA h3;rw[iJ,iJ];have e:t.args.all cH=u.args.all cH:=by
  have:∀l:List Ty,l.all cH=(l.map cH).all id:=fun l=>by rw[List.all_map];rfl
  rw[this,this,iQ cH cH hl (fun i k1 k2=>ih _ (ahh k1) _ (dL h3 k1 k2))]
 rw[e];unfold cN;rw[h1,h2,hl]
theorem xo {t u:Ty}(h:t.pure=u.pure):aQ t=aQ u:=by
 unfold aQ;rw[(pH t u h).1,(pH t u h).2,xn t u h]
theorem xp {t u:Tm}(h:t.pure=u.pure):t.kind=u.kind∧t.n=u.n∧t.name=u.name∧t.vars=u.vars∧t.types.map Ty.pure=u.types.map Ty.pure∧t.kids.map Tm.pure=u.kids.map Tm.pure:=by
 rw[Tm.aG t,Tm.aG u] at h;injection h with h1 h2 h3 h4 h5 h6;exact⟨h1,h2,h3,h4,h5,h6⟩
theorem M8 (t:Tm):∀u:Tm,t.pure=u.pure→t.size=u.size∧t.depth=u.depth∧t.tb=u.tb:=by
 induction t using Tm.ind with
 |h t ih=>
 intro u h;obtain⟨h1,h2,h3,h4,h5,h6⟩:=xp h;have hl:=dA h6;have e1:t.kids.map Tm.size=u.kids.map Tm.size:=iQ _ _ hl (fun i k1 k2=>(ih _ (ahh k1) _ (dL h6 k1 k2)).1);have e2:t.kids.map Tm.depth=u.kids.map Tm.depth:=iQ _ _ hl (fun i k1 k2=>(ih _ (ahh k1) _ (dL h6 k1 k2)).2.1);have e3:t.kids.map Tm.tb=u.kids.map Tm.tb:=iQ _ _ hl (fun i k1 k2=>(ih _ (ahh k1) _ (dL h6 k1 k2)).2.2);have e4:t.types.all aQ=u.types.all aQ:=by
  have:∀l:List Ty,l.all aQ=(l.map aQ).all id:=fun l=>by rw[List.all_map];rfl
  rw[this,this,iQ aQ aQ (dA h5) (fun i k1 k2=>xo (dL h5 k1 k2))]
 refine⟨by rw[Tm.size_eq,Tm.size_eq,e1],by rw[Tm.aN,Tm.aN,e2],?_⟩;rw[iP,iP,e3,h1]
 congr 1
 unfold bo;rw[h1,h2,h3,h4,dA h5,hl,e4]
theorem xq {t u:Tm}(h:t.pure=u.pure):cj t=cj u:=by
 obtain⟨h1,h2,h3⟩:=M8 t u h;unfold cj;rw[h1,h2,h3]
theorem H8 (t:Tm):∀u:Tm,t.pure=u.pure→cY t→cY u:=by
 induction t using Tm.ind with
 |h t ih=>
 intro u h hf;obtain⟨-,-,-,h4,h5,h6⟩:=xp h;refine .mk (by rw[←dA h5];exact hf.SI) (fun x hx => ?_) (by rw[←dA h6];exact hf.kl) (by rw[←h4];exact hf.vl) (fun k hk => ?_)
 ·obtain⟨i,k1,rfl⟩:=List.mem_iff_getElem.1 hx;have k2:i<t.types.length:=by rw[dA h5];exact k1
  rw[←(pH _ _ (dL h5 k2 k1)).1];exact hf.ty _ (ahh k2)
 ·obtain⟨i,k1,rfl⟩:=List.mem_iff_getElem.1 hk;have k2:i<t.kids.length:=by rw[dA h6];exact k1
  exact ih _ (ahh k2) _ (dL h6 k2 k1) (hf.kids _ (ahh k2))
def fh (N:Nat) (q:Tm.Pure):Prop:=∀t:Tm,t.pure=q→cY t∧t.size≤N
theorem fh.of {t:Tm}{N:Nat}(hf:cY t) (hs:t.size≤N):fh N t.pure:=fun u hu=>⟨H8 t u hu.symm hf,by rw[←(M8 t u hu.symm).1];exact hs⟩
theorem fh.mono {N M:Nat}{q:Tm.Pure}(h:fh N q) (hm:N≤M):fh M q:=fun t ht=>⟨(h t ht).1,aho (h t ht).2 hm⟩
theorem LL {α β:Type}{f:α→β}{l:List α}{b:β}(h:l.map f=[b]):∃a,l=[a]∧f a=b:=by
 match l,h with
 | [a],h=>exact⟨a,rfl,by simpa using h⟩
theorem LM {α β:Type}{f:α→β}{l:List α}{b c:β}(h:l.map f=[b,c]):∃a d,l=[a,d]∧f a=b∧f d=c:=by
 match l,h with
 | [a,d],h=>
  simp only[List.map_cons,List.map_nil,List.cons.injEq,and_true] at h;exact⟨a,d,rfl,h.1,h.2⟩
theorem fh.none (k n:Int) (s:aj):fh 1 (.mk k n s [] [] []):=fun t ht=>by
 rw[Tm.aG] at ht;injection ht with h1 h2 h3 h4 h5 h6;rw[List.map_eq_nil_iff] at h5 h6;refine⟨.mk (by rw[h5];exact ahj _) (fun x hx=>by rw[h5] at hx;cases hx) (by rw[h6];exact ahj _) (by rw[h4];exact ahj _) (fun k hk=>by rw[h6] at hk;cases hk),?_⟩;rw[Tm.size_eq,h6];exact ahi _
theorem fh.one {N:Nat}{k n:Int}{s:aj}{ts:List Ty.Pure}{q:Tm.Pure}(h1:ts.length≤10000) (h2:∀x:Ty,x.pure∈ts→x.size≤90000) (h:fh N q):fh (N+1) (.mk k n s [] ts [q]):=fun t ht=>by
 rw[Tm.aG] at ht;injection ht with _ _ _ h4 h5 h6;obtain⟨a,ha,hq⟩:=LL h6;have hx:=h a hq;refine⟨.mk (by have:=congrArg List.length h5;rw[List.length_map] at this;omega) (fun x hx=>h2 x (by rw[←h5];exact List.mem_map.2 ⟨x,hx,rfl⟩)) (by rw[ha];show 1≤1000000;omega) (by rw[h4];exact ahj _) (fun k hk=>by rw[ha,ahx] at hk;subst hk;exact hx.1),?_⟩;rw[Tm.size_eq,ha];show(a.size+0)+1≤N+1;have:=hx.2;omega
theorem fh.app {N M:Nat}{f x:Tm.Pure}(hf:fh N f) (hx:fh M x):fh (N+M+1) (nk f x):=fun t ht=>by
 unfold nk at ht;rw[Tm.aG] at ht;injection ht with _ _ _ h4 h5 h6;rw[List.map_eq_nil_iff] at h5;obtain⟨a,d,ha,ea,ed⟩:=LM h6;have ka:=hf a ea;have kd:=hx d ed;refine⟨.mk (by rw[h5];exact ahj _) (fun x hx=>by rw[h5] at hx;cases hx) (by rw[ha];show 2≤1000000;omega) (by rw[h4];exact ahj _) (fun k hk=>by
  rw[ha] at hk
  rcases List.mem_cons.1 hk with rfl|hk
  ·exact ka.1
  ·rw[ahx] at hk;subst hk;exact kd.1),?_⟩
 rw[Tm.size_eq,ha];show(a.size+(d.size+0))+1≤N+M+1;have:=ka.2;have:=kd.2;omega
theorem fh.apps {EV:Pf→Tm.Pure}:∀(l:List Pf) (N:Nat) (f:Tm.Pure),fh N f→(∀k∈l,fh (3002*k.size - 1) (EV k))→fh (N+3002*(l.map Pf.size).sum) ((l.map EV).foldl nk f)
 | [],N,f,h,_=>by simpa using h
 |x :: l,N,f,h,hk=>by
  have hx:=Pf.size_pos x;have h1:=fh.mono (fh.app h (hk x (by simp))) (show N+(3002*x.size - 1)+1≤N+3002*x.size by omega);have h2:=fh.apps l _ _ h1 (fun k Kd=>hk k (by simp[Kd]));simp only[List.map_cons,List.foldl_cons,List.sum_cons];exact h2.mono (by rw[Nat.mul_add];omega)
theorem Pn {cs:List dK}{ins:List cX}{preds:List Pd}{given:List Tm}(hl:preds.length=given.length) (hg:∀t∈given,cY t∧t.size≤3001) (p:Pf):(bm cs ins preds p).isSome=true→fh (3002*p.size - 1) (kE cs ins preds (given.map Tm.pure) p):=by
 induction p using Pf.ind with
 |h p ih=>
 intro hp;obtain⟨q,hq⟩:=Option.isSome_iff_exists.1 hp;have Qe:=Pf.size_pos p
 rcases dM hq with ⟨k1,hk,ht,n0,n1⟩|⟨k2,ht,k,b,hk,hb⟩|⟨k3,x,hx,nr,jc⟩
 ·have hlt:p.n.toNat<given.length:=by omega
  have hz:om (given.map Tm.pure) p.n=some (given[p.n.toNat]'hlt).pure:=by
   unfold om;rw[if_pos n0,List.getElem?_map,ahw hlt];rfl
  rw[lJ];unfold Mo;rw[if_pos k1,hz,Option.getD_some];have:=hg _ (ahh hlt);exact fh.of this.1 (by omega)
 ·have h1:=ih k (by rw[hk];simp) (by rw[hb];rfl);have hs:p.size=k.size+1:=by rw[Pf.size_eq,hk];simp
  rw[lJ];unfold Mo;rw[if_neg (by omega),if_pos k2,hk];have hkz:=Pf.size_pos k;exact(fh.one (ahj _) (fun x hx=>by cases hx) h1).mono (by omega)
 ·rw[oL k3 hx];have MO:=hq;rw[ew] at MO;obtain⟨h1,h2⟩:=Option.filter_eq_some_iff.1 MO;unfold gC at h1;rw[if_neg (by omega),if_neg (by omega),if_pos k3] at h1;unfold bZ at h1;obtain⟨y,-,h1⟩:=Option.bind_eq_some_iff.1 h1
  split at h1
  ·rename_i hc
   injection h1 with h1;subst h1;have hsz:(Ty.mk y.aq 0 p.T p.tc p.types).size≤4096:=by
    unfold eQ at h2;rw[ahv] at h2;have h3:=h2.2;unfold az at h3;simp only[ahv,decide_eq_true_eq] at h3;exact h3.1.1
   have TT:p.types.length≤4096:=by
    have:=Ty.gq (Ty.mk y.aq 0 p.T p.tc p.types);have e:(Ty.mk y.aq 0 p.T p.tc p.types).args=p.types:=rfl;rw[e] at this;omega
   have jb:∀x:Ty,x.pure∈p.types.map Ty.pure→x.size≤90000:=fun x hx=>by
    obtain⟨z,hz,e⟩:=List.mem_map.1 hx;rw[←(pH z x e).1];have:=Ty.bG (t:=Ty.mk y.aq 0 p.T p.tc p.types) (k:=z) hz;omega
   have hf:fh 2 (if p.types.map Ty.pure=[] then Tm.Pure.mk 1 0 (gH x.cls x.aq) [] [] [] else .mk 6 0 [] [] (p.types.map Ty.pure) [.mk 1 0 (gH x.cls x.aq) [] [] []]):=by
    split
    ·exact(fh.none _ _ _).mono (by omega)
    ·exact fh.one (by simp;omega) jb (fh.none _ _ _)
   have h5:=fh.apps p.kids 2 _ hf (fun k hk=>ih k hk (by obtain⟨b,hb⟩:=jc k hk;rw[hb];rfl));exact h5.mono (by rw[Pf.size_eq,Nat.mul_add];omega)
  ·cases h1
theorem tI {cs:List dK}{ins:List cX}{preds:List Pd}{given:List Tm}(hg:∀t∈given,cY t∧t.size≤3001){p:Pf}(hp:p.size≤4096):nU cs ins preds given p:=fun h hl t ht=>by
 have:=Pn hl hg p h t ht;exact⟨this.1,by omega⟩
theorem xr {cs:List dK}{ins:List cX}{preds:List Pd}{p q:Pf}(h:p.pure=q.pure):(bm cs ins preds p).isSome=(bm cs ins preds q).isSome∧(bm cs ins preds p).map Pd.cls=(bm cs ins preds q).map Pd.cls:=by
 have h1:=En cs ins preds p q h;have h2:=En cs ins preds q p h.symm;cases ha:bm cs ins preds p with
 |none=>
  cases hb:bm cs ins preds q with
  |none=>exact⟨rfl,rfl⟩
  |some b=>
   obtain⟨y,hy,-⟩:=h2 b hb;rw[ha] at hy;cases hy
 |some a=>
  obtain⟨y,hy,e1,-⟩:=h1 a ha;rw[hy];exact⟨rfl,by rw[Option.map_some,Option.map_some,e1]⟩
theorem LN (cs:List dK) (ins:List cX) (preds:List Pd) (G:List Tm.Pure) (p:Pf):∀q:Pf,p.pure=q.pure→kE cs ins preds G p=kE cs ins preds G q:=by
 induction p using Pf.ind with
 |h p ih=>
 intro q h;obtain⟨h1,h2,h3,h4⟩:=vz h;have hl:=dA h4;have e1:p.kids.map (kE cs ins preds G)=q.kids.map (kE cs ins preds G):=iQ _ _ hl (fun i k1 k2=>ih _ (ahh k1) _ (dL h4 k1 k2));have e2:(bm cs ins preds (p.kids.getD 0 Pf.zero)).map Pd.cls=(bm cs ins preds (q.kids.getD 0 Pf.zero)).map Pd.cls:=by
  by_cases hz:0<p.kids.length
  ·have hz':0<q.kids.length:=by omega
   have a1:p.kids.getD 0 Pf.zero=p.kids[0]'hz:=by simp[List.getD,hz]
   have a2:q.kids.getD 0 Pf.zero=q.kids[0]'hz':=by simp[List.getD,hz']
   rw[a1,a2];exact(xr (dL h4 hz hz')).2
  ·have z1:p.kids=[]:=List.length_eq_zero_iff.1 (by omega);have z2:q.kids=[]:=List.length_eq_zero_iff.1 (by omega);rw[z1,z2]
 rw[lJ,lJ,e1,h3];unfold Mo;dsimp only;rw[e2,h1,h2]
section
variable {cs : List dK}{ins:List cX}{preds:List Pd}{given:List Tm}{q:Pd}
open Classical in
theorem Ia {w w':World}{p:Pf}{t:Tm}{m:Nat}(h:oy w w' cs ins preds given p t m):m=if preds.length≠given.length∨bm cs ins preds p=none then 1 else if ∃u:Tm,u.pure=kE cs ins preds (given.map Tm.pure) p∧cj u=true then 0 else 2:=by
 rcases h.o with ⟨h1,-,h2⟩|⟨h1,h2,u,hu,h3⟩
 ·rw[if_pos (h2.imp id (fun h=>h.2))];exact h1
 ·have hn:¬(preds.length≠given.length∨bm cs ins preds p=none):=by
   rintro (h|h)
   ·exact h h1
   ·rw[h] at h2;cases h2
  rw[if_neg hn]
  rcases h3 with ⟨h3,-,h4⟩|⟨h3,-,h4⟩
  ·rw[if_pos ⟨u,hu,h4⟩];exact h3
  ·rw[if_neg]
   ·exact h3
   ·rintro⟨y,hy,h5⟩;rw[xq (hy.trans hu.symm),h4] at h5;cases h5
theorem LO {w w' x x':World}{p p':Pf}{t t':Tm}{m m':Nat}(e:p.pure=p'.pure) (h:oy w w' cs ins preds given p t m) (h':oy x x' cs ins preds given p' t' m'):m=m':=by
 have h1:=(xr (cs:=cs) (ins:=ins) (preds:=preds) e).1;have h2:bm cs ins preds p=none↔bm cs ins preds p'=none:=by
  cases a:bm cs ins preds p<;>cases b:bm cs ins preds p'<;>simp_all
 have hB:(∃u:Tm,u.pure=kE cs ins preds (given.map Tm.pure) p∧cj u=true)↔∃u:Tm,u.pure=kE cs ins preds (given.map Tm.pure) p'∧cj u=true:=by
  rw[LN cs ins preds (given.map Tm.pure) p p' e]
 have e1:=Ia h;have e2:=Ia h'
 by_cases a:preds.length≠given.length∨bm cs ins preds p=none
 ·have a':preds.length≠given.length∨bm cs ins preds p'=none:=a.imp id h2.1;rw[if_pos a] at e1;rw[if_pos a'] at e2;omega
 ·have a':¬(preds.length≠given.length∨bm cs ins preds p'=none):=fun k=>a (k.imp id h2.2)
  rw[if_neg a] at e1;rw[if_neg a'] at e2
  by_cases b:∃u:Tm,u.pure=kE cs ins preds (given.map Tm.pure) p∧cj u=true
  ·rw[if_pos b] at e1;rw[if_pos (hB.1 b)] at e2;omega
  ·rw[if_neg b] at e1;rw[if_neg (fun k=>b (hB.2 k))] at e2;omega
end
set_option maxRecDepth 10000
set_option maxHeartbeats 8000000
theorem Ib (x:dz) (P:Option Addr) (pc:Nat) (preds:List Pd) (L:Option Addr) (lc:Nat) (given:List Tm) (hpl:∀y∈x.insts,y.preds.length≤40000) (ur:∀d∈preds,d.ty.size≤900000) (p:Pf) (hsz:p.size≤1000000) (hwd:gF p=true) (hsm:eB p=true) (w:World) (he:dX w x) (hP:bA w P preds) (hL:bK w L given) (hp:bM w p) (qB:nU x.ag x.insts preds given p) :
  Calls Tryz.prog 9 #[eX x,.slice P preds.length pc,.slice L given.length lc,cr p] w fun e w'=>(∃t n,e=.returned (.tuple #[bl t,.int .i64 (n:Nat)])∧oy w w' x.ag x.insts preds given p t n)∧Ext w w':=by
 obtain⟨W,hW⟩:∃W,W=((w.alloc (.cells #[.slice x.D x.aA.length x.dc,.slice x.C x.ag.length x.cc,.slice x.I x.insts.length x.ic] 26)).alloc (.cells #[.int .i64 p.kind,.int .i64 p.n,.slice p.T p.types.length p.tc,.slice p.A p.kids.length p.cap] 34)).alloc (.cells #[.int .i64 0,.int .i64 0,.string ⟨#[]⟩,.slice none 0 0,.slice none 0 0,.slice none 0 0] 40):=⟨_,rfl⟩;have HW:=aa hW.symm;have X0:ahg (Ext w W):=aa (by rw[hW];exact(((eR _).alloc _).alloc _).alloc _);have B1:ahg (aJ W w.heap.size x):=aa (by rw[hW];exact(aJ.new w x).ext (((eR _).alloc _).alloc _));have B2:ahg (aO W (w.heap.size+1) p):=aa (by rw[hW];exact aO.ext (ah _ _ _ (by simp)) ((eR _).alloc _));have B3:ahg (W.heap[w.heap.size+1+1]?=some (.cells #[.int .i64 0,.int .i64 0,.string ⟨#[]⟩,.slice none 0 0,.slice none 0 0,.slice none 0 0] 40)):=aa (by rw[hW];exact ah _ _ _ (by simp));have bS:ahg (W.heap.size=w.heap.size+3):=aa (by rw[hW];simp);have Dz:=aa (fun w' (e:Ext W w')=>aa (pX x P pc preds p (bm x.ag x.insts preds p) (sQ x P pc preds hpl ur p hsz hwd) w' (he.ext (X0.o.trans e)) (hP.ext (X0.o.trans e)) (hp.ext (X0.o.trans e)) hsm));have HT:=aa (fun w' (e:Ext W w') (h:(bm x.ag x.insts preds p).isSome=true) (hl:given.length=preds.length)=>aa (Ct x P pc preds L lc given hpl ur p hsz hwd hsm w' (he.ext (X0.o.trans e)) (hP.ext (X0.o.trans e)) (hL.ext (X0.o.trans e)) (hp.ext (X0.o.trans e)) h hl));have uF:=aa qB;have ry:ahg (∀c,w.heap.size≤c→(∀g∈given,ay c g)∧aL c p):=aa (fun c hc=>⟨fun g hg=>bw (hL.kids g hg) hc,dm hp hc⟩);have r8:=aa (fun w' (e:Ext W w')=>ahk ((B1.o.ext e).lt) ((B1.o.ext e).cells));have S7:=aa (fun w' (e:Ext W w')=>ahk ((B2.o.ext e).lt) ((B2.o.ext e).cells));unfold nU at uF;clear hW he hP hL hp qB B1 B2 hsz hwd hsm hpl ur;generalize hO:bm x.ag x.insts preds p=O at *;generalize Ok:kE x.ag x.insts preds (given.map Tm.pure) p=EV at *;have HO:=aa hO;have S8:=aa Ok;clear hO Ok;obtain⟨n1,e0,e1,e2⟩:=r8.o W (eR _);obtain⟨n2,c0,c1,c2,c3⟩:=S7.o W (eR _);unfold eX cr at *;have Yq:w.heap.size+1+1<W.heap.size:=by rw[bS.o];omega
 by_cases hlen:preds.length=given.length
 ·have hne:((preds.length:Int) != (given.length:Int))=false:=by simp[hlen]
  have lV:=aa hlen;clear hlen;go_enter Tryz.func9,Tryz.ntmps9;go_upto_region 1 with fail;rw[HW.o];clear HW;go_upto_region 3 with fail;clear hne;go_wp2_with fail;refine(Dz.o _ (eR _)).o.mono ?_;rintro e w2 ⟨⟨b,m,rfl,Ku⟩,hx⟩;have X2:=aa hx;have Li:=aa Ku;clear hx Ku Dz n1 e0 e1 e2 n2 c0 c1 c2 c3;unfold jC;go_upto_region 4 with fail;refine bC ?_;intro W4 sF;have X4:ahg (Ext W W4):=aa (by rw[sF];exact X2.o.alloc _);clear sF;cases O with
  |none=>
   obtain⟨rfl,-⟩:=Li.o.no rfl;clear Li HT uF;have B4:=aa ((X4.o.heap (ae B3.o)).trans B3.o);obtain⟨z0,z1,z2,z3,z4,z5,iE,iF,iG,iH,um,uo⟩:=bn B4.o;have hz:=ae B4.o;have XF:=aa (bg (X0.o.trans X4.o) (by omega:w.heap.size≤w.heap.size+1+1) Tm.zero);go_wp2;refine bodyPost_ret (v:=.tuple #[bl Tm.zero,.int .i64 ((1:Nat):Int)]) ?_ rfl ⟨⟨Tm.zero,1,rfl,⟨aM.zero _,fun c _ _ _=>eL c,.inl ⟨rfl,rfl,.inr ⟨lV.o,HO.o⟩⟩⟩⟩,XF.o⟩;simp[results,Tryz.f9,go_sem,z0,z1,z2,z3,z4,z5];exact⟨rfl,rfl,rfl,⟨rfl,rfl,rfl⟩,⟨rfl,rfl,rfl⟩,rfl,rfl,rfl⟩
  |some a=>
   have xQ:=aa (fun w' (e:Ext W w')=>aa ((HT.o w' e rfl lV.o.symm).o));obtain⟨rfl,-⟩:=Li.o.yes a rfl;clear Li HT;obtain⟨n1,e0,e1,e2⟩:=r8.o W4 X4.o;obtain⟨n2,c0,c1,c2,c3⟩:=S7.o W4 X4.o;go_wp2_with fail;refine(xQ.o W4 X4.o).o.mono ?_;rintro e w6 ⟨⟨t,rfl,ht⟩,hx⟩;have X6:=aa (X4.o.trans hx);have nt:=aa ht.iM;have Kr:=aa ht.is;have h9:=ry.o (w.heap.size+1+1) (by omega);have ou:=aa (ht.away (w.heap.size+1+1) (by have:=X4.o.size;omega) h9.1 h9.2);have wJ:ahg (∀c,c<w.heap.size→(∀g∈given,ay c g)→aL c p→ay c t):=aa (fun c hc h1 h2=>ht.away c (by have:=X4.o.size;omega) h1 h2);obtain⟨hf,hs⟩:=uF.o rfl lV.o t (by rw[Kr.o]);have HL:=aa (fun w' (e:Ext w6 w')=>aa (CA t w' (nt.o.ext e) hf hs));unfold bl at HL;clear ht hx hf hs uF xQ h9 n1 e0 e1 e2 n2 c0 c1 c2 c3;generalize hR:cj t=R at *;have Ta:=aa hR;clear hR;go_upto_region 7 with fail;refine bC ?_;intro W7 sG;have E7:ahg (Ext w6 W7):=aa (by rw[sG];exact(eR _).alloc _);have D7:ahg (av W7 w6.heap.size t):=aa (by rw[sG];exact av.new w6 t);clear sG;obtain⟨d0,d1,d2,d3,d4,d5⟩:=D7.o.cells;have d6:=D7.o.lt;go_wp2_with fail;refine(HL.o W7 E7.o).o.mono ?_;rintro e w9 ⟨rfl,hx⟩;have E9:=aa (E7.o.trans hx);have D9:=aa (D7.o.ext hx);have X9:=aa (X6.o.trans E9.o);clear hx HL d0 d1 d2 d3 d4 d5 d6 E7 D7;cases R
   ·have B4:=aa ((X9.o.heap (ae B3.o)).trans B3.o);obtain⟨z0,z1,z2,z3,z4,z5,iE,iF,iG,iH,um,uo⟩:=bn B4.o;have hz:=ae B4.o;have XF:=aa (bg (X0.o.trans X9.o) (by omega:w.heap.size≤w.heap.size+1+1) Tm.zero);go_wp2;refine bodyPost_ret (v:=.tuple #[bl Tm.zero,.int .i64 ((2:Nat):Int)]) ?_ rfl ⟨⟨Tm.zero,2,rfl,⟨aM.zero _,fun c _ _ _=>eL c,.inr ⟨lV.o,by rw[HO.o];rfl,t,by rw[Kr.o,S8.o],.inr ⟨rfl,rfl,Ta.o⟩⟩⟩⟩,XF.o⟩;simp[results,Tryz.f9,go_sem,z0,z1,z2,z3,z4,z5];exact⟨rfl,rfl,rfl,⟨rfl,rfl,rfl⟩,⟨rfl,rfl,rfl⟩,rfl,rfl,rfl⟩
   ·obtain⟨d0,d1,d2,d3,d4,d5⟩:=D9.o.cells;have d6:=D9.o.lt;have B4:=aa ((X9.o.heap (ae B3.o)).trans B3.o);obtain⟨z0,z1,z2,z3,z4,z5,iE,iF,iG,iH,um,uo⟩:=bn B4.o;have hz:=ae B4.o;have XF:=aa (bg (X0.o.trans X9.o) (by omega:w.heap.size≤w.heap.size+1+1) t);have HI:=aa ((nt.o.ext E9.o).grown (aZ w9 (w.heap.size+1+1) t) (fun c e=>by injection e with e;subst e;exact ou.o));go_wp2;refine bodyPost_ret (v:=.tuple #[bl t,.int .i64 ((0:Nat):Int)]) ?_ rfl ⟨⟨t,0,rfl,⟨HI.o,wJ.o,.inr ⟨lV.o,by rw[HO.o];rfl,t,by rw[Kr.o,S8.o],.inl ⟨rfl,rfl,Ta.o⟩⟩⟩⟩,XF.o⟩;simp[results,Tryz.f9,go_sem,z0,z1,z2,z3,z4,z5]
 ·have hne:((preds.length:Int) != (given.length:Int))=true:=by simp;omega
  go_enter Tryz.func9,Tryz.ntmps9;go_upto_region 1 with fail;rw[HW.o];clear HW;have B4:=aa (((eR W).heap (ae B3.o)).trans B3.o);obtain⟨z0,z1,z2,z3,z4,z5,iE,iF,iG,iH,um,uo⟩:=bn B4.o;have hz:=ae B4.o;have XF:=aa (bg (X0.o.trans (eR W)) (by omega:w.heap.size≤w.heap.size+1+1) Tm.zero);go_wp2;refine bodyPost_ret (v:=.tuple #[bl Tm.zero,.int .i64 ((1:Nat):Int)]) ?_ rfl ⟨⟨Tm.zero,1,rfl,⟨aM.zero _,fun c _ _ _=>eL c,.inl ⟨rfl,rfl,.inl hlen⟩⟩⟩,XF.o⟩;simp[results,Tryz.f9,go_sem,z0,z1,z2,z3,z4,z5];exact⟨rfl,rfl,rfl,⟨rfl,rfl,rfl⟩,⟨rfl,rfl,rfl⟩,rfl,rfl,rfl⟩
set_option maxRecDepth 512
set_option maxHeartbeats 200000
end Go.Proofs.YtigafbmabjglfaaGreatDoor
