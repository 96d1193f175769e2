import Derived.Test.YtigafbmabjglfaaGreatDoorJA4
import Derived.Deep.RegionHeld3
import Derived.Laws.StructEq
namespace Go.Proofs.YtigafbmabjglfaaGreatDoor
open Go.RowKit
def tK (t:Ty):Value:=.agg #[encStr t.aq,.int .i64 t.var,.int .i64 t.args.length]
set_option maxHeartbeats 1000000 in
theorem Lm (t:Ty) (w:World):Calls Tryz.prog 167 #[bl t] w fun e w'=>e=.returned (tK t)∧Ext w w':=by
 unfold bl at *;go_enter Tryz.func167,Tryz.ntmps167;go_wp2;refine bodyPost_ret (v:=tK t) ?_ rfl ⟨rfl,(by repeat(first|exact eR _|exact eA (by assumption) _|refine eA ?_ _|refine eM ?_ _ _|refine eD ?_|refine eN ?_ _))⟩;simp[results,Tryz.f167,tK,go_sem]
def lC (a b:Ty):Bool:=decide (a.aq=b.aq)&&decide (a.var=b.var)&&decide (a.args.length=b.args.length)
theorem jz (w:World) (s s':aj) (v v':Int) (n n':Nat):(binOp .eql 246 (.agg #[encStr s,.int .i64 v,.int .i64 n]) (.agg #[encStr s',.int .i64 v',.int .i64 n'])).run Tryz.prog w=.ok (.bool (decide (s=s')&&decide (v=v')&&decide (n=n'))) w:=by
 rw[run_eql_struct];simp only[encStr];cases h1:decide (s=s')<;>cases h2:decide (v=v')<;>cases h3:decide (n=n')<;>simp only[decide_eq_true_eq,decide_eq_false_iff_not] at h1 h2 h3<;>simp[go_sem,h1,h2,h3,Int.natCast_inj,Result.andThen]
theorem vt (w:World) (s s':aj) (v v':Int) (n n':Nat):(binOp .neq 246 (.agg #[encStr s,.int .i64 v,.int .i64 n]) (.agg #[encStr s',.int .i64 v',.int .i64 n'])).run Tryz.prog w=.ok (.bool (!(decide (s=s')&&decide (v=v')&&decide (n=n')))) w:=by
 have h:=jz w s s' v v' n n';rw[run_eql_struct] at h;rw[run_neq_struct];generalize (Op.equalIn 10000 _ _ _).run Tryz.prog w=r at *;cases r with
 |ok b w2=>simp only[Result.andThen] at h ⊢;injection h with h1 h2;injection h1 with h1;rw[h1,h2]
 |halt x w2=>simp[Result.andThen] at h
set_option maxRecDepth 10000
set_option maxHeartbeats 8000000
theorem FZ (a:Ty):∀(b:Ty) (w:World),aH w a→aH w b→Calls Tryz.prog 172 #[bl a,bl b] w fun e w'=>e=.returned (.bool (bN a b))∧Ext w w':=by
 induction a using Ty.ind with
 |h a ih=>
 intro b w ha hb;have IH:=aa ih;have NL:=aa ha.all;have NM:=aa hb.all;have Pb:=ha.le;have hma:=ha.max;have Pc:=hb.le;have hmb:=hb.max;obtain⟨W,hW⟩:∃W,W=(w.alloc (.cells #[encStr a.aq,.int .i64 a.var,.slice a.A a.args.length a.cap] 53)).alloc (.cells #[encStr b.aq,.int .i64 b.var,.slice b.A b.args.length b.cap] 53):=⟨_,rfl⟩;have X0:aiE (Ext w W):=aa (by rw[hW];exact((eR _).alloc _).alloc _);have B1:aiE (aU W w.heap.size a):=aa (by rw[hW];exact(aU.new w a).ext ((eR _).alloc _));have B2:aiE (aU W (w.heap.size+1) b):=aa (by rw[hW];have:=aU.new (w.alloc (.cells #[encStr a.aq,.int .i64 a.var,.slice a.A a.args.length a.cap] 53)) b;rwa [World.size_alloc] at this);have Yc:=aa (fun w'=>aa (Lm a w'));have Yd:=aa (fun w'=>aa (Lm b w'));have HP:=aa (oQ a b);clear ih ha hb;unfold tK at Yc Yd;unfold bl at *;have c0:=B1.o.c0;have c1:=B1.o.c1;have c2:=B1.o.c2;have d0:=B2.o.c0;have d1:=B2.o.c1;have d2:=B2.o.c2;have hne:∀w':World,(binOp .neq 246 (.agg #[encStr a.aq,.int .i64 a.var,.int .i64 a.args.length]) (.agg #[encStr b.aq,.int .i64 b.var,.int .i64 b.args.length])).run Tryz.prog w'=.ok (.bool (!lC a b)) w':=fun w'=>vt w' _ _ _ _ _ _
 have hgd:∀w':World,(eqGuard .neq 246 (.tmp 7) (.tmp 9) (.agg #[encStr a.aq,.int .i64 a.var,.int .i64 a.args.length]) (.agg #[encStr b.aq,.int .i64 b.var,.int .i64 b.args.length])).run Tryz.prog w'=.ok () w':=fun w'=>run_eqGuard_agg w' _ _ _ _ _ _ (by kernel_rfl)
 cases hh:lC a b
 ·have hR:bN a b=false:=by rw[HP.o];unfold lC at hh;rw[hh];rfl
  rw[hR];clear hR;rw[hh] at hne;go_enter Tryz.func172,Tryz.ntmps172;go_wp2;rw[←hW];clear hW
  go_region_held3 (fun w'=>w'.cell? ⟨w.heap.size,0,none⟩=some (encStr a.aq)∧w'.cell? ⟨w.heap.size,1,none⟩=some (.int .i64 a.var)∧w'.cell? ⟨w.heap.size,2,none⟩=some (.slice a.A a.args.length a.cap)∧w'.cell? ⟨w.heap.size+1,0,none⟩=some (encStr b.aq)∧w'.cell? ⟨w.heap.size+1,1,none⟩=some (.int .i64 b.var)∧w'.cell? ⟨w.heap.size+1,2,none⟩=some (.slice b.A b.args.length b.cap)) (first|assumption|go_keep) (first
   |(
    go_at_call 167
    with_reducible refine Calls.mono (Yc.o _).o ?_
    rintro e w2 ⟨rfl,hx2⟩;have X2:=aa (((eR W).drew).trans hx2);have e1:=B1.o.ext X2.o;have e2:=B2.o.ext X2.o;have k2:=aiI e1.c0 (aiI e1.c1 (aiI e1.c2 (aiI e2.c0 (aiI e2.c1 e2.c2))));clear hx2 e1 e2)
   |(
    go_at_call 167
    with_reducible refine Calls.mono (Yd.o _).o ?_
    rintro e w3 ⟨rfl,hx3⟩;have X3:=aa (X2.o.trans hx3);have e1:=B1.o.ext X3.o;have e2:=B2.o.ext X3.o;have k3:=aiI e1.c0 (aiI e1.c1 (aiI e1.c2 (aiI e2.c0 (aiI e2.c1 e2.c2))));clear hx3 e1 e2))
  clear k2 k3;go_wp2;go_ret;exact⟨rfl,X0.o.trans X3.o⟩
 ·have HR:aiE (bN a b=(a.args.zip b.args).all fun p=>bN p.1 p.2):=aa (by rw[HP.o];have:=hh;unfold lC at this;rw[this];rfl);have HL:aiE (a.args.length=b.args.length):=aa (by unfold lC at hh;simp only[aiT,decide_eq_true_eq] at hh;exact hh.2);generalize bN a b=R at *;rw[hh] at hne;go_enter Tryz.func172,Tryz.ntmps172;go_wp2;rw[←hW];clear hW
  go_region_held3 (fun w'=>w'.cell? ⟨w.heap.size,0,none⟩=some (encStr a.aq)∧w'.cell? ⟨w.heap.size,1,none⟩=some (.int .i64 a.var)∧w'.cell? ⟨w.heap.size,2,none⟩=some (.slice a.A a.args.length a.cap)∧w'.cell? ⟨w.heap.size+1,0,none⟩=some (encStr b.aq)∧w'.cell? ⟨w.heap.size+1,1,none⟩=some (.int .i64 b.var)∧w'.cell? ⟨w.heap.size+1,2,none⟩=some (.slice b.A b.args.length b.cap)) (first|assumption|go_keep) (first
   |(
    go_at_call 167
    with_reducible refine Calls.mono (Yc.o _).o ?_
    rintro e w2 ⟨rfl,hx2⟩;have X2:=aa (((eR W).drew).trans hx2);have e1:=B1.o.ext X2.o;have e2:=B2.o.ext X2.o;have k2:=aiI e1.c0 (aiI e1.c1 (aiI e1.c2 (aiI e2.c0 (aiI e2.c1 e2.c2))));clear hx2 e1 e2)
   |(
    go_at_call 167
    with_reducible refine Calls.mono (Yd.o _).o ?_
    rintro e w3 ⟨rfl,hx3⟩;have X3:=aa (X2.o.trans hx3);have e1:=B1.o.ext X3.o;have e2:=B2.o.ext X3.o;have k3:=aiI e1.c0 (aiI e1.c1 (aiI e1.c2 (aiI e2.c0 (aiI e2.c1 e2.c2))));clear hx3 e1 e2))
  clear k2 k3;have O1:aiE (∀p∈(a.args.zip b.args).take 0,bN p.1 p.2=true):=aa (by simp);have Ye:=aa (eR w3);go_wp2
  go_loopw [14] (fun i wr=>∃k:Nat,k≤a.args.length∧i=.int .i64 k∧aiE (∀p∈(a.args.zip b.args).take k,bN p.1 p.2=true)∧aiE (Ext w3 wr)) (fun i _=>a.args.length - (intOf i).toNat)
  case atStart=>exact⟨0,aiH _,rfl,O1,Ye⟩
  case round=>
   obtain⟨k,hk,rfl,HA,HX⟩:=hrel
   by_cases hlt:k<a.args.length
   ·have gJ:k<b.args.length:=by rw[←HL.o];exact hlt
    have aN:(k:Int)<(a.args.length:Int):=by omega
    have SK:(k:Int)<(b.args.length:Int):=by omega
    have cV:(0:Int)≤(k:Int):=by omega
    have XR:=aa (X3.o.trans HX.o);obtain⟨p,o,SL,hp,q0,q1,q2⟩:=(NL.o.ext (X0.o.trans XR.o)).at_ hlt;obtain⟨p',o',SM,F0,r0,r1,r2⟩:=(NM.o.ext (X0.o.trans XR.o)).at_ gJ;have HC:=aa (fun w' (e:Ext wr w')=>aa (IH.o _ (aiF hlt) (b.args[k]'gJ) w' ((NL.o.args _ (aiF hlt)).ext (X0.o.trans (XR.o.trans e))) ((NM.o.args _ (aiF gJ)).ext (X0.o.trans (XR.o.trans e)))));have dh:aiE ((a.args.zip b.args).take (k+1)=(a.args.zip b.args).take k++[(a.args[k]'hlt,b.args[k]'gJ)]):=aa (by
     rw[aiJ (by rw[List.length_zip];omega),List.getElem_zip])
    have mZ:aiE ((a.args[k]'hlt,b.args[k]'gJ)∈a.args.zip b.args):=aa (by rw[List.mem_iff_getElem];exact⟨k,by rw[List.length_zip];omega,List.getElem_zip⟩);have C1:=B1.o.ext XR.o;have C2:=B2.o.ext XR.o;have c0:=C1.c0;have c1:=C1.c1;have c2:=C1.c2;have d0:=C2.c0;have d1:=C2.c1;have d2:=C2.c2;rw[SL] at c2;rw[SM] at d2;clear C1 C2 SL SM;have Fv:=aa (fun w' (e:Ext wr w')=>aiI (e.cell c2) (aiI (e.cell d2) (aiI (e.cell q0) (aiI (e.cell q1) (aiI (e.cell q2) (aiI (e.cell r0) (aiI (e.cell r1) (e.cell r2))))))));generalize a.args[k]'hlt=x at *;generalize b.args[k]'gJ=y at *;go_wp2
    go_region_held3 (fun w'=>w'.cell? ⟨w.heap.size,2,none⟩=some (.slice (some ⟨p,o,none⟩) a.args.length a.cap)∧w'.cell? ⟨w.heap.size+1,2,none⟩=some (.slice (some ⟨p',o',none⟩) b.args.length b.cap)∧w'.cell? ⟨p,o+k*3,none⟩=some (.string ⟨x.aq.toArray⟩)∧w'.cell? ⟨p,o+k*3+1,none⟩=some (.int .i64 x.var)∧w'.cell? ⟨p,o+k*3+2,none⟩=some (.slice x.A x.args.length x.cap)∧w'.cell? ⟨p',o'+k*3,none⟩=some (.string ⟨y.aq.toArray⟩)∧w'.cell? ⟨p',o'+k*3+1,none⟩=some (.int .i64 y.var)∧w'.cell? ⟨p',o'+k*3+2,none⟩=some (.slice y.A y.args.length y.cap)) (first|assumption|go_keep) (first
     |(
      go_at_call 172
      refine Calls.mono (HC.o _ ((eR _).drew)).o ?_;rintro e w5 ⟨rfl,jA⟩;have X5:=aa (HX.o.trans (((eR wr).drew).trans jA));have k5:=Fv.o _ (((eR wr).drew).trans jA);clear jA))
    clear k5;cases hs:bN x y
    ·have hR:R=false:=by
      rw[HR.o,←Bool.not_eq_true,aiY];intro h;have:=h _ mZ.o;rw[hs] at this;cases this
     clear HR HP;subst hR;go_wp2;go_ret;exact⟨rfl,X0.o.trans (X3.o.trans X5.o)⟩
    ·go_wp2;go_roundw
     case rel=>
      refine⟨k+1,hlt,by go_num,aa (fun p hp => ?_),X5⟩;rw[dh.o,List.mem_append,aiV] at hp
      rcases hp with hp|rfl
      ·exact HA.o p hp
      ·exact hs
     case measure=>simp[intOf];omega
   ·have bS:¬(k:Int)<(a.args.length:Int):=by omega
    have hR:R=true:=by
     rw[HR.o,aiY];intro p hp;exact HA.o p (by rw[aiK (by rw[List.length_zip];omega)];exact hp)
    clear HR HP;subst hR;go_wp2;go_ret;exact⟨rfl,X0.o.trans (X3.o.trans HX.o)⟩
theorem qu (t:Ty):∀(w:World),aH w t→t.size≤1000000 →
  Calls Tryz.prog 148 #[bl t] w fun e w'=>e=.returned (.int .i64 (t.size:Int))∧Ext w w':=by
 induction t using Ty.ind with
 |h t ih=>
 intro w h hsz;have IH:=aa ih;have Hk:=aa h.all;have hle:=h.le;have hmx:=h.max;have fI:=aa (aU.new w t);have X0:aiE (Ext w (w.alloc (.cells #[encStr t.aq,.int .i64 t.var,.slice t.A t.args.length t.cap] 53))):=aa ((eR w).alloc _);have HS:aiE (t.size=aF t.args+1):=aa (Ty.size_eq t);have pD:=aa (fun k (hk:k<t.args.length)=>fp t.args hk);have CS:=aa (fun k=>kP t.args k);have ki:=aa (fun k (hk:k∈t.args)=>Ty.bo hk);clear ih h;unfold bl at *;go_enter Tryz.func148,Tryz.ntmps148;go_wp2;generalize (w.alloc (.cells #[encStr t.aq,.int .i64 t.var,.slice t.A t.args.length t.cap] 53))=w0 at *
 go_loopw [3,4] (fun v i wr=>∃k:Nat,k≤t.args.length∧i=.int .i64 k∧v=.int .i64 ((aF (t.args.take k)+1:Nat):Int)∧aiE (Ext w0 wr)) (fun _ i _=>t.args.length - (intOf i).toNat)
 case atStart=>exact⟨0,aiH _,rfl,rfl,aa (eR _)⟩
 case round=>
  obtain⟨k,hk,rfl,rfl,HX⟩:=hrel;have HB:=aa (fI.o.ext HX.o);have hc2:=HB.o.c2
  by_cases hlt:k<t.args.length
  ·have aN:(k:Int)<(t.args.length:Int):=by omega
   have cV:(0:Int)≤(k:Int):=by omega
   obtain⟨b,o,hA,hb,q0,q1,q2⟩:=(Hk.o.ext (X0.o.trans HX.o)).at_ hlt;have cB:=aiF hlt;have iC:=aa (pD.o k hlt);have hs1:=CS.o (k+1);rw[iC.o] at hs1;have hS:=HS.o;have hcs:=ki.o _ cB;have HC:=aa (IH.o _ cB wr ((Hk.o.args _ cB).ext (X0.o.trans HX.o)) (by omega));rw[hA] at hc2;clear hA cB;generalize t.args[k]'hlt=c at *;generalize aF (t.args.take k)=s at *;go_wp2_with fail;refine HC.o.mono ?_;rintro e w3 ⟨rfl,hx3⟩;have X3:=aa (HX.o.trans hx3);clear hx3;go_wp2;go_roundw
   case rel=>exact⟨k+1,hlt,by go_num,by rw[iC.o];exact congrArg (Value.int .i64) (by omega),X3⟩
   case measure=>simp[intOf];omega
  ·have bS:¬(k:Int)<(t.args.length:Int):=by omega
   have hR:aF (t.args.take k)+1=t.size:=by rw[HS.o,aiK (by omega)]
   rw[hR];clear hR;go_wp2;go_ret;exact⟨rfl,X0.o.trans HX.o⟩
theorem oh (t:Ty):∀(w:World),aH w t→t.size≤1000000 →
  Calls Tryz.prog 15 #[bl t] w fun e w'=>e=.returned (.int .i64 (t.depth:Int))∧Ext w w':=by
 induction t using Ty.ind with
 |h t ih=>
 intro w h hsz;have IH:=aa ih;have Hk:=aa h.all;have hle:=h.le;have hmx:=h.max;have fI:=aa (aU.new w t);have X0:aiE (Ext w (w.alloc (.cells #[encStr t.aq,.int .i64 t.var,.slice t.A t.args.length t.cap] 53))):=aa ((eR w).alloc _);have HD:aiE (t.depth=(t.args.map Ty.depth).foldr max 0+1):=aa (Ty.aT t);have Pa:=aa (fun k (hk:k<t.args.length)=>qq (l:=t.args) hk);have RQ:=aa (fun k (hk:k∈t.args)=>aiM (CO k) (Nat.le_of_lt (Ty.bo hk)));have ki:=aa (fun k (hk:k∈t.args)=>Ty.bo hk);clear ih h;unfold bl at *;go_enter Tryz.func15,Tryz.ntmps15;go_wp2;generalize (w.alloc (.cells #[encStr t.aq,.int .i64 t.var,.slice t.A t.args.length t.cap] 53))=w0 at *
 go_loopw [3,4] (fun v i wr=>∃k M:Nat,k≤t.args.length∧i=.int .i64 k∧v=.int .i64 M∧M≤1000000∧aiE (((t.args.take k).map Ty.depth).foldr max 0=M)∧aiE (Ext w0 wr)) (fun _ i _=>t.args.length - (intOf i).toNat)
 case atStart=>exact⟨0,0,aiH _,rfl,rfl,aiH _,aa rfl,aa (eR _)⟩
 case round=>
  obtain⟨k,M,hk,rfl,rfl,hM,HM,HX⟩:=hrel;have HB:=aa (fI.o.ext HX.o);have hc2:=HB.o.c2
  by_cases hlt:k<t.args.length
  ·have aN:(k:Int)<(t.args.length:Int):=by omega
   have cV:(0:Int)≤(k:Int):=by omega
   obtain⟨b,o,hA,hb,q0,q1,q2⟩:=(Hk.o.ext (X0.o.trans HX.o)).at_ hlt;have cB:=aiF hlt;have FY:=aa (Pa.o k hlt);rw[HM.o] at FY;have Yf:=RQ.o _ cB;have hcs:=ki.o _ cB;have HC:=aa (IH.o _ cB wr ((Hk.o.args _ cB).ext (X0.o.trans HX.o)) (by omega));rw[hA] at hc2;clear hA cB;generalize t.args[k]'hlt=c at *;have Yg:c.depth≤1000000:=by omega
   clear Yf hcs;generalize c.depth=d at *
   by_cases KE:(d:Int)>(M:Int)
   ·go_wp2_with fail;refine HC.o.mono ?_;rintro e w3 ⟨rfl,hx3⟩;have X3:=aa (HX.o.trans hx3);clear hx3;go_wp2;go_roundw
    case rel=>exact⟨k+1,d,hlt,by go_num,by first|rfl|exact congrArg (Value.int .i64) (by omega),Yg,aa (by rw[FY.o];omega),X3⟩
    case measure=>simp[intOf];omega
   ·go_wp2_with fail;refine HC.o.mono ?_;rintro e w3 ⟨rfl,hx3⟩;have X3:=aa (HX.o.trans hx3);clear hx3;go_wp2;go_roundw
    case rel=>exact⟨k+1,M,hlt,by go_num,by first|rfl|exact congrArg (Value.int .i64) (by omega),hM,aa (by rw[FY.o];omega),X3⟩
    case measure=>simp[intOf];omega
  ·have bS:¬(k:Int)<(t.args.length:Int):=by omega
   have hM0:(0:Int)≤(M:Int):=by omega
   have HR:aiE (t.depth=M+1):=aa (by
    have:=HM.o;rw[aiK (by omega)] at this;rw[HD.o,this])
   go_wp2;go_ret;exact⟨by rw[HR.o];rfl,X0.o.trans HX.o⟩
set_option maxRecDepth 512
set_option maxHeartbeats 200000
end Go.Proofs.YtigafbmabjglfaaGreatDoor
