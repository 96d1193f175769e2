import Derived.Test.YtigafbmabjglfaaGreatDoorJT4
import Derived.Deep.RegionHeld3
import Derived.Laws.StructEq
namespace Go.Proofs.YtigafbmabjglfaaGreatDoor
open Go.RowKit
def rW (t:Ty):Value:=.agg #[encStr t.aq,.int .i64 t.var,.int .i64 t.args.length]
set_option maxHeartbeats 1000000 in
theorem JB (t:Ty) (w:World):Calls Tryz.prog 167 #[bh t] w fun e w'=>e=.returned (rW t)∧Ext w w':=by
 unfold bh at *;go_enter Tryz.func167,Tryz.ntmps167;go_wp2;refine bodyPost_ret (v:=rW t) ?_ rfl ⟨rfl,(by repeat(first|exact eR _|exact eA (by assumption) _|refine eA ?_ _|refine eM ?_ _ _|refine eD ?_|refine eN ?_ _))⟩;simp[results,Tryz.f167,rW,go_sem]
def lf (a b:Ty):Bool:=decide (a.aq=b.aq)&&decide (a.var=b.var)&&decide (a.args.length=b.args.length)
theorem jk (w:World) (s s':aj) (v v':Int) (n n':Nat):(binOp .eql 246 (.agg #[encStr s,.int .i64 v,.int .i64 n]) (.agg #[encStr s',.int .i64 v',.int .i64 n'])).run Tryz.prog w=.ok (.bool (decide (s=s')&&decide (v=v')&&decide (n=n'))) w:=by
 rw[run_eql_struct];simp only[encStr];cases h1:decide (s=s')<;>cases h2:decide (v=v')<;>cases h3:decide (n=n')<;>simp only[decide_eq_true_eq,decide_eq_false_iff_not] at h1 h2 h3<;>simp[go_sem,h1,h2,h3,Int.natCast_inj,Result.andThen]
theorem tQ (w:World) (s s':aj) (v v':Int) (n n':Nat):(binOp .neq 246 (.agg #[encStr s,.int .i64 v,.int .i64 n]) (.agg #[encStr s',.int .i64 v',.int .i64 n'])).run Tryz.prog w=.ok (.bool (!(decide (s=s')&&decide (v=v')&&decide (n=n')))) w:=by
 have h:=jk w s s' v v' n n';rw[run_eql_struct] at h;rw[run_neq_struct];generalize (Op.equalIn 10000 _ _ _).run Tryz.prog w=r at *;cases r with
 |ok b w2=>simp only[Result.andThen] at h ⊢;injection h with h1 h2;injection h1 with h1;rw[h1,h2]
 |halt x w2=>simp[Result.andThen] at h
set_option maxRecDepth 10000
set_option maxHeartbeats 8000000
theorem DU (a:Ty):∀(b:Ty) (w:World),aC w a→aC w b→Calls Tryz.prog 172 #[bh a,bh b] w fun e w'=>e=.returned (.bool (bL a b))∧Ext w w':=by
 induction a using Ty.ind with
 |h a ih=>
 intro b w ha hb;have IH:=aa ih;have Mc:=aa ha.all;have Md:=aa hb.all;have Uq:=ha.le;have hma:=ha.max;have Ur:=hb.le;have Zz:=hb.max;obtain⟨W,hW⟩:∃W,W=(w.alloc (.cells #[encStr a.aq,.int .i64 a.var,.slice a.A a.args.length a.cap] 53)).alloc (.cells #[encStr b.aq,.int .i64 b.var,.slice b.A b.args.length b.cap] 53):=⟨_,rfl⟩;have X0:ahg (Ext w W):=aa (by rw[hW];exact((eR _).alloc _).alloc _);have B1:ahg (aP W w.heap.size a):=aa (by rw[hW];exact(aP.new w a).ext ((eR _).alloc _));have B2:ahg (aP W (w.heap.size+1) b):=aa (by rw[hW];have:=aP.new (w.alloc (.cells #[encStr a.aq,.int .i64 a.var,.slice a.A a.args.length a.cap] 53)) b;rwa [World.size_alloc] at this);have VP:=aa (fun w'=>aa (JB a w'));have VQ:=aa (fun w'=>aa (JB b w'));have HP:=aa (nL a b);clear ih ha hb;unfold rW at VP VQ;unfold bh at *;have c0:=B1.o.c0;have c1:=B1.o.c1;have c2:=B1.o.c2;have d0:=B2.o.c0;have d1:=B2.o.c1;have d2:=B2.o.c2;have hne:∀w':World,(binOp .neq 246 (.agg #[encStr a.aq,.int .i64 a.var,.int .i64 a.args.length]) (.agg #[encStr b.aq,.int .i64 b.var,.int .i64 b.args.length])).run Tryz.prog w'=.ok (.bool (!lf a b)) w':=fun w'=>tQ w' _ _ _ _ _ _
 have hgd:∀w':World,(eqGuard .neq 246 (.tmp 7) (.tmp 9) (.agg #[encStr a.aq,.int .i64 a.var,.int .i64 a.args.length]) (.agg #[encStr b.aq,.int .i64 b.var,.int .i64 b.args.length])).run Tryz.prog w'=.ok () w':=fun w'=>run_eqGuard_agg w' _ _ _ _ _ _ (by kernel_rfl)
 cases hh:lf a b
 ·have hR:bL a b=false:=by rw[HP.o];unfold lf at hh;rw[hh];rfl
  rw[hR];clear hR;rw[hh] at hne;go_enter Tryz.func172,Tryz.ntmps172;go_wp2;rw[←hW];clear hW
  go_region_held3 (fun w'=>w'.cell? ⟨w.heap.size,0,none⟩=some (encStr a.aq)∧w'.cell? ⟨w.heap.size,1,none⟩=some (.int .i64 a.var)∧w'.cell? ⟨w.heap.size,2,none⟩=some (.slice a.A a.args.length a.cap)∧w'.cell? ⟨w.heap.size+1,0,none⟩=some (encStr b.aq)∧w'.cell? ⟨w.heap.size+1,1,none⟩=some (.int .i64 b.var)∧w'.cell? ⟨w.heap.size+1,2,none⟩=some (.slice b.A b.args.length b.cap)) (first|assumption|go_keep) (first
   |(
    go_at_call 167
    with_reducible refine Calls.mono (VP.o _).o ?_
    rintro e w2 ⟨rfl,hx2⟩;have X2:=aa (((eR W).drew).trans hx2);have e1:=B1.o.ext X2.o;have e2:=B2.o.ext X2.o;have k2:=ahk e1.c0 (ahk e1.c1 (ahk e1.c2 (ahk e2.c0 (ahk e2.c1 e2.c2))));clear hx2 e1 e2)
   |(
    go_at_call 167
    with_reducible refine Calls.mono (VQ.o _).o ?_
    rintro e w3 ⟨rfl,hx3⟩;have X3:=aa (X2.o.trans hx3);have e1:=B1.o.ext X3.o;have e2:=B2.o.ext X3.o;have k3:=ahk e1.c0 (ahk e1.c1 (ahk e1.c2 (ahk e2.c0 (ahk e2.c1 e2.c2))));clear hx3 e1 e2))
  clear k2 k3;go_wp2;go_ret;exact⟨rfl,X0.o.trans X3.o⟩
 ·have HR:ahg (bL a b=(a.args.zip b.args).all fun p=>bL p.1 p.2):=aa (by rw[HP.o];have:=hh;unfold lf at this;rw[this];rfl);have HL:ahg (a.args.length=b.args.length):=aa (by unfold lf at hh;simp only[ahv,decide_eq_true_eq] at hh;exact hh.2);generalize bL a b=R at *;rw[hh] at hne;go_enter Tryz.func172,Tryz.ntmps172;go_wp2;rw[←hW];clear hW
  go_region_held3 (fun w'=>w'.cell? ⟨w.heap.size,0,none⟩=some (encStr a.aq)∧w'.cell? ⟨w.heap.size,1,none⟩=some (.int .i64 a.var)∧w'.cell? ⟨w.heap.size,2,none⟩=some (.slice a.A a.args.length a.cap)∧w'.cell? ⟨w.heap.size+1,0,none⟩=some (encStr b.aq)∧w'.cell? ⟨w.heap.size+1,1,none⟩=some (.int .i64 b.var)∧w'.cell? ⟨w.heap.size+1,2,none⟩=some (.slice b.A b.args.length b.cap)) (first|assumption|go_keep) (first
   |(
    go_at_call 167
    with_reducible refine Calls.mono (VP.o _).o ?_
    rintro e w2 ⟨rfl,hx2⟩;have X2:=aa (((eR W).drew).trans hx2);have e1:=B1.o.ext X2.o;have e2:=B2.o.ext X2.o;have k2:=ahk e1.c0 (ahk e1.c1 (ahk e1.c2 (ahk e2.c0 (ahk e2.c1 e2.c2))));clear hx2 e1 e2)
   |(
    go_at_call 167
    with_reducible refine Calls.mono (VQ.o _).o ?_
    rintro e w3 ⟨rfl,hx3⟩;have X3:=aa (X2.o.trans hx3);have e1:=B1.o.ext X3.o;have e2:=B2.o.ext X3.o;have k3:=ahk e1.c0 (ahk e1.c1 (ahk e1.c2 (ahk e2.c0 (ahk e2.c1 e2.c2))));clear hx3 e1 e2))
  clear k2 k3;have O1:ahg (∀p∈(a.args.zip b.args).take 0,bL p.1 p.2=true):=aa (by simp);have VR:=aa (eR w3);go_wp2
  go_loopw [14] (fun i wr=>∃k:Nat,k≤a.args.length∧i=.int .i64 k∧ahg (∀p∈(a.args.zip b.args).take k,bL p.1 p.2=true)∧ahg (Ext w3 wr)) (fun i _=>a.args.length - (intOf i).toNat)
  case atStart=>exact⟨0,ahj _,rfl,O1,VR⟩
  case round=>
   obtain⟨k,hk,rfl,HA,HX⟩:=hrel
   by_cases hlt:k<a.args.length
   ·have fR:k<b.args.length:=by rw[←HL.o];exact hlt
    have aS:(k:Int)<(a.args.length:Int):=by omega
    have QE:(k:Int)<(b.args.length:Int):=by omega
    have dy:(0:Int)≤(k:Int):=by omega
    have XR:=aa (X3.o.trans HX.o);obtain⟨p,o,QF,hp,q0,q1,q2⟩:=(Mc.o.ext (X0.o.trans XR.o)).at_ hlt;obtain⟨p',o',QG,DV,r0,r1,r2⟩:=(Md.o.ext (X0.o.trans XR.o)).at_ fR;have HC:=aa (fun w' (e:Ext wr w')=>aa (IH.o _ (ahh hlt) (b.args[k]'fR) w' ((Mc.o.args _ (ahh hlt)).ext (X0.o.trans (XR.o.trans e))) ((Md.o.args _ (ahh fR)).ext (X0.o.trans (XR.o.trans e)))));have cS:ahg ((a.args.zip b.args).take (k+1)=(a.args.zip b.args).take k++[(a.args[k]'hlt,b.args[k]'fR)]):=aa (by
     rw[ahl (by rw[List.length_zip];omega),List.getElem_zip])
    have mj:ahg ((a.args[k]'hlt,b.args[k]'fR)∈a.args.zip b.args):=aa (by rw[List.mem_iff_getElem];exact⟨k,by rw[List.length_zip];omega,List.getElem_zip⟩);have C1:=B1.o.ext XR.o;have C2:=B2.o.ext XR.o;have c0:=C1.c0;have c1:=C1.c1;have c2:=C1.c2;have d0:=C2.c0;have d1:=C2.c1;have d2:=C2.c2;rw[QF] at c2;rw[QG] at d2;clear C1 C2 QF QG;have Dr:=aa (fun w' (e:Ext wr w')=>ahk (e.cell c2) (ahk (e.cell d2) (ahk (e.cell q0) (ahk (e.cell q1) (ahk (e.cell q2) (ahk (e.cell r0) (ahk (e.cell r1) (e.cell r2))))))));generalize a.args[k]'hlt=x at *;generalize b.args[k]'fR=y at *;go_wp2
    go_region_held3 (fun w'=>w'.cell? ⟨w.heap.size,2,none⟩=some (.slice (some ⟨p,o,none⟩) a.args.length a.cap)∧w'.cell? ⟨w.heap.size+1,2,none⟩=some (.slice (some ⟨p',o',none⟩) b.args.length b.cap)∧w'.cell? ⟨p,o+k*3,none⟩=some (.string ⟨x.aq.toArray⟩)∧w'.cell? ⟨p,o+k*3+1,none⟩=some (.int .i64 x.var)∧w'.cell? ⟨p,o+k*3+2,none⟩=some (.slice x.A x.args.length x.cap)∧w'.cell? ⟨p',o'+k*3,none⟩=some (.string ⟨y.aq.toArray⟩)∧w'.cell? ⟨p',o'+k*3+1,none⟩=some (.int .i64 y.var)∧w'.cell? ⟨p',o'+k*3+2,none⟩=some (.slice y.A y.args.length y.cap)) (first|assumption|go_keep) (first
     |(
      go_at_call 172
      refine Calls.mono (HC.o _ ((eR _).drew)).o ?_;rintro e w5 ⟨rfl,jB⟩;have X5:=aa (HX.o.trans (((eR wr).drew).trans jB));have k5:=Dr.o _ (((eR wr).drew).trans jB);clear jB))
    clear k5;cases hs:bL x y
    ·have hR:R=false:=by
      rw[HR.o,←Bool.not_eq_true,ahA];intro h;have:=h _ mj.o;rw[hs] at this;cases this
     clear HR HP;subst hR;go_wp2;go_ret;exact⟨rfl,X0.o.trans (X3.o.trans X5.o)⟩
    ·go_wp2;go_roundw
     case rel=>
      refine⟨k+1,hlt,by go_num,aa (fun p hp => ?_),X5⟩;rw[cS.o,List.mem_append,ahx] at hp
      rcases hp with hp|rfl
      ·exact HA.o p hp
      ·exact hs
     case measure=>simp[intOf];omega
   ·have bU:¬(k:Int)<(a.args.length:Int):=by omega
    have hR:R=true:=by
     rw[HR.o,ahA];intro p hp;exact HA.o p (by rw[ahm (by rw[List.length_zip];omega)];exact hp)
    clear HR HP;subst hR;go_wp2;go_ret;exact⟨rfl,X0.o.trans (X3.o.trans HX.o)⟩
theorem py (t:Ty):∀(w:World),aC w t→t.size≤1000000 →
  Calls Tryz.prog 148 #[bh t] w fun e w'=>e=.returned (.int .i64 (t.size:Int))∧Ext w w':=by
 induction t using Ty.ind with
 |h t ih=>
 intro w h hsz;have IH:=aa ih;have Hk:=aa h.all;have hle:=h.le;have hmx:=h.max;have fj:=aa (aP.new w t);have X0:ahg (Ext w (w.alloc (.cells #[encStr t.aq,.int .i64 t.var,.slice t.A t.args.length t.cap] 53))):=aa ((eR w).alloc _);have HS:ahg (t.size=aD t.args+1):=aa (Ty.size_eq t);have mi:=aa (fun k (hk:k<t.args.length)=>eH t.args hk);have AR:=aa (fun k=>ky t.args k);have jV:=aa (fun k (hk:k∈t.args)=>Ty.bG hk);clear ih h;unfold bh at *;go_enter Tryz.func148,Tryz.ntmps148;go_wp2;generalize (w.alloc (.cells #[encStr t.aq,.int .i64 t.var,.slice t.A t.args.length t.cap] 53))=w0 at *
 go_loopw [3,4] (fun v i wr=>∃k:Nat,k≤t.args.length∧i=.int .i64 k∧v=.int .i64 ((aD (t.args.take k)+1:Nat):Int)∧ahg (Ext w0 wr)) (fun _ i _=>t.args.length - (intOf i).toNat)
 case atStart=>exact⟨0,ahj _,rfl,rfl,aa (eR _)⟩
 case round=>
  obtain⟨k,hk,rfl,rfl,HX⟩:=hrel;have HB:=aa (fj.o.ext HX.o);have hc2:=HB.o.c2
  by_cases hlt:k<t.args.length
  ·have aS:(k:Int)<(t.args.length:Int):=by omega
   have dy:(0:Int)≤(k:Int):=by omega
   obtain⟨b,o,hA,hb,q0,q1,q2⟩:=(Hk.o.ext (X0.o.trans HX.o)).at_ hlt;have cv:=ahh hlt;have gw:=aa (mi.o k hlt);have hs1:=AR.o (k+1);rw[gw.o] at hs1;have hS:=HS.o;have hcs:=jV.o _ cv;have HC:=aa (IH.o _ cv wr ((Hk.o.args _ cv).ext (X0.o.trans HX.o)) (by omega));rw[hA] at hc2;clear hA cv;generalize t.args[k]'hlt=c at *;generalize aD (t.args.take k)=s at *;go_wp2_with fail;refine HC.o.mono ?_;rintro e w3 ⟨rfl,hx3⟩;have X3:=aa (HX.o.trans hx3);clear hx3;go_wp2;go_roundw
   case rel=>exact⟨k+1,hlt,by go_num,by rw[gw.o];exact congrArg (Value.int .i64) (by omega),X3⟩
   case measure=>simp[intOf];omega
  ·have bU:¬(k:Int)<(t.args.length:Int):=by omega
   have hR:aD (t.args.take k)+1=t.size:=by rw[HS.o,ahm (by omega)]
   rw[hR];clear hR;go_wp2;go_ret;exact⟨rfl,X0.o.trans HX.o⟩
theorem rX (t:Ty):∀(w:World),aC w t→t.size≤1000000 →
  Calls Tryz.prog 15 #[bh t] w fun e w'=>e=.returned (.int .i64 (t.depth:Int))∧Ext w w':=by
 induction t using Ty.ind with
 |h t ih=>
 intro w h hsz;have IH:=aa ih;have Hk:=aa h.all;have hle:=h.le;have hmx:=h.max;have fj:=aa (aP.new w t);have X0:ahg (Ext w (w.alloc (.cells #[encStr t.aq,.int .i64 t.var,.slice t.A t.args.length t.cap] 53))):=aa ((eR w).alloc _);have HD:ahg (t.depth=(t.args.map Ty.depth).foldr max 0+1):=aa (Ty.aN t);have JA:=aa (fun k (hk:k<t.args.length)=>px (l:=t.args) hk);have PW:=aa (fun k (hk:k∈t.args)=>aho (AJ k) (Nat.le_of_lt (Ty.bG hk)));have jV:=aa (fun k (hk:k∈t.args)=>Ty.bG hk);clear ih h;unfold bh at *;go_enter Tryz.func15,Tryz.ntmps15;go_wp2;generalize (w.alloc (.cells #[encStr t.aq,.int .i64 t.var,.slice t.A t.args.length t.cap] 53))=w0 at *
 go_loopw [3,4] (fun v i wr=>∃k M:Nat,k≤t.args.length∧i=.int .i64 k∧v=.int .i64 M∧M≤1000000∧ahg (((t.args.take k).map Ty.depth).foldr max 0=M)∧ahg (Ext w0 wr)) (fun _ i _=>t.args.length - (intOf i).toNat)
 case atStart=>exact⟨0,0,ahj _,rfl,rfl,ahj _,aa rfl,aa (eR _)⟩
 case round=>
  obtain⟨k,M,hk,rfl,rfl,hM,HM,HX⟩:=hrel;have HB:=aa (fj.o.ext HX.o);have hc2:=HB.o.c2
  by_cases hlt:k<t.args.length
  ·have aS:(k:Int)<(t.args.length:Int):=by omega
   have dy:(0:Int)≤(k:Int):=by omega
   obtain⟨b,o,hA,hb,q0,q1,q2⟩:=(Hk.o.ext (X0.o.trans HX.o)).at_ hlt;have cv:=ahh hlt;have AQ:=aa (JA.o k hlt);rw[HM.o] at AQ;have VS:=PW.o _ cv;have hcs:=jV.o _ cv;have HC:=aa (IH.o _ cv wr ((Hk.o.args _ cv).ext (X0.o.trans HX.o)) (by omega));rw[hA] at hc2;clear hA cv;generalize t.args[k]'hlt=c at *;have VT:c.depth≤1000000:=by omega
   clear VS hcs;generalize c.depth=d at *
   by_cases I0:(d:Int)>(M:Int)
   ·go_wp2_with fail;refine HC.o.mono ?_;rintro e w3 ⟨rfl,hx3⟩;have X3:=aa (HX.o.trans hx3);clear hx3;go_wp2;go_roundw
    case rel=>exact⟨k+1,d,hlt,by go_num,by first|rfl|exact congrArg (Value.int .i64) (by omega),VT,aa (by rw[AQ.o];omega),X3⟩
    case measure=>simp[intOf];omega
   ·go_wp2_with fail;refine HC.o.mono ?_;rintro e w3 ⟨rfl,hx3⟩;have X3:=aa (HX.o.trans hx3);clear hx3;go_wp2;go_roundw
    case rel=>exact⟨k+1,M,hlt,by go_num,by first|rfl|exact congrArg (Value.int .i64) (by omega),hM,aa (by rw[AQ.o];omega),X3⟩
    case measure=>simp[intOf];omega
  ·have bU:¬(k:Int)<(t.args.length:Int):=by omega
   have hM0:(0:Int)≤(M:Int):=by omega
   have HR:ahg (t.depth=M+1):=aa (by
    have:=HM.o;rw[ahm (by omega)] at this;rw[HD.o,this])
   go_wp2;go_ret;exact⟨by rw[HR.o];rfl,X0.o.trans HX.o⟩
set_option maxRecDepth 512
set_option maxHeartbeats 200000
end Go.Proofs.YtigafbmabjglfaaGreatDoor
