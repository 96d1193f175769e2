import Derived.Test.YtigafbmabjglfaaGreatDoorJA24
namespace Go.Proofs.YtigafbmabjglfaaGreatDoor
open Go.RowKit Go.Shelf
theorem yj (t:Tm){i:Nat}(hi:i<t.kids.length):TB.at_ (t.kids.map Tm.tb) i=(t.kids[i]'hi).tb:=by
 unfold TB.at_;rw[List.getD_eq_getElem?_getD,List.getElem?_map,aiU hi];rfl
theorem rA : fz 112:=enters_of Tryz.func112 (by kernel_rfl) rfl
theorem rB : fz 111:=enters_of Tryz.func111 (by kernel_rfl) rfl
theorem rC : fz 109:=enters_of Tryz.func109 (by kernel_rfl) rfl
theorem Ep (t:Tm) (h:lR 66 (fun t=>t.tb.term) t):lR 112 (fun t => !t.tb.term) t:=by
 intro w ht hf;have X0:aiE (Ext w (w.alloc (.cells #[.int .i64 t.kind,.int .i64 t.n,encStr t.name,.slice t.V t.vars.length t.vc,.slice t.T t.types.length t.tc,.slice t.A t.kids.length t.cap] 40))):=aa ((eR w).alloc _);have HL:=aa (h _ (ht.ext X0.o) hf);clear h ht hf;dsimp only at *;generalize t.tb.term=R at *;unfold bz at *;go_enter Tryz.func112,Tryz.ntmps112;go_wp2_with fail;refine HL.o.mono ?_;rintro e w2 ⟨rfl,hx⟩;go_wp2;go_ret;exact⟨rfl,X0.o.trans hx⟩
theorem lh {w:World}{t:Tm}(h:bm w t.A t.kids) (hi:0<t.kids.length) :
  ∃b o,t.A=some ⟨b,o,none⟩∧b<w.heap.size∧w.cell? ⟨b,o,none⟩=some (.int .i64 (t.kids[0]'hi).kind)∧w.cell? ⟨b,o+1,none⟩=some (.int .i64 (t.kids[0]'hi).n) ∧
   w.cell? ⟨b,o+2,none⟩=some (.string ⟨(t.kids[0]'hi).name.toArray⟩)∧w.cell? ⟨b,o+3,none⟩=some (.slice (t.kids[0]'hi).V (t.kids[0]'hi).vars.length (t.kids[0]'hi).vc) ∧
   w.cell? ⟨b,o+4,none⟩=some (.slice (t.kids[0]'hi).T (t.kids[0]'hi).types.length (t.kids[0]'hi).tc)∧w.cell? ⟨b,o+5,none⟩=some (.slice (t.kids[0]'hi).A (t.kids[0]'hi).kids.length (t.kids[0]'hi).cap):=by
 have:=h.at_ hi;simpa using this
set_option maxRecDepth 10000
set_option maxHeartbeats 8000000
theorem Er (t:Tm) (h:∀k∈t.kids,lR 66 (fun t=>t.tb.term) k):lR 111 (fun t => !t.tb.bind) t:=by
 intro w ht hf;have X0:aiE (Ext w (w.alloc (.cells #[.int .i64 t.kind,.int .i64 t.n,encStr t.name,.slice t.V t.vars.length t.vc,.slice t.T t.types.length t.tc,.slice t.A t.kids.length t.cap] 40))):=aa ((eR w).alloc _);have HF:=aa (fun w' (e:Ext w w')=>aa (jH t w' (ht.ext e) hf.ty hf.ja));have B1:aiE (av (w.alloc (.cells #[.int .i64 t.kind,.int .i64 t.n,encStr t.name,.slice t.V t.vars.length t.vc,.slice t.T t.types.length t.tc,.slice t.A t.kids.length t.cap] 40)) w.heap.size t):=aa (av.new w t);have HR:aiE (t.tb.bind=((t.kind == 11)&&bC t&&(TB.at_ (t.kids.map Tm.tb) 0).term)):=aa (by rw[jf];rfl);have nX:=ht.hd.le;have cB:=ht.hd.max;have HK:=aa ht.all;have Hh:=aa h;have Xp:=aa hf.kids;have Hl:aiE (t.kind=11→bC t=true→t.kids.length=1):=aa (fun h1 h2=>by
  have:=uI (d:=⟨true,false,false,1,1⟩) (by rw[h1];rfl) h2 (by decide);simp only at this;omega)
 clear h ht hf;dsimp only;generalize t.tb.bind=R at *;obtain⟨c0,-,-,-,-,-⟩:=B1.o.cells;unfold bz at *;cases hk:(t.kind != 11)
 ·have mF:t.kind=11:=by simpa using hk
  have dU:aiE (R=(bC t&&(TB.at_ (t.kids.map Tm.tb) 0).term)):=aa (by rw[HR.o,mF];rfl);cases hF:bC t
  ·rw[hF] at HF;have hR:=dU.o;rw[hF,Bool.false_and] at hR;subst hR;clear hF mF HR dU;go_enter Tryz.func111,Tryz.ntmps111;go_wp2_with fail;refine(HF.o _ X0.o).o.mono ?_;rintro e w2 ⟨rfl,hx⟩;go_wp2;go_ret;exact⟨rfl,X0.o.trans hx⟩
  ·have hl:=Hl.o mF hF;have hl0:0<t.kids.length:=by omega
   rw[hF] at HF;have hR:=dU.o;rw[hF,Bool.true_and,yj t hl0] at hR;have yl:=aa hR;have HC:=aa (fun w' (e:Ext w w')=>aa (Hh.o _ (aiF hl0) w' ((HK.o.kids _ (aiF hl0)).ext e) (Xp.o _ (aiF hl0))));clear hF mF HR dU hl hR;go_enter Tryz.func111,Tryz.ntmps111;go_wp2_with fail;refine(HF.o _ X0.o).o.mono ?_;rintro e w2 ⟨rfl,hx⟩;have X2:=aa hx;obtain⟨-,-,-,-,-,d5⟩:=(B1.o.ext X2.o).cells;obtain⟨b,o,hA,hb,q0,q1,q2,q3,q4,q5⟩:=lh (HK.o.ext (X0.o.trans X2.o)) hl0;rw[hA] at d5;clear hx hA;generalize t.kids[0]'hl0=x at *
   try dsimp only at HC
   generalize x.tb.term=RT at *;have yl:=yl.o;subst yl;unfold bz at HC;go_wp2_with fail;refine(HC.o _ (X0.o.trans X2.o)).o.mono ?_;rintro e w3 ⟨rfl,hx⟩;go_wp2;go_ret;exact⟨by simp,X0.o.trans (X2.o.trans hx)⟩
 ·have hR:=HR.o;have mF:(t.kind == 11)=false:=by simpa using hk
  rw[mF] at hR;simp only[Bool.false_and] at hR;subst hR;clear mF;go_enter Tryz.func111,Tryz.ntmps111;go_wp2;go_ret;exact⟨rfl,X0.o⟩
theorem Es (t:Tm) (h:∀k∈t.kids,lR 66 (fun t=>t.tb.term) k):lR 109 (fun t => !t.tb.alt) t:=by
 intro w ht hf;have X0:aiE (Ext w (w.alloc (.cells #[.int .i64 t.kind,.int .i64 t.n,encStr t.name,.slice t.V t.vars.length t.vc,.slice t.T t.types.length t.tc,.slice t.A t.kids.length t.cap] 40))):=aa ((eR w).alloc _);have HF:=aa (fun w' (e:Ext w w')=>aa (jH t w' (ht.ext e) hf.ty hf.ja));have B1:aiE (av (w.alloc (.cells #[.int .i64 t.kind,.int .i64 t.n,encStr t.name,.slice t.V t.vars.length t.vc,.slice t.T t.types.length t.tc,.slice t.A t.kids.length t.cap] 40)) w.heap.size t):=aa (av.new w t);have HR:aiE (t.tb.alt=((t.kind == 9)&&bC t&&(TB.at_ (t.kids.map Tm.tb) 0).pat&&(TB.at_ (t.kids.map Tm.tb) 1).term)):=aa (by rw[jf];rfl);have nX:=ht.hd.le;have cB:=ht.hd.max;have HK:=aa ht.all;have Hh:=aa h;have Xp:=aa hf.kids;have Hl:aiE (t.kind=9→bC t=true→t.kids.length=2):=aa (fun h1 h2=>by
  have:=uI (d:=⟨false,false,false,0,2⟩) (by rw[h1];rfl) h2 (by decide);simp only at this;omega)
 clear h ht hf;dsimp only;generalize t.tb.alt=R at *;obtain⟨c0,-,-,-,-,-⟩:=B1.o.cells;unfold bz at *;cases hk:(t.kind != 9)
 ·have mF:t.kind=9:=by simpa using hk
  have dU:aiE (R=(bC t&&(TB.at_ (t.kids.map Tm.tb) 0).pat&&(TB.at_ (t.kids.map Tm.tb) 1).term)):=aa (by rw[HR.o,mF];rfl);cases hF:bC t
  ·rw[hF] at HF;have hR:=dU.o;rw[hF,Bool.false_and,Bool.false_and] at hR;subst hR;clear hF mF HR dU;go_enter Tryz.func109,Tryz.ntmps109;go_wp2_with fail;refine(HF.o _ X0.o).o.mono ?_;rintro e w2 ⟨rfl,hx⟩;go_wp2;go_ret;exact⟨rfl,X0.o.trans hx⟩
  ·have hl:=Hl.o mF hF;have hl0:0<t.kids.length:=by omega
   have sj:1<t.kids.length:=by omega
   rw[hF] at HF;have hR:=dU.o;rw[hF,Bool.true_and,yj t hl0,yj t sj] at hR;have MT:=aa (fun w' (e:Ext w w')=>aa (ME _ w' ((HK.o.kids _ (aiF hl0)).ext e) (Xp.o _ (aiF hl0))));have QE:=aa (fun w' (e:Ext w w')=>aa (Hh.o _ (aiF sj) w' ((HK.o.kids _ (aiF sj)).ext e) (Xp.o _ (aiF sj))));have yl:=aa hR;clear hF mF HR dU hl hR;go_enter Tryz.func109,Tryz.ntmps109;go_wp2_with fail;refine(HF.o _ X0.o).o.mono ?_;rintro e w2 ⟨rfl,hx⟩;have X2:=aa hx;obtain⟨-,-,-,-,-,d5⟩:=(B1.o.ext X2.o).cells;obtain⟨b,o,hA,hb,q0,q1,q2,q3,q4,q5⟩:=lh (HK.o.ext (X0.o.trans X2.o)) hl0;have MU:=aa (fun w' (e:Ext w w')=>(HK.o.ext e).at_ sj);have HA:=aa hA;rw[hA] at d5;clear hx hA;generalize t.kids[0]'hl0=x at *;generalize t.kids[1]'sj=y at *
   try dsimp only at MT QE
   generalize x.tb.pat=RP at *;generalize y.tb.term=RT at *;have yl:=yl.o;subst yl;unfold bz at MT QE;go_wp2_with fail;refine(MT.o _ (X0.o.trans X2.o)).o.mono ?_;rintro e w3 ⟨rfl,hx⟩;have X3:=aa (X2.o.trans hx);clear hx q0 q1 q2 q3 q4 q5 d5;cases RP
   ·go_wp2;go_ret;exact⟨rfl,X0.o.trans X3.o⟩
   ·obtain⟨-,-,-,-,-,d5⟩:=(B1.o.ext X3.o).cells;obtain⟨b',o',hA',hb',q0,q1,q2,q3,q4,q5⟩:=MU.o _ (X0.o.trans X3.o);rw[hA'] at d5;clear hA';go_wp2_with fail;refine(QE.o _ (X0.o.trans X3.o)).o.mono ?_;rintro e w4 ⟨rfl,hx⟩;go_wp2;go_ret;exact⟨by simp,X0.o.trans (X3.o.trans hx)⟩
 ·have hR:=HR.o;have mF:(t.kind == 9)=false:=by simpa using hk
  rw[mF] at hR;simp only[Bool.false_and] at hR;subst hR;clear mF;go_enter Tryz.func109,Tryz.ntmps109;go_wp2;go_ret;exact⟨rfl,X0.o⟩
set_option maxRecDepth 512
set_option maxHeartbeats 200000
def zj (t:Tm):Prop:=lR 66 (fun t=>t.tb.term) t
theorem wD {α:Type}(l:List α) (p:α→Bool):(l.any fun k => !p k) = !(l.all fun k=>p k):=by rw[←List.not_all_eq_any_not]
def fk (t:Tm):Bool:=decide (21≤t.kind)||(t.kind == 9)||(t.kind == 11)
theorem wE {t:Tm}(h:fk t=true):t.tb.term=false:=by
 rw[jf];show TB.mB t.kind (bC t) (t.kids.map Tm.tb)=false;unfold fk at h;simp only[Bool.or_eq_true] at h;unfold TB.mB
 rcases h with (h|h)|h<;>rw[h]<;>simp
theorem ym {t:Tm}(h:bC t=false):t.tb.term=false:=by
 rw[jf];show TB.mB t.kind (bC t) (t.kids.map Tm.tb)=false;unfold TB.mB;rw[h];simp
theorem rD {t:Tm}(h:bC t=true) (hn:fk t=false):t.tb.term=(if t.kind=8 then decide (2≤t.kids.length)&&(TB.at_ (t.kids.map Tm.tb) 0).term&&(t.kids.drop 1).all (fun k=>k.tb.alt) else if t.kind=10 then decide (1≤t.kids.length)&&(TB.at_ (t.kids.map Tm.tb) (t.kids.length - 1)).term&&(t.kids.take (t.kids.length - 1)).all (fun k=>k.tb.bind) else t.kids.all (fun k=>k.tb.term)):=by
 rw[jf];show TB.mB t.kind (bC t) (t.kids.map Tm.tb)=_;unfold fk at hn;simp only[Bool.or_eq_false_iff] at hn;unfold TB.mB;rw[h,hn.1.1,hn.1.2,hn.2];simp only[Bool.not_false,Bool.and_self,Bool.true_and,List.length_map,←List.map_drop,←List.map_take,List.all_map,Function.comp_def]
theorem eF {t:Tm}(h:fk t=false):¬t.kind≥21∧(t.kind == 9)=false∧(t.kind == 11)=false:=by
 unfold fk at h;simp only[Bool.or_eq_false_iff,decide_eq_false_iff_not] at h;exact⟨h.1.1,h.1.2,h.2⟩
set_option maxRecDepth 10000
set_option maxHeartbeats 8000000
theorem yo (t:Tm) (hn:fk t=true):zj t:=by
 intro w ht hf;have X0:aiE (Ext w (w.alloc (.cells #[.int .i64 t.kind,.int .i64 t.n,encStr t.name,.slice t.V t.vars.length t.vc,.slice t.T t.types.length t.tc,.slice t.A t.kids.length t.cap] 40))):=aa ((eR w).alloc _);have B1:aiE (av (w.alloc (.cells #[.int .i64 t.kind,.int .i64 t.n,encStr t.name,.slice t.V t.vars.length t.vc,.slice t.T t.types.length t.tc,.slice t.A t.kids.length t.cap] 40)) w.heap.size t):=aa (av.new w t);dsimp only;rw[wE hn];have Hn:=aa hn;clear ht hf hn;obtain⟨c0,-,-,-,-,-⟩:=B1.o.cells;unfold bz
 by_cases FM:t.kind≥21
 ·clear Hn;go_enter Tryz.func66,Tryz.ntmps66;go_wp2;go_ret;exact⟨rfl,X0.o⟩
 cases h9:(t.kind == 9)
 rotate_left
 ·clear Hn;go_enter Tryz.func66,Tryz.ntmps66;go_wp2;go_ret;exact⟨rfl,X0.o⟩
 cases h11:(t.kind == 11)
 rotate_left
 ·clear Hn;go_enter Tryz.func66,Tryz.ntmps66;go_wp2;go_ret;exact⟨rfl,X0.o⟩
 ·exact absurd Hn.o (by unfold fk;rw[h9,h11,decide_eq_false (show ¬21≤t.kind from FM)];decide)
theorem rE (t:Tm) (hn:fk t=false) (hF:bC t=false):zj t:=by
 intro w ht hf;have X0:aiE (Ext w (w.alloc (.cells #[.int .i64 t.kind,.int .i64 t.n,encStr t.name,.slice t.V t.vars.length t.vc,.slice t.T t.types.length t.tc,.slice t.A t.kids.length t.cap] 40))):=aa ((eR w).alloc _);have HF:=aa (fun w' (e:Ext w w')=>aa (jH t w' (ht.ext e) hf.ty hf.ja));have B1:aiE (av (w.alloc (.cells #[.int .i64 t.kind,.int .i64 t.n,encStr t.name,.slice t.V t.vars.length t.vc,.slice t.T t.types.length t.tc,.slice t.A t.kids.length t.cap] 40)) w.heap.size t):=aa (av.new w t);obtain⟨FM,h9,h11⟩:=eF hn;dsimp only;rw[ym hF];rw[hF] at HF;clear ht hf hn hF;obtain⟨c0,-,-,-,-,-⟩:=B1.o.cells;unfold bz at *;go_enter Tryz.func66,Tryz.ntmps66;go_wp2_with fail;refine(HF.o _ X0.o).o.mono ?_;rintro e w2 ⟨rfl,hx⟩;go_wp2;go_ret;exact⟨rfl,X0.o.trans hx⟩
theorem tq (t:Tm) (hn:fk t=false) (hF:bC t=true) (h8:(t.kind == 8)=false) (h10:(t.kind == 10)=false) (HI:∀k∈t.kids,zj k):zj t:=by
 intro w ht hf;have X0:aiE (Ext w (w.alloc (.cells #[.int .i64 t.kind,.int .i64 t.n,encStr t.name,.slice t.V t.vars.length t.vc,.slice t.T t.types.length t.tc,.slice t.A t.kids.length t.cap] 40))):=aa ((eR w).alloc _);have HF:=aa (fun w' (e:Ext w w')=>aa (jH t w' (ht.ext e) hf.ty hf.ja));have B1:aiE (av (w.alloc (.cells #[.int .i64 t.kind,.int .i64 t.n,encStr t.name,.slice t.V t.vars.length t.vc,.slice t.T t.types.length t.tc,.slice t.A t.kids.length t.cap] 40)) w.heap.size t):=aa (av.new w t);obtain⟨FM,h9,h11⟩:=eF hn;have HK:=aa ht.all;have Hf:=aa hf;have hR:=rD hF hn;rw[if_neg (by simpa using h8),if_neg (by simpa using h10)] at hR;have nX:=ht.hd.le;have cB:=ht.hd.max;have HA:=aa (fun w' (e:Ext w w')=>aa (wq 112 #[] rA (fun k => !k.tb.term) t.A t.cap t.kids w' (HK.o.ext e) Hf.o.kl (fun w'' e2 x hx=>Ep x (HI x hx) w'' ((HK.o.kids x hx).ext (e.trans e2)) (Hf.o.kids x hx))));dsimp only;rw[wD,←hR] at HA;rw[hF] at HF;clear ht hf hn hF hR HI HK Hf;generalize t.tb.term=R at *;obtain⟨c0,-,-,-,-,-⟩:=B1.o.cells;unfold bz at *;go_enter Tryz.func66,Tryz.ntmps66;go_wp2_with fail;refine(HF.o _ X0.o).o.mono ?_;rintro e w2 ⟨rfl,hx⟩;have X2:=aa hx;obtain⟨d0,-,-,-,-,d5⟩:=(B1.o.ext X2.o).cells;clear hx;go_wp2_with fail;refine(HA.o _ (X0.o.trans X2.o)).o.mono ?_;rintro e w3 ⟨rfl,hx⟩;go_wp2;go_ret;exact⟨by simp,X0.o.trans (X2.o.trans hx)⟩
theorem rF (t:Tm) (hn:fk t=false) (hF:bC t=true) (h8:(t.kind == 8)=true) (hk:¬2≤t.kids.length):zj t:=by
 intro w ht hf;have X0:aiE (Ext w (w.alloc (.cells #[.int .i64 t.kind,.int .i64 t.n,encStr t.name,.slice t.V t.vars.length t.vc,.slice t.T t.types.length t.tc,.slice t.A t.kids.length t.cap] 40))):=aa ((eR w).alloc _);have HF:=aa (fun w' (e:Ext w w')=>aa (jH t w' (ht.ext e) hf.ty hf.ja));have B1:aiE (av (w.alloc (.cells #[.int .i64 t.kind,.int .i64 t.n,encStr t.name,.slice t.V t.vars.length t.vc,.slice t.T t.types.length t.tc,.slice t.A t.kids.length t.cap] 40)) w.heap.size t):=aa (av.new w t);obtain⟨FM,h9,h11⟩:=eF hn;have hR:=rD hF hn;rw[if_pos (by simpa using h8),decide_eq_false hk,Bool.false_and,Bool.false_and] at hR;have nX:=ht.hd.le;have cB:=ht.hd.max;dsimp only;rw[hR];rw[hF] at HF;have GS:¬(t.kids.length:Int)≥2:=by omega
 clear ht hf hn hF hR hk;obtain⟨c0,-,-,-,-,-⟩:=B1.o.cells;unfold bz at *;go_enter Tryz.func66,Tryz.ntmps66;go_wp2_with fail;refine(HF.o _ X0.o).o.mono ?_;rintro e w2 ⟨rfl,hx⟩;have X2:=aa hx;obtain⟨d0,-,-,-,-,d5⟩:=(B1.o.ext X2.o).cells;clear hx;go_wp2;go_ret;exact⟨rfl,X0.o.trans X2.o⟩
theorem tu (t:Tm) (hn:fk t=false) (hF:bC t=true) (h8:(t.kind == 8)=true) (hk:2≤t.kids.length) (HI:∀k∈t.kids,zj k) (ky:∀k∈t.kids,∀x∈k.kids,zj x):zj t:=by
 intro w ht hf;have X0:aiE (Ext w (w.alloc (.cells #[.int .i64 t.kind,.int .i64 t.n,encStr t.name,.slice t.V t.vars.length t.vc,.slice t.T t.types.length t.tc,.slice t.A t.kids.length t.cap] 40))):=aa ((eR w).alloc _);have HF:=aa (fun w' (e:Ext w w')=>aa (jH t w' (ht.ext e) hf.ty hf.ja));have B1:aiE (av (w.alloc (.cells #[.int .i64 t.kind,.int .i64 t.n,encStr t.name,.slice t.V t.vars.length t.vc,.slice t.T t.types.length t.tc,.slice t.A t.kids.length t.cap] 40)) w.heap.size t):=aa (av.new w t);obtain⟨FM,h9,h11⟩:=eF hn;have HK:=aa ht.all;have Hf:=aa hf;have hl0:0<t.kids.length:=by omega
 have hR:=rD hF hn;rw[if_pos (by simpa using h8),decide_eq_true hk,Bool.true_and,yj t hl0] at hR;have nX:=ht.hd.le;have cB:=ht.hd.max;have GS:(t.kids.length:Int)≥2:=by omega
 have MT:=aa (fun w' (e:Ext w w')=>aa (HI _ (aiF hl0) w' ((HK.o.kids _ (aiF hl0)).ext e) (Hf.o.kids _ (aiF hl0))));have HA:=aa (fun w' (e:Ext w w')=>aa (wq 109 #[] rC (fun k => !k.tb.alt) _ (t.cap - 1) (t.kids.drop 1) w' ((HK.o.cut (k:=1) (cap:=t.cap) (by omega) nX).ext e) (by rw[List.length_drop];have:=Hf.o.kl;omega) (fun w'' e2 x hx=>Es x (ky x (List.mem_of_mem_drop hx)) w'' ((HK.o.kids x (List.mem_of_mem_drop hx)).ext (e.trans e2)) (Hf.o.kids x (List.mem_of_mem_drop hx)))));rw[wD,List.length_drop,if_neg (show ¬t.cap=1 by omega)] at HA;obtain⟨b,o,hA,hb,q0,q1,q2,q3,q4,q5⟩:=lh (HK.o.ext X0.o) hl0;rw[hA] at HA;have yl:=aa hR;have HQ:=aa (fun w' (e:Ext w w')=>lh (HK.o.ext e) hl0);have UU:=aa hA;dsimp only;rw[hF] at HF;clear hR hn q0 q1 q2 q3 q4 q5 hb ht hf hF HI ky hk HK Hf hA;generalize t.kids[0]'hl0=x at *;generalize ((t.kids.drop 1).all fun k=>k.tb.alt)=RA at *
 try dsimp only at MT
 generalize x.tb.term=RT at *;generalize t.tb.term=R at *;have yl:=yl.o;subst yl;obtain⟨c0,-,-,-,-,-⟩:=B1.o.cells;unfold bz at *;go_enter Tryz.func66,Tryz.ntmps66;go_wp2_with fail;refine(HF.o _ X0.o).o.mono ?_;rintro e w2 ⟨rfl,hx⟩;have X2:=aa hx;obtain⟨d0,-,-,-,-,d5⟩:=(B1.o.ext X2.o).cells;obtain⟨b',o',hA',hb,q0,q1,q2,q3,q4,q5⟩:=HQ.o _ (X0.o.trans X2.o);have hA:=UU.o;rw[hA] at hA';injection hA' with hA';injection hA' with e1 e2;subst e1 e2;rw[hA] at d5;clear hx hA;go_wp2_with fail;refine(MT.o _ (X0.o.trans X2.o)).o.mono ?_;rintro e w3 ⟨rfl,hx⟩;have X3:=aa (X2.o.trans hx);clear hx q0 q1 q2 q3 q4 q5 d5 d0;cases RT
 ·go_wp2;go_ret;exact⟨rfl,X0.o.trans X3.o⟩
 ·obtain⟨-,-,-,-,-,d5⟩:=(B1.o.ext X3.o).cells;rw[UU.o] at d5;have hc1:¬t.cap=1:=by omega
  have hs1:(1:Int)≤(t.kids.length:Int):=by omega
  have hs2:(t.kids.length:Int)≤(t.cap:Int):=by omega
  have hs3:(1:Int)≤(t.cap:Int):=by omega
  have hs5:1≤t.cap:=by omega
  have Z7:(0:Int)<(t.kids.length:Int):=by omega
  go_wp2_with fail;refine(HA.o _ (X0.o.trans X3.o)).o.mono ?_;rintro e w4 ⟨rfl,hx⟩;go_wp2;go_ret;exact⟨by simp,X0.o.trans (X3.o.trans hx)⟩
theorem tx (t:Tm) (hn:fk t=false) (hF:bC t=true) (h8:(t.kind == 8)=false) (h10:(t.kind == 10)=true) (hk:¬1≤t.kids.length):zj t:=by
 intro w ht hf;have X0:aiE (Ext w (w.alloc (.cells #[.int .i64 t.kind,.int .i64 t.n,encStr t.name,.slice t.V t.vars.length t.vc,.slice t.T t.types.length t.tc,.slice t.A t.kids.length t.cap] 40))):=aa ((eR w).alloc _);have HF:=aa (fun w' (e:Ext w w')=>aa (jH t w' (ht.ext e) hf.ty hf.ja));have B1:aiE (av (w.alloc (.cells #[.int .i64 t.kind,.int .i64 t.n,encStr t.name,.slice t.V t.vars.length t.vc,.slice t.T t.types.length t.tc,.slice t.A t.kids.length t.cap] 40)) w.heap.size t):=aa (av.new w t);obtain⟨FM,h9,h11⟩:=eF hn;have hR:=rD hF hn;rw[if_neg (by simpa using h8),if_pos (by simpa using h10),decide_eq_false hk,Bool.false_and,Bool.false_and] at hR;have nX:=ht.hd.le;have cB:=ht.hd.max;dsimp only;rw[hR];rw[hF] at HF;have GS:¬(t.kids.length:Int)≥1:=by omega
 clear ht hf hn hF hR hk;obtain⟨c0,-,-,-,-,-⟩:=B1.o.cells;unfold bz at *;go_enter Tryz.func66,Tryz.ntmps66;go_wp2_with fail;refine(HF.o _ X0.o).o.mono ?_;rintro e w2 ⟨rfl,hx⟩;have X2:=aa hx;obtain⟨d0,-,-,-,-,d5⟩:=(B1.o.ext X2.o).cells;clear hx;go_wp2;go_ret;exact⟨rfl,X0.o.trans X2.o⟩
theorem wF (t:Tm) (hn:fk t=false) (hF:bC t=true) (h8:(t.kind == 8)=false) (h10:(t.kind == 10)=true) (hk:1≤t.kids.length) (HI:∀k∈t.kids,zj k) (ky:∀k∈t.kids,∀x∈k.kids,zj x):zj t:=by
 intro w ht hf;have X0:aiE (Ext w (w.alloc (.cells #[.int .i64 t.kind,.int .i64 t.n,encStr t.name,.slice t.V t.vars.length t.vc,.slice t.T t.types.length t.tc,.slice t.A t.kids.length t.cap] 40))):=aa ((eR w).alloc _);have HF:=aa (fun w' (e:Ext w w')=>aa (jH t w' (ht.ext e) hf.ty hf.ja));have B1:aiE (av (w.alloc (.cells #[.int .i64 t.kind,.int .i64 t.n,encStr t.name,.slice t.V t.vars.length t.vc,.slice t.T t.types.length t.tc,.slice t.A t.kids.length t.cap] 40)) w.heap.size t):=aa (av.new w t);obtain⟨FM,h9,h11⟩:=eF hn;have HK:=aa ht.all;have Hf:=aa hf;have hl0:t.kids.length - 1<t.kids.length:=by omega
 have hR:=rD hF hn;rw[if_neg (by simpa using h8),if_pos (by simpa using h10),decide_eq_true hk,Bool.true_and,yj t hl0] at hR;have nX:=ht.hd.le;have cB:=ht.hd.max;have GS:(t.kids.length:Int)≥1:=by omega
 have MT:=aa (fun w' (e:Ext w w')=>aa (HI _ (aiF hl0) w' ((HK.o.kids _ (aiF hl0)).ext e) (Hf.o.kids _ (aiF hl0))));have HA:=aa (fun w' (e:Ext w w')=>aa (wq 111 #[] rB (fun k => !k.tb.bind) t.A t.cap (t.kids.take (t.kids.length - 1)) w' ((HK.o.take (k:=t.kids.length - 1) (by omega)).ext e) (by rw[List.length_take];have:=Hf.o.kl;omega) (fun w'' e2 x hx=>Er x (ky x (List.mem_of_mem_take hx)) w'' ((HK.o.kids x (List.mem_of_mem_take hx)).ext (e.trans e2)) (Hf.o.kids x (List.mem_of_mem_take hx)))));rw[wD,List.length_take,Nat.min_eq_left (by omega)] at HA;have HQ:=aa (fun w' (e:Ext w w')=>(HK.o.ext e).at_ hl0);obtain⟨b,o,hA,hb,q0,q1,q2,q3,q4,q5⟩:=HQ.o _ X0.o;have yl:=aa hR;have UU:=aa hA;rw[hA] at HA;dsimp only;rw[hF] at HF;clear hR hn q0 q1 q2 q3 q4 q5 hb ht hf hF HI ky HK Hf hA;generalize t.kids[t.kids.length - 1]'hl0=x at *;generalize ((t.kids.take (t.kids.length - 1)).all fun k=>k.tb.bind)=RA at *
 try dsimp only at MT
 generalize x.tb.term=RT at *;generalize t.tb.term=R at *;have yl:=yl.o;subst yl;obtain⟨c0,-,-,-,-,-⟩:=B1.o.cells;obtain⟨m,hm⟩:∃m,t.kids.length=m+1:=⟨t.kids.length - 1,by omega⟩;have LK:t.kids.length - 1=m:=by omega
 rw[LK] at HQ HA;have hmI:(t.kids.length:Int) - 1=(m:Int):=by omega
 have jt:m≤t.cap:=by omega
 clear hm LK;unfold bz at *;go_enter Tryz.func66,Tryz.ntmps66;go_wp2_with fail;refine(HF.o _ X0.o).o.mono ?_;rintro e w2 ⟨rfl,hx⟩;have X2:=aa hx;obtain⟨d0,-,-,-,-,d5⟩:=(B1.o.ext X2.o).cells;obtain⟨b',o',hA',hb,q0,q1,q2,q3,q4,q5⟩:=HQ.o _ (X0.o.trans X2.o);have hA:=UU.o;rw[hA] at hA';injection hA' with hA';injection hA' with e1 e2;subst e1 e2;rw[hA] at d5;clear hx hA;go_wp2_with fail;refine(MT.o _ (X0.o.trans X2.o)).o.mono ?_;rintro e w3 ⟨rfl,hx⟩;have X3:=aa (X2.o.trans hx);clear hx q0 q1 q2 q3 q4 q5 d5 d0;cases RT
 ·go_wp2;go_ret;exact⟨rfl,X0.o.trans X3.o⟩
 ·obtain⟨-,-,-,-,-,d5⟩:=(B1.o.ext X3.o).cells;rw[UU.o] at d5;have hs2:(m:Int)≤(t.cap:Int):=by omega
  have hs3:(0:Int)≤(m:Int):=by omega
  have Oe:(0:Int)≤(t.cap:Int):=by omega
  go_wp2_with fail;refine(HA.o _ (X0.o.trans X3.o)).o.mono ?_;rintro e w4 ⟨rfl,hx⟩;go_wp2;go_ret;exact⟨by simp,X0.o.trans (X3.o.trans hx)⟩
set_option maxRecDepth 512
set_option maxHeartbeats 200000
theorem AG (n:Nat):∀t:Tm,t.size≤n→zj t:=by
 induction n with
 |zero=>intro t h;have:=t.size_pos;omega
 |succ n ih=>
 intro t hsz;have HI:∀k∈t.kids,zj k:=fun k hk=>ih k (by have:=Tm.cF hk;omega)
 have ky:∀k∈t.kids,∀x∈k.kids,zj x:=fun k hk x hx=>ih x (by have:=Tm.cF hk;have:=Tm.cF hx;omega)
 cases hn:fk t
 rotate_left
 ·exact yo t hn
 cases hF:bC t
 ·exact rE t hn hF
 cases h8:(t.kind == 8)
 ·cases h10:(t.kind == 10)
  ·exact tq t hn hF h8 h10 HI
  ·by_cases hk:1≤t.kids.length
   ·exact wF t hn hF h8 h10 hk HI ky
   ·exact tx t hn hF h8 h10 hk
 ·by_cases hk:2≤t.kids.length
  ·exact tu t hn hF h8 hk HI ky
  ·exact rF t hn hF h8 hk
theorem Jm (t:Tm):zj t:=AG t.size t (aiG _)
structure UW {α:Type}(B:Nat) (I:List α→World→Prop):Prop where
 alloc:∀s W o,I s W→I s (W.alloc o)
 put:∀s W l o o',I s W→B≤l→W.heap[l]?=some o→o.isCells=false→I s (W.putObj l o')
def roundEnd {α:Type}(Kp:World→World→Prop) (I Ix:List α→World→Prop) (xs:List α) (W:World):Exit→Act→World→Prop
 | .normal,_,W'=>KeepsOthers W W'∧Kp W W'∧I xs W'
 | .ret,_,W'=>KeepsOthers W W'∧Ix xs W'
 |_,_,_=>False
theorem yq {F:Fence}{n:Nat}{P:Program}{α:Type}{g:Operand}{ps:Array Tmp}{assign body:Code}{Q:Exit→Act→World→Prop}{a:Act}{w:World}
  (hro:F.round=none) (h1:1≤n){gf:Nat}{ba:Array Value}(hg:a.eval g=.func (.func gf) ba #[]) (hFg:F.fn gf) (eg:∀args w,(callFunc gf args).run P w=.ok (.enter gf args) w)
  {encs:α→Array Value}{Kp:World→World→Prop}{S Sp:List α→Prop}{N:Nat}
  (hseq:∀(l:Nat) (J Jx:List α→World→Prop) (W:World),Below w.heap.size w W→(∀s W o,J s W→J s (W.alloc o)) →
   (∀pre x W1,J pre W1→pre.length<N→YieldAt F (n - 1 - 1) P l (encs x) W1 fun e W'=>(e=.returned (.bool true)∧J (pre++[x]) W'∧Kp W1 W')∨(e=.returned (.bool false)∧Jx (pre++[x]) W'))→J [] W →
   CallsIn F (n - 1) P gf (ba++#[.func (.yield l) #[] #[]]) W fun e W'=>(∃v,e=.returned v)∧((∃xs,S xs∧J xs W')∨(∃pre,Sp pre∧Jx pre W')))
  (hKt:∀ {A B C:World},Kp A B→Kp B C→Kp A C) (hKb:∀(W:World) (l:Nat) (o o':Obj),w.heap.size≤l→W.heap[l]?=some o→o.isCells=false→Kp W (W.putObj l o')) (sx:∀x,(encs x).size=ps.size)
  (I Ix:List α→World→Prop) (hI:UW w.heap.size I) (hIx:UW w.heap.size Ix) (h0:I [] w) (a₁:α→Act)
  (MV:∀(l:Nat) (x:α) (W:World) (K:Act→World→Prop),K (a₁ x) W →
   assign.wpIn (F.inRound l) (n - 1 - 1) P (Exit.then K (fun _ _ _=>False)) { tmps:=(ps.zip (encs x)).foldl (fun t (p,v)=>t.setIfInBounds p v) a.tmps,defers:=[] } W)
  (UX:∀(l:Nat) (pre:List α) (x:α) (W:World),I pre W→pre.length<N→body.wpIn (F.inRound l) (n - 1 - 1) P (roundEnd Kp I Ix (pre++[x]) W) (a₁ x) W)
  (hdone:∀(D:Nat) (xs:List α) (W:World),w.heap.size≤D→S xs→I xs W→W.heap[D]?=some (.deferred (some []))→Q .normal { a with defers := { target:=.collected D,args:=#[] } :: a.defers } W)
  (UY:∀(D:Nat) (pre:List α) (W:World),w.heap.size≤D→Sp pre→Ix pre W→W.heap[D]?=some (.deferred (some []))→Code.ret.wpIn F n P Q { a with defers := { target:=.collected D,args:=#[] } :: a.defers } W) :
  (Code.rangeFunc g ps assign body).wpIn F n P Q a w:=by
 refine wpIn_rangeFunc fun fn hfn => ?_
 rw[hro]
 let L:LoopState→Option Code→Obj:=fun st pe=>.loop { state:=st,pending:=pe,fn,tmps:=a.tmps,params:=ps,assign,body,defers:=w.heap.size }
 obtain⟨V,hV⟩:∃V,V=(w.alloc (.deferred (some []))).alloc (L .ready none):=⟨_,rfl⟩;have vL:V.heap[w.heap.size+1]?=some (L .ready none):=by
  rw[hV];have:=World.alloc_heap_new (w.alloc (.deferred (some []))) (L .ready none);rwa [World.size_alloc] at this
 have vD:V.heap[w.heap.size]?=some (.deferred (some [])):=by
  rw[hV];exact(Below.heap_alloc _ _ _ (by simp)).trans (World.alloc_heap_new w _)
 have vI:I [] V:=by rw[hV];exact hI.alloc _ _ _ (hI.alloc _ _ _ h0)
 have vB:Below w.heap.size w V:=by rw[hV];exact((Below.refl _ w).alloc (aiG _) _).alloc (by simp) _
 have old:∀ {W:World}{j:Nat}{o:Obj}(o':Obj),W.heap[j]?=some o→(W.alloc o').heap[j]?=some o:=fun o' h=>(Below.heap_alloc _ _ _ (Array.getElem?_eq_some_iff.1 h).1).trans h
 refine⟨w.heap.size+1,[{ target:=.collected w.heap.size,args:=#[] }],V,{ target:=.fn (.func gf) #[],args:=ba++#[.func (.yield (w.heap.size+1)) #[] #[]] },V,gf,ba++#[.func (.yield (w.heap.size+1)) #[] #[]],V,?_,?_,?_,?_,fun _=>h1,?_⟩
 ·rw[hV];exact run_enterLoop_outer _ _ _ _ _
 ·simp only[resolve,hg];simp[go_sem]
 ·intro f' hf';simp[Target.leads] at hf';subst hf';exact hFg
 ·simp[invoke,go_sem,eg]
 refine(hseq (w.heap.size+1) (fun pre W=>I pre W∧W.heap[w.heap.size+1]?=some (L .ready none)∧W.heap[w.heap.size]?=some (.deferred (some [])))
  (fun pre W=>Ix pre W∧W.heap[w.heap.size+1]?=some (L .done (some .ret))∧W.heap[w.heap.size]?=some (.deferred (some []))) V vB
  (fun s W o h=>⟨hI.alloc _ _ _ h.1,old o h.2.1,old o h.2.2⟩) ?_ ⟨vI,vL,vD⟩).mono ?_
 ·-- a round
  rintro pre x W ⟨hi,hl,hk⟩ hlen;refine⟨fn,_,assign,body,run_yield (P:=P) (args:=encs x) hl (sx x),roundIn_of_wpIn hfn (MV _ x W _ ⟨_,run_beginRound hl rfl,?_⟩)⟩;have hB:(W.putObj (w.heap.size+1) (L .busy none)).heap[w.heap.size+1]?=some (L .busy none):=World.putObj_heap_same (Array.getElem?_eq_some_iff.1 hl).1;have hD:(W.putObj (w.heap.size+1) (L .busy none)).heap[w.heap.size]?=some (.deferred (some [])):=(World.putObj_heap_other (by omega)).trans hk;have ends:∀(jump:Option Code) (W3:World),KeepsOthers (W.putObj (w.heap.size+1) (L .busy none)) W3→W3.heap[w.heap.size+1]?=some (L .busy none) ∧
    (Instr.endRound (w.heap.size+1) jump).run P W3=.ok (.bool jump.isNone) (W3.putObj (w.heap.size+1) (L (if jump.isNone then .ready else .done) jump)) ∧
    (W3.putObj (w.heap.size+1) (L (if jump.isNone then .ready else .done) jump)).heap[w.heap.size+1]?=some (L (if jump.isNone then .ready else .done) jump) ∧
    (W3.putObj (w.heap.size+1) (L (if jump.isNone then .ready else .done) jump)).heap[w.heap.size]?=some (.deferred (some [])):=fun jump W3 hk3=>by
   have h3:=hk3.same _ _ hB rfl;exact⟨h3,run_endRound (P:=P) jump h3,World.putObj_heap_same (Array.getElem?_eq_some_iff.1 h3).1,(World.putObj_heap_other (by omega)).trans (hk3.same _ _ hD rfl)⟩
  refine wpIn_mono (UX _ pre x _ (hI.put _ _ _ _ _ hi (by omega) hl rfl) hlen) ?_;intro e a3 W3 hp;cases e with
  |normal=>
   obtain⟨hk3,js,Z8⟩:=hp;obtain⟨g1,g2,g3,g4⟩:=ends none W3 hk3;exact⟨_,_,g2,.inl ⟨rfl,⟨hI.put _ _ _ _ _ Z8 (by omega) g1 rfl,g3,g4⟩,hKt (hKt (hKb _ _ _ _ (by omega) hl rfl) js) (hKb _ _ _ _ (by omega) g1 rfl)⟩⟩
  |ret=>
   obtain⟨hk3,Z8⟩:=hp;obtain⟨g1,g2,g3,g4⟩:=ends (some .ret) W3 hk3;exact⟨_,_,g2,.inr ⟨rfl,hIx.put _ _ _ _ _ Z8 (by omega) g1 rfl,g3,g4⟩⟩
  |exit id=>exact hp.elim
  |goto t=>exact hp.elim
  |panic ch=>exact hp.elim
  |outgrown=>exact hp.elim
 ·-- behind the iterator
  rintro e W2 ⟨⟨v,rfl⟩,(⟨xs,hS,hi,hl,hk⟩|⟨pre,hSp,hi,hl,hk⟩)⟩
  ·exact⟨none,_,run_endLoop (P:=P) hl (by simp),hdone _ xs _ (aiG _) hS (hI.put _ _ _ _ _ hi (by omega) hl rfl) ((World.putObj_heap_other (by omega)).trans hk)⟩
  ·exact⟨some .ret,_,run_endLoop (P:=P) hl (by simp),UY _ pre _ (aiG _) hSp (hIx.put _ _ _ _ _ hi (by omega) hl rfl) ((World.putObj_heap_other (by omega)).trans hk)⟩
end Go.Proofs.YtigafbmabjglfaaGreatDoor
namespace Go.Proofs.YtigafbmabjglfaaGreatDoor
open Go.RowKit Go.Shelf
attribute [local go_sem] Oper.semAt_some
noncomputable def Tm.iE : Tm→Nat→List (Nat×Tm):=Tm.fold fun t l d=>(d,t) :: (l.map fun f=>f (d+1)).flatten
noncomputable def fu (l:List Tm) (d:Nat):List (Nat×Tm):=(l.map fun k=>k.iE d).flatten
theorem wG (t:Tm) (d:Nat):t.iE d=(d,t) :: fu t.kids (d+1):=by
 unfold Tm.iE;rw[Tm.fold_eq];simp only[fu,List.map_map];rfl
theorem AH (l:List Tm) (d:Nat){k:Nat}(h:k<l.length):fu (l.take (k+1)) d=fu (l.take k) d++(l[k]'h).iE d:=by
 unfold fu;rw[aiJ h,aiX,List.flatten_append]
 congr 1
 simp
theorem yr (l:List Tm) (d k:Nat):fu l d=fu (l.take k) d++fu (l.drop k) d:=by
 unfold fu;rw[←List.flatten_append,←aiX,List.take_append_drop]
theorem Jn (c:Nat):∀(t:Tm) (d:Nat),(∀p∈t.iE d,p.1≤c)↔d+t.depth≤c+1:=by
 intro t
 induction t using Tm.ind with
 |h t ih=>
 intro d;rw[wG,Tm.aT];have mU:∀(l:List Nat) (m:Nat),l.foldr max 0≤m↔∀x∈l,x≤m:=by
  intro l m
  induction l with
  |nil=>simp
  |cons x l ih=>simp only[List.foldr_cons,List.mem_cons,forall_eq_or_imp];rw[←ih];omega
 have hk:(∀p∈fu t.kids (d+1),p.1≤c)↔∀k∈t.kids,d+1+k.depth≤c+1:=by
  unfold fu
  constructor
  ·intro h k hk;exact(ih k hk (d+1)).1 (fun p hp=>h p (List.mem_flatten.2 ⟨_,List.mem_map.2 ⟨k,hk,rfl⟩,hp⟩))
  ·intro h p hp;obtain⟨_,hl,hp⟩:=List.mem_flatten.1 hp;obtain⟨k,hk,rfl⟩:=List.mem_map.1 hl;exact(ih k hk (d+1)).2 (h k hk) p hp
 simp only[List.mem_cons,forall_eq_or_imp];rw[hk]
 constructor
 ·rintro⟨h1,h2⟩;have:(t.kids.map Tm.depth).foldr max 0≤c - d:=(mU _ _).2 (fun x hx=>by
   obtain⟨k,hk,rfl⟩:=List.mem_map.1 hx;have:=h2 k hk;omega)
  omega
 ·intro h;refine⟨by omega,fun k hk => ?_⟩;have:=(mU (t.kids.map Tm.depth) ((t.kids.map Tm.depth).foldr max 0)).1 (aiG _) k.depth (List.mem_map.2 ⟨k,hk,rfl⟩);omega
theorem Jo (t:Tm):∀d,(t.iE d).length=t.size:=by
 induction t using Tm.ind with
 |h t ih=>
 intro d;rw[wG,Tm.size_eq,aiW]
 congr 1
 unfold fu;rw[List.length_flatten,List.map_map]
 congr 1
 exact List.map_congr_left (fun k hk=>ih k hk (d+1))
section
variable {n₀ R:Nat}{A B C:World}
theorem Kc.OC (h:Kc n₀ R A B){b:Nat}{t:Tm}(k:av A b t) (hb:b≠R):av B b t:=h.cells b _ hb k rfl
end
set_option maxRecDepth 10000
set_option maxHeartbeats 8000000
theorem Et (F:Fence) (hd:F.depth=none) (h6:F.fn 153) (hro:F.round=none) (l n₀ R N:Nat) (w0:World) (hw0:n₀=w0.heap.size) (J Jx:List (Nat×Tm)→World→Prop)
  (QF:∀pre W o,J pre W→J pre (W.alloc o))
  (hY:∀m pre x W,J pre W→pre.length<N→YieldAt F m Tryz.prog l #[.int .i64 ((x:Nat×Tm).1:Nat),bz x.2] W fun e W'=>
   (e=.returned (.bool true)∧J (pre++[x]) W'∧Kc n₀ R W W')∨(e=.returned (.bool false)∧Jx (pre++[x]) W')) (t:Tm) :
  ∀(n d:Nat) (pre:List (Nat×Tm)) (W:World),aQ w0 t→Below n₀ w0 W→R<W.heap.size→J pre W→d+t.size≤1000000000→pre.length+(t.iE d).length≤N →
   CallsIn F n Tryz.prog 153 #[bz t,.int .i64 d,.func (.yield l) #[] #[]] W fun e W'=>
    (e=.returned (.bool true)∧J (pre++t.iE d) W'∧Kc n₀ R W W')∨(e=.returned (.bool false)∧∃q,q <+: t.iE d∧Jx (pre++q) W'):=by
 induction t using Tm.ind with
 |h t ih=>
 intro n d pre W ht hB hRW hJ hsz hN;have IH:=aa ih;have hdd:∀k:Nat,(F.depth.isSome=true→1≤k):=fun k h=>by rw[hd] at h;cases h
 have hlv:=wG t d;have zr:n₀≤W.heap.size:=by have:=hB.size;omega
 have fI:aiE (av (W.alloc (.cells #[.int .i64 t.kind,.int .i64 t.n,encStr t.name,.slice t.V t.vars.length t.vc,.slice t.T t.types.length t.tc,.slice t.A t.kids.length t.cap] 40)) W.heap.size t):=aa (ah _ _ _ rfl);have K0:aiE (Kc n₀ R W (W.alloc (.cells #[.int .i64 t.kind,.int .i64 t.n,encStr t.name,.slice t.V t.vars.length t.vc,.slice t.T t.types.length t.tc,.slice t.A t.kids.length t.cap] 40))):=aa ((Kc.refl _ _ _).alloc zr _);have Xq:=QF pre W (.cells #[.int .i64 t.kind,.int .i64 t.n,encStr t.name,.slice t.V t.vars.length t.vc,.slice t.T t.types.length t.tc,.slice t.A t.kids.length t.cap] 40) hJ;obtain⟨fn,tmps,assign,body,hy,hR⟩:=hY (n - 1) pre (d,t) _ Xq (by rw[hlv] at hN;simp at hN;omega);have HT:=aa ht;have CZ:=aa hB;have HR:=aa hR;clear ih hB hR hJ Xq;unfold bz;unfold bz at hy;have hle:=ht.hd.le;have hmx:=ht.hd.max;have HK:=aa ht.all;dsimp only at hy;generalize xn:t.A=A0 at *;have BC:=aa xn;clear xn ht;refine callsIn_of_wp Tryz.func153 rfl h6 ?_ hro;simp only[Tryz.ntmps153,List.size_toArray,aiW,List.length_nil,Nat.reduceAdd,Nat.reduceSub,Array.replicate_succ,Array.replicate_zero,List.push_toArray,List.append_toArray,List.nil_append,List.cons_append]
 gi_wp2
 refine HR.o.mono ?_;rintro e W2 (⟨rfl,hJ2,hk2⟩|⟨rfl,Z9⟩)
 ·have K2:=aa (K0.o.trans hk2);have gS:=aa (hk2.OC fI.o (by omega));have jU:=aa hJ2;have HJa:=aa QF;have hc4:=gS.o.cells.2.2.2.2.2;rw[BC.o] at hc4;have HLT:=aa (fun k (hk:k<t.kids.length)=>AH t.kids (d+1) hk);have HLS:=aa (fun k=>yr t.kids (d+1) k);have UZ:=aa hlv;have Sn:=aa hN;have Da:=aa (fun k (hk:k∈t.kids)=>Tm.cF hk);have hW2:W.heap.size<W2.heap.size:=gS.o.lt;clear hJ2 hk2 hlv QF hN HR hY
  gi_wp2
  gi_loopw [17] (fun i wr=>∃k:Nat,k≤t.kids.length∧i=.int .i64 k∧aiE (J (pre++(d,t) :: fu (t.kids.take k) (d+1)) wr)∧aiE (Kc n₀ R W2 wr)) (fun i _=>t.kids.length - (intOf i).toNat)
  case atStart=>exact⟨0,aiH _,rfl,aa (by simpa [fu] using jU.o),aa (Kc.refl _ _ _)⟩
  case round=>
   obtain⟨k,hk,rfl,HJ,QG⟩:=hrel;have sr:=aa (QG.o.OC gS.o (by omega))
   by_cases hlt:k<t.kids.length
   ·have aN:(k:Int)<(t.kids.length:Int):=by omega
    have Fw:aiE (Below n₀ w0 wr):=aa ((CZ.o.trans K2.o.below).trans QG.o.below);obtain⟨b,o,rfl,hb,q0,q1,q2,q3,q4,q5⟩:=(HK.o.old (hw0▸Fw.o)).at_ hlt;have mP:=aiF hlt;have hcs:=Da.o _ mP;have iC:=aa (HLT.o k hlt);have HsN:pre.length+(fu (t.kids.take k) (d+1)).length+1+((t.kids[k]'hlt).iE (d+1)).length≤N:=by
     have h1:=Sn.o;have h2:=congrArg List.length (HLS.o (k+1));rw[UZ.o] at h1;rw[iC.o] at h2;simp only[aiW,aiL] at h1 h2;omega
    have HC:=aa (IH.o _ mP (n - 1) (d+1) _ (wr.alloc (.cells #[.int .i64 (t.kids[k]'hlt).kind,.int .i64 (t.kids[k]'hlt).n,encStr (t.kids[k]'hlt).name,.slice (t.kids[k]'hlt).V (t.kids[k]'hlt).vars.length (t.kids[k]'hlt).vc,.slice (t.kids[k]'hlt).T (t.kids[k]'hlt).types.length (t.kids[k]'hlt).tc,.slice (t.kids[k]'hlt).A (t.kids[k]'hlt).kids.length (t.kids[k]'hlt).cap] 40))
     (HK.o.kids _ mP) (Fw.o.alloc (by have:=Fw.o.size;omega) _) (by have:=QG.o.size;simp;omega) (HJa.o _ _ _ HJ.o) (by omega) (by simp only[aiL,aiW];omega))
    have Xr:aiE (Kc n₀ R W2 (wr.alloc (.cells #[.int .i64 (t.kids[k]'hlt).kind,.int .i64 (t.kids[k]'hlt).n,encStr (t.kids[k]'hlt).name,.slice (t.kids[k]'hlt).V (t.kids[k]'hlt).vars.length (t.kids[k]'hlt).vc,.slice (t.kids[k]'hlt).T (t.kids[k]'hlt).types.length (t.kids[k]'hlt).tc,.slice (t.kids[k]'hlt).A (t.kids[k]'hlt).kids.length (t.kids[k]'hlt).cap] 40))):=aa (QG.o.alloc (by have:=Fw.o.size;omega) _);have SX:=aa (HLS.o k);have SY:aiE (fu (t.kids.drop k) (d+1)=(t.kids[k]'hlt).iE (d+1)++fu (t.kids.drop (k+1)) (d+1)):=aa (by unfold fu;rw[List.drop_eq_getElem_cons hlt];rfl);clear mP HsN;generalize t.kids[k]'hlt=c at *;have RV:(d:Int)+1≤2000000000:=by omega
    have Wu:(0:Int)≤(d:Int):=by omega
    have ha:1≤n∨True:=.inr trivial
    gi_wp2_with fail
    refine HC.o.mono ?_;rintro e W4 (⟨rfl,NR,hk4⟩|⟨rfl,q,hq,Gf⟩)
    ·have K4:=aa (Xr.o.trans hk4);have SZ:=aa NR;clear NR hk4
     gi_wp2
     go_roundw
     case rel=>exact⟨k+1,hlt,by go_num,aa (by rw[iC.o];simpa using SZ.o),K4⟩
     case measure=>simp[intOf];omega
    ·gi_wp2
     go_ret;refine .inr ⟨rfl,(d,t) :: fu (t.kids.take k) (d+1)++q,?_,by simpa using Gf⟩;obtain⟨r,hr⟩:=hq;rw[UZ.o,SX.o,SY.o,←hr];exact⟨r++fu (t.kids.drop (k+1)) (d+1),by simp⟩
   ·have bS:¬(k:Int)<(t.kids.length:Int):=by omega
    have wZ:t.kids.take k=t.kids:=aiK (by omega);have HF:aiE (J (pre++t.iE d) wr):=aa (by have:=HJ.o;rw[wZ,←UZ.o] at this;exact this);clear wZ
    gi_wp2
    go_ret;exact .inl ⟨rfl,HF.o,by rw[←hw0];exact K2.o.trans QG.o⟩
 ·gi_wp2
  go_ret;exact .inr ⟨rfl,[(d,t)],by rw[hlv];exact⟨_,rfl⟩,Z9⟩
set_option maxRecDepth 512
set_option maxHeartbeats 200000
end Go.Proofs.YtigafbmabjglfaaGreatDoor
namespace Go.Proofs.YtigafbmabjglfaaGreatDoor
open Go.RowKit Go.Shelf
attribute [local go_sem] Oper.semAt_some
set_option maxHeartbeats 1000000 in
theorem AJ (F:Fence) (n:Nat) (h4:F.fn 65) (hro:F.round=none) (t:Tm) (w:World) :
  CallsIn F n Tryz.prog 65 #[bz t] w fun e w'=>e=.returned (.func (.func 106) #[bz t] #[])∧w'=w.alloc (.cells #[.int .i64 t.kind,.int .i64 t.n,encStr t.name,.slice t.V t.vars.length t.vc,.slice t.T t.types.length t.tc,.slice t.A t.kids.length t.cap] 40):=by
 unfold bz;refine callsIn_of_wp Tryz.func65 rfl h4 ?_ hro;simp only[Tryz.ntmps65,List.size_toArray,aiW,List.length_nil,Nat.reduceAdd,Nat.reduceSub,Array.replicate_succ,Array.replicate_zero,List.push_toArray,List.append_toArray,List.nil_append,List.cons_append]
 gi_wp2
 go_ret;exact⟨rfl,rfl⟩
set_option maxHeartbeats 2000000 in
theorem Jp (F:Fence) (hd:F.depth=none) (n:Nat) (h5:F.fn 106) (h6:F.fn 153) (hro:F.round=none) (l n₀ R:Nat) (w0:World) (hw0:n₀=w0.heap.size) (t:Tm) (J Jx:List (Nat×Tm)→World→Prop)
  (QF:∀pre W o,J pre W→J pre (W.alloc o))
  (hY:∀pre x W,J pre W→pre.length<(t.iE 1).length→YieldAt F (n - 1) Tryz.prog l #[.int .i64 ((x:Nat×Tm).1:Nat),bz x.2] W fun e W'=>
   (e=.returned (.bool true)∧J (pre++[x]) W'∧Kc n₀ R W W')∨(e=.returned (.bool false)∧Jx (pre++[x]) W'))
  (W:World) (ht:aQ w0 t) (hB:Below n₀ w0 W) (hR:R<W.heap.size) (hsz:1+t.size≤1000000000) (h0:J [] W) :
  CallsIn F n Tryz.prog 106 #[bz t,.func (.yield l) #[] #[]] W fun e W'=>(∃v,e=.returned v) ∧
   ((∃ys,ys=t.iE 1∧J ys W')∨(∃pre,pre <+: t.iE 1∧Jx pre W')):=by
 have hp:=aa (fun W' (e:Ext W W') (h:J [] W')=>Et F hd h6 hro l n₀ R (t.iE 1).length w0 hw0 J Jx QF (fun m pre x W hj hl=>YieldAt.ri hd m (hY pre x W hj hl)) t (n - 1) 1 [] W' ht (hB.trans (e.below.mono (by have:=hB.size;omega))) (by have:=e.size;omega) h hsz (by simp));have HJ:=aa (fun o=>QF [] W o h0);clear hY QF ht hB h0 hw0;unfold bz at *;refine callsIn_of_wp Tryz.func106 rfl h5 ?_ hro;simp only[Tryz.ntmps106,List.size_toArray,aiW,List.length_nil,Nat.reduceAdd,Nat.reduceSub,Array.replicate_succ,Array.replicate_zero,List.push_toArray,List.append_toArray,List.nil_append,List.cons_append]
 gi_wp2_with fail
 refine(hp.o _ ((eR W).alloc _) (HJ.o _)).mono ?_;rintro e W1 (⟨rfl,Xq,_⟩|⟨rfl,q,hq,hx⟩)
 ·gi_wp2
  go_end0
  exact⟨⟨_,rfl⟩,.inl ⟨_,rfl,by simpa using Xq⟩⟩
 ·gi_wp2
  go_end0
  exact⟨⟨_,rfl⟩,.inr ⟨q,hq,by simpa using hx⟩⟩
end Go.Proofs.YtigafbmabjglfaaGreatDoor
namespace Go.Proofs.YtigafbmabjglfaaGreatDoor
open Go.RowKit Go.Shelf
attribute [local go_sem] Oper.semAt_some
theorem ia {W:World}{B:Nat}{v:Value}{t:TypeId}(h:W.heap[B]?=some (.cells #[v] t (0,0))):W.cell? ⟨B,0,none⟩=some v∧W.frozen? ⟨B,0,none⟩=false:=by
 constructor<;>simp[World.cell?,World.frozen?,h]
theorem wH {W:World}{B:Nat}{v u:Value}{t:TypeId}(h:W.heap[B]?=some (.cells #[v] t (0,0))):(W.setCell ⟨B,0,none⟩ u).heap[B]?=some (.cells #[u] t (0,0)):=by
 have:=aw h 0 u;simpa using this
theorem wI {W:World}{B l:Nat}{v:Value}{t:TypeId}{o o':Obj}(h:W.heap[B]?=some (.cells #[v] t (0,0))) (hl:W.heap[l]?=some o) (ho:o.isCells=false):(W.putObj l o').heap[B]?=some (.cells #[v] t (0,0)):=by
 refine(World.putObj_heap_other (fun e => ?_)).trans h;subst e;rw[hl] at h;cases h;cases ho
theorem ib {W:World}{B:Nat}{v:Value}{t:TypeId}(o:Obj) (h:W.heap[B]?=some (.cells #[v] t (0,0))):(W.alloc o).heap[B]?=some (.cells #[v] t (0,0)):=(Below.heap_alloc _ _ _ (Array.getElem?_eq_some_iff.1 h).1).trans h
theorem uQ {n₀:Nat}{w W:World}{l:Nat}(o':Obj) (h:Below n₀ w W) (hn:n₀≤w.heap.size) (hB:n₀≤l):Below n₀ w (W.putObj l o'):=
 h.grown (grownBy_putObj' W l o') (aiM hn h.size) (fun k e=>by cases e;exact hB)
theorem Kc.aaa {n₀ R:Nat}(h:n₀≤R) (W:World) (v:Value):Kc n₀ R W (W.setCell ⟨R,0,none⟩ v):=
 ⟨(Below.refl _ W).setCell (p:=⟨R,0,none⟩) h v,fun _ _ hk ho _=>(Below.heap_setCell _ _ _ _ hk).trans ho⟩
end Go.Proofs.YtigafbmabjglfaaGreatDoor
namespace Go.Proofs.YtigafbmabjglfaaGreatDoor
open Go.RowKit Go.Shelf
attribute [local go_sem] Oper.semAt_some
def fX (l:List (Nat×Tm)):Prop:=l.length≤4096∧∀p∈l,p.1≤400
theorem fX.snoc {l:List (Nat×Tm)}{x:Nat×Tm}(h:fX l) (hl:l.length+1≤4096) (hx:x.1≤400):fX (l++[x]):=
 ⟨by simpa using hl,fun y hy=>(List.mem_append.1 hy).elim (h.2 y) (fun e=>by rw[aiV] at e;subst e;exact hx)⟩
theorem yt (t:Tm):cx t=(@decide (fX (t.iE 1)) (Classical.propDecidable _)&&t.tb.term):=by
 unfold cx
 congr 1
 have h1:=Jn 400 t 1;have h2:=Jo t 1;have:fX (t.iE 1)↔(t.size≤4096∧t.depth≤400):=by
  unfold fX;rw[h1,h2];omega
 by_cases h:fX (t.iE 1)
 ·rw[@decide_eq_true _ (Classical.propDecidable _) h];have:=this.1 h;simp[this.1,this.2]
 ·rw[@decide_eq_false _ (Classical.propDecidable _) h];have h3:¬(t.size≤4096∧t.depth≤400):=fun k=>h (this.2 k)
  by_cases h4:t.size≤4096
  ·have:¬t.depth≤400:=fun k=>h3 ⟨h4,k⟩
   simp[this]
  ·simp[h4]
theorem iO {W:World}{b:Nat}{t:Tm}(o:Obj) (h:av W b t):av (W.alloc o) b t:=h.ext ((eR _).alloc _)
theorem Eu {W:World}{B l:Nat}{t:Tm}{o o':Obj}(h:av W B t) (hl:W.heap[l]?=some o) (ho:o.isCells=false):av (W.putObj l o') B t:=by
 refine(World.putObj_heap_other (fun e => ?_)).trans h;subst e;unfold av at h;rw[hl] at h;cases h;cases ho
theorem Ev {W:World}{B c i:Nat}{t:Tm}{v:Value}(h:av W B t) (hc:c≠B):av (W.setCell ⟨c,i,none⟩ v) B t:=
 h.kept (aL W c i v) (fun e=>hc (by injection e))
theorem Ew {W:World}{B c i:Nat}{v u:Value}{t:TypeId}(h:W.heap[B]?=some (.cells #[v] t (0,0))) (hc:c≠B):(W.setCell ⟨c,i,none⟩ u).heap[B]?=some (.cells #[v] t (0,0)):=
 ((aL W c i u).block B (ae h) (fun e=>hc (by injection e with e;exact e.symm))).trans h
set_option maxRecDepth 100000 in
set_option maxHeartbeats 8000000 in
theorem AK (t:Tm) (w:World) (ht:aQ w t) (hf:dt t) (hsz:t.size≤100000000) :
  CallsIn Fence.wide 4 Tryz.prog 42 #[bz t] w fun e W'=>e=.returned (.bool (cx t))∧Below w.heap.size w W':=by
 have h1:1≤4:=by omega
 have sD:Fence.wide.fn 42:=trivial;have h5:Fence.wide.fn 106:=trivial;have h4:Fence.wide.fn 65:=trivial;have h7:Fence.wide.fn 66:=trivial;have Wu:Fence.wide.depth=none:=rfl;rw[yt];have HA:=aa (fun w'=>AJ Fence.wide 3 trivial rfl t w');have Ht:=aa ht;have HT:=aa (fun w' (e:Below w.heap.size w w')=>aa ((callsIn_wide (n:=3)).2 (Jm t w' (ht.old e) hf)));have PK:1+t.size≤1000000000:=by omega
 have fI:=aa (av.new w t);clear ht hf;dsimp only at HT;generalize t.tb.term=RT at *;unfold bz at *;refine callsIn_of_wp_marks Tryz.func42 rfl sD ?_ rfl;simp only[Tryz.ntmps42,List.size_toArray,aiW,List.length_nil,Nat.reduceAdd,Nat.reduceSub,Array.replicate_succ,Array.replicate_zero,List.push_toArray,List.append_toArray,List.nil_append,List.cons_append]
 gi_wp2_with fail
 refine(HA.o _).mono ?_;rintro e w' ⟨rfl,rfl⟩
 gi_wp2
 have Xs:Below w.heap.size w ((((w.alloc (.cells #[.int .i64 t.kind,.int .i64 t.n,encStr t.name,.slice t.V t.vars.length t.vc,.slice t.T t.types.length t.tc,.slice t.A t.kids.length t.cap] 40)).alloc (.cells #[.bool false] 4)).alloc (.cells #[.int .i64 0] 3)).alloc (.cells #[.int .i64 t.kind,.int .i64 t.n,encStr t.name,.slice t.V t.vars.length t.vc,.slice t.T t.types.length t.tc,.slice t.A t.kids.length t.cap] 40)):=((((Below.refl _ w).alloc (aiG _) _).alloc (by simp) _).alloc (by simp;omega) _).alloc (by simp;omega) _;have hR:((((w.alloc (.cells #[.int .i64 t.kind,.int .i64 t.n,encStr t.name,.slice t.V t.vars.length t.vc,.slice t.T t.types.length t.tc,.slice t.A t.kids.length t.cap] 40)).alloc (.cells #[.bool false] 4)).alloc (.cells #[.int .i64 0] 3)).alloc (.cells #[.int .i64 t.kind,.int .i64 t.n,encStr t.name,.slice t.V t.vars.length t.vc,.slice t.T t.types.length t.tc,.slice t.A t.kids.length t.cap] 40)).heap[w.heap.size+1+1]?=some (.cells #[.int .i64 0] 3 (0,0)):=ib _ (ah _ _ _ (by simp));have hRb:((((w.alloc (.cells #[.int .i64 t.kind,.int .i64 t.n,encStr t.name,.slice t.V t.vars.length t.vc,.slice t.T t.types.length t.tc,.slice t.A t.kids.length t.cap] 40)).alloc (.cells #[.bool false] 4)).alloc (.cells #[.int .i64 0] 3)).alloc (.cells #[.int .i64 t.kind,.int .i64 t.n,encStr t.name,.slice t.V t.vars.length t.vc,.slice t.T t.types.length t.tc,.slice t.A t.kids.length t.cap] 40)).heap[w.heap.size+1]?=some (.cells #[.bool false] 4 (0,0)):=ib _ (ib _ (ah _ _ _ (by simp)));have WD:av ((((w.alloc (.cells #[.int .i64 t.kind,.int .i64 t.n,encStr t.name,.slice t.V t.vars.length t.vc,.slice t.T t.types.length t.tc,.slice t.A t.kids.length t.cap] 40)).alloc (.cells #[.bool false] 4)).alloc (.cells #[.int .i64 0] 3)).alloc (.cells #[.int .i64 t.kind,.int .i64 t.n,encStr t.name,.slice t.V t.vars.length t.vc,.slice t.T t.types.length t.tc,.slice t.A t.kids.length t.cap] 40)) w.heap.size t:=iO _ (iO _ (iO _ fI.o));have hs:((((w.alloc (.cells #[.int .i64 t.kind,.int .i64 t.n,encStr t.name,.slice t.V t.vars.length t.vc,.slice t.T t.types.length t.tc,.slice t.A t.kids.length t.cap] 40)).alloc (.cells #[.bool false] 4)).alloc (.cells #[.int .i64 0] 3)).alloc (.cells #[.int .i64 t.kind,.int .i64 t.n,encStr t.name,.slice t.V t.vars.length t.vc,.slice t.T t.types.length t.tc,.slice t.A t.kids.length t.cap] 40)).heap.size=w.heap.size+4:=by simp
 have HM:=aa (fun l J Jx W (h1:Below w.heap.size w W) hJ hY (h2:w.heap.size+1+1<W.heap.size) h0=>Jp Fence.wide rfl 3 trivial trivial rfl l w.heap.size (w.heap.size+1+1) w rfl t J Jx hJ hY W Ht.o h1 h2 PK h0);unfold bz at HM;generalize (((w.alloc (.cells #[.int .i64 t.kind,.int .i64 t.n,encStr t.name,.slice t.V t.vars.length t.vc,.slice t.T t.types.length t.tc,.slice t.A t.kids.length t.cap] 40)).alloc (.cells #[.bool false] 4)).alloc (.cells #[.int .i64 0] 3)).alloc (.cells #[.int .i64 t.kind,.int .i64 t.n,encStr t.name,.slice t.V t.vars.length t.vc,.slice t.T t.types.length t.tc,.slice t.A t.kids.length t.cap] 40)=w1 at *;refine yq (Kp:=Kc w.heap.size (w.heap.size+1+1)) (encs:=fun x:Nat×Tm=>#[Value.int .i64 (x.1:Nat),bz x.2]) (S:=fun ys=>ys=t.iE 1) (Sp:=fun pre=>pre <+: t.iE 1) (N:=(t.iE 1).length) rfl h1 rfl h5 (enters_of Tryz.func106 (by kernel_rfl) rfl)
  (fun l J Jx W hW hJ hY h0=>HM.o l J Jx W (Xs.trans (hW.mono (by omega))) hJ hY (by have:=hW.size;omega) h0) (fun h k=>h.trans k) (fun W l o o' hl hW ho=>(Kc.refl _ _ W).put o' (by omega) hW ho) (fun _=>rfl)
  (fun pre W=>W.heap[w.heap.size+1+1]?=some (.cells #[.int .i64 pre.length] 3 (0,0))∧W.heap[w.heap.size+1]?=some (.cells #[.bool false] 4 (0,0))∧av W w.heap.size t∧fX pre∧Below w.heap.size w W)
  (fun pre W=>W.heap[w.heap.size+1]?=some (.cells #[.bool false] 4 (0,0))∧¬fX pre∧Below w.heap.size w W)
  ⟨fun s W o h=>⟨ib _ h.1,ib _ h.2.1,iO _ h.2.2.1,h.2.2.2.1,h.2.2.2.2.alloc h.2.2.2.2.size _⟩,fun s W l o o' h hB hl ho=>⟨wI h.1 hl ho,wI h.2.1 hl ho,Eu h.2.2.1 hl ho,h.2.2.2.1,uQ o' h.2.2.2.2 (aiG _) (by omega)⟩⟩
  ⟨fun s W o h=>⟨ib _ h.1,h.2.1,h.2.2.alloc h.2.2.size _⟩,fun s W l o o' h hB hl ho=>⟨wI h.1 hl ho,h.2.1,uQ o' h.2.2 (aiG _) (by omega)⟩⟩ ⟨hR,hRb,WD,⟨by simp,by simp⟩,Xs⟩
  (fun x => { tmps:=#[.agg #[.int .i64 t.kind,.int .i64 t.n,encStr t.name,.slice t.V t.vars.length t.vc,.slice t.T t.types.length t.tc,.slice t.A t.kids.length t.cap],.pointer (some ⟨w.heap.size,0,none⟩),.pointer (some ⟨w.heap.size+1,0,none⟩),.pointer (some ⟨w.heap.size+1+1,0,none⟩),.int .i64 (x.1:Nat),.agg #[.int .i64 t.kind,.int .i64 t.n,encStr t.name,.slice t.V t.vars.length t.vc,.slice t.T t.types.length t.tc,.slice t.A t.kids.length t.cap],.func (.func 106) #[.agg #[.int .i64 t.kind,.int .i64 t.n,encStr t.name,.slice t.V t.vars.length t.vc,.slice t.T t.types.length t.tc,.slice t.A t.kids.length t.cap]] #[],.int .i64 (x.1:Nat),bz x.2,undef,undef,undef,undef,undef,undef,undef,undef,undef,undef],defers:=[] }) ?assign ?body ?done ?stop
 case assign=>
  intro l x W K hK
  gi_wp2
  unfold bz at hK;simpa using hK
 case body=>
  rintro l pre x W ⟨hc,hcb,U0,hD,hB⟩ hlen;obtain⟨c0,f0⟩:=ia hc;obtain⟨b0,fb0⟩:=ia hcb;have zn:=hD.1;have xe:((pre++[x]).length:Int)=(pre.length:Int)+1:=by simp
  have HC:=aa (wH (u:=.int .i64 ((pre++[x]).length:Int)) hc);rw[xe] at HC;have Xt:=aa (Ew (c:=w.heap.size+1+1) (i:=0) (u:=.int .i64 ((pre.length:Int)+1)) hcb (by omega));have HCt:=aa (Ev (c:=w.heap.size+1+1) (i:=0) (v:=.int .i64 ((pre.length:Int)+1)) U0 (by omega));have HBs:=aa (hB.setCell (p:=⟨w.heap.size+1+1,0,none⟩) (by show w.heap.size≤w.heap.size+1+1;omega) (.int .i64 ((pre.length:Int)+1)));have HK:=aa (KeepsOthers.setCell W ⟨w.heap.size+1+1,0,none⟩ (.int .i64 ((pre.length:Int)+1)));have QG:=aa (Kc.aaa (n₀:=w.heap.size) (R:=w.heap.size+1+1) (by omega) W (.int .i64 ((pre.length:Int)+1)));obtain⟨d0,e0⟩:=ia HC.o;obtain⟨d1,e1⟩:=ia Xt.o;have HD:=aa hD;clear hD hc hcb U0 hB
  by_cases hn:pre.length+1≤4096
  ·have sD:¬((pre.length:Int)+1>4096):=by omega
   by_cases hx:x.1≤400
   ·have hx1:¬((x.1:Int)>400):=by omega
    gi_wp2
    exact⟨HK.o,QG.o,by rw[xe];exact HC.o,Xt.o,HCt.o,HD.o.snoc hn hx,HBs.o⟩
   ·have hx1:((x.1:Int)>400):=by omega
    gi_wp2
    exact⟨HK.o.trans (KeepsOthers.setCell _ _ _),wH Xt.o,fun h=>hx (h.2 x (by simp)),HBs.o.setCell (p:=⟨w.heap.size+1,0,none⟩) (by simp) _⟩
  ·have sD:((pre.length:Int)+1>4096):=by omega
   gi_wp2
   exact⟨HK.o.trans (KeepsOthers.setCell _ _ _),wH Xt.o,fun h=>hn (by have:=h.1;simp at this;omega),HBs.o.setCell (p:=⟨w.heap.size+1,0,none⟩) (by simp) _⟩
 case done=>
  rintro D ys W hD rfl ⟨hc,hcb,U0,Qv,hB⟩ hK;obtain⟨e0,e1,e2,e3,e4,e5⟩:=U0.cells;have HTW:=HT.o W hB;have HB:=aa hB;have Ol:=aa Qv;clear hB Qv hc HT
  gi_wp2_with fail
  refine HTW.o.mono ?_;rintro e w2 ⟨rfl,hx⟩;have aac:=(hx.heap (ae hcb)).trans hcb;obtain⟨b0,fb0⟩:=ia aac;have hK2:=(hx.heap (ae hK)).trans hK;have HX:=aa hx;clear hx hcb hK U0 e0 e1 e2 e3 e4 e5
  gi_wp2
  have hK':=(KeepsOthers.setCell w2 ⟨w.heap.size+1,0,none⟩ (.bool RT)).same D _ hK2 rfl;refine⟨by simp,.inl ⟨_,_,rfl,run_takeDeferred hK',?_⟩⟩;have hc5:=cell_kept (World.cell?_setCell_same' w2 ⟨w.heap.size+1,0,none⟩ (.bool RT) (by rw[b0];rfl)) (grownBy_putObj' _ D (.deferred none)) (fun r e=>by cases e;exact⟨_,hK',rfl⟩);refine⟨.bool RT,?_,by rw[@decide_eq_true _ (Classical.propDecidable _) Ol.o,Bool.true_and],((HB.o.trans (HX.o.below.mono HB.o.size)).setCell (p:=⟨w.heap.size+1,0,none⟩) (by simp) _).trans (belowK_b (w:=w) (aiG _) _ D _ _ (by omega) hK' rfl rfl)⟩;simp[results,Tryz.f42,go_sem,hc5]
 case stop=>
  rintro D pre W hD kz ⟨hcb,hnd,hB⟩ hK;obtain⟨b0,fb0⟩:=ia hcb;have HN:aiE (¬fX (t.iE 1)):=aa (fun h=>hnd ⟨aiM kz.length_le h.1,fun p hp=>h.2 p (kz.subset hp)⟩);clear hnd kz
  gi_wp2
  refine⟨by simp,.inl ⟨_,_,rfl,run_takeDeferred hK,?_⟩⟩;have hc5:=cell_kept b0 (grownBy_putObj' _ D (.deferred none)) (fun r e=>by cases e;exact⟨_,hK,rfl⟩);refine⟨.bool false,?_,by rw[@decide_eq_false _ (Classical.propDecidable _) HN.o,Bool.false_and],hB.trans (belowK_b (w:=w) (aiG _) W D _ _ (by omega) hK rfl rfl)⟩;simp[results,Tryz.f42,go_sem,hc5]
theorem Cl (t:Tm) (w:World) (h:aQ w t) (hf:dt t) (hsz:t.size≤100000000) :
  Calls Tryz.prog 42 #[bz t] w fun e w'=>e=.returned (.bool (cx t))∧Ext w w':=by
 refine(callsIn_wide (n:=4)).1 ((AK t w h hf hsz).mono ?_);rintro e w' ⟨he,hB⟩;exact⟨he,Ext.cw hB (aiG _)⟩
end Go.Proofs.YtigafbmabjglfaaGreatDoor
namespace Go.Proofs.YtigafbmabjglfaaGreatDoor
open Go.RowKit
theorem jL.Sx {w:World}{a0 a1:Addr}(h:jL w a0 a1):0<w.heap.size:=by
 cases e0:w.heap[0]? with
 |none=>have:=h.v0;simp[World.cell?,e0] at this
 |some o=>exact ae e0
theorem jL.Sy {w:World}{a0 a1:Addr}(h:jL w a0 a1):1<w.heap.size:=by
 cases e0:w.heap[1]? with
 |none=>have:=h.v1;simp[World.cell?,e0] at this
 |some o=>exact ae e0
theorem fw (c:Nat):az c Tm.zero:=.mk (fun h=>absurd rfl h) (fun h=>absurd rfl h) (by intro x hx;cases hx) (fun h=>absurd rfl h) (by intro k hk;cases hk)
def rG (a0 a1:Addr):Nat→Value
 |0=>.nilIface
 |1=>.iface 306 (.pointer (some a0))
 |_=>.iface 306 (.pointer (some a1))
structure tz (w w':World) (cs:List dY) (ins:List cL) (preds:List Pd) (given:List Tm) (p:Pf) (t:Tm) (n:Nat):Prop where
 gZ:aQ w' t
 away:∀c,c<w.heap.size→(∀g∈given,az c g)→aJ c p→az c t
 o:(n=1∧t=Tm.zero∧(preds.length≠given.length∨(preds.length=given.length∧bw cs ins preds p=none))) ∨
  (preds.length=given.length∧(bw cs ins preds p).isSome=true∧∃u:Tm,u.pure=kR cs ins preds (given.map Tm.pure) p∧((n=0∧t=u∧cx u=true)∨(n=2∧t=Tm.zero∧cx u=false)))
def pg (cs:List dY) (ins:List cL) (preds:List Pd) (given:List Tm) (p:Pf):Prop:=
 (bw cs ins preds p).isSome=true→preds.length=given.length→∀t:Tm,t.pure=kR cs ins preds (given.map Tm.pure) p→dt t∧t.size≤100000000
set_option maxRecDepth 10000
set_option maxHeartbeats 8000000
theorem MW (x:di) (P:Option Addr) (pc:Nat) (preds:List Pd) (L:Option Addr) (lc:Nat) (given:List Tm) (hpl:∀y∈x.insts,y.preds.length≤40000) (p:Pf) (a0 a1:Addr) (w:World) (he:dJ w x) (hP:bg w P preds) (hL:bm w L given) (hp:bW w p) (jb:sw w) (nZ:jL w a0 a1) (rH:pg x.af x.insts preds given p) :
  Calls Tryz.prog 26 #[.agg #[.slice x.D x.aA.length x.dc,.slice x.C x.af.length x.cc,.slice x.I x.insts.length x.ic,.slice P preds.length pc,.slice L given.length lc],bM p] w fun e w'=>(∃t n,e=.returned (.tuple #[bz t,rG a0 a1 n])∧tz w w' x.af x.insts preds given p t n)∧Ext w w':=by
 obtain⟨W,hW⟩:∃W,W=((w.alloc (.cells #[.slice x.D x.aA.length x.dc,.slice x.C x.af.length x.cc,.slice x.I x.insts.length x.ic,.slice P preds.length pc,.slice L given.length lc] 80)).alloc (.cells #[.int .i64 p.kind,.int .i64 p.n,.slice p.T p.types.length p.tc,.slice p.A p.kids.length p.cap] 34)).alloc (.cells #[.int .i64 0,.int .i64 0,.string ⟨#[]⟩,.slice none 0 0,.slice none 0 0,.slice none 0 0] 40):=⟨_,rfl⟩;have HW:=aa hW.symm;have X0:aiE (Ext w W):=aa (by rw[hW];exact(((eR _).alloc _).alloc _).alloc _);have B1:aiE (gw W w.heap.size x P pc preds L lc given):=aa (by rw[hW];exact(gw.new w).ext (((eR _).alloc _).alloc _));have B2:aiE (aO W (w.heap.size+1) p):=aa (by rw[hW];exact aO.ext (ah _ _ _ (by simp)) ((eR _).alloc _));have B3:aiE (W.heap[w.heap.size+1+1]?=some (.cells #[.int .i64 0,.int .i64 0,.string ⟨#[]⟩,.slice none 0 0,.slice none 0 0,.slice none 0 0] 40)):=aa (by rw[hW];exact ah _ _ _ (by simp));have bR:aiE (W.heap.size=w.heap.size+3):=aa (by rw[hW];simp);have hl0:=nZ.Sx;have sj:=nZ.Sy;have MX:=aa (fun w' (e:Ext W w')=>nZ.ext (X0.o.trans e));have FH:=aa (fun w' (e:Ext W w')=>aa (xQ x P pc preds p w' (he.ext (X0.o.trans e)) (hP.ext (X0.o.trans e)) (hp.ext (X0.o.trans e)) (sw.ext jb (X0.o.trans e))));have HT:=aa (fun w' (e:Ext W w') (h:(bw x.af x.insts preds p).isSome=true) (hl:given.length=preds.length)=>aa (Mo x P pc preds L lc given hpl p w' (he.ext (X0.o.trans e)) (hP.ext (X0.o.trans e)) (hL.ext (X0.o.trans e)) (hp.ext (X0.o.trans e)) h hl (sw.ext jb (X0.o.trans e))));have wy:=aa rH;have sR:aiE (∀c,w.heap.size≤c→(∀g∈given,az c g)∧aJ c p):=aa (fun c hc=>⟨fun g hg=>bA (hL.kids g hg) hc,dO hp hc⟩);have qE:=aa (fun w' (e:Ext W w')=>aiI ((B1.o.ext e).lt) ((B1.o.ext e).cells));have U1:=aa (fun w' (e:Ext W w')=>aiI ((B2.o.ext e).lt) ((B2.o.ext e).cells));unfold pg at wy;clear hW he hP hL hp jb nZ rH B1 B2;generalize hO:bw x.af x.insts preds p=O at *;generalize Qo:kR x.af x.insts preds (given.map Tm.pure) p=EV at *;have HO:=aa hO;have U2:=aa Qo;clear hO Qo;unfold eu at FH;obtain⟨n1,e0,e1,e2,e3,e4⟩:=qE.o W (eR _);obtain⟨n2,c0,c1,c2,c3⟩:=U1.o W (eR _);unfold bM at *;have aaf:w.heap.size+1+1<W.heap.size:=by rw[bR.o];omega
 by_cases hlen:preds.length=given.length
 ·have hne:((preds.length:Int) != (given.length:Int))=false:=by simp[hlen]
  have jM:=aa hlen;clear hlen;go_enter Tryz.func26,Tryz.ntmps26;go_upto_region 1 with fail;rw[HW.o];clear HW;go_upto_region 3 with fail;clear hne;go_wp2_with fail;refine(FH.o _ (eR _)).o.mono ?_;rintro e w2 ⟨⟨b,m,rfl,Mh⟩,hx⟩;have X2:=aa hx;have MZ:=aa Mh;clear hx Mh FH n1 e0 e1 e2 e3 e4 n2 c0 c1 c2 c3;go_upto_region 4 with fail;refine bJ ?_;intro W4 uh;have X4:aiE (Ext W W4):=aa (by rw[uh];exact X2.o.alloc _);clear uh;cases O with
  |none=>
   obtain⟨rfl,-⟩:=MZ.o.no rfl;clear MZ HT wy;have gv:=MX.o W4 X4.o;have g0:=gv.v0;have g1:=gv.v1;have gl0:=gv.Sx;have gl1:=gv.Sy;have B4:=aa ((X4.o.heap (ae B3.o)).trans B3.o);obtain⟨z0,z1,z2,z3,z4,z5,gC,gD,gF,gH,vV,vW⟩:=bB B4.o;have hz:=ae B4.o;have hng:0≠w.heap.size+1+1:=by omega
   have U3:w.heap.size+1+1≠0:=by omega
   have XF:=aa (bk (X0.o.trans X4.o) (by omega:w.heap.size≤w.heap.size+1+1) Tm.zero);clear gv;go_wp2
   go_region
   go_wp2;refine bodyPost_ret (v:=.tuple #[bz Tm.zero,rG a0 a1 1]) ?_ rfl ⟨⟨Tm.zero,1,rfl,⟨aQ.zero _,fun c _ _ _=>fw c,.inl ⟨rfl,rfl,.inr ⟨jM.o,HO.o⟩⟩⟩⟩,?_⟩
   ·simp[results,Tryz.f26,go_sem,z0,z1,z2,z3,z4,z5,rG];exact⟨rfl,rfl,rfl,⟨rfl,rfl,rfl⟩,⟨rfl,rfl,rfl⟩,rfl,rfl,rfl⟩
   ·exact XF.o.drew
  |some a=>
   have zq:=aa (fun w' (e:Ext W w')=>aa ((HT.o w' e rfl jM.o.symm).o));obtain⟨rfl,-⟩:=MZ.o.yes a rfl;clear MZ HT;obtain⟨n1,e0,e1,e2,e3,e4⟩:=qE.o W4 X4.o;obtain⟨n2,c0,c1,c2,c3⟩:=U1.o W4 X4.o;go_wp2_with fail;refine(zq.o W4 X4.o).o.mono ?_;rintro e w6 ⟨⟨t,rfl,ht⟩,hx⟩;have X6:=aa (X4.o.trans hx);have lH:=aa ht.gZ;have Me:=aa ht.is;have h9:=sR.o (w.heap.size+1+1) (by omega);have n9:=aa (ht.away (w.heap.size+1+1) (by have:=X4.o.size;omega) h9.1 h9.2);have x9:aiE (∀c,c<w.heap.size→(∀g∈given,az c g)→aJ c p→az c t):=aa (fun c hc h1 h2=>ht.away c (by have:=X4.o.size;omega) h1 h2);obtain⟨hf,hs⟩:=wy.o rfl jM.o t (by rw[Me.o]);have HL:=aa (fun w' (e:Ext w6 w')=>aa (Cl t w' (lH.o.ext e) hf hs));unfold bz at HL;clear ht hx hf hs wy zq h9 n1 e0 e1 e2 e3 e4 n2 c0 c1 c2 c3;generalize hR:cx t=R at *;have U7:=aa hR;clear hR;go_upto_region 7 with fail;refine bJ ?_;intro W7 zb;have E7:aiE (Ext w6 W7):=aa (by rw[zb];exact(eR _).alloc _);have D7:aiE (av W7 w6.heap.size t):=aa (by rw[zb];exact av.new w6 t);clear zb;obtain⟨d0,d1,d2,d3,d4,d5⟩:=D7.o.cells;have d6:=D7.o.lt;go_wp2_with fail;refine(HL.o W7 E7.o).o.mono ?_;rintro e w9 ⟨rfl,hx⟩;have E9:=aa (E7.o.trans hx);have D9:=aa (D7.o.ext hx);have X9:=aa (X6.o.trans E9.o);clear hx HL d0 d1 d2 d3 d4 d5 d6 E7 D7;cases R
   ·skip
    have gv:=MX.o w9 X9.o;have g0:=gv.v0;have g1:=gv.v1;have gl0:=gv.Sx;have gl1:=gv.Sy;have B4:=aa ((X9.o.heap (ae B3.o)).trans B3.o);obtain⟨z0,z1,z2,z3,z4,z5,gC,gD,gF,gH,vV,vW⟩:=bB B4.o;have hz:=ae B4.o;have hng:1≠w.heap.size+1+1:=by omega
    have U3:w.heap.size+1+1≠1:=by omega
    have XF:=aa (bk (X0.o.trans X9.o) (by omega:w.heap.size≤w.heap.size+1+1) Tm.zero);clear gv;go_wp2
    go_region
    go_wp2;refine bodyPost_ret (v:=.tuple #[bz Tm.zero,rG a0 a1 2]) ?_ rfl ⟨⟨Tm.zero,2,rfl,⟨aQ.zero _,fun c _ _ _=>fw c,.inr ⟨jM.o,by rw[HO.o];rfl,t,by rw[Me.o,U2.o],.inr ⟨rfl,rfl,U7.o⟩⟩⟩⟩,?_⟩
    ·simp[results,Tryz.f26,go_sem,z0,z1,z2,z3,z4,z5,rG];exact⟨rfl,rfl,rfl,⟨rfl,rfl,rfl⟩,⟨rfl,rfl,rfl⟩,rfl,rfl,rfl⟩
    ·exact XF.o.drew
   ·obtain⟨d0,d1,d2,d3,d4,d5⟩:=D9.o.cells;have d6:=D9.o.lt;have B4:=aa ((X9.o.heap (ae B3.o)).trans B3.o);obtain⟨z0,z1,z2,z3,z4,z5,gC,gD,gF,gH,vV,vW⟩:=bB B4.o;have hz:=ae B4.o;have XF:=aa (bk (X0.o.trans X9.o) (by omega:w.heap.size≤w.heap.size+1+1) t);have HI:=aa ((lH.o.ext E9.o).grown (bh w9 (w.heap.size+1+1) t) (fun c e=>by injection e with e;subst e;exact n9.o));go_wp2;refine bodyPost_ret (v:=.tuple #[bz t,rG a0 a1 0]) ?_ rfl ⟨⟨t,0,rfl,⟨HI.o,x9.o,.inr ⟨jM.o,by rw[HO.o];rfl,t,by rw[Me.o,U2.o],.inl ⟨rfl,rfl,U7.o⟩⟩⟩⟩,XF.o⟩;simp[results,Tryz.f26,go_sem,z0,z1,z2,z3,z4,z5,rG]
 ·have hne:((preds.length:Int) != (given.length:Int))=true:=by simp;omega
  go_enter Tryz.func26,Tryz.ntmps26;go_upto_region 1 with fail;rw[HW.o];clear HW;have gv:=MX.o W (eR W);have g0:=gv.v0;have g1:=gv.v1;have gl0:=gv.Sx;have gl1:=gv.Sy;have B4:=aa (((eR W).heap (ae B3.o)).trans B3.o);obtain⟨z0,z1,z2,z3,z4,z5,gC,gD,gF,gH,vV,vW⟩:=bB B4.o;have hz:=ae B4.o;have hng:0≠w.heap.size+1+1:=by omega
  have U3:w.heap.size+1+1≠0:=by omega
  have XF:=aa (bk (X0.o.trans (eR W)) (by omega:w.heap.size≤w.heap.size+1+1) Tm.zero);clear gv;go_wp2
  go_region
  go_wp2;refine bodyPost_ret (v:=.tuple #[bz Tm.zero,rG a0 a1 1]) ?_ rfl ⟨⟨Tm.zero,1,rfl,⟨aQ.zero _,fun c _ _ _=>fw c,.inl ⟨rfl,rfl,.inl hlen⟩⟩⟩,?_⟩
  ·simp[results,Tryz.f26,go_sem,z0,z1,z2,z3,z4,z5,rG];exact⟨rfl,rfl,rfl,⟨rfl,rfl,rfl⟩,⟨rfl,rfl,rfl⟩,rfl,rfl,rfl⟩
  ·exact XF.o.drew
set_option maxRecDepth 512
set_option maxHeartbeats 200000
structure dm where
 name:aj
 A:Option Addr
 cap:Nat
 sup:List aj
 M0:Value
def dm.cells (c:dm):List Value:=[encStr c.name,.slice c.A c.sup.length c.cap,c.M0]
def yu : fH dm:=⟨3,dm.cells,fun _=>rfl,by omega⟩
def dm.zero : dm:=⟨[],none,0,[],.slice none 0 0⟩
structure bV (w:World) (A:Option Addr) (l:List dm):Prop where
 row:ak yu w A l
 sup:∀c∈l,dP w c.A c.sup
 le:∀c∈l,c.sup.length≤c.cap∧c.cap≤9223372036854775807
section
variable {w w':World}{A:Option Addr}{l:List dm}
theorem bV.ext (h:bV w A l) (k:Ext w w'):bV w' A l:=⟨ak.ext yu h.row k,fun c hc=>(h.sup c hc).ext k,h.le⟩
theorem bV.at_ (h:bV w A l){i:Nat}(hi:i<l.length) :
  ∃b o,A=some ⟨b,o,none⟩∧b<w.heap.size∧w.cell? ⟨b,o+i*3,none⟩=some (.string ⟨(l[i]'hi).name.toArray⟩) ∧
   w.cell? ⟨b,o+i*3+1,none⟩=some (.slice (l[i]'hi).A (l[i]'hi).sup.length (l[i]'hi).cap)∧w.cell? ⟨b,o+i*3+2,none⟩=some (l[i]'hi).M0:=by
 obtain⟨b,o,e,hb,hc⟩:=ak.at_ yu h.row hi;refine⟨b,o,e,hb,?_,?_,?_⟩
 ·have:=hc 0 (by decide);simpa [yu,dm.cells] using this
 ·have:=hc 1 (by decide);simpa [yu,dm.cells] using this
 ·have:=hc 2 (by decide);simpa [yu,dm.cells] using this
end
def names (l:List dm):List aj:=l.map (·.name)
theorem ji (l:List dm):(names l).length=l.length:=by simp[names]
theorem ie (l:List dm){i:Nat}(h:i<l.length):(names l).getD i []=(l[i]'h).name:=by simp[names,h]
def fS (l:List dm) (x:aj):Int:=ik (names l) x
set_option maxHeartbeats 1000000 in
theorem kB (A:Option Addr) (cap:Nat) (l:List dm) (x:aj) (w:World) (h:bV w A l) (hle:l.length≤9223372036854775807) :
  Calls Tryz.prog 136 #[.slice A l.length cap,encStr x] w fun e w'=>e=.returned (.int .i64 (fS l x))∧w'=w:=by
 have pC:=aa (fun k => @jx _ _ (names l) x [] k);have j7:=aa (jy (names l) x []);have Hr:=aa h;have Hn:aiE (∀i (h:i<l.length),(names l).getD i []=(l[i]'h).name):=aa (fun i h=>ie l h);have Hl:=aa (ji l);clear h;unfold fS;generalize ik (names l) x=R at *;go_enter Tryz.func136,Tryz.ntmps136;go_wp2
 go_loop [8] (fun i=>∃j:Nat,j≤l.length∧i=.int .i64 j∧aiE (∀i,i<j→((names l).getD i [] == x)=false)) (fun i=>l.length - (intOf i).toNat)
 case atStart=>exact⟨0,aiH _,rfl,aa (fun i hi=>absurd hi (by omega))⟩
 case round=>
  obtain⟨j,hj,rfl,Hj⟩:=hrel
  by_cases hlt:j<l.length
  ·obtain⟨b,o,rfl,hb,hc,hc1,hc2⟩:=Hr.o.at_ hlt;have aN:(j:Int)<(l.length:Int):=by omega
   have Hy:aiE ((names l).getD j []=(l[j]'hlt).name):=aa (Hn.o j hlt);generalize (l[j]'hlt).name=y at *;clear hc1 hc2;cases hs:(y == x)
   ·go_wp2
    go_round
    case rel=>
     refine⟨j+1,hlt,by go_num,aa (fun i hi => ?_)⟩
     by_cases xj:i=j
     ·rw[xj,Hy.o];exact hs
     ·exact Hj.o i (by omega)
    case measure=>simp[intOf];omega
   ·have hR:=pC.o j (by rw[Hl.o];exact hlt) Hj.o (by rw[Hy.o];exact hs);subst hR;go_wp2;go_ret;exact⟨rfl,rfl⟩
  ·have bS:(l.length:Int)≤(j:Int):=by omega
   have hR:=j7.o (fun i hi=>Hj.o i (by rw[Hl.o] at hi;omega));subst hR;go_wp2;go_ret;exact⟨rfl,rfl⟩
set_option maxHeartbeats 1000000 in
theorem kC (A:Option Addr) (cap:Nat) (l:List dm) (x:aj) (w:World) (h:bV w A l) (hle:l.length≤9223372036854775807) :
  Calls Tryz.prog 83 #[.slice A l.length cap,encStr x] w fun e w'=>e=.returned (.int .i64 (fS l x))∧w'=w:=by
 have pC:=aa (fun k => @jx _ _ (names l) x [] k);have j7:=aa (jy (names l) x []);have Hr:=aa h;have Hn:aiE (∀i (h:i<l.length),(names l).getD i []=(l[i]'h).name):=aa (fun i h=>ie l h);have Hl:=aa (ji l);clear h;unfold fS;generalize ik (names l) x=R at *;go_enter Tryz.func83,Tryz.ntmps83;go_wp2
 go_loop [5] (fun i=>∃j:Nat,j≤l.length∧i=.int .i64 j∧aiE (∀i,i<j→((names l).getD i [] == x)=false)) (fun i=>l.length - (intOf i).toNat)
 case atStart=>exact⟨0,aiH _,rfl,aa (fun i hi=>absurd hi (by omega))⟩
 case round=>
  obtain⟨j,hj,rfl,Hj⟩:=hrel
  by_cases hlt:j<l.length
  ·obtain⟨b,o,rfl,hb,hc,hc1,hc2⟩:=Hr.o.at_ hlt;have aN:(j:Int)<(l.length:Int):=by omega
   have Hy:aiE ((names l).getD j []=(l[j]'hlt).name):=aa (Hn.o j hlt);generalize (l[j]'hlt).name=y at *;clear hc1 hc2;cases hs:(y == x)
   ·go_wp2
    go_round
    case rel=>
     refine⟨j+1,hlt,by go_num,aa (fun i hi => ?_)⟩
     by_cases xj:i=j
     ·rw[xj,Hy.o];exact hs
     ·exact Hj.o i (by omega)
    case measure=>simp[intOf];omega
   ·have hR:=pC.o j (by rw[Hl.o];exact hlt) Hj.o (by rw[Hy.o];exact hs);subst hR;go_wp2;go_ret;exact⟨rfl,rfl⟩
  ·have bS:(l.length:Int)≤(j:Int):=by omega
   have hR:=j7.o (fun i hi=>Hj.o i (by rw[Hl.o] at hi;omega));subst hR;go_wp2;go_ret;exact⟨rfl,rfl⟩
def dv (l:List dm) (x:aj):List aj:=match l.find? (·.name == x) with|some c=>c.sup|none=>[]
def iy (l:List dm) (out:List aj):Nat:=(l.map fun c=>if out.any (· == c.name) then 0 else c.sup.length).sum
def eH (l:List dm):Nat→List aj→List aj→List aj
 |0,out,_=>out
 |_+1,out,[]=>out
 |f+1,out,x :: todo=>if out.any (· == x) then eH l f out todo else eH l f (out++[x]) (todo++dv l x)
def oF (l:List dm) (x:aj):Nat:=(dv l x).length+iy l []
def fo (l:List dm) (x:aj):List aj:=eH l (oF l x) [] (dv l x)
theorem yv (l:List dm) (f:Nat) (out:List aj):eH l f out []=out:=by cases f<;>rfl
theorem AL (l:List dm) (out:List aj) (x:aj):iy l (out++[x])≤iy l out:=by
 unfold iy
 induction l with
 |nil=>simp
 |cons c l ih=>
  simp only[List.map_cons,List.sum_cons];have:(if (out++[x]).any (· == c.name)=true then 0 else c.sup.length)≤(if out.any (· == c.name)=true then 0 else c.sup.length):=by
   rw[List.any_append];cases out.any (· == c.name)<;>simp
   split<;>omega
  omega
theorem uR (l:List dm) (out:List aj) (x:aj) (hx:out.any (· == x)=false):iy l (out++[x])+(dv l x).length≤iy l out:=by
 induction l with
 |nil=>simp[iy,dv]
 |cons c l ih=>
  unfold iy dv at ih ⊢;simp only[List.map_cons,List.sum_cons,List.find?_cons];cases hc:(c.name == x)
  ·have e:(out++[x]).any (· == c.name)=out.any (· == c.name):=by
    rw[List.any_append];have:(x == c.name)=false:=by
     rw[Bool.eq_false_iff] at hc ⊢;simp at hc ⊢;exact fun h=>hc h.symm
    simp[this]
   rw[e];dsimp only;omega
  ·have e:c.name=x:=by simpa using hc
   have h1:=AL l out x;unfold iy at h1;rw[e,hx];simp;simp at h1;omega
inductive Up (l:List dm):aj→aj→Prop
 |one {x y}:y∈dv l x→Up l x y
 |step {x y z}:Up l x y→z∈dv l y→Up l x z
theorem Up.trans {l:List dm}{x y z:aj}(h:Up l x y) (k:Up l y z):Up l x z:=by
 induction k with
 |one h1=>exact .step h h1
 |step _ h1 ih=>exact .step ih h1
theorem jN (l:List aj) (x:aj):l.any (· == x)=true↔x∈l:=by simp
theorem rI (l:List aj) (x:aj):l.any (· == x)=false↔x∉l:=by rw[Bool.eq_false_iff];exact not_congr (jN l x)
theorem jO (l:List dm) (x:aj):∀(f:Nat) (out todo:List aj),todo.length+iy l out≤f→out.Nodup→(∀y∈out,Up l x y)→(∀y∈todo,Up l x y) →
  (∀y∈dv l x,y∈out∨y∈todo)→(∀y∈out,∀z∈dv l y,z∈out∨z∈todo) →
  (eH l f out todo).Nodup∧∀y,y∈eH l f out todo↔Up l x y
 |0,out,todo,hf,hn,h1,h2,h3,h4=>by
  have:todo=[]:=List.eq_nil_of_length_eq_zero (by omega);subst this;refine⟨hn,fun y=>⟨h1 y,fun hy => ?_⟩⟩;show y∈out
  induction hy with
  |one hh=>simpa using h3 _ hh
  |step _ hh ih=>simpa using h4 _ ih _ hh
 |f+1,out,[],hf,hn,h1,h2,h3,h4=>by
  refine⟨hn,fun y=>⟨h1 y,fun hy => ?_⟩⟩;show y∈out
  induction hy with
  |one hh=>simpa using h3 _ hh
  |step _ hh ih=>simpa using h4 _ ih _ hh
 |f+1,out,y :: todo,hf,hn,h1,h2,h3,h4=>by
  simp only[aiW] at hf;unfold eH;cases ho:out.any (· == y)
  ·simp only[Bool.false_eq_true,↓reduceIte];have hy:=(rI out y).1 ho;have hu:=h2 y (by simp);have:=uR l out y ho;refine jO l x f _ _ (by rw[aiL];omega) ?_ ?_ ?_ ?_ ?_
   ·exact List.nodup_append.2 ⟨hn,by simp,fun a ha b hb e=>by simp at hb;subst hb;subst e;exact hy ha⟩
   ·intro z hz
    rcases List.mem_append.1 hz with hz|hz
    ·exact h1 z hz
    ·simp at hz;subst hz;exact hu
   ·intro z hz
    rcases List.mem_append.1 hz with hz|hz
    ·exact h2 z (by simp[hz])
    ·exact hu.step hz
   ·intro z hz
    rcases h3 z hz with h|h
    ·exact .inl (by simp[h])
    ·rcases List.mem_cons.1 h with rfl|h
     ·exact .inl (by simp)
     ·exact .inr (by simp[h])
   ·intro z hz u Xu
    rcases List.mem_append.1 hz with hz|hz
    ·rcases h4 z hz u Xu with h|h
     ·exact .inl (by simp[h])
     ·rcases List.mem_cons.1 h with rfl|h
      ·exact .inl (by simp)
      ·exact .inr (by simp[h])
    ·simp at hz;subst hz;exact .inr (by simp[Xu])
  ·simp only[↓reduceIte];have hy:=(jN out y).1 ho;refine jO l x f _ _ (by omega) hn h1 (fun z hz=>h2 z (by simp[hz])) ?_ ?_
   ·intro z hz
    rcases h3 z hz with h|h
    ·exact .inl h
    ·rcases List.mem_cons.1 h with rfl|h
     ·exact .inl hy
     ·exact .inr h
   ·intro z hz u Xu
    rcases h4 z hz u Xu with h|h
    ·exact .inl h
    ·rcases List.mem_cons.1 h with rfl|h
     ·exact .inl hy
     ·exact .inr h
theorem pj (l:List dm) (x:aj):(fo l x).Nodup∧∀y,y∈fo l x↔Up l x y:=
 jO l x _ _ _ (aiG _) List.nodup_nil (by simp) (fun y hy=>.one hy) (fun y hy=>.inr hy) (by simp)
def gL (p:Nat→Bool) (n:Nat):Option Nat:=(List.range n).find? p
theorem oG (p:Nat→Bool):∀n k,k<n→(∀j,j<k→p j=false)→p k=true→gL p n=some k:=by
 intro n k hk h1 h2;unfold gL;rw[List.find?_eq_some_iff_append];refine⟨h2,List.range k,(List.range' (k+1) (n - k - 1)),?_,?_⟩
 ·rw[List.range_eq_range',List.range_eq_range'];have:List.range' 0 n=List.range' 0 k++List.range' (0+1*k) (n - k):=by
   rw[List.range'_append];congr 1;omega
  rw[this,show n - k=(n - k - 1)+1 by omega,List.range'_succ];simp
 ·intro j hj;simp at hj;simp[h1 j hj]
theorem dw (p:Nat→Bool) (n:Nat) (h:∀j,j<n→p j=false):gL p n=none:=by
 unfold gL;rw[List.find?_eq_none];intro j hj;simp at hj;simp[h j hj]
theorem jP {p:Nat→Bool}{n:Nat}(h:gL p n=none):∀j,j<n→p j=false:=by
 intro j hj;unfold gL at h;rw[List.find?_eq_none] at h;have:=h j (by simpa using hj);simpa using this
theorem fT (l:List dm) (x:aj):(fS l x = -1∧dv l x=[]∧x∉names l)∨∃k,∃h:k<l.length,fS l x=(k:Int)∧dv l x=(l[k]'h).sup∧(l[k]'h).name=x:=by
 cases hf:l.find? (·.name == x) with
 |none=>
  left
  rw[List.find?_eq_none] at hf;refine⟨?_,by unfold dv;rw[List.find?_eq_none.2 hf],?_⟩
  ·refine jy (names l) x [] fun j hj => ?_
   have hj':j<l.length:=by rw[ji] at hj;exact hj
   rw[ie l hj'];have:=hf _ (aiF hj');simpa using this
  ·intro hm;obtain⟨c,hc,e⟩:=List.mem_map.1 hm;have:=hf c hc;simp[e] at this
 |some c=>
  right
  obtain⟨hp,k,hk,e,hall⟩:=List.find?_eq_some_iff_getElem.1 hf;refine⟨k,hk,?_,by unfold dv;rw[hf,e],by rw[e];simpa using hp⟩;refine jx (names l) x [] (by rw[ji];exact hk) (fun j hj => ?_) ?_
  ·have hj':j<l.length:=by omega
   rw[ie l hj'];have:=hall j hj;simpa using this
  ·rw[ie l hk,e];exact hp
theorem yw (l:List dm) (h:∀c∈l,c.sup.length≤9):iy l []≤9*l.length:=by
 unfold iy
 induction l with
 |nil=>simp
 |cons c l ih=>
  have h1:=h c (by simp);have h2:=ih (fun d hd=>h d (by simp[hd]));simp only[List.map_cons,List.sum_cons,aiW];simp at h2 ⊢;omega
theorem rJ (l:List dm) (h:∀c∈l,c.sup.length≤9) (x:aj):(dv l x).length≤9:=by
 rcases fT l x with ⟨_,h1,_⟩|⟨k,hk,_,h1,_⟩
 ·rw[h1];simp
 ·rw[h1];exact h _ (aiF hk)
theorem Ex (l:List dm) (hl:l.length≤9) (h:∀c∈l,c.sup.length≤9) (x:aj):oF l x≤90:=by
 have:=yw l h;have:=rJ l h x;unfold oF;omega
section
variable (succ : Nat→List Nat)
def fG : Nat→List Nat→Option Nat
 |a,[]=>some a
 |a,k :: p=>match (succ a)[k]? with|some b=>fG b p|none=>none
def Sl (p q:List Nat):Prop:=p.length<q.length∨(p.length=q.length∧p<q)
def cZ (a c:Nat) (p:List Nat):Prop:=fG succ a p=some c∧∀q,fG succ a q=some c→p=q∨Sl p q
theorem pk : ∀(p q:List Nat) (a:Nat),fG succ a (p++q)=(fG succ a p).bind fun b=>fG succ b q
 | [],q,a=>rfl
 |k :: p,q,a=>by
  simp only[List.cons_append,fG];cases(succ a)[k]? with
  |none=>rfl
  |some b=>exact pk p q b
theorem lj (p:List Nat) (k a c:Nat):fG succ a (p++[k])=some c↔∃b,fG succ a p=some b∧(succ b)[k]?=some c:=by
 rw[pk,Option.bind_eq_some_iff]
 constructor
 ·rintro⟨b,h1,h2⟩;refine⟨b,h1,?_⟩;simp only[fG] at h2
  split at h2
  ·rename_i d hd;rw[hd];exact h2
  ·cases h2
 ·rintro⟨b,h1,h2⟩;exact⟨b,h1,by simp[fG,h2]⟩
end
theorem mG (p:List Nat):¬p<p:=List.lt_irrefl p
theorem Ey {a b c:List Nat}(h:a<b) (k:b<c):a<c:=List.lt_trans h k
theorem Ez (a b:List Nat):a<b∨a=b∨b<a:=by
 by_cases h:a<b
 ·exact .inl h
 ·by_cases k:b<a
  ·exact .inr (.inr k)
  ·exact .inr (.inl (List.le_antisymm (List.not_lt.1 k) (List.not_lt.1 h)))
theorem Sl.irrefl (p:List Nat):¬Sl p p:=by
 rintro (h|⟨_,h⟩)
 ·omega
 ·exact mG p h
theorem Sl.trans {a b c:List Nat}(h:Sl a b) (k:Sl b c):Sl a c:=by
 rcases h with h|⟨h1,h2⟩<;>rcases k with k|⟨k1,k2⟩
 ·exact .inl (by omega)
 ·exact .inl (by omega)
 ·exact .inl (by omega)
 ·exact .inr ⟨by omega,Ey h2 k2⟩
theorem Sl.total (a b:List Nat):Sl a b∨a=b∨Sl b a:=by
 unfold Sl
 rcases Nat.lt_trichotomy a.length b.length with h|h|h
 ·exact .inl (.inl h)
 ·rcases Ez a b with k|k|k
  ·exact .inl (.inr ⟨h,k⟩)
  ·exact .inr (.inl k)
  ·exact .inr (.inr (.inr ⟨h.symm,k⟩))
 ·exact .inr (.inr (.inl h))
theorem Jq : ∀ {p q:List Nat},p.length=q.length→p<q→∀(r s:List Nat),p++r<q++s
 | [],[],_,h,_,_=>absurd h (mG _)
 |a :: p,b :: q,hl,h,r,s=>by
  simp only[List.cons_append,List.cons_lt_cons_iff] at h ⊢
  rcases h with h|⟨h1,h2⟩
  ·exact .inl h
  ·exact .inr ⟨h1,Jq (by simpa using hl) h2 r s⟩
theorem Sl.U8 {p q:List Nat}(h:Sl p q) (j k:Nat):Sl (p++[j]) (q++[k]):=by
 rcases h with h|⟨h1,h2⟩
 ·exact .inl (by simp;omega)
 ·exact .inr ⟨by simp[h1],Jq h1 h2 _ _⟩
theorem Sl.snoc (p:List Nat) (k:Nat):Sl p (p++[k]):=.inl (by simp)
theorem Jr : ∀(p:List Nat){j k:Nat},j<k→p++[j]<p++[k]
 | [],j,k,h=>by simp[List.cons_lt_cons_iff,h]
 |a :: p,j,k,h=>by
  simp only[List.cons_append,List.cons_lt_cons_iff];exact .inr ⟨trivial,Jr p h⟩
section
variable {succ : Nat→List Nat}{a c:Nat}{p q:List Nat}
theorem cZ.unique (h:cZ succ a c p) (k:cZ succ a c q):p=q:=by
 rcases h.2 q k.1 with h1|h1
 ·exact h1
 ·rcases k.2 p h.1 with h2|h2
  ·exact h2.symm
  ·exact absurd (h1.trans h2) (Sl.irrefl p)
theorem cZ.front {k:Nat}(h:cZ succ a c (p++[k])):∃b,cZ succ a b p∧(succ b)[k]?=some c:=by
 obtain⟨b,h1,h2⟩:=(lj succ p k a c).1 h.1;refine⟨b,⟨h1,fun q hq => ?_⟩,h2⟩
 rcases Sl.total p q with h3|h3|h3
 ·exact .inr h3
 ·exact .inl h3
 ·have h4:=h.2 (q++[k]) ((lj succ q k a c).2 ⟨b,hq,h2⟩);have h5:=h3.U8 k k
  rcases h4 with h4|h4
  ·rw[h4] at h5;exact absurd h5 (Sl.irrefl _)
  ·exact absurd (h4.trans h5) (Sl.irrefl _)
theorem cZ.take : ∀(r p:List Nat) (c:Nat),cZ succ a c (p++r)→∃b,cZ succ a b p
 | [],p,c,h=>⟨c,by simpa using h⟩
 |k :: r,p,c,h=>by
  have h':cZ succ a c ((p++[k])++r):=by simpa using h
  obtain⟨b,hb⟩:=cZ.take r (p++[k]) c h';obtain⟨b',hb',_⟩:=hb.front;exact⟨b',hb'⟩
end
section
variable (succ : Nat→List Nat)
def kD (b:Nat):Nat→Nat→Option (List Nat)
 |0,a=>if a=b then some [] else none
 |n+1,a=>(succ a).zipIdx.findSome? fun x=>(kD b n x.1).map (x.2 :: ·)
theorem nP {β:Type}(f:Nat×Nat→Option β):∀(l:List Nat) (i:Nat),
  (∀r,(l.zipIdx i).findSome? f=some r→∃k x,l[k]?=some x∧f (x,i+k)=some r∧∀j y,j<k→l[j]?=some y→f (y,i+j)=none) ∧
  ((l.zipIdx i).findSome? f=none→∀k x,l[k]?=some x→f (x,i+k)=none)
 | [],i=>⟨fun r h=>by simp at h,fun _ k x h=>by simp at h⟩
 |y :: l,i=>by
  obtain⟨h1,h2⟩:=nP f l (i+1);simp only[List.zipIdx_cons,List.findSome?_cons];cases hy:f (y,i) with
  |some r0=>
   refine⟨fun r h => ?_,fun h=>by cases h⟩;injection h with h;subst h;exact⟨0,y,rfl,hy,fun j _ hj=>absurd hj (by omega)⟩
  |none=>
   refine⟨fun r h => ?_,fun h k x hk => ?_⟩
   ·obtain⟨k,x,e1,e2,e3⟩:=h1 r h;refine⟨k+1,x,by simpa using e1,by rw[←e2];congr 2;omega,fun j z hj hz => ?_⟩
    rcases j with _|j
    ·simp at hz;subst hz;exact hy
    ·have:=e3 j z (by omega) (by simpa using hz);rw[←this];congr 2;omega
   ·rcases k with _|k
    ·simp at hk;subst hk;exact hy
    ·have:=h2 h k x (by simpa using hk);rw[←this];congr 2;omega
theorem iz (b:Nat):∀(n a:Nat),(∀p,kD succ b n a=some p→p.length=n∧fG succ a p=some b∧∀q,q.length=n→fG succ a q=some b→p=q∨p<q) ∧
  (kD succ b n a=none→∀q,q.length=n→fG succ a q≠some b)
 |0,a=>by
  constructor
  ·intro p h;simp only[kD] at h
   split at h
   ·rename_i hab
    injection h with h;subst h hab;exact⟨rfl,rfl,fun q hq _=>.inl (List.eq_nil_of_length_eq_zero hq).symm⟩
   ·cases h
  ·intro h q hq;simp only[kD] at h
   split at h
   ·cases h
   ·rename_i hab
    rw[List.eq_nil_of_length_eq_zero hq];simp only[fG];intro e;injection e with e;exact hab e
 |n+1,a=>by
  have ih:=fun x=>iz b n x
  obtain⟨h1,h2⟩:=nP (fun x:Nat×Nat=>(kD succ b n x.1).map (x.2 :: ·)) (succ a) 0
  constructor
  ·intro p h;obtain⟨k,x,e1,e2,e3⟩:=h1 p h;simp only[Nat.zero_add,Option.map_eq_some_iff] at e2;obtain⟨r,e2,rfl⟩:=e2;obtain⟨i1,i2,i3⟩:=(ih x).1 r e2;refine⟨by simp[i1],by simp[fG,e1,i2],fun q hq he => ?_⟩
   rcases q with _|⟨j,q⟩
   ·simp at hq
   ·simp only[fG] at he
    split at he
    ·rename_i y hy
     have hq':q.length=n:=by simpa using hq
     rcases Nat.lt_trichotomy k j with hkj|hkj|hkj
     ·exact .inr (by rw[List.cons_lt_cons_iff];exact .inl hkj)
     ·subst hkj;rw[e1] at hy;injection hy with hy;subst hy
      rcases i3 q hq' he with i4|i4
      ·exact .inl (by rw[i4])
      ·exact .inr (by rw[List.cons_lt_cons_iff];exact .inr ⟨rfl,i4⟩)
     ·have:=e3 j y hkj hy;simp only[Nat.zero_add,Option.map_eq_none_iff] at this;exact absurd he ((ih y).2 this q hq')
    ·cases he
  ·intro h q hq he
   rcases q with _|⟨j,q⟩
   ·simp at hq
   ·simp only[fG] at he
    split at he
    ·rename_i y hy
     have:=h2 h j y hy;simp only[Nat.zero_add,Option.map_eq_none_iff] at this;exact(ih y).2 this q (by simpa using hq) he
    ·cases he
def kE (a b:Nat) (N:Nat):Option (List Nat):=(List.range N).findSome? fun n=>kD succ b n a
theorem least_some {a c:Nat}{q:List Nat}(h:fG succ a q=some c):∃p,cZ succ a c p:=by
 have key:∀n,(∃q,q.length≤n∧fG succ a q=some c)→∃p,cZ succ a c p:=by
  intro n
  induction n with
  |zero=>
   rintro⟨q,hq,he⟩;have:q=[]:=List.eq_nil_of_length_eq_zero (by omega);subst this;refine⟨[],he,fun r _ => ?_⟩
   rcases r with _|⟨k,r⟩
   ·exact .inl rfl
   ·exact .inr (.inl (by simp))
  |succ n ih=>
   intro hex
   by_cases hs:∃q,q.length≤n∧fG succ a q=some c
   ·exact ih hs
   ·obtain⟨q,hq,he⟩:=hex;have hqn:q.length=n+1:=by
     rcases Nat.lt_or_ge q.length (n+1) with h1|h1
     ·exact absurd ⟨q,by omega,he⟩ hs
     ·omega
    have Ur:∀r,fG succ a r=some c→n+1≤r.length:=by
     intro r hr
     rcases Nat.lt_or_ge r.length (n+1) with h1|h1
     ·exact absurd ⟨r,by omega,hr⟩ hs
     ·exact h1
    obtain⟨s1,s2⟩:=iz succ c (n+1) a;cases hp:kD succ c (n+1) a with
    |none=>exact absurd he (s2 hp q hqn)
    |some p=>
     obtain⟨p1,p2,p3⟩:=s1 p hp;refine⟨p,p2,fun r hr => ?_⟩
     rcases Nat.lt_or_ge (n+1) r.length with h1|h1
     ·exact .inr (.inl (by omega))
     ·have:=Ur r hr
      rcases p3 r (by omega) hr with h2|h2
      ·exact .inl h2
      ·exact .inr (.inr ⟨by omega,h2⟩)
 exact key q.length ⟨q,aiG _,h⟩
theorem fD {β:Type}(f:Nat→Option β):∀N,(∀r,(List.range N).findSome? f=some r→∃n,n<N∧f n=some r∧∀m,m<n→f m=none)∧((List.range N).findSome? f=none→∀n,n<N→f n=none)
 |0=>⟨fun r h=>by simp at h,fun _ n h=>absurd h (by omega)⟩
 |N+1=>by
  obtain⟨h1,h2⟩:=fD f N;rw[List.range_succ,List.findSome?_append];cases hN:(List.range N).findSome? f with
  |some r0=>
   refine⟨fun r h => ?_,fun h=>by simp at h⟩;simp at h;subst h;obtain⟨n,g1,g2,g3⟩:=h1 r0 hN;exact⟨n,by omega,g2,g3⟩
  |none=>
   have h3:=h2 hN;refine⟨fun r h => ?_,fun h n hn => ?_⟩
   ·simp at h;exact⟨N,by omega,h,h3⟩
   ·simp at h
    rcases Nat.lt_or_ge n N with g|g
    ·exact h3 n g
    ·rw[show n=N by omega];exact h
theorem rK {a b N:Nat}{p:List Nat}(h:kE succ a b N=some p):cZ succ a b p:=by
 obtain⟨n,_,h2,h3⟩:=(fD _ N).1 p h;obtain⟨i1,i2,i3⟩:=(iz succ b n a).1 p h2;refine⟨i2,fun q hq => ?_⟩
 rcases Nat.lt_trichotomy q.length n with g|g|g
 ·exact absurd hq ((iz succ b q.length a).2 (h3 _ g) q rfl)
 ·rcases i3 q g hq with i4|i4
  ·exact .inl i4
  ·exact .inr (.inr ⟨by omega,i4⟩)
 ·exact .inr (.inl (by omega))
theorem tA {a b N:Nat}(h:kE succ a b N=none){q:List Nat}(hq:fG succ a q=some b):N≤q.length:=by
 rcases Nat.lt_or_ge q.length N with g|g
 ·exact absurd hq ((iz succ b q.length a).2 ((fD _ N).2 h _ g) q rfl)
 ·exact g
end
theorem Js : ∀(n:Nat) (l:List Nat),l.Nodup→(∀x∈l,x<n)→l.length≤n
 |0,[],_,_=>by simp
 |0,x :: l,_,h=>absurd (h x (by simp)) (by omega)
 |n+1,l,hd,h=>by
  have h1:=Js n (l.erase n) (hd.erase n) (fun x hx=>by
   have h2:=(List.Nodup.mem_erase_iff hd).1 hx;have:=h x h2.2;have:=h2.1;omega)
  rw[List.length_erase] at h1
  split at h1<;>omega
theorem cZ.short {succ:Nat→List Nat}{a c N:Nat}{p:List Nat}(ha:a<N) (hs:∀x,x<N→∀y∈succ x,y<N) (h:cZ succ a c p):p.length<N:=by
 have hend:∀(q:List Nat) (x y:Nat),x<N→fG succ x q=some y→y<N:=by
  intro q
  induction q with
  |nil=>intro x y hx he;simp only[fG,Option.some.injEq] at he;omega
  |cons k q ih=>
   intro x y hx he;simp only[fG] at he
   split at he
   ·rename_i z hz
    exact ih z y (hs x hx z (List.mem_of_getElem? hz)) he
   ·cases he
 have hl:∀i,∃b,i≤p.length→cZ succ a b (p.take i):=by
  intro i
  by_cases hi:i≤p.length
  ·have h':cZ succ a c (p.take i++p.drop i):=by rw[List.take_append_drop];exact h
   obtain⟨b,hb⟩:=cZ.take _ _ _ h';exact⟨b,fun _=>hb⟩
  ·exact⟨0,fun h=>absurd h hi⟩
 have hf:∀n,n≤p.length+1→∃l:List Nat,l.length=n∧l.Nodup∧(∀x∈l,x<N)∧∀x∈l,∃i,i<n∧cZ succ a x (p.take i):=by
  intro n
  induction n with
  |zero=>exact fun _=>⟨[],rfl,List.nodup_nil,by simp,by simp⟩
  |succ n ih=>
   intro hn;obtain⟨l,l1,l2,l3,l4⟩:=ih (by omega);obtain⟨b,hb⟩:=hl n;have hb:=hb (by omega);refine⟨b :: l,by simp[l1],List.nodup_cons.2 ⟨fun hbl => ?_,l2⟩,?_,?_⟩
   ·obtain⟨i,hi,hli⟩:=l4 b hbl;have:=congrArg List.length (hb.unique hli);simp at this;omega
   ·intro x hx
    rcases List.mem_cons.1 hx with rfl|hx
    ·exact hend _ a _ ha hb.1
    ·exact l3 x hx
   ·intro x hx
    rcases List.mem_cons.1 hx with rfl|hx
    ·exact⟨n,by omega,hb⟩
    ·obtain⟨i,hi,hli⟩:=l4 x hx;exact⟨i,by omega,hli⟩
 obtain⟨l,l1,l2,l3,_⟩:=hf (p.length+1) (aiG _);have:=Js N l l2 l3;omega
section
variable (succ : Nat→List Nat) (b:Nat)
def outs (x:Nat) (p:List Nat):List (Nat×List Nat):=(succ x).zipIdx.map fun y=>(y.1,p++[y.2])
def gz : Nat→(Nat→Bool)→List (Nat×List Nat)→Option (List Nat)
 |0,_,_=>none
 |_+1,_,[]=>none
 |f+1,seen,(x,p) :: todo=>if x=b then some p else if seen x then gz f seen todo else gz f (fun j=>j == x||seen j) (todo++outs succ x p)
def fE (seen:Nat→Bool) (N:Nat):Nat:=((List.range N).map fun j=>if seen j then 0 else(succ j).length).sum
theorem rL {seen Jt:Nat→Bool}:∀N,(∀j,j<N→Jt j=seen j)→fE succ Jt N=fE succ seen N
 |0,_=>rfl
 |N+1,h=>by
  have ih:=rL N (fun j hj=>h j (by omega));unfold fE at ih ⊢;rw[List.range_succ,aiX,aiX,List.sum_append,List.sum_append,ih];simp[h N (by omega)]
theorem oH {seen:Nat→Bool}{x:Nat}(hx:seen x=false):∀N,x<N→fE succ (fun j=>j == x||seen j) N+(succ x).length=fE succ seen N
 |0,h=>absurd h (by omega)
 |N+1,h=>by
  by_cases e:x=N
  ·subst e;have ih:=rL succ (seen:=seen) (Jt:=fun j=>j == x||seen j) x (fun j hj=>by
    have:(j == x)=false:=by simp;omega
    simp[this])
   unfold fE at ih ⊢;rw[List.range_succ,aiX,aiX,List.sum_append,List.sum_append,ih];simp[hx]
  ·have ih:=oH hx N (by omega);have hN:¬N=x:=fun h=>e h.symm
   unfold fE at ih ⊢;rw[List.range_succ,aiX,aiX,List.sum_append,List.sum_append,←ih];simp[hN];omega
end
structure Bi (succ:Nat→List Nat) (a b:Nat) (seen:Nat→Bool) (todo:List (Nat×List Nat)):Prop where
 v:∀q∈todo,fG succ a q.2=some q.1
 s:todo.Pairwise fun p q=>Sl p.2 q.2
 d:∀q∈todo,q.2≠[]→∀p∈todo,Sl q.2.dropLast p.2
 u:∀c p,cZ succ a c p→seen c=false→∃q∈todo,q.2 <+: p
 n:∀c p,cZ succ a c p→seen c=true→∀q∈todo,Sl p q.2
 b:seen b=false
theorem EB {p q:List Nat}(h:p <+: q):p=q∨Sl p q:=by
 obtain⟨r,rfl⟩:=h
 rcases r with _|⟨k,r⟩
 ·exact .inl (by simp)
 ·exact .inr (.inl (by simp))
section
variable {succ : Nat→List Nat}{a b:Nat}{seen:Nat→Bool}{x:Nat}{p:List Nat}{todo:List (Nat×List Nat)}
theorem iA {q:Nat×List Nat}:q∈outs succ x p↔∃k,(succ x)[k]?=some q.1∧q.2=p++[k]:=by
 unfold outs;rw[List.mem_map]
 constructor
 ·rintro⟨⟨y,k⟩,h,rfl⟩;exact⟨k,by simpa [List.mem_zipIdx_iff_getElem?] using h,rfl⟩
 ·rintro⟨k,h1,h2⟩;exact⟨(q.1,k),by simpa [List.mem_zipIdx_iff_getElem?] using h1,by rw[←h2]⟩
theorem yx : (outs succ x p).Pairwise fun p q=>Sl p.2 q.2:=by
 unfold outs;rw[List.pairwise_map];have:∀(l:List Nat) (i:Nat),(l.zipIdx i).Pairwise fun y z=>y.2<z.2:=by
  intro l
  induction l with
  |nil=>intro i;simp
  |cons y l ih=>
   intro i;rw[List.zipIdx_cons,List.pairwise_cons];refine⟨fun z hz => ?_,ih (i+1)⟩;have:=List.le_snd_of_mem_zipIdx hz;simp only;omega
 exact(this (succ x) 0).imp fun {y z} h=>.inr ⟨by simp,Jr p h⟩
theorem Bi.head (h:Bi succ a b seen ((x,p) :: todo)) (hx:seen x=false):cZ succ a x p:=by
 obtain⟨m,hm⟩:=least_some (succ:=succ) (h.v (x,p) (by simp));obtain⟨q,hq,kz⟩:=h.u x m hm hx;have h1:p=q.2∨Sl p q.2:=by
  rcases List.mem_cons.1 hq with rfl|hq
  ·exact .inl rfl
  ·exact .inr ((List.pairwise_cons.1 h.s).1 q hq)
 have h2:=EB kz;have h3:=hm.2 p (h.v (x,p) (by simp));have h4:p=m:=by
  rcases h3 with h3|h3
  ·exact h3.symm
  ·have h5:p=m∨Sl p m:=by
    rcases h1 with h1|h1<;>rcases h2 with h2|h2
    ·exact .inl (h1.trans h2)
    ·exact .inr (by rw[h1];exact h2)
    ·exact .inr (by rw[←h2];exact h1)
    ·exact .inr (h1.trans h2)
   rcases h5 with h5|h5
   ·exact h5
   ·exact absurd (h5.trans h3) (Sl.irrefl p)
 rw[h4];exact hm
theorem Bi.skip (h:Bi succ a b seen ((x,p) :: todo)) (hx:seen x=true):Bi succ a b seen todo where
 v q hq:=h.v q (by simp[hq])
 s:=(List.pairwise_cons.1 h.s).2
 d q hq hn r hr:=h.d q (by simp[hq]) hn r (by simp[hr])
 n c r hr hc q hq:=h.n c r hr hc q (by simp[hq])
 b:=h.b
 u c r hr hc:=by
  obtain⟨q,hq,kz⟩:=h.u c r hr hc
  rcases List.mem_cons.1 hq with rfl|hq
  ·obtain⟨t,rfl⟩:=kz;obtain⟨y,hy⟩:=cZ.take t p c hr;have hv:=h.v (x,p) (by simp);have e:y=x:=by have:=hy.1;rw[hv] at this;injection this with this;exact this.symm
   subst e;exact absurd (h.n y p hy hx (y,p) (by simp)) (Sl.irrefl p)
  ·exact⟨q,hq,kz⟩
theorem Bi.step (h:Bi succ a b seen ((x,p) :: todo)) (hx:seen x=false) (hb:x≠b):Bi succ a b (fun j=>j == x||seen j) (todo++outs succ x p):=by
 have hl:=h.head hx;obtain⟨s1,s2⟩:=List.pairwise_cons.1 h.s;have hne:∀q∈todo,q.2≠[]:=by
  intro q hq e
  rcases s1 q hq with h1|⟨h1,h2⟩
  ·rw[e] at h1;simp at h1
  ·rw[e] at h1 h2;have:p=[]:=List.eq_nil_of_length_eq_zero h1;simp only[this] at h2;exact mG _ h2
 have hout:∀q∈todo,∀k,Sl q.2 (p++[k]):=by
  intro q hq k;have h1:=h.d q (by simp[hq]) (hne q hq) (x,p) (by simp);have h2:=h1.U8 (q.2.getLast (hne q hq)) k
  rwa [List.dropLast_concat_getLast] at h2
 constructor
 ·intro q hq
  rcases List.mem_append.1 hq with hq|hq
  ·exact h.v q (by simp[hq])
  ·obtain⟨k,h1,h2⟩:=iA.1 hq;rw[h2];exact(lj succ p k a q.1).2 ⟨x,h.v (x,p) (by simp),h1⟩
 ·refine List.pairwise_append.2 ⟨s2,yx,fun q hq r hr => ?_⟩;obtain⟨k,_,h2⟩:=iA.1 hr;rw[h2];exact hout q hq k
 ·intro q hq hn r hr;have hd:Sl q.2.dropLast p∨q.2.dropLast=p:=by
   rcases List.mem_append.1 hq with hq|hq
   ·exact .inl (h.d q (by simp[hq]) hn (x,p) (by simp))
   ·obtain⟨k,_,h2⟩:=iA.1 hq;exact .inr (by rw[h2];simp)
  have IW:Sl p r.2:=by
   rcases List.mem_append.1 hr with hr|hr
   ·exact s1 r hr
   ·obtain⟨k,_,h2⟩:=iA.1 hr;rw[h2];exact Sl.snoc p k
  rcases hd with hd|hd
  ·exact hd.trans IW
  ·rw[hd];exact IW
 ·intro c r hr hc;simp only[Bool.or_eq_false_iff,beq_eq_false_iff_ne] at hc;obtain⟨hcx,hc⟩:=hc;obtain⟨q,hq,kz⟩:=h.u c r hr hc
  rcases List.mem_cons.1 hq with rfl|hq
  ·obtain⟨t,rfl⟩:=kz
   rcases t with _|⟨k,t⟩
   ·have h1:=hr.1;have h2:=h.v (x,p) (by simp);simp only[List.append_nil] at h1;rw[h1] at h2;injection h2 with h2;exact absurd h2 hcx
   ·have IW:cZ succ a c ((p++[k])++t):=by simpa using hr
    obtain⟨y,hy⟩:=cZ.take t (p++[k]) c IW;obtain⟨z,hz1,hz2⟩:=(lj succ p k a y).1 hy.1;have h2:=h.v (x,p) (by simp);rw[hz1] at h2;injection h2 with h2;subst h2;exact⟨(y,p++[k]),List.mem_append.2 (.inr (iA.2 ⟨k,hz2,rfl⟩)),⟨t,by simp⟩⟩
  ·exact⟨q,List.mem_append.2 (.inl hq),kz⟩
 ·intro c r hr hc q hq;have U9:r=p∨Sl r p:=by
   by_cases e:c=x
   ·subst e;exact .inl (hr.unique hl)
   ·have:(c == x)=false:=by simp[e]
    simp only[this,Bool.false_or] at hc;exact .inr (h.n c r hr hc (x,p) (by simp))
  have IW:Sl p q.2:=by
   rcases List.mem_append.1 hq with hq|hq
   ·exact s1 q hq
   ·obtain⟨k,_,h2⟩:=iA.1 hq;rw[h2];exact Sl.snoc p k
  rcases U9 with U9|U9
  ·rw[U9];exact IW
  ·exact U9.trans IW
 ·have:(b == x)=false:=by simp;exact fun e=>hb e.symm
  simp[this,h.b]
theorem rM {N:Nat}(hs:∀x,x<N→∀y∈succ x,y<N):∀(f:Nat) (seen:Nat→Bool) (todo:List (Nat×List Nat)),Bi succ a b seen todo→(∀q∈todo,q.1<N)→todo.length+fE succ seen N≤f →
  (∀p,gz succ b f seen todo=some p→cZ succ a b p)∧(gz succ b f seen todo=none→∀q,fG succ a q≠some b)
 |0,seen,todo,h,hv,hf=>by
  have:todo=[]:=List.eq_nil_of_length_eq_zero (by omega);subst this;refine⟨fun p hp=>by simp[gz] at hp,fun _ q hq => ?_⟩;obtain⟨m,hm⟩:=least_some (succ:=succ) hq;obtain⟨_,h1,_⟩:=h.u b m hm h.b;cases h1
 |f+1,seen,[],h,hv,hf=>by
  refine⟨fun p hp=>by simp[gz] at hp,fun _ q hq => ?_⟩;obtain⟨m,hm⟩:=least_some (succ:=succ) hq;obtain⟨_,h1,_⟩:=h.u b m hm h.b;cases h1
 |f+1,seen,(x,p) :: todo,h,hv,hf=>by
  have hxN:x<N:=hv (x,p) (by simp);simp only[aiW] at hf;unfold gz
  by_cases hxb:x=b
  ·subst hxb;simp only[↓reduceIte];refine⟨fun p' hp => ?_,fun hn=>by cases hn⟩;injection hp with hp;subst hp;exact h.head h.b
  ·rw[if_neg hxb];cases hx:seen x
   ·simp only[Bool.false_eq_true,↓reduceIte];refine rM hs f _ _ (h.step hx hxb) (fun q hq => ?_) ?_
    ·rcases List.mem_append.1 hq with hq|hq
     ·exact hv q (by simp[hq])
     ·obtain⟨k,h1,_⟩:=iA.1 hq;exact hs x hxN _ (List.mem_of_getElem? h1)
    ·have:=oH succ hx N hxN;rw[aiL];have:(outs succ x p).length=(succ x).length:=by simp[outs]
     omega
   ·simp only[↓reduceIte];exact rM hs f _ _ (h.skip hx) (fun q hq=>hv q (by simp[hq])) (by omega)
end
theorem Bi.start (succ:Nat→List Nat) (a b:Nat):Bi succ a b (fun _=>false) [(a,[])] where
 v q hq:=by simp at hq;subst hq;rfl
 s:=by simp
 d q hq hn:=by simp at hq;subst hq;exact absurd rfl hn
 u c p _ _:=⟨(a,[]),by simp,by simp⟩
 n c p _ hc:=by cases hc
 b:=rfl
theorem Ju {succ:Nat→List Nat}{a b N f:Nat}(hs:∀x,x<N→∀y∈succ x,y<N) (ha:a<N) (hf:1+fE succ (fun _=>false) N≤f) :
  gz succ b f (fun _=>false) [(a,[])]=kE succ a b N:=by
 obtain⟨h1,h2⟩:=rM hs f _ _ (Bi.start succ a b) (by simpa using ha) (by simpa using hf);cases hp:kE succ a b N with
 |some p=>
  have hl:=rK succ hp;cases hb:gz succ b f (fun _=>false) [(a,[])] with
  |some q=>rw[(h1 q hb).unique hl]
  |none=>exact absurd hl.1 (h2 hb p)
 |none=>
  cases hb:gz succ b f (fun _=>false) [(a,[])] with
  |some q=>
   have h3:=tA succ hp (h1 q hb).1;have h4:=(h1 q hb).short ha hs;omega
  |none=>rfl
structure Edge where
 a:Int
 b:Int
def jk : fH Edge:=⟨2,fun e=>[.int .i64 e.a,.int .i64 e.b],fun _=>rfl,by omega⟩
abbrev po (w:World) (A:Option Addr) (l:List Edge):Prop:=ak jk w A l
theorem po.at_ {w:World}{A:Option Addr}{l:List Edge}(h:po w A l){i:Nat}(hi:i<l.length) :
  ∃b o,A=some ⟨b,o,none⟩∧b<w.heap.size∧w.cell? ⟨b,o+i*2,none⟩=some (.int .i64 (l[i]'hi).a)∧w.cell? ⟨b,o+i*2+1,none⟩=some (.int .i64 (l[i]'hi).b):=by
 obtain⟨b,o,e,hb,hc⟩:=ak.at_ jk h hi;refine⟨b,o,e,hb,?_,?_⟩
 ·have:=hc 0 (by decide);simpa [jk] using this
 ·have:=hc 1 (by decide);simpa [jk] using this
def dE (n:Int) (e:Edge):Bool:=decide (0≤e.a)&&decide (0≤e.b)&&(decide (e.a<n)&&decide (e.b<n))
def eZ (n:Int) (es:List Edge):Bool:=decide (0≤n)&&decide (n≤1000)&&es.all (dE n)
def gA (es:List Edge) (v:Nat):List Int:=(es.filter (·.a == (v:Int))).map (·.b)
theorem AO (es:List Edge) (e:Edge) (v:Nat):gA (es++[e]) v=gA es v++if e.a == (v:Int) then [e.b] else []:=by
 unfold gA;rw[List.filter_append,aiX];cases h:(e.a == (v:Int))<;>simp[h]
structure OD where
 val:Value
 l:List Int
structure gW (ty int:TypeId) (base:Nat) (w:World) (b:Nat) (ts:List OD):Prop where
 blk:w.heap[b]?=some (.cells (ts.map (·.val)).toArray ty (0,0))
 ge:base≤b
 own:∀i (h:i<ts.length),w.ownsRow base int 1 (ts[i]'h).val (ts[i]'h).l.length ((ts[i]'h).l.map (Value.int .i64))
 QH:∀i j (hi:i<ts.length) (hj:j<ts.length),i≠j→(ts[i]'hi).val.ownBlock=(ts[j]'hj).val.ownBlock→(ts[i]'hi).val.ownBlock=none
 nb:∀i (h:i<ts.length),(ts[i]'h).val.ownBlock≠some b
section
variable {ty int:TypeId}{base:Nat}{w w':World}{b:Nat}{ts:List OD}
theorem gW.lt (h:gW ty int base w b ts):b<w.heap.size:=ae h.blk
theorem gW.keep (h:gW ty int base w b ts){row:Option Nat}(g:w.grownBy w' row) (hr:∀k,row=some k→k<base):gW ty int base w' b ts where
 blk:=(g.block b h.lt (fun e=>by have:=hr b e.symm;have:=h.ge;omega)).trans h.blk
 ge:=h.ge
 own i hi:=(h.own i hi).kept g (by
  cases hv:(ts[i]'hi).val.ownBlock with
  |none=>exact .inl rfl
  |some k=>exact .inr (fun e=>by have:=((h.own i hi).lt k hv).1;have:=hr k e.symm;omega))
 QH:=h.QH
 nb:=h.nb
theorem gW.ext (h:gW ty int base w b ts) (e:Ext w w'):gW ty int base w' b ts:=
 h.keep (row:=none) ⟨e.below.os,e.below.tape,e.below.output,e.size,fun k hk _=>e.heap hk⟩ (by intro k h;cases h)
theorem gW.cell (h:gW ty int base w b ts){i:Nat}(hi:i<ts.length):w.cell? ⟨b,i,none⟩=some (ts[i]'hi).val:=by
 simp[World.cell?,h.blk,hi]
theorem gW.after (h:gW ty int base w b ts){v:Nat}(hv:v<ts.length){sv:Value}(Xv:(ts[v]'hv).val=sv){w2:World}(hg0:w.grownBy w2 sv.ownBlock):w2.heap[b]?=some (.cells (ts.map (·.val)).toArray ty (0,0)):=
 ((Xv▸hg0:w.grownBy w2 (ts[v]'hv).val.ownBlock).block b h.lt (fun e=>h.nb v hv e.symm)).trans h.blk
theorem gW.put (h:gW ty int base w b ts){v:Nat}(hv:v<ts.length){v' sv:Value}(Xv:(ts[v]'hv).val=sv){w2:World}{l':List Int}
  (hown:w2.ownsRow base int 1 v' l'.length (l'.map (Value.int .i64))) (hg0:w.grownBy w2 sv.ownBlock) (aai:v'.ownBlock=sv.ownBlock∨v'.ownBlock=some w.heap.size) :
  gW ty int base (w2.setCell ⟨b,v,none⟩ v') b (ts.set v ⟨v',l'⟩):=by
 have hg:w.grownBy w2 (ts[v]'hv).val.ownBlock:=Xv▸hg0;have hat:v'.ownBlock=(ts[v]'hv).val.ownBlock∨v'.ownBlock=some w.heap.size:=Xv▸aai;have hb:=h.lt;have hb2:w2.heap[b]?=some (.cells (ts.map (·.val)).toArray ty (0,0)):=(hg.block b hb (fun e=>h.nb v hv e.symm)).trans h.blk;have QI:∀k,k≠b→(w2.setCell ⟨b,v,none⟩ v').heap[k]?=w2.heap[k]?:=by
  intro k hk;unfold World.setCell;simp only[Array.getElem?_modify];rw[if_neg (fun e=>hk e.symm)]
 have hsz:(w2.setCell ⟨b,v,none⟩ v').heap.size=w2.heap.size:=by simp[World.setCell]
 have Va:w2.grownBy (w2.setCell ⟨b,v,none⟩ v') (some b):=⟨rfl,rfl,rfl,by omega,fun k hk hne=>QI k (fun e=>hne (by rw[e]))⟩;have hvb:v'.ownBlock≠some b:=by
  rcases hat with h1|h1
  ·rw[h1];exact h.nb v hv
  ·rw[h1];intro e;injection e with e;omega
 have hown2:∀i (hi:i<ts.length),i≠v→w2.ownsRow base int 1 (ts[i]'hi).val (ts[i]'hi).l.length ((ts[i]'hi).l.map (Value.int .i64)):=by
  intro i hi hiv;refine(h.own i hi).kept hg ?_;cases hk:(ts[i]'hi).val.ownBlock with
  |none=>exact .inl rfl
  |some k=>exact .inr (fun e=>by have:=h.QH i v hi hv hiv (hk.trans e);rw[hk] at this;cases this)
 constructor
 ·have:=aw hb2 v v';rw[this]
  congr 2
  rw[aiQ,List.map_set]
 ·exact h.ge
 ·intro i hi;have hi':i<ts.length:=by simpa using hi
  by_cases e:i=v
  ·subst e;simp only[List.getElem_set_self];exact hown.kept Va (.inr hvb)
  ·rw[List.getElem_set_ne (fun h=>e h.symm)];exact(hown2 i hi' e).kept Va (.inr (h.nb i hi'))
 ·intro i j hi hj xj he;have hi':i<ts.length:=by simpa using hi
  have hj':j<ts.length:=by simpa using hj
  by_cases e1:i=v
  ·subst e1;rw[List.getElem_set_ne xj] at he;simp only[List.getElem_set_self] at he ⊢
   rcases hat with h1|h1
   ·rw[h1] at he ⊢;exact h.QH i j hi' hj' xj he
   ·rw[h1] at he;have:=(h.own j hj').lt _ he.symm;omega
  ·rw[List.getElem_set_ne (fun h=>e1 h.symm)] at he ⊢
   by_cases e2:j=v
   ·subst e2;simp only[List.getElem_set_self] at he
    rcases hat with h1|h1
    ·rw[h1] at he;exact h.QH i j hi' hj' xj he
    ·rw[h1] at he;have:=(h.own i hi').lt _ he;omega
   ·rw[List.getElem_set_ne (fun h=>e2 h.symm)] at he;exact h.QH i j hi' hj' xj he
 ·intro i hi;have hi':i<ts.length:=by simpa using hi
  by_cases e:i=v
  ·subst e;simp only[List.getElem_set_self];exact hvb
  ·rw[List.getElem_set_ne (fun h=>e h.symm)];exact h.nb i hi'
end
def aY (n:Nat) (M:Nat→Bool):Array Value:=((List.range n).map fun j=>Value.bool (M j)).toArray
theorem lU (n:Nat) (M:Nat→Bool){j:Nat}(hj:j<n):(aY n M)[j]?=some (.bool (M j)):=by
 unfold aY;simp[hj]
theorem lV (n:Nat) (M:Nat→Bool) (j:Nat):(aY n M).setIfInBounds j (.bool true)=aY n (fun i=>i == j||M i):=by
 unfold aY;rw[aiQ]
 congr 1
 apply List.ext_getElem?
 intro i
 by_cases hi:i<n
 ·by_cases e:j=i
  ·subst e;simp[hi]
  ·have:(i == j)=false:=by simp;exact fun h=>e h.symm
   simp[e,hi,this]
 ·simp[hi]
def Marks (ty:TypeId) (w:World) (mb:Nat) (M:Nat→Bool):Prop:=w.heap[mb]?=some (.cells (aY 1000 M) ty (0,0))
theorem Marks.cell {ty:TypeId}{w:World}{mb:Nat}{M:Nat→Bool}(h:Marks ty w mb M){j:Nat}(hj:j<1000):w.cell? ⟨mb,j,none⟩=some (.bool (M j)):=by
 unfold Marks at h;rw[←lU 1000 M hj];generalize aY 1000 M=cs at *;simp[World.cell?,h]
theorem Marks.free {ty:TypeId}{w:World}{mb:Nat}{M:Nat→Bool}(h:Marks ty w mb M) (i:Nat):w.frozen? ⟨mb,i,none⟩=false:=by
 unfold Marks at h;generalize aY 1000 M=cs at *;simp[World.frozen?,h]
theorem Marks.set {ty:TypeId}{w:World}{mb:Nat}{M:Nat→Bool}(h:Marks ty w mb M) (j:Nat):Marks ty (w.setCell ⟨mb,j,none⟩ (.bool true)) mb (fun i=>i == j||M i):=by
 unfold Marks;rw[aw h j (.bool true),lV]
theorem ll (w:World) (b i:Nat) (v:Value):w.grownBy (w.setCell ⟨b,i,none⟩ v) (some b):=by
 refine⟨rfl,rfl,rfl,by simp[World.setCell],fun k hk hne => ?_⟩;unfold World.setCell;simp only[Array.getElem?_modify];rw[if_neg (fun e=>hne (by rw[e]))]
theorem jl {a b:World}(h:Ext a b) (row:Option Nat):a.grownBy b row:=⟨h.below.os,h.below.tape,h.below.output,h.size,fun _ hk _=>h.heap hk⟩
inductive SR (succ:Nat→List Nat):Nat→Nat→Prop
 |one {a b}:b∈succ a→SR succ a b
 |step {a b c}:SR succ a b→c∈succ b→SR succ a c
theorem SR.trans {succ:Nat→List Nat}{a b c:Nat}(h:SR succ a b) (k:SR succ b c):SR succ a c:=by
 induction k with
 |one h1=>exact .step h h1
 |step _ h1 ih=>exact .step ih h1
structure Cm (succ:Nat→List Nat) (M M':Nat→Bool) (v:Nat) (l:List Nat):Prop where
 sub:∀x,M x=true→M' x=true
 hit:∀x∈l,M' x=true
 new:∀x,M' x=true→M x=true∨(SR succ v x∧∀y∈succ x,M' y=true)
section
variable {succ : Nat→List Nat}{M M1 M2:Nat→Bool}{v u:Nat}{l:List Nat}
theorem Cm.start (succ:Nat→List Nat) (M:Nat→Bool) (v:Nat):Cm succ M M v []:=⟨fun _ h=>h,by simp,fun _ h=>.inl h⟩
theorem Cm.skip (h:Cm succ M M1 v l) (hu:M1 u=true):Cm succ M M1 v (l++[u]):=by
 refine⟨h.sub,fun x hx => ?_,h.new⟩
 rcases List.mem_append.1 hx with hx|hx
 ·exact h.hit x hx
 ·simp at hx;subst hx;exact hu
theorem Cm.go (h:Cm succ M M1 v l) (huv:u∈succ v) (k:Cm succ (fun i=>i == u||M1 i) M2 u (succ u)):Cm succ M M2 v (l++[u]):=by
 have hs:∀x,M1 x=true→M2 x=true:=fun x hx=>k.sub x (by simp[hx])
 refine⟨fun x hx=>hs x (h.sub x hx),fun x hx => ?_,fun x hx => ?_⟩
 ·rcases List.mem_append.1 hx with hx|hx
  ·exact hs x (h.hit x hx)
  ·simp at hx;subst hx;exact k.sub x (by simp)
 ·rcases k.new x hx with h1|⟨h1,h2⟩
  ·simp only[Bool.or_eq_true,beq_iff_eq] at h1
   rcases h1 with rfl|h1
   ·exact .inr ⟨.one huv,k.hit⟩
   ·rcases h.new x h1 with h3|⟨h3,h4⟩
    ·exact .inl h3
    ·exact .inr ⟨h3,fun y hy=>hs y (h4 y hy)⟩
  ·exact .inr ⟨(SR.one huv).trans h1,h2⟩
theorem Cm.all (h:Cm succ (fun _=>false) M1 v (succ v)) (x:Nat):M1 x=true↔SR succ v x:=by
 constructor
 ·intro hx
  rcases h.new x hx with h1|⟨h1,_⟩
  ·cases h1
  ·exact h1
 ·intro hx
  induction hx with
  |one h1=>exact h.hit _ h1
  |step _ h1 ih=>
   rcases h.new _ ih with h2|⟨_,h2⟩
   ·cases h2
   ·exact h2 _ h1
end
def holes (M:Nat→Bool) (N:Nat):Nat:=((List.range N).filter fun j => !M j).length
theorem uS {M:Nat→Bool}{u:Nat}(hu:M u=false):∀N,u<N→holes (fun i=>i == u||M i) N+1=holes M N
 |0,h=>absurd h (by omega)
 |N+1,h=>by
  unfold holes;rw[List.range_succ,List.filter_append,List.filter_append,aiL,aiL]
  by_cases e:u=N
  ·subst e;have:(List.range u).filter (fun j => !(j == u||M j))=(List.range u).filter (fun j => !M j):=by
    apply List.filter_congr
    intro x hx;simp at hx;have:(x == u)=false:=by simp;omega
    simp[this]
   rw[this];simp[hu]
  ·have ih:=uS hu N (by omega);unfold holes at ih;have hN:(N == u)=false:=by simp;omega
   have:([N].filter fun j => !(j == u||M j))=[N].filter fun j => !M j:=by simp[List.filter_cons,hN]
   rw[this];omega
theorem AP {M M':Nat→Bool}(h:∀x,M x=true→M' x=true) (N:Nat):holes M' N≤holes M N:=by
 unfold holes
 induction N with
 |zero=>simp
 |succ N ih=>
  rw[List.range_succ,List.filter_append,List.filter_append,aiL,aiL];have:([N].filter fun j => !M' j).length≤([N].filter fun j => !M j).length:=by
   have:=h N;cases h1:M N<;>cases h2:M' N<;>simp_all
  omega
def nameAt (l:List dm) (i:Nat):aj:=(l.getD i dm.zero).name
def iB (l:List dm) (i:Nat):List aj:=(l.getD i dm.zero).sup
def mH (ns s:List aj):Bool:=(List.range s.length).all fun k=>ns.any (· == s.getD k []) && !((s.take k).any (· == s.getD k []))
def df (l:List dm) (i:Nat):Bool:=decide (fS l (nameAt l i)<(i:Int))
def kF (l:List dm) (i:Nat):Bool := !mH (names l) (iB l i)
def oI (l:List dm) (i:Nat):Bool:=(fo l (nameAt l i)).any (· == nameAt l i)
def dg (l:List dm):Int×Int:=
 match gL (df l) l.length with
 |some i=>(i,6)
 |none=>match gL (kF l) l.length with
  |some i=>(i,7)
  |none=>match gL (oI l) l.length with
   |some i=>(i,9)
   |none=>(0,0)
def AQ (l:List dm):Bool:=(dg l).2 == 0
structure Sound (l:List dm):Prop where
 one:gL (df l) l.length=none
 all:gL (kF l) l.length=none
theorem uT {l:List dm}(h:AQ l=true):Sound l∧gL (oI l) l.length=none:=by
 unfold AQ dg at h
 split at h
 ·simp at h
 ·rename_i h1
  split at h
  ·simp at h
  ·rename_i h2
   split at h
   ·simp at h
   ·rename_i h3
    exact⟨⟨h1,h2⟩,h3⟩
theorem ig {l:List dm}{i:Nat}(h:i<l.length):nameAt l i=(l[i]'h).name:=by simp[nameAt,h]
theorem cH {l:List dm}{i:Nat}(h:i<l.length):iB l i=(l[i]'h).sup:=by simp[iB,h]
section
variable {l : List dm}
theorem Sound.at_ (h:Sound l){i:Nat}(hi:i<l.length):fS l (l[i]'hi).name=i:=by
 have h1:=jP h.one i hi;unfold df at h1;rw[ig hi] at h1;simp only[decide_eq_false_iff_not,Int.not_lt] at h1
 rcases fT l (l[i]'hi).name with ⟨e1,_,e3⟩|⟨k,hk,e1,_,e3⟩
 ·exact absurd (List.mem_map.2 ⟨_,aiF hi,rfl⟩) e3
 ·rw[e1] at h1 ⊢
  by_cases YT:k=i
  ·rw[YT]
  ·-- the first of that name stands at k,and k is not behind i
   have h2:=jP h.one k hk;unfold df at h2;rw[ig hk,e3,e1] at h2;have:i<k:=by omega
   have h4:(names l).getD i []=(l[i]'hi).name:=ie l hi
   exfalso
   have aaj:∀j,j<l.length→(names l).getD j []=(l[i]'hi).name→(k:Int)≤j:=by
    intro j hj hjn;rw[←e1];unfold fS ik;have zy:(names l).any (· == (l[i]'hi).name)=true:=List.any_eq_true.2 ⟨_,List.mem_map.2 ⟨_,aiF hi,rfl⟩,by simp⟩;rw[if_pos zy];have hj':j<(names l).length:=by rw[ji];exact hj
    have:(names l).findIdx (· == (l[i]'hi).name)≤j:=by
     rcases Nat.lt_or_ge j ((names l).findIdx (· == (l[i]'hi).name)) with g|g
     ·have:=List.not_of_lt_findIdx g;simp[hj'] at hjn;simp[hjn] at this
     ·exact g
    omega
   have:=aaj i hi h4;omega
theorem Sound.sup (h:Sound l){i:Nat}(hi:i<l.length):dv l (l[i]'hi).name=(l[i]'hi).sup:=by
 have h1:=h.at_ hi
 rcases fT l (l[i]'hi).name with ⟨e1,_,_⟩|⟨k,hk,e1,e2,_⟩
 ·rw[e1] at h1;omega
 ·rw[e1] at h1;have:k=i:=by omega
  subst this;exact e2
theorem Sound.known (h:Sound l):∀c∈l,∀s∈c.sup,s∈names l:=by
 intro c hc s hs;obtain⟨i,hi,rfl⟩:=List.getElem_of_mem hc;have h1:=jP h.all i hi;unfold kF at h1;rw[cH hi] at h1;simp only[Bool.not_eq_eq_eq_not,Bool.not_false] at h1;unfold mH at h1;rw[aiY] at h1;obtain⟨k,hk,rfl⟩:=List.getElem_of_mem hs;have h2:=h1 k (by simpa using hk);simp only[aiT] at h2;have h3:=(jN _ _).1 h2.1;simpa [hk] using h3
theorem Sound.inj (h:Sound l){i j:Nat}(hi:i<l.length) (hj:j<l.length) (e:(l[i]'hi).name=(l[j]'hj).name):i=j:=by
 have h1:=h.at_ hi;have h2:=h.at_ hj;rw[e,h2] at h1;omega
def bn (l:List dm) (i:Nat):List Nat:=(iB l i).map fun s=>(fS l s).toNat
theorem Sound.to (h:Sound l){i:Nat}(hi:i<l.length){s:aj}(hs:s∈(l[i]'hi).sup):∃j,∃hj:j<l.length,fS l s=(j:Int)∧(l[j]'hj).name=s:=by
 have h1:=h.known _ (aiF hi) s hs
 rcases fT l s with ⟨_,_,e3⟩|⟨k,hk,e1,_,e3⟩
 ·exact absurd h1 e3
 ·exact⟨k,hk,e1,e3⟩
theorem kG (h:Sound l):∀x,x<l.length→∀y∈bn l x,y<l.length:=by
 intro x hx y hy;unfold bn at hy;rw[cH hx] at hy;obtain⟨s,hs,rfl⟩:=List.mem_map.1 hy;obtain⟨j,hj,e,_⟩:=h.to hx hs;rw[e];simpa using hj
theorem yy (h:Sound l){i j:Nat}(hi:i<l.length) (hr:SR (bn l) i j):∃hj:j<l.length,Up l (l[i]'hi).name (l[j]'hj).name:=by
 induction hr with
 |one h1=>
  unfold bn at h1;rw[cH hi] at h1;obtain⟨s,hs,rfl⟩:=List.mem_map.1 h1;obtain⟨j,hj,e,en⟩:=h.to hi hs;have e':(fS l s).toNat=j:=by rw[e];simp
  refine⟨by rw[e'];exact hj,?_⟩;have:(l[(fS l s).toNat]'(by rw[e'];exact hj)).name=s:=by simp only[e'];exact en
  rw[this];exact .one (by rw[h.sup hi];exact hs)
 |step _ h1 ih=>
  rename_i b c _
  obtain⟨hb,WX⟩:=ih;unfold bn at h1;rw[cH hb] at h1;obtain⟨s,hs,rfl⟩:=List.mem_map.1 h1;obtain⟨j,hj,e,en⟩:=h.to hb hs;have e':(fS l s).toNat=j:=by rw[e];simp
  refine⟨by rw[e'];exact hj,?_⟩;have:(l[(fS l s).toNat]'(by rw[e'];exact hj)).name=s:=by simp only[e'];exact en
  rw[this];exact .step WX (by rw[h.sup hb];exact hs)
theorem yz (h:Sound l){i:Nat}(hi:i<l.length){y:aj}(hu:Up l (l[i]'hi).name y):∃j,∃hj:j<l.length,(l[j]'hj).name=y∧SR (bn l) i j:=by
 generalize hx:(l[i]'hi).name=x at hu
 induction hu with
 |one h1=>
  rw[←hx,h.sup hi] at h1;obtain⟨j,hj,e,en⟩:=h.to hi h1;exact⟨j,hj,en,.one (by unfold bn;rw[cH hi];exact List.mem_map.2 ⟨_,h1,by rw[e];simp⟩)⟩
 |step _ h1 ih=>
  obtain⟨b,hb,en,hr⟩:=ih;rw[←en,h.sup hb] at h1;obtain⟨j,hj,e,en'⟩:=h.to hb h1;exact⟨j,hj,en',.step hr (by unfold bn;rw[cH hb];exact List.mem_map.2 ⟨_,h1,by rw[e];simp⟩)⟩
theorem EC (h:Sound l){i:Nat}(hi:i<l.length):oI l i=true↔SR (bn l) i i:=by
 unfold oI;rw[ig hi,jN,(pj l _).2]
 constructor
 ·intro hu;obtain⟨j,hj,en,hr⟩:=yz h hi hu
  rwa [h.inj hj hi en] at hr
 ·intro hr;exact(yy h hi hr).2
theorem check_1 {k:Nat}(hk:k<l.length) (h:∀j,j<k→df l j=false) (h1:df l k=true):dg l=((k:Int),6):=by
 unfold dg;rw[oG _ _ _ hk h h1]
theorem Cn (hn:∀j,j<l.length→df l j=false){k:Nat}(hk:k<l.length) (h:∀j,j<k→kF l j=false) (h1:kF l k=true):dg l=((k:Int),7):=by
 unfold dg;rw[dw _ _ hn];simp only;rw[oG _ _ _ hk h h1]
theorem Co (hn:∀j,j<l.length→df l j=false) (hb:∀j,j<l.length→kF l j=false){k:Nat}(hk:k<l.length) (h:∀j,j<k→oI l j=false) (h1:oI l k=true):dg l=((k:Int),9):=by
 unfold dg;rw[dw _ _ hn];simp only;rw[dw _ _ hb];simp only;rw[oG _ _ _ hk h h1]
theorem Cp (hn:∀j,j<l.length→df l j=false) (hb:∀j,j<l.length→kF l j=false) (hc:∀j,j<l.length→oI l j=false):dg l=(0,0):=by
 unfold dg;rw[dw _ _ hn];simp only;rw[dw _ _ hb];simp only;rw[dw _ _ hc]
def eT (l:List dm):List Edge:=(List.range l.length).flatMap fun i=>(iB l i).map fun s=>⟨(i:Int),fS l s⟩
theorem AR (_h:Sound l):∀v,(gA (eT l) v).map Int.toNat=if v<l.length then bn l v else []:=by
 intro v;unfold eT gA;have key:∀n,(((List.range n).flatMap fun i=>(iB l i).map fun s=>(⟨(i:Int),fS l s⟩:Edge)).filter (·.a == (v:Int))).map (·.b)=if v<n then(iB l v).map (fS l) else []:=by
  intro n
  induction n with
  |zero=>simp
  |succ n ih=>
   rw[List.range_succ,List.flatMap_append,List.filter_append,aiX,ih];have e1:([n].flatMap fun i=>(iB l i).map fun s=>(⟨(i:Int),fS l s⟩:Edge))=(iB l n).map fun s=>⟨(n:Int),fS l s⟩:=by simp
   rw[e1]
   by_cases e:v=n
   ·subst e;have:((iB l v).map fun s=>(⟨(v:Int),fS l s⟩:Edge)).filter (·.a == (v:Int))=(iB l v).map fun s=>⟨(v:Int),fS l s⟩:=by
     rw[List.filter_eq_self];intro a ha;obtain⟨s,_,rfl⟩:=List.mem_map.1 ha;simp
    rw[this,List.map_map];simp
   ·have:((iB l n).map fun s=>(⟨(n:Int),fS l s⟩:Edge)).filter (·.a == (v:Int))=[]:=by
     rw[List.filter_eq_nil_iff];intro a ha;obtain⟨s,_,rfl⟩:=List.mem_map.1 ha;simp;omega
    rw[this]
    by_cases h1:v<n
    ·have h2:v<n+1:=by omega
     simp[h1,h2]
    ·have h2:¬v<n+1:=by omega
     simp[h1,h2]
 rw[key]
 split
 ·rw[List.map_map];rfl
 ·rfl
end
end Go.Proofs.YtigafbmabjglfaaGreatDoor
