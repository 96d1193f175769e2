import Derived.Test.YtigafbmabjglfaaGreatDoorJT24
namespace Go.Proofs.YtigafbmabjglfaaGreatDoor
open Go.RowKit Go.Shelf
theorem wQ (t:Tm){i:Nat}(hi:i<t.kids.length):TB.at_ (t.kids.map Tm.tb) i=(t.kids[i]'hi).tb:=by
 unfold TB.at_;rw[List.getD_eq_getElem?_getD,List.getElem?_map,ahw hi];rfl
theorem qs : eU 112:=enters_of Tryz.func112 (by kernel_rfl) rfl
theorem qu : eU 111:=enters_of Tryz.func111 (by kernel_rfl) rfl
theorem qw : eU 109:=enters_of Tryz.func109 (by kernel_rfl) rfl
theorem CB (t:Tm) (h:lx 66 (fun t=>t.tb.term) t):lx 112 (fun t => !t.tb.term) t:=by
 intro w ht hf;have X0:ahg (Ext w (w.alloc (.cells #[.int .i64 t.kind,.int .i64 t.n,encStr t.name,.slice t.V t.vars.length t.vc,.slice t.T t.types.length t.tc,.slice t.A t.kids.length t.cap] 40))):=aa ((eR w).alloc _);have HL:=aa (h _ (ht.ext X0.o) hf);clear h ht hf;dsimp only at *;generalize t.tb.term=R at *;unfold bl at *;go_enter Tryz.func112,Tryz.ntmps112;go_wp2_with fail;refine HL.o.mono ?_;rintro e w2 ⟨rfl,hx⟩;go_wp2;go_ret;exact⟨rfl,X0.o.trans hx⟩
theorem kM {w:World}{t:Tm}(h:bK w t.A t.kids) (hi:0<t.kids.length) :
  ∃b o,t.A=some ⟨b,o,none⟩∧b<w.heap.size∧w.cell? ⟨b,o,none⟩=some (.int .i64 (t.kids[0]'hi).kind)∧w.cell? ⟨b,o+1,none⟩=some (.int .i64 (t.kids[0]'hi).n) ∧
   w.cell? ⟨b,o+2,none⟩=some (.string ⟨(t.kids[0]'hi).name.toArray⟩)∧w.cell? ⟨b,o+3,none⟩=some (.slice (t.kids[0]'hi).V (t.kids[0]'hi).vars.length (t.kids[0]'hi).vc) ∧
   w.cell? ⟨b,o+4,none⟩=some (.slice (t.kids[0]'hi).T (t.kids[0]'hi).types.length (t.kids[0]'hi).tc)∧w.cell? ⟨b,o+5,none⟩=some (.slice (t.kids[0]'hi).A (t.kids[0]'hi).kids.length (t.kids[0]'hi).cap):=by
 have:=h.at_ hi;simpa using this
set_option maxRecDepth 10000
set_option maxHeartbeats 8000000
theorem CC (t:Tm) (h:∀k∈t.kids,lx 66 (fun t=>t.tb.term) k):lx 111 (fun t => !t.tb.bind) t:=by
 intro w ht hf;have X0:ahg (Ext w (w.alloc (.cells #[.int .i64 t.kind,.int .i64 t.n,encStr t.name,.slice t.V t.vars.length t.vc,.slice t.T t.types.length t.tc,.slice t.A t.kids.length t.cap] 40))):=aa ((eR w).alloc _);have HF:=aa (fun w' (e:Ext w w')=>aa (jr t w' (ht.ext e) hf.ty hf.iD));have B1:ahg (av (w.alloc (.cells #[.int .i64 t.kind,.int .i64 t.n,encStr t.name,.slice t.V t.vars.length t.vc,.slice t.T t.types.length t.tc,.slice t.A t.kids.length t.cap] 40)) w.heap.size t):=aa (av.new w t);have HR:ahg (t.tb.bind=((t.kind == 11)&&bo t&&(TB.at_ (t.kids.map Tm.tb) 0).term)):=aa (by rw[iP];rfl);have nr:=ht.hd.le;have cv:=ht.hd.max;have HK:=aa ht.all;have Hh:=aa h;have Vo:=aa hf.kids;have Hl:ahg (t.kind=11→bo t=true→t.kids.length=1):=aa (fun h1 h2=>by
  have:=sX (d:=⟨true,false,false,1,1⟩) (by rw[h1];rfl) h2 (by decide);simp only at this;omega)
 clear h ht hf;dsimp only;generalize t.tb.bind=R at *;obtain⟨c0,-,-,-,-,-⟩:=B1.o.cells;unfold bl at *;cases hk:(t.kind != 11)
 ·have lU:t.kind=11:=by simpa using hk
  have dJ:ahg (R=(bo t&&(TB.at_ (t.kids.map Tm.tb) 0).term)):=aa (by rw[HR.o,lU];rfl);cases hF:bo t
  ·rw[hF] at HF;have hR:=dJ.o;rw[hF,Bool.false_and] at hR;subst hR;clear hF lU HR dJ;go_enter Tryz.func111,Tryz.ntmps111;go_wp2_with fail;refine(HF.o _ X0.o).o.mono ?_;rintro e w2 ⟨rfl,hx⟩;go_wp2;go_ret;exact⟨rfl,X0.o.trans hx⟩
  ·have hl:=Hl.o lU hF;have hl0:0<t.kids.length:=by omega
   rw[hF] at HF;have hR:=dJ.o;rw[hF,Bool.true_and,wQ t hl0] at hR;have wR:=aa hR;have HC:=aa (fun w' (e:Ext w w')=>aa (Hh.o _ (ahh hl0) w' ((HK.o.kids _ (ahh hl0)).ext e) (Vo.o _ (ahh hl0))));clear hF lU HR dJ hl hR;go_enter Tryz.func111,Tryz.ntmps111;go_wp2_with fail;refine(HF.o _ X0.o).o.mono ?_;rintro e w2 ⟨rfl,hx⟩;have X2:=aa hx;obtain⟨-,-,-,-,-,d5⟩:=(B1.o.ext X2.o).cells;obtain⟨b,o,hA,hb,q0,q1,q2,q3,q4,q5⟩:=kM (HK.o.ext (X0.o.trans X2.o)) hl0;rw[hA] at d5;clear hx hA;generalize t.kids[0]'hl0=x at *
   try dsimp only at HC
   generalize x.tb.term=RT at *;have wR:=wR.o;subst wR;unfold bl at HC;go_wp2_with fail;refine(HC.o _ (X0.o.trans X2.o)).o.mono ?_;rintro e w3 ⟨rfl,hx⟩;go_wp2;go_ret;exact⟨by simp,X0.o.trans (X2.o.trans hx)⟩
 ·have hR:=HR.o;have lU:(t.kind == 11)=false:=by simpa using hk
  rw[lU] at hR;simp only[Bool.false_and] at hR;subst hR;clear lU;go_enter Tryz.func111,Tryz.ntmps111;go_wp2;go_ret;exact⟨rfl,X0.o⟩
theorem CD (t:Tm) (h:∀k∈t.kids,lx 66 (fun t=>t.tb.term) k):lx 109 (fun t => !t.tb.alt) t:=by
 intro w ht hf;have X0:ahg (Ext w (w.alloc (.cells #[.int .i64 t.kind,.int .i64 t.n,encStr t.name,.slice t.V t.vars.length t.vc,.slice t.T t.types.length t.tc,.slice t.A t.kids.length t.cap] 40))):=aa ((eR w).alloc _);have HF:=aa (fun w' (e:Ext w w')=>aa (jr t w' (ht.ext e) hf.ty hf.iD));have B1:ahg (av (w.alloc (.cells #[.int .i64 t.kind,.int .i64 t.n,encStr t.name,.slice t.V t.vars.length t.vc,.slice t.T t.types.length t.tc,.slice t.A t.kids.length t.cap] 40)) w.heap.size t):=aa (av.new w t);have HR:ahg (t.tb.alt=((t.kind == 9)&&bo t&&(TB.at_ (t.kids.map Tm.tb) 0).pat&&(TB.at_ (t.kids.map Tm.tb) 1).term)):=aa (by rw[iP];rfl);have nr:=ht.hd.le;have cv:=ht.hd.max;have HK:=aa ht.all;have Hh:=aa h;have Vo:=aa hf.kids;have Hl:ahg (t.kind=9→bo t=true→t.kids.length=2):=aa (fun h1 h2=>by
  have:=sX (d:=⟨false,false,false,0,2⟩) (by rw[h1];rfl) h2 (by decide);simp only at this;omega)
 clear h ht hf;dsimp only;generalize t.tb.alt=R at *;obtain⟨c0,-,-,-,-,-⟩:=B1.o.cells;unfold bl at *;cases hk:(t.kind != 9)
 ·have lU:t.kind=9:=by simpa using hk
  have dJ:ahg (R=(bo t&&(TB.at_ (t.kids.map Tm.tb) 0).pat&&(TB.at_ (t.kids.map Tm.tb) 1).term)):=aa (by rw[HR.o,lU];rfl);cases hF:bo t
  ·rw[hF] at HF;have hR:=dJ.o;rw[hF,Bool.false_and,Bool.false_and] at hR;subst hR;clear hF lU HR dJ;go_enter Tryz.func109,Tryz.ntmps109;go_wp2_with fail;refine(HF.o _ X0.o).o.mono ?_;rintro e w2 ⟨rfl,hx⟩;go_wp2;go_ret;exact⟨rfl,X0.o.trans hx⟩
  ·have hl:=Hl.o lU hF;have hl0:0<t.kids.length:=by omega
   have qU:1<t.kids.length:=by omega
   rw[hF] at HF;have hR:=dJ.o;rw[hF,Bool.true_and,wQ t hl0,wQ t qU] at hR;have Lf:=aa (fun w' (e:Ext w w')=>aa (KT _ w' ((HK.o.kids _ (ahh hl0)).ext e) (Vo.o _ (ahh hl0))));have OG:=aa (fun w' (e:Ext w w')=>aa (Hh.o _ (ahh qU) w' ((HK.o.kids _ (ahh qU)).ext e) (Vo.o _ (ahh qU))));have wR:=aa hR;clear hF lU HR dJ hl hR;go_enter Tryz.func109,Tryz.ntmps109;go_wp2_with fail;refine(HF.o _ X0.o).o.mono ?_;rintro e w2 ⟨rfl,hx⟩;have X2:=aa hx;obtain⟨-,-,-,-,-,d5⟩:=(B1.o.ext X2.o).cells;obtain⟨b,o,hA,hb,q0,q1,q2,q3,q4,q5⟩:=kM (HK.o.ext (X0.o.trans X2.o)) hl0;have Qr:=aa (fun w' (e:Ext w w')=>(HK.o.ext e).at_ qU);have HA:=aa hA;rw[hA] at d5;clear hx hA;generalize t.kids[0]'hl0=x at *;generalize t.kids[1]'qU=y at *
   try dsimp only at Lf OG
   generalize x.tb.pat=RP at *;generalize y.tb.term=RT at *;have wR:=wR.o;subst wR;unfold bl at Lf OG;go_wp2_with fail;refine(Lf.o _ (X0.o.trans X2.o)).o.mono ?_;rintro e w3 ⟨rfl,hx⟩;have X3:=aa (X2.o.trans hx);clear hx q0 q1 q2 q3 q4 q5 d5;cases RP
   ·go_wp2;go_ret;exact⟨rfl,X0.o.trans X3.o⟩
   ·obtain⟨-,-,-,-,-,d5⟩:=(B1.o.ext X3.o).cells;obtain⟨b',o',hA',hb',q0,q1,q2,q3,q4,q5⟩:=Qr.o _ (X0.o.trans X3.o);rw[hA'] at d5;clear hA';go_wp2_with fail;refine(OG.o _ (X0.o.trans X3.o)).o.mono ?_;rintro e w4 ⟨rfl,hx⟩;go_wp2;go_ret;exact⟨by simp,X0.o.trans (X3.o.trans hx)⟩
 ·have hR:=HR.o;have lU:(t.kind == 9)=false:=by simpa using hk
  rw[lU] at hR;simp only[Bool.false_and] at hR;subst hR;clear lU;go_enter Tryz.func109,Tryz.ntmps109;go_wp2;go_ret;exact⟨rfl,X0.o⟩
set_option maxRecDepth 512
set_option maxHeartbeats 200000
def xK (t:Tm):Prop:=lx 66 (fun t=>t.tb.term) t
theorem uH {α:Type}(l:List α) (p:α→Bool):(l.any fun k => !p k) = !(l.all fun k=>p k):=by rw[←List.not_all_eq_any_not]
def eE (t:Tm):Bool:=decide (21≤t.kind)||(t.kind == 9)||(t.kind == 11)
theorem uI {t:Tm}(h:eE t=true):t.tb.term=false:=by
 rw[iP];show TB.lS t.kind (bo t) (t.kids.map Tm.tb)=false;unfold eE at h;simp only[Bool.or_eq_true] at h;unfold TB.lS
 rcases h with (h|h)|h<;>rw[h]<;>simp
theorem wS {t:Tm}(h:bo t=false):t.tb.term=false:=by
 rw[iP];show TB.lS t.kind (bo t) (t.kids.map Tm.tb)=false;unfold TB.lS;rw[h];simp
theorem qx {t:Tm}(h:bo t=true) (hn:eE t=false):t.tb.term=(if t.kind=8 then decide (2≤t.kids.length)&&(TB.at_ (t.kids.map Tm.tb) 0).term&&(t.kids.drop 1).all (fun k=>k.tb.alt) else if t.kind=10 then decide (1≤t.kids.length)&&(TB.at_ (t.kids.map Tm.tb) (t.kids.length - 1)).term&&(t.kids.take (t.kids.length - 1)).all (fun k=>k.tb.bind) else t.kids.all (fun k=>k.tb.term)):=by
 rw[iP];show TB.lS t.kind (bo t) (t.kids.map Tm.tb)=_;unfold eE at hn;simp only[Bool.or_eq_false_iff] at hn;unfold TB.lS;rw[h,hn.1.1,hn.1.2,hn.2];simp only[Bool.not_false,Bool.and_self,Bool.true_and,List.length_map,←List.map_drop,←List.map_take,List.all_map,Function.comp_def]
theorem dO {t:Tm}(h:eE t=false):¬t.kind≥21∧(t.kind == 9)=false∧(t.kind == 11)=false:=by
 unfold eE at h;simp only[Bool.or_eq_false_iff,decide_eq_false_iff_not] at h;exact⟨h.1.1,h.1.2,h.2⟩
set_option maxRecDepth 10000
set_option maxHeartbeats 8000000
theorem wT (t:Tm) (hn:eE t=true):xK t:=by
 intro w ht hf;have X0:ahg (Ext w (w.alloc (.cells #[.int .i64 t.kind,.int .i64 t.n,encStr t.name,.slice t.V t.vars.length t.vc,.slice t.T t.types.length t.tc,.slice t.A t.kids.length t.cap] 40))):=aa ((eR w).alloc _);have B1:ahg (av (w.alloc (.cells #[.int .i64 t.kind,.int .i64 t.n,encStr t.name,.slice t.V t.vars.length t.vc,.slice t.T t.types.length t.tc,.slice t.A t.kids.length t.cap] 40)) w.heap.size t):=aa (av.new w t);dsimp only;rw[uI hn];have Hn:=aa hn;clear ht hf hn;obtain⟨c0,-,-,-,-,-⟩:=B1.o.cells;unfold bl
 by_cases DG:t.kind≥21
 ·clear Hn;go_enter Tryz.func66,Tryz.ntmps66;go_wp2;go_ret;exact⟨rfl,X0.o⟩
 cases h9:(t.kind == 9)
 rotate_left
 ·clear Hn;go_enter Tryz.func66,Tryz.ntmps66;go_wp2;go_ret;exact⟨rfl,X0.o⟩
 cases h11:(t.kind == 11)
 rotate_left
 ·clear Hn;go_enter Tryz.func66,Tryz.ntmps66;go_wp2;go_ret;exact⟨rfl,X0.o⟩
 ·exact absurd Hn.o (by unfold eE;rw[h9,h11,decide_eq_false (show ¬21≤t.kind from DG)];decide)
theorem qy (t:Tm) (hn:eE t=false) (hF:bo t=false):xK t:=by
 intro w ht hf;have X0:ahg (Ext w (w.alloc (.cells #[.int .i64 t.kind,.int .i64 t.n,encStr t.name,.slice t.V t.vars.length t.vc,.slice t.T t.types.length t.tc,.slice t.A t.kids.length t.cap] 40))):=aa ((eR w).alloc _);have HF:=aa (fun w' (e:Ext w w')=>aa (jr t w' (ht.ext e) hf.ty hf.iD));have B1:ahg (av (w.alloc (.cells #[.int .i64 t.kind,.int .i64 t.n,encStr t.name,.slice t.V t.vars.length t.vc,.slice t.T t.types.length t.tc,.slice t.A t.kids.length t.cap] 40)) w.heap.size t):=aa (av.new w t);obtain⟨DG,h9,h11⟩:=dO hn;dsimp only;rw[wS hF];rw[hF] at HF;clear ht hf hn hF;obtain⟨c0,-,-,-,-,-⟩:=B1.o.cells;unfold bl at *;go_enter Tryz.func66,Tryz.ntmps66;go_wp2_with fail;refine(HF.o _ X0.o).o.mono ?_;rintro e w2 ⟨rfl,hx⟩;go_wp2;go_ret;exact⟨rfl,X0.o.trans hx⟩
theorem rJ (t:Tm) (hn:eE t=false) (hF:bo t=true) (h8:(t.kind == 8)=false) (h10:(t.kind == 10)=false) (HI:∀k∈t.kids,xK k):xK t:=by
 intro w ht hf;have X0:ahg (Ext w (w.alloc (.cells #[.int .i64 t.kind,.int .i64 t.n,encStr t.name,.slice t.V t.vars.length t.vc,.slice t.T t.types.length t.tc,.slice t.A t.kids.length t.cap] 40))):=aa ((eR w).alloc _);have HF:=aa (fun w' (e:Ext w w')=>aa (jr t w' (ht.ext e) hf.ty hf.iD));have B1:ahg (av (w.alloc (.cells #[.int .i64 t.kind,.int .i64 t.n,encStr t.name,.slice t.V t.vars.length t.vc,.slice t.T t.types.length t.tc,.slice t.A t.kids.length t.cap] 40)) w.heap.size t):=aa (av.new w t);obtain⟨DG,h9,h11⟩:=dO hn;have HK:=aa ht.all;have Hf:=aa hf;have hR:=qx hF hn;rw[if_neg (by simpa using h8),if_neg (by simpa using h10)] at hR;have nr:=ht.hd.le;have cv:=ht.hd.max;have HA:=aa (fun w' (e:Ext w w')=>aa (uB 112 #[] qs (fun k => !k.tb.term) t.A t.cap t.kids w' (HK.o.ext e) Hf.o.kl (fun w'' e2 x hx=>CB x (HI x hx) w'' ((HK.o.kids x hx).ext (e.trans e2)) (Hf.o.kids x hx))));dsimp only;rw[uH,←hR] at HA;rw[hF] at HF;clear ht hf hn hF hR HI HK Hf;generalize t.tb.term=R at *;obtain⟨c0,-,-,-,-,-⟩:=B1.o.cells;unfold bl at *;go_enter Tryz.func66,Tryz.ntmps66;go_wp2_with fail;refine(HF.o _ X0.o).o.mono ?_;rintro e w2 ⟨rfl,hx⟩;have X2:=aa hx;obtain⟨d0,-,-,-,-,d5⟩:=(B1.o.ext X2.o).cells;clear hx;go_wp2_with fail;refine(HA.o _ (X0.o.trans X2.o)).o.mono ?_;rintro e w3 ⟨rfl,hx⟩;go_wp2;go_ret;exact⟨by simp,X0.o.trans (X2.o.trans hx)⟩
theorem qz (t:Tm) (hn:eE t=false) (hF:bo t=true) (h8:(t.kind == 8)=true) (hk:¬2≤t.kids.length):xK t:=by
 intro w ht hf;have X0:ahg (Ext w (w.alloc (.cells #[.int .i64 t.kind,.int .i64 t.n,encStr t.name,.slice t.V t.vars.length t.vc,.slice t.T t.types.length t.tc,.slice t.A t.kids.length t.cap] 40))):=aa ((eR w).alloc _);have HF:=aa (fun w' (e:Ext w w')=>aa (jr t w' (ht.ext e) hf.ty hf.iD));have B1:ahg (av (w.alloc (.cells #[.int .i64 t.kind,.int .i64 t.n,encStr t.name,.slice t.V t.vars.length t.vc,.slice t.T t.types.length t.tc,.slice t.A t.kids.length t.cap] 40)) w.heap.size t):=aa (av.new w t);obtain⟨DG,h9,h11⟩:=dO hn;have hR:=qx hF hn;rw[if_pos (by simpa using h8),decide_eq_false hk,Bool.false_and,Bool.false_and] at hR;have nr:=ht.hd.le;have cv:=ht.hd.max;dsimp only;rw[hR];rw[hF] at HF;have EY:¬(t.kids.length:Int)≥2:=by omega
 clear ht hf hn hF hR hk;obtain⟨c0,-,-,-,-,-⟩:=B1.o.cells;unfold bl at *;go_enter Tryz.func66,Tryz.ntmps66;go_wp2_with fail;refine(HF.o _ X0.o).o.mono ?_;rintro e w2 ⟨rfl,hx⟩;have X2:=aa hx;obtain⟨d0,-,-,-,-,d5⟩:=(B1.o.ext X2.o).cells;clear hx;go_wp2;go_ret;exact⟨rfl,X0.o.trans X2.o⟩
theorem rK (t:Tm) (hn:eE t=false) (hF:bo t=true) (h8:(t.kind == 8)=true) (hk:2≤t.kids.length) (HI:∀k∈t.kids,xK k) (lQ:∀k∈t.kids,∀x∈k.kids,xK x):xK t:=by
 intro w ht hf;have X0:ahg (Ext w (w.alloc (.cells #[.int .i64 t.kind,.int .i64 t.n,encStr t.name,.slice t.V t.vars.length t.vc,.slice t.T t.types.length t.tc,.slice t.A t.kids.length t.cap] 40))):=aa ((eR w).alloc _);have HF:=aa (fun w' (e:Ext w w')=>aa (jr t w' (ht.ext e) hf.ty hf.iD));have B1:ahg (av (w.alloc (.cells #[.int .i64 t.kind,.int .i64 t.n,encStr t.name,.slice t.V t.vars.length t.vc,.slice t.T t.types.length t.tc,.slice t.A t.kids.length t.cap] 40)) w.heap.size t):=aa (av.new w t);obtain⟨DG,h9,h11⟩:=dO hn;have HK:=aa ht.all;have Hf:=aa hf;have hl0:0<t.kids.length:=by omega
 have hR:=qx hF hn;rw[if_pos (by simpa using h8),decide_eq_true hk,Bool.true_and,wQ t hl0] at hR;have nr:=ht.hd.le;have cv:=ht.hd.max;have EY:(t.kids.length:Int)≥2:=by omega
 have Lf:=aa (fun w' (e:Ext w w')=>aa (HI _ (ahh hl0) w' ((HK.o.kids _ (ahh hl0)).ext e) (Hf.o.kids _ (ahh hl0))));have HA:=aa (fun w' (e:Ext w w')=>aa (uB 109 #[] qw (fun k => !k.tb.alt) _ (t.cap - 1) (t.kids.drop 1) w' ((HK.o.cut (k:=1) (cap:=t.cap) (by omega) nr).ext e) (by rw[List.length_drop];have:=Hf.o.kl;omega) (fun w'' e2 x hx=>CD x (lQ x (List.mem_of_mem_drop hx)) w'' ((HK.o.kids x (List.mem_of_mem_drop hx)).ext (e.trans e2)) (Hf.o.kids x (List.mem_of_mem_drop hx)))));rw[uH,List.length_drop,if_neg (show ¬t.cap=1 by omega)] at HA;obtain⟨b,o,hA,hb,q0,q1,q2,q3,q4,q5⟩:=kM (HK.o.ext X0.o) hl0;rw[hA] at HA;have wR:=aa hR;have HQ:=aa (fun w' (e:Ext w w')=>kM (HK.o.ext e) hl0);have SX:=aa hA;dsimp only;rw[hF] at HF;clear hR hn q0 q1 q2 q3 q4 q5 hb ht hf hF HI lQ hk HK Hf hA;generalize t.kids[0]'hl0=x at *;generalize ((t.kids.drop 1).all fun k=>k.tb.alt)=RA at *
 try dsimp only at Lf
 generalize x.tb.term=RT at *;generalize t.tb.term=R at *;have wR:=wR.o;subst wR;obtain⟨c0,-,-,-,-,-⟩:=B1.o.cells;unfold bl at *;go_enter Tryz.func66,Tryz.ntmps66;go_wp2_with fail;refine(HF.o _ X0.o).o.mono ?_;rintro e w2 ⟨rfl,hx⟩;have X2:=aa hx;obtain⟨d0,-,-,-,-,d5⟩:=(B1.o.ext X2.o).cells;obtain⟨b',o',hA',hb,q0,q1,q2,q3,q4,q5⟩:=HQ.o _ (X0.o.trans X2.o);have hA:=SX.o;rw[hA] at hA';injection hA' with hA';injection hA' with e1 e2;subst e1 e2;rw[hA] at d5;clear hx hA;go_wp2_with fail;refine(Lf.o _ (X0.o.trans X2.o)).o.mono ?_;rintro e w3 ⟨rfl,hx⟩;have X3:=aa (X2.o.trans hx);clear hx q0 q1 q2 q3 q4 q5 d5 d0;cases RT
 ·go_wp2;go_ret;exact⟨rfl,X0.o.trans X3.o⟩
 ·obtain⟨-,-,-,-,-,d5⟩:=(B1.o.ext X3.o).cells;rw[SX.o] at d5;have hc1:¬t.cap=1:=by omega
  have hs1:(1:Int)≤(t.kids.length:Int):=by omega
  have hs2:(t.kids.length:Int)≤(t.cap:Int):=by omega
  have hs3:(1:Int)≤(t.cap:Int):=by omega
  have hs5:1≤t.cap:=by omega
  have Yi:(0:Int)<(t.kids.length:Int):=by omega
  go_wp2_with fail;refine(HA.o _ (X0.o.trans X3.o)).o.mono ?_;rintro e w4 ⟨rfl,hx⟩;go_wp2;go_ret;exact⟨by simp,X0.o.trans (X3.o.trans hx)⟩
theorem rL (t:Tm) (hn:eE t=false) (hF:bo t=true) (h8:(t.kind == 8)=false) (h10:(t.kind == 10)=true) (hk:¬1≤t.kids.length):xK t:=by
 intro w ht hf;have X0:ahg (Ext w (w.alloc (.cells #[.int .i64 t.kind,.int .i64 t.n,encStr t.name,.slice t.V t.vars.length t.vc,.slice t.T t.types.length t.tc,.slice t.A t.kids.length t.cap] 40))):=aa ((eR w).alloc _);have HF:=aa (fun w' (e:Ext w w')=>aa (jr t w' (ht.ext e) hf.ty hf.iD));have B1:ahg (av (w.alloc (.cells #[.int .i64 t.kind,.int .i64 t.n,encStr t.name,.slice t.V t.vars.length t.vc,.slice t.T t.types.length t.tc,.slice t.A t.kids.length t.cap] 40)) w.heap.size t):=aa (av.new w t);obtain⟨DG,h9,h11⟩:=dO hn;have hR:=qx hF hn;rw[if_neg (by simpa using h8),if_pos (by simpa using h10),decide_eq_false hk,Bool.false_and,Bool.false_and] at hR;have nr:=ht.hd.le;have cv:=ht.hd.max;dsimp only;rw[hR];rw[hF] at HF;have EY:¬(t.kids.length:Int)≥1:=by omega
 clear ht hf hn hF hR hk;obtain⟨c0,-,-,-,-,-⟩:=B1.o.cells;unfold bl at *;go_enter Tryz.func66,Tryz.ntmps66;go_wp2_with fail;refine(HF.o _ X0.o).o.mono ?_;rintro e w2 ⟨rfl,hx⟩;have X2:=aa hx;obtain⟨d0,-,-,-,-,d5⟩:=(B1.o.ext X2.o).cells;clear hx;go_wp2;go_ret;exact⟨rfl,X0.o.trans X2.o⟩
theorem uJ (t:Tm) (hn:eE t=false) (hF:bo t=true) (h8:(t.kind == 8)=false) (h10:(t.kind == 10)=true) (hk:1≤t.kids.length) (HI:∀k∈t.kids,xK k) (lQ:∀k∈t.kids,∀x∈k.kids,xK x):xK t:=by
 intro w ht hf;have X0:ahg (Ext w (w.alloc (.cells #[.int .i64 t.kind,.int .i64 t.n,encStr t.name,.slice t.V t.vars.length t.vc,.slice t.T t.types.length t.tc,.slice t.A t.kids.length t.cap] 40))):=aa ((eR w).alloc _);have HF:=aa (fun w' (e:Ext w w')=>aa (jr t w' (ht.ext e) hf.ty hf.iD));have B1:ahg (av (w.alloc (.cells #[.int .i64 t.kind,.int .i64 t.n,encStr t.name,.slice t.V t.vars.length t.vc,.slice t.T t.types.length t.tc,.slice t.A t.kids.length t.cap] 40)) w.heap.size t):=aa (av.new w t);obtain⟨DG,h9,h11⟩:=dO hn;have HK:=aa ht.all;have Hf:=aa hf;have hl0:t.kids.length - 1<t.kids.length:=by omega
 have hR:=qx hF hn;rw[if_neg (by simpa using h8),if_pos (by simpa using h10),decide_eq_true hk,Bool.true_and,wQ t hl0] at hR;have nr:=ht.hd.le;have cv:=ht.hd.max;have EY:(t.kids.length:Int)≥1:=by omega
 have Lf:=aa (fun w' (e:Ext w w')=>aa (HI _ (ahh hl0) w' ((HK.o.kids _ (ahh hl0)).ext e) (Hf.o.kids _ (ahh hl0))));have HA:=aa (fun w' (e:Ext w w')=>aa (uB 111 #[] qu (fun k => !k.tb.bind) t.A t.cap (t.kids.take (t.kids.length - 1)) w' ((HK.o.take (k:=t.kids.length - 1) (by omega)).ext e) (by rw[List.length_take];have:=Hf.o.kl;omega) (fun w'' e2 x hx=>CC x (lQ x (List.mem_of_mem_take hx)) w'' ((HK.o.kids x (List.mem_of_mem_take hx)).ext (e.trans e2)) (Hf.o.kids x (List.mem_of_mem_take hx)))));rw[uH,List.length_take,Nat.min_eq_left (by omega)] at HA;have HQ:=aa (fun w' (e:Ext w w')=>(HK.o.ext e).at_ hl0);obtain⟨b,o,hA,hb,q0,q1,q2,q3,q4,q5⟩:=HQ.o _ X0.o;have wR:=aa hR;have SX:=aa hA;rw[hA] at HA;dsimp only;rw[hF] at HF;clear hR hn q0 q1 q2 q3 q4 q5 hb ht hf hF HI lQ HK Hf hA;generalize t.kids[t.kids.length - 1]'hl0=x at *;generalize ((t.kids.take (t.kids.length - 1)).all fun k=>k.tb.bind)=RA at *
 try dsimp only at Lf
 generalize x.tb.term=RT at *;generalize t.tb.term=R at *;have wR:=wR.o;subst wR;obtain⟨c0,-,-,-,-,-⟩:=B1.o.cells;obtain⟨m,hm⟩:∃m,t.kids.length=m+1:=⟨t.kids.length - 1,by omega⟩;have JT:t.kids.length - 1=m:=by omega
 rw[JT] at HQ HA;have hmI:(t.kids.length:Int) - 1=(m:Int):=by omega
 have je:m≤t.cap:=by omega
 clear hm JT;unfold bl at *;go_enter Tryz.func66,Tryz.ntmps66;go_wp2_with fail;refine(HF.o _ X0.o).o.mono ?_;rintro e w2 ⟨rfl,hx⟩;have X2:=aa hx;obtain⟨d0,-,-,-,-,d5⟩:=(B1.o.ext X2.o).cells;obtain⟨b',o',hA',hb,q0,q1,q2,q3,q4,q5⟩:=HQ.o _ (X0.o.trans X2.o);have hA:=SX.o;rw[hA] at hA';injection hA' with hA';injection hA' with e1 e2;subst e1 e2;rw[hA] at d5;clear hx hA;go_wp2_with fail;refine(Lf.o _ (X0.o.trans X2.o)).o.mono ?_;rintro e w3 ⟨rfl,hx⟩;have X3:=aa (X2.o.trans hx);clear hx q0 q1 q2 q3 q4 q5 d5 d0;cases RT
 ·go_wp2;go_ret;exact⟨rfl,X0.o.trans X3.o⟩
 ·obtain⟨-,-,-,-,-,d5⟩:=(B1.o.ext X3.o).cells;rw[SX.o] at d5;have hs2:(m:Int)≤(t.cap:Int):=by omega
  have hs3:(0:Int)≤(m:Int):=by omega
  have Qa:(0:Int)≤(t.cap:Int):=by omega
  go_wp2_with fail;refine(HA.o _ (X0.o.trans X3.o)).o.mono ?_;rintro e w4 ⟨rfl,hx⟩;go_wp2;go_ret;exact⟨by simp,X0.o.trans (X3.o.trans hx)⟩
set_option maxRecDepth 512
set_option maxHeartbeats 200000
theorem yZ (n:Nat):∀t:Tm,t.size≤n→xK t:=by
 induction n with
 |zero=>intro t h;have:=t.size_pos;omega
 |succ n ih=>
 intro t hsz;have HI:∀k∈t.kids,xK k:=fun k hk=>ih k (by have:=Tm.cB hk;omega)
 have lQ:∀k∈t.kids,∀x∈k.kids,xK x:=fun k hk x hx=>ih x (by have:=Tm.cB hk;have:=Tm.cB hx;omega)
 cases hn:eE t
 rotate_left
 ·exact wT t hn
 cases hF:bo t
 ·exact qy t hn hF
 cases h8:(t.kind == 8)
 ·cases h10:(t.kind == 10)
  ·exact rJ t hn hF h8 h10 HI
  ·by_cases hk:1≤t.kids.length
   ·exact uJ t hn hF h8 h10 hk HI lQ
   ·exact rL t hn hF h8 h10 hk
 ·by_cases hk:2≤t.kids.length
  ·exact rK t hn hF h8 hk HI lQ
  ·exact qz t hn hF h8 hk
theorem Gx (t:Tm):xK t:=yZ t.size t (ahi _)
structure SY {α:Type}(B:Nat) (I:List α→World→Prop):Prop where
 alloc:∀s W o,I s W→I s (W.alloc o)
 put:∀s W l o o',I s W→B≤l→W.heap[l]?=some o→o.isCells=false→I s (W.putObj l o')
def roundEnd {α:Type}(Kp:World→World→Prop) (I Ix:List α→World→Prop) (xs:List α) (W:World):Exit→Act→World→Prop
 | .normal,_,W'=>KeepsOthers W W'∧Kp W W'∧I xs W'
 | .ret,_,W'=>KeepsOthers W W'∧Ix xs W'
 |_,_,_=>False
theorem wU {F:Fence}{n:Nat}{P:Program}{α:Type}{g:Operand}{ps:Array Tmp}{assign body:Code}{Q:Exit→Act→World→Prop}{a:Act}{w:World}
  (hro:F.round=none) (h1:1≤n){gf:Nat}{ba:Array Value}(hg:a.eval g=.func (.func gf) ba #[]) (hFg:F.fn gf) (eg:∀args w,(callFunc gf args).run P w=.ok (.enter gf args) w)
  {encs:α→Array Value}{Kp:World→World→Prop}{S Sp:List α→Prop}{N:Nat}
  (hseq:∀(l:Nat) (J Jx:List α→World→Prop) (W:World),Below w.heap.size w W→(∀s W o,J s W→J s (W.alloc o)) →
   (∀pre x W1,J pre W1→pre.length<N→YieldAt F (n - 1 - 1) P l (encs x) W1 fun e W'=>(e=.returned (.bool true)∧J (pre++[x]) W'∧Kp W1 W')∨(e=.returned (.bool false)∧Jx (pre++[x]) W'))→J [] W →
   CallsIn F (n - 1) P gf (ba++#[.func (.yield l) #[] #[]]) W fun e W'=>(∃v,e=.returned v)∧((∃xs,S xs∧J xs W')∨(∃pre,Sp pre∧Jx pre W')))
  (hKt:∀ {A B C:World},Kp A B→Kp B C→Kp A C) (hKb:∀(W:World) (l:Nat) (o o':Obj),w.heap.size≤l→W.heap[l]?=some o→o.isCells=false→Kp W (W.putObj l o')) (wu:∀x,(encs x).size=ps.size)
  (I Ix:List α→World→Prop) (hI:SY w.heap.size I) (hIx:SY w.heap.size Ix) (h0:I [] w) (a₁:α→Act)
  (Lg:∀(l:Nat) (x:α) (W:World) (K:Act→World→Prop),K (a₁ x) W →
   assign.wpIn (F.inRound l) (n - 1 - 1) P (Exit.then K (fun _ _ _=>False)) { tmps:=(ps.zip (encs x)).foldl (fun t (p,v)=>t.setIfInBounds p v) a.tmps,defers:=[] } W)
  (SZ:∀(l:Nat) (pre:List α) (x:α) (W:World),I pre W→pre.length<N→body.wpIn (F.inRound l) (n - 1 - 1) P (roundEnd Kp I Ix (pre++[x]) W) (a₁ x) W)
  (hdone:∀(D:Nat) (xs:List α) (W:World),w.heap.size≤D→S xs→I xs W→W.heap[D]?=some (.deferred (some []))→Q .normal { a with defers := { target:=.collected D,args:=#[] } :: a.defers } W)
  (S3:∀(D:Nat) (pre:List α) (W:World),w.heap.size≤D→Sp pre→Ix pre W→W.heap[D]?=some (.deferred (some []))→Code.ret.wpIn F n P Q { a with defers := { target:=.collected D,args:=#[] } :: a.defers } W) :
  (Code.rangeFunc g ps assign body).wpIn F n P Q a w:=by
 refine wpIn_rangeFunc fun fn hfn => ?_
 rw[hro]
 let L:LoopState→Option Code→Obj:=fun st pe=>.loop { state:=st,pending:=pe,fn,tmps:=a.tmps,params:=ps,assign,body,defers:=w.heap.size }
 obtain⟨V,hV⟩:∃V,V=(w.alloc (.deferred (some []))).alloc (L .ready none):=⟨_,rfl⟩;have vL:V.heap[w.heap.size+1]?=some (L .ready none):=by
  rw[hV];have:=World.alloc_heap_new (w.alloc (.deferred (some []))) (L .ready none);rwa [World.size_alloc] at this
 have vD:V.heap[w.heap.size]?=some (.deferred (some [])):=by
  rw[hV];exact(Below.heap_alloc _ _ _ (by simp)).trans (World.alloc_heap_new w _)
 have vI:I [] V:=by rw[hV];exact hI.alloc _ _ _ (hI.alloc _ _ _ h0)
 have vB:Below w.heap.size w V:=by rw[hV];exact((Below.refl _ w).alloc (ahi _) _).alloc (by simp) _
 have old:∀ {W:World}{j:Nat}{o:Obj}(o':Obj),W.heap[j]?=some o→(W.alloc o').heap[j]?=some o:=fun o' h=>(Below.heap_alloc _ _ _ (Array.getElem?_eq_some_iff.1 h).1).trans h
 refine⟨w.heap.size+1,[{ target:=.collected w.heap.size,args:=#[] }],V,{ target:=.fn (.func gf) #[],args:=ba++#[.func (.yield (w.heap.size+1)) #[] #[]] },V,gf,ba++#[.func (.yield (w.heap.size+1)) #[] #[]],V,?_,?_,?_,?_,fun _=>h1,?_⟩
 ·rw[hV];exact run_enterLoop_outer _ _ _ _ _
 ·simp only[resolve,hg];simp[go_sem]
 ·intro f' hf';simp[Target.leads] at hf';subst hf';exact hFg
 ·simp[invoke,go_sem,eg]
 refine(hseq (w.heap.size+1) (fun pre W=>I pre W∧W.heap[w.heap.size+1]?=some (L .ready none)∧W.heap[w.heap.size]?=some (.deferred (some [])))
  (fun pre W=>Ix pre W∧W.heap[w.heap.size+1]?=some (L .done (some .ret))∧W.heap[w.heap.size]?=some (.deferred (some []))) V vB
  (fun s W o h=>⟨hI.alloc _ _ _ h.1,old o h.2.1,old o h.2.2⟩) ?_ ⟨vI,vL,vD⟩).mono ?_
 ·-- a round
  rintro pre x W ⟨hi,hl,hk⟩ hlen;refine⟨fn,_,assign,body,run_yield (P:=P) (args:=encs x) hl (wu x),roundIn_of_wpIn hfn (Lg _ x W _ ⟨_,run_beginRound hl rfl,?_⟩)⟩;have hB:(W.putObj (w.heap.size+1) (L .busy none)).heap[w.heap.size+1]?=some (L .busy none):=World.putObj_heap_same (Array.getElem?_eq_some_iff.1 hl).1;have hD:(W.putObj (w.heap.size+1) (L .busy none)).heap[w.heap.size]?=some (.deferred (some [])):=(World.putObj_heap_other (by omega)).trans hk;have ends:∀(jump:Option Code) (W3:World),KeepsOthers (W.putObj (w.heap.size+1) (L .busy none)) W3→W3.heap[w.heap.size+1]?=some (L .busy none) ∧
    (Instr.endRound (w.heap.size+1) jump).run P W3=.ok (.bool jump.isNone) (W3.putObj (w.heap.size+1) (L (if jump.isNone then .ready else .done) jump)) ∧
    (W3.putObj (w.heap.size+1) (L (if jump.isNone then .ready else .done) jump)).heap[w.heap.size+1]?=some (L (if jump.isNone then .ready else .done) jump) ∧
    (W3.putObj (w.heap.size+1) (L (if jump.isNone then .ready else .done) jump)).heap[w.heap.size]?=some (.deferred (some [])):=fun jump W3 hk3=>by
   have h3:=hk3.same _ _ hB rfl;exact⟨h3,run_endRound (P:=P) jump h3,World.putObj_heap_same (Array.getElem?_eq_some_iff.1 h3).1,(World.putObj_heap_other (by omega)).trans (hk3.same _ _ hD rfl)⟩
  refine wpIn_mono (SZ _ pre x _ (hI.put _ _ _ _ _ hi (by omega) hl rfl) hlen) ?_;intro e a3 W3 hp;cases e with
  |normal=>
   obtain⟨hk3,jc,Yj⟩:=hp;obtain⟨g1,g2,g3,g4⟩:=ends none W3 hk3;exact⟨_,_,g2,.inl ⟨rfl,⟨hI.put _ _ _ _ _ Yj (by omega) g1 rfl,g3,g4⟩,hKt (hKt (hKb _ _ _ _ (by omega) hl rfl) jc) (hKb _ _ _ _ (by omega) g1 rfl)⟩⟩
  |ret=>
   obtain⟨hk3,Yj⟩:=hp;obtain⟨g1,g2,g3,g4⟩:=ends (some .ret) W3 hk3;exact⟨_,_,g2,.inr ⟨rfl,hIx.put _ _ _ _ _ Yj (by omega) g1 rfl,g3,g4⟩⟩
  |exit id=>exact hp.elim
  |goto t=>exact hp.elim
  |panic ch=>exact hp.elim
  |outgrown=>exact hp.elim
 ·-- behind the iterator
  rintro e W2 ⟨⟨v,rfl⟩,(⟨xs,hS,hi,hl,hk⟩|⟨pre,hSp,hi,hl,hk⟩)⟩
  ·exact⟨none,_,run_endLoop (P:=P) hl (by simp),hdone _ xs _ (ahi _) hS (hI.put _ _ _ _ _ hi (by omega) hl rfl) ((World.putObj_heap_other (by omega)).trans hk)⟩
  ·exact⟨some .ret,_,run_endLoop (P:=P) hl (by simp),S3 _ pre _ (ahi _) hSp (hIx.put _ _ _ _ _ hi (by omega) hl rfl) ((World.putObj_heap_other (by omega)).trans hk)⟩
end Go.Proofs.YtigafbmabjglfaaGreatDoor
namespace Go.Proofs.YtigafbmabjglfaaGreatDoor
open Go.RowKit Go.Shelf
attribute [local go_sem] Oper.semAt_some
noncomputable def Tm.gU : Tm→Nat→List (Nat×Tm):=Tm.fold fun t l d=>(d,t) :: (l.map fun f=>f (d+1)).flatten
noncomputable def eK (l:List Tm) (d:Nat):List (Nat×Tm):=(l.map fun k=>k.gU d).flatten
theorem uK (t:Tm) (d:Nat):t.gU d=(d,t) :: eK t.kids (d+1):=by
 unfold Tm.gU;rw[Tm.fold_eq];simp only[eK,List.map_map];rfl
theorem y6 (l:List Tm) (d:Nat){k:Nat}(h:k<l.length):eK (l.take (k+1)) d=eK (l.take k) d++(l[k]'h).gU d:=by
 unfold eK;rw[ahl h,ahz,List.flatten_append]
 congr 1
 simp
theorem wV (l:List Tm) (d k:Nat):eK l d=eK (l.take k) d++eK (l.drop k) d:=by
 unfold eK;rw[←List.flatten_append,←ahz,List.take_append_drop]
theorem Gy (c:Nat):∀(t:Tm) (d:Nat),(∀p∈t.gU d,p.1≤c)↔d+t.depth≤c+1:=by
 intro t
 induction t using Tm.ind with
 |h t ih=>
 intro d;rw[uK,Tm.aN];have oa:∀(l:List Nat) (m:Nat),l.foldr max 0≤m↔∀x∈l,x≤m:=by
  intro l m
  induction l with
  |nil=>simp
  |cons x l ih=>simp only[List.foldr_cons,List.mem_cons,forall_eq_or_imp];rw[←ih];omega
 have hk:(∀p∈eK t.kids (d+1),p.1≤c)↔∀k∈t.kids,d+1+k.depth≤c+1:=by
  unfold eK
  constructor
  ·intro h k hk;exact(ih k hk (d+1)).1 (fun p hp=>h p (List.mem_flatten.2 ⟨_,List.mem_map.2 ⟨k,hk,rfl⟩,hp⟩))
  ·intro h p hp;obtain⟨_,hl,hp⟩:=List.mem_flatten.1 hp;obtain⟨k,hk,rfl⟩:=List.mem_map.1 hl;exact(ih k hk (d+1)).2 (h k hk) p hp
 simp only[List.mem_cons,forall_eq_or_imp];rw[hk]
 constructor
 ·rintro⟨h1,h2⟩;have:(t.kids.map Tm.depth).foldr max 0≤c - d:=(oa _ _).2 (fun x hx=>by
   obtain⟨k,hk,rfl⟩:=List.mem_map.1 hx;have:=h2 k hk;omega)
  omega
 ·intro h;refine⟨by omega,fun k hk => ?_⟩;have:=(oa (t.kids.map Tm.depth) ((t.kids.map Tm.depth).foldr max 0)).1 (ahi _) k.depth (List.mem_map.2 ⟨k,hk,rfl⟩);omega
theorem Gz (t:Tm):∀d,(t.gU d).length=t.size:=by
 induction t using Tm.ind with
 |h t ih=>
 intro d;rw[uK,Tm.size_eq,ahy]
 congr 1
 unfold eK;rw[List.length_flatten,List.map_map]
 congr 1
 exact List.map_congr_left (fun k hk=>ih k hk (d+1))
section
variable {n₀ R:Nat}{A B C:World}
theorem Kc.MV (h:Kc n₀ R A B){b:Nat}{t:Tm}(k:av A b t) (hb:b≠R):av B b t:=h.cells b _ hb k rfl
end
set_option maxRecDepth 10000
set_option maxHeartbeats 8000000
theorem CE (F:Fence) (hd:F.depth=none) (h6:F.fn 153) (hro:F.round=none) (l n₀ R N:Nat) (w0:World) (hw0:n₀=w0.heap.size) (J Jx:List (Nat×Tm)→World→Prop)
  (OH:∀pre W o,J pre W→J pre (W.alloc o))
  (hY:∀m pre x W,J pre W→pre.length<N→YieldAt F m Tryz.prog l #[.int .i64 ((x:Nat×Tm).1:Nat),bl x.2] W fun e W'=>
   (e=.returned (.bool true)∧J (pre++[x]) W'∧Kc n₀ R W W')∨(e=.returned (.bool false)∧Jx (pre++[x]) W')) (t:Tm) :
  ∀(n d:Nat) (pre:List (Nat×Tm)) (W:World),aM w0 t→Below n₀ w0 W→R<W.heap.size→J pre W→d+t.size≤1000000000→pre.length+(t.gU d).length≤N →
   CallsIn F n Tryz.prog 153 #[bl t,.int .i64 d,.func (.yield l) #[] #[]] W fun e W'=>
    (e=.returned (.bool true)∧J (pre++t.gU d) W'∧Kc n₀ R W W')∨(e=.returned (.bool false)∧∃q,q <+: t.gU d∧Jx (pre++q) W'):=by
 induction t using Tm.ind with
 |h t ih=>
 intro n d pre W ht hB hRW hJ hsz hN;have IH:=aa ih;have hdd:∀k:Nat,(F.depth.isSome=true→1≤k):=fun k h=>by rw[hd] at h;cases h
 have hlv:=uK t d;have Bk:n₀≤W.heap.size:=by have:=hB.size;omega
 have fj:ahg (av (W.alloc (.cells #[.int .i64 t.kind,.int .i64 t.n,encStr t.name,.slice t.V t.vars.length t.vc,.slice t.T t.types.length t.tc,.slice t.A t.kids.length t.cap] 40)) W.heap.size t):=aa (ah _ _ _ rfl);have K0:ahg (Kc n₀ R W (W.alloc (.cells #[.int .i64 t.kind,.int .i64 t.n,encStr t.name,.slice t.V t.vars.length t.vc,.slice t.T t.types.length t.tc,.slice t.A t.kids.length t.cap] 40))):=aa ((Kc.refl _ _ _).alloc Bk _);have Vp:=OH pre W (.cells #[.int .i64 t.kind,.int .i64 t.n,encStr t.name,.slice t.V t.vars.length t.vc,.slice t.T t.types.length t.tc,.slice t.A t.kids.length t.cap] 40) hJ;obtain⟨fn,tmps,assign,body,hy,hR⟩:=hY (n - 1) pre (d,t) _ Vp (by rw[hlv] at hN;simp at hN;omega);have HT:=aa ht;have Ba:=aa hB;have HR:=aa hR;clear ih hB hR hJ Vp;unfold bl;unfold bl at hy;have hle:=ht.hd.le;have hmx:=ht.hd.max;have HK:=aa ht.all;dsimp only at hy;generalize vt:t.A=A0 at *;have zO:=aa vt;clear vt ht;refine callsIn_of_wp Tryz.func153 rfl h6 ?_ hro;simp only[Tryz.ntmps153,List.size_toArray,ahy,List.length_nil,Nat.reduceAdd,Nat.reduceSub,Array.replicate_succ,Array.replicate_zero,List.push_toArray,List.append_toArray,List.nil_append,List.cons_append]
 gi_wp2
 refine HR.o.mono ?_;rintro e W2 (⟨rfl,hJ2,hk2⟩|⟨rfl,Yk⟩)
 ·have K2:=aa (K0.o.trans hk2);have gy:=aa (hk2.MV fj.o (by omega));have mn:=aa hJ2;have HJa:=aa OH;have hc4:=gy.o.cells.2.2.2.2.2;rw[zO.o] at hc4;have HLT:=aa (fun k (hk:k<t.kids.length)=>y6 t.kids (d+1) hk);have HLS:=aa (fun k=>wV t.kids (d+1) k);have S4:=aa hlv;have Qk:=aa hN;have KB:=aa (fun k (hk:k∈t.kids)=>Tm.cB hk);have hW2:W.heap.size<W2.heap.size:=gy.o.lt;clear hJ2 hk2 hlv OH hN HR hY
  gi_wp2
  gi_loopw [17] (fun i wr=>∃k:Nat,k≤t.kids.length∧i=.int .i64 k∧ahg (J (pre++(d,t) :: eK (t.kids.take k) (d+1)) wr)∧ahg (Kc n₀ R W2 wr)) (fun i _=>t.kids.length - (intOf i).toNat)
  case atStart=>exact⟨0,ahj _,rfl,aa (by simpa [eK] using mn.o),aa (Kc.refl _ _ _)⟩
  case round=>
   obtain⟨k,hk,rfl,HJ,OI⟩:=hrel;have qW:=aa (OI.o.MV gy.o (by omega))
   by_cases hlt:k<t.kids.length
   ·have aS:(k:Int)<(t.kids.length:Int):=by omega
    have Ds:ahg (Below n₀ w0 wr):=aa ((Ba.o.trans K2.o.below).trans OI.o.below);obtain⟨b,o,rfl,hb,q0,q1,q2,q3,q4,q5⟩:=(HK.o.old (hw0▸Ds.o)).at_ hlt;have lZ:=ahh hlt;have hcs:=KB.o _ lZ;have gw:=aa (HLT.o k hlt);have HsN:pre.length+(eK (t.kids.take k) (d+1)).length+1+((t.kids[k]'hlt).gU (d+1)).length≤N:=by
     have h1:=Qk.o;have h2:=congrArg List.length (HLS.o (k+1));rw[S4.o] at h1;rw[gw.o] at h2;simp only[ahy,ahn] at h1 h2;omega
    have HC:=aa (IH.o _ lZ (n - 1) (d+1) _ (wr.alloc (.cells #[.int .i64 (t.kids[k]'hlt).kind,.int .i64 (t.kids[k]'hlt).n,encStr (t.kids[k]'hlt).name,.slice (t.kids[k]'hlt).V (t.kids[k]'hlt).vars.length (t.kids[k]'hlt).vc,.slice (t.kids[k]'hlt).T (t.kids[k]'hlt).types.length (t.kids[k]'hlt).tc,.slice (t.kids[k]'hlt).A (t.kids[k]'hlt).kids.length (t.kids[k]'hlt).cap] 40))
     (HK.o.kids _ lZ) (Ds.o.alloc (by have:=Ds.o.size;omega) _) (by have:=OI.o.size;simp;omega) (HJa.o _ _ _ HJ.o) (by omega) (by simp only[ahn,ahy];omega))
    have OJ:ahg (Kc n₀ R W2 (wr.alloc (.cells #[.int .i64 (t.kids[k]'hlt).kind,.int .i64 (t.kids[k]'hlt).n,encStr (t.kids[k]'hlt).name,.slice (t.kids[k]'hlt).V (t.kids[k]'hlt).vars.length (t.kids[k]'hlt).vc,.slice (t.kids[k]'hlt).T (t.kids[k]'hlt).types.length (t.kids[k]'hlt).tc,.slice (t.kids[k]'hlt).A (t.kids[k]'hlt).kids.length (t.kids[k]'hlt).cap] 40))):=aa (OI.o.alloc (by have:=Ds.o.size;omega) _);have QO:=aa (HLS.o k);have QP:ahg (eK (t.kids.drop k) (d+1)=(t.kids[k]'hlt).gU (d+1)++eK (t.kids.drop (k+1)) (d+1)):=aa (by unfold eK;rw[List.drop_eq_getElem_cons hlt];rfl);clear lZ HsN;generalize t.kids[k]'hlt=c at *;have PZ:(d:Int)+1≤2000000000:=by omega
    have Uu:(0:Int)≤(d:Int):=by omega
    have ha:1≤n∨True:=.inr trivial
    gi_wp2_with fail
    refine HC.o.mono ?_;rintro e W4 (⟨rfl,Mh,hk4⟩|⟨rfl,q,hq,Eh⟩)
    ·have K4:=aa (OJ.o.trans hk4);have QR:=aa Mh;clear Mh hk4
     gi_wp2
     go_roundw
     case rel=>exact⟨k+1,hlt,by go_num,aa (by rw[gw.o];simpa using QR.o),K4⟩
     case measure=>simp[intOf];omega
    ·gi_wp2
     go_ret;refine .inr ⟨rfl,(d,t) :: eK (t.kids.take k) (d+1)++q,?_,by simpa using Eh⟩;obtain⟨r,hr⟩:=hq;rw[S4.o,QO.o,QP.o,←hr];exact⟨r++eK (t.kids.drop (k+1)) (d+1),by simp⟩
   ·have bU:¬(k:Int)<(t.kids.length:Int):=by omega
    have xE:t.kids.take k=t.kids:=ahm (by omega);have HF:ahg (J (pre++t.gU d) wr):=aa (by have:=HJ.o;rw[xE,←S4.o] at this;exact this);clear xE
    gi_wp2
    go_ret;exact .inl ⟨rfl,HF.o,by rw[←hw0];exact K2.o.trans OI.o⟩
 ·gi_wp2
  go_ret;exact .inr ⟨rfl,[(d,t)],by rw[hlv];exact⟨_,rfl⟩,Yk⟩
set_option maxRecDepth 512
set_option maxHeartbeats 200000
end Go.Proofs.YtigafbmabjglfaaGreatDoor
namespace Go.Proofs.YtigafbmabjglfaaGreatDoor
open Go.RowKit Go.Shelf
attribute [local go_sem] Oper.semAt_some
set_option maxHeartbeats 1000000 in
theorem y7 (F:Fence) (n:Nat) (h4:F.fn 65) (hro:F.round=none) (t:Tm) (w:World) :
  CallsIn F n Tryz.prog 65 #[bl t] w fun e w'=>e=.returned (.func (.func 106) #[bl t] #[])∧w'=w.alloc (.cells #[.int .i64 t.kind,.int .i64 t.n,encStr t.name,.slice t.V t.vars.length t.vc,.slice t.T t.types.length t.tc,.slice t.A t.kids.length t.cap] 40):=by
 unfold bl;refine callsIn_of_wp Tryz.func65 rfl h4 ?_ hro;simp only[Tryz.ntmps65,List.size_toArray,ahy,List.length_nil,Nat.reduceAdd,Nat.reduceSub,Array.replicate_succ,Array.replicate_zero,List.push_toArray,List.append_toArray,List.nil_append,List.cons_append]
 gi_wp2
 go_ret;exact⟨rfl,rfl⟩
set_option maxHeartbeats 2000000 in
theorem GA (F:Fence) (hd:F.depth=none) (n:Nat) (h5:F.fn 106) (h6:F.fn 153) (hro:F.round=none) (l n₀ R:Nat) (w0:World) (hw0:n₀=w0.heap.size) (t:Tm) (J Jx:List (Nat×Tm)→World→Prop)
  (OH:∀pre W o,J pre W→J pre (W.alloc o))
  (hY:∀pre x W,J pre W→pre.length<(t.gU 1).length→YieldAt F (n - 1) Tryz.prog l #[.int .i64 ((x:Nat×Tm).1:Nat),bl x.2] W fun e W'=>
   (e=.returned (.bool true)∧J (pre++[x]) W'∧Kc n₀ R W W')∨(e=.returned (.bool false)∧Jx (pre++[x]) W'))
  (W:World) (ht:aM w0 t) (hB:Below n₀ w0 W) (hR:R<W.heap.size) (hsz:1+t.size≤1000000000) (h0:J [] W) :
  CallsIn F n Tryz.prog 106 #[bl t,.func (.yield l) #[] #[]] W fun e W'=>(∃v,e=.returned v) ∧
   ((∃ys,ys=t.gU 1∧J ys W')∨(∃pre,pre <+: t.gU 1∧Jx pre W')):=by
 have hp:=aa (fun W' (e:Ext W W') (h:J [] W')=>CE F hd h6 hro l n₀ R (t.gU 1).length w0 hw0 J Jx OH (fun m pre x W hj hl=>YieldAt.qg hd m (hY pre x W hj hl)) t (n - 1) 1 [] W' ht (hB.trans (e.below.mono (by have:=hB.size;omega))) (by have:=e.size;omega) h hsz (by simp));have HJ:=aa (fun o=>OH [] W o h0);clear hY OH ht hB h0 hw0;unfold bl at *;refine callsIn_of_wp Tryz.func106 rfl h5 ?_ hro;simp only[Tryz.ntmps106,List.size_toArray,ahy,List.length_nil,Nat.reduceAdd,Nat.reduceSub,Array.replicate_succ,Array.replicate_zero,List.push_toArray,List.append_toArray,List.nil_append,List.cons_append]
 gi_wp2_with fail
 refine(hp.o _ ((eR W).alloc _) (HJ.o _)).mono ?_;rintro e W1 (⟨rfl,Vp,_⟩|⟨rfl,q,hq,hx⟩)
 ·gi_wp2
  go_end0
  exact⟨⟨_,rfl⟩,.inl ⟨_,rfl,by simpa using Vp⟩⟩
 ·gi_wp2
  go_end0
  exact⟨⟨_,rfl⟩,.inr ⟨q,hq,by simpa using hx⟩⟩
end Go.Proofs.YtigafbmabjglfaaGreatDoor
namespace Go.Proofs.YtigafbmabjglfaaGreatDoor
open Go.RowKit Go.Shelf
attribute [local go_sem] Oper.semAt_some
theorem gm {W:World}{B:Nat}{v:Value}{t:TypeId}(h:W.heap[B]?=some (.cells #[v] t (0,0))):W.cell? ⟨B,0,none⟩=some v∧W.frozen? ⟨B,0,none⟩=false:=by
 constructor<;>simp[World.cell?,World.frozen?,h]
theorem uL {W:World}{B:Nat}{v u:Value}{t:TypeId}(h:W.heap[B]?=some (.cells #[v] t (0,0))):(W.setCell ⟨B,0,none⟩ u).heap[B]?=some (.cells #[u] t (0,0)):=by
 have:=aw h 0 u;simpa using this
theorem uM {W:World}{B l:Nat}{v:Value}{t:TypeId}{o o':Obj}(h:W.heap[B]?=some (.cells #[v] t (0,0))) (hl:W.heap[l]?=some o) (ho:o.isCells=false):(W.putObj l o').heap[B]?=some (.cells #[v] t (0,0)):=by
 refine(World.putObj_heap_other (fun e => ?_)).trans h;subst e;rw[hl] at h;cases h;cases ho
theorem gp {W:World}{B:Nat}{v:Value}{t:TypeId}(o:Obj) (h:W.heap[B]?=some (.cells #[v] t (0,0))):(W.alloc o).heap[B]?=some (.cells #[v] t (0,0)):=(Below.heap_alloc _ _ _ (Array.getElem?_eq_some_iff.1 h).1).trans h
theorem tq {n₀:Nat}{w W:World}{l:Nat}(o':Obj) (h:Below n₀ w W) (hn:n₀≤w.heap.size) (hB:n₀≤l):Below n₀ w (W.putObj l o'):=
 h.grown (grownBy_putObj' W l o') (aho hn h.size) (fun k e=>by cases e;exact hB)
theorem Kc.Yl {n₀ R:Nat}(h:n₀≤R) (W:World) (v:Value):Kc n₀ R W (W.setCell ⟨R,0,none⟩ v):=
 ⟨(Below.refl _ W).setCell (p:=⟨R,0,none⟩) h v,fun _ _ hk ho _=>(Below.heap_setCell _ _ _ _ hk).trans ho⟩
end Go.Proofs.YtigafbmabjglfaaGreatDoor
namespace Go.Proofs.YtigafbmabjglfaaGreatDoor
open Go.RowKit Go.Shelf
attribute [local go_sem] Oper.semAt_some
def fD (l:List (Nat×Tm)):Prop:=l.length≤4096∧∀p∈l,p.1≤400
theorem fD.snoc {l:List (Nat×Tm)}{x:Nat×Tm}(h:fD l) (hl:l.length+1≤4096) (hx:x.1≤400):fD (l++[x]):=
 ⟨by simpa using hl,fun y hy=>(List.mem_append.1 hy).elim (h.2 y) (fun e=>by rw[ahx] at e;subst e;exact hx)⟩
theorem wW (t:Tm):cj t=(@decide (fD (t.gU 1)) (Classical.propDecidable _)&&t.tb.term):=by
 unfold cj
 congr 1
 have h1:=Gy 400 t 1;have h2:=Gz t 1;have:fD (t.gU 1)↔(t.size≤4096∧t.depth≤400):=by
  unfold fD;rw[h1,h2];omega
 by_cases h:fD (t.gU 1)
 ·rw[@decide_eq_true _ (Classical.propDecidable _) h];have:=this.1 h;simp[this.1,this.2]
 ·rw[@decide_eq_false _ (Classical.propDecidable _) h];have h3:¬(t.size≤4096∧t.depth≤400):=fun k=>h (this.2 k)
  by_cases h4:t.size≤4096
  ·have:¬t.depth≤400:=fun k=>h3 ⟨h4,k⟩
   simp[this]
  ·simp[h4]
theorem im {W:World}{b:Nat}{t:Tm}(o:Obj) (h:av W b t):av (W.alloc o) b t:=h.ext ((eR _).alloc _)
theorem CF {W:World}{B l:Nat}{t:Tm}{o o':Obj}(h:av W B t) (hl:W.heap[l]?=some o) (ho:o.isCells=false):av (W.putObj l o') B t:=by
 refine(World.putObj_heap_other (fun e => ?_)).trans h;subst e;unfold av at h;rw[hl] at h;cases h;cases ho
theorem CG {W:World}{B c i:Nat}{t:Tm}{v:Value}(h:av W B t) (hc:c≠B):av (W.setCell ⟨c,i,none⟩ v) B t:=
 h.kept (aK W c i v) (fun e=>hc (by injection e))
theorem CH {W:World}{B c i:Nat}{v u:Value}{t:TypeId}(h:W.heap[B]?=some (.cells #[v] t (0,0))) (hc:c≠B):(W.setCell ⟨c,i,none⟩ u).heap[B]?=some (.cells #[v] t (0,0)):=
 ((aK W c i u).block B (ae h) (fun e=>hc (by injection e with e;exact e.symm))).trans h
set_option maxRecDepth 100000 in
set_option maxHeartbeats 8000000 in
theorem y8 (t:Tm) (w:World) (ht:aM w t) (hf:cY t) (hsz:t.size≤100000000) :
  CallsIn Fence.wide 4 Tryz.prog 42 #[bl t] w fun e W'=>e=.returned (.bool (cj t))∧Below w.heap.size w W':=by
 have h1:1≤4:=by omega
 have tV:Fence.wide.fn 42:=trivial;have h5:Fence.wide.fn 106:=trivial;have h4:Fence.wide.fn 65:=trivial;have h7:Fence.wide.fn 66:=trivial;have Uu:Fence.wide.depth=none:=rfl;rw[wW];have HA:=aa (fun w'=>y7 Fence.wide 3 trivial rfl t w');have Ht:=aa ht;have HT:=aa (fun w' (e:Below w.heap.size w w')=>aa ((callsIn_wide (n:=3)).2 (Gx t w' (ht.old e) hf)));have NJ:1+t.size≤1000000000:=by omega
 have fj:=aa (av.new w t);clear ht hf;dsimp only at HT;generalize t.tb.term=RT at *;unfold bl at *;refine callsIn_of_wp_marks Tryz.func42 rfl tV ?_ rfl;simp only[Tryz.ntmps42,List.size_toArray,ahy,List.length_nil,Nat.reduceAdd,Nat.reduceSub,Array.replicate_succ,Array.replicate_zero,List.push_toArray,List.append_toArray,List.nil_append,List.cons_append]
 gi_wp2_with fail
 refine(HA.o _).mono ?_;rintro e w' ⟨rfl,rfl⟩
 gi_wp2
 have Vq:Below w.heap.size w ((((w.alloc (.cells #[.int .i64 t.kind,.int .i64 t.n,encStr t.name,.slice t.V t.vars.length t.vc,.slice t.T t.types.length t.tc,.slice t.A t.kids.length t.cap] 40)).alloc (.cells #[.bool false] 4)).alloc (.cells #[.int .i64 0] 3)).alloc (.cells #[.int .i64 t.kind,.int .i64 t.n,encStr t.name,.slice t.V t.vars.length t.vc,.slice t.T t.types.length t.tc,.slice t.A t.kids.length t.cap] 40)):=((((Below.refl _ w).alloc (ahi _) _).alloc (by simp) _).alloc (by simp;omega) _).alloc (by simp;omega) _;have hR:((((w.alloc (.cells #[.int .i64 t.kind,.int .i64 t.n,encStr t.name,.slice t.V t.vars.length t.vc,.slice t.T t.types.length t.tc,.slice t.A t.kids.length t.cap] 40)).alloc (.cells #[.bool false] 4)).alloc (.cells #[.int .i64 0] 3)).alloc (.cells #[.int .i64 t.kind,.int .i64 t.n,encStr t.name,.slice t.V t.vars.length t.vc,.slice t.T t.types.length t.tc,.slice t.A t.kids.length t.cap] 40)).heap[w.heap.size+1+1]?=some (.cells #[.int .i64 0] 3 (0,0)):=gp _ (ah _ _ _ (by simp));have hRb:((((w.alloc (.cells #[.int .i64 t.kind,.int .i64 t.n,encStr t.name,.slice t.V t.vars.length t.vc,.slice t.T t.types.length t.tc,.slice t.A t.kids.length t.cap] 40)).alloc (.cells #[.bool false] 4)).alloc (.cells #[.int .i64 0] 3)).alloc (.cells #[.int .i64 t.kind,.int .i64 t.n,encStr t.name,.slice t.V t.vars.length t.vc,.slice t.T t.types.length t.tc,.slice t.A t.kids.length t.cap] 40)).heap[w.heap.size+1]?=some (.cells #[.bool false] 4 (0,0)):=gp _ (gp _ (ah _ _ _ (by simp)));have Uz:av ((((w.alloc (.cells #[.int .i64 t.kind,.int .i64 t.n,encStr t.name,.slice t.V t.vars.length t.vc,.slice t.T t.types.length t.tc,.slice t.A t.kids.length t.cap] 40)).alloc (.cells #[.bool false] 4)).alloc (.cells #[.int .i64 0] 3)).alloc (.cells #[.int .i64 t.kind,.int .i64 t.n,encStr t.name,.slice t.V t.vars.length t.vc,.slice t.T t.types.length t.tc,.slice t.A t.kids.length t.cap] 40)) w.heap.size t:=im _ (im _ (im _ fj.o));have hs:((((w.alloc (.cells #[.int .i64 t.kind,.int .i64 t.n,encStr t.name,.slice t.V t.vars.length t.vc,.slice t.T t.types.length t.tc,.slice t.A t.kids.length t.cap] 40)).alloc (.cells #[.bool false] 4)).alloc (.cells #[.int .i64 0] 3)).alloc (.cells #[.int .i64 t.kind,.int .i64 t.n,encStr t.name,.slice t.V t.vars.length t.vc,.slice t.T t.types.length t.tc,.slice t.A t.kids.length t.cap] 40)).heap.size=w.heap.size+4:=by simp
 have HM:=aa (fun l J Jx W (h1:Below w.heap.size w W) hJ hY (h2:w.heap.size+1+1<W.heap.size) h0=>GA Fence.wide rfl 3 trivial trivial rfl l w.heap.size (w.heap.size+1+1) w rfl t J Jx hJ hY W Ht.o h1 h2 NJ h0);unfold bl at HM;generalize (((w.alloc (.cells #[.int .i64 t.kind,.int .i64 t.n,encStr t.name,.slice t.V t.vars.length t.vc,.slice t.T t.types.length t.tc,.slice t.A t.kids.length t.cap] 40)).alloc (.cells #[.bool false] 4)).alloc (.cells #[.int .i64 0] 3)).alloc (.cells #[.int .i64 t.kind,.int .i64 t.n,encStr t.name,.slice t.V t.vars.length t.vc,.slice t.T t.types.length t.tc,.slice t.A t.kids.length t.cap] 40)=w1 at *;refine wU (Kp:=Kc w.heap.size (w.heap.size+1+1)) (encs:=fun x:Nat×Tm=>#[Value.int .i64 (x.1:Nat),bl x.2]) (S:=fun ys=>ys=t.gU 1) (Sp:=fun pre=>pre <+: t.gU 1) (N:=(t.gU 1).length) rfl h1 rfl h5 (enters_of Tryz.func106 (by kernel_rfl) rfl)
  (fun l J Jx W hW hJ hY h0=>HM.o l J Jx W (Vq.trans (hW.mono (by omega))) hJ hY (by have:=hW.size;omega) h0) (fun h k=>h.trans k) (fun W l o o' hl hW ho=>(Kc.refl _ _ W).put o' (by omega) hW ho) (fun _=>rfl)
  (fun pre W=>W.heap[w.heap.size+1+1]?=some (.cells #[.int .i64 pre.length] 3 (0,0))∧W.heap[w.heap.size+1]?=some (.cells #[.bool false] 4 (0,0))∧av W w.heap.size t∧fD pre∧Below w.heap.size w W)
  (fun pre W=>W.heap[w.heap.size+1]?=some (.cells #[.bool false] 4 (0,0))∧¬fD pre∧Below w.heap.size w W)
  ⟨fun s W o h=>⟨gp _ h.1,gp _ h.2.1,im _ h.2.2.1,h.2.2.2.1,h.2.2.2.2.alloc h.2.2.2.2.size _⟩,fun s W l o o' h hB hl ho=>⟨uM h.1 hl ho,uM h.2.1 hl ho,CF h.2.2.1 hl ho,h.2.2.2.1,tq o' h.2.2.2.2 (ahi _) (by omega)⟩⟩
  ⟨fun s W o h=>⟨gp _ h.1,h.2.1,h.2.2.alloc h.2.2.size _⟩,fun s W l o o' h hB hl ho=>⟨uM h.1 hl ho,h.2.1,tq o' h.2.2 (ahi _) (by omega)⟩⟩ ⟨hR,hRb,Uz,⟨by simp,by simp⟩,Vq⟩
  (fun x => { tmps:=#[.agg #[.int .i64 t.kind,.int .i64 t.n,encStr t.name,.slice t.V t.vars.length t.vc,.slice t.T t.types.length t.tc,.slice t.A t.kids.length t.cap],.pointer (some ⟨w.heap.size,0,none⟩),.pointer (some ⟨w.heap.size+1,0,none⟩),.pointer (some ⟨w.heap.size+1+1,0,none⟩),.int .i64 (x.1:Nat),.agg #[.int .i64 t.kind,.int .i64 t.n,encStr t.name,.slice t.V t.vars.length t.vc,.slice t.T t.types.length t.tc,.slice t.A t.kids.length t.cap],.func (.func 106) #[.agg #[.int .i64 t.kind,.int .i64 t.n,encStr t.name,.slice t.V t.vars.length t.vc,.slice t.T t.types.length t.tc,.slice t.A t.kids.length t.cap]] #[],.int .i64 (x.1:Nat),bl x.2,undef,undef,undef,undef,undef,undef,undef,undef,undef,undef],defers:=[] }) ?assign ?body ?done ?stop
 case assign=>
  intro l x W K hK
  gi_wp2
  unfold bl at hK;simpa using hK
 case body=>
  rintro l pre x W ⟨hc,hcb,S6,hD,hB⟩ hlen;obtain⟨c0,f0⟩:=gm hc;obtain⟨b0,fb0⟩:=gm hcb;have xO:=hD.1;have Js:((pre++[x]).length:Int)=(pre.length:Int)+1:=by simp
  have HC:=aa (uL (u:=.int .i64 ((pre++[x]).length:Int)) hc);rw[Js] at HC;have Vr:=aa (CH (c:=w.heap.size+1+1) (i:=0) (u:=.int .i64 ((pre.length:Int)+1)) hcb (by omega));have HCt:=aa (CG (c:=w.heap.size+1+1) (i:=0) (v:=.int .i64 ((pre.length:Int)+1)) S6 (by omega));have Ym:=aa (hB.setCell (p:=⟨w.heap.size+1+1,0,none⟩) (by show w.heap.size≤w.heap.size+1+1;omega) (.int .i64 ((pre.length:Int)+1)));have HK:=aa (KeepsOthers.setCell W ⟨w.heap.size+1+1,0,none⟩ (.int .i64 ((pre.length:Int)+1)));have OI:=aa (Kc.Yl (n₀:=w.heap.size) (R:=w.heap.size+1+1) (by omega) W (.int .i64 ((pre.length:Int)+1)));obtain⟨d0,e0⟩:=gm HC.o;obtain⟨d1,e1⟩:=gm Vr.o;have HD:=aa hD;clear hD hc hcb S6 hB
  by_cases hn:pre.length+1≤4096
  ·have tV:¬((pre.length:Int)+1>4096):=by omega
   by_cases hx:x.1≤400
   ·have hx1:¬((x.1:Int)>400):=by omega
    gi_wp2
    exact⟨HK.o,OI.o,by rw[Js];exact HC.o,Vr.o,HCt.o,HD.o.snoc hn hx,Ym.o⟩
   ·have hx1:((x.1:Int)>400):=by omega
    gi_wp2
    exact⟨HK.o.trans (KeepsOthers.setCell _ _ _),uL Vr.o,fun h=>hx (h.2 x (by simp)),Ym.o.setCell (p:=⟨w.heap.size+1,0,none⟩) (by simp) _⟩
  ·have tV:((pre.length:Int)+1>4096):=by omega
   gi_wp2
   exact⟨HK.o.trans (KeepsOthers.setCell _ _ _),uL Vr.o,fun h=>hn (by have:=h.1;simp at this;omega),Ym.o.setCell (p:=⟨w.heap.size+1,0,none⟩) (by simp) _⟩
 case done=>
  rintro D ys W hD rfl ⟨hc,hcb,S6,Ov,hB⟩ hK;obtain⟨e0,e1,e2,e3,e4,e5⟩:=S6.cells;have HTW:=HT.o W hB;have HB:=aa hB;have MF:=aa Ov;clear hB Ov hc HT
  gi_wp2_with fail
  refine HTW.o.mono ?_;rintro e w2 ⟨rfl,hx⟩;have Yn:=(hx.heap (ae hcb)).trans hcb;obtain⟨b0,fb0⟩:=gm Yn;have hK2:=(hx.heap (ae hK)).trans hK;have HX:=aa hx;clear hx hcb hK S6 e0 e1 e2 e3 e4 e5
  gi_wp2
  have hK':=(KeepsOthers.setCell w2 ⟨w.heap.size+1,0,none⟩ (.bool RT)).same D _ hK2 rfl;refine⟨by simp,.inl ⟨_,_,rfl,run_takeDeferred hK',?_⟩⟩;have Yo:=cell_kept (World.cell?_setCell_same' w2 ⟨w.heap.size+1,0,none⟩ (.bool RT) (by rw[b0];rfl)) (grownBy_putObj' _ D (.deferred none)) (fun r e=>by cases e;exact⟨_,hK',rfl⟩);refine⟨.bool RT,?_,by rw[@decide_eq_true _ (Classical.propDecidable _) MF.o,Bool.true_and],((HB.o.trans (HX.o.below.mono HB.o.size)).setCell (p:=⟨w.heap.size+1,0,none⟩) (by simp) _).trans (belowK_b (w:=w) (ahi _) _ D _ _ (by omega) hK' rfl rfl)⟩;simp[results,Tryz.f42,go_sem,Yo]
 case stop=>
  rintro D pre W hD kg ⟨hcb,Yp,hB⟩ hK;obtain⟨b0,fb0⟩:=gm hcb;have HN:ahg (¬fD (t.gU 1)):=aa (fun h=>Yp ⟨aho kg.length_le h.1,fun p hp=>h.2 p (kg.subset hp)⟩);clear Yp kg
  gi_wp2
  refine⟨by simp,.inl ⟨_,_,rfl,run_takeDeferred hK,?_⟩⟩;have Yo:=cell_kept b0 (grownBy_putObj' _ D (.deferred none)) (fun r e=>by cases e;exact⟨_,hK,rfl⟩);refine⟨.bool false,?_,by rw[@decide_eq_false _ (Classical.propDecidable _) HN.o,Bool.false_and],hB.trans (belowK_b (w:=w) (ahi _) W D _ _ (by omega) hK rfl rfl)⟩;simp[results,Tryz.f42,go_sem,Yo]
theorem Ai (t:Tm) (w:World) (h:aM w t) (hf:cY t) (hsz:t.size≤100000000) :
  Calls Tryz.prog 42 #[bl t] w fun e w'=>e=.returned (.bool (cj t))∧Ext w w':=by
 refine(callsIn_wide (n:=4)).1 ((y8 t w h hf hsz).mono ?_);rintro e w' ⟨he,hB⟩;exact⟨he,Ext.cg hB (ahi _)⟩
end Go.Proofs.YtigafbmabjglfaaGreatDoor
namespace Go.Proofs.YtigafbmabjglfaaGreatDoor
open Go.RowKit
theorem jv.Qs {w:World}{a0 a1:Addr}(h:jv w a0 a1):0<w.heap.size:=by
 cases e0:w.heap[0]? with
 |none=>have:=h.v0;simp[World.cell?,e0] at this
 |some o=>exact ae e0
theorem jv.Qt {w:World}{a0 a1:Addr}(h:jv w a0 a1):1<w.heap.size:=by
 cases e0:w.heap[1]? with
 |none=>have:=h.v1;simp[World.cell?,e0] at this
 |some o=>exact ae e0
theorem eL (c:Nat):ay c Tm.zero:=.mk (fun h=>absurd rfl h) (fun h=>absurd rfl h) (by intro x hx;cases hx) (fun h=>absurd rfl h) (by intro k hk;cases hk)
def qA (a0 a1:Addr):Nat→Value
 |0=>.nilIface
 |1=>.iface 306 (.pointer (some a0))
 |_=>.iface 306 (.pointer (some a1))
structure oy (w w':World) (cs:List dK) (ins:List cX) (preds:List Pd) (given:List Tm) (p:Pf) (t:Tm) (n:Nat):Prop where
 iM:aM w' t
 away:∀c,c<w.heap.size→(∀g∈given,ay c g)→aL c p→ay c t
 o:(n=1∧t=Tm.zero∧(preds.length≠given.length∨(preds.length=given.length∧bm cs ins preds p=none))) ∨
  (preds.length=given.length∧(bm cs ins preds p).isSome=true∧∃u:Tm,u.pure=kE cs ins preds (given.map Tm.pure) p∧((n=0∧t=u∧cj u=true)∨(n=2∧t=Tm.zero∧cj u=false)))
def nU (cs:List dK) (ins:List cX) (preds:List Pd) (given:List Tm) (p:Pf):Prop:=
 (bm cs ins preds p).isSome=true→preds.length=given.length→∀t:Tm,t.pure=kE cs ins preds (given.map Tm.pure) p→cY t∧t.size≤100000000
set_option maxRecDepth 10000
set_option maxHeartbeats 8000000
theorem Lh (x:dz) (P:Option Addr) (pc:Nat) (preds:List Pd) (L:Option Addr) (lc:Nat) (given:List Tm) (hpl:∀y∈x.insts,y.preds.length≤40000) (p:Pf) (a0 a1:Addr) (w:World) (he:dX w x) (hP:bA w P preds) (hL:bK w L given) (hp:bM w p) (jd:qY w) (nd:jv w a0 a1) (qB:nU x.ag x.insts preds given p) :
  Calls Tryz.prog 26 #[.agg #[.slice x.D x.aA.length x.dc,.slice x.C x.ag.length x.cc,.slice x.I x.insts.length x.ic,.slice P preds.length pc,.slice L given.length lc],cr p] w fun e w'=>(∃t n,e=.returned (.tuple #[bl t,qA a0 a1 n])∧oy w w' x.ag x.insts preds given p t n)∧Ext w w':=by
 obtain⟨W,hW⟩:∃W,W=((w.alloc (.cells #[.slice x.D x.aA.length x.dc,.slice x.C x.ag.length x.cc,.slice x.I x.insts.length x.ic,.slice P preds.length pc,.slice L given.length lc] 80)).alloc (.cells #[.int .i64 p.kind,.int .i64 p.n,.slice p.T p.types.length p.tc,.slice p.A p.kids.length p.cap] 34)).alloc (.cells #[.int .i64 0,.int .i64 0,.string ⟨#[]⟩,.slice none 0 0,.slice none 0 0,.slice none 0 0] 40):=⟨_,rfl⟩;have HW:=aa hW.symm;have X0:ahg (Ext w W):=aa (by rw[hW];exact(((eR _).alloc _).alloc _).alloc _);have B1:ahg (fL W w.heap.size x P pc preds L lc given):=aa (by rw[hW];exact(fL.new w).ext (((eR _).alloc _).alloc _));have B2:ahg (aO W (w.heap.size+1) p):=aa (by rw[hW];exact aO.ext (ah _ _ _ (by simp)) ((eR _).alloc _));have B3:ahg (W.heap[w.heap.size+1+1]?=some (.cells #[.int .i64 0,.int .i64 0,.string ⟨#[]⟩,.slice none 0 0,.slice none 0 0,.slice none 0 0] 40)):=aa (by rw[hW];exact ah _ _ _ (by simp));have bS:ahg (W.heap.size=w.heap.size+3):=aa (by rw[hW];simp);have hl0:=nd.Qs;have qU:=nd.Qt;have Qu:=aa (fun w' (e:Ext W w')=>nd.ext (X0.o.trans e));have Dz:=aa (fun w' (e:Ext W w')=>aa (wa x P pc preds p w' (he.ext (X0.o.trans e)) (hP.ext (X0.o.trans e)) (hp.ext (X0.o.trans e)) (qY.ext jd (X0.o.trans e))));have HT:=aa (fun w' (e:Ext W w') (h:(bm x.ag x.insts preds p).isSome=true) (hl:given.length=preds.length)=>aa (KC x P pc preds L lc given hpl p w' (he.ext (X0.o.trans e)) (hP.ext (X0.o.trans e)) (hL.ext (X0.o.trans e)) (hp.ext (X0.o.trans e)) h hl (qY.ext jd (X0.o.trans e))));have uF:=aa qB;have ry:ahg (∀c,w.heap.size≤c→(∀g∈given,ay c g)∧aL c p):=aa (fun c hc=>⟨fun g hg=>bw (hL.kids g hg) hc,dm hp hc⟩);have r8:=aa (fun w' (e:Ext W w')=>ahk ((B1.o.ext e).lt) ((B1.o.ext e).cells));have S7:=aa (fun w' (e:Ext W w')=>ahk ((B2.o.ext e).lt) ((B2.o.ext e).cells));unfold nU at uF;clear hW he hP hL hp jd nd qB B1 B2;generalize hO:bm x.ag x.insts preds p=O at *;generalize Ok:kE x.ag x.insts preds (given.map Tm.pure) p=EV at *;have HO:=aa hO;have S8:=aa Ok;clear hO Ok;unfold eX at Dz;obtain⟨n1,e0,e1,e2,e3,e4⟩:=r8.o W (eR _);obtain⟨n2,c0,c1,c2,c3⟩:=S7.o W (eR _);unfold cr at *;have Yq:w.heap.size+1+1<W.heap.size:=by rw[bS.o];omega
 by_cases hlen:preds.length=given.length
 ·have hne:((preds.length:Int) != (given.length:Int))=false:=by simp[hlen]
  have lV:=aa hlen;clear hlen;go_enter Tryz.func26,Tryz.ntmps26;go_upto_region 1 with fail;rw[HW.o];clear HW;go_upto_region 3 with fail;clear hne;go_wp2_with fail;refine(Dz.o _ (eR _)).o.mono ?_;rintro e w2 ⟨⟨b,m,rfl,Ku⟩,hx⟩;have X2:=aa hx;have Li:=aa Ku;clear hx Ku Dz n1 e0 e1 e2 e3 e4 n2 c0 c1 c2 c3;go_upto_region 4 with fail;refine bC ?_;intro W4 sF;have X4:ahg (Ext W W4):=aa (by rw[sF];exact X2.o.alloc _);clear sF;cases O with
  |none=>
   obtain⟨rfl,-⟩:=Li.o.no rfl;clear Li HT uF;have gv:=Qu.o W4 X4.o;have g0:=gv.v0;have g1:=gv.v1;have gl0:=gv.Qs;have gl1:=gv.Qt;have B4:=aa ((X4.o.heap (ae B3.o)).trans B3.o);obtain⟨z0,z1,z2,z3,z4,z5,iE,iF,iG,iH,um,uo⟩:=bn B4.o;have hz:=ae B4.o;have hng:0≠w.heap.size+1+1:=by omega
   have S9:w.heap.size+1+1≠0:=by omega
   have XF:=aa (bg (X0.o.trans X4.o) (by omega:w.heap.size≤w.heap.size+1+1) Tm.zero);clear gv;go_wp2
   go_region
   go_wp2;refine bodyPost_ret (v:=.tuple #[bl Tm.zero,qA a0 a1 1]) ?_ rfl ⟨⟨Tm.zero,1,rfl,⟨aM.zero _,fun c _ _ _=>eL c,.inl ⟨rfl,rfl,.inr ⟨lV.o,HO.o⟩⟩⟩⟩,?_⟩
   ·simp[results,Tryz.f26,go_sem,z0,z1,z2,z3,z4,z5,qA];exact⟨rfl,rfl,rfl,⟨rfl,rfl,rfl⟩,⟨rfl,rfl,rfl⟩,rfl,rfl,rfl⟩
   ·exact XF.o.drew
  |some a=>
   have xQ:=aa (fun w' (e:Ext W w')=>aa ((HT.o w' e rfl lV.o.symm).o));obtain⟨rfl,-⟩:=Li.o.yes a rfl;clear Li HT;obtain⟨n1,e0,e1,e2,e3,e4⟩:=r8.o W4 X4.o;obtain⟨n2,c0,c1,c2,c3⟩:=S7.o W4 X4.o;go_wp2_with fail;refine(xQ.o W4 X4.o).o.mono ?_;rintro e w6 ⟨⟨t,rfl,ht⟩,hx⟩;have X6:=aa (X4.o.trans hx);have nt:=aa ht.iM;have Kr:=aa ht.is;have h9:=ry.o (w.heap.size+1+1) (by omega);have ou:=aa (ht.away (w.heap.size+1+1) (by have:=X4.o.size;omega) h9.1 h9.2);have wJ:ahg (∀c,c<w.heap.size→(∀g∈given,ay c g)→aL c p→ay c t):=aa (fun c hc h1 h2=>ht.away c (by have:=X4.o.size;omega) h1 h2);obtain⟨hf,hs⟩:=uF.o rfl lV.o t (by rw[Kr.o]);have HL:=aa (fun w' (e:Ext w6 w')=>aa (Ai t w' (nt.o.ext e) hf hs));unfold bl at HL;clear ht hx hf hs uF xQ h9 n1 e0 e1 e2 e3 e4 n2 c0 c1 c2 c3;generalize hR:cj t=R at *;have Ta:=aa hR;clear hR;go_upto_region 7 with fail;refine bC ?_;intro W7 sG;have E7:ahg (Ext w6 W7):=aa (by rw[sG];exact(eR _).alloc _);have D7:ahg (av W7 w6.heap.size t):=aa (by rw[sG];exact av.new w6 t);clear sG;obtain⟨d0,d1,d2,d3,d4,d5⟩:=D7.o.cells;have d6:=D7.o.lt;go_wp2_with fail;refine(HL.o W7 E7.o).o.mono ?_;rintro e w9 ⟨rfl,hx⟩;have E9:=aa (E7.o.trans hx);have D9:=aa (D7.o.ext hx);have X9:=aa (X6.o.trans E9.o);clear hx HL d0 d1 d2 d3 d4 d5 d6 E7 D7;cases R
   ·skip
    have gv:=Qu.o w9 X9.o;have g0:=gv.v0;have g1:=gv.v1;have gl0:=gv.Qs;have gl1:=gv.Qt;have B4:=aa ((X9.o.heap (ae B3.o)).trans B3.o);obtain⟨z0,z1,z2,z3,z4,z5,iE,iF,iG,iH,um,uo⟩:=bn B4.o;have hz:=ae B4.o;have hng:1≠w.heap.size+1+1:=by omega
    have S9:w.heap.size+1+1≠1:=by omega
    have XF:=aa (bg (X0.o.trans X9.o) (by omega:w.heap.size≤w.heap.size+1+1) Tm.zero);clear gv;go_wp2
    go_region
    go_wp2;refine bodyPost_ret (v:=.tuple #[bl Tm.zero,qA a0 a1 2]) ?_ rfl ⟨⟨Tm.zero,2,rfl,⟨aM.zero _,fun c _ _ _=>eL c,.inr ⟨lV.o,by rw[HO.o];rfl,t,by rw[Kr.o,S8.o],.inr ⟨rfl,rfl,Ta.o⟩⟩⟩⟩,?_⟩
    ·simp[results,Tryz.f26,go_sem,z0,z1,z2,z3,z4,z5,qA];exact⟨rfl,rfl,rfl,⟨rfl,rfl,rfl⟩,⟨rfl,rfl,rfl⟩,rfl,rfl,rfl⟩
    ·exact XF.o.drew
   ·obtain⟨d0,d1,d2,d3,d4,d5⟩:=D9.o.cells;have d6:=D9.o.lt;have B4:=aa ((X9.o.heap (ae B3.o)).trans B3.o);obtain⟨z0,z1,z2,z3,z4,z5,iE,iF,iG,iH,um,uo⟩:=bn B4.o;have hz:=ae B4.o;have XF:=aa (bg (X0.o.trans X9.o) (by omega:w.heap.size≤w.heap.size+1+1) t);have HI:=aa ((nt.o.ext E9.o).grown (aZ w9 (w.heap.size+1+1) t) (fun c e=>by injection e with e;subst e;exact ou.o));go_wp2;refine bodyPost_ret (v:=.tuple #[bl t,qA a0 a1 0]) ?_ rfl ⟨⟨t,0,rfl,⟨HI.o,wJ.o,.inr ⟨lV.o,by rw[HO.o];rfl,t,by rw[Kr.o,S8.o],.inl ⟨rfl,rfl,Ta.o⟩⟩⟩⟩,XF.o⟩;simp[results,Tryz.f26,go_sem,z0,z1,z2,z3,z4,z5,qA]
 ·have hne:((preds.length:Int) != (given.length:Int))=true:=by simp;omega
  go_enter Tryz.func26,Tryz.ntmps26;go_upto_region 1 with fail;rw[HW.o];clear HW;have gv:=Qu.o W (eR W);have g0:=gv.v0;have g1:=gv.v1;have gl0:=gv.Qs;have gl1:=gv.Qt;have B4:=aa (((eR W).heap (ae B3.o)).trans B3.o);obtain⟨z0,z1,z2,z3,z4,z5,iE,iF,iG,iH,um,uo⟩:=bn B4.o;have hz:=ae B4.o;have hng:0≠w.heap.size+1+1:=by omega
  have S9:w.heap.size+1+1≠0:=by omega
  have XF:=aa (bg (X0.o.trans (eR W)) (by omega:w.heap.size≤w.heap.size+1+1) Tm.zero);clear gv;go_wp2
  go_region
  go_wp2;refine bodyPost_ret (v:=.tuple #[bl Tm.zero,qA a0 a1 1]) ?_ rfl ⟨⟨Tm.zero,1,rfl,⟨aM.zero _,fun c _ _ _=>eL c,.inl ⟨rfl,rfl,.inl hlen⟩⟩⟩,?_⟩
  ·simp[results,Tryz.f26,go_sem,z0,z1,z2,z3,z4,z5,qA];exact⟨rfl,rfl,rfl,⟨rfl,rfl,rfl⟩,⟨rfl,rfl,rfl⟩,rfl,rfl,rfl⟩
  ·exact XF.o.drew
set_option maxRecDepth 512
set_option maxHeartbeats 200000
structure dR where
 name:aj
 A:Option Addr
 cap:Nat
 sup:List aj
 Lj:Value
def dR.cells (c:dR):List Value:=[encStr c.name,.slice c.A c.sup.length c.cap,c.Lj]
def wX : fq dR:=⟨3,dR.cells,fun _=>rfl,by omega⟩
def dR.zero : dR:=⟨[],none,0,[],.slice none 0 0⟩
structure dP (w:World) (A:Option Addr) (l:List dR):Prop where
 row:ak wX w A l
 sup:∀c∈l,jh w c.A c.sup
 le:∀c∈l,c.sup.length≤c.cap∧c.cap≤9223372036854775807
section
variable {w w':World}{A:Option Addr}{l:List dR}
theorem dP.ext (h:dP w A l) (k:Ext w w'):dP w' A l:=⟨ak.ext wX h.row k,fun c hc=>(h.sup c hc).ext k,h.le⟩
theorem dP.at_ (h:dP w A l){i:Nat}(hi:i<l.length) :
  ∃b o,A=some ⟨b,o,none⟩∧b<w.heap.size∧w.cell? ⟨b,o+i*3,none⟩=some (.string ⟨(l[i]'hi).name.toArray⟩) ∧
   w.cell? ⟨b,o+i*3+1,none⟩=some (.slice (l[i]'hi).A (l[i]'hi).sup.length (l[i]'hi).cap)∧w.cell? ⟨b,o+i*3+2,none⟩=some (l[i]'hi).Lj:=by
 obtain⟨b,o,e,hb,hc⟩:=ak.at_ wX h.row hi;refine⟨b,o,e,hb,?_,?_,?_⟩
 ·have:=hc 0 (by decide);simpa [wX,dR.cells] using this
 ·have:=hc 1 (by decide);simpa [wX,dR.cells] using this
 ·have:=hc 2 (by decide);simpa [wX,dR.cells] using this
end
def names (l:List dR):List aj:=l.map (·.name)
theorem kN (l:List dR):(names l).length=l.length:=by simp[names]
theorem iT (l:List dR){i:Nat}(h:i<l.length):(names l).getD i []=(l[i]'h).name:=by simp[names,h]
def gT (l:List dR) (x:aj):Int:=gV (names l) x
set_option maxHeartbeats 1000000 in
theorem ki (A:Option Addr) (cap:Nat) (l:List dR) (x:aj) (w:World) (h:dP w A l) (hle:l.length≤9223372036854775807) :
  Calls Tryz.prog 136 #[.slice A l.length cap,encStr x] w fun e w'=>e=.returned (.int .i64 (gT l x))∧w'=w:=by
 have xM:=aa (fun k => @kz _ _ (names l) x [] k);have qR:=aa (kA (names l) x []);have Hr:=aa h;have Hn:ahg (∀i (h:i<l.length),(names l).getD i []=(l[i]'h).name):=aa (fun i h=>iT l h);have Hl:=aa (kN l);clear h;unfold gT;generalize gV (names l) x=R at *;go_enter Tryz.func136,Tryz.ntmps136;go_wp2
 go_loop [8] (fun i=>∃j:Nat,j≤l.length∧i=.int .i64 j∧ahg (∀i,i<j→((names l).getD i [] == x)=false)) (fun i=>l.length - (intOf i).toNat)
 case atStart=>exact⟨0,ahj _,rfl,aa (fun i hi=>absurd hi (by omega))⟩
 case round=>
  obtain⟨j,hj,rfl,Hj⟩:=hrel
  by_cases hlt:j<l.length
  ·obtain⟨b,o,rfl,hb,hc,hc1,hc2⟩:=Hr.o.at_ hlt;have aS:(j:Int)<(l.length:Int):=by omega
   have Hy:ahg ((names l).getD j []=(l[j]'hlt).name):=aa (Hn.o j hlt);generalize (l[j]'hlt).name=y at *;clear hc1 hc2;cases hs:(y == x)
   ·go_wp2
    go_round
    case rel=>
     refine⟨j+1,hlt,by go_num,aa (fun i hi => ?_)⟩
     by_cases AK:i=j
     ·rw[AK,Hy.o];exact hs
     ·exact Hj.o i (by omega)
    case measure=>simp[intOf];omega
   ·have hR:=xM.o j (by rw[Hl.o];exact hlt) Hj.o (by rw[Hy.o];exact hs);subst hR;go_wp2;go_ret;exact⟨rfl,rfl⟩
  ·have bU:(l.length:Int)≤(j:Int):=by omega
   have hR:=qR.o (fun i hi=>Hj.o i (by rw[Hl.o] at hi;omega));subst hR;go_wp2;go_ret;exact⟨rfl,rfl⟩
def kj (l:List dR) (x:aj):List aj:=match l.find? (·.name == x) with|some c=>c.sup|none=>[]
def lA (l:List dR) (out:List aj):Nat:=(l.map fun c=>if out.any (· == c.name) then 0 else c.sup.length).sum
def kO (l:List dR):Nat→List aj→List aj→List aj
 |0,out,_=>out
 |_+1,out,[]=>out
 |f+1,out,x :: todo=>if out.any (· == x) then kO l f out todo else kO l f (out++[x]) (todo++kj l x)
def OL (l:List dR) (x:aj):Nat:=(kj l x).length+lA l []
def y9 (l:List dR) (x:aj):List aj:=kO l (OL l x) [] (kj l x)
theorem za (l:List dR) (out:List aj) (x:aj):lA l (out++[x])≤lA l out:=by
 unfold lA
 induction l with
 |nil=>simp
 |cons c l ih=>
  simp only[List.map_cons,List.sum_cons];have:(if (out++[x]).any (· == c.name)=true then 0 else c.sup.length)≤(if out.any (· == c.name)=true then 0 else c.sup.length):=by
   rw[List.any_append];cases out.any (· == c.name)<;>simp
   split<;>omega
  omega
theorem CI (l:List dR) (out:List aj) (x:aj) (hx:out.any (· == x)=false):lA l (out++[x])+(kj l x).length≤lA l out:=by
 induction l with
 |nil=>simp[lA,kj]
 |cons c l ih=>
  unfold lA kj at ih ⊢;simp only[List.map_cons,List.sum_cons,List.find?_cons];cases hc:(c.name == x)
  ·have e:(out++[x]).any (· == c.name)=out.any (· == c.name):=by
    rw[List.any_append];have:(x == c.name)=false:=by
     rw[Bool.eq_false_iff] at hc ⊢;simp at hc ⊢;exact fun h=>hc h.symm
    simp[this]
   rw[e];dsimp only;omega
  ·have e:c.name=x:=by simpa using hc
   have h1:=za l out x;unfold lA at h1;rw[e,hx];simp;simp at h1;omega
inductive Up (l:List dR):aj→aj→Prop
 |one {x y}:y∈kj l x→Up l x y
 |step {x y z}:Up l x y→z∈kj l y→Up l x z
theorem Up.trans {l:List dR}{x y z:aj}(h:Up l x y) (k:Up l y z):Up l x z:=by
 induction k with
 |one h1=>exact .step h h1
 |step _ h1 ih=>exact .step ih h1
theorem jw (l:List aj) (x:aj):l.any (· == x)=true↔x∈l:=by simp
theorem zb (l:List aj) (x:aj):l.any (· == x)=false↔x∉l:=by rw[Bool.eq_false_iff];exact not_congr (jw l x)
theorem jx (l:List dR) (x:aj):∀(f:Nat) (out todo:List aj),todo.length+lA l out≤f→out.Nodup→(∀y∈out,Up l x y)→(∀y∈todo,Up l x y) →
  (∀y∈kj l x,y∈out∨y∈todo)→(∀y∈out,∀z∈kj l y,z∈out∨z∈todo) →
  (kO l f out todo).Nodup∧∀y,y∈kO l f out todo↔Up l x y
 |0,out,todo,hf,hn,h1,h2,h3,h4=>by
  have:todo=[]:=List.eq_nil_of_length_eq_zero (by omega);subst this;refine⟨hn,fun y=>⟨h1 y,fun hy => ?_⟩⟩;show y∈out
  induction hy with
  |one hh=>simpa using h3 _ hh
  |step _ hh ih=>simpa using h4 _ ih _ hh
 |f+1,out,[],hf,hn,h1,h2,h3,h4=>by
  refine⟨hn,fun y=>⟨h1 y,fun hy => ?_⟩⟩;show y∈out
  induction hy with
  |one hh=>simpa using h3 _ hh
  |step _ hh ih=>simpa using h4 _ ih _ hh
 |f+1,out,y :: todo,hf,hn,h1,h2,h3,h4=>by
  simp only[ahy] at hf;unfold kO;cases ho:out.any (· == y)
  ·simp only[Bool.false_eq_true,↓reduceIte];have hy:=(zb out y).1 ho;have hu:=h2 y (by simp);have:=CI l out y ho;refine jx l x f _ _ (by rw[ahn];omega) ?_ ?_ ?_ ?_ ?_
   ·exact List.nodup_append.2 ⟨hn,by simp,fun a ha b hb e=>by simp at hb;subst hb;subst e;exact hy ha⟩
   ·intro z hz
    rcases List.mem_append.1 hz with hz|hz
    ·exact h1 z hz
    ·simp at hz;subst hz;exact hu
   ·intro z hz
    rcases List.mem_append.1 hz with hz|hz
    ·exact h2 z (by simp[hz])
    ·exact hu.step hz
   ·intro z hz
    rcases h3 z hz with h|h
    ·exact .inl (by simp[h])
    ·rcases List.mem_cons.1 h with rfl|h
     ·exact .inl (by simp)
     ·exact .inr (by simp[h])
   ·intro z hz u Vs
    rcases List.mem_append.1 hz with hz|hz
    ·rcases h4 z hz u Vs with h|h
     ·exact .inl (by simp[h])
     ·rcases List.mem_cons.1 h with rfl|h
      ·exact .inl (by simp)
      ·exact .inr (by simp[h])
    ·simp at hz;subst hz;exact .inr (by simp[Vs])
  ·simp only[↓reduceIte];have hy:=(jw out y).1 ho;refine jx l x f _ _ (by omega) hn h1 (fun z hz=>h2 z (by simp[hz])) ?_ ?_
   ·intro z hz
    rcases h3 z hz with h|h
    ·exact .inl h
    ·rcases List.mem_cons.1 h with rfl|h
     ·exact .inl hy
     ·exact .inr h
   ·intro z hz u Vs
    rcases h4 z hz u Vs with h|h
    ·exact .inl h
    ·rcases List.mem_cons.1 h with rfl|h
     ·exact .inl hy
     ·exact .inr h
theorem wY (l:List dR) (x:aj):(y9 l x).Nodup∧∀y,y∈y9 l x↔Up l x y:=
 jx l x _ _ _ (ahi _) List.nodup_nil (by simp) (fun y hy=>.one hy) (fun y hy=>.inr hy) (by simp)
def fU (p:Nat→Bool) (n:Nat):Option Nat:=(List.range n).find? p
theorem nD (p:Nat→Bool):∀n k,k<n→(∀j,j<k→p j=false)→p k=true→fU p n=some k:=by
 intro n k hk h1 h2;unfold fU;rw[List.find?_eq_some_iff_append];refine⟨h2,List.range k,(List.range' (k+1) (n - k - 1)),?_,?_⟩
 ·rw[List.range_eq_range',List.range_eq_range'];have:List.range' 0 n=List.range' 0 k++List.range' (0+1*k) (n - k):=by
   rw[List.range'_append];congr 1;omega
  rw[this,show n - k=(n - k - 1)+1 by omega,List.range'_succ];simp
 ·intro j hj;simp at hj;simp[h1 j hj]
theorem cU (p:Nat→Bool) (n:Nat) (h:∀j,j<n→p j=false):fU p n=none:=by
 unfold fU;rw[List.find?_eq_none];intro j hj;simp at hj;simp[h j hj]
theorem jy {p:Nat→Bool}{n:Nat}(h:fU p n=none):∀j,j<n→p j=false:=by
 intro j hj;unfold fU at h;rw[List.find?_eq_none] at h;have:=h j (by simpa using hj);simpa using this
theorem iU (l:List dR) (x:aj):(gT l x = -1∧kj l x=[]∧x∉names l)∨∃k,∃h:k<l.length,gT l x=(k:Int)∧kj l x=(l[k]'h).sup∧(l[k]'h).name=x:=by
 cases hf:l.find? (·.name == x) with
 |none=>
  left
  rw[List.find?_eq_none] at hf;refine⟨?_,by unfold kj;rw[List.find?_eq_none.2 hf],?_⟩
  ·refine kA (names l) x [] fun j hj => ?_
   have hj':j<l.length:=by rw[kN] at hj;exact hj
   rw[iT l hj'];have:=hf _ (ahh hj');simpa using this
  ·intro hm;obtain⟨c,hc,e⟩:=List.mem_map.1 hm;have:=hf c hc;simp[e] at this
 |some c=>
  right
  obtain⟨hp,k,hk,e,hall⟩:=List.find?_eq_some_iff_getElem.1 hf;refine⟨k,hk,?_,by unfold kj;rw[hf,e],by rw[e];simpa using hp⟩;refine kz (names l) x [] (by rw[kN];exact hk) (fun j hj => ?_) ?_
  ·have hj':j<l.length:=by omega
   rw[iT l hj'];have:=hall j hj;simpa using this
  ·rw[iT l hk,e];exact hp
section
variable (succ : Nat→List Nat)
def fp : Nat→List Nat→Option Nat
 |a,[]=>some a
 |a,k :: p=>match (succ a)[k]? with|some b=>fp b p|none=>none
def Sl (p q:List Nat):Prop:=p.length<q.length∨(p.length=q.length∧p<q)
def cP (a c:Nat) (p:List Nat):Prop:=fp succ a p=some c∧∀q,fp succ a q=some c→p=q∨Sl p q
theorem nV : ∀(p q:List Nat) (a:Nat),fp succ a (p++q)=(fp succ a p).bind fun b=>fp succ b q
 | [],q,a=>rfl
 |k :: p,q,a=>by
  simp only[List.cons_append,fp];cases(succ a)[k]? with
  |none=>rfl
  |some b=>exact nV p q b
theorem kP (p:List Nat) (k a c:Nat):fp succ a (p++[k])=some c↔∃b,fp succ a p=some b∧(succ b)[k]?=some c:=by
 rw[nV,Option.bind_eq_some_iff]
 constructor
 ·rintro⟨b,h1,h2⟩;refine⟨b,h1,?_⟩;simp only[fp] at h2
  split at h2
  ·rename_i d hd;rw[hd];exact h2
  ·cases h2
 ·rintro⟨b,h1,h2⟩;exact⟨b,h1,by simp[fp,h2]⟩
end
theorem lW (p:List Nat):¬p<p:=List.lt_irrefl p
theorem CJ {a b c:List Nat}(h:a<b) (k:b<c):a<c:=List.lt_trans h k
theorem CK (a b:List Nat):a<b∨a=b∨b<a:=by
 by_cases h:a<b
 ·exact .inl h
 ·by_cases k:b<a
  ·exact .inr (.inr k)
  ·exact .inr (.inl (List.le_antisymm (List.not_lt.1 k) (List.not_lt.1 h)))
theorem Sl.irrefl (p:List Nat):¬Sl p p:=by
 rintro (h|⟨_,h⟩)
 ·omega
 ·exact lW p h
theorem Sl.trans {a b c:List Nat}(h:Sl a b) (k:Sl b c):Sl a c:=by
 rcases h with h|⟨h1,h2⟩<;>rcases k with k|⟨k1,k2⟩
 ·exact .inl (by omega)
 ·exact .inl (by omega)
 ·exact .inl (by omega)
 ·exact .inr ⟨by omega,CJ h2 k2⟩
theorem Sl.total (a b:List Nat):Sl a b∨a=b∨Sl b a:=by
 unfold Sl
 rcases Nat.lt_trichotomy a.length b.length with h|h|h
 ·exact .inl (.inl h)
 ·rcases CK a b with k|k|k
  ·exact .inl (.inr ⟨h,k⟩)
  ·exact .inr (.inl k)
  ·exact .inr (.inr (.inr ⟨h.symm,k⟩))
 ·exact .inr (.inr (.inl h))
theorem GC : ∀ {p q:List Nat},p.length=q.length→p<q→∀(r s:List Nat),p++r<q++s
 | [],[],_,h,_,_=>absurd h (lW _)
 |a :: p,b :: q,hl,h,r,s=>by
  simp only[List.cons_append,List.cons_lt_cons_iff] at h ⊢
  rcases h with h|⟨h1,h2⟩
  ·exact .inl h
  ·exact .inr ⟨h1,GC (by simpa using hl) h2 r s⟩
theorem Sl.Tb {p q:List Nat}(h:Sl p q) (j k:Nat):Sl (p++[j]) (q++[k]):=by
 rcases h with h|⟨h1,h2⟩
 ·exact .inl (by simp;omega)
 ·exact .inr ⟨by simp[h1],GC h1 h2 _ _⟩
theorem Sl.snoc (p:List Nat) (k:Nat):Sl p (p++[k]):=.inl (by simp)
theorem GD : ∀(p:List Nat){j k:Nat},j<k→p++[j]<p++[k]
 | [],j,k,h=>by simp[List.cons_lt_cons_iff,h]
 |a :: p,j,k,h=>by
  simp only[List.cons_append,List.cons_lt_cons_iff];exact .inr ⟨trivial,GD p h⟩
section
variable {succ : Nat→List Nat}{a c:Nat}{p q:List Nat}
theorem cP.unique (h:cP succ a c p) (k:cP succ a c q):p=q:=by
 rcases h.2 q k.1 with h1|h1
 ·exact h1
 ·rcases k.2 p h.1 with h2|h2
  ·exact h2.symm
  ·exact absurd (h1.trans h2) (Sl.irrefl p)
theorem cP.front {k:Nat}(h:cP succ a c (p++[k])):∃b,cP succ a b p∧(succ b)[k]?=some c:=by
 obtain⟨b,h1,h2⟩:=(kP succ p k a c).1 h.1;refine⟨b,⟨h1,fun q hq => ?_⟩,h2⟩
 rcases Sl.total p q with h3|h3|h3
 ·exact .inr h3
 ·exact .inl h3
 ·have h4:=h.2 (q++[k]) ((kP succ q k a c).2 ⟨b,hq,h2⟩);have h5:=h3.Tb k k
  rcases h4 with h4|h4
  ·rw[h4] at h5;exact absurd h5 (Sl.irrefl _)
  ·exact absurd (h4.trans h5) (Sl.irrefl _)
theorem cP.take : ∀(r p:List Nat) (c:Nat),cP succ a c (p++r)→∃b,cP succ a b p
 | [],p,c,h=>⟨c,by simpa using h⟩
 |k :: r,p,c,h=>by
  have h':cP succ a c ((p++[k])++r):=by simpa using h
  obtain⟨b,hb⟩:=cP.take r (p++[k]) c h';obtain⟨b',hb',_⟩:=hb.front;exact⟨b',hb'⟩
end
section
variable (succ : Nat→List Nat)
def km (b:Nat):Nat→Nat→Option (List Nat)
 |0,a=>if a=b then some [] else none
 |n+1,a=>(succ a).zipIdx.findSome? fun x=>(km b n x.1).map (x.2 :: ·)
theorem mW {β:Type}(f:Nat×Nat→Option β):∀(l:List Nat) (i:Nat),
  (∀r,(l.zipIdx i).findSome? f=some r→∃k x,l[k]?=some x∧f (x,i+k)=some r∧∀j y,j<k→l[j]?=some y→f (y,i+j)=none) ∧
  ((l.zipIdx i).findSome? f=none→∀k x,l[k]?=some x→f (x,i+k)=none)
 | [],i=>⟨fun r h=>by simp at h,fun _ k x h=>by simp at h⟩
 |y :: l,i=>by
  obtain⟨h1,h2⟩:=mW f l (i+1);simp only[List.zipIdx_cons,List.findSome?_cons];cases hy:f (y,i) with
  |some r0=>
   refine⟨fun r h => ?_,fun h=>by cases h⟩;injection h with h;subst h;exact⟨0,y,rfl,hy,fun j _ hj=>absurd hj (by omega)⟩
  |none=>
   refine⟨fun r h => ?_,fun h k x hk => ?_⟩
   ·obtain⟨k,x,e1,e2,e3⟩:=h1 r h;refine⟨k+1,x,by simpa using e1,by rw[←e2];congr 2;omega,fun j z hj hz => ?_⟩
    rcases j with _|j
    ·simp at hz;subst hz;exact hy
    ·have:=e3 j z (by omega) (by simpa using hz);rw[←this];congr 2;omega
   ·rcases k with _|k
    ·simp at hk;subst hk;exact hy
    ·have:=h2 h k x (by simpa using hk);rw[←this];congr 2;omega
theorem gJ (b:Nat):∀(n a:Nat),(∀p,km succ b n a=some p→p.length=n∧fp succ a p=some b∧∀q,q.length=n→fp succ a q=some b→p=q∨p<q) ∧
  (km succ b n a=none→∀q,q.length=n→fp succ a q≠some b)
 |0,a=>by
  constructor
  ·intro p h;simp only[km] at h
   split at h
   ·rename_i hab
    injection h with h;subst h hab;exact⟨rfl,rfl,fun q hq _=>.inl (List.eq_nil_of_length_eq_zero hq).symm⟩
   ·cases h
  ·intro h q hq;simp only[km] at h
   split at h
   ·cases h
   ·rename_i hab
    rw[List.eq_nil_of_length_eq_zero hq];simp only[fp];intro e;injection e with e;exact hab e
 |n+1,a=>by
  have ih:=fun x=>gJ b n x
  obtain⟨h1,h2⟩:=mW (fun x:Nat×Nat=>(km succ b n x.1).map (x.2 :: ·)) (succ a) 0
  constructor
  ·intro p h;obtain⟨k,x,e1,e2,e3⟩:=h1 p h;simp only[Nat.zero_add,Option.map_eq_some_iff] at e2;obtain⟨r,e2,rfl⟩:=e2;obtain⟨i1,i2,i3⟩:=(ih x).1 r e2;refine⟨by simp[i1],by simp[fp,e1,i2],fun q hq he => ?_⟩
   rcases q with _|⟨j,q⟩
   ·simp at hq
   ·simp only[fp] at he
    split at he
    ·rename_i y hy
     have hq':q.length=n:=by simpa using hq
     rcases Nat.lt_trichotomy k j with hkj|hkj|hkj
     ·exact .inr (by rw[List.cons_lt_cons_iff];exact .inl hkj)
     ·subst hkj;rw[e1] at hy;injection hy with hy;subst hy
      rcases i3 q hq' he with i4|i4
      ·exact .inl (by rw[i4])
      ·exact .inr (by rw[List.cons_lt_cons_iff];exact .inr ⟨rfl,i4⟩)
     ·have:=e3 j y hkj hy;simp only[Nat.zero_add,Option.map_eq_none_iff] at this;exact absurd he ((ih y).2 this q hq')
    ·cases he
  ·intro h q hq he
   rcases q with _|⟨j,q⟩
   ·simp at hq
   ·simp only[fp] at he
    split at he
    ·rename_i y hy
     have:=h2 h j y hy;simp only[Nat.zero_add,Option.map_eq_none_iff] at this;exact(ih y).2 this q (by simpa using hq) he
    ·cases he
def kn (a b:Nat) (N:Nat):Option (List Nat):=(List.range N).findSome? fun n=>km succ b n a
theorem least_some {a c:Nat}{q:List Nat}(h:fp succ a q=some c):∃p,cP succ a c p:=by
 have key:∀n,(∃q,q.length≤n∧fp succ a q=some c)→∃p,cP succ a c p:=by
  intro n
  induction n with
  |zero=>
   rintro⟨q,hq,he⟩;have:q=[]:=List.eq_nil_of_length_eq_zero (by omega);subst this;refine⟨[],he,fun r _ => ?_⟩
   rcases r with _|⟨k,r⟩
   ·exact .inl rfl
   ·exact .inr (.inl (by simp))
  |succ n ih=>
   intro hex
   by_cases hs:∃q,q.length≤n∧fp succ a q=some c
   ·exact ih hs
   ·obtain⟨q,hq,he⟩:=hex;have hqn:q.length=n+1:=by
     rcases Nat.lt_or_ge q.length (n+1) with h1|h1
     ·exact absurd ⟨q,by omega,he⟩ hs
     ·omega
    have Sn:∀r,fp succ a r=some c→n+1≤r.length:=by
     intro r hr
     rcases Nat.lt_or_ge r.length (n+1) with h1|h1
     ·exact absurd ⟨r,by omega,hr⟩ hs
     ·exact h1
    obtain⟨s1,s2⟩:=gJ succ c (n+1) a;cases hp:km succ c (n+1) a with
    |none=>exact absurd he (s2 hp q hqn)
    |some p=>
     obtain⟨p1,p2,p3⟩:=s1 p hp;refine⟨p,p2,fun r hr => ?_⟩
     rcases Nat.lt_or_ge (n+1) r.length with h1|h1
     ·exact .inr (.inl (by omega))
     ·have:=Sn r hr
      rcases p3 r (by omega) hr with h2|h2
      ·exact .inl h2
      ·exact .inr (.inr ⟨by omega,h2⟩)
 exact key q.length ⟨q,ahi _,h⟩
theorem gK {β:Type}(f:Nat→Option β):∀N,(∀r,(List.range N).findSome? f=some r→∃n,n<N∧f n=some r∧∀m,m<n→f m=none)∧((List.range N).findSome? f=none→∀n,n<N→f n=none)
 |0=>⟨fun r h=>by simp at h,fun _ n h=>absurd h (by omega)⟩
 |N+1=>by
  obtain⟨h1,h2⟩:=gK f N;rw[List.range_succ,List.findSome?_append];cases hN:(List.range N).findSome? f with
  |some r0=>
   refine⟨fun r h => ?_,fun h=>by simp at h⟩;simp at h;subst h;obtain⟨n,g1,g2,g3⟩:=h1 r0 hN;exact⟨n,by omega,g2,g3⟩
  |none=>
   have h3:=h2 hN;refine⟨fun r h => ?_,fun h n hn => ?_⟩
   ·simp at h;exact⟨N,by omega,h,h3⟩
   ·simp at h
    rcases Nat.lt_or_ge n N with g|g
    ·exact h3 n g
    ·rw[show n=N by omega];exact h
theorem qC {a b N:Nat}{p:List Nat}(h:kn succ a b N=some p):cP succ a b p:=by
 obtain⟨n,_,h2,h3⟩:=(gK _ N).1 p h;obtain⟨i1,i2,i3⟩:=(gJ succ b n a).1 p h2;refine⟨i2,fun q hq => ?_⟩
 rcases Nat.lt_trichotomy q.length n with g|g|g
 ·exact absurd hq ((gJ succ b q.length a).2 (h3 _ g) q rfl)
 ·rcases i3 q g hq with i4|i4
  ·exact .inl i4
  ·exact .inr (.inr ⟨by omega,i4⟩)
 ·exact .inr (.inl (by omega))
theorem rM {a b N:Nat}(h:kn succ a b N=none){q:List Nat}(hq:fp succ a q=some b):N≤q.length:=by
 rcases Nat.lt_or_ge q.length N with g|g
 ·exact absurd hq ((gJ succ b q.length a).2 ((gK _ N).2 h _ g) q rfl)
 ·exact g
end
theorem GG : ∀(n:Nat) (l:List Nat),l.Nodup→(∀x∈l,x<n)→l.length≤n
 |0,[],_,_=>by simp
 |0,x :: l,_,h=>absurd (h x (by simp)) (by omega)
 |n+1,l,hd,h=>by
  have h1:=GG n (l.erase n) (hd.erase n) (fun x hx=>by
   have h2:=(List.Nodup.mem_erase_iff hd).1 hx;have:=h x h2.2;have:=h2.1;omega)
  rw[List.length_erase] at h1
  split at h1<;>omega
theorem cP.short {succ:Nat→List Nat}{a c N:Nat}{p:List Nat}(ha:a<N) (hs:∀x,x<N→∀y∈succ x,y<N) (h:cP succ a c p):p.length<N:=by
 have hend:∀(q:List Nat) (x y:Nat),x<N→fp succ x q=some y→y<N:=by
  intro q
  induction q with
  |nil=>intro x y hx he;simp only[fp,Option.some.injEq] at he;omega
  |cons k q ih=>
   intro x y hx he;simp only[fp] at he
   split at he
   ·rename_i z hz
    exact ih z y (hs x hx z (List.mem_of_getElem? hz)) he
   ·cases he
 have hl:∀i,∃b,i≤p.length→cP succ a b (p.take i):=by
  intro i
  by_cases hi:i≤p.length
  ·have h':cP succ a c (p.take i++p.drop i):=by rw[List.take_append_drop];exact h
   obtain⟨b,hb⟩:=cP.take _ _ _ h';exact⟨b,fun _=>hb⟩
  ·exact⟨0,fun h=>absurd h hi⟩
 have hf:∀n,n≤p.length+1→∃l:List Nat,l.length=n∧l.Nodup∧(∀x∈l,x<N)∧∀x∈l,∃i,i<n∧cP succ a x (p.take i):=by
  intro n
  induction n with
  |zero=>exact fun _=>⟨[],rfl,List.nodup_nil,by simp,by simp⟩
  |succ n ih=>
   intro hn;obtain⟨l,l1,l2,l3,l4⟩:=ih (by omega);obtain⟨b,hb⟩:=hl n;have hb:=hb (by omega);refine⟨b :: l,by simp[l1],List.nodup_cons.2 ⟨fun hbl => ?_,l2⟩,?_,?_⟩
   ·obtain⟨i,hi,Yr⟩:=l4 b hbl;have:=congrArg List.length (hb.unique Yr);simp at this;omega
   ·intro x hx
    rcases List.mem_cons.1 hx with rfl|hx
    ·exact hend _ a _ ha hb.1
    ·exact l3 x hx
   ·intro x hx
    rcases List.mem_cons.1 hx with rfl|hx
    ·exact⟨n,by omega,hb⟩
    ·obtain⟨i,hi,Yr⟩:=l4 x hx;exact⟨i,by omega,Yr⟩
 obtain⟨l,l1,l2,l3,_⟩:=hf (p.length+1) (ahi _);have:=GG N l l2 l3;omega
section
variable (succ : Nat→List Nat) (b:Nat)
def outs (x:Nat) (p:List Nat):List (Nat×List Nat):=(succ x).zipIdx.map fun y=>(y.1,p++[y.2])
def fN : Nat→(Nat→Bool)→List (Nat×List Nat)→Option (List Nat)
 |0,_,_=>none
 |_+1,_,[]=>none
 |f+1,seen,(x,p) :: todo=>if x=b then some p else if seen x then fN f seen todo else fN f (fun j=>j == x||seen j) (todo++outs succ x p)
def fg (seen:Nat→Bool) (N:Nat):Nat:=((List.range N).map fun j=>if seen j then 0 else(succ j).length).sum
theorem qD {seen GH:Nat→Bool}:∀N,(∀j,j<N→GH j=seen j)→fg succ GH N=fg succ seen N
 |0,_=>rfl
 |N+1,h=>by
  have ih:=qD N (fun j hj=>h j (by omega));unfold fg at ih ⊢;rw[List.range_succ,ahz,ahz,List.sum_append,List.sum_append,ih];simp[h N (by omega)]
theorem nG {seen:Nat→Bool}{x:Nat}(hx:seen x=false):∀N,x<N→fg succ (fun j=>j == x||seen j) N+(succ x).length=fg succ seen N
 |0,h=>absurd h (by omega)
 |N+1,h=>by
  by_cases e:x=N
  ·subst e;have ih:=qD succ (seen:=seen) (GH:=fun j=>j == x||seen j) x (fun j hj=>by
    have:(j == x)=false:=by simp;omega
    simp[this])
   unfold fg at ih ⊢;rw[List.range_succ,ahz,ahz,List.sum_append,List.sum_append,ih];simp[hx]
  ·have ih:=nG hx N (by omega);have hN:¬N=x:=fun h=>e h.symm
   unfold fg at ih ⊢;rw[List.range_succ,ahz,ahz,List.sum_append,List.sum_append,←ih];simp[hN];omega
end
structure Bi (succ:Nat→List Nat) (a b:Nat) (seen:Nat→Bool) (todo:List (Nat×List Nat)):Prop where
 v:∀q∈todo,fp succ a q.2=some q.1
 s:todo.Pairwise fun p q=>Sl p.2 q.2
 d:∀q∈todo,q.2≠[]→∀p∈todo,Sl q.2.dropLast p.2
 u:∀c p,cP succ a c p→seen c=false→∃q∈todo,q.2 <+: p
 n:∀c p,cP succ a c p→seen c=true→∀q∈todo,Sl p q.2
 b:seen b=false
theorem CL {p q:List Nat}(h:p <+: q):p=q∨Sl p q:=by
 obtain⟨r,rfl⟩:=h
 rcases r with _|⟨k,r⟩
 ·exact .inl (by simp)
 ·exact .inr (.inl (by simp))
section
variable {succ : Nat→List Nat}{a b:Nat}{seen:Nat→Bool}{x:Nat}{p:List Nat}{todo:List (Nat×List Nat)}
theorem gL {q:Nat×List Nat}:q∈outs succ x p↔∃k,(succ x)[k]?=some q.1∧q.2=p++[k]:=by
 unfold outs;rw[List.mem_map]
 constructor
 ·rintro⟨⟨y,k⟩,h,rfl⟩;exact⟨k,by simpa [List.mem_zipIdx_iff_getElem?] using h,rfl⟩
 ·rintro⟨k,h1,h2⟩;exact⟨(q.1,k),by simpa [List.mem_zipIdx_iff_getElem?] using h1,by rw[←h2]⟩
theorem wZ : (outs succ x p).Pairwise fun p q=>Sl p.2 q.2:=by
 unfold outs;rw[List.pairwise_map];have:∀(l:List Nat) (i:Nat),(l.zipIdx i).Pairwise fun y z=>y.2<z.2:=by
  intro l
  induction l with
  |nil=>intro i;simp
  |cons y l ih=>
   intro i;rw[List.zipIdx_cons,List.pairwise_cons];refine⟨fun z hz => ?_,ih (i+1)⟩;have:=List.le_snd_of_mem_zipIdx hz;simp only;omega
 exact(this (succ x) 0).imp fun {y z} h=>.inr ⟨by simp,GD p h⟩
theorem Bi.head (h:Bi succ a b seen ((x,p) :: todo)) (hx:seen x=false):cP succ a x p:=by
 obtain⟨m,hm⟩:=least_some (succ:=succ) (h.v (x,p) (by simp));obtain⟨q,hq,kg⟩:=h.u x m hm hx;have h1:p=q.2∨Sl p q.2:=by
  rcases List.mem_cons.1 hq with rfl|hq
  ·exact .inl rfl
  ·exact .inr ((List.pairwise_cons.1 h.s).1 q hq)
 have h2:=CL kg;have h3:=hm.2 p (h.v (x,p) (by simp));have h4:p=m:=by
  rcases h3 with h3|h3
  ·exact h3.symm
  ·have h5:p=m∨Sl p m:=by
    rcases h1 with h1|h1<;>rcases h2 with h2|h2
    ·exact .inl (h1.trans h2)
    ·exact .inr (by rw[h1];exact h2)
    ·exact .inr (by rw[←h2];exact h1)
    ·exact .inr (h1.trans h2)
   rcases h5 with h5|h5
   ·exact h5
   ·exact absurd (h5.trans h3) (Sl.irrefl p)
 rw[h4];exact hm
theorem Bi.skip (h:Bi succ a b seen ((x,p) :: todo)) (hx:seen x=true):Bi succ a b seen todo where
 v q hq:=h.v q (by simp[hq])
 s:=(List.pairwise_cons.1 h.s).2
 d q hq hn r hr:=h.d q (by simp[hq]) hn r (by simp[hr])
 n c r hr hc q hq:=h.n c r hr hc q (by simp[hq])
 b:=h.b
 u c r hr hc:=by
  obtain⟨q,hq,kg⟩:=h.u c r hr hc
  rcases List.mem_cons.1 hq with rfl|hq
  ·obtain⟨t,rfl⟩:=kg;obtain⟨y,hy⟩:=cP.take t p c hr;have hv:=h.v (x,p) (by simp);have e:y=x:=by have:=hy.1;rw[hv] at this;injection this with this;exact this.symm
   subst e;exact absurd (h.n y p hy hx (y,p) (by simp)) (Sl.irrefl p)
  ·exact⟨q,hq,kg⟩
theorem Bi.step (h:Bi succ a b seen ((x,p) :: todo)) (hx:seen x=false) (hb:x≠b):Bi succ a b (fun j=>j == x||seen j) (todo++outs succ x p):=by
 have hl:=h.head hx;obtain⟨s1,s2⟩:=List.pairwise_cons.1 h.s;have hne:∀q∈todo,q.2≠[]:=by
  intro q hq e
  rcases s1 q hq with h1|⟨h1,h2⟩
  ·rw[e] at h1;simp at h1
  ·rw[e] at h1 h2;have:p=[]:=List.eq_nil_of_length_eq_zero h1;simp only[this] at h2;exact lW _ h2
 have hout:∀q∈todo,∀k,Sl q.2 (p++[k]):=by
  intro q hq k;have h1:=h.d q (by simp[hq]) (hne q hq) (x,p) (by simp);have h2:=h1.Tb (q.2.getLast (hne q hq)) k
  rwa [List.dropLast_concat_getLast] at h2
 constructor
 ·intro q hq
  rcases List.mem_append.1 hq with hq|hq
  ·exact h.v q (by simp[hq])
  ·obtain⟨k,h1,h2⟩:=gL.1 hq;rw[h2];exact(kP succ p k a q.1).2 ⟨x,h.v (x,p) (by simp),h1⟩
 ·refine List.pairwise_append.2 ⟨s2,wZ,fun q hq r hr => ?_⟩;obtain⟨k,_,h2⟩:=gL.1 hr;rw[h2];exact hout q hq k
 ·intro q hq hn r hr;have hd:Sl q.2.dropLast p∨q.2.dropLast=p:=by
   rcases List.mem_append.1 hq with hq|hq
   ·exact .inl (h.d q (by simp[hq]) hn (x,p) (by simp))
   ·obtain⟨k,_,h2⟩:=gL.1 hq;exact .inr (by rw[h2];simp)
  have F6:Sl p r.2:=by
   rcases List.mem_append.1 hr with hr|hr
   ·exact s1 r hr
   ·obtain⟨k,_,h2⟩:=gL.1 hr;rw[h2];exact Sl.snoc p k
  rcases hd with hd|hd
  ·exact hd.trans F6
  ·rw[hd];exact F6
 ·intro c r hr hc;simp only[Bool.or_eq_false_iff,beq_eq_false_iff_ne] at hc;obtain⟨hcx,hc⟩:=hc;obtain⟨q,hq,kg⟩:=h.u c r hr hc
  rcases List.mem_cons.1 hq with rfl|hq
  ·obtain⟨t,rfl⟩:=kg
   rcases t with _|⟨k,t⟩
   ·have h1:=hr.1;have h2:=h.v (x,p) (by simp);simp only[List.append_nil] at h1;rw[h1] at h2;injection h2 with h2;exact absurd h2 hcx
   ·have F6:cP succ a c ((p++[k])++t):=by simpa using hr
    obtain⟨y,hy⟩:=cP.take t (p++[k]) c F6;obtain⟨z,hz1,hz2⟩:=(kP succ p k a y).1 hy.1;have h2:=h.v (x,p) (by simp);rw[hz1] at h2;injection h2 with h2;subst h2;exact⟨(y,p++[k]),List.mem_append.2 (.inr (gL.2 ⟨k,hz2,rfl⟩)),⟨t,by simp⟩⟩
  ·exact⟨q,List.mem_append.2 (.inl hq),kg⟩
 ·intro c r hr hc q hq;have Tc:r=p∨Sl r p:=by
   by_cases e:c=x
   ·subst e;exact .inl (hr.unique hl)
   ·have:(c == x)=false:=by simp[e]
    simp only[this,Bool.false_or] at hc;exact .inr (h.n c r hr hc (x,p) (by simp))
  have F6:Sl p q.2:=by
   rcases List.mem_append.1 hq with hq|hq
   ·exact s1 q hq
   ·obtain⟨k,_,h2⟩:=gL.1 hq;rw[h2];exact Sl.snoc p k
  rcases Tc with Tc|Tc
  ·rw[Tc];exact F6
  ·exact Tc.trans F6
 ·have:(b == x)=false:=by simp;exact fun e=>hb e.symm
  simp[this,h.b]
theorem qE {N:Nat}(hs:∀x,x<N→∀y∈succ x,y<N):∀(f:Nat) (seen:Nat→Bool) (todo:List (Nat×List Nat)),Bi succ a b seen todo→(∀q∈todo,q.1<N)→todo.length+fg succ seen N≤f →
  (∀p,fN succ b f seen todo=some p→cP succ a b p)∧(fN succ b f seen todo=none→∀q,fp succ a q≠some b)
 |0,seen,todo,h,hv,hf=>by
  have:todo=[]:=List.eq_nil_of_length_eq_zero (by omega);subst this;refine⟨fun p hp=>by simp[fN] at hp,fun _ q hq => ?_⟩;obtain⟨m,hm⟩:=least_some (succ:=succ) hq;obtain⟨_,h1,_⟩:=h.u b m hm h.b;cases h1
 |f+1,seen,[],h,hv,hf=>by
  refine⟨fun p hp=>by simp[fN] at hp,fun _ q hq => ?_⟩;obtain⟨m,hm⟩:=least_some (succ:=succ) hq;obtain⟨_,h1,_⟩:=h.u b m hm h.b;cases h1
 |f+1,seen,(x,p) :: todo,h,hv,hf=>by
  have hxN:x<N:=hv (x,p) (by simp);simp only[ahy] at hf;unfold fN
  by_cases Ys:x=b
  ·subst Ys;simp only[↓reduceIte];refine⟨fun p' hp => ?_,fun hn=>by cases hn⟩;injection hp with hp;subst hp;exact h.head h.b
  ·rw[if_neg Ys];cases hx:seen x
   ·simp only[Bool.false_eq_true,↓reduceIte];refine qE hs f _ _ (h.step hx Ys) (fun q hq => ?_) ?_
    ·rcases List.mem_append.1 hq with hq|hq
     ·exact hv q (by simp[hq])
     ·obtain⟨k,h1,_⟩:=gL.1 hq;exact hs x hxN _ (List.mem_of_getElem? h1)
    ·have:=nG succ hx N hxN;rw[ahn];have:(outs succ x p).length=(succ x).length:=by simp[outs]
     omega
   ·simp only[↓reduceIte];exact qE hs f _ _ (h.skip hx) (fun q hq=>hv q (by simp[hq])) (by omega)
end
theorem Bi.start (succ:Nat→List Nat) (a b:Nat):Bi succ a b (fun _=>false) [(a,[])] where
 v q hq:=by simp at hq;subst hq;rfl
 s:=by simp
 d q hq hn:=by simp at hq;subst hq;exact absurd rfl hn
 u c p _ _:=⟨(a,[]),by simp,by simp⟩
 n c p _ hc:=by cases hc
 b:=rfl
theorem GI {succ:Nat→List Nat}{a b N f:Nat}(hs:∀x,x<N→∀y∈succ x,y<N) (ha:a<N) (hf:1+fg succ (fun _=>false) N≤f) :
  fN succ b f (fun _=>false) [(a,[])]=kn succ a b N:=by
 obtain⟨h1,h2⟩:=qE hs f _ _ (Bi.start succ a b) (by simpa using ha) (by simpa using hf);cases hp:kn succ a b N with
 |some p=>
  have hl:=qC succ hp;cases hb:fN succ b f (fun _=>false) [(a,[])] with
  |some q=>rw[(h1 q hb).unique hl]
  |none=>exact absurd hl.1 (h2 hb p)
 |none=>
  cases hb:fN succ b f (fun _=>false) [(a,[])] with
  |some q=>
   have h3:=rM succ hp (h1 q hb).1;have h4:=(h1 q hb).short ha hs;omega
  |none=>rfl
structure Edge where
 a:Int
 b:Int
def iV : fq Edge:=⟨2,fun e=>[.int .i64 e.a,.int .i64 e.b],fun _=>rfl,by omega⟩
abbrev nW (w:World) (A:Option Addr) (l:List Edge):Prop:=ak iV w A l
theorem nW.at_ {w:World}{A:Option Addr}{l:List Edge}(h:nW w A l){i:Nat}(hi:i<l.length) :
  ∃b o,A=some ⟨b,o,none⟩∧b<w.heap.size∧w.cell? ⟨b,o+i*2,none⟩=some (.int .i64 (l[i]'hi).a)∧w.cell? ⟨b,o+i*2+1,none⟩=some (.int .i64 (l[i]'hi).b):=by
 obtain⟨b,o,e,hb,hc⟩:=ak.at_ iV h hi;refine⟨b,o,e,hb,?_,?_⟩
 ·have:=hc 0 (by decide);simpa [iV] using this
 ·have:=hc 1 (by decide);simpa [iV] using this
def df (n:Int) (e:Edge):Bool:=decide (0≤e.a)&&decide (0≤e.b)&&(decide (e.a<n)&&decide (e.b<n))
def eo (n:Int) (es:List Edge):Bool:=decide (0≤n)&&decide (n≤1000)&&es.all (df n)
def fO (es:List Edge) (v:Nat):List Int:=(es.filter (·.a == (v:Int))).map (·.b)
theorem ze (es:List Edge) (e:Edge) (v:Nat):fO (es++[e]) v=fO es v++if e.a == (v:Int) then [e.b] else []:=by
 unfold fO;rw[List.filter_append,ahz];cases h:(e.a == (v:Int))<;>simp[h]
structure MW where
 val:Value
 l:List Int
structure gg (ty int:TypeId) (base:Nat) (w:World) (b:Nat) (ts:List MW):Prop where
 blk:w.heap[b]?=some (.cells (ts.map (·.val)).toArray ty (0,0))
 ge:base≤b
 own:∀i (h:i<ts.length),w.ownsRow base int 1 (ts[i]'h).val (ts[i]'h).l.length ((ts[i]'h).l.map (Value.int .i64))
 OM:∀i j (hi:i<ts.length) (hj:j<ts.length),i≠j→(ts[i]'hi).val.ownBlock=(ts[j]'hj).val.ownBlock→(ts[i]'hi).val.ownBlock=none
 nb:∀i (h:i<ts.length),(ts[i]'h).val.ownBlock≠some b
section
variable {ty int:TypeId}{base:Nat}{w w':World}{b:Nat}{ts:List MW}
theorem gg.lt (h:gg ty int base w b ts):b<w.heap.size:=ae h.blk
theorem gg.keep (h:gg ty int base w b ts){row:Option Nat}(g:w.grownBy w' row) (hr:∀k,row=some k→k<base):gg ty int base w' b ts where
 blk:=(g.block b h.lt (fun e=>by have:=hr b e.symm;have:=h.ge;omega)).trans h.blk
 ge:=h.ge
 own i hi:=(h.own i hi).kept g (by
  cases hv:(ts[i]'hi).val.ownBlock with
  |none=>exact .inl rfl
  |some k=>exact .inr (fun e=>by have:=((h.own i hi).lt k hv).1;have:=hr k e.symm;omega))
 OM:=h.OM
 nb:=h.nb
theorem gg.ext (h:gg ty int base w b ts) (e:Ext w w'):gg ty int base w' b ts:=
 h.keep (row:=none) ⟨e.below.os,e.below.tape,e.below.output,e.size,fun k hk _=>e.heap hk⟩ (by intro k h;cases h)
theorem gg.cell (h:gg ty int base w b ts){i:Nat}(hi:i<ts.length):w.cell? ⟨b,i,none⟩=some (ts[i]'hi).val:=by
 simp[World.cell?,h.blk,hi]
theorem gg.after (h:gg ty int base w b ts){v:Nat}(hv:v<ts.length){sv:Value}(Vt:(ts[v]'hv).val=sv){w2:World}(hg0:w.grownBy w2 sv.ownBlock):w2.heap[b]?=some (.cells (ts.map (·.val)).toArray ty (0,0)):=
 ((Vt▸hg0:w.grownBy w2 (ts[v]'hv).val.ownBlock).block b h.lt (fun e=>h.nb v hv e.symm)).trans h.blk
theorem gg.put (h:gg ty int base w b ts){v:Nat}(hv:v<ts.length){v' sv:Value}(Vt:(ts[v]'hv).val=sv){w2:World}{l':List Int}
  (hown:w2.ownsRow base int 1 v' l'.length (l'.map (Value.int .i64))) (hg0:w.grownBy w2 sv.ownBlock) (Yt:v'.ownBlock=sv.ownBlock∨v'.ownBlock=some w.heap.size) :
  gg ty int base (w2.setCell ⟨b,v,none⟩ v') b (ts.set v ⟨v',l'⟩):=by
 have hg:w.grownBy w2 (ts[v]'hv).val.ownBlock:=Vt▸hg0;have hat:v'.ownBlock=(ts[v]'hv).val.ownBlock∨v'.ownBlock=some w.heap.size:=Vt▸Yt;have hb:=h.lt;have hb2:w2.heap[b]?=some (.cells (ts.map (·.val)).toArray ty (0,0)):=(hg.block b hb (fun e=>h.nb v hv e.symm)).trans h.blk;have OO:∀k,k≠b→(w2.setCell ⟨b,v,none⟩ v').heap[k]?=w2.heap[k]?:=by
  intro k hk;unfold World.setCell;simp only[Array.getElem?_modify];rw[if_neg (fun e=>hk e.symm)]
 have hsz:(w2.setCell ⟨b,v,none⟩ v').heap.size=w2.heap.size:=by simp[World.setCell]
 have Td:w2.grownBy (w2.setCell ⟨b,v,none⟩ v') (some b):=⟨rfl,rfl,rfl,by omega,fun k hk hne=>OO k (fun e=>hne (by rw[e]))⟩;have hvb:v'.ownBlock≠some b:=by
  rcases hat with h1|h1
  ·rw[h1];exact h.nb v hv
  ·rw[h1];intro e;injection e with e;omega
 have hown2:∀i (hi:i<ts.length),i≠v→w2.ownsRow base int 1 (ts[i]'hi).val (ts[i]'hi).l.length ((ts[i]'hi).l.map (Value.int .i64)):=by
  intro i hi hiv;refine(h.own i hi).kept hg ?_;cases hk:(ts[i]'hi).val.ownBlock with
  |none=>exact .inl rfl
  |some k=>exact .inr (fun e=>by have:=h.OM i v hi hv hiv (hk.trans e);rw[hk] at this;cases this)
 constructor
 ·have:=aw hb2 v v';rw[this]
  congr 2
  rw[ahs,List.map_set]
 ·exact h.ge
 ·intro i hi;have hi':i<ts.length:=by simpa using hi
  by_cases e:i=v
  ·subst e;simp only[List.getElem_set_self];exact hown.kept Td (.inr hvb)
  ·rw[List.getElem_set_ne (fun h=>e h.symm)];exact(hown2 i hi' e).kept Td (.inr (h.nb i hi'))
 ·intro i j hi hj AK he;have hi':i<ts.length:=by simpa using hi
  have hj':j<ts.length:=by simpa using hj
  by_cases e1:i=v
  ·subst e1;rw[List.getElem_set_ne AK] at he;simp only[List.getElem_set_self] at he ⊢
   rcases hat with h1|h1
   ·rw[h1] at he ⊢;exact h.OM i j hi' hj' AK he
   ·rw[h1] at he;have:=(h.own j hj').lt _ he.symm;omega
  ·rw[List.getElem_set_ne (fun h=>e1 h.symm)] at he ⊢
   by_cases e2:j=v
   ·subst e2;simp only[List.getElem_set_self] at he
    rcases hat with h1|h1
    ·rw[h1] at he;exact h.OM i j hi' hj' AK he
    ·rw[h1] at he;have:=(h.own i hi').lt _ he;omega
   ·rw[List.getElem_set_ne (fun h=>e2 h.symm)] at he;exact h.OM i j hi' hj' AK he
 ·intro i hi;have hi':i<ts.length:=by simpa using hi
  by_cases e:i=v
  ·subst e;simp only[List.getElem_set_self];exact hvb
  ·rw[List.getElem_set_ne (fun h=>e h.symm)];exact h.nb i hi'
end
def aT (n:Nat) (M:Nat→Bool):Array Value:=((List.range n).map fun j=>Value.bool (M j)).toArray
theorem lB (n:Nat) (M:Nat→Bool){j:Nat}(hj:j<n):(aT n M)[j]?=some (.bool (M j)):=by
 unfold aT;simp[hj]
theorem lC (n:Nat) (M:Nat→Bool) (j:Nat):(aT n M).setIfInBounds j (.bool true)=aT n (fun i=>i == j||M i):=by
 unfold aT;rw[ahs]
 congr 1
 apply List.ext_getElem?
 intro i
 by_cases hi:i<n
 ·by_cases e:j=i
  ·subst e;simp[hi]
  ·have:(i == j)=false:=by simp;exact fun h=>e h.symm
   simp[e,hi,this]
 ·simp[hi]
def Marks (ty:TypeId) (w:World) (mb:Nat) (M:Nat→Bool):Prop:=w.heap[mb]?=some (.cells (aT 1000 M) ty (0,0))
theorem Marks.cell {ty:TypeId}{w:World}{mb:Nat}{M:Nat→Bool}(h:Marks ty w mb M){j:Nat}(hj:j<1000):w.cell? ⟨mb,j,none⟩=some (.bool (M j)):=by
 unfold Marks at h;rw[←lB 1000 M hj];generalize aT 1000 M=cs at *;simp[World.cell?,h]
theorem Marks.free {ty:TypeId}{w:World}{mb:Nat}{M:Nat→Bool}(h:Marks ty w mb M) (i:Nat):w.frozen? ⟨mb,i,none⟩=false:=by
 unfold Marks at h;generalize aT 1000 M=cs at *;simp[World.frozen?,h]
theorem Marks.set {ty:TypeId}{w:World}{mb:Nat}{M:Nat→Bool}(h:Marks ty w mb M) (j:Nat):Marks ty (w.setCell ⟨mb,j,none⟩ (.bool true)) mb (fun i=>i == j||M i):=by
 unfold Marks;rw[aw h j (.bool true),lC]
theorem kQ (w:World) (b i:Nat) (v:Value):w.grownBy (w.setCell ⟨b,i,none⟩ v) (some b):=by
 refine⟨rfl,rfl,rfl,by simp[World.setCell],fun k hk hne => ?_⟩;unfold World.setCell;simp only[Array.getElem?_modify];rw[if_neg (fun e=>hne (by rw[e]))]
theorem iW {a b:World}(h:Ext a b) (row:Option Nat):a.grownBy b row:=⟨h.below.os,h.below.tape,h.below.output,h.size,fun _ hk _=>h.heap hk⟩
inductive SR (succ:Nat→List Nat):Nat→Nat→Prop
 |one {a b}:b∈succ a→SR succ a b
 |step {a b c}:SR succ a b→c∈succ b→SR succ a c
theorem SR.trans {succ:Nat→List Nat}{a b c:Nat}(h:SR succ a b) (k:SR succ b c):SR succ a c:=by
 induction k with
 |one h1=>exact .step h h1
 |step _ h1 ih=>exact .step ih h1
structure Aj (succ:Nat→List Nat) (M M':Nat→Bool) (v:Nat) (l:List Nat):Prop where
 sub:∀x,M x=true→M' x=true
 hit:∀x∈l,M' x=true
 new:∀x,M' x=true→M x=true∨(SR succ v x∧∀y∈succ x,M' y=true)
section
variable {succ : Nat→List Nat}{M M1 M2:Nat→Bool}{v u:Nat}{l:List Nat}
theorem Aj.start (succ:Nat→List Nat) (M:Nat→Bool) (v:Nat):Aj succ M M v []:=⟨fun _ h=>h,by simp,fun _ h=>.inl h⟩
theorem Aj.skip (h:Aj succ M M1 v l) (hu:M1 u=true):Aj succ M M1 v (l++[u]):=by
 refine⟨h.sub,fun x hx => ?_,h.new⟩
 rcases List.mem_append.1 hx with hx|hx
 ·exact h.hit x hx
 ·simp at hx;subst hx;exact hu
theorem Aj.go (h:Aj succ M M1 v l) (huv:u∈succ v) (k:Aj succ (fun i=>i == u||M1 i) M2 u (succ u)):Aj succ M M2 v (l++[u]):=by
 have hs:∀x,M1 x=true→M2 x=true:=fun x hx=>k.sub x (by simp[hx])
 refine⟨fun x hx=>hs x (h.sub x hx),fun x hx => ?_,fun x hx => ?_⟩
 ·rcases List.mem_append.1 hx with hx|hx
  ·exact hs x (h.hit x hx)
  ·simp at hx;subst hx;exact k.sub x (by simp)
 ·rcases k.new x hx with h1|⟨h1,h2⟩
  ·simp only[Bool.or_eq_true,beq_iff_eq] at h1
   rcases h1 with rfl|h1
   ·exact .inr ⟨.one huv,k.hit⟩
   ·rcases h.new x h1 with h3|⟨h3,h4⟩
    ·exact .inl h3
    ·exact .inr ⟨h3,fun y hy=>hs y (h4 y hy)⟩
  ·exact .inr ⟨(SR.one huv).trans h1,h2⟩
theorem Aj.all (h:Aj succ (fun _=>false) M1 v (succ v)) (x:Nat):M1 x=true↔SR succ v x:=by
 constructor
 ·intro hx
  rcases h.new x hx with h1|⟨h1,_⟩
  ·cases h1
  ·exact h1
 ·intro hx
  induction hx with
  |one h1=>exact h.hit _ h1
  |step _ h1 ih=>
   rcases h.new _ ih with h2|⟨_,h2⟩
   ·cases h2
   ·exact h2 _ h1
end
def holes (M:Nat→Bool) (N:Nat):Nat:=((List.range N).filter fun j => !M j).length
theorem tu {M:Nat→Bool}{u:Nat}(hu:M u=false):∀N,u<N→holes (fun i=>i == u||M i) N+1=holes M N
 |0,h=>absurd h (by omega)
 |N+1,h=>by
  unfold holes;rw[List.range_succ,List.filter_append,List.filter_append,ahn,ahn]
  by_cases e:u=N
  ·subst e;have:(List.range u).filter (fun j => !(j == u||M j))=(List.range u).filter (fun j => !M j):=by
    apply List.filter_congr
    intro x hx;simp at hx;have:(x == u)=false:=by simp;omega
    simp[this]
   rw[this];simp[hu]
  ·have ih:=tu hu N (by omega);unfold holes at ih;have hN:(N == u)=false:=by simp;omega
   have:([N].filter fun j => !(j == u||M j))=[N].filter fun j => !M j:=by simp[List.filter_cons,hN]
   rw[this];omega
theorem zf {M M':Nat→Bool}(h:∀x,M x=true→M' x=true) (N:Nat):holes M' N≤holes M N:=by
 unfold holes
 induction N with
 |zero=>simp
 |succ N ih=>
  rw[List.range_succ,List.filter_append,List.filter_append,ahn,ahn];have:([N].filter fun j => !M' j).length≤([N].filter fun j => !M j).length:=by
   have:=h N;cases h1:M N<;>cases h2:M' N<;>simp_all
  omega
def nameAt (l:List dR) (i:Nat):aj:=(l.getD i dR.zero).name
def gM (l:List dR) (i:Nat):List aj:=(l.getD i dR.zero).sup
def lX (ns s:List aj):Bool:=(List.range s.length).all fun k=>ns.any (· == s.getD k []) && !((s.take k).any (· == s.getD k []))
def eF (l:List dR) (i:Nat):Bool:=decide (gT l (nameAt l i)<(i:Int))
def oz (l:List dR) (i:Nat):Bool := !lX (names l) (gM l i)
def rN (l:List dR) (i:Nat):Bool:=(y9 l (nameAt l i)).any (· == nameAt l i)
def dS (l:List dR):Int×Int:=
 match fU (eF l) l.length with
 |some i=>(i,6)
 |none=>match fU (oz l) l.length with
  |some i=>(i,7)
  |none=>match fU (rN l) l.length with
   |some i=>(i,9)
   |none=>(0,0)
def Lk (l:List dR):Bool:=(dS l).2 == 0
structure Sound (l:List dR):Prop where
 one:fU (eF l) l.length=none
 all:fU (oz l) l.length=none
theorem tx {l:List dR}(h:Lk l=true):Sound l∧fU (rN l) l.length=none:=by
 unfold Lk dS at h
 split at h
 ·simp at h
 ·rename_i h1
  split at h
  ·simp at h
  ·rename_i h2
   split at h
   ·simp at h
   ·rename_i h3
    exact⟨⟨h1,h2⟩,h3⟩
theorem kR {l:List dR}{i:Nat}(h:i<l.length):nameAt l i=(l[i]'h).name:=by simp[nameAt,h]
theorem cQ {l:List dR}{i:Nat}(h:i<l.length):gM l i=(l[i]'h).sup:=by simp[gM,h]
section
variable {l : List dR}
theorem Sound.at_ (h:Sound l){i:Nat}(hi:i<l.length):gT l (l[i]'hi).name=i:=by
 have h1:=jy h.one i hi;unfold eF at h1;rw[kR hi] at h1;simp only[decide_eq_false_iff_not,Int.not_lt] at h1
 rcases iU l (l[i]'hi).name with ⟨e1,_,e3⟩|⟨k,hk,e1,_,e3⟩
 ·exact absurd (List.mem_map.2 ⟨_,ahh hi,rfl⟩) e3
 ·rw[e1] at h1 ⊢
  by_cases WC:k=i
  ·rw[WC]
  ·-- the first of that name stands at k,and k is not behind i
   have h2:=jy h.one k hk;unfold eF at h2;rw[kR hk,e3,e1] at h2;have:i<k:=by omega
   have h4:(names l).getD i []=(l[i]'hi).name:=iT l hi
   exfalso
   have Yu:∀j,j<l.length→(names l).getD j []=(l[i]'hi).name→(k:Int)≤j:=by
    intro j hj hjn;rw[←e1];unfold gT gV;have xY:(names l).any (· == (l[i]'hi).name)=true:=List.any_eq_true.2 ⟨_,List.mem_map.2 ⟨_,ahh hi,rfl⟩,by simp⟩;rw[if_pos xY];have hj':j<(names l).length:=by rw[kN];exact hj
    have:(names l).findIdx (· == (l[i]'hi).name)≤j:=by
     rcases Nat.lt_or_ge j ((names l).findIdx (· == (l[i]'hi).name)) with g|g
     ·have:=List.not_of_lt_findIdx g;simp[hj'] at hjn;simp[hjn] at this
     ·exact g
    omega
   have:=Yu i hi h4;omega
theorem Sound.sup (h:Sound l){i:Nat}(hi:i<l.length):kj l (l[i]'hi).name=(l[i]'hi).sup:=by
 have h1:=h.at_ hi
 rcases iU l (l[i]'hi).name with ⟨e1,_,_⟩|⟨k,hk,e1,e2,_⟩
 ·rw[e1] at h1;omega
 ·rw[e1] at h1;have:k=i:=by omega
  subst this;exact e2
theorem Sound.known (h:Sound l):∀c∈l,∀s∈c.sup,s∈names l:=by
 intro c hc s hs;obtain⟨i,hi,rfl⟩:=List.getElem_of_mem hc;have h1:=jy h.all i hi;unfold oz at h1;rw[cQ hi] at h1;simp only[Bool.not_eq_eq_eq_not,Bool.not_false] at h1;unfold lX at h1;rw[ahA] at h1;obtain⟨k,hk,rfl⟩:=List.getElem_of_mem hs;have h2:=h1 k (by simpa using hk);simp only[ahv] at h2;have h3:=(jw _ _).1 h2.1;simpa [hk] using h3
theorem Sound.inj (h:Sound l){i j:Nat}(hi:i<l.length) (hj:j<l.length) (e:(l[i]'hi).name=(l[j]'hj).name):i=j:=by
 have h1:=h.at_ hi;have h2:=h.at_ hj;rw[e,h2] at h1;omega
def bj (l:List dR) (i:Nat):List Nat:=(gM l i).map fun s=>(gT l s).toNat
theorem Sound.to (h:Sound l){i:Nat}(hi:i<l.length){s:aj}(hs:s∈(l[i]'hi).sup):∃j,∃hj:j<l.length,gT l s=(j:Int)∧(l[j]'hj).name=s:=by
 have h1:=h.known _ (ahh hi) s hs
 rcases iU l s with ⟨_,_,e3⟩|⟨k,hk,e1,_,e3⟩
 ·exact absurd h1 e3
 ·exact⟨k,hk,e1,e3⟩
theorem ko (h:Sound l):∀x,x<l.length→∀y∈bj l x,y<l.length:=by
 intro x hx y hy;unfold bj at hy;rw[cQ hx] at hy;obtain⟨s,hs,rfl⟩:=List.mem_map.1 hy;obtain⟨j,hj,e,_⟩:=h.to hx hs;rw[e];simpa using hj
theorem xa (h:Sound l){i j:Nat}(hi:i<l.length) (hr:SR (bj l) i j):∃hj:j<l.length,Up l (l[i]'hi).name (l[j]'hj).name:=by
 induction hr with
 |one h1=>
  unfold bj at h1;rw[cQ hi] at h1;obtain⟨s,hs,rfl⟩:=List.mem_map.1 h1;obtain⟨j,hj,e,en⟩:=h.to hi hs;have e':(gT l s).toNat=j:=by rw[e];simp
  refine⟨by rw[e'];exact hj,?_⟩;have:(l[(gT l s).toNat]'(by rw[e'];exact hj)).name=s:=by simp only[e'];exact en
  rw[this];exact .one (by rw[h.sup hi];exact hs)
 |step _ h1 ih=>
  rename_i b c _
  obtain⟨hb,UX⟩:=ih;unfold bj at h1;rw[cQ hb] at h1;obtain⟨s,hs,rfl⟩:=List.mem_map.1 h1;obtain⟨j,hj,e,en⟩:=h.to hb hs;have e':(gT l s).toNat=j:=by rw[e];simp
  refine⟨by rw[e'];exact hj,?_⟩;have:(l[(gT l s).toNat]'(by rw[e'];exact hj)).name=s:=by simp only[e'];exact en
  rw[this];exact .step UX (by rw[h.sup hb];exact hs)
theorem xb (h:Sound l){i:Nat}(hi:i<l.length){y:aj}(hu:Up l (l[i]'hi).name y):∃j,∃hj:j<l.length,(l[j]'hj).name=y∧SR (bj l) i j:=by
 generalize hx:(l[i]'hi).name=x at hu
 induction hu with
 |one h1=>
  rw[←hx,h.sup hi] at h1;obtain⟨j,hj,e,en⟩:=h.to hi h1;exact⟨j,hj,en,.one (by unfold bj;rw[cQ hi];exact List.mem_map.2 ⟨_,h1,by rw[e];simp⟩)⟩
 |step _ h1 ih=>
  obtain⟨b,hb,en,hr⟩:=ih;rw[←en,h.sup hb] at h1;obtain⟨j,hj,e,en'⟩:=h.to hb h1;exact⟨j,hj,en',.step hr (by unfold bj;rw[cQ hb];exact List.mem_map.2 ⟨_,h1,by rw[e];simp⟩)⟩
theorem CM (h:Sound l){i:Nat}(hi:i<l.length):rN l i=true↔SR (bj l) i i:=by
 unfold rN;rw[kR hi,jw,(wY l _).2]
 constructor
 ·intro hu;obtain⟨j,hj,en,hr⟩:=xb h hi hu
  rwa [h.inj hj hi en] at hr
 ·intro hr;exact(xa h hi hr).2
theorem check_1 {k:Nat}(hk:k<l.length) (h:∀j,j<k→eF l j=false) (h1:eF l k=true):dS l=((k:Int),6):=by
 unfold dS;rw[nD _ _ _ hk h h1]
theorem Ll (hn:∀j,j<l.length→eF l j=false){k:Nat}(hk:k<l.length) (h:∀j,j<k→oz l j=false) (h1:oz l k=true):dS l=((k:Int),7):=by
 unfold dS;rw[cU _ _ hn];simp only;rw[nD _ _ _ hk h h1]
theorem Lm (hn:∀j,j<l.length→eF l j=false) (hb:∀j,j<l.length→oz l j=false){k:Nat}(hk:k<l.length) (h:∀j,j<k→rN l j=false) (h1:rN l k=true):dS l=((k:Int),9):=by
 unfold dS;rw[cU _ _ hn];simp only;rw[cU _ _ hb];simp only;rw[nD _ _ _ hk h h1]
theorem Ln (hn:∀j,j<l.length→eF l j=false) (hb:∀j,j<l.length→oz l j=false) (hc:∀j,j<l.length→rN l j=false):dS l=(0,0):=by
 unfold dS;rw[cU _ _ hn];simp only;rw[cU _ _ hb];simp only;rw[cU _ _ hc]
def dU (l:List dR):List Edge:=(List.range l.length).flatMap fun i=>(gM l i).map fun s=>⟨(i:Int),gT l s⟩
theorem zg (_h:Sound l):∀v,(fO (dU l) v).map Int.toNat=if v<l.length then bj l v else []:=by
 intro v;unfold dU fO;have key:∀n,(((List.range n).flatMap fun i=>(gM l i).map fun s=>(⟨(i:Int),gT l s⟩:Edge)).filter (·.a == (v:Int))).map (·.b)=if v<n then(gM l v).map (gT l) else []:=by
  intro n
  induction n with
  |zero=>simp
  |succ n ih=>
   rw[List.range_succ,List.flatMap_append,List.filter_append,ahz,ih];have e1:([n].flatMap fun i=>(gM l i).map fun s=>(⟨(i:Int),gT l s⟩:Edge))=(gM l n).map fun s=>⟨(n:Int),gT l s⟩:=by simp
   rw[e1]
   by_cases e:v=n
   ·subst e;have:((gM l v).map fun s=>(⟨(v:Int),gT l s⟩:Edge)).filter (·.a == (v:Int))=(gM l v).map fun s=>⟨(v:Int),gT l s⟩:=by
     rw[List.filter_eq_self];intro a ha;obtain⟨s,_,rfl⟩:=List.mem_map.1 ha;simp
    rw[this,List.map_map];simp
   ·have:((gM l n).map fun s=>(⟨(n:Int),gT l s⟩:Edge)).filter (·.a == (v:Int))=[]:=by
     rw[List.filter_eq_nil_iff];intro a ha;obtain⟨s,_,rfl⟩:=List.mem_map.1 ha;simp;omega
    rw[this]
    by_cases h1:v<n
    ·have h2:v<n+1:=by omega
     simp[h1,h2]
    ·have h2:¬v<n+1:=by omega
     simp[h1,h2]
 rw[key]
 split
 ·rw[List.map_map];rfl
 ·rfl
end
end Go.Proofs.YtigafbmabjglfaaGreatDoor
