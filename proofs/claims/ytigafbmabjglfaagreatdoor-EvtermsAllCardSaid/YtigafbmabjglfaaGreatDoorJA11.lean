import Derived.Test.YtigafbmabjglfaaGreatDoorJA10
import Derived.Deep.Cut
namespace Go.Proofs.YtigafbmabjglfaaGreatDoor
open Go.RowKit Go.Shelf
set_option maxRecDepth 10000
set_option maxHeartbeats 8000000
theorem xo (t:Ty) (d n c:Nat) (w:World) (h:aH w t) (hc:w.heap[c]?=some (.cells #[.int .i64 n] 3 (0,0))) (hn:n≤1000000) :
  Calls Tryz.prog 166 #[bl t,.int .i64 d,.pointer (some ⟨c,0,none⟩)] w fun e w'=>e=.returned (.bool (decide (n+1≤4096)&&decide (d≤100)&&bO t.aq t.var t.args.length)) ∧
   w'.heap[c]?=some (.cells #[.int .i64 ((n+1:Nat):Int)] 3 (0,0))∧Tr c w (.bool false) w' (.bool false):=by
 have hlt:=ae hc;have X0:Ext w (w.alloc (.cells #[encStr t.aq,.int .i64 t.var,.slice t.A t.args.length t.cap] 53)):=(eR w).alloc _;have hc1:=(X0.heap hlt).trans hc;have hcell:(w.alloc (.cells #[encStr t.aq,.int .i64 t.var,.slice t.A t.args.length t.cap] 53)).cell? ⟨c,0,none⟩=some (.int .i64 n):=ag hc1 0;have iI:(w.alloc (.cells #[encStr t.aq,.int .i64 t.var,.slice t.A t.args.length t.cap] 53)).frozen? ⟨c,0,none⟩=false:=ai hc1 0;have hs1:(w.setCell ⟨c,0,none⟩ (.int .i64 ((n:Int)+1))).heap.size=w.heap.size:=by simp[World.setCell]
 obtain⟨W,hW⟩:∃W,W=(w.setCell ⟨c,0,none⟩ (.int .i64 ((n:Int)+1))).alloc (.cells #[encStr t.aq,.int .i64 t.var,.slice t.A t.args.length t.cap] 53):=⟨_,rfl⟩;have HC:aiE (W.heap[c]?=some (.cells #[.int .i64 ((n+1:Nat):Int)] 3 (0,0))):=aa (by
  have h1:=aw hc 0 (.int .i64 ((n:Int)+1));rw[hW];exact(((eR _).alloc _).heap (by rw[hs1];exact hlt)).trans h1)
 have HT:aiE (Tr c w (.bool false) W (.bool false)):=aa (by
  have h1:Tr c w (.bool false) (w.setCell ⟨c,0,none⟩ (.int .i64 ((n:Int)+1))) (.bool false):=⟨rfl,rfl,rfl,by rw[hs1];exact aiG _,fun k _ hk _=>Below.heap_setCell _ ⟨c,0,none⟩ _ k hk,.inl rfl⟩;rw[hW];exact h1.trans (Tr.dQ ((eR _).alloc _)))
 have HB:aiE (aU W w.heap.size t):=aa (by
  have:=aU.new (w.setCell ⟨c,0,none⟩ (.int .i64 ((n:Int)+1))) t;rw[hs1] at this;rw[hW];exact this)
 have sq:=aa (show W.cell? ⟨c,0,none⟩=some (.int .i64 ((n:Int)+1)) from ag HC.o 0);have HW:=aa hW;clear hW;have HO:=aa (fun w'=>aa (Lm t w'));have HM:=aa (fun w'=>aa (SQ t.aq t.var t.args.length w' h.txt));clear h hc hc1 X0;generalize bO t.aq t.var t.args.length=R at *;unfold bl tK at *
 by_cases h1:n+1≤4096
 ·by_cases h2:d≤100
  ·have hR:(decide (n+1≤4096)&&decide (d≤100)&&R)=R:=by simp[h1,h2]
   rw[hR];clear hR;go_enter Tryz.func166,Tryz.ntmps166;go_upto_region 2 with fail;rw[←HW.o];clear hcell iI;have NS:=sq.o;have b0:=HB.o.c0;have b1:=HB.o.c1;have b2:=HB.o.c2;have NT:(decide (((n:Int)+1)≤4096))=true:=by simp;omega
   have NU:(decide ((d:Int)≤100))=true:=by simp;omega
   clear h1 h2;go_wp2_with fail;refine(HO.o _).o.mono ?_;rintro e w2 ⟨rfl,hx2⟩;have X2:=aa hx2;clear hx2;go_wp2_with fail;refine(HM.o _).o.mono ?_;rintro e w3 ⟨rfl,hx3⟩;have X3:=aa (X2.o.trans hx3);clear hx3;go_wp2;go_ret;exact⟨rfl,(X3.o.heap (ae HC.o)).trans HC.o,HT.o.trans (Tr.dQ X3.o)⟩
  ·have hR:(decide (n+1≤4096)&&decide (d≤100)&&R)=false:=by simp[h2]
   rw[hR];clear hR;go_enter Tryz.func166,Tryz.ntmps166;go_upto_region 2 with fail;rw[←HW.o];clear hcell iI;have NS:=sq.o;have b0:=HB.o.c0;have b1:=HB.o.c1;have b2:=HB.o.c2;have NT:(decide (((n:Int)+1)≤4096))=true:=by simp;omega
   have NU:(decide ((d:Int)≤100))=false:=by simp;omega
   clear h1 h2;go_wp2;go_ret;exact⟨rfl,HC.o,HT.o⟩
 ·have hR:(decide (n+1≤4096)&&decide (d≤100)&&R)=false:=by simp[h1]
  rw[hR];clear hR;go_enter Tryz.func166,Tryz.ntmps166;go_upto_region 2 with fail;rw[←HW.o];clear hcell iI;have NS:=sq.o;have b0:=HB.o.c0;have b1:=HB.o.c1;have b2:=HB.o.c2;have NT:(decide (((n:Int)+1)≤4096))=false:=by simp;omega
  clear h1;go_wp2;go_ret;exact⟨rfl,HC.o,HT.o⟩
set_option maxRecDepth 512
set_option maxHeartbeats 200000
theorem lD : fz 166:=enters_of Tryz.func166 (by kernel_rfl) rfl
def Gg (p:Nat×Ty):Bool:=decide (p.1≤100)&&bO p.2.aq p.2.var p.2.args.length
theorem qB (t:Ty):ax t=true↔((t.iE 1).length≤4096∧∀p∈t.iE 1,Gg p=true):=by
 unfold ax bK;rw[FT _ t 1,qf];simp only[aiT,decide_eq_true_eq,aiY,Gg];have hl:=xi 100 t 1
 constructor
 ·rintro⟨⟨h1,h2⟩,h3⟩;exact⟨h1,fun p hp=>⟨hl.2 (by omega) p hp,h3 p hp⟩⟩
 ·rintro⟨h1,h2⟩;exact⟨⟨h1,by have:=hl.1 (fun p hp=>(h2 p hp).1);omega⟩,fun p hp=>(h2 p hp).2⟩
set_option maxRecDepth 10000
set_option maxHeartbeats 8000000
theorem nd (t:Ty) (w:World) (h:aH w t) (hsz:t.size≤900000):Calls Tryz.prog 120 #[bl t] w fun e w'=>e=.returned (.bool (ax t))∧Ext w w':=by
 have HB:=aa (aU.new w t);have X1:Ext w ((w.alloc (.cells #[encStr t.aq,.int .i64 t.var,.slice t.A t.args.length t.cap] 53)).alloc (.cells #[.int .i64 0] 3)):=((eR w).alloc _).alloc _;have hs:(w.alloc (.cells #[encStr t.aq,.int .i64 t.var,.slice t.A t.args.length t.cap] 53)).heap.size=w.heap.size+1:=by simp
 have hc:((w.alloc (.cells #[encStr t.aq,.int .i64 t.var,.slice t.A t.args.length t.cap] 53)).alloc (.cells #[.int .i64 0] 3)).heap[w.heap.size+1]?=some (.cells #[.int .i64 0] 3 (0,0)):=by
  have:=ah (w.alloc (.cells #[encStr t.aq,.int .i64 t.var,.slice t.A t.args.length t.cap] 53)) (.cells #[Value.int .i64 0] 3) (w.heap.size+1) hs.symm;exact this
 have HW:=aa (zo 166 #[.pointer (some ⟨w.heap.size+1,0,none⟩)] lD w (w.heap.size+1) 1000000
  (fun pre w' v=>v=.bool false∧w'.heap[w.heap.size+1]?=some (.cells #[.int .i64 pre.length] 3 (0,0))∧pre.length≤4096∧∀p∈pre,Gg p=true)
  (fun pre _ _=>¬(pre.length≤4096∧∀p∈pre,Gg p=true))
  (fun pre w1 w2 v hj e=>⟨hj.1,(e.heap (ae hj.2.1)).trans hj.2.1,hj.2.2⟩)
  (fun pre w1 v hj=>⟨by omega,ae hj.2.1,fun k hk=>by rw[hj.1] at hk;cases hk⟩)
  (fun pre x w1 v hj hN hx ht=>by
   obtain⟨rfl,hcell,hlen,hall⟩:=hj;refine(xo x.2 x.1 pre.length (w.heap.size+1) w1 ht hcell (by omega)).mono ?_;rintro e w2 ⟨rfl,hc2,hT⟩;refine⟨.bool false,hT,?_⟩
   by_cases bT:pre.length+1≤4096∧Gg x=true
   ·left
    refine⟨?_,rfl,by rw[aiL];exact hc2,by rw[aiL];exact bT.1,?_⟩
    ·have h2:=bT.2;unfold Gg at h2;rw[Bool.and_assoc,h2,Bool.and_true,decide_eq_true bT.1]
    ·intro p hp
     rcases List.mem_append.1 hp with hp|hp
     ·exact hall p hp
     ·rw[aiV] at hp;rw[hp];exact bT.2
   ·right
    refine⟨?_,?_⟩
    ·have:(decide (pre.length+1≤4096)&&(decide (x.1≤100)&&bO x.2.aq x.2.var x.2.args.length))=false:=by
      rw[←Bool.not_eq_true,aiT,decide_eq_true_eq];exact bT
     rw[Bool.and_assoc,this]
    ·rintro⟨h1,h2⟩;rw[aiL] at h1;exact bT ⟨h1,h2 x (by simp)⟩)
  t 1 [] ((w.alloc (.cells #[encStr t.aq,.int .i64 t.var,.slice t.A t.args.length t.cap] 53)).alloc (.cells #[.int .i64 0] 3)) (.bool false) h X1.below ⟨rfl,hc,by decide,by simp⟩ (by omega) (by simp;omega))
 have HL:=aa (qB t);have HX:=aa X1;clear h hc hs X1;generalize ax t=R at *;unfold bl at *;go_enter Tryz.func120,Tryz.ntmps120;go_wp2_with fail;refine HW.o.mono ?_;rintro e w2 ⟨v2,hT,(⟨rfl,hj⟩|⟨rfl,q,hq,hx⟩)⟩
 ·have HE:=aa (Ext.cw (HX.o.below.trans (hT.below HX.o.size (by omega) (fun k e=>by cases e))) (aiG _));have HR:=aa (HL.o.2 ⟨hj.2.2.1,hj.2.2.2⟩);clear hT hj;go_wp2;go_ret;exact⟨by rw[HR.o];rfl,HE.o⟩
 ·have HE:=aa (Ext.cw (HX.o.below.trans (hT.below HX.o.size (by omega) (fun k e=>by cases e))) (aiG _));have HR:aiE (R=false):=aa (by
   rw[←Bool.not_eq_true];intro h;obtain⟨h1,h2⟩:=HL.o.1 h;obtain⟨r,hr⟩:=hq;have h3:q.length≤4096:=by rw[←hr,aiL] at h1;omega
   exact hx ⟨by simpa using h3,fun p hp=>h2 p (by rw[←hr];exact List.mem_append_left _ (by simpa using hp))⟩)
  clear hT hx hq;go_wp2;go_ret;exact⟨by rw[HR.o];rfl,HE.o⟩
set_option maxRecDepth 512
set_option maxHeartbeats 200000
def qC (z:Int):Bool:=decide (z≥48)&&decide (z≤57)
theorem C6 (z:Int) (w:World):Calls Tryz.prog 221 #[.int .u8 z] w fun e w'=>e=.returned (.bool (iq z))∧w'=w:=by
 have HR:aiE (iq z=((decide (z≥97)&&decide (z≤122))||z == 95)):=aa rfl;generalize iq z=R at *
 by_cases h1:z≥97
 ·by_cases h2:z≤122
  ·go_enter Tryz.func221,Tryz.ntmps221;go_wp2;go_ret;exact⟨by rw[HR.o];simp[h1,h2],rfl⟩
  ·by_cases h3:z=95
   ·omega
   ·go_enter Tryz.func221,Tryz.ntmps221;go_wp2;go_ret;exact⟨by rw[HR.o];simp[h2,h3],rfl⟩
 ·by_cases h3:z=95
  ·go_enter Tryz.func221,Tryz.ntmps221;go_wp2;go_ret;exact⟨by rw[HR.o];simp[h3];try omega,rfl⟩
  ·go_enter Tryz.func221,Tryz.ntmps221;go_wp2;go_ret;exact⟨by rw[HR.o];simp[h3];try omega,rfl⟩
theorem tM (z:Int) (w:World):Calls Tryz.prog 146 #[.int .u8 z] w fun e w'=>e=.returned (.bool (dB z))∧w'=w:=by
 have HR:aiE (dB z=(decide (z≥65)&&decide (z≤90))):=aa rfl;generalize dB z=R at *
 by_cases h1:z≥65
 ·go_enter Tryz.func146,Tryz.ntmps146;go_wp2;go_ret;exact⟨by rw[HR.o];simp[h1],rfl⟩
 ·go_enter Tryz.func146,Tryz.ntmps146;go_wp2;go_ret;exact⟨by rw[HR.o];simp;omega,rfl⟩
theorem C8 (z:Int) (w:World):Calls Tryz.prog 222 #[.int .u8 z] w fun e w'=>e=.returned (.bool (qC z))∧w'=w:=by
 have HR:aiE (qC z=(decide (z≥48)&&decide (z≤57))):=aa rfl;generalize qC z=R at *
 by_cases h1:z≥48
 ·go_enter Tryz.func222,Tryz.ntmps222;go_wp2;go_ret;exact⟨by rw[HR.o];simp[h1],rfl⟩
 ·go_enter Tryz.func222,Tryz.ntmps222;go_wp2;go_ret;exact⟨by rw[HR.o];simp;omega,rfl⟩
theorem Pm (z:Int) (w:World):Calls Tryz.prog 194 #[.int .u8 z] w fun e w'=>e=.returned (.bool (Bz z))∧w'=w:=by
 have HR:aiE (Bz z=(iq z||dB z||qC z||z == 39)):=aa rfl;have H1:=aa (C6 z w);have H2:=aa (tM z w);have H3:=aa (C8 z w);generalize Bz z=R at *;generalize iq z=B1 at *;generalize dB z=B2 at *;generalize qC z=B3 at *;cases B1
 ·cases B2
  ·cases B3
   ·have hR:R=(z == 39):=by rw[HR.o];rfl
    clear HR;subst hR;go_enter Tryz.func194,Tryz.ntmps194;go_wp2_with fail;refine H1.o.mono ?_;rintro e w1 ⟨rfl,rfl⟩;go_wp2_with fail;refine H2.o.mono ?_;rintro e w1 ⟨rfl,rfl⟩;go_wp2_with fail;refine H3.o.mono ?_;rintro e w1 ⟨rfl,rfl⟩;go_wp2;go_ret;exact⟨rfl,rfl⟩
   ·have hR:R=true:=by rw[HR.o];rfl
    clear HR;subst hR;go_enter Tryz.func194,Tryz.ntmps194;go_wp2_with fail;refine H1.o.mono ?_;rintro e w1 ⟨rfl,rfl⟩;go_wp2_with fail;refine H2.o.mono ?_;rintro e w1 ⟨rfl,rfl⟩;go_wp2_with fail;refine H3.o.mono ?_;rintro e w1 ⟨rfl,rfl⟩;go_wp2;go_ret;exact⟨rfl,rfl⟩
  ·have hR:R=true:=by rw[HR.o];rfl
   clear HR;subst hR;go_enter Tryz.func194,Tryz.ntmps194;go_wp2_with fail;refine H1.o.mono ?_;rintro e w1 ⟨rfl,rfl⟩;go_wp2_with fail;refine H2.o.mono ?_;rintro e w1 ⟨rfl,rfl⟩;go_wp2;go_ret;exact⟨rfl,rfl⟩
 ·have hR:R=true:=by rw[HR.o];rfl
  clear HR;subst hR;go_enter Tryz.func194,Tryz.ntmps194;go_wp2_with fail;refine H1.o.mono ?_;rintro e w1 ⟨rfl,rfl⟩;go_wp2;go_ret;exact⟨rfl,rfl⟩
def NV (s:aj):Bool:=(s.drop 1).all fun b=>Bz (b.toNat:Nat)
set_option maxRecDepth 10000
set_option maxHeartbeats 8000000
theorem Pn (s:aj) (w:World) (hl:s.length≤9223372036854775807) (h0:0<s.length):Calls Tryz.prog 147 #[encStr s] w fun e w'=>e=.returned (.bool (NV s))∧w'=w:=by
 have HR:aiE ((s.drop 1).all (fun b=>Bz (b.toNat:Nat))=NV s):=aa rfl;generalize NV s=R at *;go_enter Tryz.func147,Tryz.ntmps147;go_wp2
 go_loop [3] (fun i=>∃k:Nat,1≤k∧k≤s.length∧i=.int .i64 k∧aiE ((s.drop k).all (fun b=>Bz (b.toNat:Nat))=R)) (fun i=>s.length - (intOf i).toNat)
 case atStart=>exact⟨1,aiG _,h0,rfl,HR⟩
 case round=>
  obtain⟨k,sB,hk,rfl,HK⟩:=hrel
  by_cases hlt:k<s.length
  ·have aN:(k:Int)<(s.length:Int):=by omega
   have cV:(0:Int)≤(k:Int):=by omega
   have Hb:aiE (s.drop k=s[k]'hlt :: s.drop (k+1)):=aa (List.drop_eq_getElem_cons hlt);generalize hb2:s[k]'hlt=b at *;rw[Hb.o,List.all_cons] at HK;have HN:=aa (fun w'=>Pm (b.toNat:Nat) w');generalize Bz (b.toNat:Nat)=B1 at *;cases B1
   ·have hG:R=false:=by have:=HK.o;simpa using this.symm
    clear HK HR;subst hG;go_wp2_with fail;refine(HN.o _).mono ?_;rintro e w1 ⟨rfl,rfl⟩;go_wp2;go_ret;exact⟨rfl,rfl⟩
   ·go_wp2_with fail;refine(HN.o _).mono ?_;rintro e w1 ⟨rfl,rfl⟩;go_wp2
    go_round
    case rel=>exact⟨k+1,by omega,hlt,by go_num,aa (by simpa using HK.o)⟩
    case measure=>simp[intOf];omega
  ·have bS:(s.length:Int)≤(k:Int):=by omega
   have hG:R=true:=by have:=HK.o;rw[List.drop_eq_nil_of_le (by omega)] at this;exact this.symm
   clear HK HR;subst hG;go_wp2;go_ret;exact⟨rfl,rfl⟩
set_option maxRecDepth 512
set_option maxHeartbeats 200000
theorem Lr {b:UInt8}{s:aj}(h:Bz (b.toNat:Nat)=true):na (b :: s)=NV (b :: s):=by
 unfold na NV;rw[List.all_cons,h];rfl
theorem Pp (b:UInt8) (s:aj):bZ (b :: s)=(dB (b.toNat:Nat)&&NV (b :: s)):=by
 have e:bZ (b :: s)=(dB (b.toNat:Nat)&&na (b :: s)):=rfl;rw[e];cases h:dB (b.toNat:Nat)
 ·rfl
 ·rw[Lr (by unfold Bz;rw[h];simp)]
set_option maxRecDepth 10000
set_option maxHeartbeats 8000000
theorem jC (s:aj) (w:World) (hl:s.length≤9223372036854775807):Calls Tryz.prog 99 #[encStr s] w fun e w'=>e=.returned (.bool (bZ s))∧w'=w:=by
 cases s with
 |nil=>
  go_enter Tryz.func99,Tryz.ntmps99;go_wp2;go_ret;exact⟨rfl,rfl⟩
 |cons b s=>
  have HC:aiE (bZ (b :: s)=(dB (b.toNat:Nat)&&NV (b :: s))):=aa (Pp b s);have HG:=aa (fun w'=>tM (b.toNat:Nat) w');have HO:=aa (fun w'=>Pn (b :: s) w' hl (by simp));generalize bZ (b :: s)=R at *;generalize dB (b.toNat:Nat)=B1 at *;generalize NV (b :: s)=B2 at *;cases B1
  ·have hR:R=false:=by rw[HC.o];rfl
   clear HC;subst hR;go_enter Tryz.func99,Tryz.ntmps99;go_wp2_with fail;refine(HG.o _).mono ?_;rintro e w1 ⟨rfl,rfl⟩;go_wp2;go_ret;exact⟨rfl,rfl⟩
  ·have hR:R=B2:=by rw[HC.o];rfl
   clear HC;subst hR;go_enter Tryz.func99,Tryz.ntmps99;go_wp2_with fail;refine(HG.o _).mono ?_;rintro e w1 ⟨rfl,rfl⟩;go_wp2_with fail;refine(HO.o _).mono ?_;rintro e w1 ⟨rfl,rfl⟩;go_wp2;go_ret;exact⟨rfl,rfl⟩
set_option maxRecDepth 512
set_option maxHeartbeats 200000
theorem ng (a b:Nat):((a:Int) == (b:Int))=(a == b):=by rw[Bool.eq_iff_iff];simp[Int.natCast_inj]
theorem om (s:aj) (v:Int) (n:Nat):bO s v n=if s == [] then n == 0 else if s == [45,62] then v == 0&&n == 2 else if fL s then v == 0&&n == 0 else v == 0&&bZ s:=rfl
theorem cW (t:Ty):bK t=(bO t.aq t.var t.args.length&&t.args.all bK):=gR _ t
set_option maxRecDepth 10000
set_option maxHeartbeats 8000000
theorem C9 (t:Ty):∀(w:World),aH w t → 
  Calls Tryz.prog 149 #[bl t] w fun e w'=>e=.returned (.bool (bK t))∧Ext w w':=by
 induction t using Ty.ind with
 |h t ih=>
 intro w h;have IH:=aa ih;have Hk:=aa h.all;have hle:=h.le;have hmx:=h.max;have fI:=aa (aU.new w t);have X0:aiE (Ext w (w.alloc (.cells #[encStr t.aq,.int .i64 t.var,.slice t.A t.args.length t.cap] 53))):=aa ((eR w).alloc _);have HP:=aa (cW t);have HO:=aa (om t.aq t.var t.args.length);have wY:=h.txt;have HF:=aa (fun w'=>aa (CX t.aq w' wY));have HC:=aa (fun w'=>aa (jC t.aq w' wY));generalize bK t=R at *;generalize bO t.aq t.var t.args.length=Q at *;clear ih h;unfold bl at *;go_enter Tryz.func149,Tryz.ntmps149;go_wp2;generalize (w.alloc (.cells #[encStr t.aq,.int .i64 t.var,.slice t.A t.args.length t.cap] 53))=w0 at *
 go_loopw [3] (fun i wr=>∃k:Nat,k≤t.args.length∧i=.int .i64 k∧aiE (∀x∈t.args.take k,bK x=true)∧aiE (Ext w0 wr)) (fun i _=>t.args.length - (intOf i).toNat)
 case atStart=>exact⟨0,aiH _,rfl,aa (by simp),aa (eR _)⟩
 case round=>
  obtain⟨k,hk,rfl,HA,HX⟩:=hrel;have HB:=aa (fI.o.ext HX.o);have hc2:=HB.o.c2
  by_cases hlt:k<t.args.length
  ·have aN:(k:Int)<(t.args.length:Int):=by omega
   have cV:(0:Int)≤(k:Int):=by omega
   obtain⟨b,o,hA,hb,q0,q1,q2⟩:=(Hk.o.ext (X0.o.trans HX.o)).at_ hlt;have cB:=aiF hlt;have dh:aiE (t.args.take (k+1)=t.args.take k++[t.args[k]'hlt]):=aa (aiJ hlt);have mZ:=aa (aiF hlt);have HC:=aa (IH.o _ cB wr ((Hk.o.args _ cB).ext (X0.o.trans HX.o)));rw[hA] at hc2;clear hA cB;generalize t.args[k]'hlt=c at *;cases hs:bK c
   ·rw[hs] at HC;have hR:R=false:=by
     rw[HP.o,Bool.and_eq_false_iff]
     right
     rw[←Bool.not_eq_true,aiY];intro h;rw[h _ mZ.o] at hs;cases hs
    clear HP;subst hR;go_wp2_with fail;refine HC.o.mono ?_;rintro e w3 ⟨rfl,hx3⟩;have X3:=aa (HX.o.trans hx3);clear hx3;go_wp2;go_ret;exact⟨rfl,X0.o.trans X3.o⟩
   ·rw[hs] at HC;go_wp2_with fail;refine HC.o.mono ?_;rintro e w3 ⟨rfl,hx3⟩;have X3:=aa (HX.o.trans hx3);clear hx3;go_wp2;go_roundw
    case rel=>
     refine⟨k+1,hlt,by go_num,aa (fun x hx => ?_),X3⟩;rw[dh.o,List.mem_append,aiV] at hx
     rcases hx with hx|rfl
     ·exact HA.o x hx
     ·exact hs
    case measure=>simp[intOf];omega
  ·have bS:¬(k:Int)<(t.args.length:Int):=by omega
   have hR:R=Q:=by
    rw[HP.o];have:t.args.all bK=true:=List.all_eq_true.2 (fun x hx=>HA.o x (by rw[aiK (by omega)];exact hx));rw[this,Bool.and_true]
   clear HP;subst hR;have hc0:=HB.o.c0;have hc1:=HB.o.c1;cases h0:(t.aq == [])
   ·cases h1:(t.aq == [45,62])
    ·cases hf:fL t.aq
     ·rw[hf] at HF;cases hv:(t.var == 0)
      ·have hR:R=false:=by rw[HO.o,h0,h1,hf,hv];rfl
       clear HO;subst hR;cases Fx:bZ t.aq
       ·rw[Fx] at HC;go_wp2_with fail;refine(HF.o _).o.mono ?_;rintro e w3 ⟨rfl,hx3⟩;have X3:=aa (HX.o.trans hx3);have sr:=aa (HB.o.ext hx3);have d0:=sr.o.c0;have d1:=sr.o.c1;clear hx3;go_wp2_with fail;refine(HC.o _).o.mono ?_;rintro e w4 ⟨rfl,rfl⟩;go_wp2;go_ret;exact⟨rfl,X0.o.trans X3.o⟩
       ·rw[Fx] at HC;go_wp2_with fail;refine(HF.o _).o.mono ?_;rintro e w3 ⟨rfl,hx3⟩;have X3:=aa (HX.o.trans hx3);have sr:=aa (HB.o.ext hx3);have d0:=sr.o.c0;have d1:=sr.o.c1;clear hx3;go_wp2_with fail;refine(HC.o _).o.mono ?_;rintro e w4 ⟨rfl,rfl⟩;go_wp2;go_ret;exact⟨rfl,X0.o.trans X3.o⟩
      ·have hR:R=bZ t.aq:=by rw[HO.o,h0,h1,hf,hv];rfl
       clear HO;subst hR;cases Fx:bZ t.aq
       ·rw[Fx] at HC;go_wp2_with fail;refine(HF.o _).o.mono ?_;rintro e w3 ⟨rfl,hx3⟩;have X3:=aa (HX.o.trans hx3);have sr:=aa (HB.o.ext hx3);have d0:=sr.o.c0;have d1:=sr.o.c1;clear hx3;go_wp2_with fail;refine(HC.o _).o.mono ?_;rintro e w4 ⟨rfl,rfl⟩;go_wp2;go_ret;exact⟨by rw[Fx];rfl,X0.o.trans X3.o⟩
       ·rw[Fx] at HC;go_wp2_with fail;refine(HF.o _).o.mono ?_;rintro e w3 ⟨rfl,hx3⟩;have X3:=aa (HX.o.trans hx3);have sr:=aa (HB.o.ext hx3);have d0:=sr.o.c0;have d1:=sr.o.c1;clear hx3;go_wp2_with fail;refine(HC.o _).o.mono ?_;rintro e w4 ⟨rfl,rfl⟩;go_wp2;go_ret;exact⟨by rw[Fx];rfl,X0.o.trans X3.o⟩
     ·rw[hf] at HF;have HR:aiE (R=(t.var == 0&&t.args.length == 0)):=aa (by rw[HO.o,h0,h1,hf];rfl);clear HO;go_wp2_with fail;refine(HF.o _).o.mono ?_;rintro e w3 ⟨rfl,hx3⟩;have X3:=aa (HX.o.trans hx3);have sr:=aa (HB.o.ext hx3);have d0:=sr.o.c0;have d1:=sr.o.c1;clear hx3;have dU:aiE (R=(((t.args.length:Int) == 0)&&(t.var == 0))):=aa (by rw[HR.o,Bool.and_comm,←ng];rfl);clear HR;cases hn:((t.args.length:Int) == 0)
      ·have hR:R=false:=by rw[dU.o,hn];rfl
       clear dU;subst hR;go_wp2;go_ret;exact⟨rfl,X0.o.trans X3.o⟩
      ·cases hv:(t.var == 0)
       ·have hR:R=false:=by rw[dU.o,hv,Bool.and_false]
        clear dU;subst hR;go_wp2;go_ret;exact⟨rfl,X0.o.trans X3.o⟩
       ·have hR:R=true:=by rw[dU.o,hv,hn];rfl
        clear dU;subst hR;go_wp2;go_ret;exact⟨rfl,X0.o.trans X3.o⟩
    ·have HR:aiE (R=(t.var == 0&&t.args.length == 2)):=aa (by rw[HO.o,h0,h1];rfl);clear HO;have dU:aiE (R=(((t.args.length:Int) == 2)&&(t.var == 0))):=aa (by rw[HR.o,Bool.and_comm,←ng];rfl);clear HR;cases hn:((t.args.length:Int) == 2)
     ·have hR:R=false:=by rw[dU.o,hn];rfl
      clear dU;subst hR;go_wp2;go_ret;exact⟨rfl,X0.o.trans HX.o⟩
     ·cases hv:(t.var == 0)
      ·have hR:R=false:=by rw[dU.o,hv,Bool.and_false]
       clear dU;subst hR;go_wp2;go_ret;exact⟨rfl,X0.o.trans HX.o⟩
      ·have hR:R=true:=by rw[dU.o,hv,hn];rfl
       clear dU;subst hR;go_wp2;go_ret;exact⟨rfl,X0.o.trans HX.o⟩
   ·have HR:aiE (R=(t.args.length == 0)):=aa (by rw[HO.o,h0];rfl);clear HO;go_wp2;go_ret;refine⟨?_,X0.o.trans HX.o⟩;rw[HR.o];exact congrArg (fun b=>Ending.returned (.bool b)) (show((t.args.length:Int) == 0)=(t.args.length == 0) by rw[Bool.eq_iff_iff];simp)
theorem fM (t:Ty) (w:World) (h:aH w t) (hsz:t.size≤900000):Calls Tryz.prog 100 #[bl t] w fun e w'=>e=.returned (.bool (ax t))∧Ext w w':=by
 have HB:=aa (aU.new w t);have X0:aiE (Ext w (w.alloc (.cells #[encStr t.aq,.int .i64 t.var,.slice t.A t.args.length t.cap] 53))):=aa ((eR w).alloc _);have H1:=aa (fun w' (e:Ext w w')=>aa (qu t w' (h.ext e) (by omega)));have H2:=aa (fun w' (e:Ext w w')=>aa (oh t w' (h.ext e) (by omega)));have H3:=aa (fun w' (e:Ext w w')=>aa (C9 t w' (h.ext e)));have HL:aiE (ax t=(decide (t.size≤4096)&&decide (t.depth≤100)&&bK t)):=aa rfl;clear h;generalize ax t=R at *;generalize bK t=Q at *;unfold bl at *;have Gh:decide ((t.size:Int)≤4096)=decide (t.size≤4096):=by rw[Bool.eq_iff_iff];simp;omega
 have Fy:decide ((t.depth:Int)≤100)=decide (t.depth≤100):=by rw[Bool.eq_iff_iff];simp;omega
 generalize t.size=sz at *;generalize t.depth=dp at *;cases h1:decide (sz≤4096)
 ·rw[h1] at HL Gh;have hR:R=false:=by rw[HL.o];rfl
  clear HL h1 Fy hsz;subst hR;go_enter Tryz.func100,Tryz.ntmps100;go_wp2_with fail;refine(H1.o _ X0.o).o.mono ?_;rintro e w2 ⟨rfl,hx2⟩;go_wp2;go_ret;exact⟨rfl,X0.o.trans hx2⟩
 ·rw[h1] at HL Gh;cases h2:decide (dp≤100)
  ·rw[h2] at HL Fy;have hR:R=false:=by rw[HL.o];rfl
   clear HL h1 h2 hsz;subst hR;go_enter Tryz.func100,Tryz.ntmps100;go_wp2_with fail;refine(H1.o _ X0.o).o.mono ?_;rintro e w2 ⟨rfl,hx2⟩;have X2:=aa (X0.o.trans hx2);have B2:=aa (HB.o.ext hx2);have c0:=B2.o.c0;have c1:=B2.o.c1;have c2:=B2.o.c2;clear hx2;go_wp2_with fail;refine(H2.o _ X2.o).o.mono ?_;rintro e w3 ⟨rfl,hx3⟩;go_wp2;go_ret;exact⟨rfl,X2.o.trans hx3⟩
  ·rw[h2] at HL Fy;have hR:R=Q:=by rw[HL.o];rfl
   clear HL h1 h2 hsz;subst hR;go_enter Tryz.func100,Tryz.ntmps100;go_wp2_with fail;refine(H1.o _ X0.o).o.mono ?_;rintro e w2 ⟨rfl,hx2⟩;have X2:=aa (X0.o.trans hx2);have B2:=aa (HB.o.ext hx2);have c0:=B2.o.c0;have c1:=B2.o.c1;have c2:=B2.o.c2;clear hx2;go_wp2_with fail;refine(H2.o _ X2.o).o.mono ?_;rintro e w3 ⟨rfl,hx3⟩;have X3:=aa (X2.o.trans hx3);have B3:=aa (B2.o.ext hx3);have d0:=B3.o.c0;have d1:=B3.o.c1;have d2:=B3.o.c2;clear hx3 c0 c1 c2;go_wp2_with fail;refine(H3.o _ X3.o).o.mono ?_;rintro e w4 ⟨rfl,eJ⟩;go_wp2;go_ret;exact⟨rfl,X3.o.trans eJ⟩
set_option maxRecDepth 512
set_option maxHeartbeats 200000
structure Pd where
 cls:aj
 ty:Ty
def Pd.cells (p:Pd):List Value:=[encStr p.cls,encStr p.ty.aq,.int .i64 p.ty.var,.slice p.ty.A p.ty.args.length p.ty.cap]
def j8 : fH Pd:=⟨4,Pd.cells,fun _=>rfl,by omega⟩
@[go_sem] def fN (p:Pd):Value:=.agg #[encStr p.cls,encStr p.ty.aq,.int .i64 p.ty.var,.slice p.ty.A p.ty.args.length p.ty.cap]
structure dH (w:World) (p:Pd):Prop where
 cls:p.cls.length≤1000000000000000000
 ty:aH w p.ty
structure bg (w:World) (A:Option Addr) (l:List Pd):Prop where
 row:ak j8 w A l
 all:∀p∈l,dH w p
section
variable {w w':World}{p:Pd}{A:Option Addr}{l:List Pd}
theorem dH.ext (h:dH w p) (e:Ext w w'):dH w' p:=⟨h.cls,h.ty.ext e⟩
theorem bg.ext (h:bg w A l) (e:Ext w w'):bg w' A l:=⟨ak.ext j8 h.row e,fun p hp=>(h.all p hp).ext e⟩
theorem bg.at_ (h:bg w A l){i:Nat}(hi:i<l.length) :
  ∃b o,A=some ⟨b,o,none⟩∧b<w.heap.size∧w.cell? ⟨b,o+i*4,none⟩=some (.string ⟨(l[i]'hi).cls.toArray⟩)∧w.cell? ⟨b,o+i*4+1,none⟩=some (.string ⟨(l[i]'hi).ty.aq.toArray⟩) ∧
   w.cell? ⟨b,o+i*4+2,none⟩=some (.int .i64 (l[i]'hi).ty.var)∧w.cell? ⟨b,o+i*4+3,none⟩=some (.slice (l[i]'hi).ty.A (l[i]'hi).ty.args.length (l[i]'hi).ty.cap):=by
 obtain⟨b,o,e,hb,hc⟩:=ak.at_ j8 h.row hi;refine⟨b,o,e,hb,?_,?_,?_,?_⟩
 ·have:=hc 0 (by decide);simpa [j8,Pd.cells] using this
 ·have:=hc 1 (by decide);simpa [j8,Pd.cells] using this
 ·have:=hc 2 (by decide);simpa [j8,Pd.cells] using this
 ·have:=hc 3 (by decide);simpa [j8,Pd.cells] using this
end
def aR (w:World) (b:Nat) (p:Pd):Prop:=w.heap[b]?=some (.cells #[encStr p.cls,encStr p.ty.aq,.int .i64 p.ty.var,.slice p.ty.A p.ty.args.length p.ty.cap] 55 (0,0))
section
variable {w w':World}{b:Nat}{p:Pd}
theorem aR.new (w:World) (p:Pd):aR (w.alloc (.cells #[encStr p.cls,encStr p.ty.aq,.int .i64 p.ty.var,.slice p.ty.A p.ty.args.length p.ty.cap] 55)) w.heap.size p:=ah _ _ _ rfl
theorem aR.lt (h:aR w b p):b<w.heap.size:=ae h
theorem aR.ext (h:aR w b p) (e:Ext w w'):aR w' b p:=(e.heap h.lt).trans h
theorem aR.cells (h:aR w b p):w.cell? ⟨b,0,none⟩=some (encStr p.cls)∧w.cell? ⟨b,1,none⟩=some (encStr p.ty.aq)∧w.cell? ⟨b,2,none⟩=some (.int .i64 p.ty.var)∧w.cell? ⟨b,3,none⟩=some (.slice p.ty.A p.ty.args.length p.ty.cap):=
 ⟨ag h 0,ag h 1,ag h 2,ag h 3⟩
end
noncomputable def dI (p:Pd):Bool:=bZ p.cls&&ax p.ty
set_option maxRecDepth 10000
set_option maxHeartbeats 8000000
theorem Wv (p:Pd) (w:World) (h:dH w p) (hsz:p.ty.size≤90000):Calls Tryz.prog 91 #[fN p] w fun e w'=>e=.returned (.bool (dI p))∧Ext w w':=by
 have X0:aiE (Ext w (w.alloc (.cells #[encStr p.cls,encStr p.ty.aq,.int .i64 p.ty.var,.slice p.ty.A p.ty.args.length p.ty.cap] 55))):=aa ((eR w).alloc _);have HB:=aa (aR.new w p);obtain⟨c0,c1,c2,c3⟩:=HB.o.cells;have HN:=aa (fun w'=>aa (qA p.cls w' (by have:=h.cls;omega)));have HL:=aa (fun w' (e:Ext w w')=>aa (nd p.ty w' (h.ty.ext e) (by omega)));have HP:aiE (dI p=(bZ p.cls&&ax p.ty)):=aa rfl;clear h;unfold fN bl at *;generalize dI p=R at *;cases hb:bZ p.cls
 ·rw[hb] at HN HP;have hR:R=false:=by rw[HP.o];rfl
  clear HP;subst hR;go_enter Tryz.func91,Tryz.ntmps91;go_wp2_with fail;refine(HN.o _).o.mono ?_;rintro e w2 ⟨rfl,rfl⟩;go_wp2;go_ret;exact⟨rfl,X0.o⟩
 ·rw[hb] at HN HP;have hR:R=ax p.ty:=by rw[HP.o];rfl
  clear HP;subst hR;go_enter Tryz.func91,Tryz.ntmps91;go_wp2_with fail;refine(HN.o _).o.mono ?_;rintro e w2 ⟨rfl,rfl⟩;go_wp2_with fail;refine(HL.o _ X0.o).o.mono ?_;rintro e w3 ⟨rfl,hx⟩;go_wp2;go_ret;exact⟨rfl,X0.o.trans hx⟩
theorem tN (p:Pd) (w:World) (h:dH w p) (hsz:p.ty.size≤90000):Calls Tryz.prog 61 #[fN p] w fun e w'=>e=.returned (.bool (dI p))∧Ext w w':=by
 have X0:aiE (Ext w (w.alloc (.cells #[encStr p.cls,encStr p.ty.aq,.int .i64 p.ty.var,.slice p.ty.A p.ty.args.length p.ty.cap] 55))):=aa ((eR w).alloc _);have HB:=aa (aR.new w p);obtain⟨c0,c1,c2,c3⟩:=HB.o.cells;have HN:=aa (fun w'=>aa (jC p.cls w' (by have:=h.cls;omega)));have HL:=aa (fun w' (e:Ext w w')=>aa (fM p.ty w' (h.ty.ext e) (by omega)));have HP:aiE (dI p=(bZ p.cls&&ax p.ty)):=aa rfl;clear h;unfold fN bl at *;generalize dI p=R at *;cases hb:bZ p.cls
 ·rw[hb] at HN HP;have hR:R=false:=by rw[HP.o];rfl
  clear HP;subst hR;go_enter Tryz.func61,Tryz.ntmps61;go_wp2_with fail;refine(HN.o _).o.mono ?_;rintro e w2 ⟨rfl,rfl⟩;go_wp2;go_ret;exact⟨rfl,X0.o⟩
 ·rw[hb] at HN HP;have hR:R=ax p.ty:=by rw[HP.o];rfl
  clear HP;subst hR;go_enter Tryz.func61,Tryz.ntmps61;go_wp2_with fail;refine(HN.o _).o.mono ?_;rintro e w2 ⟨rfl,rfl⟩;go_wp2_with fail;refine(HL.o _ X0.o).o.mono ?_;rintro e w3 ⟨rfl,hx⟩;go_wp2;go_ret;exact⟨rfl,X0.o.trans hx⟩
theorem Ls (A:Option Addr) (cap:Nat) (l:List Pd) (w:World) (h:bg w A l) (hl:l.length≤1000000) (hsz:∀p∈l,p.ty.size≤90000) :
  Calls Tryz.prog 62 #[.slice A l.length cap] w fun e w'=>e=.returned (.bool (l.all dI))∧Ext w w':=by
 have HL:=aa h;have Da:=aa hsz;clear h hsz;obtain⟨R,hR⟩:∃R,R=l.all dI:=⟨_,rfl⟩;have HR:=aa hR;rw[←hR];clear hR;go_enter Tryz.func62,Tryz.ntmps62;go_wp2
 go_loopw [3] (fun i wr=>∃k:Nat,k≤l.length∧i=.int .i64 k∧aiE ((l.take k).all dI=true)∧aiE (Ext w wr)) (fun i _=>l.length - (intOf i).toNat)
 case atStart=>exact⟨0,aiH _,rfl,aa (by simp),aa (eR _)⟩
 case round=>
  obtain⟨k,hk,rfl,HA,HX⟩:=hrel
  by_cases hlt:k<l.length
  ·have aN:(k:Int)<(l.length:Int):=by omega
   have cV:(0:Int)≤(k:Int):=by omega
   obtain⟨b,o,rfl,hb,q0,q1,q2,q3⟩:=(HL.o.ext HX.o).at_ hlt;have hm:=aiF hlt;have HC:=aa (fun w' (e:Ext wr w')=>aa (tN (l[k]'hlt) w' ((HL.o.all _ hm).ext (HX.o.trans e)) (Da.o _ hm)));have dh:aiE (l.take (k+1)=l.take k++[l[k]'hlt]):=aa (aiJ hlt);have Hm:=aa hm;clear hm;unfold fN at HC;generalize l[k]'hlt=x at *;cases hb:dI x
   ·rw[hb] at HC;have HN:aiE (R=false):=aa (by rw[HR.o,←Bool.not_eq_true,aiY];intro h;have:=h x Hm.o;rw[hb] at this;cases this);clear hb;go_wp2_with fail;refine(HC.o _ (eR _)).o.mono ?_;rintro e w3 ⟨rfl,hx⟩;go_wp2;go_ret;exact⟨by rw[HN.o];rfl,HX.o.trans hx⟩
   ·rw[hb] at HC;have Hb:=aa hb;clear hb;go_wp2_with fail;refine(HC.o _ (eR _)).o.mono ?_;rintro e w3 ⟨rfl,hx⟩;have X3:=aa (HX.o.trans hx);clear hx;go_wp2;go_roundw
    case rel=>exact⟨k+1,hlt,by go_num,aa (by rw[dh.o,List.all_append,HA.o];simpa using Hb.o),X3⟩
    case measure=>simp[intOf];omega
  ·have bS:¬(k:Int)<(l.length:Int):=by omega
   have HN:aiE (R=true):=aa (by rw[HR.o];have:=HA.o;rwa [aiK (by omega)] at this);go_wp2;go_ret;exact⟨by rw[HN.o];rfl,HX.o⟩
set_option maxRecDepth 512
set_option maxHeartbeats 200000
structure xp where
 name:aj
 A:Option Addr
 cap:Nat
 types:List Ty
def xp.cells (x:xp):List Value:=[encStr x.name,.slice x.A x.types.length x.cap]
def Pq : fH xp:=⟨2,xp.cells,fun _=>rfl,by omega⟩
structure Db (w:World) (x:xp):Prop where
 txt:x.name.length≤1000000000000000000
 le:x.types.length≤x.cap
 max:x.cap≤9223372036854775807
 row:bH w x.A x.types
theorem Db.ext {w w':World}{x:xp}(h:Db w x) (e:Ext w w'):Db w' x:=⟨h.txt,h.le,h.max,h.row.ext e⟩
structure tP (w:World) (A:Option Addr) (l:List xp):Prop where
 row:ak Pq w A l
 all:∀x∈l,Db w x
theorem tP.ext {w w':World}{A:Option Addr}{l:List xp}(h:tP w A l) (e:Ext w w'):tP w' A l:=⟨ak.ext Pq h.row e,fun x hx=>(h.all x hx).ext e⟩
theorem tP.at_ {w:World}{A:Option Addr}{l:List xp}(h:tP w A l){i:Nat}(hi:i<l.length) :
  ∃b o,A=some ⟨b,o,none⟩∧b<w.heap.size∧w.cell? ⟨b,o+i*2,none⟩=some (.string ⟨(l[i]'hi).name.toArray⟩)∧w.cell? ⟨b,o+i*2+1,none⟩=some (.slice (l[i]'hi).A (l[i]'hi).types.length (l[i]'hi).cap):=by
 obtain⟨b,o,e,hb,hc⟩:=ak.at_ Pq h.row hi;refine⟨b,o,e,hb,?_,?_⟩
 ·have:=hc 0 (by decide);simpa [Pq,xp.cells] using this
 ·have:=hc 1 (by decide);simpa [Pq,xp.cells] using this
structure pF where
 name:aj
 n:Int
 A:Option Addr
 cap:Nat
 cons:List xp
def pF.cells (x:pF):List Value:=[encStr x.name,.int .i64 x.n,.slice x.A x.cons.length x.cap]
def NW : fH pF:=⟨3,pF.cells,fun _=>rfl,by omega⟩
structure Dc (w:World) (x:pF):Prop where
 txt:x.name.length≤1000000000000000000
 le:x.cons.length≤x.cap
 max:x.cap≤9223372036854775807
 row:tP w x.A x.cons
theorem Dc.ext {w w':World}{x:pF}(h:Dc w x) (e:Ext w w'):Dc w' x:=⟨h.txt,h.le,h.max,h.row.ext e⟩
structure nh (w:World) (A:Option Addr) (l:List pF):Prop where
 row:ak NW w A l
 all:∀x∈l,Dc w x
theorem nh.ext {w w':World}{A:Option Addr}{l:List pF}(h:nh w A l) (e:Ext w w'):nh w' A l:=⟨ak.ext NW h.row e,fun x hx=>(h.all x hx).ext e⟩
theorem nh.nil (w:World) (A:Option Addr):nh w A []:=⟨ak.nil _ _ _,by simp⟩
theorem nh.at_ {w:World}{A:Option Addr}{l:List pF}(h:nh w A l){i:Nat}(hi:i<l.length) :
  ∃b o,A=some ⟨b,o,none⟩∧b<w.heap.size∧w.cell? ⟨b,o+i*3,none⟩=some (.string ⟨(l[i]'hi).name.toArray⟩)∧w.cell? ⟨b,o+i*3+1,none⟩=some (.int .i64 (l[i]'hi).n)∧w.cell? ⟨b,o+i*3+2,none⟩=some (.slice (l[i]'hi).A (l[i]'hi).cons.length (l[i]'hi).cap):=by
 obtain⟨b,o,e,hb,hc⟩:=ak.at_ NW h.row hi;refine⟨b,o,e,hb,?_,?_,?_⟩
 ·have:=hc 0 (by decide);simpa [NW,pF.cells] using this
 ·have:=hc 1 (by decide);simpa [NW,pF.cells] using this
 ·have:=hc 2 (by decide);simpa [NW,pF.cells] using this
def ni (w:World) (b:Nat) (x:pF):Prop:=w.heap[b]?=some (.cells #[encStr x.name,.int .i64 x.n,.slice x.A x.cons.length x.cap] 99 (0,0))
theorem ni.lt {w:World}{b:Nat}{x:pF}(h:ni w b x):b<w.heap.size:=ae h
theorem ni.cells {w:World}{b:Nat}{x:pF}(h:ni w b x):w.cell? ⟨b,0,none⟩=some (encStr x.name)∧w.cell? ⟨b,1,none⟩=some (.int .i64 x.n)∧w.cell? ⟨b,2,none⟩=some (.slice x.A x.cons.length x.cap):=⟨ag h 0,ag h 1,ag h 2⟩
theorem ni.new (w:World) (x:pF):ni (w.alloc (.cells #[encStr x.name,.int .i64 x.n,.slice x.A x.cons.length x.cap] 99)) w.heap.size x:=ah _ _ _ rfl
structure vy where
 name:aj
 n:Int
 ty:Ty
def vy.cells (x:vy):List Value:=[encStr x.name,.int .i64 x.n,encStr x.ty.aq,.int .i64 x.ty.var,.slice x.ty.A x.ty.args.length x.ty.cap]
def meC : fH vy:=⟨5,vy.cells,fun _=>rfl,by omega⟩
structure Dd (w:World) (x:vy):Prop where
 txt:x.name.length≤1000000000000000000
 row:aH w x.ty
theorem Dd.ext {w w':World}{x:vy}(h:Dd w x) (e:Ext w w'):Dd w' x:=⟨h.txt,h.row.ext e⟩
structure lF (w:World) (A:Option Addr) (l:List vy):Prop where
 row:ak meC w A l
 all:∀x∈l,Dd w x
theorem lF.ext {w w':World}{A:Option Addr}{l:List vy}(h:lF w A l) (e:Ext w w'):lF w' A l:=⟨ak.ext meC h.row e,fun x hx=>(h.all x hx).ext e⟩
theorem lF.nil (w:World) (A:Option Addr):lF w A []:=⟨ak.nil _ _ _,by simp⟩
theorem lF.at_ {w:World}{A:Option Addr}{l:List vy}(h:lF w A l){i:Nat}(hi:i<l.length) :
  ∃b o,A=some ⟨b,o,none⟩∧b<w.heap.size∧w.cell? ⟨b,o+i*5,none⟩=some (.string ⟨(l[i]'hi).name.toArray⟩)∧w.cell? ⟨b,o+i*5+1,none⟩=some (.int .i64 (l[i]'hi).n)∧w.cell? ⟨b,o+i*5+2,none⟩=some (.string ⟨(l[i]'hi).ty.aq.toArray⟩)∧w.cell? ⟨b,o+i*5+3,none⟩=some (.int .i64 (l[i]'hi).ty.var)∧w.cell? ⟨b,o+i*5+4,none⟩=some (.slice (l[i]'hi).ty.A (l[i]'hi).ty.args.length (l[i]'hi).ty.cap):=by
 obtain⟨b,o,e,hb,hc⟩:=ak.at_ meC h.row hi;refine⟨b,o,e,hb,?_,?_,?_,?_,?_⟩
 ·have:=hc 0 (by decide);simpa [meC,vy.cells] using this
 ·have:=hc 1 (by decide);simpa [meC,vy.cells] using this
 ·have:=hc 2 (by decide);simpa [meC,vy.cells] using this
 ·have:=hc 3 (by decide);simpa [meC,vy.cells] using this
 ·have:=hc 4 (by decide);simpa [meC,vy.cells] using this
structure dY where
 name:aj
 S:Option Addr
 sc:Nat
 cQ:List aj
 A:Option Addr
 cap:Nat
 bf:List vy
def dY.cells (x:dY):List Value:=[encStr x.name,.slice x.S x.cQ.length x.sc,.slice x.A x.bf.length x.cap]
def Gi : fH dY:=⟨3,dY.cells,fun _=>rfl,by omega⟩
@[go_sem] def Ys (x:dY):Value:=.agg #[encStr x.name,.slice x.S x.cQ.length x.sc,.slice x.A x.bf.length x.cap]
structure De (w:World) (x:dY):Prop where
 txt:x.name.length≤1000000000000000000
 sle:x.cQ.length≤x.sc
 S4:x.sc≤9223372036854775807
 Lt:dP w x.S x.cQ
 Ps:∀s∈x.cQ,s.length≤1000000000000000000
 le:x.bf.length≤x.cap
 max:x.cap≤9223372036854775807
 row:lF w x.A x.bf
theorem De.ext {w w':World}{x:dY}(h:De w x) (e:Ext w w'):De w' x:=⟨h.txt,h.sle,h.S4,kg.2 (ak.ext mf (kg.1 h.Lt) e),h.Ps,h.le,h.max,h.row.ext e⟩
structure lG (w:World) (A:Option Addr) (l:List dY):Prop where
 row:ak Gi w A l
 all:∀x∈l,De w x
theorem lG.ext {w w':World}{A:Option Addr}{l:List dY}(h:lG w A l) (e:Ext w w'):lG w' A l:=⟨ak.ext Gi h.row e,fun x hx=>(h.all x hx).ext e⟩
theorem lG.at_ {w:World}{A:Option Addr}{l:List dY}(h:lG w A l){i:Nat}(hi:i<l.length) :
  ∃b o,A=some ⟨b,o,none⟩∧b<w.heap.size∧w.cell? ⟨b,o+i*3,none⟩=some (.string ⟨(l[i]'hi).name.toArray⟩)∧w.cell? ⟨b,o+i*3+1,none⟩=some (.slice (l[i]'hi).S (l[i]'hi).cQ.length (l[i]'hi).sc)∧w.cell? ⟨b,o+i*3+2,none⟩=some (.slice (l[i]'hi).A (l[i]'hi).bf.length (l[i]'hi).cap):=by
 obtain⟨b,o,e,hb,hc⟩:=ak.at_ Gi h.row hi;refine⟨b,o,e,hb,?_,?_,?_⟩
 ·have:=hc 0 (by decide);simpa [Gi,dY.cells] using this
 ·have:=hc 1 (by decide);simpa [Gi,dY.cells] using this
 ·have:=hc 2 (by decide);simpa [Gi,dY.cells] using this
structure cL where
 cls:aj
 aq:aj
 n:Int
 A:Option Addr
 cap:Nat
 preds:List Pd
def cL.cells (x:cL):List Value:=[encStr x.cls,encStr x.aq,.int .i64 x.n,.slice x.A x.preds.length x.cap]
def KH : fH cL:=⟨4,cL.cells,fun _=>rfl,by omega⟩
@[go_sem] def xq (x:cL):Value:=.agg #[encStr x.cls,encStr x.aq,.int .i64 x.n,.slice x.A x.preds.length x.cap]
structure pG (w:World) (x:cL):Prop where
 txt:x.cls.length≤1000000000000000000
 ctxt:x.aq.length≤1000000000000000000
 le:x.preds.length≤x.cap
 max:x.cap≤9223372036854775807
 row:bg w x.A x.preds
theorem pG.ext {w w':World}{x:cL}(h:pG w x) (e:Ext w w'):pG w' x:=⟨h.txt,h.ctxt,h.le,h.max,h.row.ext e⟩
structure iJ (w:World) (A:Option Addr) (l:List cL):Prop where
 row:ak KH w A l
 all:∀x∈l,pG w x
theorem iJ.ext {w w':World}{A:Option Addr}{l:List cL}(h:iJ w A l) (e:Ext w w'):iJ w' A l:=⟨ak.ext KH h.row e,fun x hx=>(h.all x hx).ext e⟩
theorem iJ.at_ {w:World}{A:Option Addr}{l:List cL}(h:iJ w A l){i:Nat}(hi:i<l.length) :
  ∃b o,A=some ⟨b,o,none⟩∧b<w.heap.size∧w.cell? ⟨b,o+i*4,none⟩=some (.string ⟨(l[i]'hi).cls.toArray⟩)∧w.cell? ⟨b,o+i*4+1,none⟩=some (.string ⟨(l[i]'hi).aq.toArray⟩)∧w.cell? ⟨b,o+i*4+2,none⟩=some (.int .i64 (l[i]'hi).n)∧w.cell? ⟨b,o+i*4+3,none⟩=some (.slice (l[i]'hi).A (l[i]'hi).preds.length (l[i]'hi).cap):=by
 obtain⟨b,o,e,hb,hc⟩:=ak.at_ KH h.row hi;refine⟨b,o,e,hb,?_,?_,?_,?_⟩
 ·have:=hc 0 (by decide);simpa [KH,cL.cells] using this
 ·have:=hc 1 (by decide);simpa [KH,cL.cells] using this
 ·have:=hc 2 (by decide);simpa [KH,cL.cells] using this
 ·have:=hc 3 (by decide);simpa [KH,cL.cells] using this
def eV (w:World) (b:Nat) (x:cL):Prop:=w.heap[b]?=some (.cells #[encStr x.cls,encStr x.aq,.int .i64 x.n,.slice x.A x.preds.length x.cap] 70 (0,0))
theorem eV.lt {w:World}{b:Nat}{x:cL}(h:eV w b x):b<w.heap.size:=ae h
theorem eV.ext {w w':World}{b:Nat}{x:cL}(h:eV w b x) (e:Ext w w'):eV w' b x:=(e.heap h.lt).trans h
theorem eV.cells {w:World}{b:Nat}{x:cL}(h:eV w b x):w.cell? ⟨b,0,none⟩=some (encStr x.cls)∧w.cell? ⟨b,1,none⟩=some (encStr x.aq)∧w.cell? ⟨b,2,none⟩=some (.int .i64 x.n)∧w.cell? ⟨b,3,none⟩=some (.slice x.A x.preds.length x.cap):=⟨ag h 0,ag h 1,ag h 2,ag h 3⟩
theorem eV.new (w:World) (x:cL):eV (w.alloc (.cells #[encStr x.cls,encStr x.aq,.int .i64 x.n,.slice x.A x.preds.length x.cap] 70)) w.heap.size x:=ah _ _ _ rfl
structure di where
 D:Option Addr
 dc:Nat
 aA:List pF
 C:Option Addr
 cc:Nat
 af:List dY
 I:Option Addr
 ic:Nat
 insts:List cL
@[go_sem] def eu (x:di):Value:=.agg #[.slice x.D x.aA.length x.dc,.slice x.C x.af.length x.cc,.slice x.I x.insts.length x.ic]
structure dJ (w:World) (x:di):Prop where
 dle:x.aA.length≤x.dc
 S6:x.dc≤9223372036854775807
 aA:nh w x.D x.aA
 Ww:x.af.length≤x.cc
 Lu:x.cc≤9223372036854775807
 af:lG w x.C x.af
 ile:x.insts.length≤x.ic
 imax:x.ic≤9223372036854775807
 insts:iJ w x.I x.insts
theorem dJ.ext {w w':World}{x:di}(h:dJ w x) (e:Ext w w'):dJ w' x:=⟨h.dle,h.S6,h.aA.ext e,h.Ww,h.Lu,h.af.ext e,h.ile,h.imax,h.insts.ext e⟩
def aI (w:World) (b:Nat) (x:di):Prop:=w.heap[b]?=some (.cells #[.slice x.D x.aA.length x.dc,.slice x.C x.af.length x.cc,.slice x.I x.insts.length x.ic] 26 (0,0))
theorem aI.lt {w:World}{b:Nat}{x:di}(h:aI w b x):b<w.heap.size:=ae h
theorem aI.ext {w w':World}{b:Nat}{x:di}(h:aI w b x) (e:Ext w w'):aI w' b x:=(e.heap h.lt).trans h
theorem aI.cells {w:World}{b:Nat}{x:di}(h:aI w b x):w.cell? ⟨b,0,none⟩=some (.slice x.D x.aA.length x.dc)∧w.cell? ⟨b,1,none⟩=some (.slice x.C x.af.length x.cc)∧w.cell? ⟨b,2,none⟩=some (.slice x.I x.insts.length x.ic):=⟨ag h 0,ag h 1,ag h 2⟩
theorem aI.new (w:World) (x:di):aI (w.alloc (.cells #[.slice x.D x.aA.length x.dc,.slice x.C x.af.length x.cc,.slice x.I x.insts.length x.ic] 26)) w.heap.size x:=ah _ _ _ rfl
end Go.Proofs.YtigafbmabjglfaaGreatDoor
