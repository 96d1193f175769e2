import Derived.Test.YtigafbmabjglfaaGreatDoorJT10
import Derived.Deep.Cut
namespace Go.Proofs.YtigafbmabjglfaaGreatDoor
open Go.RowKit Go.Shelf
set_option maxRecDepth 10000
set_option maxHeartbeats 8000000
theorem vu (t:Ty) (d n c:Nat) (w:World) (h:aC w t) (hc:w.heap[c]?=some (.cells #[.int .i64 n] 3 (0,0))) (hn:n≤1000000) :
  Calls Tryz.prog 166 #[bh t,.int .i64 d,.pointer (some ⟨c,0,none⟩)] w fun e w'=>e=.returned (.bool (decide (n+1≤4096)&&decide (d≤100)&&bH t.aq t.var t.args.length)) ∧
   w'.heap[c]?=some (.cells #[.int .i64 ((n+1:Nat):Int)] 3 (0,0))∧Tr c w (.bool false) w' (.bool false):=by
 have hlt:=ae hc;have X0:Ext w (w.alloc (.cells #[encStr t.aq,.int .i64 t.var,.slice t.A t.args.length t.cap] 53)):=(eR w).alloc _;have hc1:=(X0.heap hlt).trans hc;have hcell:(w.alloc (.cells #[encStr t.aq,.int .i64 t.var,.slice t.A t.args.length t.cap] 53)).cell? ⟨c,0,none⟩=some (.int .i64 n):=af hc1 0;have ia:(w.alloc (.cells #[encStr t.aq,.int .i64 t.var,.slice t.A t.args.length t.cap] 53)).frozen? ⟨c,0,none⟩=false:=ai hc1 0;have hs1:(w.setCell ⟨c,0,none⟩ (.int .i64 ((n:Int)+1))).heap.size=w.heap.size:=by simp[World.setCell]
 obtain⟨W,hW⟩:∃W,W=(w.setCell ⟨c,0,none⟩ (.int .i64 ((n:Int)+1))).alloc (.cells #[encStr t.aq,.int .i64 t.var,.slice t.A t.args.length t.cap] 53):=⟨_,rfl⟩;have HC:ahg (W.heap[c]?=some (.cells #[.int .i64 ((n+1:Nat):Int)] 3 (0,0))):=aa (by
  have h1:=aw hc 0 (.int .i64 ((n:Int)+1));rw[hW];exact(((eR _).alloc _).heap (by rw[hs1];exact hlt)).trans h1)
 have HT:ahg (Tr c w (.bool false) W (.bool false)):=aa (by
  have h1:Tr c w (.bool false) (w.setCell ⟨c,0,none⟩ (.int .i64 ((n:Int)+1))) (.bool false):=⟨rfl,rfl,rfl,by rw[hs1];exact ahi _,fun k _ hk _=>Below.heap_setCell _ ⟨c,0,none⟩ _ k hk,.inl rfl⟩;rw[hW];exact h1.trans (Tr.dt ((eR _).alloc _)))
 have HB:ahg (aP W w.heap.size t):=aa (by
  have:=aP.new (w.setCell ⟨c,0,none⟩ (.int .i64 ((n:Int)+1))) t;rw[hs1] at this;rw[hW];exact this)
 have qV:=aa (show W.cell? ⟨c,0,none⟩=some (.int .i64 ((n:Int)+1)) from af HC.o 0);have HW:=aa hW;clear hW;have HO:=aa (fun w'=>aa (JB t w'));have HM:=aa (fun w'=>aa (QK t.aq t.var t.args.length w' h.txt));clear h hc hc1 X0;generalize bH t.aq t.var t.args.length=R at *;unfold bh rW at *
 by_cases h1:n+1≤4096
 ·by_cases h2:d≤100
  ·have hR:(decide (n+1≤4096)&&decide (d≤100)&&R)=R:=by simp[h1,h2]
   rw[hR];clear hR;go_enter Tryz.func166,Tryz.ntmps166;go_upto_region 2 with fail;rw[←HW.o];clear hcell ia;have Mi:=qV.o;have b0:=HB.o.c0;have b1:=HB.o.c1;have b2:=HB.o.c2;have Mj:(decide (((n:Int)+1)≤4096))=true:=by simp;omega
   have Mk:(decide ((d:Int)≤100))=true:=by simp;omega
   clear h1 h2;go_wp2_with fail;refine(HO.o _).o.mono ?_;rintro e w2 ⟨rfl,hx2⟩;have X2:=aa hx2;clear hx2;go_wp2_with fail;refine(HM.o _).o.mono ?_;rintro e w3 ⟨rfl,hx3⟩;have X3:=aa (X2.o.trans hx3);clear hx3;go_wp2;go_ret;exact⟨rfl,(X3.o.heap (ae HC.o)).trans HC.o,HT.o.trans (Tr.dt X3.o)⟩
  ·have hR:(decide (n+1≤4096)&&decide (d≤100)&&R)=false:=by simp[h2]
   rw[hR];clear hR;go_enter Tryz.func166,Tryz.ntmps166;go_upto_region 2 with fail;rw[←HW.o];clear hcell ia;have Mi:=qV.o;have b0:=HB.o.c0;have b1:=HB.o.c1;have b2:=HB.o.c2;have Mj:(decide (((n:Int)+1)≤4096))=true:=by simp;omega
   have Mk:(decide ((d:Int)≤100))=false:=by simp;omega
   clear h1 h2;go_wp2;go_ret;exact⟨rfl,HC.o,HT.o⟩
 ·have hR:(decide (n+1≤4096)&&decide (d≤100)&&R)=false:=by simp[h1]
  rw[hR];clear hR;go_enter Tryz.func166,Tryz.ntmps166;go_upto_region 2 with fail;rw[←HW.o];clear hcell ia;have Mi:=qV.o;have b0:=HB.o.c0;have b1:=HB.o.c1;have b2:=HB.o.c2;have Mj:(decide (((n:Int)+1)≤4096))=false:=by simp;omega
  clear h1;go_wp2;go_ret;exact⟨rfl,HC.o,HT.o⟩
set_option maxRecDepth 512
set_option maxHeartbeats 200000
theorem lg : eU 166:=enters_of Tryz.func166 (by kernel_rfl) rfl
def Ei (p:Nat×Ty):Bool:=decide (p.1≤100)&&bH p.2.aq p.2.var p.2.args.length
theorem pD (t:Ty):az t=true↔((t.gU 1).length≤4096∧∀p∈t.gU 1,Ei p=true):=by
 unfold az bE;rw[DN _ t 1,oX];simp only[ahv,decide_eq_true_eq,ahA,Ei];have hl:=vo 100 t 1
 constructor
 ·rintro⟨⟨h1,h2⟩,h3⟩;exact⟨h1,fun p hp=>⟨hl.2 (by omega) p hp,h3 p hp⟩⟩
 ·rintro⟨h1,h2⟩;exact⟨⟨h1,by have:=hl.1 (fun p hp=>(h2 p hp).1);omega⟩,fun p hp=>(h2 p hp).2⟩
set_option maxRecDepth 10000
set_option maxHeartbeats 8000000
theorem oG (t:Ty) (w:World) (h:aC w t) (hsz:t.size≤900000):Calls Tryz.prog 120 #[bh t] w fun e w'=>e=.returned (.bool (az t))∧Ext w w':=by
 have HB:=aa (aP.new w t);have X1:Ext w ((w.alloc (.cells #[encStr t.aq,.int .i64 t.var,.slice t.A t.args.length t.cap] 53)).alloc (.cells #[.int .i64 0] 3)):=((eR w).alloc _).alloc _;have hs:(w.alloc (.cells #[encStr t.aq,.int .i64 t.var,.slice t.A t.args.length t.cap] 53)).heap.size=w.heap.size+1:=by simp
 have hc:((w.alloc (.cells #[encStr t.aq,.int .i64 t.var,.slice t.A t.args.length t.cap] 53)).alloc (.cells #[.int .i64 0] 3)).heap[w.heap.size+1]?=some (.cells #[.int .i64 0] 3 (0,0)):=by
  have:=ah (w.alloc (.cells #[encStr t.aq,.int .i64 t.var,.slice t.A t.args.length t.cap] 53)) (.cells #[Value.int .i64 0] 3) (w.heap.size+1) hs.symm;exact this
 have HW:=aa (xP 166 #[.pointer (some ⟨w.heap.size+1,0,none⟩)] lg w (w.heap.size+1) 1000000
  (fun pre w' v=>v=.bool false∧w'.heap[w.heap.size+1]?=some (.cells #[.int .i64 pre.length] 3 (0,0))∧pre.length≤4096∧∀p∈pre,Ei p=true)
  (fun pre _ _=>¬(pre.length≤4096∧∀p∈pre,Ei p=true))
  (fun pre w1 w2 v hj e=>⟨hj.1,(e.heap (ae hj.2.1)).trans hj.2.1,hj.2.2⟩)
  (fun pre w1 v hj=>⟨by omega,ae hj.2.1,fun k hk=>by rw[hj.1] at hk;cases hk⟩)
  (fun pre x w1 v hj hN hx ht=>by
   obtain⟨rfl,hcell,hlen,hall⟩:=hj;refine(vu x.2 x.1 pre.length (w.heap.size+1) w1 ht hcell (by omega)).mono ?_;rintro e w2 ⟨rfl,hc2,hT⟩;refine⟨.bool false,hT,?_⟩
   by_cases bP:pre.length+1≤4096∧Ei x=true
   ·left
    refine⟨?_,rfl,by rw[ahn];exact hc2,by rw[ahn];exact bP.1,?_⟩
    ·have h2:=bP.2;unfold Ei at h2;rw[Bool.and_assoc,h2,Bool.and_true,decide_eq_true bP.1]
    ·intro p hp
     rcases List.mem_append.1 hp with hp|hp
     ·exact hall p hp
     ·rw[ahx] at hp;rw[hp];exact bP.2
   ·right
    refine⟨?_,?_⟩
    ·have:(decide (pre.length+1≤4096)&&(decide (x.1≤100)&&bH x.2.aq x.2.var x.2.args.length))=false:=by
      rw[←Bool.not_eq_true,ahv,decide_eq_true_eq];exact bP
     rw[Bool.and_assoc,this]
    ·rintro⟨h1,h2⟩;rw[ahn] at h1;exact bP ⟨h1,h2 x (by simp)⟩)
  t 1 [] ((w.alloc (.cells #[encStr t.aq,.int .i64 t.var,.slice t.A t.args.length t.cap] 53)).alloc (.cells #[.int .i64 0] 3)) (.bool false) h X1.below ⟨rfl,hc,by decide,by simp⟩ (by omega) (by simp;omega))
 have HL:=aa (pD t);have HX:=aa X1;clear h hc hs X1;generalize az t=R at *;unfold bh at *;go_enter Tryz.func120,Tryz.ntmps120;go_wp2_with fail;refine HW.o.mono ?_;rintro e w2 ⟨v2,hT,(⟨rfl,hj⟩|⟨rfl,q,hq,hx⟩)⟩
 ·have HE:=aa (Ext.cg (HX.o.below.trans (hT.below HX.o.size (by omega) (fun k e=>by cases e))) (ahi _));have HR:=aa (HL.o.2 ⟨hj.2.2.1,hj.2.2.2⟩);clear hT hj;go_wp2;go_ret;exact⟨by rw[HR.o];rfl,HE.o⟩
 ·have HE:=aa (Ext.cg (HX.o.below.trans (hT.below HX.o.size (by omega) (fun k e=>by cases e))) (ahi _));have HR:ahg (R=false):=aa (by
   rw[←Bool.not_eq_true];intro h;obtain⟨h1,h2⟩:=HL.o.1 h;obtain⟨r,hr⟩:=hq;have h3:q.length≤4096:=by rw[←hr,ahn] at h1;omega
   exact hx ⟨by simpa using h3,fun p hp=>h2 p (by rw[←hr];exact List.mem_append_left _ (by simpa using hp))⟩)
  clear hT hx hq;go_wp2;go_ret;exact⟨by rw[HR.o];rfl,HE.o⟩
set_option maxRecDepth 512
set_option maxHeartbeats 200000
def pF (z:Int):Bool:=decide (z≥48)&&decide (z≤57)
theorem Bc (z:Int) (w:World):Calls Tryz.prog 221 #[.int .u8 z] w fun e w'=>e=.returned (.bool (gz z))∧w'=w:=by
 have HR:ahg (gz z=((decide (z≥97)&&decide (z≤122))||z == 95)):=aa rfl;generalize gz z=R at *
 by_cases h1:z≥97
 ·by_cases h2:z≤122
  ·go_enter Tryz.func221,Tryz.ntmps221;go_wp2;go_ret;exact⟨by rw[HR.o];simp[h1,h2],rfl⟩
  ·by_cases h3:z=95
   ·omega
   ·go_enter Tryz.func221,Tryz.ntmps221;go_wp2;go_ret;exact⟨by rw[HR.o];simp[h2,h3],rfl⟩
 ·by_cases h3:z=95
  ·go_enter Tryz.func221,Tryz.ntmps221;go_wp2;go_ret;exact⟨by rw[HR.o];simp[h3];try omega,rfl⟩
  ·go_enter Tryz.func221,Tryz.ntmps221;go_wp2;go_ret;exact⟨by rw[HR.o];simp[h3];try omega,rfl⟩
theorem r6 (z:Int) (w:World):Calls Tryz.prog 146 #[.int .u8 z] w fun e w'=>e=.returned (.bool (cW z))∧w'=w:=by
 have HR:ahg (cW z=(decide (z≥65)&&decide (z≤90))):=aa rfl;generalize cW z=R at *
 by_cases h1:z≥65
 ·go_enter Tryz.func146,Tryz.ntmps146;go_wp2;go_ret;exact⟨by rw[HR.o];simp[h1],rfl⟩
 ·go_enter Tryz.func146,Tryz.ntmps146;go_wp2;go_ret;exact⟨by rw[HR.o];simp;omega,rfl⟩
theorem Bd (z:Int) (w:World):Calls Tryz.prog 222 #[.int .u8 z] w fun e w'=>e=.returned (.bool (pF z))∧w'=w:=by
 have HR:ahg (pF z=(decide (z≥48)&&decide (z≤57))):=aa rfl;generalize pF z=R at *
 by_cases h1:z≥48
 ·go_enter Tryz.func222,Tryz.ntmps222;go_wp2;go_ret;exact⟨by rw[HR.o];simp[h1],rfl⟩
 ·go_enter Tryz.func222,Tryz.ntmps222;go_wp2;go_ret;exact⟨by rw[HR.o];simp;omega,rfl⟩
theorem Nn (z:Int) (w:World):Calls Tryz.prog 194 #[.int .u8 z] w fun e w'=>e=.returned (.bool (zN z))∧w'=w:=by
 have HR:ahg (zN z=(gz z||cW z||pF z||z == 39)):=aa rfl;have H1:=aa (Bc z w);have H2:=aa (r6 z w);have H3:=aa (Bd z w);generalize zN z=R at *;generalize gz z=B1 at *;generalize cW z=B2 at *;generalize pF z=B3 at *;cases B1
 ·cases B2
  ·cases B3
   ·have hR:R=(z == 39):=by rw[HR.o];rfl
    clear HR;subst hR;go_enter Tryz.func194,Tryz.ntmps194;go_wp2_with fail;refine H1.o.mono ?_;rintro e w1 ⟨rfl,rfl⟩;go_wp2_with fail;refine H2.o.mono ?_;rintro e w1 ⟨rfl,rfl⟩;go_wp2_with fail;refine H3.o.mono ?_;rintro e w1 ⟨rfl,rfl⟩;go_wp2;go_ret;exact⟨rfl,rfl⟩
   ·have hR:R=true:=by rw[HR.o];rfl
    clear HR;subst hR;go_enter Tryz.func194,Tryz.ntmps194;go_wp2_with fail;refine H1.o.mono ?_;rintro e w1 ⟨rfl,rfl⟩;go_wp2_with fail;refine H2.o.mono ?_;rintro e w1 ⟨rfl,rfl⟩;go_wp2_with fail;refine H3.o.mono ?_;rintro e w1 ⟨rfl,rfl⟩;go_wp2;go_ret;exact⟨rfl,rfl⟩
  ·have hR:R=true:=by rw[HR.o];rfl
   clear HR;subst hR;go_enter Tryz.func194,Tryz.ntmps194;go_wp2_with fail;refine H1.o.mono ?_;rintro e w1 ⟨rfl,rfl⟩;go_wp2_with fail;refine H2.o.mono ?_;rintro e w1 ⟨rfl,rfl⟩;go_wp2;go_ret;exact⟨rfl,rfl⟩
 ·have hR:R=true:=by rw[HR.o];rfl
  clear HR;subst hR;go_enter Tryz.func194,Tryz.ntmps194;go_wp2_with fail;refine H1.o.mono ?_;rintro e w1 ⟨rfl,rfl⟩;go_wp2;go_ret;exact⟨rfl,rfl⟩
def Ml (s:aj):Bool:=(s.drop 1).all fun b=>zN (b.toNat:Nat)
set_option maxRecDepth 10000
set_option maxHeartbeats 8000000
theorem Np (s:aj) (w:World) (hl:s.length≤9223372036854775807) (h0:0<s.length):Calls Tryz.prog 147 #[encStr s] w fun e w'=>e=.returned (.bool (Ml s))∧w'=w:=by
 have HR:ahg ((s.drop 1).all (fun b=>zN (b.toNat:Nat))=Ml s):=aa rfl;generalize Ml s=R at *;go_enter Tryz.func147,Tryz.ntmps147;go_wp2
 go_loop [3] (fun i=>∃k:Nat,1≤k∧k≤s.length∧i=.int .i64 k∧ahg ((s.drop k).all (fun b=>zN (b.toNat:Nat))=R)) (fun i=>s.length - (intOf i).toNat)
 case atStart=>exact⟨1,ahi _,h0,rfl,HR⟩
 case round=>
  obtain⟨k,uX,hk,rfl,HK⟩:=hrel
  by_cases hlt:k<s.length
  ·have aS:(k:Int)<(s.length:Int):=by omega
   have dy:(0:Int)≤(k:Int):=by omega
   have Hb:ahg (s.drop k=s[k]'hlt :: s.drop (k+1)):=aa (List.drop_eq_getElem_cons hlt);generalize hb2:s[k]'hlt=b at *;rw[Hb.o,List.all_cons] at HK;have HN:=aa (fun w'=>Nn (b.toNat:Nat) w');generalize zN (b.toNat:Nat)=B1 at *;cases B1
   ·have hG:R=false:=by have:=HK.o;simpa using this.symm
    clear HK HR;subst hG;go_wp2_with fail;refine(HN.o _).mono ?_;rintro e w1 ⟨rfl,rfl⟩;go_wp2;go_ret;exact⟨rfl,rfl⟩
   ·go_wp2_with fail;refine(HN.o _).mono ?_;rintro e w1 ⟨rfl,rfl⟩;go_wp2
    go_round
    case rel=>exact⟨k+1,by omega,hlt,by go_num,aa (by simpa using HK.o)⟩
    case measure=>simp[intOf];omega
  ·have bU:(s.length:Int)≤(k:Int):=by omega
   have hG:R=true:=by have:=HK.o;rw[List.drop_eq_nil_of_le (by omega)] at this;exact this.symm
   clear HK HR;subst hG;go_wp2;go_ret;exact⟨rfl,rfl⟩
set_option maxRecDepth 512
set_option maxHeartbeats 200000
theorem JF {b:UInt8}{s:aj}(h:zN (b.toNat:Nat)=true):ml (b :: s)=Ml (b :: s):=by
 unfold ml Ml;rw[List.all_cons,h];rfl
theorem Nq (b:UInt8) (s:aj):cd (b :: s)=(cW (b.toNat:Nat)&&Ml (b :: s)):=by
 have e:cd (b :: s)=(cW (b.toNat:Nat)&&ml (b :: s)):=rfl;rw[e];cases h:cW (b.toNat:Nat)
 ·rfl
 ·rw[JF (by unfold zN;rw[h];simp)]
set_option maxRecDepth 10000
set_option maxHeartbeats 8000000
theorem kB (s:aj) (w:World) (hl:s.length≤9223372036854775807):Calls Tryz.prog 99 #[encStr s] w fun e w'=>e=.returned (.bool (cd s))∧w'=w:=by
 cases s with
 |nil=>
  go_enter Tryz.func99,Tryz.ntmps99;go_wp2;go_ret;exact⟨rfl,rfl⟩
 |cons b s=>
  have HC:ahg (cd (b :: s)=(cW (b.toNat:Nat)&&Ml (b :: s))):=aa (Nq b s);have HG:=aa (fun w'=>r6 (b.toNat:Nat) w');have HO:=aa (fun w'=>Np (b :: s) w' hl (by simp));generalize cd (b :: s)=R at *;generalize cW (b.toNat:Nat)=B1 at *;generalize Ml (b :: s)=B2 at *;cases B1
  ·have hR:R=false:=by rw[HC.o];rfl
   clear HC;subst hR;go_enter Tryz.func99,Tryz.ntmps99;go_wp2_with fail;refine(HG.o _).mono ?_;rintro e w1 ⟨rfl,rfl⟩;go_wp2;go_ret;exact⟨rfl,rfl⟩
  ·have hR:R=B2:=by rw[HC.o];rfl
   clear HC;subst hR;go_enter Tryz.func99,Tryz.ntmps99;go_wp2_with fail;refine(HG.o _).mono ?_;rintro e w1 ⟨rfl,rfl⟩;go_wp2_with fail;refine(HO.o _).mono ?_;rintro e w1 ⟨rfl,rfl⟩;go_wp2;go_ret;exact⟨rfl,rfl⟩
set_option maxRecDepth 512
set_option maxHeartbeats 200000
theorem mo (a b:Nat):((a:Int) == (b:Int))=(a == b):=by rw[Bool.eq_iff_iff];simp[Int.natCast_inj]
theorem ni (s:aj) (v:Int) (n:Nat):bH s v n=if s == [] then n == 0 else if s == [45,62] then v == 0&&n == 2 else if ft s then v == 0&&n == 0 else v == 0&&cd s:=rfl
theorem cL (t:Ty):bE t=(bH t.aq t.var t.args.length&&t.args.all bE):=fX _ t
set_option maxRecDepth 10000
set_option maxHeartbeats 8000000
theorem Be (t:Ty):∀(w:World),aC w t → 
  Calls Tryz.prog 149 #[bh t] w fun e w'=>e=.returned (.bool (bE t))∧Ext w w':=by
 induction t using Ty.ind with
 |h t ih=>
 intro w h;have IH:=aa ih;have Hk:=aa h.all;have hle:=h.le;have hmx:=h.max;have fj:=aa (aP.new w t);have X0:ahg (Ext w (w.alloc (.cells #[encStr t.aq,.int .i64 t.var,.slice t.A t.args.length t.cap] 53))):=aa ((eR w).alloc _);have HP:=aa (cL t);have HO:=aa (ni t.aq t.var t.args.length);have uW:=h.txt;have HF:=aa (fun w'=>aa (AY t.aq w' uW));have HC:=aa (fun w'=>aa (kB t.aq w' uW));generalize bE t=R at *;generalize bH t.aq t.var t.args.length=Q at *;clear ih h;unfold bh at *;go_enter Tryz.func149,Tryz.ntmps149;go_wp2;generalize (w.alloc (.cells #[encStr t.aq,.int .i64 t.var,.slice t.A t.args.length t.cap] 53))=w0 at *
 go_loopw [3] (fun i wr=>∃k:Nat,k≤t.args.length∧i=.int .i64 k∧ahg (∀x∈t.args.take k,bE x=true)∧ahg (Ext w0 wr)) (fun i _=>t.args.length - (intOf i).toNat)
 case atStart=>exact⟨0,ahj _,rfl,aa (by simp),aa (eR _)⟩
 case round=>
  obtain⟨k,hk,rfl,HA,HX⟩:=hrel;have HB:=aa (fj.o.ext HX.o);have hc2:=HB.o.c2
  by_cases hlt:k<t.args.length
  ·have aS:(k:Int)<(t.args.length:Int):=by omega
   have dy:(0:Int)≤(k:Int):=by omega
   obtain⟨b,o,hA,hb,q0,q1,q2⟩:=(Hk.o.ext (X0.o.trans HX.o)).at_ hlt;have cv:=ahh hlt;have cS:ahg (t.args.take (k+1)=t.args.take k++[t.args[k]'hlt]):=aa (ahl hlt);have mj:=aa (ahh hlt);have HC:=aa (IH.o _ cv wr ((Hk.o.args _ cv).ext (X0.o.trans HX.o)));rw[hA] at hc2;clear hA cv;generalize t.args[k]'hlt=c at *;cases hs:bE c
   ·rw[hs] at HC;have hR:R=false:=by
     rw[HP.o,Bool.and_eq_false_iff]
     right
     rw[←Bool.not_eq_true,ahA];intro h;rw[h _ mj.o] at hs;cases hs
    clear HP;subst hR;go_wp2_with fail;refine HC.o.mono ?_;rintro e w3 ⟨rfl,hx3⟩;have X3:=aa (HX.o.trans hx3);clear hx3;go_wp2;go_ret;exact⟨rfl,X0.o.trans X3.o⟩
   ·rw[hs] at HC;go_wp2_with fail;refine HC.o.mono ?_;rintro e w3 ⟨rfl,hx3⟩;have X3:=aa (HX.o.trans hx3);clear hx3;go_wp2;go_roundw
    case rel=>
     refine⟨k+1,hlt,by go_num,aa (fun x hx => ?_),X3⟩;rw[cS.o,List.mem_append,ahx] at hx
     rcases hx with hx|rfl
     ·exact HA.o x hx
     ·exact hs
    case measure=>simp[intOf];omega
  ·have bU:¬(k:Int)<(t.args.length:Int):=by omega
   have hR:R=Q:=by
    rw[HP.o];have:t.args.all bE=true:=List.all_eq_true.2 (fun x hx=>HA.o x (by rw[ahm (by omega)];exact hx));rw[this,Bool.and_true]
   clear HP;subst hR;have hc0:=HB.o.c0;have hc1:=HB.o.c1;cases h0:(t.aq == [])
   ·cases h1:(t.aq == [45,62])
    ·cases hf:ft t.aq
     ·rw[hf] at HF;cases hv:(t.var == 0)
      ·have hR:R=false:=by rw[HO.o,h0,h1,hf,hv];rfl
       clear HO;subst hR;cases Dt:cd t.aq
       ·rw[Dt] at HC;go_wp2_with fail;refine(HF.o _).o.mono ?_;rintro e w3 ⟨rfl,hx3⟩;have X3:=aa (HX.o.trans hx3);have qW:=aa (HB.o.ext hx3);have d0:=qW.o.c0;have d1:=qW.o.c1;clear hx3;go_wp2_with fail;refine(HC.o _).o.mono ?_;rintro e w4 ⟨rfl,rfl⟩;go_wp2;go_ret;exact⟨rfl,X0.o.trans X3.o⟩
       ·rw[Dt] at HC;go_wp2_with fail;refine(HF.o _).o.mono ?_;rintro e w3 ⟨rfl,hx3⟩;have X3:=aa (HX.o.trans hx3);have qW:=aa (HB.o.ext hx3);have d0:=qW.o.c0;have d1:=qW.o.c1;clear hx3;go_wp2_with fail;refine(HC.o _).o.mono ?_;rintro e w4 ⟨rfl,rfl⟩;go_wp2;go_ret;exact⟨rfl,X0.o.trans X3.o⟩
      ·have hR:R=cd t.aq:=by rw[HO.o,h0,h1,hf,hv];rfl
       clear HO;subst hR;cases Dt:cd t.aq
       ·rw[Dt] at HC;go_wp2_with fail;refine(HF.o _).o.mono ?_;rintro e w3 ⟨rfl,hx3⟩;have X3:=aa (HX.o.trans hx3);have qW:=aa (HB.o.ext hx3);have d0:=qW.o.c0;have d1:=qW.o.c1;clear hx3;go_wp2_with fail;refine(HC.o _).o.mono ?_;rintro e w4 ⟨rfl,rfl⟩;go_wp2;go_ret;exact⟨by rw[Dt];rfl,X0.o.trans X3.o⟩
       ·rw[Dt] at HC;go_wp2_with fail;refine(HF.o _).o.mono ?_;rintro e w3 ⟨rfl,hx3⟩;have X3:=aa (HX.o.trans hx3);have qW:=aa (HB.o.ext hx3);have d0:=qW.o.c0;have d1:=qW.o.c1;clear hx3;go_wp2_with fail;refine(HC.o _).o.mono ?_;rintro e w4 ⟨rfl,rfl⟩;go_wp2;go_ret;exact⟨by rw[Dt];rfl,X0.o.trans X3.o⟩
     ·rw[hf] at HF;have HR:ahg (R=(t.var == 0&&t.args.length == 0)):=aa (by rw[HO.o,h0,h1,hf];rfl);clear HO;go_wp2_with fail;refine(HF.o _).o.mono ?_;rintro e w3 ⟨rfl,hx3⟩;have X3:=aa (HX.o.trans hx3);have qW:=aa (HB.o.ext hx3);have d0:=qW.o.c0;have d1:=qW.o.c1;clear hx3;have dJ:ahg (R=(((t.args.length:Int) == 0)&&(t.var == 0))):=aa (by rw[HR.o,Bool.and_comm,←mo];rfl);clear HR;cases hn:((t.args.length:Int) == 0)
      ·have hR:R=false:=by rw[dJ.o,hn];rfl
       clear dJ;subst hR;go_wp2;go_ret;exact⟨rfl,X0.o.trans X3.o⟩
      ·cases hv:(t.var == 0)
       ·have hR:R=false:=by rw[dJ.o,hv,Bool.and_false]
        clear dJ;subst hR;go_wp2;go_ret;exact⟨rfl,X0.o.trans X3.o⟩
       ·have hR:R=true:=by rw[dJ.o,hv,hn];rfl
        clear dJ;subst hR;go_wp2;go_ret;exact⟨rfl,X0.o.trans X3.o⟩
    ·have HR:ahg (R=(t.var == 0&&t.args.length == 2)):=aa (by rw[HO.o,h0,h1];rfl);clear HO;have dJ:ahg (R=(((t.args.length:Int) == 2)&&(t.var == 0))):=aa (by rw[HR.o,Bool.and_comm,←mo];rfl);clear HR;cases hn:((t.args.length:Int) == 2)
     ·have hR:R=false:=by rw[dJ.o,hn];rfl
      clear dJ;subst hR;go_wp2;go_ret;exact⟨rfl,X0.o.trans HX.o⟩
     ·cases hv:(t.var == 0)
      ·have hR:R=false:=by rw[dJ.o,hv,Bool.and_false]
       clear dJ;subst hR;go_wp2;go_ret;exact⟨rfl,X0.o.trans HX.o⟩
      ·have hR:R=true:=by rw[dJ.o,hv,hn];rfl
       clear dJ;subst hR;go_wp2;go_ret;exact⟨rfl,X0.o.trans HX.o⟩
   ·have HR:ahg (R=(t.args.length == 0)):=aa (by rw[HO.o,h0];rfl);clear HO;go_wp2;go_ret;refine⟨?_,X0.o.trans HX.o⟩;rw[HR.o];exact congrArg (fun b=>Ending.returned (.bool b)) (show((t.args.length:Int) == 0)=(t.args.length == 0) by rw[Bool.eq_iff_iff];simp)
theorem gi (t:Ty) (w:World) (h:aC w t) (hsz:t.size≤900000):Calls Tryz.prog 100 #[bh t] w fun e w'=>e=.returned (.bool (az t))∧Ext w w':=by
 have HB:=aa (aP.new w t);have X0:ahg (Ext w (w.alloc (.cells #[encStr t.aq,.int .i64 t.var,.slice t.A t.args.length t.cap] 53))):=aa ((eR w).alloc _);have H1:=aa (fun w' (e:Ext w w')=>aa (py t w' (h.ext e) (by omega)));have H2:=aa (fun w' (e:Ext w w')=>aa (rX t w' (h.ext e) (by omega)));have H3:=aa (fun w' (e:Ext w w')=>aa (Be t w' (h.ext e)));have HL:ahg (az t=(decide (t.size≤4096)&&decide (t.depth≤100)&&bE t)):=aa rfl;clear h;generalize az t=R at *;generalize bE t=Q at *;unfold bh at *;have Ej:decide ((t.size:Int)≤4096)=decide (t.size≤4096):=by rw[Bool.eq_iff_iff];simp;omega
 have I4:decide ((t.depth:Int)≤100)=decide (t.depth≤100):=by rw[Bool.eq_iff_iff];simp;omega
 generalize t.size=sz at *;generalize t.depth=dp at *;cases h1:decide (sz≤4096)
 ·rw[h1] at HL Ej;have hR:R=false:=by rw[HL.o];rfl
  clear HL h1 I4 hsz;subst hR;go_enter Tryz.func100,Tryz.ntmps100;go_wp2_with fail;refine(H1.o _ X0.o).o.mono ?_;rintro e w2 ⟨rfl,hx2⟩;go_wp2;go_ret;exact⟨rfl,X0.o.trans hx2⟩
 ·rw[h1] at HL Ej;cases h2:decide (dp≤100)
  ·rw[h2] at HL I4;have hR:R=false:=by rw[HL.o];rfl
   clear HL h1 h2 hsz;subst hR;go_enter Tryz.func100,Tryz.ntmps100;go_wp2_with fail;refine(H1.o _ X0.o).o.mono ?_;rintro e w2 ⟨rfl,hx2⟩;have X2:=aa (X0.o.trans hx2);have B2:=aa (HB.o.ext hx2);have c0:=B2.o.c0;have c1:=B2.o.c1;have c2:=B2.o.c2;clear hx2;go_wp2_with fail;refine(H2.o _ X2.o).o.mono ?_;rintro e w3 ⟨rfl,hx3⟩;go_wp2;go_ret;exact⟨rfl,X2.o.trans hx3⟩
  ·rw[h2] at HL I4;have hR:R=Q:=by rw[HL.o];rfl
   clear HL h1 h2 hsz;subst hR;go_enter Tryz.func100,Tryz.ntmps100;go_wp2_with fail;refine(H1.o _ X0.o).o.mono ?_;rintro e w2 ⟨rfl,hx2⟩;have X2:=aa (X0.o.trans hx2);have B2:=aa (HB.o.ext hx2);have c0:=B2.o.c0;have c1:=B2.o.c1;have c2:=B2.o.c2;clear hx2;go_wp2_with fail;refine(H2.o _ X2.o).o.mono ?_;rintro e w3 ⟨rfl,hx3⟩;have X3:=aa (X2.o.trans hx3);have B3:=aa (B2.o.ext hx3);have d0:=B3.o.c0;have d1:=B3.o.c1;have d2:=B3.o.c2;clear hx3 c0 c1 c2;go_wp2_with fail;refine(H3.o _ X3.o).o.mono ?_;rintro e w4 ⟨rfl,eP⟩;go_wp2;go_ret;exact⟨rfl,X3.o.trans eP⟩
set_option maxRecDepth 512
set_option maxHeartbeats 200000
structure Pd where
 cls:aj
 ty:Ty
def Pd.cells (p:Pd):List Value:=[encStr p.cls,encStr p.ty.aq,.int .i64 p.ty.var,.slice p.ty.A p.ty.args.length p.ty.cap]
def kC : fq Pd:=⟨4,Pd.cells,fun _=>rfl,by omega⟩
@[go_sem] def jC (p:Pd):Value:=.agg #[encStr p.cls,encStr p.ty.aq,.int .i64 p.ty.var,.slice p.ty.A p.ty.args.length p.ty.cap]
structure eV (w:World) (p:Pd):Prop where
 cls:p.cls.length≤1000000000000000000
 ty:aC w p.ty
structure bA (w:World) (A:Option Addr) (l:List Pd):Prop where
 row:ak kC w A l
 all:∀p∈l,eV w p
section
variable {w w':World}{p:Pd}{A:Option Addr}{l:List Pd}
theorem eV.ext (h:eV w p) (e:Ext w w'):eV w' p:=⟨h.cls,h.ty.ext e⟩
theorem bA.ext (h:bA w A l) (e:Ext w w'):bA w' A l:=⟨ak.ext kC h.row e,fun p hp=>(h.all p hp).ext e⟩
theorem bA.at_ (h:bA w A l){i:Nat}(hi:i<l.length) :
  ∃b o,A=some ⟨b,o,none⟩∧b<w.heap.size∧w.cell? ⟨b,o+i*4,none⟩=some (.string ⟨(l[i]'hi).cls.toArray⟩)∧w.cell? ⟨b,o+i*4+1,none⟩=some (.string ⟨(l[i]'hi).ty.aq.toArray⟩) ∧
   w.cell? ⟨b,o+i*4+2,none⟩=some (.int .i64 (l[i]'hi).ty.var)∧w.cell? ⟨b,o+i*4+3,none⟩=some (.slice (l[i]'hi).ty.A (l[i]'hi).ty.args.length (l[i]'hi).ty.cap):=by
 obtain⟨b,o,e,hb,hc⟩:=ak.at_ kC h.row hi;refine⟨b,o,e,hb,?_,?_,?_,?_⟩
 ·have:=hc 0 (by decide);simpa [kC,Pd.cells] using this
 ·have:=hc 1 (by decide);simpa [kC,Pd.cells] using this
 ·have:=hc 2 (by decide);simpa [kC,Pd.cells] using this
 ·have:=hc 3 (by decide);simpa [kC,Pd.cells] using this
end
def aY (w:World) (b:Nat) (p:Pd):Prop:=w.heap[b]?=some (.cells #[encStr p.cls,encStr p.ty.aq,.int .i64 p.ty.var,.slice p.ty.A p.ty.args.length p.ty.cap] 55 (0,0))
section
variable {w w':World}{b:Nat}{p:Pd}
theorem aY.new (w:World) (p:Pd):aY (w.alloc (.cells #[encStr p.cls,encStr p.ty.aq,.int .i64 p.ty.var,.slice p.ty.A p.ty.args.length p.ty.cap] 55)) w.heap.size p:=ah _ _ _ rfl
theorem aY.lt (h:aY w b p):b<w.heap.size:=ae h
theorem aY.ext (h:aY w b p) (e:Ext w w'):aY w' b p:=(e.heap h.lt).trans h
theorem aY.cells (h:aY w b p):w.cell? ⟨b,0,none⟩=some (encStr p.cls)∧w.cell? ⟨b,1,none⟩=some (encStr p.ty.aq)∧w.cell? ⟨b,2,none⟩=some (.int .i64 p.ty.var)∧w.cell? ⟨b,3,none⟩=some (.slice p.ty.A p.ty.args.length p.ty.cap):=
 ⟨af h 0,af h 1,af h 2,af h 3⟩
end
noncomputable def eQ (p:Pd):Bool:=cd p.cls&&az p.ty
structure vv where
 name:aj
 A:Option Addr
 cap:Nat
 types:List Ty
def vv.cells (x:vv):List Value:=[encStr x.name,.slice x.A x.types.length x.cap]
def Nr : fq vv:=⟨2,vv.cells,fun _=>rfl,by omega⟩
structure Bf (w:World) (x:vv):Prop where
 txt:x.name.length≤1000000000000000000
 le:x.types.length≤x.cap
 max:x.cap≤9223372036854775807
 row:bF w x.A x.types
theorem Bf.ext {w w':World}{x:vv}(h:Bf w x) (e:Ext w w'):Bf w' x:=⟨h.txt,h.le,h.max,h.row.ext e⟩
structure r7 (w:World) (A:Option Addr) (l:List vv):Prop where
 row:ak Nr w A l
 all:∀x∈l,Bf w x
theorem r7.ext {w w':World}{A:Option Addr}{l:List vv}(h:r7 w A l) (e:Ext w w'):r7 w' A l:=⟨ak.ext Nr h.row e,fun x hx=>(h.all x hx).ext e⟩
theorem r7.at_ {w:World}{A:Option Addr}{l:List vv}(h:r7 w A l){i:Nat}(hi:i<l.length) :
  ∃b o,A=some ⟨b,o,none⟩∧b<w.heap.size∧w.cell? ⟨b,o+i*2,none⟩=some (.string ⟨(l[i]'hi).name.toArray⟩)∧w.cell? ⟨b,o+i*2+1,none⟩=some (.slice (l[i]'hi).A (l[i]'hi).types.length (l[i]'hi).cap):=by
 obtain⟨b,o,e,hb,hc⟩:=ak.at_ Nr h.row hi;refine⟨b,o,e,hb,?_,?_⟩
 ·have:=hc 0 (by decide);simpa [Nr,vv.cells] using this
 ·have:=hc 1 (by decide);simpa [Nr,vv.cells] using this
structure og where
 name:aj
 n:Int
 A:Option Addr
 cap:Nat
 cons:List vv
def og.cells (x:og):List Value:=[encStr x.name,.int .i64 x.n,.slice x.A x.cons.length x.cap]
def Mm : fq og:=⟨3,og.cells,fun _=>rfl,by omega⟩
structure Bg (w:World) (x:og):Prop where
 txt:x.name.length≤1000000000000000000
 le:x.cons.length≤x.cap
 max:x.cap≤9223372036854775807
 row:r7 w x.A x.cons
theorem Bg.ext {w w':World}{x:og}(h:Bg w x) (e:Ext w w'):Bg w' x:=⟨h.txt,h.le,h.max,h.row.ext e⟩
structure mq (w:World) (A:Option Addr) (l:List og):Prop where
 row:ak Mm w A l
 all:∀x∈l,Bg w x
theorem mq.ext {w w':World}{A:Option Addr}{l:List og}(h:mq w A l) (e:Ext w w'):mq w' A l:=⟨ak.ext Mm h.row e,fun x hx=>(h.all x hx).ext e⟩
theorem mq.nil (w:World) (A:Option Addr):mq w A []:=⟨ak.nil _ _ _,by simp⟩
theorem mq.at_ {w:World}{A:Option Addr}{l:List og}(h:mq w A l){i:Nat}(hi:i<l.length) :
  ∃b o,A=some ⟨b,o,none⟩∧b<w.heap.size∧w.cell? ⟨b,o+i*3,none⟩=some (.string ⟨(l[i]'hi).name.toArray⟩)∧w.cell? ⟨b,o+i*3+1,none⟩=some (.int .i64 (l[i]'hi).n)∧w.cell? ⟨b,o+i*3+2,none⟩=some (.slice (l[i]'hi).A (l[i]'hi).cons.length (l[i]'hi).cap):=by
 obtain⟨b,o,e,hb,hc⟩:=ak.at_ Mm h.row hi;refine⟨b,o,e,hb,?_,?_,?_⟩
 ·have:=hc 0 (by decide);simpa [Mm,og.cells] using this
 ·have:=hc 1 (by decide);simpa [Mm,og.cells] using this
 ·have:=hc 2 (by decide);simpa [Mm,og.cells] using this
def mr (w:World) (b:Nat) (x:og):Prop:=w.heap[b]?=some (.cells #[encStr x.name,.int .i64 x.n,.slice x.A x.cons.length x.cap] 99 (0,0))
theorem mr.lt {w:World}{b:Nat}{x:og}(h:mr w b x):b<w.heap.size:=ae h
theorem mr.cells {w:World}{b:Nat}{x:og}(h:mr w b x):w.cell? ⟨b,0,none⟩=some (encStr x.name)∧w.cell? ⟨b,1,none⟩=some (.int .i64 x.n)∧w.cell? ⟨b,2,none⟩=some (.slice x.A x.cons.length x.cap):=⟨af h 0,af h 1,af h 2⟩
theorem mr.new (w:World) (x:og):mr (w.alloc (.cells #[encStr x.name,.int .i64 x.n,.slice x.A x.cons.length x.cap] 99)) w.heap.size x:=ah _ _ _ rfl
structure tU where
 name:aj
 n:Int
 ty:Ty
def tU.cells (x:tU):List Value:=[encStr x.name,.int .i64 x.n,encStr x.ty.aq,.int .i64 x.ty.var,.slice x.ty.A x.ty.args.length x.ty.cap]
def meC : fq tU:=⟨5,tU.cells,fun _=>rfl,by omega⟩
structure Bh (w:World) (x:tU):Prop where
 txt:x.name.length≤1000000000000000000
 row:aC w x.ty
theorem Bh.ext {w w':World}{x:tU}(h:Bh w x) (e:Ext w w'):Bh w' x:=⟨h.txt,h.row.ext e⟩
structure lh (w:World) (A:Option Addr) (l:List tU):Prop where
 row:ak meC w A l
 all:∀x∈l,Bh w x
theorem lh.ext {w w':World}{A:Option Addr}{l:List tU}(h:lh w A l) (e:Ext w w'):lh w' A l:=⟨ak.ext meC h.row e,fun x hx=>(h.all x hx).ext e⟩
theorem lh.nil (w:World) (A:Option Addr):lh w A []:=⟨ak.nil _ _ _,by simp⟩
theorem lh.at_ {w:World}{A:Option Addr}{l:List tU}(h:lh w A l){i:Nat}(hi:i<l.length) :
  ∃b o,A=some ⟨b,o,none⟩∧b<w.heap.size∧w.cell? ⟨b,o+i*5,none⟩=some (.string ⟨(l[i]'hi).name.toArray⟩)∧w.cell? ⟨b,o+i*5+1,none⟩=some (.int .i64 (l[i]'hi).n)∧w.cell? ⟨b,o+i*5+2,none⟩=some (.string ⟨(l[i]'hi).ty.aq.toArray⟩)∧w.cell? ⟨b,o+i*5+3,none⟩=some (.int .i64 (l[i]'hi).ty.var)∧w.cell? ⟨b,o+i*5+4,none⟩=some (.slice (l[i]'hi).ty.A (l[i]'hi).ty.args.length (l[i]'hi).ty.cap):=by
 obtain⟨b,o,e,hb,hc⟩:=ak.at_ meC h.row hi;refine⟨b,o,e,hb,?_,?_,?_,?_,?_⟩
 ·have:=hc 0 (by decide);simpa [meC,tU.cells] using this
 ·have:=hc 1 (by decide);simpa [meC,tU.cells] using this
 ·have:=hc 2 (by decide);simpa [meC,tU.cells] using this
 ·have:=hc 3 (by decide);simpa [meC,tU.cells] using this
 ·have:=hc 4 (by decide);simpa [meC,tU.cells] using this
structure dK where
 name:aj
 S:Option Addr
 sc:Nat
 cM:List aj
 A:Option Addr
 cap:Nat
 aX:List tU
def dK.cells (x:dK):List Value:=[encStr x.name,.slice x.S x.cM.length x.sc,.slice x.A x.aX.length x.cap]
def Ek : fq dK:=⟨3,dK.cells,fun _=>rfl,by omega⟩
@[go_sem] def V8 (x:dK):Value:=.agg #[encStr x.name,.slice x.S x.cM.length x.sc,.slice x.A x.aX.length x.cap]
structure Bj (w:World) (x:dK):Prop where
 txt:x.name.length≤1000000000000000000
 sle:x.cM.length≤x.sc
 QS:x.sc≤9223372036854775807
 JG:jh w x.S x.cM
 Ns:∀s∈x.cM,s.length≤1000000000000000000
 le:x.aX.length≤x.cap
 max:x.cap≤9223372036854775807
 row:lh w x.A x.aX
theorem Bj.ext {w w':World}{x:dK}(h:Bj w x) (e:Ext w w'):Bj w' x:=⟨h.txt,h.sle,h.QS,jS.2 (ak.ext kW (jS.1 h.JG) e),h.Ns,h.le,h.max,h.row.ext e⟩
structure lj (w:World) (A:Option Addr) (l:List dK):Prop where
 row:ak Ek w A l
 all:∀x∈l,Bj w x
theorem lj.ext {w w':World}{A:Option Addr}{l:List dK}(h:lj w A l) (e:Ext w w'):lj w' A l:=⟨ak.ext Ek h.row e,fun x hx=>(h.all x hx).ext e⟩
theorem lj.at_ {w:World}{A:Option Addr}{l:List dK}(h:lj w A l){i:Nat}(hi:i<l.length) :
  ∃b o,A=some ⟨b,o,none⟩∧b<w.heap.size∧w.cell? ⟨b,o+i*3,none⟩=some (.string ⟨(l[i]'hi).name.toArray⟩)∧w.cell? ⟨b,o+i*3+1,none⟩=some (.slice (l[i]'hi).S (l[i]'hi).cM.length (l[i]'hi).sc)∧w.cell? ⟨b,o+i*3+2,none⟩=some (.slice (l[i]'hi).A (l[i]'hi).aX.length (l[i]'hi).cap):=by
 obtain⟨b,o,e,hb,hc⟩:=ak.at_ Ek h.row hi;refine⟨b,o,e,hb,?_,?_,?_⟩
 ·have:=hc 0 (by decide);simpa [Ek,dK.cells] using this
 ·have:=hc 1 (by decide);simpa [Ek,dK.cells] using this
 ·have:=hc 2 (by decide);simpa [Ek,dK.cells] using this
structure cX where
 cls:aj
 aq:aj
 n:Int
 A:Option Addr
 cap:Nat
 preds:List Pd
def cX.cells (x:cX):List Value:=[encStr x.cls,encStr x.aq,.int .i64 x.n,.slice x.A x.preds.length x.cap]
def I5 : fq cX:=⟨4,cX.cells,fun _=>rfl,by omega⟩
@[go_sem] def Du (x:cX):Value:=.agg #[encStr x.cls,encStr x.aq,.int .i64 x.n,.slice x.A x.preds.length x.cap]
structure q9 (w:World) (x:cX):Prop where
 txt:x.cls.length≤1000000000000000000
 ctxt:x.aq.length≤1000000000000000000
 le:x.preds.length≤x.cap
 max:x.cap≤9223372036854775807
 row:bA w x.A x.preds
theorem q9.ext {w w':World}{x:cX}(h:q9 w x) (e:Ext w w'):q9 w' x:=⟨h.txt,h.ctxt,h.le,h.max,h.row.ext e⟩
structure jD (w:World) (A:Option Addr) (l:List cX):Prop where
 row:ak I5 w A l
 all:∀x∈l,q9 w x
theorem jD.ext {w w':World}{A:Option Addr}{l:List cX}(h:jD w A l) (e:Ext w w'):jD w' A l:=⟨ak.ext I5 h.row e,fun x hx=>(h.all x hx).ext e⟩
theorem jD.at_ {w:World}{A:Option Addr}{l:List cX}(h:jD w A l){i:Nat}(hi:i<l.length) :
  ∃b o,A=some ⟨b,o,none⟩∧b<w.heap.size∧w.cell? ⟨b,o+i*4,none⟩=some (.string ⟨(l[i]'hi).cls.toArray⟩)∧w.cell? ⟨b,o+i*4+1,none⟩=some (.string ⟨(l[i]'hi).aq.toArray⟩)∧w.cell? ⟨b,o+i*4+2,none⟩=some (.int .i64 (l[i]'hi).n)∧w.cell? ⟨b,o+i*4+3,none⟩=some (.slice (l[i]'hi).A (l[i]'hi).preds.length (l[i]'hi).cap):=by
 obtain⟨b,o,e,hb,hc⟩:=ak.at_ I5 h.row hi;refine⟨b,o,e,hb,?_,?_,?_,?_⟩
 ·have:=hc 0 (by decide);simpa [I5,cX.cells] using this
 ·have:=hc 1 (by decide);simpa [I5,cX.cells] using this
 ·have:=hc 2 (by decide);simpa [I5,cX.cells] using this
 ·have:=hc 3 (by decide);simpa [I5,cX.cells] using this
def eW (w:World) (b:Nat) (x:cX):Prop:=w.heap[b]?=some (.cells #[encStr x.cls,encStr x.aq,.int .i64 x.n,.slice x.A x.preds.length x.cap] 70 (0,0))
theorem eW.lt {w:World}{b:Nat}{x:cX}(h:eW w b x):b<w.heap.size:=ae h
theorem eW.ext {w w':World}{b:Nat}{x:cX}(h:eW w b x) (e:Ext w w'):eW w' b x:=(e.heap h.lt).trans h
theorem eW.cells {w:World}{b:Nat}{x:cX}(h:eW w b x):w.cell? ⟨b,0,none⟩=some (encStr x.cls)∧w.cell? ⟨b,1,none⟩=some (encStr x.aq)∧w.cell? ⟨b,2,none⟩=some (.int .i64 x.n)∧w.cell? ⟨b,3,none⟩=some (.slice x.A x.preds.length x.cap):=⟨af h 0,af h 1,af h 2,af h 3⟩
theorem eW.new (w:World) (x:cX):eW (w.alloc (.cells #[encStr x.cls,encStr x.aq,.int .i64 x.n,.slice x.A x.preds.length x.cap] 70)) w.heap.size x:=ah _ _ _ rfl
structure dz where
 D:Option Addr
 dc:Nat
 aA:List og
 C:Option Addr
 cc:Nat
 ag:List dK
 I:Option Addr
 ic:Nat
 insts:List cX
@[go_sem] def eX (x:dz):Value:=.agg #[.slice x.D x.aA.length x.dc,.slice x.C x.ag.length x.cc,.slice x.I x.insts.length x.ic]
structure dX (w:World) (x:dz):Prop where
 ZC:x.aA.length≤x.dc
 QT:x.dc≤9223372036854775807
 aA:mq w x.D x.aA
 Uv:x.ag.length≤x.cc
 JH:x.cc≤9223372036854775807
 ag:lj w x.C x.ag
 ile:x.insts.length≤x.ic
 imax:x.ic≤9223372036854775807
 insts:jD w x.I x.insts
theorem dX.ext {w w':World}{x:dz}(h:dX w x) (e:Ext w w'):dX w' x:=⟨h.ZC,h.QT,h.aA.ext e,h.Uv,h.JH,h.ag.ext e,h.ile,h.imax,h.insts.ext e⟩
def aJ (w:World) (b:Nat) (x:dz):Prop:=w.heap[b]?=some (.cells #[.slice x.D x.aA.length x.dc,.slice x.C x.ag.length x.cc,.slice x.I x.insts.length x.ic] 26 (0,0))
theorem aJ.lt {w:World}{b:Nat}{x:dz}(h:aJ w b x):b<w.heap.size:=ae h
theorem aJ.ext {w w':World}{b:Nat}{x:dz}(h:aJ w b x) (e:Ext w w'):aJ w' b x:=(e.heap h.lt).trans h
theorem aJ.cells {w:World}{b:Nat}{x:dz}(h:aJ w b x):w.cell? ⟨b,0,none⟩=some (.slice x.D x.aA.length x.dc)∧w.cell? ⟨b,1,none⟩=some (.slice x.C x.ag.length x.cc)∧w.cell? ⟨b,2,none⟩=some (.slice x.I x.insts.length x.ic):=⟨af h 0,af h 1,af h 2⟩
theorem aJ.new (w:World) (x:dz):aJ (w.alloc (.cells #[.slice x.D x.aA.length x.dc,.slice x.C x.ag.length x.cc,.slice x.I x.insts.length x.ic] 26)) w.heap.size x:=ah _ _ _ rfl
end Go.Proofs.YtigafbmabjglfaaGreatDoor
