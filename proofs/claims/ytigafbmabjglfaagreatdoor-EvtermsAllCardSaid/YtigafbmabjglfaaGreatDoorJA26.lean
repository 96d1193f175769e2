import Derived.Test.YtigafbmabjglfaaGreatDoorJA25
import Derived.Lib.AppendZeros
namespace Go.Proofs.YtigafbmabjglfaaGreatDoor
open Go.RowKit Go.Sort
theorem uU : (Tryz.prog.info? 9).map (fun i=>(i.zero,i.size,i.bytes))=some (some (.string ⟨#[]⟩),1,16):=by kernel_rfl
theorem dP.boxed {w:World}{b:Nat}{t:TypeId}{fr:Nat×Nat}(x:aj) (h:w.heap[b]?=some (.cells #[encStr x] t fr)):Row w (some ⟨b,0,none⟩) 1 1 [encStr x]:=by
 refine⟨rfl,fun _=>⟨b,0,rfl,ae h,fun j u hu => ?_⟩⟩
 match j with
 |0=>simp at hu;subst hu;simp[World.cell?,h]
 |j+1=>simp at hu
set_option maxRecDepth 10000
set_option maxHeartbeats 8000000
theorem pq (A:Option Addr) (cap:Nat) (l:List dm) (x:aj) (w0 w:World) (h:bV w0 A l) (he:Ext w0 w) (hle:l.length≤9223372036854775807) :
  Calls Tryz.prog 225 #[.slice A l.length cap,encStr x] w fun e w'=>(∃A' cap',e=.returned (.slice A' (dv l x).length cap')∧(dv l x).length≤cap'∧cap'≤9223372036854775807∧dP w0 A' (dv l x))∧w'=w:=by
 have Ha:=aa (kC A cap l x w (h.ext he) hle)
 rcases fT l x with ⟨e1,e2,_⟩|⟨k,hk,e1,e2,_⟩
 ·rw[e1] at Ha;rw[e2];clear e1 e2 h he;go_enter Tryz.func225,Tryz.ntmps225;go_wp2_with fail;refine Ha.o.mono ?_;rintro e w1 ⟨rfl,rfl⟩;go_wp2;go_ret;exact⟨⟨none,0,rfl,aiG _,by omega,dP.nil _⟩,rfl⟩
 ·rw[e1] at Ha;rw[e2];obtain⟨b,o,rfl,hb,hc0,hc1,hc2⟩:=(h.ext he).at_ hk;have Hs:=aa (h.sup _ (aiF hk));obtain⟨g1,g2⟩:=h.le _ (aiF hk);have FB:(k:Int)<(l.length:Int):=by omega
  have cV:¬(k:Int)<0:=by omega
  clear hc0 hc2 h e1 e2 he;generalize (l[k]'hk).sup=S at *;generalize (l[k]'hk).A=A1 at *;generalize (l[k]'hk).cap=c1 at *;go_enter Tryz.func225,Tryz.ntmps225;go_wp2_with fail;refine Ha.o.mono ?_;rintro e w1 ⟨rfl,rfl⟩;go_wp2;go_ret;exact⟨⟨A1,c1,rfl,g1,g2,Hs.o⟩,rfl⟩
set_option maxRecDepth 512
set_option maxHeartbeats 200000
theorem rN (A:Option Addr) (cap:Nat) (l:List dm) (x:aj) (w:World) (h:bV w A l) (hle:l.length≤9223372036854775807) :
  Calls Tryz.prog 225 #[.slice A l.length cap,encStr x] w fun e w'=>(∃A' cap',e=.returned (.slice A' (dv l x).length cap')∧(dv l x).length≤cap'∧cap'≤9223372036854775807∧dP w' A' (dv l x))∧w'=w:=
 (pq A cap l x w w h (eR _) hle).mono fun _ _ ⟨⟨A',c',h1,h2,h3,h4⟩,h5⟩=>⟨⟨A',c',h1,h2,h3,by rw[h5];exact h4⟩,h5⟩
theorem drop_cons {l:List aj}{i:Nat}(h:i<l.length):l.drop i=l.getD i [] :: l.drop (i+1):=by
 rw[List.drop_eq_getElem_cons h];simp[h]
set_option maxRecDepth 10000
set_option maxHeartbeats 8000000
theorem uV (A:Option Addr) (cap:Nat) (l:List dm) (x:aj) (w:World) (h:bV w A l) (hl:l.length≤9) (hs:∀c∈l,c.sup.length≤9) :
  Calls Tryz.prog 197 #[.slice A l.length cap,encStr x] w fun e w'=>(∃A' cap',e=.returned (.slice A' (fo l x).length cap')∧(fo l x).length≤cap'∧cap'≤9223372036854775807∧dP w' A' (fo l x))∧Ext w w':=by
 obtain⟨i0,hi,hz0,hz1,hz2⟩:=info_parts uU;have hB:=Ex l hl hs x;have HB:aiE (oF l x=(dv l x).length+iy l []):=aa rfl;have HR:aiE (eH l (oF l x) [] (dv l x)=fo l x):=aa rfl;have HC:=aa h;have aak:=aa hs;clear h hs;generalize fo l x=FN at *;generalize oF l x=B at *;go_enter Tryz.func197,Tryz.ntmps197;go_wp2_with fail;refine(rN A cap l x w HC.o (by omega)).mono ?_;generalize dv l x=S0 at *;rintro e w1 ⟨⟨A1,c1,rfl,g1,g2,hs0⟩,rfl⟩;have Hs:=aa hs0;clear hs0;go_wp2
 go_loopw [5,6,7] (fun v u i wr=>∃(n:Nat) (out row:List aj) (A6:Option Addr) (c6:Nat),n≤row.length∧out.length≤n∧row.length≤B∧i=.int .i64 n∧u=.slice A6 row.length c6∧row.length≤c6∧c6≤9223372036854775807 ∧
  aiE (row.length+iy l out≤B)∧aiE (dP wr A6 row)∧aiE (wr.ownsRow w1.heap.size 9 1 v out.length (out.map encStr))∧aiE (Ext w1 wr)∧aiE (∀c o,A6=some ⟨c,o,none⟩→v.ownBlock≠some c)∧aiE (eH l (B - n) out (row.drop n)=FN)) (fun _ _ i _=>B - (intOf i).toNat)
 case atStart=>exact⟨0,[],S0,A1,c1,aiH _,by simp,by have:=HB.o;omega,rfl,rfl,g1,g2,aa (by have:=HB.o;omega),Hs,aa (World.ownsRow_nil _ _ _ _),aa (eR _),aa (by intro c o _ h;cases h),HR⟩
 case round=>
  obtain⟨n,out,row,A6,c6,hn,hon,hrB,rfl,rfl,h1,h2,HM,Xw,HO,HX,Vb,HG⟩:=hrel
  by_cases hlt:n<row.length
  ·obtain⟨b6,o6,rfl,zk,q0⟩:=Xw.o.at_ hlt;have aN:(n:Int)<(row.length:Int):=by omega
   have zr:(0:Int)≤(n:Int):=by omega
   have Hd:=aa (drop_cons hlt);generalize row.getD n []=y at *;obtain⟨A5,c5,rfl,p1,p2,p3,_⟩:=dP.zl HO.o;have P3:=aa p3;clear p3;have Hh:=aa (kX A5 c5 out y _ P3.o (by omega));have hBn:B - n=(B - (n+1))+1:=by omega
   have PW:=aa hBn;clear hBn;cases ho:out.any (· == y)
   ·rw[ho] at Hh;have QJ:aiE (eH l (B - (n+1)) (out++[y]) ((row++dv l y).drop (n+1))=FN):=aa (by
     have:=HG.o;rw[Hd.o,PW.o] at this;unfold eH at this;rw[ho] at this;rw[List.drop_append_of_le_length (by omega)];exact this)
    have HMn:aiE ((row++dv l y).length+iy l (out++[y])≤B):=aa (by
     have:=uR l out y ho;have:=HM.o;rw[aiL];omega)
    have aam:(out++[y]).length≤n+1:=by simp;omega
    have vv:=rJ l aak.o y;have Hsp:=fun w' (e:Ext w1 w')=>aa (pq A cap l y w1 w' HC.o e (by omega))
    generalize dv l y=Y at *;have Ot:=aa Hsp;clear Hsp ho;go_wp2_with fail;refine Hh.o.mono ?_;rintro e w2 ⟨rfl,rfl⟩;go_wp2_with (at_builtin;refine aD _ rfl _ _ 65 rfl w1.heap.size 9 i0 _ 1 16 Tryz.underlying65 hi hz0 hz1 hz2 rfl (by decide) (.slice A5 out.length c5) out.length (out.map encStr) rfl (HO.o.alloc _) _ 1 1 [encStr y] rfl ?c2 ?c3 ?c4 ?c5 ?c6 ?_)
    case c2=>exact dP.boxed _ (ah _ _ _ (by simp))
    case c3=>intro y hy;simp at hy;subst hy;rfl
    case c4=>unfold maxLen;omega
    case c5=>omega
    case c6=>exact Ext.size (HX.o.alloc _)
    intro v3 w4 gO hg3 qW;have X4:aiE (Ext w1 w4):=aa (Ext.app (HX.o.alloc _) hg3 (HO.o.alloc _) (aiG _));have R4:aiE (dP w4 (some ⟨b6,o6,none⟩) row):=aa (Row.keep (Xw.o.ext (Ext.alloc (eR _) _)) hg3.size (fun b o e hb=>hg3.block b hb (fun h=>Vb.o b o e h.symm)));have D4:aiE (v3.ownBlock≠some b6):=aa (fun h=>by
     rcases qW with h3|h3
     ·exact Vb.o b6 o6 rfl (h3▸h)
     ·rw[h3] at h;injection h with h;first|omega|(simp at h;omega))
    have L4:=aa gO.lt;have O4:aiE (w4.ownsRow w1.heap.size 9 1 v3 (out++[y]).length ((out++[y]).map encStr)):=aa (by simpa using gO);have hb4:b6<w4.heap.size:=by have:=hg3.size;simp at this;omega
    have q4:w4.cell? ⟨b6,o6+n,none⟩=some (.string ⟨y.toArray⟩):=(World.cell?_of_block (a:=⟨b6,o6+n,none⟩) (hg3.block b6 (by simp;omega) (fun h=>Vb.o b6 o6 rfl h.symm))).trans (by simp[go_sem,q0,zk]);clear gO hg3 qW HO HX Xw Vb Hh q0 zk;go_wp2
    go_region_held3 (fun w'=>w'.cell? ⟨b6,o6+n,none⟩=some (.string ⟨y.toArray⟩)) (first|assumption|go_keep) (first
     |(
      refine aK _ rfl (.const (.slice none 0 0)) (.tmp 31) 65 rfl w4.heap.size 9 i0 _ 1 16 Tryz.underlying65 hi hz0 hz1 hz2 rfl (by decide) (.slice none 0 0) 0 [] rfl (World.ownsRow_nil _ _ _ _) (some ⟨b6,o6,none⟩) row.length c6 (row.map encStr) rfl (R4.o.ext (by repeat(first|exact eR _|exact eA (by assumption) _|refine eA ?_ _|refine eM ?_ _ _|refine eD ?_|refine eN ?_ _))) (xf _) (by unfold maxLen;omega) (by omega) (Ext.size (by repeat(first|exact eR _|exact eA (by assumption) _|refine eA ?_ _|refine eM ?_ _ _|refine eD ?_|refine eN ?_ _))) ?_;intro v7 w7 uH Og MA;have X7:aiE (Ext w4 w7):=aa (Ext.app (by repeat(first|exact eR _|exact eA (by assumption) _|refine eA ?_ _|refine eM ?_ _ _|refine eD ?_|refine eN ?_ _)) Og (World.ownsRow_nil _ w4.heap.size 9 1) (aiG _));have q7:w7.cell? ⟨b6,o6+n,none⟩=some (.string ⟨y.toArray⟩):=(World.cell?_of_block (a:=⟨b6,o6+n,none⟩) (X7.o.heap hb4)).trans q4;rw[Nat.zero_add,List.nil_append] at uH;have O7:=aa uH;clear uH Og MA)
     |(
      go_at_call 225
      refine Calls.mono (Ot.o _ ?e).o ?_
      case e=>first|(refine Ext.trans (X4.o.trans X7.o) ?_;(repeat(first|exact eR _|exact eA (by assumption) _|refine eA ?_ _|refine eM ?_ _ _|refine eD ?_|refine eN ?_ _));done)|(refine Ext.trans X4.o ?_;(repeat(first|exact eR _|exact eA (by assumption) _|refine eA ?_ _|refine eM ?_ _ _|refine eD ?_|refine eN ?_ _));done)
      rintro e w8 ⟨⟨A8,c8,rfl,s1,s2,s3⟩,rfl⟩;have S3:=aa (s3.ext X4.o);clear s3)
     |(
      refine aK _ rfl (.tmp 32) (.tmp 38) 65 rfl w4.heap.size 9 i0 _ 1 16 Tryz.underlying65 hi hz0 hz1 hz2 rfl (by decide) v7 row.length (row.map encStr) rfl (aZ O7.o (by repeat(first|exact eR _|exact eA (by assumption) _|refine eA ?_ _|refine eM ?_ _ _|refine eD ?_|refine eN ?_ _))) A8 Y.length c8 (Y.map encStr) rfl (S3.o.ext (X7.o.trans (by repeat(first|exact eR _|exact eA (by assumption) _|refine eA ?_ _|refine eM ?_ _ _|refine eD ?_|refine eN ?_ _)))) (xf _) (by unfold maxLen;omega) (by omega) (Ext.size (X7.o.trans (by repeat(first|exact eR _|exact eA (by assumption) _|refine eA ?_ _|refine eM ?_ _ _|refine eD ?_|refine eN ?_ _)))) ?_;intro v9 w9 uL ze MB;have X9:aiE (Ext w4 w9):=aa (Ext.app (X7.o.trans (by repeat(first|exact eR _|exact eA (by assumption) _|refine eA ?_ _|refine eM ?_ _ _|refine eD ?_|refine eN ?_ _))) ze (aZ O7.o (by repeat(first|exact eR _|exact eA (by assumption) _|refine eA ?_ _|refine eM ?_ _ _|refine eD ?_|refine eN ?_ _))) (aiG _));have q9:w9.cell? ⟨b6,o6+n,none⟩=some (.string ⟨y.toArray⟩):=(World.cell?_of_block (a:=⟨b6,o6+n,none⟩) (X9.o.heap hb4)).trans q4;have O9:=aa uL;clear uL ze MB))
    have h9:=O9.o;rw[←aiX,←aiL] at h9;obtain⟨A9,c9,rfl,r1,r2,r3,r4⟩:=dP.zl h9;have R9:=aa r3;have B9:=aa r4;clear h9 r3 r4 O9;go_wp2;go_roundw
    case rel=>exact⟨n+1,out++[y],row++Y,A9,c9,by simp;omega,aam,by have:=HMn.o;omega,by go_num,by first|rfl|rw[aiL],r1,r2,HMn,R9,aa (aZ O4.o X9.o),aa (X4.o.trans X9.o),aa (fun c o h=>fun hv=>by have:=(B9.o c o h).1;have:=L4.o c hv;omega),QJ⟩
    case measure=>simp[intOf];omega
   ·rw[ho] at Hh;have QJ:aiE (eH l (B - (n+1)) out (row.drop (n+1))=FN):=aa (by
     have:=HG.o;rw[Hd.o,PW.o] at this;unfold eH at this;rw[ho] at this;exact this)
    go_wp2_with fail;refine Hh.o.mono ?_;rintro e w1 ⟨rfl,rfl⟩;go_wp2;go_roundw
    case rel=>exact⟨n+1,out,row,some ⟨b6,o6,none⟩,c6,hlt,by omega,hrB,by go_num,rfl,h1,h2,HM,Xw,HO,HX,Vb,QJ⟩
    case measure=>simp[intOf];omega
  ·have bS:(row.length:Int)≤(n:Int):=by omega
   have Vc:=HG.o;rw[List.drop_eq_nil_of_le (by omega),yv] at Vc;subst Vc;obtain⟨A5,c5,rfl,p1,p2,p3,_⟩:=dP.zl HO.o;have P3:=aa p3;clear p3;go_wp2;go_ret;exact⟨⟨A5,c5,rfl,p1,p2,P3.o⟩,HX.o⟩
set_option maxRecDepth 512
set_option maxHeartbeats 200000
theorem yA {p:Nat→Bool}{n:Nat}(h:∀j,j<n→p j=true):(List.range n).all p=true:=by
 rw[aiY];intro j hj;exact h j (by simpa using hj)
theorem pW {p:Nat→Bool}{n k:Nat}(hk:k<n) (h:p k=false):(List.range n).all p=false:=by
 rw[List.all_eq_false];exact⟨k,by simpa using hk,by simp[h]⟩
theorem Cq (l:List dm) (x:aj):decide (fS l x<0) = !(names l).any (· == x):=by
 have:=vp (names l) x;unfold fS;rw[←this]
 by_cases h:ik (names l) x<0
 ·simp[h]
 ·simp[h];omega
def oJ (ns s:List aj) (k:Nat):Bool:=ns.any (· == s.getD k []) && !((s.take k).any (· == s.getD k []))
theorem AU (A:Option Addr) (cap:Nat) (l:List aj) (k:Nat) (x:aj) (w:World) (h:dP w A l) (hk:k≤l.length) (hle:l.length≤9223372036854775807) :
  Calls Tryz.prog 186 #[.slice A k cap,encStr x] w fun e w'=>e=.returned (.bool ((l.take k).any (· == x)))∧w'=w:=by
 have:=SJ A cap (l.take k) x w (h.take hk) (by rw[List.length_take];omega)
 rwa [List.length_take,Nat.min_eq_left hk] at this
theorem wJ (A:Option Addr) (cap:Nat) (l:List aj) (k:Nat) (x:aj) (w:World) (h:dP w A l) (hk:k≤l.length) (hle:l.length≤9223372036854775807) :
  Calls Tryz.prog 196 #[.slice A k cap,encStr x] w fun e w'=>e=.returned (.bool ((l.take k).any (· == x)))∧w'=w:=by
 have:=kX A cap (l.take k) x w (h.take hk) (by rw[List.length_take];omega)
 rwa [List.length_take,Nat.min_eq_left hk] at this
set_option maxRecDepth 10000
set_option maxHeartbeats 8000000
theorem ED (A:Option Addr) (cap:Nat) (l:List dm) (c:dm) (w:World) (h:bV w A l) (hl:l.length≤9223372036854775807) (hs:dP w c.A c.sup) (hc:c.sup.length≤c.cap) (hc2:c.cap≤9223372036854775807) :
  Calls Tryz.prog 137 #[.slice A l.length cap,.agg #[encStr c.name,.slice c.A c.sup.length c.cap,c.M0]] w fun e w'=>e=.returned (.bool (mH (names l) c.sup))∧Ext w w':=by
 have HK:aiE (mH (names l) c.sup=(List.range c.sup.length).all (oJ (names l) c.sup)):=aa rfl;have HN:aiE (∀k,oJ (names l) c.sup k=((names l).any (· == c.sup.getD k []) && !((c.sup.take k).any (· == c.sup.getD k [])))):=aa (fun k=>rfl);have Dh:=aa h;have iC:=aa hs;obtain⟨nm,A1,c1,S,mt⟩:=c;simp only at *;clear h hs;have hc3:(S.length:Int)≤(c1:Int):=by omega
 generalize mH (names l) S=R at *;go_enter Tryz.func137,Tryz.ntmps137;go_wp2
 go_loopw [10] (fun i wr=>∃k:Nat,k≤S.length∧i=.int .i64 k∧aiE (∀j,j<k→oJ (names l) S j=true)∧aiE (∃d,wr=(w.alloc (.cells #[encStr nm,.slice A1 S.length c1,mt] 68)).drewN d)) (fun i _=>S.length - (intOf i).toNat)
 case atStart=>exact⟨0,aiH _,rfl,aa (fun j hj=>absurd hj (by omega)),aa ⟨0,rfl⟩⟩
 case round=>
  obtain⟨k,hk,rfl,HJ,HW⟩:=hrel;obtain⟨d,rfl⟩:=HW.o
  by_cases hlt:k<S.length
  ·obtain⟨b,o,rfl,hb,q0⟩:=iC.o.at_ hlt;have aN:(k:Int)<(S.length:Int):=by omega
   have cV:(0:Int)≤(k:Int):=by omega
   have sB:(k:Int)≤(S.length:Int):=by omega
   have hk2:(k:Int)≤(c1:Int):=by omega
   have Hk:=aa (HN.o k);generalize S.getD k []=y at *;have Ha:=fun w' e=>aa (kB A cap l y w' (Dh.o.ext e) hl)
   have Hh:=fun w' e=>aa (AU (some ⟨b,o,none⟩) c1 S k y w' (iC.o.ext e) hk (by omega))
   have mD:=Cq l y;generalize fS l y=a at *;have HA:=aa Ha;have HH:=aa Hh;clear Ha Hh;cases h1:(names l).any (· == y)
   ·rw[h1] at mD Hk;simp only[Bool.not_false,decide_eq_true_eq] at mD;have hR:R=false:=by rw[HK.o];exact pW hlt (by rw[Hk.o];rfl)
    subst hR;go_wp2_with fail;refine(HA.o _ (by repeat(first|exact eR _|exact eA (by assumption) _|refine eA ?_ _|refine eM ?_ _ _|refine eD ?_|refine eN ?_ _))).o.mono ?_;rintro e w1 ⟨rfl,rfl⟩;go_wp2;go_ret;exact⟨rfl,(by repeat(first|exact eR _|exact eA (by assumption) _|refine eA ?_ _|refine eM ?_ _ _|refine eD ?_|refine eN ?_ _))⟩
   ·rw[h1] at mD Hk;simp only[Bool.not_true,decide_eq_false_iff_not] at mD;cases h2:(S.take k).any (· == y)
    ·rw[h2] at HH Hk;go_wp2_with fail;refine(HA.o _ (by repeat(first|exact eR _|exact eA (by assumption) _|refine eA ?_ _|refine eM ?_ _ _|refine eD ?_|refine eN ?_ _))).o.mono ?_;rintro e w1 ⟨rfl,rfl⟩;go_wp2_with fail;refine(HH.o _ (by repeat(first|exact eR _|exact eA (by assumption) _|refine eA ?_ _|refine eM ?_ _ _|refine eD ?_|refine eN ?_ _))).o.mono ?_;rintro e w1 ⟨rfl,rfl⟩;go_wp2;go_roundw
     case rel=>
      refine⟨k+1,hlt,by go_num,aa (fun j hj => ?_),aa ⟨_,rfl⟩⟩
      by_cases e:j=k
      ·subst e;rw[Hk.o];rfl
      ·exact HJ.o j (by omega)
     case measure=>simp[intOf];omega
    ·rw[h2] at HH Hk;have hR:R=false:=by rw[HK.o];exact pW hlt (by rw[Hk.o];rfl)
     subst hR;go_wp2_with fail;refine(HA.o _ (by repeat(first|exact eR _|exact eA (by assumption) _|refine eA ?_ _|refine eM ?_ _ _|refine eD ?_|refine eN ?_ _))).o.mono ?_;rintro e w1 ⟨rfl,rfl⟩;go_wp2_with fail;refine(HH.o _ (by repeat(first|exact eR _|exact eA (by assumption) _|refine eA ?_ _|refine eM ?_ _ _|refine eD ?_|refine eN ?_ _))).o.mono ?_;rintro e w1 ⟨rfl,rfl⟩;go_wp2;go_ret;exact⟨rfl,(by repeat(first|exact eR _|exact eA (by assumption) _|refine eA ?_ _|refine eM ?_ _ _|refine eD ?_|refine eN ?_ _))⟩
  ·have bS:(S.length:Int)≤(k:Int):=by omega
   have hR:R=true:=by rw[HK.o];exact yA (fun j hj=>HJ.o j (by omega))
   subst hR;go_wp2;go_ret;exact⟨rfl,(by repeat(first|exact eR _|exact eA (by assumption) _|refine eA ?_ _|refine eM ?_ _ _|refine eD ?_|refine eN ?_ _))⟩
set_option maxRecDepth 512
set_option maxHeartbeats 200000
theorem Jv {α:Type}(p:α→Bool) (l:List α){k:Nat}(h:k<l.length):(l.drop k).all p=(p (l[k]'h)&&(l.drop (k+1)).all p):=by
 rw[List.drop_eq_getElem_cons h];rfl
set_option maxRecDepth 10000
set_option maxHeartbeats 8000000
theorem M4 (n:Int) (A:Option Addr) (cap:Nat) (es:List Edge) (w:World) (h:po w A es) (hlen:es.length≤100000) :
  Calls Tryz.prog 188 #[.int .i64 n,.slice A es.length cap] w fun e w'=>e=.returned (.int .i64 (if eZ n es then 0 else 1))∧Ext w w':=by
 have Hr:=aa h;clear h
 by_cases h0:n<0
 ·have hR:eZ n es=false:=by unfold eZ;simp;omega
  rw[hR];clear hR;go_enter Tryz.func188,Tryz.ntmps188;go_wp2;go_ret;exact⟨rfl,(by repeat(first|exact eR _|exact eA (by assumption) _|refine eA ?_ _|refine eM ?_ _ _|refine eD ?_|refine eN ?_ _))⟩
 ·by_cases h1:1000<n
  ·have hR:eZ n es=false:=by unfold eZ;simp;omega
   rw[hR];clear hR;go_enter Tryz.func188,Tryz.ntmps188;go_wp2;go_ret;exact⟨rfl,(by repeat(first|exact eR _|exact eA (by assumption) _|refine eA ?_ _|refine eM ?_ _ _|refine eD ?_|refine eN ?_ _))⟩
  ·have hR:eZ n es=es.all (dE n):=by
    unfold eZ;have e1:decide (0≤n)=true:=by simp;omega
    have e2:decide (n≤1000)=true:=by simp;omega
    rw[e1,e2];rfl
   rw[hR];have HA:aiE (∀k,(h:k<es.length)→(es.drop k).all (dE n)=(dE n (es[k]'h)&&(es.drop (k+1)).all (dE n))):=aa (fun k h=>Jv _ _ h);have HD:aiE ((es.drop 0).all (dE n)=es.all (dE n)):=aa rfl;clear hR;generalize es.all (dE n)=R at *;go_enter Tryz.func188,Tryz.ntmps188;go_wp2
   go_loopw [15] (fun i wr=>∃k:Nat,k≤es.length∧i=.int .i64 k∧aiE (Ext w wr)∧aiE ((es.drop k).all (dE n)=R)) (fun i _=>es.length - (intOf i).toNat)
   case atStart=>exact⟨0,aiH _,rfl,aa (by repeat(first|exact eR _|exact eA (by assumption) _|refine eA ?_ _|refine eM ?_ _ _|refine eD ?_|refine eN ?_ _)),HD⟩
   case round=>
    obtain⟨k,hk,rfl,HX,HK⟩:=hrel
    by_cases hlt:k<es.length
    ·obtain⟨b,o,rfl,hb,c0,c1⟩:=po.at_ (ak.ext jk Hr.o HX.o) hlt;have aN:(k:Int)<(es.length:Int):=by omega
     have Hs:=aa (HA.o k hlt);have HE:aiE (dE n (es[k]'hlt)=(decide (0≤(es[k]'hlt).a)&&decide (0≤(es[k]'hlt).b)&&(decide ((es[k]'hlt).a<n)&&decide ((es[k]'hlt).b<n)))):=aa rfl;generalize dE n (es[k]'hlt)=E at *;generalize (es[k]'hlt).a=ea at *;generalize (es[k]'hlt).b=eb at *;cases E
     ·have hR:R=false:=by rw[←HK.o,Hs.o];rfl
      subst hR;have hor:min ea eb<0∨n≤max ea eb:=by
       have:=HE.o;simp at this;omega
      by_cases hm:min ea eb<0
      ·go_wp2
       all_goals
        go_ret;exact⟨rfl,HX.o.trans (by repeat(first|exact eR _|exact eA (by assumption) _|refine eA ?_ _|refine eM ?_ _ _|refine eD ?_|refine eN ?_ _))⟩
      ·have N6:n≤max ea eb:=by omega
       have Zp:max ea eb≥n:=N6;clear hor;go_wp2
       all_goals
        go_ret;exact⟨rfl,HX.o.trans (by repeat(first|exact eR _|exact eA (by assumption) _|refine eA ?_ _|refine eM ?_ _ _|refine eD ?_|refine eN ?_ _))⟩
     ·have bT:=HE.o;simp only[eq_comm (a:=true),aiT,decide_eq_true_eq] at bT;have hm:¬min ea eb<0:=by omega
      have Zp:¬max ea eb≥n:=by omega
      have Vd:¬n≤max ea eb:=by omega
      clear bT;go_wp2
      all_goals
       go_roundw
       case rel=>exact⟨k+1,hlt,by go_num,aa (HX.o.trans (by repeat(first|exact eR _|exact eA (by assumption) _|refine eA ?_ _|refine eM ?_ _ _|refine eD ?_|refine eN ?_ _))),aa (by rw[←HK.o,Hs.o];rfl)⟩
       case measure=>simp[intOf];omega
    ·have bS:(es.length:Int)≤(k:Int):=by omega
     have hR:R=true:=by rw[←HK.o,List.drop_eq_nil_of_le (by omega)];rfl
     subst hR;go_wp2;go_ret;exact⟨rfl,HX.o⟩
set_option maxRecDepth 512
set_option maxHeartbeats 200000
theorem kH : (Tryz.prog.info? 3).map (fun i=>(i.zero,i.size,i.bytes))=some (some (.int .i64 0),1,8):=by kernel_rfl
theorem EE : (Tryz.prog.info? 38).map (fun i=>(i.zero,i.size,i.bytes))=some (some (.slice none 0 0),1,24):=by kernel_rfl
theorem EF (w:World) (cs:Array Value) (t:TypeId) (o:Obj) (i:Nat):((w.alloc (.cells cs t)).alloc o).cell? ⟨w.heap.size,i,none⟩=cs[i]?:=by
 have h:((w.alloc (.cells cs t)).alloc o).heap[w.heap.size]?=some (.cells cs t (0,0)):=by
  show((w.heap.push (.cells cs t)).push o)[w.heap.size]?=_;rw[Array.getElem?_push];rw[if_neg (by simp),Array.getElem?_push];simp
 simp only[World.cell?,h];simp
theorem Cr (v:Value) (n:Nat) (h:v.cells=#[v]):madeCells v.cells (n*1)=(List.replicate n v).toArray:=by
 rw[h];unfold madeCells
 apply Array.ext
 ·simp
 ·intro i h1 h2;simp[Nat.mod_one]
theorem Row.M5 {w:World}{b:Nat}{t:TypeId}{fr:Nat×Nat}(v:Value) (h:w.heap[b]?=some (.cells #[v] t fr)):Row w (some ⟨b,0,none⟩) 1 1 [v]:=by
 refine⟨rfl,fun _=>⟨b,0,rfl,ae h,fun j u hu => ?_⟩⟩
 match j with
 |0=>simp at hu;subst hu;simp[World.cell?,h]
 |j+1=>simp at hu
theorem gW.made (w:World) (n:Nat):gW 38 3 w.heap.size (w.alloc (.cells (List.replicate n (Value.slice none 0 0)).toArray 38)) w.heap.size (List.replicate n ⟨.slice none 0 0,[]⟩) where
 blk:=by
  have:=heap_alloc_new w (.cells (List.replicate n (Value.slice none 0 0)).toArray 38);rw[this];simp
 ge:=aiG _
 own i h:=by simp;exact World.ownsRow_nil _ _ _ _
 QH i j hi hj xj he:=by simp[Value.ownBlock]
 nb i h:=by simp[Value.ownBlock]
set_option maxRecDepth 10000
set_option maxHeartbeats 8000000
theorem QK (n:Nat) (A:Option Addr) (cap:Nat) (es:List Edge) (w:World) (h:po w A es) (hn:n≤1000) (hlen:es.length≤100000) (bT:∀e∈es,dE n e=true) :
  Calls Tryz.prog 190 #[.int .i64 n,.slice A es.length cap] w fun e w'=>(∃b ts,e=.returned (.slice (some ⟨b,0,none⟩) n n)∧ts.length=n∧gW 38 3 w.heap.size w' b ts∧∀v (h:v<ts.length),(ts[v]'h).l=gA es v)∧Ext w w':=by
 obtain⟨i0,hi,hz0,hz1,hz2⟩:=info_parts kH;obtain⟨i1,hj,nB,gI,gM⟩:=info_parts EE;have Hr:=aa h;have Ve:=aa bT;clear h bT;have jt:=run_make (P:=Tryz.prog) w 272 38 i1 _ Tryz.underlying272 hj nB .i64 .i64 n n (by omega) (Int.le_refl _) (by rw[gM];omega) (by omega);have Xx:madeCells (Value.slice none 0 0).cells ((n:Int).toNat*i1.size)=(List.replicate n (Value.slice none 0 0)).toArray:=by
  rw[gI];exact Cr _ _ rfl
 rw[Xx] at jt;simp only[Int.toNat_natCast] at jt;have T0:=aa (gW.made w n);clear Xx;have sD:(n:Int)≤1000:=by omega
 generalize hZ:(List.replicate n (Value.slice none 0 0)).toArray=Z at *;have HZ:=aa hZ;clear hZ;go_enter Tryz.func190,Tryz.ntmps190;go_wp2
 go_loopw [12] (fun i wr=>∃(k:Nat) (ts:List OD),k≤es.length∧i=.int .i64 k∧ts.length=n∧aiE (gW 38 3 w.heap.size wr w.heap.size ts)∧aiE (∀v (h:v<ts.length),(ts[v]'h).l=gA (es.take k) v)∧aiE (Ext w wr)) (fun i _=>es.length - (intOf i).toNat)
 case atStart=>exact⟨0,_,aiH _,rfl,by simp,T0,aa (by intro v h;simp[gA]),aa (by repeat(first|exact eR _|exact eA (by assumption) _|refine eA ?_ _|refine eM ?_ _ _|refine eD ?_|refine eN ?_ _))⟩
 case round=>
  obtain⟨k,ts,hk,rfl,jr,HT,HL,HX⟩:=hrel
  by_cases hlt:k<es.length
  ·obtain⟨be,o,rfl,hbe,c0,c1⟩:=po.at_ (ak.ext jk Hr.o HX.o) hlt;have aN:(k:Int)<(es.length:Int):=by omega
   have Jw:=Ve.o _ (aiF hlt);have dh:aiE (es.take (k+1)=es.take k++[es[k]'hlt]):=aa (by rw[aiJ hlt]);unfold dE at Jw;simp only[aiT,decide_eq_true_eq] at Jw;obtain⟨v,hv⟩:=Int.eq_ofNat_of_zero_le Jw.1.1;have Hn:aiE (∀u,gA (es.take (k+1)) u=gA (es.take k) u++if (v:Int) == (u:Int) then [(es[k]'hlt).b] else []):=aa (fun u=>by rw[dh.o,AO,hv]);rw[hv] at c0 Jw;clear dh hv;generalize (es[k]'hlt).b=eb at *;have hvn:v<n:=by omega
   have FO:v<ts.length:=by omega
   have KO:(v:Int)<(n:Int):=by omega
   have hv0:(0:Int)≤(v:Int):=by omega
   have hcv:=HT.o.cell FO;have RX:=HT.o.lt;have RR:(ts[v]'FO).l.length≤100000:=by rw[HL.o v FO];unfold gA;rw[List.length_map];have:=List.length_filter_le (fun e:Edge=>e.a == (v:Int)) (es.take k);have:=List.length_take_le k es;omega
   have tB:=aa (HT.o.own v FO);have HV:aiE ((ts[v]'FO).val=(ts[v]'FO).val):=aa rfl;clear Jw;generalize hval:(ts[v]'FO).val=sv at *;generalize hlv:(ts[v]'FO).l=lv at *;have QL:=aa hval;have UZ:=aa hlv;clear hval hlv HV;go_wp2
   go_region_law (first
    |(
     refine aK _ rfl (.tmp 23) (.tmp 26) 38 rfl w.heap.size 3 i0 _ 1 8 Tryz.underlying38 hi hz0 hz1 hz2 rfl (by decide) sv lv.length (lv.map (Value.int .i64)) rfl (aZ tB.o (by repeat(first|exact eR _|exact eA (by assumption) _|refine eA ?_ _|refine eM ?_ _ _|refine eD ?_|refine eN ?_ _))) (some ⟨_,0,none⟩) 1 1 [.int .i64 eb] rfl (Row.M5 _ (ah _ _ _ (by simp))) (by intro u hu;simp at hu;subst hu;rfl) (by unfold maxLen;omega) (by omega) (Ext.size (HX.o.trans (by repeat(first|exact eR _|exact eA (by assumption) _|refine eA ?_ _|refine eM ?_ _ _|refine eD ?_|refine eN ?_ _)))) ?_;intro v3 w4 gO hg3 qW;obtain⟨A3,c3,rfl,_,_,_,_⟩:=Ints.own (l:=lv++[eb]) (by simpa using gO);have p3:=gW.put (l':=lv++[eb]) (HT.o.ext (by repeat(first|exact eR _|exact eA (by assumption) _|refine eA ?_ _|refine eM ?_ _ _|refine eD ?_|refine eN ?_ _))) FO QL.o (by simpa using gO) hg3 qW;rw[aiL,List.length_singleton] at p3;have P3:=aa p3;clear p3;have X3:=aa (Ext.app (HX.o.trans (by repeat(first|exact eR _|exact eA (by assumption) _|refine eA ?_ _|refine eM ?_ _ _|refine eD ?_|refine eN ?_ _))) hg3 (aZ tB.o (by repeat(first|exact eR _|exact eA (by assumption) _|refine eA ?_ _|refine eM ?_ _ _|refine eD ?_|refine eN ?_ _))) (aiG _));have B3:=gW.after (HT.o.ext (by repeat(first|exact eR _|exact eA (by assumption) _|refine eA ?_ _|refine eM ?_ _ _|refine eD ?_|refine eN ?_ _))) FO QL.o hg3;have hc3:w4.cell? ⟨w.heap.size,v,none⟩=some sv:=by rw[←QL.o];simp[World.cell?,B3,FO]
     have hf3:w4.frozen? ⟨w.heap.size,v,none⟩=false:=by simp[World.frozen?,B3]
     have Wu:w4.cell? ⟨wr.heap.size,0,none⟩=some (.int .i64 v):=(World.cell?_of_block (a:=⟨wr.heap.size,0,none⟩) (hg3.block wr.heap.size (by simp;omega) (fun e=>by have:=(tB.o.lt _ e.symm).2;omega))).trans (EF _ _ _ _ _);clear B3;clear gO hg3 qW))
   all_goals
    go_wp2;go_roundw
    case rel=>
     refine⟨k+1,ts.set v ⟨_,lv++[eb]⟩,hlt,by go_num,by simp[jr],P3,aa (fun u hu => ?_),aa (Ext.setCell X3.o (aiG _) _)⟩;rw[Hn.o u]
     by_cases e:u=v
     ·subst e;simp only[List.getElem_set_self,beq_self_eq_true,↓reduceIte];rw[←UZ.o,HL.o u FO]
     ·rw[List.getElem_set_ne (fun h=>e h.symm),HL.o u (by simpa using hu)];have:((v:Int) == (u:Int))=false:=by simp;omega
      rw[this];simp
    case measure=>simp[intOf];omega
  ·have bS:(es.length:Int)≤(k:Int):=by omega
   have Vf:es.take k=es:=aiK (by omega);rw[Vf] at HL;go_wp2;go_ret;exact⟨⟨_,ts,rfl,jr,HT.o,HL.o⟩,HX.o⟩
set_option maxRecDepth 512
set_option maxHeartbeats 200000
def jQ (ts:List OD) (v:Nat):List Nat:=((ts.getD v ⟨.slice none 0 0,[]⟩).l).map Int.toNat
def OE (ts:List OD):Prop:=∀s∈ts,∀y∈s.l,0≤y∧y<(ts.length:Int)
set_option maxRecDepth 10000
set_option maxHeartbeats 8000000
theorem QM (ty:TypeId) (mb b:Nat) (ts:List OD) (base:Nat) (hmb:mb<base) (hN:ts.length≤1000) (jV:OE ts):∀(c:Nat) (M:Nat→Bool) (v:Nat) (w:World),holes M ts.length=c→v<ts.length →
  gW 38 3 base w b ts→Marks ty w mb M →
  Calls Tryz.prog 189 #[.pointer (some ⟨mb,0,none⟩),.slice (some ⟨b,0,none⟩) ts.length ts.length,.int .i64 v] w fun e w'=>e=.returned (.tuple #[])∧w.grownBy w' (some mb)∧∃M',Marks ty w' mb M'∧Cm (jQ ts) M M' v (jQ ts v):=by
 intro c
 induction c using Nat.strongRecOn with
 |_ c ih=>
  intro M v w hc hv hT hM;obtain⟨A1,c1,he,hc1,hc2,hrow,hblk⟩:=Ints.own (hT.own v hv);have hcell:=hT.cell hv;rw[he] at hcell;have afR:mb<w.heap.size:=ae hM;have afS:=hT.lt;have afT:=hT.ge;have aan:=aa hrow;have aao:=aa hblk;have hs:jQ ts v=((ts[v]'hv).l).map Int.toNat:=by unfold jQ;simp[hv]
  have Hs:=aa hs;have Hl:=aa (jV _ (aiF hv));have hv':(v:Int)<(ts.length:Int):=by omega
  have hv0:(0:Int)≤(v:Int):=by omega
  have HT:=aa hT;have HM:=aa hM;have HC:=aa hc;have HI:=aa ih;clear hT hM he hrow hs jV ih hc hblk;generalize (ts[v]'hv).l=L at *;have QN:aiE ((L.map Int.toNat).take L.length=jQ ts v):=aa (by rw[Hs.o];exact aiK (by simp));go_enter Tryz.func189,Tryz.ntmps189;go_wp2
  go_loopw [13] (fun i wr=>∃(k:Nat),k≤L.length∧i=.int .i64 k∧aiE (w.grownBy wr (some mb))∧aiE (∃M1,Marks ty wr mb M1∧Cm (jQ ts) M M1 v ((L.map Int.toNat).take k))) (fun i _=>L.length - (intOf i).toNat)
  case atStart=>exact⟨0,aiH _,rfl,aa (World.grownBy.refl _ _),aa ⟨M,HM.o,Cm.start _ _ _⟩⟩
  case round=>
   obtain⟨k,hk,rfl,HG,HD⟩:=hrel
   by_cases hlt:k<L.length
   ·obtain⟨M1,QO,Sz⟩:=HD.o;have hmr:mb<wr.heap.size:=by have:=HG.o.size;omega
    have HR:aiE (Ints wr A1 L):=aa (Row.keep aan.o HG.o.size (fun b o e hb=>HG.o.block b hb (fun h=>by have:=(aao.o b o e).1;injection h with h;omega)));obtain⟨b1,o1,rfl,hb1,q1⟩:=HR.o.at_ hlt;have aN:(k:Int)<(L.length:Int):=by omega
    obtain⟨Ox,Ea⟩:=Hl.o _ (aiF hlt);obtain⟨u,hu⟩:=Int.eq_ofNat_of_zero_le Ox;have dh:aiE ((L.map Int.toNat).take (k+1)=(L.map Int.toNat).take k++[u]):=aa (by
     rw[aiJ (by simpa using hlt)];simp[hu])
    have mZ:aiE (u∈jQ ts v):=aa (by
     rw[Hs.o,List.mem_map];exact⟨_,aiF hlt,by rw[hu];simp⟩)
    rw[hu] at q1 Ea;clear hu Ox;have huN:u<ts.length:=by omega
    have zi:(u:Int)<1000:=by omega
    have FK:(0:Int)≤(u:Int):=by omega
    have hcm:=QO.cell (j:=u) (by omega);have hfm:=QO.free u;have Xy:=aa QO;have Vg:=aa Sz;clear HD QO Sz Ea;cases SB:M1 u
    ·rw[SB] at hcm;have TS:aiE (gW 38 3 base (wr.setCell ⟨mb,u,none⟩ (.bool true)) b ts):=aa (HT.o.keep (aX HG.o (ll _ _ _ _)) (by intro j h;injection h with h;omega));have HM3:=aa (Xy.o.set u);have Hh:aiE (holes (fun i=>i == u||M1 i) ts.length<c):=aa (by
      have h1:=uS SB ts.length huN;have h2:=AP Vg.o.sub ts.length;have h3:=HC.o;omega)
     have Vh:=aa (HI.o _ Hh.o _ u _ rfl huN TS.o HM3.o);have Vi:aiE (w.grownBy (wr.setCell ⟨mb,u,none⟩ (.bool true)) (some mb)):=aa (aX HG.o (ll _ _ _ _));clear SB;go_wp2_with fail;refine Vh.o.mono ?_;rintro e w3 ⟨rfl,hg3,M3,OG,Oy⟩;have HM4:=aa OG;have HD4:=aa (Vg.o.go mZ.o Oy);have HG4:=aa (aX Vi.o hg3);clear hg3 OG Oy;go_wp2;go_roundw
     case rel=>exact⟨k+1,hlt,by go_num,HG4,aa ⟨M3,HM4.o,by rw[dh.o];exact HD4.o⟩⟩
     case measure=>simp[intOf];omega
    ·rw[SB] at hcm;have HD4:=aa (Vg.o.skip SB);clear SB;go_wp2;go_roundw
     case rel=>exact⟨k+1,hlt,by go_num,HG,aa ⟨M1,Xy.o,by rw[dh.o];exact HD4.o⟩⟩
     case measure=>simp[intOf];omega
   ·have bS:(L.length:Int)≤(k:Int):=by omega
    have nX:k=L.length:=by omega
    obtain⟨M1,QO,Sz⟩:=HD.o;rw[nX,QN.o] at Sz;have Xy:=aa QO;have Vg:=aa Sz;clear HD QO Sz nX;go_wp2
    go_end0
    exact⟨rfl,HG.o,M1,Xy.o,Vg.o⟩
set_option maxRecDepth 512
set_option maxHeartbeats 200000
def nQ (es:List Edge) (v:Nat):List Nat:=(gA es v).map Int.toNat
theorem EG {n:Nat}{es:List Edge}{ts:List OD}(bT:∀e∈es,dE n e=true) (jr:ts.length=n) (hl:∀v (h:v<ts.length),(ts[v]'h).l=gA es v):jQ ts=nQ es:=by
 funext v
 unfold jQ nQ
 congr 1
 by_cases h:v<ts.length
 ·simp[h,hl v h]
 ·have hnil:gA es v=[]:=by
   unfold gA;simp only[List.map_eq_nil_iff,List.filter_eq_nil_iff];intro e he hv;have:=bT e he;unfold dE at this;simp at this hv;omega
  simp[h,hnil]
theorem QP {n:Nat}{es:List Edge}{ts:List OD}(bT:∀e∈es,dE n e=true) (jr:ts.length=n) (hl:∀v (h:v<ts.length),(ts[v]'h).l=gA es v):OE ts:=by
 intro s hs y hy;obtain⟨v,hv,rfl⟩:=List.getElem_of_mem hs;rw[hl v hv] at hy;unfold gA at hy;obtain⟨e,he,rfl⟩:=List.mem_map.1 hy;have:=bT e (List.mem_filter.1 he).1;unfold dE at this;simp at this;rw[jr];omega
theorem kI (n:Nat):aY n (fun _=>false)=Array.replicate n (.bool false):=by
 unfold aY;rw[List.map_const'];simp
theorem AV : Tryz.zeroCells270=Array.replicate 1000 (.bool false):=by kernel_rfl
def dF (M:Nat→Bool) (k:Nat):List Int:=((List.range k).filter M).map Int.ofNat
theorem wK (M:Nat→Bool) (k:Nat):dF M (k+1)=dF M k++if M k then [(k:Int)] else []:=by
 unfold dF;rw[List.range_succ,List.filter_append,aiX];cases h:M k<;>simp[h]
theorem yB (M:Nat→Bool) (k:Nat):(dF M k).length≤k:=by
 unfold dF;have:=List.length_filter_le M (List.range k);simpa using this
set_option maxRecDepth 10000
set_option maxHeartbeats 8000000
theorem M6 (n v:Nat) (A:Option Addr) (cap:Nat) (es:List Edge) (w:World) (h:po w A es) (hg:eZ n es=true) (hlen:es.length≤100000) (hv:v<n) :
  Calls Tryz.prog 140 #[.int .i64 n,.slice A es.length cap,.int .i64 v] w fun e w'=>(∃A' cap' p,e=.returned (.slice A' (dF p n).length cap')∧(dF p n).length≤cap'∧cap'≤9223372036854775807∧Ints w' A' (dF p n)∧∀x,p x=true↔SR (nQ es) v x)∧Ext w w':=by
 have hn:n≤1000:=by unfold eZ at hg;simp at hg;omega
 have bT:∀e∈es,dE n e=true:=by unfold eZ at hg;simp at hg;exact hg.2
 have Hc:=aa (M4 n A cap es w h hlen);rw[hg] at Hc;have Hr:=aa h;have Ve:=aa bT;have hv':(v:Int)<(n:Int):=by omega
 have hv0:¬(v:Int)<0:=by omega
 have KO:¬(n:Int)≤(v:Int):=by omega
 obtain⟨i0,hi,hz0,hz1,hz2⟩:=info_parts kH;clear h hg bT;go_enter Tryz.func140,Tryz.ntmps140;go_wp2_with fail;refine Hc.o.mono ?_;rintro e w1 ⟨rfl,l1,d1,rfl⟩;go_wp2_with fail;refine(QK n A cap es _ (ak.ext jk Hr.o (by repeat(first|exact eR _|exact eA (by assumption) _|refine eA ?_ _|refine eM ?_ _ _|refine eD ?_|refine eN ?_ _))) hn hlen Ve.o).mono ?_;rintro e w2 ⟨⟨b,ts,rfl,jr,hT,hL⟩,hx2⟩;subst jr;have Hs:=aa (EG Ve.o rfl hL);have lH:=aa (QP Ve.o rfl hL);have HT:=aa hT;have lW:aiE (Ext w w2):=aa (Ext.trans (by repeat(first|exact eR _|exact eA (by assumption) _|refine eA ?_ _|refine eM ?_ _ _|refine eD ?_|refine eN ?_ _)) hx2);have HM:aiE (Marks 270 w2 (w.heap.size+l1.length) (fun _=>false)):=aa (by
  unfold Marks;rw[kI,←AV];exact(hx2.heap (by simp)).trans (ah _ _ _ (by simp)))
 have Vj:w.heap.size+l1.length<((more w l1 d1).alloc (.cells Tryz.zeroCells270 270)).heap.size:=by simp
 clear hT hL hx2;go_wp2_with fail;refine(QM 270 (w.heap.size+l1.length) b ts _ Vj hn lH.o _ _ v w2 rfl hv HT.o HM.o).mono ?_;rintro e w3 ⟨rfl,hg3,M3,OG,Oy⟩;have HM3:=aa OG;have aar:w.heap.size+l1.length<w3.heap.size:=ae OG;have HX3:aiE (Ext w w3):=aa (lW.o.grown hg3 (by intro j hj;injection hj with hj;omega));have HP:aiE (∀x,M3 x=true↔SR (nQ es) v x):=aa (by rw[←Hs.o];exact Oy.all);clear hg3 OG Oy HM HT Hs lH Vj;have mO:(ts.length:Int)≤1000:=by omega
 go_wp2
 go_loopw [8,29] (fun u i wr=>∃(k:Nat),k≤ts.length∧i=.int .i64 k∧aiE (Ext w3 wr)∧aiE (wr.ownsRow w3.heap.size 3 1 u (dF M3 k).length ((dF M3 k).map (Value.int .i64)))) (fun _ i _=>ts.length - (intOf i).toNat)
 case atStart=>exact⟨0,aiH _,rfl,aa (eR _),aa (World.ownsRow_nil _ _ _ _)⟩
 case round=>
  obtain⟨k,hk,rfl,HX,HO⟩:=hrel
  by_cases hlt:k<ts.length
  ·have aN:(k:Int)<(ts.length:Int):=by omega
   have cV:(0:Int)≤(k:Int):=by omega
   have sB:(k:Int)<1000:=by omega
   have hcm:wr.cell? ⟨w.heap.size+l1.length,k,none⟩=some (.bool (M3 k)):=(World.cell?_of_block (a:=⟨w.heap.size+l1.length,k,none⟩) (HX.o.heap aar)).trans (HM3.o.cell (by omega));have Le:=aa (wK M3 k);have iu:=yB M3 k;generalize hLk:dF M3 k=L at *;have Eg:=aa hLk;clear hLk;cases hMk:M3 k
   ·rw[hMk] at hcm Le;go_wp2;go_roundw
    case rel=>exact⟨k+1,hlt,by go_num,HX,aa (by rw[Le.o];simpa using HO.o)⟩
    case measure=>simp[intOf];omega
   ·rw[hMk] at hcm Le;go_wp2_with (at_builtin;refine aD _ rfl _ _ 38 rfl w3.heap.size 3 i0 _ 1 8 Tryz.underlying38 hi hz0 hz1 hz2 rfl (by decide) u8 L.length (L.map (Value.int .i64)) rfl (HO.o.alloc _) _ 1 1 [.int .i64 k] rfl ?c2 ?c3 ?c4 ?c5 ?c6 ?_)
    case c2=>exact Row.M5 _ (ah _ _ _ (by simp))
    case c3=>first|rfl|(intro y hy;simp at hy;subst hy;rfl)
    case c4=>unfold maxLen;omega
    case c5=>omega
    case c6=>have:=HX.o.size;simp;omega
    intro v4 w4 br hg4 _;have X4:=aa (Ext.app (HX.o.alloc _) hg4 (HO.o.alloc _) (aiG _));have O4:=aa br;clear br hg4;go_wp2;go_roundw
    case rel=>exact⟨k+1,hlt,by go_num,X4,aa (by rw[Le.o];simpa using O4.o)⟩
    case measure=>simp[intOf];omega
  ·have bS:(ts.length:Int)≤(k:Int):=by omega
   have KV:k=ts.length:=by omega
   rw[KV] at HO;clear KV;obtain⟨A5,c5,rfl,p1,p2,p3,_⟩:=Ints.own HO.o;have P3:=aa p3;clear p3;go_wp2;go_ret;exact⟨⟨A5,c5,M3,rfl,p1,p2,P3.o,HP.o⟩,HX3.o.trans HX.o⟩
set_option maxRecDepth 512
set_option maxHeartbeats 200000
def fc (l:List dm) (i:Nat):List Edge:=(List.range i).flatMap fun i=>(iB l i).map fun s=>⟨(i:Int),fS l s⟩
theorem nR (l:List dm) (i:Nat):fc l (i+1)=fc l i++(iB l i).map fun s=>⟨(i:Int),fS l s⟩:=by
 unfold fc;rw[List.range_succ,List.flatMap_append];simp
theorem kJ (l:List dm) (h:∀c∈l,c.sup.length≤9):∀i,i≤l.length→(fc l i).length≤9*i
 |0,_=>by simp[fc]
 |i+1,hi=>by
  have ih:=kJ l h i (by omega);have h1:(iB l i).length≤9:=by rw[cH (by omega)];exact h _ (aiF _)
  rw[nR,aiL,List.length_map];omega
theorem Jy {l:List dm}(h:Sound l) (hl:l.length≤9):eZ l.length (eT l)=true:=by
 unfold eZ;simp only[aiT,decide_eq_true_eq,aiY];refine⟨⟨by omega,by omega⟩,fun e he => ?_⟩;unfold eT at he;obtain⟨i,hi,he⟩:=List.mem_flatMap.1 he;simp only[List.mem_range] at hi;rw[cH hi] at he;obtain⟨s,hs,rfl⟩:=List.mem_map.1 he;obtain⟨j,hj,e,_⟩:=h.to hi hs;unfold dE;simp only[e,aiT,decide_eq_true_eq];omega
theorem Jz {l:List dm}(h:Sound l){i x:Nat}(hi:i<l.length):SR (nQ (eT l)) i x↔SR (bn l) i x:=by
 have hn:∀v,v<l.length→nQ (eT l) v=bn l v:=fun v hv=>by
  unfold nQ;rw[AR h,if_pos hv]
 constructor
 ·intro hr;have key:SR (bn l) i x∧x<l.length:=by
   induction hr with
   |one h1=>rw[hn _ hi] at h1;exact⟨.one h1,kG h _ hi _ h1⟩
   |step _ h1 ih=>rw[hn _ ih.2] at h1;exact⟨.step ih.1 h1,kG h _ ih.2 _ h1⟩
  exact key.1
 ·intro hr;have key:SR (nQ (eT l)) i x∧x<l.length:=by
   induction hr with
   |one h1=>exact⟨.one (by rw[hn _ hi];exact h1),kG h _ hi _ h1⟩
   |step _ h1 ih=>exact⟨.step ih.1 (by rw[hn _ ih.2];exact h1),kG h _ ih.2 _ h1⟩
  exact key.1
theorem AW (p:Nat→Bool){n i:Nat}(hi:i<n):(dF p n).any (· == (i:Int))=p i:=by
 rw[Bool.eq_iff_iff,List.any_eq_true];unfold dF
 constructor
 ·rintro⟨y,hy,e⟩;obtain⟨x,hx,rfl⟩:=List.mem_map.1 hy;have h1:=(List.mem_filter.1 hx).2;simp at e;have:x=i:=by omega
  subst this;exact h1
 ·intro hp;exact⟨_,List.mem_map.2 ⟨i,List.mem_filter.2 ⟨by simpa using hi,hp⟩,rfl⟩,by simp⟩
theorem EH : (Tryz.prog.info? 266).map (fun i=>(i.zero,i.size,i.bytes))=some (some (.agg #[.int .i64 0,.int .i64 0]),2,16):=by kernel_rfl
theorem Row.Vk {w:World}{b:Nat}{t:TypeId}{fr:Nat×Nat}(u v:Value) (h:w.heap[b]?=some (.cells #[u,v] t fr)):Row w (some ⟨b,0,none⟩) 2 1 [u,v]:=by
 refine⟨rfl,fun _=>⟨b,0,rfl,ae h,fun j x hx => ?_⟩⟩
 match j with
 |0=>simp at hx;subst hx;simp[World.cell?,h]
 |1=>simp at hx;subst hx;simp[World.cell?,h]
 |j+2=>simp at hx
set_option maxRecDepth 10000
set_option maxHeartbeats 8000000
theorem EI (A:Option Addr) (cap:Nat) (l:List dm) (w:World) (h:bV w A l) (hl:l.length≤9) (hs:∀c∈l,c.sup.length≤9) :
  Calls Tryz.prog 138 #[.slice A l.length cap] w fun e w'=>(∃A' cap',e=.returned (.slice A' (eT l).length cap')∧(eT l).length≤cap'∧cap'≤9223372036854775807∧po w' A' (eT l))∧Ext w w':=by
 obtain⟨i0,hi,hz0,hz1,hz2⟩:=info_parts EH;have HC:=aa h;have HS:=aa hs;have HE:aiE (fc l l.length=eT l):=aa rfl;have jM:=aa (kJ l hs);have hle:l.length≤9223372036854775807:=by omega
 clear h hs;generalize eT l=FN at *;go_enter Tryz.func138,Tryz.ntmps138;go_wp2
 go_loopw [3,9] (fun v i wr=>∃(k:Nat),k≤l.length∧i=.int .i64 k∧aiE (Ext w wr)∧aiE (wr.ownsRow w.heap.size 266 2 v (fc l k).length ((fc l k).flatMap jk.f))) (fun _ i _=>l.length - (intOf i).toNat)
 case atStart=>exact⟨0,aiH _,rfl,aa (eR _),aa (World.ownsRow_nil _ _ _ _)⟩
 case round=>
  obtain⟨k,hk,rfl,HX,HO⟩:=hrel;obtain⟨wo,rfl⟩:∃wo:World,wo=wr:=⟨_,rfl⟩
  by_cases hlt:k<l.length
  ·obtain⟨b,o,rfl,hb,q0,q1,q2⟩:=(HC.o.ext HX.o).at_ hlt;have aN:(k:Int)<(l.length:Int):=by omega
   have cV:(0:Int)≤(k:Int):=by omega
   have iC:=aa (HC.o.sup _ (aiF hlt));have vv:=HS.o _ (aiF hlt);have Le:aiE (fc l (k+1)=fc l k++((l[k]'hlt).sup).map fun s=>⟨(k:Int),fS l s⟩):=aa (by rw[nR,cH hlt]);have RR:=jM.o k hk;clear q0 q2;generalize (l[k]'hlt).sup=S at *;generalize (l[k]'hlt).A=A1 at *;generalize (l[k]'hlt).cap=c1 at *;generalize fc l k=E at *;go_wp2
   go_loopw [3,18] (fun v i wr=>∃(m:Nat),m≤S.length∧i=.int .i64 m∧aiE (Ext w wr)∧aiE (wr.ownsRow w.heap.size 266 2 v (E++(S.take m).map fun s=>(⟨(k:Int),fS l s⟩:Edge)).length ((E++(S.take m).map fun s=>(⟨(k:Int),fS l s⟩:Edge)).flatMap jk.f))) (fun _ i _=>S.length - (intOf i).toNat)
   case atStart=>exact⟨0,aiH _,rfl,HX,aa (by simpa using HO.o)⟩
   case round=>
    obtain⟨m,hm,rfl,lW,kA⟩:=hrel
    by_cases dC:m<S.length
    ·obtain⟨b2,o2,rfl,hb2,z0⟩:=(iC.o.ext lW.o).at_ dC;have JA:(m:Int)<(S.length:Int):=by omega
     have dh:aiE (∀f:aj→Edge,(S.take (m+1)).map f=(S.take m).map f++[f (S.getD m [])]):=aa (fun f=>by rw[aiJ dC,aiX];simp[dC]);generalize S.getD m []=y at *;have Ha:=aa (kB (some ⟨b,o,none⟩) cap l y wr (HC.o.ext lW.o) hle);have QN:aiE ((E++(S.take (m+1)).map fun s=>(⟨(k:Int),fS l s⟩:Edge))=(E++(S.take m).map fun s=>(⟨(k:Int),fS l s⟩:Edge))++[⟨(k:Int),fS l y⟩]):=aa (by rw[dh.o];simp);have hlE:(E++(S.take m).map fun s=>(⟨(k:Int),fS l s⟩:Edge)).length≤1000:=by
      rw[aiL,List.length_map,List.length_take];omega
     clear dh;generalize (E++(S.take m).map fun s=>(⟨(k:Int),fS l s⟩:Edge))=E2 at *;generalize fS l y=a at *;go_wp2_with fail;refine Ha.o.mono ?_;rintro e w1 ⟨rfl,rfl⟩;go_wp2_with (at_builtin;refine aD _ rfl _ _ 214 rfl w.heap.size 266 i0 _ 2 16 Tryz.underlying214 hi hz0 hz1 hz2 rfl (by decide) u3 E2.length (E2.flatMap jk.f) rfl (kA.o.alloc _) _ 1 1 [.int .i64 k,.int .i64 a] rfl ?c2 ?c3 ?c4 ?c5 ?c6 ?_)
     case c2=>exact Row.Vk _ _ (ah _ _ _ (by simp))
     case c3=>intro y hy;simp at hy;rcases hy with rfl|rfl<;>rfl
     case c4=>unfold maxLen;omega
     case c5=>omega
     case c6=>have:=lW.o.size;simp;omega
     intro v4 w4 br hg4 _;have X4:=aa (Ext.app (lW.o.alloc _) hg4 (kA.o.alloc _) (aiG _));have O4:=aa br;clear br hg4;go_wp2;go_roundw
     case rel=>exact⟨m+1,dC,by go_num,X4,aa (by rw[QN.o];simpa [jk] using O4.o)⟩
     case measure=>simp[intOf];omega
    ·have aat:(S.length:Int)≤(m:Int):=by omega
     have hmt:S.take m=S:=aiK (by omega);rw[hmt,←Le.o] at kA;clear hmt;go_wp2;go_roundw
     case rel=>exact⟨k+1,hlt,by go_num,lW,kA⟩
     case measure=>simp[intOf];omega
  ·have bS:(l.length:Int)≤(k:Int):=by omega
   have nX:k=l.length:=by omega
   rw[nX,HE.o] at HO;clear nX;obtain⟨A5,c5,rfl,p1,p2,p3,_⟩:=ak.own jk HO.o;have P3:=aa p3;clear p3;go_wp2;go_ret;exact⟨⟨A5,c5,rfl,p1,p2,P3.o⟩,HX.o⟩
theorem EJ (A:Option Addr) (cap:Nat) (l:List dm) (w:World) (h:bV w A l) (hl:l.length≤9) (hs:∀c∈l,c.sup.length≤9) :
  Calls Tryz.prog 150 #[.slice A l.length cap] w fun e w'=>e=.returned (.tuple #[.int .i64 (dg l).1,.int .i64 (dg l).2])∧Ext w w':=by
 have F1:=aa (fun k => @check_1 l k);have F2:=aa (@Cn l);have F3:=aa (@Co l);have F4:=aa (@Cp l);have HC:=aa h;have HS:=aa hs;have HT:aiE (∀i (h:i<l.length),df l i=decide (fS l (l[i]'h).name<(i:Int))):=aa (fun i h=>by unfold df;rw[ig h]);have HB:aiE (∀i (h:i<l.length),kF l i = !((List.range (l[i]'h).sup.length).all (oJ (names l) (l[i]'h).sup))):=aa (fun i h=>by unfold kF;rw[cH h];rfl);have HY:aiE (∀i (h:i<l.length),oI l i=(fo l (l[i]'h).name).any (· == (l[i]'h).name)):=aa (fun i h=>by unfold oI;rw[ig h]);have hle:l.length≤9223372036854775807:=by omega
 clear h hs;generalize dg l=R at *;go_enter Tryz.func150,Tryz.ntmps150;go_wp2
 go_loop [4] (fun i=>∃k:Nat,k≤l.length∧i=.int .i64 k∧aiE (∀j,j<k→df l j=false)) (fun i=>l.length - (intOf i).toNat)
 case atStart=>exact⟨0,aiH _,rfl,aa (fun j hj=>absurd hj (by omega))⟩
 case round=>
  obtain⟨k,hk,rfl,HJ⟩:=hrel
  by_cases hlt:k<l.length
  ·obtain⟨b,o,rfl,hb,q0,q1,q2⟩:=HC.o.at_ hlt;have aN:(k:Int)<(l.length:Int):=by omega
   have Hk:=aa (HT.o k hlt);generalize (l[k]'hlt).name=y at *;have Ha:=aa (kC (some ⟨b,o,none⟩) cap l y w HC.o hle);clear q1 q2;generalize fS l y=a at *
   by_cases h1:a<(k:Int)
   ·have hR:=F1.o k hlt HJ.o (by rw[Hk.o];simpa using h1);subst hR;go_wp2_with fail;refine Ha.o.mono ?_;rintro e w1 ⟨rfl,rfl⟩;go_wp2;go_ret2;exact⟨rfl,(by repeat(first|exact eR _|exact eA (by assumption) _|refine eA ?_ _|refine eM ?_ _ _|refine eD ?_|refine eN ?_ _))⟩
   ·have Vl:aiE (df l k=false):=aa (by rw[Hk.o];simpa using h1);go_wp2_with fail;refine Ha.o.mono ?_;rintro e w1 ⟨rfl,rfl⟩;go_wp2
    go_round
    case rel=>
     refine⟨k+1,hlt,by go_num,aa (fun j hj => ?_)⟩
     by_cases e:j=k
     ·subst e;exact Vl.o
     ·exact HJ.o j (by omega)
    case measure=>simp[intOf];omega
  ·have bS:(l.length:Int)≤(k:Int):=by omega
   have J1:aiE (∀j,j<l.length→df l j=false):=aa (fun j hj=>HJ.o j (by omega));clear HJ HT F1;go_wp2
   go_loopw [5] (fun i wr=>∃k:Nat,k≤l.length∧i=.int .i64 k∧aiE (∀j,j<k→kF l j=false)∧aiE (Ext w wr)) (fun i _=>l.length - (intOf i).toNat)
   case atStart=>exact⟨0,aiH _,rfl,aa (fun j hj=>absurd hj (by omega)),aa (by repeat(first|exact eR _|exact eA (by assumption) _|refine eA ?_ _|refine eM ?_ _ _|refine eD ?_|refine eN ?_ _))⟩
   case round=>
    obtain⟨m,hm,rfl,HJ,HXo⟩:=hrel;obtain⟨wo,rfl⟩:∃wo:World,wo=wr:=⟨_,rfl⟩
    by_cases hlt:m<l.length
    ·obtain⟨b,o,rfl,hb,q0,q1,q2⟩:=(HC.o.ext HXo.o).at_ hlt;have aN:(m:Int)<(l.length:Int):=by omega
     have Hk:=aa (HB.o m hlt);have iC:=aa (HC.o.sup _ (aiF hlt));have vv:=HS.o _ (aiF hlt);have qD:=(HC.o.le _ (aiF hlt)).1;clear q0 q2;generalize (l[m]'hlt).sup=S at *;generalize (l[m]'hlt).A=A1 at *;generalize (l[m]'hlt).cap=c1 at *;go_wp2
     go_loopw [7] (fun i wr=>∃k:Nat,k≤S.length∧i=.int .i64 k∧aiE (∀j,j<k→oJ (names l) S j=true)∧aiE (Ext w wr)) (fun i _=>S.length - (intOf i).toNat)
     case atStart=>exact⟨0,aiH _,rfl,aa (fun j hj=>absurd hj (by omega)),HXo⟩
     case round=>
      obtain⟨k,hk,rfl,jU,lW⟩:=hrel
      by_cases dC:k<S.length
      ·obtain⟨b2,o2,rfl,hb2,z0⟩:=(iC.o.ext lW.o).at_ dC;have JA:(k:Int)<(S.length:Int):=by omega
       have cV:(0:Int)≤(k:Int):=by omega
       have sB:(k:Int)≤(S.length:Int):=by omega
       have hk2:(k:Int)≤(c1:Int):=by omega
       have QR:aiE (oJ (names l) S k=((names l).any (· == S.getD k []) && !((S.take k).any (· == S.getD k [])))):=aa rfl;generalize S.getD k []=y at *;have Ha:=fun w' (e:Ext wr w')=>aa (kC (some ⟨b,o,none⟩) cap l y w' (HC.o.ext (lW.o.trans e)) hle)
       have Hh:=fun w' (e:Ext wr w')=>aa (wJ (some ⟨b2,o2,none⟩) c1 S k y w' (iC.o.ext (lW.o.trans e)) hk (by omega))
       have mD:=Cq l y;generalize fS l y=a at *;have HA:=aa Ha;have HH:=aa Hh;clear Ha Hh;cases h1:(names l).any (· == y)
       ·rw[h1] at mD QR;simp only[Bool.not_false,decide_eq_true_eq] at mD;have hR:=F2.o J1.o hlt HJ.o (by rw[Hk.o,pW dC (by rw[QR.o];rfl)];rfl);subst hR;go_wp2
        go_quiet ((go_at_call 83;exact Calls.quiet_of_same (HA.o _ (by repeat(first|exact eR _|exact eA (by assumption) _|refine eA ?_ _|refine eM ?_ _ _|refine eD ?_|refine eN ?_ _))).o))
        go_wp2;go_ret2;exact⟨rfl,lW.o.trans (by repeat(first|exact eR _|exact eA (by assumption) _|refine eA ?_ _|refine eM ?_ _ _|refine eD ?_|refine eN ?_ _))⟩
       ·rw[h1] at mD QR;simp only[Bool.not_true,decide_eq_false_iff_not] at mD;have ac0:decide (a<0)=false:=by simpa using mD
        cases h2:(S.take k).any (· == y)
        ·rw[h2] at HH QR;go_wp2
         go_quiet ((first|(go_at_call 83;exact Calls.quiet_of_same (HA.o _ (by repeat(first|exact eR _|exact eA (by assumption) _|refine eA ?_ _|refine eM ?_ _ _|refine eD ?_|refine eN ?_ _))).o)|(go_at_call 196;exact Calls.quiet_of_same (HH.o _ (by repeat(first|exact eR _|exact eA (by assumption) _|refine eA ?_ _|refine eM ?_ _ _|refine eD ?_|refine eN ?_ _))).o)))
         go_wp2;go_roundw
         case rel=>
          refine⟨k+1,dC,by go_num,aa (fun j hj => ?_),aa (lW.o.trans (by repeat(first|exact eR _|exact eA (by assumption) _|refine eA ?_ _|refine eM ?_ _ _|refine eD ?_|refine eN ?_ _)))⟩
          by_cases e:j=k
          ·subst e;rw[QR.o];rfl
          ·exact jU.o j (by omega)
         case measure=>simp[intOf];omega
        ·rw[h2] at HH QR;have hR:=F2.o J1.o hlt HJ.o (by rw[Hk.o,pW dC (by rw[QR.o];rfl)];rfl);subst hR;go_wp2
         go_quiet ((first|(go_at_call 83;exact Calls.quiet_of_same (HA.o _ (by repeat(first|exact eR _|exact eA (by assumption) _|refine eA ?_ _|refine eM ?_ _ _|refine eD ?_|refine eN ?_ _))).o)|(go_at_call 196;exact Calls.quiet_of_same (HH.o _ (by repeat(first|exact eR _|exact eA (by assumption) _|refine eA ?_ _|refine eM ?_ _ _|refine eD ?_|refine eN ?_ _))).o)))
         go_wp2;go_ret2;exact⟨rfl,lW.o.trans (by repeat(first|exact eR _|exact eA (by assumption) _|refine eA ?_ _|refine eM ?_ _ _|refine eD ?_|refine eN ?_ _))⟩
      ·have aat:(S.length:Int)≤(k:Int):=by omega
       have Hbm:aiE (kF l m=false):=aa (by rw[Hk.o,yA (fun j hj=>jU.o j (by omega))];rfl);go_wp2;go_roundw
       case rel=>
        refine⟨m+1,hlt,by go_num,aa (fun j hj => ?_),lW⟩
        by_cases e:j=m
        ·subst e;exact Hbm.o
        ·exact HJ.o j (by omega)
       case measure=>simp[intOf];omega
    ·have aav:(l.length:Int)≤(m:Int):=by omega
     have J2:aiE (∀j,j<l.length→kF l j=false):=aa (fun j hj=>HJ.o j (by omega));clear HJ HB F2;go_wp2
     go_loopw [8] (fun i wr=>∃k:Nat,k≤l.length∧i=.int .i64 k∧aiE (∀j,j<k→oI l j=false)∧aiE (Ext w wr)) (fun i _=>l.length - (intOf i).toNat)
     case atStart=>exact⟨0,aiH _,rfl,aa (fun j hj=>absurd hj (by omega)),HXo⟩
     case round=>
      obtain⟨k,hk,rfl,HJ,HX⟩:=hrel
      by_cases hlt:k<l.length
      ·obtain⟨b,o,rfl,hb,q0,q1,q2⟩:=(HC.o.ext HX.o).at_ hlt;have aN:(k:Int)<(l.length:Int):=by omega
       have cV:(0:Int)≤(k:Int):=by omega
       have Hk:=aa (HY.o k hlt);clear q1 q2;generalize (l[k]'hlt).name=y at *;have Hab:=aa (fun w' (e:Ext w w')=>aa (uV (some ⟨b,o,none⟩) cap l y w' (HC.o.ext e) hl HS.o));generalize fo l y=V at *;cases h1:V.any (· == y)
       ·have Vl:=aa (Hk.o.trans h1);go_wp2
        go_region_held3 (fun w'=>w'.cell? ⟨b,o+k*3,none⟩=some (.string ⟨y.toArray⟩)) (first|assumption|go_keep) (first
         |(
          go_at_call 197
          refine Calls.mono (Hab.o _ ?e).o ?_
          case e=>(refine Ext.trans HX.o ?_;(repeat(first|exact eR _|exact eA (by assumption) _|refine eA ?_ _|refine eM ?_ _ _|refine eD ?_|refine eN ?_ _));done)
          rintro e w3 ⟨⟨A3,c3,rfl,g1,g2,g3⟩,hx3⟩;have S3:=aa g3;have X3:aiE (Ext wr w3):=aa (Ext.trans (by repeat(first|exact eR _|exact eA (by assumption) _|refine eA ?_ _|refine eM ?_ _ _|refine eD ?_|refine eN ?_ _)) hx3);have q3:w3.cell? ⟨b,o+k*3,none⟩=some (.string ⟨y.toArray⟩):=(World.cell?_of_block (a:=⟨b,o+k*3,none⟩) (X3.o.heap hb)).trans q0;clear g3 hx3)
         |(
          go_at_call 196
          refine Calls.mono (kX A3 c3 V y _ (S3.o.ext (by repeat(first|exact eR _|exact eA (by assumption) _|refine eA ?_ _|refine eM ?_ _ _|refine eD ?_|refine eN ?_ _))) (by omega)) ?_;rintro e w4 ⟨rfl,rfl⟩))
        all_goals
         go_wp2;go_roundw
         case rel=>
          refine⟨k+1,hlt,by go_num,aa (fun j hj => ?_),aa (HX.o.trans (X3.o.trans (by repeat(first|exact eR _|exact eA (by assumption) _|refine eA ?_ _|refine eM ?_ _ _|refine eD ?_|refine eN ?_ _))))⟩
          by_cases e:j=k
          ·subst e;exact Vl.o
          ·exact HJ.o j (by omega)
         case measure=>simp[intOf];omega
       ·have hR:=F3.o J1.o J2.o hlt HJ.o (Hk.o.trans h1);subst hR;go_wp2
        go_region_held3 (fun w'=>w'.cell? ⟨b,o+k*3,none⟩=some (.string ⟨y.toArray⟩)) (first|assumption|go_keep) (first
         |(
          go_at_call 197
          refine Calls.mono (Hab.o _ ?e).o ?_
          case e=>(refine Ext.trans HX.o ?_;(repeat(first|exact eR _|exact eA (by assumption) _|refine eA ?_ _|refine eM ?_ _ _|refine eD ?_|refine eN ?_ _));done)
          rintro e w3 ⟨⟨A3,c3,rfl,g1,g2,g3⟩,hx3⟩;have S3:=aa g3;have X3:aiE (Ext wr w3):=aa (Ext.trans (by repeat(first|exact eR _|exact eA (by assumption) _|refine eA ?_ _|refine eM ?_ _ _|refine eD ?_|refine eN ?_ _)) hx3);have q3:w3.cell? ⟨b,o+k*3,none⟩=some (.string ⟨y.toArray⟩):=(World.cell?_of_block (a:=⟨b,o+k*3,none⟩) (X3.o.heap hb)).trans q0;clear g3 hx3)
         |(
          go_at_call 196
          refine Calls.mono (kX A3 c3 V y _ (S3.o.ext (by repeat(first|exact eR _|exact eA (by assumption) _|refine eA ?_ _|refine eM ?_ _ _|refine eD ?_|refine eN ?_ _))) (by omega)) ?_;rintro e w4 ⟨rfl,rfl⟩))
        all_goals
         go_wp2;go_ret2;exact⟨rfl,HX.o.trans (X3.o.trans (by repeat(first|exact eR _|exact eA (by assumption) _|refine eA ?_ _|refine eM ?_ _ _|refine eD ?_|refine eN ?_ _)))⟩
      ·have aaw:(l.length:Int)≤(k:Int):=by omega
       have hR:=F4.o J1.o J2.o (fun j hj=>HJ.o j (by omega));subst hR;go_wp2;go_ret2;exact⟨rfl,HX.o⟩
theorem uW (A:Option Addr) (cap:Nat) (l:List dm) (w:World) (h:bV w A l) (hl:l.length≤9) (hs:∀c∈l,c.sup.length≤9) :
  Calls Tryz.prog 93 #[.slice A l.length cap] w fun e w'=>e=.returned (.tuple #[.int .i64 (dg l).1,.int .i64 (dg l).2])∧Ext w w':=by
 have F1:=aa (fun k => @check_1 l k);have F2:=aa (@Cn l);have F3:=aa (@Co l);have F4:=aa (@Cp l);have HC:=aa h;have HS:=aa hs;have HT:aiE (∀i (h:i<l.length),df l i=decide (fS l (l[i]'h).name<(i:Int))):=aa (fun i h=>by unfold df;rw[ig h]);have HB:aiE (∀i (h:i<l.length),kF l i = !mH (names l) (l[i]'h).sup):=aa (fun i h=>by unfold kF;rw[cH h]);have OH:aiE ((∀j,j<l.length→df l j=false)→(∀j,j<l.length→kF l j=false)→Sound l):=aa (fun h1 h2=>⟨dw _ _ h1,dw _ _ h2⟩);have hle:l.length≤9223372036854775807:=by omega
 clear h hs;generalize dg l=R at *;go_enter Tryz.func93,Tryz.ntmps93;go_wp2
 go_loop [10] (fun i=>∃k:Nat,k≤l.length∧i=.int .i64 k∧aiE (∀j,j<k→df l j=false)) (fun i=>l.length - (intOf i).toNat)
 case atStart=>exact⟨0,aiH _,rfl,aa (fun j hj=>absurd hj (by omega))⟩
 case round=>
  obtain⟨k,hk,rfl,HJ⟩:=hrel
  by_cases hlt:k<l.length
  ·obtain⟨b,o,rfl,hb,q0,q1,q2⟩:=HC.o.at_ hlt;have aN:(k:Int)<(l.length:Int):=by omega
   have Hk:=aa (HT.o k hlt);generalize (l[k]'hlt).name=y at *;have Ha:=aa (kB (some ⟨b,o,none⟩) cap l y w HC.o hle);clear q1 q2;generalize fS l y=a at *
   by_cases h1:a<(k:Int)
   ·have hR:=F1.o k hlt HJ.o (by rw[Hk.o];simpa using h1);subst hR;go_wp2_with fail;refine Ha.o.mono ?_;rintro e w1 ⟨rfl,rfl⟩;go_wp2;go_ret2;exact⟨rfl,(by repeat(first|exact eR _|exact eA (by assumption) _|refine eA ?_ _|refine eM ?_ _ _|refine eD ?_|refine eN ?_ _))⟩
   ·have Vl:aiE (df l k=false):=aa (by rw[Hk.o];simpa using h1);go_wp2_with fail;refine Ha.o.mono ?_;rintro e w1 ⟨rfl,rfl⟩;go_wp2
    go_round
    case rel=>
     refine⟨k+1,hlt,by go_num,aa (fun j hj => ?_)⟩
     by_cases e:j=k
     ·subst e;exact Vl.o
     ·exact HJ.o j (by omega)
    case measure=>simp[intOf];omega
  ·have bS:(l.length:Int)≤(k:Int):=by omega
   have J1:aiE (∀j,j<l.length→df l j=false):=aa (fun j hj=>HJ.o j (by omega));clear HJ HT F1;go_wp2
   go_loopw [26] (fun i wr=>∃k:Nat,k≤l.length∧i=.int .i64 k∧aiE (∀j,j<k→kF l j=false)∧aiE (Ext w wr)) (fun i _=>l.length - (intOf i).toNat)
   case atStart=>exact⟨0,aiH _,rfl,aa (fun j hj=>absurd hj (by omega)),aa (by repeat(first|exact eR _|exact eA (by assumption) _|refine eA ?_ _|refine eM ?_ _ _|refine eD ?_|refine eN ?_ _))⟩
   case round=>
    obtain⟨m,hm,rfl,HJ,HX⟩:=hrel
    by_cases hlt:m<l.length
    ·obtain⟨b,o,rfl,hb,q0,q1,q2⟩:=(HC.o.ext HX.o).at_ hlt;have aN:(m:Int)<(l.length:Int):=by omega
     have Hk:=aa (HB.o m hlt);have iC:=aa (HC.o.sup _ (aiF hlt));have qD:=(HC.o.le _ (aiF hlt));generalize (l[m]'hlt).name=y at *;generalize (l[m]'hlt).sup=S at *;generalize (l[m]'hlt).A=A1 at *;generalize (l[m]'hlt).cap=c1 at *;generalize (l[m]'hlt).M0=mt at *;obtain⟨Vm,Pz⟩:=qD;have QS:=aa (ED (some ⟨b,o,none⟩) cap l ⟨y,A1,c1,S,mt⟩ wr (HC.o.ext HX.o) hle (iC.o.ext HX.o) Vm Pz);simp only at QS;cases h1:mH (names l) S
     ·rw[h1] at QS Hk;have hR:=F2.o J1.o hlt HJ.o (by rw[Hk.o];rfl);subst hR;go_wp2_with fail;refine QS.o.mono ?_;rintro e w1 ⟨rfl,l1,d1,rfl⟩;go_wp2;go_ret2;exact⟨rfl,HX.o.trans (by repeat(first|exact eR _|exact eA (by assumption) _|refine eA ?_ _|refine eM ?_ _ _|refine eD ?_|refine eN ?_ _))⟩
     ·rw[h1] at QS Hk;go_wp2_with fail;refine QS.o.mono ?_;rintro e w1 ⟨rfl,l1,d1,rfl⟩;go_wp2;go_roundw
      case rel=>
       refine⟨m+1,hlt,by go_num,aa (fun j hj => ?_),aa (HX.o.trans (by repeat(first|exact eR _|exact eA (by assumption) _|refine eA ?_ _|refine eM ?_ _ _|refine eD ?_|refine eN ?_ _)))⟩
       by_cases e:j=m
       ·subst e;rw[Hk.o];rfl
       ·exact HJ.o j (by omega)
      case measure=>simp[intOf];omega
    ·have aav:(l.length:Int)≤(m:Int):=by omega
     have J2:aiE (∀j,j<l.length→kF l j=false):=aa (fun j hj=>HJ.o j (by omega));have SO:=aa (OH.o J1.o J2.o);have Hgo:=aa (Jy SO.o hl);have Hcy:aiE (∀i p,i<l.length→(∀x,p x=true↔SR (nQ (eT l)) i x)→(dF p l.length).any (· == (i:Int))=oI l i):=aa (by
      intro i p hi hp;rw[AW p hi,Bool.eq_iff_iff,hp,Jz SO.o hi,EC SO.o hi])
     clear HJ HB F2 OH;go_wp2_with fail;refine(EI A cap l wr (HC.o.ext HX.o) hl HS.o).mono ?_;rintro e w1 ⟨⟨A9,c9,rfl,p1,p2,p3⟩,hx⟩;have HE:=aa p3;have HX1:=aa (HX.o.trans hx);have Vn:(eT l).length≤100000:=by have:=kJ l HS.o l.length (aiG _);unfold fc at this;unfold eT;omega
     clear p3 hx;generalize eT l=ES at *;go_wp2
     go_loopw [42] (fun i wr=>∃k:Nat,k≤l.length∧i=.int .i64 k∧aiE (∀j,j<k→oI l j=false)∧aiE (Ext w1 wr)) (fun i _=>l.length - (intOf i).toNat)
     case atStart=>exact⟨0,aiH _,rfl,aa (fun j hj=>absurd hj (by omega)),aa (by repeat(first|exact eR _|exact eA (by assumption) _|refine eA ?_ _|refine eM ?_ _ _|refine eD ?_|refine eN ?_ _))⟩
     case round=>
      obtain⟨k,hk,rfl,HJ,lW⟩:=hrel
      by_cases hlt:k<l.length
      ·have aN:(k:Int)<(l.length:Int):=by omega
       have cV:(0:Int)≤(k:Int):=by omega
       go_wp2_with fail;refine(M6 l.length k A9 c9 ES wr (ak.ext jk HE.o lW.o) Hgo.o Vn hlt).mono ?_;rintro e w3 ⟨⟨A3,c3,p,rfl,g1,g2,g3,g4⟩,l3,d3,rfl⟩;have G3:=aa g3;have Hc:=aa (Hcy.o k p hlt g4);clear g3 g4;have Hh:=aa (Ti A3 c3 (dF p l.length) k _ G3.o (by omega));cases h1:oI l k
       ·rw[Hc.o,h1] at Hh;go_wp2_with fail;refine Hh.o.mono ?_;rintro e w4 ⟨rfl,rfl⟩;go_wp2;go_roundw
        case rel=>
         refine⟨k+1,hlt,by go_num,aa (fun j hj => ?_),aa (lW.o.trans (by repeat(first|exact eR _|exact eA (by assumption) _|refine eA ?_ _|refine eM ?_ _ _|refine eD ?_|refine eN ?_ _)))⟩
         by_cases e:j=k
         ·subst e;exact h1
         ·exact HJ.o j (by omega)
        case measure=>simp[intOf];omega
       ·rw[Hc.o,h1] at Hh;have hR:=F3.o J1.o J2.o hlt HJ.o h1;subst hR;go_wp2_with fail;refine Hh.o.mono ?_;rintro e w4 ⟨rfl,rfl⟩;go_wp2;go_ret2;exact⟨rfl,HX1.o.trans (lW.o.trans (by repeat(first|exact eR _|exact eA (by assumption) _|refine eA ?_ _|refine eM ?_ _ _|refine eD ?_|refine eN ?_ _)))⟩
      ·have aaw:(l.length:Int)≤(k:Int):=by omega
       have hR:=F4.o J1.o J2.o (fun j hj=>HJ.o j (by omega));subst hR;go_wp2;go_ret2;exact⟨rfl,HX1.o.trans lW.o⟩
theorem uX (A:Option Addr) (cap:Nat) (l:List dm) (w:World) (h:bV w A l) (hl:l.length≤9) (hs:∀c∈l,c.sup.length≤9) :
  Calls Tryz.prog 219 #[.slice A l.length cap] w fun e w'=>e=.returned (.bool (AQ l))∧Ext w w':=by
 have H:=aa (uW A cap l w h hl hs);clear h hs;unfold AQ;generalize dg l=R at *;go_enter Tryz.func219,Tryz.ntmps219;go_wp2_with fail;refine H.o.mono ?_;rintro e w1 ⟨rfl,l1,d1,rfl⟩;go_wp2;go_ret;exact⟨rfl,(by repeat(first|exact eR _|exact eA (by assumption) _|refine eA ?_ _|refine eM ?_ _ _|refine eD ?_|refine eN ?_ _))⟩
theorem JB (A:Option Addr) (cap:Nat) (l:List dm) (w:World) (h:bV w A l) (hl:l.length≤9) (hs:∀c∈l,c.sup.length≤9) :
  Calls Tryz.prog 102 #[.slice A l.length cap] w fun e w'=>e=.returned (.bool (AQ l))∧Ext w w':=by
 have H:=aa (EJ A cap l w h hl hs);clear h hs;unfold AQ;generalize dg l=R at *;go_enter Tryz.func102,Tryz.ntmps102;go_wp2_with fail;refine H.o.mono ?_;rintro e w1 ⟨rfl,l1,d1,rfl⟩;go_wp2;go_ret;exact⟨rfl,(by repeat(first|exact eR _|exact eA (by assumption) _|refine eA ?_ _|refine eM ?_ _ _|refine eD ?_|refine eN ?_ _))⟩
set_option maxRecDepth 512
set_option maxHeartbeats 200000
section
variable (A : Option Addr) (cap:Nat) (l:List dm) (x:aj) (w:World)
end
set_option maxRecDepth 10000
set_option maxHeartbeats 8000000
theorem M7 (A:Option Addr) (cap:Nat) (l:List Int) (w:World) (h:Ints w A l) (hl:l.length≤100000) (hn:A=none→l=[]∧cap=0) :
  Calls Tryz.prog 220 #[.slice A l.length cap] w fun e w'=>(∃v,e=.returned v∧w'.ownsRow w.heap.size 3 1 v l.length (l.map (Value.int .i64)))∧Ext w w':=by
 obtain⟨i0,hi,hz0,hz1,hz2⟩:=info_parts kH
 rcases A with _|a
 ·obtain⟨rfl,rfl⟩:=hn rfl;have heq:=fun(w:World) (a:Option Addr) (n c:Nat)=>Lib.run_eql_slice_nil (P:=Tryz.prog) w 38 3 a n c 0 0 Tryz.underlying38
  clear h hn;go_enter Tryz.func220,Tryz.ntmps220;go_wp2;go_ret;exact⟨⟨_,rfl,World.ownsRow_nil _ _ _ _⟩,(by repeat(first|exact eR _|exact eA (by assumption) _|refine eA ?_ _|refine eM ?_ _ _|refine eD ?_|refine eN ?_ _))⟩
 ·have Hr:=aa h.row;have tB:aiE ((w.alloc (.cells #[] 3)).ownsRow w.heap.size 3 1 (.slice (some ⟨w.heap.size,0,none⟩) 0 0) 0 []):=aa (World.ownsRow_made w #[] 0 (aiG _) (by simp) (by simp));have heq:=fun(w:World) (a:Option Addr) (n c:Nat)=>Lib.run_eql_slice_nil (P:=Tryz.prog) w 38 3 a n c 0 0 Tryz.underlying38
  clear h hn;go_enter Tryz.func220,Tryz.ntmps220;go_wp2_with (at_builtin;refine aD _ rfl _ _ 38 rfl w.heap.size 3 i0 _ 1 8 Tryz.underlying38 hi hz0 hz1 hz2 rfl (by decide) _ 0 [] rfl tB.o (some a) l.length cap (l.map (Value.int .i64)) rfl ?c2 ?c3 ?c4 ?c5 ?c6 ?_)
  case c2=>exact Row.ext Hr.o (Ext.alloc (eR _) _)
  case c3=>exact xg _
  case c4=>unfold maxLen;omega
  case c5=>omega
  case c6=>simp
  intro v4 w4 br hg4 _;have X4:aiE (Ext w w4):=aa (Ext.app (Ext.alloc (eR _) _) hg4 tB.o (aiG _));have O4:aiE (w4.ownsRow w.heap.size 3 1 v4 l.length (l.map (Value.int .i64))):=aa (by simpa using br);clear br hg4;go_wp2;go_ret;exact⟨⟨_,rfl,O4.o⟩,X4.o⟩
set_option maxRecDepth 512
set_option maxHeartbeats 200000
def bY (l:List dm) (tgt:aj):Nat→aj→Option (List Nat)
 |0,x=>if x == tgt then some [] else none
 |n+1,x=>(dv l x).zipIdx.findSome? fun y=>(bY l tgt n y.1).map (y.2 :: ·)
theorem JC {β γ:Type}(f:γ×Nat→Option β):∀(row:List γ) (i0 i:Nat) (r:β),(∃y,row[i]?=some y∧f (y,i0+i)=some r)→(∀j y,j<i→row[j]?=some y→f (y,i0+j)=none)→(row.zipIdx i0).findSome? f=some r
 | [],i0,i,r,⟨y,h,_⟩,_=>by simp at h
 |z :: row,i0,0,r,⟨y,h,h1⟩,_=>by
  simp at h;subst h;simp only[List.zipIdx_cons,List.findSome?_cons];rw[Nat.add_zero] at h1;rw[h1]
 |z :: row,i0,i+1,r,⟨y,h,h1⟩,h2=>by
  simp only[List.zipIdx_cons,List.findSome?_cons];have h3:=h2 0 z (by omega) rfl;rw[Nat.add_zero] at h3;rw[h3];refine JC f row (i0+1) i r ⟨y,by simpa using h,by rw[←h1];congr 2;omega⟩ (fun j y hj hy => ?_);have:=h2 (j+1) y (by omega) (by simpa using hy);rw[←this];congr 2;omega
theorem JD {β γ:Type}(f:γ×Nat→Option β):∀(row:List γ) (i0:Nat),(∀j y,row[j]?=some y→f (y,i0+j)=none)→(row.zipIdx i0).findSome? f=none
 | [],i0,_=>by simp
 |z :: row,i0,h2=>by
  simp only[List.zipIdx_cons,List.findSome?_cons];have h3:=h2 0 z rfl;rw[Nat.add_zero] at h3;rw[h3];refine JD f row (i0+1) (fun j y hy => ?_);have:=h2 (j+1) y (by simpa using hy);rw[←this];congr 2;omega
theorem JE (l:List dm) (tqq:aj) (n:Nat) (x:aj){i:Nat}{p:List Nat}(hi:i<(dv l x).length) (h:∀j,j<i→bY l tqq n ((dv l x).getD j [])=none) (hp:bY l tqq n ((dv l x).getD i [])=some p) :
  bY l tqq (n+1) x=some (i :: p):=by
 refine JC _ _ 0 i _ ⟨(dv l x).getD i [],by simp[hi],by simp only[hp,Option.map_some,Nat.zero_add]⟩ (fun j y hj hy => ?_);have:(dv l x).getD j []=y:=by simp[hy]
 have h1:=h j hj;rw[this] at h1;simp[h1]
theorem JF (l:List dm) (tqq:aj) (n:Nat) (x:aj) (h:∀j,j<(dv l x).length→bY l tqq n ((dv l x).getD j [])=none):bY l tqq (n+1) x=none:=by
 refine JD _ _ 0 (fun j y hy => ?_);have hj:j<(dv l x).length:=(List.getElem?_eq_some_iff.1 hy).1;have:(dv l x).getD j []=y:=by simp[hy]
 have h1:=h j hj;rw[this] at h1;simp[h1]
theorem ln (l:List dm) (tqq:aj):∀(n:Nat) (x:aj) (p:List Nat),bY l tqq n x=some p→p.length=n∧(x=tqq∨Up l x tqq)
 |0,x,p,h=>by
  simp only[bY] at h
  split at h
  ·rename_i he
   injection h with h;subst h;exact⟨rfl,.inl (by simpa using he)⟩
  ·cases h
 |n+1,x,p,h=>by
  obtain⟨y,hy,hf⟩:=List.exists_of_findSome?_eq_some h;simp only[Option.map_eq_some_iff] at hf;obtain⟨q,hq,rfl⟩:=hf;obtain⟨h1,h2⟩:=ln l tqq n y.1 q hq;have hm:y.1∈dv l x:=by
   have:=List.mem_zipIdx_iff_getElem?.1 hy;exact List.mem_of_getElem? this
  refine⟨by simp[h1],.inr ?_⟩
  rcases h2 with h2|h2
  ·rw[←h2];exact .one hm
  ·exact(Up.one hm).trans h2
def bD (p:Option (List Nat)):List Int:=(p.getD []).map Int.ofNat
set_option maxRecDepth 10000
set_option maxHeartbeats 8000000
theorem rO (A:Option Addr) (cap:Nat) (l:List dm) (tqq:aj) (hl:l.length≤9) (hs:∀c∈l,c.sup.length≤9):∀(n:Nat) (x:aj) (w:World),n≤100→bV w A l →
  Calls Tryz.prog 198 #[.slice A l.length cap,encStr x,encStr tqq,.int .i64 n] w fun e w'=>(∃A' cap',e=.returned (.tuple #[.slice A' (bD (bY l tqq n x)).length cap',.bool (bY l tqq n x).isSome])∧(bD (bY l tqq n x)).length≤cap'∧cap'≤9223372036854775807∧Ints w' A' (bD (bY l tqq n x)))∧Ext w w':=by
 intro n
 induction n with
 |zero=>
  intro x w _ h;clear h;cases he:(x == tqq)
  ·have hR:bY l tqq 0 x=none:=by simp[bY,he]
   rw[hR];clear hR;go_enter Tryz.func198,Tryz.ntmps198;go_wp2;go_ret2;exact⟨⟨none,0,rfl,aiG _,by omega,ak.nil _ _ _⟩,(by repeat(first|exact eR _|exact eA (by assumption) _|refine eA ?_ _|refine eM ?_ _ _|refine eD ?_|refine eN ?_ _))⟩
  ·have hR:bY l tqq 0 x=some []:=by simp[bY,he]
   rw[hR];clear hR;go_enter Tryz.func198,Tryz.ntmps198;go_wp2;go_ret2;exact⟨⟨none,0,rfl,aiG _,by omega,ak.nil _ _ _⟩,(by repeat(first|exact eR _|exact eA (by assumption) _|refine eA ?_ _|refine eM ?_ _ _|refine eD ?_|refine eN ?_ _))⟩
 |succ n ih=>
  intro x w hn h;obtain⟨i0,hi,hz0,hz1,hz2⟩:=info_parts kH;have HC:=aa h;have HI:=aa ih;have Hs:=aa (rN A cap l x w h (by omega));have pC:=aa (fun i p => @JE l tqq n x i p);have j7:=aa (JF l tqq n x);have vv:=rJ l hs x;have jM:=aa (fun y p=>ln l tqq n y p);have sD:¬((n:Int)+1=0):=by omega
  have zr:(((n:Int)+1) == 0)=false:=by simp;omega
  have gq:(n:Int)+1 - 1=(n:Int):=by omega
  have OI:((n+1:Nat):Int)=(n:Int)+1:=by omega
  have hnb:(n:Int)≤100:=by omega
  have mO:n≤100:=by omega
  rw[OI];clear h ih hs OI sD;generalize bY l tqq (n+1) x=R at *;generalize dv l x=row at *;go_enter Tryz.func198,Tryz.ntmps198;go_wp2_with fail;refine Hs.o.mono ?_;rintro e w1 ⟨⟨A1,c1,rfl,g1,g2,g3⟩,rfl⟩;have G3:=aa g3;clear g3 Hs;go_wp2
  go_loopw [11] (fun i wr=>∃k:Nat,k≤row.length∧i=.int .i64 k∧aiE (Ext w1 wr)∧aiE (∀j,j<k→bY l tqq n (row.getD j [])=none)) (fun i _=>row.length - (intOf i).toNat)
  case atStart=>exact⟨0,aiH _,rfl,aa (by repeat(first|exact eR _|exact eA (by assumption) _|refine eA ?_ _|refine eM ?_ _ _|refine eD ?_|refine eN ?_ _)),aa (fun j hj=>absurd hj (by omega))⟩
  case round=>
   obtain⟨k,hk,rfl,HX,HJ⟩:=hrel
   by_cases hlt:k<row.length
   ·obtain⟨b,o,rfl,hb,q0⟩:=(G3.o.ext HX.o).at_ hlt;have aN:(k:Int)<(row.length:Int):=by omega
    have Hk:=aa (fun p=>pC.o k p hlt HJ.o);generalize hy:row.getD k []=y at *;have Hy:=aa hy;clear hy;have Hc:=aa (HI.o y wr mO (HC.o.ext HX.o));cases hp:bY l tqq n y with
    |none=>
     rw[hp] at Hc;go_wp2_with fail;refine Hc.o.mono ?_;rintro e w3 ⟨⟨A3,c3,rfl,p1,p2,p3⟩,l3,d3,rfl⟩;clear p3;go_wp2;go_roundw
     case rel=>
      refine⟨k+1,hlt,by go_num,aa (HX.o.trans (by repeat(first|exact eR _|exact eA (by assumption) _|refine eA ?_ _|refine eM ?_ _ _|refine eD ?_|refine eN ?_ _))),aa (fun j hj => ?_)⟩
      by_cases e:j=k
      ·subst e;rw[Hy.o];exact hp
      ·exact HJ.o j (by omega)
     case measure=>simp[intOf];omega
    |some p=>
     rw[hp] at Hc;have hR:=Hk.o p hp;have hpl:=(jM.o y p hp).1;subst hR;go_wp2_with fail;refine Hc.o.mono ?_;rintro e w3 ⟨⟨A3,c3,rfl,p1,p2,p3⟩,l3,d3,rfl⟩;have P3:=aa p3.row;have HR:aiE (bD (some (k :: p))=[(k:Int)]++bD (some p)):=aa rfl;have hol:(bD (some p)).length≤100:=by unfold bD;simp;omega
     clear p3;generalize bD (some p)=O at *;generalize hF:bD (some (k :: p))=F at *;have HF:=aa hF;clear hF;have tB:aiE (((more wr l3 d3).alloc (.cells #[.int .i64 k] 3)).ownsRow (more wr l3 d3).heap.size 3 1 (.slice (some ⟨(more wr l3 d3).heap.size,0,none⟩) 1 1) 1 [.int .i64 k]):=aa (World.ownsRow_lit _ _ 1 (aiG _) (by unfold maxLen;omega) (by simp));rw[CM] at tB;go_wp2_with (at_builtin;refine aD _ rfl _ _ 38 rfl (wr.heap.size+l3.length) 3 i0 _ 1 8 Tryz.underlying38 hi hz0 hz1 hz2 rfl (by decide) _ 1 [.int .i64 k] rfl tB.o A3 O.length c3 (O.map (Value.int .i64)) rfl ?c2 ?c3 ?c4 ?c5 ?c6 ?_)
     case c2=>exact Row.ext P3.o (Ext.alloc (eR _) _)
     case c3=>exact xg _
     case c4=>unfold maxLen;omega
     case c5=>omega
     case c6=>simp
     intro v4 w4 br hg4 _;have X4:aiE (Ext wr w4):=aa (Ext.app (by repeat(first|exact eR _|exact eA (by assumption) _|refine eA ?_ _|refine eM ?_ _ _|refine eD ?_|refine eN ?_ _)) hg4 tB.o (by simp));have O4:aiE (w4.ownsRow (wr.heap.size+l3.length) 3 1 v4 F.length (F.map (Value.int .i64))):=aa (by
      have:=br;rw[show(1+O.length)=F.length by rw[HR.o];simp;omega,show(Value.int .i64 k :: O.map (Value.int .i64))=F.map (Value.int .i64) by rw[HR.o];simp] at this;exact this)
     clear br hg4;obtain⟨A5,c5,rfl,z1,z2,z3,_⟩:=Ints.own O4.o;have Z3:=aa z3;clear z3;go_wp2;go_ret2;rw[HF.o];exact⟨⟨A5,c5,rfl,z1,z2,Z3.o⟩,HX.o.trans X4.o⟩
   ·have bS:(row.length:Int)≤(k:Int):=by omega
    have hR:=j7.o (fun j hj=>HJ.o j (by omega));subst hR;go_wp2;go_ret2;exact⟨⟨none,0,rfl,aiG _,by omega,ak.nil _ _ _⟩,HX.o⟩
set_option maxRecDepth 512
set_option maxHeartbeats 200000
def bU (l:List dm) (a b:aj):Option (List Nat):=
 if AQ l && !decide (fS l a<0) && !decide (fS l b<0) then(List.range l.length).findSome? fun n=>bY l b n a else none
theorem JG {β:Type}(f:Nat→Option β){N n:Nat}{r:β}(hn:n<N) (h:f n=some r) (hb:∀m,m<n→f m=none):(List.range N).findSome? f=some r:=by
 obtain⟨h1,h2⟩:=fD f N;cases he:(List.range N).findSome? f with
 |none=>have:=h2 he n hn;rw[h] at this;cases this
 |some s=>
  obtain⟨m,hm,h3,h4⟩:=h1 s he
  rcases Nat.lt_trichotomy m n with g|g|g
  ·rw[hb m g] at h3;cases h3
  ·subst g;rw[h] at h3;exact h3.symm
  ·rw[h4 n g] at h;cases h
theorem yC {β:Type}(f:Nat→Option β){N:Nat}(hb:∀m,m<N→f m=none):(List.range N).findSome? f=none:=by
 rw[List.findSome?_eq_none_iff];intro x hx;exact hb x (by simpa using hx)
theorem EK (l:List dm) (a b:aj) (h:(a == b)=false) (hu:(fo l a).any (· == b)=false):(List.range l.length).findSome? (fun n=>bY l b n a)=none:=by
 refine yC _ fun n _ => ?_
 cases hp:bY l b n a with
 |none=>rfl
 |some p=>
  exfalso
  rcases (ln l b n a p hp).2 with h1|h1
  ·simp at h;exact h h1
  ·exact(rI _ _).1 hu (((pj l a).2 b).2 h1)
theorem lX {β γ δ:Type}(F:γ×Nat→Option β) (G:δ×Nat→Option β) (g:γ→δ):∀(row:List γ) (i0:Nat),(∀s∈row,∀k,F (s,k)=G (g s,k))→(row.zipIdx i0).findSome? F=((row.map g).zipIdx i0).findSome? G
 | [],_,_=>rfl
 |s :: row,i0,h=>by
  simp only[List.zipIdx_cons,List.map_cons,List.findSome?_cons];rw[h s (by simp) i0,lX F G g row (i0+1) (fun t ht k=>h t (by simp[ht]) k)]
theorem Cs {l:List dm}(h:Sound l){b:Nat}(hb:b<l.length):∀(n a:Nat) (ha:a<l.length),bY l (l[b]'hb).name n (l[a]'ha).name=kD (bn l) b n a
 |0,a,ha=>by
  simp only[bY,kD]
  by_cases e:a=b
  ·subst e;simp
  ·rw[if_neg e,if_neg];intro hh;exact e (h.inj ha hb (by simpa using hh))
 |n+1,a,ha=>by
  simp only[bY,kD];rw[h.sup ha];have hsc:bn l a=((l[a]'ha).sup).map fun s=>(fS l s).toNat:=by unfold bn;rw[cH ha]
  rw[hsc];refine lX _ _ _ _ 0 (fun s hs k => ?_);obtain⟨j,hj,e,en⟩:=h.to ha hs;have ih:=Cs h hb n j hj;simp only;rw[e,Int.toNat_natCast,←ih,en]
theorem EL {l:List dm}(ho:AQ l=true){a b:Nat}(ha:a<l.length) (hb:b<l.length) (x y:aj) (hx:(l[a]'ha).name=x) (hy:(l[b]'hb).name=y){f:Nat}(hf:1+fE (bn l) (fun _=>false) l.length≤f) :
  bU l x y=gz (bn l) b f (fun _=>false) [(a,[])]:=by
 have Xz:=(uT ho).1;rw[Ju (N:=l.length) (fun x hx y hy=>kG Xz x hx y hy) ha hf];unfold bU kE;have e1:=Xz.at_ ha;have e2:=Xz.at_ hb;rw[hx] at e1;rw[hy] at e2;rw[ho,e1,e2];have h1:decide ((a:Int)<0)=false:=by simp
 have h2:decide ((b:Int)<0)=false:=by simp
 rw[h1,h2];simp only[Bool.not_false,Bool.and_self,↓reduceIte]
 congr 1
 funext n
 rw[←hx,←hy];exact Cs Xz hb n a ha
section
variable (A : Option Addr) (cap:Nat) (l:List dm) (x y:aj) (w:World)
set_option maxRecDepth 10000
set_option maxHeartbeats 8000000
theorem JH (h:bV w A l) (hl:l.length≤9) (hs:∀c∈l,c.sup.length≤9) :
  Calls Tryz.prog 151 #[.slice A l.length cap,encStr x,encStr y] w fun e w'=>(∃A' cap',e=.returned (.tuple #[.slice A' (bD (bU l x y)).length cap',.bool (bU l x y).isSome])∧(bD (bU l x y)).length≤cap'∧cap'≤9223372036854775807∧Ints w' A' (bD (bU l x y)))∧Ext w w':=by
 have HC:=aa h;have HS:=aa hs;have Ho:=aa (JB A cap l w h hl hs);have Ha:=aa (fun w' (e:Ext w w')=>aa (kC A cap l x w' (h.ext e) (by omega)));have Hb:=aa (fun w' (e:Ext w w')=>aa (kC A cap l y w' (h.ext e) (by omega)));have Hu:=aa (fun w' (e:Ext w w')=>aa (uV A cap l x w' (h.ext e) hl hs));have Hf:=aa (EK l x y);clear h hs;have HP:aiE (bU l x y=if AQ l && !decide (fS l x<0) && !decide (fS l y<0) then(List.range l.length).findSome? fun n=>bY l y n x else none):=aa rfl;generalize bU l x y=R at *;generalize fS l x=a at *;generalize fS l y=b at *;cases ho:AQ l
 ·rw[ho] at Ho HP;have hR:R=none:=HP.o;subst hR;go_enter Tryz.func151,Tryz.ntmps151;go_wp2_with fail;refine Ho.o.mono ?_;rintro e w2 ⟨rfl,l2,d2,rfl⟩;go_wp2;go_ret2;exact⟨⟨none,0,rfl,aiG _,by omega,ak.nil _ _ _⟩,(by repeat(first|exact eR _|exact eA (by assumption) _|refine eA ?_ _|refine eM ?_ _ _|refine eD ?_|refine eN ?_ _))⟩
 ·rw[ho] at Ho HP
  by_cases ha:a<0
  ·have hR:R=none:=by rw[HP.o];simp[ha]
   subst hR;go_enter Tryz.func151,Tryz.ntmps151;go_wp2_with fail;refine Ho.o.mono ?_;rintro e w2 ⟨rfl,l2,d2,rfl⟩;go_wp2_with fail;refine(Ha.o _ (by repeat(first|exact eR _|exact eA (by assumption) _|refine eA ?_ _|refine eM ?_ _ _|refine eD ?_|refine eN ?_ _))).o.mono ?_;rintro e w3 ⟨rfl,rfl⟩;go_wp2;go_ret2;exact⟨⟨none,0,rfl,aiG _,by omega,ak.nil _ _ _⟩,(by repeat(first|exact eR _|exact eA (by assumption) _|refine eA ?_ _|refine eM ?_ _ _|refine eD ?_|refine eN ?_ _))⟩
  ·by_cases hb:b<0
   ·have hR:R=none:=by rw[HP.o];simp[hb]
    subst hR;go_enter Tryz.func151,Tryz.ntmps151;go_wp2_with fail;refine Ho.o.mono ?_;rintro e w2 ⟨rfl,l2,d2,rfl⟩;go_wp2_with fail;refine(Ha.o _ (by repeat(first|exact eR _|exact eA (by assumption) _|refine eA ?_ _|refine eM ?_ _ _|refine eD ?_|refine eN ?_ _))).o.mono ?_;rintro e w3 ⟨rfl,rfl⟩;go_wp2_with fail;refine(Hb.o _ (by repeat(first|exact eR _|exact eA (by assumption) _|refine eA ?_ _|refine eM ?_ _ _|refine eD ?_|refine eN ?_ _))).o.mono ?_;rintro e w3 ⟨rfl,rfl⟩;go_wp2;go_ret2;exact⟨⟨none,0,rfl,aiG _,by omega,ak.nil _ _ _⟩,(by repeat(first|exact eR _|exact eA (by assumption) _|refine eA ?_ _|refine eM ?_ _ _|refine eD ?_|refine eN ?_ _))⟩
   ·have HR:aiE (R=(List.range l.length).findSome? fun n=>bY l y n x):=aa (by rw[HP.o];simp[ha,hb]);clear HP;have main:∀(JI:(x == y)=true∨((x == y)=false∧(fo l x).any (· == y)=true)),Calls Tryz.prog 151 #[.slice A l.length cap,encStr x,encStr y] w fun e w'=>(∃A' cap',e=.returned (.tuple #[.slice A' (bD R).length cap',.bool R.isSome])∧(bD R).length≤cap'∧cap'≤9223372036854775807∧Ints w' A' (bD R))∧Ext w w':=by
     intro JI;have n9:=aa (fun n p => @JG _ (fun n=>bY l y n x) l.length n p);have kZ:=aa (@yC _ (fun n=>bY l y n x) l.length);rw[←HR.o] at kZ;have Vo:aiE (∀n p,n<l.length→bY l y n x=some p→(∀m,m<n→bY l y m x=none)→R=some p):=aa (fun n p h1 h2 h3=>by rw[HR.o];exact n9.o n p h1 h2 h3);clear n9 HR
     rcases JI with gY|⟨gY,hab⟩
     ·have Vp:(x != y)=false:=by simp at gY;simp[gY]
      go_enter Tryz.func151,Tryz.ntmps151;go_wp2_with fail;refine Ho.o.mono ?_;rintro e w2 ⟨rfl,l2,d2,rfl⟩;go_wp2_with fail;refine(Ha.o _ (by repeat(first|exact eR _|exact eA (by assumption) _|refine eA ?_ _|refine eM ?_ _ _|refine eD ?_|refine eN ?_ _))).o.mono ?_;rintro e w3 ⟨rfl,rfl⟩;go_wp2_with fail;refine(Hb.o _ (by repeat(first|exact eR _|exact eA (by assumption) _|refine eA ?_ _|refine eM ?_ _ _|refine eD ?_|refine eN ?_ _))).o.mono ?_;rintro e w3 ⟨rfl,rfl⟩;go_wp2
      go_loopw [8] (fun i wr=>∃k:Nat,k≤l.length∧i=.int .i64 k∧aiE (Ext w wr)∧aiE (∀m,m<k→bY l y m x=none)) (fun i _=>l.length - (intOf i).toNat)
      case atStart=>exact⟨0,aiH _,rfl,aa (by repeat(first|exact eR _|exact eA (by assumption) _|refine eA ?_ _|refine eM ?_ _ _|refine eD ?_|refine eN ?_ _)),aa (fun j hj=>absurd hj (by omega))⟩
      case round=>
       obtain⟨k,hk,rfl,HX,HJ⟩:=hrel
       by_cases hlt:k<l.length
       ·have aN:(k:Int)<(l.length:Int):=by omega
        have Hc:=aa (rO A cap l y hl HS.o k x wr (by omega) (HC.o.ext HX.o));cases hp:bY l y k x with
        |none=>
         rw[hp] at Hc;go_wp2_with fail;refine Hc.o.mono ?_;rintro e w4 ⟨⟨A4,c4,rfl,p1,p2,p3⟩,l4,d4,rfl⟩;clear p3;go_wp2;go_roundw
         case rel=>
          refine⟨k+1,hlt,by go_num,aa (HX.o.trans (by repeat(first|exact eR _|exact eA (by assumption) _|refine eA ?_ _|refine eM ?_ _ _|refine eD ?_|refine eN ?_ _))),aa (fun j hj => ?_)⟩
          by_cases e:j=k
          ·subst e;exact hp
          ·exact HJ.o j (by omega)
         case measure=>simp[intOf];omega
        |some p=>
         rw[hp] at Hc;have hR:=Vo.o k p hlt hp HJ.o;subst hR;go_wp2_with fail;refine Hc.o.mono ?_;rintro e w4 ⟨⟨A4,c4,rfl,p1,p2,p3⟩,l4,d4,rfl⟩;have P3:=aa p3;clear p3;go_wp2;go_ret2;exact⟨⟨A4,c4,rfl,p1,p2,P3.o⟩,HX.o.trans (by repeat(first|exact eR _|exact eA (by assumption) _|refine eA ?_ _|refine eM ?_ _ _|refine eD ?_|refine eN ?_ _))⟩
       ·have bS:(l.length:Int)≤(k:Int):=by omega
        have hR:=kZ.o (fun j hj=>HJ.o j (by omega));subst hR;go_wp2;go_ret2;exact⟨⟨none,0,rfl,aiG _,by omega,ak.nil _ _ _⟩,HX.o⟩
     ·have Vp:(x != y)=true:=by simp at gY;simp[gY]
      go_enter Tryz.func151,Tryz.ntmps151;go_wp2_with fail;refine Ho.o.mono ?_;rintro e w2 ⟨rfl,l2,d2,rfl⟩;go_wp2_with fail;refine(Ha.o _ (by repeat(first|exact eR _|exact eA (by assumption) _|refine eA ?_ _|refine eM ?_ _ _|refine eD ?_|refine eN ?_ _))).o.mono ?_;rintro e w3 ⟨rfl,rfl⟩;go_wp2_with fail;refine(Hb.o _ (by repeat(first|exact eR _|exact eA (by assumption) _|refine eA ?_ _|refine eM ?_ _ _|refine eD ?_|refine eN ?_ _))).o.mono ?_;rintro e w3 ⟨rfl,rfl⟩;go_wp2_with fail;refine(Hu.o _ (by repeat(first|exact eR _|exact eA (by assumption) _|refine eA ?_ _|refine eM ?_ _ _|refine eD ?_|refine eN ?_ _))).o.mono ?_;rintro e w3 ⟨⟨A3,c3,rfl,g1,g2,g3⟩,l3,d3,rfl⟩;simp only[kN] at g3;have Hh:=aa (kX A3 c3 _ y _ g3 (by omega));rw[hab] at Hh;clear g3;generalize fo l x=V at *;go_wp2_with fail;refine Hh.o.mono ?_;rintro e w3 ⟨rfl,rfl⟩;go_wp2
      go_loopw [8] (fun i wr=>∃k:Nat,k≤l.length∧i=.int .i64 k∧aiE (Ext w wr)∧aiE (∀m,m<k→bY l y m x=none)) (fun i _=>l.length - (intOf i).toNat)
      case atStart=>exact⟨0,aiH _,rfl,aa (by repeat(first|exact eR _|exact eA (by assumption) _|refine eA ?_ _|refine eM ?_ _ _|refine eD ?_|refine eN ?_ _)),aa (fun j hj=>absurd hj (by omega))⟩
      case round=>
       obtain⟨k,hk,rfl,HX,HJ⟩:=hrel
       by_cases hlt:k<l.length
       ·have aN:(k:Int)<(l.length:Int):=by omega
        have Hc:=aa (rO A cap l y hl HS.o k x wr (by omega) (HC.o.ext HX.o));cases hp:bY l y k x with
        |none=>
         rw[hp] at Hc;go_wp2_with fail;refine Hc.o.mono ?_;rintro e w4 ⟨⟨A4,c4,rfl,p1,p2,p3⟩,l4,d4,rfl⟩;clear p3;go_wp2;go_roundw
         case rel=>
          refine⟨k+1,hlt,by go_num,aa (HX.o.trans (by repeat(first|exact eR _|exact eA (by assumption) _|refine eA ?_ _|refine eM ?_ _ _|refine eD ?_|refine eN ?_ _))),aa (fun j hj => ?_)⟩
          by_cases e:j=k
          ·subst e;exact hp
          ·exact HJ.o j (by omega)
         case measure=>simp[intOf];omega
        |some p=>
         rw[hp] at Hc;have hR:=Vo.o k p hlt hp HJ.o;subst hR;go_wp2_with fail;refine Hc.o.mono ?_;rintro e w4 ⟨⟨A4,c4,rfl,p1,p2,p3⟩,l4,d4,rfl⟩;have P3:=aa p3;clear p3;go_wp2;go_ret2;exact⟨⟨A4,c4,rfl,p1,p2,P3.o⟩,HX.o.trans (by repeat(first|exact eR _|exact eA (by assumption) _|refine eA ?_ _|refine eM ?_ _ _|refine eD ?_|refine eN ?_ _))⟩
       ·have bS:(l.length:Int)≤(k:Int):=by omega
        have hR:=kZ.o (fun j hj=>HJ.o j (by omega));subst hR;go_wp2;go_ret2;exact⟨⟨none,0,rfl,aiG _,by omega,ak.nil _ _ _⟩,HX.o⟩
    cases gY:(x == y)
    ·cases hab:(fo l x).any (· == y)
     ·have hR:R=none:=by rw[HR.o];exact Hf.o gY hab
      subst hR;have Vp:(x != y)=true:=by simp at gY;simp[gY]
      clear main;go_enter Tryz.func151,Tryz.ntmps151;go_wp2_with fail;refine Ho.o.mono ?_;rintro e w2 ⟨rfl,l2,d2,rfl⟩;go_wp2_with fail;refine(Ha.o _ (by repeat(first|exact eR _|exact eA (by assumption) _|refine eA ?_ _|refine eM ?_ _ _|refine eD ?_|refine eN ?_ _))).o.mono ?_;rintro e w3 ⟨rfl,rfl⟩;go_wp2_with fail;refine(Hb.o _ (by repeat(first|exact eR _|exact eA (by assumption) _|refine eA ?_ _|refine eM ?_ _ _|refine eD ?_|refine eN ?_ _))).o.mono ?_;rintro e w3 ⟨rfl,rfl⟩;go_wp2_with fail;refine(Hu.o _ (by repeat(first|exact eR _|exact eA (by assumption) _|refine eA ?_ _|refine eM ?_ _ _|refine eD ?_|refine eN ?_ _))).o.mono ?_;rintro e w3 ⟨⟨A3,c3,rfl,g1,g2,g3⟩,l3,d3,rfl⟩;simp only[kN] at g3;have Hh:=aa (kX A3 c3 _ y _ g3 (by omega));rw[hab] at Hh;clear g3;generalize fo l x=V at *;go_wp2_with fail;refine Hh.o.mono ?_;rintro e w3 ⟨rfl,rfl⟩;go_wp2;go_ret2;exact⟨⟨none,0,rfl,aiG _,by omega,ak.nil _ _ _⟩,(by repeat(first|exact eR _|exact eA (by assumption) _|refine eA ?_ _|refine eM ?_ _ _|refine eD ?_|refine eN ?_ _))⟩
     ·exact main (.inr ⟨gY,hab⟩)
    ·exact main (.inl gY)
set_option maxRecDepth 512
set_option maxHeartbeats 200000
end
def ek (c t:aj) (x:cL):Bool:=x.cls == c&&x.aq == t
def fJ (l:List cL) (c t:aj):Option Nat:=l.findIdx? (ek c t)
theorem yD {l:List cL}{c t:aj}{k:Nat}(hk:k<l.length) (hl:∀j (h:j<l.length),j<k→ek c t (l[j]'h)=false) (h:ek c t (l[k]'hk)=true):fJ l c t=some k:=by
 unfold fJ;rw[List.findIdx?_eq_some_iff_getElem];refine⟨hk,h,fun j hj => ?_⟩;rw[hl j (by omega) hj];simp
theorem yE {l:List cL}{c t:aj}(hl:∀j (h:j<l.length),ek c t (l[j]'h)=false):fJ l c t=none:=by
 unfold fJ;rw[List.findIdx?_eq_none_iff];intro x hx;obtain⟨j,hj,rfl⟩:=List.mem_iff_getElem.1 hx;exact hl j hj
set_option maxRecDepth 10000
set_option maxHeartbeats 8000000
theorem QT (A:Option Addr) (cap:Nat) (l:List cL) (c t:aj) (w:World) (h:iJ w A l) (hl:l.length≤9223372036854775806) :
  Calls Tryz.prog 192 #[.slice A l.length cap,encStr c,encStr t] w fun e w'=>e=.returned (.tuple #[.int .i64 ((fJ l c t).getD 0:Nat),.bool (fJ l c t).isSome])∧Ext w w':=by
 have H:=aa h;have pC:=aa (fun k hk => @yD l c t k hk);have j7:=aa (@yE l c t);generalize fJ l c t=R at *;clear h;go_enter Tryz.func192,Tryz.ntmps192;go_wp2
 go_loopw [12] (fun i wr=>∃k:Nat,k≤l.length∧i=.int .i64 k∧aiE (∀j (h:j<l.length),j<k→ek c t (l[j]'h)=false)∧aiE (Ext w wr)) (fun i _=>l.length - (intOf i).toNat)
 case atStart=>exact⟨0,aiH _,rfl,aa (fun j _ hj=>absurd hj (by omega)),aa (eR _)⟩
 case round=>
  obtain⟨k,hk,rfl,HJ,HX⟩:=hrel
  by_cases hlt:k<l.length
  ·have aN:(k:Int)<(l.length:Int):=by omega
   have cV:(0:Int)≤(k:Int):=by omega
   obtain⟨b,o,rfl,hb,q0,q1,q2,q3⟩:=(H.o.ext HX.o).at_ hlt;have nG:=aa (fun h=>pC.o k hlt HJ.o h);have jU:aiE (ek c t (l[k]'hlt)=false→∀j (h:j<l.length),j<k+1→ek c t (l[j]'h)=false):=aa (fun h0 j hj hjk=>by
    by_cases e:j=k
    ·subst e;exact h0
    ·exact HJ.o j hj (by omega))
   generalize l[k]'hlt=x at *;cases e1:(x.cls == c)
   ·have f1:¬x.cls=c:=by simpa using e1
    have Ih:=aa (jU.o (by unfold ek;rw[e1];rfl));clear nG jU;go_wp2;go_roundw
    case rel=>exact⟨k+1,hlt,by go_num,Ih,aa (HX.o.alloc _)⟩
    case measure=>simp[intOf];omega
   ·have f1:x.cls=c:=by simpa using e1
    cases e2:(x.aq == t)
    ·have f2:¬x.aq=t:=by simpa using e2
     have Ih:=aa (jU.o (by unfold ek;rw[e1,e2];rfl));clear nG jU f1;go_wp2;go_roundw
     case rel=>exact⟨k+1,hlt,by go_num,Ih,aa (HX.o.alloc _)⟩
     case measure=>simp[intOf];omega
    ·have f2:x.aq=t:=by simpa using e2
     have hR:R=some k:=nG.o (by unfold ek;rw[e1,e2];rfl);clear nG jU pC j7 f1 f2;subst hR;have X2:=aa (HX.o.alloc (.cells #[encStr x.cls,encStr x.aq,.int .i64 x.n,.slice x.A x.preds.length x.cap] 70));go_wp2;go_ret2;exact⟨rfl,X2.o⟩
  ·have bS:¬(k:Int)<(l.length:Int):=by omega
   have hR:R=none:=j7.o (fun j hj=>HJ.o j hj (by omega));clear pC j7;subst hR;go_wp2;go_ret2;exact⟨rfl,HX.o⟩
theorem rP (p:Pd) (w:World) (h:dH w p):Calls Tryz.prog 57 #[fN p] w fun e w'=>e=.returned (.bool (!dI p))∧Ext w w':=by
 have X0:aiE (Ext w (w.alloc (.cells #[encStr p.cls,encStr p.ty.aq,.int .i64 p.ty.var,.slice p.ty.A p.ty.args.length p.ty.cap] 55))):=aa ((eR w).alloc _);have HL:=aa (kq p _ (h.ext X0.o));clear h;generalize dI p=B at *;unfold fN at *;go_enter Tryz.func57,Tryz.ntmps57;go_wp2_with fail;refine HL.o.mono ?_;rintro e w2 ⟨rfl,hx⟩;have X2:=aa (X0.o.trans hx);clear hx HL;cases B
 ·go_wp2;go_ret;exact⟨rfl,X2.o⟩
 ·go_wp2;go_ret;exact⟨rfl,X2.o⟩
set_option maxRecDepth 512
set_option maxHeartbeats 200000
def dx (k:dY):dm:=⟨k.name,k.S,k.sc,k.cQ,.slice k.A k.bf.length k.cap⟩
theorem yF (l:List dY):(l.map dx).flatMap yu.f=l.flatMap Gi.f:=by
 rw[List.flatMap_map];rfl
theorem yG {w:World}{A:Option Addr}{l:List dY}(h:ak Gi w A l):ak yu w A (l.map dx):=by
 unfold ak at h ⊢;rw[yF,List.length_map];exact h
theorem jR {w:World}{A:Option Addr}{l:List dY}(h:lG w A l):bV w A (l.map dx):=
 ⟨yG h.row,fun c hc=>by
  obtain⟨k,hk,rfl⟩:=List.mem_map.1 hc;exact(h.all k hk).Lt,fun c hc=>by
  obtain⟨k,hk,rfl⟩:=List.mem_map.1 hc;exact⟨(h.all k hk).sle,(h.all k hk).S4⟩⟩
noncomputable def lz (cs:List dY) (c:aj) (t:Ty.Pure) (q:Pd):Option (List Nat):=if @decide (q.ty.pure=t) (Classical.propDecidable _)=true then bU (cs.map dx) q.cls c else none
def cS {α:Type}(f:α→Option (List Nat)):Nat→List α→Option (Nat×List Nat)
 |_,[]=>none
 |i,q :: r=>match f q with|some p=>some (i,p)|none=>cS f (i+1) r
theorem pw {α:Type}{f:α→Option (List Nat)}{l:List α}{k:Nat}(hk:k<l.length){p:List Nat}(h:f (l[k]'hk)=some p):cS f k (l.drop k)=some (k,p):=by
 rw[List.drop_eq_getElem_cons hk];show(match f (l[k]'hk) with|some p=>some (k,p)|none=>cS f (k+1) (l.drop (k+1)))=_;rw[h]
theorem rQ {α:Type}{f:α→Option (List Nat)}{l:List α}{k:Nat}(hk:k<l.length) (h:f (l[k]'hk)=none):cS f k (l.drop k)=cS f (k+1) (l.drop (k+1)):=by
 rw[List.drop_eq_getElem_cons hk];show(match f (l[k]'hk) with|some p=>some (k,p)|none=>cS f (k+1) (l.drop (k+1)))=_;rw[h]
theorem px {α:Type}{f:α→Option (List Nat)}{l:List α}{k:Nat}(hk:l.length≤k):cS f k (l.drop k)=none:=by
 rw[List.drop_eq_nil_of_le hk];rfl
theorem oK {cs:List dY}{c:aj}{t:Ty}{q:Pd}:lz cs c t.pure q=if bN q.ty t=true then bU (cs.map dx) q.cls c else none:=rfl
def cy (i:Nat) (path:List Nat):Pf.Pure:=path.foldl (fun(x:Pf.Pure) (n:Nat)=>.mk 2 (n:Int) [] [x]) (.mk 1 (i:Int) [] [])
theorem kK (i:Nat) (l:List Nat) (n:Nat):cy i (l++[n])=.mk 2 n [] [cy i l]:=by unfold cy;rw[List.foldl_append];rfl
noncomputable def jS (cs:List dY) (given:List Pd) (c:aj) (t:Ty.Pure):Option (Nat×List Nat):=cS (lz cs c t) 0 given
def Ty.Pure.args : Ty.Pure→List Ty.Pure | .mk _ _ l=>l
theorem lp (t:Ty):t.pure.args=t.args.map Ty.pure:=by rw[Ty.aG];rfl
def wL (ins:List cL) (c:aj):Ty.Pure→Option (Nat×List (aj×Ty.Pure))
 | .mk aq _ args=>match fJ ins c aq with
  |none=>none
  |some i=>match ins[i]? with
   |none=>none
   |some x=>if aq=[]∨x.n≠(args.length:Int) then none else some (i,x.preds.map fun p=>(p.cls,args.getD p.ty.var.toNat (.mk [] 0 [])))
def bL (f:aj→Ty.Pure→Except Int (Pf.Pure×Nat)):List (aj×Ty.Pure)→List Pf.Pure→Nat→Except Int (List Pf.Pure×Nat)
 | [],l,n=>.ok (l,n)
 |(c,t) :: r,l,n=>match f c t with
  | .error e=>.error e
  | .ok (q,m)=>if n+m>4096 then .error 2 else bL f r (l++[q]) (n+m)
noncomputable def cz (cs:List dY) (ins:List cL) (given:List Pd):Nat→aj→Ty.Pure→Except Int (Pf.Pure×Nat)
 |0,_,_=>.error 16
 |m+1,c,t=>match jS cs given c t with
  |some (i,path)=>.ok (cy i path,path.length+1)
  |none=>match wL ins c t with
   |none=>.error 16
   |some (i,wants)=>match bL (cz cs ins given m) wants [] 1 with
    | .error e=>.error e
    | .ok (l,n)=>.ok (.mk 3 i t.args l,n)
def eo (cs:List dY) (ins:List cL):Bool:=AQ (cs.map dx)&&ins.all bE
noncomputable def mS (cs:List dY) (ins:List cL) (given:List Pd) (p:Pd):Except Int Pf.Pure:=
 if (dI p&&given.all dI&&eo cs ins)=false then .error 1
 else match cz cs ins given 5000 p.cls p.ty.pure with
  | .error e=>.error e
  | .ok (q,_)=>.ok q
theorem lq {f:aj→Ty.Pure→Except Int (Pf.Pure×Nat)}{c:aj}{t:Ty.Pure}{r:List (aj×Ty.Pure)}{l:List Pf.Pure}{n:Nat}{q:Pf.Pure}{m:Nat}(h:f c t=.ok (q,m)) :
  bL f ((c,t) :: r) l n=if n+m>4096 then .error 2 else bL f r (l++[q]) (n+m):=by
 simp only[bL,h]
theorem nS {f:aj→Ty.Pure→Except Int (Pf.Pure×Nat)}{c:aj}{t:Ty.Pure}{r:List (aj×Ty.Pure)}{l:List Pf.Pure}{n:Nat}{e:Int}(h:f c t=.error e) :
  bL f ((c,t) :: r) l n=.error e:=by
 simp only[bL,h]
theorem uY {f:aj→Ty.Pure→Except Int (Pf.Pure×Nat)}{w:List (aj×Ty.Pure)}{k:Nat}(hk:k<w.length){l:List Pf.Pure}{n:Nat}{q:Pf.Pure}{m:Nat}(h:f (w[k]'hk).1 (w[k]'hk).2=.ok (q,m)) :
  bL f (w.drop k) l n=if n+m>4096 then .error 2 else bL f (w.drop (k+1)) (l++[q]) (n+m):=by
 rw[List.drop_eq_getElem_cons hk];exact lq h
theorem lY {f:aj→Ty.Pure→Except Int (Pf.Pure×Nat)}{w:List (aj×Ty.Pure)}{k:Nat}(hk:k<w.length){l:List Pf.Pure}{n:Nat}{e:Int}(h:f (w[k]'hk).1 (w[k]'hk).2=.error e) :
  bL f (w.drop k) l n=.error e:=by
 rw[List.drop_eq_getElem_cons hk];exact nS h
theorem yH {f:aj→Ty.Pure→Except Int (Pf.Pure×Nat)}{w:List (aj×Ty.Pure)}{k:Nat}(hk:w.length≤k){l:List Pf.Pure}{n:Nat}:bL f (w.drop k) l n=.ok (l,n):=by
 rw[List.drop_eq_nil_of_le hk];rfl
theorem wM {l:List cL}{c t:aj}{i:Nat}(h:fJ l c t=some i):∃hi:i<l.length,(l[i]'hi).cls=c∧(l[i]'hi).aq=t:=by
 unfold fJ at h;rw[List.findIdx?_eq_some_iff_getElem] at h;obtain⟨hi,h,-⟩:=h;unfold ek at h;rw[aiT,beq_iff_eq,beq_iff_eq] at h;exact⟨hi,h⟩
structure St where
 cls:Nat
 A:Option Addr
 cap:Nat
 path:List Nat
def Lf : fH St:=⟨2,fun s=>[.int .i64 s.cls,.slice s.A s.path.length s.cap],fun _=>rfl,by omega⟩
def St.key (s:St):Nat×List Nat:=(s.cls,s.path)
def ints (p:List Nat):List Int:=p.map Int.ofNat
theorem nT (p:List Nat):(ints p).length=p.length:=by simp[ints]
structure pM (w:World) (nq:Option Nat) (sb:Nat) (s:St):Prop where
 row:Ints w s.A (ints s.path)
 le:s.path.length≤s.cap
 max:s.cap≤9223372036854775807
 nil:s.A=none→s.path=[]∧s.cap=0
 far:∀c o,s.A=some ⟨c,o,none⟩→nq≠some c∧c≠sb∧c<w.heap.size
theorem pM.keep {w w':World}{nq nq':Option Nat}{sb:Nat}{s:St}(h:pM w nq sb s){row:Option Nat}(g:w.grownBy w' row) (hr:row=nq∨row=some sb∨row=none) (hq:nq'=nq∨∃k,nq'=some k∧w.heap.size≤k):pM w' nq' sb s where
 row:=h.row.keep g.size fun b o e hb=>g.block b hb fun hbr=>by
  obtain⟨h1,h2,_⟩:=h.far b o e
  rcases hr with rfl|rfl|rfl
  ·exact h1 hbr.symm
  ·injection hbr with hbr;exact h2 hbr
  ·cases hbr
 le:=h.le
 max:=h.max
 nil:=h.nil
 far c o e:=by
  obtain⟨h1,h2,h3⟩:=h.far c o e;refine⟨?_,h2,Nat.lt_of_lt_of_le h3 g.size⟩
  rcases hq with rfl|⟨k,rfl,hk⟩
  ·exact h1
  ·intro Xj;injection Xj with Xj;omega
theorem EM {w:World}{base base':Nat}{e:TypeId}{size:Nat}{v:Value}{n:Nat}{xs:List Value}(h:w.ownsRow base e size v n xs) (hb:base'≤base):w.ownsRow base' e size v n xs:=by
 rcases h with ⟨h1,h2|⟨g,cap,cur,he,hg,h3⟩⟩
 ·exact⟨h1,.inl h2⟩
 ·exact⟨h1,.inr ⟨g,cap,cur,he,aiM hb hg,h3⟩⟩
theorem EN : (Tryz.prog.info? 4).map (fun i=>(i.zero,i.size,i.bytes))=some (some (.bool false),1,1):=by kernel_rfl
theorem EO : (Tryz.prog.info? 292).map (fun i=>(i.zero,i.size,i.bytes))=some (some (.agg #[.int .i64 0,.slice none 0 0]),2,32):=by kernel_rfl
theorem AX (n:Nat) (hn:n≤1000) (w:World):(Instr.makeSlice 290 (.int .i64 n) (.int .i64 n)).run Tryz.prog w=.ok (.slice (some ⟨w.heap.size,0,none⟩) n n) (w.alloc (.cells (aY n (fun _=>false)) 4)):=by
 obtain⟨i1,hj,nB,gI,gM⟩:=info_parts EN;have jt:=run_make (P:=Tryz.prog) w 290 4 i1 _ Tryz.underlying290 hj nB .i64 .i64 n n (by omega) (Int.le_refl _) (by rw[gM];omega) (by omega);have Xx:madeCells (Value.bool false).cells ((n:Int).toNat*i1.size)=aY n (fun _=>false):=by
  rw[gI,kI,Int.toNat_natCast];exact Cr _ _ rfl
 rw[Xx] at jt;simpa using jt
theorem EP (succ:Nat→List Nat) (x:Nat) (p:List Nat){k:Nat}(hk:k<(succ x).length):(outs succ x p).take (k+1)=(outs succ x p).take k++[((succ x)[k]'hk,p++[k])]:=by
 rw[aiJ (by simpa [outs] using hk)];simp[outs]
theorem JJ (succ:Nat→List Nat) (x:Nat) (p:List Nat):(outs succ x p).length=(succ x).length:=by simp[outs]
theorem yI {l:List dm}(hl:l.length≤9) (hs:∀c∈l,c.sup.length≤9):fE (bn l) (fun _=>false) l.length≤81:=by
 have:∀n,n≤l.length→fE (bn l) (fun _=>false) n≤9*n:=by
  intro n
  induction n with
  |zero=>intro _;simp[fE]
  |succ n ih=>
   intro hn;have h1:=ih (by omega);have h2:(bn l n).length≤9:=by unfold bn;rw[List.length_map,cH (by omega)];exact hs _ (aiF _)
   unfold fE at h1 ⊢;rw[List.range_succ,aiX,List.sum_append];simp at h1 ⊢;omega
 have:=this l.length (aiG _);omega
section
variable (A : Option Addr) (cap:Nat) (l:List dm) (x y:aj) (w:World)
set_option maxRecDepth 10000
set_option maxHeartbeats 8000000
theorem yJ (h:bV w A l) (hl:l.length≤9) (hs:∀c∈l,c.sup.length≤9) (ho:AQ l=true) (a b:Nat) (ha:a<l.length) (hb:b<l.length) (hx:(l[a]'ha).name=x) (hy:(l[b]'hb).name=y)
  (ea:fS l x=a) (eb:fS l y=b) :
  Calls Tryz.prog 191 #[.slice A l.length cap,encStr x,encStr y] w fun e w'=>(∃A' cap',e=.returned (.tuple #[.slice A' (bD (bU l x y)).length cap',.bool (bU l x y).isSome])∧(bD (bU l x y)).length≤cap'∧cap'≤9223372036854775807∧Ints w' A' (bD (bU l x y)))∧Ext w w':=by
 obtain⟨i0,hi,hz0,hz1,hz2⟩:=info_parts kH;obtain⟨i2,hj,hw0,PI,hw2⟩:=info_parts EO;have HC:=aa h;have HS:=aa hs;have hle:l.length≤9223372036854775807:=by omega
 have Ho:=aa (fun w' (e:Ext w w')=>aa (uX A cap l w' (h.ext e) hl hs));rw[ho] at Ho;have Ha:=aa (kB A cap l x w h hle);have Hb:=aa (kB A cap l y w h hle);rw[ea] at Ha;rw[eb] at Hb;have hB:=yI hl hs;have HB:aiE (gz (bn l) b (1+fE (bn l) (fun _=>false) l.length) (fun _=>false) [(a,[])]=bU l x y):=aa (EL ho ha hb x y hx hy (aiG _)).symm;have Hso:=aa (uT ho).1;have Hmk:=aa (AX l.length (by omega));have ha0:¬(a:Int)<0:=by omega
 have hb0:¬(b:Int)<0:=by omega
 clear h hs ea eb hx hy ho;generalize bU l x y=R at *;obtain⟨B,hBe⟩:∃B,B=1+fE (bn l) (fun _=>false) l.length:=⟨_,rfl⟩;rw[←hBe] at HB;have hBl:B≤90:=by omega
 have HBe:=aa hBe;clear hBe hB;have jt:=Hmk.o;go_enter Tryz.func191,Tryz.ntmps191;go_wp2_with fail;refine Ha.o.mono ?_;rintro e w1 ⟨rfl,rfl⟩;go_wp2_with fail;refine Hb.o.mono ?_;rintro e w1 ⟨rfl,rfl⟩;go_wp2_with fail;refine(Ho.o _ (by repeat(first|exact eR _|exact eA (by assumption) _|refine eA ?_ _|refine eM ?_ _ _|refine eD ?_|refine eN ?_ _))).o.mono ?_;rintro e w2 ⟨rfl,l2,d2,rfl⟩;have xz:aiE ((((more w1 l2 d2).alloc (.cells (aY l.length (fun _=>false)) 4)).alloc (.cells #[.int .i64 a,.slice none 0 0] 292)).ownsRow w1.heap.size 292 2 (.slice (some ⟨((more w1 l2 d2).alloc (.cells (aY l.length (fun _=>false)) 4)).heap.size,0,none⟩) 1 1) 1 [.int .i64 a,.slice none 0 0]):=aa (World.ownsRow_lit _ _ 1 (by simp;omega) (by unfold maxLen;omega) (by simp));have HM0:aiE ((((more w1 l2 d2).alloc (.cells (aY l.length (fun _=>false)) 4)).alloc (.cells #[.int .i64 a,.slice none 0 0] 292)).heap[w1.heap.size+l2.length]?=some (.cells (aY l.length (fun _=>false)) 4 (0,0))):=aa (by
  have:=ah (more w1 l2 d2) (.cells (aY l.length (fun _=>false)) 4) (w1.heap.size+l2.length) (by simp);exact((Ext.alloc (eR _) _).heap (ae this)).trans this)
 obtain⟨sb,KS⟩:∃sb,sb=w1.heap.size+l2.length:=⟨_,rfl⟩;have KT:(((more w1 l2 d2).alloc (.cells (aY l.length (fun _=>false)) 4)).heap.size)=sb+1:=by simp;omega
 rw[←KS] at HM0;rw[KT] at xz;have aay:w1.heap.size≤sb:=by omega
 have Hsb:=aa KS;clear KS KT;go_wp2;rw[←Hsb.o]
 go_loopw [11,12] (fun v u wr=>∃(i:Nat) (row:List St) (seen:Nat→Bool),i≤row.length∧row.length≤B∧u=.int .i64 i∧aiE (row.length+fE (bn l) seen l.length≤B)∧aiE (wr.ownsRow w1.heap.size 292 2 v row.length (row.flatMap Lf.f)) ∧
  aiE (wr.heap[sb]?=some (.cells (aY l.length seen) 4 (0,0)))∧aiE (∀s∈row,pM wr v.ownBlock sb s)∧aiE (∀s∈row,s.cls<l.length∧s.path.length≤i)∧aiE (v.ownBlock≠some sb)∧aiE (Ext w1 wr)∧aiE (gz (bn l) b (B - i) seen ((row.drop i).map St.key)=R)) (fun _ u _=>B - (intOf u).toNat)
 case atStart=>
  refine⟨0,[⟨a,none,0,[]⟩],fun _=>false,by simp,by simp;have:=HBe.o;omega,rfl,aa (by have:=HBe.o;simp;omega),xz,HM0,aa ?_,aa ?_,aa ?_,aa (by repeat(first|exact eR _|exact eA (by assumption) _|refine eA ?_ _|refine eM ?_ _ _|refine eD ?_|refine eN ?_ _)),aa (by simpa [St.key] using HB.o)⟩
  ·intro s hs;simp at hs;subst hs;exact⟨ak.nil _ _ _,aiG _,by simp,fun _=>⟨rfl,rfl⟩,by intro c o e;cases e⟩
  ·intro s hs;simp at hs;subst hs;exact⟨ha,by simp⟩
  ·intro e;simp[Value.ownBlock] at e
 case round=>
  obtain⟨i,row,seen,Gh,hrB,rfl,HM,HO,Vq,pD,ub,HV,HX,HG⟩:=hrel;obtain⟨wo,rfl⟩:∃wo:World,wo=wr:=⟨_,rfl⟩
  by_cases hlt:i<row.length
  ·obtain⟨A11,c11,rfl,z1,z2,z3,_⟩:=ak.own Lf HO.o;obtain⟨bq,oq,rfl,Cb,hcell⟩:=ak.at_ Lf z3 hlt;have q0:=hcell 0 (by decide);have q1:=hcell 1 (by decide);have lH:=aa (pD.o _ (aiF hlt));obtain⟨ER,hpl⟩:=ub.o _ (aiF hlt);have aN:(i:Int)<(row.length:Int):=by omega
   have aga:(0:Int)≤(i:Int):=by omega
   have Hdr:aiE ((row.drop i).map St.key=(row[i]'hlt).key :: (row.drop (i+1)).map St.key):=aa (by rw[List.drop_eq_getElem_cons hlt];rfl);have mZ:aiE ((row[i]'hlt)∈row):=aa (aiF hlt);clear hcell z3;generalize hxs:row[i]'hlt=xs at *;obtain⟨cl,pA,pc,p⟩:=xs;simp only[Lf,aiO,aiP,Nat.add_zero] at q0 q1;simp only at ER hpl;have HG':aiE ((if cl=b then some p else if seen cl then gz (bn l) b (B - (i+1)) seen ((row.drop (i+1)).map St.key) else gz (bn l) b (B - (i+1)) (fun j=>j == cl||seen j) ((row.drop (i+1)).map St.key++outs (bn l) cl p))=R):=aa (by
    have h1:=HG.o;rw[Hdr.o,show B - i=(B - (i+1))+1 by omega] at h1;exact h1)
   clear hxs;have Vm:(cl:Int)<(l.length:Int):=by omega
   have agc:(0:Int)≤(cl:Int):=by omega
   have Vr:sb<wo.heap.size:=ae Vq.o
   by_cases M8:cl=b
   ·have hR:R=some p:=by rw[←HG'.o,if_pos M8]
    have hcb:((cl:Int) == (b:Int))=true:=by simp[M8]
    have OJ:(bD (some p)).length=p.length:=by simp[bD]
    subst hR;go_wp2;go_ret2;refine⟨⟨pA,pc,by rw[OJ];rfl,by rw[OJ];exact lH.o.le,lH.o.max,?_⟩,HX.o.trans (by repeat(first|exact eR _|exact eA (by assumption) _|refine eA ?_ _|refine eM ?_ _ _|refine eD ?_|refine eN ?_ _))⟩;have:=lH.o.row;exact ak.ext qb this (by repeat(first|exact eR _|exact eA (by assumption) _|refine eA ?_ _|refine eM ?_ _ _|refine eD ?_|refine eN ?_ _))
   ·have hcb:((cl:Int) == (b:Int))=false:=by simp;omega
    have hsc:wo.cell? ⟨sb,cl,none⟩=some (.bool (seen cl)):=by
     have h1:=Vq.o;rw[←lU l.length seen ER];generalize aY l.length seen=cs at *;simp[World.cell?,h1]
    have hsf:wo.frozen? ⟨sb,cl,none⟩=false:=by
     have h1:=Vq.o;generalize aY l.length seen=cs at *;simp[World.frozen?,h1]
    cases Vs:seen cl
    ·rw[Vs] at hsc;have sS:aiE (gz (bn l) b (B - (i+1)) (fun j=>j == cl||seen j) ((row.drop (i+1)).map St.key++outs (bn l) cl p)=R):=aa (by have:=HG'.o;rwa [if_neg M8,Vs] at this);obtain⟨bc,oc,hAe,Zb,k0,k1,k2⟩:=(HC.o.ext HX.o).at_ ER;subst hAe;have aaA:=aa (HC.o.sup _ (aiF ER));have QS:aiE (∀s∈(l[cl]'ER).sup,∃j,∃hj:j<l.length,fS l s=(j:Int)∧(l[j]'hj).name=s):=aa (fun s hs=>Hso.o.to ER hs);have hSl:=HS.o _ (aiF ER);have Le:aiE (bn l cl=((l[cl]'ER).sup).map fun s=>(fS l s).toNat):=aa (by unfold bn;rw[cH ER]);clear k0 k2;generalize (l[cl]'ER).sup=S at *;generalize (l[cl]'ER).A=A5 at *;generalize (l[cl]'ER).cap=c5 at *;have O2:aiE (((wo.setCell ⟨sb,cl,none⟩ (.bool true)).alloc (.cells #[.int .i64 cl,.slice pA p.length pc] 292)).ownsRow w1.heap.size 292 2 (.slice (some ⟨bq,oq,none⟩) row.length c11) row.length (row.flatMap Lf.f)):=aa ((HO.o.kept (ll wo sb cl (.bool true)) (.inr HV.o)).alloc _);have S2:aiE (((wo.setCell ⟨sb,cl,none⟩ (.bool true)).alloc (.cells #[.int .i64 cl,.slice pA p.length pc] 292)).heap[sb]?=some (.cells (aY l.length (fun j=>j == cl||seen j)) 4 (0,0))):=aa (by
      have h1:=aw Vq.o cl (.bool true);rw[lV] at h1;exact((Ext.alloc (eR _) _).heap (ae h1)).trans h1)
     have K2:aiE (∀s∈row,pM ((wo.setCell ⟨sb,cl,none⟩ (.bool true)).alloc (.cells #[.int .i64 cl,.slice pA p.length pc] 292)) (Value.slice (some ⟨bq,oq,none⟩) row.length c11).ownBlock sb s):=aa (fun s hs=>((pD.o s hs).keep (ll wo sb cl (.bool true)) (.inr (.inl rfl)) (.inl rfl)).keep (jl (Ext.alloc (eR _) _) none) (.inr (.inr rfl)) (.inl rfl));have Kx:aiE (pM ((wo.setCell ⟨sb,cl,none⟩ (.bool true)).alloc (.cells #[.int .i64 cl,.slice pA p.length pc] 292)) (Value.slice (some ⟨bq,oq,none⟩) row.length c11).ownBlock sb ⟨cl,pA,pc,p⟩):=aa (K2.o _ mZ.o);have Vt:(wo.setCell ⟨sb,cl,none⟩ (.bool true)).heap.size=wo.heap.size:=by simp[World.setCell]
     have B2:aiE (((wo.setCell ⟨sb,cl,none⟩ (.bool true)).alloc (.cells #[.int .i64 cl,.slice pA p.length pc] 292)).heap[wo.heap.size]?=some (.cells #[.int .i64 cl,.slice pA p.length pc] 292 (0,0))):=aa (ah _ _ _ Vt.symm);have X2:aiE (Ext w1 ((wo.setCell ⟨sb,cl,none⟩ (.bool true)).alloc (.cells #[.int .i64 cl,.slice pA p.length pc] 292))):=aa ((Ext.setCell HX.o aay _).alloc _);have V2:aiE ((Value.slice (some ⟨bq,oq,none⟩) row.length c11).ownBlock≠some wo.heap.size):=aa (fun h=>by have:=(HO.o.lt _ h).2;omega);have XH:aiE (∀r2:Nat,r2=row.length+(bn l cl).length→r2+fE (bn l) (fun j=>j == cl||seen j) l.length≤B):=aa (fun r2 hr=>by have:=oH (bn l) Vs l.length ER;have:=HM.o;omega);have M9:(bn l cl).length=S.length:=by rw[Le.o];simp
     have Hot:aiE (∀k (hk:k<S.length) (j:Nat),fS l (S.getD k [])=(j:Int)→(outs (bn l) cl p).take (k+1)=(outs (bn l) cl p).take k++[(j,p++[k])]):=aa (by
      intro k hk j hj;have FB:k<(bn l cl).length:=by rw[M9];exact hk
      rw[EP (bn l) cl p FB];have:(bn l cl)[k]'FB=j:=by
       simp only[Le.o,List.getElem_map];simp[hk] at hj;rw[hj];simp
      rw[this])
     have Vu:aiE ((outs (bn l) cl p).take S.length=outs (bn l) cl p):=aa (aiK (by rw[JJ,M9];exact aiG _));have agf:sb<wo.heap.size:=Vr;have aaB:aiE (∀r2:Nat,r2=row.length+S.length→r2+fE (bn l) (fun j=>j == cl||seen j) l.length≤B):=aa (fun r2 hr=>XH.o r2 (by rw[M9];exact hr));clear XH M9 Le Vt;go_wp2
     go_loopw [11,71] (fun v u wr=>∃(k:Nat) (lA:List St),k≤S.length∧u=.int .i64 k∧lA.length=row.length+k∧aiE (wr.ownsRow w1.heap.size 292 2 v lA.length (lA.flatMap Lf.f)) ∧
      aiE (wr.heap[sb]?=some (.cells (aY l.length (fun j=>j == cl||seen j)) 4 (0,0)))∧aiE (∀s∈lA,pM wr v.ownBlock sb s)∧aiE (∀s∈lA,s.cls<l.length∧s.path.length≤i+1)∧aiE (v.ownBlock≠some sb)∧aiE (Ext w1 wr) ∧
      aiE ((lA.drop (i+1)).map St.key=(row.drop (i+1)).map St.key++(outs (bn l) cl p).take k)∧aiE (wr.heap[wo.heap.size]?=some (.cells #[.int .i64 cl,.slice pA p.length pc] 292 (0,0)))∧aiE (v.ownBlock≠some wo.heap.size)∧aiE (pM wr v.ownBlock sb ⟨cl,pA,pc,p⟩)) (fun _ u _=>S.length - (intOf u).toNat)
     case atStart=>exact⟨0,row,aiH _,rfl,rfl,O2,S2,K2,aa (fun s hs=>⟨(ub.o s hs).1,by have:=(ub.o s hs).2;omega⟩),HV,X2,aa (by simp),B2,V2,Kx⟩
     case round=>
      obtain⟨k,lA,hk,rfl,hr2,kA,QU,Vv,Vw,HV2,lW,vu,gS,HW2,lQ⟩:=hrel
      by_cases Na:k<S.length
      ·obtain⟨b5,o5,rfl,N0,r0⟩:=(aaA.o.ext lW.o).at_ Na;have ac7:(k:Int)<(S.length:Int):=by omega
       have OL:aiE (S.getD k []∈S):=aa (by simp[Na]);obtain⟨j,zU,ej,_⟩:=QS.o _ OL.o;have aaD:=aa (Hot.o k Na j ej);have HA:=aa (fun w' (e:Ext w1 w')=>aa (kB (some ⟨bc,oc,none⟩) cap l (S.getD k []) w' (HC.o.ext e) hle));rw[ej] at HA;have Dh:=aa (fun w' (e:Ext wr w')=>aa (M7 pA pc (ints p) w' (ak.ext qb lQ.o.row e) (by rw[nT];omega) (fun hn=>⟨by have h1:p=[]:=(lQ.o.nil hn).1;rw[h1];rfl,(lQ.o.nil hn).2⟩)));rw[nT] at Dh;have Vz:wo.heap.size<wr.heap.size:=ae gS.o;have aaE:sb<wr.heap.size:=ae QU.o;have hx1:wr.cell? ⟨wo.heap.size,1,none⟩=some (.slice pA p.length pc):=by have:=gS.o;simp[World.cell?,this]
       have ac8:p.length≤100:=by omega
       have agh:lA.length≤200:=by omega
       generalize S.getD k []=sk at *;clear ej OL;go_wp2
       go_region_held3 (fun w'=>w'.cell? ⟨wo.heap.size,1,none⟩=some (.slice pA p.length pc)) (first|assumption|go_keep) (first
        |(
         go_at_call 136
         refine Calls.mono (HA.o _ ?e).o ?_
         case e=>first|(refine Ext.trans (lW.o.trans X4.o) ?_;(repeat(first|exact eR _|exact eA (by assumption) _|refine eA ?_ _|refine eM ?_ _ _|refine eD ?_|refine eN ?_ _));done)|(refine Ext.trans (lW.o.trans X3.o) ?_;(repeat(first|exact eR _|exact eA (by assumption) _|refine eA ?_ _|refine eM ?_ _ _|refine eD ?_|refine eN ?_ _));done)|(refine Ext.trans lW.o ?_;(repeat(first|exact eR _|exact eA (by assumption) _|refine eA ?_ _|refine eM ?_ _ _|refine eD ?_|refine eN ?_ _));done)
         rintro e w8 ⟨rfl,rfl⟩)
        |(
         go_at_call 220
         refine Calls.mono (Dh.o _ ?e).o ?_
         case e=>exact(by repeat(first|exact eR _|exact eA (by assumption) _|refine eA ?_ _|refine eM ?_ _ _|refine eD ?_|refine eN ?_ _))
         rintro e w3 ⟨⟨v3,rfl,ho3⟩,hx3⟩;have X3:aiE (Ext wr w3):=aa (Ext.trans (by repeat(first|exact eR _|exact eA (by assumption) _|refine eA ?_ _|refine eM ?_ _ _|refine eD ?_|refine eN ?_ _)) hx3);have Hx3:=aa hx3;have O3:aiE (w3.ownsRow wr.heap.size 3 1 v3 p.length ((ints p).map (Value.int .i64))):=aa (EM ho3 (Ext.size (by repeat(first|exact eR _|exact eA (by assumption) _|refine eA ?_ _|refine eM ?_ _ _|refine eD ?_|refine eN ?_ _))));have hs3:w3.cell? ⟨wo.heap.size,1,none⟩=some (.slice pA p.length pc):=(World.cell?_of_block (a:=⟨wo.heap.size,1,none⟩) (X3.o.heap Vz)).trans hx1;clear ho3 hx3)
        |(
         refine aK _ rfl (.tmp 82) (.tmp 84) 38 rfl wr.heap.size 3 i0 _ 1 8 Tryz.underlying38 hi hz0 hz1 hz2 rfl (by decide) v3 p.length ((ints p).map (Value.int .i64)) rfl (aZ O3.o (by repeat(first|exact eR _|exact eA (by assumption) _|refine eA ?_ _|refine eM ?_ _ _|refine eD ?_|refine eN ?_ _))) (some ⟨_,0,none⟩) 1 1 [.int .i64 k] rfl (by first|(refine Row.M5 _ (ah _ _ _ ?_);simp;done)|(refine Row.M5 _ ((Hx3.o.heap ?_).trans (ah _ _ _ ?_))<;>simp;done)) (by intro u hu;simp at hu;subst hu;rfl) (by unfold maxLen;omega) (by omega) (Ext.size (X3.o.trans (by repeat(first|exact eR _|exact eA (by assumption) _|refine eA ?_ _|refine eM ?_ _ _|refine eD ?_|refine eN ?_ _)))) ?_;intro v4 w4 br hg4 eW;obtain⟨A4,c4,rfl,t1,t2,t3,t4⟩:=Ints.own (l:=ints (p++[k])) (by have:=br;simpa [ints] using this);have X4:aiE (Ext wr w4):=aa (Ext.app (X3.o.trans (by repeat(first|exact eR _|exact eA (by assumption) _|refine eA ?_ _|refine eM ?_ _ _|refine eD ?_|refine eN ?_ _))) hg4 (aZ O3.o (by repeat(first|exact eR _|exact eA (by assumption) _|refine eA ?_ _|refine eM ?_ _ _|refine eD ?_|refine eN ?_ _))) (aiG _));have N4:aiE (pM w4 u11.ownBlock sb ⟨j,A4,c4,p++[k]⟩):=aa ⟨t3,by rw[←nT];exact t1,t2,fun hn=>by have GS:A4=none:=hn;rw[GS] at t3;exact(absurd (t3.2 (by simp[ints])) (by rintro⟨_,_,h,_⟩;cases h)),fun c o e=>⟨fun h=>by have:=(kA.o.lt _ h).2;have:=(t4 c o e).1;omega,by have:=(t4 c o e).1;omega,(t4 c o e).2⟩⟩;have Oe:w4.cell? ⟨wo.heap.size,1,none⟩=some (.slice pA p.length pc):=(World.cell?_of_block (a:=⟨wo.heap.size,1,none⟩) (X4.o.heap Vz)).trans hx1;clear br hg4 eW t1 t2 t3 t4)
        |(
         refine aK _ rfl (.tmp 76) (.tmp 87) 293 rfl w1.heap.size 292 i2 _ 2 32 Tryz.underlying293 hj hw0 PI hw2 rfl (by decide) u11 lA.length (lA.flatMap Lf.f) rfl (aZ kA.o (X4.o.trans (by repeat(first|exact eR _|exact eA (by assumption) _|refine eA ?_ _|refine eM ?_ _ _|refine eD ?_|refine eN ?_ _)))) (some ⟨_,0,none⟩) 1 1 [.int .i64 j,.slice A4 (ints (p++[k])).length c4] rfl (Row.Vk _ _ (ah _ _ _ (by simp))) (by intro u hu;simp at hu;rcases hu with rfl|rfl<;>rfl) (by unfold maxLen;omega) (by omega) (Ext.size (lW.o.trans (X4.o.trans (by repeat(first|exact eR _|exact eA (by assumption) _|refine eA ?_ _|refine eM ?_ _ _|refine eD ?_|refine eN ?_ _))))) ?_;intro v5 w5 oX zf ET;have X5:aiE (Ext w1 w5):=aa (Ext.app (lW.o.trans (X4.o.trans (by repeat(first|exact eR _|exact eA (by assumption) _|refine eA ?_ _|refine eM ?_ _ _|refine eD ?_|refine eN ?_ _)))) zf (aZ kA.o (X4.o.trans (by repeat(first|exact eR _|exact eA (by assumption) _|refine eA ?_ _|refine eM ?_ _ _|refine eD ?_|refine eN ?_ _)))) (aiG _));have K5:aiE (∀s∈lA,pM w5 v5.ownBlock sb s):=aa (fun s hs=>((Vv.o s hs).keep (jl (X4.o.trans (by repeat(first|exact eR _|exact eA (by assumption) _|refine eA ?_ _|refine eM ?_ _ _|refine eD ?_|refine eN ?_ _))) none) (.inr (.inr rfl)) (.inl rfl)).keep zf (.inl rfl) (ET.imp id (fun h=>⟨_,h,aiG _⟩)));have N5:aiE (pM w5 v5.ownBlock sb ⟨j,A4,c4,p++[k]⟩):=aa ((N4.o.keep (jl (by repeat(first|exact eR _|exact eA (by assumption) _|refine eA ?_ _|refine eM ?_ _ _|refine eD ?_|refine eN ?_ _)) none) (.inr (.inr rfl)) (.inl rfl)).keep zf (.inl rfl) (ET.imp id (fun h=>⟨_,h,aiG _⟩)));have Kx5:aiE (pM w5 v5.ownBlock sb ⟨cl,pA,pc,p⟩):=aa ((lQ.o.keep (jl (X4.o.trans (by repeat(first|exact eR _|exact eA (by assumption) _|refine eA ?_ _|refine eM ?_ _ _|refine eD ?_|refine eN ?_ _))) none) (.inr (.inr rfl)) (.inl rfl)).keep zf (.inl rfl) (ET.imp id (fun h=>⟨_,h,aiG _⟩)));have XI:=((X4.o.heap aaE).trans QU.o);have xr:=((X4.o.heap Vz).trans gS.o);have S5:aiE (w5.heap[sb]?=some (.cells (aY l.length (fun j=>j == cl||seen j)) 4 (0,0))):=aa ((zf.block sb (Nat.lt_of_lt_of_le (ae XI) (Ext.size (by repeat(first|exact eR _|exact eA (by assumption) _|refine eA ?_ _|refine eM ?_ _ _|refine eD ?_|refine eN ?_ _)))) (fun h=>HV2.o h.symm)).trans ((Ext.heap (by repeat(first|exact eR _|exact eA (by assumption) _|refine eA ?_ _|refine eM ?_ _ _|refine eD ?_|refine eN ?_ _)) (ae XI)).trans XI));have B5:aiE (w5.heap[wo.heap.size]?=some (.cells #[.int .i64 cl,.slice pA p.length pc] 292 (0,0))):=aa ((zf.block wo.heap.size (Nat.lt_of_lt_of_le (ae xr) (Ext.size (by repeat(first|exact eR _|exact eA (by assumption) _|refine eA ?_ _|refine eM ?_ _ _|refine eD ?_|refine eN ?_ _)))) (fun h=>HW2.o h.symm)).trans ((Ext.heap (by repeat(first|exact eR _|exact eA (by assumption) _|refine eA ?_ _|refine eM ?_ _ _|refine eD ?_|refine eN ?_ _)) (ae xr)).trans xr));have agk:wr.heap.size≤w4.heap.size:=X4.o.size;have V5:aiE (v5.ownBlock≠some sb):=aa (fun h=>by
          rcases ET with h5|h5
          ·rw[h5] at h;exact HV2.o h
          ·rw[h5] at h;injection h with h;simp at h;omega)
         have W5:aiE (v5.ownBlock≠some wo.heap.size):=aa (fun h=>by
          rcases ET with h5|h5
          ·rw[h5] at h;exact HW2.o h
          ·rw[h5] at h;injection h with h;simp at h;omega)
         have hs5:w5.cell? ⟨wo.heap.size,1,none⟩=some (.slice pA p.length pc):=by have:=B5.o;simp[World.cell?,this]
         have O5:aiE (w5.ownsRow w1.heap.size 292 2 v5 (lA++[(⟨j,A4,c4,p++[k]⟩:St)]).length ((lA++[(⟨j,A4,c4,p++[k]⟩:St)]).flatMap Lf.f)):=aa (by
          have:=oX;rw[nT] at this;simpa [Lf] using this)
         clear oX zf ET XI xr))
       all_goals
        go_wp2;go_roundw
        case rel=>
         refine⟨k+1,lA++[(⟨j,A4,c4,p++[k]⟩:St)],Na,by go_num,by rw[aiL,hr2];simp;omega,O5,S5,aa ?_,aa ?_,V5,X5,aa ?_,B5,W5,Kx5⟩
         ·intro s hs
          rcases List.mem_append.1 hs with hs|hs
          ·exact K5.o s hs
          ·simp only[aiV] at hs;rw[hs];exact N5.o
         ·intro s hs
          rcases List.mem_append.1 hs with hs|hs
          ·exact Vw.o s hs
          ·simp only[aiV] at hs;rw[hs];exact⟨zU,by simp;omega⟩
         ·rw[List.drop_append_of_le_length (by omega),aiX,vu.o,aaD.o,List.append_assoc];rfl
        case measure=>simp[intOf];omega
      ·have agl:(S.length:Int)≤(k:Int):=by omega
       have hkS:k=S.length:=by omega
       rw[hkS,Vu.o] at vu;have OG:=aaB.o lA.length (by omega);clear hkS;go_wp2;go_roundw
       case rel=>
        refine⟨i+1,lA,fun j=>j == cl||seen j,by omega,by omega,by go_num,aa OG,kA,QU,Vv,Vw,HV2,lW,aa (by rw[vu.o];exact sS.o)⟩
       case measure=>simp[intOf];omega
    ·rw[Vs] at hsc;have sS:aiE (gz (bn l) b (B - (i+1)) seen ((row.drop (i+1)).map St.key)=R):=aa (by have:=HG'.o;rwa [if_neg M8,Vs,if_pos rfl] at this);go_wp2;go_roundw
     case rel=>
      refine⟨i+1,row,seen,hlt,hrB,by go_num,HM,aa (HO.o.alloc _),aa ((Ext.alloc (eR _) _).heap Vr |>.trans Vq.o),aa (fun s hs=>(pD.o s hs).keep (jl (Ext.alloc (eR _) _) none) (.inr (.inr rfl)) (.inl rfl)),aa (fun s hs=>⟨(ub.o s hs).1,by have:=(ub.o s hs).2;omega⟩),HV,aa (HX.o.alloc _),sS⟩
     case measure=>simp[intOf];omega
  ·have bS:(row.length:Int)≤(i:Int):=by omega
   have hR:=HG.o;rw[List.drop_eq_nil_of_le (by omega)] at hR;have hR2:R=none:=by rw[←hR];cases(B - i)<;>rfl
   subst hR2;obtain⟨A11,c11,rfl,z1,z2,z3,_⟩:=ak.own Lf HO.o;clear z3 hR;go_wp2;go_ret2;exact⟨⟨none,0,rfl,aiG _,by omega,ak.nil _ _ _⟩,HX.o⟩
set_option maxRecDepth 512
set_option maxHeartbeats 200000
end
section
variable (A : Option Addr) (cap:Nat) (l:List dm) (x y:aj) (w:World)
set_option maxRecDepth 10000
set_option maxHeartbeats 8000000
theorem JK (h:bV w A l) (hl:l.length≤9) (hs:∀c∈l,c.sup.length≤9) :
  Calls Tryz.prog 191 #[.slice A l.length cap,encStr x,encStr y] w fun e w'=>(∃A' cap',e=.returned (.tuple #[.slice A' (bD (bU l x y)).length cap',.bool (bU l x y).isSome])∧(bD (bU l x y)).length≤cap'∧cap'≤9223372036854775807∧Ints w' A' (bD (bU l x y)))∧Ext w w':=by
 have Ha:=aa (kB A cap l x w h (by omega));have Hb:=aa (kB A cap l y w h (by omega));have Ho:=aa (fun w' (e:Ext w w')=>aa (uX A cap l w' (h.ext e) hl hs))
 rcases fT l x with ⟨e1,_,_⟩|⟨a,ha,e1,_,ex⟩
 ·have hR:bU l x y=none:=by unfold bU;rw[e1];simp
  rw[e1] at Ha;rw[hR];clear h hs e1 hR;generalize fS l y=b at *;go_enter Tryz.func191,Tryz.ntmps191;go_wp2_with fail;refine Ha.o.mono ?_;rintro e w1 ⟨rfl,rfl⟩;go_wp2_with fail;refine Hb.o.mono ?_;rintro e w1 ⟨rfl,rfl⟩;go_wp2;go_ret2;exact⟨⟨none,0,rfl,aiG _,by omega,ak.nil _ _ _⟩,(by repeat(first|exact eR _|exact eA (by assumption) _|refine eA ?_ _|refine eM ?_ _ _|refine eD ?_|refine eN ?_ _))⟩
 ·rcases fT l y with ⟨e2,_,_⟩|⟨b,hb,e2,_,ey⟩
  ·have hR:bU l x y=none:=by unfold bU;rw[e2];simp
   rw[e1] at Ha;rw[e2] at Hb;rw[hR];have ha0:¬(a:Int)<0:=by omega
   clear h hs e1 hR e2;go_enter Tryz.func191,Tryz.ntmps191;go_wp2_with fail;refine Ha.o.mono ?_;rintro e w1 ⟨rfl,rfl⟩;go_wp2_with fail;refine Hb.o.mono ?_;rintro e w1 ⟨rfl,rfl⟩;go_wp2;go_ret2;exact⟨⟨none,0,rfl,aiG _,by omega,ak.nil _ _ _⟩,(by repeat(first|exact eR _|exact eA (by assumption) _|refine eA ?_ _|refine eM ?_ _ _|refine eD ?_|refine eN ?_ _))⟩
  ·cases ho:AQ l
   ·have hR:bU l x y=none:=by unfold bU;rw[ho];simp
    rw[e1] at Ha;rw[e2] at Hb;rw[ho] at Ho;rw[hR];have ha0:¬(a:Int)<0:=by omega
    have hb0:¬(b:Int)<0:=by omega
    clear h hs e1 hR e2 ho;go_enter Tryz.func191,Tryz.ntmps191;go_wp2_with fail;refine Ha.o.mono ?_;rintro e w1 ⟨rfl,rfl⟩;go_wp2_with fail;refine Hb.o.mono ?_;rintro e w1 ⟨rfl,rfl⟩;go_wp2_with fail;refine(Ho.o _ (by repeat(first|exact eR _|exact eA (by assumption) _|refine eA ?_ _|refine eM ?_ _ _|refine eD ?_|refine eN ?_ _))).o.mono ?_;rintro e w2 ⟨rfl,l2,d2,rfl⟩;go_wp2;go_ret2;exact⟨⟨none,0,rfl,aiG _,by omega,ak.nil _ _ _⟩,(by repeat(first|exact eR _|exact eA (by assumption) _|refine eA ?_ _|refine eM ?_ _ _|refine eD ?_|refine eN ?_ _))⟩
   ·exact yJ A cap l x y w h hl hs ho a b ha hb ex ey e1 e2
set_option maxRecDepth 512
set_option maxHeartbeats 200000
end
section
variable (A B:Option Addr) (cap cap':Nat) (l:List dm) (ns:List aj) (w:World)
end
end Go.Proofs.YtigafbmabjglfaaGreatDoor
