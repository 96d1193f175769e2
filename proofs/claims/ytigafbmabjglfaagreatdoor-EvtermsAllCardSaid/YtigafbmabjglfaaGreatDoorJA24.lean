import Derived.Test.YtigafbmabjglfaaGreatDoorJA23
namespace Go.Proofs.YtigafbmabjglfaaGreatDoor
open Go.RowKit
structure Uz where
 named:Bool
 counted:Bool
 I0:Bool
 types:Int
 kids:Int
def dS (k:Int):Option Uz:=
 if k=1∨k=21 then some ⟨true,false,false,0,0⟩
 else if k=2∨k=14∨k=23 then some ⟨false,true,false,0,0⟩
 else if k=22 then some ⟨false,false,false,0,0⟩
 else if k=3∨k=11 then some ⟨true,false,false,1,1⟩
 else if k=4∨k=9 then some ⟨false,false,false,0,2⟩
 else if k=5 then some ⟨false,false,false,0,1⟩
 else if k=6 then some ⟨false,false,false,-1,1⟩
 else if k=7 then some ⟨true,false,false,-1,0⟩
 else if k=8∨k=10 then some ⟨false,false,false,0,-1⟩
 else if k=12 then some ⟨true,false,false,1,-1⟩
 else if k=13 then some ⟨true,true,true,0,1⟩
 else if k=24 then some ⟨true,false,false,0,-1⟩
 else none
def mz (k n:Int) (named:Bool) (vs ja kids:Nat):Bool:=
 match dS k with
 |none=>false
 |some s=>(named == s.named)&&((n == 0)||s.counted) && !(decide (n<0)&&s.I0)&&(decide (vs=0)||k == 5||k == 11)&&(decide (s.types<0)||decide ((ja:Int)=s.types))&&(decide (s.kids<0)||decide ((kids:Int)=s.kids))
noncomputable def bC (t:Tm):Bool:=mz t.kind t.n (!(t.name == [])) t.vars.length t.types.length t.kids.length&&t.types.all aV
structure TB where
 term:Bool
 pat:Bool
 alt:Bool
 bind:Bool
def TB.at_ (l:List TB) (i:Nat):TB:=l.getD i ⟨false,false,false,false⟩
def TB.mB (k:Int) (f:Bool) (l:List TB):Bool:=
 (!decide (21≤k) && !(k == 9) && !(k == 11)&&f) &&
  (if k=8 then decide (2≤l.length)&&(TB.at_ l 0).term&&(l.drop 1).all (·.alt) else if k=10 then decide (1≤l.length)&&(TB.at_ l (l.length - 1)).term&&(l.take (l.length - 1)).all (·.bind) else l.all (·.term))
def TB.of (k:Int) (f:Bool) (l:List TB):TB:=
 ⟨TB.mB k f l,decide (21≤k)&&f&&l.all (·.pat),(k == 9)&&f&&(TB.at_ l 0).pat&&(TB.at_ l 1).term,(k == 11)&&f&&(TB.at_ l 0).term⟩
noncomputable def Tm.tb : Tm→TB:=Tm.fold fun t l=>TB.of t.kind (bC t) l
theorem jf (t:Tm):t.tb=TB.of t.kind (bC t) (t.kids.map Tm.tb):=by unfold Tm.tb;rw[Tm.fold_eq]
noncomputable def cx (t:Tm):Bool:=decide (t.size≤4096)&&decide (t.depth≤400)&&t.tb.term
theorem jg {α β γ:Type}{l:List α}{m:List β}(f:α→γ) (g:β→γ) (hl:l.length=m.length) (h:∀i (h1:i<l.length) (h2:i<m.length),f (l[i]'h1)=g (m[i]'h2)):l.map f=m.map g:=by
 refine List.ext_getElem (by simp[hl]) (fun i h1 h2 => ?_);rw[List.getElem_map,List.getElem_map];exact h i _ _
theorem uI {t:Tm}{d:Uz}(hk:dS t.kind=some d) (h:bC t=true) (hd:0≤d.kids):(t.kids.length:Int)=d.kids:=by
 unfold bC mz at h;rw[hk] at h;simp only[aiT,Bool.or_eq_true,decide_eq_true_eq] at h;have:=h.1.2;omega
theorem UA (v:Int) (w:World):Calls Tryz.prog 216 #[.int .i64 v] w fun e w'=>e=.returned (bl (.mk [] v none 0 []))∧Ext w w':=by
 go_enter Tryz.func216,Tryz.ntmps216;go_wp2;refine bodyPost_ret (v:=bl (.mk [] v none 0 [])) ?_ rfl ⟨rfl,(by repeat(first|exact eR _|exact eA (by assumption) _|refine eA ?_ _|refine eM ?_ _ _|refine eD ?_|refine eN ?_ _))⟩;simp[results,Tryz.f216,bl,Ty.aq,Ty.var,Ty.A,Ty.args,Ty.cap,go_sem]
open Go.Sort
def yb (k:Nat):List Value:=(List.replicate k Ty.zero).flatMap dr.f
theorem uJ (k:Nat):yb (k+1)=yb k++[.string ⟨#[]⟩,.int .i64 0,.slice none 0 0]:=by
 unfold yb;rw[List.replicate_succ',List.flatMap_append];rfl
def pd (t:Ty) (A:Option Addr) (c:Nat):Ty:=.mk t.aq t.var A c (List.replicate t.args.length Ty.zero)
theorem ye (t:Ty) (A:Option Addr) (c:Nat) (h:t.args.length<4096):ax (pd t A c)=bO t.aq t.var t.args.length:=by
 have e:(pd t A c).size=(jc t 0).size:=by
  rw[Ty.size_eq,Ty.size_eq];show((List.replicate t.args.length Ty.zero).map Ty.size).sum+1=((List.replicate (min t.args.length 4095) Ty.zero).map Ty.size).sum+1;rw[show min t.args.length 4095=t.args.length by omega]
 have e2:(pd t A c).depth=(jc t 0).depth:=by
  rw[Ty.aT,Ty.aT];show((List.replicate t.args.length Ty.zero).map Ty.depth).foldr max 0+1=((List.replicate (min t.args.length 4095) Ty.zero).map Ty.depth).foldr max 0+1;rw[show min t.args.length 4095=t.args.length by omega]
 have e3:bK (pd t A c)=bK (jc t 0):=by
  rw[cW,cW];show(bO t.aq t.var (List.replicate t.args.length Ty.zero).length&&(List.replicate t.args.length Ty.zero).all bK)=(bO t.aq t.var (List.replicate (min t.args.length 4095) Ty.zero).length&&(List.replicate (min t.args.length 4095) Ty.zero).all bK);rw[show min t.args.length 4095=t.args.length by omega]
 have:=qO t 0;unfold ax at this ⊢;rw[e,e2,e3];exact this
theorem Az (t:Ty) (A:Option Addr) (c:Nat):(pd t A c).size=t.args.length+1:=by
 rw[Ty.size_eq];show((List.replicate t.args.length Ty.zero).map Ty.size).sum+1=_;rw[List.map_replicate,List.sum_replicate_nat,oA];omega
noncomputable def ix : Ty→Bool:=Ty.qg fun t=>cX t||decide (4096≤t.args.length)||bO t.aq t.var t.args.length
theorem uK (t:Ty):ix t=((cX t||decide (4096≤t.args.length)||bO t.aq t.var t.args.length)&&t.args.all ix):=gR _ t
theorem I1 (t:Ty) (h:t.size≤4096):ix t=cM t:=by
 induction t using Ty.ind with
 |h t ih=>
 rw[uK,jd];have h1:=Ty.fy t;have h2:decide (4096≤t.args.length)=false:=by simp;omega
 rw[h2,Bool.or_false]
 congr 1
 rw[Bool.eq_iff_iff,aiY,aiY];exact⟨fun k x hx=>by rw[←ih x hx (by have:=Ty.bo hx;omega)];exact k x hx,fun k x hx=>by rw[ih x hx (by have:=Ty.bo hx;omega)];exact k x hx⟩
set_option maxRecDepth 10000
set_option maxHeartbeats 8000000
theorem Ei (t:Ty):∀(w:World),aH w t→t.size≤90000 →
  Calls Tryz.prog 183 #[bl t] w fun e w'=>e=.returned (.bool (ix t))∧Ext w w':=by
 induction t using Ty.ind with
 |h t ih=>
 intro w h hsz;have IH:=aa ih;have Hk:=aa h.all;have hle:=h.le;have hmx:=h.max;have fI:=aa (aU.new w t);have X0:aiE (Ext w (w.alloc (.cells #[encStr t.aq,.int .i64 t.var,.slice t.A t.args.length t.cap] 53))):=aa ((eR w).alloc _);obtain⟨i0,hi,hz0,hz1,hz2⟩:=info_parts vK;have HP:=aa (uK t);have wY:=h.txt;have ZB:=Ty.fy t;have ki:=aa (fun k (hk:k∈t.args)=>Ty.bo hk);have ub:=aa (fun w' (e:Ext w w')=>aa (Ds t w' (h.ext e)));unfold fB at ub;generalize ix t=R at *;generalize lL t=au at *;generalize lM t=cu at *;clear ih h;unfold bl at *;go_enter Tryz.func183,Tryz.ntmps183;go_wp2;generalize (w.alloc (.cells #[encStr t.aq,.int .i64 t.var,.slice t.A t.args.length t.cap] 53))=w0 at *
 go_loopw [3] (fun i wr=>∃k:Nat,k≤t.args.length∧i=.int .i64 k∧aiE (∀x∈t.args.take k,ix x=true)∧aiE (Ext w0 wr)) (fun i _=>t.args.length - (intOf i).toNat)
 case atStart=>exact⟨0,aiH _,rfl,aa (by simp),aa (eR _)⟩
 case round=>
  obtain⟨k,hk,rfl,HA,HX⟩:=hrel;have HB:=aa (fI.o.ext HX.o);have hc2:=HB.o.c2
  by_cases hlt:k<t.args.length
  ·have aN:(k:Int)<(t.args.length:Int):=by omega
   have cV:(0:Int)≤(k:Int):=by omega
   obtain⟨b,o,hA,hb,q0,q1,q2⟩:=(Hk.o.ext (X0.o.trans HX.o)).at_ hlt;have cB:=aiF hlt;have dh:aiE (t.args.take (k+1)=t.args.take k++[t.args[k]'hlt]):=aa (aiJ hlt);have mZ:=aa (aiF hlt);have hcs:=ki.o _ cB;have HC:=aa (IH.o _ cB wr ((Hk.o.args _ cB).ext (X0.o.trans HX.o)) (by omega));rw[hA] at hc2;clear hA cB;clear hcs;generalize t.args[k]'hlt=c at *;cases hs:ix c
   ·rw[hs] at HC;have hR:R=false:=by
     rw[HP.o,Bool.and_eq_false_iff]
     right
     rw[←Bool.not_eq_true,aiY];intro h;rw[h _ mZ.o] at hs;cases hs
    clear HP;subst hR;go_wp2_with fail;refine HC.o.mono ?_;rintro e w3 ⟨rfl,hx3⟩;have X3:=aa (HX.o.trans hx3);clear hx3;go_wp2;go_ret;exact⟨rfl,X0.o.trans X3.o⟩
   ·rw[hs] at HC;go_wp2_with fail;refine HC.o.mono ?_;rintro e w3 ⟨rfl,hx3⟩;have X3:=aa (HX.o.trans hx3);clear hx3;go_wp2;go_roundw
    case rel=>
     refine⟨k+1,hlt,by go_num,aa (fun x hx => ?_),X3⟩;rw[dh.o,List.mem_append,aiV] at hx
     rcases hx with hx|rfl
     ·exact HA.o x hx
     ·exact hs
    case measure=>simp[intOf];omega
  ·have bS:¬(k:Int)<(t.args.length:Int):=by omega
   have HR:aiE (R=(cX t||decide (4096≤t.args.length)||bO t.aq t.var t.args.length)):=aa (by
    rw[HP.o];have:t.args.all ix=true:=List.all_eq_true.2 (fun x hx=>HA.o x (by rw[aiK (by omega)];exact hx));rw[this,Bool.and_true])
   clear HP HA;have hc0:=HB.o.c0;have hc1:=HB.o.c1;cases Uq:cX t
   rotate_left 1
   ·rw[Uq] at ub HR;have hR:R=true:=by rw[HR.o];rfl
    clear HR;subst hR;go_wp2_with fail;refine(ub.o _ (X0.o.trans HX.o)).o.mono ?_;rintro e w3 ⟨rfl,hx3⟩;have X3:=aa (HX.o.trans hx3);clear hx3;go_wp2;go_ret;exact⟨rfl,(X0.o.trans X3.o).alloc _⟩
   ·rw[Uq] at ub HR;go_wp2_with fail;refine(ub.o _ (X0.o.trans HX.o)).o.mono ?_;rintro e w3 ⟨rfl,hx3⟩;have X3:=aa (HX.o.trans hx3);have sr:=aa (HB.o.ext hx3);have d0:=sr.o.c0;have d1:=sr.o.c1;have sX:w.heap.size<w3.heap.size:=sr.o.lt;clear hx3 hc0 hc1 hc2;obtain⟨wb,UC⟩:∃wb,wb=(w3.alloc (.cells #[.string ⟨au.aq.toArray⟩,.int .i64 au.var,.slice au.A au.args.length au.cap] 53)).alloc (.cells #[.string ⟨t.aq.toArray⟩,.int .i64 t.var,.slice none 0 0] 53):=⟨_,rfl⟩;have KS:wb.heap.size=w3.heap.size+1+1:=by rw[UC];simp
    have XB:aiE (Ext w3 wb):=aa (by rw[UC];exact((eR _).alloc _).alloc _);have XC:aiE (Ext w wb):=aa (X0.o.trans (X3.o.trans XB.o));have BB:aiE (aU wb w.heap.size t):=aa (sr.o.ext XB.o);obtain⟨pu,ZL⟩:∃pu,pu=w3.heap.size+1:=⟨_,rfl⟩;have UB:aiE (wb.heap[pu]?=some (.cells #[encStr t.aq,.int .i64 t.var,.slice none 0 0] 53 (0,0))):=aa (by rw[UC];exact ah _ _ _ (by simp[ZL]));have hpl:pu<wb.heap.size:=by omega
    have hpw:w.heap.size<pu:=by omega
    have O0:aiE (wb.ownsRow wb.heap.size 53 3 (.slice none 0 0) 0 (yb 0)):=aa (World.ownsRow_nil _ _ _ _);have T0:aiE (Tr pu wb (.slice none 0 0) wb (.slice none 0 0)):=aa (Tr.refl _ _ _);go_upto_region 11 with fail;rw[←UC];rw[←ZL];clear UC KS d0 d1 sX ZL XB
    go_loopw [8] (fun i wr=>∃(k:Nat) (v:Value),k≤t.args.length∧i=.int .i64 k∧aiE (wr.heap[pu]?=some (.cells #[encStr t.aq,.int .i64 t.var,v] 53 (0,0)))∧aiE (wr.ownsRow wb.heap.size 53 3 v k (yb k))∧aiE (Tr pu wb (.slice none 0 0) wr v)) (fun i _=>t.args.length - (intOf i).toNat)
    case atStart=>exact⟨0,.slice none 0 0,aiH _,rfl,UB,O0,T0⟩
    case round=>
     rename World=>wr2
     obtain⟨j,v,hj,rfl,HU,HO,HT⟩:=hrel;have BR:=aa (BB.o.tr HT.o (by omega) (fun e=>by cases e));have b2:=BR.o.c2;have KU:=ae HU.o;have RU:v.ownBlock≠some pu:=fun e=>by have:=(HO.o.lt pu e).1;omega
     by_cases gK:j<t.args.length
     ·have SN:(j:Int)<(t.args.length:Int):=by omega
      have zi:=ag HU.o 2;simp only[aiN,aiO,aiP] at zi;have TC:(wr2.drew).cell? ⟨pu,2,none⟩=some v:=zi;go_wp2;refine mq 6 7 #[false,false,false,false,false,false,false] (fun w'=>w'.cell? ⟨pu,2,none⟩=some v) (by kernel_rfl) (by kernel_rfl) (by kernel_rfl) ?_
      (refine bP (i:=0) (v := ?_) rfl (by kernel_rfl) (by kernel_rfl) (by kernel_rfl) (by kernel_rfl) (fun _ _ _ h=>h) (Or.inl ⟨by kernel_rfl,?_⟩) (by assumption) ?_;rotate_left 1;(focus (intro w hSw;(try dsimp only at hSw);(try obtain⟨g1,g2,g3⟩:=hSw);(try obtain⟨g1,g2⟩:=hSw);go_simp;try with_reducible rfl));simp only[Act.put,aiQ,aiR,aiS])
      (refine bP (i:=1) (v := ?_) rfl (by kernel_rfl) (by kernel_rfl) (by kernel_rfl) (by kernel_rfl) (fun _ _ _ h=>h) (Or.inl ⟨by kernel_rfl,?_⟩) (by assumption) ?_;rotate_left 1;(focus (intro w hSw;(try dsimp only at hSw);(try obtain⟨g1,g2,g3⟩:=hSw);(try obtain⟨g1,g2⟩:=hSw);go_simp;try with_reducible rfl));simp only[Act.put,aiQ,aiR,aiS])
      refine cg (i:=2) (by kernel_rfl) rfl (fun KK hK => ?_)
      go_simp
      refine Calls.mono (UA 0 _) ?_;rintro e w8 ⟨rfl,rk⟩;have X8:aiE (Ext wr2 w8):=aa (((eR wr2).drew).trans rk);have ZM:w8.cell? ⟨pu,2,none⟩=some v:=X8.o.cell zi;clear rk;refine hK.out _ _ (fun _=>ZM) ?_;clear hK KK;simp only[aiQ,aiR,aiS];refine cg (i:=3) (by kernel_rfl) rfl (fun KK hK => ?_)
      go_simp
      refine hK.out _ _ (fun _=>((eR w8).alloc _).cell ZM) ?_;clear hK KK;simp only[aiQ,aiR,aiS];refine cg (i:=4) (by kernel_rfl) rfl (fun KK hK => ?_);refine aK _ rfl (.tmp 43) (.tmp 45) 31 rfl wb.heap.size 53 i0 _ 3 48 Tryz.underlying31 hi hz0 hz1 hz2 rfl (by decide) v j (yb j) rfl (aZ HO.o (X8.o.alloc _)) (some ⟨w8.heap.size,0,none⟩) 1 1 [.string ⟨#[]⟩,.int .i64 0,.slice none 0 0] rfl (ak.block dr [Ty.zero] (ah _ _ _ rfl)) ?_ (by unfold maxLen;omega) (by omega) (by have:=HT.o.size;have:=X8.o.size;simp;omega) ?_
      ·intro y hy;simp at hy
       rcases hy with rfl|rfl|rfl<;>rfl
      intro v9 w9 uL ze MB;have I3:w9.ownsRow wb.heap.size 53 3 v9 (List.replicate (j+1) Ty.zero).length ((List.replicate (j+1) Ty.zero).flatMap dr.f):=by
       rw[List.length_replicate];have:=uJ j;unfold yb at this;rw[this];exact uL
      obtain⟨A9,Cf,UD,-⟩:=ak.own dr I3;rw[List.length_replicate] at UD;subst UD;clear I3;have X9:Ext wr2 (w8.alloc (.cells #[.string ⟨#[]⟩,.int .i64 0,.slice none 0 0] 53)):=X8.o.alloc _;have Xi:w9.heap[pu]?=some (.cells #[encStr t.aq,.int .i64 t.var,v] 53 (0,0)):=(ze.block pu (Nat.lt_of_lt_of_le KU X9.size) (fun e=>RU e.symm)).trans ((X9.heap KU).trans HU.o);have ZN:w9.cell? ⟨pu,2,none⟩=some v:=ag Xi 2;have hf9:w9.frozen? ⟨pu,2,none⟩=false:=ai Xi 2;have HP9:aiE ((w9.setCell ⟨pu,2,none⟩ (.slice A9 (j+1) Cf)).heap[pu]?=some (.cells #[encStr t.aq,.int .i64 t.var,.slice A9 (j+1) Cf] 53 (0,0))):=aa (by have:=aw Xi 2 (.slice A9 (j+1) Cf);simpa using this);have T9:aiE (Tr pu wb (.slice none 0 0) (w9.setCell ⟨pu,2,none⟩ (.slice A9 (j+1) Cf)) (.slice A9 (j+1) Cf)):=aa (HT.o.trans ⟨ze.os.trans X9.below.os,ze.tape.trans X9.below.tape,ze.output.trans X9.below.output,by rw[show(w9.setCell ⟨pu,2,none⟩ (.slice A9 (j+1) Cf)).heap.size=w9.heap.size by simp[World.setCell]];exact aiM X9.size ze.size,
       fun k hk Xj hkv=>(Below.heap_setCell w9 ⟨pu,2,none⟩ (.slice A9 (j+1) Cf) k Xj).trans ((ze.block k (Nat.lt_of_lt_of_le hk X9.size) (fun e=>hkv e.symm)).trans (X9.heap hk)),
       by
        rcases MB with h1|h1
        ·exact .inl h1
        ·exact .inr (fun k hk=>by rw[h1] at hk;injection hk with hk;rw[←hk];exact X9.size)⟩)
      have O9:aiE ((w9.setCell ⟨pu,2,none⟩ (.slice A9 (j+1) Cf)).ownsRow wb.heap.size 53 3 (.slice A9 (j+1) Cf) (j+1) (yb (j+1))):=aa (by
       have h5:=ownsRow_setCell_below (a:=⟨pu,2,none⟩) uL hpl (.slice A9 (j+1) Cf);rw[uJ];exact h5)
      clear uL ze MB X9 Xi;refine hK.out _ _ (fun _=>ZN) ?_;clear hK KK;simp only[aiQ,aiR,aiS];refine cg (i:=5) (by kernel_rfl) rfl (fun KK hK => ?_)
      go_simp
      refine hK.out _ _ (fun _=>ZN) ?_;clear hK KK;simp only[aiQ,aiR,aiS];refine cg (i:=6) (by kernel_rfl) rfl (fun KK hK => ?_)
      go_simp
      refine hK.out _ _ (fun h=>absurd rfl h) ?_;clear hK KK;simp only[aiQ,aiR,aiS];refine qQ (by kernel_rfl) ?_ _;clear TC ZM ZN hf9 zi;go_wp2;go_roundw
      case rel=>exact⟨j+1,.slice A9 (j+1) Cf,gK,by go_num,HP9,O9,T9⟩
      case measure=>simp[intOf];omega
     ·have Yj:¬(j:Int)<(t.args.length:Int):=by omega
      have hjt:j=t.args.length:=by omega
      subst hjt;have XW:aiE (Ext w wr2):=aa (Ext.cw (XC.o.below.trans (HT.o.below XC.o.size (by omega) (fun k e=>by cases e))) (aiG _));have kA:wr2.ownsRow wb.heap.size 53 3 v (List.replicate t.args.length Ty.zero).length ((List.replicate t.args.length Ty.zero).flatMap dr.f):=by
       rw[List.length_replicate];exact HO.o
      obtain⟨A9,Cf,UD,UE,UF,Ow,-⟩:=ak.own dr kA;clear kA;rw[List.length_replicate] at UD;subst UD;have UG:aH wr2 (pd t A9 Cf):=aH.of UE UF wY Ow (fun k hk=>by rw[(List.mem_replicate.1 hk).2];exact aH.zero _);have HG:=aa (fM (pd t A9 Cf) wr2 UG);rw[Az] at HG;have Ox:=ag HU.o 0;have Ea:=ag HU.o 1;have zi:=ag HU.o 2;simp only[aiN,aiO,aiP] at Ox Ea zi;clear UG Ow UE UF HO HT BR RU KU ub ki;cases h4:decide (4096≤t.args.length)
      ·have hlen:decide ((t.args.length:Int)≥4096)=false:=decide_eq_false (by have:=of_decide_eq_false h4;omega);have hR:R=bO t.aq t.var t.args.length:=by rw[HR.o,h4];rfl
       have sS:=aa (HG.o (by omega));rw[ye _ _ _ (by have:=of_decide_eq_false h4;omega),←hR] at sS;simp only[bl,pd,Ty.aq,Ty.var,Ty.A,Ty.cap,Ty.args,List.length_replicate] at sS;clear HG HR h4 hR;go_wp2_with fail;refine sS.o.mono ?_;rintro e w4 ⟨rfl,eJ⟩;have X4:=aa (XW.o.trans eJ);clear eJ;go_wp2;go_ret;exact⟨rfl,X4.o⟩
      ·have hlen:decide ((t.args.length:Int)≥4096)=true:=decide_eq_true (by have:=of_decide_eq_true h4;omega);have hR:R=true:=by rw[HR.o,h4];rfl
       subst hR;clear HG HR h4;go_wp2;go_ret;exact⟨rfl,XW.o⟩
set_option maxRecDepth 512
set_option maxHeartbeats 200000
theorem Ej (t:Ty):aV t=(decide (t.size≤4096)&&decide (t.depth≤100)&&ix t):=by
 unfold aV
 by_cases h:t.size≤4096
 ·rw[I1 t h]
 ·rw[show decide (t.size≤4096)=false by simpa using h];rfl
set_option maxRecDepth 10000
set_option maxHeartbeats 8000000
theorem Ek (t:Ty) (w:World) (h:aH w t) (hsz:t.size≤90000):Calls Tryz.prog 132 #[bl t] w fun e w'=>e=.returned (.bool (aV t))∧Ext w w':=by
 have HB:=aa (aU.new w t);have X0:aiE (Ext w (w.alloc (.cells #[encStr t.aq,.int .i64 t.var,.slice t.A t.args.length t.cap] 53))):=aa ((eR w).alloc _);have H1:=aa (fun w' (e:Ext w w')=>aa (qu t w' (h.ext e) (by omega)));have H2:=aa (fun w' (e:Ext w w')=>aa (oh t w' (h.ext e) (by omega)));have H3:=aa (fun w' (e:Ext w w')=>aa (Ei t w' (h.ext e) hsz));have HL:aiE (aV t=(decide (t.size≤4096)&&decide (t.depth≤100)&&ix t)):=aa (Ej t);clear h;generalize aV t=R at *;generalize ix t=Q at *;unfold bl at *;have Gh:decide ((t.size:Int)≤4096)=decide (t.size≤4096):=by rw[Bool.eq_iff_iff];simp;omega
 have Fy:decide ((t.depth:Int)≤100)=decide (t.depth≤100):=by rw[Bool.eq_iff_iff];simp;omega
 generalize t.size=sz at *;generalize t.depth=dp at *;cases h1:decide (sz≤4096)
 ·rw[h1] at HL Gh;have hR:R=false:=by rw[HL.o];rfl
  clear HL h1 Fy hsz;subst hR;go_enter Tryz.func132,Tryz.ntmps132;go_wp2_with fail;refine(H1.o _ X0.o).o.mono ?_;rintro e w2 ⟨rfl,hx2⟩;go_wp2;go_ret;exact⟨rfl,X0.o.trans hx2⟩
 ·rw[h1] at HL Gh;cases h2:decide (dp≤100)
  ·rw[h2] at HL Fy;have hR:R=false:=by rw[HL.o];rfl
   clear HL h1 h2 hsz;subst hR;go_enter Tryz.func132,Tryz.ntmps132;go_wp2_with fail;refine(H1.o _ X0.o).o.mono ?_;rintro e w2 ⟨rfl,hx2⟩;have X2:=aa (X0.o.trans hx2);have B2:=aa (HB.o.ext hx2);have c0:=B2.o.c0;have c1:=B2.o.c1;have c2:=B2.o.c2;clear hx2;go_wp2_with fail;refine(H2.o _ X2.o).o.mono ?_;rintro e w3 ⟨rfl,hx3⟩;go_wp2;go_ret;exact⟨rfl,X2.o.trans hx3⟩
  ·rw[h2] at HL Fy;have hR:R=Q:=by rw[HL.o];rfl
   clear HL h1 h2 hsz;subst hR;go_enter Tryz.func132,Tryz.ntmps132;go_wp2_with fail;refine(H1.o _ X0.o).o.mono ?_;rintro e w2 ⟨rfl,hx2⟩;have X2:=aa (X0.o.trans hx2);have B2:=aa (HB.o.ext hx2);have c0:=B2.o.c0;have c1:=B2.o.c1;have c2:=B2.o.c2;clear hx2;go_wp2_with fail;refine(H2.o _ X2.o).o.mono ?_;rintro e w3 ⟨rfl,hx3⟩;have X3:=aa (X2.o.trans hx3);have B3:=aa (B2.o.ext hx3);have d0:=B3.o.c0;have d1:=B3.o.c1;have d2:=B3.o.c2;clear hx3 c0 c1 c2;go_wp2_with fail;refine(H3.o _ X3.o).o.mono ?_;rintro e w4 ⟨rfl,eJ⟩;go_wp2;go_ret;exact⟨rfl,X3.o.trans eJ⟩
set_option maxRecDepth 512
set_option maxHeartbeats 200000
open Go.Shelf
set_option maxRecDepth 10000
set_option maxHeartbeats 8000000
theorem I4 (f:FuncId) (lb:Array Value) (ef:fz f) (p:Tm→Bool) (A:Option Addr) (cap:Nat) (l:List Tm) (w:World) (h:bm w A l) (hl:l.length≤1000000) (hp:∀w',Ext w w'→∀x∈l,Calls Tryz.prog f (#[bz x]++lb) w' fun e w''=>e=.returned (.bool (p x))∧Ext w' w'') :
  Calls Tryz.prog 157 #[.slice A l.length cap,.func (.func f) #[] lb] w fun e w'=>(∃i:Int,e=.returned (.int .i64 i)∧(0≤i↔l.any p=true))∧Ext w w':=by
 have HL:=aa h;have HP:=aa hp;unfold fz at ef;clear h hp;obtain⟨R,hR⟩:∃R,R=l.any p:=⟨_,rfl⟩;have HR:=aa hR;rw[←hR];clear hR;go_enter Tryz.func157,Tryz.ntmps157;go_wp2
 go_loopw [8] (fun i wr=>∃k:Nat,k≤l.length∧i=.int .i64 k∧aiE ((l.take k).any p=false)∧aiE (Ext w wr)) (fun i _=>l.length - (intOf i).toNat)
 case atStart=>exact⟨0,aiH _,rfl,aa (by simp),aa (eR _)⟩
 case round=>
  obtain⟨k,hk,rfl,HA,HX⟩:=hrel
  by_cases hlt:k<l.length
  ·have aN:(k:Int)<(l.length:Int):=by omega
   have cV:(0:Int)≤(k:Int):=by omega
   obtain⟨b,o,rfl,hb,q0,q1,q2,q3,q4,q5⟩:=(HL.o.ext HX.o).at_ hlt;have hm:=aiF hlt;have HC:=aa (HP.o wr HX.o _ hm);have dh:aiE (l.take (k+1)=l.take k++[l[k]'hlt]):=aa (aiJ hlt);have Hm:=aa hm;clear hm;unfold bz at HC;generalize l[k]'hlt=x at *;cases hb:p x
   ·rw[hb] at HC;have Hb:=aa hb;clear hb;go_wp2_with fail;refine HC.o.mono ?_;rintro e w3 ⟨rfl,hx⟩;have X3:=aa (HX.o.trans hx);clear hx;go_wp2;go_roundw
    case rel=>exact⟨k+1,hlt,by go_num,aa (by rw[dh.o,List.any_append,HA.o];simpa using Hb.o),X3⟩
    case measure=>simp[intOf];omega
   ·rw[hb] at HC;have HN:aiE (R=true):=aa (by rw[HR.o,List.any_eq_true];exact⟨x,Hm.o,hb⟩);clear hb;go_wp2_with fail;refine HC.o.mono ?_;rintro e w3 ⟨rfl,hx⟩;go_wp2;go_ret;exact⟨⟨(k:Int),rfl,by rw[HN.o];simp⟩,HX.o.trans hx⟩
  ·have bS:¬(k:Int)<(l.length:Int):=by omega
   have HN:aiE (R=false):=aa (by rw[HR.o];have:=HA.o;rwa [aiK (by omega)] at this);go_wp2;go_ret;exact⟨⟨-1,rfl,by rw[HN.o];simp⟩,HX.o⟩
theorem wq (f:FuncId) (lb:Array Value) (ef:fz f) (p:Tm→Bool) (A:Option Addr) (cap:Nat) (l:List Tm) (w:World) (h:bm w A l) (hl:l.length≤1000000) (hp:∀w',Ext w w'→∀x∈l,Calls Tryz.prog f (#[bz x]++lb) w' fun e w''=>e=.returned (.bool (p x))∧Ext w' w'') :
  Calls Tryz.prog 108 #[.slice A l.length cap,.func (.func f) #[] lb] w fun e w'=>e=.returned (.bool (l.any p))∧Ext w w':=by
 have HI:=aa (I4 f lb ef p A cap l w h hl hp);clear h hp;generalize l.any p=R at *;go_enter Tryz.func108,Tryz.ntmps108;go_wp2_with fail;refine HI.o.mono ?_;rintro e w2 ⟨⟨i,rfl,hi⟩,hx⟩;have HR:aiE (decide ((0:Int)≤i)=R):=aa (by cases R<;>simp_all);have X:=aa hx;clear hi hx;go_wp2;go_ret;exact⟨by first|rfl|(rw[←HR.o];rfl),X.o⟩
set_option maxRecDepth 512
set_option maxHeartbeats 200000
def ZO (d:Uz):Value:=.agg #[.bool d.named,.bool d.counted,.bool d.I0,.int .i64 d.types,.int .i64 d.kids]
def mC (o:Option Uz):Value:=match o with
 |some d=>.tuple #[ZO d,.bool true]
 |none=>.tuple #[.agg #[.bool false,.bool false,.bool false,.int .i64 0,.int .i64 0],.bool false]
set_option maxRecDepth 10000
set_option maxHeartbeats 8000000
theorem I5 (k:Int) (w:World):Calls Tryz.prog 154 #[.int .i64 k] w fun e w'=>e=.returned (mC (dS k))∧Ext w w':=by
 by_cases h:(1≤k∧k≤14)∨(21≤k∧k≤24)
 ·have:k=1∨k=2∨k=3∨k=4∨k=5∨k=6∨k=7∨k=8∨k=9∨k=10∨k=11∨k=12∨k=13∨k=14∨k=21∨k=22∨k=23∨k=24:=by omega
  clear h
  rcases this with rfl|rfl|rfl|rfl|rfl|rfl|rfl|rfl|rfl|rfl|rfl|rfl|rfl|rfl|rfl|rfl|rfl|rfl
  all_goals
   go_enter Tryz.func154,Tryz.ntmps154;go_wp2;refine bodyPost_ret (v:=mC (dS _)) ?_ rfl ⟨rfl,(by repeat(first|exact eR _|exact eA (by assumption) _|refine eA ?_ _|refine eM ?_ _ _|refine eD ?_|refine eN ?_ _))⟩;simp[results,Tryz.f154,mC,dS,ZO,go_sem]
 ·have hn:dS k=none:=by
   unfold dS;simp only[show ¬(k=1∨k=21) by omega,show ¬(k=2∨k=14∨k=23) by omega,show ¬k=22 by omega,show ¬(k=3∨k=11) by omega,show ¬(k=4∨k=9) by omega,show ¬k=5 by omega,show ¬k=6 by omega,show ¬k=7 by omega,show ¬(k=8∨k=10) by omega,show ¬k=12 by omega,show ¬k=13 by omega,show ¬k=24 by omega,if_false]
  rw[hn];clear hn;have e1:(k == 1)=false:=by simp;omega
  have e2:(k == 2)=false:=by simp;omega
  have e3:(k == 3)=false:=by simp;omega
  have e4:(k == 4)=false:=by simp;omega
  have e5:(k == 5)=false:=by simp;omega
  have e6:(k == 6)=false:=by simp;omega
  have e7:(k == 7)=false:=by simp;omega
  have e8:(k == 8)=false:=by simp;omega
  have e9:(k == 9)=false:=by simp;omega
  have e10:(k == 10)=false:=by simp;omega
  have e11:(k == 11)=false:=by simp;omega
  have e12:(k == 12)=false:=by simp;omega
  have e13:(k == 13)=false:=by simp;omega
  have e14:(k == 14)=false:=by simp;omega
  have e21:(k == 21)=false:=by simp;omega
  have e22:(k == 22)=false:=by simp;omega
  have e23:(k == 23)=false:=by simp;omega
  have e24:(k == 24)=false:=by simp;omega
  clear h;go_enter Tryz.func154,Tryz.ntmps154;go_wp2;refine bodyPost_ret (v:=mC none) ?_ rfl ⟨rfl,(by repeat(first|exact eR _|exact eA (by assumption) _|refine eA ?_ _|refine eM ?_ _ _|refine eD ?_|refine eN ?_ _))⟩;simp[results,Tryz.f154,mC,go_sem]
set_option maxRecDepth 512
set_option maxHeartbeats 200000
theorem wu : fz 156:=enters_of Tryz.func156 (by kernel_rfl) rfl
theorem MC (t:Ty) (w:World) (h:aH w t) (hsz:t.size≤90000):Calls Tryz.prog 156 #[bl t] w fun e w'=>e=.returned (.bool (!aV t))∧Ext w w':=by
 have X0:aiE (Ext w (w.alloc (.cells #[encStr t.aq,.int .i64 t.var,.slice t.A t.args.length t.cap] 53))):=aa ((eR w).alloc _);have HL:=aa (fun w' (e:Ext w w')=>aa (Cc t w' (h.ext e) hsz));clear h;generalize aV t=R at *;unfold bl at *;go_enter Tryz.func156,Tryz.ntmps156;go_wp2_with fail;refine(HL.o _ X0.o).o.mono ?_;rintro e w2 ⟨rfl,hx⟩;go_wp2;go_ret;exact⟨rfl,X0.o.trans hx⟩
set_option maxRecDepth 10000
set_option maxHeartbeats 8000000
theorem jH (t:Tm) (w:World) (h:aQ w t) (hsz:∀x∈t.types,x.size≤90000) (pQ:t.types.length≤1000000):Calls Tryz.prog 107 #[bz t] w fun e w'=>e=.returned (.bool (bC t))∧Ext w w':=by
 obtain⟨W,hW⟩:∃W,W=w.alloc (.cells #[.int .i64 t.kind,.int .i64 t.n,encStr t.name,.slice t.V t.vars.length t.vc,.slice t.T t.types.length t.tc,.slice t.A t.kids.length t.cap] 40):=⟨_,rfl⟩;have HW:=aa hW.symm;have X0:aiE (Ext w W):=aa (by rw[hW];exact(eR _).alloc _);have B1:aiE (av W w.heap.size t):=aa (by rw[hW];exact av.new w t);have sK:W.heap.size=w.heap.size+1:=by rw[hW];simp
 have HS:=aa (fun w'=>aa (I5 t.kind w'));have HT:=aa (fun w' (e:Ext w w')=>aa (Gs 156 #[] wu (fun x => !aV x) t.T t.tc t.types w' (h.hd.types.ext e) pQ (fun w'' e2 x hx=>MC x w'' ((h.hd.types.args x hx).ext (e.trans e2)) (hsz x hx))));have Qa:aiE ((t.types.any fun x => !aV x) = !(t.types.all aV)):=aa (by rw[←List.not_all_eq_any_not]);have nX:=h.hd.le;have cB:=h.hd.max;have nY:=h.hd.Wx;have hvm:=h.hd.LG;have HF:aiE (bC t=(mz t.kind t.n (!(t.name == [])) t.vars.length t.types.length t.kids.length&&t.types.all aV)):=aa rfl;clear h hsz hW;generalize bC t=R at *;rw[Qa.o] at HT;generalize t.types.all aV=RL at *;obtain⟨c0,c1,c2,c3,c4,c5⟩:=B1.o.cells;unfold bz at *;unfold mz at HF;go_enter Tryz.func107,Tryz.ntmps107;go_upto_region 1 with fail;rw[HW.o];go_wp2_with fail;refine(HS.o _).o.mono ?_;rintro e w2 ⟨rfl,hx⟩;have X2:=aa hx;clear hx;cases hd:dS t.kind with
 |none=>
  rw[hd] at HF;have HR:=HF.o;simp only at HR;subst HR;unfold mC;go_wp2;go_ret;exact⟨rfl,X0.o.trans (X2.o.trans (by repeat(first|exact eR _|exact eA (by assumption) _|refine eA ?_ _|refine eM ?_ _ _|refine eD ?_|refine eN ?_ _)))⟩
 |some d=>
  obtain⟨nm,ct,f0,ty,kd⟩:=d;rw[hd] at HF;simp only at HF;unfold mC ZO;go_upto_region 2 with fail;obtain⟨W3,hW3⟩:∃W3,W3=w2.alloc (.cells #[.bool nm,.bool ct,.bool f0,.int .i64 ty,.int .i64 kd] 230):=⟨_,rfl⟩;have hb3:W3.heap[w2.heap.size]?=some (.cells #[.bool nm,.bool ct,.bool f0,.int .i64 ty,.int .i64 kd] 230 (0,0)):=by rw[hW3];exact ah _ _ _ rfl
  have X3:aiE (Ext W W3):=aa (by rw[hW3];exact X2.o.alloc _);rw[←hW3];clear hW3 c0 c1 c2 c3 c4 c5;obtain⟨c0,c1,c2,c3,c4,c5⟩:=(B1.o.ext X3.o).cells;have e0:=ag hb3 0;have e1:=ag hb3 1;have e2:=ag hb3 2;have e3:=ag hb3 3;have e4:=ag hb3 4;simp only[aiN,aiO,aiP] at e0 e1 e2 e3 e4;clear hb3;obtain⟨D,hD⟩:∃D,D=((!(t.name == [])) == nm&&(t.n == 0||ct) && !(decide (t.n<0)&&f0)):=⟨_,rfl⟩;have HD:=aa hD;clear hD
  go_cut [39] (fun s39 wx=>s39=.bool (!D)∧W3=wx)
  case first=>
   cases hn:(t.name == ([]:aj))<;>cases nm
   case true.true=>
    have hD:D=false:=by rw[HD.o,hn];rfl
    subst hD;go_wp2_with fail;go_meet;exact⟨rfl,rfl⟩
   case false.false=>
    have hD:D=false:=by rw[HD.o,hn];rfl
    subst hD;go_wp2_with fail;go_meet;exact⟨rfl,rfl⟩
   all_goals
    cases h0:(t.n != 0)
    rotate_left
    ·have KF:(t.n == 0)=false:=by simpa using h0
     cases ct
     ·have hD:D=false:=by rw[HD.o,hn,KF];rfl
      subst hD;clear KF;go_wp2_with fail;go_meet;exact⟨rfl,rfl⟩
     ·by_cases mD:t.n<0
      ·have hD:D = !f0:=by rw[HD.o,hn,KF];simp[mD]
       subst hD;clear KF;go_wp2_with fail;go_meet;exact⟨by simp,rfl⟩
      ·have hD:D=true:=by rw[HD.o,hn,KF];simp[mD]
       subst hD;clear KF;go_wp2_with fail;go_meet;exact⟨rfl,rfl⟩
    ·have KF:(t.n == 0)=true:=by simpa using h0
     have mD:¬t.n<0:=by simp at h0;omega
     have hD:D=true:=by rw[HD.o,hn,KF];simp[mD]
     subst hD;clear KF;go_wp2_with fail;go_meet;exact⟨rfl,rfl⟩
  case rest=>
   obtain⟨rfl,rfl⟩:=hcut;rw[show((!(t.name == [])) == nm&&(t.n == 0||ct) && !(decide (t.n<0)&&f0))=D from HD.o.symm] at HF;clear HD;cases D
   ·have HR:=HF.o;simp only[Bool.false_and] at HR;subst HR;go_wp2;go_ret;exact⟨rfl,X0.o.trans X3.o⟩
   go_upto_region 4 with fail;obtain⟨D2,hD2⟩:∃D2,D2=(decide (t.vars.length=0)||t.kind == 5||t.kind == 11):=⟨_,rfl⟩;have vu:=aa hD2;clear hD2
   go_cut [53] (fun s53 wx=>s53=.bool (!D2)∧W3=wx)
   case first=>
    by_cases hv:t.vars.length=0
    ·have hv2:¬(t.vars.length:Int)>0:=by omega
     have hD:D2=true:=by rw[vu.o,hv];rfl
     subst hD;clear hv;go_wp2_with fail;go_meet;exact⟨rfl,rfl⟩
    ·have hv2:(t.vars.length:Int)>0:=by omega
     have Mm:aiE (D2=(t.kind == 5||t.kind == 11)):=aa (by rw[vu.o];simp[hv]);clear hv;cases h5:(t.kind != 5)
     ·have hD:D2=true:=by rw[Mm.o];simp at h5;simp[h5]
      subst hD;go_wp2_with fail;go_meet;exact⟨rfl,rfl⟩
     ·cases h11:(t.kind != 11)
      ·have hD:D2=true:=by rw[Mm.o];simp at h11;simp[h11]
       subst hD;go_wp2_with fail;go_meet;exact⟨rfl,rfl⟩
      ·have hD:D2=false:=by rw[Mm.o];simp at h5 h11;simp[h5,h11]
       subst hD;go_wp2_with fail;go_meet;exact⟨rfl,rfl⟩
   case rest=>
    obtain⟨rfl,rfl⟩:=hcut;rw[←vu.o] at HF;clear vu;cases D2
    ·have HR:=HF.o;simp only[Bool.and_false,Bool.false_and] at HR;subst HR;go_wp2;go_ret;exact⟨rfl,X0.o.trans X3.o⟩
    go_upto_region 6 with fail;obtain⟨D3,Oy⟩:∃D3,D3=((decide (ty<0)||decide ((t.types.length:Int)=ty))&&(decide (kd<0)||decide ((t.kids.length:Int)=kd))):=⟨_,rfl⟩;have MD:=aa Oy;clear Oy
    go_cut [77] (fun s77 wx=>s77=.bool (!D3)∧W3=wx)
    case first=>
     by_cases ht:ty≥0
     ·cases h1:((t.types.length:Int) != ty)
      ·by_cases hk:kd≥0
       ·cases h2:((t.kids.length:Int) != kd)
        ·have hD:D3=true:=by rw[MD.o];simp at h1 h2;simp[h1,h2]
         subst hD;go_wp2_with fail;go_meet;exact⟨rfl,rfl⟩
        ·have hD:D3=false:=by rw[MD.o];simp at h2;simp[h2];omega
         subst hD;go_wp2_with fail;go_meet;exact⟨rfl,rfl⟩
       ·have hD:D3=true:=by rw[MD.o];simp at h1;simp[h1];omega
        subst hD;go_wp2_with fail;go_meet;exact⟨rfl,rfl⟩
      ·have hD:D3=false:=by rw[MD.o];simp at h1;simp[h1];omega
       subst hD;go_wp2_with fail;go_meet;exact⟨rfl,rfl⟩
     ·by_cases hk:kd≥0
      ·cases h2:((t.kids.length:Int) != kd)
       ·have hD:D3=true:=by rw[MD.o];simp at h2;simp[h2];omega
        subst hD;go_wp2_with fail;go_meet;exact⟨rfl,rfl⟩
       ·have hD:D3=false:=by rw[MD.o];simp at h2;simp[h2];omega
        subst hD;go_wp2_with fail;go_meet;exact⟨rfl,rfl⟩
      ·have hD:D3=true:=by rw[MD.o];simp;omega
       subst hD;go_wp2_with fail;go_meet;exact⟨rfl,rfl⟩
    case rest=>
     obtain⟨rfl,rfl⟩:=hcut;have HR:aiE (R=(D3&&RL)):=aa (by rw[HF.o,MD.o];simp only[Bool.true_and,Bool.and_assoc]);clear HF MD;cases D3
     ·have HR:=HR.o;simp only[Bool.false_and] at HR;subst HR;go_wp2;go_ret;exact⟨rfl,X0.o.trans X3.o⟩
     have HR:=HR.o;simp only[Bool.true_and] at HR;subst HR;go_wp2_with fail;refine(HT.o _ (X0.o.trans X3.o)).o.mono ?_;rintro e w5 ⟨rfl,hx⟩;go_wp2;go_ret;exact⟨rfl,X0.o.trans (X3.o.trans hx)⟩
set_option maxRecDepth 512
set_option maxHeartbeats 200000
inductive dt : Tm→Prop
 |mk {t:Tm}(ja:t.types.length≤10000) (ty:∀x∈t.types,x.size≤90000) (kl:t.kids.length≤1000000) (vl:t.vars.length≤10000) (kids:∀k∈t.kids,dt k):dt t
theorem dt.UH {t:Tm}(h:dt t):t.types.length≤10000:=by cases h;assumption
theorem dt.ja {t:Tm}(h:dt t):t.types.length≤1000000:=aiM h.UH (by decide)
theorem dt.ty {t:Tm}(h:dt t):∀x∈t.types,x.size≤90000:=by cases h;assumption
theorem dt.kl {t:Tm}(h:dt t):t.kids.length≤1000000:=by cases h;assumption
theorem dt.vl {t:Tm}(h:dt t):t.vars.length≤10000:=by cases h;assumption
theorem dt.kids {t:Tm}(h:dt t):∀k∈t.kids,dt k:=by cases h;assumption
def lR (f:FuncId) (p:Tm→Bool) (t:Tm):Prop:=∀w,aQ w t→dt t→Calls Tryz.prog f #[bz t] w fun e w'=>e=.returned (.bool (p t))∧Ext w w'
theorem tj : fz 158:=enters_of Tryz.func158 (by kernel_rfl) rfl
theorem I6 (t:Tm) (h:lR 110 (fun t=>t.tb.pat) t):lR 158 (fun t => !t.tb.pat) t:=by
 intro w ht hf;have X0:aiE (Ext w (w.alloc (.cells #[.int .i64 t.kind,.int .i64 t.n,encStr t.name,.slice t.V t.vars.length t.vc,.slice t.T t.types.length t.tc,.slice t.A t.kids.length t.cap] 40))):=aa ((eR w).alloc _);have HL:=aa (h _ (ht.ext X0.o) hf);clear h ht hf;dsimp only at *;generalize t.tb.pat=R at *;unfold bz at *;go_enter Tryz.func158,Tryz.ntmps158;go_wp2_with fail;refine HL.o.mono ?_;rintro e w2 ⟨rfl,hx⟩;go_wp2;go_ret;exact⟨rfl,X0.o.trans hx⟩
set_option maxRecDepth 10000
set_option maxHeartbeats 8000000
theorem ME (t:Tm):lR 110 (fun t=>t.tb.pat) t:=by
 induction t using Tm.ind with
 |h t ih=>
 intro w ht hf;have X0:aiE (Ext w (w.alloc (.cells #[.int .i64 t.kind,.int .i64 t.n,encStr t.name,.slice t.V t.vars.length t.vc,.slice t.T t.types.length t.tc,.slice t.A t.kids.length t.cap] 40))):=aa ((eR w).alloc _);have HF:=aa (fun w' (e:Ext w w')=>aa (jH t w' (ht.ext e) hf.ty hf.ja));have HA:=aa (fun w' (e:Ext w w')=>aa (wq 158 #[] tj (fun k => !k.tb.pat) t.A t.cap t.kids w' (ht.all.ext e) hf.kl (fun w'' e2 x hx=>I6 x (ih x hx) w'' ((ht.all.kids x hx).ext (e.trans e2)) (hf.kids x hx))));have B1:aiE (av (w.alloc (.cells #[.int .i64 t.kind,.int .i64 t.n,encStr t.name,.slice t.V t.vars.length t.vc,.slice t.T t.types.length t.tc,.slice t.A t.kids.length t.cap] 40)) w.heap.size t):=aa (av.new w t);have HR:aiE (t.tb.pat=(decide (21≤t.kind)&&bC t&&(t.kids.all fun k=>k.tb.pat))):=aa (by rw[jf];show(_&&_&&(t.kids.map Tm.tb).all (·.pat))=_;rw[List.all_map];rfl);have zy:(t.kids.any fun k => !k.tb.pat) = !(t.kids.all fun k=>k.tb.pat):=by rw[←List.not_all_eq_any_not]
 rw[zy] at HA;have nX:=ht.hd.le;have cB:=ht.hd.max;clear ih ht hf zy;dsimp only;generalize t.tb.pat=R at *;generalize bC t=RF at *;generalize (t.kids.all fun k=>k.tb.pat)=RK at *;obtain⟨c0,-,-,-,-,-⟩:=B1.o.cells;unfold bz at *
 by_cases hk:t.kind≥21
 ·have hR:=HR.o;have FB:21≤t.kind:=hk;rw[decide_eq_true FB,Bool.true_and] at hR;clear FB;subst hR;go_enter Tryz.func110,Tryz.ntmps110;go_wp2_with fail;refine(HF.o _ X0.o).o.mono ?_;rintro e w2 ⟨rfl,hx⟩;have X2:=aa hx;obtain⟨-,-,-,-,-,d5⟩:=(B1.o.ext X2.o).cells;clear hx;cases RF
  ·go_wp2;go_ret;exact⟨rfl,X0.o.trans X2.o⟩
  ·go_wp2_with fail;refine(HA.o _ (X0.o.trans X2.o)).o.mono ?_;rintro e w3 ⟨rfl,hx⟩;go_wp2;go_ret;exact⟨by simp,X0.o.trans (X2.o.trans hx)⟩
 ·have hR:=HR.o;rw[decide_eq_false (show ¬21≤t.kind from hk)] at hR;simp only[Bool.false_and] at hR;subst hR;go_enter Tryz.func110,Tryz.ntmps110;go_wp2;go_ret;exact⟨rfl,X0.o⟩
set_option maxRecDepth 512
set_option maxHeartbeats 200000
inductive Lc : Tm→Prop
 |mk {t:Tm}(v:t.vars.length≤100) (ty:t.types.length≤30) (ja:aF t.types≤20000) (kids:∀k∈t.kids,Lc k):Lc t
theorem AA {l:List Ty}{x:Ty}(h:x∈l):x.size≤aF l:=by
 unfold aF
 induction l with
 |nil=>cases h
 |cons y l ih=>
  rw[List.map_cons,List.sum_cons]
  rcases List.mem_cons.1 h with rfl|h
  ·omega
  ·have:=ih h;omega
theorem Lc.few {t:Tm}(h:Lc t):t.size≤1000000→dt t:=by
 induction h with
 |mk v ty ja _ ih=>
  rename_i t _
  intro hs;exact .mk (by omega) (fun x hx=>by have:=AA hx;omega) (by have:=t.qi;omega) (by omega) (fun k hk=>ih k hk (by have:=Tm.cF hk;omega))
theorem rr {l:List Tm}{k:Nat}(h:k<l.length):((l.take (k+1)).map Tm.depth).foldr max 0=max (((l.take k).map Tm.depth).foldr max 0) (l[k]'h).depth:=by
 have ms:∀(l:List Nat) (x:Nat),(l++[x]).foldr max 0=max (l.foldr max 0) x:=by
  intro l x
  induction l with
  |nil=>simp
  |cons y l ih=>simp only[List.cons_append,List.foldr_cons,ih];omega
 rw[aiJ h,aiX,List.map_singleton,ms]
def Oz (t:Tm) (L D v:Int):Prop:=(v≤L - 1∨v ≤ -1)∧(-1≤v∨L - 1≤v)∧(0≤v→v=L - t.size∧(t.depth:Int)≤D∧Lc t)
set_option maxRecDepth 10000
set_option maxHeartbeats 8000000
theorem El (t:Tm):∀(L D:Int) (w:World),aQ w t → -1000000≤L→L≤1000000 → -1000000≤D→D≤1000000 →
  Calls Tryz.prog 40 #[bz t,.int .i64 L,.int .i64 D] w fun e w'=>(∃v:Int,e=.returned (.int .i64 v)∧Oz t L D v)∧Ext w w':=by
 induction t using Tm.ind with
 |h t ih=>
 intro L D w h h0 hL hD0 hD;have IH:=aa ih;have Hk:=aa h.all;have Mi:=aa h.hd.types;have hle:=h.hd.le;have hmx:=h.hd.max;have fI:=aa (av.new w t);have X0:aiE (Ext w (w.alloc (.cells #[.int .i64 t.kind,.int .i64 t.n,encStr t.name,.slice t.V t.vars.length t.vc,.slice t.T t.types.length t.tc,.slice t.A t.kids.length t.cap] 40))):=aa ((eR w).alloc _);have HS:aiE (t.size=cd t.kids+1):=aa (Tm.size_eq t);have HD:aiE (t.depth=(t.kids.map Tm.depth).foldr max 0+1):=aa (Tm.aT t);have pD:=aa (fun k (hk:k<t.kids.length)=>ko t.kids hk);have Pa:=aa (fun k (hk:k<t.kids.length)=>rr (l:=t.kids) hk);obtain⟨c0,c1,c2,c3,c4,c5⟩:=fI.o.cells;clear ih h;unfold bz
 by_cases hd:D<1
 ·go_enter Tryz.func40,Tryz.ntmps40;go_wp2;go_ret;exact⟨⟨-1,rfl,.inr (by omega),.inl (by omega),fun h=>by omega⟩,X0.o⟩
 by_cases hv:(t.vars.length:Int)>100
 ·go_enter Tryz.func40,Tryz.ntmps40;go_wp2;go_ret;exact⟨⟨-1,rfl,.inr (by omega),.inl (by omega),fun h=>by omega⟩,X0.o⟩
 by_cases ht:(t.types.length:Int)>30
 ·go_enter Tryz.func40,Tryz.ntmps40;go_wp2;go_ret;exact⟨⟨-1,rfl,.inr (by omega),.inl (by omega),fun h=>by omega⟩,X0.o⟩
 have wy:=aa (fun w' (e:Ext w w')=>aa (vr t.T t.tc t.types w' (Mi.o.ext e) (by omega)));go_enter Tryz.func40,Tryz.ntmps40;go_wp2_with fail;refine(wy.o _ X0.o).o.mono ?_;rintro e w1 ⟨⟨r,rfl,hr⟩,hx1⟩
 rcases hr with rfl|⟨rfl,jr,-⟩
 ·go_wp2;go_ret;exact⟨⟨-1,rfl,.inr (by omega),.inl (by omega),fun h=>by omega⟩,X0.o.trans hx1⟩
 have X1:=aa (X0.o.trans hx1);have DC:=aa (fI.o.ext hx1);have ZK:=aa jr;have Hv:=aa hv;have Ht:=aa ht;clear hx1 jr c0 c1 c2 c3 c4 c5 wy fI hv ht;go_wp2;rename World=>w0
 go_loopw [1,7] (fun v i wr=>∃(k:Nat) (V:Int),k≤t.kids.length∧i=.int .i64 k∧v=.int .i64 V∧(V≤L - 1∨V ≤ -1)∧(-1≤V∨L - 1≤V)∧aiE (0≤V→V=L - 1 - cd (t.kids.take k)∧((((t.kids.take k).map Tm.depth).foldr max 0:Nat):Int)+1≤D∧∀x∈t.kids.take k,Lc x)∧aiE (Ext w0 wr)) (fun _ i _=>t.kids.length - (intOf i).toNat)
 case atStart=>exact⟨0,L - 1,aiH _,rfl,rfl,by omega,by omega,aa (fun _=>by simp[cd];omega),aa (eR _)⟩
 case round=>
  obtain⟨k,V,hk,rfl,rfl,hV1,hV2,HV,HX⟩:=hrel;have HB:=aa (DC.o.ext HX.o);obtain⟨-,-,-,-,-,c5⟩:=HB.o.cells
  by_cases hlt:k<t.kids.length
  ·have aN:(k:Int)<(t.kids.length:Int):=by omega
   have cV:(0:Int)≤(k:Int):=by omega
   by_cases hv0:V≥0
   ·obtain⟨b,o,hA,hb,q0,q1,q2,q3,q4,q5⟩:=(Hk.o.ext (X1.o.trans HX.o)).at_ hlt;have HC:=aa (IH.o _ (aiF hlt) V (D - 1) wr ((Hk.o.kids _ (aiF hlt)).ext (X1.o.trans HX.o)) (by omega) (by omega) (by omega) (by omega));have iC:=aa (pD.o k hlt);have FY:=aa (Pa.o k hlt);have dh:aiE (t.kids.take (k+1)=t.kids.take k++[t.kids[k]'hlt]):=aa (aiJ hlt);rw[hA] at c5;clear hA;generalize t.kids[k]'hlt=c at *;generalize cd (t.kids.take k)=s at *;generalize ((t.kids.take k).map Tm.depth).foldr max 0=d at *;unfold bz at HC;go_wp2_with fail;refine HC.o.mono ?_;rintro e w3 ⟨⟨v,rfl,hv⟩,hx3⟩;have X3:=aa (HX.o.trans hx3);have Hv:=aa hv;clear hx3 hv;go_wp2;go_roundw
    case rel=>
     obtain⟨a1,a2,a3⟩:=Hv.o;have a4:=HV.o;exact⟨k+1,v,hlt,by go_num,rfl,by omega,by omega,aa (fun hv=>by
      rw[iC.o,FY.o];obtain⟨b1,b2,b5⟩:=a3 hv;obtain⟨b3,b4,b6⟩:=a4 hv0;refine⟨by omega,by omega,fun x hx => ?_⟩;rw[dh.o,List.mem_append,aiV] at hx
      rcases hx with hx|rfl
      ·exact b6 x hx
      ·exact b5),X3⟩
    case measure=>simp[intOf];omega
   ·go_wp2;go_ret;exact⟨⟨V,rfl,hV1,hV2,fun h=>absurd h (by omega)⟩,X1.o.trans HX.o⟩
  ·have bS:¬(k:Int)<(t.kids.length:Int):=by omega
   have hT:t.kids.take k=t.kids:=aiK (by omega);have HF:aiE (Oz t L D V):=aa ⟨hV1,hV2,fun h=>by
    have:=HV.o h;rw[HS.o,HD.o];rw[hT] at this;have hv':=Hv.o;have YU:=Ht.o;exact⟨by omega,by omega,.mk (by omega) (by omega) ZK.o this.2.2⟩⟩
   clear hT HV;go_wp2;go_ret;exact⟨⟨V,rfl,HF.o⟩,X1.o.trans HX.o⟩
theorem MF (A:Option Addr) (cap:Nat) (l:List Tm) (w:World) (h:bm w A l) (hle:l.length≤100000) :
  Calls Tryz.prog 21 #[.slice A l.length cap] w fun e w'=>(∃r:Int,e=.returned (.int .i64 r)∧(r=0∨(r=1∧cd l≤3000∧∀t∈l,Lc t)))∧Ext w w':=by
 have HL:=aa h;have pD:=aa (fun k (hk:k<l.length)=>ko l hk);clear h;go_enter Tryz.func21,Tryz.ntmps21;go_wp2
 go_loopw [3,4] (fun v i wr=>∃(k:Nat) (V:Int),k≤l.length∧i=.int .i64 k∧v=.int .i64 V∧V≤3000 ∧ -1 - (k:Int)≤V∧aiE (0≤V→V=3000 - cd (l.take k)∧∀t∈l.take k,Lc t)∧aiE (Ext w wr)) (fun _ i _=>l.length - (intOf i).toNat)
 case atStart=>exact⟨0,3000,aiH _,rfl,rfl,by omega,by omega,aa (fun _=>by simp[cd]),aa (eR _)⟩
 case round=>
  obtain⟨k,V,hk,rfl,rfl,hV1,hV2,HV,HX⟩:=hrel
  by_cases hlt:k<l.length
  ·have aN:(k:Int)<(l.length:Int):=by omega
   have cV:(0:Int)≤(k:Int):=by omega
   obtain⟨b,o,hA,hb,q0,q1,q2,q3,q4,q5⟩:=(HL.o.ext HX.o).at_ hlt;have HC:=aa (El (l[k]'hlt) V 450 wr ((HL.o.kids _ (aiF hlt)).ext HX.o) (by omega) (by omega) (by omega) (by omega));have iC:=aa (pD.o k hlt);have dh:aiE (l.take (k+1)=l.take k++[l[k]'hlt]):=aa (aiJ hlt);generalize l[k]'hlt=c at *;rw[hA];clear hA;unfold bz at HC;go_wp2_with fail;refine HC.o.mono ?_;rintro e w3 ⟨⟨v,rfl,hv⟩,hx3⟩;have X3:=aa (HX.o.trans hx3);have Hv:=aa hv;clear hx3 hv;go_wp2;go_roundw
   case rel=>
    obtain⟨a1,a2,a3⟩:=Hv.o;have a4:=HV.o;exact⟨k+1,v,hlt,by go_num,rfl,by omega,by omega,aa (fun hv=>by
     obtain⟨b1,b2,b5⟩:=a3 hv;obtain⟨b3,b4⟩:=a4 (by omega);rw[iC.o];refine⟨by omega,fun t ht => ?_⟩;rw[dh.o,List.mem_append,aiV] at ht
     rcases ht with ht|rfl
     ·exact b4 t ht
     ·exact b5),X3⟩
   case measure=>simp[intOf];omega
  ·have bS:¬(k:Int)<(l.length:Int):=by omega
   have HF:aiE (0≤V→cd l≤3000∧∀t∈l,Lc t):=aa (fun h=>by
    have:=HV.o h;rw[aiK (by omega)] at this;exact⟨by omega,this.2⟩)
   clear HV
   by_cases hv:V<0
   ·go_wp2;go_ret;exact⟨⟨0,rfl,.inl rfl⟩,HX.o⟩
   ·go_wp2;go_ret;exact⟨⟨1,rfl,.inr ⟨rfl,HF.o (by omega)⟩⟩,HX.o⟩
set_option maxRecDepth 512
set_option maxHeartbeats 200000
theorem yg (t:Tm):t.depth≤t.size:=by
 induction t using Tm.ind with
 |h t ih=>
  rw[Tm.aT,Tm.size_eq];have:∀l:List Tm,(∀k∈l,k.depth≤k.size)→(l.map Tm.depth).foldr max 0≤(l.map Tm.size).sum:=by
   intro l
   induction l with
   |nil=>simp
   |cons x l ihl=>
    intro h;have h1:=h x (by simp);have h2:=ihl (fun k hk=>h k (by simp[hk]));simp only[List.map_cons,List.foldr_cons,List.sum_cons];omega
  have:=this t.kids ih;omega
set_option maxRecDepth 10000
set_option maxHeartbeats 8000000
theorem I7 (t:Tm):∀(w:World),aQ w t→t.size≤100000000 →
  Calls Tryz.prog 53 #[bz t] w fun e w'=>e=.returned (.int .i64 (t.size:Int))∧Ext w w':=by
 induction t using Tm.ind with
 |h t ih=>
 intro w h hsz;have IH:=aa ih;have Hk:=aa h.all;have hle:=h.hd.le;have hmx:=h.hd.max;have fI:=aa (av.new w t);have X0:aiE (Ext w (w.alloc (.cells #[.int .i64 t.kind,.int .i64 t.n,encStr t.name,.slice t.V t.vars.length t.vc,.slice t.T t.types.length t.tc,.slice t.A t.kids.length t.cap] 40))):=aa ((eR w).alloc _);have HS:aiE (t.size=cd t.kids+1):=aa (Tm.size_eq t);have pD:=aa (fun k (hk:k<t.kids.length)=>ko t.kids hk);have CS:=aa (fun k=>Dg t.kids k);have ki:=aa (fun k (hk:k∈t.kids)=>Tm.cF hk);clear ih h;unfold bz at *;go_enter Tryz.func53,Tryz.ntmps53;go_wp2;generalize (w.alloc (.cells #[.int .i64 t.kind,.int .i64 t.n,encStr t.name,.slice t.V t.vars.length t.vc,.slice t.T t.types.length t.tc,.slice t.A t.kids.length t.cap] 40))=w0 at *
 go_loopw [3,4] (fun v i wr=>∃k:Nat,k≤t.kids.length∧i=.int .i64 k∧v=.int .i64 ((cd (t.kids.take k)+1:Nat):Int)∧aiE (Ext w0 wr)) (fun _ i _=>t.kids.length - (intOf i).toNat)
 case atStart=>exact⟨0,aiH _,rfl,rfl,aa (eR _)⟩
 case round=>
  obtain⟨k,hk,rfl,rfl,HX⟩:=hrel;have HB:=aa (fI.o.ext HX.o);obtain⟨-,-,-,-,-,hc2⟩:=HB.o.cells
  by_cases hlt:k<t.kids.length
  ·have aN:(k:Int)<(t.kids.length:Int):=by omega
   have cV:(0:Int)≤(k:Int):=by omega
   obtain⟨b,o,hA,hb,q0,q1,q2,q3,q4,q5⟩:=(Hk.o.ext (X0.o.trans HX.o)).at_ hlt;have cB:=aiF hlt;have iC:=aa (pD.o k hlt);have hs1:=CS.o (k+1);rw[iC.o] at hs1;have hS:=HS.o;have hcs:=ki.o _ cB;have HC:=aa (IH.o _ cB wr ((Hk.o.kids _ cB).ext (X0.o.trans HX.o)) (by omega));rw[hA] at hc2;clear hA cB;generalize t.kids[k]'hlt=c at *;generalize cd (t.kids.take k)=s at *;go_wp2_with fail;refine HC.o.mono ?_;rintro e w3 ⟨rfl,hx3⟩;have X3:=aa (HX.o.trans hx3);clear hx3;go_wp2;go_roundw
   case rel=>exact⟨k+1,hlt,by go_num,by rw[iC.o];exact congrArg (Value.int .i64) (by omega),X3⟩
   case measure=>simp[intOf];omega
  ·have bS:¬(k:Int)<(t.kids.length:Int):=by omega
   have hR:cd (t.kids.take k)+1=t.size:=by rw[HS.o,aiK (by omega)]
   rw[hR];clear hR;go_wp2;go_ret;exact⟨rfl,X0.o.trans HX.o⟩
theorem AB (t:Tm):∀(w:World),aQ w t→t.size≤100000000 →
  Calls Tryz.prog 54 #[bz t] w fun e w'=>e=.returned (.int .i64 (t.depth:Int))∧Ext w w':=by
 induction t using Tm.ind with
 |h t ih=>
 intro w h hsz;have IH:=aa ih;have Hk:=aa h.all;have hle:=h.hd.le;have hmx:=h.hd.max;have fI:=aa (av.new w t);have X0:aiE (Ext w (w.alloc (.cells #[.int .i64 t.kind,.int .i64 t.n,encStr t.name,.slice t.V t.vars.length t.vc,.slice t.T t.types.length t.tc,.slice t.A t.kids.length t.cap] 40))):=aa ((eR w).alloc _);have HD:aiE (t.depth=(t.kids.map Tm.depth).foldr max 0+1):=aa (Tm.aT t);have Pa:=aa (fun k (hk:k<t.kids.length)=>rr (l:=t.kids) hk);have RQ:=aa (fun k (hk:k∈t.kids)=>aiM (yg k) (Nat.le_of_lt (Tm.cF hk)));have ki:=aa (fun k (hk:k∈t.kids)=>Tm.cF hk);clear ih h;unfold bz at *;go_enter Tryz.func54,Tryz.ntmps54;go_wp2;generalize (w.alloc (.cells #[.int .i64 t.kind,.int .i64 t.n,encStr t.name,.slice t.V t.vars.length t.vc,.slice t.T t.types.length t.tc,.slice t.A t.kids.length t.cap] 40))=w0 at *
 go_loopw [3,4] (fun v i wr=>∃k M:Nat,k≤t.kids.length∧i=.int .i64 k∧v=.int .i64 M∧M≤100000000∧aiE (((t.kids.take k).map Tm.depth).foldr max 0=M)∧aiE (Ext w0 wr)) (fun _ i _=>t.kids.length - (intOf i).toNat)
 case atStart=>exact⟨0,0,aiH _,rfl,rfl,aiH _,aa rfl,aa (eR _)⟩
 case round=>
  obtain⟨k,M,hk,rfl,rfl,hM,HM,HX⟩:=hrel;have HB:=aa (fI.o.ext HX.o);obtain⟨-,-,-,-,-,hc2⟩:=HB.o.cells
  by_cases hlt:k<t.kids.length
  ·have aN:(k:Int)<(t.kids.length:Int):=by omega
   have cV:(0:Int)≤(k:Int):=by omega
   obtain⟨b,o,hA,hb,q0,q1,q2,q3,q4,q5⟩:=(Hk.o.ext (X0.o.trans HX.o)).at_ hlt;have cB:=aiF hlt;have FY:=aa (Pa.o k hlt);rw[HM.o] at FY;have Yf:=RQ.o _ cB;have hcs:=ki.o _ cB;have HC:=aa (IH.o _ cB wr ((Hk.o.kids _ cB).ext (X0.o.trans HX.o)) (by omega));rw[hA] at hc2;clear hA cB;generalize t.kids[k]'hlt=c at *;have Yg:c.depth≤100000000:=by omega
   clear Yf hcs;generalize c.depth=d at *
   by_cases KE:(d:Int)>(M:Int)
   ·have ZP:max (M:Int) (d:Int)=(d:Int):=by omega
    have ZQ:(if (M:Int)<(d:Int) then(d:Int) else(M:Int))=(d:Int):=if_pos KE;have afu:(M:Int)≤(d:Int):=by omega
    go_wp2_with fail;refine HC.o.mono ?_;rintro e w3 ⟨rfl,hx3⟩;have X3:=aa (HX.o.trans hx3);clear hx3;go_wp2;go_roundw
    case rel=>exact⟨k+1,d,hlt,by go_num,by first|rfl|exact congrArg (Value.int .i64) (by omega),Yg,aa (by rw[FY.o];omega),X3⟩
    case measure=>simp[intOf];omega
   ·have ZP:max (M:Int) (d:Int)=(M:Int):=by omega
    have ZQ:(if (M:Int)<(d:Int) then(d:Int) else(M:Int))=(M:Int):=if_neg KE;go_wp2_with fail;refine HC.o.mono ?_;rintro e w3 ⟨rfl,hx3⟩;have X3:=aa (HX.o.trans hx3);clear hx3;go_wp2;go_roundw
    case rel=>exact⟨k+1,M,hlt,by go_num,by first|rfl|exact congrArg (Value.int .i64) (by omega),hM,aa (by rw[FY.o];omega),X3⟩
    case measure=>simp[intOf];omega
  ·have bS:¬(k:Int)<(t.kids.length:Int):=by omega
   have hM0:(0:Int)≤(M:Int):=by omega
   have HR:aiE (t.depth=M+1):=aa (by
    have:=HM.o;rw[aiK (by omega)] at this;rw[HD.o,this])
   go_wp2;go_ret;exact⟨by rw[HR.o];rfl,X0.o.trans HX.o⟩
theorem nL (A:Option Addr) (cap:Nat) (l:List Ty) (w:World) (h:bH w A l) (hn:l.length≤1000000) (hs:∀x∈l,x.size≤90000) :
  Calls Tryz.prog 87 #[.slice A l.length cap] w fun e w'=>e=.returned (.bool (l.all aV))∧Ext w w':=by
 have H:=aa h;have HL:=aa (fun x hx w' (e:Ext w w')=>aa (Ek x w' ((h.args x hx).ext e) (hs x hx)));clear h hs;go_enter Tryz.func87,Tryz.ntmps87;go_wp2
 go_loopw [3] (fun i wr=>∃k:Nat,k≤l.length∧i=.int .i64 k∧aiE (Ext w wr)∧aiE (∀x∈l.take k,aV x=true)) (fun i _=>l.length - (intOf i).toNat)
 case atStart=>exact⟨0,aiH _,rfl,aa (eR _),aa (fun x hx=>by cases hx)⟩
 case round=>
  obtain⟨k,hk,rfl,HX,HJ⟩:=hrel
  by_cases hlt:k<l.length
  ·have aN:(k:Int)<(l.length:Int):=by omega
   have cV:(0:Int)≤(k:Int):=by omega
   obtain⟨b,o,rfl,hb,q0,q1,q2⟩:=(H.o.ext HX.o).at_ hlt;have cB:=aiF hlt;have HC:=aa (HL.o _ cB wr HX.o).o;have dh:aiE (l.take (k+1)=l.take k++[l[k]'hlt]):=aa (aiJ hlt);have HN:aiE (aV (l[k]'hlt)=false→l.all aV=false):=aa (fun h=>by
    rw[Bool.eq_false_iff];intro k2;rw[aiY] at k2;rw[k2 _ cB] at h;cases h)
   clear cB;generalize l[k]'hlt=c at *;generalize hR:aV c=R at *;have HR:=aa hR;clear hR;unfold bl at HC;go_wp2_with fail;refine HC.o.mono ?_;rintro e w3 ⟨rfl,hx3⟩;have X3:=aa (HX.o.trans hx3);clear hx3;cases R
   ·go_wp2;go_ret;exact⟨by rw[HN.o (by first|exact trivial|rfl)];rfl,X3.o⟩
   ·go_wp2;go_roundw
    case rel=>exact⟨k+1,hlt,by go_num,X3,aa (fun x hx=>by
     rw[dh.o] at hx
     rcases List.mem_append.1 hx with hx|hx
     ·exact HJ.o x hx
     ·rw[aiV] at hx;subst hx;exact HR.o)⟩
    case measure=>simp[intOf];omega
  ·have bS:¬(k:Int)<(l.length:Int):=by omega
   have HA:aiE (l.all aV=true):=aa (by
    have:=HJ.o;rw[aiK (by omega)] at this;rw[aiY];exact this)
   go_wp2;go_ret;exact⟨by rw[HA.o];rfl,HX.o⟩
set_option maxRecDepth 512
set_option maxHeartbeats 200000
def hasB (t:Tm) (nm:Bool) (n kids:Int):Bool:=((!(t.name == [])) == nm)&&(t.n == 0)&&((t.vars.length:Int) == 0)&&((t.types.length:Int) == n)&&((t.kids.length:Int) == kids)
def lS (t:Tm) (kids:Int):Bool:=(t.name == [])&&((t.vars.length:Int) == 0)&&((t.types.length:Int) == 0)&&((t.kids.length:Int) == kids)
set_option maxRecDepth 10000
set_option maxHeartbeats 8000000
theorem fW (t:Tm) (nm:Bool) (n kids:Int) (w:World):Calls Tryz.prog 85 #[bz t,.bool nm,.int .i64 n,.int .i64 kids] w fun e w'=>e=.returned (.bool (hasB t nm n kids))∧Ext w w':=by
 have fI:=aa (av.new w t);have X0:aiE (Ext w (w.alloc (.cells #[.int .i64 t.kind,.int .i64 t.n,encStr t.name,.slice t.V t.vars.length t.vc,.slice t.T t.types.length t.tc,.slice t.A t.kids.length t.cap] 40))):=aa ((eR w).alloc _);have HR:aiE (hasB t nm n kids=(((!(t.name == [])) == nm)&&(t.n == 0)&&((t.vars.length:Int) == 0)&&((t.types.length:Int) == n)&&((t.kids.length:Int) == kids))):=aa rfl;generalize hasB t nm n kids=R at *;obtain⟨c0,c1,c2,c3,c4,c5⟩:=fI.o.cells;unfold bz at *;cases hn:(t.name == ([]:aj))<;>cases nm
 case true.true=>
  go_enter Tryz.func85,Tryz.ntmps85;go_wp2;go_ret;exact⟨by rw[HR.o,hn];rfl,X0.o⟩
 case true.false=>
  cases h0:(t.n == 0)
  case false=>
   go_enter Tryz.func85,Tryz.ntmps85;go_wp2;go_ret;exact⟨by rw[HR.o,hn,h0];rfl,X0.o⟩
  cases h1:((t.vars.length:Int) == 0)
  case false=>
   go_enter Tryz.func85,Tryz.ntmps85;go_wp2;go_ret;exact⟨by rw[HR.o,hn,h0,h1];rfl,X0.o⟩
  cases h2:((t.types.length:Int) == n)
  case false=>
   go_enter Tryz.func85,Tryz.ntmps85;go_wp2;go_ret;exact⟨by rw[HR.o,hn,h0,h1,h2];rfl,X0.o⟩
  cases h3:((t.kids.length:Int) == kids)
  case false=>
   go_enter Tryz.func85,Tryz.ntmps85;go_wp2;go_ret;exact⟨by rw[HR.o,hn,h0,h1,h2,h3];rfl,X0.o⟩
  go_enter Tryz.func85,Tryz.ntmps85;go_wp2;go_ret;exact⟨by rw[HR.o,hn,h0,h1,h2,h3];rfl,X0.o⟩
 case false.true=>
  cases h0:(t.n == 0)
  case false=>
   go_enter Tryz.func85,Tryz.ntmps85;go_wp2;go_ret;exact⟨by rw[HR.o,hn,h0];rfl,X0.o⟩
  cases h1:((t.vars.length:Int) == 0)
  case false=>
   go_enter Tryz.func85,Tryz.ntmps85;go_wp2;go_ret;exact⟨by rw[HR.o,hn,h0,h1];rfl,X0.o⟩
  cases h2:((t.types.length:Int) == n)
  case false=>
   go_enter Tryz.func85,Tryz.ntmps85;go_wp2;go_ret;exact⟨by rw[HR.o,hn,h0,h1,h2];rfl,X0.o⟩
  cases h3:((t.kids.length:Int) == kids)
  case false=>
   go_enter Tryz.func85,Tryz.ntmps85;go_wp2;go_ret;exact⟨by rw[HR.o,hn,h0,h1,h2,h3];rfl,X0.o⟩
  go_enter Tryz.func85,Tryz.ntmps85;go_wp2;go_ret;exact⟨by rw[HR.o,hn,h0,h1,h2,h3];rfl,X0.o⟩
 case false.false=>
  go_enter Tryz.func85,Tryz.ntmps85;go_wp2;go_ret;exact⟨by rw[HR.o,hn];rfl,X0.o⟩
theorem ru (t:Tm) (kids:Int) (w:World):Calls Tryz.prog 86 #[bz t,.int .i64 kids] w fun e w'=>e=.returned (.bool (lS t kids))∧Ext w w':=by
 have fI:=aa (av.new w t);have X0:aiE (Ext w (w.alloc (.cells #[.int .i64 t.kind,.int .i64 t.n,encStr t.name,.slice t.V t.vars.length t.vc,.slice t.T t.types.length t.tc,.slice t.A t.kids.length t.cap] 40))):=aa ((eR w).alloc _);have HR:aiE (lS t kids=((t.name == [])&&((t.vars.length:Int) == 0)&&((t.types.length:Int) == 0)&&((t.kids.length:Int) == kids))):=aa rfl;generalize lS t kids=R at *;obtain⟨c0,c1,c2,c3,c4,c5⟩:=fI.o.cells;unfold bz at *;cases h0:(t.name == ([]:aj))
 case false=>
  go_enter Tryz.func86,Tryz.ntmps86;go_wp2;go_ret;exact⟨by rw[HR.o,h0];rfl,X0.o⟩
 cases h1:((t.vars.length:Int) == 0)
 case false=>
  go_enter Tryz.func86,Tryz.ntmps86;go_wp2;go_ret;exact⟨by rw[HR.o,h0,h1];rfl,X0.o⟩
 cases h2:((t.types.length:Int) == 0)
 case false=>
  go_enter Tryz.func86,Tryz.ntmps86;go_wp2;go_ret;exact⟨by rw[HR.o,h0,h1,h2];rfl,X0.o⟩
 cases h3:((t.kids.length:Int) == kids)
 case false=>
  go_enter Tryz.func86,Tryz.ntmps86;go_wp2;go_ret;exact⟨by rw[HR.o,h0,h1,h2,h3];rfl,X0.o⟩
 go_enter Tryz.func86,Tryz.ntmps86;go_wp2;go_ret;exact⟨by rw[HR.o,h0,h1,h2,h3];rfl,X0.o⟩
set_option maxRecDepth 512
set_option maxHeartbeats 200000
theorem pV (t:Tm):t.tb.term=((!decide (21≤t.kind) && !(t.kind == 9) && !(t.kind == 11)&&bC t) &&
  (if t.kind=8 then decide (2≤(t.kids.map Tm.tb).length)&&(TB.at_ (t.kids.map Tm.tb) 0).term&&((t.kids.map Tm.tb).drop 1).all (·.alt) else if t.kind=10 then decide (1≤(t.kids.map Tm.tb).length)&&(TB.at_ (t.kids.map Tm.tb) ((t.kids.map Tm.tb).length - 1)).term&&((t.kids.map Tm.tb).take ((t.kids.map Tm.tb).length - 1)).all (·.bind) else(t.kids.map Tm.tb).all (·.term))):=by
 rw[jf];rfl
theorem rv (t:Tm):t.tb.pat=(decide (21≤t.kind)&&bC t&&(t.kids.map Tm.tb).all (·.pat)):=by
 rw[jf];rfl
theorem I8 (t:Tm):t.tb.alt=((t.kind == 9)&&bC t&&(TB.at_ (t.kids.map Tm.tb) 0).pat&&(TB.at_ (t.kids.map Tm.tb) 1).term):=by
 rw[jf];rfl
theorem MG (t:Tm):t.tb.bind=((t.kind == 11)&&bC t&&(TB.at_ (t.kids.map Tm.tb) 0).term):=by
 rw[jf];rfl
noncomputable def dD (t:Tm):Bool:=t.kids.all (fun k=>k.tb.term)
noncomputable def cn (t:Tm):Bool:=t.types.all aV
theorem nM {t:Tm}(h:((t.types.length:Int) == 0)=true):t.types.all aV=true:=by
 have:t.types=[]:=List.length_eq_zero_iff.1 (by simpa using h);rw[this];rfl
theorem uM {t:Tm}{f:Tm→Bool}(h:((t.kids.length:Int) == 0)=true):t.kids.all f=true:=by
 have:t.kids=[]:=List.length_eq_zero_iff.1 (by simpa using h);rw[this];rfl
theorem I9 (t:Tm):(t.kids.map Tm.tb).all (·.term)=dD t:=by unfold dD;rw[List.all_map];rfl
theorem nN (t:Tm):(t.kids.map Tm.tb).all (·.pat)=t.kids.all (fun k=>k.tb.pat):=by rw[List.all_map];rfl
theorem jI {t:Tm}{s:Uz}(hs:dS t.kind=some s):bC t=(((!(t.name == [])) == s.named)&&((t.n == 0)||s.counted) && !(decide (t.n<0)&&s.I0)&&(decide (t.vars.length=0)||t.kind == 5||t.kind == 11)&&(decide (s.types<0)||decide ((t.types.length:Int)=s.types))&&(decide (s.kids<0)||decide ((t.kids.length:Int)=s.kids))&&cn t):=by
 unfold bC mz;rw[hs];rfl
theorem uN {t:Tm}(hs:dS t.kind=none):bC t=false:=by
 unfold bC mz;rw[hs];rfl
theorem jJ (n:Nat):decide (n=0)=((n:Int) == 0):=by
 rw[Bool.eq_iff_iff];simp
theorem jK (a b:Int):decide (a=b)=(a == b):=by
 rw[Bool.eq_iff_iff];simp
theorem jh {t:Tm}{nm:Bool}{a b:Int}(hs:dS t.kind=some ⟨nm,false,false,a,b⟩) (ha:0≤a) (hb:0≤b) (h5:(t.kind == 5)=false) (h11:(t.kind == 11)=false):bC t=(hasB t nm a b&&cn t):=by
 rw[jI hs];have e1:decide (a<0)=false:=decide_eq_false (by omega);have e2:decide (b<0)=false:=decide_eq_false (by omega);simp only[h5,h11,e1,e2,Bool.or_false,Bool.false_or,Bool.and_false,Bool.not_false,Bool.and_true,jJ,jK];rfl
theorem uO {t:Tm}{nm:Bool}{b:Int}(hs:dS t.kind=some ⟨nm,false,false,-1,b⟩) (hb:0≤b) (h5:(t.kind == 5)=false) (h11:(t.kind == 11)=false):bC t=(hasB t nm t.types.length b&&cn t):=by
 rw[jI hs];have e2:decide (b<0)=false:=decide_eq_false (by omega);have e1:decide ((-1:Int)<0)=true:=rfl;simp only[h5,h11,e1,e2,Bool.or_false,Bool.false_or,Bool.true_or,Bool.and_false,Bool.not_false,Bool.and_true,jJ,jK];unfold hasB;simp
theorem lf {t:Tm}{nm:Bool}{a:Int}(hs:dS t.kind=some ⟨nm,false,false,a,-1⟩) (ha:0≤a) (h5:(t.kind == 5)=false) (h11:(t.kind == 11)=false):bC t=(hasB t nm a t.kids.length&&cn t):=by
 rw[jI hs];have e2:decide (a<0)=false:=decide_eq_false (by omega);have e1:decide ((-1:Int)<0)=true:=rfl;simp only[h5,h11,e1,e2,Bool.or_false,Bool.false_or,Bool.true_or,Bool.and_false,Bool.not_false,Bool.and_true,jJ,jK];unfold hasB;simp
theorem Ja {t:Tm}{nm:Bool}{b:Int}(h:hasB t nm 0 b=true):cn t=true:=by
 unfold hasB at h;simp only[aiT] at h;exact nM h.1.2
theorem Em {t:Tm}{nm:Bool}{a:Int}{f:Tm→Bool}(h:hasB t nm a 0=true):t.kids.all f=true:=by
 unfold hasB at h;simp only[aiT] at h;exact uM h.2
theorem gy {t:Tm}{nm:Bool}{b:Int}:(hasB t nm 0 b&&cn t)=hasB t nm 0 b:=by
 cases h:hasB t nm 0 b
 ·rfl
 ·rw[Ja h];rfl
theorem nO {t:Tm}{nm:Bool}{a:Int}{f:Tm→Bool}:(hasB t nm a 0&&t.kids.all f)=hasB t nm a 0:=by
 cases h:hasB t nm a 0
 ·rfl
 ·rw[Em h];rfl
theorem fC {t:Tm}(FM:t.kind<21) (h9:t.kind≠9) (h11:t.kind≠11) (h8:t.kind≠8) (h10:t.kind≠10):t.tb.term=(bC t&&dD t):=by
 have e1:decide (21≤t.kind)=false:=decide_eq_false (by omega);have e2:(t.kind == 9)=false:=by simpa using h9
 have e3:(t.kind == 11)=false:=by simpa using h11
 rw[pV,if_neg h8,if_neg h10,I9,e1,e2,e3];rfl
theorem ZR {t:Tm}(hk:t.kind=1):t.tb.term=hasB t true 0 0:=by
 rw[fC (by omega) (by omega) (by omega) (by omega) (by omega),jh (nm:=true) (a:=0) (b:=0) (by rw[hk];rfl) (by decide) (by decide) (by rw[hk];rfl) (by rw[hk];rfl),gy];exact nO
theorem Cg {t:Tm}(hs:dS t.kind=some ⟨false,true,false,0,0⟩) (h5:(t.kind == 5)=false) (h11:(t.kind == 11)=false) (f:Tm→Bool):(bC t&&t.kids.all f)=lS t 0:=by
 rw[jI hs];simp only[h5,h11,Bool.or_false,Bool.false_or,Bool.or_true,Bool.and_false,Bool.not_false,Bool.and_true,jJ,jK,show decide ((0:Int)<0)=false from rfl];have e:((!(t.name == [])) == false)=(t.name == []):=by cases t.name == []<;>rfl
 rw[e];unfold lS;cases h1:((t.types.length:Int) == 0)
 ·simp
 ·cases h2:((t.kids.length:Int) == 0)
  ·simp
  ·rw[uM h2];unfold cn;rw[nM h1];simp
theorem UI {t:Tm}(hk:t.kind=2∨t.kind=14):t.tb.term=lS t 0:=by
 rw[fC (by omega) (by omega) (by omega) (by omega) (by omega)];exact Cg (by rcases hk with h|h<;>rw[h]<;>rfl) (by rcases hk with h|h<;>rw[h]<;>rfl) (by rcases hk with h|h<;>rw[h]<;>rfl) _
theorem ZT {t:Tm}(hk:t.kind=3):t.tb.term=(hasB t true 1 1&&cn t&&dD t):=by
 rw[fC (by omega) (by omega) (by omega) (by omega) (by omega),jh (nm:=true) (a:=1) (b:=1) (by rw[hk];rfl) (by decide) (by decide) (by rw[hk];rfl) (by rw[hk];rfl)]
theorem ZU {t:Tm}(hk:t.kind=4):t.tb.term=(hasB t false 0 2&&dD t):=by
 rw[fC (by omega) (by omega) (by omega) (by omega) (by omega),jh (nm:=false) (a:=0) (b:=2) (by rw[hk];rfl) (by decide) (by decide) (by rw[hk];rfl) (by rw[hk];rfl),gy]
theorem ZV {t:Tm}(hk:t.kind=5):t.tb.term=((t.name == [])&&(t.n == 0)&&((t.types.length:Int) == 0)&&((t.kids.length:Int) == 1)&&dD t):=by
 rw[fC (by omega) (by omega) (by omega) (by omega) (by omega),jI (s:=⟨false,false,false,0,1⟩) (by rw[hk];rfl)];have e5:(t.kind == 5)=true:=by rw[hk];rfl
 have e:((!(t.name == [])) == false)=(t.name == []):=by cases t.name == []<;>rfl
 simp only[e5,e,Bool.or_false,Bool.false_or,Bool.or_true,Bool.true_or,Bool.and_false,Bool.not_false,Bool.and_true,jJ,jK,show decide ((0:Int)<0)=false from rfl,show decide ((1:Int)<0)=false from rfl];cases h1:((t.types.length:Int) == 0)
 ·simp
 ·have:cn t=true:=nM h1;rw[this];simp
theorem ZW {t:Tm}(hk:t.kind=6):t.tb.term=(hasB t false t.types.length 1&&cn t&&dD t):=by
 rw[fC (by omega) (by omega) (by omega) (by omega) (by omega),uO (nm:=false) (b:=1) (by rw[hk];rfl) (by decide) (by rw[hk];rfl) (by rw[hk];rfl)]
theorem ZX {t:Tm}(hk:t.kind=7):t.tb.term=(hasB t true t.types.length 0&&cn t):=by
 rw[fC (by omega) (by omega) (by omega) (by omega) (by omega),uO (nm:=true) (b:=0) (by rw[hk];rfl) (by decide) (by rw[hk];rfl) (by rw[hk];rfl)];rw[Bool.and_right_comm];show((hasB t true t.types.length 0&&t.kids.all _)&&_)=_;rw[nO]
theorem UJ {t:Tm}(hk:t.kind=12):t.tb.term=(hasB t true 1 t.kids.length&&cn t&&dD t):=by
 rw[fC (by omega) (by omega) (by omega) (by omega) (by omega),lf (nm:=true) (a:=1) (by rw[hk];rfl) (by decide) (by rw[hk];rfl) (by rw[hk];rfl)]
theorem UK {t:Tm}(hk:t.kind=13):t.tb.term=(!(t.name == [])&&decide (t.n≥0)&&((t.vars.length:Int) == 0)&&((t.types.length:Int) == 0)&&((t.kids.length:Int) == 1)&&dD t):=by
 rw[fC (by omega) (by omega) (by omega) (by omega) (by omega),jI (s:=⟨true,true,true,0,1⟩) (by rw[hk];rfl)];have e5:(t.kind == 5)=false:=by rw[hk];rfl
 have e11:(t.kind == 11)=false:=by rw[hk];rfl
 have e:((!(t.name == [])) == true) = !(t.name == []):=by cases t.name == []<;>rfl
 have e0:(!decide (t.n<0))=decide (t.n≥0):=by by_cases h:t.n<0<;>simp[h]<;>omega
 simp only[e5,e11,e,e0,Bool.or_false,Bool.false_or,Bool.or_true,Bool.and_true,jJ,jK,show decide ((0:Int)<0)=false from rfl,show decide ((1:Int)<0)=false from rfl];cases h1:((t.types.length:Int) == 0)
 ·simp
 ·have:cn t=true:=nM h1;rw[this];simp
theorem Jb {t:Tm}(h:t.kind≠1∧t.kind≠2∧t.kind≠3∧t.kind≠4∧t.kind≠5∧t.kind≠6∧t.kind≠7∧t.kind≠8∧t.kind≠10∧t.kind≠12∧t.kind≠13∧t.kind≠14):t.tb.term=false:=by
 rw[pV]
 by_cases h9:t.kind=9
 ·rw[h9];rfl
 by_cases h11:t.kind=11
 ·rw[h11];rfl
 by_cases FM:21≤t.kind
 ·rw[decide_eq_true FM];rfl
 have:dS t.kind=none:=by
  unfold dS;rw[if_neg (by omega),if_neg (by omega),if_neg (by omega),if_neg (by omega),if_neg (by omega),if_neg (by omega),if_neg (by omega),if_neg (by omega),if_neg (by omega),if_neg (by omega),if_neg (by omega),if_neg (by omega)]
 rw[uN this];simp
theorem UL {t:Tm}(hk:t.kind=21):t.tb.pat=hasB t true 0 0:=by
 rw[rv,nN,jh (nm:=true) (a:=0) (b:=0) (by rw[hk];rfl) (by decide) (by decide) (by rw[hk];rfl) (by rw[hk];rfl),gy,hk,show decide ((21:Int)≤21)=true from rfl,Bool.true_and];exact nO
theorem UM {t:Tm}(hk:t.kind=22):t.tb.pat=hasB t false 0 0:=by
 rw[rv,nN,jh (nm:=false) (a:=0) (b:=0) (by rw[hk];rfl) (by decide) (by decide) (by rw[hk];rfl) (by rw[hk];rfl),gy,hk,show decide ((21:Int)≤22)=true from rfl,Bool.true_and];exact nO
theorem UN {t:Tm}(hk:t.kind=23):t.tb.pat=lS t 0:=by
 rw[rv,nN,show decide (21≤t.kind)=true from by rw[hk];rfl,Bool.true_and];exact Cg (by rw[hk];rfl) (by rw[hk];rfl) (by rw[hk];rfl) _
theorem UO {t:Tm}(hk:t.kind=24):t.tb.pat=(t.kids.all (fun k=>k.tb.pat)&&hasB t true 0 t.kids.length):=by
 rw[rv,nN,lf (nm:=true) (a:=0) (by rw[hk];rfl) (by decide) (by rw[hk];rfl) (by rw[hk];rfl),gy,hk,show decide ((21:Int)≤24)=true from rfl,Bool.true_and,Bool.and_comm]
theorem Jc {t:Tm}(h:t.kind≠21∧t.kind≠22∧t.kind≠23∧t.kind≠24):t.tb.pat=false:=by
 rw[rv]
 by_cases FM:21≤t.kind
 ·have:dS t.kind=none:=by
   unfold dS;rw[if_neg (by omega),if_neg (by omega),if_neg (by omega),if_neg (by omega),if_neg (by omega),if_neg (by omega),if_neg (by omega),if_neg (by omega),if_neg (by omega),if_neg (by omega),if_neg (by omega),if_neg (by omega)]
  rw[uN this];simp
 ·rw[decide_eq_false FM];rfl
theorem ry {t:Tm}{i:Nat}(h:i<t.kids.length):TB.at_ (t.kids.map Tm.tb) i=(t.kids[i]'h).tb:=by
 unfold TB.at_;rw[List.getD_eq_getElem?_getD,List.getElem?_map,aiU h];rfl
theorem ZY {t:Tm}(hk:t.kind=9):t.tb.alt=(hasB t false 0 2&&(TB.at_ (t.kids.map Tm.tb) 0).pat&&(TB.at_ (t.kids.map Tm.tb) 1).term):=by
 rw[I8,jh (nm:=false) (a:=0) (b:=2) (by rw[hk];rfl) (by decide) (by decide) (by rw[hk];rfl) (by rw[hk];rfl),gy,hk];rfl
theorem QB {t:Tm}(hk:t.kind≠9):t.tb.alt=false:=by
 rw[I8,show(t.kind == 9)=false by simpa using hk];rfl
theorem UQ {t:Tm}:t.tb.bind=((t.kind == 11) && !(t.name == [])&&(t.n == 0)&&((t.types.length:Int) == 1)&&cn t&&((t.kids.length:Int) == 1)&&(TB.at_ (t.kids.map Tm.tb) 0).term):=by
 rw[MG]
 by_cases hk:t.kind=11
 ·rw[jI (s:=⟨true,false,false,1,1⟩) (by rw[hk];rfl)];have e11:(t.kind == 11)=true:=by rw[hk];rfl
  have e:((!(t.name == [])) == true) = !(t.name == []):=by cases t.name == []<;>rfl
  simp only[e11,e,Bool.or_false,Bool.false_or,Bool.or_true,Bool.and_false,Bool.not_false,Bool.and_true,Bool.true_and,jJ,jK,show decide ((1:Int)<0)=false from rfl]
  congr 1
  rw[Bool.and_right_comm]
 ·rw[show(t.kind == 11)=false by simpa using hk];rfl
theorem UR {t:Tm}(hk:t.kind=8):t.tb.term=(decide (2≤t.kids.length)&&hasB t false 0 t.kids.length&&(TB.at_ (t.kids.map Tm.tb) 0).term&&(t.kids.drop 1).all (fun k=>k.tb.alt)):=by
 rw[pV,if_pos hk,lf (nm:=false) (a:=0) (by rw[hk];rfl) (by decide) (by rw[hk];rfl) (by rw[hk];rfl),gy,hk,List.length_map,List.drop_one,←List.map_tail,List.all_map,←List.drop_one];show(hasB t false 0 t.kids.length&&_)=_;simp only[Bool.and_assoc];rw[Bool.and_left_comm];rfl
theorem OA {t:Tm}(hk:t.kind=10):t.tb.term=(decide (1≤t.kids.length)&&hasB t false 0 t.kids.length&&(t.kids.take (t.kids.length - 1)).all (fun k=>k.tb.bind)&&(TB.at_ (t.kids.map Tm.tb) (t.kids.length - 1)).term):=by
 rw[pV,if_neg (by omega),if_pos hk,lf (nm:=false) (a:=0) (by rw[hk];rfl) (by decide) (by rw[hk];rfl) (by rw[hk];rfl),gy,hk,List.length_map,←List.map_take,List.all_map];show(hasB t false 0 t.kids.length&&_)=_;simp only[Bool.and_assoc];rw[Bool.and_left_comm]
 congr 2
 rw[Bool.and_comm];rfl
def cv (t:Tm):Prop:=∀(w:World),aQ w t→dt t→Calls Tryz.prog 55 #[bz t] w fun e w'=>e=.returned (.bool t.tb.term)∧Ext w w'
set_option maxRecDepth 10000
set_option maxHeartbeats 8000000
theorem lg (t:Tm) (ih:∀k∈t.kids,cv k) (w:World) (h:aQ w t) (hf:dt t):Calls Tryz.prog 88 #[bz t,.int .i64 0] w fun e w'=>e=.returned (.bool (dD t))∧Ext w w':=by
 obtain⟨W,hW⟩:∃W,W=w.alloc (.cells #[.int .i64 t.kind,.int .i64 t.n,encStr t.name,.slice t.V t.vars.length t.vc,.slice t.T t.types.length t.tc,.slice t.A t.kids.length t.cap] 40):=⟨_,rfl⟩;have HW:=aa hW.symm;have X0:aiE (Ext w W):=aa (by rw[hW];exact(eR _).alloc _);have B1:aiE (av W w.heap.size t):=aa (by rw[hW];exact av.new w t);have Hk:=aa h.all;have hle:=h.hd.le;have hmx:=h.hd.max;have HI:=aa (fun k hk w' jV=>aa (ih k hk w' jV (hf.kids k hk)));have HA:aiE (dD t=t.kids.all (fun k=>k.tb.term)):=aa rfl;clear hW h ih hf;unfold bz at *;go_enter Tryz.func88,Tryz.ntmps88;go_upto_region 1 with fail;rw[HW.o];clear HW;go_wp2
 go_loopw [5] (fun i wr=>∃j:Nat,j≤t.kids.length∧i=.int .i64 j∧aiE (Ext W wr)∧aiE (∀k∈t.kids.take j,k.tb.term=true)) (fun i _=>t.kids.length - (intOf i).toNat)
 case atStart=>exact⟨0,aiH _,rfl,aa (eR _),aa (fun x hx=>by cases hx)⟩
 case round=>
  obtain⟨j,hj,rfl,HX,HJ⟩:=hrel;obtain⟨c0,c1,c2,c3,c4,c5⟩:=(B1.o.ext HX.o).cells;have n1:=(B1.o.ext HX.o).lt
  by_cases hlt:j<t.kids.length
  ·have aN:(j:Int)<(t.kids.length:Int):=by omega
   have qx:(0:Int)≤(j:Int):=by omega
   obtain⟨b,o,hA,hb,q0,q1,q2,q3,q4,q5⟩:=(Hk.o.ext (X0.o.trans HX.o)).at_ hlt;have hm:=aiF hlt;have HC:=aa (HI.o _ hm wr ((Hk.o.kids _ hm).ext (X0.o.trans HX.o))).o;have dh:aiE (t.kids.take (j+1)=t.kids.take j++[t.kids[j]'hlt]):=aa (aiJ hlt);have HN:aiE ((t.kids[j]'hlt).tb.term=false→dD t=false):=aa (fun h=>by
    rw[HA.o,Bool.eq_false_iff];intro k2;rw[aiY] at k2;rw[k2 _ hm] at h;cases h)
   rw[hA] at c5;clear hm hA;generalize t.kids[j]'hlt=c at *;generalize hR:c.tb.term=R at *;have HR:=aa hR;clear hR;go_wp2_with fail;refine HC.o.mono ?_;rintro e w3 ⟨rfl,hx3⟩;have X3:=aa (HX.o.trans hx3);clear hx3;cases R
   ·go_wp2;go_ret;exact⟨by rw[HN.o (by first|exact trivial|rfl)];rfl,X0.o.trans X3.o⟩
   ·go_wp2;go_roundw
    case rel=>exact⟨j+1,hlt,by go_num,X3,aa (fun x hx=>by
     rw[dh.o] at hx
     rcases List.mem_append.1 hx with hx|hx
     ·exact HJ.o x hx
     ·rw[aiV] at hx;subst hx;exact HR.o)⟩
    case measure=>simp[intOf];omega
  ·have bS:¬(j:Int)<(t.kids.length:Int):=by omega
   have n9:aiE (dD t=true):=aa (by
    have:=HJ.o;rw[aiK (by omega)] at this;rw[HA.o,aiY];exact this)
   go_wp2;go_ret;exact⟨by rw[n9.o];rfl,X0.o.trans HX.o⟩
theorem En (t:Tm):∀(w:World),aQ w t→Calls Tryz.prog 133 #[bz t] w fun e w'=>e=.returned (.bool t.tb.pat)∧Ext w w':=by
 induction t using Tm.ind with
 |h t ih=>
 intro w h;obtain⟨W,hW⟩:∃W,W=w.alloc (.cells #[.int .i64 t.kind,.int .i64 t.n,encStr t.name,.slice t.V t.vars.length t.vc,.slice t.T t.types.length t.tc,.slice t.A t.kids.length t.cap] 40):=⟨_,rfl⟩;have HW:=aa hW.symm;have X0:aiE (Ext w W):=aa (by rw[hW];exact(eR _).alloc _);have B1:aiE (av W w.heap.size t):=aa (by rw[hW];exact av.new w t);have Hk:=aa h.all;have hle:=h.hd.le;have hmx:=h.hd.max;have HI:=aa (fun k hk w' jV=>aa (ih k hk w' jV));have HH:=aa (fun nm n k w'=>aa (fW t nm n k w'));have ZZ:=aa (fun k w'=>aa (ru t k w'));clear hW h ih
 by_cases hk:t.kind=21
 ·have HB:=aa (UL hk);have Xk:(t.kind == 21)=true:=by rw[hk];rfl
  clear hk Hk HI hle hmx;unfold bz at *;generalize t.tb.pat=R at *;have HC:=aa (fun w'=>HH.o true 0 0 w');generalize hasB t true 0 0=R0 at *;go_enter Tryz.func133,Tryz.ntmps133;go_upto_region 1 with fail;rw[HW.o];clear HW;obtain⟨c0,c1,c2,c3,c4,c5⟩:=(B1.o.ext (eR W)).cells;have n1:=(B1.o.ext (eR W)).lt;go_wp2_with fail;refine(HC.o _).o.mono ?_;rintro e w2 ⟨rfl,hx2⟩;have X2:=aa hx2;clear hx2 c0 c1 c2 c3 c4 c5 n1;go_wp2;go_ret;exact⟨by first|(rw[HB.o];rfl)|rfl,X0.o.trans X2.o⟩
 by_cases hk:t.kind=22
 ·have HB:=aa (UM hk);have Xk:(t.kind == 21)=false:=by rw[hk];rfl
  have Z0:(t.kind == 22)=true:=by rw[hk];rfl
  clear hk Hk HI hle hmx;unfold bz at *;generalize t.tb.pat=R at *;have HC:=aa (fun w'=>HH.o false 0 0 w');generalize hasB t false 0 0=R0 at *;go_enter Tryz.func133,Tryz.ntmps133;go_upto_region 1 with fail;rw[HW.o];clear HW;obtain⟨c0,c1,c2,c3,c4,c5⟩:=(B1.o.ext (eR W)).cells;have n1:=(B1.o.ext (eR W)).lt;go_wp2_with fail;refine(HC.o _).o.mono ?_;rintro e w2 ⟨rfl,hx2⟩;have X2:=aa hx2;clear hx2 c0 c1 c2 c3 c4 c5 n1;go_wp2;go_ret;exact⟨by first|(rw[HB.o];rfl)|rfl,X0.o.trans X2.o⟩
 by_cases hk:t.kind=23
 ·have HB:=aa (UN hk);have Xk:(t.kind == 21)=false:=by rw[hk];rfl
  have Z0:(t.kind == 22)=false:=by rw[hk];rfl
  have k23:(t.kind == 23)=true:=by rw[hk];rfl
  clear hk Hk HI hle hmx;unfold bz at *;generalize t.tb.pat=R at *;have HC:=aa (fun w'=>ZZ.o 0 w');generalize lS t 0=R0 at *;go_enter Tryz.func133,Tryz.ntmps133;go_upto_region 1 with fail;rw[HW.o];clear HW;obtain⟨c0,c1,c2,c3,c4,c5⟩:=(B1.o.ext (eR W)).cells;have n1:=(B1.o.ext (eR W)).lt;go_wp2_with fail;refine(HC.o _).o.mono ?_;rintro e w2 ⟨rfl,hx2⟩;have X2:=aa hx2;clear hx2 c0 c1 c2 c3 c4 c5 n1;go_wp2;go_ret;exact⟨by first|(rw[HB.o];rfl)|rfl,X0.o.trans X2.o⟩
 by_cases hk:t.kind=24
 ·have HB:=aa (UO hk);have Xk:(t.kind == 21)=false:=by rw[hk];rfl
  have Z0:(t.kind == 22)=false:=by rw[hk];rfl
  have k23:(t.kind == 23)=false:=by rw[hk];rfl
  have k24:(t.kind == 24)=true:=by rw[hk];rfl
  have HC:=aa (fun w'=>HH.o true 0 t.kids.length w');have HN:aiE (∀(j:Nat) (hj:j<t.kids.length),(t.kids[j]'hj).tb.pat=false→t.tb.pat=false):=aa (fun j hj h=>by
   rw[HB.o];have:t.kids.all (fun k=>k.tb.pat)=false:=by
    rw[Bool.eq_false_iff];intro k2;rw[aiY] at k2;rw[k2 _ (aiF hj)] at h;cases h
   rw[this];rfl)
  have HY:aiE ((∀k∈t.kids,k.tb.pat=true)→t.tb.pat=hasB t true 0 t.kids.length):=aa (fun h=>by
   rw[HB.o,List.all_eq_true.2 h];rfl)
  clear hk HH ZZ HB;unfold bz at *;generalize t.tb.pat=R at *;generalize hasB t true 0 t.kids.length=R0 at *;go_enter Tryz.func133,Tryz.ntmps133;go_upto_region 1 with fail;rw[HW.o];clear HW;obtain⟨c0,c1,c2,c3,c4,c5⟩:=B1.o.cells;have n1:=B1.o.lt;go_wp2;clear c0 c1 c2 c3 c4 c5 n1
  go_loopw [3] (fun i wr=>∃j:Nat,j≤t.kids.length∧i=.int .i64 j∧aiE (Ext W wr)∧aiE (∀k∈t.kids.take j,k.tb.pat=true)) (fun i _=>t.kids.length - (intOf i).toNat)
  case atStart=>exact⟨0,aiH _,rfl,aa (eR _),aa (fun x hx=>by cases hx)⟩
  case round=>
   obtain⟨j,hj,rfl,HX,HJ⟩:=hrel;obtain⟨c0,c1,c2,c3,c4,c5⟩:=(B1.o.ext HX.o).cells;have n1:=(B1.o.ext HX.o).lt
   by_cases hlt:j<t.kids.length
   ·have aN:(j:Int)<(t.kids.length:Int):=by omega
    have qx:(0:Int)≤(j:Int):=by omega
    obtain⟨b,o,hA,hb,q0,q1,q2,q3,q4,q5⟩:=(Hk.o.ext (X0.o.trans HX.o)).at_ hlt;have hm:=aiF hlt;have Ch:=aa (HI.o _ hm wr ((Hk.o.kids _ hm).ext (X0.o.trans HX.o))).o;have dh:aiE (t.kids.take (j+1)=t.kids.take j++[t.kids[j]'hlt]):=aa (aiJ hlt);have BF:=aa (HN.o j hlt);rw[hA] at c5;clear hm hA;generalize t.kids[j]'hlt=c at *;generalize hR:c.tb.pat=Rc at *;have HR:=aa hR;clear hR;go_wp2_with fail;refine Ch.o.mono ?_;rintro e w3 ⟨rfl,hx3⟩;have X3:=aa (HX.o.trans hx3);clear hx3;cases Rc
    ·go_wp2;go_ret;exact⟨by rw[BF.o (by first|exact trivial|rfl)];rfl,X0.o.trans X3.o⟩
    ·go_wp2;go_roundw
     case rel=>exact⟨j+1,hlt,by go_num,X3,aa (fun x hx=>by
      rw[dh.o] at hx
      rcases List.mem_append.1 hx with hx|hx
      ·exact HJ.o x hx
      ·rw[aiV] at hx;subst hx;exact HR.o)⟩
     case measure=>simp[intOf];omega
   ·have bS:¬(j:Int)<(t.kids.length:Int):=by omega
    have n9:=aa (HY.o (by
     have:=HJ.o;rw[aiK (by omega)] at this;exact this))
    go_wp2_with fail;refine(HC.o _).o.mono ?_;rintro e w3 ⟨rfl,hx3⟩;have X3:=aa (HX.o.trans hx3);clear hx3 c0 c1 c2 c3 c4 c5 n1;go_wp2;go_ret;exact⟨by rw[n9.o];rfl,X0.o.trans X3.o⟩
 have HB:=aa (Jc (t:=t) ⟨by assumption,by assumption,by assumption,by assumption⟩);have Xk:(t.kind == 21)=false:=by simpa using ‹¬t.kind=21›
 have Z0:(t.kind == 22)=false:=by simpa using ‹¬t.kind=22›
 have k23:(t.kind == 23)=false:=by simpa using ‹¬t.kind=23›
 have k24:(t.kind == 24)=false:=by simpa using ‹¬t.kind=24›
 clear Hk HI hle hmx HH ZZ;unfold bz at *;generalize t.tb.pat=R at *;go_enter Tryz.func133,Tryz.ntmps133;go_upto_region 1 with fail;rw[HW.o];clear HW;obtain⟨c0,c1,c2,c3,c4,c5⟩:=B1.o.cells;have n1:=B1.o.lt;go_wp2;go_ret;exact⟨by rw[HB.o];rfl,X0.o⟩
set_option maxRecDepth 512
set_option maxHeartbeats 200000
theorem Jd {t:Tm}{nm:Bool}{a:Int}{b:Nat}(h:hasB t nm a b=true):t.kids.length=b:=by
 unfold hasB at h;simp only[aiT,beq_iff_eq] at h;have:=h.2;omega
set_option maxRecDepth 10000
set_option maxHeartbeats 8000000
theorem AD (t:Tm) (ih:∀k∈t.kids,cv k) (w:World) (h:aQ w t) (hf:dt t):Calls Tryz.prog 134 #[bz t] w fun e w'=>e=.returned (.bool t.tb.bind)∧Ext w w':=by
 obtain⟨W,hW⟩:∃W,W=w.alloc (.cells #[.int .i64 t.kind,.int .i64 t.n,encStr t.name,.slice t.V t.vars.length t.vc,.slice t.T t.types.length t.tc,.slice t.A t.kids.length t.cap] 40):=⟨_,rfl⟩;have HW:=aa hW.symm;have X0:aiE (Ext w W):=aa (by rw[hW];exact(eR _).alloc _);have B1:aiE (av W w.heap.size t):=aa (by rw[hW];exact av.new w t);have Hk:=aa h.all;have hle:=h.hd.le;have hmx:=h.hd.max;have HI:=aa (fun k hk w' jV=>aa (ih k hk w' jV (hf.kids k hk)));have HT:=aa (fun w' (e:Ext W w')=>aa (nL t.T t.tc t.types w' (h.hd.types.ext (X0.o.trans e)) hf.ja hf.ty));have HB:=aa (UQ (t:=t));have pR:aiE (cn t=t.types.all aV):=aa rfl;clear hW h ih hf;unfold bz at *;generalize t.tb.bind=R at *;rw[←pR.o] at HT;clear pR;generalize cn t=RT at *;cases h1:(t.kind == 11)
 case false=>
  rw[h1] at HB;go_enter Tryz.func134,Tryz.ntmps134;go_upto_region 1 with fail;rw[HW.o];obtain⟨c0,c1,c2,c3,c4,c5⟩:=B1.o.cells;have n1:=B1.o.lt;go_wp2;go_ret;exact⟨by rw[HB.o];rfl,X0.o⟩
 rw[h1] at HB;cases h2:(t.name == ([]:aj))
 case true=>
  rw[h2] at HB;go_enter Tryz.func134,Tryz.ntmps134;go_upto_region 1 with fail;rw[HW.o];obtain⟨c0,c1,c2,c3,c4,c5⟩:=B1.o.cells;have n1:=B1.o.lt;go_wp2;go_ret;exact⟨by rw[HB.o];rfl,X0.o⟩
 rw[h2] at HB;cases h3:(t.n == 0)
 case false=>
  rw[h3] at HB;go_enter Tryz.func134,Tryz.ntmps134;go_upto_region 1 with fail;rw[HW.o];obtain⟨c0,c1,c2,c3,c4,c5⟩:=B1.o.cells;have n1:=B1.o.lt;go_wp2;go_ret;exact⟨by rw[HB.o];rfl,X0.o⟩
 rw[h3] at HB;cases h4:((t.types.length:Int) == 1)
 case false=>
  rw[h4] at HB;go_enter Tryz.func134,Tryz.ntmps134;go_upto_region 1 with fail;rw[HW.o];obtain⟨c0,c1,c2,c3,c4,c5⟩:=B1.o.cells;have n1:=B1.o.lt;go_wp2;go_ret;exact⟨by rw[HB.o];rfl,X0.o⟩
 rw[h4] at HB;go_enter Tryz.func134,Tryz.ntmps134;go_upto_region 1 with fail;rw[HW.o];obtain⟨c0,c1,c2,c3,c4,c5⟩:=B1.o.cells;have n1:=B1.o.lt;go_wp2_with fail;refine(HT.o _ (eR W)).o.mono ?_;rintro e w2 ⟨rfl,hx2⟩;have X2:=aa hx2;clear hx2 c0 c1 c2 c3 c4 c5 n1 h1 h2 h3 h4;cases RT
 case false=>
  go_wp2;go_ret;exact⟨by rw[HB.o];rfl,X0.o.trans X2.o⟩
 obtain⟨c0,c1,c2,c3,c4,c5⟩:=(B1.o.ext X2.o).cells;have n1:=(B1.o.ext X2.o).lt;cases h5:((t.kids.length:Int) == 1)
 case false=>
  rw[h5] at HB;go_wp2;go_ret;exact⟨by rw[HB.o];rfl,X0.o.trans X2.o⟩
 rw[h5] at HB;have hl:0<t.kids.length:=by have:=h5;simp only[beq_iff_eq] at this;omega
 have sj:(t.kids.length:Int)=1:=by have:=h5;simpa using this
 obtain⟨b,o,hA,hb,q0,q1,q2,q3,q4,q5⟩:=(Hk.o.ext (X0.o.trans X2.o)).at_ hl;simp only[Nat.zero_mul,Nat.add_zero] at q0 q1 q2 q3 q4 q5;have hm:=aiF hl;have HC:=aa (HI.o _ hm w2 ((Hk.o.kids _ hm).ext (X0.o.trans X2.o))).o;rw[ry hl] at HB;rw[hA] at c5;have mn:(0:Int)<(t.kids.length:Int):=by omega
 clear hA hm sj;generalize t.kids[0]'hl=c at *;generalize c.tb.term=Rc at *;go_wp2_with fail;refine HC.o.mono ?_;rintro e w3 ⟨rfl,hx3⟩;have X3:=aa (X2.o.trans hx3);clear hx3 c0 c1 c2 c3 c4 c5 n1 q0 q1 q2 q3 q4 q5;go_wp2;go_ret;exact⟨by rw[HB.o];rfl,X0.o.trans X3.o⟩
theorem MH (t:Tm) (hk:t.kind=10) (ih:∀k∈t.kids,cv k∧∀k2∈k.kids,cv k2) (w:World) (h:aQ w t) (hf:dt t):Calls Tryz.prog 90 #[bz t] w fun e w'=>e=.returned (.bool t.tb.term)∧Ext w w':=by
 obtain⟨W,hW⟩:∃W,W=w.alloc (.cells #[.int .i64 t.kind,.int .i64 t.n,encStr t.name,.slice t.V t.vars.length t.vc,.slice t.T t.types.length t.tc,.slice t.A t.kids.length t.cap] 40):=⟨_,rfl⟩;have HW:=aa hW.symm;have X0:aiE (Ext w W):=aa (by rw[hW];exact(eR _).alloc _);have B1:aiE (av W w.heap.size t):=aa (by rw[hW];exact av.new w t);have Hk:=aa h.all;have hle:=h.hd.le;have hmx:=h.hd.max;have HI:=aa (fun k hk w' jV=>aa ((ih k hk).1 w' jV (hf.kids k hk)));have Sw:=aa (fun k hk w' jV=>aa (AD k (ih k hk).2 w' jV (hf.kids k hk)));have HH:=aa (fun w'=>aa (fW t false 0 t.kids.length w'));have HB:=aa (OA hk);clear hW h ih hf hk
 by_cases hL:t.kids.length=0
 ·have hl0:(t.kids.length:Int)=0:=by omega
  have hs0:(t.kids.length:Int) - 1 = -1:=by omega
  have Z2:aiE (t.tb.term=false):=aa (by rw[HB.o,hL];rfl);clear HB HH HI Sw Hk hL hl0;unfold bz at *;generalize t.tb.term=R at *;go_enter Tryz.func90,Tryz.ntmps90;go_upto_region 1 with fail;rw[HW.o];obtain⟨c0,c1,c2,c3,c4,c5⟩:=B1.o.cells;have n1:=B1.o.lt;go_wp2;go_ret;exact⟨by rw[Z2.o];rfl,X0.o⟩
 ·obtain⟨L,hL⟩:∃L,t.kids.length=L+1:=⟨t.kids.length - 1,by omega⟩;have gS:aiE (t.tb.term=(hasB t false 0 t.kids.length&&(t.kids.take L).all (fun k=>k.tb.bind)&&(TB.at_ (t.kids.map Tm.tb) L).term)):=aa (by
   have:=HB.o;rw[show decide (1≤t.kids.length)=true from decide_eq_true (by omega),show t.kids.length - 1=L by omega,Bool.true_and] at this;exact this)
  have hs0:(t.kids.length:Int) - 1=(L:Int):=by omega
  have hs1:(L:Int)+1=(t.kids.length:Int):=by omega
  have hLn:¬(L:Int)<0:=by omega
  have UT:L<t.kids.length:=by omega
  have hLm:(L:Int)<9223372036854775807:=by omega
  have HL:=aa hL;clear HB hL;unfold bz at *;generalize t.tb.term=R at *;generalize hasB t false 0 t.kids.length=R0 at *;go_enter Tryz.func90,Tryz.ntmps90;go_upto_region 1 with fail;rw[HW.o];obtain⟨c0,c1,c2,c3,c4,c5⟩:=B1.o.cells;have n1:=B1.o.lt;go_wp2_with fail;refine(HH.o _).o.mono ?_;rintro e w2 ⟨rfl,hx2⟩;have X2:=aa hx2;clear hx2 c0 c1 c2 c3 c4 c5 n1;cases R0
  case false=>
   go_wp2;go_ret;exact⟨by rw[gS.o];rfl,X0.o.trans X2.o⟩
  have kZ:aiE (∀(j:Nat) (hj:j<t.kids.length),j<L→(t.kids[j]'hj).tb.bind=false→R=false):=aa (fun j hj hjL h=>by
   rw[gS.o];have:(t.kids.take L).all (fun k=>k.tb.bind)=false:=by
    rw[Bool.eq_false_iff];intro k2;rw[aiY] at k2;have hm:(t.kids[j]'hj)∈t.kids.take L:=by
     rw[List.mem_iff_getElem];exact⟨j,by rw[List.length_take];omega,List.getElem_take⟩
    rw[k2 _ hm] at h;cases h
   rw[this];rfl)
  have Ml:aiE ((∀k∈t.kids.take L,k.tb.bind=true)→R=(t.kids[L]'UT).tb.term):=aa (fun h=>by
   rw[gS.o,List.all_eq_true.2 h,ry UT];rfl)
  clear gS HH;go_wp2
  go_loopw [4] (fun i wr=>∃j:Nat,j≤L∧i=.int .i64 j∧aiE (Ext W wr)∧aiE (∀k∈t.kids.take j,k.tb.bind=true)) (fun i _=>L - (intOf i).toNat)
  case atStart=>exact⟨0,aiH _,rfl,X2,aa (fun x hx=>by cases hx)⟩
  case round=>
   obtain⟨j,hj,rfl,HX,HJ⟩:=hrel;obtain⟨c0,c1,c2,c3,c4,c5⟩:=(B1.o.ext HX.o).cells;have n1:=(B1.o.ext HX.o).lt
   by_cases hlt:j<L
   ·have aN:(j:Int)<(L:Int):=by omega
    have qx:(0:Int)≤(j:Int):=by omega
    have zU:j<t.kids.length:=by omega
    have afw:(j:Int)<(t.kids.length:Int):=by omega
    obtain⟨b,o,hA,hb,q0,q1,q2,q3,q4,q5⟩:=(Hk.o.ext (X0.o.trans HX.o)).at_ zU;have hm:=aiF zU;have HC:=aa (Sw.o _ hm wr ((Hk.o.kids _ hm).ext (X0.o.trans HX.o))).o;have dh:aiE (t.kids.take (j+1)=t.kids.take j++[t.kids[j]'zU]):=aa (aiJ zU);have BF:=aa (kZ.o j zU hlt);rw[hA] at c5;clear hm hA;generalize t.kids[j]'zU=c at *;generalize hR:c.tb.bind=Rc at *;have HR:=aa hR;clear hR;go_wp2_with fail;refine HC.o.mono ?_;rintro e w3 ⟨rfl,hx3⟩;have X3:=aa (HX.o.trans hx3);clear hx3;cases Rc
    ·go_wp2;go_ret;exact⟨by rw[BF.o (by first|exact trivial|rfl)];rfl,X0.o.trans X3.o⟩
    ·go_wp2;go_roundw
     case rel=>exact⟨j+1,hlt,by go_num,X3,aa (fun x hx=>by
      rw[dh.o] at hx
      rcases List.mem_append.1 hx with hx|hx
      ·exact HJ.o x hx
      ·rw[aiV] at hx;subst hx;exact HR.o)⟩
     case measure=>simp[intOf];omega
   ·have bS:¬(j:Int)<(L:Int):=by omega
    have hjL:j=L:=by omega
    have n9:=aa (Ml.o (by rw[←hjL];exact HJ.o));have Y0:(0:Int)≤(L:Int):=by omega
    have hL2:(L:Int)<(t.kids.length:Int):=by omega
    obtain⟨b,o,hA,hb,q0,q1,q2,q3,q4,q5⟩:=(Hk.o.ext (X0.o.trans HX.o)).at_ UT;have hm:=aiF UT;have HC:=aa (HI.o _ hm wr ((Hk.o.kids _ hm).ext (X0.o.trans HX.o))).o;rw[hA] at c5;clear hm hA Ml kZ;generalize t.kids[L]'UT=c at *;generalize c.tb.term=Rc at *;go_wp2_with fail;refine HC.o.mono ?_;rintro e w3 ⟨rfl,hx3⟩;have X3:=aa (HX.o.trans hx3);clear hx3;go_wp2;go_ret;exact⟨by rw[n9.o];rfl,X0.o.trans X3.o⟩
theorem Je (t:Tm) (hk:t.kind=8) (ih:∀k∈t.kids,cv k∧∀k2∈k.kids,cv k2) (w:World) (h:aQ w t) (hf:dt t):Calls Tryz.prog 89 #[bz t] w fun e w'=>e=.returned (.bool t.tb.term)∧Ext w w':=by
 obtain⟨W,hW⟩:∃W,W=w.alloc (.cells #[.int .i64 t.kind,.int .i64 t.n,encStr t.name,.slice t.V t.vars.length t.vc,.slice t.T t.types.length t.tc,.slice t.A t.kids.length t.cap] 40):=⟨_,rfl⟩;have HW:=aa hW.symm;have X0:aiE (Ext w W):=aa (by rw[hW];exact(eR _).alloc _);have B1:aiE (av W w.heap.size t):=aa (by rw[hW];exact av.new w t);have Hk:=aa h.all;have hle:=h.hd.le;have hmx:=h.hd.max;have HI:=aa (fun k hk w' jV=>aa ((ih k hk).1 w' jV (hf.kids k hk)));have ky:=aa (fun k hk k2 (hk2:k2∈k.kids) w' jV=>aa ((ih k hk).2 k2 hk2 w' jV ((hf.kids k hk).kids k2 hk2)));have HP:=aa (fun k w' jV=>aa (En k w' jV));have HH:=aa (fun w'=>aa (fW t false 0 t.kids.length w'));have Z4:=aa (fun a w'=>aa (fW a false 0 (2:Nat) w'));have HB:=aa (UR hk);clear hW h ih hf hk
 by_cases h2:(t.kids.length:Int)<2
 ·have Z2:aiE (t.tb.term=false):=aa (by rw[HB.o,decide_eq_false (by omega:¬2≤t.kids.length)];rfl);clear HB HH HI ky HP Z4 Hk;unfold bz at *;generalize t.tb.term=R at *;go_enter Tryz.func89,Tryz.ntmps89;go_upto_region 1 with fail;rw[HW.o];obtain⟨c0,c1,c2,c3,c4,c5⟩:=B1.o.cells;have n1:=B1.o.lt;go_wp2;go_ret;exact⟨by rw[Z2.o];rfl,X0.o⟩
 have hl:0<t.kids.length:=by omega
 have gS:aiE (t.tb.term=(hasB t false 0 t.kids.length&&(t.kids[0]'hl).tb.term&&(t.kids.drop 1).all (fun k=>k.tb.alt))):=aa (by
  have:=HB.o;rw[decide_eq_true (by omega:2≤t.kids.length),ry hl,Bool.true_and] at this;exact this)
 clear HB;unfold bz at *;generalize t.tb.term=R at *;generalize hasB t false 0 t.kids.length=R0 at *;go_enter Tryz.func89,Tryz.ntmps89;go_upto_region 1 with fail;rw[HW.o];obtain⟨c0,c1,c2,c3,c4,c5⟩:=B1.o.cells;have n1:=B1.o.lt;go_wp2_with fail;refine(HH.o _).o.mono ?_;rintro e w2 ⟨rfl,hx2⟩;have X2:=aa hx2;clear hx2 c0 c1 c2 c3 c4 c5 n1 HH;cases R0
 case false=>
  go_wp2;go_ret;exact⟨by rw[gS.o];rfl,X0.o.trans X2.o⟩
 obtain⟨c0,c1,c2,c3,c4,c5⟩:=(B1.o.ext X2.o).cells;have n1:=(B1.o.ext X2.o).lt;obtain⟨b,o,hA,hb,q0,q1,q2,q3,q4,q5⟩:=(Hk.o.ext (X0.o.trans X2.o)).at_ hl;simp only[Nat.zero_mul,Nat.add_zero] at q0 q1 q2 q3 q4 q5;have hm:=aiF hl;have HC:=aa (HI.o _ hm w2 ((Hk.o.kids _ hm).ext (X0.o.trans X2.o))).o;have mn:(0:Int)<(t.kids.length:Int):=by omega
 have BC:=aa hA;rw[hA] at c5;clear hm hA;have kZ:aiE (∀(j:Nat) (hj:j<t.kids.length),1≤j→(t.kids[j]'hj).tb.alt=false→R=false):=aa (fun j hj h1 h=>by
  rw[gS.o];have:(t.kids.drop 1).all (fun k=>k.tb.alt)=false:=by
   rw[Bool.eq_false_iff];intro k2;rw[aiY] at k2;have hm:(t.kids[j]'hj)∈t.kids.drop 1:=by
    rw[List.mem_iff_getElem];exact⟨j - 1,by rw[List.length_drop];omega,by rw[List.getElem_drop];congr 1;omega⟩
   rw[k2 _ hm] at h;cases h
  rw[this,Bool.and_false])
 have Ml:aiE ((t.kids[0]'hl).tb.term=true→(∀k∈t.kids.drop 1,k.tb.alt=true)→R=true):=aa (fun h1 h=>by
  rw[gS.o,List.all_eq_true.2 h,h1];rfl)
 have Xl:aiE ((t.kids[0]'hl).tb.term=false→R=false):=aa (fun h=>by
  rw[gS.o,h];rfl)
 clear gS HI;generalize t.kids[0]'hl=c at *;generalize c.tb.term=Rc at *;go_wp2_with fail;refine HC.o.mono ?_;rintro e w3 ⟨rfl,hx3⟩;have X3:=aa (X2.o.trans hx3);clear hx3 c0 c1 c2 c3 c4 c5 n1 q0 q1 q2 q3 q4 q5 hb HC;cases Rc
 case false=>
  go_wp2;go_ret;exact⟨by rw[Xl.o (by first|exact trivial|rfl)];rfl,X0.o.trans X3.o⟩
 clear Xl;go_wp2
 go_loopw [3] (fun i wr=>∃j:Nat,1≤j∧j≤t.kids.length∧i=.int .i64 j∧aiE (Ext W wr)∧aiE (∀(m:Nat) (hm:m<t.kids.length),1≤m→m<j→(t.kids[m]'hm).tb.alt=true)) (fun i _=>t.kids.length - (intOf i).toNat)
 case atStart=>exact⟨1,aiG _,by omega,rfl,X3,aa (fun m hm h1 h2=>by omega)⟩
 case round=>
  obtain⟨j,hj1,hj,rfl,HX,HJ⟩:=hrel;obtain⟨c0,c1,c2,c3,c4,c5⟩:=(B1.o.ext HX.o).cells;have n1:=(B1.o.ext HX.o).lt
  by_cases hlt:j<t.kids.length
  ·have aN:(j:Int)<(t.kids.length:Int):=by omega
   have qx:(0:Int)≤(j:Int):=by omega
   obtain⟨b,o,hA,hb,q0,q1,q2,q3,q4,q5⟩:=(Hk.o.ext (X0.o.trans HX.o)).at_ hlt;have hm:=aiF hlt;have Hc:=aa ((Hk.o.kids _ hm).ext (X0.o.trans HX.o));have BF:=aa (kZ.o j hlt hj1);have Xm:=aa (ky.o _ hm);have jU:aiE ((t.kids[j]'hlt).tb.alt=true→∀(m:Nat) (hm:m<t.kids.length),1≤m→m<j+1→(t.kids[m]'hm).tb.alt=true):=aa (fun h m hm h1 h2=>by
    by_cases e:m=j
    ·subst e;exact h
    ·exact HJ.o m hm h1 (by omega))
   rw[hA] at c5;clear hm hA;generalize t.kids[j]'hlt=a at *;go_upto_region 7 with fail;refine bJ ?_;intro W7 zb;have E7:aiE (Ext wr W7):=aa (by rw[zb];exact(eR _).alloc _);have D7:aiE (av W7 wr.heap.size a):=aa (by rw[zb];exact av.new wr a);have X7:=aa (HX.o.trans E7.o);clear zb c0 c1 c2 c3 c4 c5 n1 q0 q1 q2 q3 q4 q5 hb;obtain⟨d0,d1,d2,d3,d4,d5⟩:=D7.o.cells;have n7:=D7.o.lt
   by_cases h9:a.kind=9
   ·have hne:(a.kind != 9)=false:=by simp[h9]
    have Xo:=aa (ZY h9);clear h9;have Z5:=aa (Z4.o a);have OB:aiE (hasB a false 0 ((2:Nat):Int)=true→a.kids.length=2):=aa (fun h=>Jd h);have e2:((2:Nat):Int)=2:=rfl;rw[e2] at Z5 OB;generalize a.tb.alt=Ra at *;generalize hasB a false 0 2=R1 at *;clear e2;go_wp2_with fail;refine(Z5.o _).o.mono ?_;rintro e w8 ⟨rfl,rk⟩;have E8:=aa (E7.o.trans rk);have D8:=aa (D7.o.ext rk);have X8:=aa (X7.o.trans rk);clear rk d0 d1 d2 d3 d4 d5 n7 hne Z5 E7 D7 X7;cases R1
    case false=>
     have QC:Ra=false:=by rw[Xo.o];rfl
     subst QC;go_wp2;go_ret;exact⟨by rw[BF.o (by first|exact trivial|rfl)];rfl,X0.o.trans X8.o⟩
    have ha2:=OB.o (by first|exact trivial|rfl);have ha0:0<a.kids.length:=by omega
    have ha1:1<a.kids.length:=by omega
    have ZB:(a.kids.length:Int)=2:=by omega
    have nG:=aa (Hc.o.ext E8.o).all;obtain⟨b,o,hA,hb,p0,p1,p2,p3,p4,p5⟩:=nG.o.at_ ha0;simp only[Nat.zero_mul,Nat.add_zero] at p0 p1 p2 p3 p4 p5;obtain⟨d0,d1,d2,d3,d4,d5⟩:=D8.o.cells;have n7:=D8.o.lt;rw[hA,ha2] at d5;have HPa:=aa (HP.o _ w8 (nG.o.kids _ (aiF ha0))).o;rw[ry ha0,ry ha1] at Xo;have HI4:=aa (fun w' (e:Ext w8 w')=>Xm.o _ (aiF ha1) w' ((nG.o.kids _ (aiF ha1)).ext e));have HQ1:=aa (fun w' (e:Ext w8 w')=>(nG.o.ext e).at_ ha1);have Qi:=aa hA;clear Xm hA ha2 ZB;generalize a.kids[0]'ha0=k0 at *;generalize a.kids[1]'ha1=k1 at *;generalize k0.tb.pat=R2 at *;generalize k1.tb.term=R3 at *;go_wp2_with fail;refine HPa.o.mono ?_;rintro e w9 ⟨rfl,MI⟩;have E9:=aa MI;have X9:=aa (X8.o.trans MI);have D9:=aa (D8.o.ext MI);clear MI d0 d1 d2 d3 d4 n7 p0 p1 p2 p3 p4 p5 HPa hb;cases R2
    case false=>
     have QC:Ra=false:=by rw[Xo.o];rfl
     subst QC;go_wp2;go_ret;exact⟨by rw[BF.o (by first|exact trivial|rfl)];rfl,X0.o.trans X9.o⟩
    have d5:=E9.o.cell d5;obtain⟨b2,o2,Im,hb2,p0,p1,p2,p3,p4,p5⟩:=HQ1.o w9 E9.o;rw[Qi.o] at Im;injection Im with Im;injection Im with hA3 hA4;subst hA3 hA4;have n7:=D9.o.lt;have HC4:=aa (HI4.o w9 E9.o).o;simp only[Nat.one_mul] at p0 p1 p2 p3 p4 p5;clear HQ1 Qi;go_wp2_with fail;refine HC4.o.mono ?_;rintro e Y9 ⟨rfl,vP⟩;have X10:=aa (X9.o.trans vP);clear vP p0 p1 p2 p3 p4 p5 d5 n7 hb2;have QC:Ra=R3:=by rw[Xo.o];rfl
    subst QC;cases Ra
    ·go_wp2;go_ret;exact⟨by rw[BF.o (by first|exact trivial|rfl)];rfl,X0.o.trans X10.o⟩
    ·go_wp2;go_roundw
     case rel=>exact⟨j+1,by omega,hlt,by go_num,X10,aa (jU.o (by first|exact trivial|rfl))⟩
     case measure=>simp[intOf];omega
   ·have hne:(a.kind != 9)=true:=by simpa using h9
    have QC:=aa (BF.o (QB h9));clear h9;go_wp2;go_ret;exact⟨by rw[QC.o];rfl,X0.o.trans X7.o⟩
  ·have bS:¬(j:Int)<(t.kids.length:Int):=by omega
   have n9:=aa (Ml.o (by first|exact trivial|rfl) (fun k hk=>by
    obtain⟨m,hm,rfl⟩:=List.mem_iff_getElem.1 hk;rw[List.length_drop] at hm;rw[List.getElem_drop];exact HJ.o (1+m) (by omega) (by omega) (by omega)))
   clear Ml kZ ky HP Z4;go_wp2;go_ret;exact⟨by rw[n9.o];rfl,X0.o.trans HX.o⟩
theorem MJ (t:Tm) (hk:t.kind=1) (_:∀k∈t.kids,cv k∧∀k2∈k.kids,cv k2):cv t:=by
 intro w h hf;obtain⟨W,hW⟩:∃W,W=w.alloc (.cells #[.int .i64 t.kind,.int .i64 t.n,encStr t.name,.slice t.V t.vars.length t.vc,.slice t.T t.types.length t.tc,.slice t.A t.kids.length t.cap] 40):=⟨_,rfl⟩;have HW:=aa hW.symm;have X0:aiE (Ext w W):=aa (by rw[hW];exact(eR _).alloc _);have B1:aiE (av W w.heap.size t):=aa (by rw[hW];exact av.new w t);have HB:=aa (ZR hk);have HH:=aa (fun w'=>aa (fW t true 0 0 w'));have k1:(t.kind == 1)=true:=by rw[hk];rfl
 clear hW h hf hk;unfold bz at *;generalize t.tb.term=R at *;generalize hasB t true 0 0=RH at *;go_enter Tryz.func55,Tryz.ntmps55;go_upto_region 1 with fail;rw[HW.o];clear HW;obtain⟨c0,c1,c2,c3,c4,c5⟩:=(B1.o.ext (eR W)).cells;have n1:=(B1.o.ext (eR W)).lt;go_wp2_with fail;refine(HH.o _).o.mono ?_;rintro e w2 ⟨rfl,hx2⟩;have X2:=aa hx2;clear hx2 c0 c1 c2 c3 c4 c5 n1;go_wp2;go_ret;exact⟨by first|(rw[HB.o];rfl)|rfl,X0.o.trans X2.o⟩
theorem MK (t:Tm) (hk:t.kind=2) (_:∀k∈t.kids,cv k∧∀k2∈k.kids,cv k2):cv t:=by
 intro w h hf;obtain⟨W,hW⟩:∃W,W=w.alloc (.cells #[.int .i64 t.kind,.int .i64 t.n,encStr t.name,.slice t.V t.vars.length t.vc,.slice t.T t.types.length t.tc,.slice t.A t.kids.length t.cap] 40):=⟨_,rfl⟩;have HW:=aa hW.symm;have X0:aiE (Ext w W):=aa (by rw[hW];exact(eR _).alloc _);have B1:aiE (av W w.heap.size t):=aa (by rw[hW];exact av.new w t);have HB:=aa (UI (t:=t) (.inl hk));have HH:=aa (fun w'=>aa (ru t 0 w'));have k1:(t.kind == 1)=false:=by rw[hk];rfl
 have k2:(t.kind == 2)=true:=by rw[hk];rfl
 clear hW h hf hk;unfold bz at *;generalize t.tb.term=R at *;generalize lS t 0=RH at *;go_enter Tryz.func55,Tryz.ntmps55;go_upto_region 1 with fail;rw[HW.o];clear HW;obtain⟨c0,c1,c2,c3,c4,c5⟩:=(B1.o.ext (eR W)).cells;have n1:=(B1.o.ext (eR W)).lt;go_wp2_with fail;refine(HH.o _).o.mono ?_;rintro e w2 ⟨rfl,hx2⟩;have X2:=aa hx2;clear hx2 c0 c1 c2 c3 c4 c5 n1;go_wp2;go_ret;exact⟨by first|(rw[HB.o];rfl)|rfl,X0.o.trans X2.o⟩
theorem Jf (t:Tm) (hk:t.kind=14) (_:∀k∈t.kids,cv k∧∀k2∈k.kids,cv k2):cv t:=by
 intro w h hf;obtain⟨W,hW⟩:∃W,W=w.alloc (.cells #[.int .i64 t.kind,.int .i64 t.n,encStr t.name,.slice t.V t.vars.length t.vc,.slice t.T t.types.length t.tc,.slice t.A t.kids.length t.cap] 40):=⟨_,rfl⟩;have HW:=aa hW.symm;have X0:aiE (Ext w W):=aa (by rw[hW];exact(eR _).alloc _);have B1:aiE (av W w.heap.size t):=aa (by rw[hW];exact av.new w t);have HB:=aa (UI (t:=t) (.inr hk));have HH:=aa (fun w'=>aa (ru t 0 w'));have k1:(t.kind == 1)=false:=by rw[hk];rfl
 have k2:(t.kind == 2)=false:=by rw[hk];rfl
 have Ld:(t.kind == 14)=true:=by rw[hk];rfl
 clear hW h hf hk;unfold bz at *;generalize t.tb.term=R at *;generalize lS t 0=RH at *;go_enter Tryz.func55,Tryz.ntmps55;go_upto_region 1 with fail;rw[HW.o];clear HW;obtain⟨c0,c1,c2,c3,c4,c5⟩:=(B1.o.ext (eR W)).cells;have n1:=(B1.o.ext (eR W)).lt;go_wp2_with fail;refine(HH.o _).o.mono ?_;rintro e w2 ⟨rfl,hx2⟩;have X2:=aa hx2;clear hx2 c0 c1 c2 c3 c4 c5 n1;go_wp2;go_ret;exact⟨by first|(rw[HB.o];rfl)|rfl,X0.o.trans X2.o⟩
theorem ML (t:Tm) (hk:t.kind=3) (ih:∀k∈t.kids,cv k∧∀k2∈k.kids,cv k2):cv t:=by
 intro w h hf;obtain⟨W,hW⟩:∃W,W=w.alloc (.cells #[.int .i64 t.kind,.int .i64 t.n,encStr t.name,.slice t.V t.vars.length t.vc,.slice t.T t.types.length t.tc,.slice t.A t.kids.length t.cap] 40):=⟨_,rfl⟩;have HW:=aa hW.symm;have X0:aiE (Ext w W):=aa (by rw[hW];exact(eR _).alloc _);have B1:aiE (av W w.heap.size t):=aa (by rw[hW];exact av.new w t);have HB:=aa (ZT hk);have HH:=aa (fun w'=>aa (fW t true 1 1 w'));have HT:=aa (fun w' (e:Ext W w')=>aa (nL t.T t.tc t.types w' (h.hd.types.ext (X0.o.trans e)) hf.ja hf.ty));have pR:aiE (cn t=t.types.all aV):=aa rfl;have HA:=aa (fun w' (e:Ext W w')=>aa (lg t (fun k hk=>(ih k hk).1) w' (h.ext (X0.o.trans e)) hf));have k1:(t.kind == 1)=false:=by rw[hk];rfl
 have k2:(t.kind == 2)=false:=by rw[hk];rfl
 have Ld:(t.kind == 14)=false:=by rw[hk];rfl
 have k3:(t.kind == 3)=true:=by rw[hk];rfl
 clear hW h ih hf hk;unfold bz at *;generalize t.tb.term=R at *;generalize hasB t true 1 1=RH at *;rw[←pR.o] at HT;clear pR;generalize cn t=RT at *;generalize dD t=RA at *;go_enter Tryz.func55,Tryz.ntmps55;go_upto_region 1 with fail;rw[HW.o];clear HW;obtain⟨c0,c1,c2,c3,c4,c5⟩:=(B1.o.ext (eR W)).cells;have n1:=(B1.o.ext (eR W)).lt;go_wp2_with fail;refine(HH.o _).o.mono ?_;rintro e w2 ⟨rfl,hx2⟩;have X2:=aa hx2;clear hx2 c0 c1 c2 c3 c4 c5 n1;cases RH
 case false=>
  go_wp2;go_ret;exact⟨by first|(rw[HB.o];rfl)|rfl,X0.o.trans X2.o⟩
 obtain⟨c0,c1,c2,c3,c4,c5⟩:=(B1.o.ext X2.o).cells;have n1:=(B1.o.ext X2.o).lt;go_wp2_with fail;refine(HT.o _ X2.o).o.mono ?_;rintro e w3 ⟨rfl,hx3⟩;have X3:=aa ((X2.o).trans hx3);clear hx3 c0 c1 c2 c3 c4 c5 n1;cases RT
 case false=>
  go_wp2;go_ret;exact⟨by first|(rw[HB.o];rfl)|rfl,X0.o.trans X3.o⟩
 obtain⟨c0,c1,c2,c3,c4,c5⟩:=(B1.o.ext X3.o).cells;have n1:=(B1.o.ext X3.o).lt;go_wp2_with fail;refine(HA.o _ X3.o).o.mono ?_;rintro e w4 ⟨rfl,eJ⟩;have X4:=aa ((X3.o).trans eJ);clear eJ c0 c1 c2 c3 c4 c5 n1;go_wp2;go_ret;exact⟨by first|(rw[HB.o];rfl)|rfl,X0.o.trans X4.o⟩
theorem MM (t:Tm) (hk:t.kind=4) (ih:∀k∈t.kids,cv k∧∀k2∈k.kids,cv k2):cv t:=by
 intro w h hf;obtain⟨W,hW⟩:∃W,W=w.alloc (.cells #[.int .i64 t.kind,.int .i64 t.n,encStr t.name,.slice t.V t.vars.length t.vc,.slice t.T t.types.length t.tc,.slice t.A t.kids.length t.cap] 40):=⟨_,rfl⟩;have HW:=aa hW.symm;have X0:aiE (Ext w W):=aa (by rw[hW];exact(eR _).alloc _);have B1:aiE (av W w.heap.size t):=aa (by rw[hW];exact av.new w t);have HB:=aa (ZU hk);have HH:=aa (fun w'=>aa (fW t false 0 2 w'));have HA:=aa (fun w' (e:Ext W w')=>aa (lg t (fun k hk=>(ih k hk).1) w' (h.ext (X0.o.trans e)) hf));have k1:(t.kind == 1)=false:=by rw[hk];rfl
 have k2:(t.kind == 2)=false:=by rw[hk];rfl
 have Ld:(t.kind == 14)=false:=by rw[hk];rfl
 have k3:(t.kind == 3)=false:=by rw[hk];rfl
 have k4:(t.kind == 4)=true:=by rw[hk];rfl
 clear hW h ih hf hk;unfold bz at *;generalize t.tb.term=R at *;generalize hasB t false 0 2=RH at *;generalize dD t=RA at *;go_enter Tryz.func55,Tryz.ntmps55;go_upto_region 1 with fail;rw[HW.o];clear HW;obtain⟨c0,c1,c2,c3,c4,c5⟩:=(B1.o.ext (eR W)).cells;have n1:=(B1.o.ext (eR W)).lt;go_wp2_with fail;refine(HH.o _).o.mono ?_;rintro e w2 ⟨rfl,hx2⟩;have X2:=aa hx2;clear hx2 c0 c1 c2 c3 c4 c5 n1;cases RH
 case false=>
  go_wp2;go_ret;exact⟨by first|(rw[HB.o];rfl)|rfl,X0.o.trans X2.o⟩
 obtain⟨c0,c1,c2,c3,c4,c5⟩:=(B1.o.ext X2.o).cells;have n1:=(B1.o.ext X2.o).lt;go_wp2_with fail;refine(HA.o _ X2.o).o.mono ?_;rintro e w3 ⟨rfl,hx3⟩;have X3:=aa ((X2.o).trans hx3);clear hx3 c0 c1 c2 c3 c4 c5 n1;go_wp2;go_ret;exact⟨by first|(rw[HB.o];rfl)|rfl,X0.o.trans X3.o⟩
theorem MN (t:Tm) (hk:t.kind=6) (ih:∀k∈t.kids,cv k∧∀k2∈k.kids,cv k2):cv t:=by
 intro w h hf;obtain⟨W,hW⟩:∃W,W=w.alloc (.cells #[.int .i64 t.kind,.int .i64 t.n,encStr t.name,.slice t.V t.vars.length t.vc,.slice t.T t.types.length t.tc,.slice t.A t.kids.length t.cap] 40):=⟨_,rfl⟩;have HW:=aa hW.symm;have X0:aiE (Ext w W):=aa (by rw[hW];exact(eR _).alloc _);have B1:aiE (av W w.heap.size t):=aa (by rw[hW];exact av.new w t);have HB:=aa (ZW hk);have HH:=aa (fun w'=>aa (fW t false t.types.length 1 w'));have HT:=aa (fun w' (e:Ext W w')=>aa (nL t.T t.tc t.types w' (h.hd.types.ext (X0.o.trans e)) hf.ja hf.ty));have pR:aiE (cn t=t.types.all aV):=aa rfl;have HA:=aa (fun w' (e:Ext W w')=>aa (lg t (fun k hk=>(ih k hk).1) w' (h.ext (X0.o.trans e)) hf));have k1:(t.kind == 1)=false:=by rw[hk];rfl
 have k2:(t.kind == 2)=false:=by rw[hk];rfl
 have Ld:(t.kind == 14)=false:=by rw[hk];rfl
 have k3:(t.kind == 3)=false:=by rw[hk];rfl
 have k4:(t.kind == 4)=false:=by rw[hk];rfl
 have k5:(t.kind == 5)=false:=by rw[hk];rfl
 have k6:(t.kind == 6)=true:=by rw[hk];rfl
 clear hW h ih hf hk;unfold bz at *;generalize t.tb.term=R at *;generalize hasB t false t.types.length 1=RH at *;rw[←pR.o] at HT;clear pR;generalize cn t=RT at *;generalize dD t=RA at *;go_enter Tryz.func55,Tryz.ntmps55;go_upto_region 1 with fail;rw[HW.o];clear HW;obtain⟨c0,c1,c2,c3,c4,c5⟩:=(B1.o.ext (eR W)).cells;have n1:=(B1.o.ext (eR W)).lt;go_wp2_with fail;refine(HH.o _).o.mono ?_;rintro e w2 ⟨rfl,hx2⟩;have X2:=aa hx2;clear hx2 c0 c1 c2 c3 c4 c5 n1;cases RH
 case false=>
  go_wp2;go_ret;exact⟨by first|(rw[HB.o];rfl)|rfl,X0.o.trans X2.o⟩
 obtain⟨c0,c1,c2,c3,c4,c5⟩:=(B1.o.ext X2.o).cells;have n1:=(B1.o.ext X2.o).lt;go_wp2_with fail;refine(HT.o _ X2.o).o.mono ?_;rintro e w3 ⟨rfl,hx3⟩;have X3:=aa ((X2.o).trans hx3);clear hx3 c0 c1 c2 c3 c4 c5 n1;cases RT
 case false=>
  go_wp2;go_ret;exact⟨by first|(rw[HB.o];rfl)|rfl,X0.o.trans X3.o⟩
 obtain⟨c0,c1,c2,c3,c4,c5⟩:=(B1.o.ext X3.o).cells;have n1:=(B1.o.ext X3.o).lt;go_wp2_with fail;refine(HA.o _ X3.o).o.mono ?_;rintro e w4 ⟨rfl,eJ⟩;have X4:=aa ((X3.o).trans eJ);clear eJ c0 c1 c2 c3 c4 c5 n1;go_wp2;go_ret;exact⟨by first|(rw[HB.o];rfl)|rfl,X0.o.trans X4.o⟩
theorem MO (t:Tm) (hk:t.kind=7) (_:∀k∈t.kids,cv k∧∀k2∈k.kids,cv k2):cv t:=by
 intro w h hf;obtain⟨W,hW⟩:∃W,W=w.alloc (.cells #[.int .i64 t.kind,.int .i64 t.n,encStr t.name,.slice t.V t.vars.length t.vc,.slice t.T t.types.length t.tc,.slice t.A t.kids.length t.cap] 40):=⟨_,rfl⟩;have HW:=aa hW.symm;have X0:aiE (Ext w W):=aa (by rw[hW];exact(eR _).alloc _);have B1:aiE (av W w.heap.size t):=aa (by rw[hW];exact av.new w t);have HB:=aa (ZX hk);have HH:=aa (fun w'=>aa (fW t true t.types.length 0 w'));have HT:=aa (fun w' (e:Ext W w')=>aa (nL t.T t.tc t.types w' (h.hd.types.ext (X0.o.trans e)) hf.ja hf.ty));have pR:aiE (cn t=t.types.all aV):=aa rfl;have k1:(t.kind == 1)=false:=by rw[hk];rfl
 have k2:(t.kind == 2)=false:=by rw[hk];rfl
 have Ld:(t.kind == 14)=false:=by rw[hk];rfl
 have k3:(t.kind == 3)=false:=by rw[hk];rfl
 have k4:(t.kind == 4)=false:=by rw[hk];rfl
 have k5:(t.kind == 5)=false:=by rw[hk];rfl
 have k6:(t.kind == 6)=false:=by rw[hk];rfl
 have k7:(t.kind == 7)=true:=by rw[hk];rfl
 clear hW h hf hk;unfold bz at *;generalize t.tb.term=R at *;generalize hasB t true t.types.length 0=RH at *;rw[←pR.o] at HT;clear pR;generalize cn t=RT at *;go_enter Tryz.func55,Tryz.ntmps55;go_upto_region 1 with fail;rw[HW.o];clear HW;obtain⟨c0,c1,c2,c3,c4,c5⟩:=(B1.o.ext (eR W)).cells;have n1:=(B1.o.ext (eR W)).lt;go_wp2_with fail;refine(HH.o _).o.mono ?_;rintro e w2 ⟨rfl,hx2⟩;have X2:=aa hx2;clear hx2 c0 c1 c2 c3 c4 c5 n1;cases RH
 case false=>
  go_wp2;go_ret;exact⟨by first|(rw[HB.o];rfl)|rfl,X0.o.trans X2.o⟩
 obtain⟨c0,c1,c2,c3,c4,c5⟩:=(B1.o.ext X2.o).cells;have n1:=(B1.o.ext X2.o).lt;go_wp2_with fail;refine(HT.o _ X2.o).o.mono ?_;rintro e w3 ⟨rfl,hx3⟩;have X3:=aa ((X2.o).trans hx3);clear hx3 c0 c1 c2 c3 c4 c5 n1;go_wp2;go_ret;exact⟨by first|(rw[HB.o];rfl)|rfl,X0.o.trans X3.o⟩
theorem Jg (t:Tm) (hk:t.kind=12) (ih:∀k∈t.kids,cv k∧∀k2∈k.kids,cv k2):cv t:=by
 intro w h hf;obtain⟨W,hW⟩:∃W,W=w.alloc (.cells #[.int .i64 t.kind,.int .i64 t.n,encStr t.name,.slice t.V t.vars.length t.vc,.slice t.T t.types.length t.tc,.slice t.A t.kids.length t.cap] 40):=⟨_,rfl⟩;have HW:=aa hW.symm;have X0:aiE (Ext w W):=aa (by rw[hW];exact(eR _).alloc _);have B1:aiE (av W w.heap.size t):=aa (by rw[hW];exact av.new w t);have HB:=aa (UJ hk);have HH:=aa (fun w'=>aa (fW t true 1 t.kids.length w'));have HT:=aa (fun w' (e:Ext W w')=>aa (nL t.T t.tc t.types w' (h.hd.types.ext (X0.o.trans e)) hf.ja hf.ty));have pR:aiE (cn t=t.types.all aV):=aa rfl;have HA:=aa (fun w' (e:Ext W w')=>aa (lg t (fun k hk=>(ih k hk).1) w' (h.ext (X0.o.trans e)) hf));have k1:(t.kind == 1)=false:=by rw[hk];rfl
 have k2:(t.kind == 2)=false:=by rw[hk];rfl
 have Ld:(t.kind == 14)=false:=by rw[hk];rfl
 have k3:(t.kind == 3)=false:=by rw[hk];rfl
 have k4:(t.kind == 4)=false:=by rw[hk];rfl
 have k5:(t.kind == 5)=false:=by rw[hk];rfl
 have k6:(t.kind == 6)=false:=by rw[hk];rfl
 have k7:(t.kind == 7)=false:=by rw[hk];rfl
 have k8:(t.kind == 8)=false:=by rw[hk];rfl
 have Z6:(t.kind == 10)=false:=by rw[hk];rfl
 have k12:(t.kind == 12)=true:=by rw[hk];rfl
 clear hW h ih hf hk;unfold bz at *;generalize t.tb.term=R at *;generalize hasB t true 1 t.kids.length=RH at *;rw[←pR.o] at HT;clear pR;generalize cn t=RT at *;generalize dD t=RA at *;go_enter Tryz.func55,Tryz.ntmps55;go_upto_region 1 with fail;rw[HW.o];clear HW;obtain⟨c0,c1,c2,c3,c4,c5⟩:=(B1.o.ext (eR W)).cells;have n1:=(B1.o.ext (eR W)).lt;go_wp2_with fail;refine(HH.o _).o.mono ?_;rintro e w2 ⟨rfl,hx2⟩;have X2:=aa hx2;clear hx2 c0 c1 c2 c3 c4 c5 n1;cases RH
 case false=>
  go_wp2;go_ret;exact⟨by first|(rw[HB.o];rfl)|rfl,X0.o.trans X2.o⟩
 obtain⟨c0,c1,c2,c3,c4,c5⟩:=(B1.o.ext X2.o).cells;have n1:=(B1.o.ext X2.o).lt;go_wp2_with fail;refine(HT.o _ X2.o).o.mono ?_;rintro e w3 ⟨rfl,hx3⟩;have X3:=aa ((X2.o).trans hx3);clear hx3 c0 c1 c2 c3 c4 c5 n1;cases RT
 case false=>
  go_wp2;go_ret;exact⟨by first|(rw[HB.o];rfl)|rfl,X0.o.trans X3.o⟩
 obtain⟨c0,c1,c2,c3,c4,c5⟩:=(B1.o.ext X3.o).cells;have n1:=(B1.o.ext X3.o).lt;go_wp2_with fail;refine(HA.o _ X3.o).o.mono ?_;rintro e w4 ⟨rfl,eJ⟩;have X4:=aa ((X3.o).trans eJ);clear eJ c0 c1 c2 c3 c4 c5 n1;go_wp2;go_ret;exact⟨by first|(rw[HB.o];rfl)|rfl,X0.o.trans X4.o⟩
theorem MP (t:Tm) (hk:t.kind=5) (ih:∀k∈t.kids,cv k∧∀k2∈k.kids,cv k2):cv t:=by
 intro w h hf;obtain⟨W,hW⟩:∃W,W=w.alloc (.cells #[.int .i64 t.kind,.int .i64 t.n,encStr t.name,.slice t.V t.vars.length t.vc,.slice t.T t.types.length t.tc,.slice t.A t.kids.length t.cap] 40):=⟨_,rfl⟩;have HW:=aa hW.symm;have X0:aiE (Ext w W):=aa (by rw[hW];exact(eR _).alloc _);have B1:aiE (av W w.heap.size t):=aa (by rw[hW];exact av.new w t);have HB:=aa (ZV hk);have HA:=aa (fun w' (e:Ext W w')=>aa (lg t (fun k hk=>(ih k hk).1) w' (h.ext (X0.o.trans e)) hf));have k1:(t.kind == 1)=false:=by rw[hk];rfl
 have k2:(t.kind == 2)=false:=by rw[hk];rfl
 have Ld:(t.kind == 14)=false:=by rw[hk];rfl
 have k3:(t.kind == 3)=false:=by rw[hk];rfl
 have k4:(t.kind == 4)=false:=by rw[hk];rfl
 have k5:(t.kind == 5)=true:=by rw[hk];rfl
 clear hW h ih hf hk;unfold bz at *;generalize t.tb.term=R at *;generalize dD t=RA at *;cases PG:(t.name == ([]:aj))
 case false=>
  rw[PG] at HB;go_enter Tryz.func55,Tryz.ntmps55;go_upto_region 1 with fail;rw[HW.o];clear HW;obtain⟨c0,c1,c2,c3,c4,c5⟩:=(B1.o.ext (eR W)).cells;have n1:=(B1.o.ext (eR W)).lt;go_wp2;go_ret;exact⟨by first|(rw[HB.o];rfl)|rfl,X0.o.trans (eR W)⟩
 rw[PG] at HB;cases Mx:(t.n == 0)
 case false=>
  rw[Mx] at HB;go_enter Tryz.func55,Tryz.ntmps55;go_upto_region 1 with fail;rw[HW.o];clear HW;obtain⟨c0,c1,c2,c3,c4,c5⟩:=(B1.o.ext (eR W)).cells;have n1:=(B1.o.ext (eR W)).lt;go_wp2;go_ret;exact⟨by first|(rw[HB.o];rfl)|rfl,X0.o.trans (eR W)⟩
 rw[Mx] at HB;cases hf2:((t.types.length:Int) == 0)
 case false=>
  rw[hf2] at HB;go_enter Tryz.func55,Tryz.ntmps55;go_upto_region 1 with fail;rw[HW.o];clear HW;obtain⟨c0,c1,c2,c3,c4,c5⟩:=(B1.o.ext (eR W)).cells;have n1:=(B1.o.ext (eR W)).lt;go_wp2;go_ret;exact⟨by first|(rw[HB.o];rfl)|rfl,X0.o.trans (eR W)⟩
 rw[hf2] at HB;cases hf3:((t.kids.length:Int) == 1)
 case false=>
  rw[hf3] at HB;go_enter Tryz.func55,Tryz.ntmps55;go_upto_region 1 with fail;rw[HW.o];clear HW;obtain⟨c0,c1,c2,c3,c4,c5⟩:=(B1.o.ext (eR W)).cells;have n1:=(B1.o.ext (eR W)).lt;go_wp2;go_ret;exact⟨by first|(rw[HB.o];rfl)|rfl,X0.o.trans (eR W)⟩
 rw[hf3] at HB;go_enter Tryz.func55,Tryz.ntmps55;go_upto_region 1 with fail;rw[HW.o];clear HW;obtain⟨c0,c1,c2,c3,c4,c5⟩:=(B1.o.ext (eR W)).cells;have n1:=(B1.o.ext (eR W)).lt;go_wp2_with fail;refine(HA.o _ (eR W)).o.mono ?_;rintro e w6 ⟨rfl,uz⟩;have X6:=aa (((eR W)).trans uz);clear uz c0 c1 c2 c3 c4 c5 n1;go_wp2;go_ret;exact⟨by first|(rw[HB.o];rfl)|rfl,X0.o.trans X6.o⟩
theorem Jh (t:Tm) (hk:t.kind=13) (ih:∀k∈t.kids,cv k∧∀k2∈k.kids,cv k2):cv t:=by
 intro w h hf;obtain⟨W,hW⟩:∃W,W=w.alloc (.cells #[.int .i64 t.kind,.int .i64 t.n,encStr t.name,.slice t.V t.vars.length t.vc,.slice t.T t.types.length t.tc,.slice t.A t.kids.length t.cap] 40):=⟨_,rfl⟩;have HW:=aa hW.symm;have X0:aiE (Ext w W):=aa (by rw[hW];exact(eR _).alloc _);have B1:aiE (av W w.heap.size t):=aa (by rw[hW];exact av.new w t);have HB:=aa (UK hk);have HA:=aa (fun w' (e:Ext W w')=>aa (lg t (fun k hk=>(ih k hk).1) w' (h.ext (X0.o.trans e)) hf));have HG:aiE (decide (t.n≥0)=decide ((0:Int)≤t.n)):=aa rfl;have k1:(t.kind == 1)=false:=by rw[hk];rfl
 have k2:(t.kind == 2)=false:=by rw[hk];rfl
 have Ld:(t.kind == 14)=false:=by rw[hk];rfl
 have k3:(t.kind == 3)=false:=by rw[hk];rfl
 have k4:(t.kind == 4)=false:=by rw[hk];rfl
 have k5:(t.kind == 5)=false:=by rw[hk];rfl
 have k6:(t.kind == 6)=false:=by rw[hk];rfl
 have k7:(t.kind == 7)=false:=by rw[hk];rfl
 have k8:(t.kind == 8)=false:=by rw[hk];rfl
 have Z6:(t.kind == 10)=false:=by rw[hk];rfl
 have k12:(t.kind == 12)=false:=by rw[hk];rfl
 have k13:(t.kind == 13)=true:=by rw[hk];rfl
 clear hW h ih hf hk;unfold bz at *;generalize t.tb.term=R at *;generalize dD t=RA at *;cases PG:(t.name == ([]:aj))
 case true=>
  rw[PG] at HB;go_enter Tryz.func55,Tryz.ntmps55;go_upto_region 1 with fail;rw[HW.o];clear HW;obtain⟨c0,c1,c2,c3,c4,c5⟩:=(B1.o.ext (eR W)).cells;have n1:=(B1.o.ext (eR W)).lt;go_wp2;go_ret;exact⟨by first|(rw[HB.o];rfl)|rfl,X0.o.trans (eR W)⟩
 rw[PG] at HB
 by_cases Mx:t.n≥0
 rotate_left
 focus
  rw[decide_eq_false Mx] at HB;go_enter Tryz.func55,Tryz.ntmps55;go_upto_region 1 with fail;rw[HW.o];clear HW;obtain⟨c0,c1,c2,c3,c4,c5⟩:=(B1.o.ext (eR W)).cells;have n1:=(B1.o.ext (eR W)).lt;go_wp2;go_ret;exact⟨by first|(rw[HB.o];rfl)|rfl,X0.o.trans (eR W)⟩
 rw[decide_eq_true Mx] at HB;cases hf2:((t.vars.length:Int) == 0)
 case false=>
  rw[hf2] at HB;go_enter Tryz.func55,Tryz.ntmps55;go_upto_region 1 with fail;rw[HW.o];clear HW;obtain⟨c0,c1,c2,c3,c4,c5⟩:=(B1.o.ext (eR W)).cells;have n1:=(B1.o.ext (eR W)).lt;go_wp2;go_ret;exact⟨by first|(rw[HB.o];rfl)|rfl,X0.o.trans (eR W)⟩
 rw[hf2] at HB;cases hf3:((t.types.length:Int) == 0)
 case false=>
  rw[hf3] at HB;go_enter Tryz.func55,Tryz.ntmps55;go_upto_region 1 with fail;rw[HW.o];clear HW;obtain⟨c0,c1,c2,c3,c4,c5⟩:=(B1.o.ext (eR W)).cells;have n1:=(B1.o.ext (eR W)).lt;go_wp2;go_ret;exact⟨by first|(rw[HB.o];rfl)|rfl,X0.o.trans (eR W)⟩
 rw[hf3] at HB;cases hf4:((t.kids.length:Int) == 1)
 case false=>
  rw[hf4] at HB;go_enter Tryz.func55,Tryz.ntmps55;go_upto_region 1 with fail;rw[HW.o];clear HW;obtain⟨c0,c1,c2,c3,c4,c5⟩:=(B1.o.ext (eR W)).cells;have n1:=(B1.o.ext (eR W)).lt;go_wp2;go_ret;exact⟨by first|(rw[HB.o];rfl)|rfl,X0.o.trans (eR W)⟩
 rw[hf4] at HB;go_enter Tryz.func55,Tryz.ntmps55;go_upto_region 1 with fail;rw[HW.o];clear HW;obtain⟨c0,c1,c2,c3,c4,c5⟩:=(B1.o.ext (eR W)).cells;have n1:=(B1.o.ext (eR W)).lt;go_wp2_with fail;refine(HA.o _ (eR W)).o.mono ?_;rintro e w7 ⟨rfl,uG⟩;have X7:=aa (((eR W)).trans uG);clear uG c0 c1 c2 c3 c4 c5 n1;go_wp2;go_ret;exact⟨by first|(rw[HB.o];rfl)|rfl,X0.o.trans X7.o⟩
theorem MQ (t:Tm) (hk:t.kind=8) (ih:∀k∈t.kids,cv k∧∀k2∈k.kids,cv k2):cv t:=by
 intro w h hf;obtain⟨W,hW⟩:∃W,W=w.alloc (.cells #[.int .i64 t.kind,.int .i64 t.n,encStr t.name,.slice t.V t.vars.length t.vc,.slice t.T t.types.length t.tc,.slice t.A t.kids.length t.cap] 40):=⟨_,rfl⟩;have HW:=aa hW.symm;have X0:aiE (Ext w W):=aa (by rw[hW];exact(eR _).alloc _);have B1:aiE (av W w.heap.size t):=aa (by rw[hW];exact av.new w t);have HB:=aa (UR hk);have HH:=aa (fun w' (e:Ext W w')=>aa (Je t hk ih w' (h.ext (X0.o.trans e)) hf));clear HB;have k1:(t.kind == 1)=false:=by rw[hk];rfl
 have k2:(t.kind == 2)=false:=by rw[hk];rfl
 have Ld:(t.kind == 14)=false:=by rw[hk];rfl
 have k3:(t.kind == 3)=false:=by rw[hk];rfl
 have k4:(t.kind == 4)=false:=by rw[hk];rfl
 have k5:(t.kind == 5)=false:=by rw[hk];rfl
 have k6:(t.kind == 6)=false:=by rw[hk];rfl
 have k7:(t.kind == 7)=false:=by rw[hk];rfl
 have k8:(t.kind == 8)=true:=by rw[hk];rfl
 clear hW h ih hf hk;unfold bz at *;generalize t.tb.term=R at *;have HB:aiE (R=R):=aa rfl;go_enter Tryz.func55,Tryz.ntmps55;go_upto_region 1 with fail;rw[HW.o];clear HW;obtain⟨c0,c1,c2,c3,c4,c5⟩:=(B1.o.ext (eR W)).cells;have n1:=(B1.o.ext (eR W)).lt;go_wp2_with fail;refine(HH.o _ (eR W)).o.mono ?_;rintro e w2 ⟨rfl,hx2⟩;have X2:=aa hx2;clear hx2 c0 c1 c2 c3 c4 c5 n1;go_wp2;go_ret;exact⟨by first|(rw[HB.o];rfl)|rfl,X0.o.trans X2.o⟩
theorem Ji (t:Tm) (hk:t.kind=10) (ih:∀k∈t.kids,cv k∧∀k2∈k.kids,cv k2):cv t:=by
 intro w h hf;obtain⟨W,hW⟩:∃W,W=w.alloc (.cells #[.int .i64 t.kind,.int .i64 t.n,encStr t.name,.slice t.V t.vars.length t.vc,.slice t.T t.types.length t.tc,.slice t.A t.kids.length t.cap] 40):=⟨_,rfl⟩;have HW:=aa hW.symm;have X0:aiE (Ext w W):=aa (by rw[hW];exact(eR _).alloc _);have B1:aiE (av W w.heap.size t):=aa (by rw[hW];exact av.new w t);have HB:=aa (OA hk);have HH:=aa (fun w' (e:Ext W w')=>aa (MH t hk ih w' (h.ext (X0.o.trans e)) hf));clear HB;have k1:(t.kind == 1)=false:=by rw[hk];rfl
 have k2:(t.kind == 2)=false:=by rw[hk];rfl
 have Ld:(t.kind == 14)=false:=by rw[hk];rfl
 have k3:(t.kind == 3)=false:=by rw[hk];rfl
 have k4:(t.kind == 4)=false:=by rw[hk];rfl
 have k5:(t.kind == 5)=false:=by rw[hk];rfl
 have k6:(t.kind == 6)=false:=by rw[hk];rfl
 have k7:(t.kind == 7)=false:=by rw[hk];rfl
 have k8:(t.kind == 8)=false:=by rw[hk];rfl
 have Z6:(t.kind == 10)=true:=by rw[hk];rfl
 clear hW h ih hf hk;unfold bz at *;generalize t.tb.term=R at *;have HB:aiE (R=R):=aa rfl;go_enter Tryz.func55,Tryz.ntmps55;go_upto_region 1 with fail;rw[HW.o];clear HW;obtain⟨c0,c1,c2,c3,c4,c5⟩:=(B1.o.ext (eR W)).cells;have n1:=(B1.o.ext (eR W)).lt;go_wp2_with fail;refine(HH.o _ (eR W)).o.mono ?_;rintro e w2 ⟨rfl,hx2⟩;have X2:=aa hx2;clear hx2 c0 c1 c2 c3 c4 c5 n1;go_wp2;go_ret;exact⟨by first|(rw[HB.o];rfl)|rfl,X0.o.trans X2.o⟩
theorem Jj (t:Tm) (hk:t.kind≠1∧t.kind≠2∧t.kind≠3∧t.kind≠4∧t.kind≠5∧t.kind≠6∧t.kind≠7∧t.kind≠8∧t.kind≠10∧t.kind≠12∧t.kind≠13∧t.kind≠14):cv t:=by
 intro w h hf;obtain⟨W,hW⟩:∃W,W=w.alloc (.cells #[.int .i64 t.kind,.int .i64 t.n,encStr t.name,.slice t.V t.vars.length t.vc,.slice t.T t.types.length t.tc,.slice t.A t.kids.length t.cap] 40):=⟨_,rfl⟩;have HW:=aa hW.symm;have X0:aiE (Ext w W):=aa (by rw[hW];exact(eR _).alloc _);have B1:aiE (av W w.heap.size t):=aa (by rw[hW];exact av.new w t);have HB:=aa (Jb hk);have k1:(t.kind == 1)=false:=by simpa using hk.1
 have k2:(t.kind == 2)=false:=by simpa using hk.2.1
 have Ld:(t.kind == 14)=false:=by simpa using hk.2.2.2.2.2.2.2.2.2.2.2
 have k3:(t.kind == 3)=false:=by simpa using hk.2.2.1
 have k4:(t.kind == 4)=false:=by simpa using hk.2.2.2.1
 have k5:(t.kind == 5)=false:=by simpa using hk.2.2.2.2.1
 have k6:(t.kind == 6)=false:=by simpa using hk.2.2.2.2.2.1
 have k7:(t.kind == 7)=false:=by simpa using hk.2.2.2.2.2.2.1
 have k8:(t.kind == 8)=false:=by simpa using hk.2.2.2.2.2.2.2.1
 have Z6:(t.kind == 10)=false:=by simpa using hk.2.2.2.2.2.2.2.2.1
 have k12:(t.kind == 12)=false:=by simpa using hk.2.2.2.2.2.2.2.2.2.1
 have k13:(t.kind == 13)=false:=by simpa using hk.2.2.2.2.2.2.2.2.2.2.1
 clear hW h hf hk;unfold bz at *;generalize t.tb.term=R at *;go_enter Tryz.func55,Tryz.ntmps55;go_upto_region 1 with fail;rw[HW.o];clear HW;obtain⟨c0,c1,c2,c3,c4,c5⟩:=B1.o.cells;have n1:=B1.o.lt;go_wp2;go_ret;exact⟨by rw[HB.o];rfl,X0.o⟩
set_option maxRecDepth 512
set_option maxHeartbeats 200000
theorem AE (t:Tm) (ih:∀k∈t.kids,cv k∧∀k2∈k.kids,cv k2):cv t:=by
 by_cases h1:t.kind=1
 ·exact MJ t h1 ih
 by_cases h2:t.kind=2
 ·exact MK t h2 ih
 by_cases h14:t.kind=14
 ·exact Jf t h14 ih
 by_cases h3:t.kind=3
 ·exact ML t h3 ih
 by_cases h4:t.kind=4
 ·exact MM t h4 ih
 by_cases h5:t.kind=5
 ·exact MP t h5 ih
 by_cases h6:t.kind=6
 ·exact MN t h6 ih
 by_cases h7:t.kind=7
 ·exact MO t h7 ih
 by_cases h8:t.kind=8
 ·exact MQ t h8 ih
 by_cases h10:t.kind=10
 ·exact Ji t h10 ih
 by_cases YH:t.kind=12
 ·exact Jg t YH ih
 by_cases h13:t.kind=13
 ·exact Jh t h13 ih
 exact Jj t ⟨h1,h2,h3,h4,h5,h6,h7,h8,h10,YH,h13,h14⟩
theorem MR (t:Tm):cv t∧∀k∈t.kids,cv k:=by
 induction t using Tm.ind with
 |h t ih=>exact⟨AE t ih,fun k hk=>(ih k hk).1⟩
set_option maxRecDepth 10000
set_option maxHeartbeats 8000000
theorem Eo (t:Tm) (w:World) (h:aQ w t) (hf:dt t) (hsz:t.size≤100000000):Calls Tryz.prog 30 #[bz t] w fun e w'=>e=.returned (.bool (cx t))∧Ext w w':=by
 obtain⟨W,hW⟩:∃W,W=w.alloc (.cells #[.int .i64 t.kind,.int .i64 t.n,encStr t.name,.slice t.V t.vars.length t.vc,.slice t.T t.types.length t.tc,.slice t.A t.kids.length t.cap] 40):=⟨_,rfl⟩;have HW:=aa hW.symm;have X0:aiE (Ext w W):=aa (by rw[hW];exact(eR _).alloc _);have B1:aiE (av W w.heap.size t):=aa (by rw[hW];exact av.new w t);have HS:=aa (fun w' (e:Ext W w')=>aa (I7 t w' (h.ext (X0.o.trans e)) hsz));have KG:=aa (fun w' (e:Ext W w')=>aa (AB t w' (h.ext (X0.o.trans e)) hsz));have HI:=aa (fun w' (e:Ext W w')=>aa ((MR t).1 w' (h.ext (X0.o.trans e)) hf));have HB:aiE (cx t=(decide (t.size≤4096)&&decide (t.depth≤400)&&t.tb.term)):=aa rfl;clear hW h hf hsz;unfold bz at *;generalize cx t=R at *;generalize t.size=S at *;generalize t.depth=D at *;generalize t.tb.term=RT at *;go_enter Tryz.func30,Tryz.ntmps30;go_upto_region 1 with fail;rw[HW.o];clear HW;obtain⟨c0,c1,c2,c3,c4,c5⟩:=B1.o.cells;have n1:=B1.o.lt;go_wp2_with fail;refine(HS.o _ (eR W)).o.mono ?_;rintro e w2 ⟨rfl,hx⟩;have X2:=aa hx;clear hx c0 c1 c2 c3 c4 c5 n1 HS
 by_cases h1:S≤4096
 ·have NT:(S:Int)≤4096:=by omega
  rw[decide_eq_true h1] at HB;obtain⟨c0,c1,c2,c3,c4,c5⟩:=(B1.o.ext X2.o).cells;have n1:=(B1.o.ext X2.o).lt;go_wp2_with fail;refine(KG.o _ X2.o).o.mono ?_;rintro e w3 ⟨rfl,hx⟩;have X3:=aa (X2.o.trans hx);clear hx c0 c1 c2 c3 c4 c5 n1 KG
  by_cases h2:D≤400
  ·have NU:(D:Int)≤400:=by omega
   rw[decide_eq_true h2] at HB;obtain⟨c0,c1,c2,c3,c4,c5⟩:=(B1.o.ext X3.o).cells;have n1:=(B1.o.ext X3.o).lt;go_wp2_with fail;refine(HI.o _ X3.o).o.mono ?_;rintro e w4 ⟨rfl,hx⟩;have X4:=aa (X3.o.trans hx);clear hx c0 c1 c2 c3 c4 c5 n1;go_wp2;go_ret;exact⟨by rw[HB.o];rfl,X0.o.trans X4.o⟩
  ·have NU:¬(D:Int)≤400:=by omega
   rw[decide_eq_false h2] at HB;go_wp2;go_ret;exact⟨by rw[HB.o];rfl,X0.o.trans X3.o⟩
 ·have NT:¬(S:Int)≤4096:=by omega
  rw[decide_eq_false h1] at HB;go_wp2;go_ret;exact⟨by rw[HB.o];rfl,X0.o.trans X2.o⟩
set_option maxRecDepth 512
set_option maxHeartbeats 200000
open Go.Extern Go.Stop
theorem uP (v:Value) (w:World):(Extern.ReflectliteType.typeOf #[.iface 306 v]).run Tryz.prog w=.ok (.iface 201 (.agg #[.pointer (some ⟨4,306,none⟩)])) w:=by kernel_rfl
theorem lT (w : World) : ((Extern.ReflectliteType.method fun t => do Rtype.noPackHeld "Comparable" t; (fun a => Value.bool a.comparable) <$> typeInfo t) #[.agg #[.pointer (some ⟨4, 306, none⟩)]]).run Tryz.prog w = .ok (.bool true) w := by kernel_rfl
theorem gP (v : Value) (w : World) : (Go.method 438 201 v "Comparable").run Tryz.prog w = .ok (262, v) w := by kernel_rfl
theorem Ci : (Tryz.prog.info? 306).map (·.comparable)=some true:=by kernel_rfl
theorem Cj : (Tryz.prog.info? 326).map (·.size)=some 1:=by kernel_rfl
theorem MS (v:Value) (xT:TypeId) (w:World):(Instr.typeAssert (.iface 306 v) xT 203 true).run Tryz.prog w=.ok (.tuple #[.nilIface,.bool false]) w:=run_typeAssert_lacksB Tryz.underlying203 (by kernel_rfl) (by kernel_rfl) v xT w
theorem yh (v:Value) (xT:TypeId) (w:World):(Instr.typeAssert (.iface 306 v) xT 206 true).run Tryz.prog w=.ok (.tuple #[.nilIface,.bool false]) w:=run_typeAssert_lacksB Tryz.underlying206 (by kernel_rfl) (by kernel_rfl) v xT w
theorem wC (v:Value) (xT:TypeId) (w:World):(Instr.typeAssert (.iface 306 v) xT 208 true).run Tryz.prog w=.ok (.tuple #[.nilIface,.bool false]) w:=run_typeAssert_lacksB Tryz.underlying208 (by kernel_rfl) (by kernel_rfl) v xT w
set_option maxRecDepth 10000
set_option maxHeartbeats 8000000
theorem Ck (a:Addr) (w:World) :
  Calls Tryz.prog 48 #[.iface 306 (.pointer (some a)),.iface 306 (.pointer (some a))] w fun e w'=>e=.returned (.bool true)∧w'=w:=by
 obtain⟨i,hi,QD⟩:=Option.map_eq_some_iff.1 Ci;obtain⟨j,hj,Xg⟩:=Option.map_eq_some_iff.1 Cj;have h8 := @run_callFunc_extern Tryz.prog 81 _ Extern.ReflectliteType.typeOf Tryz.func81 (by kernel_rfl) (by kernel_rfl) (by kernel_rfl) (by kernel_rfl);have h32 := @run_callFunc_extern Tryz.prog 262 _ (Extern.ReflectliteType.method fun t => do Rtype.noPackHeld "Comparable" t; pure (.bool (← typeInfo t).comparable)) Tryz.func262 (by kernel_rfl) (by kernel_rfl) (by kernel_rfl) (by kernel_rfl);have tT:=uP;have cT:=lT;have mR:=gP;have heq:=run_eql_iface_ptr_same (P:=Tryz.prog) w a Tryz.underlying77 Tryz.underlying306 hi QD hj;go_enter Tryz.func48,Tryz.ntmps48;go_wp2;refine wp_loop_rounds 1 ?_;rw[rounds_succ];go_wp2;go_ret;exact⟨rfl,rfl⟩
theorem Jk (b:Addr) (w:World) :
  Calls Tryz.prog 48 #[.nilIface,.iface 306 (.pointer (some b))] w fun e w'=>e=.returned (.bool false)∧w'=w:=by
 have hn:=run_eql_iface_nil_left (P:=Tryz.prog) w 306 (.pointer (some b)) Tryz.underlying77;go_enter Tryz.func48,Tryz.ntmps48;go_wp2;go_ret;exact⟨rfl,rfl⟩
theorem Jl (a b:Addr) (ca cb:Array Value) (ta tb:TypeId) (w:World) (hne:a≠b) (ha:w.heap[a.block]?=some (.cells ca ta (0,0))) (hb:w.heap[b.block]?=some (.cells cb tb (0,0))) :
  Calls Tryz.prog 48 #[.iface 306 (.pointer (some a)),.iface 306 (.pointer (some b))] w fun e w'=>e=.returned (.bool false)∧w'=w:=by
 obtain⟨i,hi,QD⟩:=Option.map_eq_some_iff.1 Ci;obtain⟨j,hj,Xg⟩:=Option.map_eq_some_iff.1 Cj;have h8 := @run_callFunc_extern Tryz.prog 81 _ Extern.ReflectliteType.typeOf Tryz.func81 (by kernel_rfl) (by kernel_rfl) (by kernel_rfl) (by kernel_rfl);have h32 := @run_callFunc_extern Tryz.prog 262 _ (Extern.ReflectliteType.method fun t => do Rtype.noPackHeld "Comparable" t; pure (.bool (← typeInfo t).comparable)) Tryz.func262 (by kernel_rfl) (by kernel_rfl) (by kernel_rfl) (by kernel_rfl);have tT:=uP;have cT:=lT;have mR:=gP;have nE:=MS;have uE:=yh;have vE:=wC;have heq:=run_eql_iface_ptr_other (P:=Tryz.prog) w Tryz.underlying77 Tryz.underlying306 hi QD hj (by rw[Xg];decide) hne ha hb;go_enter Tryz.func48,Tryz.ntmps48;go_wp2;refine wp_loop_rounds 1 ?_;rw[rounds_succ];go_wp2;go_ret;exact⟨rfl,rfl⟩
set_option maxRecDepth 512
set_option maxHeartbeats 200000
structure jL (w:World) (a0 a1:Addr):Prop where
 v0:w.cell? ⟨0,0,none⟩=some (.iface 306 (.pointer (some a0)))
 v1:w.cell? ⟨1,0,none⟩=some (.iface 306 (.pointer (some a1)))
 ne:a0≠a1
 b0:∃c t,w.heap[a0.block]?=some (.cells c t (0,0))
 b1:∃c t,w.heap[a1.block]?=some (.cells c t (0,0))
theorem jL.ext {w w':World}{a0 a1:Addr}(h:jL w a0 a1) (e:Ext w w'):jL w' a0 a1:=by
 obtain⟨c0,t0,h0⟩:=h.b0;obtain⟨c1,t1,h1⟩:=h.b1;exact⟨e.cell h.v0,e.cell h.v1,h.ne,⟨c0,t0,(e.heap (ae h0)).trans h0⟩,⟨c1,t1,(e.heap (ae h1)).trans h1⟩⟩
set_option maxRecDepth 10000
set_option maxHeartbeats 8000000
theorem tk (a0 a1:Addr) (w:World) (h:jL w a0 a1):Calls Tryz.prog 27 #[.iface 306 (.pointer (some a0))] w fun e w'=>e=.returned (.int .i64 1)∧w'=w:=by
 have g0:=h.v0;go_enter Tryz.func27,Tryz.ntmps27;go_wp2_with fail;refine(Ck a0 _).mono ?_;rintro e w2 ⟨rfl,rfl⟩;go_wp2;go_ret;exact⟨rfl,rfl⟩
theorem rz (a0 a1:Addr) (w:World) (h:jL w a0 a1):Calls Tryz.prog 27 #[.iface 306 (.pointer (some a1))] w fun e w'=>e=.returned (.int .i64 2)∧w'=w:=by
 have g0:=h.v0;have g1:=h.v1;obtain⟨c0,t0,b0⟩:=h.b0;obtain⟨c1,t1,b1⟩:=h.b1;have hne:a1≠a0:=fun e=>h.ne e.symm
 go_enter Tryz.func27,Tryz.ntmps27;go_wp2_with fail;refine(Jl a1 a0 _ _ _ _ _ hne b1 b0).mono ?_;rintro e w2 ⟨rfl,rfl⟩;go_wp2_with fail;refine(Ck a1 _).mono ?_;rintro e w2 ⟨rfl,rfl⟩;go_wp2;go_ret;exact⟨rfl,rfl⟩
theorem yi (a0 a1:Addr) (w:World) (h:jL w a0 a1):Calls Tryz.prog 27 #[.nilIface] w fun e w'=>e=.returned (.int .i64 0)∧w'=w:=by
 have g0:=h.v0;have g1:=h.v1;go_enter Tryz.func27,Tryz.ntmps27;go_wp2_with fail;refine(Jk a0 _).mono ?_;rintro e w2 ⟨rfl,rfl⟩;go_wp2_with fail;refine(Jk a1 _).mono ?_;rintro e w2 ⟨rfl,rfl⟩;go_wp2;go_ret;exact⟨rfl,rfl⟩
set_option maxRecDepth 512
set_option maxHeartbeats 200000
end Go.Proofs.YtigafbmabjglfaaGreatDoor
