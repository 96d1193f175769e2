import Derived.Test.YtigafbmabjglfaaGreatDoorJT23
namespace Go.Proofs.YtigafbmabjglfaaGreatDoor
open Go.RowKit
structure Sz where
 named:Bool
 counted:Bool
 Ga:Bool
 types:Int
 kids:Int
def dw (k:Int):Option Sz:=
 if k=1∨k=21 then some ⟨true,false,false,0,0⟩
 else if k=2∨k=14∨k=23 then some ⟨false,true,false,0,0⟩
 else if k=22 then some ⟨false,false,false,0,0⟩
 else if k=3∨k=11 then some ⟨true,false,false,1,1⟩
 else if k=4∨k=9 then some ⟨false,false,false,0,2⟩
 else if k=5 then some ⟨false,false,false,0,1⟩
 else if k=6 then some ⟨false,false,false,-1,1⟩
 else if k=7 then some ⟨true,false,false,-1,0⟩
 else if k=8∨k=10 then some ⟨false,false,false,0,-1⟩
 else if k=12 then some ⟨true,false,false,1,-1⟩
 else if k=13 then some ⟨true,true,true,0,1⟩
 else if k=24 then some ⟨true,false,false,0,-1⟩
 else none
def lR (k n:Int) (named:Bool) (vs iD kids:Nat):Bool:=
 match dw k with
 |none=>false
 |some s=>(named == s.named)&&((n == 0)||s.counted) && !(decide (n<0)&&s.Ga)&&(decide (vs=0)||k == 5||k == 11)&&(decide (s.types<0)||decide ((iD:Int)=s.types))&&(decide (s.kids<0)||decide ((kids:Int)=s.kids))
noncomputable def bo (t:Tm):Bool:=lR t.kind t.n (!(t.name == [])) t.vars.length t.types.length t.kids.length&&t.types.all aQ
structure TB where
 term:Bool
 pat:Bool
 alt:Bool
 bind:Bool
def TB.at_ (l:List TB) (i:Nat):TB:=l.getD i ⟨false,false,false,false⟩
def TB.lS (k:Int) (f:Bool) (l:List TB):Bool:=
 (!decide (21≤k) && !(k == 9) && !(k == 11)&&f) &&
  (if k=8 then decide (2≤l.length)&&(TB.at_ l 0).term&&(l.drop 1).all (·.alt) else if k=10 then decide (1≤l.length)&&(TB.at_ l (l.length - 1)).term&&(l.take (l.length - 1)).all (·.bind) else l.all (·.term))
def TB.of (k:Int) (f:Bool) (l:List TB):TB:=
 ⟨TB.lS k f l,decide (21≤k)&&f&&l.all (·.pat),(k == 9)&&f&&(TB.at_ l 0).pat&&(TB.at_ l 1).term,(k == 11)&&f&&(TB.at_ l 0).term⟩
noncomputable def Tm.tb : Tm→TB:=Tm.fold fun t l=>TB.of t.kind (bo t) l
theorem iP (t:Tm):t.tb=TB.of t.kind (bo t) (t.kids.map Tm.tb):=by unfold Tm.tb;rw[Tm.fold_eq]
noncomputable def cj (t:Tm):Bool:=decide (t.size≤4096)&&decide (t.depth≤400)&&t.tb.term
theorem iQ {α β γ:Type}{l:List α}{m:List β}(f:α→γ) (g:β→γ) (hl:l.length=m.length) (h:∀i (h1:i<l.length) (h2:i<m.length),f (l[i]'h1)=g (m[i]'h2)):l.map f=m.map g:=by
 refine List.ext_getElem (by simp[hl]) (fun i h1 h2 => ?_);rw[List.getElem_map,List.getElem_map];exact h i _ _
theorem sX {t:Tm}{d:Sz}(hk:dw t.kind=some d) (h:bo t=true) (hd:0≤d.kids):(t.kids.length:Int)=d.kids:=by
 unfold bo lR at h;rw[hk] at h;simp only[ahv,Bool.or_eq_true,decide_eq_true_eq] at h;have:=h.1.2;omega
theorem SB (v:Int) (w:World):Calls Tryz.prog 216 #[.int .i64 v] w fun e w'=>e=.returned (bh (.mk [] v none 0 []))∧Ext w w':=by
 go_enter Tryz.func216,Tryz.ntmps216;go_wp2;refine bodyPost_ret (v:=bh (.mk [] v none 0 [])) ?_ rfl ⟨rfl,(by repeat(first|exact eR _|exact eA (by assumption) _|refine eA ?_ _|refine eM ?_ _ _|refine eD ?_|refine eN ?_ _))⟩;simp[results,Tryz.f216,bh,Ty.aq,Ty.var,Ty.A,Ty.args,Ty.cap,go_sem]
open Go.Sort
def wL (k:Nat):List Value:=(List.replicate k Ty.zero).flatMap cA.f
theorem sY (k:Nat):wL (k+1)=wL k++[.string ⟨#[]⟩,.int .i64 0,.slice none 0 0]:=by
 unfold wL;rw[List.replicate_succ',List.flatMap_append];rfl
def nT (t:Ty) (A:Option Addr) (c:Nat):Ty:=.mk t.aq t.var A c (List.replicate t.args.length Ty.zero)
theorem wM (t:Ty) (A:Option Addr) (c:Nat) (h:t.args.length<4096):az (nT t A c)=bH t.aq t.var t.args.length:=by
 have e:(nT t A c).size=(iI t 0).size:=by
  rw[Ty.size_eq,Ty.size_eq];show((List.replicate t.args.length Ty.zero).map Ty.size).sum+1=((List.replicate (min t.args.length 4095) Ty.zero).map Ty.size).sum+1;rw[show min t.args.length 4095=t.args.length by omega]
 have e2:(nT t A c).depth=(iI t 0).depth:=by
  rw[Ty.aN,Ty.aN];show((List.replicate t.args.length Ty.zero).map Ty.depth).foldr max 0+1=((List.replicate (min t.args.length 4095) Ty.zero).map Ty.depth).foldr max 0+1;rw[show min t.args.length 4095=t.args.length by omega]
 have e3:bE (nT t A c)=bE (iI t 0):=by
  rw[cL,cL];show(bH t.aq t.var (List.replicate t.args.length Ty.zero).length&&(List.replicate t.args.length Ty.zero).all bE)=(bH t.aq t.var (List.replicate (min t.args.length 4095) Ty.zero).length&&(List.replicate (min t.args.length 4095) Ty.zero).all bE);rw[show min t.args.length 4095=t.args.length by omega]
 have:=pQ t 0;unfold az at this ⊢;rw[e,e2,e3];exact this
theorem yT (t:Ty) (A:Option Addr) (c:Nat):(nT t A c).size=t.args.length+1:=by
 rw[Ty.size_eq];show((List.replicate t.args.length Ty.zero).map Ty.size).sum+1=_;rw[List.map_replicate,List.sum_replicate_nat,ny];omega
noncomputable def gI : Ty→Bool:=Ty.oY fun t=>cN t||decide (4096≤t.args.length)||bH t.aq t.var t.args.length
theorem sZ (t:Ty):gI t=((cN t||decide (4096≤t.args.length)||bH t.aq t.var t.args.length)&&t.args.all gI):=fX _ t
theorem Gb (t:Ty) (h:t.size≤4096):gI t=cH t:=by
 induction t using Ty.ind with
 |h t ih=>
 rw[sZ,iJ];have h1:=Ty.gq t;have h2:decide (4096≤t.args.length)=false:=by simp;omega
 rw[h2,Bool.or_false]
 congr 1
 rw[Bool.eq_iff_iff,ahA,ahA];exact⟨fun k x hx=>by rw[←ih x hx (by have:=Ty.bG hx;omega)];exact k x hx,fun k x hx=>by rw[ih x hx (by have:=Ty.bG hx;omega)];exact k x hx⟩
set_option maxRecDepth 10000
set_option maxHeartbeats 8000000
theorem Cu (t:Ty):∀(w:World),aC w t→t.size≤90000 →
  Calls Tryz.prog 183 #[bh t] w fun e w'=>e=.returned (.bool (gI t))∧Ext w w':=by
 induction t using Ty.ind with
 |h t ih=>
 intro w h hsz;have IH:=aa ih;have Hk:=aa h.all;have hle:=h.le;have hmx:=h.max;have fj:=aa (aP.new w t);have X0:ahg (Ext w (w.alloc (.cells #[encStr t.aq,.int .i64 t.var,.slice t.A t.args.length t.cap] 53))):=aa ((eR w).alloc _);obtain⟨i0,hi,hz0,hz1,hz2⟩:=info_parts ub;have HP:=aa (sZ t);have uW:=h.txt;have Xr:=Ty.gq t;have jV:=aa (fun k (hk:k∈t.args)=>Ty.bG hk);have sx:=aa (fun w' (e:Ext w w')=>aa (BD t w' (h.ext e)));unfold eY at sx;generalize gI t=R at *;generalize lp t=au at *;generalize lq t=cu at *;clear ih h;unfold bh at *;go_enter Tryz.func183,Tryz.ntmps183;go_wp2;generalize (w.alloc (.cells #[encStr t.aq,.int .i64 t.var,.slice t.A t.args.length t.cap] 53))=w0 at *
 go_loopw [3] (fun i wr=>∃k:Nat,k≤t.args.length∧i=.int .i64 k∧ahg (∀x∈t.args.take k,gI x=true)∧ahg (Ext w0 wr)) (fun i _=>t.args.length - (intOf i).toNat)
 case atStart=>exact⟨0,ahj _,rfl,aa (by simp),aa (eR _)⟩
 case round=>
  obtain⟨k,hk,rfl,HA,HX⟩:=hrel;have HB:=aa (fj.o.ext HX.o);have hc2:=HB.o.c2
  by_cases hlt:k<t.args.length
  ·have aS:(k:Int)<(t.args.length:Int):=by omega
   have dy:(0:Int)≤(k:Int):=by omega
   obtain⟨b,o,hA,hb,q0,q1,q2⟩:=(Hk.o.ext (X0.o.trans HX.o)).at_ hlt;have cv:=ahh hlt;have cS:ahg (t.args.take (k+1)=t.args.take k++[t.args[k]'hlt]):=aa (ahl hlt);have mj:=aa (ahh hlt);have hcs:=jV.o _ cv;have HC:=aa (IH.o _ cv wr ((Hk.o.args _ cv).ext (X0.o.trans HX.o)) (by omega));rw[hA] at hc2;clear hA cv;clear hcs;generalize t.args[k]'hlt=c at *;cases hs:gI c
   ·rw[hs] at HC;have hR:R=false:=by
     rw[HP.o,Bool.and_eq_false_iff]
     right
     rw[←Bool.not_eq_true,ahA];intro h;rw[h _ mj.o] at hs;cases hs
    clear HP;subst hR;go_wp2_with fail;refine HC.o.mono ?_;rintro e w3 ⟨rfl,hx3⟩;have X3:=aa (HX.o.trans hx3);clear hx3;go_wp2;go_ret;exact⟨rfl,X0.o.trans X3.o⟩
   ·rw[hs] at HC;go_wp2_with fail;refine HC.o.mono ?_;rintro e w3 ⟨rfl,hx3⟩;have X3:=aa (HX.o.trans hx3);clear hx3;go_wp2;go_roundw
    case rel=>
     refine⟨k+1,hlt,by go_num,aa (fun x hx => ?_),X3⟩;rw[cS.o,List.mem_append,ahx] at hx
     rcases hx with hx|rfl
     ·exact HA.o x hx
     ·exact hs
    case measure=>simp[intOf];omega
  ·have bU:¬(k:Int)<(t.args.length:Int):=by omega
   have HR:ahg (R=(cN t||decide (4096≤t.args.length)||bH t.aq t.var t.args.length)):=aa (by
    rw[HP.o];have:t.args.all gI=true:=List.all_eq_true.2 (fun x hx=>HA.o x (by rw[ahm (by omega)];exact hx));rw[this,Bool.and_true])
   clear HP HA;have hc0:=HB.o.c0;have hc1:=HB.o.c1;cases Sm:cN t
   rotate_left 1
   ·rw[Sm] at sx HR;have hR:R=true:=by rw[HR.o];rfl
    clear HR;subst hR;go_wp2_with fail;refine(sx.o _ (X0.o.trans HX.o)).o.mono ?_;rintro e w3 ⟨rfl,hx3⟩;have X3:=aa (HX.o.trans hx3);clear hx3;go_wp2;go_ret;exact⟨rfl,(X0.o.trans X3.o).alloc _⟩
   ·rw[Sm] at sx HR;go_wp2_with fail;refine(sx.o _ (X0.o.trans HX.o)).o.mono ?_;rintro e w3 ⟨rfl,hx3⟩;have X3:=aa (HX.o.trans hx3);have qW:=aa (HB.o.ext hx3);have d0:=qW.o.c0;have d1:=qW.o.c1;have rC:w.heap.size<w3.heap.size:=qW.o.lt;clear hx3 hc0 hc1 hc2;obtain⟨wb,SC⟩:∃wb,wb=(w3.alloc (.cells #[.string ⟨au.aq.toArray⟩,.int .i64 au.var,.slice au.A au.args.length au.cap] 53)).alloc (.cells #[.string ⟨t.aq.toArray⟩,.int .i64 t.var,.slice none 0 0] 53):=⟨_,rfl⟩;have Je:wb.heap.size=w3.heap.size+1+1:=by rw[SC];simp
    have XB:ahg (Ext w3 wb):=aa (by rw[SC];exact((eR _).alloc _).alloc _);have XC:ahg (Ext w wb):=aa (X0.o.trans (X3.o.trans XB.o));have BB:ahg (aP wb w.heap.size t):=aa (qW.o.ext XB.o);obtain⟨pu,XI⟩:∃pu,pu=w3.heap.size+1:=⟨_,rfl⟩;have UB:ahg (wb.heap[pu]?=some (.cells #[encStr t.aq,.int .i64 t.var,.slice none 0 0] 53 (0,0))):=aa (by rw[SC];exact ah _ _ _ (by simp[XI]));have hpl:pu<wb.heap.size:=by omega
    have hpw:w.heap.size<pu:=by omega
    have O0:ahg (wb.ownsRow wb.heap.size 53 3 (.slice none 0 0) 0 (wL 0)):=aa (World.ownsRow_nil _ _ _ _);have T0:ahg (Tr pu wb (.slice none 0 0) wb (.slice none 0 0)):=aa (Tr.refl _ _ _);go_upto_region 11 with fail;rw[←SC];rw[←XI];clear SC Je d0 d1 rC XI XB
    go_loopw [8] (fun i wr=>∃(k:Nat) (v:Value),k≤t.args.length∧i=.int .i64 k∧ahg (wr.heap[pu]?=some (.cells #[encStr t.aq,.int .i64 t.var,v] 53 (0,0)))∧ahg (wr.ownsRow wb.heap.size 53 3 v k (wL k))∧ahg (Tr pu wb (.slice none 0 0) wr v)) (fun i _=>t.args.length - (intOf i).toNat)
    case atStart=>exact⟨0,.slice none 0 0,ahj _,rfl,UB,O0,T0⟩
    case round=>
     rename World=>wr2
     obtain⟨j,v,hj,rfl,HU,HO,HT⟩:=hrel;have BR:=aa (BB.o.tr HT.o (by omega) (fun e=>by cases e));have b2:=BR.o.c2;have J7:=ae HU.o;have PY:v.ownBlock≠some pu:=fun e=>by have:=(HO.o.lt pu e).1;omega
     by_cases fS:j<t.args.length
     ·have QI:(j:Int)<(t.args.length:Int):=by omega
      have xJ:=af HU.o 2;simp only[ahp,ahq,ahr] at xJ;have Rm:(wr2.drew).cell? ⟨pu,2,none⟩=some v:=xJ;go_wp2;refine lM 6 7 #[false,false,false,false,false,false,false] (fun w'=>w'.cell? ⟨pu,2,none⟩=some v) (by kernel_rfl) (by kernel_rfl) (by kernel_rfl) ?_
      (refine bI (i:=0) (v := ?_) rfl (by kernel_rfl) (by kernel_rfl) (by kernel_rfl) (by kernel_rfl) (fun _ _ _ h=>h) (Or.inl ⟨by kernel_rfl,?_⟩) (by assumption) ?_;rotate_left 1;(focus (intro w hSw;(try dsimp only at hSw);(try obtain⟨g1,g2,g3⟩:=hSw);(try obtain⟨g1,g2⟩:=hSw);go_simp;try with_reducible rfl));simp only[Act.put,ahs,aht,ahu])
      (refine bI (i:=1) (v := ?_) rfl (by kernel_rfl) (by kernel_rfl) (by kernel_rfl) (by kernel_rfl) (fun _ _ _ h=>h) (Or.inl ⟨by kernel_rfl,?_⟩) (by assumption) ?_;rotate_left 1;(focus (intro w hSw;(try dsimp only at hSw);(try obtain⟨g1,g2,g3⟩:=hSw);(try obtain⟨g1,g2⟩:=hSw);go_simp;try with_reducible rfl));simp only[Act.put,ahs,aht,ahu])
      refine bT (i:=2) (by kernel_rfl) rfl (fun KK hK => ?_)
      go_simp
      refine Calls.mono (SB 0 _) ?_;rintro e w8 ⟨rfl,qi⟩;have X8:ahg (Ext wr2 w8):=aa (((eR wr2).drew).trans qi);have XJ:w8.cell? ⟨pu,2,none⟩=some v:=X8.o.cell xJ;clear qi;refine hK.out _ _ (fun _=>XJ) ?_;clear hK KK;simp only[ahs,aht,ahu];refine bT (i:=3) (by kernel_rfl) rfl (fun KK hK => ?_)
      go_simp
      refine hK.out _ _ (fun _=>((eR w8).alloc _).cell XJ) ?_;clear hK KK;simp only[ahs,aht,ahu];refine bT (i:=4) (by kernel_rfl) rfl (fun KK hK => ?_);refine aI _ rfl (.tmp 43) (.tmp 45) 31 rfl wb.heap.size 53 i0 _ 3 48 Tryz.underlying31 hi hz0 hz1 hz2 rfl (by decide) v j (wL j) rfl (bk HO.o (X8.o.alloc _)) (some ⟨w8.heap.size,0,none⟩) 1 1 [.string ⟨#[]⟩,.int .i64 0,.slice none 0 0] rfl (ak.block cA [Ty.zero] (ah _ _ _ rfl)) ?_ (by unfold maxLen;omega) (by omega) (by have:=HT.o.size;have:=X8.o.size;simp;omega) ?_
      ·intro y hy;simp at hy
       rcases hy with rfl|rfl|rfl<;>rfl
      intro v9 w9 Gc BP SD;have Gd:w9.ownsRow wb.heap.size 53 3 v9 (List.replicate (j+1) Ty.zero).length ((List.replicate (j+1) Ty.zero).flatMap cA.f):=by
       rw[List.length_replicate];have:=sY j;unfold wL at this;rw[this];exact Gc
      obtain⟨A9,Ad,SE,-⟩:=ak.own cA Gd;rw[List.length_replicate] at SE;subst SE;clear Gd;have X9:Ext wr2 (w8.alloc (.cells #[.string ⟨#[]⟩,.int .i64 0,.slice none 0 0] 53)):=X8.o.alloc _;have Vh:w9.heap[pu]?=some (.cells #[encStr t.aq,.int .i64 t.var,v] 53 (0,0)):=(BP.block pu (Nat.lt_of_lt_of_le J7 X9.size) (fun e=>PY e.symm)).trans ((X9.heap J7).trans HU.o);have XL:w9.cell? ⟨pu,2,none⟩=some v:=af Vh 2;have hf9:w9.frozen? ⟨pu,2,none⟩=false:=ai Vh 2;have HP9:ahg ((w9.setCell ⟨pu,2,none⟩ (.slice A9 (j+1) Ad)).heap[pu]?=some (.cells #[encStr t.aq,.int .i64 t.var,.slice A9 (j+1) Ad] 53 (0,0))):=aa (by have:=aw Vh 2 (.slice A9 (j+1) Ad);simpa using this);have T9:ahg (Tr pu wb (.slice none 0 0) (w9.setCell ⟨pu,2,none⟩ (.slice A9 (j+1) Ad)) (.slice A9 (j+1) Ad)):=aa (HT.o.trans ⟨BP.os.trans X9.below.os,BP.tape.trans X9.below.tape,BP.output.trans X9.below.output,by rw[show(w9.setCell ⟨pu,2,none⟩ (.slice A9 (j+1) Ad)).heap.size=w9.heap.size by simp[World.setCell]];exact aho X9.size BP.size,
       fun k hk Vi hkv=>(Below.heap_setCell w9 ⟨pu,2,none⟩ (.slice A9 (j+1) Ad) k Vi).trans ((BP.block k (Nat.lt_of_lt_of_le hk X9.size) (fun e=>hkv e.symm)).trans (X9.heap hk)),
       by
        rcases SD with h1|h1
        ·exact .inl h1
        ·exact .inr (fun k hk=>by rw[h1] at hk;injection hk with hk;rw[←hk];exact X9.size)⟩)
      have O9:ahg ((w9.setCell ⟨pu,2,none⟩ (.slice A9 (j+1) Ad)).ownsRow wb.heap.size 53 3 (.slice A9 (j+1) Ad) (j+1) (wL (j+1))):=aa (by
       have h5:=ownsRow_setCell_below (a:=⟨pu,2,none⟩) Gc hpl (.slice A9 (j+1) Ad);rw[sY];exact h5)
      clear Gc BP SD X9 Vh;refine hK.out _ _ (fun _=>XL) ?_;clear hK KK;simp only[ahs,aht,ahu];refine bT (i:=5) (by kernel_rfl) rfl (fun KK hK => ?_)
      go_simp
      refine hK.out _ _ (fun _=>XL) ?_;clear hK KK;simp only[ahs,aht,ahu];refine bT (i:=6) (by kernel_rfl) rfl (fun KK hK => ?_)
      go_simp
      refine hK.out _ _ (fun h=>absurd rfl h) ?_;clear hK KK;simp only[ahs,aht,ahu];refine pS (by kernel_rfl) ?_ _;clear Rm XJ XL hf9 xJ;go_wp2;go_roundw
      case rel=>exact⟨j+1,.slice A9 (j+1) Ad,fS,by go_num,HP9,O9,T9⟩
      case measure=>simp[intOf];omega
     ·have VW:¬(j:Int)<(t.args.length:Int):=by omega
      have hjt:j=t.args.length:=by omega
      subst hjt;have XW:ahg (Ext w wr2):=aa (Ext.cg (XC.o.below.trans (HT.o.below XC.o.size (by omega) (fun k e=>by cases e))) (ahi _));have kh:wr2.ownsRow wb.heap.size 53 3 v (List.replicate t.args.length Ty.zero).length ((List.replicate t.args.length Ty.zero).flatMap cA.f):=by
       rw[List.length_replicate];exact HO.o
      obtain⟨A9,Ad,SE,SF,SG,MQ,-⟩:=ak.own cA kh;clear kh;rw[List.length_replicate] at SE;subst SE;have SH:aC wr2 (nT t A9 Ad):=aC.of SF SG uW MQ (fun k hk=>by rw[(List.mem_replicate.1 hk).2];exact aC.zero _);have HG:=aa (gi (nT t A9 Ad) wr2 SH);rw[yT] at HG;have Qo:=af HU.o 0;have Cn:=af HU.o 1;have xJ:=af HU.o 2;simp only[ahp,ahq,ahr] at Qo Cn xJ;clear SH MQ SF SG HO HT BR PY J7 sx jV;cases h4:decide (4096≤t.args.length)
      ·have hlen:decide ((t.args.length:Int)≥4096)=false:=decide_eq_false (by have:=of_decide_eq_false h4;omega);have hR:R=bH t.aq t.var t.args.length:=by rw[HR.o,h4];rfl
       have vh:=aa (HG.o (by omega));rw[wM _ _ _ (by have:=of_decide_eq_false h4;omega),←hR] at vh;simp only[bh,nT,Ty.aq,Ty.var,Ty.A,Ty.cap,Ty.args,List.length_replicate] at vh;clear HG HR h4 hR;go_wp2_with fail;refine vh.o.mono ?_;rintro e w4 ⟨rfl,eP⟩;have X4:=aa (XW.o.trans eP);clear eP;go_wp2;go_ret;exact⟨rfl,X4.o⟩
      ·have hlen:decide ((t.args.length:Int)≥4096)=true:=decide_eq_true (by have:=of_decide_eq_true h4;omega);have hR:R=true:=by rw[HR.o,h4];rfl
       subst hR;clear HG HR h4;go_wp2;go_ret;exact⟨rfl,XW.o⟩
set_option maxRecDepth 512
set_option maxHeartbeats 200000
theorem Cv (t:Ty):aQ t=(decide (t.size≤4096)&&decide (t.depth≤100)&&gI t):=by
 unfold aQ
 by_cases h:t.size≤4096
 ·rw[Gb t h]
 ·rw[show decide (t.size≤4096)=false by simpa using h];rfl
set_option maxRecDepth 10000
set_option maxHeartbeats 8000000
theorem Cw (t:Ty) (w:World) (h:aC w t) (hsz:t.size≤90000):Calls Tryz.prog 132 #[bh t] w fun e w'=>e=.returned (.bool (aQ t))∧Ext w w':=by
 have HB:=aa (aP.new w t);have X0:ahg (Ext w (w.alloc (.cells #[encStr t.aq,.int .i64 t.var,.slice t.A t.args.length t.cap] 53))):=aa ((eR w).alloc _);have H1:=aa (fun w' (e:Ext w w')=>aa (py t w' (h.ext e) (by omega)));have H2:=aa (fun w' (e:Ext w w')=>aa (rX t w' (h.ext e) (by omega)));have H3:=aa (fun w' (e:Ext w w')=>aa (Cu t w' (h.ext e) hsz));have HL:ahg (aQ t=(decide (t.size≤4096)&&decide (t.depth≤100)&&gI t)):=aa (Cv t);clear h;generalize aQ t=R at *;generalize gI t=Q at *;unfold bh at *;have Ej:decide ((t.size:Int)≤4096)=decide (t.size≤4096):=by rw[Bool.eq_iff_iff];simp;omega
 have I4:decide ((t.depth:Int)≤100)=decide (t.depth≤100):=by rw[Bool.eq_iff_iff];simp;omega
 generalize t.size=sz at *;generalize t.depth=dp at *;cases h1:decide (sz≤4096)
 ·rw[h1] at HL Ej;have hR:R=false:=by rw[HL.o];rfl
  clear HL h1 I4 hsz;subst hR;go_enter Tryz.func132,Tryz.ntmps132;go_wp2_with fail;refine(H1.o _ X0.o).o.mono ?_;rintro e w2 ⟨rfl,hx2⟩;go_wp2;go_ret;exact⟨rfl,X0.o.trans hx2⟩
 ·rw[h1] at HL Ej;cases h2:decide (dp≤100)
  ·rw[h2] at HL I4;have hR:R=false:=by rw[HL.o];rfl
   clear HL h1 h2 hsz;subst hR;go_enter Tryz.func132,Tryz.ntmps132;go_wp2_with fail;refine(H1.o _ X0.o).o.mono ?_;rintro e w2 ⟨rfl,hx2⟩;have X2:=aa (X0.o.trans hx2);have B2:=aa (HB.o.ext hx2);have c0:=B2.o.c0;have c1:=B2.o.c1;have c2:=B2.o.c2;clear hx2;go_wp2_with fail;refine(H2.o _ X2.o).o.mono ?_;rintro e w3 ⟨rfl,hx3⟩;go_wp2;go_ret;exact⟨rfl,X2.o.trans hx3⟩
  ·rw[h2] at HL I4;have hR:R=Q:=by rw[HL.o];rfl
   clear HL h1 h2 hsz;subst hR;go_enter Tryz.func132,Tryz.ntmps132;go_wp2_with fail;refine(H1.o _ X0.o).o.mono ?_;rintro e w2 ⟨rfl,hx2⟩;have X2:=aa (X0.o.trans hx2);have B2:=aa (HB.o.ext hx2);have c0:=B2.o.c0;have c1:=B2.o.c1;have c2:=B2.o.c2;clear hx2;go_wp2_with fail;refine(H2.o _ X2.o).o.mono ?_;rintro e w3 ⟨rfl,hx3⟩;have X3:=aa (X2.o.trans hx3);have B3:=aa (B2.o.ext hx3);have d0:=B3.o.c0;have d1:=B3.o.c1;have d2:=B3.o.c2;clear hx3 c0 c1 c2;go_wp2_with fail;refine(H3.o _ X3.o).o.mono ?_;rintro e w4 ⟨rfl,eP⟩;go_wp2;go_ret;exact⟨rfl,X3.o.trans eP⟩
set_option maxRecDepth 512
set_option maxHeartbeats 200000
open Go.Shelf
set_option maxRecDepth 10000
set_option maxHeartbeats 8000000
theorem Ge (f:FuncId) (lb:Array Value) (ef:eU f) (p:Tm→Bool) (A:Option Addr) (cap:Nat) (l:List Tm) (w:World) (h:bK w A l) (hl:l.length≤1000000) (hp:∀w',Ext w w'→∀x∈l,Calls Tryz.prog f (#[bl x]++lb) w' fun e w''=>e=.returned (.bool (p x))∧Ext w' w'') :
  Calls Tryz.prog 157 #[.slice A l.length cap,.func (.func f) #[] lb] w fun e w'=>(∃i:Int,e=.returned (.int .i64 i)∧(0≤i↔l.any p=true))∧Ext w w':=by
 have HL:=aa h;have HP:=aa hp;unfold eU at ef;clear h hp;obtain⟨R,hR⟩:∃R,R=l.any p:=⟨_,rfl⟩;have HR:=aa hR;rw[←hR];clear hR;go_enter Tryz.func157,Tryz.ntmps157;go_wp2
 go_loopw [8] (fun i wr=>∃k:Nat,k≤l.length∧i=.int .i64 k∧ahg ((l.take k).any p=false)∧ahg (Ext w wr)) (fun i _=>l.length - (intOf i).toNat)
 case atStart=>exact⟨0,ahj _,rfl,aa (by simp),aa (eR _)⟩
 case round=>
  obtain⟨k,hk,rfl,HA,HX⟩:=hrel
  by_cases hlt:k<l.length
  ·have aS:(k:Int)<(l.length:Int):=by omega
   have dy:(0:Int)≤(k:Int):=by omega
   obtain⟨b,o,rfl,hb,q0,q1,q2,q3,q4,q5⟩:=(HL.o.ext HX.o).at_ hlt;have hm:=ahh hlt;have HC:=aa (HP.o wr HX.o _ hm);have cS:ahg (l.take (k+1)=l.take k++[l[k]'hlt]):=aa (ahl hlt);have Hm:=aa hm;clear hm;unfold bl at HC;generalize l[k]'hlt=x at *;cases hb:p x
   ·rw[hb] at HC;have Hb:=aa hb;clear hb;go_wp2_with fail;refine HC.o.mono ?_;rintro e w3 ⟨rfl,hx⟩;have X3:=aa (HX.o.trans hx);clear hx;go_wp2;go_roundw
    case rel=>exact⟨k+1,hlt,by go_num,aa (by rw[cS.o,List.any_append,HA.o];simpa using Hb.o),X3⟩
    case measure=>simp[intOf];omega
   ·rw[hb] at HC;have HN:ahg (R=true):=aa (by rw[HR.o,List.any_eq_true];exact⟨x,Hm.o,hb⟩);clear hb;go_wp2_with fail;refine HC.o.mono ?_;rintro e w3 ⟨rfl,hx⟩;go_wp2;go_ret;exact⟨⟨(k:Int),rfl,by rw[HN.o];simp⟩,HX.o.trans hx⟩
  ·have bU:¬(k:Int)<(l.length:Int):=by omega
   have HN:ahg (R=false):=aa (by rw[HR.o];have:=HA.o;rwa [ahm (by omega)] at this);go_wp2;go_ret;exact⟨⟨-1,rfl,by rw[HN.o];simp⟩,HX.o⟩
theorem uB (f:FuncId) (lb:Array Value) (ef:eU f) (p:Tm→Bool) (A:Option Addr) (cap:Nat) (l:List Tm) (w:World) (h:bK w A l) (hl:l.length≤1000000) (hp:∀w',Ext w w'→∀x∈l,Calls Tryz.prog f (#[bl x]++lb) w' fun e w''=>e=.returned (.bool (p x))∧Ext w' w'') :
  Calls Tryz.prog 108 #[.slice A l.length cap,.func (.func f) #[] lb] w fun e w'=>e=.returned (.bool (l.any p))∧Ext w w':=by
 have HI:=aa (Ge f lb ef p A cap l w h hl hp);clear h hp;generalize l.any p=R at *;go_enter Tryz.func108,Tryz.ntmps108;go_wp2_with fail;refine HI.o.mono ?_;rintro e w2 ⟨⟨i,rfl,hi⟩,hx⟩;have HR:ahg (decide ((0:Int)≤i)=R):=aa (by cases R<;>simp_all);have X:=aa hx;clear hi hx;go_wp2;go_ret;exact⟨by first|rfl|(rw[←HR.o];rfl),X.o⟩
set_option maxRecDepth 512
set_option maxHeartbeats 200000
def XM (d:Sz):Value:=.agg #[.bool d.named,.bool d.counted,.bool d.Ga,.int .i64 d.types,.int .i64 d.kids]
def lT (o:Option Sz):Value:=match o with
 |some d=>.tuple #[XM d,.bool true]
 |none=>.tuple #[.agg #[.bool false,.bool false,.bool false,.int .i64 0,.int .i64 0],.bool false]
set_option maxRecDepth 10000
set_option maxHeartbeats 8000000
theorem Gf (k:Int) (w:World):Calls Tryz.prog 154 #[.int .i64 k] w fun e w'=>e=.returned (lT (dw k))∧Ext w w':=by
 by_cases h:(1≤k∧k≤14)∨(21≤k∧k≤24)
 ·have:k=1∨k=2∨k=3∨k=4∨k=5∨k=6∨k=7∨k=8∨k=9∨k=10∨k=11∨k=12∨k=13∨k=14∨k=21∨k=22∨k=23∨k=24:=by omega
  clear h
  rcases this with rfl|rfl|rfl|rfl|rfl|rfl|rfl|rfl|rfl|rfl|rfl|rfl|rfl|rfl|rfl|rfl|rfl|rfl
  all_goals
   go_enter Tryz.func154,Tryz.ntmps154;go_wp2;refine bodyPost_ret (v:=lT (dw _)) ?_ rfl ⟨rfl,(by repeat(first|exact eR _|exact eA (by assumption) _|refine eA ?_ _|refine eM ?_ _ _|refine eD ?_|refine eN ?_ _))⟩;simp[results,Tryz.f154,lT,dw,XM,go_sem]
 ·have hn:dw k=none:=by
   unfold dw;simp only[show ¬(k=1∨k=21) by omega,show ¬(k=2∨k=14∨k=23) by omega,show ¬k=22 by omega,show ¬(k=3∨k=11) by omega,show ¬(k=4∨k=9) by omega,show ¬k=5 by omega,show ¬k=6 by omega,show ¬k=7 by omega,show ¬(k=8∨k=10) by omega,show ¬k=12 by omega,show ¬k=13 by omega,show ¬k=24 by omega,if_false]
  rw[hn];clear hn;have e1:(k == 1)=false:=by simp;omega
  have e2:(k == 2)=false:=by simp;omega
  have e3:(k == 3)=false:=by simp;omega
  have e4:(k == 4)=false:=by simp;omega
  have e5:(k == 5)=false:=by simp;omega
  have e6:(k == 6)=false:=by simp;omega
  have e7:(k == 7)=false:=by simp;omega
  have e8:(k == 8)=false:=by simp;omega
  have e9:(k == 9)=false:=by simp;omega
  have e10:(k == 10)=false:=by simp;omega
  have e11:(k == 11)=false:=by simp;omega
  have e12:(k == 12)=false:=by simp;omega
  have e13:(k == 13)=false:=by simp;omega
  have e14:(k == 14)=false:=by simp;omega
  have e21:(k == 21)=false:=by simp;omega
  have e22:(k == 22)=false:=by simp;omega
  have e23:(k == 23)=false:=by simp;omega
  have e24:(k == 24)=false:=by simp;omega
  clear h;go_enter Tryz.func154,Tryz.ntmps154;go_wp2;refine bodyPost_ret (v:=lT none) ?_ rfl ⟨rfl,(by repeat(first|exact eR _|exact eA (by assumption) _|refine eA ?_ _|refine eM ?_ _ _|refine eD ?_|refine eN ?_ _))⟩;simp[results,Tryz.f154,lT,go_sem]
set_option maxRecDepth 512
set_option maxHeartbeats 200000
theorem uC : eU 156:=enters_of Tryz.func156 (by kernel_rfl) rfl
theorem KQ (t:Ty) (w:World) (h:aC w t) (hsz:t.size≤90000):Calls Tryz.prog 156 #[bh t] w fun e w'=>e=.returned (.bool (!aQ t))∧Ext w w':=by
 have X0:ahg (Ext w (w.alloc (.cells #[encStr t.aq,.int .i64 t.var,.slice t.A t.args.length t.cap] 53))):=aa ((eR w).alloc _);have HL:=aa (fun w' (e:Ext w w')=>aa (Ab t w' (h.ext e) hsz));clear h;generalize aQ t=R at *;unfold bh at *;go_enter Tryz.func156,Tryz.ntmps156;go_wp2_with fail;refine(HL.o _ X0.o).o.mono ?_;rintro e w2 ⟨rfl,hx⟩;go_wp2;go_ret;exact⟨rfl,X0.o.trans hx⟩
set_option maxRecDepth 10000
set_option maxHeartbeats 8000000
theorem jr (t:Tm) (w:World) (h:aM w t) (hsz:∀x∈t.types,x.size≤90000) (oH:t.types.length≤1000000):Calls Tryz.prog 107 #[bl t] w fun e w'=>e=.returned (.bool (bo t))∧Ext w w':=by
 obtain⟨W,hW⟩:∃W,W=w.alloc (.cells #[.int .i64 t.kind,.int .i64 t.n,encStr t.name,.slice t.V t.vars.length t.vc,.slice t.T t.types.length t.tc,.slice t.A t.kids.length t.cap] 40):=⟨_,rfl⟩;have HW:=aa hW.symm;have X0:ahg (Ext w W):=aa (by rw[hW];exact(eR _).alloc _);have B1:ahg (av W w.heap.size t):=aa (by rw[hW];exact av.new w t);have rk:W.heap.size=w.heap.size+1:=by rw[hW];simp
 have HS:=aa (fun w'=>aa (Gf t.kind w'));have HT:=aa (fun w' (e:Ext w w')=>aa (Et 156 #[] uC (fun x => !aQ x) t.T t.tc t.types w' (h.hd.types.ext e) oH (fun w'' e2 x hx=>KQ x w'' ((h.hd.types.args x hx).ext (e.trans e2)) (hsz x hx))));have XO:ahg ((t.types.any fun x => !aQ x) = !(t.types.all aQ)):=aa (by rw[←List.not_all_eq_any_not]);have nr:=h.hd.le;have cv:=h.hd.max;have nc:=h.hd.Uw;have hvm:=h.hd.JO;have HF:ahg (bo t=(lR t.kind t.n (!(t.name == [])) t.vars.length t.types.length t.kids.length&&t.types.all aQ)):=aa rfl;clear h hsz hW;generalize bo t=R at *;rw[XO.o] at HT;generalize t.types.all aQ=RL at *;obtain⟨c0,c1,c2,c3,c4,c5⟩:=B1.o.cells;unfold bl at *;unfold lR at HF;go_enter Tryz.func107,Tryz.ntmps107;go_upto_region 1 with fail;rw[HW.o];go_wp2_with fail;refine(HS.o _).o.mono ?_;rintro e w2 ⟨rfl,hx⟩;have X2:=aa hx;clear hx;cases hd:dw t.kind with
 |none=>
  rw[hd] at HF;have HR:=HF.o;simp only at HR;subst HR;unfold lT;go_wp2;go_ret;exact⟨rfl,X0.o.trans (X2.o.trans (by repeat(first|exact eR _|exact eA (by assumption) _|refine eA ?_ _|refine eM ?_ _ _|refine eD ?_|refine eN ?_ _)))⟩
 |some d=>
  obtain⟨nm,ct,f0,ty,kd⟩:=d;rw[hd] at HF;simp only at HF;unfold lT XM;go_upto_region 2 with fail;obtain⟨W3,hW3⟩:∃W3,W3=w2.alloc (.cells #[.bool nm,.bool ct,.bool f0,.int .i64 ty,.int .i64 kd] 230):=⟨_,rfl⟩;have hb3:W3.heap[w2.heap.size]?=some (.cells #[.bool nm,.bool ct,.bool f0,.int .i64 ty,.int .i64 kd] 230 (0,0)):=by rw[hW3];exact ah _ _ _ rfl
  have X3:ahg (Ext W W3):=aa (by rw[hW3];exact X2.o.alloc _);rw[←hW3];clear hW3 c0 c1 c2 c3 c4 c5;obtain⟨c0,c1,c2,c3,c4,c5⟩:=(B1.o.ext X3.o).cells;have e0:=af hb3 0;have e1:=af hb3 1;have e2:=af hb3 2;have e3:=af hb3 3;have e4:=af hb3 4;simp only[ahp,ahq,ahr] at e0 e1 e2 e3 e4;clear hb3;obtain⟨D,hD⟩:∃D,D=((!(t.name == [])) == nm&&(t.n == 0||ct) && !(decide (t.n<0)&&f0)):=⟨_,rfl⟩;have HD:=aa hD;clear hD
  go_cut [39] (fun s39 wx=>s39=.bool (!D)∧W3=wx)
  case first=>
   cases hn:(t.name == ([]:aj))<;>cases nm
   case true.true=>
    have hD:D=false:=by rw[HD.o,hn];rfl
    subst hD;go_wp2_with fail;go_meet;exact⟨rfl,rfl⟩
   case false.false=>
    have hD:D=false:=by rw[HD.o,hn];rfl
    subst hD;go_wp2_with fail;go_meet;exact⟨rfl,rfl⟩
   all_goals
    cases h0:(t.n != 0)
    rotate_left
    ·have I1:(t.n == 0)=false:=by simpa using h0
     cases ct
     ·have hD:D=false:=by rw[HD.o,hn,I1];rfl
      subst hD;clear I1;go_wp2_with fail;go_meet;exact⟨rfl,rfl⟩
     ·by_cases uD:t.n<0
      ·have hD:D = !f0:=by rw[HD.o,hn,I1];simp[uD]
       subst hD;clear I1;go_wp2_with fail;go_meet;exact⟨by simp,rfl⟩
      ·have hD:D=true:=by rw[HD.o,hn,I1];simp[uD]
       subst hD;clear I1;go_wp2_with fail;go_meet;exact⟨rfl,rfl⟩
    ·have I1:(t.n == 0)=true:=by simpa using h0
     have uD:¬t.n<0:=by simp at h0;omega
     have hD:D=true:=by rw[HD.o,hn,I1];simp[uD]
     subst hD;clear I1;go_wp2_with fail;go_meet;exact⟨rfl,rfl⟩
  case rest=>
   obtain⟨rfl,rfl⟩:=hcut;rw[show((!(t.name == [])) == nm&&(t.n == 0||ct) && !(decide (t.n<0)&&f0))=D from HD.o.symm] at HF;clear HD;cases D
   ·have HR:=HF.o;simp only[Bool.false_and] at HR;subst HR;go_wp2;go_ret;exact⟨rfl,X0.o.trans X3.o⟩
   go_upto_region 4 with fail;obtain⟨D2,hD2⟩:∃D2,D2=(decide (t.vars.length=0)||t.kind == 5||t.kind == 11):=⟨_,rfl⟩;have qT:=aa hD2;clear hD2
   go_cut [53] (fun s53 wx=>s53=.bool (!D2)∧W3=wx)
   case first=>
    by_cases hv:t.vars.length=0
    ·have hv2:¬(t.vars.length:Int)>0:=by omega
     have hD:D2=true:=by rw[qT.o,hv];rfl
     subst hD;clear hv;go_wp2_with fail;go_meet;exact⟨rfl,rfl⟩
    ·have hv2:(t.vars.length:Int)>0:=by omega
     have KA:ahg (D2=(t.kind == 5||t.kind == 11)):=aa (by rw[qT.o];simp[hv]);clear hv;cases h5:(t.kind != 5)
     ·have hD:D2=true:=by rw[KA.o];simp at h5;simp[h5]
      subst hD;go_wp2_with fail;go_meet;exact⟨rfl,rfl⟩
     ·cases h11:(t.kind != 11)
      ·have hD:D2=true:=by rw[KA.o];simp at h11;simp[h11]
       subst hD;go_wp2_with fail;go_meet;exact⟨rfl,rfl⟩
      ·have hD:D2=false:=by rw[KA.o];simp at h5 h11;simp[h5,h11]
       subst hD;go_wp2_with fail;go_meet;exact⟨rfl,rfl⟩
   case rest=>
    obtain⟨rfl,rfl⟩:=hcut;rw[←qT.o] at HF;clear qT;cases D2
    ·have HR:=HF.o;simp only[Bool.and_false,Bool.false_and] at HR;subst HR;go_wp2;go_ret;exact⟨rfl,X0.o.trans X3.o⟩
    go_upto_region 6 with fail;obtain⟨D3,MR⟩:∃D3,D3=((decide (ty<0)||decide ((t.types.length:Int)=ty))&&(decide (kd<0)||decide ((t.kids.length:Int)=kd))):=⟨_,rfl⟩;have KS:=aa MR;clear MR
    go_cut [77] (fun s77 wx=>s77=.bool (!D3)∧W3=wx)
    case first=>
     by_cases ht:ty≥0
     ·cases h1:((t.types.length:Int) != ty)
      ·by_cases hk:kd≥0
       ·cases h2:((t.kids.length:Int) != kd)
        ·have hD:D3=true:=by rw[KS.o];simp at h1 h2;simp[h1,h2]
         subst hD;go_wp2_with fail;go_meet;exact⟨rfl,rfl⟩
        ·have hD:D3=false:=by rw[KS.o];simp at h2;simp[h2];omega
         subst hD;go_wp2_with fail;go_meet;exact⟨rfl,rfl⟩
       ·have hD:D3=true:=by rw[KS.o];simp at h1;simp[h1];omega
        subst hD;go_wp2_with fail;go_meet;exact⟨rfl,rfl⟩
      ·have hD:D3=false:=by rw[KS.o];simp at h1;simp[h1];omega
       subst hD;go_wp2_with fail;go_meet;exact⟨rfl,rfl⟩
     ·by_cases hk:kd≥0
      ·cases h2:((t.kids.length:Int) != kd)
       ·have hD:D3=true:=by rw[KS.o];simp at h2;simp[h2];omega
        subst hD;go_wp2_with fail;go_meet;exact⟨rfl,rfl⟩
       ·have hD:D3=false:=by rw[KS.o];simp at h2;simp[h2];omega
        subst hD;go_wp2_with fail;go_meet;exact⟨rfl,rfl⟩
      ·have hD:D3=true:=by rw[KS.o];simp;omega
       subst hD;go_wp2_with fail;go_meet;exact⟨rfl,rfl⟩
    case rest=>
     obtain⟨rfl,rfl⟩:=hcut;have HR:ahg (R=(D3&&RL)):=aa (by rw[HF.o,KS.o];simp only[Bool.true_and,Bool.and_assoc]);clear HF KS;cases D3
     ·have HR:=HR.o;simp only[Bool.false_and] at HR;subst HR;go_wp2;go_ret;exact⟨rfl,X0.o.trans X3.o⟩
     have HR:=HR.o;simp only[Bool.true_and] at HR;subst HR;go_wp2_with fail;refine(HT.o _ (X0.o.trans X3.o)).o.mono ?_;rintro e w5 ⟨rfl,hx⟩;go_wp2;go_ret;exact⟨rfl,X0.o.trans (X3.o.trans hx)⟩
set_option maxRecDepth 512
set_option maxHeartbeats 200000
inductive cY : Tm→Prop
 |mk {t:Tm}(iD:t.types.length≤10000) (ty:∀x∈t.types,x.size≤90000) (kl:t.kids.length≤1000000) (vl:t.vars.length≤10000) (kids:∀k∈t.kids,cY k):cY t
theorem cY.SI {t:Tm}(h:cY t):t.types.length≤10000:=by cases h;assumption
theorem cY.iD {t:Tm}(h:cY t):t.types.length≤1000000:=aho h.SI (by decide)
theorem cY.ty {t:Tm}(h:cY t):∀x∈t.types,x.size≤90000:=by cases h;assumption
theorem cY.kl {t:Tm}(h:cY t):t.kids.length≤1000000:=by cases h;assumption
theorem cY.vl {t:Tm}(h:cY t):t.vars.length≤10000:=by cases h;assumption
theorem cY.kids {t:Tm}(h:cY t):∀k∈t.kids,cY k:=by cases h;assumption
def lx (f:FuncId) (p:Tm→Bool) (t:Tm):Prop:=∀w,aM w t→cY t→Calls Tryz.prog f #[bl t] w fun e w'=>e=.returned (.bool (p t))∧Ext w w'
theorem rH : eU 158:=enters_of Tryz.func158 (by kernel_rfl) rfl
theorem Gg (t:Tm) (h:lx 110 (fun t=>t.tb.pat) t):lx 158 (fun t => !t.tb.pat) t:=by
 intro w ht hf;have X0:ahg (Ext w (w.alloc (.cells #[.int .i64 t.kind,.int .i64 t.n,encStr t.name,.slice t.V t.vars.length t.vc,.slice t.T t.types.length t.tc,.slice t.A t.kids.length t.cap] 40))):=aa ((eR w).alloc _);have HL:=aa (h _ (ht.ext X0.o) hf);clear h ht hf;dsimp only at *;generalize t.tb.pat=R at *;unfold bl at *;go_enter Tryz.func158,Tryz.ntmps158;go_wp2_with fail;refine HL.o.mono ?_;rintro e w2 ⟨rfl,hx⟩;go_wp2;go_ret;exact⟨rfl,X0.o.trans hx⟩
set_option maxRecDepth 10000
set_option maxHeartbeats 8000000
theorem KT (t:Tm):lx 110 (fun t=>t.tb.pat) t:=by
 induction t using Tm.ind with
 |h t ih=>
 intro w ht hf;have X0:ahg (Ext w (w.alloc (.cells #[.int .i64 t.kind,.int .i64 t.n,encStr t.name,.slice t.V t.vars.length t.vc,.slice t.T t.types.length t.tc,.slice t.A t.kids.length t.cap] 40))):=aa ((eR w).alloc _);have HF:=aa (fun w' (e:Ext w w')=>aa (jr t w' (ht.ext e) hf.ty hf.iD));have HA:=aa (fun w' (e:Ext w w')=>aa (uB 158 #[] rH (fun k => !k.tb.pat) t.A t.cap t.kids w' (ht.all.ext e) hf.kl (fun w'' e2 x hx=>Gg x (ih x hx) w'' ((ht.all.kids x hx).ext (e.trans e2)) (hf.kids x hx))));have B1:ahg (av (w.alloc (.cells #[.int .i64 t.kind,.int .i64 t.n,encStr t.name,.slice t.V t.vars.length t.vc,.slice t.T t.types.length t.tc,.slice t.A t.kids.length t.cap] 40)) w.heap.size t):=aa (av.new w t);have HR:ahg (t.tb.pat=(decide (21≤t.kind)&&bo t&&(t.kids.all fun k=>k.tb.pat))):=aa (by rw[iP];show(_&&_&&(t.kids.map Tm.tb).all (·.pat))=_;rw[List.all_map];rfl);have xY:(t.kids.any fun k => !k.tb.pat) = !(t.kids.all fun k=>k.tb.pat):=by rw[←List.not_all_eq_any_not]
 rw[xY] at HA;have nr:=ht.hd.le;have cv:=ht.hd.max;clear ih ht hf xY;dsimp only;generalize t.tb.pat=R at *;generalize bo t=RF at *;generalize (t.kids.all fun k=>k.tb.pat)=RK at *;obtain⟨c0,-,-,-,-,-⟩:=B1.o.cells;unfold bl at *
 by_cases hk:t.kind≥21
 ·have hR:=HR.o;have Kd:21≤t.kind:=hk;rw[decide_eq_true Kd,Bool.true_and] at hR;clear Kd;subst hR;go_enter Tryz.func110,Tryz.ntmps110;go_wp2_with fail;refine(HF.o _ X0.o).o.mono ?_;rintro e w2 ⟨rfl,hx⟩;have X2:=aa hx;obtain⟨-,-,-,-,-,d5⟩:=(B1.o.ext X2.o).cells;clear hx;cases RF
  ·go_wp2;go_ret;exact⟨rfl,X0.o.trans X2.o⟩
  ·go_wp2_with fail;refine(HA.o _ (X0.o.trans X2.o)).o.mono ?_;rintro e w3 ⟨rfl,hx⟩;go_wp2;go_ret;exact⟨by simp,X0.o.trans (X2.o.trans hx)⟩
 ·have hR:=HR.o;rw[decide_eq_false (show ¬21≤t.kind from hk)] at hR;simp only[Bool.false_and] at hR;subst hR;go_enter Tryz.func110,Tryz.ntmps110;go_wp2;go_ret;exact⟨rfl,X0.o⟩
set_option maxRecDepth 512
set_option maxHeartbeats 200000
inductive Jq : Tm→Prop
 |mk {t:Tm}(v:t.vars.length≤100) (ty:t.types.length≤30) (iD:aD t.types≤20000) (kids:∀k∈t.kids,Jq k):Jq t
theorem yU {l:List Ty}{x:Ty}(h:x∈l):x.size≤aD l:=by
 unfold aD
 induction l with
 |nil=>cases h
 |cons y l ih=>
  rw[List.map_cons,List.sum_cons]
  rcases List.mem_cons.1 h with rfl|h
  ·omega
  ·have:=ih h;omega
theorem Jq.few {t:Tm}(h:Jq t):t.size≤1000000→cY t:=by
 induction h with
 |mk v ty iD _ ih=>
  rename_i t _
  intro hs;exact .mk (by omega) (fun x hx=>by have:=yU hx;omega) (by have:=t.pd;omega) (by omega) (fun k hk=>ih k hk (by have:=Tm.cB hk;omega))
theorem ql {l:List Tm}{k:Nat}(h:k<l.length):((l.take (k+1)).map Tm.depth).foldr max 0=max (((l.take k).map Tm.depth).foldr max 0) (l[k]'h).depth:=by
 have ms:∀(l:List Nat) (x:Nat),(l++[x]).foldr max 0=max (l.foldr max 0) x:=by
  intro l x
  induction l with
  |nil=>simp
  |cons y l ih=>simp only[List.cons_append,List.foldr_cons,ih];omega
 rw[ahl h,ahz,List.map_singleton,ms]
def MS (t:Tm) (L D v:Int):Prop:=(v≤L - 1∨v ≤ -1)∧(-1≤v∨L - 1≤v)∧(0≤v→v=L - t.size∧(t.depth:Int)≤D∧Jq t)
set_option maxRecDepth 10000
set_option maxHeartbeats 8000000
theorem Cx (t:Tm):∀(L D:Int) (w:World),aM w t → -1000000≤L→L≤1000000 → -1000000≤D→D≤1000000 →
  Calls Tryz.prog 40 #[bl t,.int .i64 L,.int .i64 D] w fun e w'=>(∃v:Int,e=.returned (.int .i64 v)∧MS t L D v)∧Ext w w':=by
 induction t using Tm.ind with
 |h t ih=>
 intro L D w h h0 hL VO hD;have IH:=aa ih;have Hk:=aa h.all;have Qf:=aa h.hd.types;have hle:=h.hd.le;have hmx:=h.hd.max;have fj:=aa (av.new w t);have X0:ahg (Ext w (w.alloc (.cells #[.int .i64 t.kind,.int .i64 t.n,encStr t.name,.slice t.V t.vars.length t.vc,.slice t.T t.types.length t.tc,.slice t.A t.kids.length t.cap] 40))):=aa ((eR w).alloc _);have HS:ahg (t.size=bQ t.kids+1):=aa (Tm.size_eq t);have HD:ahg (t.depth=(t.kids.map Tm.depth).foldr max 0+1):=aa (Tm.aN t);have mi:=aa (fun k (hk:k<t.kids.length)=>jZ t.kids hk);have JA:=aa (fun k (hk:k<t.kids.length)=>ql (l:=t.kids) hk);obtain⟨c0,c1,c2,c3,c4,c5⟩:=fj.o.cells;clear ih h;unfold bl
 by_cases hd:D<1
 ·go_enter Tryz.func40,Tryz.ntmps40;go_wp2;go_ret;exact⟨⟨-1,rfl,.inr (by omega),.inl (by omega),fun h=>by omega⟩,X0.o⟩
 by_cases hv:(t.vars.length:Int)>100
 ·go_enter Tryz.func40,Tryz.ntmps40;go_wp2;go_ret;exact⟨⟨-1,rfl,.inr (by omega),.inl (by omega),fun h=>by omega⟩,X0.o⟩
 by_cases ht:(t.types.length:Int)>30
 ·go_enter Tryz.func40,Tryz.ntmps40;go_wp2;go_ret;exact⟨⟨-1,rfl,.inr (by omega),.inl (by omega),fun h=>by omega⟩,X0.o⟩
 have uF:=aa (fun w' (e:Ext w w')=>aa (tP t.T t.tc t.types w' (Qf.o.ext e) (by omega)));go_enter Tryz.func40,Tryz.ntmps40;go_wp2_with fail;refine(uF.o _ X0.o).o.mono ?_;rintro e w1 ⟨⟨r,rfl,hr⟩,hx1⟩
 rcases hr with rfl|⟨rfl,jb,-⟩
 ·go_wp2;go_ret;exact⟨⟨-1,rfl,.inr (by omega),.inl (by omega),fun h=>by omega⟩,X0.o.trans hx1⟩
 have X1:=aa (X0.o.trans hx1);have BM:=aa (fj.o.ext hx1);have XH:=aa jb;have Hv:=aa hv;have Ht:=aa ht;clear hx1 jb c0 c1 c2 c3 c4 c5 uF fj hv ht;go_wp2;rename World=>w0
 go_loopw [1,7] (fun v i wr=>∃(k:Nat) (V:Int),k≤t.kids.length∧i=.int .i64 k∧v=.int .i64 V∧(V≤L - 1∨V ≤ -1)∧(-1≤V∨L - 1≤V)∧ahg (0≤V→V=L - 1 - bQ (t.kids.take k)∧((((t.kids.take k).map Tm.depth).foldr max 0:Nat):Int)+1≤D∧∀x∈t.kids.take k,Jq x)∧ahg (Ext w0 wr)) (fun _ i _=>t.kids.length - (intOf i).toNat)
 case atStart=>exact⟨0,L - 1,ahj _,rfl,rfl,by omega,by omega,aa (fun _=>by simp[bQ];omega),aa (eR _)⟩
 case round=>
  obtain⟨k,V,hk,rfl,rfl,hV1,hV2,HV,HX⟩:=hrel;have HB:=aa (BM.o.ext HX.o);obtain⟨-,-,-,-,-,c5⟩:=HB.o.cells
  by_cases hlt:k<t.kids.length
  ·have aS:(k:Int)<(t.kids.length:Int):=by omega
   have dy:(0:Int)≤(k:Int):=by omega
   by_cases hv0:V≥0
   ·obtain⟨b,o,hA,hb,q0,q1,q2,q3,q4,q5⟩:=(Hk.o.ext (X1.o.trans HX.o)).at_ hlt;have HC:=aa (IH.o _ (ahh hlt) V (D - 1) wr ((Hk.o.kids _ (ahh hlt)).ext (X1.o.trans HX.o)) (by omega) (by omega) (by omega) (by omega));have gw:=aa (mi.o k hlt);have AQ:=aa (JA.o k hlt);have cS:ahg (t.kids.take (k+1)=t.kids.take k++[t.kids[k]'hlt]):=aa (ahl hlt);rw[hA] at c5;clear hA;generalize t.kids[k]'hlt=c at *;generalize bQ (t.kids.take k)=s at *;generalize ((t.kids.take k).map Tm.depth).foldr max 0=d at *;unfold bl at HC;go_wp2_with fail;refine HC.o.mono ?_;rintro e w3 ⟨⟨v,rfl,hv⟩,hx3⟩;have X3:=aa (HX.o.trans hx3);have Hv:=aa hv;clear hx3 hv;go_wp2;go_roundw
    case rel=>
     obtain⟨a1,a2,a3⟩:=Hv.o;have a4:=HV.o;exact⟨k+1,v,hlt,by go_num,rfl,by omega,by omega,aa (fun hv=>by
      rw[gw.o,AQ.o];obtain⟨b1,b2,b5⟩:=a3 hv;obtain⟨b3,b4,b6⟩:=a4 hv0;refine⟨by omega,by omega,fun x hx => ?_⟩;rw[cS.o,List.mem_append,ahx] at hx
      rcases hx with hx|rfl
      ·exact b6 x hx
      ·exact b5),X3⟩
    case measure=>simp[intOf];omega
   ·go_wp2;go_ret;exact⟨⟨V,rfl,hV1,hV2,fun h=>absurd h (by omega)⟩,X1.o.trans HX.o⟩
  ·have bU:¬(k:Int)<(t.kids.length:Int):=by omega
   have hT:t.kids.take k=t.kids:=ahm (by omega);have HF:ahg (MS t L D V):=aa ⟨hV1,hV2,fun h=>by
    have:=HV.o h;rw[HS.o,HD.o];rw[hT] at this;have hv':=Hv.o;have WD:=Ht.o;exact⟨by omega,by omega,.mk (by omega) (by omega) XH.o this.2.2⟩⟩
   clear hT HV;go_wp2;go_ret;exact⟨⟨V,rfl,HF.o⟩,X1.o.trans HX.o⟩
theorem KU (A:Option Addr) (cap:Nat) (l:List Tm) (w:World) (h:bK w A l) (hle:l.length≤100000) :
  Calls Tryz.prog 21 #[.slice A l.length cap] w fun e w'=>(∃r:Int,e=.returned (.int .i64 r)∧(r=0∨(r=1∧bQ l≤3000∧∀t∈l,Jq t)))∧Ext w w':=by
 have HL:=aa h;have mi:=aa (fun k (hk:k<l.length)=>jZ l hk);clear h;go_enter Tryz.func21,Tryz.ntmps21;go_wp2
 go_loopw [3,4] (fun v i wr=>∃(k:Nat) (V:Int),k≤l.length∧i=.int .i64 k∧v=.int .i64 V∧V≤3000 ∧ -1 - (k:Int)≤V∧ahg (0≤V→V=3000 - bQ (l.take k)∧∀t∈l.take k,Jq t)∧ahg (Ext w wr)) (fun _ i _=>l.length - (intOf i).toNat)
 case atStart=>exact⟨0,3000,ahj _,rfl,rfl,by omega,by omega,aa (fun _=>by simp[bQ]),aa (eR _)⟩
 case round=>
  obtain⟨k,V,hk,rfl,rfl,hV1,hV2,HV,HX⟩:=hrel
  by_cases hlt:k<l.length
  ·have aS:(k:Int)<(l.length:Int):=by omega
   have dy:(0:Int)≤(k:Int):=by omega
   obtain⟨b,o,hA,hb,q0,q1,q2,q3,q4,q5⟩:=(HL.o.ext HX.o).at_ hlt;have HC:=aa (Cx (l[k]'hlt) V 450 wr ((HL.o.kids _ (ahh hlt)).ext HX.o) (by omega) (by omega) (by omega) (by omega));have gw:=aa (mi.o k hlt);have cS:ahg (l.take (k+1)=l.take k++[l[k]'hlt]):=aa (ahl hlt);generalize l[k]'hlt=c at *;rw[hA];clear hA;unfold bl at HC;go_wp2_with fail;refine HC.o.mono ?_;rintro e w3 ⟨⟨v,rfl,hv⟩,hx3⟩;have X3:=aa (HX.o.trans hx3);have Hv:=aa hv;clear hx3 hv;go_wp2;go_roundw
   case rel=>
    obtain⟨a1,a2,a3⟩:=Hv.o;have a4:=HV.o;exact⟨k+1,v,hlt,by go_num,rfl,by omega,by omega,aa (fun hv=>by
     obtain⟨b1,b2,b5⟩:=a3 hv;obtain⟨b3,b4⟩:=a4 (by omega);rw[gw.o];refine⟨by omega,fun t ht => ?_⟩;rw[cS.o,List.mem_append,ahx] at ht
     rcases ht with ht|rfl
     ·exact b4 t ht
     ·exact b5),X3⟩
   case measure=>simp[intOf];omega
  ·have bU:¬(k:Int)<(l.length:Int):=by omega
   have HF:ahg (0≤V→bQ l≤3000∧∀t∈l,Jq t):=aa (fun h=>by
    have:=HV.o h;rw[ahm (by omega)] at this;exact⟨by omega,this.2⟩)
   clear HV
   by_cases hv:V<0
   ·go_wp2;go_ret;exact⟨⟨0,rfl,.inl rfl⟩,HX.o⟩
   ·go_wp2;go_ret;exact⟨⟨1,rfl,.inr ⟨rfl,HF.o (by omega)⟩⟩,HX.o⟩
set_option maxRecDepth 512
set_option maxHeartbeats 200000
theorem wN (t:Tm):t.depth≤t.size:=by
 induction t using Tm.ind with
 |h t ih=>
  rw[Tm.aN,Tm.size_eq];have:∀l:List Tm,(∀k∈l,k.depth≤k.size)→(l.map Tm.depth).foldr max 0≤(l.map Tm.size).sum:=by
   intro l
   induction l with
   |nil=>simp
   |cons x l ihl=>
    intro h;have h1:=h x (by simp);have h2:=ihl (fun k hk=>h k (by simp[hk]));simp only[List.map_cons,List.foldr_cons,List.sum_cons];omega
  have:=this t.kids ih;omega
set_option maxRecDepth 10000
set_option maxHeartbeats 8000000
theorem Gh (t:Tm):∀(w:World),aM w t→t.size≤100000000 →
  Calls Tryz.prog 53 #[bl t] w fun e w'=>e=.returned (.int .i64 (t.size:Int))∧Ext w w':=by
 induction t using Tm.ind with
 |h t ih=>
 intro w h hsz;have IH:=aa ih;have Hk:=aa h.all;have hle:=h.hd.le;have hmx:=h.hd.max;have fj:=aa (av.new w t);have X0:ahg (Ext w (w.alloc (.cells #[.int .i64 t.kind,.int .i64 t.n,encStr t.name,.slice t.V t.vars.length t.vc,.slice t.T t.types.length t.tc,.slice t.A t.kids.length t.cap] 40))):=aa ((eR w).alloc _);have HS:ahg (t.size=bQ t.kids+1):=aa (Tm.size_eq t);have mi:=aa (fun k (hk:k<t.kids.length)=>jZ t.kids hk);have AR:=aa (fun k=>Bn t.kids k);have jV:=aa (fun k (hk:k∈t.kids)=>Tm.cB hk);clear ih h;unfold bl at *;go_enter Tryz.func53,Tryz.ntmps53;go_wp2;generalize (w.alloc (.cells #[.int .i64 t.kind,.int .i64 t.n,encStr t.name,.slice t.V t.vars.length t.vc,.slice t.T t.types.length t.tc,.slice t.A t.kids.length t.cap] 40))=w0 at *
 go_loopw [3,4] (fun v i wr=>∃k:Nat,k≤t.kids.length∧i=.int .i64 k∧v=.int .i64 ((bQ (t.kids.take k)+1:Nat):Int)∧ahg (Ext w0 wr)) (fun _ i _=>t.kids.length - (intOf i).toNat)
 case atStart=>exact⟨0,ahj _,rfl,rfl,aa (eR _)⟩
 case round=>
  obtain⟨k,hk,rfl,rfl,HX⟩:=hrel;have HB:=aa (fj.o.ext HX.o);obtain⟨-,-,-,-,-,hc2⟩:=HB.o.cells
  by_cases hlt:k<t.kids.length
  ·have aS:(k:Int)<(t.kids.length:Int):=by omega
   have dy:(0:Int)≤(k:Int):=by omega
   obtain⟨b,o,hA,hb,q0,q1,q2,q3,q4,q5⟩:=(Hk.o.ext (X0.o.trans HX.o)).at_ hlt;have cv:=ahh hlt;have gw:=aa (mi.o k hlt);have hs1:=AR.o (k+1);rw[gw.o] at hs1;have hS:=HS.o;have hcs:=jV.o _ cv;have HC:=aa (IH.o _ cv wr ((Hk.o.kids _ cv).ext (X0.o.trans HX.o)) (by omega));rw[hA] at hc2;clear hA cv;generalize t.kids[k]'hlt=c at *;generalize bQ (t.kids.take k)=s at *;go_wp2_with fail;refine HC.o.mono ?_;rintro e w3 ⟨rfl,hx3⟩;have X3:=aa (HX.o.trans hx3);clear hx3;go_wp2;go_roundw
   case rel=>exact⟨k+1,hlt,by go_num,by rw[gw.o];exact congrArg (Value.int .i64) (by omega),X3⟩
   case measure=>simp[intOf];omega
  ·have bU:¬(k:Int)<(t.kids.length:Int):=by omega
   have hR:bQ (t.kids.take k)+1=t.size:=by rw[HS.o,ahm (by omega)]
   rw[hR];clear hR;go_wp2;go_ret;exact⟨rfl,X0.o.trans HX.o⟩
theorem yV (t:Tm):∀(w:World),aM w t→t.size≤100000000 →
  Calls Tryz.prog 54 #[bl t] w fun e w'=>e=.returned (.int .i64 (t.depth:Int))∧Ext w w':=by
 induction t using Tm.ind with
 |h t ih=>
 intro w h hsz;have IH:=aa ih;have Hk:=aa h.all;have hle:=h.hd.le;have hmx:=h.hd.max;have fj:=aa (av.new w t);have X0:ahg (Ext w (w.alloc (.cells #[.int .i64 t.kind,.int .i64 t.n,encStr t.name,.slice t.V t.vars.length t.vc,.slice t.T t.types.length t.tc,.slice t.A t.kids.length t.cap] 40))):=aa ((eR w).alloc _);have HD:ahg (t.depth=(t.kids.map Tm.depth).foldr max 0+1):=aa (Tm.aN t);have JA:=aa (fun k (hk:k<t.kids.length)=>ql (l:=t.kids) hk);have PW:=aa (fun k (hk:k∈t.kids)=>aho (wN k) (Nat.le_of_lt (Tm.cB hk)));have jV:=aa (fun k (hk:k∈t.kids)=>Tm.cB hk);clear ih h;unfold bl at *;go_enter Tryz.func54,Tryz.ntmps54;go_wp2;generalize (w.alloc (.cells #[.int .i64 t.kind,.int .i64 t.n,encStr t.name,.slice t.V t.vars.length t.vc,.slice t.T t.types.length t.tc,.slice t.A t.kids.length t.cap] 40))=w0 at *
 go_loopw [3,4] (fun v i wr=>∃k M:Nat,k≤t.kids.length∧i=.int .i64 k∧v=.int .i64 M∧M≤100000000∧ahg (((t.kids.take k).map Tm.depth).foldr max 0=M)∧ahg (Ext w0 wr)) (fun _ i _=>t.kids.length - (intOf i).toNat)
 case atStart=>exact⟨0,0,ahj _,rfl,rfl,ahj _,aa rfl,aa (eR _)⟩
 case round=>
  obtain⟨k,M,hk,rfl,rfl,hM,HM,HX⟩:=hrel;have HB:=aa (fj.o.ext HX.o);obtain⟨-,-,-,-,-,hc2⟩:=HB.o.cells
  by_cases hlt:k<t.kids.length
  ·have aS:(k:Int)<(t.kids.length:Int):=by omega
   have dy:(0:Int)≤(k:Int):=by omega
   obtain⟨b,o,hA,hb,q0,q1,q2,q3,q4,q5⟩:=(Hk.o.ext (X0.o.trans HX.o)).at_ hlt;have cv:=ahh hlt;have AQ:=aa (JA.o k hlt);rw[HM.o] at AQ;have VS:=PW.o _ cv;have hcs:=jV.o _ cv;have HC:=aa (IH.o _ cv wr ((Hk.o.kids _ cv).ext (X0.o.trans HX.o)) (by omega));rw[hA] at hc2;clear hA cv;generalize t.kids[k]'hlt=c at *;have VT:c.depth≤100000000:=by omega
   clear VS hcs;generalize c.depth=d at *
   by_cases I0:(d:Int)>(M:Int)
   ·have XP:max (M:Int) (d:Int)=(d:Int):=by omega
    have XQ:(if (M:Int)<(d:Int) then(d:Int) else(M:Int))=(d:Int):=if_pos I0;have adS:(M:Int)≤(d:Int):=by omega
    go_wp2_with fail;refine HC.o.mono ?_;rintro e w3 ⟨rfl,hx3⟩;have X3:=aa (HX.o.trans hx3);clear hx3;go_wp2;go_roundw
    case rel=>exact⟨k+1,d,hlt,by go_num,by first|rfl|exact congrArg (Value.int .i64) (by omega),VT,aa (by rw[AQ.o];omega),X3⟩
    case measure=>simp[intOf];omega
   ·have XP:max (M:Int) (d:Int)=(M:Int):=by omega
    have XQ:(if (M:Int)<(d:Int) then(d:Int) else(M:Int))=(M:Int):=if_neg I0;go_wp2_with fail;refine HC.o.mono ?_;rintro e w3 ⟨rfl,hx3⟩;have X3:=aa (HX.o.trans hx3);clear hx3;go_wp2;go_roundw
    case rel=>exact⟨k+1,M,hlt,by go_num,by first|rfl|exact congrArg (Value.int .i64) (by omega),hM,aa (by rw[AQ.o];omega),X3⟩
    case measure=>simp[intOf];omega
  ·have bU:¬(k:Int)<(t.kids.length:Int):=by omega
   have hM0:(0:Int)≤(M:Int):=by omega
   have HR:ahg (t.depth=M+1):=aa (by
    have:=HM.o;rw[ahm (by omega)] at this;rw[HD.o,this])
   go_wp2;go_ret;exact⟨by rw[HR.o];rfl,X0.o.trans HX.o⟩
theorem mQ (A:Option Addr) (cap:Nat) (l:List Ty) (w:World) (h:bF w A l) (hn:l.length≤1000000) (hs:∀x∈l,x.size≤90000) :
  Calls Tryz.prog 87 #[.slice A l.length cap] w fun e w'=>e=.returned (.bool (l.all aQ))∧Ext w w':=by
 have H:=aa h;have HL:=aa (fun x hx w' (e:Ext w w')=>aa (Cw x w' ((h.args x hx).ext e) (hs x hx)));clear h hs;go_enter Tryz.func87,Tryz.ntmps87;go_wp2
 go_loopw [3] (fun i wr=>∃k:Nat,k≤l.length∧i=.int .i64 k∧ahg (Ext w wr)∧ahg (∀x∈l.take k,aQ x=true)) (fun i _=>l.length - (intOf i).toNat)
 case atStart=>exact⟨0,ahj _,rfl,aa (eR _),aa (fun x hx=>by cases hx)⟩
 case round=>
  obtain⟨k,hk,rfl,HX,HJ⟩:=hrel
  by_cases hlt:k<l.length
  ·have aS:(k:Int)<(l.length:Int):=by omega
   have dy:(0:Int)≤(k:Int):=by omega
   obtain⟨b,o,rfl,hb,q0,q1,q2⟩:=(H.o.ext HX.o).at_ hlt;have cv:=ahh hlt;have HC:=aa (HL.o _ cv wr HX.o).o;have cS:ahg (l.take (k+1)=l.take k++[l[k]'hlt]):=aa (ahl hlt);have HN:ahg (aQ (l[k]'hlt)=false→l.all aQ=false):=aa (fun h=>by
    rw[Bool.eq_false_iff];intro k2;rw[ahA] at k2;rw[k2 _ cv] at h;cases h)
   clear cv;generalize l[k]'hlt=c at *;generalize hR:aQ c=R at *;have HR:=aa hR;clear hR;unfold bh at HC;go_wp2_with fail;refine HC.o.mono ?_;rintro e w3 ⟨rfl,hx3⟩;have X3:=aa (HX.o.trans hx3);clear hx3;cases R
   ·go_wp2;go_ret;exact⟨by rw[HN.o (by first|exact trivial|rfl)];rfl,X3.o⟩
   ·go_wp2;go_roundw
    case rel=>exact⟨k+1,hlt,by go_num,X3,aa (fun x hx=>by
     rw[cS.o] at hx
     rcases List.mem_append.1 hx with hx|hx
     ·exact HJ.o x hx
     ·rw[ahx] at hx;subst hx;exact HR.o)⟩
    case measure=>simp[intOf];omega
  ·have bU:¬(k:Int)<(l.length:Int):=by omega
   have HA:ahg (l.all aQ=true):=aa (by
    have:=HJ.o;rw[ahm (by omega)] at this;rw[ahA];exact this)
   go_wp2;go_ret;exact⟨by rw[HA.o];rfl,HX.o⟩
set_option maxRecDepth 512
set_option maxHeartbeats 200000
def hasB (t:Tm) (nm:Bool) (n kids:Int):Bool:=((!(t.name == [])) == nm)&&(t.n == 0)&&((t.vars.length:Int) == 0)&&((t.types.length:Int) == n)&&((t.kids.length:Int) == kids)
def ly (t:Tm) (kids:Int):Bool:=(t.name == [])&&((t.vars.length:Int) == 0)&&((t.types.length:Int) == 0)&&((t.kids.length:Int) == kids)
set_option maxRecDepth 10000
set_option maxHeartbeats 8000000
theorem fC (t:Tm) (nm:Bool) (n kids:Int) (w:World):Calls Tryz.prog 85 #[bl t,.bool nm,.int .i64 n,.int .i64 kids] w fun e w'=>e=.returned (.bool (hasB t nm n kids))∧Ext w w':=by
 have fj:=aa (av.new w t);have X0:ahg (Ext w (w.alloc (.cells #[.int .i64 t.kind,.int .i64 t.n,encStr t.name,.slice t.V t.vars.length t.vc,.slice t.T t.types.length t.tc,.slice t.A t.kids.length t.cap] 40))):=aa ((eR w).alloc _);have HR:ahg (hasB t nm n kids=(((!(t.name == [])) == nm)&&(t.n == 0)&&((t.vars.length:Int) == 0)&&((t.types.length:Int) == n)&&((t.kids.length:Int) == kids))):=aa rfl;generalize hasB t nm n kids=R at *;obtain⟨c0,c1,c2,c3,c4,c5⟩:=fj.o.cells;unfold bl at *;cases hn:(t.name == ([]:aj))<;>cases nm
 case true.true=>
  go_enter Tryz.func85,Tryz.ntmps85;go_wp2;go_ret;exact⟨by rw[HR.o,hn];rfl,X0.o⟩
 case true.false=>
  cases h0:(t.n == 0)
  case false=>
   go_enter Tryz.func85,Tryz.ntmps85;go_wp2;go_ret;exact⟨by rw[HR.o,hn,h0];rfl,X0.o⟩
  cases h1:((t.vars.length:Int) == 0)
  case false=>
   go_enter Tryz.func85,Tryz.ntmps85;go_wp2;go_ret;exact⟨by rw[HR.o,hn,h0,h1];rfl,X0.o⟩
  cases h2:((t.types.length:Int) == n)
  case false=>
   go_enter Tryz.func85,Tryz.ntmps85;go_wp2;go_ret;exact⟨by rw[HR.o,hn,h0,h1,h2];rfl,X0.o⟩
  cases h3:((t.kids.length:Int) == kids)
  case false=>
   go_enter Tryz.func85,Tryz.ntmps85;go_wp2;go_ret;exact⟨by rw[HR.o,hn,h0,h1,h2,h3];rfl,X0.o⟩
  go_enter Tryz.func85,Tryz.ntmps85;go_wp2;go_ret;exact⟨by rw[HR.o,hn,h0,h1,h2,h3];rfl,X0.o⟩
 case false.true=>
  cases h0:(t.n == 0)
  case false=>
   go_enter Tryz.func85,Tryz.ntmps85;go_wp2;go_ret;exact⟨by rw[HR.o,hn,h0];rfl,X0.o⟩
  cases h1:((t.vars.length:Int) == 0)
  case false=>
   go_enter Tryz.func85,Tryz.ntmps85;go_wp2;go_ret;exact⟨by rw[HR.o,hn,h0,h1];rfl,X0.o⟩
  cases h2:((t.types.length:Int) == n)
  case false=>
   go_enter Tryz.func85,Tryz.ntmps85;go_wp2;go_ret;exact⟨by rw[HR.o,hn,h0,h1,h2];rfl,X0.o⟩
  cases h3:((t.kids.length:Int) == kids)
  case false=>
   go_enter Tryz.func85,Tryz.ntmps85;go_wp2;go_ret;exact⟨by rw[HR.o,hn,h0,h1,h2,h3];rfl,X0.o⟩
  go_enter Tryz.func85,Tryz.ntmps85;go_wp2;go_ret;exact⟨by rw[HR.o,hn,h0,h1,h2,h3];rfl,X0.o⟩
 case false.false=>
  go_enter Tryz.func85,Tryz.ntmps85;go_wp2;go_ret;exact⟨by rw[HR.o,hn];rfl,X0.o⟩
theorem qm (t:Tm) (kids:Int) (w:World):Calls Tryz.prog 86 #[bl t,.int .i64 kids] w fun e w'=>e=.returned (.bool (ly t kids))∧Ext w w':=by
 have fj:=aa (av.new w t);have X0:ahg (Ext w (w.alloc (.cells #[.int .i64 t.kind,.int .i64 t.n,encStr t.name,.slice t.V t.vars.length t.vc,.slice t.T t.types.length t.tc,.slice t.A t.kids.length t.cap] 40))):=aa ((eR w).alloc _);have HR:ahg (ly t kids=((t.name == [])&&((t.vars.length:Int) == 0)&&((t.types.length:Int) == 0)&&((t.kids.length:Int) == kids))):=aa rfl;generalize ly t kids=R at *;obtain⟨c0,c1,c2,c3,c4,c5⟩:=fj.o.cells;unfold bl at *;cases h0:(t.name == ([]:aj))
 case false=>
  go_enter Tryz.func86,Tryz.ntmps86;go_wp2;go_ret;exact⟨by rw[HR.o,h0];rfl,X0.o⟩
 cases h1:((t.vars.length:Int) == 0)
 case false=>
  go_enter Tryz.func86,Tryz.ntmps86;go_wp2;go_ret;exact⟨by rw[HR.o,h0,h1];rfl,X0.o⟩
 cases h2:((t.types.length:Int) == 0)
 case false=>
  go_enter Tryz.func86,Tryz.ntmps86;go_wp2;go_ret;exact⟨by rw[HR.o,h0,h1,h2];rfl,X0.o⟩
 cases h3:((t.kids.length:Int) == kids)
 case false=>
  go_enter Tryz.func86,Tryz.ntmps86;go_wp2;go_ret;exact⟨by rw[HR.o,h0,h1,h2,h3];rfl,X0.o⟩
 go_enter Tryz.func86,Tryz.ntmps86;go_wp2;go_ret;exact⟨by rw[HR.o,h0,h1,h2,h3];rfl,X0.o⟩
set_option maxRecDepth 512
set_option maxHeartbeats 200000
theorem oO (t:Tm):t.tb.term=((!decide (21≤t.kind) && !(t.kind == 9) && !(t.kind == 11)&&bo t) &&
  (if t.kind=8 then decide (2≤(t.kids.map Tm.tb).length)&&(TB.at_ (t.kids.map Tm.tb) 0).term&&((t.kids.map Tm.tb).drop 1).all (·.alt) else if t.kind=10 then decide (1≤(t.kids.map Tm.tb).length)&&(TB.at_ (t.kids.map Tm.tb) ((t.kids.map Tm.tb).length - 1)).term&&((t.kids.map Tm.tb).take ((t.kids.map Tm.tb).length - 1)).all (·.bind) else(t.kids.map Tm.tb).all (·.term))):=by
 rw[iP];rfl
theorem qo (t:Tm):t.tb.pat=(decide (21≤t.kind)&&bo t&&(t.kids.map Tm.tb).all (·.pat)):=by
 rw[iP];rfl
theorem Gi (t:Tm):t.tb.alt=((t.kind == 9)&&bo t&&(TB.at_ (t.kids.map Tm.tb) 0).pat&&(TB.at_ (t.kids.map Tm.tb) 1).term):=by
 rw[iP];rfl
theorem KV (t:Tm):t.tb.bind=((t.kind == 11)&&bo t&&(TB.at_ (t.kids.map Tm.tb) 0).term):=by
 rw[iP];rfl
noncomputable def cZ (t:Tm):Bool:=t.kids.all (fun k=>k.tb.term)
noncomputable def bX (t:Tm):Bool:=t.types.all aQ
theorem mS {t:Tm}(h:((t.types.length:Int) == 0)=true):t.types.all aQ=true:=by
 have:t.types=[]:=List.length_eq_zero_iff.1 (by simpa using h);rw[this];rfl
theorem td {t:Tm}{f:Tm→Bool}(h:((t.kids.length:Int) == 0)=true):t.kids.all f=true:=by
 have:t.kids=[]:=List.length_eq_zero_iff.1 (by simpa using h);rw[this];rfl
theorem Gj (t:Tm):(t.kids.map Tm.tb).all (·.term)=cZ t:=by unfold cZ;rw[List.all_map];rfl
theorem mU (t:Tm):(t.kids.map Tm.tb).all (·.pat)=t.kids.all (fun k=>k.tb.pat):=by rw[List.all_map];rfl
theorem js {t:Tm}{s:Sz}(hs:dw t.kind=some s):bo t=(((!(t.name == [])) == s.named)&&((t.n == 0)||s.counted) && !(decide (t.n<0)&&s.Ga)&&(decide (t.vars.length=0)||t.kind == 5||t.kind == 11)&&(decide (s.types<0)||decide ((t.types.length:Int)=s.types))&&(decide (s.kids<0)||decide ((t.kids.length:Int)=s.kids))&&bX t):=by
 unfold bo lR;rw[hs];rfl
theorem th {t:Tm}(hs:dw t.kind=none):bo t=false:=by
 unfold bo lR;rw[hs];rfl
theorem jt (n:Nat):decide (n=0)=((n:Int) == 0):=by
 rw[Bool.eq_iff_iff];simp
theorem ju (a b:Int):decide (a=b)=(a == b):=by
 rw[Bool.eq_iff_iff];simp
theorem iR {t:Tm}{nm:Bool}{a b:Int}(hs:dw t.kind=some ⟨nm,false,false,a,b⟩) (ha:0≤a) (hb:0≤b) (h5:(t.kind == 5)=false) (h11:(t.kind == 11)=false):bo t=(hasB t nm a b&&bX t):=by
 rw[js hs];have e1:decide (a<0)=false:=decide_eq_false (by omega);have e2:decide (b<0)=false:=decide_eq_false (by omega);simp only[h5,h11,e1,e2,Bool.or_false,Bool.false_or,Bool.and_false,Bool.not_false,Bool.and_true,jt,ju];rfl
theorem tj {t:Tm}{nm:Bool}{b:Int}(hs:dw t.kind=some ⟨nm,false,false,-1,b⟩) (hb:0≤b) (h5:(t.kind == 5)=false) (h11:(t.kind == 11)=false):bo t=(hasB t nm t.types.length b&&bX t):=by
 rw[js hs];have e2:decide (b<0)=false:=decide_eq_false (by omega);have e1:decide ((-1:Int)<0)=true:=rfl;simp only[h5,h11,e1,e2,Bool.or_false,Bool.false_or,Bool.true_or,Bool.and_false,Bool.not_false,Bool.and_true,jt,ju];unfold hasB;simp
theorem kK {t:Tm}{nm:Bool}{a:Int}(hs:dw t.kind=some ⟨nm,false,false,a,-1⟩) (ha:0≤a) (h5:(t.kind == 5)=false) (h11:(t.kind == 11)=false):bo t=(hasB t nm a t.kids.length&&bX t):=by
 rw[js hs];have e2:decide (a<0)=false:=decide_eq_false (by omega);have e1:decide ((-1:Int)<0)=true:=rfl;simp only[h5,h11,e1,e2,Bool.or_false,Bool.false_or,Bool.true_or,Bool.and_false,Bool.not_false,Bool.and_true,jt,ju];unfold hasB;simp
theorem Gk {t:Tm}{nm:Bool}{b:Int}(h:hasB t nm 0 b=true):bX t=true:=by
 unfold hasB at h;simp only[ahv] at h;exact mS h.1.2
theorem Cy {t:Tm}{nm:Bool}{a:Int}{f:Tm→Bool}(h:hasB t nm a 0=true):t.kids.all f=true:=by
 unfold hasB at h;simp only[ahv] at h;exact td h.2
theorem fM {t:Tm}{nm:Bool}{b:Int}:(hasB t nm 0 b&&bX t)=hasB t nm 0 b:=by
 cases h:hasB t nm 0 b
 ·rfl
 ·rw[Gk h];rfl
theorem mV {t:Tm}{nm:Bool}{a:Int}{f:Tm→Bool}:(hasB t nm a 0&&t.kids.all f)=hasB t nm a 0:=by
 cases h:hasB t nm a 0
 ·rfl
 ·rw[Cy h];rfl
theorem fe {t:Tm}(DG:t.kind<21) (h9:t.kind≠9) (h11:t.kind≠11) (h8:t.kind≠8) (h10:t.kind≠10):t.tb.term=(bo t&&cZ t):=by
 have e1:decide (21≤t.kind)=false:=decide_eq_false (by omega);have e2:(t.kind == 9)=false:=by simpa using h9
 have e3:(t.kind == 11)=false:=by simpa using h11
 rw[oO,if_neg h8,if_neg h10,Gj,e1,e2,e3];rfl
theorem XS {t:Tm}(hk:t.kind=1):t.tb.term=hasB t true 0 0:=by
 rw[fe (by omega) (by omega) (by omega) (by omega) (by omega),iR (nm:=true) (a:=0) (b:=0) (by rw[hk];rfl) (by decide) (by decide) (by rw[hk];rfl) (by rw[hk];rfl),fM];exact mV
theorem Ae {t:Tm}(hs:dw t.kind=some ⟨false,true,false,0,0⟩) (h5:(t.kind == 5)=false) (h11:(t.kind == 11)=false) (f:Tm→Bool):(bo t&&t.kids.all f)=ly t 0:=by
 rw[js hs];simp only[h5,h11,Bool.or_false,Bool.false_or,Bool.or_true,Bool.and_false,Bool.not_false,Bool.and_true,jt,ju,show decide ((0:Int)<0)=false from rfl];have e:((!(t.name == [])) == false)=(t.name == []):=by cases t.name == []<;>rfl
 rw[e];unfold ly;cases h1:((t.types.length:Int) == 0)
 ·simp
 ·cases h2:((t.kids.length:Int) == 0)
  ·simp
  ·rw[td h2];unfold bX;rw[mS h1];simp
theorem SJ {t:Tm}(hk:t.kind=2∨t.kind=14):t.tb.term=ly t 0:=by
 rw[fe (by omega) (by omega) (by omega) (by omega) (by omega)];exact Ae (by rcases hk with h|h<;>rw[h]<;>rfl) (by rcases hk with h|h<;>rw[h]<;>rfl) (by rcases hk with h|h<;>rw[h]<;>rfl) _
theorem XU {t:Tm}(hk:t.kind=3):t.tb.term=(hasB t true 1 1&&bX t&&cZ t):=by
 rw[fe (by omega) (by omega) (by omega) (by omega) (by omega),iR (nm:=true) (a:=1) (b:=1) (by rw[hk];rfl) (by decide) (by decide) (by rw[hk];rfl) (by rw[hk];rfl)]
theorem XV {t:Tm}(hk:t.kind=4):t.tb.term=(hasB t false 0 2&&cZ t):=by
 rw[fe (by omega) (by omega) (by omega) (by omega) (by omega),iR (nm:=false) (a:=0) (b:=2) (by rw[hk];rfl) (by decide) (by decide) (by rw[hk];rfl) (by rw[hk];rfl),fM]
theorem XY {t:Tm}(hk:t.kind=5):t.tb.term=((t.name == [])&&(t.n == 0)&&((t.types.length:Int) == 0)&&((t.kids.length:Int) == 1)&&cZ t):=by
 rw[fe (by omega) (by omega) (by omega) (by omega) (by omega),js (s:=⟨false,false,false,0,1⟩) (by rw[hk];rfl)];have e5:(t.kind == 5)=true:=by rw[hk];rfl
 have e:((!(t.name == [])) == false)=(t.name == []):=by cases t.name == []<;>rfl
 simp only[e5,e,Bool.or_false,Bool.false_or,Bool.or_true,Bool.true_or,Bool.and_false,Bool.not_false,Bool.and_true,jt,ju,show decide ((0:Int)<0)=false from rfl,show decide ((1:Int)<0)=false from rfl];cases h1:((t.types.length:Int) == 0)
 ·simp
 ·have:bX t=true:=mS h1;rw[this];simp
theorem XZ {t:Tm}(hk:t.kind=6):t.tb.term=(hasB t false t.types.length 1&&bX t&&cZ t):=by
 rw[fe (by omega) (by omega) (by omega) (by omega) (by omega),tj (nm:=false) (b:=1) (by rw[hk];rfl) (by decide) (by rw[hk];rfl) (by rw[hk];rfl)]
theorem Ya {t:Tm}(hk:t.kind=7):t.tb.term=(hasB t true t.types.length 0&&bX t):=by
 rw[fe (by omega) (by omega) (by omega) (by omega) (by omega),tj (nm:=true) (b:=0) (by rw[hk];rfl) (by decide) (by rw[hk];rfl) (by rw[hk];rfl)];rw[Bool.and_right_comm];show((hasB t true t.types.length 0&&t.kids.all _)&&_)=_;rw[mV]
theorem SK {t:Tm}(hk:t.kind=12):t.tb.term=(hasB t true 1 t.kids.length&&bX t&&cZ t):=by
 rw[fe (by omega) (by omega) (by omega) (by omega) (by omega),kK (nm:=true) (a:=1) (by rw[hk];rfl) (by decide) (by rw[hk];rfl) (by rw[hk];rfl)]
theorem SL {t:Tm}(hk:t.kind=13):t.tb.term=(!(t.name == [])&&decide (t.n≥0)&&((t.vars.length:Int) == 0)&&((t.types.length:Int) == 0)&&((t.kids.length:Int) == 1)&&cZ t):=by
 rw[fe (by omega) (by omega) (by omega) (by omega) (by omega),js (s:=⟨true,true,true,0,1⟩) (by rw[hk];rfl)];have e5:(t.kind == 5)=false:=by rw[hk];rfl
 have e11:(t.kind == 11)=false:=by rw[hk];rfl
 have e:((!(t.name == [])) == true) = !(t.name == []):=by cases t.name == []<;>rfl
 have e0:(!decide (t.n<0))=decide (t.n≥0):=by by_cases h:t.n<0<;>simp[h]<;>omega
 simp only[e5,e11,e,e0,Bool.or_false,Bool.false_or,Bool.or_true,Bool.and_true,jt,ju,show decide ((0:Int)<0)=false from rfl,show decide ((1:Int)<0)=false from rfl];cases h1:((t.types.length:Int) == 0)
 ·simp
 ·have:bX t=true:=mS h1;rw[this];simp
theorem Gl {t:Tm}(h:t.kind≠1∧t.kind≠2∧t.kind≠3∧t.kind≠4∧t.kind≠5∧t.kind≠6∧t.kind≠7∧t.kind≠8∧t.kind≠10∧t.kind≠12∧t.kind≠13∧t.kind≠14):t.tb.term=false:=by
 rw[oO]
 by_cases h9:t.kind=9
 ·rw[h9];rfl
 by_cases h11:t.kind=11
 ·rw[h11];rfl
 by_cases DG:21≤t.kind
 ·rw[decide_eq_true DG];rfl
 have:dw t.kind=none:=by
  unfold dw;rw[if_neg (by omega),if_neg (by omega),if_neg (by omega),if_neg (by omega),if_neg (by omega),if_neg (by omega),if_neg (by omega),if_neg (by omega),if_neg (by omega),if_neg (by omega),if_neg (by omega),if_neg (by omega)]
 rw[th this];simp
theorem SM {t:Tm}(hk:t.kind=21):t.tb.pat=hasB t true 0 0:=by
 rw[qo,mU,iR (nm:=true) (a:=0) (b:=0) (by rw[hk];rfl) (by decide) (by decide) (by rw[hk];rfl) (by rw[hk];rfl),fM,hk,show decide ((21:Int)≤21)=true from rfl,Bool.true_and];exact mV
theorem SN {t:Tm}(hk:t.kind=22):t.tb.pat=hasB t false 0 0:=by
 rw[qo,mU,iR (nm:=false) (a:=0) (b:=0) (by rw[hk];rfl) (by decide) (by decide) (by rw[hk];rfl) (by rw[hk];rfl),fM,hk,show decide ((21:Int)≤22)=true from rfl,Bool.true_and];exact mV
theorem SP {t:Tm}(hk:t.kind=23):t.tb.pat=ly t 0:=by
 rw[qo,mU,show decide (21≤t.kind)=true from by rw[hk];rfl,Bool.true_and];exact Ae (by rw[hk];rfl) (by rw[hk];rfl) (by rw[hk];rfl) _
theorem SQ {t:Tm}(hk:t.kind=24):t.tb.pat=(t.kids.all (fun k=>k.tb.pat)&&hasB t true 0 t.kids.length):=by
 rw[qo,mU,kK (nm:=true) (a:=0) (by rw[hk];rfl) (by decide) (by rw[hk];rfl) (by rw[hk];rfl),fM,hk,show decide ((21:Int)≤24)=true from rfl,Bool.true_and,Bool.and_comm]
theorem Gm {t:Tm}(h:t.kind≠21∧t.kind≠22∧t.kind≠23∧t.kind≠24):t.tb.pat=false:=by
 rw[qo]
 by_cases DG:21≤t.kind
 ·have:dw t.kind=none:=by
   unfold dw;rw[if_neg (by omega),if_neg (by omega),if_neg (by omega),if_neg (by omega),if_neg (by omega),if_neg (by omega),if_neg (by omega),if_neg (by omega),if_neg (by omega),if_neg (by omega),if_neg (by omega),if_neg (by omega)]
  rw[th this];simp
 ·rw[decide_eq_false DG];rfl
theorem qp {t:Tm}{i:Nat}(h:i<t.kids.length):TB.at_ (t.kids.map Tm.tb) i=(t.kids[i]'h).tb:=by
 unfold TB.at_;rw[List.getD_eq_getElem?_getD,List.getElem?_map,ahw h];rfl
theorem Yb {t:Tm}(hk:t.kind=9):t.tb.alt=(hasB t false 0 2&&(TB.at_ (t.kids.map Tm.tb) 0).pat&&(TB.at_ (t.kids.map Tm.tb) 1).term):=by
 rw[Gi,iR (nm:=false) (a:=0) (b:=2) (by rw[hk];rfl) (by decide) (by decide) (by rw[hk];rfl) (by rw[hk];rfl),fM,hk];rfl
theorem OB {t:Tm}(hk:t.kind≠9):t.tb.alt=false:=by
 rw[Gi,show(t.kind == 9)=false by simpa using hk];rfl
theorem SS {t:Tm}:t.tb.bind=((t.kind == 11) && !(t.name == [])&&(t.n == 0)&&((t.types.length:Int) == 1)&&bX t&&((t.kids.length:Int) == 1)&&(TB.at_ (t.kids.map Tm.tb) 0).term):=by
 rw[KV]
 by_cases hk:t.kind=11
 ·rw[js (s:=⟨true,false,false,1,1⟩) (by rw[hk];rfl)];have e11:(t.kind == 11)=true:=by rw[hk];rfl
  have e:((!(t.name == [])) == true) = !(t.name == []):=by cases t.name == []<;>rfl
  simp only[e11,e,Bool.or_false,Bool.false_or,Bool.or_true,Bool.and_false,Bool.not_false,Bool.and_true,Bool.true_and,jt,ju,show decide ((1:Int)<0)=false from rfl]
  congr 1
  rw[Bool.and_right_comm]
 ·rw[show(t.kind == 11)=false by simpa using hk];rfl
theorem SU {t:Tm}(hk:t.kind=8):t.tb.term=(decide (2≤t.kids.length)&&hasB t false 0 t.kids.length&&(TB.at_ (t.kids.map Tm.tb) 0).term&&(t.kids.drop 1).all (fun k=>k.tb.alt)):=by
 rw[oO,if_pos hk,kK (nm:=false) (a:=0) (by rw[hk];rfl) (by decide) (by rw[hk];rfl) (by rw[hk];rfl),fM,hk,List.length_map,List.drop_one,←List.map_tail,List.all_map,←List.drop_one];show(hasB t false 0 t.kids.length&&_)=_;simp only[Bool.and_assoc];rw[Bool.and_left_comm];rfl
theorem MT {t:Tm}(hk:t.kind=10):t.tb.term=(decide (1≤t.kids.length)&&hasB t false 0 t.kids.length&&(t.kids.take (t.kids.length - 1)).all (fun k=>k.tb.bind)&&(TB.at_ (t.kids.map Tm.tb) (t.kids.length - 1)).term):=by
 rw[oO,if_neg (by omega),if_pos hk,kK (nm:=false) (a:=0) (by rw[hk];rfl) (by decide) (by rw[hk];rfl) (by rw[hk];rfl),fM,hk,List.length_map,←List.map_take,List.all_map];show(hasB t false 0 t.kids.length&&_)=_;simp only[Bool.and_assoc];rw[Bool.and_left_comm]
 congr 2
 rw[Bool.and_comm];rfl
def cf (t:Tm):Prop:=∀(w:World),aM w t→cY t→Calls Tryz.prog 55 #[bl t] w fun e w'=>e=.returned (.bool t.tb.term)∧Ext w w'
set_option maxRecDepth 10000
set_option maxHeartbeats 8000000
theorem kL (t:Tm) (ih:∀k∈t.kids,cf k) (w:World) (h:aM w t) (hf:cY t):Calls Tryz.prog 88 #[bl t,.int .i64 0] w fun e w'=>e=.returned (.bool (cZ t))∧Ext w w':=by
 obtain⟨W,hW⟩:∃W,W=w.alloc (.cells #[.int .i64 t.kind,.int .i64 t.n,encStr t.name,.slice t.V t.vars.length t.vc,.slice t.T t.types.length t.tc,.slice t.A t.kids.length t.cap] 40):=⟨_,rfl⟩;have HW:=aa hW.symm;have X0:ahg (Ext w W):=aa (by rw[hW];exact(eR _).alloc _);have B1:ahg (av W w.heap.size t):=aa (by rw[hW];exact av.new w t);have Hk:=aa h.all;have hle:=h.hd.le;have hmx:=h.hd.max;have HI:=aa (fun k hk w' jF=>aa (ih k hk w' jF (hf.kids k hk)));have HA:ahg (cZ t=t.kids.all (fun k=>k.tb.term)):=aa rfl;clear hW h ih hf;unfold bl at *;go_enter Tryz.func88,Tryz.ntmps88;go_upto_region 1 with fail;rw[HW.o];clear HW;go_wp2
 go_loopw [5] (fun i wr=>∃j:Nat,j≤t.kids.length∧i=.int .i64 j∧ahg (Ext W wr)∧ahg (∀k∈t.kids.take j,k.tb.term=true)) (fun i _=>t.kids.length - (intOf i).toNat)
 case atStart=>exact⟨0,ahj _,rfl,aa (eR _),aa (fun x hx=>by cases hx)⟩
 case round=>
  obtain⟨j,hj,rfl,HX,HJ⟩:=hrel;obtain⟨c0,c1,c2,c3,c4,c5⟩:=(B1.o.ext HX.o).cells;have n1:=(B1.o.ext HX.o).lt
  by_cases hlt:j<t.kids.length
  ·have aS:(j:Int)<(t.kids.length:Int):=by omega
   have q8:(0:Int)≤(j:Int):=by omega
   obtain⟨b,o,hA,hb,q0,q1,q2,q3,q4,q5⟩:=(Hk.o.ext (X0.o.trans HX.o)).at_ hlt;have hm:=ahh hlt;have HC:=aa (HI.o _ hm wr ((Hk.o.kids _ hm).ext (X0.o.trans HX.o))).o;have cS:ahg (t.kids.take (j+1)=t.kids.take j++[t.kids[j]'hlt]):=aa (ahl hlt);have HN:ahg ((t.kids[j]'hlt).tb.term=false→cZ t=false):=aa (fun h=>by
    rw[HA.o,Bool.eq_false_iff];intro k2;rw[ahA] at k2;rw[k2 _ hm] at h;cases h)
   rw[hA] at c5;clear hm hA;generalize t.kids[j]'hlt=c at *;generalize hR:c.tb.term=R at *;have HR:=aa hR;clear hR;go_wp2_with fail;refine HC.o.mono ?_;rintro e w3 ⟨rfl,hx3⟩;have X3:=aa (HX.o.trans hx3);clear hx3;cases R
   ·go_wp2;go_ret;exact⟨by rw[HN.o (by first|exact trivial|rfl)];rfl,X0.o.trans X3.o⟩
   ·go_wp2;go_roundw
    case rel=>exact⟨j+1,hlt,by go_num,X3,aa (fun x hx=>by
     rw[cS.o] at hx
     rcases List.mem_append.1 hx with hx|hx
     ·exact HJ.o x hx
     ·rw[ahx] at hx;subst hx;exact HR.o)⟩
    case measure=>simp[intOf];omega
  ·have bU:¬(j:Int)<(t.kids.length:Int):=by omega
   have ou:ahg (cZ t=true):=aa (by
    have:=HJ.o;rw[ahm (by omega)] at this;rw[HA.o,ahA];exact this)
   go_wp2;go_ret;exact⟨by rw[ou.o];rfl,X0.o.trans HX.o⟩
theorem Cz (t:Tm):∀(w:World),aM w t→Calls Tryz.prog 133 #[bl t] w fun e w'=>e=.returned (.bool t.tb.pat)∧Ext w w':=by
 induction t using Tm.ind with
 |h t ih=>
 intro w h;obtain⟨W,hW⟩:∃W,W=w.alloc (.cells #[.int .i64 t.kind,.int .i64 t.n,encStr t.name,.slice t.V t.vars.length t.vc,.slice t.T t.types.length t.tc,.slice t.A t.kids.length t.cap] 40):=⟨_,rfl⟩;have HW:=aa hW.symm;have X0:ahg (Ext w W):=aa (by rw[hW];exact(eR _).alloc _);have B1:ahg (av W w.heap.size t):=aa (by rw[hW];exact av.new w t);have Hk:=aa h.all;have hle:=h.hd.le;have hmx:=h.hd.max;have HI:=aa (fun k hk w' jF=>aa (ih k hk w' jF));have HH:=aa (fun nm n k w'=>aa (fC t nm n k w'));have Yc:=aa (fun k w'=>aa (qm t k w'));clear hW h ih
 by_cases hk:t.kind=21
 ·have HB:=aa (SM hk);have Vj:(t.kind == 21)=true:=by rw[hk];rfl
  clear hk Hk HI hle hmx;unfold bl at *;generalize t.tb.pat=R at *;have HC:=aa (fun w'=>HH.o true 0 0 w');generalize hasB t true 0 0=R0 at *;go_enter Tryz.func133,Tryz.ntmps133;go_upto_region 1 with fail;rw[HW.o];clear HW;obtain⟨c0,c1,c2,c3,c4,c5⟩:=(B1.o.ext (eR W)).cells;have n1:=(B1.o.ext (eR W)).lt;go_wp2_with fail;refine(HC.o _).o.mono ?_;rintro e w2 ⟨rfl,hx2⟩;have X2:=aa hx2;clear hx2 c0 c1 c2 c3 c4 c5 n1;go_wp2;go_ret;exact⟨by first|(rw[HB.o];rfl)|rfl,X0.o.trans X2.o⟩
 by_cases hk:t.kind=22
 ·have HB:=aa (SN hk);have Vj:(t.kind == 21)=false:=by rw[hk];rfl
  have Yd:(t.kind == 22)=true:=by rw[hk];rfl
  clear hk Hk HI hle hmx;unfold bl at *;generalize t.tb.pat=R at *;have HC:=aa (fun w'=>HH.o false 0 0 w');generalize hasB t false 0 0=R0 at *;go_enter Tryz.func133,Tryz.ntmps133;go_upto_region 1 with fail;rw[HW.o];clear HW;obtain⟨c0,c1,c2,c3,c4,c5⟩:=(B1.o.ext (eR W)).cells;have n1:=(B1.o.ext (eR W)).lt;go_wp2_with fail;refine(HC.o _).o.mono ?_;rintro e w2 ⟨rfl,hx2⟩;have X2:=aa hx2;clear hx2 c0 c1 c2 c3 c4 c5 n1;go_wp2;go_ret;exact⟨by first|(rw[HB.o];rfl)|rfl,X0.o.trans X2.o⟩
 by_cases hk:t.kind=23
 ·have HB:=aa (SP hk);have Vj:(t.kind == 21)=false:=by rw[hk];rfl
  have Yd:(t.kind == 22)=false:=by rw[hk];rfl
  have k23:(t.kind == 23)=true:=by rw[hk];rfl
  clear hk Hk HI hle hmx;unfold bl at *;generalize t.tb.pat=R at *;have HC:=aa (fun w'=>Yc.o 0 w');generalize ly t 0=R0 at *;go_enter Tryz.func133,Tryz.ntmps133;go_upto_region 1 with fail;rw[HW.o];clear HW;obtain⟨c0,c1,c2,c3,c4,c5⟩:=(B1.o.ext (eR W)).cells;have n1:=(B1.o.ext (eR W)).lt;go_wp2_with fail;refine(HC.o _).o.mono ?_;rintro e w2 ⟨rfl,hx2⟩;have X2:=aa hx2;clear hx2 c0 c1 c2 c3 c4 c5 n1;go_wp2;go_ret;exact⟨by first|(rw[HB.o];rfl)|rfl,X0.o.trans X2.o⟩
 by_cases hk:t.kind=24
 ·have HB:=aa (SQ hk);have Vj:(t.kind == 21)=false:=by rw[hk];rfl
  have Yd:(t.kind == 22)=false:=by rw[hk];rfl
  have k23:(t.kind == 23)=false:=by rw[hk];rfl
  have k24:(t.kind == 24)=true:=by rw[hk];rfl
  have HC:=aa (fun w'=>HH.o true 0 t.kids.length w');have HN:ahg (∀(j:Nat) (hj:j<t.kids.length),(t.kids[j]'hj).tb.pat=false→t.tb.pat=false):=aa (fun j hj h=>by
   rw[HB.o];have:t.kids.all (fun k=>k.tb.pat)=false:=by
    rw[Bool.eq_false_iff];intro k2;rw[ahA] at k2;rw[k2 _ (ahh hj)] at h;cases h
   rw[this];rfl)
  have HY:ahg ((∀k∈t.kids,k.tb.pat=true)→t.tb.pat=hasB t true 0 t.kids.length):=aa (fun h=>by
   rw[HB.o,List.all_eq_true.2 h];rfl)
  clear hk HH Yc HB;unfold bl at *;generalize t.tb.pat=R at *;generalize hasB t true 0 t.kids.length=R0 at *;go_enter Tryz.func133,Tryz.ntmps133;go_upto_region 1 with fail;rw[HW.o];clear HW;obtain⟨c0,c1,c2,c3,c4,c5⟩:=B1.o.cells;have n1:=B1.o.lt;go_wp2;clear c0 c1 c2 c3 c4 c5 n1
  go_loopw [3] (fun i wr=>∃j:Nat,j≤t.kids.length∧i=.int .i64 j∧ahg (Ext W wr)∧ahg (∀k∈t.kids.take j,k.tb.pat=true)) (fun i _=>t.kids.length - (intOf i).toNat)
  case atStart=>exact⟨0,ahj _,rfl,aa (eR _),aa (fun x hx=>by cases hx)⟩
  case round=>
   obtain⟨j,hj,rfl,HX,HJ⟩:=hrel;obtain⟨c0,c1,c2,c3,c4,c5⟩:=(B1.o.ext HX.o).cells;have n1:=(B1.o.ext HX.o).lt
   by_cases hlt:j<t.kids.length
   ·have aS:(j:Int)<(t.kids.length:Int):=by omega
    have q8:(0:Int)≤(j:Int):=by omega
    obtain⟨b,o,hA,hb,q0,q1,q2,q3,q4,q5⟩:=(Hk.o.ext (X0.o.trans HX.o)).at_ hlt;have hm:=ahh hlt;have OC:=aa (HI.o _ hm wr ((Hk.o.kids _ hm).ext (X0.o.trans HX.o))).o;have cS:ahg (t.kids.take (j+1)=t.kids.take j++[t.kids[j]'hlt]):=aa (ahl hlt);have zQ:=aa (HN.o j hlt);rw[hA] at c5;clear hm hA;generalize t.kids[j]'hlt=c at *;generalize hR:c.tb.pat=Rc at *;have HR:=aa hR;clear hR;go_wp2_with fail;refine OC.o.mono ?_;rintro e w3 ⟨rfl,hx3⟩;have X3:=aa (HX.o.trans hx3);clear hx3;cases Rc
    ·go_wp2;go_ret;exact⟨by rw[zQ.o (by first|exact trivial|rfl)];rfl,X0.o.trans X3.o⟩
    ·go_wp2;go_roundw
     case rel=>exact⟨j+1,hlt,by go_num,X3,aa (fun x hx=>by
      rw[cS.o] at hx
      rcases List.mem_append.1 hx with hx|hx
      ·exact HJ.o x hx
      ·rw[ahx] at hx;subst hx;exact HR.o)⟩
     case measure=>simp[intOf];omega
   ·have bU:¬(j:Int)<(t.kids.length:Int):=by omega
    have ou:=aa (HY.o (by
     have:=HJ.o;rw[ahm (by omega)] at this;exact this))
    go_wp2_with fail;refine(HC.o _).o.mono ?_;rintro e w3 ⟨rfl,hx3⟩;have X3:=aa (HX.o.trans hx3);clear hx3 c0 c1 c2 c3 c4 c5 n1;go_wp2;go_ret;exact⟨by rw[ou.o];rfl,X0.o.trans X3.o⟩
 have HB:=aa (Gm (t:=t) ⟨by assumption,by assumption,by assumption,by assumption⟩);have Vj:(t.kind == 21)=false:=by simpa using ‹¬t.kind=21›
 have Yd:(t.kind == 22)=false:=by simpa using ‹¬t.kind=22›
 have k23:(t.kind == 23)=false:=by simpa using ‹¬t.kind=23›
 have k24:(t.kind == 24)=false:=by simpa using ‹¬t.kind=24›
 clear Hk HI hle hmx HH Yc;unfold bl at *;generalize t.tb.pat=R at *;go_enter Tryz.func133,Tryz.ntmps133;go_upto_region 1 with fail;rw[HW.o];clear HW;obtain⟨c0,c1,c2,c3,c4,c5⟩:=B1.o.cells;have n1:=B1.o.lt;go_wp2;go_ret;exact⟨by rw[HB.o];rfl,X0.o⟩
set_option maxRecDepth 512
set_option maxHeartbeats 200000
theorem Gn {t:Tm}{nm:Bool}{a:Int}{b:Nat}(h:hasB t nm a b=true):t.kids.length=b:=by
 unfold hasB at h;simp only[ahv,beq_iff_eq] at h;have:=h.2;omega
set_option maxRecDepth 10000
set_option maxHeartbeats 8000000
theorem yX (t:Tm) (ih:∀k∈t.kids,cf k) (w:World) (h:aM w t) (hf:cY t):Calls Tryz.prog 134 #[bl t] w fun e w'=>e=.returned (.bool t.tb.bind)∧Ext w w':=by
 obtain⟨W,hW⟩:∃W,W=w.alloc (.cells #[.int .i64 t.kind,.int .i64 t.n,encStr t.name,.slice t.V t.vars.length t.vc,.slice t.T t.types.length t.tc,.slice t.A t.kids.length t.cap] 40):=⟨_,rfl⟩;have HW:=aa hW.symm;have X0:ahg (Ext w W):=aa (by rw[hW];exact(eR _).alloc _);have B1:ahg (av W w.heap.size t):=aa (by rw[hW];exact av.new w t);have Hk:=aa h.all;have hle:=h.hd.le;have hmx:=h.hd.max;have HI:=aa (fun k hk w' jF=>aa (ih k hk w' jF (hf.kids k hk)));have HT:=aa (fun w' (e:Ext W w')=>aa (mQ t.T t.tc t.types w' (h.hd.types.ext (X0.o.trans e)) hf.iD hf.ty));have HB:=aa (SS (t:=t));have oJ:ahg (bX t=t.types.all aQ):=aa rfl;clear hW h ih hf;unfold bl at *;generalize t.tb.bind=R at *;rw[←oJ.o] at HT;clear oJ;generalize bX t=RT at *;cases h1:(t.kind == 11)
 case false=>
  rw[h1] at HB;go_enter Tryz.func134,Tryz.ntmps134;go_upto_region 1 with fail;rw[HW.o];obtain⟨c0,c1,c2,c3,c4,c5⟩:=B1.o.cells;have n1:=B1.o.lt;go_wp2;go_ret;exact⟨by rw[HB.o];rfl,X0.o⟩
 rw[h1] at HB;cases h2:(t.name == ([]:aj))
 case true=>
  rw[h2] at HB;go_enter Tryz.func134,Tryz.ntmps134;go_upto_region 1 with fail;rw[HW.o];obtain⟨c0,c1,c2,c3,c4,c5⟩:=B1.o.cells;have n1:=B1.o.lt;go_wp2;go_ret;exact⟨by rw[HB.o];rfl,X0.o⟩
 rw[h2] at HB;cases h3:(t.n == 0)
 case false=>
  rw[h3] at HB;go_enter Tryz.func134,Tryz.ntmps134;go_upto_region 1 with fail;rw[HW.o];obtain⟨c0,c1,c2,c3,c4,c5⟩:=B1.o.cells;have n1:=B1.o.lt;go_wp2;go_ret;exact⟨by rw[HB.o];rfl,X0.o⟩
 rw[h3] at HB;cases h4:((t.types.length:Int) == 1)
 case false=>
  rw[h4] at HB;go_enter Tryz.func134,Tryz.ntmps134;go_upto_region 1 with fail;rw[HW.o];obtain⟨c0,c1,c2,c3,c4,c5⟩:=B1.o.cells;have n1:=B1.o.lt;go_wp2;go_ret;exact⟨by rw[HB.o];rfl,X0.o⟩
 rw[h4] at HB;go_enter Tryz.func134,Tryz.ntmps134;go_upto_region 1 with fail;rw[HW.o];obtain⟨c0,c1,c2,c3,c4,c5⟩:=B1.o.cells;have n1:=B1.o.lt;go_wp2_with fail;refine(HT.o _ (eR W)).o.mono ?_;rintro e w2 ⟨rfl,hx2⟩;have X2:=aa hx2;clear hx2 c0 c1 c2 c3 c4 c5 n1 h1 h2 h3 h4;cases RT
 case false=>
  go_wp2;go_ret;exact⟨by rw[HB.o];rfl,X0.o.trans X2.o⟩
 obtain⟨c0,c1,c2,c3,c4,c5⟩:=(B1.o.ext X2.o).cells;have n1:=(B1.o.ext X2.o).lt;cases h5:((t.kids.length:Int) == 1)
 case false=>
  rw[h5] at HB;go_wp2;go_ret;exact⟨by rw[HB.o];rfl,X0.o.trans X2.o⟩
 rw[h5] at HB;have hl:0<t.kids.length:=by have:=h5;simp only[beq_iff_eq] at this;omega
 have qU:(t.kids.length:Int)=1:=by have:=h5;simpa using this
 obtain⟨b,o,hA,hb,q0,q1,q2,q3,q4,q5⟩:=(Hk.o.ext (X0.o.trans X2.o)).at_ hl;simp only[Nat.zero_mul,Nat.add_zero] at q0 q1 q2 q3 q4 q5;have hm:=ahh hl;have HC:=aa (HI.o _ hm w2 ((Hk.o.kids _ hm).ext (X0.o.trans X2.o))).o;rw[qp hl] at HB;rw[hA] at c5;have jL:(0:Int)<(t.kids.length:Int):=by omega
 clear hA hm qU;generalize t.kids[0]'hl=c at *;generalize c.tb.term=Rc at *;go_wp2_with fail;refine HC.o.mono ?_;rintro e w3 ⟨rfl,hx3⟩;have X3:=aa (X2.o.trans hx3);clear hx3 c0 c1 c2 c3 c4 c5 n1 q0 q1 q2 q3 q4 q5;go_wp2;go_ret;exact⟨by rw[HB.o];rfl,X0.o.trans X3.o⟩
theorem KW (t:Tm) (hk:t.kind=10) (ih:∀k∈t.kids,cf k∧∀k2∈k.kids,cf k2) (w:World) (h:aM w t) (hf:cY t):Calls Tryz.prog 90 #[bl t] w fun e w'=>e=.returned (.bool t.tb.term)∧Ext w w':=by
 obtain⟨W,hW⟩:∃W,W=w.alloc (.cells #[.int .i64 t.kind,.int .i64 t.n,encStr t.name,.slice t.V t.vars.length t.vc,.slice t.T t.types.length t.tc,.slice t.A t.kids.length t.cap] 40):=⟨_,rfl⟩;have HW:=aa hW.symm;have X0:ahg (Ext w W):=aa (by rw[hW];exact(eR _).alloc _);have B1:ahg (av W w.heap.size t):=aa (by rw[hW];exact av.new w t);have Hk:=aa h.all;have hle:=h.hd.le;have hmx:=h.hd.max;have HI:=aa (fun k hk w' jF=>aa ((ih k hk).1 w' jF (hf.kids k hk)));have Qp:=aa (fun k hk w' jF=>aa (yX k (ih k hk).2 w' jF (hf.kids k hk)));have HH:=aa (fun w'=>aa (fC t false 0 t.kids.length w'));have HB:=aa (MT hk);clear hW h ih hf hk
 by_cases hL:t.kids.length=0
 ·have hl0:(t.kids.length:Int)=0:=by omega
  have hs0:(t.kids.length:Int) - 1 = -1:=by omega
  have Ye:ahg (t.tb.term=false):=aa (by rw[HB.o,hL];rfl);clear HB HH HI Qp Hk hL hl0;unfold bl at *;generalize t.tb.term=R at *;go_enter Tryz.func90,Tryz.ntmps90;go_upto_region 1 with fail;rw[HW.o];obtain⟨c0,c1,c2,c3,c4,c5⟩:=B1.o.cells;have n1:=B1.o.lt;go_wp2;go_ret;exact⟨by rw[Ye.o];rfl,X0.o⟩
 ·obtain⟨L,hL⟩:∃L,t.kids.length=L+1:=⟨t.kids.length - 1,by omega⟩;have gy:ahg (t.tb.term=(hasB t false 0 t.kids.length&&(t.kids.take L).all (fun k=>k.tb.bind)&&(TB.at_ (t.kids.map Tm.tb) L).term)):=aa (by
   have:=HB.o;rw[show decide (1≤t.kids.length)=true from decide_eq_true (by omega),show t.kids.length - 1=L by omega,Bool.true_and] at this;exact this)
  have hs0:(t.kids.length:Int) - 1=(L:Int):=by omega
  have hs1:(L:Int)+1=(t.kids.length:Int):=by omega
  have hLn:¬(L:Int)<0:=by omega
  have SV:L<t.kids.length:=by omega
  have hLm:(L:Int)<9223372036854775807:=by omega
  have HL:=aa hL;clear HB hL;unfold bl at *;generalize t.tb.term=R at *;generalize hasB t false 0 t.kids.length=R0 at *;go_enter Tryz.func90,Tryz.ntmps90;go_upto_region 1 with fail;rw[HW.o];obtain⟨c0,c1,c2,c3,c4,c5⟩:=B1.o.cells;have n1:=B1.o.lt;go_wp2_with fail;refine(HH.o _).o.mono ?_;rintro e w2 ⟨rfl,hx2⟩;have X2:=aa hx2;clear hx2 c0 c1 c2 c3 c4 c5 n1;cases R0
  case false=>
   go_wp2;go_ret;exact⟨by rw[gy.o];rfl,X0.o.trans X2.o⟩
  have ma:ahg (∀(j:Nat) (hj:j<t.kids.length),j<L→(t.kids[j]'hj).tb.bind=false→R=false):=aa (fun j hj hjL h=>by
   rw[gy.o];have:(t.kids.take L).all (fun k=>k.tb.bind)=false:=by
    rw[Bool.eq_false_iff];intro k2;rw[ahA] at k2;have hm:(t.kids[j]'hj)∈t.kids.take L:=by
     rw[List.mem_iff_getElem];exact⟨j,by rw[List.length_take];omega,List.getElem_take⟩
    rw[k2 _ hm] at h;cases h
   rw[this];rfl)
  have Kz:ahg ((∀k∈t.kids.take L,k.tb.bind=true)→R=(t.kids[L]'SV).tb.term):=aa (fun h=>by
   rw[gy.o,List.all_eq_true.2 h,qp SV];rfl)
  clear gy HH;go_wp2
  go_loopw [4] (fun i wr=>∃j:Nat,j≤L∧i=.int .i64 j∧ahg (Ext W wr)∧ahg (∀k∈t.kids.take j,k.tb.bind=true)) (fun i _=>L - (intOf i).toNat)
  case atStart=>exact⟨0,ahj _,rfl,X2,aa (fun x hx=>by cases hx)⟩
  case round=>
   obtain⟨j,hj,rfl,HX,HJ⟩:=hrel;obtain⟨c0,c1,c2,c3,c4,c5⟩:=(B1.o.ext HX.o).cells;have n1:=(B1.o.ext HX.o).lt
   by_cases hlt:j<L
   ·have aS:(j:Int)<(L:Int):=by omega
    have q8:(0:Int)≤(j:Int):=by omega
    have xF:j<t.kids.length:=by omega
    have adU:(j:Int)<(t.kids.length:Int):=by omega
    obtain⟨b,o,hA,hb,q0,q1,q2,q3,q4,q5⟩:=(Hk.o.ext (X0.o.trans HX.o)).at_ xF;have hm:=ahh xF;have HC:=aa (Qp.o _ hm wr ((Hk.o.kids _ hm).ext (X0.o.trans HX.o))).o;have cS:ahg (t.kids.take (j+1)=t.kids.take j++[t.kids[j]'xF]):=aa (ahl xF);have zQ:=aa (ma.o j xF hlt);rw[hA] at c5;clear hm hA;generalize t.kids[j]'xF=c at *;generalize hR:c.tb.bind=Rc at *;have HR:=aa hR;clear hR;go_wp2_with fail;refine HC.o.mono ?_;rintro e w3 ⟨rfl,hx3⟩;have X3:=aa (HX.o.trans hx3);clear hx3;cases Rc
    ·go_wp2;go_ret;exact⟨by rw[zQ.o (by first|exact trivial|rfl)];rfl,X0.o.trans X3.o⟩
    ·go_wp2;go_roundw
     case rel=>exact⟨j+1,hlt,by go_num,X3,aa (fun x hx=>by
      rw[cS.o] at hx
      rcases List.mem_append.1 hx with hx|hx
      ·exact HJ.o x hx
      ·rw[ahx] at hx;subst hx;exact HR.o)⟩
     case measure=>simp[intOf];omega
   ·have bU:¬(j:Int)<(L:Int):=by omega
    have hjL:j=L:=by omega
    have ou:=aa (Kz.o (by rw[←hjL];exact HJ.o));have WK:(0:Int)≤(L:Int):=by omega
    have hL2:(L:Int)<(t.kids.length:Int):=by omega
    obtain⟨b,o,hA,hb,q0,q1,q2,q3,q4,q5⟩:=(Hk.o.ext (X0.o.trans HX.o)).at_ SV;have hm:=ahh SV;have HC:=aa (HI.o _ hm wr ((Hk.o.kids _ hm).ext (X0.o.trans HX.o))).o;rw[hA] at c5;clear hm hA Kz ma;generalize t.kids[L]'SV=c at *;generalize c.tb.term=Rc at *;go_wp2_with fail;refine HC.o.mono ?_;rintro e w3 ⟨rfl,hx3⟩;have X3:=aa (HX.o.trans hx3);clear hx3;go_wp2;go_ret;exact⟨by rw[ou.o];rfl,X0.o.trans X3.o⟩
theorem Gp (t:Tm) (hk:t.kind=8) (ih:∀k∈t.kids,cf k∧∀k2∈k.kids,cf k2) (w:World) (h:aM w t) (hf:cY t):Calls Tryz.prog 89 #[bl t] w fun e w'=>e=.returned (.bool t.tb.term)∧Ext w w':=by
 obtain⟨W,hW⟩:∃W,W=w.alloc (.cells #[.int .i64 t.kind,.int .i64 t.n,encStr t.name,.slice t.V t.vars.length t.vc,.slice t.T t.types.length t.tc,.slice t.A t.kids.length t.cap] 40):=⟨_,rfl⟩;have HW:=aa hW.symm;have X0:ahg (Ext w W):=aa (by rw[hW];exact(eR _).alloc _);have B1:ahg (av W w.heap.size t):=aa (by rw[hW];exact av.new w t);have Hk:=aa h.all;have hle:=h.hd.le;have hmx:=h.hd.max;have HI:=aa (fun k hk w' jF=>aa ((ih k hk).1 w' jF (hf.kids k hk)));have lQ:=aa (fun k hk k2 (hk2:k2∈k.kids) w' jF=>aa ((ih k hk).2 k2 hk2 w' jF ((hf.kids k hk).kids k2 hk2)));have HP:=aa (fun k w' jF=>aa (Cz k w' jF));have HH:=aa (fun w'=>aa (fC t false 0 t.kids.length w'));have Yf:=aa (fun a w'=>aa (fC a false 0 (2:Nat) w'));have HB:=aa (SU hk);clear hW h ih hf hk
 by_cases h2:(t.kids.length:Int)<2
 ·have Ye:ahg (t.tb.term=false):=aa (by rw[HB.o,decide_eq_false (by omega:¬2≤t.kids.length)];rfl);clear HB HH HI lQ HP Yf Hk;unfold bl at *;generalize t.tb.term=R at *;go_enter Tryz.func89,Tryz.ntmps89;go_upto_region 1 with fail;rw[HW.o];obtain⟨c0,c1,c2,c3,c4,c5⟩:=B1.o.cells;have n1:=B1.o.lt;go_wp2;go_ret;exact⟨by rw[Ye.o];rfl,X0.o⟩
 have hl:0<t.kids.length:=by omega
 have gy:ahg (t.tb.term=(hasB t false 0 t.kids.length&&(t.kids[0]'hl).tb.term&&(t.kids.drop 1).all (fun k=>k.tb.alt))):=aa (by
  have:=HB.o;rw[decide_eq_true (by omega:2≤t.kids.length),qp hl,Bool.true_and] at this;exact this)
 clear HB;unfold bl at *;generalize t.tb.term=R at *;generalize hasB t false 0 t.kids.length=R0 at *;go_enter Tryz.func89,Tryz.ntmps89;go_upto_region 1 with fail;rw[HW.o];obtain⟨c0,c1,c2,c3,c4,c5⟩:=B1.o.cells;have n1:=B1.o.lt;go_wp2_with fail;refine(HH.o _).o.mono ?_;rintro e w2 ⟨rfl,hx2⟩;have X2:=aa hx2;clear hx2 c0 c1 c2 c3 c4 c5 n1 HH;cases R0
 case false=>
  go_wp2;go_ret;exact⟨by rw[gy.o];rfl,X0.o.trans X2.o⟩
 obtain⟨c0,c1,c2,c3,c4,c5⟩:=(B1.o.ext X2.o).cells;have n1:=(B1.o.ext X2.o).lt;obtain⟨b,o,hA,hb,q0,q1,q2,q3,q4,q5⟩:=(Hk.o.ext (X0.o.trans X2.o)).at_ hl;simp only[Nat.zero_mul,Nat.add_zero] at q0 q1 q2 q3 q4 q5;have hm:=ahh hl;have HC:=aa (HI.o _ hm w2 ((Hk.o.kids _ hm).ext (X0.o.trans X2.o))).o;have jL:(0:Int)<(t.kids.length:Int):=by omega
 have zO:=aa hA;rw[hA] at c5;clear hm hA;have ma:ahg (∀(j:Nat) (hj:j<t.kids.length),1≤j→(t.kids[j]'hj).tb.alt=false→R=false):=aa (fun j hj h1 h=>by
  rw[gy.o];have:(t.kids.drop 1).all (fun k=>k.tb.alt)=false:=by
   rw[Bool.eq_false_iff];intro k2;rw[ahA] at k2;have hm:(t.kids[j]'hj)∈t.kids.drop 1:=by
    rw[List.mem_iff_getElem];exact⟨j - 1,by rw[List.length_drop];omega,by rw[List.getElem_drop];congr 1;omega⟩
   rw[k2 _ hm] at h;cases h
  rw[this,Bool.and_false])
 have Kz:ahg ((t.kids[0]'hl).tb.term=true→(∀k∈t.kids.drop 1,k.tb.alt=true)→R=true):=aa (fun h1 h=>by
  rw[gy.o,List.all_eq_true.2 h,h1];rfl)
 have Vk:ahg ((t.kids[0]'hl).tb.term=false→R=false):=aa (fun h=>by
  rw[gy.o,h];rfl)
 clear gy HI;generalize t.kids[0]'hl=c at *;generalize c.tb.term=Rc at *;go_wp2_with fail;refine HC.o.mono ?_;rintro e w3 ⟨rfl,hx3⟩;have X3:=aa (X2.o.trans hx3);clear hx3 c0 c1 c2 c3 c4 c5 n1 q0 q1 q2 q3 q4 q5 hb HC;cases Rc
 case false=>
  go_wp2;go_ret;exact⟨by rw[Vk.o (by first|exact trivial|rfl)];rfl,X0.o.trans X3.o⟩
 clear Vk;go_wp2
 go_loopw [3] (fun i wr=>∃j:Nat,1≤j∧j≤t.kids.length∧i=.int .i64 j∧ahg (Ext W wr)∧ahg (∀(m:Nat) (hm:m<t.kids.length),1≤m→m<j→(t.kids[m]'hm).tb.alt=true)) (fun i _=>t.kids.length - (intOf i).toNat)
 case atStart=>exact⟨1,ahi _,by omega,rfl,X3,aa (fun m hm h1 h2=>by omega)⟩
 case round=>
  obtain⟨j,hj1,hj,rfl,HX,HJ⟩:=hrel;obtain⟨c0,c1,c2,c3,c4,c5⟩:=(B1.o.ext HX.o).cells;have n1:=(B1.o.ext HX.o).lt
  by_cases hlt:j<t.kids.length
  ·have aS:(j:Int)<(t.kids.length:Int):=by omega
   have q8:(0:Int)≤(j:Int):=by omega
   obtain⟨b,o,hA,hb,q0,q1,q2,q3,q4,q5⟩:=(Hk.o.ext (X0.o.trans HX.o)).at_ hlt;have hm:=ahh hlt;have Hc:=aa ((Hk.o.kids _ hm).ext (X0.o.trans HX.o));have zQ:=aa (ma.o j hlt hj1);have Vl:=aa (lQ.o _ hm);have mn:ahg ((t.kids[j]'hlt).tb.alt=true→∀(m:Nat) (hm:m<t.kids.length),1≤m→m<j+1→(t.kids[m]'hm).tb.alt=true):=aa (fun h m hm h1 h2=>by
    by_cases e:m=j
    ·subst e;exact h
    ·exact HJ.o m hm h1 (by omega))
   rw[hA] at c5;clear hm hA;generalize t.kids[j]'hlt=a at *;go_upto_region 7 with fail;refine bC ?_;intro W7 sG;have E7:ahg (Ext wr W7):=aa (by rw[sG];exact(eR _).alloc _);have D7:ahg (av W7 wr.heap.size a):=aa (by rw[sG];exact av.new wr a);have X7:=aa (HX.o.trans E7.o);clear sG c0 c1 c2 c3 c4 c5 n1 q0 q1 q2 q3 q4 q5 hb;obtain⟨d0,d1,d2,d3,d4,d5⟩:=D7.o.cells;have n7:=D7.o.lt
   by_cases h9:a.kind=9
   ·have hne:(a.kind != 9)=false:=by simp[h9]
    have Vm:=aa (Yb h9);clear h9;have Yg:=aa (Yf.o a);have MU:ahg (hasB a false 0 ((2:Nat):Int)=true→a.kids.length=2):=aa (fun h=>Gn h);have e2:((2:Nat):Int)=2:=rfl;rw[e2] at Yg MU;generalize a.tb.alt=Ra at *;generalize hasB a false 0 2=R1 at *;clear e2;go_wp2_with fail;refine(Yg.o _).o.mono ?_;rintro e w8 ⟨rfl,qi⟩;have E8:=aa (E7.o.trans qi);have D8:=aa (D7.o.ext qi);have X8:=aa (X7.o.trans qi);clear qi d0 d1 d2 d3 d4 d5 n7 hne Yg E7 D7 X7;cases R1
    case false=>
     have OD:Ra=false:=by rw[Vm.o];rfl
     subst OD;go_wp2;go_ret;exact⟨by rw[zQ.o (by first|exact trivial|rfl)];rfl,X0.o.trans X8.o⟩
    have ha2:=MU.o (by first|exact trivial|rfl);have ha0:0<a.kids.length:=by omega
    have ha1:1<a.kids.length:=by omega
    have Xr:(a.kids.length:Int)=2:=by omega
    have oM:=aa (Hc.o.ext E8.o).all;obtain⟨b,o,hA,hb,p0,p1,p2,p3,p4,p5⟩:=oM.o.at_ ha0;simp only[Nat.zero_mul,Nat.add_zero] at p0 p1 p2 p3 p4 p5;obtain⟨d0,d1,d2,d3,d4,d5⟩:=D8.o.cells;have n7:=D8.o.lt;rw[hA,ha2] at d5;have HPa:=aa (HP.o _ w8 (oM.o.kids _ (ahh ha0))).o;rw[qp ha0,qp ha1] at Vm;have HI4:=aa (fun w' (e:Ext w8 w')=>Vl.o _ (ahh ha1) w' ((oM.o.kids _ (ahh ha1)).ext e));have HQ1:=aa (fun w' (e:Ext w8 w')=>(oM.o.ext e).at_ ha1);have Og:=aa hA;clear Vl hA ha2 Xr;generalize a.kids[0]'ha0=k0 at *;generalize a.kids[1]'ha1=k1 at *;generalize k0.tb.pat=R2 at *;generalize k1.tb.term=R3 at *;go_wp2_with fail;refine HPa.o.mono ?_;rintro e w9 ⟨rfl,Qq⟩;have E9:=aa Qq;have X9:=aa (X8.o.trans Qq);have D9:=aa (D8.o.ext Qq);clear Qq d0 d1 d2 d3 d4 n7 p0 p1 p2 p3 p4 p5 HPa hb;cases R2
    case false=>
     have OD:Ra=false:=by rw[Vm.o];rfl
     subst OD;go_wp2;go_ret;exact⟨by rw[zQ.o (by first|exact trivial|rfl)];rfl,X0.o.trans X9.o⟩
    have d5:=E9.o.cell d5;obtain⟨b2,o2,FD,hb2,p0,p1,p2,p3,p4,p5⟩:=HQ1.o w9 E9.o;rw[Og.o] at FD;injection FD with FD;injection FD with hA3 hA4;subst hA3 hA4;have n7:=D9.o.lt;have HC4:=aa (HI4.o w9 E9.o).o;simp only[Nat.one_mul] at p0 p1 p2 p3 p4 p5;clear HQ1 Og;go_wp2_with fail;refine HC4.o.mono ?_;rintro e Rz ⟨rfl,uf⟩;have Vn:=aa (X9.o.trans uf);clear uf p0 p1 p2 p3 p4 p5 d5 n7 hb2;have OD:Ra=R3:=by rw[Vm.o];rfl
    subst OD;cases Ra
    ·go_wp2;go_ret;exact⟨by rw[zQ.o (by first|exact trivial|rfl)];rfl,X0.o.trans Vn.o⟩
    ·go_wp2;go_roundw
     case rel=>exact⟨j+1,by omega,hlt,by go_num,Vn,aa (mn.o (by first|exact trivial|rfl))⟩
     case measure=>simp[intOf];omega
   ·have hne:(a.kind != 9)=true:=by simpa using h9
    have OD:=aa (zQ.o (OB h9));clear h9;go_wp2;go_ret;exact⟨by rw[OD.o];rfl,X0.o.trans X7.o⟩
  ·have bU:¬(j:Int)<(t.kids.length:Int):=by omega
   have ou:=aa (Kz.o (by first|exact trivial|rfl) (fun k hk=>by
    obtain⟨m,hm,rfl⟩:=List.mem_iff_getElem.1 hk;rw[List.length_drop] at hm;rw[List.getElem_drop];exact HJ.o (1+m) (by omega) (by omega) (by omega)))
   clear Kz ma lQ HP Yf;go_wp2;go_ret;exact⟨by rw[ou.o];rfl,X0.o.trans HX.o⟩
theorem KX (t:Tm) (hk:t.kind=1) (_:∀k∈t.kids,cf k∧∀k2∈k.kids,cf k2):cf t:=by
 intro w h hf;obtain⟨W,hW⟩:∃W,W=w.alloc (.cells #[.int .i64 t.kind,.int .i64 t.n,encStr t.name,.slice t.V t.vars.length t.vc,.slice t.T t.types.length t.tc,.slice t.A t.kids.length t.cap] 40):=⟨_,rfl⟩;have HW:=aa hW.symm;have X0:ahg (Ext w W):=aa (by rw[hW];exact(eR _).alloc _);have B1:ahg (av W w.heap.size t):=aa (by rw[hW];exact av.new w t);have HB:=aa (XS hk);have HH:=aa (fun w'=>aa (fC t true 0 0 w'));have k1:(t.kind == 1)=true:=by rw[hk];rfl
 clear hW h hf hk;unfold bl at *;generalize t.tb.term=R at *;generalize hasB t true 0 0=RH at *;go_enter Tryz.func55,Tryz.ntmps55;go_upto_region 1 with fail;rw[HW.o];clear HW;obtain⟨c0,c1,c2,c3,c4,c5⟩:=(B1.o.ext (eR W)).cells;have n1:=(B1.o.ext (eR W)).lt;go_wp2_with fail;refine(HH.o _).o.mono ?_;rintro e w2 ⟨rfl,hx2⟩;have X2:=aa hx2;clear hx2 c0 c1 c2 c3 c4 c5 n1;go_wp2;go_ret;exact⟨by first|(rw[HB.o];rfl)|rfl,X0.o.trans X2.o⟩
theorem KY (t:Tm) (hk:t.kind=2) (_:∀k∈t.kids,cf k∧∀k2∈k.kids,cf k2):cf t:=by
 intro w h hf;obtain⟨W,hW⟩:∃W,W=w.alloc (.cells #[.int .i64 t.kind,.int .i64 t.n,encStr t.name,.slice t.V t.vars.length t.vc,.slice t.T t.types.length t.tc,.slice t.A t.kids.length t.cap] 40):=⟨_,rfl⟩;have HW:=aa hW.symm;have X0:ahg (Ext w W):=aa (by rw[hW];exact(eR _).alloc _);have B1:ahg (av W w.heap.size t):=aa (by rw[hW];exact av.new w t);have HB:=aa (SJ (t:=t) (.inl hk));have HH:=aa (fun w'=>aa (qm t 0 w'));have k1:(t.kind == 1)=false:=by rw[hk];rfl
 have k2:(t.kind == 2)=true:=by rw[hk];rfl
 clear hW h hf hk;unfold bl at *;generalize t.tb.term=R at *;generalize ly t 0=RH at *;go_enter Tryz.func55,Tryz.ntmps55;go_upto_region 1 with fail;rw[HW.o];clear HW;obtain⟨c0,c1,c2,c3,c4,c5⟩:=(B1.o.ext (eR W)).cells;have n1:=(B1.o.ext (eR W)).lt;go_wp2_with fail;refine(HH.o _).o.mono ?_;rintro e w2 ⟨rfl,hx2⟩;have X2:=aa hx2;clear hx2 c0 c1 c2 c3 c4 c5 n1;go_wp2;go_ret;exact⟨by first|(rw[HB.o];rfl)|rfl,X0.o.trans X2.o⟩
theorem Gq (t:Tm) (hk:t.kind=14) (_:∀k∈t.kids,cf k∧∀k2∈k.kids,cf k2):cf t:=by
 intro w h hf;obtain⟨W,hW⟩:∃W,W=w.alloc (.cells #[.int .i64 t.kind,.int .i64 t.n,encStr t.name,.slice t.V t.vars.length t.vc,.slice t.T t.types.length t.tc,.slice t.A t.kids.length t.cap] 40):=⟨_,rfl⟩;have HW:=aa hW.symm;have X0:ahg (Ext w W):=aa (by rw[hW];exact(eR _).alloc _);have B1:ahg (av W w.heap.size t):=aa (by rw[hW];exact av.new w t);have HB:=aa (SJ (t:=t) (.inr hk));have HH:=aa (fun w'=>aa (qm t 0 w'));have k1:(t.kind == 1)=false:=by rw[hk];rfl
 have k2:(t.kind == 2)=false:=by rw[hk];rfl
 have Jr:(t.kind == 14)=true:=by rw[hk];rfl
 clear hW h hf hk;unfold bl at *;generalize t.tb.term=R at *;generalize ly t 0=RH at *;go_enter Tryz.func55,Tryz.ntmps55;go_upto_region 1 with fail;rw[HW.o];clear HW;obtain⟨c0,c1,c2,c3,c4,c5⟩:=(B1.o.ext (eR W)).cells;have n1:=(B1.o.ext (eR W)).lt;go_wp2_with fail;refine(HH.o _).o.mono ?_;rintro e w2 ⟨rfl,hx2⟩;have X2:=aa hx2;clear hx2 c0 c1 c2 c3 c4 c5 n1;go_wp2;go_ret;exact⟨by first|(rw[HB.o];rfl)|rfl,X0.o.trans X2.o⟩
theorem KZ (t:Tm) (hk:t.kind=3) (ih:∀k∈t.kids,cf k∧∀k2∈k.kids,cf k2):cf t:=by
 intro w h hf;obtain⟨W,hW⟩:∃W,W=w.alloc (.cells #[.int .i64 t.kind,.int .i64 t.n,encStr t.name,.slice t.V t.vars.length t.vc,.slice t.T t.types.length t.tc,.slice t.A t.kids.length t.cap] 40):=⟨_,rfl⟩;have HW:=aa hW.symm;have X0:ahg (Ext w W):=aa (by rw[hW];exact(eR _).alloc _);have B1:ahg (av W w.heap.size t):=aa (by rw[hW];exact av.new w t);have HB:=aa (XU hk);have HH:=aa (fun w'=>aa (fC t true 1 1 w'));have HT:=aa (fun w' (e:Ext W w')=>aa (mQ t.T t.tc t.types w' (h.hd.types.ext (X0.o.trans e)) hf.iD hf.ty));have oJ:ahg (bX t=t.types.all aQ):=aa rfl;have HA:=aa (fun w' (e:Ext W w')=>aa (kL t (fun k hk=>(ih k hk).1) w' (h.ext (X0.o.trans e)) hf));have k1:(t.kind == 1)=false:=by rw[hk];rfl
 have k2:(t.kind == 2)=false:=by rw[hk];rfl
 have Jr:(t.kind == 14)=false:=by rw[hk];rfl
 have k3:(t.kind == 3)=true:=by rw[hk];rfl
 clear hW h ih hf hk;unfold bl at *;generalize t.tb.term=R at *;generalize hasB t true 1 1=RH at *;rw[←oJ.o] at HT;clear oJ;generalize bX t=RT at *;generalize cZ t=RA at *;go_enter Tryz.func55,Tryz.ntmps55;go_upto_region 1 with fail;rw[HW.o];clear HW;obtain⟨c0,c1,c2,c3,c4,c5⟩:=(B1.o.ext (eR W)).cells;have n1:=(B1.o.ext (eR W)).lt;go_wp2_with fail;refine(HH.o _).o.mono ?_;rintro e w2 ⟨rfl,hx2⟩;have X2:=aa hx2;clear hx2 c0 c1 c2 c3 c4 c5 n1;cases RH
 case false=>
  go_wp2;go_ret;exact⟨by first|(rw[HB.o];rfl)|rfl,X0.o.trans X2.o⟩
 obtain⟨c0,c1,c2,c3,c4,c5⟩:=(B1.o.ext X2.o).cells;have n1:=(B1.o.ext X2.o).lt;go_wp2_with fail;refine(HT.o _ X2.o).o.mono ?_;rintro e w3 ⟨rfl,hx3⟩;have X3:=aa ((X2.o).trans hx3);clear hx3 c0 c1 c2 c3 c4 c5 n1;cases RT
 case false=>
  go_wp2;go_ret;exact⟨by first|(rw[HB.o];rfl)|rfl,X0.o.trans X3.o⟩
 obtain⟨c0,c1,c2,c3,c4,c5⟩:=(B1.o.ext X3.o).cells;have n1:=(B1.o.ext X3.o).lt;go_wp2_with fail;refine(HA.o _ X3.o).o.mono ?_;rintro e w4 ⟨rfl,eP⟩;have X4:=aa ((X3.o).trans eP);clear eP c0 c1 c2 c3 c4 c5 n1;go_wp2;go_ret;exact⟨by first|(rw[HB.o];rfl)|rfl,X0.o.trans X4.o⟩
theorem K6 (t:Tm) (hk:t.kind=4) (ih:∀k∈t.kids,cf k∧∀k2∈k.kids,cf k2):cf t:=by
 intro w h hf;obtain⟨W,hW⟩:∃W,W=w.alloc (.cells #[.int .i64 t.kind,.int .i64 t.n,encStr t.name,.slice t.V t.vars.length t.vc,.slice t.T t.types.length t.tc,.slice t.A t.kids.length t.cap] 40):=⟨_,rfl⟩;have HW:=aa hW.symm;have X0:ahg (Ext w W):=aa (by rw[hW];exact(eR _).alloc _);have B1:ahg (av W w.heap.size t):=aa (by rw[hW];exact av.new w t);have HB:=aa (XV hk);have HH:=aa (fun w'=>aa (fC t false 0 2 w'));have HA:=aa (fun w' (e:Ext W w')=>aa (kL t (fun k hk=>(ih k hk).1) w' (h.ext (X0.o.trans e)) hf));have k1:(t.kind == 1)=false:=by rw[hk];rfl
 have k2:(t.kind == 2)=false:=by rw[hk];rfl
 have Jr:(t.kind == 14)=false:=by rw[hk];rfl
 have k3:(t.kind == 3)=false:=by rw[hk];rfl
 have k4:(t.kind == 4)=true:=by rw[hk];rfl
 clear hW h ih hf hk;unfold bl at *;generalize t.tb.term=R at *;generalize hasB t false 0 2=RH at *;generalize cZ t=RA at *;go_enter Tryz.func55,Tryz.ntmps55;go_upto_region 1 with fail;rw[HW.o];clear HW;obtain⟨c0,c1,c2,c3,c4,c5⟩:=(B1.o.ext (eR W)).cells;have n1:=(B1.o.ext (eR W)).lt;go_wp2_with fail;refine(HH.o _).o.mono ?_;rintro e w2 ⟨rfl,hx2⟩;have X2:=aa hx2;clear hx2 c0 c1 c2 c3 c4 c5 n1;cases RH
 case false=>
  go_wp2;go_ret;exact⟨by first|(rw[HB.o];rfl)|rfl,X0.o.trans X2.o⟩
 obtain⟨c0,c1,c2,c3,c4,c5⟩:=(B1.o.ext X2.o).cells;have n1:=(B1.o.ext X2.o).lt;go_wp2_with fail;refine(HA.o _ X2.o).o.mono ?_;rintro e w3 ⟨rfl,hx3⟩;have X3:=aa ((X2.o).trans hx3);clear hx3 c0 c1 c2 c3 c4 c5 n1;go_wp2;go_ret;exact⟨by first|(rw[HB.o];rfl)|rfl,X0.o.trans X3.o⟩
theorem K9 (t:Tm) (hk:t.kind=6) (ih:∀k∈t.kids,cf k∧∀k2∈k.kids,cf k2):cf t:=by
 intro w h hf;obtain⟨W,hW⟩:∃W,W=w.alloc (.cells #[.int .i64 t.kind,.int .i64 t.n,encStr t.name,.slice t.V t.vars.length t.vc,.slice t.T t.types.length t.tc,.slice t.A t.kids.length t.cap] 40):=⟨_,rfl⟩;have HW:=aa hW.symm;have X0:ahg (Ext w W):=aa (by rw[hW];exact(eR _).alloc _);have B1:ahg (av W w.heap.size t):=aa (by rw[hW];exact av.new w t);have HB:=aa (XZ hk);have HH:=aa (fun w'=>aa (fC t false t.types.length 1 w'));have HT:=aa (fun w' (e:Ext W w')=>aa (mQ t.T t.tc t.types w' (h.hd.types.ext (X0.o.trans e)) hf.iD hf.ty));have oJ:ahg (bX t=t.types.all aQ):=aa rfl;have HA:=aa (fun w' (e:Ext W w')=>aa (kL t (fun k hk=>(ih k hk).1) w' (h.ext (X0.o.trans e)) hf));have k1:(t.kind == 1)=false:=by rw[hk];rfl
 have k2:(t.kind == 2)=false:=by rw[hk];rfl
 have Jr:(t.kind == 14)=false:=by rw[hk];rfl
 have k3:(t.kind == 3)=false:=by rw[hk];rfl
 have k4:(t.kind == 4)=false:=by rw[hk];rfl
 have k5:(t.kind == 5)=false:=by rw[hk];rfl
 have k6:(t.kind == 6)=true:=by rw[hk];rfl
 clear hW h ih hf hk;unfold bl at *;generalize t.tb.term=R at *;generalize hasB t false t.types.length 1=RH at *;rw[←oJ.o] at HT;clear oJ;generalize bX t=RT at *;generalize cZ t=RA at *;go_enter Tryz.func55,Tryz.ntmps55;go_upto_region 1 with fail;rw[HW.o];clear HW;obtain⟨c0,c1,c2,c3,c4,c5⟩:=(B1.o.ext (eR W)).cells;have n1:=(B1.o.ext (eR W)).lt;go_wp2_with fail;refine(HH.o _).o.mono ?_;rintro e w2 ⟨rfl,hx2⟩;have X2:=aa hx2;clear hx2 c0 c1 c2 c3 c4 c5 n1;cases RH
 case false=>
  go_wp2;go_ret;exact⟨by first|(rw[HB.o];rfl)|rfl,X0.o.trans X2.o⟩
 obtain⟨c0,c1,c2,c3,c4,c5⟩:=(B1.o.ext X2.o).cells;have n1:=(B1.o.ext X2.o).lt;go_wp2_with fail;refine(HT.o _ X2.o).o.mono ?_;rintro e w3 ⟨rfl,hx3⟩;have X3:=aa ((X2.o).trans hx3);clear hx3 c0 c1 c2 c3 c4 c5 n1;cases RT
 case false=>
  go_wp2;go_ret;exact⟨by first|(rw[HB.o];rfl)|rfl,X0.o.trans X3.o⟩
 obtain⟨c0,c1,c2,c3,c4,c5⟩:=(B1.o.ext X3.o).cells;have n1:=(B1.o.ext X3.o).lt;go_wp2_with fail;refine(HA.o _ X3.o).o.mono ?_;rintro e w4 ⟨rfl,eP⟩;have X4:=aa ((X3.o).trans eP);clear eP c0 c1 c2 c3 c4 c5 n1;go_wp2;go_ret;exact⟨by first|(rw[HB.o];rfl)|rfl,X0.o.trans X4.o⟩
theorem La (t:Tm) (hk:t.kind=7) (_:∀k∈t.kids,cf k∧∀k2∈k.kids,cf k2):cf t:=by
 intro w h hf;obtain⟨W,hW⟩:∃W,W=w.alloc (.cells #[.int .i64 t.kind,.int .i64 t.n,encStr t.name,.slice t.V t.vars.length t.vc,.slice t.T t.types.length t.tc,.slice t.A t.kids.length t.cap] 40):=⟨_,rfl⟩;have HW:=aa hW.symm;have X0:ahg (Ext w W):=aa (by rw[hW];exact(eR _).alloc _);have B1:ahg (av W w.heap.size t):=aa (by rw[hW];exact av.new w t);have HB:=aa (Ya hk);have HH:=aa (fun w'=>aa (fC t true t.types.length 0 w'));have HT:=aa (fun w' (e:Ext W w')=>aa (mQ t.T t.tc t.types w' (h.hd.types.ext (X0.o.trans e)) hf.iD hf.ty));have oJ:ahg (bX t=t.types.all aQ):=aa rfl;have k1:(t.kind == 1)=false:=by rw[hk];rfl
 have k2:(t.kind == 2)=false:=by rw[hk];rfl
 have Jr:(t.kind == 14)=false:=by rw[hk];rfl
 have k3:(t.kind == 3)=false:=by rw[hk];rfl
 have k4:(t.kind == 4)=false:=by rw[hk];rfl
 have k5:(t.kind == 5)=false:=by rw[hk];rfl
 have k6:(t.kind == 6)=false:=by rw[hk];rfl
 have k7:(t.kind == 7)=true:=by rw[hk];rfl
 clear hW h hf hk;unfold bl at *;generalize t.tb.term=R at *;generalize hasB t true t.types.length 0=RH at *;rw[←oJ.o] at HT;clear oJ;generalize bX t=RT at *;go_enter Tryz.func55,Tryz.ntmps55;go_upto_region 1 with fail;rw[HW.o];clear HW;obtain⟨c0,c1,c2,c3,c4,c5⟩:=(B1.o.ext (eR W)).cells;have n1:=(B1.o.ext (eR W)).lt;go_wp2_with fail;refine(HH.o _).o.mono ?_;rintro e w2 ⟨rfl,hx2⟩;have X2:=aa hx2;clear hx2 c0 c1 c2 c3 c4 c5 n1;cases RH
 case false=>
  go_wp2;go_ret;exact⟨by first|(rw[HB.o];rfl)|rfl,X0.o.trans X2.o⟩
 obtain⟨c0,c1,c2,c3,c4,c5⟩:=(B1.o.ext X2.o).cells;have n1:=(B1.o.ext X2.o).lt;go_wp2_with fail;refine(HT.o _ X2.o).o.mono ?_;rintro e w3 ⟨rfl,hx3⟩;have X3:=aa ((X2.o).trans hx3);clear hx3 c0 c1 c2 c3 c4 c5 n1;go_wp2;go_ret;exact⟨by first|(rw[HB.o];rfl)|rfl,X0.o.trans X3.o⟩
theorem Gr (t:Tm) (hk:t.kind=12) (ih:∀k∈t.kids,cf k∧∀k2∈k.kids,cf k2):cf t:=by
 intro w h hf;obtain⟨W,hW⟩:∃W,W=w.alloc (.cells #[.int .i64 t.kind,.int .i64 t.n,encStr t.name,.slice t.V t.vars.length t.vc,.slice t.T t.types.length t.tc,.slice t.A t.kids.length t.cap] 40):=⟨_,rfl⟩;have HW:=aa hW.symm;have X0:ahg (Ext w W):=aa (by rw[hW];exact(eR _).alloc _);have B1:ahg (av W w.heap.size t):=aa (by rw[hW];exact av.new w t);have HB:=aa (SK hk);have HH:=aa (fun w'=>aa (fC t true 1 t.kids.length w'));have HT:=aa (fun w' (e:Ext W w')=>aa (mQ t.T t.tc t.types w' (h.hd.types.ext (X0.o.trans e)) hf.iD hf.ty));have oJ:ahg (bX t=t.types.all aQ):=aa rfl;have HA:=aa (fun w' (e:Ext W w')=>aa (kL t (fun k hk=>(ih k hk).1) w' (h.ext (X0.o.trans e)) hf));have k1:(t.kind == 1)=false:=by rw[hk];rfl
 have k2:(t.kind == 2)=false:=by rw[hk];rfl
 have Jr:(t.kind == 14)=false:=by rw[hk];rfl
 have k3:(t.kind == 3)=false:=by rw[hk];rfl
 have k4:(t.kind == 4)=false:=by rw[hk];rfl
 have k5:(t.kind == 5)=false:=by rw[hk];rfl
 have k6:(t.kind == 6)=false:=by rw[hk];rfl
 have k7:(t.kind == 7)=false:=by rw[hk];rfl
 have k8:(t.kind == 8)=false:=by rw[hk];rfl
 have Yh:(t.kind == 10)=false:=by rw[hk];rfl
 have k12:(t.kind == 12)=true:=by rw[hk];rfl
 clear hW h ih hf hk;unfold bl at *;generalize t.tb.term=R at *;generalize hasB t true 1 t.kids.length=RH at *;rw[←oJ.o] at HT;clear oJ;generalize bX t=RT at *;generalize cZ t=RA at *;go_enter Tryz.func55,Tryz.ntmps55;go_upto_region 1 with fail;rw[HW.o];clear HW;obtain⟨c0,c1,c2,c3,c4,c5⟩:=(B1.o.ext (eR W)).cells;have n1:=(B1.o.ext (eR W)).lt;go_wp2_with fail;refine(HH.o _).o.mono ?_;rintro e w2 ⟨rfl,hx2⟩;have X2:=aa hx2;clear hx2 c0 c1 c2 c3 c4 c5 n1;cases RH
 case false=>
  go_wp2;go_ret;exact⟨by first|(rw[HB.o];rfl)|rfl,X0.o.trans X2.o⟩
 obtain⟨c0,c1,c2,c3,c4,c5⟩:=(B1.o.ext X2.o).cells;have n1:=(B1.o.ext X2.o).lt;go_wp2_with fail;refine(HT.o _ X2.o).o.mono ?_;rintro e w3 ⟨rfl,hx3⟩;have X3:=aa ((X2.o).trans hx3);clear hx3 c0 c1 c2 c3 c4 c5 n1;cases RT
 case false=>
  go_wp2;go_ret;exact⟨by first|(rw[HB.o];rfl)|rfl,X0.o.trans X3.o⟩
 obtain⟨c0,c1,c2,c3,c4,c5⟩:=(B1.o.ext X3.o).cells;have n1:=(B1.o.ext X3.o).lt;go_wp2_with fail;refine(HA.o _ X3.o).o.mono ?_;rintro e w4 ⟨rfl,eP⟩;have X4:=aa ((X3.o).trans eP);clear eP c0 c1 c2 c3 c4 c5 n1;go_wp2;go_ret;exact⟨by first|(rw[HB.o];rfl)|rfl,X0.o.trans X4.o⟩
theorem Lb (t:Tm) (hk:t.kind=5) (ih:∀k∈t.kids,cf k∧∀k2∈k.kids,cf k2):cf t:=by
 intro w h hf;obtain⟨W,hW⟩:∃W,W=w.alloc (.cells #[.int .i64 t.kind,.int .i64 t.n,encStr t.name,.slice t.V t.vars.length t.vc,.slice t.T t.types.length t.tc,.slice t.A t.kids.length t.cap] 40):=⟨_,rfl⟩;have HW:=aa hW.symm;have X0:ahg (Ext w W):=aa (by rw[hW];exact(eR _).alloc _);have B1:ahg (av W w.heap.size t):=aa (by rw[hW];exact av.new w t);have HB:=aa (XY hk);have HA:=aa (fun w' (e:Ext W w')=>aa (kL t (fun k hk=>(ih k hk).1) w' (h.ext (X0.o.trans e)) hf));have k1:(t.kind == 1)=false:=by rw[hk];rfl
 have k2:(t.kind == 2)=false:=by rw[hk];rfl
 have Jr:(t.kind == 14)=false:=by rw[hk];rfl
 have k3:(t.kind == 3)=false:=by rw[hk];rfl
 have k4:(t.kind == 4)=false:=by rw[hk];rfl
 have k5:(t.kind == 5)=true:=by rw[hk];rfl
 clear hW h ih hf hk;unfold bl at *;generalize t.tb.term=R at *;generalize cZ t=RA at *;cases NG:(t.name == ([]:aj))
 case false=>
  rw[NG] at HB;go_enter Tryz.func55,Tryz.ntmps55;go_upto_region 1 with fail;rw[HW.o];clear HW;obtain⟨c0,c1,c2,c3,c4,c5⟩:=(B1.o.ext (eR W)).cells;have n1:=(B1.o.ext (eR W)).lt;go_wp2;go_ret;exact⟨by first|(rw[HB.o];rfl)|rfl,X0.o.trans (eR W)⟩
 rw[NG] at HB;cases KN:(t.n == 0)
 case false=>
  rw[KN] at HB;go_enter Tryz.func55,Tryz.ntmps55;go_upto_region 1 with fail;rw[HW.o];clear HW;obtain⟨c0,c1,c2,c3,c4,c5⟩:=(B1.o.ext (eR W)).cells;have n1:=(B1.o.ext (eR W)).lt;go_wp2;go_ret;exact⟨by first|(rw[HB.o];rfl)|rfl,X0.o.trans (eR W)⟩
 rw[KN] at HB;cases hf2:((t.types.length:Int) == 0)
 case false=>
  rw[hf2] at HB;go_enter Tryz.func55,Tryz.ntmps55;go_upto_region 1 with fail;rw[HW.o];clear HW;obtain⟨c0,c1,c2,c3,c4,c5⟩:=(B1.o.ext (eR W)).cells;have n1:=(B1.o.ext (eR W)).lt;go_wp2;go_ret;exact⟨by first|(rw[HB.o];rfl)|rfl,X0.o.trans (eR W)⟩
 rw[hf2] at HB;cases hf3:((t.kids.length:Int) == 1)
 case false=>
  rw[hf3] at HB;go_enter Tryz.func55,Tryz.ntmps55;go_upto_region 1 with fail;rw[HW.o];clear HW;obtain⟨c0,c1,c2,c3,c4,c5⟩:=(B1.o.ext (eR W)).cells;have n1:=(B1.o.ext (eR W)).lt;go_wp2;go_ret;exact⟨by first|(rw[HB.o];rfl)|rfl,X0.o.trans (eR W)⟩
 rw[hf3] at HB;go_enter Tryz.func55,Tryz.ntmps55;go_upto_region 1 with fail;rw[HW.o];clear HW;obtain⟨c0,c1,c2,c3,c4,c5⟩:=(B1.o.ext (eR W)).cells;have n1:=(B1.o.ext (eR W)).lt;go_wp2_with fail;refine(HA.o _ (eR W)).o.mono ?_;rintro e w6 ⟨rfl,xI⟩;have X6:=aa (((eR W)).trans xI);clear xI c0 c1 c2 c3 c4 c5 n1;go_wp2;go_ret;exact⟨by first|(rw[HB.o];rfl)|rfl,X0.o.trans X6.o⟩
theorem Gs (t:Tm) (hk:t.kind=13) (ih:∀k∈t.kids,cf k∧∀k2∈k.kids,cf k2):cf t:=by
 intro w h hf;obtain⟨W,hW⟩:∃W,W=w.alloc (.cells #[.int .i64 t.kind,.int .i64 t.n,encStr t.name,.slice t.V t.vars.length t.vc,.slice t.T t.types.length t.tc,.slice t.A t.kids.length t.cap] 40):=⟨_,rfl⟩;have HW:=aa hW.symm;have X0:ahg (Ext w W):=aa (by rw[hW];exact(eR _).alloc _);have B1:ahg (av W w.heap.size t):=aa (by rw[hW];exact av.new w t);have HB:=aa (SL hk);have HA:=aa (fun w' (e:Ext W w')=>aa (kL t (fun k hk=>(ih k hk).1) w' (h.ext (X0.o.trans e)) hf));have HG:ahg (decide (t.n≥0)=decide ((0:Int)≤t.n)):=aa rfl;have k1:(t.kind == 1)=false:=by rw[hk];rfl
 have k2:(t.kind == 2)=false:=by rw[hk];rfl
 have Jr:(t.kind == 14)=false:=by rw[hk];rfl
 have k3:(t.kind == 3)=false:=by rw[hk];rfl
 have k4:(t.kind == 4)=false:=by rw[hk];rfl
 have k5:(t.kind == 5)=false:=by rw[hk];rfl
 have k6:(t.kind == 6)=false:=by rw[hk];rfl
 have k7:(t.kind == 7)=false:=by rw[hk];rfl
 have k8:(t.kind == 8)=false:=by rw[hk];rfl
 have Yh:(t.kind == 10)=false:=by rw[hk];rfl
 have k12:(t.kind == 12)=false:=by rw[hk];rfl
 have k13:(t.kind == 13)=true:=by rw[hk];rfl
 clear hW h ih hf hk;unfold bl at *;generalize t.tb.term=R at *;generalize cZ t=RA at *;cases NG:(t.name == ([]:aj))
 case true=>
  rw[NG] at HB;go_enter Tryz.func55,Tryz.ntmps55;go_upto_region 1 with fail;rw[HW.o];clear HW;obtain⟨c0,c1,c2,c3,c4,c5⟩:=(B1.o.ext (eR W)).cells;have n1:=(B1.o.ext (eR W)).lt;go_wp2;go_ret;exact⟨by first|(rw[HB.o];rfl)|rfl,X0.o.trans (eR W)⟩
 rw[NG] at HB
 by_cases KN:t.n≥0
 rotate_left
 focus
  rw[decide_eq_false KN] at HB;go_enter Tryz.func55,Tryz.ntmps55;go_upto_region 1 with fail;rw[HW.o];clear HW;obtain⟨c0,c1,c2,c3,c4,c5⟩:=(B1.o.ext (eR W)).cells;have n1:=(B1.o.ext (eR W)).lt;go_wp2;go_ret;exact⟨by first|(rw[HB.o];rfl)|rfl,X0.o.trans (eR W)⟩
 rw[decide_eq_true KN] at HB;cases hf2:((t.vars.length:Int) == 0)
 case false=>
  rw[hf2] at HB;go_enter Tryz.func55,Tryz.ntmps55;go_upto_region 1 with fail;rw[HW.o];clear HW;obtain⟨c0,c1,c2,c3,c4,c5⟩:=(B1.o.ext (eR W)).cells;have n1:=(B1.o.ext (eR W)).lt;go_wp2;go_ret;exact⟨by first|(rw[HB.o];rfl)|rfl,X0.o.trans (eR W)⟩
 rw[hf2] at HB;cases hf3:((t.types.length:Int) == 0)
 case false=>
  rw[hf3] at HB;go_enter Tryz.func55,Tryz.ntmps55;go_upto_region 1 with fail;rw[HW.o];clear HW;obtain⟨c0,c1,c2,c3,c4,c5⟩:=(B1.o.ext (eR W)).cells;have n1:=(B1.o.ext (eR W)).lt;go_wp2;go_ret;exact⟨by first|(rw[HB.o];rfl)|rfl,X0.o.trans (eR W)⟩
 rw[hf3] at HB;cases hf4:((t.kids.length:Int) == 1)
 case false=>
  rw[hf4] at HB;go_enter Tryz.func55,Tryz.ntmps55;go_upto_region 1 with fail;rw[HW.o];clear HW;obtain⟨c0,c1,c2,c3,c4,c5⟩:=(B1.o.ext (eR W)).cells;have n1:=(B1.o.ext (eR W)).lt;go_wp2;go_ret;exact⟨by first|(rw[HB.o];rfl)|rfl,X0.o.trans (eR W)⟩
 rw[hf4] at HB;go_enter Tryz.func55,Tryz.ntmps55;go_upto_region 1 with fail;rw[HW.o];clear HW;obtain⟨c0,c1,c2,c3,c4,c5⟩:=(B1.o.ext (eR W)).cells;have n1:=(B1.o.ext (eR W)).lt;go_wp2_with fail;refine(HA.o _ (eR W)).o.mono ?_;rintro e w7 ⟨rfl,wI⟩;have X7:=aa (((eR W)).trans wI);clear wI c0 c1 c2 c3 c4 c5 n1;go_wp2;go_ret;exact⟨by first|(rw[HB.o];rfl)|rfl,X0.o.trans X7.o⟩
theorem Lc (t:Tm) (hk:t.kind=8) (ih:∀k∈t.kids,cf k∧∀k2∈k.kids,cf k2):cf t:=by
 intro w h hf;obtain⟨W,hW⟩:∃W,W=w.alloc (.cells #[.int .i64 t.kind,.int .i64 t.n,encStr t.name,.slice t.V t.vars.length t.vc,.slice t.T t.types.length t.tc,.slice t.A t.kids.length t.cap] 40):=⟨_,rfl⟩;have HW:=aa hW.symm;have X0:ahg (Ext w W):=aa (by rw[hW];exact(eR _).alloc _);have B1:ahg (av W w.heap.size t):=aa (by rw[hW];exact av.new w t);have HB:=aa (SU hk);have HH:=aa (fun w' (e:Ext W w')=>aa (Gp t hk ih w' (h.ext (X0.o.trans e)) hf));clear HB;have k1:(t.kind == 1)=false:=by rw[hk];rfl
 have k2:(t.kind == 2)=false:=by rw[hk];rfl
 have Jr:(t.kind == 14)=false:=by rw[hk];rfl
 have k3:(t.kind == 3)=false:=by rw[hk];rfl
 have k4:(t.kind == 4)=false:=by rw[hk];rfl
 have k5:(t.kind == 5)=false:=by rw[hk];rfl
 have k6:(t.kind == 6)=false:=by rw[hk];rfl
 have k7:(t.kind == 7)=false:=by rw[hk];rfl
 have k8:(t.kind == 8)=true:=by rw[hk];rfl
 clear hW h ih hf hk;unfold bl at *;generalize t.tb.term=R at *;have HB:ahg (R=R):=aa rfl;go_enter Tryz.func55,Tryz.ntmps55;go_upto_region 1 with fail;rw[HW.o];clear HW;obtain⟨c0,c1,c2,c3,c4,c5⟩:=(B1.o.ext (eR W)).cells;have n1:=(B1.o.ext (eR W)).lt;go_wp2_with fail;refine(HH.o _ (eR W)).o.mono ?_;rintro e w2 ⟨rfl,hx2⟩;have X2:=aa hx2;clear hx2 c0 c1 c2 c3 c4 c5 n1;go_wp2;go_ret;exact⟨by first|(rw[HB.o];rfl)|rfl,X0.o.trans X2.o⟩
theorem Gt (t:Tm) (hk:t.kind=10) (ih:∀k∈t.kids,cf k∧∀k2∈k.kids,cf k2):cf t:=by
 intro w h hf;obtain⟨W,hW⟩:∃W,W=w.alloc (.cells #[.int .i64 t.kind,.int .i64 t.n,encStr t.name,.slice t.V t.vars.length t.vc,.slice t.T t.types.length t.tc,.slice t.A t.kids.length t.cap] 40):=⟨_,rfl⟩;have HW:=aa hW.symm;have X0:ahg (Ext w W):=aa (by rw[hW];exact(eR _).alloc _);have B1:ahg (av W w.heap.size t):=aa (by rw[hW];exact av.new w t);have HB:=aa (MT hk);have HH:=aa (fun w' (e:Ext W w')=>aa (KW t hk ih w' (h.ext (X0.o.trans e)) hf));clear HB;have k1:(t.kind == 1)=false:=by rw[hk];rfl
 have k2:(t.kind == 2)=false:=by rw[hk];rfl
 have Jr:(t.kind == 14)=false:=by rw[hk];rfl
 have k3:(t.kind == 3)=false:=by rw[hk];rfl
 have k4:(t.kind == 4)=false:=by rw[hk];rfl
 have k5:(t.kind == 5)=false:=by rw[hk];rfl
 have k6:(t.kind == 6)=false:=by rw[hk];rfl
 have k7:(t.kind == 7)=false:=by rw[hk];rfl
 have k8:(t.kind == 8)=false:=by rw[hk];rfl
 have Yh:(t.kind == 10)=true:=by rw[hk];rfl
 clear hW h ih hf hk;unfold bl at *;generalize t.tb.term=R at *;have HB:ahg (R=R):=aa rfl;go_enter Tryz.func55,Tryz.ntmps55;go_upto_region 1 with fail;rw[HW.o];clear HW;obtain⟨c0,c1,c2,c3,c4,c5⟩:=(B1.o.ext (eR W)).cells;have n1:=(B1.o.ext (eR W)).lt;go_wp2_with fail;refine(HH.o _ (eR W)).o.mono ?_;rintro e w2 ⟨rfl,hx2⟩;have X2:=aa hx2;clear hx2 c0 c1 c2 c3 c4 c5 n1;go_wp2;go_ret;exact⟨by first|(rw[HB.o];rfl)|rfl,X0.o.trans X2.o⟩
theorem Gu (t:Tm) (hk:t.kind≠1∧t.kind≠2∧t.kind≠3∧t.kind≠4∧t.kind≠5∧t.kind≠6∧t.kind≠7∧t.kind≠8∧t.kind≠10∧t.kind≠12∧t.kind≠13∧t.kind≠14):cf t:=by
 intro w h hf;obtain⟨W,hW⟩:∃W,W=w.alloc (.cells #[.int .i64 t.kind,.int .i64 t.n,encStr t.name,.slice t.V t.vars.length t.vc,.slice t.T t.types.length t.tc,.slice t.A t.kids.length t.cap] 40):=⟨_,rfl⟩;have HW:=aa hW.symm;have X0:ahg (Ext w W):=aa (by rw[hW];exact(eR _).alloc _);have B1:ahg (av W w.heap.size t):=aa (by rw[hW];exact av.new w t);have HB:=aa (Gl hk);have k1:(t.kind == 1)=false:=by simpa using hk.1
 have k2:(t.kind == 2)=false:=by simpa using hk.2.1
 have Jr:(t.kind == 14)=false:=by simpa using hk.2.2.2.2.2.2.2.2.2.2.2
 have k3:(t.kind == 3)=false:=by simpa using hk.2.2.1
 have k4:(t.kind == 4)=false:=by simpa using hk.2.2.2.1
 have k5:(t.kind == 5)=false:=by simpa using hk.2.2.2.2.1
 have k6:(t.kind == 6)=false:=by simpa using hk.2.2.2.2.2.1
 have k7:(t.kind == 7)=false:=by simpa using hk.2.2.2.2.2.2.1
 have k8:(t.kind == 8)=false:=by simpa using hk.2.2.2.2.2.2.2.1
 have Yh:(t.kind == 10)=false:=by simpa using hk.2.2.2.2.2.2.2.2.1
 have k12:(t.kind == 12)=false:=by simpa using hk.2.2.2.2.2.2.2.2.2.1
 have k13:(t.kind == 13)=false:=by simpa using hk.2.2.2.2.2.2.2.2.2.2.1
 clear hW h hf hk;unfold bl at *;generalize t.tb.term=R at *;go_enter Tryz.func55,Tryz.ntmps55;go_upto_region 1 with fail;rw[HW.o];clear HW;obtain⟨c0,c1,c2,c3,c4,c5⟩:=B1.o.cells;have n1:=B1.o.lt;go_wp2;go_ret;exact⟨by rw[HB.o];rfl,X0.o⟩
set_option maxRecDepth 512
set_option maxHeartbeats 200000
theorem yY (t:Tm) (ih:∀k∈t.kids,cf k∧∀k2∈k.kids,cf k2):cf t:=by
 by_cases h1:t.kind=1
 ·exact KX t h1 ih
 by_cases h2:t.kind=2
 ·exact KY t h2 ih
 by_cases h14:t.kind=14
 ·exact Gq t h14 ih
 by_cases h3:t.kind=3
 ·exact KZ t h3 ih
 by_cases h4:t.kind=4
 ·exact K6 t h4 ih
 by_cases h5:t.kind=5
 ·exact Lb t h5 ih
 by_cases h6:t.kind=6
 ·exact K9 t h6 ih
 by_cases h7:t.kind=7
 ·exact La t h7 ih
 by_cases h8:t.kind=8
 ·exact Lc t h8 ih
 by_cases h10:t.kind=10
 ·exact Gt t h10 ih
 by_cases Wo:t.kind=12
 ·exact Gr t Wo ih
 by_cases h13:t.kind=13
 ·exact Gs t h13 ih
 exact Gu t ⟨h1,h2,h3,h4,h5,h6,h7,h8,h10,Wo,h13,h14⟩
theorem Ld (t:Tm):cf t∧∀k∈t.kids,cf k:=by
 induction t using Tm.ind with
 |h t ih=>exact⟨yY t ih,fun k hk=>(ih k hk).1⟩
set_option maxRecDepth 10000
set_option maxHeartbeats 8000000
theorem CA (t:Tm) (w:World) (h:aM w t) (hf:cY t) (hsz:t.size≤100000000):Calls Tryz.prog 30 #[bl t] w fun e w'=>e=.returned (.bool (cj t))∧Ext w w':=by
 obtain⟨W,hW⟩:∃W,W=w.alloc (.cells #[.int .i64 t.kind,.int .i64 t.n,encStr t.name,.slice t.V t.vars.length t.vc,.slice t.T t.types.length t.tc,.slice t.A t.kids.length t.cap] 40):=⟨_,rfl⟩;have HW:=aa hW.symm;have X0:ahg (Ext w W):=aa (by rw[hW];exact(eR _).alloc _);have B1:ahg (av W w.heap.size t):=aa (by rw[hW];exact av.new w t);have HS:=aa (fun w' (e:Ext W w')=>aa (Gh t w' (h.ext (X0.o.trans e)) hsz));have I3:=aa (fun w' (e:Ext W w')=>aa (yV t w' (h.ext (X0.o.trans e)) hsz));have HI:=aa (fun w' (e:Ext W w')=>aa ((Ld t).1 w' (h.ext (X0.o.trans e)) hf));have HB:ahg (cj t=(decide (t.size≤4096)&&decide (t.depth≤400)&&t.tb.term)):=aa rfl;clear hW h hf hsz;unfold bl at *;generalize cj t=R at *;generalize t.size=S at *;generalize t.depth=D at *;generalize t.tb.term=RT at *;go_enter Tryz.func30,Tryz.ntmps30;go_upto_region 1 with fail;rw[HW.o];clear HW;obtain⟨c0,c1,c2,c3,c4,c5⟩:=B1.o.cells;have n1:=B1.o.lt;go_wp2_with fail;refine(HS.o _ (eR W)).o.mono ?_;rintro e w2 ⟨rfl,hx⟩;have X2:=aa hx;clear hx c0 c1 c2 c3 c4 c5 n1 HS
 by_cases h1:S≤4096
 ·have Mj:(S:Int)≤4096:=by omega
  rw[decide_eq_true h1] at HB;obtain⟨c0,c1,c2,c3,c4,c5⟩:=(B1.o.ext X2.o).cells;have n1:=(B1.o.ext X2.o).lt;go_wp2_with fail;refine(I3.o _ X2.o).o.mono ?_;rintro e w3 ⟨rfl,hx⟩;have X3:=aa (X2.o.trans hx);clear hx c0 c1 c2 c3 c4 c5 n1 I3
  by_cases h2:D≤400
  ·have Mk:(D:Int)≤400:=by omega
   rw[decide_eq_true h2] at HB;obtain⟨c0,c1,c2,c3,c4,c5⟩:=(B1.o.ext X3.o).cells;have n1:=(B1.o.ext X3.o).lt;go_wp2_with fail;refine(HI.o _ X3.o).o.mono ?_;rintro e w4 ⟨rfl,hx⟩;have X4:=aa (X3.o.trans hx);clear hx c0 c1 c2 c3 c4 c5 n1;go_wp2;go_ret;exact⟨by rw[HB.o];rfl,X0.o.trans X4.o⟩
  ·have Mk:¬(D:Int)≤400:=by omega
   rw[decide_eq_false h2] at HB;go_wp2;go_ret;exact⟨by rw[HB.o];rfl,X0.o.trans X3.o⟩
 ·have Mj:¬(S:Int)≤4096:=by omega
  rw[decide_eq_false h1] at HB;go_wp2;go_ret;exact⟨by rw[HB.o];rfl,X0.o.trans X2.o⟩
set_option maxRecDepth 512
set_option maxHeartbeats 200000
open Go.Extern Go.Stop
theorem tk (v:Value) (w:World):(Extern.ReflectliteType.typeOf #[.iface 306 v]).run Tryz.prog w=.ok (.iface 201 (.agg #[.pointer (some ⟨4,306,none⟩)])) w:=by kernel_rfl
theorem lz (w : World) : ((Extern.ReflectliteType.method fun t => do Rtype.noPackHeld "Comparable" t; (fun a => Value.bool a.comparable) <$> typeInfo t) #[.agg #[.pointer (some ⟨4, 306, none⟩)]]).run Tryz.prog w = .ok (.bool true) w := by kernel_rfl
theorem fV (v : Value) (w : World) : (Go.method 438 201 v "Comparable").run Tryz.prog w = .ok (262, v) w := by kernel_rfl
theorem Af : (Tryz.prog.info? 306).map (·.comparable)=some true:=by kernel_rfl
theorem Ag : (Tryz.prog.info? 326).map (·.size)=some 1:=by kernel_rfl
theorem Le (v:Value) (xT:TypeId) (w:World):(Instr.typeAssert (.iface 306 v) xT 203 true).run Tryz.prog w=.ok (.tuple #[.nilIface,.bool false]) w:=run_typeAssert_lacksB Tryz.underlying203 (by kernel_rfl) (by kernel_rfl) v xT w
theorem wO (v:Value) (xT:TypeId) (w:World):(Instr.typeAssert (.iface 306 v) xT 206 true).run Tryz.prog w=.ok (.tuple #[.nilIface,.bool false]) w:=run_typeAssert_lacksB Tryz.underlying206 (by kernel_rfl) (by kernel_rfl) v xT w
theorem uG (v:Value) (xT:TypeId) (w:World):(Instr.typeAssert (.iface 306 v) xT 208 true).run Tryz.prog w=.ok (.tuple #[.nilIface,.bool false]) w:=run_typeAssert_lacksB Tryz.underlying208 (by kernel_rfl) (by kernel_rfl) v xT w
set_option maxRecDepth 10000
set_option maxHeartbeats 8000000
theorem Ah (a:Addr) (w:World) :
  Calls Tryz.prog 48 #[.iface 306 (.pointer (some a)),.iface 306 (.pointer (some a))] w fun e w'=>e=.returned (.bool true)∧w'=w:=by
 obtain⟨i,hi,OE⟩:=Option.map_eq_some_iff.1 Af;obtain⟨j,hj,Vf⟩:=Option.map_eq_some_iff.1 Ag;have h8 := @run_callFunc_extern Tryz.prog 81 _ Extern.ReflectliteType.typeOf Tryz.func81 (by kernel_rfl) (by kernel_rfl) (by kernel_rfl) (by kernel_rfl);have h32 := @run_callFunc_extern Tryz.prog 262 _ (Extern.ReflectliteType.method fun t => do Rtype.noPackHeld "Comparable" t; pure (.bool (← typeInfo t).comparable)) Tryz.func262 (by kernel_rfl) (by kernel_rfl) (by kernel_rfl) (by kernel_rfl);have tT:=tk;have cT:=lz;have mR:=fV;have heq:=run_eql_iface_ptr_same (P:=Tryz.prog) w a Tryz.underlying77 Tryz.underlying306 hi OE hj;go_enter Tryz.func48,Tryz.ntmps48;go_wp2;refine wp_loop_rounds 1 ?_;rw[rounds_succ];go_wp2;go_ret;exact⟨rfl,rfl⟩
theorem Gv (b:Addr) (w:World) :
  Calls Tryz.prog 48 #[.nilIface,.iface 306 (.pointer (some b))] w fun e w'=>e=.returned (.bool false)∧w'=w:=by
 have hn:=run_eql_iface_nil_left (P:=Tryz.prog) w 306 (.pointer (some b)) Tryz.underlying77;go_enter Tryz.func48,Tryz.ntmps48;go_wp2;go_ret;exact⟨rfl,rfl⟩
theorem Gw (a b:Addr) (ca cb:Array Value) (ta tb:TypeId) (w:World) (hne:a≠b) (ha:w.heap[a.block]?=some (.cells ca ta (0,0))) (hb:w.heap[b.block]?=some (.cells cb tb (0,0))) :
  Calls Tryz.prog 48 #[.iface 306 (.pointer (some a)),.iface 306 (.pointer (some b))] w fun e w'=>e=.returned (.bool false)∧w'=w:=by
 obtain⟨i,hi,OE⟩:=Option.map_eq_some_iff.1 Af;obtain⟨j,hj,Vf⟩:=Option.map_eq_some_iff.1 Ag;have h8 := @run_callFunc_extern Tryz.prog 81 _ Extern.ReflectliteType.typeOf Tryz.func81 (by kernel_rfl) (by kernel_rfl) (by kernel_rfl) (by kernel_rfl);have h32 := @run_callFunc_extern Tryz.prog 262 _ (Extern.ReflectliteType.method fun t => do Rtype.noPackHeld "Comparable" t; pure (.bool (← typeInfo t).comparable)) Tryz.func262 (by kernel_rfl) (by kernel_rfl) (by kernel_rfl) (by kernel_rfl);have tT:=tk;have cT:=lz;have mR:=fV;have nE:=Le;have uE:=wO;have vE:=uG;have heq:=run_eql_iface_ptr_other (P:=Tryz.prog) w Tryz.underlying77 Tryz.underlying306 hi OE hj (by rw[Vf];decide) hne ha hb;go_enter Tryz.func48,Tryz.ntmps48;go_wp2;refine wp_loop_rounds 1 ?_;rw[rounds_succ];go_wp2;go_ret;exact⟨rfl,rfl⟩
set_option maxRecDepth 512
set_option maxHeartbeats 200000
structure jv (w:World) (a0 a1:Addr):Prop where
 v0:w.cell? ⟨0,0,none⟩=some (.iface 306 (.pointer (some a0)))
 v1:w.cell? ⟨1,0,none⟩=some (.iface 306 (.pointer (some a1)))
 ne:a0≠a1
 b0:∃c t,w.heap[a0.block]?=some (.cells c t (0,0))
 b1:∃c t,w.heap[a1.block]?=some (.cells c t (0,0))
theorem jv.ext {w w':World}{a0 a1:Addr}(h:jv w a0 a1) (e:Ext w w'):jv w' a0 a1:=by
 obtain⟨c0,t0,h0⟩:=h.b0;obtain⟨c1,t1,h1⟩:=h.b1;exact⟨e.cell h.v0,e.cell h.v1,h.ne,⟨c0,t0,(e.heap (ae h0)).trans h0⟩,⟨c1,t1,(e.heap (ae h1)).trans h1⟩⟩
set_option maxRecDepth 10000
set_option maxHeartbeats 8000000
theorem rI (a0 a1:Addr) (w:World) (h:jv w a0 a1):Calls Tryz.prog 27 #[.iface 306 (.pointer (some a0))] w fun e w'=>e=.returned (.int .i64 1)∧w'=w:=by
 have g0:=h.v0;go_enter Tryz.func27,Tryz.ntmps27;go_wp2_with fail;refine(Ah a0 _).mono ?_;rintro e w2 ⟨rfl,rfl⟩;go_wp2;go_ret;exact⟨rfl,rfl⟩
theorem qq (a0 a1:Addr) (w:World) (h:jv w a0 a1):Calls Tryz.prog 27 #[.iface 306 (.pointer (some a1))] w fun e w'=>e=.returned (.int .i64 2)∧w'=w:=by
 have g0:=h.v0;have g1:=h.v1;obtain⟨c0,t0,b0⟩:=h.b0;obtain⟨c1,t1,b1⟩:=h.b1;have hne:a1≠a0:=fun e=>h.ne e.symm
 go_enter Tryz.func27,Tryz.ntmps27;go_wp2_with fail;refine(Gw a1 a0 _ _ _ _ _ hne b1 b0).mono ?_;rintro e w2 ⟨rfl,rfl⟩;go_wp2_with fail;refine(Ah a1 _).mono ?_;rintro e w2 ⟨rfl,rfl⟩;go_wp2;go_ret;exact⟨rfl,rfl⟩
theorem wP (a0 a1:Addr) (w:World) (h:jv w a0 a1):Calls Tryz.prog 27 #[.nilIface] w fun e w'=>e=.returned (.int .i64 0)∧w'=w:=by
 have g0:=h.v0;have g1:=h.v1;go_enter Tryz.func27,Tryz.ntmps27;go_wp2_with fail;refine(Gv a0 _).mono ?_;rintro e w2 ⟨rfl,rfl⟩;go_wp2_with fail;refine(Gv a1 _).mono ?_;rintro e w2 ⟨rfl,rfl⟩;go_wp2;go_ret;exact⟨rfl,rfl⟩
set_option maxRecDepth 512
set_option maxHeartbeats 200000
end Go.Proofs.YtigafbmabjglfaaGreatDoor
