import Derived.Test.YtigafbmabjglfaaGreatDoorJA11
import Derived.RegionTactic
import Derived.Deep.DeepCutAuto
namespace Go.Proofs.YtigafbmabjglfaaGreatDoor
open Go.RowKit
def bj (n:Int) (p:Pd):Bool:=bZ p.cls&&p.ty.aq == []&&p.ty.args.isEmpty&&decide (0≤p.ty.var)&&decide (p.ty.var<n)
set_option maxRecDepth 10000
set_option maxHeartbeats 8000000
theorem Lv (p:Pd) (n:Int) (w:World) (h:dH w p):Calls Tryz.prog 142 #[fN p,.int .i64 n] w fun e w'=>e=.returned (.bool (bj n p))∧Ext w w':=by
 have HB:=aa (aR.new w p);have hbl:=HB.o.lt;obtain⟨W,hW⟩:∃W,W=(w.alloc (.cells #[encStr p.cls,encStr p.ty.aq,.int .i64 p.ty.var,.slice p.ty.A p.ty.args.length p.ty.cap] 55)).alloc (.cells #[encStr p.ty.aq,.int .i64 p.ty.var,.slice p.ty.A p.ty.args.length p.ty.cap] 53):=⟨_,rfl⟩;have X0:aiE (Ext w W):=aa (by rw[hW];exact((eR _).alloc _).alloc _);have HW:=aa hW.symm;obtain⟨a0,a1,a2,a3⟩:=HB.o.cells;obtain⟨c0,c1,c2,c3⟩:=(HB.o.ext (by rw[hW];exact(eR _).alloc _:Ext _ W)).cells;have hT:aU W (w.heap.size+1) p.ty:=by rw[hW];exact ah _ _ _ (by simp)
 have d0:=hT.c0;have d1:=hT.c1;have d2:=hT.c2;have S7:=ae hT;have HN:=aa (qA p.cls W (by have:=h.cls;omega));have HP:aiE (bj n p=(bZ p.cls&&p.ty.aq == []&&p.ty.args.isEmpty&&decide (0≤p.ty.var)&&decide (p.ty.var<n))):=aa rfl;generalize bj n p=R at *;have HL:aiE (p.ty.args.isEmpty=((p.ty.args.length:Int) == 0)):=aa (by cases p.ty.args with
  |nil=>rfl
  |cons x l=>simp;omega)
 rw[HL.o] at HP;clear hW h hT HL;unfold fN at *;go_enter Tryz.func142,Tryz.ntmps142;go_upto_region 2 with fail;rw[HW.o];clear HW;go_wp2_with fail;refine HN.o.mono ?_;rintro e w2 ⟨rfl,rfl⟩;cases h1:bZ p.cls
 ·rw[h1] at HP;have hR:R=false:=by rw[HP.o];rfl
  subst hR;go_wp2;go_ret;exact⟨rfl,X0.o⟩
 ·cases h2:(p.ty.aq == ([]:aj))
  ·rw[h1,h2] at HP;have hR:R=false:=by rw[HP.o];rfl
   subst hR;go_wp2;go_ret;exact⟨rfl,X0.o⟩
  ·cases h3:((p.ty.args.length:Int) == 0)
   ·rw[h1,h2,h3] at HP;have hR:R=false:=by rw[HP.o];rfl
    subst hR;go_wp2;go_ret;exact⟨rfl,X0.o⟩
   ·by_cases h4:(0:Int)≤p.ty.var
    ·by_cases h5:p.ty.var<n
     ·rw[h1,h2,h3] at HP;have hR:R=true:=by rw[HP.o];simp[h4,h5]
      subst hR;go_wp2;go_ret;exact⟨rfl,X0.o⟩
     ·rw[h1,h2,h3] at HP;have hR:R=false:=by rw[HP.o];simp[h5]
      subst hR;go_wp2;go_ret;exact⟨by simp;omega,X0.o⟩
    ·rw[h1,h2,h3] at HP;have hR:R=false:=by rw[HP.o];simp[h4]
     subst hR;go_wp2;go_ret;exact⟨rfl,X0.o⟩
set_option maxRecDepth 512
set_option maxHeartbeats 200000
def fA (x:cL):Bool:=bZ x.cls&&(bZ x.aq||(x.aq == [45,62]&&x.n == 2))&&decide (0≤x.n)&&decide (x.n≤100)
def bE (x:cL):Bool:=fA x&&x.preds.all (bj x.n)
theorem nj {x:cL}(h:fA x=true):0≤x.n∧x.n≤100:=by
 unfold fA at h;simp only[aiT,decide_eq_true_eq] at h;exact⟨h.1.2,h.2⟩
set_option maxRecDepth 10000
set_option maxHeartbeats 8000000
theorem BD (x:cL) (w:World) (h:pG w x):Calls Tryz.prog 96 #[xq x] w fun e w'=>e=.returned (.int .i64 (if bE x then 0 else 10))∧Ext w w':=by
 obtain⟨cls,aq,n,A,cap,preds⟩:=x;obtain⟨W,hW⟩:∃W,W=w.alloc (.cells #[encStr cls,encStr aq,.int .i64 n,.slice A preds.length cap] 70):=⟨_,rfl⟩;have HW:=aa hW.symm;have X0:aiE (Ext w W):=aa (by rw[hW];exact(eR _).alloc _);have HB:aiE (eV W w.heap.size ⟨cls,aq,n,A,cap,preds⟩):=aa (by rw[hW];exact eV.new w ⟨cls,aq,n,A,cap,preds⟩);obtain⟨c0,c1,c2,c3⟩:=HB.o.cells;have hbl:=HB.o.lt;have qD:cls.length≤1000000000000000000:=h.txt;have hco:aq.length≤1000000000000000000:=h.ctxt;have hle:=h.le;have hmx:=h.max;have Lx:=aa (h.row.ext X0.o);have S8:=aa (qA cls W (by omega));have BF:=aa (qA aq W (by omega));have HI:aiE (bE ⟨cls,aq,n,A,cap,preds⟩=(fA ⟨cls,aq,n,A,cap,preds⟩&&preds.all (bj n))):=aa rfl;have HH:aiE (fA ⟨cls,aq,n,A,cap,preds⟩=(bZ cls&&(bZ aq||(aq == [45,62]&&n == 2))&&decide (0≤n)&&decide (n≤100))):=aa rfl;generalize bE ⟨cls,aq,n,A,cap,preds⟩=R at *;generalize fA ⟨cls,aq,n,A,cap,preds⟩=H at *;simp only[] at *;clear hW h;unfold xq at *;go_enter Tryz.func96,Tryz.ntmps96;go_upto_region 1 with fail;rw[HW.o];clear HW
 go_cut [3] (fun s3 wx=>s3=.bool H∧W=wx)
 case first=>
  clear HI Lx;go_wp2_with fail;refine S8.o.mono ?_;rintro e w2 ⟨rfl,rfl⟩;cases h1:bZ cls
  ·have hH:H=false:=by rw[HH.o];simp[h1]
   clear HH;subst hH;go_wp2_with fail;go_meet;exact⟨by simp,rfl⟩
  ·go_wp2_with fail;refine BF.o.mono ?_;rintro e w3 ⟨rfl,rfl⟩;cases h2:bZ aq
   ·cases h3:(aq == ([45,62]:aj))
    ·have hH:H=false:=by rw[HH.o];simp[h1,h2,h3]
     clear HH;subst hH;go_wp2_with fail;go_meet;exact⟨by simp,rfl⟩
    ·cases h4:(n == 2)
     ·have hH:H=false:=by rw[HH.o];simp[h1,h2,h3,h4]
      clear HH;subst hH;go_wp2_with fail;go_meet;exact⟨by simp,rfl⟩
     ·by_cases zr:(0:Int)≤n
      ·by_cases sD:n≤100
       ·have hH:H=true:=by rw[HH.o];simp[h1,h2,h3,h4,zr,sD]
        clear HH;subst hH;go_wp2_with fail;go_meet;exact⟨by simp,rfl⟩
       ·have hH:H=false:=by rw[HH.o];simp[h1,h2,h3,h4,zr,sD]
        clear HH;subst hH;go_wp2_with fail;go_meet;exact⟨by simp;omega,rfl⟩
      ·have hH:H=false:=by rw[HH.o];simp[h1,h2,h3,h4,zr]
       clear HH;subst hH;go_wp2_with fail;go_meet;exact⟨by simp,rfl⟩
   ·by_cases zr:(0:Int)≤n
    ·by_cases sD:n≤100
     ·have hH:H=true:=by rw[HH.o];simp[h1,h2,zr,sD]
      clear HH;subst hH;go_wp2_with fail;go_meet;exact⟨by simp,rfl⟩
     ·have hH:H=false:=by rw[HH.o];simp[h1,h2,zr,sD]
      clear HH;subst hH;go_wp2_with fail;go_meet;exact⟨by simp;omega,rfl⟩
    ·have hH:H=false:=by rw[HH.o];simp[h1,h2,zr]
     clear HH;subst hH;go_wp2_with fail;go_meet;exact⟨by simp,rfl⟩
 case rest=>
  obtain⟨rfl,rfl⟩:=hcut;clear HH S8 BF;go_wp2
  go_loopw [3,37] (fun t3 i wr=>∃k:Nat,k≤preds.length∧i=.int .i64 k∧t3=.bool (H&&(preds.take k).all (bj n))∧aiE (Ext W wr)) (fun _ i _=>preds.length - (intOf i).toNat)
  case atStart=>exact⟨0,aiH _,rfl,by simp,aa (eR _)⟩
  case round=>
   obtain⟨k,hk,rfl,rfl,HX⟩:=hrel;obtain⟨c0,c1,c2,c3⟩:=(HB.o.ext HX.o).cells;have RX:=(HB.o.ext HX.o).lt;simp only[] at c0 c1 c2 c3
   by_cases hlt:k<preds.length
   ·have aN:(k:Int)<(preds.length:Int):=by omega
    have cV:(0:Int)≤(k:Int):=by omega
    have KI:aiE ((preds.take (k+1)).all (bj n)=((preds.take k).all (bj n)&&bj n (preds[k]'hlt))):=aa (by rw[aiJ hlt,List.all_append];simp);obtain⟨b,o,rfl,hb,q0,q1,q2,q3⟩:=(Lx.o.ext HX.o).at_ hlt;have HP:=aa ((Lx.o.ext HX.o).all _ (aiF hlt));generalize preds[k]'hlt=p at *;have qE:=aa (aR.new wr p);have xr:=qE.o.lt;obtain⟨d0,d1,d2,d3⟩:=qE.o.cells;have HQ:=aa (Lv p n _ (HP.o.ext ((eR wr).alloc (.cells #[encStr p.cls,encStr p.ty.aq,.int .i64 p.ty.var,.slice p.ty.A p.ty.args.length p.ty.cap] 55))));generalize (preds.take k).all (bj n)=B at *;generalize bj n p=B3 at *;unfold fN at HQ;cases hS:(H&&B)
    ·go_wp2;go_roundw
     case rel=>exact⟨k+1,hlt,by go_num,by rw[KI.o,←Bool.and_assoc,hS];rfl,aa (HX.o.trans (by repeat(first|exact eR _|exact eA (by assumption) _|refine eA ?_ _|refine eM ?_ _ _|refine eD ?_|refine eN ?_ _)))⟩
     case measure=>simp[intOf];omega
    ·go_wp2_with fail;refine HQ.o.mono ?_;rintro e w2 ⟨rfl,hx⟩;have X2:=aa hx;clear hx;go_wp2;go_roundw
     case rel=>exact⟨k+1,hlt,by go_num,by rw[KI.o,←Bool.and_assoc,hS];rfl,aa (HX.o.trans (Ext.trans (by repeat(first|exact eR _|exact eA (by assumption) _|refine eA ?_ _|refine eM ?_ _ _|refine eD ?_|refine eN ?_ _)) X2.o))⟩
     case measure=>simp[intOf];omega
   ·have bS:¬(k:Int)<(preds.length:Int):=by omega
    have hR:(H&&(preds.take k).all (bj n))=R:=by rw[HI.o,aiK (by omega)]
    rw[hR];clear hR HI;cases R
    ·go_wp2;go_ret;exact⟨rfl,X0.o.trans HX.o⟩
    ·go_wp2;go_ret;exact⟨rfl,X0.o.trans HX.o⟩
set_option maxRecDepth 512
set_option maxHeartbeats 200000
def dY.zero : dY:=⟨[],none,0,[],none,0,[]⟩
def zu (cs:List dY) (name:aj):Option dY:=cs.find? fun c=>c.name == name
theorem vz {cs:List dY}{name:aj}{c:dY}(h:zu cs name=some c):c∈cs:=List.mem_of_find?_eq_some h
structure Pr where
 v:Int
 ty:Ty
def Pr.cells (p:Pr):List Value:=[.int .i64 p.v,encStr p.ty.aq,.int .i64 p.ty.var,.slice p.ty.A p.ty.args.length p.ty.cap]
def bQ : fH Pr:=⟨4,Pr.cells,fun _=>rfl,by omega⟩
abbrev bF (s:List Pr):List Int:=s.map Pr.v
abbrev bG (s:List Pr):List Ty:=s.map Pr.ty
def gg (s:List Pr):Prop:=s.Pairwise fun a b=>a.v<b.v
structure vA (s:List Pr) (v:Int) (i:Nat):Prop where
 le:i≤s.length
 lo:∀k (h:k<s.length),k<i→(s[k]'h).v<v
 hi:∀k (h:k<s.length),i≤k→v≤(s[k]'h).v
def dZ (s:List Pr) (v:Int) (i:Nat):Bool:=match s[i]? with|some p=>p.v == v|none=>false
theorem km {s:List Pr}{v:Int}{i:Nat}(h:i<s.length):dZ s v i=((s[i]'h).v == v):=by
 unfold dZ;rw[aiU h]
theorem tQ {s:List Pr}{v:Int}{i:Nat}(h:¬i<s.length):dZ s v i=false:=by
 unfold dZ;rw[List.getElem?_eq_none (by omega)]
theorem jD {s:List Pr}{v:Int}{i:Nat}(h:dZ s v i=true):∃hi:i<s.length,(s[i]'hi).v=v:=by
 by_cases hi:i<s.length
 ·rw[km hi] at h;exact⟨hi,by simpa using h⟩
 ·rw[tQ hi] at h;cases h
theorem iK {s:List Pr}(h:gg s){i k:Nat}(hik:i<k) (hk:k<s.length):(s[i]'(by omega)).v<(s[k]'hk).v:=
 List.pairwise_iff_getElem.1 h i k (by omega) hk hik
theorem Lz {s:List Pr}(h:gg s){p q:Pr}(hp:p∈s) (hq:q∈s) (e:p.v=q.v):p=q:=by
 obtain⟨i,hi,rfl⟩:=List.mem_iff_getElem.1 hp;obtain⟨k,hk,rfl⟩:=List.mem_iff_getElem.1 hq
 rcases Nat.lt_trichotomy i k with hl|rfl|hl
 ·have:=iK h hl hk;omega
 ·rfl
 ·have:=iK h hl hi;omega
theorem nk (s:List Pr){j:Nat}(h:j<s.length):(bF s).getD j 0=(s[j]'h).v:=by
 simp[List.getD_eq_getElem?_getD,aiU h]
theorem qF {s:List Pr}{v:Int}{i:Nat}(hr:gg s) (h:vA s v i):putAt (bF s) (bG s) v=if dZ s v i=true then(s[i]?).map Pr.ty else none:=by
 by_cases hh:dZ s v i=true
 ·obtain⟨hi,hv⟩:=jD hh;have e:ik (bF s) v=i:=jx (bF s) v 0 (by simpa using hi) (fun j hj=>by
   rw[nk s (by omega)];have:=h.lo j (by omega) hj;simp;omega) (by rw[nk s hi,hv];simp)
  rw[if_pos hh];unfold putAt;rw[e,if_pos (by omega),Int.toNat_natCast,List.getElem?_map]
 ·have e:ik (bF s) v = -1:=jy (bF s) v 0 (fun j hj=>by
   have hj':j<s.length:=by simpa using hj
   rw[nk s hj'];simp only[beq_eq_false_iff_ne,ne_eq];intro hv
   rcases Nat.lt_trichotomy j i with hl|rfl|hl
   ·have:=h.lo j hj' hl;omega
   ·rw[km hj'] at hh;simp[hv] at hh
   ·have h1:=h.hi i (by omega) (aiG _);have h2:=iK hr hl hj';omega)
  rw[if_neg hh];unfold putAt;rw[e];rfl
theorem Pt (s:List Pr) (hr:gg s) (v:Int):∃i,vA s v i:=by
 refine⟨(s.filter fun p=>decide (p.v<v)).length,?_⟩
 induction s with
 |nil=>exact⟨aiG _,fun k h=>absurd h (Nat.not_lt_zero _),fun k h=>absurd h (Nat.not_lt_zero _)⟩
 |cons x s ih=>
  have h1:=List.pairwise_cons.1 hr;have h2:=ih h1.2
  by_cases hx:x.v<v
  ·rw[List.filter_cons_of_pos (by simpa using hx),aiW];refine⟨by have:=h2.le;simp only[aiW];omega,fun k h hk => ?_,fun k h hk => ?_⟩
   ·cases k with
    |zero=>exact hx
    |succ k=>exact h2.lo k (by simpa using h) (by omega)
   ·cases k with
    |zero=>omega
    |succ k=>exact h2.hi k (by simpa using h) (by omega)
  ·have hf:(List.filter (fun p=>decide (p.v<v)) (x :: s)).length=0:=by
    rw[List.length_eq_zero_iff,List.filter_eq_nil_iff];intro y hy
    rcases List.mem_cons.1 hy with rfl|hy
    ·simpa using hx
    ·have:=h1.1 y hy;simp;omega
   rw[hf];refine⟨aiH _,fun k h hk=>absurd hk (Nat.not_lt_zero _),fun k h _ => ?_⟩;cases k with
   |zero=>show v≤x.v;omega
   |succ k=>
    have:=h1.1 _ (aiF (by simpa using h:k<s.length));show v≤(s[k]'_).v;omega
theorem ee {s:List Pr}(hr:gg s){v:Int}{u:Ty}:putAt (bF s) (bG s) v=some u↔∃p∈s,p.v=v∧p.ty=u:=by
 obtain⟨i,hi⟩:=Pt s hr v;rw[qF hr hi]
 by_cases hh:dZ s v i=true
 ·obtain⟨h1,h2⟩:=jD hh;rw[if_pos hh,aiU h1,Option.map_some]
  constructor
  ·intro e;injection e with e;exact⟨_,aiF h1,h2,e⟩
  ·rintro⟨p,hp,e1,e2⟩;rw[←Lz hr (aiF h1) hp (h2.trans e1.symm)] at e2;rw[e2]
 ·rw[if_neg hh]
  constructor
  ·intro e;cases e
  ·rintro⟨p,hp,e1,-⟩
   exfalso
   obtain⟨k,hk,rfl⟩:=List.mem_iff_getElem.1 hp
   rcases Nat.lt_trichotomy k i with hl|rfl|hl
   ·have:=hi.lo k hk hl;omega
   ·rw[km hk] at hh;simp[e1] at hh
   ·have h1:=hi.hi i (by omega) (aiG _);have h2:=iK hr hl hk;omega
theorem np {s:List Pr}(hr:gg s){v:Int}:putAt (bF s) (bG s) v=none↔∀p∈s,p.v≠v:=by
 constructor
 ·intro h p hp e;have:=(ee hr).2 ⟨p,hp,e,rfl⟩;rw[h] at this;cases this
 ·intro h;cases e:putAt (bF s) (bG s) v with
  |none=>rfl
  |some u=>
   obtain⟨p,hp,e1,-⟩:=(ee hr).1 e;exact absurd e1 (h p hp)
theorem tR {s:List Pr}{v:Int}{i:Nat}(hr:gg s) (h:vA s v i):dZ s v i=true↔(putAt (bF s) (bG s) v).isSome=true:=by
 rw[qF hr h]
 by_cases hh:dZ s v i=true
 ·obtain⟨h1,h2⟩:=jD hh;rw[if_pos hh,aiU h1];simp[hh]
 ·rw[if_neg hh];simp[hh]
def cG (s:List Pr) (i:Nat) (v:Int) (t:Ty):List Pr:=s.take i++⟨v,t⟩ :: s.drop i
theorem kn {s:List Pr}{i:Nat}{v:Int}{t:Ty}(h:i≤s.length):(cG s i v t).length=s.length+1:=by
 unfold cG;rw[aiL,aiW,List.length_take,List.length_drop];omega
theorem gh {s:List Pr}{i:Nat}{v:Int}{t:Ty}{p:Pr}:p∈cG s i v t↔p=⟨v,t⟩∨p∈s:=by
 unfold cG;rw[List.mem_append,List.mem_cons];have:p∈s↔p∈s.take i∨p∈s.drop i:=by rw[←List.mem_append,List.take_append_drop]
 rw[this]
 constructor
 ·rintro (h|h|h)
  ·exact .inr (.inl h)
  ·exact .inl h
  ·exact .inr (.inr h)
 ·rintro (h|h|h)
  ·exact .inr (.inl h)
  ·exact .inl h
  ·exact .inr (.inr h)
theorem kQ {s:List Pr}{i:Nat}{v:Int}{t:Ty}(hr:gg s) (h:vA s v i) (hn:dZ s v i=false):gg (cG s i v t):=by
 unfold cG gg;have hs:(s.take i++s.drop i).Pairwise fun a b=>a.v<b.v:=by rw[List.take_append_drop];exact hr
 obtain⟨h1,h2,h3⟩:=List.pairwise_append.1 hs;have zn:∀p∈s.take i,p.v<v:=by
  intro p hp;obtain⟨k,hk,rfl⟩:=List.mem_iff_getElem.1 hp;rw[List.length_take] at hk;rw[List.getElem_take];exact h.lo k (by omega) (by omega)
 have hhi:∀p∈s.drop i,v<p.v:=by
  intro p hp;obtain⟨k,hk,rfl⟩:=List.mem_iff_getElem.1 hp;rw[List.length_drop] at hk;rw[List.getElem_drop];have hi:i<s.length:=by omega
  have g:=h.hi (i+k) (by omega) (by omega)
  rcases Nat.eq_zero_or_pos k with rfl|cV
  ·rw[km hi] at hn;have:(s[i]'hi).v≠v:=by simpa using hn
   simp only[Nat.add_zero] at g ⊢;omega
  ·have:=iK hr (show i<i+k by omega) (by omega);have:=h.hi i hi (aiG _);omega
 refine List.pairwise_append.2 ⟨h1,List.pairwise_cons.2 ⟨fun p hp=>hhi p hp,h2⟩,fun a ha b hb => ?_⟩
 rcases List.mem_cons.1 hb with rfl|hb
 ·exact zn a ha
 ·exact h3 a ha b hb
theorem LB {s:List Pr}{i:Nat}{v:Int}{t:Ty}(hr:gg s) (h:vA s v i) (hn:dZ s v i=false) (x:Int):putAt (bF (cG s i v t)) (bG (cG s i v t)) x=if x=v then some t else putAt (bF s) (bG s) x:=by
 have Yt:=kQ (t:=t) hr h hn
 by_cases hx:x=v
 ·subst hx;rw[if_pos rfl,ee Yt];exact⟨⟨x,t⟩,gh.2 (.inl rfl),rfl,rfl⟩
 ·rw[if_neg hx];cases e:putAt (bF s) (bG s) x with
  |none=>
   rw[np Yt];intro p hp
   rcases gh.1 hp with rfl|hp
   ·exact fun e=>hx e.symm
   ·exact(np hr).1 e p hp
  |some u=>
   obtain⟨p,hp,e1,e2⟩:=(ee hr).1 e;exact(ee Yt).2 ⟨p,gh.2 (.inr hp),e1,e2⟩
theorem nr (t:Ty):∀u:Ty,t.pure=u.pure→t.size=u.size∧t.depth=u.depth:=by
 induction t using Ty.ind with
 |h t ih=>
 intro u hu;rw[Ty.aG t,Ty.aG u] at hu;injection hu with _ _ hu;have hl:t.args.length=u.args.length:=by simpa using congrArg List.length hu
 have hk:∀i (h1:i<t.args.length) (h2:i<u.args.length),(t.args[i]'h1).size=(u.args[i]'h2).size∧(t.args[i]'h1).depth=(u.args[i]'h2).depth:=by
  intro i h1 h2;refine ih _ (aiF h1) _ ?_;have:(t.args.map Ty.pure)[i]?=(u.args.map Ty.pure)[i]?:=by rw[hu]
  rw[List.getElem?_map,List.getElem?_map,aiU h1,aiU h2] at this;simpa using this
 have e1:t.args.map Ty.size=u.args.map Ty.size:=List.ext_getElem (by simpa using hl) (fun i h1 h2=>by
  simp only[List.getElem_map];exact(hk i (by simpa using h1) (by simpa using h2)).1)
 have e2:t.args.map Ty.depth=u.args.map Ty.depth:=List.ext_getElem (by simpa using hl) (fun i h1 h2=>by
  simp only[List.getElem_map];exact(hk i (by simpa using h1) (by simpa using h2)).2)
 rw[Ty.size_eq t,Ty.size_eq u,Ty.aT t,Ty.aT u,e2];rw[e1];exact⟨rfl,rfl⟩
noncomputable def iD (vars:List Int) (types:List Ty):Ty→Nat:=Ty.fold fun t l=>if t.aq=[] then(match putAt vars types t.var with|some u=>u.size|none=>1) else l.sum+1
theorem jE (vars:List Int) (types:List Ty) (t:Ty):iD vars types t=if t.aq=[] then(match putAt vars types t.var with|some u=>u.size|none=>1) else(t.args.map (iD vars types)).sum+1:=by unfold iD;rw[Ty.fold_eq]
noncomputable def oU (vars:List Int) (types:List Ty):Ty→Nat:=Ty.fold fun t l=>if t.aq=[] then(match putAt vars types t.var with|some u=>u.depth|none=>1) else l.foldr max 0+1
theorem mi (vars:List Int) (types:List Ty) (t:Ty):oU vars types t=if t.aq=[] then(match putAt vars types t.var with|some u=>u.depth|none=>1) else(t.args.map (oU vars types)).foldr max 0+1:=by unfold oU;rw[Ty.fold_eq]
noncomputable def nt : Ty→Bool:=Ty.qg fun t => !(t.aq == ([]:aj))||t.args.isEmpty
theorem qG (t:Ty):nt t=((!(t.aq == ([]:aj))||t.args.isEmpty)&&t.args.all nt):=gR _ t
theorem tS {t k:Ty}(h:nt t=true) (hk:k∈t.args):nt k=true:=by
 rw[qG,aiT,aiY] at h;exact h.2 k hk
theorem tU {t:Ty}(h:nt t=true) (hc:t.aq=[]):t.args=[]:=by
 rw[qG,aiT] at h;have:=h.1;rw[hc] at this;simpa using this
theorem Gj (vars:List Int) (types:List Ty) (t:Ty):nt t=true→∀u:Ty,u.pure=fZ vars types t→u.size=iD vars types t∧u.depth=oU vars types t:=by
 induction t using Ty.ind with
 |h t ih=>
 intro hf u hu;rw[eX] at hu;rw[jE,mi]
 by_cases hc:t.aq=[]
 ·rw[if_pos hc] at hu;rw[if_pos hc,if_pos hc];cases e:putAt vars types t.var with
  |none=>
   rw[e] at hu;have ha:=tU hf hc;have h1:u.args.length=0:=by
    rw[Ty.aG u,Option.getD_none,Ty.aG t,ha] at hu;injection hu with _ _ hu;simpa using congrArg List.length hu
   have h2:u.args=[]:=List.length_eq_zero_iff.1 h1;rw[Ty.size_eq,Ty.aT,h2];exact⟨rfl,rfl⟩
  |some x=>
   rw[e,Option.getD_some] at hu;exact nr u x hu
 ·rw[if_neg hc] at hu;rw[if_neg hc,if_neg hc,Ty.size_eq,Ty.aT];rw[Ty.aG u] at hu;injection hu with _ _ hu;have hl:u.args.length=t.args.length:=by simpa using congrArg List.length hu
  have hk:∀i (h1:i<u.args.length) (h2:i<t.args.length),(u.args[i]'h1).size=iD vars types (t.args[i]'h2)∧(u.args[i]'h1).depth=oU vars types (t.args[i]'h2):=by
   intro i h1 h2;refine ih _ (aiF h2) (tS hf (aiF h2)) _ ?_;have:(u.args.map Ty.pure)[i]?=(t.args.map (fZ vars types))[i]?:=by rw[hu]
   rw[List.getElem?_map,List.getElem?_map,aiU h1,aiU h2] at this;simpa using this
  have e1:u.args.map Ty.size=t.args.map (iD vars types):=List.ext_getElem (by simpa using hl) (fun i h1 h2=>by
   simp only[List.getElem_map];exact(hk i (by simpa using h1) (by simpa using h2)).1)
  have e2:u.args.map Ty.depth=t.args.map (oU vars types):=List.ext_getElem (by simpa using hl) (fun i h1 h2=>by
   simp only[List.getElem_map];exact(hk i (by simpa using h1) (by simpa using h2)).2)
  rw[e2];rw[e1];exact⟨rfl,rfl⟩
theorem zv {v:Int}{n:Nat}(h:bO [] v n=true):n=0:=by
 unfold bO at h;simpa using h
theorem qH (t:Ty):bK t=true→nt t=true:=by
 induction t using Ty.ind with
 |h t ih=>
 intro h;rw[cW,aiT,aiY] at h;rw[qG,aiT,aiY];refine⟨?_,fun k hk=>ih k hk (h.2 k hk)⟩
 by_cases hc:t.aq=[]
 ·have h1:=h.1;rw[hc] at h1;have:=zv h1;rw[List.length_eq_zero_iff.1 this];simp
 ·have:(t.aq == ([]:aj))=false:=by simpa using hc
  rw[this];rfl
theorem xt {t:Ty}(h:ax t=true):nt t=true:=by
 unfold ax at h;rw[aiT] at h;exact qH t h.2
theorem nu (t:Ty):∀u:Ty,u.pure=t.pure→bK t=true→bK u=true:=by
 induction t using Ty.ind with
 |h t ih=>
 intro u hu h;rw[cW,aiT,aiY] at h ⊢;rw[Ty.aG t,Ty.aG u] at hu;injection hu with e1 e2 hu;have hl:u.args.length=t.args.length:=by simpa using congrArg List.length hu
 refine⟨by rw[e1,e2,hl];exact h.1,fun k hk => ?_⟩;obtain⟨i,h1,rfl⟩:=List.mem_iff_getElem.1 hk;have h2:i<t.args.length:=by omega
 refine ih _ (aiF h2) _ ?_ (h.2 _ (aiF h2));have:(u.args.map Ty.pure)[i]?=(t.args.map Ty.pure)[i]?:=by rw[hu]
 rw[List.getElem?_map,List.getElem?_map,aiU h1,aiU h2] at this;simpa using this
theorem Df (vars:List Int) (types:List Ty) (jr:∀k∈types,bK k=true) (t:Ty):bK t=true→∀u:Ty,u.pure=fZ vars types t→bK u=true:=by
 induction t using Ty.ind with
 |h t ih=>
 intro h u hu;rw[eX] at hu
 by_cases hc:t.aq=[]
 ·rw[if_pos hc] at hu;cases e:putAt vars types t.var with
  |none=>rw[e] at hu;exact nu t u hu h
  |some x=>rw[e] at hu;exact nu x u hu (jr x (iW e))
 ·rw[if_neg hc,Ty.aG u] at hu;injection hu with e1 e2 hu;rw[cW,aiT,aiY] at h ⊢;have hl:u.args.length=t.args.length:=by simpa using congrArg List.length hu
  refine⟨by rw[e1,e2,hl];exact h.1,fun k hk => ?_⟩;obtain⟨i,h1,rfl⟩:=List.mem_iff_getElem.1 hk;have h2:i<t.args.length:=by omega
  refine ih _ (aiF h2) (h.2 _ (aiF h2)) _ ?_;have:(u.args.map Ty.pure)[i]?=(t.args.map (fZ vars types))[i]?:=by rw[hu]
  rw[List.getElem?_map,List.getElem?_map,aiU h1,aiU h2] at this;simpa using this
theorem aS {t:Ty}(h:ax t=true):t.size≤4096∧t.depth≤100∧bK t=true:=by
 unfold ax at h;rw[aiT,aiT,decide_eq_true_eq,decide_eq_true_eq] at h;exact⟨h.1.1,h.1.2,h.2⟩
theorem tV {vars:List Int}{types:List Ty}(jr:∀k∈types,ax k=true){t u:Ty}(h:ax t=true) (hu:u.pure=fZ vars types t) :
  ax u=(decide (iD vars types t≤4096)&&decide (oU vars types t≤100)):=by
 obtain⟨-,-,hs⟩:=aS h;obtain⟨h1,h2⟩:=Gj vars types t (qH t hs) u hu;unfold ax;rw[h1,h2,Df vars types (fun k hk=>(aS (jr k hk)).2.2) t hs u hu,Bool.and_true]
theorem oo (v:Int) (A:Option Addr) (c:Nat):ax (.mk [] v A c [])=true:=by
 unfold ax;rw[cW,Ty.size_eq,Ty.aT];rfl
theorem fe {t u:Ty}(h:t.pure=u.pure):ax t=ax u:=by
 obtain⟨h1,h2⟩:=nr t u h;have h3:bK t=bK u:=by
  rw[Bool.eq_iff_iff];exact⟨nu t u h.symm,nu u t h⟩
 unfold ax;rw[h1,h2,h3]
def zw (a b:Pd):Prop:=a.cls=b.cls∧a.ty.pure=b.ty.pure
theorem zw.tW {a b:Pd}(h:zw a b):dI a=dI b:=by unfold dI;rw[h.1,fe h.2]
theorem zw.refl (a:Pd):zw a a:=⟨rfl,rfl⟩
def pH {α:Type}(l:List α) (n:Int):Option α:=if 0≤n then l[n.toNat]? else none
theorem nv {α:Type}{l:List α}{n:Int}{x:α}(h:pH l n=some x):0≤n∧n.toNat<l.length∧∃h:n.toNat<l.length,l[n.toNat]'h=x:=by
 unfold pH at h
 split at h
 ·rename_i h0
  obtain⟨h1,h2⟩:=List.getElem?_eq_some_iff.1 h;exact⟨h0,h1,h1,h2⟩
 ·cases h
theorem nw {α:Type}{l:List α}{n:Int}{x:α}(h:pH l n=some x):x∈l:=by
 obtain⟨-,-,h1,h2⟩:=nv h;rw[←h2];exact aiF h1
theorem nx {α:Type}(l:List α) (k:Nat) (h:k<l.length):pH l (k:Int)=some (l[k]'h):=by
 unfold pH;rw[if_pos (by omega)];simp[h]
theorem dK {α:Type}{l:List α}{n:Int}(h:¬(0≤n∧n<l.length)):pH l n=none:=by
 unfold pH
 split
 ·rw[List.getElem?_eq_none (by omega)]
 ·rfl
noncomputable def gi (types:List Ty) (x:Pd) (o:Option Pd):Bool:=match o with
 |some q=>(q.cls == x.cls)&&bN q.ty (types.getD x.ty.var.toNat Ty.zero)
 |none=>false
noncomputable def fO (types:List Ty) (ps:List Pd) (l:List (Option Pd)):Bool:=(ps.zip l).all fun p=>gi types p.1 p.2
noncomputable def cR (x:cL) (p:Pf):Bool:=bE x&&decide ((p.types.length:Int)=x.n)&&decide (p.kids.length=x.preds.length)&&p.types.all ax
noncomputable def cr (ins:List cL) (p:Pf) (l:List (Option Pd)):Option Pd:=(pH ins p.n).bind fun x=>
 if (cR x p&&fO p.types x.preds l)=true then some ⟨x.cls,.mk x.aq 0 p.T p.tc p.types⟩ else none
def cD (cs:List dY) (p:Pf) (l:List (Option Pd)):Option Pd:=
 if p.kids.length=1∧p.types.length=0 then(l.getD 0 none).bind fun q=>(zu cs q.cls).bind fun c=>(pH c.cQ p.n).map fun s=>⟨s,q.ty⟩ else none
def iQ (given:List Pd) (p:Pf):Option Pd:=if p.kids.length=0∧p.types.length=0 then pH given p.n else none
noncomputable def ir (cs:List dY) (ins:List cL) (given:List Pd) (p:Pf) (l:List (Option Pd)):Option Pd:=
 if p.kind=1 then iQ given p else if p.kind=2 then cD cs p l else if p.kind=3 then cr ins p l else none
noncomputable def bw (cs:List dY) (ins:List cL) (given:List Pd):Pf→Option Pd:=Pf.fold fun p l=>(ir cs ins given p l).filter dI
theorem fg (cs:List dY) (ins:List cL) (given:List Pd) (p:Pf):bw cs ins given p=(ir cs ins given p (p.kids.map (bw cs ins given))).filter dI:=by
 unfold bw;rw[Pf.fold_eq]
theorem tX {cs:List dY}{ins:List cL}{given:List Pd}{p:Pf}{q:Pd}(h:bw cs ins given p=some q):dI q=true:=by
 rw[fg] at h;exact(Option.filter_eq_some_iff.1 h).2
theorem xu {p q:Pf}(h:p.pure=q.pure):p.kind=q.kind∧p.n=q.n∧p.types.map Ty.pure=q.types.map Ty.pure∧p.kids.map Pf.pure=q.kids.map Pf.pure:=by
 rw[Pf.aG p,Pf.aG q] at h;injection h with h1 h2 h3 h4;exact⟨h1,h2,h3,h4⟩
theorem ez {α β γ:Type}{f:α→γ}{g:β→γ}{l:List α}{m:List β}(h:l.map f=m.map g){i:Nat}(h1:i<l.length) (h2:i<m.length):f (l[i]'h1)=g (m[i]'h2):=by
 have:(l.map f)[i]?=(m.map g)[i]?:=by rw[h]
 rw[List.getElem?_map,List.getElem?_map,aiU h1,aiU h2] at this;simpa using this
theorem dV {α β γ:Type}{f:α→γ}{g:β→γ}{l:List α}{m:List β}(h:l.map f=m.map g):l.length=m.length:=by simpa using congrArg List.length h
theorem xv {l m:List Ty}(h:l.map Ty.pure=m.map Ty.pure):l.all ax=m.all ax:=by
 have hl:=dV h;rw[Bool.eq_iff_iff,aiY,aiY]
 constructor
 ·intro k x hx;obtain⟨i,h1,rfl⟩:=List.mem_iff_getElem.1 hx;have h2:i<l.length:=by omega
  rw[←fe (ez h h2 h1)];exact k _ (aiF h2)
 ·intro k x hx;obtain⟨i,h1,rfl⟩:=List.mem_iff_getElem.1 hx;have h2:i<m.length:=by omega
  rw[fe (ez h h1 h2)];exact k _ (aiF h2)
def qI (a b:Option Pd):Prop:=∀x,a=some x→∃y,b=some y∧zw x y
theorem LC {types mj:List Ty}(ht:types.map Ty.pure=mj.map Ty.pure){x:Pd}{a b:Option Pd}(h:qI a b) (hw:gi types x a=true):gi mj x b=true:=by
 cases a with
 |none=>cases hw
 |some q=>
  obtain⟨y,rfl,e1,e2⟩:=h q rfl;unfold gi at hw ⊢;simp only[aiT] at hw ⊢;refine⟨by rw[←e1];exact hw.1,?_⟩;rw[fq] at hw ⊢;rw[←e2,hw.2];have hl:=dV ht
  by_cases hi:x.ty.var.toNat<types.length
  ·have hi':x.ty.var.toNat<mj.length:=by omega
   have:=ez ht hi hi';simpa [List.getD,hi,hi'] using this
  ·have hi':¬x.ty.var.toNat<mj.length:=by omega
   simp[List.getD,List.getElem?_eq_none (Nat.le_of_not_lt hi),List.getElem?_eq_none (Nat.le_of_not_lt hi')]
theorem Gk {types mj:List Ty}(ht:types.map Ty.pure=mj.map Ty.pure){ps:List Pd}{l m:List (Option Pd)}(hl:l.length=m.length) (h:∀i (h1:i<l.length) (h2:i<m.length),qI (l[i]'h1) (m[i]'h2))
  (hw:fO types ps l=true):fO mj ps m=true:=by
 unfold fO at hw ⊢;rw[aiY] at hw ⊢;intro p hp;obtain⟨i,h1,rfl⟩:=List.mem_iff_getElem.1 hp;rw[List.length_zip] at h1;have h2:i<l.length:=by omega
 have h3:i<m.length:=by omega
 have h4:i<ps.length:=by omega
 rw[List.getElem_zip];refine LC ht (h i h2 h3) (hw (ps[i]'h4,l[i]'h2) ?_);rw[List.mem_iff_getElem];exact⟨i,by rw[List.length_zip];omega,List.getElem_zip⟩
theorem LD {cs:List dY}{ins:List cL}{given Pu:List Pd}{p q:Pf}(hk:p.kind=q.kind) (hn:p.n=q.n) (ht:p.types.map Ty.pure=q.types.map Ty.pure) (hl:p.kids.length=q.kids.length)
  {l m:List (Option Pd)}(hlp:l.length=p.kids.length) (iu:m.length=q.kids.length) (h:∀i (h1:i<l.length) (h2:i<m.length),qI (l[i]'h1) (m[i]'h2)) (h1:p.kind≠1) :
  qI (ir cs ins given p l) (ir cs ins Pu q m):=by
 intro a ha;have pQ:=dV ht;unfold ir at ha ⊢;rw[if_neg h1] at ha;rw[if_neg (hk▸h1),←hk]
 by_cases h2:p.kind=2
 ·rw[if_pos h2] at ha ⊢;unfold cD at ha ⊢
  split at ha
  ·rename_i hc
   rw[if_pos ⟨by omega,by omega⟩];have e1:0<l.length:=by omega
   have e2:0<m.length:=by omega
   have eg:l.getD 0 none=l[0]'e1:=by simp[List.getD,e1]
   have em:m.getD 0 none=m[0]'e2:=by simp[List.getD,e2]
   rw[eg] at ha;rw[em,←hn];obtain⟨x,hx,ha⟩:=Option.bind_eq_some_iff.1 ha;obtain⟨c,hc,ha⟩:=Option.bind_eq_some_iff.1 ha;obtain⟨s,hs,rfl⟩:=Option.map_eq_some_iff.1 ha;obtain⟨y,hy,e3,e4⟩:=h 0 e1 e2 x hx;rw[e3] at hc;refine⟨⟨s,y.ty⟩,?_,rfl,e4⟩;rw[hy,Option.bind_some,hc,Option.bind_some,hs];rfl
  ·cases ha
 ·rw[if_neg h2] at ha ⊢
  split at ha
  ·rename_i h3
   rw[if_pos h3];unfold cr at ha ⊢;rw[←hn];obtain⟨x,hx,ha⟩:=Option.bind_eq_some_iff.1 ha
   split at ha
   ·rename_i hb
    rw[aiT] at hb;injection ha with ha;subst ha;refine⟨⟨x.cls,.mk x.aq 0 q.T q.tc q.types⟩,?_,rfl,?_⟩
    ·rw[hx,Option.bind_some,if_pos];rw[aiT];refine⟨?_,Gk ht (by omega) h hb.2⟩;have:=hb.1;unfold cR at this ⊢;rw[←pQ,←hl,←xv ht];exact this
    ·rw[Ty.aG,Ty.aG];show Ty.Pure.mk _ _ (p.types.map Ty.pure)=Ty.Pure.mk _ _ (q.types.map Ty.pure);rw[ht];rfl
   ·cases ha
  ·cases ha
theorem filter_le {a b:Option Pd}(h:qI a b):qI (a.filter dI) (b.filter dI):=by
 intro x hx;obtain⟨h1,h2⟩:=Option.filter_eq_some_iff.1 hx;obtain⟨y,rfl,e⟩:=h x h1;exact⟨y,by rw[Option.filter_some,if_pos (by rw[←e.tW];exact h2)],e⟩
theorem Gl (cs:List dY) (ins:List cL) (given:List Pd) (p:Pf):∀q:Pf,p.pure=q.pure→qI (bw cs ins given p) (bw cs ins given q):=by
 induction p using Pf.ind with
 |h p ih=>
 intro q hq;obtain⟨h1,h2,h3,h4⟩:=xu hq;rw[fg,fg];refine filter_le ?_;have hl:=dV h4
 by_cases hk:p.kind=1
 ·intro a ha;refine⟨a,?_,zw.refl a⟩;unfold ir at ha ⊢;rw[if_pos hk] at ha;rw[if_pos (h1▸hk)];unfold iQ at ha ⊢;rw[←h2,←hl,←dV h3];exact ha
 ·refine LD h1 h2 h3 hl (by simp) (by simp) (fun i k1 k2 => ?_) hk;rw[List.getElem_map,List.getElem_map];exact ih _ (aiF _) _ (ez h4 _ _)
inductive Tm where
 |mk (kind n:Int) (name:aj) (V:Option Addr) (vc:Nat) (vars:List Int) (T:Option Addr) (tc:Nat) (types:List Ty) (A:Option Addr) (cap:Nat) (kids:List Tm):Tm
namespace Tm
def kind : Tm→Int | .mk x _ _ _ _ _ _ _ _ _ _ _=>x
def n : Tm→Int | .mk _ x _ _ _ _ _ _ _ _ _ _=>x
def name : Tm→aj | .mk _ _ x _ _ _ _ _ _ _ _ _=>x
def V : Tm→Option Addr | .mk _ _ _ x _ _ _ _ _ _ _ _=>x
def vc : Tm→Nat | .mk _ _ _ _ x _ _ _ _ _ _ _=>x
def vars : Tm→List Int | .mk _ _ _ _ _ x _ _ _ _ _ _=>x
def T : Tm→Option Addr | .mk _ _ _ _ _ _ x _ _ _ _ _=>x
def tc : Tm→Nat | .mk _ _ _ _ _ _ _ x _ _ _ _=>x
def types : Tm→List Ty | .mk _ _ _ _ _ _ _ _ x _ _ _=>x
def A : Tm→Option Addr | .mk _ _ _ _ _ _ _ _ _ x _ _=>x
def cap : Tm→Nat | .mk _ _ _ _ _ _ _ _ _ _ x _=>x
def kids : Tm→List Tm | .mk _ _ _ _ _ _ _ _ _ _ _ x=>x
theorem ind {p:Tm→Prop}(h:∀t,(∀k∈t.kids,p k)→p t) (t:Tm):p t:=
 Tm.rec (motive_1:=p) (motive_2:=fun l=>∀k∈l,p k) (fun _ _ _ _ _ _ _ _ _ _ _ _ hl=>h _ hl) (fun _ hk=>by cases hk)
  (fun _ _ hh ht k hk=>by rcases List.mem_cons.1 hk with rfl|hk;exact hh;exact ht k hk) t
noncomputable def fold {β:Type}(f:Tm→List β→β) (t:Tm):β:=
 Tm.rec (motive_1:=fun _=>β) (motive_2:=fun _=>List β) (fun k n s v vc vs T tc ts a c l r=>f (.mk k n s v vc vs T tc ts a c l) r) [] (fun _ _ h t=>h :: t) t
theorem fold_eq {β:Type}(f:Tm→List β→β) (t:Tm):t.fold f=f t (t.kids.map (fold f)):=by
 cases t with
 |mk k n s v vc vs T tc ts a c l=>
  show f _ _=f _ _
  congr 1
  show Tm.rec_1 (motive_1:=fun _=>β) (motive_2:=fun _=>List β) _ _ _ l=l.map (fold f)
  induction l with
  |nil=>rfl
  |cons x l ih=>exact congrArg (x.fold f :: ·) ih
noncomputable def size : Tm→Nat:=fold fun _ l=>l.sum+1
theorem size_eq (t:Tm):t.size=(t.kids.map size).sum+1:=fold_eq _ t
theorem size_pos (t:Tm):0<t.size:=by rw[size_eq];omega
noncomputable def depth : Tm→Nat:=fold fun _ l=>l.foldr max 0+1
theorem aT (t:Tm):t.depth=(t.kids.map depth).foldr max 0+1:=fold_eq _ t
theorem cF {t k:Tm}(h:k∈t.kids):k.size<t.size:=by rw[size_eq t];have:=Tree.kO size h;omega
theorem qi (t:Tm):t.kids.length<t.size:=by
 rw[size_eq t];have:∀l:List Tm,l.length≤(l.map size).sum:=by
  intro l
  induction l with
  |nil=>simp
  |cons x l ih=>have:=size_pos x;simp only[aiW,List.map_cons,List.sum_cons];omega
 have:=this t.kids;omega
inductive Pure where
 |mk (kind n:Int) (name:aj) (vars:List Int) (types:List Ty.Pure) (kids:List Pure):Pure
noncomputable def pure : Tm→Pure:=fold fun t l=>.mk t.kind t.n t.name t.vars (t.types.map Ty.pure) l
theorem aG (t:Tm):t.pure=.mk t.kind t.n t.name t.vars (t.types.map Ty.pure) (t.kids.map pure):=fold_eq _ t
def zero : Tm:=.mk 0 0 [] none 0 [] none 0 [] none 0 []
end Tm
def Tm.cells (t:Tm):List Value:=[.int .i64 t.kind,.int .i64 t.n,encStr t.name,.slice t.V t.vars.length t.vc,.slice t.T t.types.length t.tc,.slice t.A t.kids.length t.cap]
def eY : fH Tm:=⟨6,Tm.cells,fun _=>rfl,by omega⟩
@[go_sem] def bz (t:Tm):Value:=.agg #[.int .i64 t.kind,.int .i64 t.n,encStr t.name,.slice t.V t.vars.length t.vc,.slice t.T t.types.length t.tc,.slice t.A t.kids.length t.cap]
structure Gm (w:World) (t:Tm):Prop where
 Wx:t.vars.length≤t.vc
 LG:t.vc≤9223372036854775807
 FV:t.types.length≤t.tc
 qj:t.tc≤9223372036854775807
 le:t.kids.length≤t.cap
 max:t.cap≤9223372036854775807
 txt:t.name.length≤9223372036854775807
 vars:Ints w t.V t.vars
 types:bH w t.T t.types
 row:ak eY w t.A t.kids
inductive aQ (w:World):Tm→Prop
 |mk {t:Tm}(hd:Gm w t) (kids:∀k∈t.kids,aQ w k):aQ w t
structure bm (w:World) (A:Option Addr) (l:List Tm):Prop where
 row:ak eY w A l
 kids:∀k∈l,aQ w k
section
variable {w w':World}{t:Tm}
theorem Gm.old (h:Gm w t) (k:Below w.heap.size w w'):Gm w' t:=
 ⟨h.Wx,h.LG,h.FV,h.qj,h.le,h.max,h.txt,Row.old h.vars k.block k.size,h.types.old k,Row.old h.row k.block k.size⟩
theorem aQ.hd (h:aQ w t):Gm w t:=by cases h;assumption
theorem aQ.all (h:aQ w t):bm w t.A t.kids:=by cases h with|mk h k=>exact⟨h.row,k⟩
theorem aQ.old (h:aQ w t) (k:Below w.heap.size w w'):aQ w' t:=by
 induction h with
 |mk h1 _ ih=>exact .mk (h1.old k) ih
theorem aQ.ext (h:aQ w t) (k:Ext w w'):aQ w' t:=h.old k.below
theorem bm.old {A:Option Addr}{l:List Tm}(h:bm w A l) (k:Below w.heap.size w w'):bm w' A l:=⟨Row.old h.row k.block k.size,fun x hx=>(h.kids x hx).old k⟩
theorem bm.ext {A:Option Addr}{l:List Tm}(h:bm w A l) (k:Ext w w'):bm w' A l:=h.old k.below
theorem bm.nil (w:World) (A:Option Addr):bm w A []:=⟨ak.nil _ _ _,by simp⟩
theorem aQ.zero (w:World):aQ w Tm.zero:=.mk ⟨aiH _,by decide,aiH _,by decide,aiH _,by decide,by decide,ak.nil _ _ _,bH.nil _ _,ak.nil _ _ _⟩ (by intro k hk;cases hk)
theorem bm.at_ {A:Option Addr}{l:List Tm}(h:bm w A l){i:Nat}(hi:i<l.length) :
  ∃b o,A=some ⟨b,o,none⟩∧b<w.heap.size∧w.cell? ⟨b,o+i*6,none⟩=some (.int .i64 (l[i]'hi).kind)∧w.cell? ⟨b,o+i*6+1,none⟩=some (.int .i64 (l[i]'hi).n) ∧
   w.cell? ⟨b,o+i*6+2,none⟩=some (.string ⟨(l[i]'hi).name.toArray⟩)∧w.cell? ⟨b,o+i*6+3,none⟩=some (.slice (l[i]'hi).V (l[i]'hi).vars.length (l[i]'hi).vc) ∧
   w.cell? ⟨b,o+i*6+4,none⟩=some (.slice (l[i]'hi).T (l[i]'hi).types.length (l[i]'hi).tc)∧w.cell? ⟨b,o+i*6+5,none⟩=some (.slice (l[i]'hi).A (l[i]'hi).kids.length (l[i]'hi).cap):=by
 obtain⟨b,o,e,hb,hc⟩:=ak.at_ eY h.row hi;refine⟨b,o,e,hb,?_,?_,?_,?_,?_,?_⟩
 ·have:=hc 0 (by decide);simpa [eY,Tm.cells] using this
 ·have:=hc 1 (by decide);simpa [eY,Tm.cells] using this
 ·have:=hc 2 (by decide);simpa [eY,Tm.cells] using this
 ·have:=hc 3 (by decide);simpa [eY,Tm.cells] using this
 ·have:=hc 4 (by decide);simpa [eY,Tm.cells] using this
 ·have:=hc 5 (by decide);simpa [eY,Tm.cells] using this
theorem bm.cut {A:Option Addr}{l:List Tm}(h:bm w A l){k cap:Nat}(hk:k≤l.length) (hc:l.length≤cap):bm w (if cap=k then A else A.map (·.add (k*6))) (l.drop k):=
 ⟨ak.cut eY h.row hk hc,fun x hx=>h.kids x (List.mem_of_mem_drop hx)⟩
theorem bm.take {A:Option Addr}{l:List Tm}(h:bm w A l){k:Nat}(hk:k≤l.length):bm w A (l.take k):=
 ⟨ak.take eY h.row hk,fun x hx=>h.kids x (List.mem_of_mem_take hx)⟩
end
def qJ (c:Nat) (A:Option Addr) (n:Nat):Prop:=n≠0→∀a,A=some a→a.block≠c
theorem qJ.new {w:World}{A:Option Addr}{k n c:Nat}{l:List Value}(h:Row w A k n l) (hc:w.heap.size≤c):qJ c A n:=by
 intro hn a ha;obtain⟨b,o,e,hb,-⟩:=h.2 (by omega);subst ha;injection e with e;subst e;show b≠c;omega
inductive az (c:Nat):Tm→Prop
 |mk {t:Tm}(v:qJ c t.V t.vars.length) (ty:qJ c t.T t.types.length) (ja:∀x∈t.types,aC c x=true) (k:qJ c t.A t.kids.length) (kids:∀k∈t.kids,az c k):az c t
section
variable {w w':World}{t:Tm}{c:Nat}
theorem az.v (h:az c t):qJ c t.V t.vars.length:=by cases h;assumption
theorem az.ty (h:az c t):qJ c t.T t.types.length:=by cases h;assumption
theorem az.ja (h:az c t):∀x∈t.types,aC c x=true:=by cases h;assumption
theorem az.k (h:az c t):qJ c t.A t.kids.length:=by cases h;assumption
theorem az.kids (h:az c t):∀k∈t.kids,az c k:=by cases h;assumption
theorem bA (h:aQ w t) (hc:w.heap.size≤c):az c t:=by
 induction h with
 |mk h _ ih=>exact .mk (qJ.new h.vars hc) (qJ.new h.types.row hc) (fun x hx=>aP (h.types.args x hx) hc) (qJ.new h.row hc) ih
theorem aQ.grown {row:Option Nat}(h:aQ w t) (hg:w.grownBy w' row) (ha:∀c,row=some c→az c t):aQ w' t:=by
 induction h with
 |mk h _ ih=>
  refine .mk ⟨h.Wx,h.LG,h.FV,h.qj,h.le,h.max,h.txt,ew h.vars hg (fun hn a hA e=>(ha _ e).v hn a hA rfl),⟨ew h.types.row hg (fun hn a hA e=>(ha _ e).ty hn a hA rfl),fun x hx=>(h.types.args x hx).grown hg (fun c e=>(ha c e).ja x hx)⟩,ew h.row hg (fun hn a hA e=>(ha _ e).k hn a hA rfl)⟩ (fun k hk=>ih k hk (fun c e=>(ha c e).kids k hk))
end
noncomputable def cd (l:List Tm):Nat:=(l.map Tm.size).sum
theorem xw (l:List Tm) (t:Tm):cd (l++[t])=cd l+t.size:=by simp[cd]
theorem ko (l:List Tm){k:Nat}(h:k<l.length):cd (l.take (k+1))=cd (l.take k)+(l[k]'h).size:=by rw[aiJ h,xw]
theorem Dg (l:List Tm) (k:Nat):cd (l.take k)≤cd l:=by
 have:cd l=cd (l.take k)+cd (l.drop k):=by unfold cd;rw[←List.sum_append,←aiX,List.take_append_drop]
 omega
def av (w:World) (b:Nat) (t:Tm):Prop:=w.heap[b]?=some (.cells #[.int .i64 t.kind,.int .i64 t.n,encStr t.name,.slice t.V t.vars.length t.vc,.slice t.T t.types.length t.tc,.slice t.A t.kids.length t.cap] 40 (0,0))
section
variable {w w':World}{b:Nat}{t:Tm}
theorem av.new (w:World) (t:Tm):av (w.alloc (.cells #[.int .i64 t.kind,.int .i64 t.n,encStr t.name,.slice t.V t.vars.length t.vc,.slice t.T t.types.length t.tc,.slice t.A t.kids.length t.cap] 40)) w.heap.size t:=ah _ _ _ rfl
theorem av.lt (h:av w b t):b<w.heap.size:=ae h
theorem av.ext (h:av w b t) (e:Ext w w'):av w' b t:=(e.heap h.lt).trans h
theorem av.cells (h:av w b t):w.cell? ⟨b,0,none⟩=some (.int .i64 t.kind)∧w.cell? ⟨b,1,none⟩=some (.int .i64 t.n)∧w.cell? ⟨b,2,none⟩=some (.string ⟨t.name.toArray⟩)∧w.cell? ⟨b,3,none⟩=some (.slice t.V t.vars.length t.vc)∧w.cell? ⟨b,4,none⟩=some (.slice t.T t.types.length t.tc)∧w.cell? ⟨b,5,none⟩=some (.slice t.A t.kids.length t.cap):=
 ⟨ag h 0,ag h 1,ag h 2,ag h 3,ag h 4,ag h 5⟩
theorem av.free (h:av w b t) (i:Nat):w.frozen? ⟨b,i,none⟩=false:=ai h i
theorem av.Gn (h:av w b t):w.frozen? ⟨b,0,none⟩=false∧w.frozen? ⟨b,1,none⟩=false∧w.frozen? ⟨b,2,none⟩=false∧w.frozen? ⟨b,3,none⟩=false∧w.frozen? ⟨b,4,none⟩=false∧w.frozen? ⟨b,5,none⟩=false:=
 ⟨h.free 0,h.free 1,h.free 2,h.free 3,h.free 4,h.free 5⟩
theorem av.kept {row:Option Nat}(h:av w b t) (hg:w.grownBy w' row) (hb:row≠some b):av w' b t:=(hg.block b h.lt (fun e=>hb e.symm)).trans h
end
def cC (w:World) (b:Nat) (t:Tm):World:=
 (((((w.setCell ⟨b,0,none⟩ (.int .i64 t.kind)).setCell ⟨b,1,none⟩ (.int .i64 t.n)).setCell ⟨b,2,none⟩ (.string ⟨t.name.toArray⟩)).setCell ⟨b,3,none⟩ (.slice t.V t.vars.length t.vc)).setCell ⟨b,4,none⟩ (.slice t.T t.types.length t.tc)).setCell ⟨b,5,none⟩ (.slice t.A t.kids.length t.cap)
theorem kp {a b c:World}{row:Option Nat}(h:a.grownBy b row) (k:b.grownBy c row):a.grownBy c row:=⟨k.os.trans h.os,k.tape.trans h.tape,k.output.trans h.output,aiM h.size k.size,fun j hj hne=>(k.block j (Nat.lt_of_lt_of_le hj h.size) hne).trans (h.block j hj hne)⟩
theorem bh (w:World) (b:Nat) (t:Tm):w.grownBy (cC w b t) (some b):=
 kp (kp (kp (kp (kp (aL _ _ _ _) (aL _ _ _ _)) (aL _ _ _ _)) (aL _ _ _ _)) (aL _ _ _ _)) (aL _ _ _ _)
theorem fP (w:World) (b:Nat) (t:Tm):(cC w b t).heap.size=w.heap.size:=by simp[cC,World.setCell]
theorem gX {w:World}{b:Nat}(t:Tm){v0 v1 v2 v3 v4 v5:Value}(h:w.heap[b]?=some (.cells #[v0,v1,v2,v3,v4,v5] 40 (0,0))):av (cC w b t) b t:=by
 have:=aw (aw (aw (aw (aw (aw h 0 (.int .i64 t.kind)) 1 (.int .i64 t.n)) 2 (.string ⟨t.name.toArray⟩)) 3 (.slice t.V t.vars.length t.vc)) 4 (.slice t.T t.types.length t.tc)) 5 (.slice t.A t.kids.length t.cap);unfold cC av;simpa using this
theorem bk {W w:World}{b:Nat}(h:Ext W w) (hb:W.heap.size≤b) (t:Tm):Ext W (cC w b t):=h.grown (bh w b t) (fun c e=>by injection e with e;omega)
def gT (a b:Tm) (g:Nat):Tm:=.mk 4 0 [] none 0 [] none 0 [] (some ⟨g,0,none⟩) 2 [a,b]
def ou (a b:Tm.Pure):Tm.Pure:=.mk 4 0 [] [] [] [a,b]
theorem tY (a b:Tm) (g:Nat):(gT a b g).pure=ou a.pure b.pure:=by rw[Tm.aG];rfl
theorem LH {w:World}{a b:Tm}{g:Nat}(ha:aQ w a) (hb:aQ w b) (h:w.heap[g]?=some (.cells ([a,b].flatMap eY.f).toArray 40 (0,0))):aQ w (gT a b g):=
 .mk ⟨aiG _,aiH _,aiG _,aiH _,by simp[gT,Tm.kids,Tm.cap],(by show 2≤_;omega),aiH _,ak.nil _ _ _,bH.nil _ _,ak.block eY [a,b] h⟩ (fun y hy=>by
  simp[gT,Tm.kids] at hy
  rcases hy with rfl|rfl
  ·exact ha
  ·exact hb)
theorem tZ {c:Nat}{a b:Tm}{g:Nat}(hg:g≠c) (ha:az c a) (hb:az c b):az c (gT a b g):=
 .mk (fun h=>absurd rfl h) (fun h=>absurd rfl h) (by simp[gT,Tm.types]) (fun _ x e=>by injection e with e;subst e;exact hg) (fun y hy=>by
  simp[gT,Tm.kids] at hy
  rcases hy with rfl|rfl
  ·exact ha
  ·exact hb)
noncomputable def ny (f:Tm.Pure) (l:List Tm):Tm.Pure:=l.foldl (fun f x=>ou f x.pure) f
theorem qK (f:Tm.Pure) (l:List Tm){k:Nat}(h:k<l.length):ny f (l.take (k+1))=ou (ny f (l.take k)) (l[k]'h).pure:=by
 unfold ny;rw[aiJ h,List.foldl_append];rfl
def NX (c t:aj):aj:=([64]:aj)++c++([64]:aj)++t
def iG (i:Int):Tm:=.mk 1 0 (([35]:aj)++cj i.toNat) none 0 [] none 0 [] none 0 []
def cm (n first:Int):List Tm:=if n<1∨n>4096∨first<0∨first>1099511627776 then [] else(List.range n.toNat).map fun(i:Nat)=>iG (first+(i:Int))
def NY (cls:Pf→aj) (ins:List cL) (given:List Tm.Pure) (p:Pf) (types:List Ty.Pure) (l:List Tm.Pure):Tm.Pure:=
 if p.kind=1 then(pH given p.n).getD (.mk 0 0 [] [] [] [])
 else if p.kind=2 then .mk 13 p.n (cls (p.kids.getD 0 Pf.zero)) [] [] [l.getD 0 (.mk 0 0 [] [] [] [])]
 else match pH ins p.n with
  |some x=>l.foldl ou (if types=[] then .mk 1 0 (NX x.cls x.aq) [] [] [] else .mk 6 0 [] [] types [.mk 1 0 (NX x.cls x.aq) [] [] []])
  |none=>.mk 0 0 [] [] [] []
noncomputable def kR (cs:List dY) (ins:List cL) (preds:List Pd) (given:List Tm.Pure):Pf→Tm.Pure:=Pf.fold fun p l=>
 NY (fun k=>((bw cs ins preds k).map Pd.cls).getD []) ins given p (p.types.map Ty.pure) l
theorem ml (cs:List dY) (ins:List cL) (preds:List Pd) (given:List Tm.Pure) (p:Pf):kR cs ins preds given p=NY (fun k=>((bw cs ins preds k).map Pd.cls).getD []) ins given p (p.types.map Ty.pure) (p.kids.map (kR cs ins preds given)):=by
 unfold kR;rw[Pf.fold_eq]
theorem eB {cs:List dY}{ins:List cL}{preds:List Pd}{p:Pf}{q:Pd}(h:bw cs ins preds p=some q) :
  (p.kind=1∧p.kids=[]∧p.types=[]∧0≤p.n∧p.n<preds.length) ∨
  (p.kind=2∧p.types=[]∧∃k b,p.kids=[k]∧bw cs ins preds k=some b) ∨
  (p.kind=3∧∃x,pH ins p.n=some x∧p.kids.length=x.preds.length∧∀k∈p.kids,∃b,bw cs ins preds k=some b):=by
 rw[fg] at h;obtain⟨h,-⟩:=Option.filter_eq_some_iff.1 h;unfold ir at h
 by_cases k1:p.kind=1
 ·rw[if_pos k1] at h
  left
  unfold iQ at h
  split at h
  ·rename_i hc
   obtain⟨a1,a2,-⟩:=nv h;exact⟨k1,List.length_eq_zero_iff.1 hc.1,List.length_eq_zero_iff.1 hc.2,a1,by omega⟩
  ·cases h
 ·rw[if_neg k1] at h
  by_cases k2:p.kind=2
  ·rw[if_pos k2] at h
   right;left
   unfold cD at h
   split at h
   ·rename_i hc
    obtain⟨k,hk⟩:=List.length_eq_one_iff.1 hc.1;obtain⟨b,hb,-⟩:=Option.bind_eq_some_iff.1 h;rw[hk] at hb;exact⟨k2,List.length_eq_zero_iff.1 hc.2,k,b,hk,hb⟩
   ·cases h
  ·rw[if_neg k2] at h
   by_cases k3:p.kind=3
   ·rw[if_pos k3] at h
    right;right
    unfold cr at h;obtain⟨x,hx,h⟩:=Option.bind_eq_some_iff.1 h
    split at h
    ·rename_i hc
     rw[aiT] at hc;obtain⟨hc1,hc2⟩:=hc;unfold cR at hc1;simp only[aiT,decide_eq_true_eq] at hc1;refine⟨k3,x,hx,hc1.1.2,fun k hk => ?_⟩;obtain⟨i,hi,rfl⟩:=List.mem_iff_getElem.1 hk;unfold fO at hc2;rw[aiY] at hc2;have hl:=hc1.1.2;have hz:i<(x.preds.zip (p.kids.map (bw cs ins preds))).length:=by rw[List.length_zip,List.length_map];omega
     have:=hc2 _ (aiF hz);rw[List.getElem_zip,List.getElem_map] at this;unfold gi at this;cases hp:bw cs ins preds (p.kids[i]'hi) with
     |none=>rw[hp] at this;cases this
     |some b=>exact⟨b,rfl⟩
    ·cases h
   ·rw[if_neg k3] at h;cases h
def aO (w:World) (b:Nat) (t:Pf):Prop:=w.heap[b]?=some (.cells #[.int .i64 t.kind,.int .i64 t.n,.slice t.T t.types.length t.tc,.slice t.A t.kids.length t.cap] 34 (0,0))
section
variable {w w':World}{b:Nat}{t:Pf}
theorem aO.new (w:World) (t:Pf):aO (w.alloc (.cells #[.int .i64 t.kind,.int .i64 t.n,.slice t.T t.types.length t.tc,.slice t.A t.kids.length t.cap] 34)) w.heap.size t:=ah _ _ _ rfl
theorem aO.lt (h:aO w b t):b<w.heap.size:=ae h
theorem aO.ext (h:aO w b t) (e:Ext w w'):aO w' b t:=(e.heap h.lt).trans h
theorem aO.c0 (h:aO w b t):w.cell? ⟨b,0,none⟩=some (.int .i64 t.kind):=by unfold aO at h;simp[World.cell?,h]
theorem aO.c1 (h:aO w b t):w.cell? ⟨b,1,none⟩=some (.int .i64 t.n):=by unfold aO at h;simp[World.cell?,h]
theorem aO.c2 (h:aO w b t):w.cell? ⟨b,2,none⟩=some (.slice t.T t.types.length t.tc):=by unfold aO at h;simp[World.cell?,h]
theorem aO.c3 (h:aO w b t):w.cell? ⟨b,3,none⟩=some (.slice t.A t.kids.length t.cap):=by unfold aO at h;simp[World.cell?,h]
theorem aO.cells (h:aO w b t):w.cell? ⟨b,0,none⟩=some (.int .i64 t.kind)∧w.cell? ⟨b,1,none⟩=some (.int .i64 t.n)∧w.cell? ⟨b,2,none⟩=some (.slice t.T t.types.length t.tc)∧w.cell? ⟨b,3,none⟩=some (.slice t.A t.kids.length t.cap):=⟨h.c0,h.c1,h.c2,h.c3⟩
theorem aO.free (h:aO w b t) (i:Nat):w.frozen? ⟨b,i,none⟩=false:=by unfold aO at h;simp[World.frozen?,h]
end
set_option maxRecDepth 10000
set_option maxHeartbeats 8000000
theorem Gp (t:Pf):∀(w:World),bW w t→t.size≤1000000 →
  Calls Tryz.prog 105 #[bM t] w fun e w'=>e=.returned (.int .i64 (t.size:Int))∧Ext w w':=by
 induction t using Pf.ind with
 |h t ih=>
 intro w h hsz;have IH:=aa ih;have Hk:=aa h.all;have hle:=h.hd.le;have hmx:=h.hd.max;have fI:=aa (aO.new w t);have X0:aiE (Ext w (w.alloc (.cells #[.int .i64 t.kind,.int .i64 t.n,.slice t.T t.types.length t.tc,.slice t.A t.kids.length t.cap] 34))):=aa ((eR w).alloc _);have HS:aiE (t.size=dA t.kids+1):=aa (Pf.size_eq t);have pD:=aa (fun k (hk:k<t.kids.length)=>oT t.kids hk);have CS:=aa (fun k=>tH t.kids k);have ki:=aa (fun k (hk:k∈t.kids)=>Pf.cF hk);clear ih h;unfold bM at *;go_enter Tryz.func105,Tryz.ntmps105;go_wp2;generalize (w.alloc (.cells #[.int .i64 t.kind,.int .i64 t.n,.slice t.T t.types.length t.tc,.slice t.A t.kids.length t.cap] 34))=w0 at *
 go_loopw [3,4] (fun v i wr=>∃k:Nat,k≤t.kids.length∧i=.int .i64 k∧v=.int .i64 ((dA (t.kids.take k)+1:Nat):Int)∧aiE (Ext w0 wr)) (fun _ i _=>t.kids.length - (intOf i).toNat)
 case atStart=>exact⟨0,aiH _,rfl,rfl,aa (eR _)⟩
 case round=>
  obtain⟨k,hk,rfl,rfl,HX⟩:=hrel;have HB:=aa (fI.o.ext HX.o);have hc3:=HB.o.c3
  by_cases hlt:k<t.kids.length
  ·have aN:(k:Int)<(t.kids.length:Int):=by omega
   have cV:(0:Int)≤(k:Int):=by omega
   obtain⟨b,o,hA,hb,q0,q1,q2,q3⟩:=(Hk.o.ext (X0.o.trans HX.o)).at_ hlt;have cB:=aiF hlt;have iC:=aa (pD.o k hlt);have hs1:=CS.o (k+1);rw[iC.o] at hs1;have hS:=HS.o;have hcs:=ki.o _ cB;have HC:=aa (IH.o _ cB wr ((Hk.o.kids _ cB).ext (X0.o.trans HX.o)) (by omega));rw[hA] at hc3;clear hA cB;generalize t.kids[k]'hlt=c at *;generalize dA (t.kids.take k)=s at *;go_wp2_with fail;refine HC.o.mono ?_;rintro e w3 ⟨rfl,hx3⟩;have X3:=aa (HX.o.trans hx3);clear hx3;go_wp2;go_roundw
   case rel=>exact⟨k+1,hlt,by go_num,by rw[iC.o];exact congrArg (Value.int .i64) (by omega),X3⟩
   case measure=>simp[intOf];omega
  ·have bS:¬(k:Int)<(t.kids.length:Int):=by omega
   have hR:dA (t.kids.take k)+1=t.size:=by rw[HS.o,aiK (by omega)]
   rw[hR];clear hR;go_wp2;go_ret;exact⟨rfl,X0.o.trans HX.o⟩
theorem Gq (t:Pf):∀(w:World),bW w t→t.size≤1000000 →
  Calls Tryz.prog 144 #[bM t] w fun e w'=>e=.returned (.int .i64 (t.size:Int))∧Ext w w':=by
 induction t using Pf.ind with
 |h t ih=>
 intro w h hsz;have IH:=aa ih;have Hk:=aa h.all;have hle:=h.hd.le;have hmx:=h.hd.max;have fI:=aa (aO.new w t);have X0:aiE (Ext w (w.alloc (.cells #[.int .i64 t.kind,.int .i64 t.n,.slice t.T t.types.length t.tc,.slice t.A t.kids.length t.cap] 34))):=aa ((eR w).alloc _);have HS:aiE (t.size=dA t.kids+1):=aa (Pf.size_eq t);have pD:=aa (fun k (hk:k<t.kids.length)=>oT t.kids hk);have CS:=aa (fun k=>tH t.kids k);have ki:=aa (fun k (hk:k∈t.kids)=>Pf.cF hk);clear ih h;unfold bM at *;go_enter Tryz.func144,Tryz.ntmps144;have hc3:=fI.o.c3;go_wp2;clear hc3;generalize (w.alloc (.cells #[.int .i64 t.kind,.int .i64 t.n,.slice t.T t.types.length t.tc,.slice t.A t.kids.length t.cap] 34))=w0 at *
 go_loopw [3,9] (fun v i wr=>∃k:Nat,k≤t.kids.length∧i=.int .i64 k∧v=.int .i64 ((dA (t.kids.take k)+1:Nat):Int)∧aiE (Ext w0 wr)) (fun _ i _=>t.kids.length - (intOf i).toNat)
 case atStart=>exact⟨0,aiH _,rfl,rfl,aa (eR _)⟩
 case round=>
  obtain⟨k,hk,rfl,rfl,HX⟩:=hrel
  by_cases hlt:k<t.kids.length
  ·have aN:(k:Int)<(t.kids.length:Int):=by omega
   have cV:(0:Int)≤(k:Int):=by omega
   obtain⟨b,o,hA,hb,q0,q1,q2,q3⟩:=(Hk.o.ext (X0.o.trans HX.o)).at_ hlt;have cB:=aiF hlt;have iC:=aa (pD.o k hlt);have hs1:=CS.o (k+1);rw[iC.o] at hs1;have hS:=HS.o;have hcs:=ki.o _ cB;have HC:=aa (IH.o _ cB (wr.alloc (.cells #[.int .i64 (t.kids[k]'hlt).kind,.int .i64 (t.kids[k]'hlt).n,.slice (t.kids[k]'hlt).T (t.kids[k]'hlt).types.length (t.kids[k]'hlt).tc,.slice (t.kids[k]'hlt).A (t.kids[k]'hlt).kids.length (t.kids[k]'hlt).cap] 34)) (((Hk.o.kids _ cB).ext (X0.o.trans HX.o)).ext ((eR _).alloc _)) (by omega));rw[hA];clear hA cB;generalize t.kids[k]'hlt=c at *;generalize dA (t.kids.take k)=s at *;go_wp2_with fail;refine HC.o.mono ?_;rintro e w3 ⟨rfl,hx3⟩;have X3:=aa ((HX.o.alloc _).trans hx3);clear hx3;go_wp2;go_roundw
   case rel=>exact⟨k+1,hlt,by go_num,by rw[iC.o];exact congrArg (Value.int .i64) (by omega),X3⟩
   case measure=>simp[intOf];omega
  ·have bS:¬(k:Int)<(t.kids.length:Int):=by omega
   have hR:dA (t.kids.take k)+1=t.size:=by rw[HS.o,aiK (by omega)]
   rw[hR];clear hR;go_wp2;go_ret;exact⟨rfl,X0.o.trans HX.o⟩
set_option maxRecDepth 512
set_option maxHeartbeats 200000
open Go.Shelf
set_option maxRecDepth 10000
set_option maxHeartbeats 8000000
theorem LI (f:FuncId) (lb:Array Value) (ef:fz f) (w0:World) (c:Nat) (J Jx:List (Nat×Ty)→World→Value→Prop)
  (Pj:∀pre w w' v,J pre w v→Ext w w'→J pre w' v)
  (Pk:∀pre w v,J pre w v→w0.heap.size≤c∧c<w.heap.size∧∀k,v.ownBlock=some k→w0.heap.size≤k∧k<w.heap.size)
  (hY:∀pre (x:Nat×Ty) w v,J pre w v→x.1≤1000000→aH w x.2→Calls Tryz.prog f (#[bl x.2,.int .i64 (x.1:Nat)]++lb) w fun e w'=>
   ∃v',Tr c w v w' v'∧((e=.returned (.bool true)∧J (pre++[x]) w' v')∨(e=.returned (.bool false)∧Jx (pre++[x]) w' v')))
  (hJd:∀pre (x:Nat×Ty) w v,J (pre++[x]) w v→x.1≤1000) (t:Ty) :
  ∀(d:Nat) (pre:List (Nat×Ty)) (w:World) (v:Value),aH w0 t→Below w0.heap.size w0 w→J pre w v→d≤1000000 →
   Calls Tryz.prog 165 #[bl t,.int .i64 d,.func (.func f) #[] lb] w fun e w'=>∃v',Tr c w v w' v'∧((e=.returned (.bool true)∧J (pre++t.iE d) w' v')∨(e=.returned (.bool false)∧∃q,q <+: t.iE d∧Jx (pre++q) w' v')):=by
 induction t using Ty.ind with
 |h t ih=>
 intro d pre w v ht hB hJ hsz;have IH:=aa ih;have Hk:=aa ht.all;have hle:=ht.le;have hmx:=ht.max;have fI:=aa (aU.new w t);have X0:Ext w (w.alloc (.cells #[encStr t.aq,.int .i64 t.var,.slice t.A t.args.length t.cap] 53)):=(eR w).alloc _;have hlv:=mV t d;have SS:=Pj _ _ _ _ hJ X0;have hl0:=Pk _ _ _ hJ;have HC:=aa (hY pre (d,t) _ v SS (by show d≤1000000;omega) ((ht.old hB).ext X0));have CZ:=aa hB;have SU:=aa (fun k (hk:k<t.args.length)=>qd t.args (d+1) hk);have Yl:=aa (fun k=>oP t.args (d+1) k);have KG:=aa hlv;have Ym:aiE (∀k,v.ownBlock=some k→w0.heap.size≤k):=aa (fun k e=>(hl0.2.2 k e).1);have Yn:=aa Pj;have SV:=aa Pk;have HJd:=aa hJd;have T0:aiE (Tr c w v (w.alloc (.cells #[encStr t.aq,.int .i64 t.var,.slice t.A t.args.length t.cap] 53)) v):=aa (Tr.dQ X0);unfold fz at ef;have hne:w.heap.size≠c:=by omega
 have RU:v.ownBlock≠some w.heap.size:=fun e=>by have:=(hl0.2.2 _ e).2;omega
 clear ih hB hJ SS hlv hY Pj Pk hJd ht hl0 X0;unfold bl at *;dsimp only at HC;generalize xn:t.A=A0 at *;have BC:=aa xn;clear xn;go_enter Tryz.func165,Tryz.ntmps165;go_wp2_with fail;refine HC.o.mono ?_;rintro e w2 ⟨v2,C5,(⟨rfl,hJ2⟩|⟨rfl,Yo⟩)⟩
 ·have T2:=aa (T0.o.trans C5);have gS:=aa (fI.o.tr C5 hne RU);have hdd:d≤1000:=HJd.o _ _ _ _ hJ2;have jU:=aa hJ2;clear C5 hJ2 T0 HC;have hc2:=gS.o.c2;rw[BC.o] at hc2;go_wp2
  go_loopw [17] (fun i wr=>∃(k:Nat) (v3:Value),k≤t.args.length∧i=.int .i64 k∧aiE (J (pre++(d,t) :: cA (t.args.take k) (d+1)) wr v3)∧aiE (Tr c w v wr v3)∧aiE (Tr c w2 v2 wr v3)) (fun i _=>t.args.length - (intOf i).toNat)
  case atStart=>exact⟨0,v2,aiH _,rfl,aa (by simpa [cA] using jU.o),T2,aa (Tr.refl _ _ _)⟩
  case round=>
   obtain⟨k,v3,hk,rfl,HJ,HT,zq⟩:=hrel
   by_cases hlt:k<t.args.length
   ·have aN:(k:Int)<(t.args.length:Int):=by omega
    have cV:(0:Int)≤(k:Int):=by omega
    have qx:=SV.o _ _ _ HJ.o;have Yp:=SV.o _ _ _ jU.o;have Fw:aiE (Below w0.heap.size w0 wr):=aa (CZ.o.trans (HT.o.below (by have:=CZ.o.size;omega) qx.1 (fun k hk=>(Ym.o k hk))));obtain⟨b,o,rfl,hb,q0,q1,q2⟩:=(Hk.o.old Fw.o).at_ hlt;have mP:=aiF hlt;have Pl:=aa (SU.o k hlt);have HC:=aa (IH.o _ mP (d+1) _ (wr.alloc (.cells #[encStr (t.args[k]'hlt).aq,.int .i64 (t.args[k]'hlt).var,.slice (t.args[k]'hlt).A (t.args[k]'hlt).args.length (t.args[k]'hlt).cap] 53)) v3 (Hk.o.args _ mP) (Fw.o.alloc (by have:=Fw.o.size;omega) _) (Yn.o _ _ _ _ HJ.o ((eR _).alloc _)) (by omega));have T3:aiE (Tr c w v (wr.alloc (.cells #[encStr (t.args[k]'hlt).aq,.int .i64 (t.args[k]'hlt).var,.slice (t.args[k]'hlt).A (t.args[k]'hlt).args.length (t.args[k]'hlt).cap] 53)) v3):=aa (HT.o.trans (Tr.dQ ((eR _).alloc _)));have Yq:aiE (Tr c w2 v2 (wr.alloc (.cells #[encStr (t.args[k]'hlt).aq,.int .i64 (t.args[k]'hlt).var,.slice (t.args[k]'hlt).A (t.args[k]'hlt).args.length (t.args[k]'hlt).cap] 53)) v3):=aa (zq.o.trans (Tr.dQ ((eR _).alloc _)));have SX:=aa (Yl.o k);have SY:aiE (cA (t.args.drop k) (d+1)=(t.args[k]'hlt).iE (d+1)++cA (t.args.drop (k+1)) (d+1)):=aa (by unfold cA;rw[List.drop_eq_getElem_cons hlt];rfl);clear mP qx Yp;generalize t.args[k]'hlt=x at *;have RV:(d:Int)+1≤2000000:=by omega
    have Wu:(0:Int)≤(d:Int):=by omega
    go_wp2_with fail;refine HC.o.mono ?_;rintro e w4 ⟨v4,Ge,(⟨rfl,NR⟩|⟨rfl,q,hq,Gf⟩)⟩
    ·have T4:=aa (T3.o.trans Ge);have Yr:=aa (Yq.o.trans Ge);have SZ:=aa NR;clear NR Ge;go_wp2;go_roundw
     case rel=>exact⟨k+1,v4,hlt,by go_num,aa (by rw[Pl.o];simpa using SZ.o),T4,Yr⟩
     case measure=>simp[intOf];omega
    ·have T4:=aa (T3.o.trans Ge);clear Ge;go_wp2;go_ret;refine⟨v4,T4.o,.inr ⟨rfl,(d,t) :: cA (t.args.take k) (d+1)++q,?_,by simpa using Gf⟩⟩;obtain⟨r,hr⟩:=hq;rw[KG.o,SX.o,SY.o,←hr];exact⟨r++cA (t.args.drop (k+1)) (d+1),by simp⟩
   ·have bS:¬(k:Int)<(t.args.length:Int):=by omega
    have wZ:t.args.take k=t.args:=aiK (by omega);have HF:aiE (J (pre++t.iE d) wr v3):=aa (by have:=HJ.o;rw[wZ,←KG.o] at this;exact this);clear wZ;go_wp2;go_ret;exact⟨v3,HT.o,.inl ⟨rfl,HF.o⟩⟩
 ·have T2:=aa (T0.o.trans C5);clear C5;go_wp2;go_ret;exact⟨v2,T2.o,.inr ⟨rfl,[(d,t)],by rw[KG.o];exact⟨_,rfl⟩,Yo⟩⟩
theorem xx (t:Ty) (w:World) (h:aH w t):Calls Tryz.prog 120 #[bl t] w fun e w'=>e=.returned (.bool (ax t))∧Ext w w':=by
 have HB:=aa (aU.new w t);have X1:Ext w ((w.alloc (.cells #[encStr t.aq,.int .i64 t.var,.slice t.A t.args.length t.cap] 53)).alloc (.cells #[.int .i64 0] 3)):=((eR w).alloc _).alloc _;have hs:(w.alloc (.cells #[encStr t.aq,.int .i64 t.var,.slice t.A t.args.length t.cap] 53)).heap.size=w.heap.size+1:=by simp
 have hc:((w.alloc (.cells #[encStr t.aq,.int .i64 t.var,.slice t.A t.args.length t.cap] 53)).alloc (.cells #[.int .i64 0] 3)).heap[w.heap.size+1]?=some (.cells #[.int .i64 0] 3 (0,0)):=by
  have:=ah (w.alloc (.cells #[encStr t.aq,.int .i64 t.var,.slice t.A t.args.length t.cap] 53)) (.cells #[Value.int .i64 0] 3) (w.heap.size+1) hs.symm;exact this
 have HW:=aa (LI 166 #[.pointer (some ⟨w.heap.size+1,0,none⟩)] lD w (w.heap.size+1)
  (fun pre w' v=>v=.bool false∧w'.heap[w.heap.size+1]?=some (.cells #[.int .i64 pre.length] 3 (0,0))∧pre.length≤4096∧∀p∈pre,Gg p=true)
  (fun pre _ _=>¬(pre.length≤4096∧∀p∈pre,Gg p=true))
  (fun pre w1 w2 v hj e=>⟨hj.1,(e.heap (ae hj.2.1)).trans hj.2.1,hj.2.2⟩)
  (fun pre w1 v hj=>⟨by omega,ae hj.2.1,fun k hk=>by rw[hj.1] at hk;cases hk⟩)
  (fun pre x w1 v hj hx ht=>by
   obtain⟨rfl,hcell,hlen,hall⟩:=hj;refine(xo x.2 x.1 pre.length (w.heap.size+1) w1 ht hcell (by omega)).mono ?_;rintro e w2 ⟨rfl,hc2,hT⟩;refine⟨.bool false,hT,?_⟩
   by_cases bT:pre.length+1≤4096∧Gg x=true
   ·left
    refine⟨?_,rfl,by rw[aiL];exact hc2,by rw[aiL];exact bT.1,?_⟩
    ·have h2:=bT.2;unfold Gg at h2;rw[Bool.and_assoc,h2,Bool.and_true,decide_eq_true bT.1]
    ·intro p hp
     rcases List.mem_append.1 hp with hp|hp
     ·exact hall p hp
     ·rw[aiV] at hp;rw[hp];exact bT.2
   ·right
    refine⟨?_,?_⟩
    ·have:(decide (pre.length+1≤4096)&&(decide (x.1≤100)&&bO x.2.aq x.2.var x.2.args.length))=false:=by
      rw[←Bool.not_eq_true,aiT,decide_eq_true_eq];exact bT
     rw[Bool.and_assoc,this]
    ·rintro⟨h1,h2⟩;rw[aiL] at h1;exact bT ⟨h1,h2 x (by simp)⟩)
  (fun pre x _ _ hj=>by
   have:=hj.2.2.2 x (by simp);unfold Gg at this;rw[aiT,decide_eq_true_eq] at this;omega)
  t 1 [] ((w.alloc (.cells #[encStr t.aq,.int .i64 t.var,.slice t.A t.args.length t.cap] 53)).alloc (.cells #[.int .i64 0] 3)) (.bool false) h X1.below ⟨rfl,hc,by decide,by simp⟩ (by omega))
 have HL:=aa (qB t);have HX:=aa X1;clear h hc hs X1;generalize ax t=R at *;unfold bl at *;go_enter Tryz.func120,Tryz.ntmps120;go_wp2_with fail;refine HW.o.mono ?_;rintro e w2 ⟨v2,hT,(⟨rfl,hj⟩|⟨rfl,q,hq,hx⟩)⟩
 ·have HE:=aa (Ext.cw (HX.o.below.trans (hT.below HX.o.size (by omega) (fun k e=>by cases e))) (aiG _));have HR:=aa (HL.o.2 ⟨hj.2.2.1,hj.2.2.2⟩);clear hT hj;go_wp2;go_ret;exact⟨by rw[HR.o];rfl,HE.o⟩
 ·have HE:=aa (Ext.cw (HX.o.below.trans (hT.below HX.o.size (by omega) (fun k e=>by cases e))) (aiG _));have HR:aiE (R=false):=aa (by
   rw[←Bool.not_eq_true];intro h;obtain⟨h1,h2⟩:=HL.o.1 h;obtain⟨r,hr⟩:=hq;have h3:q.length≤4096:=by rw[←hr,aiL] at h1;omega
   exact hx ⟨by simpa using h3,fun p hp=>h2 p (by rw[←hr];exact List.mem_append_left _ (by simpa using hp))⟩)
  clear hT hx hq;go_wp2;go_ret;exact⟨by rw[HR.o];rfl,HE.o⟩
theorem kq (p:Pd) (w:World) (h:dH w p):Calls Tryz.prog 91 #[fN p] w fun e w'=>e=.returned (.bool (dI p))∧Ext w w':=by
 have X0:aiE (Ext w (w.alloc (.cells #[encStr p.cls,encStr p.ty.aq,.int .i64 p.ty.var,.slice p.ty.A p.ty.args.length p.ty.cap] 55))):=aa ((eR w).alloc _);have HB:=aa (aR.new w p);obtain⟨c0,c1,c2,c3⟩:=HB.o.cells;have HN:=aa (fun w'=>aa (qA p.cls w' (by have:=h.cls;omega)));have HL:=aa (fun w' (e:Ext w w')=>aa (xx p.ty w' (h.ty.ext e)));have HP:aiE (dI p=(bZ p.cls&&ax p.ty)):=aa rfl;clear h;unfold fN bl at *;generalize dI p=R at *;cases hb:bZ p.cls
 ·rw[hb] at HN HP;have hR:R=false:=by rw[HP.o];rfl
  clear HP;subst hR;go_enter Tryz.func91,Tryz.ntmps91;go_wp2_with fail;refine(HN.o _).o.mono ?_;rintro e w2 ⟨rfl,rfl⟩;go_wp2;go_ret;exact⟨rfl,X0.o⟩
 ·rw[hb] at HN HP;have hR:R=ax p.ty:=by rw[HP.o];rfl
  clear HP;subst hR;go_enter Tryz.func91,Tryz.ntmps91;go_wp2_with fail;refine(HN.o _).o.mono ?_;rintro e w2 ⟨rfl,rfl⟩;go_wp2_with fail;refine(HL.o _ X0.o).o.mono ?_;rintro e w3 ⟨rfl,hx⟩;go_wp2;go_ret;exact⟨rfl,X0.o.trans hx⟩
theorem mm (p:Pd) (w:World) (h:dH w p) (hsz:p.ty.size≤900000):Calls Tryz.prog 61 #[fN p] w fun e w'=>e=.returned (.bool (dI p))∧Ext w w':=by
 have X0:aiE (Ext w (w.alloc (.cells #[encStr p.cls,encStr p.ty.aq,.int .i64 p.ty.var,.slice p.ty.A p.ty.args.length p.ty.cap] 55))):=aa ((eR w).alloc _);have HB:=aa (aR.new w p);obtain⟨c0,c1,c2,c3⟩:=HB.o.cells;have HN:=aa (fun w'=>aa (jC p.cls w' (by have:=h.cls;omega)));have HL:=aa (fun w' (e:Ext w w')=>aa (fM p.ty w' (h.ty.ext e) (by omega)));have HP:aiE (dI p=(bZ p.cls&&ax p.ty)):=aa rfl;clear h;unfold fN bl at *;generalize dI p=R at *;cases hb:bZ p.cls
 ·rw[hb] at HN HP;have hR:R=false:=by rw[HP.o];rfl
  clear HP;subst hR;go_enter Tryz.func61,Tryz.ntmps61;go_wp2_with fail;refine(HN.o _).o.mono ?_;rintro e w2 ⟨rfl,rfl⟩;go_wp2;go_ret;exact⟨rfl,X0.o⟩
 ·rw[hb] at HN HP;have hR:R=ax p.ty:=by rw[HP.o];rfl
  clear HP;subst hR;go_enter Tryz.func61,Tryz.ntmps61;go_wp2_with fail;refine(HN.o _).o.mono ?_;rintro e w2 ⟨rfl,rfl⟩;go_wp2_with fail;refine(HL.o _ X0.o).o.mono ?_;rintro e w3 ⟨rfl,hx⟩;go_wp2;go_ret;exact⟨rfl,X0.o.trans hx⟩
theorem Gr (f:FuncId) (lb:Array Value) (ef:fz f) (p:Ty→Bool) (A:Option Addr) (cap:Nat) (l:List Ty) (w:World) (h:bH w A l) (hl:l.length≤1000000) (hp:∀w',Ext w w'→∀x∈l,Calls Tryz.prog f (#[bl x]++lb) w' fun e w''=>e=.returned (.bool (p x))∧Ext w' w'') :
  Calls Tryz.prog 199 #[.slice A l.length cap,.func (.func f) #[] lb] w fun e w'=>(∃i:Int,e=.returned (.int .i64 i)∧(0≤i↔l.any p=true))∧Ext w w':=by
 have HL:=aa h;have HP:=aa hp;unfold fz at ef;clear h hp;obtain⟨R,hR⟩:∃R,R=l.any p:=⟨_,rfl⟩;have HR:=aa hR;rw[←hR];clear hR;go_enter Tryz.func199,Tryz.ntmps199;go_wp2
 go_loopw [8] (fun i wr=>∃k:Nat,k≤l.length∧i=.int .i64 k∧aiE ((l.take k).any p=false)∧aiE (Ext w wr)) (fun i _=>l.length - (intOf i).toNat)
 case atStart=>exact⟨0,aiH _,rfl,aa (by simp),aa (eR _)⟩
 case round=>
  obtain⟨k,hk,rfl,HA,HX⟩:=hrel
  by_cases hlt:k<l.length
  ·have aN:(k:Int)<(l.length:Int):=by omega
   have cV:(0:Int)≤(k:Int):=by omega
   obtain⟨b,o,rfl,hb,q0,q1,q2⟩:=(HL.o.ext HX.o).at_ hlt;have hm:=aiF hlt;have HC:=aa (HP.o wr HX.o _ hm);have dh:aiE (l.take (k+1)=l.take k++[l[k]'hlt]):=aa (aiJ hlt);have Hm:=aa hm;clear hm;unfold bl at HC;generalize l[k]'hlt=x at *;cases hb:p x
   ·rw[hb] at HC;have Hb:=aa hb;clear hb;go_wp2_with fail;refine HC.o.mono ?_;rintro e w3 ⟨rfl,hx⟩;have X3:=aa (HX.o.trans hx);clear hx;go_wp2;go_roundw
    case rel=>exact⟨k+1,hlt,by go_num,aa (by rw[dh.o,List.any_append,HA.o];simpa using Hb.o),X3⟩
    case measure=>simp[intOf];omega
   ·rw[hb] at HC;have HN:aiE (R=true):=aa (by rw[HR.o,List.any_eq_true];exact⟨x,Hm.o,hb⟩);clear hb;go_wp2_with fail;refine HC.o.mono ?_;rintro e w3 ⟨rfl,hx⟩;go_wp2;go_ret;exact⟨⟨(k:Int),rfl,by rw[HN.o];simp⟩,HX.o.trans hx⟩
  ·have bS:¬(k:Int)<(l.length:Int):=by omega
   have HN:aiE (R=false):=aa (by rw[HR.o];have:=HA.o;rwa [aiK (by omega)] at this);go_wp2;go_ret;exact⟨⟨-1,rfl,by rw[HN.o];simp⟩,HX.o⟩
theorem Gs (f:FuncId) (lb:Array Value) (ef:fz f) (p:Ty→Bool) (A:Option Addr) (cap:Nat) (l:List Ty) (w:World) (h:bH w A l) (hl:l.length≤1000000) (hp:∀w',Ext w w'→∀x∈l,Calls Tryz.prog f (#[bl x]++lb) w' fun e w''=>e=.returned (.bool (p x))∧Ext w' w'') :
  Calls Tryz.prog 155 #[.slice A l.length cap,.func (.func f) #[] lb] w fun e w'=>e=.returned (.bool (l.any p))∧Ext w w':=by
 have HI:=aa (Gr f lb ef p A cap l w h hl hp);clear h hp;generalize l.any p=R at *;go_enter Tryz.func155,Tryz.ntmps155;go_wp2_with fail;refine HI.o.mono ?_;rintro e w2 ⟨⟨i,rfl,hi⟩,hx⟩;have HR:aiE (decide ((0:Int)≤i)=R):=aa (by cases R<;>simp_all);have X:=aa hx;clear hi hx;go_wp2;go_ret;exact⟨by first|rfl|(rw[←HR.o];rfl),X.o⟩
theorem Gt (x:di) (name:aj) (w:World) (h:dJ w x) :
  Calls Tryz.prog 170 #[eu x,encStr name] w fun e w'=>e=.returned (.tuple #[Ys ((zu x.af name).getD dY.zero),.bool (zu x.af name).isSome])∧Ext w w':=by
 obtain⟨D,dc,aA,C,cc,cls,I,ic,insts⟩:=x;obtain⟨W,hW⟩:∃W,W=(w.alloc (.cells #[.slice D aA.length dc,.slice C cls.length cc,.slice I insts.length ic] 26)).alloc (.cells #[.string ⟨#[]⟩,.slice none 0 0,.slice none 0 0] 68):=⟨_,rfl⟩;have HW:=aa hW.symm;have X0:aiE (Ext w W):=aa (by rw[hW];exact((eR _).alloc _).alloc _);have B1:aiE (aI W w.heap.size ⟨D,dc,aA,C,cc,cls,I,ic,insts⟩):=aa (by rw[hW];exact(aI.new w _).ext ((eR _).alloc _));have B2:aiE (W.heap[w.heap.size+1]?=some (.cells #[.string ⟨#[]⟩,.slice none 0 0,.slice none 0 0] 68 (0,0))):=aa (by rw[hW];exact ah _ _ _ (by simp));have HC:=aa (h.af.ext X0.o);have hle:=h.Ww;have hmx:=h.Lu;obtain⟨c0,c1,c2⟩:=B1.o.cells;have hbl:=B1.o.lt;clear hW h;simp only[] at *;obtain⟨F,hF⟩:∃F,F=zu cls name:=⟨_,rfl⟩;rw[←hF];have HF:aiE (F=(cls.drop 0).find? fun c=>c.name == name):=aa (by rw[hF,List.drop_zero];rfl);clear hF;unfold eu Ys;go_enter Tryz.func170,Tryz.ntmps170;go_upto_region 1 with fail;rw[HW.o];clear HW;go_wp2
 go_loopw [7,11] (fun t7 i wr=>∃k:Nat,k≤cls.length∧i=.int .i64 k∧aiE (Ext W wr)∧aiE (F=(cls.drop k).find? fun c=>c.name == name)) (fun _ i _=>cls.length - (intOf i).toNat)
 case atStart=>exact⟨0,aiH _,rfl,aa (eR _),HF⟩
 case round=>
  obtain⟨k,hk,rfl,HX,HR⟩:=hrel;have B3:=aa ((HX.o.heap (ae B2.o)).trans B2.o);have hb3:=ae B3.o;have f0:=ai B3.o 0;have f1:=ai B3.o 1;have f2:=ai B3.o 2;have k0:=ag B3.o 0;have k1:=ag B3.o 1;have k2:=ag B3.o 2;simp only[aiN,aiO,aiP] at k0 k1 k2
  by_cases hlt:k<cls.length
  ·have aN:(k:Int)<(cls.length:Int):=by omega
   have cV:(0:Int)≤(k:Int):=by omega
   obtain⟨b,o,rfl,hb,q0,q1,q2⟩:=(HC.o.ext HX.o).at_ hlt;have dU:aiE (F=if ((cls[k]'hlt).name == name)=true then some (cls[k]'hlt) else(cls.drop (k+1)).find? fun c=>c.name == name):=aa (by
    rw[HR.o,List.drop_eq_getElem_cons hlt,List.find?_cons];cases((cls[k]'hlt).name == name)<;>rfl)
   generalize cls[k]'hlt=c at *;cases hc:(c.name == name)
   ·rw[hc] at dU;go_wp2;go_roundw
    case rel=>exact⟨k+1,hlt,by go_num,aa (HX.o.trans (by repeat(first|exact eR _|exact eA (by assumption) _|refine eA ?_ _|refine eM ?_ _ _|refine eD ?_|refine eN ?_ _))),aa (by have:=dU.o;simpa using this)⟩
    case measure=>simp[intOf];omega
   ·rw[hc] at dU;have hF:F=some c:=by have:=dU.o;simpa using this
    clear dU HR HF;subst hF;go_wp2;refine bodyPost_ret (v:=.tuple #[.agg #[encStr c.name,.slice c.S c.cQ.length c.sc,.slice c.A c.bf.length c.cap],.bool true]) ?_ rfl ⟨rfl,?_⟩
    ·simp[results,Tryz.f170,go_sem,k0,k1,k2,hb3]
    ·exact(((((X0.o.trans HX.o)).setCell (by simp) _).setCell (by simp) _).setCell (by simp) _).alloc _
  ·have bS:¬(k:Int)<(cls.length:Int):=by omega
   have hF:F=none:=by rw[HR.o,List.drop_eq_nil_of_le (by omega)];rfl
   clear HR HF;subst hF;go_wp2;refine bodyPost_ret (v:=.tuple #[.agg #[.string ⟨#[]⟩,.slice none 0 0,.slice none 0 0],.bool false]) ?_ rfl ⟨rfl,?_⟩
   ·simp[results,Tryz.f170,go_sem,k0,k1,k2]
   ·exact((((X0.o.trans HX.o)).setCell (by simp) _).setCell (by simp) _).setCell (by simp) _
set_option maxRecDepth 512
set_option maxHeartbeats 200000
def ua (o:Option Pd) (q:Pd) (er:Value):Prop:=match o with
 |some a=>q=a∧er=.nilIface
 |none=>er=(.iface 140 (.agg #[.int .i64 1]))
theorem ua.some {a q:Pd}{er:Value}(h:ua (some a) q er):q=a∧er=.nilIface:=h
theorem ua.none {q:Pd}{er:Value}(h:ua none q er):er=(.iface 140 (.agg #[.int .i64 1])):=h
theorem ov {w:World}{x:di}{G:Option Addr}{given:List Pd}(he:dJ w x) (hg:bg w G given) (p:Pf):bW w p→∀a,bw x.af x.insts given p=some a→dH w a:=by
 induction p using Pf.ind with
 |h p ih=>
 intro hp a ha;rw[fg] at ha;obtain⟨ha,-⟩:=Option.filter_eq_some_iff.1 ha;unfold ir at ha
 split at ha
 ·unfold iQ at ha
  split at ha
  ·exact hg.all _ (nw ha)
  ·cases ha
 ·split at ha
  ·unfold cD at ha
   split at ha
   ·rename_i hc
    obtain⟨q,hq,ha⟩:=Option.bind_eq_some_iff.1 ha;obtain⟨c,qD,ha⟩:=Option.bind_eq_some_iff.1 ha;obtain⟨s,hs,rfl⟩:=Option.map_eq_some_iff.1 ha;have h0:0<p.kids.length:=by omega
    have e:(p.kids.map (bw x.af x.insts given)).getD 0 none=bw x.af x.insts given (p.kids[0]'h0):=by simp[List.getD,h0]
    rw[e] at hq;have h1:=ih _ (aiF h0) (hp.all.kids _ (aiF h0)) q hq;exact⟨(he.af.all _ (vz qD)).Ps _ (nw hs),h1.ty⟩
   ·cases ha
  ·split at ha
   ·unfold cr at ha;obtain⟨y,hy,ha⟩:=Option.bind_eq_some_iff.1 ha
    split at ha
    ·injection ha with ha;subst ha;have hi:=he.insts.all _ (nw hy);exact⟨hi.txt,aH.of hp.hd.FV hp.hd.qj (by have:=hi.ctxt;omega) hp.hd.types.row hp.hd.types.args⟩
    ·cases ha
   ·cases ha
theorem xy {w:World}{x:di}{G:Option Addr}{given:List Pd}(he:dJ w x) (hg:bg w G given){p:Pf}(hp:bW w p){a:Pd}(ha:cD x.af p (p.kids.map (bw x.af x.insts given))=some a):dH w a:=by
 unfold cD at ha
 split at ha
 ·rename_i hc
  obtain⟨q,hq,ha⟩:=Option.bind_eq_some_iff.1 ha;obtain⟨c,qD,ha⟩:=Option.bind_eq_some_iff.1 ha;obtain⟨s,hs,rfl⟩:=Option.map_eq_some_iff.1 ha;have h0:0<p.kids.length:=by omega
  have e:(p.kids.map (bw x.af x.insts given)).getD 0 none=bw x.af x.insts given (p.kids[0]'h0):=by simp[List.getD,h0]
  rw[e] at hq;have h1:=ov he hg _ (hp.all.kids _ (aiF h0)) q hq;exact⟨(he.af.all _ (vz qD)).Ps _ (nw hs),h1.ty⟩
 ·cases ha
theorem BG {w:World}{x:di}(he:dJ w x){p:Pf}(hp:bW w p){l:List (Option Pd)}{a:Pd}(ha:cr x.insts p l=some a):dH w a:=by
 unfold cr at ha;obtain⟨y,hy,ha⟩:=Option.bind_eq_some_iff.1 ha
 split at ha
 ·injection ha with ha;subst ha;have hi:=he.insts.all _ (nw hy);exact⟨hi.txt,aH.of hp.hd.FV hp.hd.qj (by have:=hi.ctxt;omega) hp.hd.types.row hp.hd.types.args⟩
 ·cases ha
theorem ay {w:World}{b:Nat}(h:w.heap[b]?=some (.cells #[.string ⟨#[]⟩,.string ⟨#[]⟩,.int .i64 0,.slice none 0 0] 55)):w.cell? ⟨b,0,none⟩=some (.string ⟨#[]⟩)∧w.cell? ⟨b,1,none⟩=some (.string ⟨#[]⟩)∧w.cell? ⟨b,2,none⟩=some (.int .i64 0)∧w.cell? ⟨b,3,none⟩=some (.slice none 0 0)∧w.frozen? ⟨b,0,none⟩=false∧w.frozen? ⟨b,1,none⟩=false∧w.frozen? ⟨b,2,none⟩=false∧w.frozen? ⟨b,3,none⟩=false:=by
 refine⟨?_,?_,?_,?_,?_,?_,?_,?_⟩<;>simp[World.cell?,World.frozen?,h]
def eK (w:World) (b:Nat) (a:Pd):World:=(((w.setCell ⟨b,0,none⟩ (encStr a.cls)).setCell ⟨b,1,none⟩ (encStr a.ty.aq)).setCell ⟨b,2,none⟩ (.int .i64 a.ty.var)).setCell ⟨b,3,none⟩ (.slice a.ty.A a.ty.args.length a.ty.cap)
theorem ar {w W:World}{b:Nat}(x:Ext w W) (h:w.heap.size≤b) (v0 v1 v2 v3:Value):Ext w ((((W.setCell ⟨b,0,none⟩ v0).setCell ⟨b,1,none⟩ v1).setCell ⟨b,2,none⟩ v2).setCell ⟨b,3,none⟩ v3):=
 (((x.setCell h _).setCell h _).setCell h _).setCell h _
theorem kT {w W:World}{b:Nat}(x:Ext w W) (h:w.heap.size≤b) (a:Pd):Ext w (eK W b a):=ar x h _ _ _ _
theorem eh {W:World}{b k:Nat}(a:Pd) (h:k≠b):(eK W b a).heap[k]?=W.heap[k]?:=by
 unfold eK;rw[Below.heap_setCell _ _ _ _ h,Below.heap_setCell _ _ _ _ h,Below.heap_setCell _ _ _ _ h,Below.heap_setCell _ _ _ _ h]
theorem zx (W:World) (b:Nat) (a:Pd):(eK W b a).heap.size=W.heap.size:=by unfold eK;simp[World.setCell]
theorem dN {W:World}{b:Nat}{v0 v1 v2 v3:Value}(h:W.heap[b]?=some (.cells #[v0,v1,v2,v3] 55 (0,0))) (a:Pd):aR (eK W b a) b a:=by
 have h1:=aw h 0 (encStr a.cls);have h2:=aw h1 1 (encStr a.ty.aq);have h3:=aw h2 2 (.int .i64 a.ty.var);have h4:=aw h3 3 (.slice a.ty.A a.ty.args.length a.ty.cap);unfold aR eK;simpa using h4
theorem aR.free {w:World}{b:Nat}{a:Pd}(h:aR w b a) (i:Nat):w.frozen? ⟨b,i,none⟩=false:=by unfold aR at h;simp[World.frozen?,h]
def qL (x:di) (G:Option Addr) (gc:Nat) (given:List Pd) (fn:FuncId) (o:Option Pd) (p:Pf):Prop:=∀(w:World),dJ w x→bg w G given→bW w p →
 Calls Tryz.prog fn #[eu x,.slice G given.length gc,bM p] w fun e w'=>(∃q er,e=.returned (.tuple #[fN q,er])∧ua o q er)∧Ext w w'
set_option maxRecDepth 10000
set_option maxHeartbeats 8000000
theorem LJ (x:di) (G:Option Addr) (gc:Nat) (given:List Pd) (p:Pf) (hk:(p.kind == 1)=true):qL x G gc given 75 (bw x.af x.insts given p) p:=by
 intro w he hg hp;obtain⟨W,hW⟩:∃W,W=(((w.alloc (.cells #[.slice x.D x.aA.length x.dc,.slice x.C x.af.length x.cc,.slice x.I x.insts.length x.ic] 26)).alloc (.cells #[.int .i64 p.kind,.int .i64 p.n,.slice p.T p.types.length p.tc,.slice p.A p.kids.length p.cap] 34)).alloc (.cells #[.string ⟨#[]⟩,.string ⟨#[]⟩,.int .i64 0,.slice none 0 0] 55)).alloc (.cells #[.string ⟨#[]⟩,.string ⟨#[]⟩,.int .i64 0,.slice none 0 0] 55):=⟨_,rfl⟩;have HW:=aa hW.symm;have X0:aiE (Ext w W):=aa (by rw[hW];exact((((eR _).alloc _).alloc _).alloc _).alloc _);have B1:aiE (aI W w.heap.size x):=aa (by rw[hW];exact(aI.new w x).ext ((((eR _).alloc _).alloc _).alloc _));have B2:aiE (aO W (w.heap.size+1) p):=aa (by rw[hW];exact aO.ext (ah _ _ _ (by simp)) (((eR _).alloc _).alloc _));have B3:aiE (W.heap[w.heap.size+1+1]?=some (.cells #[.string ⟨#[]⟩,.string ⟨#[]⟩,.int .i64 0,.slice none 0 0] 55)):=aa (by rw[hW];exact(((eR _).alloc _).heap (by simp)).trans (ah _ _ _ (by simp)));have B4:aiE (W.heap[w.heap.size+1+1+1]?=some (.cells #[.string ⟨#[]⟩,.string ⟨#[]⟩,.int .i64 0,.slice none 0 0] 55)):=aa (by rw[hW];exact ah _ _ _ (by simp));have HP:=aa (fg x.af x.insts given p);have bR:aiE (W.heap.size=w.heap.size+4):=aa (by rw[hW];simp);obtain⟨c0,c1,c2,c3⟩:=B2.o.cells;obtain⟨e0,e1,e2⟩:=B1.o.cells;obtain⟨y0,y1,y2,y3,eL,eO,eP,eQ⟩:=ay B3.o;obtain⟨z0,z1,z2,z3,gC,gD,gF,gH⟩:=ay B4.o;have HG:=aa (hg.ext X0.o);have oV:=aa (fun(a:Pd) (ha:dH w a) w' (e:Ext w w')=>aa (kq a w' (ha.ext e)));clear hW;unfold eu bM;have HK:aiE (p.kind=1):=aa (by simpa using hk)
 by_cases h1:0<p.kids.length
 ·have HO:aiE (bw x.af x.insts given p=none):=aa (by rw[HP.o];unfold ir;rw[if_pos HK.o];unfold iQ;rw[if_neg (by omega)];rfl);go_enter Tryz.func75,Tryz.ntmps75;go_upto_region 3 with fail;rw[HW.o];clear HW;go_wp2;refine bodyPost_ret (v:=.tuple #[.agg #[.string ⟨#[]⟩,.string ⟨#[]⟩,.int .i64 0,.slice none 0 0],(.iface 140 (.agg #[.int .i64 1]))]) ?_ rfl ⟨⟨⟨[],Ty.zero⟩,_,rfl,by rw[HO.o];rfl⟩,?_⟩
  ·simp[results,Tryz.f75,go_sem,y0,y1,y2,y3]
  ·exact ar X0.o (by omega) _ _ _ _
 have nX:p.kids.length=0:=by omega
 have Yu:=aa nX;rw[nX] at c3;clear nX
 by_cases h2:0<p.types.length
 ·have HO:aiE (bw x.af x.insts given p=none):=aa (by rw[HP.o];unfold ir;rw[if_pos HK.o];unfold iQ;rw[if_neg (by omega)];rfl);go_enter Tryz.func75,Tryz.ntmps75;go_upto_region 3 with fail;rw[HW.o];clear HW;go_wp2;refine bodyPost_ret (v:=.tuple #[.agg #[.string ⟨#[]⟩,.string ⟨#[]⟩,.int .i64 0,.slice none 0 0],(.iface 140 (.agg #[.int .i64 1]))]) ?_ rfl ⟨⟨⟨[],Ty.zero⟩,_,rfl,by rw[HO.o];rfl⟩,?_⟩
  ·simp[results,Tryz.f75,go_sem,y0,y1,y2,y3]
  ·exact ar X0.o (by omega) _ _ _ _
 have pQ:p.types.length=0:=by omega
 have Yv:=aa pQ;rw[pQ] at c2;clear pQ;have Hn:aiE (ir x.af x.insts given p (p.kids.map (bw x.af x.insts given))=pH given p.n):=aa (by unfold ir iQ;rw[if_pos HK.o,if_pos ⟨Yu.o,Yv.o⟩])
 by_cases h3:p.n<0
 ·have HO:aiE (bw x.af x.insts given p=none):=aa (by rw[HP.o];unfold ir;rw[if_pos HK.o];unfold iQ;rw[if_pos ⟨Yu.o,Yv.o⟩,dK (by omega)];rfl);go_enter Tryz.func75,Tryz.ntmps75;go_upto_region 3 with fail;rw[HW.o];clear HW;go_wp2;refine bodyPost_ret (v:=.tuple #[.agg #[.string ⟨#[]⟩,.string ⟨#[]⟩,.int .i64 0,.slice none 0 0],(.iface 140 (.agg #[.int .i64 1]))]) ?_ rfl ⟨⟨⟨[],Ty.zero⟩,_,rfl,by rw[HO.o];rfl⟩,?_⟩
  ·simp[results,Tryz.f75,go_sem,y0,y1,y2,y3]
  ·exact ar X0.o (by omega) _ _ _ _
 by_cases h4:p.n≥(given.length:Int)
 ·have HO:aiE (bw x.af x.insts given p=none):=aa (by rw[HP.o];unfold ir;rw[if_pos HK.o];unfold iQ;rw[if_pos ⟨Yu.o,Yv.o⟩,dK (by omega)];rfl);go_enter Tryz.func75,Tryz.ntmps75;go_upto_region 3 with fail;rw[HW.o];clear HW;go_wp2;refine bodyPost_ret (v:=.tuple #[.agg #[.string ⟨#[]⟩,.string ⟨#[]⟩,.int .i64 0,.slice none 0 0],(.iface 140 (.agg #[.int .i64 1]))]) ?_ rfl ⟨⟨⟨[],Ty.zero⟩,_,rfl,by rw[HO.o];rfl⟩,?_⟩
  ·simp[results,Tryz.f75,go_sem,y0,y1,y2,y3]
  ·exact ar X0.o (by omega) _ _ _ _
 obtain⟨m,hm⟩:∃m:Nat,p.n=(m:Int):=⟨p.n.toNat,by omega⟩;have iu:m<given.length:=by omega
 have LK:(m:Int)<(given.length:Int):=by omega
 have NZ:(0:Int)≤(m:Int):=by omega
 rw[hm] at c1 Hn;clear hm h3 h4;obtain⟨b,o,eG,hbl,q0,q1,q2,q3⟩:=HG.o.at_ iu;have Ha:=aa (hg.all _ (aiF iu));have xz:aiE (bw x.af x.insts given p=(some (given[m]'iu)).filter dI):=aa (by rw[HP.o,Hn.o,nx _ _ iu]);clear Hn;subst eG;generalize given[m]'iu=a at *;have X5:aiE (Ext w (eK W (w.heap.size+1+1+1) a)):=aa (kT X0.o (by omega) a);have B5:aiE (aR (eK W (w.heap.size+1+1+1) a) (w.heap.size+1+1+1) a):=aa (dN B4.o a);have B6:aiE ((eK W (w.heap.size+1+1+1) a).heap[w.heap.size+1+1]?=some (.cells #[.string ⟨#[]⟩,.string ⟨#[]⟩,.int .i64 0,.slice none 0 0] 55)):=aa ((eh a (by omega)).trans B3.o);have HL:=aa (oV.o a Ha.o _ X5.o);go_enter Tryz.func75,Tryz.ntmps75;go_upto_region 3 with fail;rw[HW.o];clear HW;cases hb:dI a
 ·rw[hb] at HL;have HO:aiE (bw x.af x.insts given p=none):=aa (by rw[xz.o,Option.filter_some,if_neg (by rw[hb];decide)]);clear hb;go_wp2_with fail;refine HL.o.o.mono ?_;rintro e w2 ⟨rfl,hx⟩;have X6:=aa (X5.o.trans hx);have B7:=aa (B5.o.ext hx);have B8:=aa ((hx.heap (ae B6.o)).trans B6.o);clear hx;obtain⟨a0,a1,a2,a3⟩:=B7.o.cells;obtain⟨y0,y1,y2,y3,eL,eO,eP,eQ⟩:=ay B8.o;have vC:=B7.o.lt;go_wp2;refine bodyPost_ret (v:=.tuple #[.agg #[encStr a.cls,encStr a.ty.aq,.int .i64 a.ty.var,.slice a.ty.A a.ty.args.length a.ty.cap],(.iface 140 (.agg #[.int .i64 1]))]) ?_ rfl ⟨⟨a,_,rfl,by rw[HO.o];rfl⟩,?_⟩
  ·simp[results,Tryz.f75,go_sem,y0,y1,y2,y3]
  ·exact ar X6.o (by omega) _ _ _ _
 ·rw[hb] at HL;have HO:aiE (bw x.af x.insts given p=some a):=aa (by rw[xz.o,Option.filter_some,if_pos hb]);clear hb;go_wp2_with fail;refine HL.o.o.mono ?_;rintro e w2 ⟨rfl,hx⟩;have X6:=aa (X5.o.trans hx);have B7:=aa (B5.o.ext hx);have B8:=aa ((hx.heap (ae B6.o)).trans B6.o);clear hx;obtain⟨a0,a1,a2,a3⟩:=B7.o.cells;obtain⟨y0,y1,y2,y3,eL,eO,eP,eQ⟩:=ay B8.o;have vC:=B7.o.lt;go_wp2;refine bodyPost_ret (v:=.tuple #[.agg #[encStr a.cls,encStr a.ty.aq,.int .i64 a.ty.var,.slice a.ty.A a.ty.args.length a.ty.cap],.nilIface]) ?_ rfl ⟨⟨a,_,rfl,by rw[HO.o];exact⟨rfl,rfl⟩⟩,?_⟩
  ·simp[results,Tryz.f75,go_sem,y0,y1,y2,y3]
  ·exact ar X6.o (by omega) _ _ _ _
theorem LL (x:di) (G:Option Addr) (gc:Nat) (given:List Pd) (p:Pf) (sB:(p.kind == 1)=false) (hk:(p.kind == 2)=true) (HC:qL x G gc given 122 (cD x.af p (p.kids.map (bw x.af x.insts given))) p):qL x G gc given 75 (bw x.af x.insts given p) p:=by
 intro w he hg hp;obtain⟨W,hW⟩:∃W,W=(((w.alloc (.cells #[.slice x.D x.aA.length x.dc,.slice x.C x.af.length x.cc,.slice x.I x.insts.length x.ic] 26)).alloc (.cells #[.int .i64 p.kind,.int .i64 p.n,.slice p.T p.types.length p.tc,.slice p.A p.kids.length p.cap] 34)).alloc (.cells #[.string ⟨#[]⟩,.string ⟨#[]⟩,.int .i64 0,.slice none 0 0] 55)).alloc (.cells #[.string ⟨#[]⟩,.string ⟨#[]⟩,.int .i64 0,.slice none 0 0] 55):=⟨_,rfl⟩;have HW:=aa hW.symm;have X0:aiE (Ext w W):=aa (by rw[hW];exact((((eR _).alloc _).alloc _).alloc _).alloc _);have B1:aiE (aI W w.heap.size x):=aa (by rw[hW];exact(aI.new w x).ext ((((eR _).alloc _).alloc _).alloc _));have B2:aiE (aO W (w.heap.size+1) p):=aa (by rw[hW];exact aO.ext (ah _ _ _ (by simp)) (((eR _).alloc _).alloc _));have B3:aiE (W.heap[w.heap.size+1+1]?=some (.cells #[.string ⟨#[]⟩,.string ⟨#[]⟩,.int .i64 0,.slice none 0 0] 55)):=aa (by rw[hW];exact(((eR _).alloc _).heap (by simp)).trans (ah _ _ _ (by simp)));have B4:aiE (W.heap[w.heap.size+1+1+1]?=some (.cells #[.string ⟨#[]⟩,.string ⟨#[]⟩,.int .i64 0,.slice none 0 0] 55)):=aa (by rw[hW];exact ah _ _ _ (by simp));have HP:=aa (fg x.af x.insts given p);have bR:aiE (W.heap.size=w.heap.size+4):=aa (by rw[hW];simp);obtain⟨c0,c1,c2,c3⟩:=B2.o.cells;obtain⟨e0,e1,e2⟩:=B1.o.cells;obtain⟨y0,y1,y2,y3,eL,eO,eP,eQ⟩:=ay B3.o;obtain⟨z0,z1,z2,z3,gC,gD,gF,gH⟩:=ay B4.o;have HG:=aa (hg.ext X0.o);have oV:=aa (fun(a:Pd) (ha:dH w a) w' (e:Ext w w')=>aa (kq a w' (ha.ext e)));clear hW;unfold eu bM;have xz:aiE (bw x.af x.insts given p=(cD x.af p (p.kids.map (bw x.af x.insts given))).filter dI):=aa (by rw[HP.o];unfold ir;rw[if_neg (by simpa using sB),if_pos (by simpa using hk)]);have HA:=aa (HC W (he.ext X0.o) (hg.ext X0.o) (hp.ext X0.o));have lH:aiE (∀a,cD x.af p (p.kids.map (bw x.af x.insts given))=some a→dH w a):=aa (fun a ha=>xy he hg hp ha);clear HC HG;unfold eu bM at HA;generalize cD x.af p (p.kids.map (bw x.af x.insts given))=O at *;go_enter Tryz.func75,Tryz.ntmps75;go_upto_region 3 with fail;rw[HW.o];clear HW;go_wp2_with fail;refine HA.o.mono ?_;rintro e w1 ⟨⟨q,er,rfl,bT⟩,hx1⟩;have X1:=aa (X0.o.trans hx1);have B3:=aa ((hx1.heap (ae B3.o)).trans B3.o);have B4:=aa ((hx1.heap (ae B4.o)).trans B4.o);have hz4:=ae B4.o;clear hx1 y0 y1 y2 y3 eL eO eP eQ z0 z1 z2 z3 gC gD gF gH;obtain⟨y0,y1,y2,y3,eL,eO,eP,eQ⟩:=ay B3.o;obtain⟨z0,z1,z2,z3,gC,gD,gF,gH⟩:=ay B4.o;cases O with
 |none=>
  obtain rfl:=bT.none;have HO:aiE (bw x.af x.insts given p=none):=aa (by rw[xz.o];rfl);clear bT;go_wp2;refine bodyPost_ret (v:=.tuple #[.agg #[encStr q.cls,encStr q.ty.aq,.int .i64 q.ty.var,.slice q.ty.A q.ty.args.length q.ty.cap],(.iface 140 (.agg #[.int .i64 1]))]) ?_ rfl ⟨⟨q,_,rfl,by rw[HO.o];rfl⟩,?_⟩
  ·simp[results,Tryz.f75,go_sem,y0,y1,y2,y3]
  ·exact ar (ar X1.o (by omega) _ _ _ _) (by omega) _ _ _ _
 |some a=>
  obtain⟨rfl,rfl⟩:=bT.some;have Ha:=aa (lH.o _ rfl);rename Pd=>a
  have X5:aiE (Ext w (eK w1 (w.heap.size+1+1+1) a)):=aa (kT X1.o (by omega) a);have B5:aiE (aR (eK w1 (w.heap.size+1+1+1) a) (w.heap.size+1+1+1) a):=aa (dN B4.o a);have B6:aiE ((eK w1 (w.heap.size+1+1+1) a).heap[w.heap.size+1+1]?=some (.cells #[.string ⟨#[]⟩,.string ⟨#[]⟩,.int .i64 0,.slice none 0 0] 55)):=aa ((eh a (by omega)).trans B3.o);have HL:=aa (oV.o a Ha.o _ X5.o);cases hb:dI a
  ·rw[hb] at HL;have HO:aiE (bw x.af x.insts given p=none):=aa (by rw[xz.o,Option.filter_some,if_neg (by rw[hb];decide)]);clear hb;go_wp2_with fail;refine HL.o.o.mono ?_;rintro e w2 ⟨rfl,hx⟩;have X6:=aa (X5.o.trans hx);have B7:=aa (B5.o.ext hx);have B8:=aa ((hx.heap (ae B6.o)).trans B6.o);clear hx;obtain⟨a0,a1,a2,a3⟩:=B7.o.cells;obtain⟨y0,y1,y2,y3,eL,eO,eP,eQ⟩:=ay B8.o;have vC:=B7.o.lt;go_wp2;refine bodyPost_ret (v:=.tuple #[.agg #[encStr a.cls,encStr a.ty.aq,.int .i64 a.ty.var,.slice a.ty.A a.ty.args.length a.ty.cap],(.iface 140 (.agg #[.int .i64 1]))]) ?_ rfl ⟨⟨a,_,rfl,by rw[HO.o];rfl⟩,?_⟩
   ·simp[results,Tryz.f75,go_sem,y0,y1,y2,y3]
   ·exact ar X6.o (by omega) _ _ _ _
  ·rw[hb] at HL;have HO:aiE (bw x.af x.insts given p=some a):=aa (by rw[xz.o,Option.filter_some,if_pos hb]);clear hb;go_wp2_with fail;refine HL.o.o.mono ?_;rintro e w2 ⟨rfl,hx⟩;have X6:=aa (X5.o.trans hx);have B7:=aa (B5.o.ext hx);have B8:=aa ((hx.heap (ae B6.o)).trans B6.o);clear hx;obtain⟨a0,a1,a2,a3⟩:=B7.o.cells;obtain⟨y0,y1,y2,y3,eL,eO,eP,eQ⟩:=ay B8.o;have vC:=B7.o.lt;go_wp2;refine bodyPost_ret (v:=.tuple #[.agg #[encStr a.cls,encStr a.ty.aq,.int .i64 a.ty.var,.slice a.ty.A a.ty.args.length a.ty.cap],.nilIface]) ?_ rfl ⟨⟨a,_,rfl,by rw[HO.o];exact⟨rfl,rfl⟩⟩,?_⟩
   ·simp[results,Tryz.f75,go_sem,y0,y1,y2,y3]
   ·exact ar X6.o (by omega) _ _ _ _
theorem LM (x:di) (G:Option Addr) (gc:Nat) (given:List Pd) (p:Pf) (sB:(p.kind == 1)=false) (hk2:(p.kind == 2)=false) (hk:(p.kind == 3)=true) (HC:qL x G gc given 123 (cr x.insts p (p.kids.map (bw x.af x.insts given))) p):qL x G gc given 75 (bw x.af x.insts given p) p:=by
 intro w he hg hp;obtain⟨W,hW⟩:∃W,W=(((w.alloc (.cells #[.slice x.D x.aA.length x.dc,.slice x.C x.af.length x.cc,.slice x.I x.insts.length x.ic] 26)).alloc (.cells #[.int .i64 p.kind,.int .i64 p.n,.slice p.T p.types.length p.tc,.slice p.A p.kids.length p.cap] 34)).alloc (.cells #[.string ⟨#[]⟩,.string ⟨#[]⟩,.int .i64 0,.slice none 0 0] 55)).alloc (.cells #[.string ⟨#[]⟩,.string ⟨#[]⟩,.int .i64 0,.slice none 0 0] 55):=⟨_,rfl⟩;have HW:=aa hW.symm;have X0:aiE (Ext w W):=aa (by rw[hW];exact((((eR _).alloc _).alloc _).alloc _).alloc _);have B1:aiE (aI W w.heap.size x):=aa (by rw[hW];exact(aI.new w x).ext ((((eR _).alloc _).alloc _).alloc _));have B2:aiE (aO W (w.heap.size+1) p):=aa (by rw[hW];exact aO.ext (ah _ _ _ (by simp)) (((eR _).alloc _).alloc _));have B3:aiE (W.heap[w.heap.size+1+1]?=some (.cells #[.string ⟨#[]⟩,.string ⟨#[]⟩,.int .i64 0,.slice none 0 0] 55)):=aa (by rw[hW];exact(((eR _).alloc _).heap (by simp)).trans (ah _ _ _ (by simp)));have B4:aiE (W.heap[w.heap.size+1+1+1]?=some (.cells #[.string ⟨#[]⟩,.string ⟨#[]⟩,.int .i64 0,.slice none 0 0] 55)):=aa (by rw[hW];exact ah _ _ _ (by simp));have HP:=aa (fg x.af x.insts given p);have bR:aiE (W.heap.size=w.heap.size+4):=aa (by rw[hW];simp);obtain⟨c0,c1,c2,c3⟩:=B2.o.cells;obtain⟨e0,e1,e2⟩:=B1.o.cells;obtain⟨y0,y1,y2,y3,eL,eO,eP,eQ⟩:=ay B3.o;obtain⟨z0,z1,z2,z3,gC,gD,gF,gH⟩:=ay B4.o;have HG:=aa (hg.ext X0.o);have oV:=aa (fun(a:Pd) (ha:dH w a) w' (e:Ext w w')=>aa (kq a w' (ha.ext e)));clear hW;unfold eu bM;have xz:aiE (bw x.af x.insts given p=(cr x.insts p (p.kids.map (bw x.af x.insts given))).filter dI):=aa (by rw[HP.o];unfold ir;rw[if_neg (by simpa using sB),if_neg (by simpa using hk2),if_pos (by simpa using hk)]);have HA:=aa (HC W (he.ext X0.o) (hg.ext X0.o) (hp.ext X0.o));have lH:aiE (∀a,cr x.insts p (p.kids.map (bw x.af x.insts given))=some a→dH w a):=aa (fun a ha=>BG he hp ha);clear HC HG;unfold eu bM at HA;generalize cr x.insts p (p.kids.map (bw x.af x.insts given))=O at *;go_enter Tryz.func75,Tryz.ntmps75;go_upto_region 3 with fail;rw[HW.o];clear HW;go_wp2_with fail;refine HA.o.mono ?_;rintro e w1 ⟨⟨q,er,rfl,bT⟩,hx1⟩;have X1:=aa (X0.o.trans hx1);have B3:=aa ((hx1.heap (ae B3.o)).trans B3.o);have B4:=aa ((hx1.heap (ae B4.o)).trans B4.o);have hz4:=ae B4.o;clear hx1 y0 y1 y2 y3 eL eO eP eQ z0 z1 z2 z3 gC gD gF gH;obtain⟨y0,y1,y2,y3,eL,eO,eP,eQ⟩:=ay B3.o;obtain⟨z0,z1,z2,z3,gC,gD,gF,gH⟩:=ay B4.o;cases O with
 |none=>
  obtain rfl:=bT.none;have HO:aiE (bw x.af x.insts given p=none):=aa (by rw[xz.o];rfl);clear bT;go_wp2;refine bodyPost_ret (v:=.tuple #[.agg #[encStr q.cls,encStr q.ty.aq,.int .i64 q.ty.var,.slice q.ty.A q.ty.args.length q.ty.cap],(.iface 140 (.agg #[.int .i64 1]))]) ?_ rfl ⟨⟨q,_,rfl,by rw[HO.o];rfl⟩,?_⟩
  ·simp[results,Tryz.f75,go_sem,y0,y1,y2,y3]
  ·exact ar (ar X1.o (by omega) _ _ _ _) (by omega) _ _ _ _
 |some a=>
  obtain⟨rfl,rfl⟩:=bT.some;have Ha:=aa (lH.o _ rfl);rename Pd=>a
  have X5:aiE (Ext w (eK w1 (w.heap.size+1+1+1) a)):=aa (kT X1.o (by omega) a);have B5:aiE (aR (eK w1 (w.heap.size+1+1+1) a) (w.heap.size+1+1+1) a):=aa (dN B4.o a);have B6:aiE ((eK w1 (w.heap.size+1+1+1) a).heap[w.heap.size+1+1]?=some (.cells #[.string ⟨#[]⟩,.string ⟨#[]⟩,.int .i64 0,.slice none 0 0] 55)):=aa ((eh a (by omega)).trans B3.o);have HL:=aa (oV.o a Ha.o _ X5.o);cases hb:dI a
  ·rw[hb] at HL;have HO:aiE (bw x.af x.insts given p=none):=aa (by rw[xz.o,Option.filter_some,if_neg (by rw[hb];decide)]);clear hb;go_wp2_with fail;refine HL.o.o.mono ?_;rintro e w2 ⟨rfl,hx⟩;have X6:=aa (X5.o.trans hx);have B7:=aa (B5.o.ext hx);have B8:=aa ((hx.heap (ae B6.o)).trans B6.o);clear hx;obtain⟨a0,a1,a2,a3⟩:=B7.o.cells;obtain⟨y0,y1,y2,y3,eL,eO,eP,eQ⟩:=ay B8.o;have vC:=B7.o.lt;go_wp2;refine bodyPost_ret (v:=.tuple #[.agg #[encStr a.cls,encStr a.ty.aq,.int .i64 a.ty.var,.slice a.ty.A a.ty.args.length a.ty.cap],(.iface 140 (.agg #[.int .i64 1]))]) ?_ rfl ⟨⟨a,_,rfl,by rw[HO.o];rfl⟩,?_⟩
   ·simp[results,Tryz.f75,go_sem,y0,y1,y2,y3]
   ·exact ar X6.o (by omega) _ _ _ _
  ·rw[hb] at HL;have HO:aiE (bw x.af x.insts given p=some a):=aa (by rw[xz.o,Option.filter_some,if_pos hb]);clear hb;go_wp2_with fail;refine HL.o.o.mono ?_;rintro e w2 ⟨rfl,hx⟩;have X6:=aa (X5.o.trans hx);have B7:=aa (B5.o.ext hx);have B8:=aa ((hx.heap (ae B6.o)).trans B6.o);clear hx;obtain⟨a0,a1,a2,a3⟩:=B7.o.cells;obtain⟨y0,y1,y2,y3,eL,eO,eP,eQ⟩:=ay B8.o;have vC:=B7.o.lt;go_wp2;refine bodyPost_ret (v:=.tuple #[.agg #[encStr a.cls,encStr a.ty.aq,.int .i64 a.ty.var,.slice a.ty.A a.ty.args.length a.ty.cap],.nilIface]) ?_ rfl ⟨⟨a,_,rfl,by rw[HO.o];exact⟨rfl,rfl⟩⟩,?_⟩
   ·simp[results,Tryz.f75,go_sem,y0,y1,y2,y3]
   ·exact ar X6.o (by omega) _ _ _ _
theorem Pv (x:di) (G:Option Addr) (gc:Nat) (given:List Pd) (p:Pf) (sB:(p.kind == 1)=false) (hk2:(p.kind == 2)=false) (hk3:(p.kind == 3)=false):qL x G gc given 75 (bw x.af x.insts given p) p:=by
 intro w he hg hp;obtain⟨W,hW⟩:∃W,W=(((w.alloc (.cells #[.slice x.D x.aA.length x.dc,.slice x.C x.af.length x.cc,.slice x.I x.insts.length x.ic] 26)).alloc (.cells #[.int .i64 p.kind,.int .i64 p.n,.slice p.T p.types.length p.tc,.slice p.A p.kids.length p.cap] 34)).alloc (.cells #[.string ⟨#[]⟩,.string ⟨#[]⟩,.int .i64 0,.slice none 0 0] 55)).alloc (.cells #[.string ⟨#[]⟩,.string ⟨#[]⟩,.int .i64 0,.slice none 0 0] 55):=⟨_,rfl⟩;have HW:=aa hW.symm;have X0:aiE (Ext w W):=aa (by rw[hW];exact((((eR _).alloc _).alloc _).alloc _).alloc _);have B1:aiE (aI W w.heap.size x):=aa (by rw[hW];exact(aI.new w x).ext ((((eR _).alloc _).alloc _).alloc _));have B2:aiE (aO W (w.heap.size+1) p):=aa (by rw[hW];exact aO.ext (ah _ _ _ (by simp)) (((eR _).alloc _).alloc _));have B3:aiE (W.heap[w.heap.size+1+1]?=some (.cells #[.string ⟨#[]⟩,.string ⟨#[]⟩,.int .i64 0,.slice none 0 0] 55)):=aa (by rw[hW];exact(((eR _).alloc _).heap (by simp)).trans (ah _ _ _ (by simp)));have B4:aiE (W.heap[w.heap.size+1+1+1]?=some (.cells #[.string ⟨#[]⟩,.string ⟨#[]⟩,.int .i64 0,.slice none 0 0] 55)):=aa (by rw[hW];exact ah _ _ _ (by simp));have HP:=aa (fg x.af x.insts given p);have bR:aiE (W.heap.size=w.heap.size+4):=aa (by rw[hW];simp);obtain⟨c0,c1,c2,c3⟩:=B2.o.cells;obtain⟨e0,e1,e2⟩:=B1.o.cells;obtain⟨y0,y1,y2,y3,eL,eO,eP,eQ⟩:=ay B3.o;obtain⟨z0,z1,z2,z3,gC,gD,gF,gH⟩:=ay B4.o;have HG:=aa (hg.ext X0.o);have oV:=aa (fun(a:Pd) (ha:dH w a) w' (e:Ext w w')=>aa (kq a w' (ha.ext e)));clear hW;unfold eu bM;have HO:aiE (bw x.af x.insts given p=none):=aa (by rw[HP.o];unfold ir;rw[if_neg (by simpa using sB),if_neg (by simpa using hk2),if_neg (by simpa using hk3)];rfl);clear HG oV;go_enter Tryz.func75,Tryz.ntmps75;go_upto_region 3 with fail;rw[HW.o];clear HW;go_wp2;refine bodyPost_ret (v:=.tuple #[.agg #[.string ⟨#[]⟩,.string ⟨#[]⟩,.int .i64 0,.slice none 0 0],(.iface 140 (.agg #[.int .i64 1]))]) ?_ rfl ⟨⟨⟨[],Ty.zero⟩,_,rfl,by rw[HO.o];rfl⟩,?_⟩
 ·simp[results,Tryz.f75,go_sem,y0,y1,y2,y3]
 ·exact ar X0.o (by omega) _ _ _ _
set_option maxRecDepth 512
set_option maxHeartbeats 200000
theorem zp {a y:World}{B:Nat}(e:Ext a y) (h:a.heap[B]?=some (.cells #[.string ⟨#[]⟩,.string ⟨#[]⟩,.int .i64 0,.slice none 0 0] 55)) :
  y.cell? ⟨B,0,none⟩=some (.string ⟨#[]⟩)∧y.cell? ⟨B,1,none⟩=some (.string ⟨#[]⟩)∧y.cell? ⟨B,2,none⟩=some (.int .i64 0)∧y.cell? ⟨B,3,none⟩=some (.slice none 0 0)∧y.frozen? ⟨B,0,none⟩=false∧y.frozen? ⟨B,1,none⟩=false∧y.frozen? ⟨B,2,none⟩=false∧y.frozen? ⟨B,3,none⟩=false∧B<y.heap.size:=by
 have hb:=(e.heap (ae h)).trans h;obtain⟨h0,h1,h2,h3,h4,h5,h6,h7⟩:=ay hb;exact⟨h0,h1,h2,h3,h4,h5,h6,h7,ae hb⟩
theorem bI (w:World) (o:Obj):(w.alloc o).drew.heap[w.heap.size]?=some o:=ah w o w.heap.size rfl
theorem aM {y:World}{B b i:Nat}(h:b≠B) (v0 v1 v2 v3:Value){u:Value}(k:y.cell? ⟨b,i,none⟩=some u):((((y.setCell ⟨B,0,none⟩ v0).setCell ⟨B,1,none⟩ v1).setCell ⟨B,2,none⟩ v2).setCell ⟨B,3,none⟩ v3).cell? ⟨b,i,none⟩=some u:=by
 refine(World.cell?_of_block (a:=⟨b,i,none⟩) ?_).trans k;show((((y.setCell ⟨B,0,none⟩ v0).setCell ⟨B,1,none⟩ v1).setCell ⟨B,2,none⟩ v2).setCell ⟨B,3,none⟩ v3).heap[b]?=y.heap[b]?;rw[Below.heap_setCell _ _ _ _ h,Below.heap_setCell _ _ _ _ h,Below.heap_setCell _ _ _ _ h,Below.heap_setCell _ _ _ _ h]
theorem RY {W a y:World}{B:Nat}(h1:Ext W a) (e:Ext a y) (hB:W.heap.size≤B) (h:a.heap[B]?=some (.cells #[.string ⟨#[]⟩,.string ⟨#[]⟩,.int .i64 0,.slice none 0 0] 55)) (q:Pd):Ext W (eK y B q)∧aR (eK y B q) B q:=
 ⟨kT (h1.trans e) hB q,dN ((e.heap (ae h)).trans h) q⟩
set_option maxRecDepth 10000
set_option maxHeartbeats 8000000
theorem LN (x:di) (G:Option Addr) (gc:Nat) (given:List Pd) (p:Pf) (ih:∀k∈p.kids,qL x G gc given 75 (bw x.af x.insts given k) k) :
  qL x G gc given 122 (cD x.af p (p.kids.map (bw x.af x.insts given))) p:=by
 intro w he hg hp;obtain⟨W,hW⟩:∃W,W=((w.alloc (.cells #[.slice x.D x.aA.length x.dc,.slice x.C x.af.length x.cc,.slice x.I x.insts.length x.ic] 26)).alloc (.cells #[.int .i64 p.kind,.int .i64 p.n,.slice p.T p.types.length p.tc,.slice p.A p.kids.length p.cap] 34)).alloc (.cells #[.string ⟨#[]⟩,.string ⟨#[]⟩,.int .i64 0,.slice none 0 0] 55):=⟨_,rfl⟩;have HW:=aa hW.symm;have X0:aiE (Ext w W):=aa (by rw[hW];exact(((eR _).alloc _).alloc _).alloc _);have B1:aiE (aI W w.heap.size x):=aa (by rw[hW];exact(aI.new w x).ext (((eR _).alloc _).alloc _));have B2:aiE (aO W (w.heap.size+1) p):=aa (by rw[hW];exact aO.ext (ah _ _ _ (by simp)) ((eR _).alloc _));have B3:aiE (W.heap[w.heap.size+1+1]?=some (.cells #[.string ⟨#[]⟩,.string ⟨#[]⟩,.int .i64 0,.slice none 0 0] 55)):=aa (by rw[hW];exact ah _ _ _ (by simp));have bR:aiE (W.heap.size=w.heap.size+3):=aa (by rw[hW];simp);obtain⟨c0,c1,c2,c3⟩:=B2.o.cells;obtain⟨e0,e1,e2⟩:=B1.o.cells;obtain⟨y0,y1,y2,y3,eL,eO,eP,eQ⟩:=ay B3.o;clear hW;unfold eu bM
 by_cases hk:(p.kids.length:Int)=1
 ·by_cases ht:0<p.types.length
  ·have HO:aiE (cD x.af p (p.kids.map (bw x.af x.insts given))=none):=aa (by unfold cD;rw[if_neg (by omega)]);generalize p.kids.length=kl at *;obtain rfl:kl=1:=by omega
   go_enter Tryz.func122,Tryz.ntmps122;go_upto_region 1 with fail;rw[HW.o];clear HW;go_wp2;refine bodyPost_ret (v:=.tuple #[.agg #[.string ⟨#[]⟩,.string ⟨#[]⟩,.int .i64 0,.slice none 0 0],(.iface 140 (.agg #[.int .i64 1]))]) ?_ rfl ⟨⟨⟨[],Ty.zero⟩,_,rfl,by rw[HO.o];rfl⟩,?_⟩
   ·simp[results,Tryz.f122,go_sem,y0,y1,y2,y3]
   ·exact ar X0.o (by omega) _ _ _ _
  have sB:p.kids.length=1:=by omega
  have Pw:p.types.length=0:=by omega
  have h0:0<p.kids.length:=by omega
  have HA:aiE (cD x.af p (p.kids.map (bw x.af x.insts given))=(bw x.af x.insts given (p.kids[0]'h0)).bind fun q=>(zu x.af q.cls).bind fun c=>(pH c.cQ p.n).map fun s=>(⟨s,q.ty⟩:Pd)):=aa (by
   unfold cD;rw[if_pos ⟨sB,Pw⟩];have e:(p.kids.map (bw x.af x.insts given)).getD 0 none=bw x.af x.insts given (p.kids[0]'h0):=by simp[List.getD,h0]
   rw[e])
  have HK:=aa (fun w' (e:Ext W w')=>aa (ih _ (aiF h0) w' (he.ext (X0.o.trans e)) (hg.ext (X0.o.trans e)) ((hp.all.kids _ (aiF h0)).ext (X0.o.trans e))));obtain⟨b,o,hA,hb,q0,q1,q2,q3⟩:=(hp.all.ext X0.o).at_ h0;have Dh:=aa he;have ub:=aa (fun(c:dY) (hc:c∈x.af)=>(he.af.all c hc));rw[sB,hA] at c3;rw[Pw] at c2;rw[sB,Pw,hA] at HW ⊢;clear sB Pw hA ih hk ht hp hg;generalize cD x.af p (p.kids.map (bw x.af x.insts given))=R at *;simp only[Nat.zero_mul,Nat.add_zero] at q0 q1 q2 q3;generalize p.kids[0]'h0=kid at *;have ei:=aa (fun w' (e:Ext W w')=>aiI (e.cell e0) (aiI (e.cell e1) (aiI (e.cell e2) (aiI (e.cell c3) (aiI (e.cell q0) (aiI (e.cell q1) (aiI (e.cell q2) (e.cell q3))))))));generalize bw x.af x.insts given kid=O at *;clear h0;unfold eu bM fN at HK;have mn:w.heap.size<W.heap.size:=by rw[bR.o];omega
  have ow:w.heap.size+1<W.heap.size:=by rw[bR.o];omega
  have ly:w.heap.size≠W.heap.size:=by omega
  have Gu:w.heap.size+1≠W.heap.size:=by omega
  have Di:b≠W.heap.size:=by omega
  go_enter Tryz.func122,Tryz.ntmps122;go_upto_region 1 with fail;rw[HW.o];clear HW;go_upto_region 3 with fail
  go_cut [8,9] (fun s8 s9 wx=>∃(b8:Nat) (q:Pd),s8=.pointer (some ⟨b8,0,none⟩)∧ua O q s9∧W.heap.size≤b8∧aiE (Ext W wx)∧aiE (aR wx b8 q))
  case first=>
   go_region_held3 (fun w'=>w'.cell? ⟨w.heap.size,0,none⟩=some (.slice x.D x.aA.length x.dc)∧w'.cell? ⟨w.heap.size,1,none⟩=some (.slice x.C x.af.length x.cc)∧w'.cell? ⟨w.heap.size,2,none⟩=some (.slice x.I x.insts.length x.ic)∧w'.cell? ⟨w.heap.size+1,3,none⟩=some (.slice (some ⟨b,o,none⟩) 1 p.cap)∧w'.cell? ⟨b,o,none⟩=some (.int .i64 kid.kind)∧w'.cell? ⟨b,o+1,none⟩=some (.int .i64 kid.n)∧w'.cell? ⟨b,o+2,none⟩=some (.slice kid.T kid.types.length kid.tc)∧w'.cell? ⟨b,o+3,none⟩=some (.slice kid.A kid.kids.length kid.cap)) (first|with_reducible assumption|(obtain⟨g1,g2,g3,g4,g5,g6,g7,g8⟩:=kS;with_reducible exact⟨aM ly _ _ _ _ g1,aM ly _ _ _ _ g2,aM ly _ _ _ _ g3,aM Gu _ _ _ _ g4,aM Di _ _ _ _ g5,aM Di _ _ _ _ g6,aM Di _ _ _ _ g7,aM Di _ _ _ _ g8⟩)|go_keep) (first
    |(
     go_at_call 75
     refine Calls.mono (HK.o _ ?e).o ?_
     (case e=>exact(by repeat(first|exact eR _|exact eA (by assumption) _|refine eA ?_ _|refine eM ?_ _ _|refine eD ?_|refine eN ?_ _)))
     rintro e y ⟨⟨q,er,rfl,bT⟩,gY⟩;have kS:=ei.o y (by refine Ext.trans ?_ gY;exact(by repeat(first|exact eR _|exact eA (by assumption) _|refine eA ?_ _|refine eM ?_ _ _|refine eD ?_|refine eN ?_ _)))
     (try (have zz:=zp gY (B:=W.heap.size) (by with_reducible exact bI W _);obtain⟨z0,z1,z2,z3,z4,z5,z6,z7,z8⟩:=zz))))
   all_goals (go_wp2_with fail;go_meet;first
    |exact⟨y.heap.size,q,rfl,bT,aiM (aiG _) ((eR W).drew.trans gY).size,aa (((eR W).drew.trans gY).alloc _),aa (ah _ _ _ rfl)⟩
    |exact⟨W.heap.size,q,rfl,bT,aiG _,aa ((RY (((eR W).alloc _).drew) gY (aiG _) (ah W _ _ rfl) _).1),aa ((RY (((eR W).alloc _).drew) gY (aiG _) (ah W _ _ rfl) _).2)⟩)
  case rest=>
   obtain⟨b8,q,rfl,bT,S9,HX,KJ⟩:=hcut;have X1:=aa (X0.o.trans HX.o);have B3:=aa ((HX.o.heap (ae B3.o)).trans B3.o);have B1:=aa (B1.o.ext HX.o);have B2:=aa (B2.o.ext HX.o);have hbl:=KJ.o.lt;clear c0 c1 c2 c3 e0 e1 e2 y0 y1 y2 y3 eL eO eP eQ q0 q1 q2 q3 ei HK;obtain⟨a0,a1,a2,a3⟩:=KJ.o.cells;have Wy:=KJ.o.free 0;obtain⟨e0,e1,e2⟩:=B1.o.cells;obtain⟨y0,y1,y2,y3,eL,eO,eP,eQ⟩:=ay B3.o;cases O with
   |none=>
    obtain rfl:=bT.none;have hR:R=none:=HA.o;clear bT HA;subst hR;go_wp2;refine bodyPost_ret (v:=.tuple #[.agg #[.string ⟨#[]⟩,.string ⟨#[]⟩,.int .i64 0,.slice none 0 0],(.iface 140 (.agg #[.int .i64 1]))]) ?_ rfl ⟨⟨⟨[],Ty.zero⟩,_,rfl,rfl⟩,?_⟩
    ·simp[results,Tryz.f122,go_sem,y0,y1,y2,y3]
    ·exact ar X1.o (by omega) _ _ _ _
   |some a=>
    obtain⟨rfl,rfl⟩:=bT.some;clear bT;rename Pd=>a
    have HC:=aa (Gt x a.cls _ (Dh.o.ext X1.o));have mZ:=aa (fun c (hc:zu x.af a.cls=some c)=>ub.o c (vz hc));have HR:aiE (R=(zu x.af a.cls).bind fun c=>(pH c.cQ p.n).map fun s=>(⟨s,a.ty⟩:Pd)):=aa HA.o;clear ub HA;unfold eu at HC;generalize zu x.af a.cls=F at *;obtain⟨c0,c1,-,-⟩:=B2.o.cells;cases F with
    |none=>
     have hR:R=none:=HR.o;clear HR;subst hR;go_wp2_with fail;refine HC.o.mono ?_;rintro e w4 ⟨rfl,eJ⟩;have X4:=aa (X1.o.trans eJ);have B5:=aa ((eJ.heap (ae B3.o)).trans B3.o);obtain⟨z0,z1,z2,z3,gC,gD,gF,gH⟩:=ay B5.o;have RZ:=ae B5.o;clear eJ;simp only[Option.getD_none,dY.zero,Option.isSome_none];go_wp2;refine bodyPost_ret (v:=.tuple #[.agg #[.string ⟨#[]⟩,.string ⟨#[]⟩,.int .i64 0,.slice none 0 0],(.iface 140 (.agg #[.int .i64 1]))]) ?_ rfl ⟨⟨⟨[],Ty.zero⟩,_,rfl,rfl⟩,?_⟩
     ·simp[results,Tryz.f122,go_sem,z0,z1,z2,z3,RZ]
     ·refine Ext.alloc ?_ _;exact ar X4.o (by omega) _ _ _ _
    |some c=>
     have Hc:=aa (mZ.o c rfl);have dU:aiE (R=(pH c.cQ p.n).map fun s=>(⟨s,a.ty⟩:Pd)):=aa HR.o;clear mZ HR;go_wp2_with fail;refine HC.o.mono ?_;rintro e w4 ⟨rfl,eJ⟩;have X4:=aa (X1.o.trans eJ);have B5:=aa ((eJ.heap (ae B3.o)).trans B3.o);obtain⟨z0,z1,z2,z3,gC,gD,gF,gH⟩:=ay B5.o;have RZ:=ae B5.o;have B6:=aa (KJ.o.ext eJ);have hz6:=B6.o.lt;obtain⟨a0,a1,a2,a3⟩:=B6.o.cells;have Wy:=B6.o.free 0;have B7:=aa (B2.o.ext eJ);have hz7:=B7.o.lt;obtain⟨d0,d1,-,-⟩:=B7.o.cells;have Hc4:=aa (Hc.o.ext X4.o);clear eJ c0 c1 e0 e1 e2 y0 y1 y2 y3 eL eO eP eQ;simp only[Option.getD_some,Option.isSome_some]
     by_cases hn:p.n<0
     ·have hR:R=none:=by rw[dU.o,dK (by omega)];rfl
      clear dU;subst hR;go_wp2;refine bodyPost_ret (v:=.tuple #[.agg #[.string ⟨#[]⟩,.string ⟨#[]⟩,.int .i64 0,.slice none 0 0],(.iface 140 (.agg #[.int .i64 1]))]) ?_ rfl ⟨⟨⟨[],Ty.zero⟩,_,rfl,rfl⟩,?_⟩
      ·simp[results,Tryz.f122,go_sem,z0,z1,z2,z3,RZ]
      ·refine Ext.alloc ?_ _;exact ar X4.o (by omega) _ _ _ _
     by_cases mO:p.n≥(c.cQ.length:Int)
     ·have hR:R=none:=by rw[dU.o,dK (by omega)];rfl
      clear dU;subst hR;go_wp2;refine bodyPost_ret (v:=.tuple #[.agg #[.string ⟨#[]⟩,.string ⟨#[]⟩,.int .i64 0,.slice none 0 0],(.iface 140 (.agg #[.int .i64 1]))]) ?_ rfl ⟨⟨⟨[],Ty.zero⟩,_,rfl,rfl⟩,?_⟩
      ·simp[results,Tryz.f122,go_sem,z0,z1,z2,z3,RZ]
      ·refine Ext.alloc ?_ _;exact ar X4.o (by omega) _ _ _ _
     obtain⟨m,hm⟩:∃m:Nat,p.n=(m:Int):=⟨p.n.toNat,by omega⟩;have iu:m<c.cQ.length:=by omega
     have LK:(m:Int)<(c.cQ.length:Int):=by omega
     have NZ:(0:Int)≤(m:Int):=by omega
     obtain⟨s,hs⟩:∃s,s=c.cQ[m]'iu:=⟨_,rfl⟩;have hR:R=some ⟨s,a.ty⟩:=by rw[dU.o,hm,nx _ _ iu,hs];rfl
     rw[hm] at d1;clear dU hn mO;obtain⟨b9,o9,eS,Yw,KL⟩:=dP.at_ Hc4.o.Lt iu;have eg:c.cQ.getD m []=s:=by rw[hs];simp[iu]
     rw[eg] at KL;subst hR;simp only[Ys];rw[eS];clear eS eg hm hs;have adX:b8≠w.heap.size+1+1:=by have:=bR.o;omega
     have sF:w.heap.size+1+1≠b8:=by omega
     go_wp2;refine bodyPost_ret (v:=.tuple #[.agg #[encStr s,encStr a.ty.aq,.int .i64 a.ty.var,.slice a.ty.A a.ty.args.length a.ty.cap],.nilIface]) ?_ rfl ⟨⟨⟨s,a.ty⟩,_,rfl,rfl,rfl⟩,?_⟩
     ·simp[results,Tryz.f122,go_sem,z0,z1,z2,z3,RZ]
     ·refine Ext.alloc ?_ _;exact ar (X4.o.setCell (by show _≤b8;have:=X0.o.size;omega) _) (by omega) _ _ _ _
 ·have HO:aiE (cD x.af p (p.kids.map (bw x.af x.insts given))=none):=aa (by unfold cD;rw[if_neg (by omega)]);have hk2:((p.kids.length:Int) != 1)=true:=by simpa using hk
  generalize p.kids.length=kl at *;go_enter Tryz.func122,Tryz.ntmps122;go_upto_region 1 with fail;rw[HW.o];clear HW;go_wp2;refine bodyPost_ret (v:=.tuple #[.agg #[.string ⟨#[]⟩,.string ⟨#[]⟩,.int .i64 0,.slice none 0 0],(.iface 140 (.agg #[.int .i64 1]))]) ?_ rfl ⟨⟨⟨[],Ty.zero⟩,_,rfl,by rw[HO.o];rfl⟩,?_⟩
  ·simp[results,Tryz.f122,go_sem,y0,y1,y2,y3]
  ·exact ar X0.o (by omega) _ _ _ _
set_option maxRecDepth 512
set_option maxHeartbeats 200000
end Go.Proofs.YtigafbmabjglfaaGreatDoor
