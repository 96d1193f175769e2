import Derived.Test.YtigafbmabjglfaaGreatDoorJT11
import Derived.RegionTactic
import Derived.Deep.DeepCutAuto
namespace Go.Proofs.YtigafbmabjglfaaGreatDoor
open Go.RowKit
def bf (n:Int) (p:Pd):Bool:=cd p.cls&&p.ty.aq == []&&p.ty.args.isEmpty&&decide (0≤p.ty.var)&&decide (p.ty.var<n)
set_option maxRecDepth 10000
set_option maxHeartbeats 8000000
theorem JI (p:Pd) (n:Int) (w:World) (h:eV w p):Calls Tryz.prog 142 #[jC p,.int .i64 n] w fun e w'=>e=.returned (.bool (bf n p))∧Ext w w':=by
 have HB:=aa (aY.new w p);have hbl:=HB.o.lt;obtain⟨W,hW⟩:∃W,W=(w.alloc (.cells #[encStr p.cls,encStr p.ty.aq,.int .i64 p.ty.var,.slice p.ty.A p.ty.args.length p.ty.cap] 55)).alloc (.cells #[encStr p.ty.aq,.int .i64 p.ty.var,.slice p.ty.A p.ty.args.length p.ty.cap] 53):=⟨_,rfl⟩;have X0:ahg (Ext w W):=aa (by rw[hW];exact((eR _).alloc _).alloc _);have HW:=aa hW.symm;obtain⟨a0,a1,a2,a3⟩:=HB.o.cells;obtain⟨c0,c1,c2,c3⟩:=(HB.o.ext (by rw[hW];exact(eR _).alloc _:Ext _ W)).cells;have hT:aP W (w.heap.size+1) p.ty:=by rw[hW];exact ah _ _ _ (by simp)
 have d0:=hT.c0;have d1:=hT.c1;have d2:=hT.c2;have QU:=ae hT;have HN:=aa (rZ p.cls W (by have:=h.cls;omega));have HP:ahg (bf n p=(cd p.cls&&p.ty.aq == []&&p.ty.args.isEmpty&&decide (0≤p.ty.var)&&decide (p.ty.var<n))):=aa rfl;generalize bf n p=R at *;have HL:ahg (p.ty.args.isEmpty=((p.ty.args.length:Int) == 0)):=aa (by cases p.ty.args with
  |nil=>rfl
  |cons x l=>simp;omega)
 rw[HL.o] at HP;clear hW h hT HL;unfold jC at *;go_enter Tryz.func142,Tryz.ntmps142;go_upto_region 2 with fail;rw[HW.o];clear HW;go_wp2_with fail;refine HN.o.mono ?_;rintro e w2 ⟨rfl,rfl⟩;cases h1:cd p.cls
 ·rw[h1] at HP;have hR:R=false:=by rw[HP.o];rfl
  subst hR;go_wp2;go_ret;exact⟨rfl,X0.o⟩
 ·cases h2:(p.ty.aq == ([]:aj))
  ·rw[h1,h2] at HP;have hR:R=false:=by rw[HP.o];rfl
   subst hR;go_wp2;go_ret;exact⟨rfl,X0.o⟩
  ·cases h3:((p.ty.args.length:Int) == 0)
   ·rw[h1,h2,h3] at HP;have hR:R=false:=by rw[HP.o];rfl
    subst hR;go_wp2;go_ret;exact⟨rfl,X0.o⟩
   ·by_cases h4:(0:Int)≤p.ty.var
    ·by_cases h5:p.ty.var<n
     ·rw[h1,h2,h3] at HP;have hR:R=true:=by rw[HP.o];simp[h4,h5]
      subst hR;go_wp2;go_ret;exact⟨rfl,X0.o⟩
     ·rw[h1,h2,h3] at HP;have hR:R=false:=by rw[HP.o];simp[h5]
      subst hR;go_wp2;go_ret;exact⟨by simp;omega,X0.o⟩
    ·rw[h1,h2,h3] at HP;have hR:R=false:=by rw[HP.o];simp[h4]
     subst hR;go_wp2;go_ret;exact⟨rfl,X0.o⟩
set_option maxRecDepth 512
set_option maxHeartbeats 200000
def fu (x:cX):Bool:=cd x.cls&&(cd x.aq||(x.aq == [45,62]&&x.n == 2))&&decide (0≤x.n)&&decide (x.n≤100)
def bN (x:cX):Bool:=fu x&&x.preds.all (bf x.n)
theorem mv {x:cX}(h:fu x=true):0≤x.n∧x.n≤100:=by
 unfold fu at h;simp only[ahv,decide_eq_true_eq] at h;exact⟨h.1.2,h.2⟩
set_option maxRecDepth 10000
set_option maxHeartbeats 8000000
theorem zP (x:cX) (w:World) (h:q9 w x):Calls Tryz.prog 96 #[Du x] w fun e w'=>e=.returned (.int .i64 (if bN x then 0 else 10))∧Ext w w':=by
 obtain⟨cls,aq,n,A,cap,preds⟩:=x;obtain⟨W,hW⟩:∃W,W=w.alloc (.cells #[encStr cls,encStr aq,.int .i64 n,.slice A preds.length cap] 70):=⟨_,rfl⟩;have HW:=aa hW.symm;have X0:ahg (Ext w W):=aa (by rw[hW];exact(eR _).alloc _);have HB:ahg (eW W w.heap.size ⟨cls,aq,n,A,cap,preds⟩):=aa (by rw[hW];exact eW.new w ⟨cls,aq,n,A,cap,preds⟩);obtain⟨c0,c1,c2,c3⟩:=HB.o.cells;have hbl:=HB.o.lt;have oh:cls.length≤1000000000000000000:=h.txt;have hco:aq.length≤1000000000000000000:=h.ctxt;have hle:=h.le;have hmx:=h.max;have JJ:=aa (h.row.ext X0.o);have QV:=aa (rZ cls W (by omega));have zQ:=aa (rZ aq W (by omega));have HI:ahg (bN ⟨cls,aq,n,A,cap,preds⟩=(fu ⟨cls,aq,n,A,cap,preds⟩&&preds.all (bf n))):=aa rfl;have HH:ahg (fu ⟨cls,aq,n,A,cap,preds⟩=(cd cls&&(cd aq||(aq == [45,62]&&n == 2))&&decide (0≤n)&&decide (n≤100))):=aa rfl;generalize bN ⟨cls,aq,n,A,cap,preds⟩=R at *;generalize fu ⟨cls,aq,n,A,cap,preds⟩=H at *;simp only[] at *;clear hW h;unfold Du at *;go_enter Tryz.func96,Tryz.ntmps96;go_upto_region 1 with fail;rw[HW.o];clear HW
 go_cut [3] (fun s3 wx=>s3=.bool H∧W=wx)
 case first=>
  clear HI JJ;go_wp2_with fail;refine QV.o.mono ?_;rintro e w2 ⟨rfl,rfl⟩;cases h1:cd cls
  ·have hH:H=false:=by rw[HH.o];simp[h1]
   clear HH;subst hH;go_wp2_with fail;go_meet;exact⟨by simp,rfl⟩
  ·go_wp2_with fail;refine zQ.o.mono ?_;rintro e w3 ⟨rfl,rfl⟩;cases h2:cd aq
   ·cases h3:(aq == ([45,62]:aj))
    ·have hH:H=false:=by rw[HH.o];simp[h1,h2,h3]
     clear HH;subst hH;go_wp2_with fail;go_meet;exact⟨by simp,rfl⟩
    ·cases h4:(n == 2)
     ·have hH:H=false:=by rw[HH.o];simp[h1,h2,h3,h4]
      clear HH;subst hH;go_wp2_with fail;go_meet;exact⟨by simp,rfl⟩
     ·by_cases Bk:(0:Int)≤n
      ·by_cases tV:n≤100
       ·have hH:H=true:=by rw[HH.o];simp[h1,h2,h3,h4,Bk,tV]
        clear HH;subst hH;go_wp2_with fail;go_meet;exact⟨by simp,rfl⟩
       ·have hH:H=false:=by rw[HH.o];simp[h1,h2,h3,h4,Bk,tV]
        clear HH;subst hH;go_wp2_with fail;go_meet;exact⟨by simp;omega,rfl⟩
      ·have hH:H=false:=by rw[HH.o];simp[h1,h2,h3,h4,Bk]
       clear HH;subst hH;go_wp2_with fail;go_meet;exact⟨by simp,rfl⟩
   ·by_cases Bk:(0:Int)≤n
    ·by_cases tV:n≤100
     ·have hH:H=true:=by rw[HH.o];simp[h1,h2,Bk,tV]
      clear HH;subst hH;go_wp2_with fail;go_meet;exact⟨by simp,rfl⟩
     ·have hH:H=false:=by rw[HH.o];simp[h1,h2,Bk,tV]
      clear HH;subst hH;go_wp2_with fail;go_meet;exact⟨by simp;omega,rfl⟩
    ·have hH:H=false:=by rw[HH.o];simp[h1,h2,Bk]
     clear HH;subst hH;go_wp2_with fail;go_meet;exact⟨by simp,rfl⟩
 case rest=>
  obtain⟨rfl,rfl⟩:=hcut;clear HH QV zQ;go_wp2
  go_loopw [3,37] (fun t3 i wr=>∃k:Nat,k≤preds.length∧i=.int .i64 k∧t3=.bool (H&&(preds.take k).all (bf n))∧ahg (Ext W wr)) (fun _ i _=>preds.length - (intOf i).toNat)
  case atStart=>exact⟨0,ahj _,rfl,by simp,aa (eR _)⟩
  case round=>
   obtain⟨k,hk,rfl,rfl,HX⟩:=hrel;obtain⟨c0,c1,c2,c3⟩:=(HB.o.ext HX.o).cells;have P0:=(HB.o.ext HX.o).lt;simp only[] at c0 c1 c2 c3
   by_cases hlt:k<preds.length
   ·have aS:(k:Int)<(preds.length:Int):=by omega
    have dy:(0:Int)≤(k:Int):=by omega
    have I6:ahg ((preds.take (k+1)).all (bf n)=((preds.take k).all (bf n)&&bf n (preds[k]'hlt))):=aa (by rw[ahl hlt,List.all_append];simp);obtain⟨b,o,rfl,hb,q0,q1,q2,q3⟩:=(JJ.o.ext HX.o).at_ hlt;have HP:=aa ((JJ.o.ext HX.o).all _ (ahh hlt));generalize preds[k]'hlt=p at *;have r8:=aa (aY.new wr p);have vw:=r8.o.lt;obtain⟨d0,d1,d2,d3⟩:=r8.o.cells;have HQ:=aa (JI p n _ (HP.o.ext ((eR wr).alloc (.cells #[encStr p.cls,encStr p.ty.aq,.int .i64 p.ty.var,.slice p.ty.A p.ty.args.length p.ty.cap] 55))));generalize (preds.take k).all (bf n)=B at *;generalize bf n p=B3 at *;unfold jC at HQ;cases hS:(H&&B)
    ·go_wp2;go_roundw
     case rel=>exact⟨k+1,hlt,by go_num,by rw[I6.o,←Bool.and_assoc,hS];rfl,aa (HX.o.trans (by repeat(first|exact eR _|exact eA (by assumption) _|refine eA ?_ _|refine eM ?_ _ _|refine eD ?_|refine eN ?_ _)))⟩
     case measure=>simp[intOf];omega
    ·go_wp2_with fail;refine HQ.o.mono ?_;rintro e w2 ⟨rfl,hx⟩;have X2:=aa hx;clear hx;go_wp2;go_roundw
     case rel=>exact⟨k+1,hlt,by go_num,by rw[I6.o,←Bool.and_assoc,hS];rfl,aa (HX.o.trans (Ext.trans (by repeat(first|exact eR _|exact eA (by assumption) _|refine eA ?_ _|refine eM ?_ _ _|refine eD ?_|refine eN ?_ _)) X2.o))⟩
     case measure=>simp[intOf];omega
   ·have bU:¬(k:Int)<(preds.length:Int):=by omega
    have hR:(H&&(preds.take k).all (bf n))=R:=by rw[HI.o,ahm (by omega)]
    rw[hR];clear hR HI;cases R
    ·go_wp2;go_ret;exact⟨rfl,X0.o.trans HX.o⟩
    ·go_wp2;go_ret;exact⟨rfl,X0.o.trans HX.o⟩
set_option maxRecDepth 512
set_option maxHeartbeats 200000
def dK.zero : dK:=⟨[],none,0,[],none,0,[]⟩
def xR (cs:List dK) (name:aj):Option dK:=cs.find? fun c=>c.name == name
theorem tW {cs:List dK}{name:aj}{c:dK}(h:xR cs name=some c):c∈cs:=List.mem_of_find?_eq_some h
structure Pr where
 v:Int
 ty:Ty
def Pr.cells (p:Pr):List Value:=[.int .i64 p.v,encStr p.ty.aq,.int .i64 p.ty.var,.slice p.ty.A p.ty.args.length p.ty.cap]
def bJ : fq Pr:=⟨4,Pr.cells,fun _=>rfl,by omega⟩
abbrev br (s:List Pr):List Int:=s.map Pr.v
abbrev bz (s:List Pr):List Ty:=s.map Pr.ty
def fG (s:List Pr):Prop:=s.Pairwise fun a b=>a.v<b.v
structure uY (s:List Pr) (v:Int) (i:Nat):Prop where
 le:i≤s.length
 lo:∀k (h:k<s.length),k<i→(s[k]'h).v<v
 hi:∀k (h:k<s.length),i≤k→v≤(s[k]'h).v
def dF (s:List Pr) (v:Int) (i:Nat):Bool:=match s[i]? with|some p=>p.v == v|none=>false
theorem jX {s:List Pr}{v:Int}{i:Nat}(h:i<s.length):dF s v i=((s[i]'h).v == v):=by
 unfold dF;rw[ahw h]
theorem r9 {s:List Pr}{v:Int}{i:Nat}(h:¬i<s.length):dF s v i=false:=by
 unfold dF;rw[List.getElem?_eq_none (by omega)]
theorem jm {s:List Pr}{v:Int}{i:Nat}(h:dF s v i=true):∃hi:i<s.length,(s[i]'hi).v=v:=by
 by_cases hi:i<s.length
 ·rw[jX hi] at h;exact⟨hi,by simpa using h⟩
 ·rw[r9 hi] at h;cases h
theorem ib {s:List Pr}(h:fG s){i k:Nat}(hik:i<k) (hk:k<s.length):(s[i]'(by omega)).v<(s[k]'hk).v:=
 List.pairwise_iff_getElem.1 h i k (by omega) hk hik
theorem JK {s:List Pr}(h:fG s){p q:Pr}(hp:p∈s) (hq:q∈s) (e:p.v=q.v):p=q:=by
 obtain⟨i,hi,rfl⟩:=List.mem_iff_getElem.1 hp;obtain⟨k,hk,rfl⟩:=List.mem_iff_getElem.1 hq
 rcases Nat.lt_trichotomy i k with hl|rfl|hl
 ·have:=ib h hl hk;omega
 ·rfl
 ·have:=ib h hl hi;omega
theorem my (s:List Pr){j:Nat}(h:j<s.length):(br s).getD j 0=(s[j]'h).v:=by
 simp[List.getD_eq_getElem?_getD,ahw h]
theorem pG {s:List Pr}{v:Int}{i:Nat}(hr:fG s) (h:uY s v i):putAt (br s) (bz s) v=if dF s v i=true then(s[i]?).map Pr.ty else none:=by
 by_cases hh:dF s v i=true
 ·obtain⟨hi,hv⟩:=jm hh;have e:gV (br s) v=i:=kz (br s) v 0 (by simpa using hi) (fun j hj=>by
   rw[my s (by omega)];have:=h.lo j (by omega) hj;simp;omega) (by rw[my s hi,hv];simp)
  rw[if_pos hh];unfold putAt;rw[e,if_pos (by omega),Int.toNat_natCast,List.getElem?_map]
 ·have e:gV (br s) v = -1:=kA (br s) v 0 (fun j hj=>by
   have hj':j<s.length:=by simpa using hj
   rw[my s hj'];simp only[beq_eq_false_iff_ne,ne_eq];intro hv
   rcases Nat.lt_trichotomy j i with hl|rfl|hl
   ·have:=h.lo j hj' hl;omega
   ·rw[jX hj'] at hh;simp[hv] at hh
   ·have h1:=h.hi i (by omega) (ahi _);have h2:=ib hr hl hj';omega)
  rw[if_neg hh];unfold putAt;rw[e];rfl
theorem Nt (s:List Pr) (hr:fG s) (v:Int):∃i,uY s v i:=by
 refine⟨(s.filter fun p=>decide (p.v<v)).length,?_⟩
 induction s with
 |nil=>exact⟨ahi _,fun k h=>absurd h (Nat.not_lt_zero _),fun k h=>absurd h (Nat.not_lt_zero _)⟩
 |cons x s ih=>
  have h1:=List.pairwise_cons.1 hr;have h2:=ih h1.2
  by_cases hx:x.v<v
  ·rw[List.filter_cons_of_pos (by simpa using hx),ahy];refine⟨by have:=h2.le;simp only[ahy];omega,fun k h hk => ?_,fun k h hk => ?_⟩
   ·cases k with
    |zero=>exact hx
    |succ k=>exact h2.lo k (by simpa using h) (by omega)
   ·cases k with
    |zero=>omega
    |succ k=>exact h2.hi k (by simpa using h) (by omega)
  ·have hf:(List.filter (fun p=>decide (p.v<v)) (x :: s)).length=0:=by
    rw[List.length_eq_zero_iff,List.filter_eq_nil_iff];intro y hy
    rcases List.mem_cons.1 hy with rfl|hy
    ·simpa using hx
    ·have:=h1.1 y hy;simp;omega
   rw[hf];refine⟨ahj _,fun k h hk=>absurd hk (Nat.not_lt_zero _),fun k h _ => ?_⟩;cases k with
   |zero=>show v≤x.v;omega
   |succ k=>
    have:=h1.1 _ (ahh (by simpa using h:k<s.length));show v≤(s[k]'_).v;omega
theorem dG {s:List Pr}(hr:fG s){v:Int}{u:Ty}:putAt (br s) (bz s) v=some u↔∃p∈s,p.v=v∧p.ty=u:=by
 obtain⟨i,hi⟩:=Nt s hr v;rw[pG hr hi]
 by_cases hh:dF s v i=true
 ·obtain⟨h1,h2⟩:=jm hh;rw[if_pos hh,ahw h1,Option.map_some]
  constructor
  ·intro e;injection e with e;exact⟨_,ahh h1,h2,e⟩
  ·rintro⟨p,hp,e1,e2⟩;rw[←JK hr (ahh h1) hp (h2.trans e1.symm)] at e2;rw[e2]
 ·rw[if_neg hh]
  constructor
  ·intro e;cases e
  ·rintro⟨p,hp,e1,-⟩
   exfalso
   obtain⟨k,hk,rfl⟩:=List.mem_iff_getElem.1 hp
   rcases Nat.lt_trichotomy k i with hl|rfl|hl
   ·have:=hi.lo k hk hl;omega
   ·rw[jX hk] at hh;simp[e1] at hh
   ·have h1:=hi.hi i (by omega) (ahi _);have h2:=ib hr hl hk;omega
theorem mz {s:List Pr}(hr:fG s){v:Int}:putAt (br s) (bz s) v=none↔∀p∈s,p.v≠v:=by
 constructor
 ·intro h p hp e;have:=(dG hr).2 ⟨p,hp,e,rfl⟩;rw[h] at this;cases this
 ·intro h;cases e:putAt (br s) (bz s) v with
  |none=>rfl
  |some u=>
   obtain⟨p,hp,e1,-⟩:=(dG hr).1 e;exact absurd e1 (h p hp)
theorem se {s:List Pr}{v:Int}{i:Nat}(hr:fG s) (h:uY s v i):dF s v i=true↔(putAt (br s) (bz s) v).isSome=true:=by
 rw[pG hr h]
 by_cases hh:dF s v i=true
 ·obtain⟨h1,h2⟩:=jm hh;rw[if_pos hh,ahw h1];simp[hh]
 ·rw[if_neg hh];simp[hh]
def cC (s:List Pr) (i:Nat) (v:Int) (t:Ty):List Pr:=s.take i++⟨v,t⟩ :: s.drop i
theorem jY {s:List Pr}{i:Nat}{v:Int}{t:Ty}(h:i≤s.length):(cC s i v t).length=s.length+1:=by
 unfold cC;rw[ahn,ahy,List.length_take,List.length_drop];omega
theorem gA {s:List Pr}{i:Nat}{v:Int}{t:Ty}{p:Pr}:p∈cC s i v t↔p=⟨v,t⟩∨p∈s:=by
 unfold cC;rw[List.mem_append,List.mem_cons];have:p∈s↔p∈s.take i∨p∈s.drop i:=by rw[←List.mem_append,List.take_append_drop]
 rw[this]
 constructor
 ·rintro (h|h|h)
  ·exact .inr (.inl h)
  ·exact .inl h
  ·exact .inr (.inr h)
 ·rintro (h|h|h)
  ·exact .inr (.inl h)
  ·exact .inl h
  ·exact .inr (.inr h)
theorem kD {s:List Pr}{i:Nat}{v:Int}{t:Ty}(hr:fG s) (h:uY s v i) (hn:dF s v i=false):fG (cC s i v t):=by
 unfold cC fG;have hs:(s.take i++s.drop i).Pairwise fun a b=>a.v<b.v:=by rw[List.take_append_drop];exact hr
 obtain⟨h1,h2,h3⟩:=List.pairwise_append.1 hs;have xO:∀p∈s.take i,p.v<v:=by
  intro p hp;obtain⟨k,hk,rfl⟩:=List.mem_iff_getElem.1 hp;rw[List.length_take] at hk;rw[List.getElem_take];exact h.lo k (by omega) (by omega)
 have hhi:∀p∈s.drop i,v<p.v:=by
  intro p hp;obtain⟨k,hk,rfl⟩:=List.mem_iff_getElem.1 hp;rw[List.length_drop] at hk;rw[List.getElem_drop];have hi:i<s.length:=by omega
  have g:=h.hi (i+k) (by omega) (by omega)
  rcases Nat.eq_zero_or_pos k with rfl|dy
  ·rw[jX hi] at hn;have:(s[i]'hi).v≠v:=by simpa using hn
   simp only[Nat.add_zero] at g ⊢;omega
  ·have:=ib hr (show i<i+k by omega) (by omega);have:=h.hi i hi (ahi _);omega
 refine List.pairwise_append.2 ⟨h1,List.pairwise_cons.2 ⟨fun p hp=>hhi p hp,h2⟩,fun a ha b hb => ?_⟩
 rcases List.mem_cons.1 hb with rfl|hb
 ·exact xO a ha
 ·exact h3 a ha b hb
theorem JL {s:List Pr}{i:Nat}{v:Int}{t:Ty}(hr:fG s) (h:uY s v i) (hn:dF s v i=false) (x:Int):putAt (br (cC s i v t)) (bz (cC s i v t)) x=if x=v then some t else putAt (br s) (bz s) x:=by
 have V9:=kD (t:=t) hr h hn
 by_cases hx:x=v
 ·subst hx;rw[if_pos rfl,dG V9];exact⟨⟨x,t⟩,gA.2 (.inl rfl),rfl,rfl⟩
 ·rw[if_neg hx];cases e:putAt (br s) (bz s) x with
  |none=>
   rw[mz V9];intro p hp
   rcases gA.1 hp with rfl|hp
   ·exact fun e=>hx e.symm
   ·exact(mz hr).1 e p hp
  |some u=>
   obtain⟨p,hp,e1,e2⟩:=(dG hr).1 e;exact(dG V9).2 ⟨p,gA.2 (.inr hp),e1,e2⟩
theorem pH (t:Ty):∀u:Ty,t.pure=u.pure→t.size=u.size∧t.depth=u.depth:=by
 induction t using Ty.ind with
 |h t ih=>
 intro u hu;rw[Ty.aG t,Ty.aG u] at hu;injection hu with _ _ hu;have hl:t.args.length=u.args.length:=by simpa using congrArg List.length hu
 have hk:∀i (h1:i<t.args.length) (h2:i<u.args.length),(t.args[i]'h1).size=(u.args[i]'h2).size∧(t.args[i]'h1).depth=(u.args[i]'h2).depth:=by
  intro i h1 h2;refine ih _ (ahh h1) _ ?_;have:(t.args.map Ty.pure)[i]?=(u.args.map Ty.pure)[i]?:=by rw[hu]
  rw[List.getElem?_map,List.getElem?_map,ahw h1,ahw h2] at this;simpa using this
 have e1:t.args.map Ty.size=u.args.map Ty.size:=List.ext_getElem (by simpa using hl) (fun i h1 h2=>by
  simp only[List.getElem_map];exact(hk i (by simpa using h1) (by simpa using h2)).1)
 have e2:t.args.map Ty.depth=u.args.map Ty.depth:=List.ext_getElem (by simpa using hl) (fun i h1 h2=>by
  simp only[List.getElem_map];exact(hk i (by simpa using h1) (by simpa using h2)).2)
 rw[Ty.size_eq t,Ty.size_eq u,Ty.aN t,Ty.aN u,e2];rw[e1];exact⟨rfl,rfl⟩
noncomputable def gR (vars:List Int) (types:List Ty):Ty→Nat:=Ty.fold fun t l=>if t.aq=[] then(match putAt vars types t.var with|some u=>u.size|none=>1) else l.sum+1
theorem jn (vars:List Int) (types:List Ty) (t:Ty):gR vars types t=if t.aq=[] then(match putAt vars types t.var with|some u=>u.size|none=>1) else(t.args.map (gR vars types)).sum+1:=by unfold gR;rw[Ty.fold_eq]
noncomputable def nM (vars:List Int) (types:List Ty):Ty→Nat:=Ty.fold fun t l=>if t.aq=[] then(match putAt vars types t.var with|some u=>u.depth|none=>1) else l.foldr max 0+1
theorem lH (vars:List Int) (types:List Ty) (t:Ty):nM vars types t=if t.aq=[] then(match putAt vars types t.var with|some u=>u.depth|none=>1) else(t.args.map (nM vars types)).foldr max 0+1:=by unfold nM;rw[Ty.fold_eq]
noncomputable def mB : Ty→Bool:=Ty.oY fun t => !(t.aq == ([]:aj))||t.args.isEmpty
theorem pI (t:Ty):mB t=((!(t.aq == ([]:aj))||t.args.isEmpty)&&t.args.all mB):=fX _ t
theorem sg {t k:Ty}(h:mB t=true) (hk:k∈t.args):mB k=true:=by
 rw[pI,ahv,ahA] at h;exact h.2 k hk
theorem si {t:Ty}(h:mB t=true) (hc:t.aq=[]):t.args=[]:=by
 rw[pI,ahv] at h;have:=h.1;rw[hc] at this;simpa using this
theorem El (vars:List Int) (types:List Ty) (t:Ty):mB t=true→∀u:Ty,u.pure=fF vars types t→u.size=gR vars types t∧u.depth=nM vars types t:=by
 induction t using Ty.ind with
 |h t ih=>
 intro hf u hu;rw[ek] at hu;rw[jn,lH]
 by_cases hc:t.aq=[]
 ·rw[if_pos hc] at hu;rw[if_pos hc,if_pos hc];cases e:putAt vars types t.var with
  |none=>
   rw[e] at hu;have ha:=si hf hc;have h1:u.args.length=0:=by
    rw[Ty.aG u,Option.getD_none,Ty.aG t,ha] at hu;injection hu with _ _ hu;simpa using congrArg List.length hu
   have h2:u.args=[]:=List.length_eq_zero_iff.1 h1;rw[Ty.size_eq,Ty.aN,h2];exact⟨rfl,rfl⟩
  |some x=>
   rw[e,Option.getD_some] at hu;exact pH u x hu
 ·rw[if_neg hc] at hu;rw[if_neg hc,if_neg hc,Ty.size_eq,Ty.aN];rw[Ty.aG u] at hu;injection hu with _ _ hu;have hl:u.args.length=t.args.length:=by simpa using congrArg List.length hu
  have hk:∀i (h1:i<u.args.length) (h2:i<t.args.length),(u.args[i]'h1).size=gR vars types (t.args[i]'h2)∧(u.args[i]'h1).depth=nM vars types (t.args[i]'h2):=by
   intro i h1 h2;refine ih _ (ahh h2) (sg hf (ahh h2)) _ ?_;have:(u.args.map Ty.pure)[i]?=(t.args.map (fF vars types))[i]?:=by rw[hu]
   rw[List.getElem?_map,List.getElem?_map,ahw h1,ahw h2] at this;simpa using this
  have e1:u.args.map Ty.size=t.args.map (gR vars types):=List.ext_getElem (by simpa using hl) (fun i h1 h2=>by
   simp only[List.getElem_map];exact(hk i (by simpa using h1) (by simpa using h2)).1)
  have e2:u.args.map Ty.depth=t.args.map (nM vars types):=List.ext_getElem (by simpa using hl) (fun i h1 h2=>by
   simp only[List.getElem_map];exact(hk i (by simpa using h1) (by simpa using h2)).2)
  rw[e2];rw[e1];exact⟨rfl,rfl⟩
theorem xS {v:Int}{n:Nat}(h:bH [] v n=true):n=0:=by
 unfold bH at h;simpa using h
theorem pJ (t:Ty):bE t=true→mB t=true:=by
 induction t using Ty.ind with
 |h t ih=>
 intro h;rw[cL,ahv,ahA] at h;rw[pI,ahv,ahA];refine⟨?_,fun k hk=>ih k hk (h.2 k hk)⟩
 by_cases hc:t.aq=[]
 ·have h1:=h.1;rw[hc] at h1;have:=xS h1;rw[List.length_eq_zero_iff.1 this];simp
 ·have:(t.aq == ([]:aj))=false:=by simpa using hc
  rw[this];rfl
theorem vx {t:Ty}(h:az t=true):mB t=true:=by
 unfold az at h;rw[ahv] at h;exact pJ t h.2
theorem mC (t:Ty):∀u:Ty,u.pure=t.pure→bE t=true→bE u=true:=by
 induction t using Ty.ind with
 |h t ih=>
 intro u hu h;rw[cL,ahv,ahA] at h ⊢;rw[Ty.aG t,Ty.aG u] at hu;injection hu with e1 e2 hu;have hl:u.args.length=t.args.length:=by simpa using congrArg List.length hu
 refine⟨by rw[e1,e2,hl];exact h.1,fun k hk => ?_⟩;obtain⟨i,h1,rfl⟩:=List.mem_iff_getElem.1 hk;have h2:i<t.args.length:=by omega
 refine ih _ (ahh h2) _ ?_ (h.2 _ (ahh h2));have:(u.args.map Ty.pure)[i]?=(t.args.map Ty.pure)[i]?:=by rw[hu]
 rw[List.getElem?_map,List.getElem?_map,ahw h1,ahw h2] at this;simpa using this
theorem Bl (vars:List Int) (types:List Ty) (jb:∀k∈types,bE k=true) (t:Ty):bE t=true→∀u:Ty,u.pure=fF vars types t→bE u=true:=by
 induction t using Ty.ind with
 |h t ih=>
 intro h u hu;rw[ek] at hu
 by_cases hc:t.aq=[]
 ·rw[if_pos hc] at hu;cases e:putAt vars types t.var with
  |none=>rw[e] at hu;exact mC t u hu h
  |some x=>rw[e] at hu;exact mC x u hu (jb x (iz e))
 ·rw[if_neg hc,Ty.aG u] at hu;injection hu with e1 e2 hu;rw[cL,ahv,ahA] at h ⊢;have hl:u.args.length=t.args.length:=by simpa using congrArg List.length hu
  refine⟨by rw[e1,e2,hl];exact h.1,fun k hk => ?_⟩;obtain⟨i,h1,rfl⟩:=List.mem_iff_getElem.1 hk;have h2:i<t.args.length:=by omega
  refine ih _ (ahh h2) (h.2 _ (ahh h2)) _ ?_;have:(u.args.map Ty.pure)[i]?=(t.args.map (fF vars types))[i]?:=by rw[hu]
  rw[List.getElem?_map,List.getElem?_map,ahw h1,ahw h2] at this;simpa using this
theorem aW {t:Ty}(h:az t=true):t.size≤4096∧t.depth≤100∧bE t=true:=by
 unfold az at h;rw[ahv,ahv,decide_eq_true_eq,decide_eq_true_eq] at h;exact⟨h.1.1,h.1.2,h.2⟩
theorem sj {vars:List Int}{types:List Ty}(jb:∀k∈types,az k=true){t u:Ty}(h:az t=true) (hu:u.pure=fF vars types t) :
  az u=(decide (gR vars types t≤4096)&&decide (nM vars types t≤100)):=by
 obtain⟨-,-,hs⟩:=aW h;obtain⟨h1,h2⟩:=El vars types t (pJ t hs) u hu;unfold az;rw[h1,h2,Bl vars types (fun k hk=>(aW (jb k hk)).2.2) t hs u hu,Bool.and_true]
theorem nj (v:Int) (A:Option Addr) (c:Nat):az (.mk [] v A c [])=true:=by
 unfold az;rw[cL,Ty.size_eq,Ty.aN];rfl
theorem fw {t u:Ty}(h:t.pure=u.pure):az t=az u:=by
 obtain⟨h1,h2⟩:=pH t u h;have h3:bE t=bE u:=by
  rw[Bool.eq_iff_iff];exact⟨mC t u h.symm,mC u t h⟩
 unfold az;rw[h1,h2,h3]
def xU (a b:Pd):Prop:=a.cls=b.cls∧a.ty.pure=b.ty.pure
theorem xU.vy {a b:Pd}(h:xU a b):eQ a=eQ b:=by unfold eQ;rw[h.1,fw h.2]
theorem xU.refl (a:Pd):xU a a:=⟨rfl,rfl⟩
def om {α:Type}(l:List α) (n:Int):Option α:=if 0≤n then l[n.toNat]? else none
theorem mD {α:Type}{l:List α}{n:Int}{x:α}(h:om l n=some x):0≤n∧n.toNat<l.length∧∃h:n.toNat<l.length,l[n.toNat]'h=x:=by
 unfold om at h
 split at h
 ·rename_i h0
  obtain⟨h1,h2⟩:=List.getElem?_eq_some_iff.1 h;exact⟨h0,h1,h1,h2⟩
 ·cases h
theorem mF {α:Type}{l:List α}{n:Int}{x:α}(h:om l n=some x):x∈l:=by
 obtain⟨-,-,h1,h2⟩:=mD h;rw[←h2];exact ahh h1
theorem mG {α:Type}(l:List α) (k:Nat) (h:k<l.length):om l (k:Int)=some (l[k]'h):=by
 unfold om;rw[if_pos (by omega)];simp[h]
theorem dh {α:Type}{l:List α}{n:Int}(h:¬(0≤n∧n<l.length)):om l n=none:=by
 unfold om
 split
 ·rw[List.getElem?_eq_none (by omega)]
 ·rfl
noncomputable def fH (types:List Ty) (x:Pd) (o:Option Pd):Bool:=match o with
 |some q=>(q.cls == x.cls)&&bL q.ty (types.getD x.ty.var.toNat Ty.zero)
 |none=>false
noncomputable def fx (types:List Ty) (ps:List Pd) (l:List (Option Pd)):Bool:=(ps.zip l).all fun p=>fH types p.1 p.2
noncomputable def cJ (x:cX) (p:Pf):Bool:=bN x&&decide ((p.types.length:Int)=x.n)&&decide (p.kids.length=x.preds.length)&&p.types.all az
noncomputable def bZ (ins:List cX) (p:Pf) (l:List (Option Pd)):Option Pd:=(om ins p.n).bind fun x=>
 if (cJ x p&&fx p.types x.preds l)=true then some ⟨x.cls,.mk x.aq 0 p.T p.tc p.types⟩ else none
def cx (cs:List dK) (p:Pf) (l:List (Option Pd)):Option Pd:=
 if p.kids.length=1∧p.types.length=0 then(l.getD 0 none).bind fun q=>(xR cs q.cls).bind fun c=>(om c.cM p.n).map fun s=>⟨s,q.ty⟩ else none
def ir (given:List Pd) (p:Pf):Option Pd:=if p.kids.length=0∧p.types.length=0 then om given p.n else none
noncomputable def gC (cs:List dK) (ins:List cX) (given:List Pd) (p:Pf) (l:List (Option Pd)):Option Pd:=
 if p.kind=1 then ir given p else if p.kind=2 then cx cs p l else if p.kind=3 then bZ ins p l else none
noncomputable def bm (cs:List dK) (ins:List cX) (given:List Pd):Pf→Option Pd:=Pf.fold fun p l=>(gC cs ins given p l).filter eQ
theorem ew (cs:List dK) (ins:List cX) (given:List Pd) (p:Pf):bm cs ins given p=(gC cs ins given p (p.kids.map (bm cs ins given))).filter eQ:=by
 unfold bm;rw[Pf.fold_eq]
theorem sq {cs:List dK}{ins:List cX}{given:List Pd}{p:Pf}{q:Pd}(h:bm cs ins given p=some q):eQ q=true:=by
 rw[ew] at h;exact(Option.filter_eq_some_iff.1 h).2
theorem vz {p q:Pf}(h:p.pure=q.pure):p.kind=q.kind∧p.n=q.n∧p.types.map Ty.pure=q.types.map Ty.pure∧p.kids.map Pf.pure=q.kids.map Pf.pure:=by
 rw[Pf.aG p,Pf.aG q] at h;injection h with h1 h2 h3 h4;exact⟨h1,h2,h3,h4⟩
theorem dL {α β γ:Type}{f:α→γ}{g:β→γ}{l:List α}{m:List β}(h:l.map f=m.map g){i:Nat}(h1:i<l.length) (h2:i<m.length):f (l[i]'h1)=g (m[i]'h2):=by
 have:(l.map f)[i]?=(m.map g)[i]?:=by rw[h]
 rw[List.getElem?_map,List.getElem?_map,ahw h1,ahw h2] at this;simpa using this
theorem dA {α β γ:Type}{f:α→γ}{g:β→γ}{l:List α}{m:List β}(h:l.map f=m.map g):l.length=m.length:=by simpa using congrArg List.length h
theorem vA {l m:List Ty}(h:l.map Ty.pure=m.map Ty.pure):l.all az=m.all az:=by
 have hl:=dA h;rw[Bool.eq_iff_iff,ahA,ahA]
 constructor
 ·intro k x hx;obtain⟨i,h1,rfl⟩:=List.mem_iff_getElem.1 hx;have h2:i<l.length:=by omega
  rw[←fw (dL h h2 h1)];exact k _ (ahh h2)
 ·intro k x hx;obtain⟨i,h1,rfl⟩:=List.mem_iff_getElem.1 hx;have h2:i<m.length:=by omega
  rw[fw (dL h h1 h2)];exact k _ (ahh h2)
def pK (a b:Option Pd):Prop:=∀x,a=some x→∃y,b=some y∧xU x y
theorem JM {types lI:List Ty}(ht:types.map Ty.pure=lI.map Ty.pure){x:Pd}{a b:Option Pd}(h:pK a b) (hw:fH types x a=true):fH lI x b=true:=by
 cases a with
 |none=>cases hw
 |some q=>
  obtain⟨y,rfl,e1,e2⟩:=h q rfl;unfold fH at hw ⊢;simp only[ahv] at hw ⊢;refine⟨by rw[←e1];exact hw.1,?_⟩;rw[eJ] at hw ⊢;rw[←e2,hw.2];have hl:=dA ht
  by_cases hi:x.ty.var.toNat<types.length
  ·have hi':x.ty.var.toNat<lI.length:=by omega
   have:=dL ht hi hi';simpa [List.getD,hi,hi'] using this
  ·have hi':¬x.ty.var.toNat<lI.length:=by omega
   simp[List.getD,List.getElem?_eq_none (Nat.le_of_not_lt hi),List.getElem?_eq_none (Nat.le_of_not_lt hi')]
theorem Em {types lI:List Ty}(ht:types.map Ty.pure=lI.map Ty.pure){ps:List Pd}{l m:List (Option Pd)}(hl:l.length=m.length) (h:∀i (h1:i<l.length) (h2:i<m.length),pK (l[i]'h1) (m[i]'h2))
  (hw:fx types ps l=true):fx lI ps m=true:=by
 unfold fx at hw ⊢;rw[ahA] at hw ⊢;intro p hp;obtain⟨i,h1,rfl⟩:=List.mem_iff_getElem.1 hp;rw[List.length_zip] at h1;have h2:i<l.length:=by omega
 have h3:i<m.length:=by omega
 have h4:i<ps.length:=by omega
 rw[List.getElem_zip];refine JM ht (h i h2 h3) (hw (ps[i]'h4,l[i]'h2) ?_);rw[List.mem_iff_getElem];exact⟨i,by rw[List.length_zip];omega,List.getElem_zip⟩
theorem JN {cs:List dK}{ins:List cX}{given Nu:List Pd}{p q:Pf}(hk:p.kind=q.kind) (hn:p.n=q.n) (ht:p.types.map Ty.pure=q.types.map Ty.pure) (hl:p.kids.length=q.kids.length)
  {l m:List (Option Pd)}(ZE:l.length=p.kids.length) (gD:m.length=q.kids.length) (h:∀i (h1:i<l.length) (h2:i<m.length),pK (l[i]'h1) (m[i]'h2)) (h1:p.kind≠1) :
  pK (gC cs ins given p l) (gC cs ins Nu q m):=by
 intro a ha;have oH:=dA ht;unfold gC at ha ⊢;rw[if_neg h1] at ha;rw[if_neg (hk▸h1),←hk]
 by_cases h2:p.kind=2
 ·rw[if_pos h2] at ha ⊢;unfold cx at ha ⊢
  split at ha
  ·rename_i hc
   rw[if_pos ⟨by omega,by omega⟩];have e1:0<l.length:=by omega
   have e2:0<m.length:=by omega
   have eg:l.getD 0 none=l[0]'e1:=by simp[List.getD,e1]
   have em:m.getD 0 none=m[0]'e2:=by simp[List.getD,e2]
   rw[eg] at ha;rw[em,←hn];obtain⟨x,hx,ha⟩:=Option.bind_eq_some_iff.1 ha;obtain⟨c,hc,ha⟩:=Option.bind_eq_some_iff.1 ha;obtain⟨s,hs,rfl⟩:=Option.map_eq_some_iff.1 ha;obtain⟨y,hy,e3,e4⟩:=h 0 e1 e2 x hx;rw[e3] at hc;refine⟨⟨s,y.ty⟩,?_,rfl,e4⟩;rw[hy,Option.bind_some,hc,Option.bind_some,hs];rfl
  ·cases ha
 ·rw[if_neg h2] at ha ⊢
  split at ha
  ·rename_i h3
   rw[if_pos h3];unfold bZ at ha ⊢;rw[←hn];obtain⟨x,hx,ha⟩:=Option.bind_eq_some_iff.1 ha
   split at ha
   ·rename_i hb
    rw[ahv] at hb;injection ha with ha;subst ha;refine⟨⟨x.cls,.mk x.aq 0 q.T q.tc q.types⟩,?_,rfl,?_⟩
    ·rw[hx,Option.bind_some,if_pos];rw[ahv];refine⟨?_,Em ht (by omega) h hb.2⟩;have:=hb.1;unfold cJ at this ⊢;rw[←oH,←hl,←vA ht];exact this
    ·rw[Ty.aG,Ty.aG];show Ty.Pure.mk _ _ (p.types.map Ty.pure)=Ty.Pure.mk _ _ (q.types.map Ty.pure);rw[ht];rfl
   ·cases ha
  ·cases ha
theorem filter_le {a b:Option Pd}(h:pK a b):pK (a.filter eQ) (b.filter eQ):=by
 intro x hx;obtain⟨h1,h2⟩:=Option.filter_eq_some_iff.1 hx;obtain⟨y,rfl,e⟩:=h x h1;exact⟨y,by rw[Option.filter_some,if_pos (by rw[←e.vy];exact h2)],e⟩
theorem En (cs:List dK) (ins:List cX) (given:List Pd) (p:Pf):∀q:Pf,p.pure=q.pure→pK (bm cs ins given p) (bm cs ins given q):=by
 induction p using Pf.ind with
 |h p ih=>
 intro q hq;obtain⟨h1,h2,h3,h4⟩:=vz hq;rw[ew,ew];refine filter_le ?_;have hl:=dA h4
 by_cases hk:p.kind=1
 ·intro a ha;refine⟨a,?_,xU.refl a⟩;unfold gC at ha ⊢;rw[if_pos hk] at ha;rw[if_pos (h1▸hk)];unfold ir at ha ⊢;rw[←h2,←hl,←dA h3];exact ha
 ·refine JN h1 h2 h3 hl (by simp) (by simp) (fun i k1 k2 => ?_) hk;rw[List.getElem_map,List.getElem_map];exact ih _ (ahh _) _ (dL h4 _ _)
inductive Tm where
 |mk (kind n:Int) (name:aj) (V:Option Addr) (vc:Nat) (vars:List Int) (T:Option Addr) (tc:Nat) (types:List Ty) (A:Option Addr) (cap:Nat) (kids:List Tm):Tm
namespace Tm
def kind : Tm→Int | .mk x _ _ _ _ _ _ _ _ _ _ _=>x
def n : Tm→Int | .mk _ x _ _ _ _ _ _ _ _ _ _=>x
def name : Tm→aj | .mk _ _ x _ _ _ _ _ _ _ _ _=>x
def V : Tm→Option Addr | .mk _ _ _ x _ _ _ _ _ _ _ _=>x
def vc : Tm→Nat | .mk _ _ _ _ x _ _ _ _ _ _ _=>x
def vars : Tm→List Int | .mk _ _ _ _ _ x _ _ _ _ _ _=>x
def T : Tm→Option Addr | .mk _ _ _ _ _ _ x _ _ _ _ _=>x
def tc : Tm→Nat | .mk _ _ _ _ _ _ _ x _ _ _ _=>x
def types : Tm→List Ty | .mk _ _ _ _ _ _ _ _ x _ _ _=>x
def A : Tm→Option Addr | .mk _ _ _ _ _ _ _ _ _ x _ _=>x
def cap : Tm→Nat | .mk _ _ _ _ _ _ _ _ _ _ x _=>x
def kids : Tm→List Tm | .mk _ _ _ _ _ _ _ _ _ _ _ x=>x
theorem ind {p:Tm→Prop}(h:∀t,(∀k∈t.kids,p k)→p t) (t:Tm):p t:=
 Tm.rec (motive_1:=p) (motive_2:=fun l=>∀k∈l,p k) (fun _ _ _ _ _ _ _ _ _ _ _ _ hl=>h _ hl) (fun _ hk=>by cases hk)
  (fun _ _ hh ht k hk=>by rcases List.mem_cons.1 hk with rfl|hk;exact hh;exact ht k hk) t
noncomputable def fold {β:Type}(f:Tm→List β→β) (t:Tm):β:=
 Tm.rec (motive_1:=fun _=>β) (motive_2:=fun _=>List β) (fun k n s v vc vs T tc ts a c l r=>f (.mk k n s v vc vs T tc ts a c l) r) [] (fun _ _ h t=>h :: t) t
theorem fold_eq {β:Type}(f:Tm→List β→β) (t:Tm):t.fold f=f t (t.kids.map (fold f)):=by
 cases t with
 |mk k n s v vc vs T tc ts a c l=>
  show f _ _=f _ _
  congr 1
  show Tm.rec_1 (motive_1:=fun _=>β) (motive_2:=fun _=>List β) _ _ _ l=l.map (fold f)
  induction l with
  |nil=>rfl
  |cons x l ih=>exact congrArg (x.fold f :: ·) ih
noncomputable def size : Tm→Nat:=fold fun _ l=>l.sum+1
theorem size_eq (t:Tm):t.size=(t.kids.map size).sum+1:=fold_eq _ t
theorem size_pos (t:Tm):0<t.size:=by rw[size_eq];omega
noncomputable def depth : Tm→Nat:=fold fun _ l=>l.foldr max 0+1
theorem aN (t:Tm):t.depth=(t.kids.map depth).foldr max 0+1:=fold_eq _ t
theorem cB {t k:Tm}(h:k∈t.kids):k.size<t.size:=by rw[size_eq t];have:=Tree.kv size h;omega
theorem pd (t:Tm):t.kids.length<t.size:=by
 rw[size_eq t];have:∀l:List Tm,l.length≤(l.map size).sum:=by
  intro l
  induction l with
  |nil=>simp
  |cons x l ih=>have:=size_pos x;simp only[ahy,List.map_cons,List.sum_cons];omega
 have:=this t.kids;omega
inductive Pure where
 |mk (kind n:Int) (name:aj) (vars:List Int) (types:List Ty.Pure) (kids:List Pure):Pure
noncomputable def pure : Tm→Pure:=fold fun t l=>.mk t.kind t.n t.name t.vars (t.types.map Ty.pure) l
theorem aG (t:Tm):t.pure=.mk t.kind t.n t.name t.vars (t.types.map Ty.pure) (t.kids.map pure):=fold_eq _ t
def zero : Tm:=.mk 0 0 [] none 0 [] none 0 [] none 0 []
end Tm
def Tm.cells (t:Tm):List Value:=[.int .i64 t.kind,.int .i64 t.n,encStr t.name,.slice t.V t.vars.length t.vc,.slice t.T t.types.length t.tc,.slice t.A t.kids.length t.cap]
def eT : fq Tm:=⟨6,Tm.cells,fun _=>rfl,by omega⟩
@[go_sem] def bl (t:Tm):Value:=.agg #[.int .i64 t.kind,.int .i64 t.n,encStr t.name,.slice t.V t.vars.length t.vc,.slice t.T t.types.length t.tc,.slice t.A t.kids.length t.cap]
structure Eo (w:World) (t:Tm):Prop where
 Uw:t.vars.length≤t.vc
 JO:t.vc≤9223372036854775807
 DR:t.types.length≤t.tc
 pj:t.tc≤9223372036854775807
 le:t.kids.length≤t.cap
 max:t.cap≤9223372036854775807
 txt:t.name.length≤9223372036854775807
 vars:Ints w t.V t.vars
 types:bF w t.T t.types
 row:ak eT w t.A t.kids
inductive aM (w:World):Tm→Prop
 |mk {t:Tm}(hd:Eo w t) (kids:∀k∈t.kids,aM w k):aM w t
structure bK (w:World) (A:Option Addr) (l:List Tm):Prop where
 row:ak eT w A l
 kids:∀k∈l,aM w k
section
variable {w w':World}{t:Tm}
theorem Eo.old (h:Eo w t) (k:Below w.heap.size w w'):Eo w' t:=
 ⟨h.Uw,h.JO,h.DR,h.pj,h.le,h.max,h.txt,Row.old h.vars k.block k.size,h.types.old k,Row.old h.row k.block k.size⟩
theorem aM.hd (h:aM w t):Eo w t:=by cases h;assumption
theorem aM.all (h:aM w t):bK w t.A t.kids:=by cases h with|mk h k=>exact⟨h.row,k⟩
theorem aM.old (h:aM w t) (k:Below w.heap.size w w'):aM w' t:=by
 induction h with
 |mk h1 _ ih=>exact .mk (h1.old k) ih
theorem aM.ext (h:aM w t) (k:Ext w w'):aM w' t:=h.old k.below
theorem bK.old {A:Option Addr}{l:List Tm}(h:bK w A l) (k:Below w.heap.size w w'):bK w' A l:=⟨Row.old h.row k.block k.size,fun x hx=>(h.kids x hx).old k⟩
theorem bK.ext {A:Option Addr}{l:List Tm}(h:bK w A l) (k:Ext w w'):bK w' A l:=h.old k.below
theorem aM.zero (w:World):aM w Tm.zero:=.mk ⟨ahj _,by decide,ahj _,by decide,ahj _,by decide,by decide,ak.nil _ _ _,bF.nil _ _,ak.nil _ _ _⟩ (by intro k hk;cases hk)
theorem bK.at_ {A:Option Addr}{l:List Tm}(h:bK w A l){i:Nat}(hi:i<l.length) :
  ∃b o,A=some ⟨b,o,none⟩∧b<w.heap.size∧w.cell? ⟨b,o+i*6,none⟩=some (.int .i64 (l[i]'hi).kind)∧w.cell? ⟨b,o+i*6+1,none⟩=some (.int .i64 (l[i]'hi).n) ∧
   w.cell? ⟨b,o+i*6+2,none⟩=some (.string ⟨(l[i]'hi).name.toArray⟩)∧w.cell? ⟨b,o+i*6+3,none⟩=some (.slice (l[i]'hi).V (l[i]'hi).vars.length (l[i]'hi).vc) ∧
   w.cell? ⟨b,o+i*6+4,none⟩=some (.slice (l[i]'hi).T (l[i]'hi).types.length (l[i]'hi).tc)∧w.cell? ⟨b,o+i*6+5,none⟩=some (.slice (l[i]'hi).A (l[i]'hi).kids.length (l[i]'hi).cap):=by
 obtain⟨b,o,e,hb,hc⟩:=ak.at_ eT h.row hi;refine⟨b,o,e,hb,?_,?_,?_,?_,?_,?_⟩
 ·have:=hc 0 (by decide);simpa [eT,Tm.cells] using this
 ·have:=hc 1 (by decide);simpa [eT,Tm.cells] using this
 ·have:=hc 2 (by decide);simpa [eT,Tm.cells] using this
 ·have:=hc 3 (by decide);simpa [eT,Tm.cells] using this
 ·have:=hc 4 (by decide);simpa [eT,Tm.cells] using this
 ·have:=hc 5 (by decide);simpa [eT,Tm.cells] using this
theorem bK.cut {A:Option Addr}{l:List Tm}(h:bK w A l){k cap:Nat}(hk:k≤l.length) (hc:l.length≤cap):bK w (if cap=k then A else A.map (·.add (k*6))) (l.drop k):=
 ⟨ak.cut eT h.row hk hc,fun x hx=>h.kids x (List.mem_of_mem_drop hx)⟩
theorem bK.take {A:Option Addr}{l:List Tm}(h:bK w A l){k:Nat}(hk:k≤l.length):bK w A (l.take k):=
 ⟨ak.take eT h.row hk,fun x hx=>h.kids x (List.mem_of_mem_take hx)⟩
end
def pL (c:Nat) (A:Option Addr) (n:Nat):Prop:=n≠0→∀a,A=some a→a.block≠c
theorem pL.new {w:World}{A:Option Addr}{k n c:Nat}{l:List Value}(h:Row w A k n l) (hc:w.heap.size≤c):pL c A n:=by
 intro hn a ha;obtain⟨b,o,e,hb,-⟩:=h.2 (by omega);subst ha;injection e with e;subst e;show b≠c;omega
inductive ay (c:Nat):Tm→Prop
 |mk {t:Tm}(v:pL c t.V t.vars.length) (ty:pL c t.T t.types.length) (iD:∀x∈t.types,aF c x=true) (k:pL c t.A t.kids.length) (kids:∀k∈t.kids,ay c k):ay c t
section
variable {w w':World}{t:Tm}{c:Nat}
theorem ay.v (h:ay c t):pL c t.V t.vars.length:=by cases h;assumption
theorem ay.ty (h:ay c t):pL c t.T t.types.length:=by cases h;assumption
theorem ay.iD (h:ay c t):∀x∈t.types,aF c x=true:=by cases h;assumption
theorem ay.k (h:ay c t):pL c t.A t.kids.length:=by cases h;assumption
theorem ay.kids (h:ay c t):∀k∈t.kids,ay c k:=by cases h;assumption
theorem bw (h:aM w t) (hc:w.heap.size≤c):ay c t:=by
 induction h with
 |mk h _ ih=>exact .mk (pL.new h.vars hc) (pL.new h.types.row hc) (fun x hx=>aU (h.types.args x hx) hc) (pL.new h.row hc) ih
theorem aM.grown {row:Option Nat}(h:aM w t) (hg:w.grownBy w' row) (ha:∀c,row=some c→ay c t):aM w' t:=by
 induction h with
 |mk h _ ih=>
  refine .mk ⟨h.Uw,h.JO,h.DR,h.pj,h.le,h.max,h.txt,dI h.vars hg (fun hn a hA e=>(ha _ e).v hn a hA rfl),⟨dI h.types.row hg (fun hn a hA e=>(ha _ e).ty hn a hA rfl),fun x hx=>(h.types.args x hx).grown hg (fun c e=>(ha c e).iD x hx)⟩,dI h.row hg (fun hn a hA e=>(ha _ e).k hn a hA rfl)⟩ (fun k hk=>ih k hk (fun c e=>(ha c e).kids k hk))
end
noncomputable def bQ (l:List Tm):Nat:=(l.map Tm.size).sum
theorem vC (l:List Tm) (t:Tm):bQ (l++[t])=bQ l+t.size:=by simp[bQ]
theorem jZ (l:List Tm){k:Nat}(h:k<l.length):bQ (l.take (k+1))=bQ (l.take k)+(l[k]'h).size:=by rw[ahl h,vC]
theorem Bn (l:List Tm) (k:Nat):bQ (l.take k)≤bQ l:=by
 have:bQ l=bQ (l.take k)+bQ (l.drop k):=by unfold bQ;rw[←List.sum_append,←ahz,List.take_append_drop]
 omega
def av (w:World) (b:Nat) (t:Tm):Prop:=w.heap[b]?=some (.cells #[.int .i64 t.kind,.int .i64 t.n,encStr t.name,.slice t.V t.vars.length t.vc,.slice t.T t.types.length t.tc,.slice t.A t.kids.length t.cap] 40 (0,0))
section
variable {w w':World}{b:Nat}{t:Tm}
theorem av.new (w:World) (t:Tm):av (w.alloc (.cells #[.int .i64 t.kind,.int .i64 t.n,encStr t.name,.slice t.V t.vars.length t.vc,.slice t.T t.types.length t.tc,.slice t.A t.kids.length t.cap] 40)) w.heap.size t:=ah _ _ _ rfl
theorem av.lt (h:av w b t):b<w.heap.size:=ae h
theorem av.ext (h:av w b t) (e:Ext w w'):av w' b t:=(e.heap h.lt).trans h
theorem av.cells (h:av w b t):w.cell? ⟨b,0,none⟩=some (.int .i64 t.kind)∧w.cell? ⟨b,1,none⟩=some (.int .i64 t.n)∧w.cell? ⟨b,2,none⟩=some (.string ⟨t.name.toArray⟩)∧w.cell? ⟨b,3,none⟩=some (.slice t.V t.vars.length t.vc)∧w.cell? ⟨b,4,none⟩=some (.slice t.T t.types.length t.tc)∧w.cell? ⟨b,5,none⟩=some (.slice t.A t.kids.length t.cap):=
 ⟨af h 0,af h 1,af h 2,af h 3,af h 4,af h 5⟩
theorem av.free (h:av w b t) (i:Nat):w.frozen? ⟨b,i,none⟩=false:=ai h i
theorem av.Ep (h:av w b t):w.frozen? ⟨b,0,none⟩=false∧w.frozen? ⟨b,1,none⟩=false∧w.frozen? ⟨b,2,none⟩=false∧w.frozen? ⟨b,3,none⟩=false∧w.frozen? ⟨b,4,none⟩=false∧w.frozen? ⟨b,5,none⟩=false:=
 ⟨h.free 0,h.free 1,h.free 2,h.free 3,h.free 4,h.free 5⟩
theorem av.kept {row:Option Nat}(h:av w b t) (hg:w.grownBy w' row) (hb:row≠some b):av w' b t:=(hg.block b h.lt (fun e=>hb e.symm)).trans h
end
def cw (w:World) (b:Nat) (t:Tm):World:=
 (((((w.setCell ⟨b,0,none⟩ (.int .i64 t.kind)).setCell ⟨b,1,none⟩ (.int .i64 t.n)).setCell ⟨b,2,none⟩ (.string ⟨t.name.toArray⟩)).setCell ⟨b,3,none⟩ (.slice t.V t.vars.length t.vc)).setCell ⟨b,4,none⟩ (.slice t.T t.types.length t.tc)).setCell ⟨b,5,none⟩ (.slice t.A t.kids.length t.cap)
theorem j3 {a b c:World}{row:Option Nat}(h:a.grownBy b row) (k:b.grownBy c row):a.grownBy c row:=⟨k.os.trans h.os,k.tape.trans h.tape,k.output.trans h.output,aho h.size k.size,fun j hj hne=>(k.block j (Nat.lt_of_lt_of_le hj h.size) hne).trans (h.block j hj hne)⟩
theorem aZ (w:World) (b:Nat) (t:Tm):w.grownBy (cw w b t) (some b):=
 j3 (j3 (j3 (j3 (j3 (aK _ _ _ _) (aK _ _ _ _)) (aK _ _ _ _)) (aK _ _ _ _)) (aK _ _ _ _)) (aK _ _ _ _)
theorem fy (w:World) (b:Nat) (t:Tm):(cw w b t).heap.size=w.heap.size:=by simp[cw,World.setCell]
theorem gj {w:World}{b:Nat}(t:Tm){v0 v1 v2 v3 v4 v5:Value}(h:w.heap[b]?=some (.cells #[v0,v1,v2,v3,v4,v5] 40 (0,0))):av (cw w b t) b t:=by
 have:=aw (aw (aw (aw (aw (aw h 0 (.int .i64 t.kind)) 1 (.int .i64 t.n)) 2 (.string ⟨t.name.toArray⟩)) 3 (.slice t.V t.vars.length t.vc)) 4 (.slice t.T t.types.length t.tc)) 5 (.slice t.A t.kids.length t.cap);unfold cw av;simpa using this
theorem bg {W w:World}{b:Nat}(h:Ext W w) (hb:W.heap.size≤b) (t:Tm):Ext W (cw w b t):=h.grown (aZ w b t) (fun c e=>by injection e with e;omega)
def fY (a b:Tm) (g:Nat):Tm:=.mk 4 0 [] none 0 [] none 0 [] (some ⟨g,0,none⟩) 2 [a,b]
def nk (a b:Tm.Pure):Tm.Pure:=.mk 4 0 [] [] [] [a,b]
theorem sr (a b:Tm) (g:Nat):(fY a b g).pure=nk a.pure b.pure:=by rw[Tm.aG];rfl
theorem JP {w:World}{a b:Tm}{g:Nat}(ha:aM w a) (hb:aM w b) (h:w.heap[g]?=some (.cells ([a,b].flatMap eT.f).toArray 40 (0,0))):aM w (fY a b g):=
 .mk ⟨ahi _,ahj _,ahi _,ahj _,by simp[fY,Tm.kids,Tm.cap],(by show 2≤_;omega),ahj _,ak.nil _ _ _,bF.nil _ _,ak.block eT [a,b] h⟩ (fun y hy=>by
  simp[fY,Tm.kids] at hy
  rcases hy with rfl|rfl
  ·exact ha
  ·exact hb)
theorem su {c:Nat}{a b:Tm}{g:Nat}(hg:g≠c) (ha:ay c a) (hb:ay c b):ay c (fY a b g):=
 .mk (fun h=>absurd rfl h) (fun h=>absurd rfl h) (by simp[fY,Tm.types]) (fun _ x e=>by injection e with e;subst e;exact hg) (fun y hy=>by
  simp[fY,Tm.kids] at hy
  rcases hy with rfl|rfl
  ·exact ha
  ·exact hb)
noncomputable def mH (f:Tm.Pure) (l:List Tm):Tm.Pure:=l.foldl (fun f x=>nk f x.pure) f
theorem pM (f:Tm.Pure) (l:List Tm){k:Nat}(h:k<l.length):mH f (l.take (k+1))=nk (mH f (l.take k)) (l[k]'h).pure:=by
 unfold mH;rw[ahl h,List.foldl_append];rfl
def Mn (c t:aj):aj:=([64]:aj)++c++([64]:aj)++t
def gX (i:Int):Tm:=.mk 1 0 (([35]:aj)++bV i.toNat) none 0 [] none 0 [] none 0 []
def bW (n first:Int):List Tm:=if n<1∨n>4096∨first<0∨first>1099511627776 then [] else(List.range n.toNat).map fun(i:Nat)=>gX (first+(i:Int))
def Mo (cls:Pf→aj) (ins:List cX) (given:List Tm.Pure) (p:Pf) (types:List Ty.Pure) (l:List Tm.Pure):Tm.Pure:=
 if p.kind=1 then(om given p.n).getD (.mk 0 0 [] [] [] [])
 else if p.kind=2 then .mk 13 p.n (cls (p.kids.getD 0 Pf.zero)) [] [] [l.getD 0 (.mk 0 0 [] [] [] [])]
 else match om ins p.n with
  |some x=>l.foldl nk (if types=[] then .mk 1 0 (Mn x.cls x.aq) [] [] [] else .mk 6 0 [] [] types [.mk 1 0 (Mn x.cls x.aq) [] [] []])
  |none=>.mk 0 0 [] [] [] []
noncomputable def kE (cs:List dK) (ins:List cX) (preds:List Pd) (given:List Tm.Pure):Pf→Tm.Pure:=Pf.fold fun p l=>
 Mo (fun k=>((bm cs ins preds k).map Pd.cls).getD []) ins given p (p.types.map Ty.pure) l
theorem lJ (cs:List dK) (ins:List cX) (preds:List Pd) (given:List Tm.Pure) (p:Pf):kE cs ins preds given p=Mo (fun k=>((bm cs ins preds k).map Pd.cls).getD []) ins given p (p.types.map Ty.pure) (p.kids.map (kE cs ins preds given)):=by
 unfold kE;rw[Pf.fold_eq]
theorem dM {cs:List dK}{ins:List cX}{preds:List Pd}{p:Pf}{q:Pd}(h:bm cs ins preds p=some q) :
  (p.kind=1∧p.kids=[]∧p.types=[]∧0≤p.n∧p.n<preds.length) ∨
  (p.kind=2∧p.types=[]∧∃k b,p.kids=[k]∧bm cs ins preds k=some b) ∨
  (p.kind=3∧∃x,om ins p.n=some x∧p.kids.length=x.preds.length∧∀k∈p.kids,∃b,bm cs ins preds k=some b):=by
 rw[ew] at h;obtain⟨h,-⟩:=Option.filter_eq_some_iff.1 h;unfold gC at h
 by_cases k1:p.kind=1
 ·rw[if_pos k1] at h
  left
  unfold ir at h
  split at h
  ·rename_i hc
   obtain⟨a1,a2,-⟩:=mD h;exact⟨k1,List.length_eq_zero_iff.1 hc.1,List.length_eq_zero_iff.1 hc.2,a1,by omega⟩
  ·cases h
 ·rw[if_neg k1] at h
  by_cases k2:p.kind=2
  ·rw[if_pos k2] at h
   right;left
   unfold cx at h
   split at h
   ·rename_i hc
    obtain⟨k,hk⟩:=List.length_eq_one_iff.1 hc.1;obtain⟨b,hb,-⟩:=Option.bind_eq_some_iff.1 h;rw[hk] at hb;exact⟨k2,List.length_eq_zero_iff.1 hc.2,k,b,hk,hb⟩
   ·cases h
  ·rw[if_neg k2] at h
   by_cases k3:p.kind=3
   ·rw[if_pos k3] at h
    right;right
    unfold bZ at h;obtain⟨x,hx,h⟩:=Option.bind_eq_some_iff.1 h
    split at h
    ·rename_i hc
     rw[ahv] at hc;obtain⟨hc1,hc2⟩:=hc;unfold cJ at hc1;simp only[ahv,decide_eq_true_eq] at hc1;refine⟨k3,x,hx,hc1.1.2,fun k hk => ?_⟩;obtain⟨i,hi,rfl⟩:=List.mem_iff_getElem.1 hk;unfold fx at hc2;rw[ahA] at hc2;have hl:=hc1.1.2;have hz:i<(x.preds.zip (p.kids.map (bm cs ins preds))).length:=by rw[List.length_zip,List.length_map];omega
     have:=hc2 _ (ahh hz);rw[List.getElem_zip,List.getElem_map] at this;unfold fH at this;cases hp:bm cs ins preds (p.kids[i]'hi) with
     |none=>rw[hp] at this;cases this
     |some b=>exact⟨b,rfl⟩
    ·cases h
   ·rw[if_neg k3] at h;cases h
def aO (w:World) (b:Nat) (t:Pf):Prop:=w.heap[b]?=some (.cells #[.int .i64 t.kind,.int .i64 t.n,.slice t.T t.types.length t.tc,.slice t.A t.kids.length t.cap] 34 (0,0))
section
variable {w w':World}{b:Nat}{t:Pf}
theorem aO.new (w:World) (t:Pf):aO (w.alloc (.cells #[.int .i64 t.kind,.int .i64 t.n,.slice t.T t.types.length t.tc,.slice t.A t.kids.length t.cap] 34)) w.heap.size t:=ah _ _ _ rfl
theorem aO.lt (h:aO w b t):b<w.heap.size:=ae h
theorem aO.ext (h:aO w b t) (e:Ext w w'):aO w' b t:=(e.heap h.lt).trans h
theorem aO.c0 (h:aO w b t):w.cell? ⟨b,0,none⟩=some (.int .i64 t.kind):=by unfold aO at h;simp[World.cell?,h]
theorem aO.c1 (h:aO w b t):w.cell? ⟨b,1,none⟩=some (.int .i64 t.n):=by unfold aO at h;simp[World.cell?,h]
theorem aO.c2 (h:aO w b t):w.cell? ⟨b,2,none⟩=some (.slice t.T t.types.length t.tc):=by unfold aO at h;simp[World.cell?,h]
theorem aO.c3 (h:aO w b t):w.cell? ⟨b,3,none⟩=some (.slice t.A t.kids.length t.cap):=by unfold aO at h;simp[World.cell?,h]
theorem aO.cells (h:aO w b t):w.cell? ⟨b,0,none⟩=some (.int .i64 t.kind)∧w.cell? ⟨b,1,none⟩=some (.int .i64 t.n)∧w.cell? ⟨b,2,none⟩=some (.slice t.T t.types.length t.tc)∧w.cell? ⟨b,3,none⟩=some (.slice t.A t.kids.length t.cap):=⟨h.c0,h.c1,h.c2,h.c3⟩
theorem aO.free (h:aO w b t) (i:Nat):w.frozen? ⟨b,i,none⟩=false:=by unfold aO at h;simp[World.frozen?,h]
end
theorem xV {l:List Pf}{k:Nat}(h:k<l.length):((l.take (k+1)).map Pf.depth).foldr max 0=max (((l.take k).map Pf.depth).foldr max 0) (l[k]'h).depth:=by
 have ms:∀(l:List Nat) (x:Nat),(l++[x]).foldr max 0=max (l.foldr max 0) x:=by
  intro l x
  induction l with
  |nil=>simp
  |cons y l ih=>simp only[List.cons_append,List.foldr_cons,ih];omega
 rw[ahl h,ahz,List.map_singleton,ms]
set_option maxRecDepth 10000
set_option maxHeartbeats 8000000
theorem Bo (t:Pf):∀(L D:Int) (w:World),bM w t → -1000000≤L→L≤1000000 → -1000000≤D→D≤1000000 →
  Calls Tryz.prog 22 #[cr t,.int .i64 L,.int .i64 D] w fun e w'=>(∃v:Int,e=.returned (.int .i64 v)∧tN t.size t.depth L D v)∧Ext w w':=by
 induction t using Pf.ind with
 |h t ih=>
 intro L D w h h0 hL VO hD;have IH:=aa ih;have Hk:=aa h.all;have hle:=h.hd.le;have hmx:=h.hd.max;have fj:=aa (aO.new w t);have X0:ahg (Ext w (w.alloc (.cells #[.int .i64 t.kind,.int .i64 t.n,.slice t.T t.types.length t.tc,.slice t.A t.kids.length t.cap] 34))):=aa ((eR w).alloc _);have HS:ahg (t.size=bD t.kids+1):=aa (Pf.size_eq t);have HD:ahg (t.depth=(t.kids.map Pf.depth).foldr max 0+1):=aa (Pf.aN t);have mi:=aa (fun k (hk:k<t.kids.length)=>gZ t.kids hk);have JA:=aa (fun k (hk:k<t.kids.length)=>xV (l:=t.kids) hk);clear ih h;unfold cr
 by_cases hd:D<1
 ·go_enter Tryz.func22,Tryz.ntmps22;go_wp2;go_ret;exact⟨⟨-1,rfl,.inr (by omega),.inl (by omega),fun h=>by omega⟩,X0.o⟩
 go_enter Tryz.func22,Tryz.ntmps22;go_wp2;generalize (w.alloc (.cells #[.int .i64 t.kind,.int .i64 t.n,.slice t.T t.types.length t.tc,.slice t.A t.kids.length t.cap] 34))=w0 at *
 go_loopw [1,7] (fun v i wr=>∃(k:Nat) (V:Int),k≤t.kids.length∧i=.int .i64 k∧v=.int .i64 V∧(V≤L - 1∨V ≤ -1)∧(-1≤V∨L - 1≤V)∧ahg (0≤V→V=L - 1 - bD (t.kids.take k)∧((((t.kids.take k).map Pf.depth).foldr max 0:Nat):Int)+1≤D)∧ahg (Ext w0 wr)) (fun _ i _=>t.kids.length - (intOf i).toNat)
 case atStart=>exact⟨0,L - 1,ahj _,rfl,rfl,by omega,by omega,aa (fun _=>by simp[bD];omega),aa (eR _)⟩
 case round=>
  obtain⟨k,V,hk,rfl,rfl,hV1,hV2,HV,HX⟩:=hrel;have HB:=aa (fj.o.ext HX.o);have hc3:=HB.o.c3
  by_cases hlt:k<t.kids.length
  ·have aS:(k:Int)<(t.kids.length:Int):=by omega
   have dy:(0:Int)≤(k:Int):=by omega
   by_cases hv0:0≤V
   ·obtain⟨b,o,hA,hb,q0,q1,q2,q3⟩:=(Hk.o.ext (X0.o.trans HX.o)).at_ hlt;have HC:=aa (IH.o _ (ahh hlt) V (D - 1) wr ((Hk.o.kids _ (ahh hlt)).ext (X0.o.trans HX.o)) (by omega) (by omega) (by omega) (by omega));have gw:=aa (mi.o k hlt);have AQ:=aa (JA.o k hlt);rw[hA] at hc3;clear hA;generalize t.kids[k]'hlt=c at *;generalize bD (t.kids.take k)=s at *;generalize ((t.kids.take k).map Pf.depth).foldr max 0=d at *;go_wp2_with fail;refine HC.o.mono ?_;rintro e w3 ⟨⟨v,rfl,hv⟩,hx3⟩;have X3:=aa (HX.o.trans hx3);have Hv:=aa hv;clear hx3 hv;go_wp2;go_roundw
    case rel=>
     obtain⟨a1,a2,a3⟩:=Hv.o;have a4:=HV.o;exact⟨k+1,v,hlt,by go_num,rfl,by omega,by omega,aa (fun hv=>by rw[gw.o,AQ.o];obtain⟨b1,b2⟩:=a3 hv;obtain⟨b3,b4⟩:=a4 hv0;omega),X3⟩
    case measure=>simp[intOf];omega
   ·go_wp2;go_ret;exact⟨⟨V,rfl,hV1,hV2,fun h=>absurd h (by omega)⟩,X0.o.trans HX.o⟩
  ·have bU:¬(k:Int)<(t.kids.length:Int):=by omega
   have hS:bD (t.kids.take k)=bD t.kids:=by rw[ahm (by omega)]
   have hT:t.kids.take k=t.kids:=ahm (by omega);have HF:ahg (tN t.size t.depth L D V):=aa ⟨hV1,hV2,fun h=>by have:=HV.o h;rw[HS.o,HD.o];rw[hT] at this;omega⟩;clear hS hT HV;go_wp2;go_ret;exact⟨⟨V,rfl,HF.o⟩,X0.o.trans HX.o⟩
theorem JQ (A:Option Addr) (cap:Nat) (l:List Pf) (w:World) (h:jT w A l) (hle:l.length≤100000) :
  Calls Tryz.prog 6 #[.slice A l.length cap] w fun e w'=>(∃r:Int,e=.returned (.int .i64 r)∧(r=0∨(r=1∧bD l≤3000∧∀t∈l,t.depth≤200)))∧Ext w w':=by
 have HL:=aa h;have mi:=aa (fun k (hk:k<l.length)=>gZ l hk);clear h;go_enter Tryz.func6,Tryz.ntmps6;go_wp2
 go_loopw [3,4] (fun v i wr=>∃(k:Nat) (V:Int),k≤l.length∧i=.int .i64 k∧v=.int .i64 V∧V≤3000 ∧ -1 - (k:Int)≤V∧ahg (0≤V→V=3000 - bD (l.take k)∧∀t∈l.take k,t.depth≤200)∧ahg (Ext w wr)) (fun _ i _=>l.length - (intOf i).toNat)
 case atStart=>exact⟨0,3000,ahj _,rfl,rfl,by omega,by omega,aa (fun _=>by simp[bD]),aa (eR _)⟩
 case round=>
  obtain⟨k,V,hk,rfl,rfl,hV1,hV2,HV,HX⟩:=hrel
  by_cases hlt:k<l.length
  ·have aS:(k:Int)<(l.length:Int):=by omega
   have dy:(0:Int)≤(k:Int):=by omega
   obtain⟨b,o,rfl,hb,q0,q1,q2,q3⟩:=(HL.o.ext HX.o).at_ hlt;have HC:=aa (Bo (l[k]'hlt) V 200 wr ((HL.o.kids _ (ahh hlt)).ext HX.o) (by omega) (by omega) (by omega) (by omega));have gw:=aa (mi.o k hlt);have cS:ahg (l.take (k+1)=l.take k++[l[k]'hlt]):=aa (ahl hlt);generalize l[k]'hlt=c at *;go_wp2_with fail;refine HC.o.mono ?_;rintro e w3 ⟨⟨v,rfl,hv⟩,hx3⟩;have X3:=aa (HX.o.trans hx3);have Hv:=aa hv;clear hx3 hv;go_wp2;go_roundw
   case rel=>
    obtain⟨a1,a2,a3⟩:=Hv.o;have a4:=HV.o;exact⟨k+1,v,hlt,by go_num,rfl,by omega,by omega,aa (fun hv=>by
     obtain⟨b1,b2⟩:=a3 hv;obtain⟨b3,b4⟩:=a4 (by omega);rw[gw.o];refine⟨by omega,fun t ht => ?_⟩;rw[cS.o,List.mem_append,ahx] at ht
     rcases ht with ht|rfl
     ·exact b4 t ht
     ·omega),X3⟩
   case measure=>simp[intOf];omega
  ·have bU:¬(k:Int)<(l.length:Int):=by omega
   have HF:ahg (0≤V→bD l≤3000∧∀t∈l,t.depth≤200):=aa (fun h=>by
    have:=HV.o h;rw[ahm (by omega)] at this;exact⟨by omega,this.2⟩)
   clear HV
   by_cases hv:V<0
   ·go_wp2;go_ret;exact⟨⟨0,rfl,.inl rfl⟩,HX.o⟩
   ·go_wp2;go_ret;exact⟨⟨1,rfl,.inr ⟨rfl,HF.o (by omega)⟩⟩,HX.o⟩
theorem QW (t:Pf):∀(w:World),bM w t→t.size≤1000000 →
  Calls Tryz.prog 105 #[cr t] w fun e w'=>e=.returned (.int .i64 (t.size:Int))∧Ext w w':=by
 induction t using Pf.ind with
 |h t ih=>
 intro w h hsz;have IH:=aa ih;have Hk:=aa h.all;have hle:=h.hd.le;have hmx:=h.hd.max;have fj:=aa (aO.new w t);have X0:ahg (Ext w (w.alloc (.cells #[.int .i64 t.kind,.int .i64 t.n,.slice t.T t.types.length t.tc,.slice t.A t.kids.length t.cap] 34))):=aa ((eR w).alloc _);have HS:ahg (t.size=bD t.kids+1):=aa (Pf.size_eq t);have mi:=aa (fun k (hk:k<t.kids.length)=>gZ t.kids hk);have AR:=aa (fun k=>rT t.kids k);have jV:=aa (fun k (hk:k∈t.kids)=>Pf.cB hk);clear ih h;unfold cr at *;go_enter Tryz.func105,Tryz.ntmps105;go_wp2;generalize (w.alloc (.cells #[.int .i64 t.kind,.int .i64 t.n,.slice t.T t.types.length t.tc,.slice t.A t.kids.length t.cap] 34))=w0 at *
 go_loopw [3,4] (fun v i wr=>∃k:Nat,k≤t.kids.length∧i=.int .i64 k∧v=.int .i64 ((bD (t.kids.take k)+1:Nat):Int)∧ahg (Ext w0 wr)) (fun _ i _=>t.kids.length - (intOf i).toNat)
 case atStart=>exact⟨0,ahj _,rfl,rfl,aa (eR _)⟩
 case round=>
  obtain⟨k,hk,rfl,rfl,HX⟩:=hrel;have HB:=aa (fj.o.ext HX.o);have hc3:=HB.o.c3
  by_cases hlt:k<t.kids.length
  ·have aS:(k:Int)<(t.kids.length:Int):=by omega
   have dy:(0:Int)≤(k:Int):=by omega
   obtain⟨b,o,hA,hb,q0,q1,q2,q3⟩:=(Hk.o.ext (X0.o.trans HX.o)).at_ hlt;have cv:=ahh hlt;have gw:=aa (mi.o k hlt);have hs1:=AR.o (k+1);rw[gw.o] at hs1;have hS:=HS.o;have hcs:=jV.o _ cv;have HC:=aa (IH.o _ cv wr ((Hk.o.kids _ cv).ext (X0.o.trans HX.o)) (by omega));rw[hA] at hc3;clear hA cv;generalize t.kids[k]'hlt=c at *;generalize bD (t.kids.take k)=s at *;go_wp2_with fail;refine HC.o.mono ?_;rintro e w3 ⟨rfl,hx3⟩;have X3:=aa (HX.o.trans hx3);clear hx3;go_wp2;go_roundw
   case rel=>exact⟨k+1,hlt,by go_num,by rw[gw.o];exact congrArg (Value.int .i64) (by omega),X3⟩
   case measure=>simp[intOf];omega
  ·have bU:¬(k:Int)<(t.kids.length:Int):=by omega
   have hR:bD (t.kids.take k)+1=t.size:=by rw[HS.o,ahm (by omega)]
   rw[hR];clear hR;go_wp2;go_ret;exact⟨rfl,X0.o.trans HX.o⟩
theorem Er (t:Pf):∀(w:World),bM w t→t.size≤1000000 →
  Calls Tryz.prog 144 #[cr t] w fun e w'=>e=.returned (.int .i64 (t.size:Int))∧Ext w w':=by
 induction t using Pf.ind with
 |h t ih=>
 intro w h hsz;have IH:=aa ih;have Hk:=aa h.all;have hle:=h.hd.le;have hmx:=h.hd.max;have fj:=aa (aO.new w t);have X0:ahg (Ext w (w.alloc (.cells #[.int .i64 t.kind,.int .i64 t.n,.slice t.T t.types.length t.tc,.slice t.A t.kids.length t.cap] 34))):=aa ((eR w).alloc _);have HS:ahg (t.size=bD t.kids+1):=aa (Pf.size_eq t);have mi:=aa (fun k (hk:k<t.kids.length)=>gZ t.kids hk);have AR:=aa (fun k=>rT t.kids k);have jV:=aa (fun k (hk:k∈t.kids)=>Pf.cB hk);clear ih h;unfold cr at *;go_enter Tryz.func144,Tryz.ntmps144;have hc3:=fj.o.c3;go_wp2;clear hc3;generalize (w.alloc (.cells #[.int .i64 t.kind,.int .i64 t.n,.slice t.T t.types.length t.tc,.slice t.A t.kids.length t.cap] 34))=w0 at *
 go_loopw [3,9] (fun v i wr=>∃k:Nat,k≤t.kids.length∧i=.int .i64 k∧v=.int .i64 ((bD (t.kids.take k)+1:Nat):Int)∧ahg (Ext w0 wr)) (fun _ i _=>t.kids.length - (intOf i).toNat)
 case atStart=>exact⟨0,ahj _,rfl,rfl,aa (eR _)⟩
 case round=>
  obtain⟨k,hk,rfl,rfl,HX⟩:=hrel
  by_cases hlt:k<t.kids.length
  ·have aS:(k:Int)<(t.kids.length:Int):=by omega
   have dy:(0:Int)≤(k:Int):=by omega
   obtain⟨b,o,hA,hb,q0,q1,q2,q3⟩:=(Hk.o.ext (X0.o.trans HX.o)).at_ hlt;have cv:=ahh hlt;have gw:=aa (mi.o k hlt);have hs1:=AR.o (k+1);rw[gw.o] at hs1;have hS:=HS.o;have hcs:=jV.o _ cv;have HC:=aa (IH.o _ cv (wr.alloc (.cells #[.int .i64 (t.kids[k]'hlt).kind,.int .i64 (t.kids[k]'hlt).n,.slice (t.kids[k]'hlt).T (t.kids[k]'hlt).types.length (t.kids[k]'hlt).tc,.slice (t.kids[k]'hlt).A (t.kids[k]'hlt).kids.length (t.kids[k]'hlt).cap] 34)) (((Hk.o.kids _ cv).ext (X0.o.trans HX.o)).ext ((eR _).alloc _)) (by omega));rw[hA];clear hA cv;generalize t.kids[k]'hlt=c at *;generalize bD (t.kids.take k)=s at *;go_wp2_with fail;refine HC.o.mono ?_;rintro e w3 ⟨rfl,hx3⟩;have X3:=aa ((HX.o.alloc _).trans hx3);clear hx3;go_wp2;go_roundw
   case rel=>exact⟨k+1,hlt,by go_num,by rw[gw.o];exact congrArg (Value.int .i64) (by omega),X3⟩
   case measure=>simp[intOf];omega
  ·have bU:¬(k:Int)<(t.kids.length:Int):=by omega
   have hR:bD (t.kids.take k)+1=t.size:=by rw[HS.o,ahm (by omega)]
   rw[hR];clear hR;go_wp2;go_ret;exact⟨rfl,X0.o.trans HX.o⟩
set_option maxRecDepth 512
set_option maxHeartbeats 200000
open Go.Shelf
set_option maxRecDepth 10000
set_option maxHeartbeats 8000000
theorem JR (f:FuncId) (lb:Array Value) (ef:eU f) (w0:World) (c:Nat) (J Jx:List (Nat×Ty)→World→Value→Prop)
  (Nj:∀pre w w' v,J pre w v→Ext w w'→J pre w' v)
  (Nk:∀pre w v,J pre w v→w0.heap.size≤c∧c<w.heap.size∧∀k,v.ownBlock=some k→w0.heap.size≤k∧k<w.heap.size)
  (hY:∀pre (x:Nat×Ty) w v,J pre w v→x.1≤1000000→aC w x.2→Calls Tryz.prog f (#[bh x.2,.int .i64 (x.1:Nat)]++lb) w fun e w'=>
   ∃v',Tr c w v w' v'∧((e=.returned (.bool true)∧J (pre++[x]) w' v')∨(e=.returned (.bool false)∧Jx (pre++[x]) w' v')))
  (ZF:∀pre (x:Nat×Ty) w v,J (pre++[x]) w v→x.1≤1000) (t:Ty) :
  ∀(d:Nat) (pre:List (Nat×Ty)) (w:World) (v:Value),aC w0 t→Below w0.heap.size w0 w→J pre w v→d≤1000000 →
   Calls Tryz.prog 165 #[bh t,.int .i64 d,.func (.func f) #[] lb] w fun e w'=>∃v',Tr c w v w' v'∧((e=.returned (.bool true)∧J (pre++t.gU d) w' v')∨(e=.returned (.bool false)∧∃q,q <+: t.gU d∧Jx (pre++q) w' v')):=by
 induction t using Ty.ind with
 |h t ih=>
 intro d pre w v ht hB hJ hsz;have IH:=aa ih;have Hk:=aa ht.all;have hle:=ht.le;have hmx:=ht.max;have fj:=aa (aP.new w t);have X0:Ext w (w.alloc (.cells #[encStr t.aq,.int .i64 t.var,.slice t.A t.args.length t.cap] 53)):=(eR w).alloc _;have hlv:=mf t d;have QL:=Nj _ _ _ _ hJ X0;have hl0:=Nk _ _ _ hJ;have HC:=aa (hY pre (d,t) _ v QL (by show d≤1000000;omega) ((ht.old hB).ext X0));have Ba:=aa hB;have QM:=aa (fun k (hk:k<t.args.length)=>oW t.args (d+1) hk);have VY:=aa (fun k=>nK t.args (d+1) k);have I3:=aa hlv;have VZ:ahg (∀k,v.ownBlock=some k→w0.heap.size≤k):=aa (fun k e=>(hl0.2.2 k e).1);have V0:=aa Nj;have QN:=aa Nk;have HJd:=aa ZF;have T0:ahg (Tr c w v (w.alloc (.cells #[encStr t.aq,.int .i64 t.var,.slice t.A t.args.length t.cap] 53)) v):=aa (Tr.dt X0);unfold eU at ef;have hne:w.heap.size≠c:=by omega
 have PY:v.ownBlock≠some w.heap.size:=fun e=>by have:=(hl0.2.2 _ e).2;omega
 clear ih hB hJ QL hlv hY Nj Nk ZF ht hl0 X0;unfold bh at *;dsimp only at HC;generalize vt:t.A=A0 at *;have zO:=aa vt;clear vt;go_enter Tryz.func165,Tryz.ntmps165;go_wp2_with fail;refine HC.o.mono ?_;rintro e w2 ⟨v2,Bb,(⟨rfl,hJ2⟩|⟨rfl,V3⟩)⟩
 ·have T2:=aa (T0.o.trans Bb);have gy:=aa (fj.o.tr Bb hne PY);have hdd:d≤1000:=HJd.o _ _ _ _ hJ2;have mn:=aa hJ2;clear Bb hJ2 T0 HC;have hc2:=gy.o.c2;rw[zO.o] at hc2;go_wp2
  go_loopw [17] (fun i wr=>∃(k:Nat) (v3:Value),k≤t.args.length∧i=.int .i64 k∧ahg (J (pre++(d,t) :: cq (t.args.take k) (d+1)) wr v3)∧ahg (Tr c w v wr v3)∧ahg (Tr c w2 v2 wr v3)) (fun i _=>t.args.length - (intOf i).toNat)
  case atStart=>exact⟨0,v2,ahj _,rfl,aa (by simpa [cq] using mn.o),T2,aa (Tr.refl _ _ _)⟩
  case round=>
   obtain⟨k,v3,hk,rfl,HJ,HT,xQ⟩:=hrel
   by_cases hlt:k<t.args.length
   ·have aS:(k:Int)<(t.args.length:Int):=by omega
    have dy:(0:Int)≤(k:Int):=by omega
    have q8:=QN.o _ _ _ HJ.o;have V4:=QN.o _ _ _ mn.o;have Ds:ahg (Below w0.heap.size w0 wr):=aa (Ba.o.trans (HT.o.below (by have:=Ba.o.size;omega) q8.1 (fun k hk=>(VZ.o k hk))));obtain⟨b,o,rfl,hb,q0,q1,q2⟩:=(Hk.o.old Ds.o).at_ hlt;have lZ:=ahh hlt;have Nl:=aa (QM.o k hlt);have HC:=aa (IH.o _ lZ (d+1) _ (wr.alloc (.cells #[encStr (t.args[k]'hlt).aq,.int .i64 (t.args[k]'hlt).var,.slice (t.args[k]'hlt).A (t.args[k]'hlt).args.length (t.args[k]'hlt).cap] 53)) v3 (Hk.o.args _ lZ) (Ds.o.alloc (by have:=Ds.o.size;omega) _) (V0.o _ _ _ _ HJ.o ((eR _).alloc _)) (by omega));have T3:ahg (Tr c w v (wr.alloc (.cells #[encStr (t.args[k]'hlt).aq,.int .i64 (t.args[k]'hlt).var,.slice (t.args[k]'hlt).A (t.args[k]'hlt).args.length (t.args[k]'hlt).cap] 53)) v3):=aa (HT.o.trans (Tr.dt ((eR _).alloc _)));have V6:ahg (Tr c w2 v2 (wr.alloc (.cells #[encStr (t.args[k]'hlt).aq,.int .i64 (t.args[k]'hlt).var,.slice (t.args[k]'hlt).A (t.args[k]'hlt).args.length (t.args[k]'hlt).cap] 53)) v3):=aa (xQ.o.trans (Tr.dt ((eR _).alloc _)));have QO:=aa (VY.o k);have QP:ahg (cq (t.args.drop k) (d+1)=(t.args[k]'hlt).gU (d+1)++cq (t.args.drop (k+1)) (d+1)):=aa (by unfold cq;rw[List.drop_eq_getElem_cons hlt];rfl);clear lZ q8 V4;generalize t.args[k]'hlt=x at *;have PZ:(d:Int)+1≤2000000:=by omega
    have Uu:(0:Int)≤(d:Int):=by omega
    go_wp2_with fail;refine HC.o.mono ?_;rintro e w4 ⟨v4,Eg,(⟨rfl,Mh⟩|⟨rfl,q,hq,Eh⟩)⟩
    ·have T4:=aa (T3.o.trans Eg);have V7:=aa (V6.o.trans Eg);have QR:=aa Mh;clear Mh Eg;go_wp2;go_roundw
     case rel=>exact⟨k+1,v4,hlt,by go_num,aa (by rw[Nl.o];simpa using QR.o),T4,V7⟩
     case measure=>simp[intOf];omega
    ·have T4:=aa (T3.o.trans Eg);clear Eg;go_wp2;go_ret;refine⟨v4,T4.o,.inr ⟨rfl,(d,t) :: cq (t.args.take k) (d+1)++q,?_,by simpa using Eh⟩⟩;obtain⟨r,hr⟩:=hq;rw[I3.o,QO.o,QP.o,←hr];exact⟨r++cq (t.args.drop (k+1)) (d+1),by simp⟩
   ·have bU:¬(k:Int)<(t.args.length:Int):=by omega
    have xE:t.args.take k=t.args:=ahm (by omega);have HF:ahg (J (pre++t.gU d) wr v3):=aa (by have:=HJ.o;rw[xE,←I3.o] at this;exact this);clear xE;go_wp2;go_ret;exact⟨v3,HT.o,.inl ⟨rfl,HF.o⟩⟩
 ·have T2:=aa (T0.o.trans Bb);clear Bb;go_wp2;go_ret;exact⟨v2,T2.o,.inr ⟨rfl,[(d,t)],by rw[I3.o];exact⟨_,rfl⟩,V3⟩⟩
theorem vF (t:Ty) (w:World) (h:aC w t):Calls Tryz.prog 120 #[bh t] w fun e w'=>e=.returned (.bool (az t))∧Ext w w':=by
 have HB:=aa (aP.new w t);have X1:Ext w ((w.alloc (.cells #[encStr t.aq,.int .i64 t.var,.slice t.A t.args.length t.cap] 53)).alloc (.cells #[.int .i64 0] 3)):=((eR w).alloc _).alloc _;have hs:(w.alloc (.cells #[encStr t.aq,.int .i64 t.var,.slice t.A t.args.length t.cap] 53)).heap.size=w.heap.size+1:=by simp
 have hc:((w.alloc (.cells #[encStr t.aq,.int .i64 t.var,.slice t.A t.args.length t.cap] 53)).alloc (.cells #[.int .i64 0] 3)).heap[w.heap.size+1]?=some (.cells #[.int .i64 0] 3 (0,0)):=by
  have:=ah (w.alloc (.cells #[encStr t.aq,.int .i64 t.var,.slice t.A t.args.length t.cap] 53)) (.cells #[Value.int .i64 0] 3) (w.heap.size+1) hs.symm;exact this
 have HW:=aa (JR 166 #[.pointer (some ⟨w.heap.size+1,0,none⟩)] lg w (w.heap.size+1)
  (fun pre w' v=>v=.bool false∧w'.heap[w.heap.size+1]?=some (.cells #[.int .i64 pre.length] 3 (0,0))∧pre.length≤4096∧∀p∈pre,Ei p=true)
  (fun pre _ _=>¬(pre.length≤4096∧∀p∈pre,Ei p=true))
  (fun pre w1 w2 v hj e=>⟨hj.1,(e.heap (ae hj.2.1)).trans hj.2.1,hj.2.2⟩)
  (fun pre w1 v hj=>⟨by omega,ae hj.2.1,fun k hk=>by rw[hj.1] at hk;cases hk⟩)
  (fun pre x w1 v hj hx ht=>by
   obtain⟨rfl,hcell,hlen,hall⟩:=hj;refine(vu x.2 x.1 pre.length (w.heap.size+1) w1 ht hcell (by omega)).mono ?_;rintro e w2 ⟨rfl,hc2,hT⟩;refine⟨.bool false,hT,?_⟩
   by_cases bP:pre.length+1≤4096∧Ei x=true
   ·left
    refine⟨?_,rfl,by rw[ahn];exact hc2,by rw[ahn];exact bP.1,?_⟩
    ·have h2:=bP.2;unfold Ei at h2;rw[Bool.and_assoc,h2,Bool.and_true,decide_eq_true bP.1]
    ·intro p hp
     rcases List.mem_append.1 hp with hp|hp
     ·exact hall p hp
     ·rw[ahx] at hp;rw[hp];exact bP.2
   ·right
    refine⟨?_,?_⟩
    ·have:(decide (pre.length+1≤4096)&&(decide (x.1≤100)&&bH x.2.aq x.2.var x.2.args.length))=false:=by
      rw[←Bool.not_eq_true,ahv,decide_eq_true_eq];exact bP
     rw[Bool.and_assoc,this]
    ·rintro⟨h1,h2⟩;rw[ahn] at h1;exact bP ⟨h1,h2 x (by simp)⟩)
  (fun pre x _ _ hj=>by
   have:=hj.2.2.2 x (by simp);unfold Ei at this;rw[ahv,decide_eq_true_eq] at this;omega)
  t 1 [] ((w.alloc (.cells #[encStr t.aq,.int .i64 t.var,.slice t.A t.args.length t.cap] 53)).alloc (.cells #[.int .i64 0] 3)) (.bool false) h X1.below ⟨rfl,hc,by decide,by simp⟩ (by omega))
 have HL:=aa (pD t);have HX:=aa X1;clear h hc hs X1;generalize az t=R at *;unfold bh at *;go_enter Tryz.func120,Tryz.ntmps120;go_wp2_with fail;refine HW.o.mono ?_;rintro e w2 ⟨v2,hT,(⟨rfl,hj⟩|⟨rfl,q,hq,hx⟩)⟩
 ·have HE:=aa (Ext.cg (HX.o.below.trans (hT.below HX.o.size (by omega) (fun k e=>by cases e))) (ahi _));have HR:=aa (HL.o.2 ⟨hj.2.2.1,hj.2.2.2⟩);clear hT hj;go_wp2;go_ret;exact⟨by rw[HR.o];rfl,HE.o⟩
 ·have HE:=aa (Ext.cg (HX.o.below.trans (hT.below HX.o.size (by omega) (fun k e=>by cases e))) (ahi _));have HR:ahg (R=false):=aa (by
   rw[←Bool.not_eq_true];intro h;obtain⟨h1,h2⟩:=HL.o.1 h;obtain⟨r,hr⟩:=hq;have h3:q.length≤4096:=by rw[←hr,ahn] at h1;omega
   exact hx ⟨by simpa using h3,fun p hp=>h2 p (by rw[←hr];exact List.mem_append_left _ (by simpa using hp))⟩)
  clear hT hx hq;go_wp2;go_ret;exact⟨by rw[HR.o];rfl,HE.o⟩
theorem j4 (p:Pd) (w:World) (h:eV w p):Calls Tryz.prog 91 #[jC p] w fun e w'=>e=.returned (.bool (eQ p))∧Ext w w':=by
 have X0:ahg (Ext w (w.alloc (.cells #[encStr p.cls,encStr p.ty.aq,.int .i64 p.ty.var,.slice p.ty.A p.ty.args.length p.ty.cap] 55))):=aa ((eR w).alloc _);have HB:=aa (aY.new w p);obtain⟨c0,c1,c2,c3⟩:=HB.o.cells;have HN:=aa (fun w'=>aa (rZ p.cls w' (by have:=h.cls;omega)));have HL:=aa (fun w' (e:Ext w w')=>aa (vF p.ty w' (h.ty.ext e)));have HP:ahg (eQ p=(cd p.cls&&az p.ty)):=aa rfl;clear h;unfold jC bh at *;generalize eQ p=R at *;cases hb:cd p.cls
 ·rw[hb] at HN HP;have hR:R=false:=by rw[HP.o];rfl
  clear HP;subst hR;go_enter Tryz.func91,Tryz.ntmps91;go_wp2_with fail;refine(HN.o _).o.mono ?_;rintro e w2 ⟨rfl,rfl⟩;go_wp2;go_ret;exact⟨rfl,X0.o⟩
 ·rw[hb] at HN HP;have hR:R=az p.ty:=by rw[HP.o];rfl
  clear HP;subst hR;go_enter Tryz.func91,Tryz.ntmps91;go_wp2_with fail;refine(HN.o _).o.mono ?_;rintro e w2 ⟨rfl,rfl⟩;go_wp2_with fail;refine(HL.o _ X0.o).o.mono ?_;rintro e w3 ⟨rfl,hx⟩;go_wp2;go_ret;exact⟨rfl,X0.o.trans hx⟩
theorem lK (p:Pd) (w:World) (h:eV w p) (hsz:p.ty.size≤900000):Calls Tryz.prog 61 #[jC p] w fun e w'=>e=.returned (.bool (eQ p))∧Ext w w':=by
 have X0:ahg (Ext w (w.alloc (.cells #[encStr p.cls,encStr p.ty.aq,.int .i64 p.ty.var,.slice p.ty.A p.ty.args.length p.ty.cap] 55))):=aa ((eR w).alloc _);have HB:=aa (aY.new w p);obtain⟨c0,c1,c2,c3⟩:=HB.o.cells;have HN:=aa (fun w'=>aa (kB p.cls w' (by have:=h.cls;omega)));have HL:=aa (fun w' (e:Ext w w')=>aa (gi p.ty w' (h.ty.ext e) (by omega)));have HP:ahg (eQ p=(cd p.cls&&az p.ty)):=aa rfl;clear h;unfold jC bh at *;generalize eQ p=R at *;cases hb:cd p.cls
 ·rw[hb] at HN HP;have hR:R=false:=by rw[HP.o];rfl
  clear HP;subst hR;go_enter Tryz.func61,Tryz.ntmps61;go_wp2_with fail;refine(HN.o _).o.mono ?_;rintro e w2 ⟨rfl,rfl⟩;go_wp2;go_ret;exact⟨rfl,X0.o⟩
 ·rw[hb] at HN HP;have hR:R=az p.ty:=by rw[HP.o];rfl
  clear HP;subst hR;go_enter Tryz.func61,Tryz.ntmps61;go_wp2_with fail;refine(HN.o _).o.mono ?_;rintro e w2 ⟨rfl,rfl⟩;go_wp2_with fail;refine(HL.o _ X0.o).o.mono ?_;rintro e w3 ⟨rfl,hx⟩;go_wp2;go_ret;exact⟨rfl,X0.o.trans hx⟩
theorem Es (f:FuncId) (lb:Array Value) (ef:eU f) (p:Ty→Bool) (A:Option Addr) (cap:Nat) (l:List Ty) (w:World) (h:bF w A l) (hl:l.length≤1000000) (hp:∀w',Ext w w'→∀x∈l,Calls Tryz.prog f (#[bh x]++lb) w' fun e w''=>e=.returned (.bool (p x))∧Ext w' w'') :
  Calls Tryz.prog 199 #[.slice A l.length cap,.func (.func f) #[] lb] w fun e w'=>(∃i:Int,e=.returned (.int .i64 i)∧(0≤i↔l.any p=true))∧Ext w w':=by
 have HL:=aa h;have HP:=aa hp;unfold eU at ef;clear h hp;obtain⟨R,hR⟩:∃R,R=l.any p:=⟨_,rfl⟩;have HR:=aa hR;rw[←hR];clear hR;go_enter Tryz.func199,Tryz.ntmps199;go_wp2
 go_loopw [8] (fun i wr=>∃k:Nat,k≤l.length∧i=.int .i64 k∧ahg ((l.take k).any p=false)∧ahg (Ext w wr)) (fun i _=>l.length - (intOf i).toNat)
 case atStart=>exact⟨0,ahj _,rfl,aa (by simp),aa (eR _)⟩
 case round=>
  obtain⟨k,hk,rfl,HA,HX⟩:=hrel
  by_cases hlt:k<l.length
  ·have aS:(k:Int)<(l.length:Int):=by omega
   have dy:(0:Int)≤(k:Int):=by omega
   obtain⟨b,o,rfl,hb,q0,q1,q2⟩:=(HL.o.ext HX.o).at_ hlt;have hm:=ahh hlt;have HC:=aa (HP.o wr HX.o _ hm);have cS:ahg (l.take (k+1)=l.take k++[l[k]'hlt]):=aa (ahl hlt);have Hm:=aa hm;clear hm;unfold bh at HC;generalize l[k]'hlt=x at *;cases hb:p x
   ·rw[hb] at HC;have Hb:=aa hb;clear hb;go_wp2_with fail;refine HC.o.mono ?_;rintro e w3 ⟨rfl,hx⟩;have X3:=aa (HX.o.trans hx);clear hx;go_wp2;go_roundw
    case rel=>exact⟨k+1,hlt,by go_num,aa (by rw[cS.o,List.any_append,HA.o];simpa using Hb.o),X3⟩
    case measure=>simp[intOf];omega
   ·rw[hb] at HC;have HN:ahg (R=true):=aa (by rw[HR.o,List.any_eq_true];exact⟨x,Hm.o,hb⟩);clear hb;go_wp2_with fail;refine HC.o.mono ?_;rintro e w3 ⟨rfl,hx⟩;go_wp2;go_ret;exact⟨⟨(k:Int),rfl,by rw[HN.o];simp⟩,HX.o.trans hx⟩
  ·have bU:¬(k:Int)<(l.length:Int):=by omega
   have HN:ahg (R=false):=aa (by rw[HR.o];have:=HA.o;rwa [ahm (by omega)] at this);go_wp2;go_ret;exact⟨⟨-1,rfl,by rw[HN.o];simp⟩,HX.o⟩
theorem Et (f:FuncId) (lb:Array Value) (ef:eU f) (p:Ty→Bool) (A:Option Addr) (cap:Nat) (l:List Ty) (w:World) (h:bF w A l) (hl:l.length≤1000000) (hp:∀w',Ext w w'→∀x∈l,Calls Tryz.prog f (#[bh x]++lb) w' fun e w''=>e=.returned (.bool (p x))∧Ext w' w'') :
  Calls Tryz.prog 155 #[.slice A l.length cap,.func (.func f) #[] lb] w fun e w'=>e=.returned (.bool (l.any p))∧Ext w w':=by
 have HI:=aa (Es f lb ef p A cap l w h hl hp);clear h hp;generalize l.any p=R at *;go_enter Tryz.func155,Tryz.ntmps155;go_wp2_with fail;refine HI.o.mono ?_;rintro e w2 ⟨⟨i,rfl,hi⟩,hx⟩;have HR:ahg (decide ((0:Int)≤i)=R):=aa (by cases R<;>simp_all);have X:=aa hx;clear hi hx;go_wp2;go_ret;exact⟨by first|rfl|(rw[←HR.o];rfl),X.o⟩
theorem Eu (x:dz) (name:aj) (w:World) (h:dX w x) :
  Calls Tryz.prog 170 #[eX x,encStr name] w fun e w'=>e=.returned (.tuple #[V8 ((xR x.ag name).getD dK.zero),.bool (xR x.ag name).isSome])∧Ext w w':=by
 obtain⟨D,dc,aA,C,cc,cls,I,ic,insts⟩:=x;obtain⟨W,hW⟩:∃W,W=(w.alloc (.cells #[.slice D aA.length dc,.slice C cls.length cc,.slice I insts.length ic] 26)).alloc (.cells #[.string ⟨#[]⟩,.slice none 0 0,.slice none 0 0] 68):=⟨_,rfl⟩;have HW:=aa hW.symm;have X0:ahg (Ext w W):=aa (by rw[hW];exact((eR _).alloc _).alloc _);have B1:ahg (aJ W w.heap.size ⟨D,dc,aA,C,cc,cls,I,ic,insts⟩):=aa (by rw[hW];exact(aJ.new w _).ext ((eR _).alloc _));have B2:ahg (W.heap[w.heap.size+1]?=some (.cells #[.string ⟨#[]⟩,.slice none 0 0,.slice none 0 0] 68 (0,0))):=aa (by rw[hW];exact ah _ _ _ (by simp));have HC:=aa (h.ag.ext X0.o);have hle:=h.Uv;have hmx:=h.JH;obtain⟨c0,c1,c2⟩:=B1.o.cells;have hbl:=B1.o.lt;clear hW h;simp only[] at *;obtain⟨F,hF⟩:∃F,F=xR cls name:=⟨_,rfl⟩;rw[←hF];have HF:ahg (F=(cls.drop 0).find? fun c=>c.name == name):=aa (by rw[hF,List.drop_zero];rfl);clear hF;unfold eX V8;go_enter Tryz.func170,Tryz.ntmps170;go_upto_region 1 with fail;rw[HW.o];clear HW;go_wp2
 go_loopw [7,11] (fun t7 i wr=>∃k:Nat,k≤cls.length∧i=.int .i64 k∧ahg (Ext W wr)∧ahg (F=(cls.drop k).find? fun c=>c.name == name)) (fun _ i _=>cls.length - (intOf i).toNat)
 case atStart=>exact⟨0,ahj _,rfl,aa (eR _),HF⟩
 case round=>
  obtain⟨k,hk,rfl,HX,HR⟩:=hrel;have B3:=aa ((HX.o.heap (ae B2.o)).trans B2.o);have hb3:=ae B3.o;have f0:=ai B3.o 0;have f1:=ai B3.o 1;have f2:=ai B3.o 2;have k0:=af B3.o 0;have k1:=af B3.o 1;have k2:=af B3.o 2;simp only[ahp,ahq,ahr] at k0 k1 k2
  by_cases hlt:k<cls.length
  ·have aS:(k:Int)<(cls.length:Int):=by omega
   have dy:(0:Int)≤(k:Int):=by omega
   obtain⟨b,o,rfl,hb,q0,q1,q2⟩:=(HC.o.ext HX.o).at_ hlt;have dJ:ahg (F=if ((cls[k]'hlt).name == name)=true then some (cls[k]'hlt) else(cls.drop (k+1)).find? fun c=>c.name == name):=aa (by
    rw[HR.o,List.drop_eq_getElem_cons hlt,List.find?_cons];cases((cls[k]'hlt).name == name)<;>rfl)
   generalize cls[k]'hlt=c at *;cases hc:(c.name == name)
   ·rw[hc] at dJ;go_wp2;go_roundw
    case rel=>exact⟨k+1,hlt,by go_num,aa (HX.o.trans (by repeat(first|exact eR _|exact eA (by assumption) _|refine eA ?_ _|refine eM ?_ _ _|refine eD ?_|refine eN ?_ _))),aa (by have:=dJ.o;simpa using this)⟩
    case measure=>simp[intOf];omega
   ·rw[hc] at dJ;have hF:F=some c:=by have:=dJ.o;simpa using this
    clear dJ HR HF;subst hF;go_wp2;refine bodyPost_ret (v:=.tuple #[.agg #[encStr c.name,.slice c.S c.cM.length c.sc,.slice c.A c.aX.length c.cap],.bool true]) ?_ rfl ⟨rfl,?_⟩
    ·simp[results,Tryz.f170,go_sem,k0,k1,k2,hb3]
    ·exact(((((X0.o.trans HX.o)).setCell (by simp) _).setCell (by simp) _).setCell (by simp) _).alloc _
  ·have bU:¬(k:Int)<(cls.length:Int):=by omega
   have hF:F=none:=by rw[HR.o,List.drop_eq_nil_of_le (by omega)];rfl
   clear HR HF;subst hF;go_wp2;refine bodyPost_ret (v:=.tuple #[.agg #[.string ⟨#[]⟩,.slice none 0 0,.slice none 0 0],.bool false]) ?_ rfl ⟨rfl,?_⟩
   ·simp[results,Tryz.f170,go_sem,k0,k1,k2]
   ·exact((((X0.o.trans HX.o)).setCell (by simp) _).setCell (by simp) _).setCell (by simp) _
set_option maxRecDepth 512
set_option maxHeartbeats 200000
def sw (o:Option Pd) (q:Pd) (er:Value):Prop:=match o with
 |some a=>q=a∧er=.nilIface
 |none=>er=(.iface 140 (.agg #[.int .i64 1]))
theorem sw.some {a q:Pd}{er:Value}(h:sw (some a) q er):q=a∧er=.nilIface:=h
theorem sw.none {q:Pd}{er:Value}(h:sw none q er):er=(.iface 140 (.agg #[.int .i64 1])):=h
theorem np {w:World}{x:dz}{G:Option Addr}{given:List Pd}(he:dX w x) (hg:bA w G given) (p:Pf):bM w p→∀a,bm x.ag x.insts given p=some a→eV w a:=by
 induction p using Pf.ind with
 |h p ih=>
 intro hp a ha;rw[ew] at ha;obtain⟨ha,-⟩:=Option.filter_eq_some_iff.1 ha;unfold gC at ha
 split at ha
 ·unfold ir at ha
  split at ha
  ·exact hg.all _ (mF ha)
  ·cases ha
 ·split at ha
  ·unfold cx at ha
   split at ha
   ·rename_i hc
    obtain⟨q,hq,ha⟩:=Option.bind_eq_some_iff.1 ha;obtain⟨c,oh,ha⟩:=Option.bind_eq_some_iff.1 ha;obtain⟨s,hs,rfl⟩:=Option.map_eq_some_iff.1 ha;have h0:0<p.kids.length:=by omega
    have e:(p.kids.map (bm x.ag x.insts given)).getD 0 none=bm x.ag x.insts given (p.kids[0]'h0):=by simp[List.getD,h0]
    rw[e] at hq;have h1:=ih _ (ahh h0) (hp.all.kids _ (ahh h0)) q hq;exact⟨(he.ag.all _ (tW oh)).Ns _ (mF hs),h1.ty⟩
   ·cases ha
  ·split at ha
   ·unfold bZ at ha;obtain⟨y,hy,ha⟩:=Option.bind_eq_some_iff.1 ha
    split at ha
    ·injection ha with ha;subst ha;have hi:=he.insts.all _ (mF hy);exact⟨hi.txt,aC.of hp.hd.DR hp.hd.pj (by have:=hi.ctxt;omega) hp.hd.types.row hp.hd.types.args⟩
    ·cases ha
   ·cases ha
theorem vG {w:World}{x:dz}{G:Option Addr}{given:List Pd}(he:dX w x) (hg:bA w G given){p:Pf}(hp:bM w p){a:Pd}(ha:cx x.ag p (p.kids.map (bm x.ag x.insts given))=some a):eV w a:=by
 unfold cx at ha
 split at ha
 ·rename_i hc
  obtain⟨q,hq,ha⟩:=Option.bind_eq_some_iff.1 ha;obtain⟨c,oh,ha⟩:=Option.bind_eq_some_iff.1 ha;obtain⟨s,hs,rfl⟩:=Option.map_eq_some_iff.1 ha;have h0:0<p.kids.length:=by omega
  have e:(p.kids.map (bm x.ag x.insts given)).getD 0 none=bm x.ag x.insts given (p.kids[0]'h0):=by simp[List.getD,h0]
  rw[e] at hq;have h1:=np he hg _ (hp.all.kids _ (ahh h0)) q hq;exact⟨(he.ag.all _ (tW oh)).Ns _ (mF hs),h1.ty⟩
 ·cases ha
theorem zR {w:World}{x:dz}(he:dX w x){p:Pf}(hp:bM w p){l:List (Option Pd)}{a:Pd}(ha:bZ x.insts p l=some a):eV w a:=by
 unfold bZ at ha;obtain⟨y,hy,ha⟩:=Option.bind_eq_some_iff.1 ha
 split at ha
 ·injection ha with ha;subst ha;have hi:=he.insts.all _ (mF hy);exact⟨hi.txt,aC.of hp.hd.DR hp.hd.pj (by have:=hi.ctxt;omega) hp.hd.types.row hp.hd.types.args⟩
 ·cases ha
theorem ax {w:World}{b:Nat}(h:w.heap[b]?=some (.cells #[.string ⟨#[]⟩,.string ⟨#[]⟩,.int .i64 0,.slice none 0 0] 55)):w.cell? ⟨b,0,none⟩=some (.string ⟨#[]⟩)∧w.cell? ⟨b,1,none⟩=some (.string ⟨#[]⟩)∧w.cell? ⟨b,2,none⟩=some (.int .i64 0)∧w.cell? ⟨b,3,none⟩=some (.slice none 0 0)∧w.frozen? ⟨b,0,none⟩=false∧w.frozen? ⟨b,1,none⟩=false∧w.frozen? ⟨b,2,none⟩=false∧w.frozen? ⟨b,3,none⟩=false:=by
 refine⟨?_,?_,?_,?_,?_,?_,?_,?_⟩<;>simp[World.cell?,World.frozen?,h]
def dQ (w:World) (b:Nat) (a:Pd):World:=(((w.setCell ⟨b,0,none⟩ (encStr a.cls)).setCell ⟨b,1,none⟩ (encStr a.ty.aq)).setCell ⟨b,2,none⟩ (.int .i64 a.ty.var)).setCell ⟨b,3,none⟩ (.slice a.ty.A a.ty.args.length a.ty.cap)
theorem ar {w W:World}{b:Nat}(x:Ext w W) (h:w.heap.size≤b) (v0 v1 v2 v3:Value):Ext w ((((W.setCell ⟨b,0,none⟩ v0).setCell ⟨b,1,none⟩ v1).setCell ⟨b,2,none⟩ v2).setCell ⟨b,3,none⟩ v3):=
 (((x.setCell h _).setCell h _).setCell h _).setCell h _
theorem kF {w W:World}{b:Nat}(x:Ext w W) (h:w.heap.size≤b) (a:Pd):Ext w (dQ W b a):=ar x h _ _ _ _
theorem dH {W:World}{b k:Nat}(a:Pd) (h:k≠b):(dQ W b a).heap[k]?=W.heap[k]?:=by
 unfold dQ;rw[Below.heap_setCell _ _ _ _ h,Below.heap_setCell _ _ _ _ h,Below.heap_setCell _ _ _ _ h,Below.heap_setCell _ _ _ _ h]
theorem xW (W:World) (b:Nat) (a:Pd):(dQ W b a).heap.size=W.heap.size:=by unfold dQ;simp[World.setCell]
theorem di {W:World}{b:Nat}{v0 v1 v2 v3:Value}(h:W.heap[b]?=some (.cells #[v0,v1,v2,v3] 55 (0,0))) (a:Pd):aY (dQ W b a) b a:=by
 have h1:=aw h 0 (encStr a.cls);have h2:=aw h1 1 (encStr a.ty.aq);have h3:=aw h2 2 (.int .i64 a.ty.var);have h4:=aw h3 3 (.slice a.ty.A a.ty.args.length a.ty.cap);unfold aY dQ;simpa using h4
theorem aY.free {w:World}{b:Nat}{a:Pd}(h:aY w b a) (i:Nat):w.frozen? ⟨b,i,none⟩=false:=by unfold aY at h;simp[World.frozen?,h]
def pN (x:dz) (G:Option Addr) (gc:Nat) (given:List Pd) (fn:FuncId) (o:Option Pd) (p:Pf):Prop:=∀(w:World),dX w x→bA w G given→bM w p →
 Calls Tryz.prog fn #[eX x,.slice G given.length gc,cr p] w fun e w'=>(∃q er,e=.returned (.tuple #[jC q,er])∧sw o q er)∧Ext w w'
set_option maxRecDepth 10000
set_option maxHeartbeats 8000000
theorem JS (x:dz) (G:Option Addr) (gc:Nat) (given:List Pd) (p:Pf) (hk:(p.kind == 1)=true):pN x G gc given 75 (bm x.ag x.insts given p) p:=by
 intro w he hg hp;obtain⟨W,hW⟩:∃W,W=(((w.alloc (.cells #[.slice x.D x.aA.length x.dc,.slice x.C x.ag.length x.cc,.slice x.I x.insts.length x.ic] 26)).alloc (.cells #[.int .i64 p.kind,.int .i64 p.n,.slice p.T p.types.length p.tc,.slice p.A p.kids.length p.cap] 34)).alloc (.cells #[.string ⟨#[]⟩,.string ⟨#[]⟩,.int .i64 0,.slice none 0 0] 55)).alloc (.cells #[.string ⟨#[]⟩,.string ⟨#[]⟩,.int .i64 0,.slice none 0 0] 55):=⟨_,rfl⟩;have HW:=aa hW.symm;have X0:ahg (Ext w W):=aa (by rw[hW];exact((((eR _).alloc _).alloc _).alloc _).alloc _);have B1:ahg (aJ W w.heap.size x):=aa (by rw[hW];exact(aJ.new w x).ext ((((eR _).alloc _).alloc _).alloc _));have B2:ahg (aO W (w.heap.size+1) p):=aa (by rw[hW];exact aO.ext (ah _ _ _ (by simp)) (((eR _).alloc _).alloc _));have B3:ahg (W.heap[w.heap.size+1+1]?=some (.cells #[.string ⟨#[]⟩,.string ⟨#[]⟩,.int .i64 0,.slice none 0 0] 55)):=aa (by rw[hW];exact(((eR _).alloc _).heap (by simp)).trans (ah _ _ _ (by simp)));have B4:ahg (W.heap[w.heap.size+1+1+1]?=some (.cells #[.string ⟨#[]⟩,.string ⟨#[]⟩,.int .i64 0,.slice none 0 0] 55)):=aa (by rw[hW];exact ah _ _ _ (by simp));have HP:=aa (ew x.ag x.insts given p);have bS:ahg (W.heap.size=w.heap.size+4):=aa (by rw[hW];simp);obtain⟨c0,c1,c2,c3⟩:=B2.o.cells;obtain⟨e0,e1,e2⟩:=B1.o.cells;obtain⟨y0,y1,y2,y3,dY,dZ,ee,eh⟩:=ax B3.o;obtain⟨z0,z1,z2,z3,iE,iF,iG,iH⟩:=ax B4.o;have HG:=aa (hg.ext X0.o);have oI:=aa (fun(a:Pd) (ha:eV w a) w' (e:Ext w w')=>aa (j4 a w' (ha.ext e)));clear hW;unfold eX cr;have HK:ahg (p.kind=1):=aa (by simpa using hk)
 by_cases h1:0<p.kids.length
 ·have HO:ahg (bm x.ag x.insts given p=none):=aa (by rw[HP.o];unfold gC;rw[if_pos HK.o];unfold ir;rw[if_neg (by omega)];rfl);go_enter Tryz.func75,Tryz.ntmps75;go_upto_region 3 with fail;rw[HW.o];clear HW;go_wp2;refine bodyPost_ret (v:=.tuple #[.agg #[.string ⟨#[]⟩,.string ⟨#[]⟩,.int .i64 0,.slice none 0 0],(.iface 140 (.agg #[.int .i64 1]))]) ?_ rfl ⟨⟨⟨[],Ty.zero⟩,_,rfl,by rw[HO.o];rfl⟩,?_⟩
  ·simp[results,Tryz.f75,go_sem,y0,y1,y2,y3]
  ·exact ar X0.o (by omega) _ _ _ _
 have nr:p.kids.length=0:=by omega
 have Wa:=aa nr;rw[nr] at c3;clear nr
 by_cases h2:0<p.types.length
 ·have HO:ahg (bm x.ag x.insts given p=none):=aa (by rw[HP.o];unfold gC;rw[if_pos HK.o];unfold ir;rw[if_neg (by omega)];rfl);go_enter Tryz.func75,Tryz.ntmps75;go_upto_region 3 with fail;rw[HW.o];clear HW;go_wp2;refine bodyPost_ret (v:=.tuple #[.agg #[.string ⟨#[]⟩,.string ⟨#[]⟩,.int .i64 0,.slice none 0 0],(.iface 140 (.agg #[.int .i64 1]))]) ?_ rfl ⟨⟨⟨[],Ty.zero⟩,_,rfl,by rw[HO.o];rfl⟩,?_⟩
  ·simp[results,Tryz.f75,go_sem,y0,y1,y2,y3]
  ·exact ar X0.o (by omega) _ _ _ _
 have oH:p.types.length=0:=by omega
 have Wb:=aa oH;rw[oH] at c2;clear oH;have Hn:ahg (gC x.ag x.insts given p (p.kids.map (bm x.ag x.insts given))=om given p.n):=aa (by unfold gC ir;rw[if_pos HK.o,if_pos ⟨Wa.o,Wb.o⟩])
 by_cases h3:p.n<0
 ·have HO:ahg (bm x.ag x.insts given p=none):=aa (by rw[HP.o];unfold gC;rw[if_pos HK.o];unfold ir;rw[if_pos ⟨Wa.o,Wb.o⟩,dh (by omega)];rfl);go_enter Tryz.func75,Tryz.ntmps75;go_upto_region 3 with fail;rw[HW.o];clear HW;go_wp2;refine bodyPost_ret (v:=.tuple #[.agg #[.string ⟨#[]⟩,.string ⟨#[]⟩,.int .i64 0,.slice none 0 0],(.iface 140 (.agg #[.int .i64 1]))]) ?_ rfl ⟨⟨⟨[],Ty.zero⟩,_,rfl,by rw[HO.o];rfl⟩,?_⟩
  ·simp[results,Tryz.f75,go_sem,y0,y1,y2,y3]
  ·exact ar X0.o (by omega) _ _ _ _
 by_cases h4:p.n≥(given.length:Int)
 ·have HO:ahg (bm x.ag x.insts given p=none):=aa (by rw[HP.o];unfold gC;rw[if_pos HK.o];unfold ir;rw[if_pos ⟨Wa.o,Wb.o⟩,dh (by omega)];rfl);go_enter Tryz.func75,Tryz.ntmps75;go_upto_region 3 with fail;rw[HW.o];clear HW;go_wp2;refine bodyPost_ret (v:=.tuple #[.agg #[.string ⟨#[]⟩,.string ⟨#[]⟩,.int .i64 0,.slice none 0 0],(.iface 140 (.agg #[.int .i64 1]))]) ?_ rfl ⟨⟨⟨[],Ty.zero⟩,_,rfl,by rw[HO.o];rfl⟩,?_⟩
  ·simp[results,Tryz.f75,go_sem,y0,y1,y2,y3]
  ·exact ar X0.o (by omega) _ _ _ _
 obtain⟨m,hm⟩:∃m:Nat,p.n=(m:Int):=⟨p.n.toNat,by omega⟩;have gD:m<given.length:=by omega
 have JT:(m:Int)<(given.length:Int):=by omega
 have Mp:(0:Int)≤(m:Int):=by omega
 rw[hm] at c1 Hn;clear hm h3 h4;obtain⟨b,o,eG,hbl,q0,q1,q2,q3⟩:=HG.o.at_ gD;have Ha:=aa (hg.all _ (ahh gD));have vH:ahg (bm x.ag x.insts given p=(some (given[m]'gD)).filter eQ):=aa (by rw[HP.o,Hn.o,mG _ _ gD]);clear Hn;subst eG;generalize given[m]'gD=a at *;have X5:ahg (Ext w (dQ W (w.heap.size+1+1+1) a)):=aa (kF X0.o (by omega) a);have B5:ahg (aY (dQ W (w.heap.size+1+1+1) a) (w.heap.size+1+1+1) a):=aa (di B4.o a);have B6:ahg ((dQ W (w.heap.size+1+1+1) a).heap[w.heap.size+1+1]?=some (.cells #[.string ⟨#[]⟩,.string ⟨#[]⟩,.int .i64 0,.slice none 0 0] 55)):=aa ((dH a (by omega)).trans B3.o);have HL:=aa (oI.o a Ha.o _ X5.o);go_enter Tryz.func75,Tryz.ntmps75;go_upto_region 3 with fail;rw[HW.o];clear HW;cases hb:eQ a
 ·rw[hb] at HL;have HO:ahg (bm x.ag x.insts given p=none):=aa (by rw[vH.o,Option.filter_some,if_neg (by rw[hb];decide)]);clear hb;go_wp2_with fail;refine HL.o.o.mono ?_;rintro e w2 ⟨rfl,hx⟩;have X6:=aa (X5.o.trans hx);have B7:=aa (B5.o.ext hx);have B8:=aa ((hx.heap (ae B6.o)).trans B6.o);clear hx;obtain⟨a0,a1,a2,a3⟩:=B7.o.cells;obtain⟨y0,y1,y2,y3,dY,dZ,ee,eh⟩:=ax B8.o;have Bp:=B7.o.lt;go_wp2;refine bodyPost_ret (v:=.tuple #[.agg #[encStr a.cls,encStr a.ty.aq,.int .i64 a.ty.var,.slice a.ty.A a.ty.args.length a.ty.cap],(.iface 140 (.agg #[.int .i64 1]))]) ?_ rfl ⟨⟨a,_,rfl,by rw[HO.o];rfl⟩,?_⟩
  ·simp[results,Tryz.f75,go_sem,y0,y1,y2,y3]
  ·exact ar X6.o (by omega) _ _ _ _
 ·rw[hb] at HL;have HO:ahg (bm x.ag x.insts given p=some a):=aa (by rw[vH.o,Option.filter_some,if_pos hb]);clear hb;go_wp2_with fail;refine HL.o.o.mono ?_;rintro e w2 ⟨rfl,hx⟩;have X6:=aa (X5.o.trans hx);have B7:=aa (B5.o.ext hx);have B8:=aa ((hx.heap (ae B6.o)).trans B6.o);clear hx;obtain⟨a0,a1,a2,a3⟩:=B7.o.cells;obtain⟨y0,y1,y2,y3,dY,dZ,ee,eh⟩:=ax B8.o;have Bp:=B7.o.lt;go_wp2;refine bodyPost_ret (v:=.tuple #[.agg #[encStr a.cls,encStr a.ty.aq,.int .i64 a.ty.var,.slice a.ty.A a.ty.args.length a.ty.cap],.nilIface]) ?_ rfl ⟨⟨a,_,rfl,by rw[HO.o];exact⟨rfl,rfl⟩⟩,?_⟩
  ·simp[results,Tryz.f75,go_sem,y0,y1,y2,y3]
  ·exact ar X6.o (by omega) _ _ _ _
theorem JU (x:dz) (G:Option Addr) (gc:Nat) (given:List Pd) (p:Pf) (uX:(p.kind == 1)=false) (hk:(p.kind == 2)=true) (HC:pN x G gc given 122 (cx x.ag p (p.kids.map (bm x.ag x.insts given))) p):pN x G gc given 75 (bm x.ag x.insts given p) p:=by
 intro w he hg hp;obtain⟨W,hW⟩:∃W,W=(((w.alloc (.cells #[.slice x.D x.aA.length x.dc,.slice x.C x.ag.length x.cc,.slice x.I x.insts.length x.ic] 26)).alloc (.cells #[.int .i64 p.kind,.int .i64 p.n,.slice p.T p.types.length p.tc,.slice p.A p.kids.length p.cap] 34)).alloc (.cells #[.string ⟨#[]⟩,.string ⟨#[]⟩,.int .i64 0,.slice none 0 0] 55)).alloc (.cells #[.string ⟨#[]⟩,.string ⟨#[]⟩,.int .i64 0,.slice none 0 0] 55):=⟨_,rfl⟩;have HW:=aa hW.symm;have X0:ahg (Ext w W):=aa (by rw[hW];exact((((eR _).alloc _).alloc _).alloc _).alloc _);have B1:ahg (aJ W w.heap.size x):=aa (by rw[hW];exact(aJ.new w x).ext ((((eR _).alloc _).alloc _).alloc _));have B2:ahg (aO W (w.heap.size+1) p):=aa (by rw[hW];exact aO.ext (ah _ _ _ (by simp)) (((eR _).alloc _).alloc _));have B3:ahg (W.heap[w.heap.size+1+1]?=some (.cells #[.string ⟨#[]⟩,.string ⟨#[]⟩,.int .i64 0,.slice none 0 0] 55)):=aa (by rw[hW];exact(((eR _).alloc _).heap (by simp)).trans (ah _ _ _ (by simp)));have B4:ahg (W.heap[w.heap.size+1+1+1]?=some (.cells #[.string ⟨#[]⟩,.string ⟨#[]⟩,.int .i64 0,.slice none 0 0] 55)):=aa (by rw[hW];exact ah _ _ _ (by simp));have HP:=aa (ew x.ag x.insts given p);have bS:ahg (W.heap.size=w.heap.size+4):=aa (by rw[hW];simp);obtain⟨c0,c1,c2,c3⟩:=B2.o.cells;obtain⟨e0,e1,e2⟩:=B1.o.cells;obtain⟨y0,y1,y2,y3,dY,dZ,ee,eh⟩:=ax B3.o;obtain⟨z0,z1,z2,z3,iE,iF,iG,iH⟩:=ax B4.o;have HG:=aa (hg.ext X0.o);have oI:=aa (fun(a:Pd) (ha:eV w a) w' (e:Ext w w')=>aa (j4 a w' (ha.ext e)));clear hW;unfold eX cr;have vH:ahg (bm x.ag x.insts given p=(cx x.ag p (p.kids.map (bm x.ag x.insts given))).filter eQ):=aa (by rw[HP.o];unfold gC;rw[if_neg (by simpa using uX),if_pos (by simpa using hk)]);have HA:=aa (HC W (he.ext X0.o) (hg.ext X0.o) (hp.ext X0.o));have nt:ahg (∀a,cx x.ag p (p.kids.map (bm x.ag x.insts given))=some a→eV w a):=aa (fun a ha=>vG he hg hp ha);clear HC HG;unfold eX cr at HA;generalize cx x.ag p (p.kids.map (bm x.ag x.insts given))=O at *;go_enter Tryz.func75,Tryz.ntmps75;go_upto_region 3 with fail;rw[HW.o];clear HW;go_wp2_with fail;refine HA.o.mono ?_;rintro e w1 ⟨⟨q,er,rfl,bP⟩,hx1⟩;have X1:=aa (X0.o.trans hx1);have B3:=aa ((hx1.heap (ae B3.o)).trans B3.o);have B4:=aa ((hx1.heap (ae B4.o)).trans B4.o);have ZG:=ae B4.o;clear hx1 y0 y1 y2 y3 dY dZ ee eh z0 z1 z2 z3 iE iF iG iH;obtain⟨y0,y1,y2,y3,dY,dZ,ee,eh⟩:=ax B3.o;obtain⟨z0,z1,z2,z3,iE,iF,iG,iH⟩:=ax B4.o;cases O with
 |none=>
  obtain rfl:=bP.none;have HO:ahg (bm x.ag x.insts given p=none):=aa (by rw[vH.o];rfl);clear bP;go_wp2;refine bodyPost_ret (v:=.tuple #[.agg #[encStr q.cls,encStr q.ty.aq,.int .i64 q.ty.var,.slice q.ty.A q.ty.args.length q.ty.cap],(.iface 140 (.agg #[.int .i64 1]))]) ?_ rfl ⟨⟨q,_,rfl,by rw[HO.o];rfl⟩,?_⟩
  ·simp[results,Tryz.f75,go_sem,y0,y1,y2,y3]
  ·exact ar (ar X1.o (by omega) _ _ _ _) (by omega) _ _ _ _
 |some a=>
  obtain⟨rfl,rfl⟩:=bP.some;have Ha:=aa (nt.o _ rfl);rename Pd=>a
  have X5:ahg (Ext w (dQ w1 (w.heap.size+1+1+1) a)):=aa (kF X1.o (by omega) a);have B5:ahg (aY (dQ w1 (w.heap.size+1+1+1) a) (w.heap.size+1+1+1) a):=aa (di B4.o a);have B6:ahg ((dQ w1 (w.heap.size+1+1+1) a).heap[w.heap.size+1+1]?=some (.cells #[.string ⟨#[]⟩,.string ⟨#[]⟩,.int .i64 0,.slice none 0 0] 55)):=aa ((dH a (by omega)).trans B3.o);have HL:=aa (oI.o a Ha.o _ X5.o);cases hb:eQ a
  ·rw[hb] at HL;have HO:ahg (bm x.ag x.insts given p=none):=aa (by rw[vH.o,Option.filter_some,if_neg (by rw[hb];decide)]);clear hb;go_wp2_with fail;refine HL.o.o.mono ?_;rintro e w2 ⟨rfl,hx⟩;have X6:=aa (X5.o.trans hx);have B7:=aa (B5.o.ext hx);have B8:=aa ((hx.heap (ae B6.o)).trans B6.o);clear hx;obtain⟨a0,a1,a2,a3⟩:=B7.o.cells;obtain⟨y0,y1,y2,y3,dY,dZ,ee,eh⟩:=ax B8.o;have Bp:=B7.o.lt;go_wp2;refine bodyPost_ret (v:=.tuple #[.agg #[encStr a.cls,encStr a.ty.aq,.int .i64 a.ty.var,.slice a.ty.A a.ty.args.length a.ty.cap],(.iface 140 (.agg #[.int .i64 1]))]) ?_ rfl ⟨⟨a,_,rfl,by rw[HO.o];rfl⟩,?_⟩
   ·simp[results,Tryz.f75,go_sem,y0,y1,y2,y3]
   ·exact ar X6.o (by omega) _ _ _ _
  ·rw[hb] at HL;have HO:ahg (bm x.ag x.insts given p=some a):=aa (by rw[vH.o,Option.filter_some,if_pos hb]);clear hb;go_wp2_with fail;refine HL.o.o.mono ?_;rintro e w2 ⟨rfl,hx⟩;have X6:=aa (X5.o.trans hx);have B7:=aa (B5.o.ext hx);have B8:=aa ((hx.heap (ae B6.o)).trans B6.o);clear hx;obtain⟨a0,a1,a2,a3⟩:=B7.o.cells;obtain⟨y0,y1,y2,y3,dY,dZ,ee,eh⟩:=ax B8.o;have Bp:=B7.o.lt;go_wp2;refine bodyPost_ret (v:=.tuple #[.agg #[encStr a.cls,encStr a.ty.aq,.int .i64 a.ty.var,.slice a.ty.A a.ty.args.length a.ty.cap],.nilIface]) ?_ rfl ⟨⟨a,_,rfl,by rw[HO.o];exact⟨rfl,rfl⟩⟩,?_⟩
   ·simp[results,Tryz.f75,go_sem,y0,y1,y2,y3]
   ·exact ar X6.o (by omega) _ _ _ _
theorem JV (x:dz) (G:Option Addr) (gc:Nat) (given:List Pd) (p:Pf) (uX:(p.kind == 1)=false) (hk2:(p.kind == 2)=false) (hk:(p.kind == 3)=true) (HC:pN x G gc given 123 (bZ x.insts p (p.kids.map (bm x.ag x.insts given))) p):pN x G gc given 75 (bm x.ag x.insts given p) p:=by
 intro w he hg hp;obtain⟨W,hW⟩:∃W,W=(((w.alloc (.cells #[.slice x.D x.aA.length x.dc,.slice x.C x.ag.length x.cc,.slice x.I x.insts.length x.ic] 26)).alloc (.cells #[.int .i64 p.kind,.int .i64 p.n,.slice p.T p.types.length p.tc,.slice p.A p.kids.length p.cap] 34)).alloc (.cells #[.string ⟨#[]⟩,.string ⟨#[]⟩,.int .i64 0,.slice none 0 0] 55)).alloc (.cells #[.string ⟨#[]⟩,.string ⟨#[]⟩,.int .i64 0,.slice none 0 0] 55):=⟨_,rfl⟩;have HW:=aa hW.symm;have X0:ahg (Ext w W):=aa (by rw[hW];exact((((eR _).alloc _).alloc _).alloc _).alloc _);have B1:ahg (aJ W w.heap.size x):=aa (by rw[hW];exact(aJ.new w x).ext ((((eR _).alloc _).alloc _).alloc _));have B2:ahg (aO W (w.heap.size+1) p):=aa (by rw[hW];exact aO.ext (ah _ _ _ (by simp)) (((eR _).alloc _).alloc _));have B3:ahg (W.heap[w.heap.size+1+1]?=some (.cells #[.string ⟨#[]⟩,.string ⟨#[]⟩,.int .i64 0,.slice none 0 0] 55)):=aa (by rw[hW];exact(((eR _).alloc _).heap (by simp)).trans (ah _ _ _ (by simp)));have B4:ahg (W.heap[w.heap.size+1+1+1]?=some (.cells #[.string ⟨#[]⟩,.string ⟨#[]⟩,.int .i64 0,.slice none 0 0] 55)):=aa (by rw[hW];exact ah _ _ _ (by simp));have HP:=aa (ew x.ag x.insts given p);have bS:ahg (W.heap.size=w.heap.size+4):=aa (by rw[hW];simp);obtain⟨c0,c1,c2,c3⟩:=B2.o.cells;obtain⟨e0,e1,e2⟩:=B1.o.cells;obtain⟨y0,y1,y2,y3,dY,dZ,ee,eh⟩:=ax B3.o;obtain⟨z0,z1,z2,z3,iE,iF,iG,iH⟩:=ax B4.o;have HG:=aa (hg.ext X0.o);have oI:=aa (fun(a:Pd) (ha:eV w a) w' (e:Ext w w')=>aa (j4 a w' (ha.ext e)));clear hW;unfold eX cr;have vH:ahg (bm x.ag x.insts given p=(bZ x.insts p (p.kids.map (bm x.ag x.insts given))).filter eQ):=aa (by rw[HP.o];unfold gC;rw[if_neg (by simpa using uX),if_neg (by simpa using hk2),if_pos (by simpa using hk)]);have HA:=aa (HC W (he.ext X0.o) (hg.ext X0.o) (hp.ext X0.o));have nt:ahg (∀a,bZ x.insts p (p.kids.map (bm x.ag x.insts given))=some a→eV w a):=aa (fun a ha=>zR he hp ha);clear HC HG;unfold eX cr at HA;generalize bZ x.insts p (p.kids.map (bm x.ag x.insts given))=O at *;go_enter Tryz.func75,Tryz.ntmps75;go_upto_region 3 with fail;rw[HW.o];clear HW;go_wp2_with fail;refine HA.o.mono ?_;rintro e w1 ⟨⟨q,er,rfl,bP⟩,hx1⟩;have X1:=aa (X0.o.trans hx1);have B3:=aa ((hx1.heap (ae B3.o)).trans B3.o);have B4:=aa ((hx1.heap (ae B4.o)).trans B4.o);have ZG:=ae B4.o;clear hx1 y0 y1 y2 y3 dY dZ ee eh z0 z1 z2 z3 iE iF iG iH;obtain⟨y0,y1,y2,y3,dY,dZ,ee,eh⟩:=ax B3.o;obtain⟨z0,z1,z2,z3,iE,iF,iG,iH⟩:=ax B4.o;cases O with
 |none=>
  obtain rfl:=bP.none;have HO:ahg (bm x.ag x.insts given p=none):=aa (by rw[vH.o];rfl);clear bP;go_wp2;refine bodyPost_ret (v:=.tuple #[.agg #[encStr q.cls,encStr q.ty.aq,.int .i64 q.ty.var,.slice q.ty.A q.ty.args.length q.ty.cap],(.iface 140 (.agg #[.int .i64 1]))]) ?_ rfl ⟨⟨q,_,rfl,by rw[HO.o];rfl⟩,?_⟩
  ·simp[results,Tryz.f75,go_sem,y0,y1,y2,y3]
  ·exact ar (ar X1.o (by omega) _ _ _ _) (by omega) _ _ _ _
 |some a=>
  obtain⟨rfl,rfl⟩:=bP.some;have Ha:=aa (nt.o _ rfl);rename Pd=>a
  have X5:ahg (Ext w (dQ w1 (w.heap.size+1+1+1) a)):=aa (kF X1.o (by omega) a);have B5:ahg (aY (dQ w1 (w.heap.size+1+1+1) a) (w.heap.size+1+1+1) a):=aa (di B4.o a);have B6:ahg ((dQ w1 (w.heap.size+1+1+1) a).heap[w.heap.size+1+1]?=some (.cells #[.string ⟨#[]⟩,.string ⟨#[]⟩,.int .i64 0,.slice none 0 0] 55)):=aa ((dH a (by omega)).trans B3.o);have HL:=aa (oI.o a Ha.o _ X5.o);cases hb:eQ a
  ·rw[hb] at HL;have HO:ahg (bm x.ag x.insts given p=none):=aa (by rw[vH.o,Option.filter_some,if_neg (by rw[hb];decide)]);clear hb;go_wp2_with fail;refine HL.o.o.mono ?_;rintro e w2 ⟨rfl,hx⟩;have X6:=aa (X5.o.trans hx);have B7:=aa (B5.o.ext hx);have B8:=aa ((hx.heap (ae B6.o)).trans B6.o);clear hx;obtain⟨a0,a1,a2,a3⟩:=B7.o.cells;obtain⟨y0,y1,y2,y3,dY,dZ,ee,eh⟩:=ax B8.o;have Bp:=B7.o.lt;go_wp2;refine bodyPost_ret (v:=.tuple #[.agg #[encStr a.cls,encStr a.ty.aq,.int .i64 a.ty.var,.slice a.ty.A a.ty.args.length a.ty.cap],(.iface 140 (.agg #[.int .i64 1]))]) ?_ rfl ⟨⟨a,_,rfl,by rw[HO.o];rfl⟩,?_⟩
   ·simp[results,Tryz.f75,go_sem,y0,y1,y2,y3]
   ·exact ar X6.o (by omega) _ _ _ _
  ·rw[hb] at HL;have HO:ahg (bm x.ag x.insts given p=some a):=aa (by rw[vH.o,Option.filter_some,if_pos hb]);clear hb;go_wp2_with fail;refine HL.o.o.mono ?_;rintro e w2 ⟨rfl,hx⟩;have X6:=aa (X5.o.trans hx);have B7:=aa (B5.o.ext hx);have B8:=aa ((hx.heap (ae B6.o)).trans B6.o);clear hx;obtain⟨a0,a1,a2,a3⟩:=B7.o.cells;obtain⟨y0,y1,y2,y3,dY,dZ,ee,eh⟩:=ax B8.o;have Bp:=B7.o.lt;go_wp2;refine bodyPost_ret (v:=.tuple #[.agg #[encStr a.cls,encStr a.ty.aq,.int .i64 a.ty.var,.slice a.ty.A a.ty.args.length a.ty.cap],.nilIface]) ?_ rfl ⟨⟨a,_,rfl,by rw[HO.o];exact⟨rfl,rfl⟩⟩,?_⟩
   ·simp[results,Tryz.f75,go_sem,y0,y1,y2,y3]
   ·exact ar X6.o (by omega) _ _ _ _
theorem Nv (x:dz) (G:Option Addr) (gc:Nat) (given:List Pd) (p:Pf) (uX:(p.kind == 1)=false) (hk2:(p.kind == 2)=false) (hk3:(p.kind == 3)=false):pN x G gc given 75 (bm x.ag x.insts given p) p:=by
 intro w he hg hp;obtain⟨W,hW⟩:∃W,W=(((w.alloc (.cells #[.slice x.D x.aA.length x.dc,.slice x.C x.ag.length x.cc,.slice x.I x.insts.length x.ic] 26)).alloc (.cells #[.int .i64 p.kind,.int .i64 p.n,.slice p.T p.types.length p.tc,.slice p.A p.kids.length p.cap] 34)).alloc (.cells #[.string ⟨#[]⟩,.string ⟨#[]⟩,.int .i64 0,.slice none 0 0] 55)).alloc (.cells #[.string ⟨#[]⟩,.string ⟨#[]⟩,.int .i64 0,.slice none 0 0] 55):=⟨_,rfl⟩;have HW:=aa hW.symm;have X0:ahg (Ext w W):=aa (by rw[hW];exact((((eR _).alloc _).alloc _).alloc _).alloc _);have B1:ahg (aJ W w.heap.size x):=aa (by rw[hW];exact(aJ.new w x).ext ((((eR _).alloc _).alloc _).alloc _));have B2:ahg (aO W (w.heap.size+1) p):=aa (by rw[hW];exact aO.ext (ah _ _ _ (by simp)) (((eR _).alloc _).alloc _));have B3:ahg (W.heap[w.heap.size+1+1]?=some (.cells #[.string ⟨#[]⟩,.string ⟨#[]⟩,.int .i64 0,.slice none 0 0] 55)):=aa (by rw[hW];exact(((eR _).alloc _).heap (by simp)).trans (ah _ _ _ (by simp)));have B4:ahg (W.heap[w.heap.size+1+1+1]?=some (.cells #[.string ⟨#[]⟩,.string ⟨#[]⟩,.int .i64 0,.slice none 0 0] 55)):=aa (by rw[hW];exact ah _ _ _ (by simp));have HP:=aa (ew x.ag x.insts given p);have bS:ahg (W.heap.size=w.heap.size+4):=aa (by rw[hW];simp);obtain⟨c0,c1,c2,c3⟩:=B2.o.cells;obtain⟨e0,e1,e2⟩:=B1.o.cells;obtain⟨y0,y1,y2,y3,dY,dZ,ee,eh⟩:=ax B3.o;obtain⟨z0,z1,z2,z3,iE,iF,iG,iH⟩:=ax B4.o;have HG:=aa (hg.ext X0.o);have oI:=aa (fun(a:Pd) (ha:eV w a) w' (e:Ext w w')=>aa (j4 a w' (ha.ext e)));clear hW;unfold eX cr;have HO:ahg (bm x.ag x.insts given p=none):=aa (by rw[HP.o];unfold gC;rw[if_neg (by simpa using uX),if_neg (by simpa using hk2),if_neg (by simpa using hk3)];rfl);clear HG oI;go_enter Tryz.func75,Tryz.ntmps75;go_upto_region 3 with fail;rw[HW.o];clear HW;go_wp2;refine bodyPost_ret (v:=.tuple #[.agg #[.string ⟨#[]⟩,.string ⟨#[]⟩,.int .i64 0,.slice none 0 0],(.iface 140 (.agg #[.int .i64 1]))]) ?_ rfl ⟨⟨⟨[],Ty.zero⟩,_,rfl,by rw[HO.o];rfl⟩,?_⟩
 ·simp[results,Tryz.f75,go_sem,y0,y1,y2,y3]
 ·exact ar X0.o (by omega) _ _ _ _
set_option maxRecDepth 512
set_option maxHeartbeats 200000
theorem zp {a y:World}{B:Nat}(e:Ext a y) (h:a.heap[B]?=some (.cells #[.string ⟨#[]⟩,.string ⟨#[]⟩,.int .i64 0,.slice none 0 0] 55)) :
  y.cell? ⟨B,0,none⟩=some (.string ⟨#[]⟩)∧y.cell? ⟨B,1,none⟩=some (.string ⟨#[]⟩)∧y.cell? ⟨B,2,none⟩=some (.int .i64 0)∧y.cell? ⟨B,3,none⟩=some (.slice none 0 0)∧y.frozen? ⟨B,0,none⟩=false∧y.frozen? ⟨B,1,none⟩=false∧y.frozen? ⟨B,2,none⟩=false∧y.frozen? ⟨B,3,none⟩=false∧B<y.heap.size:=by
 have hb:=(e.heap (ae h)).trans h;obtain⟨h0,h1,h2,h3,h4,h5,h6,h7⟩:=ax hb;exact⟨h0,h1,h2,h3,h4,h5,h6,h7,ae hb⟩
theorem cn (w:World) (o:Obj):(w.alloc o).drew.heap[w.heap.size]?=some o:=ah w o w.heap.size rfl
theorem aV {y:World}{B b i:Nat}(h:b≠B) (v0 v1 v2 v3:Value){u:Value}(k:y.cell? ⟨b,i,none⟩=some u):((((y.setCell ⟨B,0,none⟩ v0).setCell ⟨B,1,none⟩ v1).setCell ⟨B,2,none⟩ v2).setCell ⟨B,3,none⟩ v3).cell? ⟨b,i,none⟩=some u:=by
 refine(World.cell?_of_block (a:=⟨b,i,none⟩) ?_).trans k;show((((y.setCell ⟨B,0,none⟩ v0).setCell ⟨B,1,none⟩ v1).setCell ⟨B,2,none⟩ v2).setCell ⟨B,3,none⟩ v3).heap[b]?=y.heap[b]?;rw[Below.heap_setCell _ _ _ _ h,Below.heap_setCell _ _ _ _ h,Below.heap_setCell _ _ _ _ h,Below.heap_setCell _ _ _ _ h]
theorem P1 {W a y:World}{B:Nat}(h1:Ext W a) (e:Ext a y) (hB:W.heap.size≤B) (h:a.heap[B]?=some (.cells #[.string ⟨#[]⟩,.string ⟨#[]⟩,.int .i64 0,.slice none 0 0] 55)) (q:Pd):Ext W (dQ y B q)∧aY (dQ y B q) B q:=
 ⟨kF (h1.trans e) hB q,di ((e.heap (ae h)).trans h) q⟩
set_option maxRecDepth 10000
set_option maxHeartbeats 8000000
theorem JW (x:dz) (G:Option Addr) (gc:Nat) (given:List Pd) (p:Pf) (ih:∀k∈p.kids,pN x G gc given 75 (bm x.ag x.insts given k) k) :
  pN x G gc given 122 (cx x.ag p (p.kids.map (bm x.ag x.insts given))) p:=by
 intro w he hg hp;obtain⟨W,hW⟩:∃W,W=((w.alloc (.cells #[.slice x.D x.aA.length x.dc,.slice x.C x.ag.length x.cc,.slice x.I x.insts.length x.ic] 26)).alloc (.cells #[.int .i64 p.kind,.int .i64 p.n,.slice p.T p.types.length p.tc,.slice p.A p.kids.length p.cap] 34)).alloc (.cells #[.string ⟨#[]⟩,.string ⟨#[]⟩,.int .i64 0,.slice none 0 0] 55):=⟨_,rfl⟩;have HW:=aa hW.symm;have X0:ahg (Ext w W):=aa (by rw[hW];exact(((eR _).alloc _).alloc _).alloc _);have B1:ahg (aJ W w.heap.size x):=aa (by rw[hW];exact(aJ.new w x).ext (((eR _).alloc _).alloc _));have B2:ahg (aO W (w.heap.size+1) p):=aa (by rw[hW];exact aO.ext (ah _ _ _ (by simp)) ((eR _).alloc _));have B3:ahg (W.heap[w.heap.size+1+1]?=some (.cells #[.string ⟨#[]⟩,.string ⟨#[]⟩,.int .i64 0,.slice none 0 0] 55)):=aa (by rw[hW];exact ah _ _ _ (by simp));have bS:ahg (W.heap.size=w.heap.size+3):=aa (by rw[hW];simp);obtain⟨c0,c1,c2,c3⟩:=B2.o.cells;obtain⟨e0,e1,e2⟩:=B1.o.cells;obtain⟨y0,y1,y2,y3,dY,dZ,ee,eh⟩:=ax B3.o;clear hW;unfold eX cr
 by_cases hk:(p.kids.length:Int)=1
 ·by_cases ht:0<p.types.length
  ·have HO:ahg (cx x.ag p (p.kids.map (bm x.ag x.insts given))=none):=aa (by unfold cx;rw[if_neg (by omega)]);generalize p.kids.length=kl at *;obtain rfl:kl=1:=by omega
   go_enter Tryz.func122,Tryz.ntmps122;go_upto_region 1 with fail;rw[HW.o];clear HW;go_wp2;refine bodyPost_ret (v:=.tuple #[.agg #[.string ⟨#[]⟩,.string ⟨#[]⟩,.int .i64 0,.slice none 0 0],(.iface 140 (.agg #[.int .i64 1]))]) ?_ rfl ⟨⟨⟨[],Ty.zero⟩,_,rfl,by rw[HO.o];rfl⟩,?_⟩
   ·simp[results,Tryz.f122,go_sem,y0,y1,y2,y3]
   ·exact ar X0.o (by omega) _ _ _ _
  have uX:p.kids.length=1:=by omega
  have Nw:p.types.length=0:=by omega
  have h0:0<p.kids.length:=by omega
  have HA:ahg (cx x.ag p (p.kids.map (bm x.ag x.insts given))=(bm x.ag x.insts given (p.kids[0]'h0)).bind fun q=>(xR x.ag q.cls).bind fun c=>(om c.cM p.n).map fun s=>(⟨s,q.ty⟩:Pd)):=aa (by
   unfold cx;rw[if_pos ⟨uX,Nw⟩];have e:(p.kids.map (bm x.ag x.insts given)).getD 0 none=bm x.ag x.insts given (p.kids[0]'h0):=by simp[List.getD,h0]
   rw[e])
  have HK:=aa (fun w' (e:Ext W w')=>aa (ih _ (ahh h0) w' (he.ext (X0.o.trans e)) (hg.ext (X0.o.trans e)) ((hp.all.kids _ (ahh h0)).ext (X0.o.trans e))));obtain⟨b,o,hA,hb,q0,q1,q2,q3⟩:=(hp.all.ext X0.o).at_ h0;have xX:=aa he;have sx:=aa (fun(c:dK) (hc:c∈x.ag)=>(he.ag.all c hc));rw[uX,hA] at c3;rw[Nw] at c2;rw[uX,Nw,hA] at HW ⊢;clear uX Nw hA ih hk ht hp hg;generalize cx x.ag p (p.kids.map (bm x.ag x.insts given))=R at *;simp only[Nat.zero_mul,Nat.add_zero] at q0 q1 q2 q3;generalize p.kids[0]'h0=kid at *;have fk:=aa (fun w' (e:Ext W w')=>ahk (e.cell e0) (ahk (e.cell e1) (ahk (e.cell e2) (ahk (e.cell c3) (ahk (e.cell q0) (ahk (e.cell q1) (ahk (e.cell q2) (e.cell q3))))))));generalize bm x.ag x.insts given kid=O at *;clear h0;unfold eX cr jC at HK;have jL:w.heap.size<W.heap.size:=by rw[bS.o];omega
  have nu:w.heap.size+1<W.heap.size:=by rw[bS.o];omega
  have kY:w.heap.size≠W.heap.size:=by omega
  have Ev:w.heap.size+1≠W.heap.size:=by omega
  have Bq:b≠W.heap.size:=by omega
  go_enter Tryz.func122,Tryz.ntmps122;go_upto_region 1 with fail;rw[HW.o];clear HW;go_upto_region 3 with fail
  go_cut [8,9] (fun s8 s9 wx=>∃(b8:Nat) (q:Pd),s8=.pointer (some ⟨b8,0,none⟩)∧sw O q s9∧W.heap.size≤b8∧ahg (Ext W wx)∧ahg (aY wx b8 q))
  case first=>
   go_region_held3 (fun w'=>w'.cell? ⟨w.heap.size,0,none⟩=some (.slice x.D x.aA.length x.dc)∧w'.cell? ⟨w.heap.size,1,none⟩=some (.slice x.C x.ag.length x.cc)∧w'.cell? ⟨w.heap.size,2,none⟩=some (.slice x.I x.insts.length x.ic)∧w'.cell? ⟨w.heap.size+1,3,none⟩=some (.slice (some ⟨b,o,none⟩) 1 p.cap)∧w'.cell? ⟨b,o,none⟩=some (.int .i64 kid.kind)∧w'.cell? ⟨b,o+1,none⟩=some (.int .i64 kid.n)∧w'.cell? ⟨b,o+2,none⟩=some (.slice kid.T kid.types.length kid.tc)∧w'.cell? ⟨b,o+3,none⟩=some (.slice kid.A kid.kids.length kid.cap)) (first|with_reducible assumption|(obtain⟨g1,g2,g3,g4,g5,g6,g7,g8⟩:=kS;with_reducible exact⟨aV kY _ _ _ _ g1,aV kY _ _ _ _ g2,aV kY _ _ _ _ g3,aV Ev _ _ _ _ g4,aV Bq _ _ _ _ g5,aV Bq _ _ _ _ g6,aV Bq _ _ _ _ g7,aV Bq _ _ _ _ g8⟩)|go_keep) (first
    |(
     go_at_call 75
     refine Calls.mono (HK.o _ ?e).o ?_
     (case e=>exact(by repeat(first|exact eR _|exact eA (by assumption) _|refine eA ?_ _|refine eM ?_ _ _|refine eD ?_|refine eN ?_ _)))
     rintro e y ⟨⟨q,er,rfl,bP⟩,jQ⟩;have kS:=fk.o y (by refine Ext.trans ?_ jQ;exact(by repeat(first|exact eR _|exact eA (by assumption) _|refine eA ?_ _|refine eM ?_ _ _|refine eD ?_|refine eN ?_ _)))
     (try (have zz:=zp jQ (B:=W.heap.size) (by with_reducible exact cn W _);obtain⟨z0,z1,z2,z3,z4,z5,z6,z7,z8⟩:=zz))))
   all_goals (go_wp2_with fail;go_meet;first
    |exact⟨y.heap.size,q,rfl,bP,aho (ahi _) ((eR W).drew.trans jQ).size,aa (((eR W).drew.trans jQ).alloc _),aa (ah _ _ _ rfl)⟩
    |exact⟨W.heap.size,q,rfl,bP,ahi _,aa ((P1 (((eR W).alloc _).drew) jQ (ahi _) (ah W _ _ rfl) _).1),aa ((P1 (((eR W).alloc _).drew) jQ (ahi _) (ah W _ _ rfl) _).2)⟩)
  case rest=>
   obtain⟨b8,q,rfl,bP,QX,HX,I7⟩:=hcut;have X1:=aa (X0.o.trans HX.o);have B3:=aa ((HX.o.heap (ae B3.o)).trans B3.o);have B1:=aa (B1.o.ext HX.o);have B2:=aa (B2.o.ext HX.o);have hbl:=I7.o.lt;clear c0 c1 c2 c3 e0 e1 e2 y0 y1 y2 y3 dY dZ ee eh q0 q1 q2 q3 fk HK;obtain⟨a0,a1,a2,a3⟩:=I7.o.cells;have Ux:=I7.o.free 0;obtain⟨e0,e1,e2⟩:=B1.o.cells;obtain⟨y0,y1,y2,y3,dY,dZ,ee,eh⟩:=ax B3.o;cases O with
   |none=>
    obtain rfl:=bP.none;have hR:R=none:=HA.o;clear bP HA;subst hR;go_wp2;refine bodyPost_ret (v:=.tuple #[.agg #[.string ⟨#[]⟩,.string ⟨#[]⟩,.int .i64 0,.slice none 0 0],(.iface 140 (.agg #[.int .i64 1]))]) ?_ rfl ⟨⟨⟨[],Ty.zero⟩,_,rfl,rfl⟩,?_⟩
    ·simp[results,Tryz.f122,go_sem,y0,y1,y2,y3]
    ·exact ar X1.o (by omega) _ _ _ _
   |some a=>
    obtain⟨rfl,rfl⟩:=bP.some;clear bP;rename Pd=>a
    have HC:=aa (Eu x a.cls _ (xX.o.ext X1.o));have mj:=aa (fun c (hc:xR x.ag a.cls=some c)=>sx.o c (tW hc));have HR:ahg (R=(xR x.ag a.cls).bind fun c=>(om c.cM p.n).map fun s=>(⟨s,a.ty⟩:Pd)):=aa HA.o;clear sx HA;unfold eX at HC;generalize xR x.ag a.cls=F at *;obtain⟨c0,c1,-,-⟩:=B2.o.cells;cases F with
    |none=>
     have hR:R=none:=HR.o;clear HR;subst hR;go_wp2_with fail;refine HC.o.mono ?_;rintro e w4 ⟨rfl,eP⟩;have X4:=aa (X1.o.trans eP);have B5:=aa ((eP.heap (ae B3.o)).trans B3.o);obtain⟨z0,z1,z2,z3,iE,iF,iG,iH⟩:=ax B5.o;have P2:=ae B5.o;clear eP;simp only[Option.getD_none,dK.zero,Option.isSome_none];go_wp2;refine bodyPost_ret (v:=.tuple #[.agg #[.string ⟨#[]⟩,.string ⟨#[]⟩,.int .i64 0,.slice none 0 0],(.iface 140 (.agg #[.int .i64 1]))]) ?_ rfl ⟨⟨⟨[],Ty.zero⟩,_,rfl,rfl⟩,?_⟩
     ·simp[results,Tryz.f122,go_sem,z0,z1,z2,z3,P2]
     ·refine Ext.alloc ?_ _;exact ar X4.o (by omega) _ _ _ _
    |some c=>
     have Hc:=aa (mj.o c rfl);have dJ:ahg (R=(om c.cM p.n).map fun s=>(⟨s,a.ty⟩:Pd)):=aa HR.o;clear mj HR;go_wp2_with fail;refine HC.o.mono ?_;rintro e w4 ⟨rfl,eP⟩;have X4:=aa (X1.o.trans eP);have B5:=aa ((eP.heap (ae B3.o)).trans B3.o);obtain⟨z0,z1,z2,z3,iE,iF,iG,iH⟩:=ax B5.o;have P2:=ae B5.o;have B6:=aa (I7.o.ext eP);have hz6:=B6.o.lt;obtain⟨a0,a1,a2,a3⟩:=B6.o.cells;have Ux:=B6.o.free 0;have B7:=aa (B2.o.ext eP);have hz7:=B7.o.lt;obtain⟨d0,d1,-,-⟩:=B7.o.cells;have Hc4:=aa (Hc.o.ext X4.o);clear eP c0 c1 e0 e1 e2 y0 y1 y2 y3 dY dZ ee eh;simp only[Option.getD_some,Option.isSome_some]
     by_cases hn:p.n<0
     ·have hR:R=none:=by rw[dJ.o,dh (by omega)];rfl
      clear dJ;subst hR;go_wp2;refine bodyPost_ret (v:=.tuple #[.agg #[.string ⟨#[]⟩,.string ⟨#[]⟩,.int .i64 0,.slice none 0 0],(.iface 140 (.agg #[.int .i64 1]))]) ?_ rfl ⟨⟨⟨[],Ty.zero⟩,_,rfl,rfl⟩,?_⟩
      ·simp[results,Tryz.f122,go_sem,z0,z1,z2,z3,P2]
      ·refine Ext.alloc ?_ _;exact ar X4.o (by omega) _ _ _ _
     by_cases oF:p.n≥(c.cM.length:Int)
     ·have hR:R=none:=by rw[dJ.o,dh (by omega)];rfl
      clear dJ;subst hR;go_wp2;refine bodyPost_ret (v:=.tuple #[.agg #[.string ⟨#[]⟩,.string ⟨#[]⟩,.int .i64 0,.slice none 0 0],(.iface 140 (.agg #[.int .i64 1]))]) ?_ rfl ⟨⟨⟨[],Ty.zero⟩,_,rfl,rfl⟩,?_⟩
      ·simp[results,Tryz.f122,go_sem,z0,z1,z2,z3,P2]
      ·refine Ext.alloc ?_ _;exact ar X4.o (by omega) _ _ _ _
     obtain⟨m,hm⟩:∃m:Nat,p.n=(m:Int):=⟨p.n.toNat,by omega⟩;have gD:m<c.cM.length:=by omega
     have JT:(m:Int)<(c.cM.length:Int):=by omega
     have Mp:(0:Int)≤(m:Int):=by omega
     obtain⟨s,hs⟩:∃s,s=c.cM[m]'gD:=⟨_,rfl⟩;have hR:R=some ⟨s,a.ty⟩:=by rw[dJ.o,hm,mG _ _ gD,hs];rfl
     rw[hm] at d1;clear dJ hn oF;obtain⟨b9,o9,eS,Wd,Nx⟩:=jh.at_ Hc4.o.JG gD;have eg:c.cM.getD m []=s:=by rw[hs];simp[gD]
     rw[eg] at Nx;subst hR;simp only[V8];rw[eS];clear eS eg hm hs;have acg:b8≠w.heap.size+1+1:=by have:=bS.o;omega
     have ra:w.heap.size+1+1≠b8:=by omega
     go_wp2;refine bodyPost_ret (v:=.tuple #[.agg #[encStr s,encStr a.ty.aq,.int .i64 a.ty.var,.slice a.ty.A a.ty.args.length a.ty.cap],.nilIface]) ?_ rfl ⟨⟨⟨s,a.ty⟩,_,rfl,rfl,rfl⟩,?_⟩
     ·simp[results,Tryz.f122,go_sem,z0,z1,z2,z3,P2]
     ·refine Ext.alloc ?_ _;exact ar (X4.o.setCell (by show _≤b8;have:=X0.o.size;omega) _) (by omega) _ _ _ _
 ·have HO:ahg (cx x.ag p (p.kids.map (bm x.ag x.insts given))=none):=aa (by unfold cx;rw[if_neg (by omega)]);have hk2:((p.kids.length:Int) != 1)=true:=by simpa using hk
  generalize p.kids.length=kl at *;go_enter Tryz.func122,Tryz.ntmps122;go_upto_region 1 with fail;rw[HW.o];clear HW;go_wp2;refine bodyPost_ret (v:=.tuple #[.agg #[.string ⟨#[]⟩,.string ⟨#[]⟩,.int .i64 0,.slice none 0 0],(.iface 140 (.agg #[.int .i64 1]))]) ?_ rfl ⟨⟨⟨[],Ty.zero⟩,_,rfl,by rw[HO.o];rfl⟩,?_⟩
  ·simp[results,Tryz.f122,go_sem,y0,y1,y2,y3]
  ·exact ar X0.o (by omega) _ _ _ _
set_option maxRecDepth 512
set_option maxHeartbeats 200000
end Go.Proofs.YtigafbmabjglfaaGreatDoor
