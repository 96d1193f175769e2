import Derived.Test.YtigafbmabjglfaaGreatDoorJA1
import Derived.Maps.AppendAt
import Derived.Deep.AppendLies
import Derived.OwnWalk
import Derived.Sort.EncStr
namespace Go.Proofs.YtigafbmabjglfaaGreatDoor
open Go.RowKit Go.Sort
abbrev aj := List UInt8
theorem ae {w:World}{b:Nat}{o:Obj}(h:w.heap[b]?=some o):b<w.heap.size:=by
 rcases Nat.lt_or_ge b w.heap.size with h' |h'
 ·exact h'
 ·rw[Array.getElem?_eq_none h'] at h;cases h
def dP (w:World) (A:Option Addr) (l:List aj):Prop:=Row w A 1 l.length (l.map encStr)
section
variable {w w':World}{A:Option Addr}{l:List aj}
theorem dP.at_ (h:dP w A l){i:Nat}(hi:i<l.length):∃b o,A=some ⟨b,o,none⟩∧b<w.heap.size∧w.cell? ⟨b,o+i,none⟩=some (.string ⟨(l.getD i []).toArray⟩):=by
 obtain⟨b,o,e,hb,hc⟩:=h.2 (by omega);exact⟨b,o,e,hb,hc i _ (by simp[hi])⟩
theorem dP.ext (h:dP w A l) (k:Ext w w'):dP w' A l:=Row.ext h k
theorem dP.nil (A:Option Addr):dP w A []:=Row.nil A 1
theorem dP.take (h:dP w A l){k:Nat}(hk:k≤l.length):dP w A (l.take k):=by
 refine⟨by simp,fun hn => ?_⟩;obtain⟨b,o,e,hb,hc⟩:=h.2 (by simp at hn;omega);refine⟨b,o,e,hb,fun j u hu=>hc j u ?_⟩;rw[List.map_take,List.getElem?_take] at hu
 split at hu
 ·exact hu
 ·cases hu
theorem dP.zl {base:Nat}{e:TypeId}{v:Value}(h:w.ownsRow base e 1 v l.length (l.map encStr)) :
  ∃A cap,v=.slice A l.length cap∧l.length≤cap∧cap≤9223372036854775807∧dP w A l∧∀c o,A=some ⟨c,o,none⟩→base≤c∧c<w.heap.size:=by
 rcases h.2 with ⟨rfl,h0⟩|⟨g,cap,cur,rfl,hb,hg,hle,mU,hsz,sg⟩
 ·have:l=[]:=List.eq_nil_of_length_eq_zero h0;subst this;exact⟨none,0,rfl,aiG _,by omega,dP.nil _,fun _ _ h=>by cases h⟩
 ·have hlt:g<w.heap.size:=(Array.getElem?_eq_some_iff.1 hg).1;refine⟨some ⟨g,0,none⟩,cap,rfl,hle,by unfold maxLen at mU;omega,⟨by simp,fun _=>⟨g,0,rfl,hlt,fun j u hu => ?_⟩⟩,fun c o h => ?_⟩
  ·have:=h.cells rfl j u hu
   by_cases h0:j=0
   ·subst h0;simpa [Addr.add] using this
   ·simpa [Addr.add,h0] using this
  ·injection h with h;injection h with h;omega
end
theorem xf (l:List aj):∀u∈l.map encStr,u.oneCell'=true:=by
 intro u hu;obtain⟨x,_,rfl⟩:=List.mem_map.1 hu;rfl
section
variable {P : Program}(w:World)
theorem pB (base:Nat) (t ty e:TypeId) (i:TypeInfo) (size:Nat) (ht:P.underlying t=some (.slice e)) (hi:P.info? e=some i)
  (v:Value) (n:Nat) (xs:List Value) (hown:w.ownsRow base e size v n xs) (A:Option Addr) (hA:A=none) (c:Nat):(Builtin.append_ #[t,t] ty #[v,.slice A 0 c]).run P w=.ok v w:=by
 subst hA
 rcases hown.2 with ⟨rfl,_⟩|⟨g,cap,cur,rfl,_,_,hnc,_⟩
 ·simp[Builtin.append_,run_underlying ht,sizeOf,typeInfo,hi,Builtin.lenOf,Builtin.firstCells]
 ·simp[Builtin.append_,run_underlying ht,sizeOf,typeInfo,hi,Builtin.lenOf,Builtin.firstCells,hnc,storeCells]
theorem pY (base:Nat) (t ty e:TypeId) (i:TypeInfo) (z:Value) (size bytes:Nat) (ht:P.underlying t=some (.slice e)) (hi:P.info? e=some i) (hz:i.zero=some z)
  (hsize:i.size=size) (hby:i.bytes=bytes) (hzs:z.cells.size=size) (hsz:0<size)
  (v:Value) (n:Nat) (xs:List Value) (hown:w.ownsRow base e size v n xs)
  (A:Option Addr) (m c:Nat) (news:List Value) (hr:Row w A size m news) (h1:∀u∈news,u.oneCell'=true)
  (h63:n+m≤maxLen) (hbytes:(n+m)*bytes≤140737488355328) (hbase:base≤w.heap.size) :
  ∃v' w',(Builtin.append_ #[t,t] ty #[v,.slice A m c]).run P w=.ok v' w'∧w'.ownsRow base e size v' (n+m) (xs++news)∧w.grownBy w' v.ownBlock ∧
   (v'.ownBlock=v.ownBlock∨v'.ownBlock=some w.heap.size):=by
 rcases A with _|ad
 ·have hm:m=0:=by
   rcases Nat.eq_zero_or_pos m with h0|h0
   ·exact h0
   ·obtain⟨_,_,h,_⟩:=hr.2 h0;cases h
  subst hm;have hn:news=[]:=List.eq_nil_of_length_eq_zero (by simpa using hr.1);subst hn;exact⟨v,w,pB w base t ty e i size ht hi v n xs hown none rfl c,by simpa using hown,World.grownBy.refl w _,.inl rfl⟩
 ·have OZ:∀j u,news[j]?=some u→w.cell? (ad.add j)=some u:=by
   intro j u hu
   rcases Nat.eq_zero_or_pos m with h0|h0
   ·subst h0;have hn:news=[]:=List.eq_nil_of_length_eq_zero (by simpa using hr.1);subst hn;simp at hu
   ·obtain⟨b,o,h,_,hc⟩:=hr.2 h0;injection h with h;subst h;have:=hc j u hu;unfold Addr.add
    split
    ·rename_i hj;subst hj;simpa using this
    ·exact this
  obtain⟨v',w',hrun,h2,h3,_,h5⟩:=run_append_own_at (P:=P) w base t ty e i z size bytes ht hi hz hsize hby hzs hsz v n xs hown ad m c news hr.1 OZ h1 h63 hbytes hbase;exact⟨v',w',hrun,h2,h3,h5⟩
theorem lB {o:Oper}{a:Act}{K:Act→World→Prop}{Q:Exit→Act→World→Prop}(s x:Operand) (t:TypeId)
  (ho:o.op=.call { callee:=.builtin .append,args:=#[s,x],argTypes:=#[t,t] })
  (base:Nat) (e:TypeId) (i:TypeInfo) (z:Value) (size bytes:Nat) (ht:P.underlying t=some (.slice e)) (hi:P.info? e=some i) (hz:i.zero=some z)
  (hsize:i.size=size) (hby:i.bytes=bytes) (hzs:z.cells.size=size) (hsz:0<size)
  (v:Value) (n:Nat) (xs:List Value) (hs:a.eval s=v) (hown:w.ownsRow base e size v n xs)
  (A:Option Addr) (m c:Nat) (news:List Value) (hx:a.eval x=.slice A m c) (hr:Row w A size m news) (h1:∀u∈news,u.oneCell'=true)
  (h63:n+m≤maxLen) (hbytes:(n+m)*bytes≤140737488355328) (hbase:base≤w.heap.size)
  (h:∀v' w',w'.ownsRow base e size v' (n+m) (xs++news)→w.grownBy w' v.ownBlock→(v'.ownBlock=v.ownBlock∨v'.ownBlock=some w.heap.size)→K (a.put o.dst v') w'):o.wp P a w K Q:=by
 obtain⟨v',w',hrun,h2,h3,h4⟩:=pY (P:=P) w base t o.type e i z size bytes ht hi hz hsize hby hzs hsz v n xs hown A m c news hr h1 h63 hbytes hbase;unfold Oper.wp execOp;simp only[ho,resolve,invoke,builtin,Sem.run_bind,Sem.run_pure,Result.andThen_ok,List.map_toArray,List.map_cons,List.map_nil,hs,hx,hrun];exact h v' w' h2 h3 h4
theorem aD {ops:Array Oper}{rest:List Oper}{o:Oper}{a:Act}{Q:Exit→Act→World→Prop}(hgd:o.guard=none) (s x:Operand) (t:TypeId)
  (ho:o.op=.call { callee:=.builtin .append,args:=#[s,x],argTypes:=#[t,t] })
  (base:Nat) (e:TypeId) (i:TypeInfo) (z:Value) (size bytes:Nat) (ht:P.underlying t=some (.slice e)) (hi:P.info? e=some i) (hz:i.zero=some z)
  (hsize:i.size=size) (hby:i.bytes=bytes) (hzs:z.cells.size=size) (hsz:0<size)
  (v:Value) (n:Nat) (xs:List Value) (hs:a.eval s=v) (hown:w.ownsRow base e size v n xs)
  (A:Option Addr) (m c:Nat) (news:List Value) (hx:a.eval x=.slice A m c) (hr:Row w A size m news) (h1:∀u∈news,u.oneCell'=true)
  (h63:n+m≤maxLen) (hbytes:(n+m)*bytes≤140737488355328) (hbase:base≤w.heap.size)
  (h:∀v' w',w'.ownsRow base e size v' (n+m) (xs++news)→w.grownBy w' v.ownBlock→(v'.ownBlock=v.ownBlock∨v'.ownBlock=some w.heap.size)→wpList P ops Q rest (a.put o.dst v') w'):wpList P ops Q (o :: rest) a w:=
 wpList_plain hgd fun _ hK=>lB w s x t ho base e i z size bytes ht hi hz hsize hby hzs hsz v n xs hs hown A m c news hx hr h1 h63 hbytes hbase fun v' w' h2 h3 h4=>hK _ _ (h v' w' h2 h3 h4)
end
theorem Ext.app {w a b:World}{base:Nat}{e:TypeId}{size:Nat}{v:Value}{n:Nat}{xs:List Value}(h:Ext w a) (hg:a.grownBy b v.ownBlock) (ho:a.ownsRow base e size v n xs) (hb:w.heap.size≤base):Ext w b:=
 h.grown hg (fun k hk=>by have:=(ho.lt k hk).1;omega)
structure fH (α:Type) where
 k:Nat
 f:α→List Value
 hf:∀x,(f x).length=k
 pos:0<k
section
variable {α : Type}(C:fH α){w w':World}{A:Option Addr}{l:List α}
def ak (w:World) (A:Option Addr) (l:List α):Prop:=Row w A C.k l.length (l.flatMap C.f)
theorem ak.ext (h:ak C w A l) (k:Ext w w'):ak C w' A l:=Row.ext h k
theorem ak.nil (w:World) (A:Option Addr):ak C w A []:=Row.nil A _
theorem ak.at_ (h:ak C w A l){i:Nat}(hi:i<l.length) :
  ∃b o,A=some ⟨b,o,none⟩∧b<w.heap.size∧∀j,j<C.k→w.cell? ⟨b,o+i*C.k+j,none⟩=(C.f (l[i]'hi))[j]?:=by
 obtain⟨b,o,e,hb,hc⟩:=h.2 (by omega);refine⟨b,o,e,hb,fun j hj => ?_⟩;have g:(l.flatMap C.f)[i*C.k+j]?=(C.f (l[i]'hi))[j]?:=by
  rw[pX _ C.k C.hf l i j hj,aiU hi];rfl
 have hl:j<(C.f (l[i]'hi)).length:=by rw[C.hf];exact hj
 rw[aiU hl] at g ⊢;have:=hc _ _ g
 rwa [←Nat.add_assoc] at this
theorem ak.cut (h:ak C w A l){k cap:Nat}(hk:k≤l.length) (hc:l.length≤cap):ak C w (if cap=k then A else A.map (·.add (k*C.k))) (l.drop k):=by
 have:=Row.cut h hk hc;unfold ak;rw[List.length_drop,←oa _ _ C.hf];exact this
theorem ak.take (h:ak C w A l){k:Nat}(hk:k≤l.length):ak C w A (l.take k):=by
 refine⟨eU _ _ C.hf _,fun hn => ?_⟩;obtain⟨b,o,e,hb,hc⟩:=h.2 (by simp at hn;omega);refine⟨b,o,e,hb,fun j u hu=>hc j u ?_⟩;have e1:l.flatMap C.f=(l.take k).flatMap C.f++(l.drop k).flatMap C.f:=by rw[←List.flatMap_append,List.take_append_drop]
 rw[e1,List.getElem?_append_left (List.getElem?_eq_some_iff.1 hu).1];exact hu
theorem ak.own {base:Nat}{e:TypeId}{v:Value}(h:w.ownsRow base e C.k v l.length (l.flatMap C.f)) :
  ∃A cap,v=.slice A l.length cap∧l.length≤cap∧cap≤9223372036854775807∧ak C w A l∧∀c o,A=some ⟨c,o,none⟩→base≤c∧c<w.heap.size:=by
 rcases h.2 with ⟨rfl,h0⟩|⟨g,cap,cur,rfl,hb,hg,hle,mU,hsz,sg⟩
 ·have:l=[]:=List.eq_nil_of_length_eq_zero h0;subst this;exact⟨none,0,rfl,aiG _,by omega,ak.nil C _ _,fun _ _ h=>by cases h⟩
 ·have hlt:g<w.heap.size:=(Array.getElem?_eq_some_iff.1 hg).1;refine⟨some ⟨g,0,none⟩,cap,rfl,hle,by unfold maxLen at mU;omega,⟨eU _ _ C.hf _,fun _=>⟨g,0,rfl,hlt,fun j u hu => ?_⟩⟩,fun c o h => ?_⟩
  ·have:=h.cells rfl j u hu
   by_cases h0:j=0
   ·subst h0;simpa [Addr.add] using this
   ·simpa [Addr.add,h0] using this
  ·injection h with h;injection h with h;omega
theorem ak.block {b:Nat}{t:TypeId}{fr:Nat×Nat}(l:List α) (h:w.heap[b]?=some (.cells (l.flatMap C.f).toArray t fr)):ak C w (some ⟨b,0,none⟩) l:=by
 refine⟨eU _ _ C.hf _,fun _=>⟨b,0,rfl,ae h,fun j u hu => ?_⟩⟩;rw[Nat.zero_add];simp only[World.cell?,h];simpa using hu
theorem pZ (f:α→Value) (l:List α):l.flatMap (fun x=>[f x])=l.map f:=by
 induction l with
 |nil=>rfl
 |cons x l ih=>simp[ih]
end
def mf : fH aj:=⟨1,fun x=>[encStr x],fun _=>rfl,by omega⟩
def qb : fH Int:=⟨1,fun x=>[.int .i64 x],fun _=>rfl,by omega⟩
abbrev Ints (w:World) (A:Option Addr) (l:List Int):Prop:=ak qb w A l
theorem kg {w:World}{A:Option Addr}{l:List aj}:dP w A l↔ak mf w A l:=by
 unfold dP ak;show _↔Row w A 1 l.length (l.flatMap fun x=>[encStr x]);rw[pZ]
theorem Ints.at_ {w:World}{A:Option Addr}{l:List Int}(h:Ints w A l){i:Nat}(hi:i<l.length) :
  ∃b o,A=some ⟨b,o,none⟩∧b<w.heap.size∧w.cell? ⟨b,o+i,none⟩=some (.int .i64 (l[i]'hi)):=by
 obtain⟨b,o,e,hb,hc⟩:=ak.at_ qb h hi;refine⟨b,o,e,hb,?_⟩;have:=hc 0 (by decide);simpa [qb] using this
theorem Ints.own {w:World}{base:Nat}{e:TypeId}{v:Value}{l:List Int}(h:w.ownsRow base e 1 v l.length (l.map (Value.int .i64))) :
  ∃A cap,v=.slice A l.length cap∧l.length≤cap∧cap≤9223372036854775807∧Ints w A l∧∀c o,A=some ⟨c,o,none⟩→base≤c∧c<w.heap.size:=by
 refine ak.own qb (e:=e) ?_;show w.ownsRow base e 1 v l.length (l.flatMap fun x=>[.int .i64 x]);rw[pZ];exact h
theorem Ints.row {w:World}{A:Option Addr}{l:List Int}(h:Ints w A l):Row w A 1 l.length (l.map (Value.int .i64)):=by
 have:=h;unfold Ints ak at this
 rwa [show l.flatMap qb.f=l.map (Value.int .i64) from pZ _ l] at this
theorem xg (l:List Int):∀u∈l.map (Value.int .i64),u.oneCell'=true:=by
 intro u hu;obtain⟨x,_,rfl⟩:=List.mem_map.1 hu;rfl
inductive Tree where
 |mk (kind pos n:Int) (text:aj) (A:Option Addr) (cap:Nat) (kids:List Tree):Tree
namespace Tree
theorem kO {α:Type}(f:α→Nat):∀ {l:List α}{x:α},x∈l→f x≤(l.map f).sum
 |y :: l,x,h=>by
  simp only[List.map_cons,List.sum_cons]
  rcases List.mem_cons.1 h with rfl|h
  ·omega
  ·have:=kO f h;omega
end Tree
section
variable {w w':World}{t:Tree}
theorem Row.old {size n:Nat}{A:Option Addr}{xs:List Value}(h:Row w A size n xs) (k:∀b,b<w.heap.size→w'.heap[b]?=w.heap[b]?) (hs:w.heap.size≤w'.heap.size):Row w' A size n xs:=by
 refine⟨h.1,fun hn => ?_⟩;obtain⟨b,o,rfl,hb,hc⟩:=h.2 hn;exact⟨b,o,rfl,by omega,fun j u hu=>(World.cell?_of_block (a:=⟨b,o+j,none⟩) (k b hb)).trans (hc j u hu)⟩
end
inductive Ty where
 |mk (aq:aj) (var:Int) (A:Option Addr) (cap:Nat) (args:List Ty):Ty
namespace Ty
def aq : Ty→aj | .mk s _ _ _ _=>s
def var : Ty→Int | .mk _ v _ _ _=>v
def A : Ty→Option Addr | .mk _ _ a _ _=>a
def cap : Ty→Nat | .mk _ _ _ c _=>c
def args : Ty→List Ty | .mk _ _ _ _ l=>l
theorem ind {p:Ty→Prop}(h:∀t,(∀k∈t.args,p k)→p t) (t:Ty):p t:=
 Ty.rec (motive_1:=p) (motive_2:=fun l=>∀k∈l,p k) (fun _ _ _ _ l hl=>h _ hl) (fun _ hk=>by cases hk)
  (fun _ _ hh ht k hk=>by rcases List.mem_cons.1 hk with rfl|hk;exact hh;exact ht k hk) t
noncomputable def fold {β:Type}(f:Ty→List β→β) (t:Ty):β:=
 Ty.rec (motive_1:=fun _=>β) (motive_2:=fun _=>List β) (fun s v a c l r=>f (.mk s v a c l) r) [] (fun _ _ h t=>h :: t) t
theorem fold_eq {β:Type}(f:Ty→List β→β) (t:Ty):t.fold f=f t (t.args.map (fold f)):=by
 cases t with
 |mk s v a c l=>
  show f _ _=f _ _
  congr 1
  show Ty.rec_1 (motive_1:=fun _=>β) (motive_2:=fun _=>List β) _ _ _ l=l.map (fold f)
  induction l with
  |nil=>rfl
  |cons x l ih=>exact congrArg (x.fold f :: ·) ih
noncomputable def size : Ty→Nat:=fold fun _ l=>l.sum+1
theorem size_eq (t:Ty):t.size=(t.args.map size).sum+1:=fold_eq _ t
theorem size_pos (t:Ty):0<t.size:=by rw[size_eq];omega
noncomputable def depth : Ty→Nat:=fold fun _ l=>l.foldr max 0+1
theorem aT (t:Ty):t.depth=(t.args.map depth).foldr max 0+1:=fold_eq _ t
theorem bo {t k:Ty}(h:k∈t.args):k.size<t.size:=by rw[size_eq t];have:=Tree.kO size h;omega
theorem fy (t:Ty):t.args.length<t.size:=by
 rw[size_eq t];have:∀l:List Ty,l.length≤(l.map size).sum:=by
  intro l
  induction l with
  |nil=>simp
  |cons x l ih=>have:=size_pos x;simp only[aiW,List.map_cons,List.sum_cons];omega
 have:=this t.args;omega
inductive Pure where
 |mk (aq:aj) (var:Int) (args:List Pure):Pure
noncomputable def pure : Ty→Pure:=fold fun t l=>.mk t.aq t.var l
theorem aG (t:Ty):t.pure=.mk t.aq t.var (t.args.map pure):=fold_eq _ t
end Ty
def Ty.cells (t:Ty):List Value:=[encStr t.aq,.int .i64 t.var,.slice t.A t.args.length t.cap]
def dr : fH Ty:=⟨3,Ty.cells,fun _=>rfl,by omega⟩
@[go_sem] def bl (t:Ty):Value:=.agg #[encStr t.aq,.int .i64 t.var,.slice t.A t.args.length t.cap]
def Ty.zero : Ty:=.mk [] 0 none 0 []
inductive aH (w:World):Ty→Prop
 |mk {t:Ty}(le:t.args.length≤t.cap) (max:t.cap≤9223372036854775807) (txt:t.aq.length≤9223372036854775807) (row:ak dr w t.A t.args) (args:∀k∈t.args,aH w k):aH w t
structure bH (w:World) (A:Option Addr) (l:List Ty):Prop where
 row:ak dr w A l
 args:∀k∈l,aH w k
section
variable {w w':World}{t:Ty}
theorem aH.le (h:aH w t):t.args.length≤t.cap:=by cases h;assumption
theorem aH.max (h:aH w t):t.cap≤9223372036854775807:=by cases h;assumption
theorem aH.txt (h:aH w t):t.aq.length≤9223372036854775807:=by cases h;assumption
theorem aH.all (h:aH w t):bH w t.A t.args:=by cases h with|mk _ _ _ r k=>exact⟨r,k⟩
theorem aH.old (h:aH w t) (k:Below w.heap.size w w'):aH w' t:=by
 induction h with
 |mk h1 h2 h3 h4 _ ih=>exact .mk h1 h2 h3 (Row.old h4 k.block k.size) ih
theorem aH.ext (h:aH w t) (k:Ext w w'):aH w' t:=h.old k.below
theorem bH.old {A:Option Addr}{l:List Ty}(h:bH w A l) (k:Below w.heap.size w w'):bH w' A l:=⟨Row.old h.row k.block k.size,fun x hx=>(h.args x hx).old k⟩
theorem bH.ext {A:Option Addr}{l:List Ty}(h:bH w A l) (k:Ext w w'):bH w' A l:=h.old k.below
theorem bH.nil (w:World) (A:Option Addr):bH w A []:=⟨ak.nil _ _ _,by simp⟩
theorem aH.of {s:aj}{v:Int}{A:Option Addr}{c:Nat}{l:List Ty}(h1:l.length≤c) (h2:c≤9223372036854775807) (h3:s.length≤9223372036854775807) (h4:ak dr w A l) (h5:∀k∈l,aH w k):aH w (.mk s v A c l):=.mk h1 h2 h3 h4 h5
theorem aH.zero (w:World):aH w Ty.zero:=aH.of (aiH _) (by omega) (by decide) (ak.nil _ _ _) (by simp)
theorem bH.at_ {A:Option Addr}{l:List Ty}(h:bH w A l){i:Nat}(hi:i<l.length) :
  ∃b o,A=some ⟨b,o,none⟩∧b<w.heap.size∧w.cell? ⟨b,o+i*3,none⟩=some (.string ⟨(l[i]'hi).aq.toArray⟩)∧w.cell? ⟨b,o+i*3+1,none⟩=some (.int .i64 (l[i]'hi).var) ∧
   w.cell? ⟨b,o+i*3+2,none⟩=some (.slice (l[i]'hi).A (l[i]'hi).args.length (l[i]'hi).cap):=by
 obtain⟨b,o,e,hb,hc⟩:=ak.at_ dr h.row hi;refine⟨b,o,e,hb,?_,?_,?_⟩
 ·have:=hc 0 (by decide);simpa [dr,Ty.cells] using this
 ·have:=hc 1 (by decide);simpa [dr,Ty.cells] using this
 ·have:=hc 2 (by decide);simpa [dr,Ty.cells] using this
end
noncomputable def aF (l:List Ty):Nat:=(l.map Ty.size).sum
theorem xh (l:List Ty) (t:Ty):aF (l++[t])=aF l+t.size:=by simp[aF]
theorem fp (l:List Ty){k:Nat}(h:k<l.length):aF (l.take (k+1))=aF (l.take k)+(l[k]'h).size:=by rw[aiJ h,xh]
theorem kP (l:List Ty) (k:Nat):aF (l.take k)≤aF l:=by
 have:aF l=aF (l.take k)+aF (l.drop k):=by unfold aF;rw[←List.sum_append,←aiX,List.take_append_drop]
 omega
noncomputable def Ty.iE : Ty→Nat→List (Nat×Ty):=Ty.fold fun t l d=>(d,t) :: (l.map fun f=>f (d+1)).flatten
noncomputable def cA (l:List Ty) (d:Nat):List (Nat×Ty):=(l.map fun k=>k.iE d).flatten
theorem mV (t:Ty) (d:Nat):t.iE d=(d,t) :: cA t.args (d+1):=by
 unfold Ty.iE;rw[Ty.fold_eq];simp only[cA,List.map_map];rfl
theorem qd (l:List Ty) (d:Nat){k:Nat}(h:k<l.length):cA (l.take (k+1)) d=cA (l.take k) d++(l[k]'h).iE d:=by
 unfold cA;rw[aiJ h,aiX,List.flatten_append]
 congr 1
 simp
theorem oP (l:List Ty) (d k:Nat):cA l d=cA (l.take k) d++cA (l.drop k) d:=by
 unfold cA;rw[←List.flatten_append,←aiX,List.take_append_drop]
theorem qf (t:Ty):∀d,(t.iE d).length=t.size:=by
 induction t using Ty.ind with
 |h t ih=>
 intro d;rw[mV,Ty.size_eq,aiW]
 congr 1
 unfold cA;rw[List.length_flatten,List.map_map]
 congr 1
 exact List.map_congr_left (fun k hk=>ih k hk (d+1))
theorem gQ (l:List Nat) (m:Nat):l.foldr max 0≤m↔∀x∈l,x≤m:=by
 induction l with
 |nil=>simp
 |cons x l ih=>simp only[List.foldr_cons,List.mem_cons,forall_eq_or_imp];rw[←ih];omega
theorem xi (c:Nat):∀(t:Ty) (d:Nat),(∀p∈t.iE d,p.1≤c)↔d+t.depth≤c+1:=by
 intro t
 induction t using Ty.ind with
 |h t ih=>
 intro d;rw[mV,Ty.aT];have hk:(∀p∈cA t.args (d+1),p.1≤c)↔∀k∈t.args,d+1+k.depth≤c+1:=by
  unfold cA
  constructor
  ·intro h k hk;exact(ih k hk (d+1)).1 (fun p hp=>h p (List.mem_flatten.2 ⟨_,List.mem_map.2 ⟨k,hk,rfl⟩,hp⟩))
  ·intro h p hp;obtain⟨_,hl,hp⟩:=List.mem_flatten.1 hp;obtain⟨k,hk,rfl⟩:=List.mem_map.1 hl;exact(ih k hk (d+1)).2 (h k hk) p hp
 simp only[List.mem_cons,forall_eq_or_imp];rw[hk]
 constructor
 ·rintro⟨h1,h2⟩;have:(t.args.map Ty.depth).foldr max 0≤c - d:=(gQ _ _).2 (fun x hx=>by
   obtain⟨k,hk,rfl⟩:=List.mem_map.1 hx;have:=h2 k hk;omega)
  omega
 ·intro h;refine⟨by omega,fun k hk => ?_⟩;have:=(gQ (t.args.map Ty.depth) ((t.args.map Ty.depth).foldr max 0)).1 (aiG _) k.depth (List.mem_map.2 ⟨k,hk,rfl⟩);omega
theorem CO (t:Ty):t.depth≤t.size:=by
 induction t using Ty.ind with
 |h t ih=>
 rw[Ty.aT,Ty.size_eq];have:∀l:List Ty,(∀k∈l,k.depth≤k.size)→(l.map Ty.depth).foldr max 0≤(l.map Ty.size).sum:=by
  intro l
  induction l with
  |nil=>simp
  |cons x l ih2=>
   intro h;have h1:=ih2 (fun k hk=>h k (List.mem_cons_of_mem _ hk));have h2:=h x (List.mem_cons_self ..);simp only[List.map_cons,List.foldr_cons,List.sum_cons];omega
 have:=this t.args ih;omega
theorem mg {t k:Ty}(h:k∈t.args):k.depth<t.depth:=by
 rw[Ty.aT t];have:=(gQ (t.args.map Ty.depth) ((t.args.map Ty.depth).foldr max 0)).1 (aiG _) k.depth (List.mem_map.2 ⟨k,h,rfl⟩);omega
noncomputable def Ty.qg (f:Ty→Bool):Ty→Bool:=Ty.fold fun t l=>f t&&l.all id
theorem gR (f:Ty→Bool) (t:Ty):t.qg f=(f t&&t.args.all (Ty.qg f)):=by
 unfold Ty.qg;rw[Ty.fold_eq,List.all_map];rfl
theorem FT (f:Ty→Bool):∀(t:Ty) (d:Nat),t.qg f=(t.iE d).all fun p=>f p.2:=by
 intro t
 induction t using Ty.ind with
 |h t ih=>
 intro d;rw[gR,mV,List.all_cons]
 congr 1
 unfold cA;rw[List.all_flatten,List.all_map,Bool.eq_iff_iff,aiY,aiY];exact⟨fun h k hk=>by have:=h k hk;rw[ih k hk (d+1)] at this;exact this,fun h k hk=>by have:=h k hk;rw[ih k hk (d+1)];exact this⟩
noncomputable def bN (a b:Ty):Bool := @decide (a.pure=b.pure) (Classical.propDecidable _)
theorem fq {a b:Ty}:bN a b=true↔a.pure=b.pure:=by unfold bN;exact @decide_eq_true_iff _ (Classical.propDecidable _)
theorem jw (a:Ty):bN a a=true:=fq.2 rfl
theorem oQ (a b:Ty):bN a b=(decide (a.aq=b.aq)&&decide (a.var=b.var)&&decide (a.args.length=b.args.length)&&(a.args.zip b.args).all fun p=>bN p.1 p.2):=by
 rw[Bool.eq_iff_iff,fq,Ty.aG a,Ty.aG b];simp only[aiT,decide_eq_true_eq,aiY,Ty.Pure.mk.injEq]
 constructor
 ·rintro⟨h1,h2,h3⟩;have hl:a.args.length=b.args.length:=by simpa using congrArg List.length h3
  refine⟨⟨⟨h1,h2⟩,hl⟩,fun p hp => ?_⟩;obtain⟨i,hi,rfl⟩:=List.getElem_of_mem hp;rw[fq,List.getElem_zip];have h4:(a.args.map Ty.pure)[i]?=(b.args.map Ty.pure)[i]?:=by rw[h3]
  have hi':i<a.args.length∧i<b.args.length:=by rw[List.length_zip] at hi;omega
  rw[List.getElem?_map,List.getElem?_map,aiU hi'.1,aiU hi'.2] at h4;simpa using h4
 ·rintro⟨⟨⟨h1,h2⟩,hl⟩,h⟩;refine⟨h1,h2,List.ext_getElem (by simpa using hl) (fun i h3 h4 => ?_)⟩;simp only[List.length_map] at h3 h4;rw[List.getElem_map,List.getElem_map];have:=h (a.args[i],b.args[i]) (by rw[List.mem_iff_getElem];exact⟨i,by rw[List.length_zip];omega,List.getElem_zip⟩);exact fq.1 this
end Go.Proofs.YtigafbmabjglfaaGreatDoor
