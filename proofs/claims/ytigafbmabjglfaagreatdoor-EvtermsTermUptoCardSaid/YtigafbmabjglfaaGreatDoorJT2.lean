import Derived.Test.YtigafbmabjglfaaGreatDoorJT1
import Derived.Maps.AppendAt
import Derived.Deep.AppendLies
import Derived.OwnWalk
import Derived.Sort.EncStr
namespace Go.Proofs.YtigafbmabjglfaaGreatDoor
open Go.RowKit Go.Sort
abbrev aj := List UInt8
theorem ae {w:World}{b:Nat}{o:Obj}(h:w.heap[b]?=some o):b<w.heap.size:=by
 rcases Nat.lt_or_ge b w.heap.size with h' |h'
 ·exact h'
 ·rw[Array.getElem?_eq_none h'] at h;cases h
def jh (w:World) (A:Option Addr) (l:List aj):Prop:=Row w A 1 l.length (l.map encStr)
section
variable {w w':World}{A:Option Addr}{l:List aj}
theorem jh.at_ (h:jh w A l){i:Nat}(hi:i<l.length):∃b o,A=some ⟨b,o,none⟩∧b<w.heap.size∧w.cell? ⟨b,o+i,none⟩=some (.string ⟨(l.getD i []).toArray⟩):=by
 obtain⟨b,o,e,hb,hc⟩:=h.2 (by omega);exact⟨b,o,e,hb,hc i _ (by simp[hi])⟩
theorem jh.ext (h:jh w A l) (k:Ext w w'):jh w' A l:=Row.ext h k
theorem jh.take (h:jh w A l){k:Nat}(hk:k≤l.length):jh w A (l.take k):=by
 refine⟨by simp,fun hn => ?_⟩;obtain⟨b,o,e,hb,hc⟩:=h.2 (by simp at hn;omega);refine⟨b,o,e,hb,fun j u hu=>hc j u ?_⟩;rw[List.map_take,List.getElem?_take] at hu
 split at hu
 ·exact hu
 ·cases hu
end
section
variable {P : Program}(w:World)
theorem n9 (base:Nat) (t ty e:TypeId) (i:TypeInfo) (size:Nat) (ht:P.underlying t=some (.slice e)) (hi:P.info? e=some i)
  (v:Value) (n:Nat) (xs:List Value) (hown:w.ownsRow base e size v n xs) (A:Option Addr) (hA:A=none) (c:Nat):(Builtin.append_ #[t,t] ty #[v,.slice A 0 c]).run P w=.ok v w:=by
 subst hA
 rcases hown.2 with ⟨rfl,_⟩|⟨g,cap,cur,rfl,_,_,Zy,_⟩
 ·simp[Builtin.append_,run_underlying ht,sizeOf,typeInfo,hi,Builtin.lenOf,Builtin.firstCells]
 ·simp[Builtin.append_,run_underlying ht,sizeOf,typeInfo,hi,Builtin.lenOf,Builtin.firstCells,Zy,storeCells]
theorem oT (base:Nat) (t ty e:TypeId) (i:TypeInfo) (z:Value) (size bytes:Nat) (ht:P.underlying t=some (.slice e)) (hi:P.info? e=some i) (hz:i.zero=some z)
  (hsize:i.size=size) (hby:i.bytes=bytes) (hzs:z.cells.size=size) (hsz:0<size)
  (v:Value) (n:Nat) (xs:List Value) (hown:w.ownsRow base e size v n xs)
  (A:Option Addr) (m c:Nat) (news:List Value) (hr:Row w A size m news) (h1:∀u∈news,u.oneCell'=true)
  (h63:n+m≤maxLen) (hbytes:(n+m)*bytes≤140737488355328) (hbase:base≤w.heap.size) :
  ∃v' w',(Builtin.append_ #[t,t] ty #[v,.slice A m c]).run P w=.ok v' w'∧w'.ownsRow base e size v' (n+m) (xs++news)∧w.grownBy w' v.ownBlock ∧
   (v'.ownBlock=v.ownBlock∨v'.ownBlock=some w.heap.size):=by
 rcases A with _|ad
 ·have hm:m=0:=by
   rcases Nat.eq_zero_or_pos m with h0|h0
   ·exact h0
   ·obtain⟨_,_,h,_⟩:=hr.2 h0;cases h
  subst hm;have hn:news=[]:=List.eq_nil_of_length_eq_zero (by simpa using hr.1);subst hn;exact⟨v,w,n9 w base t ty e i size ht hi v n xs hown none rfl c,by simpa using hown,World.grownBy.refl w _,.inl rfl⟩
 ·have Nf:∀j u,news[j]?=some u→w.cell? (ad.add j)=some u:=by
   intro j u hu
   rcases Nat.eq_zero_or_pos m with h0|h0
   ·subst h0;have hn:news=[]:=List.eq_nil_of_length_eq_zero (by simpa using hr.1);subst hn;simp at hu
   ·obtain⟨b,o,h,_,hc⟩:=hr.2 h0;injection h with h;subst h;have:=hc j u hu;unfold Addr.add
    split
    ·rename_i hj;subst hj;simpa using this
    ·exact this
  obtain⟨v',w',hrun,h2,h3,_,h5⟩:=run_append_own_at (P:=P) w base t ty e i z size bytes ht hi hz hsize hby hzs hsz v n xs hown ad m c news hr.1 Nf h1 h63 hbytes hbase;exact⟨v',w',hrun,h2,h3,h5⟩
theorem k9 {o:Oper}{a:Act}{K:Act→World→Prop}{Q:Exit→Act→World→Prop}(s x:Operand) (t:TypeId)
  (ho:o.op=.call { callee:=.builtin .append,args:=#[s,x],argTypes:=#[t,t] })
  (base:Nat) (e:TypeId) (i:TypeInfo) (z:Value) (size bytes:Nat) (ht:P.underlying t=some (.slice e)) (hi:P.info? e=some i) (hz:i.zero=some z)
  (hsize:i.size=size) (hby:i.bytes=bytes) (hzs:z.cells.size=size) (hsz:0<size)
  (v:Value) (n:Nat) (xs:List Value) (hs:a.eval s=v) (hown:w.ownsRow base e size v n xs)
  (A:Option Addr) (m c:Nat) (news:List Value) (hx:a.eval x=.slice A m c) (hr:Row w A size m news) (h1:∀u∈news,u.oneCell'=true)
  (h63:n+m≤maxLen) (hbytes:(n+m)*bytes≤140737488355328) (hbase:base≤w.heap.size)
  (h:∀v' w',w'.ownsRow base e size v' (n+m) (xs++news)→w.grownBy w' v.ownBlock→(v'.ownBlock=v.ownBlock∨v'.ownBlock=some w.heap.size)→K (a.put o.dst v') w'):o.wp P a w K Q:=by
 obtain⟨v',w',hrun,h2,h3,h4⟩:=oT (P:=P) w base t o.type e i z size bytes ht hi hz hsize hby hzs hsz v n xs hown A m c news hr h1 h63 hbytes hbase;unfold Oper.wp execOp;simp only[ho,resolve,invoke,builtin,Sem.run_bind,Sem.run_pure,Result.andThen_ok,List.map_toArray,List.map_cons,List.map_nil,hs,hx,hrun];exact h v' w' h2 h3 h4
theorem aH {ops:Array Oper}{rest:List Oper}{o:Oper}{a:Act}{Q:Exit→Act→World→Prop}(hgd:o.guard=none) (s x:Operand) (t:TypeId)
  (ho:o.op=.call { callee:=.builtin .append,args:=#[s,x],argTypes:=#[t,t] })
  (base:Nat) (e:TypeId) (i:TypeInfo) (z:Value) (size bytes:Nat) (ht:P.underlying t=some (.slice e)) (hi:P.info? e=some i) (hz:i.zero=some z)
  (hsize:i.size=size) (hby:i.bytes=bytes) (hzs:z.cells.size=size) (hsz:0<size)
  (v:Value) (n:Nat) (xs:List Value) (hs:a.eval s=v) (hown:w.ownsRow base e size v n xs)
  (A:Option Addr) (m c:Nat) (news:List Value) (hx:a.eval x=.slice A m c) (hr:Row w A size m news) (h1:∀u∈news,u.oneCell'=true)
  (h63:n+m≤maxLen) (hbytes:(n+m)*bytes≤140737488355328) (hbase:base≤w.heap.size)
  (h:∀v' w',w'.ownsRow base e size v' (n+m) (xs++news)→w.grownBy w' v.ownBlock→(v'.ownBlock=v.ownBlock∨v'.ownBlock=some w.heap.size)→wpList P ops Q rest (a.put o.dst v') w'):wpList P ops Q (o :: rest) a w:=
 wpList_plain hgd fun _ hK=>k9 w s x t ho base e i z size bytes ht hi hz hsize hby hzs hsz v n xs hs hown A m c news hx hr h1 h63 hbytes hbase fun v' w' h2 h3 h4=>hK _ _ (h v' w' h2 h3 h4)
end
theorem Ext.app {w a b:World}{base:Nat}{e:TypeId}{size:Nat}{v:Value}{n:Nat}{xs:List Value}(h:Ext w a) (hg:a.grownBy b v.ownBlock) (ho:a.ownsRow base e size v n xs) (hb:w.heap.size≤base):Ext w b:=
 h.grown hg (fun k hk=>by have:=(ho.lt k hk).1;omega)
structure fq (α:Type) where
 k:Nat
 f:α→List Value
 hf:∀x,(f x).length=k
 pos:0<k
section
variable {α : Type}(C:fq α){w w':World}{A:Option Addr}{l:List α}
def ak (w:World) (A:Option Addr) (l:List α):Prop:=Row w A C.k l.length (l.flatMap C.f)
theorem ak.ext (h:ak C w A l) (k:Ext w w'):ak C w' A l:=Row.ext h k
theorem ak.nil (w:World) (A:Option Addr):ak C w A []:=Row.nil A _
theorem ak.at_ (h:ak C w A l){i:Nat}(hi:i<l.length) :
  ∃b o,A=some ⟨b,o,none⟩∧b<w.heap.size∧∀j,j<C.k→w.cell? ⟨b,o+i*C.k+j,none⟩=(C.f (l[i]'hi))[j]?:=by
 obtain⟨b,o,e,hb,hc⟩:=h.2 (by omega);refine⟨b,o,e,hb,fun j hj => ?_⟩;have g:(l.flatMap C.f)[i*C.k+j]?=(C.f (l[i]'hi))[j]?:=by
  rw[oQ _ C.k C.hf l i j hj,ahw hi];rfl
 have hl:j<(C.f (l[i]'hi)).length:=by rw[C.hf];exact hj
 rw[ahw hl] at g ⊢;have:=hc _ _ g
 rwa [←Nat.add_assoc] at this
theorem ak.cut (h:ak C w A l){k cap:Nat}(hk:k≤l.length) (hc:l.length≤cap):ak C w (if cap=k then A else A.map (·.add (k*C.k))) (l.drop k):=by
 have:=Row.cut h hk hc;unfold ak;rw[List.length_drop,←nh _ _ C.hf];exact this
theorem ak.take (h:ak C w A l){k:Nat}(hk:k≤l.length):ak C w A (l.take k):=by
 refine⟨dW _ _ C.hf _,fun hn => ?_⟩;obtain⟨b,o,e,hb,hc⟩:=h.2 (by simp at hn;omega);refine⟨b,o,e,hb,fun j u hu=>hc j u ?_⟩;have e1:l.flatMap C.f=(l.take k).flatMap C.f++(l.drop k).flatMap C.f:=by rw[←List.flatMap_append,List.take_append_drop]
 rw[e1,List.getElem?_append_left (List.getElem?_eq_some_iff.1 hu).1];exact hu
theorem ak.own {base:Nat}{e:TypeId}{v:Value}(h:w.ownsRow base e C.k v l.length (l.flatMap C.f)) :
  ∃A cap,v=.slice A l.length cap∧l.length≤cap∧cap≤9223372036854775807∧ak C w A l∧∀c o,A=some ⟨c,o,none⟩→base≤c∧c<w.heap.size:=by
 rcases h.2 with ⟨rfl,h0⟩|⟨g,cap,cur,rfl,hb,hg,hle,oa,hsz,vk⟩
 ·have:l=[]:=List.eq_nil_of_length_eq_zero h0;subst this;exact⟨none,0,rfl,ahi _,by omega,ak.nil C _ _,fun _ _ h=>by cases h⟩
 ·have hlt:g<w.heap.size:=(Array.getElem?_eq_some_iff.1 hg).1;refine⟨some ⟨g,0,none⟩,cap,rfl,hle,by unfold maxLen at oa;omega,⟨dW _ _ C.hf _,fun _=>⟨g,0,rfl,hlt,fun j u hu => ?_⟩⟩,fun c o h => ?_⟩
  ·have:=h.cells rfl j u hu
   by_cases h0:j=0
   ·subst h0;simpa [Addr.add] using this
   ·simpa [Addr.add,h0] using this
  ·injection h with h;injection h with h;omega
theorem ak.block {b:Nat}{t:TypeId}{fr:Nat×Nat}(l:List α) (h:w.heap[b]?=some (.cells (l.flatMap C.f).toArray t fr)):ak C w (some ⟨b,0,none⟩) l:=by
 refine⟨dW _ _ C.hf _,fun _=>⟨b,0,rfl,ae h,fun j u hu => ?_⟩⟩;rw[Nat.zero_add];simp only[World.cell?,h];simpa using hu
theorem oU (f:α→Value) (l:List α):l.flatMap (fun x=>[f x])=l.map f:=by
 induction l with
 |nil=>rfl
 |cons x l ih=>simp[ih]
end
def kW : fq aj:=⟨1,fun x=>[encStr x],fun _=>rfl,by omega⟩
def oV : fq Int:=⟨1,fun x=>[.int .i64 x],fun _=>rfl,by omega⟩
abbrev Ints (w:World) (A:Option Addr) (l:List Int):Prop:=ak oV w A l
theorem jS {w:World}{A:Option Addr}{l:List aj}:jh w A l↔ak kW w A l:=by
 unfold jh ak;show _↔Row w A 1 l.length (l.flatMap fun x=>[encStr x]);rw[oU]
theorem Ints.at_ {w:World}{A:Option Addr}{l:List Int}(h:Ints w A l){i:Nat}(hi:i<l.length) :
  ∃b o,A=some ⟨b,o,none⟩∧b<w.heap.size∧w.cell? ⟨b,o+i,none⟩=some (.int .i64 (l[i]'hi)):=by
 obtain⟨b,o,e,hb,hc⟩:=ak.at_ oV h hi;refine⟨b,o,e,hb,?_⟩;have:=hc 0 (by decide);simpa [oV] using this
theorem Ints.own {w:World}{base:Nat}{e:TypeId}{v:Value}{l:List Int}(h:w.ownsRow base e 1 v l.length (l.map (Value.int .i64))) :
  ∃A cap,v=.slice A l.length cap∧l.length≤cap∧cap≤9223372036854775807∧Ints w A l∧∀c o,A=some ⟨c,o,none⟩→base≤c∧c<w.heap.size:=by
 refine ak.own oV (e:=e) ?_;show w.ownsRow base e 1 v l.length (l.flatMap fun x=>[.int .i64 x]);rw[oU];exact h
theorem Ints.row {w:World}{A:Option Addr}{l:List Int}(h:Ints w A l):Row w A 1 l.length (l.map (Value.int .i64)):=by
 have:=h;unfold Ints ak at this
 rwa [show l.flatMap oV.f=l.map (Value.int .i64) from oU _ l] at this
theorem DM (l:List Int):∀u∈l.map (Value.int .i64),u.oneCell'=true:=by
 intro u hu;obtain⟨x,_,rfl⟩:=List.mem_map.1 hu;rfl
inductive Tree where
 |mk (kind pos n:Int) (text:aj) (A:Option Addr) (cap:Nat) (kids:List Tree):Tree
namespace Tree
theorem kv {α:Type}(f:α→Nat):∀ {l:List α}{x:α},x∈l→f x≤(l.map f).sum
 |y :: l,x,h=>by
  simp only[List.map_cons,List.sum_cons]
  rcases List.mem_cons.1 h with rfl|h
  ·omega
  ·have:=kv f h;omega
end Tree
section
variable {w w':World}{t:Tree}
theorem Row.old {size n:Nat}{A:Option Addr}{xs:List Value}(h:Row w A size n xs) (k:∀b,b<w.heap.size→w'.heap[b]?=w.heap[b]?) (hs:w.heap.size≤w'.heap.size):Row w' A size n xs:=by
 refine⟨h.1,fun hn => ?_⟩;obtain⟨b,o,rfl,hb,hc⟩:=h.2 hn;exact⟨b,o,rfl,by omega,fun j u hu=>(World.cell?_of_block (a:=⟨b,o+j,none⟩) (k b hb)).trans (hc j u hu)⟩
end
inductive Ty where
 |mk (aq:aj) (var:Int) (A:Option Addr) (cap:Nat) (args:List Ty):Ty
namespace Ty
def aq : Ty→aj | .mk s _ _ _ _=>s
def var : Ty→Int | .mk _ v _ _ _=>v
def A : Ty→Option Addr | .mk _ _ a _ _=>a
def cap : Ty→Nat | .mk _ _ _ c _=>c
def args : Ty→List Ty | .mk _ _ _ _ l=>l
theorem ind {p:Ty→Prop}(h:∀t,(∀k∈t.args,p k)→p t) (t:Ty):p t:=
 Ty.rec (motive_1:=p) (motive_2:=fun l=>∀k∈l,p k) (fun _ _ _ _ l hl=>h _ hl) (fun _ hk=>by cases hk)
  (fun _ _ hh ht k hk=>by rcases List.mem_cons.1 hk with rfl|hk;exact hh;exact ht k hk) t
noncomputable def fold {β:Type}(f:Ty→List β→β) (t:Ty):β:=
 Ty.rec (motive_1:=fun _=>β) (motive_2:=fun _=>List β) (fun s v a c l r=>f (.mk s v a c l) r) [] (fun _ _ h t=>h :: t) t
theorem fold_eq {β:Type}(f:Ty→List β→β) (t:Ty):t.fold f=f t (t.args.map (fold f)):=by
 cases t with
 |mk s v a c l=>
  show f _ _=f _ _
  congr 1
  show Ty.rec_1 (motive_1:=fun _=>β) (motive_2:=fun _=>List β) _ _ _ l=l.map (fold f)
  induction l with
  |nil=>rfl
  |cons x l ih=>exact congrArg (x.fold f :: ·) ih
noncomputable def size : Ty→Nat:=fold fun _ l=>l.sum+1
theorem size_eq (t:Ty):t.size=(t.args.map size).sum+1:=fold_eq _ t
theorem size_pos (t:Ty):0<t.size:=by rw[size_eq];omega
noncomputable def depth : Ty→Nat:=fold fun _ l=>l.foldr max 0+1
theorem aN (t:Ty):t.depth=(t.args.map depth).foldr max 0+1:=fold_eq _ t
theorem bG {t k:Ty}(h:k∈t.args):k.size<t.size:=by rw[size_eq t];have:=Tree.kv size h;omega
theorem gq (t:Ty):t.args.length<t.size:=by
 rw[size_eq t];have:∀l:List Ty,l.length≤(l.map size).sum:=by
  intro l
  induction l with
  |nil=>simp
  |cons x l ih=>have:=size_pos x;simp only[ahy,List.map_cons,List.sum_cons];omega
 have:=this t.args;omega
inductive Pure where
 |mk (aq:aj) (var:Int) (args:List Pure):Pure
noncomputable def pure : Ty→Pure:=fold fun t l=>.mk t.aq t.var l
theorem aG (t:Ty):t.pure=.mk t.aq t.var (t.args.map pure):=fold_eq _ t
end Ty
def Ty.cells (t:Ty):List Value:=[encStr t.aq,.int .i64 t.var,.slice t.A t.args.length t.cap]
def cA : fq Ty:=⟨3,Ty.cells,fun _=>rfl,by omega⟩
@[go_sem] def bh (t:Ty):Value:=.agg #[encStr t.aq,.int .i64 t.var,.slice t.A t.args.length t.cap]
def Ty.zero : Ty:=.mk [] 0 none 0 []
inductive aC (w:World):Ty→Prop
 |mk {t:Ty}(le:t.args.length≤t.cap) (max:t.cap≤9223372036854775807) (txt:t.aq.length≤9223372036854775807) (row:ak cA w t.A t.args) (args:∀k∈t.args,aC w k):aC w t
structure bF (w:World) (A:Option Addr) (l:List Ty):Prop where
 row:ak cA w A l
 args:∀k∈l,aC w k
section
variable {w w':World}{t:Ty}
theorem aC.le (h:aC w t):t.args.length≤t.cap:=by cases h;assumption
theorem aC.max (h:aC w t):t.cap≤9223372036854775807:=by cases h;assumption
theorem aC.txt (h:aC w t):t.aq.length≤9223372036854775807:=by cases h;assumption
theorem aC.all (h:aC w t):bF w t.A t.args:=by cases h with|mk _ _ _ r k=>exact⟨r,k⟩
theorem aC.old (h:aC w t) (k:Below w.heap.size w w'):aC w' t:=by
 induction h with
 |mk h1 h2 h3 h4 _ ih=>exact .mk h1 h2 h3 (Row.old h4 k.block k.size) ih
theorem aC.ext (h:aC w t) (k:Ext w w'):aC w' t:=h.old k.below
theorem bF.old {A:Option Addr}{l:List Ty}(h:bF w A l) (k:Below w.heap.size w w'):bF w' A l:=⟨Row.old h.row k.block k.size,fun x hx=>(h.args x hx).old k⟩
theorem bF.ext {A:Option Addr}{l:List Ty}(h:bF w A l) (k:Ext w w'):bF w' A l:=h.old k.below
theorem bF.nil (w:World) (A:Option Addr):bF w A []:=⟨ak.nil _ _ _,by simp⟩
theorem aC.of {s:aj}{v:Int}{A:Option Addr}{c:Nat}{l:List Ty}(h1:l.length≤c) (h2:c≤9223372036854775807) (h3:s.length≤9223372036854775807) (h4:ak cA w A l) (h5:∀k∈l,aC w k):aC w (.mk s v A c l):=.mk h1 h2 h3 h4 h5
theorem aC.zero (w:World):aC w Ty.zero:=aC.of (ahj _) (by omega) (by decide) (ak.nil _ _ _) (by simp)
theorem bF.at_ {A:Option Addr}{l:List Ty}(h:bF w A l){i:Nat}(hi:i<l.length) :
  ∃b o,A=some ⟨b,o,none⟩∧b<w.heap.size∧w.cell? ⟨b,o+i*3,none⟩=some (.string ⟨(l[i]'hi).aq.toArray⟩)∧w.cell? ⟨b,o+i*3+1,none⟩=some (.int .i64 (l[i]'hi).var) ∧
   w.cell? ⟨b,o+i*3+2,none⟩=some (.slice (l[i]'hi).A (l[i]'hi).args.length (l[i]'hi).cap):=by
 obtain⟨b,o,e,hb,hc⟩:=ak.at_ cA h.row hi;refine⟨b,o,e,hb,?_,?_,?_⟩
 ·have:=hc 0 (by decide);simpa [cA,Ty.cells] using this
 ·have:=hc 1 (by decide);simpa [cA,Ty.cells] using this
 ·have:=hc 2 (by decide);simpa [cA,Ty.cells] using this
end
noncomputable def aD (l:List Ty):Nat:=(l.map Ty.size).sum
theorem vn (l:List Ty) (t:Ty):aD (l++[t])=aD l+t.size:=by simp[aD]
theorem eH (l:List Ty){k:Nat}(h:k<l.length):aD (l.take (k+1))=aD (l.take k)+(l[k]'h).size:=by rw[ahl h,vn]
theorem ky (l:List Ty) (k:Nat):aD (l.take k)≤aD l:=by
 have:aD l=aD (l.take k)+aD (l.drop k):=by unfold aD;rw[←List.sum_append,←ahz,List.take_append_drop]
 omega
noncomputable def Ty.gU : Ty→Nat→List (Nat×Ty):=Ty.fold fun t l d=>(d,t) :: (l.map fun f=>f (d+1)).flatten
noncomputable def cq (l:List Ty) (d:Nat):List (Nat×Ty):=(l.map fun k=>k.gU d).flatten
theorem mf (t:Ty) (d:Nat):t.gU d=(d,t) :: cq t.args (d+1):=by
 unfold Ty.gU;rw[Ty.fold_eq];simp only[cq,List.map_map];rfl
theorem oW (l:List Ty) (d:Nat){k:Nat}(h:k<l.length):cq (l.take (k+1)) d=cq (l.take k) d++(l[k]'h).gU d:=by
 unfold cq;rw[ahl h,ahz,List.flatten_append]
 congr 1
 simp
theorem nK (l:List Ty) (d k:Nat):cq l d=cq (l.take k) d++cq (l.drop k) d:=by
 unfold cq;rw[←List.flatten_append,←ahz,List.take_append_drop]
theorem oX (t:Ty):∀d,(t.gU d).length=t.size:=by
 induction t using Ty.ind with
 |h t ih=>
 intro d;rw[mf,Ty.size_eq,ahy]
 congr 1
 unfold cq;rw[List.length_flatten,List.map_map]
 congr 1
 exact List.map_congr_left (fun k hk=>ih k hk (d+1))
theorem fW (l:List Nat) (m:Nat):l.foldr max 0≤m↔∀x∈l,x≤m:=by
 induction l with
 |nil=>simp
 |cons x l ih=>simp only[List.foldr_cons,List.mem_cons,forall_eq_or_imp];rw[←ih];omega
theorem vo (c:Nat):∀(t:Ty) (d:Nat),(∀p∈t.gU d,p.1≤c)↔d+t.depth≤c+1:=by
 intro t
 induction t using Ty.ind with
 |h t ih=>
 intro d;rw[mf,Ty.aN];have hk:(∀p∈cq t.args (d+1),p.1≤c)↔∀k∈t.args,d+1+k.depth≤c+1:=by
  unfold cq
  constructor
  ·intro h k hk;exact(ih k hk (d+1)).1 (fun p hp=>h p (List.mem_flatten.2 ⟨_,List.mem_map.2 ⟨k,hk,rfl⟩,hp⟩))
  ·intro h p hp;obtain⟨_,hl,hp⟩:=List.mem_flatten.1 hp;obtain⟨k,hk,rfl⟩:=List.mem_map.1 hl;exact(ih k hk (d+1)).2 (h k hk) p hp
 simp only[List.mem_cons,forall_eq_or_imp];rw[hk]
 constructor
 ·rintro⟨h1,h2⟩;have:(t.args.map Ty.depth).foldr max 0≤c - d:=(fW _ _).2 (fun x hx=>by
   obtain⟨k,hk,rfl⟩:=List.mem_map.1 hx;have:=h2 k hk;omega)
  omega
 ·intro h;refine⟨by omega,fun k hk => ?_⟩;have:=(fW (t.args.map Ty.depth) ((t.args.map Ty.depth).foldr max 0)).1 (ahi _) k.depth (List.mem_map.2 ⟨k,hk,rfl⟩);omega
theorem AJ (t:Ty):t.depth≤t.size:=by
 induction t using Ty.ind with
 |h t ih=>
 rw[Ty.aN,Ty.size_eq];have:∀l:List Ty,(∀k∈l,k.depth≤k.size)→(l.map Ty.depth).foldr max 0≤(l.map Ty.size).sum:=by
  intro l
  induction l with
  |nil=>simp
  |cons x l ih2=>
   intro h;have h1:=ih2 (fun k hk=>h k (List.mem_cons_of_mem _ hk));have h2:=h x (List.mem_cons_self ..);simp only[List.map_cons,List.foldr_cons,List.sum_cons];omega
 have:=this t.args ih;omega
theorem lF {t k:Ty}(h:k∈t.args):k.depth<t.depth:=by
 rw[Ty.aN t];have:=(fW (t.args.map Ty.depth) ((t.args.map Ty.depth).foldr max 0)).1 (ahi _) k.depth (List.mem_map.2 ⟨k,h,rfl⟩);omega
noncomputable def Ty.oY (f:Ty→Bool):Ty→Bool:=Ty.fold fun t l=>f t&&l.all id
theorem fX (f:Ty→Bool) (t:Ty):t.oY f=(f t&&t.args.all (Ty.oY f)):=by
 unfold Ty.oY;rw[Ty.fold_eq,List.all_map];rfl
theorem DN (f:Ty→Bool):∀(t:Ty) (d:Nat),t.oY f=(t.gU d).all fun p=>f p.2:=by
 intro t
 induction t using Ty.ind with
 |h t ih=>
 intro d;rw[fX,mf,List.all_cons]
 congr 1
 unfold cq;rw[List.all_flatten,List.all_map,Bool.eq_iff_iff,ahA,ahA];exact⟨fun h k hk=>by have:=h k hk;rw[ih k hk (d+1)] at this;exact this,fun h k hk=>by have:=h k hk;rw[ih k hk (d+1)];exact this⟩
noncomputable def bL (a b:Ty):Bool := @decide (a.pure=b.pure) (Classical.propDecidable _)
theorem eJ {a b:Ty}:bL a b=true↔a.pure=b.pure:=by unfold bL;exact @decide_eq_true_iff _ (Classical.propDecidable _)
theorem ji (a:Ty):bL a a=true:=eJ.2 rfl
theorem nL (a b:Ty):bL a b=(decide (a.aq=b.aq)&&decide (a.var=b.var)&&decide (a.args.length=b.args.length)&&(a.args.zip b.args).all fun p=>bL p.1 p.2):=by
 rw[Bool.eq_iff_iff,eJ,Ty.aG a,Ty.aG b];simp only[ahv,decide_eq_true_eq,ahA,Ty.Pure.mk.injEq]
 constructor
 ·rintro⟨h1,h2,h3⟩;have hl:a.args.length=b.args.length:=by simpa using congrArg List.length h3
  refine⟨⟨⟨h1,h2⟩,hl⟩,fun p hp => ?_⟩;obtain⟨i,hi,rfl⟩:=List.getElem_of_mem hp;rw[eJ,List.getElem_zip];have h4:(a.args.map Ty.pure)[i]?=(b.args.map Ty.pure)[i]?:=by rw[h3]
  have hi':i<a.args.length∧i<b.args.length:=by rw[List.length_zip] at hi;omega
  rw[List.getElem?_map,List.getElem?_map,ahw hi'.1,ahw hi'.2] at h4;simpa using h4
 ·rintro⟨⟨⟨h1,h2⟩,hl⟩,h⟩;refine⟨h1,h2,List.ext_getElem (by simpa using hl) (fun i h3 h4 => ?_)⟩;simp only[List.length_map] at h3 h4;rw[List.getElem_map,List.getElem_map];have:=h (a.args[i],b.args[i]) (by rw[List.mem_iff_getElem];exact⟨i,by rw[List.length_zip];omega,List.getElem_zip⟩);exact eJ.1 this
end Go.Proofs.YtigafbmabjglfaaGreatDoor
