import Derived.WalkKit
import Derived.Deep.Draws
namespace Go.Proofs.YtigafbmabjglfaaGreatDoor
open Go.RowKit
attribute [go_sem] Instr.field part isAgg asAgg
def ahg(p:Prop):Prop:=p
theorem ahg.o{p:Prop}(h:ahg p):p:=h
theorem aa {p:Prop}(h:p):ahg p:=h
def more (w:World) (l:List Obj) (d:Nat):World := { w with heap:=w.heap++l.toArray,drawn:=d }
section
variable (w : World) (l l':List Obj) (d d' n i:Nat) (v:Value) (o:Obj)
@[go_sem, simp] theorem PS : (more w l d).heap.size=w.heap.size+l.length:=by simp[more]
@[go_sem, simp] theorem PT : (more w l d).tape=w.tape:=rfl
@[go_sem, simp] theorem PU : (more w l d).drew=more w l (d+1):=rfl
@[go_sem, simp] theorem Nc : (more w l d).drewN n=more w l (d+n):=rfl
@[go_sem, simp] theorem rR : more (more w l d) l' d'=more w (l++l') d':=by
 simp[more,←List.append_toArray,Array.append_assoc]
@[go_sem, simp] theorem PV : more w.drew l d=more w l d:=rfl
@[go_sem, simp] theorem Nd : more (w.drewN n) l d=more w l d:=rfl
@[go_sem] theorem Mb : (w.drewN n).alloc o=(w.alloc o).drewN n:=rfl
@[go_sem] theorem IZ (a:Addr):(w.drewN n).setCell a v=(w.setCell a v).drewN n:=rfl
theorem AH (h:n<w.heap.size):(more w l d).heap[n]?=w.heap[n]?:=by
 simp only[more];rw[Array.getElem?_append_left h]
end
@[go_sem] theorem VN (x n1 n2:Nat):(x<x+n1+n2)=(0<n1∨0<n2):=by simp only[eq_iff_iff];omega
@[go_sem] theorem QB {x s:Nat}(n1 n2:Nat) (h:x<s):(x<s+n1+n2)=True:=by simp only[eq_iff_iff,iff_true];omega
@[go_sem] theorem QC {x s:Nat}(n1 n2 n3:Nat) (h:x<s):(x<s+n1+n2+n3)=True:=by simp only[eq_iff_iff,iff_true];omega
def Ext (w w':World):Prop:=∃l d,w'=more w l d
theorem Ext.refl (w:World):Ext w w:=⟨[],w.drawn,by simp[more]⟩
theorem Ext.trans {a b c:World}(h:Ext a b) (k:Ext b c):Ext a c:=by
 obtain⟨l,d,rfl⟩:=h;obtain⟨l',d',rfl⟩:=k;exact⟨_,_,rR ..⟩
theorem Ext.alloc {a b:World}(h:Ext a b) (o:Obj):Ext a (b.alloc o):=
 h.trans ⟨[o],b.drawn,by show({ b with heap:=b.heap.push o }:World)={ b with heap:=b.heap++[o].toArray,drawn:=b.drawn };simp⟩
theorem Ext.drew {a b:World}(h:Ext a b):Ext a b.drew:=h.trans ⟨[],b.drawn+1,by show({ b with drawn:=b.drawn+1 }:World)={ b with heap:=b.heap++[].toArray,drawn:=b.drawn+1 };simp⟩
theorem Ext.drewN {a b:World}(h:Ext a b) (n:Nat):Ext a (b.drewN n):=h.trans ⟨[],b.drawn+n,by show({ b with drawn:=b.drawn+n }:World)={ b with heap:=b.heap++[].toArray,drawn:=b.drawn+n };simp⟩
theorem Ext.more {a b:World}(h:Ext a b) (l:List Obj) (d:Nat):Ext a (more b l d):=h.trans ⟨l,d,rfl⟩
theorem eR (w : World) : Ext w w:=Ext.refl w
theorem eA {a b : World}(h:Ext a b)(o:Obj):Ext a (b.alloc o):=Ext.alloc h o
theorem eD {a b : World}(h:Ext a b):Ext a b.drew:=Ext.drew h
theorem eN {a b : World}(h:Ext a b)(n:Nat):Ext a (b.drewN n):=Ext.drewN h n
theorem eM {a b : World}(h:Ext a b)(l:List Obj)(d:Nat):Ext a (more b l d):=Ext.more h l d
theorem ahh {α:Type}{l:List α}{n:Nat}(h:n<l.length):l[n]∈l:=List.getElem_mem h
theorem ahi (n:Nat):n≤n:=Nat.le_refl n
theorem ahj (n:Nat):0≤n:=Nat.zero_le n
theorem ahk {a b:Prop}(h:a)(k:b):a∧b:=⟨h,k⟩
theorem ahl {α:Type}{l:List α}{n:Nat}(h:n<l.length):l.take (n+1)=l.take n++[l[n]]:=List.take_succ_eq_append_getElem h
theorem ahm {α:Type}{l:List α}{n:Nat}(h:l.length≤n):l.take n=l:=List.take_of_length_le h
theorem ahn {α:Type}{l m:List α}:(l++m).length=l.length+m.length:=List.length_append
theorem aho {a b c:Nat}(h:a≤b)(k:b≤c):a≤c:=Nat.le_trans h k
theorem ahp {α:Type}{l:List α}{i:Nat}:l.toArray[i]?=l[i]?:=List.getElem?_toArray
theorem ahq {α:Type}{a:α}{l:List α}:(a::l)[0]?=some a:=List.getElem?_cons_zero
theorem ahr {α:Type}{a:α}{l:List α}{i:Nat}:(a::l)[i+1]?=l[i]?:=List.getElem?_cons_succ
theorem ahs {α:Type}(l:List α)(i:Nat)(a:α):l.toArray.setIfInBounds i a=(l.set i a).toArray:=List.setIfInBounds_toArray l i a
theorem aht {α:Type}{a b:α}{l:List α}:(a::l).set 0 b=b::l:=List.set_cons_zero
theorem ahu {α:Type}{a b:α}{l:List α}{n:Nat}:(a::l).set (n+1) b=a::l.set n b:=List.set_cons_succ
theorem ahv (a b:Bool):((a&&b)=true)=(a=true∧b=true):=Bool.and_eq_true a b
theorem ahw {α:Type}{l:List α}{i:Nat}(h:i<l.length):l[i]?=some l[i]:=List.getElem?_eq_getElem h
theorem ahx {α:Type}{a b:α}:a∈[b]↔a=b:=List.mem_singleton
theorem ahy {α:Type}{a:α}{l:List α}:(a::l).length=l.length+1:=List.length_cons
theorem ahz {α β:Type}{f:α→β}{l m:List α}:(l++m).map f=l.map f++m.map f:=List.map_append
theorem ahA {α:Type}{p:α→Bool}{l:List α}:l.all p=true↔∀x,x∈l→p x=true:=List.all_eq_true
theorem Ext.pre {w:World}{l l':List Obj}{d d':Nat}(h:l <+: l'):Ext (Go.Proofs.YtigafbmabjglfaaGreatDoor.more w l d) (Go.Proofs.YtigafbmabjglfaaGreatDoor.more w l' d'):=by
 obtain⟨t,rfl⟩:=h;have:=(eR (Go.Proofs.YtigafbmabjglfaaGreatDoor.more w l d)).more t d'
 rwa [rR] at this
theorem Ext.below {w w':World}(h:Ext w w'):Below w.heap.size w w':=by
 obtain⟨l,d,rfl⟩:=h;exact⟨rfl,rfl,rfl,by simp,fun k hk=>AH w l d k hk⟩
theorem Ext.size {w w':World}(h:Ext w w'):w.heap.size≤w'.heap.size:=h.below.size
theorem Ext.heap {w w':World}(h:Ext w w'){n:Nat}(hn:n<w.heap.size):w'.heap[n]?=w.heap[n]?:=h.below.block n hn
theorem Ext.DL {w w':World}(h:w.grownBy w' none):Ext w w':=by
 refine⟨(w'.heap.toList.drop w.heap.size),w'.drawn,?_⟩;have e:w'.heap=w.heap++(w'.heap.toList.drop w.heap.size).toArray:=by
  apply Array.ext_getElem?
  intro k
  by_cases hk:k<w.heap.size
  ·rw[Array.getElem?_append_left hk,h.block k hk (by simp)]
  ·rw[Array.getElem?_append_right (Nat.le_of_not_lt hk)];simp only[ahp,List.getElem?_drop];rw[show w.heap.size+(k - w.heap.size)=k by omega];simp
 cases w';cases w;have h1:=h.os;have h2:=h.tape;have h3:=h.output;simp only[Go.Proofs.YtigafbmabjglfaaGreatDoor.more] at *;subst h1;subst h2;subst h3
 congr 1
theorem Ext.cg {B:Nat}{w w':World}(h:Below B w w') (hB:w.heap.size≤B):Ext w w':=
 Ext.DL ⟨h.os,h.tape,h.output,h.size,fun k hk _=>h.block k (by omega)⟩
theorem Ext.grown {w a b:World}{row:Option Nat}(h:Ext w a) (hg:a.grownBy b row) (hr:∀k,row=some k→w.heap.size≤k):Ext w b:=
 Ext.cg (h.below.grown hg h.size hr) (ahi _)
theorem Ext.setCell {w a:World}(h:Ext w a){p:Addr}(hp:w.heap.size≤p.block) (u:Value):Ext w (a.setCell p u):=
 Ext.cg (h.below.setCell hp u) (ahi _)
theorem aw {w:World}{c:Nat}{cs:Array Value}{t:TypeId}(h:w.heap[c]?=some (.cells cs t (0,0))) (i:Nat) (v:Value) :
  (w.setCell ⟨c,i,none⟩ v).heap[c]?=some (.cells (cs.setIfInBounds i v) t (0,0)):=by
 simp[World.setCell,Array.getElem?_modify,h]
section
variable (w : World) (l:List Obj) (d n i c:Nat) (v:Value) (o:Obj) (cs cs':Array Value) (t:TypeId)
end
structure Tok where
 kind:Int
 pos:Int
 n:Int
 text:ByteArray
def Row (w:World) (A:Option Addr) (size n:Nat) (xs:List Value):Prop:=
 xs.length=n*size∧(0<n→∃b o,A=some ⟨b,o,none⟩∧b<w.heap.size∧∀j u,xs[j]?=some u→w.cell? ⟨b,o+j,none⟩=some u)
section
variable {w w':World}{size n:Nat}{A:Option Addr}{xs:List Value}
theorem Row.nil (A:Option Addr) (size:Nat):Row w A size 0 []:=⟨by simp,fun h=>absurd h (by omega)⟩
theorem Row.keep (h:Row w A size n xs) (hs:w.heap.size≤w'.heap.size) (hk:∀b o,A=some ⟨b,o,none⟩→b<w.heap.size→w'.heap[b]?=w.heap[b]?):Row w' A size n xs:=
 ⟨h.1,fun hn=>by
  obtain⟨b,o,e,hb,hc⟩:=h.2 hn;exact⟨b,o,e,by omega,fun j u hu=>(World.cell?_of_block (a:=⟨b,o+j,none⟩) (hk b o e hb)).trans (hc j u hu)⟩⟩
theorem Row.ext (h:Row w A size n xs) (k:Ext w w'):Row w' A size n xs:=h.keep k.size fun _ _ _ hb=>k.heap hb
theorem Row.cut (h:Row w A size n xs){k cap:Nat}(hk:k≤n) (hc:n≤cap) :
  Row w (if cap=k then A else A.map (·.add (k*size))) size (n - k) (xs.drop (k*size)):=by
 refine⟨by rw[List.length_drop,h.1,Nat.sub_mul],fun hn => ?_⟩;obtain⟨b,o,rfl,hb,hcell⟩:=h.2 (by omega);rw[if_neg (by omega)];refine⟨b,o+k*size,?_,hb,fun j u hu => ?_⟩
 ·unfold Addr.add;simp only[Option.map_some]
  split
  ·rename_i h0;rw[h0];rfl
  ·rfl
 ·rw[Nat.add_assoc];exact hcell _ u (by rw[←hu,List.getElem?_drop])
end
theorem oQ {α:Type}(f:α→List Value) (k:Nat) (hf:∀x,(f x).length=k):∀(l:List α) (i j:Nat),j<k →
  (l.flatMap f)[i*k+j]?=(l[i]?).bind fun x=>(f x)[j]?
 | [],i,j,_=>by simp
 |x :: l,0,j,hj=>by
  simp only[List.flatMap_cons,Nat.zero_mul,Nat.zero_add,ahq,Option.bind_some];rw[List.getElem?_append_left (by rw[hf];exact hj)]
 |x :: l,i+1,j,hj=>by
  simp only[List.flatMap_cons,ahr];rw[List.getElem?_append_right (by rw[hf,Nat.succ_mul];omega),hf,show(i+1)*k+j - k=i*k+j by rw[Nat.succ_mul];omega];exact oQ f k hf l i j hj
theorem dW {α:Type}(f:α→List Value) (k:Nat) (hf:∀x,(f x).length=k) (l:List α):(l.flatMap f).length=l.length*k:=by
 induction l with
 |nil=>simp
 |cons x l ih=>simp only[List.flatMap_cons,ahn,ahy,ih,hf,Nat.succ_mul];omega
theorem nh {α:Type}(f:α→List Value) (k:Nat) (hf:∀x,(f x).length=k):∀(l:List α) (i:Nat),(l.flatMap f).drop (i*k)=(l.drop i).flatMap f
 |l,0=>by simp
 | [],i+1=>by simp
 |x :: l,i+1=>by
  simp only[List.flatMap_cons,List.drop_succ_cons];rw[show(i+1)*k=k+i*k by rw[Nat.succ_mul];omega,←List.drop_drop,List.drop_left' (hf x)];exact nh f k hf l i
structure M where
 rest:List Tok
 ep:Int
 nest:Nat
 err:Int
 pos:Int
namespace M
end M
namespace M
end M
end Go.Proofs.YtigafbmabjglfaaGreatDoor
