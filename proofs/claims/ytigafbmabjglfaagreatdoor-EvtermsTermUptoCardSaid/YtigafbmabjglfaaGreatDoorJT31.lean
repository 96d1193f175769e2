import Derived.Test.YtigafbmabjglfaaGreatDoorJT30
import Derived.ProofKit
import Derived.Deep.Slices
import Derived.Deep.Fields
import Derived.ChangeSame
namespace Go.Proofs.YtigafbmabjglfaaGreatDoor
open Go.RowKit Go.ChangeShapes Go.WideShapes Go.Deep
theorem uS {α:Type}{P:Nat→α→Prop}:∀n,(∀i,i<n→∃x,P i x)→∃xs:List α,xs.length=n∧∀i,i<n→∃x,xs[i]?=some x∧P i x
 |0,_=>⟨[],rfl,fun i hi=>absurd hi (by omega)⟩
 |n+1,h=>by
  obtain⟨xs,hl,hx⟩:=uS n (fun i hi=>h i (by omega));obtain⟨x,hp⟩:=h n (by omega);refine⟨xs++[x],by simp[hl],fun i hi => ?_⟩
  by_cases jF:i<n
  ·obtain⟨y,hy,hq⟩:=hx i jF;exact⟨y,by rw[List.getElem?_append_left (by omega)];exact hy,hq⟩
  ·have:i=n:=by omega
   subst this;exact⟨x,by rw[List.getElem?_append_right (by omega)];simp[hl],hp⟩
theorem uT (a:Addr) (i j:Nat):(a.add i).add j=a.add (i+j):=by
 unfold Addr.add
 by_cases hi:i=0<;>by_cases hj:j=0<;>simp[hi,hj,Nat.add_assoc]
theorem Row.xy {α:Type}{w:World}{a:Addr}{C base:Nat}(hC:0<C) (f:α→List Value) (hf:∀x,(f x).length=C) (xs:List α)
  (h:∀i,i<xs.length→∃x,xs[i]?=some x∧w.cells? base (a.add (i*C)) C=some (f x)):Row w (some a) C xs.length (xs.flatMap f):=by
 refine⟨dW f C hf xs,fun hn => ?_⟩;have key:∀i j,i<xs.length→j<C→∃u,(xs.flatMap f)[i*C+j]?=some u∧w.cell? (a.add (i*C+j))=some u:=by
  intro i j hi hj;obtain⟨x,hx,hc⟩:=h i hi;obtain⟨_,hl,hat⟩:=World.cells?_some hc;have h1:=hat j hj;rw[uT] at h1;have h2:(f x)[j]?=some ((f x)[j]'(by rw[hf];exact hj)):=ahw _;refine⟨_,?_,h1.trans h2⟩;rw[oQ f C hf xs i j hj,hx];exact h2
 have hspot:a.spot=none:=by
  obtain⟨u,_,hu⟩:=key 0 0 hn hC;have:w.cell? a=some u:=by simpa [Addr.add] using hu
  exact World.cell?_spot this
 obtain⟨b,o,sp⟩:=a;simp only at hspot;subst hspot;refine⟨b,o,rfl,?_,fun q u hu => ?_⟩
 ·obtain⟨u,_,hu⟩:=key 0 0 hn hC;exact World.block_lt_of_cell? w ⟨b,o,none⟩ (by simpa [Addr.add] using hu)
 ·have hq:q<xs.length*C:=by
   have:=(List.getElem?_eq_some_iff.1 hu).1
   rwa [dW f C hf xs] at this
  have hi:q / C<xs.length:=Nat.div_lt_of_lt_mul (by rw[Nat.mul_comm];exact hq);have hj:q % C<C:=Nat.mod_lt _ hC;obtain⟨u',h1,h2⟩:=key (q / C) (q % C) hi hj;have e:q / C*C+q % C=q:=by rw[Nat.mul_comm];exact Nat.div_add_mod q C
  rw[e] at h1 h2;rw[h1] at hu;injection hu with hu;subst hu
  by_cases Jf:q=0
  ·subst Jf;simpa [Addr.add] using h2
  ·simpa [Addr.add,Jf] using h2
section
variable {H : Type}{enc:TypeId×Value→H}{P:Program}{w:World}{base:Nat}{spare:Nat→Bool}{held:Bool}
end
theorem IM {α:Type}{P:Nat→α→Prop}{Q:α→Prop}(n:Nat) (h:∀i,i<n→∃x,P i x∧Q x):∃xs:List α,xs.length=n∧(∀i,i<n→∃x,xs[i]?=some x∧P i x)∧∀x∈xs,Q x:=by
 obtain⟨xs,hl,hx⟩:=uS (P:=fun i x=>P i x∧Q x) n h;refine⟨xs,hl,fun i hi => ?_,fun x hx' => ?_⟩
 ·obtain⟨x,e,hp,_⟩:=hx i hi;exact⟨x,e,hp⟩
 ·obtain⟨i,hi,rfl⟩:=List.getElem_of_mem hx';obtain⟨y,e,_,hq⟩:=hx i (by omega);rw[ahw hi] at e;injection e with e;rw[e];exact hq
section
variable {H : Type}{enc:TypeId×Value→H}{P:Program}{w:World}{base:Nat}{spare:Nat→Bool}{held:Bool}
theorem dr {t:TypeId}{k:IntKind}(ht:P.underlying t=some (.int k)) (n:Nat) (cs:List Value) (x:DataW H×List MemPlace) (h:DataW.trod enc P w base spare held n t cs=some x) :
  ∃a:Int,cs=[.int k a]∧(Lit.int k a).wf=true:=by
 obtain⟨s,e,_,hs⟩:=DataW.trod_int ht h;exact⟨s,e,hs⟩
end
end Go.Proofs.YtigafbmabjglfaaGreatDoor
