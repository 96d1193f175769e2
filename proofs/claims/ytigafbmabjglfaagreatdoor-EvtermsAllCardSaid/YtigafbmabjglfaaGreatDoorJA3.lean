import Derived.Test.YtigafbmabjglfaaGreatDoorJA2
import Derived.Test.YtigafbmabjglfaaGreatDoorProg
import Derived.WalkSpells
import Derived.WalkLawsBesides
import Derived.Deep.QuietTactic
import Derived.BigQuiet
namespace Go.Proofs.YtigafbmabjglfaaGreatDoor
open Go.RowKit
def ik {α:Type} [BEq α] (l:List α) (x:α):Int:=if l.any (· == x) then(l.findIdx (· == x):Nat) else -1
section
variable {α : Type} [BEq α] (l:List α) (x d:α)
theorem jx {k:Nat}(hk:k<l.length) (h:∀j,j<k→(l.getD j d == x)=false) (hx:(l.getD k d == x)=true):ik l x=k:=by
 have h1:l.any (· == x)=true:=List.any_eq_true.2 ⟨l.getD k d,by simp[hk],hx⟩;unfold ik;rw[if_pos h1]
 congr 1
 have h2:l.findIdx (· == x)≤k:=by
  rcases Nat.lt_or_ge k (l.findIdx (· == x)) with h3|h3
  ·have:=List.not_of_lt_findIdx h3;simp[hk] at hx;simp[hx] at this
  ·exact h3
 rcases Nat.lt_or_ge (l.findIdx (· == x)) k with h3|h3
 ·have h4:=h _ h3;have h5:l.findIdx (· == x)<l.length:=by omega
  have h6:=List.findIdx_getElem (w:=h5);simp[h5] at h4;simp[h4] at h6
 ·omega
theorem jy (h:∀j,j<l.length→(l.getD j d == x)=false):ik l x = -1:=by
 unfold ik;rw[if_neg];intro h1;obtain⟨y,hy,e⟩:=List.any_eq_true.1 h1;obtain⟨j,hj,rfl⟩:=List.getElem_of_mem hy;have:=h j hj;simp[hj,e] at this
theorem vp : decide ((0:Int)≤ik l x)=l.any (· == x):=by
 unfold ik
 split
 ·rename_i h;simp[h]
 ·rename_i h;simp only[Bool.not_eq_true] at h;rw[h];decide
end
set_option maxHeartbeats 1000000 in
theorem Ll (A:Option Addr) (cap:Nat) (l:List aj) (x:aj) (w:World) (h:dP w A l) (hle:l.length≤9223372036854775807) :
  Calls Tryz.prog 218 #[.slice A l.length cap,encStr x] w fun e w'=>e=.returned (.int .i64 (ik l x))∧w'=w:=by
 have pC:=aa (fun k => @jx _ _ l x [] k);have j7:=aa (jy l x []);have Hr:=aa h;clear h;generalize ik l x=R at *;go_enter Tryz.func218,Tryz.ntmps218;go_wp2
 go_loop [8] (fun i=>∃j:Nat,j≤l.length∧i=.int .i64 j∧aiE (∀i,i<j→(l.getD i [] == x)=false)) (fun i=>l.length - (intOf i).toNat)
 case atStart=>exact⟨0,aiH _,rfl,aa (fun i hi=>absurd hi (by omega))⟩
 case round=>
  obtain⟨j,hj,rfl,Hj⟩:=hrel
  by_cases hlt:j<l.length
  ·obtain⟨b,o,rfl,hb,hc⟩:=Hr.o.at_ hlt;have aN:(j:Int)<(l.length:Int):=by omega
   generalize hy:l.getD j []=y at hc;have Hy:=aa hy;clear hy;cases hs:(x == y)
   ·go_wp2
    go_round
    case rel=>
     refine⟨j+1,hlt,by go_num,aa (fun i hi => ?_)⟩
     by_cases xj:i=j
     ·rw[xj,Hy.o];rw[Bool.eq_false_iff] at hs ⊢;simp at hs ⊢;exact fun e=>hs e.symm
     ·exact Hj.o i (by omega)
    case measure=>simp[intOf];omega
   ·have hR:=pC.o j hlt Hj.o (by rw[Hy.o];simp at hs ⊢;exact hs.symm);subst hR;go_wp2;go_ret;exact⟨rfl,rfl⟩
  ·have bS:(l.length:Int)≤(j:Int):=by omega
   have hR:=j7.o (fun i hi=>Hj.o i (by omega));subst hR;go_wp2;go_ret;exact⟨rfl,rfl⟩
set_option maxHeartbeats 1000000 in
theorem SJ (A:Option Addr) (cap:Nat) (l:List aj) (x:aj) (w:World) (h:dP w A l) (hle:l.length≤9223372036854775807) :
  Calls Tryz.prog 186 #[.slice A l.length cap,encStr x] w fun e w'=>e=.returned (.bool (l.any (· == x)))∧w'=w:=by
 have Hi:=aa (Ll A cap l x w h hle);rw[←vp];clear h;generalize ik l x=R at *;go_enter Tryz.func186,Tryz.ntmps186;go_wp2_with fail;refine Hi.o.mono ?_;rintro e w1 ⟨rfl,rfl⟩;go_wp2;go_ret;exact⟨rfl,rfl⟩
noncomputable def aC (c:Nat):Ty→Bool:=Ty.qg fun t=>t.args.isEmpty || !(t.A.any fun a=>a.block == c)
theorem qh (c:Nat) (t:Ty):aC c t=((t.args.isEmpty || !(t.A.any fun a=>a.block == c))&&t.args.all (aC c)):=gR _ t
theorem dG {c:Nat}{s:aj}{v:Int}{A:Option Addr}{cap:Nat}{l:List Ty}(h1:l≠[]→∀a,A=some a→a.block≠c) (h2:∀k∈l,aC c k=true):aC c (.mk s v A cap l)=true:=by
 rw[qh,aiT,aiY];refine⟨?_,h2⟩;show(l.isEmpty || !(A.any fun a=>a.block == c))=true;cases l with
 |nil=>rfl
 |cons x l=>
  cases A with
  |none=>rfl
  |some a=>have:=h1 (by simp) a rfl;simp[this]
theorem fK {c:Nat}{t k:Ty}(h:aC c t=true) (hk:k∈t.args):aC c k=true:=by
 rw[qh,aiT,aiY] at h;exact h.2 k hk
theorem og {c:Nat}{t:Ty}(h:aC c t=true) (hn:t.args≠[]){a:Addr}(ha:t.A=some a):a.block≠c:=by
 rw[qh,aiT] at h;have h1:=h.1;rw[ha] at h1;cases e:t.args with
 |nil=>exact absurd e hn
 |cons x l=>rw[e] at h1;simpa using h1
section
variable {w w':World}{t:Ty}
theorem aP (h:aH w t){c:Nat}(hc:w.heap.size≤c):aC c t=true:=by
 induction h with
 |mk h1 h2 h3 h4 h5 ih=>
  rename_i t
  cases t with
  |mk s v A cap l=>
  refine dG (fun hn a ha => ?_) ih;obtain⟨b,o,e,hb,-⟩:=h4.2 (List.length_pos_iff.2 hn);subst ha;injection e with e;subst e;show b≠c;omega
theorem ew {A:Option Addr}{k n:Nat}{l:List Value}{row:Option Nat}(h:Row w A k n l) (hg:w.grownBy w' row) (hr:n≠0→∀a,A=some a→row≠some a.block):Row w' A k n l:=by
 refine⟨h.1,fun hn => ?_⟩;obtain⟨b,o,e,hb,hc⟩:=h.2 hn;have hx:=hg.block b hb (fun e2=>hr (by omega) _ e e2.symm);exact⟨b,o,e,Nat.lt_of_lt_of_le hb hg.size,fun j u hu=>(World.cell?_of_block hx).trans (hc j u hu)⟩
theorem aH.grown {row:Option Nat}(h:aH w t) (hg:w.grownBy w' row) (ha:∀c,row=some c→aC c t=true):aH w' t:=by
 induction h with
 |mk h1 h2 h3 h4 h5 ih=>
  rename_i t
  refine .mk h1 h2 h3 (ew h4 hg (fun hn a hA e => ?_)) (fun k hk=>ih k hk (fun c e=>fK (ha c e) hk));exact og (ha _ e) (fun e2=>hn (by rw[e2];rfl)) hA rfl
end
def putAt (vars:List Int) (types:List Ty) (v:Int):Option Ty:=
 if 0≤ik vars v then types[(ik vars v).toNat]? else none
noncomputable def fZ (vars:List Int) (types:List Ty):Ty→Ty.Pure:=
 Ty.fold fun t l=>if t.aq=[] then((putAt vars types t.var).getD t).pure else .mk t.aq t.var l
theorem eX (vars:List Int) (types:List Ty) (t:Ty) :
  fZ vars types t=if t.aq=[] then((putAt vars types t.var).getD t).pure else .mk t.aq t.var (t.args.map (fZ vars types)):=by
 unfold fZ;rw[Ty.fold_eq]
theorem iW {vars:List Int}{types:List Ty}{v:Int}{u:Ty}(h:putAt vars types v=some u):u∈types:=by
 unfold putAt at h
 split at h
 ·exact List.mem_of_getElem? h
 ·cases h
structure iX (w w':World) (vars:List Int) (types:List Ty) (t u:Ty):Prop where
 ty:aH w' u
 is:u.pure=fZ vars types t
 away:∀c,c<w.heap.size→aC c t=true→(∀k∈types,aC c k=true)→aC c u=true
theorem iX.old {w w1 w':World}{vars:List Int}{types:List Ty}{t u:Ty}(h:iX w1 w' vars types t u) (hs:w.heap.size≤w1.heap.size):iX w w' vars types t u:=⟨h.ty,h.is,fun c hc=>h.away c (by omega)⟩
theorem iX.var {w:World}{vars:List Int}{types:List Ty}{t:Ty}(hc:t.aq=[]) (ht:aH w t) (jr:∀k∈types,aH w k):iX w w vars types t ((putAt vars types t.var).getD t):=by
 cases e:putAt vars types t.var with
 |none=>exact⟨ht,by rw[eX,if_pos hc,e],fun c _ h _=>h⟩
 |some u=>exact⟨jr u (iW e),by rw[eX,if_pos hc,e,Option.getD_some],fun c _ _ h=>h u (iW e)⟩
theorem aL (w:World) (b i:Nat) (v:Value):w.grownBy (w.setCell ⟨b,i,none⟩ v) (some b):=
 ⟨rfl,rfl,rfl,by simp[World.setCell],fun k _ hk=>Below.heap_setCell w ⟨b,i,none⟩ v k (fun e=>hk (by rw[e]))⟩
theorem iX.ext {w w' w2:World}{vars:List Int}{types:List Ty}{t u:Ty}(h:iX w w' vars types t u) (e:Ext w' w2):iX w w2 vars types t u:=⟨h.ty.ext e,h.is,h.away⟩
structure cJ (w w':World) (R:Nat→Prop) (vars:List Int) (types l us:List Ty):Prop where
 len:us.length=l.length
 ty:∀u∈us,aH w' u
 is:us.map Ty.pure=l.map (fZ vars types)
 row:∀u∈us,∀c,R c→aC c u=true
 away:∀u∈us,∀c,c<w.heap.size→(∀k∈l,aC c k=true)→(∀k∈types,aC c k=true)→aC c u=true
section
variable {w w1 w2 w3 w':World}{R R':Nat→Prop}{vars:List Int}{types l us:List Ty}{t u:Ty}
theorem cJ.nil (w w':World) (R:Nat→Prop) (vars:List Int) (types:List Ty):cJ w w' R vars types [] []:=⟨rfl,by simp,rfl,by simp,by simp⟩
theorem cJ.ext (h:cJ w w1 R vars types l us) (e:Ext w1 w2):cJ w w2 R vars types l us:=⟨h.len,fun u hu=>(h.ty u hu).ext e,h.is,h.row,h.away⟩
theorem cJ.grown (h:cJ w w1 R vars types l us){row:Option Nat}(hg:w1.grownBy w2 row) (hr:∀c,row=some c→R c):cJ w w2 R vars types l us:=
 ⟨h.len,fun u hu=>(h.ty u hu).grown hg (fun c e=>h.row u hu c (hr c e)),h.is,h.row,h.away⟩
theorem cJ.rows (h:cJ w w1 R vars types l us) (hr:∀c,R' c→R c∨w1.heap.size≤c):cJ w w1 R' vars types l us:=
 ⟨h.len,h.ty,h.is,fun u hu c hc=>(hr c hc).elim (h.row u hu c) (fun hc=>aP (h.ty u hu) hc),h.away⟩
theorem cJ.snoc (h:cJ w w1 R vars types l us) (k:iX w1 w2 vars types t u) (he:Ext w1 w2)
  (ht:aH w t) (jr:∀k∈types,aH w k) (hs:w.heap.size≤w1.heap.size) (hr:∀c,R c→w.heap.size≤c∧c<w1.heap.size) :
  cJ w w2 R vars types (l++[t]) (us++[u]):=by
 refine⟨by simp[h.len],fun x hx => ?_,by rw[aiX,aiX,h.is];simp[k.is],fun x hx c hc => ?_,fun x hx c hc h1 h2 => ?_⟩
 ·rcases List.mem_append.1 hx with hx|hx
  ·exact(h.ty x hx).ext he
  ·rw[aiV] at hx;subst hx;exact k.ty
 ·rcases List.mem_append.1 hx with hx|hx
  ·exact h.row x hx c hc
  ·rw[aiV] at hx;subst hx;exact k.away c (hr c hc).2 (aP ht (hr c hc).1) (fun x hx=>aP (jr x hx) (hr c hc).1)
 ·rcases List.mem_append.1 hx with hx|hx
  ·exact h.away x hx c hc (fun k hk=>h1 k (List.mem_append.2 (.inl hk))) h2
  ·rw[aiV] at hx;subst hx;exact k.away c (by omega) (h1 t (by simp)) h2
theorem cJ.done {A:Option Addr}{cap:Nat}(h:cJ w w' R vars types t.args us) (hc:t.aq≠[]) (wY:t.aq.length≤9223372036854775807)
  (h1:us.length≤cap) (h2:cap≤9223372036854775807) (h3:ak dr w' A us) (hA:us≠[]→∀a,A=some a→w.heap.size≤a.block):iX w w' vars types t (.mk t.aq t.var A cap us) where
 ty:=aH.of h1 h2 wY h3 h.ty
 is:=by rw[Ty.aG,eX,if_neg hc];show Ty.Pure.mk _ _ (us.map Ty.pure)=_;rw[h.is];rfl
 away c hlt k1 k2:=dG (fun hn a ha=>by have:=hA hn a ha;omega) (fun u hu=>h.away u hu c hlt (fun k hk=>fK k1 hk) k2)
end
inductive Pf where
 |mk (kind n:Int) (T:Option Addr) (tc:Nat) (types:List Ty) (A:Option Addr) (cap:Nat) (kids:List Pf):Pf
namespace Pf
def kind : Pf→Int | .mk x _ _ _ _ _ _ _=>x
def n : Pf→Int | .mk _ x _ _ _ _ _ _=>x
def T : Pf→Option Addr | .mk _ _ x _ _ _ _ _=>x
def tc : Pf→Nat | .mk _ _ _ x _ _ _ _=>x
def types : Pf→List Ty | .mk _ _ _ _ x _ _ _=>x
def A : Pf→Option Addr | .mk _ _ _ _ _ x _ _=>x
def cap : Pf→Nat | .mk _ _ _ _ _ _ x _=>x
def kids : Pf→List Pf | .mk _ _ _ _ _ _ _ x=>x
theorem ind {p:Pf→Prop}(h:∀t,(∀k∈t.kids,p k)→p t) (t:Pf):p t:=
 Pf.rec (motive_1:=p) (motive_2:=fun l=>∀k∈l,p k) (fun _ _ _ _ _ _ _ _ hl=>h _ hl) (fun _ hk=>by cases hk)
  (fun _ _ hh ht k hk=>by rcases List.mem_cons.1 hk with rfl|hk;exact hh;exact ht k hk) t
noncomputable def fold {β:Type}(f:Pf→List β→β) (t:Pf):β:=
 Pf.rec (motive_1:=fun _=>β) (motive_2:=fun _=>List β) (fun k n T tc ts a c l r=>f (.mk k n T tc ts a c l) r) [] (fun _ _ h t=>h :: t) t
theorem fold_eq {β:Type}(f:Pf→List β→β) (t:Pf):t.fold f=f t (t.kids.map (fold f)):=by
 cases t with
 |mk k n T tc ts a c l=>
  show f _ _=f _ _
  congr 1
  show Pf.rec_1 (motive_1:=fun _=>β) (motive_2:=fun _=>List β) _ _ _ l=l.map (fold f)
  induction l with
  |nil=>rfl
  |cons x l ih=>exact congrArg (x.fold f :: ·) ih
noncomputable def size : Pf→Nat:=fold fun _ l=>l.sum+1
theorem size_eq (t:Pf):t.size=(t.kids.map size).sum+1:=fold_eq _ t
theorem size_pos (t:Pf):0<t.size:=by rw[size_eq];omega
theorem cF {t k:Pf}(h:k∈t.kids):k.size<t.size:=by rw[size_eq t];have:=Tree.kO size h;omega
theorem qi (t:Pf):t.kids.length<t.size:=by
 rw[size_eq t];have:∀l:List Pf,l.length≤(l.map size).sum:=by
  intro l
  induction l with
  |nil=>simp
  |cons x l ih=>have:=size_pos x;simp only[aiW,List.map_cons,List.sum_cons];omega
 have:=this t.kids;omega
inductive Pure where
 |mk (kind n:Int) (types:List Ty.Pure) (kids:List Pure):Pure
noncomputable def pure : Pf→Pure:=fold fun t l=>.mk t.kind t.n (t.types.map Ty.pure) l
theorem aG (t:Pf):t.pure=.mk t.kind t.n (t.types.map Ty.pure) (t.kids.map pure):=fold_eq _ t
def zero : Pf:=.mk 0 0 none 0 [] none 0 []
end Pf
def Pf.cells (t:Pf):List Value:=[.int .i64 t.kind,.int .i64 t.n,.slice t.T t.types.length t.tc,.slice t.A t.kids.length t.cap]
def si : fH Pf:=⟨4,Pf.cells,fun _=>rfl,by omega⟩
@[go_sem] def bM (t:Pf):Value:=.agg #[.int .i64 t.kind,.int .i64 t.n,.slice t.T t.types.length t.tc,.slice t.A t.kids.length t.cap]
structure FU (w:World) (t:Pf):Prop where
 FV:t.types.length≤t.tc
 qj:t.tc≤9223372036854775807
 le:t.kids.length≤t.cap
 max:t.cap≤9223372036854775807
 types:bH w t.T t.types
 row:ak si w t.A t.kids
inductive bW (w:World):Pf→Prop
 |mk {t:Pf}(hd:FU w t) (kids:∀k∈t.kids,bW w k):bW w t
structure mW (w:World) (A:Option Addr) (l:List Pf):Prop where
 row:ak si w A l
 kids:∀k∈l,bW w k
section
variable {w w':World}{t:Pf}
theorem FU.old (h:FU w t) (k:Below w.heap.size w w'):FU w' t:=
 ⟨h.FV,h.qj,h.le,h.max,h.types.old k,Row.old h.row k.block k.size⟩
theorem bW.hd (h:bW w t):FU w t:=by cases h;assumption
theorem bW.all (h:bW w t):mW w t.A t.kids:=by cases h with|mk h k=>exact⟨h.row,k⟩
theorem bW.old (h:bW w t) (k:Below w.heap.size w w'):bW w' t:=by
 induction h with
 |mk h1 _ ih=>exact .mk (h1.old k) ih
theorem bW.ext (h:bW w t) (k:Ext w w'):bW w' t:=h.old k.below
theorem mW.old {A:Option Addr}{l:List Pf}(h:mW w A l) (k:Below w.heap.size w w'):mW w' A l:=⟨Row.old h.row k.block k.size,fun x hx=>(h.kids x hx).old k⟩
theorem mW.ext {A:Option Addr}{l:List Pf}(h:mW w A l) (k:Ext w w'):mW w' A l:=h.old k.below
theorem mW.at_ {A:Option Addr}{l:List Pf}(h:mW w A l){i:Nat}(hi:i<l.length) :
  ∃b o,A=some ⟨b,o,none⟩∧b<w.heap.size∧w.cell? ⟨b,o+i*4,none⟩=some (.int .i64 (l[i]'hi).kind)∧w.cell? ⟨b,o+i*4+1,none⟩=some (.int .i64 (l[i]'hi).n) ∧
   w.cell? ⟨b,o+i*4+2,none⟩=some (.slice (l[i]'hi).T (l[i]'hi).types.length (l[i]'hi).tc)∧w.cell? ⟨b,o+i*4+3,none⟩=some (.slice (l[i]'hi).A (l[i]'hi).kids.length (l[i]'hi).cap):=by
 obtain⟨b,o,e,hb,hc⟩:=ak.at_ si h.row hi;refine⟨b,o,e,hb,?_,?_,?_,?_⟩
 ·have:=hc 0 (by decide);simpa [si,Pf.cells] using this
 ·have:=hc 1 (by decide);simpa [si,Pf.cells] using this
 ·have:=hc 2 (by decide);simpa [si,Pf.cells] using this
 ·have:=hc 3 (by decide);simpa [si,Pf.cells] using this
end
noncomputable def dA (l:List Pf):Nat:=(l.map Pf.size).sum
theorem xk (l:List Pf) (t:Pf):dA (l++[t])=dA l+t.size:=by simp[dA]
theorem oT (l:List Pf){k:Nat}(h:k<l.length):dA (l.take (k+1))=dA (l.take k)+(l[k]'h).size:=by rw[aiJ h,xk]
theorem tH (l:List Pf) (k:Nat):dA (l.take k)≤dA l:=by
 have:dA l=dA (l.take k)+dA (l.drop k):=by unfold dA;rw[←List.sum_append,←aiX,List.take_append_drop]
 omega
def lx (n:Nat):UInt8:=UInt8.ofNat n
def cj (n:Nat):aj:=if n<10 then [lx (48+n)] else cj (n / 10)++[lx (48+n % 10)]
termination_by n
theorem mX {n:Nat}(h:n<10):cj n=[lx (48+n)]:=by rw[cj,if_pos h]
theorem pO {n:Nat}(h:¬n<10):cj n=cj (n / 10)++[lx (48+n % 10)]:=by rw[cj,if_neg h]
theorem iY : ∀(k n:Nat),n<10 ^ (k+1)→(cj n).length≤k+1:=by
 intro k
 induction k with
 |zero=>intro n h;rw[mX (by omega)];simp
 |succ k ih=>
  intro n h
  by_cases h1:n<10
  ·rw[mX h1];simp
  ·rw[pO h1,aiL];have:=ih (n / 10) (by rw[Nat.pow_succ] at h;omega);simp;omega
theorem FW (n:Nat):0<(cj n).length:=by
 by_cases h:n<10
 ·rw[mX h];simp
 ·rw[pO h];simp
def letter (n:Int):aj:=if n<0 then [] else lx (97+n.toNat % 26) :: (if n<26 then [] else cj (n.toNat / 26))
def iF (v:Int):aj:=if 0≤v then letter v else 63 :: cj (-1 - v).toNat
def iZ (b:UInt8):Bool:=decide (48≤((b.toNat:Nat):Int))&&decide (((b.toNat:Nat):Int)≤57)
def cK : Nat→aj→Option Nat
 |n,[]=>some n
 |n,b :: l=>if n>(9223372036854775807 - (b.toNat - 48)) / 10 then none else cK (10*n+(b.toNat - 48)) l
theorem kh (n:Nat) (b:UInt8) (l:aj):cK n (b :: l)=if n>(9223372036854775807 - (b.toNat - 48)) / 10 then none else cK (10*n+(b.toNat - 48)) l:=rfl
theorem ql (n:Nat):cK n []=some n:=rfl
def cU (s:aj):Int×Int:=
 if s=[]∨s.all iZ=false then(0,5) else match cK 0 s with
  |some n=>((n:Int),0)
  |none=>(0,4)
theorem CP : cU []=(0,5):=rfl
theorem tI {s:aj}(h:s.all iZ=false):cU s=(0,5):=by unfold cU;rw[if_pos (.inr h)]
theorem qm {s:aj}{n:Nat}(h0:s≠[]) (h:s.all iZ=true) (k:cK 0 s=some n):cU s=((n:Int),0):=by
 unfold cU;rw[if_neg (by simp[h0,h]),k]
theorem qo {s:aj}(h0:s≠[]) (h:s.all iZ=true) (k:cK 0 s=none):cU s=(0,4):=by
 unfold cU;rw[if_neg (by simp[h0,h]),k]
theorem CQ : ∀(l:aj) (n m:Nat),l.all iZ=true→n≤9223372036854775807→cK n l=some m→m≤9223372036854775807:=by
 intro l
 induction l with
 |nil=>intro n m _ hn h;simp[cK] at h;omega
 |cons b l ih=>
  intro n m hd hn h;rw[List.all_cons,aiT] at hd;have h1:48≤b.toNat∧b.toNat≤57:=by have:=hd.1;unfold iZ at this;simp at this;omega
  unfold cK at h
  split at h
  ·cases h
  ·exact ih _ m hd.2 (by omega) h
theorem mY (s:aj):0≤(cU s).1∧(cU s).1≤9223372036854775807:=by
 unfold cU
 split
 ·exact⟨Int.le_refl _,by decide⟩
 ·rename_i h
  simp only[not_or,Bool.not_eq_false] at h;cases hg:cK 0 s with
  |none=>exact⟨Int.le_refl _,by decide⟩
  |some n=>exact⟨by show(0:Int)≤(n:Int);omega,by have:=CQ s 0 n h.2 (by omega) hg;show(n:Int)≤_;omega⟩
def fL (s:aj):Bool := !(s == [])&&(s.headD 0 == 33)&&((cU (s.drop 1)).2 == 0)&&(cj (cU (s.drop 1)).1.toNat == s.drop 1)
def im (b:Bool) (s:aj):aj:=if b then [40]++s++[41] else s
noncomputable def cq : Ty→aj:=Ty.fold fun t (l:List aj)=>
 if t.aq=[45,62]∧t.args.length=2 then im (decide ((t.args.getD 0 Ty.zero).aq=[45,62])) (l.getD 0 [])++([32,45,62,32]:aj)++l.getD 1 []
 else(if t.aq=[] then iF t.var else t.aq)++((t.args.zip l).map fun p=>([32]:aj)++im (decide (0<p.1.args.length)) p.2).flatten
theorem tJ {t:Ty}(h:t.aq=[45,62]) (h0:0<t.args.length) (h1:1<t.args.length) (h2:t.args.length=2) :
  cq t=im (decide ((t.args[0]'h0).aq=[45,62])) (cq (t.args[0]'h0))++([32,45,62,32]:aj)++cq (t.args[1]'h1):=by
 unfold cq;rw[Ty.fold_eq,if_pos ⟨h,h2⟩];simp only[List.getD_eq_getElem?_getD,List.getElem?_map,aiU h0,aiU h1,Option.map_some,Option.getD_some]
noncomputable def cO (l:List Ty):aj:=(l.map fun a=>([32]:aj)++im (decide (0<a.args.length)) (cq a)).flatten
theorem vq {α β:Type}(l:List α) (f:α→β):l.zip (l.map f)=l.map fun a=>(a,f a):=by
 induction l with
 |nil=>rfl
 |cons x l ih=>simp[ih]
theorem mh {t:Ty}(h:¬(t.aq=[45,62]∧t.args.length=2)):cq t=(if t.aq=[] then iF t.var else t.aq)++cO t.args:=by
 unfold cq;rw[Ty.fold_eq,if_neg h];unfold cO
 congr 2
 rw[vq,List.map_map];rfl
theorem qp (l:List Ty){k:Nat}(h:k<l.length):cO (l.take (k+1))=cO (l.take k)++(([32]:aj)++im (decide (0<(l[k]'h).args.length)) (cq (l[k]'h))):=by
 unfold cO;rw[aiJ h,aiX,List.flatten_append];simp
end Go.Proofs.YtigafbmabjglfaaGreatDoor
