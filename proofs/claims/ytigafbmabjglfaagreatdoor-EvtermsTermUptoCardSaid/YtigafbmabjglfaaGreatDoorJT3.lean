import Derived.Test.YtigafbmabjglfaaGreatDoorJT2
import Derived.Test.YtigafbmabjglfaaGreatDoorProg
import Derived.WalkSpells
import Derived.WalkLawsBesides
import Derived.Deep.QuietTactic
import Derived.BigQuiet
namespace Go.Proofs.YtigafbmabjglfaaGreatDoor
open Go.RowKit
def gV {α:Type} [BEq α] (l:List α) (x:α):Int:=if l.any (· == x) then(l.findIdx (· == x):Nat) else -1
section
variable {α : Type} [BEq α] (l:List α) (x d:α)
theorem kz {k:Nat}(hk:k<l.length) (h:∀j,j<k→(l.getD j d == x)=false) (hx:(l.getD k d == x)=true):gV l x=k:=by
 have h1:l.any (· == x)=true:=List.any_eq_true.2 ⟨l.getD k d,by simp[hk],hx⟩;unfold gV;rw[if_pos h1]
 congr 1
 have h2:l.findIdx (· == x)≤k:=by
  rcases Nat.lt_or_ge k (l.findIdx (· == x)) with h3|h3
  ·have:=List.not_of_lt_findIdx h3;simp[hk] at hx;simp[hx] at this
  ·exact h3
 rcases Nat.lt_or_ge (l.findIdx (· == x)) k with h3|h3
 ·have h4:=h _ h3;have h5:l.findIdx (· == x)<l.length:=by omega
  have h6:=List.findIdx_getElem (w:=h5);simp[h5] at h4;simp[h4] at h6
 ·omega
theorem kA (h:∀j,j<l.length→(l.getD j d == x)=false):gV l x = -1:=by
 unfold gV;rw[if_neg];intro h1;obtain⟨y,hy,e⟩:=List.any_eq_true.1 h1;obtain⟨j,hj,rfl⟩:=List.getElem_of_mem hy;have:=h j hj;simp[hj,e] at this
theorem tL : decide ((0:Int)≤gV l x)=l.any (· == x):=by
 unfold gV
 split
 ·rename_i h;simp[h]
 ·rename_i h;simp only[Bool.not_eq_true] at h;rw[h];decide
end
set_option maxHeartbeats 1000000 in
theorem Jz (A:Option Addr) (cap:Nat) (l:List aj) (x:aj) (w:World) (h:jh w A l) (hle:l.length≤9223372036854775807) :
  Calls Tryz.prog 218 #[.slice A l.length cap,encStr x] w fun e w'=>e=.returned (.int .i64 (gV l x))∧w'=w:=by
 have xM:=aa (fun k => @kz _ _ l x [] k);have qR:=aa (kA l x []);have Hr:=aa h;clear h;generalize gV l x=R at *;go_enter Tryz.func218,Tryz.ntmps218;go_wp2
 go_loop [8] (fun i=>∃j:Nat,j≤l.length∧i=.int .i64 j∧ahg (∀i,i<j→(l.getD i [] == x)=false)) (fun i=>l.length - (intOf i).toNat)
 case atStart=>exact⟨0,ahj _,rfl,aa (fun i hi=>absurd hi (by omega))⟩
 case round=>
  obtain⟨j,hj,rfl,Hj⟩:=hrel
  by_cases hlt:j<l.length
  ·obtain⟨b,o,rfl,hb,hc⟩:=Hr.o.at_ hlt;have aS:(j:Int)<(l.length:Int):=by omega
   generalize hy:l.getD j []=y at hc;have Hy:=aa hy;clear hy;cases hs:(x == y)
   ·go_wp2
    go_round
    case rel=>
     refine⟨j+1,hlt,by go_num,aa (fun i hi => ?_)⟩
     by_cases AK:i=j
     ·rw[AK,Hy.o];rw[Bool.eq_false_iff] at hs ⊢;simp at hs ⊢;exact fun e=>hs e.symm
     ·exact Hj.o i (by omega)
    case measure=>simp[intOf];omega
   ·have hR:=xM.o j hlt Hj.o (by rw[Hy.o];simp at hs ⊢;exact hs.symm);subst hR;go_wp2;go_ret;exact⟨rfl,rfl⟩
  ·have bU:(l.length:Int)≤(j:Int):=by omega
   have hR:=qR.o (fun i hi=>Hj.o i (by omega));subst hR;go_wp2;go_ret;exact⟨rfl,rfl⟩
set_option maxHeartbeats 1000000 in
theorem QD (A:Option Addr) (cap:Nat) (l:List aj) (x:aj) (w:World) (h:jh w A l) (hle:l.length≤9223372036854775807) :
  Calls Tryz.prog 186 #[.slice A l.length cap,encStr x] w fun e w'=>e=.returned (.bool (l.any (· == x)))∧w'=w:=by
 have Hi:=aa (Jz A cap l x w h hle);rw[←tL];clear h;generalize gV l x=R at *;go_enter Tryz.func186,Tryz.ntmps186;go_wp2_with fail;refine Hi.o.mono ?_;rintro e w1 ⟨rfl,rfl⟩;go_wp2;go_ret;exact⟨rfl,rfl⟩
noncomputable def aF (c:Nat):Ty→Bool:=Ty.oY fun t=>t.args.isEmpty || !(t.A.any fun a=>a.block == c)
theorem oZ (c:Nat) (t:Ty):aF c t=((t.args.isEmpty || !(t.A.any fun a=>a.block == c))&&t.args.all (aF c)):=fX _ t
theorem dE {c:Nat}{s:aj}{v:Int}{A:Option Addr}{cap:Nat}{l:List Ty}(h1:l≠[]→∀a,A=some a→a.block≠c) (h2:∀k∈l,aF c k=true):aF c (.mk s v A cap l)=true:=by
 rw[oZ,ahv,ahA];refine⟨?_,h2⟩;show(l.isEmpty || !(A.any fun a=>a.block == c))=true;cases l with
 |nil=>rfl
 |cons x l=>
  cases A with
  |none=>rfl
  |some a=>have:=h1 (by simp) a rfl;simp[this]
theorem iy {c:Nat}{t k:Ty}(h:aF c t=true) (hk:k∈t.args):aF c k=true:=by
 rw[oZ,ahv,ahA] at h;exact h.2 k hk
theorem rS {c:Nat}{t:Ty}(h:aF c t=true) (hn:t.args≠[]){a:Addr}(ha:t.A=some a):a.block≠c:=by
 rw[oZ,ahv] at h;have h1:=h.1;rw[ha] at h1;cases e:t.args with
 |nil=>exact absurd e hn
 |cons x l=>rw[e] at h1;simpa using h1
section
variable {w w':World}{t:Ty}
theorem aU (h:aC w t){c:Nat}(hc:w.heap.size≤c):aF c t=true:=by
 induction h with
 |mk h1 h2 h3 h4 h5 ih=>
  rename_i t
  cases t with
  |mk s v A cap l=>
  refine dE (fun hn a ha => ?_) ih;obtain⟨b,o,e,hb,-⟩:=h4.2 (List.length_pos_iff.2 hn);subst ha;injection e with e;subst e;show b≠c;omega
theorem dI {A:Option Addr}{k n:Nat}{l:List Value}{row:Option Nat}(h:Row w A k n l) (hg:w.grownBy w' row) (hr:n≠0→∀a,A=some a→row≠some a.block):Row w' A k n l:=by
 refine⟨h.1,fun hn => ?_⟩;obtain⟨b,o,e,hb,hc⟩:=h.2 hn;have hx:=hg.block b hb (fun e2=>hr (by omega) _ e e2.symm);exact⟨b,o,e,Nat.lt_of_lt_of_le hb hg.size,fun j u hu=>(World.cell?_of_block hx).trans (hc j u hu)⟩
theorem aC.grown {row:Option Nat}(h:aC w t) (hg:w.grownBy w' row) (ha:∀c,row=some c→aF c t=true):aC w' t:=by
 induction h with
 |mk h1 h2 h3 h4 h5 ih=>
  rename_i t
  refine .mk h1 h2 h3 (dI h4 hg (fun hn a hA e => ?_)) (fun k hk=>ih k hk (fun c e=>iy (ha c e) hk));exact rS (ha _ e) (fun e2=>hn (by rw[e2];rfl)) hA rfl
end
def putAt (vars:List Int) (types:List Ty) (v:Int):Option Ty:=
 if 0≤gV vars v then types[(gV vars v).toNat]? else none
noncomputable def fF (vars:List Int) (types:List Ty):Ty→Ty.Pure:=
 Ty.fold fun t l=>if t.aq=[] then((putAt vars types t.var).getD t).pure else .mk t.aq t.var l
theorem ek (vars:List Int) (types:List Ty) (t:Ty) :
  fF vars types t=if t.aq=[] then((putAt vars types t.var).getD t).pure else .mk t.aq t.var (t.args.map (fF vars types)):=by
 unfold fF;rw[Ty.fold_eq]
theorem iz {vars:List Int}{types:List Ty}{v:Int}{u:Ty}(h:putAt vars types v=some u):u∈types:=by
 unfold putAt at h
 split at h
 ·exact List.mem_of_getElem? h
 ·cases h
structure iA (w w':World) (vars:List Int) (types:List Ty) (t u:Ty):Prop where
 ty:aC w' u
 is:u.pure=fF vars types t
 away:∀c,c<w.heap.size→aF c t=true→(∀k∈types,aF c k=true)→aF c u=true
theorem iA.old {w w1 w':World}{vars:List Int}{types:List Ty}{t u:Ty}(h:iA w1 w' vars types t u) (hs:w.heap.size≤w1.heap.size):iA w w' vars types t u:=⟨h.ty,h.is,fun c hc=>h.away c (by omega)⟩
theorem iA.var {w:World}{vars:List Int}{types:List Ty}{t:Ty}(hc:t.aq=[]) (ht:aC w t) (jb:∀k∈types,aC w k):iA w w vars types t ((putAt vars types t.var).getD t):=by
 cases e:putAt vars types t.var with
 |none=>exact⟨ht,by rw[ek,if_pos hc,e],fun c _ h _=>h⟩
 |some u=>exact⟨jb u (iz e),by rw[ek,if_pos hc,e,Option.getD_some],fun c _ _ h=>h u (iz e)⟩
theorem aK (w:World) (b i:Nat) (v:Value):w.grownBy (w.setCell ⟨b,i,none⟩ v) (some b):=
 ⟨rfl,rfl,rfl,by simp[World.setCell],fun k _ hk=>Below.heap_setCell w ⟨b,i,none⟩ v k (fun e=>hk (by rw[e]))⟩
theorem iA.ext {w w' w2:World}{vars:List Int}{types:List Ty}{t u:Ty}(h:iA w w' vars types t u) (e:Ext w' w2):iA w w2 vars types t u:=⟨h.ty.ext e,h.is,h.away⟩
structure cF (w w':World) (R:Nat→Prop) (vars:List Int) (types l us:List Ty):Prop where
 len:us.length=l.length
 ty:∀u∈us,aC w' u
 is:us.map Ty.pure=l.map (fF vars types)
 row:∀u∈us,∀c,R c→aF c u=true
 away:∀u∈us,∀c,c<w.heap.size→(∀k∈l,aF c k=true)→(∀k∈types,aF c k=true)→aF c u=true
section
variable {w w1 w2 w3 w':World}{R R':Nat→Prop}{vars:List Int}{types l us:List Ty}{t u:Ty}
theorem cF.nil (w w':World) (R:Nat→Prop) (vars:List Int) (types:List Ty):cF w w' R vars types [] []:=⟨rfl,by simp,rfl,by simp,by simp⟩
theorem cF.ext (h:cF w w1 R vars types l us) (e:Ext w1 w2):cF w w2 R vars types l us:=⟨h.len,fun u hu=>(h.ty u hu).ext e,h.is,h.row,h.away⟩
theorem cF.grown (h:cF w w1 R vars types l us){row:Option Nat}(hg:w1.grownBy w2 row) (hr:∀c,row=some c→R c):cF w w2 R vars types l us:=
 ⟨h.len,fun u hu=>(h.ty u hu).grown hg (fun c e=>h.row u hu c (hr c e)),h.is,h.row,h.away⟩
theorem cF.rows (h:cF w w1 R vars types l us) (hr:∀c,R' c→R c∨w1.heap.size≤c):cF w w1 R' vars types l us:=
 ⟨h.len,h.ty,h.is,fun u hu c hc=>(hr c hc).elim (h.row u hu c) (fun hc=>aU (h.ty u hu) hc),h.away⟩
theorem cF.snoc (h:cF w w1 R vars types l us) (k:iA w1 w2 vars types t u) (he:Ext w1 w2)
  (ht:aC w t) (jb:∀k∈types,aC w k) (hs:w.heap.size≤w1.heap.size) (hr:∀c,R c→w.heap.size≤c∧c<w1.heap.size) :
  cF w w2 R vars types (l++[t]) (us++[u]):=by
 refine⟨by simp[h.len],fun x hx => ?_,by rw[ahz,ahz,h.is];simp[k.is],fun x hx c hc => ?_,fun x hx c hc h1 h2 => ?_⟩
 ·rcases List.mem_append.1 hx with hx|hx
  ·exact(h.ty x hx).ext he
  ·rw[ahx] at hx;subst hx;exact k.ty
 ·rcases List.mem_append.1 hx with hx|hx
  ·exact h.row x hx c hc
  ·rw[ahx] at hx;subst hx;exact k.away c (hr c hc).2 (aU ht (hr c hc).1) (fun x hx=>aU (jb x hx) (hr c hc).1)
 ·rcases List.mem_append.1 hx with hx|hx
  ·exact h.away x hx c hc (fun k hk=>h1 k (List.mem_append.2 (.inl hk))) h2
  ·rw[ahx] at hx;subst hx;exact k.away c (by omega) (h1 t (by simp)) h2
theorem cF.done {A:Option Addr}{cap:Nat}(h:cF w w' R vars types t.args us) (hc:t.aq≠[]) (uW:t.aq.length≤9223372036854775807)
  (h1:us.length≤cap) (h2:cap≤9223372036854775807) (h3:ak cA w' A us) (hA:us≠[]→∀a,A=some a→w.heap.size≤a.block):iA w w' vars types t (.mk t.aq t.var A cap us) where
 ty:=aC.of h1 h2 uW h3 h.ty
 is:=by rw[Ty.aG,ek,if_neg hc];show Ty.Pure.mk _ _ (us.map Ty.pure)=_;rw[h.is];rfl
 away c hlt k1 k2:=dE (fun hn a ha=>by have:=hA hn a ha;omega) (fun u hu=>h.away u hu c hlt (fun k hk=>iy k1 hk) k2)
end
inductive Pf where
 |mk (kind n:Int) (T:Option Addr) (tc:Nat) (types:List Ty) (A:Option Addr) (cap:Nat) (kids:List Pf):Pf
namespace Pf
def kind : Pf→Int | .mk x _ _ _ _ _ _ _=>x
def n : Pf→Int | .mk _ x _ _ _ _ _ _=>x
def T : Pf→Option Addr | .mk _ _ x _ _ _ _ _=>x
def tc : Pf→Nat | .mk _ _ _ x _ _ _ _=>x
def types : Pf→List Ty | .mk _ _ _ _ x _ _ _=>x
def A : Pf→Option Addr | .mk _ _ _ _ _ x _ _=>x
def cap : Pf→Nat | .mk _ _ _ _ _ _ x _=>x
def kids : Pf→List Pf | .mk _ _ _ _ _ _ _ x=>x
theorem ind {p:Pf→Prop}(h:∀t,(∀k∈t.kids,p k)→p t) (t:Pf):p t:=
 Pf.rec (motive_1:=p) (motive_2:=fun l=>∀k∈l,p k) (fun _ _ _ _ _ _ _ _ hl=>h _ hl) (fun _ hk=>by cases hk)
  (fun _ _ hh ht k hk=>by rcases List.mem_cons.1 hk with rfl|hk;exact hh;exact ht k hk) t
noncomputable def fold {β:Type}(f:Pf→List β→β) (t:Pf):β:=
 Pf.rec (motive_1:=fun _=>β) (motive_2:=fun _=>List β) (fun k n T tc ts a c l r=>f (.mk k n T tc ts a c l) r) [] (fun _ _ h t=>h :: t) t
theorem fold_eq {β:Type}(f:Pf→List β→β) (t:Pf):t.fold f=f t (t.kids.map (fold f)):=by
 cases t with
 |mk k n T tc ts a c l=>
  show f _ _=f _ _
  congr 1
  show Pf.rec_1 (motive_1:=fun _=>β) (motive_2:=fun _=>List β) _ _ _ l=l.map (fold f)
  induction l with
  |nil=>rfl
  |cons x l ih=>exact congrArg (x.fold f :: ·) ih
noncomputable def size : Pf→Nat:=fold fun _ l=>l.sum+1
theorem size_eq (t:Pf):t.size=(t.kids.map size).sum+1:=fold_eq _ t
theorem size_pos (t:Pf):0<t.size:=by rw[size_eq];omega
noncomputable def depth : Pf→Nat:=fold fun _ l=>l.foldr max 0+1
theorem aN (t:Pf):t.depth=(t.kids.map depth).foldr max 0+1:=fold_eq _ t
theorem cB {t k:Pf}(h:k∈t.kids):k.size<t.size:=by rw[size_eq t];have:=Tree.kv size h;omega
theorem pd (t:Pf):t.kids.length<t.size:=by
 rw[size_eq t];have:∀l:List Pf,l.length≤(l.map size).sum:=by
  intro l
  induction l with
  |nil=>simp
  |cons x l ih=>have:=size_pos x;simp only[ahy,List.map_cons,List.sum_cons];omega
 have:=this t.kids;omega
inductive Pure where
 |mk (kind n:Int) (types:List Ty.Pure) (kids:List Pure):Pure
noncomputable def pure : Pf→Pure:=fold fun t l=>.mk t.kind t.n (t.types.map Ty.pure) l
theorem aG (t:Pf):t.pure=.mk t.kind t.n (t.types.map Ty.pure) (t.kids.map pure):=fold_eq _ t
def zero : Pf:=.mk 0 0 none 0 [] none 0 []
end Pf
def Pf.cells (t:Pf):List Value:=[.int .i64 t.kind,.int .i64 t.n,.slice t.T t.types.length t.tc,.slice t.A t.kids.length t.cap]
def pg : fq Pf:=⟨4,Pf.cells,fun _=>rfl,by omega⟩
@[go_sem] def cr (t:Pf):Value:=.agg #[.int .i64 t.kind,.int .i64 t.n,.slice t.T t.types.length t.tc,.slice t.A t.kids.length t.cap]
structure DO (w:World) (t:Pf):Prop where
 DR:t.types.length≤t.tc
 pj:t.tc≤9223372036854775807
 le:t.kids.length≤t.cap
 max:t.cap≤9223372036854775807
 types:bF w t.T t.types
 row:ak pg w t.A t.kids
inductive bM (w:World):Pf→Prop
 |mk {t:Pf}(hd:DO w t) (kids:∀k∈t.kids,bM w k):bM w t
structure jT (w:World) (A:Option Addr) (l:List Pf):Prop where
 row:ak pg w A l
 kids:∀k∈l,bM w k
section
variable {w w':World}{t:Pf}
theorem DO.old (h:DO w t) (k:Below w.heap.size w w'):DO w' t:=
 ⟨h.DR,h.pj,h.le,h.max,h.types.old k,Row.old h.row k.block k.size⟩
theorem bM.hd (h:bM w t):DO w t:=by cases h;assumption
theorem bM.all (h:bM w t):jT w t.A t.kids:=by cases h with|mk h k=>exact⟨h.row,k⟩
theorem bM.old (h:bM w t) (k:Below w.heap.size w w'):bM w' t:=by
 induction h with
 |mk h1 _ ih=>exact .mk (h1.old k) ih
theorem bM.ext (h:bM w t) (k:Ext w w'):bM w' t:=h.old k.below
theorem jT.old {A:Option Addr}{l:List Pf}(h:jT w A l) (k:Below w.heap.size w w'):jT w' A l:=⟨Row.old h.row k.block k.size,fun x hx=>(h.kids x hx).old k⟩
theorem jT.ext {A:Option Addr}{l:List Pf}(h:jT w A l) (k:Ext w w'):jT w' A l:=h.old k.below
theorem jT.at_ {A:Option Addr}{l:List Pf}(h:jT w A l){i:Nat}(hi:i<l.length) :
  ∃b o,A=some ⟨b,o,none⟩∧b<w.heap.size∧w.cell? ⟨b,o+i*4,none⟩=some (.int .i64 (l[i]'hi).kind)∧w.cell? ⟨b,o+i*4+1,none⟩=some (.int .i64 (l[i]'hi).n) ∧
   w.cell? ⟨b,o+i*4+2,none⟩=some (.slice (l[i]'hi).T (l[i]'hi).types.length (l[i]'hi).tc)∧w.cell? ⟨b,o+i*4+3,none⟩=some (.slice (l[i]'hi).A (l[i]'hi).kids.length (l[i]'hi).cap):=by
 obtain⟨b,o,e,hb,hc⟩:=ak.at_ pg h.row hi;refine⟨b,o,e,hb,?_,?_,?_,?_⟩
 ·have:=hc 0 (by decide);simpa [pg,Pf.cells] using this
 ·have:=hc 1 (by decide);simpa [pg,Pf.cells] using this
 ·have:=hc 2 (by decide);simpa [pg,Pf.cells] using this
 ·have:=hc 3 (by decide);simpa [pg,Pf.cells] using this
end
noncomputable def bD (l:List Pf):Nat:=(l.map Pf.size).sum
theorem vp (l:List Pf) (t:Pf):bD (l++[t])=bD l+t.size:=by simp[bD]
theorem gZ (l:List Pf){k:Nat}(h:k<l.length):bD (l.take (k+1))=bD (l.take k)+(l[k]'h).size:=by rw[ahl h,vp]
theorem rT (l:List Pf) (k:Nat):bD (l.take k)≤bD l:=by
 have:bD l=bD (l.take k)+bD (l.drop k):=by unfold bD;rw[←List.sum_append,←ahz,List.take_append_drop]
 omega
def kX (n:Nat):UInt8:=UInt8.ofNat n
def bV (n:Nat):aj:=if n<10 then [kX (48+n)] else bV (n / 10)++[kX (48+n % 10)]
termination_by n
theorem mg {n:Nat}(h:n<10):bV n=[kX (48+n)]:=by rw[bV,if_pos h]
theorem oC {n:Nat}(h:¬n<10):bV n=bV (n / 10)++[kX (48+n % 10)]:=by rw[bV,if_neg h]
theorem iB : ∀(k n:Nat),n<10 ^ (k+1)→(bV n).length≤k+1:=by
 intro k
 induction k with
 |zero=>intro n h;rw[mg (by omega)];simp
 |succ k ih=>
  intro n h
  by_cases h1:n<10
  ·rw[mg h1];simp
  ·rw[oC h1,ahn];have:=ih (n / 10) (by rw[Nat.pow_succ] at h;omega);simp;omega
theorem DT (n:Nat):0<(bV n).length:=by
 by_cases h:n<10
 ·rw[mg h];simp
 ·rw[oC h];simp
def letter (n:Int):aj:=if n<0 then [] else kX (97+n.toNat % 26) :: (if n<26 then [] else bV (n.toNat / 26))
def gW (v:Int):aj:=if 0≤v then letter v else 63 :: bV (-1 - v).toNat
def iC (b:UInt8):Bool:=decide (48≤((b.toNat:Nat):Int))&&decide (((b.toNat:Nat):Int)≤57)
def cG : Nat→aj→Option Nat
 |n,[]=>some n
 |n,b :: l=>if n>(9223372036854775807 - (b.toNat - 48)) / 10 then none else cG (10*n+(b.toNat - 48)) l
theorem jU (n:Nat) (b:UInt8) (l:aj):cG n (b :: l)=if n>(9223372036854775807 - (b.toNat - 48)) / 10 then none else cG (10*n+(b.toNat - 48)) l:=rfl
theorem pk (n:Nat):cG n []=some n:=rfl
def cK (s:aj):Int×Int:=
 if s=[]∨s.all iC=false then(0,5) else match cG 0 s with
  |some n=>((n:Int),0)
  |none=>(0,4)
theorem AL : cK []=(0,5):=rfl
theorem rU {s:aj}(h:s.all iC=false):cK s=(0,5):=by unfold cK;rw[if_pos (.inr h)]
theorem po {s:aj}{n:Nat}(h0:s≠[]) (h:s.all iC=true) (k:cG 0 s=some n):cK s=((n:Int),0):=by
 unfold cK;rw[if_neg (by simp[h0,h]),k]
theorem pq {s:aj}(h0:s≠[]) (h:s.all iC=true) (k:cG 0 s=none):cK s=(0,4):=by
 unfold cK;rw[if_neg (by simp[h0,h]),k]
theorem AO : ∀(l:aj) (n m:Nat),l.all iC=true→n≤9223372036854775807→cG n l=some m→m≤9223372036854775807:=by
 intro l
 induction l with
 |nil=>intro n m _ hn h;simp[cG] at h;omega
 |cons b l ih=>
  intro n m hd hn h;rw[List.all_cons,ahv] at hd;have h1:48≤b.toNat∧b.toNat≤57:=by have:=hd.1;unfold iC at this;simp at this;omega
  unfold cG at h
  split at h
  ·cases h
  ·exact ih _ m hd.2 (by omega) h
theorem mh (s:aj):0≤(cK s).1∧(cK s).1≤9223372036854775807:=by
 unfold cK
 split
 ·exact⟨Int.le_refl _,by decide⟩
 ·rename_i h
  simp only[not_or,Bool.not_eq_false] at h;cases hg:cG 0 s with
  |none=>exact⟨Int.le_refl _,by decide⟩
  |some n=>exact⟨by show(0:Int)≤(n:Int);omega,by have:=AO s 0 n h.2 (by omega) hg;show(n:Int)≤_;omega⟩
def ft (s:aj):Bool := !(s == [])&&(s.headD 0 == 33)&&((cK (s.drop 1)).2 == 0)&&(bV (cK (s.drop 1)).1.toNat == s.drop 1)
def gu (b:Bool) (s:aj):aj:=if b then [40]++s++[41] else s
noncomputable def bY : Ty→aj:=Ty.fold fun t (l:List aj)=>
 if t.aq=[45,62]∧t.args.length=2 then gu (decide ((t.args.getD 0 Ty.zero).aq=[45,62])) (l.getD 0 [])++([32,45,62,32]:aj)++l.getD 1 []
 else(if t.aq=[] then gW t.var else t.aq)++((t.args.zip l).map fun p=>([32]:aj)++gu (decide (0<p.1.args.length)) p.2).flatten
theorem rV {t:Ty}(h:t.aq=[45,62]) (h0:0<t.args.length) (h1:1<t.args.length) (h2:t.args.length=2) :
  bY t=gu (decide ((t.args[0]'h0).aq=[45,62])) (bY (t.args[0]'h0))++([32,45,62,32]:aj)++bY (t.args[1]'h1):=by
 unfold bY;rw[Ty.fold_eq,if_pos ⟨h,h2⟩];simp only[List.getD_eq_getElem?_getD,List.getElem?_map,ahw h0,ahw h1,Option.map_some,Option.getD_some]
noncomputable def cI (l:List Ty):aj:=(l.map fun a=>([32]:aj)++gu (decide (0<a.args.length)) (bY a)).flatten
theorem tM {α β:Type}(l:List α) (f:α→β):l.zip (l.map f)=l.map fun a=>(a,f a):=by
 induction l with
 |nil=>rfl
 |cons x l ih=>simp[ih]
theorem lG {t:Ty}(h:¬(t.aq=[45,62]∧t.args.length=2)):bY t=(if t.aq=[] then gW t.var else t.aq)++cI t.args:=by
 unfold bY;rw[Ty.fold_eq,if_neg h];unfold cI
 congr 2
 rw[tM,List.map_map];rfl
theorem pw (l:List Ty){k:Nat}(h:k<l.length):cI (l.take (k+1))=cI (l.take k)++(([32]:aj)++gu (decide (0<(l[k]'h).args.length)) (bY (l[k]'h))):=by
 unfold cI;rw[ahl h,ahz,List.flatten_append];simp
end Go.Proofs.YtigafbmabjglfaaGreatDoor
