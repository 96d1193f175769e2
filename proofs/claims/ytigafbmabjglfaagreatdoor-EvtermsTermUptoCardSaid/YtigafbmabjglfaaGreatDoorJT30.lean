import Derived.Test.YtigafbmabjglfaaGreatDoorJT29
namespace Go.Proofs.YtigafbmabjglfaaGreatDoor
open Go.RowKit
structure jP (W:World) (b0 b1 b2 b3 b4 b5 b6 b7 b8 b9:Nat):Prop where
 d0:W.heap[b0]?=some (.cells #[.string ⟨#[69,113]⟩] 9 (0,0))
 d1:W.heap[b1]?=some (.cells #[.string ⟨#[69,113]⟩,.slice none 0 0,.slice none 0 0,.string ⟨#[79,114,100]⟩,.slice (some ⟨b0,0,none⟩) 1 1,.slice none 0 0] 68 (0,0))
 d2:W.heap[b2]?=some (.cells #[.string ⟨#[69,113]⟩,.string ⟨#[]⟩,.int .i64 0,.slice none 0 0] 55 (0,0))
 d3:W.heap[b3]?=some (.cells #[.string ⟨#[69,113]⟩,.string ⟨#[76]⟩,.int .i64 1,.slice (some ⟨b2,0,none⟩) 1 1] 70 (0,0))
 d4:W.heap[b4]?=some (.cells #[.slice none 0 0,.slice (some ⟨b1,0,none⟩) 2 2,.slice (some ⟨b3,0,none⟩) 1 1] 26 (0,0))
 d5:W.heap[b5]?=some (.cells #[.string ⟨#[]⟩,.int .i64 0,.slice none 0 0] 53 (0,0))
 d6:W.heap[b6]?=some (.cells #[.int .i64 1,.int .i64 1,.slice none 0 0,.slice none 0 0] 34 (0,0))
 d7:W.heap[b7]?=some (.cells #[.int .i64 2,.int .i64 0,.slice none 0 0,.slice (some ⟨b6,0,none⟩) 1 1] 34 (0,0))
 d8:W.heap[b8]?=some (.cells #[.int .i64 3,.int .i64 0,.slice (some ⟨b5,0,none⟩) 1 1,.slice (some ⟨b7,0,none⟩) 1 1] 34 (0,0))
 d9:W.heap[b9]?=some (.cells #[.string ⟨#[69,113]⟩,.string ⟨#[]⟩,.int .i64 0,.slice none 0 0,.string ⟨#[79,114,100]⟩,.string ⟨#[]⟩,.int .i64 0,.slice none 0 0] 55 (0,0))
theorem jP.ext {W W':World}{b0 b1 b2 b3 b4 b5 b6 b7 b8 b9:Nat}(h:jP W b0 b1 b2 b3 b4 b5 b6 b7 b8 b9) (e:Ext W W'):jP W' b0 b1 b2 b3 b4 b5 b6 b7 b8 b9:=⟨(e.heap (ae h.d0)).trans h.d0,(e.heap (ae h.d1)).trans h.d1,(e.heap (ae h.d2)).trans h.d2,(e.heap (ae h.d3)).trans h.d3,(e.heap (ae h.d4)).trans h.d4,(e.heap (ae h.d5)).trans h.d5,(e.heap (ae h.d6)).trans h.d6,(e.heap (ae h.d7)).trans h.d7,(e.heap (ae h.d8)).trans h.d8,(e.heap (ae h.d9)).trans h.d9⟩
section
variable {W : World}{b0 b1 b2 b3 b4 b5 b6 b7 b8 b9:Nat}
theorem jP.leaf (W:World) (n:Int):bM W (L3 n):=.mk ⟨ahj _,by show 0≤9223372036854775807;omega,ahj _,by show 0≤9223372036854775807;omega,bF.nil _ _,ak.nil _ _ _⟩ (by intro k hk;cases hk)
theorem jP.p (h:jP W b0 b1 b2 b3 b4 b5 b6 b7 b8 b9):bM W (pE b5 b6 b7):=by
 have h1:bM W (Jy b6):=.mk ⟨ahj _,by show 0≤9223372036854775807;omega,ahi _,by show 1≤9223372036854775807;omega,bF.nil _ _,ak.block pg [L3 1] h.d6⟩ (iq (jP.leaf W 1));exact .mk ⟨ahi _,by show 1≤9223372036854775807;omega,ahi _,by show 1≤9223372036854775807;omega,⟨ak.block cA [Ty.zero] h.d5,iq (aC.zero W)⟩,ak.block pg [Jy b6] h.d7⟩ (iq h1)
theorem jP.g (h:jP W b0 b1 b2 b3 b4 b5 b6 b7 b8 b9):bA W (some ⟨b9,0,none⟩) jg:=⟨ak.block kC jg h.d9,fun x hx=>by
 simp only[jg,List.mem_cons,List.not_mem_nil,or_false] at hx
 rcases hx with rfl|rfl
 ·exact⟨by show 2≤1000000000000000000;omega,aC.zero W⟩
 ·exact⟨by show 3≤1000000000000000000;omega,aC.zero W⟩⟩
theorem jP.e (h:jP W b0 b1 b2 b3 b4 b5 b6 b7 b8 b9):dX W (VK b0 b1 b2 b3):=by
 have hS:jh W (some ⟨b0,0,none⟩) [[69,113]]:=jS.2 (ak.block kW [[69,113]] h.d0);have hK:lj W (some ⟨b1,0,none⟩) (jf b0):=⟨ak.block Ek (jf b0) h.d1,fun x hx=>by
  simp only[jf,List.mem_cons,List.not_mem_nil,or_false] at hx
  rcases hx with rfl|rfl
  ·exact⟨by show 2≤1000000000000000000;omega,ahi _,by show 0≤9223372036854775807;omega,jS.2 (ak.nil _ _ _),by simp,ahi _,by show 0≤9223372036854775807;omega,lh.nil _ _⟩
  ·exact⟨by show 3≤1000000000000000000;omega,ahi _,by show 1≤9223372036854775807;omega,hS,iq (by show 2≤1000000000000000000;omega),ahi _,by show 0≤9223372036854775807;omega,lh.nil _ _⟩⟩
 have hP:bA W (some ⟨b2,0,none⟩) [⟨[69,113],Ty.zero⟩]:=⟨ak.block kC [⟨[69,113],Ty.zero⟩] h.d2,iq ⟨by show 2≤1000000000000000000;omega,aC.zero _⟩⟩;have hI:jD W (some ⟨b3,0,none⟩) (jO b2):=⟨ak.block I5 (jO b2) h.d3,iq ⟨by show 2≤1000000000000000000;omega,by show 1≤1000000000000000000;omega,ahi _,by show 1≤9223372036854775807;omega,hP⟩⟩;exact⟨ahi _,by show 0≤9223372036854775807;omega,mq.nil _ _,ahi _,by show 2≤9223372036854775807;omega,hK,ahi _,by show 1≤9223372036854775807;omega,hI⟩
theorem AD (b0 b1 b2 b3:Nat):xm (VK b0 b1 b2 b3) jg:=⟨by show 2≤1000000;omega,by show 2≤9;omega,fun c hc=>by
 have hc:c∈jf b0:=hc;simp only[jf,List.mem_cons,List.not_mem_nil,or_false] at hc
 rcases hc with rfl|rfl
 ·show 0≤9;omega
 ·show 1≤9;omega,by show 1≤1000000;omega,fun y hy=>by
 have hy:y∈jO b2:=hy;simp only[jO,List.mem_cons,List.not_mem_nil,or_false] at hy;subst hy;show 1≤40000;omega⟩
theorem ja (f:Nat) (hf:f≤1000):(bW 2 (f:Int)).length=2:=by rw[zw _ (by omega) (by omega)];rfl
theorem xw (f:Nat) (hf:f≤1000) (w:World):Calls Tryz.prog 23 #[.int .i64 2,.int .i64 (f:Int)] w fun e w'=>(∃A c,e=.returned (.slice A 2 c)∧bK w' A (bW 2 (f:Int)))∧Ext w w':=by
 have h:=L5 2 (f:Int) w;rw[ja f hf] at h;refine h.mono ?_;rintro e w' ⟨⟨A,c,h1,-,-,h2⟩,hx⟩;exact⟨⟨A,c,h1,h2⟩,hx⟩
theorem Dl (k:Nat){f n:Int}{g:Tm}(hg:g∈bW n f):ay k g:=by
 unfold bW at hg
 split at hg
 ·cases hg
 ·obtain⟨i,-,rfl⟩:=List.mem_map.1 hg;exact .mk (fun h=>absurd rfl h) (fun h=>absurd rfl h) (by intro x hx;cases hx) (fun h=>absurd rfl h) (by intro x hx;cases hx)
theorem L6 {k b5 b6 b7:Nat}(h5:k≠b5) (h6:k≠b6) (h7:k≠b7):aL k (pE b5 b6 b7):=by
 have hg:aL k (L3 1):=.mk (fun h=>absurd rfl h) (by intro x hx;cases hx) (fun h=>absurd rfl h) (by intro x hx;cases hx);have hs:aL k (Jy b6):=.mk (fun h=>absurd rfl h) (by intro x hx;cases hx) (fun _ a e=>by injection e with e;subst e;exact fun h=>h6 h.symm) (iq hg);exact .mk (fun _ a e=>by injection e with e;subst e;exact fun h=>h5 h.symm) (iq (dE (fun h=>absurd rfl h) (by intro z hz;cases hz))) (fun _ a e=>by injection e with e;subst e;exact fun h=>h7 h.symm) (iq hs)
theorem jP.term (h:jP W b0 b1 b2 b3 b4 b5 b6 b7 b8 b9){A:Option Addr}(c:Nat) (hA:bK W A (bW 2 ((5:Nat):Int))){a0 a1:Addr}(jd:qY W) (nd:jv W a0 a1):Calls Tryz.prog 8 #[.agg #[.slice none 0 0,.slice (some ⟨b1,0,none⟩) 2 2,.slice (some ⟨b3,0,none⟩) 1 1],.slice (some ⟨b9,0,none⟩) 2 2,.slice A 2 c,.agg #[.int .i64 3,.int .i64 0,.slice (some ⟨b5,0,none⟩) 1 1,.slice (some ⟨b7,0,none⟩) 1 1]] W fun e w'=>(∃t,e=.returned (.tuple #[bl t,.int .i64 0])∧aM w' t∧t.pure=tE∧∀k,k<W.heap.size→k≠b5→k≠b6→k≠b7→ay k t)∧Ext W w':=by
 have Uf:=T6 b0 b2 b5 b6 b7;have hpr:=Pt b0 b2 b5 b6 b7;have hl:=ja 5 (by omega);have hc:=zu (VK b0 b1 b2 b3) (some ⟨b9,0,none⟩) 2 jg A c (bW 2 ((5:Nat):Int)) (AD b0 b1 b2 b3).pl (pE b5 b6 b7) a0 a1 W h.e h.g hA h.p jd nd (fun _ _ t ht=>by
  have ht:t.pure=tE:=ht.trans Uf;obtain⟨k1,k2,-⟩:=qN ht;exact⟨k1,by omega⟩)
 rw[hl] at hc;refine hc.mono ?_;rintro e w' ⟨⟨t,n,rfl,hw⟩,hx⟩
 rcases hw.o with ⟨-,-,h1|⟨-,h1⟩⟩|⟨-,-,u,hu,h1⟩
 ·exact absurd hl.symm h1
 ·have h1:bm (jf b0) (jO b2) jg (pE b5 b6 b7)=none:=h1;rw[hpr] at h1;cases h1
 ·have hu:u.pure=tE:=hu.trans Uf
  rcases h1 with ⟨rfl,rfl,-⟩|⟨-,-,h2⟩
  ·exact⟨⟨t,rfl,hw.iM,hu,fun k h0 h5 h6 h7=>hw.away k h0 (fun g hg=>Dl k hg) (L6 h5 h6 h7)⟩,hx⟩
  ·rw[(qN hu).2.2.1] at h2;cases h2
def Ug : List Pd:=[⟨[69,113],Ty.zero⟩,⟨[88],Ty.zero⟩]
theorem II {p:Pf}(h:p.pure=.mk 1 0 [] []):p.kind=1∧p.n=0∧p.types=[]∧p.kids=[]:=by
 rw[Pf.aG] at h;injection h with h1 h2 h3 h4;exact⟨h1,h2,lY h3,lY h4⟩
theorem L8 (b0 b2:Nat){p:Pf}(h:p.pure=.mk 1 0 [] []):(bm (jf b0) (jO b2) jg p).isSome=true:=by
 obtain⟨k1,k2,k3,k4⟩:=II h;obtain⟨k,n,T,tc,ts,A,c,l⟩:=p;have k1:k=1:=k1;have k2:n=0:=k2;have k3:ts=[]:=k3;have k4:l=[]:=k4;subst k1 k2 k3 k4;rw[ew];have h:gC (jf b0) (jO b2) jg (.mk 1 0 T tc [] A c []) ((Pf.mk 1 0 T tc [] A c []).kids.map (bm (jf b0) (jO b2) jg))=some ⟨[69,113],Ty.zero⟩:=rfl;rw[h,Option.filter_some,if_pos]
 ·rfl
 show(cd [69,113]&&az Ty.zero)=true;rw[cV];rfl
theorem IJ (b0 b2:Nat){p:Pf}(h:p.pure=.mk 1 0 [] []):kE (jf b0) (jO b2) jg ((bW 2 ((0:Nat):Int)).map Tm.pure) p=.mk 1 0 (([35]:aj)++bV 0) [] [] []:=by
 obtain⟨k1,k2,k3,k4⟩:=II h;rw[mO k1 (n:=0) k2 (by rw[ja 0 (by omega)];omega)];have:(bW 2 ((0:Nat):Int))[0]'(by rw[ja 0 (by omega)];omega)=gX ((0:Nat):Int):=by simp[zw 0 (by decide) (by decide)]
 rw[this,tJ]
theorem qO {t:Tm}{s:aj}(h:t.pure=.mk 1 0 s [] [] []) (hs:(s == [])=false):cY t∧t.size≤100000∧cj t=true:=by
 obtain⟨h1,h2,-⟩:=Ir h;have h3:=Pq h hs;obtain⟨V,vc,T,tc,A,cap,rfl⟩:=qL h;refine⟨.mk (by show 0≤10000;omega) (fun y hy=>by cases hy) (by show 0≤1000000;omega) (by show 0≤10000;omega) (fun y hy=>by cases hy),by omega,?_⟩;unfold cj;rw[h1,h2,h3];rfl
theorem jP.all (h:jP W b0 b1 b2 b3 b4 b5 b6 b7 b8 b9){A:Option Addr}(c:Nat) (hA:bK W A (bW 2 ((0:Nat):Int))){a0 a1:Addr}(jd:qY W) (nd:jv W a0 a1){g:Nat}(hg:W.heap[g]?=some (.cells #[.string ⟨#[69,113]⟩,.string ⟨#[]⟩,.int .i64 0,.slice none 0 0,.string ⟨#[88]⟩,.string ⟨#[]⟩,.int .i64 0,.slice none 0 0] 55 (0,0))):Calls Tryz.prog 16 #[.agg #[.slice none 0 0,.slice (some ⟨b1,0,none⟩) 2 2,.slice (some ⟨b3,0,none⟩) 1 1],.slice (some ⟨b9,0,none⟩) 2 2,.slice A 2 c,.slice (some ⟨g,0,none⟩) 2 2] W fun e w'=>e=.returned (.tuple #[.slice none 0 0,.int .i64 1,.int .i64 16])∧Ext W w':=by
 have hl:=ja 0 (by omega);have d0:(([35]:aj)++bV 0 == [])=false:=by rw[show bV 0=[48] by kernel_rfl];rfl
 have hq:bA W (some ⟨g,0,none⟩) Ug:=⟨ak.block kC Ug hg,fun x hx=>by
  simp only[Ug,List.mem_cons,List.not_mem_nil,or_false] at hx
  rcases hx with rfl|rfl
  ·exact⟨by show 2≤1000000000000000000;omega,aC.zero W⟩
  ·exact⟨by show 1≤1000000000000000000;omega,aC.zero W⟩⟩
 have hb0:=Py b0 b2;have hb1:=Ue b0 b2;have hc:=TS (VK b0 b1 b2 b3) (some ⟨b9,0,none⟩) 2 jg A c (bW 2 ((0:Nat):Int)) (some ⟨g,0,none⟩) 2 Ug (AD b0 b1 b2 b3) a0 a1 W h.e h.g hA hq (by show 2≤1000000;omega) jd nd (fun q hq p hp _ _ _ t ht=>by
  simp only[Ug,List.mem_cons,List.not_mem_nil,or_false] at hq
  rcases hq with rfl|rfl
  ·have hp:p.pure=.mk 1 0 [] []:=by
    have hp:tC (jf b0) (jO b2) jg ⟨[69,113],Ty.zero⟩=.ok p.pure:=hp;rw[hb0] at hp;injection hp with hp;exact hp.symm
   obtain⟨f1,f2,-⟩:=qO (ht.trans (IJ b0 b2 hp)) d0;exact⟨f1,by omega⟩
  ·have hp:tC (jf b0) (jO b2) jg ⟨[88],Ty.zero⟩=.ok p.pure:=hp;rw[hb1] at hp;cases hp)
 rw[hl] at hc;refine hc.mono ?_;rintro e w' ⟨⟨v,rfl,hv⟩,hx⟩;have hx1:∀t,¬tH (jf b0) (jO b2) jg (bW 2 ((0:Nat):Int)) ⟨[88],Ty.zero⟩ t:=fun t ⟨p,u,h1,_⟩=>by rw[hb1] at h1;cases h1
 rcases hv with ⟨A',c',ts,-,-,-,-,hlen,hall⟩|⟨k,n,rfl,hn,hk,bP,Uh⟩
 ·exact absurd (hall 1 (by show 1<2;omega) (by rw[hlen];show 1<2;omega)) (hx1 _)
 ·have hk:k<2:=hk
  match k,hk with
  |0,_=>
   exfalso
   rcases Uh with he|⟨p,t,m,w1,w2,he,hw,hm,-⟩
   ·have he:tC (jf b0) (jO b2) jg ⟨[69,113],Ty.zero⟩=.error n:=he;rw[hb0] at he;cases he
   ·have he:tC (jf b0) (jO b2) jg ⟨[69,113],Ty.zero⟩=.ok p.pure:=he;rw[hb0] at he;injection he with he;have hp:=L8 b0 b2 he.symm
    rcases hw.o with ⟨-,-,h1|⟨-,h1⟩⟩|⟨-,-,u,hu,⟨h1,-⟩|⟨-,-,h2⟩⟩
    ·exact h1 hl.symm
    ·have h1:bm (jf b0) (jO b2) jg p=none:=h1;rw[h1] at hp;cases hp
    ·exact hm h1
    ·rw[(qO (hu.trans (IJ b0 b2 he.symm)) d0).2.2] at h2;cases h2
  |1,_=>
   rcases Uh with he|⟨p,t,m,w1,w2,he,hw,hm,-⟩
   ·have he:tC (jf b0) (jO b2) jg ⟨[88],Ty.zero⟩=.error n:=he;rw[hb1] at he;injection he with he;subst he;exact⟨rfl,hx⟩
   ·have he:tC (jf b0) (jO b2) jg ⟨[88],Ty.zero⟩=.ok p.pure:=he;rw[hb1] at he;cases he
theorem jP.types (h:jP W b0 b1 b2 b3 b4 b5 b6 b7 b8 b9):Calls Tryz.prog 12 #[.slice (some ⟨b9,0,none⟩) 2 2] W fun e w'=>(∃A c d0 d1,e=.returned (.slice A 2 c)∧bF w' A [d0,d1]∧d1.pure=nR [79,114,100] Ty.zero.pure)∧Ext W w':=by
 refine(AA (some ⟨b9,0,none⟩) 2 jg W h.g (by show 2≤1000000;omega) (fun p hp=>(h.g.all p hp).cls)).mono ?_;rintro e w' ⟨⟨A,c,ds,rfl,-,-,hT,hd⟩,hx⟩;have hd:ds.map Ty.pure=[nR [69,113] Ty.zero.pure,nR [79,114,100] Ty.zero.pure]:=hd;obtain⟨d0,d1,rfl,-,h1⟩:=Ip hd;exact⟨⟨A,c,d0,d1,rfl,hT,h1⟩,hx⟩
theorem zB {d:Ty}(hp:d.pure=nR [79,114,100] Ty.zero.pure) (hd:aC W d):Calls Tryz.prog 25 #[.agg #[.slice none 0 0,encStr d.aq,.int .i64 d.var,.slice d.A d.args.length d.cap]] W fun e w'=>e=.returned (.string ⟨#[123,79,114,100,125,32,97]⟩)∧Ext W w':=by
 have e:∃A c A1 c1,d=.mk [123,79,114,100,125] 0 A c [.mk [] 0 A1 c1 []]:=by
  rw[qM] at hp;obtain⟨s,v,A,c,l⟩:=d;rw[Ty.aG] at hp;injection hp with h1 h2 h3;have h1:s=[123,79,114,100,125]:=h1;have h2:v=0:=h2;have h3:l.map Ty.pure=[.mk [] 0 []]:=h3;obtain⟨x,rfl,hx⟩:=uQ h3;obtain⟨A1,c1,rfl⟩:=M9 hx;subst h1 h2;exact⟨A,c,A1,c1,rfl⟩
 obtain⟨A,c,A1,c1,rfl⟩:=e;have h:=Ac ⟨[],none,0,.mk [123,79,114,100,125] 0 A c [.mk [] 0 A1 c1 []]⟩ W ⟨ahj _,by show 0≤9223372036854775807;omega,ak.nil _ _ _,hd⟩ (by kernel_rfl) (by show 2≤20000;omega) rfl;have hs:nQ ⟨[],none,0,.mk [123,79,114,100,125] 0 A c [.mk [] 0 A1 c1 []]⟩=[123,79,114,100,125,32,97]:=by
  unfold nQ;rw[show aQ (Ty.mk [123,79,114,100,125] 0 A c [.mk [] 0 A1 c1 []])=true by kernel_rfl,if_pos rfl,if_pos rfl]
  kernel_rfl
 rw[hs] at h;exact h
theorem L9 {t:Tm}(hp:t.pure=tE) (ht:aM W t):Calls Tryz.prog 24 #[.agg #[.int .i64 t.kind,.int .i64 t.n,.string ⟨t.name.toArray⟩,.slice t.V t.vars.length t.vc,.slice t.T t.types.length t.tc,.slice t.A t.kids.length t.cap]] W fun e w'=>e=.returned (.string ⟨#[40,40,64,69,113,64,76,32,91,97,93,41,32,40,35,54,46,79,114,100,46,48,41,41]⟩)∧Ext W w':=by
 obtain⟨f1,f2,f3,f4⟩:=qN hp;exact PB t _ f4 f3 f1 f2 W ht
end
structure uR (W wx:World) (b:Nat) (t:Tm):Prop where
 x:Ext W wx
 box:av wx b t
 iM:aM wx t
theorem uR.behind {W y:World}{t:Tm}(e:Ext W y) (h:aM y t):uR W (y.alloc (.cells #[.int .i64 t.kind,.int .i64 t.n,encStr t.name,.slice t.V t.vars.length t.vc,.slice t.T t.types.length t.tc,.slice t.A t.kids.length t.cap] 40)) y.heap.size t:=⟨e.alloc _,av.new y t,h.ext ((eR _).alloc _)⟩
theorem uR.ahead {W y:World}{t:Tm}{B:Nat}{v0 v1 v2 v3 v4 v5:Value}(e:Ext W y) (hB:W.heap.size≤B) (hz:y.heap[B]?=some (.cells #[v0,v1,v2,v3,v4,v5] 40 (0,0))) (h:aM y t) (ha:ay B t) :
  uR W ((((((y.setCell ⟨B,0,none⟩ (.int .i64 t.kind)).setCell ⟨B,1,none⟩ (.int .i64 t.n)).setCell ⟨B,2,none⟩ (encStr t.name)).setCell ⟨B,3,none⟩ (.slice t.V t.vars.length t.vc)).setCell ⟨B,4,none⟩ (.slice t.T t.types.length t.tc)).setCell ⟨B,5,none⟩ (.slice t.A t.kids.length t.cap)) B t:=
 ⟨bg e hB t,gj t hz,h.grown (aZ y B t) (fun c e=>by injection e with e;subst e;exact ha)⟩
set_option maxRecDepth 10000
set_option maxHeartbeats 8000000
theorem Dm (a0 a1:Addr) (w:World) (jd:qY w) (nd:jv w a0 a1):Calls Tryz.prog 7 #[] w fun e w'=>e=.returned (.bool true)∧Ext w w':=by
 obtain⟨W,hW⟩:∃W,W=((((((((((w.alloc (.cells #[.string ⟨#[69,113]⟩] 9)).alloc (.cells #[.string ⟨#[69,113]⟩,.slice none 0 0,.slice none 0 0,.string ⟨#[79,114,100]⟩,.slice (some ⟨w.heap.size,0,none⟩) 1 1,.slice none 0 0] 68)).alloc (.cells #[.string ⟨#[69,113]⟩,.string ⟨#[]⟩,.int .i64 0,.slice none 0 0] 55)).alloc (.cells #[.string ⟨#[69,113]⟩,.string ⟨#[76]⟩,.int .i64 1,.slice (some ⟨w.heap.size+1+1,0,none⟩) 1 1] 70)).alloc (.cells #[.slice none 0 0,.slice (some ⟨w.heap.size+1,0,none⟩) 2 2,.slice (some ⟨w.heap.size+1+1+1,0,none⟩) 1 1] 26)).alloc (.cells #[.string ⟨#[]⟩,.int .i64 0,.slice none 0 0] 53)).alloc (.cells #[.int .i64 1,.int .i64 1,.slice none 0 0,.slice none 0 0] 34)).alloc (.cells #[.int .i64 2,.int .i64 0,.slice none 0 0,.slice (some ⟨w.heap.size+1+1+1+1+1+1,0,none⟩) 1 1] 34)).alloc (.cells #[.int .i64 3,.int .i64 0,.slice (some ⟨w.heap.size+1+1+1+1+1,0,none⟩) 1 1,.slice (some ⟨w.heap.size+1+1+1+1+1+1+1,0,none⟩) 1 1] 34)).alloc (.cells #[.string ⟨#[69,113]⟩,.string ⟨#[]⟩,.int .i64 0,.slice none 0 0,.string ⟨#[79,114,100]⟩,.string ⟨#[]⟩,.int .i64 0,.slice none 0 0] 55)):=⟨_,rfl⟩;have HW:=aa hW.symm;have X0:ahg (Ext w W):=aa (by rw[hW];exact(((((((((((eR _).alloc _).alloc _).alloc _).alloc _).alloc _).alloc _).alloc _).alloc _).alloc _).alloc _));have b0:W.heap[w.heap.size]?=some (.cells #[.string ⟨#[69,113]⟩] 9 (0,0)):=by rw[hW];exact(Ext.heap ((((((((((eR _).alloc _).alloc _).alloc _).alloc _).alloc _).alloc _).alloc _).alloc _).alloc _) (by simp)).trans (ah _ _ _ (by simp))
 have b1:W.heap[w.heap.size+1]?=some (.cells #[.string ⟨#[69,113]⟩,.slice none 0 0,.slice none 0 0,.string ⟨#[79,114,100]⟩,.slice (some ⟨w.heap.size,0,none⟩) 1 1,.slice none 0 0] 68 (0,0)):=by rw[hW];exact(Ext.heap (((((((((eR _).alloc _).alloc _).alloc _).alloc _).alloc _).alloc _).alloc _).alloc _) (by simp)).trans (ah _ _ _ (by simp))
 have b2:W.heap[w.heap.size+1+1]?=some (.cells #[.string ⟨#[69,113]⟩,.string ⟨#[]⟩,.int .i64 0,.slice none 0 0] 55 (0,0)):=by rw[hW];exact(Ext.heap ((((((((eR _).alloc _).alloc _).alloc _).alloc _).alloc _).alloc _).alloc _) (by simp)).trans (ah _ _ _ (by simp))
 have b3:W.heap[w.heap.size+1+1+1]?=some (.cells #[.string ⟨#[69,113]⟩,.string ⟨#[76]⟩,.int .i64 1,.slice (some ⟨w.heap.size+1+1,0,none⟩) 1 1] 70 (0,0)):=by rw[hW];exact(Ext.heap (((((((eR _).alloc _).alloc _).alloc _).alloc _).alloc _).alloc _) (by simp)).trans (ah _ _ _ (by simp))
 have b4:W.heap[w.heap.size+1+1+1+1]?=some (.cells #[.slice none 0 0,.slice (some ⟨w.heap.size+1,0,none⟩) 2 2,.slice (some ⟨w.heap.size+1+1+1,0,none⟩) 1 1] 26 (0,0)):=by rw[hW];exact(Ext.heap ((((((eR _).alloc _).alloc _).alloc _).alloc _).alloc _) (by simp)).trans (ah _ _ _ (by simp))
 have b5:W.heap[w.heap.size+1+1+1+1+1]?=some (.cells #[.string ⟨#[]⟩,.int .i64 0,.slice none 0 0] 53 (0,0)):=by rw[hW];exact(Ext.heap (((((eR _).alloc _).alloc _).alloc _).alloc _) (by simp)).trans (ah _ _ _ (by simp))
 have b6:W.heap[w.heap.size+1+1+1+1+1+1]?=some (.cells #[.int .i64 1,.int .i64 1,.slice none 0 0,.slice none 0 0] 34 (0,0)):=by rw[hW];exact(Ext.heap ((((eR _).alloc _).alloc _).alloc _) (by simp)).trans (ah _ _ _ (by simp))
 have b7:W.heap[w.heap.size+1+1+1+1+1+1+1]?=some (.cells #[.int .i64 2,.int .i64 0,.slice none 0 0,.slice (some ⟨w.heap.size+1+1+1+1+1+1,0,none⟩) 1 1] 34 (0,0)):=by rw[hW];exact(Ext.heap (((eR _).alloc _).alloc _) (by simp)).trans (ah _ _ _ (by simp))
 have b8:W.heap[w.heap.size+1+1+1+1+1+1+1+1]?=some (.cells #[.int .i64 3,.int .i64 0,.slice (some ⟨w.heap.size+1+1+1+1+1,0,none⟩) 1 1,.slice (some ⟨w.heap.size+1+1+1+1+1+1+1,0,none⟩) 1 1] 34 (0,0)):=by rw[hW];exact(Ext.heap ((eR _).alloc _) (by simp)).trans (ah _ _ _ (by simp))
 have b9:W.heap[w.heap.size+1+1+1+1+1+1+1+1+1]?=some (.cells #[.string ⟨#[69,113]⟩,.string ⟨#[]⟩,.int .i64 0,.slice none 0 0,.string ⟨#[79,114,100]⟩,.string ⟨#[]⟩,.int .i64 0,.slice none 0 0] 55 (0,0)):=by rw[hW];exact ah _ _ _ (by simp)
 have HX0:ahg (jP W (w.heap.size) (w.heap.size+1) (w.heap.size+1+1) (w.heap.size+1+1+1) (w.heap.size+1+1+1+1) (w.heap.size+1+1+1+1+1) (w.heap.size+1+1+1+1+1+1) (w.heap.size+1+1+1+1+1+1+1) (w.heap.size+1+1+1+1+1+1+1+1) (w.heap.size+1+1+1+1+1+1+1+1+1)):=aa ⟨b0,b1,b2,b3,b4,b5,b6,b7,b8,b9⟩;clear b0 b1 b2 b3 b4 b5 b6 b7 b8 b9 hW;have HX:=aa (fun w' (e:Ext W w')=>HX0.o.ext e);have HG:=aa (fun w' (e:Ext W w')=>jd.ext (X0.o.trans e));have HV:=aa (fun w' (e:Ext W w')=>nd.ext (X0.o.trans e));clear HX0 jd nd;have fk:ahg (∀w',Ext W w'→w'.cell? ⟨w.heap.size+1+1+1+1,0,none⟩=some (.slice none 0 0)∧w'.cell? ⟨w.heap.size+1+1+1+1,1,none⟩=some (.slice (some ⟨w.heap.size+1,0,none⟩) 2 2)∧w'.cell? ⟨w.heap.size+1+1+1+1,2,none⟩=some (.slice (some ⟨w.heap.size+1+1+1,0,none⟩) 1 1)∧w'.cell? ⟨w.heap.size+1+1+1+1+1+1+1+1,0,none⟩=some (.int .i64 3)∧w'.cell? ⟨w.heap.size+1+1+1+1+1+1+1+1,1,none⟩=some (.int .i64 0)∧w'.cell? ⟨w.heap.size+1+1+1+1+1+1+1+1,2,none⟩=some (.slice (some ⟨w.heap.size+1+1+1+1+1,0,none⟩) 1 1)∧w'.cell? ⟨w.heap.size+1+1+1+1+1+1+1+1,3,none⟩=some (.slice (some ⟨w.heap.size+1+1+1+1+1+1+1,0,none⟩) 1 1)):=aa (fun w' e=>⟨af (HX.o w' e).d4 0,af (HX.o w' e).d4 1,af (HX.o w' e).d4 2,af (HX.o w' e).d8 0,af (HX.o w' e).d8 1,af (HX.o w' e).d8 2,af (HX.o w' e).d8 3⟩);obtain⟨s0,s1,s2,s3,s4,s5,s6⟩:=fk.o W (eR W);have l4:w.heap.size+1+1+1+1<W.heap.size:=ae (HX.o W (eR W)).d4;have l8:w.heap.size+1+1+1+1+1+1+1+1<W.heap.size:=ae (HX.o W (eR W)).d8;have Zq:w.heap.size+1+1+1+1≠W.heap.size:=by omega
 have Rx:w.heap.size+1+1+1+1+1+1+1+1≠W.heap.size:=by omega
 go_enter Tryz.func7,Tryz.ntmps7;go_upto_region 4 with fail;rw[HW.o];clear HW
 go_cut [4,5] (fun s4 s5 wx=>∃(b4:Nat) (t:Tm),s4=.pointer (some ⟨b4,0,none⟩)∧s5=.int .i64 0∧ahg (uR W wx b4 t)∧ahg (t.pure=tE))
 case first=>
  go_region_held3 (fun w'=>w'.cell? ⟨w.heap.size+1+1+1+1,0,none⟩=some (.slice none 0 0)∧w'.cell? ⟨w.heap.size+1+1+1+1,1,none⟩=some (.slice (some ⟨w.heap.size+1,0,none⟩) 2 2)∧w'.cell? ⟨w.heap.size+1+1+1+1,2,none⟩=some (.slice (some ⟨w.heap.size+1+1+1,0,none⟩) 1 1)∧w'.cell? ⟨w.heap.size+1+1+1+1+1+1+1+1,0,none⟩=some (.int .i64 3)∧w'.cell? ⟨w.heap.size+1+1+1+1+1+1+1+1,1,none⟩=some (.int .i64 0)∧w'.cell? ⟨w.heap.size+1+1+1+1+1+1+1+1,2,none⟩=some (.slice (some ⟨w.heap.size+1+1+1+1+1,0,none⟩) 1 1)∧w'.cell? ⟨w.heap.size+1+1+1+1+1+1+1+1,3,none⟩=some (.slice (some ⟨w.heap.size+1+1+1+1+1+1+1,0,none⟩) 1 1)) (first|with_reducible assumption|(obtain⟨g0,g1,g2,g3,g4,g5,g6⟩:=kS;with_reducible exact⟨dv Te _ _ _ _ _ _ g0,dv Te _ _ _ _ _ _ g1,dv Te _ _ _ _ _ _ g2,dv Ui _ _ _ _ _ _ g3,dv Ui _ _ _ _ _ _ g4,dv Ui _ _ _ _ _ _ g5,dv Ui _ _ _ _ _ _ g6⟩)|go_keep) (first
   |(
    go_at_call 23
    refine Calls.mono (xw 5 (by decide) _) ?_;rintro e y1 ⟨⟨A,c,rfl,hA⟩,hx1⟩;have E1:ahg (Ext W y1):=aa (by refine Ext.trans ?_ hx1;exact(by repeat(first|exact eR _|exact eA (by assumption) _|refine eA ?_ _|refine eM ?_ _ _|refine eD ?_|refine eN ?_ _)));have HA:=aa hA;have kS:=fk.o y1 E1.o
    (try (have hz1:=aa ((hx1.heap (ae (cn W _))).trans (cn W _))))
    clear hA hx1)
   |(
    go_at_call 8
    refine Calls.mono ((HX.o _ (E1.o.trans (by repeat(first|exact eR _|exact eA (by assumption) _|refine eA ?_ _|refine eM ?_ _ _|refine eD ?_|refine eN ?_ _)))).term c (HA.o.ext (by repeat(first|exact eR _|exact eA (by assumption) _|refine eA ?_ _|refine eM ?_ _ _|refine eD ?_|refine eN ?_ _))) (HG.o _ (E1.o.trans (by repeat(first|exact eR _|exact eA (by assumption) _|refine eA ?_ _|refine eM ?_ _ _|refine eD ?_|refine eN ?_ _)))) (HV.o _ (E1.o.trans (by repeat(first|exact eR _|exact eA (by assumption) _|refine eA ?_ _|refine eM ?_ _ _|refine eD ?_|refine eN ?_ _))))) ?_;rintro e y2 ⟨⟨t,rfl,ht,hp,haw⟩,hx2⟩;have Ec:ahg (Ext y1 y2):=aa (by refine Ext.trans ?_ hx2;exact(by repeat(first|exact eR _|exact eA (by assumption) _|refine eA ?_ _|refine eM ?_ _ _|refine eD ?_|refine eN ?_ _)));have kS:=fk.o y2 (E1.o.trans Ec.o)
    first
     |(have hz:ahg (y2.heap[y1.heap.size]?=some (.cells #[.int .i64 0,.int .i64 0,.string ⟨#[]⟩,.slice none 0 0,.slice none 0 0,.slice none 0 0] 40)):=aa (by with_reducible exact(hx2.heap (ae (ah y1 _ _ rfl))).trans (ah y1 _ _ rfl));have Te:w.heap.size+1+1+1+1≠y1.heap.size:=(by have:=E1.o.size;omega);have Ui:w.heap.size+1+1+1+1+1+1+1+1≠y1.heap.size:=(by have:=E1.o.size;omega))
     |(have hz:=aa ((Ec.o.heap (ae hz1.o)).trans hz1.o);have Te:=Zq;have Ui:=Rx)
     |skip
    try (have hmz:=bn hz.o;have hzl:=ae hz.o;obtain⟨z0,z1,z2,z3,z4,z5,iE,iF,iG,iH,um,uo⟩:=hmz)))
  all_goals (go_wp2_with fail;go_meet;first
   |(refine⟨y2.heap.size,t,by with_reducible rfl,rfl,?_,aa hp⟩;exact aa (uR.behind (E1.o.trans Ec.o) ht))
   |(refine⟨y1.heap.size,t,by with_reducible rfl,rfl,?_,aa hp⟩;have KP:=haw y1.heap.size (by simp) (by have:=E1.o.size;omega) (by have:=E1.o.size;omega) (by have:=E1.o.size;omega);exact aa (uR.ahead (E1.o.trans Ec.o) E1.o.size hz.o ht KP))
   |(refine⟨W.heap.size,t,by with_reducible rfl,rfl,?_,aa hp⟩;have KP:=haw W.heap.size (by have hzl:=ae hz1.o;simp;omega) (by omega) (by omega) (by omega);exact aa (uR.ahead (E1.o.trans Ec.o) (ahi _) hz.o ht KP)))
 case rest=>
  obtain⟨b4,t,rfl,rfl,HT,Hp⟩:=hcut;clear s0 s1 s2 s3 s4 s5 s6 Zq Rx;go_upto_region 5 with fail;refine bC ?_;intro W5 jR;have Jk:ahg (uR W W5 b4 t):=aa (by rw[jR];exact HT.o);have X5:ahg (Ext W W5):=aa Jk.o.x;have hs5:=X5.o.size;clear jR HT;have Zq:w.heap.size+1+1+1+1≠W5.heap.size:=by omega
  obtain⟨s0,s1,s2,s3,s4,s5,s6⟩:=fk.o W5 X5.o;clear s3 s4 s5 s6;have U8:ahg (∀w',Ext W5 w'→w'.cell? ⟨w.heap.size+1+1+1+1,0,none⟩=some (.slice none 0 0)∧w'.cell? ⟨w.heap.size+1+1+1+1,1,none⟩=some (.slice (some ⟨w.heap.size+1,0,none⟩) 2 2)∧w'.cell? ⟨w.heap.size+1+1+1+1,2,none⟩=some (.slice (some ⟨w.heap.size+1+1+1,0,none⟩) 1 1)):=aa (fun w' e=>⟨(fk.o w' (X5.o.trans e)).1,(fk.o w' (X5.o.trans e)).2.1,(fk.o w' (X5.o.trans e)).2.2.1⟩);have m4:w.heap.size+1+1+1+1<W5.heap.size:=by omega
  have wJ:ahg (∀(w':World) (A:Option Addr) (c g:Nat),Ext W5 w'→bK w' A (bW 2 ((0:Nat):Int))→w'.heap[g]?=some (.cells #[.string ⟨#[69,113]⟩,.string ⟨#[]⟩,.int .i64 0,.slice none 0 0,.string ⟨#[88]⟩,.string ⟨#[]⟩,.int .i64 0,.slice none 0 0] 55 (0,0))→ahg (Calls Tryz.prog 16 #[.agg #[.slice none 0 0,.slice (some ⟨w.heap.size+1,0,none⟩) 2 2,.slice (some ⟨w.heap.size+1+1+1,0,none⟩) 1 1],.slice (some ⟨w.heap.size+1+1+1+1+1+1+1+1+1,0,none⟩) 2 2,.slice A 2 c,.slice (some ⟨g,0,none⟩) 2 2] w' fun e z=>e=.returned (.tuple #[.slice none 0 0,.int .i64 1,.int .i64 16])∧Ext w' z)):=aa (fun w' A c g e hA hg=>aa ((HX.o w' (X5.o.trans e)).all c hA (HG.o w' (X5.o.trans e)) (HV.o w' (X5.o.trans e)) hg))
  go_cut [6,7,8] (fun s6 s7 s8 wx=>s6=.slice none 0 0∧s7=.int .i64 1∧s8=.int .i64 16∧ahg (Ext W5 wx))
  case first=>
   go_region_held3 (fun w'=>w'.cell? ⟨w.heap.size+1+1+1+1,0,none⟩=some (.slice none 0 0)∧w'.cell? ⟨w.heap.size+1+1+1+1,1,none⟩=some (.slice (some ⟨w.heap.size+1,0,none⟩) 2 2)∧w'.cell? ⟨w.heap.size+1+1+1+1,2,none⟩=some (.slice (some ⟨w.heap.size+1+1+1,0,none⟩) 1 1)) (first|with_reducible assumption|go_keep) (first
    |(
     go_at_call 23
     refine Calls.mono (xw 0 (by decide) _) ?_;rintro e y1 ⟨⟨A,c,rfl,hA⟩,hx1⟩;have E1:ahg (Ext W5 y1):=aa (by refine Ext.trans ?_ hx1;exact(by repeat(first|exact eR _|exact eA (by assumption) _|refine eA ?_ _|refine eM ?_ _ _|refine eD ?_|refine eN ?_ _)));have HA:=aa hA;have kS:=U8.o y1 E1.o
     (try (have hz1:=aa ((hx1.heap (ae (cn W5 _))).trans (cn W5 _))))
     clear hA hx1)
    |(
     go_at_call 16
     with_reducible refine Calls.mono (wJ.o _ _ _ _ ?e ?hA ?hg).o ?_
     case e=>exact Ext.trans E1.o (by repeat(first|exact eR _|exact eA (by assumption) _|refine eA ?_ _|refine eM ?_ _ _|refine eD ?_|refine eN ?_ _))
     case hA=>exact HA.o.ext (by repeat(first|exact eR _|exact eA (by assumption) _|refine eA ?_ _|refine eM ?_ _ _|refine eD ?_|refine eN ?_ _))
     case hg=>first|with_reducible exact ah y1 _ _ rfl|exact(Ext.heap (by repeat(first|exact eR _|exact eA (by assumption) _|refine eA ?_ _|refine eM ?_ _ _|refine eD ?_|refine eN ?_ _)) (ae hz1.o)).trans hz1.o
     rintro e y2 ⟨rfl,hx2⟩;have Ec:ahg (Ext y1 y2):=aa (by refine Ext.trans ?_ hx2;exact(by repeat(first|exact eR _|exact eA (by assumption) _|refine eA ?_ _|refine eM ?_ _ _|refine eD ?_|refine eN ?_ _)));have kS:=U8.o y2 (E1.o.trans Ec.o)))
   all_goals (go_wp2_with fail;go_meet;exact⟨rfl,rfl,rfl,aa (E1.o.trans Ec.o)⟩)
  case rest=>
   obtain⟨rfl,rfl,rfl,XD⟩:=hcut;have X6:=aa (X5.o.trans XD.o);go_wp2_with fail;refine((HX.o _ X6.o).types).mono ?_;rintro e w7 ⟨⟨A7,c7,d0,d1,rfl,DD,hd7⟩,wI⟩;have X7:=aa (XD.o.trans wI);have HT7:=aa DD;have HB7:=aa (Jk.o.box.ext X7.o);have HM7:=aa (Jk.o.iM.ext X7.o);clear DD wI;have l2:((2:Nat):Int)=2:=rfl;go_upto_region 9 with fail;obtain⟨k0,k1,k2,k3,k4,k5⟩:=HB7.o.cells;have k6:=HB7.o.lt;go_wp2_with fail;refine(L9 Hp.o HM7.o).mono ?_;rintro e w8 ⟨rfl,qi⟩;have HT8:=aa (HT7.o.ext qi);have PZ:=HT8.o.args d1 (by simp);obtain⟨b8,o8,rfl,QX,q0,q1,q2⟩:=HT8.o.at_ (i:=1) (by simp);have X8:=aa (X7.o.trans qi);clear k0 k1 k2 k3 k4 k5 k6 qi;go_wp2_with fail;refine(zB hd7 PZ).mono ?_;rintro e w9 ⟨rfl,Qq⟩;go_wp2;go_ret;exact⟨rfl,X0.o.trans (X5.o.trans (X8.o.trans Qq))⟩
theorem xx (A B:Option Addr) (ca cb:Nat) (l m:List Ty) (w:World) (hl:bF w A l) (hm:bF w B m) (h:l.map Ty.pure=m.map Ty.pure) (hn:l.length≤9223372036854775807) :
  Calls Tryz.prog 11 #[.slice A l.length ca,.slice B m.length cb] w fun e w'=>e=.returned (.bool true)∧Ext w w':=by
 have hlen:l.length=m.length:=by simpa using congrArg List.length h
 have HP:ahg (∀i (h1:i<l.length) (h2:i<m.length),bL (l[i]'h1) (m[i]'h2)=true):=aa (fun i h1 h2=>by
  rw[eJ];have:(l.map Ty.pure)[i]?=(m.map Ty.pure)[i]?:=by rw[h]
  rw[List.getElem?_map,List.getElem?_map,ahw h1,ahw h2] at this;simpa using this)
 have HL:=aa hl;have HM:=aa hm;have Kg:=aa hlen;rw[←hlen];clear hl hm h hlen;go_enter Tryz.func11,Tryz.ntmps11;go_wp2
 go_loopw [5] (fun i wr=>∃k:Nat,k≤l.length∧i=.int .i64 k∧ahg (Ext w wr)) (fun i _=>l.length - (intOf i).toNat)
 case atStart=>exact⟨0,ahj _,rfl,aa (by repeat(first|exact eR _|exact eA (by assumption) _|refine eA ?_ _|refine eM ?_ _ _|refine eD ?_|refine eN ?_ _))⟩
 case round=>
  obtain⟨k,hk,rfl,HX⟩:=hrel
  by_cases hlt:k<l.length
  ·have fR:k<m.length:=by rw[←Kg.o];exact hlt
   have aS:(k:Int)<(l.length:Int):=by omega
   have dy:(0:Int)≤(k:Int):=by omega
   obtain⟨p,o,hA,hp,q0,q1,q2⟩:=(HL.o.ext HX.o).at_ hlt;obtain⟨p',o',hB,DV,r0,r1,r2⟩:=(HM.o.ext HX.o).at_ fR;have HC:=aa (fun w' (e:Ext w w')=>aa (wy (l[k]'hlt) (m[k]'fR) w' ((HL.o.args _ (ahh hlt)).ext e) ((HM.o.args _ (ahh fR)).ext e)));rw[HP.o k hlt fR] at HC;have Dr:=aa (fun w' (e:Ext wr w')=>ahk (e.cell q0) (ahk (e.cell q1) (ahk (e.cell q2) (ahk (e.cell r0) (ahk (e.cell r1) (e.cell r2))))));generalize l[k]'hlt=x at *;generalize m[k]'fR=y at *;rw[hA,hB];clear hA hB;unfold bh at HC;go_wp2
   go_region_held3 (fun w'=>w'.cell? ⟨p,o+k*3,none⟩=some (.string ⟨x.aq.toArray⟩)∧w'.cell? ⟨p,o+k*3+1,none⟩=some (.int .i64 x.var)∧w'.cell? ⟨p,o+k*3+2,none⟩=some (.slice x.A x.args.length x.cap)∧w'.cell? ⟨p',o'+k*3,none⟩=some (.string ⟨y.aq.toArray⟩)∧w'.cell? ⟨p',o'+k*3+1,none⟩=some (.int .i64 y.var)∧w'.cell? ⟨p',o'+k*3+2,none⟩=some (.slice y.A y.args.length y.cap)) (first|assumption|go_keep) (first
    |(
     go_at_call 31
     refine Calls.mono (HC.o _ (HX.o.trans ((eR _).drew))).o ?_;rintro e w5 ⟨rfl,jB⟩;have X5:=aa (HX.o.trans (((eR wr).drew).trans jB));have k5:=Dr.o _ (((eR wr).drew).trans jB);clear jB))
   clear k5;go_wp2;go_roundw
   case rel=>exact⟨k+1,hlt,by go_num,X5⟩
   case measure=>simp[intOf];omega
  ·have bU:¬(k:Int)<(l.length:Int):=by omega
   go_wp2;go_ret;exact⟨rfl,HX.o⟩
theorem IK (a:Tm):∀(b:Tm) (w:World),aM w a→aM w b→a.pure=b.pure→Calls Tryz.prog 10 #[bl a,bl b] w fun e w'=>e=.returned (.bool true)∧Ext w w':=by
 induction a using Tm.ind with
 |h a ih=>
 intro b w ha hb hp;have Mc:=aa ha.all;have Md:=aa hb.all;have DJ:=aa ha.hd;have HDb:=aa hb.hd;have IH:=aa ih;clear ih ha hb;cases a with
 |mk k n s V vc vs T tc ts A cap l=>
 cases b with
 |mk k' n' s' V' AE vs' T' zC xL A' cap' l'=>
 rw[Tm.aG,Tm.aG] at hp;simp only[Tm.kind,Tm.n,Tm.name,Tm.vars,Tm.types,Tm.kids,Tm.Pure.mk.injEq] at hp;obtain⟨rfl,rfl,rfl,rfl,ht,hk⟩:=hp;have hlt:ts.length=xL.length:=by simpa using congrArg List.length ht
 have hlk:l.length=l'.length:=by simpa using congrArg List.length hk
 have HPk:ahg (∀i (h1:i<l.length) (h2:i<l'.length),(l[i]'h1).pure=(l'[i]'h2).pure):=aa (fun i h1 h2=>by
  have:(l.map Tm.pure)[i]?=(l'.map Tm.pure)[i]?:=by rw[hk]
  rw[List.getElem?_map,List.getElem?_map,ahw h1,ahw h2] at this;simpa using this)
 obtain⟨W,hW⟩:∃W,W=(w.alloc (.cells #[.int .i64 (Tm.mk k n s V vc vs T tc ts A cap l).kind,.int .i64 (Tm.mk k n s V vc vs T tc ts A cap l).n,encStr (Tm.mk k n s V vc vs T tc ts A cap l).name,.slice (Tm.mk k n s V vc vs T tc ts A cap l).V (Tm.mk k n s V vc vs T tc ts A cap l).vars.length (Tm.mk k n s V vc vs T tc ts A cap l).vc,.slice (Tm.mk k n s V vc vs T tc ts A cap l).T (Tm.mk k n s V vc vs T tc ts A cap l).types.length (Tm.mk k n s V vc vs T tc ts A cap l).tc,.slice (Tm.mk k n s V vc vs T tc ts A cap l).A (Tm.mk k n s V vc vs T tc ts A cap l).kids.length (Tm.mk k n s V vc vs T tc ts A cap l).cap] 40)).alloc (.cells #[.int .i64 (Tm.mk k n s V' AE vs T' zC xL A' cap' l').kind,.int .i64 (Tm.mk k n s V' AE vs T' zC xL A' cap' l').n,encStr (Tm.mk k n s V' AE vs T' zC xL A' cap' l').name,.slice (Tm.mk k n s V' AE vs T' zC xL A' cap' l').V (Tm.mk k n s V' AE vs T' zC xL A' cap' l').vars.length (Tm.mk k n s V' AE vs T' zC xL A' cap' l').vc,.slice (Tm.mk k n s V' AE vs T' zC xL A' cap' l').T (Tm.mk k n s V' AE vs T' zC xL A' cap' l').types.length (Tm.mk k n s V' AE vs T' zC xL A' cap' l').tc,.slice (Tm.mk k n s V' AE vs T' zC xL A' cap' l').A (Tm.mk k n s V' AE vs T' zC xL A' cap' l').kids.length (Tm.mk k n s V' AE vs T' zC xL A' cap' l').cap] 40):=⟨_,rfl⟩;have X0:ahg (Ext w W):=aa (by rw[hW];exact((eR _).alloc _).alloc _);have B1:ahg (av W w.heap.size (Tm.mk k n s V vc vs T tc ts A cap l)):=aa (by rw[hW];exact(av.new w _).ext ((eR _).alloc _));have B2:ahg (av W (w.heap.size+1) (Tm.mk k n s V' AE vs T' zC xL A' cap' l')):=aa (by rw[hW];have:=av.new (w.alloc (.cells #[.int .i64 (Tm.mk k n s V vc vs T tc ts A cap l).kind,.int .i64 (Tm.mk k n s V vc vs T tc ts A cap l).n,encStr (Tm.mk k n s V vc vs T tc ts A cap l).name,.slice (Tm.mk k n s V vc vs T tc ts A cap l).V (Tm.mk k n s V vc vs T tc ts A cap l).vars.length (Tm.mk k n s V vc vs T tc ts A cap l).vc,.slice (Tm.mk k n s V vc vs T tc ts A cap l).T (Tm.mk k n s V vc vs T tc ts A cap l).types.length (Tm.mk k n s V vc vs T tc ts A cap l).tc,.slice (Tm.mk k n s V vc vs T tc ts A cap l).A (Tm.mk k n s V vc vs T tc ts A cap l).kids.length (Tm.mk k n s V vc vs T tc ts A cap l).cap] 40)) (Tm.mk k n s V' AE vs T' zC xL A' cap' l');rwa [World.size_alloc] at this);have OJ:=aa (xx T T' tc zC ts xL W (DJ.o.types.ext X0.o) (HDb.o.types.ext X0.o) ht (aho DJ.o.DR DJ.o.pj));have Cs:=aa hlk;have QM:=aa hlt;rw[←hlt] at OJ;have HW:=aa hW.symm;have hvm:=aho DJ.o.Uw DJ.o.JO;have htm:=aho DJ.o.DR DJ.o.pj;have cv:=aho DJ.o.le DJ.o.max;simp only[Tm.vars,Tm.types,Tm.kids] at hvm htm cv;have Zr:∀w',Ext W w'→_:=fun w' e=>(B1.o.ext e).cells
 have VL:∀w',Ext W w'→_:=fun w' e=>(B2.o.ext e).cells
 simp only[Tm.kind,Tm.n,Tm.name,Tm.V,Tm.vc,Tm.vars,Tm.T,Tm.tc,Tm.types,Tm.A,Tm.cap,Tm.kids] at Zr VL HW;rw[←hlt,←hlk] at VL HW;have OG:=aa Zr;have OC:=aa VL;clear Zr VL hW hk ht hlt hlk;unfold bl;simp only[Tm.kind,Tm.n,Tm.name,Tm.V,Tm.vc,Tm.vars,Tm.T,Tm.tc,Tm.types,Tm.A,Tm.cap,Tm.kids];rw[←QM.o,←Cs.o];obtain⟨a0,a1,a2,a3,a4,a5⟩:=OG.o _ (eR W);obtain⟨b0,b1,b2,b3,b4,b5⟩:=OC.o _ (eR W);go_enter Tryz.func10,Tryz.ntmps10;go_upto_region 1 with fail;rw[HW.o];go_wp2_with fail;refine OJ.o.mono ?_;rintro e w2 ⟨rfl,hx⟩;have X2:=aa hx;clear hx a0 a1 a2 a3 a4 a5 b0 b1 b2 b3 b4 b5;go_wp2
 go_loopw [5] (fun i wr=>∃j:Nat,j≤vs.length∧i=.int .i64 j∧ahg (Ext W wr)) (fun i _=>vs.length - (intOf i).toNat)
 case atStart=>exact⟨0,ahj _,rfl,X2⟩
 case round=>
  obtain⟨j,hj,rfl,HX⟩:=hrel;obtain⟨-,-,-,a3,-,-⟩:=OG.o _ HX.o;obtain⟨-,-,-,b3,-,-⟩:=OC.o _ HX.o
  by_cases hlt:j<vs.length
  ·have EX:=X0.o.trans HX.o;obtain⟨b,o,hA,hb,hc⟩:=Ints.at_ (ak.ext oV DJ.o.vars EX) hlt;obtain⟨b',o',hB,hb',hc'⟩:=Ints.at_ (ak.ext oV HDb.o.vars EX) hlt;have aS:(j:Int)<(vs.length:Int):=by omega
   have q8:(0:Int)≤(j:Int):=by omega
   simp only[Tm.vars,Tm.V] at hA hB hc hc';generalize vs[j]'hlt=y at *;rw[hA] at a3;rw[hB] at b3;clear hA hB EX;go_wp2
   go_quiet (fail)
   go_wp2;go_roundw
   case rel=>exact⟨j+1,hlt,by go_num,aa (HX.o.trans (by repeat(first|exact eR _|exact eA (by assumption) _|refine eA ?_ _|refine eM ?_ _ _|refine eD ?_|refine eN ?_ _)))⟩
   case measure=>simp[intOf];omega
  ·have bU:¬(j:Int)<(vs.length:Int):=by omega
   rename World=>wA
   go_wp2
   go_loopw [6] (fun i wr=>∃j:Nat,j≤l.length∧i=.int .i64 j∧ahg (Ext W wr)) (fun i _=>l.length - (intOf i).toNat)
   case atStart=>exact⟨0,ahj _,rfl,HX⟩
   case round=>
    obtain⟨i,hi,rfl,HX⟩:=hrel;obtain⟨-,-,-,-,-,a5⟩:=OG.o _ HX.o;obtain⟨-,-,-,-,-,b5⟩:=OC.o _ HX.o
    by_cases hlt:i<l.length
    ·have fR:i<l'.length:=by rw[←Cs.o];exact hlt
     have aS:(i:Int)<(l.length:Int):=by omega
     have JZ:(0:Int)≤(i:Int):=by omega
     obtain⟨p,o,hA,hp,q0,q1,q2,q3,q4,q5⟩:=(Mc.o.ext (X0.o.trans HX.o)).at_ hlt;obtain⟨p',o',hB,DV,r0,r1,r2,r3,r4,r5⟩:=(Md.o.ext (X0.o.trans HX.o)).at_ fR;have HC:=aa (fun w' (e:Ext w w')=>aa (IH.o (l[i]'hlt) (ahh hlt) (l'[i]'fR) w' ((Mc.o.kids _ (ahh hlt)).ext e) ((Md.o.kids _ (ahh fR)).ext e) (HPk.o i hlt fR)));simp only[Tm.kids,Tm.A] at hA hB q0 q1 q2 q3 q4 q5 r0 r1 r2 r3 r4 r5;generalize l[i]'hlt=x at *;generalize l'[i]'fR=y at *;rw[hA] at a5;rw[hB] at b5;clear hA hB;have Dr:=aa (fun w' (e:Ext wr w')=>ahk (e.cell a5) (ahk (e.cell b5) (ahk (e.cell q0) (ahk (e.cell q1) (ahk (e.cell q2) (ahk (e.cell q3) (ahk (e.cell q4) (ahk (e.cell q5) (ahk (e.cell r0) (ahk (e.cell r1) (ahk (e.cell r2) (ahk (e.cell r3) (ahk (e.cell r4) (e.cell r5))))))))))))));unfold bl at HC;go_wp2
     go_region_held3 (fun w'=>w'.cell? ⟨w.heap.size,5,none⟩=some (.slice (some ⟨p,o,none⟩) l.length cap)∧w'.cell? ⟨w.heap.size+1,5,none⟩=some (.slice (some ⟨p',o',none⟩) l.length cap')∧w'.cell? ⟨p,o+i*6,none⟩=some (.int .i64 x.kind)∧w'.cell? ⟨p,o+i*6+1,none⟩=some (.int .i64 x.n)∧w'.cell? ⟨p,o+i*6+2,none⟩=some (.string ⟨x.name.toArray⟩)∧w'.cell? ⟨p,o+i*6+3,none⟩=some (.slice x.V x.vars.length x.vc)∧w'.cell? ⟨p,o+i*6+4,none⟩=some (.slice x.T x.types.length x.tc)∧w'.cell? ⟨p,o+i*6+5,none⟩=some (.slice x.A x.kids.length x.cap)
      ∧ w'.cell? ⟨p',o'+i*6,none⟩=some (.int .i64 y.kind)∧w'.cell? ⟨p',o'+i*6+1,none⟩=some (.int .i64 y.n)∧w'.cell? ⟨p',o'+i*6+2,none⟩=some (.string ⟨y.name.toArray⟩)∧w'.cell? ⟨p',o'+i*6+3,none⟩=some (.slice y.V y.vars.length y.vc)∧w'.cell? ⟨p',o'+i*6+4,none⟩=some (.slice y.T y.types.length y.tc)∧w'.cell? ⟨p',o'+i*6+5,none⟩=some (.slice y.A y.kids.length y.cap)) (first|assumption|exact Dr.o _ ((eR _).drew)|go_keep) (first
      |(
       go_at_call 10
       refine Calls.mono (HC.o _ ((X0.o.trans HX.o).trans ((eR _).drew))).o ?_;rintro e w5 ⟨rfl,jB⟩;have X5:=aa (HX.o.trans (((eR wr).drew).trans jB));have k5:=Dr.o _ (((eR wr).drew).trans jB);clear jB))
     clear k5;go_wp2;go_roundw
     case rel=>exact⟨i+1,hlt,by go_num,X5⟩
     case measure=>simp[intOf];omega
    ·have bU:¬(i:Int)<(l.length:Int):=by omega
     go_wp2;go_ret;exact⟨rfl,X0.o.trans HX.o⟩
set_option maxRecDepth 512
set_option maxHeartbeats 200000
theorem Ma {cs:List dK}{ins:List cX}{preds:List Pd}{given:List Tm}{w w' x x':World}{p:Pf}{t t':Tm}{m m':Nat}(h:oy w w' cs ins preds given p t m) (h':oy x x' cs ins preds given p t' m'):m=m'∧t.pure=t'.pure:=by
 have e:=LO rfl h h';subst e;refine⟨rfl,?_⟩
 rcases h.o with ⟨h1,h2,-⟩|⟨-,-,u,hu,⟨h1,h2,-⟩|⟨h1,h2,-⟩⟩
 ·rcases h'.o with ⟨-,k2,-⟩|⟨-,-,v,hv,⟨k1,-,-⟩|⟨k1,-,-⟩⟩
  ·rw[h2,k2]
  ·omega
  ·omega
 ·rcases h'.o with ⟨k1,-,-⟩|⟨-,-,v,hv,⟨-,k2,-⟩|⟨k1,-,-⟩⟩
  ·omega
  ·rw[h2,k2,hu,hv]
  ·omega
 ·rcases h'.o with ⟨k1,-,-⟩|⟨-,-,v,hv,⟨k1,-,-⟩|⟨-,k2,-⟩⟩
  ·omega
  ·omega
  ·rw[h2,k2]
set_option maxRecDepth 10000
set_option maxHeartbeats 8000000
theorem IL (x:dz) (P:Option Addr) (pc:Nat) (preds:List Pd) (L:Option Addr) (lc:Nat) (given:List Tm) (p:Pf) (a0 a1:Addr) (w:World) (he:dX w x) (Ik:∀c∈x.ag,c.aX.length≤2000000000000) (hP:bA w P preds) (hL:bK w L given) (hp:bM w p) (hwd:gF p=true) (hsm:eB p=true) (jd:qY w) (nd:jv w a0 a1) :
  Calls Tryz.prog 3 #[.agg #[.slice x.D x.aA.length x.dc,.slice x.C x.ag.length x.cc,.slice x.I x.insts.length x.ic,.slice P preds.length pc,.slice L given.length lc],cr p] w fun e w'=>e=.returned (.bool true)∧Ext w w':=by
 obtain⟨W,hW⟩:∃W,W=(w.alloc (.cells #[.slice x.D x.aA.length x.dc,.slice x.C x.ag.length x.cc,.slice x.I x.insts.length x.ic,.slice P preds.length pc,.slice L given.length lc] 30)).alloc (.cells #[.int .i64 p.kind,.int .i64 p.n,.slice p.T p.types.length p.tc,.slice p.A p.kids.length p.cap] 34):=⟨_,rfl⟩;have HW:=aa hW.symm;have X0:ahg (Ext w W):=aa (by rw[hW];exact((eR _).alloc _).alloc _);have jL:w.heap.size<(w.alloc (.cells #[.slice x.D x.aA.length x.dc,.slice x.C x.ag.length x.cc,.slice x.I x.insts.length x.ic,.slice P preds.length pc,.slice L given.length lc] 30)).heap.size:=by simp
 have B1:ahg (W.heap[w.heap.size]?=some (.cells #[.slice x.D x.aA.length x.dc,.slice x.C x.ag.length x.cc,.slice x.I x.insts.length x.ic,.slice P preds.length pc,.slice L given.length lc] 30 (0,0))):=aa (by rw[hW];exact(((eR _).alloc _).heap jL).trans (ah _ _ _ rfl));have B2:ahg (aO W (w.heap.size+1) p):=aa (by rw[hW];exact ah _ _ _ (by simp));have Pg:=aa (fun w' (e:Ext W w')=>aa (Dm a0 a1 w' (qY.ext jd (X0.o.trans e)) (nd.ext (X0.o.trans e))));have uF:=aa (fun w' (e:Ext W w')=>aa (LX x P pc preds L lc given w' (he.ext (X0.o.trans e)) Ik (hP.ext (X0.o.trans e)) (hL.ext (X0.o.trans e))));have HFf:=aa (fun A c l' w' (h:jT w' A l') (hle:l'.length≤100000)=>aa (JQ A c l' w' h hle));have HPi:=aa (fun w' (e:Ext W w')=>hp.ext (X0.o.trans e));have HA1:=aa (fun w' (e:Ext W w') (hf:jJ x preds given) (hz:p.size≤4096)=>aa (zu x P pc preds L lc given hf.few.pl p a0 a1 w' (he.ext (X0.o.trans e)) (hP.ext (X0.o.trans e)) (hL.ext (X0.o.trans e)) (hp.ext (X0.o.trans e)) (qY.ext jd (X0.o.trans e)) (nd.ext (X0.o.trans e)) (tI hf.terms hz)));have Qr:=aa (fun w' (e:Ext W w') (hf:jJ x preds given) (hz:p.size≤4096)=>aa (Ib x P pc preds L lc given hf.few.pl (fun d hd=>aho (hf.small d hd) (by decide)) p (by omega) hwd hsm w' (he.ext (X0.o.trans e)) (hP.ext (X0.o.trans e)) (hL.ext (X0.o.trans e)) (hp.ext (X0.o.trans e)) (tI hf.terms hz)));have HT1:=aa (fun w' (e:Ext W w') (hf:jJ x preds given)=>aa (AA P pc preds w' (hP.ext (X0.o.trans e)) (by have:=hf.pl;omega) (fun q hq=>(hP.all q hq).cls)));have xQ:=aa (fun w' (e:Ext W w') (hf:jJ x preds given)=>aa (Di P pc preds w' (hP.ext (X0.o.trans e)) (by have:=hf.pl;omega) (fun q hq=>(hP.all q hq).cls)));clear hW he Ik hP hL hp hwd hsm jd nd jL;unfold eX cr at *;go_enter Tryz.func3,Tryz.ntmps3;go_upto_region 1 with fail;rw[HW.o];clear HW;have g0:=af B1.o 0;have g1:=af B1.o 1;have g2:=af B1.o 2;have g3:=af B1.o 3;have g4:=af B1.o 4;simp only[ahp,ahq,ahr] at g0 g1 g2 g3 g4;have gl:=ae B1.o
 go_cut [5,6,7] (fun s5 s6 s7 wx=>∃b5:Nat,s5=.pointer (some ⟨b5,0,none⟩)∧s6=.slice P preds.length pc∧s7=.slice L given.length lc∧ahg (aJ wx b5 x)∧ahg (Ext W wx))
 case first=>
  go_region
  all_goals (go_wp2_with fail;go_meet;exact⟨_,rfl,rfl,rfl,aa ((aJ.new W x).ext (eR _).drew),aa (((eR _).alloc _).drew)⟩)
 case rest=>
  obtain⟨b5,rfl,rfl,rfl,HE,XC⟩:=hcut;clear g0 g1 g2 g3 g4 gl;obtain⟨e0,e1,e2⟩:=HE.o.cells;have n1:=HE.o.lt;go_wp2_with fail;refine(uF.o _ XC.o).o.mono ?_;rintro e w2 ⟨⟨v,rfl,hv⟩,hx⟩;have X2:=aa (XC.o.trans hx);have xH:=aa (HE.o.ext hx);clear hx e0 e1 e2 n1 uF HE XC
  rcases hv with rfl|⟨rfl,hf⟩
  ·go_wp2_with fail;refine(Pg.o _ X2.o).o.mono ?_;rintro e z ⟨rfl,hz⟩;go_wp2;go_ret;exact⟨rfl,X0.o.trans (X2.o.trans hz)⟩
  have HF:=aa hf;clear hf;obtain⟨p0,p1,p2,p3⟩:=(B2.o.ext X2.o).cells;have Uj:=(B2.o.ext X2.o).lt;go_wp2_with fail;refine(HFf.o (some ⟨w2.heap.size,0,none⟩) 1 [p] _ ⟨ak.block pg [p] (ah _ _ _ rfl),iq ((HPi.o _ X2.o).ext ((eR _).alloc _))⟩ (by simp)).o.mono ?_;rintro e w3 ⟨⟨r,rfl,hr⟩,hx⟩;have X3:=aa ((X2.o.alloc _).trans hx);have Zs:=aa (xH.o.ext (((eR _).alloc _).trans hx));clear hx xH X2 HFf p0 p1 p2 p3 Uj
  rcases hr with rfl|⟨rfl,hs1,-⟩
  ·go_wp2_with fail;refine(Pg.o _ X3.o).o.mono ?_;rintro e z ⟨rfl,hz⟩;go_wp2;go_ret;exact⟨rfl,X0.o.trans (X3.o.trans hz)⟩
  have Hz1:ahg (p.size≤4096):=aa (by
                       have:p.size≤3000:=by simpa [bD] using hs1
                       omega)
  clear hs1;obtain⟨e0,e1,e2⟩:=Zs.o.cells;have n1:=Zs.o.lt;obtain⟨p0,p1,p2,p3⟩:=(B2.o.ext X3.o).cells;have Uj:=(B2.o.ext X3.o).lt;go_wp2_with fail;refine(HA1.o _ X3.o HF.o Hz1.o).o.mono ?_;rintro e w4 ⟨⟨t,n,rfl,Jc⟩,hx⟩;have X4:=aa (X3.o.trans hx);have Y4:=aa hx;have Mq:=aa Jc;clear hx Jc HA1 e0 e1 e2 n1 p0 p1 p2 p3 Uj;unfold bl;go_upto_region 5 with fail;refine bC ?_;intro W5 jR;have Z5:ahg (Ext w4 W5):=aa (by rw[jR];exact(eR _).alloc _);have D5:ahg (av W5 w4.heap.size t):=aa (by rw[jR];exact av.new w4 t);have X5:=aa (X4.o.trans Z5.o);have HE5:=aa (Zs.o.ext (Y4.o.trans Z5.o));clear jR;obtain⟨e0,e1,e2⟩:=HE5.o.cells;have n1:=HE5.o.lt;obtain⟨p0,p1,p2,p3⟩:=(B2.o.ext X5.o).cells;have Uj:=(B2.o.ext X5.o).lt;go_wp2_with fail;refine(Qr.o _ X5.o HF.o Hz1.o).o.mono ?_;rintro e w6 ⟨⟨t',n',rfl,hw2⟩,hx⟩;have X6:=aa (X5.o.trans hx);have HS:ahg (n=n'∧aM w4 t∧aM w6 t'∧t.pure=t'.pure):=aa (by
   obtain⟨h1,h2⟩:=Ma Mq.o hw2;exact⟨h1,Mq.o.iM,hw2.iM,h2⟩)
  have D6:=aa (D5.o.ext hx);have Y6:=aa (Z5.o.trans hx);clear hx hw2 Mq Qr e0 e1 e2 n1 p0 p1 p2 p3 Uj D5;obtain⟨hn,-⟩:=HS.o;subst hn;unfold bl;go_upto_region 6 with fail;refine bC ?_;intro W7 sG;have Z7:ahg (Ext w6 W7):=aa (by rw[sG];exact(eR _).alloc _);have D7:ahg (av W7 w6.heap.size t'):=aa (by rw[sG];exact av.new w6 t');have X7:=aa (X6.o.trans Z7.o);clear sG;obtain⟨c0,c1,c2,c3,c4,c5⟩:=(D6.o.ext Z7.o).cells;have lc6:=(D6.o.ext Z7.o).lt;obtain⟨d0,d1,d2,d3,d4,d5⟩:=D7.o.cells;have ld7:=D7.o.lt;have vX:=aa (IK t t' W7 (HS.o.2.1.ext (Y6.o.trans Z7.o)) (HS.o.2.2.1.ext Z7.o) HS.o.2.2.2);unfold bl at vX;clear HS;go_wp2_with fail;refine vX.o.mono ?_;rintro e w8 ⟨rfl,hx⟩;have X8:=aa (X7.o.trans hx);clear hx vX c0 c1 c2 c3 c4 c5 d0 d1 d2 d3 d4 d5 lc6 ld7;go_wp2_with fail;refine(HT1.o _ X8.o HF.o).o.mono ?_;rintro e w9 ⟨⟨A1,c1,ds1,rfl,a1,a2,a3,a4⟩,hx⟩;have X9:=aa (X8.o.trans hx);have H3:=aa a3;clear hx a3 HT1;go_wp2_with fail;refine(xQ.o _ X9.o HF.o).o.mono ?_;rintro e Rz ⟨⟨A2,c2,ds2,rfl,b1,b2,b3,b4⟩,hx⟩;have Vn:=aa (X9.o.trans hx);have OJ:=aa (xx A1 A2 c1 c2 ds1 ds2 Rz (H3.o.ext hx) b3 (a4.trans b4.symm) (by omega));clear hx b3 xQ H3 a4 b4;go_wp2_with fail;refine OJ.o.mono ?_;rintro e w11 ⟨rfl,hx⟩;have X11:=aa (Vn.o.trans hx);clear hx OJ;go_wp2_with fail;refine(Pg.o _ X11.o).o.mono ?_;rintro e z ⟨rfl,hz⟩;go_wp2;go_ret;exact⟨rfl,X0.o.trans (X11.o.trans hz)⟩
set_option maxRecDepth 512
set_option maxHeartbeats 200000
end Go.Proofs.YtigafbmabjglfaaGreatDoor
