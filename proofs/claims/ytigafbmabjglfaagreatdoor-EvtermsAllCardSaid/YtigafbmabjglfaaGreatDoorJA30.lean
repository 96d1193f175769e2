import Derived.Test.YtigafbmabjglfaaGreatDoorJA29
namespace Go.Proofs.YtigafbmabjglfaaGreatDoor
open Go.RowKit
structure j6 (W:World) (b0 b1 b2 b3 b4 b5 b6 b7 b8 b9:Nat):Prop where
 d0:W.heap[b0]?=some (.cells #[.string ⟨#[69,113]⟩] 9 (0,0))
 d1:W.heap[b1]?=some (.cells #[.string ⟨#[69,113]⟩,.slice none 0 0,.slice none 0 0,.string ⟨#[79,114,100]⟩,.slice (some ⟨b0,0,none⟩) 1 1,.slice none 0 0] 68 (0,0))
 d2:W.heap[b2]?=some (.cells #[.string ⟨#[69,113]⟩,.string ⟨#[]⟩,.int .i64 0,.slice none 0 0] 55 (0,0))
 d3:W.heap[b3]?=some (.cells #[.string ⟨#[69,113]⟩,.string ⟨#[76]⟩,.int .i64 1,.slice (some ⟨b2,0,none⟩) 1 1] 70 (0,0))
 d4:W.heap[b4]?=some (.cells #[.slice none 0 0,.slice (some ⟨b1,0,none⟩) 2 2,.slice (some ⟨b3,0,none⟩) 1 1] 26 (0,0))
 d5:W.heap[b5]?=some (.cells #[.string ⟨#[]⟩,.int .i64 0,.slice none 0 0] 53 (0,0))
 d6:W.heap[b6]?=some (.cells #[.int .i64 1,.int .i64 1,.slice none 0 0,.slice none 0 0] 34 (0,0))
 d7:W.heap[b7]?=some (.cells #[.int .i64 2,.int .i64 0,.slice none 0 0,.slice (some ⟨b6,0,none⟩) 1 1] 34 (0,0))
 d8:W.heap[b8]?=some (.cells #[.int .i64 3,.int .i64 0,.slice (some ⟨b5,0,none⟩) 1 1,.slice (some ⟨b7,0,none⟩) 1 1] 34 (0,0))
 d9:W.heap[b9]?=some (.cells #[.string ⟨#[69,113]⟩,.string ⟨#[]⟩,.int .i64 0,.slice none 0 0,.string ⟨#[79,114,100]⟩,.string ⟨#[]⟩,.int .i64 0,.slice none 0 0] 55 (0,0))
theorem j6.ext {W W':World}{b0 b1 b2 b3 b4 b5 b6 b7 b8 b9:Nat}(h:j6 W b0 b1 b2 b3 b4 b5 b6 b7 b8 b9) (e:Ext W W'):j6 W' b0 b1 b2 b3 b4 b5 b6 b7 b8 b9:=⟨(e.heap (ae h.d0)).trans h.d0,(e.heap (ae h.d1)).trans h.d1,(e.heap (ae h.d2)).trans h.d2,(e.heap (ae h.d3)).trans h.d3,(e.heap (ae h.d4)).trans h.d4,(e.heap (ae h.d5)).trans h.d5,(e.heap (ae h.d6)).trans h.d6,(e.heap (ae h.d7)).trans h.d7,(e.heap (ae h.d8)).trans h.d8,(e.heap (ae h.d9)).trans h.d9⟩
section
variable {W : World}{b0 b1 b2 b3 b4 b5 b6 b7 b8 b9:Nat}
theorem j6.leaf (W:World) (n:Int):bW W (NB n):=.mk ⟨aiH _,by show 0≤9223372036854775807;omega,aiH _,by show 0≤9223372036854775807;omega,bH.nil _ _,ak.nil _ _ _⟩ (by intro k hk;cases hk)
theorem j6.p (h:j6 W b0 b1 b2 b3 b4 b5 b6 b7 b8 b9):bW W (pE b5 b6 b7):=by
 have h1:bW W (Lk b6):=.mk ⟨aiH _,by show 0≤9223372036854775807;omega,aiG _,by show 1≤9223372036854775807;omega,bH.nil _ _,ak.block si [NB 1] h.d6⟩ (iP (j6.leaf W 1));exact .mk ⟨aiG _,by show 1≤9223372036854775807;omega,aiG _,by show 1≤9223372036854775807;omega,⟨ak.block dr [Ty.zero] h.d5,iP (aH.zero W)⟩,ak.block si [Lk b6] h.d7⟩ (iP h1)
theorem j6.g (h:j6 W b0 b1 b2 b3 b4 b5 b6 b7 b8 b9):bg W (some ⟨b9,0,none⟩) jv:=⟨ak.block j8 jv h.d9,fun x hx=>by
 simp only[jv,List.mem_cons,List.not_mem_nil,or_false] at hx
 rcases hx with rfl|rfl
 ·exact⟨by show 2≤1000000000000000000;omega,aH.zero W⟩
 ·exact⟨by show 3≤1000000000000000000;omega,aH.zero W⟩⟩
theorem j6.e (h:j6 W b0 b1 b2 b3 b4 b5 b6 b7 b8 b9):dJ W (XV b0 b1 b2 b3):=by
 have hS:dP W (some ⟨b0,0,none⟩) [[69,113]]:=kg.2 (ak.block mf [[69,113]] h.d0);have hK:lG W (some ⟨b1,0,none⟩) (ju b0):=⟨ak.block Gi (ju b0) h.d1,fun x hx=>by
  simp only[ju,List.mem_cons,List.not_mem_nil,or_false] at hx
  rcases hx with rfl|rfl
  ·exact⟨by show 2≤1000000000000000000;omega,aiG _,by show 0≤9223372036854775807;omega,kg.2 (ak.nil _ _ _),by simp,aiG _,by show 0≤9223372036854775807;omega,lF.nil _ _⟩
  ·exact⟨by show 3≤1000000000000000000;omega,aiG _,by show 1≤9223372036854775807;omega,hS,iP (by show 2≤1000000000000000000;omega),aiG _,by show 0≤9223372036854775807;omega,lF.nil _ _⟩⟩
 have hP:bg W (some ⟨b2,0,none⟩) [⟨[69,113],Ty.zero⟩]:=⟨ak.block j8 [⟨[69,113],Ty.zero⟩] h.d2,iP ⟨by show 2≤1000000000000000000;omega,aH.zero _⟩⟩;have hI:iJ W (some ⟨b3,0,none⟩) (j4 b2):=⟨ak.block KH (j4 b2) h.d3,iP ⟨by show 2≤1000000000000000000;omega,by show 1≤1000000000000000000;omega,aiG _,by show 1≤9223372036854775807;omega,hP⟩⟩;exact⟨aiG _,by show 0≤9223372036854775807;omega,nh.nil _ _,aiG _,by show 2≤9223372036854775807;omega,hK,aiG _,by show 1≤9223372036854775807;omega,hI⟩
theorem CH (b0 b1 b2 b3:Nat):nV (XV b0 b1 b2 b3) jv:=⟨by show 2≤1000000;omega,by show 2≤9;omega,fun c hc=>by
 have hc:c∈ju b0:=hc;simp only[ju,List.mem_cons,List.not_mem_nil,or_false] at hc
 rcases hc with rfl|rfl
 ·show 0≤9;omega
 ·show 1≤9;omega,by show 1≤1000000;omega,fun y hy=>by
 have hy:y∈j4 b2:=hy;simp only[j4,List.mem_cons,List.not_mem_nil,or_false] at hy;subst hy;show 1≤40000;omega⟩
theorem jq (f:Nat) (hf:f≤1000):(cm 2 (f:Int)).length=2:=by rw[Bg _ (by omega) (by omega)];rfl
theorem yZ (f:Nat) (hf:f≤1000) (w:World):Calls Tryz.prog 23 #[.int .i64 2,.int .i64 (f:Int)] w fun e w'=>(∃A c,e=.returned (.slice A 2 c)∧bm w' A (cm 2 (f:Int)))∧Ext w w':=by
 have h:=NF 2 (f:Int) w;rw[jq f hf] at h;refine h.mono ?_;rintro e w' ⟨⟨A,c,h1,-,-,h2⟩,hx⟩;exact⟨⟨A,c,h1,h2⟩,hx⟩
theorem Fm (k:Nat){f n:Int}{g:Tm}(hg:g∈cm n f):az k g:=by
 unfold cm at hg
 split at hg
 ·cases hg
 ·obtain⟨i,-,rfl⟩:=List.mem_map.1 hg;exact .mk (fun h=>absurd rfl h) (fun h=>absurd rfl h) (by intro x hx;cases hx) (fun h=>absurd rfl h) (by intro x hx;cases hx)
theorem NG {k b5 b6 b7:Nat}(h5:k≠b5) (h6:k≠b6) (h7:k≠b7):aJ k (pE b5 b6 b7):=by
 have hg:aJ k (NB 1):=.mk (fun h=>absurd rfl h) (by intro x hx;cases hx) (fun h=>absurd rfl h) (by intro x hx;cases hx);have hs:aJ k (Lk b6):=.mk (fun h=>absurd rfl h) (by intro x hx;cases hx) (fun _ a e=>by injection e with e;subst e;exact fun h=>h6 h.symm) (iP hg);exact .mk (fun _ a e=>by injection e with e;subst e;exact fun h=>h5 h.symm) (iP (dG (fun h=>absurd rfl h) (by intro z hz;cases hz))) (fun _ a e=>by injection e with e;subst e;exact fun h=>h7 h.symm) (iP hs)
theorem j6.term (h:j6 W b0 b1 b2 b3 b4 b5 b6 b7 b8 b9){A:Option Addr}(c:Nat) (hA:bm W A (cm 2 ((5:Nat):Int))){a0 a1:Addr}(jb:sw W) (nZ:jL W a0 a1):Calls Tryz.prog 8 #[.agg #[.slice none 0 0,.slice (some ⟨b1,0,none⟩) 2 2,.slice (some ⟨b3,0,none⟩) 1 1],.slice (some ⟨b9,0,none⟩) 2 2,.slice A 2 c,.agg #[.int .i64 3,.int .i64 0,.slice (some ⟨b5,0,none⟩) 1 1,.slice (some ⟨b7,0,none⟩) 1 1]] W fun e w'=>(∃t,e=.returned (.tuple #[bz t,.int .i64 0])∧aQ w' t∧t.pure=tE∧∀k,k<W.heap.size→k≠b5→k≠b6→k≠b7→az k t)∧Ext W w':=by
 have Wj:=Wa b0 b2 b5 b6 b7;have hpr:=Rj b0 b2 b5 b6 b7;have hl:=jq 5 (by omega);have hc:=JW (XV b0 b1 b2 b3) (some ⟨b9,0,none⟩) 2 jv A c (cm 2 ((5:Nat):Int)) (CH b0 b1 b2 b3).pl (pE b5 b6 b7) a0 a1 W h.e h.g hA h.p jb nZ (fun _ _ t ht=>by
  have ht:t.pure=tE:=ht.trans Wj;obtain⟨k1,k2,-⟩:=r8 ht;exact⟨k1,by omega⟩)
 rw[hl] at hc;refine hc.mono ?_;rintro e w' ⟨⟨t,n,rfl,hw⟩,hx⟩
 rcases hw.o with ⟨-,-,h1|⟨-,h1⟩⟩|⟨-,-,u,hu,h1⟩
 ·exact absurd hl.symm h1
 ·have h1:bw (ju b0) (j4 b2) jv (pE b5 b6 b7)=none:=h1;rw[hpr] at h1;cases h1
 ·have hu:u.pure=tE:=hu.trans Wj
  rcases h1 with ⟨rfl,rfl,-⟩|⟨-,-,h2⟩
  ·exact⟨⟨t,rfl,hw.gZ,hu,fun k h0 h5 h6 h7=>hw.away k h0 (fun g hg=>Fm k hg) (NG h5 h6 h7)⟩,hx⟩
  ·rw[(r8 hu).2.2.1] at h2;cases h2
def Wk : List Pd:=[⟨[69,113],Ty.zero⟩,⟨[88],Ty.zero⟩]
theorem Kt {p:Pf}(h:p.pure=.mk 1 0 [] []):p.kind=1∧p.n=0∧p.types=[]∧p.kids=[]:=by
 rw[Pf.aG] at h;injection h with h1 h2 h3 h4;exact⟨h1,h2,mM h3,mM h4⟩
theorem NH (b0 b2:Nat){p:Pf}(h:p.pure=.mk 1 0 [] []):(bw (ju b0) (j4 b2) jv p).isSome=true:=by
 obtain⟨k1,k2,k3,k4⟩:=Kt h;obtain⟨k,n,T,tc,ts,A,c,l⟩:=p;have k1:k=1:=k1;have k2:n=0:=k2;have k3:ts=[]:=k3;have k4:l=[]:=k4;subst k1 k2 k3 k4;rw[fg];have h:ir (ju b0) (j4 b2) jv (.mk 1 0 T tc [] A c []) ((Pf.mk 1 0 T tc [] A c []).kids.map (bw (ju b0) (j4 b2) jv))=some ⟨[69,113],Ty.zero⟩:=rfl;rw[h,Option.filter_some,if_pos]
 ·rfl
 show(bZ [69,113]&&ax Ty.zero)=true;rw[dz];rfl
theorem Ku (b0 b2:Nat){p:Pf}(h:p.pure=.mk 1 0 [] []):kR (ju b0) (j4 b2) jv ((cm 2 ((0:Nat):Int)).map Tm.pure) p=.mk 1 0 (([35]:aj)++cj 0) [] [] []:=by
 obtain⟨k1,k2,k3,k4⟩:=Kt h;rw[nD k1 (n:=0) k2 (by rw[jq 0 (by omega)];omega)];have:(cm 2 ((0:Nat):Int))[0]'(by rw[jq 0 (by omega)];omega)=iG ((0:Nat):Int):=by simp[Bg 0 (by decide) (by decide)]
 rw[this,vn]
theorem r9 {t:Tm}{s:aj}(h:t.pure=.mk 1 0 s [] [] []) (hs:(s == [])=false):dt t∧t.size≤100000∧cx t=true:=by
 obtain⟨h1,h2,-⟩:=Ki h;have h3:=Rh h hs;obtain⟨V,vc,T,tc,A,cap,rfl⟩:=r6 h;refine⟨.mk (by show 0≤10000;omega) (fun y hy=>by cases hy) (by show 0≤1000000;omega) (by show 0≤10000;omega) (fun y hy=>by cases hy),by omega,?_⟩;unfold cx;rw[h1,h2,h3];rfl
theorem j6.all (h:j6 W b0 b1 b2 b3 b4 b5 b6 b7 b8 b9){A:Option Addr}(c:Nat) (hA:bm W A (cm 2 ((0:Nat):Int))){a0 a1:Addr}(jb:sw W) (nZ:jL W a0 a1){g:Nat}(hg:W.heap[g]?=some (.cells #[.string ⟨#[69,113]⟩,.string ⟨#[]⟩,.int .i64 0,.slice none 0 0,.string ⟨#[88]⟩,.string ⟨#[]⟩,.int .i64 0,.slice none 0 0] 55 (0,0))):Calls Tryz.prog 16 #[.agg #[.slice none 0 0,.slice (some ⟨b1,0,none⟩) 2 2,.slice (some ⟨b3,0,none⟩) 1 1],.slice (some ⟨b9,0,none⟩) 2 2,.slice A 2 c,.slice (some ⟨g,0,none⟩) 2 2] W fun e w'=>e=.returned (.tuple #[.slice none 0 0,.int .i64 1,.int .i64 16])∧Ext W w':=by
 have hl:=jq 0 (by omega);have d0:(([35]:aj)++cj 0 == [])=false:=by rw[show cj 0=[48] by kernel_rfl];rfl
 have hq:bg W (some ⟨g,0,none⟩) Wk:=⟨ak.block j8 Wk hg,fun x hx=>by
  simp only[Wk,List.mem_cons,List.not_mem_nil,or_false] at hx
  rcases hx with rfl|rfl
  ·exact⟨by show 2≤1000000000000000000;omega,aH.zero W⟩
  ·exact⟨by show 1≤1000000000000000000;omega,aH.zero W⟩⟩
 have hb0:=Ro b0 b2;have hb1:=Wi b0 b2;have hc:=OQ (XV b0 b1 b2 b3) (some ⟨b9,0,none⟩) 2 jv A c (cm 2 ((0:Nat):Int)) (some ⟨g,0,none⟩) 2 Wk (CH b0 b1 b2 b3) a0 a1 W h.e h.g hA hq (by show 2≤1000000;omega) jb nZ (fun q hq p hp _ _ _ t ht=>by
  simp only[Wk,List.mem_cons,List.not_mem_nil,or_false] at hq
  rcases hq with rfl|rfl
  ·have hp:p.pure=.mk 1 0 [] []:=by
    have hp:mS (ju b0) (j4 b2) jv ⟨[69,113],Ty.zero⟩=.ok p.pure:=hp;rw[hb0] at hp;injection hp with hp;exact hp.symm
   obtain⟨f1,f2,-⟩:=r9 (ht.trans (Ku b0 b2 hp)) d0;exact⟨f1,by omega⟩
  ·have hp:mS (ju b0) (j4 b2) jv ⟨[88],Ty.zero⟩=.ok p.pure:=hp;rw[hb1] at hp;cases hp)
 rw[hl] at hc;refine hc.mono ?_;rintro e w' ⟨⟨v,rfl,hv⟩,hx⟩;have hx1:∀t,¬lZ (ju b0) (j4 b2) jv (cm 2 ((0:Nat):Int)) ⟨[88],Ty.zero⟩ t:=fun t ⟨p,u,h1,_⟩=>by rw[hb1] at h1;cases h1
 rcases hv with ⟨A',c',ts,-,-,-,-,hlen,hall⟩|⟨k,n,rfl,hn,hk,bT,Wl⟩
 ·exact absurd (hall 1 (by show 1<2;omega) (by rw[hlen];show 1<2;omega)) (hx1 _)
 ·have hk:k<2:=hk
  match k,hk with
  |0,_=>
   exfalso
   rcases Wl with he|⟨p,t,m,w1,w2,he,hw,hm,-⟩
   ·have he:mS (ju b0) (j4 b2) jv ⟨[69,113],Ty.zero⟩=.error n:=he;rw[hb0] at he;cases he
   ·have he:mS (ju b0) (j4 b2) jv ⟨[69,113],Ty.zero⟩=.ok p.pure:=he;rw[hb0] at he;injection he with he;have hp:=NH b0 b2 he.symm
    rcases hw.o with ⟨-,-,h1|⟨-,h1⟩⟩|⟨-,-,u,hu,⟨h1,-⟩|⟨-,-,h2⟩⟩
    ·exact h1 hl.symm
    ·have h1:bw (ju b0) (j4 b2) jv p=none:=h1;rw[h1] at hp;cases hp
    ·exact hm h1
    ·rw[(r9 (hu.trans (Ku b0 b2 he.symm)) d0).2.2] at h2;cases h2
  |1,_=>
   rcases Wl with he|⟨p,t,m,w1,w2,he,hw,hm,-⟩
   ·have he:mS (ju b0) (j4 b2) jv ⟨[88],Ty.zero⟩=.error n:=he;rw[hb1] at he;injection he with he;subst he;exact⟨rfl,hx⟩
   ·have he:mS (ju b0) (j4 b2) jv ⟨[88],Ty.zero⟩=.ok p.pure:=he;rw[hb1] at he;cases he
theorem j6.types (h:j6 W b0 b1 b2 b3 b4 b5 b6 b7 b8 b9):Calls Tryz.prog 12 #[.slice (some ⟨b9,0,none⟩) 2 2] W fun e w'=>(∃A c d0 d1,e=.returned (.slice A 2 c)∧bH w' A [d0,d1]∧d1.pure=rp [79,114,100] Ty.zero.pure)∧Ext W w':=by
 refine(NC (some ⟨b9,0,none⟩) 2 jv W h.g (by show 2≤1000000;omega) (fun p hp=>(h.g.all p hp).cls)).mono ?_;rintro e w' ⟨⟨A,c,ds,rfl,-,-,hT,hd⟩,hx⟩;have hd:ds.map Ty.pure=[rp [69,113] Ty.zero.pure,rp [79,114,100] Ty.zero.pure]:=hd;obtain⟨d0,d1,rfl,-,h1⟩:=Kg hd;exact⟨⟨A,c,d0,d1,rfl,hT,h1⟩,hx⟩
theorem Bl {d:Ty}(hp:d.pure=rp [79,114,100] Ty.zero.pure) (hd:aH W d):Calls Tryz.prog 25 #[.agg #[.slice none 0 0,encStr d.aq,.int .i64 d.var,.slice d.A d.args.length d.cap]] W fun e w'=>e=.returned (.string ⟨#[123,79,114,100,125,32,97]⟩)∧Ext W w':=by
 have e:∃A c A1 c1,d=.mk [123,79,114,100,125] 0 A c [.mk [] 0 A1 c1 []]:=by
  rw[r7] at hp;obtain⟨s,v,A,c,l⟩:=d;rw[Ty.aG] at hp;injection hp with h1 h2 h3;have h1:s=[123,79,114,100,125]:=h1;have h2:v=0:=h2;have h3:l.map Ty.pure=[.mk [] 0 []]:=h3;obtain⟨x,rfl,hx⟩:=wV h3;obtain⟨A1,c1,rfl⟩:=OU hx;subst h1 h2;exact⟨A,c,A1,c1,rfl⟩
 obtain⟨A,c,A1,c1,rfl⟩:=e;have h:=Ce ⟨[],none,0,.mk [123,79,114,100,125] 0 A c [.mk [] 0 A1 c1 []]⟩ W ⟨aiH _,by show 0≤9223372036854775807;omega,ak.nil _ _ _,hd⟩ (by kernel_rfl) (by show 2≤20000;omega) rfl;have hs:oY ⟨[],none,0,.mk [123,79,114,100,125] 0 A c [.mk [] 0 A1 c1 []]⟩=[123,79,114,100,125,32,97]:=by
  unfold oY;rw[show aV (Ty.mk [123,79,114,100,125] 0 A c [.mk [] 0 A1 c1 []])=true by kernel_rfl,if_pos rfl,if_pos rfl]
  kernel_rfl
 rw[hs] at h;exact h
theorem NI {t:Tm}(hp:t.pure=tE) (ht:aQ W t):Calls Tryz.prog 24 #[.agg #[.int .i64 t.kind,.int .i64 t.n,.string ⟨t.name.toArray⟩,.slice t.V t.vars.length t.vc,.slice t.T t.types.length t.tc,.slice t.A t.kids.length t.cap]] W fun e w'=>e=.returned (.string ⟨#[40,40,64,69,113,64,76,32,91,97,93,41,32,40,35,54,46,79,114,100,46,48,41,41]⟩)∧Ext W w':=by
 obtain⟨f1,f2,f3,f4⟩:=r8 hp;exact Rp t _ f4 f3 f1 f2 W ht
end
structure wW (W wx:World) (b:Nat) (t:Tm):Prop where
 x:Ext W wx
 box:av wx b t
 gZ:aQ wx t
theorem wW.behind {W y:World}{t:Tm}(e:Ext W y) (h:aQ y t):wW W (y.alloc (.cells #[.int .i64 t.kind,.int .i64 t.n,encStr t.name,.slice t.V t.vars.length t.vc,.slice t.T t.types.length t.tc,.slice t.A t.kids.length t.cap] 40)) y.heap.size t:=⟨e.alloc _,av.new y t,h.ext ((eR _).alloc _)⟩
theorem wW.ahead {W y:World}{t:Tm}{B:Nat}{v0 v1 v2 v3 v4 v5:Value}(e:Ext W y) (hB:W.heap.size≤B) (hz:y.heap[B]?=some (.cells #[v0,v1,v2,v3,v4,v5] 40 (0,0))) (h:aQ y t) (ha:az B t) :
  wW W ((((((y.setCell ⟨B,0,none⟩ (.int .i64 t.kind)).setCell ⟨B,1,none⟩ (.int .i64 t.n)).setCell ⟨B,2,none⟩ (encStr t.name)).setCell ⟨B,3,none⟩ (.slice t.V t.vars.length t.vc)).setCell ⟨B,4,none⟩ (.slice t.T t.types.length t.tc)).setCell ⟨B,5,none⟩ (.slice t.A t.kids.length t.cap)) B t:=
 ⟨bk e hB t,gX t hz,h.grown (bh y B t) (fun c e=>by injection e with e;subst e;exact ha)⟩
set_option maxRecDepth 10000
set_option maxHeartbeats 8000000
theorem Fo (a0 a1:Addr) (w:World) (jb:sw w) (nZ:jL w a0 a1):Calls Tryz.prog 7 #[] w fun e w'=>e=.returned (.bool true)∧Ext w w':=by
 obtain⟨W,hW⟩:∃W,W=((((((((((w.alloc (.cells #[.string ⟨#[69,113]⟩] 9)).alloc (.cells #[.string ⟨#[69,113]⟩,.slice none 0 0,.slice none 0 0,.string ⟨#[79,114,100]⟩,.slice (some ⟨w.heap.size,0,none⟩) 1 1,.slice none 0 0] 68)).alloc (.cells #[.string ⟨#[69,113]⟩,.string ⟨#[]⟩,.int .i64 0,.slice none 0 0] 55)).alloc (.cells #[.string ⟨#[69,113]⟩,.string ⟨#[76]⟩,.int .i64 1,.slice (some ⟨w.heap.size+1+1,0,none⟩) 1 1] 70)).alloc (.cells #[.slice none 0 0,.slice (some ⟨w.heap.size+1,0,none⟩) 2 2,.slice (some ⟨w.heap.size+1+1+1,0,none⟩) 1 1] 26)).alloc (.cells #[.string ⟨#[]⟩,.int .i64 0,.slice none 0 0] 53)).alloc (.cells #[.int .i64 1,.int .i64 1,.slice none 0 0,.slice none 0 0] 34)).alloc (.cells #[.int .i64 2,.int .i64 0,.slice none 0 0,.slice (some ⟨w.heap.size+1+1+1+1+1+1,0,none⟩) 1 1] 34)).alloc (.cells #[.int .i64 3,.int .i64 0,.slice (some ⟨w.heap.size+1+1+1+1+1,0,none⟩) 1 1,.slice (some ⟨w.heap.size+1+1+1+1+1+1+1,0,none⟩) 1 1] 34)).alloc (.cells #[.string ⟨#[69,113]⟩,.string ⟨#[]⟩,.int .i64 0,.slice none 0 0,.string ⟨#[79,114,100]⟩,.string ⟨#[]⟩,.int .i64 0,.slice none 0 0] 55)):=⟨_,rfl⟩;have HW:=aa hW.symm;have X0:aiE (Ext w W):=aa (by rw[hW];exact(((((((((((eR _).alloc _).alloc _).alloc _).alloc _).alloc _).alloc _).alloc _).alloc _).alloc _).alloc _));have b0:W.heap[w.heap.size]?=some (.cells #[.string ⟨#[69,113]⟩] 9 (0,0)):=by rw[hW];exact(Ext.heap ((((((((((eR _).alloc _).alloc _).alloc _).alloc _).alloc _).alloc _).alloc _).alloc _).alloc _) (by simp)).trans (ah _ _ _ (by simp))
 have b1:W.heap[w.heap.size+1]?=some (.cells #[.string ⟨#[69,113]⟩,.slice none 0 0,.slice none 0 0,.string ⟨#[79,114,100]⟩,.slice (some ⟨w.heap.size,0,none⟩) 1 1,.slice none 0 0] 68 (0,0)):=by rw[hW];exact(Ext.heap (((((((((eR _).alloc _).alloc _).alloc _).alloc _).alloc _).alloc _).alloc _).alloc _) (by simp)).trans (ah _ _ _ (by simp))
 have b2:W.heap[w.heap.size+1+1]?=some (.cells #[.string ⟨#[69,113]⟩,.string ⟨#[]⟩,.int .i64 0,.slice none 0 0] 55 (0,0)):=by rw[hW];exact(Ext.heap ((((((((eR _).alloc _).alloc _).alloc _).alloc _).alloc _).alloc _).alloc _) (by simp)).trans (ah _ _ _ (by simp))
 have b3:W.heap[w.heap.size+1+1+1]?=some (.cells #[.string ⟨#[69,113]⟩,.string ⟨#[76]⟩,.int .i64 1,.slice (some ⟨w.heap.size+1+1,0,none⟩) 1 1] 70 (0,0)):=by rw[hW];exact(Ext.heap (((((((eR _).alloc _).alloc _).alloc _).alloc _).alloc _).alloc _) (by simp)).trans (ah _ _ _ (by simp))
 have b4:W.heap[w.heap.size+1+1+1+1]?=some (.cells #[.slice none 0 0,.slice (some ⟨w.heap.size+1,0,none⟩) 2 2,.slice (some ⟨w.heap.size+1+1+1,0,none⟩) 1 1] 26 (0,0)):=by rw[hW];exact(Ext.heap ((((((eR _).alloc _).alloc _).alloc _).alloc _).alloc _) (by simp)).trans (ah _ _ _ (by simp))
 have b5:W.heap[w.heap.size+1+1+1+1+1]?=some (.cells #[.string ⟨#[]⟩,.int .i64 0,.slice none 0 0] 53 (0,0)):=by rw[hW];exact(Ext.heap (((((eR _).alloc _).alloc _).alloc _).alloc _) (by simp)).trans (ah _ _ _ (by simp))
 have b6:W.heap[w.heap.size+1+1+1+1+1+1]?=some (.cells #[.int .i64 1,.int .i64 1,.slice none 0 0,.slice none 0 0] 34 (0,0)):=by rw[hW];exact(Ext.heap ((((eR _).alloc _).alloc _).alloc _) (by simp)).trans (ah _ _ _ (by simp))
 have b7:W.heap[w.heap.size+1+1+1+1+1+1+1]?=some (.cells #[.int .i64 2,.int .i64 0,.slice none 0 0,.slice (some ⟨w.heap.size+1+1+1+1+1+1,0,none⟩) 1 1] 34 (0,0)):=by rw[hW];exact(Ext.heap (((eR _).alloc _).alloc _) (by simp)).trans (ah _ _ _ (by simp))
 have b8:W.heap[w.heap.size+1+1+1+1+1+1+1+1]?=some (.cells #[.int .i64 3,.int .i64 0,.slice (some ⟨w.heap.size+1+1+1+1+1,0,none⟩) 1 1,.slice (some ⟨w.heap.size+1+1+1+1+1+1+1,0,none⟩) 1 1] 34 (0,0)):=by rw[hW];exact(Ext.heap ((eR _).alloc _) (by simp)).trans (ah _ _ _ (by simp))
 have b9:W.heap[w.heap.size+1+1+1+1+1+1+1+1+1]?=some (.cells #[.string ⟨#[69,113]⟩,.string ⟨#[]⟩,.int .i64 0,.slice none 0 0,.string ⟨#[79,114,100]⟩,.string ⟨#[]⟩,.int .i64 0,.slice none 0 0] 55 (0,0)):=by rw[hW];exact ah _ _ _ (by simp)
 have HX0:aiE (j6 W (w.heap.size) (w.heap.size+1) (w.heap.size+1+1) (w.heap.size+1+1+1) (w.heap.size+1+1+1+1) (w.heap.size+1+1+1+1+1) (w.heap.size+1+1+1+1+1+1) (w.heap.size+1+1+1+1+1+1+1) (w.heap.size+1+1+1+1+1+1+1+1) (w.heap.size+1+1+1+1+1+1+1+1+1)):=aa ⟨b0,b1,b2,b3,b4,b5,b6,b7,b8,b9⟩;clear b0 b1 b2 b3 b4 b5 b6 b7 b8 b9 hW;have HX:=aa (fun w' (e:Ext W w')=>HX0.o.ext e);have HG:=aa (fun w' (e:Ext W w')=>jb.ext (X0.o.trans e));have HV:=aa (fun w' (e:Ext W w')=>nZ.ext (X0.o.trans e));clear HX0 jb nZ;have ei:aiE (∀w',Ext W w'→w'.cell? ⟨w.heap.size+1+1+1+1,0,none⟩=some (.slice none 0 0)∧w'.cell? ⟨w.heap.size+1+1+1+1,1,none⟩=some (.slice (some ⟨w.heap.size+1,0,none⟩) 2 2)∧w'.cell? ⟨w.heap.size+1+1+1+1,2,none⟩=some (.slice (some ⟨w.heap.size+1+1+1,0,none⟩) 1 1)∧w'.cell? ⟨w.heap.size+1+1+1+1+1+1+1+1,0,none⟩=some (.int .i64 3)∧w'.cell? ⟨w.heap.size+1+1+1+1+1+1+1+1,1,none⟩=some (.int .i64 0)∧w'.cell? ⟨w.heap.size+1+1+1+1+1+1+1+1,2,none⟩=some (.slice (some ⟨w.heap.size+1+1+1+1+1,0,none⟩) 1 1)∧w'.cell? ⟨w.heap.size+1+1+1+1+1+1+1+1,3,none⟩=some (.slice (some ⟨w.heap.size+1+1+1+1+1+1+1,0,none⟩) 1 1)):=aa (fun w' e=>⟨ag (HX.o w' e).d4 0,ag (HX.o w' e).d4 1,ag (HX.o w' e).d4 2,ag (HX.o w' e).d8 0,ag (HX.o w' e).d8 1,ag (HX.o w' e).d8 2,ag (HX.o w' e).d8 3⟩);obtain⟨s0,s1,s2,s3,s4,s5,s6⟩:=ei.o W (eR W);have l4:w.heap.size+1+1+1+1<W.heap.size:=ae (HX.o W (eR W)).d4;have l8:w.heap.size+1+1+1+1+1+1+1+1<W.heap.size:=ae (HX.o W (eR W)).d8;have hn4:w.heap.size+1+1+1+1≠W.heap.size:=by omega
 have TL:w.heap.size+1+1+1+1+1+1+1+1≠W.heap.size:=by omega
 go_enter Tryz.func7,Tryz.ntmps7;go_upto_region 4 with fail;rw[HW.o];clear HW
 go_cut [4,5] (fun s4 s5 wx=>∃(b4:Nat) (t:Tm),s4=.pointer (some ⟨b4,0,none⟩)∧s5=.int .i64 0∧aiE (wW W wx b4 t)∧aiE (t.pure=tE))
 case first=>
  go_region_held3 (fun w'=>w'.cell? ⟨w.heap.size+1+1+1+1,0,none⟩=some (.slice none 0 0)∧w'.cell? ⟨w.heap.size+1+1+1+1,1,none⟩=some (.slice (some ⟨w.heap.size+1,0,none⟩) 2 2)∧w'.cell? ⟨w.heap.size+1+1+1+1,2,none⟩=some (.slice (some ⟨w.heap.size+1+1+1,0,none⟩) 1 1)∧w'.cell? ⟨w.heap.size+1+1+1+1+1+1+1+1,0,none⟩=some (.int .i64 3)∧w'.cell? ⟨w.heap.size+1+1+1+1+1+1+1+1,1,none⟩=some (.int .i64 0)∧w'.cell? ⟨w.heap.size+1+1+1+1+1+1+1+1,2,none⟩=some (.slice (some ⟨w.heap.size+1+1+1+1+1,0,none⟩) 1 1)∧w'.cell? ⟨w.heap.size+1+1+1+1+1+1+1+1,3,none⟩=some (.slice (some ⟨w.heap.size+1+1+1+1+1+1+1,0,none⟩) 1 1)) (first|with_reducible assumption|(obtain⟨g0,g1,g2,g3,g4,g5,g6⟩:=kS;with_reducible exact⟨dR Vd _ _ _ _ _ _ g0,dR Vd _ _ _ _ _ _ g1,dR Vd _ _ _ _ _ _ g2,dR Wm _ _ _ _ _ _ g3,dR Wm _ _ _ _ _ _ g4,dR Wm _ _ _ _ _ _ g5,dR Wm _ _ _ _ _ _ g6⟩)|go_keep) (first
   |(
    go_at_call 23
    refine Calls.mono (yZ 5 (by decide) _) ?_;rintro e y1 ⟨⟨A,c,rfl,hA⟩,hx1⟩;have E1:aiE (Ext W y1):=aa (by refine Ext.trans ?_ hx1;exact(by repeat(first|exact eR _|exact eA (by assumption) _|refine eA ?_ _|refine eM ?_ _ _|refine eD ?_|refine eN ?_ _)));have HA:=aa hA;have kS:=ei.o y1 E1.o
    (try (have hz1:=aa ((hx1.heap (ae (bI W _))).trans (bI W _))))
    clear hA hx1)
   |(
    go_at_call 8
    refine Calls.mono ((HX.o _ (E1.o.trans (by repeat(first|exact eR _|exact eA (by assumption) _|refine eA ?_ _|refine eM ?_ _ _|refine eD ?_|refine eN ?_ _)))).term c (HA.o.ext (by repeat(first|exact eR _|exact eA (by assumption) _|refine eA ?_ _|refine eM ?_ _ _|refine eD ?_|refine eN ?_ _))) (HG.o _ (E1.o.trans (by repeat(first|exact eR _|exact eA (by assumption) _|refine eA ?_ _|refine eM ?_ _ _|refine eD ?_|refine eN ?_ _)))) (HV.o _ (E1.o.trans (by repeat(first|exact eR _|exact eA (by assumption) _|refine eA ?_ _|refine eM ?_ _ _|refine eD ?_|refine eN ?_ _))))) ?_;rintro e y2 ⟨⟨t,rfl,ht,hp,XO⟩,hx2⟩;have Ec:aiE (Ext y1 y2):=aa (by refine Ext.trans ?_ hx2;exact(by repeat(first|exact eR _|exact eA (by assumption) _|refine eA ?_ _|refine eM ?_ _ _|refine eD ?_|refine eN ?_ _)));have kS:=ei.o y2 (E1.o.trans Ec.o)
    first
     |(have hz:aiE (y2.heap[y1.heap.size]?=some (.cells #[.int .i64 0,.int .i64 0,.string ⟨#[]⟩,.slice none 0 0,.slice none 0 0,.slice none 0 0] 40)):=aa (by with_reducible exact(hx2.heap (ae (ah y1 _ _ rfl))).trans (ah y1 _ _ rfl));have Vd:w.heap.size+1+1+1+1≠y1.heap.size:=(by have:=E1.o.size;omega);have Wm:w.heap.size+1+1+1+1+1+1+1+1≠y1.heap.size:=(by have:=E1.o.size;omega))
     |(have hz:=aa ((Ec.o.heap (ae hz1.o)).trans hz1.o);have Vd:=hn4;have Wm:=TL)
     |skip
    try (have hmz:=bB hz.o;have hzl:=ae hz.o;obtain⟨z0,z1,z2,z3,z4,z5,gC,gD,gF,gH,vV,vW⟩:=hmz)))
  all_goals (go_wp2_with fail;go_meet;first
   |(refine⟨y2.heap.size,t,by with_reducible rfl,rfl,?_,aa hp⟩;exact aa (wW.behind (E1.o.trans Ec.o) ht))
   |(refine⟨y1.heap.size,t,by with_reducible rfl,rfl,?_,aa hp⟩;have Mz:=XO y1.heap.size (by simp) (by have:=E1.o.size;omega) (by have:=E1.o.size;omega) (by have:=E1.o.size;omega);exact aa (wW.ahead (E1.o.trans Ec.o) E1.o.size hz.o ht Mz))
   |(refine⟨W.heap.size,t,by with_reducible rfl,rfl,?_,aa hp⟩;have Mz:=XO W.heap.size (by have hzl:=ae hz1.o;simp;omega) (by omega) (by omega) (by omega);exact aa (wW.ahead (E1.o.trans Ec.o) (aiG _) hz.o ht Mz)))
 case rest=>
  obtain⟨b4,t,rfl,rfl,HT,Hp⟩:=hcut;clear s0 s1 s2 s3 s4 s5 s6 hn4 TL;go_upto_region 5 with fail;refine bJ ?_;intro W5 lI;have KY:aiE (wW W W5 b4 t):=aa (by rw[lI];exact HT.o);have X5:aiE (Ext W W5):=aa KY.o.x;have hs5:=X5.o.size;clear lI HT;have hn4:w.heap.size+1+1+1+1≠W5.heap.size:=by omega
  obtain⟨s0,s1,s2,s3,s4,s5,s6⟩:=ei.o W5 X5.o;clear s3 s4 s5 s6;have Sj:aiE (∀w',Ext W5 w'→w'.cell? ⟨w.heap.size+1+1+1+1,0,none⟩=some (.slice none 0 0)∧w'.cell? ⟨w.heap.size+1+1+1+1,1,none⟩=some (.slice (some ⟨w.heap.size+1,0,none⟩) 2 2)∧w'.cell? ⟨w.heap.size+1+1+1+1,2,none⟩=some (.slice (some ⟨w.heap.size+1+1+1,0,none⟩) 1 1)):=aa (fun w' e=>⟨(ei.o w' (X5.o.trans e)).1,(ei.o w' (X5.o.trans e)).2.1,(ei.o w' (X5.o.trans e)).2.2.1⟩);have m4:w.heap.size+1+1+1+1<W5.heap.size:=by omega
  have x9:aiE (∀(w':World) (A:Option Addr) (c g:Nat),Ext W5 w'→bm w' A (cm 2 ((0:Nat):Int))→w'.heap[g]?=some (.cells #[.string ⟨#[69,113]⟩,.string ⟨#[]⟩,.int .i64 0,.slice none 0 0,.string ⟨#[88]⟩,.string ⟨#[]⟩,.int .i64 0,.slice none 0 0] 55 (0,0))→aiE (Calls Tryz.prog 16 #[.agg #[.slice none 0 0,.slice (some ⟨w.heap.size+1,0,none⟩) 2 2,.slice (some ⟨w.heap.size+1+1+1,0,none⟩) 1 1],.slice (some ⟨w.heap.size+1+1+1+1+1+1+1+1+1,0,none⟩) 2 2,.slice A 2 c,.slice (some ⟨g,0,none⟩) 2 2] w' fun e z=>e=.returned (.tuple #[.slice none 0 0,.int .i64 1,.int .i64 16])∧Ext w' z)):=aa (fun w' A c g e hA hg=>aa ((HX.o w' (X5.o.trans e)).all c hA (HG.o w' (X5.o.trans e)) (HV.o w' (X5.o.trans e)) hg))
  go_cut [6,7,8] (fun s6 s7 s8 wx=>s6=.slice none 0 0∧s7=.int .i64 1∧s8=.int .i64 16∧aiE (Ext W5 wx))
  case first=>
   go_region_held3 (fun w'=>w'.cell? ⟨w.heap.size+1+1+1+1,0,none⟩=some (.slice none 0 0)∧w'.cell? ⟨w.heap.size+1+1+1+1,1,none⟩=some (.slice (some ⟨w.heap.size+1,0,none⟩) 2 2)∧w'.cell? ⟨w.heap.size+1+1+1+1,2,none⟩=some (.slice (some ⟨w.heap.size+1+1+1,0,none⟩) 1 1)) (first|with_reducible assumption|go_keep) (first
    |(
     go_at_call 23
     refine Calls.mono (yZ 0 (by decide) _) ?_;rintro e y1 ⟨⟨A,c,rfl,hA⟩,hx1⟩;have E1:aiE (Ext W5 y1):=aa (by refine Ext.trans ?_ hx1;exact(by repeat(first|exact eR _|exact eA (by assumption) _|refine eA ?_ _|refine eM ?_ _ _|refine eD ?_|refine eN ?_ _)));have HA:=aa hA;have kS:=Sj.o y1 E1.o
     (try (have hz1:=aa ((hx1.heap (ae (bI W5 _))).trans (bI W5 _))))
     clear hA hx1)
    |(
     go_at_call 16
     with_reducible refine Calls.mono (x9.o _ _ _ _ ?e ?hA ?hg).o ?_
     case e=>exact Ext.trans E1.o (by repeat(first|exact eR _|exact eA (by assumption) _|refine eA ?_ _|refine eM ?_ _ _|refine eD ?_|refine eN ?_ _))
     case hA=>exact HA.o.ext (by repeat(first|exact eR _|exact eA (by assumption) _|refine eA ?_ _|refine eM ?_ _ _|refine eD ?_|refine eN ?_ _))
     case hg=>first|with_reducible exact ah y1 _ _ rfl|exact(Ext.heap (by repeat(first|exact eR _|exact eA (by assumption) _|refine eA ?_ _|refine eM ?_ _ _|refine eD ?_|refine eN ?_ _)) (ae hz1.o)).trans hz1.o
     rintro e y2 ⟨rfl,hx2⟩;have Ec:aiE (Ext y1 y2):=aa (by refine Ext.trans ?_ hx2;exact(by repeat(first|exact eR _|exact eA (by assumption) _|refine eA ?_ _|refine eM ?_ _ _|refine eD ?_|refine eN ?_ _)));have kS:=Sj.o y2 (E1.o.trans Ec.o)))
   all_goals (go_wp2_with fail;go_meet;exact⟨rfl,rfl,rfl,aa (E1.o.trans Ec.o)⟩)
  case rest=>
   obtain⟨rfl,rfl,rfl,XD⟩:=hcut;have X6:=aa (X5.o.trans XD.o);go_wp2_with fail;refine((HX.o _ X6.o).types).mono ?_;rintro e w7 ⟨⟨A7,c7,d0,d1,rfl,FL,hd7⟩,uG⟩;have X7:=aa (XD.o.trans uG);have HT7:=aa FL;have HB7:=aa (KY.o.box.ext X7.o);have HM7:=aa (KY.o.gZ.ext X7.o);clear FL uG;have l2:((2:Nat):Int)=2:=rfl;go_upto_region 9 with fail;obtain⟨k0,k1,k2,k3,k4,k5⟩:=HB7.o.cells;have k6:=HB7.o.lt;go_wp2_with fail;refine(NI Hp.o HM7.o).mono ?_;rintro e w8 ⟨rfl,rk⟩;have HT8:=aa (HT7.o.ext rk);have RV:=HT8.o.args d1 (by simp);obtain⟨b8,o8,rfl,S9,q0,q1,q2⟩:=HT8.o.at_ (i:=1) (by simp);have X8:=aa (X7.o.trans rk);clear k0 k1 k2 k3 k4 k5 k6 rk;go_wp2_with fail;refine(Bl hd7 RV).mono ?_;rintro e w9 ⟨rfl,MI⟩;go_wp2;go_ret;exact⟨rfl,X0.o.trans (X5.o.trans (X8.o.trans MI))⟩
theorem Kv (A B:Option Addr) (ca cb:Nat) (l m:List Ty) (w:World) (hl:bH w A l) (hm:bH w B m) (h:l.map Ty.pure=m.map Ty.pure) (hn:l.length≤9223372036854775807) :
  Calls Tryz.prog 11 #[.slice A l.length ca,.slice B m.length cb] w fun e w'=>e=.returned (.bool true)∧Ext w w':=by
 have hlen:l.length=m.length:=by simpa using congrArg List.length h
 have HP:aiE (∀i (h1:i<l.length) (h2:i<m.length),bN (l[i]'h1) (m[i]'h2)=true):=aa (fun i h1 h2=>by
  rw[fq];have:(l.map Ty.pure)[i]?=(m.map Ty.pure)[i]?:=by rw[h]
  rw[List.getElem?_map,List.getElem?_map,aiU h1,aiU h2] at this;simpa using this)
 have HL:=aa hl;have HM:=aa hm;have BM:=aa hlen;rw[←hlen];clear hl hm h hlen;go_enter Tryz.func11,Tryz.ntmps11;go_wp2
 go_loopw [5] (fun i wr=>∃k:Nat,k≤l.length∧i=.int .i64 k∧aiE (Ext w wr)) (fun i _=>l.length - (intOf i).toNat)
 case atStart=>exact⟨0,aiH _,rfl,aa (by repeat(first|exact eR _|exact eA (by assumption) _|refine eA ?_ _|refine eM ?_ _ _|refine eD ?_|refine eN ?_ _))⟩
 case round=>
  obtain⟨k,hk,rfl,HX⟩:=hrel
  by_cases hlt:k<l.length
  ·have gJ:k<m.length:=by rw[←BM.o];exact hlt
   have aN:(k:Int)<(l.length:Int):=by omega
   have cV:(0:Int)≤(k:Int):=by omega
   obtain⟨p,o,hA,hp,q0,q1,q2⟩:=(HL.o.ext HX.o).at_ hlt;obtain⟨p',o',hB,F0,r0,r1,r2⟩:=(HM.o.ext HX.o).at_ gJ;have HC:=aa (fun w' (e:Ext w w')=>aa (qY (l[k]'hlt) (m[k]'gJ) w' ((HL.o.args _ (aiF hlt)).ext e) ((HM.o.args _ (aiF gJ)).ext e)));rw[HP.o k hlt gJ] at HC;have Fv:=aa (fun w' (e:Ext wr w')=>aiI (e.cell q0) (aiI (e.cell q1) (aiI (e.cell q2) (aiI (e.cell r0) (aiI (e.cell r1) (e.cell r2))))));generalize l[k]'hlt=x at *;generalize m[k]'gJ=y at *;rw[hA,hB];clear hA hB;unfold bl at HC;go_wp2
   go_region_held3 (fun w'=>w'.cell? ⟨p,o+k*3,none⟩=some (.string ⟨x.aq.toArray⟩)∧w'.cell? ⟨p,o+k*3+1,none⟩=some (.int .i64 x.var)∧w'.cell? ⟨p,o+k*3+2,none⟩=some (.slice x.A x.args.length x.cap)∧w'.cell? ⟨p',o'+k*3,none⟩=some (.string ⟨y.aq.toArray⟩)∧w'.cell? ⟨p',o'+k*3+1,none⟩=some (.int .i64 y.var)∧w'.cell? ⟨p',o'+k*3+2,none⟩=some (.slice y.A y.args.length y.cap)) (first|assumption|go_keep) (first
    |(
     go_at_call 31
     refine Calls.mono (HC.o _ (HX.o.trans ((eR _).drew))).o ?_;rintro e w5 ⟨rfl,jA⟩;have X5:=aa (HX.o.trans (((eR wr).drew).trans jA));have k5:=Fv.o _ (((eR wr).drew).trans jA);clear jA))
   clear k5;go_wp2;go_roundw
   case rel=>exact⟨k+1,hlt,by go_num,X5⟩
   case measure=>simp[intOf];omega
  ·have bS:¬(k:Int)<(l.length:Int):=by omega
   go_wp2;go_ret;exact⟨rfl,HX.o⟩
theorem Kw (a:Tm):∀(b:Tm) (w:World),aQ w a→aQ w b→a.pure=b.pure→Calls Tryz.prog 10 #[bz a,bz b] w fun e w'=>e=.returned (.bool true)∧Ext w w':=by
 induction a using Tm.ind with
 |h a ih=>
 intro b w ha hb hp;have NL:=aa ha.all;have NM:=aa hb.all;have AZ:=aa ha.hd;have HDb:=aa hb.hd;have IH:=aa ih;clear ih ha hb;cases a with
 |mk k n s V vc vs T tc ts A cap l=>
 cases b with
 |mk k' n' s' V' CI vs' T' Bn py A' cap' l'=>
 rw[Tm.aG,Tm.aG] at hp;simp only[Tm.kind,Tm.n,Tm.name,Tm.vars,Tm.types,Tm.kids,Tm.Pure.mk.injEq] at hp;obtain⟨rfl,rfl,rfl,rfl,ht,hk⟩:=hp;have hlt:ts.length=py.length:=by simpa using congrArg List.length ht
 have hlk:l.length=l'.length:=by simpa using congrArg List.length hk
 have HPk:aiE (∀i (h1:i<l.length) (h2:i<l'.length),(l[i]'h1).pure=(l'[i]'h2).pure):=aa (fun i h1 h2=>by
  have:(l.map Tm.pure)[i]?=(l'.map Tm.pure)[i]?:=by rw[hk]
  rw[List.getElem?_map,List.getElem?_map,aiU h1,aiU h2] at this;simpa using this)
 obtain⟨W,hW⟩:∃W,W=(w.alloc (.cells #[.int .i64 (Tm.mk k n s V vc vs T tc ts A cap l).kind,.int .i64 (Tm.mk k n s V vc vs T tc ts A cap l).n,encStr (Tm.mk k n s V vc vs T tc ts A cap l).name,.slice (Tm.mk k n s V vc vs T tc ts A cap l).V (Tm.mk k n s V vc vs T tc ts A cap l).vars.length (Tm.mk k n s V vc vs T tc ts A cap l).vc,.slice (Tm.mk k n s V vc vs T tc ts A cap l).T (Tm.mk k n s V vc vs T tc ts A cap l).types.length (Tm.mk k n s V vc vs T tc ts A cap l).tc,.slice (Tm.mk k n s V vc vs T tc ts A cap l).A (Tm.mk k n s V vc vs T tc ts A cap l).kids.length (Tm.mk k n s V vc vs T tc ts A cap l).cap] 40)).alloc (.cells #[.int .i64 (Tm.mk k n s V' CI vs T' Bn py A' cap' l').kind,.int .i64 (Tm.mk k n s V' CI vs T' Bn py A' cap' l').n,encStr (Tm.mk k n s V' CI vs T' Bn py A' cap' l').name,.slice (Tm.mk k n s V' CI vs T' Bn py A' cap' l').V (Tm.mk k n s V' CI vs T' Bn py A' cap' l').vars.length (Tm.mk k n s V' CI vs T' Bn py A' cap' l').vc,.slice (Tm.mk k n s V' CI vs T' Bn py A' cap' l').T (Tm.mk k n s V' CI vs T' Bn py A' cap' l').types.length (Tm.mk k n s V' CI vs T' Bn py A' cap' l').tc,.slice (Tm.mk k n s V' CI vs T' Bn py A' cap' l').A (Tm.mk k n s V' CI vs T' Bn py A' cap' l').kids.length (Tm.mk k n s V' CI vs T' Bn py A' cap' l').cap] 40):=⟨_,rfl⟩;have X0:aiE (Ext w W):=aa (by rw[hW];exact((eR _).alloc _).alloc _);have B1:aiE (av W w.heap.size (Tm.mk k n s V vc vs T tc ts A cap l)):=aa (by rw[hW];exact(av.new w _).ext ((eR _).alloc _));have B2:aiE (av W (w.heap.size+1) (Tm.mk k n s V' CI vs T' Bn py A' cap' l')):=aa (by rw[hW];have:=av.new (w.alloc (.cells #[.int .i64 (Tm.mk k n s V vc vs T tc ts A cap l).kind,.int .i64 (Tm.mk k n s V vc vs T tc ts A cap l).n,encStr (Tm.mk k n s V vc vs T tc ts A cap l).name,.slice (Tm.mk k n s V vc vs T tc ts A cap l).V (Tm.mk k n s V vc vs T tc ts A cap l).vars.length (Tm.mk k n s V vc vs T tc ts A cap l).vc,.slice (Tm.mk k n s V vc vs T tc ts A cap l).T (Tm.mk k n s V vc vs T tc ts A cap l).types.length (Tm.mk k n s V vc vs T tc ts A cap l).tc,.slice (Tm.mk k n s V vc vs T tc ts A cap l).A (Tm.mk k n s V vc vs T tc ts A cap l).kids.length (Tm.mk k n s V vc vs T tc ts A cap l).cap] 40)) (Tm.mk k n s V' CI vs T' Bn py A' cap' l');rwa [World.size_alloc] at this);have Xr:=aa (Kv T T' tc Bn ts py W (AZ.o.types.ext X0.o) (HDb.o.types.ext X0.o) ht (aiM AZ.o.FV AZ.o.qj));have Eg:=aa hlk;have SU:=aa hlt;rw[←hlt] at Xr;have HW:=aa hW.symm;have hvm:=aiM AZ.o.Wx AZ.o.LG;have htm:=aiM AZ.o.FV AZ.o.qj;have cB:=aiM AZ.o.le AZ.o.max;simp only[Tm.vars,Tm.types,Tm.kids] at hvm htm cB;have hC1:∀w',Ext W w'→_:=fun w' e=>(B1.o.ext e).cells
 have XZ:∀w',Ext W w'→_:=fun w' e=>(B2.o.ext e).cells
 simp only[Tm.kind,Tm.n,Tm.name,Tm.V,Tm.vc,Tm.vars,Tm.T,Tm.tc,Tm.types,Tm.A,Tm.cap,Tm.kids] at hC1 XZ HW;rw[←hlt,←hlk] at XZ HW;have QE:=aa hC1;have Ch:=aa XZ;clear hC1 XZ hW hk ht hlt hlk;unfold bz;simp only[Tm.kind,Tm.n,Tm.name,Tm.V,Tm.vc,Tm.vars,Tm.T,Tm.tc,Tm.types,Tm.A,Tm.cap,Tm.kids];rw[←SU.o,←Eg.o];obtain⟨a0,a1,a2,a3,a4,a5⟩:=QE.o _ (eR W);obtain⟨b0,b1,b2,b3,b4,b5⟩:=Ch.o _ (eR W);go_enter Tryz.func10,Tryz.ntmps10;go_upto_region 1 with fail;rw[HW.o];go_wp2_with fail;refine Xr.o.mono ?_;rintro e w2 ⟨rfl,hx⟩;have X2:=aa hx;clear hx a0 a1 a2 a3 a4 a5 b0 b1 b2 b3 b4 b5;go_wp2
 go_loopw [5] (fun i wr=>∃j:Nat,j≤vs.length∧i=.int .i64 j∧aiE (Ext W wr)) (fun i _=>vs.length - (intOf i).toNat)
 case atStart=>exact⟨0,aiH _,rfl,X2⟩
 case round=>
  obtain⟨j,hj,rfl,HX⟩:=hrel;obtain⟨-,-,-,a3,-,-⟩:=QE.o _ HX.o;obtain⟨-,-,-,b3,-,-⟩:=Ch.o _ HX.o
  by_cases hlt:j<vs.length
  ·have EX:=X0.o.trans HX.o;obtain⟨b,o,hA,hb,hc⟩:=Ints.at_ (ak.ext qb AZ.o.vars EX) hlt;obtain⟨b',o',hB,hb',hc'⟩:=Ints.at_ (ak.ext qb HDb.o.vars EX) hlt;have aN:(j:Int)<(vs.length:Int):=by omega
   have qx:(0:Int)≤(j:Int):=by omega
   simp only[Tm.vars,Tm.V] at hA hB hc hc';generalize vs[j]'hlt=y at *;rw[hA] at a3;rw[hB] at b3;clear hA hB EX;go_wp2
   go_quiet (fail)
   go_wp2;go_roundw
   case rel=>exact⟨j+1,hlt,by go_num,aa (HX.o.trans (by repeat(first|exact eR _|exact eA (by assumption) _|refine eA ?_ _|refine eM ?_ _ _|refine eD ?_|refine eN ?_ _)))⟩
   case measure=>simp[intOf];omega
  ·have bS:¬(j:Int)<(vs.length:Int):=by omega
   rename World=>wA
   go_wp2
   go_loopw [6] (fun i wr=>∃j:Nat,j≤l.length∧i=.int .i64 j∧aiE (Ext W wr)) (fun i _=>l.length - (intOf i).toNat)
   case atStart=>exact⟨0,aiH _,rfl,HX⟩
   case round=>
    obtain⟨i,hi,rfl,HX⟩:=hrel;obtain⟨-,-,-,-,-,a5⟩:=QE.o _ HX.o;obtain⟨-,-,-,-,-,b5⟩:=Ch.o _ HX.o
    by_cases hlt:i<l.length
    ·have gJ:i<l'.length:=by rw[←Eg.o];exact hlt
     have aN:(i:Int)<(l.length:Int):=by omega
     have KP:(0:Int)≤(i:Int):=by omega
     obtain⟨p,o,hA,hp,q0,q1,q2,q3,q4,q5⟩:=(NL.o.ext (X0.o.trans HX.o)).at_ hlt;obtain⟨p',o',hB,F0,r0,r1,r2,r3,r4,r5⟩:=(NM.o.ext (X0.o.trans HX.o)).at_ gJ;have HC:=aa (fun w' (e:Ext w w')=>aa (IH.o (l[i]'hlt) (aiF hlt) (l'[i]'gJ) w' ((NL.o.kids _ (aiF hlt)).ext e) ((NM.o.kids _ (aiF gJ)).ext e) (HPk.o i hlt gJ)));simp only[Tm.kids,Tm.A] at hA hB q0 q1 q2 q3 q4 q5 r0 r1 r2 r3 r4 r5;generalize l[i]'hlt=x at *;generalize l'[i]'gJ=y at *;rw[hA] at a5;rw[hB] at b5;clear hA hB;have Fv:=aa (fun w' (e:Ext wr w')=>aiI (e.cell a5) (aiI (e.cell b5) (aiI (e.cell q0) (aiI (e.cell q1) (aiI (e.cell q2) (aiI (e.cell q3) (aiI (e.cell q4) (aiI (e.cell q5) (aiI (e.cell r0) (aiI (e.cell r1) (aiI (e.cell r2) (aiI (e.cell r3) (aiI (e.cell r4) (e.cell r5))))))))))))));unfold bz at HC;go_wp2
     go_region_held3 (fun w'=>w'.cell? ⟨w.heap.size,5,none⟩=some (.slice (some ⟨p,o,none⟩) l.length cap)∧w'.cell? ⟨w.heap.size+1,5,none⟩=some (.slice (some ⟨p',o',none⟩) l.length cap')∧w'.cell? ⟨p,o+i*6,none⟩=some (.int .i64 x.kind)∧w'.cell? ⟨p,o+i*6+1,none⟩=some (.int .i64 x.n)∧w'.cell? ⟨p,o+i*6+2,none⟩=some (.string ⟨x.name.toArray⟩)∧w'.cell? ⟨p,o+i*6+3,none⟩=some (.slice x.V x.vars.length x.vc)∧w'.cell? ⟨p,o+i*6+4,none⟩=some (.slice x.T x.types.length x.tc)∧w'.cell? ⟨p,o+i*6+5,none⟩=some (.slice x.A x.kids.length x.cap)
      ∧ w'.cell? ⟨p',o'+i*6,none⟩=some (.int .i64 y.kind)∧w'.cell? ⟨p',o'+i*6+1,none⟩=some (.int .i64 y.n)∧w'.cell? ⟨p',o'+i*6+2,none⟩=some (.string ⟨y.name.toArray⟩)∧w'.cell? ⟨p',o'+i*6+3,none⟩=some (.slice y.V y.vars.length y.vc)∧w'.cell? ⟨p',o'+i*6+4,none⟩=some (.slice y.T y.types.length y.tc)∧w'.cell? ⟨p',o'+i*6+5,none⟩=some (.slice y.A y.kids.length y.cap)) (first|assumption|exact Fv.o _ ((eR _).drew)|go_keep) (first
      |(
       go_at_call 10
       refine Calls.mono (HC.o _ ((X0.o.trans HX.o).trans ((eR _).drew))).o ?_;rintro e w5 ⟨rfl,jA⟩;have X5:=aa (HX.o.trans (((eR wr).drew).trans jA));have k5:=Fv.o _ (((eR wr).drew).trans jA);clear jA))
     clear k5;go_wp2;go_roundw
     case rel=>exact⟨i+1,hlt,by go_num,X5⟩
     case measure=>simp[intOf];omega
    ·have bS:¬(i:Int)<(l.length:Int):=by omega
     go_wp2;go_ret;exact⟨rfl,X0.o.trans HX.o⟩
def CJ (A:Option Addr) (cap:Nat) (l:List Tm):Tm:=.mk 0 0 [] none 0 [] none 0 [] A cap l
theorem y6 {w:World}{A:Option Addr}{cap:Nat}{l:List Tm}(h:bm w A l) (h1:l.length≤cap) (h2:cap≤9223372036854775807):aQ w (CJ A cap l):=
 .mk ⟨aiH _,by show 0≤9223372036854775807;omega,aiH _,by show 0≤9223372036854775807;omega,h1,h2,by show 0≤9223372036854775807;omega,ak.nil _ _ _,bH.nil _ _,h.row⟩ h.kids
theorem Ky (A B:Option Addr) (ca cb:Nat) (l m:List Tm) (w:World) (ha:bm w A l) (hb:bm w B m) (h1:l.length≤ca) (h2:ca≤9223372036854775807) (h3:m.length≤cb) (h4:cb≤9223372036854775807) (hp:l.map Tm.pure=m.map Tm.pure) :
  Calls Tryz.prog 18 #[.slice A l.length ca,.slice B m.length cb] w fun e w'=>e=.returned (.bool true)∧Ext w w':=by
 have HS:=aa (Kw (CJ A ca l) (CJ B cb m) w (y6 ha h1 h2) (y6 hb h3 h4) (by rw[Tm.aG,Tm.aG];show Tm.Pure.mk 0 0 [] [] [] (l.map Tm.pure)=.mk 0 0 [] [] [] (m.map Tm.pure);rw[hp]));unfold bz CJ at HS;simp only[Tm.kind,Tm.n,Tm.name,Tm.V,Tm.vc,Tm.vars,Tm.T,Tm.tc,Tm.types,Tm.A,Tm.cap,Tm.kids,encStr,List.length_nil] at HS;clear ha hb hp;go_enter Tryz.func18,Tryz.ntmps18;go_wp2_with fail;refine HS.o.mono ?_;rintro e w2 ⟨rfl,hx⟩;go_wp2;go_ret;exact⟨rfl,hx⟩
theorem Fp {w:World}{cs:List dY}{ins:List cL}{preds:List Pd}{given:List Tm}{l:List Pd}{v:Value}(h:nW w cs ins preds given l v):∃(A:Option Addr) (n c:Nat) (k m:Int),v=.tuple #[.slice A n c,.int .i64 k,.int .i64 m]:=by
 rcases h with ⟨A,c,ts,rfl,-⟩|⟨k,n,rfl,-⟩
 ·exact⟨A,_,c,0,0,rfl⟩
 ·exact⟨none,0,0,(k:Nat),n,rfl⟩
theorem NJ (x:di) (P:Option Addr) (pc:Nat) (preds:List Pd) (L:Option Addr) (lc:Nat) (given:List Tm) (Q:Option Addr) (qc:Nat) (l:List Pd) (a0 a1:Addr) (w:World) (he:dJ w x) (Kb:∀c∈x.af,c.bf.length≤2000000000000) (hP:bg w P preds) (hL:bm w L given) (hl:bg w Q l) (jb:sw w) (nZ:jL w a0 a1) :
  Calls Tryz.prog 4 #[.agg #[.slice x.D x.aA.length x.dc,.slice x.C x.af.length x.cc,.slice x.I x.insts.length x.ic,.slice P preds.length pc,.slice L given.length lc],.slice Q l.length qc] w fun e w'=>e=.returned (.bool true)∧Ext w w':=by
 obtain⟨W,hW⟩:∃W,W=w.alloc (.cells #[.slice x.D x.aA.length x.dc,.slice x.C x.af.length x.cc,.slice x.I x.insts.length x.ic,.slice P preds.length pc,.slice L given.length lc] 30):=⟨_,rfl⟩;have HW:=aa hW.symm;have X0:aiE (Ext w W):=aa (by rw[hW];exact(eR _).alloc _);have B1:aiE (W.heap[w.heap.size]?=some (.cells #[.slice x.D x.aA.length x.dc,.slice x.C x.af.length x.cc,.slice x.I x.insts.length x.ic,.slice P preds.length pc,.slice L given.length lc] 30 (0,0))):=aa (by rw[hW];exact ah _ _ _ rfl);have EW:=aa (fun w' (e:Ext W w')=>aa (Fo a0 a1 w' (sw.ext jb (X0.o.trans e)) (nZ.ext (X0.o.trans e))));have wy:=aa (fun w' (e:Ext W w')=>aa (Nx x P pc preds L lc given w' (he.ext (X0.o.trans e)) Kb (hP.ext (X0.o.trans e)) (hL.ext (X0.o.trans e))));have Qd:=aa (fun w' (e:Ext W w')=>aa (wT Q qc l w' (hl.ext (X0.o.trans e))));have HQ:=aa (fun w' (e:Ext W w')=>hl.ext (X0.o.trans e));have HA1:=aa (fun w' (e:Ext W w') (hf:ma x preds given) (Nk:l.length≤1000000) (VX:∀q∈l,q.ty.size≤90000)=>aa (OQ x P pc preds L lc given Q qc l hf.few a0 a1 w' (he.ext (X0.o.trans e)) (hP.ext (X0.o.trans e)) (hL.ext (X0.o.trans e)) (hl.ext (X0.o.trans e)) Nk (sw.ext jb (X0.o.trans e)) (nZ.ext (X0.o.trans e)) (fun q hq p hp hz=>vk hf.terms hz)));have MU:=aa (fun w' (e:Ext W w') (hf:ma x preds given) (Nk:l.length≤1000000) (VX:∀q∈l,q.ty.size≤90000)=>aa (Nq x P pc preds L lc given Q qc l hf.few hf.small VX w' (he.ext (X0.o.trans e)) (hP.ext (X0.o.trans e)) (hL.ext (X0.o.trans e)) (hl.ext (X0.o.trans e)) Nk hf.terms));clear hW he Kb hP hL hl jb nZ;unfold eu at *;go_enter Tryz.func4,Tryz.ntmps4;go_upto_region 1 with fail;rw[HW.o];clear HW;have g0:=ag B1.o 0;have g1:=ag B1.o 1;have g2:=ag B1.o 2;have g3:=ag B1.o 3;have g4:=ag B1.o 4;simp only[aiN,aiO,aiP] at g0 g1 g2 g3 g4;have gl:=ae B1.o
 go_cut [5,6,7] (fun s5 s6 s7 wx=>∃b5:Nat,s5=.pointer (some ⟨b5,0,none⟩)∧s6=.slice P preds.length pc∧s7=.slice L given.length lc∧aiE (aI wx b5 x)∧aiE (Ext W wx))
 case first=>
  go_region
  all_goals (go_wp2_with fail;go_meet;exact⟨_,rfl,rfl,rfl,aa ((aI.new W x).ext (eR _).drew),aa (((eR _).alloc _).drew)⟩)
 case rest=>
  obtain⟨b5,rfl,rfl,rfl,HE,XC⟩:=hcut;clear g0 g1 g2 g3 g4 gl;obtain⟨e0,e1,e2⟩:=HE.o.cells;have n1:=HE.o.lt;go_wp2_with fail;refine(wy.o _ XC.o).o.mono ?_;rintro e w2 ⟨⟨v,rfl,hv⟩,hx⟩;have X2:=aa (XC.o.trans hx);have zg:=aa (HE.o.ext hx);clear hx e0 e1 e2 n1 wy HE XC
  rcases hv with rfl|⟨rfl,hf⟩
  ·go_wp2_with fail;refine(EW.o _ X2.o).o.mono ?_;rintro e z ⟨rfl,hz⟩;go_wp2;go_ret;exact⟨rfl,X0.o.trans ((X2.o).trans hz)⟩
  have HF:=aa hf;clear hf
  by_cases h8:(l.length:Int)>8
  ·go_wp2_with fail;refine(EW.o _ X2.o).o.mono ?_;rintro e z ⟨rfl,hz⟩;go_wp2;go_ret;exact⟨rfl,X0.o.trans ((X2.o).trans hz)⟩
  go_wp2_with fail;refine(Qd.o _ X2.o).o.mono ?_;rintro e w3 ⟨⟨r,rfl,hr⟩,hx⟩;have X3:=aa (X2.o.trans hx);have HE3:=aa (zg.o.ext hx);clear hx zg X2 Qd
  rcases hr with rfl|⟨rfl,-,sx⟩
  ·go_wp2_with fail;refine(EW.o _ X3.o).o.mono ?_;rintro e z ⟨rfl,hz⟩;go_wp2;go_ret;exact⟨rfl,X0.o.trans ((X3.o).trans hz)⟩
  have SE:aiE (∀q∈l,q.ty.size≤90000):=aa (fun q hq=>by have:=BO hq;omega);have BM:aiE (l.length≤1000000):=aa (by omega);clear sx;go_wp2;clear h8
  go_loopw [8] (fun i wr=>∃k:Nat,k≤l.length∧i=.int .i64 k∧aiE (Ext w3 wr)) (fun i _=>l.length - (intOf i).toNat)
  case atStart=>exact⟨0,aiH _,rfl,aa (eR _)⟩
  case round=>
   obtain⟨k,hk,rfl,HX⟩:=hrel;have XR:=aa (X3.o.trans HX.o)
   by_cases hlt:k<l.length
   ·have aN:(k:Int)<(l.length:Int):=by omega
    have cV:(0:Int)≤(k:Int):=by omega
    have HQr:=aa (HQ.o wr XR.o);obtain⟨b,o,rfl,hb,q0,q1,q2,q3⟩:=HQr.o.at_ hlt;have hm:=aiF hlt;have HD:=aa (oh (l[k]'hlt).ty wr (HQr.o.all _ hm).ty (by have:=SE.o _ hm;omega));clear hm HQr HA1 MU;generalize l[k]'hlt=q at *;unfold bl at HD;generalize q.ty.depth=d at *;go_wp2_with fail;refine HD.o.mono ?_;rintro e w4 ⟨rfl,eJ⟩;have X4:=aa (HX.o.trans eJ);clear eJ q0 q1 q2 q3 hb HD
    by_cases hd:(d:Int)>8
    ·go_wp2_with fail;refine(EW.o _ (X3.o.trans X4.o)).o.mono ?_;rintro e z ⟨rfl,hz⟩;go_wp2;go_ret;exact⟨rfl,X0.o.trans ((X3.o.trans X4.o).trans hz)⟩
    ·go_wp2;go_roundw
     case rel=>exact⟨k+1,hlt,by go_num,X4⟩
     case measure=>simp[intOf];omega
   ·have bS:¬(k:Int)<(l.length:Int):=by omega
    have Ya:=aa (HE3.o.ext HX.o);obtain⟨e0,e1,e2⟩:=Ya.o.cells;have n1:=Ya.o.lt;go_wp2_with fail;refine(HA1.o wr XR.o HF.o BM.o SE.o).o.mono ?_;rintro e w5 ⟨⟨v,rfl,hv⟩,jA⟩;have HV:=aa hv;have X5:=aa (XR.o.trans jA);have HE5:=aa (Ya.o.ext jA);obtain⟨r0,r1,r2,r3,r4,rfl⟩:=Fp hv;clear hv jA e0 e1 e2 n1 HA1 Ya;obtain⟨e0,e1,e2⟩:=HE5.o.cells;have n1:=HE5.o.lt;go_wp2_with fail;refine(MU.o w5 X5.o HF.o BM.o SE.o).o.mono ?_;rintro e w6 ⟨⟨v,rfl,hv2⟩,uz⟩;have X6:=aa (X5.o.trans uz);obtain⟨A,c,ts,A',c',py,kk,n,g1,g2,m1,m2,m3,m4,i1,i2,i3⟩:=(JZ HV.o hv2).eq;simp only[Value.tuple.injEq,Array.mk.injEq,List.cons.injEq,Value.slice.injEq,Value.int.injEq,and_true,true_and] at g1;obtain⟨⟨rfl,rfl,rfl⟩,rfl,rfl⟩:=g1;subst g2;have HR:=aa (fun w' (e:Ext w6 w')=>aa (Ky r0 A' r2 c' ts py w' (i1.ext (uz.trans e)) (i2.ext e) m1 m2 m3 m4 i3));clear hv2 uz e0 e1 e2 n1 HV MU HE5 i1 i2 i3 m1 m2 m3 m4;go_wp2_with fail;refine(HR.o _ (eR _)).o.mono ?_;rintro e w7 ⟨rfl,uG⟩;have X7:=aa (X6.o.trans uG);clear uG HR;go_wp2_with fail;refine(EW.o _ X7.o).o.mono ?_;rintro e z ⟨rfl,hz⟩;go_wp2;go_ret;exact⟨rfl,X0.o.trans (X7.o.trans hz)⟩
set_option maxRecDepth 512
set_option maxHeartbeats 200000
end Go.Proofs.YtigafbmabjglfaaGreatDoor
