import Derived.Test.YtigafbmabjglfaaGreatDoorJT32
import Derived.SizedLaws
namespace Go.Proofs.YtigafbmabjglfaaGreatDoor
open Go.RowKit Go.ChangeShapes Go.WideShapes Go.Deep
def cD {H:Type}(P:Program) (t:TypeId) (d:DataW H):Prop:=∀n∈d.weights P t,n≤reachBytes
theorem cD.AG {H:Type}{P:Program}{ts:List TypeId}{ds:List (DataW H)}(h:(DataW.weightsEach P ts ds).all (· ≤ reachBytes)=true){j:Nat}{t:TypeId}{d:DataW H}(ht:ts[j]?=some t) (hd:ds[j]?=some d):cD P t d:=fun n hn=>by
 have:=List.all_eq_true.1 h _ (DataW.weights_mem_each ht hd n hn);simpa using this
theorem gQ {H:Type}{P:Program}{e:TypeId}{d:DataW H}{n:Nat}:∀ {l:List (DataW H)},d∈l→n∈d.weights P e→n∈DataW.weightsAll P e l
 | [],h,_=>by cases h
 |x :: l,h,hn=>by
  unfold DataW.weightsAll;rw[List.mem_append]
  rcases List.mem_cons.1 h with rfl|h
  ·exact .inl hn
  ·exact .inr (gQ h hn)
section
variable {H : Type}{enc:TypeId×Value→H}{P:Program}{w:World}{base:Nat}{spare:Nat→Bool}{held:Bool}
theorem nY {t:TypeId}{fs:Array Field}{fuel:Nat}{cs:List Value}{x:DataW H×List MemPlace}(hs:P.underlying t=some (.struct fs)) (PC:oneCellFields P fs=true) (hC:P.cellsOf t=fs.size)
  (h:DataW.trod enc P w base spare held fuel t cs=some x) :
  cs.length=fs.size∧∃n,fuel=n+1∧∀(j:Nat) (f:Field),fs[j]?=some f→∃v y,cs[j]?=some v∧DataW.trod enc P w base spare held n f.type [v]=some y∧(cD P t x.1→cD P f.type y.1):=by
 obtain⟨ys,n,hn,hx,hlen,PD,hf⟩:=DataW.trod_struct hs h;refine⟨by rw[hlen,hC],n,hn,fun j f hj => ?_⟩;obtain⟨ho,hk⟩:=hone_of PC j f hj;have xF:j<fs.size:=(Array.getElem?_eq_some_iff.1 hj).1;have hv:cs[j]?=some (cs[j]'(by omega)):=ahw (by omega);have h1:=hf j f hj;rw[ho,hk] at h1;have e1:(cs.drop j).take 1=[cs[j]'(by omega)]:=by rw[List.drop_eq_getElem_cons (by omega)];rfl
 rw[e1] at h1;refine⟨_,_,hv,h1.trans (ahw (by omega)),fun hz n hn=>hz n ?_⟩;rw[hx];unfold DataW.weights;rw[hs];exact DataW.weights_mem_each (j:=j) (t:=f.type) (by rw[List.getElem?_map,Array.getElem?_toList,hj];rfl) (by rw[List.getElem?_map,ahw (by omega)];rfl) n hn
theorem bu {α:Type}(C:fq α) (Q:α→Prop){t e:TypeId}(ht:P.underlying t=some (.slice e)) (hC:P.cellsOf e=C.k){fuel:Nat}{v:Value}{x:DataW H×List MemPlace}
  (he:∀n,n<fuel→∀cs x,DataW.trod enc P w base spare held n e cs=some x→cD P e x.1→∃a,cs=C.f a∧Q a)
  (h:DataW.trod enc P w base spare held fuel t [v]=some x) (hz:cD P t x.1) :
  ∃(A:Option Addr) (c:Nat) (xs:List α),v=.slice A xs.length c∧xs.length≤c∧c≤9223372036854775807∧ak C w A xs∧(∀x∈xs,Q x)∧xs.length*P.bytesOf e≤reachBytes:=by
 rcases DataW.trod_slice ht h with ⟨hcs,_⟩|⟨a,len,cap,elems,rest,n,hn,hcs,hx,hb,hl,hm,hlen,Zt,-,-⟩
 ·simp at hcs;subst hcs;exact⟨none,0,[],rfl,ahi _,by omega,ak.nil C _ _,by simp,by simp⟩
 ·simp at hcs;subst hcs;have hw:(x.1).weights P t=((elems.map (·.1)).length+(rest.map (·.1)).length)*P.bytesOf e :: (DataW.weightsAll P e (elems.map (·.1))++DataW.weightsAll P e (rest.map (·.1))):=by
   rw[hx];show DataW.weights P t (.slice _ _)=_;unfold DataW.weights;rw[ht]
  obtain⟨xs,OZ,hx2,hq⟩:=IM (α:=α) (P:=fun i x=>w.cells? base (a.add (i*C.k)) C.k=some (C.f x)) (Q:=Q) len (fun i hi'=>by
   have h1:=Zt i hi';rw[ahw (by omega)] at h1;obtain⟨cs',h2,h3⟩:=Option.bind_eq_some_iff.1 h1;obtain⟨y,rfl,hy⟩:=he n (by omega) _ _ h3 (fun m hm=>hz m (by
    rw[hw];refine List.mem_cons_of_mem _ (List.mem_append.2 (.inl (gQ (List.mem_map.2 ⟨_,ahh (by omega),rfl⟩) hm)))))
   rw[hC] at h2;exact⟨y,h2,hy⟩)
  subst OZ;refine⟨some a,cap,xs,rfl,hl,by unfold maxLen at hm;omega,Row.xy C.pos C.f C.hf xs hx2,hq,?_⟩;have:=hz _ (by rw[hw];exact List.mem_cons_self);rw[List.length_map,List.length_map,hlen] at this;exact aho (Nat.mul_le_mul_right _ (Nat.le_add_right _ _)) this
theorem cm {t:TypeId}(ht:P.underlying t=some .string) (n:Nat) (cs:List Value) (x:DataW H×List MemPlace) (h:DataW.trod enc P w base spare held n t cs=some x) (hz:cD P t x.1) :
  ∃a:aj,cs=kW.f a∧a.length≤140737488351232:=by
 obtain⟨s,e,hx,hs⟩:=DataW.trod_string ht h;refine⟨s.data.toList,by rw[e];simp[kW,encStr],?_⟩;have:=hz s.data.toList.length (by rw[hx];show _∈DataW.weights P t (.lit (.string _));unfold DataW.weights;exact List.mem_cons_self);exact this
end
theorem Uk {a:Int}(h:(Lit.int .i64 a).wf=true) : -9223372036854775808≤a:=by
 have h1:decide (IntKind.i64.min≤a)&&decide (a≤IntKind.i64.max):=h;rw[ahv] at h1;exact of_decide_eq_true h1.1
theorem Ul {a:Int}(h:(Lit.int .i64 a).wf=true):a≤9223372036854775807:=by
 have h1:decide (IntKind.i64.min≤a)&&decide (a≤IntKind.i64.max):=h;rw[ahv] at h1;exact of_decide_eq_true h1.2
section
variable {H : Type}{enc:TypeId×Value→H}{w:World}{base:Nat}{spare:Nat→Bool}{held:Bool}
theorem jA : ∀(fuel:Nat) (cs:List Value) (x:DataW H×List MemPlace),DataW.trod enc Tryz.prog w base spare held fuel 53 cs=some x→cD Tryz.prog 53 x.1→∃t:Ty,cs=cA.f t∧aC w t∧ng t=true:=by
 intro fuel
 induction fuel using Nat.strongRecOn with
 |ind fuel IH=>
 intro cs x h hz;obtain⟨hl,n,hn,hf⟩:=nY Tryz.underlying53 (by kernel_rfl) (by kernel_rfl) h;obtain⟨v0,y0,e0,r0,z0⟩:=hf 0 _ rfl;obtain⟨v1,y1,e1,r1,z1⟩:=hf 1 _ rfl;obtain⟨v2,y2,e2,r2,z2⟩:=hf 2 _ rfl;obtain⟨s,q0,hs⟩:=cm Tryz.underlying9 _ _ _ r0 (z0 hz);obtain⟨a,q1,hi⟩:=dr Tryz.underlying3 _ _ _ r1;obtain⟨A,cp,ks,q2,k1,k2,k3,k4,_⟩:=bu cA (fun t=>aC w t∧ng t=true) Tryz.underlying31 (by kernel_rfl) (fun m hm cs x hh=>IH m (by omega) cs x hh) r2 (z2 hz);simp only[List.cons.injEq,and_true,kW] at q0 q1;subst q0 q1 q2;refine⟨.mk s a A cp ks,?_,aC.mk k1 k2 (aho hs (by decide)) k3 (fun k hk=>(k4 k hk).1),FV (Uk hi) (Ul hi) hs (fun k hk=>(k4 k hk).2)⟩
 match cs,hl with
 | [a0,a1,a2],_=>
  simp only[ahq,ahr,Option.some.injEq] at e0 e1 e2;subst e0 e1 e2;rfl
end
section
variable {H : Type}{enc:TypeId×Value→H}{P:Program}{w:World}{base:Nat}{spare:Nat→Bool}{held:Bool}
theorem cE {t:TypeId}{fs:Array Field}{fuel:Nat}{cs:List Value}{x:DataW H×List MemPlace}(hs:P.underlying t=some (.struct fs)) (h:DataW.trod enc P w base spare held fuel t cs=some x) :
  cs.length=P.cellsOf t∧∃n,fuel=n+1∧∀(j:Nat) (f:Field),fs[j]?=some f→∃y,DataW.trod enc P w base spare held n f.type ((cs.drop f.offset).take (P.cellsOf f.type))=some y∧(cD P t x.1→cD P f.type y.1):=by
 obtain⟨ys,n,hn,hx,hlen,PD,hf⟩:=DataW.trod_struct hs h;refine⟨hlen,n,hn,fun j f hj => ?_⟩;have xF:j<fs.size:=(Array.getElem?_eq_some_iff.1 hj).1;refine⟨_,(hf j f hj).trans (ahw (by omega)),fun hz n hn=>hz n ?_⟩;rw[hx];unfold DataW.weights;rw[hs];exact DataW.weights_mem_each (j:=j) (t:=f.type) (by rw[List.getElem?_map,Array.getElem?_toList,hj];rfl) (by rw[List.getElem?_map,ahw (by omega)];rfl) n hn
end
section
variable {H : Type}{enc:TypeId×Value→H}{w:World}{base:Nat}{spare:Nat→Bool}{held:Bool}
set_option maxRecDepth 100000 in
theorem qP (fuel:Nat) (cs:List Value) (x:DataW H×List MemPlace) (h:DataW.trod enc Tryz.prog w base spare held fuel 55 cs=some x) (hz:cD Tryz.prog 55 x.1) :
  ∃p:Pd,cs=kC.f p∧eV w p∧ng p.ty=true:=by
 obtain⟨hl,n,hn,hf⟩:=cE Tryz.underlying55 h;have hl4:cs.length=4:=hl.trans (by kernel_rfl);obtain⟨y0,r0,z0⟩:=hf 0 _ rfl;obtain⟨y1,r1,z1⟩:=hf 1 _ rfl
 match cs,hl4 with
 | [a0,a1,a2,a3],_=>
  have e0:((([a0,a1,a2,a3]:List Value).drop 0).take (Tryz.prog.cellsOf 9))=[a0]:=by rw[show Tryz.prog.cellsOf 9=1 from by kernel_rfl];rfl
  have e1:((([a0,a1,a2,a3]:List Value).drop 1).take (Tryz.prog.cellsOf 53))=[a1,a2,a3]:=by rw[show Tryz.prog.cellsOf 53=3 from by kernel_rfl];rfl
  have zD:DataW.trod enc Tryz.prog w base spare held n 9 [a0]=some y0:=by rw[←e0];exact r0
  have zE:DataW.trod enc Tryz.prog w base spare held n 53 [a1,a2,a3]=some y1:=by rw[←e1];exact r1
  obtain⟨s,q0,hs⟩:=cm Tryz.underlying9 _ _ _ zD (z0 hz);obtain⟨t,q1,ht,ok⟩:=jA _ _ _ zE (z1 hz);have q1':[a1,a2,a3]=[encStr t.aq,.int .i64 t.var,.slice t.A t.args.length t.cap]:=q1;simp only[List.cons.injEq,and_true,kW] at q0 q1';obtain⟨rfl,rfl,rfl⟩:=q1';subst q0;exact⟨⟨s,t⟩,rfl,⟨aho hs (by decide),ht⟩,ok⟩
end
section
variable {H : Type}{enc:TypeId×Value→H}{w:World}{base:Nat}{spare:Nat→Bool}{held:Bool}
set_option maxRecDepth 100000 in
theorem Dn (fuel:Nat) (cs:List Value) (x:DataW H×List MemPlace) (h:DataW.trod enc Tryz.prog w base spare held fuel 101 cs=some x) (hz:cD Tryz.prog 101 x.1) :
  ∃p:vv,cs=Nr.f p∧Bf w p:=by
 obtain⟨hl,n,hn,hf⟩:=cE Tryz.underlying101 h;have Dp:cs.length=2:=hl.trans (by kernel_rfl);obtain⟨y0,r0,z0⟩:=hf 0 _ rfl;obtain⟨y1,r1,z1⟩:=hf 1 _ rfl
 match cs,Dp with
 | [a0,a1],_=>
  have e0:((([a0,a1]:List Value).drop 0).take (Tryz.prog.cellsOf 9))=[a0]:=by rw[show Tryz.prog.cellsOf 9=1 from by kernel_rfl];rfl
  have zD:DataW.trod enc Tryz.prog w base spare held n 9 [a0]=some y0:=by rw[←e0];exact r0
  have e1:((([a0,a1]:List Value).drop 1).take (Tryz.prog.cellsOf 31))=[a1]:=by rw[show Tryz.prog.cellsOf 31=1 from by kernel_rfl];rfl
  have zE:DataW.trod enc Tryz.prog w base spare held n 31 [a1]=some y1:=by rw[←e1];exact r1
  obtain⟨s0,q0,hs0⟩:=cm Tryz.underlying9 _ _ _ zD (z0 hz);simp only[List.cons.injEq,and_true,kW] at q0;subst q0;obtain⟨A1,PE,l1,q1,Qz,M5,PG,Na,ke1⟩:=bu cA (fun t=>aC w t∧ng t=true) Tryz.underlying31 (by kernel_rfl) (fun m hm cs x hh hz=>jA m cs x hh hz) zE (z1 hz);subst q1;exact⟨⟨s0,A1,PE,l1⟩,rfl,⟨aho hs0 (by decide),Qz,M5,⟨PG,fun p hp=>(Na p hp).1⟩⟩⟩
set_option maxRecDepth 100000 in
theorem zF (fuel:Nat) (cs:List Value) (x:DataW H×List MemPlace) (h:DataW.trod enc Tryz.prog w base spare held fuel 99 cs=some x) (hz:cD Tryz.prog 99 x.1) :
  ∃p:og,cs=Mm.f p∧Bg w p:=by
 obtain⟨hl,n,hn,hf⟩:=cE Tryz.underlying99 h;have Dp:cs.length=3:=hl.trans (by kernel_rfl);obtain⟨y0,r0,z0⟩:=hf 0 _ rfl;obtain⟨y1,r1,z1⟩:=hf 1 _ rfl;obtain⟨y2,r2,z2⟩:=hf 2 _ rfl
 match cs,Dp with
 | [a0,a1,a2],_=>
  have e0:((([a0,a1,a2]:List Value).drop 0).take (Tryz.prog.cellsOf 9))=[a0]:=by rw[show Tryz.prog.cellsOf 9=1 from by kernel_rfl];rfl
  have zD:DataW.trod enc Tryz.prog w base spare held n 9 [a0]=some y0:=by rw[←e0];exact r0
  have e1:((([a0,a1,a2]:List Value).drop 1).take (Tryz.prog.cellsOf 3))=[a1]:=by rw[show Tryz.prog.cellsOf 3=1 from by kernel_rfl];rfl
  have zE:DataW.trod enc Tryz.prog w base spare held n 3 [a1]=some y1:=by rw[←e1];exact r1
  have e2:((([a0,a1,a2]:List Value).drop 2).take (Tryz.prog.cellsOf 97))=[a2]:=by rw[show Tryz.prog.cellsOf 97=1 from by kernel_rfl];rfl
  have IQ:DataW.trod enc Tryz.prog w base spare held n 97 [a2]=some y2:=by rw[←e2];exact r2
  obtain⟨s0,q0,hs0⟩:=cm Tryz.underlying9 _ _ _ zD (z0 hz);simp only[List.cons.injEq,and_true,kW] at q0;subst q0;obtain⟨m1,q1,Ej⟩:=dr Tryz.underlying3 _ _ _ zE;simp only[List.cons.injEq,and_true] at q1;subst q1;obtain⟨A2,PH,l2,q2,QA,M6,PI,PJ,Um⟩:=bu Nr (Bf w) Tryz.underlying97 (by kernel_rfl) (fun m hm cs x hh hz=>Dn m cs x hh hz) IQ (z2 hz);subst q2;exact⟨⟨s0,m1,A2,PH,l2⟩,rfl,⟨aho hs0 (by decide),QA,M6,⟨PI,PJ⟩⟩⟩
set_option maxRecDepth 100000 in
theorem zG (fuel:Nat) (cs:List Value) (x:DataW H×List MemPlace) (h:DataW.trod enc Tryz.prog w base spare held fuel 103 cs=some x) (hz:cD Tryz.prog 103 x.1) :
  ∃p:tU,cs=meC.f p∧Bh w p:=by
 obtain⟨hl,n,hn,hf⟩:=cE Tryz.underlying103 h;have Dp:cs.length=5:=hl.trans (by kernel_rfl);obtain⟨y0,r0,z0⟩:=hf 0 _ rfl;obtain⟨y1,r1,z1⟩:=hf 1 _ rfl;obtain⟨y2,r2,z2⟩:=hf 2 _ rfl
 match cs,Dp with
 | [a0,a1,a2,a3,a4],_=>
  have e0:((([a0,a1,a2,a3,a4]:List Value).drop 0).take (Tryz.prog.cellsOf 9))=[a0]:=by rw[show Tryz.prog.cellsOf 9=1 from by kernel_rfl];rfl
  have zD:DataW.trod enc Tryz.prog w base spare held n 9 [a0]=some y0:=by rw[←e0];exact r0
  have e1:((([a0,a1,a2,a3,a4]:List Value).drop 1).take (Tryz.prog.cellsOf 3))=[a1]:=by rw[show Tryz.prog.cellsOf 3=1 from by kernel_rfl];rfl
  have zE:DataW.trod enc Tryz.prog w base spare held n 3 [a1]=some y1:=by rw[←e1];exact r1
  have e2:((([a0,a1,a2,a3,a4]:List Value).drop 2).take (Tryz.prog.cellsOf 53))=[a2,a3,a4]:=by rw[show Tryz.prog.cellsOf 53=3 from by kernel_rfl];rfl
  have IQ:DataW.trod enc Tryz.prog w base spare held n 53 [a2,a3,a4]=some y2:=by rw[←e2];exact r2
  obtain⟨s0,q0,hs0⟩:=cm Tryz.underlying9 _ _ _ zD (z0 hz);simp only[List.cons.injEq,and_true,kW] at q0;subst q0;obtain⟨m1,q1,Ej⟩:=dr Tryz.underlying3 _ _ _ zE;simp only[List.cons.injEq,and_true] at q1;subst q1;obtain⟨t2,q2,Bb,ok2⟩:=jA _ _ _ IQ (z2 hz);have Zc:[a2,a3,a4]=[encStr t2.aq,.int .i64 t2.var,.slice t2.A t2.args.length t2.cap]:=q2;simp only[List.cons.injEq,and_true] at Zc;obtain⟨rfl,rfl,rfl⟩:=Zc;exact⟨⟨s0,m1,t2⟩,rfl,⟨aho hs0 (by decide),Bb⟩⟩
set_option maxRecDepth 100000 in
theorem xz (fuel:Nat) (cs:List Value) (x:DataW H×List MemPlace) (h:DataW.trod enc Tryz.prog w base spare held fuel 68 cs=some x) (hz:cD Tryz.prog 68 x.1) :
  ∃p:dK,cs=Ek.f p∧Bj w p∧p.aX.length≤2000000000000:=by
 obtain⟨hl,n,hn,hf⟩:=cE Tryz.underlying68 h;have Dp:cs.length=3:=hl.trans (by kernel_rfl);obtain⟨y0,r0,z0⟩:=hf 0 _ rfl;obtain⟨y1,r1,z1⟩:=hf 1 _ rfl;obtain⟨y2,r2,z2⟩:=hf 2 _ rfl
 match cs,Dp with
 | [a0,a1,a2],_=>
  have e0:((([a0,a1,a2]:List Value).drop 0).take (Tryz.prog.cellsOf 9))=[a0]:=by rw[show Tryz.prog.cellsOf 9=1 from by kernel_rfl];rfl
  have zD:DataW.trod enc Tryz.prog w base spare held n 9 [a0]=some y0:=by rw[←e0];exact r0
  have e1:((([a0,a1,a2]:List Value).drop 1).take (Tryz.prog.cellsOf 65))=[a1]:=by rw[show Tryz.prog.cellsOf 65=1 from by kernel_rfl];rfl
  have zE:DataW.trod enc Tryz.prog w base spare held n 65 [a1]=some y1:=by rw[←e1];exact r1
  have e2:((([a0,a1,a2]:List Value).drop 2).take (Tryz.prog.cellsOf 66))=[a2]:=by rw[show Tryz.prog.cellsOf 66=1 from by kernel_rfl];rfl
  have IQ:DataW.trod enc Tryz.prog w base spare held n 66 [a2]=some y2:=by rw[←e2];exact r2
  obtain⟨s0,q0,hs0⟩:=cm Tryz.underlying9 _ _ _ zD (z0 hz);simp only[List.cons.injEq,and_true,kW] at q0;subst q0;obtain⟨A1,PE,l1,q1,Qz,M5,PG,Na,_⟩:=bu kW (fun s:aj=>s.length≤1000000000000000000) Tryz.underlying65 (by kernel_rfl) (fun m hm cs x hh hz=>by
   obtain⟨s,q,hs⟩:=cm Tryz.underlying9 _ _ _ hh hz;exact⟨s,q,aho hs (by decide)⟩) zE (z1 hz)
  subst q1;obtain⟨A2,PH,l2,q2,QA,M6,PI,PJ,Um⟩:=bu meC (Bh w) Tryz.underlying66 (by kernel_rfl) (fun m hm cs x hh hz=>zG m cs x hh hz) IQ (z2 hz);subst q2;rw[show Tryz.prog.bytesOf 103=72 from by kernel_rfl] at Um;unfold reachBytes at Um;exact⟨⟨s0,A1,PE,l1,A2,PH,l2⟩,rfl,⟨aho hs0 (by decide),Qz,M5,jS.2 PG,Na,QA,M6,⟨PI,PJ⟩⟩,by show l2.length≤2000000000000;omega⟩
set_option maxRecDepth 100000 in
theorem zH (fuel:Nat) (cs:List Value) (x:DataW H×List MemPlace) (h:DataW.trod enc Tryz.prog w base spare held fuel 70 cs=some x) (hz:cD Tryz.prog 70 x.1) :
  ∃p:cX,cs=I5.f p∧q9 w p:=by
 obtain⟨hl,n,hn,hf⟩:=cE Tryz.underlying70 h;have Dp:cs.length=4:=hl.trans (by kernel_rfl);obtain⟨y0,r0,z0⟩:=hf 0 _ rfl;obtain⟨y1,r1,z1⟩:=hf 1 _ rfl;obtain⟨y2,r2,z2⟩:=hf 2 _ rfl;obtain⟨y3,r3,z3⟩:=hf 3 _ rfl
 match cs,Dp with
 | [a0,a1,a2,a3],_=>
  have e0:((([a0,a1,a2,a3]:List Value).drop 0).take (Tryz.prog.cellsOf 9))=[a0]:=by rw[show Tryz.prog.cellsOf 9=1 from by kernel_rfl];rfl
  have zD:DataW.trod enc Tryz.prog w base spare held n 9 [a0]=some y0:=by rw[←e0];exact r0
  have e1:((([a0,a1,a2,a3]:List Value).drop 1).take (Tryz.prog.cellsOf 9))=[a1]:=by rw[show Tryz.prog.cellsOf 9=1 from by kernel_rfl];rfl
  have zE:DataW.trod enc Tryz.prog w base spare held n 9 [a1]=some y1:=by rw[←e1];exact r1
  have e2:((([a0,a1,a2,a3]:List Value).drop 2).take (Tryz.prog.cellsOf 3))=[a2]:=by rw[show Tryz.prog.cellsOf 3=1 from by kernel_rfl];rfl
  have IQ:DataW.trod enc Tryz.prog w base spare held n 3 [a2]=some y2:=by rw[←e2];exact r2
  have e3:((([a0,a1,a2,a3]:List Value).drop 3).take (Tryz.prog.cellsOf 27))=[a3]:=by rw[show Tryz.prog.cellsOf 27=1 from by kernel_rfl];rfl
  have r3':DataW.trod enc Tryz.prog w base spare held n 27 [a3]=some y3:=by rw[←e3];exact r3
  obtain⟨s0,q0,hs0⟩:=cm Tryz.underlying9 _ _ _ zD (z0 hz);simp only[List.cons.injEq,and_true,kW] at q0;subst q0;obtain⟨s1,q1,hs1⟩:=cm Tryz.underlying9 _ _ _ zE (z1 hz);simp only[List.cons.injEq,and_true,kW] at q1;subst q1;obtain⟨m2,q2,I4⟩:=dr Tryz.underlying3 _ _ _ IQ;simp only[List.cons.injEq,and_true] at q2;subst q2;obtain⟨A3,cp3,l3,q3,ka3,Y8,kc3,kd3,ke3⟩:=bu kC (fun p=>eV w p∧ng p.ty=true) Tryz.underlying27 (by kernel_rfl) (fun m hm cs x hh hz=>qP m cs x hh hz) r3' (z3 hz);subst q3;exact⟨⟨s0,s1,m2,A3,cp3,l3⟩,rfl,⟨aho hs0 (by decide),aho hs1 (by decide),ka3,Y8,⟨kc3,fun p hp=>(kd3 p hp).1⟩⟩⟩
set_option maxRecDepth 100000 in
theorem Dq (fuel:Nat) (cs:List Value) (x:DataW H×List MemPlace) (h:DataW.trod enc Tryz.prog w base spare held fuel 26 cs=some x) (hz:cD Tryz.prog 26 x.1) :
  ∃p:dz,cs=[.slice p.D p.aA.length p.dc,.slice p.C p.ag.length p.cc,.slice p.I p.insts.length p.ic]∧dX w p∧∀c∈p.ag,c.aX.length≤2000000000000:=by
 obtain⟨hl,n,hn,hf⟩:=cE Tryz.underlying26 h;have Dp:cs.length=3:=hl.trans (by kernel_rfl);obtain⟨y0,r0,z0⟩:=hf 0 _ rfl;obtain⟨y1,r1,z1⟩:=hf 1 _ rfl;obtain⟨y2,r2,z2⟩:=hf 2 _ rfl
 match cs,Dp with
 | [a0,a1,a2],_=>
  have e0:((([a0,a1,a2]:List Value).drop 0).take (Tryz.prog.cellsOf 22))=[a0]:=by rw[show Tryz.prog.cellsOf 22=1 from by kernel_rfl];rfl
  have zD:DataW.trod enc Tryz.prog w base spare held n 22 [a0]=some y0:=by rw[←e0];exact r0
  have e1:((([a0,a1,a2]:List Value).drop 1).take (Tryz.prog.cellsOf 23))=[a1]:=by rw[show Tryz.prog.cellsOf 23=1 from by kernel_rfl];rfl
  have zE:DataW.trod enc Tryz.prog w base spare held n 23 [a1]=some y1:=by rw[←e1];exact r1
  have e2:((([a0,a1,a2]:List Value).drop 2).take (Tryz.prog.cellsOf 24))=[a2]:=by rw[show Tryz.prog.cellsOf 24=1 from by kernel_rfl];rfl
  have IQ:DataW.trod enc Tryz.prog w base spare held n 24 [a2]=some y2:=by rw[←e2];exact r2
  obtain⟨A0,cp0,l0,q0,ka0,Qy,kc0,kd0,ke0⟩:=bu Mm (Bg w) Tryz.underlying22 (by kernel_rfl) (fun m hm cs x hh hz=>zF m cs x hh hz) zD (z0 hz);subst q0;obtain⟨A1,PE,l1,q1,Qz,M5,PG,Na,ke1⟩:=bu Ek (fun c=>Bj w c∧c.aX.length≤2000000000000) Tryz.underlying23 (by kernel_rfl) (fun m hm cs x hh hz=>xz m cs x hh hz) zE (z1 hz);subst q1;obtain⟨A2,PH,l2,q2,QA,M6,PI,PJ,Um⟩:=bu I5 (q9 w) Tryz.underlying24 (by kernel_rfl) (fun m hm cs x hh hz=>zH m cs x hh hz) IQ (z2 hz);subst q2;exact⟨⟨A0,cp0,l0,A1,PE,l1,A2,PH,l2⟩,rfl,⟨ka0,Qy,⟨kc0,kd0⟩,Qz,M5,⟨PG,fun p hp=>(Na p hp).1⟩,QA,M6,⟨PI,PJ⟩⟩,fun c hc=>(Na c hc).2⟩
end
section
variable (v : Int) (A:Option Addr) (c:Nat) (A1:Option Addr) (c1:Nat) (A2:Option Addr) (c2:Nat) (A3:Option Addr) (c3:Nat)
end
section
variable {H : Type}{enc:TypeId×Value→H}{w:World}{base:Nat}{spare:Nat→Bool}{held:Bool}
end
section
variable {H : Type}{enc:TypeId×Value→H}{w:World}{base:Nat}{spare:Nat→Bool}{held:Bool}
theorem zI : ∀(fuel:Nat) (cs:List Value) (x:DataW H×List MemPlace),DataW.trod enc Tryz.prog w base spare held fuel 40 cs=some x→cD Tryz.prog 40 x.1→∃t:Tm,cs=eT.f t∧aM w t:=by
 intro fuel
 induction fuel using Nat.strongRecOn with
 |ind fuel IH=>
 intro cs x h hz;obtain⟨hl,n,hn,hf⟩:=nY Tryz.underlying40 (by kernel_rfl) (by kernel_rfl) h;obtain⟨v0,y0,e0,r0,z0⟩:=hf 0 _ rfl;obtain⟨v1,y1,e1,r1,z1⟩:=hf 1 _ rfl;obtain⟨v2,y2,e2,r2,z2⟩:=hf 2 _ rfl;obtain⟨v3,y3,e3,r3,z3⟩:=hf 3 _ rfl;obtain⟨v4,y4,e4,r4,z4⟩:=hf 4 _ rfl;obtain⟨v5,y5,e5,r5,z5⟩:=hf 5 _ rfl;obtain⟨k,q0,-⟩:=dr Tryz.underlying3 _ _ _ r0;obtain⟨m,q1,-⟩:=dr Tryz.underlying3 _ _ _ r1;obtain⟨s,q2,hs⟩:=cm Tryz.underlying9 _ _ _ r2 (z2 hz);obtain⟨V,vc,vs,q3,a1,a2,a3,-,-⟩:=bu oV (fun _:Int=>True) Tryz.underlying38 (by kernel_rfl) (fun m hm cs x hh _=>by
  obtain⟨a,qa,-⟩:=dr Tryz.underlying3 _ _ _ hh;exact⟨a,qa,trivial⟩) r3 (z3 hz)
 obtain⟨T,tc,ts,q4,b1,b2,b3,b4,-⟩:=bu cA (fun t=>aC w t∧ng t=true) Tryz.underlying31 (by kernel_rfl) (fun m hm cs x hh=>jA m cs x hh) r4 (z4 hz);obtain⟨A,cp,ks,q5,c1,c2,c3,c4,-⟩:=bu eT (fun t=>aM w t) Tryz.underlying28 (by kernel_rfl) (fun m hm cs x hh=>IH m (by omega) cs x hh) r5 (z5 hz);simp only[List.cons.injEq,and_true,kW] at q0 q1 q2;subst q0 q1 q2 q3 q4 q5;refine⟨.mk k m s V vc vs T tc ts A cp ks,?_,.mk ⟨a1,a2,b1,b2,c1,c2,aho hs (by decide),a3,⟨b3,fun x hx=>(b4 x hx).1⟩,c3⟩ c4⟩
 match cs,hl with
 | [x0,x1,x2,x3,x4,x5],_=>
  simp only[ahq,ahr,Option.some.injEq] at e0 e1 e2 e3 e4 e5;subst e0 e1 e2 e3 e4 e5;rfl
end
section
variable {H : Type}{enc:TypeId×Value→H}{w:World}{base:Nat}{spare:Nat→Bool}{held:Bool}
set_option maxRecDepth 100000 in
theorem xA (fuel:Nat) (cs:List Value) (x:DataW H×List MemPlace) (h:DataW.trod enc Tryz.prog w base spare held fuel 30 cs=some x) (hz:cD Tryz.prog 30 x.1) :
  ∃(p:dz) (P:Option Addr) (pc:Nat) (preds:List Pd) (L:Option Addr) (lc:Nat) (given:List Tm),cs=[.slice p.D p.aA.length p.dc,.slice p.C p.ag.length p.cc,.slice p.I p.insts.length p.ic,.slice P preds.length pc,.slice L given.length lc]∧dX w p∧(∀c∈p.ag,c.aX.length≤2000000000000)∧bA w P preds∧bK w L given:=by
 obtain⟨hl,n,hn,hf⟩:=cE Tryz.underlying30 h;have Dp:cs.length=5:=hl.trans (by kernel_rfl);obtain⟨y0,r0,z0⟩:=hf 0 _ rfl;obtain⟨y1,r1,z1⟩:=hf 1 _ rfl;obtain⟨y2,r2,z2⟩:=hf 2 _ rfl
 match cs,Dp with
 | [a0,a1,a2,a3,a4],_=>
  have e0:((([a0,a1,a2,a3,a4]:List Value).drop 0).take (Tryz.prog.cellsOf 26))=[a0,a1,a2]:=by rw[show Tryz.prog.cellsOf 26=3 from by kernel_rfl];rfl
  have zD:DataW.trod enc Tryz.prog w base spare held n 26 [a0,a1,a2]=some y0:=by rw[←e0];exact r0
  have e1:((([a0,a1,a2,a3,a4]:List Value).drop 3).take (Tryz.prog.cellsOf 27))=[a3]:=by rw[show Tryz.prog.cellsOf 27=1 from by kernel_rfl];rfl
  have zE:DataW.trod enc Tryz.prog w base spare held n 27 [a3]=some y1:=by rw[←e1];exact r1
  have e2:((([a0,a1,a2,a3,a4]:List Value).drop 4).take (Tryz.prog.cellsOf 28))=[a4]:=by rw[show Tryz.prog.cellsOf 28=1 from by kernel_rfl];rfl
  have IQ:DataW.trod enc Tryz.prog w base spare held n 28 [a4]=some y2:=by rw[←e2];exact r2
  obtain⟨p,q0,hE,hM⟩:=Dq n _ _ zD (z0 hz);obtain⟨A1,PE,l1,q1,Qz,M5,PG,Na,ke1⟩:=bu kC (fun p=>eV w p∧ng p.ty=true) Tryz.underlying27 (by kernel_rfl) (fun m hm cs x hh hz=>qP m cs x hh hz) zE (z1 hz);obtain⟨A2,PH,l2,q2,QA,M6,PI,PJ,Um⟩:=bu eT (fun t=>aM w t) Tryz.underlying28 (by kernel_rfl) (fun m hm cs x hh hz=>zI m cs x hh hz) IQ (z2 hz);subst q1 q2;simp only[List.cons.injEq,and_true] at q0;obtain⟨rfl,rfl,rfl⟩:=q0;exact⟨p,A1,PE,l1,A2,PH,l2,rfl,hE,hM,⟨PG,fun p hp=>(Na p hp).1⟩,⟨PI,PJ⟩⟩
theorem zJ {v:Value}{d:DataW H}{p:List MemPlace}(h:DataW.Trod enc Tryz.prog w base spare held 30 v d p) (hv:∃cs,v=.agg cs) (hz:cD Tryz.prog 30 d) :
  ∃(x:dz) (P:Option Addr) (pc:Nat) (preds:List Pd) (L:Option Addr) (lc:Nat) (given:List Tm),v=.agg #[.slice x.D x.aA.length x.dc,.slice x.C x.ag.length x.cc,.slice x.I x.insts.length x.ic,.slice P preds.length pc,.slice L given.length lc]∧dX w x∧(∀c∈x.ag,c.aX.length≤2000000000000)∧bA w P preds∧bK w L given:=by
 obtain⟨arr,rfl⟩:=hv;obtain⟨fuel,hf⟩:=h;obtain⟨x,P,pc,preds,L,lc,given,e,h1,h2,h3,h4⟩:=xA fuel _ _ hf hz;refine⟨x,P,pc,preds,L,lc,given,?_,h1,h2,h3,h4⟩;have e1:arr.toList=[.slice x.D x.aA.length x.dc,.slice x.C x.ag.length x.cc,.slice x.I x.insts.length x.ic,.slice P preds.length pc,.slice L given.length lc]:=by simpa [Value.cells] using e
 have e2:arr=([.slice x.D x.aA.length x.dc,.slice x.C x.ag.length x.cc,.slice x.I x.insts.length x.ic,.slice P preds.length pc,.slice L given.length lc]:List Value).toArray:=by rw[←e1]
 rw[e2]
end
theorem IU {s:aj}{v:Int}{A:Option Addr}{c:Nat}{l:List Ty}(h1:l.length≤3000000000000) (h:∀k∈l,jH k=true):jH (.mk s v A c l)=true:=by
 rw[Fm,ahv];exact⟨decide_eq_true h1,List.all_eq_true.2 h⟩
section
variable {H : Type}{enc:TypeId×Value→H}{w:World}{base:Nat}{spare:Nat→Bool}{held:Bool}
end
end Go.Proofs.YtigafbmabjglfaaGreatDoor
