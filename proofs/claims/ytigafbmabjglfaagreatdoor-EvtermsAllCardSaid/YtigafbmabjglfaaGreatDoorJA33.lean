import Derived.Test.YtigafbmabjglfaaGreatDoorJA32
import Derived.SizedLaws
namespace Go.Proofs.YtigafbmabjglfaaGreatDoor
open Go.RowKit Go.ChangeShapes Go.WideShapes Go.Deep
def dM {H:Type}(P:Program) (t:TypeId) (d:DataW H):Prop:=∀n∈d.weights P t,n≤reachBytes
theorem dM.CL {H:Type}{P:Program}{ts:List TypeId}{ds:List (DataW H)}(h:(DataW.weightsEach P ts ds).all (· ≤ reachBytes)=true){j:Nat}{t:TypeId}{d:DataW H}(ht:ts[j]?=some t) (hd:ds[j]?=some d):dM P t d:=fun n hn=>by
 have:=List.all_eq_true.1 h _ (DataW.weights_mem_each ht hd n hn);simpa using this
theorem kM {H:Type}{P:Program}{e:TypeId}{d:DataW H}{n:Nat}:∀ {l:List (DataW H)},d∈l→n∈d.weights P e→n∈DataW.weightsAll P e l
 | [],h,_=>by cases h
 |x :: l,h,hn=>by
  unfold DataW.weightsAll;rw[List.mem_append]
  rcases List.mem_cons.1 h with rfl|h
  ·exact .inl hn
  ·exact .inr (kM h hn)
section
variable {H : Type}{enc:TypeId×Value→H}{P:Program}{w:World}{base:Nat}{spare:Nat→Bool}{held:Bool}
theorem pz {t:TypeId}{fs:Array Field}{fuel:Nat}{cs:List Value}{x:DataW H×List MemPlace}(hs:P.underlying t=some (.struct fs)) (abl:oneCellFields P fs=true) (hC:P.cellsOf t=fs.size)
  (h:DataW.trod enc P w base spare held fuel t cs=some x) :
  cs.length=fs.size∧∃n,fuel=n+1∧∀(j:Nat) (f:Field),fs[j]?=some f→∃v y,cs[j]?=some v∧DataW.trod enc P w base spare held n f.type [v]=some y∧(dM P t x.1→dM P f.type y.1):=by
 obtain⟨ys,n,hn,hx,hlen,hyl,hf⟩:=DataW.trod_struct hs h;refine⟨by rw[hlen,hC],n,hn,fun j f hj => ?_⟩;obtain⟨ho,hk⟩:=hone_of abl j f hj;have zU:j<fs.size:=(Array.getElem?_eq_some_iff.1 hj).1;have hv:cs[j]?=some (cs[j]'(by omega)):=aiU (by omega);have h1:=hf j f hj;rw[ho,hk] at h1;have e1:(cs.drop j).take 1=[cs[j]'(by omega)]:=by rw[List.drop_eq_getElem_cons (by omega)];rfl
 rw[e1] at h1;refine⟨_,_,hv,h1.trans (aiU (by omega)),fun hz n hn=>hz n ?_⟩;rw[hx];unfold DataW.weights;rw[hs];exact DataW.weights_mem_each (j:=j) (t:=f.type) (by rw[List.getElem?_map,Array.getElem?_toList,hj];rfl) (by rw[List.getElem?_map,aiU (by omega)];rfl) n hn
theorem bu {α:Type}(C:fH α) (Q:α→Prop){t e:TypeId}(ht:P.underlying t=some (.slice e)) (hC:P.cellsOf e=C.k){fuel:Nat}{v:Value}{x:DataW H×List MemPlace}
  (he:∀n,n<fuel→∀cs x,DataW.trod enc P w base spare held n e cs=some x→dM P e x.1→∃a,cs=C.f a∧Q a)
  (h:DataW.trod enc P w base spare held fuel t [v]=some x) (hz:dM P t x.1) :
  ∃(A:Option Addr) (c:Nat) (xs:List α),v=.slice A xs.length c∧xs.length≤c∧c≤9223372036854775807∧ak C w A xs∧(∀x∈xs,Q x)∧xs.length*P.bytesOf e≤reachBytes:=by
 rcases DataW.trod_slice ht h with ⟨hcs,_⟩|⟨a,len,cap,elems,rest,n,hn,hcs,hx,hb,hl,hm,hlen,hel,-,-⟩
 ·simp at hcs;subst hcs;exact⟨none,0,[],rfl,aiG _,by omega,ak.nil C _ _,by simp,by simp⟩
 ·simp at hcs;subst hcs;have hw:(x.1).weights P t=((elems.map (·.1)).length+(rest.map (·.1)).length)*P.bytesOf e :: (DataW.weightsAll P e (elems.map (·.1))++DataW.weightsAll P e (rest.map (·.1))):=by
   rw[hx];show DataW.weights P t (.slice _ _)=_;unfold DataW.weights;rw[ht]
  obtain⟨xs,Vz,hx2,hq⟩:=KA (α:=α) (P:=fun i x=>w.cells? base (a.add (i*C.k)) C.k=some (C.f x)) (Q:=Q) len (fun i hi'=>by
   have h1:=hel i hi';rw[aiU (by omega)] at h1;obtain⟨cs',h2,h3⟩:=Option.bind_eq_some_iff.1 h1;obtain⟨y,rfl,hy⟩:=he n (by omega) _ _ h3 (fun m hm=>hz m (by
    rw[hw];refine List.mem_cons_of_mem _ (List.mem_append.2 (.inl (kM (List.mem_map.2 ⟨_,aiF (by omega),rfl⟩) hm)))))
   rw[hC] at h2;exact⟨y,h2,hy⟩)
  subst Vz;refine⟨some a,cap,xs,rfl,hl,by unfold maxLen at hm;omega,Row.Kz C.pos C.f C.hf xs hx2,hq,?_⟩;have:=hz _ (by rw[hw];exact List.mem_cons_self);rw[List.length_map,List.length_map,hlen] at this;exact aiM (Nat.mul_le_mul_right _ (Nat.le_add_right _ _)) this
theorem cN {t:TypeId}(ht:P.underlying t=some .string) (n:Nat) (cs:List Value) (x:DataW H×List MemPlace) (h:DataW.trod enc P w base spare held n t cs=some x) (hz:dM P t x.1) :
  ∃a:aj,cs=mf.f a∧a.length≤140737488351232:=by
 obtain⟨s,e,hx,hs⟩:=DataW.trod_string ht h;refine⟨s.data.toList,by rw[e];simp[mf,encStr],?_⟩;have:=hz s.data.toList.length (by rw[hx];show _∈DataW.weights P t (.lit (.string _));unfold DataW.weights;exact List.mem_cons_self);exact this
end
theorem Wn {a:Int}(h:(Lit.int .i64 a).wf=true) : -9223372036854775808≤a:=by
 have h1:decide (IntKind.i64.min≤a)&&decide (a≤IntKind.i64.max):=h;rw[aiT] at h1;exact of_decide_eq_true h1.1
theorem Wo {a:Int}(h:(Lit.int .i64 a).wf=true):a≤9223372036854775807:=by
 have h1:decide (IntKind.i64.min≤a)&&decide (a≤IntKind.i64.max):=h;rw[aiT] at h1;exact of_decide_eq_true h1.2
section
variable {H : Type}{enc:TypeId×Value→H}{w:World}{base:Nat}{spare:Nat→Bool}{held:Bool}
theorem jT : ∀(fuel:Nat) (cs:List Value) (x:DataW H×List MemPlace),DataW.trod enc Tryz.prog w base spare held fuel 53 cs=some x→dM Tryz.prog 53 x.1→∃t:Ty,cs=dr.f t∧aH w t∧nK t=true:=by
 intro fuel
 induction fuel using Nat.strongRecOn with
 |ind fuel IH=>
 intro cs x h hz;obtain⟨hl,n,hn,hf⟩:=pz Tryz.underlying53 (by kernel_rfl) (by kernel_rfl) h;obtain⟨v0,y0,e0,r0,z0⟩:=hf 0 _ rfl;obtain⟨v1,y1,e1,r1,z1⟩:=hf 1 _ rfl;obtain⟨v2,y2,e2,r2,z2⟩:=hf 2 _ rfl;obtain⟨s,q0,hs⟩:=cN Tryz.underlying9 _ _ _ r0 (z0 hz);obtain⟨a,q1,hi⟩:=fU Tryz.underlying3 _ _ _ r1;obtain⟨A,cp,ks,q2,k1,k2,k3,k4,_⟩:=bu dr (fun t=>aH w t∧nK t=true) Tryz.underlying31 (by kernel_rfl) (fun m hm cs x hh=>IH m (by omega) cs x hh) r2 (z2 hz);simp only[List.cons.injEq,and_true,mf] at q0 q1;subst q0 q1 q2;refine⟨.mk s a A cp ks,?_,aH.mk k1 k2 (aiM hs (by decide)) k3 (fun k hk=>(k4 k hk).1),IJ (Wn hi) (Wo hi) hs (fun k hk=>(k4 k hk).2)⟩
 match cs,hl with
 | [a0,a1,a2],_=>
  simp only[aiO,aiP,Option.some.injEq] at e0 e1 e2;subst e0 e1 e2;rfl
end
section
variable {H : Type}{enc:TypeId×Value→H}{P:Program}{w:World}{base:Nat}{spare:Nat→Bool}{held:Bool}
theorem cI {t:TypeId}{fs:Array Field}{fuel:Nat}{cs:List Value}{x:DataW H×List MemPlace}(hs:P.underlying t=some (.struct fs)) (h:DataW.trod enc P w base spare held fuel t cs=some x) :
  cs.length=P.cellsOf t∧∃n,fuel=n+1∧∀(j:Nat) (f:Field),fs[j]?=some f→∃y,DataW.trod enc P w base spare held n f.type ((cs.drop f.offset).take (P.cellsOf f.type))=some y∧(dM P t x.1→dM P f.type y.1):=by
 obtain⟨ys,n,hn,hx,hlen,hyl,hf⟩:=DataW.trod_struct hs h;refine⟨hlen,n,hn,fun j f hj => ?_⟩;have zU:j<fs.size:=(Array.getElem?_eq_some_iff.1 hj).1;refine⟨_,(hf j f hj).trans (aiU (by omega)),fun hz n hn=>hz n ?_⟩;rw[hx];unfold DataW.weights;rw[hs];exact DataW.weights_mem_each (j:=j) (t:=f.type) (by rw[List.getElem?_map,Array.getElem?_toList,hj];rfl) (by rw[List.getElem?_map,aiU (by omega)];rfl) n hn
end
section
variable {H : Type}{enc:TypeId×Value→H}{w:World}{base:Nat}{spare:Nat→Bool}{held:Bool}
set_option maxRecDepth 100000 in
theorem mN (fuel:Nat) (cs:List Value) (x:DataW H×List MemPlace) (h:DataW.trod enc Tryz.prog w base spare held fuel 55 cs=some x) (hz:dM Tryz.prog 55 x.1) :
  ∃p:Pd,cs=j8.f p∧dH w p∧nK p.ty=true:=by
 obtain⟨hl,n,hn,hf⟩:=cI Tryz.underlying55 h;have hl4:cs.length=4:=hl.trans (by kernel_rfl);obtain⟨y0,r0,z0⟩:=hf 0 _ rfl;obtain⟨y1,r1,z1⟩:=hf 1 _ rfl
 match cs,hl4 with
 | [a0,a1,a2,a3],_=>
  have e0:((([a0,a1,a2,a3]:List Value).drop 0).take (Tryz.prog.cellsOf 9))=[a0]:=by rw[show Tryz.prog.cellsOf 9=1 from by kernel_rfl];rfl
  have e1:((([a0,a1,a2,a3]:List Value).drop 1).take (Tryz.prog.cellsOf 53))=[a1,a2,a3]:=by rw[show Tryz.prog.cellsOf 53=3 from by kernel_rfl];rfl
  have Bo:DataW.trod enc Tryz.prog w base spare held n 9 [a0]=some y0:=by rw[←e0];exact r0
  have Bp:DataW.trod enc Tryz.prog w base spare held n 53 [a1,a2,a3]=some y1:=by rw[←e1];exact r1
  obtain⟨s,q0,hs⟩:=cN Tryz.underlying9 _ _ _ Bo (z0 hz);obtain⟨t,q1,ht,ok⟩:=jT _ _ _ Bp (z1 hz);have q1':[a1,a2,a3]=[encStr t.aq,.int .i64 t.var,.slice t.A t.args.length t.cap]:=q1;simp only[List.cons.injEq,and_true,mf] at q0 q1';obtain⟨rfl,rfl,rfl⟩:=q1';subst q0;exact⟨⟨s,t⟩,rfl,⟨aiM hs (by decide),ht⟩,ok⟩
end
section
variable {H : Type}{enc:TypeId×Value→H}{w:World}{base:Nat}{spare:Nat→Bool}{held:Bool}
set_option maxRecDepth 100000 in
theorem Fq (fuel:Nat) (cs:List Value) (x:DataW H×List MemPlace) (h:DataW.trod enc Tryz.prog w base spare held fuel 101 cs=some x) (hz:dM Tryz.prog 101 x.1) :
  ∃p:xp,cs=Pq.f p∧Db w p:=by
 obtain⟨hl,n,hn,hf⟩:=cI Tryz.underlying101 h;have Fs:cs.length=2:=hl.trans (by kernel_rfl);obtain⟨y0,r0,z0⟩:=hf 0 _ rfl;obtain⟨y1,r1,z1⟩:=hf 1 _ rfl
 match cs,Fs with
 | [a0,a1],_=>
  have e0:((([a0,a1]:List Value).drop 0).take (Tryz.prog.cellsOf 9))=[a0]:=by rw[show Tryz.prog.cellsOf 9=1 from by kernel_rfl];rfl
  have Bo:DataW.trod enc Tryz.prog w base spare held n 9 [a0]=some y0:=by rw[←e0];exact r0
  have e1:((([a0,a1]:List Value).drop 1).take (Tryz.prog.cellsOf 31))=[a1]:=by rw[show Tryz.prog.cellsOf 31=1 from by kernel_rfl];rfl
  have Bp:DataW.trod enc Tryz.prog w base spare held n 31 [a1]=some y1:=by rw[←e1];exact r1
  obtain⟨s0,q0,hs0⟩:=cN Tryz.underlying9 _ _ _ Bo (z0 hz);simp only[List.cons.injEq,and_true,mf] at q0;subst q0;obtain⟨A1,Rs,l1,q1,SF,EY,Rt,OV,ke1⟩:=bu dr (fun t=>aH w t∧nK t=true) Tryz.underlying31 (by kernel_rfl) (fun m hm cs x hh hz=>jT m cs x hh hz) Bp (z1 hz);subst q1;exact⟨⟨s0,A1,Rs,l1⟩,rfl,⟨aiM hs0 (by decide),SF,EY,⟨Rt,fun p hp=>(OV p hp).1⟩⟩⟩
set_option maxRecDepth 100000 in
theorem Bq (fuel:Nat) (cs:List Value) (x:DataW H×List MemPlace) (h:DataW.trod enc Tryz.prog w base spare held fuel 99 cs=some x) (hz:dM Tryz.prog 99 x.1) :
  ∃p:pF,cs=NW.f p∧Dc w p:=by
 obtain⟨hl,n,hn,hf⟩:=cI Tryz.underlying99 h;have Fs:cs.length=3:=hl.trans (by kernel_rfl);obtain⟨y0,r0,z0⟩:=hf 0 _ rfl;obtain⟨y1,r1,z1⟩:=hf 1 _ rfl;obtain⟨y2,r2,z2⟩:=hf 2 _ rfl
 match cs,Fs with
 | [a0,a1,a2],_=>
  have e0:((([a0,a1,a2]:List Value).drop 0).take (Tryz.prog.cellsOf 9))=[a0]:=by rw[show Tryz.prog.cellsOf 9=1 from by kernel_rfl];rfl
  have Bo:DataW.trod enc Tryz.prog w base spare held n 9 [a0]=some y0:=by rw[←e0];exact r0
  have e1:((([a0,a1,a2]:List Value).drop 1).take (Tryz.prog.cellsOf 3))=[a1]:=by rw[show Tryz.prog.cellsOf 3=1 from by kernel_rfl];rfl
  have Bp:DataW.trod enc Tryz.prog w base spare held n 3 [a1]=some y1:=by rw[←e1];exact r1
  have e2:((([a0,a1,a2]:List Value).drop 2).take (Tryz.prog.cellsOf 97))=[a2]:=by rw[show Tryz.prog.cellsOf 97=1 from by kernel_rfl];rfl
  have KB:DataW.trod enc Tryz.prog w base spare held n 97 [a2]=some y2:=by rw[←e2];exact r2
  obtain⟨s0,q0,hs0⟩:=cN Tryz.underlying9 _ _ _ Bo (z0 hz);simp only[List.cons.injEq,and_true,mf] at q0;subst q0;obtain⟨m1,q1,Gh⟩:=fU Tryz.underlying3 _ _ _ Bp;simp only[List.cons.injEq,and_true] at q1;subst q1;obtain⟨A2,Ru,l2,q2,SG,EZ,Rv,Rw,Wp⟩:=bu Pq (Db w) Tryz.underlying97 (by kernel_rfl) (fun m hm cs x hh hz=>Fq m cs x hh hz) KB (z2 hz);subst q2;exact⟨⟨s0,m1,A2,Ru,l2⟩,rfl,⟨aiM hs0 (by decide),SG,EZ,⟨Rv,Rw⟩⟩⟩
set_option maxRecDepth 100000 in
theorem Br (fuel:Nat) (cs:List Value) (x:DataW H×List MemPlace) (h:DataW.trod enc Tryz.prog w base spare held fuel 103 cs=some x) (hz:dM Tryz.prog 103 x.1) :
  ∃p:vy,cs=meC.f p∧Dd w p:=by
 obtain⟨hl,n,hn,hf⟩:=cI Tryz.underlying103 h;have Fs:cs.length=5:=hl.trans (by kernel_rfl);obtain⟨y0,r0,z0⟩:=hf 0 _ rfl;obtain⟨y1,r1,z1⟩:=hf 1 _ rfl;obtain⟨y2,r2,z2⟩:=hf 2 _ rfl
 match cs,Fs with
 | [a0,a1,a2,a3,a4],_=>
  have e0:((([a0,a1,a2,a3,a4]:List Value).drop 0).take (Tryz.prog.cellsOf 9))=[a0]:=by rw[show Tryz.prog.cellsOf 9=1 from by kernel_rfl];rfl
  have Bo:DataW.trod enc Tryz.prog w base spare held n 9 [a0]=some y0:=by rw[←e0];exact r0
  have e1:((([a0,a1,a2,a3,a4]:List Value).drop 1).take (Tryz.prog.cellsOf 3))=[a1]:=by rw[show Tryz.prog.cellsOf 3=1 from by kernel_rfl];rfl
  have Bp:DataW.trod enc Tryz.prog w base spare held n 3 [a1]=some y1:=by rw[←e1];exact r1
  have e2:((([a0,a1,a2,a3,a4]:List Value).drop 2).take (Tryz.prog.cellsOf 53))=[a2,a3,a4]:=by rw[show Tryz.prog.cellsOf 53=3 from by kernel_rfl];rfl
  have KB:DataW.trod enc Tryz.prog w base spare held n 53 [a2,a3,a4]=some y2:=by rw[←e2];exact r2
  obtain⟨s0,q0,hs0⟩:=cN Tryz.underlying9 _ _ _ Bo (z0 hz);simp only[List.cons.injEq,and_true,mf] at q0;subst q0;obtain⟨m1,q1,Gh⟩:=fU Tryz.underlying3 _ _ _ Bp;simp only[List.cons.injEq,and_true] at q1;subst q1;obtain⟨t2,q2,C5,ok2⟩:=jT _ _ _ KB (z2 hz);have q2':[a2,a3,a4]=[encStr t2.aq,.int .i64 t2.var,.slice t2.A t2.args.length t2.cap]:=q2;simp only[List.cons.injEq,and_true] at q2';obtain⟨rfl,rfl,rfl⟩:=q2';exact⟨⟨s0,m1,t2⟩,rfl,⟨aiM hs0 (by decide),C5⟩⟩
set_option maxRecDepth 100000 in
theorem y7 (fuel:Nat) (cs:List Value) (x:DataW H×List MemPlace) (h:DataW.trod enc Tryz.prog w base spare held fuel 68 cs=some x) (hz:dM Tryz.prog 68 x.1) :
  ∃p:dY,cs=Gi.f p∧De w p∧p.bf.length≤2000000000000:=by
 obtain⟨hl,n,hn,hf⟩:=cI Tryz.underlying68 h;have Fs:cs.length=3:=hl.trans (by kernel_rfl);obtain⟨y0,r0,z0⟩:=hf 0 _ rfl;obtain⟨y1,r1,z1⟩:=hf 1 _ rfl;obtain⟨y2,r2,z2⟩:=hf 2 _ rfl
 match cs,Fs with
 | [a0,a1,a2],_=>
  have e0:((([a0,a1,a2]:List Value).drop 0).take (Tryz.prog.cellsOf 9))=[a0]:=by rw[show Tryz.prog.cellsOf 9=1 from by kernel_rfl];rfl
  have Bo:DataW.trod enc Tryz.prog w base spare held n 9 [a0]=some y0:=by rw[←e0];exact r0
  have e1:((([a0,a1,a2]:List Value).drop 1).take (Tryz.prog.cellsOf 65))=[a1]:=by rw[show Tryz.prog.cellsOf 65=1 from by kernel_rfl];rfl
  have Bp:DataW.trod enc Tryz.prog w base spare held n 65 [a1]=some y1:=by rw[←e1];exact r1
  have e2:((([a0,a1,a2]:List Value).drop 2).take (Tryz.prog.cellsOf 66))=[a2]:=by rw[show Tryz.prog.cellsOf 66=1 from by kernel_rfl];rfl
  have KB:DataW.trod enc Tryz.prog w base spare held n 66 [a2]=some y2:=by rw[←e2];exact r2
  obtain⟨s0,q0,hs0⟩:=cN Tryz.underlying9 _ _ _ Bo (z0 hz);simp only[List.cons.injEq,and_true,mf] at q0;subst q0;obtain⟨A1,Rs,l1,q1,SF,EY,Rt,OV,_⟩:=bu mf (fun s:aj=>s.length≤1000000000000000000) Tryz.underlying65 (by kernel_rfl) (fun m hm cs x hh hz=>by
   obtain⟨s,q,hs⟩:=cN Tryz.underlying9 _ _ _ hh hz;exact⟨s,q,aiM hs (by decide)⟩) Bp (z1 hz)
  subst q1;obtain⟨A2,Ru,l2,q2,SG,EZ,Rv,Rw,Wp⟩:=bu meC (Dd w) Tryz.underlying66 (by kernel_rfl) (fun m hm cs x hh hz=>Br m cs x hh hz) KB (z2 hz);subst q2;rw[show Tryz.prog.bytesOf 103=72 from by kernel_rfl] at Wp;unfold reachBytes at Wp;exact⟨⟨s0,A1,Rs,l1,A2,Ru,l2⟩,rfl,⟨aiM hs0 (by decide),SF,EY,kg.2 Rt,OV,SG,EZ,⟨Rv,Rw⟩⟩,by show l2.length≤2000000000000;omega⟩
set_option maxRecDepth 100000 in
theorem Bt (fuel:Nat) (cs:List Value) (x:DataW H×List MemPlace) (h:DataW.trod enc Tryz.prog w base spare held fuel 70 cs=some x) (hz:dM Tryz.prog 70 x.1) :
  ∃p:cL,cs=KH.f p∧pG w p:=by
 obtain⟨hl,n,hn,hf⟩:=cI Tryz.underlying70 h;have Fs:cs.length=4:=hl.trans (by kernel_rfl);obtain⟨y0,r0,z0⟩:=hf 0 _ rfl;obtain⟨y1,r1,z1⟩:=hf 1 _ rfl;obtain⟨y2,r2,z2⟩:=hf 2 _ rfl;obtain⟨y3,r3,z3⟩:=hf 3 _ rfl
 match cs,Fs with
 | [a0,a1,a2,a3],_=>
  have e0:((([a0,a1,a2,a3]:List Value).drop 0).take (Tryz.prog.cellsOf 9))=[a0]:=by rw[show Tryz.prog.cellsOf 9=1 from by kernel_rfl];rfl
  have Bo:DataW.trod enc Tryz.prog w base spare held n 9 [a0]=some y0:=by rw[←e0];exact r0
  have e1:((([a0,a1,a2,a3]:List Value).drop 1).take (Tryz.prog.cellsOf 9))=[a1]:=by rw[show Tryz.prog.cellsOf 9=1 from by kernel_rfl];rfl
  have Bp:DataW.trod enc Tryz.prog w base spare held n 9 [a1]=some y1:=by rw[←e1];exact r1
  have e2:((([a0,a1,a2,a3]:List Value).drop 2).take (Tryz.prog.cellsOf 3))=[a2]:=by rw[show Tryz.prog.cellsOf 3=1 from by kernel_rfl];rfl
  have KB:DataW.trod enc Tryz.prog w base spare held n 3 [a2]=some y2:=by rw[←e2];exact r2
  have e3:((([a0,a1,a2,a3]:List Value).drop 3).take (Tryz.prog.cellsOf 27))=[a3]:=by rw[show Tryz.prog.cellsOf 27=1 from by kernel_rfl];rfl
  have r3':DataW.trod enc Tryz.prog w base spare held n 27 [a3]=some y3:=by rw[←e3];exact r3
  obtain⟨s0,q0,hs0⟩:=cN Tryz.underlying9 _ _ _ Bo (z0 hz);simp only[List.cons.injEq,and_true,mf] at q0;subst q0;obtain⟨s1,q1,hs1⟩:=cN Tryz.underlying9 _ _ _ Bp (z1 hz);simp only[List.cons.injEq,and_true,mf] at q1;subst q1;obtain⟨m2,q2,Fy⟩:=fU Tryz.underlying3 _ _ _ KB;simp only[List.cons.injEq,and_true] at q2;subst q2;obtain⟨A3,cp3,l3,q3,ka3,OP,kc3,kd3,ke3⟩:=bu j8 (fun p=>dH w p∧nK p.ty=true) Tryz.underlying27 (by kernel_rfl) (fun m hm cs x hh hz=>mN m cs x hh hz) r3' (z3 hz);subst q3;exact⟨⟨s0,s1,m2,A3,cp3,l3⟩,rfl,⟨aiM hs0 (by decide),aiM hs1 (by decide),ka3,OP,⟨kc3,fun p hp=>(kd3 p hp).1⟩⟩⟩
set_option maxRecDepth 100000 in
theorem Fu (fuel:Nat) (cs:List Value) (x:DataW H×List MemPlace) (h:DataW.trod enc Tryz.prog w base spare held fuel 26 cs=some x) (hz:dM Tryz.prog 26 x.1) :
  ∃p:di,cs=[.slice p.D p.aA.length p.dc,.slice p.C p.af.length p.cc,.slice p.I p.insts.length p.ic]∧dJ w p∧∀c∈p.af,c.bf.length≤2000000000000:=by
 obtain⟨hl,n,hn,hf⟩:=cI Tryz.underlying26 h;have Fs:cs.length=3:=hl.trans (by kernel_rfl);obtain⟨y0,r0,z0⟩:=hf 0 _ rfl;obtain⟨y1,r1,z1⟩:=hf 1 _ rfl;obtain⟨y2,r2,z2⟩:=hf 2 _ rfl
 match cs,Fs with
 | [a0,a1,a2],_=>
  have e0:((([a0,a1,a2]:List Value).drop 0).take (Tryz.prog.cellsOf 22))=[a0]:=by rw[show Tryz.prog.cellsOf 22=1 from by kernel_rfl];rfl
  have Bo:DataW.trod enc Tryz.prog w base spare held n 22 [a0]=some y0:=by rw[←e0];exact r0
  have e1:((([a0,a1,a2]:List Value).drop 1).take (Tryz.prog.cellsOf 23))=[a1]:=by rw[show Tryz.prog.cellsOf 23=1 from by kernel_rfl];rfl
  have Bp:DataW.trod enc Tryz.prog w base spare held n 23 [a1]=some y1:=by rw[←e1];exact r1
  have e2:((([a0,a1,a2]:List Value).drop 2).take (Tryz.prog.cellsOf 24))=[a2]:=by rw[show Tryz.prog.cellsOf 24=1 from by kernel_rfl];rfl
  have KB:DataW.trod enc Tryz.prog w base spare held n 24 [a2]=some y2:=by rw[←e2];exact r2
  obtain⟨A0,cp0,l0,q0,ka0,Cw,kc0,kd0,ke0⟩:=bu NW (Dc w) Tryz.underlying22 (by kernel_rfl) (fun m hm cs x hh hz=>Bq m cs x hh hz) Bo (z0 hz);subst q0;obtain⟨A1,Rs,l1,q1,SF,EY,Rt,OV,ke1⟩:=bu Gi (fun c=>De w c∧c.bf.length≤2000000000000) Tryz.underlying23 (by kernel_rfl) (fun m hm cs x hh hz=>y7 m cs x hh hz) Bp (z1 hz);subst q1;obtain⟨A2,Ru,l2,q2,SG,EZ,Rv,Rw,Wp⟩:=bu KH (pG w) Tryz.underlying24 (by kernel_rfl) (fun m hm cs x hh hz=>Bt m cs x hh hz) KB (z2 hz);subst q2;exact⟨⟨A0,cp0,l0,A1,Rs,l1,A2,Ru,l2⟩,rfl,⟨ka0,Cw,⟨kc0,kd0⟩,SF,EY,⟨Rt,fun p hp=>(OV p hp).1⟩,SG,EZ,⟨Rv,Rw⟩⟩,fun c hc=>(OV c hc).2⟩
end
section
variable (v : Int) (A:Option Addr) (c:Nat) (A1:Option Addr) (c1:Nat) (A2:Option Addr) (c2:Nat) (A3:Option Addr) (c3:Nat)
end
section
variable {H : Type}{enc:TypeId×Value→H}{w:World}{base:Nat}{spare:Nat→Bool}{held:Bool}
end
section
variable {H : Type}{enc:TypeId×Value→H}{w:World}{base:Nat}{spare:Nat→Bool}{held:Bool}
theorem Bu : ∀(fuel:Nat) (cs:List Value) (x:DataW H×List MemPlace),DataW.trod enc Tryz.prog w base spare held fuel 40 cs=some x→dM Tryz.prog 40 x.1→∃t:Tm,cs=eY.f t∧aQ w t:=by
 intro fuel
 induction fuel using Nat.strongRecOn with
 |ind fuel IH=>
 intro cs x h hz;obtain⟨hl,n,hn,hf⟩:=pz Tryz.underlying40 (by kernel_rfl) (by kernel_rfl) h;obtain⟨v0,y0,e0,r0,z0⟩:=hf 0 _ rfl;obtain⟨v1,y1,e1,r1,z1⟩:=hf 1 _ rfl;obtain⟨v2,y2,e2,r2,z2⟩:=hf 2 _ rfl;obtain⟨v3,y3,e3,r3,z3⟩:=hf 3 _ rfl;obtain⟨v4,y4,e4,r4,z4⟩:=hf 4 _ rfl;obtain⟨v5,y5,e5,r5,z5⟩:=hf 5 _ rfl;obtain⟨k,q0,-⟩:=fU Tryz.underlying3 _ _ _ r0;obtain⟨m,q1,-⟩:=fU Tryz.underlying3 _ _ _ r1;obtain⟨s,q2,hs⟩:=cN Tryz.underlying9 _ _ _ r2 (z2 hz);obtain⟨V,vc,vs,q3,a1,a2,a3,-,-⟩:=bu qb (fun _:Int=>True) Tryz.underlying38 (by kernel_rfl) (fun m hm cs x hh _=>by
  obtain⟨a,qa,-⟩:=fU Tryz.underlying3 _ _ _ hh;exact⟨a,qa,trivial⟩) r3 (z3 hz)
 obtain⟨T,tc,ts,q4,b1,b2,b3,b4,-⟩:=bu dr (fun t=>aH w t∧nK t=true) Tryz.underlying31 (by kernel_rfl) (fun m hm cs x hh=>jT m cs x hh) r4 (z4 hz);obtain⟨A,cp,ks,q5,c1,c2,c3,c4,-⟩:=bu eY (fun t=>aQ w t) Tryz.underlying28 (by kernel_rfl) (fun m hm cs x hh=>IH m (by omega) cs x hh) r5 (z5 hz);simp only[List.cons.injEq,and_true,mf] at q0 q1 q2;subst q0 q1 q2 q3 q4 q5;refine⟨.mk k m s V vc vs T tc ts A cp ks,?_,.mk ⟨a1,a2,b1,b2,c1,c2,aiM hs (by decide),a3,⟨b3,fun x hx=>(b4 x hx).1⟩,c3⟩ c4⟩
 match cs,hl with
 | [x0,x1,x2,x3,x4,x5],_=>
  simp only[aiO,aiP,Option.some.injEq] at e0 e1 e2 e3 e4 e5;subst e0 e1 e2 e3 e4 e5;rfl
end
section
variable {H : Type}{enc:TypeId×Value→H}{w:World}{base:Nat}{spare:Nat→Bool}{held:Bool}
set_option maxRecDepth 100000 in
theorem y8 (fuel:Nat) (cs:List Value) (x:DataW H×List MemPlace) (h:DataW.trod enc Tryz.prog w base spare held fuel 30 cs=some x) (hz:dM Tryz.prog 30 x.1) :
  ∃(p:di) (P:Option Addr) (pc:Nat) (preds:List Pd) (L:Option Addr) (lc:Nat) (given:List Tm),cs=[.slice p.D p.aA.length p.dc,.slice p.C p.af.length p.cc,.slice p.I p.insts.length p.ic,.slice P preds.length pc,.slice L given.length lc]∧dJ w p∧(∀c∈p.af,c.bf.length≤2000000000000)∧bg w P preds∧bm w L given:=by
 obtain⟨hl,n,hn,hf⟩:=cI Tryz.underlying30 h;have Fs:cs.length=5:=hl.trans (by kernel_rfl);obtain⟨y0,r0,z0⟩:=hf 0 _ rfl;obtain⟨y1,r1,z1⟩:=hf 1 _ rfl;obtain⟨y2,r2,z2⟩:=hf 2 _ rfl
 match cs,Fs with
 | [a0,a1,a2,a3,a4],_=>
  have e0:((([a0,a1,a2,a3,a4]:List Value).drop 0).take (Tryz.prog.cellsOf 26))=[a0,a1,a2]:=by rw[show Tryz.prog.cellsOf 26=3 from by kernel_rfl];rfl
  have Bo:DataW.trod enc Tryz.prog w base spare held n 26 [a0,a1,a2]=some y0:=by rw[←e0];exact r0
  have e1:((([a0,a1,a2,a3,a4]:List Value).drop 3).take (Tryz.prog.cellsOf 27))=[a3]:=by rw[show Tryz.prog.cellsOf 27=1 from by kernel_rfl];rfl
  have Bp:DataW.trod enc Tryz.prog w base spare held n 27 [a3]=some y1:=by rw[←e1];exact r1
  have e2:((([a0,a1,a2,a3,a4]:List Value).drop 4).take (Tryz.prog.cellsOf 28))=[a4]:=by rw[show Tryz.prog.cellsOf 28=1 from by kernel_rfl];rfl
  have KB:DataW.trod enc Tryz.prog w base spare held n 28 [a4]=some y2:=by rw[←e2];exact r2
  obtain⟨p,q0,hE,hM⟩:=Fu n _ _ Bo (z0 hz);obtain⟨A1,Rs,l1,q1,SF,EY,Rt,OV,ke1⟩:=bu j8 (fun p=>dH w p∧nK p.ty=true) Tryz.underlying27 (by kernel_rfl) (fun m hm cs x hh hz=>mN m cs x hh hz) Bp (z1 hz);obtain⟨A2,Ru,l2,q2,SG,EZ,Rv,Rw,Wp⟩:=bu eY (fun t=>aQ w t) Tryz.underlying28 (by kernel_rfl) (fun m hm cs x hh hz=>Bu m cs x hh hz) KB (z2 hz);subst q1 q2;simp only[List.cons.injEq,and_true] at q0;obtain⟨rfl,rfl,rfl⟩:=q0;exact⟨p,A1,Rs,l1,A2,Ru,l2,rfl,hE,hM,⟨Rt,fun p hp=>(OV p hp).1⟩,⟨Rv,Rw⟩⟩
theorem Bv {v:Value}{d:DataW H}{p:List MemPlace}(h:DataW.Trod enc Tryz.prog w base spare held 30 v d p) (hv:∃cs,v=.agg cs) (hz:dM Tryz.prog 30 d) :
  ∃(x:di) (P:Option Addr) (pc:Nat) (preds:List Pd) (L:Option Addr) (lc:Nat) (given:List Tm),v=.agg #[.slice x.D x.aA.length x.dc,.slice x.C x.af.length x.cc,.slice x.I x.insts.length x.ic,.slice P preds.length pc,.slice L given.length lc]∧dJ w x∧(∀c∈x.af,c.bf.length≤2000000000000)∧bg w P preds∧bm w L given:=by
 obtain⟨arr,rfl⟩:=hv;obtain⟨fuel,hf⟩:=h;obtain⟨x,P,pc,preds,L,lc,given,e,h1,h2,h3,h4⟩:=y8 fuel _ _ hf hz;refine⟨x,P,pc,preds,L,lc,given,?_,h1,h2,h3,h4⟩;have e1:arr.toList=[.slice x.D x.aA.length x.dc,.slice x.C x.af.length x.cc,.slice x.I x.insts.length x.ic,.slice P preds.length pc,.slice L given.length lc]:=by simpa [Value.cells] using e
 have e2:arr=([.slice x.D x.aA.length x.dc,.slice x.C x.af.length x.cc,.slice x.I x.insts.length x.ic,.slice P preds.length pc,.slice L given.length lc]:List Value).toArray:=by rw[←e1]
 rw[e2]
end
section
variable {H : Type}{enc:TypeId×Value→H}{w:World}{base:Nat}{spare:Nat→Bool}{held:Bool}
theorem y9 {α:Type}(C:fH α) (Q:α→Prop){t e:TypeId}(ht:Tryz.prog.underlying t=some (.slice e)) (hC:Tryz.prog.cellsOf e=C.k)
  (he:∀n cs x,DataW.trod enc Tryz.prog w base spare held n e cs=some x→dM Tryz.prog e x.1→∃a,cs=C.f a∧Q a)
  {v:Value}{d:DataW H}{p:List MemPlace}(h:DataW.Trod enc Tryz.prog w base spare held t v d p) (hv:∃a n c,v=.slice a n c) (hz:dM Tryz.prog t d) :
  ∃(A:Option Addr) (cap:Nat) (xs:List α),v=.slice A xs.length cap∧xs.length≤cap∧cap≤9223372036854775807∧ak C w A xs∧∀x∈xs,Q x:=by
 obtain⟨a,n,c,rfl⟩:=hv;obtain⟨fuel,hf'⟩:=h;have abm:DataW.trod enc Tryz.prog w base spare held fuel t [.slice a n c]=some (d,p):=by simpa [Value.cells] using hf'
 obtain⟨A,c',xs,e,h1,h2,h3,h4,-⟩:=bu C Q ht hC (fun m _ cs x hh=>he m cs x hh) abm hz;exact⟨A,c',xs,e,h1,h2,h3,h4⟩
theorem Bw {v:Value}{d:DataW H}{p:List MemPlace}(h:DataW.Trod enc Tryz.prog w base spare held 27 v d p) (hv:∃a n c,v=.slice a n c) (hz:dM Tryz.prog 27 d) :
  ∃(A:Option Addr) (cap:Nat) (l:List Pd),v=.slice A l.length cap∧l.length≤cap∧cap≤9223372036854775807∧bg w A l:=by
 obtain⟨A,cap,l,e,h1,h2,h3,h4⟩:=y9 j8 (fun t=>dH w t∧nK t.ty=true) Tryz.underlying27 (by kernel_rfl) (fun n cs x hh=>mN n cs x hh) h hv hz;exact⟨A,cap,l,e,h1,h2,⟨h3,fun x hx=>(h4 x hx).1⟩⟩
end
end Go.Proofs.YtigafbmabjglfaaGreatDoor
