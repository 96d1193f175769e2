import Derived.Test.YtigafbmabjglfaaGreatDoorJT33
import Derived.Test.YtigafbmabjglfaaGreatDoorRows
namespace Go.Proofs.YtigafbmabjglfaaGreatDoor
open Go.RowKit Go.ChangeShapes Go.WideShapes Go.Deep
section
variable {H : Type}
theorem zK (d:DataW H):1≤Rows.uptoBulk d:=by
 cases d with
 |lit l=>cases l<;>(unfold Rows.uptoBulk;omega)
 |_=>unfold Rows.uptoBulk;omega
theorem IV (es rest:List (DataW H)):Rows.uptoBulk (.slice es rest)=Rows.uptoBulkAll es+Rows.uptoBulkAll rest+1:=by rw[Rows.uptoBulk]
theorem PK (es:List (DataW H)):Rows.uptoBulk (.agg es)=Rows.uptoBulkAll es+1:=by rw[Rows.uptoBulk]
theorem zL : Rows.uptoBulkAll ([]:List (DataW H))=0:=by rw[Rows.uptoBulkAll]
theorem oP (d:DataW H) (r:List (DataW H)):Rows.uptoBulkAll (d :: r)=Rows.uptoBulk d+Rows.uptoBulkAll r:=by rw[Rows.uptoBulkAll]
theorem uU {d:DataW H}:∀ {l:List (DataW H)},d∈l→Rows.uptoBulk d≤Rows.uptoBulkAll l
 | [],h=>by cases h
 |x :: l,h=>by
  rw[oP]
  rcases List.mem_cons.1 h with rfl|h
  ·omega
  ·have:=uU h;omega
theorem IW {ds:List (DataW H)}(hk:Rows.uptoSmall H ds=true){d:DataW H}(h:d∈ds):Rows.uptoBulk d≤1048576:=aho (uU h) (of_decide_eq_true hk)
theorem IX {α:Type}(f:α→Nat) (k:Nat):∀(xs:List α) (es:List (DataW H)),es.length=xs.length→(∀(i:Nat) (x:α) (e:DataW H),xs[i]?=some x→es[i]?=some e→k*f x≤Rows.uptoBulk e)→k*(xs.map f).sum≤Rows.uptoBulkAll es
 | [],_,_,_=>by simp
 |x :: xs,[],h,_=>by simp at h
 |x :: xs,e :: es,h,hq=>by
  have h1:=hq 0 x e rfl rfl;have h2:=IX f k xs es (by simpa using h) (fun i x e hx he=>hq (i+1) x e hx he);rw[oP,List.map_cons,List.sum_cons,Nat.mul_add];omega
end
section
variable {H : Type}{enc:TypeId×Value→H}{P:Program}{w:World}{base:Nat}{spare:Nat→Bool}{held:Bool}
theorem ku {α:Type}(C:fq α) (Q:α→DataW H→Prop){t e:TypeId}(ht:P.underlying t=some (.slice e)) (hC:P.cellsOf e=C.k){fuel:Nat}{v:Value}{x:DataW H×List MemPlace}
  (he:∀n,n<fuel→∀cs x,DataW.trod enc P w base spare held n e cs=some x→cD P e x.1→∃a,cs=C.f a∧Q a x.1)
  (h:DataW.trod enc P w base spare held fuel t [v]=some x) (hz:cD P t x.1) :
  ∃(A:Option Addr) (c:Nat) (xs:List α),v=.slice A xs.length c∧xs.length≤c∧c≤9223372036854775807∧ak C w A xs ∧
   (∃es:List (DataW H),es.length=xs.length∧(∀(i:Nat) (x:α) (e:DataW H),xs[i]?=some x→es[i]?=some e→Q x e)∧Rows.uptoBulkAll es+1≤Rows.uptoBulk x.1)∧xs.length*P.bytesOf e≤reachBytes:=by
 rcases DataW.trod_slice ht h with ⟨hcs,hx0⟩|⟨a,len,cap,elems,rest,n,hn,hcs,hx,hb,hl,hm,hlen,Zt,-,-⟩
 ·simp at hcs;subst hcs;exact⟨none,0,[],rfl,ahi _,by omega,ak.nil C _ _,⟨[],rfl,by simp,by rw[zL];exact zK _⟩,by simp⟩
 ·simp at hcs;subst hcs;have hw:(x.1).weights P t=((elems.map (·.1)).length+(rest.map (·.1)).length)*P.bytesOf e :: (DataW.weightsAll P e (elems.map (·.1))++DataW.weightsAll P e (rest.map (·.1))):=by
   rw[hx];show DataW.weights P t (.slice _ _)=_;unfold DataW.weights;rw[ht]
  have hx1:x.1=.slice (elems.map (·.1)) (rest.map (·.1)):=by rw[hx]
  obtain⟨xs,OZ,hx2⟩:=uS (P:=fun i x=>w.cells? base (a.add (i*C.k)) C.k=some (C.f x)∧∀e,(elems.map (·.1))[i]?=some e→Q x e) len (fun i hi'=>by
   have h1:=Zt i hi';rw[ahw (by omega)] at h1;obtain⟨cs',h2,h3⟩:=Option.bind_eq_some_iff.1 h1;obtain⟨y,rfl,hy⟩:=he n (by omega) _ _ h3 (fun m hm=>hz m (by
    rw[hw];refine List.mem_cons_of_mem _ (List.mem_append.2 (.inl (gQ (List.mem_map.2 ⟨_,ahh (by omega),rfl⟩) hm)))))
   rw[hC] at h2;refine⟨y,h2,fun e' VM => ?_⟩;rw[List.getElem?_map,ahw (by omega)] at VM;injection VM with VM;rw[←VM];exact hy)
  subst OZ;refine⟨some a,cap,xs,rfl,hl,by unfold maxLen at hm;omega,Row.xy C.pos C.f C.hf xs (fun i hi=>by obtain⟨x,e,h1,-⟩:=hx2 i hi;exact⟨x,e,h1⟩),⟨elems.map (·.1),by rw[List.length_map,hlen],fun i x e hx he => ?_,?_⟩,?_⟩
  ·have hi:=(List.getElem?_eq_some_iff.1 hx).1;obtain⟨y,e1,-,h2⟩:=hx2 i hi;rw[hx] at e1;injection e1 with e1;rw[e1];exact h2 e he
  ·rw[hx1,IV];omega
  ·have:=hz _ (by rw[hw];exact List.mem_cons_self);rw[List.length_map,List.length_map,hlen] at this;exact aho (Nat.mul_le_mul_right _ (Nat.le_add_right _ _)) this
theorem nZ {t:TypeId}{fs:Array Field}{fuel:Nat}{cs:List Value}{x:DataW H×List MemPlace}(hs:P.underlying t=some (.struct fs)) (PC:oneCellFields P fs=true) (hC:P.cellsOf t=fs.size)
  (h:DataW.trod enc P w base spare held fuel t cs=some x) :
  cs.length=fs.size∧∃n,fuel=n+1∧∃ys:List (DataW H×List MemPlace),ys.length=fs.size∧Rows.uptoBulk x.1=Rows.uptoBulkAll (ys.map (·.1))+1∧∀(j:Nat) (f:Field),fs[j]?=some f→∃v y,cs[j]?=some v∧ys[j]?=some y∧DataW.trod enc P w base spare held n f.type [v]=some y∧(cD P t x.1→cD P f.type y.1):=by
 obtain⟨ys,n,hn,hx,hlen,PD,hf⟩:=DataW.trod_struct hs h;refine⟨by rw[hlen,hC],n,hn,ys,PD,by rw[hx,PK],fun j f hj => ?_⟩;obtain⟨ho,hk⟩:=hone_of PC j f hj;have xF:j<fs.size:=(Array.getElem?_eq_some_iff.1 hj).1;have hv:cs[j]?=some (cs[j]'(by omega)):=ahw (by omega);have h1:=hf j f hj;rw[ho,hk] at h1;have e1:(cs.drop j).take 1=[cs[j]'(by omega)]:=by rw[List.drop_eq_getElem_cons (by omega)];rfl
 rw[e1] at h1;refine⟨_,_,hv,ahw (by omega),h1.trans (ahw (by omega)),fun hz n hn=>hz n ?_⟩;rw[hx];unfold DataW.weights;rw[hs];exact DataW.weights_mem_each (j:=j) (t:=f.type) (by rw[List.getElem?_map,Array.getElem?_toList,hj];rfl) (by rw[List.getElem?_map,ahw (by omega)];rfl) n hn
end
section
variable {H : Type}{enc:TypeId×Value→H}{w:World}{base:Nat}{spare:Nat→Bool}{held:Bool}
theorem xB : ∀(fuel:Nat) (cs:List Value) (x:DataW H×List MemPlace),DataW.trod enc Tryz.prog w base spare held fuel 53 cs=some x→cD Tryz.prog 53 x.1→∃t:Ty,cs=cA.f t∧(aC w t∧jH t=true∧4*t.size≤Rows.uptoBulk x.1):=by
 intro fuel
 induction fuel using Nat.strongRecOn with
 |ind fuel IH=>
 intro cs x h hz;obtain⟨hl,n,hn,ys,PD,Zu,hf⟩:=nZ Tryz.underlying53 (by kernel_rfl) (by kernel_rfl) h;obtain⟨v0,y0,e0,f0,r0,z0⟩:=hf 0 _ rfl;obtain⟨v1,y1,e1,f1,r1,z1⟩:=hf 1 _ rfl;obtain⟨v2,y2,e2,f2,r2,z2⟩:=hf 2 _ rfl;obtain⟨s,q0,hs⟩:=cm Tryz.underlying9 _ _ _ r0 (z0 hz);obtain⟨a,q1,hi⟩:=dr Tryz.underlying3 _ _ _ r1;obtain⟨A,cp,ks,q2,k1,k2,k3,⟨es,k4,k5,k6⟩,k7⟩:=ku cA (fun t d=>aC w t∧jH t=true∧4*t.size≤Rows.uptoBulk d) Tryz.underlying31 (by kernel_rfl) (fun m hm cs x hh=>IH m (by omega) cs x hh) r2 (z2 hz);rw[show Tryz.prog.bytesOf 53=48 from by kernel_rfl] at k7;unfold reachBytes at k7;simp only[List.cons.injEq,and_true,kW] at q0 q1;subst q0 q1 q2;have hes:∀k∈ks,aC w k∧jH k=true:=fun k hk=>by
  obtain⟨i,hi,rfl⟩:=List.mem_iff_getElem.1 hk;have:=k5 i _ _ (ahw hi) (ahw (by omega));exact⟨this.1,this.2.1⟩
 have afM:=IX Ty.size 4 ks es k4 (fun i x e hx he=>(k5 i x e hx he).2.2);refine⟨.mk s a A cp ks,?_,aC.mk k1 k2 (aho hs (by decide)) k3 (fun k hk=>(hes k hk).1),IU (by omega) (fun k hk=>(hes k hk).2),?_⟩
 ·match cs,hl with
  | [a0,a1,a2],_=>
   simp only[ahq,ahr,Option.some.injEq] at e0 e1 e2;subst e0 e1 e2;rfl
 ·rw[Zu]
  match ys,PD with
  | [b0,b1,b2],_=>
   simp only[ahq,ahr,Option.some.injEq] at f0 f1 f2;subst f0 f1 f2;simp only[List.map_cons,List.map_nil,oP,zL];have g0:=zK b0.1;have g1:=zK b1.1;rw[Ty.size_eq];show 4*((ks.map Ty.size).sum+1)≤_;omega
theorem uV : ∀(fuel:Nat) (cs:List Value) (x:DataW H×List MemPlace),DataW.trod enc Tryz.prog w base spare held fuel 34 cs=some x→cD Tryz.prog 34 x.1→∃t:Pf,cs=pg.f t∧(bM w t∧gF t=true∧(Rows.uptoBulk x.1≤1048576→eB t=true)):=by
 intro fuel
 induction fuel using Nat.strongRecOn with
 |ind fuel IH=>
 intro cs x h hz;obtain⟨hl,n,hn,ys,PD,Zu,hf⟩:=nZ Tryz.underlying34 (by kernel_rfl) (by kernel_rfl) h;obtain⟨v0,y0,e0,f0,r0,z0⟩:=hf 0 _ rfl;obtain⟨v1,y1,e1,f1,r1,z1⟩:=hf 1 _ rfl;obtain⟨v2,y2,e2,f2,r2,z2⟩:=hf 2 _ rfl;obtain⟨v3,y3,e3,f3,r3,z3⟩:=hf 3 _ rfl;obtain⟨k,q0,-⟩:=dr Tryz.underlying3 _ _ _ r0;obtain⟨m,q1,-⟩:=dr Tryz.underlying3 _ _ _ r1;obtain⟨T,tc,ts,q2,b1,b2,b3,⟨es,b4,b5,b6⟩,b7⟩:=ku cA (fun t d=>aC w t∧jH t=true∧4*t.size≤Rows.uptoBulk d) Tryz.underlying31 (by kernel_rfl) (fun m hm cs x hh=>xB m cs x hh) r2 (z2 hz);rw[show Tryz.prog.bytesOf 53=48 from by kernel_rfl] at b7;unfold reachBytes at b7;obtain⟨A,cp,ks,q3,c1,c2,c3,⟨fs,c4,c5,c6⟩,-⟩:=ku pg (fun t d=>bM w t∧gF t=true∧(Rows.uptoBulk d≤1048576→eB t=true)) Tryz.underlying32 (by kernel_rfl) (fun m hm cs x hh=>IH m (by omega) cs x hh) r3 (z3 hz);simp only[List.cons.injEq,and_true] at q0 q1;subst q0 q1 q2 q3;have jb:∀i (hi:i<ts.length),aC w (ts[i]'hi)∧jH (ts[i]'hi)=true∧4*(ts[i]'hi).size≤Rows.uptoBulkAll es:=fun i hi=>by
  have:=b5 i _ _ (ahw hi) (ahw (by omega));exact⟨this.1,this.2.1,aho this.2.2 (uU (ahh (by omega)))⟩
 have iN:∀i (hi:i<ks.length),bM w (ks[i]'hi)∧gF (ks[i]'hi)=true∧(Rows.uptoBulkAll fs≤1048576→eB (ks[i]'hi)=true):=fun i hi=>by
  have:=c5 i _ _ (ahw hi) (ahw (by omega));exact⟨this.1,this.2.1,fun h=>this.2.2 (aho (uU (ahh (by omega))) h)⟩
 have hw:gF (.mk k m T tc ts A cp ks)=true:=by
  rw[wh,ahv,ahv];exact⟨⟨decide_eq_true (show ts.length≤3000000000000 by omega),List.all_eq_true.2 fun x hx=>by obtain⟨i,hi,rfl⟩:=List.mem_iff_getElem.1 hx;exact(jb i hi).2.1⟩,List.all_eq_true.2 fun x hx=>by obtain⟨i,hi,rfl⟩:=List.mem_iff_getElem.1 hx;exact(iN i hi).2.1⟩
 refine⟨.mk k m T tc ts A cp ks,?_,.mk ⟨b1,b2,c1,c2,⟨b3,fun x hx=>by obtain⟨i,hi,rfl⟩:=List.mem_iff_getElem.1 hx;exact(jb i hi).1⟩,c3⟩ (fun x hx=>by obtain⟨i,hi,rfl⟩:=List.mem_iff_getElem.1 hx;exact(iN i hi).1),hw,fun KF => ?_⟩
 ·match cs,hl with
  | [x0,x1,x2,x3],_=>
   simp only[ahq,ahr,Option.some.injEq] at e0 e1 e2 e3;subst e0 e1 e2 e3;rfl
 ·rw[Zu] at KF;have h2:Rows.uptoBulk y2.1+Rows.uptoBulk y3.1≤1048576:=by
   match ys,PD with
   | [d0,d1,d2,d3],_=>
    simp only[ahq,ahr,Option.some.injEq] at f0 f1 f2 f3;subst f0 f1 f2 f3;simp only[List.map_cons,List.map_nil,oP,zL] at KF;omega
  rw[sO,ahv,ahA,ahA];refine⟨fun x hx => ?_,fun x hx => ?_⟩
  ·obtain⟨i,hi,rfl⟩:=List.mem_iff_getElem.1 hx;exact decide_eq_true (show(ts[i]'hi).size≤900000 by have:=(jb i hi).2.2;omega)
  ·obtain⟨i,hi,rfl⟩:=List.mem_iff_getElem.1 hx;exact(iN i hi).2.2 (by omega)
theorem xC {v:Value}{d:DataW H}{p:List MemPlace}(h:DataW.Trod enc Tryz.prog w base spare held 34 v d p) (hv:∃cs,v=.agg cs) (hz:cD Tryz.prog 34 d) (hk:Rows.uptoBulk d≤1048576):∃t:Pf,v=cr t∧bM w t∧gF t=true∧eB t=true:=by
 obtain⟨arr,rfl⟩:=hv;obtain⟨fuel,hf⟩:=h;obtain⟨t,e,ht,hw,hs⟩:=uV fuel _ _ hf hz;refine⟨t,?_,ht,hw,hs hk⟩;have e1:arr.toList=pg.f t:=by simpa [Value.cells] using e
 have e2:arr=(pg.f t).toArray:=by rw[←e1]
 rw[e2];rfl
end
end Go.Proofs.YtigafbmabjglfaaGreatDoor
